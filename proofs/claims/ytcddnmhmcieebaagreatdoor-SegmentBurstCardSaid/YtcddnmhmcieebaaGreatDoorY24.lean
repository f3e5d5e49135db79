/- fst: Count, Longest, Greatest. -/
import Derived.Test.YtcddnmhmcieebaaGreatDoorFH
import Derived.Test.YtcddnmhmcieebaaGreatDoorTools
namespace Go.Proofs.YtcddnmhmcieebaaGreatDoor
open Go.RowKit
set_option linter.unusedSimpArgs false
set_option linter.unusedVariables false
set_option linter.unnecessarySimpa false
namespace Dw

def cntO (st : State) : Int := if st.final then 1 else 0
def cntW (x c : Int) (_ : Nat) : Int := min (x + c) 100001
def cntV (ss : List State) : Int := (foundV 0 cntO cntW ss).getLastD 0
def lngO (st : State) : Int := if st.final then 0 else -1
def lngV (ss : List State) : Int := (foundV 0 lngO (fun x c _ => lngW x c) ss).getLastD 0
def gtO (st : State) : Most := ⟨st.out, true, st.final⟩
def gtW (x c : Most) (u : Nat) : Most := x.or ⟨(c.n + u) % M64, c.fits && decide (c.n + u < M64), c.any⟩
def gtV (ss : List State) : Most := (foundV ⟨0, false, false⟩ gtO gtW ss).getLastD ⟨0, false, false⟩
def gtst (ss : List State) (init : Nat) : Bool := (gtV ss).any && ((gtV ss).fits && decide ((gtV ss).n + init < M64) && decide (((gtV ss).n + init) % M64 ≤ 4294967296))
theorem last_ok {α : Type} {z : α} {o : State → α} {wi : α → α → Nat → α} {ss : List State} {Ok : Nat → α → Prop} (ho : ∀ i st, ss[i]? = some st → Ok i (o st)) (hw : ∀ i j x c u, Ok i x → j < i → Ok j c → u < 18446744073709551616 → Ok i (wi x c u))
    (hok : ∀ s ∈ ss, okS s) (hfm : ∀ (k : Nat) (st : State), ss[k]? = some st → okArcs k (-1) st.arcs = true) (hz : Ok 0 z) : ∃ i, Ok i ((foundV z o wi ss).getLastD z) := by
  rw [List.getLastD_eq_getLast?]
  cases h : (foundV z o wi ss).getLast? with
  | none => exact ⟨0, hz⟩
  | some x =>
    rw [List.getLast?_eq_getElem?] at h
    refine ⟨_, found_ok (z := z) ho hw hok hfm ss.length (Nat.le_refl _) ((foundV z o wi ss).length - 1) x ?_⟩
    rw [List.take_length]
    exact h
def cntOk (_ : Nat) (x : Int) : Prop := 0 ≤ x ∧ x ≤ 100001
theorem cnt_o (ss : List State) : ∀ i st, ss[i]? = some st → cntOk i (cntO st) := fun i st _ => by unfold cntOk cntO; split <;> omega
theorem cnt_w : ∀ (i j : Nat) (x c : Int) (u : Nat), cntOk i x → j < i → cntOk j c → u < 18446744073709551616 → cntOk i (cntW x c u) := fun i j x c u h1 _ h2 _ => by unfold cntOk cntW at *; omega
def lngOk (i : Nat) (x : Int) : Prop := -1 ≤ x ∧ x ≤ i ∧ i ≤ 1000000
theorem lng_o (ss : List State) (hlen : ss.length ≤ 1000000) : ∀ i st, ss[i]? = some st → lngOk i (lngO st) := fun i st h => by have := (List.getElem?_eq_some_iff.1 h).1; unfold lngOk lngO; split <;> omega
theorem lng_w : ∀ (i j : Nat) (x c : Int) (u : Nat), lngOk i x → j < i → lngOk j c → u < 18446744073709551616 → lngOk i (lngW x c) := fun i j x c u h1 h3 h2 _ => by unfold lngOk lngW at *; split <;> omega
def gtOk (_ : Nat) (m : Most) : Prop := m.n < M64
theorem gt_o (ss : List State) (hok : ∀ s ∈ ss, okS s) : ∀ i st, ss[i]? = some st → gtOk i (gtO st) := fun i st h => (hok _ (List.mem_of_getElem? h)).1
theorem gt_w : ∀ (i j : Nat) (x c : Most) (u : Nat), gtOk i x → j < i → gtOk j c → u < 18446744073709551616 → gtOk i (gtW x c u) := fun i j x c u h1 _ h2 _ => by
  unfold gtOk gtW Most.or M64 at *
  split
  · split
    · simp only; omega
    · simp only; omega
  · exact h1
theorem cntV_ok (ss : List State) (hlen : ss.length ≤ 1000000) (hok : ∀ s ∈ ss, okS s) (hfm : ∀ (k : Nat) (st : State), ss[k]? = some st → okArcs k (-1) st.arcs = true) : 0 ≤ cntV ss ∧ cntV ss ≤ 100001 := by
  obtain ⟨i, h⟩ := last_ok (cnt_o ss) cnt_w hok hfm (z := 0) (by unfold cntOk; omega)
  exact h
theorem gtV_ok (ss : List State) (hlen : ss.length ≤ 1000000) (hok : ∀ s ∈ ss, okS s) (hfm : ∀ (k : Nat) (st : State), ss[k]? = some st → okArcs k (-1) st.arcs = true) : (gtV ss).n < M64 := by
  obtain ⟨i, h⟩ := last_ok (gt_o ss hok) gt_w hok hfm (z := ⟨0, false, false⟩) (by unfold gtOk M64; simp only; omega)
  exact h
theorem fcount (w : World) (sv : Value) (init : Nat) (ss : List State) (hrs : RS w sv ss) (hlen : ss.length ≤ 1000000) (hok : ∀ s ∈ ss, okS s) (hfm : ∀ (k : Nat) (st : State), ss[k]? = some st → okArcs k (-1) st.arcs = true) : Calls Tryz.prog 105 #[.agg #[sv, .int .u64 init], .func (.func 106) #[] #[], .func (.func 107) #[] #[]] w fun e w1 => e = .returned (.int .i64 (cntV ss)) ∧ Below w.heap.size w w1 := by
  refine found105 cntO cntW w sv init ss hrs hlen cntOk (enters_of Tryz.func106 (by kernel_rfl) rfl) (enters_of Tryz.func107 (by kernel_rfl) rfl) (cnt_o ss) cnt_w hok hfm ?_ ?_
  · intro W av i st _ hav
    unfold cntO
    cases hfin : st.final with
    | false => exact cnt1f W av st.out hav
    | true => exact cnt1t W av st.out hav
  · intro W i j x c u h1 _ h2 _
    obtain ⟨a, rfl⟩ := Int.eq_ofNat_of_zero_le h1.1
    obtain ⟨b, rfl⟩ := Int.eq_ofNat_of_zero_le h2.1
    have h3 := h1.2
    have h4 := h2.2
    refine (cnt2 W a b (.int .u64 u) (by omega) (by omega)).mono ?_
    rintro e w2 ⟨rfl, rfl⟩
    exact ⟨by unfold cntW; congr 2; omega, Below.refl _ _⟩
theorem flng (w : World) (sv : Value) (init : Nat) (ss : List State) (hrs : RS w sv ss) (hlen : ss.length ≤ 1000000) (hok : ∀ s ∈ ss, okS s) (hfm : ∀ (k : Nat) (st : State), ss[k]? = some st → okArcs k (-1) st.arcs = true) : Calls Tryz.prog 105 #[.agg #[sv, .int .u64 init], .func (.func 108) #[] #[], .func (.func 109) #[] #[]] w fun e w1 => e = .returned (.int .i64 (lngV ss)) ∧ Below w.heap.size w w1 := by
  refine found105 lngO (fun x c _ => lngW x c) w sv init ss hrs hlen lngOk (enters_of Tryz.func108 (by kernel_rfl) rfl) (enters_of Tryz.func109 (by kernel_rfl) rfl) (lng_o ss hlen) lng_w hok hfm ?_ ?_
  · intro W av i st _ hav
    unfold lngO
    cases hfin : st.final with
    | false => exact lng1f W av st.out hav
    | true => exact lng1t W av st.out hav
  · intro W i j x c u h1 _ h2 _
    unfold lngOk at h1 h2
    rcases Int.lt_or_le c 0 with h | h
    · refine (lng2n W x c (.int .u64 u) (by omega) (by omega) h).mono ?_
      rintro e w2 ⟨rfl, rfl⟩
      exact ⟨rfl, Below.refl _ _⟩
    · refine (lng2p W x c (.int .u64 u) (by omega) (by omega) h).mono ?_
      rintro e w2 ⟨rfl, rfl⟩
      exact ⟨rfl, Below.refl _ _⟩
theorem fmost (w : World) (sv : Value) (init : Nat) (ss : List State) (hrs : RS w sv ss) (hlen : ss.length ≤ 1000000) (hok : ∀ s ∈ ss, okS s) (hfm : ∀ (k : Nat) (st : State), ss[k]? = some st → okArcs k (-1) st.arcs = true) : Calls Tryz.prog 110 #[.agg #[sv, .int .u64 init], .func (.func 111) #[] #[], .func (.func 112) #[] #[]] w fun e w1 => e = .returned (gtV ss).val ∧ Below w.heap.size w w1 := by
  refine found110 gtO gtW w sv init ss hrs hlen gtOk (enters_of Tryz.func111 (by kernel_rfl) rfl) (enters_of Tryz.func112 (by kernel_rfl) rfl) (gt_o ss hok) gt_w hok hfm ?_ ?_
  · intro W av i st _ hav
    exact grt1 W av st.final st.out hav
  · rintro W i j ⟨n, fm, am⟩ ⟨k, fx, ax⟩ u _ _ h2 hu
    exact grt2 W n k u fm fx am ax h2 hu
set_option maxHeartbeats 4000000 in
set_option maxRecDepth 100000 in
theorem count67 (w : World) (sv : Value) (init : Nat) (ss : List State) (hrs : RS w sv ss) (hlen : ss.length ≤ 1000000) (hok : ∀ s ∈ ss, okS s) (hfm : ∀ (k : Nat) (st : State), ss[k]? = some st → okArcs k (-1) st.arcs = true) : Calls Tryz.prog 67 #[.agg #[sv, .int .u64 init]] w fun e w1 => e = .returned (.tuple #[.int .i64 (if 100000 < cntV ss then 0 else cntV ss), .bool (decide (cntV ss ≤ 100000))]) ∧ Below w.heap.size w w1 := by
 refine Zn1 10 Tryz.func67 fun fr hf s0 => ?_
 obtain ⟨A, cc, rfl, hcc⟩ := hrs.form
 obtain ⟨hc0, hc1⟩ := cntV_ok ss hlen hok hfm
 refine Ze fun _ hK1 => ?_
 refine Zr [] hf ?_
 refine Zq1 1 hf ?_
 clear hf s0; intro fr1 hf s1
 obtain ⟨W0, hW0⟩ : ∃ W0, w.alloc (.cells #[.slice A ss.length cc, .int .u64 init] 38) = W0 := ⟨_, rfl⟩
 try rw [hW0]
 obtain ⟨hb0, c0, c1, -, -⟩ := box2 hW0
 clear hW0
 replace hrs := hrs.later hb0
 refine Zt hK1 fun _ hK2 => ?_
 have bB := hf.B2 5 6
 refine Za ?_
 refine fp fun K Z => ?_
 go_simp
 go_at_call 105; refine (fcount W0 _ init ss hrs hlen hok hfm).mono ?_; rintro e w1 ⟨rfl, hb1⟩
 obtain ⟨n, hn⟩ : ∃ x, cntV ss = x := ⟨_, rfl⟩
 rw [hn] at hc0 hc1 ⊢
 have HN := Lib.hid hn
 have hb := hb0.trans (hb1.mono hb0.size)
 clear hrs hn c0 c1 hb0 hb1
 try dsimp only
 apply Z.out; clear Z K
 refine Za ?_
 refine Fact.nil (Zq1 4 hf ?_)
 clear hf s1 bB; intro fr1 hf s4
 refine Zs hK2 fun _ hK3 => ?_
 refine Ze fun _ hK4 => ?_
 refine Zr [7] hf ?_
 refine Zq2 4 8 hf ?_
 clear hf s4; intro fr1 hf sS
 refine Zx hK4 ?_
 refine Fact.cond_s sS.2 (fun hq => ?_) (fun hq => ?_)
 · (
 have h9 := of_decide_eq_true hq
 clear hq
 refine Ze fun _ hK5 => ?_
 refine Zr [] hf ?_
 refine Zq2 2 3 hf ?_
 clear hf sS; intro fr1 hf sS
 refine Zx hK5 ?_
 refine Zret ?_
 exact Fact.ret2 rfl hf sS.1 sS.2 ⟨by rw [HN.out, if_pos (by omega), decide_eq_false (by omega)], hb⟩)
 · (
 have h9 := of_decide_eq_false hq
 clear hq
 refine wp_skip ?_
 refine Zs hK3 fun _ hK6 => ?_
 refine Zr [9] hf ?_
 refine Zq2 2 3 hf ?_
 clear hf sS; intro fr1 hf sS
 refine Zx hK6 ?_
 refine Zret ?_
 exact Fact.ret2 rfl hf sS.1 sS.2 ⟨by rw [HN.out, if_neg (by omega), decide_eq_true (by omega)], hb⟩)
set_option maxHeartbeats 4000000 in
set_option maxRecDepth 100000 in
theorem longest69 (w : World) (sv : Value) (init : Nat) (ss : List State) (hrs : RS w sv ss) (hlen : ss.length ≤ 1000000) (hok : ∀ s ∈ ss, okS s) (hfm : ∀ (k : Nat) (st : State), ss[k]? = some st → okArcs k (-1) st.arcs = true) (h0 : 0 < ss.length) : Calls Tryz.prog 69 #[.agg #[sv, .int .u64 init]] w fun e w1 => e = .returned (.int .i64 (lngV ss)) ∧ Below w.heap.size w w1 := by
 refine Zn1 9 Tryz.func69 fun fr hf s0 => ?_
 obtain ⟨A, cc, rfl, hcc⟩ := hrs.form
 have q1 : ((ss.length : Int) == 0) = false := beq_eq_false_iff_ne.2 (by omega)
 refine Ze fun _ hK1 => ?_
 refine Zr [] hf ?_
 refine Zq1 1 hf ?_
 clear hf s0; intro fr1 hf s1
 obtain ⟨W0, hW0⟩ : ∃ W0, w.alloc (.cells #[.slice A ss.length cc, .int .u64 init] 38) = W0 := ⟨_, rfl⟩
 try rw [hW0]
 obtain ⟨hb0, c0, c1, -, -⟩ := box2 hW0
 clear hW0
 replace hrs := hrs.later hb0
 refine Zs hK1 fun _ hK2 => ?_
 refine Ze fun _ hK3 => ?_
 refine Zr [3, 4, 5] hf ?_
 refine Zq2 1 6 hf ?_
 clear hf s1; intro fr1 hf sS
 refine Zx hK3 ?_
 refine Fact.cond_f sS.2 ?_
 clear q1
 refine wp_skip ?_
 refine Zt hK2 fun _ hK4 => ?_
 have bB := hf.B2 7 8
 refine Za ?_
 refine fp fun K Z => ?_
 go_simp
 go_at_call 105; refine (flng W0 _ init ss hrs hlen hok hfm).mono ?_; rintro e w1 ⟨rfl, hb1⟩
 have hb := hb0.trans (hb1.mono hb0.size)
 clear hrs c0 c1 hb0 hb1
 try dsimp only
 apply Z.out; clear Z K
 refine Za ?_
 refine Fact.nil (Zq1 2 hf ?_)
 clear hf sS bB; intro fr1 hf s2
 refine Zx hK4 ?_
 refine Zret ?_
 exact Fact.ret1 rfl hf s2 ⟨rfl, hb⟩
set_option maxHeartbeats 4000000 in
set_option maxRecDepth 100000 in
theorem greatest72 (w : World) (sv : Value) (init : Nat) (ss : List State) (hrs : RS w sv ss) (hlen : ss.length ≤ 1000000) (hok : ∀ s ∈ ss, okS s) (hfm : ∀ (k : Nat) (st : State), ss[k]? = some st → okArcs k (-1) st.arcs = true) (hin : init < M64) : Calls Tryz.prog 72 #[.agg #[sv, .int .u64 init]] w fun e w1 => (∃ v, e = .returned (.tuple #[v, .bool (gtst ss init)])) ∧ Below w.heap.size w w1 := by
 refine Zn1 25 Tryz.func72 fun fr hf s0 => ?_
 obtain ⟨A, cc, rfl, hcc⟩ := hrs.form
 have hgm := gtV_ok ss hlen hok hfm
 refine Ze fun _ hK1 => ?_
 refine Zr [] hf ?_
 refine Zq1 1 hf ?_
 clear hf s0; intro fr1 hf s1
 obtain ⟨W0, hW0⟩ : ∃ W0, w.alloc (.cells #[.slice A ss.length cc, .int .u64 init] 38) = W0 := ⟨_, rfl⟩
 try rw [hW0]
 obtain ⟨hb0, c0, c1, -, -⟩ := box2 hW0
 clear hW0
 replace hrs := hrs.later hb0
 refine Zt hK1 fun _ hK2 => ?_
 have bB := hf.B3 5 6 4
 refine Za ?_
 refine fp fun K Z => ?_
 go_simp
 go_at_call 110; refine (fmost W0 _ init ss hrs hlen hok hfm).mono ?_; rintro e w1 ⟨rfl, hb1⟩
 obtain ⟨⟨n, ft, an⟩, hn⟩ : ∃ x, gtV ss = x := ⟨_, rfl⟩
 rw [hn] at hgm ⊢
 have HG := Lib.hid (show gtst ss init = (an && (ft && decide (n + init < M64) && decide ((n + init) % M64 ≤ 4294967296))) by unfold gtst; rw [hn])
 simp only [Most.val]
 replace c1 := cL hb1 c1
 have hb := hb0.trans (hb1.mono hb0.size)
 clear hrs hn c0 hb0 hb1
 try dsimp only
 apply Z.out; clear Z K
 iterate 2 refine Za ?_
 refine Fact.nil (Zq2 1 4 hf ?_)
 clear hf s1 bB; intro fr1 hf sS
 obtain ⟨W2, hW2⟩ : ∃ x, w1.alloc (.cells #[.int .u64 n, .bool ft, .bool an] 192) = x := ⟨_, rfl⟩
 rw [hW2]
 obtain ⟨hb2, m0, m1, m2, hm, -⟩ := box3 hW2
 obtain ⟨g, hg⟩ : ∃ x, w1.heap.size = x := ⟨_, rfl⟩
 have hwg : w.heap.size ≤ g := by rw [← hg]; exact hb.size
 replace c1 := cL hb2 c1
 replace hb := hb.trans (hb2.mono hb.size)
 obtain ⟨s1, s4⟩ := sS
 rw [hg] at m0 m1 m2 hm s4
 clear hW2 hb2 hg
 refine Zs hK2 fun _ hK3 => ?_
 refine Ze fun _ hK4 => rg ?_
 have bB := hf.B6 7 8 9 10 11 12
 iterate 4 refine Za ?_
 refine fp fun K Z => ?_
 go_simp
 go_at_call 113; refine (and113 W2 n init ft hgm hin).mono ?_; rintro e w3 ⟨rfl, hb3⟩
 obtain ⟨sm, hsm⟩ : ∃ x, (n + init) % M64 = x := ⟨_, rfl⟩
 obtain ⟨sf, hsf⟩ : ∃ x, (ft && decide (n + init < M64)) = x := ⟨_, rfl⟩
 rw [hsm, hsf]
 replace hm := (hb3.block _ (heap_lt hm)).trans hm
 replace hb := hb.trans (hb3.mono hb.size)
 replace m0 := cL hb3 m0
 replace m1 := cL hb3 m1
 replace m2 := cL hb3 m2
 have f0 := frozen_of (i := 0) hm; have f1 := frozen_of (i := 1) hm
 clear hb3 c1
 try dsimp only
 apply Z.out; clear Z K
 iterate 2 refine Za ?_
 refine Fact.nil (Zq1 4 hf ?_)
 clear hf s1 s4 bB; intro fr1 hf s4
 obtain ⟨W4, hW4⟩ : ∃ x, (w3.setCell ⟨g, 0, none⟩ (.int .u64 sm)).setCell ⟨g, 1, none⟩ (.bool sf) = x := ⟨_, rfl⟩
 rw [hW4]
 replace hm : W4.heap[g]? = some (.cells #[.int .u64 sm, .bool sf, .bool an] 192 (0, 0)) := by rw [← hW4]; exact (set_block (set_block hm _) _).trans (by simp)
 replace hb := (hb.setCell (p := ⟨g, 0, none⟩) hwg (.int .u64 sm)).setCell (p := ⟨g, 1, none⟩) hwg (.bool sf); rw [hW4] at hb
 clear m0 m1 m2 f0 f1 hW4
 have m0 := cell_of_row _ _ 0 _ 192 (0, 0) hm; have m1 := cell_of_row _ _ 1 _ 192 (0, 0) hm; have m2 := cell_of_row _ _ 2 _ 192 (0, 0) hm
 simp at m0 m1 m2
 refine Zx hK4 ?_
 rcases han : an with _ | _
 · (
 refine Ze fun _ hK5 => ?_
 refine Zr [13, 14, 15, 16, 17, 18, 19, 20] hf ?_
 refine Zq2 4 21 hf ?_
 clear hf s4; intro fr1 hf sS
 refine Zx hK5 ?_
 refine Fact.cond_t sS.2 ?_
 refine Ze fun _ hK6 => ?_
 refine Zr [] hf ?_
 refine Zq2 2 3 hf ?_
 clear hf sS; intro fr1 hf sS
 refine Zx hK6 ?_
 refine Zret ?_
 exact Fact.ret2 rfl hf sS.1 sS.2 ⟨⟨_, by rw [HG.out, han]; rfl⟩, hb⟩)
 · (
 refine Ze fun _ hK7 => rg ?_
 have bB := hf.B8 13 14 15 16 17 18 19 20
 iterate 4 refine Za ?_
 iterate 2 refine Zg ?_
 refine og 3 16 false ?_ fun K Z => ?_
 · (
 simp (decide := true) only [Fact.G, reduceIte, hf.size])
 go_simp
 go_at_call 115; refine (is115 W4 sm sf).mono ?_; rintro e w5 ⟨rfl, hb5⟩
 obtain ⟨is, hi⟩ : ∃ x, (sf && decide (sm ≤ 4294967296)) = x := ⟨_, rfl⟩
 rw [hi]
 replace hb := hb.trans (hb5.mono hb.size)
 replace m0 := cL hb5 m0
 try dsimp only
 apply Z.out; clear Z K
 refine Zg ?_
 refine Za ?_
 refine Fact.nil (Zq2 4 21 hf ?_)
 clear hf s4 bB; intro fr1 hf sS
 refine Zx hK7 ?_
 refine Fact.cond_s sS.2 (fun hq => ?_) (fun hq => ?_)
 · (
 have hi2 : is = false := by simpa using hq
 clear hq
 subst hi2
 refine Ze fun _ hK8 => ?_
 refine Zr [] hf ?_
 refine Zq2 2 3 hf ?_
 clear hf sS; intro fr1 hf sS
 refine Zx hK8 ?_
 refine Zret ?_
 exact Fact.ret2 rfl hf sS.1 sS.2 ⟨⟨_, by rw [HG.out, han, hsm, hsf, hi]; rfl⟩, hb⟩)
 · (
 have hi2 : is = true := by simpa using hq
 clear hq
 subst hi2
 refine wp_skip ?_
 refine Zs hK3 fun _ hK9 => ?_
 refine Zr [22, 23, 24] hf ?_
 refine Zq2 2 3 hf ?_
 clear hf sS; intro fr1 hf sS
 refine Zx hK9 ?_
 refine Zret ?_
 exact Fact.ret2 rfl hf sS.1 sS.2 ⟨⟨_, by rw [HG.out, han, hsm, hsf, hi]; rfl⟩, hb⟩))
end Dw
end Go.Proofs.YtcddnmhmcieebaaGreatDoor

namespace Go.Proofs.YtcddnmhmcieebaaGreatDoor
open Go.RowKit
set_option linter.unusedSimpArgs false
set_option linter.unusedVariables false
set_option linter.unnecessarySimpa false
namespace Dw

theorem rightF_formed {ss : List State} {init : Nat} (h : rightF ss init = true) : formedF ss = true := by
  unfold rightF at h
  cases hf : formedF ss with
  | true => rfl
  | false => rw [hf] at h; simp at h
def askC (ss : List State) (en : Int) : Bool := decide (cntV ss ≤ 100000) && decide (cntV ss = en) && decide (0 < cntV ss)
def lastS (ss : List State) : Bool := (ss.getLast?.map State.final).getD false
set_option maxHeartbeats 4000000 in
set_option maxRecDepth 100000 in
theorem ask1 (w : World) (p : Nat) (sv : Value) (init : Nat) (ss : List State) (c0 : w.cell? ⟨p, 0, none⟩ = some sv) (c1 : w.cell? ⟨p, 1, none⟩ = some (.int .u64 init)) (hrs : RS w sv ss) (hlen : ss.length ≤ 1000000) (hok : ∀ s ∈ ss, okS s) : Calls Tryz.prog 64 #[.pointer (some ⟨p, 0, none⟩)] w fun e w1 => e = .returned (.bool (rightF ss init)) ∧ Below w.heap.size w w1 := by
 refine Zn1 4 Tryz.func64 fun fr hf s0 => ?_
 obtain ⟨A, cc, rfl, hcc⟩ := hrs.form
 refine Ze fun _ hK1 => ?_
 refine Zr [] hf ?_
 refine Zq1 0 hf ?_
 clear hf s0; intro fr1 hf s0
 refine Zt hK1 fun _ hK2 => ?_
 have bB := hf.B2 2 3
 refine Za ?_
 refine fp fun K Z => ?_
 go_simp
 go_at_call 65; refine (right9 w _ init ss hrs hok hlen).mono ?_; rintro e w1 ⟨rfl, hb1⟩
 try dsimp only
 apply Z.out; clear Z K
 refine Za ?_
 refine Fact.nil (Zq1 1 hf ?_)
 clear hf s0 bB; intro fr1 hf s1
 refine Zx hK2 ?_
 refine Zret ?_
 exact Fact.ret1 rfl hf s1 ⟨rfl, hb1⟩
set_option maxHeartbeats 4000000 in
set_option maxRecDepth 100000 in
theorem ask2 (w : World) (p : Nat) (sv : Value) (init : Nat) (ss : List State) (c0 : w.cell? ⟨p, 0, none⟩ = some sv) (c1 : w.cell? ⟨p, 1, none⟩ = some (.int .u64 init)) (hrs : RS w sv ss) (hlen : ss.length ≤ 1000000) (hok : ∀ s ∈ ss, okS s) (h0 : rightF ss init = true) (pn : Nat) (en : Int) (n0 : w.cell? ⟨pn, 0, none⟩ = some (.int .i64 en)) : Calls Tryz.prog 66 #[.pointer (some ⟨p, 0, none⟩), .pointer (some ⟨pn, 0, none⟩)] w fun e w1 => e = .returned (.bool (askC ss en)) ∧ Below w.heap.size w w1 := by
 refine Zn2 20 Tryz.func66 fun fr hf s0 s1 => ?_
 obtain ⟨A, cc, rfl, hcc⟩ := hrs.form
 have hfm : ∀ (k : Nat) (st : State), ss[k]? = some st → okArcs k (-1) st.arcs = true := fun k st hk => formed_at (rightF_formed h0) hk
 obtain ⟨hc0, hc1⟩ := cntV_ok ss hlen hok hfm
 refine Ze fun _ hK1 => ?_
 refine Zr [] hf ?_
 refine Zq2 0 1 hf ?_
 clear hf s0 s1; intro fr1 hf sS
 refine Zt hK1 fun _ hK2 => ?_
 have bB := hf.B5 6 7 5 8 9
 refine Za ?_
 refine fp fun K Z => ?_
 go_simp
 go_at_call 67; refine (count67 w _ init ss hrs hlen hok hfm).mono ?_; rintro e w1 ⟨rfl, hb1⟩
 obtain ⟨n, hn⟩ : ∃ x, cntV ss = x := ⟨_, rfl⟩
 rw [hn] at hc0 hc1 ⊢
 have HN := Lib.hid hn
 replace n0 := cL hb1 n0
 clear hn c0 c1 hrs
 try dsimp only
 apply Z.out; clear Z K
 iterate 5 refine Za ?_
 refine Fact.nil (Zq3 1 3 4 hf ?_)
 clear hf sS bB; intro fr1 hf sS
 refine Zx hK2 ?_
 rcases Int.lt_or_le 100000 n with hlt | hlt
 · (
 have q1 : decide (n ≤ 100000) = false := decide_eq_false (by omega)
 have q2 : (if (100000 : Int) < n then (0 : Int) else n) = 0 := if_pos (by omega)
 obtain ⟨s1, s3, s4⟩ := sS
 rw [q1] at s4
 rw [q2] at s3
 refine Ze fun _ hK3 => ?_
 refine Zr [10, 11, 12, 13, 14, 15, 16, 17, 18, 19] hf ?_
 refine Zq1 2 hf ?_
 clear hf s1 s3 s4; intro fr1 hf s2
 refine Zx hK3 ?_
 refine Zret ?_
 exact Fact.ret1 rfl hf s2 ⟨by unfold askC; rw [HN.out, q1]; rfl, hb1⟩)
 · (
 have q1 : decide (n ≤ 100000) = true := decide_eq_true (by omega)
 have q2 : (if (100000 : Int) < n then (0 : Int) else n) = n := if_neg (by omega)
 obtain ⟨s1, s3, s4⟩ := sS
 rw [q1] at s4
 rw [q2] at s3
 rcases Classical.em (n = en) with hne | hne
 · (
 have q3 : (n == en) = true := beq_iff_eq.2 hne
 refine Ze fun _ hK4 => rg ?_
 have bB := hf.B10 10 11 12 13 14 15 16 17 18 19
 iterate 2 refine Za ?_
 refine Zg ?_ (hv := by simp (decide := true) only [Fact.G, reduceIte, hf.size, q3])
 refine Zg ?_ (hv := by simp (decide := true) only [Fact.G, reduceIte, hf.size, q3])
 refine Zg ?_ (hv := by simp (decide := true) only [Fact.G, reduceIte, hf.size, q3])
 iterate 2 refine Za ?_
 refine Zg ?_ (hv := by simp (decide := true) only [Fact.G, reduceIte, hf.size, q3])
 refine Zg ?_ (hv := by simp (decide := true) only [Fact.G, reduceIte, hf.size, q3])
 iterate 2 refine Za ?_
 refine Fact.nil (Zq1 2 hf ?_)
 clear hf s1 s3 s4 bB; intro fr1 hf s2
 refine Zx hK4 ?_
 refine Zret ?_
 exact Fact.ret1 rfl hf s2 ⟨by unfold askC; rw [HN.out, q1, decide_eq_true hne, hne]; rfl, hb1⟩)
 · (
 have q3 : (n == en) = false := beq_eq_false_iff_ne.2 hne
 refine Ze fun _ hK5 => rg ?_
 have bB := hf.B10 10 11 12 13 14 15 16 17 18 19
 iterate 2 refine Za ?_
 refine Zg ?_ (hv := by simp (decide := true) only [Fact.G, reduceIte, hf.size, q3])
 refine Zg ?_ (hv := by simp (decide := true) only [Fact.G, reduceIte, hf.size, q3])
 refine Zg ?_ (hv := by simp (decide := true) only [Fact.G, reduceIte, hf.size, q3])
 iterate 2 refine Za ?_
 refine Zk ?_ (hv := by simp (decide := true) only [Fact.G, reduceIte, hf.size, Fact.N, q3])
 refine Zk ?_ (hv := by simp (decide := true) only [Fact.G, reduceIte, hf.size, Fact.N, q3])
 iterate 2 refine Za ?_
 refine Fact.nil (Zq1 2 hf ?_)
 clear hf s1 s3 s4 bB; intro fr1 hf s2
 refine Zx hK5 ?_
 refine Zret ?_
 exact Fact.ret1 rfl hf s2 ⟨by unfold askC; rw [HN.out, q1, decide_eq_false hne]; rfl, hb1⟩))
set_option maxHeartbeats 4000000 in
set_option maxRecDepth 100000 in
theorem ask3 (w : World) (p : Nat) (sv : Value) (init : Nat) (ss : List State) (c0 : w.cell? ⟨p, 0, none⟩ = some sv) (c1 : w.cell? ⟨p, 1, none⟩ = some (.int .u64 init)) (hrs : RS w sv ss) (hlen : ss.length ≤ 1000000) (hok : ∀ s ∈ ss, okS s) (h0 : rightF ss init = true) : Calls Tryz.prog 68 #[.pointer (some ⟨p, 0, none⟩)] w fun e w1 => e = .returned (.bool (decide (lngV ss ≤ 255))) ∧ Below w.heap.size w w1 := by
 refine Zn1 5 Tryz.func68 fun fr hf s0 => ?_
 obtain ⟨A, cc, rfl, hcc⟩ := hrs.form
 have hfm : ∀ (k : Nat) (st : State), ss[k]? = some st → okArcs k (-1) st.arcs = true := fun k st hk => formed_at (rightF_formed h0) hk
 have hp := formed_pos (rightF_formed h0)
 refine Ze fun _ hK1 => ?_
 refine Zr [] hf ?_
 refine Zq1 0 hf ?_
 clear hf s0; intro fr1 hf s0
 refine Zt hK1 fun _ hK2 => ?_
 have bB := hf.B3 2 3 4
 refine Za ?_
 refine fp fun K Z => ?_
 go_simp
 go_at_call 69; refine (longest69 w _ init ss hrs hlen hok hfm hp).mono ?_; rintro e w1 ⟨rfl, hb1⟩
 try dsimp only
 apply Z.out; clear Z K
 iterate 2 refine Za ?_
 refine Fact.nil (Zq1 1 hf ?_)
 clear hf s0 bB; intro fr1 hf s1
 refine Zx hK2 ?_
 refine Zret ?_
 exact Fact.ret1 rfl hf s1 ⟨rfl, hb1⟩
set_option maxHeartbeats 4000000 in
set_option maxRecDepth 100000 in
theorem ask4 (w : World) (p : Nat) (sv : Value) (init : Nat) (ss : List State) (c0 : w.cell? ⟨p, 0, none⟩ = some sv) (c1 : w.cell? ⟨p, 1, none⟩ = some (.int .u64 init)) (hrs : RS w sv ss) (hlen : ss.length ≤ 1000000) (hok : ∀ s ∈ ss, okS s) (h0 : rightF ss init = true) : Calls Tryz.prog 70 #[.pointer (some ⟨p, 0, none⟩)] w fun e w1 => e = .returned (.bool (!lastS ss)) ∧ Below w.heap.size w w1 := by
 refine Zn1 12 Tryz.func70 fun fr hf s0 => ?_
 obtain ⟨A, cc, rfl, hcc⟩ := hrs.form
 obtain ⟨k, hk⟩ : ∃ k, ss.length = k + 1 := ⟨ss.length - 1, by have := formed_pos (rightF_formed h0); omega⟩
 obtain ⟨st, hst⟩ : ∃ x, ss[k]? = some x := ⟨_, List.getElem?_eq_getElem (by omega)⟩
 have hl : lastS ss = st.final := by unfold lastS; rw [List.getLast?_eq_getElem?, hk, Nat.add_sub_cancel, hst]; rfl
 obtain ⟨bb, off, av, hA0, hat⟩ := hrs.at_ hst
 subst hA0
 have x1 := hat.c1
 have e4 : IntKind.i64.wrap ((ss.length : Int) - 1) = (k : Int) := by rw [Fact.wrap_i64 (by omega) (by omega)]; omega
 have HKK := Lib.hid hk; have HL := Lib.hid hl; have hkl : k < ss.length := by omega
 clear hk hst hl hat
 refine Ze fun _ hK1 => ?_
 refine Zr [] hf ?_
 refine Zq1 0 hf ?_
 clear hf s0; intro fr1 hf s0
 refine Zt hK1 fun _ hK2 => ?_
 have bB := hf.B10 2 3 4 5 6 7 8 9 10 11
 iterate 5 refine Za ?_
 refine fp fun K Z => ?_
 go_simp
 try simp (disch := omega) only [Fact.W]
 try rw [e4]
 apply Z.out; clear Z K
 refine Zi ?_
 iterate 4 refine Za ?_
 refine Fact.nil (Zq1 1 hf ?_)
 clear hf s0 bB; intro fr1 hf s1
 refine Zx hK2 ?_
 refine Zret ?_
 exact Fact.ret1 rfl hf s1 ⟨by rw [HL.out], Below.refl _ _⟩
set_option maxHeartbeats 4000000 in
set_option maxRecDepth 100000 in
theorem ask5 (w : World) (p : Nat) (sv : Value) (init : Nat) (ss : List State) (c0 : w.cell? ⟨p, 0, none⟩ = some sv) (c1 : w.cell? ⟨p, 1, none⟩ = some (.int .u64 init)) (hrs : RS w sv ss) (hlen : ss.length ≤ 1000000) (hok : ∀ s ∈ ss, okS s) (h0 : rightF ss init = true) (hin : init < M64) : Calls Tryz.prog 71 #[.pointer (some ⟨p, 0, none⟩)] w fun e w1 => e = .returned (.bool (gtst ss init)) ∧ Below w.heap.size w w1 := by
 refine Zn1 10 Tryz.func71 fun fr hf s0 => ?_
 obtain ⟨A, cc, rfl, hcc⟩ := hrs.form
 have hfm : ∀ (k : Nat) (st : State), ss[k]? = some st → okArcs k (-1) st.arcs = true := fun k st hk => formed_at (rightF_formed h0) hk
 refine Ze fun _ hK1 => ?_
 refine Zr [] hf ?_
 refine Zq1 0 hf ?_
 clear hf s0; intro fr1 hf s0
 refine Zt hK1 fun _ hK2 => ?_
 have bB := hf.B5 5 6 4 7 8
 refine Za ?_
 refine fp fun K Z => ?_
 go_simp
 go_at_call 72; refine (greatest72 w _ init ss hrs hlen hok hfm hin).mono ?_; rintro e w1 ⟨⟨v, rfl⟩, hb1⟩
 try dsimp only
 apply Z.out; clear Z K
 iterate 5 refine Za ?_
 refine Fact.nil (Zq1 3 hf ?_)
 clear hf s0 bB; intro fr1 hf s3
 refine Zs hK2 fun _ hK3 => ?_
 refine Zr [9] hf ?_
 refine Zq1 1 hf ?_
 clear hf s3; intro fr1 hf s1
 refine Zx hK3 ?_
 refine Zret ?_
 exact Fact.ret1 rfl hf s1 ⟨rfl, hb1⟩
end Dw
end Go.Proofs.YtcddnmhmcieebaaGreatDoor

namespace Go.Proofs.YtcddnmhmcieebaaGreatDoor
open Go.RowKit
set_option linter.unusedSimpArgs false
set_option linter.unusedVariables false
set_option linter.unnecessarySimpa false
namespace Dw

theorem box_row {w W : World} {a : Array Value} {t : TypeId} (h : w.alloc (.cells a t) = W) : Below w.heap.size w W ∧ W.heap[w.heap.size]? = some (.cells a t (0, 0)) := by
  subst h
  exact ⟨(Below.refl _ w).alloc (Nat.le_refl _) _, by rw [heap_get, if_pos rfl]⟩
def askB (ss : List State) (init : Nat) (en : Int) : Nat → Bool
  | 0 => rightF ss init
  | 1 => askC ss en
  | 2 => decide (lngV ss ≤ 255)
  | 3 => !lastS ss
  | _ => gtst ss init
def askG : Nat → Nat
  | 0 => 64
  | 1 => 66
  | 2 => 68
  | 3 => 70
  | _ => 71
def askA (p pn : Nat) : Nat → Array Value
  | 1 => #[.pointer (some ⟨p, 0, none⟩), .pointer (some ⟨pn, 0, none⟩)]
  | _ => #[.pointer (some ⟨p, 0, none⟩)]
/-- what must be of a transducer of so many entries -/
def rightS (en : Int) (ss : List State) (init : Nat) : Bool := (List.range 5).all (askB ss init en)
theorem rightS_all {en : Int} {ss : List State} {init : Nat} (h : ∀ j, j < 5 → askB ss init en j = true) : rightS en ss init = true := List.all_eq_true.2 fun j hj => h j (List.mem_range.1 hj)
theorem rightS_no {en : Int} {ss : List State} {init i : Nat} (hi : i < 5) (h : askB ss init en i = false) : rightS en ss init = false := List.all_eq_false.2 ⟨i, List.mem_range.2 hi, by rw [h]; simp⟩
theorem asks_enter (i : Nat) : ∀ args w, (callFunc (askG i) args).run Tryz.prog w = .ok (.enter (askG i) args) w := by
  match i with
  | 0 => exact enters_of Tryz.func64 (by kernel_rfl) rfl
  | 1 => exact enters_of Tryz.func66 (by kernel_rfl) rfl
  | 2 => exact enters_of Tryz.func68 (by kernel_rfl) rfl
  | 3 => exact enters_of Tryz.func70 (by kernel_rfl) rfl
  | i + 4 => exact enters_of Tryz.func71 (by kernel_rfl) rfl
theorem ask_cells {W : World} {g q p : Nat} {t : TypeId} (h : W.heap[g]? = some (.cells #[.func (.func 64) #[] #[.pointer (some ⟨q, 0, none⟩)], .func (.func 66) #[] #[.pointer (some ⟨q, 0, none⟩), .pointer (some ⟨p, 0, none⟩)], .func (.func 68) #[] #[.pointer (some ⟨q, 0, none⟩)], .func (.func 70) #[] #[.pointer (some ⟨q, 0, none⟩)], .func (.func 71) #[] #[.pointer (some ⟨q, 0, none⟩)]] t (0, 0))) {k : Nat} (hk : k < 5) : W.cell? ⟨g, k, none⟩ = some (.func (.func (askG k)) #[] (askA q p k)) := by
  rw [cell_of_row _ _ k _ t (0, 0) h]
  match k, hk with
  | 0, _ => rfl
  | 1, _ => rfl
  | 2, _ => rfl
  | 3, _ => rfl
  | 4, _ => rfl
theorem asks (w : World) (i p pn : Nat) (sv : Value) (init : Nat) (ss : List State) (en : Int) (c0 : w.cell? ⟨p, 0, none⟩ = some sv) (c1 : w.cell? ⟨p, 1, none⟩ = some (.int .u64 init)) (n0 : w.cell? ⟨pn, 0, none⟩ = some (.int .i64 en)) (hrs : RS w sv ss) (hlen : ss.length ≤ 1000000) (hok : ∀ s ∈ ss, okS s) (hin : init < M64)
    (hi : i < 5) (hall : ∀ j, j < i → askB ss init en j = true) : Calls Tryz.prog (askG i) (askA p pn i) w fun e w1 => e = .returned (.bool (askB ss init en i)) ∧ Below w.heap.size w w1 := by
  match i, hi with
  | 0, _ => exact ask1 w p sv init ss c0 c1 hrs hlen hok
  | 1, _ => exact ask2 w p sv init ss c0 c1 hrs hlen hok (hall 0 (by omega)) pn en n0
  | 2, _ => exact ask3 w p sv init ss c0 c1 hrs hlen hok (hall 0 (by omega))
  | 3, _ => exact ask4 w p sv init ss c0 c1 hrs hlen hok (hall 0 (by omega))
  | 4, _ => exact ask5 w p sv init ss c0 c1 hrs hlen hok (hall 0 (by omega)) hin
set_option maxHeartbeats 4000000 in
set_option maxRecDepth 100000 in
theorem right38 (w : World) (en : Int) (sv : Value) (init : Nat) (ss : List State) (hrs : RS w sv ss) (hlen : ss.length ≤ 1000000) (hok : ∀ s ∈ ss, okS s) (hin : init < M64) : Calls Tryz.prog 38 #[.int .i64 en, .agg #[sv, .int .u64 init]] w fun e w1 => e = .returned (.bool (rightS en ss init)) ∧ Below w.heap.size w w1 := by
 refine Zn2 26 Tryz.func38 fun fr hf s0 s1 => ?_
 obtain ⟨A, cc, rfl, hcc⟩ := hrs.form
 refine Ze fun _ hK1 => ?_
 refine Zr [] hf ?_
 refine Zq3 2 3 4 hf ?_
 clear hf s0 s1; intro fr1 hf sS
 obtain ⟨W0, hW0⟩ : ∃ x, (w.alloc (.cells #[.int .i64 en] 3)).alloc (.cells #[.slice A ss.length cc, .int .u64 init] 38) = x := ⟨_, rfl⟩
 obtain ⟨s2, s3, s4⟩ := sS
 try simp only [World.size_alloc] at s3
 rw [hW0]
 obtain ⟨hb0, hp0, hp1⟩ := two_boxesT hW0
 clear hW0
 have n0 := cell_of_row _ _ 0 _ 3 (0, 0) hp0; have c0 := cell_of_row _ _ 0 _ 38 (0, 0) hp1; have c1 := cell_of_row _ _ 1 _ 38 (0, 0) hp1
 simp at n0 c0 c1
 replace hrs := hrs.later hb0
 clear hp0 hp1
 obtain ⟨q, hq⟩ : ∃ x, w.heap.size + 1 = x := ⟨_, rfl⟩
 rw [hq] at s3 c0 c1
 clear hq
 refine Zx hK1 ?_
 refine wp_scope_straight ?_
 refine Ze fun _ hK2 => ?_
 refine Zr [8, 9, 10, 11, 12, 13] hf ?_
 refine Zq2 4 5 hf ?_
 clear hf s2 s3 s4; intro fr1 hf sS
 obtain ⟨W1, hW1⟩ : ∃ x, W0.alloc (.cells #[.func (.func 64) #[] #[.pointer (some ⟨q, 0, none⟩)], .func (.func 66) #[] #[.pointer (some ⟨q, 0, none⟩), .pointer (some ⟨w.heap.size, 0, none⟩)], .func (.func 68) #[] #[.pointer (some ⟨q, 0, none⟩)], .func (.func 70) #[] #[.pointer (some ⟨q, 0, none⟩)], .func (.func 71) #[] #[.pointer (some ⟨q, 0, none⟩)]] 25) = x := ⟨_, rfl⟩
 rw [hW1]
 obtain ⟨hb1, hS⟩ := box_row hW1
 clear hW1
 have hcl : ∀ k, k < 5 → W1.cell? ⟨W0.heap.size, k, none⟩ = some (.func (.func (askG k)) #[] (askA q w.heap.size k)) := fun k hk => ask_cells hS hk
 replace n0 := cL hb1 n0; replace c0 := cL hb1 c0; replace c1 := cL hb1 c1; replace hrs := hrs.later hb1
 replace hb0 := hb0.trans (hb1.mono hb0.size)
 obtain ⟨S, hSq⟩ : ∃ x, W0.heap.size = x := ⟨_, rfl⟩
 obtain ⟨s4, s5⟩ := sS
 rw [hSq] at hcl s5
 clear hb1 hS hSq
 refine Zs hK2 fun _ hK3 => ?_
 refine Zr [] hf ?_
 refine Zq2 4 5 hf ?_
 clear hf s4 s5; intro fr1 hf sS
 refine Zs hK3 fun _ hK4 => ?_
 refine wp_label ?_
 refine Zs hK4 fun _ hK5 => ?_
 refine Ze fun _ hK6 => ?_
 refine Zr [14] hf ?_
 refine Zq4 4 14 15 16 hf ?_
 clear hf sS; intro fr1 hf sS
 refine Zx hK6 ?_
 refine wp_block ?_
 refine wp_loop_ghost (fun gk fr wr => ∃ (i : Nat), gk = 5 - i ∧ i ≤ 5 ∧ Fact.Fr 26 fr ∧ fr.tmps[4]? = some (.bool true) ∧ fr.tmps[14]? = some (.slice (some ⟨S, 0, none⟩) 5 5) ∧ fr.tmps[15]? = some (.int .i64 5) ∧ fr.tmps[16]? = some (.int .i64 i) ∧ (∀ j, j < i → askB ss init en j = true) ∧ Below W1.heap.size W1 wr) (5) ?_ ?_
 · (
 obtain ⟨s4, s14, s15, s16⟩ := sS
 exact ⟨0, rfl, by omega, hf, s4, s14, s15, s16, fun j hj => absurd hj (by omega), Below.refl _ _⟩)
 · (
 clear hf sS
 rintro gk fr wr ⟨i, hk9, hi, hf, s4, s14, s15, s16, hall, hb⟩
 have HK := Lib.hid hk9; clear hk9
 refine Ze fun _ hK7 => ?_
 refine Zr [] hf ?_
 refine Zq5 4 14 15 16 17 hf ?_
 clear hf s4 s14 s15 s16; intro fr1 hf sS
 refine Zs hK7 fun _ hK8 => ?_
 refine Fact.cond_s sS.2.2.2.2 (fun hq => ?_) (fun hq => ?_)
 · (
 have hlt : i < 5 := by have h9 := of_decide_eq_true hq; omega
 clear hq
 have hci := cL hb (hcl i hlt)
 have eg := asks_enter i
 refine wp_skip ?_
 refine Zs hK8 fun _ hK9 => ?_
 refine wp_block ?_
 refine Ze fun _ hK10 => ?_
 refine Zr [18, 19] hf ?_
 refine Zq4 7 14 15 16 hf ?_
 clear hf sS; intro fr1 hf sS
 refine Zt hK10 fun _ hK11 => ?_
 have bB := hf.B2 20 21
 refine Za ?_
 refine fp fun K Z => ?_
 go_simp
 refine (asks wr i q w.heap.size _ init ss en (cL hb c0) (cL hb c1) (cL hb n0) (hrs.later hb) hlen hok hin hlt hall).mono ?_
 rintro e w1 ⟨rfl, hb1⟩
 obtain ⟨bk, hbk⟩ : ∃ x, askB ss init en i = x := ⟨_, rfl⟩
 rw [hbk]
 replace hb := hb.trans (hb1.mono hb.size)
 clear hci eg hb1
 dsimp only
 apply Z.out; clear Z K
 refine Za ?_
 refine Fact.nil (Zq4 4 14 15 16 hf ?_)
 clear hf sS bB; intro fr1 hf sS
 refine Zs hK11 fun _ hK12 => ?_
 refine Zr [22] hf ?_
 refine Zq5 4 14 15 16 23 hf ?_
 clear hf sS; intro fr1 hf sS
 refine Zx hK12 ?_
 refine Fact.cond_s sS.2.2.2.2 (fun hq2 => ?_) (fun hq2 => ?_)
 · (
 have hbt : bk = false := by simpa using hq2
 clear hq2
 subst hbt
 refine Zo ?_
 refine Zs hK5 fun _ hK13 => ?_
 refine Zr [25] hf ?_
 refine Zq1 4 hf ?_
 clear hf sS; intro fr1 hf s4
 refine Zx hK13 ?_
 refine Zret ?_
 exact Fact.ret1 rfl hf s4 ⟨by rw [rightS_no hlt hbk], hb0.trans (hb.mono hb0.size)⟩)
 · (
 have hbt : bk = true := by simpa using hq2
 clear hq2
 subst hbt
 refine wp_skip ?_
 refine Fact.block_normal ?_
 refine Zx hK9 ?_
 refine Zr [24] hf ?_
 refine Zq4 4 14 15 16 hf ?_
 clear hf sS; intro fr1 hf sS
 refine Fact.then_normal ?_
 obtain ⟨s4, s14, s15, s16⟩ := sS
 exact ⟨_, by have := HK.out; omega, i + 1, rfl, by omega, hf, s4, s14, s15, by rw [s16]; rfl, fun j hj => (Nat.lt_or_ge j i).elim (fun h => hall j h) (fun h => Nat.le_antisymm h (Nat.le_of_lt_succ hj) ▸ hbk), hb⟩))
 · (
 have hie : i = 5 := by have h9 := of_decide_eq_false hq; omega
 clear hq
 subst hie
 refine Zo ?_
 refine Zs hK5 fun _ hK14 => ?_
 refine Zr [25] hf ?_
 refine Zq1 4 hf ?_
 clear hf sS; intro fr1 hf s4
 refine Zx hK14 ?_
 refine Zret ?_
 exact Fact.ret1 rfl hf s4 ⟨by rw [rightS_all hall], hb0.trans (hb.mono hb0.size)⟩))
end Dw
end Go.Proofs.YtcddnmhmcieebaaGreatDoor
