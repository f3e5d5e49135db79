/- segment: what must be of a transducer. -/
import Derived.Test.YtcddnmhmcieebaaGreatDoorY22
import Derived.Test.YtcddnmhmcieebaaGreatDoorTools
import Derived.Test.YtcddnmhmcieebaaGreatDoorY21
import Derived.Test.YtcddnmhmcieebaaGreatDoorY12
import Derived.Test.YtcddnmhmcieebaaGreatDoorY11
namespace Go.Proofs.YtcddnmhmcieebaaGreatDoor
set_option maxHeartbeats 4000000
set_option maxRecDepth 100000
open Go.RowKit
set_option linter.unusedSimpArgs false
set_option linter.unusedVariables false
set_option linter.unnecessarySimpa false
namespace Dw
theorem rightF_formed {ss : List State} {init : Nat} (h : rightF ss init = true) : formedF ss = true := by
 unfold rightF at h
 cases hf : formedF ss with
 | true => rfl
 | false => rw [hf] at h; simp at h
def askC (ss : List State) (en : Int) : Bool := decide (cntV ss <= 100000) && decide (cntV ss = en) && decide (0 < cntV ss)
def lastS (ss : List State) : Bool := (ss.getLast?.map State.final).getD false
theorem ask1 (w : World) (p : Nat) (sv : Value) (init : Nat) (ss : List State) (c0 : w.cell? ⟨p, 0, none⟩ = some sv) (c1 : w.cell? ⟨p, 1, none⟩ = some (.int .u64 init)) (hrs : RS w sv ss) (hlen : ss.length <= 1000000) (hok : ∀ s ∈ ss, okS s) : Calls Tryz.prog 64 #[.pointer (some ⟨p, 0, none⟩)] w fun e w1 => e = .returned (.bool (rightF ss init)) /\ Below w.heap.size w w1 := by
 refine Zn1 4 Tryz.func64 fun fr hf s0 => ?_
 obtain ⟨A, cc, rfl, hcc⟩ := hrs.form
 refine Ze fun _ hK1 => Zr [] hf ?_
 refine Zq1 0 hf ?_
 clear hf s0; intro fr1 hf s0
 refine Zt hK1 fun _ hK2 => ?_
 have bB := hf.B2 2 3
 refine Zy ?_
 refine Zc (right9 w _ init ss hrs hok hlen) ?_; rintro e w1 ⟨rfl, hb1⟩
 refine Zv ?_
 refine Zy ?_
 refine Fact.nil (Zq1 1 hf ?_)
 clear hf s0 bB; intro fr1 hf s1
 refine Zx hK2 (Zret ?_)
 exact Fact.ret1 rfl hf s1 ⟨rfl, hb1⟩
theorem ask2 (w : World) (p : Nat) (sv : Value) (init : Nat) (ss : List State) (c0 : w.cell? ⟨p, 0, none⟩ = some sv) (c1 : w.cell? ⟨p, 1, none⟩ = some (.int .u64 init)) (hrs : RS w sv ss) (hlen : ss.length <= 1000000) (hok : ∀ s ∈ ss, okS s) (h0 : rightF ss init = true) (pn : Nat) (en : Int) (n0 : w.cell? ⟨pn, 0, none⟩ = some (.int .i64 en)) : Calls Tryz.prog 66 #[.pointer (some ⟨p, 0, none⟩), .pointer (some ⟨pn, 0, none⟩)] w fun e w1 => e = .returned (.bool (askC ss en)) /\ Below w.heap.size w w1 := by
 refine Zn2 20 Tryz.func66 fun fr hf s0 s1 => ?_
 obtain ⟨A, cc, rfl, hcc⟩ := hrs.form
 have hfm : ∀ (k : Nat) (st : State), ss[k]? = some st -> okArcs k (-1) st.arcs = true := fun k st hk => formed_at (rightF_formed h0) hk
 obtain ⟨hc0, hc1⟩ := cntV_ok ss hlen hok hfm
 refine Ze fun _ hK1 => Zr [] hf ?_
 refine Zq2 0 1 hf ?_
 clear hf s0 s1; intro fr1 hf sS
 refine Zt hK1 fun _ hK2 => ?_
 have bB := hf.B5 6 7 5 8 9
 refine Zy ?_
 refine Zc (count67 w _ init ss hrs hlen hok hfm) ?_; rintro e w1 ⟨rfl, hb1⟩
 obtain ⟨n, hn⟩ : ∃ x, cntV ss = x := ⟨_, rfl⟩
 rw [hn] at hc0 hc1 |-
 have HN := Lib.hid hn
 replace n0 := cL hb1 n0
 clear hn c0 c1 hrs
 refine Zv ?_
 iterate 5 refine Zy ?_
 refine Fact.nil (Zq3 1 3 4 hf ?_)
 clear hf sS bB; intro fr1 hf sS
 refine Zx hK2 ?_
 rcases Int.lt_or_le 100000 n with hlt | hlt
 . (
 have q1 : decide (n <= 100000) = false := decide_eq_false (by omega)
 have q2 : (if (100000 : Int) < n then (0 : Int) else n) = 0 := if_pos (by omega)
 obtain ⟨s1, s3, s4⟩ := sS
 rw [q1] at s4
 rw [q2] at s3
 refine Ze fun _ hK3 => Zr [10, 11, 12, 13, 14, 15, 16, 17, 18, 19] hf ?_
 refine Zq1 2 hf ?_
 clear hf s1 s3 s4; intro fr1 hf s2
 refine Zx hK3 (Zret ?_)
 exact Fact.ret1 rfl hf s2 ⟨by unfold askC; rw [HN.out, q1]; rfl, hb1⟩)
 . (
 have q1 : decide (n <= 100000) = true := decide_eq_true (by omega)
 have q2 : (if (100000 : Int) < n then (0 : Int) else n) = n := if_neg (by omega)
 obtain ⟨s1, s3, s4⟩ := sS
 rw [q1] at s4
 rw [q2] at s3
 rcases Classical.em (n = en) with hne | hne
 . (
 have q3 : (n == en) = true := beq_iff_eq.2 hne
 refine Ze fun _ hK4 => ?_
 have qs := q3
 refine Zr [10, 11, 12, 13, 14, 15, 16, 17, 18, 19] hf ?_
 refine Zq1 2 hf ?_
 clear hf s1 s3 s4 qs; intro fr1 hf s2
 refine Zx hK4 (Zret ?_)
 exact Fact.ret1 rfl hf s2 ⟨by unfold askC; rw [HN.out, q1, decide_eq_true hne, hne]; rfl, hb1⟩)
 . (
 have q3 : (n == en) = false := beq_eq_false_iff_ne.2 hne
 refine Ze fun _ hK5 => ?_
 have qs := q3
 refine Zr [10, 11, 12, 13, 14, 15, 16, 17, 18, 19] hf ?_
 refine Zq1 2 hf ?_
 clear hf s1 s3 s4 qs; intro fr1 hf s2
 refine Zx hK5 (Zret ?_)
 exact Fact.ret1 rfl hf s2 ⟨by unfold askC; rw [HN.out, q1, decide_eq_false hne]; rfl, hb1⟩))
theorem ask3 (w : World) (p : Nat) (sv : Value) (init : Nat) (ss : List State) (c0 : w.cell? ⟨p, 0, none⟩ = some sv) (c1 : w.cell? ⟨p, 1, none⟩ = some (.int .u64 init)) (hrs : RS w sv ss) (hlen : ss.length <= 1000000) (hok : ∀ s ∈ ss, okS s) (h0 : rightF ss init = true) : Calls Tryz.prog 68 #[.pointer (some ⟨p, 0, none⟩)] w fun e w1 => e = .returned (.bool (decide (lngV ss <= 255))) /\ Below w.heap.size w w1 := by
 refine Zn1 5 Tryz.func68 fun fr hf s0 => ?_
 obtain ⟨A, cc, rfl, hcc⟩ := hrs.form
 have hfm : ∀ (k : Nat) (st : State), ss[k]? = some st -> okArcs k (-1) st.arcs = true := fun k st hk => formed_at (rightF_formed h0) hk
 have hp := formed_pos (rightF_formed h0)
 refine Ze fun _ hK1 => Zr [] hf ?_
 refine Zq1 0 hf ?_
 clear hf s0; intro fr1 hf s0
 refine Zt hK1 fun _ hK2 => ?_
 have bB := hf.B3 2 3 4
 refine Zy ?_
 refine Zc (longest69 w _ init ss hrs hlen hok hfm hp) ?_; rintro e w1 ⟨rfl, hb1⟩
 refine Zv ?_
 iterate 2 refine Zy ?_
 refine Fact.nil (Zq1 1 hf ?_)
 clear hf s0 bB; intro fr1 hf s1
 refine Zx hK2 (Zret ?_)
 exact Fact.ret1 rfl hf s1 ⟨rfl, hb1⟩
theorem ask4 (w : World) (p : Nat) (sv : Value) (init : Nat) (ss : List State) (c0 : w.cell? ⟨p, 0, none⟩ = some sv) (c1 : w.cell? ⟨p, 1, none⟩ = some (.int .u64 init)) (hrs : RS w sv ss) (hlen : ss.length <= 1000000) (hok : ∀ s ∈ ss, okS s) (h0 : rightF ss init = true) : Calls Tryz.prog 70 #[.pointer (some ⟨p, 0, none⟩)] w fun e w1 => e = .returned (.bool (!lastS ss)) /\ Below w.heap.size w w1 := by
 refine Zn1 12 Tryz.func70 fun fr hf s0 => ?_
 obtain ⟨A, cc, rfl, hcc⟩ := hrs.form
 obtain ⟨k, hk⟩ : ∃ k, ss.length = k + 1 := ⟨ss.length - 1, by have := formed_pos (rightF_formed h0); omega⟩
 obtain ⟨st, hst⟩ : ∃ x, ss[k]? = some x := ⟨_, gE1 (by omega)⟩
 have hl : lastS ss = st.final := by unfold lastS; rw [List.getLast?_eq_getElem?, hk, Nat.add_sub_cancel, hst]; rfl
 obtain ⟨bb, off, av, hA0, hat⟩ := hrs.at_ hst
 subst hA0
 have x1 := hat.c1
 have e4 : IntKind.i64.wrap ((ss.length : Int) - 1) = (k : Int) := by rw [Fact.wrap_i64 (by omega) (by omega)]; omega
 have HKK := Lib.hid hk; have HL := Lib.hid hl; have hkl : k < ss.length := by omega
 clear hk hst hl hat
 refine Ze fun _ hK1 => Zr [] hf ?_
 refine Zq1 0 hf ?_
 clear hf s0; intro fr1 hf s0
 refine Zt hK1 fun _ hK2 => ?_
 have bB := hf.B10 2 3 4 5 6 7 8 9 10 11
 iterate 5 refine Zy ?_
 refine fp fun K Z => ?_
 go_simp
 try simp (disch := omega) only [Fact.W]
 try rw [e4]
 apply Z.out; clear Z K
 iterate 5 refine Zy ?_
 refine Fact.nil (Zq1 1 hf ?_)
 clear hf s0 bB; intro fr1 hf s1
 refine Zx hK2 (Zret ?_)
 exact Fact.ret1 rfl hf s1 ⟨by rw [HL.out], Below.refl _ _⟩
theorem ask5 (w : World) (p : Nat) (sv : Value) (init : Nat) (ss : List State) (c0 : w.cell? ⟨p, 0, none⟩ = some sv) (c1 : w.cell? ⟨p, 1, none⟩ = some (.int .u64 init)) (hrs : RS w sv ss) (hlen : ss.length <= 1000000) (hok : ∀ s ∈ ss, okS s) (h0 : rightF ss init = true) (hin : init < M64) : Calls Tryz.prog 71 #[.pointer (some ⟨p, 0, none⟩)] w fun e w1 => e = .returned (.bool (gtst ss init)) /\ Below w.heap.size w w1 := by
 refine Zn1 10 Tryz.func71 fun fr hf s0 => ?_
 obtain ⟨A, cc, rfl, hcc⟩ := hrs.form
 have hfm : ∀ (k : Nat) (st : State), ss[k]? = some st -> okArcs k (-1) st.arcs = true := fun k st hk => formed_at (rightF_formed h0) hk
 refine Ze fun _ hK1 => Zr [] hf ?_
 refine Zq1 0 hf ?_
 clear hf s0; intro fr1 hf s0
 refine Zt hK1 fun _ hK2 => ?_
 have bB := hf.B5 5 6 4 7 8
 refine Zy ?_
 refine Zc (greatest72 w _ init ss hrs hlen hok hfm hin) ?_; rintro e w1 ⟨⟨v, rfl⟩, hb1⟩
 refine Zv ?_
 iterate 5 refine Zy ?_
 refine Fact.nil (Zq1 3 hf ?_)
 clear hf s0 bB; intro fr1 hf s3
 refine Zs hK2 fun _ hK3 => Zr [9] hf ?_
 refine Zq1 1 hf ?_
 clear hf s3; intro fr1 hf s1
 refine Zx hK3 (Zret ?_)
 exact Fact.ret1 rfl hf s1 ⟨rfl, hb1⟩
theorem box_row {w W : World} {a : Array Value} {t : TypeId} (h : w.alloc (.cells a t) = W) : Below w.heap.size w W /\ W.heap[w.heap.size]? = some (.cells a t (0, 0)) := by
 subst h
 exact ⟨(Below.refl _ w).alloc (Nat.le_refl _) _, by rw [heap_get, if_pos rfl]⟩
def askB (ss : List State) (init : Nat) (en : Int) : Nat -> Bool
 | 0 => rightF ss init
 | 1 => askC ss en
 | 2 => decide (lngV ss <= 255)
 | 3 => !lastS ss
 | _ => gtst ss init
def askG : Nat -> Nat
 | 0 => 64
 | 1 => 66
 | 2 => 68
 | 3 => 70
 | _ => 71
def askA (p pn : Nat) : Nat -> Array Value
 | 1 => #[.pointer (some ⟨p, 0, none⟩), .pointer (some ⟨pn, 0, none⟩)]
 | _ => #[.pointer (some ⟨p, 0, none⟩)]
def rightS (en : Int) (ss : List State) (init : Nat) : Bool := (List.range 5).all (askB ss init en)
theorem rightS_all {en : Int} {ss : List State} {init : Nat} (h : ∀ j, j < 5 -> askB ss init en j = true) : rightS en ss init = true := List.all_eq_true.2 fun j hj => h j (List.mem_range.1 hj)
theorem rightS_no {en : Int} {ss : List State} {init i : Nat} (hi : i < 5) (h : askB ss init en i = false) : rightS en ss init = false := List.all_eq_false.2 ⟨i, List.mem_range.2 hi, by rw [h]; simp⟩
theorem asks_enter (i : Nat) : ∀ args w, (callFunc (askG i) args).run Tryz.prog w = .ok (.enter (askG i) args) w := by
 match i with
 | 0 => exact enters_of Tryz.func64 (by kernel_rfl) rfl
 | 1 => exact enters_of Tryz.func66 (by kernel_rfl) rfl
 | 2 => exact enters_of Tryz.func68 (by kernel_rfl) rfl
 | 3 => exact enters_of Tryz.func70 (by kernel_rfl) rfl
 | i + 4 => exact enters_of Tryz.func71 (by kernel_rfl) rfl
theorem ask_cells {W : World} {g q p : Nat} {t : TypeId} (h : W.heap[g]? = some (.cells #[.func (.func 64) #[] #[.pointer (some ⟨q, 0, none⟩)], .func (.func 66) #[] #[.pointer (some ⟨q, 0, none⟩), .pointer (some ⟨p, 0, none⟩)], .func (.func 68) #[] #[.pointer (some ⟨q, 0, none⟩)], .func (.func 70) #[] #[.pointer (some ⟨q, 0, none⟩)], .func (.func 71) #[] #[.pointer (some ⟨q, 0, none⟩)]] t (0, 0))) {k : Nat} (hk : k < 5) : W.cell? ⟨g, k, none⟩ = some (.func (.func (askG k)) #[] (askA q p k)) := by
 rw [cell_of_row _ _ k _ t (0, 0) h]
 match k, hk with
 | 0, _ => rfl
 | 1, _ => rfl
 | 2, _ => rfl
 | 3, _ => rfl
 | 4, _ => rfl
theorem asks (w : World) (i p pn : Nat) (sv : Value) (init : Nat) (ss : List State) (en : Int) (c0 : w.cell? ⟨p, 0, none⟩ = some sv) (c1 : w.cell? ⟨p, 1, none⟩ = some (.int .u64 init)) (n0 : w.cell? ⟨pn, 0, none⟩ = some (.int .i64 en)) (hrs : RS w sv ss) (hlen : ss.length <= 1000000) (hok : ∀ s ∈ ss, okS s) (hin : init < M64)
  (hi : i < 5) (hall : ∀ j, j < i -> askB ss init en j = true) : Calls Tryz.prog (askG i) (askA p pn i) w fun e w1 => e = .returned (.bool (askB ss init en i)) /\ Below w.heap.size w w1 := by
 match i, hi with
 | 0, _ => exact ask1 w p sv init ss c0 c1 hrs hlen hok
 | 1, _ => exact ask2 w p sv init ss c0 c1 hrs hlen hok (hall 0 (by omega)) pn en n0
 | 2, _ => exact ask3 w p sv init ss c0 c1 hrs hlen hok (hall 0 (by omega))
 | 3, _ => exact ask4 w p sv init ss c0 c1 hrs hlen hok (hall 0 (by omega))
 | 4, _ => exact ask5 w p sv init ss c0 c1 hrs hlen hok (hall 0 (by omega)) hin
theorem right38 (w : World) (en : Int) (sv : Value) (init : Nat) (ss : List State) (hrs : RS w sv ss) (hlen : ss.length <= 1000000) (hok : ∀ s ∈ ss, okS s) (hin : init < M64) : Calls Tryz.prog 38 #[.int .i64 en, .agg #[sv, .int .u64 init]] w fun e w1 => e = .returned (.bool (rightS en ss init)) /\ Below w.heap.size w w1 := by
 refine Zn2 26 Tryz.func38 fun fr hf s0 s1 => ?_
 obtain ⟨A, cc, rfl, hcc⟩ := hrs.form
 refine Ze fun _ hK1 => Zr [] hf ?_
 refine Zq3 2 3 4 hf ?_
 clear hf s0 s1; intro fr1 hf sS
 obtain ⟨W0, hW0⟩ : ∃ x, (w.alloc (.cells #[.int .i64 en] 3)).alloc (.cells #[.slice A ss.length cc, .int .u64 init] 38) = x := ⟨_, rfl⟩
 obtain ⟨s2, s3, s4⟩ := sS
 try simp only [World.size_alloc] at s3
 rw [hW0]
 obtain ⟨hb0, hp0, hp1⟩ := two_boxesT hW0
 clear hW0
 have n0 := cR1 0 hp0; have c0 := cR1 0 hp1; have c1 := cR1 1 hp1
 simp at n0 c0 c1
 replace hrs := hrs.later hb0
 clear hp0 hp1
 obtain ⟨q, hq⟩ : ∃ x, w.heap.size + 1 = x := ⟨_, rfl⟩
 rw [hq] at s3 c0 c1
 clear hq
 refine Zx hK1 (wp_scope_straight ?_)
 refine Ze fun _ hK2 => Zr [8, 9, 10, 11, 12, 13] hf ?_
 refine Zq2 4 5 hf ?_
 clear hf s2 s3 s4; intro fr1 hf sS
 generalize hW1 : W0.alloc (.cells #[.func (.func 64) #[] #[.pointer (some ⟨q, 0, none⟩)], .func (.func 66) #[] #[.pointer (some ⟨q, 0, none⟩), .pointer (some ⟨w.heap.size, 0, none⟩)], .func (.func 68) #[] #[.pointer (some ⟨q, 0, none⟩)], .func (.func 70) #[] #[.pointer (some ⟨q, 0, none⟩)], .func (.func 71) #[] #[.pointer (some ⟨q, 0, none⟩)]] 25) = W1
 obtain ⟨hb1, hS⟩ := box_row hW1
 clear hW1
 have hcl : ∀ k, k < 5 -> W1.cell? ⟨W0.heap.size, k, none⟩ = some (.func (.func (askG k)) #[] (askA q w.heap.size k)) := fun k hk => ask_cells hS hk
 replace n0 := cL hb1 n0; replace c0 := cL hb1 c0; replace c1 := cL hb1 c1; replace hrs := hrs.later hb1
 replace hb0 := hb0.trans (hb1.mono hb0.size)
 obtain ⟨S, hSq⟩ : ∃ x, W0.heap.size = x := ⟨_, rfl⟩
 obtain ⟨s4, s5⟩ := sS
 rw [hSq] at hcl s5
 clear hb1 hS hSq
 refine Zs hK2 fun _ hK3 => Zr [] hf ?_
 refine Zq2 4 5 hf ?_
 clear hf s4 s5; intro fr1 hf sS
 refine Zs hK3 fun _ hK4 => wp_label ?_
 refine Zs hK4 fun _ hK5 => Ze fun _ hK6 => Zr [14] hf ?_
 refine Zq4 4 14 15 16 hf ?_
 clear hf sS; intro fr1 hf sS
 refine Zx hK6 (wp_block (wp_loop_ghost (fun gk fr wr => ∃ (i : Nat), gk = 5 - i /\ i <= 5 /\ Fact.Fr 26 fr /\ fr.tmps[4]? = some (.bool true) /\ fr.tmps[14]? = some (.slice (some ⟨S, 0, none⟩) 5 5) /\ fr.tmps[15]? = some (.int .i64 5) /\ fr.tmps[16]? = some (.int .i64 i) /\ (∀ j, j < i -> askB ss init en j = true) /\ Below W1.heap.size W1 wr) (5) ?_ ?_))
 . (
 obtain ⟨s4, s14, s15, s16⟩ := sS
 exact ⟨0, rfl, by omega, hf, s4, s14, s15, s16, fun j hj => absurd hj (by omega), Below.refl _ _⟩)
 . (
 clear hf sS
 rintro gk fr wr ⟨i, hk9, hi, hf, s4, s14, s15, s16, hall, hb⟩
 have HK := Lib.hid hk9; clear hk9
 refine Ze fun _ hK7 => Zr [] hf ?_
 refine Zq5 4 14 15 16 17 hf ?_
 clear hf s4 s14 s15 s16; intro fr1 hf sS
 refine Zs hK7 fun _ hK8 => Fact.cond_s sS.2.2.2.2 (fun hq => ?_) (fun hq => ?_)
 . (
 have hlt : i < 5 := by have h9 := of_decide_eq_true hq; omega
 clear hq
 have hci := cL hb (hcl i hlt)
 have eg := asks_enter i
 refine wp_skip (Zs hK8 fun _ hK9 => wp_block (Ze fun _ hK10 => Zr [18, 19] hf ?_))
 refine Zq4 7 14 15 16 hf ?_
 clear hf sS; intro fr1 hf sS
 refine Zt hK10 fun _ hK11 => ?_
 have bB := hf.B2 20 21
 refine Zy ?_
 refine fp fun K Z => ?_
 go_simp
 refine (asks wr i q w.heap.size _ init ss en (cL hb c0) (cL hb c1) (cL hb n0) (hrs.later hb) hlen hok hin hlt hall).mono ?_
 rintro e w1 ⟨rfl, hb1⟩
 generalize hbk : askB ss init en i = bk
 replace hb := hb.trans (hb1.mono hb.size)
 clear hci eg hb1
 dsimp only
 apply Z.out; clear Z K
 refine Zy ?_
 refine Fact.nil (Zq4 4 14 15 16 hf ?_)
 clear hf sS bB; intro fr1 hf sS
 refine Zs hK11 fun _ hK12 => Zr [22] hf ?_
 refine Zq5 4 14 15 16 23 hf ?_
 clear hf sS; intro fr1 hf sS
 refine Zx hK12 (Fact.cond_s sS.2.2.2.2 (fun hq2 => ?_) (fun hq2 => ?_))
 . (
 have hbt : bk = false := by simpa using hq2
 clear hq2
 subst hbt
 refine Zo ?_
 refine Zs hK5 fun _ hK13 => Zr [25] hf ?_
 refine Zq1 4 hf ?_
 clear hf sS; intro fr1 hf s4
 refine Zx hK13 (Zret ?_)
 exact Fact.ret1 rfl hf s4 ⟨by rw [rightS_no hlt hbk], hb0.trans (hb.mono hb0.size)⟩)
 . (
 have hbt : bk = true := by simpa using hq2
 clear hq2
 subst hbt
 refine wp_skip (Fact.block_normal (Zx hK9 (Zr [24] hf ?_)))
 refine Zq4 4 14 15 16 hf ?_
 clear hf sS; intro fr1 hf sS
 refine Fact.then_normal ?_
 obtain ⟨s4, s14, s15, s16⟩ := sS
 exact ⟨_, by have := HK.out; omega, i + 1, rfl, by omega, hf, s4, s14, s15, by rw [s16]; rfl, fun j hj => (Nat.lt_or_ge j i).elim (fun h => hall j h) (fun h => Nat.le_antisymm h (Nat.le_of_lt_succ hj) ▸ hbk), hb⟩))
 . (
 have hie : i = 5 := by have h9 := of_decide_eq_false hq; omega
 clear hq
 subst hie
 refine Zo ?_
 refine Zs hK5 fun _ hK14 => Zr [25] hf ?_
 refine Zq1 4 hf ?_
 clear hf sS; intro fr1 hf s4
 refine Zx hK14 (Zret ?_)
 exact Fact.ret1 rfl hf s4 ⟨by rw [rightS_all hall], hb0.trans (hb.mono hb0.size)⟩))
def OpenG (w w1 : World) (e : Ending) (s : ByteArray) (en init : Nat) (ss : List State) : Bool -> Prop
 | false => e = .returned (.tuple #[.pointer none, .int .i64 12]) /\ Below w.heap.size w w1
 | true => ∃ S sv, e = .returned (.tuple #[.pointer (some ⟨S, 0, none⟩), .int .i64 0]) /\ w.heap.size <= S /\ w1.heap[S]? = some (.cells #[sv, .int .u64 init, .int .i64 en, .int .i64 s.size] 98 (0, 0)) /\ RS w1 sv ss /\ Below w.heap.size w w1
def openV (s : ByteArray) : Bool := match pGet s with
 | .error _ => false
 | .ok (en, init, ss) => rightS en ss init
def OpenR (w w1 : World) (e : Ending) (s : ByteArray) : Prop := match pGet s with
 | .error _ => e = .returned (.tuple #[.pointer none, .int .i64 12]) /\ Below w.heap.size w w1
 | .ok (en, init, ss) => OpenG w w1 e s en init ss (rightS en ss init)
theorem open_e (w : World) (s : ByteArray) (hsz : s.size <= 900000000) (b : Bad) (hp : pGet s = .error b) : Calls Tryz.prog 15 #[.string s] w fun e w1 => e = .returned (.tuple #[.pointer none, .int .i64 12]) /\ Below w.heap.size w w1 := by
 refine Zn1 28 Tryz.func15 fun fr hf s0 => ?_
 refine Ze fun _ hK1 => Zr [] hf ?_
 refine Zq1 0 hf ?_
 clear hf s0; intro fr1 hf s0
 refine Zt hK1 fun _ hK2 => ?_
 have bB := hf.B7 8 9 7 10 11 12 5
 refine Zy ?_
 refine Zc (get15 w s hsz) ?_; rintro e w1 hg
 rw [hp] at hg
 obtain ⟨g, rfl, -, -, hb1⟩ := hg
 refine Zv ?_
 iterate 8 refine Zy ?_
 refine Fact.nil (Zq4 0 4 5 6 hf ?_)
 clear hf s0 bB; intro fr1 hf sS
 refine Zx hK2 ?_
 have hb := hb1.trans (((Below.refl _ w1).alloc (Nat.le_refl _) (.cells #[.slice none 0 0, .int .u64 0] 38)).mono hb1.size)
 refine Ze fun _ hK3 => Ze fun _ hK4 => Zr [13, 14, 15, 16, 17, 18, 19] hf ?_
 refine Zq4 0 4 5 20 hf ?_
 clear hf sS; intro fr1 hf sS
 refine Zx hK4 (Fact.cond_t sS.2.2.2 ?_)
 refine Ze fun _ hK5 => Zr [] hf ?_
 refine Zq2 2 3 hf ?_
 clear hf sS; intro fr1 hf sS
 refine Zx hK5 (Zret ?_)
 exact Fact.ret2 rfl hf sS.1 sS.2 ⟨rfl, hb⟩
theorem open_g (w : World) (s : ByteArray) (hsz : s.size <= 900000000) (en : Nat) (init : Nat) (ss : List State) (hp : pGet s = .ok (en, init, ss)) (hlen : ss.length <= 1000000) (hok : ∀ s ∈ ss, okS s) (hin : init < M64) : Calls Tryz.prog 15 #[.string s] w fun e w1 => OpenG w w1 e s en init ss (rightS en ss init) := by
 refine Zn1 28 Tryz.func15 fun fr hf s0 => ?_
 refine Ze fun _ hK1 => Zr [] hf ?_
 refine Zq1 0 hf ?_
 clear hf s0; intro fr1 hf s0
 refine Zt hK1 fun _ hK2 => ?_
 have bB := hf.B7 8 9 7 10 11 12 5
 refine Zy ?_
 refine Zc (get15 w s hsz) ?_; rintro e w1 hg
 rw [hp] at hg
 obtain ⟨sv, rfl, hrs, hb1⟩ := hg
 obtain ⟨A, cc, rfl, hcc⟩ := hrs.form
 refine Zv ?_
 iterate 8 refine Zy ?_
 refine Fact.nil (Zq4 0 4 5 6 hf ?_)
 clear hf s0 bB; intro fr1 hf sS
 generalize hW2 : w1.alloc (.cells #[.slice A ss.length cc, .int .u64 init] 38) = W2
 obtain ⟨hb2, c0, c1, -, -⟩ := box2 hW2
 replace hrs := hrs.later hb2
 have hb := hb1.trans (hb2.mono hb1.size)
 clear hW2 hb1 hb2
 refine Zs hK2 fun _ hK3 => Ze fun _ hK4 => rg ?_
 have bB := hf.B7 13 14 15 16 17 18 19
 iterate 5 refine Zy ?_
 refine Zd (right38 W2 en _ init ss hrs hlen hok hin) ?_; rintro e w3 ⟨rfl, hb3⟩
 generalize hr : rightS en ss init = r
 have HR := Lib.hid hr; clear hr
 replace hrs := hrs.later hb3; replace c0 := cL hb3 c0; replace c1 := cL hb3 c1; replace hb := hb.trans (hb3.mono hb.size); clear hb3
 refine Zv ?_
 iterate 2 refine Zy ?_
 refine Fact.nil (Zq4 0 4 5 20 hf ?_)
 clear hf sS bB; intro fr1 hf sS
 refine Zx hK4 (Fact.cond_s sS.2.2.2 (fun hq => ?_) (fun hq => ?_))
 . (
 have hr : r = false := by simpa using hq
 clear hq
 subst hr
 refine Ze fun _ hK5 => Zr [] hf ?_
 refine Zq2 2 3 hf ?_
 clear hf sS; intro fr1 hf sS
 refine Zx hK5 (Zret ?_)
 exact Fact.ret2 rfl hf sS.1 sS.2 (by rw [HR.out]; exact ⟨rfl, hb⟩))
 . (
 have hr : r = true := by simpa using hq
 clear hq
 subst hr
 obtain ⟨W4, hW4⟩ : ∃ x, w3.alloc (.cells #[.slice A ss.length cc, .int .u64 init, .int .i64 en, .int .i64 s.size] 98) = x := ⟨_, rfl⟩
 refine wp_skip (Zs hK3 fun _ hK6 => Zr [21, 22, 23, 24, 25, 26, 27] hf ?_)
 refine Zq2 2 3 hf ?_
 clear hf sS; intro fr1 hf sS
 try rw [hW4]
 obtain ⟨hb4, hS⟩ := box_row hW4
 obtain ⟨S, hSq⟩ : ∃ x, w3.heap.size = x := ⟨_, rfl⟩
 have hsz3 : w.heap.size <= S := by rw [<- hSq]; exact hb.size
 obtain ⟨s2, s3⟩ := sS
 rw [hSq] at hS s2
 clear hSq hW4
 replace hrs := hrs.later hb4; replace hb := hb.trans (hb4.mono hb.size)
 refine Zx hK6 (Zret ?_)
 exact Fact.ret2 rfl hf s2 s3 (by rw [HR.out]; exact ⟨S, _, rfl, hsz3, hS, hrs, hb⟩))
theorem open15 (w : World) (s : ByteArray) (hsz : s.size <= 900000000) (hlen : ∀ en init ss, pGet s = .ok (en, init, ss) -> ss.length <= 1000000) : Calls Tryz.prog 15 #[.string s] w fun e w1 => OpenR w w1 e s := by
 unfold OpenR
 cases hp : pGet s with
 | error b => exact open_e w s hsz b hp
 | ok x =>
  obtain ⟨en, init, ss⟩ := x
  obtain ⟨-, h2, h3, -, -⟩ := pGet_back hsz hp
  exact open_g w s hsz en init ss hp (hlen _ _ _ hp) h2 h3
theorem open_two {w w1 : World} {e : Ending} {s : ByteArray} (h : OpenR w w1 e s) : ∃ pv cv, e = .returned (.tuple #[pv, cv]) /\ Below w.heap.size w w1 /\ ((openV s = false /\ pv = .pointer none /\ cv = .int .i64 12) \/ (openV s = true /\ ∃ S, pv = .pointer (some ⟨S, 0, none⟩) /\ cv = .int .i64 0)) := by
 unfold OpenR at h
 unfold openV
 cases hp : pGet s with
 | error b => rw [hp] at h; exact ⟨_, _, h.1, h.2, .inl ⟨rfl, rfl, rfl⟩⟩
 | ok x =>
  obtain ⟨en, init, ss⟩ := x
  rw [hp] at h
  simp only at h |-
  cases hr : rightS en ss init with
  | false => rw [hr] at h; exact ⟨_, _, h.1, h.2, .inl ⟨rfl, rfl, rfl⟩⟩
  | true => rw [hr] at h; obtain ⟨S, sv, h1, _, _, _, h2⟩ := h; exact ⟨_, _, h1, h2, .inr ⟨rfl, S, rfl, rfl⟩⟩
theorem corrupt11 (w : World) (s : ByteArray) (hsz : s.size <= 900000000) (hlen : ∀ en init ss, pGet s = .ok (en, init, ss) -> ss.length <= 1000000) : Calls Tryz.prog 11 #[.string s] w fun e w1 => e = .returned (.bool (!openV s)) /\ Below w.heap.size w w1 := by
 refine Zn1 16 Tryz.func11 fun fr hf s0 => ?_
 refine Ze fun _ hK1 => Zr [] hf ?_
 refine Zq1 0 hf ?_
 clear hf s0; intro fr1 hf s0
 refine Zt hK1 fun _ hK2 => ?_
 have bB := hf.B5 6 7 5 8 9
 refine Zy ?_
 refine Zc (open15 w s hsz hlen) ?_; rintro e w1 hg
 obtain ⟨pv, cv, rfl, hb1, hh⟩ := open_two hg
 refine Zv ?_
 iterate 5 refine Zy ?_
 refine Fact.nil (Zq2 3 4 hf ?_)
 clear hf s0 bB; intro fr1 hf sS
 refine Zx hK2 ?_
 rcases hh with hh | hh
 . (
 obtain ⟨hv, rfl, rfl⟩ := hh
 refine Ze fun _ hK3 => Zr [10, 11, 12, 13, 14, 15] hf ?_
 refine Zq1 2 hf ?_
 clear hf sS; intro fr1 hf s2
 refine Zx hK3 (Zret ?_)
 exact Fact.ret1 rfl hf s2 ⟨by rw [hv]; rfl, hb1⟩)
 . (
 obtain ⟨hv, S, rfl, rfl⟩ := hh
 refine Ze fun _ hK4 => Zr [10, 11, 12, 13, 14, 15] hf ?_
 refine Zq1 2 hf ?_
 clear hf sS; intro fr1 hf s2
 refine Zx hK4 (Zret ?_)
 exact Fact.ret1 rfl hf s2 ⟨by rw [hv]; rfl, hb1⟩)
theorem len19 (w : World) (S : Nat) (sv : Value) (init : Nat) (en sz : Int) (hS : w.heap[S]? = some (.cells #[sv, .int .u64 init, .int .i64 en, .int .i64 sz] 98 (0, 0))) : Calls Tryz.prog 19 #[.pointer (some ⟨S, 0, none⟩)] w fun e w1 => e = .returned (.int .i64 en) /\ Below w.heap.size w w1 := by
 refine Zn1 9 Tryz.func19 fun fr hf s0 => ?_
 have c0 := cR1 0 hS
 have c1 := cR1 1 hS
 have c2 := cR1 2 hS
 have c3 := cR1 3 hS
 simp at c0 c1 c2 c3
 refine Ze fun _ hK1 => Zr [] hf ?_
 refine Zq1 0 hf ?_
 clear hf s0; intro fr1 hf s0
 refine Zs hK1 fun _ hK2 => Ze fun _ hK3 => Zr [3] hf ?_
 refine Zq2 0 4 hf ?_
 clear hf s0; intro fr1 hf sS
 refine Zx hK3 (Fact.cond_f sS.2 ?_)
 refine wp_skip (Zs hK2 fun _ hK4 => Zr [5, 6, 7, 8] hf ?_)
 refine Zq1 2 hf ?_
 clear hf sS; intro fr1 hf s2
 refine Zx hK4 (Zret ?_)
 exact Fact.ret1 rfl hf s2 ⟨rfl, Below.refl _ _⟩
theorem size20 (w : World) (S : Nat) (sv : Value) (init : Nat) (en sz : Int) (hS : w.heap[S]? = some (.cells #[sv, .int .u64 init, .int .i64 en, .int .i64 sz] 98 (0, 0))) : Calls Tryz.prog 20 #[.pointer (some ⟨S, 0, none⟩)] w fun e w1 => e = .returned (.int .i64 sz) /\ Below w.heap.size w w1 := by
 refine Zn1 9 Tryz.func20 fun fr hf s0 => ?_
 have c0 := cR1 0 hS
 have c1 := cR1 1 hS
 have c2 := cR1 2 hS
 have c3 := cR1 3 hS
 simp at c0 c1 c2 c3
 refine Ze fun _ hK1 => Zr [] hf ?_
 refine Zq1 0 hf ?_
 clear hf s0; intro fr1 hf s0
 refine Zs hK1 fun _ hK2 => Ze fun _ hK3 => Zr [3] hf ?_
 refine Zq2 0 4 hf ?_
 clear hf s0; intro fr1 hf sS
 refine Zx hK3 (Fact.cond_f sS.2 ?_)
 refine wp_skip (Zs hK2 fun _ hK4 => Zr [5, 6, 7, 8] hf ?_)
 refine Zq1 2 hf ?_
 clear hf sS; intro fr1 hf s2
 refine Zx hK4 (Zret ?_)
 exact Fact.ret1 rfl hf s2 ⟨rfl, Below.refl _ _⟩
theorem fst26 (w : World) (S : Nat) (sv : Value) (init : Nat) (en sz : Int) (hS : w.heap[S]? = some (.cells #[sv, .int .u64 init, .int .i64 en, .int .i64 sz] 98 (0, 0))) (hsv : ∃ A n c, sv = .slice A n c) : Calls Tryz.prog 26 #[.pointer (some ⟨S, 0, none⟩)] w fun e w1 => e = .returned (.agg #[sv, .int .u64 init]) /\ Below w.heap.size w w1 := by
 refine Zn1 11 Tryz.func26 fun fr hf s0 => ?_
 obtain ⟨A, n, cc, rfl⟩ := hsv
 have c0 := cR1 0 hS
 have c1 := cR1 1 hS
 have c2 := cR1 2 hS
 have c3 := cR1 3 hS
 simp at c0 c1 c2 c3
 refine Ze fun _ hK1 => Zr [] hf ?_
 refine Zq2 0 2 hf ?_
 clear hf s0; intro fr1 hf sS
 generalize hW0 : w.alloc (.cells #[.slice none 0 0, .int .u64 0] 38) = W0
 obtain ⟨hb0, hp0⟩ := box_row hW0
 have r0 := cR1 0 hp0; have r1 := cR1 1 hp0; have f0 := frozen_of (i := 0) hp0; have f1 := frozen_of (i := 1) hp0
 simp at r0 r1
 replace c0 := cL hb0 c0
 replace c1 := cL hb0 c1
 replace c2 := cL hb0 c2
 replace c3 := cL hb0 c3
 clear hW0
 refine Zs hK1 fun _ hK2 => Ze fun _ hK3 => Zr [3] hf ?_
 refine Zq3 0 2 4 hf ?_
 clear hf sS; intro fr1 hf sS
 refine Zx hK3 (Fact.cond_f sS.2.2 ?_)
 refine wp_skip (Zs hK2 fun _ hK4 => Zr [6, 7, 8, 9, 10] hf ?_)
 refine Zq1 2 hf ?_
 clear hf sS; intro fr1 hf s2
 refine Zx hK4 (Zret ?_)
 exact ret_c rfl hf s2 (set_block (set_block hp0 _) _) Tryz.underlying38 rfl (by kernel_rfl) ⟨by simp, (hb0.setCell (p := ⟨w.heap.size, 0, none⟩) (Nat.le_refl _) _).setCell (p := ⟨w.heap.size, 1, none⟩) (Nat.le_refl _) _⟩
theorem rfrom43 (w : World) (sv : Value) (init : Nat) (ss : List State) (s : ByteArray) (n : Int) (hrs : RS w sv ss) (hs : s.size <= 1000000000) (hin : init < M64) (hn : n <= 1000000) (hlen : ss.length <= 1000000) (hok : ∀ s ∈ ss, okS s) (hfm : ∀ (k : Nat) (st : State), ss[k]? = some st -> okArcs k (-1) st.arcs = true) : Calls Tryz.prog 43 #[.agg #[sv, .int .u64 init], .string s, .int .i64 n] w fun e w1 => ∃ v, e = .returned v /\ OE w1 w.heap.size v (fromV ss init s n) /\ Below w.heap.size w w1 := by
 refine Zn3 12 Tryz.func43 fun fr hf s0 s1 s2 => ?_
 obtain ⟨A, cc, rfl, hcc⟩ := hrs.form
 refine Ze fun _ hK1 => Zr [] hf ?_
 refine Zq3 1 2 3 hf ?_
 clear hf s0 s1 s2; intro fr1 hf sS
 generalize hW0 : w.alloc (.cells #[.slice A ss.length cc, .int .u64 init] 96) = W0
 obtain ⟨hb, c0, c1, -, -⟩ := box2 hW0
 clear hW0
 replace hrs := hrs.later hb
 refine Zt hK1 fun _ hK2 => ?_
 have bB := hf.B5 7 8 9 10 11
 iterate 4 refine Zy ?_
 refine Zc (from81 W0 _ init ss s n hrs hs hin hn hlen hok hfm) ?_; rintro e w1 ⟨v, rfl, how, hb1⟩
 refine Zv ?_
 refine Zy ?_
 refine Fact.nil (Zq1 6 hf ?_)
 clear hf sS bB; intro fr1 hf s6
 refine Zx hK2 (Zret ?_)
 exact Fact.ret1 rfl hf s6 ⟨_, rfl, own_less how hb.size, hb.trans (hb1.mono hb.size)⟩
theorem sfrom24 (w : World) (sv : Value) (init : Nat) (ss : List State) (S : Nat) (en sz : Int) (hS : w.heap[S]? = some (.cells #[sv, .int .u64 init, .int .i64 en, .int .i64 sz] 98 (0, 0))) (s : ByteArray) (n : Int) (hrs : RS w sv ss) (hs : s.size <= 1000000000) (hin : init < M64) (hn : n <= 1000000) (hlen : ss.length <= 1000000) (hok : ∀ s ∈ ss, okS s) (hfm : ∀ (k : Nat) (st : State), ss[k]? = some st -> okArcs k (-1) st.arcs = true) : Calls Tryz.prog 24 #[.pointer (some ⟨S, 0, none⟩), .string s, .int .i64 n] w fun e w1 => ∃ v, e = .returned v /\ OE w1 w.heap.size v (fromV ss init s n) /\ Below w.heap.size w w1 := by
 refine Zn3 16 Tryz.func24 fun fr hf s0 s1 s2 => ?_
 obtain ⟨A, cc, rfl, hcc⟩ := hrs.form
 have c0 := cR1 0 hS
 have c1 := cR1 1 hS
 simp at c0 c1
 refine Ze fun _ hK1 => Zr [] hf ?_
 refine Zq3 0 1 2 hf ?_
 clear hf s0 s1 s2; intro fr1 hf sS
 refine Zs hK1 fun _ hK2 => Ze fun _ hK3 => Zr [7] hf ?_
 refine Zq4 0 1 2 8 hf ?_
 clear hf sS; intro fr1 hf sS
 refine Zx hK3 (Fact.cond_f sS.2.2.2 ?_)
 refine wp_skip (Zt hK2 fun _ hK4 => ?_)
 have bB := hf.B7 9 10 11 12 13 14 15
 iterate 6 refine Zy ?_
 refine Zc (rfrom43 w _ init ss s n hrs hs hin hn hlen hok hfm) ?_; rintro e w1 ⟨v, rfl, how, hb1⟩
 refine Zv ?_
 refine Zy ?_
 refine Fact.nil (Zq1 6 hf ?_)
 clear hf sS bB; intro fr1 hf s6
 refine Zx hK4 (Zret ?_)
 exact Fact.ret1 rfl hf s6 ⟨_, rfl, how, hb1⟩
theorem all16 (w : World) (sv : Value) (init : Nat) (ss : List State) (S : Nat) (en sz : Int) (hS : w.heap[S]? = some (.cells #[sv, .int .u64 init, .int .i64 en, .int .i64 sz] 98 (0, 0))) (hrs : RS w sv ss) (hin : init < M64) (hn : en <= 1000000) (hlen : ss.length <= 1000000) (hok : ∀ s ∈ ss, okS s) (hfm : ∀ (k : Nat) (st : State), ss[k]? = some st -> okArcs k (-1) st.arcs = true) : Calls Tryz.prog 16 #[.pointer (some ⟨S, 0, none⟩)] w fun e w1 => ∃ v, e = .returned v /\ OE w1 w.heap.size v (fromV ss init ⟨#[]⟩ en) /\ Below w.heap.size w w1 := by
 refine Zn1 7 Tryz.func16 fun fr hf s0 => ?_
 obtain ⟨A, cc, rfl, hcc⟩ := hrs.form
 refine Ze fun _ hK1 => Zr [] hf ?_
 refine Zq1 0 hf ?_
 clear hf s0; intro fr1 hf s0
 refine Zt hK1 fun _ hK2 => ?_
 have bB := hf.B4 3 4 5 6
 iterate 2 refine Zy ?_
 refine Zc (len19 w S _ init en sz hS) ?_; rintro e w1 ⟨rfl, hb1⟩
 replace hrs := hrs.later hb1
 have hS1 := (hb1.block _ (heap_lt hS)).trans hS
 refine Zv ?_
 refine Zc (sfrom24 w1 _ init ss S en sz hS1 ⟨#[]⟩ en hrs (by decide) hin hn hlen hok hfm) ?_; rintro e w2 ⟨v, rfl, how, hb2⟩
 refine Zv ?_
 refine Zy ?_
 refine Fact.nil (Zq1 2 hf ?_)
 clear hf s0 bB; intro fr1 hf s2
 refine Zx hK2 (Zret ?_)
 exact Fact.ret1 rfl hf s2 ⟨_, rfl, own_less how hb1.size, hb1.trans (hb2.mono hb1.size)⟩
def makeV (es : List Ent) : ByteArray × Nat := if es.length = 0 then (⟨#[]⟩, 2) else if chkN es ≠ 0 then (⟨#[]⟩, chkN es) else (bl (putR es.length (buildF es).init (buildF es).states).1, (putR es.length (buildF es).init (buildF es).states).2)
theorem make_0 (w : World) (es : List Ent) (B : Nat) (v : Value) (hB : B <= w.heap.size) (hre : RE w B v es) (hlen : es.length <= 100) (hes : ∀ e ∈ es, okE e) (hin : (buildF es).init < 18446744073709551616) (h0 : es.length = 0) : Calls Tryz.prog 9 #[v] w fun e w1 => e = .returned (.tuple #[.string (makeV es).1, .int .i64 (makeV es).2]) /\ Below w.heap.size w w1 := by
 refine Zn1 28 Tryz.func9 fun fr hf s0 => ?_
 obtain ⟨A, cc, rfl, hcc⟩ := hre.form
 have q1 : ((es.length : Int) == 0) = true := beq_iff_eq.2 (by omega)
 refine Ze fun _ hK1 => Zr [] hf ?_
 refine Zq1 0 hf ?_
 clear hf s0; intro fr1 hf s0
 refine Zs hK1 fun _ hK2 => Ze fun _ hK3 => ?_
 have qs := q1
 refine Zr [6, 7, 8, 9, 10, 11, 12] hf ?_
 refine Zq2 0 13 hf ?_
 clear hf s0 qs; intro fr1 hf sS
 refine Zx hK3 (Fact.cond_t sS.2 ?_)
 refine Ze fun _ hK4 => Zr [] hf ?_
 refine Zq2 2 3 hf ?_
 clear hf sS; intro fr1 hf sS
 refine Zx hK4 (Zret ?_)
 exact Fact.ret2 rfl hf sS.1 sS.2 ⟨by unfold makeV; rw [if_pos h0]; rfl, Below.refl _ _⟩
theorem make_1 (w : World) (es : List Ent) (B : Nat) (v : Value) (hB : B <= w.heap.size) (hre : RE w B v es) (hlen : es.length <= 100) (hes : ∀ e ∈ es, okE e) (hin : (buildF es).init < 18446744073709551616) (h0 : ¬ es.length = 0) : Calls Tryz.prog 9 #[v] w fun e w1 => e = .returned (.tuple #[.string (makeV es).1, .int .i64 (makeV es).2]) /\ Below w.heap.size w w1 := by
 refine Zn1 28 Tryz.func9 fun fr hf s0 => ?_
 obtain ⟨A, cc, rfl, hcc⟩ := hre.form
 have q1 : ((es.length : Int) == 0) = false := beq_eq_false_iff_ne.2 (by omega)
 have q2 : decide ((100000 : Int) < (es.length : Int)) = false := decide_eq_false (by omega)
 refine Ze fun _ hK1 => Zr [] hf ?_
 refine Zq1 0 hf ?_
 clear hf s0; intro fr1 hf s0
 refine Zs hK1 fun _ hK2 => Ze fun _ hK3 => ?_
 have qs := And.intro q1 q2
 refine Zr [6, 7, 8, 9, 10, 11, 12] hf ?_
 refine Zq2 0 13 hf ?_
 clear hf s0 qs; intro fr1 hf sS
 refine Zx hK3 (Fact.cond_f sS.2 ?_)
 clear q1 q2
 refine wp_skip (Zt hK2 fun _ hK4 => ?_)
 have bB := hf.B6 15 16 14 17 18 4
 refine Zy ?_
 refine Zc (build8 w es B _ hB hre hlen hes) ?_; rintro e w1 ⟨sv, rfl, hrs, hok, hsl, hb1⟩
 obtain ⟨A2, c2, rfl, hc2⟩ := hrs.form
 refine Zv ?_
 iterate 6 refine Zy ?_
 refine Fact.nil (Zq3 0 4 5 hf ?_)
 clear hf sS bB; intro fr1 hf sS
 generalize hW2 : w1.alloc (.cells #[.slice A2 (buildF es).states.length c2, .int .u64 (buildF es).init] 38) = W2
 obtain ⟨hb2, c0, c1, -, -⟩ := box2 hW2
 replace hrs := hrs.later hb2
 have hb := hb1.trans (hb2.mono hb1.size)
 clear hW2 hb1 hb2 hre
 refine Zs hK4 fun _ hK5 => Ze fun _ hK6 => Zr [19] hf ?_
 refine Zq4 0 4 5 20 hf ?_
 clear hf sS; intro fr1 hf sS
 refine Zx hK6 (Fact.cond_s sS.2.2.2 (fun hq => ?_) (fun hq => ?_))
 . (
 have hne : chkN es ≠ 0 := by intro h; rw [h] at hq <;> simp at hq
 clear hq
 refine Ze fun _ hK7 => Zr [21] hf ?_
 refine Zq2 2 3 hf ?_
 clear hf sS; intro fr1 hf sS
 refine Zx hK7 (Zret ?_)
 exact Fact.ret2 rfl hf sS.1 sS.2 ⟨by unfold makeV; rw [if_neg h0, if_pos hne], hb⟩)
 . (
 have heq : chkN es = 0 := by simpa using hq
 clear hq
 refine wp_skip (Zt hK5 fun _ hK8 => ?_)
 have bB := hf.B6 22 23 24 25 26 27
 iterate 3 refine Zy ?_
 refine Zc (put14 W2 es.length _ (buildF es).init (buildF es).states hrs (fun s hs => (hok s hs).ok) (by omega) (fun s hs => Nat.le_trans (hok s hs).few (by omega)) hin) ?_; rintro e w3 ⟨rfl, hb3⟩
 have hbz := hb.trans (hb3.mono hb.size)
 clear hrs hb hb3 c0 c1
 refine Zv ?_
 iterate 4 refine Zy ?_
 refine Fact.nil (Zq2 2 3 hf ?_)
 clear hf sS bB; intro fr1 hf sS
 refine Zx hK8 (Zret ?_)
 exact Fact.ret2 rfl hf sS.1 sS.2 ⟨by unfold makeV; rw [if_neg h0, if_neg (fun h => h heq)], hbz⟩)
theorem make9 (w : World) (es : List Ent) (B : Nat) (v : Value) (hB : B <= w.heap.size) (hre : RE w B v es) (hlen : es.length <= 100) (hes : ∀ e ∈ es, okE e) (hin : (buildF es).init < 18446744073709551616) : Calls Tryz.prog 9 #[v] w fun e w1 => e = .returned (.tuple #[.string (makeV es).1, .int .i64 (makeV es).2]) /\ Below w.heap.size w w1 := by
 by_cases h0 : es.length = 0
 ·exact make_0 w es B v hB hre hlen hes hin h0
 ·exact make_1 w es B v hB hre hlen hes hin h0
end Dw
namespace Crc
def Lk : Nat -> Nat -> Nat
 | 0, x => x
 | k + 1, x => Lk k (L x)
theorem Lk_pow : ∀ (k x : Nat), Lk k (2 ^ k * x) = x
 | 0, x => by simp [Lk]
 | k + 1, x => by rw [Lk, show 2 ^ (k + 1) * x = 2 * (2 ^ k * x) by rw [Nat.pow_succ, Nat.mul_comm (2 ^ k) 2, Nat.mul_assoc], L_double, Lk_pow k]
theorem Lk_add : ∀ (j k x : Nat), Lk (j + k) x = Lk k (Lk j x)
 | 0, k, x => by simp [Lk]
 | j + 1, k, x => by rw [show j + 1 + k = (j + k) + 1 by omega, Lk, Lk, Lk_add j k]
theorem L_lt {x : Nat} (h : x < 4294967296) : L x < 4294967296 := by
 unfold L
 split
 ·exact Nat.xor_lt_two_pow (n := 32) (by omega) (by decide)
 ·omega
theorem L_ne {x : Nat} (h : x < 4294967296) (h0 : x ≠ 0) : L x ≠ 0 := by
 unfold L
 split
 ·intro e
  have h1 : (x / 2 ^^^ poly).testBit 31 = false := by rw [e]; simp
  rw [Nat.testBit_xor, Nat.testBit_lt_two_pow (show x / 2 < 2 ^ 31 by omega)] at h1
  exact absurd h1 (by decide)
 ·omega
theorem Lk_ne : ∀ (k : Nat) {x : Nat}, x < 4294967296 -> x ≠ 0 -> Lk k x ≠ 0
 | 0, _, _, h0 => h0
 | k + 1, _, h, h0 => Lk_ne k (L_lt h) (L_ne h h0)
def val : List Nat -> Nat
 | [] => 0
 | b :: l => b + 2 * val l
theorem fold_val : ∀ (l : List Nat) (d : Nat), (∀ b ∈ l, b < 2) -> l.foldl bit d = Lk l.length (d ^^^ val l)
 | [], d, _ => by simp [Lk, val]
 | b :: l, d, h => by
  have hb := h b (List.mem_cons_self ..)
  rw [List.foldl_cons, fold_val l _ (fun x hx => h x (List.mem_cons_of_mem _ hx)), List.length_cons, Lk, val, bit_L _ _ hb]
  have e : b + 2 * val l = b ^^^ (2 * val l) := by
   rcases (show b = 0 \/ b = 1 by omega) with rfl | rfl
   ·simp
   ·refine Nat.eq_of_testBit_eq fun i => ?_
    rw [Nat.testBit_xor]
    cases i with
    | zero => simp
    | succ i =>
     rw [Nat.testBit_succ, Nat.testBit_succ, Nat.testBit_succ, show (1 + 2 * val l) / 2 = val l by omega, show (1 : Nat) / 2 = 0 by rfl, show 2 * val l / 2 = val l by omega]
     simp
  rw [e, <- Nat.xor_assoc, L_xor (d ^^^ b) (2 * val l), L_double]
theorem val_lt : ∀ (l : List Nat), (∀ b ∈ l, b < 2) -> val l < 2 ^ l.length
 | [], _ => by simp [val]
 | b :: l, h => by
  have h1 := val_lt l fun x hx => h x (List.mem_cons_of_mem _ hx)
  have h2 := h b (List.mem_cons_self ..)
  rw [val, List.length_cons, Nat.pow_succ]
  omega
theorem val_append : ∀ (a b : List Nat), val (a ++ b) = val a + 2 ^ a.length * val b
 | [], b => by simp [val]
 | x :: a, b => by
  rw [List.cons_append, val, val, val_append a b, List.length_cons, Nat.pow_succ, Nat.mul_add, <- Nat.mul_assoc, Nat.mul_comm 2 (2 ^ a.length), Nat.add_assoc]
theorem val_zeros : ∀ (l : List Nat), (∀ b ∈ l, b = 0) -> val l = 0
 | [], _ => rfl
 | b :: l, h => by rw [val, val_zeros l fun x hx => h x (List.mem_cons_of_mem _ hx), h b (List.mem_cons_self ..)]
theorem zeros_val : ∀ (l : List Nat), val l = 0 -> ∀ b ∈ l, b = 0
 | [], _, _, hb => by cases hb
 | x :: l, h, b, hb => by
  rw [val] at h
  rcases List.mem_cons.1 hb with rfl | hb
  ·omega
  ·exact zeros_val l (by omega) b hb
theorem burst_bits {l : List Nat} (h : ∀ b ∈ l, b < 2) (p : Nat) (hp : ∀ i b, l[i]? = some b -> i < p \/ p + 32 <= i -> b = 0) (h0 : l.foldl bit 0 = 0) : ∀ b ∈ l, b = 0 := by
 rw [fold_val l 0 h, Nat.zero_xor] at h0
 rcases Nat.lt_or_ge l.length p with hl | hl
 ·intro b hb
  obtain ⟨i, hi⟩ := List.mem_iff_getElem?.1 hb
  exact hp i b hi (.inl (by have := (gS1 hi).1; omega))
 ·have e1 : val (l.take p) = 0 := val_zeros _ fun b hb => by
   obtain ⟨i, hi⟩ := List.mem_iff_getElem?.1 hb
   rw [List.getElem?_take] at hi
   split at hi
   ·exact hp i b hi (.inl (by assumption))
   ·cases hi
  have e2 : val ((l.drop p).drop 32) = 0 := val_zeros _ fun b hb => by
   obtain ⟨i, hi⟩ := List.mem_iff_getElem?.1 hb
   rw [List.drop_drop, List.getElem?_drop] at hi
   exact hp _ b hi (.inr (by omega))
  have e3 : val (l.drop p) < 4294967296 := by
   have h5 : l.drop p = (l.drop p).take 32 ++ (l.drop p).drop 32 := (List.take_append_drop ..).symm
   rw [h5, val_append, e2, Nat.mul_zero, Nat.add_zero]
   refine Nat.lt_of_lt_of_le (val_lt _ fun b hb => h b (List.mem_of_mem_drop (List.mem_of_mem_take hb))) ?_
   exact Nat.le_trans (Nat.pow_le_pow_right (by omega) (by rw [List.length_take]; exact Nat.min_le_left ..)) (Nat.le_refl (2 ^ 32))
  have e4 : val l = 2 ^ p * val (l.drop p) := by
   conv => lhs; rw [<- List.take_append_drop p l]
   rw [val_append, e1, Nat.zero_add, List.length_take, Nat.min_eq_left hl]
  have e5 : val (l.drop p) = 0 := by
   refine Classical.byContradiction fun hne => ?_
   rw [e4, show l.length = p + (l.length - p) by omega, Lk_add, Lk_pow] at h0
   exact Lk_ne _ e3 hne h0
  exact zeros_val l (by rw [e4, e5, Nat.mul_zero])
def bits8 (c : Nat) : List Nat := [c % 2, c / 2 % 2, c / 4 % 2, c / 8 % 2, c / 16 % 2, c / 32 % 2, c / 64 % 2, c / 128 % 2]
def bitsOf (l : List Nat) : List Nat := l.flatMap bits8
theorem bitsOf_length (l : List Nat) : (bitsOf l).length = 8 * l.length := by
 induction l with
 | nil => rfl
 | cons c l ih => simp only [bitsOf, List.flatMap_cons, List.length_append, List.length_cons] at ih |-; rw [ih]; simp [bits8]; omega
theorem bitsOf_lt {l : List Nat} : ∀ b ∈ bitsOf l, b < 2 := fun b hb => by
 obtain ⟨c, _, h⟩ := List.mem_flatMap.1 hb
 simp [bits8] at h
 omega
theorem run_bits (l : List Nat) : ∀ n, run n l = (bitsOf l).foldl bit n := by
 induction l with
 | nil => exact fun _ => rfl
 | cons c l ih =>
  intro n
  have e : run n (c :: l) = run (byte n c) l := rfl
  rw [e, ih]
  simp only [bitsOf, List.flatMap_cons, List.foldl_append]
  rfl
theorem fold_xor : ∀ (a b : List Nat) (n m : Nat), a.length = b.length -> (∀ x ∈ a, x < 2) -> (∀ x ∈ b, x < 2) -> a.foldl bit n ^^^ b.foldl bit m = (List.zipWith (. ^^^ ·) a b).foldl bit (n ^^^ m)
 | [], [], n, m, _, _, _ => rfl
 | x :: a, y :: b, n, m, hl, ha, hb => by
  have hx := ha x (List.mem_cons_self ..)
  have hy := hb y (List.mem_cons_self ..)
  rw [List.foldl_cons, List.foldl_cons, fold_xor a b _ _ (by simpa using hl) (fun z hz => ha z (List.mem_cons_of_mem _ hz)) (fun z hz => hb z (List.mem_cons_of_mem _ hz)), List.zipWith_cons_cons, List.foldl_cons]
  congr 1
  have hxy : x ^^^ y < 2 := Nat.xor_lt_two_pow (n := 1) (by omega) (by omega)
  rw [bit_L _ _ hx, bit_L _ _ hy, bit_L _ _ hxy, <- L_xor]
  congr 1
  simp only [Nat.xor_assoc]
  congr 1
  rw [<- Nat.xor_assoc x m y, Nat.xor_comm x m, Nat.xor_assoc]
 | [], _ :: _, _, _, hl, _, _ => by simp at hl
 | _ :: _, [], _, _, hl, _, _ => by simp at hl
theorem four_bits (n : Nat) (h : n < 4294967296) : val (bitsOf (four n)) = n := by
 simp only [bitsOf, four, bits8, List.flatMap_cons, List.flatMap_nil, List.append_nil, List.cons_append, List.nil_append, val]
 omega
theorem run_seal {l : List Nat} (h : ∀ x ∈ l, x < 256) : run 4294967295 (seal' l) = Lk 32 4294967295 := by
 have h1 : run 4294967295 (seal' l) = run (run 4294967295 l) (four (sum l)) := by unfold run seal'; rw [List.foldl_append]
 have hr := run_lt l h 4294967295 (by omega)
 rw [h1, run_bits, fold_val _ _ bitsOf_lt, bitsOf_length, four_bits _ (sum_lt l)]
 have e : run 4294967295 l ^^^ sum l = 4294967295 := by
  unfold sum
  generalize run 4294967295 l = n at hr
  refine Nat.eq_of_testBit_eq fun i => ?_
  have h9 := Nat.testBit_two_pow_sub_succ (n := 32) (x := n) hr i
  have h8 := Nat.testBit_two_pow_sub_one 32 i
  rw [show (2 : Nat) ^ 32 - (n + 1) = 4294967295 - n by omega] at h9
  rw [show (2 : Nat) ^ 32 - 1 = 4294967295 by rfl] at h8
  rw [Nat.testBit_xor, h9, h8]
  by_cases hi : i < 32
  ·simp [hi]
  ·have h7 : n.testBit i = false := Nat.testBit_lt_two_pow (Nat.lt_of_lt_of_le hr (show 2 ^ 32 <= 2 ^ i from Nat.pow_le_pow_right (by omega) (by omega)))
   simp [hi, h7]
 rw [e]
 rfl
def bitAt (l : List Nat) (i : Nat) : Nat := l.getD (i / 8) 0 / 2 ^ (i % 8) % 2
theorem bitsOf_at : ∀ (l : List Nat) (i : Nat), i < 8 * l.length -> (bitsOf l)[i]? = some (bitAt l i)
 | [], i, h => by simp at h
 | c :: l, i, h => by
  simp only [bitsOf, List.flatMap_cons]
  rcases Nat.lt_or_ge i 8 with h8 | h8
  ·rw [List.getElem?_append_left (by simpa [bits8] using h8)]
   unfold bitAt
   rw [show i / 8 = 0 by omega, show i % 8 = i by omega]
   rcases (show i = 0 \/ i = 1 \/ i = 2 \/ i = 3 \/ i = 4 \/ i = 5 \/ i = 6 \/ i = 7 by omega) with rfl | rfl | rfl | rfl | rfl | rfl | rfl | rfl <;> simp [bits8]
  ·rw [List.getElem?_append_right (by simpa [bits8] using h8)]
   have ih := bitsOf_at l (i - 8) (by simp only [List.length_cons] at h; omega)
   simp only [bitsOf] at ih
   rw [show (bits8 c).length = 8 from rfl, ih]
   unfold bitAt
   rw [show i / 8 = (i - 8) / 8 + 1 by omega, show i % 8 = (i - 8) % 8 by omega]
   simp
theorem bits8_inj {a b : Nat} (ha : a < 256) (hb : b < 256) (h : bits8 a = bits8 b) : a = b := by
 simp [bits8] at h
 omega
theorem bitsOf_inj : ∀ {a b : List Nat}, (∀ x ∈ a, x < 256) -> (∀ x ∈ b, x < 256) -> bitsOf a = bitsOf b -> a = b
 | [], [], _, _, _ => rfl
 | [], y :: b, _, _, h => by simp [bitsOf, bits8] at h
 | x :: a, [], _, _, h => by simp [bitsOf, bits8] at h
 | x :: a, y :: b, ha, hb, h => by
  simp only [bitsOf, List.flatMap_cons] at h
  have h1 := List.append_inj h rfl
  rw [bits8_inj (ha x (List.mem_cons_self ..)) (hb y (List.mem_cons_self ..)) h1.1, bitsOf_inj (fun z hz => ha z (List.mem_cons_of_mem _ hz)) (fun z hz => hb z (List.mem_cons_of_mem _ hz)) h1.2]
theorem burst {a b : List Nat} (ha : ∀ x ∈ seal' a, x < 256) (hb : ∀ x ∈ seal' b, x < 256) (hl : (seal' a).length = (seal' b).length) (p : Nat) (h : ∀ i, i < 8 * (seal' a).length -> i < p \/ p + 32 <= i -> bitAt (seal' a) i = bitAt (seal' b) i) : seal' a = seal' b := by
 have ra := run_seal (l := a) fun x hx => ha x (List.mem_append_left _ hx)
 have rb := run_seal (l := b) fun x hx => hb x (List.mem_append_left _ hx)
 generalize seal' a = A at *
 generalize seal' b = B at *
 have hlen : (bitsOf A).length = (bitsOf B).length := by rw [bitsOf_length, bitsOf_length, hl]
 have hx := fold_xor (bitsOf A) (bitsOf B) 4294967295 4294967295 hlen bitsOf_lt bitsOf_lt
 rw [<- run_bits, <- run_bits, ra, rb, Nat.xor_self, Nat.xor_self] at hx
 have hz := burst_bits (l := List.zipWith (. ^^^ ·) (bitsOf A) (bitsOf B)) (fun c hc => by
  obtain ⟨i, hi⟩ := List.mem_iff_getElem?.1 hc
  rw [List.getElem?_zipWith] at hi
  cases h1 : (bitsOf A)[i]? with
  | none => simp [h1] at hi
  | some x =>
   cases h2 : (bitsOf B)[i]? with
   | none => simp [h1, h2] at hi
   | some y =>
    simp [h1, h2] at hi
    subst hi
    exact Nat.xor_lt_two_pow (n := 1) (bitsOf_lt x (gM1 h1)) (bitsOf_lt y (gM1 h2))) p (fun i c hi hp => by
  have hlt := (gS1 hi).1
  rw [List.length_zipWith, bitsOf_length, bitsOf_length, hl, Nat.min_self] at hlt
  rw [List.getElem?_zipWith, bitsOf_at A i (by omega), bitsOf_at B i hlt, h i (by omega) hp] at hi
  simp at hi
  exact hi.symm) hx.symm
 refine bitsOf_inj ha hb (List.ext_getElem? fun i => ?_)
 rcases Nat.lt_or_ge i (bitsOf A).length with hi | hi
 ·have h2 : i < (bitsOf B).length := by omega
  have h3 : (List.zipWith (. ^^^ ·) (bitsOf A) (bitsOf B))[i]? = some ((bitsOf A)[i] ^^^ (bitsOf B)[i]) := by
   rw [List.getElem?_zipWith, gE1 hi, gE1 h2]
  have h4 := hz _ (gM1 h3)
  have h5 : (bitsOf A)[i] = (bitsOf B)[i] := by
   have h6 := congrArg (fun z => z ^^^ (bitsOf B)[i]) h4
   simpa [Nat.xor_assoc, Nat.xor_self] using h6
  rw [gE1 hi, gE1 h2, h5]
 ·rw [List.getElem?_eq_none hi, List.getElem?_eq_none (by omega)]
end Crc
namespace Dw
def OMg (w : World) (g cap : Nat) (l : List Nat) : Prop := ∃ cur, w.heap[g]? = some (.cells cur 5 (cap, cap + 1)) /\ l.length <= cap /\ cap <= maxLen /\ cur.size = cap /\ cur.toList.take l.length = bcs l
section
variable {w w' : World} {base g cap : Nat} {v : Value} {l : List Nat}
theorem OM.gb (h : OM w base v l) : ∃ g cap, v = .slice (some ⟨g, 0, none⟩) l.length cap /\ base <= g /\ OMg w g cap l := by
 obtain ⟨g, cap, cur, h1, h2, h3, h4, h5, h6, h7⟩ := h
 exact ⟨g, cap, h1, h2, cur, h3, h4, h5, h6, h7⟩
theorem OMg.om (h : OMg w g cap l) (hb : base <= g) : OM w base (.slice (some ⟨g, 0, none⟩) l.length cap) l := by
 obtain ⟨cur, h3, h4, h5, h6, h7⟩ := h
 exact ⟨g, cap, cur, rfl, hb, h3, h4, h5, h6, h7⟩
theorem OMg.lt (h : OMg w g cap l) : g < w.heap.size := by
 obtain ⟨cur, h3, _⟩ := h
 exact heap_lt h3
theorem OMg.later (h : OMg w g cap l) (hb : Below w.heap.size w w') : OMg w' g cap l := by
 obtain ⟨cur, h3, h4⟩ := h
 exact ⟨cur, (hb.block g (heap_lt h3)).trans h3, h4⟩
theorem OMg.cell (h : OMg w g cap l) {i x : Nat} (hi : l[i]? = some x) : w.cell? ⟨g, i, none⟩ = some (.int .u8 x) /\ w.frozen? ⟨g, i, none⟩ = false := by
 obtain ⟨b, cap2, e, _, _, hc, hf⟩ := (h.om (Nat.zero_le g)).cell hi
 injection e with e
 injection e with e
 injection e with e
 subst e
 exact ⟨hc, hf⟩
theorem OMg.set (h : OMg w g cap l) {i : Nat} (hi : i < l.length) (x : Nat) : OMg (w.setCell ⟨g, i, none⟩ (.int .u8 x)) g cap (l.set i x) := by
 obtain ⟨cur, h3, h4, h5, h6, h7⟩ := h
 refine ⟨cur.setIfInBounds i (.int .u8 x), set_block h3 _, by rw [List.length_set]; exact h4, h5, by rw [Array.size_setIfInBounds]; exact h6, ?_⟩
 rw [Array.toList_setIfInBounds, List.length_set, List.take_set, h7]
 unfold bcs
 rw [List.map_set]
end
theorem own_init_lt {es : List Ent} (hok : ∀ e ∈ es, okE e /\ okW e.word = true /\ bareE e = e) (hr : RiseE es) : (buildF es).init < M64 := by
 rw [own_init hok hr]
 by_cases hn : es = []
 ·subst hn; decide
 ·obtain ⟨e, l, rfl⟩ := List.exists_cons_of_ne_nil hn
  have h1 := leastV_le (l := (e :: l).map wvE) (wvE e) (List.mem_map_of_mem (List.mem_cons_self ..))
  have h2 := valE_lt (hok e (List.mem_cons_self ..)).1
  have h3 : leastV ((e :: l).map wvE) <= valE e := h1
  unfold M64
  omega
theorem calls_pure {P : Program} {f : FuncId} {args : Array Value} {w : World} {R : Ending -> World -> Prop} {p : Prop} (h : Calls P f args w R) (hp : ∀ e w', R e w' -> p) : p := by
 obtain ⟨e, w', fr, hr, _⟩ := h []
 exact hp _ _ hr
theorem build_facts (w : World) (es : List Ent) (B : Nat) (v : Value) (hB : B <= w.heap.size) (hre : RE w B v es) (hlen : es.length <= 100) (hes : ∀ e ∈ es, okE e) : (∀ s ∈ (buildF es).states, okS s /\ s.arcs.length <= 256) /\ (buildF es).states.length <= 2 + 255 * es.length :=
 calls_pure (build8 w es B v hB hre hlen hes) fun e w' ⟨_, _, _, h1, h2, _⟩ => ⟨fun s hs => ⟨(h1 s hs).ok, (h1 s hs).few⟩, h2⟩
theorem makeV_some {es : List Ent} (h : chkN es = 0) (h0 : (makeV es).2 = 0) : 0 < es.length /\ mayF es.length (buildF es).states = true /\ (makeV es).1 = bl (Crc.seal' (bodyB es.length (buildF es).init (buildF es).states)) := by
 unfold makeV at h0 |-
 split at h0
 ·cases h0
 ·rename_i hl
  rw [if_neg (fun h2 => h2 h)] at h0
  rw [if_neg hl, if_neg (fun h2 => h2 h)]
  unfold putR at h0 |-
  split at h0
  ·rename_i hm
   refine ⟨by omega, hm, ?_⟩
   rw [if_pos hm]
   rfl
  ·cases h0
theorem body_size {n i : Nat} {f : List State} (h1 : ∀ s ∈ f, okS s) (h2 : f.length <= 100000) (hn : n <= 100000) (hm : mayF n f = true) (hi : i < 18446744073709551616) : (bodyB n i f).length <= 800000000 := by
 have h := (may_out hm).2.2.2
 have h3 := statesB_len f 0 h1 h (by omega)
 have h5 := (numB_le (n := n) (by unfold M64; omega)).2
 have h6 := (numB_le (n := f.length) (by unfold M64; omega)).2
 have h7 := (numB_le (n := i) hi).2
 unfold bodyB
 rw [numsB_two, numsB_one]
 simp only [List.length_append, List.length_cons, List.length_nil]
 omega
theorem make_sealed {es : List Ent} (hc : chkN es = 0) (h0 : (makeV es).2 = 0) (hf : (∀ s ∈ (buildF es).states, okS s /\ s.arcs.length <= 256) /\ (buildF es).states.length <= 2 + 255 * es.length) (hl : es.length <= 100) (hi : (buildF es).init < 18446744073709551616) :
  ∃ bd, wl (makeV es).1 = Crc.seal' bd /\ Small bd /\ 1 <= bd.length /\ bd.length <= 800000000 /\ pGet (makeV es).1 = .ok (es.length, (buildF es).init, (buildF es).states) := by
 obtain ⟨h1, h2, h3⟩ := makeV_some hc h0
 have ho : ∀ s ∈ (buildF es).states, okS s := fun s hs => (hf.1 s hs).1
 have hsm := bodyB_small' ho (may_out h2).2.2.2 (by omega) (show es.length <= 100000 by omega) hi
 have hp := pGet_put h2 ho (by omega) hi
 have he : (putR es.length (buildF es).init (buildF es).states).1 = Crc.seal' (bodyB es.length (buildF es).init (buildF es).states) := by unfold putR; rw [if_pos h2]; rfl
 rw [he, <- h3, Int.toNat_natCast] at hp
 refine ⟨bodyB es.length (buildF es).init (buildF es).states, ?_, hsm, ?_, body_size ho (by omega) (by omega) h2 hi, hp⟩
 ·rw [h3]; exact wl_bl (seal_small hsm)
 ·unfold bodyB; simp
end Dw
end Go.Proofs.YtcddnmhmcieebaaGreatDoor
