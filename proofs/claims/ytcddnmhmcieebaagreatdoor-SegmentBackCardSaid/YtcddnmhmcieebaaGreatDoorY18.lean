/- fst: Step. -/
import Derived.Test.YtcddnmhmcieebaaGreatDoorFA
import Derived.Test.YtcddnmhmcieebaaGreatDoorTools
namespace Go.Proofs.YtcddnmhmcieebaaGreatDoor
set_option maxHeartbeats 4000000
set_option maxRecDepth 100000
open Go.RowKit
set_option linter.unusedSimpArgs false
set_option linter.unusedVariables false
set_option linter.unnecessarySimpa false
namespace Dw
theorem nat_beq (a b : Nat) : (((a : Nat) : Int) == ((b : Nat) : Int)) = (a == b) := by
 by_cases h : a = b
 ·subst h; simp
 ·rw [beq_eq_false_iff_ne.2 (by omega : (a : Int) ≠ (b : Int)), beq_eq_false_iff_ne.2 h]
def hitA (b k : Nat) (a : Arc) : Bool := (a.byte == b) && decide (0 <= a.to) && decide (a.to < (k : Int))
def idxA (b k : Nat) (l : List Arc) : Int := match l.findIdx? (hitA b k) with
 | some i => i
 | none => -1
def stepV : Option Arc -> Value
 | some a => .tuple #[.int .i64 a.to, .int .u64 a.out, .bool true]
 | none => .tuple #[.int .i64 0, .int .u64 0, .bool false]
theorem findIdx_no {b k i : Nat} {l : List Arc} {a : Arc} (h : l[i]? = some a) (hn : (l.take i).findIdx? (hitA b k) = none) (ha : hitA b k a = false) : (l.take (i + 1)).findIdx? (hitA b k) = none := by
 rw [List.take_add_one, h, List.findIdx?_eq_none_iff]
 rw [List.findIdx?_eq_none_iff] at hn
 intro x hx
 rcases List.mem_append.1 hx with hx | hx
 ·exact hn x hx
 ·simp at hx; subst hx; exact ha
theorem findIdx_at {b k i : Nat} {l : List Arc} {a : Arc} (h : l[i]? = some a) (hn : (l.take i).findIdx? (hitA b k) = none) (ha : hitA b k a = true) : l.findIdx? (hitA b k) = some i := by
 obtain ⟨hlt, hga⟩ := gS1 h
 rw [List.findIdx?_eq_none_iff] at hn
 rw [List.findIdx?_eq_some_iff_getElem]
 refine ⟨hlt, by rw [hga]; exact ha, fun j hj => ?_⟩
 have := hn l[j] (List.mem_take_iff_getElem.2 ⟨j, by omega, rfl⟩)
 simp [this]
theorem idx_none {b k : Nat} {l : List Arc} {x : Int} (h : idxA b k l = x) (hf : l.find? (hitA b k) = none) : x = -1 := by
 rw [<- h]
 unfold idxA
 have : l.findIdx? (hitA b k) = none := by
  rw [List.findIdx?_eq_none_iff]
  intro a ha
  have := List.find?_eq_none.1 hf a ha
  simpa using this
 rw [this]
theorem idx_some {b k : Nat} {l : List Arc} {x : Int} {a : Arc} (h : idxA b k l = x) (hf : l.find? (hitA b k) = some a) : ∃ j : Nat, l[j]? = some a /\ x = (j : Int) := by
 rw [List.find?_eq_some_iff_getElem] at hf
 obtain ⟨ha, i, hi, hia, hno⟩ := hf
 refine ⟨i, by rw [gE1 hi, hia], ?_⟩
 rw [<- h]
 unfold idxA
 have : l.findIdx? (hitA b k) = some i := by
  rw [List.findIdx?_eq_some_iff_getElem]
  refine ⟨hi, by rw [hia]; exact ha, fun j hj => ?_⟩
  have := hno j hj
  simpa using this
 rw [this]
theorem hit_n (w : World) (p q : Nat) (a : Arc) (b k : Nat) (hp : w.cell? ⟨p, 0, none⟩ = some (.int .u8 b)) (hq : w.cell? ⟨q, 0, none⟩ = some (.int .i64 k)) (h1 : (a.byte == b) = false) : Calls Tryz.prog 162 #[.agg #[.int .u8 a.byte, .int .u64 a.out, .int .i64 a.to], .pointer (some ⟨p, 0, none⟩), .pointer (some ⟨q, 0, none⟩)] w fun e w1 => e = .returned (.bool false) /\ Below w.heap.size w w1 := by
 refine Zn3 20 Tryz.func162 fun fr hf s0 s1 s2 => ?_
 have q1 : (((a.byte : Nat) : Int) == ((b : Nat) : Int)) = false := (nat_beq _ _).trans h1
 clear h1
 refine Ze fun _ hK1 => Zr [] hf ?_
 refine Zq3 1 2 3 hf ?_
 clear hf s0 s1 s2; intro fr1 hf sS
 generalize hW0 : w.alloc (.cells #[.int .u8 a.byte, .int .u64 a.out, .int .i64 a.to] 71) = W0
 obtain ⟨hb0, c0, c1, c2, -, -⟩ := box3 hW0
 clear hW0
 have d0 := cL hb0 hp; have d1 := cL hb0 hq
 refine Zs hK1 fun _ hK2 => ?_
 have qs := q1
 refine Zr [5, 6, 7, 8, 9, 10, 11, 12, 13, 14, 15, 16, 17, 18, 19] hf ?_
 refine Zq1 4 hf ?_
 clear hf sS qs; intro fr1 hf s4
 refine Zx hK2 (Zret ?_)
 exact Fact.ret1 rfl hf s4 ⟨rfl, hb0⟩
theorem hit_m (w : World) (p q : Nat) (a : Arc) (b k : Nat) (hp : w.cell? ⟨p, 0, none⟩ = some (.int .u8 b)) (hq : w.cell? ⟨q, 0, none⟩ = some (.int .i64 k)) (h1 : (a.byte == b) = true) (h2 : decide (0 <= a.to) = false) : Calls Tryz.prog 162 #[.agg #[.int .u8 a.byte, .int .u64 a.out, .int .i64 a.to], .pointer (some ⟨p, 0, none⟩), .pointer (some ⟨q, 0, none⟩)] w fun e w1 => e = .returned (.bool false) /\ Below w.heap.size w w1 := by
 refine Zn3 20 Tryz.func162 fun fr hf s0 s1 s2 => ?_
 have q1 : (((a.byte : Nat) : Int) == ((b : Nat) : Int)) = true := (nat_beq _ _).trans h1
 clear h1
 refine Ze fun _ hK1 => Zr [] hf ?_
 refine Zq3 1 2 3 hf ?_
 clear hf s0 s1 s2; intro fr1 hf sS
 generalize hW0 : w.alloc (.cells #[.int .u8 a.byte, .int .u64 a.out, .int .i64 a.to] 71) = W0
 obtain ⟨hb0, c0, c1, c2, -, -⟩ := box3 hW0
 clear hW0
 have d0 := cL hb0 hp; have d1 := cL hb0 hq
 refine Zs hK1 fun _ hK2 => ?_
 have qs := And.intro q1 h2
 refine Zr [5, 6, 7, 8, 9, 10, 11, 12, 13, 14, 15, 16, 17, 18, 19] hf ?_
 refine Zq1 4 hf ?_
 clear hf sS qs; intro fr1 hf s4
 refine Zx hK2 (Zret ?_)
 exact Fact.ret1 rfl hf s4 ⟨rfl, hb0⟩
theorem hit_l (w : World) (p q : Nat) (a : Arc) (b k : Nat) (hp : w.cell? ⟨p, 0, none⟩ = some (.int .u8 b)) (hq : w.cell? ⟨q, 0, none⟩ = some (.int .i64 k)) (h1 : (a.byte == b) = true) (h2 : decide (0 <= a.to) = true) (h3 : decide (a.to < (k : Int)) = false) : Calls Tryz.prog 162 #[.agg #[.int .u8 a.byte, .int .u64 a.out, .int .i64 a.to], .pointer (some ⟨p, 0, none⟩), .pointer (some ⟨q, 0, none⟩)] w fun e w1 => e = .returned (.bool false) /\ Below w.heap.size w w1 := by
 refine Zn3 20 Tryz.func162 fun fr hf s0 s1 s2 => ?_
 have q1 : (((a.byte : Nat) : Int) == ((b : Nat) : Int)) = true := (nat_beq _ _).trans h1
 clear h1
 refine Ze fun _ hK1 => Zr [] hf ?_
 refine Zq3 1 2 3 hf ?_
 clear hf s0 s1 s2; intro fr1 hf sS
 generalize hW0 : w.alloc (.cells #[.int .u8 a.byte, .int .u64 a.out, .int .i64 a.to] 71) = W0
 obtain ⟨hb0, c0, c1, c2, -, -⟩ := box3 hW0
 clear hW0
 have d0 := cL hb0 hp; have d1 := cL hb0 hq
 refine Zs hK1 fun _ hK2 => ?_
 have qs := And.intro q1 (And.intro h2 h3)
 refine Zr [5, 6, 7, 8, 9, 10, 11, 12, 13, 14, 15, 16, 17, 18, 19] hf ?_
 refine Zq1 4 hf ?_
 clear hf sS qs; intro fr1 hf s4
 refine Zx hK2 (Zret ?_)
 exact Fact.ret1 rfl hf s4 ⟨rfl, hb0⟩
theorem hit_y (w : World) (p q : Nat) (a : Arc) (b k : Nat) (hp : w.cell? ⟨p, 0, none⟩ = some (.int .u8 b)) (hq : w.cell? ⟨q, 0, none⟩ = some (.int .i64 k)) (h1 : (a.byte == b) = true) (h2 : decide (0 <= a.to) = true) (h3 : decide (a.to < (k : Int)) = true) : Calls Tryz.prog 162 #[.agg #[.int .u8 a.byte, .int .u64 a.out, .int .i64 a.to], .pointer (some ⟨p, 0, none⟩), .pointer (some ⟨q, 0, none⟩)] w fun e w1 => e = .returned (.bool true) /\ Below w.heap.size w w1 := by
 refine Zn3 20 Tryz.func162 fun fr hf s0 s1 s2 => ?_
 have q1 : (((a.byte : Nat) : Int) == ((b : Nat) : Int)) = true := (nat_beq _ _).trans h1
 clear h1
 refine Ze fun _ hK1 => Zr [] hf ?_
 refine Zq3 1 2 3 hf ?_
 clear hf s0 s1 s2; intro fr1 hf sS
 generalize hW0 : w.alloc (.cells #[.int .u8 a.byte, .int .u64 a.out, .int .i64 a.to] 71) = W0
 obtain ⟨hb0, c0, c1, c2, -, -⟩ := box3 hW0
 clear hW0
 have d0 := cL hb0 hp; have d1 := cL hb0 hq
 refine Zs hK1 fun _ hK2 => ?_
 have qs := And.intro q1 (And.intro h2 h3)
 refine Zr [5, 6, 7, 8, 9, 10, 11, 12, 13, 14, 15, 16, 17, 18, 19] hf ?_
 refine Zq1 4 hf ?_
 clear hf sS qs; intro fr1 hf s4
 refine Zx hK2 (Zret ?_)
 exact Fact.ret1 rfl hf s4 ⟨rfl, hb0⟩
theorem hit162 (w : World) (p q : Nat) (a : Arc) (b k : Nat) (hp : w.cell? ⟨p, 0, none⟩ = some (.int .u8 b)) (hq : w.cell? ⟨q, 0, none⟩ = some (.int .i64 k)) : Calls Tryz.prog 162 #[.agg #[.int .u8 a.byte, .int .u64 a.out, .int .i64 a.to], .pointer (some ⟨p, 0, none⟩), .pointer (some ⟨q, 0, none⟩)] w fun e w1 => e = .returned (.bool (hitA b k a)) /\ Below w.heap.size w w1 := by
 unfold hitA
 cases h1 : (a.byte == b) with
 | false => exact hit_n w p q a b k hp hq h1
 | true => cases h2 : decide (0 <= a.to) with
  | false => exact hit_m w p q a b k hp hq h1 h2
  | true => cases h3 : decide (a.to < (k : Int)) with
   | false => exact hit_l w p q a b k hp hq h1 h2 h3
   | true => exact hit_y w p q a b k hp hq h1 h2 h3
theorem idx161 (w : World) (l : List Arc) (v : Value) (hra : RA w (fun _ => True) v l) (hlen : l.length < 4611686018427387904) (p q b k : Nat) (hp : w.cell? ⟨p, 0, none⟩ = some (.int .u8 b)) (hq : w.cell? ⟨q, 0, none⟩ = some (.int .i64 k)) : Calls Tryz.prog 161 #[v, .func (.func 162) #[] #[.pointer (some ⟨p, 0, none⟩), .pointer (some ⟨q, 0, none⟩)]] w fun e w1 => e = .returned (.int .i64 (idxA b k l)) /\ Below w.heap.size w w1 := by
 refine Zn2 19 Tryz.func161 fun fr hf s0 s1 => ?_
 obtain ⟨A, cc, rfl, hcc⟩ := hra.form
 refine Ze fun _ hK1 => Zr [] hf ?_
 refine Zq2 0 1 hf ?_
 clear hf s0 s1; intro fr1 hf sS
 refine Zs hK1 fun _ hK2 => Ze fun _ hK3 => Zr [6] hf ?_
 refine Zq4 0 1 7 8 hf ?_
 clear hf sS; intro fr1 hf sS
 refine Zx hK3 (wp_block (wp_loop_ghost (fun gk fr wr => ∃ (i : Nat), gk = l.length - i /\ i <= l.length /\ Fact.Fr 19 fr /\ fr.tmps[0]? = some (.slice A l.length cc) /\ fr.tmps[1]? = some (.func (.func 162) #[] #[.pointer (some ⟨p, 0, none⟩), .pointer (some ⟨q, 0, none⟩)]) /\ fr.tmps[7]? = some (.int .i64 l.length) /\ fr.tmps[8]? = some (.int .i64 i) /\ (l.take i).findIdx? (hitA b k) = none /\ Below w.heap.size w wr) (l.length) ?_ ?_))
 . (
 obtain ⟨s0, s1, s7, s8⟩ := sS
 exact ⟨0, rfl, Nat.zero_le _, hf, s0, s1, s7, s8, rfl, Below.refl _ _⟩)
 . (
 clear hf sS
 rintro gk fr wr ⟨i, hk, hi, hf, s0, s1, s7, s8, hno, hb⟩
 have HK := Lib.hid hk; have HNO := Lib.hid hno; clear hk hno
 refine Ze fun _ hK4 => Zr [] hf ?_
 refine Zq5 0 1 7 8 9 hf ?_
 clear hf s0 s1 s7 s8; intro fr1 hf sS
 refine Zs hK4 fun _ hK5 => Fact.cond_s sS.2.2.2.2 (fun hq2 => ?_) (fun hq2 => ?_)
 . (
 have hlt : i < l.length := by have h9 := of_decide_eq_true hq2; omega
 clear hq2
 obtain ⟨a, hia⟩ : ∃ a, l[i]? = some a := ⟨_, gE1 hlt⟩
 obtain ⟨b3, off3, rfl, hbl, y0, y1, y2⟩ := (hra.later hb).at' hia
 have hp1 := cL hb hp; have hq1 := cL hb hq
 have HIA := Lib.hid hia; clear hia
 refine wp_skip (Zs hK5 fun _ hK6 => wp_block (Ze fun _ hK7 => Zr [10] hf ?_))
 refine Zq5 0 1 5 7 8 hf ?_
 clear hf sS; intro fr1 hf sS
 refine Zt hK7 fun _ hK8 => ?_
 have bB := hf.B5 11 12 13 14 15
 iterate 5 refine Zy ?_
 refine Zc (hit162 wr p q a b k hp1 hq1) ?_; rintro e w2 ⟨rfl, hb2⟩
 refine Zv ?_
 refine Fact.nil (Zq6 0 1 5 7 8 16 hf ?_)
 clear hf sS bB; intro fr1 hf sS
 refine Zx hK8 (Fact.cond_s sS.2.2.2.2.2 (fun hq3 => ?_) (fun hq3 => ?_))
 . (
 have HH := Lib.hid hq3; clear hq3
 refine Ze fun _ hK9 => Zr [17] hf ?_
 refine Zq1 4 hf ?_
 clear hf sS; intro fr1 hf s4
 refine Zx hK9 (Zret ?_)
 exact Fact.ret1 rfl hf s4 ⟨by unfold idxA; rw [findIdx_at HIA.out HNO.out HH.out], hb.trans (hb2.mono hb.size)⟩)
 . (
 have HH := Lib.hid hq3; clear hq3
 refine wp_skip (Fact.block_normal (Zx hK6 (Zr [18] hf ?_)))
 refine Zq4 0 1 7 8 hf ?_
 clear hf sS; intro fr1 hf sS
 refine Fact.then_normal ?_
 obtain ⟨s0, s1, s7, s8⟩ := sS
 exact ⟨_, by have := HK.out; omega, i + 1, rfl, by omega, hf, s0, s1, s7, by rw [s8]; rfl, findIdx_no HIA.out HNO.out HH.out, hb.trans (hb2.mono hb.size)⟩))
 . (
 have hie : i = l.length := by have h9 := of_decide_eq_false hq2; omega
 clear hq2
 refine Zo ?_
 refine Zs hK2 fun _ hK10 => Zr [] hf ?_
 refine Zq1 4 hf ?_
 clear hf sS; intro fr1 hf s4
 refine Zx hK10 (Zret ?_)
 exact Fact.ret1 rfl hf s4 ⟨by have h := HNO.out; rw [hie, List.take_length] at h; unfold idxA; rw [h], hb⟩))
theorem step_n (w : World) (sv : Value) (init : Nat) (ss : List State) (hrs : RS w sv ss) (k b : Nat) (st : State) (hk : ss[k]? = some st) (hmax : ss.length <= 1000000000) (hlen : st.arcs.length < 4611686018427387904) (hfi : st.arcs.find? (hitA b k) = none) : Calls Tryz.prog 150 #[.agg #[sv, .int .u64 init], .int .i64 k, .int .u8 b] w fun e w1 => e = .returned (.tuple #[.int .i64 0, .int .u64 0, .bool false]) /\ Below w.heap.size w w1 := by
 refine Zn3 43 Tryz.func150 fun fr hf s0 s1 s2 => ?_
 obtain ⟨A, cc, rfl, hcc⟩ := hrs.form
 have hlt := (gS1 hk).1
 have q1 : decide ((k : Int) < 0) = false := decide_eq_false (by omega)
 have q2 : decide (ss.length <= k) = false := decide_eq_false (by omega)
 refine Ze fun _ hK1 => Zr [] hf ?_
 refine Zq3 3 4 5 hf ?_
 clear hf s0 s1 s2; intro fr1 hf sS
 obtain ⟨W0, hW0⟩ : ∃ x, ((w.alloc (.cells #[.slice A ss.length cc, .int .u64 init] 38)).alloc (.cells #[.int .i64 k] 3)).alloc (.cells #[.int .u8 b] 5) = x := ⟨_, rfl⟩
 obtain ⟨s3, s4, s5⟩ := sS
 try simp only [World.size_alloc] at s3 s4 s5
 try rw [hW0]
 obtain ⟨hb0, hp0, hp1, hp2⟩ := boxes3T hW0
 clear hW0
 have c0 := cR1 0 hp0; have c1 := cR1 1 hp0; have k0 := cR1 0 hp1; have b0 := cR1 0 hp2
 simp at c0 c1 k0 b0
 have hr0 := hrs.later hb0
 clear hrs hp0 hp1 hp2
 obtain ⟨bb, off, av, hA, hat⟩ := hr0.at_ hk
 subst hA
 have d0 := hat.c0
 have hra := hat.arcs
 obtain ⟨A2, c2, hav, hc2⟩ := hra.form
 subst hav
 clear hat
 refine Zs hK1 fun _ hK2 => Ze fun _ hK3 => ?_
 have qs := And.intro q1 q2
 refine Zr [11, 12, 13, 14, 15, 16, 17, 18] hf ?_
 refine Zq4 3 4 5 19 hf ?_
 clear hf s3 s4 s5 qs; intro fr1 hf sS
 refine Zx hK3 (Fact.cond_f sS.2.2.2 ?_)
 clear q1 q2
 refine wp_skip (Zt hK2 fun _ hK4 => ?_)
 obtain ⟨b20, b21, b22, b23, b24, b25, b26, b27⟩ := hf.B8 20 21 22 23 24 25 26 27
 iterate 7 refine Zy ?_
 refine fp fun K Z => ?_
 go_simp
 go_at_call 161; refine (idx161 W0 st.arcs _ hra hlen _ _ b k b0 k0).mono ?_; rintro e w1 ⟨rfl, hb1⟩
 generalize hix : idxA b k st.arcs = ix
 have HIX := Lib.hid hix; clear hix
 replace c0 := cL hb1 c0; replace c1 := cL hb1 c1; replace k0 := cL hb1 k0; replace d0 := cL hb1 d0; replace hra := hra.later hb1
 replace hb0 := hb0.trans (hb1.mono hb0.size)
 clear b0
 try dsimp only
 apply Z.out; clear Z K
 refine Zy ?_
 refine Fact.nil (Zq3 3 4 9 hf ?_)
 clear hf sS b20 b21 b22 b23 b24 b25 b26 b27; intro fr1 hf sS
 refine Zx hK4 ?_
 have hx := idx_none HIX.out hfi
 subst hx
 refine Ze fun _ hK5 => Ze fun _ hK6 => Zr [28] hf ?_
 refine Zq4 3 4 9 29 hf ?_
 clear hf sS; intro fr1 hf sS
 refine Zx hK6 (Fact.cond_t sS.2.2.2 ?_)
 refine Ze fun _ hK7 => Zr [] hf ?_
 refine Zq3 6 7 8 hf ?_
 clear hf sS; intro fr1 hf sS
 refine Zx hK7 (Zret ?_)
 obtain ⟨s6, s7, s8⟩ := sS
 exact Fact.ret3 rfl hf s6 s7 s8 ⟨rfl, hb0⟩
theorem step_y (w : World) (sv : Value) (init : Nat) (ss : List State) (hrs : RS w sv ss) (k b : Nat) (st : State) (hk : ss[k]? = some st) (hmax : ss.length <= 1000000000) (hlen : st.arcs.length < 4611686018427387904) (a : Arc) (hfi : st.arcs.find? (hitA b k) = some a) : Calls Tryz.prog 150 #[.agg #[sv, .int .u64 init], .int .i64 k, .int .u8 b] w fun e w1 => e = .returned (.tuple #[.int .i64 a.to, .int .u64 a.out, .bool true]) /\ Below w.heap.size w w1 := by
 refine Zn3 43 Tryz.func150 fun fr hf s0 s1 s2 => ?_
 obtain ⟨A, cc, rfl, hcc⟩ := hrs.form
 have hlt := (gS1 hk).1
 have q1 : decide ((k : Int) < 0) = false := decide_eq_false (by omega)
 have q2 : decide (ss.length <= k) = false := decide_eq_false (by omega)
 refine Ze fun _ hK1 => Zr [] hf ?_
 refine Zq3 3 4 5 hf ?_
 clear hf s0 s1 s2; intro fr1 hf sS
 obtain ⟨W0, hW0⟩ : ∃ x, ((w.alloc (.cells #[.slice A ss.length cc, .int .u64 init] 38)).alloc (.cells #[.int .i64 k] 3)).alloc (.cells #[.int .u8 b] 5) = x := ⟨_, rfl⟩
 obtain ⟨s3, s4, s5⟩ := sS
 try simp only [World.size_alloc] at s3 s4 s5
 try rw [hW0]
 obtain ⟨hb0, hp0, hp1, hp2⟩ := boxes3T hW0
 clear hW0
 have c0 := cR1 0 hp0; have c1 := cR1 1 hp0; have k0 := cR1 0 hp1; have b0 := cR1 0 hp2
 simp at c0 c1 k0 b0
 have hr0 := hrs.later hb0
 clear hrs hp0 hp1 hp2
 obtain ⟨bb, off, av, hA, hat⟩ := hr0.at_ hk
 subst hA
 have d0 := hat.c0
 have hra := hat.arcs
 obtain ⟨A2, c2, hav, hc2⟩ := hra.form
 subst hav
 clear hat
 refine Zs hK1 fun _ hK2 => Ze fun _ hK3 => ?_
 have qs := And.intro q1 q2
 refine Zr [11, 12, 13, 14, 15, 16, 17, 18] hf ?_
 refine Zq4 3 4 5 19 hf ?_
 clear hf s3 s4 s5 qs; intro fr1 hf sS
 refine Zx hK3 (Fact.cond_f sS.2.2.2 ?_)
 clear q1 q2
 refine wp_skip (Zt hK2 fun _ hK4 => ?_)
 obtain ⟨b20, b21, b22, b23, b24, b25, b26, b27⟩ := hf.B8 20 21 22 23 24 25 26 27
 iterate 7 refine Zy ?_
 refine fp fun K Z => ?_
 go_simp
 go_at_call 161; refine (idx161 W0 st.arcs _ hra hlen _ _ b k b0 k0).mono ?_; rintro e w1 ⟨rfl, hb1⟩
 generalize hix : idxA b k st.arcs = ix
 have HIX := Lib.hid hix; clear hix
 replace c0 := cL hb1 c0; replace c1 := cL hb1 c1; replace k0 := cL hb1 k0; replace d0 := cL hb1 d0; replace hra := hra.later hb1
 replace hb0 := hb0.trans (hb1.mono hb0.size)
 clear b0
 try dsimp only
 apply Z.out; clear Z K
 refine Zy ?_
 refine Fact.nil (Zq3 3 4 9 hf ?_)
 clear hf sS b20 b21 b22 b23 b24 b25 b26 b27; intro fr1 hf sS
 refine Zx hK4 ?_
 obtain ⟨j, hj, hxj⟩ := idx_some HIX.out hfi
 subst hxj
 obtain ⟨b3, off3, hA3, hbl, y0, y1, y2⟩ := hra.at' hj
 subst hA3
 have hjl := (gS1 hj).1
 clear hj
 have q3 : decide ((j : Int) < 0) = false := decide_eq_false (by omega)
 refine Ze fun _ hK5 => Ze fun _ hK6 => Zr [28] hf ?_
 refine Zq4 3 4 9 29 hf ?_
 clear hf sS; intro fr1 hf sS
 refine Zx hK6 (Fact.cond_f sS.2.2.2 ?_)
 clear q3
 refine wp_skip (Zs hK5 fun _ hK7 => Zr [30, 31, 32, 33, 34, 35, 36, 37, 38, 10] hf ?_)
 refine Zq1 10 hf ?_
 clear hf sS; intro fr1 hf s10
 generalize hW3 : w1.alloc (.cells #[.int .u8 a.byte, .int .u64 a.out, .int .i64 a.to] 71) = W3
 obtain ⟨hb3, z0, z1, z2, -, -⟩ := box3 hW3
 clear hW3
 refine Zs hK7 fun _ hK8 => Stab.tb 43 fun hok => ?_
 refine Stab.T 0 hf hok (fun _ _ h d => Stab.O h s10) ?_
 refine Stab.T 1 hf hok (fun _ _ h d => ad (Stab.vd 0 0 d []) (ad (cL h.ext z1) (cL h.ext z2))) ?_
 refine Stab.T 2 hf hok (fun _ _ h d => Stab.O h s10) ?_
 refine Stab.T 3 hf hok (fun _ _ h d => ad (Stab.vd 2 0 d []) (ad (cL h.ext z1) (cL h.ext z2))) ?_
 refine Stab.mN 4 1 2 hf hok [] ?_
 refine Stab.mN 5 3 1 hf hok [] ?_
 refine Stab.T 6 hf hok (fun _ _ h d => trivial) ?_
 refine Stab.E hf hok (fun _ _ h g => ad (Stab.f 4 2 g) (ad (Stab.f 5 1 g) (Stab.f 6 0 g))) ?_
 clear hf hok s10; intro fr1 w1 hf hx sS
 replace z1 := cL hx z1
 replace z2 := cL hx z2
 refine Zx hK8 (Zret ?_)
 obtain ⟨s6, s7, s8⟩ := sS
 exact Fact.ret3 rfl hf s6 s7 s8 ⟨rfl, hb0.trans ((hb3.trans (hx.mono hb3.size)).mono hb0.size)⟩
theorem step150 (w : World) (sv : Value) (init : Nat) (ss : List State) (hrs : RS w sv ss) (k b : Nat) (st : State) (hk : ss[k]? = some st) (hmax : ss.length <= 1000000000) (hlen : st.arcs.length < 4611686018427387904) : Calls Tryz.prog 150 #[.agg #[sv, .int .u64 init], .int .i64 k, .int .u8 b] w fun e w1 => e = .returned (stepV (st.arcs.find? (hitA b k))) /\ Below w.heap.size w w1 := by
 cases h : st.arcs.find? (hitA b k) with
 | none => exact step_n w sv init ss hrs k b st hk hmax hlen h
 | some a => exact step_y w sv init ss hrs k b st hk hmax hlen a h
def RB (w : World) (g : Nat) (l : List Nat) : Prop := ∀ (i x : Nat), l[i]? = some x -> w.cell? ⟨g, i, none⟩ = some (.int .u8 x)
theorem RB.later {w w' : World} {g : Nat} {l : List Nat} (h : RB w g l) (hb : Below w.heap.size w w') : RB w' g l := fun i x hx => cL hb (h i x hx)
def RiseB (l : List Nat) : Prop := ∀ (i j x y : Nat), i < j -> l[i]? = some x -> l[j]? = some y -> x < y
theorem bnan (w : World) (x : Nat) : Calls Tryz.prog 193 #[.int .u8 x] w fun e w1 => e = .returned (.bool false) /\ w = w1 := by
 refine Zn1 6 Tryz.func193 fun fr hf s0 => ?_
 refine Ze fun _ hK1 => Zr [] hf ?_
 refine Zq1 0 hf ?_
 clear hf s0; intro fr1 hf s0
 refine Zs hK1 fun _ hK2 => Zr [3, 4, 5] hf ?_
 refine Zq1 2 hf ?_
 clear hf s0; intro fr1 hf s2
 refine Zx hK2 (Zret ?_)
 exact Fact.ret1 rfl hf s2 ⟨rfl, rfl⟩
theorem bless (w : World) (x y : Nat) : Calls Tryz.prog 184 #[.int .u8 x, .int .u8 y] w fun e w1 => e = .returned (.bool (decide (x < y))) /\ w = w1 := by
 refine Zn2 17 Tryz.func184 fun fr hf s0 s1 => ?_
 refine Ze fun _ hK1 => Zr [] hf ?_
 refine Zq2 0 1 hf ?_
 clear hf s0 s1; intro fr1 hf sS
 refine Zt hK1 fun _ hK2 => ?_
 have bB := And.intro (hf.B10 5 6 7 8 9 10 11 12 13 14) (hf.B2 15 16)
 refine Zy ?_
 refine Zc (bnan w x) ?_; rintro e w1 ⟨rfl, rfl⟩
 refine Zv ?_
 iterate 11 refine Zy ?_
 refine Fact.nil (Zq1 4 hf ?_)
 clear hf sS bB; intro fr1 hf s4
 refine Zx hK2 (Zret ?_)
 exact Fact.ret1 rfl hf s4 ⟨rfl, rfl⟩
theorem ord2 (w : World) (g n c : Nat) (l : List Nat) (hl : l.length = n) (hn : n <= 1000000) (hr : RB w g l) (hs : Hid (RiseB l)) (a b : Nat) (hab : a < b) (hbn : b < n) (sp : Value) : Calls Tryz.prog 194 #[.slice (some ⟨g, 0, none⟩) n c, .int .i64 a, .int .i64 b, sp] w fun e w1 => e = .returned (.tuple #[.int .i64 a, .int .i64 b]) /\ Below w.heap.size w w1 := by
 refine Zn4 28 Tryz.func194 fun fr hf s0 s1 s2 s3 => ?_
 obtain ⟨xi, hxi⟩ : ∃ x, l[a]? = some x := ⟨_, gE1 (by omega)⟩
 obtain ⟨xj, hxj⟩ : ∃ x, l[b]? = some x := ⟨_, gE1 (by omega)⟩
 have ci := hr _ _ hxi; have cj := hr _ _ hxj
 have hij := hs.out _ _ _ _ (by omega) hxi hxj
 clear hxi hxj
 have HIJ := Lib.hid hij; clear hij
 refine Ze fun _ hK1 => Zr [] hf ?_
 refine Zq4 0 1 2 3 hf ?_
 clear hf s0 s1 s2 s3; intro fr1 hf sS
 refine Zs hK1 fun _ hK2 => Ze fun _ hK3 => ?_
 obtain ⟨s0, s1, s2, s3⟩ := sS
 refine Stab.tb 28 fun hok => ?_
 refine Stab.mO 0 s0 hf hok ?_
 refine Stab.mO 1 s2 hf hok ?_
 apply Stab.tq 2 _ hf hok
 . (
 intro fr1 w1 hh hd hk K Z
 have s10 := Stab.v 0 1 hd hk []
 have s11 := Stab.v 1 0 hd hk []
 clear hd
 go_simp
 try rw [if_pos (by omega)]
 exact Stab.k Z)
 refine Stab.T 3 hf hok (fun _ _ h d => ad (Stab.vd 2 0 d []) (ad (cL h.ext ci) (cL h.ext cj))) ?_
 refine Stab.mO 4 s0 hf hok ?_
 refine Stab.mO 5 s1 hf hok ?_
 apply Stab.tq 6 _ hf hok
 . (
 intro fr1 w1 hh hd hk K Z
 have s14 := Stab.v 4 1 hd hk []
 have s15 := Stab.v 5 0 hd hk []
 clear hd
 go_simp
 try rw [if_pos (by omega)]
 exact Stab.k Z)
 refine Stab.T 7 hf hok (fun _ _ h d => ad (Stab.vd 6 0 d []) (ad (cL h.ext ci) (cL h.ext cj))) ?_
 apply Stab.tq 8 _ hf hok
 . (
 intro fr1 w1 hh hd hk K Z
 have s13 := Stab.v 3 4 hd hk []
 have s17 := Stab.v 7 0 hd hk []
 clear hd
 replace ci := cL hh.ext ci
 replace cj := cL hh.ext cj
 go_simp
 go_at_call 184; refine (bless w1 xj xi).mono ?_; rintro e w2 ⟨rfl, rfl⟩
 rw [decide_eq_false (show ¬ xj < xi by have := HIJ.out; omega)]
 exact Stab.k Z)
 refine Stab.E hf hok (fun _ _ h g => ad (Stab.O h s1) (ad (Stab.O h s2) (ad (Stab.O h s3) (Stab.f 8 0 g)))) ?_
 clear hf hok s0 s1 s2 s3; intro fr1 w1 hf hx sS
 replace ci := cL hx ci
 replace cj := cL hx cj
 refine Zx hK3 (Fact.cond_f sS.2.2.2 ?_)
 refine wp_skip (Zs hK2 fun _ hK4 => Zr [26, 27] hf ?_)
 refine Zq2 8 9 hf ?_
 clear hf sS; intro fr1 hf sS
 refine Zx hK4 (Zret ?_)
 exact Fact.ret2 rfl hf sS.1 sS.2 ⟨rfl, hx⟩
theorem medb (w : World) (g n c : Nat) (l : List Nat) (hl : l.length = n) (hn : n <= 1000000) (hr : RB w g l) (hs : Hid (RiseB l)) (i j k : Nat) (hij : i < j) (hjk : j < k) (hk : k < n) (sp : Value) : Calls Tryz.prog 192 #[.slice (some ⟨g, 0, none⟩) n c, .int .i64 i, .int .i64 j, .int .i64 k, sp] w fun e w1 => e = .returned (.int .i64 j) /\ Below w.heap.size w w1 := by
 refine Zn5 36 Tryz.func192 fun fr hf s0 s1 s2 s3 s4 => ?_
 refine Ze fun _ hK1 => Zr [] hf ?_
 refine Zq5 0 1 2 3 4 hf ?_
 clear hf s0 s1 s2 s3 s4; intro fr1 hf sS
 refine Zt hK1 fun _ hK2 => ?_
 have bB := hf.B8 12 13 14 15 16 11 17 18
 iterate 4 refine Zy ?_
 refine Zc (ord2 w g n c l hl hn hr hs i j hij (by omega) sp) ?_; rintro e w1 ⟨rfl, hb1⟩
 have hr1 := hr.later hb1
 refine Zv ?_
 iterate 5 refine Zy ?_
 refine Fact.nil (Zq5 0 1 2 3 4 hf ?_)
 clear hf sS bB; intro fr1 hf sS
 refine Zt hK2 fun _ hK3 => ?_
 have bB := hf.B8 20 21 22 23 24 19 25 26
 iterate 4 refine Zy ?_
 refine Zc (ord2 w1 g n c l hl hn hr1 hs j k hjk hk sp) ?_; rintro e w2 ⟨rfl, hb2⟩
 have hr2 := hr1.later hb2
 have hb12 := hb1.trans (hb2.mono hb1.size)
 refine Zv ?_
 iterate 5 refine Zy ?_
 refine Fact.nil (Zq4 0 1 2 4 hf ?_)
 clear hf sS bB; intro fr1 hf sS
 refine Zt hK3 fun _ hK4 => ?_
 have bB := hf.B8 28 29 30 31 32 27 33 34
 iterate 4 refine Zy ?_
 refine Zc (ord2 w2 g n c l hl hn hr2 hs i j hij (by omega) sp) ?_; rintro e w3 ⟨rfl, hb3⟩
 have hb13 := hb12.trans (hb3.mono hb12.size)
 refine Zv ?_
 iterate 5 refine Zy ?_
 refine Fact.nil (Zq1 2 hf ?_)
 clear hf sS bB; intro fr1 hf s2
 refine Zs hK4 fun _ hK5 => Zr [35] hf ?_
 refine Zq1 10 hf ?_
 clear hf s2; intro fr1 hf s10
 refine Zx hK5 (Zret ?_)
 exact Fact.ret1 rfl hf s10 ⟨rfl, hb13⟩
theorem medadj (w : World) (g n c : Nat) (l : List Nat) (hl : l.length = n) (hn : n <= 1000000) (hr : RB w g l) (hs : Hid (RiseB l)) (i : Nat) (hi : i + 2 < n) (sp : Value) : Calls Tryz.prog 191 #[.slice (some ⟨g, 0, none⟩) n c, .int .i64 (i + 1 : Nat), sp] w fun e w1 => e = .returned (.int .i64 (i + 1 : Nat)) /\ Below w.heap.size w w1 := by
 refine Zn3 15 Tryz.func191 fun fr hf s0 s1 s2 => ?_
 obtain ⟨j, hj⟩ : ∃ j, i + 1 = j := ⟨_, rfl⟩
 rw [hj] at s1 |-
 have e1 : IntKind.i64.wrap ((j : Int) - 1) = (i : Int) := by rw [Fact.wrap_i64 (by omega) (by omega)]; omega
 have e2 : IntKind.i64.wrap ((j : Int) + 1) = ((i + 2 : Nat) : Int) := by rw [Fact.wrap_i64 (by omega) (by omega)]; omega
 have HJ := Lib.hid hj; clear hj
 refine Ze fun _ hK1 => Zr [] hf ?_
 refine Zq3 0 1 2 hf ?_
 clear hf s0 s1 s2; intro fr1 hf sS
 refine Zt hK1 fun _ hK2 => ?_
 have bB := hf.B8 7 8 9 10 11 12 13 14
 iterate 2 refine Zy ?_
 refine fp fun K Z => ?_
 go_simp
 try simp (disch := omega) only [Fact.W]
 try rw [e1]
 apply Z.out; clear Z K
 iterate 2 refine Zy ?_
 refine fp fun K Z => ?_
 go_simp
 try simp (disch := omega) only [Fact.W]
 try rw [e2]
 apply Z.out; clear Z K
 refine Zy ?_
 refine Zc (medb w g n c l hl hn hr hs i j (i + 2) (by have := HJ.out; omega) (by have := HJ.out; omega) hi sp) ?_; rintro e w1 ⟨rfl, hb1⟩
 refine Zv ?_
 refine Zy ?_
 refine Fact.nil (Zq1 6 hf ?_)
 clear hf sS bB; intro fr1 hf s6
 refine Zx hK2 (Zret ?_)
 exact Fact.ret1 rfl hf s6 ⟨rfl, hb1⟩
theorem piv_small (w : World) (g n c : Nat) (l : List Nat) (hl : l.length = n) (hn : n <= 1000000) (hr : RB w g l) (hs : Hid (RiseB l)) (hk : 8 <= n /\ n < 50) : Calls Tryz.prog 181 #[.slice (some ⟨g, 0, none⟩) n c, .int .i64 0, .int .i64 n] w fun e w1 => (∃ p : Int, e = .returned (.tuple #[.int .i64 p, .int .i64 1])) /\ Below w.heap.size w w1 := by
 refine Zn3 57 Tryz.func181 fun fr hf s0 s1 s2 => ?_
 obtain ⟨m, hm⟩ : ∃ m, n / 4 = m := ⟨_, rfl⟩
 have hq : ((n : Nat) : Int).tdiv 4 = (m : Int) := by rw [<- hm]; rfl
 have e1 : IntKind.i64.wrap ((m : Int) * 1) = (m : Int) := by rw [Fact.wrap_i64 (by omega) (by omega)]; omega
 have e2 : IntKind.i64.wrap ((m : Int) * 2) = ((m * 2 : Nat) : Int) := by rw [Fact.wrap_i64 (by omega) (by omega)]; omega
 have e3 : IntKind.i64.wrap ((m : Int) * 3) = ((m * 3 : Nat) : Int) := by rw [Fact.wrap_i64 (by omega) (by omega)]; omega
 have HM := Lib.hid hm; clear hm
 obtain ⟨m2, hm2⟩ : ∃ x, m * 2 = x := ⟨_, rfl⟩
 obtain ⟨m3, hm3⟩ : ∃ x, m * 3 = x := ⟨_, rfl⟩
 rw [hm2] at e2; rw [hm3] at e3
 have HM2 := Lib.hid hm2; have HM3 := Lib.hid hm3; clear hm2 hm3
 have z0 : IntKind.i64.wrap ((n : Int) - 0) = (n : Int) := by rw [Fact.wrap_i64 (by omega) (by omega)]; omega
 have fm : IntKind.i64.wrap (m : Int) = (m : Int) := Fact.wrap_i64 (by have := HM.out; have := HM2.out; have := HM3.out; omega) (by have := HM.out; have := HM2.out; have := HM3.out; omega)
 have fm2 : IntKind.i64.wrap (m2 : Int) = (m2 : Int) := Fact.wrap_i64 (by have := HM.out; have := HM2.out; have := HM3.out; omega) (by have := HM.out; have := HM2.out; have := HM3.out; omega)
 have fm3 : IntKind.i64.wrap (m3 : Int) = (m3 : Int) := Fact.wrap_i64 (by have := HM.out; have := HM2.out; have := HM3.out; omega) (by have := HM.out; have := HM2.out; have := HM3.out; omega)
 refine Ze fun _ hK1 => Zr [] hf ?_
 refine Zq3 0 1 2 hf ?_
 clear hf s0 s1 s2; intro fr1 hf sS
 refine Zt hK1 fun _ hK2 => ?_
 have bB := hf.B3 13 14 15
 iterate 2 refine Zy ?_
 refine fp fun K Z => ?_
 go_simp
 try simp (disch := omega) only [Fact.W]
 try rw [z0]
 apply Z.out; clear Z K
 refine Zy ?_
 refine Fact.nil (Zq3 0 1 8 hf ?_)
 clear hf sS bB; intro fr1 hf sS
 refine Zs hK2 fun _ hK3 => Zr [] hf ?_
 refine Zq4 0 1 8 9 hf ?_
 clear hf sS; intro fr1 hf sS
 generalize hW2 : w.alloc (.cells #[.int .i64 0] 3) = W2
 obtain ⟨hb2, sw0, -, -⟩ := box1 hW2
 clear hW2
 have hr2 := hr.later hb2
 clear hr
 refine Zt hK3 fun _ hK4 => ?_
 have bB := hf.B5 16 17 18 19 20
 iterate 2 refine Zy ?_
 refine fp fun K Z => ?_
 go_simp
 try simp only [fm]
 apply Z.out; clear Z K
 refine fp fun K Z => ?_
 go_simp
 try simp (disch := omega) only [Fact.W]
 try simp only [e2, e3, fm, fm2, fm3]
 apply Z.out; clear Z K
 refine fp fun K Z => ?_
 go_simp
 try simp (disch := omega) only [Fact.W]
 try simp only [fm, fm2, fm3]
 apply Z.out; clear Z K
 refine Zy ?_
 refine Fact.nil (Zq5 0 1 8 9 10 hf ?_)
 clear hf sS bB; intro fr1 hf sS
 refine Zt hK4 fun _ hK5 => ?_
 have bB := hf.B5 21 22 23 24 25
 iterate 2 refine Zy ?_
 refine fp fun K Z => ?_
 go_simp
 try simp only [fm]
 apply Z.out; clear Z K
 refine fp fun K Z => ?_
 go_simp
 try simp (disch := omega) only [Fact.W]
 try simp only [e2, e3, fm, fm2, fm3]
 apply Z.out; clear Z K
 refine fp fun K Z => ?_
 go_simp
 try simp (disch := omega) only [Fact.W]
 try simp only [fm, fm2, fm3]
 apply Z.out; clear Z K
 refine Zy ?_
 refine Fact.nil (Zq6 0 1 8 9 10 11 hf ?_)
 clear hf sS bB; intro fr1 hf sS
 refine Zt hK5 fun _ hK6 => ?_
 have bB := hf.B5 26 27 28 29 30
 iterate 2 refine Zy ?_
 refine fp fun K Z => ?_
 go_simp
 try simp only [fm]
 apply Z.out; clear Z K
 refine fp fun K Z => ?_
 go_simp
 try simp (disch := omega) only [Fact.W]
 try simp only [e2, e3, fm, fm2, fm3]
 apply Z.out; clear Z K
 refine fp fun K Z => ?_
 go_simp
 try simp (disch := omega) only [Fact.W]
 try simp only [fm, fm2, fm3]
 apply Z.out; clear Z K
 refine Zy ?_
 refine Fact.nil (Zq6 0 8 9 10 11 12 hf ?_)
 clear hf sS bB; intro fr1 hf sS
 refine Zx hK6 ?_
 clear hq e1 e2 e3 z0 fm fm2 fm3
 have q1 : decide ((8 : Int) <= (n : Int)) = true := decide_eq_true (by omega)
 have q2 : decide ((50 : Int) <= (n : Int)) = false := decide_eq_false (by omega)
 refine Ze fun _ hK7 => Ze fun _ hK8 => Zr [31] hf ?_
 refine Zq7 0 8 9 10 11 12 32 hf ?_
 clear hf sS; intro fr1 hf sS
 refine Zx hK8 (Fact.cond_t sS.2.2.2.2.2.2 ?_)
 refine Ze fun _ hK9 => Ze fun _ hK10 => Zr [33] hf ?_
 refine Zq6 0 9 10 11 12 34 hf ?_
 clear hf sS; intro fr1 hf sS
 refine Zx hK10 (Fact.cond_f sS.2.2.2.2.2 ?_)
 clear q1 q2
 refine wp_skip (Zx hK9 (rg ?_))
 have bB := hf.B5 44 45 46 47 48
 iterate 4 refine Zy ?_
 refine Zc (medb W2 g n c l hl hn hr2 hs m m2 m3 (by have := HM.out; have := HM2.out; have := HM3.out; omega) (by have := HM.out; have := HM2.out; have := HM3.out; omega) (by have := HM.out; have := HM2.out; have := HM3.out; omega) _) ?_; rintro e v11 ⟨rfl, hbv11⟩
 replace sw0 := cL hbv11 sw0
 replace hr2 := hr2.later hbv11
 replace hb2 := hb2.trans (hbv11.mono hb2.size)
 refine Zv ?_
 refine Zy ?_
 refine Fact.nil (Zq2 9 11 hf ?_)
 clear hf sS bB; intro fr1 hf sS
 refine Zs hK7 fun _ hK11 => Zr [] hf ?_
 refine Zq2 11 49 hf ?_
 clear hf sS; intro fr1 hf sS
 refine Zx hK11 (wp_block (Ze fun _ hK12 => Zr [52] hf ?_))
 refine Zq3 11 49 51 hf ?_
 clear hf sS; intro fr1 hf sS
 refine Zx hK12 (Fact.cond_t sS.2.2 ?_)
 refine Ze fun _ hK13 => Zr [53] hf ?_
 refine Zq2 6 7 hf ?_
 clear hf sS; intro fr1 hf sS
 refine Zx hK13 (Zret ?_)
 exact Fact.ret2 rfl hf sS.1 sS.2 ⟨⟨_, rfl⟩, hb2⟩
theorem piv_big (w : World) (g n c : Nat) (l : List Nat) (hl : l.length = n) (hn : n <= 1000000) (hr : RB w g l) (hs : Hid (RiseB l)) (hk : 50 <= n) : Calls Tryz.prog 181 #[.slice (some ⟨g, 0, none⟩) n c, .int .i64 0, .int .i64 n] w fun e w1 => (∃ p : Int, e = .returned (.tuple #[.int .i64 p, .int .i64 1])) /\ Below w.heap.size w w1 := by
 refine Zn3 57 Tryz.func181 fun fr hf s0 s1 s2 => ?_
 obtain ⟨m, hm⟩ : ∃ m, n / 4 = m := ⟨_, rfl⟩
 have hq : ((n : Nat) : Int).tdiv 4 = (m : Int) := by rw [<- hm]; rfl
 have e1 : IntKind.i64.wrap ((m : Int) * 1) = (m : Int) := by rw [Fact.wrap_i64 (by omega) (by omega)]; omega
 have e2 : IntKind.i64.wrap ((m : Int) * 2) = ((m * 2 : Nat) : Int) := by rw [Fact.wrap_i64 (by omega) (by omega)]; omega
 have e3 : IntKind.i64.wrap ((m : Int) * 3) = ((m * 3 : Nat) : Int) := by rw [Fact.wrap_i64 (by omega) (by omega)]; omega
 have HM := Lib.hid hm; clear hm
 obtain ⟨m2, hm2⟩ : ∃ x, m * 2 = x := ⟨_, rfl⟩
 obtain ⟨m3, hm3⟩ : ∃ x, m * 3 = x := ⟨_, rfl⟩
 rw [hm2] at e2; rw [hm3] at e3
 have HM2 := Lib.hid hm2; have HM3 := Lib.hid hm3; clear hm2 hm3
 have z0 : IntKind.i64.wrap ((n : Int) - 0) = (n : Int) := by rw [Fact.wrap_i64 (by omega) (by omega)]; omega
 have fm : IntKind.i64.wrap (m : Int) = (m : Int) := Fact.wrap_i64 (by have := HM.out; have := HM2.out; have := HM3.out; omega) (by have := HM.out; have := HM2.out; have := HM3.out; omega)
 have fm2 : IntKind.i64.wrap (m2 : Int) = (m2 : Int) := Fact.wrap_i64 (by have := HM.out; have := HM2.out; have := HM3.out; omega) (by have := HM.out; have := HM2.out; have := HM3.out; omega)
 have fm3 : IntKind.i64.wrap (m3 : Int) = (m3 : Int) := Fact.wrap_i64 (by have := HM.out; have := HM2.out; have := HM3.out; omega) (by have := HM.out; have := HM2.out; have := HM3.out; omega)
 refine Ze fun _ hK1 => Zr [] hf ?_
 refine Zq3 0 1 2 hf ?_
 clear hf s0 s1 s2; intro fr1 hf sS
 refine Zt hK1 fun _ hK2 => ?_
 have bB := hf.B3 13 14 15
 iterate 2 refine Zy ?_
 refine fp fun K Z => ?_
 go_simp
 try simp (disch := omega) only [Fact.W]
 try rw [z0]
 apply Z.out; clear Z K
 refine Zy ?_
 refine Fact.nil (Zq3 0 1 8 hf ?_)
 clear hf sS bB; intro fr1 hf sS
 refine Zs hK2 fun _ hK3 => Zr [] hf ?_
 refine Zq4 0 1 8 9 hf ?_
 clear hf sS; intro fr1 hf sS
 generalize hW2 : w.alloc (.cells #[.int .i64 0] 3) = W2
 obtain ⟨hb2, sw0, -, -⟩ := box1 hW2
 clear hW2
 have hr2 := hr.later hb2
 clear hr
 refine Zt hK3 fun _ hK4 => ?_
 have bB := hf.B5 16 17 18 19 20
 iterate 2 refine Zy ?_
 refine fp fun K Z => ?_
 go_simp
 try simp only [fm]
 apply Z.out; clear Z K
 refine fp fun K Z => ?_
 go_simp
 try simp (disch := omega) only [Fact.W]
 try simp only [e2, e3, fm, fm2, fm3]
 apply Z.out; clear Z K
 refine fp fun K Z => ?_
 go_simp
 try simp (disch := omega) only [Fact.W]
 try simp only [fm, fm2, fm3]
 apply Z.out; clear Z K
 refine Zy ?_
 refine Fact.nil (Zq5 0 1 8 9 10 hf ?_)
 clear hf sS bB; intro fr1 hf sS
 refine Zt hK4 fun _ hK5 => ?_
 have bB := hf.B5 21 22 23 24 25
 iterate 2 refine Zy ?_
 refine fp fun K Z => ?_
 go_simp
 try simp only [fm]
 apply Z.out; clear Z K
 refine fp fun K Z => ?_
 go_simp
 try simp (disch := omega) only [Fact.W]
 try simp only [e2, e3, fm, fm2, fm3]
 apply Z.out; clear Z K
 refine fp fun K Z => ?_
 go_simp
 try simp (disch := omega) only [Fact.W]
 try simp only [fm, fm2, fm3]
 apply Z.out; clear Z K
 refine Zy ?_
 refine Fact.nil (Zq6 0 1 8 9 10 11 hf ?_)
 clear hf sS bB; intro fr1 hf sS
 refine Zt hK5 fun _ hK6 => ?_
 have bB := hf.B5 26 27 28 29 30
 iterate 2 refine Zy ?_
 refine fp fun K Z => ?_
 go_simp
 try simp only [fm]
 apply Z.out; clear Z K
 refine fp fun K Z => ?_
 go_simp
 try simp (disch := omega) only [Fact.W]
 try simp only [e2, e3, fm, fm2, fm3]
 apply Z.out; clear Z K
 refine fp fun K Z => ?_
 go_simp
 try simp (disch := omega) only [Fact.W]
 try simp only [fm, fm2, fm3]
 apply Z.out; clear Z K
 refine Zy ?_
 refine Fact.nil (Zq6 0 8 9 10 11 12 hf ?_)
 clear hf sS bB; intro fr1 hf sS
 refine Zx hK6 ?_
 clear hq e1 e2 e3 z0 fm fm2 fm3
 have q1 : decide ((8 : Int) <= (n : Int)) = true := decide_eq_true (by omega)
 have q2 : decide ((50 : Int) <= (n : Int)) = true := decide_eq_true (by omega)
 refine Ze fun _ hK7 => Ze fun _ hK8 => Zr [31] hf ?_
 refine Zq7 0 8 9 10 11 12 32 hf ?_
 clear hf sS; intro fr1 hf sS
 refine Zx hK8 (Fact.cond_t sS.2.2.2.2.2.2 ?_)
 refine Ze fun _ hK9 => Ze fun _ hK10 => Zr [33] hf ?_
 refine Zq6 0 9 10 11 12 34 hf ?_
 clear hf sS; intro fr1 hf sS
 refine Zx hK10 (Fact.cond_t sS.2.2.2.2.2 ?_)
 clear q1 q2
 obtain ⟨k1, hk1⟩ : ∃ k, m = k + 1 := ⟨m - 1, by have := HM.out; have := HM2.out; have := HM3.out; omega⟩
 obtain ⟨k2, hk2⟩ : ∃ k, m2 = k + 1 := ⟨m2 - 1, by have := HM.out; have := HM2.out; have := HM3.out; omega⟩
 obtain ⟨k3, hk3⟩ : ∃ k, m3 = k + 1 := ⟨m3 - 1, by have := HM.out; have := HM2.out; have := HM3.out; omega⟩
 obtain ⟨s0, s9, s10, s11, s12, s34⟩ := sS
 rw [hk1] at s10 HM HM2 HM3; rw [hk2] at s11 HM2; rw [hk3] at s12 HM3
 clear hk1 hk2 hk3
 refine Ze fun _ hK11 => rg ?_
 have bB := hf.B3 35 36 37
 iterate 2 refine Zy ?_
 refine Zc (medadj W2 g n c l hl hn hr2 hs k1 (by have := HM.out; have := HM2.out; have := HM3.out; omega) _) ?_; rintro e v8 ⟨rfl, hbv8⟩
 replace sw0 := cL hbv8 sw0
 replace hr2 := hr2.later hbv8
 replace hb2 := hb2.trans (hbv8.mono hb2.size)
 refine Zv ?_
 refine Zy ?_
 refine Fact.nil (Zq5 0 9 10 11 12 hf ?_)
 clear hf s0 s9 s10 s11 s12 s34 bB; intro fr1 hf sS
 refine Zt hK11 fun _ hK12 => ?_
 have bB := hf.B3 38 39 40
 iterate 2 refine Zy ?_
 refine Zc (medadj v8 g n c l hl hn hr2 hs k2 (by have := HM.out; have := HM2.out; have := HM3.out; omega) _) ?_; rintro e v9 ⟨rfl, hbv9⟩
 replace sw0 := cL hbv9 sw0
 replace hr2 := hr2.later hbv9
 replace hb2 := hb2.trans (hbv9.mono hb2.size)
 refine Zv ?_
 refine Zy ?_
 refine Fact.nil (Zq5 0 9 10 11 12 hf ?_)
 clear hf sS bB; intro fr1 hf sS
 refine Zx hK12 (rg ?_)
 have bB := hf.B3 41 42 43
 iterate 2 refine Zy ?_
 refine Zc (medadj v9 g n c l hl hn hr2 hs k3 (by have := HM.out; have := HM2.out; have := HM3.out; omega) _) ?_; rintro e v10 ⟨rfl, hbv10⟩
 replace sw0 := cL hbv10 sw0
 replace hr2 := hr2.later hbv10
 replace hb2 := hb2.trans (hbv10.mono hb2.size)
 refine Zv ?_
 refine Zy ?_
 refine Fact.nil (Zq5 0 9 10 11 12 hf ?_)
 clear hf sS bB; intro fr1 hf sS
 refine Zx hK9 (rg ?_)
 have bB := hf.B5 44 45 46 47 48
 iterate 4 refine Zy ?_
 refine Zc (medb v10 g n c l hl hn hr2 hs (k1 + 1) (k2 + 1) (k3 + 1) (by have := HM.out; have := HM2.out; have := HM3.out; omega) (by have := HM.out; have := HM2.out; have := HM3.out; omega) (by have := HM.out; have := HM2.out; have := HM3.out; omega) _) ?_; rintro e v11 ⟨rfl, hbv11⟩
 replace sw0 := cL hbv11 sw0
 replace hr2 := hr2.later hbv11
 replace hb2 := hb2.trans (hbv11.mono hb2.size)
 refine Zv ?_
 refine Zy ?_
 refine Fact.nil (Zq2 9 11 hf ?_)
 clear hf sS bB; intro fr1 hf sS
 refine Zs hK7 fun _ hK13 => Zr [] hf ?_
 refine Zq2 11 49 hf ?_
 clear hf sS; intro fr1 hf sS
 refine Zx hK13 (wp_block (Ze fun _ hK14 => Zr [52] hf ?_))
 refine Zq3 11 49 51 hf ?_
 clear hf sS; intro fr1 hf sS
 refine Zx hK14 (Fact.cond_t sS.2.2 ?_)
 refine Ze fun _ hK15 => Zr [53] hf ?_
 refine Zq2 6 7 hf ?_
 clear hf sS; intro fr1 hf sS
 refine Zx hK15 (Zret ?_)
 exact Fact.ret2 rfl hf sS.1 sS.2 ⟨⟨_, rfl⟩, hb2⟩
theorem insb (w : World) (A : Option Addr) (g n c : Nat) (l : List Nat) (hl : l.length = n) (hn : n <= 1000000) (hr : RB w g l) (hs : Hid (RiseB l)) (hA : 0 < n -> A = some ⟨g, 0, none⟩) : Calls Tryz.prog 178 #[.slice A n c, .int .i64 0, .int .i64 n] w fun e w1 => e = .returned (.tuple #[]) /\ Below w.heap.size w w1 := by
 refine Zn3 49 Tryz.func178 fun fr hf s0 s1 s2 => ?_
 have e1 : IntKind.i64.wrap ((0 : Int) + 1) = 1 := by decide
 refine Ze fun _ hK1 => rg ?_
 have bB := hf.B2 8 9
 refine Zy ?_
 refine fp fun K Z => ?_
 go_simp
 try simp (disch := omega) only [Fact.W]
 try rw [e1]
 apply Z.out; clear Z K
 refine Zy ?_
 refine Fact.nil (Zq4 0 1 2 6 hf ?_)
 clear hf s0 s1 s2 bB; intro fr1 hf sS
 refine Zx hK1 (wp_block (wp_loop_ghost (fun gk fr wr => ∃ (i : Nat), gk = n - i /\ 1 <= i /\ (i <= n \/ i = 1) /\ Fact.Fr 49 fr /\ fr.tmps[0]? = some (.slice A n c) /\ fr.tmps[1]? = some (.int .i64 0) /\ fr.tmps[2]? = some (.int .i64 n) /\ fr.tmps[6]? = some (.int .i64 i) /\ Below w.heap.size w wr) (n - 1) ?_ ?_))
 . (
 obtain ⟨s0, s1, s2, s6⟩ := sS
 exact ⟨1, rfl, Nat.le_refl _, .inr rfl, hf, s0, s1, s2, s6, Below.refl _ _⟩)
 . (
 clear hf sS
 skip
 rintro gk fr wr ⟨i, hk, hi1, hin, hf, s0, s1, s2, s6, hb⟩
 have HK := Lib.hid hk; have HIN := Lib.hid hin; clear hk hin
 refine Ze fun _ hK2 => Ze fun _ hK3 => Zr [10, 11] hf ?_
 refine Zq5 0 1 2 6 12 hf ?_
 clear hf s0 s1 s2 s6; intro fr1 hf sS
 refine Zx hK3 (Fact.cond_s sS.2.2.2.2 (fun hq => ?_) (fun hq => ?_))
 . (
 have hlt : i < n := by have h9 := of_decide_eq_true hq; omega
 clear hq
 obtain rfl := hA (by omega)
 have hrr := hr.later hb
 refine wp_skip (Zs hK2 fun _ hK4 => wp_block (Ze fun _ hK5 => Zr [15] hf ?_))
 refine Zq5 0 1 2 6 7 hf ?_
 clear hf sS; intro fr1 hf sS
 refine Zx hK5 (wp_block (wp_loop_ghost (fun gk2 fr w2 => Fact.Fr 49 fr /\ fr.tmps[0]? = some (.slice (some ⟨g, 0, none⟩) n c) /\ fr.tmps[1]? = some (.int .i64 0) /\ fr.tmps[2]? = some (.int .i64 n) /\ fr.tmps[6]? = some (.int .i64 i) /\ fr.tmps[7]? = some (.int .i64 i) /\ w2 = wr) (0) ?_ ?_))
 . (
 obtain ⟨s0, s1, s2, s6, s7⟩ := sS
 exact ⟨hf, s0, s1, s2, s6, s7, rfl⟩)
 . (
 clear hf sS
 rintro gk2 fr w2 ⟨hf, s0, s1, s2, s6, s7, hw2⟩
 subst hw2
 obtain ⟨p, hp⟩ : ∃ p, i = p + 1 := ⟨i - 1, by omega⟩
 obtain ⟨xi, hxi⟩ : ∃ x, l[p]? = some x := ⟨_, gE1 (by omega)⟩
 obtain ⟨xj, hxj⟩ : ∃ x, l[p + 1]? = some x := ⟨_, gE1 (by omega)⟩
 have ci := hrr _ _ hxi; have cj := hrr _ _ hxj
 have hij := hs.out _ _ _ _ (by omega) hxi hxj
 clear hxi hxj
 have HIJ := Lib.hid hij; clear hij
 have e4 : IntKind.i64.wrap ((i : Int) - 1) = (p : Int) := by rw [Fact.wrap_i64 (by omega) (by omega)]; omega
 rw [<- hp] at cj
 have HP := Lib.hid hp; clear hp
 have q1 : decide ((0 : Int) < (i : Int)) = true := decide_eq_true (by omega)
 have q5 : decide (0 < i) = true := decide_eq_true (by omega)
 refine Ze fun _ hK6 => Ze fun _ hK7 => Stab.tb 49 fun hok => ?_
 refine Stab.mO 0 s7 hf hok ?_
 refine Stab.mO 1 s1 hf hok ?_
 refine Stab.T 2 hf hok (fun _ _ h d => ad (Stab.vd 0 1 d []) (Stab.vd 1 0 d [])) ?_
 refine Stab.mN 3 2 0 hf hok [] ?_
 refine Stab.Tg 4 hf hok (fun _ _ h d => Stab.vd 3 0 d []) (fun _ _ h d => Stab.O h s0) ?_
 refine Stab.Tg 5 hf hok (fun _ _ h d => Stab.vd 3 1 d []) (fun _ _ h d => Stab.O h s7) ?_
 apply Stab.tr 6 _ hf hok
 . (
 intro fr1 w1 hh hd hk K Z
 have s19 := Stab.v 3 2 hd hk []
 refine Stab.g s19 ?_
 have s20 := Stab.v 4 1 hd hk []
 have s21 := Stab.v 5 0 hd hk []
 clear hd
 go_simp
 try rw [if_pos (by have := HP.out; omega)]
 exact Stab.k Z)
 refine Stab.Tg 7 hf hok (fun _ _ h d => Stab.vd 3 3 d []) (fun _ _ h d => ad (Stab.vd 6 0 d []) (ad (cL h.ext ci) (cL h.ext cj))) ?_
 refine Stab.Tg 8 hf hok (fun _ _ h d => Stab.vd 3 4 d []) (fun _ _ h d => Stab.O h s0) ?_
 refine Stab.Tg 9 hf hok (fun _ _ h d => Stab.vd 3 5 d []) (fun _ _ h d => Stab.O h s7) ?_
 apply Stab.tr 10 _ hf hok
 . (
 intro fr1 w1 hh hd hk K Z
 have s19 := Stab.v 3 6 hd hk []
 refine Stab.g s19 ?_
 have s25 := Stab.v 9 0 hd hk []
 clear hd
 go_simp
 try simp (disch := omega) only [Fact.W]
 try rw [e4]
 exact Stab.k Z)
 apply Stab.tr 11 _ hf hok
 . (
 intro fr1 w1 hh hd hk K Z
 have s19 := Stab.v 3 7 hd hk []
 refine Stab.g s19 ?_
 have s24 := Stab.v 8 2 hd hk []
 have s26 := Stab.v 10 0 hd hk []
 clear hd
 go_simp
 try rw [if_pos (by have := HP.out; omega)]
 exact Stab.k Z)
 refine Stab.Tg 12 hf hok (fun _ _ h d => Stab.vd 3 8 d []) (fun _ _ h d => ad (Stab.vd 11 0 d []) (ad (cL h.ext ci) (cL h.ext cj))) ?_
 apply Stab.tr 13 _ hf hok
 . (
 intro fr1 w1 hh hd hk K Z
 have s19 := Stab.v 3 9 hd hk []
 refine Stab.g s19 ?_
 have s23 := Stab.v 7 5 hd hk []
 have s28 := Stab.v 12 0 hd hk []
 clear hd
 replace ci := cL hh.ext ci
 replace cj := cL hh.ext cj
 go_simp
 go_at_call 184; refine (bless w1 xj xi).mono ?_; rintro e w2 ⟨rfl, rfl⟩
 rw [decide_eq_false (show ¬ xj < xi by have := HIJ.out; omega)]
 exact Stab.k Z)
 refine Stab.T 14 hf hok (fun _ _ h d => ad (Stab.vd 3 10 d []) (Stab.vd 13 0 d [])) ?_
 refine Stab.E hf hok (fun _ _ h g => ad (Stab.O h s0) (ad (Stab.O h s1) (ad (Stab.O h s2) (ad (Stab.O h s6) (ad (Stab.O h s7) (Stab.f 14 0 g)))))) ?_
 clear hf hok s0 s1 s2 s6 s7; intro fr1 w1 hf hx sS
 replace ci := cL hx ci
 replace cj := cL hx cj
 refine Zx hK7 (Fact.cond_f sS.2.2.2.2.2 ?_)
 clear q1 q5 e4
 refine Zo ?_
 refine Fact.block_normal (Zx hK4 (Zr [13, 14] hf ?_))
 refine Zq4 0 1 2 6 hf ?_
 clear hf sS; intro fr1 hf sS
 refine Fact.then_normal ?_
 obtain ⟨s0, s1, s2, s6⟩ := sS
 exact ⟨_, by have := HK.out; omega, i + 1, rfl, by omega, .inl (by omega), hf, s0, s1, s2, by rw [s6]; rfl, hb.trans (hx.mono hb.size)⟩))
 . (
 clear hq
 refine Zo ?_
 exact Fact.end0 rfl hf ⟨rfl, hb⟩))
end Dw
end Go.Proofs.YtcddnmhmcieebaaGreatDoor
