/- fst: ways. -/
import Derived.Test.YtcddnmhmcieebaaGreatDoorY22
import Derived.Test.YtcddnmhmcieebaaGreatDoorTools
namespace Go.Proofs.YtcddnmhmcieebaaGreatDoor
open Go.RowKit
set_option linter.unusedSimpArgs false
set_option linter.unusedVariables false
set_option linter.unnecessarySimpa false
namespace Dw

/-- all cells but those of block G are kept -/
def CK (G : Nat) (w w' : World) : Prop := w.heap.size ≤ w'.heap.size ∧ (∀ (p : Addr) (v : Value), p.block ≠ G → w.cell? p = some v → w'.cell? p = some v) ∧ ∀ (k : Nat) (o : Obj), k ≠ G → o.isCells = true → w.heap[k]? = some o → w'.heap[k]? = some o
theorem CK.trans {G : Nat} {a b c : World} (h : CK G a b) (k : CK G b c) : CK G a c := ⟨Nat.le_trans h.1 k.1, fun p v hp hv => k.2.1 p v hp (h.2.1 p v hp hv), fun n o hn ho hh => k.2.2 n o hn ho (h.2.2 n o hn ho hh)⟩
theorem CK.of_below {G : Nat} {w w' : World} (hb : Below w.heap.size w w') : CK G w w' := ⟨hb.size, fun p v _ hv => cL hb hv, fun k o _ _ hh => (hb.block k (heap_lt hh)).trans hh⟩
theorem RA.ck {G N : Nat} {w w' : World} {v : Value} {l : List Arc} (h : RA w (fun k => k < N) v l) (hN : N ≤ G) (hc : CK G w w') : RA w' (fun k => k < N) v l := by
  obtain ⟨A, c, h1, h2, h3⟩ := h
  refine ⟨A, c, h1, h2, fun h0 => ?_⟩
  obtain ⟨b, off, h4, h5, h6⟩ := h3 h0
  exact ⟨b, off, h4, h5, fun j u hu => hc.2.1 _ _ (by simp only; omega) (h6 j u hu)⟩
theorem RSN.ck {G N : Nat} {w w' : World} {sv : Value} {ss : List State} (h : RSN w N sv ss) (hN : N ≤ G) (hc : CK G w w') : RSN w' N sv ss := by
  obtain ⟨A, c, h1, h2, h3⟩ := h
  refine ⟨A, c, h1, h2, fun h0 => ?_⟩
  obtain ⟨b, off, h4, h5, h6⟩ := h3 h0
  refine ⟨b, off, h4, h5, fun i s hi => ?_⟩
  obtain ⟨av, h7⟩ := h6 i s hi
  exact ⟨av, hc.2.1 _ _ (by simp only; omega) h7.c0, hc.2.1 _ _ (by simp only; omega) h7.c1, hc.2.1 _ _ (by simp only; omega) h7.c2, h7.arcs.ck hN hc⟩
theorem RSN.rs {w : World} {N : Nat} {sv : Value} {ss : List State} (h : RSN w N sv ss) : RS w sv ss := by
  obtain ⟨A, c, h1, h2, h3⟩ := h
  refine ⟨A, c, h1, h2, fun h0 => ?_⟩
  obtain ⟨b, off, h4, h5, h6⟩ := h3 h0
  refine ⟨b, off, h4, fun i s hi => ?_⟩
  obtain ⟨av, h7⟩ := h6 i s hi
  exact ⟨av, h7.c0, h7.c1, h7.c2, h7.arcs.more (fun k _ _ => trivial)⟩
theorem RB.ck {G g : Nat} {w w' : World} {l : List Nat} (h : RB w g l) (hg : g ≠ G) (hc : CK G w w') : RB w' g l := fun i x hx => hc.2.1 _ _ hg (h i x hx)
theorem below_grown {W W' : World} (hb : Below W.heap.size W W') : W.grownBy W' none := ⟨hb.os, hb.tape, hb.output, hb.size, fun k hk _ => hb.block k hk⟩
theorem _root_.Go.Proofs.YtcddnmhmcieebaaGreatDoor.Stays.of_below {C : Obj → Prop} {B : Nat} {I : World → Prop} (h : Stays C B I) {W W' : World} (hs : I W) (hb : Below W.heap.size W W') : I W' := h W W' none hs (below_grown hb) (fun r e => by cases e)
theorem yield_two {e : Ending} {A B : Prop} (h : (e = .returned (.bool true) ∧ A) ∨ (e = .returned (.bool false) ∧ B)) : ∃ b : Bool, e = .returned (.bool b) ∧ ((b = true ∧ A) ∨ (b = false ∧ B)) := by
  rcases h with ⟨h, k⟩ | ⟨h, k⟩
  · exact ⟨true, h, .inl ⟨rfl, k⟩⟩
  · exact ⟨false, h, .inr ⟨rfl, k⟩⟩
theorem find_arc {k i : Nat} {l : List Arc} {a : Arc} (hok : okArcs k (-1) l = true) (hi : l[i]? = some a) : l.find? (hitA a.byte k) = some a := by
  have hr := rise_bytes hok
  have hto := okArcs_to hok (List.mem_of_getElem? hi)
  obtain ⟨hlt, hga⟩ := List.getElem?_eq_some_iff.1 hi
  rw [List.find?_eq_some_iff_getElem]
  refine ⟨by unfold hitA; simp [hto.1, hto.2], i, hlt, hga, fun j hj => ?_⟩
  have hjl : j < l.length := by omega
  have hb1 : (l.map Arc.byte)[j]? = some l[j].byte := by rw [List.getElem?_map, List.getElem?_eq_getElem hjl]; rfl
  have hb2 : (l.map Arc.byte)[i]? = some a.byte := by rw [List.getElem?_map, hi]; rfl
  have := hr.out j i _ _ hj hb1 hb2
  unfold hitA
  have hne : (l[j].byte == a.byte) = false := beq_eq_false_iff_ne.2 (by omega)
  simp [hne]
set_option maxHeartbeats 4000000 in
set_option maxRecDepth 100000 in
theorem ways141 (w : World) (sv : Value) (init k : Nat) (ss : List State) (hrs : RS w sv ss) : Calls Tryz.prog 141 #[.agg #[sv, .int .u64 init], .int .i64 k] w fun e w1 => e = .returned (.func (.func 156) #[] #[.pointer (some ⟨w.heap.size, 0, none⟩), .pointer (some ⟨(w.heap.size + 1), 0, none⟩)]) ∧ w1.cell? ⟨w.heap.size, 0, none⟩ = some sv ∧ w1.cell? ⟨w.heap.size, 1, none⟩ = some (.int .u64 init) ∧ w1.cell? ⟨w.heap.size + 1, 0, none⟩ = some (.int .i64 k) ∧ Below w.heap.size w w1 := by
 refine Zn2 6 Tryz.func141 fun fr hf s0 s1 => ?_
 obtain ⟨A, cc, rfl, hcc⟩ := hrs.form
 refine Ze fun _ hK1 => ?_
 refine Zr [] hf ?_
 refine Zq2 2 3 hf ?_
 clear hf s0 s1; intro fr1 hf sS
 obtain ⟨W0, hW0⟩ : ∃ x, (w.alloc (.cells #[.slice A ss.length cc, .int .u64 init] 38)).alloc (.cells #[.int .i64 k] 3) = x := ⟨_, rfl⟩
 obtain ⟨s2, s3⟩ := sS
 try simp only [World.size_alloc] at s3
 try rw [hW0]
 obtain ⟨hb0, hp0, hp1⟩ := two_boxesT hW0
 clear hW0
 have c0 := cell_of_row _ _ 0 _ 38 (0, 0) hp0; have c1 := cell_of_row _ _ 1 _ 38 (0, 0) hp0; have k0 := cell_of_row _ _ 0 _ 3 (0, 0) hp1
 simp at c0 c1 k0
 refine Zs hK1 fun _ hK2 => ?_
 refine Zr [5] hf ?_
 refine Zq1 4 hf ?_
 clear hf s2 s3; intro fr1 hf s4
 refine Zx hK2 ?_
 refine Zret ?_
 exact Fact.ret1 rfl hf s4 ⟨rfl, c0, c1, k0, hb0⟩
set_option maxHeartbeats 4000000 in
set_option maxRecDepth 100000 in
theorem ways156 (W : World) (n l p0 p1 G N : Nat) (A : Option Addr) (init k : Nat) (ss : List State) (st : State) (sv : Value) (J Jx : List Arc → World → Prop)
    (hY : ∀ pre (x : Arc) W1, J pre W1 → pre ++ [x] <+: st.arcs → YieldAt Fence.wide (n - 1) Tryz.prog l #[.int .u8 x.byte, .agg #[.int .i64 x.to, .int .u64 x.out]] W1 fun e W' => (e = .returned (.bool true) ∧ J (pre ++ [x]) W' ∧ CK G W1 W') ∨ (e = .returned (.bool false) ∧ Jx (pre ++ [x]) W'))
    (hJ : ∀ s, Stays (fun _ => False) W.heap.size (J s)) (hNG : N ≤ G) (hGW : G < W.heap.size) (hNW : N ≤ W.heap.size) (hp0 : p0 ≠ G) (hp1 : p1 ≠ G)
    (c0 : W.cell? ⟨p0, 0, none⟩ = some sv) (c1 : W.cell? ⟨p0, 1, none⟩ = some (.int .u64 init)) (k0 : W.cell? ⟨p1, 0, none⟩ = some (.int .i64 k)) (hrn : RSN W N sv ss) (hk : ss[k]? = some st) (hmax : ss.length ≤ 1000000000) (hok : okArcs k (-1) st.arcs = true) (hlen : st.arcs.length ≤ 1000000) (h0 : J [] W) : Calls Tryz.prog 156 #[.func (.yield l) #[] #[], .pointer (some ⟨p0, 0, none⟩), .pointer (some ⟨p1, 0, none⟩)] W fun e W' => (∃ v, e = .returned v) ∧ ((∃ xs, xs = st.arcs ∧ J xs W') ∨ (∃ pre, pre <+: st.arcs ∧ Jx pre W')) := by
 refine Zn3 33 Tryz.func156 fun fr hf s0 s1 s2 => ?_
 have hrs := hrn.rs
 obtain ⟨A, cc, rfl, hcc⟩ := hrs.form
 refine Ze fun _ hK1 => rg ?_
 have bB := hf.B3 9 10 11
 iterate 2 refine Za ?_
 refine fp fun K Z => ?_
 go_simp
 go_at_call 157; refine (bytes157 W _ init ss hrs k st hk hmax hok hlen).mono ?_; rintro e w1 ⟨v1, rfl, how1, hb1⟩
 obtain ⟨bl9, hbl9⟩ : ∃ x, st.arcs.map Arc.byte = x := ⟨_, rfl⟩
 have hlen9 : bl9.length = st.arcs.length := by rw [← hbl9, List.length_map]
 rw [hbl9] at how1
 obtain ⟨g9, A9, c9, hv9, hA9, hrb9⟩ := how1.rb
 have hg9 : 0 < bl9.length → g9 ≠ G := fun h0 => by have h := hA9 h0; subst hv9; rw [h] at how1; have := (how1.lt g9 (by simp [Value.ownBlock])).1; omega
 subst hv9
 have HL9 := Lib.hid hlen9; have HB9 := Lib.hid hbl9; have HA9 := Lib.hid hA9; have HG9 := Lib.hid hg9; clear hlen9 hbl9 hA9 hg9 how1
 have c0r := cL hb1 c0; have c1r := cL hb1 c1; have k0r := cL hb1 k0; have hrnr := hrn.below (hb1.mono hNW)
 have hj1 := (hJ []).of_below h0 hb1
 clear hrs hrn c0 c1 k0
 try dsimp only
 apply Z.out; clear Z K
 iterate 2 refine Za ?_
 refine Fact.nil (Zq6 0 1 2 11 12 13 hf ?_)
 clear hf s0 s1 s2 bB; intro fr1 hf sS
 refine Zx hK1 ?_
 refine wp_block ?_
 refine wp_loop_ghost (fun gk fr wr => ∃ (i : Nat), gk = bl9.length - i ∧ i ≤ bl9.length ∧ Fact.Fr 33 fr ∧ fr.tmps[0]? = some (.func (.yield l) #[] #[]) ∧ fr.tmps[1]? = some (.pointer (some ⟨p0, 0, none⟩)) ∧ fr.tmps[2]? = some (.pointer (some ⟨p1, 0, none⟩)) ∧ fr.tmps[11]? = some (.slice A9 bl9.length c9) ∧ fr.tmps[12]? = some (.int .i64 bl9.length) ∧ fr.tmps[13]? = some (.int .i64 i) ∧ wr.cell? ⟨p0, 0, none⟩ = some (.slice A ss.length cc) ∧ wr.cell? ⟨p0, 1, none⟩ = some (.int .u64 init) ∧ wr.cell? ⟨p1, 0, none⟩ = some (.int .i64 k) ∧ RSN wr N (.slice A ss.length cc) ss ∧ N ≤ wr.heap.size ∧ RB wr g9 bl9 ∧ J (st.arcs.take i) wr) (bl9.length) ?_ ?_
 · (
 obtain ⟨s0, s1, s2, s11, s12, s13⟩ := sS
 exact ⟨0, rfl, Nat.zero_le _, hf, s0, s1, s2, s11, s12, s13, c0r, c1r, k0r, hrnr, Nat.le_trans hNW hb1.size, hrb9, hj1⟩)
 · (
 clear hf sS
 clear c0r c1r k0r hrnr hj1 hrb9
 rintro gk fr wr ⟨i, hk9, hi, hf, s0, s1, s2, s11, s12, s13, c0, c1, k0, hrn, hNw, hrb, hj⟩
 have HK := Lib.hid hk9; clear hk9
 refine Ze fun _ hK2 => ?_
 refine Zr [] hf ?_
 refine Zq7 0 1 2 11 12 13 14 hf ?_
 clear hf s0 s1 s2 s11 s12 s13; intro fr1 hf sS
 refine Zs hK2 fun _ hK3 => ?_
 refine Fact.cond_s sS.2.2.2.2.2.2 (fun hq => ?_) (fun hq => ?_)
 · (
 have hlt : i < bl9.length := by have h9 := of_decide_eq_true hq; omega
 clear hq
 obtain rfl := HA9.out (by omega)
 have hlta : i < st.arcs.length := by have := HL9.out; omega
 obtain ⟨a, hia⟩ : ∃ a, st.arcs[i]? = some a := ⟨_, List.getElem?_eq_getElem hlta⟩
 have hib : bl9[i]? = some a.byte := by rw [← HB9.out, List.getElem?_map, hia]; rfl
 have cb := hrb _ _ hib
 have hfd := find_arc hok hia
 have hst : st.arcs.take (i + 1) = st.arcs.take i ++ [a] := by rw [List.take_add_one, hia]; rfl
 have HFD := Lib.hid hfd; have HST := Lib.hid hst; clear hfd hst hia hib
 have hrs := hrn.rs
 refine wp_skip ?_
 refine Zs hK3 fun _ hK4 => ?_
 refine wp_block ?_
 refine Ze fun _ hK5 => ?_
 refine Zr [15, 16] hf ?_
 refine Zq7 0 1 2 5 11 12 13 hf ?_
 clear hf sS; intro fr1 hf sS
 refine Zt hK5 fun _ hK6 => ?_
 have bB := hf.B8 18 19 20 21 17 22 23 24
 iterate 3 refine Za ?_
 refine fp fun K Z => ?_
 go_simp
 go_at_call 150; refine (step150 wr _ init ss hrs k a.byte st hk hmax (by omega)).mono ?_; rintro e w2 ⟨rfl, hb2⟩
 rw [HFD.out]
 simp only [stepV]
 have hj2 := (hJ _).of_below hj hb2
 have c0b := cL hb2 c0; have c1b := cL hb2 c1; have k0b := cL hb2 k0; have hrn2 := hrn.below (hb2.mono hNw); have hrb2 := hrb.later hb2; have hNw2 := Nat.le_trans hNw hb2.size
 clear c0 c1 k0 hrn hrb hj cb hrs
 try dsimp only
 apply Z.out; clear Z K
 iterate 7 refine Za ?_
 refine Fact.nil (Zq9 0 1 2 5 6 7 11 12 13 hf ?_)
 clear hf sS bB; intro fr1 hf sS
 refine Zs hK6 fun _ hK7 => ?_
 obtain ⟨s0, s1, s2, s5, s6, s7, s11, s12, s13⟩ := sS
 refine Inr.rgW n ?_
 obtain ⟨b25, b26, b27, b28, b29, b30⟩ := hf.B6 25 26 27 28 29 30
 refine Inr.fpI fun K Z => ?_
 go_simp
 apply Z.out; clear Z K
 refine Inr.fpI fun K Z => ?_
 go_simp
 apply Z.out; clear Z K
 refine Inr.fpI fun K Z => ?_
 go_simp
 apply Z.out; clear Z K
 refine Inr.fpI fun K Z => ?_
 go_simp
 apply Z.out; clear Z K
 refine Inr.fpI fun K Z => ?_
 go_simp
 apply Z.out; clear Z K
 have hy := hY (st.arcs.take i) a w2 hj2 (by rw [← HST.out]; exact List.take_prefix _ _)
 refine Inr.yieldI (r := none) hy (by simp [execOp, go_sem, s0, s5, s6, s7, b25, b26, b27, b28, b29]) (fun e W3 hz => ?_) rfl rfl
 obtain ⟨bt, rfl, hz2⟩ := yield_two hz
 refine ⟨_, rfl, ?_⟩
 clear hy hz
 refine Inr.fpI fun K Z => ?_
 go_simp
 apply Z.out; clear Z K
 refine Inr.nilI ?_
 refine Zq7 0 1 2 11 12 13 31 hf ?_
 clear hf s0 s1 s2 s5 s6 s7 s11 s12 s13 b25 b26 b27 b28 b29 b30; intro fr1 hf sS
 refine Zx hK7 ?_
 refine Fact.cond_s sS.2.2.2.2.2.2 (fun hq3 => ?_) (fun hq3 => ?_)
 · (
 have hbt : bt = false := by simpa using hq3
 obtain ⟨h9, -⟩ | ⟨-, hjx⟩ := hz2
 · (
 rw [hbt] at h9; cases h9)
 refine Zret ?_
 exact Fact.ret0 rfl hf ⟨⟨_, rfl⟩, .inr ⟨_, by rw [← HST.out]; exact List.take_prefix _ _, hjx⟩⟩)
 · (
 have hbt : bt = true := by simpa using hq3
 obtain ⟨-, hj3, hck⟩ | ⟨h9, -⟩ := hz2; rotate_left; (rw [hbt] at h9; cases h9)
 have c0 := hck.2.1 _ _ hp0 c0b; have c1 := hck.2.1 _ _ hp0 c1b; have k0 := hck.2.1 _ _ hp1 k0b; have hrn := hrn2.ck hNG hck; have hrb := hrb2.ck (HG9.out (by omega)) hck; have hNw := Nat.le_trans hNw2 hck.1
 rw [← HST.out] at hj3
 have hj := hj3
 clear hq3 hbt
 refine wp_skip ?_
 refine Fact.block_normal ?_
 refine Zx hK4 ?_
 refine Zr [32] hf ?_
 refine Zq6 0 1 2 11 12 13 hf ?_
 clear hf sS; intro fr1 hf sS
 refine Fact.then_normal ?_
 obtain ⟨s0, s1, s2, s11, s12, s13⟩ := sS
 exact ⟨_, by have := HK.out; omega, i + 1, rfl, by omega, hf, s0, s1, s2, s11, s12, by rw [s13]; rfl, c0, c1, k0, hrn, hNw, hrb, hj⟩))
 · (
 have hie : i = st.arcs.length := by have h9 := of_decide_eq_false hq; have := HL9.out; omega
 clear hq
 rw [hie, List.take_length] at hj
 refine Zo ?_
 exact Fact.end0 rfl hf ⟨⟨_, rfl⟩, .inl ⟨_, rfl, hj⟩⟩))
end Dw
end Go.Proofs.YtcddnmhmcieebaaGreatDoor

namespace Go.Proofs.YtcddnmhmcieebaaGreatDoor
open Go.RowKit
set_option linter.unusedSimpArgs false
set_option linter.unusedVariables false
set_option linter.unnecessarySimpa false
namespace Dw

/-- what is found of each state, by those ahead of it -/
def foldA {α : Type} (z : α) (wi : α → α → Nat → α) (vs : List α) (x : α) (l : List Arc) : α := l.foldl (fun x a => wi x (vs.getD a.to.toNat z) a.out) x
def foundV {α : Type} (z : α) (o : State → α) (wi : α → α → Nat → α) (ss : List State) : List α := ss.foldl (fun vs st => vs ++ [foldA z wi vs (o st) st.arcs]) []
section
variable {α : Type} {z : α} {o : State → α} {wi : α → α → Nat → α} {ss : List State}
theorem foundV_take {i : Nat} {st : State} (h : ss[i]? = some st) : foundV z o wi (ss.take (i + 1)) = foundV z o wi (ss.take i) ++ [foldA z wi (foundV z o wi (ss.take i)) (o st) st.arcs] := by
  unfold foundV
  rw [List.take_add_one, h]
  simp [List.foldl_append]
theorem foundV_len : ∀ (i : Nat), i ≤ ss.length → (foundV z o wi (ss.take i)).length = i
  | 0, _ => by simp [foundV]
  | i + 1, h => by rw [foundV_take (List.getElem?_eq_getElem h), List.length_append, foundV_len i (by omega)]; rfl
theorem foundV_len_all (ss : List State) : (foundV z o wi ss).length = ss.length := by have h := foundV_len (z := z) (o := o) (wi := wi) (ss := ss) ss.length (Nat.le_refl _); rwa [List.take_length] at h
theorem foldA_snoc (vs : List α) (x : α) (l : List Arc) (a : Arc) : foldA z wi vs x (l ++ [a]) = wi (foldA z wi vs x l) (vs.getD a.to.toNat z) a.out := by simp [foldA, List.foldl_append]
/-- the slice all, in the course of it -/
def padV (z : α) (n : Nat) (vs : List α) : List α := vs ++ List.replicate (n - vs.length) z
theorem padV_len {n : Nat} {vs : List α} (h : vs.length ≤ n) : (padV z n vs).length = n := by simp [padV]; omega
theorem padV_old {n i : Nat} {vs : List α} (x : α) (hi : vs.length = i) {j : Nat} (hj : j < i) : ((padV z n vs).set i x)[j]? = some (vs.getD j z) := by
  subst hi
  rw [List.getElem?_set_ne (by omega)]
  unfold padV
  rw [List.getElem?_append_left hj, List.getD_eq_getElem?_getD, List.getElem?_eq_getElem hj]
  rfl
theorem padV_at {n i : Nat} {vs : List α} (x : α) (hi : vs.length = i) (hn : i < n) : ((padV z n vs).set i x)[i]? = some x := by
  subst hi
  rw [List.getElem?_set_self (by rw [padV_len (by omega)]; exact hn)]
theorem padV_step {n i : Nat} {vs : List α} (x : α) (hi : vs.length = i) (hn : i < n) : (padV z n vs).set i x = padV z n (vs ++ [x]) := by
  subst hi
  unfold padV
  rw [List.set_append_right _ _ (Nat.le_refl _), Nat.sub_self, List.length_append, List.length_singleton]
  obtain ⟨k, hk⟩ : ∃ k, n - vs.length = k + 1 := ⟨n - vs.length - 1, by omega⟩
  rw [hk, show n - (vs.length + 1) = k by omega, List.replicate_succ, List.set_cons_zero, List.append_assoc]
  rfl
theorem padV_full {n : Nat} {vs : List α} (h : vs.length = n) : padV z n vs = vs := by subst h; simp [padV]
/-- bounds go through -/
theorem found_ok {Ok : Nat → α → Prop} (ho : ∀ i st, ss[i]? = some st → Ok i (o st)) (hw : ∀ i j x c u, Ok i x → j < i → Ok j c → u < 18446744073709551616 → Ok i (wi x c u))
    (hok : ∀ s ∈ ss, okS s) (hfm : ∀ (k : Nat) (st : State), ss[k]? = some st → okArcs k (-1) st.arcs = true) : ∀ (i : Nat), i ≤ ss.length → ∀ (j : Nat) (x : α), (foundV z o wi (ss.take i))[j]? = some x → Ok j x
  | 0, _ => by intro j x h; simp [foundV] at h
  | i + 1, h => by
    intro j x hx
    have ih := found_ok ho hw hok hfm i (by omega)
    have hs := List.getElem?_eq_getElem (l := ss) h
    have hl := foundV_len (z := z) (o := o) (wi := wi) (ss := ss) i (by omega)
    rw [foundV_take hs] at hx
    rcases Nat.lt_or_ge j i with hj | hj
    · rw [List.getElem?_append_left (by omega)] at hx
      exact ih j x hx
    · rw [List.getElem?_append_right (by omega), hl] at hx
      obtain rfl : j = i := by have := (List.getElem?_eq_some_iff.1 hx).1; simp at this; omega
      simp at hx
      subst hx
      have hst := hok _ (List.getElem_mem h)
      have hto := hfm _ _ hs
      suffices ∀ (pre l : List Arc), ss[j].arcs = pre ++ l → Ok j (foldA z wi (foundV z o wi (ss.take j)) (o ss[j]) pre) → Ok j (foldA z wi (foundV z o wi (ss.take j)) (o ss[j]) (pre ++ l)) from this [] _ rfl (ho _ _ hs)
      intro pre l
      induction l generalizing pre with
      | nil => intro _ h; rwa [List.append_nil]
      | cons a l ihl =>
        intro he hx
        rw [show pre ++ a :: l = (pre ++ [a]) ++ l by simp] at he ⊢
        refine ihl _ he ?_
        rw [foldA_snoc]
        have hma : a ∈ ss[j].arcs := by rw [he]; simp
        have ht := okArcs_to hto hma
        refine hw _ a.to.toNat _ _ _ hx (by omega) (ih _ _ ?_) (hst.2.2 a hma).2.1
        rw [List.getD_eq_getElem?_getD, List.getElem?_eq_getElem (by omega)]
        rfl
/-- within a state -/
theorem fold_ok {Ok : Nat → α → Prop} (ho : ∀ i st, ss[i]? = some st → Ok i (o st)) (hw : ∀ i j x c u, Ok i x → j < i → Ok j c → u < 18446744073709551616 → Ok i (wi x c u))
    (hok : ∀ s ∈ ss, okS s) (hfm : ∀ (k : Nat) (st : State), ss[k]? = some st → okArcs k (-1) st.arcs = true) {i : Nat} {st : State} (hs : ss[i]? = some st) : ∀ (pre : List Arc), pre <+: st.arcs → Ok i (foldA z wi (foundV z o wi (ss.take i)) (o st) pre) := by
  intro pre
  have hi := (List.getElem?_eq_some_iff.1 hs).1
  have hl := foundV_len (z := z) (o := o) (wi := wi) (ss := ss) i (by omega)
  suffices ∀ (k : Nat), k ≤ pre.length → pre <+: st.arcs → Ok i (foldA z wi (foundV z o wi (ss.take i)) (o st) (pre.take k)) by
    intro hp; have := this pre.length (Nat.le_refl _) hp; rwa [List.take_length] at this
  intro k hk hp
  induction k with
  | zero => exact ho _ _ hs
  | succ k ih =>
    obtain ⟨t, ht⟩ := hp
    have hmem : pre[k] ∈ st.arcs := by rw [← ht]; exact List.mem_append_left _ (List.getElem_mem (by omega))
    rw [List.take_succ_eq_append_getElem (by omega), foldA_snoc]
    have h2 := okArcs_to (hfm _ _ hs) hmem
    refine hw _ pre[k].to.toNat _ _ _ (ih (by omega)) (by omega) (found_ok (z := z) ho hw hok hfm i (by omega) _ _ ?_) ((hok _ (List.mem_of_getElem? hs)).2.2 _ hmem).2.1
    rw [List.getD_eq_getElem?_getD, List.getElem?_eq_getElem (by omega)]
    rfl
end
/-- the marks that ranges have left, all behind block G -/
def Coll (G : Nat) : List Deferred → Nat → World → Prop
  | [], _, _ => True
  | d :: ds, n, w => ∃ D, d = { target := .collected D, args := #[] } ∧ G < D ∧ D < n ∧ w.heap[D]? = some (.deferred (some [])) ∧ Coll G ds D w
theorem Coll.turn {G : Nat} {w w' : World} : ∀ {ds : List Deferred} {n m : Nat}, Coll G ds n w → n ≤ m → (∀ D, G < D → D < n → w.heap[D]? = some (.deferred (some [])) → w'.heap[D]? = some (.deferred (some []))) → Coll G ds m w'
  | [], _, _, _, _, _ => trivial
  | d :: ds, n, m, ⟨D, h1, h2, h3, h4, h5⟩, hm, h => ⟨D, h1, h2, Nat.lt_of_lt_of_le h3 hm, h D h2 h3 h4, h5.turn (Nat.le_refl _) fun E e1 e2 => h E e1 (Nat.lt_trans e2 h3)⟩
theorem Coll.below {G n m : Nat} {ds : List Deferred} {w w' : World} (h : Coll G ds n w) (hm : n ≤ m) (hb : Below n w w') : Coll G ds m w' := h.turn hm fun D _ hD hh => (hb.block D hD).trans hh
theorem Coll.set {G n : Nat} {ds : List Deferred} {w : World} (h : Coll G ds n w) {p : Addr} (hp : p.block = G) (v : Value) : Coll G ds n (w.setCell p v) := h.turn (Nat.le_refl _) fun D hD _ hh => (Below.heap_setCell w p v D (by omega)).trans hh
theorem leaves_coll {P : Program} {fn : Func} {tmps : Array Value} {R : Ending → World → Prop} {G : Nat} : ∀ {ds : List Deferred} {n : Nat} {w : World}, Coll G ds n w →
    (∀ w', Below (G + 1) w w' → ∃ v, (results fn tmps).run P w' = .ok v w' ∧ R (.returned v) w') → LeavesInM Fence.wide 9 P fn tmps R ds .returning w
  | [], n, w, _, h => h w (Below.refl _ _)
  | d :: ds, n, w, ⟨D, h1, h2, h3, h4, h5⟩, h => by
    subst h1
    refine ⟨by simp, .inl ⟨_, _, rfl, run_takeDeferred h4, ?_⟩⟩
    have hb : Below (G + 1) w (w.putObj D (.deferred none)) := (Below.refl _ w).grown (grownBy_putObj' w D _) (by have := (Array.getElem?_eq_some_iff.1 h4).1; omega) (fun k e => by cases e; omega)
    exact leaves_coll (h5.turn (Nat.le_refl _) fun E _ e2 hE => (World.putObj_heap_other (by omega)).trans hE) fun w' hw => h w' (hb.trans hw)
theorem enterM {P : Program} {f : FuncId} {fn : Func} {c : Code} {args : Array Value} {w : World} {R : Ending → World → Prop} (hf : P.funcs[f]? = some fn) (hb : fn.body = some c)
    (h : c.wp P (bodyPostM Fence.wide 9 P fn R) { tmps := args ++ Array.replicate (fn.ntmps - args.size) undef, defers := [] } w) : Calls P f args w R :=
  (callsIn_wide (n := 9)).1 (callsIn_of_wp_marks hf hb trivial (wpIn_wide.2 h) rfl)
theorem call_wp {P : Program} {o : Oper} {a : Act} {w : World} {K : Act → World → Prop} {Q : Exit → Act → World → Prop} {g : FuncId} {args : Array Value} {R : Ending → World → Prop} (hs : (execOp a.eval o).run P w = .ok (.enter g args) w)
    (hc : Calls P g args w R) (hR : ∀ e w', R e w' → ∃ v, e = .returned v ∧ K (a.put o.dst v) w') : o.wp P a w K Q := by
  unfold Oper.wp
  rw [hs]
  exact hc.mono fun e w' h => by obtain ⟨v, rfl, h2⟩ := hR e w' h; exact h2
theorem Stays.cell {B : Nat} {p : Addr} {v : Value} : Stays (Beside fun _ => False) B (fun W => W.cell? p = some v) := by
  intro W W' row hs hg hr
  have hlt : p.block < W.heap.size := cell_lt0 hs
  refine (World.cell?_of_block (hg.block p.block hlt fun e => ?_)).trans hs
  obtain ⟨_, o, ho, hc⟩ := hr _ e.symm
  rcases hc with hc | hc
  · unfold World.cell? at hs
    rw [ho] at hs
    cases o <;> first | (cases hs; done) | (cases hc; done)
  · exact hc
theorem Stays.cells {B k : Nat} {o : Obj} (ho : o.isCells = true) : Stays (Beside fun _ => False) B (fun W => W.heap[k]? = some o) := by
  intro W W' row hs hg hr
  refine (hg.block k (heap_lt hs) fun e => ?_).trans hs
  obtain ⟨_, o2, ho2, hc⟩ := hr _ e.symm
  rw [hs] at ho2
  cases ho2
  rcases hc with hc | hc
  · rw [ho] at hc; cases hc
  · exact hc
theorem Stays.all {β : Type} {C : Obj → Prop} {B : Nat} {I : β → World → Prop} (h : ∀ b, Stays C B (I b)) : Stays C B (fun W => ∀ b, I b W) := fun W W' row hs hg hr b => h b W W' row (hs b) hg hr
theorem Stays.imp {C : Obj → Prop} {B : Nat} {p : Prop} {I : World → Prop} (h : p → Stays C B I) : Stays C B (fun W => p → I W) := fun W W' row hs hg hr hp => h hp W W' row (hs hp) hg hr
theorem Stays.ck {B G : Nat} {W0 : World} : Stays (Beside fun _ => False) B (CK G W0) := by
  intro W W' row hs hg hr
  exact ⟨Nat.le_trans hs.1 hg.size, fun p v hp hv => Stays.cell W W' row (hs.2.1 p v hp hv) hg hr, fun k o hk ho hh => Stays.cells ho W W' row (hs.2.2 k o hk ho hh) hg hr⟩
theorem Stays.coll {G B : Nat} : ∀ {ds : List Deferred} {n : Nat}, n ≤ B → Stays (Beside fun _ => False) B (Coll G ds n)
  | [], _, _ => Stays.pure _ _ _
  | d :: ds, n, h => by
    intro W W' row hs hg hr
    refine hs.turn (Nat.le_refl _) fun D _ hD hh => ?_
    exact Stays.block (.inl (by omega)) W W' row hh hg hr
theorem CK.set {G : Nat} {w w' : World} (h : CK G w w') {p : Addr} (hp : p.block = G) (v : Value) : CK G w (w'.setCell p v) :=
  ⟨Nat.le_trans h.1 (by simp), fun q u hq hu => (World.cell?_of_block (Below.heap_setCell _ _ _ _ (by rw [hp]; exact hq))).trans (h.2.1 q u hq hu), fun k o hk ho hh => (Below.heap_setCell _ _ _ _ (by rw [hp]; exact hk)).trans (h.2.2 k o hk ho hh)⟩
theorem CK.refl (G : Nat) (w : World) : CK G w w := ⟨Nat.le_refl _, fun _ _ _ h => h, fun _ _ _ _ h => h⟩
theorem keeps_belowD {W W' : World} (hb : Below W.heap.size W W') : KeepsOthers W W' := ⟨hb.size, fun k _o h _ => (hb.block k (Array.getElem?_eq_some_iff.1 h).1).trans h⟩
theorem CK.put {G l : Nat} {W : World} {o : Obj} (o' : Obj) (ho : W.heap[l]? = some o) (hc : o.isCells = false) : CK G W (W.putObj l o') :=
  ⟨by simp, fun p v _ hv => Stays.cell (B := l) W _ (some l) hv (grownBy_putObj' W l o') (fun r e => by cases e; exact ⟨Nat.le_refl _, o, ho, .inl hc⟩), fun k o2 _ ho2 hh => Stays.cells ho2 (B := l) W _ (some l) hh (grownBy_putObj' W l o') (fun r e => by cases e; exact ⟨Nat.le_refl _, o, ho, .inl hc⟩)⟩
theorem retM {P : Program} {fn : Func} {R : Ending → World → Prop} {G n N t : Nat} {ds : List Deferred} {a : Act} {w : World} {v : Value} (h : fn.results = #[.tmp t]) (hf : Fact.FrD ds N a) (s : a.tmps[t]? = some v) (hc : Coll G ds n w) (hR : ∀ w', Below (G + 1) w w' → R (.returned v) w') : bodyPostM Fence.wide 9 P fn R .ret a w := by
  show LeavesInM Fence.wide 9 P fn a.tmps R a.defers .returning w
  rw [hf.defers]
  exact leaves_coll hc fun w' hw => ⟨v, by rw [results_tmp h, Fact.getD_tmp s], hR w' hw⟩
theorem retMc {P : Program} {fn : Func} {R : Ending → World → Prop} {G n N p g : Nat} {ty t : TypeId} {ds : List Deferred} {a : Act} {w : World} {cs : Array Value} {fr : Nat × Nat} {d : TypeDesc} (h : fn.results = #[.cell p ty]) (hf : Fact.FrD ds N a)
    (sp : a.tmps[p]? = some (.pointer (some ⟨g, 0, none⟩))) (hg : w.heap[g]? = some (.cells cs t fr)) (hgG : g ≤ G) (hu : P.underlying ty = some d) (hd : (match d with | .struct _ | .array _ _ => true | _ => false) = true) (hi : (P.info? ty).map (·.size) = some cs.size)
    (hc : Coll G ds n w) (hR : ∀ w', Below (G + 1) w w' → R (.returned (.agg cs)) w') : bodyPostM Fence.wide 9 P fn R .ret a w := by
  show LeavesInM Fence.wide 9 P fn a.tmps R a.defers .returning w
  rw [hf.defers]
  refine leaves_coll hc fun w' hw => ⟨.agg cs, ?_, hR w' hw⟩
  have hg' := (hw.block g (by omega)).trans hg
  have hp' : a.tmps[p]?.getD undef = .pointer (some ⟨g, 0, none⟩) := by simp [sp]
  have h2 : (results fn a.tmps).run P w' = ((asAddr (a.tmps.getD p undef)).run P w').andThen fun x w₁ => (loadVar ty x).run P w₁ := by
    simp only [results, h]
    simp [Sem.run_bind, Result.andThen]
  rw [h2]
  simp [hp', asAddr, run_loadVar_row w' g t ty cs fr d hg' hu hd hi, Result.andThen]
theorem assign2 {ds : List Deferred} {N p q : Nat} {v1 v2 : Value} {fr : Act} (hf : Fact.FrD ds N fr) (hp : Nat.blt p N = true) (hq : Nat.blt q N = true) (hpq : Nat.beq p q = false) {M : Act → Prop}
    (h : ∀ a1 : Act, Fact.Fr N a1 → a1.tmps[p]? = some v1 → a1.tmps[q]? = some v2 → (∀ t, Nat.beq p t = false → Nat.beq q t = false → a1.tmps[t]? = fr.tmps[t]?) → M a1) : M { tmps := (#[p, q].zip #[v1, v2]).foldl (fun t (p, v) => t.setIfInBounds p v) fr.tmps, defers := [] } := by
  have hp' : p < fr.tmps.size := hf.l p hp
  have hq' : q < fr.tmps.size := hf.l q hq
  have hne : p ≠ q := Nat.ne_of_beq_eq_false hpq
  have e : (#[p, q].zip #[v1, v2]).foldl (fun t (p, v) => t.setIfInBounds p v) fr.tmps = (fr.tmps.setIfInBounds p v1).setIfInBounds q v2 := by simp
  rw [e]
  refine h _ ⟨by simp [hf.size], rfl⟩ ?_ ?_ fun t h1 h2 => ?_
  · simp [Array.getElem?_setIfInBounds, hne.symm, hp']
  · simp [Array.getElem?_setIfInBounds, hq']
  · simp [Array.getElem?_setIfInBounds, Nat.ne_of_beq_eq_false h1, Nat.ne_of_beq_eq_false h2]
theorem ways_iter (m p0 p1 G N : Nat) (init k : Nat) (ss : List State) (st : State) (sv : Value) (W0 : World) (hNG : N ≤ G) (hGW : G < W0.heap.size) (hNW : N ≤ W0.heap.size) (hp0 : p0 ≠ G) (hp1 : p1 ≠ G)
    (c0 : W0.cell? ⟨p0, 0, none⟩ = some sv) (c1 : W0.cell? ⟨p0, 1, none⟩ = some (.int .u64 init)) (k0 : W0.cell? ⟨p1, 0, none⟩ = some (.int .i64 k)) (hrn : RSN W0 N sv ss) (hk : ss[k]? = some st) (hmax : ss.length ≤ 1000000000) (hok : okArcs k (-1) st.arcs = true) (hlen : st.arcs.length ≤ 1000000) :
    Iter m Tryz.prog (fun _ => False) 156 #[.pointer (some ⟨p0, 0, none⟩), .pointer (some ⟨p1, 0, none⟩)] (fun x : Arc => #[.int .u8 x.byte, .agg #[.int .i64 x.to, .int .u64 x.out]]) (CK G) (fun xs => xs = st.arcs) (fun pre => pre <+: st.arcs) (fun pre x => pre ++ [x] <+: st.arcs) W0 := by
  intro l J Jx W hb hJ _ hY h0
  exact callsIn_wide.2 (ways156 W m l p0 p1 G N none init k ss st sv J Jx hY hJ hNG (Nat.lt_of_lt_of_le hGW hb.size) (Nat.le_trans hNW hb.size) hp0 hp1 (cL hb c0) (cL hb c1) (cL hb k0) (hrn.below (hb.mono hNW)) hk hmax hok hlen h0)
theorem arcs_few {k : Nat} {st : State} (h : okArcs k (-1) st.arcs = true) (ho : okS st) : st.arcs.length ≤ 256 := by
  have := okArcs_len _ _ _ h (fun a ha => (ho.2.2 a ha).1) (by omega) (by omega)
  omega

end Dw
end Go.Proofs.YtcddnmhmcieebaaGreatDoor
