/- fst: walk, its iterator. -/
import Derived.Test.YtcddnmhmcieebaaGreatDoorFL
import Derived.Test.YtcddnmhmcieebaaGreatDoorTools
namespace Go.Proofs.YtcddnmhmcieebaaGreatDoor
set_option maxHeartbeats 4000000
set_option maxRecDepth 100000
open Go.RowKit
set_option linter.unusedSimpArgs false
set_option linter.unusedVariables false
set_option linter.unnecessarySimpa false
namespace Dw
theorem RSN.keep {N : Nat} {w w' : World} {sv : Value} {ss : List State} (h : RSN w N sv ss) (hc : ∀ (p : Addr) (v : Value), p.block < N -> w.cell? p = some v -> w'.cell? p = some v) : RSN w' N sv ss := by
 obtain ⟨A, c, h1, h2, h3⟩ := h
 refine ⟨A, c, h1, h2, fun h0 => ?_⟩
 obtain ⟨b, off, h4, h5, h6⟩ := h3 h0
 refine ⟨b, off, h4, h5, fun i s hi => ?_⟩
 obtain ⟨av, h7⟩ := h6 i s hi
 refine ⟨av, hc _ _ (by simp only; omega) h7.c0, hc _ _ (by simp only; omega) h7.c1, hc _ _ (by simp only; omega) h7.c2, ?_⟩
 obtain ⟨A2, c2, k1, k2, k3⟩ := h7.arcs
 refine ⟨A2, c2, k1, k2, fun h0 => ?_⟩
 obtain ⟨b2, off2, k4, k5, k6⟩ := k3 h0
 exact ⟨b2, off2, k4, k5, fun j x hx => hc _ _ (by simp only; omega) (k6 j x hx)⟩
structure KE (N G Lr : Nat) (A B : World) : Prop where
 size : A.heap.size <= B.heap.size
 low : ∀ (p : Addr) (v : Value), p.block < N -> A.cell? p = some v -> B.cell? p = some v
 kept : ∀ (g : Nat) (o : Obj), N <= g -> g ≠ G -> g ≠ Lr -> ¬ isEnt o -> A.heap[g]? = some o -> B.heap[g]? = some o
structure WF (B N pf pt : Nat) (from_ : ByteArray) (sv : Value) (init : Nat) (ss : List State) (l : Nat) (V : World) : Prop where
 f : V.heap[pf]? = some (.cells #[.string from_] 9 (0, 0))
 t : V.heap[pt]? = some (.cells #[sv, .int .u64 init] 38 (0, 0))
 y : V.heap[B]? = some (.cells #[.func (.yield l) #[] #[]] 237 (0, 0))
 b : V.heap[B + 1]? = some (.cells #[.func (.func 152) #[] #[.pointer (some ⟨pf, 0, none⟩), .pointer (some ⟨pt, 0, none⟩), .pointer (some ⟨B, 0, none⟩), .pointer (some ⟨(B + 1), 0, none⟩)]] 238 (0, 0))
 s : RSN V N sv ss
section
variable {B N G Lr pf pt init l : Nat} {from_ : ByteArray} {sv : Value} {ss : List State} {V V' : World}
theorem WF.use (h : WF B N pf pt from_ sv init ss l V) : V.cell? ⟨pf, 0, none⟩ = some (.string from_) /\ V.cell? ⟨pt, 0, none⟩ = some sv /\ V.cell? ⟨pt, 1, none⟩ = some (.int .u64 init) /\ V.cell? ⟨B, 0, none⟩ = some (.func (.yield l) #[] #[]) /\ V.cell? ⟨B + 1, 0, none⟩ = some (.func (.func 152) #[] #[.pointer (some ⟨pf, 0, none⟩), .pointer (some ⟨pt, 0, none⟩), .pointer (some ⟨B, 0, none⟩), .pointer (some ⟨(B + 1), 0, none⟩)]) /\ RS V sv ss := by
 have c1 := cR1 0 h.f; have c2 := cR1 0 h.t; have c3 := cR1 1 h.t; have c4 := cR1 0 h.y; have c5 := cR1 0 h.b
 simp at c1 c2 c3 c4 c5
 exact ⟨c1, c2, c3, c4, c5, h.s.rs⟩
theorem WF.low (hN : N <= B) (hf : pf < Lr) (ht : pt < Lr) (hL : Lr < B := by omega) : Low (WF B N pf pt from_ sv init ss l) (B + 2) := fun A A' row h hg hr => by
 have key : ∀ (g : Nat) (o : Obj), g < B + 2 -> A.heap[g]? = some o -> A'.heap[g]? = some o := fun g o h1 h2 => (hg.block g (heap_lt h2) (fun e => by have := hr g e.symm; omega)).trans h2
 exact ⟨key _ _ (by omega) h.f, key _ _ (by omega) h.t, key _ _ (by omega) h.y, key _ _ (by omega) h.b, h.s.keep fun p v hp hv => (World.cell?_of_block (hg.block p.block (cell_lt0 hv) (fun e => by have := hr _ e.symm; omega))).trans hv⟩
theorem KE.kc (h : KE N G Lr V V') (hN : N <= B) (hf : pf < Lr) (ht : pt < Lr) (hNf : N <= pf) (hNt : N <= pt) (hfG : pf ≠ G) (htG : pt ≠ G) (hG : G < B) (hL : Lr < B) : KC (WF B N pf pt from_ sv init ss l) (B + 2) V V' :=
 ⟨h.size, fun x => ⟨h.kept _ _ hNf hfG (by omega) (nE rfl) x.f, h.kept _ _ hNt htG (by omega) (nE rfl) x.t, h.kept _ _ hN (by omega) (by omega) (nE rfl) x.y, h.kept _ _ (by omega) (by omega) (by omega) (nE rfl) x.b, x.s.keep h.low⟩, fun g o a b c => h.kept g o (by omega) (by omega) (by omega) b c⟩
end
theorem _root_.Go.Proofs.YtcddnmhmcieebaaGreatDoor.Stays.of_below_ge {C : Obj -> Prop} {B : Nat} {I : World -> Prop} (h : Stays C B I) {W W' : World} {n : Nat} (hs : I W) (_ : n <= W.heap.size) (hb : Below W.heap.size W W') : I W' := h.of_below hs hb
theorem behind_all (m : Nat) (F : World -> Prop) (M : Nat) (hFl : Low F M) (pf pt py pb : Nat) (from_ : ByteArray) (hfz : from_.size <= 1000000000) (sv : Value) (init : Nat) (ss : List State) (L : Nat) (J Jx : List Wd -> World -> Prop) (T : List Wd)
  (hF : ∀ {V : World}, F V -> V.cell? ⟨pf, 0, none⟩ = some (.string from_) /\ V.cell? ⟨pt, 0, none⟩ = some sv /\ V.cell? ⟨pt, 1, none⟩ = some (.int .u64 init) /\ V.cell? ⟨py, 0, none⟩ = some (.func (.yield L) #[] #[]) /\ V.cell? ⟨pb, 0, none⟩ = some (.func (.func 152) #[] #[.pointer (some ⟨pf, 0, none⟩), .pointer (some ⟨pt, 0, none⟩), .pointer (some ⟨py, 0, none⟩), .pointer (some ⟨pb, 0, none⟩)]) /\ RS V sv ss)
  (hY : ∀ pre x W1, J pre W1 -> F W1 -> pre ++ [x] <+: T -> YieldAt Fence.wide (m - 1) Tryz.prog L x.args W1 fun e W' => (e = .returned (.bool true) /\ J (pre ++ [x]) W' /\ KC F M W1 W') \/ (e = .returned (.bool false) /\ Jx (pre ++ [x]) W' /\ KC F M W1 W'))
  (hJ : ∀ s, Stays Cw M (J s)) (hJx : ∀ s, Stays Cw M (Jx s)) (hlen : ss.length <= 1000000) (hok : ∀ s ∈ ss, okS s) (hfm : ∀ (k : Nat) (st : State), ss[k]? = some st -> okArcs k (-1) st.arcs = true) : ∀ (f k : Nat) (W : World) (u : ByteArray) (n : Nat) (b : Bool) (pre : List Wd), k < f -> k < ss.length -> M <= W.heap.size -> F W -> J pre W -> pre ++ walkS ss (wl from_) f k u n b <+: T -> n < M64 -> u.size + k <= 1000000 -> Calls Tryz.prog 152 #[.int .i64 k, .string u, .agg #[.int .u64 n, .bool b], .pointer (some ⟨pf, 0, none⟩), .pointer (some ⟨pt, 0, none⟩), .pointer (some ⟨py, 0, none⟩), .pointer (some ⟨pb, 0, none⟩)] W (Rb F M J Jx T W pre (walkS ss (wl from_) f k u n b)) := by
 intro f
 induction f with
 | zero => intro k _ _ _ _ _ h; omega
 | succ f ih =>
  intro k W u n b pre hk hkl hM hF0 hJ0 hT hn hul
  exact behind_in m F M hFl pf pt py pb from_ hfz sv init ss L J Jx T hF hY hJ hJx hlen hok hfm f k W u n b pre hM hF0 hJ0 hT hn hkl hul fun k' W' u' n' b' pre' h1 h2 h3 h4 h5 h6 h7 => ih k' W' u' n' b' pre' (by omega) (by omega) h2 h3 h4 h5 h6 h7
theorem walk128 (w : World) (sv : Value) (init : Nat) (ss : List State) (s : ByteArray) (hrs : RS w sv ss) : Calls Tryz.prog 128 #[.agg #[sv, .int .u64 init], .string s] w fun e w1 => e = .returned (.func (.func 151) #[] #[.pointer (some ⟨(w.heap.size + 1), 0, none⟩), .pointer (some ⟨w.heap.size, 0, none⟩)]) /\ w1.heap[w.heap.size]? = some (.cells #[sv, .int .u64 init] 38 (0, 0)) /\ w1.heap[w.heap.size + 1]? = some (.cells #[.string s] 9 (0, 0)) /\ Below w.heap.size w w1 := by
 refine Zn2 6 Tryz.func128 fun fr hf s0 s1 => ?_
 obtain ⟨A, cc, rfl, hcc⟩ := hrs.form
 refine Ze fun _ hK1 => Zr [] hf ?_
 refine Zq2 2 3 hf ?_
 clear hf s0 s1; intro fr1 hf sS
 obtain ⟨W0, hW0⟩ : ∃ x, (w.alloc (.cells #[.slice A ss.length cc, .int .u64 init] 38)).alloc (.cells #[.string s] 9) = x := ⟨_, rfl⟩
 obtain ⟨s2, s3⟩ := sS
 try simp only [World.size_alloc] at s3
 try rw [hW0]
 obtain ⟨hb0, hp0, hp1⟩ := two_boxesT hW0
 clear hW0
 refine Zs hK1 fun _ hK2 => Zr [5] hf ?_
 refine Zq1 4 hf ?_
 clear hf s2 s3; intro fr1 hf s4
 refine Zx hK2 (Zret ?_)
 exact Fact.ret1 rfl hf s4 ⟨rfl, hp0, hp1, hb0⟩
theorem walk151 (W : World) (n m l pf pt N G Lr : Nat) (from_ : ByteArray) (hfz : from_.size <= 1000000000) (sv : Value) (init : Nat) (hin : init < M64) (ss : List State) (J Jx : List Wd -> World -> Prop)
    (hY : ∀ pre (x : Wd) W1, J pre W1 -> pre ++ [x] <+: (walkS ss (wl from_) ss.length (ss.length - 1) ⟨#[]⟩ init true) -> YieldAt Fence.wide (m - 1) Tryz.prog l x.args W1 fun e W' => (e = .returned (.bool true) /\ J (pre ++ [x]) W' /\ KE N G Lr W1 W') \/ (e = .returned (.bool false) /\ Jx (pre ++ [x]) W' /\ KE N G Lr W1 W'))
    (hJ : ∀ s, Stays Cw W.heap.size (J s)) (hJx : ∀ s, Stays Cw W.heap.size (Jx s)) (hpf : W.heap[pf]? = some (.cells #[.string from_] 9 (0, 0))) (hpt : W.heap[pt]? = some (.cells #[sv, .int .u64 init] 38 (0, 0))) (hrn : RSN W N sv ss) (hNW : N <= W.heap.size) (hNf : N <= pf) (hNt : N <= pt) (hfW : pf < Lr) (htW : pt < Lr) (hfG : pf ≠ G) (htG : pt ≠ G) (hGW : G < W.heap.size) (hLW : Lr < W.heap.size)
    (hlen : ss.length <= 1000000) (hok : ∀ s ∈ ss, okS s) (hfm : ∀ (k : Nat) (st : State), ss[k]? = some st -> okArcs k (-1) st.arcs = true) (h0 : J [] W) : Calls Tryz.prog 151 #[.func (.yield l) #[] #[], .pointer (some ⟨pf, 0, none⟩), .pointer (some ⟨pt, 0, none⟩)] W fun e W' => (∃ v, e = .returned v) /\ ((∃ xs, xs = (walkS ss (wl from_) ss.length (ss.length - 1) ⟨#[]⟩ init true) /\ J xs W') \/ (∃ pre, pre <+: (walkS ss (wl from_) ss.length (ss.length - 1) ⟨#[]⟩ init true) /\ Jx pre W')) := by
 refine Zn3 17 Tryz.func151 fun fr hf s0 s1 s2 => ?_
 have hsf : ∀ (V : World) (a : Addr) (f : Fn) (c e : Array Value) (m : Mode), (store a (.func f c e) m).run Tryz.prog V = stored Tryz.prog V a (.func f c e) m := fun V a f c e m => run_store _ _ _ _ _ rfl
 obtain ⟨WS, hWS⟩ : ∃ x, (walkS ss (wl from_) ss.length (ss.length - 1) ⟨#[]⟩ init true) = x := ⟨_, rfl⟩
 rw [hWS] at hY |-
 have HWS := Lib.hid hWS; clear hWS
 obtain ⟨A, cc, rfl, hcc⟩ := hrn.rs.form
 refine Ze fun _ hK1 => Zr [] hf ?_
 refine Zq3 1 2 3 hf ?_
 clear hf s0 s1 s2; intro fr1 hf sS
 refine Zs hK1 fun _ hK2 => Zr [] hf ?_
 refine Zq4 1 2 3 4 hf ?_
 clear hf sS; intro fr1 hf sS
 obtain ⟨Wb, hWb⟩ : ∃ x, (W.alloc (.cells #[.func (.yield l) #[] #[]] 237)).alloc (.cells #[.nilFunc] 238) = x := ⟨_, rfl⟩
 obtain ⟨s1, s2, s3, s4⟩ := sS
 try simp only [World.size_alloc] at s4
 rw [hWb]
 obtain ⟨hbb, hpy, hpb⟩ := two_boxesT hWb
 clear hWb
 have cpb := cR1 0 hpb
 simp at cpb
 have fpb := frozen_of (i := 0) hpb
 refine Zs hK2 fun _ hK3 => Zr [6] hf ?_
 refine Zq2 2 4 hf ?_
 clear hf s1 s2 s3 s4; intro fr1 hf sS
 generalize hWc : Wb.setCell ⟨(W.heap.size + 1), 0, none⟩ (.func (.func 152) #[] #[.pointer (some ⟨pf, 0, none⟩), .pointer (some ⟨pt, 0, none⟩), .pointer (some ⟨W.heap.size, 0, none⟩), .pointer (some ⟨(W.heap.size + 1), 0, none⟩)]) = Wc
 have hpb2 : Wc.heap[(W.heap.size + 1)]? = some (.cells #[.func (.func 152) #[] #[.pointer (some ⟨pf, 0, none⟩), .pointer (some ⟨pt, 0, none⟩), .pointer (some ⟨W.heap.size, 0, none⟩), .pointer (some ⟨(W.heap.size + 1), 0, none⟩)]] 238 (0, 0)) := by rw [<- hWc]; simpa using set_block (i := 0) hpb (.func (.func 152) #[] #[.pointer (some ⟨pf, 0, none⟩), .pointer (some ⟨pt, 0, none⟩), .pointer (some ⟨W.heap.size, 0, none⟩), .pointer (some ⟨(W.heap.size + 1), 0, none⟩)])
 have hpy2 : Wc.heap[W.heap.size]? = some (.cells #[.func (.yield l) #[] #[]] 237 (0, 0)) := by rw [<- hWc]; exact (Below.heap_setCell _ _ _ _ (by simp)).trans hpy
 have hbc : Below W.heap.size W Wc := by rw [<- hWc]; exact hbb.setCell (p := ⟨W.heap.size + 1, 0, none⟩) (Nat.le_succ _) _
 clear hWc cpb fpb hpb hpy hbb
 replace hpf := (hbc.block _ (heap_lt hpf)).trans hpf; replace hpt := (hbc.block _ (heap_lt hpt)).trans hpt; replace hrn := hrn.below (hbc.mono hNW)
 have hj := (hJ []).of_below h0 hbc
 have ct0 := cR1 0 hpt; have ct1 := cR1 1 hpt
 simp at ct0 ct1
 have hpbl := heap_lt hpb2
 refine Zt hK3 fun _ hK4 => ?_
 have bB := hf.B2 7 8
 refine Zy ?_
 refine Zc (root149 Wc _ init ss hrn.rs (by omega)) ?_; rintro e Wd ⟨rfl, hbd⟩
 replace hpf := (hbd.block _ (heap_lt hpf)).trans hpf
 replace hpt := (hbd.block _ (heap_lt hpt)).trans hpt
 replace hpy2 := (hbd.block _ (heap_lt hpy2)).trans hpy2
 replace hpb2 := (hbd.block _ (heap_lt hpb2)).trans hpb2
 have hNc : N <= Wc.heap.size := Nat.le_trans hNW hbc.size
 replace hrn := hrn.below (hbd.mono hNc)
 replace hj := (hJ []).of_below_ge hj hbc.size hbd
 have hWd : W.heap.size + 1 < Wd.heap.size := heap_lt hpb2
 refine Zv ?_
 refine Zy ?_
 refine Fact.nil (Zq3 2 4 5 hf ?_)
 clear hf sS bB; intro fr1 hf sS
 refine Zs hK4 fun _ hK5 => Zr [9] hf ?_
 refine Zq4 2 4 5 10 hf ?_
 clear hf sS; intro fr1 hf sS
 refine Zx hK5 (Fact.cond_s sS.2.2.2 (fun hq => ?_) (fun hq => ?_))
 . (
 obtain ⟨k, hk⟩ : ∃ k, ss.length = k + 1 := ⟨ss.length - 1, by have h9 := of_decide_eq_true hq; omega⟩
 have hk1 : (ss.length : Int) - 1 = ((k : Nat) : Int) := by omega
 obtain ⟨s2, s4, s5, s10⟩ := sS
 rw [hk1] at s5
 clear hq
 have ct0 := cR1 0 hpt; have ct1 := cR1 1 hpt; have cpb := cR1 0 hpb2
 simp at ct0 ct1 cpb
 have ebh : ∀ args w, (callFunc 152 args).run Tryz.prog w = .ok (.enter 152 args) w := enters_of Tryz.func152 (by kernel_rfl) rfl
 have hcall := behind_all m (WF W.heap.size N pf pt from_ (.slice A ss.length cc) init ss l) (W.heap.size + 2) (WF.low hNW hfW htW) pf pt W.heap.size (W.heap.size + 1) from_ hfz (.slice A ss.length cc) init ss l J Jx WS (fun h => h.use) (fun pre x W1 hj1 hF1 hp => (hY pre x W1 hj1 hp).mono fun e W2 h => by rcases h with ⟨h1, h2, h3⟩ | ⟨h1, h2, h3⟩; exact .inl ⟨h1, h2, h3.kc hNW hfW htW hNf hNt hfG htG hGW hLW⟩; exact .inr ⟨h1, h2, h3.kc hNW hfW htW hNf hNt hfG htG hGW hLW⟩) (fun s => (hJ s).mono (fun o h => h) (by omega)) (fun s => (hJx s).mono (fun o h => h) (by omega)) hlen hok hfm ss.length k Wd ⟨#[]⟩ init true [] (by omega) (by omega) (by omega) ⟨hpf, hpt, hpy2, hpb2, hrn⟩ hj (by rw [List.nil_append, <- HWS.out, hk]; exact List.prefix_refl _) hin (by show 0 + k <= 1000000; omega)
 refine rg ?_
 obtain ⟨b11, b12, b13, b14, b15⟩ := hf.B5 11 12 13 14 15
 iterate 5 refine Zy ?_
 refine fp fun K Z => ?_
 refine call_wp (g := 152) (args := #[.int .i64 k, .string ⟨#[]⟩, .agg #[.int .u64 init, .bool true], .pointer (some ⟨pf, 0, none⟩), .pointer (some ⟨pt, 0, none⟩), .pointer (some ⟨W.heap.size, 0, none⟩), .pointer (some ⟨(W.heap.size + 1), 0, none⟩)]) (by simp [execOp, go_sem, s5, cpb, ebh, b11, b12, b13, b14, b15]) hcall ?_
 rintro e W2 hR
 obtain ⟨bt, rfl, hz2⟩ := rb_two hR
 refine ⟨_, rfl, ?_⟩
 clear hR hcall
 apply Z.out; clear Z K
 refine Fact.nil (Zq0 hf ?_)
 clear hf s2 s4 s5 s10 b11 b12 b13 b14 b15; intro fr1 hf
 refine Fact.end0 rfl hf ⟨⟨_, rfl⟩, ?_⟩
 rcases hz2 with ⟨-, h1, -⟩ | ⟨-, ⟨s, h1, h2⟩, -⟩
 . (
 exact .inl ⟨_, rfl, by rw [List.nil_append, show walkS ss (wl from_) ss.length k ⟨#[]⟩ init true = WS by rw [<- HWS.out, hk]; rfl] at h1; exact h1⟩)
 . (
 exact .inr ⟨s, h1, h2⟩))
 . (
 have h0l : ss.length = 0 := by have h9 := of_decide_eq_false hq; omega
 have hws : WS = [] := by rw [<- HWS.out, h0l, walkS]
 refine wp_skip ?_
 exact Fact.end0 rfl hf ⟨⟨_, rfl⟩, .inl ⟨_, rfl, by rw [hws]; exact hj⟩⟩)
theorem walk_iter (m pf pt N G : Nat) (from_ : ByteArray) (hfz : from_.size <= 1000000000) (sv : Value) (init : Nat) (hin : init < M64) (ss : List State) (W0 : World) (hpf : W0.heap[pf]? = some (.cells #[.string from_] 9 (0, 0))) (hpt : W0.heap[pt]? = some (.cells #[sv, .int .u64 init] 38 (0, 0))) (hrn : RSN W0 N sv ss) (hNW : N <= W0.heap.size) (hNf : N <= pf) (hNt : N <= pt) (hfG : pf ≠ G) (htG : pt ≠ G) (hGW : G < W0.heap.size)
  (hlen : ss.length <= 1000000) (hok : ∀ s ∈ ss, okS s) (hfm : ∀ (k : Nat) (st : State), ss[k]? = some st -> okArcs k (-1) st.arcs = true) :
  Iter m Tryz.prog Cw 151 #[.pointer (some ⟨pf, 0, none⟩), .pointer (some ⟨pt, 0, none⟩)] Wd.args (KE N G (W0.heap.size + 1)) (fun xs => xs = (walkS ss (wl from_) ss.length (ss.length - 1) ⟨#[]⟩ init true)) (fun pre => pre <+: (walkS ss (wl from_) ss.length (ss.length - 1) ⟨#[]⟩ init true)) (fun pre x => pre ++ [x] <+: (walkS ss (wl from_) ss.length (ss.length - 1) ⟨#[]⟩ init true)) W0 := by
 intro l J Jx W hb hsz hJ hJx hY h0
 have h1 := heap_lt hpf; have h2 := heap_lt hpt
 exact callsIn_wide.2 (walk151 W m m l pf pt N G (W0.heap.size + 1) from_ hfz sv init hin ss J Jx hY hJ hJx ((hb.block _ h1).trans hpf) ((hb.block _ h2).trans hpt) (hrn.below (hb.mono hNW)) (by omega) hNf hNt (by omega) (by omega) hfG htG (by omega) (by omega) hlen hok hfm h0)
def isW (x : Wd) : Bool := x.b && decide (x.n <= 4294967296)
theorem isW_le {x : Wd} (h : isW x = true) : x.n <= 4294967296 := by
 unfold isW at h
 rw [Bool.and_eq_true] at h
 exact of_decide_eq_true h.2
def entF (xs : List Wd) : List Ent := (xs.filter isW).map fun x => ofE x.w x.n
theorem entF_snoc (xs : List Wd) (x : Wd) : entF (xs ++ [x]) = entF xs ++ (if isW x then [ofE x.w x.n] else []) := by
 unfold entF
 rw [List.filter_append, List.map_append]
 cases h : isW x <;> simp [h]
def fromV (ss : List State) (init : Nat) (s : ByteArray) (n : Int) : List Ent := if n < 1 then [] else (entF (walkS ss (wl s) ss.length (ss.length - 1) ⟨#[]⟩ init true)).take n.toNat
theorem fromV_all {ss : List State} {init nn : Nat} {s : ByteArray} (h1 : 0 < nn) (h : (entF (walkS ss (wl s) ss.length (ss.length - 1) ⟨#[]⟩ init true)).length < nn) : fromV ss init s nn = entF (walkS ss (wl s) ss.length (ss.length - 1) ⟨#[]⟩ init true) := by
 unfold fromV
 rw [if_neg (by omega), List.take_of_length_le (by rw [Int.toNat_natCast]; omega)]
theorem fromV_cut {ss : List State} {init nn : Nat} {s : ByteArray} {pre : List Wd} (h1 : 0 < nn) (hp : pre <+: walkS ss (wl s) ss.length (ss.length - 1) ⟨#[]⟩ init true) (h : (entF pre).length = nn) : fromV ss init s nn = entF pre := by
 unfold fromV
 obtain ⟨z, hz⟩ := hp
 rw [if_neg (by omega), <- hz, Int.toNat_natCast]
 unfold entF at h |-
 rw [List.filter_append, List.map_append, List.take_append_of_le_length (by omega), List.take_of_length_le (by omega)]
theorem nEs (cur : Array Value) : ¬ Beside Cw (.cells cur 64 (0, 0)) := fun h => by
 rcases h with h | h | ⟨b, h⟩
 ·cases h
 ·cases h
 ·injection h with _ h2; exact absurd h2 (by decide)
theorem stay_sm {B k : Nat} {a b : Value} {t : TypeId} (h : Nat.beq t 4 = false) : Stays (Beside Cw) B (fun W => W.heap[k]? = some (.cells #[a, b] t (0, 0))) :=
 Stays.block (.inr fun h2 => by
  rcases h2 with h2 | h2 | ⟨b, h2⟩
  ·cases h2
  ·cases h2
  ·injection h2 with _ h3; rw [h3] at h; cases h)
section
variable {N G Lr : Nat} {A B C : World}
theorem KE.trans (h : KE N G Lr A B) (k : KE N G Lr B C) : KE N G Lr A C := ⟨Nat.le_trans h.size k.size, fun p v a b => k.low p v a (h.low p v a b), fun g o a b c d e => k.kept g o a b c d (h.kept g o a b c d e)⟩
theorem KE.below (hb : Below A.heap.size A B) : KE N G Lr A B := ⟨hb.size, fun p v _ h => cL hb h, fun g o _ _ _ _ h => (hb.block g (heap_lt h)).trans h⟩
theorem KE.put {o o' : Obj} (ho : A.heap[Lr]? = some o) (hN : N <= Lr) : KE N G Lr A (A.putObj Lr o') :=
 ⟨by simp, fun p v hp h => (World.cell?_of_block (World.putObj_heap_other (by omega))).trans h, fun g o _ _ hg _ h => (World.putObj_heap_other hg).trans h⟩
theorem KE.turn (h : A.grownBy B (some G)) (hN : N <= G) : KE N G Lr A B :=
 ⟨h.size, fun p v hp hv => (World.cell?_of_block (h.block p.block (cell_lt0 hv) (fun e => by injection e with e; omega))).trans hv, fun g o _ hg _ _ ho => (h.block g (heap_lt ho) (fun e => by injection e with e; omega)).trans ho⟩
theorem KE.app {base n : Nat} {v : Value} {xs : List Value} (h : A.ownsRow base 64 3 v n xs) (hg : A.grownBy B v.ownBlock) (hN : N <= base) : KE N G Lr A B :=
 ⟨hg.size, fun p w hp hw => (World.cell?_of_block (hg.block p.block (cell_lt0 hw) (fun e => by have := (World.ownsRow.lt h _ e.symm).1; omega))).trans hw, fun g o _ _ _ he ho => (hg.block g (heap_lt ho) (fun e => by
  rcases h.2 with ⟨h1, _⟩ | ⟨g2, cap, cur, h1, _, h3, _⟩
  ·rw [h1] at e; cases e
  ·rw [h1] at e; injection e with e; subst e; rw [h3] at ho; injection ho with ho; exact he ⟨cur, _, ho.symm⟩)).trans ho⟩
theorem app_keep {base n L : Nat} {v : Value} {xs : List Value} {o : Obj} (h : A.ownsRow base 64 3 v n xs) (hg : A.grownBy B v.ownBlock) (ho : A.heap[L]? = some o) (hc : o.isCells = false) : B.heap[L]? = some o :=
 (hg.block L (heap_lt ho) (fun e => by
  rcases h.2 with ⟨h1, _⟩ | ⟨g2, cap, cur, h1, _, h3, _⟩
  ·rw [h1] at e; cases e
  ·rw [h1] at e; injection e with e; subst e; rw [h3] at ho; injection ho with ho; rw [<- ho] at hc; cases hc)).trans ho
theorem KE.from {B0 : Nat} (h : KE N G Lr A B) (hN : N <= B0 := by omega) (hG : G < B0 := by omega) (hL : ∀ o, A.heap[Lr]? = some o -> o.isCells = false -> B.heap[Lr]? = some o := by assumption) : KeepsFrom B0 A B := ⟨h.size, fun k o a b c => by
  by_cases e : k = Lr
  ·subst e; exact hL o b c
  ·exact h.kept k o (by omega) (by omega) e (nE' c) b⟩
end
theorem oe_set {A B : World} {base G : Nat} {v : Value} {es : List Ent} (h : OE A base v es) (hg : A.grownBy B (some G)) (hG : G < base) : OE B base v es := by
 refine ⟨h.1, ?_⟩
 rcases h.2 with h1 | ⟨g, cap, cur, h1, h2, h3, h4⟩
 ·exact .inl h1
 ·exact .inr ⟨g, cap, cur, h1, h2, (hg.block g (heap_lt h3) (fun e => by injection e with e; omega)).trans h3, h4⟩
theorem from81 (w : World) (sv : Value) (init : Nat) (ss : List State) (s : ByteArray) (n : Int) (hrs : RS w sv ss) (hs : s.size <= 1000000000) (hin : init < M64) (hn : n <= 1000000) (hlen : ss.length <= 1000000) (hok : ∀ s ∈ ss, okS s) (hfm : ∀ (k : Nat) (st : State), ss[k]? = some st -> okArcs k (-1) st.arcs = true) : Calls Tryz.prog 81 #[.agg #[sv, .int .u64 init], .string s, .int .i64 n] w fun e w1 => ∃ v, e = .returned v /\ OE w1 w.heap.size v (fromV ss init s n) /\ Below w.heap.size w w1 := by
 refine enterM Tryz.func81 rfl ?_
 refine Fact.en 37 fun fr hf hT => ?_
 have s0 := hT 0 _ rfl
 have s1 := hT 1 _ rfl
 have s2 := hT 2 _ rfl
 clear hT
 obtain ⟨A, cc, rfl, hcc⟩ := hrs.form
 refine Ze fun _ hK1 => Zr [] hf ?_
 refine Zq4 1 3 5 6 hf ?_
 clear hf s0 s1 s2; intro fr1 hf sS
 obtain ⟨W0, hW0⟩ : ∃ x, ((w.alloc (.cells #[.slice A ss.length cc, .int .u64 init] 38)).alloc (.cells #[.int .i64 n] 3)).alloc (.cells #[.slice none 0 0] 29) = x := ⟨_, rfl⟩
 obtain ⟨s1, s3, s5, s6⟩ := sS
 try simp only [World.size_alloc] at s5 s6
 rw [hW0]
 obtain ⟨hb, hpf, hpn, hpg⟩ := boxes3T hW0
 clear hW0
 have cf0 := cR1 0 hpf; have cf1 := cR1 1 hpf; have cn := cR1 0 hpn; have cg := cR1 0 hpg
 simp at cf0 cf1 cn cg
 have fg := frozen_of (i := 0) hpg
 have hrn := hrs.n.below hb
 clear hrs
 refine Zs hK1 fun _ hK2 => Ze fun _ hK3 => Zr [11] hf ?_
 refine Zq5 1 3 5 6 12 hf ?_
 clear hf s1 s3 s5 s6; intro fr1 hf sS
 refine Zx hK3 (Fact.cond_s sS.2.2.2.2 (fun hq => ?_) (fun hq => ?_))
 . (
 have hv : fromV ss init s n = [] := by have h9 := of_decide_eq_true hq; unfold fromV; rw [if_pos h9]
 refine Ze fun _ hK4 => Zr [] hf ?_
 refine Zq4 1 3 5 6 hf ?_
 clear hf sS; intro fr1 hf sS
 generalize hW9 : W0.setCell ⟨(w.heap.size + 1 + 1), 0, none⟩ (.slice none 0 0) = W9
 have h6 : W9.heap[(w.heap.size + 1 + 1)]? = some (.cells #[.slice none 0 0] 29 (0, 0)) := by rw [<- hW9]; simpa using set_block (i := 0) hpg (.slice none 0 0)
 have hbF : Below w.heap.size w W9 := by rw [<- hW9]; exact hb.setCell (p := ⟨(w.heap.size + 1 + 1), 0, none⟩) (by show w.heap.size <= w.heap.size + 1 + 1; omega) _
 refine Zx hK4 (Zret ?_)
 have howF : OE W9 ((w.heap.size + 1 + 1) + 1) (.slice none 0 0) (fromV ss init s n) := by rw [hv]; exact OE.nil_ _ _
 exact retMv (G := (w.heap.size + 1 + 1)) (S := fun V => OE V ((w.heap.size + 1 + 1) + 1) (.slice none 0 0) (fromV ss init s n)) (Stays.own (fun cur h => by cases h)) rfl hf sS.2.2.2 h6 (Nat.le_refl _) Tryz.isAgg29 Coll.nil0 howF (fun w' hw h9 => ⟨_, rfl, own_less h9 (by omega), hbF.trans (hw.mono (by omega))⟩))
 . (
 obtain ⟨nn, hnn⟩ : ∃ k : Nat, n = (k : Int) := ⟨n.toNat, by have h9 := of_decide_eq_false hq; omega⟩
 subst hnn
 have hn1 : 0 < nn := by have h9 := of_decide_eq_false hq; omega
 clear hq
 refine wp_skip (Zs hK2 fun _ hK5 => Ze fun _ hK6 => rg ?_)
 have bB := hf.B2 13 14
 iterate 2 refine Zy ?_
 refine Zc (walk128 W0 _ init ss s hrn.rs) ?_; rintro e W3 ⟨rfl, hq0, hq1, hb3⟩
 have hsz0 : w.heap.size <= W0.heap.size := hb.size
 have hgl := heap_lt hpg
 replace hpn := (hb3.block _ (heap_lt hpn)).trans hpn
 replace hpg := (hb3.block _ (heap_lt hpg)).trans hpg
 replace hrn := hrn.below (hb3.mono hsz0)
 replace hb := hb.trans (hb3.mono hb.size)
 obtain ⟨q, hq⟩ : ∃ x, W0.heap.size = x := ⟨_, rfl⟩
 rw [hq] at hq0 hq1 hgl hsz0 |-
 have hql := heap_lt hq1
 clear hq hb3 cf0 cf1 cn cg fg
 refine Zv ?_
 refine Fact.nil (Zq3 5 6 15 hf ?_)
 clear hf sS bB; intro fr1 hf sS
 refine Zx hK6 (wp_block ?_)
 have hNb := hb.size
 have hit := walk_iter (9 - 1) (q + 1) q w.heap.size (w.heap.size + 1 + 1) s hs (.slice A ss.length cc) init hin ss W3 hq1 hq0 hrn hb.size (by omega) (by omega) (by omega) (by omega) (by omega) hlen hok hfm
 refine (wpIn_wide (n := 9)).1 ?_
 refine wpIn_range (C := Cw) (Fact.eval_tmp sS.2.2) (enters_of Tryz.func151 (by kernel_rfl) rfl) hit KE.trans (fun V o o' ho hc _ => KE.put ho (by omega)) (Below.refl _ _) (fun _ => rfl) (fun xs V => ∃ v, V.heap[(w.heap.size + 1 + 1)]? = some (.cells #[v] 29 (0, 0)) /\ OE V ((w.heap.size + 1 + 1) + 1) v (entF xs) /\ (entF xs).length < nn /\ V.heap[(w.heap.size + 1)]? = some (.cells #[.int .i64 nn] 3 (0, 0)) /\ Below w.heap.size w V) (fun c xs V => c = .exit 0 /\ ∃ v, V.heap[(w.heap.size + 1 + 1)]? = some (.cells #[v] 29 (0, 0)) /\ OE V ((w.heap.size + 1 + 1) + 1) v (entF xs) /\ (entF xs).length = nn /\ Below w.heap.size w V) (fun xs => Stays.ex fun v => Stays.and (Stays.block (.inl (by omega))) (Stays.and (Stays.own nEs) (Stays.and (Stays.pure _ _ _) (Stays.and (Stays.block (.inl (by omega))) (Stays.below (by omega) (by omega)))))) (fun c xs => Stays.and (Stays.pure _ _ _) (Stays.ex fun v => Stays.and (Stays.block (.inl (by omega))) (Stays.and (Stays.own nEs) (Stays.and (Stays.pure _ _ _) (Stays.below (by omega) (by omega)))))) ⟨_, hpg, OE.nil_ _ _, hn1, hpn, hb⟩ (fun (x : Wd) a' V => ∃ Bx, (Fact.Fr 37 a' /\ a'.tmps[5]? = some (.pointer (some ⟨(w.heap.size + 1), 0, none⟩)) /\ a'.tmps[6]? = some (.pointer (some ⟨(w.heap.size + 1 + 1), 0, none⟩)) /\ a'.tmps[7]? = some (.string x.w) /\ a'.tmps[8]? = some (.pointer (some ⟨Bx, 0, none⟩))) /\ V.heap[Bx]? = some (.cells #[.int .u64 x.n, .bool x.b] 190 (0, 0)) /\ True) (fun x a' => Stays.ex fun Bx => Stays.and (Stays.pure _ _ _) (Stays.and (stay_sm (by rfl)) (Stays.pure _ _ _))) ?_ ?_ ?_ ?_
 . (
 rintro l pre2 x V K ⟨v, hg, how, hlt, hpn2, hbV⟩ hKK
 refine assign2 (M := fun a => Code.wpIn _ _ _ _ _ a _) hf rfl rfl rfl fun a1 hf1 h16 h17 hold => ?_
 obtain ⟨s5, s6, s15⟩ := sS
 have s5 := (hold 5 rfl rfl).trans s5; have s6 := (hold 6 rfl rfl).trans s6; have s16 := h16; have s17 := h17
 clear hold h16 h17
 have hf := hf1; clear hf1
 refine wpIn_seq_k (fun _ iK7 => ?_)
 refine Inr.rgI (r := some l) ?_
 refine Inr.fpI fun K Z => ?_
 go_simp
 apply Z.out; clear Z K
 refine Inr.nilI ?_
 refine Zq4 5 6 7 17 hf ?_
 clear hf s5 s6 s16 s17; intro fr1 hf sS
 refine nx (iK7 _ _ ?_)
 obtain ⟨s5, s6, s7, s17⟩ := sS
 refine Inr.rgI (r := some l) ?_
 have b8 := hf.b 8
 refine Inr.fpI fun K Z => ?_
 go_simp
 apply Z.out; clear Z K
 refine Inr.fpI fun K Z => ?_
 go_simp
 apply Z.out; clear Z K
 refine Inr.nilI ?_
 refine Zq4 5 6 7 8 hf ?_
 clear hf s5 s6 s7 s17 b8; intro fr1 hf sS
 refine Fact.then_normal ?_
 generalize hV7 : V.alloc (.cells #[.int .u64 x.n, .bool x.b] 190) = V7
 have hb7 : Below V.heap.size V V7 := by rw [<- hV7]; exact (Below.refl _ _).alloc (Nat.le_refl _) _
 have hx7 : V7.heap[V.heap.size]? = some (.cells #[.int .u64 x.n, .bool x.b] 190 (0, 0)) := by rw [<- hV7]; exact heap_alloc_new V _
 clear hV7
 obtain ⟨s5, s6, s7, s8⟩ := sS
 exact hKK _ _ ((keeps_belowD hb7).from _) (KE.below hb7) ⟨v, (hb7.block _ (heap_lt hg)).trans hg, own_later how hb7, hlt, (hb7.block _ (heap_lt hpn2)).trans hpn2, hbV.trans (hb7.mono hbV.size)⟩ ⟨_, ⟨hf, s5, s6, s7, s8⟩, hx7, trivial⟩)
 . (
 clear hf sS
 rintro l pre2 x a1 V hl _ ⟨v, hg, how, hlt, hpn2, hbV⟩ ⟨Bx, ⟨hf, s5, s6, s7, s8⟩, hbx, -⟩ hpre
 have z0 := cR1 0 hbx; have z1 := cR1 1 hbx
 simp at z0 z1
 obtain ⟨is, his⟩ : ∃ y, isW x = y := ⟨_, rfl⟩
 have HIS := Lib.hid his; clear his
 have hVs : w.heap.size + 1 + 1 < V.heap.size := heap_lt hg
 refine wpIn_block ?_
 refine wpIn_seq_k (fun _ iK8 => ?_)
 refine wpIn_seq_k (fun _ iK9 => ?_)
 refine Inr.rgI (r := some l) ?_
 obtain ⟨b18, b19⟩ := hf.B2 18 19
 refine Inr.fpI fun K Z => ?_
 go_simp
 apply Z.out; clear Z K
 refine Inr.fpI fun K Z => ?_
 go_simp
 go_at_call 115; refine (is115 V x.n x.b).mono ?_; rintro e V1 ⟨rfl, hb1⟩
 rw [show (x.b && decide (x.n <= 4294967296)) = is from HIS.out]
 replace z0 := cL hb1 z0; replace z1 := cL hb1 z1
 try dsimp only
 apply Z.out; clear Z K
 refine Inr.fpI fun K Z => ?_
 go_simp
 apply Z.out; clear Z K
 refine Inr.nilI ?_
 refine Zq5 5 6 7 8 20 hf ?_
 clear hf s5 s6 s7 s8 b18 b19; intro fr1 hf sS
 refine nx (iK9 _ _ ?_)
 refine wpIn_cond_split (Fact.eval_tmp sS.2.2.2.2) (fun hq5 => ?_) (fun hq5 => ?_)
 . (
 have hi : is = false := by simpa using hq5
 have hef : entF (pre2 ++ [x]) = entF pre2 := by rw [entF_snoc, HIS.out, hi]; simp
 refine wpIn_exit ?_
 refine Fact.then_exit ?_
 refine Fact.block_exit ?_
 exact ⟨(keeps_belowD hb1).from _, KE.below hb1, by simp only [hef]; exact ⟨v, (hb1.block _ (heap_lt hg)).trans hg, own_later how hb1, hlt, (hb1.block _ (heap_lt hpn2)).trans hpn2, hbV.trans (hb1.mono hbV.size)⟩⟩)
 . (
 have hi : is = true := by simpa using hq5
 have hxn : x.n <= 4294967296 := isW_le (HIS.out.trans hi)
 obtain ⟨E, hE⟩ : ∃ y, ofE x.w x.n = y := ⟨_, rfl⟩
 have hef : entF (pre2 ++ [x]) = entF pre2 ++ [E] := by rw [entF_snoc, HIS.out, hi, hE]; simp
 have HE := Lib.hid hE; have HEF := Lib.hid hef; clear hE hef
 refine wpIn_skip ?_
 refine nx (iK8 _ _ ?_)
 refine wpIn_seq_k (fun _ iK10 => ?_)
 obtain ⟨s5, s6, s7, s8, s20⟩ := sS
 refine Inr.rgI (r := some l) ?_
 obtain ⟨b22, b23, b24, b25, b21, b26, b27, b9⟩ := hf.B8 22 23 24 25 21 26 27 9
 refine Inr.fpI fun K Z => ?_
 go_simp
 apply Z.out; clear Z K
 refine Inr.fpI fun K Z => ?_
 go_simp
 apply Z.out; clear Z K
 refine Inr.fpI fun K Z => ?_
 go_simp
 apply Z.out; clear Z K
 refine Inr.fpI fun K Z => ?_
 go_simp
 go_at_call 127; refine (of127 V1 x.w x.n (by omega)).mono ?_; rintro e V2 ⟨rfl, hb2⟩
 rw [HE.out]
 simp only [eval]
 try dsimp only
 apply Z.out; clear Z K
 refine Inr.fpI fun K Z => ?_
 go_simp
 apply Z.out; clear Z K
 refine Inr.fpI fun K Z => ?_
 go_simp
 apply Z.out; clear Z K
 refine Inr.fpI fun K Z => ?_
 go_simp
 apply Z.out; clear Z K
 refine Inr.fpI fun K Z => ?_
 go_simp
 apply Z.out; clear Z K
 refine Inr.fpI fun K Z => ?_
 go_simp
 apply Z.out; clear Z K
 refine Inr.fpI fun K Z => ?_
 go_simp
 apply Z.out; clear Z K
 refine Inr.nilI ?_
 refine Zq3 5 6 9 hf ?_
 clear hf s5 s6 s7 s8 s20 b22 b23 b24 b25 b21 b26 b27 b9; intro fr1 hf sS
 generalize hV3 : V2.alloc (.cells #[.string E.word, .int .u32 E.weight, .bool E.gone] 64) = V3
 obtain ⟨hb3v, e0, e1, e2, -, -⟩ := box3 hV3
 clear hV3
 have hb13 : Below V.heap.size V V3 := (hb1.trans (hb2.mono hb1.size)).trans (hb3v.mono (Nat.le_trans hb1.size hb2.size))
 replace hg := (hb13.block _ (heap_lt hg)).trans hg; replace hpn2 := (hb13.block _ (heap_lt hpn2)).trans hpn2; replace how := own_later how hb13
 have cg := cR1 0 hg
 simp at cg
 have fg := frozen_of (i := 0) hg
 obtain ⟨es, hes⟩ : ∃ y, entF pre2 = y := ⟨_, rfl⟩
 have hef := HEF.out
 rw [hes] at how hlt hef
 have HES := Lib.hid hes; have HEF2 := Lib.hid hef; clear hes hef HEF
 refine nx (iK10 _ _ ?_)
 refine wpIn_seq_k (fun _ iK11 => ?_)
 obtain ⟨s5, s6, s9⟩ := sS
 refine Inr.rgI (r := some l) ?_
 obtain ⟨b28, b29, b30, b31⟩ := hf.B4 28 29 30 31
 refine Inr.fpI fun K Z => ?_
 go_simp
 apply Z.out; clear Z K
 refine Inr.fpI fun K Z => ?_
 go_simp
 apply Z.out; clear Z K
 refine Inr.fpI fun K Z => ?_
 go_simp
 generalize hV4 : V3.alloc (.cells #[.string E.word, .int .u32 E.weight, .bool E.gone] 64) = V4
 have hlit := lit_new V3 (Ent.cells E) 64
 rw [show V3.alloc (.cells (Ent.cells E).toArray 64) = V4 from hV4] at hlit
 have hb4 : Below V3.heap.size V3 V4 := by rw [<- hV4]; exact (Below.refl _ _).alloc (Nat.le_refl _) _
 clear hV4
 have how4 := own_later how hb4
 have hg4 := (hb4.block _ (heap_lt hg)).trans hg
 apply Z.out; clear Z K
 refine Inr.fpI fun K Z => ?_
 refine wp_app _ _ 29 rfl 64 _ 3 24 Tryz.underlying29 info_ent rfl (by decide) (by decide) ((w.heap.size + 1 + 1) + 1) v es.length (ecs es) (by simp [Act.eval, b28, b29, b30]) how4 V3.heap.size (Ent.cells E) (by simp [Act.eval, b28, b29, b30]) rfl hlit (ent_one E) (by omega) (by have := hb4.size; have := hb13.size; omega) (fun v5 V5 hr5 hg5 hat5 => ?_)
 have hk5 := KE.app how4 hg5 (N := w.heap.size) (G := (w.heap.size + 1 + 1)) (Lr := W3.heap.size + 1) (by omega)
 have hg55 : V5.heap[(w.heap.size + 1 + 1)]? = some (.cells #[v] 29 (0, 0)) := (hg5.block _ (heap_lt hg4) (fun e => by have := (World.ownsRow.lt how4 _ e.symm).1; omega)).trans hg4
 have cg5 := cR1 0 hg55
 simp at cg5
 have fg5 := frozen_of (i := 0) hg55
 clear cg fg
 have how5 : OE V5 ((w.heap.size + 1 + 1) + 1) v5 (es ++ [E]) := by unfold OE; rw [List.length_append, ecs_append]; simpa [ecs] using hr5
 obtain ⟨A6, n6, c6v, hl6, rfl⟩ : ∃ A n c, n = es.length + 1 /\ v5 = .slice A n c := by obtain ⟨A6, c6, h, -⟩ := OE.form how5; exact ⟨A6, _, c6, by simp, h⟩
 have HL6 := Lib.hid hl6; clear hl6
 apply Z.out; clear Z K
 refine Inr.fpI fun K Z => ?_
 go_simp
 apply Z.out; clear Z K
 refine Inr.nilI ?_
 refine Zq2 5 6 hf ?_
 clear hf s5 s6 s9 b28 b29 b30 b31; intro fr1 hf sS
 generalize hV6 : V5.setCell ⟨(w.heap.size + 1 + 1), 0, none⟩ (.slice A6 n6 c6v) = V6
 have h6 : V6.heap[(w.heap.size + 1 + 1)]? = some (.cells #[(.slice A6 n6 c6v)] 29 (0, 0)) := by rw [<- hV6]; simpa using set_block (i := 0) hg55 (.slice A6 n6 c6v)
 have hgr : V5.grownBy V6 (some (w.heap.size + 1 + 1)) := by rw [<- hV6]; exact grownBy_setCell' V5 (w.heap.size + 1 + 1) _
 have how6 : OE V6 ((w.heap.size + 1 + 1) + 1) (.slice A6 n6 c6v) (entF (pre2 ++ [x])) := by rw [HEF2.out]; exact oe_set (es := es ++ [E]) how5 hgr (by omega)
 have hkA : KE w.heap.size (w.heap.size + 1 + 1) (W3.heap.size + 1) V V6 := ((KE.below (hb13.trans (hb4.mono hb13.size))).trans hk5).trans (KE.turn hgr (by omega))
 have hpn6 : V6.heap[(w.heap.size + 1)]? = some (.cells #[.int .i64 nn] 3 (0, 0)) := ((hk5.trans (KE.turn hgr (by omega))).kept _ _ (by omega) (by omega) (by omega) (nE rfl) ((hb4.block _ (heap_lt hpn2)).trans hpn2))
 have hb6V : Below w.heap.size w V6 := ((((hbV.trans (hb13.mono hbV.size)).trans (hb4.mono (Nat.le_trans hbV.size hb13.size)))).grown hg5 (by have := hb4.size; have := hb13.size; have := hbV.size; omega) (fun k e => by have := (World.ownsRow.lt how4 k e).1; omega)).grown hgr (by have := hk5.size; have := hb4.size; have := hb13.size; omega) (fun k e => by cases e; omega)
 have c6 := cR1 0 h6; have cn6 := cR1 0 hpn6
 simp at c6 cn6
 have hle : (entF (pre2 ++ [x])).length = es.length + 1 := by rw [HEF2.out]; simp
 have hL : ∀ o, V.heap[W3.heap.size + 1]? = some o -> o.isCells = false -> V6.heap[W3.heap.size + 1]? = some o := fun o h hc => by have h13 := (hb13.block _ (heap_lt h)).trans h; have h5 := app_keep how4 hg5 ((hb4.block _ (heap_lt h13)).trans h13) hc; exact (hgr.block _ (heap_lt h5) (fun e => by injection e with e; omega)).trans h5
 have HLE := Lib.hid hle; clear hle hlit hr5 hat5 hk5 how5
 refine nx (iK11 _ _ ?_)
 refine wpIn_seq_k (fun _ iK12 => ?_)
 obtain ⟨s5, s6⟩ := sS
 refine Inr.rgI (r := some l) ?_
 obtain ⟨b32, b33, b34⟩ := hf.B3 32 33 34
 refine Inr.fpI fun K Z => ?_
 go_simp
 apply Z.out; clear Z K
 refine Inr.fpI fun K Z => ?_
 go_simp
 apply Z.out; clear Z K
 refine Inr.fpI fun K Z => ?_
 go_simp
 apply Z.out; clear Z K
 refine Inr.fpI fun K Z => ?_
 go_simp
 apply Z.out; clear Z K
 refine Inr.nilI ?_
 refine Zq2 6 35 hf ?_
 clear hf s5 s6 b32 b33 b34; intro fr1 hf sS
 refine nx (iK12 _ _ ?_)
 refine wpIn_cond_split (Fact.eval_tmp sS.2) (fun hq6 => ?_) (fun hq6 => ?_)
 . (
 refine wpIn_exit ?_
 refine Fact.block_other (by decide) ?_
 exact ⟨hkA.from, hkA, rfl, _, h6, how6, by have := HLE.out; have := HL6.out; have h9 := beq_iff_eq.1 hq6; omega, hb6V⟩)
 . (
 refine wpIn_skip ?_
 refine Fact.block_normal ?_
 exact ⟨hkA.from, hkA, _, h6, how6, by have := HLE.out; have := HL6.out; have h9 := beq_eq_false_iff_ne.1 hq6; omega, hpn6, hb6V⟩)))
 . (
 rintro D xs V hD rfl ⟨v, hg, how, hlt, hpn2, hbV⟩ hDh
 refine Fact.reQ (n := 37) (ds := [{ target := .collected D, args := #[] }]) hf.size (by rw [hf.defers]) (fun fr2 hf2 hT2 => ?_)
 obtain ⟨s5, s6, s15⟩ := sS
 have s6 := (hT2 6).trans s6
 clear hT2 hf
 have hf := hf2; clear hf2
 have hfv : fromV ss init s nn = entF (walkS ss (wl s) ss.length (ss.length - 1) ⟨#[]⟩ init true) := fromV_all hn1 hlt
 obtain ⟨A9, n9, c9, rfl⟩ : ∃ A n c, v = .slice A n c := by obtain ⟨A9, c9, h, -⟩ := OE.form how; exact ⟨_, _, _, h⟩
 have cg := cR1 0 hg
 simp at cg
 have fg := frozen_of (i := 0) hg
 refine Fact.block_normal (Zs hK5 fun _ hK13 => Zr [36] hf ?_)
 refine Zq1 6 hf ?_
 clear hf s6; intro fr1 hf s6
 generalize hW9 : V.setCell ⟨(w.heap.size + 1 + 1), 0, none⟩ (.slice A9 n9 c9) = W9
 have h6 : W9.heap[(w.heap.size + 1 + 1)]? = some (.cells #[(.slice A9 n9 c9)] 29 (0, 0)) := by rw [<- hW9]; simpa using set_block (i := 0) hg (.slice A9 n9 c9)
 have hgr : V.grownBy W9 (some (w.heap.size + 1 + 1)) := by rw [<- hW9]; exact grownBy_setCell' V (w.heap.size + 1 + 1) _
 have hbF : Below w.heap.size w W9 := by rw [<- hW9]; exact hbV.setCell (p := ⟨(w.heap.size + 1 + 1), 0, none⟩) (by show w.heap.size <= w.heap.size + 1 + 1; omega) _
 have howF : OE W9 ((w.heap.size + 1 + 1) + 1) (.slice A9 n9 c9) (fromV ss init s nn) := by rw [hfv]; exact oe_set how hgr (by omega)
 refine Zx hK13 (Zret ?_)
 exact retMv (G := (w.heap.size + 1 + 1)) (S := fun V => OE V ((w.heap.size + 1 + 1) + 1) ((.slice A9 n9 c9)) (fromV ss init s nn)) (Stays.own (fun cur h => by cases h)) rfl hf s6 h6 (Nat.le_refl _) Tryz.isAgg29 (Coll.one (by omega) hgr hDh) howF (fun w' hw h9 => ⟨_, rfl, own_less h9 (by omega), hbF.trans (hw.mono (by omega))⟩))
 . (
 rintro D c2 pre2 V hD hsp ⟨rfl, v, hg, how, hle, hbV⟩ hDh
 refine (wpIn_wide (n := 9)).2 ?_
 refine Fact.re (n := 37) (ds := [{ target := .collected D, args := #[] }]) hf.size (by rw [hf.defers]) (fun fr2 hf2 hT2 => ?_)
 obtain ⟨s5, s6, s15⟩ := sS
 have s6 := (hT2 6).trans s6
 clear hT2 hf
 have hf := hf2; clear hf2
 have hfv : fromV ss init s nn = entF pre2 := fromV_cut hn1 hsp hle
 refine wp_exit ?_
 obtain ⟨A9, n9, c9, rfl⟩ : ∃ A n c, v = .slice A n c := by obtain ⟨A9, c9, h, -⟩ := OE.form how; exact ⟨_, _, _, h⟩
 have cg := cR1 0 hg
 simp at cg
 have fg := frozen_of (i := 0) hg
 refine Fact.block_exit ?_
 refine Zs hK5 fun _ hK14 => Zr [36] hf ?_
 refine Zq1 6 hf ?_
 clear hf s6; intro fr1 hf s6
 generalize hW9 : V.setCell ⟨(w.heap.size + 1 + 1), 0, none⟩ (.slice A9 n9 c9) = W9
 have h6 : W9.heap[(w.heap.size + 1 + 1)]? = some (.cells #[(.slice A9 n9 c9)] 29 (0, 0)) := by rw [<- hW9]; simpa using set_block (i := 0) hg (.slice A9 n9 c9)
 have hgr : V.grownBy W9 (some (w.heap.size + 1 + 1)) := by rw [<- hW9]; exact grownBy_setCell' V (w.heap.size + 1 + 1) _
 have hbF : Below w.heap.size w W9 := by rw [<- hW9]; exact hbV.setCell (p := ⟨(w.heap.size + 1 + 1), 0, none⟩) (by show w.heap.size <= w.heap.size + 1 + 1; omega) _
 have howF : OE W9 ((w.heap.size + 1 + 1) + 1) (.slice A9 n9 c9) (fromV ss init s nn) := by rw [hfv]; exact oe_set how hgr (by omega)
 refine Zx hK14 (Zret ?_)
 exact retMv (G := (w.heap.size + 1 + 1)) (S := fun V => OE V ((w.heap.size + 1 + 1) + 1) ((.slice A9 n9 c9)) (fromV ss init s nn)) (Stays.own (fun cur h => by cases h)) rfl hf s6 h6 (Nat.le_refl _) Tryz.isAgg29 (Coll.one (by omega) hgr hDh) howF (fun w' hw h9 => ⟨_, rfl, own_less h9 (by omega), hbF.trans (hw.mono (by omega))⟩)))
end Dw
end Go.Proofs.YtcddnmhmcieebaaGreatDoor
