/- fst: ways. -/
import Derived.Test.YtcddnmhmcieebaaGreatDoorY19
import Derived.Test.YtcddnmhmcieebaaGreatDoorTools
namespace Go.Proofs.YtcddnmhmcieebaaGreatDoor
set_option maxHeartbeats 4000000
set_option maxRecDepth 100000
open Go.RowKit
set_option linter.unusedSimpArgs false
set_option linter.unusedVariables false
set_option linter.unnecessarySimpa false
namespace Dw
def CK (G : Nat) (w w' : World) : Prop := w.heap.size <= w'.heap.size /\ (∀ (p : Addr) (v : Value), p.block ≠ G -> w.cell? p = some v -> w'.cell? p = some v) /\ ∀ (k : Nat) (o : Obj), k ≠ G -> o.isCells = true -> w.heap[k]? = some o -> w'.heap[k]? = some o
theorem CK.trans {G : Nat} {a b c : World} (h : CK G a b) (k : CK G b c) : CK G a c := ⟨Nat.le_trans h.1 k.1, fun p v hp hv => k.2.1 p v hp (h.2.1 p v hp hv), fun n o hn ho hh => k.2.2 n o hn ho (h.2.2 n o hn ho hh)⟩
theorem CK.of_below {G : Nat} {w w' : World} (hb : Below w.heap.size w w') : CK G w w' := ⟨hb.size, fun p v _ hv => cL hb hv, fun k o _ _ hh => (hb.block k (heap_lt hh)).trans hh⟩
theorem RA.ck {G N : Nat} {w w' : World} {v : Value} {l : List Arc} (h : RA w (fun k => k < N) v l) (hN : N <= G) (hc : CK G w w') : RA w' (fun k => k < N) v l := by
 obtain ⟨A, c, h1, h2, h3⟩ := h
 refine ⟨A, c, h1, h2, fun h0 => ?_⟩
 obtain ⟨b, off, h4, h5, h6⟩ := h3 h0
 exact ⟨b, off, h4, h5, fun j u hu => hc.2.1 _ _ (by simp only; omega) (h6 j u hu)⟩
theorem RSN.ck {G N : Nat} {w w' : World} {sv : Value} {ss : List State} (h : RSN w N sv ss) (hN : N <= G) (hc : CK G w w') : RSN w' N sv ss := by
 obtain ⟨A, c, h1, h2, h3⟩ := h
 refine ⟨A, c, h1, h2, fun h0 => ?_⟩
 obtain ⟨b, off, h4, h5, h6⟩ := h3 h0
 refine ⟨b, off, h4, h5, fun i s hi => ?_⟩
 obtain ⟨av, h7⟩ := h6 i s hi
 exact ⟨av, hc.2.1 _ _ (by simp only; omega) h7.c0, hc.2.1 _ _ (by simp only; omega) h7.c1, hc.2.1 _ _ (by simp only; omega) h7.c2, h7.arcs.ck hN hc⟩
theorem RSN.rs {w : World} {N : Nat} {sv : Value} {ss : List State} (h : RSN w N sv ss) : RS w sv ss := by
 obtain ⟨A, c, h1, h2, h3⟩ := h
 refine ⟨A, c, h1, h2, fun h0 => ?_⟩
 obtain ⟨b, off, h4, h5, h6⟩ := h3 h0
 refine ⟨b, off, h4, fun i s hi => ?_⟩
 obtain ⟨av, h7⟩ := h6 i s hi
 exact ⟨av, h7.c0, h7.c1, h7.c2, h7.arcs.more (fun k _ _ => trivial)⟩
theorem OB.kp {A B : World} {base : Nat} {v : Value} {l : List Nat} (h : OB A base v l) (hs : A.heap.size <= B.heap.size) (hk : ∀ (g : Nat) (cs : Array Value), base <= g -> A.heap[g]? = some (.cells cs 5 (0, 0)) -> B.heap[g]? = some (.cells cs 5 (0, 0))) : OB B base v l := by
 refine ⟨h.1, ?_⟩
 rcases h.2 with h1 | ⟨g, cap, cur, rfl, h2, h3, h4⟩
 ·exact .inl h1
 ·exact .inr ⟨g, cap, cur, rfl, h2, hk g _ h2 h3, h4⟩
theorem RB.ck {G g : Nat} {w w' : World} {l : List Nat} (h : RB w g l) (hg : g ≠ G) (hc : CK G w w') : RB w' g l := fun i x hx => hc.2.1 _ _ hg (h i x hx)
theorem below_grown {W W' : World} (hb : Below W.heap.size W W') : W.grownBy W' none := ⟨hb.os, hb.tape, hb.output, hb.size, fun k hk _ => hb.block k hk⟩
theorem _root_.Go.Proofs.YtcddnmhmcieebaaGreatDoor.Stays.of_below {C : Obj -> Prop} {B : Nat} {I : World -> Prop} (h : Stays C B I) {W W' : World} (hs : I W) (hb : Below W.heap.size W W') : I W' := h W W' none hs (below_grown hb) (fun r e => by cases e)
theorem yield_two {e : Ending} {A B : Prop} (h : (e = .returned (.bool true) /\ A) \/ (e = .returned (.bool false) /\ B)) : ∃ b : Bool, e = .returned (.bool b) /\ ((b = true /\ A) \/ (b = false /\ B)) := by
 rcases h with ⟨h, k⟩ | ⟨h, k⟩
 ·exact ⟨true, h, .inl ⟨rfl, k⟩⟩
 ·exact ⟨false, h, .inr ⟨rfl, k⟩⟩
theorem find_arc {k i : Nat} {l : List Arc} {a : Arc} (hok : okArcs k (-1) l = true) (hi : l[i]? = some a) : l.find? (hitA a.byte k) = some a := by
 have hr := rise_bytes hok
 have hto := okArcs_to hok (gM1 hi)
 obtain ⟨hlt, hga⟩ := gS1 hi
 rw [List.find?_eq_some_iff_getElem]
 refine ⟨by unfold hitA; simp [hto.1, hto.2], i, hlt, hga, fun j hj => ?_⟩
 have hjl : j < l.length := by omega
 have hb1 : (l.map Arc.byte)[j]? = some l[j].byte := by rw [List.getElem?_map, gE1 hjl]; rfl
 have hb2 : (l.map Arc.byte)[i]? = some a.byte := by rw [List.getElem?_map, hi]; rfl
 have := hr.out j i _ _ hj hb1 hb2
 unfold hitA
 have hne : (l[j].byte == a.byte) = false := beq_eq_false_iff_ne.2 (by omega)
 simp [hne]
theorem ways141 (w : World) (sv : Value) (init k : Nat) (ss : List State) (hrs : RS w sv ss) : Calls Tryz.prog 141 #[.agg #[sv, .int .u64 init], .int .i64 k] w fun e w1 => e = .returned (.func (.func 156) #[] #[.pointer (some ⟨w.heap.size, 0, none⟩), .pointer (some ⟨(w.heap.size + 1), 0, none⟩)]) /\ w1.cell? ⟨w.heap.size, 0, none⟩ = some sv /\ w1.cell? ⟨w.heap.size, 1, none⟩ = some (.int .u64 init) /\ w1.cell? ⟨w.heap.size + 1, 0, none⟩ = some (.int .i64 k) /\ Below w.heap.size w w1 /\ w1.heap[w.heap.size]? = some (.cells #[sv, .int .u64 init] 38 (0, 0)) /\ w1.heap[w.heap.size + 1]? = some (.cells #[.int .i64 k] 3 (0, 0)) := by
 refine Zn2 6 Tryz.func141 fun fr hf s0 s1 => ?_
 obtain ⟨A, cc, rfl, hcc⟩ := hrs.form
 refine Ze fun _ hK1 => Zr [] hf ?_
 refine Zq2 2 3 hf ?_
 clear hf s0 s1; intro fr1 hf sS
 obtain ⟨W0, hW0⟩ : ∃ x, (w.alloc (.cells #[.slice A ss.length cc, .int .u64 init] 38)).alloc (.cells #[.int .i64 k] 3) = x := ⟨_, rfl⟩
 obtain ⟨s2, s3⟩ := sS
 try simp only [World.size_alloc] at s3
 try rw [hW0]
 obtain ⟨hb0, hp0, hp1⟩ := two_boxesT hW0
 clear hW0
 have c0 := cR1 0 hp0; have c1 := cR1 1 hp0; have k0 := cR1 0 hp1
 simp at c0 c1 k0
 refine Zs hK1 fun _ hK2 => Zr [5] hf ?_
 refine Zq1 4 hf ?_
 clear hf s2 s3; intro fr1 hf s4
 refine Zx hK2 (Zret ?_)
 exact Fact.ret1 rfl hf s4 ⟨rfl, c0, c1, k0, hb0, hp0, hp1⟩
theorem ways156 (W : World) (n l p0 p1 init k : Nat) (ss : List State) (st : State) (sv : Value) (J Jx : List Arc -> World -> Prop) (Kp : World -> World -> Prop) (F : World -> Prop)
    (hY : ∀ pre (x : Arc) W1, J pre W1 -> pre ++ [x] <+: st.arcs -> YieldAt Fence.wide (n - 1) Tryz.prog l #[.int .u8 x.byte, .agg #[.int .i64 x.to, .int .u64 x.out]] W1 fun e W' => (e = .returned (.bool true) /\ J (pre ++ [x]) W' /\ Kp W1 W') \/ (e = .returned (.bool false) /\ Jx (pre ++ [x]) W' /\ Kp W1 W'))
    (hJ : ∀ s, Stays (fun _ => False) W.heap.size (J s)) (hF : ∀ {V : World}, F V -> V.cell? ⟨p0, 0, none⟩ = some sv /\ V.cell? ⟨p0, 1, none⟩ = some (.int .u64 init) /\ V.cell? ⟨p1, 0, none⟩ = some (.int .i64 k) /\ RS V sv ss)
    (hFb : ∀ {A B : World}, Below A.heap.size A B -> F A -> F B) (hFk : ∀ {A B : World}, Kp A B -> F A -> F B) (hKs : ∀ {A B : World}, Kp A B -> A.heap.size <= B.heap.size)
    (hKo : ∀ {A B : World} (g : Nat) (cs : Array Value), W.heap.size <= g -> Kp A B -> A.heap[g]? = some (.cells cs 5 (0, 0)) -> B.heap[g]? = some (.cells cs 5 (0, 0))) (hF0 : F W)
    (hk : ss[k]? = some st) (hmax : ss.length <= 1000000000) (hok : okArcs k (-1) st.arcs = true) (hlen : st.arcs.length <= 1000000) (h0 : J [] W) : Calls Tryz.prog 156 #[.func (.yield l) #[] #[], .pointer (some ⟨p0, 0, none⟩), .pointer (some ⟨p1, 0, none⟩)] W fun e W' => (∃ v, e = .returned v) /\ ((∃ xs, xs = st.arcs /\ J xs W') \/ (∃ pre, pre <+: st.arcs /\ Jx pre W')) := by
 refine Zn3 33 Tryz.func156 fun fr hf s0 s1 s2 => ?_
 obtain ⟨c0, c1, k0, hrs⟩ := hF hF0
 obtain ⟨A, cc, rfl, hcc⟩ := hrs.form
 refine Ze fun _ hK1 => rg ?_
 have bB := hf.B3 9 10 11
 iterate 2 refine Zy ?_
 refine Zc (bytes157 W _ init ss hrs k st hk hmax hok hlen) ?_; rintro e w1 ⟨v1, rfl, how1, hb1⟩
 obtain ⟨bl9, hbl9⟩ : ∃ x, st.arcs.map Arc.byte = x := ⟨_, rfl⟩
 have hlen9 : bl9.length = st.arcs.length := by rw [<- hbl9, List.length_map]
 rw [hbl9] at how1
 obtain ⟨_, A9, c9, hv9, -, -⟩ := how1.rb
 subst hv9
 have HL9 := Lib.hid hlen9; have HB9 := Lib.hid hbl9; clear hlen9 hbl9
 have hFr := hFb hb1 hF0
 have hj1 := (hJ []).of_below h0 hb1
 clear hrs c0 c1 k0 hF0
 refine Zv ?_
 iterate 2 refine Zy ?_
 refine Fact.nil (Zq6 0 1 2 11 12 13 hf ?_)
 clear hf s0 s1 s2 bB; intro fr1 hf sS
 refine Zx hK1 (wp_block (wp_loop_ghost (fun gk fr wr => ∃ (i : Nat), gk = bl9.length - i /\ i <= bl9.length /\ Fact.Fr 33 fr /\ fr.tmps[0]? = some (.func (.yield l) #[] #[]) /\ fr.tmps[1]? = some (.pointer (some ⟨p0, 0, none⟩)) /\ fr.tmps[2]? = some (.pointer (some ⟨p1, 0, none⟩)) /\ fr.tmps[11]? = some (.slice A9 bl9.length c9) /\ fr.tmps[12]? = some (.int .i64 bl9.length) /\ fr.tmps[13]? = some (.int .i64 i) /\ F wr /\ OB wr W.heap.size (.slice A9 bl9.length c9) bl9 /\ J (st.arcs.take i) wr) (bl9.length) ?_ ?_))
 . (
 obtain ⟨s0, s1, s2, s11, s12, s13⟩ := sS
 exact ⟨0, rfl, Nat.zero_le _, hf, s0, s1, s2, s11, s12, s13, hFr, how1, hj1⟩)
 . (
 clear hf sS
 clear hFr hj1 how1
 rintro gk fr wr ⟨i, hk9, hi, hf, s0, s1, s2, s11, s12, s13, hFr, how, hj⟩
 have HK := Lib.hid hk9; clear hk9
 obtain ⟨c0, c1, k0, hrs⟩ := hF hFr
 refine Ze fun _ hK2 => Zr [] hf ?_
 refine Zq7 0 1 2 11 12 13 14 hf ?_
 clear hf s0 s1 s2 s11 s12 s13; intro fr1 hf sS
 refine Zs hK2 fun _ hK3 => Fact.cond_s sS.2.2.2.2.2.2 (fun hq => ?_) (fun hq => ?_)
 . (
 have hlt : i < bl9.length := by have h9 := of_decide_eq_true hq; omega
 clear hq
 have hlta : i < st.arcs.length := by have := HL9.out; omega
 obtain ⟨a, hia⟩ : ∃ a, st.arcs[i]? = some a := ⟨_, gE1 hlta⟩
 have hib : bl9[i]? = some a.byte := by rw [<- HB9.out, List.getElem?_map, hia]; rfl
 obtain ⟨g9, rfl, hgb, -, cb⟩ := how.cell hib
 have hfd := find_arc hok hia
 have hst : st.arcs.take (i + 1) = st.arcs.take i ++ [a] := by rw [List.take_add_one, hia]; rfl
 have HFD := Lib.hid hfd; have HST := Lib.hid hst; clear hfd hst hia hib
 refine wp_skip (Zs hK3 fun _ hK4 => wp_block (Ze fun _ hK5 => Zr [15, 16] hf ?_))
 refine Zq7 0 1 2 5 11 12 13 hf ?_
 clear hf sS; intro fr1 hf sS
 refine Zt hK5 fun _ hK6 => ?_
 have bB := hf.B8 18 19 20 21 17 22 23 24
 iterate 3 refine Zy ?_
 refine Zc (step150 wr _ init ss hrs k a.byte st hk hmax (by omega)) ?_; rintro e w2 ⟨rfl, hb2⟩
 rw [HFD.out]
 simp only [stepV]
 have hj2 := (hJ _).of_below hj hb2
 have hFr2 := hFb hb2 hFr; have how2 := own_later how hb2
 clear c0 c1 k0 hFr how hj cb hrs
 refine Zv ?_
 iterate 7 refine Zy ?_
 refine Fact.nil (Zq9 0 1 2 5 6 7 11 12 13 hf ?_)
 clear hf sS bB; intro fr1 hf sS
 refine Zs hK6 fun _ hK7 => ?_
 obtain ⟨s0, s1, s2, s5, s6, s7, s11, s12, s13⟩ := sS
 refine Inr.rgW n ?_
 obtain ⟨b25, b26, b27, b28, b29, b30⟩ := hf.B6 25 26 27 28 29 30
 refine Inr.fpI fun K Z => ?_
 go_simp
 apply Z.out; clear Z K
 refine Inr.fpI fun K Z => ?_
 go_simp
 apply Z.out; clear Z K
 refine Inr.fpI fun K Z => ?_
 go_simp
 apply Z.out; clear Z K
 refine Inr.fpI fun K Z => ?_
 go_simp
 apply Z.out; clear Z K
 refine Inr.fpI fun K Z => ?_
 go_simp
 apply Z.out; clear Z K
 have hy := hY (st.arcs.take i) a w2 hj2 (by rw [<- HST.out]; exact List.take_prefix _ _)
 refine Inr.yieldI (r := none) hy (by simp [execOp, go_sem, s0, s5, s6, s7, b25, b26, b27, b28, b29]) (fun e W3 hz => ?_) rfl rfl
 obtain ⟨bt, rfl, hz2⟩ := yield_two hz
 refine ⟨_, rfl, ?_⟩
 clear hy hz
 refine Inr.fpI fun K Z => ?_
 go_simp
 apply Z.out; clear Z K
 refine Inr.nilI ?_
 refine Zq7 0 1 2 11 12 13 31 hf ?_
 clear hf s0 s1 s2 s5 s6 s7 s11 s12 s13 b25 b26 b27 b28 b29 b30; intro fr1 hf sS
 refine Zx hK7 (Fact.cond_s sS.2.2.2.2.2.2 (fun hq3 => ?_) (fun hq3 => ?_))
 . (
 have hbt : bt = false := by simpa using hq3
 obtain ⟨h9, -⟩ | ⟨-, hjx, -⟩ := hz2
 . (
 rw [hbt] at h9; cases h9)
 refine Zret ?_
 exact Fact.ret0 rfl hf ⟨⟨_, rfl⟩, .inr ⟨_, by rw [<- HST.out]; exact List.take_prefix _ _, hjx⟩⟩)
 . (
 have hbt : bt = true := by simpa using hq3
 obtain ⟨-, hj3, hck⟩ | ⟨h9, -⟩ := hz2; rotate_left; (rw [hbt] at h9; cases h9)
 have hFr := hFk hck hFr2; have how := OB.kp (l := bl9) how2 (hKs hck) (fun g cs hg => hKo g cs hg hck)
 rw [<- HST.out] at hj3
 have hj := hj3
 clear hq3 hbt
 refine wp_skip (Fact.block_normal (Zx hK4 (Zr [32] hf ?_)))
 refine Zq6 0 1 2 11 12 13 hf ?_
 clear hf sS; intro fr1 hf sS
 refine Fact.then_normal ?_
 obtain ⟨s0, s1, s2, s11, s12, s13⟩ := sS
 exact ⟨_, by have := HK.out; omega, i + 1, rfl, by omega, hf, s0, s1, s2, s11, s12, by rw [s13]; rfl, hFr, how, hj⟩))
 . (
 have hie : i = st.arcs.length := by have h9 := of_decide_eq_false hq; have := HL9.out; omega
 clear hq
 rw [hie, List.take_length] at hj
 refine Zo ?_
 exact Fact.end0 rfl hf ⟨⟨_, rfl⟩, .inl ⟨_, rfl, hj⟩⟩))
def foldA {α : Type} (z : α) (wi : α -> α -> Nat -> α) (vs : List α) (x : α) (l : List Arc) : α := l.foldl (fun x a => wi x (vs.getD a.to.toNat z) a.out) x
def foundV {α : Type} (z : α) (o : State -> α) (wi : α -> α -> Nat -> α) (ss : List State) : List α := ss.foldl (fun vs st => vs ++ [foldA z wi vs (o st) st.arcs]) []
section
variable {α : Type} {z : α} {o : State -> α} {wi : α -> α -> Nat -> α} {ss : List State}
theorem foundV_take {i : Nat} {st : State} (h : ss[i]? = some st) : foundV z o wi (ss.take (i + 1)) = foundV z o wi (ss.take i) ++ [foldA z wi (foundV z o wi (ss.take i)) (o st) st.arcs] := by
 unfold foundV
 rw [List.take_add_one, h]
 simp [List.foldl_append]
theorem foundV_len : ∀ (i : Nat), i <= ss.length -> (foundV z o wi (ss.take i)).length = i
 | 0, _ => by simp [foundV]
 | i + 1, h => by rw [foundV_take (gE1 h), List.length_append, foundV_len i (by omega)]; rfl
theorem foundV_len_all (ss : List State) : (foundV z o wi ss).length = ss.length := by have h := foundV_len (z := z) (o := o) (wi := wi) (ss := ss) ss.length (Nat.le_refl _); rwa [List.take_length] at h
theorem foldA_snoc (vs : List α) (x : α) (l : List Arc) (a : Arc) : foldA z wi vs x (l ++ [a]) = wi (foldA z wi vs x l) (vs.getD a.to.toNat z) a.out := by simp [foldA, List.foldl_append]
def padV (z : α) (n : Nat) (vs : List α) : List α := vs ++ List.replicate (n - vs.length) z
theorem padV_len {n : Nat} {vs : List α} (h : vs.length <= n) : (padV z n vs).length = n := by simp [padV]; omega
theorem padV_old {n i : Nat} {vs : List α} (x : α) (hi : vs.length = i) {j : Nat} (hj : j < i) : ((padV z n vs).set i x)[j]? = some (vs.getD j z) := by
 subst hi
 rw [List.getElem?_set_ne (by omega)]
 unfold padV
 rw [List.getElem?_append_left hj, List.getD_eq_getElem?_getD, gE1 hj]
 rfl
theorem padV_at {n i : Nat} {vs : List α} (x : α) (hi : vs.length = i) (hn : i < n) : ((padV z n vs).set i x)[i]? = some x := by
 subst hi
 rw [List.getElem?_set_self (by rw [padV_len (by omega)]; exact hn)]
theorem padV_step {n i : Nat} {vs : List α} (x : α) (hi : vs.length = i) (hn : i < n) : (padV z n vs).set i x = padV z n (vs ++ [x]) := by
 subst hi
 unfold padV
 rw [List.set_append_right _ _ (Nat.le_refl _), Nat.sub_self, List.length_append, List.length_singleton]
 obtain ⟨k, hk⟩ : ∃ k, n - vs.length = k + 1 := ⟨n - vs.length - 1, by omega⟩
 rw [hk, show n - (vs.length + 1) = k by omega, List.replicate_succ, List.set_cons_zero, List.append_assoc]
 rfl
theorem padV_full {n : Nat} {vs : List α} (h : vs.length = n) : padV z n vs = vs := by subst h; simp [padV]
theorem found_ok {Ok : Nat -> α -> Prop} (ho : ∀ i st, ss[i]? = some st -> Ok i (o st)) (hw : ∀ i j x c u, Ok i x -> j < i -> Ok j c -> u < 18446744073709551616 -> Ok i (wi x c u))
  (hok : ∀ s ∈ ss, okS s) (hfm : ∀ (k : Nat) (st : State), ss[k]? = some st -> okArcs k (-1) st.arcs = true) : ∀ (i : Nat), i <= ss.length -> ∀ (j : Nat) (x : α), (foundV z o wi (ss.take i))[j]? = some x -> Ok j x
 | 0, _ => by intro j x h; simp [foundV] at h
 | i + 1, h => by
  intro j x hx
  have ih := found_ok ho hw hok hfm i (by omega)
  have hs := gE1 (l := ss) h
  have hl := foundV_len (z := z) (o := o) (wi := wi) (ss := ss) i (by omega)
  rw [foundV_take hs] at hx
  rcases Nat.lt_or_ge j i with hj | hj
  ·rw [List.getElem?_append_left (by omega)] at hx
   exact ih j x hx
  ·rw [List.getElem?_append_right (by omega), hl] at hx
   obtain rfl : j = i := by have := (gS1 hx).1; simp at this; omega
   simp at hx
   subst hx
   have hst := hok _ (List.getElem_mem h)
   have hto := hfm _ _ hs
   suffices ∀ (pre l : List Arc), ss[j].arcs = pre ++ l -> Ok j (foldA z wi (foundV z o wi (ss.take j)) (o ss[j]) pre) -> Ok j (foldA z wi (foundV z o wi (ss.take j)) (o ss[j]) (pre ++ l)) from this [] _ rfl (ho _ _ hs)
   intro pre l
   induction l generalizing pre with
   | nil => intro _ h; rwa [List.append_nil]
   | cons a l ihl =>
    intro he hx
    rw [show pre ++ a :: l = (pre ++ [a]) ++ l by simp] at he |-
    refine ihl _ he ?_
    rw [foldA_snoc]
    have hma : a ∈ ss[j].arcs := by rw [he]; simp
    have ht := okArcs_to hto hma
    refine hw _ a.to.toNat _ _ _ hx (by omega) (ih _ _ ?_) (hst.2.2 a hma).2.1
    rw [List.getD_eq_getElem?_getD, gE1 (by omega)]
    rfl
theorem fold_ok {Ok : Nat -> α -> Prop} (ho : ∀ i st, ss[i]? = some st -> Ok i (o st)) (hw : ∀ i j x c u, Ok i x -> j < i -> Ok j c -> u < 18446744073709551616 -> Ok i (wi x c u))
  (hok : ∀ s ∈ ss, okS s) (hfm : ∀ (k : Nat) (st : State), ss[k]? = some st -> okArcs k (-1) st.arcs = true) {i : Nat} {st : State} (hs : ss[i]? = some st) : ∀ (pre : List Arc), pre <+: st.arcs -> Ok i (foldA z wi (foundV z o wi (ss.take i)) (o st) pre) := by
 intro pre
 have hi := (gS1 hs).1
 have hl := foundV_len (z := z) (o := o) (wi := wi) (ss := ss) i (by omega)
 suffices ∀ (k : Nat), k <= pre.length -> pre <+: st.arcs -> Ok i (foldA z wi (foundV z o wi (ss.take i)) (o st) (pre.take k)) by
  intro hp; have := this pre.length (Nat.le_refl _) hp; rwa [List.take_length] at this
 intro k hk hp
 induction k with
 | zero => exact ho _ _ hs
 | succ k ih =>
  obtain ⟨t, ht⟩ := hp
  have hmem : pre[k] ∈ st.arcs := by rw [<- ht]; exact List.mem_append_left _ (List.getElem_mem (by omega))
  rw [List.take_succ_eq_append_getElem (by omega), foldA_snoc]
  have h2 := okArcs_to (hfm _ _ hs) hmem
  refine hw _ pre[k].to.toNat _ _ _ (ih (by omega)) (by omega) (found_ok (z := z) ho hw hok hfm i (by omega) _ _ ?_) ((hok _ (gM1 hs)).2.2 _ hmem).2.1
  rw [List.getD_eq_getElem?_getD, gE1 (by omega)]
  rfl
end
def Coll (G : Nat) : List Deferred -> Nat -> World -> Prop
 | [], _, _ => True
 | d :: ds, n, w => ∃ D, d = { target := .collected D, args := #[] } /\ G < D /\ D < n /\ w.heap[D]? = some (.deferred (some [])) /\ Coll G ds D w
theorem Coll.turn {G : Nat} {w w' : World} : ∀ {ds : List Deferred} {n m : Nat}, Coll G ds n w -> n <= m -> (∀ D, G < D -> D < n -> w.heap[D]? = some (.deferred (some [])) -> w'.heap[D]? = some (.deferred (some []))) -> Coll G ds m w'
 | [], _, _, _, _, _ => trivial
 | d :: ds, n, m, ⟨D, h1, h2, h3, h4, h5⟩, hm, h => ⟨D, h1, h2, Nat.lt_of_lt_of_le h3 hm, h D h2 h3 h4, h5.turn (Nat.le_refl _) fun E e1 e2 => h E e1 (Nat.lt_trans e2 h3)⟩
theorem Coll.below {G n m : Nat} {ds : List Deferred} {w w' : World} (h : Coll G ds n w) (hm : n <= m) (hb : Below n w w') : Coll G ds m w' := h.turn hm fun D _ hD hh => (hb.block D hD).trans hh
theorem Coll.set {G n : Nat} {ds : List Deferred} {w : World} (h : Coll G ds n w) {p : Addr} (hp : p.block = G) (v : Value) : Coll G ds n (w.setCell p v) := h.turn (Nat.le_refl _) fun D hD _ hh => (Below.heap_setCell w p v D (by omega)).trans hh
theorem leaves_coll {P : Program} {fn : Func} {tmps : Array Value} {R : Ending -> World -> Prop} {G : Nat} : ∀ {ds : List Deferred} {n : Nat} {w : World}, Coll G ds n w ->
  (∀ w', Below (G + 1) w w' -> ∃ v, (results fn tmps).run P w' = .ok v w' /\ R (.returned v) w') -> LeavesInM Fence.wide 9 P fn tmps R ds .returning w
 | [], n, w, _, h => h w (Below.refl _ _)
 | d :: ds, n, w, ⟨D, h1, h2, h3, h4, h5⟩, h => by
  subst h1
  refine ⟨by simp, .inl ⟨_, _, rfl, run_takeDeferred h4, ?_⟩⟩
  have hb : Below (G + 1) w (w.putObj D (.deferred none)) := (Below.refl _ w).grown (grownBy_putObj' w D _) (by have := (Array.getElem?_eq_some_iff.1 h4).1; omega) (fun k e => by cases e; omega)
  exact leaves_coll (h5.turn (Nat.le_refl _) fun E _ e2 hE => (World.putObj_heap_other (by omega)).trans hE) fun w' hw => h w' (hb.trans hw)
theorem enterM {P : Program} {f : FuncId} {fn : Func} {c : Code} {args : Array Value} {w : World} {R : Ending -> World -> Prop} (hf : P.funcs[f]? = some fn) (hb : fn.body = some c)
  (h : c.wp P (bodyPostM Fence.wide 9 P fn R) { tmps := args ++ Array.replicate (fn.ntmps - args.size) undef, defers := [] } w) : Calls P f args w R :=
 (callsIn_wide (n := 9)).1 (callsIn_of_wp_marks hf hb trivial (wpIn_wide.2 h) rfl)
theorem call_wp {P : Program} {o : Oper} {a : Act} {w : World} {K : Act -> World -> Prop} {Q : Exit -> Act -> World -> Prop} {g : FuncId} {args : Array Value} {R : Ending -> World -> Prop} (hs : (execOp a.eval o).run P w = .ok (.enter g args) w)
  (hc : Calls P g args w R) (hR : ∀ e w', R e w' -> ∃ v, e = .returned v /\ K (a.put o.dst v) w') : o.wp P a w K Q := by
 unfold Oper.wp
 rw [hs]
 exact hc.mono fun e w' h => by obtain ⟨v, rfl, h2⟩ := hR e w' h; exact h2
theorem Stays.cell {B : Nat} {p : Addr} {v : Value} : Stays (Beside fun _ => False) B (fun W => W.cell? p = some v) := by
 intro W W' row hs hg hr
 have hlt : p.block < W.heap.size := cell_lt0 hs
 refine (World.cell?_of_block (hg.block p.block hlt fun e => ?_)).trans hs
 obtain ⟨_, o, ho, hc⟩ := hr _ e.symm
 rcases hc with hc | hc
 ·unfold World.cell? at hs
  rw [ho] at hs
  cases o <;> first | (cases hs; done) | (cases hc; done)
 ·exact hc
theorem Stays.cells {B k : Nat} {o : Obj} (ho : o.isCells = true) : Stays (Beside fun _ => False) B (fun W => W.heap[k]? = some o) := by
 intro W W' row hs hg hr
 refine (hg.block k (heap_lt hs) fun e => ?_).trans hs
 obtain ⟨_, o2, ho2, hc⟩ := hr _ e.symm
 rw [hs] at ho2
 cases ho2
 rcases hc with hc | hc
 ·rw [ho] at hc; cases hc
 ·exact hc
theorem Stays.all {β : Type} {C : Obj -> Prop} {B : Nat} {I : β -> World -> Prop} (h : ∀ b, Stays C B (I b)) : Stays C B (fun W => ∀ b, I b W) := fun W W' row hs hg hr b => h b W W' row (hs b) hg hr
theorem Stays.imp {C : Obj -> Prop} {B : Nat} {p : Prop} {I : World -> Prop} (h : p -> Stays C B I) : Stays C B (fun W => p -> I W) := fun W W' row hs hg hr hp => h hp W W' row (hs hp) hg hr
theorem Stays.ck {B G : Nat} {W0 : World} : Stays (Beside fun _ => False) B (CK G W0) := by
 intro W W' row hs hg hr
 exact ⟨Nat.le_trans hs.1 hg.size, fun p v hp hv => Stays.cell W W' row (hs.2.1 p v hp hv) hg hr, fun k o hk ho hh => Stays.cells ho W W' row (hs.2.2 k o hk ho hh) hg hr⟩
theorem Stays.coll {G B : Nat} : ∀ {ds : List Deferred} {n : Nat}, n <= B -> Stays (Beside fun _ => False) B (Coll G ds n)
 | [], _, _ => Stays.pure _ _ _
 | d :: ds, n, h => by
  intro W W' row hs hg hr
  refine hs.turn (Nat.le_refl _) fun D _ hD hh => ?_
  exact Stays.block (.inl (by omega)) W W' row hh hg hr
theorem CK.set {G : Nat} {w w' : World} (h : CK G w w') {p : Addr} (hp : p.block = G) (v : Value) : CK G w (w'.setCell p v) :=
 ⟨Nat.le_trans h.1 (by simp), fun q u hq hu => (World.cell?_of_block (Below.heap_setCell _ _ _ _ (by rw [hp]; exact hq))).trans (h.2.1 q u hq hu), fun k o hk ho hh => (Below.heap_setCell _ _ _ _ (by rw [hp]; exact hk)).trans (h.2.2 k o hk ho hh)⟩
theorem CK.refl (G : Nat) (w : World) : CK G w w := ⟨Nat.le_refl _, fun _ _ _ h => h, fun _ _ _ _ h => h⟩
theorem keeps_belowD {W W' : World} (hb : Below W.heap.size W W') : KeepsOthers W W' := ⟨hb.size, fun k _o h _ => (hb.block k (Array.getElem?_eq_some_iff.1 h).1).trans h⟩
theorem CK.put {G l : Nat} {W : World} {o : Obj} (o' : Obj) (ho : W.heap[l]? = some o) (hc : o.isCells = false) : CK G W (W.putObj l o') :=
 ⟨by simp, fun p v _ hv => Stays.cell (B := l) W _ (some l) hv (grownBy_putObj' W l o') (fun r e => by cases e; exact ⟨Nat.le_refl _, o, ho, .inl hc⟩), fun k o2 _ ho2 hh => Stays.cells ho2 (B := l) W _ (some l) hh (grownBy_putObj' W l o') (fun r e => by cases e; exact ⟨Nat.le_refl _, o, ho, .inl hc⟩)⟩
theorem retM {P : Program} {fn : Func} {R : Ending -> World -> Prop} {G n N t : Nat} {ds : List Deferred} {a : Act} {w : World} {v : Value} (h : fn.results = #[.tmp t]) (hf : Fact.FrD ds N a) (s : a.tmps[t]? = some v) (hc : Coll G ds n w) (hR : ∀ w', Below (G + 1) w w' -> R (.returned v) w') : bodyPostM Fence.wide 9 P fn R .ret a w := by
 show LeavesInM Fence.wide 9 P fn a.tmps R a.defers .returning w
 rw [hf.defers]
 exact leaves_coll hc fun w' hw => ⟨v, by rw [results_tmp h, Fact.getD_tmp s], hR w' hw⟩
theorem retMc {P : Program} {fn : Func} {R : Ending -> World -> Prop} {G n N p g : Nat} {ty t : TypeId} {ds : List Deferred} {a : Act} {w : World} {cs : Array Value} {fr : Nat × Nat} {d : TypeDesc} (h : fn.results = #[.cell p ty]) (hf : Fact.FrD ds N a)
  (sp : a.tmps[p]? = some (.pointer (some ⟨g, 0, none⟩))) (hg : w.heap[g]? = some (.cells cs t fr)) (hgG : g <= G) (hu : P.underlying ty = some d) (hd : (match d with | .struct _ | .array _ _ => true | _ => false) = true) (hi : (P.info? ty).map (·.size) = some cs.size)
  (hc : Coll G ds n w) (hR : ∀ w', Below (G + 1) w w' -> R (.returned (.agg cs)) w') : bodyPostM Fence.wide 9 P fn R .ret a w := by
 show LeavesInM Fence.wide 9 P fn a.tmps R a.defers .returning w
 rw [hf.defers]
 refine leaves_coll hc fun w' hw => ⟨.agg cs, ?_, hR w' hw⟩
 have hg' := (hw.block g (by omega)).trans hg
 have hp' : a.tmps[p]?.getD undef = .pointer (some ⟨g, 0, none⟩) := by simp [sp]
 have h2 : (results fn a.tmps).run P w' = ((asAddr (a.tmps.getD p undef)).run P w').andThen fun x w₁ => (loadVar ty x).run P w₁ := by
  simp only [results, h]
  simp [Sem.run_bind, Result.andThen]
 rw [h2]
 simp [hp', asAddr, run_loadVar_row w' g t ty cs fr d hg' hu hd hi, Result.andThen]
theorem assign2 {ds : List Deferred} {N p q : Nat} {v1 v2 : Value} {fr : Act} (hf : Fact.FrD ds N fr) (hp : Nat.blt p N = true) (hq : Nat.blt q N = true) (hpq : Nat.beq p q = false) {M : Act -> Prop}
  (h : ∀ a1 : Act, Fact.Fr N a1 -> a1.tmps[p]? = some v1 -> a1.tmps[q]? = some v2 -> (∀ t, Nat.beq p t = false -> Nat.beq q t = false -> a1.tmps[t]? = fr.tmps[t]?) -> M a1) : M { tmps := (#[p, q].zip #[v1, v2]).foldl (fun t (p, v) => t.setIfInBounds p v) fr.tmps, defers := [] } := by
 have hp' : p < fr.tmps.size := hf.l p hp
 have hq' : q < fr.tmps.size := hf.l q hq
 have hne : p ≠ q := Nat.ne_of_beq_eq_false hpq
 have e : (#[p, q].zip #[v1, v2]).foldl (fun t (p, v) => t.setIfInBounds p v) fr.tmps = (fr.tmps.setIfInBounds p v1).setIfInBounds q v2 := by simp
 rw [e]
 refine h _ ⟨by simp [hf.size], rfl⟩ ?_ ?_ fun t h1 h2 => ?_
 ·simp [Array.getElem?_setIfInBounds, hne.symm, hp']
 ·simp [Array.getElem?_setIfInBounds, hq']
 ·simp [Array.getElem?_setIfInBounds, Nat.ne_of_beq_eq_false h1, Nat.ne_of_beq_eq_false h2]
theorem ways_iterG (m p0 p1 init k : Nat) (ss : List State) (st : State) (sv : Value) (W0 : World) (Kp : World -> World -> Prop) (F : World -> Prop) (hF : ∀ {V : World}, F V -> V.cell? ⟨p0, 0, none⟩ = some sv /\ V.cell? ⟨p0, 1, none⟩ = some (.int .u64 init) /\ V.cell? ⟨p1, 0, none⟩ = some (.int .i64 k) /\ RS V sv ss) (hFb : ∀ {A B : World}, Below A.heap.size A B -> F A -> F B) (hFk : ∀ {A B : World}, Kp A B -> F A -> F B) (hKs : ∀ {A B : World}, Kp A B -> A.heap.size <= B.heap.size) (hF0 : F W0) (hk : ss[k]? = some st) (hmax : ss.length <= 1000000000) (hok : okArcs k (-1) st.arcs = true) (hlen : st.arcs.length <= 1000000)
  (hKo : ∀ {A B : World} (g : Nat) (cs : Array Value), W0.heap.size + 2 <= g -> Kp A B -> A.heap[g]? = some (.cells cs 5 (0, 0)) -> B.heap[g]? = some (.cells cs 5 (0, 0))) :
  Iter m Tryz.prog (fun _ => False) 156 #[.pointer (some ⟨p0, 0, none⟩), .pointer (some ⟨p1, 0, none⟩)] (fun x : Arc => #[.int .u8 x.byte, .agg #[.int .i64 x.to, .int .u64 x.out]]) Kp (fun xs => xs = st.arcs) (fun pre => pre <+: st.arcs) (fun pre x => pre ++ [x] <+: st.arcs) W0 := by
 intro l J Jx W hb hsz hJ _ hY h0
 exact callsIn_wide.2 (ways156 W m l p0 p1 init k ss st sv J Jx Kp F hY hJ hF hFb hFk hKs (fun g cs hg => hKo g cs (by omega)) (hFb hb hF0) hk hmax hok hlen h0)
theorem ways_iter (m p0 p1 G N : Nat) (init k : Nat) (ss : List State) (st : State) (sv : Value) (W0 : World) (hNG : N <= G) (hGW : G < W0.heap.size) (hNW : N <= W0.heap.size) (hp0 : p0 ≠ G) (hp1 : p1 ≠ G)
  (c0 : W0.cell? ⟨p0, 0, none⟩ = some sv) (c1 : W0.cell? ⟨p0, 1, none⟩ = some (.int .u64 init)) (k0 : W0.cell? ⟨p1, 0, none⟩ = some (.int .i64 k)) (hrn : RSN W0 N sv ss) (hk : ss[k]? = some st) (hmax : ss.length <= 1000000000) (hok : okArcs k (-1) st.arcs = true) (hlen : st.arcs.length <= 1000000) :
  Iter m Tryz.prog (fun _ => False) 156 #[.pointer (some ⟨p0, 0, none⟩), .pointer (some ⟨p1, 0, none⟩)] (fun x : Arc => #[.int .u8 x.byte, .agg #[.int .i64 x.to, .int .u64 x.out]]) (CK G) (fun xs => xs = st.arcs) (fun pre => pre <+: st.arcs) (fun pre x => pre ++ [x] <+: st.arcs) W0 :=
 ways_iterG m p0 p1 init k ss st sv W0 (CK G) (fun V => N <= V.heap.size /\ V.cell? ⟨p0, 0, none⟩ = some sv /\ V.cell? ⟨p0, 1, none⟩ = some (.int .u64 init) /\ V.cell? ⟨p1, 0, none⟩ = some (.int .i64 k) /\ RSN V N sv ss)
  (fun h => ⟨h.2.1, h.2.2.1, h.2.2.2.1, h.2.2.2.2.rs⟩) (fun hb h => ⟨Nat.le_trans h.1 hb.size, cL hb h.2.1, cL hb h.2.2.1, cL hb h.2.2.2.1, h.2.2.2.2.below (hb.mono h.1)⟩)
  (fun hc h => ⟨Nat.le_trans h.1 hc.1, hc.2.1 _ _ hp0 h.2.1, hc.2.1 _ _ hp0 h.2.2.1, hc.2.1 _ _ hp1 h.2.2.2.1, h.2.2.2.2.ck hNG hc⟩) (fun hc => hc.1) ⟨hNW, c0, c1, k0, hrn⟩ hk hmax hok hlen (fun g cs hg hc hh => hc.2.2 g _ (by omega) rfl hh)
theorem arcs_few {k : Nat} {st : State} (h : okArcs k (-1) st.arcs = true) (ho : okS st) : st.arcs.length <= 256 := by
 have := okArcs_len _ _ _ h (fun a ha => (ho.2.2 a ha).1) (by omega) (by omega)
 omega
end Dw
namespace Tail
open Stab (Pr Here Deps Got OkOps Dep isPath)
open Inr (Fe LI op_in noDefer nd_of fe_fn sem_in fe_depth)
section
variable {P : Program} {Q : Exit -> Act -> World -> Prop} {l : List Oper} {a0 : Act} {w0 : World} {ps : List Pr} {n : Nat} {ds : List Deferred}
abbrev Qf : Exit -> Act -> World -> Prop := fun _ _ _ => False
abbrev TodoY (n : Nat) (P : Program) (id : Nat) (l : List Oper) (Q : Exit -> Act -> World -> Prop) (a0 : Act) (w0 : World) (ps : List Pr) : Prop :=
 Stab.Todo (P.follows .mixedOrders = true /\ wpAnyIn (Fe none) n P .any l.toArray Q l.length (Array.replicate l.length false) a0 { w0 with drawn := w0.drawn + 1 }) P id l.toArray Qf a0 w0 ps
theorem beginY (n : Nat) (k : Nat) {id : Nat} (h : Hid (OkOps l.toArray k) -> TodoY n P id l Q a0 w0 []) (hok : Stab.okOps l.toArray k = true := by kernel_rfl) : (Code.region id l.toArray true).wp P Q a0 w0 := by
 obtain ⟨h1, h2⟩ := (h (Lib.hid (.of hok))).out Stab.good_nil
 exact (wpIn_wide (n := n)).1 (wpIn_region_any h1 h2)
theorem any_eqIn {ops : Array Oper} : ∀ fuel, anyG (wpOpIn (Fe none) n P ops Q) (Q .normal) ops fuel = wpAnyIn (Fe none) n P .any ops Q fuel
 | 0 => rfl
 | fuel + 1 => by funext listed a w; unfold anyG wpAnyIn; rw [any_eqIn fuel]
theorem wp_false {o : Oper} {a : Act} {w : World} {K : Act -> World -> Prop} (hh : o.wp P a w K Qf) : o.wp P a w K Q := by
 unfold Oper.wp at *
 generalize (execOp a.eval o).run P w = r at *
 cases r with
 | ok n w' =>
  cases n <;> simp only [Oper.upon] at hh |- <;>
   first
    | exact hh
    | exact Calls.mono hh (fun e w'' he => by cases e <;> first | exact he | exact he.elim | exact absurd he (fun ⟨_, _, h⟩ => h))
 | halt x w' => cases x <;> simp only [Oper.upon] at hh |- <;> first | exact hh | exact hh.elim
theorem step_in (hd : noDefer l = true) {i : Nat} {K : Act -> World -> Prop} {a : Act} {w : World} (h : wpOp P l.toArray Qf i K a w) : wpOpIn (Fe none) n P l.toArray Q i K a w := by
 unfold wpOp at h
 unfold wpOpIn
 cases ho : l.toArray[i]? with
 | none => rw [ho] at h; exact h
 | some o =>
  rw [ho] at h
  simp only at h |-
  split at h
  ·rename_i hw
   rw [if_pos hw]
   rcases h with h | h
   ·exact op_in (nd_of hd (gM1 (by simpa using ho))) (wp_false h)
   ·exact absurd h.2 (fun ⟨_, _, h⟩ => h)
  ·rename_i hw
   rw [if_neg hw]
   exact ⟨fun f _ => fe_fn none f, h⟩
theorem seq_list : ∀ (k j : Nat) (a : Act) (w : World), k + j = l.length -> wpListIn (Fe none) n P l.toArray Q (l.drop j) a w -> SeqG (wpOpIn (Fe none) n P l.toArray Q) (Q .normal) k j a w
 | 0, j, a, w, hk, h => by
  rw [List.drop_of_length_le (by omega)] at h
  exact h
 | k + 1, j, a, w, hk, h => by
  intro K hK
  have hj : j < l.length := by omega
  rw [List.drop_eq_getElem_cons hj] at h
  unfold wpListIn at h
  unfold wpOpIn
  rw [show l.toArray[j]? = some l[j] by simp [hj]]
  simp only
  split at h
  ·rename_i hw
   rw [if_pos hw]
   exact Oper.wpIn_mono (fun a w h => hK a w (seq_list k (j + 1) a w (by omega) h)) h
  ·rename_i hw
   rw [if_neg hw]
   exact ⟨h.1, hK _ _ (seq_list k (j + 1) _ w (by omega) h.2)⟩
theorem todo_tailY {id k : Nat} (m : Nat) (ws : List (Nat × Nat × List Nat)) (hf : Fact.FrD ds k a0) (hok : Hid (OkOps l.toArray k))
  (hfin : ∀ a w, Here l.toArray a0 w0 a w -> Hid (∀ i, i < m -> Got l.toArray ps i a w) -> LI none n P l.toArray Q (l.drop m) a w) (hlen : ps.length = m := by rfl) (hml : Nat.blt m l.length = true := by rfl) (hch : chain1 l m ws = true := by kernel_rfl) (hd : noDefer l = true := by rfl) (hm : P.follows .mixedOrders = true := by kernel_rfl) : TodoY n P id l Q a0 w0 ps := by
 have hok := hok.out
 have hn := hf.size
 subst hn
 refine ⟨fun hg => ?_⟩
 refine ⟨hm, ?_⟩
 rw [<- any_eqIn]
 refine pre_anyG (Nat.le_of_ble_eq_true hml) (fun k i h1 h2 h3 => chain_dep hch h1 h2 h3) hok hlen hg.1 (fun i hi a w h1 h2 K hK => step_in hd (hg.2 i (by omega) a w h1 h2 K hK)) (fun a w hh hgot => seq_list _ _ _ _ (by have := Nat.le_of_ble_eq_true hml; omega) (hfin a w hh (Lib.hid hgot)).out) _ _ _ _ (by simp) ?_ (fun i hi => ?_) ?_
 ·exact Nat.le_trans List.countP_le_length (by simp)
 ·by_cases h : i < l.length
  ·simp [h]
  ·simp [h]
 ·refine ⟨⟨⟨rfl, rfl, rfl, Nat.le_refl _, fun _ _ => rfl⟩, rfl, rfl, fun _ _ => rfl⟩, fun i o ho hl => ?_, fun i hi hl => ?_, fun _ _ => rfl⟩
  ·have hi := (Array.getElem?_eq_some_iff.1 ho).1
   simp at hi
   simp [hi] at hl
  ·simp at hi
   simp [hi] at hl
end
end Tail
namespace Inr
section
variable {P : Program} {n : Nat} {Q : Exit -> Act -> World -> Prop} {r : Option Nat} {l rest : List Oper} {o x : Oper} {a : Act} {w : World} {g d : Nat} {b : Bool}
theorem wantI (hg : o.guard = some (g, b)) (hgo : l[g]? = some x) (hd : x.dst = some d) (hv : a.tmps[d]? = some (.bool b)) : Region.wanted o (yielded l.toArray a.tmps) = true := by
 simp [Region.wanted, hg, yielded, hgo, hd, hv]
theorem ogI (h : ∀ K : Act -> World -> Prop, Hid (∀ a w, LI r n P l.toArray Q rest a w -> K a w) -> o.wp P a w K Q) (hg : o.guard = some (g, b) := by rfl) (hgo : l[g]? = some x := by rfl) (hd : x.dst = some d := by rfl) (hv : a.tmps[d]? = some (.bool b) := by first | assumption | (simp (decide := true) only [Fact.G, reduceIte, hf.size]; assumption)) (hnd : noDefer [o] = true := by rfl) : LI r n P l.toArray Q (o :: rest) a w := by
 refine ⟨?_⟩
 unfold wpListIn
 rw [if_pos (wantI hg hgo hd hv)]
 exact op_in (nd_of hnd (List.mem_singleton.2 rfl)) (h _ (Lib.hid fun a w hl => hl.out))
theorem yieldG {lp : Nat} {vals : Array Value} {R : Ending -> World -> Prop} (hy : YieldAt (Fe r) (n - 1) P lp vals w R) (hs : (execOp a.eval o).run P w = (Instr.yield lp vals).run P w)
  (hR : ∀ e w', R e w' -> ∃ v, e = .returned v /\ LI r n P l.toArray Q rest (a.put o.dst v) w') (hv : a.tmps[d]? = some (.bool b)) (hg : o.guard = some (g, b) := by rfl) (hgo : l[g]? = some x := by rfl) (hd : x.dst = some d := by rfl) (hnd : noDefer [o] = true := by rfl) : LI r n P l.toArray Q (o :: rest) a w := by
 obtain ⟨fn, tmps, asg, body, h1, h2⟩ := hy
 refine ⟨?_⟩
 unfold wpListIn
 rw [if_pos (wantI hg hgo hd hv)]
 refine ⟨fun f _ => fe_fn r f, ?_⟩
 rw [sem_in r _ (nd_of hnd (List.mem_singleton.2 rfl)), hs, h1]
 refine ⟨fun h => (by rw [fe_depth] at h; cases h), RoundIn.mono h2 fun e w' hr => ?_⟩
 obtain ⟨v, rfl, h⟩ := hR e w' hr
 exact h.out
end
end Inr
namespace Dw
structure Wd where
 w : ByteArray
 n : Nat
 b : Bool
def Wd.args (x : Wd) : Array Value := #[.string x.w, .agg #[.int .u64 x.n, .bool x.b]]
def walkS (ss : List State) (fr : List Nat) : Nat -> Nat -> ByteArray -> Nat -> Bool -> List Wd
 | 0, _, _, _, _ => []
 | f + 1, k, u, n, b => if lexlt (wl u) (fr.take u.size) then [] else match ss[k]? with
  | none => []
  | some st => (if st.final && !lexlt (wl u) fr then [⟨u, (n + st.out) % M64, b && decide (n + st.out < M64)⟩] else []) ++ st.arcs.flatMap fun a => walkS ss fr f a.to.toNat (u ++ bl [a.byte]) ((n + a.out) % M64) (b && decide (n + a.out < M64))
def ownW (st : State) (fr : List Nat) (u : ByteArray) (n : Nat) (b : Bool) : List Wd := if st.final && !lexlt (wl u) fr then [⟨u, (n + st.out) % M64, b && decide (n + st.out < M64)⟩] else []
def kidW (ss : List State) (fr : List Nat) (f : Nat) (u : ByteArray) (n : Nat) (b : Bool) (a : Arc) : List Wd := walkS ss fr f a.to.toNat (u ++ bl [a.byte]) ((n + a.out) % M64) (b && decide (n + a.out < M64))
theorem walkS_ahead {ss : List State} {fr : List Nat} {f k n : Nat} {u : ByteArray} {b : Bool} (h : lexlt (wl u) (fr.take u.size) = true) : walkS ss fr (f + 1) k u n b = [] := by rw [walkS, if_pos h]
theorem walkS_go {ss : List State} {fr : List Nat} {f k n : Nat} {u : ByteArray} {b : Bool} {st : State} (h : lexlt (wl u) (fr.take u.size) = false) (hst : ss[k]? = some st) : walkS ss fr (f + 1) k u n b = ownW st fr u n b ++ st.arcs.flatMap (kidW ss fr f u n b) := by
 rw [walkS, if_neg (by rw [h]; decide), hst]
 rfl
def isEnt (o : Obj) : Prop := ∃ cs fz, o = .cells cs 64 fz
theorem nE {cs : Array Value} {t : TypeId} {fz : Nat × Nat} (h : Nat.beq t 64 = false) : ¬ isEnt (.cells cs t fz) := fun ⟨_, _, e⟩ => by injection e with _ e2 _; rw [e2] at h; cases h
theorem nE' {o : Obj} (h : o.isCells = false) : ¬ isEnt o := fun ⟨_, _, e⟩ => by rw [e] at h; cases h
def Cw (o : Obj) : Prop := o.isCells = false \/ ∃ b, o = .cells #[.bool b] 4 (0, 0)
theorem _root_.Go.Proofs.YtcddnmhmcieebaaGreatDoor.Stays.mono {C C' : Obj -> Prop} {B B' : Nat} {I : World -> Prop} (h : Stays C B I) (hc : ∀ o, C' o -> C o) (hB : B <= B') : Stays C' B' I :=
 fun W W' row hs hg hr => h W W' row hs hg fun r e => by obtain ⟨h1, o, h2, h3⟩ := hr r e; exact ⟨by omega, o, h2, hc o h3⟩
structure KC (F : World -> Prop) (M : Nat) (A B : World) : Prop where
 size : A.heap.size <= B.heap.size
 held : F A -> F B
 kept : ∀ (g : Nat) (o : Obj), M <= g -> ¬ isEnt o -> A.heap[g]? = some o -> B.heap[g]? = some o
def Low (F : World -> Prop) (M : Nat) : Prop := ∀ A A' row, F A -> A.grownBy A' row -> (∀ r, row = some r -> M <= r) -> F A'
section
variable {F : World -> Prop} {M B0 : Nat} {A B C : World}
theorem Low.below (h : Low F M) (hb : Below A.heap.size A B) (hf : F A) : F B := h A B none hf (below_grown hb) (fun r e => by cases e)
theorem KC.refl (F : World -> Prop) (M : Nat) (A : World) : KC F M A A := ⟨Nat.le_refl _, id, fun _ _ _ _ h => h⟩
theorem KC.trans (h : KC F M A B) (k : KC F M B C) : KC F M A C := ⟨Nat.le_trans h.size k.size, fun x => k.held (h.held x), fun g o a b c => k.kept g o a b (h.kept g o a b c)⟩
theorem KC.below (hF : Low F M) (hb : Below A.heap.size A B) : KC F M A B := ⟨hb.size, hF.below hb, fun g o _ _ h => (hb.block g (heap_lt h)).trans h⟩
theorem KC.turn (h : KC F M A B) (hF : Low F M) {g : Nat} (hg : A.heap.size <= g) (hM : M <= A.heap.size) (hk : B.grownBy C (some g)) : KC F M A C :=
 ⟨Nat.le_trans h.size hk.size, fun x => hF B C (some g) (h.held x) hk (fun r e => by cases e; omega), fun k o a b c => by
  have h1 := heap_lt c
  exact (hk.block k (heap_lt (h.kept k o a b c)) (fun e => by injection e with e; omega)).trans (h.kept k o a b c)⟩
theorem KC.stays (hF : Low F M) (hA : A.heap.size <= B0) (hM : M <= A.heap.size) {D : Obj -> Prop} : Stays D B0 (fun W => KC F M A W) := by
 intro W W' row hs hg hr
 cases row with
 | none => exact ⟨Nat.le_trans hs.size hg.size, fun x => hF W W' none (hs.held x) hg (fun r e => by cases e), fun k o a b c => (hg.block k (heap_lt (hs.kept k o a b c)) (by simp)).trans (hs.kept k o a b c)⟩
 | some r => exact hs.turn hF (g := r) (by have := (hr r rfl).1; omega) hM hg
structure KI (F : World -> Prop) (M B0 : Nat) (A B : World) : Prop where
 size : A.heap.size <= B.heap.size
 held : F A -> F B
 kept : ∀ (g : Nat) (o : Obj), M <= g -> (g < B0 \/ o.isCells = true) -> ¬ isEnt o -> A.heap[g]? = some o -> B.heap[g]? = some o
theorem KC.ki (h : KC F M A B) : KI F M B0 A B := ⟨h.size, h.held, fun g o a _ b c => h.kept g o a b c⟩
theorem KI.trans (h : KI F M B0 A B) (k : KI F M B0 B C) : KI F M B0 A C := ⟨Nat.le_trans h.size k.size, fun x => k.held (h.held x), fun g o a b c d => k.kept g o a b c (h.kept g o a b c d)⟩
theorem KI.put (hF : Low F M) {l : Nat} {o o' : Obj} (hl : B0 <= l) (hM : M <= B0) (ho : A.heap[l]? = some o) (hc : o.isCells = false) : KI F M B0 A (A.putObj l o') :=
 ⟨by simp, fun x => hF A _ (some l) x (grownBy_putObj' A l o') (fun r e => by cases e; omega), fun g o2 _ a _ c => by
  by_cases e : g = l
  ·subst e
   rw [ho] at c
   injection c with c
   subst c
   rcases a with a | a
   ·omega
   ·rw [hc] at a; cases a
  ·exact (World.putObj_heap_other e).trans c⟩
theorem KC.from (h : KC F M A B) (hM : M <= B0) : KeepsFrom B0 A B := ⟨h.size, fun k o a b c => h.kept k o (Nat.le_trans hM a) (nE' c) b⟩
end
theorem set_res {W W9 : World} {g : Nat} {b b' : Bool} (h : W.heap[g]? = some (.cells #[.bool b] 4 (0, 0))) (h9 : W.setCell ⟨g, 0, none⟩ (.bool b') = W9) : W9.heap[g]? = some (.cells #[.bool b'] 4 (0, 0)) /\ W.grownBy W9 (some g) /\ ∀ (I : World -> Prop) (B : Nat), Stays Cw B I -> B <= g -> I W -> I W9 := by
 subst h9
 refine ⟨by have := set_block (i := 0) h (.bool b'); simpa using this, grownBy_setCell' W g _, fun I B hI hB hs => hI W _ (some g) hs (grownBy_setCell' W g _) (fun r e => by cases e; exact ⟨hB, _, h, .inr ⟨b, rfl⟩⟩)⟩
theorem leaves_collS {P : Program} {fn : Func} {tmps : Array Value} {R : Ending -> World -> Prop} {G : Nat} {S : World -> Prop} (hS : Stays (fun o => o.isCells = false) (G + 1) S) : ∀ {ds : List Deferred} {n : Nat} {w : World}, Coll G ds n w -> S w ->
  (∀ w', Below (G + 1) w w' -> S w' -> ∃ v, (results fn tmps).run P w' = .ok v w' /\ R (.returned v) w') -> LeavesInM Fence.wide 9 P fn tmps R ds .returning w
 | [], n, w, _, hs, h => h w (Below.refl _ _) hs
 | d :: ds, n, w, ⟨D, h1, h2, h3, h4, h5⟩, hs, h => by
  subst h1
  refine ⟨by simp, .inl ⟨_, _, rfl, run_takeDeferred h4, ?_⟩⟩
  have hb : Below (G + 1) w (w.putObj D (.deferred none)) := (Below.refl _ w).grown (grownBy_putObj' w D _) (by have := (Array.getElem?_eq_some_iff.1 h4).1; omega) (fun k e => by cases e; omega)
  exact leaves_collS hS (h5.turn (Nat.le_refl _) fun E _ e2 hE => (World.putObj_heap_other (by omega)).trans hE) (hS.put hs _ h4 (by omega) rfl) fun w' hw => h w' (hb.trans hw)
theorem retMv {P : Program} {fn : Func} {R : Ending -> World -> Prop} {G n N p g : Nat} {ty t : TypeId} {ds : List Deferred} {a : Act} {w : World} {x : Value} {fr : Nat × Nat} {S : World -> Prop} (hS : Stays (fun o => o.isCells = false) (G + 1) S) (h : fn.results = #[.cell p ty]) (hf : Fact.FrD ds N a)
  (sp : a.tmps[p]? = some (.pointer (some ⟨g, 0, none⟩))) (hg : w.heap[g]? = some (.cells #[x] t fr)) (hgG : g <= G) (hu : ∀ w, (isAgg ty).run P w = .ok false w)
  (hc : Coll G ds n w) (hs : S w) (hR : ∀ w', Below (G + 1) w w' -> S w' -> R (.returned x) w') : bodyPostM Fence.wide 9 P fn R .ret a w := by
 show LeavesInM Fence.wide 9 P fn a.tmps R a.defers .returning w
 rw [hf.defers]
 refine leaves_collS hS hc hs fun w' hw hs' => ⟨x, ?_, hR w' hw hs'⟩
 have hg' := (hw.block g (by omega)).trans hg
 have hp' : a.tmps[p]?.getD undef = .pointer (some ⟨g, 0, none⟩) := by simp [sp]
 have hc' := cell_of_row _ _ 0 _ t fr hg'
 simp at hc'
 simp [results, h, Sem.run_bind, hp', asAddr, loadVar, go_sem, hu, hc', Result.andThen]
theorem retMb {P : Program} {fn : Func} {R : Ending -> World -> Prop} {G n N p g : Nat} {ty t : TypeId} {ds : List Deferred} {a : Act} {w : World} {b : Bool} {fr : Nat × Nat} {S : World -> Prop} (hS : Stays (fun o => o.isCells = false) (G + 1) S) (h : fn.results = #[.cell p ty]) (hf : Fact.FrD ds N a)
  (sp : a.tmps[p]? = some (.pointer (some ⟨g, 0, none⟩))) (hg : w.heap[g]? = some (.cells #[.bool b] t fr)) (hgG : g <= G) (hu : ∀ w, (isAgg ty).run P w = .ok false w)
  (hc : Coll G ds n w) (hs : S w) (hR : ∀ w', Below (G + 1) w w' -> S w' -> R (.returned (.bool b)) w') : bodyPostM Fence.wide 9 P fn R .ret a w := retMv hS h hf sp hg hgG hu hc hs hR
end Dw
end Go.Proofs.YtcddnmhmcieebaaGreatDoor
