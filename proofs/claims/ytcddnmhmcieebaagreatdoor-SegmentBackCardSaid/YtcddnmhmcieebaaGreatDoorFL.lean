/- fst: walk: behind. -/
import Derived.Test.YtcddnmhmcieebaaGreatDoorY20
import Derived.Test.YtcddnmhmcieebaaGreatDoorTools
namespace Go.Proofs.YtcddnmhmcieebaaGreatDoor
open Go.RowKit
set_option linter.unusedSimpArgs false
set_option linter.unusedVariables false
set_option linter.unnecessarySimpa false
namespace Dw
theorem three_b (a b : Bool) : a = false \/ (a = true /\ b = true) \/ (a = true /\ b = false) := by cases a <;> cases b <;> simp
theorem pre_flat {pre own : List Wd} (g : Arc -> List Wd) {xs ys : List Arc} {x : Arc} (h : xs ++ [x] <+: ys) : (pre ++ own ++ xs.flatMap g) ++ g x <+: pre ++ (own ++ ys.flatMap g) := by
 obtain ⟨z, rfl⟩ := h
 exact ⟨z.flatMap g, by simp⟩
theorem conv_b1 (V : World) (g y : Nat) (h : V.cell? ⟨g, 0, none⟩ = some (.int .u8 y)) : (convert 31 9 (.slice (some ⟨g, 0, none⟩) 1 1)).run Tryz.prog V = .ok (.string (bl [y])) V :=
 run_convert_bytes_arg (P := Tryz.prog) _ 31 5 Tryz.underlying31 Tryz.underlying5 g 0 1 1 [(y : Int)] rfl (fun i hi => by have h0 : i = 0 := (by omega); subst h0; exact h) 9 Tryz.underlying9
theorem Coll.nil0 {G : Nat} {W : World} : Coll G [] 0 W := trivial
theorem Coll.one0 {G D : Nat} {W : World} (hG : G < D) (h : W.heap[D]? = some (.deferred (some []))) : Coll G [{ target := .collected D, args := #[] }] W.heap.size W := ⟨D, rfl, hG, heap_lt h, h, trivial⟩
theorem Coll.one {G D : Nat} {W W9 : World} (hG : G < D) (hg : W.grownBy W9 (some G)) (h : W.heap[D]? = some (.deferred (some []))) : Coll G [{ target := .collected D, args := #[] }] W9.heap.size W9 := Coll.one0 hG ((hg.block D (heap_lt h) (fun e => by injection e with e; omega)).trans h)
def Rb (F : World -> Prop) (M : Nat) (J Jx : List Wd -> World -> Prop) (T : List Wd) (W : World) (pre xs : List Wd) (e : Ending) (W' : World) : Prop :=
 (e = .returned (.bool true) /\ J (pre ++ xs) W' /\ KC F M W W') \/ (e = .returned (.bool false) /\ (∃ s, s <+: T /\ Jx s W') /\ KC F M W W')
theorem rb_two {F : World -> Prop} {M : Nat} {J Jx : List Wd -> World -> Prop} {T : List Wd} {W W' : World} {pre xs : List Wd} {e : Ending} (h : Rb F M J Jx T W pre xs e W') : ∃ b : Bool, e = .returned (.bool b) /\ ((b = true /\ J (pre ++ xs) W' /\ KC F M W W') \/ (b = false /\ (∃ s, s <+: T /\ Jx s W') /\ KC F M W W')) := yield_two h
theorem KI.res {F : World -> Prop} {M B0 g : Nat} {A B : World} {o : Obj} (hF : Low F M) (hM : M <= g) (h : A.heap[g]? = some o) (h9 : B.heap[g]? = some o) (hg : A.grownBy B (some g)) : KI F M B0 A B :=
 ⟨hg.size, fun x => hF A B (some g) x hg (fun r e => by cases e; exact hM), fun k o2 _ _ _ hk => by
  by_cases e : k = g
  ·subst e; rw [h] at hk; rw [h9]; exact hk
  ·exact (hg.block k (heap_lt hk) (fun e2 => by injection e2 with e2; exact e e2)).trans hk⟩
set_option maxHeartbeats 4000000 in
set_option maxRecDepth 100000 in
theorem behind_in (m : Nat) (F : World -> Prop) (M : Nat) (hFl : Low F M) (pf pt py pb : Nat) (from_ : ByteArray) (hfz : from_.size <= 1000000000) (sv : Value) (init : Nat) (ss : List State) (L : Nat) (J Jx : List Wd -> World -> Prop) (T : List Wd)
    (hF : ∀ {V : World}, F V -> V.cell? ⟨pf, 0, none⟩ = some (.string from_) /\ V.cell? ⟨pt, 0, none⟩ = some sv /\ V.cell? ⟨pt, 1, none⟩ = some (.int .u64 init) /\ V.cell? ⟨py, 0, none⟩ = some (.func (.yield L) #[] #[]) /\ V.cell? ⟨pb, 0, none⟩ = some (.func (.func 152) #[] #[.pointer (some ⟨pf, 0, none⟩), .pointer (some ⟨pt, 0, none⟩), .pointer (some ⟨py, 0, none⟩), .pointer (some ⟨pb, 0, none⟩)]) /\ RS V sv ss)
    (hY : ∀ pre x W1, J pre W1 -> F W1 -> pre ++ [x] <+: T -> YieldAt Fence.wide (m - 1) Tryz.prog L x.args W1 fun e W' => (e = .returned (.bool true) /\ J (pre ++ [x]) W' /\ KC F M W1 W') \/ (e = .returned (.bool false) /\ Jx (pre ++ [x]) W' /\ KC F M W1 W'))
    (hJ : ∀ s, Stays Cw M (J s)) (hJx : ∀ s, Stays Cw M (Jx s)) (hlen : ss.length <= 1000000) (hok : ∀ s ∈ ss, okS s) (hfm : ∀ (k : Nat) (st : State), ss[k]? = some st -> okArcs k (-1) st.arcs = true)
    (f k : Nat) (W : World) (u : ByteArray) (n : Nat) (b : Bool) (pre : List Wd) (hM : M <= W.heap.size) (hF0 : F W) (hJ0 : J pre W) (hT : pre ++ walkS ss (wl from_) (f + 1) k u n b <+: T) (hn : n < M64) (hkl : k < ss.length) (hul : u.size + k <= 1000000)
    (IH : ∀ (k' : Nat) (W' : World) (u' : ByteArray) (n' : Nat) (b' : Bool) (pre' : List Wd), k' < k -> M <= W'.heap.size -> F W' -> J pre' W' -> pre' ++ walkS ss (wl from_) f k' u' n' b' <+: T -> n' < M64 -> u'.size + k' <= 1000000 -> Calls Tryz.prog 152 #[.int .i64 k', .string u', .agg #[.int .u64 n', .bool b'], .pointer (some ⟨pf, 0, none⟩), .pointer (some ⟨pt, 0, none⟩), .pointer (some ⟨py, 0, none⟩), .pointer (some ⟨pb, 0, none⟩)] W' (Rb F M J Jx T W' pre' (walkS ss (wl from_) f k' u' n' b'))) : Calls Tryz.prog 152 #[.int .i64 k, .string u, .agg #[.int .u64 n, .bool b], .pointer (some ⟨pf, 0, none⟩), .pointer (some ⟨pt, 0, none⟩), .pointer (some ⟨py, 0, none⟩), .pointer (some ⟨pb, 0, none⟩)] W (Rb F M J Jx T W pre (walkS ss (wl from_) (f + 1) k u n b)) := by
 refine enterM Tryz.func152 rfl ?_
 refine Fact.en 69 fun fr hf hT => ?_
 have s0 := hT 0 _ rfl
 have s1 := hT 1 _ rfl
 have s2 := hT 2 _ rfl
 have s3 := hT 3 _ rfl
 have s4 := hT 4 _ rfl
 have s5 := hT 5 _ rfl
 have s6 := hT 6 _ rfl
 clear hT
 have hrs := (hF hF0).2.2.2.2.2
 obtain ⟨A, cc, rfl, hcc⟩ := hrs.form
 obtain ⟨st, hst⟩ : ∃ x, ss[k]? = some x := ⟨_, gE1 hkl⟩
 clear hrs
 obtain ⟨res, hres⟩ : ∃ x, walkS ss (wl from_) (f + 1) k u n b = x := ⟨_, rfl⟩
 rw [hres] at hT |-
 have HRES := Lib.hid hres; clear hres
 refine Ze fun _ hK1 => Zr [] hf ?_
 refine Zq8 0 3 4 5 6 8 9 10 hf ?_
 clear hf s0 s1 s2 s3 s4 s5 s6; intro fr1 hf sS
 generalize hW0 : ((W.alloc (.cells #[.string u] 9)).alloc (.cells #[.int .u64 n, .bool b] 190)).alloc (.cells #[.bool false] 4) = W0
 obtain ⟨s0, s3, s4, s5, s6, s8, s9, s10⟩ := sS
 try simp only [World.size_alloc] at s9 s10
 obtain ⟨hb0, hp8, hp9, hp10⟩ := boxes3T hW0
 clear hW0
 have c8 := cR1 0 hp8
 simp at c8
 have hkc := KC.below hFl hb0
 have hj := (hJ pre).of_below hJ0 hb0
 have hF1 := hkc.held hF0
 obtain ⟨cf, -⟩ := hF hF1
 obtain ⟨mn, hmn⟩ : ∃ x, min u.size from_.size = x := ⟨_, rfl⟩
 have hmf : mn <= from_.size := by omega
 obtain ⟨ah, hah⟩ : ∃ x, lexlt (wl u) ((wl from_).take u.size) = x := ⟨_, rfl⟩
 have hcut : lexlt (wl u) (wl (from_.extract 0 mn)) = ah := by rw [<- hah, wl_extract, List.drop_zero, <- hmn]; congr 1; rcases Nat.le_total u.size from_.size with h | h; (rw [Nat.min_eq_left h]); (rw [Nat.min_eq_right h]; have h2 := wl_length from_; rw [List.take_of_length_le (by omega), List.take_of_length_le (by omega)])
 have HMN := Lib.hid hmn; have HAH := Lib.hid hah; have HCUT := Lib.hid hcut; clear hmn hah hcut
 refine Zs hK1 fun _ hK2 => Stab.tb 69 fun hok => ?_
 refine Stab.T 0 hf hok (fun _ _ h d => ad (Stab.O h s8) (ad (cL h.ext c8) (cL h.ext cf))) ?_
 refine Stab.T 1 hf hok (fun _ _ h d => ad (Stab.O h s3) (ad (cL h.ext c8) (cL h.ext cf))) ?_
 refine Stab.T 2 hf hok (fun _ _ h d => ad (Stab.O h s8) (ad (cL h.ext c8) (cL h.ext cf))) ?_
 refine Stab.T 3 hf hok (fun _ _ h d => ad (Stab.vd 2 0 d []) (ad (cL h.ext c8) (cL h.ext cf))) ?_
 refine Stab.T 4 hf hok (fun _ _ h d => ad (Stab.O h s3) (ad (cL h.ext c8) (cL h.ext cf))) ?_
 refine Stab.T 5 hf hok (fun _ _ h d => ad (Stab.vd 4 0 d []) (ad (cL h.ext c8) (cL h.ext cf))) ?_
 apply Stab.tq 6 _ hf hok
 . (
 intro fr1 w1 hh hd hk K Z
 have s17 := Stab.v 3 2 hd hk []
 have s19 := Stab.v 5 0 hd hk []
 clear hd
 replace c8 := cL hh.ext c8
 replace cf := cL hh.ext cf
 go_simp
 rw [show min (u.size : Int) (from_.size : Int) = ((mn : Nat) : Int) by rw [<- HMN.out]; omega]
 exact Stab.k Z)
 refine Stab.T 7 hf hok (fun _ _ h d => ad (Stab.vd 1 5 d []) (Stab.vd 6 0 d [])) ?_
 apply Stab.tq 8 _ hf hok
 . (
 intro fr1 w1 hh hd hk K Z
 have s14 := Stab.v 0 7 hd hk []
 have s21 := Stab.v 7 0 hd hk []
 clear hd
 replace c8 := cL hh.ext c8
 replace cf := cL hh.ext cf
 go_simp
 go_at_call 153; refine (less153 w1 u (from_.extract 0 mn)).mono ?_; rintro e w2 ⟨rfl, hww⟩
 subst hww
 rw [HCUT.out]
 exact Stab.k Z)
 refine Stab.mN 9 8 0 hf hok [] ?_
 refine Stab.E hf hok (fun _ _ h g => ad (Stab.O h s0) (ad (Stab.O h s3) (ad (Stab.O h s4) (ad (Stab.O h s5) (ad (Stab.O h s6) (ad (Stab.O h s8) (ad (Stab.O h s9) (ad (Stab.O h s10) (Stab.f 9 0 g))))))))) ?_
 clear hf hok s0 s3 s4 s5 s6 s8 s9 s10; intro fr1 w1 hf hx sS
 replace c8 := cL hx c8
 replace cf := cL hx cf
 replace hj := (hJ _).of_below hj hx
 replace hkc := hkc.trans (KC.below hFl hx)
 replace hp8 := (hx.block _ (heap_lt hp8)).trans hp8
 replace hp9 := (hx.block _ (heap_lt hp9)).trans hp9
 replace hp10 := (hx.block _ (heap_lt hp10)).trans hp10
 replace hF1 := hkc.held hF0
 refine Zs hK2 fun _ hK3 => Ze fun _ hK4 => Zr [] hf ?_
 refine Zq9 0 3 4 5 6 8 9 10 23 hf ?_
 clear hf sS; intro fr1 hf sS
 refine Zx hK4 (Fact.cond_s sS.2.2.2.2.2.2.2.2 (fun hq => ?_) (fun hq => ?_))
 . (
 subst hq
 have c10 := cR1 0 hp10
 simp at c10
 have f10 := frozen_of (i := 0) hp10
 have hr : res = [] := HRES.out.symm.trans (walkS_ahead HAH.out)
 refine Ze fun _ hK5 => Zr [] hf ?_
 refine Zq8 0 3 4 5 6 8 9 10 hf ?_
 clear hf sS; intro fr1 hf sS
 generalize hW3 : w1.setCell ⟨(W.heap.size + 1 + 1), 0, none⟩ (.bool true) = W3
 obtain ⟨h10, hgr, hsr⟩ := set_res hp10 hW3
 have hkc9 := hkc.turn hFl (g := (W.heap.size + 1 + 1)) (by omega) hM hgr
 refine Zx hK5 (Zret ?_)
 exact retMb (G := (W.heap.size + 1 + 1)) (S := fun V => J (pre ++ res) V /\ KC F M W V) (Stays.and ((hJ _).mono (fun o h => .inl h) (by omega)) (KC.stays hFl (by omega) hM)) rfl hf sS.2.2.2.2.2.2.2 h10 (Nat.le_refl _) Tryz.isAgg4 Coll.nil0 ⟨by rw [hr, List.append_nil]; exact hsr _ _ (hJ _) (by omega) hj, hkc9⟩ (fun w' _ hs => .inl ⟨rfl, hs.1, hs.2⟩))
 . (
 subst hq
 have hr := HRES.out.symm.trans (walkS_go HAH.out hst)
 obtain ⟨own, hown⟩ : ∃ x, ownW st (wl from_) u n b = x := ⟨_, rfl⟩
 obtain ⟨kf, hkf⟩ : ∃ x, kidW ss (wl from_) f u n b = x := ⟨_, rfl⟩
 rw [hown, hkf] at hr
 rw [hr] at hT
 obtain ⟨ls, hls⟩ : ∃ x, lexlt (wl u) (wl from_) = x := ⟨_, rfl⟩
 have HR := Lib.hid hr; have HOWN := Lib.hid hown; have HKF := Lib.hid hkf; have HLS := Lib.hid hls; clear hr hown hkf hls
 refine wp_skip (Zx hK3 (Fact.seq_meet (fun fr wq => Fact.Fr 69 fr /\ fr.tmps[0]? = some (.int .i64 k) /\ fr.tmps[4]? = some (.pointer (some ⟨pt, 0, none⟩)) /\ fr.tmps[6]? = some (.pointer (some ⟨pb, 0, none⟩)) /\ fr.tmps[8]? = some (.pointer (some ⟨W.heap.size, 0, none⟩)) /\ fr.tmps[9]? = some (.pointer (some ⟨(W.heap.size + 1), 0, none⟩)) /\ fr.tmps[10]? = some (.pointer (some ⟨(W.heap.size + 1 + 1), 0, none⟩)) /\ J (pre ++ own) wq /\ KC F M W wq /\ wq.heap[W.heap.size]? = some (.cells #[.string u] 9 (0, 0)) /\ wq.heap[(W.heap.size + 1)]? = some (.cells #[.int .u64 n, .bool b] 190 (0, 0)) /\ wq.heap[(W.heap.size + 1 + 1)]? = some (.cells #[.bool false] 4 (0, 0))) ?_ ?_))
 . (
 have hmem := gM1 hst
 obtain ⟨cf, ct0, ct1, cy, cb, hrsx⟩ := hF hF1
 obtain ⟨gs, off, av, hA0, hat⟩ := hrsx.at_ hst
 subst hA0
 have d1 := hat.c1; have d2 := hat.c2
 clear hat hrsx
 have c9a := cR1 0 hp9; have c9b := cR1 1 hp9
 simp at c9a c9b
 rcases three_b st.final ls with hfi | hfi | hfi
 . (
 rw [hfi] at d1
 have hon : own = [] := by rw [<- HOWN.out, ownW, hfi]; rfl
 refine Ze fun _ hK6 => ?_
 obtain ⟨s0, s3, s4, s5, s6, s8, s9, s10, s23⟩ := sS
 refine Stab.tb 69 fun hok => ?_
 refine Stab.T 0 hf hok (fun _ _ h d => Stab.O h s4) ?_
 refine Stab.T 1 hf hok (fun _ _ h d => ad (Stab.vd 0 0 d []) (ad (cL h.ext c8) (ad (cL h.ext cf) (ad (cL h.ext ct0) (ad (cL h.ext ct1) (ad (cL h.ext cy) (ad (cL h.ext d1) (ad (cL h.ext d2) (ad (cL h.ext c9a) (cL h.ext c9b)))))))))) ?_
 refine Stab.mO 2 s0 hf hok ?_
 refine Stab.Ti 3 hf hok (fun _ _ h d => ad (Stab.vd 1 1 d []) (Stab.vd 2 0 d [])) ?_
 refine Stab.T 4 hf hok (fun _ _ h d => Stab.vd 3 0 d []) ?_
 refine Stab.T 5 hf hok (fun _ _ h d => ad (Stab.vd 4 0 d []) (ad (cL h.ext c8) (ad (cL h.ext cf) (ad (cL h.ext ct0) (ad (cL h.ext ct1) (ad (cL h.ext cy) (ad (cL h.ext d1) (ad (cL h.ext d2) (ad (cL h.ext c9a) (cL h.ext c9b)))))))))) ?_
 refine Stab.mN 6 5 0 hf hok [] ?_
 refine Stab.Tk 7 hf hok (fun _ _ h d => Stab.vd 6 0 d []) ?_
 refine Stab.Tk 8 hf hok (fun _ _ h d => Stab.vd 6 1 d []) ?_
 apply Stab.tr 9 _ hf hok
 . (
 intro fr1 w1 hh hd hk K Z
 have s30 := Stab.v 6 2 hd hk []
 refine Stab.sk s30 ?_
 exact Stab.k Z)
 refine Stab.Tk 10 hf hok (fun _ _ h d => Stab.vd 6 3 d []) ?_
 refine Stab.T 11 hf hok (fun _ _ h d => ad (Stab.vd 6 4 d []) (Stab.vd 10 0 d [])) ?_
 refine Stab.mN 12 11 0 hf hok [] ?_
 refine Stab.Tk 13 hf hok (fun _ _ h d => Stab.vd 12 0 d []) ?_
 refine Stab.Tk 14 hf hok (fun _ _ h d => Stab.vd 12 1 d []) ?_
 refine Stab.Tk 15 hf hok (fun _ _ h d => Stab.vd 12 2 d []) ?_
 refine Stab.Tk 16 hf hok (fun _ _ h d => Stab.vd 12 3 d []) ?_
 refine Stab.Tk 17 hf hok (fun _ _ h d => Stab.vd 12 4 d []) ?_
 refine Stab.Tk 18 hf hok (fun _ _ h d => Stab.vd 12 5 d []) ?_
 refine Stab.Tk 19 hf hok (fun _ _ h d => Stab.vd 12 6 d []) ?_
 refine Stab.Tk 20 hf hok (fun _ _ h d => Stab.vd 12 7 d []) ?_
 refine Stab.Tk 21 hf hok (fun _ _ h d => Stab.vd 12 8 d []) ?_
 apply Stab.tr 22 _ hf hok
 . (
 intro fr1 w1 hh hd hk K Z
 have s36 := Stab.v 12 9 hd hk []
 refine Stab.sk s36 ?_
 exact Stab.k Z)
 refine Stab.Tk 23 hf hok (fun _ _ h d => Stab.vd 12 10 d []) ?_
 refine Stab.Tk 24 hf hok (fun _ _ h d => Stab.vd 12 11 d []) ?_
 refine Stab.T 25 hf hok (fun _ _ h d => ad (Stab.vd 12 12 d []) (Stab.vd 24 0 d [])) ?_
 refine Stab.E hf hok (fun _ _ h g => ad (Stab.O h s0) (ad (Stab.O h s4) (ad (Stab.O h s6) (ad (Stab.O h s8) (ad (Stab.O h s9) (ad (Stab.O h s10) (Stab.f 25 0 g))))))) ?_
 clear hf hok s0 s3 s4 s5 s6 s8 s9 s10 s23; intro fr1 w1 hf hx sS
 replace c8 := cL hx c8
 replace cf := cL hx cf
 replace ct0 := cL hx ct0
 replace ct1 := cL hx ct1
 replace cy := cL hx cy
 replace d1 := cL hx d1
 replace d2 := cL hx d2
 replace c9a := cL hx c9a
 replace c9b := cL hx c9b
 replace hj := (hJ _).of_below hj hx
 replace hkc := hkc.trans (KC.below hFl hx)
 replace hp8 := (hx.block _ (heap_lt hp8)).trans hp8
 replace hp9 := (hx.block _ (heap_lt hp9)).trans hp9
 replace hp10 := (hx.block _ (heap_lt hp10)).trans hp10
 refine Zx hK6 (Fact.cond_f sS.2.2.2.2.2.2 ?_)
 refine wp_skip (Fact.then_normal ?_)
 obtain ⟨s0, s4, s6, s8, s9, s10, s49⟩ := sS
 exact ⟨hf, s0, s4, s6, s8, s9, s10, by rw [hon, List.append_nil]; exact hj, hkc, hp8, hp9, hp10⟩)
 . (
 obtain ⟨hfi, hl⟩ := hfi
 subst hl
 rw [hfi] at d1
 have hon : own = [] := by rw [<- HOWN.out, ownW, hfi, HLS.out]; rfl
 refine Ze fun _ hK7 => ?_
 obtain ⟨s0, s3, s4, s5, s6, s8, s9, s10, s23⟩ := sS
 refine Stab.tb 69 fun hok => ?_
 refine Stab.T 0 hf hok (fun _ _ h d => Stab.O h s4) ?_
 refine Stab.T 1 hf hok (fun _ _ h d => ad (Stab.vd 0 0 d []) (ad (cL h.ext c8) (ad (cL h.ext cf) (ad (cL h.ext ct0) (ad (cL h.ext ct1) (ad (cL h.ext cy) (ad (cL h.ext d1) (ad (cL h.ext d2) (ad (cL h.ext c9a) (cL h.ext c9b)))))))))) ?_
 refine Stab.mO 2 s0 hf hok ?_
 refine Stab.Ti 3 hf hok (fun _ _ h d => ad (Stab.vd 1 1 d []) (Stab.vd 2 0 d [])) ?_
 refine Stab.T 4 hf hok (fun _ _ h d => Stab.vd 3 0 d []) ?_
 refine Stab.T 5 hf hok (fun _ _ h d => ad (Stab.vd 4 0 d []) (ad (cL h.ext c8) (ad (cL h.ext cf) (ad (cL h.ext ct0) (ad (cL h.ext ct1) (ad (cL h.ext cy) (ad (cL h.ext d1) (ad (cL h.ext d2) (ad (cL h.ext c9a) (cL h.ext c9b)))))))))) ?_
 refine Stab.mN 6 5 0 hf hok [] ?_
 refine Stab.Tg 7 hf hok (fun _ _ h d => Stab.vd 6 0 d []) (fun _ _ h d => ad (Stab.O h s8) (ad (cL h.ext c8) (ad (cL h.ext cf) (ad (cL h.ext ct0) (ad (cL h.ext ct1) (ad (cL h.ext cy) (ad (cL h.ext d1) (ad (cL h.ext d2) (ad (cL h.ext c9a) (cL h.ext c9b)))))))))) ?_
 refine Stab.Tg 8 hf hok (fun _ _ h d => Stab.vd 6 1 d []) (fun _ _ h d => ad (Stab.O h s3) (ad (cL h.ext c8) (ad (cL h.ext cf) (ad (cL h.ext ct0) (ad (cL h.ext ct1) (ad (cL h.ext cy) (ad (cL h.ext d1) (ad (cL h.ext d2) (ad (cL h.ext c9a) (cL h.ext c9b)))))))))) ?_
 apply Stab.tr 9 _ hf hok
 . (
 intro fr1 w1 hh hd hk K Z
 have s30 := Stab.v 6 2 hd hk []
 refine Stab.g s30 ?_
 have s31 := Stab.v 7 1 hd hk []
 have s32 := Stab.v 8 0 hd hk []
 clear hd
 replace c8 := cL hh.ext c8
 replace cf := cL hh.ext cf
 replace ct0 := cL hh.ext ct0
 replace ct1 := cL hh.ext ct1
 replace cy := cL hh.ext cy
 replace d1 := cL hh.ext d1
 replace d2 := cL hh.ext d2
 replace c9a := cL hh.ext c9a
 replace c9b := cL hh.ext c9b
 go_simp
 go_at_call 153; refine (less153 w1 u from_).mono ?_; rintro e w2 ⟨rfl, hww⟩
 subst hww
 rw [HLS.out]
 exact Stab.k Z)
 refine Stab.Tg 10 hf hok (fun _ _ h d => Stab.vd 6 3 d []) (fun _ _ h d => Stab.vd 9 0 d []) ?_
 refine Stab.T 11 hf hok (fun _ _ h d => ad (Stab.vd 6 4 d []) (Stab.vd 10 0 d [])) ?_
 refine Stab.mN 12 11 0 hf hok [] ?_
 refine Stab.Tk 13 hf hok (fun _ _ h d => Stab.vd 12 0 d []) ?_
 refine Stab.Tk 14 hf hok (fun _ _ h d => Stab.vd 12 1 d []) ?_
 refine Stab.Tk 15 hf hok (fun _ _ h d => Stab.vd 12 2 d []) ?_
 refine Stab.Tk 16 hf hok (fun _ _ h d => Stab.vd 12 3 d []) ?_
 refine Stab.Tk 17 hf hok (fun _ _ h d => Stab.vd 12 4 d []) ?_
 refine Stab.Tk 18 hf hok (fun _ _ h d => Stab.vd 12 5 d []) ?_
 refine Stab.Tk 19 hf hok (fun _ _ h d => Stab.vd 12 6 d []) ?_
 refine Stab.Tk 20 hf hok (fun _ _ h d => Stab.vd 12 7 d []) ?_
 refine Stab.Tk 21 hf hok (fun _ _ h d => Stab.vd 12 8 d []) ?_
 apply Stab.tr 22 _ hf hok
 . (
 intro fr1 w1 hh hd hk K Z
 have s36 := Stab.v 12 9 hd hk []
 refine Stab.sk s36 ?_
 exact Stab.k Z)
 refine Stab.Tk 23 hf hok (fun _ _ h d => Stab.vd 12 10 d []) ?_
 refine Stab.Tk 24 hf hok (fun _ _ h d => Stab.vd 12 11 d []) ?_
 refine Stab.T 25 hf hok (fun _ _ h d => ad (Stab.vd 12 12 d []) (Stab.vd 24 0 d [])) ?_
 refine Stab.E hf hok (fun _ _ h g => ad (Stab.O h s0) (ad (Stab.O h s4) (ad (Stab.O h s6) (ad (Stab.O h s8) (ad (Stab.O h s9) (ad (Stab.O h s10) (Stab.f 25 0 g))))))) ?_
 clear hf hok s0 s3 s4 s5 s6 s8 s9 s10 s23; intro fr1 w1 hf hx sS
 replace c8 := cL hx c8
 replace cf := cL hx cf
 replace ct0 := cL hx ct0
 replace ct1 := cL hx ct1
 replace cy := cL hx cy
 replace d1 := cL hx d1
 replace d2 := cL hx d2
 replace c9a := cL hx c9a
 replace c9b := cL hx c9b
 replace hj := (hJ _).of_below hj hx
 replace hkc := hkc.trans (KC.below hFl hx)
 replace hp8 := (hx.block _ (heap_lt hp8)).trans hp8
 replace hp9 := (hx.block _ (heap_lt hp9)).trans hp9
 replace hp10 := (hx.block _ (heap_lt hp10)).trans hp10
 refine Zx hK7 (Fact.cond_f sS.2.2.2.2.2.2 ?_)
 refine wp_skip (Fact.then_normal ?_)
 obtain ⟨s0, s4, s6, s8, s9, s10, s49⟩ := sS
 exact ⟨hf, s0, s4, s6, s8, s9, s10, by rw [hon, List.append_nil]; exact hj, hkc, hp8, hp9, hp10⟩)
 . (
 obtain ⟨hfi, hl⟩ := hfi
 subst hl
 rw [hfi] at d1
 obtain ⟨X, hX⟩ : ∃ x, (⟨u, (n + st.out) % M64, b && decide (n + st.out < M64)⟩ : Wd) = x := ⟨_, rfl⟩
 have hon : own = [X] := by rw [<- HOWN.out, ownW, hfi, HLS.out, <- hX]; rfl
 have hpx : pre ++ [X] <+: T := by rw [hon, <- List.append_assoc] at hT; exact (List.prefix_append _ _).trans hT
 have hou := (hok st hmem).1
 have hxa : X.args = #[.string u, .agg #[.int .u64 ((n + st.out) % M64 : Nat), .bool (b && decide (n + st.out < M64))]] := by rw [<- hX]; rfl
 refine Ze fun _ hK8 => ?_
 obtain ⟨s0, s3, s4, s5, s6, s8, s9, s10, s23⟩ := sS
 refine Tail.beginY m 69 fun hok => ?_
 refine Stab.T 0 hf hok (fun _ _ h d => Stab.O h s4) ?_
 refine Stab.T 1 hf hok (fun _ _ h d => ad (Stab.vd 0 0 d []) (ad (cL h.ext c8) (ad (cL h.ext cf) (ad (cL h.ext ct0) (ad (cL h.ext ct1) (ad (cL h.ext cy) (ad (cL h.ext d1) (ad (cL h.ext d2) (ad (cL h.ext c9a) (cL h.ext c9b)))))))))) ?_
 refine Stab.mO 2 s0 hf hok ?_
 refine Stab.Ti 3 hf hok (fun _ _ h d => ad (Stab.vd 1 1 d []) (Stab.vd 2 0 d [])) ?_
 refine Stab.T 4 hf hok (fun _ _ h d => Stab.vd 3 0 d []) ?_
 refine Stab.T 5 hf hok (fun _ _ h d => ad (Stab.vd 4 0 d []) (ad (cL h.ext c8) (ad (cL h.ext cf) (ad (cL h.ext ct0) (ad (cL h.ext ct1) (ad (cL h.ext cy) (ad (cL h.ext d1) (ad (cL h.ext d2) (ad (cL h.ext c9a) (cL h.ext c9b)))))))))) ?_
 refine Stab.mN 6 5 0 hf hok [] ?_
 refine Stab.Tg 7 hf hok (fun _ _ h d => Stab.vd 6 0 d []) (fun _ _ h d => ad (Stab.O h s8) (ad (cL h.ext c8) (ad (cL h.ext cf) (ad (cL h.ext ct0) (ad (cL h.ext ct1) (ad (cL h.ext cy) (ad (cL h.ext d1) (ad (cL h.ext d2) (ad (cL h.ext c9a) (cL h.ext c9b)))))))))) ?_
 refine Stab.Tg 8 hf hok (fun _ _ h d => Stab.vd 6 1 d []) (fun _ _ h d => ad (Stab.O h s3) (ad (cL h.ext c8) (ad (cL h.ext cf) (ad (cL h.ext ct0) (ad (cL h.ext ct1) (ad (cL h.ext cy) (ad (cL h.ext d1) (ad (cL h.ext d2) (ad (cL h.ext c9a) (cL h.ext c9b)))))))))) ?_
 apply Stab.tr 9 _ hf hok
 . (
 intro fr1 w1 hh hd hk K Z
 have s30 := Stab.v 6 2 hd hk []
 refine Stab.g s30 ?_
 have s31 := Stab.v 7 1 hd hk []
 have s32 := Stab.v 8 0 hd hk []
 clear hd
 replace c8 := cL hh.ext c8
 replace cf := cL hh.ext cf
 replace ct0 := cL hh.ext ct0
 replace ct1 := cL hh.ext ct1
 replace cy := cL hh.ext cy
 replace d1 := cL hh.ext d1
 replace d2 := cL hh.ext d2
 replace c9a := cL hh.ext c9a
 replace c9b := cL hh.ext c9b
 go_simp
 go_at_call 153; refine (less153 w1 u from_).mono ?_; rintro e w2 ⟨rfl, hww⟩
 subst hww
 rw [HLS.out]
 exact Stab.k Z)
 refine Stab.Tg 10 hf hok (fun _ _ h d => Stab.vd 6 3 d []) (fun _ _ h d => Stab.vd 9 0 d []) ?_
 refine Stab.T 11 hf hok (fun _ _ h d => ad (Stab.vd 6 4 d []) (Stab.vd 10 0 d [])) ?_
 refine Stab.mN 12 11 0 hf hok [] ?_
 refine Stab.Tg 13 hf hok (fun _ _ h d => Stab.vd 12 0 d []) (fun _ _ h d => ad (Stab.O h s5) (ad (cL h.ext c8) (ad (cL h.ext cf) (ad (cL h.ext ct0) (ad (cL h.ext ct1) (ad (cL h.ext cy) (ad (cL h.ext d1) (ad (cL h.ext d2) (ad (cL h.ext c9a) (cL h.ext c9b)))))))))) ?_
 refine Stab.Tg 14 hf hok (fun _ _ h d => Stab.vd 12 1 d []) (fun _ _ h d => ad (Stab.O h s8) (ad (cL h.ext c8) (ad (cL h.ext cf) (ad (cL h.ext ct0) (ad (cL h.ext ct1) (ad (cL h.ext cy) (ad (cL h.ext d1) (ad (cL h.ext d2) (ad (cL h.ext c9a) (cL h.ext c9b)))))))))) ?_
 refine Stab.Tg 15 hf hok (fun _ _ h d => Stab.vd 12 2 d []) (fun _ _ h d => ad (Stab.O h s9) (ad (cL h.ext c8) (ad (cL h.ext cf) (ad (cL h.ext ct0) (ad (cL h.ext ct1) (ad (cL h.ext cy) (ad (cL h.ext d1) (ad (cL h.ext d2) (ad (cL h.ext c9a) (cL h.ext c9b)))))))))) ?_
 refine Stab.Tg 16 hf hok (fun _ _ h d => Stab.vd 12 3 d []) (fun _ _ h d => Stab.O h s4) ?_
 refine Stab.Tg 17 hf hok (fun _ _ h d => Stab.vd 12 4 d []) (fun _ _ h d => ad (Stab.vd 16 0 d []) (ad (cL h.ext c8) (ad (cL h.ext cf) (ad (cL h.ext ct0) (ad (cL h.ext ct1) (ad (cL h.ext cy) (ad (cL h.ext d1) (ad (cL h.ext d2) (ad (cL h.ext c9a) (cL h.ext c9b)))))))))) ?_
 refine Stab.Tg 18 hf hok (fun _ _ h d => Stab.vd 12 5 d []) (fun _ _ h d => Stab.O h s0) ?_
 refine Stab.Tg 19 hf hok (fun _ _ h d => Stab.vd 12 6 d []) (fun _ _ h d => ad (Stab.vd 17 1 d []) (Stab.vd 18 0 d [])) ?_
 refine Stab.Tg 20 hf hok (fun _ _ h d => Stab.vd 12 7 d []) (fun _ _ h d => Stab.vd 19 0 d []) ?_
 refine Stab.Tg 21 hf hok (fun _ _ h d => Stab.vd 12 8 d []) (fun _ _ h d => ad (Stab.vd 20 0 d []) (ad (cL h.ext c8) (ad (cL h.ext cf) (ad (cL h.ext ct0) (ad (cL h.ext ct1) (ad (cL h.ext cy) (ad (cL h.ext d1) (ad (cL h.ext d2) (ad (cL h.ext c9a) (cL h.ext c9b)))))))))) ?_
 apply Stab.tr 22 _ hf hok
 . (
 intro fr1 w1 hh hd hk K Z
 have s36 := Stab.v 12 9 hd hk []
 refine Stab.g s36 ?_
 have s39 := Stab.v 15 6 hd hk []
 have s45 := Stab.v 21 0 hd hk []
 clear hd
 replace c8 := cL hh.ext c8
 replace cf := cL hh.ext cf
 replace ct0 := cL hh.ext ct0
 replace ct1 := cL hh.ext ct1
 replace cy := cL hh.ext cy
 replace d1 := cL hh.ext d1
 replace d2 := cL hh.ext d2
 replace c9a := cL hh.ext c9a
 replace c9b := cL hh.ext c9b
 go_simp
 go_at_call 113; refine (and113 w1 n st.out b hn hou).mono ?_; rintro e w2 ⟨rfl, hb⟩
 exact Z.out _ rfl _ _ hb rfl)
 refine Tail.todo_tailY 23 [(23, 0, [12, 9, 6, 5, 4, 3, 1]), (23, 1, [12, 9, 6, 5, 4, 3]), (23, 2, [12, 9, 6, 5, 4, 3]), (23, 3, [12, 9, 6, 5, 4]), (23, 4, [12, 9, 6, 5]), (23, 5, [12, 9, 6]), (23, 6, [12, 9]), (23, 7, [12, 9]), (23, 8, [12, 9]), (23, 9, [12]), (23, 10, [12, 11]), (23, 11, [12]), (23, 15, [22]), (23, 16, [22, 21, 20, 19, 17]), (23, 17, [22, 21, 20, 19]), (23, 18, [22, 21, 20, 19]), (23, 19, [22, 21, 20]), (23, 20, [22, 21]), (23, 21, [22]), (24, 0, [12, 9, 6, 5, 4, 3, 1]), (24, 1, [12, 9, 6, 5, 4, 3]), (24, 2, [12, 9, 6, 5, 4, 3]), (24, 3, [12, 9, 6, 5, 4]), (24, 4, [12, 9, 6, 5]), (24, 5, [12, 9, 6]), (24, 6, [12, 9]), (24, 7, [12, 9]), (24, 8, [12, 9]), (24, 9, [12]), (24, 10, [12, 11]), (24, 11, [12]), (24, 13, [23]), (24, 14, [23]), (24, 15, [23, 22]), (24, 16, [23, 22, 21, 20, 19, 17]), (24, 17, [23, 22, 21, 20, 19]), (24, 18, [23, 22, 21, 20, 19]), (24, 19, [23, 22, 21, 20]), (24, 20, [23, 22, 21]), (24, 21, [23, 22]), (24, 22, [23]), (25, 0, [12, 9, 6, 5, 4, 3, 1]), (25, 1, [12, 9, 6, 5, 4, 3]), (25, 2, [12, 9, 6, 5, 4, 3]), (25, 3, [12, 9, 6, 5, 4]), (25, 4, [12, 9, 6, 5]), (25, 5, [12, 9, 6]), (25, 6, [12, 9]), (25, 7, [12, 9]), (25, 8, [12, 9]), (25, 9, [12]), (25, 10, [12, 11]), (25, 11, [12]), (25, 13, [24, 23]), (25, 14, [24, 23]), (25, 15, [24, 23, 22]), (25, 16, [24, 23, 22, 21, 20, 19, 17]), (25, 17, [24, 23, 22, 21, 20, 19]), (25, 18, [24, 23, 22, 21, 20, 19]), (25, 19, [24, 23, 22, 21, 20]), (25, 20, [24, 23, 22, 21]), (25, 21, [24, 23, 22]), (25, 22, [24, 23]), (25, 23, [24])] hf hok (fun fr1 w1 hh hg => ?_)
 replace s0 := Stab.O hh s0
 replace s4 := Stab.O hh s4
 replace s6 := Stab.O hh s6
 replace s8 := Stab.O hh s8
 replace s9 := Stab.O hh s9
 replace s10 := Stab.O hh s10
 have s36 := Tail.got_is 12 10 hg rfl rfl rfl rfl rfl
 have s37 := Tail.got_is 13 9 hg rfl rfl rfl rfl rfl
 have s38 := Tail.got_is 14 8 hg rfl rfl rfl rfl rfl
 have s46 := Tail.got_is 22 0 hg rfl rfl rfl rfl rfl
 have hf1 := hh.fr hf
 have hx := hh.ext
 replace c8 := cL hx c8
 replace cf := cL hx cf
 replace ct0 := cL hx ct0
 replace ct1 := cL hx ct1
 replace cy := cL hx cy
 replace d1 := cL hx d1
 replace d2 := cL hx d2
 replace c9a := cL hx c9a
 replace c9b := cL hx c9b
 clear hg hh hf hok s3 s5 s23
 have hf := hf1; clear hf1
 obtain ⟨b47, b48⟩ := hf.B2 47 48
 replace hj := (hJ _).of_below hj hx
 replace hkc := hkc.trans (KC.below hFl hx)
 replace hp8 := (hx.block _ (heap_lt hp8)).trans hp8
 replace hp9 := (hx.block _ (heap_lt hp9)).trans hp9
 replace hp10 := (hx.block _ (heap_lt hp10)).trans hp10
 have hF2 := hkc.held hF0
 have hy := hY pre X _ hj hF2 hpx
 rw [hxa] at hy
 refine Inr.yieldG (r := none) (lp := L) hy (by simp [execOp, go_sem, s37, s38, s46]) (fun e W3 hz => ?_) s36
 obtain ⟨bt, rfl, hz2⟩ := yield_two hz
 refine ⟨_, rfl, ?_⟩
 clear hy hz
 refine Inr.ogI fun K Z => ?_
 go_simp
 apply Z.out; clear Z K
 refine Inr.fpI fun K Z => ?_
 go_simp
 apply Z.out; clear Z K
 refine Inr.nilI ?_
 refine Zq7 0 4 6 8 9 10 49 hf ?_
 clear hf s0 s4 s6 s8 s9 s10 s36 s37 s38 s46 b47 b48; intro fr1 hf sS
 refine Zx hK8 (Fact.cond_s sS.2.2.2.2.2.2 (fun hq3 => ?_) (fun hq3 => ?_))
 . (
 have hbt : bt = false := by simpa using hq3
 obtain ⟨h9, -⟩ | ⟨-, hjx, hck⟩ := hz2
 . (
 rw [hbt] at h9; cases h9)
 replace hkc := hkc.trans hck
 replace hp10 := hck.kept _ _ (by omega) (nE rfl) hp10
 have c10 := cR1 0 hp10
 simp at c10
 have f10 := frozen_of (i := 0) hp10
 refine Ze fun _ hK9 => Zr [] hf ?_
 refine Zq1 10 hf ?_
 clear hf sS; intro fr1 hf s10
 generalize hW5 : W3.setCell ⟨(W.heap.size + 1 + 1), 0, none⟩ (.bool false) = W5
 obtain ⟨h10, hgr, hsr⟩ := set_res hp10 hW5
 have hkc9 := hkc.turn hFl (g := (W.heap.size + 1 + 1)) (by omega) hM hgr
 refine Zx hK9 (Zret ?_)
 exact retMb (G := (W.heap.size + 1 + 1)) (S := fun V => (∃ s, s <+: T /\ Jx s V) /\ KC F M W V) (Stays.and (Stays.ex fun s => Stays.and (Stays.pure _ _ _) ((hJx s).mono (fun o h => .inl h) (by omega))) (KC.stays hFl (by omega) hM)) rfl hf s10 h10 (Nat.le_refl _) Tryz.isAgg4 Coll.nil0 ⟨⟨_, hpx, hsr _ _ (hJx _) (by omega) hjx⟩, hkc9⟩ (fun w' _ hs => .inr ⟨rfl, hs.1, hs.2⟩))
 . (
 have hbt : bt = true := by simpa using hq3
 obtain ⟨-, hj3, hck⟩ | ⟨h9, -⟩ := hz2; rotate_left; (rw [hbt] at h9; cases h9)
 replace hkc := hkc.trans hck
 replace hp8 := hck.kept _ _ (by omega) (nE rfl) hp8
 replace hp9 := hck.kept _ _ (by omega) (nE rfl) hp9
 replace hp10 := hck.kept _ _ (by omega) (nE rfl) hp10
 refine wp_skip (Fact.then_normal ?_)
 obtain ⟨s0, s4, s6, s8, s9, s10, s49⟩ := sS
 exact ⟨hf, s0, s4, s6, s8, s9, s10, by rw [hon]; exact hj3, hkc, hp8, hp9, hp10⟩)))
 . (
 clear hf sS
 clear hj hkc hp8 hp9 hp10 c8 cf
 rintro fr wq ⟨hf, s0, s4, s6, s8, s9, s10, hj, hkc, hp8, hp9, hp10⟩
 have hFq := hkc.held hF0
 obtain ⟨-, ct0, ct1, -, -, hrsq⟩ := hF hFq
 refine Ze fun _ hK10 => Ze fun _ hK11 => rg ?_
 have bB := hf.B2 50 51
 iterate 2 refine Zy ?_
 refine Zc (ways141 wq _ init k ss hrsq) ?_; rintro e W6 ⟨rfl, -, -, -, hb6, hq0, hq1⟩
 have hMq : M <= wq.heap.size := Nat.le_trans hM hkc.size
 have hWq := hkc.size
 replace hj := (hJ _).of_below hj hb6
 replace hkc := hkc.trans (KC.below hFl hb6)
 replace hp8 := (hb6.block _ (heap_lt hp8)).trans hp8
 replace hp9 := (hb6.block _ (heap_lt hp9)).trans hp9
 replace hp10 := (hb6.block _ (heap_lt hp10)).trans hp10
 have hF6 := hkc.held hF0
 obtain ⟨q6, hq6⟩ : ∃ x, wq.heap.size = x := ⟨_, rfl⟩
 rw [hq6] at hq0 hq1 hMq hWq |-
 have hl0 := heap_lt hq0; have hl1 := heap_lt hq1
 clear hq6 hrsq ct0 ct1
 refine Zv ?_
 refine Fact.nil (Zq5 6 8 9 10 52 hf ?_)
 clear hf s0 s4 s6 s8 s9 s10 bB; intro fr1 hf sS
 refine Zx hK11 (wp_block ?_)
 have hB6 := heap_lt hp10
 have hal := hfm _ _ hst
 have hmem := gM1 hst
 have hit := ways_iterG (9 - 1) q6 (q6 + 1) init k ss st (.slice A ss.length cc) W6 (KI F M W6.heap.size) (fun V => F V /\ V.heap[q6]? = some (.cells #[.slice A ss.length cc, .int .u64 init] 38 (0, 0)) /\ V.heap[q6 + 1]? = some (.cells #[.int .i64 k] 3 (0, 0))) (fun ⟨x, y, z⟩ => ⟨by have c := cR1 0 y; simpa using c, by have c := cR1 1 y; simpa using c, by have c := cR1 0 z; simpa using c, (hF x).2.2.2.2.2⟩) (fun hb ⟨x, y, z⟩ => ⟨hFl.below hb x, (hb.block _ (heap_lt y)).trans y, (hb.block _ (heap_lt z)).trans z⟩) (fun hk ⟨x, y, z⟩ => ⟨hk.held x, hk.kept _ _ hMq (.inl hl0) (nE rfl) y, hk.kept _ _ (by omega) (.inl hl1) (nE rfl) z⟩) (fun h => h.size) ⟨hF6, hq0, hq1⟩ hst (by omega) hal (Nat.le_trans (arcs_few hal (hok _ hmem)) (by omega)) (fun g cs hg hk hh => hk.kept g _ (by omega) (.inr rfl) (nE rfl) hh)
 refine (wpIn_wide (n := 9)).1 ?_
 refine wpIn_range (C := fun _ => False) (Fact.eval_tmp sS.2.2.2.2) (enters_of Tryz.func156 (by kernel_rfl) rfl) hit KI.trans (fun V o o' ho hc _ => KI.put hFl (by omega) (by omega) ho hc) (Below.refl _ _) (fun _ => rfl) (fun xs V => J (pre ++ own ++ xs.flatMap kf) V /\ KC F M W V /\ V.heap[W.heap.size]? = some (.cells #[.string u] 9 (0, 0)) /\ V.heap[(W.heap.size + 1)]? = some (.cells #[.int .u64 n, .bool b] 190 (0, 0)) /\ V.heap[(W.heap.size + 1 + 1)]? = some (.cells #[.bool false] 4 (0, 0))) (fun c _ V => c = .ret /\ (∃ s, s <+: T /\ Jx s V) /\ KC F M W V /\ V.heap[(W.heap.size + 1 + 1)]? = some (.cells #[.bool false] 4 (0, 0))) (fun s => Stays.and ((hJ _).mono (fun o h => h.elim .inl (fun x => x.elim)) (by omega)) (Stays.and (KC.stays hFl (by omega) hM) (Stays.and (Stays.block (.inl (by omega))) (Stays.and (Stays.block (.inl (by omega))) (Stays.block (.inl (by omega))))))) (fun c s => Stays.and (Stays.pure _ _ _) (Stays.and (Stays.ex fun s => Stays.and (Stays.pure _ _ _) ((hJx s).mono (fun o h => h.elim .inl (fun x => x.elim)) (by omega))) (Stays.and (KC.stays hFl (by omega) hM) (Stays.block (.inl (by omega)))))) ⟨by rw [List.flatMap_nil, List.append_nil]; exact hj, hkc, hp8, hp9, hp10⟩ (fun (x : Arc) a' V => ∃ Bx, (Fact.Fr 69 a' /\ a'.tmps[6]? = some (.pointer (some ⟨pb, 0, none⟩)) /\ a'.tmps[8]? = some (.pointer (some ⟨W.heap.size, 0, none⟩)) /\ a'.tmps[9]? = some (.pointer (some ⟨(W.heap.size + 1), 0, none⟩)) /\ a'.tmps[10]? = some (.pointer (some ⟨(W.heap.size + 1 + 1), 0, none⟩)) /\ a'.tmps[12]? = some (.int .u8 x.byte) /\ a'.tmps[13]? = some (.pointer (some ⟨Bx, 0, none⟩))) /\ (V.cell? ⟨Bx, 0, none⟩ = some (.int .i64 x.to) /\ V.cell? ⟨Bx, 1, none⟩ = some (.int .u64 x.out))) (fun x a' => Stays.ex fun Bx => Stays.and (Stays.pure _ _ _) (Stays.and Stays.cell Stays.cell)) ?_ ?_ ?_ ?_
 . (
 rintro l pre2 x V K ⟨hjV, hkV, e8, e9, e10⟩ hKK
 refine assign2 (M := fun a => Code.wpIn _ _ _ _ _ a _) hf rfl rfl rfl fun a1 hf1 h53 h54 hold => ?_
 obtain ⟨s6, s8, s9, s10, s52⟩ := sS
 have s6 := (hold 6 rfl rfl).trans s6; have s8 := (hold 8 rfl rfl).trans s8; have s9 := (hold 9 rfl rfl).trans s9; have s10 := (hold 10 rfl rfl).trans s10; have s53 := h53; have s54 := h54
 clear hold h53 h54
 have hf := hf1; clear hf1
 refine wpIn_seq_k (fun _ iK12 => ?_)
 refine Inr.rgI (r := some l) ?_
 refine Inr.fpI fun K Z => ?_
 go_simp
 apply Z.out; clear Z K
 refine Inr.nilI ?_
 refine Zq6 6 8 9 10 12 54 hf ?_
 clear hf s6 s8 s9 s10 s53 s54; intro fr1 hf sS
 refine nx (iK12 _ _ ?_)
 obtain ⟨s6, s8, s9, s10, s12, s54⟩ := sS
 refine Inr.rgI (r := some l) ?_
 have b13 := hf.b 13
 refine Inr.fpI fun K Z => ?_
 go_simp
 apply Z.out; clear Z K
 refine Inr.fpI fun K Z => ?_
 go_simp
 apply Z.out; clear Z K
 refine Inr.nilI ?_
 refine Zq6 6 8 9 10 12 13 hf ?_
 clear hf s6 s8 s9 s10 s12 s54 b13; intro fr1 hf sS
 refine Fact.then_normal ?_
 generalize hW7 : V.alloc (.cells #[.int .i64 x.to, .int .u64 x.out] 233) = W7
 obtain ⟨hb7, b0, b1, -, -⟩ := box2 hW7
 have kb := KC.below hFl hb7
 obtain ⟨s6, s8, s9, s10, s12, s13⟩ := sS
 exact hKK _ _ ((keeps_belowD hb7).from _) kb.ki ⟨(hJ _).of_below hjV hb7, hkV.trans kb, (hb7.block _ (heap_lt e8)).trans e8, (hb7.block _ (heap_lt e9)).trans e9, (hb7.block _ (heap_lt e10)).trans e10⟩ ⟨_, ⟨hf, s6, s8, s9, s10, s12, s13⟩, b0, b1⟩)
 . (
 clear hf sS
 rintro l pre2 x a1 V hl _ ⟨hjV, hkV, e8, e9, e10⟩ ⟨Bx, ⟨hf, s6, s8, s9, s10, s12, s13⟩, z0, z1⟩ hpre
 have hxm : x ∈ st.arcs := hpre.subset (by simp)
 have hxt := okArcs_to hal hxm
 obtain ⟨c, hc⟩ : ∃ c : Nat, x.to = (c : Int) := ⟨x.to.toNat, by omega⟩
 rw [hc] at z0
 have hck : c < k := by omega
 have hou := ((hok _ hmem).2.2 x hxm).2.1
 obtain ⟨n2, hn2⟩ : ∃ y, (n + x.out) % M64 = y := ⟨_, rfl⟩
 obtain ⟨b2, hb2⟩ : ∃ y, (b && decide (n + x.out < M64)) = y := ⟨_, rfl⟩
 have hn2l : n2 < M64 := by rw [<- hn2]; exact Nat.mod_lt _ (by decide)
 obtain ⟨u2, hu2⟩ : ∃ y, u ++ bl [x.byte] = y := ⟨_, rfl⟩
 have hu2s : u2.size = u.size + 1 := by rw [<- hu2, ByteArray.size_append]; rfl
 have hkx : kf x = walkS ss (wl from_) f c u2 n2 b2 := by rw [<- HKF.out, kidW, hn2, hb2, hu2, hc, Int.toNat_natCast]
 have hTx : (pre ++ own ++ pre2.flatMap kf) ++ kf x <+: T := (pre_flat kf hpre).trans hT
 have hFV := hkV.held hF0
 obtain ⟨-, -, -, -, cb, -⟩ := hF hFV
 have c8 := cR1 0 e8; have c9a := cR1 0 e9; have c9b := cR1 1 e9
 simp at c8 c9a c9b
 have ebh : ∀ args w, (callFunc 152 args).run Tryz.prog w = .ok (.enter 152 args) w := enters_of Tryz.func152 (by kernel_rfl) rfl
 have hbs : (bl [x.byte]).size = 1 := by rw [bl_size]; rfl
 have HBS := Lib.hid hbs; clear hbs
 have HN2 := Lib.hid hn2; have HB2 := Lib.hid hb2; have HU2 := Lib.hid hu2; have HC := Lib.hid hc; have HKX := Lib.hid hkx; clear hn2 hb2 hu2 hc hkx
 refine wpIn_block ?_
 refine wpIn_seq_k (fun _ iK13 => ?_)
 refine Inr.drawnB (r := some l) (k := 69) (fun ⟨_, _, h⟩ => h) (Stab.OkOps.of (by kernel_rfl)) (fun hok => ?_)
 refine Stab.T 0 hf hok (fun _ _ h d => ad (Stab.O h s6) (ad (cL h.ext z0) (ad (cL h.ext z1) (ad (cL h.ext c8) (ad (cL h.ext c9a) (ad (cL h.ext c9b) (cL h.ext cb))))))) ?_
 refine Stab.T 1 hf hok (fun _ _ h d => Stab.O h s13) ?_
 refine Stab.T 2 hf hok (fun _ _ h d => ad (Stab.vd 1 0 d []) (ad (cL h.ext z0) (ad (cL h.ext z1) (ad (cL h.ext c8) (ad (cL h.ext c9a) (ad (cL h.ext c9b) (cL h.ext cb))))))) ?_
 refine Stab.T 3 hf hok (fun _ _ h d => ad (Stab.O h s8) (ad (cL h.ext z0) (ad (cL h.ext z1) (ad (cL h.ext c8) (ad (cL h.ext c9a) (ad (cL h.ext c9b) (cL h.ext cb))))))) ?_
 refine Stab.mO 4 s12 hf hok ?_
 refine Stab.todo_op (k := 5) (n := 69) (fun v V => ∃ g, v = .slice (some ⟨g, 0, none⟩) 1 1 /\ V.cell? ⟨g, 0, none⟩ = some (.int .u8 x.byte)) hf.size hok.out rfl (fun v V V2 hb ⟨g, h1, h2⟩ => ⟨g, h1, cL hb h2⟩) ?_ ?_
 . (
 intro fr1 w1 hh hd hk K Z
 refine Stab.pl ?_
 have s59 := Stab.v 4 0 hd hk []
 clear hd
 go_simp
 exact Z.out _ rfl _ _ ((Below.refl _ _).alloc (Nat.le_refl _) _) ⟨_, rfl, by simpa using cR1 0 (heap_alloc_new w1 _)⟩)
 apply Stab.tq 6 _ hf hok
 . (
 intro fr1 w1 hh hd hk K Z
 obtain ⟨x60, s60, hp60⟩ := Stab.use (j := 5) (m := 0) hd hk rfl [] (by kernel_rfl) rfl rfl rfl
 obtain ⟨gx, hv60, hq60⟩ := hp60
 subst hv60
 clear hd
 have hcv := conv_b1 w1 gx x.byte hq60
 go_simp
 exact Stab.k Z)
 apply Stab.tq 7 _ hf hok
 . (
 intro fr1 w1 hh hd hk K Z
 have s58 := Stab.v 3 3 hd hk []
 have s61 := Stab.v 6 0 hd hk []
 clear hd
 go_simp
 try simp (disch := omega) only [Fact.W]
 rw [if_neg (by rw [HBS.out]; omega), HU2.out, Oper.upon_value]
 exact Stab.k Z)
 refine Stab.T 8 hf hok (fun _ _ h d => ad (Stab.O h s9) (ad (cL h.ext z0) (ad (cL h.ext z1) (ad (cL h.ext c8) (ad (cL h.ext c9a) (ad (cL h.ext c9b) (cL h.ext cb))))))) ?_
 refine Stab.T 9 hf hok (fun _ _ h d => Stab.O h s13) ?_
 refine Stab.T 10 hf hok (fun _ _ h d => ad (Stab.vd 9 0 d []) (ad (cL h.ext z0) (ad (cL h.ext z1) (ad (cL h.ext c8) (ad (cL h.ext c9a) (ad (cL h.ext c9b) (cL h.ext cb))))))) ?_
 apply Stab.tq 11 _ hf hok
 . (
 intro fr1 w1 hh hd hk K Z
 have s63 := Stab.v 8 2 hd hk []
 have s65 := Stab.v 10 0 hd hk []
 clear hd
 replace z0 := cL hh.ext z0
 replace z1 := cL hh.ext z1
 replace c8 := cL hh.ext c8
 replace c9a := cL hh.ext c9a
 replace c9b := cL hh.ext c9b
 replace cb := cL hh.ext cb
 go_simp
 go_at_call 113; refine (and113 w1 n x.out b hn hou).mono ?_; rintro e w2 ⟨rfl, hb⟩
 rw [HN2.out, HB2.out]
 exact Z.out _ rfl _ _ hb rfl)
 refine Tail.todo_tail (n := 69) (m := 12) (ws := [(12, 1, [2]), (12, 3, [7]), (12, 4, [7, 6, 5]), (12, 5, [7, 6]), (12, 6, [7]), (12, 8, [11]), (12, 9, [11, 10]), (12, 10, [11]), (13, 0, [12]), (13, 1, [12, 2]), (13, 2, [12]), (13, 3, [12, 7]), (13, 4, [12, 7, 6, 5]), (13, 5, [12, 7, 6]), (13, 6, [12, 7]), (13, 7, [12]), (13, 8, [12, 11]), (13, 9, [12, 11, 10]), (13, 10, [12, 11]), (13, 11, [12])]) (by kernel_rfl) hf.size hok.out rfl rfl (by kernel_rfl) (fun fr1 w1 hh hg => ?_)
 replace s10 := Stab.O hh s10
 have s55 := Tail.got_is 0 11 hg rfl rfl rfl rfl rfl
 have s57 := Tail.got_is 2 9 hg rfl rfl rfl rfl rfl
 have s62 := Tail.got_is 7 4 hg rfl rfl rfl rfl rfl
 have s66 := Tail.got_is 11 0 hg rfl rfl rfl rfl rfl
 have hf1 := hh.fr hf
 have hx := hh.ext
 replace z0 := cL hx z0
 replace z1 := cL hx z1
 replace c8 := cL hx c8
 replace c9a := cL hx c9a
 replace c9b := cL hx c9b
 replace cb := cL hx cb
 clear hg hh hf hok s6 s8 s9 s12 s13
 have hf := hf1; clear hf1
 have b67 := hf.b 67
 refine Tail.seq_op rfl rfl (fun K Z => ?_)
 have hjx := (hJ _).of_below hjV hx; have hkx2 := hkV.trans (KC.below hFl hx)
 refine call_wp (g := 152) (args := #[.int .i64 c, .string u2, .agg #[.int .u64 n2, .bool b2], .pointer (some ⟨pf, 0, none⟩), .pointer (some ⟨pt, 0, none⟩), .pointer (some ⟨py, 0, none⟩), .pointer (some ⟨pb, 0, none⟩)]) (by simp [execOp, go_sem, s55, s57, s62, s66, ebh]) (IH c w1 u2 n2 b2 (pre ++ own ++ pre2.flatMap kf) hck (by have := hkx2.size; omega) (hkx2.held hF0) hjx (by rw [<- HKX.out]; exact hTx) hn2l (by omega)) ?_
 rintro e W2 hR
 obtain ⟨bt, rfl, hz2⟩ := rb_two hR
 refine ⟨_, rfl, ?_⟩
 clear hR
 apply Z.out; clear Z K
 refine Tail.seq_op rfl rfl (fun K Z => ?_)
 go_simp
 apply Z.out; clear Z K
 refine Tail.seq_nil rfl ?_
 refine Zq2 10 68 hf ?_
 clear hf s10 s55 s57 s62 s66 b67; intro fr1 hf sS
 refine nx (iK13 _ _ ?_)
 refine wpIn_cond_split (Fact.eval_tmp sS.2) (fun hq5 => ?_) (fun hq5 => ?_)
 . (
 have hbt : bt = false := by simpa using hq5
 obtain ⟨h9, -⟩ | ⟨-, hjs, hkR⟩ := hz2
 . (
 rw [hbt] at h9; cases h9)
 have hkA := (KC.below hFl hx).trans hkR
 have hp10 := hkA.kept _ _ (by omega) (nE rfl) e10
 have c10 := cR1 0 hp10
 simp at c10
 have f10 := frozen_of (i := 0) hp10
 refine wpIn_seq_k (fun _ iK14 => ?_)
 obtain ⟨s10, s68⟩ := sS
 refine Inr.rgI (r := some l) ?_
 refine Inr.fpI fun K Z => ?_
 go_simp
 apply Z.out; clear Z K
 refine Inr.nilI ?_
 refine Zq1 10 hf ?_
 clear hf s10 s68; intro fr1 hf s10
 generalize hW9 : W2.setCell ⟨(W.heap.size + 1 + 1), 0, none⟩ (.bool false) = W9
 obtain ⟨h10, hgr, hsr⟩ := set_res hp10 hW9
 refine nx (iK14 _ _ ?_)
 refine wpIn_ret ?_
 refine Fact.block_ret ?_
 exact ⟨(hkA.from (by omega)).trans (KeepsFrom.of_grownBy hgr (fun j e => by cases e; omega)), hkA.ki.trans (KI.res hFl (by omega) hp10 h10 hgr), rfl, (by obtain ⟨s, h1, h2⟩ := hjs; exact ⟨s, h1, hsr _ _ (hJx s) (by omega) h2⟩), (hkV.trans hkA).turn hFl (g := (W.heap.size + 1 + 1)) (by omega) hM hgr, h10⟩)
 . (
 have hbt : bt = true := by simpa using hq5
 obtain ⟨-, hjs, hkR⟩ | ⟨h9, -⟩ := hz2; rotate_left; (rw [hbt] at h9; cases h9)
 refine wpIn_skip ?_
 refine Fact.block_normal ?_
 have hkA := (KC.below hFl hx).trans hkR
 exact ⟨hkA.from (by omega), hkA.ki, by rw [List.flatMap_append, List.flatMap_singleton, <- List.append_assoc, HKX.out]; exact hjs, hkV.trans hkA, hkA.kept _ _ (by omega) (nE rfl) e8, hkA.kept _ _ (by omega) (nE rfl) e9, hkA.kept _ _ (by omega) (nE rfl) e10⟩))
 . (
 rintro D xs V hD rfl ⟨hjV, hkV, e8, e9, e10⟩ hDh
 refine Fact.reQ (n := 69) (ds := [{ target := .collected D, args := #[] }]) hf.size (by rw [hf.defers]) (fun fr2 hf2 hT2 => ?_)
 obtain ⟨s6, s8, s9, s10, s52⟩ := sS
 have s10 := (hT2 10).trans s10
 clear hT2 hf hj hp8 hp9 hp10
 have hf := hf2; clear hf2
 replace hkc := hkV
 have hp10 := e10
 have c10 := cR1 0 hp10
 simp at c10
 have f10 := frozen_of (i := 0) hp10
 refine Fact.block_normal (Zs hK10 fun _ hK15 => Zr [] hf ?_)
 refine Zq1 10 hf ?_
 clear hf s10; intro fr1 hf s10
 generalize hW9 : V.setCell ⟨(W.heap.size + 1 + 1), 0, none⟩ (.bool true) = W9
 obtain ⟨h10, hgr, hsr⟩ := set_res hp10 hW9
 have hkc9 := hkc.turn hFl (g := (W.heap.size + 1 + 1)) (by omega) hM hgr
 refine Zx hK15 (Zret ?_)
 exact retMb (G := (W.heap.size + 1 + 1)) (S := fun V => J (pre ++ res) V /\ KC F M W V) (Stays.and ((hJ _).mono (fun o h => .inl h) (by omega)) (KC.stays hFl (by omega) hM)) rfl hf s10 h10 (Nat.le_refl _) Tryz.isAgg4 (Coll.one (by omega) hgr hDh) ⟨by rw [HR.out, <- List.append_assoc]; exact hsr _ _ (hJ _) (by omega) hjV, hkc9⟩ (fun w' _ hs => .inl ⟨rfl, hs.1, hs.2⟩))
 . (
 rintro D c2 pre2 V hD _ ⟨rfl, hjs, hkc9, h10⟩ hDh
 refine (wpIn_wide (n := 9)).2 ?_
 refine Fact.re (n := 69) (ds := [{ target := .collected D, args := #[] }]) hf.size (by rw [hf.defers]) (fun fr2 hf2 hT2 => ?_)
 obtain ⟨s6, s8, s9, s10, s52⟩ := sS
 have s10 := (hT2 10).trans s10
 clear hT2 hf
 have hf := hf2; clear hf2
 refine Zret ?_
 exact retMb (G := (W.heap.size + 1 + 1)) (S := fun V => (∃ s, s <+: T /\ Jx s V) /\ KC F M W V) (Stays.and (Stays.ex fun s => Stays.and (Stays.pure _ _ _) ((hJx s).mono (fun o h => .inl h) (by omega))) (KC.stays hFl (by omega) hM)) rfl hf s10 h10 (Nat.le_refl _) Tryz.isAgg4 (Coll.one0 (by omega) hDh) ⟨hjs, hkc9⟩ (fun w' _ hs => .inr ⟨rfl, hs.1, hs.2⟩))))
end Dw
end Go.Proofs.YtcddnmhmcieebaaGreatDoor
