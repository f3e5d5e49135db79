/- fst: found of numbers. -/
import Derived.Test.YtcddnmhmcieebaaGreatDoorY20
import Derived.Test.YtcddnmhmcieebaaGreatDoorTools
namespace Go.Proofs.YtcddnmhmcieebaaGreatDoor
open Go.RowKit
set_option linter.unusedSimpArgs false
set_option linter.unusedVariables false
set_option linter.unnecessarySimpa false
namespace Dw
theorem zero_ints (n : Nat) : madeCells #[.int .i64 0] n = Array.replicate n (Value.int .i64 0) := by
 refine Array.ext (by rw [size_madeCells]; simp) fun k h1 h2 => ?_
 simp [madeCells, Nat.mod_one]
theorem make_ints (w : World) (n : Nat) (hn : n <= 10000000) : (Instr.makeSlice 202 (.int .i64 n) (.int .i64 n)).run Tryz.prog w = .ok (.slice (some ⟨w.heap.size, 0, none⟩) n n) (w.alloc (.cells (Array.replicate n (Value.int .i64 0)) 3)) := by
 obtain ⟨i, hi, h2⟩ := Option.map_eq_some_iff.1 (show (Tryz.prog.info? 3).map (fun i => (i.zero, i.size, i.bytes)) = some (some (.int .i64 0), 1, 8) by kernel_rfl)
 obtain ⟨h3, h4, h5⟩ := (by simpa only [Prod.mk.injEq] using h2 : _ /\ _ /\ _)
 have h := run_makeSlice (P := Tryz.prog) w 202 3 i _ Tryz.underlying202 hi h3 .i64 .i64 n n (by omega) (Int.le_refl _) (by rw [h4]; omega) (by rw [h5]; omega) (by omega)
 have e : (Value.int .i64 0).cells = #[.int .i64 0] := rfl
 rw [h4, e, Int.toNat_natCast, Nat.mul_one, zero_ints] at h
 exact h
theorem boxes4T {w W : World} {a b c d : Array Value} {t u v x : TypeId} (h : (((w.alloc (.cells a t)).alloc (.cells b u)).alloc (.cells c v)).alloc (.cells d x) = W) : Below w.heap.size w W /\ W.heap[w.heap.size]? = some (.cells a t (0, 0)) /\ W.heap[w.heap.size + 1]? = some (.cells b u (0, 0)) /\ W.heap[w.heap.size + 1 + 1]? = some (.cells c v (0, 0)) /\ W.heap[w.heap.size + 1 + 1 + 1]? = some (.cells d x (0, 0)) /\ W.heap.size = w.heap.size + 1 + 1 + 2 := by
 subst h
 refine ⟨((((Below.refl _ _).alloc (Nat.le_refl _) _).alloc (by simp) _).alloc (by simp; omega) _).alloc (by simp; omega) _, ?_, ?_, ?_, ?_, by simp⟩
 ·rw [heap_get, if_neg (by simp; omega), heap_get, if_neg (by simp; omega), heap_get, if_neg (by simp), heap_get, if_pos rfl]
 ·rw [heap_get, if_neg (by simp), heap_get, if_neg (by simp), heap_get, if_pos (by simp)]
 ·rw [heap_get, if_neg (by simp), heap_get, if_pos (by simp)]
 ·rw [heap_get, if_pos (by simp)]
def RI (w : World) (G : Nat) (l : List Int) : Prop := w.heap[G]? = some (.cells (l.map (Value.int .i64)).toArray 3 (0, 0))
theorem RI.start {w : World} {G n : Nat} {o : State -> Int} {wi : Int -> Int -> Nat -> Int} {ss : List State} (h : w.heap[G]? = some (.cells (Array.replicate n (Value.int .i64 0)) 3 (0, 0))) : RI w G (padV 0 n (foundV 0 o wi (ss.take 0))) := by
 have e : padV (0 : Int) n (foundV 0 o wi (ss.take 0)) = List.replicate n 0 := by simp [padV, foundV]
 rw [e]
 unfold RI
 rw [List.map_replicate, List.toArray_replicate]
 exact h
theorem RI.cell {w : World} {G j : Nat} {x : Int} {l : List Int} (h : RI w G l) (hx : l[j]? = some x) : w.cell? ⟨G, j, none⟩ = some (.int .i64 x) := by
 have hc := cell_of_row _ _ j _ 3 (0, 0) h
 rw [hc]
 simp [hx]
theorem RI.frozen {w : World} {G j : Nat} {l : List Int} (h : RI w G l) : w.frozen? ⟨G, j, none⟩ = false := frozen_of (i := j) h
theorem RI.lt {w : World} {G : Nat} {l : List Int} (h : RI w G l) : G < w.heap.size := heap_lt h
theorem RI.later {w w' : World} {G : Nat} {l : List Int} (h : RI w G l) (hb : Below w.heap.size w w') : RI w' G l := (hb.block _ (heap_lt h)).trans h
theorem RI.stays {G B : Nat} {l : List Int} (hG : G < B) : Stays (Beside fun _ => False) B (fun W => RI W G l) := Stays.block (.inl hG)
theorem RI.set {w W : World} {G i : Nat} {l : List Int} {x : Int} (h : RI w G l) (hW : w.setCell ⟨G, i, none⟩ (.int .i64 x) = W) : RI W G (l.set i x) := by
 subst hW
 have h2 := set_block (i := i) h (.int .i64 x)
 unfold RI
 rw [h2, List.map_set]
 simp
theorem set1 {w W : World} {G i : Nat} {v : Value} (h : w.setCell ⟨G, i, none⟩ v = W) : CK G w W /\ KeepsOthers w W /\ (∀ B, B <= G -> Below B w W) /\ W.heap.size = w.heap.size /\ ∀ k, k ≠ G -> W.heap[k]? = w.heap[k]? := by
 subst h
 exact ⟨(CK.refl G w).set (p := ⟨G, i, none⟩) rfl _, KeepsOthers.setCell _ _ _, fun B hB => (Below.refl B w).setCell (p := ⟨G, i, none⟩) hB _, by simp [World.setCell], fun k hk => Below.heap_setCell _ _ _ _ hk⟩
set_option maxHeartbeats 4000000 in
set_option maxRecDepth 100000 in
theorem found105 {g1 g2 : Nat} (o : State -> Int) (wi : Int -> Int -> Nat -> Int) (w : World) (sv : Value) (init : Nat) (ss : List State) (hrs : RS w sv ss) (hlen : ss.length <= 1000000) (Ok : Nat -> Int -> Prop) (eg1 : ∀ args w, (callFunc g1 args).run Tryz.prog w = .ok (.enter g1 args) w) (eg2 : ∀ args w, (callFunc g2 args).run Tryz.prog w = .ok (.enter g2 args) w)
    (ho : ∀ i st, ss[i]? = some st -> Ok i (o st)) (hw : ∀ i j x c u, Ok i x -> j < i -> Ok j c -> u < 18446744073709551616 -> Ok i (wi x c u)) (hok : ∀ s ∈ ss, okS s) (hfm : ∀ (k : Nat) (st : State), ss[k]? = some st -> okArcs k (-1) st.arcs = true)
    (hown : ∀ (W : World) (av : Value) (i : Nat) (st : State), ss[i]? = some st -> (∃ A n c, av = .slice A n c) -> Calls Tryz.prog g1 #[.agg #[av, .bool st.final, .int .u64 st.out]] W fun e W' => e = .returned (.int .i64 (o st)) /\ Below W.heap.size W W')
    (hwith : ∀ (W : World) (i j : Nat) (x c : Int) (u : Nat), Ok i x -> j < i -> Ok j c -> u < 18446744073709551616 -> Calls Tryz.prog g2 #[.int .i64 (x), .int .i64 (c), .int .u64 u] W fun e W' => e = .returned (.int .i64 ((wi x c u))) /\ Below W.heap.size W W') : Calls Tryz.prog 105 #[.agg #[sv, .int .u64 init], .func (.func g1) #[] #[], .func (.func g2) #[] #[]] w fun e w1 => e = .returned (.int .i64 (((foundV 0 o wi ss).getLastD 0))) /\ Below w.heap.size w w1 := by
 refine enterM Tryz.func105 rfl ?_
 refine Fact.en 62 fun fr hf hT => ?_
 have s0 := hT 0 _ rfl
 have s1 := hT 1 _ rfl
 have s2 := hT 2 _ rfl
 clear hT
 obtain ⟨A, cc, rfl, hcc⟩ := hrs.form
 have hmk := fun w => make_ints w ss.length (by omega)
 refine Ze fun _ hK1 => Zr [] hf ?_
 refine Zq4 1 3 5 6 hf ?_
 clear hf s0 s1 s2; intro fr1 hf sS
 refine Zs hK1 fun _ hK2 => Zr [12, 13, 14, 15, 7] hf ?_
 refine Zq5 1 3 5 6 7 hf ?_
 clear hf sS; intro fr1 hf sS
 generalize hW1 : (((w.alloc (.cells #[.slice A ss.length cc, .int .u64 init] 38)).alloc (.cells #[.func (.func g2) #[] #[]] 188)).alloc (.cells (Array.replicate ss.length (Value.int .i64 0)) 3)).alloc (.cells #[.slice (some ⟨w.heap.size + 1 + 1, 0, none⟩) ss.length ss.length] 202) = W1
 obtain ⟨hb1, hp0, hp1, hp2, hp3, hz1⟩ := boxes4T hW1
 clear hW1 hmk
 obtain ⟨G, hG⟩ : ∃ x, w.heap.size + 1 + 1 = x := ⟨_, rfl⟩
 obtain ⟨s1, s3, s5, s6, s7⟩ := sS
 rw [hG] at hp2 hp3 s7 hz1
 have hg0 : w.heap.size < G := by omega
 have hg1 : w.heap.size + 1 < G := by omega
 have c0 := cR1 0 hp0; have c1 := cR1 1 hp0; have d0 := cR1 0 hp1; have e0 := cR1 0 hp3
 simp at c0 c1 d0 e0
 have hri : RI W1 G (padV 0 ss.length (foundV 0 o wi (ss.take 0))) := RI.start hp2
 have hrn := hrs.n.below hb1
 clear hp0 hp1 hp2 hp3 hrs hG
 refine Zs hK2 fun _ hK3 => Ze fun _ hK4 => Zr [16, 17] hf ?_
 refine Zq8 1 3 5 6 7 17 18 19 hf ?_
 clear hf s1 s3 s5 s6 s7; intro fr1 hf sS
 refine Zx hK4 (wp_block (wp_loop_ghost (fun gk fr wr => ∃ (i : Nat) (ds : List Deferred), gk = ss.length - i /\ i <= ss.length /\ Fact.FrD ds 62 fr /\ fr.tmps[1]? = some (.func (.func g1) #[] #[]) /\ fr.tmps[3]? = some (.pointer (some ⟨w.heap.size, 0, none⟩)) /\ fr.tmps[5]? = some (.pointer (some ⟨(w.heap.size + 1), 0, none⟩)) /\ fr.tmps[6]? = some (.int .i64 0) /\ fr.tmps[7]? = some (.pointer (some ⟨(G + 1), 0, none⟩)) /\ fr.tmps[17]? = some (.slice A ss.length cc) /\ fr.tmps[18]? = some (.int .i64 ss.length) /\ fr.tmps[19]? = some (.int .i64 i) /\ Coll G ds wr.heap.size wr /\ CK G W1 wr /\ RI wr G (padV 0 ss.length (foundV 0 o wi (ss.take i))) /\ RSN wr w.heap.size (.slice A ss.length cc) ss /\ Below w.heap.size w wr) (ss.length) ?_ ?_))
 . (
 obtain ⟨s1, s3, s5, s6, s7, s17, s18, s19⟩ := sS
 exact ⟨0, [], rfl, Nat.zero_le _, hf, s1, s3, s5, s6, s7, s17, s18, s19, trivial, CK.refl _ _, hri, hrn, hb1⟩)
 . (
 clear hf sS
 clear hri hrn
 rintro gk fr wr ⟨i, ds, hk9, hi, hf, s1, s3, s5, s6, s7, s17, s18, s19, hcl, hck, hri, hrn, hb⟩
 have HK := Lib.hid hk9; clear hk9
 refine Ze fun _ hK5 => Zr [] hf ?_
 refine Zq9 1 3 5 6 7 17 18 19 20 hf ?_
 clear hf s1 s3 s5 s6 s7 s17 s18 s19; intro fr1 hf sS
 refine Zs hK5 fun _ hK6 => Fact.cond_s sS.2.2.2.2.2.2.2.2 (fun hq => ?_) (fun hq => ?_)
 . (
 have hlt : i < ss.length := by have h9 := of_decide_eq_true hq; omega
 clear hq
 obtain ⟨st, hst⟩ : ∃ x, ss[i]? = some x := ⟨_, gE1 hlt⟩
 obtain ⟨bb, off, av, hA0, hbN, hat⟩ := hrn.at_ hst
 subst hA0
 have x0 := hat.c0; have x1 := hat.c1; have x2 := hat.c2
 obtain ⟨A2, c2, hav, hc2⟩ := hat.arcs.form
 subst hav
 clear hat
 have hsz := hck.1
 refine wp_skip (Zs hK6 fun _ hK7 => wp_block (Ze fun _ hK8 => Zr [21, 22, 23, 8, 9] hf ?_))
 refine Zq14 1 3 5 6 7 8 9 17 18 19 20 21 22 23 hf ?_
 clear hf sS; intro fr1 hf sS
 generalize hW4 : (wr.alloc (.cells #[.int .i64 i] 3)).alloc (.cells #[.slice A2 st.arcs.length c2, .bool st.final, .int .u64 st.out] 46) = W4
 obtain ⟨hb4, hp4, hp5⟩ := two_boxesT hW4
 clear hW4 x0 x1 x2
 have k0 := cR1 0 hp4; have y0 := cR1 0 hp5; have y1 := cR1 1 hp5; have y2 := cR1 2 hp5
 simp at k0 y0 y1 y2
 clear hp4 hp5
 replace hck := hck.trans (CK.of_below hb4)
 replace hcl := hcl.below hb4.size hb4
 replace hri := hri.later hb4
 replace hrn := hrn.below (hb4.mono hb.size)
 replace hb := hb.trans (hb4.mono hb.size)
 have e0w := hck.2.1 _ _ (by simp only; omega) e0
 obtain ⟨q8, hq8⟩ : ∃ x, wr.heap.size = x := ⟨_, rfl⟩
 have hq8G : G < q8 := by rw [<- hq8]; omega
 obtain ⟨s1, s3, s5, s6, s7, s8, s9, s17, s18, s19, s20, s21, s22, s23⟩ := sS
 rw [hq8] at s8 s9 k0 y0 y1 y2 hsz
 refine Zs hK8 fun _ hK9 => Stab.tb 62 fun hok => ?_
 refine Stab.T 0 hf hok (fun _ _ h d => ad (Stab.O h s7) (ad (cL h.ext e0w) (ad (cL h.ext k0) (ad (cL h.ext y0) (ad (cL h.ext y1) (cL h.ext y2)))))) ?_
 refine Stab.T 1 hf hok (fun _ _ h d => ad (Stab.O h s8) (ad (cL h.ext e0w) (ad (cL h.ext k0) (ad (cL h.ext y0) (ad (cL h.ext y1) (cL h.ext y2)))))) ?_
 refine Stab.mO 2 s1 hf hok ?_
 refine Stab.T 3 hf hok (fun _ _ h d => ad (Stab.O h s9) (ad (cL h.ext e0w) (ad (cL h.ext k0) (ad (cL h.ext y0) (ad (cL h.ext y1) (cL h.ext y2)))))) ?_
 apply Stab.tq 4 _ hf hok
 . (
 intro fr1 w1 hh hd hk K Z
 have s26 := Stab.v 2 1 hd hk []
 have s27 := Stab.v 3 0 hd hk []
 clear hd
 replace e0w := cL hh.ext e0w
 replace k0 := cL hh.ext k0
 replace y0 := cL hh.ext y0
 replace y1 := cL hh.ext y1
 replace y2 := cL hh.ext y2
 refine call_wp (g := g1) (args := #[.agg #[.slice A2 st.arcs.length c2, .bool st.final, .int .u64 st.out]]) (by simp [execOp, go_sem, s26, s27, eg1]) (hown _ _ _ _ hst ⟨_, _, _, rfl⟩) ?_
 rintro e w2 ⟨rfl, hb⟩
 exact ⟨_, rfl, Z.out _ rfl _ _ hb rfl⟩)
 refine Tail.todo_tail (n := 62) (m := 5) (ws := []) (by kernel_rfl) hf.size hok.out rfl rfl (by kernel_rfl) (fun fr1 w1 hh hg => ?_)
 replace s1 := Stab.O hh s1
 replace s3 := Stab.O hh s3
 replace s5 := Stab.O hh s5
 replace s6 := Stab.O hh s6
 replace s7 := Stab.O hh s7
 replace s8 := Stab.O hh s8
 replace s9 := Stab.O hh s9
 replace s17 := Stab.O hh s17
 replace s18 := Stab.O hh s18
 replace s19 := Stab.O hh s19
 replace s20 := Stab.O hh s20
 replace s21 := Stab.O hh s21
 replace s22 := Stab.O hh s22
 replace s23 := Stab.O hh s23
 have s24 := Tail.got_is 0 4 hg rfl rfl rfl rfl rfl
 have s25 := Tail.got_is 1 3 hg rfl rfl rfl rfl rfl
 have s26 := Tail.got_is 2 2 hg rfl rfl rfl rfl rfl
 have s27 := Tail.got_is 3 1 hg rfl rfl rfl rfl rfl
 have s28 := Tail.got_is 4 0 hg rfl rfl rfl rfl rfl
 have hf1 : Fact.FrD ds 62 fr1 := ⟨hh.size.trans hf.size, hh.defers.trans hf.defers⟩
 have hx := hh.ext
 replace e0w := cL hx e0w
 replace k0 := cL hx k0
 replace y0 := cL hx y0
 replace y1 := cL hx y1
 replace y2 := cL hx y2
 clear hg hh hf hok
 have hf := hf1; clear hf1
 have b29 := hf.b 29
 replace hck := hck.trans (CK.of_below hx)
 replace hcl := hcl.below hx.size hx
 replace hri := hri.later hx
 replace hrn := hrn.below (hx.mono hb.size)
 replace hb := hb.trans (hx.mono hb.size)
 have hvl : (foundV 0 o wi (ss.take i)).length = i := foundV_len i hi
 have fz := hri.frozen (j := i)
 have hci := hri.cell (gE1 (by rw [padV_len (by omega)]; exact hlt))
 refine Tail.seq_op rfl rfl (fun K Z => ?_)
 go_simp
 try rw [if_pos (by omega)]
 apply Z.out; clear Z K
 refine Tail.seq_op rfl rfl (fun K Z => ?_)
 go_simp
 apply Z.out; clear Z K
 refine Tail.seq_nil rfl ?_
 refine Fact.q hf (by simp only [Fact.G]) rfl fun fr1 hf1 hT => ?_
 have hKp : _ /\ _ /\ _ /\ _ /\ _ /\ _ /\ _ /\ _ /\ _ /\ _ /\ _ /\ _ /\ _ /\ _ /\ _ /\ _ /\ _ /\ _ /\ _ /\ _ := ⟨hT 1, hT 3, hT 5, hT 6, hT 7, hT 8, hT 9, hT 17, hT 18, hT 19, hT 20, hT 21, hT 22, hT 23, hT 24, hT 25, hT 26, hT 27, hT 28, hT 29⟩
 simp (decide := true) only [Fact.G, hf.size, reduceIte, s1, s3, s5, s6, s7, s8, s9, s17, s18, s19, s20, s21, s22, s23, s24, s25, s26, s27, s28] at hKp
 replace hf := hf1; clear hT hf1 s1 s3 s5 s6 s7 s8 s9 s17 s18 s19 s20 s21 s22 s23 s24 s25 s26 s27 s28 b29
 obtain ⟨s1, s3, s5, s6, s7, s8, s9, s17, s18, s19, s20, s21, s22, s23, s24, s25, s26, s27, s28, s29⟩ := hKp
 refine Zx hK9 ?_
 generalize hW5 : w1.setCell ⟨G, i, none⟩ (.int .i64 (o st)) = W5
 obtain ⟨hcs, -, hbs, hz5, hhs⟩ := set1 hW5
 replace hck := hck.trans hcs
 replace hcl := hcl.turn (Nat.le_of_eq hz5.symm) fun D hD _ hh => (hhs D (by omega)).trans hh
 replace hri := hri.set hW5
 replace hrn := hrn.ck (by omega) hcs
 replace hb := hb.trans (hbs _ (by omega))
 have c0w := hck.2.1 _ _ (by simp only; omega) c0; have c1w := hck.2.1 _ _ (by simp only; omega) c1
 replace k0 := hcs.2.1 _ _ (by simp only; omega) k0
 clear e0w y0 y1 y2 fz hci hW5 hx hhs hbs
 have hrs5 := hrn.rs
 refine Ze fun _ hK10 => rg ?_
 have bB := hf.B2 30 31
 iterate 2 refine Zy ?_
 refine Zc (ways141 W5 _ init i ss hrs5) ?_; rintro e W6 ⟨rfl, u0, u1, v0, hb6, -, -⟩
 have hN6 : w.heap.size <= W5.heap.size := hb.size
 clear hrs5 hcs
 have hGB5 := hri.lt
 replace hck := hck.trans (CK.of_below hb6)
 replace hcl := hcl.below hb6.size hb6
 replace hri := hri.later hb6
 replace hrn := hrn.below (hb6.mono hb.size)
 replace hb := hb.trans (hb6.mono hb.size)
 replace k0 := cL hb6 k0
 obtain ⟨q6, hq6⟩ : ∃ x, W5.heap.size = x := ⟨_, rfl⟩
 have hGq : G < q6 := by rw [<- hq6]; exact hGB5
 rw [hq6] at u0 u1 v0 |-
 skip
 refine Zv ?_
 refine Fact.nil ?_
 clear bB
 refine Fact.q hf (by simp only [Fact.G]) rfl fun fr1 hf1 hT => ?_
 have hKp : _ /\ _ /\ _ /\ _ /\ _ /\ _ /\ _ /\ _ /\ _ /\ _ /\ _ /\ _ /\ _ /\ _ /\ _ /\ _ /\ _ /\ _ /\ _ /\ _ /\ _ /\ _ /\ _ := ⟨hT 1, hT 3, hT 5, hT 6, hT 7, hT 8, hT 9, hT 17, hT 18, hT 19, hT 20, hT 21, hT 22, hT 23, hT 24, hT 25, hT 26, hT 27, hT 28, hT 29, hT 30, hT 31, hT 32⟩
 simp (decide := true) only [Fact.G, hf.size, reduceIte, s1, s3, s5, s6, s7, s8, s9, s17, s18, s19, s20, s21, s22, s23, s24, s25, s26, s27, s28, s29] at hKp
 replace hf := hf1; clear hT hf1 s1 s3 s5 s6 s7 s8 s9 s17 s18 s19 s20 s21 s22 s23 s24 s25 s26 s27 s28 s29
 obtain ⟨s1, s3, s5, s6, s7, s8, s9, s17, s18, s19, s20, s21, s22, s23, s24, s25, s26, s27, s28, s29, s30, s31, s32⟩ := hKp
 refine Zx hK10 (wp_block ?_)
 have hGB : G < W6.heap.size := hri.lt
 have hNB : w.heap.size <= W6.heap.size := hb.size
 have hal := hfm _ _ hst
 have hit := ways_iter (9 - 1) q6 (q6 + 1) G w.heap.size init i ss st _ W6 (by omega) hGB hNB (by have := hGq; omega) (by have := hGq; omega) u0 u1 v0 hrn hst (by omega) hal (Nat.le_trans (arcs_few hal (hok _ (gM1 hst))) (by omega))
 refine (wpIn_wide (n := 9)).1 ?_
 refine wpIn_range (C := fun _ => False) (Fact.eval_tmp s32) (enters_of Tryz.func156 (by kernel_rfl) rfl) hit CK.trans (fun W o o' ho hc _ => CK.put o' ho hc) (Below.refl _ _) (fun _ => rfl) (fun pre W => CK G W6 W /\ RI W G (((padV 0 ss.length (foundV 0 o wi (ss.take i)))).set i (foldA 0 wi (foundV 0 o wi (ss.take i)) (o st) pre)) /\ Below w.heap.size w W /\ Coll G ds W6.heap.size W) (fun _ _ _ => False) (fun s => Stays.and Stays.ck (Stays.and (RI.stays hGB) (Stays.and (Stays.below (Nat.le_refl _) hNB) (Stays.coll (Nat.le_refl _))))) (fun _ _ => Stays.pure _ _ _) ⟨CK.refl _ _, hri, hb, hcl⟩ (fun (x : Arc) a' W => ∃ Bx, (Fact.Fr 62 a' /\ a'.tmps[5]? = some (.pointer (some ⟨(w.heap.size + 1), 0, none⟩)) /\ a'.tmps[7]? = some (.pointer (some ⟨(G + 1), 0, none⟩)) /\ a'.tmps[8]? = some (.pointer (some ⟨q8, 0, none⟩)) /\ a'.tmps[11]? = some (.pointer (some ⟨Bx, 0, none⟩))) /\ (W.cell? ⟨Bx, 0, none⟩ = some (.int .i64 x.to) /\ W.cell? ⟨Bx, 1, none⟩ = some (.int .u64 x.out))) (fun x a' => Stays.ex fun Bx => Stays.and (Stays.pure _ _ _) (Stays.and Stays.cell Stays.cell)) ?_ ?_ ?_ ?_
 . (
 rintro l pre x W K ⟨ck1, ri1, hbw, cl1⟩ hKK
 refine assign2 (M := fun a => Code.wpIn _ _ _ _ _ a _) hf rfl rfl rfl fun a1 hf1 h33 h34 hold => ?_
 have s5 := (hold 5 rfl rfl).trans s5; have s7 := (hold 7 rfl rfl).trans s7; have s8 := (hold 8 rfl rfl).trans s8; have s34 := h34
 clear hold h33 h34
 have hf := hf1; clear hf1
 refine Inr.rgI (r := some l) ?_
 have b11 := hf.b 11
 refine Inr.fpI fun K Z => ?_
 go_simp
 apply Z.out; clear Z K
 refine Inr.fpI fun K Z => ?_
 go_simp
 apply Z.out; clear Z K
 refine Inr.nilI ?_
 refine Zq4 5 7 8 11 hf ?_
 clear hf s5 s7 s8 s34 b11; intro fr1 hf sS
 refine Fact.then_normal ?_
 generalize hW7 : W.alloc (.cells #[.int .i64 x.to, .int .u64 x.out] 233) = W7
 obtain ⟨hb7, b0, b1, -, -⟩ := box2 hW7
 obtain ⟨s5, s7, s8, s11⟩ := sS
 exact hKK _ _ ((keeps_belowD hb7).from _) (CK.of_below hb7) ⟨ck1.trans (CK.of_below hb7), ri1.later hb7, hbw.trans (hb7.mono hbw.size), cl1.turn (Nat.le_refl _) fun D _ _ hh => (hb7.block D (heap_lt hh)).trans hh⟩ ⟨_, ⟨hf, s5, s7, s8, s11⟩, b0, b1⟩)
 . (
 clear hf s1 s3 s5 s6 s7 s8 s9 s17 s18 s19 s20 s21 s22 s23 s24 s25 s26 s27 s28 s29 s30 s31 s32
 rintro l pre x a1 W hl _ ⟨ck1, ri1, hbw, cl1⟩ ⟨Bx, ⟨hf, s5, s7, s8, s11⟩, z0, z1⟩ hpre
 have hxm : x ∈ st.arcs := hpre.subset (by simp)
 have hxt := okArcs_to hal hxm
 obtain ⟨c, hc⟩ : ∃ c : Nat, x.to = (c : Int) := ⟨x.to.toNat, by omega⟩
 rw [hc] at z0
 have hci : c < i := by omega
 have okx := fold_ok (z := 0) ho hw hok hfm hst pre ((List.prefix_append _ _).trans hpre)
 have okc := found_ok (z := 0) ho hw hok hfm i hi c ((foundV 0 o wi (ss.take i)).getD c 0) (by rw [List.getD_eq_getElem?_getD, gE1 (by omega)]; rfl)
 have hou := ((hok _ (gM1 hst)).2.2 x hxm).2.1
 have hfs := foldA_snoc (z := 0) (wi := wi) (foundV 0 o wi (ss.take i)) (o st) pre x
 rw [show x.to.toNat = c by omega] at hfs
 obtain ⟨X, hX⟩ : ∃ y, foldA 0 wi (foundV 0 o wi (ss.take i)) (o st) pre = y := ⟨_, rfl⟩
 obtain ⟨Y, hY⟩ : ∃ y, (foundV 0 o wi (ss.take i)).getD c 0 = y := ⟨_, rfl⟩
 rw [hX] at okx hfs ri1
 rw [hY] at okc hfs
 have rx := padV_at (z := 0) (n := ss.length) X hvl hlt
 have ry := padV_old (z := 0) (n := ss.length) X hvl hci
 rw [hY] at ry
 have r1 := ri1.cell (rx)
 have r2 := ri1.cell (ry)
 clear rx ry
 have d0w := ck1.2.1 _ _ (by simp only; omega) (hck.2.1 _ _ (by simp only; omega) d0); have e0w := ck1.2.1 _ _ (by simp only; omega) (hck.2.1 _ _ (by simp only; omega) e0); have k0w := ck1.2.1 _ _ (by simp only; have := hq8G; omega) k0
 have HX := Lib.hid hX; have HY := Lib.hid hY; have HC := Lib.hid hc; have HFS := Lib.hid hfs; clear hX hY hc hfs
 refine wpIn_block ?_
 refine Inr.drawnB (r := some l) (k := 62) (fun ⟨_, _, h⟩ => h) (Stab.OkOps.of (by kernel_rfl)) (fun hok => ?_)
 refine Stab.T 0 hf hok (fun _ _ h d => ad (Stab.O h s7) (ad (cL h.ext d0w) (ad (cL h.ext e0w) (ad (cL h.ext k0w) (ad (cL h.ext z0) (ad (cL h.ext z1) (ad (cL h.ext r1) (cL h.ext r2)))))))) ?_
 refine Stab.T 1 hf hok (fun _ _ h d => ad (Stab.O h s8) (ad (cL h.ext d0w) (ad (cL h.ext e0w) (ad (cL h.ext k0w) (ad (cL h.ext z0) (ad (cL h.ext z1) (ad (cL h.ext r1) (cL h.ext r2)))))))) ?_
 refine Stab.T 2 hf hok (fun _ _ h d => ad (Stab.O h s5) (ad (cL h.ext d0w) (ad (cL h.ext e0w) (ad (cL h.ext k0w) (ad (cL h.ext z0) (ad (cL h.ext z1) (ad (cL h.ext r1) (cL h.ext r2)))))))) ?_
 refine Stab.T 3 hf hok (fun _ _ h d => ad (Stab.O h s7) (ad (cL h.ext d0w) (ad (cL h.ext e0w) (ad (cL h.ext k0w) (ad (cL h.ext z0) (ad (cL h.ext z1) (ad (cL h.ext r1) (cL h.ext r2)))))))) ?_
 refine Stab.T 4 hf hok (fun _ _ h d => ad (Stab.O h s8) (ad (cL h.ext d0w) (ad (cL h.ext e0w) (ad (cL h.ext k0w) (ad (cL h.ext z0) (ad (cL h.ext z1) (ad (cL h.ext r1) (cL h.ext r2)))))))) ?_
 refine Stab.Ti 5 hf hok (fun _ _ h d => ad (Stab.vd 3 1 d []) (Stab.vd 4 0 d [])) ?_
 refine Stab.T 6 hf hok (fun _ _ h d => ad (Stab.vd 5 0 d []) (ad (cL h.ext d0w) (ad (cL h.ext e0w) (ad (cL h.ext k0w) (ad (cL h.ext z0) (ad (cL h.ext z1) (ad (cL h.ext r1) (cL h.ext r2)))))))) ?_
 refine Stab.T 7 hf hok (fun _ _ h d => ad (Stab.O h s7) (ad (cL h.ext d0w) (ad (cL h.ext e0w) (ad (cL h.ext k0w) (ad (cL h.ext z0) (ad (cL h.ext z1) (ad (cL h.ext r1) (cL h.ext r2)))))))) ?_
 refine Stab.T 8 hf hok (fun _ _ h d => Stab.O h s11) ?_
 refine Stab.T 9 hf hok (fun _ _ h d => ad (Stab.vd 8 0 d []) (ad (cL h.ext d0w) (ad (cL h.ext e0w) (ad (cL h.ext k0w) (ad (cL h.ext z0) (ad (cL h.ext z1) (ad (cL h.ext r1) (cL h.ext r2)))))))) ?_
 refine Stab.Ti 10 hf hok (fun _ _ h d => ad (Stab.vd 7 2 d []) (Stab.vd 9 0 d [])) ?_
 refine Stab.T 11 hf hok (fun _ _ h d => ad (Stab.vd 10 0 d []) (ad (cL h.ext d0w) (ad (cL h.ext e0w) (ad (cL h.ext k0w) (ad (cL h.ext z0) (ad (cL h.ext z1) (ad (cL h.ext r1) (cL h.ext r2)))))))) ?_
 refine Stab.T 12 hf hok (fun _ _ h d => Stab.O h s11) ?_
 refine Stab.T 13 hf hok (fun _ _ h d => ad (Stab.vd 12 0 d []) (ad (cL h.ext d0w) (ad (cL h.ext e0w) (ad (cL h.ext k0w) (ad (cL h.ext z0) (ad (cL h.ext z1) (ad (cL h.ext r1) (cL h.ext r2)))))))) ?_
 apply Stab.tq 14 _ hf hok
 . (
 intro fr1 w1 hh hd hk K Z
 have s37 := Stab.v 2 11 hd hk []
 have s41 := Stab.v 6 7 hd hk []
 have s46 := Stab.v 11 2 hd hk []
 have s48 := Stab.v 13 0 hd hk []
 clear hd
 replace d0w := cL hh.ext d0w
 replace e0w := cL hh.ext e0w
 replace k0w := cL hh.ext k0w
 replace z0 := cL hh.ext z0
 replace z1 := cL hh.ext z1
 replace r1 := cL hh.ext r1
 replace r2 := cL hh.ext r2
 refine call_wp (g := g2) (args := #[.int .i64 (X), .int .i64 (Y), .int .u64 x.out]) (by simp [execOp, go_sem, s37, s41, s46, s48, eg2]) (hwith _ i c X Y x.out okx hci okc hou) ?_
 rintro e w2 ⟨rfl, hbz⟩
 exact ⟨_, rfl, Z.out _ rfl _ _ hbz rfl⟩)
 refine Tail.todo_tail (n := 62) (m := 15) (ws := []) (by kernel_rfl) hf.size hok.out rfl rfl (by kernel_rfl) (fun fr1 w1 hh hg => ?_)
 have s35 := Tail.got_is 0 14 hg rfl rfl rfl rfl rfl
 have s36 := Tail.got_is 1 13 hg rfl rfl rfl rfl rfl
 have s49 := Tail.got_is 14 0 hg rfl rfl rfl rfl rfl
 have hf1 := hh.fr hf
 have hx := hh.ext
 replace d0w := cL hx d0w
 replace e0w := cL hx e0w
 replace k0w := cL hx k0w
 replace z0 := cL hx z0
 replace z1 := cL hx z1
 replace r1 := cL hx r1
 replace r2 := cL hx r2
 clear hg hh hf hok s5 s7 s8 s11
 have hf := hf1; clear hf1
 have b50 := hf.b 50
 have ri2 := ri1.later hx
 have fz := ri2.frozen (j := i)
 refine Tail.seq_op rfl rfl (fun K Z => ?_)
 go_simp
 try rw [if_pos (by omega)]
 apply Z.out; clear Z K
 refine Tail.seq_op rfl rfl (fun K Z => ?_)
 go_simp
 apply Z.out; clear Z K
 refine Tail.seq_nil rfl ?_
 refine Zq0 hf ?_
 clear hf s35 s36 s49 b50; intro fr1 hf
 refine Fact.block_normal ?_
 generalize hW9 : w1.setCell ⟨G, i, none⟩ (.int .i64 (wi X Y x.out)) = W9
 obtain ⟨hcs, hko, hbs, -, hhs⟩ := set1 hW9
 refine ⟨((keeps_belowD hx).trans hko).from _, (CK.of_below hx).trans hcs, (ck1.trans (CK.of_below hx)).trans hcs, ?_, (hbw.trans (hx.mono hbw.size)).trans (hbs _ (by omega)), (cl1.turn (Nat.le_refl _) fun D _ _ hh => (hx.block D (heap_lt hh)).trans hh).turn (Nat.le_refl _) fun D hD _ hh => (hhs D (by omega)).trans hh⟩
 have h := ri2.set hW9
 rw [List.set_set] at h
 rw [HFS.out]
 exact h)
 . (
 clear k0
 rintro D xs W hD rfl ⟨ck1, ri1, hbw, cl1⟩ hDh
 refine Fact.reQ (n := 62) (ds := { target := .collected D, args := #[] } :: ds) hf.size (by rw [hf.defers]) (fun fr2 hf2 hT => ?_)
 have s1 := (hT 1).trans s1
 have s3 := (hT 3).trans s3
 have s5 := (hT 5).trans s5
 have s6 := (hT 6).trans s6
 have s7 := (hT 7).trans s7
 have s17 := (hT 17).trans s17
 have s18 := (hT 18).trans s18
 have s19 := (hT 19).trans s19
 clear hT hf
 have hf := hf2; clear hf2
 replace hck := hck.trans ck1
 replace hrn := hrn.ck (by omega) ck1
 rw [padV_step _ hvl hlt, <- foundV_take hst] at ri1
 have hcl2 : Coll G ({ target := .collected D, args := #[] } :: ds) W.heap.size W := ⟨D, rfl, Nat.lt_of_lt_of_le hGB hD, heap_lt hDh, hDh, cl1.turn hD fun _ _ _ hh => hh⟩
 clear hcl ck1 cl1 hri hb hit u0 u1 v0 hDh
 refine Fact.block_normal (Fact.block_normal (Zx hK7 (Zr [51] hf ?_)))
 refine Zq9 1 3 5 6 7 17 18 19 51 hf ?_
 clear hf s1 s3 s5 s6 s7 s17 s18 s19; intro fr1 hf sS
 refine Fact.then_normal ?_
 obtain ⟨s1, s3, s5, s6, s7, s17, s18, s19, s51⟩ := sS
 exact ⟨_, by have := HK.out; omega, i + 1, _, rfl, by omega, hf, s1, s3, s5, s6, s7, s17, s18, by rw [s19]; rfl, hcl2, hck, ri1, hrn, hbw⟩)
 . (
 rintro D c pre W _ _ h _
 exact h.elim))
 . (
 have hie : i = ss.length := by have h9 := of_decide_eq_false hq; omega
 clear hq
 rw [hie, List.take_length] at hri
 have e0w := hck.2.1 _ _ (by simp only; omega) e0
 rw [padV_full (foundV_len_all _)] at hri
 refine Zo ?_
 refine Zs hK3 fun _ hK11 => Ze fun _ hK12 => Zr [52, 53] hf ?_
 refine Zq3 6 7 54 hf ?_
 clear hf sS; intro fr1 hf sS
 refine Zx hK12 (Fact.cond_s sS.2.2 (fun hq2 => ?_) (fun hq2 => ?_))
 . (
 obtain ⟨k, hk⟩ : ∃ k, ss.length = k + 1 := ⟨ss.length - 1, by have h9 := of_decide_eq_true hq2; omega⟩
 clear hq2
 have e4 : IntKind.i64.wrap ((ss.length : Int) - 1) = (k : Int) := by rw [Fact.wrap_i64 (by omega) (by omega)]; omega
 have hfl := foundV_len_all (z := 0) (o := o) (wi := wi) ss
 have hkl : k < (foundV 0 o wi ss).length := by omega
 have r1 := hri.cell (gE1 hkl)
 have hgl : (foundV 0 o wi ss).getLastD 0 = (foundV 0 o wi ss)[k] := by rw [List.getLastD_eq_getLast?, List.getLast?_eq_getElem?, hfl, hk, Nat.add_sub_cancel, gE1 hkl]; rfl
 obtain ⟨X, hX⟩ : ∃ y, (foundV 0 o wi ss)[k] = y := ⟨_, rfl⟩
 rw [hX] at hgl r1
 refine rg ?_
 have bB := hf.B6 55 56 57 58 59 60
 iterate 3 refine Zy ?_
 refine fp fun K Z => ?_
 go_simp
 try simp (disch := omega) only [Fact.W]
 try rw [e4]
 apply Z.out; clear Z K
 iterate 3 refine Zy ?_
 refine Fact.nil (Zq1 6 hf ?_)
 clear hf sS bB; intro fr1 hf s6
 refine Zs hK11 fun _ hK13 => Zr [61] hf ?_
 refine Zq1 6 hf ?_
 clear hf s6; intro fr1 hf s6
 refine Zx hK13 (Zret ?_)
 exact retM rfl hf s6 hcl fun w' hw => ⟨by rw [hgl], hb.trans (hw.mono (by omega))⟩)
 . (
 have hn0 : ss = [] := by have h9 := of_decide_eq_false hq2; exact List.length_eq_zero_iff.1 (by omega)
 clear hq2
 refine wp_skip (Zs hK11 fun _ hK14 => Zr [61] hf ?_)
 refine Zq1 6 hf ?_
 clear hf sS; intro fr1 hf s6
 refine Zx hK14 (Zret ?_)
 exact retM rfl hf s6 hcl fun w' hw => ⟨by rw [hn0]; rfl, hb.trans (hw.mono (by omega))⟩)))
end Dw
end Go.Proofs.YtcddnmhmcieebaaGreatDoor
