/- fst: found of sums. -/
import Derived.Test.YtcddnmhmcieebaaGreatDoorFG
import Derived.Test.YtcddnmhmcieebaaGreatDoorTools
namespace Go.Proofs.YtcddnmhmcieebaaGreatDoor
set_option maxHeartbeats 4000000
set_option maxRecDepth 100000
open Go.RowKit
set_option linter.unusedSimpArgs false
set_option linter.unusedVariables false
set_option linter.unnecessarySimpa false
namespace Dw
def mzeros (n : Nat) : Array Value := madeCells #[.int .u64 0, .bool false, .bool false] (n * 3)
theorem make_mosts (w : World) (n : Nat) (hn : n <= 5000000) : (Instr.makeSlice 234 (.int .i64 n) (.int .i64 n)).run Tryz.prog w = .ok (.slice (some ⟨w.heap.size, 0, none⟩) n n) (w.alloc (.cells (mzeros n) 192)) := by
 obtain ⟨i, hi, h2⟩ := Option.map_eq_some_iff.1 (show (Tryz.prog.info? 192).map (fun i => (i.zero, i.size, i.bytes)) = some (some (.agg #[.int .u64 0, .bool false, .bool false]), 3, 24) by kernel_rfl)
 obtain ⟨h3, h4, h5⟩ := (by simpa only [Prod.mk.injEq] using h2 : _ /\ _ /\ _)
 have h := run_makeSlice (P := Tryz.prog) w 234 192 i _ Tryz.underlying234 hi h3 .i64 .i64 n n (by omega) (Int.le_refl _) (by rw [h4]; omega) (by rw [h5]; omega) (by omega)
 have e : (Value.agg #[.int .u64 0, .bool false, .bool false]).cells = #[.int .u64 0, .bool false, .bool false] := rfl
 rw [h4, e, Int.toNat_natCast] at h
 exact h
theorem boxes5T {w W : World} {a b z c d : Array Value} {t u y v x : TypeId} (h : ((((w.alloc (.cells a t)).alloc (.cells b u)).alloc (.cells z y)).alloc (.cells c v)).alloc (.cells d x) = W) : Below w.heap.size w W /\ W.heap[w.heap.size]? = some (.cells a t (0, 0)) /\ W.heap[w.heap.size + 1]? = some (.cells b u (0, 0)) /\ W.heap[w.heap.size + 1 + 1]? = some (.cells z y (0, 0)) /\ W.heap[w.heap.size + 1 + 1 + 1]? = some (.cells c v (0, 0)) /\ W.heap[w.heap.size + 1 + 1 + 1 + 1]? = some (.cells d x (0, 0)) /\ W.heap.size = w.heap.size + 1 + 1 + 1 + 2 := by
 obtain ⟨X, hX⟩ : ∃ y, w.alloc (.cells a t) = y := ⟨_, rfl⟩
 rw [hX] at h
 obtain ⟨h1, h2, h3, h4, h5, h6⟩ := boxes4T h
 have hs : X.heap.size = w.heap.size + 1 := by rw [<- hX]; simp
 rw [hs] at h1 h2 h3 h4 h5 h6
 have h0 : Below w.heap.size w X := by rw [<- hX]; exact (Below.refl _ _).alloc (Nat.le_refl _) _
 refine ⟨h0.trans (h1.mono (by omega)), (h1.block _ (by omega)).trans (by rw [<- hX, heap_get, if_pos rfl]), h2, h3, h4, h5, h6⟩
def RM (w : World) (G : Nat) (l : List Most) : Prop := ∃ cur, w.heap[G]? = some (.cells cur 192 (0, 0)) /\ ∀ (j : Nat) (m : Most), l[j]? = some m -> cur[j * 3]? = some (.int .u64 m.n) /\ cur[j * 3 + 1]? = some (.bool m.fits) /\ cur[j * 3 + 2]? = some (.bool m.any)
theorem RM.start {w : World} {G n : Nat} {o : State -> Most} {wi : Most -> Most -> Nat -> Most} {ss : List State} (h : w.heap[G]? = some (.cells (mzeros n) 192 (0, 0))) : RM w G (padV (⟨0, false, false⟩ : Most) n (foundV (⟨0, false, false⟩ : Most) o wi (ss.take 0))) := by
 refine ⟨_, h, fun j m hm => ?_⟩
 simp [padV, foundV, List.getElem?_replicate] at hm
 obtain ⟨hj, rfl⟩ := hm
 have m0 : j * 3 % 3 = 0 := by omega
 have m1 : (j * 3 + 1) % 3 = 1 := by omega
 have m2 : (j * 3 + 2) % 3 = 2 := by omega
 refine ⟨?_, ?_, ?_⟩
 ·rw [Array.getElem?_eq_getElem (by unfold mzeros; rw [size_madeCells]; omega)]; simp [mzeros, madeCells, m0]
 ·rw [Array.getElem?_eq_getElem (by unfold mzeros; rw [size_madeCells]; omega)]; simp [mzeros, madeCells, m1]
 ·rw [Array.getElem?_eq_getElem (by unfold mzeros; rw [size_madeCells]; omega)]; simp [mzeros, madeCells, m2]
theorem RM.cell {w : World} {G j : Nat} {x : Most} {l : List Most} (h : RM w G l) (hx : l[j]? = some x) : w.cell? ⟨G, j * 3, none⟩ = some (.int .u64 x.n) /\ w.cell? ⟨G, j * 3 + 1, none⟩ = some (.bool x.fits) /\ w.cell? ⟨G, j * 3 + 2, none⟩ = some (.bool x.any) := by
 obtain ⟨cur, hg, hc⟩ := h
 obtain ⟨h0, h1, h2⟩ := hc j x hx
 exact ⟨(cell_of_row _ _ _ _ 192 (0, 0) hg).trans h0, (cell_of_row _ _ _ _ 192 (0, 0) hg).trans h1, (cell_of_row _ _ _ _ 192 (0, 0) hg).trans h2⟩
theorem RM.frozen {w : World} {G j : Nat} {l : List Most} (h : RM w G l) : w.frozen? ⟨G, j, none⟩ = false := by
 obtain ⟨cur, hg, hc⟩ := h
 exact frozen_of (i := j) hg
theorem RM.lt {w : World} {G : Nat} {l : List Most} (h : RM w G l) : G < w.heap.size := by obtain ⟨cur, hg, hc⟩ := h; exact heap_lt hg
theorem RM.later {w w' : World} {G : Nat} {l : List Most} (h : RM w G l) (hb : Below w.heap.size w w') : RM w' G l := by obtain ⟨cur, hg, hc⟩ := h; exact ⟨cur, (hb.block _ (heap_lt hg)).trans hg, hc⟩
theorem RM.stays {G B : Nat} {l : List Most} (hG : G < B) : Stays (Beside fun _ => False) B (fun W => RM W G l) := Stays.ex fun _ => Stays.and (Stays.block (.inl hG)) (Stays.pure _ _ _)
theorem RM.set {w W : World} {G i : Nat} {l : List Most} {x : Most} (h : RM w G l) (hW : ((w.setCell ⟨G, i * 3, none⟩ (.int .u64 x.n)).setCell ⟨G, i * 3 + 1, none⟩ (.bool x.fits)).setCell ⟨G, i * 3 + 2, none⟩ (.bool x.any) = W) : RM W G (l.set i x) := by
 subst hW
 obtain ⟨cur, hg, hc⟩ := h
 refine ⟨_, set_block (set_block (set_block hg _) _) _, fun j m hm => ?_⟩
 rcases Nat.decEq i j with hne | rfl
 ·rw [List.getElem?_set_ne hne] at hm
  obtain ⟨h0, h1, h2⟩ := hc j m hm
  simp only [Array.getElem?_setIfInBounds]
  refine ⟨?_, ?_, ?_⟩
  ·rw [if_neg (by omega), if_neg (by omega), if_neg (by omega)]; exact h0
  ·rw [if_neg (by omega), if_neg (by omega), if_neg (by omega)]; exact h1
  ·rw [if_neg (by omega), if_neg (by omega), if_neg (by omega)]; exact h2
 ·have hlt : i < l.length := by have := (gS1 hm).1; simpa using this
  rw [List.getElem?_set_self hlt] at hm
  cases hm
  obtain ⟨h0, h1, h2⟩ := hc i _ (gE1 hlt)
  have hz := (Array.getElem?_eq_some_iff.1 h2).1
  simp only [Array.getElem?_setIfInBounds, Array.size_setIfInBounds]
  refine ⟨?_, ?_, ?_⟩
  ·rw [if_neg (by omega), if_neg (by omega), if_pos True.intro, if_pos (by omega)]
  ·rw [if_neg (by omega), if_pos True.intro, if_pos (by omega)]
  ·rw [if_pos True.intro, if_pos (by omega)]
theorem set3 {w W : World} {G i : Nat} {a b c : Value} (h : ((w.setCell ⟨G, i * 3, none⟩ a).setCell ⟨G, i * 3 + 1, none⟩ b).setCell ⟨G, i * 3 + 2, none⟩ c = W) : CK G w W /\ KeepsOthers w W /\ (∀ B, B <= G -> Below B w W) /\ W.heap.size = w.heap.size /\ ∀ k, k ≠ G -> W.heap[k]? = w.heap[k]? := by
 obtain ⟨a1, a2, a3, a4, a5⟩ := set1 (w := w) (G := G) (i := i * 3) (v := a) rfl
 obtain ⟨b1, b2, b3, b4, b5⟩ := set1 (w := w.setCell ⟨G, i * 3, none⟩ a) (G := G) (i := i * 3 + 1) (v := b) rfl
 obtain ⟨c1, c2, c3, c4, c5⟩ := set1 h
 exact ⟨a1.trans (b1.trans c1), a2.trans (b2.trans c2), fun B hB => (a3 B hB).trans ((b3 B hB).trans (c3 B hB)), c4.trans (b4.trans a4), fun k hk => (c5 k hk).trans ((b5 k hk).trans (a5 k hk))⟩
theorem res3 {w W : World} {g n n2 : Nat} {b c b2 c2 : Bool} (hg : w.heap[g]? = some (.cells #[.int .u64 n2, .bool b2, .bool c2] 192 (0, 0))) (h : ((w.setCell ⟨g, 0, none⟩ (.int .u64 n)).setCell ⟨g, 1, none⟩ (.bool b)).setCell ⟨g, 2, none⟩ (.bool c) = W) :
  W.heap[g]? = some (.cells #[.int .u64 n, .bool b, .bool c] 192 (0, 0)) /\ (∀ B, B <= g -> Below B w W) /\ ∀ k, k ≠ g -> W.heap[k]? = w.heap[k]? := by
 obtain ⟨-, -, a3, -, a5⟩ := set3 (i := 0) h
 subst h
 exact ⟨(set_block (set_block (set_block hg _) _) _).trans (by simp), a3, a5⟩
theorem found110 {g1 g2 : Nat} (o : State -> Most) (wi : Most -> Most -> Nat -> Most) (w : World) (sv : Value) (init : Nat) (ss : List State) (hrs : RS w sv ss) (hlen : ss.length <= 1000000) (Ok : Nat -> Most -> Prop) (eg1 : ∀ args w, (callFunc g1 args).run Tryz.prog w = .ok (.enter g1 args) w) (eg2 : ∀ args w, (callFunc g2 args).run Tryz.prog w = .ok (.enter g2 args) w)
    (ho : ∀ i st, ss[i]? = some st -> Ok i (o st)) (hw : ∀ i j x c u, Ok i x -> j < i -> Ok j c -> u < 18446744073709551616 -> Ok i (wi x c u)) (hok : ∀ s ∈ ss, okS s) (hfm : ∀ (k : Nat) (st : State), ss[k]? = some st -> okArcs k (-1) st.arcs = true)
    (hown : ∀ (W : World) (av : Value) (i : Nat) (st : State), ss[i]? = some st -> (∃ A n c, av = .slice A n c) -> Calls Tryz.prog g1 #[.agg #[av, .bool st.final, .int .u64 st.out]] W fun e W' => e = .returned ((o st).val) /\ Below W.heap.size W W')
    (hwith : ∀ (W : World) (i j : Nat) (x c : Most) (u : Nat), Ok i x -> j < i -> Ok j c -> u < 18446744073709551616 -> Calls Tryz.prog g2 #[(x).val, (c).val, .int .u64 u] W fun e W' => e = .returned ((wi x c u).val) /\ Below W.heap.size W W') : Calls Tryz.prog 110 #[.agg #[sv, .int .u64 init], .func (.func g1) #[] #[], .func (.func g2) #[] #[]] w fun e w1 => e = .returned (((foundV (⟨0, false, false⟩ : Most) o wi ss).getLastD (⟨0, false, false⟩ : Most)).val) /\ Below w.heap.size w w1 := by
 refine enterM Tryz.func110 rfl ?_
 refine Fact.en 62 fun fr hf hT => ?_
 have s0 := hT 0 _ rfl
 have s1 := hT 1 _ rfl
 have s2 := hT 2 _ rfl
 clear hT
 obtain ⟨A, cc, rfl, hcc⟩ := hrs.form
 have hmk := fun w => make_mosts w ss.length (by omega)
 refine Ze fun _ hK1 => Zr [] hf ?_
 refine Zq4 1 3 5 6 hf ?_
 clear hf s0 s1 s2; intro fr1 hf sS
 refine Zs hK1 fun _ hK2 => Zr [12, 13, 14, 15, 7] hf ?_
 refine Zq5 1 3 5 6 7 hf ?_
 clear hf sS; intro fr1 hf sS
 generalize hW1 : ((((w.alloc (.cells #[.slice A ss.length cc, .int .u64 init] 38)).alloc (.cells #[.func (.func g2) #[] #[]] 197)).alloc (.cells #[.int .u64 0, .bool false, .bool false] 192)).alloc (.cells (mzeros ss.length) 192)).alloc (.cells #[.slice (some ⟨w.heap.size + 1 + 1 + 1, 0, none⟩) ss.length ss.length] 234) = W1
 obtain ⟨hb1, hp0, hp1, hp6, hp2, hp3, hz1⟩ := boxes5T hW1
 clear hW1 hmk
 obtain ⟨G, hG⟩ : ∃ x, w.heap.size + 1 + 1 + 1 = x := ⟨_, rfl⟩
 obtain ⟨s1, s3, s5, s6, s7⟩ := sS
 rw [hG] at hp2 hp3 s7 hz1
 have hg0 : w.heap.size < G := by omega
 have hg1 : w.heap.size + 1 < G := by omega
 have hg6 : w.heap.size + 1 + 1 < G := by omega
 have c0 := cR1 0 hp0; have c1 := cR1 1 hp0; have d0 := cR1 0 hp1; have e0 := cR1 0 hp3
 simp at c0 c1 d0 e0
 have hri : RM W1 G (padV (⟨0, false, false⟩ : Most) ss.length (foundV (⟨0, false, false⟩ : Most) o wi (ss.take 0))) := RM.start hp2
 have hrn := hrs.n.below hb1
 clear hp0 hp1 hp2 hp3 hrs hG
 refine Zs hK2 fun _ hK3 => Ze fun _ hK4 => Zr [16, 17] hf ?_
 refine Zq8 1 3 5 6 7 17 18 19 hf ?_
 clear hf s1 s3 s5 s6 s7; intro fr1 hf sS
 refine Zx hK4 (wp_block (wp_loop_ghost (fun gk fr wr => ∃ (i : Nat) (ds : List Deferred), gk = ss.length - i /\ i <= ss.length /\ Fact.FrD ds 62 fr /\ fr.tmps[1]? = some (.func (.func g1) #[] #[]) /\ fr.tmps[3]? = some (.pointer (some ⟨w.heap.size, 0, none⟩)) /\ fr.tmps[5]? = some (.pointer (some ⟨(w.heap.size + 1), 0, none⟩)) /\ fr.tmps[6]? = some (.pointer (some ⟨(w.heap.size + 1 + 1), 0, none⟩)) /\ fr.tmps[7]? = some (.pointer (some ⟨(G + 1), 0, none⟩)) /\ fr.tmps[17]? = some (.slice A ss.length cc) /\ fr.tmps[18]? = some (.int .i64 ss.length) /\ fr.tmps[19]? = some (.int .i64 i) /\ Coll G ds wr.heap.size wr /\ CK G W1 wr /\ RM wr G (padV (⟨0, false, false⟩ : Most) ss.length (foundV (⟨0, false, false⟩ : Most) o wi (ss.take i))) /\ RSN wr w.heap.size (.slice A ss.length cc) ss /\ Below w.heap.size w wr) (ss.length) ?_ ?_))
 . (
 obtain ⟨s1, s3, s5, s6, s7, s17, s18, s19⟩ := sS
 exact ⟨0, [], rfl, Nat.zero_le _, hf, s1, s3, s5, s6, s7, s17, s18, s19, trivial, CK.refl _ _, hri, hrn, hb1⟩)
 . (
 clear hf sS
 clear hri hrn
 rintro gk fr wr ⟨i, ds, hk9, hi, hf, s1, s3, s5, s6, s7, s17, s18, s19, hcl, hck, hri, hrn, hb⟩
 have HK := Lib.hid hk9; clear hk9
 refine Ze fun _ hK5 => Zr [] hf ?_
 refine Zq9 1 3 5 6 7 17 18 19 20 hf ?_
 clear hf s1 s3 s5 s6 s7 s17 s18 s19; intro fr1 hf sS
 refine Zs hK5 fun _ hK6 => Fact.cond_s sS.2.2.2.2.2.2.2.2 (fun hq => ?_) (fun hq => ?_)
 . (
 have hlt : i < ss.length := by have h9 := of_decide_eq_true hq; omega
 clear hq
 obtain ⟨st, hst⟩ : ∃ x, ss[i]? = some x := ⟨_, gE1 hlt⟩
 obtain ⟨bb, off, av, hA0, hbN, hat⟩ := hrn.at_ hst
 subst hA0
 have x0 := hat.c0; have x1 := hat.c1; have x2 := hat.c2
 obtain ⟨A2, c2, hav, hc2⟩ := hat.arcs.form
 subst hav
 clear hat
 have hsz := hck.1
 refine wp_skip (Zs hK6 fun _ hK7 => wp_block (Ze fun _ hK8 => Zr [21, 22, 23, 8, 9] hf ?_))
 refine Zq14 1 3 5 6 7 8 9 17 18 19 20 21 22 23 hf ?_
 clear hf sS; intro fr1 hf sS
 generalize hW4 : (wr.alloc (.cells #[.int .i64 i] 3)).alloc (.cells #[.slice A2 st.arcs.length c2, .bool st.final, .int .u64 st.out] 46) = W4
 obtain ⟨hb4, hp4, hp5⟩ := two_boxesT hW4
 clear hW4 x0 x1 x2
 have k0 := cR1 0 hp4; have y0 := cR1 0 hp5; have y1 := cR1 1 hp5; have y2 := cR1 2 hp5
 simp at k0 y0 y1 y2
 clear hp4 hp5
 replace hck := hck.trans (CK.of_below hb4)
 replace hcl := hcl.below hb4.size hb4
 replace hri := hri.later hb4
 replace hrn := hrn.below (hb4.mono hb.size)
 replace hb := hb.trans (hb4.mono hb.size)
 have e0w := hck.2.1 _ _ (by simp only; omega) e0
 obtain ⟨q8, hq8⟩ : ∃ x, wr.heap.size = x := ⟨_, rfl⟩
 have hq8G : G < q8 := by rw [<- hq8]; omega
 obtain ⟨s1, s3, s5, s6, s7, s8, s9, s17, s18, s19, s20, s21, s22, s23⟩ := sS
 rw [hq8] at s8 s9 k0 y0 y1 y2 hsz
 refine Zs hK8 fun _ hK9 => Stab.tb 62 fun hok => ?_
 refine Stab.T 0 hf hok (fun _ _ h d => ad (Stab.O h s7) (ad (cL h.ext e0w) (ad (cL h.ext k0) (ad (cL h.ext y0) (ad (cL h.ext y1) (cL h.ext y2)))))) ?_
 refine Stab.T 1 hf hok (fun _ _ h d => ad (Stab.O h s8) (ad (cL h.ext e0w) (ad (cL h.ext k0) (ad (cL h.ext y0) (ad (cL h.ext y1) (cL h.ext y2)))))) ?_
 refine Stab.mO 2 s1 hf hok ?_
 refine Stab.T 3 hf hok (fun _ _ h d => ad (Stab.O h s9) (ad (cL h.ext e0w) (ad (cL h.ext k0) (ad (cL h.ext y0) (ad (cL h.ext y1) (cL h.ext y2)))))) ?_
 apply Stab.tq 4 _ hf hok
 . (
 intro fr1 w1 hh hd hk K Z
 have s26 := Stab.v 2 1 hd hk []
 have s27 := Stab.v 3 0 hd hk []
 clear hd
 replace e0w := cL hh.ext e0w
 replace k0 := cL hh.ext k0
 replace y0 := cL hh.ext y0
 replace y1 := cL hh.ext y1
 replace y2 := cL hh.ext y2
 refine call_wp (g := g1) (args := #[.agg #[.slice A2 st.arcs.length c2, .bool st.final, .int .u64 st.out]]) (by simp [execOp, go_sem, s26, s27, eg1]) (hown _ _ _ _ hst ⟨_, _, _, rfl⟩) ?_
 rintro e w2 ⟨rfl, hb⟩
 exact ⟨_, rfl, Z.out _ rfl _ _ hb rfl⟩)
 refine Tail.todo_tail (n := 62) (m := 5) (ws := []) (by kernel_rfl) hf.size hok.out rfl rfl (by kernel_rfl) (fun fr1 w1 hh hg => ?_)
 replace s1 := Stab.O hh s1
 replace s3 := Stab.O hh s3
 replace s5 := Stab.O hh s5
 replace s6 := Stab.O hh s6
 replace s7 := Stab.O hh s7
 replace s8 := Stab.O hh s8
 replace s9 := Stab.O hh s9
 replace s17 := Stab.O hh s17
 replace s18 := Stab.O hh s18
 replace s19 := Stab.O hh s19
 replace s20 := Stab.O hh s20
 replace s21 := Stab.O hh s21
 replace s22 := Stab.O hh s22
 replace s23 := Stab.O hh s23
 have s24 := Tail.got_is 0 4 hg rfl rfl rfl rfl rfl
 have s25 := Tail.got_is 1 3 hg rfl rfl rfl rfl rfl
 have s26 := Tail.got_is 2 2 hg rfl rfl rfl rfl rfl
 have s27 := Tail.got_is 3 1 hg rfl rfl rfl rfl rfl
 have s28 := Tail.got_is 4 0 hg rfl rfl rfl rfl rfl
 have hf1 : Fact.FrD ds 62 fr1 := ⟨hh.size.trans hf.size, hh.defers.trans hf.defers⟩
 have hx := hh.ext
 replace e0w := cL hx e0w
 replace k0 := cL hx k0
 replace y0 := cL hx y0
 replace y1 := cL hx y1
 replace y2 := cL hx y2
 clear hg hh hf hok
 have hf := hf1; clear hf1
 have b29 := hf.b 29
 replace hck := hck.trans (CK.of_below hx)
 replace hcl := hcl.below hx.size hx
 replace hri := hri.later hx
 replace hrn := hrn.below (hx.mono hb.size)
 replace hb := hb.trans (hx.mono hb.size)
 have hvl : (foundV (⟨0, false, false⟩ : Most) o wi (ss.take i)).length = i := foundV_len i hi
 have fz0 := hri.frozen (j := i * 3)
 have fz1 := hri.frozen (j := i * 3 + 1)
 have fz2 := hri.frozen (j := i * 3 + 2)
 obtain ⟨hci0, hci1, hci2⟩ := hri.cell (gE1 (by rw [padV_len (by omega)]; exact hlt))
 refine Tail.seq_op rfl rfl (fun K Z => ?_)
 go_simp
 try rw [if_pos (by omega)]
 apply Z.out; clear Z K
 simp only [Most.val] at s28
 refine Tail.seq_op rfl rfl (fun K Z => ?_)
 go_simp
 apply Z.out; clear Z K
 refine Tail.seq_nil rfl ?_
 refine Fact.q hf (by simp only [Fact.G]) rfl fun fr1 hf1 hT => ?_
 have hKp : _ /\ _ /\ _ /\ _ /\ _ /\ _ /\ _ /\ _ /\ _ /\ _ /\ _ /\ _ /\ _ /\ _ /\ _ /\ _ /\ _ /\ _ /\ _ /\ _ := ⟨hT 1, hT 3, hT 5, hT 6, hT 7, hT 8, hT 9, hT 17, hT 18, hT 19, hT 20, hT 21, hT 22, hT 23, hT 24, hT 25, hT 26, hT 27, hT 28, hT 29⟩
 simp (decide := true) only [Fact.G, hf.size, reduceIte, s1, s3, s5, s6, s7, s8, s9, s17, s18, s19, s20, s21, s22, s23, s24, s25, s26, s27, s28] at hKp
 replace hf := hf1; clear hT hf1 s1 s3 s5 s6 s7 s8 s9 s17 s18 s19 s20 s21 s22 s23 s24 s25 s26 s27 s28 b29
 obtain ⟨s1, s3, s5, s6, s7, s8, s9, s17, s18, s19, s20, s21, s22, s23, s24, s25, s26, s27, s28, s29⟩ := hKp
 refine Zx hK9 ?_
 generalize hW5 : ((w1.setCell ⟨G, i * 3, none⟩ (.int .u64 (o st).n)).setCell ⟨G, i * 3 + 1, none⟩ (.bool (o st).fits)).setCell ⟨G, i * 3 + 2, none⟩ (.bool (o st).any) = W5
 obtain ⟨hcs, -, hbs, hz5, hhs⟩ := set3 hW5
 replace hck := hck.trans hcs
 replace hcl := hcl.turn (Nat.le_of_eq hz5.symm) fun D hD _ hh => (hhs D (by omega)).trans hh
 replace hri := hri.set hW5
 replace hrn := hrn.ck (by omega) hcs
 replace hb := hb.trans (hbs _ (by omega))
 have c0w := hck.2.1 _ _ (by simp only; omega) c0; have c1w := hck.2.1 _ _ (by simp only; omega) c1
 replace k0 := hcs.2.1 _ _ (by simp only; omega) k0
 clear e0w y0 y1 y2 fz0 fz1 fz2 hci0 hci1 hci2 hW5 hx hhs hbs
 have hrs5 := hrn.rs
 refine Ze fun _ hK10 => rg ?_
 have bB := hf.B2 30 31
 iterate 2 refine Zy ?_
 refine Zc (ways141 W5 _ init i ss hrs5) ?_; rintro e W6 ⟨rfl, u0, u1, v0, hb6, -, -⟩
 have hN6 : w.heap.size <= W5.heap.size := hb.size
 clear hrs5 hcs
 have hGB5 := hri.lt
 replace hck := hck.trans (CK.of_below hb6)
 replace hcl := hcl.below hb6.size hb6
 replace hri := hri.later hb6
 replace hrn := hrn.below (hb6.mono hb.size)
 replace hb := hb.trans (hb6.mono hb.size)
 replace k0 := cL hb6 k0
 obtain ⟨q6, hq6⟩ : ∃ x, W5.heap.size = x := ⟨_, rfl⟩
 have hGq : G < q6 := by rw [<- hq6]; exact hGB5
 rw [hq6] at u0 u1 v0 |-
 skip
 refine Zv ?_
 refine Fact.nil ?_
 clear bB
 refine Fact.q hf (by simp only [Fact.G]) rfl fun fr1 hf1 hT => ?_
 have hKp : _ /\ _ /\ _ /\ _ /\ _ /\ _ /\ _ /\ _ /\ _ /\ _ /\ _ /\ _ /\ _ /\ _ /\ _ /\ _ /\ _ /\ _ /\ _ /\ _ /\ _ /\ _ /\ _ := ⟨hT 1, hT 3, hT 5, hT 6, hT 7, hT 8, hT 9, hT 17, hT 18, hT 19, hT 20, hT 21, hT 22, hT 23, hT 24, hT 25, hT 26, hT 27, hT 28, hT 29, hT 30, hT 31, hT 32⟩
 simp (decide := true) only [Fact.G, hf.size, reduceIte, s1, s3, s5, s6, s7, s8, s9, s17, s18, s19, s20, s21, s22, s23, s24, s25, s26, s27, s28, s29] at hKp
 replace hf := hf1; clear hT hf1 s1 s3 s5 s6 s7 s8 s9 s17 s18 s19 s20 s21 s22 s23 s24 s25 s26 s27 s28 s29
 obtain ⟨s1, s3, s5, s6, s7, s8, s9, s17, s18, s19, s20, s21, s22, s23, s24, s25, s26, s27, s28, s29, s30, s31, s32⟩ := hKp
 refine Zx hK10 (wp_block ?_)
 have hGB : G < W6.heap.size := hri.lt
 have hNB : w.heap.size <= W6.heap.size := hb.size
 have hal := hfm _ _ hst
 have hit := ways_iter (9 - 1) q6 (q6 + 1) G w.heap.size init i ss st _ W6 (by omega) hGB hNB (by have := hGq; omega) (by have := hGq; omega) u0 u1 v0 hrn hst (by omega) hal (Nat.le_trans (arcs_few hal (hok _ (gM1 hst))) (by omega))
 refine (wpIn_wide (n := 9)).1 ?_
 refine wpIn_range (C := fun _ => False) (Fact.eval_tmp s32) (enters_of Tryz.func156 (by kernel_rfl) rfl) hit CK.trans (fun W o o' ho hc _ => CK.put o' ho hc) (Below.refl _ _) (fun _ => rfl) (fun pre W => CK G W6 W /\ RM W G (((padV (⟨0, false, false⟩ : Most) ss.length (foundV (⟨0, false, false⟩ : Most) o wi (ss.take i)))).set i (foldA (⟨0, false, false⟩ : Most) wi (foundV (⟨0, false, false⟩ : Most) o wi (ss.take i)) (o st) pre)) /\ Below w.heap.size w W /\ Coll G ds W6.heap.size W) (fun _ _ _ => False) (fun s => Stays.and Stays.ck (Stays.and (RM.stays hGB) (Stays.and (Stays.below (Nat.le_refl _) hNB) (Stays.coll (Nat.le_refl _))))) (fun _ _ => Stays.pure _ _ _) ⟨CK.refl _ _, hri, hb, hcl⟩ (fun (x : Arc) a' W => ∃ Bx, (Fact.Fr 62 a' /\ a'.tmps[5]? = some (.pointer (some ⟨(w.heap.size + 1), 0, none⟩)) /\ a'.tmps[7]? = some (.pointer (some ⟨(G + 1), 0, none⟩)) /\ a'.tmps[8]? = some (.pointer (some ⟨q8, 0, none⟩)) /\ a'.tmps[11]? = some (.pointer (some ⟨Bx, 0, none⟩))) /\ (W.cell? ⟨Bx, 0, none⟩ = some (.int .i64 x.to) /\ W.cell? ⟨Bx, 1, none⟩ = some (.int .u64 x.out))) (fun x a' => Stays.ex fun Bx => Stays.and (Stays.pure _ _ _) (Stays.and Stays.cell Stays.cell)) ?_ ?_ ?_ ?_
 . (
 rintro l pre x W K ⟨ck1, ri1, hbw, cl1⟩ hKK
 refine assign2 (M := fun a => Code.wpIn _ _ _ _ _ a _) hf rfl rfl rfl fun a1 hf1 h33 h34 hold => ?_
 have s5 := (hold 5 rfl rfl).trans s5; have s7 := (hold 7 rfl rfl).trans s7; have s8 := (hold 8 rfl rfl).trans s8; have s34 := h34
 clear hold h33 h34
 have hf := hf1; clear hf1
 refine Inr.rgI (r := some l) ?_
 have b11 := hf.b 11
 refine Inr.fpI fun K Z => ?_
 go_simp
 apply Z.out; clear Z K
 refine Inr.fpI fun K Z => ?_
 go_simp
 apply Z.out; clear Z K
 refine Inr.nilI ?_
 refine Zq4 5 7 8 11 hf ?_
 clear hf s5 s7 s8 s34 b11; intro fr1 hf sS
 refine Fact.then_normal ?_
 generalize hW7 : W.alloc (.cells #[.int .i64 x.to, .int .u64 x.out] 233) = W7
 obtain ⟨hb7, b0, b1, -, -⟩ := box2 hW7
 obtain ⟨s5, s7, s8, s11⟩ := sS
 exact hKK _ _ ((keeps_belowD hb7).from _) (CK.of_below hb7) ⟨ck1.trans (CK.of_below hb7), ri1.later hb7, hbw.trans (hb7.mono hbw.size), cl1.turn (Nat.le_refl _) fun D _ _ hh => (hb7.block D (heap_lt hh)).trans hh⟩ ⟨_, ⟨hf, s5, s7, s8, s11⟩, b0, b1⟩)
 . (
 clear hf s1 s3 s5 s6 s7 s8 s9 s17 s18 s19 s20 s21 s22 s23 s24 s25 s26 s27 s28 s29 s30 s31 s32
 rintro l pre x a1 W hl _ ⟨ck1, ri1, hbw, cl1⟩ ⟨Bx, ⟨hf, s5, s7, s8, s11⟩, z0, z1⟩ hpre
 have hxm : x ∈ st.arcs := hpre.subset (by simp)
 have hxt := okArcs_to hal hxm
 obtain ⟨c, hc⟩ : ∃ c : Nat, x.to = (c : Int) := ⟨x.to.toNat, by omega⟩
 rw [hc] at z0
 have hci : c < i := by omega
 have okx := fold_ok (z := (⟨0, false, false⟩ : Most)) ho hw hok hfm hst pre ((List.prefix_append _ _).trans hpre)
 have okc := found_ok (z := (⟨0, false, false⟩ : Most)) ho hw hok hfm i hi c ((foundV (⟨0, false, false⟩ : Most) o wi (ss.take i)).getD c (⟨0, false, false⟩ : Most)) (by rw [List.getD_eq_getElem?_getD, gE1 (by omega)]; rfl)
 have hou := ((hok _ (gM1 hst)).2.2 x hxm).2.1
 have hfs := foldA_snoc (z := (⟨0, false, false⟩ : Most)) (wi := wi) (foundV (⟨0, false, false⟩ : Most) o wi (ss.take i)) (o st) pre x
 rw [show x.to.toNat = c by omega] at hfs
 obtain ⟨X, hX⟩ : ∃ y, foldA (⟨0, false, false⟩ : Most) wi (foundV (⟨0, false, false⟩ : Most) o wi (ss.take i)) (o st) pre = y := ⟨_, rfl⟩
 obtain ⟨Y, hY⟩ : ∃ y, (foundV (⟨0, false, false⟩ : Most) o wi (ss.take i)).getD c (⟨0, false, false⟩ : Most) = y := ⟨_, rfl⟩
 rw [hX] at okx hfs ri1
 rw [hY] at okc hfs
 have rx := padV_at (z := (⟨0, false, false⟩ : Most)) (n := ss.length) X hvl hlt
 have ry := padV_old (z := (⟨0, false, false⟩ : Most)) (n := ss.length) X hvl hci
 rw [hY] at ry
 obtain ⟨r10, r11, r12⟩ := ri1.cell (rx)
 obtain ⟨r20, r21, r22⟩ := ri1.cell (ry)
 clear rx ry
 have d0w := ck1.2.1 _ _ (by simp only; omega) (hck.2.1 _ _ (by simp only; omega) d0); have e0w := ck1.2.1 _ _ (by simp only; omega) (hck.2.1 _ _ (by simp only; omega) e0); have k0w := ck1.2.1 _ _ (by simp only; have := hq8G; omega) k0
 have HX := Lib.hid hX; have HY := Lib.hid hY; have HC := Lib.hid hc; have HFS := Lib.hid hfs; clear hX hY hc hfs
 refine wpIn_block ?_
 refine Inr.drawnB (r := some l) (k := 62) (fun ⟨_, _, h⟩ => h) (Stab.OkOps.of (by kernel_rfl)) (fun hok => ?_)
 refine Stab.T 0 hf hok (fun _ _ h d => ad (Stab.O h s7) (ad (cL h.ext d0w) (ad (cL h.ext e0w) (ad (cL h.ext k0w) (ad (cL h.ext z0) (ad (cL h.ext z1) (ad (cL h.ext r10) (ad (cL h.ext r11) (ad (cL h.ext r12) (ad (cL h.ext r20) (ad (cL h.ext r21) (cL h.ext r22)))))))))))) ?_
 refine Stab.T 1 hf hok (fun _ _ h d => ad (Stab.O h s8) (ad (cL h.ext d0w) (ad (cL h.ext e0w) (ad (cL h.ext k0w) (ad (cL h.ext z0) (ad (cL h.ext z1) (ad (cL h.ext r10) (ad (cL h.ext r11) (ad (cL h.ext r12) (ad (cL h.ext r20) (ad (cL h.ext r21) (cL h.ext r22)))))))))))) ?_
 refine Stab.T 2 hf hok (fun _ _ h d => ad (Stab.O h s5) (ad (cL h.ext d0w) (ad (cL h.ext e0w) (ad (cL h.ext k0w) (ad (cL h.ext z0) (ad (cL h.ext z1) (ad (cL h.ext r10) (ad (cL h.ext r11) (ad (cL h.ext r12) (ad (cL h.ext r20) (ad (cL h.ext r21) (cL h.ext r22)))))))))))) ?_
 refine Stab.T 3 hf hok (fun _ _ h d => ad (Stab.O h s7) (ad (cL h.ext d0w) (ad (cL h.ext e0w) (ad (cL h.ext k0w) (ad (cL h.ext z0) (ad (cL h.ext z1) (ad (cL h.ext r10) (ad (cL h.ext r11) (ad (cL h.ext r12) (ad (cL h.ext r20) (ad (cL h.ext r21) (cL h.ext r22)))))))))))) ?_
 refine Stab.T 4 hf hok (fun _ _ h d => ad (Stab.O h s8) (ad (cL h.ext d0w) (ad (cL h.ext e0w) (ad (cL h.ext k0w) (ad (cL h.ext z0) (ad (cL h.ext z1) (ad (cL h.ext r10) (ad (cL h.ext r11) (ad (cL h.ext r12) (ad (cL h.ext r20) (ad (cL h.ext r21) (cL h.ext r22)))))))))))) ?_
 refine Stab.Ti 5 hf hok (fun _ _ h d => ad (Stab.vd 3 1 d []) (Stab.vd 4 0 d [])) ?_
 refine Stab.T 6 hf hok (fun _ _ h d => ad (Stab.vd 5 0 d []) (ad (cL h.ext d0w) (ad (cL h.ext e0w) (ad (cL h.ext k0w) (ad (cL h.ext z0) (ad (cL h.ext z1) (ad (cL h.ext r10) (ad (cL h.ext r11) (ad (cL h.ext r12) (ad (cL h.ext r20) (ad (cL h.ext r21) (cL h.ext r22)))))))))))) ?_
 refine Stab.T 7 hf hok (fun _ _ h d => ad (Stab.O h s7) (ad (cL h.ext d0w) (ad (cL h.ext e0w) (ad (cL h.ext k0w) (ad (cL h.ext z0) (ad (cL h.ext z1) (ad (cL h.ext r10) (ad (cL h.ext r11) (ad (cL h.ext r12) (ad (cL h.ext r20) (ad (cL h.ext r21) (cL h.ext r22)))))))))))) ?_
 refine Stab.T 8 hf hok (fun _ _ h d => Stab.O h s11) ?_
 refine Stab.T 9 hf hok (fun _ _ h d => ad (Stab.vd 8 0 d []) (ad (cL h.ext d0w) (ad (cL h.ext e0w) (ad (cL h.ext k0w) (ad (cL h.ext z0) (ad (cL h.ext z1) (ad (cL h.ext r10) (ad (cL h.ext r11) (ad (cL h.ext r12) (ad (cL h.ext r20) (ad (cL h.ext r21) (cL h.ext r22)))))))))))) ?_
 refine Stab.Ti 10 hf hok (fun _ _ h d => ad (Stab.vd 7 2 d []) (Stab.vd 9 0 d [])) ?_
 refine Stab.T 11 hf hok (fun _ _ h d => ad (Stab.vd 10 0 d []) (ad (cL h.ext d0w) (ad (cL h.ext e0w) (ad (cL h.ext k0w) (ad (cL h.ext z0) (ad (cL h.ext z1) (ad (cL h.ext r10) (ad (cL h.ext r11) (ad (cL h.ext r12) (ad (cL h.ext r20) (ad (cL h.ext r21) (cL h.ext r22)))))))))))) ?_
 refine Stab.T 12 hf hok (fun _ _ h d => Stab.O h s11) ?_
 refine Stab.T 13 hf hok (fun _ _ h d => ad (Stab.vd 12 0 d []) (ad (cL h.ext d0w) (ad (cL h.ext e0w) (ad (cL h.ext k0w) (ad (cL h.ext z0) (ad (cL h.ext z1) (ad (cL h.ext r10) (ad (cL h.ext r11) (ad (cL h.ext r12) (ad (cL h.ext r20) (ad (cL h.ext r21) (cL h.ext r22)))))))))))) ?_
 apply Stab.tq 14 _ hf hok
 . (
 intro fr1 w1 hh hd hk K Z
 have s37 := Stab.v 2 11 hd hk []
 have s41 := Stab.v 6 7 hd hk []
 have s46 := Stab.v 11 2 hd hk []
 have s48 := Stab.v 13 0 hd hk []
 clear hd
 replace d0w := cL hh.ext d0w
 replace e0w := cL hh.ext e0w
 replace k0w := cL hh.ext k0w
 replace z0 := cL hh.ext z0
 replace z1 := cL hh.ext z1
 replace r10 := cL hh.ext r10
 replace r11 := cL hh.ext r11
 replace r12 := cL hh.ext r12
 replace r20 := cL hh.ext r20
 replace r21 := cL hh.ext r21
 replace r22 := cL hh.ext r22
 refine call_wp (g := g2) (args := #[(X).val, (Y).val, .int .u64 x.out]) (by simp [execOp, go_sem, s37, s41, s46, s48, eg2, Most.val]) (hwith _ i c X Y x.out okx hci okc hou) ?_
 rintro e w2 ⟨rfl, hbz⟩
 exact ⟨_, rfl, Z.out _ rfl _ _ hbz rfl⟩)
 refine Tail.todo_tail (n := 62) (m := 15) (ws := []) (by kernel_rfl) hf.size hok.out rfl rfl (by kernel_rfl) (fun fr1 w1 hh hg => ?_)
 have s35 := Tail.got_is 0 14 hg rfl rfl rfl rfl rfl
 have s36 := Tail.got_is 1 13 hg rfl rfl rfl rfl rfl
 have s49 := Tail.got_is 14 0 hg rfl rfl rfl rfl rfl
 have hf1 := hh.fr hf
 have hx := hh.ext
 replace d0w := cL hx d0w
 replace e0w := cL hx e0w
 replace k0w := cL hx k0w
 replace z0 := cL hx z0
 replace z1 := cL hx z1
 replace r10 := cL hx r10
 replace r11 := cL hx r11
 replace r12 := cL hx r12
 replace r20 := cL hx r20
 replace r21 := cL hx r21
 replace r22 := cL hx r22
 clear hg hh hf hok s5 s7 s8 s11
 have hf := hf1; clear hf1
 have b50 := hf.b 50
 have ri2 := ri1.later hx
 have fz0 := ri2.frozen (j := i * 3)
 have fz1 := ri2.frozen (j := i * 3 + 1)
 have fz2 := ri2.frozen (j := i * 3 + 2)
 refine Tail.seq_op rfl rfl (fun K Z => ?_)
 go_simp
 try rw [if_pos (by omega)]
 apply Z.out; clear Z K
 simp only [Most.val] at s49
 refine Tail.seq_op rfl rfl (fun K Z => ?_)
 go_simp
 apply Z.out; clear Z K
 refine Tail.seq_nil rfl ?_
 refine Zq0 hf ?_
 clear hf s35 s36 s49 b50; intro fr1 hf
 refine Fact.block_normal ?_
 generalize hW9 : ((w1.setCell ⟨G, i * 3, none⟩ (.int .u64 (wi X Y x.out).n)).setCell ⟨G, i * 3 + 1, none⟩ (.bool (wi X Y x.out).fits)).setCell ⟨G, i * 3 + 2, none⟩ (.bool (wi X Y x.out).any) = W9
 obtain ⟨hcs, hko, hbs, -, hhs⟩ := set3 hW9
 refine ⟨((keeps_belowD hx).trans hko).from _, (CK.of_below hx).trans hcs, (ck1.trans (CK.of_below hx)).trans hcs, ?_, (hbw.trans (hx.mono hbw.size)).trans (hbs _ (by omega)), (cl1.turn (Nat.le_refl _) fun D _ _ hh => (hx.block D (heap_lt hh)).trans hh).turn (Nat.le_refl _) fun D hD _ hh => (hhs D (by omega)).trans hh⟩
 have h := ri2.set hW9
 rw [List.set_set] at h
 rw [HFS.out]
 exact h)
 . (
 clear k0
 rintro D xs W hD rfl ⟨ck1, ri1, hbw, cl1⟩ hDh
 refine Fact.reQ (n := 62) (ds := { target := .collected D, args := #[] } :: ds) hf.size (by rw [hf.defers]) (fun fr2 hf2 hT => ?_)
 have s1 := (hT 1).trans s1
 have s3 := (hT 3).trans s3
 have s5 := (hT 5).trans s5
 have s6 := (hT 6).trans s6
 have s7 := (hT 7).trans s7
 have s17 := (hT 17).trans s17
 have s18 := (hT 18).trans s18
 have s19 := (hT 19).trans s19
 clear hT hf
 have hf := hf2; clear hf2
 replace hck := hck.trans ck1
 replace hrn := hrn.ck (by omega) ck1
 rw [padV_step _ hvl hlt, <- foundV_take hst] at ri1
 have hcl2 : Coll G ({ target := .collected D, args := #[] } :: ds) W.heap.size W := ⟨D, rfl, Nat.lt_of_lt_of_le hGB hD, heap_lt hDh, hDh, cl1.turn hD fun _ _ _ hh => hh⟩
 clear hcl ck1 cl1 hri hb hit u0 u1 v0 hDh
 refine Fact.block_normal (Fact.block_normal (Zx hK7 (Zr [51] hf ?_)))
 refine Zq9 1 3 5 6 7 17 18 19 51 hf ?_
 clear hf s1 s3 s5 s6 s7 s17 s18 s19; intro fr1 hf sS
 refine Fact.then_normal ?_
 obtain ⟨s1, s3, s5, s6, s7, s17, s18, s19, s51⟩ := sS
 exact ⟨_, by have := HK.out; omega, i + 1, _, rfl, by omega, hf, s1, s3, s5, s6, s7, s17, s18, by rw [s19]; rfl, hcl2, hck, ri1, hrn, hbw⟩)
 . (
 rintro D c pre W _ _ h _
 exact h.elim))
 . (
 have hie : i = ss.length := by have h9 := of_decide_eq_false hq; omega
 clear hq
 rw [hie, List.take_length] at hri
 have e0w := hck.2.1 _ _ (by simp only; omega) e0
 rw [padV_full (foundV_len_all _)] at hri
 replace hp6 := hck.2.2 _ _ (by omega) rfl hp6
 refine Zo ?_
 refine Zs hK3 fun _ hK11 => Ze fun _ hK12 => Zr [52, 53] hf ?_
 refine Zq3 6 7 54 hf ?_
 clear hf sS; intro fr1 hf sS
 refine Zx hK12 (Fact.cond_s sS.2.2 (fun hq2 => ?_) (fun hq2 => ?_))
 . (
 obtain ⟨k, hk⟩ : ∃ k, ss.length = k + 1 := ⟨ss.length - 1, by have h9 := of_decide_eq_true hq2; omega⟩
 clear hq2
 have e4 : IntKind.i64.wrap ((ss.length : Int) - 1) = (k : Int) := by rw [Fact.wrap_i64 (by omega) (by omega)]; omega
 have hfl := foundV_len_all (z := (⟨0, false, false⟩ : Most)) (o := o) (wi := wi) ss
 have hkl : k < (foundV (⟨0, false, false⟩ : Most) o wi ss).length := by omega
 obtain ⟨r10, r11, r12⟩ := hri.cell (gE1 hkl)
 have hgl : (foundV (⟨0, false, false⟩ : Most) o wi ss).getLastD (⟨0, false, false⟩ : Most) = (foundV (⟨0, false, false⟩ : Most) o wi ss)[k] := by rw [List.getLastD_eq_getLast?, List.getLast?_eq_getElem?, hfl, hk, Nat.add_sub_cancel, gE1 hkl]; rfl
 obtain ⟨X, hX⟩ : ∃ y, (foundV (⟨0, false, false⟩ : Most) o wi ss)[k] = y := ⟨_, rfl⟩
 rw [hX] at hgl r10 r11 r12
 have q0 := cR1 0 hp6; have f0 := frozen_of (i := 0) hp6
 have q1 := cR1 1 hp6; have f1 := frozen_of (i := 1) hp6
 have q2 := cR1 2 hp6; have f2 := frozen_of (i := 2) hp6
 simp at q0 q1 q2
 refine rg ?_
 have bB := hf.B6 55 56 57 58 59 60
 iterate 3 refine Zy ?_
 refine fp fun K Z => ?_
 go_simp
 try simp (disch := omega) only [Fact.W]
 try rw [e4]
 apply Z.out; clear Z K
 iterate 3 refine Zy ?_
 refine Fact.nil (Zq1 6 hf ?_)
 clear hf sS bB; intro fr1 hf s6
 generalize hV1 : ((wr.setCell ⟨w.heap.size + 1 + 1, 0, none⟩ (.int .u64 (X).n)).setCell ⟨w.heap.size + 1 + 1, 1, none⟩ (.bool (X).fits)).setCell ⟨w.heap.size + 1 + 1, 2, none⟩ (.bool (X).any) = V1
 obtain ⟨hp6, hbv, hhv⟩ := res3 hp6 hV1
 replace hb := hb.trans (hbv _ (by omega))
 replace hcl := hcl.turn (Nat.le_refl _) fun D hD _ hh => (hhv D (by omega)).trans hh
 clear hbv hhv hV1
 have q0 := cR1 0 hp6; have f0 := frozen_of (i := 0) hp6
 have q1 := cR1 1 hp6; have f1 := frozen_of (i := 1) hp6
 have q2 := cR1 2 hp6; have f2 := frozen_of (i := 2) hp6
 simp at q0 q1 q2
 refine Zs hK11 fun _ hK13 => Zr [61] hf ?_
 refine Zq1 6 hf ?_
 clear hf s6; intro fr1 hf s6
 refine Zx hK13 (Zret ?_)
 generalize hV2 : ((V1.setCell ⟨w.heap.size + 1 + 1, 0, none⟩ (.int .u64 (X).n)).setCell ⟨w.heap.size + 1 + 1, 1, none⟩ (.bool (X).fits)).setCell ⟨w.heap.size + 1 + 1, 2, none⟩ (.bool (X).any) = V2
 obtain ⟨hp6, hbv, hhv⟩ := res3 hp6 hV2
 replace hb := hb.trans (hbv _ (by omega))
 replace hcl := hcl.turn (Nat.le_refl _) fun D hD _ hh => (hhv D (by omega)).trans hh
 clear hbv hhv hV2
 exact retMc rfl hf s6 hp6 (by omega) Tryz.underlying192 rfl (by kernel_rfl) hcl fun w' hw => ⟨by rw [hgl]; rfl, hb.trans (hw.mono (by omega))⟩)
 . (
 have hn0 : ss = [] := by have h9 := of_decide_eq_false hq2; exact List.length_eq_zero_iff.1 (by omega)
 clear hq2
 have q0 := cR1 0 hp6; have f0 := frozen_of (i := 0) hp6
 have q1 := cR1 1 hp6; have f1 := frozen_of (i := 1) hp6
 have q2 := cR1 2 hp6; have f2 := frozen_of (i := 2) hp6
 simp at q0 q1 q2
 refine wp_skip (Zs hK11 fun _ hK14 => Zr [61] hf ?_)
 refine Zq1 6 hf ?_
 clear hf sS; intro fr1 hf s6
 refine Zx hK14 (Zret ?_)
 generalize hV2 : ((wr.setCell ⟨w.heap.size + 1 + 1, 0, none⟩ (.int .u64 0)).setCell ⟨w.heap.size + 1 + 1, 1, none⟩ (.bool false)).setCell ⟨w.heap.size + 1 + 1, 2, none⟩ (.bool false) = V2
 obtain ⟨hp6, hbv, hhv⟩ := res3 hp6 hV2
 replace hb := hb.trans (hbv _ (by omega))
 replace hcl := hcl.turn (Nat.le_refl _) fun D hD _ hh => (hhv D (by omega)).trans hh
 clear hbv hhv hV2
 exact retMc rfl hf s6 hp6 (by omega) Tryz.underlying192 rfl (by kernel_rfl) hcl fun w' hw => ⟨by rw [hn0]; rfl, hb.trans (hw.mono (by omega))⟩)))
def cntO (st : State) : Int := if st.final then 1 else 0
def cntW (x c : Int) (_ : Nat) : Int := min (x + c) 100001
def cntV (ss : List State) : Int := (foundV 0 cntO cntW ss).getLastD 0
def lngO (st : State) : Int := if st.final then 0 else -1
def lngV (ss : List State) : Int := (foundV 0 lngO (fun x c _ => lngW x c) ss).getLastD 0
def gtO (st : State) : Most := ⟨st.out, true, st.final⟩
def gtW (x c : Most) (u : Nat) : Most := x.or ⟨(c.n + u) % M64, c.fits && decide (c.n + u < M64), c.any⟩
def gtV (ss : List State) : Most := (foundV ⟨0, false, false⟩ gtO gtW ss).getLastD ⟨0, false, false⟩
def gtst (ss : List State) (init : Nat) : Bool := (gtV ss).any && ((gtV ss).fits && decide ((gtV ss).n + init < M64) && decide (((gtV ss).n + init) % M64 <= 4294967296))
theorem last_ok {α : Type} {z : α} {o : State -> α} {wi : α -> α -> Nat -> α} {ss : List State} {Ok : Nat -> α -> Prop} (ho : ∀ i st, ss[i]? = some st -> Ok i (o st)) (hw : ∀ i j x c u, Ok i x -> j < i -> Ok j c -> u < 18446744073709551616 -> Ok i (wi x c u))
  (hok : ∀ s ∈ ss, okS s) (hfm : ∀ (k : Nat) (st : State), ss[k]? = some st -> okArcs k (-1) st.arcs = true) (hz : Ok 0 z) : ∃ i, Ok i ((foundV z o wi ss).getLastD z) := by
 rw [List.getLastD_eq_getLast?]
 cases h : (foundV z o wi ss).getLast? with
 | none => exact ⟨0, hz⟩
 | some x =>
  rw [List.getLast?_eq_getElem?] at h
  refine ⟨_, found_ok (z := z) ho hw hok hfm ss.length (Nat.le_refl _) ((foundV z o wi ss).length - 1) x ?_⟩
  rw [List.take_length]
  exact h
def cntOk (_ : Nat) (x : Int) : Prop := 0 <= x /\ x <= 100001
theorem cnt_o (ss : List State) : ∀ i st, ss[i]? = some st -> cntOk i (cntO st) := fun i st _ => by unfold cntOk cntO; split <;> omega
theorem cnt_w : ∀ (i j : Nat) (x c : Int) (u : Nat), cntOk i x -> j < i -> cntOk j c -> u < 18446744073709551616 -> cntOk i (cntW x c u) := fun i j x c u h1 _ h2 _ => by unfold cntOk cntW at *; omega
def lngOk (i : Nat) (x : Int) : Prop := -1 <= x /\ x <= i /\ i <= 1000000
theorem lng_o (ss : List State) (hlen : ss.length <= 1000000) : ∀ i st, ss[i]? = some st -> lngOk i (lngO st) := fun i st h => by have := (gS1 h).1; unfold lngOk lngO; split <;> omega
theorem lng_w : ∀ (i j : Nat) (x c : Int) (u : Nat), lngOk i x -> j < i -> lngOk j c -> u < 18446744073709551616 -> lngOk i (lngW x c) := fun i j x c u h1 h3 h2 _ => by unfold lngOk lngW at *; split <;> omega
def gtOk (_ : Nat) (m : Most) : Prop := m.n < M64
theorem gt_o (ss : List State) (hok : ∀ s ∈ ss, okS s) : ∀ i st, ss[i]? = some st -> gtOk i (gtO st) := fun i st h => (hok _ (gM1 h)).1
theorem gt_w : ∀ (i j : Nat) (x c : Most) (u : Nat), gtOk i x -> j < i -> gtOk j c -> u < 18446744073709551616 -> gtOk i (gtW x c u) := fun i j x c u h1 _ h2 _ => by
 unfold gtOk gtW Most.or M64 at *
 split
 ·split
  ·simp only; omega
  ·simp only; omega
 ·exact h1
theorem cntV_ok (ss : List State) (hlen : ss.length <= 1000000) (hok : ∀ s ∈ ss, okS s) (hfm : ∀ (k : Nat) (st : State), ss[k]? = some st -> okArcs k (-1) st.arcs = true) : 0 <= cntV ss /\ cntV ss <= 100001 := by
 obtain ⟨i, h⟩ := last_ok (cnt_o ss) cnt_w hok hfm (z := 0) (by unfold cntOk; omega)
 exact h
theorem gtV_ok (ss : List State) (hlen : ss.length <= 1000000) (hok : ∀ s ∈ ss, okS s) (hfm : ∀ (k : Nat) (st : State), ss[k]? = some st -> okArcs k (-1) st.arcs = true) : (gtV ss).n < M64 := by
 obtain ⟨i, h⟩ := last_ok (gt_o ss hok) gt_w hok hfm (z := ⟨0, false, false⟩) (by unfold gtOk M64; simp only; omega)
 exact h
theorem fcount (w : World) (sv : Value) (init : Nat) (ss : List State) (hrs : RS w sv ss) (hlen : ss.length <= 1000000) (hok : ∀ s ∈ ss, okS s) (hfm : ∀ (k : Nat) (st : State), ss[k]? = some st -> okArcs k (-1) st.arcs = true) : Calls Tryz.prog 105 #[.agg #[sv, .int .u64 init], .func (.func 106) #[] #[], .func (.func 107) #[] #[]] w fun e w1 => e = .returned (.int .i64 (cntV ss)) /\ Below w.heap.size w w1 := by
 refine found105 cntO cntW w sv init ss hrs hlen cntOk (enters_of Tryz.func106 (by kernel_rfl) rfl) (enters_of Tryz.func107 (by kernel_rfl) rfl) (cnt_o ss) cnt_w hok hfm ?_ ?_
 ·intro W av i st _ hav
  unfold cntO
  cases hfin : st.final with
  | false => exact cnt1f W av st.out hav
  | true => exact cnt1t W av st.out hav
 ·intro W i j x c u h1 _ h2 _
  obtain ⟨a, rfl⟩ := Int.eq_ofNat_of_zero_le h1.1
  obtain ⟨b, rfl⟩ := Int.eq_ofNat_of_zero_le h2.1
  have h3 := h1.2
  have h4 := h2.2
  refine (cnt2 W a b (.int .u64 u) (by omega) (by omega)).mono ?_
  rintro e w2 ⟨rfl, rfl⟩
  exact ⟨by unfold cntW; congr 2; omega, Below.refl _ _⟩
theorem flng (w : World) (sv : Value) (init : Nat) (ss : List State) (hrs : RS w sv ss) (hlen : ss.length <= 1000000) (hok : ∀ s ∈ ss, okS s) (hfm : ∀ (k : Nat) (st : State), ss[k]? = some st -> okArcs k (-1) st.arcs = true) : Calls Tryz.prog 105 #[.agg #[sv, .int .u64 init], .func (.func 108) #[] #[], .func (.func 109) #[] #[]] w fun e w1 => e = .returned (.int .i64 (lngV ss)) /\ Below w.heap.size w w1 := by
 refine found105 lngO (fun x c _ => lngW x c) w sv init ss hrs hlen lngOk (enters_of Tryz.func108 (by kernel_rfl) rfl) (enters_of Tryz.func109 (by kernel_rfl) rfl) (lng_o ss hlen) lng_w hok hfm ?_ ?_
 ·intro W av i st _ hav
  unfold lngO
  cases hfin : st.final with
  | false => exact lng1f W av st.out hav
  | true => exact lng1t W av st.out hav
 ·intro W i j x c u h1 _ h2 _
  unfold lngOk at h1 h2
  rcases Int.lt_or_le c 0 with h | h
  ·refine (lng2n W x c (.int .u64 u) (by omega) (by omega) h).mono ?_
   rintro e w2 ⟨rfl, rfl⟩
   exact ⟨rfl, Below.refl _ _⟩
  ·refine (lng2p W x c (.int .u64 u) (by omega) (by omega) h).mono ?_
   rintro e w2 ⟨rfl, rfl⟩
   exact ⟨rfl, Below.refl _ _⟩
theorem fmost (w : World) (sv : Value) (init : Nat) (ss : List State) (hrs : RS w sv ss) (hlen : ss.length <= 1000000) (hok : ∀ s ∈ ss, okS s) (hfm : ∀ (k : Nat) (st : State), ss[k]? = some st -> okArcs k (-1) st.arcs = true) : Calls Tryz.prog 110 #[.agg #[sv, .int .u64 init], .func (.func 111) #[] #[], .func (.func 112) #[] #[]] w fun e w1 => e = .returned (gtV ss).val /\ Below w.heap.size w w1 := by
 refine found110 gtO gtW w sv init ss hrs hlen gtOk (enters_of Tryz.func111 (by kernel_rfl) rfl) (enters_of Tryz.func112 (by kernel_rfl) rfl) (gt_o ss hok) gt_w hok hfm ?_ ?_
 ·intro W av i st _ hav
  exact grt1 W av st.final st.out hav
 ·rintro W i j ⟨n, fm, am⟩ ⟨k, fx, ax⟩ u _ _ h2 hu
  exact grt2 W n k u fm fx am ax h2 hu
theorem count67 (w : World) (sv : Value) (init : Nat) (ss : List State) (hrs : RS w sv ss) (hlen : ss.length <= 1000000) (hok : ∀ s ∈ ss, okS s) (hfm : ∀ (k : Nat) (st : State), ss[k]? = some st -> okArcs k (-1) st.arcs = true) : Calls Tryz.prog 67 #[.agg #[sv, .int .u64 init]] w fun e w1 => e = .returned (.tuple #[.int .i64 (if 100000 < cntV ss then 0 else cntV ss), .bool (decide (cntV ss <= 100000))]) /\ Below w.heap.size w w1 := by
 refine Zn1 10 Tryz.func67 fun fr hf s0 => ?_
 obtain ⟨A, cc, rfl, hcc⟩ := hrs.form
 obtain ⟨hc0, hc1⟩ := cntV_ok ss hlen hok hfm
 refine Ze fun _ hK1 => Zr [] hf ?_
 refine Zq1 1 hf ?_
 clear hf s0; intro fr1 hf s1
 generalize hW0 : w.alloc (.cells #[.slice A ss.length cc, .int .u64 init] 38) = W0
 obtain ⟨hb0, c0, c1, -, -⟩ := box2 hW0
 clear hW0
 replace hrs := hrs.later hb0
 refine Zt hK1 fun _ hK2 => ?_
 have bB := hf.B2 5 6
 refine Zy ?_
 refine Zc (fcount W0 _ init ss hrs hlen hok hfm) ?_; rintro e w1 ⟨rfl, hb1⟩
 obtain ⟨n, hn⟩ : ∃ x, cntV ss = x := ⟨_, rfl⟩
 rw [hn] at hc0 hc1 |-
 have HN := Lib.hid hn
 have hb := hb0.trans (hb1.mono hb0.size)
 clear hrs hn c0 c1 hb0 hb1
 refine Zv ?_
 refine Zy ?_
 refine Fact.nil (Zq1 4 hf ?_)
 clear hf s1 bB; intro fr1 hf s4
 refine Zs hK2 fun _ hK3 => Ze fun _ hK4 => Zr [7] hf ?_
 refine Zq2 4 8 hf ?_
 clear hf s4; intro fr1 hf sS
 refine Zx hK4 (Fact.cond_s sS.2 (fun hq => ?_) (fun hq => ?_))
 . (
 have h9 := of_decide_eq_true hq
 clear hq
 refine Ze fun _ hK5 => Zr [] hf ?_
 refine Zq2 2 3 hf ?_
 clear hf sS; intro fr1 hf sS
 refine Zx hK5 (Zret ?_)
 exact Fact.ret2 rfl hf sS.1 sS.2 ⟨by rw [HN.out, if_pos (by omega), decide_eq_false (by omega)], hb⟩)
 . (
 have h9 := of_decide_eq_false hq
 clear hq
 refine wp_skip (Zs hK3 fun _ hK6 => Zr [9] hf ?_)
 refine Zq2 2 3 hf ?_
 clear hf sS; intro fr1 hf sS
 refine Zx hK6 (Zret ?_)
 exact Fact.ret2 rfl hf sS.1 sS.2 ⟨by rw [HN.out, if_neg (by omega), decide_eq_true (by omega)], hb⟩)
theorem longest69 (w : World) (sv : Value) (init : Nat) (ss : List State) (hrs : RS w sv ss) (hlen : ss.length <= 1000000) (hok : ∀ s ∈ ss, okS s) (hfm : ∀ (k : Nat) (st : State), ss[k]? = some st -> okArcs k (-1) st.arcs = true) (h0 : 0 < ss.length) : Calls Tryz.prog 69 #[.agg #[sv, .int .u64 init]] w fun e w1 => e = .returned (.int .i64 (lngV ss)) /\ Below w.heap.size w w1 := by
 refine Zn1 9 Tryz.func69 fun fr hf s0 => ?_
 obtain ⟨A, cc, rfl, hcc⟩ := hrs.form
 have q1 : ((ss.length : Int) == 0) = false := beq_eq_false_iff_ne.2 (by omega)
 refine Ze fun _ hK1 => Zr [] hf ?_
 refine Zq1 1 hf ?_
 clear hf s0; intro fr1 hf s1
 generalize hW0 : w.alloc (.cells #[.slice A ss.length cc, .int .u64 init] 38) = W0
 obtain ⟨hb0, c0, c1, -, -⟩ := box2 hW0
 clear hW0
 replace hrs := hrs.later hb0
 refine Zs hK1 fun _ hK2 => Ze fun _ hK3 => Zr [3, 4, 5] hf ?_
 refine Zq2 1 6 hf ?_
 clear hf s1; intro fr1 hf sS
 refine Zx hK3 (Fact.cond_f sS.2 ?_)
 clear q1
 refine wp_skip (Zt hK2 fun _ hK4 => ?_)
 have bB := hf.B2 7 8
 refine Zy ?_
 refine Zc (flng W0 _ init ss hrs hlen hok hfm) ?_; rintro e w1 ⟨rfl, hb1⟩
 have hb := hb0.trans (hb1.mono hb0.size)
 clear hrs c0 c1 hb0 hb1
 refine Zv ?_
 refine Zy ?_
 refine Fact.nil (Zq1 2 hf ?_)
 clear hf sS bB; intro fr1 hf s2
 refine Zx hK4 (Zret ?_)
 exact Fact.ret1 rfl hf s2 ⟨rfl, hb⟩
theorem greatest72 (w : World) (sv : Value) (init : Nat) (ss : List State) (hrs : RS w sv ss) (hlen : ss.length <= 1000000) (hok : ∀ s ∈ ss, okS s) (hfm : ∀ (k : Nat) (st : State), ss[k]? = some st -> okArcs k (-1) st.arcs = true) (hin : init < M64) : Calls Tryz.prog 72 #[.agg #[sv, .int .u64 init]] w fun e w1 => (∃ v, e = .returned (.tuple #[v, .bool (gtst ss init)])) /\ Below w.heap.size w w1 := by
 refine Zn1 25 Tryz.func72 fun fr hf s0 => ?_
 obtain ⟨A, cc, rfl, hcc⟩ := hrs.form
 have hgm := gtV_ok ss hlen hok hfm
 refine Ze fun _ hK1 => Zr [] hf ?_
 refine Zq1 1 hf ?_
 clear hf s0; intro fr1 hf s1
 generalize hW0 : w.alloc (.cells #[.slice A ss.length cc, .int .u64 init] 38) = W0
 obtain ⟨hb0, c0, c1, -, -⟩ := box2 hW0
 clear hW0
 replace hrs := hrs.later hb0
 refine Zt hK1 fun _ hK2 => ?_
 have bB := hf.B3 5 6 4
 refine Zy ?_
 refine Zc (fmost W0 _ init ss hrs hlen hok hfm) ?_; rintro e w1 ⟨rfl, hb1⟩
 obtain ⟨⟨n, ft, an⟩, hn⟩ : ∃ x, gtV ss = x := ⟨_, rfl⟩
 rw [hn] at hgm |-
 have HG := Lib.hid (show gtst ss init = (an && (ft && decide (n + init < M64) && decide ((n + init) % M64 <= 4294967296))) by unfold gtst; rw [hn])
 simp only [Most.val]
 replace c1 := cL hb1 c1
 have hb := hb0.trans (hb1.mono hb0.size)
 clear hrs hn c0 hb0 hb1
 refine Zv ?_
 iterate 2 refine Zy ?_
 refine Fact.nil (Zq2 1 4 hf ?_)
 clear hf s1 bB; intro fr1 hf sS
 generalize hW2 : w1.alloc (.cells #[.int .u64 n, .bool ft, .bool an] 192) = W2
 obtain ⟨hb2, m0, m1, m2, hm, -⟩ := box3 hW2
 obtain ⟨g, hg⟩ : ∃ x, w1.heap.size = x := ⟨_, rfl⟩
 have hwg : w.heap.size <= g := by rw [<- hg]; exact hb.size
 replace c1 := cL hb2 c1
 replace hb := hb.trans (hb2.mono hb.size)
 obtain ⟨s1, s4⟩ := sS
 rw [hg] at m0 m1 m2 hm s4
 clear hW2 hb2 hg
 refine Zs hK2 fun _ hK3 => Ze fun _ hK4 => rg ?_
 have bB := hf.B6 7 8 9 10 11 12
 iterate 4 refine Zy ?_
 refine Zc (and113 W2 n init ft hgm hin) ?_; rintro e w3 ⟨rfl, hb3⟩
 obtain ⟨sm, hsm⟩ : ∃ x, (n + init) % M64 = x := ⟨_, rfl⟩
 obtain ⟨sf, hsf⟩ : ∃ x, (ft && decide (n + init < M64)) = x := ⟨_, rfl⟩
 rw [hsm, hsf]
 replace hm := (hb3.block _ (heap_lt hm)).trans hm
 replace hb := hb.trans (hb3.mono hb.size)
 replace m0 := cL hb3 m0
 replace m1 := cL hb3 m1
 replace m2 := cL hb3 m2
 have f0 := frozen_of (i := 0) hm; have f1 := frozen_of (i := 1) hm
 clear hb3 c1
 refine Zv ?_
 iterate 2 refine Zy ?_
 refine Fact.nil (Zq1 4 hf ?_)
 clear hf s1 s4 bB; intro fr1 hf s4
 generalize hW4 : (w3.setCell ⟨g, 0, none⟩ (.int .u64 sm)).setCell ⟨g, 1, none⟩ (.bool sf) = W4
 replace hm : W4.heap[g]? = some (.cells #[.int .u64 sm, .bool sf, .bool an] 192 (0, 0)) := by rw [<- hW4]; exact (set_block (set_block hm _) _).trans (by simp)
 replace hb := (hb.setCell (p := ⟨g, 0, none⟩) hwg (.int .u64 sm)).setCell (p := ⟨g, 1, none⟩) hwg (.bool sf); rw [hW4] at hb
 clear m0 m1 m2 f0 f1 hW4
 have m0 := cR1 0 hm; have m1 := cR1 1 hm; have m2 := cR1 2 hm
 simp at m0 m1 m2
 refine Zx hK4 ?_
 rcases han : an with _ | _
 . (
 refine Ze fun _ hK5 => Zr [13, 14, 15, 16, 17, 18, 19, 20] hf ?_
 refine Zq2 4 21 hf ?_
 clear hf s4; intro fr1 hf sS
 refine Zx hK5 (Fact.cond_t sS.2 ?_)
 refine Ze fun _ hK6 => Zr [] hf ?_
 refine Zq2 2 3 hf ?_
 clear hf sS; intro fr1 hf sS
 refine Zx hK6 (Zret ?_)
 exact Fact.ret2 rfl hf sS.1 sS.2 ⟨⟨_, by rw [HG.out, han]; rfl⟩, hb⟩)
 . (
 refine Ze fun _ hK7 => rg ?_
 have bB := hf.B8 13 14 15 16 17 18 19 20
 iterate 6 refine Zy ?_
 refine Zd (is115 W4 sm sf) ?_; rintro e w5 ⟨rfl, hb5⟩
 generalize hi : (sf && decide (sm <= 4294967296)) = is
 replace hb := hb.trans (hb5.mono hb.size)
 replace m0 := cL hb5 m0
 refine Zv ?_
 iterate 2 refine Zy ?_
 refine Fact.nil (Zq2 4 21 hf ?_)
 clear hf s4 bB; intro fr1 hf sS
 refine Zx hK7 (Fact.cond_s sS.2 (fun hq => ?_) (fun hq => ?_))
 . (
 have hi2 : is = false := by simpa using hq
 clear hq
 subst hi2
 refine Ze fun _ hK8 => Zr [] hf ?_
 refine Zq2 2 3 hf ?_
 clear hf sS; intro fr1 hf sS
 refine Zx hK8 (Zret ?_)
 exact Fact.ret2 rfl hf sS.1 sS.2 ⟨⟨_, by rw [HG.out, han, hsm, hsf, hi]; rfl⟩, hb⟩)
 . (
 have hi2 : is = true := by simpa using hq
 clear hq
 subst hi2
 refine wp_skip (Zs hK3 fun _ hK9 => Zr [22, 23, 24] hf ?_)
 refine Zq2 2 3 hf ?_
 clear hf sS; intro fr1 hf sS
 refine Zx hK9 (Zret ?_)
 exact Fact.ret2 rfl hf sS.1 sS.2 ⟨⟨_, by rw [HG.out, han, hsm, hsf, hi]; rfl⟩, hb⟩))
end Dw
end Go.Proofs.YtcddnmhmcieebaaGreatDoor
