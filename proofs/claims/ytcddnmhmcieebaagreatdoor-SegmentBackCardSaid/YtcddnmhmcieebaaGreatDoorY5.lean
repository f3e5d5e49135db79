/- Dawg: close. -/
import Derived.Test.YtcddnmhmcieebaaGreatDoorY4
import Derived.Test.YtcddnmhmcieebaaGreatDoorTools
import Derived.Test.YtcddnmhmcieebaaGreatDoorY1
import Derived.WalkSmall
namespace Go.Proofs.YtcddnmhmcieebaaGreatDoor
set_option maxHeartbeats 4000000
set_option maxRecDepth 100000
open Go.RowKit
set_option linter.unusedSimpArgs false
set_option linter.unusedVariables false
set_option linter.unnecessarySimpa false
namespace Dw
open Go.Maps
def Keep (w : World) (own own' : Nat -> Nat) : Prop := ∀ k, k < w.heap.size -> (own k = 0 \/ own k = 4) -> own' k = own k
def SC (own4 : Nat -> Nat) (vb : Option Nat) (wb : Nat) : Nat -> Nat -> Prop
 | 14, k => own4 k = 1 \/ own4 k = 2 \/ own4 k = 3
 | 17, k => vb = some k
 | _, k => k = wb
theorem SC.all {own4 : Nat -> Nat} {vb : Option Nat} {wb m b : Nat} (hm : m ∈ [14, 17, 21]) (h : SC own4 vb wb m b) : (own4 b = 1 \/ own4 b = 2 \/ own4 b = 3) \/ vb = some b \/ b = wb := by
 simp at hm
 rcases hm with rfl | rfl | rfl
 ·exact .inl h
 ·exact .inr (.inl h)
 ·exact .inr (.inr h)
def PReg (W2 : World) (own4 : Nat -> Nat) (base g : Nat) (wv : Value) (mb : Nat) (ss : List State) (w : World) : Prop := ∃ ownF svF, (∀ k, k < W2.heap.size -> ownF k = own4 k) /\ (∀ k, W2.heap.size <= k -> ownF k = 0 \/ ownF k = 2) /\ Reg w base ownF g 123 [wv] svF mb ss
theorem PReg.stable (W2 : World) (own4 : Nat -> Nat) (base g : Nat) (wv : Value) (mb : Nat) (ss : List State) : ∀ w w' : World, Below w.heap.size w w' -> PReg W2 own4 base g wv mb ss w -> PReg W2 own4 base g wv mb ss w' :=
 fun w w' hb ⟨ownF, svF, h1, h2, h3⟩ => ⟨ownF, svF, h1, h2, h3.later hb⟩
theorem PReg.but {S : Nat -> Prop} {W2 : World} {own4 : Nat -> Nat} {base g : Nat} {wv : Value} {mb : Nat} {ss : List State} {w w' : World} (h : PReg W2 own4 base g wv mb ss w) (hb : But S w w') (hS : ∀ k, S k -> k < W2.heap.size /\ 5 <= own4 k) : PReg W2 own4 base g wv mb ss w' := by
 obtain ⟨ownF, svF, h1, h2, h3⟩ := h
 exact ⟨ownF, svF, h1, h2, h3.but hb (fun k hk => by have := hS k hk; rw [h1 k this.1]; omega)⟩
def PFin (R : World -> Prop) (i : Nat) : Stab.Pr := fun v w => v = .int .i64 (i : Int) /\ R w
theorem PFin.stable {R : World -> Prop} {i : Nat} (hR : ∀ w w' : World, Below w.heap.size w w' -> R w -> R w') : Stab.Stable (PFin R i) := fun _ w w' hb ⟨h1, h2⟩ => ⟨h1, hR w w' hb h2⟩
def PArc (R : World -> Prop) (W2 : World) (base : Nat) (avu : Value) (n : Nat) (cs : List Value) : Stab.Pr := fun v w => R w /\ w.ownsRow base 71 3 v (n + 1) cs /\ (v.ownBlock = avu.ownBlock \/ ∃ k, v.ownBlock = some k /\ W2.heap.size <= k)
theorem PArc.stable {R : World -> Prop} (hR : ∀ w w' : World, Below w.heap.size w w' -> R w -> R w') (W2 : World) (base : Nat) (avu : Value) (n : Nat) (cs : List Value) : Stab.Stable (PArc R W2 base avu n cs) := fun _ w w' hb ⟨h1, h2, h3⟩ => ⟨hR w w' hb h1, own_later h2 hb, h3⟩
def PPut (R : World -> Prop) (W2 : World) (base : Nat) (avu : Value) (n : Nat) (cs : List Value) (wv : Value) (m : Nat) (cells : List Value) (i : Nat) : Stab.Pr := fun _ w => ∃ v, R w /\ w.ownsRow base 71 3 v (n + 1) cs /\ (v.ownBlock = avu.ownBlock \/ ∃ k, v.ownBlock = some k /\ W2.heap.size <= k) /\ w.ownsRow base 126 4 wv m (cells.set i v)
theorem PPut.stable {R : World -> Prop} (hR : ∀ w w' : World, Below w.heap.size w w' -> R w -> R w') (W2 : World) (base : Nat) (avu : Value) (n : Nat) (cs : List Value) (wv : Value) (m : Nat) (cells : List Value) (i : Nat) : Stab.Stable (PPut R W2 base avu n cs wv m cells i) :=
 fun _ w w' hb ⟨v, h1, h2, h3, h4⟩ => ⟨v, hR w w' hb h1, own_later h2 hb, h3, own_later h4 hb⟩
theorem But.via2 {S S' T : Nat -> Prop} {w w1 w4 w5 : World} (h1 : Below w.heap.size w w1) (h4 : But S w1 w4) (h5 : But S' w4 w5) (hT : ∀ k, k < w.heap.size -> (S k \/ S' k) -> T k) : But T w w5 := But.via h1 h4 h5 hT
theorem Keep.refl (w : World) (own : Nat -> Nat) : Keep w own own := fun _ _ _ => rfl
theorem close29 (w : World) {base g mb N M : Nat} {own : Nat -> Nat} {sv wv : Value} {ss : List State} {way : List Open} (d : Nat) (hB : Bld w base own g sv mb ss wv 0 way) (hne : way ≠ []) (hbd : Bnd N M ss way) (hM : M <= 1000000) (hN : N <= 200) (hd : d <= 1000000) : Calls Tryz.prog 52 #[.pointer (some ⟨g, 0, none⟩), .int .i64 d] w fun e w1 => e = .returned (.tuple #[]) /\ ∃ own' sv' wv', Bld w1 base own' g sv' mb (close ss way d).1 wv' 0 (close ss way d).2 /\ Keep w own own' /\ But (fun k => own k ≠ 0 /\ own k ≠ 4) w w1 := by
 refine Zn2 67 Tryz.func52 fun fr hf s0 s1 => ?_
 refine wp_block (wp_loop_ghost (fun gk fr wr => ∃ (ownr : Nat -> Nat) (svr wvr : Value) (ssr : List State) (o : Open) (way1 : List Open), gk = way1.length /\ Fact.Fr 67 fr /\ fr.tmps[0]? = some (.pointer (some ⟨g, 0, none⟩)) /\ fr.tmps[1]? = some (.int .i64 d) /\ Bld wr base ownr g svr mb ssr wvr 0 (o :: way1) /\ close ssr (o :: way1) d = close ss way d /\ Bnd N M ssr (o :: way1) /\ Keep w own ownr /\ But (fun k => own k ≠ 0 /\ own k ≠ 4) w wr) (way.length - 1) ?_ ?_)
 . (
 obtain ⟨o, way1, rfl⟩ := List.exists_cons_of_ne_nil hne
 exact ⟨own, sv, wv, ss, o, way1, rfl, hf, s0, s1, hB, rfl, hbd, Keep.refl _ _, But.refl _ _⟩)
 . (
 clear hf s0 s1
 rintro gk fr wr ⟨ownr, svr, wvr, ssr, o, way1, hk, hf, s0, s1, hBr, hcl, hbr, hkp, hbw⟩
 have HK := Lib.hid hk; have HCL := Lib.hid hcl; clear hk hcl
 obtain ⟨wb, c, av, rfl, hcc, hwb, d0, d1, d2, d3, hoa, hav⟩ := hBr.top
 have q2 := hBr.cell2
 have hsz := hbr.size
 simp only [List.length_cons] at hsz
 refine Ze fun _ hK1 => Ze fun _ hK2 => Zr [8, 9, 10, 11, 12, 13, 14] hf ?_
 refine Zq3 0 1 15 hf ?_
 clear hf s0 s1; intro fr1 hf sS
 refine Zx hK2 (Fact.cond_s sS.2.2 (fun hq => ?_) (fun hq => ?_))
 . (
 have hlt : d < way1.length := by have h9 := of_decide_eq_true hq; omega
 obtain ⟨up, rest, rfl⟩ := List.exists_cons_of_ne_nil (show way1 ≠ [] by rintro rfl; simp at hlt)
 simp only [List.length_cons] at *
 have HQ := Lib.hid hq; clear hq
 have hcl1 := HCL.out
 rw [close_step1 (by omega)] at hcl1
 replace HCL := Lib.hid hcl1; clear hcl1
 have hbr2 := hbr.close1 (by omega) (by omega)
 have hoo := hbr.head o rfl
 have hu2 := hbr.tail up (List.mem_cons_self ..)
 have hng : wb ≠ g := fun e => by have h1 := hBr.reg.og; rw [<- e] at h1; omega
 have hbase := hBr.reg.base_le
 obtain ⟨A, ca, rfl, hca⟩ := (OA.ra (B := fun _ => True) hoa (fun _ _ => trivial)).form
 obtain ⟨own0, hown0⟩ : ∃ f, (fun k => if k < wr.heap.size then ownr k else 0) = f := ⟨_, rfl⟩
 have h0ge : ∀ k, wr.heap.size <= k -> own0 k = 0 := fun k hk => by rw [<- hown0]; exact if_neg (by omega)
 have h0lt : ∀ k, k < wr.heap.size -> own0 k = ownr k := fun k hk => by rw [<- hown0]; exact if_pos hk
 have hBs := hBr.told (own' := own0) (fun k hk => by rw [h0lt k (by omega)]; exact hBr.reg.lo k hk) (fun k hk _ _ => h0lt k hk)
 replace hav : ∀ k, (Value.slice A o.st.arcs.length ca).ownBlock = some k -> own0 k = 7 + rest.length := fun k hk => by rw [h0lt k (hoa.lt k hk).2, hav k hk]; omega
 have hwb0 : own0 wb = 5 := by rw [h0lt wb (cell_lt0 d0)]; exact hwb
 have H0 := Lib.hid h0ge; have H1 := Lib.hid h0lt; clear h0ge h0lt hown0 hBr hwb
 obtain ⟨n, hn⟩ : ∃ n, leastOf o.st = n := ⟨_, rfl⟩
 have HN := Lib.hid hn; clear hn
 refine wp_skip (Zx hK1 (wp_block (Ze fun _ hK3 => Zr [16, 17, 18, 19, 20, 21] hf ?_)))
 refine Zq3 0 1 4 hf ?_
 clear hf sS; intro fr1 hf sS
 refine Zs hK3 fun _ hK4 => Zr [22, 23, 24, 25, 26, 27, 28, 5] hf ?_
 refine Zq4 0 1 4 5 hf ?_
 clear hf sS; intro fr1 hf sS
 generalize hW0 : wr.alloc (.cells #[.slice A o.st.arcs.length ca, .bool o.st.final, .int .u64 o.st.out, .int .u8 o.by_] 126) = W0
 obtain ⟨hb0, -, -, -, -, hp0, hz0_⟩ := box4 hW0
 clear hW0
 have hz0 : wr.heap.size < W0.heap.size := by rw [hz0_]; exact Nat.lt_succ_self _
 clear hz0_
 have hB0 := (hBs.later hb0).forget
 have hoa0 : OA W0 base (.slice A o.st.arcs.length ca) o.st.arcs := own_later hoa hb0
 clear d0 d1 d2 d3 hoa hBs
 refine Zt hK4 fun _ hK5 => ?_
 have bB := hf.b 29
 refine Zc (push30 W0 wr.heap.size o.by_ base o.st _ hoo.ok hp0 hoa0) ?_; rintro e w1 ⟨rfl, hp1, hoa1, hbt1⟩
 rw [HN.out] at hp1 hoa1
 rw [HN.out]
 refine Zv ?_
 refine Zy ?_
 refine Fact.nil (Zq5 0 1 4 5 6 hf ?_)
 clear hf sS bB; intro fr1 hf sS
 have hB1 := hB0.but hbt1 (fun k hk => by rcases hk with rfl | hk; exact .inl (H0.out _ (Nat.le_refl _)); right; have := hav k hk; simp only [List.length_cons]; omega)
 have r2 := hB1.cell2
 clear hB0 hoa0 hp0
 have fz := hB1.reg.frozen 2
 refine Zt hK5 fun _ hK6 => ?_
 have bB := hf.B9 30 31 32 33 34 35 36 37 38
 iterate 6 refine Zy ?_
 refine fp fun K Z => ?_
 go_simp
 try rw [if_pos (by omega)]
 apply Z.out; clear Z K
 iterate 3 refine Zy ?_
 refine Fact.nil (Zq5 0 1 4 5 6 hf ?_)
 clear hf sS bB; intro fr1 hf sS
 have hB2 := hB1.cut (by simp)
 have hbg : But (fun k => k = g) w1 (w1.setCell ⟨g, 2, none⟩ (.slice (some ⟨wb, 0, none⟩) (rest.length + 1) c)) := But.setCell (S := fun k => k = g) rfl _
 have hog1 := hB1.reg.og
 have hp2 := hbg.heap hp1 (fun e => by have h1 := H0.out _ (Nat.le_refl wr.heap.size); rw [e] at h1; omega)
 have hoa2 : OA (w1.setCell ⟨g, 2, none⟩ (.slice (some ⟨wb, 0, none⟩) (rest.length + 1) c)) base (.slice A o.st.arcs.length ca) (less o.st n).arcs := own_but hoa1 hbg (fun k hk e => by subst e; have := hav k hk; omega)
 have hbtr : But (fun k => own0 k ≠ 0 /\ own0 k ≠ 4) wr (w1.setCell ⟨g, 2, none⟩ (.slice (some ⟨wb, 0, none⟩) (rest.length + 1) c)) := But.via2 hb0 hbt1 hbg (fun k hk1 h => by rcases h with (h | h) | h; omega; (have := hav k h; omega); (subst h; omega))
 simp only [List.length_cons] at hB2
 obtain ⟨W2, hW2⟩ : ∃ W2, w1.setCell ⟨g, 2, none⟩ (.slice (some ⟨wb, 0, none⟩) (rest.length + 1) c) = W2 := ⟨_, rfl⟩
 rw [hW2] at hB2 hbtr hoa2 hp2
 try rw [hW2]
 have hw2 : wr.heap.size < W2.heap.size := heap_lt hp2
 clear hW2 hbg hB1 hoa1 hp1 hbt1 r2 fz
 have h4ge : ∀ k, W2.heap.size <= k -> (if (.slice A o.st.arcs.length ca : Value).ownBlock = some k then 4 else own0 k) = 0 := fun k hk => by rw [if_neg (fun h => by have := (hoa2.lt k h).2; omega)]; exact H0.out k (by omega)
 have h4eq : ∀ k, own0 k ≠ 7 + rest.length -> (if (.slice A o.st.arcs.length ca : Value).ownBlock = some k then 4 else own0 k) = own0 k := fun k hk => if_neg (fun h => hk (hav k h))
 have hB4 := hB2.told (own' := fun k => if (.slice A o.st.arcs.length ca : Value).ownBlock = some k then 4 else own0 k) (fun k hk => by rw [h4eq k (by have := hB2.reg.lo k hk; omega)]; exact hB2.reg.lo k hk) (fun k _ h1 h2 => h4eq k (by simp only [List.length_cons] at h2; omega))
 have hra : RA W2 (fun k => (if (.slice A o.st.arcs.length ca : Value).ownBlock = some k then 4 else own0 k) = 4) (.slice A o.st.arcs.length ca) (less o.st n).arcs := OA.ra hoa2 (fun k hk => if_pos hk)
 obtain ⟨own4, hown4⟩ : ∃ f, (fun k => if (.slice A o.st.arcs.length ca : Value).ownBlock = some k then 4 else own0 k) = f := ⟨_, rfl⟩
 replace h4ge : ∀ k, W2.heap.size <= k -> own4 k = 0 := fun k hk => by rw [<- hown4]; exact h4ge k hk
 replace h4eq : ∀ k, own0 k ≠ 7 + rest.length -> own4 k = own0 k := fun k hk => by rw [<- hown4]; exact h4eq k hk
 rw [hown4] at hB4
 replace hra : RA W2 (fun k => own4 k = 4) (.slice A o.st.arcs.length ca) (less o.st n).arcs := by rw [<- hown4]; exact hra
 have H4 := Lib.hid h4ge; have H5 := Lib.hid h4eq; clear h4ge h4eq hown4 hB2
 obtain ⟨wb2, c2, avu, he2, _, hwb4, e0, e1, e2, e3, hou, hav4⟩ := hB4.top
 injection he2 with he2 _ he3
 injection he2 with he2
 injection he2 with he2
 subst he2; subst he3
 obtain ⟨Au, cu, rfl, hcu⟩ := (OA.ra (B := fun _ => True) hou (fun _ _ => trivial)).form
 have HAV := Lib.hid hav4; clear hav4
 have q4 := hB4.cell2
 have g0 := cR1 0 hp2; have g1 := cR1 1 hp2; have g2 := cR1 2 hp2; have g3 := cR1 3 hp2
 simp at g0 g1 g2 g3
 refine Zt hK6 fun _ hK7 => ?_
 have bB := hf.B7 39 40 41 42 43 44 45
 iterate 5 refine Zy ?_
 refine fp fun K Z => ?_
 go_simp
 try simp (disch := omega) only [Fact.W]
 try rw [show (rest.length : Int) + 1 - 1 = (rest.length : Int) by omega]
 apply Z.out; clear Z K
 iterate 2 refine Zy ?_
 refine Fact.nil (Zq5 0 1 5 6 7 hf ?_)
 clear hf sS bB; intro fr1 hf sS
 refine Zx hK7 ?_
 clear q4
 obtain ⟨cells, hrow2, hrb, hWC⟩ := hB4.row
 simp only [List.length_cons, Nat.add_zero] at hrow2
 have hP0 : own4 wr.heap.size = 0 := by rw [H5.out _ (by rw [H0.out _ (Nat.le_refl _)]; omega)]; exact H0.out _ (Nat.le_refl _)
 have HP0 := Lib.hid hP0; have HW4 := Lib.hid hwb4; clear hP0 hwb4
 have HRB := Lib.hid hrb; have HWC := Lib.hid hWC; clear hrb hWC
 have hou2 := hu2
 obtain ⟨s0, s1, s5, s6, s7⟩ := sS
 refine Stam.todo_begin (n := 67) (SC own4 ((.slice Au up.st.arcs.length cu : Value).ownBlock) wb) [14, 17, 21] (Stab.OkOps.of (by kernel_rfl)) (fun hok => ?_)
 refine Stam.mvO (k := 0) s7 hf.size hok.out rfl (by kernel_rfl) rfl rfl (.inl rfl) (by kernel_rfl) ?_
 refine Stam.mvO (k := 1) s7 hf.size hok.out rfl (by kernel_rfl) rfl rfl (.inl rfl) (by kernel_rfl) ?_
 apply Stam.tq 2 _ hf hok
 . (
 intro fr1 w1 hh hd hk K Z
 refine Stab.pl ?_
 have s47 := Stam.v 1 0 hd hk []
 have hbt := Stam.but_at hh [14] [(17, [5, 4, 3]), (21, [])] (by kernel_rfl)
 clear hd hh
 go_simp
 exact Stab.k Z)
 apply Stam.tq 3 _ hf hok
 . (
 intro fr1 w1 hh hd hk K Z
 refine Stab.pl ?_
 have s48 := Stam.v 2 0 hd hk []
 have hbt := Stam.but_at hh [14] [(17, [5, 4]), (21, [])] (by kernel_rfl)
 clear hd hh
 go_simp
 exact Stab.k Z)
 apply Stam.tq 4 _ hf hok
 . (
 intro fr1 w1 hh hd hk K Z
 refine Stab.pl ?_
 have s49 := Stam.v 3 0 hd hk []
 have hbt := Stam.but_at hh [14] [(17, [5]), (21, [])] (by kernel_rfl)
 clear hd hh
 go_simp
 exact Stab.k Z)
 apply Stam.tq 5 _ hf hok
 . (
 intro fr1 w1 hh hd hk K Z
 refine Stab.pl ?_
 have s50 := Stam.v 4 0 hd hk []
 have hbt := Stam.but_at hh [14] [(17, []), (21, [])] (by kernel_rfl)
 clear hd hh
 have f0 := (hbt (fun k => own4 k = 1 \/ own4 k = 2 \/ own4 k = 3) (fun m hm b h => by simp at hm; subst hm; exact h)).cell e0 (fun h => by have := HW4.out; have h : own4 wb = 1 \/ own4 wb = 2 \/ own4 wb = 3 := h; omega)
 go_simp
 exact Stab.k Z)
 apply Stam.tq 6 _ hf hok
 . (
 intro fr1 w1 hh hd hk K Z
 refine Stab.pl ?_
 have s5 := Stam.o hh (by kernel_rfl) s5
 have hbt := Stam.but_at hh [14] [(17, [16, 15, 7]), (21, [])] (by kernel_rfl)
 clear hd hh
 go_simp
 exact Stab.k Z)
 apply Stam.tq 7 _ hf hok
 . (
 intro fr1 w1 hh hd hk K Z
 refine Stab.pl ?_
 have s52 := Stam.v 6 0 hd hk []
 have hbt := Stam.but_at hh [14] [(17, [16, 15]), (21, [])] (by kernel_rfl)
 clear hd hh
 have f3 := (hbt (fun k => own4 k = 1 \/ own4 k = 2 \/ own4 k = 3) (fun m hm b h => by simp at hm; subst hm; exact h)).cell g3 (fun h => by have := HP0.out; have h : own4 wr.heap.size = 1 \/ own4 wr.heap.size = 2 \/ own4 wr.heap.size = 3 := h; omega)
 go_simp
 exact Stab.k Z)
 refine Stam.mvO (k := 8) s6 hf.size hok.out rfl (by kernel_rfl) rfl rfl (.inl rfl) (by kernel_rfl) ?_
 refine Stam.mvO (k := 9) s0 hf.size hok.out rfl (by kernel_rfl) rfl rfl (.inl rfl) (by kernel_rfl) ?_
 apply Stam.tq 10 _ hf hok
 . (
 intro fr1 w1 hh hd hk K Z
 refine Stab.pl ?_
 have s55 := Stam.v 9 0 hd hk []
 have hxe := Stam.ext_at hh [(14, [11]), (17, [14, 11]), (21, [])] (by kernel_rfl)
 have hbt := Stam.but_at hh [] [(14, [11]), (17, [14, 11]), (21, [])] (by kernel_rfl)
 clear hd hh
 go_simp
 exact Stab.k Z)
 apply Stam.tq 11 _ hf hok
 . (
 intro fr1 w1 hh hd hk K Z
 refine Stab.pl ?_
 have s56 := Stam.v 10 0 hd hk []
 have hxe := Stam.ext_at hh [(14, []), (17, [14]), (21, [])] (by kernel_rfl)
 have hbt := Stam.but_at hh [] [(14, []), (17, [14]), (21, [])] (by kernel_rfl)
 clear hd hh
 go_simp
 exact Stab.k Z)
 apply Stam.tq 12 _ hf hok
 . (
 intro fr1 w1 hh hd hk K Z
 refine Stab.pl ?_
 have s5 := Stam.o hh (by kernel_rfl) s5
 have hxe := Stam.ext_at hh [(14, [13]), (17, [14, 13]), (21, [])] (by kernel_rfl)
 have hbt := Stam.but_at hh [] [(14, [13]), (17, [14, 13]), (21, [])] (by kernel_rfl)
 clear hd hh
 go_simp
 exact Stab.k Z)
 apply Stam.tq 13 _ hf hok
 . (
 intro fr1 w1 hh hd hk K Z
 refine Stab.pl ?_
 have s58 := Stam.v 12 0 hd hk []
 have hxe := Stam.ext_at hh [(14, []), (17, [14]), (21, [])] (by kernel_rfl)
 have hbt := Stam.but_at hh [] [(14, []), (17, [14]), (21, [])] (by kernel_rfl)
 clear hd hh
 have f0 := cL hxe g0; have f1 := cL hxe g1; have f2 := cL hxe g2
 go_simp
 exact Stab.k Z)
 refine Stam.todo_sp (k := 14) (n := 67) (PFin (PReg W2 own4 base g (.slice (some ⟨wb, 0, none⟩) (rest.length + 1) c) mb (finish ssr (less o.st n)).1) (finish ssr (less o.st n)).2) hf.size hok.out rfl (PFin.stable (PReg.stable _ _ _ _ _ _ _)) (by kernel_rfl) ?_ ?_
 . (
 intro fr1 w1 hh hd hk K Z
 refine Stab.pl ?_
 have s57 := Stam.v 11 2 hd hk []
 have s59 := Stam.v 13 0 hd hk []
 have hxe := Stam.ext_at hh [(17, []), (21, [])] (by kernel_rfl)
 have hbt := Stam.but_at hh [] [(17, []), (21, [])] (by kernel_rfl)
 clear hd hh
 go_simp
 go_at_call 54; refine (finish31 w1 (hB4.reg.later hxe) (hra.later hxe) (less_ok hoo (by omega)) (by omega)).mono ?_; rintro e w2 ⟨rfl, ownF, svF, hF1, hF2, hF3, hF4⟩
 exact Z.out _ rfl _ _ hF4 ⟨rfl, ownF, svF, fun k hk1 => hF1 k (by have := hxe.size; omega), fun k hk1 => by rcases Nat.lt_or_ge k w1.heap.size with h | h; (exact .inl ((hF1 k h).trans (H4.out k hk1))); exact .inr (hF2 k h), hF3⟩)
 apply Stam.tq 15 _ hf hok
 . (
 intro fr1 w1 hh hd hk K Z
 refine Stab.pl ?_
 have s53 := Stam.v 7 7 hd hk []
 have s54 := Stam.v 8 6 hd hk []
 obtain ⟨x60, s60, hp60⟩ := Stam.use (j := 14) (m := 0) hd hk rfl [] (by kernel_rfl) [(17, true, [16]), (21, true, [])] (by kernel_rfl) rfl rfl rfl
 obtain ⟨rfl, hrg60⟩ := hp60
 have hbt := Stam.but_at hh [14] [(17, [16]), (21, [])] (by kernel_rfl)
 clear hd hh
 go_simp
 exact Stab.k Z)
 refine Stam.todo_op (k := 16) (n := 67) (PLit [.int .u8 o.by_, .int .u64 n, .int .i64 ((finish ssr (less o.st n)).2 : Nat)]) hf.size hok.out rfl (PLit.stable _) (by kernel_rfl) ?_ ?_
 . (
 intro fr1 w1 hh hd hk K Z
 refine Stab.pl ?_
 have s61 := Stam.v 15 0 hd hk []
 have hbt := Stam.but_at hh [14] [(17, []), (21, [])] (by kernel_rfl)
 clear hd hh
 go_simp
 exact Z.out _ rfl _ _ ((Below.refl _ _).alloc (Nat.le_refl _) _) ⟨_, rfl, lit_new _ _ _⟩)
 refine Stam.todo_sp (k := 17) (n := 67) (PArc (PReg W2 own4 base g (.slice (some ⟨wb, 0, none⟩) (rest.length + 1) c) mb (finish ssr (less o.st n)).1) W2 base (.slice Au up.st.arcs.length cu) up.st.arcs.length (acs up.st.arcs ++ [.int .u8 o.by_, .int .u64 n, .int .i64 ((finish ssr (less o.st n)).2 : Nat)])) hf.size hok.out rfl (PArc.stable (PReg.stable _ _ _ _ _ _ _) _ _ _ _ _) (by kernel_rfl) ?_ ?_
 . (
 intro fr1 w1 hh hd hk K Z
 refine Stab.pl ?_
 have s51 := Stam.v 5 11 hd hk []
 obtain ⟨x62, s62, hp62⟩ := Stam.use (j := 16) (m := 0) hd hk rfl [] (by kernel_rfl) [(14, false, [15]), (21, true, [])] (by kernel_rfl) rfl rfl rfl
 obtain ⟨b62, rfl, hc62⟩ := hp62
 obtain ⟨_, hq14⟩ := Stam.use_fact (j := 14) (m := 2) hd hk rfl [] (by kernel_rfl) [(21, true, [])] (by kernel_rfl) rfl
 have hbt := Stam.but_at hh [14] [(21, [])] (by kernel_rfl)
 clear hd hh
 have hbt2 := (hbt (fun k => own4 k = 1 \/ own4 k = 2 \/ own4 k = 3) (fun m hm b h => by simp at hm; subst hm; exact h))
 have hr2 := own_but hou hbt2 (fun k hkk h => by have := HAV.out k hkk; have h : own4 k = 1 \/ own4 k = 2 \/ own4 k = 3 := h; omega)
 refine wp_app _ _ 44 rfl 71 _ 3 24 Tryz.underlying44 info_arcD rfl (by decide) (by decide) base (.slice Au up.st.arcs.length cu) up.st.arcs.length (acs up.st.arcs) (Fact.eval_tmp s51) hr2 b62 _ (Fact.eval_tmp s62) rfl hc62 (by intro u hu; simp at hu; rcases hu with rfl | rfl | rfl <;> rfl) (by have := hou2.few; omega) (by have := hbt2.size; omega) (fun v2 w2 hr3 hg3 hat3 => ?_)
 have hsz2 := hbt2.size
 exact Z.out _ rfl _ _ (But.grown hg3 (fun k hkk => hkk)) ⟨hq14.2.but (But.grown (S := fun k => (.slice Au up.st.arcs.length cu : Value).ownBlock = some k) hg3 (fun k hkk => hkk)) (fun k hkk => by have := HAV.out k hkk; have := (hou.lt k hkk).2; exact ⟨this, by omega⟩), hr3, hat3.imp id (fun h => ⟨_, h, hsz2⟩)⟩)
 apply Stam.tq 18 _ hf hok
 . (
 intro fr1 w1 hh hd hk K Z
 refine Stab.pl ?_
 have s46 := Stam.v 0 17 hd hk []
 have hbt := Stam.but_at hh [14, 17] [(21, [20, 19])] (by kernel_rfl)
 clear hd hh
 go_simp
 exact Stab.k Z)
 apply Stam.tq 19 _ hf hok
 . (
 intro fr1 w1 hh hd hk K Z
 refine Stab.pl ?_
 have s64 := Stam.v 18 0 hd hk []
 have hbt := Stam.but_at hh [14, 17] [(21, [20])] (by kernel_rfl)
 clear hd hh
 go_simp
 exact Stab.k Z)
 apply Stam.tq 20 _ hf hok
 . (
 intro fr1 w1 hh hd hk K Z
 refine Stab.pl ?_
 have s65 := Stam.v 19 0 hd hk []
 have hbt := Stam.but_at hh [14, 17] [(21, [])] (by kernel_rfl)
 clear hd hh
 go_simp
 exact Stab.k Z)
 refine Stam.todo_sp (k := 21) (n := 67) (PPut (PReg W2 own4 base g (.slice (some ⟨wb, 0, none⟩) (rest.length + 1) c) mb (finish ssr (less o.st n)).1) W2 base (.slice Au up.st.arcs.length cu) up.st.arcs.length (acs up.st.arcs ++ [.int .u8 o.by_, .int .u64 n, .int .i64 ((finish ssr (less o.st n)).2 : Nat)]) (.slice (some ⟨wb, 0, none⟩) (rest.length + 1) c) (rest.length + 1) cells (rest.length * 4)) hf.size hok.out rfl (PPut.stable (PReg.stable _ _ _ _ _ _ _) _ _ _ _ _ _ _ _ _) (by kernel_rfl) ?_ ?_
 . (
 intro fr1 w1 hh hd hk K Z
 refine Stab.pl ?_
 have s66 := Stam.v 20 0 hd hk []
 obtain ⟨x63, s63, hp63⟩ := Stam.use (j := 17) (m := 3) hd hk rfl [] (by kernel_rfl) [(14, false, [])] (by kernel_rfl) rfl rfl rfl
 obtain ⟨hrg63, hr63, hl63⟩ := hp63
 have hbt := Stam.but_at hh [14, 17] [] (by kernel_rfl)
 clear hd hh
 have hbt2 := (hbt (fun k => (own4 k = 1 \/ own4 k = 2 \/ own4 k = 3) \/ (.slice Au up.st.arcs.length cu : Value).ownBlock = some k) (fun m hm b h => by simp at hm; rcases hm with rfl | rfl; exact .inl h; exact .inr h))
 have hrow3 := own_but hrow2 hbt2 (fun k hkk h => by have h1 := HRB.out k hkk; rcases h with h | h; (have h : own4 k = 1 \/ own4 k = 2 \/ own4 k = 3 := h; omega); (have := HAV.out k h; omega))
 have f0 := hbt2.cell e0 (fun h => by have h1 := HW4.out; rcases h with h | h; (have h : own4 wb = 1 \/ own4 wb = 2 \/ own4 wb = 3 := h; omega); (have := HAV.out wb h; omega))
 have fzz := hrow3.frozenAt (rest.length * 4)
 obtain ⟨A2, c2, hv2, _⟩ := row_form hr63
 subst hv2
 go_simp
 refine Z.out _ rfl undef _ (But.setCell (S := fun k => k = wb) rfl _) ⟨_, hrg63.but (But.setCell (S := fun k => k = wb) rfl _) (fun k hkk => by subst hkk; have := HW4.out; exact ⟨cell_lt0 e0, by omega⟩), own_but hr63 (But.setCell (S := fun k => k = wb) rfl _) (fun k hkk e => ?_), hl63, (hrow3.stored _ _).1⟩; subst e; rcases hl63 with h | ⟨k2, h, hk2⟩; (rw [hkk] at h; have := HAV.out _ h.symm; have := HW4.out; omega); (rw [hkk] at h; injection h with h; have := cell_lt0 e0; have : k < W2.heap.size := this; omega))
 refine Stam.todo_facts (n := 67) (by kernel_rfl) hf.size hok.out rfl (fun fr1 w1 hh hg => ?_)
 replace s0 := Stam.o hh (by kernel_rfl) s0
 replace s1 := Stam.o hh (by kernel_rfl) s1
 obtain ⟨_, hlast⟩ := Stam.end_fact (j := 21) (m := 0) hg rfl (by decide) [(14, []), (17, [])] (by kernel_rfl) rfl
 have hf1 := hh.fr hf
 have hbt := hh.but
 clear hg hh hf hok s5 s6 s7
 have hf := hf1; clear hf1
 refine Fact.block_normal (Fact.then_normal ?_)
 obtain ⟨v2, ⟨ownF, svF, hA1, hA2, hreg⟩, hr2, hl2, hrow3⟩ := hlast
 replace hbt := hbt _ (fun m hm b h => SC.all hm h)
 have hn := HN.out
 subst hn
 have hvn : ∀ k, k < W2.heap.size -> own4 k ≠ 6 + rest.length -> v2.ownBlock ≠ some k := fun k hk1 hk2 h => by rcases hl2 with h3 | ⟨k3, h3, hk3⟩; (rw [h] at h3; exact hk2 (HAV.out k h3.symm)); (rw [h] at h3; injection h3 with h3; omega)
 have hk5 : ∀ k, k < w.heap.size -> (own k = 0 \/ own k = 4) -> own0 k = own k /\ own4 k = own k := fun k hk1 hk2 => by have h1 := hkp k hk1 hk2; have h2 := H1.out k (by have := hbw.size; omega); have h3 : own0 k = own k := h2.trans h1; exact ⟨h3, (H5.out k (by omega)).trans h3⟩
 refine ⟨_, ?_, _, svF, _, _, _, rest, rfl, hf, s0, s1, Bld.closed (avu := .slice Au up.st.arcs.length cu) (a := ⟨o.by_, leastOf o.st, ((finish ssr (less o.st (leastOf o.st))).2 : Nat)⟩) hB4 hA1 hA2 hreg hr2 hl2 (fun k hk1 => ⟨HAV.out k hk1, (hou.lt k hk1).2⟩) hrow2 HW4.out HWC.out hrow3 hbt, HCL.out, hbr2, fun k hk1 hk2 => ?_, ⟨?_, ?_, ?_, ?_, ?_⟩⟩
 . (
 have := HK.out; omega)
 . (
 have h1 := hk5 k hk1 hk2; have h2 := hbw.size; simp only; rw [if_neg (hvn k (by omega) (by omega)), hA1 k (by omega)]; exact h1.2)
 . (
 exact hbt.os.trans (hbtr.os.trans hbw.os))
 . (
 exact hbt.tape.trans (hbtr.tape.trans hbw.tape))
 . (
 exact hbt.output.trans (hbtr.output.trans hbw.output))
 . (
 exact Nat.le_trans hbw.size (Nat.le_trans hbtr.size hbt.size))
 . (
 intro k hk1 hk2; have h0 : own k = 0 \/ own k = 4 := (by omega); have h1 := hk5 k hk1 h0; have h2 := hbw.size; have h3 := hbtr.size; rw [hbt.block k (by omega) (fun h => by rcases h with h | h | h; omega; (have := HAV.out k h; omega); (subst h; have := HW4.out; omega)), hbtr.block k (by omega) (fun h => by omega), hbw.block k hk1 hk2]))
 . (
 have hle : way1.length <= d := by have h9 := of_decide_eq_false hq; omega
 refine Zo ?_
 have hcl := HCL.out
 rw [close_none (by simp; omega)] at hcl
 refine Fact.end0 rfl hf ⟨rfl, ownr, svr, .slice (some ⟨wb, 0, none⟩) (way1.length + 1) c, ?_, hkp, hbw⟩
 rw [<- hcl]
 exact hBr))
theorem value47g (e : Ent) (he : okE e) (hg : e.gone = true) (w : World) : Calls Tryz.prog 89 #[eval e] w fun e1 w1 => e1 = .returned (.int .u64 (valE e : Nat)) /\ Below w.heap.size w w1 := by
 refine Zn1 9 Tryz.func89 fun fr hf s0 => ?_
 simp only [eval] at s0
 have HG := Lib.hid hg; clear hg
 have hw1 := he.1; have hw2 := he.2
 refine Ze fun _ hK1 => Zr [] hf ?_
 refine Zq1 1 hf ?_
 clear hf s0; intro fr1 hf s1
 generalize hW0 : w.alloc (.cells #[.string e.word, .int .u32 e.weight, .bool e.gone] 64) = W0
 obtain ⟨hb0, -, c1, c2, -, -⟩ := box3 hW0
 clear hW0
 refine Zs hK1 fun _ hK2 => Ze fun _ hK3 => Zr [3] hf ?_
 refine Zq2 1 4 hf ?_
 clear hf s1; intro fr1 hf sS
 refine Zx hK3 ?_
 obtain ⟨s1, s4⟩ := sS
 rw [HG.out] at s4
 refine Fact.cond_t s4 ?_
 refine Ze fun _ hK4 => Zr [] hf ?_
 refine Zq1 2 hf ?_
 clear hf s1 s4; intro fr1 hf s2
 refine Zx hK4 (Zret ?_)
 exact Fact.ret1 rfl hf s2 ⟨by simp [valE, HG.out], hb0⟩
theorem value47n (e : Ent) (he : okE e) (hg : e.gone = false) (w : World) : Calls Tryz.prog 89 #[eval e] w fun e1 w1 => e1 = .returned (.int .u64 (valE e : Nat)) /\ Below w.heap.size w w1 := by
 refine Zn1 9 Tryz.func89 fun fr hf s0 => ?_
 simp only [eval] at s0
 have HG := Lib.hid hg; clear hg
 have hw1 := he.1; have hw2 := he.2
 refine Ze fun _ hK1 => Zr [] hf ?_
 refine Zq1 1 hf ?_
 clear hf s0; intro fr1 hf s1
 generalize hW0 : w.alloc (.cells #[.string e.word, .int .u32 e.weight, .bool e.gone] 64) = W0
 obtain ⟨hb0, -, c1, c2, -, -⟩ := box3 hW0
 clear hW0
 refine Zs hK1 fun _ hK2 => Ze fun _ hK3 => Zr [3] hf ?_
 refine Zq2 1 4 hf ?_
 clear hf s1; intro fr1 hf sS
 refine Zx hK3 ?_
 obtain ⟨s1, s4⟩ := sS
 rw [HG.out] at s4
 refine Fact.cond_f s4 ?_
 refine wp_skip (Zt hK2 fun _ hK4 => ?_)
 have bB := hf.B4 5 6 7 8
 iterate 2 refine Zy ?_
 refine fp fun K Z => ?_
 go_simp
 try simp (disch := omega) only [Fact.wrap_u64]
 apply Z.out; clear Z K
 refine fp fun K Z => ?_
 go_simp
 try simp (disch := omega) only [Fact.W]
 try simp (disch := omega) only [Fact.wrap_u64]
 rw [show e.weight + 1 = ((valE e : Nat) : Int) by simp only [valE, HG.out]; simp; omega]
 apply Z.out; clear Z K
 refine Zy ?_
 refine Fact.nil (Zq1 2 hf ?_)
 clear hf s1 s4 bB; intro fr1 hf s2
 refine Zx hK4 (Zret ?_)
 exact Fact.ret1 rfl hf s2 ⟨rfl, hb0⟩
theorem value47 (e : Ent) (he : okE e) (w : World) : Calls Tryz.prog 89 #[eval e] w fun e1 w1 => e1 = .returned (.int .u64 (valE e : Nat)) /\ Below w.heap.size w w1 := by
 cases hg : e.gone with
 | true => exact value47g e he hg w
 | false => exact value47n e he hg w
end Dw
end Go.Proofs.YtcddnmhmcieebaaGreatDoor
