/- Dawg: the number of a state. -/
import Derived.Test.YtcddnmhmcieebaaGreatDoorY1
import Derived.Test.YtcddnmhmcieebaaGreatDoorY2
import Derived.Test.YtcddnmhmcieebaaGreatDoorTools
namespace Go.Proofs.YtcddnmhmcieebaaGreatDoor
set_option maxHeartbeats 4000000
set_option maxRecDepth 100000
open Go.RowKit
set_option linter.unusedSimpArgs false
set_option linter.unusedVariables false
set_option linter.unnecessarySimpa false
namespace Dw
open Go.Maps
def PRow (w4 : World) (base g : Nat) (t : TypeId) (xs : List Value) (sv : Value) (mb n : Nat) (cells : List Value) : Stab.Pr := fun v w => w.ownsRow base 46 3 v n cells /\ (v.ownBlock = sv.ownBlock \/ ∃ k, v.ownBlock = some k /\ w4.heap.size <= k) /\ w.heap[g]? = some (.cells (sv :: .map (some mb) :: xs).toArray t (0, 0))
theorem PRow.stable (w4 : World) (base g : Nat) (t : TypeId) (xs : List Value) (sv : Value) (mb n : Nat) (cells : List Value) : Stab.Stable (PRow w4 base g t xs sv mb n cells) := fun v w w' hb ⟨h1, h2, h3⟩ => ⟨own_later h1 hb, h2, (hb.block g (heap_lt h3)).trans h3⟩
def PEnd (w4 : World) (base g : Nat) (t : TypeId) (xs : List Value) (sv : Value) (mb n : Nat) (cells : List Value) : Stab.Pr := fun _ w => ∃ v, w.ownsRow base 46 3 v n cells /\ (v.ownBlock = sv.ownBlock \/ ∃ k, v.ownBlock = some k /\ w4.heap.size <= k) /\ w.heap[g]? = some (.cells (v :: .map (some mb) :: xs).toArray t (0, 0))
theorem PEnd.stable (w4 : World) (base g : Nat) (t : TypeId) (xs : List Value) (sv : Value) (mb n : Nat) (cells : List Value) : Stab.Stable (PEnd w4 base g t xs sv mb n cells) := fun _ w w' hb ⟨v, h1, h2, h3⟩ => ⟨v, own_later h1 hb, h2, (hb.block g (heap_lt h3)).trans h3⟩
theorem av_one {w : World} {B : Nat -> Prop} {v : Value} {l : List Arc} (h : RA w B v l) : v.oneCell' = true := by
 obtain ⟨A, c, rfl, _⟩ := h.form
 rfl
theorem But.via {S S' T : Nat -> Prop} {w w1 w4 w5 : World} (h1 : Below w.heap.size w w1) (h4 : But S w1 w4) (h5 : But S' w4 w5) (hT : ∀ k, k < w.heap.size -> (S k \/ S' k) -> T k) : But T w w5 :=
 ⟨h5.os.trans (h4.os.trans h1.os), h5.tape.trans (h4.tape.trans h1.tape), h5.output.trans (h4.output.trans h1.output), Nat.le_trans h1.size (Nat.le_trans h4.size h5.size), fun k hk hn => by
  have hs1 := h1.size
  have hs4 := h4.size
  rw [h5.block k (by omega) (fun e => hn (hT k hk (.inr e))), h4.block k (by omega) (fun e => hn (hT k hk (.inl e))), h1.block k hk]⟩
theorem finish31 (w : World) {base g mb : Nat} {own : Nat -> Nat} {t : TypeId} {xs : List Value} {sv : Value} {ss : List State} {s : State} {av : Value} (hR : Reg w base own g t xs sv mb ss) (hra : RA w (fun k => own k = 4) av s.arcs) (hok : okK s) (hlen : ss.length < 1000000) : Calls Tryz.prog 54 #[.pointer (some ⟨g, 0, none⟩), sval av s] w fun e w1 => e = .returned (.int .i64 ((finish ss s).2 : Nat)) /\ ∃ own' sv', (∀ k, k < w.heap.size -> own' k = own k) /\ (∀ k, w.heap.size <= k -> own' k = 2) /\ Reg w1 base own' g t xs sv' mb (finish ss s).1 /\ But (fun k => own k = 1 \/ own k = 2 \/ own k = 3) w w1 := by
 refine Zn2 43 Tryz.func54 fun fr hf s0 s1 => ?_
 have hRg := hR.told (own' := fun k => if k < w.heap.size then own k else 2) (fun k hk => by rw [if_pos (by have := hR.base_le; omega)]; exact hR.lo k hk) (fun k hk _ _ => if_pos hk)
 have hra2 := hra.more (B' := fun k => (if k < w.heap.size then own k else 2) = 4) (fun k hk h4 => by rw [if_pos hk]; exact h4)
 obtain ⟨own1, hown1⟩ : ∃ f, (fun k => if k < w.heap.size then own k else 2) = f := ⟨_, rfl⟩
 have hge : ∀ k, w.heap.size <= k -> own1 k = 2 := fun k hk => by rw [<- hown1]; exact if_neg (by omega)
 have hlt : ∀ k, k < w.heap.size -> own1 k = own k := fun k hk => by rw [<- hown1]; exact if_pos hk
 replace hRg : Reg w base own1 g t xs sv mb ss := by rw [<- hown1]; exact hRg
 replace hra2 : RA w (fun k => own1 k = 4) av s.arcs := by rw [<- hown1]; exact hra2
 clear hown1 hR hra
 have HGE := Lib.hid hge; have HLT := Lib.hid hlt; clear hge hlt
 have hbw := hRg.base_le
 simp only [sval] at s1
 refine Ze fun _ hK1 => Zr [] hf ?_
 refine Zq2 0 3 hf ?_
 clear hf s0 s1; intro fr1 hf sS
 generalize hW0 : w.alloc (.cells #[av, .bool s.final, .int .u64 s.out] 46) = W0
 obtain ⟨hb0, c0, c1, c2, -, hz0_⟩ := box3 hW0
 clear hW0
 have hz0 : w.heap.size < W0.heap.size := by rw [hz0_]; exact Nat.lt_succ_self _
 clear hz0_
 have hR0 := hRg.later hb0
 have hra0 := hra2.later hb0
 clear hRg hra2
 refine Zt hK1 fun _ hK2 => ?_
 have bB := hf.B2 8 9
 refine Zy ?_
 refine Zc (key49 W0 s _ av hra0 hok.ok hok.to hok.few) ?_; rintro e w1 ⟨rfl, hb1⟩
 refine Zv ?_
 refine Zy ?_
 refine Fact.nil (Zq3 0 3 5 hf ?_)
 clear hf sS bB; intro fr1 hf sS
 replace c0 := cL hb1 c0; replace c1 := cL hb1 c1; replace c2 := cL hb1 c2; have hR1 := hR0.later hb1; have hra1 := hra0.later hb1; have hb01 := hb0.trans (hb1.mono hb0.size)
 clear hR0 hra0 hb1
 have r0 := hR1.cell0; have r1 := hR1.cell1
 refine Zx hK2 ?_
 by_cases hin : s ∈ ss
 . (
 obtain ⟨i, hi, hil, hfi⟩ := finish_found hin
 have hlk := look_in hR1.map hok hR1.good hR1.nodup hi
 have HI := Lib.hid hi; have HFI := Lib.hid hfi; have HIN := Lib.hid hin; clear hi hfi hin
 refine Ze fun _ hK3 => Zr [11, 12, 13, 14, 15, 16, 10, 17, 18] hf ?_
 refine Zq5 0 3 5 6 7 hf ?_
 clear hf sS; intro fr1 hf sS
 refine Zs hK3 fun _ hK4 => Ze fun _ hK5 => Zr [19] hf ?_
 refine Zq5 0 3 5 6 20 hf ?_
 clear hf sS; intro fr1 hf sS
 refine Zx hK5 (Fact.cond_f sS.2.2.2.2 ?_)
 refine wp_skip (Zs hK4 fun _ hK6 => Zr [42] hf ?_)
 refine Zq1 4 hf ?_
 clear hf sS; intro fr1 hf s4
 refine Zx hK6 (Zret ?_)
 refine Fact.ret1 rfl hf s4 ⟨by rw [HFI.out], own1, sv, HLT.out, HGE.out, ?_, But.of _ hb01⟩
 rw [HFI.out]
 exact hR1)
 . (
 have hfi := finish_new hin
 obtain ⟨c, hlk⟩ := look_out hR1.map hok hR1.good hin
 have HFI := Lib.hid hfi; have HIN := Lib.hid hin; clear hfi hin
 obtain ⟨A, cc, hsv, hcc⟩ := hR1.form
 have HSV := Lib.hid hsv
 rw [hsv] at r0
 clear hsv
 refine Ze fun _ hK7 => Zr [11, 12, 13, 14, 15, 16, 10, 17, 18] hf ?_
 refine Zq5 0 3 5 6 7 hf ?_
 clear hf sS; intro fr1 hf sS
 refine Zs hK7 fun _ hK8 => Ze fun _ hK9 => Zr [19] hf ?_
 refine Zq5 0 3 5 6 20 hf ?_
 clear hf sS; intro fr1 hf sS
 refine Zx hK9 (Fact.cond_t sS.2.2.2.2 ?_)
 refine Ze fun _ hK10 => Zr [21, 22, 23, 24, 25] hf ?_
 refine Zq4 0 3 5 6 hf ?_
 clear hf sS; intro fr1 hf sS
 refine Zt hK10 fun _ hK11 => ?_
 have bB := hf.B6 26 27 28 29 30 31
 iterate 6 refine Zy ?_
 obtain ⟨s0, s3, s5, s6⟩ := sS
 clear bB
 refine Fact.reL (n := 43) (by simp only [Fact.G, hf.size]) hf.defers (fun fr1 hf1 hT => ?_)
 have hKp := Fact.h6 hT 0 3 6 29 30 31
 simp (decide := true) only [Fact.G, hf.size, reduceIte, s0, s3, s6] at hKp
 replace hf := hf1; clear hT hf1 s0 s3 s5 s6
 obtain ⟨s0, s3, s6, s29, s30, s31⟩ := hKp
 refine ⟨?_⟩
 refine wpList_mapUpdate_own _ rfl _ _ _ 118 rfl 9 3 (string_keyed Tryz.underlying9) Tryz.underlying118 _ mb ss.length _ (Fact.eval_tmp s29) hR1.map (by unfold maxLen; omega) _ _ _ (Fact.eval_tmp s30) (Fact.eval_tmp s31) (key_read _ (keyL_length hok)) _ _ (val_read _ (by omega)) ?_
 intro w4 hM4 hg4
 refine Fact.L.out ?_
 refine Fact.nil (Zq3 0 3 6 hf ?_)
 clear hf s0 s3 s6 s29 s30 s31; intro fr1 hf sS
 have hb4 : But (fun k => k = mb) w1 w4 := But.grown hg4 (fun k hk => by injection hk with hk; exact hk.symm)
 have hne := hR1.mb_ne
 have hbx4 := hb4.heap hR1.box hne
 have q0 := cell_of_row _ _ 0 _ t (0, 0) hbx4
 simp at q0
 rw [HSV.out] at q0
 have hmw : mb < w.heap.size := by rcases Nat.lt_or_ge mb w.heap.size with h | h; exact h; have h1 := HGE.out mb h; have h2 := hR1.om; omega
 replace c0 := hb4.cell c0 (fun e => by have e : w.heap.size = mb := e; omega); replace c1 := hb4.cell c1 (fun e => by have e : w.heap.size = mb := e; omega); replace c2 := hb4.cell c2 (fun e => by have e : w.heap.size = mb := e; omega)
 clear r0 r1
 obtain ⟨cells, hrow, hsb, hcells⟩ := hR1.row
 have hrow4 := own_but hrow hb4 (fun k hk e => by subst e; have h1 := hsb _ hk; have h2 := hR1.om; omega)
 have hcl := hrow.1
 have hfz := frozen_of (i := 0) hbx4
 have hCS : Cells w1 own1 cells ss := hcells
 clear hcells
 have hog := hR1.og
 have HOG := Lib.hid hog
 clear hog
 have hs4 := hb4.size
 have hs1 := hb01.size
 refine Zx hK11 ?_
 obtain ⟨s0, s3, s6⟩ := sS
 refine Stam.todo_begin (n := 43) (fun _ k => own1 k = 1 \/ own1 k = 2) [7, 10] (Stab.OkOps.of (by kernel_rfl)) (fun hok => ?_)
 refine Stam.mvO (k := 0) s0 hf.size hok.out rfl (by kernel_rfl) rfl rfl (.inl rfl) (by kernel_rfl) ?_
 refine Stam.mvO (k := 1) s0 hf.size hok.out rfl (by kernel_rfl) rfl rfl (.inl rfl) (by kernel_rfl) ?_
 apply Stam.tq 2 _ hf hok
 . (
 intro fr1 w1 hh hd hk K Z
 refine Stab.pl ?_
 have s33 := Stam.v 1 0 hd hk []
 have hxe := Stam.ext_at hh [(7, [4, 3]), (10, [])] (by kernel_rfl)
 have hbt := Stam.but_at hh [] [(7, [4, 3]), (10, [])] (by kernel_rfl)
 clear hd hh
 go_simp
 exact Stab.k Z)
 apply Stam.tq 3 _ hf hok
 . (
 intro fr1 w1 hh hd hk K Z
 refine Stab.pl ?_
 have s34 := Stam.v 2 0 hd hk []
 have hxe := Stam.ext_at hh [(7, [4]), (10, [])] (by kernel_rfl)
 have hbt := Stam.but_at hh [] [(7, [4]), (10, [])] (by kernel_rfl)
 clear hd hh
 go_simp
 exact Stab.k Z)
 apply Stam.tq 4 _ hf hok
 . (
 intro fr1 w1 hh hd hk K Z
 refine Stab.pl ?_
 have s35 := Stam.v 3 0 hd hk []
 have hxe := Stam.ext_at hh [(7, []), (10, [])] (by kernel_rfl)
 have hbt := Stam.but_at hh [] [(7, []), (10, [])] (by kernel_rfl)
 clear hd hh
 have q1 := cL hxe q0
 go_simp
 exact Stab.k Z)
 apply Stam.tq 5 _ hf hok
 . (
 intro fr1 w1 hh hd hk K Z
 refine Stab.pl ?_
 have s3 := Stam.o hh (by kernel_rfl) s3
 have hxe := Stam.ext_at hh [(7, [6]), (10, [])] (by kernel_rfl)
 have hbt := Stam.but_at hh [] [(7, [6]), (10, [])] (by kernel_rfl)
 clear hd hh
 have d0 := cL hxe c0; have d1 := cL hxe c1; have d2 := cL hxe c2
 go_simp
 exact Stab.k Z)
 refine Stam.todo_op (k := 6) (n := 43) (PLit [av, .bool s.final, .int .u64 s.out]) hf.size hok.out rfl (PLit.stable _) (by kernel_rfl) ?_ ?_
 . (
 intro fr1 w1 hh hd hk K Z
 refine Stab.pl ?_
 have s37 := Stam.v 5 0 hd hk []
 have hxe := Stam.ext_at hh [(7, []), (10, [])] (by kernel_rfl)
 have hbt := Stam.but_at hh [] [(7, []), (10, [])] (by kernel_rfl)
 clear hd hh
 go_simp
 exact Z.out _ rfl _ _ ((Below.refl _ _).alloc (Nat.le_refl _) _) ⟨_, rfl, lit_new _ _ _⟩)
 refine Stam.todo_sp (k := 7) (n := 43) (PRow w4 base g t xs sv mb (ss.length + 1) (cells ++ [av, .bool s.final, .int .u64 s.out])) hf.size hok.out rfl (PRow.stable _ _ _ _ _ _ _ _ _) (by kernel_rfl) ?_ ?_
 . (
 intro fr1 w1 hh hd hk K Z
 refine Stab.pl ?_
 have s36 := Stam.v 4 2 hd hk []
 obtain ⟨x38, s38, hp38⟩ := Stam.use (j := 6) (m := 0) hd hk rfl [] (by kernel_rfl) [(10, true, [])] (by kernel_rfl) rfl rfl rfl
 obtain ⟨b38, rfl, hc38⟩ := hp38
 have hxe := Stam.ext_at hh [(10, [])] (by kernel_rfl)
 have hbt := Stam.but_at hh [] [(10, [])] (by kernel_rfl)
 clear hd hh
 have hr2 := own_later hrow4 hxe
 have hx2 := (hxe.block g (heap_lt hbx4)).trans hbx4
 refine wp_app _ _ 36 rfl 46 _ 3 40 Tryz.underlying36 info_stateD rfl (by decide) (by decide) base sv ss.length cells (by rw [HSV.out]; exact Fact.eval_tmp s36) hr2 b38 _ (Fact.eval_tmp s38) rfl hc38 (by intro u hu; simp at hu; rcases hu with rfl | rfl | rfl <;> first | rfl | exact av_one hra1) (by omega) (by have := hxe.size; omega) (fun v2 w2 hr3 hg3 hat3 => ?_)
 have hat3b : sv.ownBlock = sv.ownBlock := rfl
 exact Z.out _ rfl _ _ (But.grown hg3 (fun k hk => .inr (hsb k hk))) ⟨hr3, hat3.imp id (fun h => ⟨_, h, hxe.size⟩), hg3.block g (heap_lt hx2) (fun e => by have h1 := hsb g e.symm; have h2 := HOG.out; omega) |>.trans hx2⟩)
 apply Stam.tq 8 _ hf hok
 . (
 intro fr1 w1 hh hd hk K Z
 refine Stab.pl ?_
 have s32 := Stam.v 0 7 hd hk []
 have hbt := Stam.but_at hh [7] [(10, [9])] (by kernel_rfl)
 clear hd hh
 go_simp
 exact Stab.k Z)
 apply Stam.tq 9 _ hf hok
 . (
 intro fr1 w1 hh hd hk K Z
 refine Stab.pl ?_
 have s40 := Stam.v 8 0 hd hk []
 have hbt := Stam.but_at hh [7] [(10, [])] (by kernel_rfl)
 clear hd hh
 go_simp
 exact Stab.k Z)
 refine Stam.todo_sp (k := 10) (n := 43) (PEnd w4 base g t xs sv mb (ss.length + 1) (cells ++ [av, .bool s.final, .int .u64 s.out])) hf.size hok.out rfl (PEnd.stable _ _ _ _ _ _ _ _ _) (by kernel_rfl) ?_ ?_
 . (
 intro fr1 w1 hh hd hk K Z
 refine Stab.pl ?_
 have s41 := Stam.v 9 0 hd hk []
 obtain ⟨x39, s39, hp39⟩ := Stam.use (j := 7) (m := 2) hd hk rfl [] (by kernel_rfl) [] (by kernel_rfl) rfl rfl rfl
 obtain ⟨hr39, hl39, hx39⟩ := hp39
 have hbt := Stam.but_at hh [7] [] (by kernel_rfl)
 clear hd hh
 have z0 := cell_of_row _ _ 0 _ t (0, 0) hx39
 simp at z0
 have fz := frozen_of (i := 0) hx39
 obtain ⟨A2, c2, hv2, _⟩ := row_form hr39
 subst hv2
 go_simp
 refine Z.out _ rfl undef _ (But.setCell (.inl HOG.out) _) ⟨_, own_but hr39 (But.setCell (S := fun k => k = g) rfl _) (fun k hkk e => ?_), hl39, ?_⟩; (subst e; rcases hl39 with h | ⟨k2, h, hk2⟩; (rw [hkk] at h; have h1 := hsb _ h.symm; have h2 := HOG.out; omega); (rw [hkk] at h; injection h with h; have := heap_lt hbx4; omega)); exact (set_block hx39 _).trans (by simp))
 refine Stam.todo_facts (n := 43) (by kernel_rfl) hf.size hok.out rfl (fun fr1 w1 hh hg => ?_)
 replace s6 := Stam.o hh (by kernel_rfl) s6
 obtain ⟨_, hlast⟩ := Stam.end_fact (j := 10) (m := 0) hg rfl (by decide) [(7, [])] (by kernel_rfl) rfl
 have hf1 := hh.fr hf
 have hbt := hh.but
 clear hg hh hf hok s0 s3
 have hf := hf1; clear hf1
 refine Zs hK8 fun _ hK12 => Zr [42] hf ?_
 refine Zq1 4 hf ?_
 clear hf s6; intro fr1 hf s4
 refine Zx hK12 (Zret ?_)
 obtain ⟨v2, hr2, hl2, hx2⟩ := hlast
 replace hbt := hbt (fun k => own1 k = 1 \/ own1 k = 2) (fun m _ b h => h)
 refine Fact.ret1 rfl hf s4 ⟨by rw [HFI.out], own1, v2, HLT.out, HGE.out, ?_, ?_⟩
 . (
 rw [HFI.out]; exact hR1.snoc hg4 hM4 hbt hcl hCS hr2 (fun k hk => by rcases hl2 with h | ⟨k2, h, hk2⟩; (rw [hk] at h; exact hsb _ h.symm); (rw [hk] at h; injection h with h; exact HGE.out k (by omega))) hx2 hra1 hok HIN.out)
 . (
 exact But.via hb01 hb4 hbt (fun k hk e => by have h1 := HLT.out k hk; have h2 := hR1.om; rcases e with rfl | e | e <;> omega)))
theorem size47 (w : World) (sv : Value) (init : Nat) (ss : List State) (hrs : RS w sv ss) (hok : ∀ s ∈ ss, okS s) (hlen : ss.length <= 1000000) (hfew : ∀ s ∈ ss, s.arcs.length <= 1000) : Calls Tryz.prog 61 #[.agg #[sv, .int .u64 init]] w fun e w1 => e = .returned (.tuple #[.int .i64 ss.length, .int .i64 (arcCount ss : Nat)]) /\ Below w.heap.size w w1 := by
 refine Zn1 23 Tryz.func61 fun fr hf s0 => ?_
 obtain ⟨A, cc, rfl, hcc⟩ := hrs.form
 have HO := Lib.hid hok; have HF := Lib.hid hfew; clear hok hfew
 refine Ze fun _ hK1 => Zr [] hf ?_
 refine Zq2 1 3 hf ?_
 clear hf s0; intro fr1 hf sS
 generalize hW0 : w.alloc (.cells #[.slice A ss.length cc, .int .u64 init] 38) = W0
 obtain ⟨hb0, c0, c1, -, -⟩ := box2 hW0
 clear hW0
 have hr0 := hrs.later hb0
 clear hrs
 refine Zs hK1 fun _ hK2 => Ze fun _ hK3 => Zr [6, 7] hf ?_
 refine Zq5 1 3 7 8 9 hf ?_
 clear hf sS; intro fr1 hf sS
 refine Zx hK3 (wp_block (wp_loop_ghost (fun gk fr wr => ∃ (i : Nat), gk = ss.length - i /\ i <= ss.length /\ Fact.Fr 23 fr /\ fr.tmps[1]? = some (.pointer (some ⟨w.heap.size, 0, none⟩)) /\ fr.tmps[3]? = some (.int .i64 (arcCount (ss.take i) : Nat)) /\ fr.tmps[7]? = some (.slice A ss.length cc) /\ fr.tmps[8]? = some (.int .i64 ss.length) /\ fr.tmps[9]? = some (.int .i64 i) /\ Below W0.heap.size W0 wr) (ss.length) ?_ ?_))
 . (
 obtain ⟨s1, s3, s7, s8, s9⟩ := sS
 exact ⟨0, rfl, Nat.zero_le _, hf, s1, s3, s7, s8, s9, Below.refl _ _⟩)
 . (
 clear hf sS
 rintro gk fr wr ⟨i, hk, hi, hf, s1, s3, s7, s8, s9, hb⟩
 have HK := Lib.hid hk; clear hk
 refine Ze fun _ hK4 => Zr [] hf ?_
 refine Zq6 1 3 7 8 9 10 hf ?_
 clear hf s1 s3 s7 s8 s9; intro fr1 hf sS
 refine Zs hK4 fun _ hK5 => Fact.cond_s sS.2.2.2.2.2 (fun hq => ?_) (fun hq => ?_)
 . (
 have hlt : i < ss.length := by have h9 := of_decide_eq_true hq; omega
 have HQ := Lib.hid hq; clear hq
 obtain ⟨s, his⟩ : ∃ s, ss[i]? = some s := ⟨_, gE1 hlt⟩
 obtain ⟨b, off, av, rfl, hat⟩ := (hr0.later hb).at_ his
 have d0 := hat.c0; have d1 := hat.c1; have d2 := hat.c2
 obtain ⟨A2, c2, rfl, _⟩ := hat.arcs.form
 have hal := HF.out s (gM1 his)
 have hst := arcCount_step his
 have hac := arcCount_le HF.out i
 have HS := Lib.hid his; have HST := Lib.hid hst; clear his hst hat
 refine wp_skip (Zs hK5 fun _ hK6 => wp_block (Ze fun _ hK7 => Zr [11, 12, 5] hf ?_))
 refine Zq6 1 3 5 7 8 9 hf ?_
 clear hf sS; intro fr1 hf sS
 generalize hW5 : wr.alloc (.cells #[.slice A2 s.arcs.length c2, .bool s.final, .int .u64 s.out] 46) = W5
 obtain ⟨hb5, x0, -, -, -, -⟩ := box3 hW5
 clear hW5
 clear d0 d1 d2
 refine Zx hK7 (rg ?_)
 have bB := hf.B5 13 14 15 16 17
 iterate 4 refine Zy ?_
 refine fp fun K Z => ?_
 go_simp
 try simp (disch := omega) only [Fact.W]
 rw [show ((arcCount (ss.take i) : Nat) : Int) + (s.arcs.length : Int) = ((arcCount (ss.take (i + 1)) : Nat) : Int) by rw [HST.out]; omega]
 apply Z.out; clear Z K
 refine Zy ?_
 refine Fact.nil (Zq5 1 3 7 8 9 hf ?_)
 clear hf sS bB; intro fr1 hf sS
 refine Fact.block_normal (Zx hK6 (Zr [18] hf ?_))
 refine Zq5 1 3 7 8 9 hf ?_
 clear hf sS; intro fr1 hf sS
 refine Fact.then_normal ?_
 obtain ⟨s1, s3, s7, s8, s9⟩ := sS
 exact ⟨_, by have := HK.out; omega, i + 1, rfl, by omega, hf, s1, s3, s7, s8, by rw [s9]; rfl, hb.trans (hb5.mono hb.size)⟩)
 . (
 have hie : i = ss.length := by have h9 := of_decide_eq_false hq; omega
 have HIE := Lib.hid hie; clear hie hq
 have e0 := cL hb c0
 refine Zo ?_
 refine Zs hK2 fun _ hK8 => Zr [19, 20, 21, 22] hf ?_
 refine Zq2 2 3 hf ?_
 clear hf sS; intro fr1 hf sS
 refine Zx hK8 (Zret ?_)
 refine Fact.ret2 rfl hf sS.1 sS.2 ⟨?_, hb0.trans (hb.mono hb0.size)⟩
 rw [HIE.out, List.take_length]))
def okTo (i : Nat) : List Arc -> Bool
 | [] => true
 | a :: l => decide (0 <= a.to) && decide (a.to < (i : Int)) && okTo i l
def mayL : Nat -> List State -> Bool
 | _, [] => true
 | i, s :: l => (decide (s.arcs.length <= 256) && (s.final || decide (s.out = 0))) && okTo i s.arcs && mayL (i + 1) l
def mayF (en : Int) (ss : List State) : Bool := decide (0 <= en) && decide (en <= 100000) && decide (0 < ss.length) && mayL 0 ss
theorem drop_get {α : Type} {l : List α} {i : Nat} {x : α} (h : l[i]? = some x) : l.drop i = x :: l.drop (i + 1) := by
 obtain ⟨h1, h2⟩ := gS1 h
 rw [List.drop_eq_getElem_cons h1, h2]
theorem mayL_step {ss : List State} {i : Nat} {s : State} (h : ss[i]? = some s) : mayL i (ss.drop i) = ((decide (s.arcs.length <= 256) && (s.final || decide (s.out = 0))) && okTo i s.arcs && mayL (i + 1) (ss.drop (i + 1))) := by rw [drop_get h]; rfl
theorem okTo_step {l : List Arc} {i k : Nat} {a : Arc} (h : l[k]? = some a) : okTo i (l.drop k) = (decide (0 <= a.to) && decide (a.to < (i : Int)) && okTo i (l.drop (k + 1))) := by rw [drop_get h]; rfl
theorem may_cases (en : Int) (n : Nat) : en < 0 \/ (0 <= en /\ 100000 < en) \/ (0 <= en /\ en <= 100000 /\ n = 0) \/ (0 <= en /\ en <= 100000 /\ 0 < n) := by omega
theorem to_cases (t i : Int) : t < 0 \/ (0 <= t /\ i <= t) \/ (0 <= t /\ t < i) := by omega
theorem fin_cases (s : State) : 256 < s.arcs.length \/ (s.arcs.length <= 256 /\ s.final = true) \/ (s.arcs.length <= 256 /\ s.final = false) := by
 rcases s.final with _ | _ <;> simp <;> omega
theorem may28 (w : World) (en : Int) (sv : Value) (init : Nat) (ss : List State) (hrs : RS w sv ss) (hok : ∀ s ∈ ss, okS s) (hlen : ss.length <= 1000000) (hfew : ∀ s ∈ ss, s.arcs.length <= 1000) : Calls Tryz.prog 34 #[.int .i64 en, .agg #[sv, .int .u64 init]] w fun e w1 => e = .returned (.bool (mayF en ss)) /\ Below w.heap.size w w1 := by
 refine Zn2 66 Tryz.func34 fun fr hf s0 s1 => ?_
 obtain ⟨A, cc, rfl, hcc⟩ := hrs.form
 have HO := Lib.hid hok; have HF := Lib.hid hfew; clear hok hfew
 refine Ze fun _ hK1 => Zr [] hf ?_
 refine Zq2 0 3 hf ?_
 clear hf s0 s1; intro fr1 hf sS
 generalize hW0 : w.alloc (.cells #[.slice A ss.length cc, .int .u64 init] 38) = W0
 obtain ⟨hb0, c0, c1, -, -⟩ := box2 hW0
 clear hW0
 have hr0 := hrs.later hb0
 clear hrs
 refine Zt hK1 fun _ hK2 => ?_
 have bB := hf.B5 12 13 11 14 15
 refine Zy ?_
 refine Zc (size47 W0 _ init ss hr0 HO.out hlen HF.out) ?_; rintro e w1 ⟨rfl, hb1⟩
 refine Zv ?_
 iterate 5 refine Zy ?_
 refine Fact.nil (Zq3 0 3 5 hf ?_)
 clear hf sS bB; intro fr1 hf sS
 have hr1 := hr0.later hb1
 have e0 := cL hb1 c0
 have e1 := cL hb1 c1
 have hbz0 := hb0.trans (hb1.mono hb0.size)
 clear hr0 c0 c1
 refine Zx hK2 ?_
 rcases may_cases en ss.length with hc | hc | hc | hc
 . (
 have q1 : decide (en < 0) = true := decide_eq_true hc
 have HC := Lib.hid hc; clear hc
 refine Ze fun _ hK3 => Ze fun _ hK4 => ?_
 have qs := q1
 refine Zr [16, 17, 18, 19, 20, 21, 22, 23, 24] hf ?_
 refine Zq2 3 25 hf ?_
 clear hf sS qs; intro fr1 hf sS
 refine Zx hK4 (Fact.cond_t sS.2 ?_)
 have hbad : mayF en ss = false := by unfold mayF; have := HC.out; rw [decide_eq_false (show ¬ 0 <= en by omega)]; rfl
 have HBAD := Lib.hid hbad; clear hbad
 refine Ze fun _ hK5 => Zr [] hf ?_
 refine Zq1 4 hf ?_
 clear hf sS; intro fr1 hf s4
 refine Zx hK5 (Zret ?_)
 exact Fact.ret1 rfl hf s4 ⟨by rw [HBAD.out], hbz0⟩)
 . (
 have q1 : decide (en < 0) = false := decide_eq_false (by omega)
 have q2 : decide ((100000 : Int) < en) = true := decide_eq_true hc.2
 have HC := Lib.hid hc; clear hc
 refine Ze fun _ hK6 => Ze fun _ hK7 => ?_
 have qs := And.intro q1 q2
 refine Zr [16, 17, 18, 19, 20, 21, 22, 23, 24] hf ?_
 refine Zq2 3 25 hf ?_
 clear hf sS qs; intro fr1 hf sS
 refine Zx hK7 (Fact.cond_t sS.2 ?_)
 have hbad : mayF en ss = false := by unfold mayF; have := HC.out; rw [decide_eq_true (show 0 <= en by omega), decide_eq_false (show ¬ en <= 100000 by omega)]; rfl
 have HBAD := Lib.hid hbad; clear hbad
 refine Ze fun _ hK8 => Zr [] hf ?_
 refine Zq1 4 hf ?_
 clear hf sS; intro fr1 hf s4
 refine Zx hK8 (Zret ?_)
 exact Fact.ret1 rfl hf s4 ⟨by rw [HBAD.out], hbz0⟩)
 . (
 have q1 : decide (en < 0) = false := decide_eq_false (by omega)
 have q2 : decide ((100000 : Int) < en) = false := decide_eq_false (by omega)
 have q3 : ((ss.length : Int) == 0) = true := beq_iff_eq.2 (by omega)
 have HC := Lib.hid hc; clear hc
 refine Ze fun _ hK9 => Ze fun _ hK10 => ?_
 have qs := And.intro q1 (And.intro q2 q3)
 refine Zr [16, 17, 18, 19, 20, 21, 22, 23, 24] hf ?_
 refine Zq2 3 25 hf ?_
 clear hf sS qs; intro fr1 hf sS
 refine Zx hK10 (Fact.cond_t sS.2 ?_)
 have hbad : mayF en ss = false := by unfold mayF; have := HC.out; rw [decide_eq_false (show ¬ 0 < ss.length by omega)]; simp
 have HBAD := Lib.hid hbad; clear hbad
 refine Ze fun _ hK11 => Zr [] hf ?_
 refine Zq1 4 hf ?_
 clear hf sS; intro fr1 hf s4
 refine Zx hK11 (Zret ?_)
 exact Fact.ret1 rfl hf s4 ⟨by rw [HBAD.out], hbz0⟩)
 . (
 have q1 : decide (en < 0) = false := decide_eq_false (by omega)
 have q2 : decide ((100000 : Int) < en) = false := decide_eq_false (by omega)
 have q3 : ((ss.length : Int) == 0) = false := beq_eq_false_iff_ne.2 (by omega)
 have HC := Lib.hid hc; clear hc
 refine Ze fun _ hK12 => Ze fun _ hK13 => ?_
 have qs := And.intro q1 (And.intro q2 q3)
 refine Zr [16, 17, 18, 19, 20, 21, 22, 23, 24] hf ?_
 refine Zq2 3 25 hf ?_
 clear hf sS qs; intro fr1 hf sS
 refine Zx hK13 (Fact.cond_f sS.2 ?_)
 have hen : mayF en ss = mayL 0 ss := by unfold mayF; have := HC.out; rw [decide_eq_true (show 0 <= en by omega), decide_eq_true (show en <= 100000 by omega), decide_eq_true (show 0 < ss.length by omega)]; rfl
 have HM0 := Lib.hid hen; clear hen
 refine wp_skip (Zs hK12 fun _ hK14 => Ze fun _ hK15 => Zr [26, 27] hf ?_)
 refine Zq3 27 28 29 hf ?_
 clear hf sS; intro fr1 hf sS
 refine Zx hK15 (wp_block (wp_loop_ghost (fun gk fr wr => ∃ (i : Nat), gk = ss.length - i /\ i <= ss.length /\ Fact.Fr 66 fr /\ fr.tmps[27]? = some (.slice A ss.length cc) /\ fr.tmps[28]? = some (.int .i64 ss.length) /\ fr.tmps[29]? = some (.int .i64 i) /\ mayL 0 ss = mayL i (ss.drop i) /\ Below w1.heap.size w1 wr) (ss.length) ?_ ?_))
 . (
 obtain ⟨s27, s28, s29⟩ := sS
 exact ⟨0, rfl, Nat.zero_le _, hf, s27, s28, s29, rfl, Below.refl _ _⟩)
 . (
 clear hf sS
 rintro gk fr wr ⟨i, hk, hi, hf, s27, s28, s29, hfm, hb⟩
 have HK := Lib.hid hk; have HM := Lib.hid hfm; clear hk hfm
 refine Ze fun _ hK16 => Zr [] hf ?_
 refine Zq4 27 28 29 30 hf ?_
 clear hf s27 s28 s29; intro fr1 hf sS
 refine Zs hK16 fun _ hK17 => Fact.cond_s sS.2.2.2 (fun hq => ?_) (fun hq => ?_)
 . (
 have hlt : i < ss.length := by have h9 := of_decide_eq_true hq; omega
 have HQ := Lib.hid hq; clear hq
 obtain ⟨s, his⟩ : ∃ s, ss[i]? = some s := ⟨_, gE1 hlt⟩
 obtain ⟨b, off, av, rfl, hat⟩ := (hr1.later hb).at_ his
 have d0 := hat.c0; have d1 := hat.c1; have d2 := hat.c2
 have hra := hat.arcs
 obtain ⟨A2, c2, rfl, _⟩ := hat.arcs.form
 have hos := HO.out s (gM1 his)
 have hst := mayL_step his
 have HS := Lib.hid his; have HST := Lib.hid hst; clear his hst hat
 have hal := hos.2.1
 refine wp_skip (Zs hK17 fun _ hK18 => wp_block (Ze fun _ hK19 => Zr [31, 32, 33, 8] hf ?_))
 refine Zq5 7 8 27 28 29 hf ?_
 clear hf sS; intro fr1 hf sS
 generalize hW5 : wr.alloc (.cells #[.slice A2 s.arcs.length c2, .bool s.final, .int .u64 s.out] 46) = W5
 obtain ⟨hb5, x0, x1, x2, -, -⟩ := box3 hW5
 clear hW5
 clear d0 d1 d2
 have hra5 := hra.later hb5
 clear hra
 have hbr0 := hb.trans (hb5.mono hb.size)
 have hbz1 := hbz0.trans (hbr0.mono hbz0.size)
 refine Zx hK19 (Fact.seq_meet (fun fr wq => Fact.Fr 66 fr /\ fr.tmps[7]? = some (.int .i64 i) /\ fr.tmps[8]? = some (.pointer (some ⟨wr.heap.size, 0, none⟩)) /\ fr.tmps[27]? = some (.slice (some ⟨b, off, none⟩) ss.length cc) /\ fr.tmps[28]? = some (.int .i64 ss.length) /\ fr.tmps[29]? = some (.int .i64 i) /\ wq = W5 /\ (decide (s.arcs.length <= 256) && (s.final || decide (s.out = 0))) = true) ?_ ?_)
 . (
 rcases fin_cases s with hfin | hfin | hfin
 . (
 have q0 : decide ((256 : Int) < (s.arcs.length : Int)) = true := decide_eq_true (by omega)
 have HFI := Lib.hid hfin; clear hfin
 refine Ze fun _ hK20 => ?_
 have qs := q0
 refine Zr [34, 35, 36, 37, 38, 39, 40, 41, 42, 43, 44, 45, 46] hf ?_
 refine Zq6 7 8 27 28 29 47 hf ?_
 clear hf sS qs; intro fr1 hf sS
 refine Zx hK20 (Fact.cond_t sS.2.2.2.2.2 ?_)
 have hbad : mayF en ss = false := by rw [HM0.out, HM.out, HST.out]; have := HFI.out; rw [decide_eq_false (show ¬ s.arcs.length <= 256 by omega)]; rfl
 have HBAD := Lib.hid hbad; clear hbad
 refine Ze fun _ hK21 => Zr [] hf ?_
 refine Zq1 4 hf ?_
 clear hf sS; intro fr1 hf s4
 refine Zx hK21 (Zret ?_)
 exact Fact.ret1 rfl hf s4 ⟨by rw [HBAD.out], hbz1⟩)
 . (
 have q0 : decide ((256 : Int) < (s.arcs.length : Int)) = false := decide_eq_false (by omega)
 have q1 := hfin.2
 have HFI := Lib.hid hfin; clear hfin
 refine Ze fun _ hK22 => rg ?_
 have bB := And.intro (hf.B10 34 35 36 37 38 39 40 41 42 43) (hf.B3 44 45 46)
 iterate 5 refine Zy ?_
 refine Zg ?_ (hv := by simp (decide := true) only [Fact.G, reduceIte, hf.size, q0, q1, Fact.N])
 refine Zg ?_ (hv := by simp (decide := true) only [Fact.G, reduceIte, hf.size, q0, q1, Fact.N])
 refine Zg ?_ (hv := by simp (decide := true) only [Fact.G, reduceIte, hf.size, q0, q1, Fact.N])
 refine Zg ?_ (hv := by simp (decide := true) only [Fact.G, reduceIte, hf.size, q0, q1, Fact.N])
 refine Zk ?_ (hv := by simp (decide := true) only [Fact.G, reduceIte, hf.size, Fact.N, q0, q1, Fact.N])
 refine Zk ?_ (hv := by simp (decide := true) only [Fact.G, reduceIte, hf.size, Fact.N, q0, q1, Fact.N])
 refine Zk ?_ (hv := by simp (decide := true) only [Fact.G, reduceIte, hf.size, Fact.N, q0, q1, Fact.N])
 refine Zg ?_ (hv := by simp (decide := true) only [Fact.G, reduceIte, hf.size, q0, q1, Fact.N])
 refine Zy ?_
 refine Fact.nil (Zq6 7 8 27 28 29 47 hf ?_)
 clear hf sS bB; intro fr1 hf sS
 refine Zx hK22 (Fact.cond_f sS.2.2.2.2.2 ?_)
 have hfo : (decide (s.arcs.length <= 256) && (s.final || decide (s.out = 0))) = true := by have := HFI.out; rw [decide_eq_true this.1, this.2]; rfl
 have HFO := Lib.hid hfo; clear hfo
 refine wp_skip (Fact.then_normal ?_)
 obtain ⟨s7, s8, s27, s28, s29, s47⟩ := sS
 exact ⟨hf, s7, s8, s27, s28, s29, rfl, HFO.out⟩)
 . (
 have q0 : decide ((256 : Int) < (s.arcs.length : Int)) = false := decide_eq_false (by omega)
 have q1 := hfin.2
 have HFI := Lib.hid hfin; clear hfin
 refine Ze fun _ hK23 => rg ?_
 have bB := And.intro (hf.B10 34 35 36 37 38 39 40 41 42 43) (hf.B3 44 45 46)
 iterate 5 refine Zy ?_
 refine Zg ?_ (hv := by simp (decide := true) only [Fact.G, reduceIte, hf.size, q0, q1, Fact.N])
 refine Zg ?_ (hv := by simp (decide := true) only [Fact.G, reduceIte, hf.size, q0, q1, Fact.N])
 refine Zg ?_ (hv := by simp (decide := true) only [Fact.G, reduceIte, hf.size, q0, q1, Fact.N])
 refine Zg ?_ (hv := by simp (decide := true) only [Fact.G, reduceIte, hf.size, q0, q1, Fact.N])
 refine Zg ?_ (hv := by simp (decide := true) only [Fact.G, reduceIte, hf.size, q0, q1, Fact.N])
 refine Zg ?_ (hv := by simp (decide := true) only [Fact.G, reduceIte, hf.size, q0, q1, Fact.N])
 refine Zg ?_ (hv := by simp (decide := true) only [Fact.G, reduceIte, hf.size, q0, q1, Fact.N])
 refine Zg ?_ (hv := by simp (decide := true) only [Fact.G, reduceIte, hf.size, q0, q1, Fact.N])
 refine Zy ?_
 refine Fact.nil (Zq6 7 8 27 28 29 47 hf ?_)
 clear hf sS bB; intro fr1 hf sS
 refine Zx hK23 (Fact.cond_s sS.2.2.2.2.2 (fun hqo => ?_) (fun hqo => ?_))
 . (
 have ho0 : s.out ≠ 0 := by simpa using hqo
 have HO0 := Lib.hid ho0; clear ho0 hqo
 have hbad : mayF en ss = false := by rw [HM0.out, HM.out, HST.out, HFI.out.2, decide_eq_false HO0.out]; simp
 have HBAD := Lib.hid hbad; clear hbad
 refine Ze fun _ hK24 => Zr [] hf ?_
 refine Zq1 4 hf ?_
 clear hf sS; intro fr1 hf s4
 refine Zx hK24 (Zret ?_)
 exact Fact.ret1 rfl hf s4 ⟨by rw [HBAD.out], hbz1⟩)
 . (
 have ho0 : s.out = 0 := by simpa using hqo
 have HO0 := Lib.hid ho0; clear ho0 hqo
 have hfo : (decide (s.arcs.length <= 256) && (s.final || decide (s.out = 0))) = true := by have := HFI.out; rw [decide_eq_true this.1, this.2, decide_eq_true HO0.out]; rfl
 have HFO := Lib.hid hfo; clear hfo
 refine wp_skip (Fact.then_normal ?_)
 obtain ⟨s7, s8, s27, s28, s29, s47⟩ := sS
 exact ⟨hf, s7, s8, s27, s28, s29, rfl, HFO.out⟩)))
 . (
 clear hf sS
 rintro fr wq ⟨hf, s7, s8, s27, s28, s29, hw, hfo⟩
 subst wq
 have HFO := Lib.hid hfo; clear hfo
 refine Ze fun _ hK25 => Zr [48, 49] hf ?_
 refine Zq7 7 27 28 29 49 50 51 hf ?_
 clear hf s7 s8 s27 s28 s29; intro fr1 hf sS
 refine Zx hK25 (wp_block (wp_loop_ghost (fun gk2 fr wr2 => ∃ (k : Nat), gk2 = s.arcs.length - k /\ k <= s.arcs.length /\ Fact.Fr 66 fr /\ fr.tmps[7]? = some (.int .i64 i) /\ fr.tmps[27]? = some (.slice (some ⟨b, off, none⟩) ss.length cc) /\ fr.tmps[28]? = some (.int .i64 ss.length) /\ fr.tmps[29]? = some (.int .i64 i) /\ fr.tmps[49]? = some (.slice A2 s.arcs.length c2) /\ fr.tmps[50]? = some (.int .i64 s.arcs.length) /\ fr.tmps[51]? = some (.int .i64 k) /\ okTo i s.arcs = okTo i (s.arcs.drop k) /\ Below W5.heap.size W5 wr2) (s.arcs.length) ?_ ?_))
 . (
 obtain ⟨s7, s27, s28, s29, s49, s50, s51⟩ := sS
 exact ⟨0, rfl, Nat.zero_le _, hf, s7, s27, s28, s29, s49, s50, s51, rfl, Below.refl _ _⟩)
 . (
 clear hf sS
 rintro gk2 fr wr2 ⟨k, hk2, hki, hf, s7, s27, s28, s29, s49, s50, s51, hoa, hb6⟩
 have HK2 := Lib.hid hk2; have HOA := Lib.hid hoa; clear hk2 hoa
 refine Ze fun _ hK26 => Zr [] hf ?_
 refine Zq8 7 27 28 29 49 50 51 52 hf ?_
 clear hf s7 s27 s28 s29 s49 s50 s51; intro fr1 hf sS
 refine Zs hK26 fun _ hK27 => Fact.cond_s sS.2.2.2.2.2.2.2 (fun hq2 => ?_) (fun hq2 => ?_)
 . (
 have hklt : k < s.arcs.length := by have h9 := of_decide_eq_true hq2; omega
 have HQ2 := Lib.hid hq2; clear hq2
 obtain ⟨a, hka⟩ : ∃ a, s.arcs[k]? = some a := ⟨_, gE1 hklt⟩
 obtain ⟨b3, off3, rfl, hbl, y0, y1, y2⟩ := (hra5.later hb6).at' hka
 have haa := hos.2.2 a (gM1 hka)
 have hat := okTo_step (i := i) hka
 have HKA := Lib.hid hka; have HAT := Lib.hid hat; clear hka hat
 have hab := haa.1
 rcases to_cases a.to (i : Int) with hc | hc | hc
 . (
 have q2 : decide (a.to < 0) = true := decide_eq_true hc
 have HC := Lib.hid hc; clear hc
 refine wp_skip (Zs hK27 fun _ hK28 => wp_block (Ze fun _ hK29 => Zr [53, 54, 10] hf ?_))
 refine Zq8 7 10 27 28 29 49 50 51 hf ?_
 clear hf sS; intro fr1 hf sS
 generalize hW7 : wr2.alloc (.cells #[.int .u8 a.byte, .int .u64 a.out, .int .i64 a.to] 71) = W7
 obtain ⟨hb7, -, -, z2, -, -⟩ := box3 hW7
 clear hW7
 clear y0 y1 y2 hbl
 have hbz := hbz1.trans ((hb6.trans (hb7.mono hb6.size)).mono hbz1.size)
 refine Zs hK29 fun _ hK30 => ?_
 have qs := q2
 refine Zr [55, 56, 57, 58, 59, 60, 61, 62] hf ?_
 refine Zq8 7 27 28 29 49 50 51 63 hf ?_
 clear hf sS qs; intro fr1 hf sS
 refine Zx hK30 (Fact.cond_t sS.2.2.2.2.2.2.2 ?_)
 have hbad : mayF en ss = false := by rw [HM0.out, HM.out, HST.out, HOA.out, HAT.out]; have := HC.out; rw [decide_eq_false (show ¬ 0 <= a.to by omega)]; simp
 have HBAD := Lib.hid hbad; clear hbad
 refine Ze fun _ hK31 => Zr [] hf ?_
 refine Zq1 4 hf ?_
 clear hf sS; intro fr1 hf s4
 refine Zx hK31 (Zret ?_)
 exact Fact.ret1 rfl hf s4 ⟨by rw [HBAD.out], hbz⟩)
 . (
 have q2 : decide (a.to < 0) = false := decide_eq_false (by omega)
 have q3 : decide ((i : Int) <= a.to) = true := decide_eq_true hc.2
 have HC := Lib.hid hc; clear hc
 refine wp_skip (Zs hK27 fun _ hK32 => wp_block (Ze fun _ hK33 => Zr [53, 54, 10] hf ?_))
 refine Zq8 7 10 27 28 29 49 50 51 hf ?_
 clear hf sS; intro fr1 hf sS
 generalize hW7 : wr2.alloc (.cells #[.int .u8 a.byte, .int .u64 a.out, .int .i64 a.to] 71) = W7
 obtain ⟨hb7, -, -, z2, -, -⟩ := box3 hW7
 clear hW7
 clear y0 y1 y2 hbl
 have hbz := hbz1.trans ((hb6.trans (hb7.mono hb6.size)).mono hbz1.size)
 refine Zs hK33 fun _ hK34 => ?_
 have qs := And.intro q2 q3
 refine Zr [55, 56, 57, 58, 59, 60, 61, 62] hf ?_
 refine Zq8 7 27 28 29 49 50 51 63 hf ?_
 clear hf sS qs; intro fr1 hf sS
 refine Zx hK34 (Fact.cond_t sS.2.2.2.2.2.2.2 ?_)
 have hbad : mayF en ss = false := by rw [HM0.out, HM.out, HST.out, HOA.out, HAT.out]; have := HC.out; rw [decide_eq_false (show ¬ a.to < (i : Int) by omega)]; simp
 have HBAD := Lib.hid hbad; clear hbad
 refine Ze fun _ hK35 => Zr [] hf ?_
 refine Zq1 4 hf ?_
 clear hf sS; intro fr1 hf s4
 refine Zx hK35 (Zret ?_)
 exact Fact.ret1 rfl hf s4 ⟨by rw [HBAD.out], hbz⟩)
 . (
 have q2 : decide (a.to < 0) = false := decide_eq_false (by omega)
 have q3 : decide ((i : Int) <= a.to) = false := decide_eq_false (by omega)
 have HC := Lib.hid hc; clear hc
 refine wp_skip (Zs hK27 fun _ hK36 => wp_block (Ze fun _ hK37 => Zr [53, 54, 10] hf ?_))
 refine Zq8 7 10 27 28 29 49 50 51 hf ?_
 clear hf sS; intro fr1 hf sS
 generalize hW7 : wr2.alloc (.cells #[.int .u8 a.byte, .int .u64 a.out, .int .i64 a.to] 71) = W7
 obtain ⟨hb7, -, -, z2, -, -⟩ := box3 hW7
 clear hW7
 clear y0 y1 y2 hbl
 have hbz := hbz1.trans ((hb6.trans (hb7.mono hb6.size)).mono hbz1.size)
 refine Zs hK37 fun _ hK38 => ?_
 have qs := And.intro q2 q3
 refine Zr [55, 56, 57, 58, 59, 60, 61, 62] hf ?_
 refine Zq8 7 27 28 29 49 50 51 63 hf ?_
 clear hf sS qs; intro fr1 hf sS
 refine Zx hK38 (Fact.cond_f sS.2.2.2.2.2.2.2 ?_)
 have hoa3 : okTo i s.arcs = okTo i (s.arcs.drop (k + 1)) := by rw [HOA.out, HAT.out]; have := HC.out; rw [decide_eq_true (show 0 <= a.to by omega), decide_eq_true (show a.to < (i : Int) by omega)]; rfl
 have HOA3 := Lib.hid hoa3; clear hoa3
 refine wp_skip (Fact.block_normal (Zx hK36 (Zr [64] hf ?_)))
 refine Zq7 7 27 28 29 49 50 51 hf ?_
 clear hf sS; intro fr1 hf sS
 refine Fact.then_normal ?_
 obtain ⟨s7, s27, s28, s29, s49, s50, s51⟩ := sS
 exact ⟨_, by have := HK2.out; omega, k + 1, rfl, by omega, hf, s7, s27, s28, s29, s49, s50, by rw [s51]; rfl, HOA3.out, hb6.trans (hb7.mono hb6.size)⟩))
 . (
 have hke : k = s.arcs.length := by have h9 := of_decide_eq_false hq2; omega
 have hoa2 : okTo i s.arcs = true := by rw [HOA.out, hke, List.drop_length]; rfl
 have HOA2 := Lib.hid hoa2; clear hoa2 hke hq2
 have hbr := hbr0.trans (hb6.mono hbr0.size)
 refine Zo ?_
 refine Fact.block_normal (Zx hK18 (Zr [65] hf ?_))
 refine Zq3 27 28 29 hf ?_
 clear hf sS; intro fr1 hf sS
 refine Fact.then_normal ?_
 obtain ⟨s27, s28, s29⟩ := sS
 exact ⟨_, by have := HK.out; omega, i + 1, rfl, by omega, hf, s27, s28, by rw [s29]; rfl, by rw [HM.out, HST.out, HFO.out, HOA2.out]; rfl, hbr⟩))))
 . (
 have hie : i = ss.length := by have h9 := of_decide_eq_false hq; omega
 have HIE := Lib.hid hie; clear hie hq
 refine Zo ?_
 refine Zs hK14 fun _ hK39 => Zr [] hf ?_
 refine Zq1 4 hf ?_
 clear hf sS; intro fr1 hf s4
 refine Zx hK39 (Zret ?_)
 refine Fact.ret1 rfl hf s4 ⟨?_, hbz0.trans (hb.mono hbz0.size)⟩
 rw [HM0.out, HM.out, HIE.out, List.drop_length]
 rfl)))
end Dw
end Go.Proofs.YtcddnmhmcieebaaGreatDoor
