/- Dawg: the number of a state. -/
import Derived.Test.YtdkbgbdgmihlmaaGreatDoorPBase
import Derived.Test.YtdkbgbdgmihlmaaGreatDoorQW
import Derived.Test.YtdkbgbdgmihlmaaGreatDoorTools
namespace Go.Proofs.YtdkbgbdgmihlmaaGreatDoor
open Go.RowKit
set_option linter.unusedSimpArgs false
set_option linter.unusedVariables false
set_option linter.unnecessarySimpa false
namespace Dw

open Go.Maps
/-- what the append has left, what the store -/
def PRow (w4 : World) (base g : Nat) (t : TypeId) (xs : List Value) (sv : Value) (mb n : Nat) (cells : List Value) : Stab.Pr := fun v w => w.ownsRow base 58 3 v n cells ∧ (v.ownBlock = sv.ownBlock ∨ ∃ k, v.ownBlock = some k ∧ w4.heap.size ≤ k) ∧ w.heap[g]? = some (.cells (sv :: .map (some mb) :: xs).toArray t (0, 0))
theorem PRow.stable (w4 : World) (base g : Nat) (t : TypeId) (xs : List Value) (sv : Value) (mb n : Nat) (cells : List Value) : Stab.Stable (PRow w4 base g t xs sv mb n cells) := fun v w w' hb ⟨h1, h2, h3⟩ => ⟨own_later h1 hb, h2, (hb.block g (heap_lt h3)).trans h3⟩
def PEnd (w4 : World) (base g : Nat) (t : TypeId) (xs : List Value) (sv : Value) (mb n : Nat) (cells : List Value) : Stab.Pr := fun _ w => ∃ v, w.ownsRow base 58 3 v n cells ∧ (v.ownBlock = sv.ownBlock ∨ ∃ k, v.ownBlock = some k ∧ w4.heap.size ≤ k) ∧ w.heap[g]? = some (.cells (v :: .map (some mb) :: xs).toArray t (0, 0))
theorem PEnd.stable (w4 : World) (base g : Nat) (t : TypeId) (xs : List Value) (sv : Value) (mb n : Nat) (cells : List Value) : Stab.Stable (PEnd w4 base g t xs sv mb n cells) := fun _ w w' hb ⟨v, h1, h2, h3⟩ => ⟨v, own_later h1 hb, h2, (hb.block g (heap_lt h3)).trans h3⟩
theorem av_one {w : World} {B : Nat → Prop} {v : Value} {l : List Arc} (h : RA w B v l) : v.oneCell' = true := by
  obtain ⟨A, c, rfl, _⟩ := h.form
  rfl
theorem But.via {S S' T : Nat → Prop} {w w1 w4 w5 : World} (h1 : Below w.heap.size w w1) (h4 : But S w1 w4) (h5 : But S' w4 w5) (hT : ∀ k, k < w.heap.size → (S k ∨ S' k) → T k) : But T w w5 :=
  ⟨h5.os.trans (h4.os.trans h1.os), h5.tape.trans (h4.tape.trans h1.tape), h5.output.trans (h4.output.trans h1.output), Nat.le_trans h1.size (Nat.le_trans h4.size h5.size), fun k hk hn => by
    have hs1 := h1.size
    have hs4 := h4.size
    rw [h5.block k (by omega) (fun e => hn (hT k hk (.inr e))), h4.block k (by omega) (fun e => hn (hT k hk (.inl e))), h1.block k hk]⟩
set_option maxHeartbeats 4000000 in
set_option maxRecDepth 100000 in
theorem finish31 (w : World) {base g mb : Nat} {own : Nat → Nat} {t : TypeId} {xs : List Value} {sv : Value} {ss : List State} {s : State} {av : Value} (hR : Reg w base own g t xs sv mb ss) (hra : RA w (fun k => own k = 4) av s.arcs) (hok : okK s) (hlen : ss.length < 1000000) : Calls Tryz.prog 25 #[.pointer (some ⟨g, 0, none⟩), sval av s] w fun e w1 => e = .returned (.int .i64 ((finish ss s).2 : Nat)) ∧ ∃ own' sv', (∀ k, k < w.heap.size → own' k = own k) ∧ (∀ k, w.heap.size ≤ k → own' k = 2) ∧ Reg w1 base own' g t xs sv' mb (finish ss s).1 ∧ But (fun k => own k = 1 ∨ own k = 2 ∨ own k = 3) w w1 := by
 refine calls_of_wp Tryz.func25 rfl ?_
 refine Fact.en 43 fun fr hf hT => ?_
 have s0 := hT 0 _ rfl
 have s1 := hT 1 _ rfl
 clear hT
 have hRg := hR.told (own' := fun k => if k < w.heap.size then own k else 2) (fun k hk => by rw [if_pos (by have := hR.base_le; omega)]; exact hR.lo k hk) (fun k hk _ _ => if_pos hk)
 have hra2 := hra.more (B' := fun k => (if k < w.heap.size then own k else 2) = 4) (fun k hk h4 => by rw [if_pos hk]; exact h4)
 obtain ⟨own1, hown1⟩ : ∃ f, (fun k => if k < w.heap.size then own k else 2) = f := ⟨_, rfl⟩
 have hge : ∀ k, w.heap.size ≤ k → own1 k = 2 := fun k hk => by rw [← hown1]; exact if_neg (by omega)
 have hlt : ∀ k, k < w.heap.size → own1 k = own k := fun k hk => by rw [← hown1]; exact if_pos hk
 replace hRg : Reg w base own1 g t xs sv mb ss := by rw [← hown1]; exact hRg
 replace hra2 : RA w (fun k => own1 k = 4) av s.arcs := by rw [← hown1]; exact hra2
 clear hown1 hR hra
 have HGE := Lib.hid hge; have HLT := Lib.hid hlt; clear hge hlt
 have hbw := hRg.base_le
 simp only [sval] at s1
 refine Fact.sq fun K1 hK1 => ?_
 refine rg ?_
 iterate 2 (refine fp fun K Z => ?_; go_simp; apply Z.out; clear Z K)
 refine Fact.z hf fun fr1 hf1 hT => ?_
 have hKp : _ ∧ _ := ⟨hT 0, hT 3⟩
 simp (decide := true) only [Fact.G, hf.size, reduceIte, s0] at hKp
 replace hf := hf1; clear hT hf1 s0 s1
 obtain ⟨s0, s3⟩ := hKp
 obtain ⟨W0, hW0⟩ : ∃ W0, w.alloc (.cells #[av, .bool s.final, .int .u64 s.out] 58) = W0 := ⟨_, rfl⟩
 try rw [hW0]
 obtain ⟨hb0, c0, c1, c2, -, hz0_⟩ := box3 hW0
 clear hW0
 have hz0 : w.heap.size < W0.heap.size := by rw [hz0_]; exact Nat.lt_succ_self _
 clear hz0_
 have hR0 := hRg.later hb0
 have hra0 := hra2.later hb0
 clear hRg hra2
 refine nx (hK1 _ _ ?_)
 refine Fact.sq fun K2 hK2 => ?_
 refine rg ?_
 have b8 := hf.b 8
 have b9 := hf.b 9
 refine fp fun K Z => ?_
 go_simp
 apply Z.out; clear Z K
 refine fp fun K Z => ?_
 go_simp
 go_at_call 45; refine (key49 W0 s _ av hra0 hok.ok hok.to hok.few).mono ?_; rintro e w1 ⟨rfl, hb1⟩
 try dsimp only
 apply Z.out; clear Z K
 refine fp fun K Z => ?_
 go_simp
 apply Z.out; clear Z K
 refine Fact.z hf fun fr1 hf1 hT => ?_
 have hKp : _ ∧ _ ∧ _ := ⟨hT 0, hT 3, hT 5⟩
 simp (decide := true) only [Fact.G, hf.size, reduceIte, s0, s3] at hKp
 replace hf := hf1; clear hT hf1 s0 s3 b8 b9
 obtain ⟨s0, s3, s5⟩ := hKp
 replace c0 := cL hb1 c0; replace c1 := cL hb1 c1; replace c2 := cL hb1 c2; have hR1 := hR0.later hb1; have hra1 := hra0.later hb1; have hb01 := hb0.trans (hb1.mono hb0.size)
 clear hR0 hra0 hb1
 have r0 := hR1.cell0; have r1 := hR1.cell1
 refine nx (hK2 _ _ ?_)
 by_cases hin : s ∈ ss
 · (
 obtain ⟨i, hi, hil, hfi⟩ := finish_found hin
 have hlk := look_in hR1.map hok hR1.good hR1.nodup hi
 have HI := Lib.hid hi; have HFI := Lib.hid hfi; have HIN := Lib.hid hin; clear hi hfi hin
 refine Fact.sq fun K3 hK3 => ?_
 refine rg ?_
 have b11 := hf.b 11
 have b12 := hf.b 12
 have b13 := hf.b 13
 have b14 := hf.b 14
 have b15 := hf.b 15
 have b16 := hf.b 16
 have b10 := hf.b 10
 have b17 := hf.b 17
 have b18 := hf.b 18
 iterate 11 (refine fp fun K Z => ?_; go_simp; apply Z.out; clear Z K)
 refine Fact.z hf fun fr1 hf1 hT => ?_
 have hKp : _ ∧ _ ∧ _ ∧ _ ∧ _ := ⟨hT 0, hT 3, hT 5, hT 6, hT 7⟩
 simp (decide := true) only [Fact.G, hf.size, reduceIte, s0, s3, s5] at hKp
 replace hf := hf1; clear hT hf1 s0 s3 s5 b11 b12 b13 b14 b15 b16 b10 b17 b18
 obtain ⟨s0, s3, s5, s6, s7⟩ := hKp
 refine nx (hK3 _ _ ?_)
 refine Fact.sq fun K4 hK4 => ?_
 refine Fact.sq fun K5 hK5 => ?_
 refine rg ?_
 have b19 := hf.b 19
 iterate 2 (refine fp fun K Z => ?_; go_simp; apply Z.out; clear Z K)
 refine Fact.z hf fun fr1 hf1 hT => ?_
 have hKp : _ ∧ _ ∧ _ ∧ _ ∧ _ := ⟨hT 0, hT 3, hT 5, hT 6, hT 20⟩
 simp (decide := true) only [Fact.G, hf.size, reduceIte, s0, s3, s5, s6] at hKp
 replace hf := hf1; clear hT hf1 s0 s3 s5 s6 s7 b19
 obtain ⟨s0, s3, s5, s6, s20⟩ := hKp
 refine nx (hK5 _ _ ?_)
 refine Fact.cond_f s20 ?_
 refine wp_skip ?_
 refine nx (hK4 _ _ ?_)
 refine Fact.sq fun K6 hK6 => ?_
 refine rg ?_
 have b42 := hf.b 42
 iterate 2 (refine fp fun K Z => ?_; go_simp; apply Z.out; clear Z K)
 refine Fact.z hf fun fr1 hf1 hT => ?_
 have hKp := hT 4
 simp (decide := true) only [Fact.G, hf.size, reduceIte] at hKp
 replace hf := hf1; clear hT hf1 s0 s3 s5 s6 s20 b42
 have s4 := hKp; clear hKp
 refine nx (hK6 _ _ ?_)
 refine wp_ret ?_
 refine Fact.ret1 rfl hf s4 ⟨by rw [HFI.out], own1, sv, HLT.out, HGE.out, ?_, But.of _ hb01⟩
 rw [HFI.out]
 exact hR1)
 · (
 have hfi := finish_new hin
 obtain ⟨c, hlk⟩ := look_out hR1.map hok hR1.good hin
 have HFI := Lib.hid hfi; have HIN := Lib.hid hin; clear hfi hin
 obtain ⟨A, cc, hsv, hcc⟩ := hR1.form
 have HSV := Lib.hid hsv
 rw [hsv] at r0
 clear hsv
 refine Fact.sq fun K7 hK7 => ?_
 refine rg ?_
 have b11 := hf.b 11
 have b12 := hf.b 12
 have b13 := hf.b 13
 have b14 := hf.b 14
 have b15 := hf.b 15
 have b16 := hf.b 16
 have b10 := hf.b 10
 have b17 := hf.b 17
 have b18 := hf.b 18
 iterate 11 (refine fp fun K Z => ?_; go_simp; apply Z.out; clear Z K)
 refine Fact.z hf fun fr1 hf1 hT => ?_
 have hKp : _ ∧ _ ∧ _ ∧ _ ∧ _ := ⟨hT 0, hT 3, hT 5, hT 6, hT 7⟩
 simp (decide := true) only [Fact.G, hf.size, reduceIte, s0, s3, s5] at hKp
 replace hf := hf1; clear hT hf1 s0 s3 s5 b11 b12 b13 b14 b15 b16 b10 b17 b18
 obtain ⟨s0, s3, s5, s6, s7⟩ := hKp
 refine nx (hK7 _ _ ?_)
 refine Fact.sq fun K8 hK8 => ?_
 refine Fact.sq fun K9 hK9 => ?_
 refine rg ?_
 have b19 := hf.b 19
 iterate 2 (refine fp fun K Z => ?_; go_simp; apply Z.out; clear Z K)
 refine Fact.z hf fun fr1 hf1 hT => ?_
 have hKp : _ ∧ _ ∧ _ ∧ _ ∧ _ := ⟨hT 0, hT 3, hT 5, hT 6, hT 20⟩
 simp (decide := true) only [Fact.G, hf.size, reduceIte, s0, s3, s5, s6] at hKp
 replace hf := hf1; clear hT hf1 s0 s3 s5 s6 s7 b19
 obtain ⟨s0, s3, s5, s6, s20⟩ := hKp
 refine nx (hK9 _ _ ?_)
 refine Fact.cond_t s20 ?_
 refine Fact.sq fun K10 hK10 => ?_
 refine rg ?_
 have b21 := hf.b 21
 have b22 := hf.b 22
 have b23 := hf.b 23
 have b24 := hf.b 24
 have b25 := hf.b 25
 iterate 6 (refine fp fun K Z => ?_; go_simp; apply Z.out; clear Z K)
 refine Fact.z hf fun fr1 hf1 hT => ?_
 have hKp : _ ∧ _ ∧ _ ∧ _ := ⟨hT 0, hT 3, hT 5, hT 6⟩
 simp (decide := true) only [Fact.G, hf.size, reduceIte, s0, s3, s5] at hKp
 replace hf := hf1; clear hT hf1 s0 s3 s5 s6 s20 b21 b22 b23 b24 b25
 obtain ⟨s0, s3, s5, s6⟩ := hKp
 refine nx (hK10 _ _ ?_)
 refine Fact.sq fun K11 hK11 => ?_
 refine rg ?_
 have b26 := hf.b 26
 have b27 := hf.b 27
 have b28 := hf.b 28
 have b29 := hf.b 29
 have b30 := hf.b 30
 have b31 := hf.b 31
 iterate 6 (refine fp fun K Z => ?_; go_simp; apply Z.out; clear Z K)
 refine Fact.reL (n := 43) (by simp only [Fact.G, hf.size]) hf.defers (fun fr1 hf1 hT => ?_)
 have hKp : _ ∧ _ ∧ _ ∧ _ ∧ _ ∧ _ := ⟨hT 0, hT 3, hT 6, hT 29, hT 30, hT 31⟩
 simp (decide := true) only [Fact.G, hf.size, reduceIte, s0, s3, s6] at hKp
 replace hf := hf1; clear hT hf1 s0 s3 s5 s6 b26 b27 b28 b29 b30 b31
 obtain ⟨s0, s3, s6, s29, s30, s31⟩ := hKp
 refine ⟨?_⟩
 refine wpList_mapUpdate_own _ rfl _ _ _ 70 rfl 9 3 (string_keyed Tryz.underlying9) Tryz.underlying70 _ mb ss.length _ (Fact.eval_tmp s29) hR1.map (by unfold maxLen; omega) _ _ _ (Fact.eval_tmp s30) (Fact.eval_tmp s31) (key_read _ (keyL_length hok)) _ _ (val_read _ (by omega)) ?_
 intro w4 hM4 hg4
 refine Fact.L.out ?_
 refine Fact.z hf fun fr1 hf1 hT => ?_
 have hKp : _ ∧ _ ∧ _ := ⟨hT 0, hT 3, hT 6⟩
 simp (decide := true) only [Fact.G, reduceIte, s0, s3, s6] at hKp
 replace hf := hf1; clear hT hf1 s0 s3 s6 s29 s30 s31
 obtain ⟨s0, s3, s6⟩ := hKp
 have hb4 : But (fun k => k = mb) w1 w4 := But.grown hg4 (fun k hk => by injection hk with hk; exact hk.symm)
 have hne := hR1.mb_ne
 have hbx4 := hb4.heap hR1.box hne
 have q0 := cell_of_row _ _ 0 _ t (0, 0) hbx4
 simp at q0
 rw [HSV.out] at q0
 have hmw : mb < w.heap.size := by rcases Nat.lt_or_ge mb w.heap.size with h | h; exact h; have h1 := HGE.out mb h; have h2 := hR1.om; omega
 replace c0 := hb4.cell c0 (fun e => by have e : w.heap.size = mb := e; omega); replace c1 := hb4.cell c1 (fun e => by have e : w.heap.size = mb := e; omega); replace c2 := hb4.cell c2 (fun e => by have e : w.heap.size = mb := e; omega)
 clear r0 r1
 obtain ⟨cells, hrow, hsb, hcells⟩ := hR1.row
 have hrow4 := own_but hrow hb4 (fun k hk e => by subst e; have h1 := hsb _ hk; have h2 := hR1.om; omega)
 have hcl := hrow.1
 have hfz := frozen_of (i := 0) hbx4
 have hCS : Cells w1 own1 cells ss := hcells
 clear hcells
 have hog := hR1.og
 have HOG := Lib.hid hog
 clear hog
 have hs4 := hb4.size
 have hs1 := hb01.size
 refine nx (hK11 _ _ ?_)
 refine Stam.todo_begin (n := 43) (fun _ k => own1 k = 1 ∨ own1 k = 2) [7, 10] (Stab.OkOps.of (by kernel_rfl)) (fun hok => ?_)
 refine Stam.mvO (k := 0) s0 hf.size hok.out rfl (by kernel_rfl) rfl rfl (.inl rfl) (by kernel_rfl) ?_
 refine Stam.mvO (k := 1) s0 hf.size hok.out rfl (by kernel_rfl) rfl rfl (.inl rfl) (by kernel_rfl) ?_
 apply Stam.tq 2 _ hf hok
 · (
 intro fr1 w1 hh hd hk K Z
 refine Stab.pl ?_
 have s33 := Stam.v 1 0 hd hk []
 have hxe := Stam.ext_at hh [(7, [4, 3]), (10, [])] (by kernel_rfl)
 have hbt := Stam.but_at hh [] [(7, [4, 3]), (10, [])] (by kernel_rfl)
 clear hd hh
 go_simp
 exact Stab.k Z)
 apply Stam.tq 3 _ hf hok
 · (
 intro fr1 w1 hh hd hk K Z
 refine Stab.pl ?_
 have s34 := Stam.v 2 0 hd hk []
 have hxe := Stam.ext_at hh [(7, [4]), (10, [])] (by kernel_rfl)
 have hbt := Stam.but_at hh [] [(7, [4]), (10, [])] (by kernel_rfl)
 clear hd hh
 go_simp
 exact Stab.k Z)
 apply Stam.tq 4 _ hf hok
 · (
 intro fr1 w1 hh hd hk K Z
 refine Stab.pl ?_
 have s35 := Stam.v 3 0 hd hk []
 have hxe := Stam.ext_at hh [(7, []), (10, [])] (by kernel_rfl)
 have hbt := Stam.but_at hh [] [(7, []), (10, [])] (by kernel_rfl)
 clear hd hh
 have q1 := cL hxe q0
 go_simp
 exact Stab.k Z)
 apply Stam.tq 5 _ hf hok
 · (
 intro fr1 w1 hh hd hk K Z
 refine Stab.pl ?_
 have s3 := Stam.o hh (by kernel_rfl) s3
 have hxe := Stam.ext_at hh [(7, [6]), (10, [])] (by kernel_rfl)
 have hbt := Stam.but_at hh [] [(7, [6]), (10, [])] (by kernel_rfl)
 clear hd hh
 have d0 := cL hxe c0; have d1 := cL hxe c1; have d2 := cL hxe c2
 go_simp
 exact Stab.k Z)
 refine Stam.todo_op (k := 6) (n := 43) (PLit [av, .bool s.final, .int .u64 s.out]) hf.size hok.out rfl (PLit.stable _) (by kernel_rfl) ?_ ?_
 · (
 intro fr1 w1 hh hd hk K Z
 refine Stab.pl ?_
 have s37 := Stam.v 5 0 hd hk []
 have hxe := Stam.ext_at hh [(7, []), (10, [])] (by kernel_rfl)
 have hbt := Stam.but_at hh [] [(7, []), (10, [])] (by kernel_rfl)
 clear hd hh
 go_simp
 exact Z.out _ rfl _ _ ((Below.refl _ _).alloc (Nat.le_refl _) _) ⟨_, rfl, lit_new _ _ _⟩)
 refine Stam.todo_sp (k := 7) (n := 43) (PRow w4 base g t xs sv mb (ss.length + 1) (cells ++ [av, .bool s.final, .int .u64 s.out])) hf.size hok.out rfl (PRow.stable _ _ _ _ _ _ _ _ _) (by kernel_rfl) ?_ ?_
 · (
 intro fr1 w1 hh hd hk K Z
 refine Stab.pl ?_
 have s36 := Stam.v 4 2 hd hk []
 obtain ⟨x38, s38, hp38⟩ := Stam.use (j := 6) (m := 0) hd hk rfl [] (by kernel_rfl) [(10, true, [])] (by kernel_rfl) rfl rfl rfl
 obtain ⟨b38, rfl, hc38⟩ := hp38
 have hxe := Stam.ext_at hh [(10, [])] (by kernel_rfl)
 have hbt := Stam.but_at hh [] [(10, [])] (by kernel_rfl)
 clear hd hh
 have hr2 := own_later hrow4 hxe
 have hx2 := (hxe.block g (heap_lt hbx4)).trans hbx4
 refine wp_app _ _ 30 rfl 58 _ 3 40 Tryz.underlying30 info_stateD rfl (by decide) (by decide) base sv ss.length cells (by rw [HSV.out]; exact Fact.eval_tmp s36) hr2 b38 _ (Fact.eval_tmp s38) rfl hc38 (by intro u hu; simp at hu; rcases hu with rfl | rfl | rfl <;> first | rfl | exact av_one hra1) (by omega) (by have := hxe.size; omega) (fun v2 w2 hr3 hg3 hat3 => ?_)
 have hat3b : sv.ownBlock = sv.ownBlock := rfl
 exact Z.out _ rfl _ _ (But.grown hg3 (fun k hk => .inr (hsb k hk))) ⟨hr3, hat3.imp id (fun h => ⟨_, h, hxe.size⟩), hg3.block g (heap_lt hx2) (fun e => by have h1 := hsb g e.symm; have h2 := HOG.out; omega) |>.trans hx2⟩)
 apply Stam.tq 8 _ hf hok
 · (
 intro fr1 w1 hh hd hk K Z
 refine Stab.pl ?_
 have s32 := Stam.v 0 7 hd hk []
 have hbt := Stam.but_at hh [7] [(10, [9])] (by kernel_rfl)
 clear hd hh
 go_simp
 exact Stab.k Z)
 apply Stam.tq 9 _ hf hok
 · (
 intro fr1 w1 hh hd hk K Z
 refine Stab.pl ?_
 have s40 := Stam.v 8 0 hd hk []
 have hbt := Stam.but_at hh [7] [(10, [])] (by kernel_rfl)
 clear hd hh
 go_simp
 exact Stab.k Z)
 refine Stam.todo_sp (k := 10) (n := 43) (PEnd w4 base g t xs sv mb (ss.length + 1) (cells ++ [av, .bool s.final, .int .u64 s.out])) hf.size hok.out rfl (PEnd.stable _ _ _ _ _ _ _ _ _) (by kernel_rfl) ?_ ?_
 · (
 intro fr1 w1 hh hd hk K Z
 refine Stab.pl ?_
 have s41 := Stam.v 9 0 hd hk []
 obtain ⟨x39, s39, hp39⟩ := Stam.use (j := 7) (m := 2) hd hk rfl [] (by kernel_rfl) [] (by kernel_rfl) rfl rfl rfl
 obtain ⟨hr39, hl39, hx39⟩ := hp39
 have hbt := Stam.but_at hh [7] [] (by kernel_rfl)
 clear hd hh
 have z0 := cell_of_row _ _ 0 _ t (0, 0) hx39
 simp at z0
 have fz := frozen_of (i := 0) hx39
 obtain ⟨A2, c2, hv2, _⟩ := row_form hr39
 subst hv2
 go_simp
 refine Z.out _ rfl undef _ (But.setCell (.inl HOG.out) _) ⟨_, own_but hr39 (But.setCell (S := fun k => k = g) rfl _) (fun k hkk e => ?_), hl39, ?_⟩; (subst e; rcases hl39 with h | ⟨k2, h, hk2⟩; (rw [hkk] at h; have h1 := hsb _ h.symm; have h2 := HOG.out; omega); (rw [hkk] at h; injection h with h; have := heap_lt hbx4; omega)); exact (set_block hx39 _).trans (by simp))
 refine Stam.todo_facts (n := 43) (by kernel_rfl) hf.size hok.out rfl (fun fr1 w1 hh hg => ?_)
 replace s6 := Stam.o hh (by kernel_rfl) s6
 obtain ⟨_, hlast⟩ := Stam.end_fact (j := 10) (m := 0) hg rfl (by decide) [(7, [])] (by kernel_rfl) rfl
 have hf1 := hh.fr hf
 have hbt := hh.but
 clear hg hh hf hok s0 s3
 have hf := hf1; clear hf1
 refine nx (hK8 _ _ ?_)
 refine Fact.sq fun K12 hK12 => ?_
 refine rg ?_
 have b42 := hf.b 42
 iterate 2 (refine fp fun K Z => ?_; go_simp; apply Z.out; clear Z K)
 refine Fact.z hf fun fr1 hf1 hT => ?_
 have hKp := hT 4
 simp (decide := true) only [Fact.G, hf.size, reduceIte] at hKp
 replace hf := hf1; clear hT hf1 s6 b42
 have s4 := hKp; clear hKp
 refine nx (hK12 _ _ ?_)
 refine wp_ret ?_
 obtain ⟨v2, hr2, hl2, hx2⟩ := hlast
 replace hbt := hbt (fun k => own1 k = 1 ∨ own1 k = 2) (fun m _ b h => h)
 refine Fact.ret1 rfl hf s4 ⟨by rw [HFI.out], own1, v2, HLT.out, HGE.out, ?_, ?_⟩
 · (
 rw [HFI.out]; exact hR1.snoc hg4 hM4 hbt hcl hCS hr2 (fun k hk => by rcases hl2 with h | ⟨k2, h, hk2⟩; (rw [hk] at h; exact hsb _ h.symm); (rw [hk] at h; injection h with h; exact HGE.out k (by omega))) hx2 hra1 hok HIN.out)
 · (
 exact But.via hb01 hb4 hbt (fun k hk e => by have h1 := HLT.out k hk; have h2 := hR1.om; rcases e with rfl | e | e <;> omega)))
end Dw
end Go.Proofs.YtdkbgbdgmihlmaaGreatDoor
