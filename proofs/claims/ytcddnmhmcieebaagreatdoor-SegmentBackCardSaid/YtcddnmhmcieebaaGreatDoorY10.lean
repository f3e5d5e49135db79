/- cedillaref05: bare, Draft.Entry. -/
import Derived.Test.YtcddnmhmcieebaaGreatDoorY9
import Derived.Test.YtcddnmhmcieebaaGreatDoorTools
import Derived.Test.YtcddnmhmcieebaaGreatDoorDLawP
namespace Go.Proofs.YtcddnmhmcieebaaGreatDoor
set_option maxHeartbeats 4000000
set_option maxRecDepth 100000
open Go.RowKit
set_option linter.unusedSimpArgs false
set_option linter.unusedVariables false
set_option linter.unnecessarySimpa false
namespace Dw
theorem two_ents {w W : World} {x y z x' y' z' : Value} {t t' : TypeId} (h : (w.alloc (.cells #[x, y, z] t)).alloc (.cells #[x', y', z'] t') = W) : Below w.heap.size w W /\ W.cell? ⟨w.heap.size, 0, none⟩ = some x /\ W.cell? ⟨w.heap.size, 1, none⟩ = some y /\ W.cell? ⟨w.heap.size, 2, none⟩ = some z /\
  W.heap[w.heap.size + 1]? = some (.cells #[x', y', z'] t' (0, 0)) /\ W.heap[w.heap.size]? = some (.cells #[x, y, z] t (0, 0)) := by
 obtain ⟨W0, hW0⟩ : ∃ W0, w.alloc (.cells #[x, y, z] t) = W0 := ⟨_, rfl⟩
 rw [hW0] at h
 obtain ⟨h1, h2, h3, h4, h6, h5⟩ := box3 hW0
 obtain ⟨k1, k2, k3, k4, k6, k5⟩ := box3 h
 rw [h5] at k6
 exact ⟨h1.trans (k1.mono h1.size), cL k1 h2, cL k1 h3, cL k1 h4, k6, (k1.block _ (by omega)).trans h6⟩
theorem bare_g (w : World) (e : Ent) (hg : e.gone = true) : Calls Tryz.prog 93 #[eval e] w fun e1 w1 => e1 = .returned (eval (bareE e)) /\ Below w.heap.size w w1 := by
 refine Zn1 7 Tryz.func93 fun fr hf s0 => ?_
 simp only [eval] at s0
 have HG := Lib.hid hg; clear hg
 refine Ze fun _ hK1 => Zr [] hf ?_
 refine Zq2 1 2 hf ?_
 clear hf s0; intro fr1 hf sS
 generalize hW1 : (w.alloc (.cells #[.string e.word, .int .u32 e.weight, .bool e.gone] 64)).alloc (.cells #[.string ⟨#[]⟩, .int .u32 0, .bool false] 64) = W1
 obtain ⟨hb1, x0, x1, x2, hp, hq⟩ := two_ents hW1
 obtain ⟨s1, s2⟩ := sS
 try simp only [World.size_alloc] at s2
 clear hW1
 refine Zs hK1 fun _ hK2 => Ze fun _ hK3 => Zr [3] hf ?_
 refine Zq3 1 2 4 hf ?_
 clear hf s1 s2; intro fr1 hf sS
 refine Zx hK3 ?_
 obtain ⟨s1, s2, s4⟩ := sS
 rw [HG.out] at s4
 refine Fact.cond_t s4 ?_
 have fz1 := frozen_of (i := 1) hq
 refine Zr [5] hf ?_
 refine Zq2 1 2 hf ?_
 clear hf s1 s2 s4; intro fr1 hf sS
 generalize hW2 : W1.setCell ⟨w.heap.size, 1, none⟩ (.int .u32 0) = W2
 have hb2 : Below w.heap.size w W2 := by rw [<- hW2]; exact hb1.setCell (p := ⟨w.heap.size, 1, none⟩) (Nat.le_refl _) _
 have hq2 := set_block (i := 1) hq (.int .u32 0)
 rw [hW2] at hq2
 have hp2 : W2.heap[w.heap.size + 1]? = some (.cells #[.string ⟨#[]⟩, .int .u32 0, .bool false] 64 (0, 0)) := by rw [<- hW2]; exact (Below.heap_setCell _ _ _ _ (by simp)).trans hp
 clear hW2 hp hq x0 x1 x2 hb1
 have hp := hp2; have hb1 := hb2; clear hp2 hb2
 have x0 := cR1 0 hq2; have x1 := cR1 1 hq2; have x2 := cR1 2 hq2
 simp at x0 x1 x2
 refine Zx hK2 ?_
 have fz0 := frozen_of (i := 0) hp; have fz1 := frozen_of (i := 1) hp; have fz2 := frozen_of (i := 2) hp
 have g0 := cR1 0 hp; have g1 := cR1 1 hp; have g2 := cR1 2 hp
 simp at g0 g1 g2
 refine Ze fun _ hK4 => Zr [6] hf ?_
 refine Zq1 2 hf ?_
 clear hf sS; intro fr1 hf s2
 refine Zx hK4 (Zret ?_)
 refine ret_c rfl hf s2 (set_block (set_block (set_block hp _) _) _) Tryz.underlying64 rfl (by kernel_rfl) ⟨?_, ((hb1.setCell (p := ⟨w.heap.size + 1, 0, none⟩) (Nat.le_succ _) _).setCell (p := ⟨w.heap.size + 1, 1, none⟩) (Nat.le_succ _) _).setCell (p := ⟨w.heap.size + 1, 2, none⟩) (Nat.le_succ _) _⟩
 rw [show bareE e = ⟨e.word, 0, e.gone⟩ from if_pos HG.out]
 rfl
theorem bare_n (w : World) (e : Ent) (hg : e.gone = false) : Calls Tryz.prog 93 #[eval e] w fun e1 w1 => e1 = .returned (eval (bareE e)) /\ Below w.heap.size w w1 := by
 refine Zn1 7 Tryz.func93 fun fr hf s0 => ?_
 simp only [eval] at s0
 have HG := Lib.hid hg; clear hg
 refine Ze fun _ hK1 => Zr [] hf ?_
 refine Zq2 1 2 hf ?_
 clear hf s0; intro fr1 hf sS
 generalize hW1 : (w.alloc (.cells #[.string e.word, .int .u32 e.weight, .bool e.gone] 64)).alloc (.cells #[.string ⟨#[]⟩, .int .u32 0, .bool false] 64) = W1
 obtain ⟨hb1, x0, x1, x2, hp, hq⟩ := two_ents hW1
 obtain ⟨s1, s2⟩ := sS
 try simp only [World.size_alloc] at s2
 clear hW1
 refine Zs hK1 fun _ hK2 => Ze fun _ hK3 => Zr [3] hf ?_
 refine Zq3 1 2 4 hf ?_
 clear hf s1 s2; intro fr1 hf sS
 refine Zx hK3 ?_
 obtain ⟨s1, s2, s4⟩ := sS
 rw [HG.out] at s4
 refine Fact.cond_f s4 ?_
 refine wp_skip (Zx hK2 ?_)
 have fz0 := frozen_of (i := 0) hp; have fz1 := frozen_of (i := 1) hp; have fz2 := frozen_of (i := 2) hp
 have g0 := cR1 0 hp; have g1 := cR1 1 hp; have g2 := cR1 2 hp
 simp at g0 g1 g2
 refine Ze fun _ hK4 => Zr [6] hf ?_
 refine Zq1 2 hf ?_
 clear hf s1 s2 s4; intro fr1 hf s2
 refine Zx hK4 (Zret ?_)
 refine ret_c rfl hf s2 (set_block (set_block (set_block hp _) _) _) Tryz.underlying64 rfl (by kernel_rfl) ⟨?_, ((hb1.setCell (p := ⟨w.heap.size + 1, 0, none⟩) (Nat.le_succ _) _).setCell (p := ⟨w.heap.size + 1, 1, none⟩) (Nat.le_succ _) _).setCell (p := ⟨w.heap.size + 1, 2, none⟩) (Nat.le_succ _) _⟩
 rw [show bareE e = e from if_neg (by rw [HG.out]; simp)]
 rfl
theorem bare (w : World) (e : Ent) : Calls Tryz.prog 93 #[eval e] w fun e1 w1 => e1 = .returned (eval (bareE e)) /\ Below w.heap.size w w1 := by
 cases hg : e.gone with
 | true => exact bare_g w e hg
 | false => exact bare_n w e hg
theorem dentry (w : World) (d : Dra) (lv : Value) (hru : RU w w.heap.size lv d.letters) (hx : ∀ x ∈ d.letters, 0 <= x /\ x <= 255) : Calls Tryz.prog 56 #[.agg #[lv, .int .u32 d.weight, .bool d.gone]] w fun e1 w1 => e1 = .returned (eval d.ent) /\ Below w.heap.size w w1 := by
 refine Zn1 43 Tryz.func56 fun fr hf s0 => ?_
 have hru0 := hru
 obtain ⟨A, c, rfl, hlc⟩ := hru.form
 clear hru
 have HX := Lib.hid hx; clear hx
 have hcv := conv1
 refine Ze fun _ hK1 => Zr [] hf ?_
 refine Zq2 1 2 hf ?_
 clear hf s0; intro fr1 hf sS
 generalize hW1 : (w.alloc (.cells #[.slice A d.letters.length c, .int .u32 d.weight, .bool d.gone] 131)).alloc (.cells #[.string ⟨#[]⟩, .int .u32 0, .bool false] 64) = W1
 obtain ⟨hb1, x0, x1, x2, hp, -⟩ := two_ents hW1
 obtain ⟨s1, s2⟩ := sS
 try simp only [World.size_alloc] at s2
 clear hW1
 have hs1 := hb1.size
 have hz1 : w.heap.size + 1 < W1.heap.size := heap_lt hp
 refine Zs hK1 fun _ hK2 => Zr [] hf ?_
 refine Zq3 1 2 3 hf ?_
 clear hf s1 s2; intro fr1 hf sS
 refine Zs hK2 fun _ hK3 => Ze fun _ hK4 => Zr [] hf ?_
 refine Zq4 1 2 3 4 hf ?_
 clear hf sS; intro fr1 hf sS
 refine Zx hK4 (wp_block (wp_loop_ghost (fun gk fr wr => ∃ (j : Nat), gk = 9 - j /\ j <= d.letters.length /\ j <= 9 /\ Fact.Fr 43 fr /\ fr.tmps[1]? = some (.pointer (some ⟨w.heap.size, 0, none⟩)) /\ fr.tmps[2]? = some (.pointer (some ⟨w.heap.size + 1, 0, none⟩)) /\ fr.tmps[3]? = some (.string (dbody (d.letters.take j))) /\ fr.tmps[4]? = some (.int .i64 j) /\ Below W1.heap.size W1 wr) (9) ?_ ?_))
 . (
 obtain ⟨s1, s2, s3, s4⟩ := sS
 exact ⟨0, rfl, Nat.zero_le _, Nat.zero_le _, hf, s1, s2, s3, s4, Below.refl _ _⟩)
 . (
 clear hf sS
 rintro gk fr wr ⟨j, hk, hj, hj9, hf, s1, s2, s3, s4, hb⟩
 have HK := Lib.hid hk; clear hk
 have y0 := cL hb x0
 have hbr := hb1.trans (hb.mono hs1)
 rcases Nat.lt_or_ge j d.letters.length with hlt | hge
 . (
 rcases Nat.lt_or_ge j 9 with h9 | h9
 . (
 have q1 : decide (j < d.letters.length) = true := decide_eq_true (by omega)
 have q2 : decide ((j : Int) < 9) = true := decide_eq_true (by omega)
 refine Ze fun _ hK5 => Ze fun _ hK6 => ?_
 have qs := And.intro q1 q2
 refine Zr [6, 7, 8, 9, 10, 11, 12, 13] hf ?_
 refine Zq5 1 2 3 4 14 hf ?_
 clear hf s1 s2 s3 s4 qs; intro fr1 hf sS
 refine Zx hK6 (Fact.cond_t sS.2.2.2.2 ?_)
 clear q1 q2
 obtain ⟨x, hx⟩ : ∃ x, d.letters[j]? = some x := ⟨_, gE1 hlt⟩
 obtain ⟨b, off, rfl, hbb, z0⟩ := (hru0.below hbr).at_ hx
 have hx8 := HX.out x (gM1 hx)
 have hst : dbody (d.letters.take (j + 1)) = dbody (d.letters.take j) ++ strOfNums [dletter x] := by rw [List.take_add_one, hx]; exact dbody_snoc _ _
 have hds : (dbody (d.letters.take j)).size <= 9 := by rw [dbody_size]; simp; omega
 have h1s : (strOfNums [dletter x]).size <= 1 := Nat.le_of_eq (strOf1 _)
 have HST := Lib.hid hst; clear hst hx
 refine wp_skip (Zs hK5 fun _ hK7 => wp_block (Ze fun _ hK8 => Zr [17, 18, 19, 20, 21] hf ?_))
 refine Zq5 1 2 3 4 5 hf ?_
 clear hf sS; intro fr1 hf sS
 refine Zs hK8 fun _ hK9 => Ze fun _ hK10 => rg ?_
 have bB := hf.B2 22 23
 refine Zy ?_
 refine fp fun K Z => ?_
 go_simp
 rw [Int.tmod_eq_emod_of_nonneg hx8.1]
 apply Z.out; clear Z K
 refine Zy ?_
 refine Fact.nil (Zq6 1 2 3 4 5 24 hf ?_)
 clear hf sS bB; intro fr1 hf sS
 refine Zx hK10 (Fact.cond_s sS.2.2.2.2.2 (fun hq7 => ?_) (fun hq7 => ?_))
 . (
 have HQ := Lib.hid hq7; clear hq7
 have h7 := of_decide_eq_true HQ.out
 have hdl : dletter x = 97 + x % 8 % 3 := if_pos h7
 rw [hdl] at h1s
 have HDL := Lib.hid hdl; clear hdl
 refine rg ?_
 have bB := hf.B4 25 26 27 28
 refine Zy ?_
 refine fp fun K Z => ?_
 go_simp
 rw [Int.tmod_eq_emod_of_nonneg hx8.1]
 apply Z.out; clear Z K
 refine fp fun K Z => ?_
 go_simp
 rw [Int.tmod_eq_emod_of_nonneg (show 0 <= x % 8 by omega)]
 apply Z.out; clear Z K
 refine fp fun K Z => ?_
 go_simp
 try simp (disch := omega) only [Fact.W]
 try simp (disch := omega) only [Fact.wrap_u8]
 apply Z.out; clear Z K
 refine Zy ?_
 refine Fact.nil (Zq5 1 2 3 4 5 hf ?_)
 clear hf sS bB; intro fr1 hf sS
 refine Zx hK9 (rg ?_)
 have bB := hf.B5 29 30 31 32 33
 iterate 4 refine Zy ?_
 refine fp fun K Z => ?_
 go_simp
 try simp (disch := omega) only [Fact.W]
 rw [if_neg (by omega), Oper.upon_value]
 apply Z.out; clear Z K
 refine Zy ?_
 refine Fact.nil (Zq4 1 2 3 4 hf ?_)
 clear hf sS bB; intro fr1 hf sS
 refine Fact.block_normal (Zx hK7 (Zr [15, 16] hf ?_))
 refine Zq4 1 2 3 4 hf ?_
 clear hf sS; intro fr1 hf sS
 refine Fact.then_normal ?_
 obtain ⟨s1, s2, s3, s4⟩ := sS
 refine ⟨9 - (j + 1), by have := HK.out; omega, j + 1, rfl, by omega, by omega, hf, s1, s2, ?_, by rw [s4]; rfl, hb.alloc hb.size _⟩
 rw [s3, HST.out, HDL.out])
 . (
 have HQ := Lib.hid hq7; clear hq7
 have h7 := of_decide_eq_false HQ.out
 have hdl : dletter x = x := if_neg h7
 rw [hdl] at h1s
 have HDL := Lib.hid hdl; clear hdl
 refine wp_skip (Zx hK9 (rg ?_))
 have bB := hf.B5 29 30 31 32 33
 iterate 4 refine Zy ?_
 refine fp fun K Z => ?_
 go_simp
 try simp (disch := omega) only [Fact.W]
 rw [if_neg (by omega), Oper.upon_value]
 apply Z.out; clear Z K
 refine Zy ?_
 refine Fact.nil (Zq4 1 2 3 4 hf ?_)
 clear hf sS bB; intro fr1 hf sS
 refine Fact.block_normal (Zx hK7 (Zr [15, 16] hf ?_))
 refine Zq4 1 2 3 4 hf ?_
 clear hf sS; intro fr1 hf sS
 refine Fact.then_normal ?_
 obtain ⟨s1, s2, s3, s4⟩ := sS
 refine ⟨9 - (j + 1), by have := HK.out; omega, j + 1, rfl, by omega, by omega, hf, s1, s2, ?_, by rw [s4]; rfl, hb.alloc hb.size _⟩
 rw [s3, HST.out, HDL.out]))
 . (
 have q1 : decide (j < d.letters.length) = true := decide_eq_true (by omega)
 have q2 : decide ((j : Int) < 9) = false := decide_eq_false (by omega)
 have he : d.letters.take j = d.letters.take 9 := by rw [show j = 9 by omega]
 rw [he] at s3
 clear he
 refine Ze fun _ hK11 => Ze fun _ hK12 => ?_
 have qs := And.intro q1 q2
 refine Zr [6, 7, 8, 9, 10, 11, 12, 13] hf ?_
 refine Zq5 1 2 3 4 14 hf ?_
 clear hf s1 s2 s3 s4 qs; intro fr1 hf sS
 refine Zx hK12 (Fact.cond_f sS.2.2.2.2 ?_)
 clear q1 q2
 have y1 := cL hb x1; have y2 := cL hb x2
 have hpr := (hb.block _ hz1).trans hp
 obtain ⟨S, hS⟩ : ∃ x, dbody (d.letters.take 9) = x := ⟨_, rfl⟩
 obtain ⟨s1, s2, s3, s4, s14⟩ := sS
 rw [hS] at s3
 have HS := Lib.hid hS; clear hS y0
 refine Zo ?_
 refine Zs hK3 fun _ hK13 => Ze fun _ hK14 => Zr [34] hf ?_
 refine Zq4 1 2 3 35 hf ?_
 clear hf s1 s2 s3 s4 s14; intro fr1 hf sS
 refine Zx hK14 (Fact.cond_s sS.2.2.2 (fun hqe => ?_) (fun hqe => ?_))
 . (
 have HE := Lib.hid hqe; clear hqe
 have hwd : dword d.letters = ⟨#[97]⟩ := by unfold dword; rw [HS.out]; exact if_pos (List.isEmpty_iff.1 HE.out)
 have HW := Lib.hid hwd; clear hwd
 refine Zr [] hf ?_
 refine Zq3 1 2 3 hf ?_
 clear hf sS; intro fr1 hf sS
 refine Zt hK13 fun _ hK15 => ?_
 have bB := hf.B7 36 37 38 39 40 41 42
 iterate 6 refine Zy ?_
 refine fp fun K Z => ?_
 go_simp
 go_at_call 93; refine (bare wr ⟨⟨#[97]⟩, d.weight, d.gone⟩).mono ?_; rintro e w5 ⟨rfl, hb5⟩
 have hp5 := (hb5.block _ (heap_lt hpr)).trans hpr
 have g0 := cR1 0 hp5; have g1 := cR1 1 hp5; have g2 := cR1 2 hp5
 have fz0 := frozen_of (i := 0) hp5; have fz1 := frozen_of (i := 1) hp5; have fz2 := frozen_of (i := 2) hp5
 generalize hE5 : bareE ⟨⟨#[97]⟩, d.weight, d.gone⟩ = E5
 have HE5 := Lib.hid hE5; clear hE5
 simp only [eval]
 simp at g0 g1 g2
 try dsimp only
 apply Z.out; clear Z K
 refine Zy ?_
 refine Fact.nil (Zq1 2 hf ?_)
 clear hf sS bB; intro fr1 hf s2
 refine Zx hK15 (Zret ?_)
 have hbz := hbr.trans (hb5.mono hbr.size)
 refine ret_c rfl hf s2 (set_block (set_block (set_block hp5 _) _) _) Tryz.underlying64 rfl (by kernel_rfl) ⟨?_, ((hbz.setCell (p := ⟨w.heap.size + 1, 0, none⟩) (Nat.le_succ _) _).setCell (p := ⟨w.heap.size + 1, 1, none⟩) (Nat.le_succ _) _).setCell (p := ⟨w.heap.size + 1, 2, none⟩) (Nat.le_succ _) _⟩
 unfold Dra.ent; rw [HW.out, HE5.out]; rfl)
 . (
 have HE := Lib.hid hqe; clear hqe
 have hwd : dword d.letters = S := by unfold dword; rw [HS.out]; exact if_neg (fun h => by have := HE.out; rw [h] at this; cases this)
 have HW := Lib.hid hwd; clear hwd
 refine wp_skip (Zt hK13 fun _ hK16 => ?_)
 have bB := hf.B7 36 37 38 39 40 41 42
 iterate 6 refine Zy ?_
 refine fp fun K Z => ?_
 go_simp
 go_at_call 93; refine (bare wr ⟨S, d.weight, d.gone⟩).mono ?_; rintro e w5 ⟨rfl, hb5⟩
 have hp5 := (hb5.block _ (heap_lt hpr)).trans hpr
 have g0 := cR1 0 hp5; have g1 := cR1 1 hp5; have g2 := cR1 2 hp5
 have fz0 := frozen_of (i := 0) hp5; have fz1 := frozen_of (i := 1) hp5; have fz2 := frozen_of (i := 2) hp5
 generalize hE5 : bareE ⟨S, d.weight, d.gone⟩ = E5
 have HE5 := Lib.hid hE5; clear hE5
 simp only [eval]
 simp at g0 g1 g2
 try dsimp only
 apply Z.out; clear Z K
 refine Zy ?_
 refine Fact.nil (Zq1 2 hf ?_)
 clear hf sS bB; intro fr1 hf s2
 refine Zx hK16 (Zret ?_)
 have hbz := hbr.trans (hb5.mono hbr.size)
 refine ret_c rfl hf s2 (set_block (set_block (set_block hp5 _) _) _) Tryz.underlying64 rfl (by kernel_rfl) ⟨?_, ((hbz.setCell (p := ⟨w.heap.size + 1, 0, none⟩) (Nat.le_succ _) _).setCell (p := ⟨w.heap.size + 1, 1, none⟩) (Nat.le_succ _) _).setCell (p := ⟨w.heap.size + 1, 2, none⟩) (Nat.le_succ _) _⟩
 unfold Dra.ent; rw [HW.out, HE5.out]; rfl)))
 . (
 have q1 : decide (j < d.letters.length) = false := decide_eq_false (by omega)
 have he : d.letters.take j = d.letters.take 9 := by rw [List.take_of_length_le (by omega), List.take_of_length_le (by omega)]
 rw [he] at s3
 clear he
 refine Ze fun _ hK17 => Ze fun _ hK18 => ?_
 have qs := q1
 refine Zr [6, 7, 8, 9, 10, 11, 12, 13] hf ?_
 refine Zq5 1 2 3 4 14 hf ?_
 clear hf s1 s2 s3 s4 qs; intro fr1 hf sS
 refine Zx hK18 (Fact.cond_f sS.2.2.2.2 ?_)
 clear q1
 have y1 := cL hb x1; have y2 := cL hb x2
 have hpr := (hb.block _ hz1).trans hp
 obtain ⟨S, hS⟩ : ∃ x, dbody (d.letters.take 9) = x := ⟨_, rfl⟩
 obtain ⟨s1, s2, s3, s4, s14⟩ := sS
 rw [hS] at s3
 have HS := Lib.hid hS; clear hS y0
 refine Zo ?_
 refine Zs hK3 fun _ hK19 => Ze fun _ hK20 => Zr [34] hf ?_
 refine Zq4 1 2 3 35 hf ?_
 clear hf s1 s2 s3 s4 s14; intro fr1 hf sS
 refine Zx hK20 (Fact.cond_s sS.2.2.2 (fun hqe => ?_) (fun hqe => ?_))
 . (
 have HE := Lib.hid hqe; clear hqe
 have hwd : dword d.letters = ⟨#[97]⟩ := by unfold dword; rw [HS.out]; exact if_pos (List.isEmpty_iff.1 HE.out)
 have HW := Lib.hid hwd; clear hwd
 refine Zr [] hf ?_
 refine Zq3 1 2 3 hf ?_
 clear hf sS; intro fr1 hf sS
 refine Zt hK19 fun _ hK21 => ?_
 have bB := hf.B7 36 37 38 39 40 41 42
 iterate 6 refine Zy ?_
 refine fp fun K Z => ?_
 go_simp
 go_at_call 93; refine (bare wr ⟨⟨#[97]⟩, d.weight, d.gone⟩).mono ?_; rintro e w5 ⟨rfl, hb5⟩
 have hp5 := (hb5.block _ (heap_lt hpr)).trans hpr
 have g0 := cR1 0 hp5; have g1 := cR1 1 hp5; have g2 := cR1 2 hp5
 have fz0 := frozen_of (i := 0) hp5; have fz1 := frozen_of (i := 1) hp5; have fz2 := frozen_of (i := 2) hp5
 generalize hE5 : bareE ⟨⟨#[97]⟩, d.weight, d.gone⟩ = E5
 have HE5 := Lib.hid hE5; clear hE5
 simp only [eval]
 simp at g0 g1 g2
 try dsimp only
 apply Z.out; clear Z K
 refine Zy ?_
 refine Fact.nil (Zq1 2 hf ?_)
 clear hf sS bB; intro fr1 hf s2
 refine Zx hK21 (Zret ?_)
 have hbz := hbr.trans (hb5.mono hbr.size)
 refine ret_c rfl hf s2 (set_block (set_block (set_block hp5 _) _) _) Tryz.underlying64 rfl (by kernel_rfl) ⟨?_, ((hbz.setCell (p := ⟨w.heap.size + 1, 0, none⟩) (Nat.le_succ _) _).setCell (p := ⟨w.heap.size + 1, 1, none⟩) (Nat.le_succ _) _).setCell (p := ⟨w.heap.size + 1, 2, none⟩) (Nat.le_succ _) _⟩
 unfold Dra.ent; rw [HW.out, HE5.out]; rfl)
 . (
 have HE := Lib.hid hqe; clear hqe
 have hwd : dword d.letters = S := by unfold dword; rw [HS.out]; exact if_neg (fun h => by have := HE.out; rw [h] at this; cases this)
 have HW := Lib.hid hwd; clear hwd
 refine wp_skip (Zt hK19 fun _ hK22 => ?_)
 have bB := hf.B7 36 37 38 39 40 41 42
 iterate 6 refine Zy ?_
 refine fp fun K Z => ?_
 go_simp
 go_at_call 93; refine (bare wr ⟨S, d.weight, d.gone⟩).mono ?_; rintro e w5 ⟨rfl, hb5⟩
 have hp5 := (hb5.block _ (heap_lt hpr)).trans hpr
 have g0 := cR1 0 hp5; have g1 := cR1 1 hp5; have g2 := cR1 2 hp5
 have fz0 := frozen_of (i := 0) hp5; have fz1 := frozen_of (i := 1) hp5; have fz2 := frozen_of (i := 2) hp5
 generalize hE5 : bareE ⟨S, d.weight, d.gone⟩ = E5
 have HE5 := Lib.hid hE5; clear hE5
 simp only [eval]
 simp at g0 g1 g2
 try dsimp only
 apply Z.out; clear Z K
 refine Zy ?_
 refine Fact.nil (Zq1 2 hf ?_)
 clear hf sS bB; intro fr1 hf s2
 refine Zx hK22 (Zret ?_)
 have hbz := hbr.trans (hb5.mono hbr.size)
 refine ret_c rfl hf s2 (set_block (set_block (set_block hp5 _) _) _) Tryz.underlying64 rfl (by kernel_rfl) ⟨?_, ((hbz.setCell (p := ⟨w.heap.size + 1, 0, none⟩) (Nat.le_succ _) _).setCell (p := ⟨w.heap.size + 1, 1, none⟩) (Nat.le_succ _) _).setCell (p := ⟨w.heap.size + 1, 2, none⟩) (Nat.le_succ _) _⟩
 unfold Dra.ent; rw [HW.out, HE5.out]; rfl)))
theorem entries (w : World) (ds : List Dra) (most : Nat) (hm : most <= 1000) (v : Value) (hrd : RDs w w.heap.size v ds) (hok : ∀ d ∈ ds, okD d) : Calls Tryz.prog 29 #[v, .int .i64 most] w fun e w1 => ∃ v1, e = .returned v1 /\ OE w1 w.heap.size v1 (entsOf ds most) /\ Below w.heap.size w w1 := by
 refine Zn2 27 Tryz.func29 fun fr hf s0 s1 => ?_
 have hrd0 := hrd
 obtain ⟨A, c, rfl, hlc⟩ := hrd.form
 clear hrd
 have HOK := Lib.hid hok; clear hok
 refine Ze fun _ hK1 => Zr [] hf ?_
 refine Zq2 0 1 hf ?_
 clear hf s0 s1; intro fr1 hf sS
 refine Zs hK1 fun _ hK2 => Zr [] hf ?_
 refine Zq3 0 1 5 hf ?_
 clear hf sS; intro fr1 hf sS
 refine Zs hK2 fun _ hK3 => Ze fun _ hK4 => Zr [] hf ?_
 refine Zq4 0 1 5 6 hf ?_
 clear hf sS; intro fr1 hf sS
 refine Zx hK4 (wp_block (wp_loop_ghost (fun gk fr wr => ∃ (j : Nat) (V : Value), gk = most - j /\ j <= ds.length /\ j <= most /\ Fact.Fr 27 fr /\ fr.tmps[0]? = some (.slice A ds.length c) /\ fr.tmps[1]? = some (.int .i64 most) /\ fr.tmps[5]? = some V /\ fr.tmps[6]? = some (.int .i64 j) /\ OE wr w.heap.size V ((ds.take j).map Dra.ent) /\ Below w.heap.size w wr) (most) ?_ ?_))
 . (
 obtain ⟨s0, s1, s5, s6⟩ := sS
 exact ⟨0, _, rfl, Nat.zero_le _, Nat.zero_le _, hf, s0, s1, s5, s6, OE.nil_ _ _, Below.refl _ _⟩)
 . (
 clear hf sS
 rintro gk fr wr ⟨j, V, hk, hj, hjm, hf, s0, s1, s5, s6, how, hb⟩
 have HK := Lib.hid hk; clear hk
 rcases Nat.lt_or_ge j ds.length with hlt | hge
 . (
 rcases Nat.lt_or_ge j most with hlm | hlm
 . (
 have q1 : decide (j < ds.length) = true := decide_eq_true hlt
 have q2 : decide (j < most) = true := decide_eq_true hlm
 refine Ze fun _ hK5 => Ze fun _ hK6 => ?_
 have qs := And.intro q1 q2
 refine Zr [7, 8, 9, 10, 11, 12, 13, 14] hf ?_
 refine Zq5 0 1 5 6 15 hf ?_
 clear hf s0 s1 s5 s6 qs; intro fr1 hf sS
 refine Zx hK6 (Fact.cond_t sS.2.2.2.2 ?_)
 clear q1 q2
 obtain ⟨d, hd⟩ : ∃ d, ds[j]? = some d := ⟨_, gE1 hlt⟩
 obtain ⟨b, off, lv, rfl, hbb, z0, z1, z2, hru⟩ := (hrd0.below hb).at_ hd
 have hokd := HOK.out d (gM1 hd)
 have hst : (ds.take (j + 1)).map Dra.ent = (ds.take j).map Dra.ent ++ [d.ent] := by rw [List.take_add_one, hd]; simp
 have hln : ((ds.take j).map Dra.ent).length <= 1000000 := by simp; omega
 have HST := Lib.hid hst; clear hst hd
 have hss := hb.size
 obtain ⟨Ee, hEe⟩ : ∃ x, d.ent = x := ⟨_, rfl⟩
 obtain ⟨xs, hxs⟩ : ∃ x, (ds.take j).map Dra.ent = x := ⟨_, rfl⟩
 rw [hxs] at how hln
 have HEe := Lib.hid hEe; have HXS := Lib.hid hxs; clear hEe hxs
 obtain ⟨Av, cv, rfl, hcv⟩ := how.form
 refine wp_skip (Zs hK5 fun _ hK7 => wp_block (rg ?_))
 have bB := hf.B8 18 19 20 21 22 23 24 25
 iterate 5 refine Zy ?_
 refine fp fun K Z => ?_
 go_simp
 go_at_call 56; refine (dentry wr d lv (hru.more hss) hokd.1).mono ?_; rintro e w2 ⟨rfl, hb2⟩
 rw [HEe.out]
 simp only [eval]
 have how2 := own_later how hb2
 have hbw2 := hb.trans (hb2.mono hss)
 try dsimp only
 apply Z.out; clear Z K
 refine Zy ?_
 obtain ⟨s0, s1, s5, s6, s15⟩ := sS
 clear bB
 refine Fact.reL (n := 27) (by simp only [Fact.G, hf.size]) hf.defers (fun fr1 hf1 hT => ?_)
 have hKp := Fact.h6 hT 0 1 5 6 18 24
 simp (decide := true) only [Fact.G, hf.size, reduceIte, s0, s1, s5, s6] at hKp
 replace hf := hf1; clear hT hf1 s0 s1 s5 s6 s15
 obtain ⟨s0, s1, s5, s6, s18, s24⟩ := hKp
 have bB := hf.b 25
 refine ⟨?_⟩
 refine wpList_plain rfl fun K5 hK5 => ?_
 refine wp_app _ _ 29 rfl 64 _ 3 24 Tryz.underlying29 info_ent rfl (by decide) (by decide) w.heap.size (.slice Av xs.length cv) xs.length _ (Fact.eval_tmp s18) (how2.alloc _) w2.heap.size Ee.cells (Fact.eval_tmp s24) rfl (lit_new w2 _ _) (ent_one Ee) (by omega) (by have := hbw2.size; simp; omega) (fun v5 w5 hr5 hg5 hat5 => hK5 _ _ ?_)
 refine Fact.L.out ?_
 refine Zy ?_
 refine Fact.nil (Zq4 0 1 5 6 hf ?_)
 clear hf s0 s1 s5 s6 s18 s24 bB; intro fr1 hf sS
 have hb5 := (hbw2.alloc hbw2.size _).grown hg5 (by have := hbw2.size; simp; omega) (fun kk hkk => (how2.lt kk hkk).1)
 have how5 : OE w5 w.heap.size v5 (xs ++ [Ee]) := by unfold OE; rw [ecs_append, List.length_append]; exact hr5
 refine Fact.block_normal (Zx hK7 (Zr [16, 17] hf ?_))
 refine Zq4 0 1 5 6 hf ?_
 clear hf sS; intro fr1 hf sS
 refine Fact.then_normal ?_
 obtain ⟨s0, s1, s5, s6⟩ := sS
 exact ⟨_, by have := HK.out; omega, j + 1, v5, rfl, by omega, by omega, hf, s0, s1, s5, by rw [s6]; rfl, by rw [HST.out, HXS.out, HEe.out]; exact how5, hb5⟩)
 . (
 have q1 : decide (j < ds.length) = true := decide_eq_true (by omega)
 have q2 : decide (j < most) = false := decide_eq_false (by omega)
 refine Ze fun _ hK8 => Ze fun _ hK9 => ?_
 have qs := And.intro q1 q2
 refine Zr [7, 8, 9, 10, 11, 12, 13, 14] hf ?_
 refine Zq5 0 1 5 6 15 hf ?_
 clear hf s0 s1 s5 s6 qs; intro fr1 hf sS
 refine Zx hK9 (Fact.cond_f sS.2.2.2.2 ?_)
 clear q1 q2
 have he : ds.take j = ds.take most := by rw [show j = most by omega]
 rw [he] at how
 clear he
 refine Zo ?_
 refine Zs hK3 fun _ hK10 => Zr [26] hf ?_
 refine Zq1 4 hf ?_
 clear hf sS; intro fr1 hf s4
 refine Zx hK10 (Zret ?_)
 exact Fact.ret1 rfl hf s4 ⟨_, rfl, how, hb⟩))
 . (
 have q1 : decide (j < ds.length) = false := decide_eq_false (by omega)
 refine Ze fun _ hK11 => Ze fun _ hK12 => ?_
 have qs := q1
 refine Zr [7, 8, 9, 10, 11, 12, 13, 14] hf ?_
 refine Zq5 0 1 5 6 15 hf ?_
 clear hf s0 s1 s5 s6 qs; intro fr1 hf sS
 refine Zx hK12 (Fact.cond_f sS.2.2.2.2 ?_)
 clear q1
 have he : ds.take j = ds.take most := by rw [List.take_of_length_le (by omega), List.take_of_length_le (by omega)]
 rw [he] at how
 clear he
 refine Zo ?_
 refine Zs hK3 fun _ hK13 => Zr [26] hf ?_
 refine Zq1 4 hf ?_
 clear hf sS; intro fr1 hf s4
 refine Zx hK13 (Zret ?_)
 exact Fact.ret1 rfl hf s4 ⟨_, rfl, how, hb⟩))
theorem lex_irr : ∀ x : List Nat, lexlt x x = false
 | [] => rfl
 | a :: x => by simp [lexlt, lex_irr x]
theorem lex_asym : ∀ x y : List Nat, lexlt x y = true -> lexlt y x = false
 | _, [], h => by rw [lexlt_nil] at h; cases h
 | [], _ :: _, _ => rfl
 | a :: x, b :: y, h => by
  simp only [lexlt, Bool.or_eq_true, Bool.and_eq_true, decide_eq_true_eq] at h
  simp only [lexlt, Bool.or_eq_false_iff, Bool.and_eq_false_iff, decide_eq_false_iff_not]
  rcases h with h | ⟨h1, h2⟩
  ·exact ⟨by omega, .inl (by omega)⟩
  ·exact ⟨by omega, .inr (lex_asym x y h2)⟩
theorem lex_tri : ∀ x y : List Nat, lexlt x y = false -> x ≠ y -> lexlt y x = true
 | [], [], _, h => absurd rfl h
 | [], _ :: _, h, _ => by simp [lexlt] at h
 | _ :: _, [], _, _ => by simp [lexlt]
 | a :: x, b :: y, h, hn => by
  simp only [lexlt, Bool.or_eq_false_iff, Bool.and_eq_false_iff, decide_eq_false_iff_not] at h
  simp only [lexlt, Bool.or_eq_true, Bool.and_eq_true, decide_eq_true_eq]
  by_cases hab : a = b
  ·subst hab
   refine .inr ⟨rfl, lex_tri x y ?_ (fun e => hn (by rw [e]))⟩
   rcases h.2 with h2 | h2
   ·exact absurd rfl h2
   ·exact h2
  ·exact .inl (by omega)
theorem wl_eq_iff (a b : ByteArray) : (a.toList == b.toList) = decide (wl a = wl b) := by
 have h : ∀ {x y : Bool}, (x = true ↔ y = true) -> x = y := fun {x y} h => by cases x <;> cases y <;> simp_all
 refine h ?_
 rw [beq_iff_eq, decide_eq_true_iff]
 constructor
 ·intro e; unfold wl; rw [<- ByteArray.toList_eq, <- ByteArray.toList_eq, e]
 ·intro e; rw [wl_inj e]
theorem gt_lex (a b : ByteArray) : (!(lexlt (wl a) (wl b) || a.toList == b.toList)) = lexlt (wl b) (wl a) := by
 rw [wl_eq_iff]
 cases h1 : lexlt (wl a) (wl b) with
 | true => rw [lex_asym _ _ h1]; rfl
 | false =>
  by_cases h2 : wl a = wl b
  ·rw [decide_eq_true h2, h2, lex_irr]; rfl
  ·rw [decide_eq_false h2, lex_tri _ _ h1 h2]; rfl
def twE (l : List Ent) (e : Ent) : List Ent := l.takeWhile fun x => lexlt (wl x.word) (wl e.word)
def gtE (e x : Ent) : Bool := lexlt (wl e.word) (wl x.word)
theorem tw_step {es : List Ent} {i : Nat} {q e : Ent} (h : es[i]? = some q) : twE (es.drop i) e = if lexlt (wl q.word) (wl e.word) = true then q :: twE (es.drop (i + 1)) e else [] := by
 rw [drop_get h]
 unfold twE
 rw [List.takeWhile_cons]
theorem filter_step {es : List Ent} {k : Nat} {q e : Ent} (h : es[k]? = some q) : twE es e ++ [bareE e] ++ (es.take (k + 1)).filter (gtE e) = twE es e ++ [bareE e] ++ ((es.take k).filter (gtE e) ++ if gtE e q = true then [q] else []) := by
 rw [List.take_add_one, h, Option.toList_some, List.filter_append]
 congr 2
 simp only [List.filter_cons, List.filter_nil]
theorem oneK_length (es : List Ent) (e : Ent) (k : Nat) : (twE es e ++ [bareE e] ++ (es.take k).filter (gtE e)).length <= 2 * es.length + 1 := by
 have h1 := (List.takeWhile_prefix (fun x : Ent => lexlt (wl x.word) (wl e.word)) (l := es)).length_le
 have h2 := List.length_filter_le (gtE e) (es.take k)
 have h3 : (es.take k).length <= es.length := by simp; omega
 simp only [List.length_append, List.length_cons, List.length_nil]
 unfold twE
 omega
theorem one (w : World) (es : List Ent) (B : Nat) (v : Value) (hB : B <= w.heap.size) (hre : RE w B v es) (hlen : es.length <= 100000) (e : Ent) : Calls Tryz.prog 55 #[v, eval e] w fun e1 w1 => ∃ v1, e1 = .returned v1 /\ OE w1 w.heap.size v1 (oneE es e) /\ Below w.heap.size w w1 := by
 refine Zn2 58 Tryz.func55 fun fr hf s0 s1 => ?_
 have hre0 := hre.any
 obtain ⟨A, cc, rfl, hcc⟩ := hre.form
 clear hre
 simp only [eval] at s1
 refine Ze fun _ hK1 => Zr [] hf ?_
 refine Zq2 0 3 hf ?_
 clear hf s0 s1; intro fr1 hf sS
 generalize hW1 : w.alloc (.cells #[.string e.word, .int .u32 e.weight, .bool e.gone] 64) = W1
 obtain ⟨hb1, x0, x1, x2, -, hz1_⟩ := box3 hW1
 clear hW1
 have hz1 : w.heap.size < W1.heap.size := by rw [hz1_]; exact Nat.lt_succ_self _
 clear hz1_
 have hs1 := hb1.size
 have hre1 := (hre0.below hb1).any
 clear hre0
 refine Zs hK1 fun _ hK2 => Zr [] hf ?_
 refine Zq3 0 3 5 hf ?_
 clear hf sS; intro fr1 hf sS
 refine Zs hK2 fun _ hK3 => Ze fun _ hK4 => Zr [] hf ?_
 refine Zq4 0 3 5 6 hf ?_
 clear hf sS; intro fr1 hf sS
 refine Zx hK4 (wp_block (wp_loop_ghost (fun gk fr wr => ∃ (i : Nat) (V : Value), gk = es.length - i /\ i <= es.length /\ Fact.Fr 58 fr /\ fr.tmps[0]? = some (.slice A es.length cc) /\ fr.tmps[3]? = some (.pointer (some ⟨w.heap.size, 0, none⟩)) /\ fr.tmps[5]? = some V /\ fr.tmps[6]? = some (.int .i64 i) /\ OE wr W1.heap.size V (es.take i) /\ twE es e = es.take i ++ twE (es.drop i) e /\ Below W1.heap.size W1 wr) (es.length) ?_ ?_))
 . (
 obtain ⟨s0, s3, s5, s6⟩ := sS
 exact ⟨0, _, rfl, Nat.zero_le _, hf, s0, s3, s5, s6, OE.nil_ _ _, rfl, Below.refl _ _⟩)
 . (
 clear hf sS
 rintro gk fr wr ⟨i, V, hk, hi, hf, s0, s3, s5, s6, how, htw, hb⟩
 have HK := Lib.hid hk; have HTW := Lib.hid htw; clear hk htw
 have y0 := cL hb x0; have y1 := cL hb x1; have y2 := cL hb x2
 rcases Nat.lt_or_ge i es.length with hlt | hge
 . (
 have q1 : decide (i < es.length) = true := decide_eq_true hlt
 obtain ⟨q, hiq⟩ : ∃ q, es[i]? = some q := ⟨_, gE1 hlt⟩
 obtain ⟨b, off, rfl, hbB, hbl, d0, d1, d2⟩ := (hre1.below hb).at_ hiq
 have hst := tw_step (e := e) hiq
 have htk : es.take (i + 1) = es.take i ++ [q] := by rw [List.take_add_one, hiq]; rfl
 have HST := Lib.hid hst; have HTK := Lib.hid htk; clear hst htk hiq
 refine Ze fun _ hK5 => Ze fun _ hK6 => Stab.tb 58 fun hok => ?_
 refine Stab.mO 0 s6 hf hok ?_
 refine Stab.mO 1 s0 hf hok ?_
 refine Stab.T 2 hf hok (fun _ _ h d => ad (Stab.vd 1 0 d []) (ad (cL h.ext d0) (ad (cL h.ext d1) (ad (cL h.ext d2) (ad (cL h.ext y0) (ad (cL h.ext y1) (ad (cL h.ext y2) (own_later how h.ext)))))))) ?_
 refine Stab.T 3 hf hok (fun _ _ h d => ad (Stab.vd 0 2 d []) (Stab.vd 2 0 d [])) ?_
 refine Stab.mN 4 3 0 hf hok [] ?_
 refine Stab.Tg 5 hf hok (fun _ _ h d => Stab.vd 4 0 d []) (fun _ _ h d => Stab.O h s0) ?_
 refine Stab.Tg 6 hf hok (fun _ _ h d => Stab.vd 4 1 d []) (fun _ _ h d => Stab.O h s6) ?_
 refine Stab.Tg 7 hf hok (fun _ _ h d => Stab.vd 4 2 d []) (fun _ _ h d => ad (Stab.vd 5 1 d []) (Stab.vd 6 0 d [])) ?_
 refine Stab.Tg 8 hf hok (fun _ _ h d => Stab.vd 4 3 d []) (fun _ _ h d => Stab.vd 7 0 d []) ?_
 refine Stab.Tg 9 hf hok (fun _ _ h d => Stab.vd 4 4 d []) (fun _ _ h d => ad (Stab.vd 8 0 d []) (ad (cL h.ext d0) (ad (cL h.ext d1) (ad (cL h.ext d2) (ad (cL h.ext y0) (ad (cL h.ext y1) (ad (cL h.ext y2) (own_later how h.ext)))))))) ?_
 refine Stab.Tg 10 hf hok (fun _ _ h d => Stab.vd 4 5 d []) (fun _ _ h d => Stab.O h s3) ?_
 refine Stab.Tg 11 hf hok (fun _ _ h d => Stab.vd 4 6 d []) (fun _ _ h d => ad (Stab.vd 10 0 d []) (ad (cL h.ext d0) (ad (cL h.ext d1) (ad (cL h.ext d2) (ad (cL h.ext y0) (ad (cL h.ext y1) (ad (cL h.ext y2) (own_later how h.ext)))))))) ?_
 refine Stab.Tg 12 hf hok (fun _ _ h d => Stab.vd 4 7 d []) (fun _ _ h d => ad (Stab.vd 9 2 d []) (Stab.vd 11 0 d [])) ?_
 refine Stab.T 13 hf hok (fun _ _ h d => ad (Stab.vd 4 8 d []) (Stab.vd 12 0 d [])) ?_
 refine Stab.E hf hok (fun _ _ h g => ad (Stab.O h s0) (ad (Stab.O h s3) (ad (Stab.O h s5) (ad (Stab.O h s6) (Stab.f 13 0 g))))) ?_
 clear hf hok s0 s3 s5 s6; intro fr1 w1 hf hx sS
 replace d0 := cL hx d0
 replace d1 := cL hx d1
 replace d2 := cL hx d2
 replace y0 := cL hx y0
 replace y1 := cL hx y1
 replace y2 := cL hx y2
 replace how := own_later how hx
 refine Zx hK6 (Fact.cond_s sS.2.2.2.2 (fun hql => ?_) (fun hql => ?_))
 . (
 rw [less_eq] at hql
 clear q1
 replace hb := hb.trans (hx.mono hb.size)
 have htn : twE es e = es.take (i + 1) ++ twE (es.drop (i + 1)) e := by rw [HTW.out, HST.out, hql, if_pos rfl, HTK.out, List.append_assoc]; rfl
 have HTN := Lib.hid htn; clear htn hql
 obtain ⟨xs, hxs⟩ : ∃ x, es.take i = x := ⟨_, rfl⟩
 rw [hxs] at how
 have hln : xs.length <= 1000000 := by rw [<- hxs]; simp; omega
 have HXS := Lib.hid hxs; clear hxs
 obtain ⟨Av, cv, rfl, hcv⟩ := OE.form (es := xs) how
 have how2 := how
 refine wp_skip (Zs hK5 fun _ hK7 => wp_block (rg ?_))
 have bB := hf.B7 24 25 26 27 28 29 30
 iterate 6 refine Zy ?_
 obtain ⟨s0, s3, s5, s6, s21⟩ := sS
 clear bB
 refine Fact.reL (n := 58) (by simp only [Fact.G, hf.size]) hf.defers (fun fr1 hf1 hT => ?_)
 have hKp := Fact.h6 hT 0 3 5 6 24 29
 simp (decide := true) only [Fact.G, hf.size, reduceIte, s0, s3, s5, s6] at hKp
 replace hf := hf1; clear hT hf1 s0 s3 s5 s6 s21
 obtain ⟨s0, s3, s5, s6, s24, s29⟩ := hKp
 have bB := hf.b 30
 refine ⟨?_⟩
 refine wpList_plain rfl fun K5 hK5 => ?_
 refine wp_app _ _ 29 rfl 64 _ 3 24 Tryz.underlying29 info_ent rfl (by decide) (by decide) W1.heap.size (.slice Av xs.length cv) xs.length _ (Fact.eval_tmp s24) (how.alloc _) w1.heap.size q.cells (Fact.eval_tmp s29) rfl (lit_new w1 _ _) (ent_one q) (by omega) (by have := hb.size; simp; omega) (fun v5 w5 hr5 hg5 hat5 => hK5 _ _ ?_)
 refine Fact.L.out ?_
 refine Zy ?_
 refine Fact.nil (Zq4 0 3 5 6 hf ?_)
 clear hf s0 s3 s5 s6 s24 s29 bB; intro fr1 hf sS
 have hb5 := (hb.alloc hb.size _).grown hg5 (by have := hb.size; simp; omega) (fun kk hkk => (how2.lt kk hkk).1)
 have how5 : OE w5 W1.heap.size v5 (xs ++ [q]) := by unfold OE; rw [ecs_append, List.length_append]; exact hr5
 refine Fact.block_normal (Zx hK7 (Zr [22, 23] hf ?_))
 refine Zq4 0 3 5 6 hf ?_
 clear hf sS; intro fr1 hf sS
 refine Fact.then_normal ?_
 obtain ⟨s0, s3, s5, s6⟩ := sS
 exact ⟨_, by have := HK.out; omega, i + 1, v5, rfl, by omega, hf, s0, s3, s5, by rw [s6]; rfl, by rw [HTK.out, HXS.out]; exact how5, HTN.out, hb5⟩)
 . (
 rw [less_eq] at hql
 clear q1
 replace hb := hb.trans (hx.mono hb.size)
 have htw2 : twE es e = es.take i := by rw [HTW.out, HST.out, hql, if_neg (by simp)]; exact List.append_nil _
 clear hql
 refine Zo ?_
 refine Zx hK3 ?_
 have HT2 := Lib.hid htw2; clear htw2
 obtain ⟨xs, hxs⟩ : ∃ x, es.take i = x := ⟨_, rfl⟩
 rw [hxs] at how
 have hln : xs.length <= 1000000 := by rw [<- hxs]; simp; omega
 have HXS := Lib.hid hxs; clear hxs
 obtain ⟨Av, cv, rfl, hcv⟩ := OE.form (es := xs) how
 refine Ze fun _ hK8 => rg ?_
 have bB := hf.B5 31 32 33 34 35
 iterate 2 refine Zy ?_
 refine fp fun K Z => ?_
 go_simp
 go_at_call 93; refine (bare w1 e).mono ?_; rintro e w2 ⟨rfl, hb2⟩
 generalize hEe : bareE e = Ee
 have HEe := Lib.hid hEe; clear hEe
 simp only [eval]
 have how2 := own_later how hb2
 have hbx2 := hb.trans (hb2.mono hb.size)
 try dsimp only
 apply Z.out; clear Z K
 refine Zy ?_
 obtain ⟨s0, s3, s5, s6, s21⟩ := sS
 clear bB
 refine Fact.reL (n := 58) (by simp only [Fact.G, hf.size]) hf.defers (fun fr1 hf1 hT => ?_)
 have hKp := Fact.h5 hT 0 3 5 31 34
 simp (decide := true) only [Fact.G, hf.size, reduceIte, s0, s3, s5] at hKp
 replace hf := hf1; clear hT hf1 s0 s3 s5 s6 s21
 obtain ⟨s0, s3, s5, s31, s34⟩ := hKp
 have bB := hf.b 35
 refine ⟨?_⟩
 refine wpList_plain rfl fun K5 hK5 => ?_
 refine wp_app _ _ 29 rfl 64 _ 3 24 Tryz.underlying29 info_ent rfl (by decide) (by decide) W1.heap.size (.slice Av xs.length cv) xs.length _ (Fact.eval_tmp s31) (how2.alloc _) w2.heap.size Ee.cells (Fact.eval_tmp s34) rfl (lit_new w2 _ _) (ent_one Ee) (by omega) (by have := hbx2.size; simp; omega) (fun v5 w5 hr5 hg5 hat5 => hK5 _ _ ?_)
 refine Fact.L.out ?_
 refine Zy ?_
 refine Fact.nil (Zq3 0 3 5 hf ?_)
 clear hf s0 s3 s5 s31 s34 bB; intro fr1 hf sS
 have hb5 := (hbx2.alloc hbx2.size _).grown hg5 (by have := hbx2.size; simp; omega) (fun kk hkk => (how2.lt kk hkk).1)
 have how5 : OE w5 W1.heap.size v5 (xs ++ [Ee]) := by unfold OE; rw [ecs_append, List.length_append]; exact hr5
 refine Zs hK8 fun _ hK9 => Ze fun _ hK10 => Zr [] hf ?_
 refine Zq4 0 3 5 7 hf ?_
 clear hf sS; intro fr1 hf sS
 refine Zx hK10 (wp_block (wp_loop_ghost (fun gk2 fr wr2 => ∃ (k : Nat) (V2 : Value), gk2 = es.length - k /\ k <= es.length /\ Fact.Fr 58 fr /\ fr.tmps[0]? = some (.slice (some ⟨b, off, none⟩) es.length cc) /\ fr.tmps[3]? = some (.pointer (some ⟨w.heap.size, 0, none⟩)) /\ fr.tmps[5]? = some V2 /\ fr.tmps[7]? = some (.int .i64 k) /\ OE wr2 W1.heap.size V2 (twE es e ++ [bareE e] ++ (es.take k).filter (gtE e)) /\ Below W1.heap.size W1 wr2) (es.length) ?_ ?_))
 . (
 obtain ⟨s0, s3, s5, s7⟩ := sS
 exact ⟨0, v5, rfl, Nat.zero_le _, hf, s0, s3, s5, s7, by rw [HT2.out, HXS.out, HEe.out, List.take_zero, List.filter_nil, List.append_nil]; exact how5, hb5⟩)
 . (
 clear hf sS
 rintro gk2 fr wr2 ⟨k, V2, hk2, hk2l, hf, s0, s3, s5, s7, how3, hb3⟩
 have HK2 := Lib.hid hk2; clear hk2
 have z0 := cL hb3 x0; have z1 := cL hb3 x1; have z2 := cL hb3 x2
 refine Ze fun _ hK11 => Ze fun _ hK12 => Zr [36, 37, 38] hf ?_
 refine Zq5 0 3 5 7 39 hf ?_
 clear hf s0 s3 s5 s7; intro fr1 hf sS
 refine Zx hK12 (Fact.cond_s sS.2.2.2.2 (fun hq3 => ?_) (fun hq3 => ?_))
 . (
 have hklt : k < es.length := by have h9 := of_decide_eq_true hq3; omega
 have HQ3 := Lib.hid hq3; clear hq3
 obtain ⟨q, hkq⟩ : ∃ q, es[k]? = some q := ⟨_, gE1 hklt⟩
 obtain ⟨b2, off2, he2, hbB2, hbl2, d0, d1, d2⟩ := (hre1.below hb3).at_ hkq
 injection he2 with he2
 injection he2 with he2 he3
 subst he2; subst he3
 have hfs := filter_step (e := e) hkq
 have HFS := Lib.hid hfs; clear hfs hkq
 obtain ⟨xs3, hxs3⟩ : ∃ x, twE es e ++ [bareE e] ++ (es.take k).filter (gtE e) = x := ⟨_, rfl⟩
 have hln3 : xs3.length <= 1000000 := by rw [<- hxs3]; have := oneK_length es e k; omega
 rw [hxs3] at how3
 have HX3 := Lib.hid hxs3; clear hxs3
 refine wp_skip (Zs hK11 fun _ hK13 => wp_block (Ze fun _ hK14 => ?_))
 obtain ⟨s0, s3, s5, s7, s39⟩ := sS
 refine Stab.tb 58 fun hok => ?_
 refine Stab.mO 0 s0 hf hok ?_
 refine Stab.mO 1 s7 hf hok ?_
 refine Stab.Ti 2 hf hok (fun _ _ h d => ad (Stab.vd 0 1 d []) (Stab.vd 1 0 d [])) ?_
 refine Stab.T 3 hf hok (fun _ _ h d => Stab.vd 2 0 d []) ?_
 refine Stab.T 4 hf hok (fun _ _ h d => ad (Stab.vd 3 0 d []) (ad (cL h.ext d0) (ad (cL h.ext z0) (ad (cL h.ext d1) (ad (cL h.ext d2) (ad (cL h.ext z1) (ad (cL h.ext z2) (own_later how3 h.ext)))))))) ?_
 refine Stab.T 5 hf hok (fun _ _ h d => Stab.O h s3) ?_
 refine Stab.T 6 hf hok (fun _ _ h d => ad (Stab.vd 5 0 d []) (ad (cL h.ext d0) (ad (cL h.ext z0) (ad (cL h.ext d1) (ad (cL h.ext d2) (ad (cL h.ext z1) (ad (cL h.ext z2) (own_later how3 h.ext)))))))) ?_
 refine Stab.T 7 hf hok (fun _ _ h d => ad (Stab.vd 4 2 d []) (Stab.vd 6 0 d [])) ?_
 refine Stab.E hf hok (fun _ _ h g => ad (Stab.O h s0) (ad (Stab.O h s3) (ad (Stab.O h s5) (ad (Stab.O h s7) (Stab.f 7 0 g))))) ?_
 clear hf hok s0 s3 s5 s7 s39; intro fr1 w1 hf hx sS
 replace d0 := cL hx d0
 replace z0 := cL hx z0
 replace d1 := cL hx d1
 replace d2 := cL hx d2
 replace z1 := cL hx z1
 replace z2 := cL hx z2
 replace how3 := own_later how3 hx
 refine Zx hK14 (Fact.cond_s sS.2.2.2.2 (fun hqg => ?_) (fun hqg => ?_))
 . (
 rw [less_eq, gt_lex] at hqg
 have hbx := hb3.trans (hx.mono hb3.size)
 have hgt : gtE e q = true := hqg
 have HGT := Lib.hid hgt; clear hgt hqg
 obtain ⟨Av3, cv3, rfl, hcv3⟩ := OE.form (es := xs3) how3
 have how2 := how3
 refine rg ?_
 have bB := hf.B7 50 51 52 53 54 55 56
 iterate 6 refine Zy ?_
 obtain ⟨s0, s3, s5, s7, s49⟩ := sS
 clear bB
 refine Fact.reL (n := 58) (by simp only [Fact.G, hf.size]) hf.defers (fun fr1 hf1 hT => ?_)
 have hKp := Fact.h6 hT 0 3 5 7 50 55
 simp (decide := true) only [Fact.G, hf.size, reduceIte, s0, s3, s5, s7] at hKp
 replace hf := hf1; clear hT hf1 s0 s3 s5 s7 s49
 obtain ⟨s0, s3, s5, s7, s50, s55⟩ := hKp
 have bB := hf.b 56
 refine ⟨?_⟩
 refine wpList_plain rfl fun K5 hK5 => ?_
 refine wp_app _ _ 29 rfl 64 _ 3 24 Tryz.underlying29 info_ent rfl (by decide) (by decide) W1.heap.size (.slice Av3 xs3.length cv3) xs3.length _ (Fact.eval_tmp s50) (how3.alloc _) w1.heap.size q.cells (Fact.eval_tmp s55) rfl (lit_new w1 _ _) (ent_one q) (by omega) (by have := hbx.size; simp; omega) (fun v5 w5 hr5 hg5 hat5 => hK5 _ _ ?_)
 refine Fact.L.out ?_
 refine Zy ?_
 refine Fact.nil (Zq4 0 3 5 7 hf ?_)
 clear hf s0 s3 s5 s7 s50 s55 bB; intro fr1 hf sS
 have hb5 := (hbx.alloc hbx.size _).grown hg5 (by have := hbx.size; simp; omega) (fun kk hkk => (how2.lt kk hkk).1)
 have how5 : OE w5 W1.heap.size v5 (xs3 ++ [q]) := by unfold OE; rw [ecs_append, List.length_append]; exact hr5
 have hfin : twE es e ++ [bareE e] ++ (es.take (k + 1)).filter (gtE e) = xs3 ++ [q] := by rw [HFS.out, HGT.out, if_pos rfl, <- List.append_assoc, HX3.out]
 have HF := Lib.hid hfin; clear hfin
 refine Fact.block_normal (Zx hK13 (Zr [40, 41] hf ?_))
 refine Zq4 0 3 5 7 hf ?_
 clear hf sS; intro fr1 hf sS
 refine Fact.then_normal ?_
 obtain ⟨s0, s3, s5, s7⟩ := sS
 exact ⟨_, by have := HK2.out; omega, k + 1, _, rfl, by omega, hf, s0, s3, s5, by rw [s7]; rfl, by rw [HF.out]; exact how5, hb5⟩)
 . (
 rw [less_eq, gt_lex] at hqg
 have hbx := hb3.trans (hx.mono hb3.size)
 have hgt : gtE e q = false := hqg
 have HGT := Lib.hid hgt; clear hgt hqg
 have hfin : twE es e ++ [bareE e] ++ (es.take (k + 1)).filter (gtE e) = xs3 := by rw [HFS.out, HGT.out, if_neg (by simp), List.append_nil, HX3.out]
 have HF := Lib.hid hfin; clear hfin
 have how5 := how3
 have hb5 := hbx
 refine wp_skip (Fact.block_normal (Zx hK13 (Zr [40, 41] hf ?_)))
 refine Zq4 0 3 5 7 hf ?_
 clear hf sS; intro fr1 hf sS
 refine Fact.then_normal ?_
 obtain ⟨s0, s3, s5, s7⟩ := sS
 exact ⟨_, by have := HK2.out; omega, k + 1, _, rfl, by omega, hf, s0, s3, s5, by rw [s7]; rfl, by rw [HF.out]; exact how5, hb5⟩))
 . (
 have hke : k = es.length := by have h9 := of_decide_eq_false hq3; omega
 rw [hke, List.take_length] at how3
 clear hq3 hke
 refine Zo ?_
 refine Zs hK9 fun _ hK15 => Zr [57] hf ?_
 refine Zq1 4 hf ?_
 clear hf sS; intro fr1 hf s4
 refine Zx hK15 (Zret ?_)
 exact Fact.ret1 rfl hf s4 ⟨_, rfl, own_less how3 hs1, hb1.trans (hb3.mono hs1)⟩))))
 . (
 have q1 : decide (i < es.length) = false := decide_eq_false (by omega)
 refine Ze fun _ hK16 => Ze fun _ hK17 => Stab.tb 58 fun hok => ?_
 refine Stab.mO 0 s6 hf hok ?_
 refine Stab.mO 1 s0 hf hok ?_
 refine Stab.T 2 hf hok (fun _ _ h d => ad (Stab.vd 1 0 d []) (ad (cL h.ext y0) (ad (cL h.ext y1) (ad (cL h.ext y2) (own_later how h.ext))))) ?_
 refine Stab.T 3 hf hok (fun _ _ h d => ad (Stab.vd 0 2 d []) (Stab.vd 2 0 d [])) ?_
 refine Stab.mN 4 3 0 hf hok [] ?_
 refine Stab.Tk 5 hf hok (fun _ _ h d => Stab.vd 4 0 d []) ?_
 refine Stab.Tk 6 hf hok (fun _ _ h d => Stab.vd 4 1 d []) ?_
 refine Stab.Tk 7 hf hok (fun _ _ h d => Stab.vd 4 2 d []) ?_
 refine Stab.Tk 8 hf hok (fun _ _ h d => Stab.vd 4 3 d []) ?_
 refine Stab.Tk 9 hf hok (fun _ _ h d => Stab.vd 4 4 d []) ?_
 refine Stab.Tk 10 hf hok (fun _ _ h d => Stab.vd 4 5 d []) ?_
 refine Stab.Tk 11 hf hok (fun _ _ h d => Stab.vd 4 6 d []) ?_
 refine Stab.Tk 12 hf hok (fun _ _ h d => Stab.vd 4 7 d []) ?_
 refine Stab.T 13 hf hok (fun _ _ h d => ad (Stab.vd 4 8 d []) (Stab.vd 12 0 d [])) ?_
 refine Stab.E hf hok (fun _ _ h g => ad (Stab.O h s0) (ad (Stab.O h s3) (ad (Stab.O h s5) (ad (Stab.O h s6) (Stab.f 13 0 g))))) ?_
 clear hf hok s0 s3 s5 s6; intro fr1 w1 hf hx sS
 replace y0 := cL hx y0
 replace y1 := cL hx y1
 replace y2 := cL hx y2
 replace how := own_later how hx
 refine Zx hK17 (Fact.cond_f sS.2.2.2.2 ?_)
 clear q1
 have htw2 : twE es e = es.take i := by rw [HTW.out, List.drop_eq_nil_of_le (by omega)]; exact List.append_nil _
 replace hb := hb.trans (hx.mono hb.size)
 refine Zo ?_
 refine Zx hK3 ?_
 have HT2 := Lib.hid htw2; clear htw2
 obtain ⟨xs, hxs⟩ : ∃ x, es.take i = x := ⟨_, rfl⟩
 rw [hxs] at how
 have hln : xs.length <= 1000000 := by rw [<- hxs]; simp; omega
 have HXS := Lib.hid hxs; clear hxs
 obtain ⟨Av, cv, rfl, hcv⟩ := OE.form (es := xs) how
 refine Ze fun _ hK18 => rg ?_
 have bB := hf.B5 31 32 33 34 35
 iterate 2 refine Zy ?_
 refine fp fun K Z => ?_
 go_simp
 go_at_call 93; refine (bare w1 e).mono ?_; rintro e w2 ⟨rfl, hb2⟩
 generalize hEe : bareE e = Ee
 have HEe := Lib.hid hEe; clear hEe
 simp only [eval]
 have how2 := own_later how hb2
 have hbx2 := hb.trans (hb2.mono hb.size)
 try dsimp only
 apply Z.out; clear Z K
 refine Zy ?_
 obtain ⟨s0, s3, s5, s6, s21⟩ := sS
 clear bB
 refine Fact.reL (n := 58) (by simp only [Fact.G, hf.size]) hf.defers (fun fr1 hf1 hT => ?_)
 have hKp := Fact.h5 hT 0 3 5 31 34
 simp (decide := true) only [Fact.G, hf.size, reduceIte, s0, s3, s5] at hKp
 replace hf := hf1; clear hT hf1 s0 s3 s5 s6 s21
 obtain ⟨s0, s3, s5, s31, s34⟩ := hKp
 have bB := hf.b 35
 refine ⟨?_⟩
 refine wpList_plain rfl fun K5 hK5 => ?_
 refine wp_app _ _ 29 rfl 64 _ 3 24 Tryz.underlying29 info_ent rfl (by decide) (by decide) W1.heap.size (.slice Av xs.length cv) xs.length _ (Fact.eval_tmp s31) (how2.alloc _) w2.heap.size Ee.cells (Fact.eval_tmp s34) rfl (lit_new w2 _ _) (ent_one Ee) (by omega) (by have := hbx2.size; simp; omega) (fun v5 w5 hr5 hg5 hat5 => hK5 _ _ ?_)
 refine Fact.L.out ?_
 refine Zy ?_
 refine Fact.nil (Zq3 0 3 5 hf ?_)
 clear hf s0 s3 s5 s31 s34 bB; intro fr1 hf sS
 have hb5 := (hbx2.alloc hbx2.size _).grown hg5 (by have := hbx2.size; simp; omega) (fun kk hkk => (how2.lt kk hkk).1)
 have how5 : OE w5 W1.heap.size v5 (xs ++ [Ee]) := by unfold OE; rw [ecs_append, List.length_append]; exact hr5
 refine Zs hK18 fun _ hK19 => Ze fun _ hK20 => Zr [] hf ?_
 refine Zq4 0 3 5 7 hf ?_
 clear hf sS; intro fr1 hf sS
 refine Zx hK20 (wp_block (wp_loop_ghost (fun gk2 fr wr2 => ∃ (k : Nat) (V2 : Value), gk2 = es.length - k /\ k <= es.length /\ Fact.Fr 58 fr /\ fr.tmps[0]? = some (.slice A es.length cc) /\ fr.tmps[3]? = some (.pointer (some ⟨w.heap.size, 0, none⟩)) /\ fr.tmps[5]? = some V2 /\ fr.tmps[7]? = some (.int .i64 k) /\ OE wr2 W1.heap.size V2 (twE es e ++ [bareE e] ++ (es.take k).filter (gtE e)) /\ Below W1.heap.size W1 wr2) (es.length) ?_ ?_))
 . (
 obtain ⟨s0, s3, s5, s7⟩ := sS
 exact ⟨0, v5, rfl, Nat.zero_le _, hf, s0, s3, s5, s7, by rw [HT2.out, HXS.out, HEe.out, List.take_zero, List.filter_nil, List.append_nil]; exact how5, hb5⟩)
 . (
 clear hf sS
 rintro gk2 fr wr2 ⟨k, V2, hk2, hk2l, hf, s0, s3, s5, s7, how3, hb3⟩
 have HK2 := Lib.hid hk2; clear hk2
 have z0 := cL hb3 x0; have z1 := cL hb3 x1; have z2 := cL hb3 x2
 refine Ze fun _ hK21 => Ze fun _ hK22 => Zr [36, 37, 38] hf ?_
 refine Zq5 0 3 5 7 39 hf ?_
 clear hf s0 s3 s5 s7; intro fr1 hf sS
 refine Zx hK22 (Fact.cond_s sS.2.2.2.2 (fun hq3 => ?_) (fun hq3 => ?_))
 . (
 have hklt : k < es.length := by have h9 := of_decide_eq_true hq3; omega
 have HQ3 := Lib.hid hq3; clear hq3
 obtain ⟨q, hkq⟩ : ∃ q, es[k]? = some q := ⟨_, gE1 hklt⟩
 obtain ⟨b, off, rfl, hbB, hbl, d0, d1, d2⟩ := (hre1.below hb3).at_ hkq
 have hfs := filter_step (e := e) hkq
 have HFS := Lib.hid hfs; clear hfs hkq
 obtain ⟨xs3, hxs3⟩ : ∃ x, twE es e ++ [bareE e] ++ (es.take k).filter (gtE e) = x := ⟨_, rfl⟩
 have hln3 : xs3.length <= 1000000 := by rw [<- hxs3]; have := oneK_length es e k; omega
 rw [hxs3] at how3
 have HX3 := Lib.hid hxs3; clear hxs3
 refine wp_skip (Zs hK21 fun _ hK23 => wp_block (Ze fun _ hK24 => ?_))
 obtain ⟨s0, s3, s5, s7, s39⟩ := sS
 refine Stab.tb 58 fun hok => ?_
 refine Stab.mO 0 s0 hf hok ?_
 refine Stab.mO 1 s7 hf hok ?_
 refine Stab.Ti 2 hf hok (fun _ _ h d => ad (Stab.vd 0 1 d []) (Stab.vd 1 0 d [])) ?_
 refine Stab.T 3 hf hok (fun _ _ h d => Stab.vd 2 0 d []) ?_
 refine Stab.T 4 hf hok (fun _ _ h d => ad (Stab.vd 3 0 d []) (ad (cL h.ext d0) (ad (cL h.ext z0) (ad (cL h.ext d1) (ad (cL h.ext d2) (ad (cL h.ext z1) (ad (cL h.ext z2) (own_later how3 h.ext)))))))) ?_
 refine Stab.T 5 hf hok (fun _ _ h d => Stab.O h s3) ?_
 refine Stab.T 6 hf hok (fun _ _ h d => ad (Stab.vd 5 0 d []) (ad (cL h.ext d0) (ad (cL h.ext z0) (ad (cL h.ext d1) (ad (cL h.ext d2) (ad (cL h.ext z1) (ad (cL h.ext z2) (own_later how3 h.ext)))))))) ?_
 refine Stab.T 7 hf hok (fun _ _ h d => ad (Stab.vd 4 2 d []) (Stab.vd 6 0 d [])) ?_
 refine Stab.E hf hok (fun _ _ h g => ad (Stab.O h s0) (ad (Stab.O h s3) (ad (Stab.O h s5) (ad (Stab.O h s7) (Stab.f 7 0 g))))) ?_
 clear hf hok s0 s3 s5 s7 s39; intro fr1 w1 hf hx sS
 replace d0 := cL hx d0
 replace z0 := cL hx z0
 replace d1 := cL hx d1
 replace d2 := cL hx d2
 replace z1 := cL hx z1
 replace z2 := cL hx z2
 replace how3 := own_later how3 hx
 refine Zx hK24 (Fact.cond_s sS.2.2.2.2 (fun hqg => ?_) (fun hqg => ?_))
 . (
 rw [less_eq, gt_lex] at hqg
 have hbx := hb3.trans (hx.mono hb3.size)
 have hgt : gtE e q = true := hqg
 have HGT := Lib.hid hgt; clear hgt hqg
 obtain ⟨Av3, cv3, rfl, hcv3⟩ := OE.form (es := xs3) how3
 have how2 := how3
 refine rg ?_
 have bB := hf.B7 50 51 52 53 54 55 56
 iterate 6 refine Zy ?_
 obtain ⟨s0, s3, s5, s7, s49⟩ := sS
 clear bB
 refine Fact.reL (n := 58) (by simp only [Fact.G, hf.size]) hf.defers (fun fr1 hf1 hT => ?_)
 have hKp := Fact.h6 hT 0 3 5 7 50 55
 simp (decide := true) only [Fact.G, hf.size, reduceIte, s0, s3, s5, s7] at hKp
 replace hf := hf1; clear hT hf1 s0 s3 s5 s7 s49
 obtain ⟨s0, s3, s5, s7, s50, s55⟩ := hKp
 have bB := hf.b 56
 refine ⟨?_⟩
 refine wpList_plain rfl fun K5 hK5 => ?_
 refine wp_app _ _ 29 rfl 64 _ 3 24 Tryz.underlying29 info_ent rfl (by decide) (by decide) W1.heap.size (.slice Av3 xs3.length cv3) xs3.length _ (Fact.eval_tmp s50) (how3.alloc _) w1.heap.size q.cells (Fact.eval_tmp s55) rfl (lit_new w1 _ _) (ent_one q) (by omega) (by have := hbx.size; simp; omega) (fun v5 w5 hr5 hg5 hat5 => hK5 _ _ ?_)
 refine Fact.L.out ?_
 refine Zy ?_
 refine Fact.nil (Zq4 0 3 5 7 hf ?_)
 clear hf s0 s3 s5 s7 s50 s55 bB; intro fr1 hf sS
 have hb5 := (hbx.alloc hbx.size _).grown hg5 (by have := hbx.size; simp; omega) (fun kk hkk => (how2.lt kk hkk).1)
 have how5 : OE w5 W1.heap.size v5 (xs3 ++ [q]) := by unfold OE; rw [ecs_append, List.length_append]; exact hr5
 have hfin : twE es e ++ [bareE e] ++ (es.take (k + 1)).filter (gtE e) = xs3 ++ [q] := by rw [HFS.out, HGT.out, if_pos rfl, <- List.append_assoc, HX3.out]
 have HF := Lib.hid hfin; clear hfin
 refine Fact.block_normal (Zx hK23 (Zr [40, 41] hf ?_))
 refine Zq4 0 3 5 7 hf ?_
 clear hf sS; intro fr1 hf sS
 refine Fact.then_normal ?_
 obtain ⟨s0, s3, s5, s7⟩ := sS
 exact ⟨_, by have := HK2.out; omega, k + 1, _, rfl, by omega, hf, s0, s3, s5, by rw [s7]; rfl, by rw [HF.out]; exact how5, hb5⟩)
 . (
 rw [less_eq, gt_lex] at hqg
 have hbx := hb3.trans (hx.mono hb3.size)
 have hgt : gtE e q = false := hqg
 have HGT := Lib.hid hgt; clear hgt hqg
 have hfin : twE es e ++ [bareE e] ++ (es.take (k + 1)).filter (gtE e) = xs3 := by rw [HFS.out, HGT.out, if_neg (by simp), List.append_nil, HX3.out]
 have HF := Lib.hid hfin; clear hfin
 have how5 := how3
 have hb5 := hbx
 refine wp_skip (Fact.block_normal (Zx hK23 (Zr [40, 41] hf ?_)))
 refine Zq4 0 3 5 7 hf ?_
 clear hf sS; intro fr1 hf sS
 refine Fact.then_normal ?_
 obtain ⟨s0, s3, s5, s7⟩ := sS
 exact ⟨_, by have := HK2.out; omega, k + 1, _, rfl, by omega, hf, s0, s3, s5, by rw [s7]; rfl, by rw [HF.out]; exact how5, hb5⟩))
 . (
 have hke : k = es.length := by have h9 := of_decide_eq_false hq3; omega
 rw [hke, List.take_length] at how3
 clear hq3 hke
 refine Zo ?_
 refine Zs hK19 fun _ hK25 => Zr [57] hf ?_
 refine Zq1 4 hf ?_
 clear hf sS; intro fr1 hf s4
 refine Zx hK25 (Zret ?_)
 exact Fact.ret1 rfl hf s4 ⟨_, rfl, own_less how3 hs1, hb1.trans (hb3.mono hs1)⟩))))
end Dw
end Go.Proofs.YtcddnmhmcieebaaGreatDoor
