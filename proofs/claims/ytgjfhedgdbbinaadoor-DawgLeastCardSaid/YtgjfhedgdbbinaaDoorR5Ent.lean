/- cedillaref05: bare, Draft.Entry. -/
import Derived.Test.YtgjfhedgdbbinaaDoorR5
import Derived.Test.YtgjfhedgdbbinaaDoorTools
namespace Go.Proofs.YtgjfhedgdbbinaaDoor
open Go.RowKit
set_option linter.unusedSimpArgs false
set_option linter.unusedVariables false
set_option linter.unnecessarySimpa false
namespace Dw

theorem two_ents {w W : World} {x y z x' y' z' : Value} {t t' : TypeId} (h : (w.alloc (.cells #[x, y, z] t)).alloc (.cells #[x', y', z'] t') = W) : Below w.heap.size w W ∧ W.cell? ⟨w.heap.size, 0, none⟩ = some x ∧ W.cell? ⟨w.heap.size, 1, none⟩ = some y ∧ W.cell? ⟨w.heap.size, 2, none⟩ = some z ∧
    W.heap[w.heap.size + 1]? = some (.cells #[x', y', z'] t' (0, 0)) ∧ W.heap[w.heap.size]? = some (.cells #[x, y, z] t (0, 0)) := by
  obtain ⟨W0, hW0⟩ : ∃ W0, w.alloc (.cells #[x, y, z] t) = W0 := ⟨_, rfl⟩
  rw [hW0] at h
  obtain ⟨h1, h2, h3, h4, h6, h5⟩ := box3 hW0
  obtain ⟨k1, k2, k3, k4, k6, k5⟩ := box3 h
  rw [h5] at k6
  exact ⟨h1.trans (k1.mono h1.size), cL k1 h2, cL k1 h3, cL k1 h4, k6, (k1.block _ (by omega)).trans h6⟩
set_option maxHeartbeats 4000000 in
set_option maxRecDepth 100000 in
theorem bare_g (w : World) (e : Ent) (hg : e.gone = true) : Calls Tryd.prog 37 #[eval e] w fun e1 w1 => e1 = .returned (eval (bareE e)) ∧ Below w.heap.size w w1 := by
 refine calls_of_wp Tryd.func37 rfl ?_
 refine Fact.en 7 fun fr hf hT => ?_
 have s0 := hT 0 _ rfl
 clear hT
 simp only [eval] at s0
 have HG := Lib.hid hg; clear hg
 refine Fact.sq fun K1 hK1 => ?_
 refine rg ?_
 refine fp fun K Z => ?_
 go_simp
 apply Z.out; clear Z K
 refine fp fun K Z => ?_
 go_simp
 apply Z.out; clear Z K
 refine Fact.z hf fun fr1 hf1 hT => ?_
 have hKp : _ ∧ _ := ⟨hT 1, hT 2⟩
 simp (decide := true) only [Fact.G, hf.size, reduceIte] at hKp
 replace hf := hf1; clear hT hf1 s0
 obtain ⟨s1, s2⟩ := hKp
 obtain ⟨W1, hW1⟩ : ∃ x, (w.alloc (.cells #[.string e.word, .int .u32 e.weight, .bool e.gone] 42)).alloc (.cells #[.string ⟨#[]⟩, .int .u32 0, .bool false] 42) = x := ⟨_, rfl⟩
 rw [hW1]
 obtain ⟨hb1, x0, x1, x2, hp, hq⟩ := two_ents hW1
 try simp only [World.size_alloc] at s2
 clear hW1
 refine nx (hK1 _ _ ?_)
 refine Fact.sq fun K2 hK2 => ?_
 refine Fact.sq fun K3 hK3 => ?_
 refine rg ?_
 have b3 := hf.b 3
 refine fp fun K Z => ?_
 go_simp
 apply Z.out; clear Z K
 refine fp fun K Z => ?_
 go_simp
 apply Z.out; clear Z K
 refine Fact.z hf fun fr1 hf1 hT => ?_
 have hKp : _ ∧ _ ∧ _ := ⟨hT 1, hT 2, hT 4⟩
 simp (decide := true) only [Fact.G, hf.size, reduceIte, s1, s2] at hKp
 replace hf := hf1; clear hT hf1 s1 s2 b3
 obtain ⟨s1, s2, s4⟩ := hKp
 refine nx (hK3 _ _ ?_)
 rw [HG.out] at s4
 refine Fact.cond_t s4 ?_
 have fz1 := frozen_of (i := 1) hq
 refine rg ?_
 have b5 := hf.b 5
 refine fp fun K Z => ?_
 go_simp
 apply Z.out; clear Z K
 refine fp fun K Z => ?_
 go_simp
 apply Z.out; clear Z K
 refine Fact.z hf fun fr1 hf1 hT => ?_
 have hKp : _ ∧ _ := ⟨hT 1, hT 2⟩
 simp (decide := true) only [Fact.G, reduceIte, s1, s2] at hKp
 replace hf := hf1; clear hT hf1 s1 s2 s4 b5
 obtain ⟨s1, s2⟩ := hKp
 obtain ⟨W2, hW2⟩ : ∃ x, W1.setCell ⟨w.heap.size, 1, none⟩ (.int .u32 0) = x := ⟨_, rfl⟩
 rw [hW2]
 have hb2 : Below w.heap.size w W2 := by rw [← hW2]; exact hb1.setCell (p := ⟨w.heap.size, 1, none⟩) (Nat.le_refl _) _
 have hq2 := set_block (i := 1) hq (.int .u32 0)
 rw [hW2] at hq2
 have hp2 : W2.heap[w.heap.size + 1]? = some (.cells #[.string ⟨#[]⟩, .int .u32 0, .bool false] 42 (0, 0)) := by rw [← hW2]; exact (Below.heap_setCell _ _ _ _ (by simp)).trans hp
 clear hW2 hp hq x0 x1 x2 hb1
 have hp := hp2; have hb1 := hb2; clear hp2 hb2
 have x0 := cell_of_row _ _ 0 _ 42 (0, 0) hq2; have x1 := cell_of_row _ _ 1 _ 42 (0, 0) hq2; have x2 := cell_of_row _ _ 2 _ 42 (0, 0) hq2
 simp at x0 x1 x2
 refine nx (hK2 _ _ ?_)
 have fz0 := frozen_of (i := 0) hp; have fz1 := frozen_of (i := 1) hp; have fz2 := frozen_of (i := 2) hp
 have g0 := cell_of_row _ _ 0 _ 42 (0, 0) hp; have g1 := cell_of_row _ _ 1 _ 42 (0, 0) hp; have g2 := cell_of_row _ _ 2 _ 42 (0, 0) hp
 simp at g0 g1 g2
 refine Fact.sq fun K4 hK4 => ?_
 refine rg ?_
 have b6 := hf.b 6
 refine fp fun K Z => ?_
 go_simp
 apply Z.out; clear Z K
 refine fp fun K Z => ?_
 go_simp
 apply Z.out; clear Z K
 refine Fact.z hf fun fr1 hf1 hT => ?_
 have hKp := hT 2
 simp (decide := true) only [Fact.G, reduceIte, s2] at hKp
 replace hf := hf1; clear hT hf1 s1 s2 b6
 have s2 := hKp; clear hKp
 refine nx (hK4 _ _ ?_)
 refine wp_ret ?_
 refine ret_c rfl hf s2 (set_block (set_block (set_block hp _) _) _) Tryd.underlying42 rfl (by kernel_rfl) ⟨?_, ((hb1.setCell (p := ⟨w.heap.size + 1, 0, none⟩) (Nat.le_succ _) _).setCell (p := ⟨w.heap.size + 1, 1, none⟩) (Nat.le_succ _) _).setCell (p := ⟨w.heap.size + 1, 2, none⟩) (Nat.le_succ _) _⟩
 rw [show bareE e = ⟨e.word, 0, e.gone⟩ from if_pos HG.out]
 rfl
set_option maxHeartbeats 4000000 in
set_option maxRecDepth 100000 in
theorem bare_n (w : World) (e : Ent) (hg : e.gone = false) : Calls Tryd.prog 37 #[eval e] w fun e1 w1 => e1 = .returned (eval (bareE e)) ∧ Below w.heap.size w w1 := by
 refine calls_of_wp Tryd.func37 rfl ?_
 refine Fact.en 7 fun fr hf hT => ?_
 have s0 := hT 0 _ rfl
 clear hT
 simp only [eval] at s0
 have HG := Lib.hid hg; clear hg
 refine Fact.sq fun K1 hK1 => ?_
 refine rg ?_
 refine fp fun K Z => ?_
 go_simp
 apply Z.out; clear Z K
 refine fp fun K Z => ?_
 go_simp
 apply Z.out; clear Z K
 refine Fact.z hf fun fr1 hf1 hT => ?_
 have hKp : _ ∧ _ := ⟨hT 1, hT 2⟩
 simp (decide := true) only [Fact.G, hf.size, reduceIte] at hKp
 replace hf := hf1; clear hT hf1 s0
 obtain ⟨s1, s2⟩ := hKp
 obtain ⟨W1, hW1⟩ : ∃ x, (w.alloc (.cells #[.string e.word, .int .u32 e.weight, .bool e.gone] 42)).alloc (.cells #[.string ⟨#[]⟩, .int .u32 0, .bool false] 42) = x := ⟨_, rfl⟩
 rw [hW1]
 obtain ⟨hb1, x0, x1, x2, hp, hq⟩ := two_ents hW1
 try simp only [World.size_alloc] at s2
 clear hW1
 refine nx (hK1 _ _ ?_)
 refine Fact.sq fun K2 hK2 => ?_
 refine Fact.sq fun K3 hK3 => ?_
 refine rg ?_
 have b3 := hf.b 3
 refine fp fun K Z => ?_
 go_simp
 apply Z.out; clear Z K
 refine fp fun K Z => ?_
 go_simp
 apply Z.out; clear Z K
 refine Fact.z hf fun fr1 hf1 hT => ?_
 have hKp : _ ∧ _ ∧ _ := ⟨hT 1, hT 2, hT 4⟩
 simp (decide := true) only [Fact.G, hf.size, reduceIte, s1, s2] at hKp
 replace hf := hf1; clear hT hf1 s1 s2 b3
 obtain ⟨s1, s2, s4⟩ := hKp
 refine nx (hK3 _ _ ?_)
 rw [HG.out] at s4
 refine Fact.cond_f s4 ?_
 refine wp_skip ?_
 refine nx (hK2 _ _ ?_)
 have fz0 := frozen_of (i := 0) hp; have fz1 := frozen_of (i := 1) hp; have fz2 := frozen_of (i := 2) hp
 have g0 := cell_of_row _ _ 0 _ 42 (0, 0) hp; have g1 := cell_of_row _ _ 1 _ 42 (0, 0) hp; have g2 := cell_of_row _ _ 2 _ 42 (0, 0) hp
 simp at g0 g1 g2
 refine Fact.sq fun K4 hK4 => ?_
 refine rg ?_
 have b6 := hf.b 6
 refine fp fun K Z => ?_
 go_simp
 apply Z.out; clear Z K
 refine fp fun K Z => ?_
 go_simp
 apply Z.out; clear Z K
 refine Fact.z hf fun fr1 hf1 hT => ?_
 have hKp := hT 2
 simp (decide := true) only [Fact.G, reduceIte, s2] at hKp
 replace hf := hf1; clear hT hf1 s1 s2 s4 b6
 have s2 := hKp; clear hKp
 refine nx (hK4 _ _ ?_)
 refine wp_ret ?_
 refine ret_c rfl hf s2 (set_block (set_block (set_block hp _) _) _) Tryd.underlying42 rfl (by kernel_rfl) ⟨?_, ((hb1.setCell (p := ⟨w.heap.size + 1, 0, none⟩) (Nat.le_succ _) _).setCell (p := ⟨w.heap.size + 1, 1, none⟩) (Nat.le_succ _) _).setCell (p := ⟨w.heap.size + 1, 2, none⟩) (Nat.le_succ _) _⟩
 rw [show bareE e = e from if_neg (by rw [HG.out]; simp)]
 rfl
theorem bare (w : World) (e : Ent) : Calls Tryd.prog 37 #[eval e] w fun e1 w1 => e1 = .returned (eval (bareE e)) ∧ Below w.heap.size w w1 := by
  cases hg : e.gone with
  | true => exact bare_g w e hg
  | false => exact bare_n w e hg

set_option maxHeartbeats 4000000 in
set_option maxRecDepth 100000 in
theorem dentry (w : World) (d : Dra) (lv : Value) (hru : RU w w.heap.size lv d.letters) (hx : ∀ x ∈ d.letters, 0 ≤ x ∧ x ≤ 255) : Calls Tryd.prog 13 #[.agg #[lv, .int .u32 d.weight, .bool d.gone]] w fun e1 w1 => e1 = .returned (eval d.ent) ∧ Below w.heap.size w w1 := by
 refine calls_of_wp Tryd.func13 rfl ?_
 refine Fact.en 43 fun fr hf hT => ?_
 have s0 := hT 0 _ rfl
 clear hT
 have hru0 := hru
 obtain ⟨A, c, rfl, hlc⟩ := hru.form
 clear hru
 have HX := Lib.hid hx; clear hx
 have hcv := conv1
 refine Fact.sq fun K1 hK1 => ?_
 refine rg ?_
 refine fp fun K Z => ?_
 go_simp
 apply Z.out; clear Z K
 refine fp fun K Z => ?_
 go_simp
 apply Z.out; clear Z K
 refine Fact.z hf fun fr1 hf1 hT => ?_
 have hKp : _ ∧ _ := ⟨hT 1, hT 2⟩
 simp (decide := true) only [Fact.G, hf.size, reduceIte] at hKp
 replace hf := hf1; clear hT hf1 s0
 obtain ⟨s1, s2⟩ := hKp
 obtain ⟨W1, hW1⟩ : ∃ x, (w.alloc (.cells #[.slice A d.letters.length c, .int .u32 d.weight, .bool d.gone] 26)).alloc (.cells #[.string ⟨#[]⟩, .int .u32 0, .bool false] 42) = x := ⟨_, rfl⟩
 rw [hW1]
 obtain ⟨hb1, x0, x1, x2, hp, -⟩ := two_ents hW1
 try simp only [World.size_alloc] at s2
 clear hW1
 have hs1 := hb1.size
 have hz1 : w.heap.size + 1 < W1.heap.size := heap_lt hp
 refine nx (hK1 _ _ ?_)
 refine Fact.sq fun K2 hK2 => ?_
 refine rg ?_
 refine fp fun K Z => ?_
 go_simp
 apply Z.out; clear Z K
 refine Fact.z hf fun fr1 hf1 hT => ?_
 have hKp : _ ∧ _ ∧ _ := ⟨hT 1, hT 2, hT 3⟩
 simp (decide := true) only [Fact.G, hf.size, reduceIte, s1, s2] at hKp
 replace hf := hf1; clear hT hf1 s1 s2
 obtain ⟨s1, s2, s3⟩ := hKp
 refine nx (hK2 _ _ ?_)
 refine Fact.sq fun K3 hK3 => ?_
 refine Fact.sq fun K4 hK4 => ?_
 refine rg ?_
 refine fp fun K Z => ?_
 go_simp
 apply Z.out; clear Z K
 refine Fact.z hf fun fr1 hf1 hT => ?_
 have hKp : _ ∧ _ ∧ _ ∧ _ := ⟨hT 1, hT 2, hT 3, hT 4⟩
 simp (decide := true) only [Fact.G, hf.size, reduceIte, s1, s2, s3] at hKp
 replace hf := hf1; clear hT hf1 s1 s2 s3
 obtain ⟨s1, s2, s3, s4⟩ := hKp
 refine nx (hK4 _ _ ?_)
 refine wp_block ?_
 refine wp_loop_ghost (fun gk fr wr => ∃ (j : Nat), gk = 9 - j ∧ j ≤ d.letters.length ∧ j ≤ 9 ∧ Fact.Fr 43 fr ∧ fr.tmps[1]? = some (.pointer (some ⟨w.heap.size, 0, none⟩)) ∧ fr.tmps[2]? = some (.pointer (some ⟨w.heap.size + 1, 0, none⟩)) ∧ fr.tmps[3]? = some (.string (dbody (d.letters.take j))) ∧ fr.tmps[4]? = some (.int .i64 j) ∧ Below W1.heap.size W1 wr) (9) ?_ ?_
 · (
 exact ⟨0, rfl, Nat.zero_le _, Nat.zero_le _, hf, s1, s2, s3, s4, Below.refl _ _⟩)
 · (
 clear hf s1 s2 s3 s4
 rintro gk fr wr ⟨j, hk, hj, hj9, hf, s1, s2, s3, s4, hb⟩
 have HK := Lib.hid hk; clear hk
 have y0 := cL hb x0
 have hbr := hb1.trans (hb.mono hs1)
 rcases Nat.lt_or_ge j d.letters.length with hlt | hge
 · (
 rcases Nat.lt_or_ge j 9 with h9 | h9
 · (
 have q1 : decide (j < d.letters.length) = true := decide_eq_true (by omega)
 have q2 : decide ((j : Int) < 9) = true := decide_eq_true (by omega)
 refine Fact.sq fun K5 hK5 => ?_
 refine Fact.sq fun K6 hK6 => ?_
 refine rg ?_
 have b6 := hf.b 6
 have b7 := hf.b 7
 have b8 := hf.b 8
 have b9 := hf.b 9
 have b10 := hf.b 10
 have b11 := hf.b 11
 have b12 := hf.b 12
 have b13 := hf.b 13
 refine fp fun K Z => ?_
 go_simp
 apply Z.out; clear Z K
 refine fp fun K Z => ?_
 go_simp
 apply Z.out; clear Z K
 refine fp fun K Z => ?_
 go_simp
 apply Z.out; clear Z K
 refine fp fun K Z => ?_
 go_simp
 apply Z.out; clear Z K
 refine fp fun K Z => ?_
 go_simp
 apply Z.out; clear Z K
 refine fp fun K Z => ?_
 go_simp
 apply Z.out; clear Z K
 refine og 5 11 true ?_ fun K Z => ?_
 · (
 simp (decide := true) only [Fact.G, reduceIte, hf.size, q1, q2])
 go_simp
 apply Z.out; clear Z K
 refine og 5 11 true ?_ fun K Z => ?_
 · (
 simp (decide := true) only [Fact.G, reduceIte, hf.size, q1, q2])
 go_simp
 apply Z.out; clear Z K
 refine fp fun K Z => ?_
 go_simp
 apply Z.out; clear Z K
 refine Fact.z hf fun fr1 hf1 hT => ?_
 have hKp : _ ∧ _ ∧ _ ∧ _ ∧ _ := ⟨hT 1, hT 2, hT 3, hT 4, hT 14⟩
 simp (decide := true) only [Fact.G, hf.size, reduceIte, s1, s2, s3, s4] at hKp
 replace hf := hf1; clear hT hf1 s1 s2 s3 s4 b6 b7 b8 b9 b10 b11 b12 b13
 obtain ⟨s1, s2, s3, s4, s14⟩ := hKp
 refine nx (hK6 _ _ ?_)
 refine Fact.cond_t s14 ?_
 clear q1 q2
 obtain ⟨x, hx⟩ : ∃ x, d.letters[j]? = some x := ⟨_, List.getElem?_eq_getElem hlt⟩
 obtain ⟨b, off, rfl, hbb, z0⟩ := (hru0.below hbr).at_ hx
 have hx8 := HX.out x (List.mem_of_getElem? hx)
 have hst : dbody (d.letters.take (j + 1)) = dbody (d.letters.take j) ++ strOfNums [dletter x] := by rw [List.take_add_one, hx]; exact dbody_snoc _ _
 have hds : (dbody (d.letters.take j)).size ≤ 9 := by rw [dbody_size]; simp; omega
 have h1s : (strOfNums [dletter x]).size ≤ 1 := Nat.le_of_eq (strOf1 _)
 have HST := Lib.hid hst; clear hst hx
 refine wp_skip ?_
 refine nx (hK5 _ _ ?_)
 refine Fact.sq fun K7 hK7 => ?_
 refine wp_block ?_
 refine Fact.sq fun K8 hK8 => ?_
 refine rg ?_
 have b17 := hf.b 17
 have b18 := hf.b 18
 have b19 := hf.b 19
 have b20 := hf.b 20
 have b21 := hf.b 21
 refine fp fun K Z => ?_
 go_simp
 apply Z.out; clear Z K
 refine fp fun K Z => ?_
 go_simp
 apply Z.out; clear Z K
 refine fp fun K Z => ?_
 go_simp
 apply Z.out; clear Z K
 refine fp fun K Z => ?_
 go_simp
 try rw [if_pos (by omega)]
 apply Z.out; clear Z K
 refine fp fun K Z => ?_
 go_simp
 apply Z.out; clear Z K
 refine fp fun K Z => ?_
 go_simp
 apply Z.out; clear Z K
 refine Fact.z hf fun fr1 hf1 hT => ?_
 have hKp : _ ∧ _ ∧ _ ∧ _ ∧ _ := ⟨hT 1, hT 2, hT 3, hT 4, hT 5⟩
 simp (decide := true) only [Fact.G, hf.size, reduceIte, s1, s2, s3, s4] at hKp
 replace hf := hf1; clear hT hf1 s1 s2 s3 s4 s14 b17 b18 b19 b20 b21
 obtain ⟨s1, s2, s3, s4, s5⟩ := hKp
 refine nx (hK8 _ _ ?_)
 refine Fact.sq fun K9 hK9 => ?_
 refine Fact.sq fun K10 hK10 => ?_
 refine rg ?_
 have b22 := hf.b 22
 have b23 := hf.b 23
 refine fp fun K Z => ?_
 go_simp
 apply Z.out; clear Z K
 refine fp fun K Z => ?_
 go_simp
 rw [Int.tmod_eq_emod_of_nonneg hx8.1]
 apply Z.out; clear Z K
 refine fp fun K Z => ?_
 go_simp
 apply Z.out; clear Z K
 refine Fact.z hf fun fr1 hf1 hT => ?_
 have hKp : _ ∧ _ ∧ _ ∧ _ ∧ _ ∧ _ := ⟨hT 1, hT 2, hT 3, hT 4, hT 5, hT 24⟩
 simp (decide := true) only [Fact.G, hf.size, reduceIte, s1, s2, s3, s4, s5] at hKp
 replace hf := hf1; clear hT hf1 s1 s2 s3 s4 s5 b22 b23
 obtain ⟨s1, s2, s3, s4, s5, s24⟩ := hKp
 refine nx (hK10 _ _ ?_)
 refine Fact.cond_s s24 (fun hq7 => ?_) (fun hq7 => ?_)
 · (
 have HQ := Lib.hid hq7; clear hq7
 have h7 := of_decide_eq_true HQ.out
 have hdl : dletter x = 97 + x % 8 % 3 := if_pos h7
 rw [hdl] at h1s
 have HDL := Lib.hid hdl; clear hdl
 refine rg ?_
 have b25 := hf.b 25
 have b26 := hf.b 26
 have b27 := hf.b 27
 have b28 := hf.b 28
 refine fp fun K Z => ?_
 go_simp
 apply Z.out; clear Z K
 refine fp fun K Z => ?_
 go_simp
 rw [Int.tmod_eq_emod_of_nonneg hx8.1]
 apply Z.out; clear Z K
 refine fp fun K Z => ?_
 go_simp
 rw [Int.tmod_eq_emod_of_nonneg (show 0 ≤ x % 8 by omega)]
 apply Z.out; clear Z K
 refine fp fun K Z => ?_
 go_simp
 try simp (disch := omega) only [Fact.W]
 try simp (disch := omega) only [Fact.wrap_u8]
 apply Z.out; clear Z K
 refine fp fun K Z => ?_
 go_simp
 apply Z.out; clear Z K
 refine Fact.z hf fun fr1 hf1 hT => ?_
 have hKp : _ ∧ _ ∧ _ ∧ _ ∧ _ := ⟨hT 1, hT 2, hT 3, hT 4, hT 5⟩
 simp (decide := true) only [Fact.G, hf.size, reduceIte, s1, s2, s3, s4] at hKp
 replace hf := hf1; clear hT hf1 s1 s2 s3 s4 s5 s24 b25 b26 b27 b28
 obtain ⟨s1, s2, s3, s4, s5⟩ := hKp
 refine nx (hK9 _ _ ?_)
 refine rg ?_
 have b29 := hf.b 29
 have b30 := hf.b 30
 have b31 := hf.b 31
 have b32 := hf.b 32
 have b33 := hf.b 33
 refine fp fun K Z => ?_
 go_simp
 apply Z.out; clear Z K
 refine fp fun K Z => ?_
 go_simp
 apply Z.out; clear Z K
 refine fp fun K Z => ?_
 go_simp
 apply Z.out; clear Z K
 refine fp fun K Z => ?_
 go_simp
 apply Z.out; clear Z K
 refine fp fun K Z => ?_
 go_simp
 try simp (disch := omega) only [Fact.W]
 rw [if_neg (by omega), Oper.upon_value]
 apply Z.out; clear Z K
 refine fp fun K Z => ?_
 go_simp
 apply Z.out; clear Z K
 refine Fact.z hf fun fr1 hf1 hT => ?_
 have hKp : _ ∧ _ ∧ _ ∧ _ := ⟨hT 1, hT 2, hT 3, hT 4⟩
 simp (decide := true) only [Fact.G, hf.size, reduceIte, s1, s2, s4] at hKp
 replace hf := hf1; clear hT hf1 s1 s2 s3 s4 s5 b29 b30 b31 b32 b33
 obtain ⟨s1, s2, s3, s4⟩ := hKp
 refine Fact.block_normal ?_
 refine nx (hK7 _ _ ?_)
 refine rg ?_
 have b15 := hf.b 15
 have b16 := hf.b 16
 refine fp fun K Z => ?_
 go_simp
 apply Z.out; clear Z K
 refine fp fun K Z => ?_
 go_simp
 try simp (disch := omega) only [Fact.W]
 apply Z.out; clear Z K
 refine fp fun K Z => ?_
 go_simp
 apply Z.out; clear Z K
 refine Fact.z hf fun fr1 hf1 hT => ?_
 have hKp : _ ∧ _ ∧ _ ∧ _ := ⟨hT 1, hT 2, hT 3, hT 4⟩
 simp (decide := true) only [Fact.G, hf.size, reduceIte, s1, s2, s3] at hKp
 replace hf := hf1; clear hT hf1 s1 s2 s3 s4 b15 b16
 obtain ⟨s1, s2, s3, s4⟩ := hKp
 refine Fact.then_normal ?_
 refine ⟨9 - (j + 1), by have := HK.out; omega, j + 1, rfl, by omega, by omega, hf, s1, s2, ?_, by rw [s4]; rfl, hb.alloc hb.size _⟩
 rw [s3, HST.out, HDL.out])
 · (
 have HQ := Lib.hid hq7; clear hq7
 have h7 := of_decide_eq_false HQ.out
 have hdl : dletter x = x := if_neg h7
 rw [hdl] at h1s
 have HDL := Lib.hid hdl; clear hdl
 refine wp_skip ?_
 refine nx (hK9 _ _ ?_)
 refine rg ?_
 have b29 := hf.b 29
 have b30 := hf.b 30
 have b31 := hf.b 31
 have b32 := hf.b 32
 have b33 := hf.b 33
 refine fp fun K Z => ?_
 go_simp
 apply Z.out; clear Z K
 refine fp fun K Z => ?_
 go_simp
 apply Z.out; clear Z K
 refine fp fun K Z => ?_
 go_simp
 apply Z.out; clear Z K
 refine fp fun K Z => ?_
 go_simp
 apply Z.out; clear Z K
 refine fp fun K Z => ?_
 go_simp
 try simp (disch := omega) only [Fact.W]
 rw [if_neg (by omega), Oper.upon_value]
 apply Z.out; clear Z K
 refine fp fun K Z => ?_
 go_simp
 apply Z.out; clear Z K
 refine Fact.z hf fun fr1 hf1 hT => ?_
 have hKp : _ ∧ _ ∧ _ ∧ _ := ⟨hT 1, hT 2, hT 3, hT 4⟩
 simp (decide := true) only [Fact.G, hf.size, reduceIte, s1, s2, s4] at hKp
 replace hf := hf1; clear hT hf1 s1 s2 s3 s4 s5 s24 b29 b30 b31 b32 b33
 obtain ⟨s1, s2, s3, s4⟩ := hKp
 refine Fact.block_normal ?_
 refine nx (hK7 _ _ ?_)
 refine rg ?_
 have b15 := hf.b 15
 have b16 := hf.b 16
 refine fp fun K Z => ?_
 go_simp
 apply Z.out; clear Z K
 refine fp fun K Z => ?_
 go_simp
 try simp (disch := omega) only [Fact.W]
 apply Z.out; clear Z K
 refine fp fun K Z => ?_
 go_simp
 apply Z.out; clear Z K
 refine Fact.z hf fun fr1 hf1 hT => ?_
 have hKp : _ ∧ _ ∧ _ ∧ _ := ⟨hT 1, hT 2, hT 3, hT 4⟩
 simp (decide := true) only [Fact.G, hf.size, reduceIte, s1, s2, s3] at hKp
 replace hf := hf1; clear hT hf1 s1 s2 s3 s4 b15 b16
 obtain ⟨s1, s2, s3, s4⟩ := hKp
 refine Fact.then_normal ?_
 refine ⟨9 - (j + 1), by have := HK.out; omega, j + 1, rfl, by omega, by omega, hf, s1, s2, ?_, by rw [s4]; rfl, hb.alloc hb.size _⟩
 rw [s3, HST.out, HDL.out]))
 · (
 have q1 : decide (j < d.letters.length) = true := decide_eq_true (by omega)
 have q2 : decide ((j : Int) < 9) = false := decide_eq_false (by omega)
 have he : d.letters.take j = d.letters.take 9 := by rw [show j = 9 by omega]
 rw [he] at s3
 clear he
 refine Fact.sq fun K11 hK11 => ?_
 refine Fact.sq fun K12 hK12 => ?_
 refine rg ?_
 have b6 := hf.b 6
 have b7 := hf.b 7
 have b8 := hf.b 8
 have b9 := hf.b 9
 have b10 := hf.b 10
 have b11 := hf.b 11
 have b12 := hf.b 12
 have b13 := hf.b 13
 refine fp fun K Z => ?_
 go_simp
 apply Z.out; clear Z K
 refine fp fun K Z => ?_
 go_simp
 apply Z.out; clear Z K
 refine fp fun K Z => ?_
 go_simp
 apply Z.out; clear Z K
 refine fp fun K Z => ?_
 go_simp
 apply Z.out; clear Z K
 refine fp fun K Z => ?_
 go_simp
 apply Z.out; clear Z K
 refine fp fun K Z => ?_
 go_simp
 apply Z.out; clear Z K
 refine og 5 11 true ?_ fun K Z => ?_
 · (
 simp (decide := true) only [Fact.G, reduceIte, hf.size, q1, q2])
 go_simp
 apply Z.out; clear Z K
 refine og 5 11 true ?_ fun K Z => ?_
 · (
 simp (decide := true) only [Fact.G, reduceIte, hf.size, q1, q2])
 go_simp
 apply Z.out; clear Z K
 refine fp fun K Z => ?_
 go_simp
 apply Z.out; clear Z K
 refine Fact.z hf fun fr1 hf1 hT => ?_
 have hKp : _ ∧ _ ∧ _ ∧ _ ∧ _ := ⟨hT 1, hT 2, hT 3, hT 4, hT 14⟩
 simp (decide := true) only [Fact.G, hf.size, reduceIte, s1, s2, s3, s4] at hKp
 replace hf := hf1; clear hT hf1 s1 s2 s3 s4 b6 b7 b8 b9 b10 b11 b12 b13
 obtain ⟨s1, s2, s3, s4, s14⟩ := hKp
 refine nx (hK12 _ _ ?_)
 refine Fact.cond_f s14 ?_
 clear q1 q2
 have y1 := cL hb x1; have y2 := cL hb x2
 have hpr := (hb.block _ hz1).trans hp
 obtain ⟨S, hS⟩ : ∃ x, dbody (d.letters.take 9) = x := ⟨_, rfl⟩
 rw [hS] at s3
 have HS := Lib.hid hS; clear hS y0
 refine wp_exit ?_
 refine Fact.then_exit ?_
 refine Fact.then_exit ?_
 refine Fact.block_exit ?_
 refine nx (hK3 _ _ ?_)
 refine Fact.sq fun K13 hK13 => ?_
 refine Fact.sq fun K14 hK14 => ?_
 refine rg ?_
 have b34 := hf.b 34
 refine fp fun K Z => ?_
 go_simp
 apply Z.out; clear Z K
 refine fp fun K Z => ?_
 go_simp
 apply Z.out; clear Z K
 refine Fact.z hf fun fr1 hf1 hT => ?_
 have hKp : _ ∧ _ ∧ _ ∧ _ := ⟨hT 1, hT 2, hT 3, hT 35⟩
 simp (decide := true) only [Fact.G, hf.size, reduceIte, s1, s2, s3] at hKp
 replace hf := hf1; clear hT hf1 s1 s2 s3 s4 s14 b34
 obtain ⟨s1, s2, s3, s35⟩ := hKp
 refine nx (hK14 _ _ ?_)
 refine Fact.cond_s s35 (fun hqe => ?_) (fun hqe => ?_)
 · (
 have HE := Lib.hid hqe; clear hqe
 have hwd : dword d.letters = ⟨#[97]⟩ := by unfold dword; rw [HS.out]; exact if_pos (List.isEmpty_iff.1 HE.out)
 have HW := Lib.hid hwd; clear hwd
 refine rg ?_
 refine fp fun K Z => ?_
 go_simp
 apply Z.out; clear Z K
 refine Fact.z hf fun fr1 hf1 hT => ?_
 have hKp : _ ∧ _ ∧ _ := ⟨hT 1, hT 2, hT 3⟩
 simp (decide := true) only [Fact.G, hf.size, reduceIte, s1, s2] at hKp
 replace hf := hf1; clear hT hf1 s1 s2 s3 s35
 obtain ⟨s1, s2, s3⟩ := hKp
 refine nx (hK13 _ _ ?_)
 refine Fact.sq fun K15 hK15 => ?_
 refine rg ?_
 have b36 := hf.b 36
 have b37 := hf.b 37
 have b38 := hf.b 38
 have b39 := hf.b 39
 have b40 := hf.b 40
 have b41 := hf.b 41
 have b42 := hf.b 42
 refine fp fun K Z => ?_
 go_simp
 apply Z.out; clear Z K
 refine fp fun K Z => ?_
 go_simp
 apply Z.out; clear Z K
 refine fp fun K Z => ?_
 go_simp
 apply Z.out; clear Z K
 refine fp fun K Z => ?_
 go_simp
 apply Z.out; clear Z K
 refine fp fun K Z => ?_
 go_simp
 apply Z.out; clear Z K
 refine fp fun K Z => ?_
 go_simp
 apply Z.out; clear Z K
 refine fp fun K Z => ?_
 go_simp
 go_at_call 37; refine (bare wr ⟨⟨#[97]⟩, d.weight, d.gone⟩).mono ?_; rintro e w5 ⟨rfl, hb5⟩
 have hp5 := (hb5.block _ (heap_lt hpr)).trans hpr
 have g0 := cell_of_row _ _ 0 _ 42 (0, 0) hp5; have g1 := cell_of_row _ _ 1 _ 42 (0, 0) hp5; have g2 := cell_of_row _ _ 2 _ 42 (0, 0) hp5
 have fz0 := frozen_of (i := 0) hp5; have fz1 := frozen_of (i := 1) hp5; have fz2 := frozen_of (i := 2) hp5
 obtain ⟨E5, hE5⟩ : ∃ x, bareE ⟨⟨#[97]⟩, d.weight, d.gone⟩ = x := ⟨_, rfl⟩
 rw [hE5]
 have HE5 := Lib.hid hE5; clear hE5
 simp only [eval]
 simp at g0 g1 g2
 try dsimp only
 apply Z.out; clear Z K
 refine fp fun K Z => ?_
 go_simp
 apply Z.out; clear Z K
 refine Fact.z hf fun fr1 hf1 hT => ?_
 have hKp := hT 2
 simp (decide := true) only [Fact.G, reduceIte, s2] at hKp
 replace hf := hf1; clear hT hf1 s1 s2 s3 b36 b37 b38 b39 b40 b41 b42
 have s2 := hKp; clear hKp
 refine nx (hK15 _ _ ?_)
 refine wp_ret ?_
 have hbz := hbr.trans (hb5.mono hbr.size)
 refine ret_c rfl hf s2 (set_block (set_block (set_block hp5 _) _) _) Tryd.underlying42 rfl (by kernel_rfl) ⟨?_, ((hbz.setCell (p := ⟨w.heap.size + 1, 0, none⟩) (Nat.le_succ _) _).setCell (p := ⟨w.heap.size + 1, 1, none⟩) (Nat.le_succ _) _).setCell (p := ⟨w.heap.size + 1, 2, none⟩) (Nat.le_succ _) _⟩
 unfold Dra.ent; rw [HW.out, HE5.out]; rfl)
 · (
 have HE := Lib.hid hqe; clear hqe
 have hwd : dword d.letters = S := by unfold dword; rw [HS.out]; exact if_neg (fun h => by have := HE.out; rw [h] at this; cases this)
 have HW := Lib.hid hwd; clear hwd
 refine wp_skip ?_
 refine nx (hK13 _ _ ?_)
 refine Fact.sq fun K16 hK16 => ?_
 refine rg ?_
 have b36 := hf.b 36
 have b37 := hf.b 37
 have b38 := hf.b 38
 have b39 := hf.b 39
 have b40 := hf.b 40
 have b41 := hf.b 41
 have b42 := hf.b 42
 refine fp fun K Z => ?_
 go_simp
 apply Z.out; clear Z K
 refine fp fun K Z => ?_
 go_simp
 apply Z.out; clear Z K
 refine fp fun K Z => ?_
 go_simp
 apply Z.out; clear Z K
 refine fp fun K Z => ?_
 go_simp
 apply Z.out; clear Z K
 refine fp fun K Z => ?_
 go_simp
 apply Z.out; clear Z K
 refine fp fun K Z => ?_
 go_simp
 apply Z.out; clear Z K
 refine fp fun K Z => ?_
 go_simp
 go_at_call 37; refine (bare wr ⟨S, d.weight, d.gone⟩).mono ?_; rintro e w5 ⟨rfl, hb5⟩
 have hp5 := (hb5.block _ (heap_lt hpr)).trans hpr
 have g0 := cell_of_row _ _ 0 _ 42 (0, 0) hp5; have g1 := cell_of_row _ _ 1 _ 42 (0, 0) hp5; have g2 := cell_of_row _ _ 2 _ 42 (0, 0) hp5
 have fz0 := frozen_of (i := 0) hp5; have fz1 := frozen_of (i := 1) hp5; have fz2 := frozen_of (i := 2) hp5
 obtain ⟨E5, hE5⟩ : ∃ x, bareE ⟨S, d.weight, d.gone⟩ = x := ⟨_, rfl⟩
 rw [hE5]
 have HE5 := Lib.hid hE5; clear hE5
 simp only [eval]
 simp at g0 g1 g2
 try dsimp only
 apply Z.out; clear Z K
 refine fp fun K Z => ?_
 go_simp
 apply Z.out; clear Z K
 refine Fact.z hf fun fr1 hf1 hT => ?_
 have hKp := hT 2
 simp (decide := true) only [Fact.G, reduceIte, s2] at hKp
 replace hf := hf1; clear hT hf1 s1 s2 s3 s35 b36 b37 b38 b39 b40 b41 b42
 have s2 := hKp; clear hKp
 refine nx (hK16 _ _ ?_)
 refine wp_ret ?_
 have hbz := hbr.trans (hb5.mono hbr.size)
 refine ret_c rfl hf s2 (set_block (set_block (set_block hp5 _) _) _) Tryd.underlying42 rfl (by kernel_rfl) ⟨?_, ((hbz.setCell (p := ⟨w.heap.size + 1, 0, none⟩) (Nat.le_succ _) _).setCell (p := ⟨w.heap.size + 1, 1, none⟩) (Nat.le_succ _) _).setCell (p := ⟨w.heap.size + 1, 2, none⟩) (Nat.le_succ _) _⟩
 unfold Dra.ent; rw [HW.out, HE5.out]; rfl)))
 · (
 have q1 : decide (j < d.letters.length) = false := decide_eq_false (by omega)
 have he : d.letters.take j = d.letters.take 9 := by rw [List.take_of_length_le (by omega), List.take_of_length_le (by omega)]
 rw [he] at s3
 clear he
 refine Fact.sq fun K17 hK17 => ?_
 refine Fact.sq fun K18 hK18 => ?_
 refine rg ?_
 have b6 := hf.b 6
 have b7 := hf.b 7
 have b8 := hf.b 8
 have b9 := hf.b 9
 have b10 := hf.b 10
 have b11 := hf.b 11
 have b12 := hf.b 12
 have b13 := hf.b 13
 refine fp fun K Z => ?_
 go_simp
 apply Z.out; clear Z K
 refine fp fun K Z => ?_
 go_simp
 apply Z.out; clear Z K
 refine fp fun K Z => ?_
 go_simp
 apply Z.out; clear Z K
 refine fp fun K Z => ?_
 go_simp
 apply Z.out; clear Z K
 refine fp fun K Z => ?_
 go_simp
 apply Z.out; clear Z K
 refine fp fun K Z => ?_
 go_simp
 apply Z.out; clear Z K
 refine sk 5 11 true ?_ ?_
 · (
 simp (decide := true) only [Fact.G, reduceIte, hf.size, q1, Fact.N])
 refine sk 5 11 true ?_ ?_
 · (
 simp (decide := true) only [Fact.G, reduceIte, hf.size, q1, Fact.N])
 refine fp fun K Z => ?_
 go_simp
 apply Z.out; clear Z K
 refine Fact.z hf fun fr1 hf1 hT => ?_
 have hKp : _ ∧ _ ∧ _ ∧ _ ∧ _ := ⟨hT 1, hT 2, hT 3, hT 4, hT 14⟩
 simp (decide := true) only [Fact.G, hf.size, reduceIte, s1, s2, s3, s4] at hKp
 replace hf := hf1; clear hT hf1 s1 s2 s3 s4 b6 b7 b8 b9 b10 b11 b12 b13
 obtain ⟨s1, s2, s3, s4, s14⟩ := hKp
 refine nx (hK18 _ _ ?_)
 refine Fact.cond_f s14 ?_
 clear q1
 have y1 := cL hb x1; have y2 := cL hb x2
 have hpr := (hb.block _ hz1).trans hp
 obtain ⟨S, hS⟩ : ∃ x, dbody (d.letters.take 9) = x := ⟨_, rfl⟩
 rw [hS] at s3
 have HS := Lib.hid hS; clear hS y0
 refine wp_exit ?_
 refine Fact.then_exit ?_
 refine Fact.then_exit ?_
 refine Fact.block_exit ?_
 refine nx (hK3 _ _ ?_)
 refine Fact.sq fun K19 hK19 => ?_
 refine Fact.sq fun K20 hK20 => ?_
 refine rg ?_
 have b34 := hf.b 34
 refine fp fun K Z => ?_
 go_simp
 apply Z.out; clear Z K
 refine fp fun K Z => ?_
 go_simp
 apply Z.out; clear Z K
 refine Fact.z hf fun fr1 hf1 hT => ?_
 have hKp : _ ∧ _ ∧ _ ∧ _ := ⟨hT 1, hT 2, hT 3, hT 35⟩
 simp (decide := true) only [Fact.G, hf.size, reduceIte, s1, s2, s3] at hKp
 replace hf := hf1; clear hT hf1 s1 s2 s3 s4 s14 b34
 obtain ⟨s1, s2, s3, s35⟩ := hKp
 refine nx (hK20 _ _ ?_)
 refine Fact.cond_s s35 (fun hqe => ?_) (fun hqe => ?_)
 · (
 have HE := Lib.hid hqe; clear hqe
 have hwd : dword d.letters = ⟨#[97]⟩ := by unfold dword; rw [HS.out]; exact if_pos (List.isEmpty_iff.1 HE.out)
 have HW := Lib.hid hwd; clear hwd
 refine rg ?_
 refine fp fun K Z => ?_
 go_simp
 apply Z.out; clear Z K
 refine Fact.z hf fun fr1 hf1 hT => ?_
 have hKp : _ ∧ _ ∧ _ := ⟨hT 1, hT 2, hT 3⟩
 simp (decide := true) only [Fact.G, hf.size, reduceIte, s1, s2] at hKp
 replace hf := hf1; clear hT hf1 s1 s2 s3 s35
 obtain ⟨s1, s2, s3⟩ := hKp
 refine nx (hK19 _ _ ?_)
 refine Fact.sq fun K21 hK21 => ?_
 refine rg ?_
 have b36 := hf.b 36
 have b37 := hf.b 37
 have b38 := hf.b 38
 have b39 := hf.b 39
 have b40 := hf.b 40
 have b41 := hf.b 41
 have b42 := hf.b 42
 refine fp fun K Z => ?_
 go_simp
 apply Z.out; clear Z K
 refine fp fun K Z => ?_
 go_simp
 apply Z.out; clear Z K
 refine fp fun K Z => ?_
 go_simp
 apply Z.out; clear Z K
 refine fp fun K Z => ?_
 go_simp
 apply Z.out; clear Z K
 refine fp fun K Z => ?_
 go_simp
 apply Z.out; clear Z K
 refine fp fun K Z => ?_
 go_simp
 apply Z.out; clear Z K
 refine fp fun K Z => ?_
 go_simp
 go_at_call 37; refine (bare wr ⟨⟨#[97]⟩, d.weight, d.gone⟩).mono ?_; rintro e w5 ⟨rfl, hb5⟩
 have hp5 := (hb5.block _ (heap_lt hpr)).trans hpr
 have g0 := cell_of_row _ _ 0 _ 42 (0, 0) hp5; have g1 := cell_of_row _ _ 1 _ 42 (0, 0) hp5; have g2 := cell_of_row _ _ 2 _ 42 (0, 0) hp5
 have fz0 := frozen_of (i := 0) hp5; have fz1 := frozen_of (i := 1) hp5; have fz2 := frozen_of (i := 2) hp5
 obtain ⟨E5, hE5⟩ : ∃ x, bareE ⟨⟨#[97]⟩, d.weight, d.gone⟩ = x := ⟨_, rfl⟩
 rw [hE5]
 have HE5 := Lib.hid hE5; clear hE5
 simp only [eval]
 simp at g0 g1 g2
 try dsimp only
 apply Z.out; clear Z K
 refine fp fun K Z => ?_
 go_simp
 apply Z.out; clear Z K
 refine Fact.z hf fun fr1 hf1 hT => ?_
 have hKp := hT 2
 simp (decide := true) only [Fact.G, reduceIte, s2] at hKp
 replace hf := hf1; clear hT hf1 s1 s2 s3 b36 b37 b38 b39 b40 b41 b42
 have s2 := hKp; clear hKp
 refine nx (hK21 _ _ ?_)
 refine wp_ret ?_
 have hbz := hbr.trans (hb5.mono hbr.size)
 refine ret_c rfl hf s2 (set_block (set_block (set_block hp5 _) _) _) Tryd.underlying42 rfl (by kernel_rfl) ⟨?_, ((hbz.setCell (p := ⟨w.heap.size + 1, 0, none⟩) (Nat.le_succ _) _).setCell (p := ⟨w.heap.size + 1, 1, none⟩) (Nat.le_succ _) _).setCell (p := ⟨w.heap.size + 1, 2, none⟩) (Nat.le_succ _) _⟩
 unfold Dra.ent; rw [HW.out, HE5.out]; rfl)
 · (
 have HE := Lib.hid hqe; clear hqe
 have hwd : dword d.letters = S := by unfold dword; rw [HS.out]; exact if_neg (fun h => by have := HE.out; rw [h] at this; cases this)
 have HW := Lib.hid hwd; clear hwd
 refine wp_skip ?_
 refine nx (hK19 _ _ ?_)
 refine Fact.sq fun K22 hK22 => ?_
 refine rg ?_
 have b36 := hf.b 36
 have b37 := hf.b 37
 have b38 := hf.b 38
 have b39 := hf.b 39
 have b40 := hf.b 40
 have b41 := hf.b 41
 have b42 := hf.b 42
 refine fp fun K Z => ?_
 go_simp
 apply Z.out; clear Z K
 refine fp fun K Z => ?_
 go_simp
 apply Z.out; clear Z K
 refine fp fun K Z => ?_
 go_simp
 apply Z.out; clear Z K
 refine fp fun K Z => ?_
 go_simp
 apply Z.out; clear Z K
 refine fp fun K Z => ?_
 go_simp
 apply Z.out; clear Z K
 refine fp fun K Z => ?_
 go_simp
 apply Z.out; clear Z K
 refine fp fun K Z => ?_
 go_simp
 go_at_call 37; refine (bare wr ⟨S, d.weight, d.gone⟩).mono ?_; rintro e w5 ⟨rfl, hb5⟩
 have hp5 := (hb5.block _ (heap_lt hpr)).trans hpr
 have g0 := cell_of_row _ _ 0 _ 42 (0, 0) hp5; have g1 := cell_of_row _ _ 1 _ 42 (0, 0) hp5; have g2 := cell_of_row _ _ 2 _ 42 (0, 0) hp5
 have fz0 := frozen_of (i := 0) hp5; have fz1 := frozen_of (i := 1) hp5; have fz2 := frozen_of (i := 2) hp5
 obtain ⟨E5, hE5⟩ : ∃ x, bareE ⟨S, d.weight, d.gone⟩ = x := ⟨_, rfl⟩
 rw [hE5]
 have HE5 := Lib.hid hE5; clear hE5
 simp only [eval]
 simp at g0 g1 g2
 try dsimp only
 apply Z.out; clear Z K
 refine fp fun K Z => ?_
 go_simp
 apply Z.out; clear Z K
 refine Fact.z hf fun fr1 hf1 hT => ?_
 have hKp := hT 2
 simp (decide := true) only [Fact.G, reduceIte, s2] at hKp
 replace hf := hf1; clear hT hf1 s1 s2 s3 s35 b36 b37 b38 b39 b40 b41 b42
 have s2 := hKp; clear hKp
 refine nx (hK22 _ _ ?_)
 refine wp_ret ?_
 have hbz := hbr.trans (hb5.mono hbr.size)
 refine ret_c rfl hf s2 (set_block (set_block (set_block hp5 _) _) _) Tryd.underlying42 rfl (by kernel_rfl) ⟨?_, ((hbz.setCell (p := ⟨w.heap.size + 1, 0, none⟩) (Nat.le_succ _) _).setCell (p := ⟨w.heap.size + 1, 1, none⟩) (Nat.le_succ _) _).setCell (p := ⟨w.heap.size + 1, 2, none⟩) (Nat.le_succ _) _⟩
 unfold Dra.ent; rw [HW.out, HE5.out]; rfl)))
end Dw
end Go.Proofs.YtgjfhedgdbbinaaDoor
