/- Dawg: works. -/
import Derived.Test.YtgjfhedgdbbinaaDoorDMade
import Derived.Test.YtgjfhedgdbbinaaDoorDR1
namespace Go.Proofs.YtgjfhedgdbbinaaDoor
open Go.RowKit
set_option linter.unusedSimpArgs false
set_option linter.unusedVariables false
set_option linter.unnecessarySimpa false
namespace Dw

theorem RE.nil_ {w : World} {B : Nat} : RE w B (.slice none 0 0) [] := ⟨none, 0, rfl, by simp, fun h => absurd h (by simp)⟩
theorem okE_all (es : List Ent) (h : es.all (fun e => decide (0 ≤ e.weight) && decide (e.weight < 4294967296)) = true) : ∀ e ∈ es, okE e := by
  intro e he
  have := List.all_eq_true.1 h e he
  rw [Bool.and_eq_true] at this
  exact ⟨of_decide_eq_true this.1, of_decide_eq_true this.2⟩
def chkL2 : Option (List Nat) → List Ent → Nat
  | _, [] => 0
  | p, e :: l => if (decide (1 ≤ e.word.size) && decide (e.word.size ≤ 255)) = true then (if (match p with | none => true | some q => lexlt q (wl e.word)) = true then chkL2 (some (wl e.word)) l else 15) else 7
theorem chkL_eq : ∀ (l : List Ent) (p : Option (List Nat)), chkL p l = chkL2 p l
  | [], _ => rfl
  | e :: l, p => by
    simp only [chkL, chkL2, okW_eq]
    rw [chkL_eq l]
    cases p <;> rfl
theorem chk_zero (es : List Ent) (h : chkL2 none es = 0) : chkN es = 0 := (chkL_eq es none).trans h
theorem chk_val (es : List Ent) (n : Nat) (h : chkL2 none es = n) : chkN es = n := (chkL_eq es none).trans h
theorem box3set {w W : World} {x y z x' y' z' : Value} {t : TypeId} (h : (((w.alloc (.cells #[x, y, z] t)).setCell ⟨w.heap.size, 0, none⟩ x').setCell ⟨w.heap.size, 1, none⟩ y').setCell ⟨w.heap.size, 2, none⟩ z' = W) : Below w.heap.size w W ∧ W.cell? ⟨w.heap.size, 0, none⟩ = some x' ∧ W.cell? ⟨w.heap.size, 1, none⟩ = some y' ∧ W.cell? ⟨w.heap.size, 2, none⟩ = some z' := by
  subst h
  have h1 := heap_alloc_new w (.cells #[x, y, z] t)
  have h2 := set_block (g := w.heap.size) (i := 0) h1 x'
  have h3 := set_block (i := 1) h2 y'
  have h4 := set_block (i := 2) h3 z'
  have hb := ((((Below.refl w.heap.size w).alloc (Nat.le_refl _) (.cells #[x, y, z] t)).setCell (p := ⟨w.heap.size, 0, none⟩) (Nat.le_refl _) x').setCell (p := ⟨w.heap.size, 1, none⟩) (Nat.le_refl _) y').setCell (p := ⟨w.heap.size, 2, none⟩) (Nat.le_refl _) z'
  exact ⟨hb, cell_of_row _ _ 0 _ t (0, 0) h4, cell_of_row _ _ 1 _ t (0, 0) h4, cell_of_row _ _ 2 _ t (0, 0) h4⟩
set_option maxHeartbeats 4000000 in
set_option maxRecDepth 100000 in
theorem works6 (w : World)  : Calls Tryd.prog 6 #[] w fun e w1 => e = .returned (.bool true) ∧ Below w.heap.size w w1 := by
 refine calls_of_wp Tryd.func6 rfl ?_
 refine Fact.enter (n := 46) (by kernel_rfl) (fun fr hf hT => ?_)
 clear hT
 refine wp_seq_k (fun K1 hK1 => ?_)
 refine Fact.region ?_
 refine Fact.p rfl fun K hK => ?_
 go_simp
 refine hK.out _ _ ?_; clear hK K
 refine Fact.nil ?_
 refine Fact.q hf (by simp only [Fact.G]) rfl fun fr1 hf1 hT => ?_
 have hKp := hT 0
 simp only [Fact.G, Nat.reduceEqDiff, Nat.reduceLT, hf.size, reduceIte] at hKp
 clear hT hf
 have s0 := hKp; clear hKp
 have hf := hf1; clear hf1
 refine Fact.nx (hK1 _ _ ?_)
 refine wp_seq_k (fun K2 hK2 => ?_)
 refine Fact.region ?_
 have b2 := hf.l 2 rfl
 have b1 := hf.l 1 rfl
 refine Fact.p rfl fun K hK => ?_
 go_simp
 refine hK.out _ _ ?_; clear hK K
 refine Fact.p rfl fun K hK => ?_
 go_simp
 refine hK.out _ _ ?_; clear hK K
 refine Fact.p rfl fun K hK => ?_
 go_simp
 refine hK.out _ _ ?_; clear hK K
 refine Fact.nil ?_
 refine Fact.q hf (by simp only [Fact.G]) rfl fun fr1 hf1 hT => ?_
 have hKp : _ ∧ _ := ⟨hT 0, hT 1⟩
 simp only [Fact.G, Nat.reduceEqDiff, Nat.reduceLT, hf.size, reduceIte, s0] at hKp
 clear hT hf s0 b2 b1
 obtain ⟨s0, s1⟩ := hKp
 have hf := hf1; clear hf1
 obtain ⟨W1, hW1⟩ : ∃ x, w.alloc (.cells #[.slice none 0 0, .bool true, .int .u64 0] 61) = x := ⟨_, rfl⟩
 rw [hW1]
 obtain ⟨hbt, d0, d1, d2, -, -⟩ := box3 hW1
 clear hW1
 refine Fact.nx (hK2 _ _ ?_)
 refine wp_seq_k (fun K3 hK3 => ?_)
 refine Fact.region ?_
 have b3 := hf.l 3 rfl
 have b4 := hf.l 4 rfl
 have b5 := hf.l 5 rfl
 have b6 := hf.l 6 rfl
 have b7 := hf.l 7 rfl
 have b8 := hf.l 8 rfl
 have b9 := hf.l 9 rfl
 have b10 := hf.l 10 rfl
 have b11 := hf.l 11 rfl
 have b12 := hf.l 12 rfl
 have b13 := hf.l 13 rfl
 have b14 := hf.l 14 rfl
 have b15 := hf.l 15 rfl
 have b16 := hf.l 16 rfl
 have b17 := hf.l 17 rfl
 have b18 := hf.l 18 rfl
 have b19 := hf.l 19 rfl
 have b20 := hf.l 20 rfl
 have b21 := hf.l 21 rfl
 have b22 := hf.l 22 rfl
 have b23 := hf.l 23 rfl
 have b24 := hf.l 24 rfl
 have b25 := hf.l 25 rfl
 have b26 := hf.l 26 rfl
 have b27 := hf.l 27 rfl
 have b28 := hf.l 28 rfl
 have b29 := hf.l 29 rfl
 have b30 := hf.l 30 rfl
 have b31 := hf.l 31 rfl
 have b32 := hf.l 32 rfl
 have b33 := hf.l 33 rfl
 have b34 := hf.l 34 rfl
 have b35 := hf.l 35 rfl
 have b36 := hf.l 36 rfl
 have b37 := hf.l 37 rfl
 have b38 := hf.l 38 rfl
 have b39 := hf.l 39 rfl
 have b40 := hf.l 40 rfl
 have b41 := hf.l 41 rfl
 have b42 := hf.l 42 rfl
 have b43 := hf.l 43 rfl
 have b44 := hf.l 44 rfl
 have b45 := hf.l 45 rfl
 refine Fact.p rfl fun K hK => ?_
 go_simp
 refine hK.out _ _ ?_; clear hK K
 refine Fact.p rfl fun K hK => ?_
 go_simp
 obtain ⟨V1, hV1⟩ : ∃ x, World.alloc W1 (.cells #[.slice none 0 0, .bool false, .int .u64 0] 61) = x := ⟨_, rfl⟩
 rw [hV1]
 obtain ⟨bV1, x4⟩ := RS.lit hV1 [(.slice none 0 0, ⟨false, 0, []⟩)] rfl (fun x hx => by simp only [List.mem_cons, List.not_mem_nil, or_false] at hx; subst hx; all_goals first | exact RA.nil_)
 replace hbt := hbt.trans (bV1.mono hbt.size)
 replace d0 := cell_later bV1 d0
 replace d1 := cell_later bV1 d1
 replace d2 := cell_later bV1 d2
 clear hV1
 refine hK.out _ _ ?_; clear hK K
 refine Fact.p rfl fun K hK => ?_
 go_simp
 refine hK.out _ _ ?_; clear hK K
 refine Fact.p rfl fun K hK => ?_
 go_simp
 go_at_call 25; refine (made25 V1 [] 0 _ (RE.nil_ (B := 0)) (by decide) (okE_all _ (by kernel_rfl)) _ [⟨false, 0, []⟩] 0 x4 (by kernel_rfl) (chk_zero _ (by kernel_rfl)) (by kernel_rfl)).mono ?_; rintro e w3 ⟨rfl, hb3⟩
 replace hbt := hbt.trans (hb3.mono hbt.size)
 replace d0 := cell_later hb3 d0
 replace d1 := cell_later hb3 d1
 replace d2 := cell_later hb3 d2
 replace x4 := x4.later hb3
 dsimp only
 refine hK.out _ _ ?_; clear hK K
 refine Fact.p rfl fun K hK => ?_
 go_simp
 refine hK.out _ _ ?_; clear hK K
 refine Fact.op_guard (g := 4) (d := 7) (b := true) rfl rfl rfl ?_ (fun K hK => ?_)
 · (
 simp only [Fact.G, Nat.reduceEqDiff, Nat.reduceLT, reduceIte, hf.size])
 go_simp
 refine hK.out _ _ ?_; clear hK K
 refine Fact.op_guard (g := 4) (d := 7) (b := true) rfl rfl rfl ?_ (fun K hK => ?_)
 · (
 simp only [Fact.G, Nat.reduceEqDiff, Nat.reduceLT, reduceIte, hf.size])
 go_simp
 obtain ⟨V2, hV2⟩ : ∃ x, World.alloc w3 (.cells #[.string ⟨#[97]⟩, .int .u32 4, .bool false] 42) = x := ⟨_, rfl⟩
 rw [hV2]
 obtain ⟨bV2, x9⟩ := RE.lit hV2 [⟨⟨#[97]⟩, 4, false⟩] rfl
 replace hbt := hbt.trans (bV2.mono hbt.size)
 replace d0 := cell_later bV2 d0
 replace d1 := cell_later bV2 d1
 replace d2 := cell_later bV2 d2
 replace x4 := x4.later bV2
 clear hV2
 refine hK.out _ _ ?_; clear hK K
 refine Fact.op_guard (g := 4) (d := 7) (b := true) rfl rfl rfl ?_ (fun K hK => ?_)
 · (
 simp only [Fact.G, Nat.reduceEqDiff, Nat.reduceLT, reduceIte, hf.size])
 go_simp
 refine hK.out _ _ ?_; clear hK K
 refine Fact.op_guard (g := 4) (d := 7) (b := true) rfl rfl rfl ?_ (fun K hK => ?_)
 · (
 simp only [Fact.G, Nat.reduceEqDiff, Nat.reduceLT, reduceIte, hf.size])
 go_simp
 refine hK.out _ _ ?_; clear hK K
 refine Fact.op_guard (g := 4) (d := 7) (b := true) rfl rfl rfl ?_ (fun K hK => ?_)
 · (
 simp only [Fact.G, Nat.reduceEqDiff, Nat.reduceLT, reduceIte, hf.size])
 go_simp
 obtain ⟨V3, hV3⟩ : ∃ x, World.alloc V2 (.cells #[.int .u8 97, .int .u64 0, .int .i64 (0)] 63) = x := ⟨_, rfl⟩
 rw [hV3]
 obtain ⟨bV3, x12⟩ := RA.lit hV3 [⟨97, 0, 0⟩] rfl
 replace hbt := hbt.trans (bV3.mono hbt.size)
 replace d0 := cell_later bV3 d0
 replace d1 := cell_later bV3 d1
 replace d2 := cell_later bV3 d2
 replace x4 := x4.later bV3
 replace x9 := (x9.below bV3).any
 clear hV3
 refine hK.out _ _ ?_; clear hK K
 refine Fact.op_guard (g := 4) (d := 7) (b := true) rfl rfl rfl ?_ (fun K hK => ?_)
 · (
 simp only [Fact.G, Nat.reduceEqDiff, Nat.reduceLT, reduceIte, hf.size])
 go_simp
 refine hK.out _ _ ?_; clear hK K
 refine Fact.op_guard (g := 4) (d := 7) (b := true) rfl rfl rfl ?_ (fun K hK => ?_)
 · (
 simp only [Fact.G, Nat.reduceEqDiff, Nat.reduceLT, reduceIte, hf.size])
 go_simp
 obtain ⟨V4, hV4⟩ : ∃ x, World.alloc V3 (.cells #[.slice none 0 0, .bool true, .int .u64 0, .slice (some ⟨V2.heap.size, 0, none⟩) 1 1, .bool false, .int .u64 0] 61) = x := ⟨_, rfl⟩
 rw [hV4]
 obtain ⟨bV4, x14⟩ := RS.lit hV4 [(.slice none 0 0, ⟨true, 0, []⟩), (.slice (some ⟨V2.heap.size, 0, none⟩) 1 1, ⟨false, 0, [⟨97, 0, 0⟩]⟩)] rfl (fun x hx => by simp only [List.mem_cons, List.not_mem_nil, or_false] at hx; rcases hx with rfl | rfl; all_goals first | exact RA.nil_ | exact x12)
 replace hbt := hbt.trans (bV4.mono hbt.size)
 replace d0 := cell_later bV4 d0
 replace d1 := cell_later bV4 d1
 replace d2 := cell_later bV4 d2
 replace x4 := x4.later bV4
 replace x9 := (x9.below bV4).any
 replace x12 := x12.later bV4
 clear hV4
 refine hK.out _ _ ?_; clear hK K
 refine Fact.op_guard (g := 4) (d := 7) (b := true) rfl rfl rfl ?_ (fun K hK => ?_)
 · (
 simp only [Fact.G, Nat.reduceEqDiff, Nat.reduceLT, reduceIte, hf.size])
 go_simp
 refine hK.out _ _ ?_; clear hK K
 refine Fact.op_guard (g := 4) (d := 7) (b := true) rfl rfl rfl ?_ (fun K hK => ?_)
 · (
 simp only [Fact.G, Nat.reduceEqDiff, Nat.reduceLT, reduceIte, hf.size])
 go_simp
 go_at_call 25; refine (made25 V4 [⟨⟨#[97]⟩, 4, false⟩] V4.heap.size _ x9 (by decide) (okE_all _ (by kernel_rfl)) _ [⟨true, 0, []⟩, ⟨false, 0, [⟨97, 0, 0⟩]⟩] 5 x14 (by kernel_rfl) (chk_zero _ (by kernel_rfl)) (by kernel_rfl)).mono ?_; rintro e w13 ⟨rfl, hb13⟩
 replace hbt := hbt.trans (hb13.mono hbt.size)
 replace d0 := cell_later hb13 d0
 replace d1 := cell_later hb13 d1
 replace d2 := cell_later hb13 d2
 replace x4 := x4.later hb13
 replace x9 := (x9.below hb13).any
 replace x12 := x12.later hb13
 replace x14 := x14.later hb13
 dsimp only
 refine hK.out _ _ ?_; clear hK K
 refine Fact.p rfl fun K hK => ?_
 go_simp
 refine hK.out _ _ ?_; clear hK K
 refine Fact.p rfl fun K hK => ?_
 go_simp
 refine hK.out _ _ ?_; clear hK K
 refine Fact.op_guard (g := 15) (d := 18) (b := true) rfl rfl rfl ?_ (fun K hK => ?_)
 · (
 simp only [Fact.G, Nat.reduceEqDiff, Nat.reduceLT, reduceIte, hf.size])
 go_simp
 refine hK.out _ _ ?_; clear hK K
 refine Fact.op_guard (g := 15) (d := 18) (b := true) rfl rfl rfl ?_ (fun K hK => ?_)
 · (
 simp only [Fact.G, Nat.reduceEqDiff, Nat.reduceLT, reduceIte, hf.size])
 go_simp
 refine hK.out _ _ ?_; clear hK K
 refine Fact.op_guard (g := 15) (d := 18) (b := true) rfl rfl rfl ?_ (fun K hK => ?_)
 · (
 simp only [Fact.G, Nat.reduceEqDiff, Nat.reduceLT, reduceIte, hf.size])
 go_simp
 obtain ⟨V5, hV5⟩ : ∃ x, World.alloc w13 (.cells #[.string ⟨#[97]⟩, .int .u32 0, .bool false, .string ⟨#[98]⟩, .int .u32 2, .bool false] 42) = x := ⟨_, rfl⟩
 rw [hV5]
 obtain ⟨bV5, x21⟩ := RE.lit hV5 [⟨⟨#[97]⟩, 0, false⟩, ⟨⟨#[98]⟩, 2, false⟩] rfl
 replace hbt := hbt.trans (bV5.mono hbt.size)
 replace d0 := cell_later bV5 d0
 replace d1 := cell_later bV5 d1
 replace d2 := cell_later bV5 d2
 replace x4 := x4.later bV5
 replace x9 := (x9.below bV5).any
 replace x12 := x12.later bV5
 replace x14 := x14.later bV5
 clear hV5
 refine hK.out _ _ ?_; clear hK K
 refine Fact.op_guard (g := 15) (d := 18) (b := true) rfl rfl rfl ?_ (fun K hK => ?_)
 · (
 simp only [Fact.G, Nat.reduceEqDiff, Nat.reduceLT, reduceIte, hf.size])
 go_simp
 refine hK.out _ _ ?_; clear hK K
 refine Fact.op_guard (g := 15) (d := 18) (b := true) rfl rfl rfl ?_ (fun K hK => ?_)
 · (
 simp only [Fact.G, Nat.reduceEqDiff, Nat.reduceLT, reduceIte, hf.size])
 go_simp
 refine hK.out _ _ ?_; clear hK K
 refine Fact.op_guard (g := 15) (d := 18) (b := true) rfl rfl rfl ?_ (fun K hK => ?_)
 · (
 simp only [Fact.G, Nat.reduceEqDiff, Nat.reduceLT, reduceIte, hf.size])
 go_simp
 refine hK.out _ _ ?_; clear hK K
 refine Fact.op_guard (g := 15) (d := 18) (b := true) rfl rfl rfl ?_ (fun K hK => ?_)
 · (
 simp only [Fact.G, Nat.reduceEqDiff, Nat.reduceLT, reduceIte, hf.size])
 go_simp
 obtain ⟨V6, hV6⟩ : ∃ x, World.alloc V5 (.cells #[.int .u8 97, .int .u64 0, .int .i64 (0), .int .u8 98, .int .u64 2, .int .i64 (0)] 63) = x := ⟨_, rfl⟩
 rw [hV6]
 obtain ⟨bV6, x25⟩ := RA.lit hV6 [⟨97, 0, 0⟩, ⟨98, 2, 0⟩] rfl
 replace hbt := hbt.trans (bV6.mono hbt.size)
 replace d0 := cell_later bV6 d0
 replace d1 := cell_later bV6 d1
 replace d2 := cell_later bV6 d2
 replace x4 := x4.later bV6
 replace x9 := (x9.below bV6).any
 replace x12 := x12.later bV6
 replace x14 := x14.later bV6
 replace x21 := (x21.below bV6).any
 clear hV6
 refine hK.out _ _ ?_; clear hK K
 refine Fact.op_guard (g := 15) (d := 18) (b := true) rfl rfl rfl ?_ (fun K hK => ?_)
 · (
 simp only [Fact.G, Nat.reduceEqDiff, Nat.reduceLT, reduceIte, hf.size])
 go_simp
 refine hK.out _ _ ?_; clear hK K
 refine Fact.op_guard (g := 15) (d := 18) (b := true) rfl rfl rfl ?_ (fun K hK => ?_)
 · (
 simp only [Fact.G, Nat.reduceEqDiff, Nat.reduceLT, reduceIte, hf.size])
 go_simp
 obtain ⟨V7, hV7⟩ : ∃ x, World.alloc V6 (.cells #[.slice none 0 0, .bool true, .int .u64 0, .slice (some ⟨V5.heap.size, 0, none⟩) 2 2, .bool false, .int .u64 0] 61) = x := ⟨_, rfl⟩
 rw [hV7]
 obtain ⟨bV7, x27⟩ := RS.lit hV7 [(.slice none 0 0, ⟨true, 0, []⟩), (.slice (some ⟨V5.heap.size, 0, none⟩) 2 2, ⟨false, 0, [⟨97, 0, 0⟩, ⟨98, 2, 0⟩]⟩)] rfl (fun x hx => by simp only [List.mem_cons, List.not_mem_nil, or_false] at hx; rcases hx with rfl | rfl; all_goals first | exact RA.nil_ | exact x25)
 replace hbt := hbt.trans (bV7.mono hbt.size)
 replace d0 := cell_later bV7 d0
 replace d1 := cell_later bV7 d1
 replace d2 := cell_later bV7 d2
 replace x4 := x4.later bV7
 replace x9 := (x9.below bV7).any
 replace x12 := x12.later bV7
 replace x14 := x14.later bV7
 replace x21 := (x21.below bV7).any
 replace x25 := x25.later bV7
 clear hV7
 refine hK.out _ _ ?_; clear hK K
 refine Fact.op_guard (g := 15) (d := 18) (b := true) rfl rfl rfl ?_ (fun K hK => ?_)
 · (
 simp only [Fact.G, Nat.reduceEqDiff, Nat.reduceLT, reduceIte, hf.size])
 go_simp
 refine hK.out _ _ ?_; clear hK K
 refine Fact.op_guard (g := 15) (d := 18) (b := true) rfl rfl rfl ?_ (fun K hK => ?_)
 · (
 simp only [Fact.G, Nat.reduceEqDiff, Nat.reduceLT, reduceIte, hf.size])
 go_simp
 go_at_call 25; refine (made25 V7 [⟨⟨#[97]⟩, 0, false⟩, ⟨⟨#[98]⟩, 2, false⟩] V7.heap.size _ x21 (by decide) (okE_all _ (by kernel_rfl)) _ [⟨true, 0, []⟩, ⟨false, 0, [⟨97, 0, 0⟩, ⟨98, 2, 0⟩]⟩] 1 x27 (by kernel_rfl) (chk_zero _ (by kernel_rfl)) (by kernel_rfl)).mono ?_; rintro e w26 ⟨rfl, hb26⟩
 replace hbt := hbt.trans (hb26.mono hbt.size)
 replace d0 := cell_later hb26 d0
 replace d1 := cell_later hb26 d1
 replace d2 := cell_later hb26 d2
 replace x4 := x4.later hb26
 replace x9 := (x9.below hb26).any
 replace x12 := x12.later hb26
 replace x14 := x14.later hb26
 replace x21 := (x21.below hb26).any
 replace x25 := x25.later hb26
 replace x27 := x27.later hb26
 dsimp only
 refine hK.out _ _ ?_; clear hK K
 refine Fact.p rfl fun K hK => ?_
 go_simp
 refine hK.out _ _ ?_; clear hK K
 refine Fact.p rfl fun K hK => ?_
 go_simp
 refine hK.out _ _ ?_; clear hK K
 refine Fact.op_guard (g := 28) (d := 31) (b := true) rfl rfl rfl ?_ (fun K hK => ?_)
 · (
 simp only [Fact.G, Nat.reduceEqDiff, Nat.reduceLT, reduceIte, hf.size])
 go_simp
 refine hK.out _ _ ?_; clear hK K
 refine Fact.op_guard (g := 28) (d := 31) (b := true) rfl rfl rfl ?_ (fun K hK => ?_)
 · (
 simp only [Fact.G, Nat.reduceEqDiff, Nat.reduceLT, reduceIte, hf.size])
 go_simp
 refine hK.out _ _ ?_; clear hK K
 refine Fact.op_guard (g := 28) (d := 31) (b := true) rfl rfl rfl ?_ (fun K hK => ?_)
 · (
 simp only [Fact.G, Nat.reduceEqDiff, Nat.reduceLT, reduceIte, hf.size])
 go_simp
 obtain ⟨V8, hV8⟩ : ∃ x, World.alloc w26 (.cells #[.string ⟨#[97]⟩, .int .u32 0, .bool false, .string ⟨#[97, 98]⟩, .int .u32 0, .bool true] 42) = x := ⟨_, rfl⟩
 rw [hV8]
 obtain ⟨bV8, x34⟩ := RE.lit hV8 [⟨⟨#[97]⟩, 0, false⟩, ⟨⟨#[97, 98]⟩, 0, true⟩] rfl
 replace hbt := hbt.trans (bV8.mono hbt.size)
 replace d0 := cell_later bV8 d0
 replace d1 := cell_later bV8 d1
 replace d2 := cell_later bV8 d2
 replace x4 := x4.later bV8
 replace x9 := (x9.below bV8).any
 replace x12 := x12.later bV8
 replace x14 := x14.later bV8
 replace x21 := (x21.below bV8).any
 replace x25 := x25.later bV8
 replace x27 := x27.later bV8
 clear hV8
 refine hK.out _ _ ?_; clear hK K
 refine Fact.op_guard (g := 28) (d := 31) (b := true) rfl rfl rfl ?_ (fun K hK => ?_)
 · (
 simp only [Fact.G, Nat.reduceEqDiff, Nat.reduceLT, reduceIte, hf.size])
 go_simp
 refine hK.out _ _ ?_; clear hK K
 refine Fact.op_guard (g := 28) (d := 31) (b := true) rfl rfl rfl ?_ (fun K hK => ?_)
 · (
 simp only [Fact.G, Nat.reduceEqDiff, Nat.reduceLT, reduceIte, hf.size])
 go_simp
 refine hK.out _ _ ?_; clear hK K
 refine Fact.op_guard (g := 28) (d := 31) (b := true) rfl rfl rfl ?_ (fun K hK => ?_)
 · (
 simp only [Fact.G, Nat.reduceEqDiff, Nat.reduceLT, reduceIte, hf.size])
 go_simp
 obtain ⟨V9, hV9⟩ : ∃ x, World.alloc V8 (.cells #[.int .u8 98, .int .u64 0, .int .i64 (0)] 63) = x := ⟨_, rfl⟩
 rw [hV9]
 obtain ⟨bV9, x37⟩ := RA.lit hV9 [⟨98, 0, 0⟩] rfl
 replace hbt := hbt.trans (bV9.mono hbt.size)
 replace d0 := cell_later bV9 d0
 replace d1 := cell_later bV9 d1
 replace d2 := cell_later bV9 d2
 replace x4 := x4.later bV9
 replace x9 := (x9.below bV9).any
 replace x12 := x12.later bV9
 replace x14 := x14.later bV9
 replace x21 := (x21.below bV9).any
 replace x25 := x25.later bV9
 replace x27 := x27.later bV9
 replace x34 := (x34.below bV9).any
 clear hV9
 refine hK.out _ _ ?_; clear hK K
 refine Fact.op_guard (g := 28) (d := 31) (b := true) rfl rfl rfl ?_ (fun K hK => ?_)
 · (
 simp only [Fact.G, Nat.reduceEqDiff, Nat.reduceLT, reduceIte, hf.size])
 go_simp
 refine hK.out _ _ ?_; clear hK K
 refine Fact.op_guard (g := 28) (d := 31) (b := true) rfl rfl rfl ?_ (fun K hK => ?_)
 · (
 simp only [Fact.G, Nat.reduceEqDiff, Nat.reduceLT, reduceIte, hf.size])
 go_simp
 refine hK.out _ _ ?_; clear hK K
 refine Fact.op_guard (g := 28) (d := 31) (b := true) rfl rfl rfl ?_ (fun K hK => ?_)
 · (
 simp only [Fact.G, Nat.reduceEqDiff, Nat.reduceLT, reduceIte, hf.size])
 go_simp
 obtain ⟨V10, hV10⟩ : ∃ x, World.alloc V9 (.cells #[.int .u8 97, .int .u64 0, .int .i64 (1)] 63) = x := ⟨_, rfl⟩
 rw [hV10]
 obtain ⟨bV10, x40⟩ := RA.lit hV10 [⟨97, 0, 1⟩] rfl
 replace hbt := hbt.trans (bV10.mono hbt.size)
 replace d0 := cell_later bV10 d0
 replace d1 := cell_later bV10 d1
 replace d2 := cell_later bV10 d2
 replace x4 := x4.later bV10
 replace x9 := (x9.below bV10).any
 replace x12 := x12.later bV10
 replace x14 := x14.later bV10
 replace x21 := (x21.below bV10).any
 replace x25 := x25.later bV10
 replace x27 := x27.later bV10
 replace x34 := (x34.below bV10).any
 replace x37 := x37.later bV10
 clear hV10
 refine hK.out _ _ ?_; clear hK K
 refine Fact.op_guard (g := 28) (d := 31) (b := true) rfl rfl rfl ?_ (fun K hK => ?_)
 · (
 simp only [Fact.G, Nat.reduceEqDiff, Nat.reduceLT, reduceIte, hf.size])
 go_simp
 refine hK.out _ _ ?_; clear hK K
 refine Fact.op_guard (g := 28) (d := 31) (b := true) rfl rfl rfl ?_ (fun K hK => ?_)
 · (
 simp only [Fact.G, Nat.reduceEqDiff, Nat.reduceLT, reduceIte, hf.size])
 go_simp
 obtain ⟨V11, hV11⟩ : ∃ x, World.alloc V10 (.cells #[.slice none 0 0, .bool true, .int .u64 0, .slice (some ⟨V8.heap.size, 0, none⟩) 1 1, .bool true, .int .u64 1, .slice (some ⟨V9.heap.size, 0, none⟩) 1 1, .bool false, .int .u64 0] 61) = x := ⟨_, rfl⟩
 rw [hV11]
 obtain ⟨bV11, x42⟩ := RS.lit hV11 [(.slice none 0 0, ⟨true, 0, []⟩), (.slice (some ⟨V8.heap.size, 0, none⟩) 1 1, ⟨true, 1, [⟨98, 0, 0⟩]⟩), (.slice (some ⟨V9.heap.size, 0, none⟩) 1 1, ⟨false, 0, [⟨97, 0, 1⟩]⟩)] rfl (fun x hx => by simp only [List.mem_cons, List.not_mem_nil, or_false] at hx; rcases hx with rfl | rfl | rfl; all_goals first | exact RA.nil_ | exact x37 | exact x40)
 replace hbt := hbt.trans (bV11.mono hbt.size)
 replace d0 := cell_later bV11 d0
 replace d1 := cell_later bV11 d1
 replace d2 := cell_later bV11 d2
 replace x4 := x4.later bV11
 replace x9 := (x9.below bV11).any
 replace x12 := x12.later bV11
 replace x14 := x14.later bV11
 replace x21 := (x21.below bV11).any
 replace x25 := x25.later bV11
 replace x27 := x27.later bV11
 replace x34 := (x34.below bV11).any
 replace x37 := x37.later bV11
 replace x40 := x40.later bV11
 clear hV11
 refine hK.out _ _ ?_; clear hK K
 refine Fact.op_guard (g := 28) (d := 31) (b := true) rfl rfl rfl ?_ (fun K hK => ?_)
 · (
 simp only [Fact.G, Nat.reduceEqDiff, Nat.reduceLT, reduceIte, hf.size])
 go_simp
 refine hK.out _ _ ?_; clear hK K
 refine Fact.op_guard (g := 28) (d := 31) (b := true) rfl rfl rfl ?_ (fun K hK => ?_)
 · (
 simp only [Fact.G, Nat.reduceEqDiff, Nat.reduceLT, reduceIte, hf.size])
 go_simp
 go_at_call 25; refine (made25 V11 [⟨⟨#[97]⟩, 0, false⟩, ⟨⟨#[97, 98]⟩, 0, true⟩] V11.heap.size _ x34 (by decide) (okE_all _ (by kernel_rfl)) _ [⟨true, 0, []⟩, ⟨true, 1, [⟨98, 0, 0⟩]⟩, ⟨false, 0, [⟨97, 0, 1⟩]⟩] 0 x42 (by kernel_rfl) (chk_zero _ (by kernel_rfl)) (by kernel_rfl)).mono ?_; rintro e w41 ⟨rfl, hb41⟩
 replace hbt := hbt.trans (hb41.mono hbt.size)
 replace d0 := cell_later hb41 d0
 replace d1 := cell_later hb41 d1
 replace d2 := cell_later hb41 d2
 replace x4 := x4.later hb41
 replace x9 := (x9.below hb41).any
 replace x12 := x12.later hb41
 replace x14 := x14.later hb41
 replace x21 := (x21.below hb41).any
 replace x25 := x25.later hb41
 replace x27 := x27.later hb41
 replace x34 := (x34.below hb41).any
 replace x37 := x37.later hb41
 replace x40 := x40.later hb41
 replace x42 := x42.later hb41
 dsimp only
 refine hK.out _ _ ?_; clear hK K
 refine Fact.p rfl fun K hK => ?_
 go_simp
 refine hK.out _ _ ?_; clear hK K
 refine Fact.p rfl fun K hK => ?_
 go_simp
 refine hK.out _ _ ?_; clear hK K
 refine Fact.nil ?_
 refine Fact.q hf (by simp only [Fact.G]) rfl fun fr1 hf1 hT => ?_
 have hKp := hT 0
 simp only [Fact.G, Nat.reduceEqDiff, Nat.reduceLT, hf.size, reduceIte] at hKp
 clear hT hf s0 s1 b3 b4 b5 b6 b7 b8 b9 b10 b11 b12 b13 b14 b15 b16 b17 b18 b19 b20 b21 b22 b23 b24 b25 b26 b27 b28 b29 b30 b31 b32 b33 b34 b35 b36 b37 b38 b39 b40 b41 b42 b43 b44 b45
 have s0 := hKp; clear hKp
 have hf := hf1; clear hf1
 refine Fact.nx (hK3 _ _ ?_)
 refine wp_ret ?_
 exact Fact.ret1 rfl hf s0 ⟨rfl, hbt⟩
end Dw
end Go.Proofs.YtgjfhedgdbbinaaDoor
