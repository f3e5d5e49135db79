/- Dawg: made. -/
import Derived.Test.YtgjfhedgdbbinaaDoorDSame
import Derived.Test.YtgjfhedgdbbinaaDoorTools
import Derived.Test.YtgjfhedgdbbinaaDoorDR1
namespace Go.Proofs.YtgjfhedgdbbinaaDoor
open Go.RowKit
set_option linter.unusedSimpArgs false
set_option linter.unusedVariables false
set_option linter.unnecessarySimpa false
namespace Dw
set_option maxHeartbeats 4000000 in
set_option maxRecDepth 100000 in
theorem made25 (w : World) (es : List Ent) (B : Nat) (v : Value) (hre : RE w B v es) (hlen : es.length ≤ 30) (hes : ∀ e ∈ es, okE e) (sv : Value) (ss : List State) (init : Nat) (hrs : RS w sv ss) (hb : build (es.map wvE) = ⟨ss, init⟩) (hc : chkN es = 0) (hr : rightF ss init = true) : Calls Tryd.prog 25 #[v, .agg #[sv, .int .u64 init]] w fun e w1 => e = .returned (.bool true) ∧ Below w.heap.size w w1 := by
 refine calls_of_wp Tryd.func25 rfl ?_
 refine Fact.en 23 fun fr hf hT => ?_
 have s0 := hT 0 _ rfl
 have s1 := hT 1 _ rfl
 clear hT
 have hre0 := hre.any
 obtain ⟨Aw, cw, rfl, hcw⟩ := hrs.form
 clear hre
 have HB := Lib.hid hb; have HC := Lib.hid hc; have HR := Lib.hid hr; have HE := Lib.hid hes; clear hb hc hr hes
 refine Fact.sq fun K1 hK1 => ?_
 refine rg ?_
 refine fp fun K Z => ?_
 go_simp
 apply Z.out; clear Z K
 refine fp fun K Z => ?_
 go_simp
 apply Z.out; clear Z K
 refine Fact.z hf fun fr1 hf1 hT => ?_
 have hKp : _ ∧ _ := ⟨hT 0, hT 3⟩
 simp (decide := true) only [Fact.G, hf.size, reduceIte, s0] at hKp
 replace hf := hf1; clear hT hf1 s0 s1
 obtain ⟨s0, s3⟩ := hKp
 obtain ⟨W0, hW0⟩ : ∃ W0, w.alloc (.cells #[.slice Aw ss.length cw, .int .u64 init] 33) = W0 := ⟨_, rfl⟩
 try rw [hW0]
 obtain ⟨hb0, x0, x1, -, hz0_⟩ := box2 hW0
 clear hW0
 have hz0 : w.heap.size < W0.heap.size := by rw [hz0_]; exact Nat.lt_succ_self _
 clear hz0_
 have hre1 := (hre0.below hb0).any
 have hrs0 := hrs.later hb0
 clear hrs hre0
 refine nx (hK1 _ _ ?_)
 refine Fact.sq fun K2 hK2 => ?_
 refine rg ?_
 have b8 := hf.b 8
 have b9 := hf.b 9
 have b7 := hf.b 7
 have b10 := hf.b 10
 have b11 := hf.b 11
 have b5 := hf.b 5
 refine fp fun K Z => ?_
 go_simp
 apply Z.out; clear Z K
 refine fp fun K Z => ?_
 go_simp
 go_at_call 8; refine (build8 W0 es W0.heap.size v (Nat.le_refl _) hre1 hlen HE.out).mono ?_; rintro e w1 ⟨sv, rfl, hr1, hok1, hn1, hb1⟩
 rw [HC.out]
 have hf1 : buildF es = ⟨ss, init⟩ := by unfold buildF; rw [if_pos HC.out, HB.out]
 rw [hf1] at hr1 hok1 hn1
 dsimp only at hr1 hok1 hn1
 rw [hf1]
 clear hf1
 obtain ⟨Ab, cb, rfl, hcb⟩ := hr1.form
 have HOK := Lib.hid hok1; clear hok1
 try dsimp only
 apply Z.out; clear Z K
 refine fp fun K Z => ?_
 go_simp
 apply Z.out; clear Z K
 refine fp fun K Z => ?_
 go_simp
 apply Z.out; clear Z K
 refine fp fun K Z => ?_
 go_simp
 apply Z.out; clear Z K
 refine fp fun K Z => ?_
 go_simp
 apply Z.out; clear Z K
 refine fp fun K Z => ?_
 go_simp
 apply Z.out; clear Z K
 refine fp fun K Z => ?_
 go_simp
 apply Z.out; clear Z K
 refine Fact.z hf fun fr1 hf1 hT => ?_
 have hKp : _ ∧ _ ∧ _ := ⟨hT 3, hT 5, hT 6⟩
 simp (decide := true) only [Fact.G, hf.size, reduceIte, s3] at hKp
 replace hf := hf1; clear hT hf1 s0 s3 b8 b9 b7 b10 b11 b5
 obtain ⟨s3, s5, s6⟩ := hKp
 obtain ⟨W2, hW2⟩ : ∃ x, w1.alloc (.cells #[.slice Ab ss.length cb, .int .u64 init] 33) = x := ⟨_, rfl⟩
 rw [hW2]
 obtain ⟨hb2, y0, y1, -, -⟩ := box2 hW2
 clear hW2
 have hr2 := hr1.later hb2
 have hb12 := hb1.trans (hb2.mono hb1.size)
 have hrs2 := hrs0.later hb12
 replace x0 := cL hb12 x0; replace x1 := cL hb12 x1
 have hl2 : ∀ s ∈ ss, s.arcs.length ≤ 4611686018427387904 := fun s hs => by have := (HOK.out s hs).few; omega
 have HL := Lib.hid hl2; clear hl2 hr1 hrs0
 refine nx (hK2 _ _ ?_)
 refine Fact.sq fun K3 hK3 => ?_
 refine rg ?_
 have b12 := hf.b 12
 have b13 := hf.b 13
 have b14 := hf.b 14
 have b15 := hf.b 15
 have b16 := hf.b 16
 have b17 := hf.b 17
 have b18 := hf.b 18
 have b19 := hf.b 19
 have b20 := hf.b 20
 have b21 := hf.b 21
 have b22 := hf.b 22
 refine fp fun K Z => ?_
 go_simp
 apply Z.out; clear Z K
 refine fp fun K Z => ?_
 go_simp
 apply Z.out; clear Z K
 refine fp fun K Z => ?_
 go_simp
 apply Z.out; clear Z K
 refine og 2 14 true ?_ fun K Z => ?_
 · (
 simp (decide := true) only [Fact.G, reduceIte, hf.size])
 go_simp
 apply Z.out; clear Z K
 refine og 2 14 true ?_ fun K Z => ?_
 · (
 simp (decide := true) only [Fact.G, reduceIte, hf.size])
 go_simp
 apply Z.out; clear Z K
 refine og 2 14 true ?_ fun K Z => ?_
 · (
 simp (decide := true) only [Fact.G, reduceIte, hf.size])
 go_simp
 go_at_call 19; refine (rsame W2 ss ss init init _ _ hr2 hrs2 HL.out HL.out (by omega) (by omega)).mono ?_; rintro e w3 ⟨rfl, hb3⟩
 rw [decide_eq_true (show init = init ∧ ss = ss from ⟨rfl, rfl⟩)]
 replace y0 := cL hb3 y0; replace y1 := cL hb3 y1; have hr3 := hr2.later hb3
 try dsimp only
 apply Z.out; clear Z K
 refine fp fun K Z => ?_
 go_simp
 apply Z.out; clear Z K
 refine fp fun K Z => ?_
 go_simp
 apply Z.out; clear Z K
 refine og 7 19 true ?_ fun K Z => ?_
 · (
 simp (decide := true) only [Fact.G, reduceIte, hf.size])
 go_simp
 apply Z.out; clear Z K
 refine og 7 19 true ?_ fun K Z => ?_
 · (
 simp (decide := true) only [Fact.G, reduceIte, hf.size])
 go_simp
 go_at_call 9; refine (right9 w3 _ init ss hr3 (fun s hs => (HOK.out s hs).ok) (by omega)).mono ?_; rintro e w4 ⟨rfl, hb4⟩
 rw [HR.out]
 have hbz := hb0.trans ((hb12.trans ((hb3.trans (hb4.mono hb3.size)).mono hb12.size)).mono hb0.size)
 try dsimp only
 apply Z.out; clear Z K
 refine fp fun K Z => ?_
 go_simp
 apply Z.out; clear Z K
 refine fp fun K Z => ?_
 go_simp
 apply Z.out; clear Z K
 refine Fact.z hf fun fr1 hf1 hT => ?_
 have hKp := hT 4
 simp (decide := true) only [Fact.G, hf.size, reduceIte] at hKp
 replace hf := hf1; clear hT hf1 s3 s5 s6 b12 b13 b14 b15 b16 b17 b18 b19 b20 b21 b22
 have s4 := hKp; clear hKp
 refine nx (hK3 _ _ ?_)
 refine wp_ret ?_
 exact Fact.ret1 rfl hf s4 ⟨rfl, hbz⟩
end Dw
end Go.Proofs.YtgjfhedgdbbinaaDoor

/- Dawg: works. -/
namespace Go.Proofs.YtgjfhedgdbbinaaDoor
open Go.RowKit
set_option linter.unusedSimpArgs false
set_option linter.unusedVariables false
set_option linter.unnecessarySimpa false
namespace Dw

theorem RE.nil_ {w : World} {B : Nat} : RE w B (.slice none 0 0) [] := ⟨none, 0, rfl, by simp, fun h => absurd h (by simp)⟩
theorem okE_all (es : List Ent) (h : es.all (fun e => decide (0 ≤ e.weight) && decide (e.weight < 4294967296)) = true) : ∀ e ∈ es, okE e := by
  intro e he
  have := List.all_eq_true.1 h e he
  rw [Bool.and_eq_true] at this
  exact ⟨of_decide_eq_true this.1, of_decide_eq_true this.2⟩
def chkL2 : Option (List Nat) → List Ent → Nat
  | _, [] => 0
  | p, e :: l => if (decide (1 ≤ e.word.size) && decide (e.word.size ≤ 255)) = true then (if (match p with | none => true | some q => lexlt q (wl e.word)) = true then chkL2 (some (wl e.word)) l else 15) else 7
theorem chkL_eq : ∀ (l : List Ent) (p : Option (List Nat)), chkL p l = chkL2 p l
  | [], _ => rfl
  | e :: l, p => by
    simp only [chkL, chkL2, okW_eq]
    rw [chkL_eq l]
    cases p <;> rfl
theorem chk_zero (es : List Ent) (h : chkL2 none es = 0) : chkN es = 0 := (chkL_eq es none).trans h
theorem chk_val (es : List Ent) (n : Nat) (h : chkL2 none es = n) : chkN es = n := (chkL_eq es none).trans h
theorem box3set {w W : World} {x y z x' y' z' : Value} {t : TypeId} (h : (((w.alloc (.cells #[x, y, z] t)).setCell ⟨w.heap.size, 0, none⟩ x').setCell ⟨w.heap.size, 1, none⟩ y').setCell ⟨w.heap.size, 2, none⟩ z' = W) : Below w.heap.size w W ∧ W.cell? ⟨w.heap.size, 0, none⟩ = some x' ∧ W.cell? ⟨w.heap.size, 1, none⟩ = some y' ∧ W.cell? ⟨w.heap.size, 2, none⟩ = some z' := by
  subst h
  have h1 := heap_alloc_new w (.cells #[x, y, z] t)
  have h2 := set_block (g := w.heap.size) (i := 0) h1 x'
  have h3 := set_block (i := 1) h2 y'
  have h4 := set_block (i := 2) h3 z'
  have hb := ((((Below.refl w.heap.size w).alloc (Nat.le_refl _) (.cells #[x, y, z] t)).setCell (p := ⟨w.heap.size, 0, none⟩) (Nat.le_refl _) x').setCell (p := ⟨w.heap.size, 1, none⟩) (Nat.le_refl _) y').setCell (p := ⟨w.heap.size, 2, none⟩) (Nat.le_refl _) z'
  exact ⟨hb, cell_of_row _ _ 0 _ t (0, 0) h4, cell_of_row _ _ 1 _ t (0, 0) h4, cell_of_row _ _ 2 _ t (0, 0) h4⟩
set_option maxHeartbeats 4000000 in
set_option maxRecDepth 100000 in
theorem works6 (w : World)  : Calls Tryd.prog 6 #[] w fun e w1 => e = .returned (.bool true) ∧ Below w.heap.size w w1 := by
 refine calls_of_wp Tryd.func6 rfl ?_
 refine Fact.en 46 fun fr hf hT => ?_
 clear hT
 refine Fact.sq fun K1 hK1 => ?_
 refine rg ?_
 refine fp fun K Z => ?_
 go_simp
 apply Z.out; clear Z K
 refine Fact.z hf fun fr1 hf1 hT => ?_
 replace hf := hf1; clear hT hf1
 refine nx (hK1 _ _ ?_)
 refine Fact.sq fun K2 hK2 => ?_
 refine rg ?_
 have b2 := hf.b 2
 have b1 := hf.b 1
 refine fp fun K Z => ?_
 go_simp
 apply Z.out; clear Z K
 refine fp fun K Z => ?_
 go_simp
 apply Z.out; clear Z K
 refine fp fun K Z => ?_
 go_simp
 apply Z.out; clear Z K
 refine Fact.z hf fun fr1 hf1 hT => ?_
 have hKp := hT 1
 simp (decide := true) only [Fact.G, hf.size, reduceIte] at hKp
 replace hf := hf1; clear hT hf1 b2 b1
 have s1 := hKp; clear hKp
 obtain ⟨W1, hW1⟩ : ∃ x, w.alloc (.cells #[.slice none 0 0, .bool true, .int .u64 0] 61) = x := ⟨_, rfl⟩
 rw [hW1]
 obtain ⟨hbt, d0, d1, d2, -, -⟩ := box3 hW1
 clear hW1
 refine nx (hK2 _ _ ?_)
 refine Fact.sq fun K3 hK3 => ?_
 refine rg ?_
 have b3 := hf.b 3
 have b4 := hf.b 4
 have b5 := hf.b 5
 have b6 := hf.b 6
 have b7 := hf.b 7
 have b8 := hf.b 8
 have b9 := hf.b 9
 have b10 := hf.b 10
 have b11 := hf.b 11
 have b12 := hf.b 12
 have b13 := hf.b 13
 have b14 := hf.b 14
 have b15 := hf.b 15
 have b16 := hf.b 16
 have b17 := hf.b 17
 have b18 := hf.b 18
 have b19 := hf.b 19
 have b20 := hf.b 20
 have b21 := hf.b 21
 have b22 := hf.b 22
 have b23 := hf.b 23
 have b24 := hf.b 24
 have b25 := hf.b 25
 have b26 := hf.b 26
 have b27 := hf.b 27
 have b28 := hf.b 28
 have b29 := hf.b 29
 have b30 := hf.b 30
 have b31 := hf.b 31
 have b32 := hf.b 32
 have b33 := hf.b 33
 have b34 := hf.b 34
 have b35 := hf.b 35
 have b36 := hf.b 36
 have b37 := hf.b 37
 have b38 := hf.b 38
 have b39 := hf.b 39
 have b40 := hf.b 40
 have b41 := hf.b 41
 have b42 := hf.b 42
 have b43 := hf.b 43
 have b44 := hf.b 44
 have b45 := hf.b 45
 refine fp fun K Z => ?_
 go_simp
 apply Z.out; clear Z K
 refine fp fun K Z => ?_
 go_simp
 obtain ⟨V1, hV1⟩ : ∃ x, World.alloc W1 (.cells #[.slice none 0 0, .bool false, .int .u64 0] 61) = x := ⟨_, rfl⟩
 rw [hV1]
 obtain ⟨bV1, x4⟩ := RS.lit hV1 [(.slice none 0 0, ⟨false, 0, []⟩)] rfl (fun x hx => by simp only [List.mem_cons, List.not_mem_nil, or_false] at hx; subst hx; all_goals first | exact RA.nil_)
 replace hbt := hbt.trans (bV1.mono hbt.size)
 replace d0 := cL bV1 d0
 replace d1 := cL bV1 d1
 replace d2 := cL bV1 d2
 clear hV1
 apply Z.out; clear Z K
 refine fp fun K Z => ?_
 go_simp
 apply Z.out; clear Z K
 refine fp fun K Z => ?_
 go_simp
 go_at_call 25; refine (made25 V1 [] 0 _ (RE.nil_ (B := 0)) (by decide) (okE_all _ (by kernel_rfl)) _ [⟨false, 0, []⟩] 0 x4 (by kernel_rfl) (chk_zero _ (by kernel_rfl)) (by kernel_rfl)).mono ?_; rintro e w3 ⟨rfl, hb3⟩
 replace hbt := hbt.trans (hb3.mono hbt.size)
 replace d0 := cL hb3 d0
 replace d1 := cL hb3 d1
 replace d2 := cL hb3 d2
 replace x4 := x4.later hb3
 try dsimp only
 apply Z.out; clear Z K
 refine fp fun K Z => ?_
 go_simp
 apply Z.out; clear Z K
 refine og 4 7 true ?_ fun K Z => ?_
 · (
 simp (decide := true) only [Fact.G, reduceIte, hf.size])
 go_simp
 apply Z.out; clear Z K
 refine og 4 7 true ?_ fun K Z => ?_
 · (
 simp (decide := true) only [Fact.G, reduceIte, hf.size])
 go_simp
 obtain ⟨V2, hV2⟩ : ∃ x, World.alloc w3 (.cells #[.string ⟨#[97]⟩, .int .u32 4, .bool false] 42) = x := ⟨_, rfl⟩
 rw [hV2]
 obtain ⟨bV2, x9⟩ := RE.lit hV2 [⟨⟨#[97]⟩, 4, false⟩] rfl
 replace hbt := hbt.trans (bV2.mono hbt.size)
 replace d0 := cL bV2 d0
 replace d1 := cL bV2 d1
 replace d2 := cL bV2 d2
 replace x4 := x4.later bV2
 clear hV2
 apply Z.out; clear Z K
 refine og 4 7 true ?_ fun K Z => ?_
 · (
 simp (decide := true) only [Fact.G, reduceIte, hf.size])
 go_simp
 apply Z.out; clear Z K
 refine og 4 7 true ?_ fun K Z => ?_
 · (
 simp (decide := true) only [Fact.G, reduceIte, hf.size])
 go_simp
 apply Z.out; clear Z K
 refine og 4 7 true ?_ fun K Z => ?_
 · (
 simp (decide := true) only [Fact.G, reduceIte, hf.size])
 go_simp
 obtain ⟨V3, hV3⟩ : ∃ x, World.alloc V2 (.cells #[.int .u8 97, .int .u64 0, .int .i64 (0)] 63) = x := ⟨_, rfl⟩
 rw [hV3]
 obtain ⟨bV3, x12⟩ := RA.lit hV3 [⟨97, 0, 0⟩] rfl
 replace hbt := hbt.trans (bV3.mono hbt.size)
 replace d0 := cL bV3 d0
 replace d1 := cL bV3 d1
 replace d2 := cL bV3 d2
 replace x4 := x4.later bV3
 replace x9 := (x9.below bV3).any
 clear hV3
 apply Z.out; clear Z K
 refine og 4 7 true ?_ fun K Z => ?_
 · (
 simp (decide := true) only [Fact.G, reduceIte, hf.size])
 go_simp
 apply Z.out; clear Z K
 refine og 4 7 true ?_ fun K Z => ?_
 · (
 simp (decide := true) only [Fact.G, reduceIte, hf.size])
 go_simp
 obtain ⟨V4, hV4⟩ : ∃ x, World.alloc V3 (.cells #[.slice none 0 0, .bool true, .int .u64 0, .slice (some ⟨V2.heap.size, 0, none⟩) 1 1, .bool false, .int .u64 0] 61) = x := ⟨_, rfl⟩
 rw [hV4]
 obtain ⟨bV4, x14⟩ := RS.lit hV4 [(.slice none 0 0, ⟨true, 0, []⟩), (.slice (some ⟨V2.heap.size, 0, none⟩) 1 1, ⟨false, 0, [⟨97, 0, 0⟩]⟩)] rfl (fun x hx => by simp only [List.mem_cons, List.not_mem_nil, or_false] at hx; rcases hx with rfl | rfl; all_goals first | exact RA.nil_ | exact x12)
 replace hbt := hbt.trans (bV4.mono hbt.size)
 replace d0 := cL bV4 d0
 replace d1 := cL bV4 d1
 replace d2 := cL bV4 d2
 replace x4 := x4.later bV4
 replace x9 := (x9.below bV4).any
 replace x12 := x12.later bV4
 clear hV4
 apply Z.out; clear Z K
 refine og 4 7 true ?_ fun K Z => ?_
 · (
 simp (decide := true) only [Fact.G, reduceIte, hf.size])
 go_simp
 apply Z.out; clear Z K
 refine og 4 7 true ?_ fun K Z => ?_
 · (
 simp (decide := true) only [Fact.G, reduceIte, hf.size])
 go_simp
 go_at_call 25; refine (made25 V4 [⟨⟨#[97]⟩, 4, false⟩] V4.heap.size _ x9 (by decide) (okE_all _ (by kernel_rfl)) _ [⟨true, 0, []⟩, ⟨false, 0, [⟨97, 0, 0⟩]⟩] 5 x14 (by kernel_rfl) (chk_zero _ (by kernel_rfl)) (by kernel_rfl)).mono ?_; rintro e w13 ⟨rfl, hb13⟩
 replace hbt := hbt.trans (hb13.mono hbt.size)
 replace d0 := cL hb13 d0
 replace d1 := cL hb13 d1
 replace d2 := cL hb13 d2
 replace x4 := x4.later hb13
 replace x9 := (x9.below hb13).any
 replace x12 := x12.later hb13
 replace x14 := x14.later hb13
 try dsimp only
 apply Z.out; clear Z K
 refine fp fun K Z => ?_
 go_simp
 apply Z.out; clear Z K
 refine fp fun K Z => ?_
 go_simp
 apply Z.out; clear Z K
 refine og 15 18 true ?_ fun K Z => ?_
 · (
 simp (decide := true) only [Fact.G, reduceIte, hf.size])
 go_simp
 apply Z.out; clear Z K
 refine og 15 18 true ?_ fun K Z => ?_
 · (
 simp (decide := true) only [Fact.G, reduceIte, hf.size])
 go_simp
 apply Z.out; clear Z K
 refine og 15 18 true ?_ fun K Z => ?_
 · (
 simp (decide := true) only [Fact.G, reduceIte, hf.size])
 go_simp
 obtain ⟨V5, hV5⟩ : ∃ x, World.alloc w13 (.cells #[.string ⟨#[97]⟩, .int .u32 0, .bool false, .string ⟨#[98]⟩, .int .u32 2, .bool false] 42) = x := ⟨_, rfl⟩
 rw [hV5]
 obtain ⟨bV5, x21⟩ := RE.lit hV5 [⟨⟨#[97]⟩, 0, false⟩, ⟨⟨#[98]⟩, 2, false⟩] rfl
 replace hbt := hbt.trans (bV5.mono hbt.size)
 replace d0 := cL bV5 d0
 replace d1 := cL bV5 d1
 replace d2 := cL bV5 d2
 replace x4 := x4.later bV5
 replace x9 := (x9.below bV5).any
 replace x12 := x12.later bV5
 replace x14 := x14.later bV5
 clear hV5
 apply Z.out; clear Z K
 refine og 15 18 true ?_ fun K Z => ?_
 · (
 simp (decide := true) only [Fact.G, reduceIte, hf.size])
 go_simp
 apply Z.out; clear Z K
 refine og 15 18 true ?_ fun K Z => ?_
 · (
 simp (decide := true) only [Fact.G, reduceIte, hf.size])
 go_simp
 apply Z.out; clear Z K
 refine og 15 18 true ?_ fun K Z => ?_
 · (
 simp (decide := true) only [Fact.G, reduceIte, hf.size])
 go_simp
 apply Z.out; clear Z K
 refine og 15 18 true ?_ fun K Z => ?_
 · (
 simp (decide := true) only [Fact.G, reduceIte, hf.size])
 go_simp
 obtain ⟨V6, hV6⟩ : ∃ x, World.alloc V5 (.cells #[.int .u8 97, .int .u64 0, .int .i64 (0), .int .u8 98, .int .u64 2, .int .i64 (0)] 63) = x := ⟨_, rfl⟩
 rw [hV6]
 obtain ⟨bV6, x25⟩ := RA.lit hV6 [⟨97, 0, 0⟩, ⟨98, 2, 0⟩] rfl
 replace hbt := hbt.trans (bV6.mono hbt.size)
 replace d0 := cL bV6 d0
 replace d1 := cL bV6 d1
 replace d2 := cL bV6 d2
 replace x4 := x4.later bV6
 replace x9 := (x9.below bV6).any
 replace x12 := x12.later bV6
 replace x14 := x14.later bV6
 replace x21 := (x21.below bV6).any
 clear hV6
 apply Z.out; clear Z K
 refine og 15 18 true ?_ fun K Z => ?_
 · (
 simp (decide := true) only [Fact.G, reduceIte, hf.size])
 go_simp
 apply Z.out; clear Z K
 refine og 15 18 true ?_ fun K Z => ?_
 · (
 simp (decide := true) only [Fact.G, reduceIte, hf.size])
 go_simp
 obtain ⟨V7, hV7⟩ : ∃ x, World.alloc V6 (.cells #[.slice none 0 0, .bool true, .int .u64 0, .slice (some ⟨V5.heap.size, 0, none⟩) 2 2, .bool false, .int .u64 0] 61) = x := ⟨_, rfl⟩
 rw [hV7]
 obtain ⟨bV7, x27⟩ := RS.lit hV7 [(.slice none 0 0, ⟨true, 0, []⟩), (.slice (some ⟨V5.heap.size, 0, none⟩) 2 2, ⟨false, 0, [⟨97, 0, 0⟩, ⟨98, 2, 0⟩]⟩)] rfl (fun x hx => by simp only [List.mem_cons, List.not_mem_nil, or_false] at hx; rcases hx with rfl | rfl; all_goals first | exact RA.nil_ | exact x25)
 replace hbt := hbt.trans (bV7.mono hbt.size)
 replace d0 := cL bV7 d0
 replace d1 := cL bV7 d1
 replace d2 := cL bV7 d2
 replace x4 := x4.later bV7
 replace x9 := (x9.below bV7).any
 replace x12 := x12.later bV7
 replace x14 := x14.later bV7
 replace x21 := (x21.below bV7).any
 replace x25 := x25.later bV7
 clear hV7
 apply Z.out; clear Z K
 refine og 15 18 true ?_ fun K Z => ?_
 · (
 simp (decide := true) only [Fact.G, reduceIte, hf.size])
 go_simp
 apply Z.out; clear Z K
 refine og 15 18 true ?_ fun K Z => ?_
 · (
 simp (decide := true) only [Fact.G, reduceIte, hf.size])
 go_simp
 go_at_call 25; refine (made25 V7 [⟨⟨#[97]⟩, 0, false⟩, ⟨⟨#[98]⟩, 2, false⟩] V7.heap.size _ x21 (by decide) (okE_all _ (by kernel_rfl)) _ [⟨true, 0, []⟩, ⟨false, 0, [⟨97, 0, 0⟩, ⟨98, 2, 0⟩]⟩] 1 x27 (by kernel_rfl) (chk_zero _ (by kernel_rfl)) (by kernel_rfl)).mono ?_; rintro e w26 ⟨rfl, hb26⟩
 replace hbt := hbt.trans (hb26.mono hbt.size)
 replace d0 := cL hb26 d0
 replace d1 := cL hb26 d1
 replace d2 := cL hb26 d2
 replace x4 := x4.later hb26
 replace x9 := (x9.below hb26).any
 replace x12 := x12.later hb26
 replace x14 := x14.later hb26
 replace x21 := (x21.below hb26).any
 replace x25 := x25.later hb26
 replace x27 := x27.later hb26
 try dsimp only
 apply Z.out; clear Z K
 refine fp fun K Z => ?_
 go_simp
 apply Z.out; clear Z K
 refine fp fun K Z => ?_
 go_simp
 apply Z.out; clear Z K
 refine og 28 31 true ?_ fun K Z => ?_
 · (
 simp (decide := true) only [Fact.G, reduceIte, hf.size])
 go_simp
 apply Z.out; clear Z K
 refine og 28 31 true ?_ fun K Z => ?_
 · (
 simp (decide := true) only [Fact.G, reduceIte, hf.size])
 go_simp
 apply Z.out; clear Z K
 refine og 28 31 true ?_ fun K Z => ?_
 · (
 simp (decide := true) only [Fact.G, reduceIte, hf.size])
 go_simp
 obtain ⟨V8, hV8⟩ : ∃ x, World.alloc w26 (.cells #[.string ⟨#[97]⟩, .int .u32 0, .bool false, .string ⟨#[97, 98]⟩, .int .u32 0, .bool true] 42) = x := ⟨_, rfl⟩
 rw [hV8]
 obtain ⟨bV8, x34⟩ := RE.lit hV8 [⟨⟨#[97]⟩, 0, false⟩, ⟨⟨#[97, 98]⟩, 0, true⟩] rfl
 replace hbt := hbt.trans (bV8.mono hbt.size)
 replace d0 := cL bV8 d0
 replace d1 := cL bV8 d1
 replace d2 := cL bV8 d2
 replace x4 := x4.later bV8
 replace x9 := (x9.below bV8).any
 replace x12 := x12.later bV8
 replace x14 := x14.later bV8
 replace x21 := (x21.below bV8).any
 replace x25 := x25.later bV8
 replace x27 := x27.later bV8
 clear hV8
 apply Z.out; clear Z K
 refine og 28 31 true ?_ fun K Z => ?_
 · (
 simp (decide := true) only [Fact.G, reduceIte, hf.size])
 go_simp
 apply Z.out; clear Z K
 refine og 28 31 true ?_ fun K Z => ?_
 · (
 simp (decide := true) only [Fact.G, reduceIte, hf.size])
 go_simp
 apply Z.out; clear Z K
 refine og 28 31 true ?_ fun K Z => ?_
 · (
 simp (decide := true) only [Fact.G, reduceIte, hf.size])
 go_simp
 obtain ⟨V9, hV9⟩ : ∃ x, World.alloc V8 (.cells #[.int .u8 98, .int .u64 0, .int .i64 (0)] 63) = x := ⟨_, rfl⟩
 rw [hV9]
 obtain ⟨bV9, x37⟩ := RA.lit hV9 [⟨98, 0, 0⟩] rfl
 replace hbt := hbt.trans (bV9.mono hbt.size)
 replace d0 := cL bV9 d0
 replace d1 := cL bV9 d1
 replace d2 := cL bV9 d2
 replace x4 := x4.later bV9
 replace x9 := (x9.below bV9).any
 replace x12 := x12.later bV9
 replace x14 := x14.later bV9
 replace x21 := (x21.below bV9).any
 replace x25 := x25.later bV9
 replace x27 := x27.later bV9
 replace x34 := (x34.below bV9).any
 clear hV9
 apply Z.out; clear Z K
 refine og 28 31 true ?_ fun K Z => ?_
 · (
 simp (decide := true) only [Fact.G, reduceIte, hf.size])
 go_simp
 apply Z.out; clear Z K
 refine og 28 31 true ?_ fun K Z => ?_
 · (
 simp (decide := true) only [Fact.G, reduceIte, hf.size])
 go_simp
 apply Z.out; clear Z K
 refine og 28 31 true ?_ fun K Z => ?_
 · (
 simp (decide := true) only [Fact.G, reduceIte, hf.size])
 go_simp
 obtain ⟨V10, hV10⟩ : ∃ x, World.alloc V9 (.cells #[.int .u8 97, .int .u64 0, .int .i64 (1)] 63) = x := ⟨_, rfl⟩
 rw [hV10]
 obtain ⟨bV10, x40⟩ := RA.lit hV10 [⟨97, 0, 1⟩] rfl
 replace hbt := hbt.trans (bV10.mono hbt.size)
 replace d0 := cL bV10 d0
 replace d1 := cL bV10 d1
 replace d2 := cL bV10 d2
 replace x4 := x4.later bV10
 replace x9 := (x9.below bV10).any
 replace x12 := x12.later bV10
 replace x14 := x14.later bV10
 replace x21 := (x21.below bV10).any
 replace x25 := x25.later bV10
 replace x27 := x27.later bV10
 replace x34 := (x34.below bV10).any
 replace x37 := x37.later bV10
 clear hV10
 apply Z.out; clear Z K
 refine og 28 31 true ?_ fun K Z => ?_
 · (
 simp (decide := true) only [Fact.G, reduceIte, hf.size])
 go_simp
 apply Z.out; clear Z K
 refine og 28 31 true ?_ fun K Z => ?_
 · (
 simp (decide := true) only [Fact.G, reduceIte, hf.size])
 go_simp
 obtain ⟨V11, hV11⟩ : ∃ x, World.alloc V10 (.cells #[.slice none 0 0, .bool true, .int .u64 0, .slice (some ⟨V8.heap.size, 0, none⟩) 1 1, .bool true, .int .u64 1, .slice (some ⟨V9.heap.size, 0, none⟩) 1 1, .bool false, .int .u64 0] 61) = x := ⟨_, rfl⟩
 rw [hV11]
 obtain ⟨bV11, x42⟩ := RS.lit hV11 [(.slice none 0 0, ⟨true, 0, []⟩), (.slice (some ⟨V8.heap.size, 0, none⟩) 1 1, ⟨true, 1, [⟨98, 0, 0⟩]⟩), (.slice (some ⟨V9.heap.size, 0, none⟩) 1 1, ⟨false, 0, [⟨97, 0, 1⟩]⟩)] rfl (fun x hx => by simp only [List.mem_cons, List.not_mem_nil, or_false] at hx; rcases hx with rfl | rfl | rfl; all_goals first | exact RA.nil_ | exact x37 | exact x40)
 replace hbt := hbt.trans (bV11.mono hbt.size)
 replace d0 := cL bV11 d0
 replace d1 := cL bV11 d1
 replace d2 := cL bV11 d2
 replace x4 := x4.later bV11
 replace x9 := (x9.below bV11).any
 replace x12 := x12.later bV11
 replace x14 := x14.later bV11
 replace x21 := (x21.below bV11).any
 replace x25 := x25.later bV11
 replace x27 := x27.later bV11
 replace x34 := (x34.below bV11).any
 replace x37 := x37.later bV11
 replace x40 := x40.later bV11
 clear hV11
 apply Z.out; clear Z K
 refine og 28 31 true ?_ fun K Z => ?_
 · (
 simp (decide := true) only [Fact.G, reduceIte, hf.size])
 go_simp
 apply Z.out; clear Z K
 refine og 28 31 true ?_ fun K Z => ?_
 · (
 simp (decide := true) only [Fact.G, reduceIte, hf.size])
 go_simp
 go_at_call 25; refine (made25 V11 [⟨⟨#[97]⟩, 0, false⟩, ⟨⟨#[97, 98]⟩, 0, true⟩] V11.heap.size _ x34 (by decide) (okE_all _ (by kernel_rfl)) _ [⟨true, 0, []⟩, ⟨true, 1, [⟨98, 0, 0⟩]⟩, ⟨false, 0, [⟨97, 0, 1⟩]⟩] 0 x42 (by kernel_rfl) (chk_zero _ (by kernel_rfl)) (by kernel_rfl)).mono ?_; rintro e w41 ⟨rfl, hb41⟩
 replace hbt := hbt.trans (hb41.mono hbt.size)
 replace d0 := cL hb41 d0
 replace d1 := cL hb41 d1
 replace d2 := cL hb41 d2
 replace x4 := x4.later hb41
 replace x9 := (x9.below hb41).any
 replace x12 := x12.later hb41
 replace x14 := x14.later hb41
 replace x21 := (x21.below hb41).any
 replace x25 := x25.later hb41
 replace x27 := x27.later hb41
 replace x34 := (x34.below hb41).any
 replace x37 := x37.later hb41
 replace x40 := x40.later hb41
 replace x42 := x42.later hb41
 try dsimp only
 apply Z.out; clear Z K
 refine fp fun K Z => ?_
 go_simp
 apply Z.out; clear Z K
 refine fp fun K Z => ?_
 go_simp
 apply Z.out; clear Z K
 refine Fact.z hf fun fr1 hf1 hT => ?_
 have hKp := hT 0
 simp (decide := true) only [Fact.G, hf.size, reduceIte] at hKp
 replace hf := hf1; clear hT hf1 s1 b3 b4 b5 b6 b7 b8 b9 b10 b11 b12 b13 b14 b15 b16 b17 b18 b19 b20 b21 b22 b23 b24 b25 b26 b27 b28 b29 b30 b31 b32 b33 b34 b35 b36 b37 b38 b39 b40 b41 b42 b43 b44 b45
 have s0 := hKp; clear hKp
 refine nx (hK3 _ _ ?_)
 refine wp_ret ?_
 exact Fact.ret1 rfl hf s0 ⟨rfl, hbt⟩
end Dw
end Go.Proofs.YtgjfhedgdbbinaaDoor
