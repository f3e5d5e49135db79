/- Dawg: the document's Value, least, Check. -/
import Derived.Test.YtgjfhedgdbbinaaDoorDCheck
import Derived.Test.YtgjfhedgdbbinaaDoorTools
namespace Go.Proofs.YtgjfhedgdbbinaaDoor
open Go.RowKit
set_option linter.unusedSimpArgs false
set_option linter.unusedVariables false
set_option linter.unnecessarySimpa false
namespace Dw

theorem okW_eq (s : ByteArray) : okW s = (decide (1 ≤ s.size) && decide (s.size ≤ 255)) := by
  unfold okW
  have h1 : s.toList.length = s.size := by rw [ByteArray.toList_eq, Array.length_toList]; rfl
  congr 1
  cases hl : s.toList with
  | nil =>
    have h2 : s.size = 0 := by rw [← h1, hl]; rfl
    rw [h2]; rfl
  | cons x l =>
    have h2 : 1 ≤ s.size := by rw [← h1, hl]; simp
    rw [decide_eq_true h2]; rfl
theorem ge_lex (a b : ByteArray) : (!Op.bytesLess a.toList b.toList) = !lexlt (wl a) (wl b) := by rw [less_eq]
theorem least_take1 {es : List Ent} {e : Ent} (h : es[0]? = some e) : leastV ((es.take 1).map wvE) = valE e := by
  cases es with
  | nil => simp at h
  | cons x l => simp at h; subst h; rfl
theorem least_takeS {es : List Ent} {i : Nat} {e : Ent} (h : es[i]? = some e) (h1 : 1 ≤ i) : leastV ((es.take (i + 1)).map wvE) = min (leastV ((es.take i).map wvE)) (valE e) := by
  rw [List.take_add_one, h]
  cases es with
  | nil => simp at h
  | cons x l =>
    obtain ⟨j, rfl⟩ : ∃ j, i = j + 1 := ⟨i - 1, by omega⟩
    simp only [List.take_succ_cons, Option.toList_some, List.cons_append, List.map_cons, List.map_append, List.map_nil, leastV]
    rw [List.foldl_append]
    rfl
set_option maxHeartbeats 4000000 in
set_option maxRecDepth 100000 in
theorem rvalue16g (e : Ent) (he : okE e) (hg : e.gone = true) (w : World) : Calls Tryd.prog 16 #[eval e] w fun e1 w1 => e1 = .returned (.int .u64 (valE e : Nat)) ∧ Below w.heap.size w w1 := by
 refine calls_of_wp Tryd.func16 rfl ?_
 refine Fact.en 9 fun fr hf hT => ?_
 have s0 := hT 0 _ rfl
 clear hT
 simp only [eval] at s0
 have HG := Lib.hid hg; clear hg
 have hw1 := he.1; have hw2 := he.2
 refine Fact.sq fun K1 hK1 => ?_
 refine rg ?_
 refine fp fun K Z => ?_
 go_simp
 apply Z.out; clear Z K
 refine fp fun K Z => ?_
 go_simp
 apply Z.out; clear Z K
 refine Fact.z hf fun fr1 hf1 hT => ?_
 have hKp := hT 1
 simp (decide := true) only [Fact.G, hf.size, reduceIte] at hKp
 replace hf := hf1; clear hT hf1 s0
 have s1 := hKp; clear hKp
 obtain ⟨W0, hW0⟩ : ∃ W0, w.alloc (.cells #[.string e.word, .int .u32 e.weight, .bool e.gone] 42) = W0 := ⟨_, rfl⟩
 try rw [hW0]
 obtain ⟨hb0, -, c1, c2, -, -⟩ := box3 hW0
 clear hW0
 refine nx (hK1 _ _ ?_)
 refine Fact.sq fun K2 hK2 => ?_
 refine Fact.sq fun K3 hK3 => ?_
 refine rg ?_
 have b3 := hf.b 3
 refine fp fun K Z => ?_
 go_simp
 apply Z.out; clear Z K
 refine fp fun K Z => ?_
 go_simp
 apply Z.out; clear Z K
 refine Fact.z hf fun fr1 hf1 hT => ?_
 have hKp : _ ∧ _ := ⟨hT 1, hT 4⟩
 simp (decide := true) only [Fact.G, hf.size, reduceIte, s1] at hKp
 replace hf := hf1; clear hT hf1 s1 b3
 obtain ⟨s1, s4⟩ := hKp
 refine nx (hK3 _ _ ?_)
 rw [HG.out] at s4
 refine Fact.cond_t s4 ?_
 refine Fact.sq fun K4 hK4 => ?_
 refine rg ?_
 refine fp fun K Z => ?_
 go_simp
 apply Z.out; clear Z K
 refine Fact.z hf fun fr1 hf1 hT => ?_
 have hKp := hT 2
 simp (decide := true) only [Fact.G, hf.size, reduceIte] at hKp
 replace hf := hf1; clear hT hf1 s1 s4
 have s2 := hKp; clear hKp
 refine nx (hK4 _ _ ?_)
 refine wp_ret ?_
 refine Fact.then_ret ?_
 exact Fact.ret1 rfl hf s2 ⟨by simp [valE, HG.out], hb0⟩
set_option maxHeartbeats 4000000 in
set_option maxRecDepth 100000 in
theorem rvalue16n (e : Ent) (he : okE e) (hg : e.gone = false) (w : World) : Calls Tryd.prog 16 #[eval e] w fun e1 w1 => e1 = .returned (.int .u64 (valE e : Nat)) ∧ Below w.heap.size w w1 := by
 refine calls_of_wp Tryd.func16 rfl ?_
 refine Fact.en 9 fun fr hf hT => ?_
 have s0 := hT 0 _ rfl
 clear hT
 simp only [eval] at s0
 have HG := Lib.hid hg; clear hg
 have hw1 := he.1; have hw2 := he.2
 refine Fact.sq fun K1 hK1 => ?_
 refine rg ?_
 refine fp fun K Z => ?_
 go_simp
 apply Z.out; clear Z K
 refine fp fun K Z => ?_
 go_simp
 apply Z.out; clear Z K
 refine Fact.z hf fun fr1 hf1 hT => ?_
 have hKp := hT 1
 simp (decide := true) only [Fact.G, hf.size, reduceIte] at hKp
 replace hf := hf1; clear hT hf1 s0
 have s1 := hKp; clear hKp
 obtain ⟨W0, hW0⟩ : ∃ W0, w.alloc (.cells #[.string e.word, .int .u32 e.weight, .bool e.gone] 42) = W0 := ⟨_, rfl⟩
 try rw [hW0]
 obtain ⟨hb0, -, c1, c2, -, -⟩ := box3 hW0
 clear hW0
 refine nx (hK1 _ _ ?_)
 refine Fact.sq fun K2 hK2 => ?_
 refine Fact.sq fun K3 hK3 => ?_
 refine rg ?_
 have b3 := hf.b 3
 refine fp fun K Z => ?_
 go_simp
 apply Z.out; clear Z K
 refine fp fun K Z => ?_
 go_simp
 apply Z.out; clear Z K
 refine Fact.z hf fun fr1 hf1 hT => ?_
 have hKp : _ ∧ _ := ⟨hT 1, hT 4⟩
 simp (decide := true) only [Fact.G, hf.size, reduceIte, s1] at hKp
 replace hf := hf1; clear hT hf1 s1 b3
 obtain ⟨s1, s4⟩ := hKp
 refine nx (hK3 _ _ ?_)
 rw [HG.out] at s4
 refine Fact.cond_f s4 ?_
 refine wp_skip ?_
 refine nx (hK2 _ _ ?_)
 refine Fact.sq fun K4 hK4 => ?_
 refine rg ?_
 have b5 := hf.b 5
 have b6 := hf.b 6
 have b7 := hf.b 7
 have b8 := hf.b 8
 refine fp fun K Z => ?_
 go_simp
 apply Z.out; clear Z K
 refine fp fun K Z => ?_
 go_simp
 apply Z.out; clear Z K
 refine fp fun K Z => ?_
 go_simp
 try simp (disch := omega) only [Fact.wrap_u64]
 apply Z.out; clear Z K
 refine fp fun K Z => ?_
 go_simp
 try simp (disch := omega) only [Fact.W]
 try simp (disch := omega) only [Fact.wrap_u64]
 rw [show e.weight + 1 = ((valE e : Nat) : Int) by simp only [valE, HG.out]; simp; omega]
 apply Z.out; clear Z K
 refine fp fun K Z => ?_
 go_simp
 apply Z.out; clear Z K
 refine Fact.z hf fun fr1 hf1 hT => ?_
 have hKp := hT 2
 simp (decide := true) only [Fact.G, hf.size, reduceIte] at hKp
 replace hf := hf1; clear hT hf1 s1 s4 b5 b6 b7 b8
 have s2 := hKp; clear hKp
 refine nx (hK4 _ _ ?_)
 refine wp_ret ?_
 exact Fact.ret1 rfl hf s2 ⟨rfl, hb0⟩
theorem rvalue16 (e : Ent) (he : okE e) (w : World) : Calls Tryd.prog 16 #[eval e] w fun e1 w1 => e1 = .returned (.int .u64 (valE e : Nat)) ∧ Below w.heap.size w w1 := by
  cases hg : e.gone with
  | true => exact rvalue16g e he hg w
  | false => exact rvalue16n e he hg w

set_option maxHeartbeats 4000000 in
set_option maxRecDepth 100000 in
theorem is60t (s : ByteArray) (h1 : 1 ≤ s.size) (w : World) : Calls Tryd.prog 60 #[.string s] w fun e w1 => e = .returned (.bool (okW s)) ∧ w = w1 := by
 refine calls_of_wp Tryd.func60 rfl ?_
 refine Fact.en 11 fun fr hf hT => ?_
 have s0 := hT 0 _ rfl
 clear hT
 have q1 : decide (1 ≤ (s.size : Int)) = true := by have := h1; simp; omega
 refine Fact.sq fun K1 hK1 => ?_
 refine rg ?_
 refine fp fun K Z => ?_
 go_simp
 apply Z.out; clear Z K
 refine Fact.z hf fun fr1 hf1 hT => ?_
 have hKp := hT 0
 simp (decide := true) only [Fact.G, reduceIte, s0] at hKp
 replace hf := hf1; clear hT hf1 s0
 have s0 := hKp; clear hKp
 refine nx (hK1 _ _ ?_)
 refine Fact.sq fun K2 hK2 => ?_
 refine rg ?_
 have b3 := hf.b 3
 have b4 := hf.b 4
 have b5 := hf.b 5
 have b6 := hf.b 6
 have b7 := hf.b 7
 have b8 := hf.b 8
 have b9 := hf.b 9
 have b10 := hf.b 10
 refine fp fun K Z => ?_
 go_simp
 apply Z.out; clear Z K
 refine fp fun K Z => ?_
 go_simp
 apply Z.out; clear Z K
 refine fp fun K Z => ?_
 go_simp
 apply Z.out; clear Z K
 refine fp fun K Z => ?_
 go_simp
 apply Z.out; clear Z K
 refine og 3 6 true ?_ fun K Z => ?_
 · (
 simp (decide := true) only [Fact.G, reduceIte, hf.size, q1])
 go_simp
 apply Z.out; clear Z K
 refine og 3 6 true ?_ fun K Z => ?_
 · (
 simp (decide := true) only [Fact.G, reduceIte, hf.size, q1])
 go_simp
 apply Z.out; clear Z K
 refine og 3 6 true ?_ fun K Z => ?_
 · (
 simp (decide := true) only [Fact.G, reduceIte, hf.size, q1])
 go_simp
 apply Z.out; clear Z K
 refine fp fun K Z => ?_
 go_simp
 apply Z.out; clear Z K
 refine fp fun K Z => ?_
 go_simp
 apply Z.out; clear Z K
 refine Fact.z hf fun fr1 hf1 hT => ?_
 have hKp := hT 2
 simp (decide := true) only [Fact.G, hf.size, reduceIte] at hKp
 replace hf := hf1; clear hT hf1 s0 b3 b4 b5 b6 b7 b8 b9 b10
 have s2 := hKp; clear hKp
 refine nx (hK2 _ _ ?_)
 refine wp_ret ?_
 refine Fact.ret1 rfl hf s2 ⟨?_, rfl⟩
 rw [okW_eq]
 try rw [q1]
 try rw [decide_eq_false (show ¬ 1 ≤ s.size by omega)]
 try rw [decide_eq_true h1]
 try simp
 try rfl
 try omega
set_option maxHeartbeats 4000000 in
set_option maxRecDepth 100000 in
theorem is60f (s : ByteArray) (h1 : s.size < 1) (w : World) : Calls Tryd.prog 60 #[.string s] w fun e w1 => e = .returned (.bool (okW s)) ∧ w = w1 := by
 refine calls_of_wp Tryd.func60 rfl ?_
 refine Fact.en 11 fun fr hf hT => ?_
 have s0 := hT 0 _ rfl
 clear hT
 have q1 : decide (1 ≤ (s.size : Int)) = false := by have := h1; simp; omega
 refine Fact.sq fun K1 hK1 => ?_
 refine rg ?_
 refine fp fun K Z => ?_
 go_simp
 apply Z.out; clear Z K
 refine Fact.z hf fun fr1 hf1 hT => ?_
 have hKp := hT 0
 simp (decide := true) only [Fact.G, reduceIte, s0] at hKp
 replace hf := hf1; clear hT hf1 s0
 have s0 := hKp; clear hKp
 refine nx (hK1 _ _ ?_)
 refine Fact.sq fun K2 hK2 => ?_
 refine rg ?_
 have b3 := hf.b 3
 have b4 := hf.b 4
 have b5 := hf.b 5
 have b6 := hf.b 6
 have b7 := hf.b 7
 have b8 := hf.b 8
 have b9 := hf.b 9
 have b10 := hf.b 10
 refine fp fun K Z => ?_
 go_simp
 apply Z.out; clear Z K
 refine fp fun K Z => ?_
 go_simp
 apply Z.out; clear Z K
 refine fp fun K Z => ?_
 go_simp
 apply Z.out; clear Z K
 refine fp fun K Z => ?_
 go_simp
 apply Z.out; clear Z K
 refine sk 3 6 true ?_ ?_
 · (
 simp (decide := true) only [Fact.G, reduceIte, hf.size, q1, Fact.N])
 refine sk 3 6 true ?_ ?_
 · (
 simp (decide := true) only [Fact.G, reduceIte, hf.size, q1, Fact.N])
 refine sk 3 6 true ?_ ?_
 · (
 simp (decide := true) only [Fact.G, reduceIte, hf.size, q1, Fact.N])
 refine fp fun K Z => ?_
 go_simp
 apply Z.out; clear Z K
 refine fp fun K Z => ?_
 go_simp
 apply Z.out; clear Z K
 refine Fact.z hf fun fr1 hf1 hT => ?_
 have hKp := hT 2
 simp (decide := true) only [Fact.G, hf.size, reduceIte] at hKp
 replace hf := hf1; clear hT hf1 s0 b3 b4 b5 b6 b7 b8 b9 b10
 have s2 := hKp; clear hKp
 refine nx (hK2 _ _ ?_)
 refine wp_ret ?_
 refine Fact.ret1 rfl hf s2 ⟨?_, rfl⟩
 rw [okW_eq]
 try rw [q1]
 try rw [decide_eq_false (show ¬ 1 ≤ s.size by omega)]
 try rw [decide_eq_true h1]
 try simp
 try rfl
 try omega
theorem is60 (s : ByteArray) (w : World) : Calls Tryd.prog 60 #[.string s] w fun e w1 => e = .returned (.bool (okW s)) ∧ w = w1 := by
  rcases Nat.lt_or_ge s.size 1 with h | h
  · exact is60f s h w
  · exact is60t s h w

set_option maxHeartbeats 4000000 in
set_option maxRecDepth 100000 in
theorem rchk50t (s : ByteArray) (hh : okW s = true) (w : World) : Calls Tryd.prog 50 #[.string s] w fun e w1 => e = .returned (.int .i64 (if okW s then 0 else 7)) ∧ w = w1 := by
 refine calls_of_wp Tryd.func50 rfl ?_
 refine Fact.en 6 fun fr hf hT => ?_
 have s0 := hT 0 _ rfl
 clear hT
 refine Fact.sq fun K1 hK1 => ?_
 refine rg ?_
 refine fp fun K Z => ?_
 go_simp
 apply Z.out; clear Z K
 refine Fact.z hf fun fr1 hf1 hT => ?_
 have hKp := hT 0
 simp (decide := true) only [Fact.G, reduceIte, s0] at hKp
 replace hf := hf1; clear hT hf1 s0
 have s0 := hKp; clear hKp
 refine nx (hK1 _ _ ?_)
 refine Fact.sq fun K2 hK2 => ?_
 refine Fact.sq fun K3 hK3 => ?_
 refine rg ?_
 have b3 := hf.b 3
 have b4 := hf.b 4
 refine fp fun K Z => ?_
 go_simp
 apply Z.out; clear Z K
 refine fp fun K Z => ?_
 go_simp
 go_at_call 60; refine (is60 s w).mono ?_; rintro e w1 ⟨rfl, rfl⟩
 rw [hh]
 try dsimp only
 apply Z.out; clear Z K
 refine fp fun K Z => ?_
 go_simp
 apply Z.out; clear Z K
 refine Fact.z hf fun fr1 hf1 hT => ?_
 have hKp := hT 5
 simp (decide := true) only [Fact.G, hf.size, reduceIte] at hKp
 replace hf := hf1; clear hT hf1 s0 b3 b4
 have s5 := hKp; clear hKp
 refine nx (hK3 _ _ ?_)
 refine Fact.cond_f s5 ?_
 refine wp_skip ?_
 refine nx (hK2 _ _ ?_)
 refine Fact.sq fun K4 hK4 => ?_
 refine rg ?_
 refine fp fun K Z => ?_
 go_simp
 apply Z.out; clear Z K
 refine Fact.z hf fun fr1 hf1 hT => ?_
 have hKp := hT 2
 simp (decide := true) only [Fact.G, hf.size, reduceIte] at hKp
 replace hf := hf1; clear hT hf1 s5
 have s2 := hKp; clear hKp
 refine nx (hK4 _ _ ?_)
 refine wp_ret ?_
 exact Fact.ret1 rfl hf s2 ⟨by rw [hh]; rfl, rfl⟩
set_option maxHeartbeats 4000000 in
set_option maxRecDepth 100000 in
theorem rchk50f (s : ByteArray) (hh : okW s = false) (w : World) : Calls Tryd.prog 50 #[.string s] w fun e w1 => e = .returned (.int .i64 (if okW s then 0 else 7)) ∧ w = w1 := by
 refine calls_of_wp Tryd.func50 rfl ?_
 refine Fact.en 6 fun fr hf hT => ?_
 have s0 := hT 0 _ rfl
 clear hT
 refine Fact.sq fun K1 hK1 => ?_
 refine rg ?_
 refine fp fun K Z => ?_
 go_simp
 apply Z.out; clear Z K
 refine Fact.z hf fun fr1 hf1 hT => ?_
 have hKp := hT 0
 simp (decide := true) only [Fact.G, reduceIte, s0] at hKp
 replace hf := hf1; clear hT hf1 s0
 have s0 := hKp; clear hKp
 refine nx (hK1 _ _ ?_)
 refine Fact.sq fun K2 hK2 => ?_
 refine Fact.sq fun K3 hK3 => ?_
 refine rg ?_
 have b3 := hf.b 3
 have b4 := hf.b 4
 refine fp fun K Z => ?_
 go_simp
 apply Z.out; clear Z K
 refine fp fun K Z => ?_
 go_simp
 go_at_call 60; refine (is60 s w).mono ?_; rintro e w1 ⟨rfl, rfl⟩
 rw [hh]
 try dsimp only
 apply Z.out; clear Z K
 refine fp fun K Z => ?_
 go_simp
 apply Z.out; clear Z K
 refine Fact.z hf fun fr1 hf1 hT => ?_
 have hKp := hT 5
 simp (decide := true) only [Fact.G, hf.size, reduceIte] at hKp
 replace hf := hf1; clear hT hf1 s0 b3 b4
 have s5 := hKp; clear hKp
 refine nx (hK3 _ _ ?_)
 refine Fact.cond_t s5 ?_
 refine Fact.sq fun K4 hK4 => ?_
 refine rg ?_
 refine fp fun K Z => ?_
 go_simp
 apply Z.out; clear Z K
 refine Fact.z hf fun fr1 hf1 hT => ?_
 have hKp := hT 2
 simp (decide := true) only [Fact.G, hf.size, reduceIte] at hKp
 replace hf := hf1; clear hT hf1 s5
 have s2 := hKp; clear hKp
 refine nx (hK4 _ _ ?_)
 refine wp_ret ?_
 refine Fact.then_ret ?_
 exact Fact.ret1 rfl hf s2 ⟨by rw [hh]; rfl, rfl⟩
theorem rchk50 (s : ByteArray) (w : World) : Calls Tryd.prog 50 #[.string s] w fun e w1 => e = .returned (.int .i64 (if okW s then 0 else 7)) ∧ w = w1 := by
  cases h : okW s with
  | true => have := rchk50t s h w; rw [h] at this; exact this
  | false => have := rchk50f s h w; rw [h] at this; exact this

set_option maxHeartbeats 4000000 in
set_option maxRecDepth 100000 in
theorem rchk38 (w : World) (es : List Ent) (B : Nat) (v : Value) (hB : B ≤ w.heap.size) (hre : RE w B v es) (hlen : es.length ≤ 1000000) : Calls Tryd.prog 38 #[v] w fun e w1 => ∃ n : Int, e = .returned (.tuple #[.int .i64 n, .int .i64 (chkN es : Nat)]) ∧ Below w.heap.size w w1 := by
 refine calls_of_wp Tryd.func38 rfl ?_
 refine Fact.en 36 fun fr hf hT => ?_
 have s0 := hT 0 _ rfl
 clear hT
 have hre0 := hre.any
 obtain ⟨A, cc, rfl, hcc⟩ := hre.form
 clear hre
 refine Fact.sq fun K1 hK1 => ?_
 refine rg ?_
 refine fp fun K Z => ?_
 go_simp
 apply Z.out; clear Z K
 refine fp fun K Z => ?_
 go_simp
 apply Z.out; clear Z K
 refine Fact.z hf fun fr1 hf1 hT => ?_
 have hKp := hT 0
 simp (decide := true) only [Fact.G, reduceIte, s0] at hKp
 replace hf := hf1; clear hT hf1 s0
 have s0 := hKp; clear hKp
 refine nx (hK1 _ _ ?_)
 refine Fact.sq fun K2 hK2 => ?_
 refine Fact.sq fun K3 hK3 => ?_
 refine rg ?_
 refine fp fun K Z => ?_
 go_simp
 apply Z.out; clear Z K
 refine Fact.z hf fun fr1 hf1 hT => ?_
 have hKp : _ ∧ _ := ⟨hT 0, hT 4⟩
 simp (decide := true) only [Fact.G, hf.size, reduceIte, s0] at hKp
 replace hf := hf1; clear hT hf1 s0
 obtain ⟨s0, s4⟩ := hKp
 refine nx (hK3 _ _ ?_)
 refine wp_block ?_
 refine wp_loop_ghost (fun gk fr wr => ∃ (i : Nat), gk = es.length - i ∧ i ≤ es.length ∧ Fact.Fr 36 fr ∧ fr.tmps[0]? = some (.slice A es.length cc) ∧ fr.tmps[4]? = some (.int .i64 i) ∧ chkN es = chkL (prevW es i) (es.drop i) ∧ Below w.heap.size w wr) (es.length) ?_ ?_
 · (
 exact ⟨0, rfl, Nat.zero_le _, hf, s0, s4, rfl, Below.refl _ _⟩)
 · (
 clear hf s0 s4
 rintro gk fr wr ⟨i, hk, hi, hf, s0, s4, hch, hb⟩
 have HK := Lib.hid hk; have HC := Lib.hid hch; clear hk hch
 refine Fact.sq fun K4 hK4 => ?_
 refine Fact.sq fun K5 hK5 => ?_
 refine rg ?_
 have b5 := hf.b 5
 have b6 := hf.b 6
 have b7 := hf.b 7
 refine fp fun K Z => ?_
 go_simp
 apply Z.out; clear Z K
 refine fp fun K Z => ?_
 go_simp
 apply Z.out; clear Z K
 refine fp fun K Z => ?_
 go_simp
 apply Z.out; clear Z K
 refine fp fun K Z => ?_
 go_simp
 apply Z.out; clear Z K
 refine Fact.z hf fun fr1 hf1 hT => ?_
 have hKp : _ ∧ _ ∧ _ := ⟨hT 0, hT 4, hT 8⟩
 simp (decide := true) only [Fact.G, hf.size, reduceIte, s0, s4] at hKp
 replace hf := hf1; clear hT hf1 s0 s4 b5 b6 b7
 obtain ⟨s0, s4, s8⟩ := hKp
 refine nx (hK5 _ _ ?_)
 refine Fact.cond_s s8 (fun hq => ?_) (fun hq => ?_)
 · (
 have hlt : i < es.length := by have h9 := of_decide_eq_true hq; omega
 have HQ := Lib.hid hq; clear hq
 obtain ⟨e, hie⟩ : ∃ e, es[i]? = some e := ⟨_, List.getElem?_eq_getElem hlt⟩
 obtain ⟨b, off, rfl, hbB, hbl, d0, d1, d2⟩ := (hre0.below hb).at_ hie
 have hst := chk_step hie
 have HE := Lib.hid hie; have HST := Lib.hid hst; clear hie hst
 refine wp_skip ?_
 refine nx (hK4 _ _ ?_)
 refine Fact.sq fun K6 hK6 => ?_
 refine wp_block ?_
 refine Fact.sq fun K7 hK7 => ?_
 refine Fact.sq fun K8 hK8 => ?_
 refine rg ?_
 have b11 := hf.b 11
 have b12 := hf.b 12
 have b13 := hf.b 13
 have b14 := hf.b 14
 have b15 := hf.b 15
 have b16 := hf.b 16
 refine fp fun K Z => ?_
 go_simp
 apply Z.out; clear Z K
 refine fp fun K Z => ?_
 go_simp
 apply Z.out; clear Z K
 refine fp fun K Z => ?_
 go_simp
 try rw [if_pos (by omega)]
 apply Z.out; clear Z K
 refine fp fun K Z => ?_
 go_simp
 apply Z.out; clear Z K
 refine fp fun K Z => ?_
 go_simp
 apply Z.out; clear Z K
 refine fp fun K Z => ?_
 go_simp
 go_at_call 50; refine (rchk50 e.word wr).mono ?_; rintro e w5 ⟨rfl, rfl⟩
 try dsimp only
 apply Z.out; clear Z K
 refine fp fun K Z => ?_
 go_simp
 apply Z.out; clear Z K
 refine Fact.z hf fun fr1 hf1 hT => ?_
 have hKp : _ ∧ _ ∧ _ := ⟨hT 0, hT 4, hT 17⟩
 simp (decide := true) only [Fact.G, hf.size, reduceIte, s0, s4] at hKp
 replace hf := hf1; clear hT hf1 s0 s4 s8 b11 b12 b13 b14 b15 b16
 obtain ⟨s0, s4, s17⟩ := hKp
 refine nx (hK8 _ _ ?_)
 rcases hok : okW e.word with _ | _
 · (
 have H1 := Lib.hid hok; clear hok
 have hs17 : fr1.tmps[17]? = some (.bool true) := by rw [s17, H1.out]; rfl
 clear s17
 have s17 := hs17; clear hs17
 refine Fact.cond_t s17 ?_
 refine Fact.sq fun K9 hK9 => ?_
 refine rg ?_
 have b18 := hf.b 18
 refine fp fun K Z => ?_
 go_simp
 apply Z.out; clear Z K
 refine fp fun K Z => ?_
 go_simp
 apply Z.out; clear Z K
 refine fp fun K Z => ?_
 go_simp
 apply Z.out; clear Z K
 refine Fact.z hf fun fr1 hf1 hT => ?_
 have hKp : _ ∧ _ := ⟨hT 2, hT 3⟩
 simp (decide := true) only [Fact.G, hf.size, reduceIte] at hKp
 replace hf := hf1; clear hT hf1 s0 s4 s17 b18
 obtain ⟨s2, s3⟩ := hKp
 refine nx (hK9 _ _ ?_)
 refine wp_ret ?_
 refine Fact.then_ret ?_
 refine Fact.block_ret ?_
 refine Fact.then_ret ?_
 refine Fact.then_ret ?_
 refine Fact.block_ret ?_
 refine Fact.then_ret ?_
 exact Fact.ret2 rfl hf s2 s3 ⟨i, by rw [HC.out, HST.out, H1.out]; rfl, hb⟩)
 · (
 rcases Nat.eq_zero_or_pos i with hi0 | hi0
 · (
 have H1 := Lib.hid hok; clear hok
 have hs17 : fr1.tmps[17]? = some (.bool false) := by rw [s17, H1.out]; rfl
 clear s17
 have s17 := hs17; clear hs17
 refine Fact.cond_f s17 ?_
 have HI0 := Lib.hid hi0
 have q1 : decide (0 < i) = false := decide_eq_false (by omega)
 clear hi0
 refine wp_skip ?_
 refine nx (hK7 _ _ ?_)
 refine Fact.sq fun K10 hK10 => ?_
 refine Stab.tb 36 fun hok => ?_
 refine Stab.mO 0 s4 hf hok ?_
 apply Stab.tq 1 _ hf hok
 · (
 intro fr1 w1 hh hd hk K Z
 have s19 := Stab.v 0 0 hd hk []
 clear hd
 go_simp
 exact Stab.k Z)
 refine Stab.mN 2 1 0 hf hok [] ?_
 apply Stab.tr 3 _ hf hok
 · (
 intro fr1 w1 hh hd hk K Z
 have s21 := Stab.v 2 0 hd hk []
 refine Stab.sk s21 ?_
 exact Stab.k Z)
 apply Stab.tr 4 _ hf hok
 · (
 intro fr1 w1 hh hd hk K Z
 have s21 := Stab.v 2 1 hd hk []
 refine Stab.sk s21 ?_
 exact Stab.k Z)
 apply Stab.tr 5 _ hf hok
 · (
 intro fr1 w1 hh hd hk K Z
 have s21 := Stab.v 2 2 hd hk []
 refine Stab.sk s21 ?_
 exact Stab.k Z)
 apply Stab.tr 6 _ hf hok
 · (
 intro fr1 w1 hh hd hk K Z
 have s21 := Stab.v 2 3 hd hk []
 refine Stab.sk s21 ?_
 exact Stab.k Z)
 apply Stab.tr 7 _ hf hok
 · (
 intro fr1 w1 hh hd hk K Z
 have s21 := Stab.v 2 4 hd hk []
 refine Stab.sk s21 ?_
 exact Stab.k Z)
 apply Stab.tr 8 _ hf hok
 · (
 intro fr1 w1 hh hd hk K Z
 have s21 := Stab.v 2 5 hd hk []
 refine Stab.sk s21 ?_
 exact Stab.k Z)
 apply Stab.tr 9 _ hf hok
 · (
 intro fr1 w1 hh hd hk K Z
 have s21 := Stab.v 2 6 hd hk []
 refine Stab.sk s21 ?_
 exact Stab.k Z)
 apply Stab.tr 10 _ hf hok
 · (
 intro fr1 w1 hh hd hk K Z
 have s21 := Stab.v 2 7 hd hk []
 refine Stab.sk s21 ?_
 exact Stab.k Z)
 apply Stab.tr 11 _ hf hok
 · (
 intro fr1 w1 hh hd hk K Z
 have s21 := Stab.v 2 8 hd hk []
 refine Stab.sk s21 ?_
 exact Stab.k Z)
 apply Stab.tr 12 _ hf hok
 · (
 intro fr1 w1 hh hd hk K Z
 have s21 := Stab.v 2 9 hd hk []
 refine Stab.sk s21 ?_
 exact Stab.k Z)
 apply Stab.tr 13 _ hf hok
 · (
 intro fr1 w1 hh hd hk K Z
 have s21 := Stab.v 2 10 hd hk []
 refine Stab.sk s21 ?_
 exact Stab.k Z)
 apply Stab.tr 14 _ hf hok
 · (
 intro fr1 w1 hh hd hk K Z
 have s21 := Stab.v 2 11 hd hk []
 refine Stab.sk s21 ?_
 exact Stab.k Z)
 apply Stab.tq 15 _ hf hok
 · (
 intro fr1 w1 hh hd hk K Z
 have s21 := Stab.v 2 12 hd hk []
 have s33 := Stab.v 14 0 hd hk []
 clear hd
 go_simp
 exact Stab.k Z)
 refine Stab.tf hf hok fun fr1 w1 hh hg => ?_
 replace s0 := Stab.O hh s0
 replace s4 := Stab.O hh s4
 have s34 := Stab.f 15 0 hg
 have hf1 := hh.fr hf
 have hx := hh.ext
 clear hg hh hf hok s17
 have hf := hf1; clear hf1
 refine nx (hK10 _ _ ?_)
 refine Fact.cond_f s34 ?_
 have hfin : chkN es = chkL (some (wl e.word)) (es.drop (i + 1)) := by rw [HC.out, HST.out, H1.out, prev_zero HI0.out]; rfl
 have HF := Lib.hid hfin; clear hfin
 have hbz := hb.trans (hx.mono hb.size)
 refine wp_skip ?_
 refine Fact.block_normal ?_
 refine nx (hK6 _ _ ?_)
 refine rg ?_
 have b9 := hf.b 9
 have b10 := hf.b 10
 refine fp fun K Z => ?_
 go_simp
 apply Z.out; clear Z K
 refine fp fun K Z => ?_
 go_simp
 try simp (disch := omega) only [Fact.W]
 apply Z.out; clear Z K
 refine fp fun K Z => ?_
 go_simp
 apply Z.out; clear Z K
 refine Fact.z hf fun fr1 hf1 hT => ?_
 have hKp : _ ∧ _ := ⟨hT 0, hT 4⟩
 simp (decide := true) only [Fact.G, hf.size, reduceIte, s0] at hKp
 replace hf := hf1; clear hT hf1 s0 s4 s34 b9 b10
 obtain ⟨s0, s4⟩ := hKp
 refine Fact.then_normal ?_
 exact ⟨_, by have := HK.out; omega, i + 1, rfl, by omega, hf, s0, by rw [s4]; rfl, by rw [HF.out, prevW_succ HE.out], hbz⟩)
 · (
 have H1 := Lib.hid hok; clear hok
 have hs17 : fr1.tmps[17]? = some (.bool false) := by rw [s17, H1.out]; rfl
 clear s17
 have s17 := hs17; clear hs17
 refine Fact.cond_f s17 ?_
 have q1 : decide (0 < i) = true := decide_eq_true hi0
 obtain ⟨p, hip⟩ : ∃ p, es[i - 1]? = some p := ⟨_, List.getElem?_eq_getElem (by omega)⟩
 obtain ⟨b2, off2, he2, hbB2, hbl2, y0, y1, y2⟩ := (hre0.below hb).at_ hip
 injection he2 with he2
 injection he2 with he2 he3
 subst he2; subst he3
 have HP := Lib.hid hip; clear hip y1 y2 d1 d2
 have hi1 : (i : Int) - 1 = ((i - 1 : Nat) : Int) := by omega
 refine wp_skip ?_
 refine nx (hK7 _ _ ?_)
 refine Fact.sq fun K11 hK11 => ?_
 refine Stab.tb 36 fun hok => ?_
 refine Stab.mO 0 s4 hf hok ?_
 apply Stab.tq 1 _ hf hok
 · (
 intro fr1 w1 hh hd hk K Z
 have s19 := Stab.v 0 0 hd hk []
 clear hd
 go_simp
 exact Stab.k Z)
 refine Stab.mN 2 1 0 hf hok [] ?_
 apply Stab.tr 3 _ hf hok
 · (
 intro fr1 w1 hh hd hk K Z
 have s21 := Stab.v 2 0 hd hk []
 refine Stab.g s21 ?_
 have s0 := Stab.O hh s0
 clear hd
 go_simp
 exact Stab.k Z)
 apply Stab.tr 4 _ hf hok
 · (
 intro fr1 w1 hh hd hk K Z
 have s21 := Stab.v 2 1 hd hk []
 refine Stab.g s21 ?_
 have s4 := Stab.O hh s4
 clear hd
 go_simp
 exact Stab.k Z)
 apply Stab.tr 5 _ hf hok
 · (
 intro fr1 w1 hh hd hk K Z
 have s21 := Stab.v 2 2 hd hk []
 refine Stab.g s21 ?_
 have s23 := Stab.v 4 0 hd hk []
 clear hd
 go_simp
 try simp (disch := omega) only [Fact.W]
 try rw [hi1]
 exact Stab.k Z)
 apply Stab.tr 6 _ hf hok
 · (
 intro fr1 w1 hh hd hk K Z
 have s21 := Stab.v 2 3 hd hk []
 refine Stab.g s21 ?_
 have s22 := Stab.v 3 2 hd hk []
 have s24 := Stab.v 5 0 hd hk []
 clear hd
 go_simp
 try rw [if_pos (by omega)]
 exact Stab.k Z)
 apply Stab.tr 7 _ hf hok
 · (
 intro fr1 w1 hh hd hk K Z
 have s21 := Stab.v 2 4 hd hk []
 refine Stab.g s21 ?_
 have s25 := Stab.v 6 0 hd hk []
 clear hd
 go_simp
 exact Stab.k Z)
 apply Stab.tr 8 _ hf hok
 · (
 intro fr1 w1 hh hd hk K Z
 have s21 := Stab.v 2 5 hd hk []
 refine Stab.g s21 ?_
 have s26 := Stab.v 7 0 hd hk []
 clear hd
 replace d0 := cL hh.ext d0
 replace y0 := cL hh.ext y0
 go_simp
 exact Stab.k Z)
 apply Stab.tr 9 _ hf hok
 · (
 intro fr1 w1 hh hd hk K Z
 have s21 := Stab.v 2 6 hd hk []
 refine Stab.g s21 ?_
 have s0 := Stab.O hh s0
 clear hd
 go_simp
 exact Stab.k Z)
 apply Stab.tr 10 _ hf hok
 · (
 intro fr1 w1 hh hd hk K Z
 have s21 := Stab.v 2 7 hd hk []
 refine Stab.g s21 ?_
 have s4 := Stab.O hh s4
 clear hd
 go_simp
 exact Stab.k Z)
 apply Stab.tr 11 _ hf hok
 · (
 intro fr1 w1 hh hd hk K Z
 have s21 := Stab.v 2 8 hd hk []
 refine Stab.g s21 ?_
 have s28 := Stab.v 9 1 hd hk []
 have s29 := Stab.v 10 0 hd hk []
 clear hd
 go_simp
 try rw [if_pos (by omega)]
 exact Stab.k Z)
 apply Stab.tr 12 _ hf hok
 · (
 intro fr1 w1 hh hd hk K Z
 have s21 := Stab.v 2 9 hd hk []
 refine Stab.g s21 ?_
 have s30 := Stab.v 11 0 hd hk []
 clear hd
 go_simp
 exact Stab.k Z)
 apply Stab.tr 13 _ hf hok
 · (
 intro fr1 w1 hh hd hk K Z
 have s21 := Stab.v 2 10 hd hk []
 refine Stab.g s21 ?_
 have s31 := Stab.v 12 0 hd hk []
 clear hd
 replace d0 := cL hh.ext d0
 replace y0 := cL hh.ext y0
 go_simp
 exact Stab.k Z)
 apply Stab.tr 14 _ hf hok
 · (
 intro fr1 w1 hh hd hk K Z
 have s21 := Stab.v 2 11 hd hk []
 refine Stab.g s21 ?_
 have s27 := Stab.v 8 5 hd hk []
 have s32 := Stab.v 13 0 hd hk []
 clear hd
 go_simp
 exact Stab.k Z)
 apply Stab.tq 15 _ hf hok
 · (
 intro fr1 w1 hh hd hk K Z
 have s21 := Stab.v 2 12 hd hk []
 have s33 := Stab.v 14 0 hd hk []
 clear hd
 go_simp
 exact Stab.k Z)
 refine Stab.tf hf hok fun fr1 w1 hh hg => ?_
 replace s0 := Stab.O hh s0
 replace s4 := Stab.O hh s4
 have s34 := Stab.f 15 0 hg
 have hf1 := hh.fr hf
 have hx := hh.ext
 replace d0 := cL hx d0
 replace y0 := cL hx y0
 clear hg hh hf hok s17
 have hf := hf1; clear hf1
 refine nx (hK11 _ _ ?_)
 refine Fact.cond_s s34 (fun hq2 => ?_) (fun hq2 => ?_)
 · (
 rw [ge_lex] at hq2
 have HQ2 := Lib.hid hq2; clear hq2
 have hbz := hb.trans (hx.mono hb.size)
 refine Fact.sq fun K12 hK12 => ?_
 refine rg ?_
 have b35 := hf.b 35
 refine fp fun K Z => ?_
 go_simp
 apply Z.out; clear Z K
 refine fp fun K Z => ?_
 go_simp
 apply Z.out; clear Z K
 refine fp fun K Z => ?_
 go_simp
 apply Z.out; clear Z K
 refine Fact.z hf fun fr1 hf1 hT => ?_
 have hKp : _ ∧ _ := ⟨hT 2, hT 3⟩
 simp (decide := true) only [Fact.G, hf.size, reduceIte] at hKp
 replace hf := hf1; clear hT hf1 s0 s4 s34 b35
 obtain ⟨s2, s3⟩ := hKp
 refine nx (hK12 _ _ ?_)
 refine wp_ret ?_
 refine Fact.block_ret ?_
 refine Fact.then_ret ?_
 refine Fact.then_ret ?_
 refine Fact.block_ret ?_
 refine Fact.then_ret ?_
 exact Fact.ret2 rfl hf s2 s3 ⟨i, by rw [HC.out, HST.out, H1.out, prev_succ hi0 HP.out]; simp only [(Bool.not_eq_true' _).mp HQ2.out, if_true, Bool.false_eq_true, if_false]; rfl, hbz⟩)
 · (
 rw [ge_lex] at hq2
 have HQ2 := Lib.hid hq2; clear hq2
 have hbz := hb.trans (hx.mono hb.size)
 have hfin : chkN es = chkL (some (wl e.word)) (es.drop (i + 1)) := by rw [HC.out, HST.out, H1.out, prev_succ hi0 HP.out]; simp only [(Bool.not_eq_false' _).mp HQ2.out, if_true]
 have HF := Lib.hid hfin; clear hfin
 refine wp_skip ?_
 refine Fact.block_normal ?_
 refine nx (hK6 _ _ ?_)
 refine rg ?_
 have b9 := hf.b 9
 have b10 := hf.b 10
 refine fp fun K Z => ?_
 go_simp
 apply Z.out; clear Z K
 refine fp fun K Z => ?_
 go_simp
 try simp (disch := omega) only [Fact.W]
 apply Z.out; clear Z K
 refine fp fun K Z => ?_
 go_simp
 apply Z.out; clear Z K
 refine Fact.z hf fun fr1 hf1 hT => ?_
 have hKp : _ ∧ _ := ⟨hT 0, hT 4⟩
 simp (decide := true) only [Fact.G, hf.size, reduceIte, s0] at hKp
 replace hf := hf1; clear hT hf1 s0 s4 s34 b9 b10
 obtain ⟨s0, s4⟩ := hKp
 refine Fact.then_normal ?_
 exact ⟨_, by have := HK.out; omega, i + 1, rfl, by omega, hf, s0, by rw [s4]; rfl, by rw [HF.out, prevW_succ HE.out], hbz⟩))))
 · (
 have hie : i = es.length := by have h9 := of_decide_eq_false hq; omega
 have HIE := Lib.hid hie; clear hie hq
 refine wp_exit ?_
 refine Fact.then_exit ?_
 refine Fact.then_exit ?_
 refine Fact.block_exit ?_
 refine nx (hK2 _ _ ?_)
 refine Fact.sq fun K13 hK13 => ?_
 refine rg ?_
 refine fp fun K Z => ?_
 go_simp
 apply Z.out; clear Z K
 refine fp fun K Z => ?_
 go_simp
 apply Z.out; clear Z K
 refine Fact.z hf fun fr1 hf1 hT => ?_
 have hKp : _ ∧ _ := ⟨hT 2, hT 3⟩
 simp (decide := true) only [Fact.G, hf.size, reduceIte] at hKp
 replace hf := hf1; clear hT hf1 s0 s4 s8
 obtain ⟨s2, s3⟩ := hKp
 refine nx (hK13 _ _ ?_)
 refine wp_ret ?_
 exact Fact.ret2 rfl hf s2 s3 ⟨-1, by rw [HC.out, List.drop_eq_nil_of_le (by have := HIE.out; omega)]; rfl, hb⟩))
set_option maxHeartbeats 4000000 in
set_option maxRecDepth 100000 in
theorem least39 (w : World) (es : List Ent) (B : Nat) (v : Value) (hB : B ≤ w.heap.size) (hre : RE w B v es) (hes : ∀ e ∈ es, okE e) (h0 : 0 < es.length) (hlen : es.length ≤ 1000000) : Calls Tryd.prog 39 #[v] w fun e w1 => e = .returned (.int .u64 (leastV (es.map wvE) : Nat)) ∧ Below w.heap.size w w1 := by
 refine calls_of_wp Tryd.func39 rfl ?_
 refine Fact.en 23 fun fr hf hT => ?_
 have s0 := hT 0 _ rfl
 clear hT
 have hre0 := hre.any
 obtain ⟨A, cc, rfl, hcc⟩ := hre.form
 clear hre
 have HO := Lib.hid hes; clear hes
 obtain ⟨e0, he0⟩ : ∃ e, es[0]? = some e := ⟨_, List.getElem?_eq_getElem h0⟩
 obtain ⟨b, off, rfl, hbB, hbl, d0, d1, d2⟩ := hre0.at_ he0
 simp only [Nat.zero_mul, Nat.add_zero] at d0 d1 d2
 have hoe := HO.out e0 (List.mem_of_getElem? he0)
 have HE := Lib.hid he0; clear he0
 refine Fact.sq fun K1 hK1 => ?_
 refine rg ?_
 refine fp fun K Z => ?_
 go_simp
 apply Z.out; clear Z K
 refine Fact.z hf fun fr1 hf1 hT => ?_
 have hKp := hT 0
 simp (decide := true) only [Fact.G, reduceIte, s0] at hKp
 replace hf := hf1; clear hT hf1 s0
 have s0 := hKp; clear hKp
 refine nx (hK1 _ _ ?_)
 refine Fact.sq fun K2 hK2 => ?_
 refine rg ?_
 have b5 := hf.b 5
 have b6 := hf.b 6
 have b7 := hf.b 7
 have b8 := hf.b 8
 refine fp fun K Z => ?_
 go_simp
 apply Z.out; clear Z K
 refine fp fun K Z => ?_
 go_simp
 try rw [if_pos (by omega)]
 apply Z.out; clear Z K
 refine fp fun K Z => ?_
 go_simp
 apply Z.out; clear Z K
 refine fp fun K Z => ?_
 go_simp
 go_at_call 16; refine (rvalue16 e0 hoe w).mono ?_; rintro e w1 ⟨rfl, hb1⟩
 try dsimp only
 apply Z.out; clear Z K
 refine fp fun K Z => ?_
 go_simp
 apply Z.out; clear Z K
 refine Fact.z hf fun fr1 hf1 hT => ?_
 have hKp : _ ∧ _ := ⟨hT 0, hT 3⟩
 simp (decide := true) only [Fact.G, hf.size, reduceIte, s0] at hKp
 replace hf := hf1; clear hT hf1 s0 b5 b6 b7 b8
 obtain ⟨s0, s3⟩ := hKp
 refine nx (hK2 _ _ ?_)
 refine Fact.sq fun K3 hK3 => ?_
 refine Fact.sq fun K4 hK4 => ?_
 refine rg ?_
 refine fp fun K Z => ?_
 go_simp
 apply Z.out; clear Z K
 refine Fact.z hf fun fr1 hf1 hT => ?_
 have hKp : _ ∧ _ ∧ _ := ⟨hT 0, hT 3, hT 4⟩
 simp (decide := true) only [Fact.G, hf.size, reduceIte, s0, s3] at hKp
 replace hf := hf1; clear hT hf1 s0 s3
 obtain ⟨s0, s3, s4⟩ := hKp
 refine nx (hK4 _ _ ?_)
 refine wp_block ?_
 refine wp_loop_ghost (fun gk fr wr => ∃ (i : Nat), gk = es.length - i ∧ 1 ≤ i ∧ i ≤ es.length ∧ Fact.Fr 23 fr ∧ fr.tmps[0]? = some (.slice (some ⟨b, off, none⟩) es.length cc) ∧ fr.tmps[3]? = some (.int .u64 (leastV ((es.take i).map wvE) : Nat)) ∧ fr.tmps[4]? = some (.int .i64 i) ∧ Below w.heap.size w wr) (es.length - 1) ?_ ?_
 · (
 exact ⟨1, rfl, Nat.le_refl _, h0, hf, s0, by rw [s3, least_take1 HE.out], s4, hb1⟩)
 · (
 clear hf s0 s3 s4
 rintro gk fr wr ⟨i, hk, hi1, hi, hf, s0, s3, s4, hb⟩
 have HK := Lib.hid hk; clear hk d0 d1 d2 hoe
 refine Fact.sq fun K5 hK5 => ?_
 refine Fact.sq fun K6 hK6 => ?_
 refine rg ?_
 have b9 := hf.b 9
 have b10 := hf.b 10
 have b11 := hf.b 11
 refine fp fun K Z => ?_
 go_simp
 apply Z.out; clear Z K
 refine fp fun K Z => ?_
 go_simp
 apply Z.out; clear Z K
 refine fp fun K Z => ?_
 go_simp
 apply Z.out; clear Z K
 refine fp fun K Z => ?_
 go_simp
 apply Z.out; clear Z K
 refine Fact.z hf fun fr1 hf1 hT => ?_
 have hKp : _ ∧ _ ∧ _ ∧ _ := ⟨hT 0, hT 3, hT 4, hT 12⟩
 simp (decide := true) only [Fact.G, hf.size, reduceIte, s0, s3, s4] at hKp
 replace hf := hf1; clear hT hf1 s0 s3 s4 b9 b10 b11
 obtain ⟨s0, s3, s4, s12⟩ := hKp
 refine nx (hK6 _ _ ?_)
 refine Fact.cond_s s12 (fun hq => ?_) (fun hq => ?_)
 · (
 have hlt : i < es.length := by have h9 := of_decide_eq_true hq; omega
 have HQ := Lib.hid hq; clear hq
 obtain ⟨e, hie⟩ : ∃ e, es[i]? = some e := ⟨_, List.getElem?_eq_getElem hlt⟩
 obtain ⟨b2, off2, he2, hbB2, hbl2, d0, d1, d2⟩ := (hre0.below hb).at_ hie
 injection he2 with he2
 injection he2 with he2 he3
 subst he2; subst he3
 have hoe := HO.out e (List.mem_of_getElem? hie)
 have hls := least_takeS hie hi1
 have HI := Lib.hid hie; have HLS := Lib.hid hls; clear hie hls
 refine wp_skip ?_
 refine nx (hK5 _ _ ?_)
 refine Fact.sq fun K7 hK7 => ?_
 refine wp_block ?_
 refine rg ?_
 have b15 := hf.b 15
 have b16 := hf.b 16
 have b17 := hf.b 17
 have b18 := hf.b 18
 have b19 := hf.b 19
 have b20 := hf.b 20
 have b21 := hf.b 21
 refine fp fun K Z => ?_
 go_simp
 apply Z.out; clear Z K
 refine fp fun K Z => ?_
 go_simp
 apply Z.out; clear Z K
 refine fp fun K Z => ?_
 go_simp
 apply Z.out; clear Z K
 refine fp fun K Z => ?_
 go_simp
 try rw [if_pos (by omega)]
 apply Z.out; clear Z K
 refine fp fun K Z => ?_
 go_simp
 apply Z.out; clear Z K
 refine fp fun K Z => ?_
 go_simp
 go_at_call 16; refine (rvalue16 e hoe wr).mono ?_; rintro e w5 ⟨rfl, hb5⟩
 try dsimp only
 apply Z.out; clear Z K
 refine fp fun K Z => ?_
 go_simp
 rw [show (if valE e < leastV (List.take i (List.map wvE es)) then ((valE e : Nat) : Int) else ((leastV (List.take i (List.map wvE es)) : Nat) : Int)) = ((leastV ((es.take (i + 1)).map wvE) : Nat) : Int) by rw [HLS.out, ← List.map_take]; split <;> omega]
 apply Z.out; clear Z K
 refine fp fun K Z => ?_
 go_simp
 apply Z.out; clear Z K
 refine Fact.z hf fun fr1 hf1 hT => ?_
 have hKp : _ ∧ _ ∧ _ := ⟨hT 0, hT 3, hT 4⟩
 simp (decide := true) only [Fact.G, hf.size, reduceIte, s0, s4] at hKp
 replace hf := hf1; clear hT hf1 s0 s3 s4 s12 b15 b16 b17 b18 b19 b20 b21
 obtain ⟨s0, s3, s4⟩ := hKp
 refine Fact.block_normal ?_
 refine nx (hK7 _ _ ?_)
 refine rg ?_
 have b13 := hf.b 13
 have b14 := hf.b 14
 refine fp fun K Z => ?_
 go_simp
 apply Z.out; clear Z K
 refine fp fun K Z => ?_
 go_simp
 try simp (disch := omega) only [Fact.W]
 apply Z.out; clear Z K
 refine fp fun K Z => ?_
 go_simp
 apply Z.out; clear Z K
 refine Fact.z hf fun fr1 hf1 hT => ?_
 have hKp : _ ∧ _ ∧ _ := ⟨hT 0, hT 3, hT 4⟩
 simp (decide := true) only [Fact.G, hf.size, reduceIte, s0, s3] at hKp
 replace hf := hf1; clear hT hf1 s0 s3 s4 b13 b14
 obtain ⟨s0, s3, s4⟩ := hKp
 refine Fact.then_normal ?_
 exact ⟨_, by have := HK.out; omega, i + 1, rfl, by omega, by omega, hf, s0, by rw [s3, List.map_take], by rw [s4]; rfl, hb.trans (hb5.mono hb.size)⟩)
 · (
 have hie : i = es.length := by have h9 := of_decide_eq_false hq; omega
 have HIE := Lib.hid hie; clear hie hq
 refine wp_exit ?_
 refine Fact.then_exit ?_
 refine Fact.then_exit ?_
 refine Fact.block_exit ?_
 refine nx (hK3 _ _ ?_)
 refine Fact.sq fun K8 hK8 => ?_
 refine rg ?_
 have b22 := hf.b 22
 refine fp fun K Z => ?_
 go_simp
 apply Z.out; clear Z K
 refine fp fun K Z => ?_
 go_simp
 apply Z.out; clear Z K
 refine Fact.z hf fun fr1 hf1 hT => ?_
 have hKp := hT 2
 simp (decide := true) only [Fact.G, hf.size, reduceIte] at hKp
 replace hf := hf1; clear hT hf1 s0 s3 s4 s12 b22
 have s2 := hKp; clear hKp
 refine nx (hK8 _ _ ?_)
 refine wp_ret ?_
 exact Fact.ret1 rfl hf s2 ⟨by rw [HIE.out, List.take_of_length_le (by simp)], hb⟩))
end Dw
end Go.Proofs.YtgjfhedgdbbinaaDoor
