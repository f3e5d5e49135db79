/- Dawg: the document's Value, least, Check. -/
import Derived.Test.YtgjfhedgdbbinaaDoorDCheck
namespace Go.Proofs.YtgjfhedgdbbinaaDoor
open Go.RowKit
set_option linter.unusedSimpArgs false
set_option linter.unusedVariables false
set_option linter.unnecessarySimpa false
namespace Dw

theorem okW_eq (s : ByteArray) : okW s = (decide (1 ≤ s.size) && decide (s.size ≤ 255)) := by
  unfold okW
  have h1 : s.toList.length = s.size := by rw [ByteArray.toList_eq, Array.length_toList]; rfl
  congr 1
  cases hl : s.toList with
  | nil =>
    have h2 : s.size = 0 := by rw [← h1, hl]; rfl
    rw [h2]; rfl
  | cons x l =>
    have h2 : 1 ≤ s.size := by rw [← h1, hl]; simp
    rw [decide_eq_true h2]; rfl
theorem ge_lex (a b : ByteArray) : (!Op.bytesLess a.toList b.toList) = !lexlt (wl a) (wl b) := by rw [less_eq]
theorem least_take1 {es : List Ent} {e : Ent} (h : es[0]? = some e) : leastV ((es.take 1).map wvE) = valE e := by
  cases es with
  | nil => simp at h
  | cons x l => simp at h; subst h; rfl
theorem least_takeS {es : List Ent} {i : Nat} {e : Ent} (h : es[i]? = some e) (h1 : 1 ≤ i) : leastV ((es.take (i + 1)).map wvE) = min (leastV ((es.take i).map wvE)) (valE e) := by
  rw [List.take_add_one, h]
  cases es with
  | nil => simp at h
  | cons x l =>
    obtain ⟨j, rfl⟩ : ∃ j, i = j + 1 := ⟨i - 1, by omega⟩
    simp only [List.take_succ_cons, Option.toList_some, List.cons_append, List.map_cons, List.map_append, List.map_nil, leastV]
    rw [List.foldl_append]
    rfl
set_option maxHeartbeats 4000000 in
set_option maxRecDepth 100000 in
theorem rvalue16g (e : Ent) (he : okE e) (hg : e.gone = true) (w : World) : Calls Tryd.prog 16 #[eval e] w fun e1 w1 => e1 = .returned (.int .u64 (valE e : Nat)) ∧ Below w.heap.size w w1 := by
 refine calls_of_wp Tryd.func16 rfl ?_
 refine Fact.enter (n := 9) (by kernel_rfl) (fun fr hf hT => ?_)
 have s0 := hT 0 _ rfl
 clear hT
 simp only [eval] at s0
 have HG := Lib.hid hg; clear hg
 have hw1 := he.1; have hw2 := he.2
 refine wp_seq_k (fun K1 hK1 => ?_)
 refine Fact.region ?_
 refine Fact.p rfl fun K hK => ?_
 go_simp
 refine hK.out _ _ ?_; clear hK K
 refine Fact.p rfl fun K hK => ?_
 go_simp
 refine hK.out _ _ ?_; clear hK K
 refine Fact.nil ?_
 refine Fact.q hf (by simp only [Fact.G]) rfl fun fr1 hf1 hT => ?_
 have hKp : _ ∧ _ := ⟨hT 1, hT 2⟩
 simp only [Fact.G, Nat.reduceEqDiff, Nat.reduceLT, hf.size, reduceIte] at hKp
 clear hT hf s0
 obtain ⟨s1, s2⟩ := hKp
 have hf := hf1; clear hf1
 obtain ⟨W0, hW0⟩ : ∃ W0, w.alloc (.cells #[.string e.word, .int .u32 e.weight, .bool e.gone] 42) = W0 := ⟨_, rfl⟩
 try rw [hW0]
 obtain ⟨hb0, -, c1, c2, -, -⟩ := box3 hW0
 clear hW0
 refine Fact.nx (hK1 _ _ ?_)
 refine wp_seq_k (fun K2 hK2 => ?_)
 refine wp_seq_k (fun K3 hK3 => ?_)
 refine Fact.region ?_
 have b3 := hf.l 3 rfl
 refine Fact.p rfl fun K hK => ?_
 go_simp
 refine hK.out _ _ ?_; clear hK K
 refine Fact.p rfl fun K hK => ?_
 go_simp
 refine hK.out _ _ ?_; clear hK K
 refine Fact.nil ?_
 refine Fact.q hf (by simp only [Fact.G]) rfl fun fr1 hf1 hT => ?_
 have hKp : _ ∧ _ ∧ _ := ⟨hT 1, hT 2, hT 4⟩
 simp only [Fact.G, Nat.reduceEqDiff, Nat.reduceLT, hf.size, reduceIte, s1, s2] at hKp
 clear hT hf s1 s2 b3
 obtain ⟨s1, s2, s4⟩ := hKp
 have hf := hf1; clear hf1
 refine Fact.nx (hK3 _ _ ?_)
 rw [HG.out] at s4
 refine Fact.cond_t s4 ?_
 refine wp_seq_k (fun K4 hK4 => ?_)
 refine Fact.region ?_
 refine Fact.p rfl fun K hK => ?_
 go_simp
 refine hK.out _ _ ?_; clear hK K
 refine Fact.nil ?_
 refine Fact.q hf (by simp only [Fact.G]) rfl fun fr1 hf1 hT => ?_
 have hKp : _ ∧ _ := ⟨hT 1, hT 2⟩
 simp only [Fact.G, Nat.reduceEqDiff, Nat.reduceLT, hf.size, reduceIte, s1] at hKp
 clear hT hf s1 s2 s4
 obtain ⟨s1, s2⟩ := hKp
 have hf := hf1; clear hf1
 refine Fact.nx (hK4 _ _ ?_)
 refine wp_ret ?_
 refine Fact.then_ret ?_
 exact Fact.ret1 rfl hf s2 ⟨by simp [valE, HG.out], hb0⟩
set_option maxHeartbeats 4000000 in
set_option maxRecDepth 100000 in
theorem rvalue16n (e : Ent) (he : okE e) (hg : e.gone = false) (w : World) : Calls Tryd.prog 16 #[eval e] w fun e1 w1 => e1 = .returned (.int .u64 (valE e : Nat)) ∧ Below w.heap.size w w1 := by
 refine calls_of_wp Tryd.func16 rfl ?_
 refine Fact.enter (n := 9) (by kernel_rfl) (fun fr hf hT => ?_)
 have s0 := hT 0 _ rfl
 clear hT
 simp only [eval] at s0
 have HG := Lib.hid hg; clear hg
 have hw1 := he.1; have hw2 := he.2
 refine wp_seq_k (fun K1 hK1 => ?_)
 refine Fact.region ?_
 refine Fact.p rfl fun K hK => ?_
 go_simp
 refine hK.out _ _ ?_; clear hK K
 refine Fact.p rfl fun K hK => ?_
 go_simp
 refine hK.out _ _ ?_; clear hK K
 refine Fact.nil ?_
 refine Fact.q hf (by simp only [Fact.G]) rfl fun fr1 hf1 hT => ?_
 have hKp : _ ∧ _ := ⟨hT 1, hT 2⟩
 simp only [Fact.G, Nat.reduceEqDiff, Nat.reduceLT, hf.size, reduceIte] at hKp
 clear hT hf s0
 obtain ⟨s1, s2⟩ := hKp
 have hf := hf1; clear hf1
 obtain ⟨W0, hW0⟩ : ∃ W0, w.alloc (.cells #[.string e.word, .int .u32 e.weight, .bool e.gone] 42) = W0 := ⟨_, rfl⟩
 try rw [hW0]
 obtain ⟨hb0, -, c1, c2, -, -⟩ := box3 hW0
 clear hW0
 refine Fact.nx (hK1 _ _ ?_)
 refine wp_seq_k (fun K2 hK2 => ?_)
 refine wp_seq_k (fun K3 hK3 => ?_)
 refine Fact.region ?_
 have b3 := hf.l 3 rfl
 refine Fact.p rfl fun K hK => ?_
 go_simp
 refine hK.out _ _ ?_; clear hK K
 refine Fact.p rfl fun K hK => ?_
 go_simp
 refine hK.out _ _ ?_; clear hK K
 refine Fact.nil ?_
 refine Fact.q hf (by simp only [Fact.G]) rfl fun fr1 hf1 hT => ?_
 have hKp : _ ∧ _ ∧ _ := ⟨hT 1, hT 2, hT 4⟩
 simp only [Fact.G, Nat.reduceEqDiff, Nat.reduceLT, hf.size, reduceIte, s1, s2] at hKp
 clear hT hf s1 s2 b3
 obtain ⟨s1, s2, s4⟩ := hKp
 have hf := hf1; clear hf1
 refine Fact.nx (hK3 _ _ ?_)
 rw [HG.out] at s4
 refine Fact.cond_f s4 ?_
 refine wp_skip ?_
 refine Fact.nx (hK2 _ _ ?_)
 refine wp_seq_k (fun K4 hK4 => ?_)
 refine Fact.region ?_
 have b5 := hf.l 5 rfl
 have b6 := hf.l 6 rfl
 have b7 := hf.l 7 rfl
 have b8 := hf.l 8 rfl
 refine Fact.p rfl fun K hK => ?_
 go_simp
 refine hK.out _ _ ?_; clear hK K
 refine Fact.p rfl fun K hK => ?_
 go_simp
 refine hK.out _ _ ?_; clear hK K
 refine Fact.p rfl fun K hK => ?_
 go_simp
 try simp (disch := omega) only [Fact.wrap_u64]
 refine hK.out _ _ ?_; clear hK K
 refine Fact.p rfl fun K hK => ?_
 go_simp
 try simp (disch := omega) only [Fact.wrap_i64, Fact.wrap_u8, Fact.wrap_u32, Fact.wrap_u64]
 try simp (disch := omega) only [Fact.wrap_u64]
 rw [show e.weight + 1 = ((valE e : Nat) : Int) by simp only [valE, HG.out]; simp; omega]
 refine hK.out _ _ ?_; clear hK K
 refine Fact.p rfl fun K hK => ?_
 go_simp
 refine hK.out _ _ ?_; clear hK K
 refine Fact.nil ?_
 refine Fact.q hf (by simp only [Fact.G]) rfl fun fr1 hf1 hT => ?_
 have hKp := hT 2
 simp only [Fact.G, Nat.reduceEqDiff, Nat.reduceLT, hf.size, reduceIte] at hKp
 clear hT hf s1 s2 s4 b5 b6 b7 b8
 have s2 := hKp; clear hKp
 have hf := hf1; clear hf1
 refine Fact.nx (hK4 _ _ ?_)
 refine wp_ret ?_
 exact Fact.ret1 rfl hf s2 ⟨rfl, hb0⟩
theorem rvalue16 (e : Ent) (he : okE e) (w : World) : Calls Tryd.prog 16 #[eval e] w fun e1 w1 => e1 = .returned (.int .u64 (valE e : Nat)) ∧ Below w.heap.size w w1 := by
  cases hg : e.gone with
  | true => exact rvalue16g e he hg w
  | false => exact rvalue16n e he hg w

set_option maxHeartbeats 4000000 in
set_option maxRecDepth 100000 in
theorem is60t (s : ByteArray) (h1 : 1 ≤ s.size) (w : World) : Calls Tryd.prog 60 #[.string s] w fun e w1 => e = .returned (.bool (okW s)) ∧ w = w1 := by
 refine calls_of_wp Tryd.func60 rfl ?_
 refine Fact.enter (n := 11) (by kernel_rfl) (fun fr hf hT => ?_)
 have s0 := hT 0 _ rfl
 clear hT
 have q1 : decide (1 ≤ (s.size : Int)) = true := by have := h1; simp; omega
 refine wp_seq_k (fun K1 hK1 => ?_)
 refine Fact.region ?_
 refine Fact.p rfl fun K hK => ?_
 go_simp
 refine hK.out _ _ ?_; clear hK K
 refine Fact.nil ?_
 refine Fact.q hf (by simp only [Fact.G]) rfl fun fr1 hf1 hT => ?_
 have hKp : _ ∧ _ := ⟨hT 0, hT 2⟩
 simp only [Fact.G, Nat.reduceEqDiff, Nat.reduceLT, hf.size, reduceIte, s0] at hKp
 clear hT hf s0
 obtain ⟨s0, s2⟩ := hKp
 have hf := hf1; clear hf1
 refine Fact.nx (hK1 _ _ ?_)
 refine wp_seq_k (fun K2 hK2 => ?_)
 refine Fact.region ?_
 have b3 := hf.l 3 rfl
 have b4 := hf.l 4 rfl
 have b5 := hf.l 5 rfl
 have b6 := hf.l 6 rfl
 have b7 := hf.l 7 rfl
 have b8 := hf.l 8 rfl
 have b9 := hf.l 9 rfl
 have b10 := hf.l 10 rfl
 refine Fact.p rfl fun K hK => ?_
 go_simp
 refine hK.out _ _ ?_; clear hK K
 refine Fact.p rfl fun K hK => ?_
 go_simp
 refine hK.out _ _ ?_; clear hK K
 refine Fact.p rfl fun K hK => ?_
 go_simp
 refine hK.out _ _ ?_; clear hK K
 refine Fact.p rfl fun K hK => ?_
 go_simp
 refine hK.out _ _ ?_; clear hK K
 refine Fact.op_guard (g := 3) (d := 6) (b := true) rfl rfl rfl ?_ (fun K hK => ?_)
 · (
 simp only [Fact.G, Nat.reduceEqDiff, Nat.reduceLT, reduceIte, hf.size, q1])
 go_simp
 refine hK.out _ _ ?_; clear hK K
 refine Fact.op_guard (g := 3) (d := 6) (b := true) rfl rfl rfl ?_ (fun K hK => ?_)
 · (
 simp only [Fact.G, Nat.reduceEqDiff, Nat.reduceLT, reduceIte, hf.size, q1])
 go_simp
 refine hK.out _ _ ?_; clear hK K
 refine Fact.op_guard (g := 3) (d := 6) (b := true) rfl rfl rfl ?_ (fun K hK => ?_)
 · (
 simp only [Fact.G, Nat.reduceEqDiff, Nat.reduceLT, reduceIte, hf.size, q1])
 go_simp
 refine hK.out _ _ ?_; clear hK K
 refine Fact.p rfl fun K hK => ?_
 go_simp
 refine hK.out _ _ ?_; clear hK K
 refine Fact.p rfl fun K hK => ?_
 go_simp
 refine hK.out _ _ ?_; clear hK K
 refine Fact.nil ?_
 refine Fact.q hf (by simp only [Fact.G]) rfl fun fr1 hf1 hT => ?_
 have hKp := hT 2
 simp only [Fact.G, Nat.reduceEqDiff, Nat.reduceLT, hf.size, reduceIte] at hKp
 clear hT hf s0 s2 b3 b4 b5 b6 b7 b8 b9 b10
 have s2 := hKp; clear hKp
 have hf := hf1; clear hf1
 refine Fact.nx (hK2 _ _ ?_)
 refine wp_ret ?_
 refine Fact.ret1 rfl hf s2 ⟨?_, rfl⟩
 rw [okW_eq]
 try rw [q1]
 try rw [decide_eq_false (show ¬ 1 ≤ s.size by omega)]
 try rw [decide_eq_true h1]
 try simp
 try rfl
 try omega
set_option maxHeartbeats 4000000 in
set_option maxRecDepth 100000 in
theorem is60f (s : ByteArray) (h1 : s.size < 1) (w : World) : Calls Tryd.prog 60 #[.string s] w fun e w1 => e = .returned (.bool (okW s)) ∧ w = w1 := by
 refine calls_of_wp Tryd.func60 rfl ?_
 refine Fact.enter (n := 11) (by kernel_rfl) (fun fr hf hT => ?_)
 have s0 := hT 0 _ rfl
 clear hT
 have q1 : decide (1 ≤ (s.size : Int)) = false := by have := h1; simp; omega
 refine wp_seq_k (fun K1 hK1 => ?_)
 refine Fact.region ?_
 refine Fact.p rfl fun K hK => ?_
 go_simp
 refine hK.out _ _ ?_; clear hK K
 refine Fact.nil ?_
 refine Fact.q hf (by simp only [Fact.G]) rfl fun fr1 hf1 hT => ?_
 have hKp : _ ∧ _ := ⟨hT 0, hT 2⟩
 simp only [Fact.G, Nat.reduceEqDiff, Nat.reduceLT, hf.size, reduceIte, s0] at hKp
 clear hT hf s0
 obtain ⟨s0, s2⟩ := hKp
 have hf := hf1; clear hf1
 refine Fact.nx (hK1 _ _ ?_)
 refine wp_seq_k (fun K2 hK2 => ?_)
 refine Fact.region ?_
 have b3 := hf.l 3 rfl
 have b4 := hf.l 4 rfl
 have b5 := hf.l 5 rfl
 have b6 := hf.l 6 rfl
 have b7 := hf.l 7 rfl
 have b8 := hf.l 8 rfl
 have b9 := hf.l 9 rfl
 have b10 := hf.l 10 rfl
 refine Fact.p rfl fun K hK => ?_
 go_simp
 refine hK.out _ _ ?_; clear hK K
 refine Fact.p rfl fun K hK => ?_
 go_simp
 refine hK.out _ _ ?_; clear hK K
 refine Fact.p rfl fun K hK => ?_
 go_simp
 refine hK.out _ _ ?_; clear hK K
 refine Fact.p rfl fun K hK => ?_
 go_simp
 refine hK.out _ _ ?_; clear hK K
 refine Fact.op_skip (g := 3) (d := 6) (b := true) rfl rfl rfl ?_ ?_
 · (
 simp only [Fact.G, Nat.reduceEqDiff, Nat.reduceLT, reduceIte, hf.size, Bool.not_true, Bool.not_false, q1])
 refine Fact.op_skip (g := 3) (d := 6) (b := true) rfl rfl rfl ?_ ?_
 · (
 simp only [Fact.G, Nat.reduceEqDiff, Nat.reduceLT, reduceIte, hf.size, Bool.not_true, Bool.not_false, q1])
 refine Fact.op_skip (g := 3) (d := 6) (b := true) rfl rfl rfl ?_ ?_
 · (
 simp only [Fact.G, Nat.reduceEqDiff, Nat.reduceLT, reduceIte, hf.size, Bool.not_true, Bool.not_false, q1])
 refine Fact.p rfl fun K hK => ?_
 go_simp
 refine hK.out _ _ ?_; clear hK K
 refine Fact.p rfl fun K hK => ?_
 go_simp
 refine hK.out _ _ ?_; clear hK K
 refine Fact.nil ?_
 refine Fact.q hf (by simp only [Fact.G]) rfl fun fr1 hf1 hT => ?_
 have hKp := hT 2
 simp only [Fact.G, Nat.reduceEqDiff, Nat.reduceLT, hf.size, reduceIte] at hKp
 clear hT hf s0 s2 b3 b4 b5 b6 b7 b8 b9 b10
 have s2 := hKp; clear hKp
 have hf := hf1; clear hf1
 refine Fact.nx (hK2 _ _ ?_)
 refine wp_ret ?_
 refine Fact.ret1 rfl hf s2 ⟨?_, rfl⟩
 rw [okW_eq]
 try rw [q1]
 try rw [decide_eq_false (show ¬ 1 ≤ s.size by omega)]
 try rw [decide_eq_true h1]
 try simp
 try rfl
 try omega
theorem is60 (s : ByteArray) (w : World) : Calls Tryd.prog 60 #[.string s] w fun e w1 => e = .returned (.bool (okW s)) ∧ w = w1 := by
  rcases Nat.lt_or_ge s.size 1 with h | h
  · exact is60f s h w
  · exact is60t s h w

set_option maxHeartbeats 4000000 in
set_option maxRecDepth 100000 in
theorem rchk50t (s : ByteArray) (hh : okW s = true) (w : World) : Calls Tryd.prog 50 #[.string s] w fun e w1 => e = .returned (.int .i64 (if okW s then 0 else 7)) ∧ w = w1 := by
 refine calls_of_wp Tryd.func50 rfl ?_
 refine Fact.enter (n := 6) (by kernel_rfl) (fun fr hf hT => ?_)
 have s0 := hT 0 _ rfl
 clear hT
 refine wp_seq_k (fun K1 hK1 => ?_)
 refine Fact.region ?_
 refine Fact.p rfl fun K hK => ?_
 go_simp
 refine hK.out _ _ ?_; clear hK K
 refine Fact.nil ?_
 refine Fact.q hf (by simp only [Fact.G]) rfl fun fr1 hf1 hT => ?_
 have hKp : _ ∧ _ := ⟨hT 0, hT 2⟩
 simp only [Fact.G, Nat.reduceEqDiff, Nat.reduceLT, hf.size, reduceIte, s0] at hKp
 clear hT hf s0
 obtain ⟨s0, s2⟩ := hKp
 have hf := hf1; clear hf1
 refine Fact.nx (hK1 _ _ ?_)
 refine wp_seq_k (fun K2 hK2 => ?_)
 refine wp_seq_k (fun K3 hK3 => ?_)
 refine Fact.region ?_
 have b3 := hf.l 3 rfl
 have b4 := hf.l 4 rfl
 refine Fact.p rfl fun K hK => ?_
 go_simp
 refine hK.out _ _ ?_; clear hK K
 refine Fact.p rfl fun K hK => ?_
 go_simp
 go_at_call 60; refine (is60 s w).mono ?_; rintro e w1 ⟨rfl, rfl⟩
 rw [hh]
 dsimp only
 refine hK.out _ _ ?_; clear hK K
 refine Fact.p rfl fun K hK => ?_
 go_simp
 refine hK.out _ _ ?_; clear hK K
 refine Fact.nil ?_
 refine Fact.q hf (by simp only [Fact.G]) rfl fun fr1 hf1 hT => ?_
 have hKp : _ ∧ _ := ⟨hT 2, hT 5⟩
 simp only [Fact.G, Nat.reduceEqDiff, Nat.reduceLT, hf.size, reduceIte, s2] at hKp
 clear hT hf s0 s2 b3 b4
 obtain ⟨s2, s5⟩ := hKp
 have hf := hf1; clear hf1
 refine Fact.nx (hK3 _ _ ?_)
 refine Fact.cond_f s5 ?_
 refine wp_skip ?_
 refine Fact.nx (hK2 _ _ ?_)
 refine wp_seq_k (fun K4 hK4 => ?_)
 refine Fact.region ?_
 refine Fact.p rfl fun K hK => ?_
 go_simp
 refine hK.out _ _ ?_; clear hK K
 refine Fact.nil ?_
 refine Fact.q hf (by simp only [Fact.G]) rfl fun fr1 hf1 hT => ?_
 have hKp := hT 2
 simp only [Fact.G, Nat.reduceEqDiff, Nat.reduceLT, hf.size, reduceIte] at hKp
 clear hT hf s2 s5
 have s2 := hKp; clear hKp
 have hf := hf1; clear hf1
 refine Fact.nx (hK4 _ _ ?_)
 refine wp_ret ?_
 exact Fact.ret1 rfl hf s2 ⟨by rw [hh]; rfl, rfl⟩
set_option maxHeartbeats 4000000 in
set_option maxRecDepth 100000 in
theorem rchk50f (s : ByteArray) (hh : okW s = false) (w : World) : Calls Tryd.prog 50 #[.string s] w fun e w1 => e = .returned (.int .i64 (if okW s then 0 else 7)) ∧ w = w1 := by
 refine calls_of_wp Tryd.func50 rfl ?_
 refine Fact.enter (n := 6) (by kernel_rfl) (fun fr hf hT => ?_)
 have s0 := hT 0 _ rfl
 clear hT
 refine wp_seq_k (fun K1 hK1 => ?_)
 refine Fact.region ?_
 refine Fact.p rfl fun K hK => ?_
 go_simp
 refine hK.out _ _ ?_; clear hK K
 refine Fact.nil ?_
 refine Fact.q hf (by simp only [Fact.G]) rfl fun fr1 hf1 hT => ?_
 have hKp : _ ∧ _ := ⟨hT 0, hT 2⟩
 simp only [Fact.G, Nat.reduceEqDiff, Nat.reduceLT, hf.size, reduceIte, s0] at hKp
 clear hT hf s0
 obtain ⟨s0, s2⟩ := hKp
 have hf := hf1; clear hf1
 refine Fact.nx (hK1 _ _ ?_)
 refine wp_seq_k (fun K2 hK2 => ?_)
 refine wp_seq_k (fun K3 hK3 => ?_)
 refine Fact.region ?_
 have b3 := hf.l 3 rfl
 have b4 := hf.l 4 rfl
 refine Fact.p rfl fun K hK => ?_
 go_simp
 refine hK.out _ _ ?_; clear hK K
 refine Fact.p rfl fun K hK => ?_
 go_simp
 go_at_call 60; refine (is60 s w).mono ?_; rintro e w1 ⟨rfl, rfl⟩
 rw [hh]
 dsimp only
 refine hK.out _ _ ?_; clear hK K
 refine Fact.p rfl fun K hK => ?_
 go_simp
 refine hK.out _ _ ?_; clear hK K
 refine Fact.nil ?_
 refine Fact.q hf (by simp only [Fact.G]) rfl fun fr1 hf1 hT => ?_
 have hKp : _ ∧ _ := ⟨hT 2, hT 5⟩
 simp only [Fact.G, Nat.reduceEqDiff, Nat.reduceLT, hf.size, reduceIte, s2] at hKp
 clear hT hf s0 s2 b3 b4
 obtain ⟨s2, s5⟩ := hKp
 have hf := hf1; clear hf1
 refine Fact.nx (hK3 _ _ ?_)
 refine Fact.cond_t s5 ?_
 refine wp_seq_k (fun K4 hK4 => ?_)
 refine Fact.region ?_
 refine Fact.p rfl fun K hK => ?_
 go_simp
 refine hK.out _ _ ?_; clear hK K
 refine Fact.nil ?_
 refine Fact.q hf (by simp only [Fact.G]) rfl fun fr1 hf1 hT => ?_
 have hKp := hT 2
 simp only [Fact.G, Nat.reduceEqDiff, Nat.reduceLT, hf.size, reduceIte] at hKp
 clear hT hf s2 s5
 have s2 := hKp; clear hKp
 have hf := hf1; clear hf1
 refine Fact.nx (hK4 _ _ ?_)
 refine wp_ret ?_
 refine Fact.then_ret ?_
 exact Fact.ret1 rfl hf s2 ⟨by rw [hh]; rfl, rfl⟩
theorem rchk50 (s : ByteArray) (w : World) : Calls Tryd.prog 50 #[.string s] w fun e w1 => e = .returned (.int .i64 (if okW s then 0 else 7)) ∧ w = w1 := by
  cases h : okW s with
  | true => have := rchk50t s h w; rw [h] at this; exact this
  | false => have := rchk50f s h w; rw [h] at this; exact this

set_option maxHeartbeats 4000000 in
set_option maxRecDepth 100000 in
theorem rchk38 (w : World) (es : List Ent) (B : Nat) (v : Value) (hB : B ≤ w.heap.size) (hre : RE w B v es) (hlen : es.length ≤ 1000000) : Calls Tryd.prog 38 #[v] w fun e w1 => ∃ n : Int, e = .returned (.tuple #[.int .i64 n, .int .i64 (chkN es : Nat)]) ∧ Below w.heap.size w w1 := by
 refine calls_of_wp Tryd.func38 rfl ?_
 refine Fact.enter (n := 36) (by kernel_rfl) (fun fr hf hT => ?_)
 have s0 := hT 0 _ rfl
 clear hT
 have hre0 := hre.any
 obtain ⟨A, cc, rfl, hcc⟩ := hre.form
 clear hre
 refine wp_seq_k (fun K1 hK1 => ?_)
 refine Fact.region ?_
 refine Fact.p rfl fun K hK => ?_
 go_simp
 refine hK.out _ _ ?_; clear hK K
 refine Fact.p rfl fun K hK => ?_
 go_simp
 refine hK.out _ _ ?_; clear hK K
 refine Fact.nil ?_
 refine Fact.q hf (by simp only [Fact.G]) rfl fun fr1 hf1 hT => ?_
 have hKp : _ ∧ _ ∧ _ := ⟨hT 0, hT 2, hT 3⟩
 simp only [Fact.G, Nat.reduceEqDiff, Nat.reduceLT, hf.size, reduceIte, s0] at hKp
 clear hT hf s0
 obtain ⟨s0, s2, s3⟩ := hKp
 have hf := hf1; clear hf1
 refine Fact.nx (hK1 _ _ ?_)
 refine wp_seq_k (fun K2 hK2 => ?_)
 refine wp_seq_k (fun K3 hK3 => ?_)
 refine Fact.region ?_
 refine Fact.p rfl fun K hK => ?_
 go_simp
 refine hK.out _ _ ?_; clear hK K
 refine Fact.nil ?_
 refine Fact.q hf (by simp only [Fact.G]) rfl fun fr1 hf1 hT => ?_
 have hKp : _ ∧ _ ∧ _ ∧ _ := ⟨hT 0, hT 2, hT 3, hT 4⟩
 simp only [Fact.G, Nat.reduceEqDiff, Nat.reduceLT, hf.size, reduceIte, s0, s2, s3] at hKp
 clear hT hf s0 s2 s3
 obtain ⟨s0, s2, s3, s4⟩ := hKp
 have hf := hf1; clear hf1
 refine Fact.nx (hK3 _ _ ?_)
 refine wp_block ?_
 refine wp_loop_ghost (fun gk fr wr => ∃ (i : Nat), gk = es.length - i ∧ i ≤ es.length ∧ Fact.Fr 36 fr ∧ fr.tmps[0]? = some (.slice A es.length cc) ∧ fr.tmps[4]? = some (.int .i64 i) ∧ chkN es = chkL (prevW es i) (es.drop i) ∧ Below w.heap.size w wr) (es.length) ?_ ?_
 · (
 exact ⟨0, rfl, Nat.zero_le _, hf, s0, s4, rfl, Below.refl _ _⟩)
 · (
 clear hf s0 s2 s3 s4
 rintro gk fr wr ⟨i, hk, hi, hf, s0, s4, hch, hb⟩
 have HK := Lib.hid hk; have HC := Lib.hid hch; clear hk hch
 refine wp_seq_k (fun K4 hK4 => ?_)
 refine wp_seq_k (fun K5 hK5 => ?_)
 refine Fact.region ?_
 have b5 := hf.l 5 rfl
 have b6 := hf.l 6 rfl
 have b7 := hf.l 7 rfl
 refine Fact.p rfl fun K hK => ?_
 go_simp
 refine hK.out _ _ ?_; clear hK K
 refine Fact.p rfl fun K hK => ?_
 go_simp
 refine hK.out _ _ ?_; clear hK K
 refine Fact.p rfl fun K hK => ?_
 go_simp
 refine hK.out _ _ ?_; clear hK K
 refine Fact.p rfl fun K hK => ?_
 go_simp
 refine hK.out _ _ ?_; clear hK K
 refine Fact.nil ?_
 refine Fact.q hf (by simp only [Fact.G]) rfl fun fr1 hf1 hT => ?_
 have hKp : _ ∧ _ ∧ _ ∧ _ ∧ _ ∧ _ := ⟨hT 0, hT 4, hT 5, hT 6, hT 7, hT 8⟩
 simp only [Fact.G, Nat.reduceEqDiff, Nat.reduceLT, hf.size, reduceIte, s0, s4] at hKp
 clear hT hf s0 s4 b5 b6 b7
 obtain ⟨s0, s4, s5, s6, s7, s8⟩ := hKp
 have hf := hf1; clear hf1
 refine Fact.nx (hK5 _ _ ?_)
 refine Fact.cond_s s8 (fun hq => ?_) (fun hq => ?_)
 · (
 have hlt : i < es.length := by have h9 := of_decide_eq_true hq; omega
 have HQ := Lib.hid hq; clear hq
 obtain ⟨e, hie⟩ : ∃ e, es[i]? = some e := ⟨_, List.getElem?_eq_getElem hlt⟩
 obtain ⟨b, off, rfl, hbB, hbl, d0, d1, d2⟩ := (hre0.below hb).at_ hie
 have hst := chk_step hie
 have HE := Lib.hid hie; have HST := Lib.hid hst; clear hie hst
 refine wp_skip ?_
 refine Fact.nx (hK4 _ _ ?_)
 refine wp_seq_k (fun K6 hK6 => ?_)
 refine wp_block ?_
 refine wp_seq_k (fun K7 hK7 => ?_)
 refine wp_seq_k (fun K8 hK8 => ?_)
 refine Fact.region ?_
 have b11 := hf.l 11 rfl
 have b12 := hf.l 12 rfl
 have b13 := hf.l 13 rfl
 have b14 := hf.l 14 rfl
 have b15 := hf.l 15 rfl
 have b16 := hf.l 16 rfl
 refine Fact.p rfl fun K hK => ?_
 go_simp
 refine hK.out _ _ ?_; clear hK K
 refine Fact.p rfl fun K hK => ?_
 go_simp
 refine hK.out _ _ ?_; clear hK K
 refine Fact.p rfl fun K hK => ?_
 go_simp
 try rw [if_pos (by omega)]
 refine hK.out _ _ ?_; clear hK K
 refine Fact.p rfl fun K hK => ?_
 go_simp
 refine hK.out _ _ ?_; clear hK K
 refine Fact.p rfl fun K hK => ?_
 go_simp
 refine hK.out _ _ ?_; clear hK K
 refine Fact.p rfl fun K hK => ?_
 go_simp
 go_at_call 50; refine (rchk50 e.word wr).mono ?_; rintro e w5 ⟨rfl, rfl⟩
 dsimp only
 refine hK.out _ _ ?_; clear hK K
 refine Fact.p rfl fun K hK => ?_
 go_simp
 refine hK.out _ _ ?_; clear hK K
 refine Fact.nil ?_
 refine Fact.q hf (by simp only [Fact.G]) rfl fun fr1 hf1 hT => ?_
 have hKp : _ ∧ _ ∧ _ ∧ _ ∧ _ ∧ _ ∧ _ ∧ _ ∧ _ ∧ _ ∧ _ ∧ _ ∧ _ := ⟨hT 0, hT 4, hT 5, hT 6, hT 7, hT 8, hT 11, hT 12, hT 13, hT 14, hT 15, hT 16, hT 17⟩
 simp only [Fact.G, Nat.reduceEqDiff, Nat.reduceLT, hf.size, reduceIte, s0, s4, s5, s6, s7, s8] at hKp
 clear hT hf s0 s4 s5 s6 s7 s8 b11 b12 b13 b14 b15 b16
 obtain ⟨s0, s4, s5, s6, s7, s8, s11, s12, s13, s14, s15, s16, s17⟩ := hKp
 have hf := hf1; clear hf1
 refine Fact.nx (hK8 _ _ ?_)
 rcases hok : okW e.word with _ | _
 · (
 have H1 := Lib.hid hok; clear hok
 have hs17 : fr1.tmps[17]? = some (.bool true) := by rw [s17, H1.out]; rfl
 clear s17
 have s17 := hs17; clear hs17
 refine Fact.cond_t s17 ?_
 refine wp_seq_k (fun K9 hK9 => ?_)
 refine Fact.region ?_
 have b18 := hf.l 18 rfl
 refine Fact.p rfl fun K hK => ?_
 go_simp
 refine hK.out _ _ ?_; clear hK K
 refine Fact.p rfl fun K hK => ?_
 go_simp
 refine hK.out _ _ ?_; clear hK K
 refine Fact.p rfl fun K hK => ?_
 go_simp
 refine hK.out _ _ ?_; clear hK K
 refine Fact.nil ?_
 refine Fact.q hf (by simp only [Fact.G]) rfl fun fr1 hf1 hT => ?_
 have hKp : _ ∧ _ ∧ _ ∧ _ ∧ _ ∧ _ ∧ _ ∧ _ ∧ _ ∧ _ ∧ _ ∧ _ ∧ _ ∧ _ ∧ _ ∧ _ := ⟨hT 0, hT 2, hT 3, hT 4, hT 5, hT 6, hT 7, hT 8, hT 11, hT 12, hT 13, hT 14, hT 15, hT 16, hT 17, hT 18⟩
 simp only [Fact.G, Nat.reduceEqDiff, Nat.reduceLT, hf.size, reduceIte, s0, s4, s5, s6, s7, s8, s11, s12, s13, s14, s15, s16, s17] at hKp
 clear hT hf s0 s4 s5 s6 s7 s8 s11 s12 s13 s14 s15 s16 s17 b18
 obtain ⟨s0, s2, s3, s4, s5, s6, s7, s8, s11, s12, s13, s14, s15, s16, s17, s18⟩ := hKp
 have hf := hf1; clear hf1
 refine Fact.nx (hK9 _ _ ?_)
 refine wp_ret ?_
 refine Fact.then_ret ?_
 refine Fact.block_ret ?_
 refine Fact.then_ret ?_
 refine Fact.then_ret ?_
 refine Fact.block_ret ?_
 refine Fact.then_ret ?_
 exact Fact.ret2 rfl hf s2 s3 ⟨i, by rw [HC.out, HST.out, H1.out]; rfl, hb⟩)
 · (
 rcases Nat.eq_zero_or_pos i with hi0 | hi0
 · (
 have H1 := Lib.hid hok; clear hok
 have hs17 : fr1.tmps[17]? = some (.bool false) := by rw [s17, H1.out]; rfl
 clear s17
 have s17 := hs17; clear hs17
 refine Fact.cond_f s17 ?_
 have HI0 := Lib.hid hi0
 have q1 : decide (0 < i) = false := decide_eq_false (by omega)
 clear hi0
 refine wp_skip ?_
 refine Fact.nx (hK7 _ _ ?_)
 refine wp_seq_k (fun K10 hK10 => ?_)
 refine Stab.todo_begin (n := 36) (Stab.OkOps.of (by kernel_rfl)) (fun hok => ?_)
 refine Stab.mvO (k := 0) s4 hf.size hok.out rfl rfl rfl (.inl rfl) (by kernel_rfl) ?_
 apply Stab.t 1 _ hf.size hok.out rfl
 · (
 intro fr1 w1 hh hd hk K hK
 refine Stab.op_plain (o := _) rfl rfl ?_
 have s19 := Stab.u 0 0 hd hk rfl [] (by kernel_rfl) rfl rfl rfl
 clear hd
 go_simp
 exact hK.out _ rfl _ _ (Below.refl _ _) rfl)
 refine Stab.mvN (k := 2) (j := 1) (m := 0) hf.size hok.out rfl rfl rfl (.inl rfl) rfl [] (by kernel_rfl) rfl rfl rfl ?_
 apply Stab.t 3 _ hf.size hok.out rfl
 · (
 intro fr1 w1 hh hd hk K hK
 have s21 := Stab.u 2 0 hd hk rfl [] (by kernel_rfl) rfl rfl rfl
 refine Stab.op_skip (o := _) rfl rfl rfl rfl s21 ?_
 exact hK.out _ rfl _ _ (Below.refl _ _) rfl)
 apply Stab.t 4 _ hf.size hok.out rfl
 · (
 intro fr1 w1 hh hd hk K hK
 have s21 := Stab.u 2 1 hd hk rfl [] (by kernel_rfl) rfl rfl rfl
 refine Stab.op_skip (o := _) rfl rfl rfl rfl s21 ?_
 exact hK.out _ rfl _ _ (Below.refl _ _) rfl)
 apply Stab.t 5 _ hf.size hok.out rfl
 · (
 intro fr1 w1 hh hd hk K hK
 have s21 := Stab.u 2 2 hd hk rfl [] (by kernel_rfl) rfl rfl rfl
 refine Stab.op_skip (o := _) rfl rfl rfl rfl s21 ?_
 exact hK.out _ rfl _ _ (Below.refl _ _) rfl)
 apply Stab.t 6 _ hf.size hok.out rfl
 · (
 intro fr1 w1 hh hd hk K hK
 have s21 := Stab.u 2 3 hd hk rfl [] (by kernel_rfl) rfl rfl rfl
 refine Stab.op_skip (o := _) rfl rfl rfl rfl s21 ?_
 exact hK.out _ rfl _ _ (Below.refl _ _) rfl)
 apply Stab.t 7 _ hf.size hok.out rfl
 · (
 intro fr1 w1 hh hd hk K hK
 have s21 := Stab.u 2 4 hd hk rfl [] (by kernel_rfl) rfl rfl rfl
 refine Stab.op_skip (o := _) rfl rfl rfl rfl s21 ?_
 exact hK.out _ rfl _ _ (Below.refl _ _) rfl)
 apply Stab.t 8 _ hf.size hok.out rfl
 · (
 intro fr1 w1 hh hd hk K hK
 have s21 := Stab.u 2 5 hd hk rfl [] (by kernel_rfl) rfl rfl rfl
 refine Stab.op_skip (o := _) rfl rfl rfl rfl s21 ?_
 exact hK.out _ rfl _ _ (Below.refl _ _) rfl)
 apply Stab.t 9 _ hf.size hok.out rfl
 · (
 intro fr1 w1 hh hd hk K hK
 have s21 := Stab.u 2 6 hd hk rfl [] (by kernel_rfl) rfl rfl rfl
 refine Stab.op_skip (o := _) rfl rfl rfl rfl s21 ?_
 exact hK.out _ rfl _ _ (Below.refl _ _) rfl)
 apply Stab.t 10 _ hf.size hok.out rfl
 · (
 intro fr1 w1 hh hd hk K hK
 have s21 := Stab.u 2 7 hd hk rfl [] (by kernel_rfl) rfl rfl rfl
 refine Stab.op_skip (o := _) rfl rfl rfl rfl s21 ?_
 exact hK.out _ rfl _ _ (Below.refl _ _) rfl)
 apply Stab.t 11 _ hf.size hok.out rfl
 · (
 intro fr1 w1 hh hd hk K hK
 have s21 := Stab.u 2 8 hd hk rfl [] (by kernel_rfl) rfl rfl rfl
 refine Stab.op_skip (o := _) rfl rfl rfl rfl s21 ?_
 exact hK.out _ rfl _ _ (Below.refl _ _) rfl)
 apply Stab.t 12 _ hf.size hok.out rfl
 · (
 intro fr1 w1 hh hd hk K hK
 have s21 := Stab.u 2 9 hd hk rfl [] (by kernel_rfl) rfl rfl rfl
 refine Stab.op_skip (o := _) rfl rfl rfl rfl s21 ?_
 exact hK.out _ rfl _ _ (Below.refl _ _) rfl)
 apply Stab.t 13 _ hf.size hok.out rfl
 · (
 intro fr1 w1 hh hd hk K hK
 have s21 := Stab.u 2 10 hd hk rfl [] (by kernel_rfl) rfl rfl rfl
 refine Stab.op_skip (o := _) rfl rfl rfl rfl s21 ?_
 exact hK.out _ rfl _ _ (Below.refl _ _) rfl)
 apply Stab.t 14 _ hf.size hok.out rfl
 · (
 intro fr1 w1 hh hd hk K hK
 have s21 := Stab.u 2 11 hd hk rfl [] (by kernel_rfl) rfl rfl rfl
 refine Stab.op_skip (o := _) rfl rfl rfl rfl s21 ?_
 exact hK.out _ rfl _ _ (Below.refl _ _) rfl)
 apply Stab.t 15 _ hf.size hok.out rfl
 · (
 intro fr1 w1 hh hd hk K hK
 refine Stab.op_plain (o := _) rfl rfl ?_
 have s21 := Stab.u 2 12 hd hk rfl [] (by kernel_rfl) rfl rfl rfl
 have s33 := Stab.u 14 0 hd hk rfl [] (by kernel_rfl) rfl rfl rfl
 clear hd
 go_simp
 exact hK.out _ rfl _ _ (Below.refl _ _) rfl)
 refine Stab.todo_facts (n := 36) (by kernel_rfl) hf.size hok.out rfl (fun fr1 w1 hh hg => ?_)
 replace s0 := Stab.o hh (by kernel_rfl) s0
 replace s4 := Stab.o hh (by kernel_rfl) s4
 replace s5 := Stab.o hh (by kernel_rfl) s5
 replace s6 := Stab.o hh (by kernel_rfl) s6
 replace s7 := Stab.o hh (by kernel_rfl) s7
 replace s8 := Stab.o hh (by kernel_rfl) s8
 replace s11 := Stab.o hh (by kernel_rfl) s11
 replace s12 := Stab.o hh (by kernel_rfl) s12
 replace s13 := Stab.o hh (by kernel_rfl) s13
 replace s14 := Stab.o hh (by kernel_rfl) s14
 replace s15 := Stab.o hh (by kernel_rfl) s15
 replace s16 := Stab.o hh (by kernel_rfl) s16
 replace s17 := Stab.o hh (by kernel_rfl) s17
 have s19 := Stab.e 0 15 hg rfl rfl rfl rfl
 have s20 := Stab.e 1 14 hg rfl rfl rfl rfl
 have s21 := Stab.e 2 13 hg rfl rfl rfl rfl
 have s22 := Stab.e 3 12 hg rfl rfl rfl rfl
 have s23 := Stab.e 4 11 hg rfl rfl rfl rfl
 have s24 := Stab.e 5 10 hg rfl rfl rfl rfl
 have s25 := Stab.e 6 9 hg rfl rfl rfl rfl
 have s26 := Stab.e 7 8 hg rfl rfl rfl rfl
 have s27 := Stab.e 8 7 hg rfl rfl rfl rfl
 have s28 := Stab.e 9 6 hg rfl rfl rfl rfl
 have s29 := Stab.e 10 5 hg rfl rfl rfl rfl
 have s30 := Stab.e 11 4 hg rfl rfl rfl rfl
 have s31 := Stab.e 12 3 hg rfl rfl rfl rfl
 have s32 := Stab.e 13 2 hg rfl rfl rfl rfl
 have s33 := Stab.e 14 1 hg rfl rfl rfl rfl
 have s34 := Stab.e 15 0 hg rfl rfl rfl rfl
 have hf1 : Fact.Fr 36 fr1 := ⟨hh.size.trans hf.size, hh.defers.trans hf.defers⟩
 have hx := hh.ext
 clear hg hh hf hok
 have hf := hf1; clear hf1
 refine Fact.nx (hK10 _ _ ?_)
 refine Fact.cond_f s34 ?_
 have hfin : chkN es = chkL (some (wl e.word)) (es.drop (i + 1)) := by rw [HC.out, HST.out, H1.out, prev_zero HI0.out]; rfl
 have HF := Lib.hid hfin; clear hfin
 have hbz := hb.trans (hx.mono hb.size)
 refine wp_skip ?_
 refine Fact.block_normal ?_
 refine Fact.nx (hK6 _ _ ?_)
 refine Fact.region ?_
 have b9 := hf.l 9 rfl
 have b10 := hf.l 10 rfl
 refine Fact.p rfl fun K hK => ?_
 go_simp
 refine hK.out _ _ ?_; clear hK K
 refine Fact.p rfl fun K hK => ?_
 go_simp
 try simp (disch := omega) only [Fact.wrap_i64, Fact.wrap_u8, Fact.wrap_u32, Fact.wrap_u64]
 refine hK.out _ _ ?_; clear hK K
 refine Fact.p rfl fun K hK => ?_
 go_simp
 refine hK.out _ _ ?_; clear hK K
 refine Fact.nil ?_
 refine Fact.q hf (by simp only [Fact.G]) rfl fun fr1 hf1 hT => ?_
 have hKp : _ ∧ _ ∧ _ ∧ _ ∧ _ ∧ _ ∧ _ ∧ _ ∧ _ ∧ _ ∧ _ ∧ _ ∧ _ ∧ _ ∧ _ ∧ _ ∧ _ ∧ _ ∧ _ ∧ _ ∧ _ ∧ _ ∧ _ ∧ _ ∧ _ ∧ _ ∧ _ ∧ _ ∧ _ ∧ _ ∧ _ := ⟨hT 0, hT 4, hT 5, hT 6, hT 7, hT 8, hT 9, hT 10, hT 11, hT 12, hT 13, hT 14, hT 15, hT 16, hT 17, hT 19, hT 20, hT 21, hT 22, hT 23, hT 24, hT 25, hT 26, hT 27, hT 28, hT 29, hT 30, hT 31, hT 32, hT 33, hT 34⟩
 simp only [Fact.G, Nat.reduceEqDiff, Nat.reduceLT, hf.size, reduceIte, s0, s5, s6, s7, s8, s11, s12, s13, s14, s15, s16, s17, s19, s20, s21, s22, s23, s24, s25, s26, s27, s28, s29, s30, s31, s32, s33, s34] at hKp
 clear hT hf s0 s4 s5 s6 s7 s8 s11 s12 s13 s14 s15 s16 s17 s19 s20 s21 s22 s23 s24 s25 s26 s27 s28 s29 s30 s31 s32 s33 s34 b9 b10
 obtain ⟨s0, s4, s5, s6, s7, s8, s9, s10, s11, s12, s13, s14, s15, s16, s17, s19, s20, s21, s22, s23, s24, s25, s26, s27, s28, s29, s30, s31, s32, s33, s34⟩ := hKp
 have hf := hf1; clear hf1
 refine Fact.then_normal ?_
 exact ⟨_, by have := HK.out; omega, i + 1, rfl, by omega, hf, s0, by rw [s4]; rfl, by rw [HF.out, prevW_succ HE.out], hbz⟩)
 · (
 have H1 := Lib.hid hok; clear hok
 have hs17 : fr1.tmps[17]? = some (.bool false) := by rw [s17, H1.out]; rfl
 clear s17
 have s17 := hs17; clear hs17
 refine Fact.cond_f s17 ?_
 have q1 : decide (0 < i) = true := decide_eq_true hi0
 obtain ⟨p, hip⟩ : ∃ p, es[i - 1]? = some p := ⟨_, List.getElem?_eq_getElem (by omega)⟩
 obtain ⟨b2, off2, he2, hbB2, hbl2, y0, y1, y2⟩ := (hre0.below hb).at_ hip
 injection he2 with he2
 injection he2 with he2 he3
 subst he2; subst he3
 have HP := Lib.hid hip; clear hip y1 y2 d1 d2
 have hi1 : (i : Int) - 1 = ((i - 1 : Nat) : Int) := by omega
 refine wp_skip ?_
 refine Fact.nx (hK7 _ _ ?_)
 refine wp_seq_k (fun K11 hK11 => ?_)
 refine Stab.todo_begin (n := 36) (Stab.OkOps.of (by kernel_rfl)) (fun hok => ?_)
 refine Stab.mvO (k := 0) s4 hf.size hok.out rfl rfl rfl (.inl rfl) (by kernel_rfl) ?_
 apply Stab.t 1 _ hf.size hok.out rfl
 · (
 intro fr1 w1 hh hd hk K hK
 refine Stab.op_plain (o := _) rfl rfl ?_
 have s19 := Stab.u 0 0 hd hk rfl [] (by kernel_rfl) rfl rfl rfl
 clear hd
 go_simp
 exact hK.out _ rfl _ _ (Below.refl _ _) rfl)
 refine Stab.mvN (k := 2) (j := 1) (m := 0) hf.size hok.out rfl rfl rfl (.inl rfl) rfl [] (by kernel_rfl) rfl rfl rfl ?_
 apply Stab.t 3 _ hf.size hok.out rfl
 · (
 intro fr1 w1 hh hd hk K hK
 have s21 := Stab.u 2 0 hd hk rfl [] (by kernel_rfl) rfl rfl rfl
 refine Stab.op_guard (o := _) rfl rfl rfl rfl s21 ?_
 have s0 := Stab.o hh (by kernel_rfl) s0
 clear hd
 go_simp
 exact hK.out _ rfl _ _ (Below.refl _ _) rfl)
 apply Stab.t 4 _ hf.size hok.out rfl
 · (
 intro fr1 w1 hh hd hk K hK
 have s21 := Stab.u 2 1 hd hk rfl [] (by kernel_rfl) rfl rfl rfl
 refine Stab.op_guard (o := _) rfl rfl rfl rfl s21 ?_
 have s4 := Stab.o hh (by kernel_rfl) s4
 clear hd
 go_simp
 exact hK.out _ rfl _ _ (Below.refl _ _) rfl)
 apply Stab.t 5 _ hf.size hok.out rfl
 · (
 intro fr1 w1 hh hd hk K hK
 have s21 := Stab.u 2 2 hd hk rfl [] (by kernel_rfl) rfl rfl rfl
 refine Stab.op_guard (o := _) rfl rfl rfl rfl s21 ?_
 have s23 := Stab.u 4 0 hd hk rfl [] (by kernel_rfl) rfl rfl rfl
 clear hd
 go_simp
 try simp (disch := omega) only [Fact.wrap_i64, Fact.wrap_u8, Fact.wrap_u32, Fact.wrap_u64]
 try rw [hi1]
 exact hK.out _ rfl _ _ (Below.refl _ _) rfl)
 apply Stab.t 6 _ hf.size hok.out rfl
 · (
 intro fr1 w1 hh hd hk K hK
 have s21 := Stab.u 2 3 hd hk rfl [] (by kernel_rfl) rfl rfl rfl
 refine Stab.op_guard (o := _) rfl rfl rfl rfl s21 ?_
 have s22 := Stab.u 3 2 hd hk rfl [] (by kernel_rfl) rfl rfl rfl
 have s24 := Stab.u 5 0 hd hk rfl [] (by kernel_rfl) rfl rfl rfl
 clear hd
 go_simp
 try rw [if_pos (by omega)]
 exact hK.out _ rfl _ _ (Below.refl _ _) rfl)
 apply Stab.t 7 _ hf.size hok.out rfl
 · (
 intro fr1 w1 hh hd hk K hK
 have s21 := Stab.u 2 4 hd hk rfl [] (by kernel_rfl) rfl rfl rfl
 refine Stab.op_guard (o := _) rfl rfl rfl rfl s21 ?_
 have s25 := Stab.u 6 0 hd hk rfl [] (by kernel_rfl) rfl rfl rfl
 clear hd
 go_simp
 exact hK.out _ rfl _ _ (Below.refl _ _) rfl)
 apply Stab.t 8 _ hf.size hok.out rfl
 · (
 intro fr1 w1 hh hd hk K hK
 have s21 := Stab.u 2 5 hd hk rfl [] (by kernel_rfl) rfl rfl rfl
 refine Stab.op_guard (o := _) rfl rfl rfl rfl s21 ?_
 have s26 := Stab.u 7 0 hd hk rfl [] (by kernel_rfl) rfl rfl rfl
 clear hd
 replace d0 := cell_later hh.ext d0
 replace y0 := cell_later hh.ext y0
 go_simp
 exact hK.out _ rfl _ _ (Below.refl _ _) rfl)
 apply Stab.t 9 _ hf.size hok.out rfl
 · (
 intro fr1 w1 hh hd hk K hK
 have s21 := Stab.u 2 6 hd hk rfl [] (by kernel_rfl) rfl rfl rfl
 refine Stab.op_guard (o := _) rfl rfl rfl rfl s21 ?_
 have s0 := Stab.o hh (by kernel_rfl) s0
 clear hd
 go_simp
 exact hK.out _ rfl _ _ (Below.refl _ _) rfl)
 apply Stab.t 10 _ hf.size hok.out rfl
 · (
 intro fr1 w1 hh hd hk K hK
 have s21 := Stab.u 2 7 hd hk rfl [] (by kernel_rfl) rfl rfl rfl
 refine Stab.op_guard (o := _) rfl rfl rfl rfl s21 ?_
 have s4 := Stab.o hh (by kernel_rfl) s4
 clear hd
 go_simp
 exact hK.out _ rfl _ _ (Below.refl _ _) rfl)
 apply Stab.t 11 _ hf.size hok.out rfl
 · (
 intro fr1 w1 hh hd hk K hK
 have s21 := Stab.u 2 8 hd hk rfl [] (by kernel_rfl) rfl rfl rfl
 refine Stab.op_guard (o := _) rfl rfl rfl rfl s21 ?_
 have s28 := Stab.u 9 1 hd hk rfl [] (by kernel_rfl) rfl rfl rfl
 have s29 := Stab.u 10 0 hd hk rfl [] (by kernel_rfl) rfl rfl rfl
 clear hd
 go_simp
 try rw [if_pos (by omega)]
 exact hK.out _ rfl _ _ (Below.refl _ _) rfl)
 apply Stab.t 12 _ hf.size hok.out rfl
 · (
 intro fr1 w1 hh hd hk K hK
 have s21 := Stab.u 2 9 hd hk rfl [] (by kernel_rfl) rfl rfl rfl
 refine Stab.op_guard (o := _) rfl rfl rfl rfl s21 ?_
 have s30 := Stab.u 11 0 hd hk rfl [] (by kernel_rfl) rfl rfl rfl
 clear hd
 go_simp
 exact hK.out _ rfl _ _ (Below.refl _ _) rfl)
 apply Stab.t 13 _ hf.size hok.out rfl
 · (
 intro fr1 w1 hh hd hk K hK
 have s21 := Stab.u 2 10 hd hk rfl [] (by kernel_rfl) rfl rfl rfl
 refine Stab.op_guard (o := _) rfl rfl rfl rfl s21 ?_
 have s31 := Stab.u 12 0 hd hk rfl [] (by kernel_rfl) rfl rfl rfl
 clear hd
 replace d0 := cell_later hh.ext d0
 replace y0 := cell_later hh.ext y0
 go_simp
 exact hK.out _ rfl _ _ (Below.refl _ _) rfl)
 apply Stab.t 14 _ hf.size hok.out rfl
 · (
 intro fr1 w1 hh hd hk K hK
 have s21 := Stab.u 2 11 hd hk rfl [] (by kernel_rfl) rfl rfl rfl
 refine Stab.op_guard (o := _) rfl rfl rfl rfl s21 ?_
 have s27 := Stab.u 8 5 hd hk rfl [] (by kernel_rfl) rfl rfl rfl
 have s32 := Stab.u 13 0 hd hk rfl [] (by kernel_rfl) rfl rfl rfl
 clear hd
 go_simp
 exact hK.out _ rfl _ _ (Below.refl _ _) rfl)
 apply Stab.t 15 _ hf.size hok.out rfl
 · (
 intro fr1 w1 hh hd hk K hK
 refine Stab.op_plain (o := _) rfl rfl ?_
 have s21 := Stab.u 2 12 hd hk rfl [] (by kernel_rfl) rfl rfl rfl
 have s33 := Stab.u 14 0 hd hk rfl [] (by kernel_rfl) rfl rfl rfl
 clear hd
 go_simp
 exact hK.out _ rfl _ _ (Below.refl _ _) rfl)
 refine Stab.todo_facts (n := 36) (by kernel_rfl) hf.size hok.out rfl (fun fr1 w1 hh hg => ?_)
 replace s0 := Stab.o hh (by kernel_rfl) s0
 replace s4 := Stab.o hh (by kernel_rfl) s4
 replace s5 := Stab.o hh (by kernel_rfl) s5
 replace s6 := Stab.o hh (by kernel_rfl) s6
 replace s7 := Stab.o hh (by kernel_rfl) s7
 replace s8 := Stab.o hh (by kernel_rfl) s8
 replace s11 := Stab.o hh (by kernel_rfl) s11
 replace s12 := Stab.o hh (by kernel_rfl) s12
 replace s13 := Stab.o hh (by kernel_rfl) s13
 replace s14 := Stab.o hh (by kernel_rfl) s14
 replace s15 := Stab.o hh (by kernel_rfl) s15
 replace s16 := Stab.o hh (by kernel_rfl) s16
 replace s17 := Stab.o hh (by kernel_rfl) s17
 have s19 := Stab.e 0 15 hg rfl rfl rfl rfl
 have s20 := Stab.e 1 14 hg rfl rfl rfl rfl
 have s21 := Stab.e 2 13 hg rfl rfl rfl rfl
 have s22 := Stab.e 3 12 hg rfl rfl rfl rfl
 have s23 := Stab.e 4 11 hg rfl rfl rfl rfl
 have s24 := Stab.e 5 10 hg rfl rfl rfl rfl
 have s25 := Stab.e 6 9 hg rfl rfl rfl rfl
 have s26 := Stab.e 7 8 hg rfl rfl rfl rfl
 have s27 := Stab.e 8 7 hg rfl rfl rfl rfl
 have s28 := Stab.e 9 6 hg rfl rfl rfl rfl
 have s29 := Stab.e 10 5 hg rfl rfl rfl rfl
 have s30 := Stab.e 11 4 hg rfl rfl rfl rfl
 have s31 := Stab.e 12 3 hg rfl rfl rfl rfl
 have s32 := Stab.e 13 2 hg rfl rfl rfl rfl
 have s33 := Stab.e 14 1 hg rfl rfl rfl rfl
 have s34 := Stab.e 15 0 hg rfl rfl rfl rfl
 have hf1 : Fact.Fr 36 fr1 := ⟨hh.size.trans hf.size, hh.defers.trans hf.defers⟩
 have hx := hh.ext
 replace d0 := cell_later hx d0
 replace y0 := cell_later hx y0
 clear hg hh hf hok
 have hf := hf1; clear hf1
 refine Fact.nx (hK11 _ _ ?_)
 refine Fact.cond_s s34 (fun hq2 => ?_) (fun hq2 => ?_)
 · (
 rw [ge_lex] at hq2
 have HQ2 := Lib.hid hq2; clear hq2
 have hbz := hb.trans (hx.mono hb.size)
 refine wp_seq_k (fun K12 hK12 => ?_)
 refine Fact.region ?_
 have b35 := hf.l 35 rfl
 refine Fact.p rfl fun K hK => ?_
 go_simp
 refine hK.out _ _ ?_; clear hK K
 refine Fact.p rfl fun K hK => ?_
 go_simp
 refine hK.out _ _ ?_; clear hK K
 refine Fact.p rfl fun K hK => ?_
 go_simp
 refine hK.out _ _ ?_; clear hK K
 refine Fact.nil ?_
 refine Fact.q hf (by simp only [Fact.G]) rfl fun fr1 hf1 hT => ?_
 have hKp : _ ∧ _ ∧ _ ∧ _ ∧ _ ∧ _ ∧ _ ∧ _ ∧ _ ∧ _ ∧ _ ∧ _ ∧ _ ∧ _ ∧ _ ∧ _ ∧ _ ∧ _ ∧ _ ∧ _ ∧ _ ∧ _ ∧ _ ∧ _ ∧ _ ∧ _ ∧ _ ∧ _ ∧ _ ∧ _ ∧ _ ∧ _ := ⟨hT 0, hT 2, hT 3, hT 4, hT 5, hT 6, hT 7, hT 8, hT 11, hT 12, hT 13, hT 14, hT 15, hT 16, hT 17, hT 19, hT 20, hT 21, hT 22, hT 23, hT 24, hT 25, hT 26, hT 27, hT 28, hT 29, hT 30, hT 31, hT 32, hT 33, hT 34, hT 35⟩
 simp only [Fact.G, Nat.reduceEqDiff, Nat.reduceLT, hf.size, reduceIte, s0, s4, s5, s6, s7, s8, s11, s12, s13, s14, s15, s16, s17, s19, s20, s21, s22, s23, s24, s25, s26, s27, s28, s29, s30, s31, s32, s33, s34] at hKp
 clear hT hf s0 s4 s5 s6 s7 s8 s11 s12 s13 s14 s15 s16 s17 s19 s20 s21 s22 s23 s24 s25 s26 s27 s28 s29 s30 s31 s32 s33 s34 b35
 obtain ⟨s0, s2, s3, s4, s5, s6, s7, s8, s11, s12, s13, s14, s15, s16, s17, s19, s20, s21, s22, s23, s24, s25, s26, s27, s28, s29, s30, s31, s32, s33, s34, s35⟩ := hKp
 have hf := hf1; clear hf1
 refine Fact.nx (hK12 _ _ ?_)
 refine wp_ret ?_
 refine Fact.block_ret ?_
 refine Fact.then_ret ?_
 refine Fact.then_ret ?_
 refine Fact.block_ret ?_
 refine Fact.then_ret ?_
 exact Fact.ret2 rfl hf s2 s3 ⟨i, by rw [HC.out, HST.out, H1.out, prev_succ hi0 HP.out]; simp only [(Bool.not_eq_true' _).mp HQ2.out, if_true, Bool.false_eq_true, if_false]; rfl, hbz⟩)
 · (
 rw [ge_lex] at hq2
 have HQ2 := Lib.hid hq2; clear hq2
 have hbz := hb.trans (hx.mono hb.size)
 have hfin : chkN es = chkL (some (wl e.word)) (es.drop (i + 1)) := by rw [HC.out, HST.out, H1.out, prev_succ hi0 HP.out]; simp only [(Bool.not_eq_false' _).mp HQ2.out, if_true]
 have HF := Lib.hid hfin; clear hfin
 refine wp_skip ?_
 refine Fact.block_normal ?_
 refine Fact.nx (hK6 _ _ ?_)
 refine Fact.region ?_
 have b9 := hf.l 9 rfl
 have b10 := hf.l 10 rfl
 refine Fact.p rfl fun K hK => ?_
 go_simp
 refine hK.out _ _ ?_; clear hK K
 refine Fact.p rfl fun K hK => ?_
 go_simp
 try simp (disch := omega) only [Fact.wrap_i64, Fact.wrap_u8, Fact.wrap_u32, Fact.wrap_u64]
 refine hK.out _ _ ?_; clear hK K
 refine Fact.p rfl fun K hK => ?_
 go_simp
 refine hK.out _ _ ?_; clear hK K
 refine Fact.nil ?_
 refine Fact.q hf (by simp only [Fact.G]) rfl fun fr1 hf1 hT => ?_
 have hKp : _ ∧ _ ∧ _ ∧ _ ∧ _ ∧ _ ∧ _ ∧ _ ∧ _ ∧ _ ∧ _ ∧ _ ∧ _ ∧ _ ∧ _ ∧ _ ∧ _ ∧ _ ∧ _ ∧ _ ∧ _ ∧ _ ∧ _ ∧ _ ∧ _ ∧ _ ∧ _ ∧ _ ∧ _ ∧ _ ∧ _ := ⟨hT 0, hT 4, hT 5, hT 6, hT 7, hT 8, hT 9, hT 10, hT 11, hT 12, hT 13, hT 14, hT 15, hT 16, hT 17, hT 19, hT 20, hT 21, hT 22, hT 23, hT 24, hT 25, hT 26, hT 27, hT 28, hT 29, hT 30, hT 31, hT 32, hT 33, hT 34⟩
 simp only [Fact.G, Nat.reduceEqDiff, Nat.reduceLT, hf.size, reduceIte, s0, s5, s6, s7, s8, s11, s12, s13, s14, s15, s16, s17, s19, s20, s21, s22, s23, s24, s25, s26, s27, s28, s29, s30, s31, s32, s33, s34] at hKp
 clear hT hf s0 s4 s5 s6 s7 s8 s11 s12 s13 s14 s15 s16 s17 s19 s20 s21 s22 s23 s24 s25 s26 s27 s28 s29 s30 s31 s32 s33 s34 b9 b10
 obtain ⟨s0, s4, s5, s6, s7, s8, s9, s10, s11, s12, s13, s14, s15, s16, s17, s19, s20, s21, s22, s23, s24, s25, s26, s27, s28, s29, s30, s31, s32, s33, s34⟩ := hKp
 have hf := hf1; clear hf1
 refine Fact.then_normal ?_
 exact ⟨_, by have := HK.out; omega, i + 1, rfl, by omega, hf, s0, by rw [s4]; rfl, by rw [HF.out, prevW_succ HE.out], hbz⟩))))
 · (
 have hie : i = es.length := by have h9 := of_decide_eq_false hq; omega
 have HIE := Lib.hid hie; clear hie hq
 refine wp_exit ?_
 refine Fact.then_exit ?_
 refine Fact.then_exit ?_
 refine Fact.block_exit ?_
 refine Fact.nx (hK2 _ _ ?_)
 refine wp_seq_k (fun K13 hK13 => ?_)
 refine Fact.region ?_
 refine Fact.p rfl fun K hK => ?_
 go_simp
 refine hK.out _ _ ?_; clear hK K
 refine Fact.p rfl fun K hK => ?_
 go_simp
 refine hK.out _ _ ?_; clear hK K
 refine Fact.nil ?_
 refine Fact.q hf (by simp only [Fact.G]) rfl fun fr1 hf1 hT => ?_
 have hKp : _ ∧ _ := ⟨hT 2, hT 3⟩
 simp only [Fact.G, Nat.reduceEqDiff, Nat.reduceLT, hf.size, reduceIte] at hKp
 clear hT hf s0 s4 s5 s6 s7 s8
 obtain ⟨s2, s3⟩ := hKp
 have hf := hf1; clear hf1
 refine Fact.nx (hK13 _ _ ?_)
 refine wp_ret ?_
 exact Fact.ret2 rfl hf s2 s3 ⟨-1, by rw [HC.out, List.drop_eq_nil_of_le (by have := HIE.out; omega)]; rfl, hb⟩))
set_option maxHeartbeats 4000000 in
set_option maxRecDepth 100000 in
theorem least39 (w : World) (es : List Ent) (B : Nat) (v : Value) (hB : B ≤ w.heap.size) (hre : RE w B v es) (hes : ∀ e ∈ es, okE e) (h0 : 0 < es.length) (hlen : es.length ≤ 1000000) : Calls Tryd.prog 39 #[v] w fun e w1 => e = .returned (.int .u64 (leastV (es.map wvE) : Nat)) ∧ Below w.heap.size w w1 := by
 refine calls_of_wp Tryd.func39 rfl ?_
 refine Fact.enter (n := 23) (by kernel_rfl) (fun fr hf hT => ?_)
 have s0 := hT 0 _ rfl
 clear hT
 have hre0 := hre.any
 obtain ⟨A, cc, rfl, hcc⟩ := hre.form
 clear hre
 have HO := Lib.hid hes; clear hes
 obtain ⟨e0, he0⟩ : ∃ e, es[0]? = some e := ⟨_, List.getElem?_eq_getElem h0⟩
 obtain ⟨b, off, rfl, hbB, hbl, d0, d1, d2⟩ := hre0.at_ he0
 simp only [Nat.zero_mul, Nat.add_zero] at d0 d1 d2
 have hoe := HO.out e0 (List.mem_of_getElem? he0)
 have HE := Lib.hid he0; clear he0
 refine wp_seq_k (fun K1 hK1 => ?_)
 refine Fact.region ?_
 refine Fact.p rfl fun K hK => ?_
 go_simp
 refine hK.out _ _ ?_; clear hK K
 refine Fact.nil ?_
 refine Fact.q hf (by simp only [Fact.G]) rfl fun fr1 hf1 hT => ?_
 have hKp : _ ∧ _ := ⟨hT 0, hT 2⟩
 simp only [Fact.G, Nat.reduceEqDiff, Nat.reduceLT, hf.size, reduceIte, s0] at hKp
 clear hT hf s0
 obtain ⟨s0, s2⟩ := hKp
 have hf := hf1; clear hf1
 refine Fact.nx (hK1 _ _ ?_)
 refine wp_seq_k (fun K2 hK2 => ?_)
 refine Fact.region ?_
 have b5 := hf.l 5 rfl
 have b6 := hf.l 6 rfl
 have b7 := hf.l 7 rfl
 have b8 := hf.l 8 rfl
 refine Fact.p rfl fun K hK => ?_
 go_simp
 refine hK.out _ _ ?_; clear hK K
 refine Fact.p rfl fun K hK => ?_
 go_simp
 try rw [if_pos (by omega)]
 refine hK.out _ _ ?_; clear hK K
 refine Fact.p rfl fun K hK => ?_
 go_simp
 refine hK.out _ _ ?_; clear hK K
 refine Fact.p rfl fun K hK => ?_
 go_simp
 go_at_call 16; refine (rvalue16 e0 hoe w).mono ?_; rintro e w1 ⟨rfl, hb1⟩
 dsimp only
 refine hK.out _ _ ?_; clear hK K
 refine Fact.p rfl fun K hK => ?_
 go_simp
 refine hK.out _ _ ?_; clear hK K
 refine Fact.nil ?_
 refine Fact.q hf (by simp only [Fact.G]) rfl fun fr1 hf1 hT => ?_
 have hKp : _ ∧ _ ∧ _ := ⟨hT 0, hT 2, hT 3⟩
 simp only [Fact.G, Nat.reduceEqDiff, Nat.reduceLT, hf.size, reduceIte, s0, s2] at hKp
 clear hT hf s0 s2 b5 b6 b7 b8
 obtain ⟨s0, s2, s3⟩ := hKp
 have hf := hf1; clear hf1
 refine Fact.nx (hK2 _ _ ?_)
 refine wp_seq_k (fun K3 hK3 => ?_)
 refine wp_seq_k (fun K4 hK4 => ?_)
 refine Fact.region ?_
 refine Fact.p rfl fun K hK => ?_
 go_simp
 refine hK.out _ _ ?_; clear hK K
 refine Fact.nil ?_
 refine Fact.q hf (by simp only [Fact.G]) rfl fun fr1 hf1 hT => ?_
 have hKp : _ ∧ _ ∧ _ ∧ _ := ⟨hT 0, hT 2, hT 3, hT 4⟩
 simp only [Fact.G, Nat.reduceEqDiff, Nat.reduceLT, hf.size, reduceIte, s0, s2, s3] at hKp
 clear hT hf s0 s2 s3
 obtain ⟨s0, s2, s3, s4⟩ := hKp
 have hf := hf1; clear hf1
 refine Fact.nx (hK4 _ _ ?_)
 refine wp_block ?_
 refine wp_loop_ghost (fun gk fr wr => ∃ (i : Nat), gk = es.length - i ∧ 1 ≤ i ∧ i ≤ es.length ∧ Fact.Fr 23 fr ∧ fr.tmps[0]? = some (.slice (some ⟨b, off, none⟩) es.length cc) ∧ fr.tmps[3]? = some (.int .u64 (leastV ((es.take i).map wvE) : Nat)) ∧ fr.tmps[4]? = some (.int .i64 i) ∧ Below w.heap.size w wr) (es.length - 1) ?_ ?_
 · (
 exact ⟨1, rfl, Nat.le_refl _, h0, hf, s0, by rw [s3, least_take1 HE.out], s4, hb1⟩)
 · (
 clear hf s0 s2 s3 s4
 rintro gk fr wr ⟨i, hk, hi1, hi, hf, s0, s3, s4, hb⟩
 have HK := Lib.hid hk; clear hk d0 d1 d2 hoe
 refine wp_seq_k (fun K5 hK5 => ?_)
 refine wp_seq_k (fun K6 hK6 => ?_)
 refine Fact.region ?_
 have b9 := hf.l 9 rfl
 have b10 := hf.l 10 rfl
 have b11 := hf.l 11 rfl
 refine Fact.p rfl fun K hK => ?_
 go_simp
 refine hK.out _ _ ?_; clear hK K
 refine Fact.p rfl fun K hK => ?_
 go_simp
 refine hK.out _ _ ?_; clear hK K
 refine Fact.p rfl fun K hK => ?_
 go_simp
 refine hK.out _ _ ?_; clear hK K
 refine Fact.p rfl fun K hK => ?_
 go_simp
 refine hK.out _ _ ?_; clear hK K
 refine Fact.nil ?_
 refine Fact.q hf (by simp only [Fact.G]) rfl fun fr1 hf1 hT => ?_
 have hKp : _ ∧ _ ∧ _ ∧ _ ∧ _ ∧ _ ∧ _ := ⟨hT 0, hT 3, hT 4, hT 9, hT 10, hT 11, hT 12⟩
 simp only [Fact.G, Nat.reduceEqDiff, Nat.reduceLT, hf.size, reduceIte, s0, s3, s4] at hKp
 clear hT hf s0 s3 s4 b9 b10 b11
 obtain ⟨s0, s3, s4, s9, s10, s11, s12⟩ := hKp
 have hf := hf1; clear hf1
 refine Fact.nx (hK6 _ _ ?_)
 refine Fact.cond_s s12 (fun hq => ?_) (fun hq => ?_)
 · (
 have hlt : i < es.length := by have h9 := of_decide_eq_true hq; omega
 have HQ := Lib.hid hq; clear hq
 obtain ⟨e, hie⟩ : ∃ e, es[i]? = some e := ⟨_, List.getElem?_eq_getElem hlt⟩
 obtain ⟨b2, off2, he2, hbB2, hbl2, d0, d1, d2⟩ := (hre0.below hb).at_ hie
 injection he2 with he2
 injection he2 with he2 he3
 subst he2; subst he3
 have hoe := HO.out e (List.mem_of_getElem? hie)
 have hls := least_takeS hie hi1
 have HI := Lib.hid hie; have HLS := Lib.hid hls; clear hie hls
 refine wp_skip ?_
 refine Fact.nx (hK5 _ _ ?_)
 refine wp_seq_k (fun K7 hK7 => ?_)
 refine wp_block ?_
 refine Fact.region ?_
 have b15 := hf.l 15 rfl
 have b16 := hf.l 16 rfl
 have b17 := hf.l 17 rfl
 have b18 := hf.l 18 rfl
 have b19 := hf.l 19 rfl
 have b20 := hf.l 20 rfl
 have b21 := hf.l 21 rfl
 refine Fact.p rfl fun K hK => ?_
 go_simp
 refine hK.out _ _ ?_; clear hK K
 refine Fact.p rfl fun K hK => ?_
 go_simp
 refine hK.out _ _ ?_; clear hK K
 refine Fact.p rfl fun K hK => ?_
 go_simp
 refine hK.out _ _ ?_; clear hK K
 refine Fact.p rfl fun K hK => ?_
 go_simp
 try rw [if_pos (by omega)]
 refine hK.out _ _ ?_; clear hK K
 refine Fact.p rfl fun K hK => ?_
 go_simp
 refine hK.out _ _ ?_; clear hK K
 refine Fact.p rfl fun K hK => ?_
 go_simp
 go_at_call 16; refine (rvalue16 e hoe wr).mono ?_; rintro e w5 ⟨rfl, hb5⟩
 dsimp only
 refine hK.out _ _ ?_; clear hK K
 refine Fact.p rfl fun K hK => ?_
 go_simp
 rw [show (if valE e < leastV (List.take i (List.map wvE es)) then ((valE e : Nat) : Int) else ((leastV (List.take i (List.map wvE es)) : Nat) : Int)) = ((leastV ((es.take (i + 1)).map wvE) : Nat) : Int) by rw [HLS.out, ← List.map_take]; split <;> omega]
 refine hK.out _ _ ?_; clear hK K
 refine Fact.p rfl fun K hK => ?_
 go_simp
 refine hK.out _ _ ?_; clear hK K
 refine Fact.nil ?_
 refine Fact.q hf (by simp only [Fact.G]) rfl fun fr1 hf1 hT => ?_
 have hKp : _ ∧ _ ∧ _ ∧ _ ∧ _ ∧ _ ∧ _ ∧ _ ∧ _ ∧ _ ∧ _ ∧ _ ∧ _ ∧ _ := ⟨hT 0, hT 3, hT 4, hT 9, hT 10, hT 11, hT 12, hT 15, hT 16, hT 17, hT 18, hT 19, hT 20, hT 21⟩
 simp only [Fact.G, Nat.reduceEqDiff, Nat.reduceLT, hf.size, reduceIte, s0, s4, s9, s10, s11, s12] at hKp
 clear hT hf s0 s3 s4 s9 s10 s11 s12 b15 b16 b17 b18 b19 b20 b21
 obtain ⟨s0, s3, s4, s9, s10, s11, s12, s15, s16, s17, s18, s19, s20, s21⟩ := hKp
 have hf := hf1; clear hf1
 refine Fact.block_normal ?_
 refine Fact.nx (hK7 _ _ ?_)
 refine Fact.region ?_
 have b13 := hf.l 13 rfl
 have b14 := hf.l 14 rfl
 refine Fact.p rfl fun K hK => ?_
 go_simp
 refine hK.out _ _ ?_; clear hK K
 refine Fact.p rfl fun K hK => ?_
 go_simp
 try simp (disch := omega) only [Fact.wrap_i64, Fact.wrap_u8, Fact.wrap_u32, Fact.wrap_u64]
 refine hK.out _ _ ?_; clear hK K
 refine Fact.p rfl fun K hK => ?_
 go_simp
 refine hK.out _ _ ?_; clear hK K
 refine Fact.nil ?_
 refine Fact.q hf (by simp only [Fact.G]) rfl fun fr1 hf1 hT => ?_
 have hKp : _ ∧ _ ∧ _ ∧ _ ∧ _ ∧ _ ∧ _ ∧ _ ∧ _ ∧ _ ∧ _ ∧ _ ∧ _ ∧ _ ∧ _ ∧ _ := ⟨hT 0, hT 3, hT 4, hT 9, hT 10, hT 11, hT 12, hT 13, hT 14, hT 15, hT 16, hT 17, hT 18, hT 19, hT 20, hT 21⟩
 simp only [Fact.G, Nat.reduceEqDiff, Nat.reduceLT, hf.size, reduceIte, s0, s3, s9, s10, s11, s12, s15, s16, s17, s18, s19, s20, s21] at hKp
 clear hT hf s0 s3 s4 s9 s10 s11 s12 s15 s16 s17 s18 s19 s20 s21 b13 b14
 obtain ⟨s0, s3, s4, s9, s10, s11, s12, s13, s14, s15, s16, s17, s18, s19, s20, s21⟩ := hKp
 have hf := hf1; clear hf1
 refine Fact.then_normal ?_
 exact ⟨_, by have := HK.out; omega, i + 1, rfl, by omega, by omega, hf, s0, by rw [s3, List.map_take], by rw [s4]; rfl, hb.trans (hb5.mono hb.size)⟩)
 · (
 have hie : i = es.length := by have h9 := of_decide_eq_false hq; omega
 have HIE := Lib.hid hie; clear hie hq
 refine wp_exit ?_
 refine Fact.then_exit ?_
 refine Fact.then_exit ?_
 refine Fact.block_exit ?_
 refine Fact.nx (hK3 _ _ ?_)
 refine wp_seq_k (fun K8 hK8 => ?_)
 refine Fact.region ?_
 have b22 := hf.l 22 rfl
 refine Fact.p rfl fun K hK => ?_
 go_simp
 refine hK.out _ _ ?_; clear hK K
 refine Fact.p rfl fun K hK => ?_
 go_simp
 refine hK.out _ _ ?_; clear hK K
 refine Fact.nil ?_
 refine Fact.q hf (by simp only [Fact.G]) rfl fun fr1 hf1 hT => ?_
 have hKp := hT 2
 simp only [Fact.G, Nat.reduceEqDiff, Nat.reduceLT, hf.size, reduceIte] at hKp
 clear hT hf s0 s3 s4 s9 s10 s11 s12 b22
 have s2 := hKp; clear hKp
 have hf := hf1; clear hf1
 refine Fact.nx (hK8 _ _ ?_)
 refine wp_ret ?_
 exact Fact.ret1 rfl hf s2 ⟨by rw [HIE.out, List.take_of_length_le (by simp)], hb⟩))
end Dw
end Go.Proofs.YtgjfhedgdbbinaaDoor
