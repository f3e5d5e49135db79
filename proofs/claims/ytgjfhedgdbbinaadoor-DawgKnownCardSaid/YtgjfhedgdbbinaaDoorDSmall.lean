/- Dawg: the least of a state, what it is pushed by. -/
import Derived.Test.YtgjfhedgdbbinaaDoorDBase
import Derived.WalkSmall
namespace Go.Proofs.YtgjfhedgdbbinaaDoor
open Go.RowKit
set_option linter.unusedSimpArgs false
set_option linter.unusedVariables false
set_option linter.unnecessarySimpa false
namespace Dw

def takeS (s : State) (i : Nat) : State := ⟨s.final, s.out, s.arcs.take i⟩
theorem least_zero (s : State) : leastOf (takeS s 0) = s.out := by
  unfold leastOf takeS
  cases s.final <;> simp
theorem least_all (s : State) : leastOf (takeS s s.arcs.length) = leastOf s := by
  unfold takeS
  rw [List.take_length]
theorem least_step {s : State} {i : Nat} {a : Arc} (h : s.arcs[i]? = some a) : leastOf (takeS s (i + 1)) = if (!(s.final || decide (0 < i)) || decide (a.out < leastOf (takeS s i))) = true then a.out else leastOf (takeS s i) := by
  have hlt := (List.getElem?_eq_some_iff.1 h).1
  have ht : s.arcs.take (i + 1) = s.arcs.take i ++ [a] := by rw [List.take_add_one, h]; rfl
  have fold : ∀ (x : Nat) (l : List Nat), (l ++ [a.out]).foldl min x = if a.out < l.foldl min x then a.out else l.foldl min x := fun x l => by
    rw [List.foldl_append]
    simp only [List.foldl_cons, List.foldl_nil]
    by_cases hlt2 : a.out < l.foldl min x
    · rw [if_pos hlt2, Nat.min_eq_right (by omega)]
    · rw [if_neg hlt2, Nat.min_eq_left (by omega)]
  unfold leastOf takeS
  simp only [ht, List.map_append, List.map_cons, List.map_nil]
  cases hf : s.final with
  | true =>
    simp only [if_true, List.singleton_append, List.cons_append, Bool.true_or, Bool.not_true, Bool.false_or, decide_eq_true_eq]
    exact fold _ _
  | false =>
    simp only [Bool.false_eq_true, if_false, List.nil_append, Bool.false_or]
    cases i with
    | zero => simp
    | succ i =>
      obtain ⟨y, l, hl⟩ : ∃ y l, (s.arcs.take (i + 1)).map Arc.out = y :: l := by
        cases hl : (s.arcs.take (i + 1)).map Arc.out with
        | nil => have := congrArg List.length hl; simp only [List.length_map, List.length_take, List.length_nil] at this; omega
        | cons y l => exact ⟨y, l, rfl⟩
      rw [hl]
      simp only [List.cons_append, Nat.zero_lt_succ, decide_true, Bool.not_true, Bool.false_or, decide_eq_true_eq]
      exact fold _ _
set_option maxHeartbeats 4000000 in
set_option maxRecDepth 100000 in
theorem least34 (w : World) (g o : Nat) (s : State) (B : Nat → Prop) (av : Value) (hs : SAt w B g o av s) (hos : okS s) : Calls Tryd.prog 34 #[.pointer (some ⟨g, o, none⟩)] w fun e w1 => e = .returned (.int .u64 (leastOf s)) ∧ Below w.heap.size w w1 := by
 refine calls_of_wp Tryd.func34 rfl ?_
 refine Fact.enter (n := 39) (by kernel_rfl) (fun fr hf hT => ?_)
 have s0 := hT 0 _ rfl
 clear hT
 have c1 := hs.c1
 have c2 := hs.c2
 have c0 := hs.c0
 have ha := hs.arcs
 obtain ⟨A, cc, rfl, hcc⟩ := ha.form
 have hlen := hos.2.1
 have hoo := hos.2.2
 clear hs
 refine wp_seq_k (fun K1 hK1 => ?_)
 refine Fact.region ?_
 refine Fact.p rfl fun K hK => ?_
 go_simp
 refine hK.out _ _ ?_; clear hK K
 refine Fact.nil ?_
 refine Fact.q hf (by simp only [Fact.G]) rfl fun fr1 hf1 hT => ?_
 have hKp : _ ∧ _ := ⟨hT 0, hT 2⟩
 simp only [Fact.G, Nat.reduceEqDiff, Nat.reduceLT, hf.size, reduceIte, s0] at hKp
 clear hT hf s0
 obtain ⟨s0, s2⟩ := hKp
 have hf := hf1; clear hf1
 refine Fact.nx (hK1 _ _ ?_)
 refine wp_seq_k (fun K2 hK2 => ?_)
 refine Stab.todo_begin (n := 39) (Stab.OkOps.of (by kernel_rfl)) (fun hok => ?_)
 refine Stab.mvO (k := 0) s0 hf.size hok.out rfl rfl rfl (.inl rfl) (by kernel_rfl) ?_
 apply Stab.t 1 _ hf.size hok.out rfl
 · (
 intro fr1 w1 hh hd hk K hK
 refine Stab.op_plain (o := _) rfl rfl ?_
 have s7 := Stab.u 0 0 hd hk rfl [] (by kernel_rfl) rfl rfl rfl
 clear hd
 go_simp
 exact hK.out _ rfl _ _ (Below.refl _ _) rfl)
 apply Stab.t 2 _ hf.size hok.out rfl
 · (
 intro fr1 w1 hh hd hk K hK
 refine Stab.op_plain (o := _) rfl rfl ?_
 have s8 := Stab.u 1 0 hd hk rfl [] (by kernel_rfl) rfl rfl rfl
 clear hd
 go_simp
 exact hK.out _ rfl _ _ (Below.refl _ _) rfl)
 apply Stab.t 3 _ hf.size hok.out rfl
 · (
 intro fr1 w1 hh hd hk K hK
 refine Stab.op_plain (o := _) rfl rfl ?_
 have s9 := Stab.u 2 0 hd hk rfl [] (by kernel_rfl) rfl rfl rfl
 clear hd
 go_simp
 exact hK.out _ rfl _ _ (Below.refl _ _) rfl)
 apply Stab.t 4 _ hf.size hok.out rfl
 · (
 intro fr1 w1 hh hd hk K hK
 refine Stab.op_plain (o := _) rfl rfl ?_
 have s10 := Stab.u 3 0 hd hk rfl [] (by kernel_rfl) rfl rfl rfl
 clear hd
 replace c0 := cell_later hh.ext c0
 replace c1 := cell_later hh.ext c1
 replace c2 := cell_later hh.ext c2
 replace ha := ha.later hh.ext
 go_simp
 exact hK.out _ rfl _ _ (Below.refl _ _) rfl)
 refine Stab.mvO (k := 5) s0 hf.size hok.out rfl rfl rfl (.inl rfl) (by kernel_rfl) ?_
 apply Stab.t 6 _ hf.size hok.out rfl
 · (
 intro fr1 w1 hh hd hk K hK
 refine Stab.op_plain (o := _) rfl rfl ?_
 have s12 := Stab.u 5 0 hd hk rfl [] (by kernel_rfl) rfl rfl rfl
 clear hd
 go_simp
 exact hK.out _ rfl _ _ (Below.refl _ _) rfl)
 apply Stab.t 7 _ hf.size hok.out rfl
 · (
 intro fr1 w1 hh hd hk K hK
 refine Stab.op_plain (o := _) rfl rfl ?_
 have s13 := Stab.u 6 0 hd hk rfl [] (by kernel_rfl) rfl rfl rfl
 clear hd
 go_simp
 exact hK.out _ rfl _ _ (Below.refl _ _) rfl)
 apply Stab.t 8 _ hf.size hok.out rfl
 · (
 intro fr1 w1 hh hd hk K hK
 refine Stab.op_plain (o := _) rfl rfl ?_
 have s14 := Stab.u 7 0 hd hk rfl [] (by kernel_rfl) rfl rfl rfl
 clear hd
 go_simp
 exact hK.out _ rfl _ _ (Below.refl _ _) rfl)
 apply Stab.t 9 _ hf.size hok.out rfl
 · (
 intro fr1 w1 hh hd hk K hK
 refine Stab.op_plain (o := _) rfl rfl ?_
 have s15 := Stab.u 8 0 hd hk rfl [] (by kernel_rfl) rfl rfl rfl
 clear hd
 replace c0 := cell_later hh.ext c0
 replace c1 := cell_later hh.ext c1
 replace c2 := cell_later hh.ext c2
 replace ha := ha.later hh.ext
 go_simp
 exact hK.out _ rfl _ _ (Below.refl _ _) rfl)
 refine Stab.mvN (k := 10) (j := 4) (m := 5) hf.size hok.out rfl rfl rfl (.inr rfl) rfl [] (by kernel_rfl) rfl rfl rfl ?_
 refine Stab.mvN (k := 11) (j := 9) (m := 1) hf.size hok.out rfl rfl rfl (.inr rfl) rfl [] (by kernel_rfl) rfl rfl rfl ?_
 refine Stab.todo_facts (n := 39) (by kernel_rfl) hf.size hok.out rfl (fun fr1 w1 hh hg => ?_)
 replace s0 := Stab.o hh (by kernel_rfl) s0
 replace s2 := Stab.o hh (by kernel_rfl) s2
 have s3 := Stab.e 10 1 hg rfl rfl rfl rfl
 have s4 := Stab.e 11 0 hg rfl rfl rfl rfl
 have hf1 : Fact.Fr 39 fr1 := ⟨hh.size.trans hf.size, hh.defers.trans hf.defers⟩
 have hx := hh.ext
 replace c0 := cell_later hx c0
 replace c1 := cell_later hx c1
 replace c2 := cell_later hx c2
 replace ha := ha.later hx
 clear hg hh hf hok
 have hf := hf1; clear hf1
 refine Fact.nx (hK2 _ _ ?_)
 refine wp_seq_k (fun K3 hK3 => ?_)
 refine wp_seq_k (fun K4 hK4 => ?_)
 refine Fact.region ?_
 have b17 := hf.l 17 rfl
 have b18 := hf.l 18 rfl
 have b19 := hf.l 19 rfl
 have b20 := hf.l 20 rfl
 have b21 := hf.l 21 rfl
 refine Fact.p rfl fun K hK => ?_
 go_simp
 refine hK.out _ _ ?_; clear hK K
 refine Fact.p rfl fun K hK => ?_
 go_simp
 refine hK.out _ _ ?_; clear hK K
 refine Fact.p rfl fun K hK => ?_
 go_simp
 refine hK.out _ _ ?_; clear hK K
 refine Fact.p rfl fun K hK => ?_
 go_simp
 refine hK.out _ _ ?_; clear hK K
 refine Fact.p rfl fun K hK => ?_
 go_simp
 refine hK.out _ _ ?_; clear hK K
 refine Fact.p rfl fun K hK => ?_
 go_simp
 refine hK.out _ _ ?_; clear hK K
 refine Fact.p rfl fun K hK => ?_
 go_simp
 refine hK.out _ _ ?_; clear hK K
 refine Fact.nil ?_
 refine Fact.q hf (by simp only [Fact.G]) rfl fun fr1 hf1 hT => ?_
 have hKp : _ ∧ _ ∧ _ ∧ _ ∧ _ ∧ _ := ⟨hT 2, hT 3, hT 4, hT 21, hT 22, hT 23⟩
 simp only [Fact.G, Nat.reduceEqDiff, Nat.reduceLT, hf.size, reduceIte, s2, s3, s4] at hKp
 clear hT hf s0 s2 s3 s4 b17 b18 b19 b20 b21
 obtain ⟨s2, s3, s4, s21, s22, s23⟩ := hKp
 have hf := hf1; clear hf1
 refine Fact.nx (hK4 _ _ ?_)
 refine wp_block ?_
 clear c1 c2
 refine wp_loop_ghost (fun gk fr wr => ∃ (i : Nat), gk = s.arcs.length - i ∧ i ≤ s.arcs.length ∧ Fact.Fr 39 fr ∧ fr.tmps[3]? = some (.int .u64 (leastOf (takeS s i))) ∧ fr.tmps[4]? = some (.bool (s.final || decide (0 < i))) ∧ fr.tmps[21]? = some (.slice A s.arcs.length cc) ∧ fr.tmps[22]? = some (.int .i64 s.arcs.length) ∧ fr.tmps[23]? = some (.int .i64 i) ∧ Below w1.heap.size w1 wr) (s.arcs.length) ?_ ?_
 · (
 exact ⟨0, rfl, Nat.zero_le _, hf, by rw [s3, least_zero], by rw [s4]; simp, s21, s22, s23, Below.refl _ _⟩)
 · (
 clear hf s2 s3 s4 s21 s22 s23
 rintro gk fr wr ⟨i, hk, hi, hf, s3, s4, s21, s22, s23, hb⟩
 have HK := Lib.hid hk; clear hk
 refine wp_seq_k (fun K5 hK5 => ?_)
 refine Fact.region ?_
 refine Fact.p rfl fun K hK => ?_
 go_simp
 refine hK.out _ _ ?_; clear hK K
 refine Fact.nil ?_
 refine Fact.q hf (by simp only [Fact.G]) rfl fun fr1 hf1 hT => ?_
 have hKp : _ ∧ _ ∧ _ ∧ _ ∧ _ ∧ _ := ⟨hT 3, hT 4, hT 21, hT 22, hT 23, hT 24⟩
 simp only [Fact.G, Nat.reduceEqDiff, Nat.reduceLT, hf.size, reduceIte, s3, s4, s21, s22, s23] at hKp
 clear hT hf s3 s4 s21 s22 s23
 obtain ⟨s3, s4, s21, s22, s23, s24⟩ := hKp
 have hf := hf1; clear hf1
 refine Fact.nx (hK5 _ _ ?_)
 refine wp_seq_k (fun K6 hK6 => ?_)
 refine Fact.cond_s s24 (fun hq => ?_) (fun hq => ?_)
 · (
 have hlt : i < s.arcs.length := by have h9 := of_decide_eq_true hq; omega
 obtain ⟨a, hia⟩ : ∃ a, s.arcs[i]? = some a := ⟨_, List.getElem?_eq_getElem hlt⟩
 obtain ⟨b, off, rfl, hbl, d0, d1, d2⟩ := (ha.later hb).at' hia
 have hst := least_step hia
 have HS := Lib.hid hst
 have HA := Lib.hid hia
 clear hst hia
 refine wp_skip ?_
 refine Fact.nx (hK6 _ _ ?_)
 refine wp_seq_k (fun K7 hK7 => ?_)
 refine wp_block ?_
 refine wp_seq_k (fun K8 hK8 => ?_)
 refine Fact.region ?_
 have b25 := hf.l 25 rfl
 have b26 := hf.l 26 rfl
 have b6 := hf.l 6 rfl
 refine Fact.p rfl fun K hK => ?_
 go_simp
 try rw [if_pos (by omega)]
 refine hK.out _ _ ?_; clear hK K
 refine Fact.p rfl fun K hK => ?_
 go_simp
 refine hK.out _ _ ?_; clear hK K
 refine Fact.p rfl fun K hK => ?_
 go_simp
 refine hK.out _ _ ?_; clear hK K
 refine Fact.p rfl fun K hK => ?_
 go_simp
 refine hK.out _ _ ?_; clear hK K
 refine Fact.nil ?_
 refine Fact.q hf (by simp only [Fact.G]) rfl fun fr1 hf1 hT => ?_
 have hKp : _ ∧ _ ∧ _ ∧ _ ∧ _ ∧ _ ∧ _ ∧ _ ∧ _ := ⟨hT 3, hT 4, hT 6, hT 21, hT 22, hT 23, hT 24, hT 25, hT 26⟩
 simp only [Fact.G, Nat.reduceEqDiff, Nat.reduceLT, hf.size, reduceIte, s3, s4, s21, s22, s23, s24] at hKp
 clear hT hf s3 s4 s21 s22 s23 s24 b25 b26 b6
 obtain ⟨s3, s4, s6, s21, s22, s23, s24, s25, s26⟩ := hKp
 have hf := hf1; clear hf1
 clear d0 d1 d2 hbl
 obtain ⟨W0, hW0⟩ : ∃ W0, wr.alloc (.cells #[.int .u8 a.byte, .int .u64 a.out, .int .i64 a.to] 63) = W0 := ⟨_, rfl⟩
 try rw [hW0]
 obtain ⟨hb2, -, x1, -, -, -⟩ := box3 hW0
 clear hW0
 refine Fact.nx (hK8 _ _ ?_)
 rcases hany : (s.final || decide (0 < i)) with _ | _
 · (
 try rw [hany] at s4
 refine wp_seq_k (fun K9 hK9 => ?_)
 refine Fact.region ?_
 have b27 := hf.l 27 rfl
 have b28 := hf.l 28 rfl
 have b29 := hf.l 29 rfl
 have b30 := hf.l 30 rfl
 have b31 := hf.l 31 rfl
 have b32 := hf.l 32 rfl
 have b33 := hf.l 33 rfl
 refine Fact.p rfl fun K hK => ?_
 go_simp
 refine hK.out _ _ ?_; clear hK K
 refine Fact.p rfl fun K hK => ?_
 go_simp
 refine hK.out _ _ ?_; clear hK K
 refine Fact.p rfl fun K hK => ?_
 go_simp
 refine hK.out _ _ ?_; clear hK K
 refine Fact.op_skip (g := 2) (d := 29) (b := false) rfl rfl rfl ?_ ?_
 · (
 simp only [Fact.G, Nat.reduceEqDiff, Nat.reduceLT, reduceIte, hf.size, Bool.not_true, Bool.not_false, hany, Bool.not_true, Bool.not_false])
 refine Fact.op_skip (g := 2) (d := 29) (b := false) rfl rfl rfl ?_ ?_
 · (
 simp only [Fact.G, Nat.reduceEqDiff, Nat.reduceLT, reduceIte, hf.size, Bool.not_true, Bool.not_false, hany, Bool.not_true, Bool.not_false])
 refine Fact.op_skip (g := 2) (d := 29) (b := false) rfl rfl rfl ?_ ?_
 · (
 simp only [Fact.G, Nat.reduceEqDiff, Nat.reduceLT, reduceIte, hf.size, Bool.not_true, Bool.not_false, hany, Bool.not_true, Bool.not_false])
 refine Fact.op_skip (g := 2) (d := 29) (b := false) rfl rfl rfl ?_ ?_
 · (
 simp only [Fact.G, Nat.reduceEqDiff, Nat.reduceLT, reduceIte, hf.size, Bool.not_true, Bool.not_false, hany, Bool.not_true, Bool.not_false])
 refine Fact.p rfl fun K hK => ?_
 go_simp
 refine hK.out _ _ ?_; clear hK K
 refine Fact.nil ?_
 refine Fact.q hf (by simp only [Fact.G]) rfl fun fr1 hf1 hT => ?_
 have hKp : _ ∧ _ ∧ _ ∧ _ ∧ _ ∧ _ ∧ _ ∧ _ ∧ _ ∧ _ ∧ _ ∧ _ ∧ _ ∧ _ ∧ _ ∧ _ ∧ _ := ⟨hT 3, hT 4, hT 6, hT 21, hT 22, hT 23, hT 24, hT 25, hT 26, hT 27, hT 28, hT 29, hT 30, hT 31, hT 32, hT 33, hT 34⟩
 simp only [Fact.G, Nat.reduceEqDiff, Nat.reduceLT, hf.size, reduceIte, s3, s4, s6, s21, s22, s23, s24, s25, s26] at hKp
 clear hT hf s3 s4 s6 s21 s22 s23 s24 s25 s26 b27 b28 b29 b30 b31 b32 b33
 obtain ⟨s3, s4, s6, s21, s22, s23, s24, s25, s26, s27, s28, s29, s30, s31, s32, s33, s34⟩ := hKp
 have hf := hf1; clear hf1
 refine Fact.nx (hK9 _ _ ?_)
 refine Fact.cond_s s34 (fun hq2 => ?_) (fun hq2 => ?_)
 · (
 have hs2 := HS.out
 rw [hany] at hs2
 try simp only [Bool.not_true, Bool.not_false, Bool.false_or, Bool.true_or, if_true] at hs2
 have HS2 := Lib.hid hs2
 clear hs2
 refine Fact.region ?_
 have b35 := hf.l 35 rfl
 have b36 := hf.l 36 rfl
 refine Fact.p rfl fun K hK => ?_
 go_simp
 refine hK.out _ _ ?_; clear hK K
 refine Fact.p rfl fun K hK => ?_
 go_simp
 refine hK.out _ _ ?_; clear hK K
 refine Fact.p rfl fun K hK => ?_
 go_simp
 refine hK.out _ _ ?_; clear hK K
 refine Fact.p rfl fun K hK => ?_
 go_simp
 refine hK.out _ _ ?_; clear hK K
 refine Fact.nil ?_
 refine Fact.q hf (by simp only [Fact.G]) rfl fun fr1 hf1 hT => ?_
 have hKp : _ ∧ _ ∧ _ ∧ _ ∧ _ ∧ _ ∧ _ ∧ _ ∧ _ ∧ _ ∧ _ ∧ _ ∧ _ ∧ _ ∧ _ ∧ _ ∧ _ ∧ _ ∧ _ := ⟨hT 3, hT 4, hT 6, hT 21, hT 22, hT 23, hT 24, hT 25, hT 26, hT 27, hT 28, hT 29, hT 30, hT 31, hT 32, hT 33, hT 34, hT 35, hT 36⟩
 simp only [Fact.G, Nat.reduceEqDiff, Nat.reduceLT, hf.size, reduceIte, s6, s21, s22, s23, s24, s25, s26, s27, s28, s29, s30, s31, s32, s33, s34] at hKp
 clear hT hf s3 s4 s6 s21 s22 s23 s24 s25 s26 s27 s28 s29 s30 s31 s32 s33 s34 b35 b36
 obtain ⟨s3, s4, s6, s21, s22, s23, s24, s25, s26, s27, s28, s29, s30, s31, s32, s33, s34, s35, s36⟩ := hKp
 have hf := hf1; clear hf1
 refine Fact.block_normal ?_
 refine Fact.nx (hK7 _ _ ?_)
 refine Fact.region ?_
 have b37 := hf.l 37 rfl
 refine Fact.p rfl fun K hK => ?_
 go_simp
 try simp (disch := omega) only [Fact.wrap_i64, Fact.wrap_u8, Fact.wrap_u32, Fact.wrap_u64]
 refine hK.out _ _ ?_; clear hK K
 refine Fact.p rfl fun K hK => ?_
 go_simp
 refine hK.out _ _ ?_; clear hK K
 refine Fact.nil ?_
 refine Fact.q hf (by simp only [Fact.G]) rfl fun fr1 hf1 hT => ?_
 have hKp : _ ∧ _ ∧ _ ∧ _ ∧ _ ∧ _ ∧ _ ∧ _ ∧ _ ∧ _ ∧ _ ∧ _ ∧ _ ∧ _ ∧ _ ∧ _ ∧ _ ∧ _ ∧ _ ∧ _ := ⟨hT 3, hT 4, hT 6, hT 21, hT 22, hT 23, hT 24, hT 25, hT 26, hT 27, hT 28, hT 29, hT 30, hT 31, hT 32, hT 33, hT 34, hT 35, hT 36, hT 37⟩
 simp only [Fact.G, Nat.reduceEqDiff, Nat.reduceLT, hf.size, reduceIte, s3, s4, s6, s21, s22, s24, s25, s26, s27, s28, s29, s30, s31, s32, s33, s34, s35, s36] at hKp
 clear hT hf s3 s4 s6 s21 s22 s23 s24 s25 s26 s27 s28 s29 s30 s31 s32 s33 s34 s35 s36 b37
 obtain ⟨s3, s4, s6, s21, s22, s23, s24, s25, s26, s27, s28, s29, s30, s31, s32, s33, s34, s35, s36, s37⟩ := hKp
 have hf := hf1; clear hf1
 refine Fact.then_normal ?_
 exact ⟨_, by have := HK.out; omega, i + 1, rfl, by omega, hf, by rw [s3, HS2.out], by rw [s4]; simp, s21, s22, by rw [s23]; rfl, hb.trans (hb2.mono hb.size)⟩)
 · (
 have hs2 := HS.out
 rw [hany] at hs2
 try simp only [Bool.not_true, Bool.not_false, Bool.false_or, Bool.true_or, if_true] at hs2
 simp at hq2))
 · (
 try rw [hany] at s4
 refine wp_seq_k (fun K10 hK10 => ?_)
 refine Fact.region ?_
 have b27 := hf.l 27 rfl
 have b28 := hf.l 28 rfl
 have b29 := hf.l 29 rfl
 have b30 := hf.l 30 rfl
 have b31 := hf.l 31 rfl
 have b32 := hf.l 32 rfl
 have b33 := hf.l 33 rfl
 refine Fact.p rfl fun K hK => ?_
 go_simp
 refine hK.out _ _ ?_; clear hK K
 refine Fact.p rfl fun K hK => ?_
 go_simp
 refine hK.out _ _ ?_; clear hK K
 refine Fact.p rfl fun K hK => ?_
 go_simp
 refine hK.out _ _ ?_; clear hK K
 refine Fact.op_guard (g := 2) (d := 29) (b := false) rfl rfl rfl ?_ (fun K hK => ?_)
 · (
 simp only [Fact.G, Nat.reduceEqDiff, Nat.reduceLT, reduceIte, hf.size, hany, Bool.not_true, Bool.not_false])
 go_simp
 refine hK.out _ _ ?_; clear hK K
 refine Fact.op_guard (g := 2) (d := 29) (b := false) rfl rfl rfl ?_ (fun K hK => ?_)
 · (
 simp only [Fact.G, Nat.reduceEqDiff, Nat.reduceLT, reduceIte, hf.size, hany, Bool.not_true, Bool.not_false])
 go_simp
 refine hK.out _ _ ?_; clear hK K
 refine Fact.op_guard (g := 2) (d := 29) (b := false) rfl rfl rfl ?_ (fun K hK => ?_)
 · (
 simp only [Fact.G, Nat.reduceEqDiff, Nat.reduceLT, reduceIte, hf.size, hany, Bool.not_true, Bool.not_false])
 go_simp
 refine hK.out _ _ ?_; clear hK K
 refine Fact.op_guard (g := 2) (d := 29) (b := false) rfl rfl rfl ?_ (fun K hK => ?_)
 · (
 simp only [Fact.G, Nat.reduceEqDiff, Nat.reduceLT, reduceIte, hf.size, hany, Bool.not_true, Bool.not_false])
 go_simp
 refine hK.out _ _ ?_; clear hK K
 refine Fact.p rfl fun K hK => ?_
 go_simp
 refine hK.out _ _ ?_; clear hK K
 refine Fact.nil ?_
 refine Fact.q hf (by simp only [Fact.G]) rfl fun fr1 hf1 hT => ?_
 have hKp : _ ∧ _ ∧ _ ∧ _ ∧ _ ∧ _ ∧ _ ∧ _ ∧ _ ∧ _ ∧ _ ∧ _ ∧ _ ∧ _ ∧ _ ∧ _ ∧ _ := ⟨hT 3, hT 4, hT 6, hT 21, hT 22, hT 23, hT 24, hT 25, hT 26, hT 27, hT 28, hT 29, hT 30, hT 31, hT 32, hT 33, hT 34⟩
 simp only [Fact.G, Nat.reduceEqDiff, Nat.reduceLT, hf.size, reduceIte, s3, s4, s6, s21, s22, s23, s24, s25, s26] at hKp
 clear hT hf s3 s4 s6 s21 s22 s23 s24 s25 s26 b27 b28 b29 b30 b31 b32 b33
 obtain ⟨s3, s4, s6, s21, s22, s23, s24, s25, s26, s27, s28, s29, s30, s31, s32, s33, s34⟩ := hKp
 have hf := hf1; clear hf1
 refine Fact.nx (hK10 _ _ ?_)
 refine Fact.cond_s s34 (fun hq2 => ?_) (fun hq2 => ?_)
 · (
 have hs2 := HS.out
 rw [hany] at hs2
 try simp only [Bool.not_true, Bool.not_false, Bool.false_or, Bool.true_or, if_true] at hs2
 rw [hq2] at hs2
 try simp only [Bool.false_eq_true, if_false, if_true] at hs2
 have HS2 := Lib.hid hs2
 clear hs2
 refine Fact.region ?_
 have b35 := hf.l 35 rfl
 have b36 := hf.l 36 rfl
 refine Fact.p rfl fun K hK => ?_
 go_simp
 refine hK.out _ _ ?_; clear hK K
 refine Fact.p rfl fun K hK => ?_
 go_simp
 refine hK.out _ _ ?_; clear hK K
 refine Fact.p rfl fun K hK => ?_
 go_simp
 refine hK.out _ _ ?_; clear hK K
 refine Fact.p rfl fun K hK => ?_
 go_simp
 refine hK.out _ _ ?_; clear hK K
 refine Fact.nil ?_
 refine Fact.q hf (by simp only [Fact.G]) rfl fun fr1 hf1 hT => ?_
 have hKp : _ ∧ _ ∧ _ ∧ _ ∧ _ ∧ _ ∧ _ ∧ _ ∧ _ ∧ _ ∧ _ ∧ _ ∧ _ ∧ _ ∧ _ ∧ _ ∧ _ ∧ _ ∧ _ := ⟨hT 3, hT 4, hT 6, hT 21, hT 22, hT 23, hT 24, hT 25, hT 26, hT 27, hT 28, hT 29, hT 30, hT 31, hT 32, hT 33, hT 34, hT 35, hT 36⟩
 simp only [Fact.G, Nat.reduceEqDiff, Nat.reduceLT, hf.size, reduceIte, s6, s21, s22, s23, s24, s25, s26, s27, s28, s29, s30, s31, s32, s33, s34] at hKp
 clear hT hf s3 s4 s6 s21 s22 s23 s24 s25 s26 s27 s28 s29 s30 s31 s32 s33 s34 b35 b36
 obtain ⟨s3, s4, s6, s21, s22, s23, s24, s25, s26, s27, s28, s29, s30, s31, s32, s33, s34, s35, s36⟩ := hKp
 have hf := hf1; clear hf1
 refine Fact.block_normal ?_
 refine Fact.nx (hK7 _ _ ?_)
 refine Fact.region ?_
 have b37 := hf.l 37 rfl
 refine Fact.p rfl fun K hK => ?_
 go_simp
 try simp (disch := omega) only [Fact.wrap_i64, Fact.wrap_u8, Fact.wrap_u32, Fact.wrap_u64]
 refine hK.out _ _ ?_; clear hK K
 refine Fact.p rfl fun K hK => ?_
 go_simp
 refine hK.out _ _ ?_; clear hK K
 refine Fact.nil ?_
 refine Fact.q hf (by simp only [Fact.G]) rfl fun fr1 hf1 hT => ?_
 have hKp : _ ∧ _ ∧ _ ∧ _ ∧ _ ∧ _ ∧ _ ∧ _ ∧ _ ∧ _ ∧ _ ∧ _ ∧ _ ∧ _ ∧ _ ∧ _ ∧ _ ∧ _ ∧ _ ∧ _ := ⟨hT 3, hT 4, hT 6, hT 21, hT 22, hT 23, hT 24, hT 25, hT 26, hT 27, hT 28, hT 29, hT 30, hT 31, hT 32, hT 33, hT 34, hT 35, hT 36, hT 37⟩
 simp only [Fact.G, Nat.reduceEqDiff, Nat.reduceLT, hf.size, reduceIte, s3, s4, s6, s21, s22, s24, s25, s26, s27, s28, s29, s30, s31, s32, s33, s34, s35, s36] at hKp
 clear hT hf s3 s4 s6 s21 s22 s23 s24 s25 s26 s27 s28 s29 s30 s31 s32 s33 s34 s35 s36 b37
 obtain ⟨s3, s4, s6, s21, s22, s23, s24, s25, s26, s27, s28, s29, s30, s31, s32, s33, s34, s35, s36, s37⟩ := hKp
 have hf := hf1; clear hf1
 refine Fact.then_normal ?_
 exact ⟨_, by have := HK.out; omega, i + 1, rfl, by omega, hf, by rw [s3, HS2.out], by rw [s4]; simp, s21, s22, by rw [s23]; rfl, hb.trans (hb2.mono hb.size)⟩)
 · (
 have hs2 := HS.out
 rw [hany] at hs2
 try simp only [Bool.not_true, Bool.not_false, Bool.false_or, Bool.true_or, if_true] at hs2
 rw [hq2] at hs2
 try simp only [Bool.false_eq_true, if_false, if_true] at hs2
 have HS2 := Lib.hid hs2
 clear hs2
 refine wp_skip ?_
 refine Fact.block_normal ?_
 refine Fact.nx (hK7 _ _ ?_)
 refine Fact.region ?_
 have b37 := hf.l 37 rfl
 refine Fact.p rfl fun K hK => ?_
 go_simp
 try simp (disch := omega) only [Fact.wrap_i64, Fact.wrap_u8, Fact.wrap_u32, Fact.wrap_u64]
 refine hK.out _ _ ?_; clear hK K
 refine Fact.p rfl fun K hK => ?_
 go_simp
 refine hK.out _ _ ?_; clear hK K
 refine Fact.nil ?_
 refine Fact.q hf (by simp only [Fact.G]) rfl fun fr1 hf1 hT => ?_
 have hKp : _ ∧ _ ∧ _ ∧ _ ∧ _ ∧ _ ∧ _ ∧ _ ∧ _ ∧ _ ∧ _ ∧ _ ∧ _ ∧ _ ∧ _ ∧ _ ∧ _ ∧ _ := ⟨hT 3, hT 4, hT 6, hT 21, hT 22, hT 23, hT 24, hT 25, hT 26, hT 27, hT 28, hT 29, hT 30, hT 31, hT 32, hT 33, hT 34, hT 37⟩
 simp only [Fact.G, Nat.reduceEqDiff, Nat.reduceLT, hf.size, reduceIte, s3, s4, s6, s21, s22, s24, s25, s26, s27, s28, s29, s30, s31, s32, s33, s34] at hKp
 clear hT hf s3 s4 s6 s21 s22 s23 s24 s25 s26 s27 s28 s29 s30 s31 s32 s33 s34 b37
 obtain ⟨s3, s4, s6, s21, s22, s23, s24, s25, s26, s27, s28, s29, s30, s31, s32, s33, s34, s37⟩ := hKp
 have hf := hf1; clear hf1
 refine Fact.then_normal ?_
 exact ⟨_, by have := HK.out; omega, i + 1, rfl, by omega, hf, by rw [s3, HS2.out], by rw [s4]; simp, s21, s22, by rw [s23]; rfl, hb.trans (hb2.mono hb.size)⟩)))
 · (
 have hie : i = s.arcs.length := by have h9 := of_decide_eq_false hq; omega
 subst hie
 refine wp_exit ?_
 refine Fact.then_exit ?_
 refine Fact.then_exit ?_
 refine Fact.block_exit ?_
 refine Fact.nx (hK3 _ _ ?_)
 refine wp_seq_k (fun K11 hK11 => ?_)
 refine Fact.region ?_
 have b38 := hf.l 38 rfl
 refine Fact.p rfl fun K hK => ?_
 go_simp
 refine hK.out _ _ ?_; clear hK K
 refine Fact.p rfl fun K hK => ?_
 go_simp
 refine hK.out _ _ ?_; clear hK K
 refine Fact.nil ?_
 refine Fact.q hf (by simp only [Fact.G]) rfl fun fr1 hf1 hT => ?_
 have hKp := hT 2
 simp only [Fact.G, Nat.reduceEqDiff, Nat.reduceLT, hf.size, reduceIte] at hKp
 clear hT hf s3 s4 s21 s22 s23 s24 b38
 have s2 := hKp; clear hKp
 have hf := hf1; clear hf1
 refine Fact.nx (hK11 _ _ ?_)
 refine wp_ret ?_
 exact Fact.ret1 rfl hf s2 ⟨by rw [least_all], hx.trans (hb.mono hx.size)⟩))
end Dw
end Go.Proofs.YtgjfhedgdbbinaaDoor
