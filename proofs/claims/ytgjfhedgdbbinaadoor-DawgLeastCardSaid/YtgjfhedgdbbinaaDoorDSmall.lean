/- Dawg: the least of a state, what it is pushed by. -/
import Derived.Test.YtgjfhedgdbbinaaDoorDBase
import Derived.WalkSmall
import Derived.Test.YtgjfhedgdbbinaaDoorTools
namespace Go.Proofs.YtgjfhedgdbbinaaDoor
open Go.RowKit
set_option linter.unusedSimpArgs false
set_option linter.unusedVariables false
set_option linter.unnecessarySimpa false
namespace Dw

def takeS (s : State) (i : Nat) : State := ⟨s.final, s.out, s.arcs.take i⟩
theorem least_zero (s : State) : leastOf (takeS s 0) = s.out := by
  unfold leastOf takeS
  cases s.final <;> simp
theorem least_all (s : State) : leastOf (takeS s s.arcs.length) = leastOf s := by
  unfold takeS
  rw [List.take_length]
theorem least_step {s : State} {i : Nat} {a : Arc} (h : s.arcs[i]? = some a) : leastOf (takeS s (i + 1)) = if (!(s.final || decide (0 < i)) || decide (a.out < leastOf (takeS s i))) = true then a.out else leastOf (takeS s i) := by
  have hlt := (List.getElem?_eq_some_iff.1 h).1
  have ht : s.arcs.take (i + 1) = s.arcs.take i ++ [a] := by rw [List.take_add_one, h]; rfl
  have fold : ∀ (x : Nat) (l : List Nat), (l ++ [a.out]).foldl min x = if a.out < l.foldl min x then a.out else l.foldl min x := fun x l => by
    rw [List.foldl_append]
    simp only [List.foldl_cons, List.foldl_nil]
    by_cases hlt2 : a.out < l.foldl min x
    · rw [if_pos hlt2, Nat.min_eq_right (by omega)]
    · rw [if_neg hlt2, Nat.min_eq_left (by omega)]
  unfold leastOf takeS
  simp only [ht, List.map_append, List.map_cons, List.map_nil]
  cases hf : s.final with
  | true =>
    simp only [if_true, List.singleton_append, List.cons_append, Bool.true_or, Bool.not_true, Bool.false_or, decide_eq_true_eq]
    exact fold _ _
  | false =>
    simp only [Bool.false_eq_true, if_false, List.nil_append, Bool.false_or]
    cases i with
    | zero => simp
    | succ i =>
      obtain ⟨y, l, hl⟩ : ∃ y l, (s.arcs.take (i + 1)).map Arc.out = y :: l := by
        cases hl : (s.arcs.take (i + 1)).map Arc.out with
        | nil => have := congrArg List.length hl; simp only [List.length_map, List.length_take, List.length_nil] at this; omega
        | cons y l => exact ⟨y, l, rfl⟩
      rw [hl]
      simp only [List.cons_append, Nat.zero_lt_succ, decide_true, Bool.not_true, Bool.false_or, decide_eq_true_eq]
      exact fold _ _
set_option maxHeartbeats 4000000 in
set_option maxRecDepth 100000 in
theorem least34 (w : World) (g o : Nat) (s : State) (B : Nat → Prop) (av : Value) (hs : SAt w B g o av s) (hos : okS s) : Calls Tryd.prog 34 #[.pointer (some ⟨g, o, none⟩)] w fun e w1 => e = .returned (.int .u64 (leastOf s)) ∧ Below w.heap.size w w1 := by
 refine calls_of_wp Tryd.func34 rfl ?_
 refine Fact.en 39 fun fr hf hT => ?_
 have s0 := hT 0 _ rfl
 clear hT
 have c1 := hs.c1
 have c2 := hs.c2
 have c0 := hs.c0
 have ha := hs.arcs
 obtain ⟨A, cc, rfl, hcc⟩ := ha.form
 have hlen := hos.2.1
 have hoo := hos.2.2
 clear hs
 refine Fact.sq fun K1 hK1 => ?_
 refine rg ?_
 refine fp fun K Z => ?_
 go_simp
 apply Z.out; clear Z K
 refine Fact.z hf fun fr1 hf1 hT => ?_
 have hKp := hT 0
 simp (decide := true) only [Fact.G, reduceIte, s0] at hKp
 replace hf := hf1; clear hT hf1 s0
 have s0 := hKp; clear hKp
 refine nx (hK1 _ _ ?_)
 refine Fact.sq fun K2 hK2 => ?_
 refine Stab.tb 39 fun hok => ?_
 refine Stab.mO 0 s0 hf hok ?_
 apply Stab.tq 1 _ hf hok
 · (
 intro fr1 w1 hh hd hk K Z
 have s7 := Stab.v 0 0 hd hk []
 clear hd
 go_simp
 exact Stab.k Z)
 apply Stab.tq 2 _ hf hok
 · (
 intro fr1 w1 hh hd hk K Z
 have s8 := Stab.v 1 0 hd hk []
 clear hd
 go_simp
 exact Stab.k Z)
 apply Stab.tq 3 _ hf hok
 · (
 intro fr1 w1 hh hd hk K Z
 have s9 := Stab.v 2 0 hd hk []
 clear hd
 go_simp
 exact Stab.k Z)
 apply Stab.tq 4 _ hf hok
 · (
 intro fr1 w1 hh hd hk K Z
 have s10 := Stab.v 3 0 hd hk []
 clear hd
 replace c0 := cL hh.ext c0
 replace c1 := cL hh.ext c1
 replace c2 := cL hh.ext c2
 replace ha := ha.later hh.ext
 go_simp
 exact Stab.k Z)
 refine Stab.mO 5 s0 hf hok ?_
 apply Stab.tq 6 _ hf hok
 · (
 intro fr1 w1 hh hd hk K Z
 have s12 := Stab.v 5 0 hd hk []
 clear hd
 go_simp
 exact Stab.k Z)
 apply Stab.tq 7 _ hf hok
 · (
 intro fr1 w1 hh hd hk K Z
 have s13 := Stab.v 6 0 hd hk []
 clear hd
 go_simp
 exact Stab.k Z)
 apply Stab.tq 8 _ hf hok
 · (
 intro fr1 w1 hh hd hk K Z
 have s14 := Stab.v 7 0 hd hk []
 clear hd
 go_simp
 exact Stab.k Z)
 apply Stab.tq 9 _ hf hok
 · (
 intro fr1 w1 hh hd hk K Z
 have s15 := Stab.v 8 0 hd hk []
 clear hd
 replace c0 := cL hh.ext c0
 replace c1 := cL hh.ext c1
 replace c2 := cL hh.ext c2
 replace ha := ha.later hh.ext
 go_simp
 exact Stab.k Z)
 refine Stab.mN 10 4 5 hf hok [] ?_
 refine Stab.mN 11 9 1 hf hok [] ?_
 refine Stab.tf hf hok fun fr1 w1 hh hg => ?_
 replace s0 := Stab.O hh s0
 have s3 := Stab.f 10 1 hg
 have s4 := Stab.f 11 0 hg
 have hf1 := hh.fr hf
 have hx := hh.ext
 replace c0 := cL hx c0
 replace c1 := cL hx c1
 replace c2 := cL hx c2
 replace ha := ha.later hx
 clear hg hh hf hok
 have hf := hf1; clear hf1
 refine nx (hK2 _ _ ?_)
 refine Fact.sq fun K3 hK3 => ?_
 refine Fact.sq fun K4 hK4 => ?_
 refine rg ?_
 have b17 := hf.b 17
 have b18 := hf.b 18
 have b19 := hf.b 19
 have b20 := hf.b 20
 have b21 := hf.b 21
 refine fp fun K Z => ?_
 go_simp
 apply Z.out; clear Z K
 refine fp fun K Z => ?_
 go_simp
 apply Z.out; clear Z K
 refine fp fun K Z => ?_
 go_simp
 apply Z.out; clear Z K
 refine fp fun K Z => ?_
 go_simp
 apply Z.out; clear Z K
 refine fp fun K Z => ?_
 go_simp
 apply Z.out; clear Z K
 refine fp fun K Z => ?_
 go_simp
 apply Z.out; clear Z K
 refine fp fun K Z => ?_
 go_simp
 apply Z.out; clear Z K
 refine Fact.z hf fun fr1 hf1 hT => ?_
 have hKp : _ ∧ _ ∧ _ ∧ _ ∧ _ := ⟨hT 3, hT 4, hT 21, hT 22, hT 23⟩
 simp (decide := true) only [Fact.G, hf.size, reduceIte, s3, s4] at hKp
 replace hf := hf1; clear hT hf1 s0 s3 s4 b17 b18 b19 b20 b21
 obtain ⟨s3, s4, s21, s22, s23⟩ := hKp
 refine nx (hK4 _ _ ?_)
 refine wp_block ?_
 clear c1 c2
 refine wp_loop_ghost (fun gk fr wr => ∃ (i : Nat), gk = s.arcs.length - i ∧ i ≤ s.arcs.length ∧ Fact.Fr 39 fr ∧ fr.tmps[3]? = some (.int .u64 (leastOf (takeS s i))) ∧ fr.tmps[4]? = some (.bool (s.final || decide (0 < i))) ∧ fr.tmps[21]? = some (.slice A s.arcs.length cc) ∧ fr.tmps[22]? = some (.int .i64 s.arcs.length) ∧ fr.tmps[23]? = some (.int .i64 i) ∧ Below w1.heap.size w1 wr) (s.arcs.length) ?_ ?_
 · (
 exact ⟨0, rfl, Nat.zero_le _, hf, by rw [s3, least_zero], by rw [s4]; simp, s21, s22, s23, Below.refl _ _⟩)
 · (
 clear hf s3 s4 s21 s22 s23
 rintro gk fr wr ⟨i, hk, hi, hf, s3, s4, s21, s22, s23, hb⟩
 have HK := Lib.hid hk; clear hk
 refine Fact.sq fun K5 hK5 => ?_
 refine rg ?_
 refine fp fun K Z => ?_
 go_simp
 apply Z.out; clear Z K
 refine Fact.z hf fun fr1 hf1 hT => ?_
 have hKp : _ ∧ _ ∧ _ ∧ _ ∧ _ ∧ _ := ⟨hT 3, hT 4, hT 21, hT 22, hT 23, hT 24⟩
 simp (decide := true) only [Fact.G, hf.size, reduceIte, s3, s4, s21, s22, s23] at hKp
 replace hf := hf1; clear hT hf1 s3 s4 s21 s22 s23
 obtain ⟨s3, s4, s21, s22, s23, s24⟩ := hKp
 refine nx (hK5 _ _ ?_)
 refine Fact.sq fun K6 hK6 => ?_
 refine Fact.cond_s s24 (fun hq => ?_) (fun hq => ?_)
 · (
 have hlt : i < s.arcs.length := by have h9 := of_decide_eq_true hq; omega
 obtain ⟨a, hia⟩ : ∃ a, s.arcs[i]? = some a := ⟨_, List.getElem?_eq_getElem hlt⟩
 obtain ⟨b, off, rfl, hbl, d0, d1, d2⟩ := (ha.later hb).at' hia
 have hst := least_step hia
 have HS := Lib.hid hst
 have HA := Lib.hid hia
 clear hst hia
 refine wp_skip ?_
 refine nx (hK6 _ _ ?_)
 refine Fact.sq fun K7 hK7 => ?_
 refine wp_block ?_
 refine Fact.sq fun K8 hK8 => ?_
 refine rg ?_
 have b25 := hf.b 25
 have b26 := hf.b 26
 have b6 := hf.b 6
 refine fp fun K Z => ?_
 go_simp
 try rw [if_pos (by omega)]
 apply Z.out; clear Z K
 refine fp fun K Z => ?_
 go_simp
 apply Z.out; clear Z K
 refine fp fun K Z => ?_
 go_simp
 apply Z.out; clear Z K
 refine fp fun K Z => ?_
 go_simp
 apply Z.out; clear Z K
 refine Fact.z hf fun fr1 hf1 hT => ?_
 have hKp : _ ∧ _ ∧ _ ∧ _ ∧ _ ∧ _ := ⟨hT 3, hT 4, hT 6, hT 21, hT 22, hT 23⟩
 simp (decide := true) only [Fact.G, hf.size, reduceIte, s3, s4, s21, s22, s23] at hKp
 replace hf := hf1; clear hT hf1 s3 s4 s21 s22 s23 s24 b25 b26 b6
 obtain ⟨s3, s4, s6, s21, s22, s23⟩ := hKp
 clear d0 d1 d2 hbl
 obtain ⟨W0, hW0⟩ : ∃ W0, wr.alloc (.cells #[.int .u8 a.byte, .int .u64 a.out, .int .i64 a.to] 63) = W0 := ⟨_, rfl⟩
 try rw [hW0]
 obtain ⟨hb2, -, x1, -, -, -⟩ := box3 hW0
 clear hW0
 refine nx (hK8 _ _ ?_)
 rcases hany : (s.final || decide (0 < i)) with _ | _
 · (
 try rw [hany] at s4
 refine Fact.sq fun K9 hK9 => ?_
 refine rg ?_
 have b27 := hf.b 27
 have b28 := hf.b 28
 have b29 := hf.b 29
 have b30 := hf.b 30
 have b31 := hf.b 31
 have b32 := hf.b 32
 have b33 := hf.b 33
 refine fp fun K Z => ?_
 go_simp
 apply Z.out; clear Z K
 refine fp fun K Z => ?_
 go_simp
 apply Z.out; clear Z K
 refine fp fun K Z => ?_
 go_simp
 apply Z.out; clear Z K
 refine sk 2 29 false ?_ ?_
 · (
 simp (decide := true) only [Fact.G, reduceIte, hf.size, hany, Fact.N])
 refine sk 2 29 false ?_ ?_
 · (
 simp (decide := true) only [Fact.G, reduceIte, hf.size, hany, Fact.N])
 refine sk 2 29 false ?_ ?_
 · (
 simp (decide := true) only [Fact.G, reduceIte, hf.size, hany, Fact.N])
 refine sk 2 29 false ?_ ?_
 · (
 simp (decide := true) only [Fact.G, reduceIte, hf.size, hany, Fact.N])
 refine fp fun K Z => ?_
 go_simp
 apply Z.out; clear Z K
 refine Fact.z hf fun fr1 hf1 hT => ?_
 have hKp : _ ∧ _ ∧ _ ∧ _ ∧ _ ∧ _ ∧ _ := ⟨hT 3, hT 4, hT 6, hT 21, hT 22, hT 23, hT 34⟩
 simp (decide := true) only [Fact.G, hf.size, reduceIte, s3, s4, s6, s21, s22, s23] at hKp
 replace hf := hf1; clear hT hf1 s3 s4 s6 s21 s22 s23 b27 b28 b29 b30 b31 b32 b33
 obtain ⟨s3, s4, s6, s21, s22, s23, s34⟩ := hKp
 refine nx (hK9 _ _ ?_)
 refine Fact.cond_s s34 (fun hq2 => ?_) (fun hq2 => ?_)
 · (
 have hs2 := HS.out
 rw [hany] at hs2
 try simp only [Bool.not_true, Bool.not_false, Bool.false_or, Bool.true_or, if_true] at hs2
 have HS2 := Lib.hid hs2
 clear hs2
 refine rg ?_
 have b35 := hf.b 35
 have b36 := hf.b 36
 refine fp fun K Z => ?_
 go_simp
 apply Z.out; clear Z K
 refine fp fun K Z => ?_
 go_simp
 apply Z.out; clear Z K
 refine fp fun K Z => ?_
 go_simp
 apply Z.out; clear Z K
 refine fp fun K Z => ?_
 go_simp
 apply Z.out; clear Z K
 refine Fact.z hf fun fr1 hf1 hT => ?_
 have hKp : _ ∧ _ ∧ _ ∧ _ ∧ _ := ⟨hT 3, hT 4, hT 21, hT 22, hT 23⟩
 simp (decide := true) only [Fact.G, hf.size, reduceIte, s21, s22, s23] at hKp
 replace hf := hf1; clear hT hf1 s3 s4 s6 s21 s22 s23 s34 b35 b36
 obtain ⟨s3, s4, s21, s22, s23⟩ := hKp
 refine Fact.block_normal ?_
 refine nx (hK7 _ _ ?_)
 refine rg ?_
 have b37 := hf.b 37
 refine fp fun K Z => ?_
 go_simp
 try simp (disch := omega) only [Fact.W]
 apply Z.out; clear Z K
 refine fp fun K Z => ?_
 go_simp
 apply Z.out; clear Z K
 refine Fact.z hf fun fr1 hf1 hT => ?_
 have hKp : _ ∧ _ ∧ _ ∧ _ ∧ _ := ⟨hT 3, hT 4, hT 21, hT 22, hT 23⟩
 simp (decide := true) only [Fact.G, hf.size, reduceIte, s3, s4, s21, s22] at hKp
 replace hf := hf1; clear hT hf1 s3 s4 s21 s22 s23 b37
 obtain ⟨s3, s4, s21, s22, s23⟩ := hKp
 refine Fact.then_normal ?_
 exact ⟨_, by have := HK.out; omega, i + 1, rfl, by omega, hf, by rw [s3, HS2.out], by rw [s4]; simp, s21, s22, by rw [s23]; rfl, hb.trans (hb2.mono hb.size)⟩)
 · (
 have hs2 := HS.out
 rw [hany] at hs2
 try simp only [Bool.not_true, Bool.not_false, Bool.false_or, Bool.true_or, if_true] at hs2
 simp at hq2))
 · (
 try rw [hany] at s4
 refine Fact.sq fun K10 hK10 => ?_
 refine rg ?_
 have b27 := hf.b 27
 have b28 := hf.b 28
 have b29 := hf.b 29
 have b30 := hf.b 30
 have b31 := hf.b 31
 have b32 := hf.b 32
 have b33 := hf.b 33
 refine fp fun K Z => ?_
 go_simp
 apply Z.out; clear Z K
 refine fp fun K Z => ?_
 go_simp
 apply Z.out; clear Z K
 refine fp fun K Z => ?_
 go_simp
 apply Z.out; clear Z K
 refine og 2 29 false ?_ fun K Z => ?_
 · (
 simp (decide := true) only [Fact.G, reduceIte, hf.size, hany, Fact.N])
 go_simp
 apply Z.out; clear Z K
 refine og 2 29 false ?_ fun K Z => ?_
 · (
 simp (decide := true) only [Fact.G, reduceIte, hf.size, hany, Fact.N])
 go_simp
 apply Z.out; clear Z K
 refine og 2 29 false ?_ fun K Z => ?_
 · (
 simp (decide := true) only [Fact.G, reduceIte, hf.size, hany, Fact.N])
 go_simp
 apply Z.out; clear Z K
 refine og 2 29 false ?_ fun K Z => ?_
 · (
 simp (decide := true) only [Fact.G, reduceIte, hf.size, hany, Fact.N])
 go_simp
 apply Z.out; clear Z K
 refine fp fun K Z => ?_
 go_simp
 apply Z.out; clear Z K
 refine Fact.z hf fun fr1 hf1 hT => ?_
 have hKp : _ ∧ _ ∧ _ ∧ _ ∧ _ ∧ _ ∧ _ := ⟨hT 3, hT 4, hT 6, hT 21, hT 22, hT 23, hT 34⟩
 simp (decide := true) only [Fact.G, hf.size, reduceIte, s3, s4, s6, s21, s22, s23] at hKp
 replace hf := hf1; clear hT hf1 s3 s4 s6 s21 s22 s23 b27 b28 b29 b30 b31 b32 b33
 obtain ⟨s3, s4, s6, s21, s22, s23, s34⟩ := hKp
 refine nx (hK10 _ _ ?_)
 refine Fact.cond_s s34 (fun hq2 => ?_) (fun hq2 => ?_)
 · (
 have hs2 := HS.out
 rw [hany] at hs2
 try simp only [Bool.not_true, Bool.not_false, Bool.false_or, Bool.true_or, if_true] at hs2
 rw [hq2] at hs2
 try simp only [Bool.false_eq_true, if_false, if_true] at hs2
 have HS2 := Lib.hid hs2
 clear hs2
 refine rg ?_
 have b35 := hf.b 35
 have b36 := hf.b 36
 refine fp fun K Z => ?_
 go_simp
 apply Z.out; clear Z K
 refine fp fun K Z => ?_
 go_simp
 apply Z.out; clear Z K
 refine fp fun K Z => ?_
 go_simp
 apply Z.out; clear Z K
 refine fp fun K Z => ?_
 go_simp
 apply Z.out; clear Z K
 refine Fact.z hf fun fr1 hf1 hT => ?_
 have hKp : _ ∧ _ ∧ _ ∧ _ ∧ _ := ⟨hT 3, hT 4, hT 21, hT 22, hT 23⟩
 simp (decide := true) only [Fact.G, hf.size, reduceIte, s21, s22, s23] at hKp
 replace hf := hf1; clear hT hf1 s3 s4 s6 s21 s22 s23 s34 b35 b36
 obtain ⟨s3, s4, s21, s22, s23⟩ := hKp
 refine Fact.block_normal ?_
 refine nx (hK7 _ _ ?_)
 refine rg ?_
 have b37 := hf.b 37
 refine fp fun K Z => ?_
 go_simp
 try simp (disch := omega) only [Fact.W]
 apply Z.out; clear Z K
 refine fp fun K Z => ?_
 go_simp
 apply Z.out; clear Z K
 refine Fact.z hf fun fr1 hf1 hT => ?_
 have hKp : _ ∧ _ ∧ _ ∧ _ ∧ _ := ⟨hT 3, hT 4, hT 21, hT 22, hT 23⟩
 simp (decide := true) only [Fact.G, hf.size, reduceIte, s3, s4, s21, s22] at hKp
 replace hf := hf1; clear hT hf1 s3 s4 s21 s22 s23 b37
 obtain ⟨s3, s4, s21, s22, s23⟩ := hKp
 refine Fact.then_normal ?_
 exact ⟨_, by have := HK.out; omega, i + 1, rfl, by omega, hf, by rw [s3, HS2.out], by rw [s4]; simp, s21, s22, by rw [s23]; rfl, hb.trans (hb2.mono hb.size)⟩)
 · (
 have hs2 := HS.out
 rw [hany] at hs2
 try simp only [Bool.not_true, Bool.not_false, Bool.false_or, Bool.true_or, if_true] at hs2
 rw [hq2] at hs2
 try simp only [Bool.false_eq_true, if_false, if_true] at hs2
 have HS2 := Lib.hid hs2
 clear hs2
 refine wp_skip ?_
 refine Fact.block_normal ?_
 refine nx (hK7 _ _ ?_)
 refine rg ?_
 have b37 := hf.b 37
 refine fp fun K Z => ?_
 go_simp
 try simp (disch := omega) only [Fact.W]
 apply Z.out; clear Z K
 refine fp fun K Z => ?_
 go_simp
 apply Z.out; clear Z K
 refine Fact.z hf fun fr1 hf1 hT => ?_
 have hKp : _ ∧ _ ∧ _ ∧ _ ∧ _ := ⟨hT 3, hT 4, hT 21, hT 22, hT 23⟩
 simp (decide := true) only [Fact.G, hf.size, reduceIte, s3, s4, s21, s22] at hKp
 replace hf := hf1; clear hT hf1 s3 s4 s6 s21 s22 s23 s34 b37
 obtain ⟨s3, s4, s21, s22, s23⟩ := hKp
 refine Fact.then_normal ?_
 exact ⟨_, by have := HK.out; omega, i + 1, rfl, by omega, hf, by rw [s3, HS2.out], by rw [s4]; simp, s21, s22, by rw [s23]; rfl, hb.trans (hb2.mono hb.size)⟩)))
 · (
 have hie : i = s.arcs.length := by have h9 := of_decide_eq_false hq; omega
 subst hie
 refine wp_exit ?_
 refine Fact.then_exit ?_
 refine Fact.then_exit ?_
 refine Fact.block_exit ?_
 refine nx (hK3 _ _ ?_)
 refine Fact.sq fun K11 hK11 => ?_
 refine rg ?_
 have b38 := hf.b 38
 refine fp fun K Z => ?_
 go_simp
 apply Z.out; clear Z K
 refine fp fun K Z => ?_
 go_simp
 apply Z.out; clear Z K
 refine Fact.z hf fun fr1 hf1 hT => ?_
 have hKp := hT 2
 simp (decide := true) only [Fact.G, hf.size, reduceIte] at hKp
 replace hf := hf1; clear hT hf1 s3 s4 s21 s22 s23 s24 b38
 have s2 := hKp; clear hKp
 refine nx (hK11 _ _ ?_)
 refine wp_ret ?_
 exact Fact.ret1 rfl hf s2 ⟨by rw [least_all], hx.trans (hb.mono hx.size)⟩))
end Dw
end Go.Proofs.YtgjfhedgdbbinaaDoor
