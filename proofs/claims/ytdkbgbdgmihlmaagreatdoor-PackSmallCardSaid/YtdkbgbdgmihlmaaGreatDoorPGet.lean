/- vary: Get. -/
import Derived.Test.YtdkbgbdgmihlmaaGreatDoorPVary
import Derived.Laws.BitsAllLaws
import Derived.Test.YtdkbgbdgmihlmaaGreatDoorTools
namespace Go.Proofs.YtdkbgbdgmihlmaaGreatDoor
open Go.RowKit
set_option linter.unusedSimpArgs false
set_option linter.unusedVariables false
set_option linter.unnecessarySimpa false
namespace Dw

theorem getN_over {s : List Nat} {i : Nat} (h : s.length ≤ i) : getN s i = (0, i, 3) := by
  unfold getN
  rw [List.getElem?_eq_none h]
theorem getN_small {s : List Nat} {i c : Nat} (h : s[i]? = some c) (h8 : c < 248) : getN s i = (c, i + 1, 0) := by
  unfold getN
  rw [h]
  simp only
  rw [if_pos h8]
theorem getN_short {s : List Nat} {i c : Nat} (h : s[i]? = some c) (h8 : ¬ c < 248) (h7 : s.length - i ≤ c - 247) : getN s i = (0, i, 3) := by
  unfold getN
  rw [h]
  simp only
  rw [if_neg h8, if_pos h7]
theorem getN_form {s : List Nat} {i c : Nat} (h : s[i]? = some c) (h8 : ¬ c < 248) (h7 : ¬ s.length - i ≤ c - 247) (h6 : ¬ (numB (ofLe ((s.drop (i + 1)).take (c - 247)))).length = 1 + (c - 247)) : getN s i = (0, i, 5) := by
  unfold getN
  rw [h]
  simp only
  rw [if_neg h8, if_neg h7, if_neg h6]
theorem getN_big {s : List Nat} {i c : Nat} (h : s[i]? = some c) (h8 : ¬ c < 248) (h7 : ¬ s.length - i ≤ c - 247) (h6 : (numB (ofLe ((s.drop (i + 1)).take (c - 247)))).length = 1 + (c - 247)) : getN s i = (ofLe ((s.drop (i + 1)).take (c - 247)), i + 1 + (c - 247), 0) := by
  unfold getN
  rw [h]
  simp only
  rw [if_neg h8, if_neg h7, if_pos h6]
theorem ofLe_take (s : ByteArray) (i k : Nat) : ofLe (((wl s).drop i).take k) < 256 ^ k := by
  refine Nat.lt_of_lt_of_le (ofLe_lt _ (fun x hx => wl_lt s x (List.mem_of_mem_drop (List.mem_of_mem_take hx)))) (Nat.pow_le_pow_right (by omega) ?_)
  simp
  omega
theorem ofLe_64 (s : ByteArray) (i : Nat) {k : Nat} (h : k ≤ 8) : ofLe (((wl s).drop i).take k) < M64 :=
  Nat.lt_of_lt_of_le (ofLe_take s i k) (Nat.pow_le_pow_right (by omega) h)
theorem shl_cut {d k : Nat} (hd : d < 256) (hk : k ≤ 7) : IntKind.u64.wrap ((d : Int) * 2 ^ (8 * (k : Int)).toNat) = ((256 ^ k * d : Nat) : Int) := by
  have h1 : 256 ^ k ≤ 256 ^ 7 := Nat.pow_le_pow_right (by omega) hk
  have h2 : 256 ^ k * d ≤ 256 ^ 7 * 255 := Nat.mul_le_mul h1 (by omega)
  have e : (d : Int) * 2 ^ (8 * (k : Int)).toNat = ((256 ^ k * d : Nat) : Int) := by
    rw [show (8 * (k : Int)).toNat = 8 * k by omega, show (2 : Int) ^ (8 * k) = ((256 ^ k : Nat) : Int) by rw [pow256]; norm_cast, Nat.mul_comm]
    exact (Int.natCast_mul _ _).symm
  rw [e]
  exact Fact.wrap_u64 (by omega) (by omega)
theorem shl_lt {d k : Nat} (hd : d < 256) (hk : k ≤ 7) : 256 ^ k * d < 18446744073709551616 := by
  have h1 : 256 ^ k ≤ 256 ^ 7 := Nat.pow_le_pow_right (by omega) hk
  have h2 : 256 ^ k * d ≤ 256 ^ 7 * 255 := Nat.mul_le_mul h1 (by omega)
  omega
theorem or_add {n d k : Nat} (h : n < 256 ^ k) : n ||| (256 ^ k * d) = n + 256 ^ k * d := by
  rw [pow256] at h ⊢
  rw [Nat.or_comm, ← Nat.two_pow_add_eq_or_of_lt h, Nat.add_comm]
theorem ofLe_step {l : List Nat} {i k d : Nat} (h : l[i + 1 + k]? = some d) : ofLe ((l.drop (i + 1)).take k) + 256 ^ k * d = ofLe ((l.drop (i + 1)).take (k + 1)) := by
  have h1 : (l.drop (i + 1))[k]? = some d := by rw [List.getElem?_drop]; exact h
  have hl := (List.getElem?_eq_some_iff.1 h1).1
  rw [List.take_add_one, h1, Option.toList_some, ofLe_snoc, List.length_take, Nat.min_eq_left (by omega)]
set_option maxHeartbeats 4000000 in
set_option maxRecDepth 100000 in
theorem get72 (w : World) (s : ByteArray) (i : Nat) (hi : i ≤ s.size) (hsz : s.size ≤ 1000000000) : Calls Tryz.prog 71 #[.string s, .int .i64 i] w fun e w1 => e = .returned (.tuple #[.int .u64 (getN (wl s) i).1, .int .i64 (getN (wl s) i).2.1, .int .i64 (getN (wl s) i).2.2]) ∧ Below w.heap.size w w1 := by
 refine calls_of_wp Tryz.func71 rfl ?_
 refine Fact.en 67 fun fr hf hT => ?_
 have s0 := hT 0 _ rfl
 have s1 := hT 1 _ rfl
 clear hT
 have hat2 : ∀ (i : Nat) (h : i < s.size), s[i].toNat = at_ s i := fun i h => (at_get h).symm
 have q0 : decide ((i : Int) < 0) = false := decide_eq_false (by omega)
 refine Fact.sq fun K1 hK1 => ?_
 refine rg ?_
 iterate 3 (refine fp fun K Z => ?_; go_simp; apply Z.out; clear Z K)
 refine Fact.z hf fun fr1 hf1 hT => ?_
 have hKp : _ ∧ _ ∧ _ := ⟨hT 0, hT 1, hT 4⟩
 simp (decide := true) only [Fact.G, hf.size, reduceIte, s0, s1] at hKp
 replace hf := hf1; clear hT hf1 s0 s1
 obtain ⟨s0, s1, s4⟩ := hKp
 refine nx (hK1 _ _ ?_)
 rcases Nat.lt_or_ge i s.size with hlt | hge
 · (
 have q1 : decide (s.size ≤ i) = false := decide_eq_false (by omega)
 refine Fact.sq fun K2 hK2 => ?_
 refine Fact.sq fun K3 hK3 => ?_
 refine rg ?_
 have b10 := hf.b 10
 have b11 := hf.b 11
 have b12 := hf.b 12
 have b13 := hf.b 13
 have b14 := hf.b 14
 have b15 := hf.b 15
 have b16 := hf.b 16
 iterate 3 (refine fp fun K Z => ?_; go_simp; apply Z.out; clear Z K)
 refine og 2 12 false ?_ fun K Z => ?_
 · (
 simp (decide := true) only [Fact.G, reduceIte, hf.size, q0, q1, Fact.N])
 go_simp
 apply Z.out; clear Z K
 refine og 2 12 false ?_ fun K Z => ?_
 · (
 simp (decide := true) only [Fact.G, reduceIte, hf.size, q0, q1, Fact.N])
 go_simp
 apply Z.out; clear Z K
 refine og 2 12 false ?_ fun K Z => ?_
 · (
 simp (decide := true) only [Fact.G, reduceIte, hf.size, q0, q1, Fact.N])
 go_simp
 apply Z.out; clear Z K
 refine og 2 12 false ?_ fun K Z => ?_
 · (
 simp (decide := true) only [Fact.G, reduceIte, hf.size, q0, q1, Fact.N])
 go_simp
 apply Z.out; clear Z K
 refine fp fun K Z => ?_
 go_simp
 apply Z.out; clear Z K
 refine Fact.z hf fun fr1 hf1 hT => ?_
 have hKp : _ ∧ _ ∧ _ ∧ _ := ⟨hT 0, hT 1, hT 4, hT 17⟩
 simp (decide := true) only [Fact.G, hf.size, reduceIte, s0, s1, s4] at hKp
 replace hf := hf1; clear hT hf1 s0 s1 s4 b10 b11 b12 b13 b14 b15 b16
 obtain ⟨s0, s1, s4, s17⟩ := hKp
 refine nx (hK3 _ _ ?_)
 refine Fact.cond_f s17 ?_
 clear q0 q1
 obtain ⟨c, hc⟩ : ∃ c, at_ s i = c := ⟨_, rfl⟩
 have hc8 : c < 256 := by rw [← hc]; exact at_lt s i
 have hwc : (wl s)[i]? = some c := by rw [← hc]; exact wl_at hlt
 have HC := Lib.hid hc; have HW := Lib.hid hwc; clear hc hwc
 refine wp_skip ?_
 refine nx (hK2 _ _ ?_)
 refine Fact.sq fun K4 hK4 => ?_
 refine rg ?_
 have b19 := hf.b 19
 have b20 := hf.b 20
 have b21 := hf.b 21
 iterate 2 (refine fp fun K Z => ?_; go_simp; apply Z.out; clear Z K)
 refine fp fun K Z => ?_
 go_simp
 try rw [dif_pos (by omega)]
 skip
 apply Z.out; clear Z K
 refine fp fun K Z => ?_
 go_simp
 apply Z.out; clear Z K
 refine Fact.z hf fun fr1 hf1 hT => ?_
 have hKp : _ ∧ _ ∧ _ ∧ _ := ⟨hT 0, hT 1, hT 4, hT 7⟩
 simp (decide := true) only [Fact.G, hf.size, reduceIte, s0, s1, s4] at hKp
 replace hf := hf1; clear hT hf1 s0 s1 s4 s17 b19 b20 b21
 obtain ⟨s0, s1, s4, s7⟩ := hKp
 refine nx (hK4 _ _ ?_)
 try rw [HC.out] at s7
 refine Fact.sq fun K5 hK5 => ?_
 refine Fact.sq fun K6 hK6 => ?_
 refine rg ?_
 have b22 := hf.b 22
 iterate 2 (refine fp fun K Z => ?_; go_simp; apply Z.out; clear Z K)
 refine Fact.z hf fun fr1 hf1 hT => ?_
 have hKp : _ ∧ _ ∧ _ ∧ _ ∧ _ := ⟨hT 0, hT 1, hT 4, hT 7, hT 23⟩
 simp (decide := true) only [Fact.G, hf.size, reduceIte, s0, s1, s4, s7] at hKp
 replace hf := hf1; clear hT hf1 s0 s1 s4 s7 b22
 obtain ⟨s0, s1, s4, s7, s23⟩ := hKp
 refine nx (hK6 _ _ ?_)
 refine Fact.cond_s s23 (fun hq => ?_) (fun hq => ?_)
 · (
 have h8 : c < 248 := by have h9 := of_decide_eq_true hq; omega
 clear hq
 refine Fact.sq fun K7 hK7 => ?_
 refine rg ?_
 have b24 := hf.b 24
 have b25 := hf.b 25
 have b26 := hf.b 26
 have b27 := hf.b 27
 iterate 3 (refine fp fun K Z => ?_; go_simp; apply Z.out; clear Z K)
 refine fp fun K Z => ?_
 go_simp
 try simp (disch := omega) only [Fact.W]
 apply Z.out; clear Z K
 iterate 3 (refine fp fun K Z => ?_; go_simp; apply Z.out; clear Z K)
 refine Fact.z hf fun fr1 hf1 hT => ?_
 have hKp : _ ∧ _ ∧ _ := ⟨hT 4, hT 5, hT 6⟩
 simp (decide := true) only [Fact.G, hf.size, reduceIte] at hKp
 replace hf := hf1; clear hT hf1 s0 s1 s4 s7 s23 b24 b25 b26 b27
 obtain ⟨s4, s5, s6⟩ := hKp
 refine nx (hK7 _ _ ?_)
 refine wp_ret ?_
 refine Fact.then_ret ?_
 refine Fact.ret3 rfl hf s4 s5 s6 ⟨?_, Below.refl _ _⟩
 rw [getN_small HW.out h8]
 rfl)
 · (
 have h8 : ¬ c < 248 := by have h9 := of_decide_eq_false hq; omega
 clear hq
 obtain ⟨m, hm⟩ : ∃ m, c - 247 = m := ⟨_, rfl⟩
 have hm8 : 1 ≤ m ∧ m ≤ 8 := by omega
 have HM := Lib.hid hm; clear hm
 refine wp_skip ?_
 refine nx (hK5 _ _ ?_)
 refine Fact.sq fun K8 hK8 => ?_
 refine rg ?_
 have b28 := hf.b 28
 have b29 := hf.b 29
 have b30 := hf.b 30
 have b31 := hf.b 31
 iterate 2 (refine fp fun K Z => ?_; go_simp; apply Z.out; clear Z K)
 refine fp fun K Z => ?_
 go_simp
 try simp (disch := omega) only [Fact.W]
 try simp (disch := omega) only [Fact.W]
 apply Z.out; clear Z K
 refine fp fun K Z => ?_
 go_simp
 try simp (disch := omega) only [Fact.W]
 try simp (disch := omega) only [Fact.W]
 rw [show (c : Int) - 248 + 1 = ((c - 247 : Nat) : Int) by omega]
 rw [HM.out]
 apply Z.out; clear Z K
 refine fp fun K Z => ?_
 go_simp
 apply Z.out; clear Z K
 refine Fact.z hf fun fr1 hf1 hT => ?_
 have hKp : _ ∧ _ ∧ _ ∧ _ := ⟨hT 0, hT 1, hT 4, hT 8⟩
 simp (decide := true) only [Fact.G, hf.size, reduceIte, s0, s1, s4] at hKp
 replace hf := hf1; clear hT hf1 s0 s1 s4 s7 s23 b28 b29 b30 b31
 obtain ⟨s0, s1, s4, s8⟩ := hKp
 refine nx (hK8 _ _ ?_)
 refine Fact.sq fun K9 hK9 => ?_
 refine Fact.sq fun K10 hK10 => ?_
 refine rg ?_
 have b32 := hf.b 32
 have b33 := hf.b 33
 have b34 := hf.b 34
 have b35 := hf.b 35
 have b36 := hf.b 36
 iterate 3 (refine fp fun K Z => ?_; go_simp; apply Z.out; clear Z K)
 refine fp fun K Z => ?_
 go_simp
 try simp (disch := omega) only [Fact.W]
 apply Z.out; clear Z K
 iterate 2 (refine fp fun K Z => ?_; go_simp; apply Z.out; clear Z K)
 refine Fact.z hf fun fr1 hf1 hT => ?_
 have hKp : _ ∧ _ ∧ _ ∧ _ ∧ _ := ⟨hT 0, hT 1, hT 4, hT 8, hT 37⟩
 simp (decide := true) only [Fact.G, hf.size, reduceIte, s0, s1, s4, s8] at hKp
 replace hf := hf1; clear hT hf1 s0 s1 s4 s8 b32 b33 b34 b35 b36
 obtain ⟨s0, s1, s4, s8, s37⟩ := hKp
 refine nx (hK10 _ _ ?_)
 refine Fact.cond_s s37 (fun hq => ?_) (fun hq => ?_)
 · (
 have h7 : s.size - i ≤ m := by have h9 := of_decide_eq_true hq; omega
 clear hq
 refine Fact.sq fun K11 hK11 => ?_
 refine rg ?_
 have b38 := hf.b 38
 iterate 4 (refine fp fun K Z => ?_; go_simp; apply Z.out; clear Z K)
 refine Fact.z hf fun fr1 hf1 hT => ?_
 have hKp : _ ∧ _ ∧ _ := ⟨hT 4, hT 5, hT 6⟩
 simp (decide := true) only [Fact.G, hf.size, reduceIte] at hKp
 replace hf := hf1; clear hT hf1 s0 s1 s4 s8 s37 b38
 obtain ⟨s4, s5, s6⟩ := hKp
 refine nx (hK11 _ _ ?_)
 refine wp_ret ?_
 refine Fact.then_ret ?_
 refine Fact.ret3 rfl hf s4 s5 s6 ⟨?_, Below.refl _ _⟩
 rw [getN_short HW.out h8 (by rw [wl_length, HM.out]; exact h7)]
 rfl)
 · (
 have h7 : ¬ s.size - i ≤ m := by have h9 := of_decide_eq_false hq; omega
 clear hq
 refine wp_skip ?_
 refine nx (hK9 _ _ ?_)
 refine Fact.sq fun K12 hK12 => ?_
 refine Fact.sq fun K13 hK13 => ?_
 refine rg ?_
 iterate 2 (refine fp fun K Z => ?_; go_simp; apply Z.out; clear Z K)
 refine Fact.z hf fun fr1 hf1 hT => ?_
 have hKp : _ ∧ _ ∧ _ ∧ _ ∧ _ ∧ _ := ⟨hT 0, hT 1, hT 4, hT 8, hT 39, hT 40⟩
 simp (decide := true) only [Fact.G, hf.size, reduceIte, s0, s1, s4, s8] at hKp
 replace hf := hf1; clear hT hf1 s0 s1 s4 s8 s37
 obtain ⟨s0, s1, s4, s8, s39, s40⟩ := hKp
 refine nx (hK13 _ _ ?_)
 refine wp_block ?_
 refine wp_loop_ghost (fun gk fr wr => ∃ (k n : Nat), gk = m - k ∧ k ≤ m ∧ Fact.Fr 67 fr ∧ fr.tmps[0]? = some (.string s) ∧ fr.tmps[1]? = some (.int .i64 i) ∧ fr.tmps[8]? = some (.int .i64 m) ∧ fr.tmps[39]? = some (.int .i64 m) ∧ fr.tmps[40]? = some (.int .i64 k) ∧ fr.tmps[4]? = some (.int .u64 n) ∧ n = ofLe (((wl s).drop (i + 1)).take k) ∧ wr = w) (m) ?_ ?_
 · (
 exact ⟨0, 0, rfl, Nat.zero_le _, hf, s0, s1, s8, s39, s40, s4, rfl, rfl⟩)
 · (
 clear hf s0 s1 s4 s8 s39 s40
 rintro gk fr wr ⟨k, n, hk, hkm, hf, s0, s1, s8, s39, s40, s4, hn, hwr⟩
 subst wr
 have HK := Lib.hid hk; have HN := Lib.hid hn; clear hk hn
 refine Fact.sq fun K14 hK14 => ?_
 refine rg ?_
 refine fp fun K Z => ?_
 go_simp
 apply Z.out; clear Z K
 refine Fact.z hf fun fr1 hf1 hT => ?_
 have hKp : _ ∧ _ ∧ _ ∧ _ ∧ _ ∧ _ ∧ _ := ⟨hT 0, hT 1, hT 4, hT 8, hT 39, hT 40, hT 41⟩
 simp (decide := true) only [Fact.G, hf.size, reduceIte, s0, s1, s4, s8, s39, s40] at hKp
 replace hf := hf1; clear hT hf1 s0 s1 s4 s8 s39 s40
 obtain ⟨s0, s1, s4, s8, s39, s40, s41⟩ := hKp
 refine nx (hK14 _ _ ?_)
 refine Fact.sq fun K15 hK15 => ?_
 refine Fact.cond_s s41 (fun hq => ?_) (fun hq => ?_)
 · (
 have hltk : k < m := by have h9 := of_decide_eq_true hq; omega
 clear hq
 obtain ⟨d, hd⟩ : ∃ d, at_ s (i + 1 + k) = d := ⟨_, rfl⟩
 have hd8 : d < 256 := by rw [← hd]; exact at_lt s _
 have hwd : (wl s)[i + 1 + k]? = some d := by rw [← hd]; exact wl_at (by omega)
 have HD := Lib.hid hd; clear hd
 have hn256 : n < 256 ^ k := by rw [HN.out]; exact ofLe_take s _ _
 have hst := ofLe_step hwd
 rw [← HN.out] at hst
 obtain ⟨n2, hn2⟩ : ∃ n2, n + 256 ^ k * d = n2 := ⟨_, rfl⟩
 rw [hn2] at hst
 obtain ⟨p, hp⟩ : ∃ p, 256 ^ k * d = p := ⟨_, rfl⟩
 rw [hp] at hn2
 have hor := or_add (d := d) hn256
 rw [hp] at hor
 have hn64 : n < 18446744073709551616 := by rw [HN.out]; exact ofLe_64 s _ (show k ≤ 8 by omega)
 have hp64 : p < 18446744073709551616 := by rw [← hp]; exact shl_lt hd8 (show k ≤ 7 by omega)
 have HP := Lib.hid hp; have HOR := Lib.hid hor; have HN2 := Lib.hid hn2; have HST := Lib.hid hst; clear hn2 hst hwd hp hor
 refine wp_skip ?_
 refine nx (hK15 _ _ ?_)
 refine Fact.sq fun K16 hK16 => ?_
 refine wp_block ?_
 refine Fact.sq fun K17 hK17 => ?_
 refine rg ?_
 have b42 := hf.b 42
 iterate 2 (refine fp fun K Z => ?_; go_simp; apply Z.out; clear Z K)
 refine Fact.z hf fun fr1 hf1 hT => ?_
 have hKp : _ ∧ _ ∧ _ ∧ _ ∧ _ ∧ _ ∧ _ := ⟨hT 0, hT 1, hT 4, hT 8, hT 9, hT 39, hT 40⟩
 simp (decide := true) only [Fact.G, hf.size, reduceIte, s0, s1, s4, s8, s39, s40] at hKp
 replace hf := hf1; clear hT hf1 s0 s1 s4 s8 s39 s40 s41 b42
 obtain ⟨s0, s1, s4, s8, s9, s39, s40⟩ := hKp
 refine nx (hK17 _ _ ?_)
 refine rg ?_
 have b43 := hf.b 43
 have b44 := hf.b 44
 have b45 := hf.b 45
 have b46 := hf.b 46
 have b47 := hf.b 47
 have b48 := hf.b 48
 have b49 := hf.b 49
 have b50 := hf.b 50
 have b51 := hf.b 51
 have b52 := hf.b 52
 have b53 := hf.b 53
 have b54 := hf.b 54
 iterate 3 (refine fp fun K Z => ?_; go_simp; apply Z.out; clear Z K)
 refine fp fun K Z => ?_
 go_simp
 try simp (disch := omega) only [Fact.W]
 apply Z.out; clear Z K
 refine fp fun K Z => ?_
 go_simp
 apply Z.out; clear Z K
 refine fp fun K Z => ?_
 go_simp
 try simp (disch := omega) only [Fact.W]
 apply Z.out; clear Z K
 refine fp fun K Z => ?_
 go_simp
 rw [if_pos (by omega), Oper.upon_value, show ((i : Int) + 1 + (k : Int)).toNat = i + 1 + k by omega, HD.out]
 apply Z.out; clear Z K
 iterate 2 (refine fp fun K Z => ?_; go_simp; apply Z.out; clear Z K)
 refine fp fun K Z => ?_
 go_simp
 try simp (disch := omega) only [Fact.W]
 apply Z.out; clear Z K
 refine fp fun K Z => ?_
 go_simp
 rw [shl_cut hd8 (show k ≤ 7 by omega), HP.out]
 apply Z.out; clear Z K
 refine fp fun K Z => ?_
 go_simp
 rw [u64_or_nat n p hn64 hp64, HOR.out, HN2.out]
 apply Z.out; clear Z K
 refine fp fun K Z => ?_
 go_simp
 apply Z.out; clear Z K
 refine Fact.z hf fun fr1 hf1 hT => ?_
 have hKp : _ ∧ _ ∧ _ ∧ _ ∧ _ ∧ _ := ⟨hT 0, hT 1, hT 4, hT 8, hT 39, hT 40⟩
 simp (decide := true) only [Fact.G, hf.size, reduceIte, s0, s1, s8, s39, s40] at hKp
 replace hf := hf1; clear hT hf1 s0 s1 s4 s8 s9 s39 s40 b43 b44 b45 b46 b47 b48 b49 b50 b51 b52 b53 b54
 obtain ⟨s0, s1, s4, s8, s39, s40⟩ := hKp
 refine Fact.block_normal ?_
 refine nx (hK16 _ _ ?_)
 refine rg ?_
 have b55 := hf.b 55
 refine fp fun K Z => ?_
 go_simp
 try simp (disch := omega) only [Fact.W]
 apply Z.out; clear Z K
 refine fp fun K Z => ?_
 go_simp
 apply Z.out; clear Z K
 refine Fact.z hf fun fr1 hf1 hT => ?_
 have hKp : _ ∧ _ ∧ _ ∧ _ ∧ _ ∧ _ := ⟨hT 0, hT 1, hT 4, hT 8, hT 39, hT 40⟩
 simp (decide := true) only [Fact.G, hf.size, reduceIte, s0, s1, s4, s8, s39] at hKp
 replace hf := hf1; clear hT hf1 s0 s1 s4 s8 s39 s40 b55
 obtain ⟨s0, s1, s4, s8, s39, s40⟩ := hKp
 refine Fact.then_normal ?_
 exact ⟨_, by have := HK.out; omega, k + 1, n2, rfl, by omega, hf, s0, s1, s8, s39, by rw [s40]; rfl, s4, HST.out, rfl⟩)
 · (
 have hke : k = m := by have h9 := of_decide_eq_false hq; omega
 subst hke
 clear hq
 have hn64 : n < M64 := by rw [HN.out]; exact ofLe_64 s _ hm8.2
 refine wp_exit ?_
 refine Fact.then_exit ?_
 refine Fact.then_exit ?_
 refine Fact.block_exit ?_
 refine nx (hK12 _ _ ?_)
 refine Fact.sq fun K18 hK18 => ?_
 refine Fact.sq fun K19 hK19 => ?_
 refine rg ?_
 have b56 := hf.b 56
 have b57 := hf.b 57
 have b58 := hf.b 58
 have b59 := hf.b 59
 refine fp fun K Z => ?_
 go_simp
 apply Z.out; clear Z K
 refine fp fun K Z => ?_
 go_simp
 go_at_call 82; refine (size85 w n hn64).mono ?_; rintro e w1 ⟨rfl, hbz⟩
 try dsimp only
 apply Z.out; clear Z K
 refine fp fun K Z => ?_
 go_simp
 apply Z.out; clear Z K
 refine fp fun K Z => ?_
 go_simp
 try simp (disch := omega) only [Fact.W]
 rw [show (1 : Int) + (k : Int) = ((1 + k : Nat) : Int) by omega]
 apply Z.out; clear Z K
 refine fp fun K Z => ?_
 go_simp
 apply Z.out; clear Z K
 refine Fact.z hf fun fr1 hf1 hT => ?_
 have hKp : _ ∧ _ ∧ _ ∧ _ := ⟨hT 1, hT 4, hT 8, hT 60⟩
 simp (decide := true) only [Fact.G, hf.size, reduceIte, s1, s4, s8] at hKp
 replace hf := hf1; clear hT hf1 s0 s1 s4 s8 s39 s40 s41 b56 b57 b58 b59
 obtain ⟨s1, s4, s8, s60⟩ := hKp
 refine nx (hK19 _ _ ?_)
 refine Fact.cond_s s60 (fun hq => ?_) (fun hq => ?_)
 · (
 have h6 : ¬ (numB n).length = 1 + k := by have h9 := hq; simp at h9; omega
 clear hq
 refine Fact.sq fun K20 hK20 => ?_
 refine rg ?_
 have b61 := hf.b 61
 iterate 4 (refine fp fun K Z => ?_; go_simp; apply Z.out; clear Z K)
 refine Fact.z hf fun fr1 hf1 hT => ?_
 have hKp : _ ∧ _ ∧ _ := ⟨hT 4, hT 5, hT 6⟩
 simp (decide := true) only [Fact.G, hf.size, reduceIte] at hKp
 replace hf := hf1; clear hT hf1 s1 s4 s8 s60 b61
 obtain ⟨s4, s5, s6⟩ := hKp
 refine nx (hK20 _ _ ?_)
 refine wp_ret ?_
 refine Fact.then_ret ?_
 refine Fact.ret3 rfl hf s4 s5 s6 ⟨?_, hbz⟩
 rw [getN_form HW.out h8 (by rw [wl_length, HM.out]; exact h7) (by rw [HM.out, ← HN.out]; exact h6)]
 rfl)
 · (
 have h6 :  (numB n).length = 1 + k := by have h9 := hq; simp at h9; omega
 clear hq
 refine wp_skip ?_
 refine nx (hK18 _ _ ?_)
 refine Fact.sq fun K21 hK21 => ?_
 refine rg ?_
 have b62 := hf.b 62
 have b63 := hf.b 63
 have b64 := hf.b 64
 have b65 := hf.b 65
 have b66 := hf.b 66
 iterate 2 (refine fp fun K Z => ?_; go_simp; apply Z.out; clear Z K)
 refine fp fun K Z => ?_
 go_simp
 try simp (disch := omega) only [Fact.W]
 apply Z.out; clear Z K
 refine fp fun K Z => ?_
 go_simp
 apply Z.out; clear Z K
 refine fp fun K Z => ?_
 go_simp
 try simp (disch := omega) only [Fact.W]
 apply Z.out; clear Z K
 iterate 3 (refine fp fun K Z => ?_; go_simp; apply Z.out; clear Z K)
 refine Fact.z hf fun fr1 hf1 hT => ?_
 have hKp : _ ∧ _ ∧ _ := ⟨hT 4, hT 5, hT 6⟩
 simp (decide := true) only [Fact.G, hf.size, reduceIte] at hKp
 replace hf := hf1; clear hT hf1 s1 s4 s8 s60 b62 b63 b64 b65 b66
 obtain ⟨s4, s5, s6⟩ := hKp
 refine nx (hK21 _ _ ?_)
 refine wp_ret ?_
 refine Fact.ret3 rfl hf s4 s5 s6 ⟨?_, hbz⟩
 rw [getN_big HW.out h8 (by rw [wl_length, HM.out]; exact h7) (by rw [HM.out, ← HN.out]; exact h6), HM.out, ← HN.out]
 rfl))))))
 · (
 have q1 : decide (s.size ≤ i) = true := decide_eq_true hge
 refine Fact.sq fun K22 hK22 => ?_
 refine Fact.sq fun K23 hK23 => ?_
 refine rg ?_
 have b10 := hf.b 10
 have b11 := hf.b 11
 have b12 := hf.b 12
 have b13 := hf.b 13
 have b14 := hf.b 14
 have b15 := hf.b 15
 have b16 := hf.b 16
 iterate 3 (refine fp fun K Z => ?_; go_simp; apply Z.out; clear Z K)
 refine og 2 12 false ?_ fun K Z => ?_
 · (
 simp (decide := true) only [Fact.G, reduceIte, hf.size, q0, q1, Fact.N])
 go_simp
 apply Z.out; clear Z K
 refine og 2 12 false ?_ fun K Z => ?_
 · (
 simp (decide := true) only [Fact.G, reduceIte, hf.size, q0, q1, Fact.N])
 go_simp
 apply Z.out; clear Z K
 refine og 2 12 false ?_ fun K Z => ?_
 · (
 simp (decide := true) only [Fact.G, reduceIte, hf.size, q0, q1, Fact.N])
 go_simp
 apply Z.out; clear Z K
 refine og 2 12 false ?_ fun K Z => ?_
 · (
 simp (decide := true) only [Fact.G, reduceIte, hf.size, q0, q1, Fact.N])
 go_simp
 apply Z.out; clear Z K
 refine fp fun K Z => ?_
 go_simp
 apply Z.out; clear Z K
 refine Fact.z hf fun fr1 hf1 hT => ?_
 have hKp : _ ∧ _ ∧ _ ∧ _ := ⟨hT 0, hT 1, hT 4, hT 17⟩
 simp (decide := true) only [Fact.G, hf.size, reduceIte, s0, s1, s4] at hKp
 replace hf := hf1; clear hT hf1 s0 s1 s4 b10 b11 b12 b13 b14 b15 b16
 obtain ⟨s0, s1, s4, s17⟩ := hKp
 refine nx (hK23 _ _ ?_)
 refine Fact.cond_t s17 ?_
 refine Fact.sq fun K24 hK24 => ?_
 refine rg ?_
 have b18 := hf.b 18
 iterate 4 (refine fp fun K Z => ?_; go_simp; apply Z.out; clear Z K)
 refine Fact.z hf fun fr1 hf1 hT => ?_
 have hKp : _ ∧ _ ∧ _ := ⟨hT 4, hT 5, hT 6⟩
 simp (decide := true) only [Fact.G, hf.size, reduceIte] at hKp
 replace hf := hf1; clear hT hf1 s0 s1 s4 s17 b18
 obtain ⟨s4, s5, s6⟩ := hKp
 refine nx (hK24 _ _ ?_)
 refine wp_ret ?_
 refine Fact.then_ret ?_
 refine Fact.ret3 rfl hf s4 s5 s6 ⟨?_, Below.refl _ _⟩
 rw [getN_over (by rw [wl_length]; exact hge)]
 rfl)
end Dw
end Go.Proofs.YtdkbgbdgmihlmaaGreatDoor
