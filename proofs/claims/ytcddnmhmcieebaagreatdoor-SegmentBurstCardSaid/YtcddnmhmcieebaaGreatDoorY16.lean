/- pack: bad. -/
import Derived.Test.YtcddnmhmcieebaaGreatDoorY15
import Derived.WalkSmall
import Derived.Test.YtcddnmhmcieebaaGreatDoorTools
import Derived.Test.YtcddnmhmcieebaaGreatDoorY14
import Derived.Laws.BitsAllLaws
namespace Go.Proofs.YtcddnmhmcieebaaGreatDoor
open Go.RowKit
set_option linter.unusedSimpArgs false
set_option linter.unusedVariables false
set_option linter.unnecessarySimpa false
namespace Dw

/-- a panic with a fault at a fresh place -/
def Pan (w w1 : World) (e : Ending) (code at_ : Int) : Prop := ∃ q, e = .panicked [{ v := .iface 77 (.pointer (some ⟨q, 0, none⟩)), recovered := false }] ∧ w.heap.size ≤ q ∧ w1.heap[q]? = some (.cells #[.int .i64 code, .int .i64 at_] 134 (0, 0)) ∧ Below w.heap.size w w1
theorem pan9 {P : Program} {fn : Func} {R : Ending → World → Prop} {c : List PanicEntry} {a : Act} {w : World} (hd : a.defers = []) (hR : R (.panicked c) w) : bodyPost P fn R (.panic c) a w := ⟨hd, hR⟩
set_option maxHeartbeats 4000000 in
set_option maxRecDepth 100000 in
theorem bad33 (w : World) (code at_ : Int) : Calls Tryz.prog 32 #[.int .i64 code, .int .i64 at_] w fun e w1 => Pan w w1 e code at_ := by
 refine Zn2 9 Tryz.func32 fun fr hf s0 s1 => ?_
 refine rg ?_
 have bB := hf.B5 4 5 6 7 8
 iterate 5 refine Za ?_
 refine fp fun K Z => ?_
 go_simp
 refine pan9 hf.defers ?_
 exact ⟨w.heap.size, rfl, Nat.le_refl _, heap_alloc_new w _, (Below.refl _ _).alloc (Nat.le_refl _) _⟩
end Dw
end Go.Proofs.YtcddnmhmcieebaaGreatDoor

namespace Go.Proofs.YtcddnmhmcieebaaGreatDoor
open Go.RowKit
set_option linter.unusedSimpArgs false
set_option linter.unusedVariables false
set_option linter.unnecessarySimpa false
namespace Dw

theorem getN_over {s : List Nat} {i : Nat} (h : s.length ≤ i) : getN s i = (0, i, 3) := by
  unfold getN
  rw [List.getElem?_eq_none h]
theorem getN_small {s : List Nat} {i c : Nat} (h : s[i]? = some c) (h8 : c < 248) : getN s i = (c, i + 1, 0) := by
  unfold getN
  rw [h]
  simp only
  rw [if_pos h8]
theorem getN_short {s : List Nat} {i c : Nat} (h : s[i]? = some c) (h8 : ¬ c < 248) (h7 : s.length - i ≤ c - 247) : getN s i = (0, i, 3) := by
  unfold getN
  rw [h]
  simp only
  rw [if_neg h8, if_pos h7]
theorem getN_form {s : List Nat} {i c : Nat} (h : s[i]? = some c) (h8 : ¬ c < 248) (h7 : ¬ s.length - i ≤ c - 247) (h6 : ¬ (numB (ofLe ((s.drop (i + 1)).take (c - 247)))).length = 1 + (c - 247)) : getN s i = (0, i, 5) := by
  unfold getN
  rw [h]
  simp only
  rw [if_neg h8, if_neg h7, if_neg h6]
theorem getN_big {s : List Nat} {i c : Nat} (h : s[i]? = some c) (h8 : ¬ c < 248) (h7 : ¬ s.length - i ≤ c - 247) (h6 : (numB (ofLe ((s.drop (i + 1)).take (c - 247)))).length = 1 + (c - 247)) : getN s i = (ofLe ((s.drop (i + 1)).take (c - 247)), i + 1 + (c - 247), 0) := by
  unfold getN
  rw [h]
  simp only
  rw [if_neg h8, if_neg h7, if_pos h6]
theorem ofLe_take (s : ByteArray) (i k : Nat) : ofLe (((wl s).drop i).take k) < 256 ^ k := by
  refine Nat.lt_of_lt_of_le (ofLe_lt _ (fun x hx => wl_lt s x (List.mem_of_mem_drop (List.mem_of_mem_take hx)))) (Nat.pow_le_pow_right (by omega) ?_)
  simp
  omega
theorem ofLe_64 (s : ByteArray) (i : Nat) {k : Nat} (h : k ≤ 8) : ofLe (((wl s).drop i).take k) < M64 :=
  Nat.lt_of_lt_of_le (ofLe_take s i k) (Nat.pow_le_pow_right (by omega) h)
theorem shl_cut {d k : Nat} (hd : d < 256) (hk : k ≤ 7) : IntKind.u64.wrap ((d : Int) * 2 ^ (8 * (k : Int)).toNat) = ((256 ^ k * d : Nat) : Int) := by
  have h1 : 256 ^ k ≤ 256 ^ 7 := Nat.pow_le_pow_right (by omega) hk
  have h2 : 256 ^ k * d ≤ 256 ^ 7 * 255 := Nat.mul_le_mul h1 (by omega)
  have e : (d : Int) * 2 ^ (8 * (k : Int)).toNat = ((256 ^ k * d : Nat) : Int) := by
    rw [show (8 * (k : Int)).toNat = 8 * k by omega, show (2 : Int) ^ (8 * k) = ((256 ^ k : Nat) : Int) by rw [pow256]; norm_cast, Nat.mul_comm]
    exact (Int.natCast_mul _ _).symm
  rw [e]
  exact Fact.wrap_u64 (by omega) (by omega)
theorem shl_lt {d k : Nat} (hd : d < 256) (hk : k ≤ 7) : 256 ^ k * d < 18446744073709551616 := by
  have h1 : 256 ^ k ≤ 256 ^ 7 := Nat.pow_le_pow_right (by omega) hk
  have h2 : 256 ^ k * d ≤ 256 ^ 7 * 255 := Nat.mul_le_mul h1 (by omega)
  omega
theorem or_add {n d k : Nat} (h : n < 256 ^ k) : n ||| (256 ^ k * d) = n + 256 ^ k * d := by
  rw [pow256] at h ⊢
  rw [Nat.or_comm, ← Nat.two_pow_add_eq_or_of_lt h, Nat.add_comm]
theorem ofLe_step {l : List Nat} {i k d : Nat} (h : l[i + 1 + k]? = some d) : ofLe ((l.drop (i + 1)).take k) + 256 ^ k * d = ofLe ((l.drop (i + 1)).take (k + 1)) := by
  have h1 : (l.drop (i + 1))[k]? = some d := by rw [List.getElem?_drop]; exact h
  have hl := (List.getElem?_eq_some_iff.1 h1).1
  rw [List.take_add_one, h1, Option.toList_some, ofLe_snoc, List.length_take, Nat.min_eq_left (by omega)]
set_option maxHeartbeats 4000000 in
set_option maxRecDepth 100000 in
theorem get72 (w : World) (s : ByteArray) (i : Nat) (hi : i ≤ s.size) (hsz : s.size ≤ 1000000000) : Calls Tryz.prog 98 #[.string s, .int .i64 i] w fun e w1 => e = .returned (.tuple #[.int .u64 (getN (wl s) i).1, .int .i64 (getN (wl s) i).2.1, .int .i64 (getN (wl s) i).2.2]) ∧ Below w.heap.size w w1 := by
 refine Zn2 67 Tryz.func98 fun fr hf s0 s1 => ?_
 have hat2 : ∀ (i : Nat) (h : i < s.size), s[i].toNat = at_ s i := fun i h => (at_get h).symm
 have q0 : decide ((i : Int) < 0) = false := decide_eq_false (by omega)
 refine Ze fun _ hK1 => ?_
 refine Zr [] hf ?_
 refine Zq3 0 1 4 hf ?_
 clear hf s0 s1; intro fr1 hf sS
 refine Zx hK1 ?_
 rcases Nat.lt_or_ge i s.size with hlt | hge
 · (
 have q1 : decide (s.size ≤ i) = false := decide_eq_false (by omega)
 refine Ze fun _ hK2 => ?_
 refine Ze fun _ hK3 => rg ?_
 have bB := hf.B7 10 11 12 13 14 15 16
 iterate 3 refine Za ?_
 refine Zg ?_ (hv := by simp (decide := true) only [Fact.G, reduceIte, hf.size, q0, q1, Fact.N])
 refine Zg ?_ (hv := by simp (decide := true) only [Fact.G, reduceIte, hf.size, q0, q1, Fact.N])
 refine Zg ?_ (hv := by simp (decide := true) only [Fact.G, reduceIte, hf.size, q0, q1, Fact.N])
 refine Zg ?_ (hv := by simp (decide := true) only [Fact.G, reduceIte, hf.size, q0, q1, Fact.N])
 refine Za ?_
 refine Fact.nil (Zq4 0 1 4 17 hf ?_)
 clear hf sS bB; intro fr1 hf sS
 refine Zx hK3 ?_
 refine Fact.cond_f sS.2.2.2 ?_
 clear q0 q1
 obtain ⟨c, hc⟩ : ∃ c, at_ s i = c := ⟨_, rfl⟩
 have hc8 : c < 256 := by rw [← hc]; exact at_lt s i
 have hwc : (wl s)[i]? = some c := by rw [← hc]; exact wl_at hlt
 have HC := Lib.hid hc; have HW := Lib.hid hwc; clear hc hwc
 refine wp_skip ?_
 refine Zt hK2 fun _ hK4 => ?_
 have bB := hf.B3 19 20 21
 iterate 2 refine Za ?_
 refine fp fun K Z => ?_
 go_simp
 try rw [dif_pos (by omega)]
 skip
 apply Z.out; clear Z K
 refine Za ?_
 refine Fact.nil (Zq4 0 1 4 7 hf ?_)
 clear hf sS bB; intro fr1 hf sS
 refine Zx hK4 ?_
 obtain ⟨s0, s1, s4, s7⟩ := sS
 try rw [HC.out] at s7
 refine Ze fun _ hK5 => ?_
 refine Ze fun _ hK6 => ?_
 refine Zr [22] hf ?_
 refine Zq5 0 1 4 7 23 hf ?_
 clear hf s0 s1 s4 s7; intro fr1 hf sS
 refine Zx hK6 ?_
 refine Fact.cond_s sS.2.2.2.2 (fun hq => ?_) (fun hq => ?_)
 · (
 have h8 : c < 248 := by have h9 := of_decide_eq_true hq; omega
 clear hq
 refine Ze fun _ hK7 => ?_
 refine Zr [24, 25, 26, 27] hf ?_
 refine Zq3 4 5 6 hf ?_
 clear hf sS; intro fr1 hf sS
 refine Zx hK7 ?_
 refine Zret ?_
 obtain ⟨s4, s5, s6⟩ := sS
 refine Fact.ret3 rfl hf s4 s5 s6 ⟨?_, Below.refl _ _⟩
 rw [getN_small HW.out h8]
 rfl)
 · (
 have h8 : ¬ c < 248 := by have h9 := of_decide_eq_false hq; omega
 clear hq
 obtain ⟨m, hm⟩ : ∃ m, c - 247 = m := ⟨_, rfl⟩
 have hm8 : 1 ≤ m ∧ m ≤ 8 := by omega
 have HM := Lib.hid hm; clear hm
 refine wp_skip ?_
 refine Zt hK5 fun _ hK8 => ?_
 have bB := hf.B4 28 29 30 31
 iterate 2 refine Za ?_
 refine fp fun K Z => ?_
 go_simp
 try simp (disch := omega) only [Fact.W]
 try simp (disch := omega) only [Fact.W]
 apply Z.out; clear Z K
 refine fp fun K Z => ?_
 go_simp
 try simp (disch := omega) only [Fact.W]
 try simp (disch := omega) only [Fact.W]
 rw [show (c : Int) - 248 + 1 = ((c - 247 : Nat) : Int) by omega]
 rw [HM.out]
 apply Z.out; clear Z K
 refine Za ?_
 refine Fact.nil (Zq4 0 1 4 8 hf ?_)
 clear hf sS bB; intro fr1 hf sS
 refine Zs hK8 fun _ hK9 => ?_
 refine Ze fun _ hK10 => ?_
 refine Zr [32, 33, 34, 35, 36] hf ?_
 refine Zq5 0 1 4 8 37 hf ?_
 clear hf sS; intro fr1 hf sS
 refine Zx hK10 ?_
 refine Fact.cond_s sS.2.2.2.2 (fun hq => ?_) (fun hq => ?_)
 · (
 have h7 : s.size - i ≤ m := by have h9 := of_decide_eq_true hq; omega
 clear hq
 refine Ze fun _ hK11 => ?_
 refine Zr [38] hf ?_
 refine Zq3 4 5 6 hf ?_
 clear hf sS; intro fr1 hf sS
 refine Zx hK11 ?_
 refine Zret ?_
 obtain ⟨s4, s5, s6⟩ := sS
 refine Fact.ret3 rfl hf s4 s5 s6 ⟨?_, Below.refl _ _⟩
 rw [getN_short HW.out h8 (by rw [wl_length, HM.out]; exact h7)]
 rfl)
 · (
 have h7 : ¬ s.size - i ≤ m := by have h9 := of_decide_eq_false hq; omega
 clear hq
 refine wp_skip ?_
 refine Zs hK9 fun _ hK12 => ?_
 refine Ze fun _ hK13 => ?_
 refine Zr [] hf ?_
 refine Zq6 0 1 4 8 39 40 hf ?_
 clear hf sS; intro fr1 hf sS
 refine Zx hK13 ?_
 refine wp_block ?_
 refine wp_loop_ghost (fun gk fr wr => ∃ (k n : Nat), gk = m - k ∧ k ≤ m ∧ Fact.Fr 67 fr ∧ fr.tmps[0]? = some (.string s) ∧ fr.tmps[1]? = some (.int .i64 i) ∧ fr.tmps[8]? = some (.int .i64 m) ∧ fr.tmps[39]? = some (.int .i64 m) ∧ fr.tmps[40]? = some (.int .i64 k) ∧ fr.tmps[4]? = some (.int .u64 n) ∧ n = ofLe (((wl s).drop (i + 1)).take k) ∧ wr = w) (m) ?_ ?_
 · (
 obtain ⟨s0, s1, s4, s8, s39, s40⟩ := sS
 exact ⟨0, 0, rfl, Nat.zero_le _, hf, s0, s1, s8, s39, s40, s4, rfl, rfl⟩)
 · (
 clear hf sS
 rintro gk fr wr ⟨k, n, hk, hkm, hf, s0, s1, s8, s39, s40, s4, hn, hwr⟩
 subst wr
 have HK := Lib.hid hk; have HN := Lib.hid hn; clear hk hn
 refine Ze fun _ hK14 => ?_
 refine Zr [] hf ?_
 refine Zq7 0 1 4 8 39 40 41 hf ?_
 clear hf s0 s1 s4 s8 s39 s40; intro fr1 hf sS
 refine Zs hK14 fun _ hK15 => ?_
 refine Fact.cond_s sS.2.2.2.2.2.2 (fun hq => ?_) (fun hq => ?_)
 · (
 have hltk : k < m := by have h9 := of_decide_eq_true hq; omega
 clear hq
 obtain ⟨d, hd⟩ : ∃ d, at_ s (i + 1 + k) = d := ⟨_, rfl⟩
 have hd8 : d < 256 := by rw [← hd]; exact at_lt s _
 have hwd : (wl s)[i + 1 + k]? = some d := by rw [← hd]; exact wl_at (by omega)
 have HD := Lib.hid hd; clear hd
 have hn256 : n < 256 ^ k := by rw [HN.out]; exact ofLe_take s _ _
 have hst := ofLe_step hwd
 rw [← HN.out] at hst
 obtain ⟨n2, hn2⟩ : ∃ n2, n + 256 ^ k * d = n2 := ⟨_, rfl⟩
 rw [hn2] at hst
 obtain ⟨p, hp⟩ : ∃ p, 256 ^ k * d = p := ⟨_, rfl⟩
 rw [hp] at hn2
 have hor := or_add (d := d) hn256
 rw [hp] at hor
 have hn64 : n < 18446744073709551616 := by rw [HN.out]; exact ofLe_64 s _ (show k ≤ 8 by omega)
 have hp64 : p < 18446744073709551616 := by rw [← hp]; exact shl_lt hd8 (show k ≤ 7 by omega)
 have HP := Lib.hid hp; have HOR := Lib.hid hor; have HN2 := Lib.hid hn2; have HST := Lib.hid hst; clear hn2 hst hwd hp hor
 refine wp_skip ?_
 refine Zs hK15 fun _ hK16 => ?_
 refine wp_block ?_
 refine Ze fun _ hK17 => ?_
 refine Zr [42] hf ?_
 refine Zq7 0 1 4 8 9 39 40 hf ?_
 clear hf sS; intro fr1 hf sS
 refine Zx hK17 ?_
 refine rg ?_
 have bB := And.intro (hf.B10 43 44 45 46 47 48 49 50 51 52) (hf.B2 53 54)
 iterate 3 refine Za ?_
 refine Zb ?_
 refine Za ?_
 refine Zb ?_
 refine fp fun K Z => ?_
 go_simp
 rw [if_pos (by omega), Oper.upon_value, show ((i : Int) + 1 + (k : Int)).toNat = i + 1 + k by omega, HD.out]
 apply Z.out; clear Z K
 iterate 2 refine Za ?_
 refine Zb ?_
 refine fp fun K Z => ?_
 go_simp
 rw [shl_cut hd8 (show k ≤ 7 by omega), HP.out]
 apply Z.out; clear Z K
 refine fp fun K Z => ?_
 go_simp
 rw [u64_or_nat n p hn64 hp64, HOR.out, HN2.out]
 apply Z.out; clear Z K
 refine Za ?_
 refine Fact.nil (Zq6 0 1 4 8 39 40 hf ?_)
 clear hf sS bB; intro fr1 hf sS
 refine Fact.block_normal ?_
 refine Zx hK16 ?_
 refine Zr [55] hf ?_
 refine Zq6 0 1 4 8 39 40 hf ?_
 clear hf sS; intro fr1 hf sS
 refine Fact.then_normal ?_
 obtain ⟨s0, s1, s4, s8, s39, s40⟩ := sS
 exact ⟨_, by have := HK.out; omega, k + 1, n2, rfl, by omega, hf, s0, s1, s8, s39, by rw [s40]; rfl, s4, HST.out, rfl⟩)
 · (
 have hke : k = m := by have h9 := of_decide_eq_false hq; omega
 subst hke
 clear hq
 have hn64 : n < M64 := by rw [HN.out]; exact ofLe_64 s _ hm8.2
 refine Zo ?_
 refine Zs hK12 fun _ hK18 => ?_
 refine Ze fun _ hK19 => rg ?_
 have bB := hf.B4 56 57 58 59
 refine Za ?_
 refine fp fun K Z => ?_
 go_simp
 go_at_call 137; refine (size85 w n hn64).mono ?_; rintro e w1 ⟨rfl, hbz⟩
 try dsimp only
 apply Z.out; clear Z K
 refine Za ?_
 refine fp fun K Z => ?_
 go_simp
 try simp (disch := omega) only [Fact.W]
 rw [show (1 : Int) + (k : Int) = ((1 + k : Nat) : Int) by omega]
 apply Z.out; clear Z K
 refine Za ?_
 refine Fact.nil (Zq4 1 4 8 60 hf ?_)
 clear hf sS bB; intro fr1 hf sS
 refine Zx hK19 ?_
 refine Fact.cond_s sS.2.2.2 (fun hq => ?_) (fun hq => ?_)
 · (
 have h6 : ¬ (numB n).length = 1 + k := by have h9 := hq; simp at h9; omega
 clear hq
 refine Ze fun _ hK20 => ?_
 refine Zr [61] hf ?_
 refine Zq3 4 5 6 hf ?_
 clear hf sS; intro fr1 hf sS
 refine Zx hK20 ?_
 refine Zret ?_
 obtain ⟨s4, s5, s6⟩ := sS
 refine Fact.ret3 rfl hf s4 s5 s6 ⟨?_, hbz⟩
 rw [getN_form HW.out h8 (by rw [wl_length, HM.out]; exact h7) (by rw [HM.out, ← HN.out]; exact h6)]
 rfl)
 · (
 have h6 :  (numB n).length = 1 + k := by have h9 := hq; simp at h9; omega
 clear hq
 refine wp_skip ?_
 refine Zs hK18 fun _ hK21 => ?_
 refine Zr [62, 63, 64, 65, 66] hf ?_
 refine Zq3 4 5 6 hf ?_
 clear hf sS; intro fr1 hf sS
 refine Zx hK21 ?_
 refine Zret ?_
 obtain ⟨s4, s5, s6⟩ := sS
 refine Fact.ret3 rfl hf s4 s5 s6 ⟨?_, hbz⟩
 rw [getN_big HW.out h8 (by rw [wl_length, HM.out]; exact h7) (by rw [HM.out, ← HN.out]; exact h6), HM.out, ← HN.out]
 rfl))))))
 · (
 have q1 : decide (s.size ≤ i) = true := decide_eq_true hge
 refine Ze fun _ hK22 => ?_
 refine Ze fun _ hK23 => rg ?_
 have bB := hf.B7 10 11 12 13 14 15 16
 iterate 3 refine Za ?_
 refine Zg ?_ (hv := by simp (decide := true) only [Fact.G, reduceIte, hf.size, q0, q1, Fact.N])
 refine Zg ?_ (hv := by simp (decide := true) only [Fact.G, reduceIte, hf.size, q0, q1, Fact.N])
 refine Zg ?_ (hv := by simp (decide := true) only [Fact.G, reduceIte, hf.size, q0, q1, Fact.N])
 refine Zg ?_ (hv := by simp (decide := true) only [Fact.G, reduceIte, hf.size, q0, q1, Fact.N])
 refine Za ?_
 refine Fact.nil (Zq4 0 1 4 17 hf ?_)
 clear hf sS bB; intro fr1 hf sS
 refine Zx hK23 ?_
 refine Fact.cond_t sS.2.2.2 ?_
 refine Ze fun _ hK24 => ?_
 refine Zr [18] hf ?_
 refine Zq3 4 5 6 hf ?_
 clear hf sS; intro fr1 hf sS
 refine Zx hK24 ?_
 refine Zret ?_
 obtain ⟨s4, s5, s6⟩ := sS
 refine Fact.ret3 rfl hf s4 s5 s6 ⟨?_, Below.refl _ _⟩
 rw [getN_over (by rw [wl_length]; exact hge)]
 rfl)
end Dw
end Go.Proofs.YtcddnmhmcieebaaGreatDoor

namespace Go.Proofs.YtcddnmhmcieebaaGreatDoor
open Go.RowKit
set_option linter.unusedSimpArgs false
set_option linter.unusedVariables false
set_option linter.unnecessarySimpa false
namespace Dw

/-- what is read, and where -/
def RD (w : World) (g : Nat) (s : ByteArray) (i : Nat) : Prop := w.heap[g]? = some (.cells #[.string s, .int .i64 i] 84 (0, 0))
theorem RD.c0 {w : World} {g : Nat} {s : ByteArray} {i : Nat} (h : RD w g s i) : w.cell? ⟨g, 0, none⟩ = some (.string s) := by rw [cell_of_row _ _ 0 _ _ (0, 0) h]; rfl
theorem RD.c1 {w : World} {g : Nat} {s : ByteArray} {i : Nat} (h : RD w g s i) : w.cell? ⟨g, 1, none⟩ = some (.int .i64 i) := by rw [cell_of_row _ _ 1 _ _ (0, 0) h]; rfl
theorem RD.later {w w1 : World} {g : Nat} {s : ByteArray} {i : Nat} (h : RD w g s i) (hb : Below w.heap.size w w1) : RD w1 g s i := (hb.block g (heap_lt h)).trans h
/-- a byte read at a place -/
def charN (s : ByteArray) (i : Nat) : Nat × Nat × Nat := if i = s.size then (0, i, 3) else (at_ s i, i + 1, 0)
theorem charN_end {s : ByteArray} {i : Nat} (h : i = s.size) : charN s i = (0, i, 3) := by unfold charN; rw [if_pos h]
theorem charN_at {s : ByteArray} {i : Nat} (h : i < s.size) : charN s i = (at_ s i, i + 1, 0) := by unfold charN; rw [if_neg (by omega)]
def rangeN (lo hi n : Nat) : Nat := if n < lo ∨ hi < n then 17 else 0
theorem range_cases (n lo hi : Nat) : n < lo ∨ (lo ≤ n ∧ hi < n) ∨ (lo ≤ n ∧ n ≤ hi) := by omega
def magicAt (k : Nat) : Nat := [67, 83, 1].getD k 0
theorem magic_at {k : Nat} (h : k < 3) : at_ ⟨#[67, 83, 1]⟩ k = magicAt k := by
  rcases k with _ | _ | _ | k <;> first | rfl | omega
def kindN (k x : Nat) : Nat := if x = magicAt k then 0 else 6
set_option maxHeartbeats 4000000 in
set_option maxRecDepth 100000 in
theorem char69 (w : World) (c g : Nat) (s : ByteArray) (i : Nat) (hc : w.cell? ⟨c, 0, none⟩ = some (.pointer (some ⟨g, 0, none⟩))) (hr : RD w g s i) (hi : i ≤ s.size) (hsz : s.size ≤ 1000000000) : Calls Tryz.prog 95 #[.pointer (some ⟨c, 0, none⟩)] w fun e w1 => e = .returned (.tuple #[.int .u8 (charN s i).1, .int .i64 (charN s i).2.1, .int .i64 (charN s i).2.2]) ∧ Below w.heap.size w w1 := by
 refine Zn1 32 Tryz.func95 fun fr hf s0 => ?_
 have g0 := hr.c0; have g1 := hr.c1
 clear hr
 refine Ze fun _ hK1 => ?_
 refine Zr [] hf ?_
 refine Zq1 0 hf ?_
 clear hf s0; intro fr1 hf s0
 refine Zs hK1 fun _ hK2 => ?_
 refine Ze fun _ hK3 => ?_
 refine Stab.tb 32 fun hok => ?_
 refine Stab.T 0 hf hok (fun _ _ h d => ad (Stab.O h s0) (ad (cL h.ext hc) (ad (cL h.ext g0) (cL h.ext g1)))) ?_
 refine Stab.T 1 hf hok (fun _ _ h d => Stab.vd 0 0 d []) ?_
 refine Stab.T 2 hf hok (fun _ _ h d => Stab.vd 1 0 d []) ?_
 refine Stab.T 3 hf hok (fun _ _ h d => ad (Stab.vd 2 0 d []) (ad (cL h.ext hc) (ad (cL h.ext g0) (cL h.ext g1)))) ?_
 refine Stab.T 4 hf hok (fun _ _ h d => ad (Stab.O h s0) (ad (cL h.ext hc) (ad (cL h.ext g0) (cL h.ext g1)))) ?_
 refine Stab.T 5 hf hok (fun _ _ h d => Stab.vd 4 0 d []) ?_
 refine Stab.T 6 hf hok (fun _ _ h d => Stab.vd 5 0 d []) ?_
 refine Stab.T 7 hf hok (fun _ _ h d => ad (Stab.vd 6 0 d []) (ad (cL h.ext hc) (ad (cL h.ext g0) (cL h.ext g1)))) ?_
 refine Stab.T 8 hf hok (fun _ _ h d => ad (Stab.vd 7 0 d []) (ad (cL h.ext hc) (ad (cL h.ext g0) (cL h.ext g1)))) ?_
 refine Stab.T 9 hf hok (fun _ _ h d => ad (Stab.vd 3 5 d []) (Stab.vd 8 0 d [])) ?_
 refine Stab.E hf hok (fun _ _ h g => ad (Stab.O h s0) (Stab.f 9 0 g)) ?_
 clear hf hok s0; intro fr1 w1 hf hx sS
 replace hc := cL hx hc
 replace g0 := cL hx g0
 replace g1 := cL hx g1
 refine Zx hK3 ?_
 refine Fact.cond_s sS.2 (fun hq => ?_) (fun hq => ?_)
 · (
 have hie : i = s.size := by have := beq_iff_eq.1 hq; omega
 have HIE := Lib.hid hie; clear hie hq
 have hbx := hx; clear hx
 refine Ze fun _ hK4 => ?_
 obtain ⟨s0, s13⟩ := sS
 refine Stab.tb 32 fun hok => ?_
 refine Stab.T 0 hf hok (fun _ _ h d => ad (Stab.O h s0) (ad (cL h.ext hc) (ad (cL h.ext g0) (cL h.ext g1)))) ?_
 refine Stab.T 1 hf hok (fun _ _ h d => Stab.vd 0 0 d []) ?_
 refine Stab.T 2 hf hok (fun _ _ h d => Stab.vd 1 0 d []) ?_
 refine Stab.T 3 hf hok (fun _ _ h d => ad (Stab.vd 2 0 d []) (ad (cL h.ext hc) (ad (cL h.ext g0) (cL h.ext g1)))) ?_
 refine Stab.T 4 hf hok (fun _ _ h d => trivial) ?_
 refine Stab.mN 5 3 1 hf hok [] ?_
 refine Stab.T 6 hf hok (fun _ _ h d => trivial) ?_
 refine Stab.E hf hok (fun _ _ h g => ad (Stab.f 4 2 g) (ad (Stab.f 5 1 g) (Stab.f 6 0 g))) ?_
 clear hf hok s0 s13; intro fr1 w1 hf hx sS
 replace hc := cL hx hc
 replace g0 := cL hx g0
 replace g1 := cL hx g1
 refine Zx hK4 ?_
 refine Zret ?_
 obtain ⟨s1, s2, s3⟩ := sS
 refine Fact.ret3 rfl hf s1 s2 s3 ⟨?_, hbx.trans (hx.mono hbx.size)⟩
 rw [charN_end HIE.out]
 rfl)
 · (
 have hlt : i < s.size := by have := beq_eq_false_iff_ne.1 hq; omega
 clear hq
 have hbx := hx; clear hx
 refine wp_skip ?_
 refine Zs hK2 fun _ hK5 => ?_
 obtain ⟨s0, s13⟩ := sS
 refine Stab.tb 32 fun hok => ?_
 refine Stab.T 0 hf hok (fun _ _ h d => ad (Stab.O h s0) (ad (cL h.ext hc) (ad (cL h.ext g0) (cL h.ext g1)))) ?_
 refine Stab.T 1 hf hok (fun _ _ h d => Stab.vd 0 0 d []) ?_
 refine Stab.T 2 hf hok (fun _ _ h d => Stab.vd 1 0 d []) ?_
 refine Stab.T 3 hf hok (fun _ _ h d => ad (Stab.vd 2 0 d []) (ad (cL h.ext hc) (ad (cL h.ext g0) (cL h.ext g1)))) ?_
 refine Stab.T 4 hf hok (fun _ _ h d => ad (Stab.O h s0) (ad (cL h.ext hc) (ad (cL h.ext g0) (cL h.ext g1)))) ?_
 refine Stab.T 5 hf hok (fun _ _ h d => Stab.vd 4 0 d []) ?_
 refine Stab.T 6 hf hok (fun _ _ h d => Stab.vd 5 0 d []) ?_
 refine Stab.T 7 hf hok (fun _ _ h d => ad (Stab.vd 6 0 d []) (ad (cL h.ext hc) (ad (cL h.ext g0) (cL h.ext g1)))) ?_
 apply Stab.tq 8 _ hf hok
 · (
 intro fr1 w1 hh hd hk K Z
 have s21 := Stab.v 3 4 hd hk []
 have s25 := Stab.v 7 0 hd hk []
 clear hd
 replace hc := cL hh.ext hc
 replace g0 := cL hh.ext g0
 replace g1 := cL hh.ext g1
 go_simp
 try rw [dif_pos (by omega)]
 exact Stab.k Z)
 refine Stab.T 9 hf hok (fun _ _ h d => ad (Stab.O h s0) (ad (cL h.ext hc) (ad (cL h.ext g0) (cL h.ext g1)))) ?_
 refine Stab.T 10 hf hok (fun _ _ h d => Stab.vd 9 0 d []) ?_
 refine Stab.T 11 hf hok (fun _ _ h d => Stab.vd 10 0 d []) ?_
 refine Stab.T 12 hf hok (fun _ _ h d => ad (Stab.vd 11 0 d []) (ad (cL h.ext hc) (ad (cL h.ext g0) (cL h.ext g1)))) ?_
 refine Stab.Tb 13 hf hok (fun _ _ h d => Stab.vd 12 0 d []) ?_
 refine Stab.mN 14 8 5 hf hok [] ?_
 refine Stab.mN 15 13 1 hf hok [] ?_
 refine Stab.T 16 hf hok (fun _ _ h d => trivial) ?_
 refine Stab.E hf hok (fun _ _ h g => ad (Stab.f 14 2 g) (ad (Stab.f 15 1 g) (Stab.f 16 0 g))) ?_
 clear hf hok s0 s13; intro fr1 w1 hf hx sS
 replace hc := cL hx hc
 replace g0 := cL hx g0
 replace g1 := cL hx g1
 refine Zx hK5 ?_
 refine Zret ?_
 obtain ⟨s1, s2, s3⟩ := sS
 refine Fact.ret3 rfl hf s1 s2 s3 ⟨?_, hbx.trans (hx.mono hbx.size)⟩
 rw [charN_at hlt]
 simp [at_get hlt])
set_option maxHeartbeats 4000000 in
set_option maxRecDepth 100000 in
theorem num71 (w : World) (c g : Nat) (s : ByteArray) (i : Nat) (hc : w.cell? ⟨c, 0, none⟩ = some (.pointer (some ⟨g, 0, none⟩))) (hr : RD w g s i) (hi : i ≤ s.size) (hsz : s.size ≤ 1000000000) : Calls Tryz.prog 97 #[.pointer (some ⟨c, 0, none⟩)] w fun e w1 => e = .returned (.tuple #[.int .u64 (getN (wl s) i).1, .int .i64 (getN (wl s) i).2.1, .int .i64 (getN (wl s) i).2.2]) ∧ Below w.heap.size w w1 := by
 refine Zn1 16 Tryz.func97 fun fr hf s0 => ?_
 have g0 := hr.c0; have g1 := hr.c1
 clear hr
 refine Ze fun _ hK1 => ?_
 refine Zr [] hf ?_
 refine Zq1 0 hf ?_
 clear hf s0; intro fr1 hf s0
 refine Zs hK1 fun _ hK2 => ?_
 refine Stab.tb 16 fun hok => ?_
 refine Stab.T 0 hf hok (fun _ _ h d => ad (Stab.O h s0) (ad (cL h.ext hc) (ad (cL h.ext g0) (cL h.ext g1)))) ?_
 refine Stab.T 1 hf hok (fun _ _ h d => Stab.vd 0 0 d []) ?_
 refine Stab.T 2 hf hok (fun _ _ h d => Stab.vd 1 0 d []) ?_
 refine Stab.T 3 hf hok (fun _ _ h d => ad (Stab.vd 2 0 d []) (ad (cL h.ext hc) (ad (cL h.ext g0) (cL h.ext g1)))) ?_
 refine Stab.T 4 hf hok (fun _ _ h d => ad (Stab.O h s0) (ad (cL h.ext hc) (ad (cL h.ext g0) (cL h.ext g1)))) ?_
 refine Stab.T 5 hf hok (fun _ _ h d => Stab.vd 4 0 d []) ?_
 refine Stab.T 6 hf hok (fun _ _ h d => Stab.vd 5 0 d []) ?_
 refine Stab.T 7 hf hok (fun _ _ h d => ad (Stab.vd 6 0 d []) (ad (cL h.ext hc) (ad (cL h.ext g0) (cL h.ext g1)))) ?_
 apply Stab.tq 8 _ hf hok
 · (
 intro fr1 w1 hh hd hk K Z
 have s7 := Stab.v 3 4 hd hk []
 have s11 := Stab.v 7 0 hd hk []
 clear hd
 replace hc := cL hh.ext hc
 replace g0 := cL hh.ext g0
 replace g1 := cL hh.ext g1
 go_simp
 go_at_call 98; refine (get72 _ s i hi hsz).mono ?_; rintro e w2 ⟨rfl, hb2⟩
 exact Z.out _ rfl _ _ hb2 rfl)
 refine Stab.T 9 hf hok (fun _ _ h d => Stab.vd 8 0 d []) ?_
 refine Stab.T 10 hf hok (fun _ _ h d => Stab.vd 8 1 d []) ?_
 refine Stab.T 11 hf hok (fun _ _ h d => Stab.vd 8 2 d []) ?_
 refine Stab.mN 12 9 2 hf hok [] ?_
 refine Stab.mN 13 10 2 hf hok [] ?_
 refine Stab.mN 14 11 2 hf hok [] ?_
 refine Stab.E hf hok (fun _ _ h g => ad (Stab.f 12 2 g) (ad (Stab.f 13 1 g) (Stab.f 14 0 g))) ?_
 clear hf hok s0; intro fr1 w1 hf hx sS
 replace hc := cL hx hc
 replace g0 := cL hx g0
 replace g1 := cL hx g1
 refine Zx hK2 ?_
 refine Zret ?_
 obtain ⟨s1, s2, s3⟩ := sS
 exact Fact.ret3 rfl hf s1 s2 s3 ⟨rfl, hx⟩
set_option maxHeartbeats 4000000 in
set_option maxRecDepth 100000 in
theorem num73 (w : World) (n lo hi p q : Nat) (hp : w.cell? ⟨p, 0, none⟩ = some (.int .u64 lo)) (hq : w.cell? ⟨q, 0, none⟩ = some (.int .u64 hi)) : Calls Tryz.prog 99 #[.int .u64 n, .pointer (some ⟨p, 0, none⟩), .pointer (some ⟨q, 0, none⟩)] w fun e w1 => e = .returned (.int .i64 (rangeN lo hi n : Nat)) ∧ Below w.heap.size w w1 := by
 refine Zn3 13 Tryz.func99 fun fr hf s0 s1 s2 => ?_
 rcases range_cases n lo hi with hcs | hcs | hcs
 · (
 have q1 : decide (n < lo) = true := decide_eq_true (by omega)
 have HC := Lib.hid hcs; clear hcs
 refine Ze fun _ hK1 => ?_
 refine Zr [] hf ?_
 refine Zq3 0 1 2 hf ?_
 clear hf s0 s1 s2; intro fr1 hf sS
 refine Zs hK1 fun _ hK2 => ?_
 refine Ze fun _ hK3 => rg ?_
 have bB := hf.B7 5 6 7 8 9 10 11
 iterate 4 refine Za ?_
 refine Zk ?_ (hv := by simp (decide := true) only [Fact.G, reduceIte, hf.size, Fact.N, q1])
 refine Zk ?_ (hv := by simp (decide := true) only [Fact.G, reduceIte, hf.size, Fact.N, q1])
 refine Zk ?_ (hv := by simp (decide := true) only [Fact.G, reduceIte, hf.size, Fact.N, q1])
 refine Za ?_
 refine Fact.nil (Zq1 12 hf ?_)
 clear hf sS bB; intro fr1 hf s12
 refine Zx hK3 ?_
 refine Fact.cond_t s12 ?_
 refine Ze fun _ hK4 => ?_
 refine Zr [] hf ?_
 refine Zq1 4 hf ?_
 clear hf s12; intro fr1 hf s4
 refine Zx hK4 ?_
 refine Zret ?_
 refine Fact.ret1 rfl hf s4 ⟨?_, Below.refl _ _⟩
 have := HC.out
 rw [rangeN, if_pos (by omega)]
 rfl)
 · (
 have q1 : decide (n < lo) = false := decide_eq_false (by omega)
 have q2 : decide (hi < n) = true := decide_eq_true (by omega)
 have HC := Lib.hid hcs; clear hcs
 refine Ze fun _ hK5 => ?_
 refine Zr [] hf ?_
 refine Zq3 0 1 2 hf ?_
 clear hf s0 s1 s2; intro fr1 hf sS
 refine Zs hK5 fun _ hK6 => ?_
 refine Ze fun _ hK7 => rg ?_
 have bB := hf.B7 5 6 7 8 9 10 11
 iterate 4 refine Za ?_
 refine Zg ?_ (hv := by simp (decide := true) only [Fact.G, reduceIte, hf.size, q1, q2])
 refine Zg ?_ (hv := by simp (decide := true) only [Fact.G, reduceIte, hf.size, q1, q2])
 refine Zg ?_ (hv := by simp (decide := true) only [Fact.G, reduceIte, hf.size, q1, q2])
 refine Za ?_
 refine Fact.nil (Zq1 12 hf ?_)
 clear hf sS bB; intro fr1 hf s12
 refine Zx hK7 ?_
 refine Fact.cond_t s12 ?_
 refine Ze fun _ hK8 => ?_
 refine Zr [] hf ?_
 refine Zq1 4 hf ?_
 clear hf s12; intro fr1 hf s4
 refine Zx hK8 ?_
 refine Zret ?_
 refine Fact.ret1 rfl hf s4 ⟨?_, Below.refl _ _⟩
 have := HC.out
 rw [rangeN, if_pos (by omega)]
 rfl)
 · (
 have q1 : decide (n < lo) = false := decide_eq_false (by omega)
 have q2 : decide (hi < n) = false := decide_eq_false (by omega)
 have HC := Lib.hid hcs; clear hcs
 refine Ze fun _ hK9 => ?_
 refine Zr [] hf ?_
 refine Zq3 0 1 2 hf ?_
 clear hf s0 s1 s2; intro fr1 hf sS
 refine Zs hK9 fun _ hK10 => ?_
 refine Ze fun _ hK11 => rg ?_
 have bB := hf.B7 5 6 7 8 9 10 11
 iterate 4 refine Za ?_
 refine Zg ?_ (hv := by simp (decide := true) only [Fact.G, reduceIte, hf.size, q1, q2])
 refine Zg ?_ (hv := by simp (decide := true) only [Fact.G, reduceIte, hf.size, q1, q2])
 refine Zg ?_ (hv := by simp (decide := true) only [Fact.G, reduceIte, hf.size, q1, q2])
 refine Za ?_
 refine Fact.nil (Zq1 12 hf ?_)
 clear hf sS bB; intro fr1 hf s12
 refine Zx hK11 ?_
 refine Fact.cond_f s12 ?_
 refine wp_skip ?_
 refine Zs hK10 fun _ hK12 => ?_
 refine Zr [] hf ?_
 refine Zq1 4 hf ?_
 clear hf s12; intro fr1 hf s4
 refine Zx hK12 ?_
 refine Zret ?_
 refine Fact.ret1 rfl hf s4 ⟨?_, Below.refl _ _⟩
 have := HC.out
 rw [rangeN, if_neg (by omega)]
 rfl)
set_option maxHeartbeats 4000000 in
set_option maxRecDepth 100000 in
theorem state74 (w : World) (x : Nat) : Calls Tryz.prog 100 #[.int .u8 x] w fun e w1 => e = .returned (.int .i64 ((0 : Nat) : Int)) ∧ Below w.heap.size w w1 := by
 refine Zn1 3 Tryz.func100 fun fr hf s0 => ?_
 refine Ze fun _ hK1 => ?_
 refine Zr [] hf ?_
 refine Zq0 hf ?_
 clear hf s0; intro fr1 hf
 refine Zs hK1 fun _ hK2 => ?_
 refine Zr [] hf ?_
 refine Zq1 2 hf ?_
 clear hf; intro fr1 hf s2
 refine Zx hK2 ?_
 refine Zret ?_
 exact Fact.ret1 rfl hf s2 ⟨rfl, Below.refl _ _⟩
set_option maxHeartbeats 4000000 in
set_option maxRecDepth 100000 in
theorem all50 (w : World) (x k p : Nat) (hk : k < 3) (hp : w.cell? ⟨p, 0, none⟩ = some (.int .i64 k)) : Calls Tryz.prog 58 #[.int .u8 x, .pointer (some ⟨p, 0, none⟩)] w fun e w1 => e = .returned (.int .i64 (kindN k x : Nat)) ∧ Below w.heap.size w w1 := by
 refine Zn2 8 Tryz.func58 fun fr hf s0 s1 => ?_
 obtain ⟨m, hm⟩ : ∃ x, magicAt k = x := ⟨_, rfl⟩
 have hat : ∀ h : k < (ByteArray.mk #[67, 83, 1]).size, ((ByteArray.mk #[67, 83, 1])[k]'h).toNat = m := fun h => by rw [← hm, ← magic_at hk, at_get h]
 have HM := Lib.hid hm; clear hm
 refine Ze fun _ hK1 => ?_
 refine Zr [] hf ?_
 refine Zq2 0 1 hf ?_
 clear hf s0 s1; intro fr1 hf sS
 refine Zs hK1 fun _ hK2 => ?_
 refine Ze fun _ hK3 => rg ?_
 have bB := hf.B3 4 5 6
 iterate 2 refine Za ?_
 refine fp fun K Z => ?_
 go_simp
 rw [if_pos (by omega)]
 apply Z.out; clear Z K
 refine Za ?_
 refine Fact.nil (Zq1 7 hf ?_)
 clear hf sS bB; intro fr1 hf s7
 refine Zx hK3 ?_
 refine Fact.cond_s s7 (fun hq => ?_) (fun hq => ?_)
 · (
 refine Ze fun _ hK4 => ?_
 refine Zr [] hf ?_
 refine Zq1 3 hf ?_
 clear hf s7; intro fr1 hf s3
 refine Zx hK4 ?_
 refine Zret ?_
 refine Fact.ret1 rfl hf s3 ⟨?_, Below.refl _ _⟩
 unfold kindN
 rw [HM.out, if_neg (by intro e; subst e; simp at hq)]
 rfl)
 · (
 refine wp_skip ?_
 refine Zs hK2 fun _ hK5 => ?_
 refine Zr [] hf ?_
 refine Zq1 3 hf ?_
 clear hf s7; intro fr1 hf s3
 refine Zx hK5 ?_
 refine Zret ?_
 refine Fact.ret1 rfl hf s3 ⟨?_, Below.refl _ _⟩
 unfold kindN
 rw [HM.out, if_pos (by have := (by simpa using hq : (x : Int) = m); omega)]
 rfl)
end Dw
end Go.Proofs.YtcddnmhmcieebaaGreatDoor

namespace Go.Proofs.YtcddnmhmcieebaaGreatDoor
open Go.RowKit
set_option linter.unusedSimpArgs false
set_option linter.unusedVariables false
set_option linter.unnecessarySimpa false
namespace Dw

theorem Pan.via {w w1 w2 : World} {e : Ending} {c a : Int} (hb : Below w.heap.size w w2) (h : Pan w2 w1 e c a) : Pan w w1 e c a := by
  obtain ⟨q, h1, h2, h3, h4⟩ := h
  exact ⟨q, h1, Nat.le_trans hb.size h2, h3, hb.trans (h4.mono hb.size)⟩
/-- what a reading of one thing ends in -/
def ThR (w w1 : World) (e : Ending) (k : IntKind) (r : Nat × Nat × Nat) (c2 i g : Nat) (s : ByteArray) : Prop :=
  if r.2.2 ≠ 0 then Pan w w1 e r.2.2 i else if c2 ≠ 0 then Pan w w1 e c2 i else e = .returned (.int k r.1) ∧ RD w1 g s r.2.1 ∧ But (fun k => k = g) w w1
theorem ThR.one {w w1 : World} {e : Ending} {k : IntKind} {x ny c1 c2 i g : Nat} {s : ByteArray} (hc : c1 ≠ 0) (h : Pan w w1 e c1 i) : ThR w w1 e k (x, ny, c1) c2 i g s := by
  unfold ThR
  rw [if_pos hc]
  exact h
theorem ThR.two {w w1 : World} {e : Ending} {k : IntKind} {x ny c2 i g : Nat} {s : ByteArray} (hc : c2 ≠ 0) (h : Pan w w1 e c2 i) : ThR w w1 e k (x, ny, 0) c2 i g s := by
  unfold ThR
  rw [if_neg (by simp), if_pos hc]
  exact h
theorem ThR.ok {w w1 : World} {k : IntKind} {x ny i g : Nat} {s : ByteArray} (h : RD w1 g s ny) (hb : But (fun k => k = g) w w1) : ThR w w1 (.returned (.int k x)) k (x, ny, 0) 0 i g s := by
  unfold ThR
  rw [if_neg (by simp), if_neg (by simp)]
  exact ⟨rfl, h, hb⟩
set_option maxHeartbeats 4000000 in
set_option maxRecDepth 100000 in
theorem thing68 (w : World) (c g : Nat) (s : ByteArray) (i : Nat) (hc : w.cell? ⟨c, 0, none⟩ = some (.pointer (some ⟨g, 0, none⟩))) (hr : RD w g s i) (hi : i ≤ s.size) (hsz : s.size ≤ 1000000000) (fq : FuncId) (capq : Array Value) (c2 : Nat) (hcf : ∀ (xs : Array Value) (w1 : World), (callFunc fq xs).run Tryz.prog w1 = .ok (.enter fq xs) w1) (hq9 : ∀ w1, Below w.heap.size w w1 → (charN s i).2.2 = 0 → Calls Tryz.prog fq (#[.int .u8 (charN s i).1] ++ capq) w1 fun e w2 => e = .returned (.int .i64 c2) ∧ Below w1.heap.size w1 w2) : Calls Tryz.prog 94 #[.pointer (some ⟨g, 0, none⟩), .func (.func 95) #[] #[.pointer (some ⟨c, 0, none⟩)], .func (.func fq) #[] capq] w fun e w1 => ThR w w1 e .u8 (charN s i) c2 i g s := by
 refine Zn3 40 Tryz.func94 fun fr hf s0 s1 s2 => ?_
 obtain ⟨⟨x, ny, c1⟩, hrr⟩ : ∃ r, charN s i = r := ⟨_, rfl⟩
 rw [hrr] at hq9 ⊢
 have g1 := hr.c1
 have hgl := heap_lt hr
 refine Ze fun _ hK1 => ?_
 refine Zr [] hf ?_
 refine Zq3 0 1 2 hf ?_
 clear hf s0 s1 s2; intro fr1 hf sS
 refine Zt hK1 fun _ hK2 => ?_
 have bB := hf.B6 11 12 10 13 14 15
 refine Za ?_
 refine fp fun K Z => ?_
 go_simp
 go_at_call 95; refine (char69 w c g s i hc hr hi hsz).mono ?_; rintro e w2 ⟨rfl, hb2⟩
 rw [hrr]
 try dsimp only
 apply Z.out; clear Z K
 iterate 7 refine Za ?_
 refine Fact.nil (Zq5 0 2 7 8 9 hf ?_)
 clear hf sS bB; intro fr1 hf sS
 have g2 := cL hb2 g1
 have hr2 := hr.later hb2
 clear hr g1 hc
 refine Zs hK2 fun _ hK3 => ?_
 refine Ze fun _ hK4 => ?_
 refine Zr [16] hf ?_
 refine Zq6 0 2 7 8 9 17 hf ?_
 clear hf sS; intro fr1 hf sS
 refine Zx hK4 ?_
 refine Fact.cond_s sS.2.2.2.2.2 (fun h1 => ?_) (fun h1 => ?_)
 · (
 have hne : c1 ≠ 0 := by simpa using h1
 clear h1
 refine rg ?_
 have bB := hf.B5 18 19 20 21 22
 iterate 5 refine Za ?_
 refine fp fun K Z => ?_
 go_simp
 go_at_call 32; refine (bad33 w2 c1 i).mono ?_; rintro e w3 ⟨q, rfl, hq1, hq2, hq3⟩
 try dsimp only
 refine pan9 hf.defers (ThR.one hne (Pan.via hb2 ⟨q, rfl, hq1, hq2, hq3⟩)))
 · (
 have hz : c1 = 0 := by simpa using h1
 clear h1
 subst hz
 refine wp_skip ?_
 refine Zs hK3 fun _ hK5 => ?_
 refine Ze fun _ hK6 => rg ?_
 have bB := hf.B3 24 25 26
 iterate 2 refine Za ?_
 refine fp fun K Z => ?_
 go_simp
 try rw [hcf]
 refine (hq9 w2 hb2 rfl).mono ?_
 rintro e w3 ⟨rfl, hb3⟩
 try dsimp only
 apply Z.out; clear Z K
 refine Za ?_
 refine Fact.nil (Zq4 0 7 8 9 hf ?_)
 clear hf sS bB; intro fr1 hf sS
 have g3 := cL hb3 g2
 have hr3 := hr2.later hb3
 have hb23 := hb2.trans (hb3.mono hb2.size)
 clear hr2 g2
 refine Zs hK6 fun _ hK7 => ?_
 refine Zr [27] hf ?_
 refine Zq5 0 7 8 9 28 hf ?_
 clear hf sS; intro fr1 hf sS
 refine Zx hK7 ?_
 refine Fact.cond_s sS.2.2.2.2 (fun h2 => ?_) (fun h2 => ?_)
 · (
 have hne : c2 ≠ 0 := by simpa using h2
 clear h2
 refine rg ?_
 have bB := hf.B5 29 30 31 32 33
 iterate 5 refine Za ?_
 refine fp fun K Z => ?_
 go_simp
 go_at_call 32; refine (bad33 w3 c2 i).mono ?_; rintro e w4 ⟨q, rfl, hq1, hq2, hq3⟩
 try dsimp only
 refine pan9 hf.defers (ThR.two hne (Pan.via hb23 ⟨q, rfl, hq1, hq2, hq3⟩)))
 · (
 have hz : c2 = 0 := by simpa using h2
 clear h2
 subst hz
 have fz := frozen_of (i := 1) hr3
 refine wp_skip ?_
 refine Zs hK5 fun _ hK8 => ?_
 refine Zr [35, 36, 37, 38] hf ?_
 refine Zq1 7 hf ?_
 clear hf sS; intro fr1 hf s7
 have hr4 : RD (w3.setCell ⟨g, 1, none⟩ (.int .i64 ny)) g s ny := (set_block (i := 1) hr3 _).trans (by simp)
 have hbt : But (fun k => k = g) w (w3.setCell ⟨g, 1, none⟩ (.int .i64 ny)) := (But.of _ hb23).trans (But.setCell (S := fun k => k = g) rfl _)
 refine Zs hK8 fun _ hK9 => ?_
 refine Zr [39] hf ?_
 refine Zq1 6 hf ?_
 clear hf s7; intro fr1 hf s6
 refine Zx hK9 ?_
 refine Zret ?_
 exact Fact.ret1 rfl hf s6 (ThR.ok hr4 hbt)))
set_option maxHeartbeats 4000000 in
set_option maxRecDepth 100000 in
theorem thing70 (w : World) (c g : Nat) (s : ByteArray) (i : Nat) (hc : w.cell? ⟨c, 0, none⟩ = some (.pointer (some ⟨g, 0, none⟩))) (hr : RD w g s i) (hi : i ≤ s.size) (hsz : s.size ≤ 1000000000) (fq : FuncId) (capq : Array Value) (c2 : Nat) (hcf : ∀ (xs : Array Value) (w1 : World), (callFunc fq xs).run Tryz.prog w1 = .ok (.enter fq xs) w1) (hq9 : ∀ w1, Below w.heap.size w w1 → (getN (wl s) i).2.2 = 0 → Calls Tryz.prog fq (#[.int .u64 (getN (wl s) i).1] ++ capq) w1 fun e w2 => e = .returned (.int .i64 c2) ∧ Below w1.heap.size w1 w2) : Calls Tryz.prog 96 #[.pointer (some ⟨g, 0, none⟩), .func (.func 97) #[] #[.pointer (some ⟨c, 0, none⟩)], .func (.func fq) #[] capq] w fun e w1 => ThR w w1 e .u64 (getN (wl s) i) c2 i g s := by
 refine Zn3 40 Tryz.func96 fun fr hf s0 s1 s2 => ?_
 obtain ⟨⟨x, ny, c1⟩, hrr⟩ : ∃ r, getN (wl s) i = r := ⟨_, rfl⟩
 rw [hrr] at hq9 ⊢
 have g1 := hr.c1
 have hgl := heap_lt hr
 refine Ze fun _ hK1 => ?_
 refine Zr [] hf ?_
 refine Zq3 0 1 2 hf ?_
 clear hf s0 s1 s2; intro fr1 hf sS
 refine Zt hK1 fun _ hK2 => ?_
 have bB := hf.B6 11 12 10 13 14 15
 refine Za ?_
 refine fp fun K Z => ?_
 go_simp
 go_at_call 97; refine (num71 w c g s i hc hr hi hsz).mono ?_; rintro e w2 ⟨rfl, hb2⟩
 rw [hrr]
 try dsimp only
 apply Z.out; clear Z K
 iterate 7 refine Za ?_
 refine Fact.nil (Zq5 0 2 7 8 9 hf ?_)
 clear hf sS bB; intro fr1 hf sS
 have g2 := cL hb2 g1
 have hr2 := hr.later hb2
 clear hr g1 hc
 refine Zs hK2 fun _ hK3 => ?_
 refine Ze fun _ hK4 => ?_
 refine Zr [16] hf ?_
 refine Zq6 0 2 7 8 9 17 hf ?_
 clear hf sS; intro fr1 hf sS
 refine Zx hK4 ?_
 refine Fact.cond_s sS.2.2.2.2.2 (fun h1 => ?_) (fun h1 => ?_)
 · (
 have hne : c1 ≠ 0 := by simpa using h1
 clear h1
 refine rg ?_
 have bB := hf.B5 18 19 20 21 22
 iterate 5 refine Za ?_
 refine fp fun K Z => ?_
 go_simp
 go_at_call 32; refine (bad33 w2 c1 i).mono ?_; rintro e w3 ⟨q, rfl, hq1, hq2, hq3⟩
 try dsimp only
 refine pan9 hf.defers (ThR.one hne (Pan.via hb2 ⟨q, rfl, hq1, hq2, hq3⟩)))
 · (
 have hz : c1 = 0 := by simpa using h1
 clear h1
 subst hz
 refine wp_skip ?_
 refine Zs hK3 fun _ hK5 => ?_
 refine Ze fun _ hK6 => rg ?_
 have bB := hf.B3 24 25 26
 iterate 2 refine Za ?_
 refine fp fun K Z => ?_
 go_simp
 try rw [hcf]
 refine (hq9 w2 hb2 rfl).mono ?_
 rintro e w3 ⟨rfl, hb3⟩
 try dsimp only
 apply Z.out; clear Z K
 refine Za ?_
 refine Fact.nil (Zq4 0 7 8 9 hf ?_)
 clear hf sS bB; intro fr1 hf sS
 have g3 := cL hb3 g2
 have hr3 := hr2.later hb3
 have hb23 := hb2.trans (hb3.mono hb2.size)
 clear hr2 g2
 refine Zs hK6 fun _ hK7 => ?_
 refine Zr [27] hf ?_
 refine Zq5 0 7 8 9 28 hf ?_
 clear hf sS; intro fr1 hf sS
 refine Zx hK7 ?_
 refine Fact.cond_s sS.2.2.2.2 (fun h2 => ?_) (fun h2 => ?_)
 · (
 have hne : c2 ≠ 0 := by simpa using h2
 clear h2
 refine rg ?_
 have bB := hf.B5 29 30 31 32 33
 iterate 5 refine Za ?_
 refine fp fun K Z => ?_
 go_simp
 go_at_call 32; refine (bad33 w3 c2 i).mono ?_; rintro e w4 ⟨q, rfl, hq1, hq2, hq3⟩
 try dsimp only
 refine pan9 hf.defers (ThR.two hne (Pan.via hb23 ⟨q, rfl, hq1, hq2, hq3⟩)))
 · (
 have hz : c2 = 0 := by simpa using h2
 clear h2
 subst hz
 have fz := frozen_of (i := 1) hr3
 refine wp_skip ?_
 refine Zs hK5 fun _ hK8 => ?_
 refine Zr [35, 36, 37, 38] hf ?_
 refine Zq1 7 hf ?_
 clear hf sS; intro fr1 hf s7
 have hr4 : RD (w3.setCell ⟨g, 1, none⟩ (.int .i64 ny)) g s ny := (set_block (i := 1) hr3 _).trans (by simp)
 have hbt : But (fun k => k = g) w (w3.setCell ⟨g, 1, none⟩ (.int .i64 ny)) := (But.of _ hb23).trans (But.setCell (S := fun k => k = g) rfl _)
 refine Zs hK8 fun _ hK9 => ?_
 refine Zr [39] hf ?_
 refine Zq1 6 hf ?_
 clear hf s7; intro fr1 hf s6
 refine Zx hK9 ?_
 refine Zret ?_
 exact Fact.ret1 rfl hf s6 (ThR.ok hr4 hbt)))
end Dw
end Go.Proofs.YtcddnmhmcieebaaGreatDoor
