/- cedillaref13: Value. -/
import Derived.Test.YtdkbgbdgmihlmaaGreatDoorDFind
import Derived.Test.YtdkbgbdgmihlmaaGreatDoorTools
namespace Go.Proofs.YtdkbgbdgmihlmaaGreatDoor
open Go.RowKit
set_option linter.unusedSimpArgs false
set_option linter.unusedVariables false
set_option linter.unnecessarySimpa false
namespace Dw

def valR (init : Nat) : Option Nat → Nat
  | none => 0
  | some v => (init + v) % M64
theorem wrap_sum {a b : Nat} : IntKind.u64.wrap ((a : Int) + (b : Int)) = (((a + b) % M64 : Nat) : Int) := by
  rw [IntKind.wrap_u64]
  unfold M64
  omega
def Scan (l : List Arc) (b n : Nat) (to : Int) (n2 : Nat) : Prop := match l.find? (fun a => decide (a.byte = b)) with
  | none => to = -1 ∧ n2 = n
  | some a => to = a.to ∧ n2 = (n + a.out) % M64
theorem scan_end {l : List Arc} {b n : Nat} {to : Int} {n2 : Nat} (h : Scan l b n to n2) : (l.find? (fun a => decide (a.byte = b)) = none ∧ to = -1 ∧ n2 = n) ∨ ∃ a, l.find? (fun a => decide (a.byte = b)) = some a ∧ to = a.to ∧ n2 = (n + a.out) % M64 := by
  unfold Scan at h
  split at h
  · rename_i h0; exact .inl ⟨h0, h⟩
  · rename_i a h0; exact .inr ⟨a, h0, h⟩
theorem scan_cases (x b : Nat) (to : Int) : x ≠ b ∨ (x = b ∧ to < 0) ∨ (x = b ∧ ¬ to < 0) := by omega
theorem scan_ne {l : List Arc} {j b n : Nat} {to : Int} {n2 : Nat} {a : Arc} (hj : l[j]? = some a) (h : Scan (l.take j) b n to n2) (hb : a.byte ≠ b) : Scan (l.take (j + 1)) b n to n2 := by
  unfold Scan at h ⊢
  rw [List.take_add_one, hj, List.find?_append]
  cases hf : (l.take j).find? (fun a => decide (a.byte = b)) with
  | none => rw [hf] at h; simpa [hb] using h
  | some x => rw [hf] at h; simpa using h
theorem scan_first {l : List Arc} {j b n : Nat} {to : Int} {n2 : Nat} {a : Arc} (hj : l[j]? = some a) (h : Scan (l.take j) b n to n2) (hb : a.byte = b) (hto : to < 0) (hcl : ∀ a ∈ l, 0 ≤ a.to) : Scan (l.take (j + 1)) b n a.to ((n2 + a.out) % M64) := by
  unfold Scan at h ⊢
  rw [List.take_add_one, hj, List.find?_append]
  cases hf : (l.take j).find? (fun a => decide (a.byte = b)) with
  | none => rw [hf] at h; simp only at h; simp [hb, h.2]
  | some x =>
    rw [hf] at h
    have := hcl x (List.mem_of_mem_take (List.mem_of_find?_eq_some hf))
    simp only at h
    omega
theorem scan_old {l : List Arc} {j b n : Nat} {to : Int} {n2 : Nat} {a : Arc} (hj : l[j]? = some a) (h : Scan (l.take j) b n to n2) (hto : ¬ to < 0) : Scan (l.take (j + 1)) b n to n2 := by
  unfold Scan at h ⊢
  rw [List.take_add_one, hj, List.find?_append]
  cases hf : (l.take j).find? (fun a => decide (a.byte = b)) with
  | none => rw [hf] at h; simp only at h; omega
  | some x => rw [hf] at h; simpa using h
set_option maxHeartbeats 4000000 in
set_option maxRecDepth 100000 in
theorem value14 (w : World) (sv : Value) (init : Nat) (hinit : init < M64) (ss : List State) (hrs : RS w sv ss) (hok : ∀ s ∈ ss, okS s) (hcl : ∀ s ∈ ss, ∀ a ∈ s.arcs, 0 ≤ a.to ∧ a.to < (ss.length : Int)) (hlen : 0 < ss.length) (hmax : ss.length ≤ 1000000) (s : ByteArray) (hs : s.size ≤ 1000000) : Calls Tryz.prog 10 #[.agg #[sv, .int .u64 init], .string s] w fun e w1 => e = .returned (.tuple #[.int .u64 (valR init (valW ss (ss.length - 1) (wl s)) : Nat), .bool (valW ss (ss.length - 1) (wl s)).isSome]) ∧ Below w.heap.size w w1 := by
 refine calls_of_wp Tryz.func10 rfl ?_
 refine Fact.en 89 fun fr hf hT => ?_
 have s0 := hT 0 _ rfl
 have s1 := hT 1 _ rfl
 clear hT
 have hrs0 := hrs
 obtain ⟨A, cc, rfl, hcc⟩ := hrs.form
 clear hrs
 have hat2 : ∀ (i : Nat) (h : i < s.size), s[i].toNat = at_ s i := fun i h => (at_get h).symm
 have q0 : (((ss.length : Nat) : Int) == 0) = false := by rw [beq_eq_false_iff_ne]; omega
 refine Fact.sq fun K1 hK1 => ?_
 refine rg ?_
 iterate 3 (refine fp fun K Z => ?_; go_simp; apply Z.out; clear Z K)
 refine Fact.z hf fun fr1 hf1 hT => ?_
 have hKp : _ ∧ _ := ⟨hT 1, hT 2⟩
 simp (decide := true) only [Fact.G, hf.size, reduceIte, s1] at hKp
 replace hf := hf1; clear hT hf1 s0 s1
 obtain ⟨s1, s2⟩ := hKp
 obtain ⟨W0, hW0⟩ : ∃ W0, w.alloc (.cells #[.slice A ss.length cc, .int .u64 init] 33) = W0 := ⟨_, rfl⟩
 try rw [hW0]
 obtain ⟨hb0, x0, x1, -, hz0_⟩ := box2 hW0
 clear hW0
 have hz0 : w.heap.size < W0.heap.size := by rw [hz0_]; exact Nat.lt_succ_self _
 clear hz0_
 replace hrs0 := hrs0.later hb0
 have HOK := Lib.hid hok; have HCL := Lib.hid hcl; clear hok hcl
 refine nx (hK1 _ _ ?_)
 refine Fact.sq fun K2 hK2 => ?_
 refine Fact.sq fun K3 hK3 => ?_
 refine rg ?_
 have b12 := hf.b 12
 have b13 := hf.b 13
 have b14 := hf.b 14
 iterate 4 (refine fp fun K Z => ?_; go_simp; apply Z.out; clear Z K)
 refine Fact.z hf fun fr1 hf1 hT => ?_
 have hKp : _ ∧ _ ∧ _ := ⟨hT 1, hT 2, hT 15⟩
 simp (decide := true) only [Fact.G, hf.size, reduceIte, s1, s2] at hKp
 replace hf := hf1; clear hT hf1 s1 s2 b12 b13 b14
 obtain ⟨s1, s2, s15⟩ := hKp
 refine nx (hK3 _ _ ?_)
 refine Fact.cond_f s15 ?_
 clear q0
 refine wp_skip ?_
 refine nx (hK2 _ _ ?_)
 refine Fact.sq fun K4 hK4 => ?_
 refine rg ?_
 have b16 := hf.b 16
 have b17 := hf.b 17
 have b18 := hf.b 18
 have b19 := hf.b 19
 iterate 3 (refine fp fun K Z => ?_; go_simp; apply Z.out; clear Z K)
 refine fp fun K Z => ?_
 go_simp
 try simp (disch := omega) only [Fact.W]
 apply Z.out; clear Z K
 refine fp fun K Z => ?_
 go_simp
 apply Z.out; clear Z K
 refine Fact.z hf fun fr1 hf1 hT => ?_
 have hKp : _ ∧ _ ∧ _ := ⟨hT 1, hT 2, hT 6⟩
 simp (decide := true) only [Fact.G, hf.size, reduceIte, s1, s2] at hKp
 replace hf := hf1; clear hT hf1 s1 s2 s15 b16 b17 b18 b19
 obtain ⟨s1, s2, s6⟩ := hKp
 refine nx (hK4 _ _ ?_)
 refine Fact.sq fun K5 hK5 => ?_
 refine rg ?_
 have b20 := hf.b 20
 have b21 := hf.b 21
 iterate 3 (refine fp fun K Z => ?_; go_simp; apply Z.out; clear Z K)
 refine Fact.z hf fun fr1 hf1 hT => ?_
 have hKp : _ ∧ _ ∧ _ ∧ _ := ⟨hT 1, hT 2, hT 6, hT 7⟩
 simp (decide := true) only [Fact.G, hf.size, reduceIte, s1, s2, s6] at hKp
 replace hf := hf1; clear hT hf1 s1 s2 s6 b20 b21
 obtain ⟨s1, s2, s6, s7⟩ := hKp
 refine nx (hK5 _ _ ?_)
 refine Fact.sq fun K6 hK6 => ?_
 refine Fact.sq fun K7 hK7 => ?_
 refine rg ?_
 refine fp fun K Z => ?_
 go_simp
 apply Z.out; clear Z K
 refine Fact.z hf fun fr1 hf1 hT => ?_
 have hKp : _ ∧ _ ∧ _ ∧ _ ∧ _ := ⟨hT 1, hT 2, hT 6, hT 7, hT 8⟩
 simp (decide := true) only [Fact.G, hf.size, reduceIte, s1, s2, s6, s7] at hKp
 replace hf := hf1; clear hT hf1 s1 s2 s6 s7
 obtain ⟨s1, s2, s6, s7, s8⟩ := hKp
 refine nx (hK7 _ _ ?_)
 refine wp_block ?_
 refine wp_loop_ghost (fun gk fr wr => ∃ (i k acc n0 : Nat), gk = s.size - i ∧ i ≤ s.size ∧ Fact.Fr 89 fr ∧ fr.tmps[1]? = some (.string s) ∧ fr.tmps[2]? = some (.pointer (some ⟨w.heap.size, 0, none⟩)) ∧ fr.tmps[6]? = some (.int .i64 k) ∧ fr.tmps[7]? = some (.int .u64 n0) ∧ fr.tmps[8]? = some (.int .i64 i) ∧ n0 = (init + acc) % M64 ∧ k < ss.length ∧ valW ss (ss.length - 1) (wl s) = (valW ss k ((wl s).drop i)).map (acc + ·) ∧ Below W0.heap.size W0 wr) (s.size) ?_ ?_
 · (
 exact ⟨0, ss.length - 1, 0, init, rfl, Nat.zero_le _, hf, s1, s2, by rw [s6, show ((ss.length - 1 : Nat) : Int) = (ss.length : Int) - 1 by omega], s7, s8, by rw [Nat.add_zero, Nat.mod_eq_of_lt hinit], by omega, by simp, Below.refl _ _⟩)
 · (
 clear hf s1 s2 s6 s7 s8
 rintro gk fr wr ⟨i, k, acc, n0, hk, hi, hf, s1, s2, s6, s7, s8, hn0, hkl, hval, hb⟩
 have HK := Lib.hid hk; have HV := Lib.hid hval; have HN0 := Lib.hid hn0; clear hk hval hn0
 have z0 := cL hb x0
 obtain ⟨st, hst⟩ : ∃ st, ss[k]? = some st := ⟨_, List.getElem?_eq_getElem hkl⟩
 obtain ⟨g, off, av, hAv, hat⟩ := (hrs0.later hb).at_ hst
 have d0 := hat.c0; have d1 := hat.c1; have d2 := hat.c2
 have hra := hat.arcs
 obtain ⟨Aa, ca, rfl, hca⟩ := hra.form
 have hfew := (HOK.out st (List.mem_of_getElem? hst)).2.1
 have HST := Lib.hid hst; clear hst hat
 subst hAv
 refine Fact.sq fun K8 hK8 => ?_
 refine Fact.sq fun K9 hK9 => ?_
 refine rg ?_
 have b22 := hf.b 22
 have b23 := hf.b 23
 have b24 := hf.b 24
 iterate 4 (refine fp fun K Z => ?_; go_simp; apply Z.out; clear Z K)
 refine Fact.z hf fun fr1 hf1 hT => ?_
 have hKp : _ ∧ _ ∧ _ ∧ _ ∧ _ ∧ _ := ⟨hT 1, hT 2, hT 6, hT 7, hT 8, hT 25⟩
 simp (decide := true) only [Fact.G, hf.size, reduceIte, s1, s2, s6, s7, s8] at hKp
 replace hf := hf1; clear hT hf1 s1 s2 s6 s7 s8 b22 b23 b24
 obtain ⟨s1, s2, s6, s7, s8, s25⟩ := hKp
 refine nx (hK9 _ _ ?_)
 refine Fact.cond_s s25 (fun hq => ?_) (fun hq => ?_)
 · (
 have hlt : i < s.size := by have h9 := of_decide_eq_true hq; omega
 have HQ := Lib.hid hq; clear hq
 have hdr : (wl s).drop i = at_ s i :: (wl s).drop (i + 1) := drop_at (wl_at hlt)
 have hv2 := HV.out
 rw [hdr] at hv2
 simp only [valW, HST.out] at hv2
 have HV2 := Lib.hid hv2; clear hv2 hdr
 refine wp_skip ?_
 refine nx (hK8 _ _ ?_)
 refine Fact.sq fun K10 hK10 => ?_
 refine wp_block ?_
 refine Fact.sq fun K11 hK11 => ?_
 refine rg ?_
 refine fp fun K Z => ?_
 go_simp
 apply Z.out; clear Z K
 refine Fact.z hf fun fr1 hf1 hT => ?_
 have hKp : _ ∧ _ ∧ _ ∧ _ ∧ _ ∧ _ := ⟨hT 1, hT 2, hT 6, hT 7, hT 8, hT 9⟩
 simp (decide := true) only [Fact.G, hf.size, reduceIte, s1, s2, s6, s7, s8] at hKp
 replace hf := hf1; clear hT hf1 s1 s2 s6 s7 s8 s25
 obtain ⟨s1, s2, s6, s7, s8, s9⟩ := hKp
 refine nx (hK11 _ _ ?_)
 refine Fact.sq fun K12 hK12 => ?_
 refine Fact.sq fun K13 hK13 => ?_
 refine rg ?_
 refine fp fun K Z => ?_
 go_simp
 apply Z.out; clear Z K
 refine Fact.z hf fun fr1 hf1 hT => ?_
 have hKp : _ ∧ _ ∧ _ ∧ _ ∧ _ ∧ _ ∧ _ := ⟨hT 1, hT 2, hT 6, hT 7, hT 8, hT 9, hT 10⟩
 simp (decide := true) only [Fact.G, hf.size, reduceIte, s1, s2, s6, s7, s8, s9] at hKp
 replace hf := hf1; clear hT hf1 s1 s2 s6 s7 s8 s9
 obtain ⟨s1, s2, s6, s7, s8, s9, s10⟩ := hKp
 refine nx (hK13 _ _ ?_)
 refine wp_block ?_
 refine wp_loop_ghost (fun gk2 fr wq => ∃ (j : Nat) (to : Int) (n2 : Nat), gk2 = st.arcs.length - j ∧ j ≤ st.arcs.length ∧ Fact.Fr 89 fr ∧ fr.tmps[1]? = some (.string s) ∧ fr.tmps[2]? = some (.pointer (some ⟨w.heap.size, 0, none⟩)) ∧ fr.tmps[6]? = some (.int .i64 k) ∧ fr.tmps[7]? = some (.int .u64 n2) ∧ fr.tmps[8]? = some (.int .i64 i) ∧ fr.tmps[9]? = some (.int .i64 to) ∧ fr.tmps[10]? = some (.int .i64 j) ∧ Scan (st.arcs.take j) (at_ s i) n0 to n2 ∧ Below wr.heap.size wr wq) (st.arcs.length) ?_ ?_
 · (
 exact ⟨0, -1, _, rfl, Nat.zero_le _, hf, s1, s2, s6, s7, s8, s9, s10, ⟨rfl, rfl⟩, Below.refl _ _⟩)
 · (
 clear hf s1 s2 s6 s7 s8 s9 s10
 rintro gk2 fr wq ⟨j, to, n2, hk2, hj, hf, s1, s2, s6, s7, s8, s9, s10, hsc, hbq⟩
 have HK2 := Lib.hid hk2; have HSC := Lib.hid hsc; clear hk2 hsc
 replace z0 := cL hbq z0; replace d0 := cL hbq d0
 replace hra := hra.later hbq
 clear d1 d2
 refine Fact.sq fun K14 hK14 => ?_
 refine Fact.sq fun K15 hK15 => ?_
 refine rg ?_
 have b28 := hf.b 28
 have b29 := hf.b 29
 have b30 := hf.b 30
 have b31 := hf.b 31
 have b32 := hf.b 32
 have b33 := hf.b 33
 have b34 := hf.b 34
 have b35 := hf.b 35
 iterate 4 (refine fp fun K Z => ?_; go_simp; apply Z.out; clear Z K)
 refine fp fun K Z => ?_
 go_simp
 try rw [if_pos (by omega)]
 apply Z.out; clear Z K
 iterate 4 (refine fp fun K Z => ?_; go_simp; apply Z.out; clear Z K)
 refine Fact.z hf fun fr1 hf1 hT => ?_
 have hKp : _ ∧ _ ∧ _ ∧ _ ∧ _ ∧ _ ∧ _ ∧ _ := ⟨hT 1, hT 2, hT 6, hT 7, hT 8, hT 9, hT 10, hT 36⟩
 simp (decide := true) only [Fact.G, hf.size, reduceIte, s1, s2, s6, s7, s8, s9, s10] at hKp
 replace hf := hf1; clear hT hf1 s1 s2 s6 s7 s8 s9 s10 b28 b29 b30 b31 b32 b33 b34 b35
 obtain ⟨s1, s2, s6, s7, s8, s9, s10, s36⟩ := hKp
 refine nx (hK15 _ _ ?_)
 refine Fact.cond_s s36 (fun hq => ?_) (fun hq => ?_)
 · (
 have hlt2 : j < st.arcs.length := by have h9 := of_decide_eq_true hq; omega
 have HQ2 := Lib.hid hq; clear hq
 obtain ⟨a, hja⟩ : ∃ a, st.arcs[j]? = some a := ⟨_, List.getElem?_eq_getElem hlt2⟩
 obtain ⟨g2, o2, rfl, _, e0, e1, e2⟩ := hra.at' hja
 have HJ := Lib.hid hja; clear hja
 refine wp_skip ?_
 refine nx (hK14 _ _ ?_)
 refine Fact.sq fun K16 hK16 => ?_
 refine wp_block ?_
 refine Fact.sq fun K17 hK17 => ?_
 refine rg ?_
 have b39 := hf.b 39
 have b40 := hf.b 40
 have b41 := hf.b 41
 have b42 := hf.b 42
 have b43 := hf.b 43
 have b44 := hf.b 44
 have b45 := hf.b 45
 have b46 := hf.b 46
 have b47 := hf.b 47
 have b11 := hf.b 11
 iterate 3 (refine fp fun K Z => ?_; go_simp; apply Z.out; clear Z K)
 refine fp fun K Z => ?_
 go_simp
 try rw [if_pos (by omega)]
 apply Z.out; clear Z K
 iterate 3 (refine fp fun K Z => ?_; go_simp; apply Z.out; clear Z K)
 refine fp fun K Z => ?_
 go_simp
 try rw [if_pos (by omega)]
 apply Z.out; clear Z K
 iterate 3 (refine fp fun K Z => ?_; go_simp; apply Z.out; clear Z K)
 refine Fact.z hf fun fr1 hf1 hT => ?_
 have hKp : _ ∧ _ ∧ _ ∧ _ ∧ _ ∧ _ ∧ _ ∧ _ := ⟨hT 1, hT 2, hT 6, hT 7, hT 8, hT 9, hT 10, hT 11⟩
 simp (decide := true) only [Fact.G, hf.size, reduceIte, s1, s2, s6, s7, s8, s9, s10] at hKp
 replace hf := hf1; clear hT hf1 s1 s2 s6 s7 s8 s9 s10 s36 b39 b40 b41 b42 b43 b44 b45 b46 b47 b11
 obtain ⟨s1, s2, s6, s7, s8, s9, s10, s11⟩ := hKp
 obtain ⟨W5, hW5⟩ : ∃ W0, wq.alloc (.cells #[.int .u8 a.byte, .int .u64 a.out, .int .i64 a.to] 60) = W0 := ⟨_, rfl⟩
 try rw [hW5]
 obtain ⟨hb5, y0, y1, y2, -, hz5_⟩ := box3 hW5
 clear hW5
 have hz5 : wq.heap.size < W5.heap.size := by rw [hz5_]; exact Nat.lt_succ_self _
 clear hz5_
 clear e0 e1 e2
 refine nx (hK17 _ _ ?_)
 rcases scan_cases a.byte (at_ s i) to with hbe | ⟨hbe, hto⟩ | ⟨hbe, hto⟩
 · (
 have q3 : (((a.byte : Nat) : Int) == ((at_ s i : Nat) : Int)) = false := by simp; omega
 refine Fact.sq fun K18 hK18 => ?_
 refine Stab.tb 89 fun hok => ?_
 apply Stab.tq 0 _ hf hok
 · (
 intro fr1 w1 hh hd hk K Z
 have s11 := Stab.O hh s11
 clear hd
 go_simp
 exact Stab.k Z)
 apply Stab.tq 1 _ hf hok
 · (
 intro fr1 w1 hh hd hk K Z
 have s48 := Stab.v 0 0 hd hk []
 clear hd
 replace y0 := cL hh.ext y0
 replace y1 := cL hh.ext y1
 replace y2 := cL hh.ext y2
 go_simp
 exact Stab.k Z)
 refine Stab.mO 2 s1 hf hok ?_
 refine Stab.mO 3 s8 hf hok ?_
 apply Stab.tq 4 _ hf hok
 · (
 intro fr1 w1 hh hd hk K Z
 have s50 := Stab.v 2 1 hd hk []
 have s51 := Stab.v 3 0 hd hk []
 clear hd
 replace y0 := cL hh.ext y0
 replace y1 := cL hh.ext y1
 replace y2 := cL hh.ext y2
 go_simp
 exact Stab.k Z)
 apply Stab.tq 5 _ hf hok
 · (
 intro fr1 w1 hh hd hk K Z
 have s49 := Stab.v 1 3 hd hk []
 have s52 := Stab.v 4 0 hd hk []
 clear hd
 go_simp
 exact Stab.k Z)
 refine Stab.mN 6 5 0 hf hok [] ?_
 apply Stab.tr 7 _ hf hok
 · (
 intro fr1 w1 hh hd hk K Z
 have s54 := Stab.v 6 0 hd hk []
 refine Stab.sk s54 ?_
 exact Stab.k Z)
 apply Stab.tr 8 _ hf hok
 · (
 intro fr1 w1 hh hd hk K Z
 have s54 := Stab.v 6 1 hd hk []
 refine Stab.sk s54 ?_
 exact Stab.k Z)
 apply Stab.tq 9 _ hf hok
 · (
 intro fr1 w1 hh hd hk K Z
 have s54 := Stab.v 6 2 hd hk []
 have s56 := Stab.v 8 0 hd hk []
 clear hd
 go_simp
 exact Stab.k Z)
 refine Stab.tf hf hok fun fr1 w1 hh hg => ?_
 replace s1 := Stab.O hh s1
 replace s2 := Stab.O hh s2
 replace s6 := Stab.O hh s6
 replace s7 := Stab.O hh s7
 replace s8 := Stab.O hh s8
 replace s9 := Stab.O hh s9
 replace s10 := Stab.O hh s10
 replace s11 := Stab.O hh s11
 have s57 := Stab.f 9 0 hg
 have hf1 := hh.fr hf
 have hx := hh.ext
 replace y0 := cL hx y0
 replace y1 := cL hx y1
 replace y2 := cL hx y2
 clear hg hh hf hok
 have hf := hf1; clear hf1
 refine nx (hK18 _ _ ?_)
 have hsn := scan_ne HJ.out HSC.out hbe
 have HSN := Lib.hid hsn; clear hsn
 have hb13 := hb5.trans (hx.mono hb5.size)
 refine Fact.cond_f s57 ?_
 clear q3
 refine wp_skip ?_
 refine Fact.block_normal ?_
 refine nx (hK16 _ _ ?_)
 refine rg ?_
 have b37 := hf.b 37
 have b38 := hf.b 38
 refine fp fun K Z => ?_
 go_simp
 apply Z.out; clear Z K
 refine fp fun K Z => ?_
 go_simp
 try simp (disch := omega) only [Fact.W]
 apply Z.out; clear Z K
 refine fp fun K Z => ?_
 go_simp
 apply Z.out; clear Z K
 refine Fact.z hf fun fr1 hf1 hT => ?_
 have hKp : _ ∧ _ ∧ _ ∧ _ ∧ _ ∧ _ ∧ _ := ⟨hT 1, hT 2, hT 6, hT 7, hT 8, hT 9, hT 10⟩
 simp (decide := true) only [Fact.G, hf.size, reduceIte, s1, s2, s6, s7, s8, s9] at hKp
 replace hf := hf1; clear hT hf1 s1 s2 s6 s7 s8 s9 s10 s11 s57 b37 b38
 obtain ⟨s1, s2, s6, s7, s8, s9, s10⟩ := hKp
 refine Fact.then_normal ?_
 exact ⟨_, by have := HK2.out; omega, j + 1, _, _, rfl, by omega, hf, s1, s2, s6, s7, s8, s9, by rw [s10]; rfl, HSN.out, hbq.trans (hb13.mono hbq.size)⟩)
 · (
 have q3 : (((a.byte : Nat) : Int) == ((at_ s i : Nat) : Int)) = true := by simp; omega
 have q4 : decide (to < 0) = true := decide_eq_true hto
 refine Fact.sq fun K19 hK19 => ?_
 refine Stab.tb 89 fun hok => ?_
 apply Stab.tq 0 _ hf hok
 · (
 intro fr1 w1 hh hd hk K Z
 have s11 := Stab.O hh s11
 clear hd
 go_simp
 exact Stab.k Z)
 apply Stab.tq 1 _ hf hok
 · (
 intro fr1 w1 hh hd hk K Z
 have s48 := Stab.v 0 0 hd hk []
 clear hd
 replace y0 := cL hh.ext y0
 replace y1 := cL hh.ext y1
 replace y2 := cL hh.ext y2
 go_simp
 exact Stab.k Z)
 refine Stab.mO 2 s1 hf hok ?_
 refine Stab.mO 3 s8 hf hok ?_
 apply Stab.tq 4 _ hf hok
 · (
 intro fr1 w1 hh hd hk K Z
 have s50 := Stab.v 2 1 hd hk []
 have s51 := Stab.v 3 0 hd hk []
 clear hd
 replace y0 := cL hh.ext y0
 replace y1 := cL hh.ext y1
 replace y2 := cL hh.ext y2
 go_simp
 exact Stab.k Z)
 apply Stab.tq 5 _ hf hok
 · (
 intro fr1 w1 hh hd hk K Z
 have s49 := Stab.v 1 3 hd hk []
 have s52 := Stab.v 4 0 hd hk []
 clear hd
 go_simp
 exact Stab.k Z)
 refine Stab.mN 6 5 0 hf hok [] ?_
 apply Stab.tr 7 _ hf hok
 · (
 intro fr1 w1 hh hd hk K Z
 have s54 := Stab.v 6 0 hd hk []
 refine Stab.g s54 ?_
 have s9 := Stab.O hh s9
 clear hd
 go_simp
 exact Stab.k Z)
 apply Stab.tr 8 _ hf hok
 · (
 intro fr1 w1 hh hd hk K Z
 have s54 := Stab.v 6 1 hd hk []
 refine Stab.g s54 ?_
 have s55 := Stab.v 7 0 hd hk []
 clear hd
 go_simp
 exact Stab.k Z)
 apply Stab.tq 9 _ hf hok
 · (
 intro fr1 w1 hh hd hk K Z
 have s54 := Stab.v 6 2 hd hk []
 have s56 := Stab.v 8 0 hd hk []
 clear hd
 go_simp
 exact Stab.k Z)
 refine Stab.tf hf hok fun fr1 w1 hh hg => ?_
 replace s1 := Stab.O hh s1
 replace s2 := Stab.O hh s2
 replace s6 := Stab.O hh s6
 replace s7 := Stab.O hh s7
 replace s8 := Stab.O hh s8
 replace s9 := Stab.O hh s9
 replace s10 := Stab.O hh s10
 replace s11 := Stab.O hh s11
 have s57 := Stab.f 9 0 hg
 have hf1 := hh.fr hf
 have hx := hh.ext
 replace y0 := cL hx y0
 replace y1 := cL hx y1
 replace y2 := cL hx y2
 clear hg hh hf hok
 have hf := hf1; clear hf1
 refine nx (hK19 _ _ ?_)
 have hsn := scan_first HJ.out HSC.out hbe hto (fun a ha => (HCL.out st (List.mem_of_getElem? HST.out) a ha).1)
 have HSN := Lib.hid hsn; clear hsn
 have hb13 := hb5.trans (hx.mono hb5.size)
 refine Fact.cond_t s57 ?_
 clear q3 q4
 refine Fact.sq fun K20 hK20 => ?_
 refine rg ?_
 have b58 := hf.b 58
 have b59 := hf.b 59
 iterate 3 (refine fp fun K Z => ?_; go_simp; apply Z.out; clear Z K)
 refine Fact.z hf fun fr1 hf1 hT => ?_
 have hKp : _ ∧ _ ∧ _ ∧ _ ∧ _ ∧ _ ∧ _ ∧ _ := ⟨hT 1, hT 2, hT 6, hT 7, hT 8, hT 9, hT 10, hT 11⟩
 simp (decide := true) only [Fact.G, hf.size, reduceIte, s1, s2, s6, s7, s8, s10, s11] at hKp
 replace hf := hf1; clear hT hf1 s1 s2 s6 s7 s8 s9 s10 s11 s57 b58 b59
 obtain ⟨s1, s2, s6, s7, s8, s9, s10, s11⟩ := hKp
 refine nx (hK20 _ _ ?_)
 refine rg ?_
 have b60 := hf.b 60
 have b61 := hf.b 61
 have b62 := hf.b 62
 have b63 := hf.b 63
 iterate 3 (refine fp fun K Z => ?_; go_simp; apply Z.out; clear Z K)
 refine fp fun K Z => ?_
 go_simp
 try simp (disch := omega) only [Fact.W]
 rw [wrap_sum]
 apply Z.out; clear Z K
 refine fp fun K Z => ?_
 go_simp
 apply Z.out; clear Z K
 refine Fact.z hf fun fr1 hf1 hT => ?_
 have hKp : _ ∧ _ ∧ _ ∧ _ ∧ _ ∧ _ ∧ _ := ⟨hT 1, hT 2, hT 6, hT 7, hT 8, hT 9, hT 10⟩
 simp (decide := true) only [Fact.G, hf.size, reduceIte, s1, s2, s6, s8, s9, s10] at hKp
 replace hf := hf1; clear hT hf1 s1 s2 s6 s7 s8 s9 s10 s11 b60 b61 b62 b63
 obtain ⟨s1, s2, s6, s7, s8, s9, s10⟩ := hKp
 refine Fact.block_normal ?_
 refine nx (hK16 _ _ ?_)
 refine rg ?_
 have b37 := hf.b 37
 have b38 := hf.b 38
 refine fp fun K Z => ?_
 go_simp
 apply Z.out; clear Z K
 refine fp fun K Z => ?_
 go_simp
 try simp (disch := omega) only [Fact.W]
 apply Z.out; clear Z K
 refine fp fun K Z => ?_
 go_simp
 apply Z.out; clear Z K
 refine Fact.z hf fun fr1 hf1 hT => ?_
 have hKp : _ ∧ _ ∧ _ ∧ _ ∧ _ ∧ _ ∧ _ := ⟨hT 1, hT 2, hT 6, hT 7, hT 8, hT 9, hT 10⟩
 simp (decide := true) only [Fact.G, hf.size, reduceIte, s1, s2, s6, s7, s8, s9] at hKp
 replace hf := hf1; clear hT hf1 s1 s2 s6 s7 s8 s9 s10 b37 b38
 obtain ⟨s1, s2, s6, s7, s8, s9, s10⟩ := hKp
 refine Fact.then_normal ?_
 exact ⟨_, by have := HK2.out; omega, j + 1, _, _, rfl, by omega, hf, s1, s2, s6, s7, s8, s9, by rw [s10]; rfl, HSN.out, hbq.trans (hb13.mono hbq.size)⟩)
 · (
 have q3 : (((a.byte : Nat) : Int) == ((at_ s i : Nat) : Int)) = true := by simp; omega
 have q4 : decide (to < 0) = false := decide_eq_false hto
 refine Fact.sq fun K21 hK21 => ?_
 refine Stab.tb 89 fun hok => ?_
 apply Stab.tq 0 _ hf hok
 · (
 intro fr1 w1 hh hd hk K Z
 have s11 := Stab.O hh s11
 clear hd
 go_simp
 exact Stab.k Z)
 apply Stab.tq 1 _ hf hok
 · (
 intro fr1 w1 hh hd hk K Z
 have s48 := Stab.v 0 0 hd hk []
 clear hd
 replace y0 := cL hh.ext y0
 replace y1 := cL hh.ext y1
 replace y2 := cL hh.ext y2
 go_simp
 exact Stab.k Z)
 refine Stab.mO 2 s1 hf hok ?_
 refine Stab.mO 3 s8 hf hok ?_
 apply Stab.tq 4 _ hf hok
 · (
 intro fr1 w1 hh hd hk K Z
 have s50 := Stab.v 2 1 hd hk []
 have s51 := Stab.v 3 0 hd hk []
 clear hd
 replace y0 := cL hh.ext y0
 replace y1 := cL hh.ext y1
 replace y2 := cL hh.ext y2
 go_simp
 exact Stab.k Z)
 apply Stab.tq 5 _ hf hok
 · (
 intro fr1 w1 hh hd hk K Z
 have s49 := Stab.v 1 3 hd hk []
 have s52 := Stab.v 4 0 hd hk []
 clear hd
 go_simp
 exact Stab.k Z)
 refine Stab.mN 6 5 0 hf hok [] ?_
 apply Stab.tr 7 _ hf hok
 · (
 intro fr1 w1 hh hd hk K Z
 have s54 := Stab.v 6 0 hd hk []
 refine Stab.g s54 ?_
 have s9 := Stab.O hh s9
 clear hd
 go_simp
 exact Stab.k Z)
 apply Stab.tr 8 _ hf hok
 · (
 intro fr1 w1 hh hd hk K Z
 have s54 := Stab.v 6 1 hd hk []
 refine Stab.g s54 ?_
 have s55 := Stab.v 7 0 hd hk []
 clear hd
 go_simp
 exact Stab.k Z)
 apply Stab.tq 9 _ hf hok
 · (
 intro fr1 w1 hh hd hk K Z
 have s54 := Stab.v 6 2 hd hk []
 have s56 := Stab.v 8 0 hd hk []
 clear hd
 go_simp
 exact Stab.k Z)
 refine Stab.tf hf hok fun fr1 w1 hh hg => ?_
 replace s1 := Stab.O hh s1
 replace s2 := Stab.O hh s2
 replace s6 := Stab.O hh s6
 replace s7 := Stab.O hh s7
 replace s8 := Stab.O hh s8
 replace s9 := Stab.O hh s9
 replace s10 := Stab.O hh s10
 replace s11 := Stab.O hh s11
 have s57 := Stab.f 9 0 hg
 have hf1 := hh.fr hf
 have hx := hh.ext
 replace y0 := cL hx y0
 replace y1 := cL hx y1
 replace y2 := cL hx y2
 clear hg hh hf hok
 have hf := hf1; clear hf1
 refine nx (hK21 _ _ ?_)
 have hsn := scan_old HJ.out HSC.out hto
 have HSN := Lib.hid hsn; clear hsn
 have hb13 := hb5.trans (hx.mono hb5.size)
 refine Fact.cond_f s57 ?_
 clear q3 q4
 refine wp_skip ?_
 refine Fact.block_normal ?_
 refine nx (hK16 _ _ ?_)
 refine rg ?_
 have b37 := hf.b 37
 have b38 := hf.b 38
 refine fp fun K Z => ?_
 go_simp
 apply Z.out; clear Z K
 refine fp fun K Z => ?_
 go_simp
 try simp (disch := omega) only [Fact.W]
 apply Z.out; clear Z K
 refine fp fun K Z => ?_
 go_simp
 apply Z.out; clear Z K
 refine Fact.z hf fun fr1 hf1 hT => ?_
 have hKp : _ ∧ _ ∧ _ ∧ _ ∧ _ ∧ _ ∧ _ := ⟨hT 1, hT 2, hT 6, hT 7, hT 8, hT 9, hT 10⟩
 simp (decide := true) only [Fact.G, hf.size, reduceIte, s1, s2, s6, s7, s8, s9] at hKp
 replace hf := hf1; clear hT hf1 s1 s2 s6 s7 s8 s9 s10 s11 s57 b37 b38
 obtain ⟨s1, s2, s6, s7, s8, s9, s10⟩ := hKp
 refine Fact.then_normal ?_
 exact ⟨_, by have := HK2.out; omega, j + 1, _, _, rfl, by omega, hf, s1, s2, s6, s7, s8, s9, by rw [s10]; rfl, HSN.out, hbq.trans (hb13.mono hbq.size)⟩))
 · (
 have hje : j = st.arcs.length := by have h9 := of_decide_eq_false hq; omega
 have hsc := HSC.out
 rw [hje, List.take_length] at hsc
 have HS2 := Lib.hid hsc; clear hje hq hsc
 rcases scan_end HS2.out with ⟨hfa, hto, hn2⟩ | ⟨a0, hfa, hto, hn2⟩
 · (
 have hv3 := HV2.out
 simp only [hfa] at hv3
 have HV3 := Lib.hid hv3; have HFA := Lib.hid hfa; clear hv3 hfa
 have q1 : decide (to < 0) = true := decide_eq_true (by omega)
 clear hto hn2
 refine wp_exit ?_
 refine Fact.then_exit ?_
 refine Fact.then_exit ?_
 refine Fact.block_exit ?_
 refine nx (hK12 _ _ ?_)
 refine Fact.sq fun K22 hK22 => ?_
 refine Fact.sq fun K23 hK23 => ?_
 refine rg ?_
 have b64 := hf.b 64
 have b65 := hf.b 65
 have b66 := hf.b 66
 have b67 := hf.b 67
 have b68 := hf.b 68
 have b69 := hf.b 69
 have b70 := hf.b 70
 have b71 := hf.b 71
 iterate 3 (refine fp fun K Z => ?_; go_simp; apply Z.out; clear Z K)
 refine sk 2 66 false ?_ ?_
 · (
 simp (decide := true) only [Fact.G, reduceIte, hf.size, q1, Fact.N])
 refine sk 2 66 false ?_ ?_
 · (
 simp (decide := true) only [Fact.G, reduceIte, hf.size, q1, Fact.N])
 refine sk 2 66 false ?_ ?_
 · (
 simp (decide := true) only [Fact.G, reduceIte, hf.size, q1, Fact.N])
 refine sk 2 66 false ?_ ?_
 · (
 simp (decide := true) only [Fact.G, reduceIte, hf.size, q1, Fact.N])
 refine sk 2 66 false ?_ ?_
 · (
 simp (decide := true) only [Fact.G, reduceIte, hf.size, q1, Fact.N])
 refine fp fun K Z => ?_
 go_simp
 apply Z.out; clear Z K
 refine Fact.z hf fun fr1 hf1 hT => ?_
 have hKp : _ ∧ _ ∧ _ ∧ _ ∧ _ ∧ _ := ⟨hT 1, hT 2, hT 7, hT 8, hT 9, hT 72⟩
 simp (decide := true) only [Fact.G, hf.size, reduceIte, s1, s2, s7, s8, s9] at hKp
 replace hf := hf1; clear hT hf1 s1 s2 s6 s7 s8 s9 s10 s36 b64 b65 b66 b67 b68 b69 b70 b71
 obtain ⟨s1, s2, s7, s8, s9, s72⟩ := hKp
 refine nx (hK23 _ _ ?_)
 refine Fact.cond_t s72 ?_
 refine Fact.sq fun K24 hK24 => ?_
 refine rg ?_
 iterate 2 (refine fp fun K Z => ?_; go_simp; apply Z.out; clear Z K)
 refine Fact.z hf fun fr1 hf1 hT => ?_
 have hKp : _ ∧ _ := ⟨hT 4, hT 5⟩
 simp (decide := true) only [Fact.G, hf.size, reduceIte] at hKp
 replace hf := hf1; clear hT hf1 s1 s2 s7 s8 s9 s72
 obtain ⟨s4, s5⟩ := hKp
 refine nx (hK24 _ _ ?_)
 refine wp_ret ?_
 refine Fact.then_ret ?_
 refine Fact.block_ret ?_
 refine Fact.then_ret ?_
 refine Fact.then_ret ?_
 refine Fact.block_ret ?_
 refine Fact.then_ret ?_
 exact Fact.ret2 rfl hf s4 s5 ⟨by rw [HV3.out]; rfl, hb0.trans ((hb.trans (hbq.mono hb.size)).mono hb0.size)⟩)
 · (
 have hv3 := HV2.out
 simp only [hfa] at hv3
 have HV3 := Lib.hid hv3; have HFA := Lib.hid hfa; clear hv3 hfa
 have hcl2 := HCL.out st (List.mem_of_getElem? HST.out) a0 (List.mem_of_find?_eq_some HFA.out)
 subst hto
 have q1 : decide (a0.to < 0) = false := decide_eq_false (by omega)
 have q2 : decide (((ss.length : Nat) : Int) ≤ a0.to) = false := decide_eq_false (by omega)
 have HN2 := Lib.hid hn2; clear hn2
 refine wp_exit ?_
 refine Fact.then_exit ?_
 refine Fact.then_exit ?_
 refine Fact.block_exit ?_
 refine nx (hK12 _ _ ?_)
 refine Fact.sq fun K25 hK25 => ?_
 refine Fact.sq fun K26 hK26 => ?_
 refine rg ?_
 have b64 := hf.b 64
 have b65 := hf.b 65
 have b66 := hf.b 66
 have b67 := hf.b 67
 have b68 := hf.b 68
 have b69 := hf.b 69
 have b70 := hf.b 70
 have b71 := hf.b 71
 iterate 3 (refine fp fun K Z => ?_; go_simp; apply Z.out; clear Z K)
 refine og 2 66 false ?_ fun K Z => ?_
 · (
 simp (decide := true) only [Fact.G, reduceIte, hf.size, q1, q2, Fact.N])
 go_simp
 apply Z.out; clear Z K
 refine og 2 66 false ?_ fun K Z => ?_
 · (
 simp (decide := true) only [Fact.G, reduceIte, hf.size, q1, q2, Fact.N])
 go_simp
 apply Z.out; clear Z K
 refine og 2 66 false ?_ fun K Z => ?_
 · (
 simp (decide := true) only [Fact.G, reduceIte, hf.size, q1, q2, Fact.N])
 go_simp
 apply Z.out; clear Z K
 refine og 2 66 false ?_ fun K Z => ?_
 · (
 simp (decide := true) only [Fact.G, reduceIte, hf.size, q1, q2, Fact.N])
 go_simp
 apply Z.out; clear Z K
 refine og 2 66 false ?_ fun K Z => ?_
 · (
 simp (decide := true) only [Fact.G, reduceIte, hf.size, q1, q2, Fact.N])
 go_simp
 apply Z.out; clear Z K
 refine fp fun K Z => ?_
 go_simp
 apply Z.out; clear Z K
 refine Fact.z hf fun fr1 hf1 hT => ?_
 have hKp : _ ∧ _ ∧ _ ∧ _ ∧ _ ∧ _ := ⟨hT 1, hT 2, hT 7, hT 8, hT 9, hT 72⟩
 simp (decide := true) only [Fact.G, hf.size, reduceIte, s1, s2, s7, s8, s9] at hKp
 replace hf := hf1; clear hT hf1 s1 s2 s6 s7 s8 s9 s10 s36 b64 b65 b66 b67 b68 b69 b70 b71
 obtain ⟨s1, s2, s7, s8, s9, s72⟩ := hKp
 refine nx (hK26 _ _ ?_)
 refine Fact.cond_f s72 ?_
 refine wp_skip ?_
 refine nx (hK25 _ _ ?_)
 refine rg ?_
 have b73 := hf.b 73
 iterate 2 (refine fp fun K Z => ?_; go_simp; apply Z.out; clear Z K)
 refine Fact.z hf fun fr1 hf1 hT => ?_
 have hKp : _ ∧ _ ∧ _ ∧ _ ∧ _ := ⟨hT 1, hT 2, hT 6, hT 7, hT 8⟩
 simp (decide := true) only [Fact.G, hf.size, reduceIte, s1, s2, s7, s8] at hKp
 replace hf := hf1; clear hT hf1 s1 s2 s7 s8 s9 s72 b73
 obtain ⟨s1, s2, s6, s7, s8⟩ := hKp
 refine Fact.block_normal ?_
 refine nx (hK10 _ _ ?_)
 refine rg ?_
 have b26 := hf.b 26
 have b27 := hf.b 27
 refine fp fun K Z => ?_
 go_simp
 apply Z.out; clear Z K
 refine fp fun K Z => ?_
 go_simp
 try simp (disch := omega) only [Fact.W]
 apply Z.out; clear Z K
 refine fp fun K Z => ?_
 go_simp
 apply Z.out; clear Z K
 refine Fact.z hf fun fr1 hf1 hT => ?_
 have hKp : _ ∧ _ ∧ _ ∧ _ ∧ _ := ⟨hT 1, hT 2, hT 6, hT 7, hT 8⟩
 simp (decide := true) only [Fact.G, hf.size, reduceIte, s1, s2, s6, s7] at hKp
 replace hf := hf1; clear hT hf1 s1 s2 s6 s7 s8 b26 b27
 obtain ⟨s1, s2, s6, s7, s8⟩ := hKp
 refine Fact.then_normal ?_
 exact ⟨_, by have := HK.out; omega, i + 1, a0.to.toNat, acc + a0.out, n2, rfl, by omega, hf, s1, s2, by rw [s6]; congr 2; omega, s7, by rw [s8]; rfl, by rw [HN2.out, HN0.out]; unfold M64; omega, by omega, by rw [HV3.out, Option.map_map]; congr 1; funext x; simp [Nat.add_assoc], hb.trans (hbq.mono hb.size)⟩))))
 · (
 have hie : i = s.size := by have h9 := of_decide_eq_false hq; omega
 have hv2 : valW ss (ss.length - 1) (wl s) = (if st.final then some st.out else none).map (acc + ·) := by rw [HV.out, List.drop_eq_nil_of_le (by rw [wl_length]; omega)]; simp only [valW, HST.out]
 have HV2 := Lib.hid hv2; clear hv2 hie hq
 refine wp_exit ?_
 refine Fact.then_exit ?_
 refine Fact.then_exit ?_
 refine Fact.block_exit ?_
 refine nx (hK6 _ _ ?_)
 refine Fact.sq fun K27 hK27 => ?_
 refine Fact.sq fun K28 hK28 => ?_
 refine rg ?_
 have b74 := hf.b 74
 have b75 := hf.b 75
 have b76 := hf.b 76
 have b77 := hf.b 77
 have b78 := hf.b 78
 have b79 := hf.b 79
 iterate 3 (refine fp fun K Z => ?_; go_simp; apply Z.out; clear Z K)
 refine fp fun K Z => ?_
 go_simp
 try rw [if_pos (by omega)]
 apply Z.out; clear Z K
 iterate 3 (refine fp fun K Z => ?_; go_simp; apply Z.out; clear Z K)
 refine Fact.z hf fun fr1 hf1 hT => ?_
 have hKp : _ ∧ _ ∧ _ ∧ _ := ⟨hT 2, hT 6, hT 7, hT 80⟩
 simp (decide := true) only [Fact.G, hf.size, reduceIte, s2, s6, s7] at hKp
 replace hf := hf1; clear hT hf1 s1 s2 s6 s7 s8 s25 b74 b75 b76 b77 b78 b79
 obtain ⟨s2, s6, s7, s80⟩ := hKp
 refine nx (hK28 _ _ ?_)
 refine Fact.cond_s s80 (fun hq => ?_) (fun hq => ?_)
 · (
 have hfin : st.final = false := by simpa using hq
 have hbz := hb0.trans (hb.mono hb0.size)
 have hv3 := HV2.out
 rw [hfin] at hv3
 have HV3 := Lib.hid hv3; clear hv3 hq
 refine Fact.sq fun K29 hK29 => ?_
 refine rg ?_
 iterate 2 (refine fp fun K Z => ?_; go_simp; apply Z.out; clear Z K)
 refine Fact.z hf fun fr1 hf1 hT => ?_
 have hKp : _ ∧ _ := ⟨hT 4, hT 5⟩
 simp (decide := true) only [Fact.G, hf.size, reduceIte] at hKp
 replace hf := hf1; clear hT hf1 s2 s6 s7 s80
 obtain ⟨s4, s5⟩ := hKp
 refine nx (hK29 _ _ ?_)
 refine wp_ret ?_
 refine Fact.then_ret ?_
 exact Fact.ret2 rfl hf s4 s5 ⟨by rw [HV3.out]; rfl, hbz⟩)
 · (
 have hfin : st.final = true := by simpa using hq
 have hbz := hb0.trans (hb.mono hb0.size)
 have hv3 := HV2.out
 rw [hfin] at hv3
 have HV3 := Lib.hid hv3; clear hv3 hq
 refine wp_skip ?_
 refine nx (hK27 _ _ ?_)
 refine Fact.sq fun K30 hK30 => ?_
 refine rg ?_
 have b81 := hf.b 81
 have b82 := hf.b 82
 have b83 := hf.b 83
 have b84 := hf.b 84
 have b85 := hf.b 85
 have b86 := hf.b 86
 have b87 := hf.b 87
 have b88 := hf.b 88
 iterate 4 (refine fp fun K Z => ?_; go_simp; apply Z.out; clear Z K)
 refine fp fun K Z => ?_
 go_simp
 try rw [if_pos (by omega)]
 apply Z.out; clear Z K
 iterate 2 (refine fp fun K Z => ?_; go_simp; apply Z.out; clear Z K)
 refine fp fun K Z => ?_
 go_simp
 try simp (disch := omega) only [Fact.W]
 rw [wrap_sum]
 apply Z.out; clear Z K
 iterate 2 (refine fp fun K Z => ?_; go_simp; apply Z.out; clear Z K)
 refine Fact.z hf fun fr1 hf1 hT => ?_
 have hKp : _ ∧ _ := ⟨hT 4, hT 5⟩
 simp (decide := true) only [Fact.G, hf.size, reduceIte] at hKp
 replace hf := hf1; clear hT hf1 s2 s6 s7 s80 b81 b82 b83 b84 b85 b86 b87 b88
 obtain ⟨s4, s5⟩ := hKp
 refine nx (hK30 _ _ ?_)
 refine wp_ret ?_
 exact Fact.ret2 rfl hf s4 s5 ⟨by rw [HV3.out]; exact congrArg (fun z : Nat => Ending.returned (.tuple #[.int .u64 (z : Int), .bool true])) (show (n0 + st.out) % M64 = (init + (acc + st.out)) % M64 by rw [HN0.out]; unfold M64; omega), hbz⟩)))
end Dw
end Go.Proofs.YtdkbgbdgmihlmaaGreatDoor
