/- Dawg: ordered. -/
import Derived.Test.YtgjfhedgdbbinaaDoorDFormed
import Derived.Test.YtgjfhedgdbbinaaDoorTools
namespace Go.Proofs.YtgjfhedgdbbinaaDoor
open Go.RowKit
set_option linter.unusedSimpArgs false
set_option linter.unusedVariables false
set_option linter.unnecessarySimpa false
namespace Dw

def wcs (l : List (Nat × Nat)) : List Value := l.flatMap fun x => [.int .i64 (x.1 : Int), .int .i64 (x.2 : Int)]
theorem wcs_length (l : List (Nat × Nat)) : (wcs l).length = l.length * 2 := by
  induction l with
  | nil => rfl
  | cons x l ih => simp only [wcs, List.flatMap_cons, List.length_append, List.length_cons] at ih ⊢; rw [ih]; simp; omega
theorem wcs_append (a b : List (Nat × Nat)) : wcs (a ++ b) = wcs a ++ wcs b := by simp [wcs]
/-- the way in memory; told with the last one first -/
structure OW (w : World) (base : Nat) (v : Value) (l : List (Nat × Nat)) : Prop where
  own : w.ownsRow base 106 2 v l.length (wcs l.reverse)
section
variable {w w' : World} {base n b c s k : Nat} {v : Value} {l R : List (Nat × Nat)}
theorem OW.one (w : World) (s : Nat) : OW (w.alloc (.cells #[.int .i64 (s : Int), .int .i64 0] 106)) w.heap.size (.slice (some ⟨w.heap.size, 0, none⟩) 1 1) [(s, 0)] :=
  ⟨World.ownsRow_lit w #[.int .i64 (s : Int), .int .i64 0] 1 (Nat.le_refl _) (by unfold maxLen; omega) rfl⟩
theorem OW.later (h : OW w base v l) (hb : Below w.heap.size w w') : OW w' base v l := ⟨own_later h.own hb⟩
theorem OW.form (h : OW w base v l) : ∃ A c, v = .slice A l.length c ∧ l.length ≤ c := row_form h.own
theorem OW.top {A : Option Addr} (h : OW w base (.slice A n c) ((s, k) :: R)) : ∃ b, A = some ⟨b, 0, none⟩ ∧ base ≤ b ∧ w.cell? ⟨b, R.length * 2, none⟩ = some (.int .i64 (s : Int)) ∧ w.cell? ⟨b, R.length * 2 + 1, none⟩ = some (.int .i64 (k : Int)) := by
  have h1 := h.own
  rcases h1.2 with ⟨_, h0⟩ | ⟨b, cap, cur, hv, hb, _⟩
  · simp at h0
  · injection hv with hv hn hc
    subst hv; subst hn; subst hc
    refine ⟨b, rfl, hb, ?_, ?_⟩
    · rw [h1.cellAt _ (by simp only [List.length_cons]; omega), List.reverse_cons, wcs_append, List.getElem?_append_right (by rw [wcs_length]; simp), wcs_length, List.length_reverse, Nat.sub_self]
      rfl
    · rw [h1.cellAt _ (by simp only [List.length_cons]; omega), List.reverse_cons, wcs_append, List.getElem?_append_right (by rw [wcs_length]; simp), wcs_length, List.length_reverse, show R.length * 2 + 1 - R.length * 2 = 1 by omega]
      rfl
theorem OW.frozen (h : OW w base (.slice (some ⟨b, 0, none⟩) (R.length + 1) c) ((s, k) :: R)) (i : Nat) : w.frozen? ⟨b, i, none⟩ = false := h.own.frozenAt i
theorem OW.bump (h : OW w base (.slice (some ⟨b, 0, none⟩) (R.length + 1) c) ((s, k) :: R)) : OW (w.setCell ⟨b, R.length * 2 + 1, none⟩ (.int .i64 ((k : Int) + 1))) base (.slice (some ⟨b, 0, none⟩) (R.length + 1) c) ((s, k + 1) :: R) := by
  have h1 := (World.ownsRow.stored h.own (R.length * 2 + 1) (.int .i64 ((k : Int) + 1))).1
  refine ⟨?_⟩
  have e : wcs ((s, k + 1) :: R).reverse = (wcs ((s, k) :: R).reverse).set (R.length * 2 + 1) (.int .i64 ((k : Int) + 1)) := by
    rw [List.reverse_cons, List.reverse_cons, wcs_append, wcs_append, List.set_append_right _ _ (by rw [wcs_length]; simp), wcs_length, List.length_reverse, show R.length * 2 + 1 - R.length * 2 = 1 by omega]
    rfl
  rw [e]
  exact h1
theorem OW.lat (h : OW w base v l) (o : Obj) : (w.alloc o).ownsRow base 106 2 v l.length (wcs l.reverse) := h.own.alloc o
theorem OW.push {w5 : World} {v5 : Value} {t : Nat} (h : w5.ownsRow base 106 2 v5 (l.length + 1) (wcs l.reverse ++ [.int .i64 (t : Int), .int .i64 0])) : OW w5 base v5 ((t, 0) :: l) := by
  refine ⟨?_⟩
  rw [List.reverse_cons, wcs_append, List.length_cons]
  exact h
theorem OW.cut (h : OW w base (.slice (some ⟨b, 0, none⟩) (R.length + 1) c) ((s, k) :: R)) : OW w base (.slice (some ⟨b, 0, none⟩) R.length c) R := by
  have h1 := own_take (n := R.length) h.own
  refine ⟨?_⟩
  rw [List.reverse_cons, wcs_append, List.take_append_of_le_length (by rw [wcs_length, List.length_reverse]; exact Nat.le_refl _), List.take_of_length_le (by rw [wcs_length, List.length_reverse]; exact Nat.le_refl _)] at h1
  exact h1
end
theorem beq_nat (a b : Nat) : ((a : Int) == (b : Int)) = decide (a = b) := by
  by_cases h : a = b
  · subst h; simp
  · rw [decide_eq_false h]
    exact beq_false_of_ne (by omega)
def okWay (n : Nat) : List (Nat × Nat) → Prop
  | [] => True
  | (s, _) :: R => s + R.length + 1 ≤ n ∧ okWay n R
theorem okWay_len {n : Nat} {l : List (Nat × Nat)} (h : okWay n l) : l.length ≤ n := by
  cases l with
  | nil => simp
  | cons x R => obtain ⟨s, k⟩ := x; have := h.1; simp only [List.length_cons]; omega
def phi (n left len : Nat) : Nat := (n - left) * (n + 2) + (n + 1 - len)
theorem phi_push (n left len : Nat) (h : len ≤ n) : phi n left (len + 1) < phi n left len := by unfold phi; omega
theorem phi_pop (n left len : Nat) (h : left < n) (hl : len + 1 ≤ n + 1) : phi n (left + 1) len < phi n left (len + 1) := by
  unfold phi
  obtain ⟨d, hd⟩ : ∃ d, n - left = d + 1 := ⟨n - left - 1, by omega⟩
  rw [show n - (left + 1) = d by omega, hd, Nat.succ_mul]
  omega
theorem info106 : (Tryd.prog.info? 106).map (fun i => (i.zero, i.size, i.bytes)) = some (some (.agg #[.int .i64 0, .int .i64 0]), 2, 16) := by kernel_rfl
set_option maxHeartbeats 4000000 in
set_option maxRecDepth 100000 in
theorem ordered33 (w : World) (sv : Value) (init : Nat) (ss : List State) (hrs : RS w sv ss) (hok : ∀ s ∈ ss, okS s) (hlen : ss.length ≤ 1000000) (h0 : 0 < ss.length) (hA : Ahead ss) : Calls Tryd.prog 33 #[.agg #[sv, .int .u64 init]] w fun e w1 => e = .returned (.bool (orderedF ss)) ∧ Below w.heap.size w w1 := by
 refine calls_of_wp Tryd.func33 rfl ?_
 refine Fact.en 79 fun fr hf hT => ?_
 have s0 := hT 0 _ rfl
 clear hT
 obtain ⟨A, cc, rfl, hcc⟩ := hrs.form
 have hn1 : ((ss.length : Int) - 1) = ((ss.length - 1 : Nat) : Int) := by omega
 refine Fact.sq fun K1 hK1 => ?_
 refine rg ?_
 refine fp fun K Z => ?_
 go_simp
 apply Z.out; clear Z K
 refine fp fun K Z => ?_
 go_simp
 apply Z.out; clear Z K
 refine Fact.z hf fun fr1 hf1 hT => ?_
 have hKp : _ ∧ _ := ⟨hT 1, hT 2⟩
 simp (decide := true) only [Fact.G, hf.size, reduceIte] at hKp
 replace hf := hf1; clear hT hf1 s0
 obtain ⟨s1, s2⟩ := hKp
 obtain ⟨W0, hW0⟩ : ∃ W0, w.alloc (.cells #[.slice A ss.length cc, .int .u64 init] 33) = W0 := ⟨_, rfl⟩
 try rw [hW0]
 obtain ⟨hb0, c0, c1, -, hz0_⟩ := box2 hW0
 clear hW0
 have hz0 : w.heap.size < W0.heap.size := by rw [hz0_]; exact Nat.lt_succ_self _
 clear hz0_
 have hr0 := hrs.later hb0
 clear hrs
 refine nx (hK1 _ _ ?_)
 refine wp_scope_straight ?_
 refine Fact.sq fun K2 hK2 => ?_
 refine rg ?_
 refine fp fun K Z => ?_
 go_simp
 apply Z.out; clear Z K
 refine Fact.z hf fun fr1 hf1 hT => ?_
 have hKp : _ ∧ _ ∧ _ := ⟨hT 1, hT 2, hT 3⟩
 simp (decide := true) only [Fact.G, hf.size, reduceIte, s1, s2] at hKp
 replace hf := hf1; clear hT hf1 s1 s2
 obtain ⟨s1, s2, s3⟩ := hKp
 refine nx (hK2 _ _ ?_)
 refine Fact.sq fun K3 hK3 => ?_
 refine rg ?_
 have b8 := hf.b 8
 have b9 := hf.b 9
 have b10 := hf.b 10
 have b11 := hf.b 11
 have b12 := hf.b 12
 have b13 := hf.b 13
 refine fp fun K Z => ?_
 go_simp
 apply Z.out; clear Z K
 refine fp fun K Z => ?_
 go_simp
 apply Z.out; clear Z K
 refine fp fun K Z => ?_
 go_simp
 apply Z.out; clear Z K
 refine fp fun K Z => ?_
 go_simp
 try simp (disch := omega) only [Fact.W]
 try rw [hn1]
 apply Z.out; clear Z K
 refine fp fun K Z => ?_
 go_simp
 apply Z.out; clear Z K
 refine fp fun K Z => ?_
 go_simp
 apply Z.out; clear Z K
 refine fp fun K Z => ?_
 go_simp
 apply Z.out; clear Z K
 refine Fact.z hf fun fr1 hf1 hT => ?_
 have hKp : _ ∧ _ ∧ _ ∧ _ := ⟨hT 1, hT 2, hT 3, hT 4⟩
 simp (decide := true) only [Fact.G, hf.size, reduceIte, s1, s2, s3] at hKp
 replace hf := hf1; clear hT hf1 s1 s2 s3 b8 b9 b10 b11 b12 b13
 obtain ⟨s1, s2, s3, s4⟩ := hKp
 obtain ⟨W1, hW1⟩ : ∃ W1, W0.alloc (.cells #[.int .i64 ((ss.length - 1 : Nat) : Int), .int .i64 0] 106) = W1 := ⟨_, rfl⟩
 try rw [hW1]
 have hOW := OW.one W0 (ss.length - 1); rw [hW1] at hOW
 have hb1 : Below W0.heap.size W0 W1 := by rw [← hW1]; exact (Below.refl _ _).alloc (Nat.le_refl _) _
 clear hW1 hn1
 refine nx (hK3 _ _ ?_)
 refine Fact.sq fun K4 hK4 => ?_
 refine wp_label ?_
 refine nx (hK4 _ _ ?_)
 refine Fact.sq fun K5 hK5 => ?_
 refine wp_block ?_
 have HO := Lib.hid hok; clear hok
 refine wp_loop_ghost (fun gk fr wr => ∃ (left : Nat) (V : Value) (Wy : List (Nat × Nat)), gk = phi ss.length left Wy.length ∧ Fact.Fr 79 fr ∧ fr.tmps[1]? = some (.pointer (some ⟨w.heap.size, 0, none⟩)) ∧ fr.tmps[3]? = some (.int .i64 left) ∧ fr.tmps[4]? = some V ∧ OW wr W0.heap.size V Wy ∧ contW ss Wy left = orderedF ss ∧ okWay ss.length Wy ∧ left ≤ ss.length ∧ Below W0.heap.size W0 wr) (phi ss.length 0 1) ?_ ?_
 · (
 exact ⟨0, _, [(ss.length - 1, 0)], rfl, hf, s1, s3, s4, hOW, rfl, ⟨by simp; omega, trivial⟩, Nat.zero_le _, hb1⟩)
 · (
 clear hf s1 s2 s3 s4
 rintro gk fr wr ⟨left, V, Wy, hk, hf, s1, s3, s4, how, hct, hwy, hlf, hb⟩
 have HK := Lib.hid hk; have HC := Lib.hid hct; clear hk hct
 obtain ⟨AV, cv, rfl, hcv⟩ := how.form
 have hwl := okWay_len hwy
 refine Fact.sq fun K6 hK6 => ?_
 refine Fact.sq fun K7 hK7 => ?_
 refine rg ?_
 have b14 := hf.b 14
 have b15 := hf.b 15
 refine fp fun K Z => ?_
 go_simp
 apply Z.out; clear Z K
 refine fp fun K Z => ?_
 go_simp
 apply Z.out; clear Z K
 refine fp fun K Z => ?_
 go_simp
 apply Z.out; clear Z K
 refine Fact.z hf fun fr1 hf1 hT => ?_
 have hKp : _ ∧ _ ∧ _ ∧ _ := ⟨hT 1, hT 3, hT 4, hT 16⟩
 simp (decide := true) only [Fact.G, hf.size, reduceIte, s1, s3, s4] at hKp
 replace hf := hf1; clear hT hf1 s1 s3 s4 b14 b15
 obtain ⟨s1, s3, s4, s16⟩ := hKp
 refine nx (hK7 _ _ ?_)
 refine Fact.cond_s s16 (fun hq => ?_) (fun hq => ?_)
 · (
 obtain ⟨⟨s, k⟩, R, rfl⟩ := List.exists_cons_of_ne_nil (show Wy ≠ [] by rintro rfl; simp at hq)
 have HQ := Lib.hid hq; clear hq
 obtain ⟨b, rfl, hbB, d0, d1⟩ := how.top
 have hs1 := hwy.1
 simp only [List.length_cons] at *
 obtain ⟨st, hst⟩ : ∃ st, ss[s]? = some st := ⟨_, List.getElem?_eq_getElem (by omega)⟩
 have hsa : arcsOf ss s = st.arcs := by simp [arcsOf, hst]
 obtain ⟨b2, off2, av, he2, hat0⟩ := hr0.at_ hst
 subst he2
 have hrA := hat0.arcs
 have d5 := old_cell hb hat0.c0 (cell_lt0 hat0.c0)
 obtain ⟨A2, c2, rfl, hc2⟩ := hrA.form
 have hos := HO.out st (List.mem_of_getElem? hst)
 have hal := hos.2.1
 have HSA := Lib.hid hsa; have HST := Lib.hid hst; clear hsa hst hat0 hos
 have e0 := old_cell hb c0 hz0
 have hssl := hlen
 refine wp_skip ?_
 refine nx (hK6 _ _ ?_)
 refine wp_block ?_
 refine Fact.sq fun K8 hK8 => ?_
 refine rg ?_
 have b17 := hf.b 17
 have b18 := hf.b 18
 have b19 := hf.b 19
 have b20 := hf.b 20
 have b21 := hf.b 21
 refine fp fun K Z => ?_
 go_simp
 apply Z.out; clear Z K
 refine fp fun K Z => ?_
 go_simp
 apply Z.out; clear Z K
 refine fp fun K Z => ?_
 go_simp
 apply Z.out; clear Z K
 refine fp fun K Z => ?_
 go_simp
 try simp (disch := omega) only [Fact.W]
 try rw [show ((R.length : Int) + 1 - 1) = (R.length : Int) by omega]
 apply Z.out; clear Z K
 refine fp fun K Z => ?_
 go_simp
 try rw [if_pos (by omega)]
 apply Z.out; clear Z K
 refine fp fun K Z => ?_
 go_simp
 apply Z.out; clear Z K
 refine Fact.z hf fun fr1 hf1 hT => ?_
 have hKp : _ ∧ _ ∧ _ ∧ _ := ⟨hT 1, hT 3, hT 4, hT 5⟩
 simp (decide := true) only [Fact.G, hf.size, reduceIte, s1, s3, s4] at hKp
 replace hf := hf1; clear hT hf1 s1 s3 s4 s16 b17 b18 b19 b20 b21
 obtain ⟨s1, s3, s4, s5⟩ := hKp
 refine nx (hK8 _ _ ?_)
 refine Fact.sq fun K9 hK9 => ?_
 refine Stab.tb 79 fun hok => ?_
 apply Stab.tq 0 _ hf hok
 · (
 intro fr1 w1 hh hd hk K Z
 have s1 := Stab.O hh s1
 clear hd
 go_simp
 exact Stab.k Z)
 apply Stab.tq 1 _ hf hok
 · (
 intro fr1 w1 hh hd hk K Z
 have s22 := Stab.v 0 0 hd hk []
 clear hd
 replace e0 := cL hh.ext e0
 replace d0 := cL hh.ext d0
 replace d5 := cL hh.ext d5
 go_simp
 exact Stab.k Z)
 refine Stab.mO 2 s5 hf hok ?_
 apply Stab.tq 3 _ hf hok
 · (
 intro fr1 w1 hh hd hk K Z
 have s24 := Stab.v 2 0 hd hk []
 clear hd
 go_simp
 exact Stab.k Z)
 apply Stab.tq 4 _ hf hok
 · (
 intro fr1 w1 hh hd hk K Z
 have s25 := Stab.v 3 0 hd hk []
 clear hd
 go_simp
 exact Stab.k Z)
 apply Stab.tq 5 _ hf hok
 · (
 intro fr1 w1 hh hd hk K Z
 have s26 := Stab.v 4 0 hd hk []
 clear hd
 replace e0 := cL hh.ext e0
 replace d0 := cL hh.ext d0
 replace d5 := cL hh.ext d5
 go_simp
 exact Stab.k Z)
 apply Stab.tq 6 _ hf hok
 · (
 intro fr1 w1 hh hd hk K Z
 have s23 := Stab.v 1 4 hd hk []
 have s27 := Stab.v 5 0 hd hk []
 clear hd
 go_simp
 try rw [if_pos (by omega)]
 exact Stab.k Z)
 apply Stab.tq 7 _ hf hok
 · (
 intro fr1 w1 hh hd hk K Z
 have s28 := Stab.v 6 0 hd hk []
 clear hd
 go_simp
 exact Stab.k Z)
 apply Stab.tq 8 _ hf hok
 · (
 intro fr1 w1 hh hd hk K Z
 have s29 := Stab.v 7 0 hd hk []
 clear hd
 replace e0 := cL hh.ext e0
 replace d0 := cL hh.ext d0
 replace d5 := cL hh.ext d5
 go_simp
 exact Stab.k Z)
 refine Stab.mN 9 8 0 hf hok [] ?_
 refine Stab.tf hf hok fun fr1 w1 hh hg => ?_
 replace s1 := Stab.O hh s1
 replace s3 := Stab.O hh s3
 replace s4 := Stab.O hh s4
 replace s5 := Stab.O hh s5
 have s6 := Stab.f 9 0 hg
 have hf1 := hh.fr hf
 have hx := hh.ext
 replace e0 := cL hx e0
 replace d0 := cL hx d0
 replace d5 := cL hx d5
 clear hg hh hf hok
 have hf := hf1; clear hf1
 refine nx (hK9 _ _ ?_)
 have how1 := how.later hx
 have hbx := hb.trans (hx.mono hb.size)
 clear e0 d0 d5 d1
 refine Fact.sq fun K10 hK10 => ?_
 refine wp_block ?_
 refine wp_loop_ghost (fun gk2 fr wr2 => ∃ (k2 : Nat), gk2 = st.arcs.length - k2 ∧ Fact.Fr 79 fr ∧ fr.tmps[1]? = some (.pointer (some ⟨w.heap.size, 0, none⟩)) ∧ fr.tmps[3]? = some (.int .i64 left) ∧ fr.tmps[4]? = some (.slice (some ⟨b, 0, none⟩) (R.length + 1) cv) ∧ fr.tmps[5]? = some (.pointer (some ⟨b, R.length * 2, none⟩)) ∧ fr.tmps[6]? = some (.slice A2 st.arcs.length c2) ∧ OW wr2 W0.heap.size (.slice (some ⟨b, 0, none⟩) (R.length + 1) cv) ((s, k2) :: R) ∧ contW ss ((s, k2) :: R) left = orderedF ss ∧ Below W0.heap.size W0 wr2) (st.arcs.length - k) ?_ ?_
 · (
 exact ⟨k, rfl, hf, s1, s3, s4, s5, s6, how1, HC.out, hbx⟩)
 · (
 clear hf s1 s3 s4 s5 s6
 rintro gk2 fr wr2 ⟨k2, hk2, hf, s1, s3, s4, s5, s6, how2, hct2, hb2⟩
 have HK2 := Lib.hid hk2; have HC2 := Lib.hid hct2; clear hk2 hct2
 obtain ⟨b9, he9, _, f0, f1⟩ := how2.top
 injection he9 with he9
 injection he9 with he9
 subst he9
 refine Fact.sq fun K11 hK11 => ?_
 refine Fact.sq fun K12 hK12 => ?_
 refine rg ?_
 have b31 := hf.b 31
 have b32 := hf.b 32
 have b33 := hf.b 33
 have b34 := hf.b 34
 have b35 := hf.b 35
 have b36 := hf.b 36
 refine fp fun K Z => ?_
 go_simp
 apply Z.out; clear Z K
 refine fp fun K Z => ?_
 go_simp
 apply Z.out; clear Z K
 refine fp fun K Z => ?_
 go_simp
 apply Z.out; clear Z K
 refine fp fun K Z => ?_
 go_simp
 apply Z.out; clear Z K
 refine fp fun K Z => ?_
 go_simp
 apply Z.out; clear Z K
 refine fp fun K Z => ?_
 go_simp
 apply Z.out; clear Z K
 refine fp fun K Z => ?_
 go_simp
 apply Z.out; clear Z K
 refine Fact.z hf fun fr1 hf1 hT => ?_
 have hKp : _ ∧ _ ∧ _ ∧ _ ∧ _ ∧ _ := ⟨hT 1, hT 3, hT 4, hT 5, hT 6, hT 37⟩
 simp (decide := true) only [Fact.G, hf.size, reduceIte, s1, s3, s4, s5, s6] at hKp
 replace hf := hf1; clear hT hf1 s1 s3 s4 s5 s6 b31 b32 b33 b34 b35 b36
 obtain ⟨s1, s3, s4, s5, s6, s37⟩ := hKp
 refine nx (hK12 _ _ ?_)
 refine Fact.cond_s s37 (fun hq2 => ?_) (fun hq2 => ?_)
 · (
 have hklt : k2 < st.arcs.length := by have h9 := of_decide_eq_true hq2; omega
 have HQ2 := Lib.hid hq2; clear hq2
 obtain ⟨a, hka⟩ : ∃ a, st.arcs[k2]? = some a := ⟨_, List.getElem?_eq_getElem hklt⟩
 obtain ⟨b3, off3, rfl, hbl, _, _, y2⟩ := hrA.at' hka
 have z2 := old_cell hb2 y2 (cell_lt0 y2)
 have hka2 : (arcsOf ss s)[k2]? = some a := by rw [HSA.out]; exact hka
 have haa := hA s a (List.mem_of_getElem? hka2)
 obtain ⟨t, ht⟩ : ∃ t : Nat, a.to = (t : Int) := ⟨a.to.toNat, by omega⟩
 have htt : a.to.toNat = t := by omega
 have hts : t < s := by omega
 have HT := Lib.hid ht; have HTT := Lib.hid htt; have HKA := Lib.hid hka2
 rw [ht] at z2
 clear hka hka2 ht htt haa y2
 have fz := how2.frozen (R.length * 2 + 1)
 have hst2 := how2.bump
 refine wp_skip ?_
 refine nx (hK11 _ _ ?_)
 refine wp_block ?_
 refine Fact.sq fun K13 hK13 => ?_
 refine rg ?_
 have b38 := hf.b 38
 have b39 := hf.b 39
 have b40 := hf.b 40
 have b41 := hf.b 41
 have b42 := hf.b 42
 have b43 := hf.b 43
 have b44 := hf.b 44
 have b45 := hf.b 45
 refine fp fun K Z => ?_
 go_simp
 apply Z.out; clear Z K
 refine fp fun K Z => ?_
 go_simp
 apply Z.out; clear Z K
 refine fp fun K Z => ?_
 go_simp
 apply Z.out; clear Z K
 refine fp fun K Z => ?_
 go_simp
 apply Z.out; clear Z K
 refine fp fun K Z => ?_
 go_simp
 apply Z.out; clear Z K
 refine fp fun K Z => ?_
 go_simp
 try rw [if_pos (by omega)]
 apply Z.out; clear Z K
 refine fp fun K Z => ?_
 go_simp
 apply Z.out; clear Z K
 refine fp fun K Z => ?_
 go_simp
 apply Z.out; clear Z K
 refine fp fun K Z => ?_
 go_simp
 apply Z.out; clear Z K
 refine Fact.z hf fun fr1 hf1 hT => ?_
 have hKp : _ ∧ _ ∧ _ ∧ _ ∧ _ ∧ _ := ⟨hT 1, hT 3, hT 4, hT 5, hT 6, hT 7⟩
 simp (decide := true) only [Fact.G, hf.size, reduceIte, s1, s3, s4, s5, s6] at hKp
 replace hf := hf1; clear hT hf1 s1 s3 s4 s5 s6 s37 b38 b39 b40 b41 b42 b43 b44 b45
 obtain ⟨s1, s3, s4, s5, s6, s7⟩ := hKp
 refine nx (hK13 _ _ ?_)
 refine Fact.sq fun K14 hK14 => ?_
 refine rg ?_
 have b46 := hf.b 46
 have b47 := hf.b 47
 have b48 := hf.b 48
 have b49 := hf.b 49
 have b50 := hf.b 50
 have b51 := hf.b 51
 have b52 := hf.b 52
 refine fp fun K Z => ?_
 go_simp
 apply Z.out; clear Z K
 refine fp fun K Z => ?_
 go_simp
 apply Z.out; clear Z K
 refine fp fun K Z => ?_
 go_simp
 apply Z.out; clear Z K
 refine fp fun K Z => ?_
 go_simp
 apply Z.out; clear Z K
 refine fp fun K Z => ?_
 go_simp
 try simp (disch := omega) only [Fact.W]
 apply Z.out; clear Z K
 refine fp fun K Z => ?_
 go_simp
 apply Z.out; clear Z K
 refine fp fun K Z => ?_
 go_simp
 apply Z.out; clear Z K
 refine fp fun K Z => ?_
 go_simp
 apply Z.out; clear Z K
 refine Fact.z hf fun fr1 hf1 hT => ?_
 have hKp : _ ∧ _ ∧ _ ∧ _ ∧ _ ∧ _ := ⟨hT 1, hT 3, hT 4, hT 5, hT 6, hT 7⟩
 simp (decide := true) only [Fact.G, reduceIte, s1, s3, s4, s5, s6, s7] at hKp
 replace hf := hf1; clear hT hf1 s1 s3 s4 s5 s6 s7 b46 b47 b48 b49 b50 b51 b52
 obtain ⟨s1, s3, s4, s5, s6, s7⟩ := hKp
 refine nx (hK14 _ _ ?_)
 refine Fact.sq fun K15 hK15 => ?_
 refine rg ?_
 have b53 := hf.b 53
 have b54 := hf.b 54
 refine fp fun K Z => ?_
 go_simp
 apply Z.out; clear Z K
 refine fp fun K Z => ?_
 go_simp
 apply Z.out; clear Z K
 refine fp fun K Z => ?_
 go_simp
 apply Z.out; clear Z K
 refine Fact.z hf fun fr1 hf1 hT => ?_
 have hKp : _ ∧ _ ∧ _ ∧ _ ∧ _ ∧ _ ∧ _ := ⟨hT 1, hT 3, hT 4, hT 5, hT 6, hT 7, hT 55⟩
 simp (decide := true) only [Fact.G, hf.size, reduceIte, s1, s3, s4, s5, s6, s7] at hKp
 replace hf := hf1; clear hT hf1 s1 s3 s4 s5 s6 s7 b53 b54
 obtain ⟨s1, s3, s4, s5, s6, s7, s55⟩ := hKp
 refine nx (hK15 _ _ ?_)
 have hb3 : Below W0.heap.size W0 (wr2.setCell ⟨b, R.length * 2 + 1, none⟩ (.int .i64 ((k2 : Int) + 1))) := hb2.setCell (p := ⟨b, R.length * 2 + 1, none⟩) hbB _
 obtain ⟨W3, hW3⟩ : ∃ W3, wr2.setCell ⟨b, R.length * 2 + 1, none⟩ (.int .i64 ((k2 : Int) + 1)) = W3 := ⟨_, rfl⟩
 rw [hW3] at hb3 hst2
 try rw [hW3]
 clear hW3 f0 f1 z2
 refine Fact.cond_s s55 (fun hq3 => ?_) (fun hq3 => ?_)
 · (
 have hge : (left : Int) ≤ a.to := by rw [HT.out]; have h9 := of_decide_eq_true hq3; omega
 have hcp := cont_push (rest := R) hA HKA.out hge
 rw [HTT.out] at hcp
 have HCP := Lib.hid hcp; clear hcp hge
 have HQ3 := Lib.hid hq3; clear hq3
 refine Fact.sq fun K16 hK16 => ?_
 refine rg ?_
 have b56 := hf.b 56
 have b57 := hf.b 57
 have b58 := hf.b 58
 have b59 := hf.b 59
 have b60 := hf.b 60
 refine fp fun K Z => ?_
 go_simp
 apply Z.out; clear Z K
 refine fp fun K Z => ?_
 go_simp
 apply Z.out; clear Z K
 refine fp fun K Z => ?_
 go_simp
 apply Z.out; clear Z K
 refine fp fun K Z => ?_
 go_simp
 apply Z.out; clear Z K
 refine Fact.reL (n := 79) (by simp only [Fact.G, hf.size]) hf.defers (fun fr1 hf1 hT => ?_)
 have hKp : _ ∧ _ ∧ _ ∧ _ ∧ _ := ⟨hT 1, hT 3, hT 4, hT 56, hT 59⟩
 simp (decide := true) only [Fact.G, hf.size, reduceIte, s1, s3, s4] at hKp
 replace hf := hf1; clear hT hf1 s1 s3 s4 s5 s6 s7 s55 b56 b57 b58 b59 b60
 obtain ⟨s1, s3, s4, s56, s59⟩ := hKp
 have b60 := hf.b 60
 refine ⟨?_⟩
 refine wpList_plain rfl fun K5 hK5 => ?_
 refine wp_app _ _ 107 rfl 106 _ 2 16 Tryd.underlying107 info106 rfl (by decide) (by decide) W0.heap.size (.slice (some ⟨b, 0, none⟩) (R.length + 1) cv) (R.length + 1) _ (Fact.eval_tmp s56) (OW.lat hst2 _) W3.heap.size [.int .i64 (t : Int), .int .i64 0] (Fact.eval_tmp s59) rfl (lit_new W3 _ _) (by intro u hu; simp at hu; rcases hu with rfl | rfl <;> rfl) (by omega) (by have := hb3.size; simp; omega) (fun v5 w5 hr5 hg5 hat5 => hK5 _ _ ?_)
 refine Fact.L.out ?_
 refine fp fun K Z => ?_
 go_simp
 apply Z.out; clear Z K
 refine Fact.z hf fun fr1 hf1 hT => ?_
 have hKp : _ ∧ _ ∧ _ := ⟨hT 1, hT 3, hT 4⟩
 simp (decide := true) only [Fact.G, hf.size, reduceIte, s1, s3] at hKp
 replace hf := hf1; clear hT hf1 s1 s3 s4 s56 s59 b60
 obtain ⟨s1, s3, s4⟩ := hKp
 have how5 := OW.push hr5
 have hb5 : Below W0.heap.size W0 w5 := (hb3.alloc hb3.size _).grown hg5 (by have := hb3.size; simp; omega) (fun kk hkk => by injection hkk with hkk; subst hkk; exact hbB)
 refine nx (hK16 _ _ ?_)
 refine wp_exit ?_
 refine Fact.block_other (by decide) ?_
 refine Fact.then_exit ?_
 refine Fact.block_other (by decide) ?_
 refine Fact.then_exit ?_
 refine Fact.block_exit ?_
 refine Fact.then_normal ?_
 exact ⟨_, by have := HK.out; rw [this]; exact phi_push _ _ _ (by omega), left, v5, (t, 0) :: (s, k2 + 1) :: R, rfl, hf, s1, s3, s4, how5, by rw [← HCP.out]; exact HC2.out, ⟨by simp only [List.length_cons]; omega, hwy⟩, hlf, hb5⟩)
 · (
 have hge : ¬ (left : Int) ≤ a.to := by rw [HT.out]; have h9 := of_decide_eq_false hq3; omega
 have hcn := cont_next (rest := R) HKA.out hge
 have HCN := Lib.hid hcn; clear hcn hge
 have HQ3 := Lib.hid hq3; clear hq3
 refine wp_skip ?_
 refine Fact.block_normal ?_
 refine Fact.then_normal ?_
 exact ⟨_, by have := HK2.out; omega, k2 + 1, rfl, hf, s1, s3, s4, s5, s6, hst2, by rw [← HCN.out]; exact HC2.out, hb3⟩))
 · (
 have hle : st.arcs.length ≤ k2 := by have h9 := of_decide_eq_false hq2; omega
 have hce := cont_end (left := left) (rest := R) (show (arcsOf ss s).length ≤ k2 by rw [HSA.out]; exact hle)
 have HCE := Lib.hid hce; clear hce hq2
 refine wp_exit ?_
 refine Fact.then_exit ?_
 refine Fact.then_exit ?_
 refine Fact.block_exit ?_
 refine nx (hK10 _ _ ?_)
 refine Fact.sq fun K17 hK17 => ?_
 refine Fact.sq fun K18 hK18 => ?_
 refine rg ?_
 have b61 := hf.b 61
 have b62 := hf.b 62
 have b63 := hf.b 63
 have b64 := hf.b 64
 have b65 := hf.b 65
 refine fp fun K Z => ?_
 go_simp
 apply Z.out; clear Z K
 refine fp fun K Z => ?_
 go_simp
 apply Z.out; clear Z K
 refine fp fun K Z => ?_
 go_simp
 apply Z.out; clear Z K
 refine fp fun K Z => ?_
 go_simp
 apply Z.out; clear Z K
 refine fp fun K Z => ?_
 go_simp
 apply Z.out; clear Z K
 refine fp fun K Z => ?_
 go_simp
 apply Z.out; clear Z K
 refine Fact.z hf fun fr1 hf1 hT => ?_
 have hKp : _ ∧ _ ∧ _ ∧ _ := ⟨hT 1, hT 3, hT 4, hT 66⟩
 simp (decide := true) only [Fact.G, hf.size, reduceIte, s1, s3, s4] at hKp
 replace hf := hf1; clear hT hf1 s1 s3 s4 s5 s6 s37 b61 b62 b63 b64 b65
 obtain ⟨s1, s3, s4, s66⟩ := hKp
 refine nx (hK18 _ _ ?_)
 refine Fact.cond_s s66 (fun hq3 => ?_) (fun hq3 => ?_)
 · (
 have hne : s ≠ left := by simp at hq3; omega
 have hfin : orderedF ss = false := by rw [← HC2.out, HCE.out, if_neg hne]
 have HFN := Lib.hid hfin; clear hfin hq3
 refine Fact.sq fun K19 hK19 => ?_
 refine rg ?_
 refine fp fun K Z => ?_
 go_simp
 apply Z.out; clear Z K
 refine Fact.z hf fun fr1 hf1 hT => ?_
 have hKp := hT 2
 simp (decide := true) only [Fact.G, hf.size, reduceIte] at hKp
 replace hf := hf1; clear hT hf1 s1 s3 s4 s66
 have s2 := hKp; clear hKp
 refine nx (hK19 _ _ ?_)
 refine wp_ret ?_
 refine Fact.then_ret ?_
 refine Fact.block_ret ?_
 refine Fact.then_ret ?_
 refine Fact.block_ret ?_
 refine Fact.then_ret ?_
 refine Fact.scope_r ?_
 exact Fact.ret1 rfl hf s2 ⟨by rw [HFN.out], hb0.trans (hb2.mono (Nat.le_of_lt hz0))⟩)
 · (
 have heq : s = left := by simp at hq3; omega
 have hcp : contW ss R (left + 1) = orderedF ss := by rw [← HC2.out, HCE.out, if_pos heq]
 have HCP := Lib.hid hcp; clear hcp hq3
 have HEQ := Lib.hid heq; clear heq
 clear f0 f1
 refine wp_skip ?_
 refine nx (hK17 _ _ ?_)
 refine Fact.sq fun K20 hK20 => ?_
 refine rg ?_
 have b67 := hf.b 67
 have b68 := hf.b 68
 refine fp fun K Z => ?_
 go_simp
 apply Z.out; clear Z K
 refine fp fun K Z => ?_
 go_simp
 try simp (disch := omega) only [Fact.W]
 apply Z.out; clear Z K
 refine fp fun K Z => ?_
 go_simp
 apply Z.out; clear Z K
 refine Fact.z hf fun fr1 hf1 hT => ?_
 have hKp : _ ∧ _ ∧ _ := ⟨hT 1, hT 3, hT 4⟩
 simp (decide := true) only [Fact.G, hf.size, reduceIte, s1, s4] at hKp
 replace hf := hf1; clear hT hf1 s1 s3 s4 s66 b67 b68
 obtain ⟨s1, s3, s4⟩ := hKp
 refine nx (hK20 _ _ ?_)
 refine rg ?_
 have b69 := hf.b 69
 have b70 := hf.b 70
 have b71 := hf.b 71
 have b72 := hf.b 72
 have b73 := hf.b 73
 refine fp fun K Z => ?_
 go_simp
 apply Z.out; clear Z K
 refine fp fun K Z => ?_
 go_simp
 apply Z.out; clear Z K
 refine fp fun K Z => ?_
 go_simp
 apply Z.out; clear Z K
 refine fp fun K Z => ?_
 go_simp
 try simp (disch := omega) only [Fact.W]
 try rw [show ((R.length : Int) + 1 - 1) = (R.length : Int) by omega]
 apply Z.out; clear Z K
 refine fp fun K Z => ?_
 go_simp
 try rw [if_pos (by omega)]
 apply Z.out; clear Z K
 refine fp fun K Z => ?_
 go_simp
 apply Z.out; clear Z K
 refine Fact.z hf fun fr1 hf1 hT => ?_
 have hKp : _ ∧ _ ∧ _ := ⟨hT 1, hT 3, hT 4⟩
 simp (decide := true) only [Fact.G, hf.size, reduceIte, s1, s3] at hKp
 replace hf := hf1; clear hT hf1 s1 s3 s4 b69 b70 b71 b72 b73
 obtain ⟨s1, s3, s4⟩ := hKp
 refine Fact.block_normal ?_
 refine Fact.then_normal ?_
 have hlv : left < ss.length := by have := HEQ.out; omega
 exact ⟨_, by have := HK.out; rw [this]; exact phi_pop _ _ _ hlv (by omega), left + 1, _, R, rfl, hf, s1, s3, s4, how2.cut, HCP.out, hwy.2, by omega, hb2⟩))))
 · (
 have hwe : Wy = [] := by have h9 := of_decide_eq_false hq; exact List.eq_nil_of_length_eq_zero (by omega)
 subst hwe
 have e0 := old_cell hb c0 hz0
 have hfin : orderedF ss = decide (left = ss.length) := HC.out.symm
 have HFN := Lib.hid hfin; clear hfin
 refine wp_exit ?_
 refine Fact.then_exit ?_
 refine Fact.then_exit ?_
 refine Fact.block_exit ?_
 refine nx (hK5 _ _ ?_)
 refine Fact.sq fun K21 hK21 => ?_
 refine rg ?_
 have b74 := hf.b 74
 have b75 := hf.b 75
 have b76 := hf.b 76
 have b77 := hf.b 77
 have b78 := hf.b 78
 refine fp fun K Z => ?_
 go_simp
 apply Z.out; clear Z K
 refine fp fun K Z => ?_
 go_simp
 apply Z.out; clear Z K
 refine fp fun K Z => ?_
 go_simp
 apply Z.out; clear Z K
 refine fp fun K Z => ?_
 go_simp
 apply Z.out; clear Z K
 refine fp fun K Z => ?_
 go_simp
 apply Z.out; clear Z K
 refine fp fun K Z => ?_
 go_simp
 apply Z.out; clear Z K
 refine Fact.z hf fun fr1 hf1 hT => ?_
 have hKp := hT 2
 simp (decide := true) only [Fact.G, hf.size, reduceIte] at hKp
 replace hf := hf1; clear hT hf1 s1 s3 s4 s16 b74 b75 b76 b77 b78
 have s2 := hKp; clear hKp
 refine nx (hK21 _ _ ?_)
 refine wp_ret ?_
 refine Fact.scope_r ?_
 exact Fact.ret1 rfl hf s2 ⟨by rw [HFN.out, ← beq_nat], hb0.trans (hb.mono (Nat.le_of_lt hz0))⟩))
end Dw
end Go.Proofs.YtgjfhedgdbbinaaDoor
