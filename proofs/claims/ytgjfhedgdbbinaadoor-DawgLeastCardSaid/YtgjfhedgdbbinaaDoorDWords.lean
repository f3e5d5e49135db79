/- words. -/
import Derived.Test.YtgjfhedgdbbinaaDoorDVWalk
import Derived.Test.YtgjfhedgdbbinaaDoorR5List
import Derived.Test.YtgjfhedgdbbinaaDoorTools
namespace Go.Proofs.YtgjfhedgdbbinaaDoor
open Go.RowKit
set_option linter.unusedSimpArgs false
set_option linter.unusedVariables false
set_option linter.unnecessarySimpa false
namespace Dw

def wpart (ss : List State) (m : Nat) (head : ByteArray) (n : Nat) (st : State) (j : Nat) : List Ent := match m with
  | 0 => finE st head n
  | m + 1 => finE st head n ++ arcE ss m head n (st.arcs.take j)
theorem wpart_zero (ss : List State) (m : Nat) (head : ByteArray) (n : Nat) (st : State) : wpart ss m head n st 0 = finE st head n := by
  unfold wpart
  cases m <;> simp [arcE]
theorem wpart_end {ss : List State} {m k j : Nat} {head : ByteArray} {n : Nat} {st : State} (h : ss[k]? = some st) (hj : m = 0 ∨ st.arcs.length ≤ j) : wpart ss m head n st j = wordsE ss m k head n := by
  cases m with
  | zero => exact (wordsE_at0 h head n).symm
  | succ m =>
    rw [wordsE_at h]
    unfold wpart
    simp only
    rw [List.take_of_length_le (by omega)]
theorem wpart_step {ss : List State} {m j : Nat} {head : ByteArray} {n : Nat} {st : State} {a : Arc} (h : st.arcs[j]? = some a) : wpart ss (m + 1) head n st (j + 1) = wpart ss (m + 1) head n st j ++ wordsE ss m a.to.toNat (head ++ strOfNums [(a.byte : Int)]) ((n + a.out) % M64) := by
  unfold wpart
  simp only
  rw [arcE_take ss m head n h, List.append_assoc]
theorem wpart_len {ss : List State} {m k j : Nat} {head : ByteArray} {n : Nat} {st : State} {a : Arc} (hk : ss[k]? = some st) (h : st.arcs[j]? = some a) : (wpart ss (m + 1) head n st j).length ≤ (wordsE ss (m + 1) k head n).length ∧ (wordsE ss m a.to.toNat (head ++ strOfNums [(a.byte : Int)]) ((n + a.out) % M64)).length ≤ (wordsE ss (m + 1) k head n).length := by
  rw [wordsE_at hk]
  unfold wpart
  simp only [List.length_append]
  have h1 := arcE_le ss m head n (al := st.arcs) (i := j)
  have h2 := arcE_mem ss m head n (List.mem_of_getElem? h)
  omega
theorem ecs_one (es : List Ent) : ∀ u ∈ ecs es, u.oneCell' = true := fun u hu => by
  obtain ⟨e, _, he⟩ := List.mem_flatMap.1 hu
  exact ent_one e u he
theorem re_news {w : World} {B : Nat} {A : Option Addr} {n c : Nat} {es : List Ent} (h : RE w B (.slice A n c) es) : 0 < es.length → ∃ b off, A = some ⟨b, off, none⟩ ∧ ∀ j u, (ecs es)[j]? = some u → w.cell? ⟨b, off + j, none⟩ = some u := by
  obtain ⟨A', c', h1, h2, h3⟩ := h
  injection h1 with h1
  intro h0
  obtain ⟨b, off, h4, _, h6⟩ := h3 h0
  exact ⟨b, off, h1.trans h4, h6⟩
def WordsOk (m : Nat) : Prop := ∀ (w : World) (sv : Value) (init : Nat) (ss : List State) (hrs : RS w sv ss) (hok : ∀ s ∈ ss, okS s) (hcl : ∀ s ∈ ss, ∀ a ∈ s.arcs, 0 ≤ a.to ∧ a.to < (ss.length : Int)) (hmax : ss.length ≤ 1000000) (k : Nat) (hk : k < ss.length) (head : ByteArray) (hhead : head.size + m ≤ 1000000) (n : Nat) (hn : n < M64) (hlen : (wordsE ss m k head n).length ≤ 1000000), Calls Tryd.prog 12 #[.agg #[sv, .int .u64 init], .int .i64 k, .string head, .int .u64 n, .int .i64 m] w fun e w1 => ∃ v, e = .returned v ∧ OE w1 w.heap.size v (wordsE ss m k head n) ∧ Below w.heap.size w w1
set_option maxHeartbeats 4000000 in
set_option maxRecDepth 100000 in
theorem words_step (w : World) (m : Nat) (ih : ∀ m1, m = m1 + 1 → WordsOk m1) (sv : Value) (init : Nat) (ss : List State) (hrs : RS w sv ss) (hok : ∀ s ∈ ss, okS s) (hcl : ∀ s ∈ ss, ∀ a ∈ s.arcs, 0 ≤ a.to ∧ a.to < (ss.length : Int)) (hmax : ss.length ≤ 1000000) (k : Nat) (hk : k < ss.length) (head : ByteArray) (hhead : head.size + m ≤ 1000000) (n : Nat) (hn : n < M64) (hlen : (wordsE ss m k head n).length ≤ 1000000) : Calls Tryd.prog 12 #[.agg #[sv, .int .u64 init], .int .i64 k, .string head, .int .u64 n, .int .i64 m] w fun e w1 => ∃ v, e = .returned v ∧ OE w1 w.heap.size v (wordsE ss m k head n) ∧ Below w.heap.size w w1 := by
 refine calls_of_wp Tryd.func12 rfl ?_
 refine Fact.en 72 fun fr hf hT => ?_
 have s0 := hT 0 _ rfl
 have s1 := hT 1 _ rfl
 have s2 := hT 2 _ rfl
 have s3 := hT 3 _ rfl
 have s4 := hT 4 _ rfl
 clear hT
 have hrs0 := hrs
 obtain ⟨A, cc, rfl, hcc⟩ := hrs.form
 clear hrs
 have HOK := Lib.hid hok; have HCL := Lib.hid hcl; have HIH := Lib.hid ih; clear hok hcl ih
 have hcv := conv1
 refine Fact.sq fun K1 hK1 => ?_
 refine rg ?_
 refine fp fun K Z => ?_
 go_simp
 apply Z.out; clear Z K
 refine fp fun K Z => ?_
 go_simp
 apply Z.out; clear Z K
 refine Fact.z hf fun fr1 hf1 hT => ?_
 have hKp : _ ∧ _ ∧ _ ∧ _ ∧ _ := ⟨hT 1, hT 2, hT 3, hT 4, hT 5⟩
 simp (decide := true) only [Fact.G, hf.size, reduceIte, s1, s2, s3, s4] at hKp
 replace hf := hf1; clear hT hf1 s0 s1 s2 s3 s4
 obtain ⟨s1, s2, s3, s4, s5⟩ := hKp
 obtain ⟨W0, hW0⟩ : ∃ W0, w.alloc (.cells #[.slice A ss.length cc, .int .u64 init] 33) = W0 := ⟨_, rfl⟩
 try rw [hW0]
 obtain ⟨hb0, x0, x1, -, hz0_⟩ := box2 hW0
 clear hW0
 have hz0 : w.heap.size < W0.heap.size := by rw [hz0_]; exact Nat.lt_succ_self _
 clear hz0_
 replace hrs0 := hrs0.later hb0
 obtain ⟨st, hst⟩ : ∃ st, ss[k]? = some st := ⟨_, List.getElem?_eq_getElem hk⟩
 obtain ⟨g, off, av, hAv, hat⟩ := hrs0.at_ hst
 have d0 := hat.c0; have d1 := hat.c1; have d2 := hat.c2
 have hra := hat.arcs
 obtain ⟨Aa, ca, rfl, hca⟩ := hra.form
 have hfew := (HOK.out st (List.mem_of_getElem? hst)).2.1
 have HST := Lib.hid hst; clear hst hat
 subst hAv
 refine nx (hK1 _ _ ?_)
 refine Fact.sq fun K2 hK2 => ?_
 refine rg ?_
 refine fp fun K Z => ?_
 go_simp
 apply Z.out; clear Z K
 refine Fact.z hf fun fr1 hf1 hT => ?_
 have hKp : _ ∧ _ ∧ _ ∧ _ ∧ _ ∧ _ := ⟨hT 1, hT 2, hT 3, hT 4, hT 5, hT 11⟩
 simp (decide := true) only [Fact.G, hf.size, reduceIte, s1, s2, s3, s4, s5] at hKp
 replace hf := hf1; clear hT hf1 s1 s2 s3 s4 s5
 obtain ⟨s1, s2, s3, s4, s5, s11⟩ := hKp
 refine nx (hK2 _ _ ?_)
 refine Fact.sq fun K3 hK3 => ?_
 refine rg ?_
 have b17 := hf.b 17
 have b18 := hf.b 18
 have b19 := hf.b 19
 have b20 := hf.b 20
 have b21 := hf.b 21
 have b12 := hf.b 12
 refine fp fun K Z => ?_
 go_simp
 apply Z.out; clear Z K
 refine fp fun K Z => ?_
 go_simp
 apply Z.out; clear Z K
 refine fp fun K Z => ?_
 go_simp
 apply Z.out; clear Z K
 refine fp fun K Z => ?_
 go_simp
 try rw [if_pos (by omega)]
 apply Z.out; clear Z K
 refine fp fun K Z => ?_
 go_simp
 apply Z.out; clear Z K
 refine fp fun K Z => ?_
 go_simp
 apply Z.out; clear Z K
 refine fp fun K Z => ?_
 go_simp
 apply Z.out; clear Z K
 refine Fact.z hf fun fr1 hf1 hT => ?_
 have hKp : _ ∧ _ ∧ _ ∧ _ ∧ _ ∧ _ := ⟨hT 2, hT 3, hT 4, hT 5, hT 11, hT 12⟩
 simp (decide := true) only [Fact.G, hf.size, reduceIte, s2, s3, s4, s5, s11] at hKp
 replace hf := hf1; clear hT hf1 s1 s2 s3 s4 s5 s11 b17 b18 b19 b20 b21 b12
 obtain ⟨s2, s3, s4, s5, s11, s12⟩ := hKp
 obtain ⟨W1, hW1⟩ : ∃ x, W0.alloc (.cells #[.slice Aa st.arcs.length ca, .bool st.final, .int .u64 st.out] 61) = x := ⟨_, rfl⟩
 try rw [hW1]
 obtain ⟨hb1, y0, y1, y2, -, hz1_⟩ := box3 hW1
 clear hW1
 have hz1 : W0.heap.size < W1.heap.size := by rw [hz1_]; exact Nat.lt_succ_self _
 clear hz1_
 replace hrs0 := hrs0.later hb1; replace hra := hra.later hb1; replace x0 := cL hb1 x0; replace x1 := cL hb1 x1
 have hbw := hb0.trans (hb1.mono hb0.size)
 clear d0 d1 d2 hb0 hb1
 refine nx (hK3 _ _ ?_)
 refine Fact.seq_meet (fun fr wq => Fact.Fr 72 fr ∧ fr.tmps[2]? = some (.string head) ∧ fr.tmps[3]? = some (.int .u64 n) ∧ fr.tmps[4]? = some (.int .i64 m) ∧ fr.tmps[5]? = some (.pointer (some ⟨w.heap.size, 0, none⟩)) ∧ fr.tmps[12]? = some (.pointer (some ⟨W0.heap.size, 0, none⟩)) ∧ ∃ (V : Value), fr.tmps[11]? = some V ∧ OE wq W1.heap.size V (finE st head n) ∧ Below W1.heap.size W1 wq) ?_ ?_
 · (
 refine Fact.sq fun K4 hK4 => ?_
 refine rg ?_
 have b22 := hf.b 22
 refine fp fun K Z => ?_
 go_simp
 apply Z.out; clear Z K
 refine fp fun K Z => ?_
 go_simp
 apply Z.out; clear Z K
 refine Fact.z hf fun fr1 hf1 hT => ?_
 have hKp : _ ∧ _ ∧ _ ∧ _ ∧ _ ∧ _ ∧ _ := ⟨hT 2, hT 3, hT 4, hT 5, hT 11, hT 12, hT 23⟩
 simp (decide := true) only [Fact.G, hf.size, reduceIte, s2, s3, s4, s5, s11, s12] at hKp
 replace hf := hf1; clear hT hf1 s2 s3 s4 s5 s11 s12 b22
 obtain ⟨s2, s3, s4, s5, s11, s12, s23⟩ := hKp
 refine nx (hK4 _ _ ?_)
 refine Fact.cond_s s23 (fun hq => ?_) (fun hq => ?_)
 · (
 have hfin : st.final = true := by simpa using hq
 have hfe : finE st head n = [ofE head ((n + st.out) % M64)] := by unfold finE; rw [hfin]; rfl
 have HFE := Lib.hid hfe; clear hfe hfin hq
 obtain ⟨v1, hv1⟩ : ∃ v1, (n + st.out) % M64 = v1 := ⟨_, rfl⟩
 have hvl : v1 < M64 := by rw [← hv1]; exact Nat.mod_lt _ (by unfold M64; omega)
 obtain ⟨Ee, hEe⟩ : ∃ x, ofE head v1 = x := ⟨_, rfl⟩
 have HV1 := Lib.hid hv1; have HEe := Lib.hid hEe; clear hv1 hEe
 refine Fact.sq fun K5 hK5 => ?_
 refine rg ?_
 have b25 := hf.b 25
 have b26 := hf.b 26
 have b27 := hf.b 27
 have b28 := hf.b 28
 have b29 := hf.b 29
 have b30 := hf.b 30
 have b24 := hf.b 24
 have b31 := hf.b 31
 have b32 := hf.b 32
 have b13 := hf.b 13
 refine fp fun K Z => ?_
 go_simp
 apply Z.out; clear Z K
 refine fp fun K Z => ?_
 go_simp
 apply Z.out; clear Z K
 refine fp fun K Z => ?_
 go_simp
 apply Z.out; clear Z K
 refine fp fun K Z => ?_
 go_simp
 apply Z.out; clear Z K
 refine fp fun K Z => ?_
 go_simp
 try simp (disch := omega) only [Fact.W]
 rw [wrap_sum, HV1.out]
 apply Z.out; clear Z K
 refine fp fun K Z => ?_
 go_simp
 go_at_call 36; refine (of36 W1 head v1 hvl).mono ?_; rintro e w5 ⟨rfl, hbo⟩
 rw [HEe.out]
 simp only [eval]
 try dsimp only
 apply Z.out; clear Z K
 refine fp fun K Z => ?_
 go_simp
 apply Z.out; clear Z K
 refine fp fun K Z => ?_
 go_simp
 apply Z.out; clear Z K
 refine fp fun K Z => ?_
 go_simp
 apply Z.out; clear Z K
 refine fp fun K Z => ?_
 go_simp
 apply Z.out; clear Z K
 refine fp fun K Z => ?_
 go_simp
 apply Z.out; clear Z K
 refine fp fun K Z => ?_
 go_simp
 apply Z.out; clear Z K
 refine Fact.z hf fun fr1 hf1 hT => ?_
 have hKp : _ ∧ _ ∧ _ ∧ _ ∧ _ ∧ _ ∧ _ := ⟨hT 2, hT 3, hT 4, hT 5, hT 11, hT 12, hT 13⟩
 simp (decide := true) only [Fact.G, hf.size, reduceIte, s2, s3, s4, s5, s11, s12] at hKp
 replace hf := hf1; clear hT hf1 s2 s3 s4 s5 s11 s12 s23 b25 b26 b27 b28 b29 b30 b24 b31 b32 b13
 obtain ⟨s2, s3, s4, s5, s11, s12, s13⟩ := hKp
 obtain ⟨W2, hW2⟩ : ∃ W0, w5.alloc (.cells #[.string Ee.word, .int .u32 Ee.weight, .bool Ee.gone] 42) = W0 := ⟨_, rfl⟩
 try rw [hW2]
 obtain ⟨hb2, e0, e1, e2, -, hz2_⟩ := box3 hW2
 clear hW2
 have hz2 : w5.heap.size < W2.heap.size := by rw [hz2_]; exact Nat.lt_succ_self _
 clear hz2_
 have hb12 := hbo.trans (hb2.mono hbo.size)
 clear hbo hb2
 refine nx (hK5 _ _ ?_)
 refine rg ?_
 have b33 := hf.b 33
 have b34 := hf.b 34
 have b35 := hf.b 35
 have b36 := hf.b 36
 refine fp fun K Z => ?_
 go_simp
 apply Z.out; clear Z K
 refine fp fun K Z => ?_
 go_simp
 apply Z.out; clear Z K
 refine fp fun K Z => ?_
 go_simp
 apply Z.out; clear Z K
 refine Fact.reL (n := 72) (by simp only [Fact.G, hf.size]) hf.defers (fun fr1 hf1 hT => ?_)
 have hKp : _ ∧ _ ∧ _ ∧ _ ∧ _ ∧ _ ∧ _ ∧ _ := ⟨hT 2, hT 3, hT 4, hT 5, hT 11, hT 12, hT 33, hT 35⟩
 simp (decide := true) only [Fact.G, hf.size, reduceIte, s2, s3, s4, s5, s11, s12] at hKp
 replace hf := hf1; clear hT hf1 s2 s3 s4 s5 s11 s12 s13 b33 b34 b35 b36
 obtain ⟨s2, s3, s4, s5, s11, s12, s33, s35⟩ := hKp
 have b36 := hf.b 36
 refine ⟨?_⟩
 refine wpList_plain rfl fun K5 hK5 => ?_
 refine wp_app _ _ 28 rfl 42 _ 3 24 Tryd.underlying28 info_ent rfl (by decide) (by decide) W1.heap.size (.slice none 0 0) 0 [] (Fact.eval_tmp s33) (World.ownsRow_nil _ _ _ _) W2.heap.size Ee.cells (Fact.eval_tmp s35) rfl (lit_new W2 _ _) (ent_one Ee) (by omega) (by have := hb12.size; simp; omega) (fun v5 w5 hr5 hg5 hat5 => hK5 _ _ ?_)
 refine Fact.L.out ?_
 refine fp fun K Z => ?_
 go_simp
 apply Z.out; clear Z K
 refine Fact.z hf fun fr1 hf1 hT => ?_
 have hKp : _ ∧ _ ∧ _ ∧ _ ∧ _ ∧ _ := ⟨hT 2, hT 3, hT 4, hT 5, hT 11, hT 12⟩
 simp (decide := true) only [Fact.G, hf.size, reduceIte, s2, s3, s4, s5, s12] at hKp
 replace hf := hf1; clear hT hf1 s2 s3 s4 s5 s11 s12 s33 s35 b36
 obtain ⟨s2, s3, s4, s5, s11, s12⟩ := hKp
 have hb5 := (hb12.alloc hb12.size _).grown hg5 (by have := hb12.size; simp; omega) (fun kk hkk => by cases hkk)
 have how5 : OE w5 W1.heap.size v5 (finE st head n) := by rw [HFE.out, HV1.out, HEe.out]; exact hr5
 refine Fact.then_normal ?_
 exact ⟨hf, s2, s3, s4, s5, s12, _, s11, how5, hb5⟩)
 · (
 have hfin : st.final = false := by simpa using hq
 have hfe : finE st head n = [] := by unfold finE; rw [hfin]; rfl
 have HFE := Lib.hid hfe; clear hfe hfin hq
 have hb5 := Below.refl W1.heap.size W1
 have how5 : OE W1 W1.heap.size (.slice none 0 0) (finE st head n) := by rw [HFE.out]; exact OE.nil_ _ _
 refine wp_skip ?_
 refine Fact.then_normal ?_
 exact ⟨hf, s2, s3, s4, s5, s12, _, s11, how5, hb5⟩))
 · (
 clear hf s2 s3 s4 s5 s11 s12
 rintro fr wq ⟨hf, s2, s3, s4, s5, s12, V, s11, how, hb5⟩
 clear y1 y2
 have y0q := cL hb5 y0
 refine Fact.sq fun K6 hK6 => ?_
 refine Fact.sq fun K7 hK7 => ?_
 refine rg ?_
 refine fp fun K Z => ?_
 go_simp
 apply Z.out; clear Z K
 refine Fact.z hf fun fr1 hf1 hT => ?_
 have hKp : _ ∧ _ ∧ _ ∧ _ ∧ _ ∧ _ ∧ _ := ⟨hT 2, hT 3, hT 4, hT 5, hT 11, hT 12, hT 15⟩
 simp (decide := true) only [Fact.G, hf.size, reduceIte, s2, s3, s4, s5, s11, s12] at hKp
 replace hf := hf1; clear hT hf1 s2 s3 s4 s5 s11 s12
 obtain ⟨s2, s3, s4, s5, s11, s12, s15⟩ := hKp
 refine nx (hK7 _ _ ?_)
 refine wp_block ?_
 refine wp_loop_ghost (fun gk fr wr => ∃ (j : Nat) (V : Value), gk = st.arcs.length - j ∧ j ≤ st.arcs.length ∧ Fact.Fr 72 fr ∧ fr.tmps[2]? = some (.string head) ∧ fr.tmps[3]? = some (.int .u64 n) ∧ fr.tmps[4]? = some (.int .i64 m) ∧ fr.tmps[5]? = some (.pointer (some ⟨w.heap.size, 0, none⟩)) ∧ fr.tmps[12]? = some (.pointer (some ⟨W0.heap.size, 0, none⟩)) ∧ fr.tmps[11]? = some V ∧ fr.tmps[15]? = some (.int .i64 j) ∧ OE wr W1.heap.size V (wpart ss m head n st j) ∧ Below W1.heap.size W1 wr) (st.arcs.length) ?_ ?_
 · (
 exact ⟨0, V, rfl, Nat.zero_le _, hf, s2, s3, s4, s5, s12, s11, s15, by rw [wpart_zero]; exact how, hb5⟩)
 · (
 clear hf s2 s3 s4 s5 s11 s12 s15
 clear how hb5 y0q
 rintro gk fr wr ⟨j, V, hgk, hj, hf, s2, s3, s4, s5, s12, s11, s15, how, hb⟩
 have HK := Lib.hid hgk; clear hgk
 have hrsr := hrs0.later hb; have hrar := hra.later hb; have x0r := cL hb x0; have x1r := cL hb x1; have y0r := cL hb y0
 rcases Nat.lt_or_ge j st.arcs.length with hlt | hge
 · (
 rcases Nat.eq_zero_or_pos m with hlm | hlm
 · (
 have q1 : decide (j < st.arcs.length) = true := decide_eq_true (by omega)
 have q2 : decide (0 < m) = false := decide_eq_false (by omega)
 have hwe : wpart ss m head n st j = wordsE ss m k head n := wpart_end HST.out (by omega)
 rw [hwe] at how
 clear hwe
 refine Fact.sq fun K8 hK8 => ?_
 refine Fact.sq fun K9 hK9 => ?_
 refine rg ?_
 have b37 := hf.b 37
 have b38 := hf.b 38
 have b39 := hf.b 39
 have b40 := hf.b 40
 have b41 := hf.b 41
 have b42 := hf.b 42
 have b43 := hf.b 43
 have b44 := hf.b 44
 refine fp fun K Z => ?_
 go_simp
 apply Z.out; clear Z K
 refine fp fun K Z => ?_
 go_simp
 apply Z.out; clear Z K
 refine fp fun K Z => ?_
 go_simp
 apply Z.out; clear Z K
 refine fp fun K Z => ?_
 go_simp
 apply Z.out; clear Z K
 refine fp fun K Z => ?_
 go_simp
 apply Z.out; clear Z K
 refine fp fun K Z => ?_
 go_simp
 apply Z.out; clear Z K
 refine og 5 42 true ?_ fun K Z => ?_
 · (
 simp (decide := true) only [Fact.G, reduceIte, hf.size, q1, q2, Fact.N])
 go_simp
 apply Z.out; clear Z K
 refine og 5 42 true ?_ fun K Z => ?_
 · (
 simp (decide := true) only [Fact.G, reduceIte, hf.size, q1, q2, Fact.N])
 go_simp
 apply Z.out; clear Z K
 refine fp fun K Z => ?_
 go_simp
 apply Z.out; clear Z K
 refine Fact.z hf fun fr1 hf1 hT => ?_
 have hKp : _ ∧ _ ∧ _ ∧ _ ∧ _ ∧ _ ∧ _ ∧ _ := ⟨hT 2, hT 3, hT 4, hT 5, hT 11, hT 12, hT 15, hT 45⟩
 simp (decide := true) only [Fact.G, hf.size, reduceIte, s2, s3, s4, s5, s11, s12, s15] at hKp
 replace hf := hf1; clear hT hf1 s2 s3 s4 s5 s11 s12 s15 b37 b38 b39 b40 b41 b42 b43 b44
 obtain ⟨s2, s3, s4, s5, s11, s12, s15, s45⟩ := hKp
 refine nx (hK9 _ _ ?_)
 refine Fact.cond_f s45 ?_
 refine wp_exit ?_
 refine Fact.then_exit ?_
 refine Fact.then_exit ?_
 refine Fact.block_exit ?_
 refine nx (hK6 _ _ ?_)
 refine Fact.sq fun K10 hK10 => ?_
 refine rg ?_
 have b71 := hf.b 71
 refine fp fun K Z => ?_
 go_simp
 apply Z.out; clear Z K
 refine fp fun K Z => ?_
 go_simp
 apply Z.out; clear Z K
 refine Fact.z hf fun fr1 hf1 hT => ?_
 have hKp := hT 10
 simp (decide := true) only [Fact.G, hf.size, reduceIte] at hKp
 replace hf := hf1; clear hT hf1 s2 s3 s4 s5 s11 s12 s15 s45 b71
 have s10 := hKp; clear hKp
 refine nx (hK10 _ _ ?_)
 refine wp_ret ?_
 exact Fact.ret1 rfl hf s10 ⟨_, rfl, own_less how hbw.size, hbw.trans (hb.mono hbw.size)⟩)
 · (
 obtain ⟨m1, rfl⟩ : ∃ m1, m = m1 + 1 := ⟨m - 1, by omega⟩
 have q1 : decide (j < st.arcs.length) = true := decide_eq_true hlt
 have q2 : decide (0 < m1 + 1) = true := decide_eq_true hlm
 refine Fact.sq fun K11 hK11 => ?_
 refine Fact.sq fun K12 hK12 => ?_
 refine rg ?_
 have b37 := hf.b 37
 have b38 := hf.b 38
 have b39 := hf.b 39
 have b40 := hf.b 40
 have b41 := hf.b 41
 have b42 := hf.b 42
 have b43 := hf.b 43
 have b44 := hf.b 44
 refine fp fun K Z => ?_
 go_simp
 apply Z.out; clear Z K
 refine fp fun K Z => ?_
 go_simp
 apply Z.out; clear Z K
 refine fp fun K Z => ?_
 go_simp
 apply Z.out; clear Z K
 refine fp fun K Z => ?_
 go_simp
 apply Z.out; clear Z K
 refine fp fun K Z => ?_
 go_simp
 apply Z.out; clear Z K
 refine fp fun K Z => ?_
 go_simp
 apply Z.out; clear Z K
 refine og 5 42 true ?_ fun K Z => ?_
 · (
 simp (decide := true) only [Fact.G, reduceIte, hf.size, q1, q2, Fact.N])
 go_simp
 apply Z.out; clear Z K
 refine og 5 42 true ?_ fun K Z => ?_
 · (
 simp (decide := true) only [Fact.G, reduceIte, hf.size, q1, q2, Fact.N])
 go_simp
 apply Z.out; clear Z K
 refine fp fun K Z => ?_
 go_simp
 apply Z.out; clear Z K
 refine Fact.z hf fun fr1 hf1 hT => ?_
 have hKp : _ ∧ _ ∧ _ ∧ _ ∧ _ ∧ _ ∧ _ ∧ _ := ⟨hT 2, hT 3, hT 4, hT 5, hT 11, hT 12, hT 15, hT 45⟩
 simp (decide := true) only [Fact.G, hf.size, reduceIte, s2, s3, s4, s5, s11, s12, s15] at hKp
 replace hf := hf1; clear hT hf1 s2 s3 s4 s5 s11 s12 s15 b37 b38 b39 b40 b41 b42 b43 b44
 obtain ⟨s2, s3, s4, s5, s11, s12, s15, s45⟩ := hKp
 refine nx (hK12 _ _ ?_)
 refine Fact.cond_t s45 ?_
 clear q1 q2
 obtain ⟨a, hja⟩ : ∃ a, st.arcs[j]? = some a := ⟨_, List.getElem?_eq_getElem hlt⟩
 obtain ⟨g2, o2, rfl, _, e0, e1, e2⟩ := hrar.at' hja
 have hto := HCL.out st (List.mem_of_getElem? HST.out) a (List.mem_of_getElem? hja)
 have hstp := wpart_step (ss := ss) (m := m1) (head := head) (n := n) hja
 obtain ⟨hl1, hl2⟩ := wpart_len (head := head) (n := n) (m := m1) HST.out hja
 have HSTP := Lib.hid hstp; clear hstp hja
 refine wp_skip ?_
 refine nx (hK11 _ _ ?_)
 refine Fact.sq fun K13 hK13 => ?_
 refine wp_block ?_
 refine Fact.sq fun K14 hK14 => ?_
 refine rg ?_
 have b48 := hf.b 48
 have b49 := hf.b 49
 have b50 := hf.b 50
 have b51 := hf.b 51
 have b52 := hf.b 52
 have b16 := hf.b 16
 refine fp fun K Z => ?_
 go_simp
 apply Z.out; clear Z K
 refine fp fun K Z => ?_
 go_simp
 apply Z.out; clear Z K
 refine fp fun K Z => ?_
 go_simp
 apply Z.out; clear Z K
 refine fp fun K Z => ?_
 go_simp
 try rw [if_pos (by omega)]
 apply Z.out; clear Z K
 refine fp fun K Z => ?_
 go_simp
 apply Z.out; clear Z K
 refine fp fun K Z => ?_
 go_simp
 apply Z.out; clear Z K
 refine fp fun K Z => ?_
 go_simp
 apply Z.out; clear Z K
 refine Fact.z hf fun fr1 hf1 hT => ?_
 have hKp : _ ∧ _ ∧ _ ∧ _ ∧ _ ∧ _ ∧ _ ∧ _ := ⟨hT 2, hT 3, hT 4, hT 5, hT 11, hT 12, hT 15, hT 16⟩
 simp (decide := true) only [Fact.G, hf.size, reduceIte, s2, s3, s4, s5, s11, s12, s15] at hKp
 replace hf := hf1; clear hT hf1 s2 s3 s4 s5 s11 s12 s15 s45 b48 b49 b50 b51 b52 b16
 obtain ⟨s2, s3, s4, s5, s11, s12, s15, s16⟩ := hKp
 obtain ⟨W5, hW5⟩ : ∃ W0, wr.alloc (.cells #[.int .u8 a.byte, .int .u64 a.out, .int .i64 a.to] 63) = W0 := ⟨_, rfl⟩
 try rw [hW5]
 obtain ⟨hb5, u0, u1, u2, -, hz5_⟩ := box3 hW5
 clear hW5
 have hz5 : wr.heap.size < W5.heap.size := by rw [hz5_]; exact Nat.lt_succ_self _
 clear hz5_
 clear e0 e1 e2
 have x05 := cL hb5 x0r; have x15 := cL hb5 x1r; have hrs5 := hrsr.later hb5
 have how5 := own_later how hb5
 obtain ⟨v1, hv1⟩ : ∃ v1, (n + a.out) % M64 = v1 := ⟨_, rfl⟩
 have hvl : v1 < M64 := by rw [← hv1]; exact Nat.mod_lt _ (by unfold M64; omega)
 rw [hv1] at hl2
 have HV1 := Lib.hid hv1; clear hv1
 have hszh : (head ++ strOfNums [(a.byte : Int)]).size = head.size + 1 := by rw [ByteArray.size_append, strOf1]
 obtain ⟨h2, hh2⟩ : ∃ h2, head ++ strOfNums [(a.byte : Int)] = h2 := ⟨_, rfl⟩
 rw [hh2] at hl2 hszh
 have HH2 := Lib.hid hh2; clear hh2
 obtain ⟨to, hto2⟩ : ∃ to : Nat, a.to = (to : Int) := ⟨a.to.toNat, by omega⟩
 rw [hto2] at u2 hto hl2
 rw [Int.toNat_natCast] at hl2
 have HTO := Lib.hid hto2; clear hto2
 have hb5w := hb.trans (hb5.mono hb.size)
 have hbx := (hbw.trans (hb5w.mono hbw.size)).size
 obtain ⟨xs, hxs⟩ : ∃ x, wpart ss (m1 + 1) head n st j = x := ⟨_, rfl⟩
 rw [hxs] at how5 hl1
 have HXS := Lib.hid hxs; clear hxs how
 refine nx (hK14 _ _ ?_)
 refine rg ?_
 have b53 := hf.b 53
 have b54 := hf.b 54
 have b55 := hf.b 55
 have b56 := hf.b 56
 have b57 := hf.b 57
 have b58 := hf.b 58
 have b59 := hf.b 59
 have b60 := hf.b 60
 have b61 := hf.b 61
 have b62 := hf.b 62
 have b63 := hf.b 63
 have b64 := hf.b 64
 have b65 := hf.b 65
 have b66 := hf.b 66
 have b67 := hf.b 67
 have b68 := hf.b 68
 have b69 := hf.b 69
 have b70 := hf.b 70
 refine fp fun K Z => ?_
 go_simp
 apply Z.out; clear Z K
 refine fp fun K Z => ?_
 go_simp
 apply Z.out; clear Z K
 refine fp fun K Z => ?_
 go_simp
 apply Z.out; clear Z K
 refine fp fun K Z => ?_
 go_simp
 apply Z.out; clear Z K
 refine fp fun K Z => ?_
 go_simp
 apply Z.out; clear Z K
 refine fp fun K Z => ?_
 go_simp
 apply Z.out; clear Z K
 refine fp fun K Z => ?_
 go_simp
 apply Z.out; clear Z K
 refine fp fun K Z => ?_
 go_simp
 apply Z.out; clear Z K
 refine fp fun K Z => ?_
 go_simp
 apply Z.out; clear Z K
 refine fp fun K Z => ?_
 go_simp
 try simp (disch := omega) only [Fact.W]
 rw [if_neg (by rw [strOf1]; omega), Oper.upon_value, HH2.out]
 apply Z.out; clear Z K
 refine fp fun K Z => ?_
 go_simp
 apply Z.out; clear Z K
 refine fp fun K Z => ?_
 go_simp
 apply Z.out; clear Z K
 refine fp fun K Z => ?_
 go_simp
 apply Z.out; clear Z K
 refine fp fun K Z => ?_
 go_simp
 try simp (disch := omega) only [Fact.W]
 rw [wrap_sum, HV1.out]
 apply Z.out; clear Z K
 refine fp fun K Z => ?_
 go_simp
 apply Z.out; clear Z K
 refine fp fun K Z => ?_
 go_simp
 try simp (disch := omega) only [Fact.W]
 try rw [show ((m1 : Int) + 1 - 1) = (m1 : Int) by omega]
 apply Z.out; clear Z K
 obtain ⟨W6, hW6⟩ : ∃ x, W5.alloc (.cells #[.int .u8 a.byte] 5) = x := ⟨_, rfl⟩
 rw [hW6]
 have hb6 : Below W5.heap.size W5 W6 := by rw [← hW6]; exact (Below.refl _ _).alloc (Nat.le_refl _) _
 clear hW6
 refine fp fun K Z => ?_
 go_simp
 go_at_call 12; refine (HIH.out m1 rfl W6 _ init ss (hrs5.later hb6) HOK.out HCL.out hmax to (by omega) h2 (by omega) v1 hvl (by omega)).mono ?_; rintro e w7 ⟨v7, rfl, how7, hb7⟩
 obtain ⟨ws, hws⟩ : ∃ x, wordsE ss m1 to h2 v1 = x := ⟨_, rfl⟩
 rw [hws] at how7 hl2
 have HWS := Lib.hid hws; clear hws
 have hre7 := OE.re how7
 obtain ⟨A7, c7, rfl, hc7⟩ := OE.form how7
 have hb57 := hb6.trans (hb7.mono hb6.size)
 have how57 := own_later how5 hb57
 try dsimp only
 apply Z.out; clear Z K
 refine Fact.reL (n := 72) (by simp only [Fact.G, hf.size]) hf.defers (fun fr1 hf1 hT => ?_)
 have hKp : _ ∧ _ ∧ _ ∧ _ ∧ _ ∧ _ ∧ _ ∧ _ ∧ _ := ⟨hT 2, hT 3, hT 4, hT 5, hT 11, hT 12, hT 15, hT 53, hT 69⟩
 simp (decide := true) only [Fact.G, hf.size, reduceIte, s2, s3, s4, s5, s11, s12, s15] at hKp
 replace hf := hf1; clear hT hf1 s2 s3 s4 s5 s11 s12 s15 s16 b53 b54 b55 b56 b57 b58 b59 b60 b61 b62 b63 b64 b65 b66 b67 b68 b69 b70
 obtain ⟨s2, s3, s4, s5, s11, s12, s15, s53, s69⟩ := hKp
 have b70 := hf.b 70
 refine ⟨?_⟩
 refine wpList_plain rfl fun K5 hK5 => ?_
 refine wp_apps _ _ 28 rfl 42 _ 3 24 Tryd.underlying28 info_ent rfl (by decide) (by decide) W1.heap.size V xs.length (ecs xs) (Fact.eval_tmp s53) how57 A7 ws.length c7 (ecs ws) (Fact.eval_tmp s69) (ecs_length _) (re_news hre7) (ecs_one ws) (by omega) (by have := hb57.size; have := hb5w.size; omega) (fun v8 w8 hr8 hg8 hat8 => hK5 _ _ ?_)
 refine Fact.L.out ?_
 refine fp fun K Z => ?_
 go_simp
 apply Z.out; clear Z K
 refine Fact.z hf fun fr1 hf1 hT => ?_
 have hKp : _ ∧ _ ∧ _ ∧ _ ∧ _ ∧ _ ∧ _ := ⟨hT 2, hT 3, hT 4, hT 5, hT 11, hT 12, hT 15⟩
 simp (decide := true) only [Fact.G, hf.size, reduceIte, s2, s3, s4, s5, s12, s15] at hKp
 replace hf := hf1; clear hT hf1 s2 s3 s4 s5 s11 s12 s15 s53 s69 b70
 obtain ⟨s2, s3, s4, s5, s11, s12, s15⟩ := hKp
 have hb8 : Below W1.heap.size W1 w8 := (hb5w.trans (hb57.mono hb5w.size)).grown hg8 (by have := hb57.size; have := hb5w.size; omega) (fun kk hkk => (how57.lt kk hkk).1)
 refine Fact.block_normal ?_
 refine nx (hK13 _ _ ?_)
 refine rg ?_
 have b46 := hf.b 46
 have b47 := hf.b 47
 refine fp fun K Z => ?_
 go_simp
 apply Z.out; clear Z K
 refine fp fun K Z => ?_
 go_simp
 try simp (disch := omega) only [Fact.W]
 apply Z.out; clear Z K
 refine fp fun K Z => ?_
 go_simp
 apply Z.out; clear Z K
 refine Fact.z hf fun fr1 hf1 hT => ?_
 have hKp : _ ∧ _ ∧ _ ∧ _ ∧ _ ∧ _ ∧ _ := ⟨hT 2, hT 3, hT 4, hT 5, hT 11, hT 12, hT 15⟩
 simp (decide := true) only [Fact.G, hf.size, reduceIte, s2, s3, s4, s5, s11, s12] at hKp
 replace hf := hf1; clear hT hf1 s2 s3 s4 s5 s11 s12 s15 b46 b47
 obtain ⟨s2, s3, s4, s5, s11, s12, s15⟩ := hKp
 refine Fact.then_normal ?_
 exact ⟨_, by have := HK.out; omega, j + 1, v8, rfl, by omega, hf, s2, s3, s4, s5, s12, s11, by rw [s15]; rfl, by rw [HSTP.out, HXS.out, HTO.out, Int.toNat_natCast, HH2.out, HV1.out, HWS.out]; unfold OE; rw [ecs_append, List.length_append]; exact hr8, hb8⟩))
 · (
 have q1 : decide (j < st.arcs.length) = false := decide_eq_false (by omega)
 have hwe : wpart ss m head n st j = wordsE ss m k head n := wpart_end HST.out (by omega)
 rw [hwe] at how
 clear hwe
 refine Fact.sq fun K15 hK15 => ?_
 refine Fact.sq fun K16 hK16 => ?_
 refine rg ?_
 have b37 := hf.b 37
 have b38 := hf.b 38
 have b39 := hf.b 39
 have b40 := hf.b 40
 have b41 := hf.b 41
 have b42 := hf.b 42
 have b43 := hf.b 43
 have b44 := hf.b 44
 refine fp fun K Z => ?_
 go_simp
 apply Z.out; clear Z K
 refine fp fun K Z => ?_
 go_simp
 apply Z.out; clear Z K
 refine fp fun K Z => ?_
 go_simp
 apply Z.out; clear Z K
 refine fp fun K Z => ?_
 go_simp
 apply Z.out; clear Z K
 refine fp fun K Z => ?_
 go_simp
 apply Z.out; clear Z K
 refine fp fun K Z => ?_
 go_simp
 apply Z.out; clear Z K
 refine sk 5 42 true ?_ ?_
 · (
 simp (decide := true) only [Fact.G, reduceIte, hf.size, q1, Fact.N])
 refine sk 5 42 true ?_ ?_
 · (
 simp (decide := true) only [Fact.G, reduceIte, hf.size, q1, Fact.N])
 refine fp fun K Z => ?_
 go_simp
 apply Z.out; clear Z K
 refine Fact.z hf fun fr1 hf1 hT => ?_
 have hKp : _ ∧ _ ∧ _ ∧ _ ∧ _ ∧ _ ∧ _ ∧ _ := ⟨hT 2, hT 3, hT 4, hT 5, hT 11, hT 12, hT 15, hT 45⟩
 simp (decide := true) only [Fact.G, hf.size, reduceIte, s2, s3, s4, s5, s11, s12, s15] at hKp
 replace hf := hf1; clear hT hf1 s2 s3 s4 s5 s11 s12 s15 b37 b38 b39 b40 b41 b42 b43 b44
 obtain ⟨s2, s3, s4, s5, s11, s12, s15, s45⟩ := hKp
 refine nx (hK16 _ _ ?_)
 refine Fact.cond_f s45 ?_
 refine wp_exit ?_
 refine Fact.then_exit ?_
 refine Fact.then_exit ?_
 refine Fact.block_exit ?_
 refine nx (hK6 _ _ ?_)
 refine Fact.sq fun K17 hK17 => ?_
 refine rg ?_
 have b71 := hf.b 71
 refine fp fun K Z => ?_
 go_simp
 apply Z.out; clear Z K
 refine fp fun K Z => ?_
 go_simp
 apply Z.out; clear Z K
 refine Fact.z hf fun fr1 hf1 hT => ?_
 have hKp := hT 10
 simp (decide := true) only [Fact.G, hf.size, reduceIte] at hKp
 replace hf := hf1; clear hT hf1 s2 s3 s4 s5 s11 s12 s15 s45 b71
 have s10 := hKp; clear hKp
 refine nx (hK17 _ _ ?_)
 refine wp_ret ?_
 exact Fact.ret1 rfl hf s10 ⟨_, rfl, own_less how hbw.size, hbw.trans (hb.mono hbw.size)⟩)))
theorem words12 : ∀ m, WordsOk m
  | 0 => fun w => words_step w 0 (fun _ h => by omega)
  | m + 1 => fun w => words_step w (m + 1) (fun m1 h => by obtain rfl : m = m1 := by omega
                                                           exact words12 m)

end Dw
end Go.Proofs.YtgjfhedgdbbinaaDoor
