/- pack: PackBursts. -/
import Derived.Test.YtdkbgbdgmihlmaaDoorPBurst2
import Derived.Test.YtdkbgbdgmihlmaaDoorPWorks
import Derived.Test.YtdkbgbdgmihlmaaDoorPBackW
import Derived.Test.YtdkbgbdgmihlmaaDoorTools
namespace Go.Proofs.YtdkbgbdgmihlmaaDoor
open Go.RowKit
set_option linter.unusedSimpArgs false
set_option linter.unusedVariables false
set_option linter.unnecessarySimpa false
namespace Dw

/-- the row of bytes at a block -/
def OMg (w : World) (g cap : Nat) (l : List Nat) : Prop := ∃ cur, w.heap[g]? = some (.cells cur 5 (cap, cap + 1)) ∧ l.length ≤ cap ∧ cap ≤ maxLen ∧ cur.size = cap ∧ cur.toList.take l.length = bcs l
section
variable {w w' : World} {base g cap : Nat} {v : Value} {l : List Nat}
theorem OM.gb (h : OM w base v l) : ∃ g cap, v = .slice (some ⟨g, 0, none⟩) l.length cap ∧ base ≤ g ∧ OMg w g cap l := by
  obtain ⟨g, cap, cur, h1, h2, h3, h4, h5, h6, h7⟩ := h
  exact ⟨g, cap, h1, h2, cur, h3, h4, h5, h6, h7⟩
theorem OMg.om (h : OMg w g cap l) (hb : base ≤ g) : OM w base (.slice (some ⟨g, 0, none⟩) l.length cap) l := by
  obtain ⟨cur, h3, h4, h5, h6, h7⟩ := h
  exact ⟨g, cap, cur, rfl, hb, h3, h4, h5, h6, h7⟩
theorem OMg.lt (h : OMg w g cap l) : g < w.heap.size := by
  obtain ⟨cur, h3, _⟩ := h
  exact heap_lt h3
theorem OMg.later (h : OMg w g cap l) (hb : Below w.heap.size w w') : OMg w' g cap l := by
  obtain ⟨cur, h3, h4⟩ := h
  exact ⟨cur, (hb.block g (heap_lt h3)).trans h3, h4⟩
theorem OMg.cell (h : OMg w g cap l) {i x : Nat} (hi : l[i]? = some x) : w.cell? ⟨g, i, none⟩ = some (.int .u8 x) ∧ w.frozen? ⟨g, i, none⟩ = false := by
  obtain ⟨b, cap2, e, _, _, hc, hf⟩ := (h.om (Nat.zero_le g)).cell hi
  injection e with e
  injection e with e
  injection e with e
  subst e
  exact ⟨hc, hf⟩
theorem OMg.set (h : OMg w g cap l) {i : Nat} (hi : i < l.length) (x : Nat) : OMg (w.setCell ⟨g, i, none⟩ (.int .u8 x)) g cap (l.set i x) := by
  obtain ⟨cur, h3, h4, h5, h6, h7⟩ := h
  refine ⟨cur.setIfInBounds i (.int .u8 x), set_block h3 _, by rw [List.length_set]; exact h4, h5, by rw [Array.size_setIfInBounds]; exact h6, ?_⟩
  rw [Array.toList_setIfInBounds, List.length_set, List.take_set, h7]
  unfold bcs
  rw [List.map_set]
end
theorem u32_and1 (a : Nat) (ha : a < 4294967296) : bits .and .u32 (a : Int) 1 = ((a % 2 : Nat) : Int) := by
  show IntKind.u32.wrap ((BitVec.ofInt 32 (a : Int) &&& BitVec.ofInt 32 1).toNat : Int) = _
  have h1 : (BitVec.ofInt 32 (a : Int)).toNat = a := by rw [BitVec.toNat_ofInt]; omega
  rw [BitVec.toNat_and, h1, show (BitVec.ofInt 32 1).toNat = 1 from rfl, Nat.and_one_is_mod, IntKind.wrap_u32']
  omega
theorem turnL_step {l : List Nat} {p pat k : Nat} : turnL l p pat (k + 1) = if pat / 2 ^ k % 2 = 1 ∧ p + k < 8 * l.length then flipB (turnL l p pat k) (p + k) else turnL l p pat k := rfl
theorem flip_at {l : List Nat} {pl i8 b8 m8 x8 y8 : Nat} (h1 : pl / 8 = i8) (h2 : pl % 8 = b8) (h3 : 2 ^ b8 = m8) (h4 : l[i8]? = some x8) (h5 : x8 ^^^ m8 = y8) : flipB l pl = l.set i8 y8 := by
  unfold flipB
  rw [h1, h2, h3, List.getD_eq_getElem?_getD, h4, Option.getD_some, h5]
theorem burst_facts {ia : Nat} {fa : List State} {bd : List Nat} (h1 : ∀ s ∈ fa, okS s) (h2 : fa.length ≤ 12) (h3 : 0 < fa.length) (h4 : ∀ s ∈ fa, s.arcs.length ≤ 6) (hm : mayF 7 fa = true) (hi : ia < 18446744073709551616) (hbd : bodyB 7 ia fa = bd) : wl (bl (putR 7 ia fa).1) = Crc.seal' bd ∧ Small bd ∧ (1 ≤ bd.length ∧ bd.length ≤ 90000) ∧ pGet (bl (putR 7 ia fa).1) = .ok (7, ia, fa) := by
  have h := (may_out hm).2.2.2
  have hsm := bodyB_small' h1 h (by omega) (show 7 ≤ 100000 by omega) hi
  have h5 := statesB_len fa 0 h1 h (by omega)
  have h6 := (numB_le (n := 7) (by unfold M64; omega)).2
  have h7 := (numB_le (n := fa.length) (by unfold M64; omega)).2
  have h8 := (numB_le (n := ia) hi).2
  have hp : (putR 7 ia fa).1 = Crc.seal' bd := by unfold putR; rw [if_pos hm, ← hbd]; rfl
  refine ⟨?_, by rw [← hbd]; exact hsm, ?_, pGet_put hm h1 (by omega) hi⟩
  · rw [hp]
    exact wl_bl (by rw [← hbd]; exact seal_small hsm)
  · rw [← hbd]
    unfold bodyB
    rw [numsB_two, numsB_one]
    simp only [List.length_append, List.length_cons, List.length_nil]
    omega
set_option maxHeartbeats 4000000 in
set_option maxRecDepth 100000 in
theorem bursts5 (w : World) (sva : Value) (ia : Nat) (ssa : List State) (hra : RS w sva ssa) (oka : ∀ s ∈ ssa, okR s) (hia : ia < 18446744073709551616) (at_ pat : Nat) (hat : at_ < 65536) (hpat : pat < 4294967296) (hE : ETy w) : Calls Tryd.prog 5 #[.agg #[sva, .int .u64 ia], .int .u16 at_, .int .u32 pat] w fun e w1 => e = .returned (.bool true) ∧ Below w.heap.size w w1 := by
 refine calls_of_wp Tryd.func5 rfl ?_
 refine Fact.en 132 fun fr hf hT => ?_
 have s0 := hT 0 _ rfl
 have s1 := hT 1 _ rfl
 have s2 := hT 2 _ rfl
 clear hT
 have hw0 : 0 < w.heap.size := cell_lt0 (show w.cell? ⟨0, 0, none⟩ = _ from hE)
 obtain ⟨Aa, ca, rfl, hca⟩ := hra.form
 have hnq : ∀ w' : World, (binOp .eql 45 .nilIface .nilIface).run Tryd.prog w' = .ok (.bool true) w' := fun w' => by kernel_rfl
 have hnf : ∀ (v : Value) (w' : World), (binOp .neq 45 (.iface 82 v) .nilIface).run Tryd.prog w' = .ok (.bool true) w' := fun v w' => by kernel_rfl
 have OKA := Lib.hid oka; clear oka
 refine Fact.sq fun K1 hK1 => ?_
 refine rg ?_
 refine fp fun K Z => ?_
 go_simp
 apply Z.out; clear Z K
 refine fp fun K Z => ?_
 go_simp
 apply Z.out; clear Z K
 refine Fact.z hf fun fr1 hf1 hT => ?_
 have hKp : _ ∧ _ ∧ _ := ⟨hT 1, hT 2, hT 3⟩
 simp (decide := true) only [Fact.G, hf.size, reduceIte, s1, s2] at hKp
 replace hf := hf1; clear hT hf1 s0 s1 s2
 obtain ⟨s1, s2, s3⟩ := hKp
 obtain ⟨W0, hW0⟩ : ∃ W0, w.alloc (.cells #[.slice Aa ssa.length ca, .int .u64 ia] 25) = W0 := ⟨_, rfl⟩
 try rw [hW0]
 obtain ⟨hb0, a0, a1, -, -⟩ := box2 hW0
 clear hW0
 have hra0 := hra.later hb0
 clear hra
 replace hE := cL hb0 hE
 refine nx (hK1 _ _ ?_)
 refine Fact.sq fun K2 hK2 => ?_
 refine Fact.sq fun K3 hK3 => ?_
 refine rg ?_
 have b22 := hf.b 22
 refine fp fun K Z => ?_
 go_simp
 go_at_call 13; refine (works13 W0 hE).mono ?_; rintro e u1 ⟨rfl, hb1⟩
 replace a0 := cL hb1 a0; replace a1 := cL hb1 a1; replace hra0 := hra0.later hb1; replace hE := cL hb1 hE
 have hbt := hb0.trans (hb1.mono hb0.size)
 try dsimp only
 apply Z.out; clear Z K
 refine fp fun K Z => ?_
 go_simp
 apply Z.out; clear Z K
 refine Fact.z hf fun fr1 hf1 hT => ?_
 have hKp : _ ∧ _ ∧ _ ∧ _ := ⟨hT 1, hT 2, hT 3, hT 23⟩
 simp (decide := true) only [Fact.G, hf.size, reduceIte, s1, s2, s3] at hKp
 replace hf := hf1; clear hT hf1 s1 s2 s3 b22
 obtain ⟨s1, s2, s3, s23⟩ := hKp
 refine nx (hK3 _ _ ?_)
 refine Fact.cond_f s23 ?_
 obtain ⟨fa, hfa⟩ : ∃ x, formedF ssa = x := ⟨_, rfl⟩
 have hka := formed_ok OKA.out
 have hma : mayF 7 (formedF ssa) = true := mayF_formed OKA.out (n := 7) (by omega)
 rw [hfa] at hka hma
 have HKA := Lib.hid hka; have HMA := Lib.hid hma; have HFA := Lib.hid hfa; clear hka hma hfa
 refine wp_skip ?_
 refine nx (hK2 _ _ ?_)
 refine Fact.sq fun K4 hK4 => ?_
 refine rg ?_
 have b25 := hf.b 25
 have b26 := hf.b 26
 have b27 := hf.b 27
 have b24 := hf.b 24
 have b28 := hf.b 28
 have b29 := hf.b 29
 refine fp fun K Z => ?_
 go_simp
 apply Z.out; clear Z K
 refine fp fun K Z => ?_
 go_simp
 go_at_call 9; refine (formed9 u1 _ ia ssa hra0).mono ?_; rintro e u2 ⟨sv2, rfl, hr2, hb2⟩
 rw [HFA.out] at hr2
 replace hE := cL hb2 hE
 replace hbt := hbt.trans (hb2.mono hbt.size)
 try dsimp only
 apply Z.out; clear Z K
 refine fp fun K Z => ?_
 go_simp
 go_at_call 14; refine (put14 u2 7 _ ia fa hr2 HKA.out.1 (by have := HKA.out.2.1; omega) (fun s hs => by have := HKA.out.2.2.2.1 s hs; omega) hia).mono ?_; rintro e u3 ⟨rfl, hb3⟩
 obtain ⟨SA, hSA⟩ : ∃ x, bl (putR 7 ia fa).1 = x := ⟨_, rfl⟩
 dsimp only
 rw [put_code HMA.out, hSA]
 have HSA := Lib.hid hSA; clear hSA hr2 hra0 a0 a1
 replace hE := cL hb3 hE
 replace hbt := hbt.trans (hb3.mono hbt.size)
 try dsimp only
 apply Z.out; clear Z K
 refine fp fun K Z => ?_
 go_simp
 apply Z.out; clear Z K
 refine fp fun K Z => ?_
 go_simp
 apply Z.out; clear Z K
 refine fp fun K Z => ?_
 go_simp
 apply Z.out; clear Z K
 refine fp fun K Z => ?_
 go_simp
 apply Z.out; clear Z K
 refine fp fun K Z => ?_
 go_simp
 apply Z.out; clear Z K
 refine Fact.z hf fun fr1 hf1 hT => ?_
 have hKp : _ ∧ _ ∧ _ := ⟨hT 1, hT 2, hT 7⟩
 simp (decide := true) only [Fact.G, hf.size, reduceIte, s1, s2] at hKp
 replace hf := hf1; clear hT hf1 s1 s2 s3 s23 b25 b26 b27 b24 b28 b29
 obtain ⟨s1, s2, s7⟩ := hKp
 refine nx (hK4 _ _ ?_)
 obtain ⟨bd, hbd⟩ : ∃ x, bodyB 7 ia fa = x := ⟨_, rfl⟩
 have hfacts := burst_facts HKA.out.1 HKA.out.2.1 HKA.out.2.2.1 HKA.out.2.2.2.1 HMA.out hia hbd
 rw [HSA.out] at hfacts
 obtain ⟨hws, hsb, hbl, hpg⟩ := hfacts
 obtain ⟨SL, hSL⟩ : ∃ x, Crc.seal' bd = x := ⟨_, rfl⟩
 have hss : Small SL := by rw [← hSL]; exact seal_small hsb
 have hln : SL.length = bd.length + 4 := by rw [← hSL, Crc.seal_length]
 have hsz : SA.size = SL.length := by rw [← wl_length, hws, hSL]
 rw [hSL] at hws
 obtain ⟨L, hL⟩ : ∃ x, SL.length = x := ⟨_, rfl⟩
 have hL5 : 5 ≤ L ∧ L ≤ 100000 := by omega
 have hszL : SA.size = L := by omega
 have hblL : bd.length + 4 = L := by omega
 have HBD := Lib.hid hbd; have HWS := Lib.hid hws; have HSL := Lib.hid hSL; have HL := Lib.hid hL; have HPG := Lib.hid hpg; have HBL := Lib.hid hblL; have HSZ := Lib.hid hszL; clear hbd hws hSL hL hpg hblL hszL hln hsz hbl
 refine Fact.sq fun K5 hK5 => ?_
 refine rg ?_
 have b30 := hf.b 30
 have b31 := hf.b 31
 refine fp fun K Z => ?_
 go_simp
 apply Z.out; clear Z K
 refine Fact.reL (n := 132) (by simp only [Fact.G, hf.size]) hf.defers (fun fr1 hf1 hT => ?_)
 have hKp : _ ∧ _ ∧ _ ∧ _ := ⟨hT 1, hT 2, hT 7, hT 30⟩
 simp (decide := true) only [Fact.G, hf.size, reduceIte, s1, s2, s7] at hKp
 replace hf := hf1; clear hT hf1 s1 s2 s7 b30 b31
 obtain ⟨s1, s2, s7, s30⟩ := hKp
 have b31 := hf.b 31
 refine ⟨?_⟩
 refine wpList_plain rfl fun KL hKL => ?_
 refine wp_conv _ SA rfl (Fact.eval_tmp s30) (by have := HSZ.out; unfold maxLen; omega) (fun v1 w4 hom4 hb4 => hKL _ _ ?_)
 rw [HWS.out] at hom4
 refine Fact.L.out ?_
 refine fp fun K Z => ?_
 go_simp
 apply Z.out; clear Z K
 refine Fact.z hf fun fr1 hf1 hT => ?_
 have hKp : _ ∧ _ ∧ _ ∧ _ := ⟨hT 1, hT 2, hT 7, hT 9⟩
 simp (decide := true) only [Fact.G, hf.size, reduceIte, s1, s2, s7] at hKp
 replace hf := hf1; clear hT hf1 s1 s2 s7 s30 b31
 obtain ⟨s1, s2, s7, s9⟩ := hKp
 obtain ⟨g, cap, hv1, hwg, hom⟩ := hom4.gb
 rw [HL.out] at hv1
 subst hv1
 have hgl := hom.lt
 clear hom4
 replace hE := cL hb4 hE
 replace hbt := hbt.trans (hb4.mono hbt.size)
 have hug : w.heap.size ≤ g := by have := hb0.size; have := hb1.size; have := hb2.size; have := hb3.size; omega
 refine nx (hK5 _ _ ?_)
 refine Fact.sq fun K6 hK6 => ?_
 refine Fact.sq fun K7 hK7 => ?_
 refine rg ?_
 refine fp fun K Z => ?_
 go_simp
 apply Z.out; clear Z K
 refine Fact.z hf fun fr1 hf1 hT => ?_
 have hKp : _ ∧ _ ∧ _ ∧ _ ∧ _ := ⟨hT 1, hT 2, hT 7, hT 9, hT 10⟩
 simp (decide := true) only [Fact.G, hf.size, reduceIte, s1, s2, s7, s9] at hKp
 replace hf := hf1; clear hT hf1 s1 s2 s7 s9
 obtain ⟨s1, s2, s7, s9, s10⟩ := hKp
 refine nx (hK7 _ _ ?_)
 refine wp_block ?_
 obtain ⟨p, hp⟩ : ∃ x, at_ % (8 * L) = x := ⟨_, rfl⟩
 have hpL : p < 8 * L := by rw [← hp]; exact Nat.mod_lt _ (by omega)
 have HP := Lib.hid hp; clear hp
 refine wp_loop_ghost (fun gk fr wr => ∃ (k : Nat), gk = 32 - k ∧ k ≤ 32 ∧ Fact.Fr 132 fr ∧ fr.tmps[1]? = some (.int .u16 at_) ∧ fr.tmps[2]? = some (.int .u32 pat) ∧ fr.tmps[7]? = some (.string SA) ∧ fr.tmps[9]? = some (.slice (some ⟨g, 0, none⟩) L cap) ∧ fr.tmps[10]? = some (.int .i64 k) ∧ OMg wr g cap (turnL SL p pat k) ∧ ETy wr ∧ Below w.heap.size w wr) (32) ?_ ?_
 · (
 exact ⟨0, rfl, Nat.zero_le _, hf, s1, s2, s7, s9, s10, hom, hE, hbt⟩)
 · (
 clear hf s1 s2 s7 s9 s10
 clear hom hE hbt
 rintro gk fr wr ⟨k, hk, hk32, hf, s1, s2, s7, s9, s10, hom, hE, hbt⟩
 have HK := Lib.hid hk; clear hk
 obtain ⟨l, hl⟩ : ∃ x, turnL SL p pat k = x := ⟨_, rfl⟩
 rw [hl] at hom
 have hlL : l.length = L := by rw [← hl, turnL_length]; exact HL.out
 have hlS : Small l := by rw [← hl]; exact turnL_small hss p pat k
 have HLL := Lib.hid hlL; have HTL := Lib.hid hl; clear hlL hl
 have q2 : decide (0 < L) = true := decide_eq_true (by omega)
 rcases Nat.lt_or_ge k 32 with hlt | hge
 · (
 have q1 : decide ((k : Int) < 32) = true := decide_eq_true (by omega)
 refine Fact.sq fun K8 hK8 => ?_
 refine Fact.sq fun K9 hK9 => ?_
 refine rg ?_
 have b32 := hf.b 32
 have b33 := hf.b 33
 have b34 := hf.b 34
 have b35 := hf.b 35
 have b36 := hf.b 36
 have b37 := hf.b 37
 refine fp fun K Z => ?_
 go_simp
 apply Z.out; clear Z K
 refine fp fun K Z => ?_
 go_simp
 apply Z.out; clear Z K
 refine fp fun K Z => ?_
 go_simp
 apply Z.out; clear Z K
 refine og 2 34 true ?_ fun K Z => ?_
 · (
 simp (decide := true) only [Fact.G, reduceIte, hf.size, q1, q2])
 go_simp
 apply Z.out; clear Z K
 refine og 2 34 true ?_ fun K Z => ?_
 · (
 simp (decide := true) only [Fact.G, reduceIte, hf.size, q1, q2])
 go_simp
 apply Z.out; clear Z K
 refine og 2 34 true ?_ fun K Z => ?_
 · (
 simp (decide := true) only [Fact.G, reduceIte, hf.size, q1, q2])
 go_simp
 apply Z.out; clear Z K
 refine fp fun K Z => ?_
 go_simp
 apply Z.out; clear Z K
 refine Fact.z hf fun fr1 hf1 hT => ?_
 have hKp : _ ∧ _ ∧ _ ∧ _ ∧ _ ∧ _ := ⟨hT 1, hT 2, hT 7, hT 9, hT 10, hT 38⟩
 simp (decide := true) only [Fact.G, hf.size, reduceIte, s1, s2, s7, s9, s10] at hKp
 replace hf := hf1; clear hT hf1 s1 s2 s7 s9 s10 b32 b33 b34 b35 b36 b37
 obtain ⟨s1, s2, s7, s9, s10, s38⟩ := hKp
 refine nx (hK9 _ _ ?_)
 refine Fact.cond_t s38 ?_
 clear q1 q2
 refine wp_skip ?_
 refine nx (hK8 _ _ ?_)
 refine Fact.seq_meet (fun fr wq => Fact.Fr 132 fr ∧ fr.tmps[1]? = some (.int .u16 at_) ∧ fr.tmps[2]? = some (.int .u32 pat) ∧ fr.tmps[7]? = some (.string SA) ∧ fr.tmps[9]? = some (.slice (some ⟨g, 0, none⟩) L cap) ∧ fr.tmps[10]? = some (.int .i64 k) ∧ OMg wq g cap (turnL SL p pat (k + 1)) ∧ ETy wq ∧ Below w.heap.size w wq) ?_ ?_
 · (
 obtain ⟨pl, hpl⟩ : ∃ x, p + k = x := ⟨_, rfl⟩
 have hpl3 : pl ≤ 900000 := by omega
 have HPL := Lib.hid hpl; clear hpl
 refine wp_block ?_
 refine Fact.sq fun K10 hK10 => ?_
 refine rg ?_
 have b41 := hf.b 41
 have b42 := hf.b 42
 have b43 := hf.b 43
 have b44 := hf.b 44
 have b45 := hf.b 45
 have b46 := hf.b 46
 have b47 := hf.b 47
 have b48 := hf.b 48
 refine fp fun K Z => ?_
 go_simp
 apply Z.out; clear Z K
 refine fp fun K Z => ?_
 go_simp
 rw [Fact.wrap_i64 (by omega) (by omega)]
 apply Z.out; clear Z K
 refine fp fun K Z => ?_
 go_simp
 apply Z.out; clear Z K
 refine fp fun K Z => ?_
 go_simp
 apply Z.out; clear Z K
 refine fp fun K Z => ?_
 go_simp
 try simp (disch := omega) only [Fact.W]
 apply Z.out; clear Z K
 refine fp fun K Z => ?_
 go_simp
 rw [if_neg (by omega), show ((at_ : Nat) : Int).tmod (8 * ((L : Nat) : Int)) = ((p : Nat) : Int) by rw [Int.tmod_eq_emod_of_nonneg (by omega), ← HP.out, Int.natCast_emod, Int.natCast_mul]; rfl]
 rw [Oper.upon_value]
 apply Z.out; clear Z K
 refine fp fun K Z => ?_
 go_simp
 apply Z.out; clear Z K
 refine fp fun K Z => ?_
 go_simp
 try simp (disch := omega) only [Fact.W]
 rw [show ((p : Nat) : Int) + ((k : Nat) : Int) = ((pl : Nat) : Int) by have := HPL.out; omega]
 apply Z.out; clear Z K
 refine fp fun K Z => ?_
 go_simp
 apply Z.out; clear Z K
 refine Fact.z hf fun fr1 hf1 hT => ?_
 have hKp : _ ∧ _ ∧ _ ∧ _ ∧ _ ∧ _ := ⟨hT 1, hT 2, hT 7, hT 9, hT 10, hT 11⟩
 simp (decide := true) only [Fact.G, hf.size, reduceIte, s1, s2, s7, s9, s10] at hKp
 replace hf := hf1; clear hT hf1 s1 s2 s7 s9 s10 s38 b41 b42 b43 b44 b45 b46 b47 b48
 obtain ⟨s1, s2, s7, s9, s10, s11⟩ := hKp
 refine nx (hK10 _ _ ?_)
 obtain ⟨qk, hqk⟩ : ∃ x, pat / 2 ^ k = x := ⟨_, rfl⟩
 have hqk32 : qk < 4294967296 := by rw [← hqk]; exact Nat.lt_of_le_of_lt (Nat.div_le_self _ _) hpat
 have HQK := Lib.hid hqk; clear hqk
 obtain ⟨bq, hbq⟩ : ∃ x, qk % 2 = x := ⟨_, rfl⟩
 have hb2q : bq < 2 := by omega
 have HBQ := Lib.hid hbq; clear hbq
 have hts := turnL_step (l := SL) (p := p) (pat := pat) (k := k)
 rw [HTL.out, HQK.out, HBQ.out, HPL.out, HL.out] at hts
 have HTS := Lib.hid hts; clear hts
 rcases (by omega : bq = 0 ∨ (bq = 1 ∧ pl < 8 * L) ∨ (bq = 1 ∧ 8 * L ≤ pl)) with hq0 | hq0 | hq0
 · (
 have HQ0 := Lib.hid hq0; clear hq0
 have r1 : ((bq : Int) == 1) = false := beq_eq_false_iff_ne.2 (by have := HQ0.out; omega)
 refine Fact.sq fun K11 hK11 => ?_
 refine rg ?_
 have b49 := hf.b 49
 have b50 := hf.b 50
 have b51 := hf.b 51
 have b52 := hf.b 52
 have b53 := hf.b 53
 have b54 := hf.b 54
 have b55 := hf.b 55
 have b56 := hf.b 56
 have b57 := hf.b 57
 have b58 := hf.b 58
 have b59 := hf.b 59
 refine fp fun K Z => ?_
 go_simp
 apply Z.out; clear Z K
 refine fp fun K Z => ?_
 go_simp
 apply Z.out; clear Z K
 refine fp fun K Z => ?_
 go_simp
 rw [show ((pat : Nat) : Int) / 2 ^ k = ((qk : Nat) : Int) by rw [← HQK.out]; simp]
 apply Z.out; clear Z K
 refine fp fun K Z => ?_
 go_simp
 rw [u32_and1 qk hqk32, HBQ.out]
 apply Z.out; clear Z K
 refine fp fun K Z => ?_
 go_simp
 try rw [r1]
 apply Z.out; clear Z K
 refine fp fun K Z => ?_
 go_simp
 apply Z.out; clear Z K
 refine sk 5 54 true ?_ ?_
 · (
 simp (decide := true) only [Fact.G, reduceIte, hf.size, Fact.N])
 refine sk 5 54 true ?_ ?_
 · (
 simp (decide := true) only [Fact.G, reduceIte, hf.size, Fact.N])
 refine sk 5 54 true ?_ ?_
 · (
 simp (decide := true) only [Fact.G, reduceIte, hf.size, Fact.N])
 refine sk 5 54 true ?_ ?_
 · (
 simp (decide := true) only [Fact.G, reduceIte, hf.size, Fact.N])
 refine sk 5 54 true ?_ ?_
 · (
 simp (decide := true) only [Fact.G, reduceIte, hf.size, Fact.N])
 refine fp fun K Z => ?_
 go_simp
 apply Z.out; clear Z K
 refine Fact.z hf fun fr1 hf1 hT => ?_
 have hKp : _ ∧ _ ∧ _ ∧ _ ∧ _ ∧ _ ∧ _ := ⟨hT 1, hT 2, hT 7, hT 9, hT 10, hT 11, hT 60⟩
 simp (decide := true) only [Fact.G, hf.size, reduceIte, s1, s2, s7, s9, s10, s11] at hKp
 replace hf := hf1; clear hT hf1 s1 s2 s7 s9 s10 s11 b49 b50 b51 b52 b53 b54 b55 b56 b57 b58 b59
 obtain ⟨s1, s2, s7, s9, s10, s11, s60⟩ := hKp
 refine nx (hK11 _ _ ?_)
 refine Fact.cond_f s60 ?_
 refine wp_skip ?_
 refine Fact.block_normal ?_
 refine Fact.then_normal ?_
 exact ⟨hf, s1, s2, s7, s9, s10, by rw [HTS.out, if_neg (by have := HQ0.out; omega)]; exact hom, hE, hbt⟩)
 · (
 have HQ0 := Lib.hid hq0; clear hq0
 have r1 : ((bq : Int) == 1) = true := beq_iff_eq.2 (by have := HQ0.out; omega)
 have r2 : decide ((pl : Int) < 8 * (L : Int)) = true := decide_eq_true (by have := HQ0.out.2; omega)
 refine Fact.sq fun K12 hK12 => ?_
 refine rg ?_
 have b49 := hf.b 49
 have b50 := hf.b 50
 have b51 := hf.b 51
 have b52 := hf.b 52
 have b53 := hf.b 53
 have b54 := hf.b 54
 have b55 := hf.b 55
 have b56 := hf.b 56
 have b57 := hf.b 57
 have b58 := hf.b 58
 have b59 := hf.b 59
 refine fp fun K Z => ?_
 go_simp
 apply Z.out; clear Z K
 refine fp fun K Z => ?_
 go_simp
 apply Z.out; clear Z K
 refine fp fun K Z => ?_
 go_simp
 rw [show ((pat : Nat) : Int) / 2 ^ k = ((qk : Nat) : Int) by rw [← HQK.out]; simp]
 apply Z.out; clear Z K
 refine fp fun K Z => ?_
 go_simp
 rw [u32_and1 qk hqk32, HBQ.out]
 apply Z.out; clear Z K
 refine fp fun K Z => ?_
 go_simp
 try rw [r1]
 apply Z.out; clear Z K
 refine fp fun K Z => ?_
 go_simp
 apply Z.out; clear Z K
 refine og 5 54 true ?_ fun K Z => ?_
 · (
 simp (decide := true) only [Fact.G, reduceIte, hf.size])
 go_simp
 apply Z.out; clear Z K
 refine og 5 54 true ?_ fun K Z => ?_
 · (
 simp (decide := true) only [Fact.G, reduceIte, hf.size])
 go_simp
 apply Z.out; clear Z K
 refine og 5 54 true ?_ fun K Z => ?_
 · (
 simp (decide := true) only [Fact.G, reduceIte, hf.size])
 go_simp
 apply Z.out; clear Z K
 refine og 5 54 true ?_ fun K Z => ?_
 · (
 simp (decide := true) only [Fact.G, reduceIte, hf.size])
 go_simp
 try simp (disch := omega) only [Fact.W]
 apply Z.out; clear Z K
 refine og 5 54 true ?_ fun K Z => ?_
 · (
 simp (decide := true) only [Fact.G, reduceIte, hf.size])
 go_simp
 try rw [r2]
 apply Z.out; clear Z K
 refine fp fun K Z => ?_
 go_simp
 apply Z.out; clear Z K
 refine Fact.z hf fun fr1 hf1 hT => ?_
 have hKp : _ ∧ _ ∧ _ ∧ _ ∧ _ ∧ _ ∧ _ := ⟨hT 1, hT 2, hT 7, hT 9, hT 10, hT 11, hT 60⟩
 simp (decide := true) only [Fact.G, hf.size, reduceIte, s1, s2, s7, s9, s10, s11] at hKp
 replace hf := hf1; clear hT hf1 s1 s2 s7 s9 s10 s11 b49 b50 b51 b52 b53 b54 b55 b56 b57 b58 b59
 obtain ⟨s1, s2, s7, s9, s10, s11, s60⟩ := hKp
 refine nx (hK12 _ _ ?_)
 refine Fact.cond_t s60 ?_
 obtain ⟨i8, hi8⟩ : ∃ x, pl / 8 = x := ⟨_, rfl⟩
 obtain ⟨b8, hb8⟩ : ∃ x, pl % 8 = x := ⟨_, rfl⟩
 have hi8L : i8 < L := by have := HQ0.out.2; omega
 have hb88 : b8 < 8 := by omega
 have HI8 := Lib.hid hi8; have HB8 := Lib.hid hb8; clear hi8 hb8
 obtain ⟨x8, hx8⟩ : ∃ x, l[i8]? = some x := ⟨_, List.getElem?_eq_getElem (by have := HLL.out; omega)⟩
 have hx256 := hlS x8 (List.mem_of_getElem? hx8)
 obtain ⟨c8, f8⟩ := hom.cell hx8
 have HX8 := Lib.hid hx8; clear hx8
 obtain ⟨m8, hm8⟩ : ∃ x, 2 ^ b8 = x := ⟨_, rfl⟩
 have hm256 : m8 < 256 := by rw [← hm8]; exact Nat.lt_of_lt_of_le (Nat.pow_lt_pow_right (by omega) hb88) (Nat.le_refl (2 ^ 8))
 have HM8 := Lib.hid hm8; clear hm8
 obtain ⟨y8, hy8⟩ : ∃ x, x8 ^^^ m8 = x := ⟨_, rfl⟩
 have HY8 := Lib.hid hy8; clear hy8
 refine Stab.tb 132 fun hok => ?_
 refine Stab.mO 0 s9 hf hok ?_
 refine Stab.mO 1 s11 hf hok ?_
 apply Stab.tq 2 _ hf hok
 · (
 intro fr1 w1 hh hd hk K Z
 have s62 := Stab.v 1 0 hd hk []
 clear hd
 go_simp
 rw [show ((pl : Nat) : Int) / 8 = ((i8 : Nat) : Int) by have := HI8.out; omega, Fact.wrap_i64 (by omega) (by omega)]
 exact Stab.k Z)
 refine Stab.mO 3 s9 hf hok ?_
 refine Stab.mO 4 s11 hf hok ?_
 apply Stab.tq 5 _ hf hok
 · (
 intro fr1 w1 hh hd hk K Z
 have s65 := Stab.v 4 0 hd hk []
 clear hd
 go_simp
 rw [show ((pl : Nat) : Int) / 8 = ((i8 : Nat) : Int) by have := HI8.out; omega, Fact.wrap_i64 (by omega) (by omega)]
 exact Stab.k Z)
 apply Stab.tq 6 _ hf hok
 · (
 intro fr1 w1 hh hd hk K Z
 have s64 := Stab.v 3 2 hd hk []
 have s66 := Stab.v 5 0 hd hk []
 clear hd
 go_simp
 try rw [if_pos (by omega)]
 exact Stab.k Z)
 apply Stab.tq 7 _ hf hok
 · (
 intro fr1 w1 hh hd hk K Z
 have s67 := Stab.v 6 0 hd hk []
 clear hd
 replace c8 := cL hh.ext c8
 go_simp
 exact Stab.k Z)
 refine Stab.mO 8 s11 hf hok ?_
 apply Stab.tq 9 _ hf hok
 · (
 intro fr1 w1 hh hd hk K Z
 have s69 := Stab.v 8 0 hd hk []
 clear hd
 go_simp
 rw [show ((pl : Nat) : Int).tmod 8 = ((b8 : Nat) : Int) by rw [Int.tmod_eq_emod_of_nonneg (by omega)]; have := HB8.out; omega]
 exact Stab.k Z)
 apply Stab.tq 10 _ hf hok
 · (
 intro fr1 w1 hh hd hk K Z
 have s70 := Stab.v 9 0 hd hk []
 clear hd
 go_simp
 rw [show ((2 : Int) ^ b8) = ((m8 : Nat) : Int) by rw [← HM8.out]; simp, Fact.wrap_u8 (by omega) (by omega)]
 exact Stab.k Z)
 apply Stab.tq 11 _ hf hok
 · (
 intro fr1 w1 hh hd hk K Z
 have s68 := Stab.v 7 3 hd hk []
 have s71 := Stab.v 10 0 hd hk []
 clear hd
 go_simp
 rw [u8_xor_nat x8 m8 hx256 hm256, HY8.out]
 exact Stab.k Z)
 refine Tail.todo_tail (n := 132) (m := 12) (ws := []) (by kernel_rfl) hf.size hok.out rfl rfl (by kernel_rfl) (fun fr1 w1 hh hg => ?_)
 replace s1 := Stab.O hh s1
 replace s2 := Stab.O hh s2
 replace s7 := Stab.O hh s7
 replace s9 := Stab.O hh s9
 replace s10 := Stab.O hh s10
 have s61 := Tail.got_is 0 11 hg rfl rfl rfl rfl rfl
 have s63 := Tail.got_is 2 9 hg rfl rfl rfl rfl rfl
 have s72 := Tail.got_is 11 0 hg rfl rfl rfl rfl rfl
 have hf1 := hh.fr hf
 have hx := hh.ext
 replace c8 := cL hx c8
 clear hg hh hf hok s11 s60
 have hf := hf1; clear hf1
 have b73 := hf.b 73
 refine Tail.seq_op rfl rfl (fun K Z => ?_)
 go_simp
 try rw [if_pos (by omega)]
 apply Z.out; clear Z K
 have f8b := ((hom.later hx).cell HX8.out).2
 refine Tail.seq_op rfl rfl (fun K Z => ?_)
 go_simp
 apply Z.out; clear Z K
 refine Tail.seq_nil rfl ?_
 refine Fact.q hf (by simp only [Fact.G]) rfl fun fr1 hf1 hT => ?_
 have hKp : _ ∧ _ ∧ _ ∧ _ ∧ _ := ⟨hT 1, hT 2, hT 7, hT 9, hT 10⟩
 simp (decide := true) only [Fact.G, reduceIte, s1, s2, s7, s9, s10] at hKp
 replace hf := hf1; clear hT hf1 s1 s2 s7 s9 s10 s61 s63 s72 b73
 obtain ⟨s1, s2, s7, s9, s10⟩ := hKp
 refine Fact.block_normal ?_
 refine Fact.then_normal ?_
 have hset := (hom.later hx).set (i := i8) (by have := HLL.out; omega) y8
 exact ⟨hf, s1, s2, s7, s9, s10, by rw [HTS.out, if_pos ⟨HQ0.out.1, HQ0.out.2⟩, flip_at HI8.out HB8.out HM8.out HX8.out HY8.out]; exact hset, (But.setCell (S := fun k => k = g) rfl _).cell (cL hx hE) (by intro e; have e : 0 = g := e; omega), (hbt.trans (hx.mono hbt.size)).setCell (p := ⟨g, i8, none⟩) hug _⟩)
 · (
 have HQ0 := Lib.hid hq0; clear hq0
 have r1 : ((bq : Int) == 1) = true := beq_iff_eq.2 (by have := HQ0.out; omega)
 have r2 : decide ((pl : Int) < 8 * (L : Int)) = false := decide_eq_false (by have := HQ0.out.2; omega)
 refine Fact.sq fun K13 hK13 => ?_
 refine rg ?_
 have b49 := hf.b 49
 have b50 := hf.b 50
 have b51 := hf.b 51
 have b52 := hf.b 52
 have b53 := hf.b 53
 have b54 := hf.b 54
 have b55 := hf.b 55
 have b56 := hf.b 56
 have b57 := hf.b 57
 have b58 := hf.b 58
 have b59 := hf.b 59
 refine fp fun K Z => ?_
 go_simp
 apply Z.out; clear Z K
 refine fp fun K Z => ?_
 go_simp
 apply Z.out; clear Z K
 refine fp fun K Z => ?_
 go_simp
 rw [show ((pat : Nat) : Int) / 2 ^ k = ((qk : Nat) : Int) by rw [← HQK.out]; simp]
 apply Z.out; clear Z K
 refine fp fun K Z => ?_
 go_simp
 rw [u32_and1 qk hqk32, HBQ.out]
 apply Z.out; clear Z K
 refine fp fun K Z => ?_
 go_simp
 try rw [r1]
 apply Z.out; clear Z K
 refine fp fun K Z => ?_
 go_simp
 apply Z.out; clear Z K
 refine og 5 54 true ?_ fun K Z => ?_
 · (
 simp (decide := true) only [Fact.G, reduceIte, hf.size])
 go_simp
 apply Z.out; clear Z K
 refine og 5 54 true ?_ fun K Z => ?_
 · (
 simp (decide := true) only [Fact.G, reduceIte, hf.size])
 go_simp
 apply Z.out; clear Z K
 refine og 5 54 true ?_ fun K Z => ?_
 · (
 simp (decide := true) only [Fact.G, reduceIte, hf.size])
 go_simp
 apply Z.out; clear Z K
 refine og 5 54 true ?_ fun K Z => ?_
 · (
 simp (decide := true) only [Fact.G, reduceIte, hf.size])
 go_simp
 try simp (disch := omega) only [Fact.W]
 apply Z.out; clear Z K
 refine og 5 54 true ?_ fun K Z => ?_
 · (
 simp (decide := true) only [Fact.G, reduceIte, hf.size])
 go_simp
 try rw [r2]
 apply Z.out; clear Z K
 refine fp fun K Z => ?_
 go_simp
 apply Z.out; clear Z K
 refine Fact.z hf fun fr1 hf1 hT => ?_
 have hKp : _ ∧ _ ∧ _ ∧ _ ∧ _ ∧ _ ∧ _ := ⟨hT 1, hT 2, hT 7, hT 9, hT 10, hT 11, hT 60⟩
 simp (decide := true) only [Fact.G, hf.size, reduceIte, s1, s2, s7, s9, s10, s11] at hKp
 replace hf := hf1; clear hT hf1 s1 s2 s7 s9 s10 s11 b49 b50 b51 b52 b53 b54 b55 b56 b57 b58 b59
 obtain ⟨s1, s2, s7, s9, s10, s11, s60⟩ := hKp
 refine nx (hK13 _ _ ?_)
 refine Fact.cond_f s60 ?_
 refine wp_skip ?_
 refine Fact.block_normal ?_
 refine Fact.then_normal ?_
 exact ⟨hf, s1, s2, s7, s9, s10, by rw [HTS.out, if_neg (by have := HQ0.out; omega)]; exact hom, hE, hbt⟩))
 · (
 clear hf s1 s2 s7 s9 s10 s38
 rintro fr wq ⟨hf, s1, s2, s7, s9, s10, hom2, hE2, hbt2⟩
 refine rg ?_
 have b39 := hf.b 39
 have b40 := hf.b 40
 refine fp fun K Z => ?_
 go_simp
 apply Z.out; clear Z K
 refine fp fun K Z => ?_
 go_simp
 try simp (disch := omega) only [Fact.W]
 apply Z.out; clear Z K
 refine fp fun K Z => ?_
 go_simp
 apply Z.out; clear Z K
 refine Fact.z hf fun fr1 hf1 hT => ?_
 have hKp : _ ∧ _ ∧ _ ∧ _ ∧ _ := ⟨hT 1, hT 2, hT 7, hT 9, hT 10⟩
 simp (decide := true) only [Fact.G, hf.size, reduceIte, s1, s2, s7, s9] at hKp
 replace hf := hf1; clear hT hf1 s1 s2 s7 s9 s10 b39 b40
 obtain ⟨s1, s2, s7, s9, s10⟩ := hKp
 refine Fact.then_normal ?_
 exact ⟨_, by have := HK.out; omega, k + 1, rfl, by omega, hf, s1, s2, s7, s9, by rw [s10]; rfl, hom2, hE2, hbt2⟩))
 · (
 have q1 : decide ((k : Int) < 32) = false := decide_eq_false (by omega)
 refine Fact.sq fun K14 hK14 => ?_
 refine Fact.sq fun K15 hK15 => ?_
 refine rg ?_
 have b32 := hf.b 32
 have b33 := hf.b 33
 have b34 := hf.b 34
 have b35 := hf.b 35
 have b36 := hf.b 36
 have b37 := hf.b 37
 refine fp fun K Z => ?_
 go_simp
 apply Z.out; clear Z K
 refine fp fun K Z => ?_
 go_simp
 apply Z.out; clear Z K
 refine fp fun K Z => ?_
 go_simp
 apply Z.out; clear Z K
 refine sk 2 34 true ?_ ?_
 · (
 simp (decide := true) only [Fact.G, reduceIte, hf.size, q1, Fact.N])
 refine sk 2 34 true ?_ ?_
 · (
 simp (decide := true) only [Fact.G, reduceIte, hf.size, q1, Fact.N])
 refine sk 2 34 true ?_ ?_
 · (
 simp (decide := true) only [Fact.G, reduceIte, hf.size, q1, Fact.N])
 refine fp fun K Z => ?_
 go_simp
 apply Z.out; clear Z K
 refine Fact.z hf fun fr1 hf1 hT => ?_
 have hKp : _ ∧ _ ∧ _ ∧ _ ∧ _ ∧ _ := ⟨hT 1, hT 2, hT 7, hT 9, hT 10, hT 38⟩
 simp (decide := true) only [Fact.G, hf.size, reduceIte, s1, s2, s7, s9, s10] at hKp
 replace hf := hf1; clear hT hf1 s1 s2 s7 s9 s10 b32 b33 b34 b35 b36 b37
 obtain ⟨s1, s2, s7, s9, s10, s38⟩ := hKp
 refine nx (hK15 _ _ ?_)
 refine Fact.cond_f s38 ?_
 have HT := HTL.out
 rw [show k = 32 by omega] at HT
 have HT2 := Lib.hid HT; clear HT q1 q2
 refine wp_exit ?_
 refine Fact.then_exit ?_
 refine Fact.then_exit ?_
 refine Fact.block_exit ?_
 refine nx (hK6 _ _ ?_)
 have hcv := OX.conv (.inr (hom.om hug))
 rw [HLL.out] at hcv
 have hszl : (bl l).size ≤ 900000000 := by rw [bl_size]; have := HLL.out; omega
 have HCV := Lib.hid hcv; clear hcv
 by_cases hls : l = SL
 · (
 have hbl2 : bl l = SA := by rw [hls, ← HWS.out, bl_wl]
 have HB2 := Lib.hid hbl2; clear hls
 have hcv := HCV.out
 rw [hbl2] at hcv hszl
 clear hbl2
 refine Fact.sq fun K16 hK16 => ?_
 refine rg ?_
 have b75 := hf.b 75
 have b76 := hf.b 76
 have b77 := hf.b 77
 have b74 := hf.b 74
 have b78 := hf.b 78
 have b79 := hf.b 79
 have b80 := hf.b 80
 have b13 := hf.b 13
 refine fp fun K Z => ?_
 go_simp
 apply Z.out; clear Z K
 refine fp fun K Z => ?_
 go_simp
 apply Z.out; clear Z K
 refine fp fun K Z => ?_
 go_simp
 go_at_call 15; refine (get15 wr SA hszl).mono ?_; rintro e w11 hget
 rw [HPG.out] at hget
 obtain ⟨svk, rfl, hrk, hb11⟩ := hget
 obtain ⟨Ak, ck, rfl, hck⟩ := hrk.form
 try dsimp only
 have hcv2 := OX.conv (.inr ((hom.later hb11).om hug))
 rw [HLL.out, HB2.out] at hcv2
 clear hcv
 replace hE := cL hb11 hE
 replace hbt := hbt.trans (hb11.mono hbt.size)
 try dsimp only
 apply Z.out; clear Z K
 refine fp fun K Z => ?_
 go_simp
 apply Z.out; clear Z K
 refine fp fun K Z => ?_
 go_simp
 apply Z.out; clear Z K
 refine fp fun K Z => ?_
 go_simp
 apply Z.out; clear Z K
 refine fp fun K Z => ?_
 go_simp
 apply Z.out; clear Z K
 refine fp fun K Z => ?_
 go_simp
 apply Z.out; clear Z K
 refine fp fun K Z => ?_
 go_simp
 apply Z.out; clear Z K
 refine fp fun K Z => ?_
 go_simp
 apply Z.out; clear Z K
 refine fp fun K Z => ?_
 go_simp
 apply Z.out; clear Z K
 refine Fact.z hf fun fr1 hf1 hT => ?_
 have hKp : _ ∧ _ ∧ _ ∧ _ := ⟨hT 1, hT 7, hT 9, hT 14⟩
 simp (decide := true) only [Fact.G, hf.size, reduceIte, s1, s7, s9] at hKp
 replace hf := hf1; clear hT hf1 s1 s2 s7 s9 s10 s38 b75 b76 b77 b74 b78 b79 b80 b13
 obtain ⟨s1, s7, s9, s14⟩ := hKp
 obtain ⟨W11, hW11⟩ : ∃ W0, w11.alloc (.cells #[.slice Ak fa.length ck, .int .u64 ia] 25) = W0 := ⟨_, rfl⟩
 try rw [hW11]
 obtain ⟨hbx, -, -, -, -⟩ := box2 hW11
 clear hW11
 replace hE := cL hbx hE
 replace hbt := hbt.trans (hbx.mono hbt.size)
 have hcv3 := OX.conv (.inr (((hom.later hb11).later hbx).om hug))
 rw [HLL.out, HB2.out] at hcv3
 clear hcv2
 refine nx (hK16 _ _ ?_)
 refine Fact.sq fun K17 hK17 => ?_
 refine Fact.sq fun K18 hK18 => ?_
 refine rg ?_
 have b81 := hf.b 81
 have b82 := hf.b 82
 have b83 := hf.b 83
 refine fp fun K Z => ?_
 go_simp
 apply Z.out; clear Z K
 refine fp fun K Z => ?_
 go_simp
 apply Z.out; clear Z K
 refine fp fun K Z => ?_
 go_simp
 apply Z.out; clear Z K
 refine fp fun K Z => ?_
 go_simp
 apply Z.out; clear Z K
 refine Fact.z hf fun fr1 hf1 hT => ?_
 have hKp : _ ∧ _ ∧ _ ∧ _ := ⟨hT 1, hT 7, hT 14, hT 84⟩
 simp (decide := true) only [Fact.G, hf.size, reduceIte, s1, s7, s14] at hKp
 replace hf := hf1; clear hT hf1 s1 s7 s9 s14 b81 b82 b83
 obtain ⟨s1, s7, s14, s84⟩ := hKp
 refine nx (hK18 _ _ ?_)
 refine Fact.cond_t s84 ?_
 have q1 : decide (0 < SA.size) = true := decide_eq_true (by have := HSZ.out; omega)
 refine Fact.sq fun K19 hK19 => ?_
 refine rg ?_
 have b85 := hf.b 85
 have b86 := hf.b 86
 have b87 := hf.b 87
 have b88 := hf.b 88
 have b89 := hf.b 89
 have b90 := hf.b 90
 have b91 := hf.b 91
 refine fp fun K Z => ?_
 go_simp
 apply Z.out; clear Z K
 refine fp fun K Z => ?_
 go_simp
 apply Z.out; clear Z K
 refine fp fun K Z => ?_
 go_simp
 apply Z.out; clear Z K
 refine og 2 87 true ?_ fun K Z => ?_
 · (
 simp (decide := true) only [Fact.G, reduceIte, hf.size])
 go_simp
 apply Z.out; clear Z K
 refine og 2 87 true ?_ fun K Z => ?_
 · (
 simp (decide := true) only [Fact.G, reduceIte, hf.size])
 go_simp
 apply Z.out; clear Z K
 refine og 2 87 true ?_ fun K Z => ?_
 · (
 simp (decide := true) only [Fact.G, reduceIte, hf.size])
 go_simp
 try rw [q1]
 apply Z.out; clear Z K
 refine fp fun K Z => ?_
 go_simp
 apply Z.out; clear Z K
 refine fp fun K Z => ?_
 go_simp
 apply Z.out; clear Z K
 refine Fact.z hf fun fr1 hf1 hT => ?_
 have hKp := hT 6
 simp (decide := true) only [Fact.G, hf.size, reduceIte] at hKp
 replace hf := hf1; clear hT hf1 s1 s7 s14 s84 b85 b86 b87 b88 b89 b90 b91
 have s6 := hKp; clear hKp
 refine nx (hK19 _ _ ?_)
 refine wp_ret ?_
 refine Fact.then_ret ?_
 exact Fact.ret1 rfl hf s6 ⟨rfl, hbt⟩)
 · (
 have hq12 : ((bl l).toList == SA.toList) = false := str_eq.trans (decide_eq_false (fun e => hls (by rw [← wl_bl hlS, e, HWS.out])))
 have hno : pGet (bl l) = .error (16, 0) := by refine pGet_none ?_; rw [wl_bl hlS, ← HT2.out, ← HSL.out]; exact turn_told (seal_small hsb) p pat (by rw [HSL.out, HT2.out]; exact hls)
 have HNO := Lib.hid hno; clear hno hls
 have hcv := HCV.out
 obtain ⟨TL, hTL⟩ : ∃ x, bl l = x := ⟨_, rfl⟩
 rw [hTL] at hcv hszl HNO hq12
 have HTL2 := Lib.hid hTL; clear hTL
 refine Fact.sq fun K20 hK20 => ?_
 refine rg ?_
 have b75 := hf.b 75
 have b76 := hf.b 76
 have b77 := hf.b 77
 have b74 := hf.b 74
 have b78 := hf.b 78
 have b79 := hf.b 79
 have b80 := hf.b 80
 have b13 := hf.b 13
 refine fp fun K Z => ?_
 go_simp
 apply Z.out; clear Z K
 refine fp fun K Z => ?_
 go_simp
 apply Z.out; clear Z K
 refine fp fun K Z => ?_
 go_simp
 go_at_call 15; refine (get15 wr TL hszl).mono ?_; rintro e w11 hget
 rw [HNO.out] at hget
 obtain ⟨qa, rfl, hqa1, hqa, hb11⟩ := hget
 try dsimp only at hqa ⊢
 have hcv2 := OX.conv (.inr ((hom.later hb11).om hug))
 rw [HLL.out, HTL2.out] at hcv2
 clear hcv
 replace hE := cL hb11 hE
 replace hbt := hbt.trans (hb11.mono hbt.size)
 try dsimp only
 apply Z.out; clear Z K
 refine fp fun K Z => ?_
 go_simp
 apply Z.out; clear Z K
 refine fp fun K Z => ?_
 go_simp
 apply Z.out; clear Z K
 refine fp fun K Z => ?_
 go_simp
 apply Z.out; clear Z K
 refine fp fun K Z => ?_
 go_simp
 apply Z.out; clear Z K
 refine fp fun K Z => ?_
 go_simp
 apply Z.out; clear Z K
 refine fp fun K Z => ?_
 go_simp
 apply Z.out; clear Z K
 refine fp fun K Z => ?_
 go_simp
 apply Z.out; clear Z K
 refine fp fun K Z => ?_
 go_simp
 apply Z.out; clear Z K
 refine Fact.z hf fun fr1 hf1 hT => ?_
 have hKp : _ ∧ _ ∧ _ ∧ _ := ⟨hT 1, hT 7, hT 9, hT 14⟩
 simp (decide := true) only [Fact.G, hf.size, reduceIte, s1, s7, s9] at hKp
 replace hf := hf1; clear hT hf1 s1 s2 s7 s9 s10 s38 b75 b76 b77 b74 b78 b79 b80 b13
 obtain ⟨s1, s7, s9, s14⟩ := hKp
 obtain ⟨W11, hW11⟩ : ∃ W0, w11.alloc (.cells #[.slice none 0 0, .int .u64 0] 25) = W0 := ⟨_, rfl⟩
 try rw [hW11]
 obtain ⟨hbx, -, -, -, -⟩ := box2 hW11
 clear hW11
 replace hE := cL hbx hE
 replace hbt := hbt.trans (hbx.mono hbt.size)
 have hcv3 := OX.conv (.inr (((hom.later hb11).later hbx).om hug))
 rw [HLL.out, HTL2.out] at hcv3
 clear hcv2
 replace hqa := (hbx.block qa (heap_lt hqa)).trans hqa
 refine nx (hK20 _ _ ?_)
 refine Fact.sq fun K21 hK21 => ?_
 refine Fact.sq fun K22 hK22 => ?_
 refine rg ?_
 have b81 := hf.b 81
 have b82 := hf.b 82
 have b83 := hf.b 83
 refine fp fun K Z => ?_
 go_simp
 apply Z.out; clear Z K
 refine fp fun K Z => ?_
 go_simp
 apply Z.out; clear Z K
 refine fp fun K Z => ?_
 go_simp
 apply Z.out; clear Z K
 refine fp fun K Z => ?_
 go_simp
 apply Z.out; clear Z K
 refine Fact.z hf fun fr1 hf1 hT => ?_
 have hKp : _ ∧ _ ∧ _ ∧ _ := ⟨hT 1, hT 7, hT 14, hT 84⟩
 simp (decide := true) only [Fact.G, hf.size, reduceIte, s1, s7, s14] at hKp
 replace hf := hf1; clear hT hf1 s1 s7 s9 s14 b81 b82 b83
 obtain ⟨s1, s7, s14, s84⟩ := hKp
 refine nx (hK22 _ _ ?_)
 refine Fact.cond_f s84 ?_
 clear hcv3 hq12
 obtain ⟨n, hn⟩ : ∃ x, bd.length = x := ⟨_, rfl⟩
 have hnL : n + 4 = L := by have := HBL.out; omega
 have hSZ := HSZ.out
 have hcut : SA.extract 0 n = bl bd := by rw [cut_bl, HWS.out, ← HSL.out, ← hn]; unfold Crc.seal'; rw [List.take_left]
 obtain ⟨TB, hTB⟩ : ∃ x, bl bd = x := ⟨_, rfl⟩
 rw [hTB] at hcut
 have hwtb : wl TB = bd := by rw [← hTB]; exact wl_bl hsb
 have hstb : TB.size = n := by rw [← wl_length, hwtb, hn]
 have HCUT := Lib.hid hcut; have HWTB := Lib.hid hwtb; have HSTB := Lib.hid hstb; have HN := Lib.hid hn; have HSA2 := Lib.hid hSZ; clear hcut hwtb hstb hn hTB hSZ
 refine wp_skip ?_
 refine nx (hK21 _ _ ?_)
 refine Fact.sq fun K23 hK23 => ?_
 refine rg ?_
 have b92 := hf.b 92
 have b93 := hf.b 93
 have b94 := hf.b 94
 have b95 := hf.b 95
 have b96 := hf.b 96
 refine fp fun K Z => ?_
 go_simp
 apply Z.out; clear Z K
 refine fp fun K Z => ?_
 go_simp
 apply Z.out; clear Z K
 refine fp fun K Z => ?_
 go_simp
 apply Z.out; clear Z K
 refine fp fun K Z => ?_
 go_simp
 try simp (disch := omega) only [Fact.W]
 rw [show ((SA.size : Nat) : Int) - 4 = ((n : Nat) : Int) by have := HSA2.out; omega, Fact.wrap_i64 (by omega) (by omega)]
 apply Z.out; clear Z K
 refine fp fun K Z => ?_
 go_simp
 rw [if_pos (by have := HSA2.out; omega), HCUT.out]
 rw [Oper.upon_value]
 apply Z.out; clear Z K
 refine fp fun K Z => ?_
 go_simp
 apply Z.out; clear Z K
 refine Fact.z hf fun fr1 hf1 hT => ?_
 have hKp : _ ∧ _ ∧ _ := ⟨hT 1, hT 14, hT 15⟩
 simp (decide := true) only [Fact.G, hf.size, reduceIte, s1, s14] at hKp
 replace hf := hf1; clear hT hf1 s1 s7 s14 s84 b92 b93 b94 b95 b96
 obtain ⟨s1, s14, s15⟩ := hKp
 refine nx (hK23 _ _ ?_)
 obtain ⟨m, hm⟩ : ∃ x, at_ % n = x := ⟨_, rfl⟩
 have hmn : m < n := by rw [← hm]; exact Nat.mod_lt _ (by omega)
 have HM := Lib.hid hm; clear hm
 obtain ⟨Q, hQ⟩ : ∃ x, TB.extract 0 m = x := ⟨_, rfl⟩
 have hwq : wl Q = bd.take m := by rw [← hQ, wl_extract, HWTB.out, List.drop_zero]
 have hsq : Q.size = m := by rw [← wl_length, hwq, List.length_take, HN.out]; omega
 have hqe := pAll_cut (q := Q) (m := m) (show 7 ≤ 100000 by omega) HKA.out.1 HKA.out.2.2.1 (may_out HMA.out).2.2.2 (by have := HKA.out.2.1; omega) hia (by rw [HBD.out]; exact hwq) (by rw [HBD.out, HN.out]; exact hmn) (by rw [HBD.out]; exact hsb) (by omega)
 obtain ⟨bz, hqe⟩ := hqe
 have HQ := Lib.hid hQ; have HQE := Lib.hid hqe; have HSQ := Lib.hid hsq; clear hQ hqe hwq hsq
 have hSTB := HSTB.out
 refine Fact.sq fun K24 hK24 => ?_
 refine rg ?_
 have b98 := hf.b 98
 have b99 := hf.b 99
 have b100 := hf.b 100
 have b101 := hf.b 101
 have b102 := hf.b 102
 have b103 := hf.b 103
 have b104 := hf.b 104
 have b105 := hf.b 105
 have b106 := hf.b 106
 have b97 := hf.b 97
 have b107 := hf.b 107
 have b108 := hf.b 108
 have b109 := hf.b 109
 have b17 := hf.b 17
 refine fp fun K Z => ?_
 go_simp
 apply Z.out; clear Z K
 refine fp fun K Z => ?_
 go_simp
 apply Z.out; clear Z K
 refine fp fun K Z => ?_
 go_simp
 rw [Fact.wrap_i64 (by omega) (by omega)]
 apply Z.out; clear Z K
 refine fp fun K Z => ?_
 go_simp
 apply Z.out; clear Z K
 refine fp fun K Z => ?_
 go_simp
 apply Z.out; clear Z K
 refine fp fun K Z => ?_
 go_simp
 first | rw [if_neg (by omega)] | skip
 rw [show ((at_ : Nat) : Int).tmod ((n : Nat) : Int) = ((m : Nat) : Int) by rw [Int.tmod_eq_emod_of_nonneg (by omega), ← HM.out, Int.natCast_emod]]
 rw [Oper.upon_value]
 apply Z.out; clear Z K
 refine fp fun K Z => ?_
 go_simp
 rw [if_pos (by omega), HQ.out]
 rw [Oper.upon_value]
 apply Z.out; clear Z K
 refine fp fun K Z => ?_
 go_simp
 go_at_call 17; refine (seal17 W11 Q (by have := HSQ.out; omega)).mono ?_; rintro e w15 ⟨rfl, hb15⟩
 replace hqa := (hb15.block qa (heap_lt hqa)).trans hqa
 replace hE := cL hb15 hE
 replace hbt := hbt.trans (hb15.mono hbt.size)
 try dsimp only
 apply Z.out; clear Z K
 refine fp fun K Z => ?_
 go_simp
 go_at_call 15; refine (get15 w15 (bl (Crc.seal' (wl Q))) (by rw [bl_size, Crc.seal_length, wl_length]; have := HSQ.out; omega)).mono ?_; rintro e w16 hget
 rw [pGet_seal, HQE.out] at hget
 obtain ⟨qb, rfl, hqb1, hqb, hb16⟩ := hget
 try dsimp only
 replace hqa := (hb16.block qa (heap_lt hqa)).trans hqa
 replace hE := cL hb16 hE
 replace hbt := hbt.trans (hb16.mono hbt.size)
 try dsimp only
 apply Z.out; clear Z K
 refine fp fun K Z => ?_
 go_simp
 apply Z.out; clear Z K
 refine fp fun K Z => ?_
 go_simp
 apply Z.out; clear Z K
 refine fp fun K Z => ?_
 go_simp
 apply Z.out; clear Z K
 refine fp fun K Z => ?_
 go_simp
 apply Z.out; clear Z K
 refine fp fun K Z => ?_
 go_simp
 apply Z.out; clear Z K
 refine fp fun K Z => ?_
 go_simp
 apply Z.out; clear Z K
 refine fp fun K Z => ?_
 go_simp
 apply Z.out; clear Z K
 refine fp fun K Z => ?_
 go_simp
 apply Z.out; clear Z K
 refine Fact.z hf fun fr1 hf1 hT => ?_
 have hKp : _ ∧ _ ∧ _ := ⟨hT 14, hT 15, hT 18⟩
 simp (decide := true) only [Fact.G, hf.size, reduceIte, s14, s15] at hKp
 replace hf := hf1; clear hT hf1 s1 s14 s15 b98 b99 b100 b101 b102 b103 b104 b105 b106 b97 b107 b108 b109 b17
 obtain ⟨s14, s15, s18⟩ := hKp
 obtain ⟨W15, hW15⟩ : ∃ W0, w16.alloc (.cells #[.slice none 0 0, .int .u64 0] 25) = W0 := ⟨_, rfl⟩
 try rw [hW15]
 obtain ⟨hbx5, -, -, -, -⟩ := box2 hW15
 clear hW15
 replace hE := cL hbx5 hE
 replace hbt := hbt.trans (hbx5.mono hbt.size)
 replace hqa := (hbx5.block qa (heap_lt hqa)).trans hqa
 clear hqb
 refine nx (hK24 _ _ ?_)
 obtain ⟨R, hR⟩ : ∃ x, TB ++ (⟨#[0]⟩ : ByteArray) = x := ⟨_, rfl⟩
 have hwr : wl R = bd ++ [0] := by rw [← hR, wl_append, HWTB.out]; rfl
 have hsr : R.size = n + 1 := by rw [← wl_length, hwr, List.length_append, HN.out]; rfl
 have hre := pAll_more (s := R) (show 7 ≤ 100000 by omega) HKA.out.1 HKA.out.2.2.1 (may_out HMA.out).2.2.2 (by have := HKA.out.2.1; omega) hia (post := [0]) (by simp) (by rw [HBD.out]; exact hwr)
 rw [HBD.out, HN.out] at hre
 have HR := Lib.hid hR; have HRE := Lib.hid hre; have HSR := Lib.hid hsr; clear hR hre hwr hsr
 refine Fact.sq fun K25 hK25 => ?_
 refine rg ?_
 have b111 := hf.b 111
 have b112 := hf.b 112
 have b113 := hf.b 113
 have b114 := hf.b 114
 have b110 := hf.b 110
 have b115 := hf.b 115
 have b116 := hf.b 116
 have b117 := hf.b 117
 have b20 := hf.b 20
 refine fp fun K Z => ?_
 go_simp
 apply Z.out; clear Z K
 refine fp fun K Z => ?_
 go_simp
 try simp (disch := omega) only [Fact.W]
 rw [if_neg (by omega), HR.out]
 rw [Oper.upon_value]
 apply Z.out; clear Z K
 refine fp fun K Z => ?_
 go_simp
 go_at_call 17; refine (seal17 W15 R (by have := HSR.out; omega)).mono ?_; rintro e w17 ⟨rfl, hb17⟩
 replace hqa := (hb17.block qa (heap_lt hqa)).trans hqa
 replace hE := cL hb17 hE
 replace hbt := hbt.trans (hb17.mono hbt.size)
 try dsimp only
 apply Z.out; clear Z K
 refine fp fun K Z => ?_
 go_simp
 go_at_call 15; refine (get15 w17 (bl (Crc.seal' (wl R))) (by rw [bl_size, Crc.seal_length, wl_length]; have := HSR.out; omega)).mono ?_; rintro e w18 hget
 rw [pGet_seal, HRE.out] at hget
 obtain ⟨qc, rfl, hqc1, hqc, hb18⟩ := hget
 try dsimp only at hqc ⊢
 replace hqa := (hb18.block qa (heap_lt hqa)).trans hqa
 replace hE := cL hb18 hE
 replace hbt := hbt.trans (hb18.mono hbt.size)
 try dsimp only
 apply Z.out; clear Z K
 refine fp fun K Z => ?_
 go_simp
 apply Z.out; clear Z K
 refine fp fun K Z => ?_
 go_simp
 apply Z.out; clear Z K
 refine fp fun K Z => ?_
 go_simp
 apply Z.out; clear Z K
 refine fp fun K Z => ?_
 go_simp
 apply Z.out; clear Z K
 refine fp fun K Z => ?_
 go_simp
 apply Z.out; clear Z K
 refine fp fun K Z => ?_
 go_simp
 apply Z.out; clear Z K
 refine fp fun K Z => ?_
 go_simp
 apply Z.out; clear Z K
 refine fp fun K Z => ?_
 go_simp
 apply Z.out; clear Z K
 refine Fact.z hf fun fr1 hf1 hT => ?_
 have hKp : _ ∧ _ ∧ _ ∧ _ := ⟨hT 14, hT 15, hT 18, hT 21⟩
 simp (decide := true) only [Fact.G, hf.size, reduceIte, s14, s15, s18] at hKp
 replace hf := hf1; clear hT hf1 s14 s15 s18 b111 b112 b113 b114 b110 b115 b116 b117 b20
 obtain ⟨s14, s15, s18, s21⟩ := hKp
 obtain ⟨W16, hW16⟩ : ∃ W0, w18.alloc (.cells #[.slice none 0 0, .int .u64 0] 25) = W0 := ⟨_, rfl⟩
 try rw [hW16]
 obtain ⟨hbx6, -, -, -, -⟩ := box2 hW16
 clear hW16
 replace hE := cL hbx6 hE
 replace hbt := hbt.trans (hbx6.mono hbt.size)
 replace hqa := (hbx6.block qa (heap_lt hqa)).trans hqa
 replace hqc := (hbx6.block qc (heap_lt hqc)).trans hqc
 refine nx (hK25 _ _ ?_)
 refine Fact.sq fun K26 hK26 => ?_
 refine rg ?_
 have b118 := hf.b 118
 have b119 := hf.b 119
 have b120 := hf.b 120
 have b121 := hf.b 121
 have b122 := hf.b 122
 have b123 := hf.b 123
 have b124 := hf.b 124
 have b125 := hf.b 125
 have b126 := hf.b 126
 have b127 := hf.b 127
 have b128 := hf.b 128
 have b129 := hf.b 129
 have b130 := hf.b 130
 have b131 := hf.b 131
 refine fp fun K Z => ?_
 go_simp
 apply Z.out; clear Z K
 refine fp fun K Z => ?_
 go_simp
 apply Z.out; clear Z K
 refine fp fun K Z => ?_
 go_simp
 go_at_call 18; refine (told_yes W16 qa 16 0 16 0 hqa hE (by decide) ⟨rfl, rfl⟩).mono ?_; rintro e w19 ⟨rfl, hb19⟩
 try rw [beq_self_eq_true]
 replace hqc := (hb19.block qc (heap_lt hqc)).trans hqc
 replace hE := cL hb19 hE
 replace hbt := hbt.trans (hb19.mono hbt.size)
 try dsimp only
 apply Z.out; clear Z K
 refine fp fun K Z => ?_
 go_simp
 apply Z.out; clear Z K
 refine og 3 121 true ?_ fun K Z => ?_
 · (
 simp (decide := true) only [Fact.G, reduceIte, hf.size])
 go_simp
 apply Z.out; clear Z K
 refine og 3 121 true ?_ fun K Z => ?_
 · (
 simp (decide := true) only [Fact.G, reduceIte, hf.size])
 go_simp
 apply Z.out; clear Z K
 refine fp fun K Z => ?_
 go_simp
 apply Z.out; clear Z K
 refine fp fun K Z => ?_
 go_simp
 apply Z.out; clear Z K
 refine og 7 125 true ?_ fun K Z => ?_
 · (
 simp (decide := true) only [Fact.G, reduceIte, hf.size])
 go_simp
 apply Z.out; clear Z K
 refine og 7 125 true ?_ fun K Z => ?_
 · (
 simp (decide := true) only [Fact.G, reduceIte, hf.size])
 go_simp
 apply Z.out; clear Z K
 refine og 7 125 true ?_ fun K Z => ?_
 · (
 simp (decide := true) only [Fact.G, reduceIte, hf.size])
 go_simp
 apply Z.out; clear Z K
 refine og 7 125 true ?_ fun K Z => ?_
 · (
 simp (decide := true) only [Fact.G, reduceIte, hf.size])
 go_simp
 apply Z.out; clear Z K
 refine og 7 125 true ?_ fun K Z => ?_
 · (
 simp (decide := true) only [Fact.G, reduceIte, hf.size])
 go_simp
 go_at_call 18; refine (told_yes w19 qc 4 n 4 n hqc hE (by decide) ⟨rfl, rfl⟩).mono ?_; rintro e w20 ⟨rfl, hb20⟩
 try rw [beq_self_eq_true]
 replace hE := cL hb20 hE
 replace hbt := hbt.trans (hb20.mono hbt.size)
 try dsimp only
 apply Z.out; clear Z K
 refine fp fun K Z => ?_
 go_simp
 apply Z.out; clear Z K
 refine fp fun K Z => ?_
 go_simp
 apply Z.out; clear Z K
 refine Fact.z hf fun fr1 hf1 hT => ?_
 have hKp := hT 6
 simp (decide := true) only [Fact.G, hf.size, reduceIte] at hKp
 replace hf := hf1; clear hT hf1 s14 s15 s18 s21 b118 b119 b120 b121 b122 b123 b124 b125 b126 b127 b128 b129 b130 b131
 have s6 := hKp; clear hKp
 refine nx (hK26 _ _ ?_)
 refine wp_ret ?_
 exact Fact.ret1 rfl hf s6 ⟨rfl, hbt⟩)))
end Dw
end Go.Proofs.YtdkbgbdgmihlmaaDoor
