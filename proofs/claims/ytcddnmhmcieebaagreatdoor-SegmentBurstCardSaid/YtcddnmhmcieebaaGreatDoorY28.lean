/- law16: SegmentBurst. -/
import Derived.Test.YtcddnmhmcieebaaGreatDoorY25
import Derived.Test.YtcddnmhmcieebaaGreatDoorY27
import Derived.Test.YtcddnmhmcieebaaGreatDoorTools
import Derived.Test.YtcddnmhmcieebaaGreatDoorY11
import Derived.Test.YtcddnmhmcieebaaGreatDoorY12
import Derived.ProofKit
import Derived.Deep.Slices
import Derived.Deep.Fields
import Derived.OpenShut
import Derived.Test.YtcddnmhmcieebaaGreatDoorProg
import Derived.Test.YtcddnmhmcieebaaGreatDoorRows
import Derived.Below
import Derived.Test.YtcddnmhmcieebaaGreatDoorTie
import Derived.LaidMore
import Derived.Stop.Joined
namespace Go.Proofs.YtcddnmhmcieebaaGreatDoor
open Go.RowKit
set_option linter.unusedSimpArgs false
set_option linter.unusedVariables false
set_option linter.unnecessarySimpa false
namespace Dw
set_option maxHeartbeats 4000000 in
set_option maxRecDepth 100000 in
theorem burst3 (w : World) (ds : List Dra) (dv : Value) (hrd : RDs w w.heap.size dv ds) (hokd : ∀ d ∈ ds, okD d) (at_ pat : Nat) (hat : at_ < 65536) (hpat : pat < 4294967296) : Calls Tryz.prog 3 #[dv, .int .u16 at_, .int .u32 pat] w fun e w1 => e = .returned (.bool true) ∧ Below w.heap.size w w1 := by
 refine Zn3 78 Tryz.func3 fun fr hf s0 s1 s2 => ?_
 have hlo := (list_ok (n := 60) hokd).1
 have hlr := (list_ok (n := 60) hokd).2.1
 have hll := (list_ok (n := 60) hokd).2.2
 have hlc := list_chk (n := 60) hokd
 obtain ⟨own, hown⟩ : ∃ x, listOf ds 60 = x := ⟨_, rfl⟩
 rw [hown] at hlo hlr hll hlc
 have hini := own_init_lt hlo hlr
 have HOWN := Lib.hid hown; have HLO := Lib.hid hlo; have HLC := Lib.hid hlc; clear hown hlo hlc hlr
 refine Ze fun _ hK1 => ?_
 refine Zr [] hf ?_
 refine Zq3 0 1 2 hf ?_
 clear hf s0 s1 s2; intro fr1 hf sS
 refine Zs hK1 fun _ hK2 => ?_
 refine Ze fun _ hK3 => rg ?_
 have bB := hf.b 14
 refine fp fun K Z => ?_
 go_simp
 go_at_call 8; refine (works8 w).mono ?_; rintro e w1 ⟨rfl, hb1⟩
 have hrd1 := (hrd.below hb1).more hb1.size
 try dsimp only
 apply Z.out; clear Z K
 refine Za ?_
 refine Fact.nil (Zq4 0 1 2 15 hf ?_)
 clear hf sS bB; intro fr1 hf sS
 refine Zx hK3 ?_
 refine Fact.cond_f sS.2.2.2 ?_
 refine wp_skip ?_
 refine Zt hK2 fun _ hK4 => ?_
 have bB := hf.B6 17 18 19 16 20 21
 refine Za ?_
 refine fp fun K Z => ?_
 go_simp
 go_at_call 10; refine (list_ w1 ds 60 (by omega) dv hrd1 hokd).mono ?_; rintro e w2 ⟨v1, rfl, how1, hb2⟩
 rw [HOWN.out] at how1
 have hre1 := OE.re (es := own) how1
 have hbf := build_facts w2 own _ v1 (Nat.le_refl _) hre1 (by omega) (fun e he => (HLO.out e he).1)
 have hbt := hb1.trans (hb2.mono hb1.size)
 have HBF := Lib.hid hbf; clear hbf
 try dsimp only
 apply Z.out; clear Z K
 refine fp fun K Z => ?_
 go_simp
 go_at_call 9; refine (make9 w2 own _ v1 (Nat.le_refl _) hre1 (by omega) (fun e he => (HLO.out e he).1) hini).mono ?_; rintro e w3 ⟨rfl, hb3⟩
 obtain ⟨cd, hcd⟩ : ∃ x, (makeV own).2 = x := ⟨_, rfl⟩
 obtain ⟨SA, hSA⟩ : ∃ x, (makeV own).1 = x := ⟨_, rfl⟩
 rw [hcd, hSA]
 have HCD := Lib.hid hcd; have HSA := Lib.hid hSA; clear hcd hSA
 replace hbt := hbt.trans (hb3.mono hbt.size)
 try dsimp only
 apply Z.out; clear Z K
 iterate 5 refine Za ?_
 refine Fact.nil (Zq4 1 2 7 8 hf ?_)
 clear hf sS bB; intro fr1 hf sS
 clear hrd hrd1 how1 hre1 hb1 hb2 hb3
 refine Zx hK4 ?_
 have hcc := makeV_code HLC.out
 rw [HCD.out] at hcc
 rcases (by omega : cd = 2 ∨ (cd = 0 ∧ pat = 0) ∨ (cd = 0 ∧ 0 < pat)) with hc | hc | hc
 · (
 subst hc
 have q1 : (((2 : Nat) : Int) != 0) = true := rfl
 have q2 : (((2 : Nat) : Int) == 2) = true := rfl
 refine Ze fun _ hK5 => ?_
 refine Ze fun _ hK6 => rg ?_
 have bB := hf.B5 22 23 24 25 26
 iterate 3 refine Za ?_
 refine Zk ?_ (hv := by simp (decide := true) only [Fact.G, reduceIte, hf.size, Fact.N, q1, q2])
 refine Zk ?_ (hv := by simp (decide := true) only [Fact.G, reduceIte, hf.size, Fact.N, q1, q2])
 refine Za ?_
 refine Fact.nil (Zq5 1 2 7 8 27 hf ?_)
 clear hf sS bB; intro fr1 hf sS
 refine Zx hK6 ?_
 refine Fact.cond_t sS.2.2.2.2 ?_
 refine Ze fun _ hK7 => rg ?_
 have bB := hf.B6 28 29 30 31 32 33
 iterate 3 refine Za ?_
 refine Zk ?_ (hv := by simp (decide := true) only [Fact.G, reduceIte, hf.size, Fact.N, q1, q2])
 refine Zk ?_ (hv := by simp (decide := true) only [Fact.G, reduceIte, hf.size, Fact.N, q1, q2])
 iterate 2 refine Za ?_
 refine Fact.nil (Zq1 6 hf ?_)
 clear hf sS bB; intro fr1 hf s6
 refine Zx hK7 ?_
 refine Zret ?_
 exact Fact.ret1 rfl hf s6 ⟨rfl, hbt⟩)
 · (
 obtain ⟨hc, hp0⟩ := hc
 subst hc
 subst hp0
 have q1 : (((0 : Nat) : Int) != 0) = false := rfl
 have q2 : (((0 : Nat) : Int) == 2) = false := rfl
 have q3 : (((0 : Nat) : Int) == 0) = true := rfl
 refine Ze fun _ hK8 => ?_
 refine Ze fun _ hK9 => rg ?_
 have bB := hf.B5 22 23 24 25 26
 iterate 3 refine Za ?_
 refine Zg ?_ (hv := by simp (decide := true) only [Fact.G, reduceIte, hf.size, q1, q2, q3])
 refine Zg ?_ (hv := by simp (decide := true) only [Fact.G, reduceIte, hf.size, q1, q2, q3])
 refine Za ?_
 refine Fact.nil (Zq5 1 2 7 8 27 hf ?_)
 clear hf sS bB; intro fr1 hf sS
 refine Zx hK9 ?_
 refine Fact.cond_t sS.2.2.2.2 ?_
 refine Ze fun _ hK10 => rg ?_
 have bB := hf.B6 28 29 30 31 32 33
 iterate 3 refine Za ?_
 refine Zg ?_ (hv := by simp (decide := true) only [Fact.G, reduceIte, hf.size, q1, q2, q3])
 refine Zg ?_ (hv := by simp (decide := true) only [Fact.G, reduceIte, hf.size, q1, q2, q3])
 iterate 2 refine Za ?_
 refine Fact.nil (Zq1 6 hf ?_)
 clear hf sS bB; intro fr1 hf s6
 refine Zx hK10 ?_
 refine Zret ?_
 exact Fact.ret1 rfl hf s6 ⟨rfl, hbt⟩)
 · (
 obtain ⟨hc, hp0⟩ := hc
 subst hc
 have q1 : (((0 : Nat) : Int) != 0) = false := rfl
 have q2 : ((pat : Int) == 0) = false := beq_eq_false_iff_ne.2 (by omega)
 refine Ze fun _ hK11 => ?_
 refine Ze fun _ hK12 => rg ?_
 have bB := hf.B5 22 23 24 25 26
 iterate 3 refine Za ?_
 refine Zg ?_ (hv := by simp (decide := true) only [Fact.G, reduceIte, hf.size, q1, q2])
 refine og 2 24 false ?_ fun K Z => ?_
 · (
 simp (decide := true) only [Fact.G, reduceIte, hf.size, q1, q2])
 go_simp
 try rw [q2]
 apply Z.out; clear Z K
 refine Za ?_
 refine Fact.nil (Zq5 1 2 7 8 27 hf ?_)
 clear hf sS bB; intro fr1 hf sS
 refine Zx hK12 ?_
 refine Fact.cond_f sS.2.2.2.2 ?_
 clear q1 q2 hp0
 obtain ⟨bd, hws, hsb, hb1, hb9, hpg⟩ := make_sealed HLC.out HCD.out HBF.out (by omega) hini
 rw [HSA.out] at hws hpg
 obtain ⟨SL, hSL⟩ : ∃ x, Crc.seal' bd = x := ⟨_, rfl⟩
 have hss : Small SL := by rw [← hSL]; exact seal_small hsb
 have hln : SL.length = bd.length + 4 := by rw [← hSL, Crc.seal_length]
 have hsz : SA.size = SL.length := by rw [← wl_length, hws, hSL]
 rw [hSL] at hws
 obtain ⟨L, hL⟩ : ∃ x, SL.length = x := ⟨_, rfl⟩
 have hL5 : 5 ≤ L ∧ L ≤ 800000004 := by omega
 have hszL : SA.size = L := by omega
 have HWS := Lib.hid hws; have HSL := Lib.hid hSL; have HL := Lib.hid hL; have HSZ := Lib.hid hszL; clear hws hSL hL hpg hszL hln hsz hb1 hb9
 refine wp_skip ?_
 refine Zx hK11 ?_
 have hsz3 : w.heap.size ≤ w3.heap.size := hbt.size
 refine Ze fun _ hK13 => rg ?_
 have bB := hf.B2 34 35
 refine Za ?_
 obtain ⟨s1, s2, s7, s8, s27⟩ := sS
 clear bB
 refine Fact.reL (n := 78) (by simp only [Fact.G, hf.size]) hf.defers (fun fr1 hf1 hT => ?_)
 have hKp := Fact.h3 hT 1 2 34
 simp (decide := true) only [Fact.G, hf.size, reduceIte, s1, s2] at hKp
 replace hf := hf1; clear hT hf1 s1 s2 s7 s8 s27
 obtain ⟨s1, s2, s34⟩ := hKp
 have bB := hf.b 35
 refine ⟨?_⟩
 refine wpList_plain rfl fun KL hKL => ?_
 refine wp_conv _ SA rfl (Fact.eval_tmp s34) (by have := HSZ.out; unfold maxLen; omega) (fun v1 w4 hom4 hb4 => hKL _ _ ?_)
 rw [HWS.out] at hom4
 refine Fact.L.out ?_
 refine Za ?_
 refine Fact.nil (Zq3 1 2 9 hf ?_)
 clear hf s1 s2 s34 bB; intro fr1 hf sS
 obtain ⟨g, cap, hv1, hwg, hom⟩ := hom4.gb
 rw [HL.out] at hv1
 subst hv1
 have hgl := hom.lt
 clear hom4
 replace hbt := hbt.trans (hb4.mono hbt.size)
 have hug : w.heap.size ≤ g := Nat.le_trans hsz3 hwg
 refine Zx hK13 ?_
 obtain ⟨p, hp⟩ : ∃ x, at_ % (8 * L) = x := ⟨_, rfl⟩
 have hpL : p < 8 * L := by rw [← hp]; exact Nat.mod_lt _ (by omega)
 have HP := Lib.hid hp; clear hp
 refine Ze fun _ hK14 => rg ?_
 have bB := hf.B6 36 37 38 39 40 41
 refine Za ?_
 refine fp fun K Z => ?_
 go_simp
 rw [Fact.wrap_i64 (by omega) (by omega)]
 apply Z.out; clear Z K
 iterate 2 refine Za ?_
 refine Zb ?_
 refine fp fun K Z => ?_
 go_simp
 rw [if_neg (by omega), show ((at_ : Nat) : Int).tmod (8 * ((L : Nat) : Int)) = ((p : Nat) : Int) by rw [Int.tmod_eq_emod_of_nonneg (by omega), ← HP.out, Int.natCast_emod, Int.natCast_mul]; rfl]
 rw [Oper.upon_value]
 apply Z.out; clear Z K
 refine Za ?_
 refine Fact.nil (Zq3 2 9 10 hf ?_)
 clear hf sS bB; intro fr1 hf sS
 refine Zs hK14 fun _ hK15 => ?_
 refine Zr [] hf ?_
 refine Zq4 2 9 10 11 hf ?_
 clear hf sS; intro fr1 hf sS
 refine Zs hK15 fun _ hK16 => ?_
 refine Ze fun _ hK17 => ?_
 refine Zr [] hf ?_
 refine Zq5 2 9 10 11 12 hf ?_
 clear hf sS; intro fr1 hf sS
 refine Zx hK17 ?_
 refine wp_block ?_
 refine wp_loop_ghost (fun gk fr wr => ∃ (k : Nat), gk = 32 - k ∧ k ≤ 32 ∧ Fact.Fr 78 fr ∧ (fr.tmps[2]? = some (.int .u32 pat) ∧ fr.tmps[9]? = some (.slice (some ⟨g, 0, none⟩) L cap) ∧ fr.tmps[10]? = some (.int .i64 p) ∧ fr.tmps[11]? = some (.bool (trnB p pat L k)) ∧ fr.tmps[12]? = some (.int .i64 k)) ∧ OMg wr g cap (turnL SL p pat k) ∧ Below w.heap.size w wr) (32) ?_ ?_
 · (
 obtain ⟨s2, s9, s10, s11, s12⟩ := sS
 exact ⟨0, rfl, Nat.zero_le _, hf, ⟨s2, s9, s10, s11, s12⟩, hom, hbt⟩)
 · (
 clear hf sS
 clear hom hbt
 rintro gk fr wr ⟨k, hk, hk32, hf, ⟨s2, s9, s10, s11, s12⟩, hom, hbt⟩
 have HK := Lib.hid hk; clear hk
 obtain ⟨l, hl⟩ : ∃ x, turnL SL p pat k = x := ⟨_, rfl⟩
 obtain ⟨tb, htb⟩ : ∃ x, trnB p pat L k = x := ⟨_, rfl⟩
 rw [hl] at hom
 rw [htb] at s11
 have hlL : l.length = L := by rw [← hl, turnL_length]; exact HL.out
 have hlS : Small l := by rw [← hl]; exact turnL_small hss p pat k
 have HLL := Lib.hid hlL; have HTL := Lib.hid hl; have HTB := Lib.hid htb; clear hlL hl htb
 refine Ze fun _ hK18 => ?_
 refine Ze fun _ hK19 => ?_
 refine Zr [42] hf ?_
 refine Zq6 2 9 10 11 12 43 hf ?_
 clear hf s2 s9 s10 s11 s12; intro fr1 hf sS
 refine Zx hK19 ?_
 refine Fact.cond_s sS.2.2.2.2.2 (fun hq => ?_) (fun hq => ?_)
 · (
 have hlt : k < 32 := by have h9 := of_decide_eq_true hq; omega
 clear hq
 refine wp_skip ?_
 refine Zx hK18 ?_
 refine Fact.seq_meet (fun fr wq => Fact.Fr 78 fr ∧ (fr.tmps[2]? = some (.int .u32 pat) ∧ fr.tmps[9]? = some (.slice (some ⟨g, 0, none⟩) L cap) ∧ fr.tmps[10]? = some (.int .i64 p) ∧ fr.tmps[11]? = some (.bool (trnB p pat L (k + 1))) ∧ fr.tmps[12]? = some (.int .i64 k)) ∧ OMg wq g cap (turnL SL p pat (k + 1)) ∧ Below w.heap.size w wq) ?_ ?_
 · (
 obtain ⟨pl, hpl⟩ : ∃ x, p + k = x := ⟨_, rfl⟩
 have hpl3 : pl ≤ 8000000000 := by omega
 have HPL := Lib.hid hpl; clear hpl
 refine wp_block ?_
 refine Ze fun _ hK20 => rg ?_
 have bB := hf.B3 46 47 48
 iterate 2 refine Za ?_
 refine fp fun K Z => ?_
 go_simp
 try simp (disch := omega) only [Fact.W]
 rw [show ((p : Nat) : Int) + ((k : Nat) : Int) = ((pl : Nat) : Int) by have := HPL.out; omega]
 apply Z.out; clear Z K
 refine Za ?_
 refine Fact.nil (Zq6 2 9 10 11 12 13 hf ?_)
 clear hf sS bB; intro fr1 hf sS
 refine Zx hK20 ?_
 obtain ⟨qk, hqk⟩ : ∃ x, pat / 2 ^ k = x := ⟨_, rfl⟩
 have hqk32 : qk < 4294967296 := by rw [← hqk]; exact Nat.lt_of_le_of_lt (Nat.div_le_self _ _) hpat
 have HQK := Lib.hid hqk; clear hqk
 obtain ⟨bq, hbq⟩ : ∃ x, qk % 2 = x := ⟨_, rfl⟩
 have hb2q : bq < 2 := by omega
 have HBQ := Lib.hid hbq; clear hbq
 have hts := turnL_step (l := SL) (p := p) (pat := pat) (k := k)
 have htr := trn_step (p := p) (pat := pat) (L := L) (k := k)
 rw [HTL.out, HQK.out, HBQ.out, HPL.out, HL.out] at hts
 rw [HTB.out, HQK.out, HBQ.out, HPL.out] at htr
 have HTS := Lib.hid hts; have HTR := Lib.hid htr; clear hts htr
 rcases (by omega : bq = 0 ∨ (bq = 1 ∧ pl < 8 * L) ∨ (bq = 1 ∧ 8 * L ≤ pl)) with hq0 | hq0 | hq0
 · (
 have HQ0 := Lib.hid hq0; clear hq0
 have r1 : ((bq : Int) == 1) = false := beq_eq_false_iff_ne.2 (by have := HQ0.out; omega)
 refine Ze fun _ hK21 => rg ?_
 have bB := And.intro (hf.B10 49 50 51 52 53 54 55 56 57 58) (hf.b 59)
 iterate 2 refine Za ?_
 refine fp fun K Z => ?_
 go_simp
 rw [show ((pat : Nat) : Int) / 2 ^ k = ((qk : Nat) : Int) by rw [← HQK.out]; simp]
 apply Z.out; clear Z K
 refine fp fun K Z => ?_
 go_simp
 rw [u32_and1 qk hqk32, HBQ.out]
 apply Z.out; clear Z K
 refine fp fun K Z => ?_
 go_simp
 try rw [r1]
 apply Z.out; clear Z K
 refine Za ?_
 iterate 5 refine Zk ?_
 refine Za ?_
 refine Fact.nil (Zq7 2 9 10 11 12 13 60 hf ?_)
 clear hf sS bB; intro fr1 hf sS
 refine Zx hK21 ?_
 refine Fact.cond_f sS.2.2.2.2.2.2 ?_
 refine wp_skip ?_
 refine Fact.block_normal ?_
 refine Fact.then_normal ?_
 obtain ⟨s2, s9, s10, s11, s12, s13, s60⟩ := sS
 exact ⟨hf, ⟨s2, s9, s10, by rw [HTR.out, if_neg (by have := HQ0.out; omega)]; exact s11, s12⟩, by rw [HTS.out, if_neg (by have := HQ0.out; omega)]; exact hom, hbt⟩)
 · (
 have HQ0 := Lib.hid hq0; clear hq0
 have r1 : ((bq : Int) == 1) = true := beq_iff_eq.2 (by have := HQ0.out; omega)
 have r2 : decide ((pl : Int) < 8 * (L : Int)) = true := decide_eq_true (by have := HQ0.out.2; omega)
 refine Ze fun _ hK22 => rg ?_
 have bB := And.intro (hf.B10 49 50 51 52 53 54 55 56 57 58) (hf.b 59)
 iterate 2 refine Za ?_
 refine fp fun K Z => ?_
 go_simp
 rw [show ((pat : Nat) : Int) / 2 ^ k = ((qk : Nat) : Int) by rw [← HQK.out]; simp]
 apply Z.out; clear Z K
 refine fp fun K Z => ?_
 go_simp
 rw [u32_and1 qk hqk32, HBQ.out]
 apply Z.out; clear Z K
 refine fp fun K Z => ?_
 go_simp
 try rw [r1]
 apply Z.out; clear Z K
 refine Za ?_
 iterate 3 refine Zg ?_
 refine og 5 54 true ?_ fun K Z => ?_
 · (
 simp (decide := true) only [Fact.G, reduceIte, hf.size])
 go_simp
 try simp (disch := omega) only [Fact.W]
 try rw [Fact.wrap_i64 (by omega) (by omega)]
 apply Z.out; clear Z K
 refine og 5 54 true ?_ fun K Z => ?_
 · (
 simp (decide := true) only [Fact.G, reduceIte, hf.size])
 go_simp
 try rw [r2]
 apply Z.out; clear Z K
 refine Za ?_
 refine Fact.nil (Zq7 2 9 10 11 12 13 60 hf ?_)
 clear hf sS bB; intro fr1 hf sS
 refine Zx hK22 ?_
 refine Fact.cond_t sS.2.2.2.2.2.2 ?_
 obtain ⟨i8, hi8⟩ : ∃ x, pl / 8 = x := ⟨_, rfl⟩
 obtain ⟨b8, hb8⟩ : ∃ x, pl % 8 = x := ⟨_, rfl⟩
 have hi8L : i8 < L := by have := HQ0.out.2; omega
 have hb88 : b8 < 8 := by omega
 have HI8 := Lib.hid hi8; have HB8 := Lib.hid hb8; clear hi8 hb8
 obtain ⟨x8, hx8⟩ : ∃ x, l[i8]? = some x := ⟨_, List.getElem?_eq_getElem (by have := HLL.out; omega)⟩
 have hx256 := hlS x8 (List.mem_of_getElem? hx8)
 obtain ⟨c8, f8⟩ := hom.cell hx8
 have HX8 := Lib.hid hx8; clear hx8
 obtain ⟨m8, hm8⟩ : ∃ x, 2 ^ b8 = x := ⟨_, rfl⟩
 have hm256 : m8 < 256 := by rw [← hm8]; exact Nat.lt_of_lt_of_le (Nat.pow_lt_pow_right (by omega) hb88) (Nat.le_refl (2 ^ 8))
 have HM8 := Lib.hid hm8; clear hm8
 obtain ⟨y8, hy8⟩ : ∃ x, x8 ^^^ m8 = x := ⟨_, rfl⟩
 have HY8 := Lib.hid hy8; clear hy8
 refine Ze fun _ hK23 => ?_
 obtain ⟨s2, s9, s10, s11, s12, s13, s60⟩ := sS
 refine Stab.tb 78 fun hok => ?_
 refine Stab.mO 0 s9 hf hok ?_
 refine Stab.mO 1 s13 hf hok ?_
 apply Stab.tq 2 _ hf hok
 · (
 intro fr1 w1 hh hd hk K Z
 have s62 := Stab.v 1 0 hd hk []
 clear hd
 go_simp
 rw [show ((pl : Nat) : Int) / 8 = ((i8 : Nat) : Int) by have := HI8.out; omega, Fact.wrap_i64 (by omega) (by omega)]
 exact Stab.k Z)
 refine Stab.Ti 3 hf hok (fun _ _ h d => ad (Stab.vd 0 2 d []) (Stab.vd 2 0 d [])) ?_
 refine Stab.T 4 hf hok (fun _ _ h d => ad (Stab.vd 3 0 d []) (cL h.ext c8)) ?_
 refine Stab.mO 5 s13 hf hok ?_
 apply Stab.tq 6 _ hf hok
 · (
 intro fr1 w1 hh hd hk K Z
 have s66 := Stab.v 5 0 hd hk []
 clear hd
 go_simp
 rw [show ((pl : Nat) : Int).tmod 8 = ((b8 : Nat) : Int) by rw [Int.tmod_eq_emod_of_nonneg (by omega)]; have := HB8.out; omega]
 exact Stab.k Z)
 apply Stab.tq 7 _ hf hok
 · (
 intro fr1 w1 hh hd hk K Z
 have s67 := Stab.v 6 0 hd hk []
 clear hd
 go_simp
 rw [show ((2 : Int) ^ b8) = ((m8 : Nat) : Int) by rw [← HM8.out]; simp, Fact.wrap_u8 (by omega) (by omega)]
 exact Stab.k Z)
 apply Stab.tq 8 _ hf hok
 · (
 intro fr1 w1 hh hd hk K Z
 have s65 := Stab.v 4 3 hd hk []
 have s68 := Stab.v 7 0 hd hk []
 clear hd
 go_simp
 rw [u8_xor_nat x8 m8 hx256 hm256, HY8.out]
 exact Stab.k Z)
 refine Tail.todo_tail (n := 78) (m := 9) (ws := []) (by kernel_rfl) hf.size hok.out rfl rfl (by kernel_rfl) (fun fr1 w1 hh hg => ?_)
 replace s2 := Stab.O hh s2
 replace s9 := Stab.O hh s9
 replace s10 := Stab.O hh s10
 replace s12 := Stab.O hh s12
 have s61 := Tail.got_is 0 8 hg rfl rfl rfl rfl rfl
 have s63 := Tail.got_is 2 6 hg rfl rfl rfl rfl rfl
 have s69 := Tail.got_is 8 0 hg rfl rfl rfl rfl rfl
 have hf1 := hh.fr hf
 have hx := hh.ext
 replace c8 := cL hx c8
 clear hg hh hf hok s11 s13 s60
 have hf := hf1; clear hf1
 have b70 := hf.b 70
 refine Tail.seq_op rfl rfl (fun K Z => ?_)
 go_simp
 try rw [if_pos (by omega)]
 apply Z.out; clear Z K
 have f8b := ((hom.later hx).cell HX8.out).2
 refine Tail.seq_op rfl rfl (fun K Z => ?_)
 go_simp
 apply Z.out; clear Z K
 refine Tail.seq_nil rfl ?_
 refine Zq4 2 9 10 12 hf ?_
 clear hf s2 s9 s10 s12 s61 s63 s69 b70; intro fr1 hf sS
 refine Zx hK23 ?_
 refine Zr [] hf ?_
 refine Zq5 2 9 10 11 12 hf ?_
 clear hf sS; intro fr1 hf sS
 refine Fact.block_normal ?_
 refine Fact.then_normal ?_
 have hset := (hom.later hx).set (i := i8) (by have := HLL.out; omega) y8
 obtain ⟨s2, s9, s10, s11, s12⟩ := sS
 exact ⟨hf, ⟨s2, s9, s10, by rw [HTR.out, if_pos ⟨HQ0.out.1, HQ0.out.2⟩]; exact s11, s12⟩, by rw [HTS.out, if_pos ⟨HQ0.out.1, HQ0.out.2⟩, flip_at HI8.out HB8.out HM8.out HX8.out HY8.out]; exact hset, (hbt.trans (hx.mono hbt.size)).setCell (p := ⟨g, i8, none⟩) hug _⟩)
 · (
 have HQ0 := Lib.hid hq0; clear hq0
 have r1 : ((bq : Int) == 1) = true := beq_iff_eq.2 (by have := HQ0.out; omega)
 have r2 : decide ((pl : Int) < 8 * (L : Int)) = false := decide_eq_false (by have := HQ0.out.2; omega)
 refine Ze fun _ hK24 => rg ?_
 have bB := And.intro (hf.B10 49 50 51 52 53 54 55 56 57 58) (hf.b 59)
 iterate 2 refine Za ?_
 refine fp fun K Z => ?_
 go_simp
 rw [show ((pat : Nat) : Int) / 2 ^ k = ((qk : Nat) : Int) by rw [← HQK.out]; simp]
 apply Z.out; clear Z K
 refine fp fun K Z => ?_
 go_simp
 rw [u32_and1 qk hqk32, HBQ.out]
 apply Z.out; clear Z K
 refine fp fun K Z => ?_
 go_simp
 try rw [r1]
 apply Z.out; clear Z K
 refine Za ?_
 iterate 3 refine Zg ?_
 refine og 5 54 true ?_ fun K Z => ?_
 · (
 simp (decide := true) only [Fact.G, reduceIte, hf.size])
 go_simp
 try simp (disch := omega) only [Fact.W]
 try rw [Fact.wrap_i64 (by omega) (by omega)]
 apply Z.out; clear Z K
 refine og 5 54 true ?_ fun K Z => ?_
 · (
 simp (decide := true) only [Fact.G, reduceIte, hf.size])
 go_simp
 try rw [r2]
 apply Z.out; clear Z K
 refine Za ?_
 refine Fact.nil (Zq7 2 9 10 11 12 13 60 hf ?_)
 clear hf sS bB; intro fr1 hf sS
 refine Zx hK24 ?_
 refine Fact.cond_f sS.2.2.2.2.2.2 ?_
 refine wp_skip ?_
 refine Fact.block_normal ?_
 refine Fact.then_normal ?_
 obtain ⟨s2, s9, s10, s11, s12, s13, s60⟩ := sS
 exact ⟨hf, ⟨s2, s9, s10, by rw [HTR.out, if_neg (by have := HQ0.out; omega)]; exact s11, s12⟩, by rw [HTS.out, if_neg (by have := HQ0.out; omega)]; exact hom, hbt⟩))
 · (
 clear hf sS
 rintro fr wq ⟨hf, ⟨s2, s9, s10, s11, s12⟩, hom2, hbt2⟩
 refine Zr [44, 45] hf ?_
 refine Zq5 2 9 10 11 12 hf ?_
 clear hf s2 s9 s10 s11 s12; intro fr1 hf sS
 refine Fact.then_normal ?_
 obtain ⟨s2, s9, s10, s11, s12⟩ := sS
 exact ⟨_, by have := HK.out; omega, k + 1, rfl, by omega, hf, ⟨s2, s9, s10, s11, by rw [s12]; rfl⟩, hom2, hbt2⟩))
 · (
 have hke : k = 32 := by have h9 := of_decide_eq_false hq; omega
 subst hke
 clear hq HK
 refine Zo ?_
 refine Zx hK16 ?_
 rcases Bool.eq_false_or_eq_true tb with htf | htf
 · (
 subst htf
 have hne : l ≠ SL := by have h := HTB.out; rw [← HL.out] at h; have h2 := trn_ne h; rw [HTL.out] at h2; exact h2
 have hno : pGet (bl l) = .error (16, 0) := by refine pGet_none ?_; rw [wl_bl hlS, ← HTL.out, ← HSL.out]; exact turn_told (seal_small hsb) p pat (by rw [HSL.out, HTL.out]; exact hne)
 have hcv := OX.conv (.inr (hom.om hug))
 rw [HLL.out] at hcv
 have hszl : (bl l).size ≤ 900000000 := by rw [bl_size]; have := HLL.out; omega
 obtain ⟨TL, hTL⟩ : ∃ x, bl l = x := ⟨_, rfl⟩
 rw [hTL] at hcv hszl hno
 clear hTL hne
 refine Ze fun _ hK25 => rg ?_
 have bB := hf.B7 71 72 73 74 75 76 77
 iterate 3 refine Za ?_
 iterate 2 refine Zg ?_
 refine og 2 73 false ?_ fun K Z => ?_
 · (
 simp (decide := true) only [Fact.G, reduceIte, hf.size])
 go_simp
 go_at_call 11; refine (corrupt11 wr TL hszl (fun en init ss h => by rw [hno] at h; cases h)).mono ?_; rintro e w9 ⟨rfl, hb9⟩
 rw [openV_err hno]
 replace hbt := hbt.trans (hb9.mono hbt.size)
 try dsimp only
 apply Z.out; clear Z K
 iterate 2 refine Za ?_
 refine Fact.nil (Zq1 6 hf ?_)
 clear hf sS bB; intro fr1 hf s6
 refine Zx hK25 ?_
 refine Zret ?_
 exact Fact.ret1 rfl hf s6 ⟨rfl, hbt⟩)
 · (
 subst htf
 refine Ze fun _ hK26 => rg ?_
 have bB := hf.B7 71 72 73 74 75 76 77
 iterate 3 refine Za ?_
 iterate 3 refine Zk ?_
 iterate 2 refine Za ?_
 refine Fact.nil (Zq1 6 hf ?_)
 clear hf sS bB; intro fr1 hf s6
 refine Zx hK26 ?_
 refine Zret ?_
 exact Fact.ret1 rfl hf s6 ⟨rfl, hbt⟩))))
end Dw
end Go.Proofs.YtcddnmhmcieebaaGreatDoor

namespace Go.Proofs.YtcddnmhmcieebaaGreatDoor
open Go.RowKit
set_option linter.unusedSimpArgs false
set_option linter.unusedVariables false
set_option linter.unnecessarySimpa false
namespace Dw
open Go.ChangeShapes Go.WideShapes Go.ChangeAt Go.Deep
set_option maxRecDepth 100000
theorem cells_u8 : Tryz.prog.cellsOf 5 = 1 := by kernel_rfl
theorem cells_dra : Tryz.prog.cellsOf 131 = 3 := by kernel_rfl
section
variable {H : Type} {enc : TypeId × Value → H} {W : World}
theorem open_letters {fuel : Nat} {v : Value} {x : DataW H × List MemPlace} (h : DataW.trod enc Tryz.prog W 0 (fun _ => true) true fuel 31 [v] = some x) :
    ∃ l : List Int, RU W W.heap.size v l ∧ ∀ x ∈ l, 0 ≤ x ∧ x ≤ 255 := by
  rcases open_ints Tryz.underlying31 Tryz.underlying5 cells_u8 h with ⟨hcs, -⟩ | ⟨a, len, cap, zs, hcs, _, hl, hm, hz, -, hcell, hwz⟩
  · injection hcs with hcs
    exact ⟨[], ⟨none, 0, hcs, by simp, fun h => absurd h (by simp)⟩, by simp⟩
  · injection hcs with hcs
    simp only [if_true] at hz
    have hlen : (zs.take len).length = len := by simp; omega
    refine ⟨zs.take len, ⟨some a, cap, by rw [hlen]; exact hcs, by rw [hlen]; unfold maxLen at hm; omega, fun h0 => ?_⟩, fun x hx => by have := bounds_u8 (hwz x (List.mem_of_mem_take hx)); omega⟩
    rw [hlen] at h0
    obtain ⟨ab, ao, spot⟩ := a
    have hspot : spot = none := by simpa [Addr.add] using World.cell?_spot (hcell 0 (by omega))
    subst hspot
    have h00 := cell_lt0 (hcell 0 (by omega))
    refine ⟨ab, ao, rfl, by simpa [Addr.add] using h00, fun j u hu => ?_⟩
    have hj : j < len := by have := (List.getElem?_eq_some_iff.1 hu).1; simp at this; omega
    have hcj := hcell j (by omega)
    rw [Addr.add_lit] at hcj
    have hu2 : zs[j]? = some u := by rw [List.getElem?_take, if_pos hj] at hu; exact hu
    rw [hcj]
    simp [List.getD, hu2]
theorem open_drafts {fuel : Nat} {v : Value} {x : DataW H × List MemPlace} (h : DataW.trod enc Tryz.prog W 0 (fun _ => true) true fuel 22 [v] = some x) :
    ∃ ds : List Dra, RDs W W.heap.size v ds ∧ ∀ d ∈ ds, okD d := by
  rcases open_slice Tryz.underlying22 h with ⟨hcs, -⟩ | ⟨a, len, cap, m, n, D, Pl, hcs, _, hl, hm, hmm, -, hi⟩
  · injection hcs with hcs
    exact ⟨[], ⟨none, 0, hcs, by simp, fun h => absurd h (by simp)⟩, by simp⟩
  · injection hcs with hcs
    simp only [if_true] at hmm
    subst hmm
    have key : ∀ i, i < len → ∃ d : Dra, okD d ∧ ∃ lv, W.cell? (a.add (i * 3)) = some lv ∧ W.cell? (a.add (i * 3 + 1)) = some (.int .u32 d.weight) ∧ W.cell? (a.add (i * 3 + 2)) = some (.bool d.gone) ∧ RU W W.heap.size lv d.letters := by
      intro i hil
      obtain ⟨cs', hc, ht'⟩ := hi i (by omega)
      rw [cells_dra] at hc
      obtain ⟨ys, n', hn', hy, hlen, hyl, hf⟩ := DataW.trod_struct Tryz.underlying131 ht'
      obtain ⟨_, hcl, hat⟩ := World.cells?_some hc
      match cs', hcl with
      | [u0, u1, u2], _ =>
        have k0 := hat 0 (by omega)
        have k1 := hat 1 (by omega)
        have k2 := hat 2 (by omega)
        have f0 := hf 0 _ rfl
        have f1 := hf 1 _ rfl
        have f2 := hf 2 _ rfl
        have g0 : DataW.trod enc Tryz.prog W 0 (fun _ => true) true n' 31 [u0] = ys[0]? := f0
        have g1 : DataW.trod enc Tryz.prog W 0 (fun _ => true) true n' 24 [u1] = ys[1]? := f1
        have g2 : DataW.trod enc Tryz.prog W 0 (fun _ => true) true n' 4 [u2] = ys[2]? := f2
        have y3 : ys.length = 3 := hyl
        rw [List.getElem?_eq_getElem (by omega)] at g0 g1 g2
        obtain ⟨l, hl1, hl2⟩ := open_letters g0
        obtain ⟨z, hz, -, hwz⟩ := DataW.trod_int Tryz.underlying24 g1
        obtain ⟨g, hg, -⟩ := DataW.trod_bool Tryz.underlying4 g2
        injection hz with hz
        injection hg with hg
        subst hz
        subst hg
        rw [Go.Deep.add_add] at k0 k1 k2
        exact ⟨⟨l, z, g⟩, ⟨hl2, by have := bounds_u32 hwz; show 0 ≤ z; omega, by have := bounds_u32 hwz; show z < 4294967296; omega⟩, u0, k0, k1, k2, hl1⟩
    obtain ⟨F, hF⟩ := choose_lt (α := Option Dra) (p := fun i o => ∃ d, o = some d ∧ okD d ∧ ∃ lv, W.cell? (a.add (i * 3)) = some lv ∧ W.cell? (a.add (i * 3 + 1)) = some (.int .u32 d.weight) ∧ W.cell? (a.add (i * 3 + 2)) = some (.bool d.gone) ∧ RU W W.heap.size lv d.letters)
      (fun i hi => by obtain ⟨d, hd⟩ := key i hi; exact ⟨some d, d, rfl, hd⟩)
    have hlen : ((List.range len).map fun i => (F i).getD ⟨[], 0, false⟩).length = len := by simp
    have hget : ∀ (i : Nat) (d : Dra), ((List.range len).map fun i => (F i).getD ⟨[], 0, false⟩)[i]? = some d → i < len ∧ F i = some d := fun i d hd => by
      have hil : i < len := by have := (List.getElem?_eq_some_iff.1 hd).1; simpa using this
      obtain ⟨d', e, _⟩ := hF i hil
      rw [List.getElem?_map, List.getElem?_range hil] at hd
      simp only [Option.map_some, e, Option.getD_some, Option.some.injEq] at hd
      exact ⟨hil, by rw [e, hd]⟩
    refine ⟨(List.range len).map fun i => (F i).getD ⟨[], 0, false⟩, ⟨some a, m, by rw [hlen]; exact hcs, by rw [hlen]; unfold maxLen at hm; omega, fun h0 => ?_⟩, fun d hd => ?_⟩
    · rw [hlen] at h0
      obtain ⟨ab, ao, spot⟩ := a
      obtain ⟨d0, -, -, lv0, q0, -⟩ := hF 0 h0
      have hspot : spot = none := by simpa [Addr.add] using World.cell?_spot q0
      subst hspot
      refine ⟨ab, ao, rfl, by simpa [Addr.add] using cell_lt0 q0, fun i d hd => ?_⟩
      obtain ⟨hil, hFi⟩ := hget i d hd
      obtain ⟨d', e, -, lv, k0, k1, k2, k3⟩ := hF i hil
      obtain rfl : d = d' := Option.some.inj (hFi.symm.trans e)
      rw [Addr.add_lit] at k0 k1 k2
      exact ⟨lv, k0, by rw [Nat.add_assoc]; exact k1, by rw [Nat.add_assoc]; exact k2, k3⟩
    · obtain ⟨i, hi2⟩ := List.mem_iff_getElem?.1 hd
      obtain ⟨hil, hFi⟩ := hget i d hi2
      obtain ⟨d', e, hok, -⟩ := hF i hil
      obtain rfl : d = d' := Option.some.inj (hFi.symm.trans e)
      exact hok
end

end Dw
end Go.Proofs.YtcddnmhmcieebaaGreatDoor

namespace Go.Proofs.YtcddnmhmcieebaaGreatDoor
open Go.ChangeShapes Go.WideShapes Go.ChangeAt Go.RowKit Go.Deep
set_option linter.unusedSimpArgs false
set_option linter.unusedVariables false
set_option linter.unnecessarySimpa false
theorem Own.own : ownKnob Tryz.prog.godebug = none := by kernel_rfl
theorem Own.laidOut : laidOutB Tryz.prog = true := by kernel_rfl
set_option maxRecDepth 100000 in
/-- the row's end, of a law that answers true, asks no package variable, and leaves all that lay there as it was -/
theorem own_end {H : Type} {enc : TypeId × Value → H} {f : Func} {s : ChangeSpec} {fresh handsOn again : Bool} {W W' : World} {args : Array Value} {ds : List (DataW H)} {before : List MemPlace}
    (hv : s.vars = []) (ht : f.resultTypes = #[4]) (hf : s.fn H ds = { results := [.lit (.bool true)], args := ds })
    (hW : DataW.Whole enc Tryz.prog f.params.toList s.vars false W args.toList ds [] before) (hb : Below W.heap.size W W')
    (hargs : ∀ sp : Nat → Bool, (∀ p ∈ before, sp p.block = true) → DataW.TrodAll enc Tryz.prog W' 0 sp true f.params.toList args.toList ds before) :
    s.post enc Tryz.prog f false fresh handsOn again W args (.bool true) W' := by
  have hlt : ∀ p ∈ before, p.block < W.heap.size := fun p hp => hW.lt p hp
  have hold : ∀ p ∈ before, (fun b => decide (b < W.heap.size)) p.block = true := fun p hp => by simpa using hlt p hp
  have hres : ∀ (b : Nat) (sp : Nat → Bool) (hd : Bool), DataW.TrodAll enc Tryz.prog W' b sp hd f.resultTypes.toList ((Value.bool true).resultList f.resultTypes.size) (s.fn H (ds ++ [])).results [] := fun b sp hd => by
    rw [ht, List.append_nil, hf]
    exact trodAll_mk1 ⟨1, by simp [DataW.trod, Value.cells, Tryz.underlying4]⟩
  have hvars : ∀ sp : Nat → Bool, DataW.TrodVars enc Tryz.prog W' sp s.vars (s.fn H (ds ++ [])).vars [] := fun sp => by
    rw [List.append_nil, hf, hv]; rfl
  have ha2 : ∀ sp : Nat → Bool, (∀ p ∈ before, sp p.block = true) → DataW.TrodAll enc Tryz.prog W' 0 sp true f.params.toList args.toList (s.fn H (ds ++ [])).args before := fun sp hsp => by
    rw [List.append_nil, hf]; exact hargs sp hsp
  refine ⟨ds, [], before, [], before, [], hW, hres _ _ _, ha2 _ hold, hvars _, World.keptBut_mono (fun p hp => ⟨hp, ?_⟩) (hb.frame (· ∈ before)), fun _ => ?_⟩
  · exact .inr (.inl hp)
  · obtain ⟨_, _, _, _, _, hz, hn⟩ := hW
    refine ⟨?_, _, _, ([] ++ before) ++ [], ⟨[] ++ before, [], trodAll_append (ha2 _ (fun _ _ => rfl)) (hres _ _ _), hvars _, rfl, ?_, ?_⟩, ?_⟩
    · rw [ht]
      intro j t r h1 h2
      match j, h1, h2 with
      | 0, h1, h2 =>
        injection h1 with h1
        subst h1
        have : r = .bool true := by
          have h3 : some (Value.bool true) = some r := h2
          injection h3 with h3
          exact h3.symm
        subst this
        simp [Value.okWide, Tryz.underlying4, Cell.okWide, Cell.ok]
      | j + 1, h1, h2 => simp at h1
    · intro b off hp
      have hin : MemPlace.cell b off ∈ before := by simpa using hp
      rw [hb.frozen (hlt _ hin)]
      exact hz b off hin
    · intro ha
      cases ha
    · intro p hp _
      simpa using hp
end Go.Proofs.YtcddnmhmcieebaaGreatDoor

namespace Go.Proofs.YtcddnmhmcieebaaGreatDoor
open Go.ChangeShapes Go.WideShapes Go.ChangeAt Go.RowKit
def lay3 : List (String × DataW Unit) := [("math/bits.deBruijn32tab", Rows.laid_math_bits_deBruijn32tab), ("math/bits.deBruijn64tab", Rows.laid_math_bits_deBruijn64tab), ("internal/strconv.uint64pow10", Rows.laid_internal_strconv_uint64pow10)]
set_option maxRecDepth 100000 in
theorem door_met (os : Os) (args : Array Value) : laidMetH Tryz.prog lay3 ((World.doorLaid Tryz.prog 24 os).forCall (fun _ _ => 0) ⟨#[], args, []⟩).memory :=
  laidMetH_of_parts3 (fuel := 8) (laidMet_of_run' 8 (by kernel_rfl) (by kernel_rfl)) (by kernel_rfl) (by kernel_rfl)
end Go.Proofs.YtcddnmhmcieebaaGreatDoor
