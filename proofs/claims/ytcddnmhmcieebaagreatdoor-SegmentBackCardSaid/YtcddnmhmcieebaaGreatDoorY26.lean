/- law16: SegmentBack. -/
import Derived.Test.YtcddnmhmcieebaaGreatDoorY25
import Derived.Test.YtcddnmhmcieebaaGreatDoorY16
import Derived.Test.YtcddnmhmcieebaaGreatDoorTools
import Derived.Test.YtcddnmhmcieebaaGreatDoorY11
import Derived.ProofKit
import Derived.Deep.Slices
import Derived.Deep.Fields
import Derived.OpenShut
import Derived.Test.YtcddnmhmcieebaaGreatDoorProg
import Derived.Test.YtcddnmhmcieebaaGreatDoorRows
import Derived.Below
import Derived.Test.YtcddnmhmcieebaaGreatDoorTie
import Derived.LaidMore
import Derived.Stop.Joined
namespace Go.Proofs.YtcddnmhmcieebaaGreatDoor
set_option maxHeartbeats 4000000
set_option maxRecDepth 100000
open Go.RowKit
set_option linter.unusedSimpArgs false
set_option linter.unusedVariables false
set_option linter.unnecessarySimpa false
namespace Dw
theorem back6 (w : World) (ds : List Dra) (dv : Value) (hrd : RDs w w.heap.size dv ds) (hokd : ∀ d ∈ ds, okD d) (s0_ : ByteArray) (hs0 : s0_.size <= 9223372036854775807) (n : Nat) (hn8 : n < 256) : Calls Tryz.prog 6 #[dv, .string s0_, .int .u8 n] w fun e w1 => e = .returned (.bool true) /\ Below w.heap.size w w1 := by
 refine Zn3 174 Tryz.func6 fun fr hf s0 s1 s2 => ?_
 have hlo := (list_ok (n := 60) hokd).1
 have hlr := (list_ok (n := 60) hokd).2.1
 have hll := (list_ok (n := 60) hokd).2.2
 obtain ⟨own, hown⟩ : ∃ x, listOf ds 60 = x := ⟨_, rfl⟩
 rw [hown] at hlo hlr hll
 have hini := own_init_lt hlo hlr
 have HOWN := Lib.hid hown; have HLO := Lib.hid hlo; have HLR := Lib.hid hlr; clear hown hlo hlr
 refine Ze fun _ hK1 => Zr [] hf ?_
 refine Zq3 0 1 2 hf ?_
 clear hf s0 s1 s2; intro fr1 hf sS
 refine Zs hK1 fun _ hK2 => Ze fun _ hK3 => rg ?_
 have bB := hf.b 23
 refine Zc (works8 w) ?_; rintro e w1 ⟨rfl, hb1⟩
 have hrd1 := (hrd.below hb1).more hb1.size
 refine Zv ?_
 refine Zy ?_
 refine Fact.nil (Zq4 0 1 2 24 hf ?_)
 clear hf sS bB; intro fr1 hf sS
 refine Zx hK3 (Fact.cond_f sS.2.2.2 ?_)
 refine wp_skip (Zt hK2 fun _ hK4 => ?_)
 have bB := hf.B2 25 26
 refine Zy ?_
 refine Zc (list_ w1 ds 60 (by omega) dv hrd1 hokd) ?_; rintro e w2 ⟨v1, rfl, how1, hb2⟩
 rw [HOWN.out] at how1
 have hre1 := OE.re (es := own) how1
 have hbf := build_facts w2 own _ v1 (Nat.le_refl _) hre1 (by omega) (fun e he => (HLO.out e he).1)
 have hbt := hb1.trans (hb2.mono hb1.size)
 have HBF := Lib.hid hbf; clear hbf
 refine Zv ?_
 refine Zy ?_
 refine Fact.nil (Zq3 1 2 7 hf ?_)
 clear hf sS bB; intro fr1 hf sS
 refine Zt hK4 fun _ hK5 => ?_
 have bB := hf.B5 28 29 27 30 31
 refine Zy ?_
 refine Zc (make9 w2 own _ v1 (Nat.le_refl _) hre1 (by omega) (fun e he => (HLO.out e he).1) hini) ?_; rintro e w3 ⟨rfl, hb3⟩
 obtain ⟨cd, hcd⟩ : ∃ x, (makeV own).2 = x := ⟨_, rfl⟩
 obtain ⟨SA, hSA⟩ : ∃ x, (makeV own).1 = x := ⟨_, rfl⟩
 rw [hcd, hSA]
 have HCD := Lib.hid hcd; have HSA := Lib.hid hSA; clear hcd hSA
 replace hbt := hbt.trans (hb3.mono hbt.size)
 have hre := (hre1.below hb3).more hb3.size
 refine Zv ?_
 iterate 5 refine Zy ?_
 refine Fact.nil (Zq5 1 2 7 8 9 hf ?_)
 clear hf sS bB; intro fr1 hf sS
 clear hrd hrd1 how1 hre1 hb1 hb2 hb3
 obtain ⟨Av, cv, rfl, hcv⟩ := hre.form
 refine Zx hK5 ?_
 rcases (by by_cases h : own = []; exact .inl ⟨h, trivial⟩; exact .inr ⟨trivial, h⟩ : (own = [] /\ True) \/ (True /\ own ≠ [])) with hn | hn
 . (
 obtain ⟨hn, -⟩ := hn
 subst hn
 have h1 := HCD.out; have h2 := HSA.out
 rw [show makeV [] = (⟨#[]⟩, 2) from wk_nil] at h1 h2
 simp only at h1 h2
 subst h1; subst h2
 have q0 : ((([] : List Ent).length : Int) == 0) = true := rfl
 have q1 : (((2 : Nat) : Int) == 2) = true := rfl
 have q2 : ((⟨#[]⟩ : ByteArray).toList == (⟨#[]⟩ : ByteArray).toList) = true := beq_self_eq_true _
 refine Ze fun _ hK6 => Ze fun _ hK7 => Zr [32, 33] hf ?_
 refine Zq6 1 2 7 8 9 34 hf ?_
 clear hf sS; intro fr1 hf sS
 refine Zx hK7 (Fact.cond_t sS.2.2.2.2.2 ?_)
 refine Ze fun _ hK8 => ?_
 have qs := And.intro q0 (And.intro q1 q2)
 refine Zr [35, 36, 37, 38, 39, 40] hf ?_
 refine Zq1 6 hf ?_
 clear hf sS qs; intro fr1 hf s6
 refine Zx hK8 (Zret ?_)
 exact Fact.ret1 rfl hf s6 ⟨rfl, hbt⟩)
 . (
 have hF : OwnF own := ⟨HLO.out, HLR.out, hn.2, by omega, HBF.out.1, HBF.out.2⟩
 have q0 : ((own.length : Int) == 0) = false := beq_eq_false_iff_ne.2 (by have := List.length_pos_iff.2 hn.2; omega)
 refine Ze fun _ hK9 => Ze fun _ hK10 => Zr [32, 33] hf ?_
 refine Zq6 1 2 7 8 9 34 hf ?_
 clear hf sS; intro fr1 hf sS
 refine Zx hK10 (Fact.cond_f sS.2.2.2.2.2 ?_)
 have h1 := HCD.out
 rw [hF.make] at h1
 simp only at h1
 subst h1
 have kp := hF.put
 rw [HSA.out] at kp
 clear q0 hn
 have HF := Lib.hid hF; clear hF
 refine wp_skip (Zt hK9 fun _ hK11 => ?_)
 have bB := hf.B5 42 43 41 44 45
 refine Zy ?_
 refine Zc (open15 w3 SA kp.sz kp.hlen) ?_; rintro e w4 hop
 obtain ⟨Q, sv, rfl, hQ, hrs, hb4⟩ := kp.opened HF.out.asks hop
 clear hop kp
 replace hre := (hre.below hb4).more hb4.size
 replace hbt := hbt.trans (hb4.mono hbt.size)
 obtain ⟨ss, hss⟩ : ∃ x, (buildF own).states = x := ⟨_, rfl⟩
 obtain ⟨init, hinit⟩ : ∃ x, (buildF own).init = x := ⟨_, rfl⟩
 have hok9 := HF.out.okSt; have hfm9 := HF.out.formed; have hpos9 := HF.out.pos; have hsl9 := HBF.out.2
 rw [hss] at hrs hok9 hfm9 hpos9 hsl9
 rw [hinit] at hQ hini
 have HSS := Lib.hid hss; have HIN := Lib.hid hinit; clear hss hinit
 refine Zv ?_
 iterate 5 refine Zy ?_
 refine Fact.nil (Zq7 1 2 7 8 9 10 11 hf ?_)
 clear hf sS bB; intro fr1 hf sS
 refine Zs hK11 fun _ hK12 => Ze fun _ hK13 => rg ?_
 have bB := And.intro (hf.B10 46 47 48 49 50 51 52 53 54 55) (And.intro (hf.B10 56 57 58 59 60 61 62 63 64 65) (hf.B10 66 67 68 69 70 71 72 73 74 75))
 iterate 12 refine Zy ?_
 refine Zd (len19 w4 Q sv init own.length SA.size hQ) ?_; rintro e w5 ⟨rfl, hb5⟩
 replace hre := (hre.below hb5).more hb5.size
 replace hbt := hbt.trans (hb5.mono hbt.size)
 replace hQ := (hb5.block _ (heap_lt hQ)).trans hQ
 replace hrs := hrs.later hb5
 clear hb5
 refine Zv ?_
 iterate 6 refine Zy ?_
 refine Zd (size20 w5 Q sv init own.length SA.size hQ) ?_; rintro e w6 ⟨rfl, hb6⟩
 replace hre := (hre.below hb6).more hb6.size
 replace hbt := hbt.trans (hb6.mono hbt.size)
 replace hQ := (hb6.block _ (heap_lt hQ)).trans hQ
 replace hrs := hrs.later hb6
 clear hb6
 refine Zv ?_
 iterate 6 refine Zy ?_
 refine Zd (all16 w6 sv init ss Q own.length SA.size hQ hrs hini (by omega) (by omega) hok9 hfm9) ?_; rintro e w7 ⟨vB, rfl, how, hb7⟩
 rw [show fromV ss init ⟨#[]⟩ own.length = own by rw [<- HSS.out, <- HIN.out]; exact HF.out.all] at how
 have hre2 := OE.re (es := own) how
 clear how
 replace hre := (hre.below hb7).more hb7.size
 replace hbt := hbt.trans (hb7.mono hbt.size)
 replace hQ := (hb7.block _ (heap_lt hQ)).trans hQ
 replace hrs := hrs.later hb7
 clear hb7
 refine Zv ?_
 refine Zy ?_
 refine Zd (same11 w7 own own _ _ vB _ (Nat.le_refl _) (Nat.le_refl _) hre2 hre (by omega) (by omega)) ?_; rintro e w8 ⟨rfl, hb8⟩
 rw [decide_eq_true rfl]
 clear hre2
 replace hre := (hre.below hb8).more hb8.size
 replace hbt := hbt.trans (hb8.mono hbt.size)
 replace hQ := (hb8.block _ (heap_lt hQ)).trans hQ
 replace hrs := hrs.later hb8
 clear hb8
 refine Zv ?_
 iterate 2 refine Zy ?_
 refine Fact.nil (Zq6 1 2 7 8 10 76 hf ?_)
 clear hf sS bB; intro fr1 hf sS
 refine Zx hK13 (Fact.cond_f sS.2.2.2.2.2 ?_)
 refine wp_skip (Zs hK12 fun _ hK14 => Ze fun _ hK15 => Zr [] hf ?_)
 refine Zq6 1 2 7 8 10 12 hf ?_
 clear hf sS; intro fr1 hf sS
 refine Zx hK15 (wp_block ?_)
 have hb80 := Below.refl w8.heap.size w8
 refine wp_loop_ghost (fun gk fr wr => ∃ (i : Nat), gk = own.length - i /\ i <= own.length /\ Fact.Fr 174 fr /\ (fr.tmps[1]? = some (.string s0_) /\ fr.tmps[2]? = some (.int .u8 n) /\ fr.tmps[7]? = some (.slice Av own.length cv) /\ fr.tmps[8]? = some (.string SA) /\ fr.tmps[10]? = some (.pointer (some ⟨Q, 0, none⟩)) /\ fr.tmps[12]? = some (.int .i64 i)) /\ Below w8.heap.size w8 wr) (own.length) ?_ ?_
 . (
 obtain ⟨s1, s2, s7, s8, s10, s12⟩ := sS
 exact ⟨0, rfl, Nat.zero_le _, hf, ⟨s1, s2, s7, s8, s10, s12⟩, hb80⟩)
 . (
 clear hf sS
 rintro gk fr wr ⟨i, hk9, hi, hf, ⟨s1, s2, s7, s8, s10, s12⟩, hb⟩
 have HK := Lib.hid hk9; clear hk9 hb80
 have hrew := (hre.below hb).more hb.size
 have hQw := (hb.block _ (heap_lt hQ)).trans hQ
 have hrsw := hrs.later hb
 refine Ze fun _ hK16 => Ze fun _ hK17 => Zr [77, 78, 79] hf ?_
 refine Zq7 1 2 7 8 10 12 80 hf ?_
 clear hf s1 s2 s7 s8 s10 s12; intro fr1 hf sS
 refine Zx hK17 (Fact.cond_s sS.2.2.2.2.2.2 (fun hq => ?_) (fun hq => ?_))
 . (
 have hlt : i < own.length := by have h9 := of_decide_eq_true hq; omega
 clear hq
 obtain ⟨p, hp⟩ : ∃ p, own[i]? = some p := ⟨_, gE1 hlt⟩
 obtain ⟨bo, oo, rfl, -, hbo, d0, d1, d2⟩ := hrew.at_ hp
 have HP := Lib.hid hp; clear hp
 refine wp_skip (Zs hK16 fun _ hK18 => wp_block (Ze fun _ hK19 => rg ?_))
 have bB := And.intro (hf.B10 84 85 86 87 88 89 90 83 91 92) (hf.b 13)
 iterate 6 refine Zy ?_
 refine Zc (sget22 wr Q init own.length SA.size sv hQw ss p.word hrsw (by omega) hok9 hfm9 hpos9 hini (by have := okW_size (HLO.out p (gM1 HP.out)).2.1; omega)) ?_; rintro e wg ⟨rfl, hbg⟩
 rw [show getV init ss p.word = (p, true) by rw [<- HSS.out, <- HIN.out, HF.out.get, find_own HLR.out HP.out]]
 simp only [eval]
 replace d0 := cL hbg d0; replace d1 := cL hbg d1; replace d2 := cL hbg d2
 refine Zv ?_
 iterate 6 refine Zy ?_
 refine Fact.nil (Zq8 1 2 7 8 10 12 13 14 hf ?_)
 clear hf sS bB; intro fr1 hf sS
 generalize hWG : wg.alloc (.cells #[.string p.word, .int .u32 p.weight, .bool p.gone] 64) = WG
 obtain ⟨hbW, y0, y1, y2, -, -⟩ := box3 hWG
 clear hWG
 replace d0 := cL hbW d0; replace d1 := cL hbW d1; replace d2 := cL hbW d2
 have hbx := hbg.trans (hbW.mono hbg.size)
 refine Zs hK19 fun _ hK20 => ?_
 obtain ⟨s1, s2, s7, s8, s10, s12, s13, s14⟩ := sS
 refine Stab.tb 174 fun hok => ?_
 refine Stab.mO 0 s14 hf hok ?_
 refine Stab.T 1 hf hok (fun _ _ h d => Stab.vd 0 0 d []) ?_
 refine Stab.mN 2 1 0 hf hok [] ?_
 refine Stab.Tg 3 hf hok (fun _ _ h d => Stab.vd 2 0 d []) (fun _ _ h d => ad (Stab.O h s13) (ad (cL h.ext d0) (ad (cL h.ext d1) (ad (cL h.ext d2) (ad (cL h.ext y0) (ad (cL h.ext y1) (cL h.ext y2))))))) ?_
 refine Stab.Tg 4 hf hok (fun _ _ h d => Stab.vd 2 1 d []) (fun _ _ h d => Stab.O h s7) ?_
 refine Stab.Tg 5 hf hok (fun _ _ h d => Stab.vd 2 2 d []) (fun _ _ h d => Stab.O h s12) ?_
 refine Stab.Tg 6 hf hok (fun _ _ h d => Stab.vd 2 3 d []) (fun _ _ h d => ad (Stab.vd 4 1 d []) (Stab.vd 5 0 d [])) ?_
 refine Stab.Tg 7 hf hok (fun _ _ h d => Stab.vd 2 4 d []) (fun _ _ h d => ad (Stab.vd 6 0 d []) (ad (cL h.ext d0) (ad (cL h.ext d1) (ad (cL h.ext d2) (ad (cL h.ext y0) (ad (cL h.ext y1) (cL h.ext y2))))))) ?_
 apply Stab.tr 8 _ hf hok
 . (
 intro fr1 w1 hh hd hk K Z
 have s95 := Stab.v 2 5 hd hk []
 refine Stab.g s95 ?_
 have s96 := Stab.v 3 4 hd hk []
 have s100 := Stab.v 7 0 hd hk []
 clear hd
 go_simp
 try rw [ent_neq]
 try rw [Oper.upon_value]
 try rw [decide_eq_false (fun h : p ≠ p => h rfl)]
 exact Stab.k Z)
 refine Stab.T 9 hf hok (fun _ _ h d => ad (Stab.vd 2 6 d []) (Stab.vd 8 0 d [])) ?_
 refine Stab.E hf hok (fun _ _ h g => ad (Stab.O h s1) (ad (Stab.O h s2) (ad (Stab.O h s7) (ad (Stab.O h s8) (ad (Stab.O h s10) (ad (Stab.O h s12) (Stab.f 9 0 g))))))) ?_
 clear hf hok s1 s2 s7 s8 s10 s12 s13 s14; intro fr1 w1 hf hx sS
 replace d0 := cL hx d0
 replace d1 := cL hx d1
 replace d2 := cL hx d2
 replace y0 := cL hx y0
 replace y1 := cL hx y1
 replace y2 := cL hx y2
 refine Zx hK20 (Fact.cond_f sS.2.2.2.2.2.2 ?_)
 refine wp_skip (Fact.block_normal (Zx hK18 (Zr [81, 82] hf ?_)))
 refine Zq6 1 2 7 8 10 12 hf ?_
 clear hf sS; intro fr1 hf sS
 refine Fact.then_normal ?_
 obtain ⟨s1, s2, s7, s8, s10, s12⟩ := sS
 exact ⟨_, by have := HK.out; omega, i + 1, rfl, by omega, hf, ⟨s1, s2, s7, s8, s10, by rw [s12]; rfl⟩, hb.trans ((hbx.trans (hx.mono hbx.size)).mono hb.size)⟩)
 . (
 have hie : i = own.length := by have h9 := of_decide_eq_false hq; omega
 clear hq HK hie hre hQ hrs
 replace hbt := hbt.trans (hb.mono hbt.size)
 clear hb
 obtain ⟨mz, hmz⟩ : ∃ x, min s0_.size 300 = x := ⟨_, rfl⟩
 have hmz2 : mz <= s0_.size := by omega
 have hmz3 : mz <= 300 := by omega
 have q5 : min ((s0_.size : Nat) : Int) 300 = ((mz : Nat) : Int) := by omega
 obtain ⟨z, hz⟩ : ∃ x, s0_.extract 0 mz = x := ⟨_, rfl⟩
 have hzs : z.size <= 300 := by rw [<- hz, ByteArray.size_extract]; omega
 refine Zo ?_
 refine Zs hK14 fun _ hK21 => Zr [103, 104, 105, 106, 107] hf ?_
 refine Zq5 1 2 7 8 10 hf ?_
 clear hf sS; intro fr1 hf sS
 refine Zx hK21 ?_
 obtain ⟨iz, hiz⟩ : ∃ q, (findE own z).isSome = q := ⟨_, rfl⟩
 have HIZ := Lib.hid hiz; clear hiz
 have hre := (hrew); have hQ := hQw; have hrs := hrsw; clear hrew hQw hrsw
 refine Ze fun _ hK22 => rg ?_
 have bB := hf.B7 109 110 111 108 112 113 15
 iterate 2 refine Zy ?_
 refine Zc (sget22 wr Q init own.length SA.size sv hQ ss z hrs (by omega) hok9 hfm9 hpos9 hini (by omega)) ?_; rintro e wi ⟨rfl, hbi⟩
 rw [show getV init ss z = ((findE own z).getD ⟨⟨#[]⟩, 0, false⟩, (findE own z).isSome) by rw [<- HSS.out, <- HIN.out, HF.out.get2]]
 rw [HIZ.out]
 generalize hfe1 : (findE own z).getD ⟨⟨#[]⟩, 0, false⟩ = fe1
 clear hfe1
 simp only [eval]
 replace hre := (hre.below hbi).more hbi.size
 replace hbt := hbt.trans (hbi.mono hbt.size)
 replace hQ := (hbi.block _ (heap_lt hQ)).trans hQ
 replace hrs := hrs.later hbi
 clear hbi
 refine Zv ?_
 iterate 6 refine Zy ?_
 refine Fact.nil (Zq6 1 2 7 8 10 16 hf ?_)
 clear hf sS bB; intro fr1 hf sS
 generalize hWI : wi.alloc (.cells #[.string fe1.word, .int .u32 fe1.weight, .bool fe1.gone] 64) = WI
 obtain ⟨hbWI, -, -, -, -, -⟩ := box3 hWI
 clear hWI
 replace hre := (hre.below hbWI).more hbWI.size
 replace hbt := hbt.trans (hbWI.mono hbt.size)
 replace hQ := (hbWI.block _ (heap_lt hQ)).trans hQ
 replace hrs := hrs.later hbWI
 refine Zt hK22 fun _ hK23 => ?_
 have bB := hf.B7 115 116 117 114 118 119 17
 iterate 2 refine Zy ?_
 refine Zc (find15 WI own _ _ (Nat.le_refl _) hre (by omega) z) ?_; rintro e wj ⟨rfl, hbj⟩
 rw [HIZ.out]
 generalize hfe2 : (findE own z).getD ⟨⟨#[]⟩, 0, false⟩ = fe2
 clear hfe2
 simp only [eval]
 replace hre := (hre.below hbj).more hbj.size
 replace hbt := hbt.trans (hbj.mono hbt.size)
 replace hQ := (hbj.block _ (heap_lt hQ)).trans hQ
 replace hrs := hrs.later hbj
 clear hbj
 refine Zv ?_
 iterate 6 refine Zy ?_
 refine Fact.nil (Zq7 1 2 7 8 10 16 18 hf ?_)
 clear hf sS bB; intro fr1 hf sS
 generalize hWJ : wj.alloc (.cells #[.string fe2.word, .int .u32 fe2.weight, .bool fe2.gone] 64) = WJ
 obtain ⟨hbWJ, -, -, -, -, -⟩ := box3 hWJ
 clear hWJ
 replace hre := (hre.below hbWJ).more hbWJ.size
 replace hbt := hbt.trans (hbWJ.mono hbt.size)
 replace hQ := (hbWJ.block _ (heap_lt hQ)).trans hQ
 replace hrs := hrs.later hbWJ
 refine Zx hK23 ?_
 obtain ⟨nm, hnm⟩ : ∃ x, n % 70 = x := ⟨_, rfl⟩
 have hnm70 : nm < 70 := by omega
 have q6 : ((n : Nat) : Int).tmod 70 = ((nm : Nat) : Int) := by rw [Int.tmod_eq_emod_of_nonneg (by omega)]; omega
 have HNM := Lib.hid hnm; clear hnm
 refine Ze fun _ hK24 => rg ?_
 have bB := hf.B6 120 121 122 123 124 125
 iterate 3 refine Zy ?_
 refine fp fun K Z => ?_
 go_simp
 skip
 apply Z.out; clear Z K
 refine fp fun K Z => ?_
 go_simp
 rw [Fact.wrap_i64 (by omega) (by omega)]
 apply Z.out; clear Z K
 refine fp fun K Z => ?_
 go_simp
 go_at_call 24; refine (sfrom24 WJ sv init ss Q own.length SA.size hQ z nm hrs (by omega) hini (by omega) (by omega) hok9 hfm9).mono ?_; rintro e wk ⟨vF, rfl, howF, hbk⟩
 have hreF := OE.re howF
 clear howF
 replace hre := (hre.below hbk).more hbk.size
 replace hbt := hbt.trans (hbk.mono hbt.size)
 replace hQ := (hbk.block _ (heap_lt hQ)).trans hQ
 replace hrs := hrs.later hbk
 try dsimp only
 apply Z.out; clear Z K
 refine Zy ?_
 refine Fact.nil (Zq8 1 2 7 8 10 16 18 19 hf ?_)
 clear hf sS bB; intro fr1 hf sS
 refine Zs hK24 fun _ hK25 => Zr [] hf ?_
 refine Zq9 1 2 7 8 10 16 18 19 20 hf ?_
 clear hf sS; intro fr1 hf sS
 refine Zx hK25 (Fact.seq_meet (fun fr wr => ∃ (i : Nat), i <= own.length /\ Fact.Fr 174 fr /\ (fr.tmps[1]? = some (.string z) /\ fr.tmps[2]? = some (.int .u8 n) /\ fr.tmps[7]? = some (.slice Av own.length cv) /\ fr.tmps[8]? = some (.string SA) /\ fr.tmps[10]? = some (.pointer (some ⟨Q, 0, none⟩)) /\ fr.tmps[16]? = some (.bool iz) /\ fr.tmps[18]? = some (.bool iz) /\ fr.tmps[19]? = some (vF) /\ fr.tmps[20]? = some (.int .i64 i)) /\ (own.filter fun e => !lexlt (wl e.word) (wl z)) = own.drop i /\ wr = wk) ?_ ?_)
 . (
 refine wp_block (wp_loop_ghost (fun gk fr wr => ∃ (i : Nat), gk = own.length - i /\ i <= own.length /\ Fact.Fr 174 fr /\ (fr.tmps[1]? = some (.string z) /\ fr.tmps[2]? = some (.int .u8 n) /\ fr.tmps[7]? = some (.slice Av own.length cv) /\ fr.tmps[8]? = some (.string SA) /\ fr.tmps[10]? = some (.pointer (some ⟨Q, 0, none⟩)) /\ fr.tmps[16]? = some (.bool iz) /\ fr.tmps[18]? = some (.bool iz) /\ fr.tmps[19]? = some (vF) /\ fr.tmps[20]? = some (.int .i64 i)) /\ (∀ j e, j < i -> own[j]? = some e -> lexlt (wl e.word) (wl z) = true) /\ wr = wk) (own.length) ?_ ?_)
 . (
 obtain ⟨s1, s2, s7, s8, s10, s16, s18, s19, s20⟩ := sS
 exact ⟨0, rfl, Nat.zero_le _, hf, ⟨s1, s2, s7, s8, s10, s16, s18, s19, s20⟩, fun j e hj => absurd hj (Nat.not_lt_zero _), rfl⟩)
 . (
 clear hf sS
 rintro gk fr wr ⟨i, hk9, hi, hf, ⟨s1, s2, s7, s8, s10, s16, s18, s19, s20⟩, hbef, rfl⟩
 have HK := Lib.hid hk9; clear hk9
 rcases (by by_cases h1 : i < own.length; (cases h2 : lexlt (wl own[i].word) (wl z) with | true => exact .inr (.inl ⟨h1, fun p hp => by rw [gE1 h1] at hp; cases hp; exact h2⟩) | false => exact .inr (.inr ⟨h1, fun p hp => by rw [gE1 h1] at hp; cases hp; exact h2⟩)); exact .inl (by omega) : own.length <= i \/ (i < own.length /\ ∀ p, own[i]? = some p -> lexlt (wl p.word) (wl z) = true) \/ (i < own.length /\ ∀ p, own[i]? = some p -> lexlt (wl p.word) (wl z) = false)) with hq | hq | hq
 . (
 have hie : i = own.length := by omega
 have q7 : decide ((i : Int) < (own.length : Int)) = false := decide_eq_false (by omega)
 have hdr := filter_drop HLR.out hi hbef (fun e he => by rw [List.getElem?_eq_none (by omega)] at he; cases he)
 refine Ze fun _ hK26 => Ze fun _ hK27 => ?_
 have qs := q7
 refine Zr [126, 127, 128, 129, 130, 131, 132, 133, 134, 135, 136, 137] hf ?_
 refine Zq10 1 2 7 8 10 16 18 19 20 138 hf ?_
 clear hf s1 s2 s7 s8 s10 s16 s18 s19 s20 qs; intro fr1 hf sS
 refine Zx hK27 (Fact.cond_f sS.2.2.2.2.2.2.2.2.2 ?_)
 refine Zo ?_
 refine Fact.then_normal ?_
 obtain ⟨s1, s2, s7, s8, s10, s16, s18, s19, s20, s138⟩ := sS
 exact ⟨i, hi, hf, ⟨s1, s2, s7, s8, s10, s16, s18, s19, s20⟩, hdr, rfl⟩)
 . (
 obtain ⟨hlt, hql⟩ := hq
 have q7 : decide ((i : Int) < (own.length : Int)) = true := decide_eq_true (by omega)
 obtain ⟨p, hp⟩ : ∃ p, own[i]? = some p := ⟨_, gE1 hlt⟩
 obtain ⟨bo, oo, hAv, -, hbo, d0, -, -⟩ := hre.at_ hp
 subst hAv
 have hlq := hql p hp
 clear hql
 rw [<- less_eq] at hlq
 refine Ze fun _ hK28 => Ze fun _ hK29 => ?_
 have qs := And.intro q7 hlq
 refine Zr [126, 127, 128, 129, 130, 131, 132, 133, 134, 135, 136, 137] hf ?_
 refine Zq10 1 2 7 8 10 16 18 19 20 138 hf ?_
 clear hf s1 s2 s7 s8 s10 s16 s18 s19 s20 qs; intro fr1 hf sS
 refine Zx hK29 (Fact.cond_t sS.2.2.2.2.2.2.2.2.2 ?_)
 rw [less_eq] at hlq
 refine wp_skip (Zx hK28 (wp_block (Zr [139, 140] hf ?_)))
 refine Zq9 1 2 7 8 10 16 18 19 20 hf ?_
 clear hf sS; intro fr1 hf sS
 refine Fact.block_normal (Fact.then_normal ?_)
 obtain ⟨s1, s2, s7, s8, s10, s16, s18, s19, s20⟩ := sS
 exact ⟨_, by have := HK.out; omega, i + 1, rfl, by omega, hf, ⟨s1, s2, s7, s8, s10, s16, s18, s19, by rw [s20]; rfl⟩, fun j e hj he => by rcases Nat.lt_or_eq_of_le (Nat.le_of_lt_succ hj) with h | h; exact hbef j e h he; subst h; rw [hp] at he; cases he; exact hlq, rfl⟩)
 . (
 obtain ⟨hlt, hql⟩ := hq
 have q7 : decide ((i : Int) < (own.length : Int)) = true := decide_eq_true (by omega)
 obtain ⟨p, hp⟩ : ∃ p, own[i]? = some p := ⟨_, gE1 hlt⟩
 obtain ⟨bo, oo, hAv, -, hbo, d0, -, -⟩ := hre.at_ hp
 subst hAv
 have hlq := hql p hp
 clear hql
 rw [<- less_eq] at hlq
 refine Ze fun _ hK30 => Ze fun _ hK31 => ?_
 have qs := And.intro q7 hlq
 refine Zr [126, 127, 128, 129, 130, 131, 132, 133, 134, 135, 136, 137] hf ?_
 refine Zq10 1 2 7 8 10 16 18 19 20 138 hf ?_
 clear hf s1 s2 s7 s8 s10 s16 s18 s19 s20 qs; intro fr1 hf sS
 refine Zx hK31 (Fact.cond_f sS.2.2.2.2.2.2.2.2.2 ?_)
 rw [less_eq] at hlq
 have hdr := filter_drop HLR.out hi hbef (fun e he => by rw [hp] at he; cases he; exact hlq)
 refine Zo ?_
 refine Fact.then_normal ?_
 obtain ⟨s1, s2, s7, s8, s10, s16, s18, s19, s20, s138⟩ := sS
 exact ⟨i, hi, hf, ⟨s1, s2, s7, s8, s10, s16, s18, s19, s20⟩, hdr, rfl⟩)))
 . (
 clear hf sS
 rintro fr wr ⟨i, hi, hf, ⟨s1, s2, s7, s8, s10, s16, s18, s19, s20⟩, hdr, rfl⟩
 refine Ze fun _ hK32 => rg ?_
 have bB := hf.B6 142 143 144 141 145 146
 refine Zy ?_
 refine Zc (all16 wr sv init ss Q own.length SA.size hQ hrs hini (by omega) (by omega) hok9 hfm9) ?_; rintro e wl9 ⟨vB, rfl, how, hbl⟩
 rw [show fromV ss init ⟨#[]⟩ own.length = own by rw [<- HSS.out, <- HIN.out]; exact HF.out.all] at how
 have hre2 := OE.re (es := own) how
 clear how
 replace hreF := (hreF.below hbl).more hbl.size
 replace hre := (hre.below hbl).more hbl.size
 replace hbt := hbt.trans (hbl.mono hbt.size)
 replace hQ := (hbl.block _ (heap_lt hQ)).trans hQ
 replace hrs := hrs.later hbl
 clear hbl
 refine Zv ?_
 refine Zc (make9 wl9 own _ vB (Nat.le_refl _) hre2 (by omega) (fun e he => (HLO.out e he).1) (by rw [HIN.out]; exact hini)) ?_; rintro e wm ⟨rfl, hbm⟩
 rw [HCD.out, HSA.out]
 clear hre2
 replace hreF := (hreF.below hbm).more hbm.size
 replace hre := (hre.below hbm).more hbm.size
 replace hbt := hbt.trans (hbm.mono hbt.size)
 replace hQ := (hbm.block _ (heap_lt hQ)).trans hQ
 replace hrs := hrs.later hbm
 clear hbm
 refine Zv ?_
 iterate 5 refine Zy ?_
 refine Fact.nil (Zq9 2 7 8 16 18 19 20 21 22 hf ?_)
 clear hf s1 s2 s7 s8 s10 s16 s18 s19 s20 bB; intro fr1 hf sS
 refine Zx hK32 ?_
 obtain ⟨m, hm⟩ : ∃ x, min own.length (i + nm) = x := ⟨_, rfl⟩
 have q8 : min ((own.length : Nat) : Int) ((i : Int) + (nm : Int)) = ((m : Nat) : Int) := by omega
 have q9 : (iz == iz) = true := beq_self_eq_true _
 have q10 : (SA.toList == SA.toList) = true := beq_self_eq_true _
 have hmo : m <= own.length := by omega
 have him : i <= m := by omega
 have HM := Lib.hid hm; clear hm
 have hreC := RE.slice (m := m) hre him hmo
 obtain ⟨vS, hvS⟩ : ∃ x, (if cv = i then Av else Option.map (fun x => x.add (i * 3)) Av) = x := ⟨_, rfl⟩
 rw [hvS] at hreC
 rw [show fromV ss init z nm = (own.take m).drop i by rw [<- HSS.out, <- HIN.out, <- HM.out]; exact from_drop HF.out z nm i hdr] at hreF
 refine Ze fun _ hK33 => ?_
 have qs := And.intro q6 (And.intro q8 (And.intro q9 q10))
 refine rg ?_
 have bB := And.intro (hf.B10 147 148 149 150 151 152 153 154 155 156) (And.intro (hf.B10 157 158 159 160 161 162 163 164 165 166) (hf.B7 167 168 169 170 171 172 173))
 iterate 15 refine Zy ?_
 refine og 3 150 true ?_ fun K Z => ?_
 . (
 simp (decide := true) only [Fact.G, reduceIte, hf.size, q6, q8, q9, q10])
 go_simp
 rw [if_pos (by omega)]
 try rw [hvS]
 rw [Oper.upon_value]
 apply Z.out; clear Z K
 refine Zd (same11 wm _ _ _ _ vF _ (Nat.le_refl _) (Nat.le_refl _) hreF hreC (by rw [List.length_drop, List.length_take]; omega) (by rw [List.length_drop, List.length_take]; omega)) ?_; rintro e wn ⟨rfl, hb9⟩
 rw [decide_eq_true rfl]
 replace hbt := hbt.trans (hb9.mono hbt.size)
 refine Zv ?_
 iterate 11 refine Zy ?_
 refine Fact.nil (Zq1 6 hf ?_)
 clear hf sS bB qs; intro fr1 hf s6
 refine Zx hK33 (Zret ?_)
 exact Fact.ret1 rfl hf s6 ⟨rfl, hbt⟩))))
open Go.ChangeShapes Go.WideShapes Go.ChangeAt Go.Deep
set_option maxRecDepth 100000
theorem cells_u8 : Tryz.prog.cellsOf 5 = 1 := by kernel_rfl
theorem cells_dra : Tryz.prog.cellsOf 131 = 3 := by kernel_rfl
section
variable {H : Type} {enc : TypeId × Value -> H} {W : World}
theorem open_letters {fuel : Nat} {v : Value} {x : DataW H × List MemPlace} (h : DataW.trod enc Tryz.prog W 0 (fun _ => true) true fuel 31 [v] = some x) :
  ∃ l : List Int, RU W W.heap.size v l /\ ∀ x ∈ l, 0 <= x /\ x <= 255 := by
 rcases open_ints Tryz.underlying31 Tryz.underlying5 cells_u8 h with ⟨hcs, -⟩ | ⟨a, len, cap, zs, hcs, _, hl, hm, hz, -, hcell, hwz⟩
 ·injection hcs with hcs
  exact ⟨[], ⟨none, 0, hcs, by simp, fun h => absurd h (by simp)⟩, by simp⟩
 ·injection hcs with hcs
  simp only [if_true] at hz
  have hlen : (zs.take len).length = len := by simp; omega
  refine ⟨zs.take len, ⟨some a, cap, by rw [hlen]; exact hcs, by rw [hlen]; unfold maxLen at hm; omega, fun h0 => ?_⟩, fun x hx => by have := bounds_u8 (hwz x (List.mem_of_mem_take hx)); omega⟩
  rw [hlen] at h0
  obtain ⟨ab, ao, spot⟩ := a
  have hspot : spot = none := by simpa [Addr.add] using World.cell?_spot (hcell 0 (by omega))
  subst hspot
  have h00 := cell_lt0 (hcell 0 (by omega))
  refine ⟨ab, ao, rfl, by simpa [Addr.add] using h00, fun j u hu => ?_⟩
  have hj : j < len := by have := (gS1 hu).1; simp at this; omega
  have hcj := hcell j (by omega)
  rw [Addr.add_lit] at hcj
  have hu2 : zs[j]? = some u := by rw [List.getElem?_take, if_pos hj] at hu; exact hu
  rw [hcj]
  simp [List.getD, hu2]
theorem open_drafts {fuel : Nat} {v : Value} {x : DataW H × List MemPlace} (h : DataW.trod enc Tryz.prog W 0 (fun _ => true) true fuel 22 [v] = some x) :
  ∃ ds : List Dra, RDs W W.heap.size v ds /\ ∀ d ∈ ds, okD d := by
 rcases open_slice Tryz.underlying22 h with ⟨hcs, -⟩ | ⟨a, len, cap, m, n, D, Pl, hcs, _, hl, hm, hmm, -, hi⟩
 ·injection hcs with hcs
  exact ⟨[], ⟨none, 0, hcs, by simp, fun h => absurd h (by simp)⟩, by simp⟩
 ·injection hcs with hcs
  simp only [if_true] at hmm
  subst hmm
  have key : ∀ i, i < len -> ∃ d : Dra, okD d /\ ∃ lv, W.cell? (a.add (i * 3)) = some lv /\ W.cell? (a.add (i * 3 + 1)) = some (.int .u32 d.weight) /\ W.cell? (a.add (i * 3 + 2)) = some (.bool d.gone) /\ RU W W.heap.size lv d.letters := by
   intro i hil
   obtain ⟨cs', hc, ht'⟩ := hi i (by omega)
   rw [cells_dra] at hc
   obtain ⟨ys, n', hn', hy, hlen, hyl, hf⟩ := DataW.trod_struct Tryz.underlying131 ht'
   obtain ⟨_, hcl, hat⟩ := World.cells?_some hc
   match cs', hcl with
   | [u0, u1, u2], _ =>
    have k0 := hat 0 (by omega)
    have k1 := hat 1 (by omega)
    have k2 := hat 2 (by omega)
    have f0 := hf 0 _ rfl
    have f1 := hf 1 _ rfl
    have f2 := hf 2 _ rfl
    have g0 : DataW.trod enc Tryz.prog W 0 (fun _ => true) true n' 31 [u0] = ys[0]? := f0
    have g1 : DataW.trod enc Tryz.prog W 0 (fun _ => true) true n' 24 [u1] = ys[1]? := f1
    have g2 : DataW.trod enc Tryz.prog W 0 (fun _ => true) true n' 4 [u2] = ys[2]? := f2
    have y3 : ys.length = 3 := hyl
    rw [gE1 (by omega)] at g0 g1 g2
    obtain ⟨l, hl1, hl2⟩ := open_letters g0
    obtain ⟨z, hz, -, hwz⟩ := DataW.trod_int Tryz.underlying24 g1
    obtain ⟨g, hg, -⟩ := DataW.trod_bool Tryz.underlying4 g2
    injection hz with hz
    injection hg with hg
    subst hz
    subst hg
    rw [Go.Deep.add_add] at k0 k1 k2
    exact ⟨⟨l, z, g⟩, ⟨hl2, by have := bounds_u32 hwz; show 0 <= z; omega, by have := bounds_u32 hwz; show z < 4294967296; omega⟩, u0, k0, k1, k2, hl1⟩
  obtain ⟨F, hF⟩ := choose_lt (α := Option Dra) (p := fun i o => ∃ d, o = some d /\ okD d /\ ∃ lv, W.cell? (a.add (i * 3)) = some lv /\ W.cell? (a.add (i * 3 + 1)) = some (.int .u32 d.weight) /\ W.cell? (a.add (i * 3 + 2)) = some (.bool d.gone) /\ RU W W.heap.size lv d.letters)
   (fun i hi => by obtain ⟨d, hd⟩ := key i hi; exact ⟨some d, d, rfl, hd⟩)
  have hlen : ((List.range len).map fun i => (F i).getD ⟨[], 0, false⟩).length = len := by simp
  have hget : ∀ (i : Nat) (d : Dra), ((List.range len).map fun i => (F i).getD ⟨[], 0, false⟩)[i]? = some d -> i < len /\ F i = some d := fun i d hd => by
   have hil : i < len := by have := (gS1 hd).1; simpa using this
   obtain ⟨d', e, _⟩ := hF i hil
   rw [List.getElem?_map, List.getElem?_range hil] at hd
   simp only [Option.map_some, e, Option.getD_some, Option.some.injEq] at hd
   exact ⟨hil, by rw [e, hd]⟩
  refine ⟨(List.range len).map fun i => (F i).getD ⟨[], 0, false⟩, ⟨some a, m, by rw [hlen]; exact hcs, by rw [hlen]; unfold maxLen at hm; omega, fun h0 => ?_⟩, fun d hd => ?_⟩
  ·rw [hlen] at h0
   obtain ⟨ab, ao, spot⟩ := a
   obtain ⟨d0, -, -, lv0, q0, -⟩ := hF 0 h0
   have hspot : spot = none := by simpa [Addr.add] using World.cell?_spot q0
   subst hspot
   refine ⟨ab, ao, rfl, by simpa [Addr.add] using cell_lt0 q0, fun i d hd => ?_⟩
   obtain ⟨hil, hFi⟩ := hget i d hd
   obtain ⟨d', e, -, lv, k0, k1, k2, k3⟩ := hF i hil
   obtain rfl : d = d' := Option.some.inj (hFi.symm.trans e)
   rw [Addr.add_lit] at k0 k1 k2
   exact ⟨lv, k0, by rw [Nat.add_assoc]; exact k1, by rw [Nat.add_assoc]; exact k2, k3⟩
  ·obtain ⟨i, hi2⟩ := List.mem_iff_getElem?.1 hd
   obtain ⟨hil, hFi⟩ := hget i d hi2
   obtain ⟨d', e, hok, -⟩ := hF i hil
   obtain rfl : d = d' := Option.some.inj (hFi.symm.trans e)
   exact hok
end
end Dw
open Go.ChangeShapes Go.WideShapes Go.ChangeAt Go.RowKit Go.Deep
theorem Own.own : ownKnob Tryz.prog.godebug = none := by kernel_rfl
theorem Own.laidOut : laidOutB Tryz.prog = true := by kernel_rfl
theorem own_end {H : Type} {enc : TypeId × Value -> H} {f : Func} {s : ChangeSpec} {fresh handsOn again : Bool} {W W' : World} {args : Array Value} {ds : List (DataW H)} {before : List MemPlace}
  (hv : s.vars = []) (ht : f.resultTypes = #[4]) (hf : s.fn H ds = { results := [.lit (.bool true)], args := ds })
  (hW : DataW.Whole enc Tryz.prog f.params.toList s.vars false W args.toList ds [] before) (hb : Below W.heap.size W W')
  (hargs : ∀ sp : Nat -> Bool, (∀ p ∈ before, sp p.block = true) -> DataW.TrodAll enc Tryz.prog W' 0 sp true f.params.toList args.toList ds before) :
  s.post enc Tryz.prog f false fresh handsOn again W args (.bool true) W' := by
 have hlt : ∀ p ∈ before, p.block < W.heap.size := fun p hp => hW.lt p hp
 have hold : ∀ p ∈ before, (fun b => decide (b < W.heap.size)) p.block = true := fun p hp => by simpa using hlt p hp
 have hres : ∀ (b : Nat) (sp : Nat -> Bool) (hd : Bool), DataW.TrodAll enc Tryz.prog W' b sp hd f.resultTypes.toList ((Value.bool true).resultList f.resultTypes.size) (s.fn H (ds ++ [])).results [] := fun b sp hd => by
  rw [ht, List.append_nil, hf]
  exact trodAll_mk1 ⟨1, by simp [DataW.trod, Value.cells, Tryz.underlying4]⟩
 have hvars : ∀ sp : Nat -> Bool, DataW.TrodVars enc Tryz.prog W' sp s.vars (s.fn H (ds ++ [])).vars [] := fun sp => by
  rw [List.append_nil, hf, hv]; rfl
 have ha2 : ∀ sp : Nat -> Bool, (∀ p ∈ before, sp p.block = true) -> DataW.TrodAll enc Tryz.prog W' 0 sp true f.params.toList args.toList (s.fn H (ds ++ [])).args before := fun sp hsp => by
  rw [List.append_nil, hf]; exact hargs sp hsp
 refine ⟨ds, [], before, [], before, [], hW, hres _ _ _, ha2 _ hold, hvars _, World.keptBut_mono (fun p hp => ⟨hp, ?_⟩) (hb.frame (. ∈ before)), fun _ => ?_⟩
 ·exact .inr (.inl hp)
 ·obtain ⟨_, _, _, _, _, hz, hn⟩ := hW
  refine ⟨?_, _, _, ([] ++ before) ++ [], ⟨[] ++ before, [], trodAll_append (ha2 _ (fun _ _ => rfl)) (hres _ _ _), hvars _, rfl, ?_, ?_⟩, ?_⟩
  ·rw [ht]
   intro j t r h1 h2
   match j, h1, h2 with
   | 0, h1, h2 =>
    injection h1 with h1
    subst h1
    have : r = .bool true := by
     have h3 : some (Value.bool true) = some r := h2
     injection h3 with h3
     exact h3.symm
    subst this
    simp [Value.okWide, Tryz.underlying4, Cell.okWide, Cell.ok]
   | j + 1, h1, h2 => simp at h1
  ·intro b off hp
   have hin : MemPlace.cell b off ∈ before := by simpa using hp
   rw [hb.frozen (hlt _ hin)]
   exact hz b off hin
  ·intro ha
   cases ha
  ·intro p hp _
   simpa using hp
open Go.ChangeShapes Go.WideShapes Go.ChangeAt Go.RowKit
def lay3 : List (String × DataW Unit) := [("math/bits.deBruijn32tab", Rows.laid_math_bits_deBruijn32tab), ("math/bits.deBruijn64tab", Rows.laid_math_bits_deBruijn64tab), ("internal/strconv.uint64pow10", Rows.laid_internal_strconv_uint64pow10)]
theorem door_met (os : Os) (args : Array Value) : laidMetH Tryz.prog lay3 ((World.doorLaid Tryz.prog 24 os).forCall (fun _ _ => 0) ⟨#[], args, []⟩).memory :=
 laidMetH_of_parts3 (fuel := 8) (laidMet_of_run' 8 (by kernel_rfl) (by kernel_rfl)) (by kernel_rfl) (by kernel_rfl)
end Go.Proofs.YtcddnmhmcieebaaGreatDoor
