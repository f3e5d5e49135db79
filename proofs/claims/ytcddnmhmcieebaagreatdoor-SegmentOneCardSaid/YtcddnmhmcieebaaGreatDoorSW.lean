/- law16: works. -/
import Derived.Test.YtcddnmhmcieebaaGreatDoorY25
import Derived.Test.YtcddnmhmcieebaaGreatDoorY16
import Derived.Test.YtcddnmhmcieebaaGreatDoorY8
import Derived.Test.YtcddnmhmcieebaaGreatDoorTools
namespace Go.Proofs.YtcddnmhmcieebaaGreatDoor
open Go.RowKit
set_option linter.unusedSimpArgs false
set_option linter.unusedVariables false
set_option linter.unnecessarySimpa false
namespace Dw
theorem RE.lit {w W:World} {A:Array Value} {t:TypeId} (h:w.alloc (.cells A t)=W) (l:List z6) (hA:A.toList=tJ l):Below w.heap.size w W/\RE W W.heap.size (.slice (some ⟨w.heap.size,0,none⟩) l.length l.length) l:=by
 obtain ⟨h1,h2,h3⟩:=fM h
 exact ⟨h1,_,_,rfl,nR,fun _=>⟨_,_,rfl,oM,fun j u hu=>h2 j u (by rw [hA];exact hu)⟩⟩
def wkE:List z6:=[⟨⟨#[97]⟩,1,false⟩,⟨⟨#[98]⟩,0,true⟩]
def wkI:Nat:=(buildF wkE).init
def wkS:List State:=(buildF wkE).l3
theorem y3f (en:Int) (h:(P1 en wkS)=true):(putR en wkI wkS).2=0:=by unfold putR;rw [if_pos h]
theorem z9h:∀ s∈wkS,J8 s:=x5l _ kR
theorem x5k:makeV wkE=(bl (putR 2 wkI wkS).1,0):=by
 unfold makeV
 rw [if_neg dC,if_neg (by rw [show aW wkE=0 by kernel_rfl];simp)]
 exact Prod.ext rfl (y3f 2 kR)
theorem z4n (en:Nat) (h:P1 en wkS=true):Q0 (bl (putR en wkI wkS).1)= .ok (en,wkI,wkS):=by
 have:=pW (en:=(en:Int)) (init:=wkI) h z9h (Nat.le_of_ble_eq_true kR) (Nat.le_of_ble_eq_true kR)
 simpa using this
theorem kK:∀ (k:Nat) (st:State),wkS[k]? =some st->okArcs k (-1) st.a6=true:=fun k st hk=>aG (show C4 wkS=true by kernel_rfl) hk
theorem y7v:rightS 2 wkS wkI=true:=kR
theorem y7u:rightS 3 wkS wkI=false:=kR
theorem u6b:getV wkI wkS ⟨#[97]⟩=(⟨⟨#[97]⟩,1,false⟩,true):=kR
theorem u6a:getV wkI wkS ⟨#[98]⟩=(⟨⟨#[98]⟩,0,true⟩,true):=kR
theorem u5z:getV wkI wkS ⟨#[99]⟩=(⟨⟨#[]⟩,0,false⟩,false):=kR
theorem y3e:makeV [⟨⟨#[98]⟩,1,false⟩,⟨⟨#[97]⟩,1,false⟩]=(⟨#[]⟩,15):=kR
theorem y3d:makeV []=(⟨#[]⟩,2):=kR
theorem x5j:openV ⟨#[]⟩=false:=kR
theorem x5i (en:Nat) (h:P1 en wkS=true) (h2:(putR en wkI wkS).1.length<=1000):(bl (putR en wkI wkS).1).size<=900000000:=by
 rw [X4];omega
theorem w6l:∀ e∈wkE,gM e:=by
 intro e he
 simp only [wkE,List.mem_cons,List.not_mem_nil,or_false] at he
 rcases he with rfl | rfl<;>(unfold gM;decide)
theorem pX:wkS.length<=100000:=Nat.le_of_ble_eq_true kR
theorem z4m:0<wkS.length:=Nat.lt_of_lt_of_le (Nat.zero_lt_one) (Nat.le_of_ble_eq_true kR)
theorem jN:wkI<18446744073709551616:=Nat.le_of_ble_eq_true kR
theorem y3c:(buildF wkE).init<18446744073709551616:=jN
theorem y3b:(buildF []).init<18446744073709551616:=Nat.le_of_ble_eq_true kR
theorem w6k:∀ s∈wkS,s.a6.length<=1000:=x5h _ kR
theorem x0b (en:Nat) (h:P1 en wkS=true) (h2:Nat.ble (putR en wkI wkS).1.length 1000=true):(bl (putR en wkI wkS).1).size<=900000000:=x5i en h (Nat.le_of_ble_eq_true h2)
theorem z0o (en:Nat) (h:P1 en wkS=true):∀ en2 init ss,Q0 (bl (putR en wkI wkS).1)= .ok (en2,init,ss)->ss.length<=1000000:=by
 intro en2 init ss h2
 rw [z4n en h] at h2
 cases h2
 exact Nat.le_trans pX oM
theorem x5g {w w1:World} {e:Ending} {s:ByteArray} (hs:bl (putR 2 wkI wkS).1=s) (h:gN w w1 e s):∃ S sv,e= .returned (.tuple #[.pointer (some ⟨S,0,none⟩),.int .i64 0])/\w1.heap[S]? =some (.cells #[sv,.int .u64 wkI,.int .i64 (2:Nat),.int .i64 s.size] 98 (0,0))/\RS w1 sv wkS/\Below w.heap.size w w1:=by
 subst hs
 unfold gN at h
 have hg:=z4n 2 kR
 rw [show ((2:Nat):Int)=2 from rfl] at hg
 rw [hg] at h
 simp only at h
 rw [show rightS ((2:Nat):Int) wkS wkI=true from y7v] at h
 obtain ⟨S,sv,h1,_,h2,h3,h4⟩:=h
 exact ⟨S,sv,h1,h2,h3,h4⟩
theorem w6j:openV (bl (putR 3 wkI wkS).1)=false:=by
 unfold openV
 have hg:=z4n 3 kR
 rw [show ((3:Nat):Int)=3 from rfl] at hg
 rw [hg]
 exact y7u
attribute [local irreducible] wkI wkS putR makeV getV openV buildF rightS
set_option maxHeartbeats 4000000 in
set_option maxRecDepth 100000 in
theorem w6i (w:World)  : G4 w 8 #[] (.bool true):=by
 refine Zn0 113 Tryz.func8 fun fr hf=> ?_
 have o5:=Below.refl w.heap.size w
 refine Ze fun _ b7=>Zr [] hf ?_
 refine Zq0 hf ?_
 clear hf;intro a7 hf
 refine Zt b7 fun _ b7=> ?_
 have bB:=hf.B7 18 19 20 21 17 22 23
 iterate 2 refine Zy ?_
 refine fp fun K Z=> ?_
 go_simp
 generalize hV1:World.alloc w (.cells #[.string ⟨#[97]⟩,.int .u32 1,.bool false,.string ⟨#[98]⟩,.int .u32 0,.bool true] 64)=V1
 obtain ⟨bV1,x20⟩:=RE.lit hV1 [⟨⟨#[97]⟩,1,false⟩,⟨⟨#[98]⟩,0,true⟩] rfl
 replace o5:=o5.trans (bV1.mono o5.size)
 clear hV1
 apply Z.out;clear Z K
 refine Zc (z9g V1 wkE V1.heap.size _ nR x20 dC w6l y3c) ?_;rintro e w1 ⟨rfl,n7⟩
 rw [x5k]
 generalize hSA:bl (putR 2 wkI wkS).1=SA
 have HSA:=H9 hSA;clear hSA
 replace o5:=o5.trans (n7.mono o5.size)
 replace x20:=(x20.below n7).any
 dsimp only
 refine Zv ?_
 iterate 5 refine Zy ?_
 refine Fc.nil (C1 1 2 hf ?_)
 clear hf bB;intro a7 hf sS
 refine Zt b7 fun _ b7=> ?_
 have bB:=hf.B5 25 26 24 27 28
 refine Zy ?_
 refine Zc (z4l w1 SA (by rw [<- HSA.out];exact x0b 2 kR kR) (by rw [<- HSA.out];exact z0o 2 kR)) ?_;rintro e w2 lT
 obtain ⟨S,sv,rfl,hS,o7,r9⟩:=x5g HSA.out lT
 replace o5:=o5.trans (r9.mono o5.size)
 clear r9
 refine Zv ?_
 iterate 5 refine Zy ?_
 refine Fc.nil (B1 2 3 4 hf ?_)
 clear hf sS bB;intro a7 hf sS
 refine Zs b7 fun _ b7=>Ze fun _ j8=>Zr [29,30,31,32,33,34,35,36,37] hf ?_
 refine C1 3 38 hf ?_
 clear hf sS;intro a7 hf sS
 refine Zx j8 (Fc.k9 sS.2 ?_)
 refine wp_skip (Zt b7 fun _ b7=> ?_)
 have bB:=hf.B6 40 41 39 42 43 5
 refine Zy ?_
 refine Zc (z4k w2 S wkI 2 SA.size sv hS wkS ⟨#[97]⟩ o7 (Nat.le_trans pX oM) z9h kK z4m jN dC) ?_;rintro e w5 ⟨rfl,F2⟩
 rw [u6b]
 simp only [eval]
 replace o5:=o5.trans (F2.mono o5.size)
 replace hS:=(F2.block _ (j4 hS)).trans hS
 replace o7:=o7.later F2
 clear F2
 refine Zv ?_
 iterate 6 refine Zy ?_
 refine Fc.nil (B1 3 5 6 hf ?_)
 clear hf sS bB;intro a7 hf sS
 generalize v7f:w5.alloc (.cells #[.string ⟨#[97]⟩,.int .u32 1,.bool false] 64)=V5x
 obtain ⟨z0n,e5,f5,g5, -, -⟩:=G1 v7f
 clear v7f
 replace o5:=o5.trans (z0n.mono o5.size)
 replace hS:=(z0n.block _ (j4 hS)).trans hS
 replace o7:=o7.later z0n
 clear z0n
 refine Zt b7 fun _ b7=> ?_
 have bB:=hf.B6 45 46 44 47 48 7
 refine Zy ?_
 refine Zc (z4k V5x S wkI 2 SA.size sv hS wkS ⟨#[98]⟩ o7 (Nat.le_trans pX oM) z9h kK z4m jN dC) ?_;rintro e w6 ⟨rfl,G7⟩
 rw [u6a]
 simp only [eval]
 replace o5:=o5.trans (G7.mono o5.size)
 replace hS:=(G7.block _ (j4 hS)).trans hS
 replace o7:=o7.later G7
 replace f5:=cL G7 f5
 replace g5:=cL G7 g5
 clear G7
 refine Zv ?_
 iterate 6 refine Zy ?_
 refine Fc.nil (D0 3 5 6 7 8 hf ?_)
 clear hf sS bB;intro a7 hf sS
 generalize v7e:w6.alloc (.cells #[.string ⟨#[98]⟩,.int .u32 0,.bool true] 64)=V6x
 obtain ⟨vD,e6,f6,g6, -, -⟩:=G1 v7e
 clear v7e
 replace o5:=o5.trans (vD.mono o5.size)
 replace hS:=(vD.block _ (j4 hS)).trans hS
 replace o7:=o7.later vD
 replace f5:=cL vD f5
 replace g5:=cL vD g5
 clear vD
 refine Zt b7 fun _ b7=> ?_
 have bB:=hf.B6 50 51 49 52 53 9
 refine Zy ?_
 refine Zc (z4k V6x S wkI 2 SA.size sv hS wkS ⟨#[99]⟩ o7 (Nat.le_trans pX oM) z9h kK z4m jN dC) ?_;rintro e w7 ⟨rfl,A8⟩
 rw [u5z]
 simp only [eval]
 replace o5:=o5.trans (A8.mono o5.size)
 replace hS:=(A8.block _ (j4 hS)).trans hS
 replace o7:=o7.later A8
 replace f5:=cL A8 f5
 replace g5:=cL A8 g5
 replace f6:=cL A8 f6
 replace g6:=cL A8 g6
 clear A8
 refine Zv ?_
 iterate 6 refine Zy ?_
 refine Fc.nil (J3 3 5 6 7 8 10 hf ?_)
 clear hf sS bB;intro a7 hf sS
 generalize v7d:w7.alloc (.cells #[.string ⟨#[]⟩,.int .u32 0,.bool false] 64)=V7x
 obtain ⟨lU,e7,f7,g7, -, -⟩:=G1 v7d
 clear v7d
 replace o5:=o5.trans (lU.mono o5.size)
 replace hS:=(lU.block _ (j4 hS)).trans hS
 replace o7:=o7.later lU
 replace f5:=cL lU f5
 replace g5:=cL lU g5
 replace f6:=cL lU f6
 replace g6:=cL lU g6
 clear lU
 refine Zt b7 fun _ b7=> ?_
 have bB:=hf.B4 55 54 56 57
 refine Zc (z9g V7x [] V7x.heap.size _ nR (OE.S0 V7x 0).re dC (fun _ h=>absurd h sP) y3b) ?_;rintro e w8 ⟨rfl,dZ⟩
 rw [y3d]
 replace o5:=o5.trans (dZ.mono o5.size)
 replace hS:=(dZ.block _ (j4 hS)).trans hS
 replace o7:=o7.later dZ
 replace f5:=cL dZ f5
 replace g5:=cL dZ g5
 replace f6:=cL dZ f6
 replace g6:=cL dZ g6
 replace f7:=cL dZ f7
 replace g7:=cL dZ g7
 dsimp only
 refine Zv ?_
 iterate 5 refine Zy ?_
 refine Fc.nil (cP 3 5 6 7 8 10 12 hf ?_)
 clear hf sS bB;intro a7 hf sS
 refine Zt b7 fun _ b7=> ?_
 have bB:=hf.B7 59 60 61 62 58 63 64
 iterate 2 refine Zy ?_
 refine fp fun K Z=> ?_
 go_simp
 generalize hV2:World.alloc w8 (.cells #[.string ⟨#[98]⟩,.int .u32 1,.bool false,.string ⟨#[97]⟩,.int .u32 1,.bool false] 64)=V2
 obtain ⟨bV2,x61⟩:=RE.lit hV2 [⟨⟨#[98]⟩,1,false⟩,⟨⟨#[97]⟩,1,false⟩] rfl
 replace o5:=o5.trans (bV2.mono o5.size)
 replace hS:=(bV2.block _ (j4 hS)).trans hS
 replace o7:=o7.later bV2
 replace f5:=cL bV2 f5
 replace g5:=cL bV2 g5
 replace f6:=cL bV2 f6
 replace g6:=cL bV2 g6
 replace f7:=cL bV2 f7
 replace g7:=cL bV2 g7
 clear hV2
 apply Z.out;clear Z K
 refine Zc (z9g V2 [⟨⟨#[98]⟩,1,false⟩,⟨⟨#[97]⟩,1,false⟩] V2.heap.size _ nR x61 dC (fun e he=>by simp only [List.mem_cons,List.not_mem_nil,or_false] at he;rcases he with rfl | rfl<;>(unfold gM;decide)) (Nat.le_of_ble_eq_true kR)) ?_;rintro e w9 ⟨rfl,kL⟩
 rw [y3e]
 replace o5:=o5.trans (kL.mono o5.size)
 replace hS:=(kL.block _ (j4 hS)).trans hS
 replace o7:=o7.later kL
 replace f5:=cL kL f5
 replace g5:=cL kL g5
 replace f6:=cL kL f6
 replace g6:=cL kL g6
 replace f7:=cL kL f7
 replace g7:=cL kL g7
 replace x61:=(x61.below kL).any
 dsimp only
 refine Zv ?_
 iterate 5 refine Zy ?_
 refine Fc.nil (nM 3 5 6 7 8 10 12 14 hf ?_)
 clear hf sS bB;intro a7 hf sS
 refine Zx b7 ?_
 obtain ⟨Ay,ny,rfl,hny⟩:=o7.form
 refine Ze fun _ b7=>rg ?_
 have bB:=hf.B6 66 67 68 65 69 70
 refine Zy ?_
 refine Zc (v7c w9 S (.slice Ay wkS.length ny) wkI 2 SA.size hS ⟨_,_,_,rfl⟩) ?_;rintro e w10 ⟨rfl,bX⟩
 replace o5:=o5.trans (bX.mono o5.size)
 replace hS:=(bX.block _ (j4 hS)).trans hS
 replace o7:=o7.later bX
 replace f5:=cL bX f5
 replace g5:=cL bX g5
 replace f6:=cL bX f6
 replace g6:=cL bX g6
 replace f7:=cL bX f7
 replace g7:=cL bX g7
 refine Zv ?_
 refine Zc (y2z w10 3 (.slice Ay wkS.length ny) wkI wkS o7 z9h pX w6k jN) ?_;rintro e w11 ⟨rfl,nN⟩
 rw [y3f 3 kR]
 generalize hSB:bl (putR 3 wkI wkS).1=SB
 have HSB:=H9 hSB;clear hSB
 replace o5:=o5.trans (nN.mono o5.size)
 replace hS:=(nN.block _ (j4 hS)).trans hS
 replace o7:=o7.later nN
 replace f5:=cL nN f5
 replace g5:=cL nN g5
 replace f6:=cL nN f6
 replace g6:=cL nN g6
 replace f7:=cL nN f7
 replace g7:=cL nN g7
 refine Zv ?_
 iterate 5 refine Zy ?_
 refine Fc.nil (vE 3 5 6 7 8 10 12 14 15 hf ?_)
 clear hf sS bB;intro a7 hf sS
 refine Zx b7 ?_
 have q1:decide (0<SB.size)=true:=decide_eq_true (by have:=HSB.out;rw [<- this,X4];exact Nat.lt_of_lt_of_le Nat.zero_lt_one (Nat.le_of_ble_eq_true kR))
 refine Ze fun _ b7=> ?_
 have qs:=q1
 refine rg ?_
 have bB:=And.intro (hf.pL 71 72 73 74 75 76 77 78 79 80) (And.intro (hf.pL 81 82 83 84 85 86 87 88 89 90) (And.intro (hf.pL 91 92 93 94 95 96 97 98 99 100) (And.intro (hf.pL 101 102 103 104 105 106 107 108 109 110) (hf.B2 111 112))))
 refine Zy ?_
 refine Zc (w9z w11 S (.slice Ay wkS.length ny) wkI 2 SA.size hS) ?_;rintro e v1 ⟨rfl,zS⟩
 replace o5:=o5.trans (zS.mono o5.size)
 replace hS:=(zS.block _ (j4 hS)).trans hS
 replace o7:=o7.later zS
 replace f5:=cL zS f5
 replace g5:=cL zS g5
 replace f6:=cL zS f6
 replace g6:=cL zS g6
 replace f7:=cL zS f7
 replace g7:=cL zS g7
 refine Zv ?_
 iterate 29 refine Zy ?_
 refine Zd (vF v1 ⟨#[]⟩ dC (fun en init ss h=>by rw [show Q0 ⟨#[]⟩= .error (16,0) by kernel_rfl] at h;cases h)) ?_;rintro e v31 ⟨rfl,xK⟩
 rw [x5j]
 replace o5:=o5.trans (xK.mono o5.size)
 replace hS:=(xK.block _ (j4 hS)).trans hS
 replace o7:=o7.later xK
 replace f5:=cL xK f5
 replace g5:=cL xK g5
 replace f6:=cL xK f6
 replace g6:=cL xK g6
 replace f7:=cL xK f7
 replace g7:=cL xK g7
 refine Zv ?_
 iterate 8 refine Zy ?_
 refine Zd (vF v31 SB (by rw [<- HSB.out];exact x0b 3 kR kR) (by rw [<- HSB.out];exact z0o 3 kR)) ?_;rintro e v40 ⟨rfl,xL⟩
 have hob:openV SB=false:=by rw [<- HSB.out];exact w6j
 rw [hob]
 replace o5:=o5.trans (xL.mono o5.size)
 replace hS:=(xL.block _ (j4 hS)).trans hS
 replace o7:=o7.later xL
 replace f5:=cL xL f5
 replace g5:=cL xL g5
 replace f6:=cL xL f6
 replace g6:=cL xL g6
 replace f7:=cL xL f7
 replace g7:=cL xL g7
 refine Zv ?_
 iterate 2 refine Zy ?_
 refine Fc.nil (r6 0 hf ?_)
 clear hf sS bB qs;intro a7 hf s0
 refine Zx b7 (k8 ?_)
 exact Fc.o9 rfl hf s0 ⟨rfl,o5⟩
end Dw
end Go.Proofs.YtcddnmhmcieebaaGreatDoor
