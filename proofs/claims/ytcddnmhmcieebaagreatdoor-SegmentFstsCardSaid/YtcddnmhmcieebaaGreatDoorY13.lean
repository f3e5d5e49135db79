import Derived.Test.YtcddnmhmcieebaaGreatDoorY12
import Derived.ProofKit
import Derived.Deep.Slices
import Derived.Deep.Fields
import Derived.OpenShut
import Derived.Test.YtcddnmhmcieebaaGreatDoorTie
import Derived.LaidMore
import Derived.Stop.Joined
namespace Go.Proofs.YtcddnmhmcieebaaGreatDoor
set_option linter.unusedSimpArgs false
set_option linter.unusedVariables false
set_option linter.unnecessarySimpa false
set_option maxHeartbeats 4000000
set_option maxRecDepth 100000
open Go.RowKit
namespace Dw
theorem vf {w:World} {g:Nat} {x y z:Value} {t:TypeId} (h:w.heap[g]? =some (.cells #[x,y,z] t (0,0))) (y':Value):(w.setCell ⟨g,1,none⟩ y').heap[g]? =some (.cells #[x,y',z] t (0,0)) :=
 (k7 (i:=1) h y').trans sP
theorem Kc {s:ByteArray} {en init i:Nat} {ss:List State} {st:Except J9 Nat} {b:J9} (hi:∀ p,st= .ok p->i=p) (h:i<s.size) (hf:lB (4,i) st= .error b):sEnd s en init ss st= .error b:=by
 cases st with
 | error a =>
  have h2:(Except.error a:Except J9 Nat)= .error b:=hf
  injection h2 with h2
  subst h2
  rfl
 | ok p =>
  have:=hi p rfl
  subst this
  have h2:(Except.error (4,i):Except J9 Nat)= .error b:=hf
  injection h2 with h2
  simp only [sEnd,if_pos h,h2]
theorem Ua {C:Nat->Prop} {V NV v5:Value} {f a b c d:Nat} (hC:∀ k,C k->f<k/\k<a/\V.ownBlock≠some k) (hN:∀ k,NV.ownBlock=some k->f<k/\k<b) (hnv:∀ k,NV.ownBlock=some k->V.ownBlock≠some k) (C7:v5.ownBlock=V.ownBlock\/v5.ownBlock=some c) (SP:a<=b) (CC:b<=c) (eZ:b<=d):∀ k,(C k\/NV.ownBlock=some k)->f<k/\k<d/\v5.ownBlock≠some k:=by
 rintro k (hk | hk)
 ·have h1:=hC k hk
  refine ⟨h1.1,oM,fun e=> ?_⟩
  rcases C7 with h | h
  ·rw [h] at e;exact h1.2.2 e
  ·rw [h] at e;injection e with e;omega
 ·have h1:=hN k hk
  refine ⟨h1.1,oM,fun e=> ?_⟩
  rcases C7 with h | h
  ·rw [h] at e;exact hnv k hk e
  ·rw [h] at e;injection e with e;omega
theorem PE (w:World) (s:ByteArray) (C8:s.size<=900000000):Calls Tryz.prog 76 #[.string s] w fun e w1=>y9c w w1 e (N9 s):=by
 refine L7 146 Tryz.func76 fun fr hf s0=> ?_
 obtain ⟨bd,is,X4⟩:∃ b i,openR (Crc.opened (wl s))=(b,i):=⟨_,_,rfl⟩
 have X3:=UX X4
 have UM:=H9 X4;clear X4
 refine Ze fun _ a8=>Zr [] hf ?_
 refine y7 0 3 4 hf ?_
 clear hf s0;intro a7 hf sS
 obtain ⟨W0,p8⟩:∃ x,(w.alloc (.cells #[.slice none 0 0,.int .u64 0] 38)).alloc (.cells #[.int .i64 0,.int .i64 0] 134)=x:=⟨_,rfl⟩
 obtain ⟨s0,s3,s4⟩:=sS
 try simp only [World.size_alloc] at s3 s4
 try rw [p8]
 obtain ⟨o7,fP,TV⟩:=D8 p8
 clear p8
 refine Zt a8 fun _ a8=> ?_
 have bB:=hf.B5 20 21 19 22 23
 refine Zy ?_
 refine Zc (da W0 s C8 UM.out) ?_;rintro e w1 ⟨rfl,p6⟩
 have R0:=(p6.block _ (j5 fP)).trans fP;have ES:=(p6.block _ (j5 TV)).trans TV
 have uS:=o7.trans (p6.mono o7.size)
 clear fP TV o7 p6
 refine Zv ?_
 iterate 5 refine Zy ?_
 refine Fc.nil (z8 3 4 5 6 hf ?_)
 clear hf s0 s3 s4 bB;intro a7 hf sS
 refine Zx a8 ?_
 rcases is with _ | _
 . (
 rw [PD UM.out]
 refine Ze fun _ a8=>Ze fun _ j8=>Zr [24] hf ?_
 refine z8 3 4 5 25 hf ?_
 intro a7 hf sS
 refine Zx j8 (Fc.l7 sS.2.2.2 ?_)
 have f30:=j6 (i:=0) R0;have z30:=n5 0 R0
 have f31:=j6 (i:=1) R0;have z31:=n5 1 R0
 have f40:=j6 (i:=0) ES;have z40:=n5 0 ES
 have f41:=j6 (i:=1) ES;have z41:=n5 1 ES
 simp at z30 z31 z40 z41
 refine Ze fun _ j8=>Zr [26,27] hf ?_
 refine y7 2 3 4 hf ?_
 intro a7 hf sS
 refine Zx j8 (k8 ?_)
 obtain ⟨Wa,hWa⟩:∃ x,(w1.setCell ⟨w.heap.size,0,none⟩ (.slice none 0 0)).setCell ⟨w.heap.size,1,none⟩ (.int .u64 0)=x:=⟨_,rfl⟩
 obtain ⟨gM,Db⟩:=XU R0 hWa
 try rw [hWa]
 clear hWa
 obtain ⟨Wb,ez⟩:∃ x,(Wa.setCell ⟨w.heap.size+1,0,none⟩ (.int .i64 16)).setCell ⟨w.heap.size+1,1,none⟩ (.int .i64 0)=x:=⟨_,rfl⟩
 obtain ⟨tR,jV⟩:=XU (gM.heap ES oM) ez
 try rw [ez]
 clear ez
 have hH:=tR.heap Db oM
 obtain ⟨s2,s3,s4⟩:=sS
 exact pX rfl hf s2 s3 s4 hH jV Tryz.underlying38 rfl Tryz.underlying134 rfl kR kR ⟨rfl,sP,uS.trans ((gM.below (B:=w.heap.size) uS.size (fun k h=>oM)).trans (tR.below (B:=w.heap.size) (Nat.le_trans uS.size gM.size) (fun k h=>oM)))⟩)
 . (
 rw [Em UM.out]
 have eZ:bd.size<=1000000000:=oM
 refine Ze fun _ a8=>Ze fun _ j8=>Zr [24] hf ?_
 refine z8 3 4 5 25 hf ?_
 intro a7 hf sS
 refine Zx j8 (Fc.k9 sS.2.2.2 ?_)
 refine wp_skip (Zs a8 fun _ a8=>Zr [28,29,30] hf ?_)
 refine z8 3 4 5 7 hf ?_
 intro a7 hf sS
 obtain ⟨g,hg⟩:∃ x,w1.heap.size=x:=⟨_,rfl⟩
 generalize mK:w1.alloc (.cells #[.string bd,.int .i64 0,.int .i64 0,.int .i64 0] 200)=W4
 obtain ⟨U4, -, -, -, -,lY, -⟩:=TG mK
 clear mK
 have Mw:w.heap.size+1<g:=by have:=j5 ES;omega
 have kT:=(U4.block _ (j5 R0)).trans R0;have MV:=(U4.block _ (j5 ES)).trans ES
 rw [hg] at lY
 obtain ⟨s3,s4,s5,s7⟩:=sS
 try rw [hg] at s7
 have y8z:IN W4 g bd (.ok 0):=⟨lY,Nat.zero_le _⟩
 have ey:=uS.trans (U4.mono uS.size)
 clear U4 uS R0 ES lY hg
 refine Zs a8 fun _ a8=>Ze fun _ j8=>Zr [] hf ?_
 refine D2 3 4 5 7 8 hf ?_
 clear hf s3 s4 s5 s7;intro a7 hf sS
 refine Zx j8 (wp_block (wp_loop_ghost (fun gk fr wr=>∃ (k:Nat) (st:Except J9 Nat),gk=3-k/\k<=3/\Fc.Fr 146 fr/\fr.tmps[3]? =some (.pointer (some ⟨w.heap.size,0,none⟩))/\fr.tmps[4]? =some (.pointer (some ⟨w.heap.size+1,0,none⟩))/\fr.tmps[5]? =some (.string bd)/\fr.tmps[7]? =some (.pointer (some ⟨g,0,none⟩))/\fr.tmps[8]? =some (.int .i64 k)/\sMag bd 3 0 (.ok 0)=sMag bd (3-k) k st/\IN wr g bd st/\n4 (fun k=>k=g) W4 wr) (3) ?_ ?_))
 . (
 obtain ⟨s3,s4,s5,s7,s8⟩:=sS
 exact ⟨0,_,rfl,Nat.zero_le _,hf,s3,s4,s5,s7,s8,rfl,y8z,n4.refl _ _⟩)
 . (
 clear hf sS
 rintro gk fr wr ⟨k,st,hk,aN,hf,s3,s4,s5,s7,s8,ve,D7,l6⟩
 have HK:=H9 hk;have HMA:=H9 ve;clear hk ve
 refine Ze fun _ j8=>Ze fun _ l8=>Zr [31] hf ?_
 refine F1 3 4 5 7 8 32 hf ?_
 clear hf s3 s4 s5 s7 s8;intro a7 hf sS
 refine Zx l8 (Fc.l0 sS.2.2.2.2.2 (fun hq=> ?_) (fun hq=> ?_))
 . (
 have bC:k<3:=qT
 clear hq
 obtain ⟨Kd,c,hc⟩:∃ a b,M7 bd st=(a,b):=⟨_,_,rfl⟩
 have HC:=H9 hc;clear hc
 have Ej:=KZ (k:=k) (m:=3-(k+1)) HC.out
 have Sf:=H9 Ej;clear Ej
 obtain ⟨m,hm⟩:∃ x,K6 k=x:=⟨_,rfl⟩
 have C7:∀ h:k<(ByteArray.mk #[67,83,1]).size,((ByteArray.mk #[67,83,1])[k]'h).toNat=m:=fun h=>by rw [<- hm, <- CD bC,aY h]
 have HM:=H9 hm;clear hm
 refine wp_skip (Zs j8 fun _ j8=>wp_block (Ze fun _ l8=>rg ?_))
 have bB:=hf.B2 35 36
 refine Zy ?_
 refine Zc (PC wr g bd st Kd c D7 eZ HC.out) ?_;rintro e w8 ⟨rfl,vd,aA⟩
 have yR:=l6.trans aA
 refine Zv ?_
 refine Zy ?_
 refine Fc.nil (F1 3 4 5 7 8 9 hf ?_)
 intro a7 hf sS
 refine Zt l8 fun _ l8=> ?_
 have bB:=hf.B3 37 38 39
 iterate 2 refine Zy ?_
 refine fp fun K Z=> ?_
 go_simp
 rw [if_pos (by omega)]
 apply Z.out;clear Z K
 refine Zy ?_
 refine Fc.nil (F1 3 4 5 7 8 40 hf ?_)
 intro a7 hf sS
 refine Zx l8 (Fc.l0 sS.2.2.2.2.2 (fun hq=> ?_) (fun hq=> ?_))
 . (
 have F0:c≠K6 k:=by rw [HM.out];intro e;subst e;simp at hq
 have MS:=H9 F0;clear F0 hq
 have A8:(if c=K6 k then Kd else lB (6,k) Kd)=lB (6,k) Kd:=if_neg MS.out
 have L4:=H9 A8;clear A8
 refine rg ?_
 have bB:=hf.B2 41 42
 iterate 2 refine Zy ?_
 refine Zc (PA w8 g bd Kd vd 6 k sP) ?_;rintro e w9 ⟨rfl,ew,dN⟩
 have pE:=yR.trans dN
 refine Zv ?_
 refine Fc.nil (D2 3 4 5 7 8 hf ?_)
 intro a7 hf sS
 refine Fc.j9 (Zx j8 (Zr [33,34] hf ?_))
 refine D2 3 4 5 7 8 hf ?_
 intro a7 hf sS
 refine Fc.j7 ?_
 obtain ⟨s3,s4,s5,s7,s8⟩:=sS
 exact ⟨_,by have:=HK.out;omega,k+1,_,rfl,oM,hf,s3,s4,s5,s7,by rw [s8];rfl,by rw [HMA.out,show 3-k=3-(k+1)+1 by omega,Sf.out,L4.out],ew,pE⟩)
 . (
 have A8:(if c=K6 k then Kd else lB (6,k) Kd)=Kd:=if_pos (by rw [HM.out];have:=(by simpa using hq:(c:Int)=m);omega)
 have L4:=H9 A8;clear A8 hq
 have ew:=vd;have pE:=yR
 refine wp_skip (Fc.j9 (Zx j8 (Zr [33,34] hf ?_)))
 refine D2 3 4 5 7 8 hf ?_
 intro a7 hf sS
 refine Fc.j7 ?_
 obtain ⟨s3,s4,s5,s7,s8⟩:=sS
 exact ⟨_,by have:=HK.out;omega,k+1,_,rfl,oM,hf,s3,s4,s5,s7,by rw [s8];rfl,by rw [HMA.out,show 3-k=3-(k+1)+1 by omega,Sf.out,L4.out],ew,pE⟩))
 . (
 have iB:k=3:=qF
 subst iB
 have hM0:sMag bd 3 0 (.ok 0)=st:=HMA.out
 have Yz:=H9 hM0;clear hM0 hq
 obtain ⟨Kd,en,hn⟩:∃ a b,sNum bd 0 100000 st=(a,b):=⟨_,_,rfl⟩
 have PF:=eC bd 0 100000 st
 rw [hn] at PF
 have vc:=H9 hn;clear hn
 replace PF:en<=100000:=PF.1
 obtain ⟨eu,n,hn⟩:∃ a b,sNum bd 1 18446744073709551615 Kd=(a,b):=⟨_,_,rfl⟩
 have PG:=eC bd 1 18446744073709551615 Kd
 rw [hn] at PG
 have wy:=H9 hn;clear hn
 replace PG:n<=18446744073709551615:=PG.1
 refine Zo ?_
 refine Zs a8 fun _ a8=>Zr [] hf ?_
 refine D2 3 4 5 7 10 hf ?_
 intro a7 hf sS
 refine Zt a8 fun _ a8=> ?_
 have bB:=hf.B3 44 45 46
 refine Zy ?_
 refine Zc (rZ wr g bd st Kd en D7 eZ 0 100000 vc.out) ?_;rintro e w12 ⟨rfl,wx,eR⟩
 have oE:=l6.trans eR
 refine Zv ?_
 refine fp fun K Z=> ?_
 go_simp
 try rw [Fc.wrap_i64 oM oM]
 apply Z.out;clear Z K
 refine Zy ?_
 refine Fc.nil (F1 3 4 5 7 10 11 hf ?_)
 intro a7 hf sS
 refine Zt a8 fun _ a8=> ?_
 have bB:=hf.B3 47 48 49
 iterate 2 refine Zy ?_
 refine Zc (rZ w12 g bd Kd eu n wx eZ 1 18446744073709551615 wy.out) ?_;rintro e PH ⟨rfl,PJ,bX⟩
 have Gx:=oE.trans bX
 clear oE bX eR l6
 refine Zv ?_
 refine Zy ?_
 refine Fc.nil (Z1 3 4 5 7 10 11 12 hf ?_)
 intro a7 hf sS
 refine Zs a8 fun _ a8=>Zr [] hf ?_
 refine mF 3 4 5 7 10 11 12 13 hf ?_
 intro a7 hf sS
 obtain ⟨f,AL⟩:∃ x,PH.heap.size=x:=⟨_,rfl⟩
 generalize Ke:PH.alloc (.cells #[.slice none 0 0,.int .u64 0] 38)=et
 obtain ⟨er, -, -,CE, -⟩:=P7 Ke
 clear Ke
 have hgf:g<f:=by have:=PJ.lt;omega
 have XY:=PJ.later er
 rw [AL] at CE
 obtain ⟨s3,s4,s5,s7,u4,D9,F7,D1⟩:=sS
 try rw [AL] at D1
 have sA:=Gx.trans (n4.of (fun k=>k=g) er)
 have ht3:=sA.heap kT oM;have ht4:=sA.heap MV oM
 have CF:=ey.trans (sA.below (B:=w.heap.size) ey.size (fun k h=>oM))
 clear er Gx sA PJ kT MV ey
 refine Zx a8 (Fc.G1 (fun fr wq=>∃ (st:Except J9 Nat) (V:Value) (l:List (Value×State)) (C:Nat->Prop),Fc.Fr 146 fr/\fr.tmps[3]? =some (.pointer (some ⟨w.heap.size,0,none⟩))/\fr.tmps[4]? =some (.pointer (some ⟨w.heap.size+1,0,none⟩))/\fr.tmps[5]? =some (.string bd)/\fr.tmps[7]? =some (.pointer (some ⟨g,0,none⟩))/\fr.tmps[10]? =some (.int .u64 18446744073709551615)/\fr.tmps[11]? =some (.int .i64 en)/\fr.tmps[13]? =some (.pointer (some ⟨f,0,none⟩))/\sStates bd n 0 eu []=(st,l.map Prod.snd)/\wq.heap[f]? =some (.cells #[V,.int .u64 0] 38 (0,0))/\IN wq g bd st/\SR wq f C V l/\(∀ k,V.ownBlock=some k->f<k)/\(∀ k,C k->f<k/\k<wq.heap.size/\V.ownBlock≠some k)/\n4 (fun k=>k=g\/f<=k) et wq) ?_ ?_)
 . (
 refine Ze fun _ a8=>Zr [] hf ?_
 refine tZ 3 4 5 7 10 11 12 13 14 hf ?_
 clear hf s3 s4 s5 s7 u4 D9 F7 D1;intro a7 hf sS
 refine Zx a8 (wp_block (wp_loop_ghost (fun gk fr wr=>∃ (i:Nat) (st:Except J9 Nat) (V:Value) (l:List (Value×State)) (C:Nat->Prop),gk=n-i/\i<=n/\Fc.Fr 146 fr/\fr.tmps[3]? =some (.pointer (some ⟨w.heap.size,0,none⟩))/\fr.tmps[4]? =some (.pointer (some ⟨w.heap.size+1,0,none⟩))/\fr.tmps[5]? =some (.string bd)/\fr.tmps[7]? =some (.pointer (some ⟨g,0,none⟩))/\fr.tmps[10]? =some (.int .u64 18446744073709551615)/\fr.tmps[11]? =some (.int .i64 en)/\fr.tmps[13]? =some (.pointer (some ⟨f,0,none⟩))/\fr.tmps[12]? =some (.int .u64 n)/\fr.tmps[14]? =some (.int .u64 i)/\sStates bd n 0 eu []=sStates bd (n-i) i st (l.map Prod.snd)/\(∀ p,st= .ok p->i<=p)/\l.length=i/\wr.heap[f]? =some (.cells #[V,.int .u64 0] 38 (0,0))/\IN wr g bd st/\SR wr f C V l/\(∀ k,V.ownBlock=some k->f<k)/\(∀ k,C k->f<k/\k<wr.heap.size/\V.ownBlock≠some k)/\n4 (fun k=>k=g\/f<=k) et wr) (n) ?_ ?_))
 . (
 obtain ⟨s3,s4,s5,s7,u4,D9,F7,D1,S4⟩:=sS
 exact ⟨0,eu,_,[],fun _=>False,rfl,Nat.zero_le _,hf,s3,s4,s5,s7,u4,D9,D1,F7,S4,rfl,(fun p hp=>Nat.zero_le _),rfl,CE,XY,SR.T7 _ _ _,(fun k h=>by cases h),(fun k h=>h.elim),n4.refl _ _⟩)
 . (
 clear hf sS
 rintro gk fr wr ⟨i,st,V,l,C,hk,aN,hf,s3,s4,s5,s7,u4,D9,D1,F7,S4,Db,MK,MG,lY,D7,eA,DY,hC,l6⟩
 have HK:=H9 hk;have yS:=H9 Db;have HIP:=H9 MK;have HL:=H9 MG;have pU:=H9 DY;have HC:=H9 hC;clear hk Db MK MG DY hC
 rcases Nat.lt_or_ge i n with o9 | eV
 . (
 rcases st with b | p
 . (
 have c2:=D7.code.1
 simp only [codeOf] at c2
 have o7:=D7.err
 have q1:decide (i<n)=true:=decide_eq_true o9
 have q2:((b.1:Int)==0)=false:=beq_eq_false_iff_ne.2 oM
 refine Ze fun _ a8=>Ze fun _ j8=> ?_
 have qs:=And.intro q1 q2
 refine rg ?_
 have bB:=hf.eW 50 51 52 53 54 55 56 57 58 59
 iterate 9 refine Zy ?_
 refine og 3 53 true ?_ fun K Z=> ?_
 . (
 simp (decide:=true) only [Fc.G,reduceIte,hf.size,q1,q2])
 go_simp
 try rw [q2]
 apply Z.out;clear Z K
 refine Zy ?_
 refine Fc.nil (gV 3 4 5 7 10 11 12 13 14 60 hf ?_)
 clear hf s3 s4 s5 s7 u4 D9 F7 D1 S4 bB qs;intro a7 hf sS
 refine Zx j8 (Fc.k9 sS.2.2.2.2.2.2.2.2.2 ?_)
 clear q1 q2 c2
 have jV:sStates bd n 0 eu []=(.error b,l.map Prod.snd):=by rw [yS.out,dF]
 have ep:=H9 jV;clear jV
 refine Zo ?_
 refine Fc.j7 ?_
 obtain ⟨s3,s4,s5,s7,u4,D9,F7,D1,S4,wu⟩:=sS
 exact ⟨_,V,l,C,hf,s3,s4,s5,s7,u4,D9,D1,ep.out,lY,D7,eA,pU.out,HC.out,l6⟩)
 . (
 have c2:=D7.code.1
 simp only [codeOf] at c2
 have q1:decide (i<n)=true:=decide_eq_true o9
 have MK:=HIP.out p rfl
 have MW:p<=bd.size:=D7.2
 refine Ze fun _ a8=>Ze fun _ j8=> ?_
 have qs:=q1
 refine Zr [50,51,52,53,54,55,56,57,58,59] hf ?_
 refine gV 3 4 5 7 10 11 12 13 14 60 hf ?_
 clear hf s3 s4 s5 s7 u4 D9 F7 D1 S4 qs;intro a7 hf sS
 refine Zx j8 (Fc.l7 sS.2.2.2.2.2.2.2.2.2 ?_)
 clear q1 c2
 obtain ⟨Ub,h,hn⟩:∃ a b,sNum bd 0 513 (.ok p)=(a,b):=⟨_,_,rfl⟩
 have PK:=eC bd 0 513 (.ok p)
 rw [hn] at PK
 have wo:=H9 hn;clear hn
 replace PK:h<=513:=PK.1
 refine wp_skip (Zs a8 fun _ a8=>wp_block (Ze fun _ j8=>rg ?_))
 have bB:=hf.B2 63 64
 refine Zy ?_
 refine Zc (rZ wr g bd (.ok p) Ub h D7 eZ 0 513 wo.out) ?_;rintro e CG ⟨rfl,wm,PL⟩
 refine Zv ?_
 refine Zy ?_
 refine Fc.nil (gV 3 4 5 7 10 11 12 13 14 15 hf ?_)
 intro a7 hf sS
 have XZ:=PL.heap lY oM
 have PM:=eA.but PL (fun k hk e=>by have:=pU.out k hk;omega) (fun k hk e=>by have:=(HC.out k hk).1;omega)
 have wk:n4 (fun k=>k=g\/f<=k) et CG:=l6.trans (PL.mono (fun k _ h=> .inl h))
 have MT:=PL.size
 have eo:=H9 (show ∀ k,C k->f<k/\k<CG.heap.size/\V.ownBlock≠some k from fun k hk=>⟨(HC.out k hk).1,Nat.lt_of_lt_of_le (HC.out k hk).2.1 MT,(HC.out k hk).2.2⟩)
 clear MT PL lY eA l6 D7
 refine Zt j8 fun _ j8=> ?_
 have bB:=hf.B5 65 66 67 68 16
 iterate 2 refine Zy ?_
 refine fp fun K Z=> ?_
 go_simp
 try rw [CH]
 apply Z.out;clear Z K
 iterate 3 refine Zy ?_
 refine Fc.nil (qo 3 4 5 7 10 11 12 13 14 15 16 hf ?_)
 intro a7 hf sS
 obtain ⟨gs,rJ⟩:∃ x,CG.heap.size=x:=⟨_,rfl⟩
 generalize wh:CG.alloc (.cells #[.slice none 0 0,.bool (decide (h%2=1)),.int .u64 0] 46)=W19
 obtain ⟨ek,y0,y1,y2,Uc, -⟩:=E7 wh
 clear wh
 have x4f:f<gs:=by rw [<- rJ];exact j5 XZ
 have PN:=wm.later ek
 rw [rJ] at y0 y1 y2 Uc
 obtain ⟨s3,s4,s5,s7,u4,D9,F7,D1,S4,aQ,Y5⟩:=sS
 try rw [rJ] at Y5
 have PQ:n4 (fun k=>k=g\/gs<=k) CG W19:=n4.of _ ek
 refine Zx j8 (Fc.G1 (fun fr wq=>∃ (of:Nat) (MX:Except J9 Nat),Fc.Fr 146 fr/\fr.tmps[3]? =some (.pointer (some ⟨w.heap.size,0,none⟩))/\fr.tmps[4]? =some (.pointer (some ⟨w.heap.size+1,0,none⟩))/\fr.tmps[5]? =some (.string bd)/\fr.tmps[7]? =some (.pointer (some ⟨g,0,none⟩))/\fr.tmps[10]? =some (.int .u64 18446744073709551615)/\fr.tmps[11]? =some (.int .i64 en)/\fr.tmps[13]? =some (.pointer (some ⟨f,0,none⟩))/\fr.tmps[12]? =some (.int .u64 n)/\fr.tmps[14]? =some (.int .u64 i)/\fr.tmps[15]? =some (.int .u64 h)/\fr.tmps[16]? =some (.pointer (some ⟨gs,0,none⟩))/\mW bd h Ub=(MX,of)/\IN wq g bd MX/\wq.heap[gs]? =some (.cells #[.slice none 0 0,.bool (decide (h%2=1)),.int .u64 of] 46 (0,0))/\n4 (fun k=>k=g\/gs<=k) CG wq) ?_ ?_)
 . (
 refine Ze fun _ j8=>Zr [69] hf ?_
 refine TF 3 4 5 7 10 11 12 13 14 15 16 70 hf ?_
 clear hf s3 s4 s5 s7 u4 D9 F7 D1 S4 aQ Y5;intro a7 hf sS
 refine Zx j8 (Fc.l0 sS.2.2.2.2.2.2.2.2.2.2.2 (fun hq=> ?_) (fun hq=> ?_))
 . (
 have XC:=of_decide_eq_true hq
 have HOD:=H9 XC;clear XC hq
 obtain ⟨MX,of,hn⟩:∃ a b,sNum bd 0 18446744073709551615 Ub=(a,b):=⟨_,_,rfl⟩
 have PR:=eC bd 0 18446744073709551615 Ub
 rw [hn] at PR
 have we:=H9 hn;clear hn
 replace PR:of<=18446744073709551615:=PR.1
 have tS:mW bd h Ub=(MX,of):=by unfold mW;rw [if_pos HOD.out];exact we.out
 have Ud:=H9 tS;clear tS
 refine rg ?_
 have bB:=hf.B4 71 72 73 74
 iterate 2 refine Zy ?_
 refine Zc (rZ W19 g bd Ub MX of PN eZ 0 18446744073709551615 we.out) ?_;rintro e w21 ⟨rfl,wc,wa⟩
 have ej:=wa.heap Uc oM
 have SU:=j6 (i:=2) ej
 have y22:=n5 2 ej
 simp at y22
 clear y0 y1 y2
 refine Zv ?_
 iterate 2 refine Zy ?_
 refine Fc.nil (qo 3 4 5 7 10 11 12 13 14 15 16 hf ?_)
 intro a7 hf sS
 refine Fc.j7 ?_
 obtain ⟨s3,s4,s5,s7,u4,D9,F7,D1,S4,aQ,Y5⟩:=sS
 exact ⟨of,MX,hf,s3,s4,s5,s7,u4,D9,D1,F7,S4,aQ,Y5,Ud.out,wc.but (n4.setCell (S:=fun k=>k=gs) rfl _) oM,Gt ej (.int .u64 of),(PQ.trans (wa.mono (fun k _ h=> .inl h))).trans (n4.setCell (.inr nR) _)⟩)
 . (
 have tS:mW bd h Ub=(Ub,0):=by unfold mW;rw [if_neg (of_decide_eq_false hq)]
 have Ud:=H9 tS;clear tS hq
 refine wp_skip (Fc.j7 ?_)
 obtain ⟨s3,s4,s5,s7,u4,D9,F7,D1,S4,aQ,Y5,s70⟩:=sS
 exact ⟨0,Ub,hf,s3,s4,s5,s7,u4,D9,D1,F7,S4,aQ,Y5,Ud.out,PN,Uc,PQ⟩))
 . (
 clear hf s3 s4 s5 s7 u4 D9 F7 D1 S4 aQ Y5
 rintro fr wq ⟨of,MX,hf,s3,s4,s5,s7,u4,D9,D1,F7,S4,aQ,Y5,tS,xz,vY,PS⟩
 have Ud:=H9 tS;clear tS PN Uc PQ ek y0 y1 y2
 obtain ⟨hh,hhh⟩:∃ x,h / 2=x:=⟨_,rfl⟩
 have hh9:hh<=256:=oM
 have HH:=H9 hhh;clear hhh
 refine Fc.G1 (fun fr w2=>∃ (ng:Except J9 Nat) (la:List u3) (V2:Value),Fc.Fr 146 fr/\fr.tmps[3]? =some (.pointer (some ⟨w.heap.size,0,none⟩))/\fr.tmps[4]? =some (.pointer (some ⟨w.heap.size+1,0,none⟩))/\fr.tmps[5]? =some (.string bd)/\fr.tmps[7]? =some (.pointer (some ⟨g,0,none⟩))/\fr.tmps[10]? =some (.int .u64 18446744073709551615)/\fr.tmps[11]? =some (.int .i64 en)/\fr.tmps[13]? =some (.pointer (some ⟨f,0,none⟩))/\fr.tmps[12]? =some (.int .u64 n)/\fr.tmps[14]? =some (.int .u64 i)/\fr.tmps[15]? =some (.int .u64 h)/\fr.tmps[16]? =some (.pointer (some ⟨gs,0,none⟩))/\sArcs bd i hh MX []=(ng,la)/\la.length<=256/\IN w2 g bd ng/\OA w2 gs V2 la/\(∀ k,V2.ownBlock=some k->gs<k)/\w2.heap[gs]? =some (.cells #[V2,.bool (decide (h%2=1)),.int .u64 of] 46 (0,0))/\n4 (fun k=>k=g\/gs<=k) CG w2) ?_ ?_
 . (
 refine Ze fun _ j8=>Zr [] hf ?_
 refine TF 3 4 5 7 10 11 12 13 14 15 16 17 hf ?_
 clear hf s3 s4 s5 s7 u4 D9 F7 D1 S4 aQ Y5;intro a7 hf sS
 refine Zx j8 (wp_block (wp_loop_ghost (fun lR fr w2=>∃ (j:Nat) (st:Except J9 Nat) (la:List u3) (V2:Value),lR=hh-j/\j<=hh/\Fc.Fr 146 fr/\fr.tmps[3]? =some (.pointer (some ⟨w.heap.size,0,none⟩))/\fr.tmps[4]? =some (.pointer (some ⟨w.heap.size+1,0,none⟩))/\fr.tmps[5]? =some (.string bd)/\fr.tmps[7]? =some (.pointer (some ⟨g,0,none⟩))/\fr.tmps[10]? =some (.int .u64 18446744073709551615)/\fr.tmps[11]? =some (.int .i64 en)/\fr.tmps[13]? =some (.pointer (some ⟨f,0,none⟩))/\fr.tmps[12]? =some (.int .u64 n)/\fr.tmps[14]? =some (.int .u64 i)/\fr.tmps[15]? =some (.int .u64 h)/\fr.tmps[16]? =some (.pointer (some ⟨gs,0,none⟩))/\fr.tmps[17]? =some (.int .u64 j)/\sArcs bd i hh MX []=sArcs bd i (hh-j) st la/\la.length=j/\IN w2 g bd st/\OA w2 gs V2 la/\(∀ k,V2.ownBlock=some k->gs<k)/\w2.heap[gs]? =some (.cells #[V2,.bool (decide (h%2=1)),.int .u64 of] 46 (0,0))/\n4 (fun k=>k=g\/gs<=k) CG w2) (hh) ?_ ?_))
 . (
 obtain ⟨s3,s4,s5,s7,u4,D9,F7,D1,S4,aQ,Y5,G7⟩:=sS
 exact ⟨0,MX,[],_,rfl,Nat.zero_le _,hf,s3,s4,s5,s7,u4,D9,D1,F7,S4,aQ,Y5,G7,rfl,rfl,xz,OA.T7 _ _,(fun k h=>by cases h),vY,PS⟩)
 . (
 clear hf sS
 rintro lR fr w2 ⟨j,st,la,V2,M9,hj,hf,s3,s4,s5,s7,u4,D9,D1,F7,S4,aQ,Y5,G7,hH,pC,uT,S1,yL,J1,aJ⟩
 have xQ:=H9 M9;have ei:=H9 hH;have nm:=H9 pC;have dD:=H9 yL;clear M9 hH pC yL
 rcases Nat.lt_or_ge j hh with hlj | x4c
 . (
 rcases st with b | p2
 . (
 have c2:=uT.code.1
 simp only [codeOf] at c2
 have o7:=uT.err
 have q1:decide (j<hh)=true:=decide_eq_true hlj
 have q2:((b.1:Int)==0)=false:=beq_eq_false_iff_ne.2 oM
 refine Ze fun _ j8=>Ze fun _ l8=> ?_
 have qs:=And.intro q1 q2
 refine rg ?_
 have bB:=And.intro (hf.eW 75 76 77 78 79 80 81 82 83 84) (hf.b 85)
 iterate 2 refine Zy ?_
 refine fp fun K Z=> ?_
 go_simp
 rw [show ((h:Int) / 2)=((hh:Nat):Int) by have:=HH.out;omega]
 try rw [Fc.wrap_u64 oM oM]
 apply Z.out;clear Z K
 iterate 7 refine Zy ?_
 refine og 4 79 true ?_ fun K Z=> ?_
 . (
 simp (decide:=true) only [Fc.G,reduceIte,hf.size,q1,q2])
 go_simp
 try rw [q2]
 apply Z.out;clear Z K
 refine Zy ?_
 refine Fc.nil (JN 3 4 5 7 10 11 12 13 14 15 16 17 86 hf ?_)
 clear hf s3 s4 s5 s7 u4 D9 F7 D1 S4 aQ Y5 G7 bB qs;intro a7 hf sS
 refine Zx l8 (Fc.k9 sS.2.2.2.2.2.2.2.2.2.2.2.2 ?_)
 clear q1 q2 c2
 have jV:sArcs bd i hh MX []=(.error b,la):=by rw [ei.out,lA]
 have ep:=H9 jV;clear jV
 refine Zo ?_
 refine Fc.j7 ?_
 obtain ⟨s3,s4,s5,s7,u4,D9,F7,D1,S4,aQ,Y5,G7,EP⟩:=sS
 exact ⟨_,la,V2,hf,s3,s4,s5,s7,u4,D9,D1,F7,S4,aQ,Y5,ep.out,by have:=nm.out;omega,uT,S1,dD.out,J1,aJ⟩)
 . (
 have c2:=uT.code.1
 simp only [codeOf] at c2
 have q1:decide (j<hh)=true:=decide_eq_true hlj
 have x4b:p2<=bd.size:=uT.2
 refine Ze fun _ j8=>Ze fun _ l8=> ?_
 have qs:=q1
 refine rg ?_
 have bB:=And.intro (hf.eW 75 76 77 78 79 80 81 82 83 84) (hf.b 85)
 iterate 2 refine Zy ?_
 refine fp fun K Z=> ?_
 go_simp
 rw [show ((h:Int) / 2)=((hh:Nat):Int) by have:=HH.out;omega]
 try rw [Fc.wrap_u64 oM oM]
 apply Z.out;clear Z K
 iterate 9 refine Zy ?_
 refine Fc.nil (JN 3 4 5 7 10 11 12 13 14 15 16 17 86 hf ?_)
 clear hf s3 s4 s5 s7 u4 D9 F7 D1 S4 aQ Y5 G7 bB qs;intro a7 hf sS
 refine Zx l8 (Fc.l7 sS.2.2.2.2.2.2.2.2.2.2.2.2 ?_)
 clear q1 c2
 obtain ⟨s6_,c,hc⟩:∃ a b,M7 bd (.ok p2)=(a,b):=⟨_,_,rfl⟩
 have HCC:=H9 hc;clear hc
 have gW:=S1;clear S1
 obtain ⟨s7_,o,hn⟩:∃ a b,sNum bd 0 18446744073709551615 s6_=(a,b):=⟨_,_,rfl⟩
 have PT:=eC bd 0 18446744073709551615 s6_
 rw [hn] at PT
 have xy:=H9 hn;clear hn
 replace PT:o<=18446744073709551615:=PT.1
 obtain ⟨s8_,d,hn⟩:∃ a b,sNum bd 1 i s7_=(a,b):=⟨_,_,rfl⟩
 have PU:=eC bd 1 i s7_
 rw [hn] at PU
 have xx:=H9 hn;clear hn
 replace PU:d<=i:=PU.1
 refine wp_skip (Zs j8 fun _ j8=>wp_block (Ze fun _ l8=>rg ?_))
 have bB:=hf.B4 89 90 91 18
 refine Zy ?_
 refine Zc (PC w2 g bd (.ok p2) s6_ c uT eZ HCC.out) ?_;rintro e w25 ⟨rfl,Xa,Ue⟩
 have Uf:=Ue.heap J1 oM
 have PV:=u7 gW Ue (fun k hk e=>by have:=dD.out k hk;omega)
 have Xb:n4 (fun k=>k=g\/gs<=k) CG w25:=aJ.trans (Ue.mono (fun k _ h=> .inl h))
 have HOL:=H9 (fun k hk=>(World.ownsRow.lt PV k hk).2)
 clear Ue J1 gW aJ uT
 refine Zv ?_
 iterate 3 refine Zy ?_
 refine Fc.nil (JN 3 4 5 7 10 11 12 13 14 15 16 17 18 hf ?_)
 intro a7 hf sS
 obtain ⟨ga,KN⟩:∃ x,w25.heap.size=x:=⟨_,rfl⟩
 generalize xw:w25.alloc (.cells #[.int .u8 c,.int .u64 0,.int .i64 0] 71)=W25
 obtain ⟨Ug, -, -, -,hpA, -⟩:=E7 xw
 clear xw
 have y9t:gs<ga:=by rw [<- KN];exact j5 Uf
 have xv:=Xa.later Ug
 have xu:n4 (fun k=>k=g\/gs<=k) CG W25:=Xb.trans (n4.of _ Ug)
 have xt:=n3 PV Ug
 have xr:=(Ug.block _ (j5 Uf)).trans Uf
 rw [KN] at hpA
 obtain ⟨s3,s4,s5,s7,u4,D9,F7,D1,S4,aQ,Y5,G7,Q0⟩:=sS
 try rw [KN] at Q0
 clear Ug Xa Xb PV Uf
 have xq:∀ k,V2.ownBlock=some k->k<ga:=fun k hk=>by rw [<- KN];exact HOL.out k hk
 have HGA:=H9 xq;clear xq HOL
 refine Zt l8 fun _ l8=> ?_
 have bB:=hf.B4 92 93 94 95
 iterate 2 refine Zy ?_
 refine Zc (rZ W25 g bd s6_ s7_ o xv eZ 0 18446744073709551615 xy.out) ?_;rintro e w26 ⟨rfl,Xc,PW⟩
 have hpB:=PW.heap hpA oM
 have xn:=PW.heap xr oM
 have xk:=u7 xt PW (fun k hk e=>by have:=dD.out k hk;omega)
 have xh:n4 (fun k=>k=g\/gs<=k) CG w26:=xu.trans (PW.mono (fun k _ h=> .inl h))
 have Ja:=j6 (i:=1) hpB
 have v1:=n5 1 hpB
 simp at v1
 clear hpA xr xt xu PW xv
 refine Zv ?_
 iterate 2 refine Zy ?_
 refine Fc.nil (JN 3 4 5 7 10 11 12 13 14 15 16 17 18 hf ?_)
 clear hf s3 s4 s5 s7 u4 D9 F7 D1 S4 aQ Y5 G7 Q0 bB;intro a7 hf sS
 have eQ:n4 (fun k=>k=ga) w26 (w26.setCell ⟨ga,1,none⟩ (.int .u64 o)):=n4.setCell (S:=fun k=>k=ga) (p:=⟨ga,1,none⟩) rfl _
 obtain ⟨W26,eh⟩:∃ x,w26.setCell ⟨ga,1,none⟩ (.int .u64 o)=x:=⟨_,rfl⟩
 have hpC:=vf hpB (.int .u64 o)
 rw [eh] at eQ hpC
 try rw [eh]
 have xg:=Xc.but eQ oM
 have xe:=eQ.heap xn oM
 have xd:=u7 xk eQ (fun k hk e=>by have:=HGA.out k hk;omega)
 have xc:n4 (fun k=>k=g\/gs<=k) CG W26:=xh.trans (eQ.mono (fun k _ h=> .inr oM))
 clear v1 eh eQ hpB Xc xn xk xh Ja
 refine Zt l8 fun _ l8=> ?_
 have bB:=hf.B7 96 97 98 99 100 101 102
 iterate 3 refine Zy ?_
 refine Zc (rZ W26 g bd s7_ s8_ d xg eZ 1 i xx.out) ?_;rintro e w27 ⟨rfl,Xd,PX⟩
 have hpD:=PX.heap hpC oM
 have xb:=PX.heap xe oM
 have yz:=u7 xd PX (fun k hk e=>by have:=dD.out k hk;omega)
 have yy:n4 (fun k=>k=g\/gs<=k) CG w27:=xc.trans (PX.mono (fun k _ h=> .inl h))
 have SU:=j6 (i:=2) hpD
 have v2:=n5 2 hpD
 simp at v2
 clear hpC xe xd xc PX xg
 refine Zv ?_
 refine fp fun K Z=> ?_
 go_simp
 try simp (disch:=omega) only [Fc.W]
 try rw [Fc.wrap_u64 oM oM]
 apply Z.out;clear Z K
 refine fp fun K Z=> ?_
 go_simp
 try rw [Fc.wrap_i64 oM oM]
 apply Z.out;clear Z K
 iterate 2 refine Zy ?_
 refine Fc.nil (JN 3 4 5 7 10 11 12 13 14 15 16 17 18 hf ?_)
 intro a7 hf sS
 have hid:(i:Int)-d=((i-d:Nat):Int):=oM
 try rw [hid]
 have eQ:n4 (fun k=>k=ga) w27 (w27.setCell ⟨ga,2,none⟩ (.int .i64 ((i-d:Nat):Int))):=n4.setCell (S:=fun k=>k=ga) (p:=⟨ga,2,none⟩) rfl _
 obtain ⟨td,dr⟩:∃ x,((i-d:Nat):Int)=x:=⟨_,rfl⟩
 obtain ⟨yx,ef⟩:∃ x,w27.setCell ⟨ga,2,none⟩ (.int .i64 td)=x:=⟨_,rfl⟩
 rw [dr] at eQ
 try rw [dr]
 have hpE:=Gt hpD (.int .i64 td)
 rw [ef] at eQ hpE
 try rw [ef]
 have yw:=Xd.but eQ oM
 have Uh:=eQ.heap xb oM
 have Gy:=u7 yz eQ (fun k hk e=>by have:=HGA.out k hk;omega)
 have Xe:n4 (fun k=>k=g\/gs<=k) CG yx:=yy.trans (eQ.mono (fun k _ h=> .inr oM))
 have HTD:=H9 dr
 clear v2 ef eQ hpD Xd xb yz yy SU hid dr
 have har:=UY (i:=i) HCC.out xy.out xx.out
 rw [HTD.out] at har
 have HAR:=H9 har;clear har
 have v0:=n5 0 hpE
 have v1:=n5 1 hpE
 have v2:=n5 2 hpE
 simp at v0 v1 v2
 obtain ⟨A3,c3,lV,Nn⟩:=y8 Gy
 subst lV
 have g0:=n5 0 Uh
 simp at g0
 have x3y:=Xe.size
 have y9s:la.length<=256:=by have:=nm.out;omega
 refine Zx l8 (rg ?_)
 have bB:=hf.B6 103 104 105 106 107 108
 iterate 4 refine Zy ?_
 obtain ⟨s3,s4,s5,s7,u4,D9,F7,D1,S4,aQ,Y5,G7,Q0⟩:=sS
 clear bB
 refine Fc.nL (n:=146) (by simp only [Fc.G,hf.size]) hf.defers (fun a7 y5 hT=> ?_)
 have J8:=Fc.h14 hT 3 4 5 7 10 11 12 13 14 15 16 17 104 106
 simp (decide:=true) only [Fc.G,hf.size,reduceIte,s3,s4,s5,s7,u4,D9,F7,D1,S4,aQ,Y5,G7] at J8
 replace hf:=y5;clear hT y5 s3 s4 s5 s7 u4 D9 F7 D1 S4 aQ Y5 G7 Q0
 obtain ⟨s3,s4,s5,s7,u4,D9,F7,D1,S4,aQ,Y5,G7,yv,bj⟩:=J8
 have bB:=hf.B2 107 108
 refine ⟨?_⟩
 refine wpList_plain rfl fun K5 U6=> ?_
 refine J6 _ _ 44 rfl 71 _ 3 24 Tryz.underlying44 wC rfl dC dC gs (.slice A3 la.length c3) la.length _ (Fc.l5 yv) (Gy.alloc _) yx.heap.size [.int .u8 c,.int .u64 o,.int .i64 td] (Fc.l5 bj) rfl (E8 yx _ _) (by intro u hu;simp at hu;rcases hu with rfl | rfl | rfl<;>rfl) oM sO (fun v5 w5 X8 bN M6=>U6 _ _ ?_)
 refine Fc.L.out ?_
 obtain ⟨A5,c5,KK,_⟩:=y8 X8
 subst KK
 have gM:n4 (fun k=>(.slice A3 la.length c3:Value).ownBlock=some k) yx w5:=(n4.alloc (S:=fun k=>(.slice A3 la.length c3:Value).ownBlock=some k) yx _).trans (n4.grown bN (fun k hk=>hk))
 have PY:=gM.heap Uh (fun h=>by have:=dD.out _ h;omega)
 have yu:=yw.but gM (fun h=>by have:=dD.out _ h;omega)
 have g1:=n5 0 PY;have ue:=j6 (i:=0) PY
 simp at g1
 have fU:∀ k,(.slice A5 (la.length+1) c5:Value).ownBlock=some k->gs<k:=fun k hk=>by rcases M6 with h | h;(rw [h] at hk;exact dD.out k hk);(rw [h] at hk;injection hk with hk;simp at hk;omega)
 have yt:n4 (fun k=>k=g\/gs<=k) CG w5:=Xe.trans (gM.mono (fun k _ h=> .inr (by have:=dD.out k h;omega)))
 iterate 2 refine Zy ?_
 refine Fc.nil (TF 3 4 5 7 10 11 12 13 14 15 16 17 hf ?_)
 clear hf s3 s4 s5 s7 u4 D9 F7 D1 S4 aQ Y5 G7 yv bj bB;intro a7 hf sS
 have lC:=XP PY (.slice A5 (la.length+1) c5)
 have Xf:n4 (fun k=>k=gs) w5 (w5.setCell ⟨gs,0,none⟩ (.slice A5 (la.length+1) c5)):=n4.setCell (S:=fun k=>k=gs) (p:=⟨gs,0,none⟩) rfl _
 have yr:n4 (fun k=>k=g\/gs<=k) CG (w5.setCell ⟨gs,0,none⟩ (.slice A5 (la.length+1) c5)):=yt.trans (Xf.mono (fun k _ h=> .inr oM))
 have Gz:=yu.but Xf oM
 have yq:OA (w5.setCell ⟨gs,0,none⟩ (.slice A5 (la.length+1) c5)) gs (.slice A5 (la.length+1) c5) (la++[⟨c,o,td⟩]):=by unfold OA;rw [List.length_append,dU];exact u7 X8 Xf (fun k hk h=>by have:=fU k hk;omega)
 refine Fc.j9 (Zx j8 (Zr [87,88] hf ?_))
 refine TF 3 4 5 7 10 11 12 13 14 15 16 17 hf ?_
 intro a7 hf sS
 refine Fc.j7 ?_
 obtain ⟨s3,s4,s5,s7,u4,D9,F7,D1,S4,aQ,Y5,G7⟩:=sS
 exact ⟨_,by have:=xQ.out;omega,j+1,_,la++[⟨c,o,td⟩],_,rfl,oM,hf,s3,s4,s5,s7,u4,D9,D1,F7,S4,aQ,Y5,by rw [G7];rfl,by rw [ei.out,show hh-j=(hh-(j+1))+1 by omega,sArcs,HAR.out],by rw [List.length_append,nm.out];rfl,Gz,yq,fU,lC,yr⟩))
 . (
 have q1:decide (j<hh)=false:=decide_eq_false oM
 refine Ze fun _ j8=>Ze fun _ l8=> ?_
 have qs:=q1
 refine rg ?_
 have bB:=And.intro (hf.eW 75 76 77 78 79 80 81 82 83 84) (hf.b 85)
 iterate 2 refine Zy ?_
 refine fp fun K Z=> ?_
 go_simp
 rw [show ((h:Int) / 2)=((hh:Nat):Int) by have:=HH.out;omega]
 try rw [Fc.wrap_u64 oM oM]
 apply Z.out;clear Z K
 iterate 9 refine Zy ?_
 refine Fc.nil (JN 3 4 5 7 10 11 12 13 14 15 16 17 86 hf ?_)
 clear hf s3 s4 s5 s7 u4 D9 F7 D1 S4 aQ Y5 G7 bB qs;intro a7 hf sS
 refine Zx l8 (Fc.k9 sS.2.2.2.2.2.2.2.2.2.2.2.2 ?_)
 clear q1
 have jV:sArcs bd i hh MX []=(st,la):=by rw [ei.out,show hh-j=0 by omega];rfl
 have ep:=H9 jV;clear jV
 refine Zo ?_
 refine Fc.j7 ?_
 obtain ⟨s3,s4,s5,s7,u4,D9,F7,D1,S4,aQ,Y5,G7,EP⟩:=sS
 exact ⟨_,la,V2,hf,s3,s4,s5,s7,u4,D9,D1,F7,S4,aQ,Y5,ep.out,by have:=nm.out;omega,uT,S1,dD.out,J1,aJ⟩)))
 . (
 clear hf s3 s4 s5 s7 u4 D9 F7 D1 S4 aQ Y5
 rintro fr w2 ⟨ng,la,V2,hf,s3,s4,s5,s7,u4,D9,D1,F7,S4,aQ,Y5,Se,pC,uT,S1,yL,J1,aJ⟩
 have Np:=H9 Se;have dD:=H9 yL;clear Se yL xz vY PS
 have Ui:=aJ.heap XZ oM
 have iV:=PM.but aJ (fun k hk e=>by have:=pU.out k hk;have:=(World.ownsRow.lt PM.row k hk).2;omega) (fun k hk e=>by have:=eo.out k hk;omega)
 have yp:∀ k,V.ownBlock=some k->k<gs:=fun k hk=>by have:=(World.ownsRow.lt PM.row k hk).2;omega
 have HVL:=H9 yp;clear yp
 have y8t:n4 (fun k=>k=g\/f<=k) et w2:=wk.trans (aJ.mono (fun k _ h=>h.elim .inl (fun h=> .inr oM)))
 have X0:=aJ.size
 have A8:bQ bd i (.ok p)=(ng,⟨decide (h%2=1),of,la⟩):=Ka wo.out Ud.out (by rw [HH.out];exact Np.out)
 have L4:=H9 A8;clear A8
 obtain ⟨Av,cv,mT,iU⟩:=iV.form
 subst mT
 obtain ⟨A3,c3,lV,Nn⟩:=y8 S1
 subst lV
 have g0:=n5 0 Ui;have h0:=n5 0 J1;have h1:=n5 1 J1;have h2:=n5 2 J1
 simp at g0 h0 h1 h2
 have MY:l.length<=1000000000:=by rw [HL.out];omega
 have iR:gs<w2.heap.size:=j5 J1
 have Yw:gs<=w2.heap.size:=Nat.le_of_lt iR
 obtain ⟨fl,TZ⟩:∃ x,decide (h%2=1)=x:=⟨_,rfl⟩
 rw [TZ] at J1 h1
 have HFL:=H9 TZ;clear TZ
 refine rg ?_
 have bB:=hf.B6 109 110 111 112 113 114
 iterate 4 refine Zy ?_
 clear bB
 refine Fc.nL (n:=146) (by simp only [Fc.G,hf.size]) hf.defers (fun a7 y5 hT=> ?_)
 have J8:=Fc.h11 hT 3 4 5 7 10 11 12 13 14 110 112
 simp (decide:=true) only [Fc.G,hf.size,reduceIte,s3,s4,s5,s7,u4,D9,F7,D1,S4] at J8
 replace hf:=y5;clear hT y5 s3 s4 s5 s7 u4 D9 F7 D1 S4 aQ Y5
 obtain ⟨s3,s4,s5,s7,u4,D9,F7,D1,S4,yn,ym⟩:=J8
 have bB:=hf.B2 113 114
 refine ⟨?_⟩
 refine wpList_plain rfl fun K5 U6=> ?_
 refine J6 _ _ 36 rfl 46 _ 3 40 Tryz.underlying36 bM rfl dC dC f (.slice Av l.length cv) l.length _ (Fc.l5 yn) (iV.row.alloc _) w2.heap.size [.slice A3 la.length c3,.bool fl,.int .u64 of] (Fc.l5 ym) rfl (E8 w2 _ _) (by intro u hu;simp at hu;rcases hu with rfl | rfl | rfl<;>rfl) oM sO (fun v5 w5 X8 bN M6=>U6 _ _ ?_)
 refine Fc.L.out ?_
 obtain ⟨A5,c5,KK,_⟩:=y8 X8
 subst KK
 obtain ⟨Wl,tT⟩:∃ x,w2.alloc (.cells #[.slice A3 la.length c3,.bool fl,.int .u64 of] 46)=x:=⟨_,rfl⟩
 have mY:Below w2.heap.size w2 Wl:=by rw [<- tT];exact (Below.refl _ _).alloc nR _
 have dt:Wl.heap.size=w2.heap.size+1:=by rw [<- tT];simp
 try rw [tT] at X8 bN M6
 try simp only [List.toArray] at bN M6
 try rw [tT] at bN M6
 have EY:=iV.later mY
 have EZ:=n3 S1 mY
 have F9:n4 (fun k=>(.slice Av l.length cv:Value).ownBlock=some k) w2 w5:=(n4.of _ mY).trans (n4.grown bN (fun k hk=>hk))
 have yk:∀ k,(.slice A3 la.length c3:Value).ownBlock=some k->(.slice Av l.length cv:Value).ownBlock≠some k:=fun k hk h=>by have:=dD.out k hk;have:=HVL.out k h;omega
 have Ea:=SR.app (st:=⟨fl,of,la⟩) EY EZ yk (fun k hk=>(eo.out k hk).2.2) bN X8
 have ee:=F9.heap Ui (fun h=>by have:=pU.out _ h;omega)
 have y8s:=uT.but F9 (fun h=>by have:=pU.out _ h;omega)
 have g1:=n5 0 ee;have ue:=j6 (i:=0) ee
 simp at g1
 have fU:∀ k,(.slice A5 (l.length+1) c5:Value).ownBlock=some k->f<k:=fun k hk=>by rcases M6 with h | h;(rw [h] at hk;exact pU.out k hk);(rw [h] at hk;injection hk with hk;omega)
 have Wm:=F9.size
 have hz6:=bN.size
 have KM:=Ua eo.out (fun k hk=>by have:=dD.out k hk;have:=(World.ownsRow.lt S1 k hk).2;exact ⟨oM,oM⟩:∀ k,(.slice A3 la.length c3:Value).ownBlock=some k->f<k/\k<w2.heap.size) yk M6 (show CG.heap.size<=w2.heap.size by omega) (show w2.heap.size<=Wl.heap.size by omega) (show w2.heap.size<=w5.heap.size by omega)
 have mZ:n4 (fun k=>k=g\/f<=k) et w5:=y8t.trans (F9.mono (fun k _ h=> .inr (by have:=pU.out k h;omega)))
 iterate 2 refine Zy ?_
 refine Fc.nil (tZ 3 4 5 7 10 11 12 13 14 hf ?_)
 clear hf s3 s4 s5 s7 u4 D9 F7 D1 S4 yn ym bB;intro a7 hf sS
 generalize yj:w5.setCell ⟨f,0,none⟩ (.slice A5 (l.length+1) c5)=W29
 have Xf:n4 (fun k=>k=f) w5 W29:=by rw [<- yj];exact n4.setCell (S:=fun k=>k=f) rfl _
 have yi:W29.heap[f]? =some (.cells #[.slice A5 (l.length+1) c5,.int .u64 0] 38 (0,0)):=by rw [<- yj];exact (k7 (i:=0) ee _).trans sP
 have yh:=y8s.but Xf oM
 have yg:=Ea.but Xf (fun k hk e=>by have:=fU k (by rw [<- hk]);omega) (fun k hk e=>by have:=(KM k hk).1;omega)
 have ye:n4 (fun k=>k=g\/f<=k) et W29:=mZ.trans (Xf.mono (fun k _ h=> .inr oM))
 have hzT:=Xf.size
 have y8r:=fun k hk=>(⟨(KM k hk).1,Nat.lt_of_lt_of_le (KM k hk).2.1 hzT,(KM k hk).2.2⟩:f<k/\k<W29.heap.size/\(.slice A5 (l.length+1) c5:Value).ownBlock≠some k)
 have yd:=fU
 have yc:sStates bd n 0 eu []=sStates bd (n-(i+1)) (i+1) ng ((l++[((.slice A3 la.length c3:Value),(⟨fl,of,la⟩:State))]).map Prod.snd):=by rw [yS.out,show n-i=(n-(i+1))+1 by omega,sStates,L4.out,HFL.out,List.map_append];rfl
 have y8q:=H9 yc;clear yc
 have yb:∀ q,ng= .ok q->i+1<=q:=fun q hq=>by have:=(CA (s:=bd) (i:=i) (p:=p) (p':=q) oM (by rw [L4.out];exact hq)).1;omega
 have zz:(l++[((.slice A3 la.length c3:Value),(⟨fl,of,la⟩:State))]).length=i+1:=by rw [List.length_append,HL.out];rfl
 refine Fc.j9 (Zx a8 (Zr [61,62] hf ?_))
 refine tZ 3 4 5 7 10 11 12 13 14 hf ?_
 intro a7 hf sS
 refine Fc.j7 ?_
 obtain ⟨s3,s4,s5,s7,u4,D9,F7,D1,S4⟩:=sS
 exact ⟨_,by have:=HK.out;omega,i+1,_,_,_,_,rfl,oM,hf,s3,s4,s5,s7,u4,D9,D1,F7,by rw [S4];rfl,y8q.out,yb,zz,yi,yh,yg,yd,y8r,ye⟩))))
 . (
 have q1:decide (i<n)=false:=decide_eq_false oM
 refine Ze fun _ a8=>Ze fun _ j8=> ?_
 have qs:=q1
 refine Zr [50,51,52,53,54,55,56,57,58,59] hf ?_
 refine gV 3 4 5 7 10 11 12 13 14 60 hf ?_
 clear hf s3 s4 s5 s7 u4 D9 F7 D1 S4 qs;intro a7 hf sS
 refine Zx j8 (Fc.k9 sS.2.2.2.2.2.2.2.2.2 ?_)
 clear q1
 have jV:sStates bd n 0 eu []=(st,l.map Prod.snd):=by rw [yS.out,show n-i=0 by omega];rfl
 have ep:=H9 jV;clear jV
 refine Zo ?_
 refine Fc.j7 ?_
 obtain ⟨s3,s4,s5,s7,u4,D9,F7,D1,S4,wu⟩:=sS
 exact ⟨_,V,l,C,hf,s3,s4,s5,s7,u4,D9,D1,ep.out,lY,D7,eA,pU.out,HC.out,l6⟩)))
 . (
 clear hf s3 s4 s5 s7 u4 D9 F7 D1
 rintro fr wq ⟨st,V,l,C,hf,s3,s4,s5,s7,u4,D9,D1,Db,Ui,D7,eA,DY,hC,l6⟩
 have yS:=H9 Db;have pU:=H9 DY;have HC:=H9 hC;clear Db DY hC CE XY
 have x3u:=l6.size
 have hu3:=l6.heap ht3 oM;have hu4:=l6.heap ht4 oM
 clear ht3 ht4
 obtain ⟨s9_,init,hn⟩:∃ a b,sNum bd 0 18446744073709551615 st=(a,b):=⟨_,_,rfl⟩
 have Pa:=eC bd 0 18446744073709551615 st
 rw [hn] at Pa
 have zy:=H9 hn;clear hn
 replace Pa:init<=18446744073709551615:=Pa.1
 refine Ze fun _ a8=>rg ?_
 have bB:=hf.B4 115 116 117 118
 iterate 2 refine Zy ?_
 refine Zc (rZ wq g bd st s9_ init D7 eZ 0 18446744073709551615 zy.out) ?_;rintro e w30 ⟨rfl,Gz,En⟩
 have HZ:=En.heap Ui oM
 have CJ:=eA.but En (fun k hk e=>by have:=pU.out k hk;omega) (fun k hk e=>by have:=(HC.out k hk).1;omega)
 have lV:=En.heap hu3 oM;have hv4:=En.heap hu4 oM
 have Ja:=j6 (i:=1) HZ
 have e1:=n5 1 HZ
 simp at e1
 skip
 refine Zv ?_
 iterate 2 refine Zy ?_
 refine Fc.nil (F1 3 4 5 7 11 13 hf ?_)
 clear hf s3 s4 s5 s7 u4 D9 D1 bB;intro a7 hf sS
 generalize ed:w30.setCell ⟨f,1,none⟩ (.int .u64 init)=W30
 have eQ:n4 (fun k=>k=f) w30 W30:=by rw [<- ed];exact n4.setCell (S:=fun k=>k=f) rfl _
 have Xg:W30.heap[f]? =some (.cells #[V,.int .u64 init] 38 (0,0)):=by rw [<- ed];exact (k7 (i:=1) HZ _).trans sP
 clear ed
 have wF:=Gz.but eQ oM
 have Pb:=CJ.but eQ (fun k hk e=>by have:=pU.out k hk;omega) (fun k hk e=>by have:=(HC.out k hk).1;omega)
 have AH:=eQ.heap lV oM;have Si:=eQ.heap hv4 oM
 have wG:Below w.heap.size w W30:=CF.trans ((l6.below (B:=w.heap.size) CF.size (fun k h=>oM)).trans ((En.below (B:=w.heap.size) (Nat.le_trans CF.size l6.size) (fun k h=>oM)).trans (eQ.below (B:=w.heap.size) (Nat.le_trans CF.size (Nat.le_trans l6.size En.size)) (fun k h=>oM))))
 have x9j:=Pb.rs
 have Z7:=UZ Yz.out vc.out wy.out yS.out zy.out
 have Xh:=H9 Z7;clear e1 Z7 eQ HZ Gz CJ eA lV hv4 Ja En l6 CF
 obtain ⟨i,hi,C3,hpI⟩:=wF.cells
 have c1:=n5 1 hpI
 simp [gY] at c1
 clear hpI
 refine Zs a8 fun _ a8=>Ze fun _ j8=>Zr [119,120,121,122,123,124] hf ?_
 refine F1 3 4 7 11 13 125 hf ?_
 intro a7 hf sS
 refine Zx j8 (Fc.l0 sS.2.2.2.2.2 (fun hq=> ?_) (fun hq=> ?_))
 . (
 have o9:i<bd.size:=qT
 have ec:=H9 o9;clear hq o9
 obtain ⟨b,AB⟩:=KY (4,i) s9_
 refine rg ?_
 have bB:=hf.B5 126 127 128 129 130
 iterate 5 refine Zy ?_
 refine Zc (PA W30 g bd s9_ wF 4 i sP) ?_;rintro e w32 ⟨rfl,Ha,eb⟩
 have hy3:=eb.heap AH oM;have hy4:=eb.heap Si oM
 have Xi:Below w.heap.size w w32:=wG.trans (eb.below (B:=w.heap.size) wG.size (fun k h=>oM))
 have Xj:pAll bd= .error b:=by rw [Xh.out];exact Kc C3 ec.out AB
 rw [AB] at Ha
 have zx:=H9 Xj;clear Xj
 refine Zv ?_
 refine Fc.nil (D2 3 4 7 11 13 hf ?_)
 intro a7 hf sS
 refine Zx a8 ?_
 have c2:=Ha.code.1;have c3:=Ha.code.2
 simp only [codeOf,placeOf] at c2 c3
 have o7:=Ha.err
 have q1:((b.1:Int) !=0)=true:=sO
 refine Ze fun _ a8=>Ze fun _ j8=>rg ?_
 have bB:=hf.B5 132 133 134 135 136
 iterate 5 refine Zy ?_
 refine fp fun K Z=> ?_
 go_simp
 try rw [q1]
 apply Z.out;clear Z K
 refine Fc.nil (F1 3 4 7 11 13 137 hf ?_)
 intro a7 hf sS
 refine Zx j8 (Fc.l7 sS.2.2.2.2.2 ?_)
 clear q1
 refine Ze fun _ j8=> ?_
 obtain ⟨s3,s4,s7,D9,D1,Pc⟩:=sS
 refine Sm.E4 (n:=146) (fun m k=>(m=6/\k=w.heap.size)\/(m=7/\k=w.heap.size+1)) [6,7] (Sb.OkOps.of kR) (fun a6=> ?_)
 apply Sm.tq 0 _ hf a6
 . (
 intro a7 w1 hh hd hk K Z
 refine Sb.pl ?_
 have F4:=Sm.r5 hh [(6,[]),(7,[])] kR
 have l6:=Sm.l9 hh [] [(6,[]),(7,[])] kR
 clear hd hh
 go_simp
 exact Sb.k Z)
 refine Sm.mD (k:=1) s7 hf.size a6.out rfl kR rfl rfl (.inl rfl) kR ?_
 apply Sm.tq 2 _ hf a6
 . (
 intro a7 w1 hh hd hk K Z
 refine Sb.pl ?_
 have y8p:=Sm.v 1 0 hd hk []
 have l6:=Sm.l9 hh [6] [(7,[])] kR
 clear hd hh
 go_simp
 exact Sb.k Z)
 apply Sm.tq 3 _ hf a6
 . (
 intro a7 w1 hh hd hk K Z
 refine Sb.pl ?_
 have y8o:=Sm.v 2 0 hd hk []
 have l6:=Sm.l9 hh [6] [(7,[])] kR
 clear hd hh
 go_simp
 exact Sb.k Z)
 apply Sm.tq 4 _ hf a6
 . (
 intro a7 w1 hh hd hk K Z
 refine Sb.pl ?_
 have y8n:=Sm.v 3 0 hd hk []
 have l6:=Sm.l9 hh [6] [(7,[])] kR
 clear hd hh
 have h4:=l6 (fun k=>k=w.heap.size) (fun m hm b h=>by simp at hm;subst hm;rcases h with h | h;exact h.2;(have:=h.1;omega))
 have d2:=h4.cell c2 sQ;have d3:=h4.cell c3 sQ
 go_simp
 exact Sb.k Z)
 apply Sm.tq 5 _ hf a6
 . (
 intro a7 w1 hh hd hk K Z
 refine Sb.pl ?_
 have F4:=Sm.r5 hh [(6,[]),(7,[])] kR
 have l6:=Sm.l9 hh [] [(6,[]),(7,[])] kR
 clear hd hh
 go_simp
 exact Sb.k Z)
 refine Sm.E6 (k:=6) (n:=146) (fun _ wz=>wz.heap[w.heap.size]? =some (.cells #[.slice none 0 0,.int .u64 0] 38 (0,0))/\wz.heap[w.heap.size+1]? =some (.cells #[.int .i64 0,.int .i64 0] 134 (0,0))) hf.size a6.out rfl (fun _ _ _ hb h=>⟨(hb.block _ (j5 h.1)).trans h.1,(hb.block _ (j5 h.2)).trans h.2⟩) kR ?_ ?_
 . (
 intro a7 w1 hh hd hk K Z
 refine Sb.pl ?_
 have s3:=Sm.o hh kR s3
 have y8m:=Sm.v 0 5 hd hk []
 have F4:=Sm.r5 hh [(7,[])] kR
 have l6:=Sm.l9 hh [] [(7,[])] kR
 clear hd hh
 have k3:=(F4.block _ (j5 hy3)).trans hy3;have k4:=(F4.block _ (j5 hy4)).trans hy4
 have f30:=j6 (i:=0) k3;have f31:=j6 (i:=1) k3
 have z0:=n5 0 k3;have z1:=n5 1 k3
 simp at z0 z1
 go_simp
 exact Z.out _ rfl undef _ ((n4.setCell (S:=fun k=>(6=6/\k=w.heap.size)\/(6=7/\k=w.heap.size+1)) (p:=⟨w.heap.size,0,none⟩) (.inl ⟨rfl,rfl⟩) _).trans (n4.setCell (p:=⟨w.heap.size,1,none⟩) (.inl ⟨rfl,rfl⟩) _)) ⟨rN k3 _ _,p9 (p9 k4 oM) oM⟩)
 refine Sm.E6 (k:=7) (n:=146) (fun _ wz=>wz.heap[w.heap.size]? =some (.cells #[.slice none 0 0,.int .u64 0] 38 (0,0))/\wz.heap[w.heap.size+1]? =some (.cells #[.int .i64 b.1,.int .i64 b.2] 134 (0,0))) hf.size a6.out rfl (fun _ _ _ hb h=>⟨(hb.block _ (j5 h.1)).trans h.1,(hb.block _ (j5 h.2)).trans h.2⟩) kR ?_ ?_
 . (
 intro a7 w1 hh hd hk K Z
 refine Sb.pl ?_
 have s4:=Sm.o hh kR s4
 have y8l:=Sm.v 4 2 hd hk []
 obtain ⟨_,hd6⟩:=Sm.U1 (j:=6) (m:=0) hd hk rfl [] kR [] kR rfl
 have l6:=Sm.l9 hh [6] [] kR
 clear hd hh
 obtain ⟨k3,k4⟩:=hd6
 have f40:=j6 (i:=0) k4;have f41:=j6 (i:=1) k4
 have z0:=n5 0 k4;have z1:=n5 1 k4
 simp at z0 z1
 go_simp
 exact Z.out _ rfl undef _ ((n4.setCell (S:=fun k=>(7=6/\k=w.heap.size)\/(7=7/\k=w.heap.size+1)) (p:=⟨w.heap.size+1,0,none⟩) (.inr ⟨rfl,rfl⟩) _).trans (n4.setCell (p:=⟨w.heap.size+1,1,none⟩) (.inr ⟨rfl,rfl⟩) _)) ⟨p9 (p9 k3 oM) oM,rN k4 _ _⟩)
 refine Sm.E5 (n:=146) kR hf.size a6.out rfl (fun a7 w1 hh hg=> ?_)
 have s2:=Sm.e 5 2 hg rfl rfl rfl rfl
 replace s3:=Sm.o hh kR s3
 replace s4:=Sm.o hh kR s4
 obtain ⟨_,V0⟩:=Sm.M4 (j:=7) (m:=0) hg rfl dC [(6,[])] kR rfl
 have y5:=hh.fr hf
 have l6:=hh.but
 clear hg hh hf a6 s7 D9 D1 Pc
 have hf:=y5;clear y5
 refine Zx j8 (k8 ?_)
 obtain ⟨hH,jV⟩:=V0
 replace l6:=l6 (fun k=>k=w.heap.size\/k=w.heap.size+1) (fun m _ b h=>h.elim (fun h=> .inl h.2) (fun h=> .inr h.2))
 rw [zx.out]
 exact pX rfl hf s2 s3 s4 hH jV Tryz.underlying38 rfl Tryz.underlying134 rfl kR kR ⟨rfl,o7,Xi.trans (l6.below (B:=w.heap.size) Xi.size (fun k h=>oM))⟩)
 . (
 have eV:¬ i<bd.size:=qF
 clear hq
 rcases s9_ with b | p
 . (
 have Xj:pAll bd= .error b:=Xh.out
 have zx:=H9 Xj;clear Xj
 refine wp_skip (Zx a8 ?_)
 have c2:=wF.code.1;have c3:=wF.code.2
 simp only [codeOf,placeOf] at c2 c3
 have o7:=wF.err
 have q1:((b.1:Int) !=0)=true:=sO
 refine Ze fun _ a8=>Ze fun _ j8=>rg ?_
 have bB:=hf.B5 132 133 134 135 136
 iterate 5 refine Zy ?_
 refine fp fun K Z=> ?_
 go_simp
 try rw [q1]
 apply Z.out;clear Z K
 refine Fc.nil (F1 3 4 7 11 13 137 hf ?_)
 intro a7 hf sS
 refine Zx j8 (Fc.l7 sS.2.2.2.2.2 ?_)
 clear q1
 refine Ze fun _ j8=> ?_
 obtain ⟨s3,s4,s7,D9,D1,Pc⟩:=sS
 refine Sm.E4 (n:=146) (fun m k=>(m=6/\k=w.heap.size)\/(m=7/\k=w.heap.size+1)) [6,7] (Sb.OkOps.of kR) (fun a6=> ?_)
 apply Sm.tq 0 _ hf a6
 . (
 intro a7 w1 hh hd hk K Z
 refine Sb.pl ?_
 have F4:=Sm.r5 hh [(6,[]),(7,[])] kR
 have l6:=Sm.l9 hh [] [(6,[]),(7,[])] kR
 clear hd hh
 go_simp
 exact Sb.k Z)
 refine Sm.mD (k:=1) s7 hf.size a6.out rfl kR rfl rfl (.inl rfl) kR ?_
 apply Sm.tq 2 _ hf a6
 . (
 intro a7 w1 hh hd hk K Z
 refine Sb.pl ?_
 have y8p:=Sm.v 1 0 hd hk []
 have l6:=Sm.l9 hh [6] [(7,[])] kR
 clear hd hh
 go_simp
 exact Sb.k Z)
 apply Sm.tq 3 _ hf a6
 . (
 intro a7 w1 hh hd hk K Z
 refine Sb.pl ?_
 have y8o:=Sm.v 2 0 hd hk []
 have l6:=Sm.l9 hh [6] [(7,[])] kR
 clear hd hh
 go_simp
 exact Sb.k Z)
 apply Sm.tq 4 _ hf a6
 . (
 intro a7 w1 hh hd hk K Z
 refine Sb.pl ?_
 have y8n:=Sm.v 3 0 hd hk []
 have l6:=Sm.l9 hh [6] [(7,[])] kR
 clear hd hh
 have h4:=l6 (fun k=>k=w.heap.size) (fun m hm b h=>by simp at hm;subst hm;rcases h with h | h;exact h.2;(have:=h.1;omega))
 have d2:=h4.cell c2 sQ;have d3:=h4.cell c3 sQ
 go_simp
 exact Sb.k Z)
 apply Sm.tq 5 _ hf a6
 . (
 intro a7 w1 hh hd hk K Z
 refine Sb.pl ?_
 have F4:=Sm.r5 hh [(6,[]),(7,[])] kR
 have l6:=Sm.l9 hh [] [(6,[]),(7,[])] kR
 clear hd hh
 go_simp
 exact Sb.k Z)
 refine Sm.E6 (k:=6) (n:=146) (fun _ wz=>wz.heap[w.heap.size]? =some (.cells #[.slice none 0 0,.int .u64 0] 38 (0,0))/\wz.heap[w.heap.size+1]? =some (.cells #[.int .i64 0,.int .i64 0] 134 (0,0))) hf.size a6.out rfl (fun _ _ _ hb h=>⟨(hb.block _ (j5 h.1)).trans h.1,(hb.block _ (j5 h.2)).trans h.2⟩) kR ?_ ?_
 . (
 intro a7 w1 hh hd hk K Z
 refine Sb.pl ?_
 have s3:=Sm.o hh kR s3
 have y8m:=Sm.v 0 5 hd hk []
 have F4:=Sm.r5 hh [(7,[])] kR
 have l6:=Sm.l9 hh [] [(7,[])] kR
 clear hd hh
 have k3:=(F4.block _ (j5 AH)).trans AH;have k4:=(F4.block _ (j5 Si)).trans Si
 have f30:=j6 (i:=0) k3;have f31:=j6 (i:=1) k3
 have z0:=n5 0 k3;have z1:=n5 1 k3
 simp at z0 z1
 go_simp
 exact Z.out _ rfl undef _ ((n4.setCell (S:=fun k=>(6=6/\k=w.heap.size)\/(6=7/\k=w.heap.size+1)) (p:=⟨w.heap.size,0,none⟩) (.inl ⟨rfl,rfl⟩) _).trans (n4.setCell (p:=⟨w.heap.size,1,none⟩) (.inl ⟨rfl,rfl⟩) _)) ⟨rN k3 _ _,p9 (p9 k4 oM) oM⟩)
 refine Sm.E6 (k:=7) (n:=146) (fun _ wz=>wz.heap[w.heap.size]? =some (.cells #[.slice none 0 0,.int .u64 0] 38 (0,0))/\wz.heap[w.heap.size+1]? =some (.cells #[.int .i64 b.1,.int .i64 b.2] 134 (0,0))) hf.size a6.out rfl (fun _ _ _ hb h=>⟨(hb.block _ (j5 h.1)).trans h.1,(hb.block _ (j5 h.2)).trans h.2⟩) kR ?_ ?_
 . (
 intro a7 w1 hh hd hk K Z
 refine Sb.pl ?_
 have s4:=Sm.o hh kR s4
 have y8l:=Sm.v 4 2 hd hk []
 obtain ⟨_,hd6⟩:=Sm.U1 (j:=6) (m:=0) hd hk rfl [] kR [] kR rfl
 have l6:=Sm.l9 hh [6] [] kR
 clear hd hh
 obtain ⟨k3,k4⟩:=hd6
 have f40:=j6 (i:=0) k4;have f41:=j6 (i:=1) k4
 have z0:=n5 0 k4;have z1:=n5 1 k4
 simp at z0 z1
 go_simp
 exact Z.out _ rfl undef _ ((n4.setCell (S:=fun k=>(7=6/\k=w.heap.size)\/(7=7/\k=w.heap.size+1)) (p:=⟨w.heap.size+1,0,none⟩) (.inr ⟨rfl,rfl⟩) _).trans (n4.setCell (p:=⟨w.heap.size+1,1,none⟩) (.inr ⟨rfl,rfl⟩) _)) ⟨p9 (p9 k3 oM) oM,rN k4 _ _⟩)
 refine Sm.E5 (n:=146) kR hf.size a6.out rfl (fun a7 w1 hh hg=> ?_)
 have s2:=Sm.e 5 2 hg rfl rfl rfl rfl
 replace s3:=Sm.o hh kR s3
 replace s4:=Sm.o hh kR s4
 obtain ⟨_,V0⟩:=Sm.M4 (j:=7) (m:=0) hg rfl dC [(6,[])] kR rfl
 have y5:=hh.fr hf
 have l6:=hh.but
 clear hg hh hf a6 s7 D9 D1 Pc
 have hf:=y5;clear y5
 refine Zx j8 (k8 ?_)
 obtain ⟨hH,jV⟩:=V0
 replace l6:=l6 (fun k=>k=w.heap.size\/k=w.heap.size+1) (fun m _ b h=>h.elim (fun h=> .inl h.2) (fun h=> .inr h.2))
 rw [zx.out]
 exact pX rfl hf s2 s3 s4 hH jV Tryz.underlying38 rfl Tryz.underlying134 rfl kR kR ⟨rfl,o7,wG.trans (l6.below (B:=w.heap.size) wG.size (fun k h=>oM))⟩)
 . (
 have Xj:pAll bd= .ok (en,init,l.map Prod.snd):=by rw [Xh.out];have:=C3 p rfl;exact if_neg (by omega)
 have zx:=H9 Xj;clear Xj
 have c2:=wF.code.1
 simp only [codeOf] at c2
 refine wp_skip (Zs a8 fun _ a8=>Ze fun _ j8=>Zr [132,133,134,135,136] hf ?_)
 refine F1 3 4 7 11 13 137 hf ?_
 intro a7 hf sS
 refine Zx j8 (Fc.k9 sS.2.2.2.2.2 ?_)
 obtain ⟨Av,cv,mT,iU⟩:=Pb.form
 subst mT
 have d0:=n5 0 Xg;have d1:=n5 1 Xg
 simp at d0 d1
 refine wp_skip (Zs a8 fun _ a8=> ?_)
 obtain ⟨s3,s4,s7,D9,D1,Pc⟩:=sS
 refine Sm.E4 (n:=146) (fun m k=>(m=4/\k=w.heap.size)\/(m=5/\k=w.heap.size+1)) [4,5] (Sb.OkOps.of kR) (fun a6=> ?_)
 refine Sm.mD (k:=0) D9 hf.size a6.out rfl kR rfl rfl (.inl rfl) kR ?_
 apply Sm.tq 1 _ hf a6
 . (
 intro a7 w1 hh hd hk K Z
 refine Sb.pl ?_
 have D1:=Sm.o hh kR D1
 have F4:=Sm.r5 hh [(4,[]),(5,[])] kR
 have l6:=Sm.l9 hh [] [(4,[]),(5,[])] kR
 clear hd hh
 have d0b:=cL F4 d0;have d1b:=cL F4 d1
 go_simp
 exact Sb.k Z)
 apply Sm.tq 2 _ hf a6
 . (
 intro a7 w1 hh hd hk K Z
 refine Sb.pl ?_
 have l6:=Sm.l9 hh [4] [(5,[])] kR
 clear hd hh
 go_simp
 exact Sb.k Z)
 refine Sm.mg (k:=3) (j:=0) (m:=2) hf.size a6.out rfl kR rfl rfl (.inr rfl) rfl [] kR rfl rfl rfl ?_
 refine Sm.E6 (k:=4) (n:=146) (fun _ wz=>wz.heap[w.heap.size]? =some (.cells #[.slice Av l.length cv,.int .u64 init] 38 (0,0))/\wz.heap[w.heap.size+1]? =some (.cells #[.int .i64 0,.int .i64 0] 134 (0,0))) hf.size a6.out rfl (fun _ _ _ hb h=>⟨(hb.block _ (j5 h.1)).trans h.1,(hb.block _ (j5 h.2)).trans h.2⟩) kR ?_ ?_
 . (
 intro a7 w1 hh hd hk K Z
 refine Sb.pl ?_
 have s3:=Sm.o hh kR s3
 have x3q:=Sm.v 1 2 hd hk []
 have F4:=Sm.r5 hh [(5,[])] kR
 have l6:=Sm.l9 hh [] [(5,[])] kR
 clear hd hh
 have k3:=(F4.block _ (j5 AH)).trans AH;have k4:=(F4.block _ (j5 Si)).trans Si
 have f30:=j6 (i:=0) k3;have f31:=j6 (i:=1) k3
 have z0:=n5 0 k3;have z1:=n5 1 k3
 simp at z0 z1
 go_simp
 exact Z.out _ rfl undef _ ((n4.setCell (S:=fun k=>(4=4/\k=w.heap.size)\/(4=5/\k=w.heap.size+1)) (p:=⟨w.heap.size,0,none⟩) (.inl ⟨rfl,rfl⟩) _).trans (n4.setCell (p:=⟨w.heap.size,1,none⟩) (.inl ⟨rfl,rfl⟩) _)) ⟨rN k3 _ _,p9 (p9 k4 oM) oM⟩)
 refine Sm.E6 (k:=5) (n:=146) (fun _ wz=>wz.heap[w.heap.size]? =some (.cells #[.slice Av l.length cv,.int .u64 init] 38 (0,0))/\wz.heap[w.heap.size+1]? =some (.cells #[.int .i64 0,.int .i64 0] 134 (0,0))) hf.size a6.out rfl (fun _ _ _ hb h=>⟨(hb.block _ (j5 h.1)).trans h.1,(hb.block _ (j5 h.2)).trans h.2⟩) kR ?_ ?_
 . (
 intro a7 w1 hh hd hk K Z
 refine Sb.pl ?_
 have s4:=Sm.o hh kR s4
 have x3p:=Sm.v 2 2 hd hk []
 obtain ⟨_,hd4⟩:=Sm.U1 (j:=4) (m:=0) hd hk rfl [] kR [] kR rfl
 have l6:=Sm.l9 hh [4] [] kR
 clear hd hh
 obtain ⟨k3,k4⟩:=hd4
 have f40:=j6 (i:=0) k4;have f41:=j6 (i:=1) k4
 have z0:=n5 0 k4;have z1:=n5 1 k4
 simp at z0 z1
 go_simp
 exact Z.out _ rfl undef _ ((n4.setCell (S:=fun k=>(5=4/\k=w.heap.size)\/(5=5/\k=w.heap.size+1)) (p:=⟨w.heap.size+1,0,none⟩) (.inr ⟨rfl,rfl⟩) _).trans (n4.setCell (p:=⟨w.heap.size+1,1,none⟩) (.inr ⟨rfl,rfl⟩) _)) ⟨p9 (p9 k3 oM) oM,rN k4 _ _⟩)
 refine Sm.E5 (n:=146) kR hf.size a6.out rfl (fun a7 w1 hh hg=> ?_)
 have s2:=Sm.e 3 2 hg rfl rfl rfl rfl
 replace s3:=Sm.o hh kR s3
 replace s4:=Sm.o hh kR s4
 obtain ⟨_,V0⟩:=Sm.M4 (j:=5) (m:=0) hg rfl dC [(4,[])] kR rfl
 have y5:=hh.fr hf
 have l6:=hh.but
 clear hg hh hf a6 s7 D9 D1 Pc
 have hf:=y5;clear y5
 refine Zx a8 (k8 ?_)
 obtain ⟨hH,jV⟩:=V0
 replace l6:=l6 (fun k=>k=w.heap.size\/k=w.heap.size+1) (fun m _ b h=>h.elim (fun h=> .inl h.2) (fun h=> .inr h.2))
 rw [zx.out]
 exact pX rfl hf s2 s3 s4 hH jV Tryz.underlying38 rfl Tryz.underlying134 rfl kR kR ⟨_,rfl,(Pb.but l6 (fun k hk h=>by have:=pU.out k hk;omega) (fun k hk h=>by have:=(HC.out k hk).1;omega)).rs,wG.trans (l6.below (B:=w.heap.size) wG.size (fun k h=>oM))⟩))))))
theorem lD {en init:Nat} {ss:List State} {rr aw:Bool} {es:List G9} (h1:F2 ss init=rr) (h2:(q7 ss init).all pS=aw) (h3:(q7 ss init).map eK=es):Z4 en init ss=if rr&&aw&&decide (es.length=en)&&decide (1<=en)&&decide (aP es=0) then some es else none:=by
 subst h1;subst h2;subst h3
 unfold Z4
 rw [List.length_map]
theorem Uj (w:World) (s:ByteArray) (C8:s.size<=900000000) (b:J9) (hp:N9 s= .error b):E2 w 40 #[.string s] (.tuple #[.slice none 0 0,.bool false]):=by
 refine L7 50 Tryz.func40 fun fr hf s0=> ?_
 refine Ze fun _ a8=>Zr [] hf ?_
 refine p5 0 hf ?_
 clear hf s0;intro a7 hf s0
 refine Zt a8 fun _ a8=> ?_
 have bB:=hf.B8 12 13 11 14 15 16 5 6
 refine Zy ?_
 refine Zc (PE w s C8) ?_;rintro e u1 jB
 rw [hp] at jB
 obtain ⟨rfl,o7,p6⟩:=jB
 try dsimp only
 refine Zv ?_
 iterate 9 refine Zy ?_
 refine Fc.nil (y7 4 5 6 hf ?_)
 clear hf s0 bB;intro a7 hf sS
 generalize P2:(u1.alloc (.cells #[.slice none 0 0,.int .u64 0] 38)).alloc (.cells #[.int .i64 b.1,.int .i64 b.2] 134)=W1
 obtain ⟨s4,s5,s6⟩:=sS
 try simp only [World.size_alloc] at s5 s6
 obtain ⟨lS,Sj,Xk⟩:=D8 P2
 clear P2
 have c0:=n5 0 Sj;have c1:=n5 1 Sj;have g0:=n5 0 Xk
 simp at c0 c1 g0
 have l6:=p6.trans (lS.mono p6.size)
 clear Sj Xk
 refine Zx a8 ?_
 have q1:(((b.1:Nat):Int) !=0)=true:=bne_iff_ne.2 oM
 refine Ze fun _ a8=>Ze fun _ j8=> ?_
 have qs:=q1
 refine Zr [17,18,19,20,21,22,23] hf ?_
 refine y7 4 5 24 hf ?_
 clear hf s4 s5 s6 qs;intro a7 hf sS
 refine Zx j8 (Fc.l7 sS.2.2 ?_)
 refine Ze fun _ j8=>Zr [] hf ?_
 refine y4 2 3 hf ?_
 intro a7 hf sS
 refine Zx j8 (k8 ?_)
 exact Fc.H6 rfl hf sS.1 sS.2 ⟨rfl,l6⟩
theorem Hb (w:World) (s:ByteArray) (C8:s.size<=900000000) (en:Nat) (init:Nat) (ss:List State) (hp:N9 s= .ok (en,init,ss)) (hF:Sk ss) (N6:(q7 ss init).length<=40000) (D7:init<q9):Calls Tryz.prog 40 #[.string s] w fun e w1=>∃ v1,e= .returned (.tuple #[v1,.bool (Z4 en init ss).isSome])/\(∀ es,Z4 en init ss=some es->OE w1 w.heap.size v1 es)/\Below w.heap.size w w1:=by
 refine L7 50 Tryz.func40 fun fr hf s0=> ?_
 refine Ze fun _ a8=>Zr [] hf ?_
 refine p5 0 hf ?_
 clear hf s0;intro a7 hf s0
 refine Zt a8 fun _ a8=> ?_
 have bB:=hf.B8 12 13 11 14 15 16 5 6
 refine Zy ?_
 refine Zc (PE w s C8) ?_;rintro e u1 jB
 rw [hp] at jB
 obtain ⟨sv,rfl,hr,p6⟩:=jB
 try dsimp only
 obtain ⟨A,cc,uJ,_⟩:=hr.form
 subst uJ
 refine Zv ?_
 iterate 9 refine Zy ?_
 refine Fc.nil (y7 4 5 6 hf ?_)
 clear hf s0 bB;intro a7 hf sS
 generalize P2:(u1.alloc (.cells #[.slice A ss.length cc,.int .u64 init] 38)).alloc (.cells #[.int .i64 0,.int .i64 0] 134)=W1
 obtain ⟨s4,s5,s6⟩:=sS
 try simp only [World.size_alloc] at s5 s6
 obtain ⟨lS,Sj,Xk⟩:=D8 P2
 clear P2
 have c0:=n5 0 Sj;have c1:=n5 1 Sj;have g0:=n5 0 Xk
 simp at c0 c1 g0
 have l6:=p6.trans (lS.mono p6.size)
 clear Sj Xk
 replace hr:=hr.later lS
 refine Zx a8 ?_
 have TZ:=hF.len
 refine Ze fun _ a8=>Ze fun _ j8=>rg ?_
 have bB:=hf.B7 17 18 19 20 21 22 23
 iterate 5 refine Zy ?_
 refine Zd (NW W1 _ init ss hr hF.ok oM) ?_;rintro e w2 ⟨rfl,r8⟩
 generalize kQ:F2 ss init=rr
 replace hr:=hr.later r8;replace c0:=cL r8 c0;replace c1:=cL r8 c1;replace l6:=l6.trans (r8.mono l6.size)
 clear r8
 refine Zv ?_
 iterate 2 refine Zy ?_
 refine Fc.nil (y7 4 5 24 hf ?_)
 clear hf s4 s5 s6 bB;intro a7 hf sS
 refine Zx j8 ?_
 rcases rr with _ | _
 . (
 refine Fc.l7 sS.2.2 ?_
 have gP:=lD (en:=en) kQ rfl rfl
 rw [Bool.false_and,Bool.false_and,Bool.false_and,Bool.false_and,if_neg dC] at gP
 refine Ze fun _ j8=>Zr [] hf ?_
 refine y4 2 3 hf ?_
 intro a7 hf sS
 refine Zx j8 (k8 ?_)
 exact Fc.H6 rfl hf sS.1 sS.2 ⟨_,by rw [gP];rfl,fun es h=>(by rw [gP] at h;cases h),l6⟩)
 . (
 refine Fc.k9 sS.2.2 ?_
 have y8j:=l6.size
 refine wp_skip (Zt a8 fun _ a8=> ?_)
 have bB:=hf.B5 26 27 25 28 29
 refine Zy ?_
 refine Zc (ea w2 _ init ss hr hF N6 D7) ?_;rintro e w4 ⟨v1,rfl,how,U4⟩
 obtain ⟨aw,MZ⟩:∃ x,(q7 ss init).all pS=x:=⟨_,rfl⟩
 rw [MZ] at how |-
 replace hr:=hr.later U4;replace c0:=cL U4 c0;replace c1:=cL U4 c1;replace l6:=l6.trans (U4.mono l6.size)
 clear U4
 refine Zv ?_
 iterate 5 refine Zy ?_
 refine Fc.nil (y7 4 7 8 hf ?_)
 intro a7 hf sS
 refine Zx a8 ?_
 obtain ⟨es,uK⟩:∃ x,(q7 ss init).map eK=x:=⟨_,rfl⟩
 have uy:es.length<=40000:=by rw [<- uK,List.length_map];exact N6
 rw [uK] at how
 have gP:=lD (en:=en) kQ MZ uK
 have zw:=H9 gP;clear gP uK kQ MZ
 rcases aw with _ | _
 . (
 refine Ze fun _ a8=>Ze fun _ j8=>Zr [30,31,32,33,34,35,36,37,38,39,40] hf ?_
 refine y4 7 41 hf ?_
 intro a7 hf sS
 refine Zx j8 (Fc.l7 sS.2 ?_)
 have gP:=zw.out
 rw [Bool.and_false,Bool.false_and,Bool.false_and,Bool.false_and,if_neg dC] at gP
 refine Ze fun _ j8=>Zr [] hf ?_
 refine y4 2 3 hf ?_
 intro a7 hf sS
 refine Zx j8 (k8 ?_)
 exact Fc.H6 rfl hf sS.1 sS.2 ⟨_,by rw [gP];rfl,fun es h=>(by rw [gP] at h;cases h),l6⟩)
 . (
 have eS:=how rfl
 obtain ⟨Av,cv,rfl,iU⟩:=OE.form (es:=es) eS
 by_cases F0:es.length=en
 . (
 by_cases Ep:1<=en
 . (
 have q1:((es.length:Int) !=(en:Int))=false:=by rw [F0];exact bne_self_eq_false _
 have MS:=H9 F0;clear F0
 have q2:decide ((en:Int)<1)=false:=decide_eq_false oM
 refine Ze fun _ a8=>Ze fun _ j8=> ?_
 have qs:=And.intro q1 q2
 refine Zr [30,31,32,33,34,35,36,37,38,39,40] hf ?_
 refine y4 7 41 hf ?_
 clear hf sS qs;intro a7 hf sS
 refine Zx j8 (Fc.k9 sS.2 ?_)
 clear q1 q2
 refine wp_skip (Zt a8 fun _ a8=> ?_)
 have bB:=hf.B5 43 44 42 45 46
 refine Zy ?_
 refine Zc (ZJ w4 es _ _ nR (OE.re (es:=es) eS) oM) ?_;rintro e w7 ⟨n7,rfl,B1⟩
 generalize zv:aP es=cn
 have HCN:=H9 zv;clear zv
 replace eS:=n3 eS B1
 replace l6:=l6.trans (B1.mono l6.size)
 refine Zv ?_
 iterate 5 refine Zy ?_
 refine Fc.nil (y4 7 10 hf ?_)
 intro a7 hf sS
 refine Zx a8 ?_
 by_cases SV:cn=0
 . (
 have q3:(((cn:Nat):Int)==0)=true:=beq_iff_eq.2 oM
 have gP:=zw.out
 rw [HCN.out,decide_eq_true MS.out,decide_eq_true (show 1<=en by omega),decide_eq_true SV,if_pos dC] at gP
 refine Ze fun _ a8=>Zr [47,48,49] hf ?_
 refine y4 2 3 hf ?_
 intro a7 hf sS
 refine Zx a8 (k8 ?_)
 exact Fc.H6 rfl hf sS.1 sS.2 ⟨_,by rw [gP];rfl,fun e9 h=>(by rw [gP] at h;cases h;exact K7 eS (by have:=y8j;omega)),l6⟩)
 . (
 have q3:(((cn:Nat):Int)==0)=false:=beq_eq_false_iff_ne.2 oM
 have gP:=zw.out
 rw [HCN.out,decide_eq_true MS.out,decide_eq_true (show 1<=en by omega),decide_eq_false SV,if_neg dC] at gP
 refine Ze fun _ a8=>Zr [47,48,49] hf ?_
 refine y4 2 3 hf ?_
 intro a7 hf sS
 refine Zx a8 (k8 ?_)
 exact Fc.H6 rfl hf sS.1 sS.2 ⟨_,by rw [gP];rfl,fun es h=>(by rw [gP] at h;cases h),l6⟩))
 . (
 have q1:((es.length:Int) !=(en:Int))=false:=by rw [F0];exact bne_self_eq_false _
 have MS:=H9 F0;clear F0
 have q2:decide ((en:Int)<1)=true:=decide_eq_true oM
 refine Ze fun _ a8=>Ze fun _ j8=> ?_
 have qs:=And.intro q1 q2
 refine Zr [30,31,32,33,34,35,36,37,38,39,40] hf ?_
 refine y4 7 41 hf ?_
 clear hf sS qs;intro a7 hf sS
 refine Zx j8 (Fc.l7 sS.2 ?_)
 clear q1 q2
 have gP:=zw.out
 rw [decide_eq_false (show ¬ 1<=en by omega),Bool.and_false,Bool.false_and,if_neg dC] at gP
 refine Ze fun _ j8=>Zr [] hf ?_
 refine y4 2 3 hf ?_
 intro a7 hf sS
 refine Zx j8 (k8 ?_)
 exact Fc.H6 rfl hf sS.1 sS.2 ⟨_,by rw [gP];rfl,fun es h=>(by rw [gP] at h;cases h),l6⟩))
 . (
 have q1:((es.length:Int) !=(en:Int))=true:=bne_iff_ne.2 oM
 refine Ze fun _ a8=>Ze fun _ j8=> ?_
 have qs:=q1
 refine Zr [30,31,32,33,34,35,36,37,38,39,40] hf ?_
 refine y4 7 41 hf ?_
 clear hf sS qs;intro a7 hf sS
 refine Zx j8 (Fc.l7 sS.2 ?_)
 have gP:=zw.out
 rw [decide_eq_false F0,Bool.and_false,Bool.false_and,Bool.false_and,if_neg dC] at gP
 refine Ze fun _ j8=>Zr [] hf ?_
 refine y4 2 3 hf ?_
 intro a7 hf sS
 refine Zx j8 (k8 ?_)
 exact Fc.H6 rfl hf sS.1 sS.2 ⟨_,by rw [gP];rfl,fun es h=>(by rw [gP] at h;cases h),l6⟩)))
theorem Pd {n init:Nat} {ss:List State} {es:List G9} (h:Z4 n init ss=some es) (hs:(q7 ss init).length<=5000):es.length<=5000:=by
 unfold Z4 at h
 split at h
 ·cases h;rw [List.length_map];exact hs
 ·cases h
theorem Pe (w:World) (s:ByteArray) (C8:s.size<=900000000) (z:ByteArray) (MT:z.size<=1000000) (n:Nat) (pQ:1<=n) (iW:n<=1000000) (b:J9) (hp:N9 s= .error b):E2 w 18 #[.string s,.string z,.int .i64 n] (.bool true):=by
 refine dT 90 Tryz.func18 fun fr hf s0 s1 s2=> ?_
 refine Ze fun _ a8=>Zr [] hf ?_
 refine y7 0 1 2 hf ?_
 clear hf s0 s1 s2;intro a7 hf sS
 refine Zt a8 fun _ a8=> ?_
 have bB:=hf.B5 16 17 15 18 19
 refine Zy ?_
 refine Zc (rB w s C8 (fun _ _ _ h=>by rw [hp] at h;cases h)) ?_;rintro e w1 X4
 unfold kL at X4
 rw [hp] at X4
 try simp only at X4
 obtain ⟨rfl,l6⟩:=X4
 refine Zv ?_
 iterate 5 refine Zy ?_
 refine Fc.nil (D2 0 1 2 7 8 hf ?_)
 intro a7 hf sS
 refine Zt a8 fun _ a8=> ?_
 have bB:=hf.B5 21 22 20 23 24
 refine Zy ?_
 refine Zc (Uj w1 s C8 b hp) ?_;rintro e w2 ⟨rfl,r8⟩
 replace l6:=l6.trans (r8.mono l6.size)
 refine Zv ?_
 iterate 5 refine Zy ?_
 refine Fc.nil (Z1 0 1 2 7 8 9 10 hf ?_)
 intro a7 hf sS
 refine Zs a8 fun _ a8=>Ze fun _ j8=>Zr [25] hf ?_
 refine Z1 0 1 2 7 8 9 26 hf ?_
 intro a7 hf sS
 refine Zx j8 (Fc.l7 sS.2.2.2.2.2.2 ?_)
 refine Ze fun _ j8=>Zr [27,28,29,30,31,32] hf ?_
 refine p5 6 hf ?_
 intro a7 hf s6
 refine Zx j8 (k8 ?_)
 exact Fc.o6 rfl hf s6 ⟨rfl,l6⟩
theorem Pf (w:World) (s:ByteArray) (C8:s.size<=900000000) (z:ByteArray) (MT:z.size<=1000000) (n:Nat) (pQ:1<=n) (iW:n<=1000000) (en init:Nat) (ss:List State) (hp:N9 s= .ok (en,init,ss)) (hF:Sk ss) (N6:(q7 ss init).length<=5000) (D7:init<q9) (hr:rightS en ss init=false):E2 w 18 #[.string s,.string z,.int .i64 n] (.bool true):=by
 refine dT 90 Tryz.func18 fun fr hf s0 s1 s2=> ?_
 refine Ze fun _ a8=>Zr [] hf ?_
 refine y7 0 1 2 hf ?_
 clear hf s0 s1 s2;intro a7 hf sS
 have gP:=Nd D7 oM hr
 refine Zt a8 fun _ a8=> ?_
 have bB:=hf.B5 16 17 15 18 19
 refine Zy ?_
 refine Zc (rB w s C8 (fun _ _ _ h=>by rw [hp] at h;cases h;have:=hF.len;omega)) ?_;rintro e w1 X4
 unfold kL at X4
 rw [hp] at X4
 try simp only at X4
 rw [hr] at X4
 obtain ⟨rfl,l6⟩:=X4
 refine Zv ?_
 iterate 5 refine Zy ?_
 refine Fc.nil (D2 0 1 2 7 8 hf ?_)
 intro a7 hf sS
 refine Zt a8 fun _ a8=> ?_
 have bB:=hf.B5 21 22 20 23 24
 refine Zy ?_
 refine Zc (Hb w1 s C8 _ init ss hp hF oM D7) ?_;rintro e w2 ⟨v2,rfl,yT,r8⟩
 rw [gP] at yT
 rw [gP]
 try simp only [Option.isSome_none,Option.isSome_some]
 replace l6:=l6.trans (r8.mono l6.size)
 refine Zv ?_
 iterate 5 refine Zy ?_
 refine Fc.nil (Z1 0 1 2 7 8 9 10 hf ?_)
 intro a7 hf sS
 refine Zs a8 fun _ a8=>Ze fun _ j8=>Zr [25] hf ?_
 refine Z1 0 1 2 7 8 9 26 hf ?_
 intro a7 hf sS
 refine Zx j8 (Fc.l7 sS.2.2.2.2.2.2 ?_)
 refine Ze fun _ j8=>Zr [27,28,29,30,31,32] hf ?_
 refine p5 6 hf ?_
 intro a7 hf s6
 refine Zx j8 (k8 ?_)
 exact Fc.o6 rfl hf s6 ⟨rfl,l6⟩
theorem Pg (w:World) (s:ByteArray) (C8:s.size<=900000000) (z:ByteArray) (MT:z.size<=1000000) (n:Nat) (pQ:1<=n) (iW:n<=1000000) (en init:Nat) (ss:List State) (hp:N9 s= .ok (en,init,ss)) (hF:Sk ss) (N6:(q7 ss init).length<=5000) (D7:init<q9) (hr:rightS en ss init=true):E2 w 18 #[.string s,.string z,.int .i64 n] (.bool true):=by
 refine dT 90 Tryz.func18 fun fr hf s0 s1 s2=> ?_
 refine Ze fun _ a8=>Zr [] hf ?_
 refine y7 0 1 2 hf ?_
 clear hf s0 s1 s2;intro a7 hf sS
 obtain ⟨es,gP,zu⟩:=KB hF.ok D7 hr
 obtain rfl:=zu.len
 have uy:=Pd gP N6
 have TZ:=hF.len
 have y8i:=zu.z0b
 refine Zt a8 fun _ a8=> ?_
 have bB:=hf.B5 16 17 15 18 19
 refine Zy ?_
 refine Zc (rB w s C8 (fun _ _ _ h=>by rw [hp] at h;cases h;have:=hF.len;omega)) ?_;rintro e w1 X4
 unfold kL at X4
 rw [hp] at X4
 try simp only at X4
 rw [hr] at X4
 obtain ⟨Q,sv,rfl, -,hQ,o8,l6⟩:=X4
 refine Zv ?_
 iterate 5 refine Zy ?_
 refine Fc.nil (D2 0 1 2 7 8 hf ?_)
 intro a7 hf sS
 refine Zt a8 fun _ a8=> ?_
 have bB:=hf.B5 21 22 20 23 24
 refine Zy ?_
 refine Zc (Hb w1 s C8 _ init ss hp hF oM D7) ?_;rintro e w2 ⟨v2,rfl,yT,r8⟩
 rw [gP] at yT
 rw [gP]
 try simp only [Option.isSome_none,Option.isSome_some]
 replace l6:=l6.trans (r8.mono l6.size)
 replace hQ:=(r8.block _ (j5 hQ)).trans hQ
 replace o8:=o8.later r8
 refine Zv ?_
 iterate 5 refine Zy ?_
 refine Fc.nil (Z1 0 1 2 7 8 9 10 hf ?_)
 intro a7 hf sS
 refine Zs a8 fun _ a8=>Ze fun _ j8=>Zr [25] hf ?_
 refine Z1 0 1 2 7 8 9 26 hf ?_
 intro a7 hf sS
 refine Zx j8 (Fc.k9 sS.2.2.2.2.2.2 ?_)
 refine wp_skip (Zs a8 fun _ a8=>Ze fun _ j8=>Zr [33,34,35,36,37] hf ?_)
 refine F1 0 1 2 7 9 38 hf ?_
 intro a7 hf sS
 refine Zx j8 (Fc.k9 sS.2.2.2.2.2 ?_)
 have zt:=yT _ rfl
 have Q9:=OE.re (es:=es) zt
 obtain ⟨Av,cv,rfl,iU⟩:=Q9.form
 clear yT zt
 have hg:=zu.get z
 obtain ⟨fe,hfe⟩:∃ q,(R5 es z).getD ⟨⟨#[]⟩,0,false⟩=q:=⟨_,rfl⟩
 obtain ⟨iz,hiz⟩:∃ q,(R5 es z).isSome=q:=⟨_,rfl⟩
 rw [hfe,hiz] at hg
 have HG:=H9 hg;have HFE:=H9 hfe;have HIZ:=H9 hiz;clear hg hfe hiz gP
 have hfr:=zu.from_ z n pQ
 have fy:Q1 ss init z n=(es.filter (Er z)).take n:=hfr
 clear hfr
 obtain ⟨fs,kH⟩:∃ q,(es.filter (Er z)).take n=q:=⟨_,rfl⟩
 have x3l:fs.length<=5000:=by rw [<- kH,List.length_take];have:=List.length_filter_le (Er z) es;omega
 rw [kH] at fy
 have HFR:=H9 fy;have Jc:=H9 kH;clear fy kH
 have fw:=hF.formed;have Nc:=hF.ok
 have fv:=H9 zu.all
 refine wp_skip (Zt a8 fun _ a8=> ?_)
 have bB:=hf.B7 40 41 42 39 43 44 11
 iterate 2 refine Zy ?_
 refine Zc (yF w2 Q init es.length s.size sv hQ ss z o8 oM Nc fw y8i D7 oM) ?_;rintro e wi ⟨rfl,yP⟩
 rw [HG.out]
 simp only [eval]
 replace Q9:=(Q9.below yP).more yP.size
 replace l6:=l6.trans (yP.mono l6.size)
 replace hQ:=(yP.block _ (j5 hQ)).trans hQ
 replace o8:=o8.later yP
 clear yP
 refine Zv ?_
 iterate 6 refine Zy ?_
 refine Fc.nil (Z1 0 1 2 7 9 11 12 hf ?_)
 intro a7 hf sS
 generalize hWI:wi.alloc (.cells #[.string fe.word,.int .u32 fe.weight,.bool fe.gone] 64)=WI
 obtain ⟨Kf,x0,x1,x2, -, -⟩:=E7 hWI
 clear hWI
 replace Q9:=(Q9.below Kf).more Kf.size
 replace l6:=l6.trans (Kf.mono l6.size)
 replace hQ:=(Kf.block _ (j5 hQ)).trans hQ
 replace o8:=o8.later Kf
 clear Kf
 refine Zt a8 fun _ a8=> ?_
 have bB:=hf.B7 46 47 48 45 49 50 13
 iterate 2 refine Zy ?_
 refine Zc (bu WI es _ _ nR Q9 oM z) ?_;rintro e wj ⟨rfl,KV⟩
 rw [HFE.out,HIZ.out]
 simp only [eval]
 replace Q9:=(Q9.below KV).more KV.size
 replace l6:=l6.trans (KV.mono l6.size)
 replace hQ:=(KV.block _ (j5 hQ)).trans hQ
 replace o8:=o8.later KV
 replace x0:=cL KV x0;replace x1:=cL KV x1;replace x2:=cL KV x2
 clear KV
 refine Zv ?_
 iterate 6 refine Zy ?_
 refine Fc.nil (tZ 0 1 2 7 9 11 12 13 14 hf ?_)
 intro a7 hf sS
 generalize hWJ:wj.alloc (.cells #[.string fe.word,.int .u32 fe.weight,.bool fe.gone] 64)=WJ
 obtain ⟨yU,y0,y1,y2, -, -⟩:=E7 hWJ
 clear hWJ
 replace Q9:=(Q9.below yU).more yU.size
 replace l6:=l6.trans (yU.mono l6.size)
 replace hQ:=(yU.block _ (j5 hQ)).trans hQ
 replace o8:=o8.later yU
 replace x0:=cL yU x0;replace x1:=cL yU x1;replace x2:=cL yU x2
 clear yU
 refine Zx a8 ?_
 have q1:((es.length:Int)==(es.length:Int))=true:=beq_self_eq_true _
 have q2:((s.size:Int)==(s.size:Int))=true:=beq_self_eq_true _
 have q3:(iz==iz)=true:=beq_self_eq_true _
 refine Ze fun _ a8=> ?_
 have qs:=And.intro q1 (And.intro q2 q3)
 refine rg ?_
 have bB:=And.intro (hf.eW 51 52 53 54 55 56 57 58 59 60) (And.intro (hf.eW 61 62 63 64 65 66 67 68 69 70) (And.intro (hf.eW 71 72 73 74 75 76 77 78 79 80) (hf.B9 81 82 83 84 85 86 87 88 89)))
 refine Zy ?_
 refine Zc (NH WJ Q sv init es.length s.size hQ) ?_;rintro e w5 ⟨rfl,F3⟩
 replace Q9:=(Q9.below F3).more F3.size
 replace l6:=l6.trans (F3.mono l6.size)
 replace hQ:=(F3.block _ (j5 hQ)).trans hQ
 replace o8:=o8.later F3
 replace x0:=cL F3 x0
 replace x1:=cL F3 x1
 replace x2:=cL F3 x2
 replace y0:=cL F3 y0
 replace y1:=cL F3 y1
 replace y2:=cL F3 y2
 clear F3
 refine Zv ?_
 iterate 5 refine Zy ?_
 refine Zd (Zp w5 Q sv init es.length s.size hQ) ?_;rintro e w6 ⟨rfl,C4⟩
 replace Q9:=(Q9.below C4).more C4.size
 replace l6:=l6.trans (C4.mono l6.size)
 replace hQ:=(C4.block _ (j5 hQ)).trans hQ
 replace o8:=o8.later C4
 replace x0:=cL C4 x0
 replace x1:=cL C4 x1
 replace x2:=cL C4 x2
 replace y0:=cL C4 y0
 replace y1:=cL C4 y1
 replace y2:=cL C4 y2
 clear C4
 refine Zv ?_
 iterate 6 refine Zy ?_
 refine Zd (tv w6 sv init ss Q es.length s.size hQ o8 D7 oM oM Nc fw) ?_;rintro e w7 ⟨vB,rfl,CL,B1⟩
 rw [fv.out] at CL
 have Uk:=OE.re (es:=es) CL
 clear CL
 replace Q9:=(Q9.below B1).more B1.size
 replace l6:=l6.trans (B1.mono l6.size)
 replace hQ:=(B1.block _ (j5 hQ)).trans hQ
 replace o8:=o8.later B1
 replace x0:=cL B1 x0
 replace x1:=cL B1 x1
 replace x2:=cL B1 x2
 replace y0:=cL B1 y0
 replace y1:=cL B1 y1
 replace y2:=cL B1 y2
 clear B1
 refine Zv ?_
 refine Zy ?_
 refine Zd (NT w7 es es _ _ vB _ nR nR Uk Q9 oM oM) ?_;rintro e w8 ⟨rfl,aA⟩
 rw [decide_eq_true rfl]
 clear Uk
 replace Q9:=(Q9.below aA).more aA.size
 replace l6:=l6.trans (aA.mono l6.size)
 replace hQ:=(aA.block _ (j5 hQ)).trans hQ
 replace o8:=o8.later aA
 replace x0:=cL aA x0
 replace x1:=cL aA x1
 replace x2:=cL aA x2
 replace y0:=cL aA y0
 replace y1:=cL aA y1
 replace y2:=cL aA y2
 clear aA
 refine Zv ?_
 iterate 5 refine Zy ?_
 refine Zd (Ge w8 sv init ss Q es.length s.size hQ z n o8 oM D7 oM oM Nc fw) ?_;rintro e w9 ⟨vF,rfl,yV,dN⟩
 rw [HFR.out] at yV
 have Um:=OE.re (es:=fs) yV
 clear yV
 replace Q9:=(Q9.below dN).more dN.size
 replace l6:=l6.trans (dN.mono l6.size)
 replace hQ:=(dN.block _ (j5 hQ)).trans hQ
 replace o8:=o8.later dN
 replace x0:=cL dN x0
 replace x1:=cL dN x1
 replace x2:=cL dN x2
 replace y0:=cL dN y0
 replace y1:=cL dN y1
 replace y2:=cL dN y2
 clear dN
 refine Zv ?_
 iterate 3 refine Zy ?_
 refine Zd (Un w9 es _ _ nR Q9 oM z n) ?_;rintro e Kg ⟨vH,rfl,fu,R7⟩
 rw [Jc.out] at fu
 have zs:=OE.re (es:=fs) fu
 replace Um:=(Um.below R7).more R7.size
 clear fu
 replace Q9:=(Q9.below R7).more R7.size
 replace l6:=l6.trans (R7.mono l6.size)
 replace hQ:=(R7.block _ (j5 hQ)).trans hQ
 replace o8:=o8.later R7
 replace x0:=cL R7 x0
 replace x1:=cL R7 x1
 replace x2:=cL R7 x2
 replace y0:=cL R7 y0
 replace y1:=cL R7 y1
 replace y2:=cL R7 y2
 clear R7
 refine Zv ?_
 refine Zd (NT Kg fs fs _ _ vF vH nR nR Um zs oM oM) ?_;rintro e w11 ⟨rfl,bY⟩
 rw [decide_eq_true rfl]
 clear Um zs
 replace Q9:=(Q9.below bY).more bY.size
 replace l6:=l6.trans (bY.mono l6.size)
 replace hQ:=(bY.block _ (j5 hQ)).trans hQ
 replace o8:=o8.later bY
 replace x0:=cL bY x0
 replace x1:=cL bY x1
 replace x2:=cL bY x2
 replace y0:=cL bY y0
 replace y1:=cL bY y1
 replace y2:=cL bY y2
 clear bY
 refine Zv ?_
 iterate 12 refine Zy ?_
 refine Fc.nil (p5 6 hf ?_)
 clear hf sS bB qs;intro a7 hf s6
 refine Zx a8 (k8 ?_)
 exact Fc.o6 rfl hf s6 ⟨rfl,l6⟩
theorem Ph (w:World) (s:ByteArray) (C8:s.size<=900000000) (z:ByteArray) (MT:z.size<=1000000) (n:Nat) (pQ:1<=n) (iW:n<=1000000) (J4:∀ en init ss,N9 s= .ok (en,init,ss)->Sk ss/\(q7 ss init).length<=5000):E2 w 18 #[.string s,.string z,.int .i64 n] (.bool true):=by
 cases hp:N9 s with
 | error b=>exact Pe w s C8 z MT n pQ iW b hp
 | ok x =>
  obtain ⟨en,init,ss⟩:=x
  obtain ⟨hF,N6⟩:=J4 _ _ _ hp
  obtain ⟨-, -,D7, -, -⟩:=vR C8 hp
  cases hr:rightS en ss init with
  | false=>exact Pf w s C8 z MT n pQ iW en init ss hp hF N6 D7 hr
  | true=>exact Pg w s C8 z MT n pQ iW en init ss hp hF N6 D7 hr
theorem RE.lit {w W:World} {A:Array Value} {t:TypeId} (h:w.alloc (.cells A t)=W) (l:List G9) (hA:A.toList=GQ l):Below w.heap.size w W/\RE W W.heap.size (.slice (some ⟨w.heap.size,0,none⟩) l.length l.length) l:=by
 obtain ⟨h1,h2,h3⟩:=Kh h
 exact ⟨h1,_,_,rfl,nR,fun _=>⟨_,_,rfl,oM,fun j u hu=>h2 j u (by rw [hA];exact hu)⟩⟩
def Xm:List G9:=[⟨⟨#[97]⟩,1,false⟩,⟨⟨#[98]⟩,0,true⟩]
def wkI:Nat:=(buildF Xm).init
def wkS:List State:=(buildF Xm).Y2
theorem Pj (en:Int) (h:(X2 en wkS)=true):(putR en wkI wkS).2=0:=by unfold putR;rw [if_pos h]
theorem CM:∀ s∈wkS,L3 s:=Up _ kR
theorem Uq:makeV Xm=(bl (putR 2 wkI wkS).1,0):=by
 unfold makeV
 rw [if_neg dC,if_neg (by rw [show aP Xm=0 by kernel_rfl];simp)]
 exact Prod.ext rfl (Pj 2 kR)
theorem Es (en:Nat) (h:X2 en wkS=true):N9 (bl (putR en wkI wkS).1)= .ok (en,wkI,wkS):=by
 have:=CN (en:=(en:Int)) (init:=wkI) h CM (Nat.le_of_ble_eq_true kR) (Nat.le_of_ble_eq_true kR)
 simpa using this
theorem nA:∀ (k:Nat) (st:State),wkS[k]? =some st->okArcs k (-1) st.j4=true:=fun k st hk=>T1 (show D4 wkS=true by kernel_rfl) hk
theorem Ki:rightS 2 wkS wkI=true:=kR
theorem Kj:rightS 3 wkS wkI=false:=kR
theorem y8f:getV wkI wkS ⟨#[97]⟩=(⟨⟨#[97]⟩,1,false⟩,true):=kR
theorem y8e:getV wkI wkS ⟨#[98]⟩=(⟨⟨#[98]⟩,0,true⟩,true):=kR
theorem y8d:getV wkI wkS ⟨#[99]⟩=(⟨⟨#[]⟩,0,false⟩,false):=kR
theorem Pk:makeV [⟨⟨#[98]⟩,1,false⟩,⟨⟨#[97]⟩,1,false⟩]=(⟨#[]⟩,15):=kR
theorem fk:makeV []=(⟨#[]⟩,2):=kR
theorem Ur:openV ⟨#[]⟩=false:=kR
theorem Us (en:Nat) (h:X2 en wkS=true) (h2:(putR en wkI wkS).1.length<=1000):(bl (putR en wkI wkS).1).size<=900000000:=by
 rw [N7];omega
theorem fj:∀ e∈Xm,GR e:=by
 intro e he
 simp only [Xm,List.mem_cons,List.not_mem_nil,or_false] at he
 rcases he with rfl | rfl<;>(unfold GR;decide)
theorem sB:wkS.length<=100000:=Nat.le_of_ble_eq_true kR
theorem Et:0<wkS.length:=Nat.lt_of_lt_of_le (Nat.zero_lt_one) (Nat.le_of_ble_eq_true kR)
theorem lE:wkI<18446744073709551616:=Nat.le_of_ble_eq_true kR
theorem Pm:(buildF Xm).init<18446744073709551616:=lE
theorem Pn:(buildF []).init<18446744073709551616:=Nat.le_of_ble_eq_true kR
theorem fi:∀ s∈wkS,s.j4.length<=1000:=Ut _ kR
theorem Xn (en:Nat) (h:X2 en wkS=true) (h2:Nat.ble (putR en wkI wkS).1.length 1000=true):(bl (putR en wkI wkS).1).size<=900000000:=Us en h (Nat.le_of_ble_eq_true h2)
theorem Hc (en:Nat) (h:X2 en wkS=true):∀ en2 init ss,N9 (bl (putR en wkI wkS).1)= .ok (en2,init,ss)->ss.length<=1000000:=by
 intro en2 init ss h2
 rw [Es en h] at h2
 cases h2
 exact Nat.le_trans sB oM
theorem Uu {w w1:World} {e:Ending} {s:ByteArray} (hs:bl (putR 2 wkI wkS).1=s) (h:kL w w1 e s):∃ S sv,e= .returned (.tuple #[.pointer (some ⟨S,0,none⟩),.int .i64 0])/\w1.heap[S]? =some (.cells #[sv,.int .u64 wkI,.int .i64 (2:Nat),.int .i64 s.size] 98 (0,0))/\RS w1 sv wkS/\Below w.heap.size w w1:=by
 subst hs
 unfold kL at h
 have hg:=Es 2 kR
 rw [show ((2:Nat):Int)=2 from rfl] at hg
 rw [hg] at h
 simp only at h
 rw [show rightS ((2:Nat):Int) wkS wkI=true from Ki] at h
 obtain ⟨S,sv,h1,_,h2,h3,h4⟩:=h
 exact ⟨S,sv,h1,h2,h3,h4⟩
theorem fh:openV (bl (putR 3 wkI wkS).1)=false:=by
 unfold openV
 have hg:=Es 3 kR
 rw [show ((3:Nat):Int)=3 from rfl] at hg
 rw [hg]
 exact Kj
attribute [local irreducible] wkI wkS putR makeV getV openV buildF rightS
theorem ff (w:World)  : E2 w 8 #[] (.bool true):=by
 refine Zn0 113 Tryz.func8 fun fr hf=> ?_
 have l6:=Below.refl w.heap.size w
 refine Ze fun _ a8=>Zr [] hf ?_
 refine Dq hf ?_
 clear hf;intro a7 hf
 refine Zt a8 fun _ a8=> ?_
 have bB:=hf.B7 18 19 20 21 17 22 23
 iterate 2 refine Zy ?_
 refine fp fun K Z=> ?_
 go_simp
 generalize sy:World.alloc w (.cells #[.string ⟨#[97]⟩,.int .u32 1,.bool false,.string ⟨#[98]⟩,.int .u32 0,.bool true] 64)=V1
 obtain ⟨bV1,x20⟩:=RE.lit sy [⟨⟨#[97]⟩,1,false⟩,⟨⟨#[98]⟩,0,true⟩] rfl
 replace l6:=l6.trans (bV1.mono l6.size)
 clear sy
 apply Z.out;clear Z K
 refine Zc (NK V1 Xm V1.heap.size _ nR x20 dC fj Pm) ?_;rintro e w1 ⟨rfl,p6⟩
 rw [Uq]
 generalize hSA:bl (putR 2 wkI wkS).1=SA
 have Np:=H9 hSA;clear hSA
 replace l6:=l6.trans (p6.mono l6.size)
 replace x20:=(x20.below p6).any
 dsimp only
 refine Zv ?_
 iterate 5 refine Zy ?_
 refine Fc.nil (y4 1 2 hf ?_)
 clear hf bB;intro a7 hf sS
 refine Zt a8 fun _ a8=> ?_
 have bB:=hf.B5 25 26 24 27 28
 refine Zy ?_
 refine Zc (rB w1 SA (by rw [<- Np.out];exact Xn 2 kR kR) (by rw [<- Np.out];exact Hc 2 kR)) ?_;rintro e w2 X4
 obtain ⟨S,sv,rfl,hS,o8,r8⟩:=Uu Np.out X4
 replace l6:=l6.trans (r8.mono l6.size)
 clear r8
 refine Zv ?_
 iterate 5 refine Zy ?_
 refine Fc.nil (y7 2 3 4 hf ?_)
 intro a7 hf sS
 refine Zs a8 fun _ a8=>Ze fun _ j8=>Zr [29,30,31,32,33,34,35,36,37] hf ?_
 refine y4 3 38 hf ?_
 intro a7 hf sS
 refine Zx j8 (Fc.k9 sS.2 ?_)
 refine wp_skip (Zt a8 fun _ a8=> ?_)
 have bB:=hf.B6 40 41 39 42 43 5
 refine Zy ?_
 refine Zc (yF w2 S wkI 2 SA.size sv hS wkS ⟨#[97]⟩ o8 (Nat.le_trans sB oM) CM nA Et lE dC) ?_;rintro e w5 ⟨rfl,F3⟩
 rw [y8f]
 simp only [eval]
 replace l6:=l6.trans (F3.mono l6.size)
 replace hS:=(F3.block _ (j5 hS)).trans hS
 replace o8:=o8.later F3
 clear F3
 refine Zv ?_
 iterate 6 refine Zy ?_
 refine Fc.nil (y7 3 5 6 hf ?_)
 intro a7 hf sS
 generalize zr:w5.alloc (.cells #[.string ⟨#[97]⟩,.int .u32 1,.bool false] 64)=V5x
 obtain ⟨Hd,e5,f5,g5, -, -⟩:=E7 zr
 clear zr
 replace l6:=l6.trans (Hd.mono l6.size)
 replace hS:=(Hd.block _ (j5 hS)).trans hS
 replace o8:=o8.later Hd
 clear Hd
 refine Zt a8 fun _ a8=> ?_
 have bB:=hf.B6 45 46 44 47 48 7
 refine Zy ?_
 refine Zc (yF V5x S wkI 2 SA.size sv hS wkS ⟨#[98]⟩ o8 (Nat.le_trans sB oM) CM nA Et lE dC) ?_;rintro e w6 ⟨rfl,C4⟩
 rw [y8e]
 simp only [eval]
 replace l6:=l6.trans (C4.mono l6.size)
 replace hS:=(C4.block _ (j5 hS)).trans hS
 replace o8:=o8.later C4
 replace f5:=cL C4 f5
 replace g5:=cL C4 g5
 clear C4
 refine Zv ?_
 iterate 6 refine Zy ?_
 refine Fc.nil (D2 3 5 6 7 8 hf ?_)
 intro a7 hf sS
 generalize zq:w6.alloc (.cells #[.string ⟨#[98]⟩,.int .u32 0,.bool true] 64)=V6x
 obtain ⟨wH,e6,f6,g6, -, -⟩:=E7 zq
 clear zq
 replace l6:=l6.trans (wH.mono l6.size)
 replace hS:=(wH.block _ (j5 hS)).trans hS
 replace o8:=o8.later wH
 replace f5:=cL wH f5
 replace g5:=cL wH g5
 clear wH
 refine Zt a8 fun _ a8=> ?_
 have bB:=hf.B6 50 51 49 52 53 9
 refine Zy ?_
 refine Zc (yF V6x S wkI 2 SA.size sv hS wkS ⟨#[99]⟩ o8 (Nat.le_trans sB oM) CM nA Et lE dC) ?_;rintro e w7 ⟨rfl,B1⟩
 rw [y8d]
 simp only [eval]
 replace l6:=l6.trans (B1.mono l6.size)
 replace hS:=(B1.block _ (j5 hS)).trans hS
 replace o8:=o8.later B1
 replace f5:=cL B1 f5
 replace g5:=cL B1 g5
 replace f6:=cL B1 f6
 replace g6:=cL B1 g6
 clear B1
 refine Zv ?_
 iterate 6 refine Zy ?_
 refine Fc.nil (F1 3 5 6 7 8 10 hf ?_)
 intro a7 hf sS
 generalize zp:w7.alloc (.cells #[.string ⟨#[]⟩,.int .u32 0,.bool false] 64)=V7x
 obtain ⟨oF,e7,f7,g7, -, -⟩:=E7 zp
 clear zp
 replace l6:=l6.trans (oF.mono l6.size)
 replace hS:=(oF.block _ (j5 hS)).trans hS
 replace o8:=o8.later oF
 replace f5:=cL oF f5
 replace g5:=cL oF g5
 replace f6:=cL oF f6
 replace g6:=cL oF g6
 clear oF
 refine Zt a8 fun _ a8=> ?_
 have bB:=hf.B4 55 54 56 57
 refine Zc (NK V7x [] V7x.heap.size _ nR (OE.T7 V7x 0).re dC (fun _ h=>absurd h sP) Pn) ?_;rintro e w8 ⟨rfl,aA⟩
 rw [fk]
 replace l6:=l6.trans (aA.mono l6.size)
 replace hS:=(aA.block _ (j5 hS)).trans hS
 replace o8:=o8.later aA
 replace f5:=cL aA f5
 replace g5:=cL aA g5
 replace f6:=cL aA f6
 replace g6:=cL aA g6
 replace f7:=cL aA f7
 replace g7:=cL aA g7
 dsimp only
 refine Zv ?_
 iterate 5 refine Zy ?_
 refine Fc.nil (Z1 3 5 6 7 8 10 12 hf ?_)
 intro a7 hf sS
 refine Zt a8 fun _ a8=> ?_
 have bB:=hf.B7 59 60 61 62 58 63 64
 iterate 2 refine Zy ?_
 refine fp fun K Z=> ?_
 go_simp
 generalize Wr:World.alloc w8 (.cells #[.string ⟨#[98]⟩,.int .u32 1,.bool false,.string ⟨#[97]⟩,.int .u32 1,.bool false] 64)=V2
 obtain ⟨Uv,x61⟩:=RE.lit Wr [⟨⟨#[98]⟩,1,false⟩,⟨⟨#[97]⟩,1,false⟩] rfl
 replace l6:=l6.trans (Uv.mono l6.size)
 replace hS:=(Uv.block _ (j5 hS)).trans hS
 replace o8:=o8.later Uv
 replace f5:=cL Uv f5
 replace g5:=cL Uv g5
 replace f6:=cL Uv f6
 replace g6:=cL Uv g6
 replace f7:=cL Uv f7
 replace g7:=cL Uv g7
 clear Wr
 apply Z.out;clear Z K
 refine Zc (NK V2 [⟨⟨#[98]⟩,1,false⟩,⟨⟨#[97]⟩,1,false⟩] V2.heap.size _ nR x61 dC (fun e he=>by simp only [List.mem_cons,List.not_mem_nil,or_false] at he;rcases he with rfl | rfl<;>(unfold GR;decide)) (Nat.le_of_ble_eq_true kR)) ?_;rintro e w9 ⟨rfl,dN⟩
 rw [Pk]
 replace l6:=l6.trans (dN.mono l6.size)
 replace hS:=(dN.block _ (j5 hS)).trans hS
 replace o8:=o8.later dN
 replace f5:=cL dN f5
 replace g5:=cL dN g5
 replace f6:=cL dN f6
 replace g6:=cL dN g6
 replace f7:=cL dN f7
 replace g7:=cL dN g7
 replace x61:=(x61.below dN).any
 dsimp only
 refine Zv ?_
 iterate 5 refine Zy ?_
 refine Fc.nil (mF 3 5 6 7 8 10 12 14 hf ?_)
 intro a7 hf sS
 refine Zx a8 ?_
 obtain ⟨Ay,ny,rfl,hny⟩:=o8.form
 refine Ze fun _ a8=>rg ?_
 have bB:=hf.B6 66 67 68 65 69 70
 refine Zy ?_
 refine Zc (tw w9 S (.slice Ay wkS.length ny) wkI 2 SA.size hS ⟨_,_,_,rfl⟩) ?_;rintro e Kg ⟨rfl,R7⟩
 replace l6:=l6.trans (R7.mono l6.size)
 replace hS:=(R7.block _ (j5 hS)).trans hS
 replace o8:=o8.later R7
 replace f5:=cL R7 f5
 replace g5:=cL R7 g5
 replace f6:=cL R7 f6
 replace g6:=cL R7 g6
 replace f7:=cL R7 f7
 replace g7:=cL R7 g7
 refine Zv ?_
 refine Zc (NJ Kg 3 (.slice Ay wkS.length ny) wkI wkS o8 CM sB fi lE) ?_;rintro e w11 ⟨rfl,bY⟩
 rw [Pj 3 kR]
 generalize hSB:bl (putR 3 wkI wkS).1=SB
 have HSB:=H9 hSB;clear hSB
 replace l6:=l6.trans (bY.mono l6.size)
 replace hS:=(bY.block _ (j5 hS)).trans hS
 replace o8:=o8.later bY
 replace f5:=cL bY f5
 replace g5:=cL bY g5
 replace f6:=cL bY f6
 replace g6:=cL bY g6
 replace f7:=cL bY f7
 replace g7:=cL bY g7
 refine Zv ?_
 iterate 5 refine Zy ?_
 refine Fc.nil (tZ 3 5 6 7 8 10 12 14 15 hf ?_)
 intro a7 hf sS
 refine Zx a8 ?_
 have q1:decide (0<SB.size)=true:=decide_eq_true (by have:=HSB.out;rw [<- this,N7];exact Nat.lt_of_lt_of_le Nat.zero_lt_one (Nat.le_of_ble_eq_true kR))
 refine Ze fun _ a8=> ?_
 have qs:=q1
 refine rg ?_
 have bB:=And.intro (hf.eW 71 72 73 74 75 76 77 78 79 80) (And.intro (hf.eW 81 82 83 84 85 86 87 88 89 90) (And.intro (hf.eW 91 92 93 94 95 96 97 98 99 100) (And.intro (hf.eW 101 102 103 104 105 106 107 108 109 110) (hf.B2 111 112))))
 refine Zy ?_
 refine Zc (NH w11 S (.slice Ay wkS.length ny) wkI 2 SA.size hS) ?_;rintro e v1 ⟨rfl,AA⟩
 replace l6:=l6.trans (AA.mono l6.size)
 replace hS:=(AA.block _ (j5 hS)).trans hS
 replace o8:=o8.later AA
 replace f5:=cL AA f5
 replace g5:=cL AA g5
 replace f6:=cL AA f6
 replace g6:=cL AA g6
 replace f7:=cL AA f7
 replace g7:=cL AA g7
 refine Zv ?_
 iterate 29 refine Zy ?_
 refine Zd (vS v1 ⟨#[]⟩ dC (fun en init ss h=>by rw [show N9 ⟨#[]⟩= .error (16,0) by kernel_rfl] at h;cases h)) ?_;rintro e v31 ⟨rfl,yW⟩
 rw [Ur]
 replace l6:=l6.trans (yW.mono l6.size)
 replace hS:=(yW.block _ (j5 hS)).trans hS
 replace o8:=o8.later yW
 replace f5:=cL yW f5
 replace g5:=cL yW g5
 replace f6:=cL yW f6
 replace g6:=cL yW g6
 replace f7:=cL yW f7
 replace g7:=cL yW g7
 refine Zv ?_
 iterate 8 refine Zy ?_
 refine Zd (vS v31 SB (by rw [<- HSB.out];exact Xn 3 kR kR) (by rw [<- HSB.out];exact Hc 3 kR)) ?_;rintro e v40 ⟨rfl,yX⟩
 have Bm:openV SB=false:=by rw [<- HSB.out];exact fh
 rw [Bm]
 replace l6:=l6.trans (yX.mono l6.size)
 replace hS:=(yX.block _ (j5 hS)).trans hS
 replace o8:=o8.later yX
 replace f5:=cL yX f5
 replace g5:=cL yX g5
 replace f6:=cL yX f6
 replace g6:=cL yX g6
 replace f7:=cL yX f7
 replace g7:=cL yX g7
 refine Zv ?_
 iterate 2 refine Zy ?_
 refine Fc.nil (p5 0 hf ?_)
 clear hf sS bB qs;intro a7 hf s0
 refine Zx a8 (k8 ?_)
 exact Fc.o6 rfl hf s0 ⟨rfl,l6⟩
theorem Uw {ss:List State} (h:∀ s∈ss,s.out<18446744073709551616/\∀ a∈s.j4,uA a):Sk (rQ ss)/\∀ init,init<q9->(q7 (rQ ss) init).length<=4096:=by
 obtain ⟨h1,h2⟩:=UA h
 refine ⟨⟨oM,fun s hs=> ?_,fun s hs=> ?_,fun k st hk=>(h2 k st hk).2.2.2⟩,fun init D7=>KF D7 h1 (fun k st hk=>(h2 k st hk).2.2.2) (fun k st hk=>(h2 k st hk).2.1)⟩
 ·obtain ⟨k,hk⟩:=List.mem_iff_getElem?.1 hs
  exact (h2 k s hk).1
 ·obtain ⟨k,hk⟩:=List.mem_iff_getElem?.1 hs
  have:=(h2 k s hk).2.1
  omega
theorem Ux {en:Int} {init:Nat} {ss:List State} (h:Sk ss) (hi:init<18446744073709551616):((putR en init ss).2=0\/((putR en init ss).2=2/\bl (putR en init ss).1=⟨#[]⟩))/\(bl (putR en init ss).1).size<=900000000/\∀ n i s2,N9 (bl (putR en init ss).1)= .ok (n,i,s2)->i=init/\s2=ss:=by
 by_cases hm:X2 en ss=true
 ·have hp:=CN hm h.ok (by have:=h.len;omega) hi
  obtain ⟨h1,h2, -, -⟩:=pN hm
  refine ⟨.inl (by unfold putR;rw [if_pos hm]),?_,fun n i s2 h2=> ?_⟩
  ·have hb:=Jk (n:=en.toNat) (i:=init) h.ok (by have:=h.len;omega) oM (by rw [Int.toNat_of_nonneg h1];exact hm) hi
   rw [N7,show (putR en init ss).1=Crc.N8 (X7 en.toNat init ss) by unfold putR;rw [if_pos hm],Crc.T5]
   omega
  ·rw [hp] at h2;cases h2;exact ⟨rfl,rfl⟩
 ·have h0:putR en init ss=([],2):=by unfold putR;rw [if_neg hm]
  rw [h0]
  refine ⟨.inr ⟨rfl,EJ⟩,dC,fun n i s2 h2=> ?_⟩
  rw [show N9 (bl (([],2):List Nat×Nat).1)= .error (16,0) by kernel_rfl] at h2
  cases h2
theorem y7y (a b c:Value) (j:Nat) (w:World) (hj:j<3):(Instr.index 58 (.agg #[a,b,c]) (.int .i64 j)).run Tryz.prog w= .ok (if j=0 then a else if j=1 then b else c) w:=by
 rcases (by omega:j=0\/j=1\/j=2) with rfl | rfl | rfl
 ·simp [Instr.index,run_underlying Tryz.underlying58,asIntOf,go_sem]
 ·simp [Instr.index,run_underlying Tryz.underlying58,asIntOf,go_sem]
 ·simp [Instr.index,run_underlying Tryz.underlying58,asIntOf,go_sem]
theorem qt (w:World) (lv:Value) (lss:List State) (hrl:RS w lv lss) (Yq:∀ s∈lss,s.out<18446744073709551616/\∀ a∈s.j4,uA a) (first:Nat) (gJ:first<18446744073709551616) (n8:Int) (hn8: -128<=n8/\n8<=127):E2 w 5 #[lv,.int .u64 first,.int .i8 n8] (.bool true):=by
 refine dT 51 Tryz.func5 fun fr hf s0 s1 s2=> ?_
 obtain ⟨N6,hwf⟩:=Uw Yq
 have XE:=hwf first gJ
 clear hwf
 obtain ⟨nd,kH⟩:∃ x,rQ lss=x:=⟨_,rfl⟩
 rw [kH] at N6 XE
 have Jc:=H9 kH;clear kH
 refine Ze fun _ a8=>Zr [] hf ?_
 refine y7 0 1 2 hf ?_
 clear hf s0 s1 s2;intro a7 hf sS
 refine Zt a8 fun _ a8=> ?_
 have bB:=hf.B4 13 14 15 7
 iterate 2 refine Zy ?_
 refine Zc (UE w _ first lss hrl) ?_;rintro e w1 ⟨sv1,rfl,hr,p6⟩
 rw [Jc.out] at hr
 obtain ⟨A,cc,rfl,U0⟩:=hr.form
 refine Zv ?_
 iterate 2 refine Zy ?_
 refine Fc.nil (y4 2 7 hf ?_)
 intro a7 hf sS
 generalize P2:w1.alloc (.cells #[.slice A nd.length cc,.int .u64 first] 38)=W1
 obtain ⟨Ug, -, -,hp, -⟩:=P7 P2
 clear P2
 have l6:=p6.trans (Ug.mono p6.size)
 replace hr:=hr.later Ug
 clear p6 Ug
 refine Zx a8 ?_
 have c0:=n5 0 hp;have c1:=n5 1 hp
 simp at c0 c1
 refine Ze fun _ a8=>rg ?_
 have bB:=hf.B3 16 17 18
 refine Zy ?_
 refine Zc (pY W1 _ first nd hr N6 oM gJ) ?_;rintro e w2 ⟨v1,rfl,how,r8⟩
 obtain ⟨m,hm⟩:∃ x,(q7 nd first).length=x:=⟨_,rfl⟩
 obtain ⟨Aw,cw,rfl,hcw⟩:=how.form
 clear how
 rw [hm] at hcw XE |-
 have HM:=H9 hm
 replace hr:=hr.later r8
 replace hp:=(r8.block _ (j5 hp)).trans hp
 replace l6:=l6.trans (r8.mono l6.size)
 clear r8 c0 c1 hm
 refine Zv ?_
 iterate 2 refine Zy ?_
 refine Fc.nil (y7 2 7 8 hf ?_)
 intro a7 hf sS
 refine Zs a8 fun _ a8=>Ze fun _ j8=>rg ?_
 have bB:=hf.B5 19 20 21 22 23
 iterate 3 refine Zy ?_
 refine fp fun K Z=> ?_
 go_simp
 try rw [Fc.wrap_i64 oM oM]
 apply Z.out;clear Z K
 refine fp fun K Z=> ?_
 go_simp
 try simp (disch:=omega) only [Fc.W]
 try rw [Fc.wrap_i64 oM oM]
 apply Z.out;clear Z K
 iterate 2 refine Zy ?_
 refine Fc.nil (y7 7 24 25 hf ?_)
 intro a7 hf sS
 refine Zx j8 (wp_block (wp_loop_ghost (fun gk fr wr=>∃ (j:Nat),gk=3-j/\j<=3/\Fc.Fr 51 fr/\fr.tmps[7]? =some (.pointer (some ⟨w1.heap.size,0,none⟩))/\fr.tmps[24]? =some (.agg #[.int .i64 m,.int .i64 (m+n8),.int .i64 1])/\fr.tmps[25]? =some (.int .i64 j)/\Below w2.heap.size w2 wr) (3) ?_ ?_))
 . (
 obtain ⟨s7,dL,Z9⟩:=sS
 exact ⟨0,rfl,Nat.zero_le _,hf,s7,dL,Z9,Below.refl _ _⟩)
 . (
 clear hf sS
 rintro gk fr wr ⟨j,dA,hj,hf,s7,dL,Z9,hb⟩
 have HK:=H9 dA;clear dA
 replace l6:=l6.trans (hb.mono l6.size)
 replace hp:=(hb.block _ (j5 hp)).trans hp
 replace hr:=hr.later hb
 have c0:=n5 0 hp;have c1:=n5 1 hp
 simp at c0 c1
 refine Ze fun _ j8=>Zr [] hf ?_
 refine z8 7 24 25 26 hf ?_
 clear hf s7 dL Z9;intro a7 hf sS
 refine Zs j8 fun _ j8=>Fc.l0 sS.2.2.2 (fun hq=> ?_) (fun hq=> ?_)
 . (
 have o9:j<3:=qT
 clear hq
 obtain ⟨many,Uy⟩:∃ q:Int,(if j=0 then (.int .i64 m:Value) else if j=1 then .int .i64 (m+n8) else .int .i64 1)= .int .i64 q:=by split;exact ⟨_,rfl⟩;split;exact ⟨_,rfl⟩;exact ⟨_,rfl⟩
 have HMY:=H9 Uy;clear Uy
 refine wp_skip (Zs j8 fun _ j8=>wp_block (Ze fun _ l8=>rg ?_))
 have bB:=hf.b 27
 refine fp fun K Z=> ?_
 go_simp
 rw [y7y _ _ _ j wr o9,HMY.out]
 rw [Result.andThen_ok,Oper.upon_value]
 apply Z.out;clear Z K
 refine Zy ?_
 refine Fc.nil (z8 7 10 24 25 hf ?_)
 intro a7 hf sS
 refine Zt l8 fun _ l8=> ?_
 have bB:=hf.B6 29 30 31 28 32 33
 iterate 2 refine Zy ?_
 refine Zc (NJ wr many _ first nd hr N6.ok (by have:=N6.len;omega) (fun s hs=>Nat.le_trans (N6.Gg s hs) dC) gJ) ?_;rintro e w6 ⟨rfl,C4⟩
 obtain ⟨M9,C8,ET⟩:=Ux (en:=many) N6 gJ
 obtain ⟨S,hS⟩:∃ x,bl (putR many first nd).1=x:=⟨_,rfl⟩
 obtain ⟨cd,hcd⟩:∃ x,(putR many first nd).2=x:=⟨_,rfl⟩
 rw [hS,hcd] at M9
 rw [hS] at C8 ET
 rw [hS,hcd]
 have HGT:=H9 ET
 clear ET hS hcd
 replace hb:=hb.trans (C4.mono hb.size)
 replace l6:=l6.trans (C4.mono l6.size)
 clear C4 c0 c1
 refine Zv ?_
 iterate 5 refine Zy ?_
 refine Fc.nil (D2 7 11 12 24 25 hf ?_)
 intro a7 hf sS
 refine Zx l8 ?_
 rcases M9 with M9 | M9
 . (
 subst M9
 have q1:(((0:Nat):Int)==0)=true:=rfl
 have q2:(((0:Nat):Int) !=0)=false:=rfl
 refine Ze fun _ l8=> ?_
 have qs:=And.intro q1 q2
 refine rg ?_
 have bB:=And.intro (hf.eW 34 35 36 37 38 39 40 41 42 43) (hf.B4 44 45 46 47)
 iterate 4 refine Zy ?_
 refine Zd (Ph w6 S C8 ⟨#[97,98]⟩ dC 4 dC dC (fun en2 i2 s2 h=>by obtain ⟨h8,h9⟩:=HGT.out _ _ _ h;rw [h8,h9];exact ⟨N6,by rw [HM.out];omega⟩)) ?_;rintro e w7 ⟨rfl,B1⟩
 replace hb:=hb.trans (B1.mono hb.size)
 replace l6:=l6.trans (B1.mono l6.size)
 refine Zv ?_
 iterate 10 refine Zy ?_
 refine Fc.nil (z8 7 24 25 48 hf ?_)
 clear hf sS bB qs;intro a7 hf sS
 refine Zx l8 (Fc.k9 sS.2.2.2 ?_)
 clear q1 q2
 refine wp_skip (Fc.j9 (Zx j8 (Zr [49] hf ?_)))
 refine y7 7 24 25 hf ?_
 intro a7 hf sS
 refine Fc.j7 ?_
 obtain ⟨s7,dL,Z9⟩:=sS
 exact ⟨_,by have:=HK.out;omega,j+1,rfl,oM,hf,s7,dL,by rw [Z9];rfl,hb⟩)
 . (
 obtain ⟨rfl,rfl⟩:=M9
 have q1:(((2:Nat):Int)==0)=false:=rfl
 have q2:(((2:Nat):Int) !=0)=true:=rfl
 have q3:((⟨#[]⟩:ByteArray).toList !=(⟨#[]⟩:ByteArray).toList)=false:=bne_self_eq_false _
 refine Ze fun _ l8=> ?_
 have qs:=And.intro q1 (And.intro q2 q3)
 refine rg ?_
 have bB:=And.intro (hf.eW 34 35 36 37 38 39 40 41 42 43) (hf.B4 44 45 46 47)
 iterate 15 refine Zy ?_
 refine Fc.nil (z8 7 24 25 48 hf ?_)
 clear hf sS bB qs;intro a7 hf sS
 refine Zx l8 (Fc.k9 sS.2.2.2 ?_)
 clear q1 q2 q3
 refine wp_skip (Fc.j9 (Zx j8 (Zr [49] hf ?_)))
 refine y7 7 24 25 hf ?_
 intro a7 hf sS
 refine Fc.j7 ?_
 obtain ⟨s7,dL,Z9⟩:=sS
 exact ⟨_,by have:=HK.out;omega,j+1,rfl,oM,hf,s7,dL,by rw [Z9];rfl,hb⟩))
 . (
 clear hq HK
 refine Zo ?_
 refine Zt a8 fun _ a8=> ?_
 have bB:=hf.b 50
 refine Zc (ff wr) ?_;rintro e wz ⟨rfl,N0⟩
 refine Zv ?_
 refine Zy ?_
 refine Fc.nil (p5 6 hf ?_)
 intro a7 hf s6
 refine Zx a8 (k8 ?_)
 exact Fc.o6 rfl hf s6 ⟨rfl,l6.trans (N0.mono l6.size)⟩))
open Go.ChangeShapes Go.WideShapes Go.ChangeAt Go.Deep
set_option maxRecDepth 100000
section
variable {H:Type} {enc:TypeId×Value->H} {W:World}
end
open Go.ChangeShapes Go.WideShapes Go.ChangeAt Go.Deep
set_option maxRecDepth 100000
theorem Kk:Tryz.prog.cellsOf 71=3:=kR
theorem yY:Tryz.prog.cellsOf 47=3:=kR
def gz (s:State):Prop:=s.out<18446744073709551616/\∀ a∈s.j4,uA a
section
variable {H:Type} {enc:TypeId×Value->H} {W:World}
theorem Km {fuel:Nat} {v:Value} {x:DataW H×List MemPlace} (h:DataW.trod enc Tryz.prog W 0 (fun _=>true) true fuel 44 [v]=some x) :
  ∃ l:List u3,RA W (fun _=>True) v l/\∀ a∈l,uA a:=by
 rcases open_slice Tryz.underlying44 h with ⟨cB, -⟩ | ⟨a,len,cap,m,n,D,Pl,cB,_,hl,hm,tY, -,hi⟩
 ·injection cB with cB
  exact ⟨[],by rw [cB];exact RA.T7,sP⟩
 ·injection cB with cB
  simp only [if_true] at tY
  subst tY
  have key:∀ i,i<len->∃ d:u3,uA d/\W.cell? (a.add (i*3))=some (.int .u8 d.byte)/\W.cell? (a.add (i*3+1))=some (.int .u64 d.out)/\W.cell? (a.add (i*3+2))=some (.int .i64 d.to):=by
   intro i W8
   obtain ⟨cs',hc,ht'⟩:=hi i oM
   rw [Kk] at hc
   obtain ⟨ys,n',hn',hy,hlen,hyl,hf⟩:=DataW.trod_struct Tryz.underlying71 ht'
   obtain ⟨_,R8,C7⟩:=World.cells?_some hc
   match cs',R8 with
   | [u0,u1,u2],_ =>
    have k0:=C7 0 oM
    have k1:=C7 1 oM
    have k2:=C7 2 oM
    have f0:=hf 0 _ rfl
    have f1:=hf 1 _ rfl
    have f2:=hf 2 _ rfl
    have g0:DataW.trod enc Tryz.prog W 0 (fun _=>true) true n' 5 [u0]=ys[0]? :=f0
    have g1:DataW.trod enc Tryz.prog W 0 (fun _=>true) true n' 35 [u1]=ys[1]? :=f1
    have g2:DataW.trod enc Tryz.prog W 0 (fun _=>true) true n' 3 [u2]=ys[2]? :=f2
    have y3:ys.length=3:=hyl
    rw [F8 oM] at g0 g1 g2
    obtain ⟨z0,fG, -,XE⟩:=DataW.trod_int Tryz.underlying5 g0
    obtain ⟨z1,jT, -,Eu⟩:=DataW.trod_int Tryz.underlying35 g1
    obtain ⟨z2,X0, -,EU⟩:=DataW.trod_int Tryz.underlying3 g2
    injection fG with fG
    injection jT with jT
    injection X0 with X0
    subst fG
    subst jT
    subst X0
    rw [Go.Deep.add_add] at k0 k1 k2
    have b0:=bounds_u8 XE
    have b1:=bounds_u64 Eu
    have b2:=bounds_i64 EU
    obtain ⟨n0,rfl⟩:∃ n0:Nat,z0=(n0:Int):=⟨z0.toNat,oM⟩
    obtain ⟨n1,rfl⟩:∃ n1:Nat,z1=(n1:Int):=⟨z1.toNat,oM⟩
    exact ⟨⟨n0,n1,z2⟩,⟨sQ,sQ,sQ,sQ⟩,k0,k1,k2⟩
  obtain ⟨F,hF⟩:=choose_lt (α:=Option u3) (p:=fun i o=>∃ d,o=some d/\uA d/\W.cell? (a.add (i*3))=some (.int .u8 d.byte)/\W.cell? (a.add (i*3+1))=some (.int .u64 d.out)/\W.cell? (a.add (i*3+2))=some (.int .i64 d.to))
   (fun i hi=>by obtain ⟨d,hd⟩:=key i hi;exact ⟨some d,d,rfl,hd⟩)
  have hlen:((List.range len).map fun i=>(F i).getD ⟨0,0,0⟩).length=len:=sP
  have jB:∀ (i:Nat) (d:u3),((List.range len).map fun i=>(F i).getD ⟨0,0,0⟩)[i]? =some d->i<len/\F i=some d:=fun i d hd=>by
   have W8:i<len:=by have:=(H2 hd).1;simpa using this
   obtain ⟨d',e,_⟩:=hF i W8
   rw [List.getElem?_map,List.getElem?_range W8] at hd
   simp only [Option.map_some,e,Option.getD_some,Option.some.injEq] at hd
   exact ⟨W8,by rw [e,hd]⟩
  refine ⟨(List.range len).map fun i=>(F i).getD ⟨0,0,0⟩,⟨some a,m,by rw [hlen];exact cB,by rw [hlen];exact hl,fun h0=> ?_⟩,fun d hd=> ?_⟩
  ·rw [hlen] at h0
   obtain ⟨ab,ao,spot⟩:=a
   obtain ⟨d0, -, -,q0, -⟩:=hF 0 h0
   have Pp:spot=none:=by simpa [Addr.add] using World.cell?_spot q0
   subst Pp
   refine ⟨ab,ao,rfl,trivial,fun j u hu=> ?_⟩
   have hj:=(H2 hu).1
   rw [Y3,hlen] at hj
   obtain ⟨d,hd⟩:∃ d,((List.range len).map fun i=>(F i).getD ⟨0,0,0⟩)[j / 3]? =some d:=⟨_,F8 (by rw [hlen];omega)⟩
   obtain ⟨W8,gy⟩:=jB (j / 3) d hd
   obtain ⟨d',e, -,k0,k1,k2⟩:=hF (j / 3) W8
   obtain rfl:d=d':=Option.some.inj (gy.symm.trans e)
   have hg:=kB ((List.range len).map fun i=>(F i).getD ⟨0,0,0⟩) (j / 3) (j%3) (by rw [hlen];omega) oM
   rw [show j / 3*3+j%3=j by omega,(H2 hd).2] at hg
   rw [hg] at hu
   rw [Addr.add_lit] at k0 k1 k2
   rcases (show j%3=0\/j%3=1\/j%3=2 by omega) with h3 | h3 | h3
   ·rw [h3] at hu
    rw [show ao+j=ao+j / 3*3 by omega,k0]
    exact hu
   ·rw [h3] at hu
    rw [show ao+j=ao+(j / 3*3+1) by omega,k1]
    exact hu
   ·rw [h3] at hu
    rw [show ao+j=ao+(j / 3*3+2) by omega,k2]
    exact hu
  ·obtain ⟨i,ND⟩:=List.mem_iff_getElem?.1 hd
   obtain ⟨W8,gy⟩:=jB i d ND
   obtain ⟨d',e,a6, -⟩:=hF i W8
   obtain rfl:d=d':=Option.some.inj (gy.symm.trans e)
   exact a6
theorem xF {fuel:Nat} {v:Value} {x:DataW H×List MemPlace} (h:DataW.trod enc Tryz.prog W 0 (fun _=>true) true fuel 34 [v]=some x) :
  ∃ ss:List State,RS W v ss/\∀ s∈ss,gz s:=by
 rcases open_slice Tryz.underlying34 h with ⟨cB, -⟩ | ⟨a,len,cap,m,n,D,Pl,cB,_,hl,hm,tY, -,hi⟩
 ·injection cB with cB
  exact ⟨[],by rw [cB];exact RS.T7 W,sP⟩
 ·injection cB with cB
  simp only [if_true] at tY
  subst tY
  have key:∀ i,i<len->∃ s:State,gz s/\∃ av,W.cell? (a.add (i*3))=some av/\W.cell? (a.add (i*3+1))=some (.bool s.final)/\W.cell? (a.add (i*3+2))=some (.int .u64 s.out)/\RA W (fun _=>True) av s.j4:=by
   intro i W8
   obtain ⟨cs',hc,ht'⟩:=hi i oM
   rw [yY] at hc
   obtain ⟨ys,n',hn',hy,hlen,hyl,hf⟩:=DataW.trod_struct Tryz.underlying47 ht'
   obtain ⟨_,R8,C7⟩:=World.cells?_some hc
   match cs',R8 with
   | [u0,u1,u2],_ =>
    have k0:=C7 0 oM
    have k1:=C7 1 oM
    have k2:=C7 2 oM
    have f0:=hf 0 _ rfl
    have f1:=hf 1 _ rfl
    have f2:=hf 2 _ rfl
    have g0:DataW.trod enc Tryz.prog W 0 (fun _=>true) true n' 44 [u0]=ys[0]? :=f0
    have g1:DataW.trod enc Tryz.prog W 0 (fun _=>true) true n' 4 [u1]=ys[1]? :=f1
    have g2:DataW.trod enc Tryz.prog W 0 (fun _=>true) true n' 35 [u2]=ys[2]? :=f2
    have y3:ys.length=3:=hyl
    rw [F8 oM] at g0 g1 g2
    obtain ⟨l,Ev,vU⟩:=Km g0
    obtain ⟨g,hg, -⟩:=DataW.trod_bool Tryz.underlying4 g1
    obtain ⟨z,hz, -,hwz⟩:=DataW.trod_int Tryz.underlying35 g2
    injection hz with hz
    injection hg with hg
    subst hz
    subst hg
    rw [Go.Deep.add_add] at k0 k1 k2
    have b1:=bounds_u64 hwz
    obtain ⟨n1,rfl⟩:∃ n1:Nat,z=(n1:Int):=⟨z.toNat,oM⟩
    exact ⟨⟨g,n1,l⟩,⟨sQ,vU⟩,u0,k0,k1,k2,Ev⟩
  obtain ⟨F,hF⟩:=choose_lt (α:=Option State) (p:=fun i o=>∃ s,o=some s/\gz s/\∃ av,W.cell? (a.add (i*3))=some av/\W.cell? (a.add (i*3+1))=some (.bool s.final)/\W.cell? (a.add (i*3+2))=some (.int .u64 s.out)/\RA W (fun _=>True) av s.j4)
   (fun i hi=>by obtain ⟨d,hd⟩:=key i hi;exact ⟨some d,d,rfl,hd⟩)
  have hlen:((List.range len).map fun i=>(F i).getD M5).length=len:=sP
  have jB:∀ (i:Nat) (d:State),((List.range len).map fun i=>(F i).getD M5)[i]? =some d->i<len/\F i=some d:=fun i d hd=>by
   have W8:i<len:=by have:=(H2 hd).1;simpa using this
   obtain ⟨d',e,_⟩:=hF i W8
   rw [List.getElem?_map,List.getElem?_range W8] at hd
   simp only [Option.map_some,e,Option.getD_some,Option.some.injEq] at hd
   exact ⟨W8,by rw [e,hd]⟩
  refine ⟨(List.range len).map fun i=>(F i).getD M5,⟨some a,m,by rw [hlen];exact cB,by rw [hlen];exact hl,fun h0=> ?_⟩,fun d hd=> ?_⟩
  ·rw [hlen] at h0
   obtain ⟨ab,ao,spot⟩:=a
   obtain ⟨d0, -, -,av0,q0, -⟩:=hF 0 h0
   have Pp:spot=none:=by simpa [Addr.add] using World.cell?_spot q0
   subst Pp
   refine ⟨ab,ao,rfl,fun i s hs=> ?_⟩
   obtain ⟨W8,gy⟩:=jB i s hs
   obtain ⟨d',e, -,av,k0,k1,k2,k3⟩:=hF i W8
   obtain rfl:s=d':=Option.some.inj (gy.symm.trans e)
   rw [Addr.add_lit] at k0 k1 k2
   exact ⟨av,k0,by rw [Nat.add_assoc];exact k1,by rw [Nat.add_assoc];exact k2,k3⟩
  ·obtain ⟨i,ND⟩:=List.mem_iff_getElem?.1 hd
   obtain ⟨W8,gy⟩:=jB i d ND
   obtain ⟨d',e,a6, -⟩:=hF i W8
   obtain rfl:d=d':=Option.some.inj (gy.symm.trans e)
   exact a6
end
end Dw
open Go.ChangeShapes Go.WideShapes Go.ChangeAt Go.RowKit Go.Deep
theorem Own.own:ownKnob Tryz.prog.godebug=none:=kR
theorem Own.laidOut:laidOutB Tryz.prog=true:=kR
theorem TC {H:Type} {enc:TypeId×Value->H} {f:Func} {s:ChangeSpec} {fresh handsOn again:Bool} {W W':World} {args:Array Value} {ds:List (DataW H)} {before:List MemPlace}
  (hv:s.vars=[]) (ht:f.resultTypes= #[4]) (hf:s.fn H ds={ results:=[.lit (.bool true)],args:=ds })
  (hW:DataW.Whole enc Tryz.prog f.params.toList s.vars false W args.toList ds [] before) (hb:Below W.heap.size W W')
  (zo:∀ sp:Nat->Bool,(∀ p∈before,sp p.block=true)->DataW.TrodAll enc Tryz.prog W' 0 sp true f.params.toList args.toList ds before) :
  s.post enc Tryz.prog f false fresh handsOn again W args (.bool true) W':=by
 have o9:∀ p∈before,p.block<W.heap.size:=fun p hp=>hW.lt p hp
 have hold:∀ p∈before,(fun b=>decide (b<W.heap.size)) p.block=true:=fun p hp=>by simpa using o9 p hp
 have D0:∀ (b:Nat) (sp:Nat->Bool) (hd:Bool),DataW.TrodAll enc Tryz.prog W' b sp hd f.resultTypes.toList ((Value.bool true).resultList f.resultTypes.size) (s.fn H (ds++[])).results []:=fun b sp hd=>by
  rw [ht,List.append_nil,hf]
  exact trodAll_mk1 ⟨1,by simp [DataW.trod,Value.cells,Tryz.underlying4]⟩
 have Xp:∀ sp:Nat->Bool,DataW.TrodVars enc Tryz.prog W' sp s.vars (s.fn H (ds++[])).vars []:=fun sp=>by
  rw [List.append_nil,hf,hv];rfl
 have nc:∀ sp:Nat->Bool,(∀ p∈before,sp p.block=true)->DataW.TrodAll enc Tryz.prog W' 0 sp true f.params.toList args.toList (s.fn H (ds++[])).args before:=fun sp SN=>by
  rw [List.append_nil,hf];exact zo sp SN
 refine ⟨ds,[],before,[],before,[],hW,D0 _ _ _,nc _ hold,Xp _,World.keptBut_mono (fun p hp=>⟨hp,?_⟩) (hb.frame (. ∈before)),fun _=> ?_⟩
 ·exact .inr (.inl hp)
 ·obtain ⟨_,_,_,_,_,hz,hn⟩:=hW
  refine ⟨?_,_,_,([]++before)++[],⟨[]++before,[],trodAll_append (nc _ (fun _ _=>rfl)) (D0 _ _ _),Xp _,rfl,?_,?_⟩,?_⟩
  ·rw [ht]
   intro j t r h1 h2
   match j,h1,h2 with
   | 0,h1,h2 =>
    injection h1 with h1
    subst h1
    have:r= .bool true:=by
     have h3:some (Value.bool true)=some r:=h2
     injection h3 with h3
     exact h3.symm
    subst this
    simp [Value.okWide,Tryz.underlying4,Cell.okWide,Cell.ok]
   | j+1,h1,h2=>simp at h1
  ·intro b off hp
   have D7:MemPlace.cell b off∈before:=by simpa using hp
   rw [hb.frozen (o9 _ D7)]
   exact hz b off D7
  ·intro ha
   cases ha
  ·intro p hp _
   simpa using hp
open Go.ChangeShapes Go.WideShapes Go.ChangeAt Go.RowKit
def TA : List (String × DataW Unit) := [("math/bits.deBruijn32tab", Rows.laid_math_bits_deBruijn32tab), ("math/bits.deBruijn64tab", Rows.laid_math_bits_deBruijn64tab), ("internal/strconv.uint64pow10", Rows.laid_internal_strconv_uint64pow10)]
theorem Md (os:Os) (args:Array Value):laidMetH Tryz.prog TA ((World.doorLaid Tryz.prog 24 os).forCall (fun _ _=>0) ⟨#[],args,[]⟩).memory :=
 laidMetH_of_parts3 (fuel:=8) (laidMet_of_run' 8 kR kR) kR kR
end Go.Proofs.YtcddnmhmcieebaaGreatDoor
