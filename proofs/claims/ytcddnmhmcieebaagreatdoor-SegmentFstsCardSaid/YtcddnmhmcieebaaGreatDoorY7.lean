import Derived.Test.YtcddnmhmcieebaaGreatDoorY6
import Derived.RangeFuncNested
import Derived.RangeFuncBound
import Derived.RangeFuncCalls
import Derived.RangeFuncLeaves
import Derived.Shelf.Abstract
import Derived.OwnWalkIn
import Derived.TacticsInMore
import Derived.OrdersIn
import Derived.Shelf.RegionOpen
import Derived.LoopNIn
import Derived.LoopIn
import Derived.Sort.LoopGhostIn
import Derived.Sort.CutIn
namespace Go.Proofs.YtcddnmhmcieebaaGreatDoor
set_option linter.unusedSimpArgs false
set_option linter.unusedVariables false
set_option linter.unnecessarySimpa false
set_option maxHeartbeats 4000000
set_option maxRecDepth 100000
open Go.RowKit
namespace Dw
theorem Lj (w:World) (g n c:Nat) (l:List Nat) (hl:l.length=n) (hn:n<=1000000) (hr:RB w g l) (hs:Hid (aM l)) (hk:8<=n/\n<50):Calls Tryz.prog 181 #[.slice (some ⟨g,0,none⟩) n c,.int .i64 0,.int .i64 n] w fun e w1=>(∃ p:Int,e= .returned (.tuple #[.int .i64 p,.int .i64 1]))/\Below w.heap.size w w1:=by
 refine dT 57 Tryz.func181 fun fr hf s0 s1 s2=> ?_
 obtain ⟨m,hm⟩:∃ m,n / 4=m:=⟨_,rfl⟩
 have hq:((n:Nat):Int).tdiv 4=(m:Int):=by rw [<- hm];rfl
 have e1:IntKind.i64.wrap ((m:Int)*1)=(m:Int):=by rw [Fc.wrap_i64 oM oM];omega
 have e2:IntKind.i64.wrap ((m:Int)*2)=((m*2:Nat):Int):=by rw [Fc.wrap_i64 oM oM];omega
 have e3:IntKind.i64.wrap ((m:Int)*3)=((m*3:Nat):Int):=by rw [Fc.wrap_i64 oM oM];omega
 have HM:=H9 hm;clear hm
 obtain ⟨m2,lX⟩:∃ x,m*2=x:=⟨_,rfl⟩
 obtain ⟨m3,Ng⟩:∃ x,m*3=x:=⟨_,rfl⟩
 rw [lX] at e2;rw [Ng] at e3
 have jU:=H9 lX;have kX:=H9 Ng;clear lX Ng
 have z0:IntKind.i64.wrap ((n:Int)-0)=(n:Int):=by rw [Fc.wrap_i64 oM oM];omega
 have fm:IntKind.i64.wrap (m:Int)=(m:Int):=Fc.wrap_i64 (by have:=HM.out;have:=jU.out;have:=kX.out;omega) (by have:=HM.out;have:=jU.out;have:=kX.out;omega)
 have Fv:IntKind.i64.wrap (m2:Int)=(m2:Int):=Fc.wrap_i64 (by have:=HM.out;have:=jU.out;have:=kX.out;omega) (by have:=HM.out;have:=jU.out;have:=kX.out;omega)
 have Fw:IntKind.i64.wrap (m3:Int)=(m3:Int):=Fc.wrap_i64 (by have:=HM.out;have:=jU.out;have:=kX.out;omega) (by have:=HM.out;have:=jU.out;have:=kX.out;omega)
 refine Ze fun _ a8=>Zr [] hf ?_
 refine y7 0 1 2 hf ?_
 clear hf s0 s1 s2;intro a7 hf sS
 refine Zt a8 fun _ a8=> ?_
 have bB:=hf.B3 13 14 15
 iterate 2 refine Zy ?_
 refine fp fun K Z=> ?_
 go_simp
 try simp (disch:=omega) only [Fc.W]
 try rw [z0]
 apply Z.out;clear Z K
 refine Zy ?_
 refine Fc.nil (y7 0 1 8 hf ?_)
 intro a7 hf sS
 refine Zs a8 fun _ a8=>Zr [] hf ?_
 refine z8 0 1 8 9 hf ?_
 intro a7 hf sS
 generalize Y4:w.alloc (.cells #[.int .i64 0] 3)=W2
 obtain ⟨r8,Re, -, -⟩:=oY Y4
 clear Y4
 have R1:=hr.later r8
 clear hr
 refine Zt a8 fun _ a8=> ?_
 have bB:=hf.B5 16 17 18 19 20
 iterate 2 refine Zy ?_
 refine fp fun K Z=> ?_
 go_simp
 try simp only [fm]
 apply Z.out;clear Z K
 refine fp fun K Z=> ?_
 go_simp
 try simp (disch:=omega) only [Fc.W]
 try simp only [e2,e3,fm,Fv,Fw]
 apply Z.out;clear Z K
 refine fp fun K Z=> ?_
 go_simp
 try simp (disch:=omega) only [Fc.W]
 try simp only [fm,Fv,Fw]
 apply Z.out;clear Z K
 refine Zy ?_
 refine Fc.nil (D2 0 1 8 9 10 hf ?_)
 intro a7 hf sS
 refine Zt a8 fun _ a8=> ?_
 have bB:=hf.B5 21 22 23 24 25
 iterate 2 refine Zy ?_
 refine fp fun K Z=> ?_
 go_simp
 try simp only [fm]
 apply Z.out;clear Z K
 refine fp fun K Z=> ?_
 go_simp
 try simp (disch:=omega) only [Fc.W]
 try simp only [e2,e3,fm,Fv,Fw]
 apply Z.out;clear Z K
 refine fp fun K Z=> ?_
 go_simp
 try simp (disch:=omega) only [Fc.W]
 try simp only [fm,Fv,Fw]
 apply Z.out;clear Z K
 refine Zy ?_
 refine Fc.nil (F1 0 1 8 9 10 11 hf ?_)
 intro a7 hf sS
 refine Zt a8 fun _ a8=> ?_
 have bB:=hf.B5 26 27 28 29 30
 iterate 2 refine Zy ?_
 refine fp fun K Z=> ?_
 go_simp
 try simp only [fm]
 apply Z.out;clear Z K
 refine fp fun K Z=> ?_
 go_simp
 try simp (disch:=omega) only [Fc.W]
 try simp only [e2,e3,fm,Fv,Fw]
 apply Z.out;clear Z K
 refine fp fun K Z=> ?_
 go_simp
 try simp (disch:=omega) only [Fc.W]
 try simp only [fm,Fv,Fw]
 apply Z.out;clear Z K
 refine Zy ?_
 refine Fc.nil (F1 0 8 9 10 11 12 hf ?_)
 intro a7 hf sS
 refine Zx a8 ?_
 clear hq e1 e2 e3 z0 fm Fv Fw
 have q1:decide ((8:Int)<=(n:Int))=true:=decide_eq_true oM
 have q2:decide ((50:Int)<=(n:Int))=false:=decide_eq_false oM
 refine Ze fun _ a8=>Ze fun _ j8=>Zr [31] hf ?_
 refine Z1 0 8 9 10 11 12 32 hf ?_
 intro a7 hf sS
 refine Zx j8 (Fc.l7 sS.2.2.2.2.2.2 ?_)
 refine Ze fun _ j8=>Ze fun _ l8=>Zr [33] hf ?_
 refine F1 0 9 10 11 12 34 hf ?_
 intro a7 hf sS
 refine Zx l8 (Fc.k9 sS.2.2.2.2.2 ?_)
 clear q1 q2
 refine wp_skip (Zx j8 (rg ?_))
 have bB:=hf.B5 44 45 46 47 48
 iterate 4 refine Zy ?_
 refine Zc (ka W2 g n c l hl hn R1 hs m m2 m3 (by have:=HM.out;have:=jU.out;have:=kX.out;omega) (by have:=HM.out;have:=jU.out;have:=kX.out;omega) (by have:=HM.out;have:=jU.out;have:=kX.out;omega) _) ?_;rintro e v11 ⟨rfl,tC⟩
 replace Re:=cL tC Re
 replace R1:=R1.later tC
 replace r8:=r8.trans (tC.mono r8.size)
 refine Zv ?_
 refine Zy ?_
 refine Fc.nil (y4 9 11 hf ?_)
 intro a7 hf sS
 refine Zs a8 fun _ a8=>Zr [] hf ?_
 refine y4 11 49 hf ?_
 intro a7 hf sS
 refine Zx a8 (wp_block (Ze fun _ a8=>Zr [52] hf ?_))
 refine y7 11 49 51 hf ?_
 intro a7 hf sS
 refine Zx a8 (Fc.l7 sS.2.2 ?_)
 refine Ze fun _ a8=>Zr [53] hf ?_
 refine y4 6 7 hf ?_
 intro a7 hf sS
 refine Zx a8 (k8 ?_)
 exact Fc.H6 rfl hf sS.1 sS.2 ⟨⟨_,rfl⟩,r8⟩
theorem WC (w:World) (g n c:Nat) (l:List Nat) (hl:l.length=n) (hn:n<=1000000) (hr:RB w g l) (hs:Hid (aM l)) (hk:50<=n):Calls Tryz.prog 181 #[.slice (some ⟨g,0,none⟩) n c,.int .i64 0,.int .i64 n] w fun e w1=>(∃ p:Int,e= .returned (.tuple #[.int .i64 p,.int .i64 1]))/\Below w.heap.size w w1:=by
 refine dT 57 Tryz.func181 fun fr hf s0 s1 s2=> ?_
 obtain ⟨m,hm⟩:∃ m,n / 4=m:=⟨_,rfl⟩
 have hq:((n:Nat):Int).tdiv 4=(m:Int):=by rw [<- hm];rfl
 have e1:IntKind.i64.wrap ((m:Int)*1)=(m:Int):=by rw [Fc.wrap_i64 oM oM];omega
 have e2:IntKind.i64.wrap ((m:Int)*2)=((m*2:Nat):Int):=by rw [Fc.wrap_i64 oM oM];omega
 have e3:IntKind.i64.wrap ((m:Int)*3)=((m*3:Nat):Int):=by rw [Fc.wrap_i64 oM oM];omega
 have HM:=H9 hm;clear hm
 obtain ⟨m2,lX⟩:∃ x,m*2=x:=⟨_,rfl⟩
 obtain ⟨m3,Ng⟩:∃ x,m*3=x:=⟨_,rfl⟩
 rw [lX] at e2;rw [Ng] at e3
 have jU:=H9 lX;have kX:=H9 Ng;clear lX Ng
 have z0:IntKind.i64.wrap ((n:Int)-0)=(n:Int):=by rw [Fc.wrap_i64 oM oM];omega
 have fm:IntKind.i64.wrap (m:Int)=(m:Int):=Fc.wrap_i64 (by have:=HM.out;have:=jU.out;have:=kX.out;omega) (by have:=HM.out;have:=jU.out;have:=kX.out;omega)
 have Fv:IntKind.i64.wrap (m2:Int)=(m2:Int):=Fc.wrap_i64 (by have:=HM.out;have:=jU.out;have:=kX.out;omega) (by have:=HM.out;have:=jU.out;have:=kX.out;omega)
 have Fw:IntKind.i64.wrap (m3:Int)=(m3:Int):=Fc.wrap_i64 (by have:=HM.out;have:=jU.out;have:=kX.out;omega) (by have:=HM.out;have:=jU.out;have:=kX.out;omega)
 refine Ze fun _ a8=>Zr [] hf ?_
 refine y7 0 1 2 hf ?_
 clear hf s0 s1 s2;intro a7 hf sS
 refine Zt a8 fun _ a8=> ?_
 have bB:=hf.B3 13 14 15
 iterate 2 refine Zy ?_
 refine fp fun K Z=> ?_
 go_simp
 try simp (disch:=omega) only [Fc.W]
 try rw [z0]
 apply Z.out;clear Z K
 refine Zy ?_
 refine Fc.nil (y7 0 1 8 hf ?_)
 intro a7 hf sS
 refine Zs a8 fun _ a8=>Zr [] hf ?_
 refine z8 0 1 8 9 hf ?_
 intro a7 hf sS
 generalize Y4:w.alloc (.cells #[.int .i64 0] 3)=W2
 obtain ⟨r8,Re, -, -⟩:=oY Y4
 clear Y4
 have R1:=hr.later r8
 clear hr
 refine Zt a8 fun _ a8=> ?_
 have bB:=hf.B5 16 17 18 19 20
 iterate 2 refine Zy ?_
 refine fp fun K Z=> ?_
 go_simp
 try simp only [fm]
 apply Z.out;clear Z K
 refine fp fun K Z=> ?_
 go_simp
 try simp (disch:=omega) only [Fc.W]
 try simp only [e2,e3,fm,Fv,Fw]
 apply Z.out;clear Z K
 refine fp fun K Z=> ?_
 go_simp
 try simp (disch:=omega) only [Fc.W]
 try simp only [fm,Fv,Fw]
 apply Z.out;clear Z K
 refine Zy ?_
 refine Fc.nil (D2 0 1 8 9 10 hf ?_)
 intro a7 hf sS
 refine Zt a8 fun _ a8=> ?_
 have bB:=hf.B5 21 22 23 24 25
 iterate 2 refine Zy ?_
 refine fp fun K Z=> ?_
 go_simp
 try simp only [fm]
 apply Z.out;clear Z K
 refine fp fun K Z=> ?_
 go_simp
 try simp (disch:=omega) only [Fc.W]
 try simp only [e2,e3,fm,Fv,Fw]
 apply Z.out;clear Z K
 refine fp fun K Z=> ?_
 go_simp
 try simp (disch:=omega) only [Fc.W]
 try simp only [fm,Fv,Fw]
 apply Z.out;clear Z K
 refine Zy ?_
 refine Fc.nil (F1 0 1 8 9 10 11 hf ?_)
 intro a7 hf sS
 refine Zt a8 fun _ a8=> ?_
 have bB:=hf.B5 26 27 28 29 30
 iterate 2 refine Zy ?_
 refine fp fun K Z=> ?_
 go_simp
 try simp only [fm]
 apply Z.out;clear Z K
 refine fp fun K Z=> ?_
 go_simp
 try simp (disch:=omega) only [Fc.W]
 try simp only [e2,e3,fm,Fv,Fw]
 apply Z.out;clear Z K
 refine fp fun K Z=> ?_
 go_simp
 try simp (disch:=omega) only [Fc.W]
 try simp only [fm,Fv,Fw]
 apply Z.out;clear Z K
 refine Zy ?_
 refine Fc.nil (F1 0 8 9 10 11 12 hf ?_)
 intro a7 hf sS
 refine Zx a8 ?_
 clear hq e1 e2 e3 z0 fm Fv Fw
 have q1:decide ((8:Int)<=(n:Int))=true:=decide_eq_true oM
 have q2:decide ((50:Int)<=(n:Int))=true:=decide_eq_true oM
 refine Ze fun _ a8=>Ze fun _ j8=>Zr [31] hf ?_
 refine Z1 0 8 9 10 11 12 32 hf ?_
 intro a7 hf sS
 refine Zx j8 (Fc.l7 sS.2.2.2.2.2.2 ?_)
 refine Ze fun _ j8=>Ze fun _ l8=>Zr [33] hf ?_
 refine F1 0 9 10 11 12 34 hf ?_
 intro a7 hf sS
 refine Zx l8 (Fc.l7 sS.2.2.2.2.2 ?_)
 clear q1 q2
 obtain ⟨k1,cZ⟩:∃ k,m=k+1:=⟨m-1,by have:=HM.out;have:=jU.out;have:=kX.out;omega⟩
 obtain ⟨k2,M9⟩:∃ k,m2=k+1:=⟨m2-1,by have:=HM.out;have:=jU.out;have:=kX.out;omega⟩
 obtain ⟨k3,yJ⟩:∃ k,m3=k+1:=⟨m3-1,by have:=HM.out;have:=jU.out;have:=kX.out;omega⟩
 obtain ⟨s0,s9,u4,D9,F7,Wn⟩:=sS
 rw [cZ] at u4 HM jU kX;rw [M9] at D9 jU;rw [yJ] at F7 kX
 clear cZ M9 yJ
 refine Ze fun _ l8=>rg ?_
 have bB:=hf.B3 35 36 37
 iterate 2 refine Zy ?_
 refine Zc (Fu W2 g n c l hl hn R1 hs k1 (by have:=HM.out;have:=jU.out;have:=kX.out;omega) _) ?_;rintro e v8 ⟨rfl,lz⟩
 replace Re:=cL lz Re
 replace R1:=R1.later lz
 replace r8:=r8.trans (lz.mono r8.size)
 refine Zv ?_
 refine Zy ?_
 refine Fc.nil (D2 0 9 10 11 12 hf ?_)
 clear hf s0 s9 u4 D9 F7 Wn bB;intro a7 hf sS
 refine Zt l8 fun _ l8=> ?_
 have bB:=hf.B3 38 39 40
 iterate 2 refine Zy ?_
 refine Zc (Fu v8 g n c l hl hn R1 hs k2 (by have:=HM.out;have:=jU.out;have:=kX.out;omega) _) ?_;rintro e v9 ⟨rfl,ly⟩
 replace Re:=cL ly Re
 replace R1:=R1.later ly
 replace r8:=r8.trans (ly.mono r8.size)
 refine Zv ?_
 refine Zy ?_
 refine Fc.nil (D2 0 9 10 11 12 hf ?_)
 intro a7 hf sS
 refine Zx l8 (rg ?_)
 have bB:=hf.B3 41 42 43
 iterate 2 refine Zy ?_
 refine Zc (Fu v9 g n c l hl hn R1 hs k3 (by have:=HM.out;have:=jU.out;have:=kX.out;omega) _) ?_;rintro e v10 ⟨rfl,Rf⟩
 replace Re:=cL Rf Re
 replace R1:=R1.later Rf
 replace r8:=r8.trans (Rf.mono r8.size)
 refine Zv ?_
 refine Zy ?_
 refine Fc.nil (D2 0 9 10 11 12 hf ?_)
 intro a7 hf sS
 refine Zx j8 (rg ?_)
 have bB:=hf.B5 44 45 46 47 48
 iterate 4 refine Zy ?_
 refine Zc (ka v10 g n c l hl hn R1 hs (k1+1) (k2+1) (k3+1) (by have:=HM.out;have:=jU.out;have:=kX.out;omega) (by have:=HM.out;have:=jU.out;have:=kX.out;omega) (by have:=HM.out;have:=jU.out;have:=kX.out;omega) _) ?_;rintro e v11 ⟨rfl,tC⟩
 replace Re:=cL tC Re
 replace R1:=R1.later tC
 replace r8:=r8.trans (tC.mono r8.size)
 refine Zv ?_
 refine Zy ?_
 refine Fc.nil (y4 9 11 hf ?_)
 intro a7 hf sS
 refine Zs a8 fun _ a8=>Zr [] hf ?_
 refine y4 11 49 hf ?_
 intro a7 hf sS
 refine Zx a8 (wp_block (Ze fun _ a8=>Zr [52] hf ?_))
 refine y7 11 49 51 hf ?_
 intro a7 hf sS
 refine Zx a8 (Fc.l7 sS.2.2 ?_)
 refine Ze fun _ a8=>Zr [53] hf ?_
 refine y4 6 7 hf ?_
 intro a7 hf sS
 refine Zx a8 (k8 ?_)
 exact Fc.H6 rfl hf sS.1 sS.2 ⟨⟨_,rfl⟩,r8⟩
theorem y3l (w:World) (A:Option Addr) (g n c:Nat) (l:List Nat) (hl:l.length=n) (hn:n<=1000000) (hr:RB w g l) (hs:Hid (aM l)) (hA:0<n->A=some ⟨g,0,none⟩):E2 w 178 #[.slice A n c,.int .i64 0,.int .i64 n] (.tuple #[]):=by
 refine dT 49 Tryz.func178 fun fr hf s0 s1 s2=> ?_
 have e1:IntKind.i64.wrap ((0:Int)+1)=1:=dC
 refine Ze fun _ a8=>rg ?_
 have bB:=hf.B2 8 9
 refine Zy ?_
 refine fp fun K Z=> ?_
 go_simp
 try simp (disch:=omega) only [Fc.W]
 try rw [e1]
 apply Z.out;clear Z K
 refine Zy ?_
 refine Fc.nil (z8 0 1 2 6 hf ?_)
 clear hf s0 s1 s2 bB;intro a7 hf sS
 refine Zx a8 (wp_block (wp_loop_ghost (fun gk fr wr=>∃ (i:Nat),gk=n-i/\1<=i/\(i<=n\/i=1)/\Fc.Fr 49 fr/\fr.tmps[0]? =some (.slice A n c)/\fr.tmps[1]? =some (.int .i64 0)/\fr.tmps[2]? =some (.int .i64 n)/\fr.tmps[6]? =some (.int .i64 i)/\Below w.heap.size w wr) (n-1) ?_ ?_))
 . (
 obtain ⟨s0,s1,s2,s6⟩:=sS
 exact ⟨1,rfl,nR,.inr rfl,hf,s0,s1,s2,s6,Below.refl _ _⟩)
 . (
 clear hf sS
 skip
 rintro gk fr wr ⟨i,hk,JX,D7,hf,s0,s1,s2,s6,hb⟩
 have HK:=H9 hk;have Dc:=H9 D7;clear hk D7
 refine Ze fun _ a8=>Ze fun _ j8=>Zr [10,11] hf ?_
 refine D2 0 1 2 6 12 hf ?_
 clear hf s0 s1 s2 s6;intro a7 hf sS
 refine Zx j8 (Fc.l0 sS.2.2.2.2 (fun hq=> ?_) (fun hq=> ?_))
 . (
 have o9:i<n:=qT
 clear hq
 obtain rfl:=hA oM
 have kQ:=hr.later hb
 refine wp_skip (Zs a8 fun _ a8=>wp_block (Ze fun _ j8=>Zr [15] hf ?_))
 refine D2 0 1 2 6 7 hf ?_
 intro a7 hf sS
 refine Zx j8 (wp_block (wp_loop_ghost (fun lR fr w2=>Fc.Fr 49 fr/\fr.tmps[0]? =some (.slice (some ⟨g,0,none⟩) n c)/\fr.tmps[1]? =some (.int .i64 0)/\fr.tmps[2]? =some (.int .i64 n)/\fr.tmps[6]? =some (.int .i64 i)/\fr.tmps[7]? =some (.int .i64 i)/\w2=wr) (0) ?_ ?_))
 . (
 obtain ⟨s0,s1,s2,s6,s7⟩:=sS
 exact ⟨hf,s0,s1,s2,s6,s7,rfl⟩)
 . (
 clear hf sS
 rintro lR fr w2 ⟨hf,s0,s1,s2,s6,s7,EU⟩
 subst EU
 obtain ⟨p,hp⟩:∃ p,i=p+1:=⟨i-1,oM⟩
 obtain ⟨xi,dK⟩:∃ x,l[p]? =some x:=⟨_,F8 oM⟩
 obtain ⟨xj,DE⟩:∃ x,l[p+1]? =some x:=⟨_,F8 oM⟩
 have ci:=kQ _ _ dK;have cj:=kQ _ _ DE
 have gB:=hs.out _ _ _ _ oM dK DE
 clear dK DE
 have kd:=H9 gB;clear gB
 have e4:IntKind.i64.wrap ((i:Int)-1)=(p:Int):=by rw [Fc.wrap_i64 oM oM];omega
 rw [<- hp] at cj
 have HP:=H9 hp;clear hp
 have q1:decide ((0:Int)<(i:Int))=true:=decide_eq_true oM
 have q5:decide (0<i)=true:=decide_eq_true oM
 refine Ze fun _ j8=>Ze fun _ l8=>Sb.tb 49 fun a6=> ?_
 refine Sb.mO 0 s7 hf a6 ?_
 refine Sb.mO 1 s1 hf a6 ?_
 refine Sb.T 2 hf a6 ?_
 refine Sb.mN 3 2 0 hf a6 [] ?_
 refine Sb.Tg 4 hf a6 ?_ (hF:=fun _ _ h d=>Sb.O h s0)
 refine Sb.Tg 5 hf a6 ?_ (hF:=fun _ _ h d=>Sb.O h s7)
 apply Sb.tr 6 _ hf a6
 . (
 intro a7 w1 hh hd hk K Z
 have K9:=Sb.v 3 2 hd hk []
 refine Sb.g K9 ?_
 have N5:=Sb.v 4 1 hd hk []
 have S9:=Sb.v 5 0 hd hk []
 clear hd
 go_simp
 try rw [if_pos (by have:=HP.out;omega)]
 exact Sb.k Z)
 refine Sb.Tg 7 hf a6 ?_ (hF:=fun _ _ h d=>ad (cL h.ext ci) (cL h.ext cj))
 refine Sb.Tg 8 hf a6 ?_ (hF:=fun _ _ h d=>Sb.O h s0)
 refine Sb.Tg 9 hf a6 ?_ (hF:=fun _ _ h d=>Sb.O h s7)
 apply Sb.tr 10 _ hf a6
 . (
 intro a7 w1 hh hd hk K Z
 have K9:=Sb.v 3 6 hd hk []
 refine Sb.g K9 ?_
 have Z9:=Sb.v 9 0 hd hk []
 clear hd
 go_simp
 try simp (disch:=omega) only [Fc.W]
 try rw [e4]
 exact Sb.k Z)
 apply Sb.tr 11 _ hf a6
 . (
 intro a7 w1 hh hd hk K Z
 have K9:=Sb.v 3 7 hd hk []
 refine Sb.g K9 ?_
 have dL:=Sb.v 8 2 hd hk []
 have aG:=Sb.v 10 0 hd hk []
 clear hd
 go_simp
 try rw [if_pos (by have:=HP.out;omega)]
 exact Sb.k Z)
 refine Sb.Tg 12 hf a6 ?_ (hF:=fun _ _ h d=>ad (cL h.ext ci) (cL h.ext cj))
 apply Sb.tr 13 _ hf a6
 . (
 intro a7 w1 hh hd hk K Z
 have K9:=Sb.v 3 9 hd hk []
 refine Sb.g K9 ?_
 have Q3:=Sb.v 7 5 hd hk []
 have bT:=Sb.v 12 0 hd hk []
 clear hd
 replace ci:=cL hh.ext ci
 replace cj:=cL hh.ext cj
 go_simp
 go_at_call 184;refine (Rd w1 xj xi).mono ?_;rintro e w2 ⟨rfl,rfl⟩
 rw [decide_eq_false (show ¬ xj<xi by have:=kd.out;omega)]
 exact Sb.k Z)
 refine Sb.T 14 hf a6 ?_
 refine Sb.E hf a6 (fun _ _ h g=>ad (Sb.O h s0) (ad (Sb.O h s1) (ad (Sb.O h s2) (ad (Sb.O h s6) (ad (Sb.O h s7) (Sb.f 14 0 g)))))) ?_
 clear hf a6 s0 s1 s2 s6 s7;intro a7 w1 hf hx sS
 replace ci:=cL hx ci
 replace cj:=cL hx cj
 refine Zx l8 (Fc.k9 sS.2.2.2.2.2 ?_)
 clear q1 q5 e4
 refine Zo ?_
 refine Fc.j9 (Zx a8 (Zr [13,14] hf ?_))
 refine z8 0 1 2 6 hf ?_
 intro a7 hf sS
 refine Fc.j7 ?_
 obtain ⟨s0,s1,s2,s6⟩:=sS
 exact ⟨_,by have:=HK.out;omega,i+1,rfl,oM,.inl oM,hf,s0,s1,s2,by rw [s6];rfl,hb.trans (hx.mono hb.size)⟩))
 . (
 clear hq
 refine Zo ?_
 exact Fc.mE rfl hf ⟨rfl,hb⟩))
theorem y3k (w:World) (g n c:Nat) (l:List Nat) (hl:l.length=n) (hn:n<=1000000) (hr:RB w g l) (hs:Hid (aM l)) (hk:8<=n):Calls Tryz.prog 181 #[.slice (some ⟨g,0,none⟩) n c,.int .i64 0,.int .i64 n] w fun e w1=>(∃ p:Int,e= .returned (.tuple #[.int .i64 p,.int .i64 1]))/\Below w.heap.size w w1:=by
 rcases Nat.lt_or_ge n 50 with h | h
 ·exact Lj w g n c l hl hn hr hs ⟨hk,h⟩
 ·exact WC w g n c l hl hn hr hs h
theorem Fx {n:Nat} (h:0<n):(Lib.bitLen (n:Int).toNat:Int)≠0:=by
 rw [Int.toNat_natCast]
 show ((Lib.bitLenAux (63+1) n:Nat):Int)≠0
 rw [Lib.bitLenAux]
 split<;>omega
theorem y3j (w:World) (g n c:Nat) (l:List Nat) (hl:l.length=n) (hn:n<=1000000) (hr:RB w g l) (hs:Hid (aM l)) (h1n:1<=n):E2 w 183 #[.slice (some ⟨g,0,none⟩) n c,.int .i64 0,.int .i64 n] (.bool true):=by
 refine dT 133 Tryz.func183 fun fr hf s0 s1 s2=> ?_
 refine Ze fun _ a8=>Zr [] hf ?_
 refine y7 0 1 2 hf ?_
 clear hf s0 s1 s2;intro a7 hf sS
 refine Zt a8 fun _ a8=> ?_
 have bB:=hf.B2 11 12
 refine Zy ?_
 refine fp fun K Z=> ?_
 go_simp
 try simp (disch:=omega) only [Fc.W]
 try rw [show IntKind.i64.wrap ((0:Int)+1)=1 by decide]
 apply Z.out;clear Z K
 refine Zy ?_
 refine Fc.nil (z8 0 1 2 7 hf ?_)
 intro a7 hf sS
 refine Zs a8 fun _ a8=>Ze fun _ j8=>Zr [] hf ?_
 refine D2 0 1 2 7 8 hf ?_
 intro a7 hf sS
 refine Zx j8 (wp_block (wp_loop_ghost (fun gk fr wr=>Fc.Fr 133 fr/\fr.tmps[0]? =some (.slice (some ⟨g,0,none⟩) n c)/\fr.tmps[1]? =some (.int .i64 0)/\fr.tmps[2]? =some (.int .i64 n)/\fr.tmps[7]? =some (.int .i64 1)/\fr.tmps[8]? =some (.int .i64 0)/\wr=w) (0) ?_ ?_))
 . (
 obtain ⟨s0,s1,s2,s7,s8⟩:=sS
 exact ⟨hf,s0,s1,s2,s7,s8,rfl⟩)
 . (
 clear hf sS
 rintro gk fr wr ⟨hf,s0,s1,s2,s7,s8,SQ⟩
 subst SQ
 refine Ze fun _ j8=>Ze fun _ l8=>Zr [13] hf ?_
 refine F1 0 1 2 7 8 14 hf ?_
 clear hf s0 s1 s2 s7 s8;intro a7 hf sS
 refine Zx l8 (Fc.l7 sS.2.2.2.2.2 ?_)
 refine wp_skip (Zs j8 fun _ j8=>wp_block (Ze fun _ l8=>wp_block (wp_loop_ghost (fun lR fr w2=>∃ (i:Nat),lR=n-i/\1<=i/\i<=n/\Fc.Fr 133 fr/\fr.tmps[0]? =some (.slice (some ⟨g,0,none⟩) n c)/\fr.tmps[1]? =some (.int .i64 0)/\fr.tmps[2]? =some (.int .i64 n)/\fr.tmps[7]? =some (.int .i64 i)/\fr.tmps[8]? =some (.int .i64 0)/\Below wr.heap.size wr w2) (n-1) ?_ ?_)))
 . (
 obtain ⟨s0,s1,s2,s7,s8,S4⟩:=sS
 exact ⟨1,rfl,nR,h1n,hf,s0,s1,s2,s7,s8,Below.refl _ _⟩)
 . (
 clear hf sS
 rintro lR fr w2 ⟨i,M9,JX,D7,hf,s0,s1,s2,s7,s8,hb⟩
 have HK:=H9 M9;clear M9
 rcases Nat.lt_or_ge i n with o9 | eV
 . (
 obtain ⟨p,hp⟩:∃ p,i=p+1:=⟨i-1,oM⟩
 have kQ:=hr.later hb
 obtain ⟨xi,dK⟩:∃ x,l[p]? =some x:=⟨_,F8 oM⟩
 obtain ⟨xj,DE⟩:∃ x,l[p+1]? =some x:=⟨_,F8 oM⟩
 have ci:=kQ _ _ dK;have cj:=kQ _ _ DE
 have gB:=hs.out _ _ _ _ oM dK DE
 clear dK DE
 have kd:=H9 gB;clear gB
 have e4:IntKind.i64.wrap ((i:Int)-1)=(p:Int):=by rw [Fc.wrap_i64 oM oM];omega
 rw [<- hp] at cj
 have HP:=H9 hp;clear hp kQ
 have q1:decide (i<n)=true:=decide_eq_true o9
 have q5:decide ((i:Int)<(n:Int))=true:=decide_eq_true oM
 refine Ze fun _ F5=>Ze fun _ U6=>Sb.tb 133 fun a6=> ?_
 refine Sb.mO 0 s7 hf a6 ?_
 refine Sb.mO 1 s2 hf a6 ?_
 refine Sb.T 2 hf a6 ?_
 refine Sb.mN 3 2 0 hf a6 [] ?_
 refine Sb.Tg 4 hf a6 ?_ (hF:=fun _ _ h d=>Sb.O h s0)
 refine Sb.Tg 5 hf a6 ?_ (hF:=fun _ _ h d=>Sb.O h s7)
 refine Sb.Tg 6 hf a6 ?_
 apply Sb.tr 7 _ hf a6
 . (
 intro a7 w1 hh hd hk K Z
 have N5:=Sb.v 3 3 hd hk []
 refine Sb.g N5 ?_
 have Q3:=Sb.v 6 0 hd hk []
 clear hd
 replace ci:=cL hh.ext ci
 replace cj:=cL hh.ext cj
 go_simp
 try rw [if_pos (by have:=HP.out;omega)]
 exact Sb.k Z)
 refine Sb.Tg 8 hf a6 ?_ (hF:=fun _ _ h d=>Sb.O h s0)
 refine Sb.Tg 9 hf a6 ?_ (hF:=fun _ _ h d=>Sb.O h s7)
 apply Sb.tr 10 _ hf a6
 . (
 intro a7 w1 hh hd hk K Z
 have N5:=Sb.v 3 6 hd hk []
 refine Sb.g N5 ?_
 have aG:=Sb.v 9 0 hd hk []
 clear hd
 go_simp
 try simp (disch:=omega) only [Fc.W]
 try rw [e4]
 exact Sb.k Z)
 apply Sb.tr 11 _ hf a6
 . (
 intro a7 w1 hh hd hk K Z
 have N5:=Sb.v 3 7 hd hk []
 refine Sb.g N5 ?_
 have Z9:=Sb.v 8 2 hd hk []
 have S0:=Sb.v 10 0 hd hk []
 clear hd
 go_simp
 try rw [if_pos (by have:=HP.out;omega)]
 exact Sb.k Z)
 refine Sb.Tg 12 hf a6 ?_ (hF:=fun _ _ h d=>ad (cL h.ext ci) (cL h.ext cj))
 apply Sb.tr 13 _ hf a6
 . (
 intro a7 w1 hh hd hk K Z
 have N5:=Sb.v 3 9 hd hk []
 refine Sb.g N5 ?_
 have dL:=Sb.v 7 5 hd hk []
 have cT:=Sb.v 12 0 hd hk []
 clear hd
 replace ci:=cL hh.ext ci
 replace cj:=cL hh.ext cj
 go_simp
 go_at_call 184;refine (Rd w1 xj xi).mono ?_;rintro e w2 ⟨rfl,rfl⟩
 rw [decide_eq_false (show ¬ xj<xi by have:=kd.out;omega)]
 exact Sb.k Z)
 refine Sb.Tg 14 hf a6 ?_
 refine Sb.T 15 hf a6 ?_
 refine Sb.E hf a6 (fun _ _ h g=>ad (Sb.O h s0) (ad (Sb.O h s1) (ad (Sb.O h s2) (ad (Sb.O h s7) (ad (Sb.O h s8) (Sb.f 15 0 g)))))) ?_
 clear hf a6 s0 s1 s2 s7 s8;intro a7 w1 hf hx sS
 replace ci:=cL hx ci
 replace cj:=cL hx cj
 refine Zx U6 (Fc.l7 sS.2.2.2.2.2 ?_)
 clear q1 q5 e4
 refine wp_skip (Zx F5 (wp_block (Zr [33,34] hf ?_)))
 refine D2 0 1 2 7 8 hf ?_
 intro a7 hf sS
 refine Fc.j9 (Fc.j7 ?_)
 obtain ⟨s0,s1,s2,s7,s8⟩:=sS
 exact ⟨_,by have:=HK.out;omega,i+1,rfl,oM,oM,hf,s0,s1,s2,by rw [s7];rfl,s8,hb.trans (hx.mono hb.size)⟩)
 . (
 have C3:i=n:=oM
 have q1:decide (i<n)=false:=decide_eq_false oM
 have q5:decide ((i:Int)<(n:Int))=false:=decide_eq_false oM
 refine Ze fun _ F5=>Ze fun _ U6=>Sb.tb 133 fun a6=> ?_
 refine Sb.mO 0 s7 hf a6 ?_
 refine Sb.mO 1 s2 hf a6 ?_
 refine Sb.T 2 hf a6 ?_
 refine Sb.mN 3 2 0 hf a6 [] ?_
 refine Sb.Tk 4 hf a6 ?_
 refine Sb.Tk 5 hf a6 ?_
 refine Sb.Tk 6 hf a6 ?_
 apply Sb.tr 7 _ hf a6
 . (
 intro a7 w1 hh hd hk K Z
 have N5:=Sb.v 3 3 hd hk []
 refine Sb.sk N5 ?_
 exact Sb.k Z)
 refine Sb.Tk 8 hf a6 ?_
 refine Sb.Tk 9 hf a6 ?_
 apply Sb.tr 10 _ hf a6
 . (
 intro a7 w1 hh hd hk K Z
 have N5:=Sb.v 3 6 hd hk []
 refine Sb.sk N5 ?_
 exact Sb.k Z)
 apply Sb.tr 11 _ hf a6
 . (
 intro a7 w1 hh hd hk K Z
 have N5:=Sb.v 3 7 hd hk []
 refine Sb.sk N5 ?_
 exact Sb.k Z)
 refine Sb.Tk 12 hf a6 ?_
 apply Sb.tr 13 _ hf a6
 . (
 intro a7 w1 hh hd hk K Z
 have N5:=Sb.v 3 9 hd hk []
 refine Sb.sk N5 ?_
 exact Sb.k Z)
 refine Sb.Tk 14 hf a6 ?_
 refine Sb.T 15 hf a6 ?_
 refine Sb.E hf a6 (fun _ _ h g=>ad (Sb.O h s0) (ad (Sb.O h s1) (ad (Sb.O h s2) (ad (Sb.O h s7) (ad (Sb.O h s8) (Sb.f 15 0 g)))))) ?_
 clear hf a6 s0 s1 s2 s7 s8;intro a7 w1 hf hx sS
 refine Zx U6 (Fc.k9 sS.2.2.2.2.2 ?_)
 clear q1 q5
 subst C3
 refine Zo ?_
 refine Zs l8 fun _ l8=>Ze fun _ F5=>Zr [35,36] hf ?_
 refine F1 0 1 2 7 8 37 hf ?_
 intro a7 hf sS
 refine Zx F5 (Fc.l7 sS.2.2.2.2.2 ?_)
 refine Ze fun _ F5=>Zr [] hf ?_
 refine p5 6 hf ?_
 intro a7 hf s6
 refine Zx F5 (k8 ?_)
 exact Fc.o6 rfl hf s6 ⟨rfl,hb.trans (hx.mono hb.size)⟩)))
theorem WD (w:World) (A:Option Addr) (g n c:Nat) (l:List Nat) (hl:l.length=n) (hn:n<=1000000) (hr:RB w g l) (hs:Hid (aM l)) (hA:0<n->A=some ⟨g,0,none⟩) (JE:Int) (hk:n<=12):E2 w 174 #[.slice A n c,.int .i64 0,.int .i64 n,.int .i64 JE] (.tuple #[]):=by
 refine Zn4 134 Tryz.func174 fun fr hf s0 s1 s2 s3=> ?_
 have z0:IntKind.i64.wrap ((n:Int)-0)=(n:Int):=by rw [Fc.wrap_i64 oM oM];omega
 refine Ze fun _ a8=>Zr [] hf ?_
 refine D2 0 1 2 3 8 hf ?_
 clear hf s0 s1 s2 s3;intro a7 hf sS
 refine Zs a8 fun _ a8=>Zr [] hf ?_
 refine F1 0 1 2 3 8 9 hf ?_
 intro a7 hf sS
 refine Zx a8 (wp_block (wp_loop_ghost (fun gk fr wr=>Fc.Fr 134 fr/\fr.tmps[0]? =some (.slice A n c)/\fr.tmps[1]? =some (.int .i64 0)/\fr.tmps[2]? =some (.int .i64 n)/\fr.tmps[3]? =some (.int .i64 JE)/\fr.tmps[8]? =some (.bool true)/\fr.tmps[9]? =some (.bool true)/\wr=w) (0) ?_ ?_))
 . (
 obtain ⟨s0,s1,s2,s3,s8,s9⟩:=sS
 exact ⟨hf,s0,s1,s2,s3,s8,s9,rfl⟩)
 . (
 clear hf sS
 rintro gk fr wr ⟨hf,s0,s1,s2,s3,s8,s9,SQ⟩
 subst SQ
 have q1:decide ((n:Int)<=12)=true:=decide_eq_true oM
 have q2:decide (n<=12)=true:=decide_eq_true oM
 refine wp_block (Ze fun _ a8=>rg ?_)
 have bB:=hf.B3 19 20 21
 iterate 2 refine Zy ?_
 refine fp fun K Z=> ?_
 go_simp
 try simp (disch:=omega) only [Fc.W]
 try rw [z0]
 apply Z.out;clear Z K
 refine Zy ?_
 refine Fc.nil (Z1 0 1 2 3 8 9 10 hf ?_)
 clear hf s0 s1 s2 s3 s8 s9 bB;intro a7 hf sS
 refine Zs a8 fun _ a8=>Ze fun _ j8=>Zr [22] hf ?_
 refine mF 0 1 2 3 8 9 10 23 hf ?_
 intro a7 hf sS
 refine Zx j8 (Fc.l7 sS.2.2.2.2.2.2.2 ?_)
 refine Ze fun _ j8=>rg ?_
 have bB:=hf.B3 24 25 26
 iterate 3 refine Zy ?_
 refine fp fun K Z=> ?_
 go_simp
 go_at_call 178;refine (y3l wr A g n c l hl hn hr hs hA).mono ?_;rintro e w1 ⟨rfl,p6⟩
 try dsimp only
 apply Z.out;clear Z K
 refine Fc.nil (Dq hf ?_)
 intro a7 hf
 refine Zx j8 (k8 ?_)
 exact Fc.Yt rfl hf ⟨rfl,p6⟩)
theorem Rg (w:World) (A:Option Addr) (g n c:Nat) (l:List Nat) (hl:l.length=n) (hn:n<=1000000) (hr:RB w g l) (hs:Hid (aM l)) (hA:0<n->A=some ⟨g,0,none⟩) (JE:Int) (hk:12<n) (Lm:JE≠0):E2 w 174 #[.slice A n c,.int .i64 0,.int .i64 n,.int .i64 JE] (.tuple #[]):=by
 refine Zn4 134 Tryz.func174 fun fr hf s0 s1 s2 s3=> ?_
 have z0:IntKind.i64.wrap ((n:Int)-0)=(n:Int):=by rw [Fc.wrap_i64 oM oM];omega
 refine Ze fun _ a8=>Zr [] hf ?_
 refine D2 0 1 2 3 8 hf ?_
 clear hf s0 s1 s2 s3;intro a7 hf sS
 refine Zs a8 fun _ a8=>Zr [] hf ?_
 refine F1 0 1 2 3 8 9 hf ?_
 intro a7 hf sS
 refine Zx a8 (wp_block (wp_loop_ghost (fun gk fr wr=>Fc.Fr 134 fr/\fr.tmps[0]? =some (.slice A n c)/\fr.tmps[1]? =some (.int .i64 0)/\fr.tmps[2]? =some (.int .i64 n)/\fr.tmps[3]? =some (.int .i64 JE)/\fr.tmps[8]? =some (.bool true)/\fr.tmps[9]? =some (.bool true)/\wr=w) (0) ?_ ?_))
 . (
 obtain ⟨s0,s1,s2,s3,s8,s9⟩:=sS
 exact ⟨hf,s0,s1,s2,s3,s8,s9,rfl⟩)
 . (
 clear hf sS
 rintro gk fr wr ⟨hf,s0,s1,s2,s3,s8,s9,SQ⟩
 subst SQ
 have q1:decide ((n:Int)<=12)=false:=decide_eq_false oM
 have q2:decide (n<=12)=false:=decide_eq_false oM
 refine wp_block (Ze fun _ a8=>rg ?_)
 have bB:=hf.B3 19 20 21
 iterate 2 refine Zy ?_
 refine fp fun K Z=> ?_
 go_simp
 try simp (disch:=omega) only [Fc.W]
 try rw [z0]
 apply Z.out;clear Z K
 refine Zy ?_
 refine Fc.nil (Z1 0 1 2 3 8 9 10 hf ?_)
 clear hf s0 s1 s2 s3 s8 s9 bB;intro a7 hf sS
 refine Zs a8 fun _ a8=>Ze fun _ j8=>Zr [22] hf ?_
 refine mF 0 1 2 3 8 9 10 23 hf ?_
 intro a7 hf sS
 refine Zx j8 (Fc.k9 sS.2.2.2.2.2.2.2 ?_)
 have q3:((JE:Int)==0)=false:=beq_eq_false_iff_ne.2 Lm
 refine wp_skip (Zs a8 fun _ a8=>Ze fun _ j8=>Zr [28] hf ?_)
 refine mF 0 1 2 3 8 9 10 29 hf ?_
 intro a7 hf sS
 refine Zx j8 (Fc.k9 sS.2.2.2.2.2.2.2 ?_)
 clear q1 q2 q3
 obtain rfl:=hA oM
 refine wp_skip (Zs a8 fun _ a8=>Ze fun _ j8=>Zr [34] hf ?_)
 refine mF 0 1 2 3 8 9 10 35 hf ?_
 intro a7 hf sS
 refine Zx j8 (Fc.k9 sS.2.2.2.2.2.2.2 ?_)
 refine wp_skip (Zt a8 fun _ a8=> ?_)
 have bB:=hf.B7 43 44 45 46 42 47 48
 iterate 3 refine Zy ?_
 refine Zc (y3k wr g n c l hl hn hr hs oM) ?_;rintro e w1 ⟨⟨pv,rfl⟩,p6⟩
 have zX:=hr.later p6
 refine Zv ?_
 iterate 5 refine Zy ?_
 refine Fc.nil (tZ 0 1 2 3 8 9 10 11 12 hf ?_)
 intro a7 hf sS
 refine Zs a8 fun _ a8=>Ze fun _ j8=>Zr [49] hf ?_
 refine gV 0 1 2 3 8 9 10 11 12 50 hf ?_
 intro a7 hf sS
 refine Zx j8 (Fc.k9 sS.2.2.2.2.2.2.2.2.2 ?_)
 refine wp_skip (Zs a8 fun _ a8=>Ze fun _ j8=>Zr [61,62,63,64,65,66,67] hf ?_)
 refine tZ 0 1 2 3 8 9 10 11 68 hf ?_
 intro a7 hf sS
 refine Zx j8 (Fc.l7 sS.2.2.2.2.2.2.2.2 ?_)
 refine Ze fun _ j8=>rg ?_
 have bB:=hf.B3 69 70 71
 iterate 3 refine Zy ?_
 refine Zc (y3j w1 g n c l hl hn zX hs oM) ?_;rintro e w2 ⟨rfl,r8⟩
 refine Zv ?_
 refine Fc.nil (tZ 0 1 2 3 8 9 10 11 72 hf ?_)
 intro a7 hf sS
 refine Zx j8 (Fc.l7 sS.2.2.2.2.2.2.2.2 ?_)
 refine k8 ?_
 exact Fc.Yt rfl hf ⟨rfl,p6.trans (r8.mono p6.size)⟩)
theorem y3i (w:World) (A:Option Addr) (g n c:Nat) (l:List Nat) (hl:l.length=n) (hn:n<=1000000) (hr:RB w g l) (hs:Hid (aM l)) (hA:0<n->A=some ⟨g,0,none⟩) (JE:Int) (Lm:12<n->JE≠0):E2 w 174 #[.slice A n c,.int .i64 0,.int .i64 n,.int .i64 JE] (.tuple #[]):=by
 rcases Nat.lt_or_ge 12 n with h | h
 ·exact Rg w A g n c l hl hn hr hs hA JE h (Lm h)
 ·exact WD w A g n c l hl hn hr hs hA JE h
theorem z6k (w:World) (A:Option Addr) (g n c:Nat) (l:List Nat) (hl:l.length=n) (hn:n<=1000000) (hr:RB w g l) (hs:Hid (aM l)) (hA:0<n->A=some ⟨g,0,none⟩):E2 w 167 #[.slice A n c] (.tuple #[]):=by
 refine L7 11 Tryz.func167 fun fr hf s0=> ?_
 refine Ze fun _ a8=>Zr [3,4] hf ?_
 refine y4 0 2 hf ?_
 clear hf s0;intro a7 hf sS
 refine Zx a8 (rg ?_)
 have bB:=hf.B5 5 6 7 8 9
 iterate 3 refine Zy ?_
 refine fp fun K Z=> ?_
 go_simp
 try rw [Fc.wrap_u64 oM oM]
 apply Z.out;clear Z K
 refine Zc ((Tryz.bits_Len (n:Int) w oM oM)) ?_;rintro e w1 ⟨rfl,Eu⟩
 subst w1
 generalize Lm:Lib.bitLen (n:Int).toNat=JE
 have HL:=H9 Lm;clear Lm
 refine Zv ?_
 refine Zc (y3i w A g n c l hl hn hr hs hA JE (fun h=>by rw [<- HL.out];exact Fx oM)) ?_;rintro e w2 ⟨rfl,r8⟩
 refine Zv ?_
 refine Fc.nil (Dq hf ?_)
 intro a7 hf
 exact Fc.mE rfl hf ⟨rfl,r8⟩
theorem WE (w:World) (A:Option Addr) (g n c:Nat) (l:List Nat) (hl:l.length=n) (hn:n<=1000000) (hr:RB w g l) (hs:Hid (aM l)) (hA:0<n->A=some ⟨g,0,none⟩) (hk:n<2):E2 w 168 #[.slice A n c] (.slice A n c):=by
 refine L7 61 Tryz.func168 fun fr hf s0=> ?_
 have q1:decide ((n:Int)<2)=true:=decide_eq_true oM
 have q2:decide (n<2)=true:=decide_eq_true oM
 refine Ze fun _ a8=>Zr [] hf ?_
 refine p5 0 hf ?_
 clear hf s0;intro a7 hf s0
 refine Zs a8 fun _ a8=>Ze fun _ j8=>Zr [6,7] hf ?_
 refine y4 0 8 hf ?_
 clear hf s0;intro a7 hf sS
 refine Zx j8 (Fc.l7 sS.2 ?_)
 refine Ze fun _ j8=>Zr [9] hf ?_
 refine p5 2 hf ?_
 intro a7 hf s2
 refine Zx j8 (k8 ?_)
 exact Fc.o6 rfl hf s2 ⟨rfl,Below.refl _ _⟩
theorem WG (w:World) (A:Option Addr) (g n c:Nat) (l:List Nat) (hl:l.length=n) (hn:n<=1000000) (hr:RB w g l) (hs:Hid (aM l)) (hA:0<n->A=some ⟨g,0,none⟩) (hk:2<=n):E2 w 168 #[.slice A n c] (.slice A n c):=by
 refine L7 61 Tryz.func168 fun fr hf s0=> ?_
 have q1:decide ((n:Int)<2)=false:=decide_eq_false oM
 have q2:decide (n<2)=false:=decide_eq_false oM
 refine Ze fun _ a8=>Zr [] hf ?_
 refine p5 0 hf ?_
 clear hf s0;intro a7 hf s0
 refine Zs a8 fun _ a8=>Ze fun _ j8=>Zr [6,7] hf ?_
 refine y4 0 8 hf ?_
 clear hf s0;intro a7 hf sS
 refine Zx j8 (Fc.k9 sS.2 ?_)
 clear q1 q2
 obtain rfl:=hA oM
 refine wp_skip (Zs a8 fun _ a8=>Ze fun _ j8=>Zr [] hf ?_)
 refine y4 0 3 hf ?_
 intro a7 hf sS
 refine Zx j8 (wp_block (wp_loop_ghost (fun gk fr wr=>∃ (i:Nat),gk=n-i/\1<=i/\i<=n/\Fc.Fr 61 fr/\fr.tmps[0]? =some (.slice (some ⟨g,0,none⟩) n c)/\fr.tmps[3]? =some (.int .i64 i)/\Below w.heap.size w wr) (n-1) ?_ ?_))
 . (
 exact ⟨1,rfl,nR,oM,hf,sS.1,sS.2,Below.refl _ _⟩)
 . (
 clear hf sS
 rintro gk fr wr ⟨i,hk,JX,D7,hf,s0,s3,hb⟩
 have HK:=H9 hk;clear hk
 refine Ze fun _ j8=>Ze fun _ l8=>Zr [10,11,12] hf ?_
 refine y7 0 3 13 hf ?_
 clear hf s0 s3;intro a7 hf sS
 refine Zx l8 (Fc.l0 sS.2.2 (fun hq=> ?_) (fun hq=> ?_))
 . (
 have o9:i<n:=qT
 clear hq
 obtain ⟨p,hp⟩:∃ p,i=p+1:=⟨i-1,oM⟩
 have kQ:=hr.later hb
 obtain ⟨xi,dK⟩:∃ x,l[p]? =some x:=⟨_,F8 oM⟩
 obtain ⟨xj,DE⟩:∃ x,l[p+1]? =some x:=⟨_,F8 oM⟩
 have ci:=kQ _ _ dK;have cj:=kQ _ _ DE
 have gB:=hs.out _ _ _ _ oM dK DE
 clear dK DE
 have kd:=H9 gB;clear gB
 have e4:IntKind.i64.wrap ((i:Int)-1)=(p:Int):=by rw [Fc.wrap_i64 oM oM];omega
 rw [<- hp] at cj
 have HP:=H9 hp;clear hp kQ
 have q3:(((xj:Nat):Int)==((xi:Nat):Int))=false:=beq_eq_false_iff_ne.2 (by have:=kd.out;omega)
 refine wp_skip (Zs j8 fun _ j8=>wp_block (Ze fun _ l8=> ?_))
 obtain ⟨s0,s3,D1⟩:=sS
 refine Sb.tb 61 fun a6=> ?_
 refine Sb.mO 0 s0 hf a6 ?_
 refine Sb.mO 1 s3 hf a6 ?_
 apply Sb.tq 2 _ hf a6
 . (
 intro a7 w1 hh hd hk K Z
 have Y5:=Sb.v 0 1 hd hk []
 have G7:=Sb.v 1 0 hd hk []
 clear hd
 go_simp
 try rw [if_pos (by have:=HP.out;omega)]
 exact Sb.k Z)
 refine Sb.T 3 hf a6 ?_ (hF:=fun _ _ h d=>ad (cL h.ext ci) (cL h.ext cj))
 refine Sb.mO 4 s0 hf a6 ?_
 refine Sb.mO 5 s3 hf a6 ?_
 apply Sb.tq 6 _ hf a6
 . (
 intro a7 w1 hh hd hk K Z
 have S9:=Sb.v 5 0 hd hk []
 clear hd
 go_simp
 try simp (disch:=omega) only [Fc.W]
 try rw [e4]
 exact Sb.k Z)
 apply Sb.tq 7 _ hf a6
 . (
 intro a7 w1 hh hd hk K Z
 have N5:=Sb.v 4 2 hd hk []
 have X6:=Sb.v 6 0 hd hk []
 clear hd
 go_simp
 try rw [if_pos (by have:=HP.out;omega)]
 exact Sb.k Z)
 refine Sb.T 8 hf a6 ?_ (hF:=fun _ _ h d=>ad (cL h.ext ci) (cL h.ext cj))
 apply Sb.tq 9 _ hf a6
 . (
 intro a7 w1 hh hd hk K Z
 have K9:=Sb.v 3 5 hd hk []
 have dL:=Sb.v 8 0 hd hk []
 clear hd
 go_simp
 try rw [q3]
 exact Sb.k Z)
 refine Sb.E hf a6 (fun _ _ h g=>ad (Sb.O h s0) (ad (Sb.O h s3) (Sb.f 9 0 g))) ?_
 clear hf a6 s0 s3 D1;intro a7 w1 hf hx sS
 replace ci:=cL hx ci
 replace cj:=cL hx cj
 refine Zx l8 (Fc.k9 sS.2.2 ?_)
 clear q3 e4
 refine wp_skip (Fc.j9 (Zx j8 (Zr [14,15] hf ?_)))
 refine y4 0 3 hf ?_
 intro a7 hf sS
 refine Fc.j7 ?_
 exact ⟨_,by have:=HK.out;omega,i+1,rfl,oM,oM,hf,sS.1,by rw [sS.2];rfl,hb.trans (hx.mono hb.size)⟩)
 . (
 clear hq
 refine Zo ?_
 refine Zs a8 fun _ a8=>Zr [60] hf ?_
 refine p5 2 hf ?_
 intro a7 hf s2
 refine Zx a8 (k8 ?_)
 exact Fc.o6 rfl hf s2 ⟨rfl,hb⟩))
theorem z6j (w:World) (A:Option Addr) (g n c:Nat) (l:List Nat) (hl:l.length=n) (hn:n<=1000000) (hr:RB w g l) (hs:Hid (aM l)) (hA:0<n->A=some ⟨g,0,none⟩):E2 w 168 #[.slice A n c] (.slice A n c):=by
 rcases Nat.lt_or_ge n 2 with h | h
 ·exact WE w A g n c l hl hn hr hs hA h
 ·exact WG w A g n c l hl hn hr hs hA h
theorem E9 {i:Nat} {last:Int}:∀ {l:List u3},okArcs i last l=true->∀ {a:u3},a∈l->0<=a.to/\a.to<(i:Int):=fun h a ha=>cM _ i last h a ha
theorem dB {i:Nat}:∀ (l:List u3) (last:Int),okArcs i last l=true->∀ a∈l,last<(a.byte:Int)
 | [],_,_,a,ha=>by cases ha
 | x::l,last,h,a,ha=>by
  simp only [okArcs,Bool.and_eq_true,decide_eq_true_eq] at h
  rcases List.mem_cons.1 ha with rfl | ha
  ·exact h.1.2
  ·have:=dB l _ h.2 a ha
   omega
theorem oU {i:Nat}:∀ (l:List u3) (last:Int),okArcs i last l=true->(l.map u3.byte).Pairwise (. < ·)
 | [],_,_=>List.Pairwise.nil
 | x::l,last,h=>by
  simp only [okArcs,Bool.and_eq_true,decide_eq_true_eq] at h
  rw [List.map_cons,List.pairwise_cons]
  refine ⟨fun y hy=> ?_,oU l _ h.2⟩
  obtain ⟨a,ha,rfl⟩:=List.mem_map.1 hy
  have:=dB l _ h.2 a ha
  omega
theorem tD {i:Nat} {l:List u3} (h:okArcs i (-1) l=true):Hid (aM (l.map u3.byte)):=by
 have hp:=oU l (-1) h
 refine H9 fun i j x y gB hx hy=> ?_
 obtain ⟨h1,rfl⟩:=H2 hx
 obtain ⟨h2,rfl⟩:=H2 hy
 exact List.pairwise_iff_getElem.1 hp i j h1 h2 gB
theorem OB.Fy {w w':World} {base:Nat} {v:Value} {l:List Nat} (h:OB w base v l) (hb:Below w.heap.size w w'):OB w' base v l:=n3 h hb
theorem OB.rb {w:World} {base:Nat} {v:Value} {l:List Nat} (h:OB w base v l):∃ (g:Nat) (A:Option Addr) (c:Nat),v= .slice A l.length c/\(0<l.length->A=some ⟨g,0,none⟩)/\RB w g l:=by
 obtain ⟨A,c,rfl,_⟩:=y8 h
 rcases Nat.eq_zero_or_pos l.length with h0 | h0
 ·exact ⟨0,A,c,rfl,fun h=>oM,fun i x hx=>by have:=(H2 hx).1;omega⟩
 ·obtain ⟨x,hx⟩:∃ x,l[0]? =some x:=⟨_,F8 h0⟩
  obtain ⟨b,hA,_⟩:=OB.cell h hx
  refine ⟨b,A,c,rfl,fun _=>hA,fun i y hy=> ?_⟩
  obtain ⟨b',ph,h2⟩:=OB.cell h hy
  rw [hA] at ph
  injection ph with ph
  injection ph with ph
  subst ph
  exact h2.2.2
theorem Rh (w:World) (sv:Value) (init:Nat) (ss:List State) (o8:RS w sv ss) (k:Nat) (st:State) (hk:ss[k]? =some st) (jQ:ss.length<=1000000000) (a6:okArcs k (-1) st.j4=true) (hlen:st.j4.length<=1000000):Calls Tryz.prog 157 #[.agg #[sv,.int .u64 init],.int .i64 k] w fun e w1=>∃ v1,e= .returned v1/\OB w1 w.heap.size v1 (st.j4.map u3.byte)/\Below w.heap.size w w1:=by
 refine Z6 46 Tryz.func157 fun fr hf s0 s1=> ?_
 obtain ⟨A,cc,rfl,U0⟩:=o8.form
 have o9:=(H2 hk).1
 have Qz:=H9 a6;clear a6
 have q1:decide ((k:Int)<0)=false:=decide_eq_false oM
 have q2:decide (ss.length<=k)=false:=decide_eq_false oM
 refine Ze fun _ a8=>Zr [] hf ?_
 refine y7 1 2 4 hf ?_
 clear hf s0 s1;intro a7 hf sS
 generalize p8:w.alloc (.cells #[.slice A ss.length cc,.int .u64 init] 38)=W0
 obtain ⟨o7,c0,c1, -, -⟩:=P7 p8
 clear p8
 have R9:=o8.later o7
 clear o8
 obtain ⟨bb,off,av,zV,C7⟩:=R9.at_ hk
 subst zV
 have d0:=C7.c0
 have S7:=C7.j4
 obtain ⟨A2,c2,Z3,uG⟩:=S7.form
 subst Z3
 clear C7 R9
 refine Zs a8 fun _ a8=>Ze fun _ j8=> ?_
 have qs:=And.intro q1 q2
 refine Zr [7,8,9,10,11,12,13,14] hf ?_
 refine z8 1 2 4 15 hf ?_
 clear hf sS qs;intro a7 hf sS
 refine Zx j8 (Fc.k9 sS.2.2.2 ?_)
 clear q1 q2
 refine wp_skip (Zs a8 fun _ a8=>Ze fun _ j8=>Zr [16,17,18,19,20,21] hf ?_)
 refine D2 1 4 21 22 23 hf ?_
 intro a7 hf sS
 refine Zx j8 (wp_block (wp_loop_ghost (fun gk fr wr=>∃ (i:Nat) (V:Value),gk=st.j4.length-i/\i<=st.j4.length/\Fc.Fr 46 fr/\fr.tmps[1]? =some (.int .i64 k)/\fr.tmps[4]? =some V/\fr.tmps[21]? =some (.slice A2 st.j4.length c2)/\fr.tmps[22]? =some (.int .i64 st.j4.length)/\fr.tmps[23]? =some (.int .i64 i)/\OB wr W0.heap.size V ((st.j4.take i).map u3.byte)/\Below W0.heap.size W0 wr) (st.j4.length) ?_ ?_))
 . (
 obtain ⟨s1,s4,S9,X6,Q3⟩:=sS
 exact ⟨0,_,rfl,Nat.zero_le _,hf,s1,s4,S9,X6,Q3,OB.T7 _ _,Below.refl _ _⟩)
 . (
 clear hf sS
 clear c0 c1 d0
 rintro gk fr wr ⟨i,V,dA,hi,hf,s1,s4,S9,X6,Q3,how,hb⟩
 have HK:=H9 dA;clear dA
 have F9:=o7.trans (hb.mono o7.size)
 refine Ze fun _ j8=>Zr [] hf ?_
 refine F1 1 4 21 22 23 24 hf ?_
 clear hf s1 s4 S9 X6 Q3;intro a7 hf sS
 refine Zs j8 fun _ j8=>Fc.l0 sS.2.2.2.2.2 (fun hq=> ?_) (fun hq=> ?_)
 . (
 have Ln:i<st.j4.length:=qT
 clear hq
 obtain ⟨a,X9⟩:∃ a,st.j4[i]? =some a:=⟨_,F8 Ln⟩
 obtain ⟨b3,uD,hA3,X3,y0,y1,y2⟩:=(S7.later hb).at' X9
 subst hA3
 have tQ:=E9 Qz.out (T9 X9)
 have A8:(st.j4.take (i+1)).map u3.byte=(st.j4.take i).map u3.byte++[a.byte]:=by rw [List.take_add_one,X9];simp
 obtain ⟨xs,mC⟩:∃ x,(st.j4.take i).map u3.byte=x:=⟨_,rfl⟩
 have Ss:xs.length=i:=by rw [<- mC];simp;omega
 rw [mC] at how A8
 have L4:=H9 A8;have HXL:=H9 Ss;clear A8 mC Ss X9
 obtain ⟨Av,cv,hV,iU⟩:=y8 how
 subst hV
 refine wp_skip (Zs j8 fun _ j8=>wp_block (Ze fun _ l8=>Zr [25,26,6] hf ?_))
 refine F1 1 4 6 21 22 23 hf ?_
 intro a7 hf sS
 generalize cS:wr.alloc (.cells #[.int .u8 a.byte,.int .u64 a.out,.int .i64 a.to] 71)=W5
 obtain ⟨F3,z0,z1,z2, -, -⟩:=E7 cS
 clear cS
 clear y0 y1 y2 X3
 have eS:=n3 how F3
 have w9s:=F9.trans (F3.mono F9.size)
 refine Zx l8 ?_
 have q1:decide (0<=a.to)=true:=decide_eq_true tQ.1
 have q2:decide (a.to<(k:Int))=true:=decide_eq_true tQ.2
 refine Ze fun _ l8=> ?_
 have qs:=And.intro q1 q2
 refine Zr [27,28,29,30,31,32,33,34] hf ?_
 refine Z1 1 4 6 21 22 23 35 hf ?_
 clear hf sS qs;intro a7 hf sS
 refine Zx l8 (Fc.l7 sS.2.2.2.2.2.2 ?_)
 clear q1 q2
 refine rg ?_
 have bB:=hf.B5 36 37 38 39 40
 iterate 4 refine Zy ?_
 obtain ⟨s1,s4,s6,S9,X6,Q3,ZW⟩:=sS
 clear bB
 refine Fc.nL (n:=46) (by simp only [Fc.G,hf.size]) hf.defers (fun a7 y5 hT=> ?_)
 have J8:=Fc.h7 hT 1 4 21 22 23 36 39
 simp (decide:=true) only [Fc.G,hf.size,reduceIte,s1,s4,S9,X6,Q3] at J8
 replace hf:=y5;clear hT y5 s1 s4 s6 S9 X6 Q3 ZW
 obtain ⟨s1,s4,S9,X6,Q3,vN,cR⟩:=J8
 have bB:=hf.b 40
 refine ⟨?_⟩
 refine wpList_plain rfl fun K5 U6=> ?_
 refine J6 _ _ 31 rfl 5 _ 1 1 Tryz.underlying31 cD rfl dC dC W0.heap.size (.slice Av xs.length cv) xs.length _ (Fc.l5 vN) (eS.alloc _) W5.heap.size [.int .u8 a.byte] (Fc.l5 cR) rfl (E8 W5 _ _) (by intro u hu;simp at hu;subst hu;rfl) (by have:=HXL.out;omega) (by have:=hb.size;have:=F3.size;simp;omega) (fun v5 w5 X8 bN M6=>U6 _ _ ?_)
 refine Fc.L.out ?_
 refine Zy ?_
 refine Fc.nil (D2 1 4 21 22 23 hf ?_)
 clear hf s1 s4 S9 X6 Q3 vN cR bB;intro a7 hf sS
 have B1:=((hb.trans (F3.mono hb.size)).alloc (Nat.le_trans hb.size F3.size) _).grown bN (Nat.le_trans (Nat.le_trans hb.size F3.size) sP) (fun kk aB=>(eS.lt kk aB).1)
 have H8:OB w5 W0.heap.size v5 (xs++[a.byte]):=by unfold OB;rw [M1,List.length_append];exact X8
 refine Fc.j9 (Zx j8 (Zr [41] hf ?_))
 refine D2 1 4 21 22 23 hf ?_
 intro a7 hf sS
 refine Fc.j7 ?_
 obtain ⟨s1,s4,S9,X6,Q3⟩:=sS
 exact ⟨_,by have:=HK.out;omega,i+1,v5,rfl,oM,hf,s1,s4,S9,X6,by rw [Q3];rfl,by rw [L4.out];exact H8,B1⟩)
 . (
 have C3:i=st.j4.length:=qF
 rw [C3,List.take_length] at how
 clear hq C3 HK hi
 obtain ⟨DF,mY⟩:∃ x,st.j4.map u3.byte=x:=⟨_,rfl⟩
 have DG:DF.length=st.j4.length:=by rw [<- mY,List.length_map]
 have Ri:=tD (Qz.out)
 rw [mY] at how Ri
 have HB9:=H9 mY;clear mY
 obtain ⟨g9,A9,c9,mT,kz,lx⟩:=how.rb
 subst mT
 have HL9:=H9 DG;clear DG
 have HA9:=H9 kz;clear kz
 refine Zo ?_
 refine Zt a8 fun _ a8=> ?_
 have bB:=hf.b 42
 refine Zy ?_
 refine Zc (z6k wr A9 g9 DF.length c9 DF rfl (by have:=HL9.out;omega) lx Ri HA9.out) ?_;rintro e w2 ⟨rfl,r8⟩
 have y3g:=lx.later r8
 replace how:=how.Fy r8
 clear lx
 refine Zv ?_
 refine Fc.nil (p5 4 hf ?_)
 intro a7 hf s4
 refine Zt a8 fun _ a8=> ?_
 have bB:=hf.B2 44 45
 refine Zy ?_
 refine Zc (z6j w2 A9 g9 DF.length c9 DF rfl (by have:=HL9.out;omega) y3g Ri HA9.out) ?_;rintro e w3 ⟨rfl,G4⟩
 replace how:=how.Fy G4
 refine Zv ?_
 refine Zy ?_
 refine Fc.nil (p5 4 hf ?_)
 clear hf s4 bB;intro a7 hf s4
 refine Zx a8 (k8 ?_)
 exact Fc.o6 rfl hf s4 ⟨_,rfl,by rw [HB9.out];exact K7 how o7.size,(F9.trans (r8.mono F9.size)).trans (G4.mono (Nat.le_trans F9.size r8.size))⟩))
end Dw
namespace Inr
section
variable {P:Program} {n l:Nat} {Q:Exit->Act->World->Prop}
def Fe (r:Option Nat):Fence:=match r with
 | none=>Fence.wide
 | some l=>Fence.wide.inRound l
theorem WH {r:Option Nat} {row:String} {args:Array Value} {w:World} {R:Value->World->Prop} (h:Rows P row args w R):RowsIn (Fe r) n P row args w R:=by
 intro c cs _
 obtain ⟨v,w',hr,s⟩:=h c cs
 cases r with
 | none=>exact ⟨v,w',hr,stepsIn_wide.2 s⟩
 | some l=>exact ⟨v,w',hr,stepsIn_wide.2 s⟩
theorem Rj {r:Option Nat} {f:FuncId} {args:Array Value} {w:World} {R:Ending->World->Prop} (h:Calls P f args w R):CallsIn (Fe r) n P f args w R:=by
 cases r with
 | none=>exact callsIn_wide.2 h
 | some l=>exact (callsIn_wide.2 h).inRound l
theorem fe_depth (r:Option Nat):(Fe r).depth=none:=by cases r<;>rfl
theorem fe_fn (r:Option Nat) (f:FuncId):(Fe r).fn f:=by cases r<;>exact trivial
theorem sem_in (r:Option Nat) (ρ:Operand->Value) {o:Oper} (hd:∀ c,o.op≠ .defer c):o.semAt (Fe r).round ρ=execOp ρ o:=by
 cases r with
 | none=>rfl
 | some l=>exact Oper.semAt_some l ρ o hd
theorem op_in {r:Option Nat} {o:Oper} {a:Act} {w:World} {K:Act->World->Prop} (hd:∀ c,o.op≠ .defer c) (h:o.wp P a w K Q):o.wpIn (Fe r) n P a w K Q:=by
 refine ⟨fun f _=>fe_fn r f,?_⟩
 rw [sem_in r _ hd]
 unfold Oper.wp at h
 generalize (execOp a.eval o).run P w=res at h
 have h1:(Fe r).depth.isSome=true->1<=n:=fun h=>by rw [fe_depth] at h;cases h
 cases res with
 | ok x w'=>cases x<;>first | exact h | exact ⟨h1,Rj h⟩ | exact ⟨h1,WH h⟩ | exact h.elim
 | halt x w'=>cases x<;>exact h
def noDefer (ops:List Oper):Bool:=ops.all fun o=>match o.op with
 | .defer _=>false
 | _=>true
theorem nd_of {ops:List Oper} (h:noDefer ops=true) {o:Oper} (ho:o∈ops):∀ c,o.op≠ .defer c:=fun c hc=>by
 have:=List.all_eq_true.1 h o ho
 rw [hc] at this
 cases this
theorem zT {r:Option Nat} {ops:Array Oper} (hQ:¬ LetsOut Q) (hd:∀ (i:Nat) (o:Oper),ops[i]? =some o->∀ c,o.op≠ .defer c):∀ (fuel:Nat) (listed:Array Bool) (a:Act) (w:World),wpAny P .any ops Q fuel listed a w->wpAnyIn (Fe r) n P .any ops Q fuel listed a w
 | 0,_,_,_,h=>h
 | fuel+1,listed,a,w,h=>by
  refine ⟨h.1,fun i hi=> ?_⟩
  have h2:=h.2 i hi
  unfold wpOp at h2
  unfold wpOpIn
  cases ho:ops[i]? with
  | none=>rw [ho] at h2;exact zT hQ hd fuel _ _ _ h2
  | some o =>
   rw [ho] at h2
   simp only at h2 |-
   split at h2
   ·rename_i hw
    rw [if_pos hw]
    rcases h2 with h2 | h2
    ·exact op_in (hd i o ho) (Oper.wp_mono (fun a w=>zT hQ hd fuel _ a w) h2)
    ·exact absurd h2.2 hQ
   ·rename_i hw
    rw [if_neg hw]
    exact ⟨fun f _=>fe_fn r f,zT hQ hd fuel _ _ _ h2⟩
theorem drawn {r:Option Nat} {id:Nat} {l:List Oper} {a:Act} {w:World} (hQ:¬ LetsOut Q) (h:Sb.fC P id l.toArray Q a w []) (hd:noDefer l=true:=by rfl):(Code.region id l.toArray true).wpIn (Fe r) n P Q a w :=
 wpIn_region_any (Sb.gC h).1 (zT hQ (fun i o ho=>nd_of hd (T9 (by simpa using ho))) _ _ _ _ (Sb.gC h).2)
theorem EC {r:Option Nat} {id k:Nat} {l:List Oper} {a:Act} {w:World} (hQ:¬ LetsOut Q) (a6:Sb.OkOps l.toArray k) (h:Hid (Sb.OkOps l.toArray k)->Sb.fC P id l.toArray Q a w []) (hd:noDefer l=true:=by rfl):(Code.region id l.toArray true).wpIn (Fe r) n P Q a w:=drawn hQ (h (H9 a6)) hd
structure LI (r:Option Nat) (n:Nat) (P:Program) (ops:Array Oper) (Q:Exit->Act->World->Prop) (rest:List Oper) (a:Act) (w:World):Prop where
 out:wpListIn (Fe r) n P ops Q rest a w
variable {r:Option Nat} {ops:Array Oper} {rest:List Oper} {o:Oper} {a:Act} {w:World}
theorem MN {id:Nat} {l:List Oper} (h:LI r n P l.toArray Q l a w):(Code.region id l.toArray false).wpIn (Fe r) n P Q a w:=wpIn_region_lit h.out
theorem rgW {id:Nat} {l:List Oper} (n:Nat) (h:LI none n P l.toArray Q l a w):(Code.region id l.toArray false).wp P Q a w:=(wpIn_wide (n:=n)).1 (MN (r:=none) h)
theorem mM (h:Q .normal a w):LI r n P ops Q [] a w:=⟨wpListIn_nil h⟩
theorem dM (h:∀ K:Act->World->Prop,Hid (∀ a w,LI r n P ops Q rest a w->K a w)->o.wp P a w K Q) (hg:o.guard=none:=by rfl) (hd:noDefer [o]=true:=by rfl):LI r n P ops Q (o::rest) a w :=
 ⟨wpListIn_plain hg fun K hK=>op_in (nd_of hd (List.mem_singleton.2 rfl)) (h K (H9 fun a w hl=>hK a w hl.out))⟩
theorem lu {lp:Nat} {Rk:Array Value} {R:Ending->World->Prop} (hy:YieldAt (Fe r) (n-1) P lp Rk w R) (hs:(execOp a.eval o).run P w=(Instr.yield lp Rk).run P w)
  (hR:∀ e w',R e w'->∃ v,e= .returned v/\LI r n P ops Q rest (a.put o.dst v) w') (hg:o.guard=none:=by rfl) (hd:noDefer [o]=true:=by rfl):LI r n P ops Q (o::rest) a w:=by
 obtain ⟨fn,tmps,asg,body,h1,h2⟩:=hy
 refine ⟨wpListIn_plain hg fun K hK=>⟨fun f _=>fe_fn r f,?_⟩⟩
 rw [sem_in r _ (nd_of hd (List.mem_singleton.2 rfl)),hs,h1]
 refine ⟨fun h=>(by rw [fe_depth] at h;cases h),RoundIn.mono h2 fun e w' hr=> ?_⟩
 obtain ⟨v,rfl,h⟩:=hR e w' hr
 exact hK _ _ h.out
end
end Inr
def l3 (C:Obj->Prop) (B:Nat) (I:World->Prop):Prop :=
 ∀ W W' row,I W->W.grownBy W' row->(∀ r,row=some r->B<=r/\∃ o:Obj,W.heap[r]? =some o/\C o)->I W'
theorem l3.and {C:Obj->Prop} {B:Nat} {I J:World->Prop} (h:l3 C B I) (k:l3 C B J):l3 C B (fun W=>I W/\J W) :=
 fun W W' row hs hg hr=>⟨h W W' row hs.1 hg hr,k W W' row hs.2 hg hr⟩
theorem l3.pure (C:Obj->Prop) (B:Nat) (p:Prop):l3 C B (fun _=>p):=fun _ _ _ hs _ _=>hs
theorem l3.ex {β:Type} {C:Obj->Prop} {B:Nat} {I:β->World->Prop} (h:∀ b,l3 C B (I b)):l3 C B (fun W=>∃ b,I b W) :=
 fun W W' row ⟨b,hs⟩ hg hr=>⟨b,h b W W' row hs hg hr⟩
theorem l3.below {C:Obj->Prop} {n₀ B:Nat} {w₀:World} (hn:n₀<=w₀.heap.size) (hB:n₀<=B):l3 C B (fun W=>Below n₀ w₀ W) :=
 fun _ _ _ hs hg hr=>hs.grown hg (Nat.le_trans hn hs.size) (fun k e=>Nat.le_trans hB (hr k e).1)
theorem l3.block {C:Obj->Prop} {B k:Nat} {o:Obj} (h:k<B\/¬ C o):l3 C B (fun W=>W.heap[k]? =some o):=by
 intro W W' row hs hg hr
 refine (hg.block k (Array.getElem?_eq_some_iff.1 hs).1 (fun e=> ?_)).trans hs
 obtain ⟨hB,o',R2,hc⟩:=hr k e.symm
 rw [hs] at R2
 cases R2
 rcases h with h | h
 ·omega
 ·exact h hc
theorem l3.own {C:Obj->Prop} {B base:Nat} {e:TypeId} {size n:Nat} {v:Value} {xs:List Value} (hC:∀ cur,¬ C (.cells cur e (0,0))) :
  l3 C B (fun W=>W.ownsRow base e size v n xs):=by
 intro W W' row hs hg hr
 refine hs.kept hg ?_
 rcases hs.2 with ⟨rfl,_⟩ | ⟨g,cap,cur,rfl,_,XT,_⟩
 ·exact .inl rfl
 ·refine .inr (fun he=> ?_)
  obtain ⟨_,o,ho,hc⟩:=hr g he.symm
  rw [XT] at ho
  cases ho
  exact hC _ hc
theorem l3.alloc {C:Obj->Prop} {B:Nat} {I:World->Prop} (h:l3 C B I) {W:World} (hs:I W) (o:Obj):I (W.alloc o) :=
 h W _ none hs (World.grownBy_alloc W o none) (fun _ e=>by cases e)
theorem l3.put {C:Obj->Prop} {B:Nat} {I:World->Prop} (h:l3 C B I) {W:World} (hs:I W) {l:Nat} {o:Obj} (o':Obj) (hl:W.heap[l]? =some o) (hB:B<=l) (hc:C o):I (W.putObj l o') :=
 h W _ (some l) hs (grownBy_putObj' W l o') (fun r e=>by cases e;exact ⟨hB,o,hl,hc⟩)
def Iter {α:Type} (n:Nat) (P:Program) (C:Obj->Prop) (g:Nat) (lb:Array Value) (Lp:α->Array Value) (Kp:World->World->Prop) (S Sp:List α->Prop) (Nx:List α->α->Prop) (w:World):Prop :=
 ∀ (l:Nat) (J Jx:List α->World->Prop) (W:World),Below w.heap.size w W->w.heap.size+2<=W.heap.size->(∀ s,l3 C W.heap.size (J s))->(∀ s,l3 C W.heap.size (Jx s)) ->
  (∀ pre x W1,J pre W1->Nx pre x->YieldAt Fence.wide (n-1) P l (Lp x) W1 fun e W' =>
   (e= .returned (.bool true)/\J (pre++[x]) W'/\Kp W1 W')\/(e= .returned (.bool false)/\Jx (pre++[x]) W'/\Kp W1 W')) ->
  J [] W ->
  CallsIn Fence.wide n P g (#[.func (.yield l) #[] #[]]++lb) W fun e W'=>(∃ v,e= .returned v)/\((∃ xs,S xs/\J xs W')\/(∃ pre,Sp pre/\Jx pre W'))
def z6h {α:Type} (B:Nat) (Kp:World->World->Prop) (I:List α->World->Prop) (Ix:Code->List α->World->Prop) (xs:List α) (W:World):Exit->Act->World->Prop
 | .normal,_,W'=>KeepsFrom B W W'/\Kp W W'/\I xs W'
 | .ret,_,W'=>KeepsFrom B W W'/\Kp W W'/\Ix .ret xs W'
 | .exit id,_,W'=>KeepsFrom B W W'/\Kp W W'/\Ix (.exit id) xs W'
 | .goto t,_,W'=>KeepsFrom B W W'/\Kp W W'/\Ix (.goto t) xs W'
 | .panic _,_,_=>False
 | .outgrown,_,_=>False
def aF (C:Obj->Prop) (o:Obj):Prop:=o.isCells=false\/C o
section
variable {n:Nat} {P:Program}
theorem dX {α:Type} {g:Operand} {ps:Array Tmp} {assign body:Code} {Q:Exit->Act->World->Prop} {a:Act} {w:World} {C:Obj->Prop}
    {gf:Nat} {lb:Array Value} (hg:a.eval g= .func (.func gf) #[] lb) (eg:∀ args w,(callFunc gf args).run P w= .ok (.enter gf args) w)
    {Lp:α->Array Value} {Kp:World->World->Prop} {S Sp:List α->Prop} {Nx:List α->α->Prop} {w0:World} (y3f:Iter (n-1) P C gf lb Lp Kp S Sp Nx w0)
    (pg:∀ {A B C:World},Kp A B->Kp B C->Kp A C)
    (hKb:∀ (W:World) (o o':Obj),W.heap[w.heap.size+1]? =some o->o.isCells=false->o.isWalk=false->Kp W (W.putObj (w.heap.size+1) o'))
    (o7:Below w0.heap.size w0 w) (MW:∀ x,(Lp x).size=ps.size)
    (I:List α->World->Prop) (Ix:Code->List α->World->Prop) (hI:∀ s,l3 (aF C) w.heap.size (I s)) (hIx:∀ c s,l3 (aF C) w.heap.size (Ix c s)) (h0:I [] w)
    (Ax:α->Act->World->Prop) (hAx:∀ x a',l3 (aF C) w.heap.size (Ax x a'))
    (WK:∀ (l:Nat) (pre:List α) (x:α) (W:World) (K:Act->World->Prop),I pre W->(∀ a' W',KeepsFrom w.heap.size W W'->Kp W W'->I pre W'->Ax x a' W'->K a' W') ->
      assign.wpIn (Fence.wide.inRound l) (n-1-1) P (Exit.then K (fun _ _ _=>False)) { tmps:=(ps.zip (Lp x)).foldl (fun t (p,v)=>t.setIfInBounds p v) a.tmps,defers:=[] } W)
    (Hv:∀ (l:Nat) (pre:List α) (x:α) (a':Act) (W:World),w.heap.size<=l->(∃ r,W.heap[l]? =some (.loop r))->I pre W->Ax x a' W->Nx pre x ->
      body.wpIn (Fence.wide.inRound l) (n-1-1) P (z6h w.heap.size Kp I Ix (pre++[x]) W) a' W)
    (z6g:∀ (D:Nat) (xs:List α) (W:World),w.heap.size<=D->S xs->I xs W->W.heap[D]? =some (.deferred (some []))->Q .normal { a with defers:={ target:= .collected D,args:= #[] }::a.defers } W)
    (z6f:∀ (D:Nat) (c:Code) (pre:List α) (W:World),w.heap.size<=D->Sp pre->Ix c pre W->W.heap[D]? =some (.deferred (some []))->c.wpIn Fence.wide n P Q { a with defers:={ target:= .collected D,args:= #[] }::a.defers } W) :
    (Code.rangeFunc g ps assign body).wpIn Fence.wide n P Q a w:=by
  refine wpIn_rangeFunc ?_
  intro fn mh
  let rc:LoopState->Option Code->Loop:=fun st pe=>{ state:=st,pending:=pe,fn:=fn,tmps:=a.tmps,params:=ps,assign:=assign,body:=body,defers:=w.heap.size }
  let W1:World:=(w.alloc (.deferred (some []))).alloc (.loop (rc .ready none))
  have ow:W1.heap.size=w.heap.size+2:=by simp [W1]
  have hL1:W1.heap[w.heap.size+1]? =some (.loop (rc .ready none)):=by
    have:=World.alloc_heap_new (w.alloc (.deferred (some []))) (.loop (rc .ready none))
    rwa [World.size_alloc] at this
  have hD1:W1.heap[w.heap.size]? =some (.deferred (some [])):=(Below.heap_alloc _ _ _ sP).trans (World.alloc_heap_new w _)
  have hI1:I [] W1:=(hI []).alloc ((hI []).alloc h0 _) _
  have p6:Below w0.heap.size w0 W1:=o7.trans ((((Below.refl _ w).alloc nR _).alloc sP _).mono o7.size)
  refine ⟨w.heap.size+1,[{ target:= .collected w.heap.size,args:= #[] }],W1,{ target:= .fn (.func gf) lb,args:= #[.func (.yield (w.heap.size+1)) #[] #[]] },W1,gf,
    #[.func (.yield (w.heap.size+1)) #[] #[]]++lb,W1,?_,?_,?_,?_,?_,?_⟩
  . exact run_enterLoop_outer _ _ _ _ _
  . simp only [resolve,hg];simp [go_sem]
  . intro f' _;trivial
  . simp [invoke,go_sem,eg]
  . intro h;simp [Fence.wide] at h
  . -- the invariant that the iterator bears: the loop's own, and the two blocks of book-keeping
    have toB:∀ {A:World} {row:Option Nat},(∀ r,row=some r->W1.heap.size<=r/\∃ o:Obj,A.heap[r]? =some o/\C o)->(∀ r,row=some r->w.heap.size<=r/\∃ o:Obj,A.heap[r]? =some o/\aF C o) :=
      fun h r e=>⟨by have:=(h r e).1;omega,by obtain ⟨o,ho,hc⟩:=(h r e).2;exact ⟨o,ho,.inr hc⟩⟩
    have bk:∀ st pe,l3 C W1.heap.size (fun W=>W.heap[w.heap.size+1]? =some (.loop (rc st pe))/\W.heap[w.heap.size]? =some (.deferred (some []))):=fun st pe =>
      l3.and (l3.block (.inl oM)) (l3.block (.inl oM))
    refine (y3f (w.heap.size+1)
      (fun pre W=>I pre W/\(W.heap[w.heap.size+1]? =some (.loop (rc .ready none))/\W.heap[w.heap.size]? =some (.deferred (some []))))
      (fun pre W=>∃ c,Ix c pre W/\(W.heap[w.heap.size+1]? =some (.loop (rc .done (some c)))/\W.heap[w.heap.size]? =some (.deferred (some []))))
      W1 p6 (by have:=o7.size;omega)
      (fun s=>l3.and (fun A B row hs rE hr=>hI s A B row hs rE (toB hr)) (bk _ _))
      (fun s=>l3.ex fun c=>l3.and (fun A B row hs rE hr=>hIx c s A B row hs rE (toB hr)) (bk _ _))
      ?_ ⟨hI1,hL1,hD1⟩).mono ?_
    . rintro pre x W ⟨hi,hl,hk⟩ hlen
      have hy:=run_yield (P:=P) (args:=Lp x) hl (MW x)
      refine ⟨fn,_,assign,body,hy,roundIn_of_wpIn mh (WK _ pre x W _ hi ?_)⟩
      intro a' Wa Rm Ca X9 hax
      have pC:=Rm.same _ _ oM hl rfl
      have aU:=Rm.same _ _ nR hk rfl
      have lr:w.heap.size+1<Wa.heap.size:=(Array.getElem?_eq_some_iff.1 pC).1
      refine ⟨_,run_beginRound pC rfl,?_⟩
      have vU:(Wa.putObj (w.heap.size+1) (.loop (rc .busy none))).heap[w.heap.size+1]? =some (.loop (rc .busy none)):=World.putObj_heap_same lr
      have M9:(Wa.putObj (w.heap.size+1) (.loop (rc .busy none))).heap[w.heap.size]? =some (.deferred (some [])):=(World.putObj_heap_other oM).trans aU
      have EU:Kp Wa (Wa.putObj (w.heap.size+1) (.loop (rc .busy none))):=hKb _ _ _ pC rfl rfl
      refine wpIn_mono (Hv _ pre x a' _ oM ⟨_,vU⟩ ((hI pre).put X9 _ pC oM (.inl rfl)) ((hAx x a').put hax _ pC oM (.inl rfl)) hlen) ?_
      have fin:∀ (jump:Option Code) (W3:World),KeepsFrom w.heap.size (Wa.putObj (w.heap.size+1) (.loop (rc .busy none))) W3 ->
          (Instr.endRound (w.heap.size+1) jump).run P W3= .ok (.bool jump.isNone) (W3.putObj (w.heap.size+1) (.loop (rc (if jump.isNone then .ready else .done) jump))) /\
          W3.heap[w.heap.size+1]? =some (.loop (rc .busy none)) /\
          (W3.putObj (w.heap.size+1) (.loop (rc (if jump.isNone then .ready else .done) jump))).heap[w.heap.size+1]? =some (.loop (rc (if jump.isNone then .ready else .done) jump)) /\
          (W3.putObj (w.heap.size+1) (.loop (rc (if jump.isNone then .ready else .done) jump))).heap[w.heap.size]? =some (.deferred (some [])):=fun jump W3 yJ=>by
        have AF:=yJ.same _ _ oM vU rfl
        exact ⟨run_endRound (P:=P) jump AF,AF,World.putObj_heap_same (Array.getElem?_eq_some_iff.1 AF).1,(World.putObj_heap_other oM).trans (yJ.same _ _ nR M9 rfl)⟩
      have out:∀ (c:Code) (W3:World),KeepsFrom w.heap.size (Wa.putObj (w.heap.size+1) (.loop (rc .busy none))) W3->Kp (Wa.putObj (w.heap.size+1) (.loop (rc .busy none))) W3->Ix c (pre++[x]) W3 ->
          ∃ v w',(Instr.endRound (w.heap.size+1) (some c)).run P W3= .ok v w' /\
            ((Ending.returned v= .returned (.bool true)/\(I (pre++[x]) w'/\(w'.heap[w.heap.size+1]? =some (.loop (rc .ready none))/\w'.heap[w.heap.size]? =some (.deferred (some []))))/\Kp W w') \/
             (Ending.returned v= .returned (.bool false)/\(∃ c,Ix c (pre++[x]) w'/\(w'.heap[w.heap.size+1]? =some (.loop (rc .done (some c)))/\w'.heap[w.heap.size]? =some (.deferred (some []))))/\Kp W w')):=by
        intro c W3 yJ lq hi3
        obtain ⟨hr,AF,hl4,VE⟩:=fin (some c) W3 yJ
        exact ⟨_,_,hr,.inr ⟨rfl,⟨c,(hIx c _).put hi3 _ AF oM (.inl rfl),hl4,VE⟩,pg Ca (pg (pg EU lq) (hKb _ _ _ AF rfl rfl))⟩⟩
      intro e a3 W3 hp
      cases e with
      | normal =>
        obtain ⟨yJ,lq,hi3⟩:=hp
        obtain ⟨hr,AF,hl4,VE⟩:=fin none W3 yJ
        exact ⟨_,_,hr,.inl ⟨rfl,⟨(hI _).put hi3 _ AF oM (.inl rfl),hl4,VE⟩,pg Ca (pg (pg EU lq) (hKb _ _ _ AF rfl rfl))⟩⟩
      | ret=>exact out _ _ hp.1 hp.2.1 hp.2.2
      | exit id=>exact out _ _ hp.1 hp.2.1 hp.2.2
      | goto t=>exact out _ _ hp.1 hp.2.1 hp.2.2
      | panic ch=>exact hp.elim
      | outgrown=>exact hp.elim
    . rintro e W2 ⟨⟨v,rfl⟩,(⟨xs,hS,hi,hl,hk⟩ | ⟨pre,hSp,c,hi,hl,hk⟩)⟩
      . exact ⟨none,_,run_endLoop (P:=P) hl (by simp [rc]),z6g _ xs _ nR hS ((hI xs).put hi _ hl oM (.inl rfl)) ((World.putObj_heap_other oM).trans hk)⟩
      . exact ⟨some c,_,run_endLoop (P:=P) hl (by simp [rc]),z6f _ c pre _ nR hSp ((hIx c pre).put hi _ hl oM (.inl rfl)) ((World.putObj_heap_other oM).trans hk)⟩
end
namespace Dw
def CK (G:Nat) (w w':World):Prop:=w.heap.size<=w'.heap.size/\(∀ (p:Addr) (v:Value),p.block≠G->w.cell? p=some v->w'.cell? p=some v)/\∀ (k:Nat) (o:Obj),k≠G->o.isCells=true->w.heap[k]? =some o->w'.heap[k]? =some o
theorem CK.trans {G:Nat} {a b c:World} (h:CK G a b) (k:CK G b c):CK G a c:=⟨Nat.le_trans h.1 k.1,fun p v hp hv=>k.2.1 p v hp (h.2.1 p v hp hv),fun n o hn ho hh=>k.2.2 n o hn ho (h.2.2 n o hn ho hh)⟩
theorem CK.r9 {G:Nat} {w w':World} (hb:Below w.heap.size w w'):CK G w w':=⟨hb.size,fun p v _ hv=>cL hb hv,fun k o _ _ hh=>(hb.block k (j5 hh)).trans hh⟩
theorem RA.ck {G N:Nat} {w w':World} {v:Value} {l:List u3} (h:RA w (fun k=>k<N) v l) (hN:N<=G) (hc:CK G w w'):RA w' (fun k=>k<N) v l:=by
 obtain ⟨A,c,h1,h2,h3⟩:=h
 refine ⟨A,c,h1,h2,fun h0=> ?_⟩
 obtain ⟨b,off,h4,h5,h6⟩:=h3 h0
 exact ⟨b,off,h4,h5,fun j u hu=>hc.2.1 _ _ sQ (h6 j u hu)⟩
theorem pL.ck {G N:Nat} {w w':World} {sv:Value} {ss:List State} (h:pL w N sv ss) (hN:N<=G) (hc:CK G w w'):pL w' N sv ss:=by
 obtain ⟨A,c,h1,h2,h3⟩:=h
 refine ⟨A,c,h1,h2,fun h0=> ?_⟩
 obtain ⟨b,off,h4,h5,h6⟩:=h3 h0
 refine ⟨b,off,h4,h5,fun i s hi=> ?_⟩
 obtain ⟨av,h7⟩:=h6 i s hi
 exact ⟨av,hc.2.1 _ _ sQ h7.c0,hc.2.1 _ _ sQ h7.c1,hc.2.1 _ _ sQ h7.c2,h7.j4.ck hN hc⟩
theorem pL.rs {w:World} {N:Nat} {sv:Value} {ss:List State} (h:pL w N sv ss):RS w sv ss:=by
 obtain ⟨A,c,h1,h2,h3⟩:=h
 refine ⟨A,c,h1,h2,fun h0=> ?_⟩
 obtain ⟨b,off,h4,h5,h6⟩:=h3 h0
 refine ⟨b,off,h4,fun i s hi=> ?_⟩
 obtain ⟨av,h7⟩:=h6 i s hi
 exact ⟨av,h7.c0,h7.c1,h7.c2,h7.j4.more (fun k _ _=>trivial)⟩
theorem OB.kp {A B:World} {base:Nat} {v:Value} {l:List Nat} (h:OB A base v l) (hs:A.heap.size<=B.heap.size) (hk:∀ (g:Nat) (cs:Array Value),base<=g->A.heap[g]? =some (.cells cs 5 (0,0))->B.heap[g]? =some (.cells cs 5 (0,0))):OB B base v l:=by
 refine ⟨h.1,?_⟩
 rcases h.2 with h1 | ⟨g,cap,cur,rfl,h2,h3,h4⟩
 ·exact .inl h1
 ·exact .inr ⟨g,cap,cur,rfl,h2,hk g _ h2 h3,h4⟩
theorem oV {W W':World} (hb:Below W.heap.size W W'):W.grownBy W' none:=⟨hb.os,hb.tape,hb.output,hb.size,fun k hk _=>hb.block k hk⟩
theorem _root_.Go.Proofs.YtcddnmhmcieebaaGreatDoor.l3.r9 {C:Obj->Prop} {B:Nat} {I:World->Prop} (h:l3 C B I) {W W':World} (hs:I W) (hb:Below W.heap.size W W'):I W':=h W W' none hs (oV hb) (fun r e=>by cases e)
theorem nJ {e:Ending} {A B:Prop} (h:(e= .returned (.bool true)/\A)\/(e= .returned (.bool false)/\B)):∃ b:Bool,e= .returned (.bool b)/\((b=true/\A)\/(b=false/\B)):=by
 rcases h with ⟨h,k⟩ | ⟨h,k⟩
 ·exact ⟨true,h,.inl ⟨rfl,k⟩⟩
 ·exact ⟨false,h,.inr ⟨rfl,k⟩⟩
theorem Rn {k i:Nat} {l:List u3} {a:u3} (a6:okArcs k (-1) l=true) (hi:l[i]? =some a):l.find? (G8 a.byte k)=some a:=by
 have hr:=tD a6
 have tQ:=E9 a6 (T9 hi)
 obtain ⟨o9,KN⟩:=H2 hi
 rw [List.find?_eq_some_iff_getElem]
 refine ⟨by unfold G8;simp [tQ.1,tQ.2],i,o9,KN,fun j hj=> ?_⟩
 have zW:j<l.length:=oM
 have p6:(l.map u3.byte)[j]? =some l[j].byte:=by rw [List.getElem?_map,F8 zW];rfl
 have r8:(l.map u3.byte)[i]? =some a.byte:=by rw [List.getElem?_map,hi];rfl
 have:=hr.out j i _ _ hj p6 r8
 unfold G8
 have F0:(l[j].byte==a.byte)=false:=beq_eq_false_iff_ne.2 oM
 simp [F0]
theorem xY (w:World) (sv:Value) (init k:Nat) (ss:List State) (o8:RS w sv ss):Calls Tryz.prog 141 #[.agg #[sv,.int .u64 init],.int .i64 k] w fun e w1=>e= .returned (.func (.func 156) #[] #[.pointer (some ⟨w.heap.size,0,none⟩),.pointer (some ⟨(w.heap.size+1),0,none⟩)])/\w1.cell? ⟨w.heap.size,0,none⟩=some sv/\w1.cell? ⟨w.heap.size,1,none⟩=some (.int .u64 init)/\w1.cell? ⟨w.heap.size+1,0,none⟩=some (.int .i64 k)/\Below w.heap.size w w1/\w1.heap[w.heap.size]? =some (.cells #[sv,.int .u64 init] 38 (0,0))/\w1.heap[w.heap.size+1]? =some (.cells #[.int .i64 k] 3 (0,0)):=by
 refine Z6 6 Tryz.func141 fun fr hf s0 s1=> ?_
 obtain ⟨A,cc,rfl,U0⟩:=o8.form
 refine Ze fun _ a8=>Zr [] hf ?_
 refine y4 2 3 hf ?_
 clear hf s0 s1;intro a7 hf sS
 obtain ⟨W0,p8⟩:∃ x,(w.alloc (.cells #[.slice A ss.length cc,.int .u64 init] 38)).alloc (.cells #[.int .i64 k] 3)=x:=⟨_,rfl⟩
 obtain ⟨s2,s3⟩:=sS
 try simp only [World.size_alloc] at s3
 try rw [p8]
 obtain ⟨o7,E3,C9⟩:=D8 p8
 clear p8
 have c0:=n5 0 E3;have c1:=n5 1 E3;have k0:=n5 0 C9
 simp at c0 c1 k0
 refine Zs a8 fun _ a8=>Zr [5] hf ?_
 refine p5 4 hf ?_
 clear hf s2 s3;intro a7 hf s4
 refine Zx a8 (k8 ?_)
 exact Fc.o6 rfl hf s4 ⟨rfl,c0,c1,k0,o7,E3,C9⟩
theorem WL (W:World) (n l p0 p1 init k:Nat) (ss:List State) (st:State) (sv:Value) (J Jx:List u3->World->Prop) (Kp:World->World->Prop) (F:World->Prop)
    (hY:∀ pre (x:u3) W1,J pre W1->pre++[x] <+: st.j4->YieldAt Fence.wide (n-1) Tryz.prog l #[.int .u8 x.byte,.agg #[.int .i64 x.to,.int .u64 x.out]] W1 fun e W'=>(e= .returned (.bool true)/\J (pre++[x]) W'/\Kp W1 W')\/(e= .returned (.bool false)/\Jx (pre++[x]) W'/\Kp W1 W'))
    (hJ:∀ s,l3 (fun _=>False) W.heap.size (J s)) (hF:∀ {V:World},F V->V.cell? ⟨p0,0,none⟩=some sv/\V.cell? ⟨p0,1,none⟩=some (.int .u64 init)/\V.cell? ⟨p1,0,none⟩=some (.int .i64 k)/\RS V sv ss)
    (hFb:∀ {A B:World},Below A.heap.size A B->F A->F B) (hFk:∀ {A B:World},Kp A B->F A->F B) (hKs:∀ {A B:World},Kp A B->A.heap.size<=B.heap.size)
    (hKo:∀ {A B:World} (g:Nat) (cs:Array Value),W.heap.size<=g->Kp A B->A.heap[g]? =some (.cells cs 5 (0,0))->B.heap[g]? =some (.cells cs 5 (0,0))) (Dh:F W)
    (hk:ss[k]? =some st) (jQ:ss.length<=1000000000) (a6:okArcs k (-1) st.j4=true) (hlen:st.j4.length<=1000000) (h0:J [] W):Calls Tryz.prog 156 #[.func (.yield l) #[] #[],.pointer (some ⟨p0,0,none⟩),.pointer (some ⟨p1,0,none⟩)] W fun e W'=>(∃ v,e= .returned v)/\((∃ xs,xs=st.j4/\J xs W')\/(∃ pre,pre <+: st.j4/\Jx pre W')):=by
 refine dT 33 Tryz.func156 fun fr hf s0 s1 s2=> ?_
 obtain ⟨c0,c1,k0,o8⟩:=hF Dh
 obtain ⟨A,cc,rfl,U0⟩:=o8.form
 refine Ze fun _ a8=>rg ?_
 have bB:=hf.B3 9 10 11
 iterate 2 refine Zy ?_
 refine Zc (Rh W _ init ss o8 k st hk jQ a6 hlen) ?_;rintro e w1 ⟨v1,rfl,LJ,p6⟩
 obtain ⟨DF,mY⟩:∃ x,st.j4.map u3.byte=x:=⟨_,rfl⟩
 have DG:DF.length=st.j4.length:=by rw [<- mY,List.length_map]
 rw [mY] at LJ
 obtain ⟨_,A9,c9,mT, -, -⟩:=LJ.rb
 subst mT
 have HL9:=H9 DG;have HB9:=H9 mY;clear DG mY
 have Yh:=hFb p6 Dh
 have YF:=(hJ []).r9 h0 p6
 clear o8 c0 c1 k0 Dh
 refine Zv ?_
 iterate 2 refine Zy ?_
 refine Fc.nil (F1 0 1 2 11 12 13 hf ?_)
 clear hf s0 s1 s2 bB;intro a7 hf sS
 refine Zx a8 (wp_block (wp_loop_ghost (fun gk fr wr=>∃ (i:Nat),gk=DF.length-i/\i<=DF.length/\Fc.Fr 33 fr/\fr.tmps[0]? =some (.func (.yield l) #[] #[])/\fr.tmps[1]? =some (.pointer (some ⟨p0,0,none⟩))/\fr.tmps[2]? =some (.pointer (some ⟨p1,0,none⟩))/\fr.tmps[11]? =some (.slice A9 DF.length c9)/\fr.tmps[12]? =some (.int .i64 DF.length)/\fr.tmps[13]? =some (.int .i64 i)/\F wr/\OB wr W.heap.size (.slice A9 DF.length c9) DF/\J (st.j4.take i) wr) (DF.length) ?_ ?_))
 . (
 obtain ⟨s0,s1,s2,D9,F7,D1⟩:=sS
 exact ⟨0,rfl,Nat.zero_le _,hf,s0,s1,s2,D9,F7,D1,Yh,LJ,YF⟩)
 . (
 clear hf sS
 clear Yh YF LJ
 rintro gk fr wr ⟨i,dA,hi,hf,s0,s1,s2,D9,F7,D1,Yh,how,hj⟩
 have HK:=H9 dA;clear dA
 obtain ⟨c0,c1,k0,o8⟩:=hF Yh
 refine Ze fun _ a8=>Zr [] hf ?_
 refine Z1 0 1 2 11 12 13 14 hf ?_
 clear hf s0 s1 s2 D9 F7 D1;intro a7 hf sS
 refine Zs a8 fun _ a8=>Fc.l0 sS.2.2.2.2.2.2 (fun hq=> ?_) (fun hq=> ?_)
 . (
 have o9:i<DF.length:=qT
 clear hq
 have lr:i<st.j4.length:=by have:=HL9.out;omega
 obtain ⟨a,X9⟩:∃ a,st.j4[i]? =some a:=⟨_,F8 lr⟩
 have ak:DF[i]? =some a.byte:=by rw [<- HB9.out,List.getElem?_map,X9];rfl
 obtain ⟨g9,rfl,XT, -,cb⟩:=how.cell ak
 have MR:=Rn a6 X9
 have A8:st.j4.take (i+1)=st.j4.take i++[a]:=by rw [List.take_add_one,X9];rfl
 have HFD:=H9 MR;have L4:=H9 A8;clear MR A8 X9 ak
 refine wp_skip (Zs a8 fun _ a8=>wp_block (Ze fun _ j8=>Zr [15,16] hf ?_))
 refine Z1 0 1 2 5 11 12 13 hf ?_
 intro a7 hf sS
 refine Zt j8 fun _ j8=> ?_
 have bB:=hf.B8 18 19 20 21 17 22 23 24
 iterate 3 refine Zy ?_
 refine Zc (yE wr _ init ss o8 k a.byte st hk jQ oM) ?_;rintro e w2 ⟨rfl,r8⟩
 rw [HFD.out]
 simp only [stepV]
 have hj2:=(hJ _).r9 hj r8
 have y2x:=hFb r8 Yh;have bS:=n3 how r8
 clear c0 c1 k0 Yh how hj cb o8
 refine Zv ?_
 iterate 7 refine Zy ?_
 refine Fc.nil (tZ 0 1 2 5 6 7 11 12 13 hf ?_)
 intro a7 hf sS
 refine Zs j8 fun _ j8=> ?_
 obtain ⟨s0,s1,s2,s5,s6,s7,D9,F7,D1⟩:=sS
 refine Inr.rgW n ?_
 obtain ⟨Yf,Sv,Yg,pd,ML,b30⟩:=hf.B6 25 26 27 28 29 30
 refine Inr.dM fun K Z=> ?_
 go_simp
 apply Z.out;clear Z K
 refine Inr.dM fun K Z=> ?_
 go_simp
 apply Z.out;clear Z K
 refine Inr.dM fun K Z=> ?_
 go_simp
 apply Z.out;clear Z K
 refine Inr.dM fun K Z=> ?_
 go_simp
 apply Z.out;clear Z K
 refine Inr.dM fun K Z=> ?_
 go_simp
 apply Z.out;clear Z K
 have hy:=hY (st.j4.take i) a w2 hj2 (by rw [<- L4.out];exact List.take_prefix _ _)
 refine Inr.lu (r:=none) hy (by simp [execOp,go_sem,s0,s5,s6,s7,Yf,Sv,Yg,pd,ML]) (fun e W3 hz=> ?_) rfl rfl
 obtain ⟨bt,rfl,X0⟩:=nJ hz
 refine ⟨_,rfl,?_⟩
 clear hy hz
 refine Inr.dM fun K Z=> ?_
 go_simp
 apply Z.out;clear Z K
 refine Inr.mM ?_
 refine Z1 0 1 2 11 12 13 31 hf ?_
 clear hf s0 s1 s2 s5 s6 s7 D9 F7 D1 Yf Sv Yg pd ML b30;intro a7 hf sS
 refine Zx j8 (Fc.l0 sS.2.2.2.2.2.2 (fun R0=> ?_) (fun R0=> ?_))
 . (
 have l6:bt=false:=by simpa using R0
 obtain ⟨h9, -⟩ | ⟨-,hjx, -⟩:=X0
 . (
 rw [l6] at h9;cases h9)
 refine k8 ?_
 exact Fc.Yt rfl hf ⟨⟨_,rfl⟩,.inr ⟨_,by rw [<- L4.out];exact List.take_prefix _ _,hjx⟩⟩)
 . (
 have l6:bt=true:=by simpa using R0
 obtain ⟨-,KJ,Z8⟩ | ⟨h9, -⟩:=X0;rotate_left;(rw [l6] at h9;cases h9)
 have Yh:=hFk Z8 y2x;have how:=OB.kp (l:=DF) bS (hKs Z8) (fun g cs hg=>hKo g cs hg Z8)
 rw [<- L4.out] at KJ
 have hj:=KJ
 clear R0 l6
 refine wp_skip (Fc.j9 (Zx a8 (Zr [32] hf ?_)))
 refine F1 0 1 2 11 12 13 hf ?_
 intro a7 hf sS
 refine Fc.j7 ?_
 obtain ⟨s0,s1,s2,D9,F7,D1⟩:=sS
 exact ⟨_,by have:=HK.out;omega,i+1,rfl,oM,hf,s0,s1,s2,D9,F7,by rw [D1];rfl,Yh,how,hj⟩))
 . (
 have C3:i=st.j4.length:=by have h9:=of_decide_eq_false hq;have:=HL9.out;omega
 clear hq
 rw [C3,List.take_length] at hj
 refine Zo ?_
 exact Fc.mE rfl hf ⟨⟨_,rfl⟩,.inl ⟨_,rfl,hj⟩⟩))
def bF {α:Type} (z:α) (wi:α->α->Nat->α) (vs:List α) (x:α) (l:List u3):α:=l.foldl (fun x a=>wi x (vs.getD a.to.toNat z) a.out) x
def r6 {α:Type} (z:α) (o:State->α) (wi:α->α->Nat->α) (ss:List State):List α:=ss.foldl (fun vs st=>vs++[bF z wi vs (o st) st.j4]) []
section
variable {α:Type} {z:α} {o:State->α} {wi:α->α->Nat->α} {ss:List State}
theorem T0 {i:Nat} {st:State} (h:ss[i]? =some st):r6 z o wi (ss.take (i+1))=r6 z o wi (ss.take i)++[bF z wi (r6 z o wi (ss.take i)) (o st) st.j4]:=by
 unfold r6
 rw [List.take_add_one,h]
 simp [List.foldl_append]
theorem S3:∀ (i:Nat),i<=ss.length->(r6 z o wi (ss.take i)).length=i
 | 0,_=>by simp [r6]
 | i+1,h=>by rw [T0 (F8 h),List.length_append,S3 i oM];rfl
theorem P3 (ss:List State):(r6 z o wi ss).length=ss.length:=by have h:=S3 (z:=z) (o:=o) (wi:=wi) (ss:=ss) ss.length nR;rwa [List.take_length] at h
theorem dY (vs:List α) (x:α) (l:List u3) (a:u3):bF z wi vs x (l++[a])=wi (bF z wi vs x l) (vs.getD a.to.toNat z) a.out:=by simp [bF,List.foldl_append]
def cN (z:α) (n:Nat) (vs:List α):List α:=vs++List.replicate (n-vs.length) z
theorem qX {n:Nat} {vs:List α} (h:vs.length<=n):(cN z n vs).length=n:=by simp [cN];omega
theorem Aq {n i:Nat} {vs:List α} (x:α) (hi:vs.length=i) {j:Nat} (hj:j<i):((cN z n vs).set i x)[j]? =some (vs.getD j z):=by
 subst hi
 rw [List.getElem?_set_ne oM]
 unfold cN
 rw [List.getElem?_append_left hj,List.getD_eq_getElem?_getD,F8 hj]
 rfl
theorem Ga {n i:Nat} {vs:List α} (x:α) (hi:vs.length=i) (hn:i<n):((cN z n vs).set i x)[i]? =some x:=by
 subst hi
 rw [List.getElem?_set_self (by rw [qX oM];exact hn)]
theorem vP {n i:Nat} {vs:List α} (x:α) (hi:vs.length=i) (hn:i<n):(cN z n vs).set i x=cN z n (vs++[x]):=by
 subst hi
 unfold cN
 rw [List.set_append_right _ _ nR,Nat.sub_self,List.length_append,List.length_singleton]
 obtain ⟨k,hk⟩:∃ k,n-vs.length=k+1:=⟨n-vs.length-1,oM⟩
 rw [hk,show n-(vs.length+1)=k by omega,List.replicate_succ,List.set_cons_zero,List.append_assoc]
 rfl
theorem vQ {n:Nat} {vs:List α} (h:vs.length=n):cN z n vs=vs:=by subst h;simp [cN]
theorem fQ {Ok:Nat->α->Prop} (ho:∀ i st,ss[i]? =some st->Ok i (o st)) (hw:∀ i j x c u,Ok i x->j<i->Ok j c->u<18446744073709551616->Ok i (wi x c u))
  (a6:∀ s∈ss,L3 s) (D6:∀ (k:Nat) (st:State),ss[k]? =some st->okArcs k (-1) st.j4=true):∀ (i:Nat),i<=ss.length->∀ (j:Nat) (x:α),(r6 z o wi (ss.take i))[j]? =some x->Ok j x
 | 0,_=>by intro j x h;simp [r6] at h
 | i+1,h=>by
  intro j x hx
  have ih:=fQ ho hw a6 D6 i oM
  have hs:=F8 (l:=ss) h
  have hl:=S3 (z:=z) (o:=o) (wi:=wi) (ss:=ss) i oM
  rw [T0 hs] at hx
  rcases Nat.lt_or_ge j i with hj | hj
  ·rw [List.getElem?_append_left oM] at hx
   exact ih j x hx
  ·rw [List.getElem?_append_right oM,hl] at hx
   obtain rfl:j=i:=by have:=(H2 hx).1;simp at this;omega
   simp at hx
   subst hx
   have A8:=a6 _ (List.getElem_mem h)
   have tQ:=D6 _ _ hs
   suffices ∀ (pre l:List u3),ss[j].j4=pre++l->Ok j (bF z wi (r6 z o wi (ss.take j)) (o ss[j]) pre)->Ok j (bF z wi (r6 z o wi (ss.take j)) (o ss[j]) (pre++l)) from this [] _ rfl (ho _ _ hs)
   intro pre l
   induction l generalizing pre with
   | nil=>intro _ h;rwa [List.append_nil]
   | cons a l mc =>
    intro he hx
    rw [show pre++a::l=(pre++[a])++l by simp] at he |-
    refine mc _ he ?_
    rw [dY]
    have ve:a∈ss[j].j4:=by rw [he];simp
    have ht:=E9 tQ ve
    refine hw _ a.to.toNat _ _ _ hx oM (ih _ _ ?_) (A8.2.2 a ve).2.1
    rw [List.getD_eq_getElem?_getD,F8 oM]
    rfl
theorem GZ {Ok:Nat->α->Prop} (ho:∀ i st,ss[i]? =some st->Ok i (o st)) (hw:∀ i j x c u,Ok i x->j<i->Ok j c->u<18446744073709551616->Ok i (wi x c u))
  (a6:∀ s∈ss,L3 s) (D6:∀ (k:Nat) (st:State),ss[k]? =some st->okArcs k (-1) st.j4=true) {i:Nat} {st:State} (hs:ss[i]? =some st):∀ (pre:List u3),pre <+: st.j4->Ok i (bF z wi (r6 z o wi (ss.take i)) (o st) pre):=by
 intro pre
 have hi:=(H2 hs).1
 have hl:=S3 (z:=z) (o:=o) (wi:=wi) (ss:=ss) i oM
 suffices ∀ (k:Nat),k<=pre.length->pre <+: st.j4->Ok i (bF z wi (r6 z o wi (ss.take i)) (o st) (pre.take k)) by
  intro hp;have:=this pre.length nR hp;rwa [List.take_length] at this
 intro k hk hp
 induction k with
 | zero=>exact ho _ _ hs
 | succ k ih =>
  obtain ⟨t,ht⟩:=hp
  have Z5:pre[k]∈st.j4:=by rw [<- ht];exact List.mem_append_left _ (List.getElem_mem oM)
  rw [List.take_succ_eq_append_getElem oM,dY]
  have h2:=E9 (D6 _ _ hs) Z5
  refine hw _ pre[k].to.toNat _ _ _ (ih oM) oM (fQ (z:=z) ho hw a6 D6 i oM _ _ ?_) ((a6 _ (T9 hs)).2.2 _ Z5).2.1
  rw [List.getD_eq_getElem?_getD,F8 oM]
  rfl
end
def P8 (G:Nat):List Deferred->Nat->World->Prop
 | [],_,_=>True
 | d::ds,n,w=>∃ D,d={ target:= .collected D,args:= #[] }/\G<D/\D<n/\w.heap[D]? =some (.deferred (some []))/\P8 G ds D w
theorem P8.turn {G:Nat} {w w':World}:∀ {ds:List Deferred} {n m:Nat},P8 G ds n w->n<=m->(∀ D,G<D->D<n->w.heap[D]? =some (.deferred (some []))->w'.heap[D]? =some (.deferred (some [])))->P8 G ds m w'
 | [],_,_,_,_,_=>trivial
 | d::ds,n,m,⟨D,h1,h2,h3,h4,h5⟩,hm,h=>⟨D,h1,h2,Nat.lt_of_lt_of_le h3 hm,h D h2 h3 h4,h5.turn nR fun E e1 e2=>h E e1 (Nat.lt_trans e2 h3)⟩
theorem P8.below {G n m:Nat} {ds:List Deferred} {w w':World} (h:P8 G ds n w) (hm:n<=m) (hb:Below n w w'):P8 G ds m w':=h.turn hm fun D _ hD hh=>(hb.block D hD).trans hh
theorem gA {P:Program} {fn:Func} {tmps:Array Value} {R:Ending->World->Prop} {G:Nat}:∀ {ds:List Deferred} {n:Nat} {w:World},P8 G ds n w ->
  (∀ w',Below (G+1) w w'->∃ v,(results fn tmps).run P w'= .ok v w'/\R (.returned v) w')->LeavesInM Fence.wide 9 P fn tmps R ds .returning w
 | [],n,w,_,h=>h w (Below.refl _ _)
 | d::ds,n,w,⟨D,h1,h2,h3,h4,h5⟩,h=>by
  subst h1
  refine ⟨sP,.inl ⟨_,_,rfl,run_takeDeferred h4,?_⟩⟩
  have hb:Below (G+1) w (w.putObj D (.deferred none)):=(Below.refl _ w).grown (grownBy_putObj' w D _) (by have:=(Array.getElem?_eq_some_iff.1 h4).1;omega) (fun k e=>by cases e;omega)
  exact gA (h5.turn nR fun E _ e2 hE=>(World.putObj_heap_other oM).trans hE) fun w' hw=>h w' (hb.trans hw)
theorem xX {P:Program} {f:FuncId} {fn:Func} {c:Code} {args:Array Value} {w:World} {R:Ending->World->Prop} (hf:P.funcs[f]? =some fn) (hb:fn.body=some c)
  (h:c.wp P (bodyPostM Fence.wide 9 P fn R) { tmps:=args++Array.replicate (fn.ntmps-args.size) undef,defers:=[] } w):Calls P f args w R :=
 (callsIn_wide (n:=9)).1 (callsIn_of_wp_marks hf hb trivial (wpIn_wide.2 h) rfl)
theorem gH {P:Program} {o:Oper} {a:Act} {w:World} {K:Act->World->Prop} {Q:Exit->Act->World->Prop} {g:FuncId} {args:Array Value} {R:Ending->World->Prop} (hs:(execOp a.eval o).run P w= .ok (.enter g args) w)
  (hc:Calls P g args w R) (hR:∀ e w',R e w'->∃ v,e= .returned v/\K (a.put o.dst v) w'):o.wp P a w K Q:=by
 unfold Oper.wp
 rw [hs]
 exact hc.mono fun e w' h=>by obtain ⟨v,rfl,h2⟩:=hR e w' h;exact h2
theorem l3.cell {B:Nat} {p:Addr} {v:Value}:l3 (aF fun _=>False) B (fun W=>W.cell? p=some v):=by
 intro W W' row hs hg hr
 have o9:p.block<W.heap.size:=G2 hs
 refine (World.cell?_of_block (hg.block p.block o9 fun e=> ?_)).trans hs
 obtain ⟨_,o,ho,hc⟩:=hr _ e.symm
 rcases hc with hc | hc
 ·unfold World.cell? at hs
  rw [ho] at hs
  cases o<;>first | (cases hs;done) | (cases hc;done)
 ·exact hc
theorem l3.cells {B k:Nat} {o:Obj} (ho:o.isCells=true):l3 (aF fun _=>False) B (fun W=>W.heap[k]? =some o):=by
 intro W W' row hs hg hr
 refine (hg.block k (j5 hs) fun e=> ?_).trans hs
 obtain ⟨_,o2,tX,hc⟩:=hr _ e.symm
 rw [hs] at tX
 cases tX
 rcases hc with hc | hc
 ·rw [ho] at hc;cases hc
 ·exact hc
theorem l3.ck {B G:Nat} {W0:World}:l3 (aF fun _=>False) B (CK G W0):=by
 intro W W' row hs hg hr
 exact ⟨Nat.le_trans hs.1 hg.size,fun p v hp hv=>l3.cell W W' row (hs.2.1 p v hp hv) hg hr,fun k o hk ho hh=>l3.cells ho W W' row (hs.2.2 k o hk ho hh) hg hr⟩
theorem l3.rp {G B:Nat}:∀ {ds:List Deferred} {n:Nat},n<=B->l3 (aF fun _=>False) B (P8 G ds n)
 | [],_,_=>l3.pure _ _ _
 | d::ds,n,h=>by
  intro W W' row hs hg hr
  refine hs.turn nR fun D _ hD hh=> ?_
  exact l3.block (.inl oM) W W' row hh hg hr
theorem CK.set {G:Nat} {w w':World} (h:CK G w w') {p:Addr} (hp:p.block=G) (v:Value):CK G w (w'.setCell p v) :=
 ⟨Nat.le_trans h.1 sP,fun q u hq hu=>(World.cell?_of_block (Below.heap_setCell _ _ _ _ (by rw [hp];exact hq))).trans (h.2.1 q u hq hu),fun k o hk ho hh=>(Below.heap_setCell _ _ _ _ (by rw [hp];exact hk)).trans (h.2.2 k o hk ho hh)⟩
theorem CK.refl (G:Nat) (w:World):CK G w w:=⟨nR,fun _ _ _ h=>h,fun _ _ _ _ h=>h⟩
theorem L9 {W W':World} (hb:Below W.heap.size W W'):KeepsOthers W W':=⟨hb.size,fun k _o h _=>(hb.block k (Array.getElem?_eq_some_iff.1 h).1).trans h⟩
theorem CK.put {G l:Nat} {W:World} {o:Obj} (o':Obj) (ho:W.heap[l]? =some o) (hc:o.isCells=false):CK G W (W.putObj l o') :=
 ⟨sP,fun p v _ hv=>l3.cell (B:=l) W _ (some l) hv (grownBy_putObj' W l o') (fun r e=>by cases e;exact ⟨nR,o,ho,.inl hc⟩),fun k o2 _ tX hh=>l3.cells tX (B:=l) W _ (some l) hh (grownBy_putObj' W l o') (fun r e=>by cases e;exact ⟨nR,o,ho,.inl hc⟩)⟩
theorem z6b {P:Program} {fn:Func} {R:Ending->World->Prop} {G n N t:Nat} {ds:List Deferred} {a:Act} {w:World} {v:Value} (h:fn.results= #[.tmp t]) (hf:Fc.K1 ds N a) (s:a.tmps[t]? =some v) (hc:P8 G ds n w) (hR:∀ w',Below (G+1) w w'->R (.returned v) w'):bodyPostM Fence.wide 9 P fn R .ret a w:=by
 show LeavesInM Fence.wide 9 P fn a.tmps R a.defers .returning w
 rw [hf.defers]
 exact gA hc fun w' hw=>⟨v,by rw [results_tmp h,Fc.aW s],hR w' hw⟩
theorem Ws {P:Program} {fn:Func} {R:Ending->World->Prop} {G n N p g:Nat} {ty t:TypeId} {ds:List Deferred} {a:Act} {w:World} {cs:Array Value} {fr:Nat×Nat} {d:TypeDesc} (h:fn.results= #[.cell p ty]) (hf:Fc.K1 ds N a)
  (sp:a.tmps[p]? =some (.pointer (some ⟨g,0,none⟩))) (hg:w.heap[g]? =some (.cells cs t fr)) (hgG:g<=G) (hu:P.underlying ty=some d) (hd:(match d with | .struct _ | .array _ _=>true | _=>false)=true) (hi:(P.info? ty).map (·.size)=some cs.size)
  (hc:P8 G ds n w) (hR:∀ w',Below (G+1) w w'->R (.returned (.agg cs)) w'):bodyPostM Fence.wide 9 P fn R .ret a w:=by
 show LeavesInM Fence.wide 9 P fn a.tmps R a.defers .returning w
 rw [hf.defers]
 refine gA hc fun w' hw=>⟨.agg cs,?_,hR w' hw⟩
 have rE:=(hw.block g oM).trans hg
 have oX:a.tmps[p]?.getD undef= .pointer (some ⟨g,0,none⟩):=by simp [sp]
 have h2:(results fn a.tmps).run P w'=((asAddr (a.tmps.getD p undef)).run P w').andThen fun x w₁=>(loadVar ty x).run P w₁:=by
  simp only [results,h]
  simp [Sem.run_bind,Result.andThen]
 rw [h2]
 simp [oX,asAddr,run_loadVar_row w' g t ty cs fr d rE hu hd hi,Result.andThen]
theorem pM {ds:List Deferred} {N p q:Nat} {v1 v2:Value} {fr:Act} (hf:Fc.K1 ds N fr) (hp:Nat.blt p N=true) (hq:Nat.blt q N=true) (vY:Nat.beq p q=false) {M:Act->Prop}
  (h:∀ a1:Act,Fc.Fr N a1->a1.tmps[p]? =some v1->a1.tmps[q]? =some v2->(∀ t,Nat.beq p t=false->Nat.beq q t=false->a1.tmps[t]? =fr.tmps[t]?)->M a1):M { tmps:=(#[p,q].zip #[v1,v2]).foldl (fun t (p,v)=>t.setIfInBounds p v) fr.tmps,defers:=[] }:=by
 have oX:p<fr.tmps.size:=hf.l p hp
 have hq':q<fr.tmps.size:=hf.l q hq
 have F0:p≠q:=Nat.ne_of_beq_eq_false vY
 have e:(#[p,q].zip #[v1,v2]).foldl (fun t (p,v)=>t.setIfInBounds p v) fr.tmps=(fr.tmps.setIfInBounds p v1).setIfInBounds q v2:=sP
 rw [e]
 refine h _ ⟨by simp [hf.size],rfl⟩ ?_ ?_ fun t h1 h2=> ?_
 ·simp [Array.getElem?_setIfInBounds,F0.symm,oX]
 ·simp [Array.getElem?_setIfInBounds,hq']
 ·simp [Array.getElem?_setIfInBounds,Nat.ne_of_beq_eq_false h1,Nat.ne_of_beq_eq_false h2]
theorem tE (m p0 p1 init k:Nat) (ss:List State) (st:State) (sv:Value) (W0:World) (Kp:World->World->Prop) (F:World->Prop) (hF:∀ {V:World},F V->V.cell? ⟨p0,0,none⟩=some sv/\V.cell? ⟨p0,1,none⟩=some (.int .u64 init)/\V.cell? ⟨p1,0,none⟩=some (.int .i64 k)/\RS V sv ss) (hFb:∀ {A B:World},Below A.heap.size A B->F A->F B) (hFk:∀ {A B:World},Kp A B->F A->F B) (hKs:∀ {A B:World},Kp A B->A.heap.size<=B.heap.size) (Dh:F W0) (hk:ss[k]? =some st) (jQ:ss.length<=1000000000) (a6:okArcs k (-1) st.j4=true) (hlen:st.j4.length<=1000000)
  (hKo:∀ {A B:World} (g:Nat) (cs:Array Value),W0.heap.size+2<=g->Kp A B->A.heap[g]? =some (.cells cs 5 (0,0))->B.heap[g]? =some (.cells cs 5 (0,0))) :
  Iter m Tryz.prog (fun _=>False) 156 #[.pointer (some ⟨p0,0,none⟩),.pointer (some ⟨p1,0,none⟩)] (fun x:u3=> #[.int .u8 x.byte,.agg #[.int .i64 x.to,.int .u64 x.out]]) Kp (fun xs=>xs=st.j4) (fun pre=>pre <+: st.j4) (fun pre x=>pre++[x] <+: st.j4) W0:=by
 intro l J Jx W hb C8 hJ _ hY h0
 exact callsIn_wide.2 (WL W m l p0 p1 init k ss st sv J Jx Kp F hY hJ hF hFb hFk hKs (fun g cs hg=>hKo g cs oM) (hFb hb Dh) hk jQ a6 hlen h0)
theorem vM (m p0 p1 G N:Nat) (init k:Nat) (ss:List State) (st:State) (sv:Value) (W0:World) (hNG:N<=G) (hGW:G<W0.heap.size) (WM:N<=W0.heap.size) (E3:p0≠G) (C9:p1≠G)
  (c0:W0.cell? ⟨p0,0,none⟩=some sv) (c1:W0.cell? ⟨p0,1,none⟩=some (.int .u64 init)) (k0:W0.cell? ⟨p1,0,none⟩=some (.int .i64 k)) (Q7:pL W0 N sv ss) (hk:ss[k]? =some st) (jQ:ss.length<=1000000000) (a6:okArcs k (-1) st.j4=true) (hlen:st.j4.length<=1000000) :
  Iter m Tryz.prog (fun _=>False) 156 #[.pointer (some ⟨p0,0,none⟩),.pointer (some ⟨p1,0,none⟩)] (fun x:u3=> #[.int .u8 x.byte,.agg #[.int .i64 x.to,.int .u64 x.out]]) (CK G) (fun xs=>xs=st.j4) (fun pre=>pre <+: st.j4) (fun pre x=>pre++[x] <+: st.j4) W0 :=
 tE m p0 p1 init k ss st sv W0 (CK G) (fun V=>N<=V.heap.size/\V.cell? ⟨p0,0,none⟩=some sv/\V.cell? ⟨p0,1,none⟩=some (.int .u64 init)/\V.cell? ⟨p1,0,none⟩=some (.int .i64 k)/\pL V N sv ss)
  (fun h=>⟨h.2.1,h.2.2.1,h.2.2.2.1,h.2.2.2.2.rs⟩) (fun hb h=>⟨Nat.le_trans h.1 hb.size,cL hb h.2.1,cL hb h.2.2.1,cL hb h.2.2.2.1,h.2.2.2.2.below (hb.mono h.1)⟩)
  (fun hc h=>⟨Nat.le_trans h.1 hc.1,hc.2.1 _ _ E3 h.2.1,hc.2.1 _ _ E3 h.2.2.1,hc.2.1 _ _ C9 h.2.2.2.1,h.2.2.2.2.ck hNG hc⟩) (fun hc=>hc.1) ⟨WM,c0,c1,k0,Q7⟩ hk jQ a6 hlen (fun g cs hg hc hh=>hc.2.2 g _ oM rfl hh)
theorem qY {k:Nat} {st:State} (h:okArcs k (-1) st.j4=true) (ho:L3 st):st.j4.length<=256:=by
 have:=jJ _ _ _ h (fun a ha=>(ho.2.2 a ha).1) oM oM
 omega
end Dw
namespace Tl
open Sb (Pr Here Deps Got OkOps Dep isPath)
open Inr (Fe LI op_in noDefer nd_of fe_fn sem_in fe_depth)
section
variable {P:Program} {Q:Exit->Act->World->Prop} {l:List Oper} {a0:Act} {w0:World} {ps:List Pr} {n:Nat} {ds:List Deferred}
abbrev Qf:Exit->Act->World->Prop:=fun _ _ _=>False
abbrev Yi (n:Nat) (P:Program) (id:Nat) (l:List Oper) (Q:Exit->Act->World->Prop) (a0:Act) (w0:World) (ps:List Pr):Prop :=
 Sb.D3 (P.follows .mixedOrders=true/\wpAnyIn (Fe none) n P .any l.toArray Q l.length (Array.replicate l.length false) a0 { w0 with drawn:=w0.drawn+1 }) P id l.toArray Qf a0 w0 ps
theorem ln (n:Nat) (k:Nat) {id:Nat} (h:Hid (OkOps l.toArray k)->Yi n P id l Q a0 w0 []) (a6:Sb.okOps l.toArray k=true:=by kernel_rfl):(Code.region id l.toArray true).wp P Q a0 w0:=by
 obtain ⟨h1,h2⟩:=(h (H9 (.of a6))).out Sb.AN
 exact (wpIn_wide (n:=n)).1 (wpIn_region_any h1 h2)
theorem DH {ops:Array Oper}:∀ fuel,anyG (wpOpIn (Fe none) n P ops Q) (Q .normal) ops fuel=wpAnyIn (Fe none) n P .any ops Q fuel
 | 0=>rfl
 | fuel+1=>by funext listed a w;unfold anyG wpAnyIn;rw [DH fuel]
theorem Rp {o:Oper} {a:Act} {w:World} {K:Act->World->Prop} (hh:o.wp P a w K Qf):o.wp P a w K Q:=by
 unfold Oper.wp at *
 generalize (execOp a.eval o).run P w=r at *
 cases r with
 | ok n w' =>
  cases n<;>simp only [Oper.upon] at hh |- <;>
   first
    | exact hh
    | exact Calls.mono hh (fun e w'' he=>by cases e<;>first | exact he | exact he.elim | exact absurd he (fun ⟨_,_,h⟩=>h))
 | halt x w'=>cases x<;>simp only [Oper.upon] at hh |- <;> first | exact hh | exact hh.elim
theorem WN (hd:noDefer l=true) {i:Nat} {K:Act->World->Prop} {a:Act} {w:World} (h:wpOp P l.toArray Qf i K a w):wpOpIn (Fe none) n P l.toArray Q i K a w:=by
 unfold wpOp at h
 unfold wpOpIn
 cases ho:l.toArray[i]? with
 | none=>rw [ho] at h;exact h
 | some o =>
  rw [ho] at h
  simp only at h |-
  split at h
  ·rename_i hw
   rw [if_pos hw]
   rcases h with h | h
   ·exact op_in (nd_of hd (T9 (by simpa using ho))) (Rp h)
   ·exact absurd h.2 (fun ⟨_,_,h⟩=>h)
  ·rename_i hw
   rw [if_neg hw]
   exact ⟨fun f _=>fe_fn none f,h⟩
theorem tF:∀ (k j:Nat) (a:Act) (w:World),k+j=l.length->wpListIn (Fe none) n P l.toArray Q (l.drop j) a w->Mg (wpOpIn (Fe none) n P l.toArray Q) (Q .normal) k j a w
 | 0,j,a,w,hk,h=>by
  rw [List.drop_of_length_le oM] at h
  exact h
 | k+1,j,a,w,hk,h=>by
  intro K hK
  have hj:j<l.length:=oM
  rw [List.drop_eq_getElem_cons hj] at h
  unfold wpListIn at h
  unfold wpOpIn
  rw [show l.toArray[j]? =some l[j] by simp [hj]]
  simp only
  split at h
  ·rename_i hw
   rw [if_pos hw]
   exact Oper.wpIn_mono (fun a w h=>hK a w (tF k (j+1) a w oM h)) h
  ·rename_i hw
   rw [if_neg hw]
   exact ⟨h.1,hK _ _ (tF k (j+1) _ w oM h.2)⟩
theorem Fz {id k:Nat} (m:Nat) (ws:List (Nat×Nat×List Nat)) (hf:Fc.K1 ds k a0) (a6:Hid (OkOps l.toArray k))
  (p7:∀ a w,Here l.toArray a0 w0 a w->Hid (∀ i,i<m->Got l.toArray ps i a w)->LI none n P l.toArray Q (l.drop m) a w) (hlen:ps.length=m:=by rfl) (iQ:Nat.blt m l.length=true:=by rfl) (JM:chain1 l m ws=true:=by kernel_rfl) (hd:noDefer l=true:=by rfl) (hm:P.follows .mixedOrders=true:=by kernel_rfl):Yi n P id l Q a0 w0 ps:=by
 have a6:=a6.out
 have hn:=hf.size
 subst hn
 refine ⟨fun hg=> ?_⟩
 refine ⟨hm,?_⟩
 rw [<- DH]
 refine AP (Nat.le_of_ble_eq_true iQ) (fun k i h1 h2 h3=>chain_dep JM h1 h2 h3) a6 hlen hg.1 (fun i hi a w h1 h2 K hK=>WN hd (hg.2 i oM a w h1 h2 K hK)) (fun a w hh cW=>tF _ _ _ _ (by have:=Nat.le_of_ble_eq_true iQ;omega) (p7 a w hh (H9 cW)).out) _ _ _ _ sP ?_ (fun i hi=> ?_) ?_
 ·exact Nat.le_trans List.countP_le_length sP
 ·by_cases h:i<l.length
  ·simp [h]
  ·simp [h]
 ·refine ⟨⟨⟨rfl,rfl,rfl,nR,fun _ _=>rfl⟩,rfl,rfl,fun _ _=>rfl⟩,fun i o ho hl=> ?_,fun i hi hl=> ?_,fun _ _=>rfl⟩
  ·have hi:=(Array.getElem?_eq_some_iff.1 ho).1
   simp at hi
   simp [hi] at hl
  ·simp at hi
   simp [hi] at hl
end
end Tl
namespace Inr
section
variable {P:Program} {n:Nat} {Q:Exit->Act->World->Prop} {r:Option Nat} {l rest:List Oper} {o x:Oper} {a:Act} {w:World} {g d:Nat} {b:Bool}
theorem Yj (hg:o.guard=some (g,b)) (bV:l[g]? =some x) (hd:x.dst=some d) (hv:a.tmps[d]? =some (.bool b)):Region.wanted o (yielded l.toArray a.tmps)=true:=by
 simp [Region.wanted,hg,yielded,bV,hd,hv]
theorem ogI (h:∀ K:Act->World->Prop,Hid (∀ a w,LI r n P l.toArray Q rest a w->K a w)->o.wp P a w K Q) (hg:o.guard=some (g,b):=by rfl) (bV:l[g]? =some x:=by rfl) (hd:x.dst=some d:=by rfl) (hv:a.tmps[d]? =some (.bool b):=by first | assumption | (simp (decide:=true) only [Fc.G,reduceIte,hf.size];assumption)) (qH:noDefer [o]=true:=by rfl):LI r n P l.toArray Q (o::rest) a w:=by
 refine ⟨?_⟩
 unfold wpListIn
 rw [if_pos (Yj hg bV hd hv)]
 exact op_in (nd_of qH (List.mem_singleton.2 rfl)) (h _ (H9 fun a w hl=>hl.out))
theorem lk {lp:Nat} {Rk:Array Value} {R:Ending->World->Prop} (hy:YieldAt (Fe r) (n-1) P lp Rk w R) (hs:(execOp a.eval o).run P w=(Instr.yield lp Rk).run P w)
  (hR:∀ e w',R e w'->∃ v,e= .returned v/\LI r n P l.toArray Q rest (a.put o.dst v) w') (hv:a.tmps[d]? =some (.bool b)) (hg:o.guard=some (g,b):=by rfl) (bV:l[g]? =some x:=by rfl) (hd:x.dst=some d:=by rfl) (qH:noDefer [o]=true:=by rfl):LI r n P l.toArray Q (o::rest) a w:=by
 obtain ⟨fn,tmps,asg,body,h1,h2⟩:=hy
 refine ⟨?_⟩
 unfold wpListIn
 rw [if_pos (Yj hg bV hd hv)]
 refine ⟨fun f _=>fe_fn r f,?_⟩
 rw [sem_in r _ (nd_of qH (List.mem_singleton.2 rfl)),hs,h1]
 refine ⟨fun h=>(by rw [fe_depth] at h;cases h),RoundIn.mono h2 fun e w' hr=> ?_⟩
 obtain ⟨v,rfl,h⟩:=hR e w' hr
 exact h.out
end
end Inr
namespace Dw
structure Wd where
 w:ByteArray
 n:Nat
 b:Bool
def Wd.args (x:Wd):Array Value:= #[.string x.w,.agg #[.int .u64 x.n,.bool x.b]]
def walkS (ss:List State) (fr:List Nat):Nat->Nat->ByteArray->Nat->Bool->List Wd
 | 0,_,_,_,_=>[]
 | f+1,k,u,n,b=>if lexlt (wl u) (fr.take u.size) then [] else match ss[k]? with
  | none=>[]
  | some st=>(if st.final&& !lexlt (wl u) fr then [⟨u,(n+st.out)%q9,b&&decide (n+st.out<q9)⟩] else [])++st.j4.flatMap fun a=>walkS ss fr f a.to.toNat (u++bl [a.byte]) ((n+a.out)%q9) (b&&decide (n+a.out<q9))
def eM (st:State) (fr:List Nat) (u:ByteArray) (n:Nat) (b:Bool):List Wd:=if st.final&& !lexlt (wl u) fr then [⟨u,(n+st.out)%q9,b&&decide (n+st.out<q9)⟩] else []
def kN (ss:List State) (fr:List Nat) (f:Nat) (u:ByteArray) (n:Nat) (b:Bool) (a:u3):List Wd:=walkS ss fr f a.to.toNat (u++bl [a.byte]) ((n+a.out)%q9) (b&&decide (n+a.out<q9))
theorem fS {ss:List State} {fr:List Nat} {f k n:Nat} {u:ByteArray} {b:Bool} (h:lexlt (wl u) (fr.take u.size)=true):walkS ss fr (f+1) k u n b=[]:=by rw [walkS,if_pos h]
theorem kM {ss:List State} {fr:List Nat} {f k n:Nat} {u:ByteArray} {b:Bool} {st:State} (h:lexlt (wl u) (fr.take u.size)=false) (A8:ss[k]? =some st):walkS ss fr (f+1) k u n b=eM st fr u n b++st.j4.flatMap (kN ss fr f u n b):=by
 rw [walkS,if_neg (by rw [h];decide),A8]
 rfl
def DJ (o:Obj):Prop:=∃ cs fz,o= .cells cs 64 fz
theorem nE {cs:Array Value} {t:TypeId} {fz:Nat×Nat} (h:Nat.beq t 64=false):¬ DJ (.cells cs t fz):=fun ⟨_,_,e⟩=>by injection e with _ e2 _;rw [e2] at h;cases h
theorem nE' {o:Obj} (h:o.isCells=false):¬ DJ o:=fun ⟨_,_,e⟩=>by rw [e] at h;cases h
def Cw (o:Obj):Prop:=o.isCells=false\/∃ b,o= .cells #[.bool b] 4 (0,0)
theorem _root_.Go.Proofs.YtcddnmhmcieebaaGreatDoor.l3.mono {C C':Obj->Prop} {B B':Nat} {I:World->Prop} (h:l3 C B I) (hc:∀ o,C' o->C o) (hB:B<=B'):l3 C' B' I :=
 fun W W' row hs hg hr=>h W W' row hs hg fun r e=>by obtain ⟨h1,o,h2,h3⟩:=hr r e;exact ⟨oM,o,h2,hc o h3⟩
structure KC (F:World->Prop) (M:Nat) (A B:World):Prop where
 size:A.heap.size<=B.heap.size
 held:F A->F B
 kept:∀ (g:Nat) (o:Obj),M<=g->¬ DJ o->A.heap[g]? =some o->B.heap[g]? =some o
def Sy (F:World->Prop) (M:Nat):Prop:=∀ A A' row,F A->A.grownBy A' row->(∀ r,row=some r->M<=r)->F A'
section
variable {F:World->Prop} {M B0:Nat} {A B C:World}
theorem Sy.below (h:Sy F M) (hb:Below A.heap.size A B) (hf:F A):F B:=h A B none hf (oV hb) (fun r e=>by cases e)
theorem KC.trans (h:KC F M A B) (k:KC F M B C):KC F M A C:=⟨Nat.le_trans h.size k.size,fun x=>k.held (h.held x),fun g o a b c=>k.kept g o a b (h.kept g o a b c)⟩
theorem KC.below (hF:Sy F M) (hb:Below A.heap.size A B):KC F M A B:=⟨hb.size,hF.below hb,fun g o _ _ h=>(hb.block g (j5 h)).trans h⟩
theorem KC.turn (h:KC F M A B) (hF:Sy F M) {g:Nat} (hg:A.heap.size<=g) (hM:M<=A.heap.size) (hk:B.grownBy C (some g)):KC F M A C :=
 ⟨Nat.le_trans h.size hk.size,fun x=>hF B C (some g) (h.held x) hk (fun r e=>by cases e;omega),fun k o a b c=>by
  have h1:=j5 c
  exact (hk.block k (j5 (h.kept k o a b c)) (fun e=>by injection e with e;omega)).trans (h.kept k o a b c)⟩
theorem KC.stays (hF:Sy F M) (hA:A.heap.size<=B0) (hM:M<=A.heap.size) {D:Obj->Prop}:l3 D B0 (fun W=>KC F M A W):=by
 intro W W' row hs hg hr
 cases row with
 | none=>exact ⟨Nat.le_trans hs.size hg.size,fun x=>hF W W' none (hs.held x) hg (fun r e=>by cases e),fun k o a b c=>(hg.block k (j5 (hs.kept k o a b c)) sP).trans (hs.kept k o a b c)⟩
 | some r=>exact hs.turn hF (g:=r) (by have:=(hr r rfl).1;omega) hM hg
structure KI (F:World->Prop) (M B0:Nat) (A B:World):Prop where
 size:A.heap.size<=B.heap.size
 held:F A->F B
 kept:∀ (g:Nat) (o:Obj),M<=g->(g<B0\/o.isCells=true)->¬ DJ o->A.heap[g]? =some o->B.heap[g]? =some o
theorem KC.ki (h:KC F M A B):KI F M B0 A B:=⟨h.size,h.held,fun g o a _ b c=>h.kept g o a b c⟩
theorem KI.trans (h:KI F M B0 A B) (k:KI F M B0 B C):KI F M B0 A C:=⟨Nat.le_trans h.size k.size,fun x=>k.held (h.held x),fun g o a b c d=>k.kept g o a b c (h.kept g o a b c d)⟩
theorem KI.put (hF:Sy F M) {l:Nat} {o o':Obj} (hl:B0<=l) (hM:M<=B0) (ho:A.heap[l]? =some o) (hc:o.isCells=false):KI F M B0 A (A.putObj l o') :=
 ⟨sP,fun x=>hF A _ (some l) x (grownBy_putObj' A l o') (fun r e=>by cases e;omega),fun g o2 _ a _ c=>by
  by_cases e:g=l
  ·subst e
   rw [ho] at c
   injection c with c
   subst c
   rcases a with a | a
   ·omega
   ·rw [hc] at a;cases a
  ·exact (World.putObj_heap_other e).trans c⟩
theorem KC.from (h:KC F M A B) (hM:M<=B0):KeepsFrom B0 A B:=⟨h.size,fun k o a b c=>h.kept k o (Nat.le_trans hM a) (nE' c) b⟩
end
theorem qG {W W9:World} {g:Nat} {b b':Bool} (h:W.heap[g]? =some (.cells #[.bool b] 4 (0,0))) (h9:W.setCell ⟨g,0,none⟩ (.bool b')=W9):W9.heap[g]? =some (.cells #[.bool b'] 4 (0,0))/\W.grownBy W9 (some g)/\∀ (I:World->Prop) (B:Nat),l3 Cw B I->B<=g->I W->I W9:=by
 subst h9
 refine ⟨by have:=k7 (i:=0) h (.bool b');simpa using this,grownBy_setCell' W g _,fun I B hI hB hs=>hI W _ (some g) hs (grownBy_setCell' W g _) (fun r e=>by cases e;exact ⟨hB,_,h,.inr ⟨b,rfl⟩⟩)⟩
theorem lP {P:Program} {fn:Func} {tmps:Array Value} {R:Ending->World->Prop} {G:Nat} {S:World->Prop} (hS:l3 (fun o=>o.isCells=false) (G+1) S):∀ {ds:List Deferred} {n:Nat} {w:World},P8 G ds n w->S w ->
  (∀ w',Below (G+1) w w'->S w'->∃ v,(results fn tmps).run P w'= .ok v w'/\R (.returned v) w')->LeavesInM Fence.wide 9 P fn tmps R ds .returning w
 | [],n,w,_,hs,h=>h w (Below.refl _ _) hs
 | d::ds,n,w,⟨D,h1,h2,h3,h4,h5⟩,hs,h=>by
  subst h1
  refine ⟨sP,.inl ⟨_,_,rfl,run_takeDeferred h4,?_⟩⟩
  have hb:Below (G+1) w (w.putObj D (.deferred none)):=(Below.refl _ w).grown (grownBy_putObj' w D _) (by have:=(Array.getElem?_eq_some_iff.1 h4).1;omega) (fun k e=>by cases e;omega)
  exact lP hS (h5.turn nR fun E _ e2 hE=>(World.putObj_heap_other oM).trans hE) (hS.put hs _ h4 oM rfl) fun w' hw=>h w' (hb.trans hw)
theorem JF {P:Program} {fn:Func} {R:Ending->World->Prop} {G n N p g:Nat} {ty t:TypeId} {ds:List Deferred} {a:Act} {w:World} {x:Value} {fr:Nat×Nat} {S:World->Prop} (hS:l3 (fun o=>o.isCells=false) (G+1) S) (h:fn.results= #[.cell p ty]) (hf:Fc.K1 ds N a)
  (sp:a.tmps[p]? =some (.pointer (some ⟨g,0,none⟩))) (hg:w.heap[g]? =some (.cells #[x] t fr)) (hgG:g<=G) (hu:∀ w,(isAgg ty).run P w= .ok false w)
  (hc:P8 G ds n w) (hs:S w) (hR:∀ w',Below (G+1) w w'->S w'->R (.returned x) w'):bodyPostM Fence.wide 9 P fn R .ret a w:=by
 show LeavesInM Fence.wide 9 P fn a.tmps R a.defers .returning w
 rw [hf.defers]
 refine lP hS hc hs fun w' hw qp=>⟨x,?_,hR w' hw qp⟩
 have rE:=(hw.block g oM).trans hg
 have oX:a.tmps[p]?.getD undef= .pointer (some ⟨g,0,none⟩):=by simp [sp]
 have hc':=cell_of_row _ _ 0 _ t fr rE
 simp at hc'
 simp [results,h,Sem.run_bind,oX,asAddr,loadVar,go_sem,hu,hc',Result.andThen]
theorem JG {P:Program} {fn:Func} {R:Ending->World->Prop} {G n N p g:Nat} {ty t:TypeId} {ds:List Deferred} {a:Act} {w:World} {b:Bool} {fr:Nat×Nat} {S:World->Prop} (hS:l3 (fun o=>o.isCells=false) (G+1) S) (h:fn.results= #[.cell p ty]) (hf:Fc.K1 ds N a)
  (sp:a.tmps[p]? =some (.pointer (some ⟨g,0,none⟩))) (hg:w.heap[g]? =some (.cells #[.bool b] t fr)) (hgG:g<=G) (hu:∀ w,(isAgg ty).run P w= .ok false w)
  (hc:P8 G ds n w) (hs:S w) (hR:∀ w',Below (G+1) w w'->S w'->R (.returned (.bool b)) w'):bodyPostM Fence.wide 9 P fn R .ret a w:=JF hS h hf sp hg hgG hu hc hs hR
end Dw
end Go.Proofs.YtcddnmhmcieebaaGreatDoor
