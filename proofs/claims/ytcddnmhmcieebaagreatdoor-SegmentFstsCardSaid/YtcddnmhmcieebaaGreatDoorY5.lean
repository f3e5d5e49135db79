import Derived.Test.YtcddnmhmcieebaaGreatDoorY4
namespace Go.Proofs.YtcddnmhmcieebaaGreatDoor
set_option linter.unusedSimpArgs false
set_option linter.unusedVariables false
set_option linter.unnecessarySimpa false
set_option maxHeartbeats 4000000
set_option maxRecDepth 100000
open Go.RowKit
namespace Dw
def Cs (i:Nat) (a:u3):List Nat:=a.byte::G3 [a.out,i-a.to.toNat]
def K0 (i:Nat) (l:List u3):List Nat:=l.flatMap (Cs i)
def dJ (s:State):List Nat:=G3 (if s.final then [2*s.j4.length+1,s.out] else [2*s.j4.length])
def Hu (i:Nat) (s:State):List Nat:=dJ s++K0 i s.j4
theorem Fb {l:List u3} {i k:Nat} {a:u3} (h:l[k]? =some a):K0 i (l.take (k+1))=K0 i (l.take k)++Cs i a:=by
 rw [List.take_add_one,h]
 simp [K0]
theorem Vm {i:Nat} {a:u3} (h:uA a) (hi:i<=1000000):(Cs i a).length<=19:=by
 have h1:=(M0 (n:=a.out) h.2.1).2
 have h2:=(M0 (n:=i-a.to.toNat) (by unfold q9;omega)).2
 simp [Cs,G3]
 omega
theorem nF {i:Nat} (hi:i<=1000000):∀ l:List u3,(∀ a∈l,uA a)->(K0 i l).length<=19*l.length
 | [],_=>by simp [K0]
 | a::l,h=>by
  have h1:=Vm (h a (List.mem_cons_self ..)) hi
  have h2:=nF hi l (fun x hx=>h x (List.mem_cons_of_mem _ hx))
  simp only [K0,List.flatMap_cons,List.length_append,List.length_cons] at h2 |-
  omega
theorem Qy {l:List u3} (i k:Nat) (h:∀ a∈l,uA a) (hi:i<=1000000):(K0 i (l.take k)).length<=19*l.length:=by
 have h1:=nF hi (l.take k) (fun a ha=>h a (List.mem_of_mem_take ha))
 have h2:(l.take k).length<=l.length:=sO
 omega
theorem Ct {s:State} (h:s.out<18446744073709551616) (hl:s.j4.length<=1000):(dJ s).length<=18:=by
 unfold dJ
 split
 ·have h1:=(M0 (n:=s.out) h).2
  have h2:=(M0 (n:=2*s.j4.length+1) (by unfold q9;omega)).2
  simp [G3]
  omega
 ·have h2:=(M0 (n:=2*s.j4.length) (by unfold q9;omega)).2
  simp [G3]
  omega
theorem eG {N B:Nat} {w w':World} (h:Below B w w') (hN:N<=B):Below N w w':=⟨h.os,h.tape,h.output,h.size,fun i hi=>h.block i oM⟩
def Sw (ns:List Nat):Sb.Pr:=fun v w=>RN w w.heap.size v ns
theorem Sw.u5 (ns:List Nat):Sb.Stable (Sw ns):=fun v w w' hb h=>(RN.below h hb).more hb.size
theorem tA (w:World) (ns:List Nat) (t:TypeId):RN (w.alloc (.cells (ns.map fun (x:Nat)=>Value.int .u64 x).toArray t)) (w.alloc (.cells (ns.map fun (x:Nat)=>Value.int .u64 x).toArray t)).heap.size (.slice (some ⟨w.heap.size,0,none⟩) ns.length ns.length) ns :=
 ⟨_,_,rfl,fun _=>⟨_,0,rfl,sP,fun i x hx=>by
  rw [Nat.zero_add]
  exact E8 w _ t i _ (by rw [List.getElem?_map,hx];rfl)⟩⟩
theorem Vn (w:World) (N base g:Nat) (bv:Value) (l:List Nat) (sv:Value) (init:Nat) (ss:List State) (VR:LW w base g [sv,.int .u64 init] 91 bv l) (R3:base<=w.heap.size) (XT:base<=g) (hN:N<=base) (o8:pL w N sv ss) (i:Nat) (s:State) (hi:ss[i]? =some s) (a6:L3 s) (x1c:s.j4.length<=256) (tQ:∀ a∈s.j4,0<=a.to/\a.to<(i:Int)) (hlen:ss.length<=1000000) (XW:l.length<=899990000):Calls Tryz.prog 36 #[.pointer (some ⟨g,0,none⟩),.int .i64 i] w fun e w1=>e= .returned (.tuple #[])/\∃ b1,LW w1 base g [sv,.int .u64 init] 91 b1 (l++Hu i s)/\LF w g bv w1 b1:=by
 refine Z6 71 Tryz.func36 fun fr hf s0 s1=> ?_
 obtain ⟨A,cc,rfl,U0⟩:=o8.form
 have Je:=j5 VR.1
 have c1:w.cell? ⟨g,1,none⟩=some (.slice A ss.length cc):=by rw [cell_of_row _ _ 1 _ _ (0,0) VR.1];rfl
 obtain ⟨b,off,av,rfl,hbN,C7⟩:=o8.at_ hi
 have d0:=C7.c0;have d1:=C7.c1;have d2:=C7.c2
 have S7:=C7.j4
 obtain ⟨A2,c2,rfl,_⟩:=C7.j4.form
 have W8:=(H2 hi).1
 have HI:=H9 hi;have Qz:=H9 a6;have HTO:=H9 tQ;clear hi C7 a6 tQ
 obtain ⟨hd,hhd⟩:∃ x,2*s.j4.length=x:=⟨_,rfl⟩
 obtain ⟨h1,hh1⟩:∃ x,hd+1=x:=⟨_,rfl⟩
 have hdb:hd<=512:=oM
 have HHD:=H9 hhd;have HH1:=H9 hh1;clear hhd hh1
 have hM:q9=18446744073709551616:=rfl
 refine Ze fun _ a8=>Zr [8,9,10,11,12,13,14,15,4] hf ?_
 refine y7 0 1 4 hf ?_
 clear hf s0 s1;intro a7 hf sS
 generalize p8:w.alloc (.cells #[.slice A2 s.j4.length c2,.bool s.final,.int .u64 s.out] 46)=W0
 obtain ⟨o7,x0,x1,x2, -,R6⟩:=E7 p8
 clear p8
 have fG:w.heap.size<W0.heap.size:=by rw [R6];exact Nat.lt_succ_self _
 clear R6
 clear d0 d1 d2 c1
 have z7z:=VR.later o7
 have YM:bv.ownBlock≠some w.heap.size:=fun e=>by have:=(World.ownsRow.lt VR.2.1 _ e).2;omega
 refine Zt a8 fun _ a8=> ?_
 have bB:=hf.B5 16 17 18 19 20
 iterate 3 refine Zy ?_
 refine fp fun K Z=> ?_
 go_simp
 try simp (disch:=omega) only [Fc.W]
 rw [show (2:Int)*(s.j4.length:Int)=((hd:Nat):Int) by have:=HHD.out;omega]
 apply Z.out;clear Z K
 refine fp fun K Z=> ?_
 go_simp
 try simp (disch:=omega) only [Fc.wrap_u64]
 apply Z.out;clear Z K
 refine Zy ?_
 refine Fc.nil (z8 0 1 4 5 hf ?_)
 intro a7 hf sS
 refine Zx a8 (Fc.G1 (fun fr wq=>∃ b1,Fc.Fr 71 fr/\fr.tmps[0]? =some (.pointer (some ⟨g,0,none⟩))/\fr.tmps[1]? =some (.int .i64 i)/\fr.tmps[4]? =some (.pointer (some ⟨w.heap.size,0,none⟩))/\LW wq base g [.slice (some ⟨b,off,none⟩) ss.length cc,.int .u64 init] 91 b1 (l++dJ s)/\LF w g bv wq b1/\wq.cell? ⟨w.heap.size,0,none⟩=some (.slice A2 s.j4.length c2)) ?_ ?_)
 . (
 rcases p7:s.final with _ | _
 . (
 have M8:=H9 p7
 rw [p7] at x1
 clear p7
 refine Ze fun _ a8=>Zr [21] hf ?_
 refine D2 0 1 4 5 22 hf ?_
 intro a7 hf sS
 refine Zx a8 (Fc.k9 sS.2.2.2.2 ?_)
 refine rg ?_
 obtain ⟨b32,b33,b34,b35,b36⟩:=hf.B5 32 33 34 35 36
 iterate 4 refine Zy ?_
 refine fp fun K Z=> ?_
 go_simp
 generalize mK:W0.alloc (.cells #[.int .u64 (hd:Nat)] 35)=W4
 have y5o:RN W4 W4.heap.size (.slice (some ⟨W0.heap.size,0,none⟩) 1 1) [hd]:=by rw [<- mK];exact tA W0 [hd] _
 have hx:Below W0.heap.size W0 W4:=by rw [<- mK];exact (Below.refl _ _).alloc nR _
 clear mK
 apply Z.out;clear Z K
 refine fp fun K Z=> ?_
 go_simp
 go_at_call 35;refine (Cr W4 base g _ _ bv _ (z7z.later hx) (by have:=o7.size;have:=hx.size;omega) [hd] _ y5o sP (by have:=HHD.out;intro x hx;simp at hx;omega) oM).mono ?_;rintro e w2 ⟨rfl,b1,Ev,y5⟩
 try dsimp only
 apply Z.out;clear Z K
 refine Fc.nil (y7 0 1 4 hf ?_)
 clear hf sS b32 b33 b34 b35 b36;intro a7 hf sS
 have jk:=(LF.r9 g bv o7).trans ((LF.r9 g bv hx).trans y5)
 have xa:=y5.cell (cL hx x0) (by intro e;have e:w.heap.size=g:=e;omega) YM
 have hlh:LW w2 base g [.slice (some ⟨b,off,none⟩) ss.length cc,.int .u64 init] 91 b1 (l++dJ s):=by have h9:=Ev;rw [<- HHD.out] at h9;unfold dJ;rw [M8.out];exact h9
 refine Fc.j7 ?_
 obtain ⟨s0,s1,s4⟩:=sS
 exact ⟨b1,hf,s0,s1,s4,hlh,jk,xa⟩)
 . (
 have M8:=H9 p7
 rw [p7] at x1
 clear p7
 refine Ze fun _ a8=>Zr [21] hf ?_
 refine D2 0 1 4 5 22 hf ?_
 intro a7 hf sS
 refine Zx a8 (Fc.l7 sS.2.2.2.2 ?_)
 obtain ⟨s0,s1,s4,s5,X6⟩:=sS
 refine Sb.tb 71 fun a6=> ?_
 refine Sb.mO 0 s0 hf a6 ?_
 refine Sb.T 1 hf a6 ?_
 refine Sb.T 2 hf a6 ?_
 refine Sb.mO 3 s5 hf a6 ?_
 apply Sb.tq 4 _ hf a6
 . (
 intro a7 w1 hh hd hk K Z
 have aG:=Sb.v 3 0 hd hk []
 clear hd
 go_simp
 try simp (disch:=omega) only [Fc.W]
 rw [show ((hd:Nat):Int)+1=((h1:Nat):Int) by have:=HH1.out;omega]
 exact Sb.k Z)
 refine Sb.T 5 hf a6 ?_ (hF:=fun _ _ h d=>Sb.O h s4)
 refine Sb.T 6 hf a6 ?_ (hF:=fun _ _ h d=>cL h.ext x2)
 refine Sb.E1 (k:=7) (n:=71) (Sw [h1,s.out]) hf.size a6.out rfl (Sw.u5 _) ?_ ?_
 . (
 intro a7 w1 hh hd hk K Z
 refine Sb.pl ?_
 have S0:=Sb.v 4 2 hd hk []
 have cT:=Sb.v 6 0 hd hk []
 clear hd
 go_simp
 exact Z.out _ rfl _ _ ((Below.refl _ _).alloc nR _) (tA _ [h1,s.out] _))
 refine Tl.G5 (n:=71) (m:=8) (ws:=[(8,0,[2,1]),(8,1,[2]),(8,3,[7,4]),(8,4,[7]),(8,5,[7,6]),(8,6,[7])]) kR hf.size a6.out rfl rfl kR (fun a7 w1 hh hg=> ?_)
 replace s0:=Sb.O hh s0
 replace s1:=Sb.O hh s1
 replace s4:=Sb.O hh s4
 have Z9:=Tl.z7 2 5 hg rfl rfl rfl rfl rfl
 obtain ⟨x30,kG,lC⟩:=Tl.gD (j:=7) (m:=0) hg rfl rfl rfl rfl rfl
 have y5m:=lC
 have y5:=hh.fr hf
 have hx:=hh.ext
 replace x2:=cL hx x2
 clear hg hh hf a6 s5 X6
 have hf:=y5;clear y5
 refine Tl.J5 rfl rfl (fun K Z=> ?_)
 go_simp
 go_at_call 35;refine (Cr _ base g _ _ bv _ (z7z.later hx) (by have:=o7.size;have:=hx.size;omega) [h1,s.out] _ y5m sP (by have:=HH1.out;have:=HHD.out;have:=Qz.out.1;intro x hx;simp at hx;rcases hx with rfl | rfl<;>omega) oM).mono ?_;rintro e w2 ⟨rfl,b1,Ev,y5⟩
 try dsimp only
 apply Z.out;clear Z K
 refine Tl.L8 rfl ?_
 refine y7 0 1 4 hf ?_
 clear hf s0 s1 s4 Z9 kG;intro a7 hf sS
 have jk:=(LF.r9 g bv o7).trans ((LF.r9 g bv hx).trans y5)
 have xa:=y5.cell (cL hx x0) (by intro e;have e:w.heap.size=g:=e;omega) YM
 have hlh:LW w2 base g [.slice (some ⟨b,off,none⟩) ss.length cc,.int .u64 init] 91 b1 (l++dJ s):=by have h9:=Ev;rw [<- HH1.out, <- HHD.out] at h9;unfold dJ;rw [M8.out];exact h9
 refine Fc.j7 ?_
 obtain ⟨s0,s1,s4⟩:=sS
 exact ⟨b1,hf,s0,s1,s4,hlh,jk,xa⟩))
 . (
 clear hf sS
 rintro fr wq ⟨b1,hf,s0,s1,s4,Ev,y5,x0⟩
 refine Ze fun _ a8=>Zr [38,39] hf ?_
 refine D2 0 1 39 40 41 hf ?_
 clear hf s0 s1 s4;intro a7 hf sS
 refine Zx a8 (wp_block (wp_loop_ghost (fun gk fr wr=>∃ (k:Nat) (b1:Value),gk=s.j4.length-k/\k<=s.j4.length/\Fc.Fr 71 fr/\fr.tmps[0]? =some (.pointer (some ⟨g,0,none⟩))/\fr.tmps[1]? =some (.int .i64 i)/\fr.tmps[39]? =some (.slice A2 s.j4.length c2)/\fr.tmps[40]? =some (.int .i64 s.j4.length)/\fr.tmps[41]? =some (.int .i64 k)/\LW wr base g [.slice (some ⟨b,off,none⟩) ss.length cc,.int .u64 init] 91 b1 (l++dJ s++K0 i (s.j4.take k))/\LF w g bv wr b1) (s.j4.length) ?_ ?_))
 . (
 obtain ⟨s0,s1,cR,gZ,At⟩:=sS
 exact ⟨0,b1,rfl,Nat.zero_le _,hf,s0,s1,cR,gZ,At,by simpa [K0] using Ev,y5⟩)
 . (
 clear hf sS
 rintro gk fr wr ⟨k,b1,hk,aN,hf,s0,s1,cR,gZ,At,Ev,y5⟩
 have HK:=H9 hk;clear hk
 refine Ze fun _ a8=>Zr [] hf ?_
 refine F1 0 1 39 40 41 42 hf ?_
 clear hf s0 s1 cR gZ At;intro a7 hf sS
 refine Zs a8 fun _ a8=>Fc.l0 sS.2.2.2.2.2 (fun hq=> ?_) (fun hq=> ?_)
 . (
 have bC:k<s.j4.length:=qT
 clear hq
 obtain ⟨a,aU⟩:∃ a,s.j4[k]? =some a:=⟨_,F8 bC⟩
 have X3:=y5.below R3 XT VR.lo
 obtain ⟨b3,uD,rfl,G4,y0,y1,y2⟩:=(S7.but (mG (X3.mono nR |> fun h=>eG h hN)) (fun k h1 h2=>oM)).at' aU
 have px:=Qz.out.2.2 a (T9 aU)
 have C7:=HTO.out a (T9 aU)
 obtain ⟨q,hq⟩:∃ q:Nat,a.to=(q:Int):=⟨a.to.toNat,oM⟩
 rw [hq] at y2
 obtain ⟨dd,Yr⟩:∃ x,i-q=x:=⟨_,rfl⟩
 have x0x:dd<=1000000:=oM
 have A8:=Fb (i:=i) aU
 have hlen:(K0 i (s.j4.take k)).length<=19*s.j4.length:=Qy i k (fun x hx=>Qz.out.2.2 x hx) oM
 have hhl:=Ct Qz.out.1 (by omega:s.j4.length<=1000)
 obtain ⟨l1,Vp⟩:∃ x,l++dJ s++K0 i (s.j4.take k)=x:=⟨_,rfl⟩
 have x0v:l1.length<=l.length+18+19*s.j4.length:=by rw [<- Vp];simp only [List.length_append];omega
 rw [Vp] at Ev
 have hte:a.to.toNat=q:=oM
 have SP:=px.1;have x0u:=px.2.1
 have hqi:q<i:=by have:=C7.2;omega
 have L4:=H9 A8;have HL1:=H9 Vp;have zj:=H9 Yr;have HTE:=H9 hte;clear A8 Vp Yr hte aU px C7 hlen hhl hq
 refine wp_skip (Zs a8 fun _ a8=>wp_block (Ze fun _ j8=>Zr [43,44,7] hf ?_))
 refine F1 0 1 7 39 40 41 hf ?_
 intro a7 hf sS
 generalize fH:wr.alloc (.cells #[.int .u8 a.byte,.int .u64 a.out,.int .i64 (q:Nat)] 71)=W7
 obtain ⟨B1,z0,z1,z2, -,z7y⟩:=E7 fH
 clear fH
 have hz7:wr.heap.size<W7.heap.size:=by rw [z7y];exact Nat.lt_succ_self _
 clear z7y
 clear y0 y1 y2
 have YN:=Ev.later B1
 have jj:=LF.r9 g b1 B1
 have YP:b1.ownBlock≠some wr.heap.size:=fun e=>by have:=(World.ownsRow.lt Ev.2.1 _ e).2;omega
 have lH:=j5 Ev.1
 have hxg:=YN.1
 have CL:=YN.2.1
 have ji:=YN.2.2
 have mS:=j5 hxg
 have jz:base<=W7.heap.size:=by have:=y5.1.size;have:=B1.size;omega
 refine Zs j8 fun _ j8=> ?_
 obtain ⟨s0,s1,s7,cR,gZ,At⟩:=sS
 refine Sm.E4 (n:=71) (fun _ k=>k=g\/b1.ownBlock=some k) [9,13] (Sb.OkOps.of kR) (fun a6=> ?_)
 refine Sm.mD (k:=0) s0 hf.size a6.out rfl kR rfl rfl (.inl rfl) kR ?_
 refine Sm.mD (k:=1) s0 hf.size a6.out rfl kR rfl rfl (.inl rfl) kR ?_
 apply Sm.tq 2 _ hf a6
 . (
 intro a7 w1 hh hd hk K Z
 refine Sb.pl ?_
 have DW:=Sm.v 1 0 hd hk []
 have F4:=Sm.r5 hh [(9,[5,4,3]),(13,[])] kR
 have l6:=Sm.l9 hh [] [(9,[5,4,3]),(13,[])] kR
 clear hd hh
 go_simp
 exact Sb.k Z)
 apply Sm.tq 3 _ hf a6
 . (
 intro a7 w1 hh hd hk K Z
 refine Sb.pl ?_
 have me:=Sm.v 2 0 hd hk []
 have F4:=Sm.r5 hh [(9,[5,4]),(13,[])] kR
 have l6:=Sm.l9 hh [] [(9,[5,4]),(13,[])] kR
 clear hd hh
 go_simp
 exact Sb.k Z)
 apply Sm.tq 4 _ hf a6
 . (
 intro a7 w1 hh hd hk K Z
 refine Sb.pl ?_
 have Jd:=Sm.v 3 0 hd hk []
 have F4:=Sm.r5 hh [(9,[5]),(13,[])] kR
 have l6:=Sm.l9 hh [] [(9,[5]),(13,[])] kR
 clear hd hh
 go_simp
 exact Sb.k Z)
 apply Sm.tq 5 _ hf a6
 . (
 intro a7 w1 hh hd hk K Z
 refine Sb.pl ?_
 have zY:=Sm.v 4 0 hd hk []
 have F4:=Sm.r5 hh [(9,[]),(13,[])] kR
 have l6:=Sm.l9 hh [] [(9,[]),(13,[])] kR
 clear hd hh
 have u0:=n5 0 ((F4.block g mS).trans hxg)
 simp at u0
 go_simp
 exact Sb.k Z)
 apply Sm.tq 6 _ hf a6
 . (
 intro a7 w1 hh hd hk K Z
 refine Sb.pl ?_
 have s7:=Sm.o hh kR s7
 have F4:=Sm.r5 hh [(9,[8,7]),(13,[])] kR
 have l6:=Sm.l9 hh [] [(9,[8,7]),(13,[])] kR
 clear hd hh
 go_simp
 exact Sb.k Z)
 apply Sm.tq 7 _ hf a6
 . (
 intro a7 w1 hh hd hk K Z
 refine Sb.pl ?_
 have qQ:=Sm.v 6 0 hd hk []
 have F4:=Sm.r5 hh [(9,[8]),(13,[])] kR
 have l6:=Sm.l9 hh [] [(9,[8]),(13,[])] kR
 clear hd hh
 have u1:=cL F4 z0
 go_simp
 exact Sb.k Z)
 refine Sm.E1 (k:=8) (n:=71) (oZ [.int .u8 (a.byte:Nat)]) hf.size a6.out rfl (oZ.u5 _) kR ?_ ?_
 . (
 intro a7 w1 hh hd hk K Z
 refine Sb.pl ?_
 have iv:=Sm.v 7 0 hd hk []
 have F4:=Sm.r5 hh [(9,[]),(13,[])] kR
 have l6:=Sm.l9 hh [] [(9,[]),(13,[])] kR
 clear hd hh
 go_simp
 exact Z.out _ rfl _ _ ((Below.refl _ _).alloc nR _) ⟨_,rfl,E8 _ _ _⟩)
 refine Sm.E6 (k:=9) (n:=71) (iJ W7 base g b1 [.slice (some ⟨b,off,none⟩) ss.length cc,.int .u64 init] 91 (l1++[a.byte])) hf.size a6.out rfl (iJ.u5 _ _ _ _ _ _ _) kR ?_ ?_
 . (
 intro a7 w1 hh hd hk K Z
 refine Sb.pl ?_
 have GU:=Sm.v 5 3 hd hk []
 obtain ⟨x53,Sr,ij⟩:=Sm.use (j:=8) (m:=0) hd hk rfl [] kR [(13,true,[])] kR rfl rfl rfl
 obtain ⟨b53,rfl,ig⟩:=ij
 have F4:=Sm.r5 hh [(13,[])] kR
 have l6:=Sm.l9 hh [] [(13,[])] kR
 clear hd hh
 have bS:=n3 CL F4
 have gR:=(F4.block g mS).trans hxg
 refine J6 _ _ 31 rfl 5 _ 1 1 Tryz.underlying31 cD rfl dC dC base b1 l1.length (lZ l1) (Fc.l5 GU) bS b53 [.int .u8 (a.byte:Nat)] (Fc.l5 Sr) rfl ig (by intro u hu;simp at hu;subst hu;rfl) oM (by have:=F4.size;omega) (fun v2 w2 kT lW jE=> ?_)
 exact Z.out _ rfl _ _ (n4.grown lW (fun k hk=> .inr hk)) ⟨by unfold OB;rw [List.length_append,M1];exact kT,jE.imp id (fun h=>⟨_,h,F4.size⟩),(lW.block g (j5 gR) (fun e=>ji e.symm)).trans gR⟩)
 apply Sm.tq 10 _ hf a6
 . (
 intro a7 w1 hh hd hk K Z
 refine Sb.pl ?_
 have QR:=Sm.v 0 9 hd hk []
 have l6:=Sm.l9 hh [9] [(13,[12,11])] kR
 clear hd hh
 go_simp
 exact Sb.k Z)
 apply Sm.tq 11 _ hf a6
 . (
 intro a7 w1 hh hd hk K Z
 refine Sb.pl ?_
 have Xy:=Sm.v 10 0 hd hk []
 have l6:=Sm.l9 hh [9] [(13,[12])] kR
 clear hd hh
 go_simp
 exact Sb.k Z)
 apply Sm.tq 12 _ hf a6
 . (
 intro a7 w1 hh hd hk K Z
 refine Sb.pl ?_
 have Sh:=Sm.v 11 0 hd hk []
 have l6:=Sm.l9 hh [9] [(13,[])] kR
 clear hd hh
 go_simp
 exact Sb.k Z)
 refine Sm.E6 (k:=13) (n:=71) (iK W7 base g b1 [.slice (some ⟨b,off,none⟩) ss.length cc,.int .u64 init] 91 (l1++[a.byte])) hf.size a6.out rfl (iK.u5 _ _ _ _ _ _ _) kR ?_ ?_
 . (
 intro a7 w1 hh hd hk K Z
 refine Sb.pl ?_
 have ai:=Sm.v 12 0 hd hk []
 obtain ⟨x54,Kx,ie⟩:=Sm.use (j:=9) (m:=3) hd hk rfl [] kR [] kR rfl rfl rfl
 obtain ⟨LA,QS,Cd⟩:=ie
 have l6:=Sm.l9 hh [9] [] kR
 clear hd hh
 have z00:=n5 0 Cd
 simp at z00
 have fz:=j6 (i:=0) Cd
 obtain ⟨A9,c9,mT,_⟩:=y8 LA
 subst mT
 go_simp
 refine Z.out _ rfl undef _ (n4.setCell (.inl rfl) _) ⟨_,u7 LA (n4.setCell (S:=fun k=>k=g) rfl _) (fun kk aB e=>by subst e;exact iJ.ne ⟨LA,QS,Cd⟩ ji mS aB),QS,(k7 (i:=0) Cd _).trans sP⟩)
 refine Sm.E5 (n:=71) kR hf.size a6.out rfl (fun a7 w1 hh hg=> ?_)
 replace s0:=Sm.o hh kR s0
 replace s1:=Sm.o hh kR s1
 replace s7:=Sm.o hh kR s7
 replace cR:=Sm.o hh kR cR
 replace gZ:=Sm.o hh kR gZ
 replace At:=Sm.o hh kR At
 obtain ⟨_,V0⟩:=Sm.M4 (j:=13) (m:=0) hg rfl dC [(9,[])] kR rfl
 have y5:=hh.fr hf
 have l6:=hh.but
 clear hg hh hf a6
 have hf:=y5;clear y5
 obtain ⟨v6,ER,Mc,LX⟩:=V0
 replace l6:=l6 (fun k=>k=g\/b1.ownBlock=some k) (fun m _ b h=>h)
 have jh:LW w1 base g [.slice (some ⟨b,off,none⟩) ss.length cc,.int .u64 init] 91 v6 (l1++[a.byte]):=⟨LX,ER,iK.ne Mc ji mS⟩
 have hf8:LF W7 g b1 w1 v6:=⟨l6,Mc⟩
 have u1:=hf8.cell z1 (by intro e;have e:wr.heap.size=g:=e;omega) YP
 have u2:=hf8.cell z2 (by intro e;have e:wr.heap.size=g:=e;omega) YP
 have Vq:=y5.trans (jj.trans hf8)
 clear z0 z1 z2 LX ER Mc l6 YN hxg CL
 refine Zx j8 (Sb.tb 71 fun a6=> ?_)
 refine Sb.mO 0 s0 hf a6 ?_
 refine Sb.T 1 hf a6 ?_
 refine Sb.T 2 hf a6 ?_
 refine Sb.T 3 hf a6 ?_ (hF:=fun _ _ h d=>Sb.O h s7)
 refine Sb.T 4 hf a6 ?_ (hF:=fun _ _ h d=>ad (cL h.ext u1) (cL h.ext u2))
 refine Sb.mO 5 s1 hf a6 ?_
 refine Sb.T 6 hf a6 ?_ (hF:=fun _ _ h d=>Sb.O h s7)
 refine Sb.T 7 hf a6 ?_ (hF:=fun _ _ h d=>ad (cL h.ext u1) (cL h.ext u2))
 apply Sb.tq 8 _ hf a6
 . (
 intro a7 w1 hh hd hk K Z
 have vj:=Sb.v 5 2 hd hk []
 have s65:=Sb.v 7 0 hd hk []
 clear hd
 go_simp
 try simp (disch:=omega) only [Fc.W]
 rw [show ((i:Nat):Int)-(q:Nat)=((dd:Nat):Int) by have:=zj.out;omega]
 exact Sb.k Z)
 apply Sb.tq 9 _ hf a6
 . (
 intro a7 w1 hh hd hk K Z
 have s66:=Sb.v 8 0 hd hk []
 clear hd
 go_simp
 try simp (disch:=omega) only [Fc.wrap_u64]
 exact Sb.k Z)
 refine Sb.E1 (k:=10) (n:=71) (Sw [a.out,dd]) hf.size a6.out rfl (Sw.u5 _) ?_ ?_
 . (
 intro a7 w1 hh hd hk K Z
 refine Sb.pl ?_
 have UR:=Sb.v 4 5 hd hk []
 have s67:=Sb.v 9 0 hd hk []
 clear hd
 go_simp
 exact Z.out _ rfl _ _ ((Below.refl _ _).alloc nR _) (tA _ [a.out,dd] _))
 refine Tl.G5 (n:=71) (m:=11) (ws:=[(11,0,[2,1]),(11,1,[2]),(11,3,[10,4]),(11,4,[10]),(11,5,[10,9,8]),(11,6,[10,9,8,7]),(11,7,[10,9,8]),(11,8,[10,9]),(11,9,[10])]) kR hf.size a6.out rfl rfl kR (fun a7 w1 hh hg=> ?_)
 replace s0:=Sb.O hh s0
 replace s1:=Sb.O hh s1
 replace cR:=Sb.O hh cR
 replace gZ:=Sb.O hh gZ
 replace At:=Sb.O hh At
 have wu:=Tl.z7 2 8 hg rfl rfl rfl rfl rfl
 obtain ⟨x68,s68,y5k⟩:=Tl.gD (j:=10) (m:=0) hg rfl rfl rfl rfl rfl
 have y5j:=y5k
 have y5:=hh.fr hf
 have hx:=hh.ext
 replace u1:=cL hx u1
 replace u2:=cL hx u2
 clear hg hh hf a6 s7
 have hf:=y5;clear y5
 refine Tl.J5 rfl rfl (fun K Z=> ?_)
 go_simp
 go_at_call 35;refine (Cr _ base g _ _ v6 _ (jh.later hx) (by have:=Vq.1.size;have:=hx.size;omega) [a.out,dd] _ y5j sP (by have:=zj.out;intro x hx;simp at hx;rcases hx with rfl | rfl<;>omega) sO).mono ?_;rintro e w9 ⟨rfl,v9,MY,hf9⟩
 try dsimp only
 apply Z.out;clear Z K
 refine Tl.L8 rfl ?_
 refine D2 0 1 39 40 41 hf ?_
 clear hf s0 s1 cR gZ At wu s68;intro a7 hf sS
 have jg:=Vq.trans ((LF.r9 g v6 hx).trans hf9)
 have y5h:LW w9 base g [.slice (some ⟨b,off,none⟩) ss.length cc,.int .u64 init] 91 v9 (l++dJ s++K0 i (s.j4.take (k+1))):=by have h9:=MY;rw [List.append_assoc,show [a.byte]++G3 [a.out,dd]=Cs i a by unfold Cs;rw [HTE.out,zj.out];rfl, <- HL1.out] at h9;rw [L4.out];simpa [List.append_assoc] using h9
 refine Fc.j9 (Zx a8 (Zr [70] hf ?_))
 refine D2 0 1 39 40 41 hf ?_
 intro a7 hf sS
 refine Fc.j7 ?_
 obtain ⟨s0,s1,cR,gZ,At⟩:=sS
 exact ⟨_,by have:=HK.out;omega,k+1,v9,rfl,oM,hf,s0,s1,cR,gZ,by rw [At];rfl,y5h,jg⟩)
 . (
 have iB:k=s.j4.length:=qF
 have HKE:=H9 iB;clear iB hq
 refine Zo ?_
 refine Fc.mE rfl hf ⟨rfl,b1,?_,y5⟩
 have h9:=Ev
 rw [HKE.out,List.take_length,List.append_assoc] at h9
 exact h9)))
def statesB:Nat->List State->List Nat
 | _,[]=>[]
 | i,s::l=>Hu i s++statesB (i+1) l
def X7 (en:Nat) (init:Nat) (ss:List State):List Nat:=[67,83,1]++G3 [en,ss.length]++statesB 0 ss++G3 [init]
def putR (en:Int) (init:Nat) (ss:List State):List Nat×Nat:=if X2 en ss then (Crc.N8 (X7 en.toNat init ss),0) else ([],2)
theorem pN {en:Int} {ss:List State} (h:X2 en ss=true):0<=en/\en<=100000/\0<ss.length/\mayL 0 ss=true:=by
 unfold X2 at h
 simp at h
 exact ⟨h.1.1.1,h.1.1.2,oM,h.2⟩
theorem lK:∀ {l:List State} {k i:Nat} {s:State},mayL k l=true->l[i]? =some s->s.j4.length<=256/\∀ a∈s.j4,0<=a.to/\a.to<((k+i:Nat):Int)
 | s::l,k,0,x,h,hi=>by
  simp only [List.getElem?_cons_zero,Option.some.injEq] at hi
  subst hi
  simp only [mayL,Bool.and_eq_true,decide_eq_true_eq] at h
  refine ⟨h.1.1.1,?_⟩
  have key:∀ l:List u3,okTo k l=true->∀ a∈l,0<=a.to/\a.to<(k:Int):=by
   intro l
   induction l with
   | nil=>intro _ a ha;cases ha
   | cons b l ih =>
    intro h1 a ha
    simp only [okTo,Bool.and_eq_true,decide_eq_true_eq] at h1
    rcases List.mem_cons.1 ha with rfl | ha
    ·exact h1.1
    ·exact ih h1.2 a ha
  exact key _ h.1.2
 | s::l,k,i+1,x,h,hi=>by
  simp only [mayL,Bool.and_eq_true] at h
  have h9:=lK (i:=i) (s:=x) h.2 (by simpa using hi)
  rw [show k+(i+1)=k+1+i by omega]
  exact h9
theorem fZ:∀ (a b:List State) (k:Nat),statesB k (a++b)=statesB k a++statesB (k+a.length) b
 | [],b,k=>by simp [statesB]
 | s::a,b,k=>by
  simp only [List.cons_append,statesB,List.length_cons]
  rw [fZ a b (k+1),List.append_assoc,show k+1+a.length=k+(a.length+1) by omega]
theorem zP {l:List State} {i:Nat} {s:State} (h:l[i]? =some s):statesB 0 (l.take (i+1))=statesB 0 (l.take i)++Hu i s:=by
 have hl:=(H2 h).1
 rw [List.take_add_one,h,fZ]
 simp [statesB]
 congr 1
 omega
theorem jf {i:Nat} {s:State} (h:L3 s) (h2:s.j4.length<=256) (hi:i<=1000000):(Hu i s).length<=4882:=by
 have h1:=Ct h.1 oM
 have h3:=nF hi s.j4 h.2.2
 unfold Hu
 simp only [List.length_append]
 omega
theorem fR:∀ (l:List State) (k:Nat),(∀ s∈l,L3 s)->mayL k l=true->k+l.length<=1000000->(statesB k l).length<=4882*l.length
 | [],_,_,_,_=>by simp [statesB]
 | s::l,k,h,hm,hk=>by
  have h1:=lK (i:=0) hm rfl
  simp only [mayL,Bool.and_eq_true] at hm
  simp only [List.length_cons] at hk
  have h2:=jf (i:=k) (h s (List.mem_cons_self ..)) h1.1 oM
  have h3:=fR l (k+1) (fun x hx=>h x (List.mem_cons_of_mem _ hx)) hm.2 oM
  simp only [statesB,List.length_append,List.length_cons]
  omega
theorem wU:∀ (l:List State) (k i:Nat),mayL k l=true->mayL k (l.take i)=true
 | _,_,0,_=>by simp [mayL]
 | [],_,i+1,_=>by simp [mayL]
 | s::l,k,i+1,h=>by
  simp only [mayL,Bool.and_eq_true,List.take_succ_cons] at h |-
  exact ⟨h.1,wU l (k+1) i h.2⟩
theorem Ff {l:List State} (h:∀ s∈l,L3 s) (hm:mayL 0 l=true) (hk:l.length<=1000000) (i:Nat):(statesB 0 (l.take i)).length<=4882*l.length:=by
 have h2:(l.take i).length<=l.length:=sO
 have h1:=fR (l.take i) 0 (fun s hs=>h s (List.mem_of_mem_take hs)) (wU l 0 i hm) oM
 omega
theorem Cu {i:Nat} (hi:i<=1000000) {l:List u3} (h:∀ a∈l,uA a):Small (K0 i l):=fun x hx=>by
 obtain ⟨a,ha,hx⟩:=List.mem_flatMap.1 hx
 have h1:=h a ha
 rcases List.mem_cons.1 hx with rfl | hx
 ·exact h1.1
 ·exact T6 (by intro y hy;simp at hy;have:=h1.2.1;unfold q9;rcases hy with rfl | rfl<;>omega) x hx
theorem LY {i:Nat} {s:State} (h:L3 s) (h2:s.j4.length<=256) (hi:i<=1000000):Small (Hu i s):=by
 refine Small.append ?_ (Cu hi h.2.2)
 refine T6 (fun y hy=> ?_)
 have:=h.1
 unfold q9
 split at hy<;>simp at hy<;>(try rcases hy with rfl | rfl)<;>omega
theorem iL:∀ (l:List State) (k:Nat),(∀ s∈l,L3 s)->mayL k l=true->k+l.length<=1000000->Small (statesB k l)
 | [],_,_,_,_=>Small.nil
 | s::l,k,h,hm,hk=>by
  have h1:=lK (i:=0) hm rfl
  simp only [mayL,Bool.and_eq_true] at hm
  simp only [List.length_cons] at hk
  exact (LY (h s (List.mem_cons_self ..)) h1.1 oM).append (iL l (k+1) (fun x hx=>h x (List.mem_cons_of_mem _ hx)) hm.2 oM)
theorem oQ {n init:Nat} {ss:List State} (h:∀ s∈ss,L3 s) (hm:mayL 0 ss=true) (hl:ss.length<=100000) (hn:n<=100000) (hi:init<18446744073709551616):Small (X7 n init ss):=by
 refine ((Small.append (by intro x hx;simp at hx;omega) (T6 (by intro y hy;simp at hy;unfold q9;rcases hy with rfl | rfl<;>omega))).append (iL ss 0 h hm oM)).append (T6 (by intro y hy;simp at hy;unfold q9;omega))
theorem NJ (w:World) (en:Int) (sv:Value) (init:Nat) (ss:List State) (o8:RS w sv ss) (a6:∀ s∈ss,L3 s) (hlen:ss.length<=100000) (AW:∀ s∈ss,s.j4.length<=1000) (z7w:init<18446744073709551616):E2 w 14 #[.int .i64 en,.agg #[sv,.int .u64 init]] (.tuple #[.string (bl (putR en init ss).1),.int .i64 (putR en init ss).2]):=by
 refine Z6 60 Tryz.func14 fun fr hf s0 s1=> ?_
 have Q7:=o8.n
 obtain ⟨A,cc,rfl,U0⟩:=o8.form
 have HO:=H9 a6;have HF:=H9 AW;clear a6 AW
 have hM:q9=18446744073709551616:=rfl
 have y5g:=o8
 refine Ze fun _ a8=>Zr [] hf ?_
 refine y4 0 3 hf ?_
 clear hf s0 s1;intro a7 hf sS
 generalize p8:w.alloc (.cells #[.slice A ss.length cc,.int .u64 init] 38)=W0
 obtain ⟨o7,c0,c1, -,R6⟩:=P7 p8
 clear p8
 have fG:w.heap.size<W0.heap.size:=by rw [R6];exact Nat.lt_succ_self _
 clear R6
 have R9:=o8.later o7
 clear o8
 refine Zs a8 fun _ a8=>Ze fun _ j8=>rg ?_
 have bB:=hf.B3 8 9 10
 iterate 2 refine Zy ?_
 refine Zc (qj W0 en _ init ss R9 HO.out oM HF.out) ?_;rintro e w1 ⟨rfl,p6⟩
 refine Zv ?_
 refine Zy ?_
 refine Fc.nil (y7 0 3 11 hf ?_)
 intro a7 hf sS
 have e0:=cL p6 c0
 have e1:=cL p6 c1
 have N0:=o7.trans (p6.mono o7.size)
 clear c0 c1 R9
 refine Zx j8 ?_
 rcases Uy:X2 en ss with _ | _
 . (
 have HM:=H9 Uy
 obtain ⟨s0,s3,D9⟩:=sS
 rw [Uy] at D9
 simp only [Bool.not_false,Bool.not_true] at D9
 clear Uy
 refine Fc.l7 D9 ?_
 refine Ze fun _ j8=>Zr [] hf ?_
 refine y4 4 5 hf ?_
 clear hf s0 s3 D9;intro a7 hf sS
 refine Zx j8 (k8 ?_)
 exact Fc.H6 rfl hf sS.1 sS.2 ⟨by unfold putR;rw [HM.out];rfl,N0⟩)
 . (
 have HM:=H9 Uy
 obtain ⟨s0,s3,D9⟩:=sS
 rw [Uy] at D9
 simp only [Bool.not_false,Bool.not_true] at D9
 clear Uy
 refine Fc.k9 D9 ?_
 obtain ⟨he0,he1,hs0,iQ⟩:=pN HM.out
 obtain ⟨n,hn⟩:∃ n:Nat,en=(n:Int):=⟨en.toNat,oM⟩
 subst hn
 have Tt:=Q7.below N0
 have HML:=H9 iQ;clear iQ Q7 y5g
 have GS:n<=100000:=oM
 have MS:=H9 (show (n:Int).toNat=n by omega)
 clear he0 he1
 refine wp_skip (Zs a8 fun _ a8=>Zr [12,13,14] hf ?_)
 refine y7 0 3 6 hf ?_
 clear hf s0 s3 D9;intro a7 hf sS
 obtain ⟨g,hg⟩:∃ x,w1.heap.size=x:=⟨_,rfl⟩
 generalize lT:w1.alloc (.cells #[.slice none 0 0,.slice A ss.length cc,.int .u64 init] 91)=W3
 obtain ⟨s0,s3,s6⟩:=sS
 try rw [hg] at s6
 have G4:Below w1.heap.size w1 W3:=by rw [<- lT];exact (Below.refl _ _).alloc nR _
 have AH:W3.heap[g]? =some (.cells #[.slice none 0 0,.slice A ss.length cc,.int .u64 init] 91 (0,0)):=by rw [<- lT, <- hg];exact heap_alloc_new w1 _
 have lW:g<W3.heap.size:=j5 AH
 have AF:LW W3 g g [.slice A ss.length cc,.int .u64 init] 91 (.slice none 0 0) []:=⟨AH,OB.T7 _ _,by intro e;cases e⟩
 have y0:=cL G4 e0;have y1:=cL G4 e1
 have hrg:=Tt.below ((G4.mono N0.size):Below w.heap.size w1 W3)
 have SW:w.heap.size<=g:=by rw [<- hg];exact N0.size
 have je:w.heap.size<g:=by rw [<- hg];have:=p6.size;omega
 have rJ:=Nat.le_of_lt lW
 have y5e:=N0.trans (G4.mono N0.size)
 clear lT hg e0 e1 Tt G4
 have y5d:=H9 hrg
 have HY1:=H9 y1;clear y1
 refine Zt a8 fun _ a8=> ?_
 have bB:=hf.eW 15 16 17 18 19 20 21 22 23 24
 iterate 5 refine Zy ?_
 have u0:=n5 0 AH
 simp at u0
 refine Zy ?_
 clear bB
 refine Fc.nL (n:=60) (by simp only [Fc.G,hf.size]) hf.defers (fun a7 y5 hT=> ?_)
 have J8:=Fc.h5 hT 0 3 6 15 20
 simp (decide:=true) only [Fc.G,hf.size,reduceIte,s0,s3,s6] at J8
 replace hf:=y5;clear hT y5 s0 s3 s6
 obtain ⟨s0,s3,s6,aQ,N5⟩:=J8
 have bB:=hf.B4 21 22 23 24
 refine ⟨?_⟩
 refine wpList_plain rfl fun KL uM=> ?_
 refine wT _ _ rfl g (.slice none 0 0) [] (Fc.l5 N5) AF.2.1 (bl [67,83,1]) (by rw [show bl [67,83,1]=⟨#[67,83,1]⟩ by decide];rfl) (by rw [N7];simp) oM (fun v4 w4 MV Hh y5c=>uM _ _ ?_)
 rw [aL (by intro x hx;simp at hx;omega),List.nil_append] at MV
 refine Fc.L.out ?_
 iterate 3 refine Zy ?_
 have Si:=(Hh.block g lW (by intro e;cases e)).trans AH
 have u1:=n5 0 Si
 simp at u1
 have fz:=j6 (i:=0) Si
 obtain ⟨A9,c9,mT,_⟩:=y8 MV
 rw [show ([67,83,1]:List Nat).length=3 from rfl] at mT
 subst mT
 refine Zy ?_
 refine Fc.nil (y7 0 3 6 hf ?_)
 clear hf s0 s3 s6 aQ N5 bB;intro a7 hf sS
 obtain ⟨hl5,hf5⟩:=AF.step (Below.refl _ _) MV Hh y5c nR
 generalize cS:w4.setCell ⟨g,0,none⟩ (.slice A9 3 c9)=W5
 rw [cS] at hl5 hf5
 have HY0:=H9 y0
 replace y0:=((hf5.below rJ (Nat.le_refl g) AF.lo).cell (p:=⟨w.heap.size,0,none⟩) je).trans HY0.out
 refine Zs a8 fun _ a8=> ?_
 obtain ⟨s0,s3,s6⟩:=sS
 refine Sb.tb 60 fun a6=> ?_
 refine Sb.mO 0 s6 hf a6 ?_
 refine Sb.T 1 hf a6 ?_
 refine Sb.T 2 hf a6 ?_
 refine Sb.mO 3 s0 hf a6 ?_
 apply Sb.tq 4 _ hf a6
 . (
 intro a7 w1 hh hd hk K Z
 have bT:=Sb.v 3 0 hd hk []
 clear hd
 go_simp
 try simp (disch:=omega) only [Fc.wrap_u64]
 exact Sb.k Z)
 refine Sb.T 5 hf a6 ?_ (hF:=fun _ _ h d=>Sb.O h s3)
 refine Sb.T 6 hf a6 ?_ (hF:=fun _ _ h d=>cL h.ext y0)
 refine Sb.T 7 hf a6 ?_ (hF:=fun _ _ h d=>cL h.ext y0)
 apply Sb.tq 8 _ hf a6
 . (
 intro a7 w1 hh hd hk K Z
 have TX:=Sb.v 7 0 hd hk []
 clear hd
 go_simp
 try simp (disch:=omega) only [Fc.wrap_u64]
 exact Sb.k Z)
 refine Sb.E1 (k:=9) (n:=60) (Sw [n,ss.length]) hf.size a6.out rfl (Sw.u5 _) ?_ ?_
 . (
 intro a7 w1 hh hd hk K Z
 refine Sb.pl ?_
 have cT:=Sb.v 4 4 hd hk []
 have ou:=Sb.v 8 0 hd hk []
 clear hd
 go_simp
 exact Z.out _ rfl _ _ ((Below.refl _ _).alloc nR _) (tA _ [n,ss.length] _))
 refine Tl.G5 (n:=60) (m:=10) (ws:=[(10,0,[2,1]),(10,1,[2]),(10,3,[9,4]),(10,4,[9]),(10,5,[9,8,7,6]),(10,6,[9,8,7]),(10,7,[9,8]),(10,8,[9])]) kR hf.size a6.out rfl rfl kR (fun a7 w1 hh hg=> ?_)
 replace s3:=Sb.O hh s3
 replace s6:=Sb.O hh s6
 have S0:=Tl.z7 2 7 hg rfl rfl rfl rfl rfl
 obtain ⟨x34,Wn,y5a⟩:=Tl.gD (j:=9) (m:=0) hg rfl rfl rfl rfl rfl
 have y4z:=y5a
 have y5:=hh.fr hf
 have hx:=hh.ext
 replace y0:=cL hx y0
 clear hg hh hf a6 s0
 have hf:=y5;clear y5
 refine Tl.J5 rfl rfl (fun K Z=> ?_)
 go_simp
 go_at_call 35;refine (Cr _ g g _ _ _ _ (hl5.later hx) (by have:=hf5.1.size;have:=hx.size;omega) [n,ss.length] _ y4z sP (by intro x hx;simp at hx;rcases hx with rfl | rfl<;>omega) sP).mono ?_;rintro e w6 ⟨rfl,b6,Mc,hf6⟩
 try dsimp only
 apply Z.out;clear Z K
 refine Tl.L8 rfl ?_
 refine y4 3 6 hf ?_
 clear hf s3 s6 S0 Wn;intro a7 hf sS
 have z7u:=hf5.trans ((LF.r9 g _ hx).trans hf6)
 have hg6:=z7u.below rJ (Nat.le_refl g) AF.lo
 have y0b:=(hg6.cell (p:=⟨w.heap.size,0,none⟩) je).trans HY0.out
 clear y0
 replace hrg:=hrg.below (eG hg6 SW)
 obtain ⟨L0,hL0⟩:∃ x,[67,83,1]++G3 [n,ss.length]=x:=⟨_,rfl⟩
 have x0m:L0.length<=100:=by rw [<- hL0];have h1:=(M0 (n:=n) oM).2;have h2:=(M0 (n:=ss.length) oM).2;simp [G3];omega
 have y4y:LW w6 g g [.slice A ss.length cc,.int .u64 init] 91 b6 (L0):=by rw [<- hL0];exact Mc
 have HL0:=H9 hL0;clear hL0 hl5 hf5 Mc hf6 AH
 refine Zs a8 fun _ a8=>Ze fun _ j8=>Zr [36,37] hf ?_
 refine z8 3 6 38 39 hf ?_
 intro a7 hf sS
 clear y0b
 refine Zx j8 (wp_block (wp_loop_ghost (fun gk fr wr=>∃ (i:Nat) (b1:Value),gk=ss.length-i/\i<=ss.length/\Fc.Fr 60 fr/\fr.tmps[3]? =some (.pointer (some ⟨w.heap.size,0,none⟩))/\fr.tmps[6]? =some (.pointer (some ⟨g,0,none⟩))/\fr.tmps[38]? =some (.int .i64 ss.length)/\fr.tmps[39]? =some (.int .i64 i)/\LW wr g g [.slice A ss.length cc,.int .u64 init] 91 b1 (L0++statesB 0 (ss.take i))/\LF W3 g (.slice none 0 0) wr b1) (ss.length) ?_ ?_))
 . (
 obtain ⟨s3,s6,Dd,cR⟩:=sS
 exact ⟨0,b6,rfl,Nat.zero_le _,hf,s3,s6,Dd,cR,by simpa [statesB] using y4y,z7u⟩)
 . (
 clear hf sS
 rintro gk fr wr ⟨i,b1,hk,aN,hf,s3,s6,Dd,cR,YN,jj⟩
 have HK:=H9 hk;clear hk
 have B1:=jj.below rJ (Nat.le_refl g) AF.lo
 have N6:=Ff HO.out HML.out (by omega:ss.length<=1000000) i
 refine Ze fun _ j8=>Zr [] hf ?_
 refine D2 3 6 38 39 40 hf ?_
 clear hf s3 s6 Dd cR;intro a7 hf sS
 refine Zs j8 fun _ j8=>Fc.l0 sS.2.2.2.2 (fun hq=> ?_) (fun hq=> ?_)
 . (
 have o9:i<ss.length:=qT
 clear hq
 obtain ⟨s,N3⟩:∃ s,ss[i]? =some s:=⟨_,F8 o9⟩
 have Dp:=lK HML.out N3
 rw [Nat.zero_add] at Dp
 have A8:=zP N3
 have L4:=H9 A8;have XQ:=H9 N3;clear A8 N3
 refine wp_skip (Zs j8 fun _ j8=>wp_block (Ze fun _ l8=>Zr [41] hf ?_))
 refine D2 3 6 7 38 39 hf ?_
 intro a7 hf sS
 refine Zx l8 (rg ?_)
 obtain ⟨b42,b43⟩:=hf.B2 42 43
 iterate 2 refine Zy ?_
 refine fp fun K Z=> ?_
 go_simp
 go_at_call 36;refine (Vn wr w.heap.size g g b1 _ _ init ss YN (by have:=jj.1.size;omega) (Nat.le_refl g) SW (y5d.out.below (eG B1 SW)) i s XQ.out (HO.out s (T9 XQ.out)) Dp.1 Dp.2 oM (by simp only [List.length_append];omega)).mono ?_;rintro e w8 ⟨rfl,b8,jh,hf8⟩
 have Vq:=jj.trans hf8
 rw [List.append_assoc, <- L4.out] at jh
 try dsimp only
 apply Z.out;clear Z K
 refine Fc.nil (z8 3 6 38 39 hf ?_)
 clear hf sS b42 b43;intro a7 hf sS
 refine Fc.j9 (Zx j8 (Zr [45] hf ?_))
 refine z8 3 6 38 39 hf ?_
 intro a7 hf sS
 refine Fc.j7 ?_
 obtain ⟨s3,s6,Dd,cR⟩:=sS
 exact ⟨_,by have:=HK.out;omega,i+1,b8,rfl,oM,hf,s3,s6,Dd,by rw [cR];rfl,jh,Vq⟩)
 . (
 have C3:i=ss.length:=qF
 have jh:=YN
 rw [C3,List.take_length] at jh
 rw [C3,List.take_length] at N6
 have y1b:=(B1.cell (p:=⟨w.heap.size,1,none⟩) je).trans HY1.out
 clear YN C3 hq
 refine Zo ?_
 refine Zs a8 fun _ a8=> ?_
 obtain ⟨s3,s6,Dd,cR,gZ⟩:=sS
 refine Sb.tb 60 fun a6=> ?_
 refine Sb.mO 0 s6 hf a6 ?_
 refine Sb.T 1 hf a6 ?_
 refine Sb.T 2 hf a6 ?_
 refine Sb.T 3 hf a6 ?_ (hF:=fun _ _ h d=>Sb.O h s3)
 refine Sb.T 4 hf a6 ?_ (hF:=fun _ _ h d=>cL h.ext y1b)
 refine Sb.E1 (k:=5) (n:=60) (Sw [init]) hf.size a6.out rfl (Sw.u5 _) ?_ ?_
 . (
 intro a7 w1 hh hd hk K Z
 refine Sb.pl ?_
 have GU:=Sb.v 4 0 hd hk []
 clear hd
 go_simp
 exact Z.out _ rfl _ _ ((Below.refl _ _).alloc nR _) (tA _ [init] _))
 refine Tl.G5 (n:=60) (m:=6) (ws:=[(6,0,[2,1]),(6,1,[2]),(6,3,[5,4]),(6,4,[5])]) kR hf.size a6.out rfl rfl kR (fun a7 w1 hh hg=> ?_)
 replace s6:=Sb.O hh s6
 have Jd:=Tl.z7 2 3 hg rfl rfl rfl rfl rfl
 obtain ⟨x51,qQ,y4w⟩:=Tl.gD (j:=5) (m:=0) hg rfl rfl rfl rfl rfl
 have y4v:=y4w
 have y5:=hh.fr hf
 have hx:=hh.ext
 replace y1b:=cL hx y1b
 clear hg hh hf a6 s3 Dd cR gZ
 have hf:=y5;clear y5
 refine Tl.J5 rfl rfl (fun K Z=> ?_)
 go_simp
 go_at_call 35;refine (Cr _ g g _ _ _ _ (jh.later hx) (by have:=jj.1.size;have:=hx.size;omega) [init] _ y4v sP (by intro x hx;simp at hx;omega) (by simp only [List.length_append];omega)).mono ?_;rintro e w9 ⟨rfl,b9,MY,hf9⟩
 try dsimp only
 apply Z.out;clear Z K
 refine Tl.L8 rfl ?_
 refine p5 6 hf ?_
 clear hf s6 Jd qQ;intro a7 hf s6
 have jg:=jj.trans ((LF.r9 g _ hx).trans hf9)
 have dN:=jg.below rJ (Nat.le_refl g) AF.lo
 have tk:=y5e.trans (eG dN SW)
 have Hv:X7 (n:Int).toNat init ss=L0++statesB 0 ss++G3 [init]:=by unfold X7;rw [MS.out,HL0.out]
 have YQ:=H9 Hv;clear Hv
 have y4u:=MY.2.1
 have u9:=n5 0 MY.1
 simp at u9
 have iU:=OB.conv y4u
 rw [<- YQ.out] at iU
 have jZ:(bl (X7 (n:Int).toNat init ss)).size<=900000000:=by rw [N7,YQ.out];have h1:=(M0 (n:=init) oM).2;simp only [List.length_append,G3];simp;omega
 have Gf:Small (X7 (n:Int).toNat init ss):=by rw [MS.out];exact oQ HO.out HML.out oM oM z7w
 obtain ⟨bb,tR⟩:∃ x,bl (X7 (n:Int).toNat init ss)=x:=⟨_,rfl⟩
 rw [tR] at iU jZ
 have oD:wl bb=X7 (n:Int).toNat init ss:=by rw [<- tR];exact aL Gf
 have dk:=H9 oD;clear oD tR Gf
 refine Zt a8 fun _ a8=> ?_
 have bB:=hf.B7 53 54 55 56 57 58 59
 iterate 6 refine Zy ?_
 refine Zc (Qv w9 bb jZ) ?_;rintro e Kg ⟨rfl,R7⟩
 refine Zv ?_
 iterate 2 refine Zy ?_
 refine Fc.nil (y4 4 5 hf ?_)
 clear hf s6 bB;intro a7 hf sS
 refine Zx a8 (k8 ?_)
 refine Fc.H6 rfl hf sS.1 sS.2 ⟨?_,tk.trans (R7.mono tk.size)⟩
 unfold putR
 rw [if_pos HM.out,dk.out]
 rfl)))
def wV (w w1:World) (e:Ending) (code at_:Int):Prop:=∃ q,e= .panicked [{ v:= .iface 77 (.pointer (some ⟨q,0,none⟩)),recovered:=false }]/\w.heap.size<=q/\w1.heap[q]? =some (.cells #[.int .i64 code,.int .i64 at_] 134 (0,0))/\Below w.heap.size w w1
theorem eT {P:Program} {fn:Func} {R:Ending->World->Prop} {c:List PanicEntry} {a:Act} {w:World} (hd:a.defers=[]) (hR:R (.panicked c) w):bodyPost P fn R (.panic c) a w:=⟨hd,hR⟩
theorem wW (w:World) (code at_:Int):Calls Tryz.prog 32 #[.int .i64 code,.int .i64 at_] w fun e w1=>wV w w1 e code at_:=by
 refine Z6 9 Tryz.func32 fun fr hf s0 s1=> ?_
 refine rg ?_
 have bB:=hf.B5 4 5 6 7 8
 iterate 5 refine Zy ?_
 refine fp fun K Z=> ?_
 go_simp
 refine eT hf.defers ?_
 exact ⟨w.heap.size,rfl,nR,heap_alloc_new w _,(Below.refl _ _).alloc nR _⟩
theorem LZ {s:List Nat} {i:Nat} (h:s.length<=i):getN s i=(0,i,3):=by
 unfold getN
 rw [List.getElem?_eq_none h]
theorem Fg {s:List Nat} {i c:Nat} (h:s[i]? =some c) (h8:c<248):getN s i=(c,i+1,0):=by
 unfold getN
 rw [h]
 simp only
 rw [if_pos h8]
theorem Fh {s:List Nat} {i c:Nat} (h:s[i]? =some c) (h8:¬ c<248) (h7:s.length-i<=c-247):getN s i=(0,i,3):=by
 unfold getN
 rw [h]
 simp only
 rw [if_neg h8,if_pos h7]
theorem La {s:List Nat} {i c:Nat} (h:s[i]? =some c) (h8:¬ c<248) (h7:¬ s.length-i<=c-247) (h6:¬ (r7 (ofLe ((s.drop (i+1)).take (c-247)))).length=1+(c-247)):getN s i=(0,i,5):=by
 unfold getN
 rw [h]
 simp only
 rw [if_neg h8,if_neg h7,if_neg h6]
theorem RC {s:List Nat} {i c:Nat} (h:s[i]? =some c) (h8:¬ c<248) (h7:¬ s.length-i<=c-247) (h6:(r7 (ofLe ((s.drop (i+1)).take (c-247)))).length=1+(c-247)):getN s i=(ofLe ((s.drop (i+1)).take (c-247)),i+1+(c-247),0):=by
 unfold getN
 rw [h]
 simp only
 rw [if_neg h8,if_neg h7,if_pos h6]
theorem wX (s:ByteArray) (i k:Nat):ofLe (((wl s).drop i).take k)<256^k:=by
 refine Nat.lt_of_lt_of_le (pW _ (fun x hx=>cX s x (List.mem_of_mem_drop (List.mem_of_mem_take hx)))) (Nat.pow_le_pow_right oM ?_)
 simp
 omega
theorem Hw (s:ByteArray) (i:Nat) {k:Nat} (h:k<=8):ofLe (((wl s).drop i).take k)<q9 :=
 Nat.lt_of_lt_of_le (wX s i k) (Nat.pow_le_pow_right oM h)
theorem Vr {d k:Nat} (hd:d<256) (hk:k<=7):IntKind.u64.wrap ((d:Int)*2^(8*(k:Int)).toNat)=((256^k*d:Nat):Int):=by
 have h1:256^k<=256^7:=Nat.pow_le_pow_right oM hk
 have h2:256^k*d<=256^7*255:=Nat.mul_le_mul h1 oM
 have e:(d:Int)*2^(8*(k:Int)).toNat=((256^k*d:Nat):Int):=by
  rw [show (8*(k:Int)).toNat=8*k by omega,show (2:Int)^(8*k)=((256^k:Nat):Int) by rw [sX];norm_cast,Nat.mul_comm]
  exact (Int.natCast_mul _ _).symm
 rw [e]
 exact Fc.wrap_u64 oM oM
theorem jd {d k:Nat} (hd:d<256) (hk:k<=7):256^k*d<18446744073709551616:=by
 have h1:256^k<=256^7:=Nat.pow_le_pow_right oM hk
 have h2:256^k*d<=256^7*255:=Nat.mul_le_mul h1 oM
 omega
theorem jc {n d k:Nat} (h:n<256^k):n ||| (256^k*d)=n+256^k*d:=by
 rw [sX] at h |-
 rw [Nat.or_comm, <- Nat.two_pow_add_eq_or_of_lt h,Nat.add_comm]
theorem Lb {l:List Nat} {i k d:Nat} (h:l[i+1+k]? =some d):ofLe ((l.drop (i+1)).take k)+256^k*d=ofLe ((l.drop (i+1)).take (k+1)):=by
 have h1:(l.drop (i+1))[k]? =some d:=by rw [List.getElem?_drop];exact h
 have hl:=(H2 h1).1
 rw [List.take_add_one,h1,Option.toList_some,wS,List.length_take,Nat.min_eq_left oM]
theorem z7t (w:World) (s:ByteArray) (i:Nat) (hi:i<=s.size) (C8:s.size<=1000000000):E2 w 98 #[.string s,.int .i64 i] (.tuple #[.int .u64 (getN (wl s) i).1,.int .i64 (getN (wl s) i).2.1,.int .i64 (getN (wl s) i).2.2]):=by
 refine Z6 67 Tryz.func98 fun fr hf s0 s1=> ?_
 have uQ:∀ (i:Nat) (h:i<s.size),s[i].toNat=at_ s i:=fun i h=>(aY h).symm
 have q0:decide ((i:Int)<0)=false:=decide_eq_false oM
 refine Ze fun _ a8=>Zr [] hf ?_
 refine y7 0 1 4 hf ?_
 clear hf s0 s1;intro a7 hf sS
 refine Zx a8 ?_
 rcases Nat.lt_or_ge i s.size with o9 | eV
 . (
 have q1:decide (s.size<=i)=false:=decide_eq_false oM
 refine Ze fun _ a8=>Ze fun _ j8=> ?_
 have qs:=And.intro q0 q1
 refine Zr [10,11,12,13,14,15,16] hf ?_
 refine z8 0 1 4 17 hf ?_
 clear hf sS qs;intro a7 hf sS
 refine Zx j8 (Fc.k9 sS.2.2.2 ?_)
 clear q0 q1
 obtain ⟨c,hc⟩:∃ c,at_ s i=c:=⟨_,rfl⟩
 have Ty:c<256:=by rw [<- hc];exact qM s i
 have vo:(wl s)[i]? =some c:=by rw [<- hc];exact aZ o9
 have HC:=H9 hc;have HW:=H9 vo;clear hc vo
 refine wp_skip (Zt a8 fun _ a8=> ?_)
 have bB:=hf.B3 19 20 21
 iterate 2 refine Zy ?_
 refine fp fun K Z=> ?_
 go_simp
 try rw [dif_pos (by omega)]
 skip
 apply Z.out;clear Z K
 refine Zy ?_
 refine Fc.nil (z8 0 1 4 7 hf ?_)
 intro a7 hf sS
 refine Zx a8 ?_
 obtain ⟨s0,s1,s4,s7⟩:=sS
 try rw [HC.out] at s7
 refine Ze fun _ a8=>Ze fun _ j8=>Zr [22] hf ?_
 refine D2 0 1 4 7 23 hf ?_
 clear hf s0 s1 s4 s7;intro a7 hf sS
 refine Zx j8 (Fc.l0 sS.2.2.2.2 (fun hq=> ?_) (fun hq=> ?_))
 . (
 have h8:c<248:=qT
 clear hq
 refine Ze fun _ j8=>Zr [24,25,26,27] hf ?_
 refine y7 4 5 6 hf ?_
 intro a7 hf sS
 refine Zx j8 (k8 ?_)
 obtain ⟨s4,s5,s6⟩:=sS
 refine Fc.fE rfl hf s4 s5 s6 ⟨?_,Below.refl _ _⟩
 rw [Fg HW.out h8]
 rfl)
 . (
 have h8:¬ c<248:=qF
 clear hq
 obtain ⟨m,hm⟩:∃ m,c-247=m:=⟨_,rfl⟩
 have Sc:1<=m/\m<=8:=oM
 have HM:=H9 hm;clear hm
 refine wp_skip (Zt a8 fun _ a8=> ?_)
 have bB:=hf.B4 28 29 30 31
 iterate 2 refine Zy ?_
 refine fp fun K Z=> ?_
 go_simp
 try simp (disch:=omega) only [Fc.W]
 try simp (disch:=omega) only [Fc.W]
 apply Z.out;clear Z K
 refine fp fun K Z=> ?_
 go_simp
 try simp (disch:=omega) only [Fc.W]
 try simp (disch:=omega) only [Fc.W]
 rw [show (c:Int)-248+1=((c-247:Nat):Int) by omega]
 rw [HM.out]
 apply Z.out;clear Z K
 refine Zy ?_
 refine Fc.nil (z8 0 1 4 8 hf ?_)
 intro a7 hf sS
 refine Zs a8 fun _ a8=>Ze fun _ j8=>Zr [32,33,34,35,36] hf ?_
 refine D2 0 1 4 8 37 hf ?_
 intro a7 hf sS
 refine Zx j8 (Fc.l0 sS.2.2.2.2 (fun hq=> ?_) (fun hq=> ?_))
 . (
 have h7:s.size-i<=m:=qT
 clear hq
 refine Ze fun _ j8=>Zr [38] hf ?_
 refine y7 4 5 6 hf ?_
 intro a7 hf sS
 refine Zx j8 (k8 ?_)
 obtain ⟨s4,s5,s6⟩:=sS
 refine Fc.fE rfl hf s4 s5 s6 ⟨?_,Below.refl _ _⟩
 rw [Fh HW.out h8 (by rw [o5,HM.out];exact h7)]
 rfl)
 . (
 have h7:¬ s.size-i<=m:=qF
 clear hq
 refine wp_skip (Zs a8 fun _ a8=>Ze fun _ j8=>Zr [] hf ?_)
 refine F1 0 1 4 8 39 40 hf ?_
 intro a7 hf sS
 refine Zx j8 (wp_block (wp_loop_ghost (fun gk fr wr=>∃ (k n:Nat),gk=m-k/\k<=m/\Fc.Fr 67 fr/\fr.tmps[0]? =some (.string s)/\fr.tmps[1]? =some (.int .i64 i)/\fr.tmps[8]? =some (.int .i64 m)/\fr.tmps[39]? =some (.int .i64 m)/\fr.tmps[40]? =some (.int .i64 k)/\fr.tmps[4]? =some (.int .u64 n)/\n=ofLe (((wl s).drop (i+1)).take k)/\wr=w) (m) ?_ ?_))
 . (
 obtain ⟨s0,s1,s4,s8,cR,gZ⟩:=sS
 exact ⟨0,0,rfl,Nat.zero_le _,hf,s0,s1,s8,cR,gZ,s4,rfl,rfl⟩)
 . (
 clear hf sS
 rintro gk fr wr ⟨k,n,hk,hkm,hf,s0,s1,s8,cR,gZ,s4,hn,SQ⟩
 subst wr
 have HK:=H9 hk;have HN:=H9 hn;clear hk hn
 refine Ze fun _ j8=>Zr [] hf ?_
 refine Z1 0 1 4 8 39 40 41 hf ?_
 clear hf s0 s1 s4 s8 cR gZ;intro a7 hf sS
 refine Zs j8 fun _ j8=>Fc.l0 sS.2.2.2.2.2.2 (fun hq=> ?_) (fun hq=> ?_)
 . (
 have x0i:k<m:=qT
 clear hq
 obtain ⟨d,hd⟩:∃ d,at_ s (i+1+k)=d:=⟨_,rfl⟩
 have hd8:d<256:=by rw [<- hd];exact qM s _
 have ba:(wl s)[i+1+k]? =some d:=by rw [<- hd];exact aZ oM
 have HD:=H9 hd;clear hd
 have z7s:n<256^k:=by rw [HN.out];exact wX s _ _
 have A8:=Lb ba
 rw [<- HN.out] at A8
 obtain ⟨n2,pP⟩:∃ n2,n+256^k*d=n2:=⟨_,rfl⟩
 rw [pP] at A8
 obtain ⟨p,hp⟩:∃ p,256^k*d=p:=⟨_,rfl⟩
 rw [hp] at pP
 have hor:=jc (d:=d) z7s
 rw [hp] at hor
 have mV:n<18446744073709551616:=by rw [HN.out];exact Hw s _ (show k<=8 by omega)
 have y4s:p<18446744073709551616:=by rw [<- hp];exact jd hd8 (show k<=7 by omega)
 have HP:=H9 hp;have HOR:=H9 hor;have bh:=H9 pP;have L4:=H9 A8;clear pP A8 ba hp hor
 refine wp_skip (Zs j8 fun _ j8=>wp_block (Ze fun _ l8=>Zr [42] hf ?_))
 refine Z1 0 1 4 8 9 39 40 hf ?_
 intro a7 hf sS
 refine Zx l8 (rg ?_)
 have bB:=And.intro (hf.eW 43 44 45 46 47 48 49 50 51 52) (hf.B2 53 54)
 iterate 6 refine Zy ?_
 refine fp fun K Z=> ?_
 go_simp
 rw [if_pos (by omega),Oper.upon_value,show ((i:Int)+1+(k:Int)).toNat=i+1+k by omega,HD.out]
 apply Z.out;clear Z K
 iterate 3 refine Zy ?_
 refine fp fun K Z=> ?_
 go_simp
 rw [Vr hd8 (show k<=7 by omega),HP.out]
 apply Z.out;clear Z K
 refine fp fun K Z=> ?_
 go_simp
 rw [u64_or_nat n p mV y4s,HOR.out,bh.out]
 apply Z.out;clear Z K
 refine Zy ?_
 refine Fc.nil (F1 0 1 4 8 39 40 hf ?_)
 intro a7 hf sS
 refine Fc.j9 (Zx j8 (Zr [55] hf ?_))
 refine F1 0 1 4 8 39 40 hf ?_
 intro a7 hf sS
 refine Fc.j7 ?_
 obtain ⟨s0,s1,s4,s8,cR,gZ⟩:=sS
 exact ⟨_,by have:=HK.out;omega,k+1,n2,rfl,oM,hf,s0,s1,s8,cR,by rw [gZ];rfl,s4,L4.out,rfl⟩)
 . (
 have iB:k=m:=qF
 subst iB
 clear hq
 have mV:n<q9:=by rw [HN.out];exact Hw s _ Sc.2
 refine Zo ?_
 refine Zs a8 fun _ a8=>Ze fun _ j8=>rg ?_
 have bB:=hf.B4 56 57 58 59
 refine Zy ?_
 refine Zc (jm w n mV) ?_;rintro e w1 ⟨rfl,N0⟩
 refine Zv ?_
 refine Zy ?_
 refine fp fun K Z=> ?_
 go_simp
 try simp (disch:=omega) only [Fc.W]
 rw [show (1:Int)+(k:Int)=((1+k:Nat):Int) by omega]
 apply Z.out;clear Z K
 refine Zy ?_
 refine Fc.nil (z8 1 4 8 60 hf ?_)
 intro a7 hf sS
 refine Zx j8 (Fc.l0 sS.2.2.2 (fun hq=> ?_) (fun hq=> ?_))
 . (
 have h6:¬ (r7 n).length=1+k:=by have h9:=hq;simp at h9;omega
 clear hq
 refine Ze fun _ j8=>Zr [61] hf ?_
 refine y7 4 5 6 hf ?_
 intro a7 hf sS
 refine Zx j8 (k8 ?_)
 obtain ⟨s4,s5,s6⟩:=sS
 refine Fc.fE rfl hf s4 s5 s6 ⟨?_,N0⟩
 rw [La HW.out h8 (by rw [o5,HM.out];exact h7) (by rw [HM.out, <- HN.out];exact h6)]
 rfl)
 . (
 have h6 :  (r7 n).length=1+k:=by have h9:=hq;simp at h9;omega
 clear hq
 refine wp_skip (Zs a8 fun _ a8=>Zr [62,63,64,65,66] hf ?_)
 refine y7 4 5 6 hf ?_
 intro a7 hf sS
 refine Zx a8 (k8 ?_)
 obtain ⟨s4,s5,s6⟩:=sS
 refine Fc.fE rfl hf s4 s5 s6 ⟨?_,N0⟩
 rw [RC HW.out h8 (by rw [o5,HM.out];exact h7) (by rw [HM.out, <- HN.out];exact h6),HM.out, <- HN.out]
 rfl))))))
 . (
 have q1:decide (s.size<=i)=true:=decide_eq_true eV
 refine Ze fun _ a8=>Ze fun _ j8=> ?_
 have qs:=And.intro q0 q1
 refine Zr [10,11,12,13,14,15,16] hf ?_
 refine z8 0 1 4 17 hf ?_
 clear hf sS qs;intro a7 hf sS
 refine Zx j8 (Fc.l7 sS.2.2.2 ?_)
 refine Ze fun _ j8=>Zr [18] hf ?_
 refine y7 4 5 6 hf ?_
 intro a7 hf sS
 refine Zx j8 (k8 ?_)
 obtain ⟨s4,s5,s6⟩:=sS
 refine Fc.fE rfl hf s4 s5 s6 ⟨?_,Below.refl _ _⟩
 rw [LZ (by rw [o5];exact eV)]
 rfl)
def RD (w:World) (g:Nat) (s:ByteArray) (i:Nat):Prop:=w.heap[g]? =some (.cells #[.string s,.int .i64 i] 84 (0,0))
theorem RD.c0 {w:World} {g:Nat} {s:ByteArray} {i:Nat} (h:RD w g s i):w.cell? ⟨g,0,none⟩=some (.string s):=by rw [cell_of_row _ _ 0 _ _ (0,0) h];rfl
theorem RD.c1 {w:World} {g:Nat} {s:ByteArray} {i:Nat} (h:RD w g s i):w.cell? ⟨g,1,none⟩=some (.int .i64 i):=by rw [cell_of_row _ _ 1 _ _ (0,0) h];rfl
theorem RD.later {w w1:World} {g:Nat} {s:ByteArray} {i:Nat} (h:RD w g s i) (hb:Below w.heap.size w w1):RD w1 g s i:=(hb.block g (j5 h)).trans h
def K4 (s:ByteArray) (i:Nat):Nat×Nat×Nat:=if i=s.size then (0,i,3) else (at_ s i,i+1,0)
theorem Lc {s:ByteArray} {i:Nat} (h:i=s.size):K4 s i=(0,i,3):=by unfold K4;rw [if_pos h]
theorem RF {s:ByteArray} {i:Nat} (h:i<s.size):K4 s i=(at_ s i,i+1,0):=by unfold K4;rw [if_neg (by omega)]
def aH (lo hi n:Nat):Nat:=if n<lo\/hi<n then 17 else 0
theorem Cv (n lo hi:Nat):n<lo\/(lo<=n/\hi<n)\/(lo<=n/\n<=hi):=oM
def K6 (k:Nat):Nat:=[67,83,1].getD k 0
theorem CD {k:Nat} (h:k<3):at_ ⟨#[67,83,1]⟩ k=K6 k:=by
 rcases k with _ | _ | _ | k<;>first | rfl | omega
def rY (k x:Nat):Nat:=if x=K6 k then 0 else 6
theorem jb (w:World) (c g:Nat) (s:ByteArray) (i:Nat) (hc:w.cell? ⟨c,0,none⟩=some (.pointer (some ⟨g,0,none⟩))) (hr:RD w g s i) (hi:i<=s.size) (C8:s.size<=1000000000):E2 w 95 #[.pointer (some ⟨c,0,none⟩)] (.tuple #[.int .u8 (K4 s i).1,.int .i64 (K4 s i).2.1,.int .i64 (K4 s i).2.2]):=by
 refine L7 32 Tryz.func95 fun fr hf s0=> ?_
 have g0:=hr.c0;have g1:=hr.c1
 clear hr
 refine Ze fun _ a8=>Zr [] hf ?_
 refine p5 0 hf ?_
 clear hf s0;intro a7 hf s0
 refine Zs a8 fun _ a8=>Ze fun _ j8=>Sb.tb 32 fun a6=> ?_
 have lf:=H9 fun (w9:World) (h9:Below _ _ w9)=>ad (cL h9 hc) (ad (cL h9 g0) (cL h9 g1))
 refine Sb.T 0 hf a6 ?_ (hF:=fun _ _ h d=>ad (Sb.O h s0) (lf.out _ h.ext))
 refine Sb.T 1 hf a6 ?_
 refine Sb.T 2 hf a6 ?_
 refine Sb.T 3 hf a6 ?_ (hF:=fun _ _ h d=>lf.out _ h.ext)
 refine Sb.T 4 hf a6 ?_ (hF:=fun _ _ h d=>ad (Sb.O h s0) (lf.out _ h.ext))
 refine Sb.T 5 hf a6 ?_
 refine Sb.T 6 hf a6 ?_
 refine Sb.T 7 hf a6 ?_ (hF:=fun _ _ h d=>lf.out _ h.ext)
 refine Sb.T 8 hf a6 ?_ (hF:=fun _ _ h d=>lf.out _ h.ext)
 refine Sb.T 9 hf a6 ?_
 refine Sb.E hf a6 (fun _ _ h g=>ad (Sb.O h s0) (Sb.f 9 0 g)) ?_
 clear hf a6 s0;intro a7 w1 hf hx sS
 have L1:=lf.out _ hx;(try clear hc g0 g1);clear lf;obtain ⟨hc,g0,g1⟩:=L1
 refine Zx j8 (Fc.l0 sS.2 (fun hq=> ?_) (fun hq=> ?_))
 . (
 have C3:i=s.size:=by have:=beq_iff_eq.1 hq;omega
 have nM:=H9 C3;clear C3 hq
 have mB:=hx;clear hx
 refine Ze fun _ j8=> ?_
 obtain ⟨s0,D1⟩:=sS
 refine Sb.tb 32 fun a6=> ?_
 refine Sb.T 0 hf a6 ?_ (hF:=fun _ _ h d=>ad (Sb.O h s0) (ad (cL h.ext hc) (ad (cL h.ext g0) (cL h.ext g1))))
 refine Sb.T 1 hf a6 ?_
 refine Sb.T 2 hf a6 ?_
 refine Sb.T 3 hf a6 ?_ (hF:=fun _ _ h d=>ad (cL h.ext hc) (ad (cL h.ext g0) (cL h.ext g1)))
 refine Sb.T 4 hf a6 ?_
 refine Sb.mN 5 3 1 hf a6 [] ?_
 refine Sb.T 6 hf a6 ?_
 refine Sb.E hf a6 (fun _ _ h g=>ad (Sb.f 4 2 g) (ad (Sb.f 5 1 g) (Sb.f 6 0 g))) ?_
 clear hf a6 s0 D1;intro a7 w1 hf hx sS
 replace hc:=cL hx hc
 replace g0:=cL hx g0
 replace g1:=cL hx g1
 refine Zx j8 (k8 ?_)
 obtain ⟨s1,s2,s3⟩:=sS
 refine Fc.fE rfl hf s1 s2 s3 ⟨?_,mB.trans (hx.mono mB.size)⟩
 rw [Lc nM.out]
 rfl)
 . (
 have o9:i<s.size:=by have:=beq_eq_false_iff_ne.1 hq;omega
 clear hq
 have mB:=hx;clear hx
 refine wp_skip (Zs a8 fun _ a8=> ?_)
 obtain ⟨s0,D1⟩:=sS
 refine Sb.tb 32 fun a6=> ?_
 have lf:=H9 fun (w9:World) (h9:Below _ _ w9)=>ad (cL h9 hc) (ad (cL h9 g0) (cL h9 g1))
 refine Sb.T 0 hf a6 ?_ (hF:=fun _ _ h d=>ad (Sb.O h s0) (lf.out _ h.ext))
 refine Sb.T 1 hf a6 ?_
 refine Sb.T 2 hf a6 ?_
 refine Sb.T 3 hf a6 ?_ (hF:=fun _ _ h d=>lf.out _ h.ext)
 refine Sb.T 4 hf a6 ?_ (hF:=fun _ _ h d=>ad (Sb.O h s0) (lf.out _ h.ext))
 refine Sb.T 5 hf a6 ?_
 refine Sb.T 6 hf a6 ?_
 refine Sb.T 7 hf a6 ?_ (hF:=fun _ _ h d=>lf.out _ h.ext)
 apply Sb.tq 8 _ hf a6
 . (
 intro a7 w1 hh hd hk K Z
 have S9:=Sb.v 3 4 hd hk []
 have Z9:=Sb.v 7 0 hd hk []
 clear hd
 have L1:=lf.out _ hh.ext;(try clear hc g0 g1);obtain ⟨hc,g0,g1⟩:=L1
 go_simp
 try rw [dif_pos (by omega)]
 exact Sb.k Z)
 refine Sb.T 9 hf a6 ?_ (hF:=fun _ _ h d=>ad (Sb.O h s0) (lf.out _ h.ext))
 refine Sb.T 10 hf a6 ?_
 refine Sb.T 11 hf a6 ?_
 refine Sb.T 12 hf a6 ?_ (hF:=fun _ _ h d=>lf.out _ h.ext)
 refine Sb.T 13 hf a6 ?_
 refine Sb.mN 14 8 5 hf a6 [] ?_
 refine Sb.mN 15 13 1 hf a6 [] ?_
 refine Sb.T 16 hf a6 ?_
 refine Sb.E hf a6 (fun _ _ h g=>ad (Sb.f 14 2 g) (ad (Sb.f 15 1 g) (Sb.f 16 0 g))) ?_
 clear hf a6 s0 D1;intro a7 w1 hf hx sS
 have L1:=lf.out _ hx;(try clear hc g0 g1);clear lf;obtain ⟨hc,g0,g1⟩:=L1
 refine Zx a8 (k8 ?_)
 obtain ⟨s1,s2,s3⟩:=sS
 refine Fc.fE rfl hf s1 s2 s3 ⟨?_,mB.trans (hx.mono mB.size)⟩
 rw [RF o9]
 simp [aY o9])
theorem z7r (w:World) (c g:Nat) (s:ByteArray) (i:Nat) (hc:w.cell? ⟨c,0,none⟩=some (.pointer (some ⟨g,0,none⟩))) (hr:RD w g s i) (hi:i<=s.size) (C8:s.size<=1000000000):E2 w 97 #[.pointer (some ⟨c,0,none⟩)] (.tuple #[.int .u64 (getN (wl s) i).1,.int .i64 (getN (wl s) i).2.1,.int .i64 (getN (wl s) i).2.2]):=by
 refine L7 16 Tryz.func97 fun fr hf s0=> ?_
 have g0:=hr.c0;have g1:=hr.c1
 clear hr
 refine Ze fun _ a8=>Zr [] hf ?_
 refine p5 0 hf ?_
 clear hf s0;intro a7 hf s0
 refine Zs a8 fun _ a8=>Sb.tb 16 fun a6=> ?_
 have lf:=H9 fun (w9:World) (h9:Below _ _ w9)=>ad (cL h9 hc) (ad (cL h9 g0) (cL h9 g1))
 refine Sb.T 0 hf a6 ?_ (hF:=fun _ _ h d=>ad (Sb.O h s0) (lf.out _ h.ext))
 refine Sb.T 1 hf a6 ?_
 refine Sb.T 2 hf a6 ?_
 refine Sb.T 3 hf a6 ?_ (hF:=fun _ _ h d=>lf.out _ h.ext)
 refine Sb.T 4 hf a6 ?_ (hF:=fun _ _ h d=>ad (Sb.O h s0) (lf.out _ h.ext))
 refine Sb.T 5 hf a6 ?_
 refine Sb.T 6 hf a6 ?_
 refine Sb.T 7 hf a6 ?_ (hF:=fun _ _ h d=>lf.out _ h.ext)
 apply Sb.tq 8 _ hf a6
 . (
 intro a7 w1 hh hd hk K Z
 have s7:=Sb.v 3 4 hd hk []
 have D9:=Sb.v 7 0 hd hk []
 clear hd
 have L1:=lf.out _ hh.ext;(try clear hc g0 g1);obtain ⟨hc,g0,g1⟩:=L1
 go_simp
 go_at_call 98;refine (z7t _ s i hi C8).mono ?_;rintro e w2 ⟨rfl,r8⟩
 exact Z.out _ rfl _ _ r8 rfl)
 refine Sb.T 9 hf a6 ?_
 refine Sb.T 10 hf a6 ?_
 refine Sb.T 11 hf a6 ?_
 refine Sb.mN 12 9 2 hf a6 [] ?_
 refine Sb.mN 13 10 2 hf a6 [] ?_
 refine Sb.mN 14 11 2 hf a6 [] ?_
 refine Sb.E hf a6 (fun _ _ h g=>ad (Sb.f 12 2 g) (ad (Sb.f 13 1 g) (Sb.f 14 0 g))) ?_
 clear hf a6 s0;intro a7 w1 hf hx sS
 have L1:=lf.out _ hx;(try clear hc g0 g1);clear lf;obtain ⟨hc,g0,g1⟩:=L1
 refine Zx a8 (k8 ?_)
 obtain ⟨s1,s2,s3⟩:=sS
 exact Fc.fE rfl hf s1 s2 s3 ⟨rfl,hx⟩
theorem YR (w:World) (n lo hi p q:Nat) (hp:w.cell? ⟨p,0,none⟩=some (.int .u64 lo)) (hq:w.cell? ⟨q,0,none⟩=some (.int .u64 hi)):E2 w 99 #[.int .u64 n,.pointer (some ⟨p,0,none⟩),.pointer (some ⟨q,0,none⟩)] (.int .i64 (aH lo hi n:Nat)):=by
 refine dT 13 Tryz.func99 fun fr hf s0 s1 s2=> ?_
 rcases Cv n lo hi with cB | cB | cB
 . (
 have q1:decide (n<lo)=true:=decide_eq_true oM
 have HC:=H9 cB;clear cB
 refine Ze fun _ a8=>Zr [] hf ?_
 refine y7 0 1 2 hf ?_
 clear hf s0 s1 s2;intro a7 hf sS
 refine Zs a8 fun _ a8=>Ze fun _ j8=> ?_
 have qs:=q1
 refine Zr [5,6,7,8,9,10,11] hf ?_
 refine p5 12 hf ?_
 clear hf sS qs;intro a7 hf F7
 refine Zx j8 (Fc.l7 F7 ?_)
 refine Ze fun _ j8=>Zr [] hf ?_
 refine p5 4 hf ?_
 clear hf F7;intro a7 hf s4
 refine Zx j8 (k8 ?_)
 refine Fc.o6 rfl hf s4 ⟨?_,Below.refl _ _⟩
 have:=HC.out
 rw [aH,if_pos (by omega)]
 rfl)
 . (
 have q1:decide (n<lo)=false:=decide_eq_false oM
 have q2:decide (hi<n)=true:=decide_eq_true oM
 have HC:=H9 cB;clear cB
 refine Ze fun _ a8=>Zr [] hf ?_
 refine y7 0 1 2 hf ?_
 clear hf s0 s1 s2;intro a7 hf sS
 refine Zs a8 fun _ a8=>Ze fun _ j8=> ?_
 have qs:=And.intro q1 q2
 refine Zr [5,6,7,8,9,10,11] hf ?_
 refine p5 12 hf ?_
 clear hf sS qs;intro a7 hf F7
 refine Zx j8 (Fc.l7 F7 ?_)
 refine Ze fun _ j8=>Zr [] hf ?_
 refine p5 4 hf ?_
 clear hf F7;intro a7 hf s4
 refine Zx j8 (k8 ?_)
 refine Fc.o6 rfl hf s4 ⟨?_,Below.refl _ _⟩
 have:=HC.out
 rw [aH,if_pos (by omega)]
 rfl)
 . (
 have q1:decide (n<lo)=false:=decide_eq_false oM
 have q2:decide (hi<n)=false:=decide_eq_false oM
 have HC:=H9 cB;clear cB
 refine Ze fun _ a8=>Zr [] hf ?_
 refine y7 0 1 2 hf ?_
 clear hf s0 s1 s2;intro a7 hf sS
 refine Zs a8 fun _ a8=>Ze fun _ j8=> ?_
 have qs:=And.intro q1 q2
 refine Zr [5,6,7,8,9,10,11] hf ?_
 refine p5 12 hf ?_
 clear hf sS qs;intro a7 hf F7
 refine Zx j8 (Fc.k9 F7 ?_)
 refine wp_skip (Zs a8 fun _ a8=>Zr [] hf ?_)
 refine p5 4 hf ?_
 clear hf F7;intro a7 hf s4
 refine Zx a8 (k8 ?_)
 refine Fc.o6 rfl hf s4 ⟨?_,Below.refl _ _⟩
 have:=HC.out
 rw [aH,if_neg (by omega)]
 rfl)
theorem Vs (w:World) (x:Nat):E2 w 100 #[.int .u8 x] (.int .i64 ((0:Nat):Int)):=by
 refine L7 3 Tryz.func100 fun fr hf s0=> ?_
 refine Ze fun _ a8=>Zr [] hf ?_
 refine Dq hf ?_
 clear hf s0;intro a7 hf
 refine Zs a8 fun _ a8=>Zr [] hf ?_
 refine p5 2 hf ?_
 clear hf;intro a7 hf s2
 refine Zx a8 (k8 ?_)
 exact Fc.o6 rfl hf s2 ⟨rfl,Below.refl _ _⟩
theorem z7q (w:World) (x k p:Nat) (hk:k<3) (hp:w.cell? ⟨p,0,none⟩=some (.int .i64 k)):E2 w 58 #[.int .u8 x,.pointer (some ⟨p,0,none⟩)] (.int .i64 (rY k x:Nat)):=by
 refine Z6 8 Tryz.func58 fun fr hf s0 s1=> ?_
 obtain ⟨m,hm⟩:∃ x,K6 k=x:=⟨_,rfl⟩
 have C7:∀ h:k<(ByteArray.mk #[67,83,1]).size,((ByteArray.mk #[67,83,1])[k]'h).toNat=m:=fun h=>by rw [<- hm, <- CD hk,aY h]
 have HM:=H9 hm;clear hm
 refine Ze fun _ a8=>Zr [] hf ?_
 refine y4 0 1 hf ?_
 clear hf s0 s1;intro a7 hf sS
 refine Zs a8 fun _ a8=>Ze fun _ j8=>rg ?_
 have bB:=hf.B3 4 5 6
 iterate 2 refine Zy ?_
 refine fp fun K Z=> ?_
 go_simp
 rw [if_pos (by omega)]
 apply Z.out;clear Z K
 refine Zy ?_
 refine Fc.nil (p5 7 hf ?_)
 intro a7 hf s7
 refine Zx j8 (Fc.l0 s7 (fun hq=> ?_) (fun hq=> ?_))
 . (
 refine Ze fun _ j8=>Zr [] hf ?_
 refine p5 3 hf ?_
 clear hf s7;intro a7 hf s3
 refine Zx j8 (k8 ?_)
 refine Fc.o6 rfl hf s3 ⟨?_,Below.refl _ _⟩
 unfold rY
 rw [HM.out,if_neg (by intro e;subst e;simp at hq)]
 rfl)
 . (
 refine wp_skip (Zs a8 fun _ a8=>Zr [] hf ?_)
 refine p5 3 hf ?_
 clear hf s7;intro a7 hf s3
 refine Zx a8 (k8 ?_)
 refine Fc.o6 rfl hf s3 ⟨?_,Below.refl _ _⟩
 unfold rY
 rw [HM.out,if_pos (by have:=(by simpa using hq:(x:Int)=m);omega)]
 rfl)
theorem wV.via {w w1 w2:World} {e:Ending} {c a:Int} (hb:Below w.heap.size w w2) (h:wV w2 w1 e c a):wV w w1 e c a:=by
 obtain ⟨q,h1,h2,h3,h4⟩:=h
 exact ⟨q,h1,Nat.le_trans hb.size h2,h3,hb.trans (h4.mono hb.size)⟩
def fA (w w1:World) (e:Ending) (k:IntKind) (r:Nat×Nat×Nat) (c2 i g:Nat) (s:ByteArray):Prop :=
 if r.2.2≠0 then wV w w1 e r.2.2 i else if c2≠0 then wV w w1 e c2 i else e= .returned (.int k r.1)/\RD w1 g s r.2.1/\n4 (fun k=>k=g) w w1
theorem fA.one {w w1:World} {e:Ending} {k:IntKind} {x ny c1 c2 i g:Nat} {s:ByteArray} (hc:c1≠0) (h:wV w w1 e c1 i):fA w w1 e k (x,ny,c1) c2 i g s:=by
 unfold fA
 rw [if_pos hc]
 exact h
theorem fA.two {w w1:World} {e:Ending} {k:IntKind} {x ny c2 i g:Nat} {s:ByteArray} (hc:c2≠0) (h:wV w w1 e c2 i):fA w w1 e k (x,ny,0) c2 i g s:=by
 unfold fA
 rw [if_neg sP,if_pos hc]
 exact h
theorem fA.ok {w w1:World} {k:IntKind} {x ny i g:Nat} {s:ByteArray} (h:RD w1 g s ny) (hb:n4 (fun k=>k=g) w w1):fA w w1 (.returned (.int k x)) k (x,ny,0) 0 i g s:=by
 unfold fA
 rw [if_neg sP,if_neg sP]
 exact ⟨rfl,h,hb⟩
theorem Hx (w:World) (c g:Nat) (s:ByteArray) (i:Nat) (hc:w.cell? ⟨c,0,none⟩=some (.pointer (some ⟨g,0,none⟩))) (hr:RD w g s i) (hi:i<=s.size) (C8:s.size<=1000000000) (fq:FuncId) (uU:Array Value) (c2:Nat) (pw:∀ (xs:Array Value) (w1:World),(callFunc fq xs).run Tryz.prog w1= .ok (.enter fq xs) w1) (Cn:∀ w1,Below w.heap.size w w1->(K4 s i).2.2=0->Calls Tryz.prog fq (#[.int .u8 (K4 s i).1]++uU) w1 fun e w2=>e= .returned (.int .i64 c2)/\Below w1.heap.size w1 w2):Calls Tryz.prog 94 #[.pointer (some ⟨g,0,none⟩),.func (.func 95) #[] #[.pointer (some ⟨c,0,none⟩)],.func (.func fq) #[] uU] w fun e w1=>fA w w1 e .u8 (K4 s i) c2 i g s:=by
 refine dT 40 Tryz.func94 fun fr hf s0 s1 s2=> ?_
 obtain ⟨⟨x,ny,c1⟩,kQ⟩:∃ r,K4 s i=r:=⟨_,rfl⟩
 rw [kQ] at Cn |-
 have g1:=hr.c1
 have Je:=j5 hr
 refine Ze fun _ a8=>Zr [] hf ?_
 refine y7 0 1 2 hf ?_
 clear hf s0 s1 s2;intro a7 hf sS
 refine Zt a8 fun _ a8=> ?_
 have bB:=hf.B6 11 12 10 13 14 15
 refine Zy ?_
 refine Zc (jb w c g s i hc hr hi C8) ?_;rintro e w2 ⟨rfl,r8⟩
 rw [kQ]
 refine Zv ?_
 iterate 7 refine Zy ?_
 refine Fc.nil (D2 0 2 7 8 9 hf ?_)
 intro a7 hf sS
 have g2:=cL r8 g1
 have R1:=hr.later r8
 clear hr g1 hc
 refine Zs a8 fun _ a8=>Ze fun _ j8=>Zr [16] hf ?_
 refine F1 0 2 7 8 9 17 hf ?_
 intro a7 hf sS
 refine Zx j8 (Fc.l0 sS.2.2.2.2.2 (fun h1=> ?_) (fun h1=> ?_))
 . (
 have F0:c1≠0:=by simpa using h1
 clear h1
 refine rg ?_
 have bB:=hf.B5 18 19 20 21 22
 iterate 5 refine Zy ?_
 refine fp fun K Z=> ?_
 go_simp
 go_at_call 32;refine (wW w2 c1 i).mono ?_;rintro e w3 ⟨q,rfl,kZ,C5,R0⟩
 try dsimp only
 refine eT hf.defers (fA.one F0 (wV.via r8 ⟨q,rfl,kZ,C5,R0⟩)))
 . (
 have hz:c1=0:=by simpa using h1
 clear h1
 subst hz
 refine wp_skip (Zs a8 fun _ a8=>Ze fun _ j8=>rg ?_)
 have bB:=hf.B3 24 25 26
 iterate 2 refine Zy ?_
 refine fp fun K Z=> ?_
 go_simp
 try rw [pw]
 refine (Cn w2 r8 rfl).mono ?_
 rintro e w3 ⟨rfl,G4⟩
 try dsimp only
 apply Z.out;clear Z K
 refine Zy ?_
 refine Fc.nil (z8 0 7 8 9 hf ?_)
 intro a7 hf sS
 have g3:=cL G4 g2
 have kT:=R1.later G4
 have RG:=r8.trans (G4.mono r8.size)
 clear R1 g2
 refine Zs j8 fun _ j8=>Zr [27] hf ?_
 refine D2 0 7 8 9 28 hf ?_
 intro a7 hf sS
 refine Zx j8 (Fc.l0 sS.2.2.2.2 (fun h2=> ?_) (fun h2=> ?_))
 . (
 have F0:c2≠0:=by simpa using h2
 clear h2
 refine rg ?_
 have bB:=hf.B5 29 30 31 32 33
 iterate 5 refine Zy ?_
 refine fp fun K Z=> ?_
 go_simp
 go_at_call 32;refine (wW w3 c2 i).mono ?_;rintro e w4 ⟨q,rfl,kZ,C5,R0⟩
 try dsimp only
 refine eT hf.defers (fA.two F0 (wV.via RG ⟨q,rfl,kZ,C5,R0⟩)))
 . (
 have hz:c2=0:=by simpa using h2
 clear h2
 subst hz
 have fz:=j6 (i:=1) kT
 refine wp_skip (Zs a8 fun _ a8=>Zr [35,36,37,38] hf ?_)
 refine p5 7 hf ?_
 intro a7 hf s7
 have MV:RD (w3.setCell ⟨g,1,none⟩ (.int .i64 ny)) g s ny:=(k7 (i:=1) kT _).trans sP
 have l6:n4 (fun k=>k=g) w (w3.setCell ⟨g,1,none⟩ (.int .i64 ny)):=(n4.of _ RG).trans (n4.setCell (S:=fun k=>k=g) rfl _)
 refine Zs a8 fun _ a8=>Zr [39] hf ?_
 refine p5 6 hf ?_
 clear hf s7;intro a7 hf s6
 refine Zx a8 (k8 ?_)
 exact Fc.o6 rfl hf s6 (fA.ok MV l6)))
theorem Hy (w:World) (c g:Nat) (s:ByteArray) (i:Nat) (hc:w.cell? ⟨c,0,none⟩=some (.pointer (some ⟨g,0,none⟩))) (hr:RD w g s i) (hi:i<=s.size) (C8:s.size<=1000000000) (fq:FuncId) (uU:Array Value) (c2:Nat) (pw:∀ (xs:Array Value) (w1:World),(callFunc fq xs).run Tryz.prog w1= .ok (.enter fq xs) w1) (Cn:∀ w1,Below w.heap.size w w1->(getN (wl s) i).2.2=0->Calls Tryz.prog fq (#[.int .u64 (getN (wl s) i).1]++uU) w1 fun e w2=>e= .returned (.int .i64 c2)/\Below w1.heap.size w1 w2):Calls Tryz.prog 96 #[.pointer (some ⟨g,0,none⟩),.func (.func 97) #[] #[.pointer (some ⟨c,0,none⟩)],.func (.func fq) #[] uU] w fun e w1=>fA w w1 e .u64 (getN (wl s) i) c2 i g s:=by
 refine dT 40 Tryz.func96 fun fr hf s0 s1 s2=> ?_
 obtain ⟨⟨x,ny,c1⟩,kQ⟩:∃ r,getN (wl s) i=r:=⟨_,rfl⟩
 rw [kQ] at Cn |-
 have g1:=hr.c1
 have Je:=j5 hr
 refine Ze fun _ a8=>Zr [] hf ?_
 refine y7 0 1 2 hf ?_
 clear hf s0 s1 s2;intro a7 hf sS
 refine Zt a8 fun _ a8=> ?_
 have bB:=hf.B6 11 12 10 13 14 15
 refine Zy ?_
 refine Zc (z7r w c g s i hc hr hi C8) ?_;rintro e w2 ⟨rfl,r8⟩
 rw [kQ]
 refine Zv ?_
 iterate 7 refine Zy ?_
 refine Fc.nil (D2 0 2 7 8 9 hf ?_)
 intro a7 hf sS
 have g2:=cL r8 g1
 have R1:=hr.later r8
 clear hr g1 hc
 refine Zs a8 fun _ a8=>Ze fun _ j8=>Zr [16] hf ?_
 refine F1 0 2 7 8 9 17 hf ?_
 intro a7 hf sS
 refine Zx j8 (Fc.l0 sS.2.2.2.2.2 (fun h1=> ?_) (fun h1=> ?_))
 . (
 have F0:c1≠0:=by simpa using h1
 clear h1
 refine rg ?_
 have bB:=hf.B5 18 19 20 21 22
 iterate 5 refine Zy ?_
 refine fp fun K Z=> ?_
 go_simp
 go_at_call 32;refine (wW w2 c1 i).mono ?_;rintro e w3 ⟨q,rfl,kZ,C5,R0⟩
 try dsimp only
 refine eT hf.defers (fA.one F0 (wV.via r8 ⟨q,rfl,kZ,C5,R0⟩)))
 . (
 have hz:c1=0:=by simpa using h1
 clear h1
 subst hz
 refine wp_skip (Zs a8 fun _ a8=>Ze fun _ j8=>rg ?_)
 have bB:=hf.B3 24 25 26
 iterate 2 refine Zy ?_
 refine fp fun K Z=> ?_
 go_simp
 try rw [pw]
 refine (Cn w2 r8 rfl).mono ?_
 rintro e w3 ⟨rfl,G4⟩
 try dsimp only
 apply Z.out;clear Z K
 refine Zy ?_
 refine Fc.nil (z8 0 7 8 9 hf ?_)
 intro a7 hf sS
 have g3:=cL G4 g2
 have kT:=R1.later G4
 have RG:=r8.trans (G4.mono r8.size)
 clear R1 g2
 refine Zs j8 fun _ j8=>Zr [27] hf ?_
 refine D2 0 7 8 9 28 hf ?_
 intro a7 hf sS
 refine Zx j8 (Fc.l0 sS.2.2.2.2 (fun h2=> ?_) (fun h2=> ?_))
 . (
 have F0:c2≠0:=by simpa using h2
 clear h2
 refine rg ?_
 have bB:=hf.B5 29 30 31 32 33
 iterate 5 refine Zy ?_
 refine fp fun K Z=> ?_
 go_simp
 go_at_call 32;refine (wW w3 c2 i).mono ?_;rintro e w4 ⟨q,rfl,kZ,C5,R0⟩
 try dsimp only
 refine eT hf.defers (fA.two F0 (wV.via RG ⟨q,rfl,kZ,C5,R0⟩)))
 . (
 have hz:c2=0:=by simpa using h2
 clear h2
 subst hz
 have fz:=j6 (i:=1) kT
 refine wp_skip (Zs a8 fun _ a8=>Zr [35,36,37,38] hf ?_)
 refine p5 7 hf ?_
 intro a7 hf s7
 have MV:RD (w3.setCell ⟨g,1,none⟩ (.int .i64 ny)) g s ny:=(k7 (i:=1) kT _).trans sP
 have l6:n4 (fun k=>k=g) w (w3.setCell ⟨g,1,none⟩ (.int .i64 ny)):=(n4.of _ RG).trans (n4.setCell (S:=fun k=>k=g) rfl _)
 refine Zs a8 fun _ a8=>Zr [39] hf ?_
 refine p5 6 hf ?_
 clear hf s7;intro a7 hf s6
 refine Zx a8 (k8 ?_)
 exact Fc.o6 rfl hf s6 (fA.ok MV l6)))
theorem jN {P : Program} {f : FuncId} {fn : Func} {c : Code} (hf : P.funcs[f]? = some fn) (hn : (fn.name == "runtime.NumGoroutine") = false) (hb : fn.body = some c) (xs : Array Value) (w1 : World) : (callFunc f xs).run P w1 = .ok (.enter f xs) w1 := by
 have pP : ¬ fn.name = "runtime.NumGoroutine" := by simpa using hn
 simp [callFunc,program,Sem.run,hf,pP,hb]
theorem call73 (xs:Array Value) (w1:World):(callFunc 99 xs).run Tryz.prog w1= .ok (.enter 99 xs) w1:=jN Tryz.func99 kR rfl xs w1
theorem call74 (xs:Array Value) (w1:World):(callFunc 100 xs).run Tryz.prog w1= .ok (.enter 100 xs) w1:=jN Tryz.func100 kR rfl xs w1
theorem call50 (xs:Array Value) (w1:World):(callFunc 58 xs).run Tryz.prog w1= .ok (.enter 58 xs) w1:=jN Tryz.func58 kR rfl xs w1
theorem YS (a b c:Value):(#[a]++ #[b,c]:Array Value)= #[a,b,c]:=rfl
theorem z7p (a b:Value):(#[a]++ #[b]:Array Value)= #[a,b]:=rfl
theorem z7o (a:Value):(#[a]++ #[]:Array Value)= #[a]:=rfl
theorem fA.mJ {w w1:World} {e:Ending} {k:IntKind} {r:Nat×Nat×Nat} {c2 i g:Nat} {s:ByteArray} (h:fA w w1 e k r c2 i g s) (hg:r.2.2=0/\c2=0):e= .returned (.int k r.1)/\RD w1 g s r.2.1/\n4 (fun k=>k=g) w w1:=by
 unfold fA at h
 rw [if_neg (by simp [hg.1]),if_neg (by simp [hg.2])] at h
 exact h
theorem fA.bad {w w1:World} {e:Ending} {k:IntKind} {r:Nat×Nat×Nat} {c2 i g:Nat} {s:ByteArray} (h:fA w w1 e k r c2 i g s) (hg:¬ (r.2.2=0/\c2=0)):wV w w1 e (if r.2.2≠0 then r.2.2 else c2:Nat) i:=by
 unfold fA at h
 split at h
 ·rename_i h1;rw [if_pos h1];exact h
 ·rename_i h1
  rw [if_neg h1]
  rw [if_pos (by intro e;exact hg ⟨by simpa using h1,e⟩)] at h
  exact h
theorem fA.back {w w0 w1:World} {e:Ending} {k:IntKind} {r:Nat×Nat×Nat} {c2 i g:Nat} {s:ByteArray} (hb:Below w.heap.size w w0) (h:fA w0 w1 e k r c2 i g s):fA w w1 e k r c2 i g s:=by
 unfold fA at h |-
 split
 ·rename_i h1;rw [if_pos h1] at h;exact wV.via hb h
 ·rename_i h1
  rw [if_neg h1] at h
  split
  ·rename_i h2;rw [if_pos h2] at h;exact wV.via hb h
  ·rename_i h2
   rw [if_neg h2] at h
   exact ⟨h.1,h.2.1,(n4.of _ hb).trans h.2.2⟩
theorem RH (w:World) (g:Nat) (s:ByteArray) (i:Nat) (hr:RD w g s i) (hi:i<=s.size) (C8:s.size<=1000000000) (fq:FuncId) (uU:Array Value) (c2:Nat) (pw:∀ (xs:Array Value) (w1:World),(callFunc fq xs).run Tryz.prog w1= .ok (.enter fq xs) w1) (Cn:∀ w1,Below w.heap.size w w1->(K4 s i).2.2=0->Calls Tryz.prog fq (#[.int .u8 (K4 s i).1]++uU) w1 fun e w2=>e= .returned (.int .i64 c2)/\Below w1.heap.size w1 w2):Calls Tryz.prog 57 #[.pointer (some ⟨g,0,none⟩),.func (.func fq) #[] uU] w fun e w1=>fA w w1 e .u8 (K4 s i) c2 i g s:=by
 refine Z6 9 Tryz.func57 fun fr hf s0 s1=> ?_
 by_cases eZ:(K4 s i).2.2=0/\c2=0
 . (
 refine Ze fun _ a8=>Zr [] hf ?_
 refine y4 1 2 hf ?_
 clear hf s0 s1;intro a7 hf sS
 generalize p8:w.alloc (.cells #[.pointer (some ⟨g,0,none⟩)] 82)=W0
 obtain ⟨o7,c0, -, -⟩:=oY p8
 clear p8
 have R9:=hr.later o7
 refine Zt a8 fun _ a8=> ?_
 have bB:=hf.B4 5 6 7 8
 iterate 3 refine Zy ?_
 refine Zc (Hx W0 w.heap.size g s i c0 R9 hi C8 fq uU c2 pw (fun w1 h1 h2=>Cn w1 (o7.trans (h1.mono o7.size)) h2)) ?_;rintro e w1 RJ
 obtain ⟨rfl,h2,h3⟩:=RJ.mJ eZ
 refine Zv ?_
 refine Zy ?_
 refine Fc.nil (p5 4 hf ?_)
 intro a7 hf s4
 refine Zx a8 (k8 ?_)
 exact Fc.o6 rfl hf s4 (fA.back o7 RJ))
 . (
 refine Ze fun _ a8=>Zr [] hf ?_
 refine y4 1 2 hf ?_
 clear hf s0 s1;intro a7 hf sS
 generalize p8:w.alloc (.cells #[.pointer (some ⟨g,0,none⟩)] 82)=W0
 obtain ⟨o7,c0, -, -⟩:=oY p8
 clear p8
 have R9:=hr.later o7
 refine Zt a8 fun _ a8=> ?_
 have bB:=hf.B4 5 6 7 8
 iterate 3 refine Zy ?_
 refine fp fun K Z=> ?_
 go_simp
 go_at_call 94;refine (Hx W0 w.heap.size g s i c0 R9 hi C8 fq uU c2 pw (fun w1 h1 h2=>Cn w1 (o7.trans (h1.mono o7.size)) h2)).mono ?_;rintro e w1 RJ
 obtain ⟨q,rfl,h2,h3,h4⟩:=RJ.bad eZ
 try dsimp only
 try dsimp only
 exact eT hf.defers (fA.back o7 RJ))
theorem z7n (w:World) (g:Nat) (s:ByteArray) (i:Nat) (hr:RD w g s i) (hi:i<=s.size) (C8:s.size<=1000000000) (lo cU:Nat):Calls Tryz.prog 59 #[.pointer (some ⟨g,0,none⟩),.int .u64 lo,.int .u64 cU] w fun e w1=>fA w w1 e .u64 (getN (wl s) i) (aH lo cU (getN (wl s) i).1) i g s:=by
 refine dT 11 Tryz.func59 fun fr hf s0 s1 s2=> ?_
 generalize uG:aH lo cU (getN (wl s) i).1=c2
 have KG:=H9 uG;clear uG
 by_cases eZ:(getN (wl s) i).2.2=0/\c2=0
 . (
 refine Ze fun _ a8=>Zr [] hf ?_
 refine y7 3 4 5 hf ?_
 clear hf s0 s1 s2;intro a7 hf sS
 generalize p8:w.alloc (.cells #[.pointer (some ⟨g,0,none⟩)] 82)=W0
 obtain ⟨gM,c0, -,dy⟩:=oY p8
 clear p8
 obtain ⟨s3,s4,s5⟩:=sS
 rw [<- dy] at s4 s5
 clear dy
 generalize P2:W0.alloc (.cells #[.int .u64 lo] 35)=W1
 obtain ⟨tR,c1, -,dw⟩:=oY P2
 clear P2
 rw [<- dw] at s5
 clear dw
 generalize Y4:W1.alloc (.cells #[.int .u64 cU] 35)=W2
 obtain ⟨CC,d2, -, -⟩:=oY Y4
 clear Y4
 replace c1:=cL CC c1
 replace c0:=cL CC (cL tR c0)
 have o7:=(gM.trans (tR.mono gM.size)).trans (CC.mono (Nat.le_trans gM.size tR.size))
 have R9:=hr.later o7
 refine Zt a8 fun _ a8=> ?_
 have bB:=hf.B4 7 8 9 10
 iterate 3 refine Zy ?_
 refine Zc (Hy W2 w.heap.size g s i c0 R9 hi C8 99 #[.pointer (some ⟨W0.heap.size,0,none⟩),.pointer (some ⟨W1.heap.size,0,none⟩)] c2 call73 (fun w1 h1 _=>by rw [YS, <- KG.out];exact YR w1 _ lo cU _ _ (cL h1 c1) (cL h1 d2))) ?_;rintro e w1 RJ
 obtain ⟨rfl,h2,h3⟩:=RJ.mJ eZ
 refine Zv ?_
 refine Zy ?_
 refine Fc.nil (p5 6 hf ?_)
 clear hf s3 s4 s5 bB;intro a7 hf s6
 refine Zx a8 (k8 ?_)
 exact Fc.o6 rfl hf s6 (fA.back o7 RJ))
 . (
 refine Ze fun _ a8=>Zr [] hf ?_
 refine y7 3 4 5 hf ?_
 clear hf s0 s1 s2;intro a7 hf sS
 generalize p8:w.alloc (.cells #[.pointer (some ⟨g,0,none⟩)] 82)=W0
 obtain ⟨gM,c0, -,dy⟩:=oY p8
 clear p8
 obtain ⟨s3,s4,s5⟩:=sS
 rw [<- dy] at s4 s5
 clear dy
 generalize P2:W0.alloc (.cells #[.int .u64 lo] 35)=W1
 obtain ⟨tR,c1, -,dw⟩:=oY P2
 clear P2
 rw [<- dw] at s5
 clear dw
 generalize Y4:W1.alloc (.cells #[.int .u64 cU] 35)=W2
 obtain ⟨CC,d2, -, -⟩:=oY Y4
 clear Y4
 replace c1:=cL CC c1
 replace c0:=cL CC (cL tR c0)
 have o7:=(gM.trans (tR.mono gM.size)).trans (CC.mono (Nat.le_trans gM.size tR.size))
 have R9:=hr.later o7
 refine Zt a8 fun _ a8=> ?_
 have bB:=hf.B4 7 8 9 10
 iterate 3 refine Zy ?_
 refine fp fun K Z=> ?_
 go_simp
 go_at_call 96;refine (Hy W2 w.heap.size g s i c0 R9 hi C8 99 #[.pointer (some ⟨W0.heap.size,0,none⟩),.pointer (some ⟨W1.heap.size,0,none⟩)] c2 call73 (fun w1 h1 _=>by rw [YS, <- KG.out];exact YR w1 _ lo cU _ _ (cL h1 c1) (cL h1 d2))).mono ?_;rintro e w1 RJ
 obtain ⟨q,rfl,h2,h3,h4⟩:=RJ.bad eZ
 try dsimp only
 try dsimp only
 exact eT hf.defers (fA.back o7 RJ))
abbrev J9:=Nat×Nat
def U9 (r:Nat×Nat×Nat) (c2 i:Nat):Except J9 (Nat×Nat):=if r.2.2≠0 then .error (r.2.2,i) else if c2≠0 then .error (c2,i) else .ok (r.1,r.2.1)
def L5 (s:ByteArray) (lo hi i:Nat):Except J9 (Nat×Nat):=U9 (getN (wl s) i) (aH lo hi (getN (wl s) i).1) i
def U8 (s:ByteArray) (i:Nat):Except J9 (Nat×Nat):=U9 (K4 s i) 0 i
def pD (s:ByteArray) (k i:Nat):Except J9 (Nat×Nat):=U9 (K4 s i) (rY k (K4 s i).1) i
def pArcs (s:ByteArray) (i:Nat):Nat->Nat->List u3->Except J9 (List u3×Nat)
 | 0,p,acc=> .ok (acc,p)
 | k+1,p,acc=>match U8 s p with
  | .error b=> .error b
  | .ok (c,p1)=>match L5 s 0 18446744073709551615 p1 with
   | .error b=> .error b
   | .ok (o,p2)=>match L5 s 1 i p2 with
    | .error b=> .error b
    | .ok (d,p3)=>pArcs s i k p3 (acc++[⟨c,o,((i-d:Nat):Int)⟩])
def jA (s:ByteArray) (n p:Nat):Except J9 (Nat×Nat):=if n%2=1 then L5 s 0 18446744073709551615 p else .ok (0,p)
def pMk (n o:Nat):Except J9 (List u3×Nat)->Except J9 (State×Nat)
 | .error b=> .error b
 | .ok (l,p)=> .ok ({ j4:=l,final:=decide (n%2=1),out:=o },p)
def N1 (s:ByteArray) (i p:Nat):Except J9 (State×Nat):=match L5 s 0 513 p with
 | .error b=> .error b
 | .ok (n,p1)=>match jA s n p1 with
  | .error b=> .error b
  | .ok (o,p2)=>pMk n o (pArcs s i (n / 2) p2 [])
def pStates (s:ByteArray):Nat->Nat->Nat->List State->Except J9 (List State×Nat)
 | 0,_,p,acc=> .ok (acc,p)
 | k+1,i,p,acc=>match N1 s i p with
  | .error b=> .error b
  | .ok (st,p1)=>pStates s k (i+1) p1 (acc++[st])
def pMagic (s:ByteArray):Nat->Nat->Nat->Except J9 Nat
 | 0,_,p=> .ok p
 | m+1,k,p=>match pD s k p with
  | .error b=> .error b
  | .ok (_,p1)=>pMagic s m (k+1) p1
def pAll (s:ByteArray):Except J9 (Nat×Nat×List State):=match pMagic s 3 0 0 with
 | .error b=> .error b
 | .ok p=>match L5 s 0 100000 p with
  | .error b=> .error b
  | .ok (en,p1)=>match L5 s 1 18446744073709551615 p1 with
   | .error b=> .error b
   | .ok (n,p2)=>match pStates s n 0 p2 [] with
    | .error b=> .error b
    | .ok (ss,p3)=>match L5 s 0 18446744073709551615 p3 with
     | .error b=> .error b
     | .ok (init,p4)=>if p4<s.size then .error (4,p4) else .ok (en,init,ss)
def eU (w w1:World) (e:Ending) (g:Nat) (b:J9):Prop:=∃ q,e= .panicked [{ v:= .iface 77 (.pointer (some ⟨q,0,none⟩)),recovered:=false }]/\w.heap.size<=q/\w1.heap[q]? =some (.cells #[.int .i64 b.1,.int .i64 b.2] 134 (0,0))/\n4 (fun k=>k=g) w w1
theorem wV.g {w w1:World} {e:Ending} {g c a:Nat} (h:wV w w1 e c a):eU w w1 e g (c,a):=by
 obtain ⟨q,h1,h2,h3,h4⟩:=h
 exact ⟨q,h1,h2,h3,n4.of _ h4⟩
theorem eU.via {w w1 w2:World} {e:Ending} {g:Nat} {b:J9} (hb:n4 (fun k=>k=g\/w.heap.size<=k) w w2) (h:eU w2 w1 e g b):eU w w1 e g b:=by
 obtain ⟨q,h1,h2,h3,h4⟩:=h
 exact ⟨q,h1,Nat.le_trans hb.size h2,h3,(hb.trans (h4.mono (fun k _ hk=> .inl hk))).mono (fun k hk h=>h.elim id (fun h=>oM))⟩
def Vt (w w1:World) (e:Ending) (k:IntKind) (g:Nat) (s:ByteArray):Except J9 (Nat×Nat)->Prop
 | .error b=>eU w w1 e g b
 | .ok (x,j)=>e= .returned (.int k x)/\RD w1 g s j/\n4 (fun k=>k=g) w w1
theorem fA.res {w w1:World} {e:Ending} {k:IntKind} {r:Nat×Nat×Nat} {c2 i g:Nat} {s:ByteArray} (h:fA w w1 e k r c2 i g s):Vt w w1 e k g s (U9 r c2 i):=by
 unfold fA at h
 unfold U9
 split at h
 ·rename_i h1;rw [if_pos h1];exact wV.g h
 ·rename_i h1
  rw [if_neg h1]
  split at h
  ·rename_i h2;rw [if_pos h2];exact wV.g h
  ·rename_i h2;rw [if_neg h2];exact h
theorem V9 (w:World) (g:Nat) (s:ByteArray) (i:Nat) (hr:RD w g s i) (hi:i<=s.size) (C8:s.size<=1000000000) (lo cU:Nat):Calls Tryz.prog 59 #[.pointer (some ⟨g,0,none⟩),.int .u64 lo,.int .u64 cU] w fun e w1=>Vt w w1 e .u64 g s (L5 s lo cU i) :=
 (z7n w g s i hr hi C8 lo cU).mono fun e w1 h=>h.res
theorem Hz (w:World) (g:Nat) (s:ByteArray) (i:Nat) (hr:RD w g s i) (hi:i<=s.size) (C8:s.size<=1000000000):Calls Tryz.prog 57 #[.pointer (some ⟨g,0,none⟩),.func (.func 100) #[] #[]] w fun e w1=>Vt w w1 e .u8 g s (U8 s i) :=
 (RH w g s i hr hi C8 100 #[] 0 call74 (fun w1 _ _=>by rw [z7o];exact Vs w1 _)).mono fun e w1 h=>h.res
theorem YT (w:World) (g:Nat) (s:ByteArray) (i:Nat) (hr:RD w g s i) (hi:i<=s.size) (C8:s.size<=1000000000) (k p:Nat) (hk:k<3) (hp:w.cell? ⟨p,0,none⟩=some (.int .i64 k)):Calls Tryz.prog 57 #[.pointer (some ⟨g,0,none⟩),.func (.func 58) #[] #[.pointer (some ⟨p,0,none⟩)]] w fun e w1=>Vt w w1 e .u8 g s (pD s k i) :=
 (RH w g s i hr hi C8 58 #[.pointer (some ⟨p,0,none⟩)] _ call50 (fun w1 hb _=>by rw [z7p];exact z7q w1 _ k p hk (cL hb hp))).mono fun e w1 h=>h.res
theorem Gv {s:List Nat} (hs:Small s) {i n j:Nat} (h:getN s i=(n,j,0)):i<j/\j<=s.length/\n<q9:=by
 obtain ⟨h1,h2,h3⟩:=sY hs h
 have h4:=(M0 h1).1
 have h5:=congrArg List.length h2
 rw [List.length_append,List.length_drop,List.length_drop] at h5
 omega
theorem G6 {s:ByteArray} {lo hi i n j:Nat} (h:L5 s lo hi i= .ok (n,j)):i<j/\j<=s.size/\n<q9/\lo<=n/\n<=hi/\getN (wl s) i=(n,j,0):=by
 unfold L5 U9 at h
 split at h
 ·cases h
 ·rename_i h1
  split at h
  ·cases h
  ·rename_i h2
   injection h with h
   injection h with h3 h4
   have hg:getN (wl s) i=(n,j,0):=by
    obtain ⟨a,b,c⟩:∃ x,getN (wl s) i=x:=⟨_,rfl⟩
    rw [<- h3, <- h4]
    exact Prod.ext rfl (Prod.ext rfl (by simpa using h1))
   have h5:=Gv (cX s) hg
   rw [o5] at h5
   have h6:¬ (n<lo\/hi<n):=by
    intro h7
    apply h2
    unfold aH
    rw [h3,if_pos h7]
    decide
   exact ⟨h5.1,h5.2.1,h5.2.2,oM,oM,hg⟩
theorem lL {s:ByteArray} {i x j:Nat} (hi:i<=s.size) (h:U8 s i= .ok (x,j)):j=i+1/\j<=s.size/\x<256/\(wl s)[i]? =some x:=by
 unfold U8 U9 K4 at h
 by_cases h2:i=s.size
 ·rw [if_pos h2] at h;simp at h
 ·rw [if_neg h2] at h
  simp at h
  refine ⟨h.2.symm,oM,by rw [<- h.1];exact qM s i,by rw [<- h.1];exact aZ oM⟩
theorem RK:(Tryz.prog.info? 71).map (fun i=>(i.zero,i.size,i.bytes))=some (some (.agg #[.int .u8 0,.int .u64 0,.int .i64 0]),3,24):=kR
theorem CH (n:Nat):(((n:Nat):Int).tmod 2==1)=decide (n%2=1):=by
 have h:((n:Nat):Int).tmod 2=((n%2:Nat):Int):=(Int.ofNat_tmod n 2).symm
 rw [h]
 rcases Nat.mod_two_eq_zero_or_one n with h | h<;>rw [h]<;>rfl
def StR (w w1:World) (e:Ending) (g:Nat) (s:ByteArray):Except J9 (State×Nat)->Prop
 | .error b=>eU w w1 e g b
 | .ok (st,j)=>∃ av,e= .returned (.agg #[av,.bool st.final,.int .u64 st.out])/\RD w1 g s j/\OA w1 w.heap.size av st.j4/\n4 (fun k=>k=g) w w1
theorem JA (w:World) (g:Nat) (s:ByteArray) (p:Nat) (hr:RD w g s p) (hi:p<=s.size) (C8:s.size<=1000000000) (i:Nat) (cU:i<=1000000000):Calls Tryz.prog 60 #[.pointer (some ⟨g,0,none⟩),.int .u64 i] w fun e w1=>StR w w1 e g s (N1 s i p):=by
 refine Z6 43 Tryz.func60 fun fr hf s0 s1=> ?_
 generalize MW:N1 s i p=r
 have RL:=H9 MW;clear MW
 have Je:=j5 hr
 rcases T8:L5 s 0 513 p with bz | ⟨n,p1⟩
 . (
 have lM:=H9 T8;clear T8
 have he:r= .error bz:=by rw [<- RL.out];unfold N1;rw [lM.out]
 subst he
 refine Ze fun _ a8=>Zr [] hf ?_
 refine y7 0 1 4 hf ?_
 clear hf s0 s1;intro a7 hf sS
 generalize p8:w.alloc (.cells #[.slice none 0 0,.bool false,.int .u64 0] 46)=W0
 have K8:Below w.heap.size w W0:=by rw [<- p8];exact (Below.refl _ _).alloc nR _
 have bK:W0.heap[w.heap.size]? =some (.cells #[.slice none 0 0,.bool false,.int .u64 0] 46 (0,0)):=by rw [<- p8];exact heap_alloc_new w _
 clear p8
 have R9:=hr.later K8
 have RP:n4 (fun k=>k=g\/w.heap.size<=k) w W0:=n4.of _ K8
 clear hr K8
 refine Zt a8 fun _ a8=> ?_
 have bB:=hf.B2 7 8
 refine Zy ?_
 refine fp fun K Z=> ?_
 go_simp
 go_at_call 59;refine (V9 W0 g s p R9 hi C8 0 513).mono ?_;rintro e wz D0
 rw [lM.out] at D0
 obtain ⟨q,rfl,X0,sV,uV⟩:=D0
 try dsimp only
 try dsimp only
 exact eT hf.defers (eU.via RP ⟨q,rfl,X0,sV,uV⟩))
 . (
 have YU:=H9 T8;clear T8
 refine Ze fun _ a8=>Zr [] hf ?_
 refine y7 0 1 4 hf ?_
 clear hf s0 s1;intro a7 hf sS
 generalize p8:w.alloc (.cells #[.slice none 0 0,.bool false,.int .u64 0] 46)=W0
 have K8:Below w.heap.size w W0:=by rw [<- p8];exact (Below.refl _ _).alloc nR _
 have bK:W0.heap[w.heap.size]? =some (.cells #[.slice none 0 0,.bool false,.int .u64 0] 46 (0,0)):=by rw [<- p8];exact heap_alloc_new w _
 clear p8
 have R9:=hr.later K8
 have RP:n4 (fun k=>k=g\/w.heap.size<=k) w W0:=n4.of _ K8
 clear hr K8
 refine Zt a8 fun _ a8=> ?_
 have bB:=hf.B2 7 8
 refine Zy ?_
 refine Zc (V9 W0 g s p R9 hi C8 0 513) ?_;rintro e w1 D0
 rw [YU.out] at D0
 obtain ⟨rfl,zX,p6⟩:=D0
 refine Zv ?_
 refine Zy ?_
 refine Fc.nil (z8 0 1 4 5 hf ?_)
 intro a7 hf sS
 have cZ:=G6 YU.out
 have kP:=p6.heap bK (by intro e;have e:w.heap.size=g:=e;omega)
 have Kw:n4 (fun k=>k=g\/w.heap.size<=k) w w1:=RP.trans (p6.mono (fun k _ h=> .inl h))
 have x7n:n<=513:=cZ.2.2.2.2.1
 have e1:w1.cell? ⟨w.heap.size,1,none⟩=some (.bool false):=by rw [cell_of_row _ _ 1 _ _ (0,0) kP];rfl
 have fz:=j6 (i:=1) kP
 clear R9 bK p6
 refine Zx a8 (Fc.G1 (fun fr wq=>∃ (o p2:Nat),Fc.Fr 43 fr/\fr.tmps[0]? =some (.pointer (some ⟨g,0,none⟩))/\fr.tmps[1]? =some (.int .u64 i)/\fr.tmps[4]? =some (.pointer (some ⟨w.heap.size,0,none⟩))/\fr.tmps[5]? =some (.int .u64 n)/\jA s n p1= .ok (o,p2)/\RD wq g s p2/\p2<=s.size/\wq.heap[w.heap.size]? =some (.cells #[.slice none 0 0,.bool (decide (n%2=1)),.int .u64 o] 46 (0,0))/\n4 (fun k=>k=g\/w.heap.size<=k) w wq) ?_ ?_)
 . (
 refine Ze fun _ a8=>rg ?_
 have bB:=hf.B4 9 10 11 12
 iterate 2 refine Zy ?_
 refine fp fun K Z=> ?_
 go_simp
 rw [CH]
 apply Z.out;clear Z K
 iterate 2 refine Zy ?_
 refine Fc.nil (z8 0 1 4 5 hf ?_)
 intro a7 hf sS
 generalize Y4:w1.setCell ⟨w.heap.size,1,none⟩ (.bool (decide (n%2=1)))=W2
 have gR:=k7 (i:=1) kP (.bool (decide (n%2=1)))
 have R1:RD (w1.setCell ⟨w.heap.size,1,none⟩ (.bool (decide (n%2=1)))) g s _:=(n4.setCell (S:=fun k=>k=w.heap.size) (p:=⟨w.heap.size,1,none⟩) rfl _).heap zX (by intro e;have e:g=w.heap.size:=e;omega)
 have aJ:n4 (fun k=>k=g\/w.heap.size<=k) w (w1.setCell ⟨w.heap.size,1,none⟩ (.bool (decide (n%2=1)))):=Kw.trans (n4.setCell (.inr nR) _)
 rw [Y4] at gR R1 aJ
 try rw [Y4] at gW
 clear Y4
 simp only [List.setIfInBounds_toArray,List.set_cons_zero,List.set_cons_succ] at gR
 clear e1 fz kP zX Kw
 refine Zx a8 ?_
 have e2:W2.cell? ⟨w.heap.size,1,none⟩=some (.bool (decide (n%2=1))):=by rw [cell_of_row _ _ 1 _ _ (0,0) gR];rfl
 refine Ze fun _ a8=>Zr [13] hf ?_
 refine D2 0 1 4 5 14 hf ?_
 intro a7 hf sS
 refine Zx a8 (Fc.l0 sS.2.2.2.2 (fun hq=> ?_) (fun hq=> ?_))
 . (
 have z7m:n%2=1:=of_decide_eq_true hq
 clear hq
 rcases T8:L5 s 0 18446744073709551615 p1 with bz | ⟨o,p2⟩
 . (
 have lM:=H9 T8;clear T8
 have Ep:jA s n p1= .error bz:=by unfold jA;rw [if_pos z7m];exact lM.out
 have he:r= .error bz:=by rw [<- RL.out];unfold N1;simp only [YU.out,Ep]
 subst he
 refine rg ?_
 have bB:=hf.B3 15 16 17
 refine Zy ?_
 refine fp fun K Z=> ?_
 go_simp
 go_at_call 59;refine (V9 W2 g s p1 R1 cZ.2.1 C8 0 18446744073709551615).mono ?_;rintro e wz D0
 rw [lM.out] at D0
 obtain ⟨q,rfl,X0,sV,uV⟩:=D0
 try dsimp only
 try dsimp only
 exact eT hf.defers (eU.via aJ ⟨q,rfl,X0,sV,uV⟩))
 . (
 have RQ:=H9 T8;clear T8
 refine rg ?_
 have bB:=hf.B3 15 16 17
 refine Zy ?_
 refine Zc (V9 W2 g s p1 R1 cZ.2.1 C8 0 18446744073709551615) ?_;rintro e w3 D0
 rw [RQ.out] at D0
 obtain ⟨rfl,kT,G4⟩:=D0
 have AH:=G4.heap gR (by intro e;have e:w.heap.size=g:=e;omega)
 have y4r:n4 (fun k=>k=g\/w.heap.size<=k) w w3:=aJ.trans (G4.mono (fun k _ h=> .inl h))
 have e3:w3.cell? ⟨w.heap.size,2,none⟩=some (.int .u64 0):=by rw [cell_of_row _ _ 2 _ _ (0,0) AH];rfl
 have fz:=j6 (i:=2) AH
 refine Zv ?_
 iterate 2 refine Zy ?_
 refine Fc.nil (z8 0 1 4 5 hf ?_)
 intro a7 hf sS
 generalize mK:w3.setCell ⟨w.heap.size,2,none⟩ (.int .u64 o)=W4
 have ja:=k7 (i:=2) AH (.int .u64 o)
 have YV:RD (w3.setCell ⟨w.heap.size,2,none⟩ (.int .u64 o)) g s _:=(n4.setCell (S:=fun k=>k=w.heap.size) (p:=⟨w.heap.size,2,none⟩) rfl _).heap kT (by intro e;have e:g=w.heap.size:=e;omega)
 have PS:n4 (fun k=>k=g\/w.heap.size<=k) w (w3.setCell ⟨w.heap.size,2,none⟩ (.int .u64 o)):=y4r.trans (n4.setCell (.inr nR) _)
 rw [mK] at ja YV PS
 try rw [mK] at hoaq
 clear mK
 simp only [List.setIfInBounds_toArray,List.set_cons_zero,List.set_cons_succ] at ja
 have Ep:jA s n p1= .ok (o,p2):=by unfold jA;rw [if_pos z7m];exact RQ.out
 have vY:=(G6 RQ.out).2.1
 have YV:=YV;have RR:=PS
 refine Fc.j7 ?_
 obtain ⟨s0,s1,s4,s5⟩:=sS
 exact ⟨_,_,hf,s0,s1,s4,s5,Ep,YV,vY,ja,RR⟩))
 . (
 have Ep:jA s n p1= .ok (0,p1):=by unfold jA;rw [if_neg (of_decide_eq_false hq)]
 have vY:p1<=s.size:=cZ.2.1
 have YV:=R1;have ja:=gR;have RR:=aJ
 clear hq
 refine wp_skip (Fc.j7 ?_)
 obtain ⟨s0,s1,s4,s5,S4⟩:=sS
 exact ⟨_,_,hf,s0,s1,s4,s5,Ep,YV,vY,ja,RR⟩))
 . (
 clear hf sS
 rintro fr wq ⟨o,p2,hf,s0,s1,s4,s5,Ep,YV,vY,ja,RR⟩
 have YB:=H9 Ep;clear Ep
 obtain ⟨m,hm⟩:∃ x,n / 2=x:=⟨_,rfl⟩
 have hm9:m<=256:=oM
 have HM:=H9 hm;clear hm
 have MW:N1 s i p=pMk n o (pArcs s i m p2 []):=by unfold N1;simp only [YU.out,YB.out,HM.out]
 rw [RL.out] at MW
 have Vu:=H9 MW;clear MW
 refine Ze fun _ a8=>Ze fun _ j8=>rg ?_
 have bB:=hf.b 18
 refine Zy ?_
 refine fp fun K Z=> ?_
 go_simp
 rw [show IntKind.u64.wrap ((n:Int) / 2)=((m:Nat):Int) by rw [Fc.wrap_u64 oM oM];have:=HM.out;omega]
 apply Z.out;clear Z K
 refine Zy ?_
 refine Fc.nil (D2 0 1 4 19 20 hf ?_)
 clear hf s0 s1 s4 s5 bB;intro a7 hf sS
 refine Zx j8 (wp_block (wp_loop_ghost (fun gk fr wr=>∃ (k pk:Nat) (acc:List u3) (av:Value),gk=m-k/\k<=m/\Fc.Fr 43 fr/\fr.tmps[0]? =some (.pointer (some ⟨g,0,none⟩))/\fr.tmps[1]? =some (.int .u64 i)/\fr.tmps[4]? =some (.pointer (some ⟨w.heap.size,0,none⟩))/\fr.tmps[19]? =some (.int .u64 m)/\fr.tmps[20]? =some (.int .u64 k)/\pArcs s i m p2 []=pArcs s i (m-k) pk acc/\RD wr g s pk/\pk<=s.size/\wr.heap[w.heap.size]? =some (.cells #[av,.bool (decide (n%2=1)),.int .u64 o] 46 (0,0))/\OA wr w.heap.size av acc/\av.ownBlock≠some w.heap.size/\acc.length=k/\n4 (fun k=>k=g\/w.heap.size<=k) w wr) (m) ?_ ?_))
 . (
 obtain ⟨s0,s1,s4,K9,N5⟩:=sS
 exact ⟨0,p2,[],_,rfl,Nat.zero_le _,hf,s0,s1,s4,K9,N5,rfl,YV,vY,ja,OA.T7 _ _,(by intro e;cases e),rfl,RR⟩)
 . (
 clear hf sS
 rintro gk fr wr ⟨k,pk,acc,av,hk,aN,hf,s0,s1,s4,K9,N5,Db,X8,iC,wY,S1,Z3,Z7,l6⟩
 have x0f:acc.length<=1000:=oM
 have Xh:=H9 Z7;have HK:=H9 hk;have yS:=H9 Db;clear hk Db Z7
 refine Ze fun _ j8=>Zr [] hf ?_
 refine F1 0 1 4 19 20 21 hf ?_
 clear hf s0 s1 s4 K9 N5;intro a7 hf sS
 refine Zs j8 fun _ j8=>Fc.l0 sS.2.2.2.2.2 (fun hq=> ?_) (fun hq=> ?_)
 . (
 have bC:k<m:=qT
 clear hq
 obtain ⟨u,hu⟩:∃ u,m-k=u+1:=⟨m-k-1,oM⟩
 have HU:=H9 hu;clear hu
 rcases T8:U8 s pk with bz | ⟨c,q1⟩
 . (
 have lM:=H9 T8;clear T8
 have he:r= .error bz:=by rw [Vu.out,yS.out,HU.out];simp only [pArcs,lM.out];rfl
 subst he
 refine wp_skip (Zs j8 fun _ j8=>wp_block (Ze fun _ l8=>rg ?_))
 have bB:=hf.B4 22 23 24 6
 refine Zy ?_
 refine fp fun K Z=> ?_
 go_simp
 go_at_call 57;refine (Hz wr g s pk X8 iC C8).mono ?_;rintro e wz D0
 rw [lM.out] at D0
 obtain ⟨q,rfl,X0,sV,uV⟩:=D0
 try dsimp only
 try dsimp only
 exact eT hf.defers (eU.via l6 ⟨q,rfl,X0,sV,uV⟩))
 . (
 have LC:=H9 T8;clear T8
 refine wp_skip (Zs j8 fun _ j8=>wp_block (Ze fun _ l8=>rg ?_))
 have bB:=hf.B4 22 23 24 6
 refine Zy ?_
 refine Zc (Hz wr g s pk X8 iC C8) ?_;rintro e w6 D0
 rw [LC.out] at D0
 obtain ⟨rfl,ER,C4⟩:=D0
 refine Zv ?_
 iterate 3 refine Zy ?_
 refine Fc.nil (F1 0 1 4 6 19 20 hf ?_)
 intro a7 hf sS
 have nb:=lL iC LC.out
 have LX:=C4.heap wY (by intro e;have e:w.heap.size=g:=e;omega)
 have Cx:n4 (fun k=>k=g\/w.heap.size<=k) w w6:=l6.trans (C4.mono (fun k _ h=> .inl h))
 have FN:=u7 S1 C4 (fun k hk e=>by have e:k=g:=e;have:=(World.ownsRow.lt S1 k hk).1;omega)
 have hBA:=j5 LX
 have hvA:∀ k,av.ownBlock=some k->k<w6.heap.size:=fun k hk=>(World.ownsRow.lt FN k hk).2
 generalize fH:w6.alloc (.cells #[.int .u8 c,.int .u64 0,.int .i64 0] 71)=W7
 have B1:Below w6.heap.size w6 W7:=by rw [<- fH];exact (Below.refl _ _).alloc nR _
 have hA7:W7.heap[w6.heap.size]? =some (.cells #[.int .u8 c,.int .u64 0,.int .i64 0] 71 (0,0)):=by rw [<- fH];exact heap_alloc_new w6 _
 obtain ⟨A,hA⟩:∃ x,w6.heap.size=x:=⟨_,rfl⟩
 obtain ⟨s0,s1,s4,s6,K9,N5⟩:=sS
 rw [hA] at hBA hvA hA7 s6
 have YW:=ER.later B1
 have pr:=(B1.block _ oM).trans LX
 have FP:=n3 FN B1
 have nD:n4 (fun k=>k=g\/w.heap.size<=k) w W7:=Cx.trans (n4.of _ B1)
 clear fH hA B1 C4 ER LX FN Cx X8 wY S1 l6
 refine Zx l8 ?_
 rcases T8:L5 s 0 18446744073709551615 q1 with bz | ⟨oo,q2⟩
 . (
 have lM:=H9 T8;clear T8
 have he:r= .error bz:=by rw [Vu.out,yS.out,HU.out];simp only [pArcs,LC.out,lM.out];rfl
 subst he
 refine Ze fun _ l8=>rg ?_
 have bB:=hf.B3 25 26 27
 refine Zy ?_
 refine fp fun K Z=> ?_
 go_simp
 go_at_call 59;refine (V9 W7 g s q1 YW nb.2.1 C8 0 18446744073709551615).mono ?_;rintro e wz D0
 rw [lM.out] at D0
 obtain ⟨q,rfl,X0,sV,uV⟩:=D0
 try dsimp only
 try dsimp only
 exact eT hf.defers (eU.via nD ⟨q,rfl,X0,sV,uV⟩))
 . (
 have QX:=H9 T8;clear T8
 refine Ze fun _ l8=>rg ?_
 have bB:=hf.B3 25 26 27
 refine Zy ?_
 refine Zc (V9 W7 g s q1 YW nb.2.1 C8 0 18446744073709551615) ?_;rintro e w8 D0
 rw [QX.out] at D0
 obtain ⟨rfl,UN,aA⟩:=D0
 have hA8:=aA.heap hA7 (by intro e;have e:A=g:=e;omega)
 have Dg:=aA.heap pr (by intro e;have e:w.heap.size=g:=e;omega)
 have z7l:=u7 FP aA (fun k hk e=>by have e:k=g:=e;have:=(World.ownsRow.lt FP k hk).1;omega)
 have yR:n4 (fun k=>k=g\/w.heap.size<=k) w w8:=nD.trans (aA.mono (fun k _ h=> .inl h))
 clear aA hA7 pr FP nD YW
 have y1:w8.cell? ⟨A,1,none⟩=some (.int .u64 0):=by rw [cell_of_row _ _ 1 _ _ (0,0) hA8];rfl
 have fz:=j6 (i:=1) hA8
 refine Zv ?_
 iterate 2 refine Zy ?_
 refine Fc.nil (F1 0 1 4 6 19 20 hf ?_)
 clear hf s0 s1 s4 s6 K9 N5 bB;intro a7 hf sS
 generalize mP:w8.setCell ⟨A,1,none⟩ (.int .u64 oo)=W9
 have kz:=k7 (i:=1) hA8 (.int .u64 oo)
 have YX:RD (w8.setCell ⟨A,1,none⟩ (.int .u64 oo)) g s _:=(n4.setCell (S:=fun k=>k=A) (w:=w8) (p:=⟨A,1,none⟩) rfl (.int .u64 oo)).heap UN (by intro e;have e:g=A:=e;omega)
 have Ns:=(n4.setCell (S:=fun k=>k=A) (w:=w8) (p:=⟨A,1,none⟩) rfl (.int .u64 oo)).heap Dg (by intro e;have e:w.heap.size=A:=e;omega)
 have Vv:=u7 z7l (n4.setCell (S:=fun k=>k=A) (w:=w8) (p:=⟨A,1,none⟩) rfl (.int .u64 oo)) (fun k hk e=>by have e:k=A:=e;have:=hvA k hk;omega)
 have pE:n4 (fun k=>k=g\/w.heap.size<=k) w (w8.setCell ⟨A,1,none⟩ (.int .u64 oo)):=yR.trans (n4.setCell (.inr (Nat.le_of_lt hBA)) _)
 rw [mP] at kz YX Ns Vv pE
 clear mP hA8 UN Dg z7l yR
 simp only [List.setIfInBounds_toArray,List.set_cons_zero,List.set_cons_succ] at kz
 clear y1 fz
 have Tz:=G6 QX.out
 refine Zx l8 ?_
 rcases T8:L5 s 1 i q2 with bz | ⟨dd,q3⟩
 . (
 have lM:=H9 T8;clear T8
 have he:r= .error bz:=by rw [Vu.out,yS.out,HU.out];simp only [pArcs,LC.out,QX.out,lM.out];rfl
 subst he
 refine Ze fun _ l8=>rg ?_
 have bB:=hf.B7 28 29 30 31 32 33 34
 iterate 3 refine Zy ?_
 refine fp fun K Z=> ?_
 go_simp
 go_at_call 59;refine (V9 W9 g s q2 YX Tz.2.1 C8 1 i).mono ?_;rintro e wz D0
 rw [lM.out] at D0
 obtain ⟨q,rfl,X0,sV,uV⟩:=D0
 try dsimp only
 try dsimp only
 exact eT hf.defers (eU.via pE ⟨q,rfl,X0,sV,uV⟩))
 . (
 have Su:=H9 T8;clear T8
 have hkd:=G6 Su.out
 obtain ⟨t,ht⟩:∃ x,i-dd=x:=⟨_,rfl⟩
 have htb:t<=1000000000:=oM
 have MJ:(i:Int)-(dd:Nat)=((t:Nat):Int):=by have:=hkd.2.2.2;omega
 have od:=H9 MJ;have HT:=H9 ht;clear MJ ht
 refine Ze fun _ l8=>rg ?_
 have bB:=hf.B7 28 29 30 31 32 33 34
 iterate 3 refine Zy ?_
 refine Zc (V9 W9 g s q2 YX Tz.2.1 C8 1 i) ?_;rintro e Kg D0
 rw [Su.out] at D0
 obtain ⟨rfl,Ld,R7⟩:=D0
 have Vw:=R7.heap kz (by intro e;have e:A=g:=e;omega)
 have RT:=R7.heap Ns (by intro e;have e:w.heap.size=g:=e;omega)
 have YY:=u7 Vv R7 (fun k hk e=>by have e:k=g:=e;have:=(World.ownsRow.lt Vv k hk).1;omega)
 have JB:n4 (fun k=>k=g\/w.heap.size<=k) w Kg:=pE.trans (R7.mono (fun k _ h=> .inl h))
 clear R7 kz Ns Vv pE YX
 have y2:Kg.cell? ⟨A,2,none⟩=some (.int .i64 0):=by rw [cell_of_row _ _ 2 _ _ (0,0) Vw];rfl
 have fz:=j6 (i:=2) Vw
 refine Zv ?_
 refine fp fun K Z=> ?_
 go_simp
 try simp (disch:=omega) only [Fc.W]
 try rw [od.out]
 try rw [Fc.wrap_u64 oM oM]
 apply Z.out;clear Z K
 refine fp fun K Z=> ?_
 go_simp
 try rw [od.out]
 try rw [Fc.wrap_i64 oM oM]
 apply Z.out;clear Z K
 iterate 2 refine Zy ?_
 refine Fc.nil (F1 0 1 4 6 19 20 hf ?_)
 intro a7 hf sS
 generalize z7k:Kg.setCell ⟨A,2,none⟩ (.int .i64 t)=Sx
 have Cy:=k7 (i:=2) Vw (.int .i64 t)
 have LV:RD (Kg.setCell ⟨A,2,none⟩ (.int .i64 t)) g s _:=(n4.setCell (S:=fun k=>k=A) (w:=Kg) (p:=⟨A,2,none⟩) rfl (.int .i64 t)).heap Ld (by intro e;have e:g=A:=e;omega)
 have zN:=(n4.setCell (S:=fun k=>k=A) (w:=Kg) (p:=⟨A,2,none⟩) rfl (.int .i64 t)).heap RT (by intro e;have e:w.heap.size=A:=e;omega)
 have YZ:=u7 YY (n4.setCell (S:=fun k=>k=A) (w:=Kg) (p:=⟨A,2,none⟩) rfl (.int .i64 t)) (fun k hk e=>by have e:k=A:=e;have:=hvA k hk;omega)
 have Ya:n4 (fun k=>k=g\/w.heap.size<=k) w (Kg.setCell ⟨A,2,none⟩ (.int .i64 t)):=JB.trans (n4.setCell (.inr (Nat.le_of_lt hBA)) _)
 rw [z7k] at Cy LV zN YZ Ya
 clear z7k Vw Ld RT YY JB
 simp only [List.setIfInBounds_toArray,List.set_cons_zero,List.set_cons_succ] at Cy
 clear y2 fz
 have a0:Sx.cell? ⟨A,0,none⟩=some (.int .u8 c):=by rw [cell_of_row _ _ 0 _ _ (0,0) Cy];rfl
 have a1:Sx.cell? ⟨A,1,none⟩=some (.int .u64 oo):=by rw [cell_of_row _ _ 1 _ _ (0,0) Cy];rfl
 have a2:Sx.cell? ⟨A,2,none⟩=some (.int .i64 t):=by rw [cell_of_row _ _ 2 _ _ (0,0) Cy];rfl
 have af0:=j6 (i:=0) Cy
 have af1:=j6 (i:=1) Cy
 have af2:=j6 (i:=2) Cy
 have e0:Sx.cell? ⟨w.heap.size,0,none⟩=some av:=by rw [cell_of_row _ _ 0 _ _ (0,0) zN];rfl
 refine Zx l8 (rg ?_)
 have bB:=hf.B6 35 36 37 38 39 40
 iterate 3 refine Zy ?_
 refine fp fun K Z=> ?_
 go_simp
 generalize KP:Sx.alloc (.cells #[.int .u8 c,.int .u64 oo,.int .i64 t] 71)=ub
 have RU:∀ (j:Nat) (u:Value),([.int .u8 c,.int .u64 oo,.int .i64 t]:List Value)[j]? =some u->ub.cell? ⟨Sx.heap.size,j,none⟩=some u:=by rw [<- KP];exact E8 Sx _ _
 have X3:Below Sx.heap.size Sx ub:=by rw [<- KP];exact (Below.refl _ _).alloc nR _
 clear KP
 have ky:=LV.later X3
 have pJ:=(X3.block _ (j5 zN)).trans zN
 have RV:=n3 YZ X3
 have oE:n4 (fun k=>k=g\/w.heap.size<=k) w ub:=Ya.trans (n4.of _ X3)
 apply Z.out;clear Z K
 obtain ⟨s0,s1,s4,s6,K9,N5⟩:=sS
 clear bB
 refine Fc.nL (n:=43) (by simp only [Fc.G,hf.size]) hf.defers (fun a7 y5 hT=> ?_)
 have J8:=Fc.h7 hT 0 1 4 19 20 36 38
 simp (decide:=true) only [Fc.G,hf.size,reduceIte,s0,s1,s4,K9,N5] at J8
 replace hf:=y5;clear hT y5 s0 s1 s4 s6 K9 N5
 obtain ⟨s0,s1,s4,K9,N5,vN,Dd⟩:=J8
 have bB:=hf.B2 39 40
 refine ⟨?_⟩
 refine wpList_plain rfl fun KL uM=> ?_
 refine J6 _ _ 44 rfl 71 _ 3 24 Tryz.underlying44 RK rfl dC dC w.heap.size av acc.length (vA acc) (Fc.l5 vN) RV Sx.heap.size [.int .u8 c,.int .u64 oo,.int .i64 t] (Fc.l5 Dd) rfl RU (by intro u hu;simp at hu;rcases hu with rfl | rfl | rfl<;>rfl) oM oE.size (fun v13 PH z7j kx z7i=>uM _ _ ?_)
 refine Fc.L.out ?_
 refine Zy ?_
 have kv:=(kx.block w.heap.size (j5 pJ) (fun e=>Z3 e.symm)).trans pJ
 have y4n:RD PH g s q3:=(kx.block g (j5 ky) (fun e=>by have:=(World.ownsRow.lt RV _ e.symm).1;omega)).trans ky
 have Gx:n4 (fun k=>k=g\/w.heap.size<=k) w PH:=oE.trans (n4.grown kx (fun k hk=> .inr (World.ownsRow.lt RV k hk).1))
 have z7h:v13.ownBlock≠some w.heap.size:=by rcases z7i with h | h;(rw [h];exact Z3);(rw [h];intro e;injection e with e;have:=j5 pJ;omega)
 have oC:OA PH w.heap.size v13 (acc++[⟨c,oo,((t:Nat):Int)⟩]):=by unfold OA;rw [List.length_append,dU];exact z7j
 obtain ⟨A9,c9,mT,_⟩:=y8 z7j
 subst mT
 have e1:PH.cell? ⟨w.heap.size,0,none⟩=some av:=by rw [cell_of_row _ _ 0 _ _ (0,0) kv];rfl
 have fz:=j6 (i:=0) kv
 refine Zy ?_
 refine Fc.nil (D2 0 1 4 19 20 hf ?_)
 clear hf s0 s1 s4 K9 N5 vN Dd bB;intro a7 hf sS
 have Yb:=u7 oC (n4.setCell (S:=fun k=>k=w.heap.size) (w:=PH) (p:=⟨w.heap.size,0,none⟩) rfl (.slice A9 (acc.length+1) c9)) (fun k hk e=>z7h (by rw [hk,e]))
 generalize Ke:PH.setCell ⟨w.heap.size,0,none⟩ (.slice A9 (acc.length+1) c9)=et
 have Fi:=k7 (i:=0) kv (.slice A9 (acc.length+1) c9)
 have z7g:RD (PH.setCell ⟨w.heap.size,0,none⟩ (.slice A9 (acc.length+1) c9)) g s _:=(n4.setCell (S:=fun k=>k=w.heap.size) (p:=⟨w.heap.size,0,none⟩) rfl _).heap y4n (by intro e;have e:g=w.heap.size:=e;omega)
 have sA:n4 (fun k=>k=g\/w.heap.size<=k) w (PH.setCell ⟨w.heap.size,0,none⟩ (.slice A9 (acc.length+1) c9)):=Gx.trans (n4.setCell (.inr nR) _)
 rw [Ke] at Fi z7g sA
 try rw [Ke] at Yb
 clear Ke
 simp only [List.setIfInBounds_toArray,List.set_cons_zero,List.set_cons_succ] at Fi
 skip
 have hH:pArcs s i m p2 []=pArcs s i (m-(k+1)) q3 (acc++[⟨c,oo,((t:Nat):Int)⟩]):=by rw [yS.out,HU.out,show m-(k+1)=u by have:=HU.out;omega];simp only [pArcs,LC.out,QX.out,Su.out,HT.out]
 refine Fc.j9 (Zx j8 (Zr [41] hf ?_))
 refine D2 0 1 4 19 20 hf ?_
 intro a7 hf sS
 refine Fc.j7 ?_
 obtain ⟨s0,s1,s4,K9,N5⟩:=sS
 exact ⟨_,by have:=HK.out;omega,k+1,q3,_,_,rfl,oM,hf,s0,s1,s4,K9,by rw [N5];rfl,hH,z7g,hkd.2.1,Fi,Yb,z7h,by simp [Xh.out],sA⟩))))
 . (
 have iB:m-k=0:=qF
 have he:r= .ok ({ j4:=acc,final:=decide (n%2=1),out:=o },pk):=by rw [Vu.out,yS.out,iB];rfl
 subst he
 clear hq iB
 obtain ⟨Aa,ca,hva,_⟩:=y8 S1
 subst hva
 have e0:wr.cell? ⟨w.heap.size,0,none⟩=some (.slice Aa acc.length ca):=by rw [cell_of_row _ _ 0 _ _ (0,0) wY];rfl
 have e1:wr.cell? ⟨w.heap.size,1,none⟩=some (.bool (decide (n%2=1))):=by rw [cell_of_row _ _ 1 _ _ (0,0) wY];rfl
 have e2:wr.cell? ⟨w.heap.size,2,none⟩=some (.int .u64 o):=by rw [cell_of_row _ _ 2 _ _ (0,0) wY];rfl
 have ef0:=j6 (i:=0) wY
 have ef1:=j6 (i:=1) wY
 have ef2:=j6 (i:=2) wY
 refine Zo ?_
 refine Zs a8 fun _ a8=>Zr [42] hf ?_
 refine p5 4 hf ?_
 intro a7 hf s4
 refine Zx a8 (k8 ?_)
 have G4:n4 (fun k=>k=w.heap.size) wr _:=((n4.setCell (S:=fun k=>k=w.heap.size) (w:=wr) (p:=⟨w.heap.size,0,none⟩) rfl (.slice Aa acc.length ca)).trans (n4.setCell (S:=fun k=>k=w.heap.size) (p:=⟨w.heap.size,1,none⟩) rfl (.bool (decide (n%2=1))))).trans (n4.setCell (S:=fun k=>k=w.heap.size) (p:=⟨w.heap.size,2,none⟩) rfl (.int .u64 o))
 exact aX rfl hf s4 (k7 (k7 (k7 wY _) _) _) Tryz.underlying46 rfl kR ⟨_,sP,G4.heap X8 (by intro e;have e:g=w.heap.size:=e;omega),u7 S1 G4 (fun k hk e=>Z3 (by rw [hk,e])),(l6.trans (G4.mono (fun k _ h=> .inr oM))).mono (fun k hk h=>h.elim id (fun h=>oM))⟩))))
def Sd (l:List (Value×State)):List Value:=l.flatMap fun x=>[x.1,.bool x.2.final,.int .u64 x.2.out]
theorem Vx (l:List (Value×State)) (i j:Nat) (hi:i<l.length) (hj:j<3):(Sd l)[i*3+j]? =([(l[i]).1,.bool (l[i]).2.final,.int .u64 (l[i]).2.out]:List Value)[j]? :=by
 induction l generalizing i with
 | nil=>simp at hi
 | cons e l ih =>
  simp only [Sd,List.flatMap_cons]
  cases i with
  | zero=>rw [List.getElem?_append_left sO];simp
  | succ i =>
   rw [List.getElem?_append_right sO]
   have:=ih i (by simpa using hi)
   simp only [Sd] at this
   simp only [List.getElem_cons_succ]
   rw [<- this];congr 1;simp;omega
theorem rP (a b:List (Value×State)):Sd (a++b)=Sd a++Sd b:=by simp [Sd]
structure SR (w:World) (base:Nat) (B:Nat->Prop) (v:Value) (l:List (Value×State)):Prop where
 row:w.ownsRow base 46 3 v l.length (Sd l)
 j4:∀ x∈l,RA w B x.1 x.2.j4
section
variable {w w':World} {base:Nat} {B S:Nat->Prop} {v:Value} {l:List (Value×State)}
theorem SR.but (h:SR w base B v l) (hb:n4 S w w') (hv:∀ k,v.ownBlock=some k->¬ S k) (hB:∀ k,B k->¬ S k):SR w' base B v l:=⟨u7 h.row hb hv,fun x hx=>(h.j4 x hx).but hb hB⟩
theorem SR.later (h:SR w base B v l) (hb:Below w.heap.size w w'):SR w' base B v l:=h.but (n4.of (fun _=>False) hb) (fun _ _ h=>h) (fun _ _ h=>h)
theorem SR.form (h:SR w base B v l):∃ (A:Option Addr) (c:Nat),v= .slice A l.length c/\l.length<=c:=by
 obtain ⟨A,c,h1,h2⟩:=y8 h.row
 exact ⟨A,c,h1,h2⟩
theorem SR.cells (h:SR w base B v l) {i:Nat} {x:Value×State} (hi:l[i]? =some x):∃ g c,v= .slice (some ⟨g,0,none⟩) l.length c/\base<=g/\JP w B g (i*3) x.1 x.2:=by
 have o9:=(H2 hi).1
 have hx:=(H2 hi).2
 have h1:=h.row
 rcases h1.2 with ⟨_,h0⟩ | ⟨b,cap,cur,rfl,hb,hh,hc,_⟩
 ·omega
 ·have k:∀ j,j<3->w.cell? ⟨b,i*3+j,none⟩=([x.1,.bool x.2.final,.int .u64 x.2.out]:List Value)[j]? :=fun j hj=>by
   rw [h1.cellAt (i*3+j) oM,Vx l i j o9 hj,hx]
  exact ⟨b,cap,rfl,hb,⟨k 0 oM,k 1 oM,k 2 oM,h.j4 x (T9 hi)⟩⟩
theorem SR.rs (h:SR w base B v l):RS w v (l.map Prod.snd):=by
 obtain ⟨A,c,h1,h2⟩:=h.form
 refine ⟨A,c,by rw [List.length_map];exact h1,by rw [List.length_map];exact h2,fun h0=> ?_⟩
 rw [List.length_map] at h0
 obtain ⟨x0,bK⟩:∃ x,l[0]? =some x:=⟨_,F8 h0⟩
 obtain ⟨g,c2,h3,_,_⟩:=h.cells bK
 rw [h1] at h3
 injection h3 with h3
 refine ⟨g,0,h3,fun i s hi=> ?_⟩
 rw [List.getElem?_map] at hi
 obtain ⟨x,hx,rfl⟩:=Option.map_eq_some_iff.1 hi
 obtain ⟨g',c',h4,_,h5⟩:=h.cells hx
 rw [h1] at h4
 injection h4 with h4
 rw [h3] at h4
 injection h4 with h4
 injection h4 with h4
 subst h4
 rw [Nat.zero_add]
 exact ⟨x.1,⟨h5.c0,h5.c1,h5.c2,h5.j4.more (fun _ _ _=>trivial)⟩⟩
end
theorem SR.T7 (w:World) (base:Nat) (B:Nat->Prop):SR w base B (.slice none 0 0) []:=⟨World.ownsRow_nil _ _ _ _,fun x hx=>by cases hx⟩
theorem qE {s:ByteArray} {k i x j:Nat} (hi:i<=s.size) (h:pD s k i= .ok (x,j)):j=i+1/\j<=s.size/\(wl s)[i]? =some (K6 k):=by
 unfold pD U9 K4 at h
 by_cases h2:i=s.size
 ·rw [if_pos h2] at h;simp at h
 ·rw [if_neg h2] at h
  simp only [ne_eq,not_true_eq_false,if_false] at h
  split at h
  ·cases h
  ·rename_i h3
   injection h with h
   injection h with h4 h5
   unfold rY at h3
   have h6:at_ s i=K6 k:=by
    by_cases h7:at_ s i=K6 k
    ·exact h7
    ·rw [if_neg h7] at h3;simp at h3
   exact ⟨h5.symm,oM,by rw [<- h6];exact aZ oM⟩
theorem Cz {s:ByteArray} {i:Nat} (cU:i<=1000000000):∀ {k p:Nat} {acc l:List u3} {j:Nat},p<=s.size->pArcs s i k p acc= .ok (l,j)->p<=j/\j<=s.size/\l.length=acc.length+k/\((∀ a∈acc,uA a/\0<=a.to/\a.to<(i:Int))->∀ a∈l,uA a/\0<=a.to/\a.to<(i:Int))
 | 0,p,acc,l,j,hp,h=>by
  simp only [pArcs] at h
  injection h with h
  injection h with h1 h2
  subst h1;subst h2
  exact ⟨nR,hp,rfl,id⟩
 | k+1,p,acc,l,j,hp,h=>by
  simp only [pArcs] at h
  split at h
  ·cases h
  ·rename_i c p1 hc
   have k1:=lL hp hc
   split at h
   ·cases h
   ·rename_i o p2 ho
    have k2:=G6 ho
    split at h
    ·cases h
    ·rename_i d p3 hd
     have k3:=G6 hd
     have ih:=Cz cU k3.2.1 h
     refine ⟨oM,ih.2.1,by rw [ih.2.2.1,List.length_append];simp;omega,fun ha=>ih.2.2.2 fun a hm=> ?_⟩
     rcases List.mem_append.1 hm with hm | hm
     ·exact ha a hm
     ·simp at hm
      subst hm
      have k4:=k2.2.2.1
      unfold q9 at k4
      refine ⟨⟨k1.2.2.1,k4,?_,?_⟩,?_,?_⟩<;>simp<;>omega
theorem mX {s:ByteArray} {i p j:Nat} {st:State} (cU:i<=1000000000) (h:N1 s i p= .ok (st,j)):p<j/\j<=s.size/\L3 st/\st.j4.length<=256/\(∀ a∈st.j4,0<=a.to/\a.to<(i:Int))/\(st.final=false->st.out=0):=by
 unfold N1 at h
 split at h
 ·cases h
 ·rename_i n p1 hn
  have k1:=G6 hn
  split at h
  ·cases h
  ·rename_i o p2 ho
   have k2:p1<=p2/\p2<=s.size/\o<q9/\(n%2≠1->o=0):=by
    unfold jA at ho
    split at ho
    ·rename_i h1
     have:=G6 ho
     exact ⟨oM,this.2.1,this.2.2.1,fun h=>absurd h1 h⟩
    ·injection ho with ho
     injection ho with h1 h2
     subst h1;subst h2
     exact ⟨nR,k1.2.1,by unfold q9;omega,fun _=>rfl⟩
   cases hl:pArcs s i (n / 2) p2 [] with
   | error b=>rw [hl] at h;cases h
   | ok x =>
    obtain ⟨l,p3⟩:=x
    rw [hl] at h
    simp only [pMk] at h
    injection h with h
    injection h with h1 h2
    subst h1;subst h2
    have k3:=Cz cU k2.2.1 hl
    have k4:=k3.2.2.2 sP
    have k5:=k2.2.2.1
    have k6:=k3.2.2.1
    simp at k6
    unfold q9 at k5
    exact ⟨oM,k3.2.1,⟨k5,sO,fun a ha=>(k4 a ha).1⟩,sO,fun a ha=>(k4 a ha).2,fun hf=>k2.2.2.2 (by simpa using hf)⟩
end Dw
end Go.Proofs.YtcddnmhmcieebaaGreatDoor
