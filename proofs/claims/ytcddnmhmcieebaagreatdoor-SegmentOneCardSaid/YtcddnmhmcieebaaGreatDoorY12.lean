/- pack: a writer lays numbers. -/
import Derived.Test.YtcddnmhmcieebaaGreatDoorY11
import Derived.Test.YtcddnmhmcieebaaGreatDoorTools
import Derived.Test.YtcddnmhmcieebaaGreatDoorY3
import Derived.WalkSmall
namespace Go.Proofs.YtcddnmhmcieebaaGreatDoor
set_option maxHeartbeats 4000000
set_option maxRecDepth 100000
open Go.RowKit
set_option linter.unusedSimpArgs false
set_option linter.unusedVariables false
set_option linter.unnecessarySimpa false
namespace Dw
theorem R7:∀ {l:List Nat},(∀ n∈l,n<y5)->Small (E4 l)
 | [],_=>Small.nil
 | x::l,h=>by
  have e:E4 (x::l)=r8 x++E4 l:=by simp [E4]
  rw [e]
  exact (z4b (h x (List.mem_cons_self ..))).append (R7 (fun n hn=>h n (List.mem_cons_of_mem _ hn)))
def gQ (w0:World) (base g:Nat) (bv:Value) (rest:List Value) (t:TypeId) (l:List Nat):Sb.Pr:=fun v w=>OB w base v l/\(v.ownBlock=bv.ownBlock\/∃ k,v.ownBlock=some k/\w0.heap.size<=k)/\w.heap[g]? =some (.cells (bv::rest).toArray t (0,0))
theorem gQ.u5 (w0:World) (base g:Nat) (bv:Value) (rest:List Value) (t:TypeId) (l:List Nat):Sb.Stable (gQ w0 base g bv rest t l):=fun v w w' hb ⟨h1,h2,h3⟩=>⟨l5 h1 hb,h2,(hb.block g (j4 h3)).trans h3⟩
theorem gR.ne {w0:World} {g:Nat} {bv v:Value} (h:v.ownBlock=bv.ownBlock\/∃ k,v.ownBlock=some k/\w0.heap.size<=k) (E6:bv.ownBlock≠some g) (hg:g<w0.heap.size):v.ownBlock≠some g:=by
 rcases h with e | ⟨k,e,h2⟩
 ·rw [e];exact E6
 ·rw [e];intro e2;injection e2 with e2;omega
theorem gQ.ne {w w0:World} {base g:Nat} {bv v:Value} {rest:List Value} {t:TypeId} {l:List Nat} (h:gQ w0 base g bv rest t l v w) (E6:bv.ownBlock≠some g) (hg:g<w0.heap.size):v.ownBlock≠some g:=gR.ne h.2.1 E6 hg
def gR (w0:World) (base g:Nat) (bv:Value) (rest:List Value) (t:TypeId) (l:List Nat):Sb.Pr:=fun _ w=>∃ v,OB w base v l/\(v.ownBlock=bv.ownBlock\/∃ k,v.ownBlock=some k/\w0.heap.size<=k)/\w.heap[g]? =some (.cells (v::rest).toArray t (0,0))
theorem gR.u5 (w0:World) (base g:Nat) (bv:Value) (rest:List Value) (t:TypeId) (l:List Nat):Sb.Stable (gR w0 base g bv rest t l):=fun _ w w' hb ⟨v,h1,h2,h3⟩=>⟨v,l5 h1 hb,h2,(hb.block g (j4 h3)).trans h3⟩
theorem z8k (w:World) (base g:Nat) (rest:List Value) (t:TypeId) (bv:Value) (l:List Nat) (hlw:LW w base g rest t bv l) (bJ:base<=w.heap.size) (ns:List Nat) (v:Value) (N3:RN w w.heap.size v ns) (hlen:ns.length<=1000) (Z7:∀ n∈ns,n<y5) (hll:l.length<=900000000):Calls Tryz.prog 35 #[.pointer (some ⟨g,0,none⟩),v] w fun e w1=>e= .returned (.tuple #[])/\∃ b1,LW w1 base g rest t b1 (l++E4 ns)/\LF w g bv w1 b1:=by
 refine aT 14 Tryz.func35 fun fr hf s0 s1=> ?_
 obtain ⟨hx,how,E6⟩:=hlw
 have n8:=j4 hx
 have hlo:=fun k hk=>(World.ownsRow.lt how k hk).1
 have hgb:=(j4 hx)
 obtain ⟨L2,hL2⟩:∃ x,E4 ns=x:=⟨_,rfl⟩
 have u4s:Small L2:=by rw [<- hL2];exact R7 Z7
 have t0v:L2.length<=9*ns.length:=by rw [<- hL2];exact iL ns Z7
 have HL2:=H9 hL2;have HSM:=H9 Z7;clear hL2 Z7
 refine Sm.K1 (n:=14) (fun _ k=>k=g\/bv.ownBlock=some k) [7,10] (Sb.OkOps.of kR) (fun a8=> ?_)
 refine Sm.xQ (k:=0) s0 hf.size a8.out rfl kR rfl rfl (.inl rfl) kR ?_
 refine Sm.xQ (k:=1) s0 hf.size a8.out rfl kR rfl rfl (.inl rfl) kR ?_
 apply Sm.tq 2 _ hf a8
 . (
 intro a7 w1 hh hd hk K Z
 refine Sb.pl ?_
 have s5:=Sm.v 1 0 hd hk []
 have K6:=Sm.z7 hh [(7,[4,3]),(10,[])] kR
 have o5:=Sm.l7 hh [] [(7,[4,3]),(10,[])] kR
 clear hd hh
 go_simp
 exact Sb.k Z)
 apply Sm.tq 3 _ hf a8
 . (
 intro a7 w1 hh hd hk K Z
 refine Sb.pl ?_
 have s6:=Sm.v 2 0 hd hk []
 have K6:=Sm.z7 hh [(7,[4]),(10,[])] kR
 have o5:=Sm.l7 hh [] [(7,[4]),(10,[])] kR
 clear hd hh
 go_simp
 exact Sb.k Z)
 apply Sm.tq 4 _ hf a8
 . (
 intro a7 w1 hh hd hk K Z
 refine Sb.pl ?_
 have s7:=Sm.v 3 0 hd hk []
 have K6:=Sm.z7 hh [(7,[]),(10,[])] kR
 have o5:=Sm.l7 hh [] [(7,[]),(10,[])] kR
 clear hd hh
 have z0:=cell_of_row _ _ 0 _ t (0,0) ((K6.block g n8).trans hx)
 simp at z0
 go_simp
 exact Sb.k Z)
 refine Sm.xQ (k:=5) s1 hf.size a8.out rfl kR rfl rfl (.inl rfl) kR ?_
 apply Sm.tq 6 _ hf a8
 . (
 intro a7 w1 hh hd hk K Z
 refine Sb.pl ?_
 have s9:=Sm.v 5 0 hd hk []
 have K6:=Sm.z7 hh [(7,[]),(10,[])] kR
 have o5:=Sm.l7 hh [] [(7,[]),(10,[])] kR
 clear hd hh
 go_simp
 go_at_call 62;refine (v6k w1 ns v ((N3.below K6).more K6.size) hlen HSM.out).mono ?_;rintro e w2 ⟨rfl,hb⟩
 rw [HL2.out]
 exact Z.out _ rfl _ _ hb rfl)
 refine Sm.K3 (k:=7) (n:=14) (gQ w base g bv rest t (l++L2)) hf.size a8.out rfl (gQ.u5 _ _ _ _ _ _ _) kR ?_ ?_
 . (
 intro a7 w1 hh hd hk K Z
 refine Sb.pl ?_
 have s8:=Sm.v 4 2 hd hk []
 have y4:=Sm.v 6 0 hd hk []
 have K6:=Sm.z7 hh [(10,[])] kR
 have o5:=Sm.l7 hh [] [(10,[])] kR
 clear hd hh
 have Q3:=l5 how K6
 have fT:=(K6.block g n8).trans hx
 refine vQ _ _ rfl base bv l (Fc.k7 s8) Q3 (bl L2) (Fc.k7 y4) (by rw [X4];omega) (by have:=K6.size;omega) (fun v2 w2 oP tK iM=> ?_)
 rw [cB u4s] at oP
 exact Z.out _ rfl _ _ (n4.grown tK (fun k hk=> .inr hk)) ⟨oP,iM.imp id (fun h=>⟨_,h,K6.size⟩),(tK.block g (j4 fT) (fun e=>E6 e.symm)).trans fT⟩)
 apply Sm.tq 8 _ hf a8
 . (
 intro a7 w1 hh hd hk K Z
 refine Sb.pl ?_
 have s4:=Sm.v 0 7 hd hk []
 have o5:=Sm.l7 hh [7] [(10,[9])] kR
 clear hd hh
 go_simp
 exact Sb.k Z)
 apply Sm.tq 9 _ hf a8
 . (
 intro a7 w1 hh hd hk K Z
 refine Sb.pl ?_
 have aZ:=Sm.v 8 0 hd hk []
 have o5:=Sm.l7 hh [7] [(10,[])] kR
 clear hd hh
 go_simp
 exact Sb.k Z)
 refine Sm.K3 (k:=10) (n:=14) (gR w base g bv rest t (l++L2)) hf.size a8.out rfl (gR.u5 _ _ _ _ _ _ _) kR ?_ ?_
 . (
 intro a7 w1 hh hd hk K Z
 refine Sb.pl ?_
 have J0:=Sm.v 9 0 hd hk []
 obtain ⟨x11,C7,z3v⟩:=Sm.use (j:=7) (m:=2) hd hk rfl [] kR [] kR rfl rfl rfl
 obtain ⟨y7g,v6i,yF⟩:=z3v
 have o5:=Sm.l7 hh [7] [] kR
 clear hd hh
 have z0:=cell_of_row _ _ 0 _ t (0,0) yF
 simp at z0
 have fz:=j3 (i:=0) yF
 obtain ⟨A2,c2,hv2,_⟩:=A1 y7g
 subst hv2
 go_simp
 refine Z.out _ rfl undef _ (n4.setCell (.inl rfl) _) ⟨_,y7 y7g (n4.setCell (S:=fun k=>k=g) rfl _) (fun kk S3 e=>by subst e;exact gQ.ne ⟨y7g,v6i,yF⟩ E6 n8 S3),v6i,(j5 (i:=0) yF _).trans sP⟩)
 refine Sm.K2 (n:=14) kR hf.size a8.out rfl (fun a7 w1 hh hg=> ?_)
 obtain ⟨_,U8⟩:=Sm.T0 (j:=10) (m:=0) hg rfl dC [(7,[])] kR rfl
 have u3:=hh.fr hf
 have o5:=hh.but
 clear hg hh hf a8 s0 s1
 have hf:=u3;clear u3
 obtain ⟨v6,hr6,hl6,hx6⟩:=U8
 replace o5:=o5 (fun k=>k=g\/bv.ownBlock=some k) (fun m _ b h=>h)
 exact Fc.pZ rfl hf ⟨rfl,v6,⟨hx6,by rw [HL2.out];exact hr6,gR.ne hl6 E6 n8⟩,o5,hl6⟩
def z8j (i:Nat) (a:r7):List Nat:=a.byte::E4 [a.out,i-a.to.toNat]
def H6 (i:Nat) (l:List r7):List Nat:=l.flatMap (z8j i)
def cD (s:State):List Nat:=E4 (if s.final then [2*s.a6.length+1,s.out] else [2*s.a6.length])
def stB (i:Nat) (s:State):List Nat:=cD s++H6 i s.a6
theorem z3t {l:List r7} {i k:Nat} {a:r7} (h:l[k]? =some a):H6 i (l.take (k+1))=H6 i (l.take k)++z8j i a:=by
 rw [List.take_add_one,h]
 simp [H6]
theorem x4l {i:Nat} {a:r7} (h:uZ a) (hi:i<=1000000):(z8j i a).length<=19:=by
 have h1:=(K4 (n:=a.out) h.2.1).2
 have h2:=(K4 (n:=i-a.to.toNat) (by unfold y5;omega)).2
 simp [z8j,E4]
 omega
theorem kP {i:Nat} (hi:i<=1000000):∀ l:List r7,(∀ a∈l,uZ a)->(H6 i l).length<=19*l.length
 | [],_=>by simp [H6]
 | a::l,h=>by
  have h1:=x4l (h a (List.mem_cons_self ..)) hi
  have h2:=kP hi l (fun x hx=>h x (List.mem_cons_of_mem _ hx))
  simp only [H6,List.flatMap_cons,List.length_append,List.length_cons] at h2 |-
  omega
theorem y1z {l:List r7} (i k:Nat) (h:∀ a∈l,uZ a) (hi:i<=1000000):(H6 i (l.take k)).length<=19*l.length:=by
 have h1:=kP hi (l.take k) (fun a ha=>h a (List.mem_of_mem_take ha))
 have h2:(l.take k).length<=l.length:=sO
 omega
theorem z8i {s:State} (h:s.out<18446744073709551616) (hl:s.a6.length<=1000):(cD s).length<=18:=by
 unfold cD
 split
 ·have h1:=(K4 (n:=s.out) h).2
  have h2:=(K4 (n:=2*s.a6.length+1) (by unfold y5;omega)).2
  simp [E4]
  omega
 ·have h2:=(K4 (n:=2*s.a6.length) (by unfold y5;omega)).2
  simp [E4]
  omega
theorem dB {N B:Nat} {w w':World} (h:Below B w w') (hN:N<=B):Below N w w':=⟨h.os,h.tape,h.output,h.size,fun i hi=>h.block i oM⟩
def RNs (ns:List Nat):Sb.Pr:=fun v w=>RN w w.heap.size v ns
theorem RNs.u5 (ns:List Nat):Sb.Stable (RNs ns):=fun v w w' hb h=>(RN.below h hb).more hb.size
theorem qQ (w:World) (ns:List Nat) (t:TypeId):RN (w.alloc (.cells (ns.map fun (x:Nat)=>Value.int .u64 x).toArray t)) (w.alloc (.cells (ns.map fun (x:Nat)=>Value.int .u64 x).toArray t)).heap.size (.slice (some ⟨w.heap.size,0,none⟩) ns.length ns.length) ns :=
 ⟨_,_,rfl,fun _=>⟨_,0,rfl,sP,fun i x hx=>by
  rw [Nat.zero_add]
  exact E7 w _ t i _ (by rw [List.getElem?_map,hx];rfl)⟩⟩
theorem x4k (w:World) (N base g:Nat) (bv:Value) (l:List Nat) (sv:Value) (init:Nat) (ss:List State) (hlw:LW w base g [sv,.int .u64 init] 91 bv l) (bJ:base<=w.heap.size) (hgb:base<=g) (hN:N<=base) (o7:oJ w N sv ss) (i:Nat) (s:State) (hi:ss[i]? =some s) (a8:J8 s) (t0u:s.a6.length<=256) (nF:∀ a∈s.a6,0<=a.to/\a.to<(i:Int)) (hlen:ss.length<=1000000) (hll:l.length<=899990000):Calls Tryz.prog 36 #[.pointer (some ⟨g,0,none⟩),.int .i64 i] w fun e w1=>e= .returned (.tuple #[])/\∃ b1,LW w1 base g [sv,.int .u64 init] 91 b1 (l++stB i s)/\LF w g bv w1 b1:=by
 refine aT 71 Tryz.func36 fun fr hf s0 s1=> ?_
 obtain ⟨A,cc,rfl,Z3⟩:=o7.form
 have hgl:=j4 hlw.1
 have c1:w.cell? ⟨g,1,none⟩=some (.slice A ss.length cc):=by rw [cell_of_row _ _ 1 _ _ (0,0) hlw.1];rfl
 obtain ⟨b,off,av,rfl,hbN,D3⟩:=o7.at_ hi
 have d0:=D3.c0;have d1:=D3.c1;have d2:=D3.c2
 have bA:=D3.a6
 obtain ⟨A2,c2,rfl,_⟩:=D3.a6.form
 have P2:=(E2 hi).1
 have HI:=H9 hi;have HOK:=H9 a8;have HTO:=H9 nF;clear hi D3 a8 nF
 obtain ⟨hd,hhd⟩:∃ x,2*s.a6.length=x:=⟨_,rfl⟩
 obtain ⟨h1,hh1⟩:∃ x,hd+1=x:=⟨_,rfl⟩
 have hdb:hd<=512:=oM
 have HHD:=H9 hhd;have HH1:=H9 hh1;clear hhd hh1
 have hM:y5=18446744073709551616:=rfl
 refine Ze fun _ b7=>Zr [8,9,10,11,12,13,14,15,4] hf ?_
 refine B1 0 1 4 hf ?_
 clear hf s0 s1;intro a7 hf sS
 generalize p8:w.alloc (.cells #[.slice A2 s.a6.length c2,.bool s.final,.int .u64 s.out] 46)=W0
 obtain ⟨p9,x0,x1,x2, -,T1⟩:=G1 p8
 clear p8
 have gE:w.heap.size<W0.heap.size:=by rw [T1];exact Nat.lt_succ_self _
 clear T1
 clear d0 d1 d2 c1
 have v6g:=hlw.later p9
 have w9m:bv.ownBlock≠some w.heap.size:=fun e=>by have:=(World.ownsRow.lt hlw.2.1 _ e).2;omega
 refine Zt b7 fun _ b7=> ?_
 have bB:=hf.B5 16 17 18 19 20
 iterate 3 refine Zy ?_
 refine fp fun K Z=> ?_
 go_simp
 try simp (disch:=omega) only [Fc.W]
 rw [show (2:Int)*(s.a6.length:Int)=((hd:Nat):Int) by have:=HHD.out;omega]
 apply Z.out;clear Z K
 refine fp fun K Z=> ?_
 go_simp
 try simp (disch:=omega) only [Fc.wrap_u64]
 apply Z.out;clear Z K
 refine Zy ?_
 refine Fc.nil (C0 0 1 4 5 hf ?_)
 clear hf sS bB;intro a7 hf sS
 refine Zx b7 (Fc.L1 (fun fr wq=>∃ b1,Fc.Fr 71 fr/\fr.tmps[0]? =some (.pointer (some ⟨g,0,none⟩))/\fr.tmps[1]? =some (.int .i64 i)/\fr.tmps[4]? =some (.pointer (some ⟨w.heap.size,0,none⟩))/\LW wq base g [.slice (some ⟨b,off,none⟩) ss.length cc,.int .u64 init] 91 b1 (l++cD s)/\LF w g bv wq b1/\wq.cell? ⟨w.heap.size,0,none⟩=some (.slice A2 s.a6.length c2)) ?_ ?_)
 . (
 rcases q9:s.final with _ | _
 . (
 have P9:=H9 q9
 rw [q9] at x1
 clear q9
 refine Ze fun _ b7=>Zr [21] hf ?_
 refine D0 0 1 4 5 22 hf ?_
 clear hf sS;intro a7 hf sS
 refine Zx b7 (Fc.k9 sS.2.2.2.2 ?_)
 refine rg ?_
 obtain ⟨b32,b33,b34,b35,b36⟩:=hf.B5 32 33 34 35 36
 iterate 4 refine Zy ?_
 refine fp fun K Z=> ?_
 go_simp
 generalize oQ:W0.alloc (.cells #[.int .u64 (hd:Nat)] 35)=W4
 have u4n:RN W4 W4.heap.size (.slice (some ⟨W0.heap.size,0,none⟩) 1 1) [hd]:=by rw [<- oQ];exact qQ W0 [hd] _
 have hx:Below W0.heap.size W0 W4:=by rw [<- oQ];exact (Below.refl _ _).alloc nR _
 clear oQ
 apply Z.out;clear Z K
 refine fp fun K Z=> ?_
 go_simp
 go_at_call 35;refine (z8k W4 base g _ _ bv _ (v6g.later hx) (by have:=p9.size;have:=hx.size;omega) [hd] _ u4n sP (by have:=HHD.out;intro x hx;simp at hx;omega) oM).mono ?_;rintro e w2 ⟨rfl,b1,qR,u3⟩
 try dsimp only
 apply Z.out;clear Z K
 refine Fc.nil (B1 0 1 4 hf ?_)
 clear hf sS b32 b33 b34 b35 b36;intro a7 hf sS
 have w5l:=(LF.r5 g bv p9).trans ((LF.r5 g bv hx).trans u3)
 have xa:=u3.cell (cL hx x0) (by intro e;have e:w.heap.size=g:=e;omega) w9m
 have hlh:LW w2 base g [.slice (some ⟨b,off,none⟩) ss.length cc,.int .u64 init] 91 b1 (l++cD s):=by have h9:=qR;rw [<- HHD.out] at h9;unfold cD;rw [P9.out];exact h9
 refine Fc.j6 ?_
 obtain ⟨s0,s1,s4⟩:=sS
 exact ⟨b1,hf,s0,s1,s4,hlh,w5l,xa⟩)
 . (
 have P9:=H9 q9
 rw [q9] at x1
 clear q9
 refine Ze fun _ b7=>Zr [21] hf ?_
 refine D0 0 1 4 5 22 hf ?_
 clear hf sS;intro a7 hf sS
 refine Zx b7 (Fc.l8 sS.2.2.2.2 ?_)
 obtain ⟨s0,s1,s4,s5,U9⟩:=sS
 refine Sb.tb 71 fun a8=> ?_
 refine Sb.mO 0 s0 hf a8 ?_
 refine Sb.T 1 hf a8 ?_
 refine Sb.T 2 hf a8 ?_
 refine Sb.mO 3 s5 hf a8 ?_
 apply Sb.tq 4 _ hf a8
 . (
 intro a7 w1 hh hd hk K Z
 have Z1:=Sb.v 3 0 hd hk []
 clear hd
 go_simp
 try simp (disch:=omega) only [Fc.W]
 rw [show ((hd:Nat):Int)+1=((h1:Nat):Int) by have:=HH1.out;omega]
 exact Sb.k Z)
 refine Sb.T 5 hf a8 ?_ (hF:=fun _ _ h d=>Sb.O h s4)
 refine Sb.T 6 hf a8 ?_ (hF:=fun _ _ h d=>cL h.ext x2)
 refine Sb.E8 (k:=7) (n:=71) (RNs [h1,s.out]) hf.size a8.out rfl (RNs.u5 _) ?_ ?_
 . (
 intro a7 w1 hh hd hk K Z
 refine Sb.pl ?_
 have V0:=Sb.v 4 2 hd hk []
 have bG:=Sb.v 6 0 hd hk []
 clear hd
 go_simp
 exact Z.out _ rfl _ _ ((Below.refl _ _).alloc nR _) (qQ _ [h1,s.out] _))
 refine Tl.D7 (n:=71) (m:=8) (ws:=[(8,0,[2,1]),(8,1,[2]),(8,3,[7,4]),(8,4,[7]),(8,5,[7,6]),(8,6,[7])]) kR hf.size a8.out rfl rfl kR (fun a7 w1 hh hg=> ?_)
 replace s0:=Sb.O hh s0
 replace s1:=Sb.O hh s1
 replace s4:=Sb.O hh s4
 have bQ:=Tl.u7 2 5 hg rfl rfl rfl rfl rfl
 obtain ⟨x30,s30,nW⟩:=Tl.fQ (j:=7) (m:=0) hg rfl rfl rfl rfl rfl
 have v6f:=nW
 have u3:=hh.fr hf
 have hx:=hh.ext
 replace x2:=cL hx x2
 clear hg hh hf a8 s5 U9
 have hf:=u3;clear u3
 refine Tl.D8 rfl rfl (fun K Z=> ?_)
 go_simp
 go_at_call 35;refine (z8k _ base g _ _ bv _ (v6g.later hx) (by have:=p9.size;have:=hx.size;omega) [h1,s.out] _ v6f sP (by have:=HH1.out;have:=HHD.out;have:=HOK.out.1;intro x hx;simp at hx;rcases hx with rfl | rfl<;>omega) oM).mono ?_;rintro e w2 ⟨rfl,b1,qR,u3⟩
 try dsimp only
 apply Z.out;clear Z K
 refine Tl.J5 rfl ?_
 refine B1 0 1 4 hf ?_
 clear hf s0 s1 s4 bQ s30;intro a7 hf sS
 have w5l:=(LF.r5 g bv p9).trans ((LF.r5 g bv hx).trans u3)
 have xa:=u3.cell (cL hx x0) (by intro e;have e:w.heap.size=g:=e;omega) w9m
 have hlh:LW w2 base g [.slice (some ⟨b,off,none⟩) ss.length cc,.int .u64 init] 91 b1 (l++cD s):=by have h9:=qR;rw [<- HH1.out, <- HHD.out] at h9;unfold cD;rw [P9.out];exact h9
 refine Fc.j6 ?_
 obtain ⟨s0,s1,s4⟩:=sS
 exact ⟨b1,hf,s0,s1,s4,hlh,w5l,xa⟩))
 . (
 clear hf sS
 rintro fr wq ⟨b1,hf,s0,s1,s4,qR,u3,x0⟩
 refine Ze fun _ b7=>Zr [38,39] hf ?_
 refine D0 0 1 39 40 41 hf ?_
 clear hf s0 s1 s4;intro a7 hf sS
 refine Zx b7 (wp_block (wp_loop_ghost (fun gk fr wr=>∃ (k:Nat) (b1:Value),gk=s.a6.length-k/\k<=s.a6.length/\Fc.Fr 71 fr/\fr.tmps[0]? =some (.pointer (some ⟨g,0,none⟩))/\fr.tmps[1]? =some (.int .i64 i)/\fr.tmps[39]? =some (.slice A2 s.a6.length c2)/\fr.tmps[40]? =some (.int .i64 s.a6.length)/\fr.tmps[41]? =some (.int .i64 k)/\LW wr base g [.slice (some ⟨b,off,none⟩) ss.length cc,.int .u64 init] 91 b1 (l++cD s++H6 i (s.a6.take k))/\LF w g bv wr b1) (s.a6.length) ?_ ?_))
 . (
 obtain ⟨s0,s1,bM,kM,s41⟩:=sS
 exact ⟨0,b1,rfl,Nat.zero_le _,hf,s0,s1,bM,kM,s41,by simpa [H6] using qR,u3⟩)
 . (
 clear hf sS
 rintro gk fr wr ⟨k,b1,hk,eK,hf,s0,s1,bM,kM,s41,qR,u3⟩
 have HK:=H9 hk;clear hk
 refine Ze fun _ b7=>Zr [] hf ?_
 refine J3 0 1 39 40 41 42 hf ?_
 clear hf s0 s1 bM kM s41;intro a7 hf sS
 refine Zs b7 fun _ b7=>Fc.l0 sS.2.2.2.2.2 (fun hq=> ?_) (fun hq=> ?_)
 . (
 have gG:k<s.a6.length:=qT
 clear hq
 obtain ⟨a,qS⟩:∃ a,s.a6[k]? =some a:=⟨_,D9 gG⟩
 have aF:=u3.below bJ hgb hlw.lo
 obtain ⟨b3,y7d,rfl,D4,y0,y1,y2⟩:=(bA.but (fL (aF.mono nR |> fun h=>dB h hN)) (fun k h1 h2=>oM)).at' qS
 have hao:=HOK.out.2.2 a (U0 qS)
 have D3:=HTO.out a (U0 qS)
 obtain ⟨q,hq⟩:∃ q:Nat,a.to=(q:Int):=⟨a.to.toNat,oM⟩
 rw [hq] at y2
 obtain ⟨dd,hdd⟩:∃ x,i-q=x:=⟨_,rfl⟩
 have t0p:dd<=1000000:=oM
 have y8:=z3t (i:=i) qS
 have hlen:(H6 i (s.a6.take k)).length<=19*s.a6.length:=y1z i k (fun x hx=>HOK.out.2.2 x hx) oM
 have hhl:=z8i HOK.out.1 (by omega:s.a6.length<=1000)
 obtain ⟨l1,x4i⟩:∃ x,l++cD s++H6 i (s.a6.take k)=x:=⟨_,rfl⟩
 have t0n:l1.length<=l.length+18+19*s.a6.length:=by rw [<- x4i];simp only [List.length_append];omega
 rw [x4i] at qR
 have hte:a.to.toNat=q:=oM
 have hab:=hao.1;have t0m:=hao.2.1
 have hqi:q<i:=by have:=D3.2;omega
 have X9:=H9 y8;have HL1:=H9 x4i;have HDD:=H9 hdd;have HTE:=H9 hte;clear y8 x4i hdd hte qS hao D3 hlen hhl hq
 refine wp_skip (Zs b7 fun _ b7=>wp_block (Ze fun _ j8=>Zr [43,44,7] hf ?_))
 refine J3 0 1 7 39 40 41 hf ?_
 clear hf sS;intro a7 hf sS
 generalize eB:wr.alloc (.cells #[.int .u8 a.byte,.int .u64 a.out,.int .i64 (q:Nat)] 71)=W7
 obtain ⟨A8,z0,z1,z2, -,v6d⟩:=G1 eB
 clear eB
 have hz7:wr.heap.size<W7.heap.size:=by rw [v6d];exact Nat.lt_succ_self _
 clear v6d
 clear y0 y1 y2
 have hl7:=qR.later A8
 have hf7:=LF.r5 g b1 A8
 have w9k:b1.ownBlock≠some wr.heap.size:=fun e=>by have:=(World.ownsRow.lt qR.2.1 _ e).2;omega
 have jR:=j4 qR.1
 have hxg:=hl7.1
 have v6c:=hl7.2.1
 have w5j:=hl7.2.2
 have qU:=j4 hxg
 have w5i:base<=W7.heap.size:=by have:=u3.1.size;have:=A8.size;omega
 refine Zs j8 fun _ j8=> ?_
 obtain ⟨s0,s1,s7,bM,kM,s41⟩:=sS
 refine Sm.K1 (n:=71) (fun _ k=>k=g\/b1.ownBlock=some k) [9,13] (Sb.OkOps.of kR) (fun a8=> ?_)
 refine Sm.xQ (k:=0) s0 hf.size a8.out rfl kR rfl rfl (.inl rfl) kR ?_
 refine Sm.xQ (k:=1) s0 hf.size a8.out rfl kR rfl rfl (.inl rfl) kR ?_
 apply Sm.tq 2 _ hf a8
 . (
 intro a7 w1 hh hd hk K Z
 refine Sb.pl ?_
 have s46:=Sm.v 1 0 hd hk []
 have K6:=Sm.z7 hh [(9,[5,4,3]),(13,[])] kR
 have o5:=Sm.l7 hh [] [(9,[5,4,3]),(13,[])] kR
 clear hd hh
 go_simp
 exact Sb.k Z)
 apply Sm.tq 3 _ hf a8
 . (
 intro a7 w1 hh hd hk K Z
 refine Sb.pl ?_
 have s47:=Sm.v 2 0 hd hk []
 have K6:=Sm.z7 hh [(9,[5,4]),(13,[])] kR
 have o5:=Sm.l7 hh [] [(9,[5,4]),(13,[])] kR
 clear hd hh
 go_simp
 exact Sb.k Z)
 apply Sm.tq 4 _ hf a8
 . (
 intro a7 w1 hh hd hk K Z
 refine Sb.pl ?_
 have s48:=Sm.v 3 0 hd hk []
 have K6:=Sm.z7 hh [(9,[5]),(13,[])] kR
 have o5:=Sm.l7 hh [] [(9,[5]),(13,[])] kR
 clear hd hh
 go_simp
 exact Sb.k Z)
 apply Sm.tq 5 _ hf a8
 . (
 intro a7 w1 hh hd hk K Z
 refine Sb.pl ?_
 have uA:=Sm.v 4 0 hd hk []
 have K6:=Sm.z7 hh [(9,[]),(13,[])] kR
 have o5:=Sm.l7 hh [] [(9,[]),(13,[])] kR
 clear hd hh
 have u0:=n5 0 ((K6.block g qU).trans hxg)
 simp at u0
 go_simp
 exact Sb.k Z)
 apply Sm.tq 6 _ hf a8
 . (
 intro a7 w1 hh hd hk K Z
 refine Sb.pl ?_
 have s7:=Sm.o hh kR s7
 have K6:=Sm.z7 hh [(9,[8,7]),(13,[])] kR
 have o5:=Sm.l7 hh [] [(9,[8,7]),(13,[])] kR
 clear hd hh
 go_simp
 exact Sb.k Z)
 apply Sm.tq 7 _ hf a8
 . (
 intro a7 w1 hh hd hk K Z
 refine Sb.pl ?_
 have pS:=Sm.v 6 0 hd hk []
 have K6:=Sm.z7 hh [(9,[8]),(13,[])] kR
 have o5:=Sm.l7 hh [] [(9,[8]),(13,[])] kR
 clear hd hh
 have u1:=cL K6 z0
 go_simp
 exact Sb.k Z)
 refine Sm.E8 (k:=8) (n:=71) (nV [.int .u8 (a.byte:Nat)]) hf.size a8.out rfl (nV.u5 _) kR ?_ ?_
 . (
 intro a7 w1 hh hd hk K Z
 refine Sb.pl ?_
 have s52:=Sm.v 7 0 hd hk []
 have K6:=Sm.z7 hh [(9,[]),(13,[])] kR
 have o5:=Sm.l7 hh [] [(9,[]),(13,[])] kR
 clear hd hh
 go_simp
 exact Z.out _ rfl _ _ ((Below.refl _ _).alloc nR _) ⟨_,rfl,E7 _ _ _⟩)
 refine Sm.K3 (k:=9) (n:=71) (gQ W7 base g b1 [.slice (some ⟨b,off,none⟩) ss.length cc,.int .u64 init] 91 (l1++[a.byte])) hf.size a8.out rfl (gQ.u5 _ _ _ _ _ _ _) kR ?_ ?_
 . (
 intro a7 w1 hh hd hk K Z
 refine Sb.pl ?_
 have yG:=Sm.v 5 3 hd hk []
 obtain ⟨x53,s53,w5h⟩:=Sm.use (j:=8) (m:=0) hd hk rfl [] kR [(13,true,[])] kR rfl rfl rfl
 obtain ⟨b53,rfl,w5g⟩:=w5h
 have K6:=Sm.z7 hh [(13,[])] kR
 have o5:=Sm.l7 hh [] [(13,[])] kR
 clear hd hh
 have Q3:=l5 v6c K6
 have fT:=(K6.block g qU).trans hxg
 refine J7 _ _ 31 rfl 5 _ 1 1 Tryz.underlying31 fS rfl dC dC base b1 l1.length (oK l1) (Fc.k7 yG) Q3 b53 [.int .u8 (a.byte:Nat)] (Fc.k7 s53) rfl w5g (by intro u hu;simp at hu;subst hu;rfl) oM (by have:=K6.size;omega) (fun v2 w2 oP tK iM=> ?_)
 exact Z.out _ rfl _ _ (n4.grown tK (fun k hk=> .inr hk)) ⟨by unfold OB;rw [List.length_append,Q2];exact oP,iM.imp id (fun h=>⟨_,h,K6.size⟩),(tK.block g (j4 fT) (fun e=>w5j e.symm)).trans fT⟩)
 apply Sm.tq 10 _ hf a8
 . (
 intro a7 w1 hh hd hk K Z
 refine Sb.pl ?_
 have s45:=Sm.v 0 9 hd hk []
 have o5:=Sm.l7 hh [9] [(13,[12,11])] kR
 clear hd hh
 go_simp
 exact Sb.k Z)
 apply Sm.tq 11 _ hf a8
 . (
 intro a7 w1 hh hd hk K Z
 refine Sb.pl ?_
 have s55:=Sm.v 10 0 hd hk []
 have o5:=Sm.l7 hh [9] [(13,[12])] kR
 clear hd hh
 go_simp
 exact Sb.k Z)
 apply Sm.tq 12 _ hf a8
 . (
 intro a7 w1 hh hd hk K Z
 refine Sb.pl ?_
 have s56:=Sm.v 11 0 hd hk []
 have o5:=Sm.l7 hh [9] [(13,[])] kR
 clear hd hh
 go_simp
 exact Sb.k Z)
 refine Sm.K3 (k:=13) (n:=71) (gR W7 base g b1 [.slice (some ⟨b,off,none⟩) ss.length cc,.int .u64 init] 91 (l1++[a.byte])) hf.size a8.out rfl (gR.u5 _ _ _ _ _ _ _) kR ?_ ?_
 . (
 intro a7 w1 hh hd hk K Z
 refine Sb.pl ?_
 have s57:=Sm.v 12 0 hd hk []
 obtain ⟨x54,s54,w5f⟩:=Sm.use (j:=9) (m:=3) hd hk rfl [] kR [] kR rfl rfl rfl
 obtain ⟨y7c,y1x,z8h⟩:=w5f
 have o5:=Sm.l7 hh [9] [] kR
 clear hd hh
 have z00:=n5 0 z8h
 simp at z00
 have fz:=j3 (i:=0) z8h
 obtain ⟨A9,c9,pQ,_⟩:=A1 y7c
 subst pQ
 go_simp
 refine Z.out _ rfl undef _ (n4.setCell (.inl rfl) _) ⟨_,y7 y7c (n4.setCell (S:=fun k=>k=g) rfl _) (fun kk S3 e=>by subst e;exact gQ.ne ⟨y7c,y1x,z8h⟩ w5j qU S3),y1x,(j5 (i:=0) z8h _).trans sP⟩)
 refine Sm.K2 (n:=71) kR hf.size a8.out rfl (fun a7 w1 hh hg=> ?_)
 replace s0:=Sm.o hh kR s0
 replace s1:=Sm.o hh kR s1
 replace s7:=Sm.o hh kR s7
 replace bM:=Sm.o hh kR bM
 replace kM:=Sm.o hh kR kM
 replace s41:=Sm.o hh kR s41
 obtain ⟨_,U8⟩:=Sm.T0 (j:=13) (m:=0) hg rfl dC [(9,[])] kR rfl
 have u3:=hh.fr hf
 have o5:=hh.but
 clear hg hh hf a8
 have hf:=u3;clear u3
 obtain ⟨v6,hr6,hl6,hx6⟩:=U8
 replace o5:=o5 (fun k=>k=g\/b1.ownBlock=some k) (fun m _ b h=>h)
 have hl8:LW w1 base g [.slice (some ⟨b,off,none⟩) ss.length cc,.int .u64 init] 91 v6 (l1++[a.byte]):=⟨hx6,hr6,gR.ne hl6 w5j qU⟩
 have hf8:LF W7 g b1 w1 v6:=⟨o5,hl6⟩
 have u1:=hf8.cell z1 (by intro e;have e:wr.heap.size=g:=e;omega) w9k
 have u2:=hf8.cell z2 (by intro e;have e:wr.heap.size=g:=e;omega) w9k
 have x4g:=u3.trans (hf7.trans hf8)
 clear z0 z1 z2 hx6 hr6 hl6 o5 hl7 hxg v6c
 refine Zx j8 (Sb.tb 71 fun a8=> ?_)
 refine Sb.mO 0 s0 hf a8 ?_
 refine Sb.T 1 hf a8 ?_
 refine Sb.T 2 hf a8 ?_
 refine Sb.T 3 hf a8 ?_ (hF:=fun _ _ h d=>Sb.O h s7)
 refine Sb.T 4 hf a8 ?_ (hF:=fun _ _ h d=>ad (cL h.ext u1) (cL h.ext u2))
 refine Sb.mO 5 s1 hf a8 ?_
 refine Sb.T 6 hf a8 ?_ (hF:=fun _ _ h d=>Sb.O h s7)
 refine Sb.T 7 hf a8 ?_ (hF:=fun _ _ h d=>ad (cL h.ext u1) (cL h.ext u2))
 apply Sb.tq 8 _ hf a8
 . (
 intro a7 w1 hh hd hk K Z
 have s63:=Sb.v 5 2 hd hk []
 have s65:=Sb.v 7 0 hd hk []
 clear hd
 go_simp
 try simp (disch:=omega) only [Fc.W]
 rw [show ((i:Nat):Int)-(q:Nat)=((dd:Nat):Int) by have:=HDD.out;omega]
 exact Sb.k Z)
 apply Sb.tq 9 _ hf a8
 . (
 intro a7 w1 hh hd hk K Z
 have s66:=Sb.v 8 0 hd hk []
 clear hd
 go_simp
 try simp (disch:=omega) only [Fc.wrap_u64]
 exact Sb.k Z)
 refine Sb.E8 (k:=10) (n:=71) (RNs [a.out,dd]) hf.size a8.out rfl (RNs.u5 _) ?_ ?_
 . (
 intro a7 w1 hh hd hk K Z
 refine Sb.pl ?_
 have s62:=Sb.v 4 5 hd hk []
 have s67:=Sb.v 9 0 hd hk []
 clear hd
 go_simp
 exact Z.out _ rfl _ _ ((Below.refl _ _).alloc nR _) (qQ _ [a.out,dd] _))
 refine Tl.D7 (n:=71) (m:=11) (ws:=[(11,0,[2,1]),(11,1,[2]),(11,3,[10,4]),(11,4,[10]),(11,5,[10,9,8]),(11,6,[10,9,8,7]),(11,7,[10,9,8]),(11,8,[10,9]),(11,9,[10])]) kR hf.size a8.out rfl rfl kR (fun a7 w1 hh hg=> ?_)
 replace s0:=Sb.O hh s0
 replace s1:=Sb.O hh s1
 replace bM:=Sb.O hh bM
 replace kM:=Sb.O hh kM
 replace s41:=Sb.O hh s41
 have s60:=Tl.u7 2 8 hg rfl rfl rfl rfl rfl
 obtain ⟨x68,s68,u4h⟩:=Tl.fQ (j:=10) (m:=0) hg rfl rfl rfl rfl rfl
 have u4g:=u4h
 have u3:=hh.fr hf
 have hx:=hh.ext
 replace u1:=cL hx u1
 replace u2:=cL hx u2
 clear hg hh hf a8 s7
 have hf:=u3;clear u3
 refine Tl.D8 rfl rfl (fun K Z=> ?_)
 go_simp
 go_at_call 35;refine (z8k _ base g _ _ v6 _ (hl8.later hx) (by have:=x4g.1.size;have:=hx.size;omega) [a.out,dd] _ u4g sP (by have:=HDD.out;intro x hx;simp at hx;rcases hx with rfl | rfl<;>omega) sO).mono ?_;rintro e w9 ⟨rfl,v9,hl9,hf9⟩
 try dsimp only
 apply Z.out;clear Z K
 refine Tl.J5 rfl ?_
 refine D0 0 1 39 40 41 hf ?_
 clear hf s0 s1 bM kM s41 s60 s68;intro a7 hf sS
 have w5d:=x4g.trans ((LF.r5 g v6 hx).trans hf9)
 have u4e:LW w9 base g [.slice (some ⟨b,off,none⟩) ss.length cc,.int .u64 init] 91 v9 (l++cD s++H6 i (s.a6.take (k+1))):=by have h9:=hl9;rw [List.append_assoc,show [a.byte]++E4 [a.out,dd]=z8j i a by unfold z8j;rw [HTE.out,HDD.out];rfl, <- HL1.out] at h9;rw [X9.out];simpa [List.append_assoc] using h9
 refine Fc.j7 (Zx b7 (Zr [70] hf ?_))
 refine D0 0 1 39 40 41 hf ?_
 clear hf sS;intro a7 hf sS
 refine Fc.j6 ?_
 obtain ⟨s0,s1,bM,kM,s41⟩:=sS
 exact ⟨_,by have:=HK.out;omega,k+1,v9,rfl,oM,hf,s0,s1,bM,kM,by rw [s41];rfl,u4e,w5d⟩)
 . (
 have oR:k=s.a6.length:=qF
 have HKE:=H9 oR;clear oR hq
 refine Zo ?_
 refine Fc.pZ rfl hf ⟨rfl,b1,?_,u3⟩
 have h9:=qR
 rw [HKE.out,List.take_length,List.append_assoc] at h9
 exact h9)))
def statesB:Nat->List State->List Nat
 | _,[]=>[]
 | i,s::l=>stB i s++statesB (i+1) l
def N0 (en:Nat) (init:Nat) (ss:List State):List Nat:=[67,83,1]++E4 [en,ss.length]++statesB 0 ss++E4 [init]
def putR (en:Int) (init:Nat) (ss:List State):List Nat×Nat:=if P1 en ss then (Crc.D2 (N0 en.toNat init ss),0) else ([],2)
theorem oS {en:Int} {ss:List State} (h:P1 en ss=true):0<=en/\en<=100000/\0<ss.length/\mayL 0 ss=true:=by
 unfold P1 at h
 simp at h
 exact ⟨h.1.1.1,h.1.1.2,oM,h.2⟩
theorem jS:∀ {l:List State} {k i:Nat} {s:State},mayL k l=true->l[i]? =some s->s.a6.length<=256/\∀ a∈s.a6,0<=a.to/\a.to<((k+i:Nat):Int)
 | s::l,k,0,x,h,hi=>by
  simp only [List.getElem?_cons_zero,Option.some.injEq] at hi
  subst hi
  simp only [mayL,Bool.and_eq_true,decide_eq_true_eq] at h
  refine ⟨h.1.1.1,?_⟩
  have key:∀ l:List r7,okTo k l=true->∀ a∈l,0<=a.to/\a.to<(k:Int):=by
   intro l
   induction l with
   | nil=>intro _ a ha;cases ha
   | cons b l ih =>
    intro h1 a ha
    simp only [okTo,Bool.and_eq_true,decide_eq_true_eq] at h1
    rcases List.mem_cons.1 ha with rfl | ha
    ·exact h1.1
    ·exact ih h1.2 a ha
  exact key _ h.1.2
 | s::l,k,i+1,x,h,hi=>by
  simp only [mayL,Bool.and_eq_true] at h
  have h9:=jS (i:=i) (s:=x) h.2 (by simpa using hi)
  rw [show k+(i+1)=k+1+i by omega]
  exact h9
theorem eR:∀ (a b:List State) (k:Nat),statesB k (a++b)=statesB k a++statesB (k+a.length) b
 | [],b,k=>by simp [statesB]
 | s::a,b,k=>by
  simp only [List.cons_append,statesB,List.length_cons]
  rw [eR a b (k+1),List.append_assoc,show k+1+a.length=k+(a.length+1) by omega]
theorem yH {l:List State} {i:Nat} {s:State} (h:l[i]? =some s):statesB 0 (l.take (i+1))=statesB 0 (l.take i)++stB i s:=by
 have hl:=(E2 h).1
 rw [List.take_add_one,h,eR]
 simp [statesB]
 congr 1
 omega
theorem w5c {i:Nat} {s:State} (h:J8 s) (h2:s.a6.length<=256) (hi:i<=1000000):(stB i s).length<=4882:=by
 have h1:=z8i h.1 oM
 have h3:=kP hi s.a6 h.2.2
 unfold stB
 simp only [List.length_append]
 omega
theorem eS:∀ (l:List State) (k:Nat),(∀ s∈l,J8 s)->mayL k l=true->k+l.length<=1000000->(statesB k l).length<=4882*l.length
 | [],_,_,_,_=>by simp [statesB]
 | s::l,k,h,hm,hk=>by
  have h1:=jS (i:=0) hm rfl
  simp only [mayL,Bool.and_eq_true] at hm
  simp only [List.length_cons] at hk
  have h2:=w5c (i:=k) (h s (List.mem_cons_self ..)) h1.1 oM
  have h3:=eS l (k+1) (fun x hx=>h x (List.mem_cons_of_mem _ hx)) hm.2 oM
  simp only [statesB,List.length_append,List.length_cons]
  omega
theorem vR:∀ (l:List State) (k i:Nat),mayL k l=true->mayL k (l.take i)=true
 | _,_,0,_=>by simp [mayL]
 | [],_,i+1,_=>by simp [mayL]
 | s::l,k,i+1,h=>by
  simp only [mayL,Bool.and_eq_true,List.take_succ_cons] at h |-
  exact ⟨h.1,vR l (k+1) i h.2⟩
theorem z3r {l:List State} (h:∀ s∈l,J8 s) (hm:mayL 0 l=true) (hk:l.length<=1000000) (i:Nat):(statesB 0 (l.take i)).length<=4882*l.length:=by
 have h2:(l.take i).length<=l.length:=sO
 have h1:=eS (l.take i) 0 (fun s hs=>h s (List.mem_of_mem_take hs)) (vR l 0 i hm) oM
 omega
theorem z8g {i:Nat} (hi:i<=1000000) {l:List r7} (h:∀ a∈l,uZ a):Small (H6 i l):=fun x hx=>by
 obtain ⟨a,ha,hx⟩:=List.mem_flatMap.1 hx
 have h1:=h a ha
 rcases List.mem_cons.1 hx with rfl | hx
 ·exact h1.1
 ·exact R7 (by intro y hy;simp at hy;have:=h1.2.1;unfold y5;rcases hy with rfl | rfl<;>omega) x hx
theorem y7b {i:Nat} {s:State} (h:J8 s) (h2:s.a6.length<=256) (hi:i<=1000000):Small (stB i s):=by
 refine Small.append ?_ (z8g hi h.2.2)
 refine R7 (fun y hy=> ?_)
 have:=h.1
 unfold y5
 split at hy<;>simp at hy<;>(try rcases hy with rfl | rfl)<;>omega
theorem gS:∀ (l:List State) (k:Nat),(∀ s∈l,J8 s)->mayL k l=true->k+l.length<=1000000->Small (statesB k l)
 | [],_,_,_,_=>Small.nil
 | s::l,k,h,hm,hk=>by
  have h1:=jS (i:=0) hm rfl
  simp only [mayL,Bool.and_eq_true] at hm
  simp only [List.length_cons] at hk
  exact (y7b (h s (List.mem_cons_self ..)) h1.1 oM).append (gS l (k+1) (fun x hx=>h x (List.mem_cons_of_mem _ hx)) hm.2 oM)
theorem lZ {n init:Nat} {ss:List State} (h:∀ s∈ss,J8 s) (hm:mayL 0 ss=true) (hl:ss.length<=100000) (hn:n<=100000) (hi:init<18446744073709551616):Small (N0 n init ss):=by
 refine ((Small.append (by intro x hx;simp at hx;omega) (R7 (by intro y hy;simp at hy;unfold y5;rcases hy with rfl | rfl<;>omega))).append (gS ss 0 h hm oM)).append (R7 (by intro y hy;simp at hy;unfold y5;omega))
theorem y2z (w:World) (en:Int) (sv:Value) (init:Nat) (ss:List State) (o7:RS w sv ss) (a8:∀ s∈ss,J8 s) (hlen:ss.length<=100000) (z8f:∀ s∈ss,s.a6.length<=1000) (v5y:init<18446744073709551616):G4 w 14 #[.int .i64 en,.agg #[sv,.int .u64 init]] (.tuple #[.string (bl (putR en init ss).1),.int .i64 (putR en init ss).2]):=by
 refine aT 60 Tryz.func14 fun fr hf s0 s1=> ?_
 have N3:=o7.n
 obtain ⟨A,cc,rfl,Z3⟩:=o7.form
 have HO:=H9 a8;have HF:=H9 z8f;clear a8 z8f
 have hM:y5=18446744073709551616:=rfl
 have u4d:=o7
 refine Ze fun _ b7=>Zr [] hf ?_
 refine C1 0 3 hf ?_
 clear hf s0 s1;intro a7 hf sS
 generalize p8:w.alloc (.cells #[.slice A ss.length cc,.int .u64 init] 38)=W0
 obtain ⟨p9,c0,c1, -,T1⟩:=Z8 p8
 clear p8
 have gE:w.heap.size<W0.heap.size:=by rw [T1];exact Nat.lt_succ_self _
 clear T1
 have cQ:=o7.later p9
 clear o7
 refine Zs b7 fun _ b7=>Ze fun _ j8=>rg ?_
 have bB:=hf.B3 8 9 10
 iterate 2 refine Zy ?_
 refine Zc (v5x W0 en _ init ss cQ HO.out oM HF.out) ?_;rintro e w1 ⟨rfl,n7⟩
 refine Zv ?_
 refine Zy ?_
 refine Fc.nil (B1 0 3 11 hf ?_)
 clear hf sS bB;intro a7 hf sS
 have e0:=cL n7 c0
 have e1:=cL n7 c1
 have T2:=p9.trans (n7.mono p9.size)
 clear c0 c1 cQ
 refine Zx j8 ?_
 rcases hmy:P1 en ss with _ | _
 . (
 have HM:=H9 hmy
 obtain ⟨s0,s3,C7⟩:=sS
 rw [hmy] at C7
 simp only [Bool.not_false,Bool.not_true] at C7
 clear hmy
 refine Fc.l8 C7 ?_
 refine Ze fun _ j8=>Zr [] hf ?_
 refine C1 4 5 hf ?_
 clear hf s0 s3 C7;intro a7 hf sS
 refine Zx j8 (k8 ?_)
 exact Fc.U6 rfl hf sS.1 sS.2 ⟨by unfold putR;rw [HM.out];rfl,T2⟩)
 . (
 have HM:=H9 hmy
 obtain ⟨s0,s3,C7⟩:=sS
 rw [hmy] at C7
 simp only [Bool.not_false,Bool.not_true] at C7
 clear hmy
 refine Fc.k9 C7 ?_
 obtain ⟨he0,he1,hs0,nS⟩:=oS HM.out
 obtain ⟨n,hn⟩:∃ n:Nat,en=(n:Int):=⟨en.toNat,oM⟩
 subst hn
 have hrw:=N3.below T2
 have HML:=H9 nS;clear nS N3 u4d
 have hen:n<=100000:=oM
 have HNE:=H9 (show (n:Int).toNat=n by omega)
 clear he0 he1
 refine wp_skip (Zs b7 fun _ b7=>Zr [12,13,14] hf ?_)
 refine B1 0 3 6 hf ?_
 clear hf s0 s3 C7;intro a7 hf sS
 obtain ⟨g,hg⟩:∃ x,w1.heap.size=x:=⟨_,rfl⟩
 generalize kB:w1.alloc (.cells #[.slice none 0 0,.slice A ss.length cc,.int .u64 init] 91)=W3
 obtain ⟨s0,s3,s6⟩:=sS
 try rw [hg] at s6
 have D4:Below w1.heap.size w1 W3:=by rw [<- kB];exact (Below.refl _ _).alloc nR _
 have hx3:W3.heap[g]? =some (.cells #[.slice none 0 0,.slice A ss.length cc,.int .u64 init] 91 (0,0)):=by rw [<- kB, <- hg];exact heap_alloc_new w1 _
 have tK:g<W3.heap.size:=j4 hx3
 have tQ:LW W3 g g [.slice A ss.length cc,.int .u64 init] 91 (.slice none 0 0) []:=⟨hx3,OB.S0 _ _,by intro e;cases e⟩
 have y0:=cL D4 e0;have y1:=cL D4 e1
 have hrg:=hrw.below ((D4.mono T2.size):Below w.heap.size w1 W3)
 have hwg:w.heap.size<=g:=by rw [<- hg];exact T2.size
 have w5b:w.heap.size<g:=by rw [<- hg];have:=n7.size;omega
 have hgs:=Nat.le_of_lt tK
 have u4a:=T2.trans (D4.mono T2.size)
 clear kB hg e0 e1 hrw D4
 have u3z:=H9 hrg
 have HY1:=H9 y1;clear y1
 refine Zt b7 fun _ b7=> ?_
 have bB:=hf.pL 15 16 17 18 19 20 21 22 23 24
 iterate 5 refine Zy ?_
 have u0:=n5 0 hx3
 simp at u0
 refine Zy ?_
 clear bB
 refine Fc.lQ (n:=60) (by simp only [Fc.G,hf.size]) hf.defers (fun a7 u3 hT=> ?_)
 have G9:=Fc.h5 hT 0 3 6 15 20
 simp (decide:=true) only [Fc.G,hf.size,reduceIte,s0,s3,s6] at G9
 replace hf:=u3;clear hT u3 s0 s3 s6
 obtain ⟨s0,s3,s6,s15,M6⟩:=G9
 have bB:=hf.B4 21 22 23 24
 refine ⟨?_⟩
 refine wpList_plain rfl fun KL tY=> ?_
 refine vQ _ _ rfl g (.slice none 0 0) [] (Fc.k7 M6) tQ.2.1 (bl [67,83,1]) (by rw [show bl [67,83,1]=⟨#[67,83,1]⟩ by decide];rfl) (by rw [X4];simp) oM (fun v4 w4 hr4 hg4 u3y=>tY _ _ ?_)
 rw [cB (by intro x hx;simp at hx;omega),List.nil_append] at hr4
 refine Fc.L.out ?_
 iterate 3 refine Zy ?_
 have hx4:=(hg4.block g tK (by intro e;cases e)).trans hx3
 have u1:=n5 0 hx4
 simp at u1
 have fz:=j3 (i:=0) hx4
 obtain ⟨A9,c9,pQ,_⟩:=A1 hr4
 rw [show ([67,83,1]:List Nat).length=3 from rfl] at pQ
 subst pQ
 refine Zy ?_
 refine Fc.nil (B1 0 3 6 hf ?_)
 clear hf s0 s3 s6 s15 M6 bB;intro a7 hf sS
 obtain ⟨hl5,hf5⟩:=tQ.step (Below.refl _ _) hr4 hg4 u3y nR
 generalize eC:w4.setCell ⟨g,0,none⟩ (.slice A9 3 c9)=W5
 rw [eC] at hl5 hf5
 have HY0:=H9 y0
 replace y0:=((hf5.below hgs (Nat.le_refl g) tQ.lo).cell (p:=⟨w.heap.size,0,none⟩) w5b).trans HY0.out
 refine Zs b7 fun _ b7=> ?_
 obtain ⟨s0,s3,s6⟩:=sS
 refine Sb.tb 60 fun a8=> ?_
 refine Sb.mO 0 s6 hf a8 ?_
 refine Sb.T 1 hf a8 ?_
 refine Sb.T 2 hf a8 ?_
 refine Sb.mO 3 s0 hf a8 ?_
 apply Sb.tq 4 _ hf a8
 . (
 intro a7 w1 hh hd hk K Z
 have bR:=Sb.v 3 0 hd hk []
 clear hd
 go_simp
 try simp (disch:=omega) only [Fc.wrap_u64]
 exact Sb.k Z)
 refine Sb.T 5 hf a8 ?_ (hF:=fun _ _ h d=>Sb.O h s3)
 refine Sb.T 6 hf a8 ?_ (hF:=fun _ _ h d=>cL h.ext y0)
 refine Sb.T 7 hf a8 ?_ (hF:=fun _ _ h d=>cL h.ext y0)
 apply Sb.tq 8 _ hf a8
 . (
 intro a7 w1 hh hd hk K Z
 have s32:=Sb.v 7 0 hd hk []
 clear hd
 go_simp
 try simp (disch:=omega) only [Fc.wrap_u64]
 exact Sb.k Z)
 refine Sb.E8 (k:=9) (n:=60) (RNs [n,ss.length]) hf.size a8.out rfl (RNs.u5 _) ?_ ?_
 . (
 intro a7 w1 hh hd hk K Z
 refine Sb.pl ?_
 have bG:=Sb.v 4 4 hd hk []
 have s33:=Sb.v 8 0 hd hk []
 clear hd
 go_simp
 exact Z.out _ rfl _ _ ((Below.refl _ _).alloc nR _) (qQ _ [n,ss.length] _))
 refine Tl.D7 (n:=60) (m:=10) (ws:=[(10,0,[2,1]),(10,1,[2]),(10,3,[9,4]),(10,4,[9]),(10,5,[9,8,7,6]),(10,6,[9,8,7]),(10,7,[9,8]),(10,8,[9])]) kR hf.size a8.out rfl rfl kR (fun a7 w1 hh hg=> ?_)
 replace s3:=Sb.O hh s3
 replace s6:=Sb.O hh s6
 have V0:=Tl.u7 2 7 hg rfl rfl rfl rfl rfl
 obtain ⟨x34,s34,u3w⟩:=Tl.fQ (j:=9) (m:=0) hg rfl rfl rfl rfl rfl
 have u3v:=u3w
 have u3:=hh.fr hf
 have hx:=hh.ext
 replace y0:=cL hx y0
 clear hg hh hf a8 s0
 have hf:=u3;clear u3
 refine Tl.D8 rfl rfl (fun K Z=> ?_)
 go_simp
 go_at_call 35;refine (z8k _ g g _ _ _ _ (hl5.later hx) (by have:=hf5.1.size;have:=hx.size;omega) [n,ss.length] _ u3v sP (by intro x hx;simp at hx;rcases hx with rfl | rfl<;>omega) sP).mono ?_;rintro e w6 ⟨rfl,b6,hl6,hf6⟩
 try dsimp only
 apply Z.out;clear Z K
 refine Tl.J5 rfl ?_
 refine C1 3 6 hf ?_
 clear hf s3 s6 V0 s34;intro a7 hf sS
 have v5v:=hf5.trans ((LF.r5 g _ hx).trans hf6)
 have hg6:=v5v.below hgs (Nat.le_refl g) tQ.lo
 have y0b:=(hg6.cell (p:=⟨w.heap.size,0,none⟩) w5b).trans HY0.out
 clear y0
 replace hrg:=hrg.below (dB hg6 hwg)
 obtain ⟨L0,hL0⟩:∃ x,[67,83,1]++E4 [n,ss.length]=x:=⟨_,rfl⟩
 have t0d:L0.length<=100:=by rw [<- hL0];have h1:=(K4 (n:=n) oM).2;have h2:=(K4 (n:=ss.length) oM).2;simp [E4];omega
 have u3t:LW w6 g g [.slice A ss.length cc,.int .u64 init] 91 b6 (L0):=by rw [<- hL0];exact hl6
 have HL0:=H9 hL0;clear hL0 hl5 hf5 hl6 hf6 hx3
 refine Zs b7 fun _ b7=>Ze fun _ j8=>Zr [36,37] hf ?_
 refine C0 3 6 38 39 hf ?_
 clear hf sS;intro a7 hf sS
 clear y0b
 refine Zx j8 (wp_block (wp_loop_ghost (fun gk fr wr=>∃ (i:Nat) (b1:Value),gk=ss.length-i/\i<=ss.length/\Fc.Fr 60 fr/\fr.tmps[3]? =some (.pointer (some ⟨w.heap.size,0,none⟩))/\fr.tmps[6]? =some (.pointer (some ⟨g,0,none⟩))/\fr.tmps[38]? =some (.int .i64 ss.length)/\fr.tmps[39]? =some (.int .i64 i)/\LW wr g g [.slice A ss.length cc,.int .u64 init] 91 b1 (L0++statesB 0 (ss.take i))/\LF W3 g (.slice none 0 0) wr b1) (ss.length) ?_ ?_))
 . (
 obtain ⟨s3,s6,s38,bM⟩:=sS
 exact ⟨0,b6,rfl,Nat.zero_le _,hf,s3,s6,s38,bM,by simpa [statesB] using u3t,v5v⟩)
 . (
 clear hf sS
 rintro gk fr wr ⟨i,b1,hk,eK,hf,s3,s6,s38,bM,hl7,hf7⟩
 have HK:=H9 hk;clear hk
 have A8:=hf7.below hgs (Nat.le_refl g) tQ.lo
 have Z7:=z3r HO.out HML.out (by omega:ss.length<=1000000) i
 refine Ze fun _ j8=>Zr [] hf ?_
 refine D0 3 6 38 39 40 hf ?_
 clear hf s3 s6 s38 bM;intro a7 hf sS
 refine Zs j8 fun _ j8=>Fc.l0 sS.2.2.2.2 (fun hq=> ?_) (fun hq=> ?_)
 . (
 have n8:i<ss.length:=qT
 clear hq
 obtain ⟨s,U2⟩:∃ s,ss[i]? =some s:=⟨_,D9 n8⟩
 have hms:=jS HML.out U2
 rw [Nat.zero_add] at hms
 have y8:=yH U2
 have X9:=H9 y8;have HIS:=H9 U2;clear y8 U2
 refine wp_skip (Zs j8 fun _ j8=>wp_block (Ze fun _ l6=>Zr [41] hf ?_))
 refine D0 3 6 7 38 39 hf ?_
 clear hf sS;intro a7 hf sS
 refine Zx l6 (rg ?_)
 obtain ⟨b42,b43⟩:=hf.B2 42 43
 iterate 2 refine Zy ?_
 refine fp fun K Z=> ?_
 go_simp
 go_at_call 36;refine (x4k wr w.heap.size g g b1 _ _ init ss hl7 (by have:=hf7.1.size;omega) (Nat.le_refl g) hwg (u3z.out.below (dB A8 hwg)) i s HIS.out (HO.out s (U0 HIS.out)) hms.1 hms.2 oM (by simp only [List.length_append];omega)).mono ?_;rintro e w8 ⟨rfl,b8,hl8,hf8⟩
 have x4g:=hf7.trans hf8
 rw [List.append_assoc, <- X9.out] at hl8
 try dsimp only
 apply Z.out;clear Z K
 refine Fc.nil (C0 3 6 38 39 hf ?_)
 clear hf sS b42 b43;intro a7 hf sS
 refine Fc.j7 (Zx j8 (Zr [45] hf ?_))
 refine C0 3 6 38 39 hf ?_
 clear hf sS;intro a7 hf sS
 refine Fc.j6 ?_
 obtain ⟨s3,s6,s38,bM⟩:=sS
 exact ⟨_,by have:=HK.out;omega,i+1,b8,rfl,oM,hf,s3,s6,s38,by rw [bM];rfl,hl8,x4g⟩)
 . (
 have F3:i=ss.length:=qF
 have hl8:=hl7
 rw [F3,List.take_length] at hl8
 rw [F3,List.take_length] at Z7
 have y1b:=(A8.cell (p:=⟨w.heap.size,1,none⟩) w5b).trans HY1.out
 clear hl7 F3 hq
 refine Zo ?_
 refine Zs b7 fun _ b7=> ?_
 obtain ⟨s3,s6,s38,bM,kM⟩:=sS
 refine Sb.tb 60 fun a8=> ?_
 refine Sb.mO 0 s6 hf a8 ?_
 refine Sb.T 1 hf a8 ?_
 refine Sb.T 2 hf a8 ?_
 refine Sb.T 3 hf a8 ?_ (hF:=fun _ _ h d=>Sb.O h s3)
 refine Sb.T 4 hf a8 ?_ (hF:=fun _ _ h d=>cL h.ext y1b)
 refine Sb.E8 (k:=5) (n:=60) (RNs [init]) hf.size a8.out rfl (RNs.u5 _) ?_ ?_
 . (
 intro a7 w1 hh hd hk K Z
 refine Sb.pl ?_
 have yG:=Sb.v 4 0 hd hk []
 clear hd
 go_simp
 exact Z.out _ rfl _ _ ((Below.refl _ _).alloc nR _) (qQ _ [init] _))
 refine Tl.D7 (n:=60) (m:=6) (ws:=[(6,0,[2,1]),(6,1,[2]),(6,3,[5,4]),(6,4,[5])]) kR hf.size a8.out rfl rfl kR (fun a7 w1 hh hg=> ?_)
 replace s6:=Sb.O hh s6
 have s48:=Tl.u7 2 3 hg rfl rfl rfl rfl rfl
 obtain ⟨x51,pS,u3r⟩:=Tl.fQ (j:=5) (m:=0) hg rfl rfl rfl rfl rfl
 have u3q:=u3r
 have u3:=hh.fr hf
 have hx:=hh.ext
 replace y1b:=cL hx y1b
 clear hg hh hf a8 s3 s38 bM kM
 have hf:=u3;clear u3
 refine Tl.D8 rfl rfl (fun K Z=> ?_)
 go_simp
 go_at_call 35;refine (z8k _ g g _ _ _ _ (hl8.later hx) (by have:=hf7.1.size;have:=hx.size;omega) [init] _ u3q sP (by intro x hx;simp at hx;omega) (by simp only [List.length_append];omega)).mono ?_;rintro e w9 ⟨rfl,b9,hl9,hf9⟩
 try dsimp only
 apply Z.out;clear Z K
 refine Tl.J5 rfl ?_
 refine r6 6 hf ?_
 clear hf s6 s48 pS;intro a7 hf s6
 have w5d:=hf7.trans ((LF.r5 g _ hx).trans hf9)
 have kL:=w5d.below hgs (Nat.le_refl g) tQ.lo
 have hbe:=u4a.trans (dB kL hwg)
 have y9t:N0 (n:Int).toNat init ss=L0++statesB 0 ss++E4 [init]:=by unfold N0;rw [HNE.out,HL0.out]
 have w9i:=H9 y9t;clear y9t
 have u3p:=hl9.2.1
 have u9:=n5 0 hl9.1
 simp at u9
 have xH:=OB.conv u3p
 rw [<- w9i.out] at xH
 have tE:(bl (N0 (n:Int).toNat init ss)).size<=900000000:=by rw [X4,w9i.out];have h1:=(K4 (n:=init) oM).2;simp only [List.length_append,E4];simp;omega
 have hsl:Small (N0 (n:Int).toNat init ss):=by rw [HNE.out];exact lZ HO.out HML.out oM oM v5y
 obtain ⟨bb,uB⟩:∃ x,bl (N0 (n:Int).toNat init ss)=x:=⟨_,rfl⟩
 rw [uB] at xH tE
 have qV:wl bb=N0 (n:Int).toNat init ss:=by rw [<- uB];exact cB hsl
 have HWB:=H9 qV;clear qV uB hsl
 refine Zt b7 fun _ b7=> ?_
 have bB:=hf.B7 53 54 55 56 57 58 59
 iterate 6 refine Zy ?_
 refine Zc (y2d w9 bb tE) ?_;rintro e w10 ⟨rfl,bX⟩
 refine Zv ?_
 iterate 2 refine Zy ?_
 refine Fc.nil (C1 4 5 hf ?_)
 clear hf s6 bB;intro a7 hf sS
 refine Zx b7 (k8 ?_)
 refine Fc.U6 rfl hf sS.1 sS.2 ⟨?_,hbe.trans (bX.mono hbe.size)⟩
 unfold putR
 rw [if_pos HM.out,HWB.out]
 rfl)))
def vS (w w1:World) (e:Ending) (code at_:Int):Prop:=∃ q,e= .panicked [{ v:= .iface 77 (.pointer (some ⟨q,0,none⟩)),recovered:=false }]/\w.heap.size<=q/\w1.heap[q]? =some (.cells #[.int .i64 code,.int .i64 at_] 134 (0,0))/\Below w.heap.size w w1
theorem dV {P:Program} {fn:Func} {R:Ending->World->Prop} {c:List PanicEntry} {a:Act} {w:World} (hd:a.defers=[]) (hR:R (.panicked c) w):bodyPost P fn R (.panic c) a w:=⟨hd,hR⟩
theorem vT (w:World) (code at_:Int):Calls Tryz.prog 32 #[.int .i64 code,.int .i64 at_] w fun e w1=>vS w w1 e code at_:=by
 refine aT 9 Tryz.func32 fun fr hf s0 s1=> ?_
 refine rg ?_
 have bB:=hf.B5 4 5 6 7 8
 iterate 5 refine Zy ?_
 refine fp fun K Z=> ?_
 go_simp
 refine dV hf.defers ?_
 exact ⟨w.heap.size,rfl,nR,heap_alloc_new w _,(Below.refl _ _).alloc nR _⟩
end Dw
end Go.Proofs.YtcddnmhmcieebaaGreatDoor
