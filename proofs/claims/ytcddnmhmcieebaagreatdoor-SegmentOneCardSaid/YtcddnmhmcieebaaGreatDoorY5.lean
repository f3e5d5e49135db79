/- Dawg: close. -/
import Derived.Test.YtcddnmhmcieebaaGreatDoorY4
import Derived.Test.YtcddnmhmcieebaaGreatDoorTools
import Derived.Test.YtcddnmhmcieebaaGreatDoorY1
import Derived.WalkSmall
namespace Go.Proofs.YtcddnmhmcieebaaGreatDoor
set_option maxHeartbeats 4000000
set_option maxRecDepth 100000
open Go.RowKit
set_option linter.unusedSimpArgs false
set_option linter.unusedVariables false
set_option linter.unnecessarySimpa false
namespace Dw
open Go.Maps
def z6i (w:World) (own Y6:Nat->Nat):Prop:=∀ k,k<w.heap.size->(own k=0\/own k=4)->Y6 k=own k
def SC (v7:Nat->Nat) (vb:Option Nat) (wb:Nat):Nat->Nat->Prop
 | 14,k=>v7 k=1\/v7 k=2\/v7 k=3
 | 17,k=>vb=some k
 | _,k=>k=wb
theorem SC.all {v7:Nat->Nat} {vb:Option Nat} {wb m b:Nat} (hm:m∈[14,17,21]) (h:SC v7 vb wb m b):(v7 b=1\/v7 b=2\/v7 b=3)\/vb=some b\/b=wb:=by
 simp at hm
 rcases hm with rfl | rfl | rfl
 ·exact .inl h
 ·exact .inr (.inl h)
 ·exact .inr (.inr h)
def oE (W2:World) (v7:Nat->Nat) (base g:Nat) (wv:Value) (mb:Nat) (ss:List State) (w:World):Prop:=∃ M3 oD,(∀ k,k<W2.heap.size->M3 k=v7 k)/\(∀ k,W2.heap.size<=k->M3 k=0\/M3 k=2)/\bC w base M3 g 123 [wv] oD mb ss
theorem oE.u5 (W2:World) (v7:Nat->Nat) (base g:Nat) (wv:Value) (mb:Nat) (ss:List State):∀ w w':World,Below w.heap.size w w'->oE W2 v7 base g wv mb ss w->oE W2 v7 base g wv mb ss w' :=
 fun w w' hb ⟨M3,oD,h1,h2,h3⟩=>⟨M3,oD,h1,h2,h3.later hb⟩
theorem oE.but {S:Nat->Prop} {W2:World} {v7:Nat->Nat} {base g:Nat} {wv:Value} {mb:Nat} {ss:List State} {w w':World} (h:oE W2 v7 base g wv mb ss w) (hb:n4 S w w') (hS:∀ k,S k->k<W2.heap.size/\5<=v7 k):oE W2 v7 base g wv mb ss w':=by
 obtain ⟨M3,oD,h1,h2,h3⟩:=h
 exact ⟨M3,oD,h1,h2,h3.but hb (fun k hk=>by have:=hS k hk;rw [h1 k this.1];omega)⟩
def x1j (R:World->Prop) (i:Nat):Sb.Pr:=fun v w=>v= .int .i64 (i:Int)/\R w
theorem x1j.u5 {R:World->Prop} {i:Nat} (hR:∀ w w':World,Below w.heap.size w w'->R w->R w'):Sb.Stable (x1j R i):=fun _ w w' hb ⟨h1,h2⟩=>⟨h1,hR w w' hb h2⟩
def x1i (R:World->Prop) (W2:World) (base:Nat) (avu:Value) (n:Nat) (cs:List Value):Sb.Pr:=fun v w=>R w/\w.ownsRow base 71 3 v (n+1) cs/\(v.ownBlock=avu.ownBlock\/∃ k,v.ownBlock=some k/\W2.heap.size<=k)
theorem x1i.u5 {R:World->Prop} (hR:∀ w w':World,Below w.heap.size w w'->R w->R w') (W2:World) (base:Nat) (avu:Value) (n:Nat) (cs:List Value):Sb.Stable (x1i R W2 base avu n cs):=fun _ w w' hb ⟨h1,h2,h3⟩=>⟨hR w w' hb h1,l5 h2 hb,h3⟩
def x1h (R:World->Prop) (W2:World) (base:Nat) (avu:Value) (n:Nat) (cs:List Value) (wv:Value) (m:Nat) (cells:List Value) (i:Nat):Sb.Pr:=fun _ w=>∃ v,R w/\w.ownsRow base 71 3 v (n+1) cs/\(v.ownBlock=avu.ownBlock\/∃ k,v.ownBlock=some k/\W2.heap.size<=k)/\w.ownsRow base 126 4 wv m (cells.set i v)
theorem x1h.u5 {R:World->Prop} (hR:∀ w w':World,Below w.heap.size w w'->R w->R w') (W2:World) (base:Nat) (avu:Value) (n:Nat) (cs:List Value) (wv:Value) (m:Nat) (cells:List Value) (i:Nat):Sb.Stable (x1h R W2 base avu n cs wv m cells i) :=
 fun _ w w' hb ⟨v,h1,h2,h3,h4⟩=>⟨v,hR w w' hb h1,l5 h2 hb,h3,l5 h4 hb⟩
theorem n4.t8o {S S' T:Nat->Prop} {w w1 w4 w5:World} (h1:Below w.heap.size w w1) (h4:n4 S w1 w4) (h5:n4 S' w4 w5) (hT:∀ k,k<w.heap.size->(S k\/S' k)->T k):n4 T w w5:=n4.via h1 h4 h5 hT
theorem z6i.refl (w:World) (own:Nat->Nat):z6i w own own:=fun _ _ _=>rfl
theorem y8o (w:World) {base g mb N M:Nat} {own:Nat->Nat} {sv wv:Value} {ss:List State} {o6:List Open} (d:Nat) (hB:aU w base own g sv mb ss wv 0 o6) (E6:o6≠[]) (tL:Bnd N M ss o6) (hM:M<=1000000) (hN:N<=200) (hd:d<=1000000):Calls Tryz.prog 52 #[.pointer (some ⟨g,0,none⟩),.int .i64 d] w fun e w1=>e= .returned (.tuple #[])/\∃ Y6 sv' wv',aU w1 base Y6 g sv' mb (close ss o6 d).1 wv' 0 (close ss o6 d).2/\z6i w own Y6/\n4 (fun k=>own k≠0/\own k≠4) w w1:=by
 refine aT 67 Tryz.func52 fun fr hf s0 s1=> ?_
 refine wp_block (wp_loop_ghost (fun gk fr wr=>∃ (aD:Nat->Nat) (zV wvr:Value) (pD:List State) (o:Open) (R0:List Open),gk=R0.length/\Fc.Fr 67 fr/\fr.tmps[0]? =some (.pointer (some ⟨g,0,none⟩))/\fr.tmps[1]? =some (.int .i64 d)/\aU wr base aD g zV mb pD wvr 0 (o::R0)/\close pD (o::R0) d=close ss o6 d/\Bnd N M pD (o::R0)/\z6i w own aD/\n4 (fun k=>own k≠0/\own k≠4) w wr) (o6.length-1) ?_ ?_)
 . (
 obtain ⟨o,R0,rfl⟩:=List.exists_cons_of_ne_nil E6
 exact ⟨own,sv,wv,ss,o,R0,rfl,hf,s0,s1,hB,rfl,tL,z6i.refl _ _,n4.refl _ _⟩)
 . (
 clear hf s0 s1
 rintro gk fr wr ⟨aD,zV,wvr,pD,o,R0,hk,hf,s0,s1,sU,N5,zE,hkp,G5⟩
 have HK:=H9 hk;have HCL:=H9 N5;clear hk N5
 obtain ⟨wb,c,av,rfl,Z3,qV,d0,d1,d2,d3,Y8,aE⟩:=sU.top
 have q2:=sU.z6l
 have F7:=zE.size
 simp only [List.length_cons] at F7
 refine Ze fun _ b7=>Ze fun _ j8=>Zr [8,9,10,11,12,13,14] hf ?_
 refine B1 0 1 15 hf ?_
 clear hf s0 s1;intro a7 hf sS
 refine Zx j8 (Fc.l0 sS.2.2 (fun hq=> ?_) (fun hq=> ?_))
 . (
 have n8:d<R0.length:=qT
 obtain ⟨up,rest,rfl⟩:=List.exists_cons_of_ne_nil (show R0≠[] by rintro rfl;simp at n8)
 simp only [List.length_cons] at *
 have HQ:=H9 hq;clear hq
 have w1k:=HCL.out
 rw [z6k oM] at w1k
 replace HCL:=H9 w1k;clear w1k
 have t8m:=zE.G6 oM oM
 have hoo:=zE.head o rfl
 have hu2:=zE.tail up (List.mem_cons_self ..)
 have hng:wb≠g:=fun e=>by have h1:=sU.cT.og;rw [<- e] at h1;omega
 have bJ:=sU.cT.aC
 obtain ⟨A,ca,rfl,hca⟩:=(OA.ra (B:=fun _=>True) Y8 (fun _ _=>trivial)).form
 obtain ⟨K9,gY⟩:∃ f,(fun k=>if k<wr.heap.size then aD k else 0)=f:=⟨_,rfl⟩
 have z6h:∀ k,wr.heap.size<=k->K9 k=0:=fun k hk=>by rw [<- gY];exact if_neg (by omega)
 have aS:∀ k,k<wr.heap.size->K9 k=aD k:=fun k hk=>by rw [<- gY];exact if_pos hk
 have hBs:=sU.told (Y6:=K9) (fun k hk=>by rw [aS k oM];exact sU.cT.lo k hk) (fun k hk _ _=>aS k hk)
 replace aE:∀ k,(Value.slice A o.st.a6.length ca).ownBlock=some k->K9 k=7+rest.length:=fun k hk=>by rw [aS k (Y8.lt k hk).2,aE k hk];omega
 have s5r:K9 wb=5:=by rw [aS wb (C8 d0)];exact qV
 have H0:=H9 z6h;have H1:=H9 aS;clear z6h aS gY sU qV
 obtain ⟨n,hn⟩:∃ n,leastOf o.st=n:=⟨_,rfl⟩
 have HN:=H9 hn;clear hn
 refine wp_skip (Zx b7 (wp_block (Ze fun _ b7=>Zr [16,17,18,19,20,21] hf ?_)))
 refine B1 0 1 4 hf ?_
 clear hf sS;intro a7 hf sS
 refine Zs b7 fun _ b7=>Zr [22,23,24,25,26,27,28,5] hf ?_
 refine C0 0 1 4 5 hf ?_
 clear hf sS;intro a7 hf sS
 generalize p8:wr.alloc (.cells #[.slice A o.st.a6.length ca,.bool o.st.final,.int .u64 o.st.out,.int .u8 o.cN] 126)=W0
 obtain ⟨p9, -, -, -, -,F1,T1⟩:=w6d p8
 clear p8
 have gE:wr.heap.size<W0.heap.size:=by rw [T1];exact Nat.lt_succ_self _
 clear T1
 have hB0:=(hBs.later p9).forget
 have z1r:OA W0 base (.slice A o.st.a6.length ca) o.st.a6:=l5 Y8 p9
 clear d0 d1 d2 d3 Y8 hBs
 refine Zt b7 fun _ b7=> ?_
 have bB:=hf.b 29
 refine Zc (x8j W0 wr.heap.size o.cN base o.st _ hoo.ok F1 z1r) ?_;rintro e w1 ⟨rfl,C5,oC,y6w⟩
 rw [HN.out] at C5 oC
 rw [HN.out]
 refine Zv ?_
 refine Zy ?_
 refine Fc.nil (D0 0 1 4 5 6 hf ?_)
 clear hf sS bB;intro a7 hf sS
 have hB1:=hB0.but y6w (fun k hk=>by rcases hk with rfl | hk;exact .inl (H0.out _ nR);right;have:=aE k hk;simp only [List.length_cons];omega)
 have r2:=hB1.z6l
 clear hB0 z1r F1
 have fz:=hB1.cT.frozen 2
 refine Zt b7 fun _ b7=> ?_
 have bB:=hf.B9 30 31 32 33 34 35 36 37 38
 iterate 6 refine Zy ?_
 refine fp fun K Z=> ?_
 go_simp
 try rw [if_pos (by omega)]
 apply Z.out;clear Z K
 iterate 3 refine Zy ?_
 refine Fc.nil (D0 0 1 4 5 6 hf ?_)
 clear hf sS bB;intro a7 hf sS
 have wH:=hB1.cut sP
 have tF:n4 (fun k=>k=g) w1 (w1.setCell ⟨g,2,none⟩ (.slice (some ⟨wb,0,none⟩) (rest.length+1) c)):=n4.setCell (S:=fun k=>k=g) rfl _
 have s5q:=hB1.cT.og
 have J2:=tF.heap C5 (fun e=>by have h1:=H0.out _ (Nat.le_refl wr.heap.size);rw [e] at h1;omega)
 have uF:OA (w1.setCell ⟨g,2,none⟩ (.slice (some ⟨wb,0,none⟩) (rest.length+1) c)) base (.slice A o.st.a6.length ca) (less o.st n).a6:=y7 oC tF (fun k hk e=>by subst e;have:=aE k hk;omega)
 have z1o:n4 (fun k=>K9 k≠0/\K9 k≠4) wr (w1.setCell ⟨g,2,none⟩ (.slice (some ⟨wb,0,none⟩) (rest.length+1) c)):=n4.t8o p9 y6w tF (fun k bV h=>by rcases h with (h | h) | h;omega;(have:=aE k h;omega);(subst h;omega))
 simp only [List.length_cons] at wH
 obtain ⟨W2,U1⟩:∃ W2,w1.setCell ⟨g,2,none⟩ (.slice (some ⟨wb,0,none⟩) (rest.length+1) c)=W2:=⟨_,rfl⟩
 rw [U1] at wH z1o uF J2
 try rw [U1]
 have hw2:wr.heap.size<W2.heap.size:=j4 J2
 clear U1 tF hB1 oC C5 y6w r2 fz
 have x1g:∀ k,W2.heap.size<=k->(if (.slice A o.st.a6.length ca:Value).ownBlock=some k then 4 else K9 k)=0:=fun k hk=>by rw [if_neg (fun h=>by have:=(uF.lt k h).2;omega)];exact H0.out k oM
 have sV:∀ k,K9 k≠7+rest.length->(if (.slice A o.st.a6.length ca:Value).ownBlock=some k then 4 else K9 k)=K9 k:=fun k hk=>if_neg (fun h=>hk (aE k h))
 have hB4:=wH.told (Y6:=fun k=>if (.slice A o.st.a6.length ca:Value).ownBlock=some k then 4 else K9 k) (fun k hk=>by rw [sV k (by have:=wH.cT.lo k hk;omega)];exact wH.cT.lo k hk) (fun k _ h1 h2=>sV k (by simp only [List.length_cons] at h2;omega))
 have bA:RA W2 (fun k=>(if (.slice A o.st.a6.length ca:Value).ownBlock=some k then 4 else K9 k)=4) (.slice A o.st.a6.length ca) (less o.st n).a6:=OA.ra uF (fun k hk=>if_pos hk)
 obtain ⟨v7,cJ⟩:∃ f,(fun k=>if (.slice A o.st.a6.length ca:Value).ownBlock=some k then 4 else K9 k)=f:=⟨_,rfl⟩
 replace x1g:∀ k,W2.heap.size<=k->v7 k=0:=fun k hk=>by rw [<- cJ];exact x1g k hk
 replace sV:∀ k,K9 k≠7+rest.length->v7 k=K9 k:=fun k hk=>by rw [<- cJ];exact sV k hk
 rw [cJ] at hB4
 replace bA:RA W2 (fun k=>v7 k=4) (.slice A o.st.a6.length ca) (less o.st n).a6:=by rw [<- cJ];exact bA
 have H4:=H9 x1g;have H5:=H9 sV;clear x1g sV cJ wH
 obtain ⟨wb2,c2,avu,gT,_,w1j,e0,e1,e2,e3,hou,x1f⟩:=hB4.top
 injection gT with gT _ he3
 injection gT with gT
 injection gT with gT
 subst gT;subst he3
 obtain ⟨Au,cu,rfl,hcu⟩:=(OA.ra (B:=fun _=>True) hou (fun _ _=>trivial)).form
 have HAV:=H9 x1f;clear x1f
 have q4:=hB4.z6l
 have g0:=n5 0 J2;have g1:=n5 1 J2;have g2:=n5 2 J2;have g3:=n5 3 J2
 simp at g0 g1 g2 g3
 refine Zt b7 fun _ b7=> ?_
 have bB:=hf.B7 39 40 41 42 43 44 45
 iterate 5 refine Zy ?_
 refine fp fun K Z=> ?_
 go_simp
 try simp (disch:=omega) only [Fc.W]
 try rw [show (rest.length:Int)+1-1=(rest.length:Int) by omega]
 apply Z.out;clear Z K
 iterate 2 refine Zy ?_
 refine Fc.nil (D0 0 1 5 6 7 hf ?_)
 clear hf sS bB;intro a7 hf sS
 refine Zx b7 ?_
 clear q4
 obtain ⟨cells,mZ,hrb,hWC⟩:=hB4.row
 simp only [List.length_cons,Nat.add_zero] at mZ
 have hP0:v7 wr.heap.size=0:=by rw [H5.out _ (by rw [H0.out _ nR];omega)];exact H0.out _ nR
 have HP0:=H9 hP0;have HW4:=H9 w1j;clear hP0 w1j
 have HRB:=H9 hrb;have HWC:=H9 hWC;clear hrb hWC
 have t8k:=hu2
 obtain ⟨s0,s1,s5,s6,s7⟩:=sS
 refine Sm.K1 (n:=67) (SC v7 ((.slice Au up.st.a6.length cu:Value).ownBlock) wb) [14,17,21] (Sb.OkOps.of kR) (fun a8=> ?_)
 refine Sm.xQ (k:=0) s7 hf.size a8.out rfl kR rfl rfl (.inl rfl) kR ?_
 refine Sm.xQ (k:=1) s7 hf.size a8.out rfl kR rfl rfl (.inl rfl) kR ?_
 apply Sm.tq 2 _ hf a8
 . (
 intro a7 w1 hh hd hk K Z
 refine Sb.pl ?_
 have s47:=Sm.v 1 0 hd hk []
 have o5:=Sm.l7 hh [14] [(17,[5,4,3]),(21,[])] kR
 clear hd hh
 go_simp
 exact Sb.k Z)
 apply Sm.tq 3 _ hf a8
 . (
 intro a7 w1 hh hd hk K Z
 refine Sb.pl ?_
 have s48:=Sm.v 2 0 hd hk []
 have o5:=Sm.l7 hh [14] [(17,[5,4]),(21,[])] kR
 clear hd hh
 go_simp
 exact Sb.k Z)
 apply Sm.tq 4 _ hf a8
 . (
 intro a7 w1 hh hd hk K Z
 refine Sb.pl ?_
 have uA:=Sm.v 3 0 hd hk []
 have o5:=Sm.l7 hh [14] [(17,[5]),(21,[])] kR
 clear hd hh
 go_simp
 exact Sb.k Z)
 apply Sm.tq 5 _ hf a8
 . (
 intro a7 w1 hh hd hk K Z
 refine Sb.pl ?_
 have yG:=Sm.v 4 0 hd hk []
 have o5:=Sm.l7 hh [14] [(17,[]),(21,[])] kR
 clear hd hh
 have f0:=(o5 (fun k=>v7 k=1\/v7 k=2\/v7 k=3) (fun m hm b h=>by simp at hm;subst hm;exact h)).cell e0 (fun h=>by have:=HW4.out;have h:v7 wb=1\/v7 wb=2\/v7 wb=3:=h;omega)
 go_simp
 exact Sb.k Z)
 apply Sm.tq 6 _ hf a8
 . (
 intro a7 w1 hh hd hk K Z
 refine Sb.pl ?_
 have s5:=Sm.o hh kR s5
 have o5:=Sm.l7 hh [14] [(17,[16,15,7]),(21,[])] kR
 clear hd hh
 go_simp
 exact Sb.k Z)
 apply Sm.tq 7 _ hf a8
 . (
 intro a7 w1 hh hd hk K Z
 refine Sb.pl ?_
 have s52:=Sm.v 6 0 hd hk []
 have o5:=Sm.l7 hh [14] [(17,[16,15]),(21,[])] kR
 clear hd hh
 have f3:=(o5 (fun k=>v7 k=1\/v7 k=2\/v7 k=3) (fun m hm b h=>by simp at hm;subst hm;exact h)).cell g3 (fun h=>by have:=HP0.out;have h:v7 wr.heap.size=1\/v7 wr.heap.size=2\/v7 wr.heap.size=3:=h;omega)
 go_simp
 exact Sb.k Z)
 refine Sm.xQ (k:=8) s6 hf.size a8.out rfl kR rfl rfl (.inl rfl) kR ?_
 refine Sm.xQ (k:=9) s0 hf.size a8.out rfl kR rfl rfl (.inl rfl) kR ?_
 apply Sm.tq 10 _ hf a8
 . (
 intro a7 w1 hh hd hk K Z
 refine Sb.pl ?_
 have s55:=Sm.v 9 0 hd hk []
 have K6:=Sm.z7 hh [(14,[11]),(17,[14,11]),(21,[])] kR
 have o5:=Sm.l7 hh [] [(14,[11]),(17,[14,11]),(21,[])] kR
 clear hd hh
 go_simp
 exact Sb.k Z)
 apply Sm.tq 11 _ hf a8
 . (
 intro a7 w1 hh hd hk K Z
 refine Sb.pl ?_
 have s56:=Sm.v 10 0 hd hk []
 have K6:=Sm.z7 hh [(14,[]),(17,[14]),(21,[])] kR
 have o5:=Sm.l7 hh [] [(14,[]),(17,[14]),(21,[])] kR
 clear hd hh
 go_simp
 exact Sb.k Z)
 apply Sm.tq 12 _ hf a8
 . (
 intro a7 w1 hh hd hk K Z
 refine Sb.pl ?_
 have s5:=Sm.o hh kR s5
 have K6:=Sm.z7 hh [(14,[13]),(17,[14,13]),(21,[])] kR
 have o5:=Sm.l7 hh [] [(14,[13]),(17,[14,13]),(21,[])] kR
 clear hd hh
 go_simp
 exact Sb.k Z)
 apply Sm.tq 13 _ hf a8
 . (
 intro a7 w1 hh hd hk K Z
 refine Sb.pl ?_
 have s58:=Sm.v 12 0 hd hk []
 have K6:=Sm.z7 hh [(14,[]),(17,[14]),(21,[])] kR
 have o5:=Sm.l7 hh [] [(14,[]),(17,[14]),(21,[])] kR
 clear hd hh
 have f0:=cL K6 g0;have f1:=cL K6 g1;have f2:=cL K6 g2
 go_simp
 exact Sb.k Z)
 refine Sm.K3 (k:=14) (n:=67) (x1j (oE W2 v7 base g (.slice (some ⟨wb,0,none⟩) (rest.length+1) c) mb (finish pD (less o.st n)).1) (finish pD (less o.st n)).2) hf.size a8.out rfl (x1j.u5 (oE.u5 _ _ _ _ _ _ _)) kR ?_ ?_
 . (
 intro a7 w1 hh hd hk K Z
 refine Sb.pl ?_
 have s57:=Sm.v 11 2 hd hk []
 have s59:=Sm.v 13 0 hd hk []
 have K6:=Sm.z7 hh [(17,[]),(21,[])] kR
 have o5:=Sm.l7 hh [] [(17,[]),(21,[])] kR
 clear hd hh
 go_simp
 go_at_call 54;refine (cH w1 (hB4.cT.later K6) (bA.later K6) (y8p hoo oM) oM).mono ?_;rintro e w2 ⟨rfl,M3,oD,hF1,hF2,hF3,hF4⟩
 exact Z.out _ rfl _ _ hF4 ⟨rfl,M3,oD,fun k bV=>hF1 k (by have:=K6.size;omega),fun k bV=>by rcases Nat.lt_or_ge k w1.heap.size with h | h;(exact .inl ((hF1 k h).trans (H4.out k bV)));exact .inr (hF2 k h),hF3⟩)
 apply Sm.tq 15 _ hf a8
 . (
 intro a7 w1 hh hd hk K Z
 refine Sb.pl ?_
 have s53:=Sm.v 7 7 hd hk []
 have s54:=Sm.v 8 6 hd hk []
 obtain ⟨x60,s60,w3l⟩:=Sm.use (j:=14) (m:=0) hd hk rfl [] kR [(17,true,[16]),(21,true,[])] kR rfl rfl rfl
 obtain ⟨rfl,t3j⟩:=w3l
 have o5:=Sm.l7 hh [14] [(17,[16]),(21,[])] kR
 clear hd hh
 go_simp
 exact Sb.k Z)
 refine Sm.E8 (k:=16) (n:=67) (nV [.int .u8 o.cN,.int .u64 n,.int .i64 ((finish pD (less o.st n)).2:Nat)]) hf.size a8.out rfl (nV.u5 _) kR ?_ ?_
 . (
 intro a7 w1 hh hd hk K Z
 refine Sb.pl ?_
 have s61:=Sm.v 15 0 hd hk []
 have o5:=Sm.l7 hh [14] [(17,[]),(21,[])] kR
 clear hd hh
 go_simp
 exact Z.out _ rfl _ _ ((Below.refl _ _).alloc nR _) ⟨_,rfl,E7 _ _ _⟩)
 refine Sm.K3 (k:=17) (n:=67) (x1i (oE W2 v7 base g (.slice (some ⟨wb,0,none⟩) (rest.length+1) c) mb (finish pD (less o.st n)).1) W2 base (.slice Au up.st.a6.length cu) up.st.a6.length (nG up.st.a6++[.int .u8 o.cN,.int .u64 n,.int .i64 ((finish pD (less o.st n)).2:Nat)])) hf.size a8.out rfl (x1i.u5 (oE.u5 _ _ _ _ _ _ _) _ _ _ _ _) kR ?_ ?_
 . (
 intro a7 w1 hh hd hk K Z
 refine Sb.pl ?_
 have pS:=Sm.v 5 11 hd hk []
 obtain ⟨x62,s62,t8j⟩:=Sm.use (j:=16) (m:=0) hd hk rfl [] kR [(14,false,[15]),(21,true,[])] kR rfl rfl rfl
 obtain ⟨b62,rfl,t8i⟩:=t8j
 obtain ⟨_,t8h⟩:=Sm.bY (j:=14) (m:=2) hd hk rfl [] kR [(21,true,[])] kR rfl
 have o5:=Sm.l7 hh [14] [(21,[])] kR
 clear hd hh
 have qW:=(o5 (fun k=>v7 k=1\/v7 k=2\/v7 k=3) (fun m hm b h=>by simp at hm;subst hm;exact h))
 have S5:=y7 hou qW (fun k S3 h=>by have:=HAV.out k S3;have h:v7 k=1\/v7 k=2\/v7 k=3:=h;omega)
 refine J7 _ _ 44 rfl 71 _ 3 24 Tryz.underlying44 y6e rfl dC dC base (.slice Au up.st.a6.length cu) up.st.a6.length (nG up.st.a6) (Fc.k7 pS) S5 b62 _ (Fc.k7 s62) rfl t8i (by intro u hu;simp at hu;rcases hu with rfl | rfl | rfl<;>rfl) (by have:=t8k.uG;omega) (by have:=qW.size;omega) (fun v2 w2 oP tK iM=> ?_)
 have t8g:=qW.size
 exact Z.out _ rfl _ _ (n4.grown tK (fun k S3=>S3)) ⟨t8h.2.but (n4.grown (S:=fun k=>(.slice Au up.st.a6.length cu:Value).ownBlock=some k) tK (fun k S3=>S3)) (fun k S3=>by have:=HAV.out k S3;have:=(hou.lt k S3).2;exact ⟨this,oM⟩),oP,iM.imp id (fun h=>⟨_,h,t8g⟩)⟩)
 apply Sm.tq 18 _ hf a8
 . (
 intro a7 w1 hh hd hk K Z
 refine Sb.pl ?_
 have s46:=Sm.v 0 17 hd hk []
 have o5:=Sm.l7 hh [14,17] [(21,[20,19])] kR
 clear hd hh
 go_simp
 exact Sb.k Z)
 apply Sm.tq 19 _ hf a8
 . (
 intro a7 w1 hh hd hk K Z
 refine Sb.pl ?_
 have s64:=Sm.v 18 0 hd hk []
 have o5:=Sm.l7 hh [14,17] [(21,[20])] kR
 clear hd hh
 go_simp
 exact Sb.k Z)
 apply Sm.tq 20 _ hf a8
 . (
 intro a7 w1 hh hd hk K Z
 refine Sb.pl ?_
 have s65:=Sm.v 19 0 hd hk []
 have o5:=Sm.l7 hh [14,17] [(21,[])] kR
 clear hd hh
 go_simp
 exact Sb.k Z)
 refine Sm.K3 (k:=21) (n:=67) (x1h (oE W2 v7 base g (.slice (some ⟨wb,0,none⟩) (rest.length+1) c) mb (finish pD (less o.st n)).1) W2 base (.slice Au up.st.a6.length cu) up.st.a6.length (nG up.st.a6++[.int .u8 o.cN,.int .u64 n,.int .i64 ((finish pD (less o.st n)).2:Nat)]) (.slice (some ⟨wb,0,none⟩) (rest.length+1) c) (rest.length+1) cells (rest.length*4)) hf.size a8.out rfl (x1h.u5 (oE.u5 _ _ _ _ _ _ _) _ _ _ _ _ _ _ _ _) kR ?_ ?_
 . (
 intro a7 w1 hh hd hk K Z
 refine Sb.pl ?_
 have s66:=Sm.v 20 0 hd hk []
 obtain ⟨x63,s63,t8f⟩:=Sm.use (j:=17) (m:=3) hd hk rfl [] kR [(14,false,[])] kR rfl rfl rfl
 obtain ⟨v0p,v0o,v0n⟩:=t8f
 have o5:=Sm.l7 hh [14,17] [] kR
 clear hd hh
 have qW:=(o5 (fun k=>(v7 k=1\/v7 k=2\/v7 k=3)\/(.slice Au up.st.a6.length cu:Value).ownBlock=some k) (fun m hm b h=>by simp at hm;rcases hm with rfl | rfl;exact .inl h;exact .inr h))
 have wW:=y7 mZ qW (fun k S3 h=>by have h1:=HRB.out k S3;rcases h with h | h;(have h:v7 k=1\/v7 k=2\/v7 k=3:=h;omega);(have:=HAV.out k h;omega))
 have f0:=qW.cell e0 (fun h=>by have h1:=HW4.out;rcases h with h | h;(have h:v7 wb=1\/v7 wb=2\/v7 wb=3:=h;omega);(have:=HAV.out wb h;omega))
 have fzz:=wW.frozenAt (rest.length*4)
 obtain ⟨A2,c2,hv2,_⟩:=A1 v0o
 subst hv2
 go_simp
 refine Z.out _ rfl undef _ (n4.setCell (S:=fun k=>k=wb) rfl _) ⟨_,v0p.but (n4.setCell (S:=fun k=>k=wb) rfl _) (fun k S3=>by subst S3;have:=HW4.out;exact ⟨C8 e0,oM⟩),y7 v0o (n4.setCell (S:=fun k=>k=wb) rfl _) (fun k S3 e=> ?_),v0n,(wW.stored _ _).1⟩;subst e;rcases v0n with h | ⟨k2,h,M5⟩;(rw [S3] at h;have:=HAV.out _ h.symm;have:=HW4.out;omega);(rw [S3] at h;injection h with h;have:=C8 e0;have:k<W2.heap.size:=this;omega))
 refine Sm.K2 (n:=67) kR hf.size a8.out rfl (fun a7 w1 hh hg=> ?_)
 replace s0:=Sm.o hh kR s0
 replace s1:=Sm.o hh kR s1
 obtain ⟨_,U8⟩:=Sm.T0 (j:=21) (m:=0) hg rfl dC [(14,[]),(17,[])] kR rfl
 have u3:=hh.fr hf
 have o5:=hh.but
 clear hg hh hf a8 s5 s6 s7
 have hf:=u3;clear u3
 refine Fc.j7 (Fc.j6 ?_)
 obtain ⟨v2,⟨M3,oD,hA1,hA2,z1p⟩,S5,nH,wW⟩:=U8
 replace o5:=o5 _ (fun m hm b h=>SC.all hm h)
 have hn:=HN.out
 subst hn
 have hvn:∀ k,k<W2.heap.size->v7 k≠6+rest.length->v2.ownBlock≠some k:=fun k bV M5 h=>by rcases nH with h3 | ⟨k3,h3,zR⟩;(rw [h] at h3;exact M5 (HAV.out k h3.symm));(rw [h] at h3;injection h3 with h3;omega)
 have hk5:∀ k,k<w.heap.size->(own k=0\/own k=4)->K9 k=own k/\v7 k=own k:=fun k bV M5=>by have h1:=hkp k bV M5;have h2:=H1.out k (by have:=G5.size;omega);have h3:K9 k=own k:=h2.trans h1;exact ⟨h3,(H5.out k oM).trans h3⟩
 refine ⟨_,?_,_,oD,_,_,_,rest,rfl,hf,s0,s1,aU.closed (avu:= .slice Au up.st.a6.length cu) (a:=⟨o.cN,leastOf o.st,((finish pD (less o.st (leastOf o.st))).2:Nat)⟩) hB4 hA1 hA2 z1p S5 nH (fun k bV=>⟨HAV.out k bV,(hou.lt k bV).2⟩) mZ HW4.out HWC.out wW o5,HCL.out,t8m,fun k bV M5=> ?_,⟨?_,?_,?_,?_,?_⟩⟩
 . (
 have:=HK.out;omega)
 . (
 have h1:=hk5 k bV M5;have h2:=G5.size;simp only;rw [if_neg (hvn k oM oM),hA1 k oM];exact h1.2)
 . (
 exact o5.os.trans (z1o.os.trans G5.os))
 . (
 exact o5.tape.trans (z1o.tape.trans G5.tape))
 . (
 exact o5.output.trans (z1o.output.trans G5.output))
 . (
 exact Nat.le_trans G5.size (Nat.le_trans z1o.size o5.size))
 . (
 intro k bV M5;have h0:own k=0\/own k=4:=(by omega);have h1:=hk5 k bV h0;have h2:=G5.size;have h3:=z1o.size;rw [o5.block k oM (fun h=>by rcases h with h | h | h;omega;(have:=HAV.out k h;omega);(subst h;have:=HW4.out;omega)),z1o.block k oM (fun h=>oM),G5.block k bV M5]))
 . (
 have hle:R0.length<=d:=qF
 refine Zo ?_
 have N5:=HCL.out
 rw [sR sO] at N5
 refine Fc.pZ rfl hf ⟨rfl,aD,zV,.slice (some ⟨wb,0,none⟩) (R0.length+1) c,?_,hkp,G5⟩
 rw [<- N5]
 exact sU))
theorem x8e (e:z6) (he:gM e) (hg:e.gone=true) (w:World):Calls Tryz.prog 89 #[eval e] w fun e1 w1=>e1= .returned (.int .u64 (M9 e:Nat))/\Below w.heap.size w w1:=by
 refine S8 9 Tryz.func89 fun fr hf s0=> ?_
 simp only [eval] at s0
 have HG:=H9 hg;clear hg
 have hw1:=he.1;have hw2:=he.2
 refine Ze fun _ b7=>Zr [] hf ?_
 refine r6 1 hf ?_
 clear hf s0;intro a7 hf s1
 generalize p8:w.alloc (.cells #[.string e.word,.int .u32 e.weight,.bool e.gone] 64)=W0
 obtain ⟨p9, -,c1,c2, -, -⟩:=G1 p8
 clear p8
 refine Zs b7 fun _ b7=>Ze fun _ j8=>Zr [3] hf ?_
 refine C1 1 4 hf ?_
 clear hf s1;intro a7 hf sS
 refine Zx j8 ?_
 obtain ⟨s1,s4⟩:=sS
 rw [HG.out] at s4
 refine Fc.l8 s4 ?_
 refine Ze fun _ j8=>Zr [] hf ?_
 refine r6 2 hf ?_
 clear hf s1 s4;intro a7 hf s2
 refine Zx j8 (k8 ?_)
 exact Fc.o9 rfl hf s2 ⟨by simp [M9,HG.out],p9⟩
theorem x8d (e:z6) (he:gM e) (hg:e.gone=false) (w:World):Calls Tryz.prog 89 #[eval e] w fun e1 w1=>e1= .returned (.int .u64 (M9 e:Nat))/\Below w.heap.size w w1:=by
 refine S8 9 Tryz.func89 fun fr hf s0=> ?_
 simp only [eval] at s0
 have HG:=H9 hg;clear hg
 have hw1:=he.1;have hw2:=he.2
 refine Ze fun _ b7=>Zr [] hf ?_
 refine r6 1 hf ?_
 clear hf s0;intro a7 hf s1
 generalize p8:w.alloc (.cells #[.string e.word,.int .u32 e.weight,.bool e.gone] 64)=W0
 obtain ⟨p9, -,c1,c2, -, -⟩:=G1 p8
 clear p8
 refine Zs b7 fun _ b7=>Ze fun _ j8=>Zr [3] hf ?_
 refine C1 1 4 hf ?_
 clear hf s1;intro a7 hf sS
 refine Zx j8 ?_
 obtain ⟨s1,s4⟩:=sS
 rw [HG.out] at s4
 refine Fc.k9 s4 ?_
 refine wp_skip (Zt b7 fun _ b7=> ?_)
 have bB:=hf.B4 5 6 7 8
 iterate 2 refine Zy ?_
 refine fp fun K Z=> ?_
 go_simp
 try simp (disch:=omega) only [Fc.wrap_u64]
 apply Z.out;clear Z K
 refine fp fun K Z=> ?_
 go_simp
 try simp (disch:=omega) only [Fc.W]
 try simp (disch:=omega) only [Fc.wrap_u64]
 rw [show e.weight+1=((M9 e:Nat):Int) by simp only [M9,HG.out];simp;omega]
 apply Z.out;clear Z K
 refine Zy ?_
 refine Fc.nil (r6 2 hf ?_)
 clear hf s1 s4 bB;intro a7 hf s2
 refine Zx b7 (k8 ?_)
 exact Fc.o9 rfl hf s2 ⟨rfl,p9⟩
theorem x1e (e:z6) (he:gM e) (w:World):Calls Tryz.prog 89 #[eval e] w fun e1 w1=>e1= .returned (.int .u64 (M9 e:Nat))/\Below w.heap.size w w1:=by
 cases hg:e.gone with
 | true=>exact x8e e he hg w
 | false=>exact x8d e he hg w
theorem w1i (a b:ByteArray) (i:Nat) (h1:i<=a.size) (h2:i<=b.size):i=a.size\/(i<a.size/\i=b.size)\/(i<a.size/\i<b.size/\at_ a i≠at_ b i)\/(i<a.size/\i<b.size/\at_ a i=at_ b i):=oM
def SA (vb:Option Nat) (g:Nat):Nat->Nat->Prop
 | 11,k=>vb=some k
 | _,k=>k=g
theorem SA.all {vb:Option Nat} {g m b:Nat} (hm:m∈[11,14]) (h:SA vb g m b):vb=some b\/b=g:=by
 simp at hm
 rcases hm with rfl | rfl
 ·exact .inl h
 ·exact .inr h
def y8m (w4:World) (base g:Nat) (sv:Value) (mb:Nat) (wv:Value) (n:Nat) (cells:List Value):Sb.Pr:=fun v w=>w.ownsRow base 126 4 v n cells/\(v.ownBlock=wv.ownBlock\/∃ k,v.ownBlock=some k/\w4.heap.size<=k)/\w.heap[g]? =some (.cells (sv:: .map (some mb)::[wv]).toArray 123 (0,0))
theorem y8m.u5 (w4:World) (base g:Nat) (sv:Value) (mb:Nat) (wv:Value) (n:Nat) (cells:List Value):Sb.Stable (y8m w4 base g sv mb wv n cells):=fun v w w' hb ⟨h1,h2,h3⟩=>⟨l5 h1 hb,h2,(hb.block g (j4 h3)).trans h3⟩
def y8l (w4:World) (base g:Nat) (sv:Value) (mb:Nat) (wv:Value) (n:Nat) (cells:List Value):Sb.Pr:=fun _ w=>∃ v,w.ownsRow base 126 4 v n cells/\(v.ownBlock=wv.ownBlock\/∃ k,v.ownBlock=some k/\w4.heap.size<=k)/\w.heap[g]? =some (.cells (sv:: .map (some mb)::[v]).toArray 123 (0,0))
theorem y8l.u5 (w4:World) (base g:Nat) (sv:Value) (mb:Nat) (wv:Value) (n:Nat) (cells:List Value):Sb.Stable (y8l w4 base g sv mb wv n cells):=fun _ w w' hb ⟨v,h1,h2,h3⟩=>⟨v,l5 h1 hb,h2,(hb.block g (j4 h3)).trans h3⟩
theorem z6g (ss:List State) (o6:List Open) (d:Nat) (h:o6≠[]):(close ss o6 d).2≠[]:=by
 by_cases hd:d<o6.length
 ·have:=Z6 ss o6 d hd
  intro e
  rw [e] at this
  simp at this
 ·rw [sR oM];exact h
theorem v0m (w:World) {base g mb N M:Nat} {own:Nat->Nat} {sv wv:Value} {ss:List State} {o6:List Open} (last:ByteArray) (e:z6) (hB:aU w base own g sv mb ss wv 0 o6) (E6:o6≠[]) (tL:fD N M ss o6) (hM:M+e.word.size<=1000000) (hN:N<=200) (he:gM e) (hl:last.size<=1000000):Calls Tryz.prog 51 #[.pointer (some ⟨g,0,none⟩),.string last,eval e] w fun e1 w1=>e1= .returned (.tuple #[])/\∃ Y6 sv' wv',aU w1 base Y6 g sv' mb (add (ss,o6) (wl last) (Y1 e)).1 wv' 0 (add (ss,o6) (wl last) (Y1 e)).2/\z6i w own Y6/\n4 (fun k=>own k≠0/\own k≠4) w w1:=by
 refine lM 78 Tryz.func51 fun fr hf s0 s1 s2=> ?_
 simp only [eval] at s2
 obtain ⟨K9,gY⟩:∃ f,(fun k=>if k<w.heap.size then own k else 0)=f:=⟨_,rfl⟩
 have z6h:∀ k,w.heap.size<=k->K9 k=0:=fun k hk=>by rw [<- gY];exact if_neg (by omega)
 have aS:∀ k,k<w.heap.size->K9 k=own k:=fun k hk=>by rw [<- gY];exact if_pos hk
 have bJ:=hB.cT.aC
 have hBs:=hB.told (Y6:=K9) (fun k hk=>by rw [aS k oM];exact hB.cT.lo k hk) (fun k hk _ _=>aS k hk)
 have H0:=H9 z6h;have H1:=H9 aS;clear z6h aS gY hB
 refine Ze fun _ b7=>Zr [] hf ?_
 refine B1 0 1 5 hf ?_
 clear hf s0 s1 s2;intro a7 hf sS
 generalize p8:w.alloc (.cells #[.string e.word,.int .u32 e.weight,.bool e.gone] 64)=W0
 obtain ⟨p9,c0, -, -,F1,T1⟩:=G1 p8
 clear p8
 have gE:w.heap.size<W0.heap.size:=by rw [T1];exact Nat.lt_succ_self _
 clear T1
 have hB0:=hBs.later p9
 clear hBs
 refine Zs b7 fun _ b7=>Zr [] hf ?_
 refine C0 0 1 5 6 hf ?_
 clear hf sS;intro a7 hf sS
 refine Zx b7 ?_
 have t8e:∀ (i:Nat) (h:i<last.size),last[i].toNat=at_ last i:=fun i h=>(iE h).symm
 have v6p:∀ (i:Nat) (h:i<e.word.size),e.word[i].toNat=at_ e.word i:=fun i h=>(iE h).symm
 refine Fc.L1 (fun fr wr=>Fc.Fr 78 fr/\fr.tmps[0]? =some (.pointer (some ⟨g,0,none⟩))/\fr.tmps[5]? =some (.pointer (some ⟨w.heap.size,0,none⟩))/\fr.tmps[6]? =some (.int .i64 ((shared (wl last) (wl e.word):Nat):Int))/\Below W0.heap.size W0 wr) ?_ ?_
 . (
 refine wp_block (wp_loop_ghost (fun gk fr wr=>∃ (i:Nat),gk=last.size-i/\i<=last.size/\i<=e.word.size/\Fc.Fr 78 fr/\fr.tmps[0]? =some (.pointer (some ⟨g,0,none⟩))/\fr.tmps[1]? =some (.string last)/\fr.tmps[5]? =some (.pointer (some ⟨w.heap.size,0,none⟩))/\fr.tmps[6]? =some (.int .i64 i)/\shared (wl last) (wl e.word)=shared ((wl last).drop i) ((wl e.word).drop i)+i/\Below W0.heap.size W0 wr) (last.size) ?_ ?_)
 . (
 obtain ⟨s0,s1,s5,s6⟩:=sS
 exact ⟨0,rfl,Nat.zero_le _,Nat.zero_le _,hf,s0,s1,s5,s6,rfl,Below.refl _ _⟩)
 . (
 clear hf sS
 rintro gk fr wr ⟨i,hk,hi1,hi2,hf,s0,s1,s5,s6,hsh,hb⟩
 have HK:=H9 hk;have HSH:=H9 hsh;clear hk hsh
 have x0:=cL hb c0
 rcases w1i last e.word i hi1 hi2 with hc | ⟨zS,hc2⟩ | ⟨zS,hc2,hc3⟩ | ⟨zS,hc2,hc3⟩
 . (
 have q1:decide (i<last.size)=false:=decide_eq_false oM
 have HC:=H9 hc;clear hc
 refine Ze fun _ b7=>Ze fun _ j8=>Sb.tb 78 fun a8=> ?_
 refine Sb.mO 0 s6 hf a8 ?_
 refine Sb.mO 1 s1 hf a8 ?_
 refine Sb.T 2 hf a8 ?_ (hF:=fun _ _ h d=>cL h.ext x0)
 refine Sb.T 3 hf a8 ?_
 refine Sb.mN 4 3 0 hf a8 [] ?_
 refine Sb.Tk 5 hf a8 ?_
 refine Sb.Tk 6 hf a8 ?_
 refine Sb.Tk 7 hf a8 ?_
 refine Sb.Tk 8 hf a8 ?_
 refine Sb.Tk 9 hf a8 ?_
 refine Sb.T 10 hf a8 ?_
 refine Sb.mN 11 10 0 hf a8 [] ?_
 refine Sb.Tk 12 hf a8 ?_
 refine Sb.Tk 13 hf a8 ?_
 refine Sb.Tk 14 hf a8 ?_
 refine Sb.Tk 15 hf a8 ?_
 refine Sb.Tk 16 hf a8 ?_
 refine Sb.Tk 17 hf a8 ?_
 refine Sb.Tk 18 hf a8 ?_
 refine Sb.Tk 19 hf a8 ?_
 refine Sb.T 20 hf a8 ?_
 refine Sb.E hf a8 (fun _ _ h g=>ad (Sb.O h s0) (ad (Sb.O h s1) (ad (Sb.O h s5) (ad (Sb.O h s6) (Sb.f 20 0 g))))) ?_
 clear hf a8 s0 s1 s5 s6;intro a7 w1 hf hx sS
 replace x0:=cL hx x0
 refine Zx j8 (Fc.k9 sS.2.2.2.2 ?_)
 have T2:=hb.trans (hx.mono hb.size)
 have hsd:shared (wl last) (wl e.word)=i:=by rw [HSH.out,qC (.inl (List.drop_eq_nil_of_le (by rw [l9];have:=HC.out;omega)))];omega
 have HSD:=H9 hsd;clear hsd
 refine Zo ?_
 refine Fc.j6 ?_
 obtain ⟨s0,s1,s5,s6,bG⟩:=sS
 exact ⟨hf,s0,s5,by rw [HSD.out];exact s6,T2⟩)
 . (
 have q1:decide (i<last.size)=true:=decide_eq_true oM
 have q2:decide (i<e.word.size)=false:=decide_eq_false oM
 have HC2:=H9 hc2;clear hc2
 refine Ze fun _ b7=>Ze fun _ j8=>Sb.tb 78 fun a8=> ?_
 refine Sb.mO 0 s6 hf a8 ?_
 refine Sb.mO 1 s1 hf a8 ?_
 refine Sb.T 2 hf a8 ?_ (hF:=fun _ _ h d=>cL h.ext x0)
 refine Sb.T 3 hf a8 ?_
 refine Sb.mN 4 3 0 hf a8 [] ?_
 refine Sb.Tg 5 hf a8 ?_ (hF:=fun _ _ h d=>Sb.O h s6)
 refine Sb.Tg 6 hf a8 ?_ (hF:=fun _ _ h d=>Sb.O h s5)
 refine Sb.Tg 7 hf a8 ?_ (hF:=fun _ _ h d=>cL h.ext x0)
 refine Sb.Tg 8 hf a8 ?_ (hF:=fun _ _ h d=>cL h.ext x0)
 refine Sb.Tg 9 hf a8 ?_
 refine Sb.T 10 hf a8 ?_
 refine Sb.mN 11 10 0 hf a8 [] ?_
 refine Sb.Tk 12 hf a8 ?_
 refine Sb.Tk 13 hf a8 ?_
 refine Sb.Tk 14 hf a8 ?_
 refine Sb.Tk 15 hf a8 ?_
 refine Sb.Tk 16 hf a8 ?_
 refine Sb.Tk 17 hf a8 ?_
 refine Sb.Tk 18 hf a8 ?_
 refine Sb.Tk 19 hf a8 ?_
 refine Sb.T 20 hf a8 ?_
 refine Sb.E hf a8 (fun _ _ h g=>ad (Sb.O h s0) (ad (Sb.O h s1) (ad (Sb.O h s5) (ad (Sb.O h s6) (Sb.f 20 0 g))))) ?_
 clear hf a8 s0 s1 s5 s6;intro a7 w1 hf hx sS
 replace x0:=cL hx x0
 refine Zx j8 (Fc.k9 sS.2.2.2.2 ?_)
 have T2:=hb.trans (hx.mono hb.size)
 have hsd:shared (wl last) (wl e.word)=i:=by rw [HSH.out,qC (.inr (List.drop_eq_nil_of_le (by rw [l9];have:=HC2.out;omega)))];omega
 have HSD:=H9 hsd;clear hsd
 refine Zo ?_
 refine Fc.j6 ?_
 obtain ⟨s0,s1,s5,s6,bG⟩:=sS
 exact ⟨hf,s0,s5,by rw [HSD.out];exact s6,T2⟩)
 . (
 have q1:decide (i<last.size)=true:=decide_eq_true oM
 have q2:decide (i<e.word.size)=true:=decide_eq_true oM
 have HC3:=H9 hc3;clear hc3;have q3:(((at_ last i:Nat):Int)==((at_ e.word i:Nat):Int))=false:=by have:=HC3.out;simp;omega
 refine Ze fun _ b7=>Ze fun _ j8=>Sb.tb 78 fun a8=> ?_
 refine Sb.mO 0 s6 hf a8 ?_
 refine Sb.mO 1 s1 hf a8 ?_
 refine Sb.T 2 hf a8 ?_ (hF:=fun _ _ h d=>cL h.ext x0)
 refine Sb.T 3 hf a8 ?_
 refine Sb.mN 4 3 0 hf a8 [] ?_
 refine Sb.Tg 5 hf a8 ?_ (hF:=fun _ _ h d=>Sb.O h s6)
 refine Sb.Tg 6 hf a8 ?_ (hF:=fun _ _ h d=>Sb.O h s5)
 refine Sb.Tg 7 hf a8 ?_ (hF:=fun _ _ h d=>cL h.ext x0)
 refine Sb.Tg 8 hf a8 ?_ (hF:=fun _ _ h d=>cL h.ext x0)
 refine Sb.Tg 9 hf a8 ?_
 refine Sb.T 10 hf a8 ?_
 refine Sb.mN 11 10 0 hf a8 [] ?_
 refine Sb.Tg 12 hf a8 ?_ (hF:=fun _ _ h d=>Sb.O h s1)
 refine Sb.Tg 13 hf a8 ?_ (hF:=fun _ _ h d=>Sb.O h s6)
 apply Sb.tr 14 _ hf a8
 . (
 intro a7 w1 hh hd hk K Z
 have M6:=Sb.v 11 2 hd hk []
 refine Sb.g M6 ?_
 have N6:=Sb.v 12 1 hd hk []
 have U9:=Sb.v 13 0 hd hk []
 clear hd
 replace x0:=cL hh.ext x0
 go_simp
 try rw [if_pos (by omega)]
 exact Sb.k Z)
 refine Sb.Tg 15 hf a8 ?_ (hF:=fun _ _ h d=>Sb.O h s5)
 refine Sb.Tg 16 hf a8 ?_ (hF:=fun _ _ h d=>cL h.ext x0)
 refine Sb.Tg 17 hf a8 ?_ (hF:=fun _ _ h d=>Sb.O h s6)
 apply Sb.tr 18 _ hf a8
 . (
 intro a7 w1 hh hd hk K Z
 have M6:=Sb.v 11 6 hd hk []
 refine Sb.g M6 ?_
 have bQ:=Sb.v 16 1 hd hk []
 have Z1:=Sb.v 17 0 hd hk []
 clear hd
 replace x0:=cL hh.ext x0
 go_simp
 try rw [if_pos (by omega)]
 exact Sb.k Z)
 refine Sb.Tg 19 hf a8 ?_
 refine Sb.T 20 hf a8 ?_
 refine Sb.E hf a8 (fun _ _ h g=>ad (Sb.O h s0) (ad (Sb.O h s1) (ad (Sb.O h s5) (ad (Sb.O h s6) (Sb.f 20 0 g))))) ?_
 clear hf a8 s0 s1 s5 s6;intro a7 w1 hf hx sS
 replace x0:=cL hx x0
 refine Zx j8 (Fc.k9 sS.2.2.2.2 ?_)
 have T2:=hb.trans (hx.mono hb.size)
 have hsd:shared (wl last) (wl e.word)=i:=by rw [HSH.out,z9b (dQ zS) (dQ hc2) HC3.out];omega
 have HSD:=H9 hsd;clear hsd
 refine Zo ?_
 refine Fc.j6 ?_
 obtain ⟨s0,s1,s5,s6,bG⟩:=sS
 exact ⟨hf,s0,s5,by rw [HSD.out];exact s6,T2⟩)
 . (
 have q1:decide (i<last.size)=true:=decide_eq_true oM
 have q2:decide (i<e.word.size)=true:=decide_eq_true oM
 have HC3:=H9 hc3;clear hc3;have q3:(((at_ last i:Nat):Int)==((at_ e.word i:Nat):Int))=true:=by rw [HC3.out];simp
 refine Ze fun _ b7=>Ze fun _ j8=>Sb.tb 78 fun a8=> ?_
 refine Sb.mO 0 s6 hf a8 ?_
 refine Sb.mO 1 s1 hf a8 ?_
 refine Sb.T 2 hf a8 ?_ (hF:=fun _ _ h d=>cL h.ext x0)
 refine Sb.T 3 hf a8 ?_
 refine Sb.mN 4 3 0 hf a8 [] ?_
 refine Sb.Tg 5 hf a8 ?_ (hF:=fun _ _ h d=>Sb.O h s6)
 refine Sb.Tg 6 hf a8 ?_ (hF:=fun _ _ h d=>Sb.O h s5)
 refine Sb.Tg 7 hf a8 ?_ (hF:=fun _ _ h d=>cL h.ext x0)
 refine Sb.Tg 8 hf a8 ?_ (hF:=fun _ _ h d=>cL h.ext x0)
 refine Sb.Tg 9 hf a8 ?_
 refine Sb.T 10 hf a8 ?_
 refine Sb.mN 11 10 0 hf a8 [] ?_
 refine Sb.Tg 12 hf a8 ?_ (hF:=fun _ _ h d=>Sb.O h s1)
 refine Sb.Tg 13 hf a8 ?_ (hF:=fun _ _ h d=>Sb.O h s6)
 apply Sb.tr 14 _ hf a8
 . (
 intro a7 w1 hh hd hk K Z
 have M6:=Sb.v 11 2 hd hk []
 refine Sb.g M6 ?_
 have N6:=Sb.v 12 1 hd hk []
 have U9:=Sb.v 13 0 hd hk []
 clear hd
 replace x0:=cL hh.ext x0
 go_simp
 try rw [if_pos (by omega)]
 exact Sb.k Z)
 refine Sb.Tg 15 hf a8 ?_ (hF:=fun _ _ h d=>Sb.O h s5)
 refine Sb.Tg 16 hf a8 ?_ (hF:=fun _ _ h d=>cL h.ext x0)
 refine Sb.Tg 17 hf a8 ?_ (hF:=fun _ _ h d=>Sb.O h s6)
 apply Sb.tr 18 _ hf a8
 . (
 intro a7 w1 hh hd hk K Z
 have M6:=Sb.v 11 6 hd hk []
 refine Sb.g M6 ?_
 have bQ:=Sb.v 16 1 hd hk []
 have Z1:=Sb.v 17 0 hd hk []
 clear hd
 replace x0:=cL hh.ext x0
 go_simp
 try rw [if_pos (by omega)]
 exact Sb.k Z)
 refine Sb.Tg 19 hf a8 ?_
 refine Sb.T 20 hf a8 ?_
 refine Sb.E hf a8 (fun _ _ h g=>ad (Sb.O h s0) (ad (Sb.O h s1) (ad (Sb.O h s5) (ad (Sb.O h s6) (Sb.f 20 0 g))))) ?_
 clear hf a8 s0 s1 s5 s6;intro a7 w1 hf hx sS
 replace x0:=cL hx x0
 refine Zx j8 (Fc.l8 sS.2.2.2.2 ?_)
 have T2:=hb.trans (hx.mono hb.size)
 have hsd:shared (wl last) (wl e.word)=shared ((wl last).drop (i+1)) ((wl e.word).drop (i+1))+(i+1):=by rw [HSH.out,z9c (dQ zS) (by rw [HC3.out];exact dQ hc2)];omega
 have HSD:=H9 hsd;clear hsd
 refine wp_skip (Zx b7 (wp_block (Zr [30,31] hf ?_)))
 refine C0 0 1 5 6 hf ?_
 clear hf sS;intro a7 hf sS
 refine Fc.j7 (Fc.j6 ?_)
 obtain ⟨s0,s1,s5,s6⟩:=sS
 exact ⟨_,by have:=HK.out;omega,i+1,rfl,oM,oM,hf,s0,s1,s5,by rw [s6];rfl,HSD.out,T2⟩)))
 . (
 clear hf sS
 rintro fr wd ⟨hf,s0,s5,s6,x1d⟩
 obtain ⟨d,hd⟩:∃ d,shared (wl last) (wl e.word)=d:=⟨_,rfl⟩
 have hd1:d<=e.word.size:=by rw [<- hd, <- l9];exact uT _ _
 rw [hd] at s6
 have HD:=H9 hd;clear hd t8e
 have hBd:=hB0.later x1d
 have hpd:=(x1d.block _ (j4 F1)).trans F1
 have v0k:K9 w.heap.size=0:=H0.out _ nR
 have HP:=H9 v0k;clear v0k F1 c0 hB0
 refine Ze fun _ b7=>rg ?_
 have bB:=hf.B2 32 33
 iterate 2 refine Zy ?_
 refine Zc (y8o wd d hBd E6 tL.bnd oM hN oM) ?_;rintro e w2 ⟨rfl,x8b,sv2,wv2,wH,M5,r9⟩
 refine Zv ?_
 refine Fc.nil (B1 0 5 6 hf ?_)
 clear hf s0 s5 s6 bB;intro a7 hf sS
 have J2:=r9.heap hpd (fun h=>h.1 HP.out)
 have h2p:x8b w.heap.size=0:=(M5 _ (j4 hpd) (.inl HP.out)).trans HP.out
 have H2P:=H9 h2p;clear h2p
 have hU:=(Bnd.closeN oM hN (o6.length-(d+1)) ss o6 tL.bnd).all
 have hU2:fD (N+1) M (close ss o6 d).1 (close ss o6 d).2:=hU
 clear hU hBd hpd
 have x6a:=z6g ss o6 d E6
 obtain ⟨ss2,w1g⟩:∃ x,(close ss o6 d).1=x:=⟨_,rfl⟩
 obtain ⟨wy2,w1f⟩:∃ x,(close ss o6 d).2=x:=⟨_,rfl⟩
 rw [w1g] at wH hU2;rw [w1f] at wH hU2 x6a
 have HS2:=H9 w1g;have HY2:=H9 w1f;clear w1g w1f
 refine Zs b7 fun _ b7=>Ze fun _ j8=>Zr [35] hf ?_
 refine B1 0 5 7 hf ?_
 clear hf sS;intro a7 hf sS
 refine Zx j8 (wp_block ?_)
 have t8c:n4 (fun k=>own k≠0/\own k≠4) w w2:=n4.via (S:=fun _=>False) (p9.trans (x1d.mono p9.size)) (n4.refl _ _) r9 (fun k hk h=>by have:=H1.out k hk;rcases h with h | h;exact h.elim;omega)
 have t8b:z6i w own x8b:=fun k hk h=>by have h1:=H1.out k hk;have h2:=p9.size;have h3:=x1d.size;exact (M5 k oM oM).trans h1
 clear r9 M5
 have hlw:ss2.length+wy2.length+(e.word.size-d)<=M+e.word.size:=by have:=hU2.size;omega
 refine wp_loop_ghost (fun gk fr wr=>∃ (i:Nat) (aD:Nat->Nat) (zV wvr:Value) (fE:List Open),gk=e.word.size-i/\i<=e.word.size/\Fc.Fr 78 fr/\fr.tmps[0]? =some (.pointer (some ⟨g,0,none⟩))/\fr.tmps[5]? =some (.pointer (some ⟨w.heap.size,0,none⟩))/\fr.tmps[7]? =some (.int .i64 i)/\aU wr base aD g zV mb ss2 wvr 0 fE/\fE≠[]/\opens fE ((wl e.word).drop i)=opens wy2 ((wl e.word).drop d)/\ss2.length+fE.length+(e.word.size-i)<=M+e.word.size/\wr.heap[w.heap.size]? =some (.cells #[.string e.word,.int .u32 e.weight,.bool e.gone] 64 (0,0))/\aD w.heap.size=0/\z6i w own aD/\n4 (fun k=>own k≠0/\own k≠4) w wr) (e.word.size-d) ?_ ?_
 . (
 obtain ⟨s0,s5,s7⟩:=sS
 exact ⟨d,x8b,sv2,wv2,wy2,rfl,hd1,hf,s0,s5,s7,wH,x6a,rfl,hlw,J2,H2P.out,t8b,t8c⟩)
 . (
 clear hf sS
 rintro gk fr wr ⟨i,aD,zV,wvr,fE,hk,hi,hf,s0,s5,s7,sU,y4v,lT,hlen,sW,hpo,hkp,G5⟩
 have HK:=H9 hk;have HO:=H9 lT;have HL:=H9 hlen;have HPO:=H9 hpo;clear hk lT hlen hpo
 have x0:=n5 0 sW
 simp at x0
 obtain ⟨o1,R0,rfl⟩:=List.exists_cons_of_ne_nil y4v
 obtain ⟨wb,c,av,rfl,Z3,qV,d0,d1,d2,d3,Y8,aE⟩:=sU.top
 have q2:=sU.z6l
 have HWB:=H9 qV;clear qV
 have hwl:R0.length<=1000000:=by have:=HL.out;simp only [List.length_cons] at this;omega
 refine Ze fun _ j8=>Ze fun _ l6=>Zr [36,37,38,39] hf ?_
 refine C0 0 5 7 40 hf ?_
 clear hf s0 s5 s7;intro a7 hf sS
 refine Zx l6 (Fc.l0 sS.2.2.2 (fun hq=> ?_) (fun hq=> ?_))
 . (
 have n8:i<e.word.size:=qT
 have HQ:=H9 hq;clear hq
 clear d0 d1 d2 d3 Y8 aE
 obtain ⟨jZ,x8a⟩:∃ f,(fun k=>if k<wr.heap.size then aD k else 0)=f:=⟨_,rfl⟩
 have x7z:∀ k,wr.heap.size<=k->jZ k=0:=fun k hk=>by rw [<- x8a];exact if_neg (by omega)
 have z1m:∀ k,k<wr.heap.size->jZ k=aD k:=fun k hk=>by rw [<- x8a];exact if_pos hk
 have zE:=sU.cT.aC
 have hBs:=sU.told (Y6:=jZ) (fun k hk=>by rw [z1m k oM];exact sU.cT.lo k hk) (fun k hk _ _=>z1m k hk)
 have H3:=H9 x7z;have H4:=H9 z1m;clear x7z z1m x8a sU
 obtain ⟨cells,kN,v0j,hWC⟩:=hBs.row
 have dE:=hBs.cT.box
 have hog:=hBs.cT.og
 have HOG:=H9 hog;have HW5:=H9 v0j;have HWC:=H9 hWC;clear hog v0j hWC
 simp only [List.length_cons,Nat.add_zero] at kN
 refine wp_skip (Zs j8 fun _ j8=>wp_block ?_)
 obtain ⟨s0,s5,s7,kM⟩:=sS
 refine Sm.K1 (n:=78) (SA ((.slice (some ⟨wb,0,none⟩) (R0.length+1) c:Value).ownBlock) g) [11,14] (Sb.OkOps.of kR) (fun a8=> ?_)
 refine Sm.xQ (k:=0) s0 hf.size a8.out rfl kR rfl rfl (.inl rfl) kR ?_
 refine Sm.xQ (k:=1) s0 hf.size a8.out rfl kR rfl rfl (.inl rfl) kR ?_
 apply Sm.tq 2 _ hf a8
 . (
 intro a7 w1 hh hd hk K Z
 refine Sb.pl ?_
 have s44:=Sm.v 1 0 hd hk []
 have K6:=Sm.z7 hh [(11,[4,3]),(14,[])] kR
 have o5:=Sm.l7 hh [] [(11,[4,3]),(14,[])] kR
 clear hd hh
 go_simp
 exact Sb.k Z)
 apply Sm.tq 3 _ hf a8
 . (
 intro a7 w1 hh hd hk K Z
 refine Sb.pl ?_
 have s45:=Sm.v 2 0 hd hk []
 have K6:=Sm.z7 hh [(11,[4]),(14,[])] kR
 have o5:=Sm.l7 hh [] [(11,[4]),(14,[])] kR
 clear hd hh
 go_simp
 exact Sb.k Z)
 apply Sm.tq 4 _ hf a8
 . (
 intro a7 w1 hh hd hk K Z
 refine Sb.pl ?_
 have s46:=Sm.v 3 0 hd hk []
 have K6:=Sm.z7 hh [(11,[]),(14,[])] kR
 have o5:=Sm.l7 hh [] [(11,[]),(14,[])] kR
 clear hd hh
 have q3:=cL K6 q2
 go_simp
 exact Sb.k Z)
 apply Sm.tq 5 _ hf a8
 . (
 intro a7 w1 hh hd hk K Z
 refine Sb.pl ?_
 have s5:=Sm.o hh kR s5
 have K6:=Sm.z7 hh [(11,[10,9,8,6]),(14,[])] kR
 have o5:=Sm.l7 hh [] [(11,[10,9,8,6]),(14,[])] kR
 clear hd hh
 go_simp
 exact Sb.k Z)
 apply Sm.tq 6 _ hf a8
 . (
 intro a7 w1 hh hd hk K Z
 refine Sb.pl ?_
 have s48:=Sm.v 5 0 hd hk []
 have K6:=Sm.z7 hh [(11,[10,9,8]),(14,[])] kR
 have o5:=Sm.l7 hh [] [(11,[10,9,8]),(14,[])] kR
 clear hd hh
 have x1:=cL K6 x0
 go_simp
 exact Sb.k Z)
 refine Sm.xQ (k:=7) s7 hf.size a8.out rfl kR rfl rfl (.inl rfl) kR ?_
 apply Sm.tq 8 _ hf a8
 . (
 intro a7 w1 hh hd hk K Z
 refine Sb.pl ?_
 have uA:=Sm.v 6 1 hd hk []
 have yG:=Sm.v 7 0 hd hk []
 have K6:=Sm.z7 hh [(11,[10,9]),(14,[])] kR
 have o5:=Sm.l7 hh [] [(11,[10,9]),(14,[])] kR
 clear hd hh
 go_simp
 try rw [if_pos (by omega)]
 exact Sb.k Z)
 apply Sm.tq 9 _ hf a8
 . (
 intro a7 w1 hh hd hk K Z
 refine Sb.pl ?_
 have pS:=Sm.v 8 0 hd hk []
 have K6:=Sm.z7 hh [(11,[10]),(14,[])] kR
 have o5:=Sm.l7 hh [] [(11,[10]),(14,[])] kR
 clear hd hh
 go_simp
 exact Sb.k Z)
 refine Sm.E8 (k:=10) (n:=78) (nV [.slice none 0 0,.bool false,.int .u64 0,.int .u8 (at_ e.word i:Nat)]) hf.size a8.out rfl (nV.u5 _) kR ?_ ?_
 . (
 intro a7 w1 hh hd hk K Z
 refine Sb.pl ?_
 have s52:=Sm.v 9 0 hd hk []
 have K6:=Sm.z7 hh [(11,[]),(14,[])] kR
 have o5:=Sm.l7 hh [] [(11,[]),(14,[])] kR
 clear hd hh
 go_simp
 exact Z.out _ rfl _ _ ((Below.refl _ _).alloc nR _) ⟨_,rfl,E7 _ _ _⟩)
 refine Sm.K3 (k:=11) (n:=78) (y8m wr base g zV mb (.slice (some ⟨wb,0,none⟩) (R0.length+1) c) (R0.length+2) (cells++[.slice none 0 0,.bool false,.int .u64 0,.int .u8 (at_ e.word i:Nat)])) hf.size a8.out rfl (y8m.u5 _ _ _ _ _ _ _ _) kR ?_ ?_
 . (
 intro a7 w1 hh hd hk K Z
 refine Sb.pl ?_
 have s47:=Sm.v 4 6 hd hk []
 obtain ⟨x53,s53,w5h⟩:=Sm.use (j:=10) (m:=0) hd hk rfl [] kR [(14,true,[])] kR rfl rfl rfl
 obtain ⟨b53,rfl,w5g⟩:=w5h
 have K6:=Sm.z7 hh [(14,[])] kR
 have o5:=Sm.l7 hh [] [(14,[])] kR
 clear hd hh
 have S5:=l5 kN K6
 have fT:=(K6.block g (j4 dE)).trans dE
 refine J7 _ _ 121 rfl 126 _ 4 48 Tryz.underlying121 rN rfl dC dC base (.slice (some ⟨wb,0,none⟩) (R0.length+1) c) (R0.length+1) cells (Fc.k7 s47) S5 b53 _ (Fc.k7 s53) rfl w5g (by intro u hu;simp at hu;rcases hu with rfl | rfl | rfl | rfl<;>rfl) (by have:=HL.out;simp only [List.length_cons] at this;omega) (by have:=K6.size;omega) (fun v2 w2 oP tK iM=> ?_)
 exact Z.out _ rfl _ _ (n4.grown tK (fun k S3=>S3)) ⟨oP,iM.imp id (fun h=>⟨_,h,K6.size⟩),tK.block g (j4 fT) (fun e1=>by have h1:=HW5.out g e1.symm;have h2:=HOG.out;omega) |>.trans fT⟩)
 apply Sm.tq 12 _ hf a8
 . (
 intro a7 w1 hh hd hk K Z
 refine Sb.pl ?_
 have s43:=Sm.v 0 11 hd hk []
 have o5:=Sm.l7 hh [11] [(14,[13])] kR
 clear hd hh
 go_simp
 exact Sb.k Z)
 apply Sm.tq 13 _ hf a8
 . (
 intro a7 w1 hh hd hk K Z
 refine Sb.pl ?_
 have s55:=Sm.v 12 0 hd hk []
 have o5:=Sm.l7 hh [11] [(14,[])] kR
 clear hd hh
 go_simp
 exact Sb.k Z)
 refine Sm.K3 (k:=14) (n:=78) (y8l wr base g zV mb (.slice (some ⟨wb,0,none⟩) (R0.length+1) c) (R0.length+2) (cells++[.slice none 0 0,.bool false,.int .u64 0,.int .u8 (at_ e.word i:Nat)])) hf.size a8.out rfl (y8l.u5 _ _ _ _ _ _ _ _) kR ?_ ?_
 . (
 intro a7 w1 hh hd hk K Z
 refine Sb.pl ?_
 have s56:=Sm.v 13 0 hd hk []
 obtain ⟨x54,s54,w5f⟩:=Sm.use (j:=11) (m:=2) hd hk rfl [] kR [] kR rfl rfl rfl
 obtain ⟨y7c,y1x,z8h⟩:=w5f
 have o5:=Sm.l7 hh [11] [] kR
 clear hd hh
 have z0:=n5 2 z8h
 simp at z0
 have fz:=j3 (i:=2) z8h
 obtain ⟨A2,c2,hv2,_⟩:=A1 y7c
 subst hv2
 go_simp
 refine Z.out _ rfl undef _ (n4.setCell (S:=fun k=>k=g) rfl _) ⟨_,y7 y7c (n4.setCell (S:=fun k=>k=g) rfl _) (fun k S3 e1=> ?_),y1x,?_⟩;(subst e1;rcases y1x with h | ⟨k2,h,M5⟩;(rw [S3] at h;have h1:=HW5.out _ h.symm;have h2:=HOG.out;omega);(rw [S3] at h;injection h with h;have:=j4 dE;omega));exact (j5 z8h _).trans sP)
 refine Sm.K2 (n:=78) kR hf.size a8.out rfl (fun a7 w1 hh hg=> ?_)
 replace s0:=Sm.o hh kR s0
 replace s5:=Sm.o hh kR s5
 replace s7:=Sm.o hh kR s7
 obtain ⟨_,U8⟩:=Sm.T0 (j:=14) (m:=0) hg rfl dC [(11,[])] kR rfl
 have u3:=hh.fr hf
 have o5:=hh.but
 clear hg hh hf a8 kM
 have hf:=u3;clear u3
 refine Fc.j7 (Zx j8 (Zr [41,42] hf ?_))
 refine B1 0 5 7 hf ?_
 clear hf s0 s5 s7;intro a7 hf sS
 refine Fc.j6 ?_
 obtain ⟨v2,S5,nH,fT⟩:=U8
 replace o5:=o5 _ (fun m hm b h=>SA.all hm h)
 have hvn:∀ k,k<wr.heap.size->jZ k≠5->v2.ownBlock≠some k:=fun k bV M5 h=>by rcases nH with h3 | ⟨k3,h3,zR⟩;(rw [h] at h3;exact M5 (HW5.out k h3.symm));(rw [h] at h3;injection h3 with h3;omega)
 have hT:∀ k,jZ k=0\/jZ k=4->¬ ((Value.slice (some ⟨wb,0,none⟩) (R0.length+1) c).ownBlock=some k\/k=g):=fun k h1 h=>by rcases h with h | h;(have:=HW5.out _ h;omega);(rw [h] at h1;have:=HOG.out;omega)
 have tR:jZ w.heap.size=0:=(H4.out _ (j4 sW)).trans HPO.out
 have hws:=G5.size
 have hk5:∀ k,k<w.heap.size->(own k=0\/own k=4)->jZ k=own k:=fun k bV M5=>(H4.out k oM).trans (hkp k bV M5)
 obtain ⟨s0,s5,s7⟩:=sS
 refine ⟨_,by have:=HK.out;omega,i+1,_,zV,v2,⟨E1,at_ e.word i⟩::o1::R0,rfl,oM,hf,s0,s5,by rw [s7];rfl,aU.opened hBs kN HW5.out HWC.out H3.out fT o5 S5 nH,sP,?_,?_,o5.heap sW (hT _ (.inl tR)),?_,fun k bV M5=> ?_,⟨?_,?_,?_,?_,?_⟩⟩
 . (
 have h9:=HO.out;rw [X5 (dQ n8)] at h9;exact h9)
 . (
 have h9:=HL.out;simp only [List.length_cons] at h9 |-;omega)
 . (
 show (if v2.ownBlock=some w.heap.size then 5 else jZ w.heap.size)=0;rw [if_neg (hvn _ (j4 sW) oM)];exact tR)
 . (
 show (if v2.ownBlock=some k then 5 else jZ k)=own k;have h9:=hk5 k bV M5;rw [if_neg (hvn k oM oM)];exact h9)
 . (
 exact o5.os.trans G5.os)
 . (
 exact o5.tape.trans G5.tape)
 . (
 exact o5.output.trans G5.output)
 . (
 exact Nat.le_trans G5.size o5.size)
 . (
 intro k bV M5;have h9:=hk5 k bV oM;rw [o5.block k oM (hT k oM),G5.block k bV M5]))
 . (
 have F3:i=e.word.size:=qF
 have HIE:=H9 F3;clear F3
 have ho:=HO.out
 rw [List.drop_eq_nil_of_le (by rw [l9];have:=HIE.out;omega)] at ho
 have tH:(o1::R0)=opens wy2 ((wl e.word).drop d):=ho
 have HO2:=H9 tH;clear ho tH hq
 refine Zo ?_
 refine Zs b7 fun _ b7=> ?_
 obtain ⟨s0,s5,s7,kM⟩:=sS
 refine Sb.tb 78 fun a8=> ?_
 refine Sb.mO 0 s0 hf a8 ?_
 refine Sb.T 1 hf a8 ?_
 refine Sb.T 2 hf a8 ?_
 refine Sb.T 3 hf a8 ?_ (hF:=fun _ _ h d=>cL h.ext q2)
 refine Sb.mO 4 s0 hf a8 ?_
 refine Sb.T 5 hf a8 ?_
 refine Sb.T 6 hf a8 ?_
 refine Sb.T 7 hf a8 ?_ (hF:=fun _ _ h d=>cL h.ext q2)
 refine Sb.T 8 hf a8 ?_ (hF:=fun _ _ h d=>cL h.ext q2)
 apply Sb.tq 9 _ hf a8
 . (
 intro a7 w1 hh hd hk K Z
 have s65:=Sb.v 8 0 hd hk []
 clear hd
 go_simp
 try simp (disch:=omega) only [Fc.W]
 try rw [show (R0.length:Int)+1-1=(R0.length:Int) by omega]
 exact Sb.k Z)
 refine Sb.T 10 hf a8 ?_
 refine Sb.mN 11 10 0 hf a8 [] ?_
 refine Sb.E hf a8 (fun _ _ h g=>ad (Sb.O h s5) (Sb.f 11 0 g)) ?_
 clear hf a8 s0 s5 s7 kM;intro a7 w1 hf hx sS
 replace q2:=cL hx q2
 have hB9:=sU.later hx
 have jD:=(hx.block _ (j4 sW)).trans sW
 have x9:=n5 0 jD;have x10:=n5 1 jD;have x11:=n5 2 jD
 simp at x9 x10 x11
 clear d0 d1 d2 d3 Y8 aE
 refine Zx b7 (rg ?_)
 have bB:=hf.pL 68 69 70 71 72 73 74 75 76 77
 iterate 3 refine Zy ?_
 refine Zc (x1e e he w1) ?_;rintro e w5 ⟨rfl,F2⟩
 have hBv:=hB9.later F2
 obtain ⟨wb2,c2,avu,gT,_,w1j,e0,e1,e2,e3,hou,x1f⟩:=hBv.top
 injection gT with gT _ he3
 injection gT with gT
 injection gT with gT
 subst gT
 have hrz:=hBv.row
 obtain ⟨cz,hrz,_⟩:=hrz
 simp only [List.length_cons,Nat.add_zero] at hrz
 have fz1:=hrz.frozenAt (R0.length*4+1)
 have fz2:=hrz.frozenAt (R0.length*4+2)
 clear e0 e3 hou x1f hrz x9 x10 x11
 refine Zv ?_
 iterate 8 refine Zy ?_
 refine Fc.nil (Zq0 hf ?_)
 clear hf sS bB;intro a7 hf
 have tT:add (ss,o6) (wl last) (Y1 e)=(ss2,⟨⟨true,M9 e,o1.st.a6⟩,o1.cN⟩::R0):=by unfold add;simp only [Y1,HD.out,HS2.out,HY2.out, <- HO2.out];rfl
 refine Fc.pZ rfl hf ⟨rfl,aD,zV,.slice (some ⟨wb,0,none⟩) (R0.length+1) c,?_,hkp,?_⟩
 . (
 rw [tT];exact hBv.marked rfl)
 . (
 have h5:=hx.trans (F2.mono hx.size);have iA:n4 (fun k=>k=wb) w5 ((w5.setCell ⟨wb,R0.length*4+1,none⟩ (.bool true)).setCell ⟨wb,R0.length*4+2,none⟩ (.int .u64 (M9 e))):=(n4.setCell (S:=fun k=>k=wb) rfl _).trans (n4.setCell (S:=fun k=>k=wb) rfl _);refine ⟨iA.os.trans (h5.os.trans G5.os),iA.tape.trans (h5.tape.trans G5.tape),iA.output.trans (h5.output.trans G5.output),Nat.le_trans G5.size (Nat.le_trans h5.size iA.size),fun k bV M5=> ?_⟩;have h9:=hkp k bV oM;have h8:=G5.size;have h7:=h5.size;rw [iA.block k oM (fun e1=>by subst e1;have:=HWB.out;omega),h5.block k oM,G5.block k bV M5]))))
end Dw
end Go.Proofs.YtcddnmhmcieebaaGreatDoor
