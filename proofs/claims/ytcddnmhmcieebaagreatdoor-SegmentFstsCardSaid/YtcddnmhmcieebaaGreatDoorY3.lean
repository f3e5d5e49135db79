import Derived.Test.YtcddnmhmcieebaaGreatDoorY2
import Derived.Laws.MakeOwn
namespace Go.Proofs.YtcddnmhmcieebaaGreatDoor
set_option linter.unusedSimpArgs false
set_option linter.unusedVariables false
set_option linter.unnecessarySimpa false
set_option maxHeartbeats 4000000
set_option maxRecDepth 100000
open Go.RowKit
namespace Dw
open Go.Maps
def CZ (w:World) (own aC:Nat->Nat):Prop:=∀ k,k<w.heap.size->(own k=0\/own k=4)->aC k=own k
def SC (z6:Nat->Nat) (vb:Option Nat) (wb:Nat):Nat->Nat->Prop
 | 14,k=>z6 k=1\/z6 k=2\/z6 k=3
 | 17,k=>vb=some k
 | _,k=>k=wb
theorem SC.all {z6:Nat->Nat} {vb:Option Nat} {wb m b:Nat} (hm:m∈[14,17,21]) (h:SC z6 vb wb m b):(z6 b=1\/z6 b=2\/z6 b=3)\/vb=some b\/b=wb:=by
 simp at hm
 rcases hm with rfl | rfl | rfl
 ·exact .inl h
 ·exact .inr (.inl h)
 ·exact .inr (.inr h)
def pH (W2:World) (z6:Nat->Nat) (base g:Nat) (wv:Value) (mb:Nat) (ss:List State) (w:World):Prop:=∃ P4 pG,(∀ k,k<W2.heap.size->P4 k=z6 k)/\(∀ k,W2.heap.size<=k->P4 k=0\/P4 k=2)/\bZ w base P4 g 123 [wv] pG mb ss
theorem pH.u5 (W2:World) (z6:Nat->Nat) (base g:Nat) (wv:Value) (mb:Nat) (ss:List State):∀ w w':World,Below w.heap.size w w'->pH W2 z6 base g wv mb ss w->pH W2 z6 base g wv mb ss w' :=
 fun w w' hb ⟨P4,pG,h1,h2,h3⟩=>⟨P4,pG,h1,h2,h3.later hb⟩
theorem pH.but {S:Nat->Prop} {W2:World} {z6:Nat->Nat} {base g:Nat} {wv:Value} {mb:Nat} {ss:List State} {w w':World} (h:pH W2 z6 base g wv mb ss w) (hb:n4 S w w') (hS:∀ k,S k->k<W2.heap.size/\5<=z6 k):pH W2 z6 base g wv mb ss w':=by
 obtain ⟨P4,pG,h1,h2,h3⟩:=h
 exact ⟨P4,pG,h1,h2,h3.but hb (fun k hk=>by have:=hS k hk;rw [h1 k this.1];omega)⟩
def VH (R:World->Prop) (i:Nat):Sb.Pr:=fun v w=>v= .int .i64 (i:Int)/\R w
theorem VH.u5 {R:World->Prop} {i:Nat} (hR:∀ w w':World,Below w.heap.size w w'->R w->R w'):Sb.Stable (VH R i):=fun _ w w' hb ⟨h1,h2⟩=>⟨h1,hR w w' hb h2⟩
def VJ (R:World->Prop) (W2:World) (base:Nat) (Hi:Value) (n:Nat) (cs:List Value):Sb.Pr:=fun v w=>R w/\w.ownsRow base 71 3 v (n+1) cs/\(v.ownBlock=Hi.ownBlock\/∃ k,v.ownBlock=some k/\W2.heap.size<=k)
theorem VJ.u5 {R:World->Prop} (hR:∀ w w':World,Below w.heap.size w w'->R w->R w') (W2:World) (base:Nat) (Hi:Value) (n:Nat) (cs:List Value):Sb.Stable (VJ R W2 base Hi n cs):=fun _ w w' hb ⟨h1,h2,h3⟩=>⟨hR w w' hb h1,n3 h2 hb,h3⟩
def VK (R:World->Prop) (W2:World) (base:Nat) (Hi:Value) (n:Nat) (cs:List Value) (wv:Value) (m:Nat) (cells:List Value) (i:Nat):Sb.Pr:=fun _ w=>∃ v,R w/\w.ownsRow base 71 3 v (n+1) cs/\(v.ownBlock=Hi.ownBlock\/∃ k,v.ownBlock=some k/\W2.heap.size<=k)/\w.ownsRow base 126 4 wv m (cells.set i v)
theorem VK.u5 {R:World->Prop} (hR:∀ w w':World,Below w.heap.size w w'->R w->R w') (W2:World) (base:Nat) (Hi:Value) (n:Nat) (cs:List Value) (wv:Value) (m:Nat) (cells:List Value) (i:Nat):Sb.Stable (VK R W2 base Hi n cs wv m cells i) :=
 fun _ w w' hb ⟨v,h1,h2,h3,h4⟩=>⟨v,hR w w' hb h1,n3 h2 hb,h3,n3 h4 hb⟩
theorem n4.y7c {S S' T:Nat->Prop} {w w1 w4 w5:World} (h1:Below w.heap.size w w1) (h4:n4 S w1 w4) (h5:n4 S' w4 w5) (hT:∀ k,k<w.heap.size->(S k\/S' k)->T k):n4 T w w5:=n4.via h1 h4 h5 hT
theorem CZ.refl (w:World) (own:Nat->Nat):CZ w own own:=fun _ _ _=>rfl
theorem Hk (w:World) {base g mb N M:Nat} {own:Nat->Nat} {sv wv:Value} {ss:List State} {u6:List Open} (d:Nat) (hB:bU w base own g sv mb ss wv 0 u6) (F0:u6≠[]) (eZ:De N M ss u6) (hM:M<=1000000) (hN:N<=200) (hd:d<=1000000):Calls Tryz.prog 52 #[.pointer (some ⟨g,0,none⟩),.int .i64 d] w fun e w1=>e= .returned (.tuple #[])/\∃ aC Sq wv',bU w1 base aC g Sq mb (close ss u6 d).1 wv' 0 (close ss u6 d).2/\CZ w own aC/\n4 (fun k=>own k≠0/\own k≠4) w w1:=by
 refine Z6 67 Tryz.func52 fun fr hf s0 s1=> ?_
 refine wp_block (wp_loop_ghost (fun gk fr wr=>∃ (aT:Nat->Nat) (AK Xw:Value) (qD:List State) (o:Open) (S6:List Open),gk=S6.length/\Fc.Fr 67 fr/\fr.tmps[0]? =some (.pointer (some ⟨g,0,none⟩))/\fr.tmps[1]? =some (.int .i64 d)/\bU wr base aT g AK mb qD Xw 0 (o::S6)/\close qD (o::S6) d=close ss u6 d/\De N M qD (o::S6)/\CZ w own aT/\n4 (fun k=>own k≠0/\own k≠4) w wr) (u6.length-1) ?_ ?_)
 . (
 obtain ⟨o,S6,rfl⟩:=List.exists_cons_of_ne_nil F0
 exact ⟨own,sv,wv,ss,o,S6,rfl,hf,s0,s1,hB,rfl,eZ,CZ.refl _ _,n4.refl _ _⟩)
 . (
 clear hf s0 s1
 rintro gk fr wr ⟨aT,AK,Xw,qD,o,S6,hk,hf,s0,s1,sM,R8,JT,Ca,F9⟩
 have HK:=H9 hk;have HCL:=H9 R8;clear hk R8
 obtain ⟨wb,c,av,rfl,U0,oD,d0,d1,d2,d3,S1,Z3⟩:=sM.top
 have q2:=sM.CW
 have C8:=JT.size
 simp only [List.length_cons] at C8
 refine Ze fun _ a8=>Ze fun _ j8=>Zr [8,9,10,11,12,13,14] hf ?_
 refine y7 0 1 15 hf ?_
 clear hf s0 s1;intro a7 hf sS
 refine Zx j8 (Fc.l0 sS.2.2 (fun hq=> ?_) (fun hq=> ?_))
 . (
 have o9:d<S6.length:=qT
 obtain ⟨up,rest,rfl⟩:=List.exists_cons_of_ne_nil (show S6≠[] by rintro rfl;simp at o9)
 simp only [List.length_cons] at *
 have HQ:=H9 hq;clear hq
 have iy:=HCL.out
 rw [CX oM] at iy
 replace HCL:=H9 iy;clear iy
 have y7a:=JT.Q2 oM oM
 have ot:=JT.head o rfl
 have Kb:=JT.tail up (List.mem_cons_self ..)
 have hng:wb≠g:=fun e=>by have h1:=sM.dP.og;rw [<- e] at h1;omega
 have R3:=sM.dP.aS
 obtain ⟨A,ca,rfl,aa⟩:=(OA.ra (B:=fun _=>True) S1 (fun _ _=>trivial)).form
 obtain ⟨M3,iH⟩:∃ f,(fun k=>if k<wr.heap.size then aT k else 0)=f:=⟨_,rfl⟩
 have Cb:∀ k,wr.heap.size<=k->M3 k=0:=fun k hk=>by rw [<- iH];exact if_neg (by omega)
 have bR:∀ k,k<wr.heap.size->M3 k=aT k:=fun k hk=>by rw [<- iH];exact if_pos hk
 have Hm:=sM.told (aC:=M3) (fun k hk=>by rw [bR k oM];exact sM.dP.lo k hk) (fun k hk _ _=>bR k hk)
 replace Z3:∀ k,(Value.slice A o.st.j4.length ca).ownBlock=some k->M3 k=7+rest.length:=fun k hk=>by rw [bR k (S1.lt k hk).2,Z3 k hk];omega
 have x2l:M3 wb=5:=by rw [bR wb (G2 d0)];exact oD
 have H0:=H9 Cb;have H1:=H9 bR;clear Cb bR iH sM oD
 obtain ⟨n,hn⟩:∃ n,leastOf o.st=n:=⟨_,rfl⟩
 have HN:=H9 hn;clear hn
 refine wp_skip (Zx a8 (wp_block (Ze fun _ a8=>Zr [16,17,18,19,20,21] hf ?_)))
 refine y7 0 1 4 hf ?_
 intro a7 hf sS
 refine Zs a8 fun _ a8=>Zr [22,23,24,25,26,27,28,5] hf ?_
 refine z8 0 1 4 5 hf ?_
 intro a7 hf sS
 generalize p8:wr.alloc (.cells #[.slice A o.st.j4.length ca,.bool o.st.final,.int .u64 o.st.out,.int .u8 o.kA] 126)=W0
 obtain ⟨o7, -, -, -, -,E3,R6⟩:=TG p8
 clear p8
 have fG:wr.heap.size<W0.heap.size:=by rw [R6];exact Nat.lt_succ_self _
 clear R6
 have VA:=(Hm.later o7).forget
 have FB:OA W0 base (.slice A o.st.j4.length ca) o.st.j4:=n3 S1 o7
 clear d0 d1 d2 d3 S1 Hm
 refine Zt a8 fun _ a8=> ?_
 have bB:=hf.b 29
 refine Zc (QE W0 wr.heap.size o.kA base o.st _ ot.ok E3 FB) ?_;rintro e w1 ⟨rfl,C9,pF,Kw⟩
 rw [HN.out] at C9 pF
 rw [HN.out]
 refine Zv ?_
 refine Zy ?_
 refine Fc.nil (D2 0 1 4 5 6 hf ?_)
 intro a7 hf sS
 have gv:=VA.but Kw (fun k hk=>by rcases hk with rfl | hk;exact .inl (H0.out _ nR);right;have:=Z3 k hk;simp only [List.length_cons];omega)
 have r2:=gv.CW
 clear VA FB E3
 have fz:=gv.dP.frozen 2
 refine Zt a8 fun _ a8=> ?_
 have bB:=hf.B9 30 31 32 33 34 35 36 37 38
 iterate 6 refine Zy ?_
 refine fp fun K Z=> ?_
 go_simp
 try rw [if_pos (by omega)]
 apply Z.out;clear Z K
 iterate 3 refine Zy ?_
 refine Fc.nil (D2 0 1 4 5 6 hf ?_)
 intro a7 hf sS
 have wK:=gv.cut sP
 have AE:n4 (fun k=>k=g) w1 (w1.setCell ⟨g,2,none⟩ (.slice (some ⟨wb,0,none⟩) (rest.length+1) c)):=n4.setCell (S:=fun k=>k=g) rfl _
 have x2k:=gv.dP.og
 have J1:=AE.heap C9 (fun e=>by have h1:=H0.out _ (Nat.le_refl wr.heap.size);rw [e] at h1;omega)
 have gW:OA (w1.setCell ⟨g,2,none⟩ (.slice (some ⟨wb,0,none⟩) (rest.length+1) c)) base (.slice A o.st.j4.length ca) (less o.st n).j4:=u7 pF AE (fun k hk e=>by subst e;have:=Z3 k hk;omega)
 have FE:n4 (fun k=>M3 k≠0/\M3 k≠4) wr (w1.setCell ⟨g,2,none⟩ (.slice (some ⟨wb,0,none⟩) (rest.length+1) c)):=n4.y7c o7 Kw AE (fun k cZ h=>by rcases h with (h | h) | h;omega;(have:=Z3 k h;omega);(subst h;omega))
 simp only [List.length_cons] at wK
 obtain ⟨W2,Y4⟩:∃ W2,w1.setCell ⟨g,2,none⟩ (.slice (some ⟨wb,0,none⟩) (rest.length+1) c)=W2:=⟨_,rfl⟩
 rw [Y4] at wK FE gW J1
 try rw [Y4]
 have EU:wr.heap.size<W2.heap.size:=j5 J1
 clear Y4 AE gv pF C9 Kw r2 fz
 have VL:∀ k,W2.heap.size<=k->(if (.slice A o.st.j4.length ca:Value).ownBlock=some k then 4 else M3 k)=0:=fun k hk=>by rw [if_neg (fun h=>by have:=(gW.lt k h).2;omega)];exact H0.out k oM
 have sN:∀ k,M3 k≠7+rest.length->(if (.slice A o.st.j4.length ca:Value).ownBlock=some k then 4 else M3 k)=M3 k:=fun k hk=>if_neg (fun h=>hk (Z3 k h))
 have FF:=wK.told (aC:=fun k=>if (.slice A o.st.j4.length ca:Value).ownBlock=some k then 4 else M3 k) (fun k hk=>by rw [sN k (by have:=wK.dP.lo k hk;omega)];exact wK.dP.lo k hk) (fun k _ h1 h2=>sN k (by simp only [List.length_cons] at h2;omega))
 have S7:RA W2 (fun k=>(if (.slice A o.st.j4.length ca:Value).ownBlock=some k then 4 else M3 k)=4) (.slice A o.st.j4.length ca) (less o.st n).j4:=OA.ra gW (fun k hk=>if_pos hk)
 obtain ⟨z6,dH⟩:∃ f,(fun k=>if (.slice A o.st.j4.length ca:Value).ownBlock=some k then 4 else M3 k)=f:=⟨_,rfl⟩
 replace VL:∀ k,W2.heap.size<=k->z6 k=0:=fun k hk=>by rw [<- dH];exact VL k hk
 replace sN:∀ k,M3 k≠7+rest.length->z6 k=M3 k:=fun k hk=>by rw [<- dH];exact sN k hk
 rw [dH] at FF
 replace S7:RA W2 (fun k=>z6 k=4) (.slice A o.st.j4.length ca) (less o.st n).j4:=by rw [<- dH];exact S7
 have H4:=H9 VL;have H5:=H9 sN;clear VL sN dH wK
 obtain ⟨wb2,c2,Hi,eH,_,iw,e0,e1,e2,e3,DV,VM⟩:=FF.top
 injection eH with eH _ he3
 injection eH with eH
 injection eH with eH
 subst eH;subst he3
 obtain ⟨Au,cu,rfl,hcu⟩:=(OA.ra (B:=fun _=>True) DV (fun _ _=>trivial)).form
 have Xx:=H9 VM;clear VM
 have q4:=FF.CW
 have g0:=n5 0 J1;have g1:=n5 1 J1;have g2:=n5 2 J1;have g3:=n5 3 J1
 simp at g0 g1 g2 g3
 refine Zt a8 fun _ a8=> ?_
 have bB:=hf.B7 39 40 41 42 43 44 45
 iterate 5 refine Zy ?_
 refine fp fun K Z=> ?_
 go_simp
 try simp (disch:=omega) only [Fc.W]
 try rw [show (rest.length:Int)+1-1=(rest.length:Int) by omega]
 apply Z.out;clear Z K
 iterate 2 refine Zy ?_
 refine Fc.nil (D2 0 1 5 6 7 hf ?_)
 intro a7 hf sS
 refine Zx a8 ?_
 clear q4
 obtain ⟨cells,oN,cm,hWC⟩:=FF.row
 simp only [List.length_cons,Nat.add_zero] at oN
 have hP0:z6 wr.heap.size=0:=by rw [H5.out _ (by rw [H0.out _ nR];omega)];exact H0.out _ nR
 have HP0:=H9 hP0;have oi:=H9 iw;clear hP0 iw
 have HRB:=H9 cm;have UQ:=H9 hWC;clear cm hWC
 have y6z:=Kb
 obtain ⟨s0,s1,s5,s6,s7⟩:=sS
 refine Sm.E4 (n:=67) (SC z6 ((.slice Au up.st.j4.length cu:Value).ownBlock) wb) [14,17,21] (Sb.OkOps.of kR) (fun a6=> ?_)
 refine Sm.mD (k:=0) s7 hf.size a6.out rfl kR rfl rfl (.inl rfl) kR ?_
 refine Sm.mD (k:=1) s7 hf.size a6.out rfl kR rfl rfl (.inl rfl) kR ?_
 apply Sm.tq 2 _ hf a6
 . (
 intro a7 w1 hh hd hk K Z
 refine Sb.pl ?_
 have me:=Sm.v 1 0 hd hk []
 have l6:=Sm.l9 hh [14] [(17,[5,4,3]),(21,[])] kR
 clear hd hh
 go_simp
 exact Sb.k Z)
 apply Sm.tq 3 _ hf a6
 . (
 intro a7 w1 hh hd hk K Z
 refine Sb.pl ?_
 have Jd:=Sm.v 2 0 hd hk []
 have l6:=Sm.l9 hh [14] [(17,[5,4]),(21,[])] kR
 clear hd hh
 go_simp
 exact Sb.k Z)
 apply Sm.tq 4 _ hf a6
 . (
 intro a7 w1 hh hd hk K Z
 refine Sb.pl ?_
 have zY:=Sm.v 3 0 hd hk []
 have l6:=Sm.l9 hh [14] [(17,[5]),(21,[])] kR
 clear hd hh
 go_simp
 exact Sb.k Z)
 apply Sm.tq 5 _ hf a6
 . (
 intro a7 w1 hh hd hk K Z
 refine Sb.pl ?_
 have GU:=Sm.v 4 0 hd hk []
 have l6:=Sm.l9 hh [14] [(17,[]),(21,[])] kR
 clear hd hh
 have f0:=(l6 (fun k=>z6 k=1\/z6 k=2\/z6 k=3) (fun m hm b h=>by simp at hm;subst hm;exact h)).cell e0 (fun h=>by have:=oi.out;have h:z6 wb=1\/z6 wb=2\/z6 wb=3:=h;omega)
 go_simp
 exact Sb.k Z)
 apply Sm.tq 6 _ hf a6
 . (
 intro a7 w1 hh hd hk K Z
 refine Sb.pl ?_
 have s5:=Sm.o hh kR s5
 have l6:=Sm.l9 hh [14] [(17,[16,15,7]),(21,[])] kR
 clear hd hh
 go_simp
 exact Sb.k Z)
 apply Sm.tq 7 _ hf a6
 . (
 intro a7 w1 hh hd hk K Z
 refine Sb.pl ?_
 have iv:=Sm.v 6 0 hd hk []
 have l6:=Sm.l9 hh [14] [(17,[16,15]),(21,[])] kR
 clear hd hh
 have f3:=(l6 (fun k=>z6 k=1\/z6 k=2\/z6 k=3) (fun m hm b h=>by simp at hm;subst hm;exact h)).cell g3 (fun h=>by have:=HP0.out;have h:z6 wr.heap.size=1\/z6 wr.heap.size=2\/z6 wr.heap.size=3:=h;omega)
 go_simp
 exact Sb.k Z)
 refine Sm.mD (k:=8) s6 hf.size a6.out rfl kR rfl rfl (.inl rfl) kR ?_
 refine Sm.mD (k:=9) s0 hf.size a6.out rfl kR rfl rfl (.inl rfl) kR ?_
 apply Sm.tq 10 _ hf a6
 . (
 intro a7 w1 hh hd hk K Z
 refine Sb.pl ?_
 have Xy:=Sm.v 9 0 hd hk []
 have F4:=Sm.r5 hh [(14,[11]),(17,[14,11]),(21,[])] kR
 have l6:=Sm.l9 hh [] [(14,[11]),(17,[14,11]),(21,[])] kR
 clear hd hh
 go_simp
 exact Sb.k Z)
 apply Sm.tq 11 _ hf a6
 . (
 intro a7 w1 hh hd hk K Z
 refine Sb.pl ?_
 have Sh:=Sm.v 10 0 hd hk []
 have F4:=Sm.r5 hh [(14,[]),(17,[14]),(21,[])] kR
 have l6:=Sm.l9 hh [] [(14,[]),(17,[14]),(21,[])] kR
 clear hd hh
 go_simp
 exact Sb.k Z)
 apply Sm.tq 12 _ hf a6
 . (
 intro a7 w1 hh hd hk K Z
 refine Sb.pl ?_
 have s5:=Sm.o hh kR s5
 have F4:=Sm.r5 hh [(14,[13]),(17,[14,13]),(21,[])] kR
 have l6:=Sm.l9 hh [] [(14,[13]),(17,[14,13]),(21,[])] kR
 clear hd hh
 go_simp
 exact Sb.k Z)
 apply Sm.tq 13 _ hf a6
 . (
 intro a7 w1 hh hd hk K Z
 refine Sb.pl ?_
 have nt:=Sm.v 12 0 hd hk []
 have F4:=Sm.r5 hh [(14,[]),(17,[14]),(21,[])] kR
 have l6:=Sm.l9 hh [] [(14,[]),(17,[14]),(21,[])] kR
 clear hd hh
 have f0:=cL F4 g0;have f1:=cL F4 g1;have f2:=cL F4 g2
 go_simp
 exact Sb.k Z)
 refine Sm.E6 (k:=14) (n:=67) (VH (pH W2 z6 base g (.slice (some ⟨wb,0,none⟩) (rest.length+1) c) mb (finish qD (less o.st n)).1) (finish qD (less o.st n)).2) hf.size a6.out rfl (VH.u5 (pH.u5 _ _ _ _ _ _ _)) kR ?_ ?_
 . (
 intro a7 w1 hh hd hk K Z
 refine Sb.pl ?_
 have ai:=Sm.v 11 2 hd hk []
 have de:=Sm.v 13 0 hd hk []
 have F4:=Sm.r5 hh [(17,[]),(21,[])] kR
 have l6:=Sm.l9 hh [] [(17,[]),(21,[])] kR
 clear hd hh
 go_simp
 go_at_call 54;refine (dG w1 (FF.dP.later F4) (S7.later F4) (Hj ot oM) oM).mono ?_;rintro e w2 ⟨rfl,P4,pG,FG,Xz,FH,QJ⟩
 exact Z.out _ rfl _ _ QJ ⟨rfl,P4,pG,fun k cZ=>FG k (by have:=F4.size;omega),fun k cZ=>by rcases Nat.lt_or_ge k w1.heap.size with h | h;(exact .inl ((FG k h).trans (H4.out k cZ)));exact .inr (Xz k h),FH⟩)
 apply Sm.tq 15 _ hf a6
 . (
 intro a7 w1 hh hd hk K Z
 refine Sb.pl ?_
 have Sr:=Sm.v 7 7 hd hk []
 have Kx:=Sm.v 8 6 hd hk []
 obtain ⟨x60,wu,iu⟩:=Sm.use (j:=14) (m:=0) hd hk rfl [] kR [(17,true,[16]),(21,true,[])] kR rfl rfl rfl
 obtain ⟨rfl,x8s⟩:=iu
 have l6:=Sm.l9 hh [14] [(17,[16]),(21,[])] kR
 clear hd hh
 go_simp
 exact Sb.k Z)
 refine Sm.E1 (k:=16) (n:=67) (oZ [.int .u8 o.kA,.int .u64 n,.int .i64 ((finish qD (less o.st n)).2:Nat)]) hf.size a6.out rfl (oZ.u5 _) kR ?_ ?_
 . (
 intro a7 w1 hh hd hk K Z
 refine Sb.pl ?_
 have s61:=Sm.v 15 0 hd hk []
 have l6:=Sm.l9 hh [14] [(17,[]),(21,[])] kR
 clear hd hh
 go_simp
 exact Z.out _ rfl _ _ ((Below.refl _ _).alloc nR _) ⟨_,rfl,E8 _ _ _⟩)
 refine Sm.E6 (k:=17) (n:=67) (VJ (pH W2 z6 base g (.slice (some ⟨wb,0,none⟩) (rest.length+1) c) mb (finish qD (less o.st n)).1) W2 base (.slice Au up.st.j4.length cu) up.st.j4.length (vA up.st.j4++[.int .u8 o.kA,.int .u64 n,.int .i64 ((finish qD (less o.st n)).2:Nat)])) hf.size a6.out rfl (VJ.u5 (pH.u5 _ _ _ _ _ _ _) _ _ _ _ _) kR ?_ ?_
 . (
 intro a7 w1 hh hd hk K Z
 refine Sb.pl ?_
 have qQ:=Sm.v 5 11 hd hk []
 obtain ⟨x62,UR,y6y⟩:=Sm.use (j:=16) (m:=0) hd hk rfl [] kR [(14,false,[15]),(21,true,[])] kR rfl rfl rfl
 obtain ⟨b62,rfl,y6x⟩:=y6y
 obtain ⟨_,y6w⟩:=Sm.U1 (j:=14) (m:=2) hd hk rfl [] kR [(21,true,[])] kR rfl
 have l6:=Sm.l9 hh [14] [(21,[])] kR
 clear hd hh
 have aJ:=(l6 (fun k=>z6 k=1\/z6 k=2\/z6 k=3) (fun m hm b h=>by simp at hm;subst hm;exact h))
 have R1:=u7 DV aJ (fun k aB h=>by have:=Xx.out k aB;have h:z6 k=1\/z6 k=2\/z6 k=3:=h;omega)
 refine J6 _ _ 44 rfl 71 _ 3 24 Tryz.underlying44 Ks rfl dC dC base (.slice Au up.st.j4.length cu) up.st.j4.length (vA up.st.j4) (Fc.l5 qQ) R1 b62 _ (Fc.l5 UR) rfl y6x (by intro u hu;simp at hu;rcases hu with rfl | rfl | rfl<;>rfl) (by have:=y6z.Gg;omega) (by have:=aJ.size;omega) (fun v2 w2 kT lW jE=> ?_)
 have VN:=aJ.size
 exact Z.out _ rfl _ _ (n4.grown lW (fun k aB=>aB)) ⟨y6w.2.but (n4.grown (S:=fun k=>(.slice Au up.st.j4.length cu:Value).ownBlock=some k) lW (fun k aB=>aB)) (fun k aB=>by have:=Xx.out k aB;have:=(DV.lt k aB).2;exact ⟨this,oM⟩),kT,jE.imp id (fun h=>⟨_,h,VN⟩)⟩)
 apply Sm.tq 18 _ hf a6
 . (
 intro a7 w1 hh hd hk K Z
 refine Sb.pl ?_
 have DW:=Sm.v 0 17 hd hk []
 have l6:=Sm.l9 hh [14,17] [(21,[20,19])] kR
 clear hd hh
 go_simp
 exact Sb.k Z)
 apply Sm.tq 19 _ hf a6
 . (
 intro a7 w1 hh hd hk K Z
 refine Sb.pl ?_
 have s64:=Sm.v 18 0 hd hk []
 have l6:=Sm.l9 hh [14,17] [(21,[20])] kR
 clear hd hh
 go_simp
 exact Sb.k Z)
 apply Sm.tq 20 _ hf a6
 . (
 intro a7 w1 hh hd hk K Z
 refine Sb.pl ?_
 have s65:=Sm.v 19 0 hd hk []
 have l6:=Sm.l9 hh [14,17] [(21,[])] kR
 clear hd hh
 go_simp
 exact Sb.k Z)
 refine Sm.E6 (k:=21) (n:=67) (VK (pH W2 z6 base g (.slice (some ⟨wb,0,none⟩) (rest.length+1) c) mb (finish qD (less o.st n)).1) W2 base (.slice Au up.st.j4.length cu) up.st.j4.length (vA up.st.j4++[.int .u8 o.kA,.int .u64 n,.int .i64 ((finish qD (less o.st n)).2:Nat)]) (.slice (some ⟨wb,0,none⟩) (rest.length+1) c) (rest.length+1) cells (rest.length*4)) hf.size a6.out rfl (VK.u5 (pH.u5 _ _ _ _ _ _ _) _ _ _ _ _ _ _ _ _) kR ?_ ?_
 . (
 intro a7 w1 hh hd hk K Z
 refine Sb.pl ?_
 have s66:=Sm.v 20 0 hd hk []
 obtain ⟨x63,vj,y6u⟩:=Sm.use (j:=17) (m:=3) hd hk rfl [] kR [(14,false,[])] kR rfl rfl rfl
 obtain ⟨z9l,z9k,z9j⟩:=y6u
 have l6:=Sm.l9 hh [14,17] [] kR
 clear hd hh
 have aJ:=(l6 (fun k=>(z6 k=1\/z6 k=2\/z6 k=3)\/(.slice Au up.st.j4.length cu:Value).ownBlock=some k) (fun m hm b h=>by simp at hm;rcases hm with rfl | rfl;exact .inl h;exact .inr h))
 have wP:=u7 oN aJ (fun k aB h=>by have h1:=HRB.out k aB;rcases h with h | h;(have h:z6 k=1\/z6 k=2\/z6 k=3:=h;omega);(have:=Xx.out k h;omega))
 have f0:=aJ.cell e0 (fun h=>by have h1:=oi.out;rcases h with h | h;(have h:z6 wb=1\/z6 wb=2\/z6 wb=3:=h;omega);(have:=Xx.out wb h;omega))
 have fzz:=wP.frozenAt (rest.length*4)
 obtain ⟨A2,c2,vV,_⟩:=y8 z9k
 subst vV
 go_simp
 refine Z.out _ rfl undef _ (n4.setCell (S:=fun k=>k=wb) rfl _) ⟨_,z9l.but (n4.setCell (S:=fun k=>k=wb) rfl _) (fun k aB=>by subst aB;have:=oi.out;exact ⟨G2 e0,oM⟩),u7 z9k (n4.setCell (S:=fun k=>k=wb) rfl _) (fun k aB e=> ?_),z9j,(wP.stored _ _).1⟩;subst e;rcases z9j with h | ⟨k2,h,M9⟩;(rw [aB] at h;have:=Xx.out _ h.symm;have:=oi.out;omega);(rw [aB] at h;injection h with h;have:=G2 e0;have:k<W2.heap.size:=this;omega))
 refine Sm.E5 (n:=67) kR hf.size a6.out rfl (fun a7 w1 hh hg=> ?_)
 replace s0:=Sm.o hh kR s0
 replace s1:=Sm.o hh kR s1
 obtain ⟨_,V0⟩:=Sm.M4 (j:=21) (m:=0) hg rfl dC [(14,[]),(17,[])] kR rfl
 have y5:=hh.fr hf
 have l6:=hh.but
 clear hg hh hf a6 s5 s6 s7
 have hf:=y5;clear y5
 refine Fc.j9 (Fc.j7 ?_)
 obtain ⟨v2,⟨P4,pG,hA1,ud,FD⟩,R1,vU,wP⟩:=V0
 replace l6:=l6 _ (fun m hm b h=>SC.all hm h)
 have hn:=HN.out
 subst hn
 have hvn:∀ k,k<W2.heap.size->z6 k≠6+rest.length->v2.ownBlock≠some k:=fun k cZ M9 h=>by rcases vU with h3 | ⟨k3,h3,yJ⟩;(rw [h] at h3;exact M9 (Xx.out k h3.symm));(rw [h] at h3;injection h3 with h3;omega)
 have Ma:∀ k,k<w.heap.size->(own k=0\/own k=4)->M3 k=own k/\z6 k=own k:=fun k cZ M9=>by have h1:=Ca k cZ M9;have h2:=H1.out k (by have:=F9.size;omega);have h3:M3 k=own k:=h2.trans h1;exact ⟨h3,(H5.out k oM).trans h3⟩
 refine ⟨_,?_,_,pG,_,_,_,rest,rfl,hf,s0,s1,bU.closed (Hi:= .slice Au up.st.j4.length cu) (a:=⟨o.kA,leastOf o.st,((finish qD (less o.st (leastOf o.st))).2:Nat)⟩) FF hA1 ud FD R1 vU (fun k cZ=>⟨Xx.out k cZ,(DV.lt k cZ).2⟩) oN oi.out UQ.out wP l6,HCL.out,y7a,fun k cZ M9=> ?_,⟨?_,?_,?_,?_,?_⟩⟩
 . (
 have:=HK.out;omega)
 . (
 have h1:=Ma k cZ M9;have h2:=F9.size;simp only;rw [if_neg (hvn k oM oM),hA1 k oM];exact h1.2)
 . (
 exact l6.os.trans (FE.os.trans F9.os))
 . (
 exact l6.tape.trans (FE.tape.trans F9.tape))
 . (
 exact l6.output.trans (FE.output.trans F9.output))
 . (
 exact Nat.le_trans F9.size (Nat.le_trans FE.size l6.size))
 . (
 intro k cZ M9;have h0:own k=0\/own k=4:=(by omega);have h1:=Ma k cZ h0;have h2:=F9.size;have h3:=FE.size;rw [l6.block k oM (fun h=>by rcases h with h | h | h;omega;(have:=Xx.out k h;omega);(subst h;have:=oi.out;omega)),FE.block k oM (fun h=>oM),F9.block k cZ M9]))
 . (
 have hle:S6.length<=d:=qF
 refine Zo ?_
 have R8:=HCL.out
 rw [sL sO] at R8
 refine Fc.mE rfl hf ⟨rfl,aT,AK,.slice (some ⟨wb,0,none⟩) (S6.length+1) c,?_,Ca,F9⟩
 rw [<- R8]
 exact sM))
theorem QK (e:G9) (he:GR e) (hg:e.gone=true) (w:World):Calls Tryz.prog 89 #[eval e] w fun e1 w1=>e1= .returned (.int .u64 (bA e:Nat))/\Below w.heap.size w w1:=by
 refine L7 9 Tryz.func89 fun fr hf s0=> ?_
 simp only [eval] at s0
 have HG:=H9 hg;clear hg
 have Eu:=he.1;have EU:=he.2
 refine Ze fun _ a8=>Zr [] hf ?_
 refine p5 1 hf ?_
 clear hf s0;intro a7 hf s1
 generalize p8:w.alloc (.cells #[.string e.word,.int .u32 e.weight,.bool e.gone] 64)=W0
 obtain ⟨o7, -,c1,c2, -, -⟩:=E7 p8
 clear p8
 refine Zs a8 fun _ a8=>Ze fun _ j8=>Zr [3] hf ?_
 refine y4 1 4 hf ?_
 clear hf s1;intro a7 hf sS
 refine Zx j8 ?_
 obtain ⟨s1,s4⟩:=sS
 rw [HG.out] at s4
 refine Fc.l7 s4 ?_
 refine Ze fun _ j8=>Zr [] hf ?_
 refine p5 2 hf ?_
 clear hf s1 s4;intro a7 hf s2
 refine Zx j8 (k8 ?_)
 exact Fc.o6 rfl hf s2 ⟨by simp [bA,HG.out],o7⟩
theorem QL (e:G9) (he:GR e) (hg:e.gone=false) (w:World):Calls Tryz.prog 89 #[eval e] w fun e1 w1=>e1= .returned (.int .u64 (bA e:Nat))/\Below w.heap.size w w1:=by
 refine L7 9 Tryz.func89 fun fr hf s0=> ?_
 simp only [eval] at s0
 have HG:=H9 hg;clear hg
 have Eu:=he.1;have EU:=he.2
 refine Ze fun _ a8=>Zr [] hf ?_
 refine p5 1 hf ?_
 clear hf s0;intro a7 hf s1
 generalize p8:w.alloc (.cells #[.string e.word,.int .u32 e.weight,.bool e.gone] 64)=W0
 obtain ⟨o7, -,c1,c2, -, -⟩:=E7 p8
 clear p8
 refine Zs a8 fun _ a8=>Ze fun _ j8=>Zr [3] hf ?_
 refine y4 1 4 hf ?_
 clear hf s1;intro a7 hf sS
 refine Zx j8 ?_
 obtain ⟨s1,s4⟩:=sS
 rw [HG.out] at s4
 refine Fc.k9 s4 ?_
 refine wp_skip (Zt a8 fun _ a8=> ?_)
 have bB:=hf.B4 5 6 7 8
 iterate 2 refine Zy ?_
 refine fp fun K Z=> ?_
 go_simp
 try simp (disch:=omega) only [Fc.wrap_u64]
 apply Z.out;clear Z K
 refine fp fun K Z=> ?_
 go_simp
 try simp (disch:=omega) only [Fc.W]
 try simp (disch:=omega) only [Fc.wrap_u64]
 rw [show e.weight+1=((bA e:Nat):Int) by simp only [bA,HG.out];simp;omega]
 apply Z.out;clear Z K
 refine Zy ?_
 refine Fc.nil (p5 2 hf ?_)
 clear hf s1 s4 bB;intro a7 hf s2
 refine Zx a8 (k8 ?_)
 exact Fc.o6 rfl hf s2 ⟨rfl,o7⟩
theorem VP (e:G9) (he:GR e) (w:World):Calls Tryz.prog 89 #[eval e] w fun e1 w1=>e1= .returned (.int .u64 (bA e:Nat))/\Below w.heap.size w w1:=by
 cases hg:e.gone with
 | true=>exact QK e he hg w
 | false=>exact QL e he hg w
theorem ir (a b:ByteArray) (i:Nat) (h1:i<=a.size) (h2:i<=b.size):i=a.size\/(i<a.size/\i=b.size)\/(i<a.size/\i<b.size/\at_ a i≠at_ b i)\/(i<a.size/\i<b.size/\at_ a i=at_ b i):=oM
def SA (vb:Option Nat) (g:Nat):Nat->Nat->Prop
 | 11,k=>vb=some k
 | _,k=>k=g
theorem SA.all {vb:Option Nat} {g m b:Nat} (hm:m∈[11,14]) (h:SA vb g m b):vb=some b\/b=g:=by
 simp at hm
 rcases hm with rfl | rfl
 ·exact .inl h
 ·exact .inr h
def Hn (w4:World) (base g:Nat) (sv:Value) (mb:Nat) (wv:Value) (n:Nat) (cells:List Value):Sb.Pr:=fun v w=>w.ownsRow base 126 4 v n cells/\(v.ownBlock=wv.ownBlock\/∃ k,v.ownBlock=some k/\w4.heap.size<=k)/\w.heap[g]? =some (.cells (sv:: .map (some mb)::[wv]).toArray 123 (0,0))
theorem Hn.u5 (w4:World) (base g:Nat) (sv:Value) (mb:Nat) (wv:Value) (n:Nat) (cells:List Value):Sb.Stable (Hn w4 base g sv mb wv n cells):=fun v w w' hb ⟨h1,h2,h3⟩=>⟨n3 h1 hb,h2,(hb.block g (j5 h3)).trans h3⟩
def Hp (w4:World) (base g:Nat) (sv:Value) (mb:Nat) (wv:Value) (n:Nat) (cells:List Value):Sb.Pr:=fun _ w=>∃ v,w.ownsRow base 126 4 v n cells/\(v.ownBlock=wv.ownBlock\/∃ k,v.ownBlock=some k/\w4.heap.size<=k)/\w.heap[g]? =some (.cells (sv:: .map (some mb)::[v]).toArray 123 (0,0))
theorem Hp.u5 (w4:World) (base g:Nat) (sv:Value) (mb:Nat) (wv:Value) (n:Nat) (cells:List Value):Sb.Stable (Hp w4 base g sv mb wv n cells):=fun _ w w' hb ⟨v,h1,h2,h3⟩=>⟨v,n3 h1 hb,h2,(hb.block g (j5 h3)).trans h3⟩
theorem Cc (ss:List State) (u6:List Open) (d:Nat) (h:u6≠[]):(close ss u6 d).2≠[]:=by
 by_cases hd:d<u6.length
 ·have:=kD ss u6 d hd
  intro e
  rw [e] at this
  simp at this
 ·rw [sL oM];exact h
theorem z9i (w:World) {base g mb N M:Nat} {own:Nat->Nat} {sv wv:Value} {ss:List State} {u6:List Open} (last:ByteArray) (e:G9) (hB:bU w base own g sv mb ss wv 0 u6) (F0:u6≠[]) (eZ:fX N M ss u6) (hM:M+e.word.size<=1000000) (hN:N<=200) (he:GR e) (hl:last.size<=1000000):Calls Tryz.prog 51 #[.pointer (some ⟨g,0,none⟩),.string last,eval e] w fun e1 w1=>e1= .returned (.tuple #[])/\∃ aC Sq wv',bU w1 base aC g Sq mb (add (ss,u6) (wl last) (lQ e)).1 wv' 0 (add (ss,u6) (wl last) (lQ e)).2/\CZ w own aC/\n4 (fun k=>own k≠0/\own k≠4) w w1:=by
 refine dT 78 Tryz.func51 fun fr hf s0 s1 s2=> ?_
 simp only [eval] at s2
 obtain ⟨M3,iH⟩:∃ f,(fun k=>if k<w.heap.size then own k else 0)=f:=⟨_,rfl⟩
 have Cb:∀ k,w.heap.size<=k->M3 k=0:=fun k hk=>by rw [<- iH];exact if_neg (by omega)
 have bR:∀ k,k<w.heap.size->M3 k=own k:=fun k hk=>by rw [<- iH];exact if_pos hk
 have R3:=hB.dP.aS
 have Hm:=hB.told (aC:=M3) (fun k hk=>by rw [bR k oM];exact hB.dP.lo k hk) (fun k hk _ _=>bR k hk)
 have H0:=H9 Cb;have H1:=H9 bR;clear Cb bR iH hB
 refine Ze fun _ a8=>Zr [] hf ?_
 refine y7 0 1 5 hf ?_
 clear hf s0 s1 s2;intro a7 hf sS
 generalize p8:w.alloc (.cells #[.string e.word,.int .u32 e.weight,.bool e.gone] 64)=W0
 obtain ⟨o7,c0, -, -,E3,R6⟩:=E7 p8
 clear p8
 have fG:w.heap.size<W0.heap.size:=by rw [R6];exact Nat.lt_succ_self _
 clear R6
 have VA:=Hm.later o7
 clear Hm
 refine Zs a8 fun _ a8=>Zr [] hf ?_
 refine z8 0 1 5 6 hf ?_
 intro a7 hf sS
 refine Zx a8 ?_
 have vp:∀ (i:Nat) (h:i<last.size),last[i].toNat=at_ last i:=fun i h=>(aY h).symm
 have uQ:∀ (i:Nat) (h:i<e.word.size),e.word[i].toNat=at_ e.word i:=fun i h=>(aY h).symm
 refine Fc.G1 (fun fr wr=>Fc.Fr 78 fr/\fr.tmps[0]? =some (.pointer (some ⟨g,0,none⟩))/\fr.tmps[5]? =some (.pointer (some ⟨w.heap.size,0,none⟩))/\fr.tmps[6]? =some (.int .i64 ((shared (wl last) (wl e.word):Nat):Int))/\Below W0.heap.size W0 wr) ?_ ?_
 . (
 refine wp_block (wp_loop_ghost (fun gk fr wr=>∃ (i:Nat),gk=last.size-i/\i<=last.size/\i<=e.word.size/\Fc.Fr 78 fr/\fr.tmps[0]? =some (.pointer (some ⟨g,0,none⟩))/\fr.tmps[1]? =some (.string last)/\fr.tmps[5]? =some (.pointer (some ⟨w.heap.size,0,none⟩))/\fr.tmps[6]? =some (.int .i64 i)/\shared (wl last) (wl e.word)=shared ((wl last).drop i) ((wl e.word).drop i)+i/\Below W0.heap.size W0 wr) (last.size) ?_ ?_)
 . (
 obtain ⟨s0,s1,s5,s6⟩:=sS
 exact ⟨0,rfl,Nat.zero_le _,Nat.zero_le _,hf,s0,s1,s5,s6,rfl,Below.refl _ _⟩)
 . (
 clear hf sS
 rintro gk fr wr ⟨i,hk,JX,ND,hf,s0,s1,s5,s6,ZK,hb⟩
 have HK:=H9 hk;have HSH:=H9 ZK;clear hk ZK
 have x0:=cL hb c0
 rcases ir last e.word i JX ND with hc | ⟨AA,uG⟩ | ⟨AA,uG,Nn⟩ | ⟨AA,uG,Nn⟩
 . (
 have q1:decide (i<last.size)=false:=decide_eq_false oM
 have HC:=H9 hc;clear hc
 refine Ze fun _ a8=>Ze fun _ j8=>Sb.tb 78 fun a6=> ?_
 refine Sb.mO 0 s6 hf a6 ?_
 refine Sb.mO 1 s1 hf a6 ?_
 refine Sb.T 2 hf a6 ?_ (hF:=fun _ _ h d=>cL h.ext x0)
 refine Sb.T 3 hf a6 ?_
 refine Sb.mN 4 3 0 hf a6 [] ?_
 refine Sb.Tk 5 hf a6 ?_
 refine Sb.Tk 6 hf a6 ?_
 refine Sb.Tk 7 hf a6 ?_
 refine Sb.Tk 8 hf a6 ?_
 refine Sb.Tk 9 hf a6 ?_
 refine Sb.T 10 hf a6 ?_
 refine Sb.mN 11 10 0 hf a6 [] ?_
 refine Sb.Tk 12 hf a6 ?_
 refine Sb.Tk 13 hf a6 ?_
 refine Sb.Tk 14 hf a6 ?_
 refine Sb.Tk 15 hf a6 ?_
 refine Sb.Tk 16 hf a6 ?_
 refine Sb.Tk 17 hf a6 ?_
 refine Sb.Tk 18 hf a6 ?_
 refine Sb.Tk 19 hf a6 ?_
 refine Sb.T 20 hf a6 ?_
 refine Sb.E hf a6 (fun _ _ h g=>ad (Sb.O h s0) (ad (Sb.O h s1) (ad (Sb.O h s5) (ad (Sb.O h s6) (Sb.f 20 0 g))))) ?_
 clear hf a6 s0 s1 s5 s6;intro a7 w1 hf hx sS
 replace x0:=cL hx x0
 refine Zx j8 (Fc.k9 sS.2.2.2.2 ?_)
 have N0:=hb.trans (hx.mono hb.size)
 have QM:shared (wl last) (wl e.word)=i:=by rw [HSH.out,qP (.inl (List.drop_eq_nil_of_le (by rw [o5];have:=HC.out;omega)))];omega
 have iq:=H9 QM;clear QM
 refine Zo ?_
 refine Fc.j7 ?_
 obtain ⟨s0,s1,s5,s6,cT⟩:=sS
 exact ⟨hf,s0,s5,by rw [iq.out];exact s6,N0⟩)
 . (
 have q1:decide (i<last.size)=true:=decide_eq_true oM
 have q2:decide (i<e.word.size)=false:=decide_eq_false oM
 have KG:=H9 uG;clear uG
 refine Ze fun _ a8=>Ze fun _ j8=>Sb.tb 78 fun a6=> ?_
 refine Sb.mO 0 s6 hf a6 ?_
 refine Sb.mO 1 s1 hf a6 ?_
 refine Sb.T 2 hf a6 ?_ (hF:=fun _ _ h d=>cL h.ext x0)
 refine Sb.T 3 hf a6 ?_
 refine Sb.mN 4 3 0 hf a6 [] ?_
 refine Sb.Tg 5 hf a6 ?_ (hF:=fun _ _ h d=>Sb.O h s6)
 refine Sb.Tg 6 hf a6 ?_ (hF:=fun _ _ h d=>Sb.O h s5)
 refine Sb.Tg 7 hf a6 ?_ (hF:=fun _ _ h d=>cL h.ext x0)
 refine Sb.Tg 8 hf a6 ?_ (hF:=fun _ _ h d=>cL h.ext x0)
 refine Sb.Tg 9 hf a6 ?_
 refine Sb.T 10 hf a6 ?_
 refine Sb.mN 11 10 0 hf a6 [] ?_
 refine Sb.Tk 12 hf a6 ?_
 refine Sb.Tk 13 hf a6 ?_
 refine Sb.Tk 14 hf a6 ?_
 refine Sb.Tk 15 hf a6 ?_
 refine Sb.Tk 16 hf a6 ?_
 refine Sb.Tk 17 hf a6 ?_
 refine Sb.Tk 18 hf a6 ?_
 refine Sb.Tk 19 hf a6 ?_
 refine Sb.T 20 hf a6 ?_
 refine Sb.E hf a6 (fun _ _ h g=>ad (Sb.O h s0) (ad (Sb.O h s1) (ad (Sb.O h s5) (ad (Sb.O h s6) (Sb.f 20 0 g))))) ?_
 clear hf a6 s0 s1 s5 s6;intro a7 w1 hf hx sS
 replace x0:=cL hx x0
 refine Zx j8 (Fc.k9 sS.2.2.2.2 ?_)
 have N0:=hb.trans (hx.mono hb.size)
 have QM:shared (wl last) (wl e.word)=i:=by rw [HSH.out,qP (.inr (List.drop_eq_nil_of_le (by rw [o5];have:=KG.out;omega)))];omega
 have iq:=H9 QM;clear QM
 refine Zo ?_
 refine Fc.j7 ?_
 obtain ⟨s0,s1,s5,s6,cT⟩:=sS
 exact ⟨hf,s0,s5,by rw [iq.out];exact s6,N0⟩)
 . (
 have q1:decide (i<last.size)=true:=decide_eq_true oM
 have q2:decide (i<e.word.size)=true:=decide_eq_true oM
 have HC3:=H9 Nn;clear Nn;have q3:(((at_ last i:Nat):Int)==((at_ e.word i:Nat):Int))=false:=by have:=HC3.out;simp;omega
 refine Ze fun _ a8=>Ze fun _ j8=>Sb.tb 78 fun a6=> ?_
 refine Sb.mO 0 s6 hf a6 ?_
 refine Sb.mO 1 s1 hf a6 ?_
 refine Sb.T 2 hf a6 ?_ (hF:=fun _ _ h d=>cL h.ext x0)
 refine Sb.T 3 hf a6 ?_
 refine Sb.mN 4 3 0 hf a6 [] ?_
 refine Sb.Tg 5 hf a6 ?_ (hF:=fun _ _ h d=>Sb.O h s6)
 refine Sb.Tg 6 hf a6 ?_ (hF:=fun _ _ h d=>Sb.O h s5)
 refine Sb.Tg 7 hf a6 ?_ (hF:=fun _ _ h d=>cL h.ext x0)
 refine Sb.Tg 8 hf a6 ?_ (hF:=fun _ _ h d=>cL h.ext x0)
 refine Sb.Tg 9 hf a6 ?_
 refine Sb.T 10 hf a6 ?_
 refine Sb.mN 11 10 0 hf a6 [] ?_
 refine Sb.Tg 12 hf a6 ?_ (hF:=fun _ _ h d=>Sb.O h s1)
 refine Sb.Tg 13 hf a6 ?_ (hF:=fun _ _ h d=>Sb.O h s6)
 apply Sb.tr 14 _ hf a6
 . (
 intro a7 w1 hh hd hk K Z
 have N5:=Sb.v 11 2 hd hk []
 refine Sb.g N5 ?_
 have S9:=Sb.v 12 1 hd hk []
 have X6:=Sb.v 13 0 hd hk []
 clear hd
 replace x0:=cL hh.ext x0
 go_simp
 try rw [if_pos (by omega)]
 exact Sb.k Z)
 refine Sb.Tg 15 hf a6 ?_ (hF:=fun _ _ h d=>Sb.O h s5)
 refine Sb.Tg 16 hf a6 ?_ (hF:=fun _ _ h d=>cL h.ext x0)
 refine Sb.Tg 17 hf a6 ?_ (hF:=fun _ _ h d=>Sb.O h s6)
 apply Sb.tr 18 _ hf a6
 . (
 intro a7 w1 hh hd hk K Z
 have N5:=Sb.v 11 6 hd hk []
 refine Sb.g N5 ?_
 have Z9:=Sb.v 16 1 hd hk []
 have aG:=Sb.v 17 0 hd hk []
 clear hd
 replace x0:=cL hh.ext x0
 go_simp
 try rw [if_pos (by omega)]
 exact Sb.k Z)
 refine Sb.Tg 19 hf a6 ?_
 refine Sb.T 20 hf a6 ?_
 refine Sb.E hf a6 (fun _ _ h g=>ad (Sb.O h s0) (ad (Sb.O h s1) (ad (Sb.O h s5) (ad (Sb.O h s6) (Sb.f 20 0 g))))) ?_
 clear hf a6 s0 s1 s5 s6;intro a7 w1 hf hx sS
 replace x0:=cL hx x0
 refine Zx j8 (Fc.k9 sS.2.2.2.2 ?_)
 have N0:=hb.trans (hx.mono hb.size)
 have QM:shared (wl last) (wl e.word)=i:=by rw [HSH.out,AR (aZ AA) (aZ uG) HC3.out];omega
 have iq:=H9 QM;clear QM
 refine Zo ?_
 refine Fc.j7 ?_
 obtain ⟨s0,s1,s5,s6,cT⟩:=sS
 exact ⟨hf,s0,s5,by rw [iq.out];exact s6,N0⟩)
 . (
 have q1:decide (i<last.size)=true:=decide_eq_true oM
 have q2:decide (i<e.word.size)=true:=decide_eq_true oM
 have HC3:=H9 Nn;clear Nn;have q3:(((at_ last i:Nat):Int)==((at_ e.word i:Nat):Int))=true:=by rw [HC3.out];simp
 refine Ze fun _ a8=>Ze fun _ j8=>Sb.tb 78 fun a6=> ?_
 refine Sb.mO 0 s6 hf a6 ?_
 refine Sb.mO 1 s1 hf a6 ?_
 refine Sb.T 2 hf a6 ?_ (hF:=fun _ _ h d=>cL h.ext x0)
 refine Sb.T 3 hf a6 ?_
 refine Sb.mN 4 3 0 hf a6 [] ?_
 refine Sb.Tg 5 hf a6 ?_ (hF:=fun _ _ h d=>Sb.O h s6)
 refine Sb.Tg 6 hf a6 ?_ (hF:=fun _ _ h d=>Sb.O h s5)
 refine Sb.Tg 7 hf a6 ?_ (hF:=fun _ _ h d=>cL h.ext x0)
 refine Sb.Tg 8 hf a6 ?_ (hF:=fun _ _ h d=>cL h.ext x0)
 refine Sb.Tg 9 hf a6 ?_
 refine Sb.T 10 hf a6 ?_
 refine Sb.mN 11 10 0 hf a6 [] ?_
 refine Sb.Tg 12 hf a6 ?_ (hF:=fun _ _ h d=>Sb.O h s1)
 refine Sb.Tg 13 hf a6 ?_ (hF:=fun _ _ h d=>Sb.O h s6)
 apply Sb.tr 14 _ hf a6
 . (
 intro a7 w1 hh hd hk K Z
 have N5:=Sb.v 11 2 hd hk []
 refine Sb.g N5 ?_
 have S9:=Sb.v 12 1 hd hk []
 have X6:=Sb.v 13 0 hd hk []
 clear hd
 replace x0:=cL hh.ext x0
 go_simp
 try rw [if_pos (by omega)]
 exact Sb.k Z)
 refine Sb.Tg 15 hf a6 ?_ (hF:=fun _ _ h d=>Sb.O h s5)
 refine Sb.Tg 16 hf a6 ?_ (hF:=fun _ _ h d=>cL h.ext x0)
 refine Sb.Tg 17 hf a6 ?_ (hF:=fun _ _ h d=>Sb.O h s6)
 apply Sb.tr 18 _ hf a6
 . (
 intro a7 w1 hh hd hk K Z
 have N5:=Sb.v 11 6 hd hk []
 refine Sb.g N5 ?_
 have Z9:=Sb.v 16 1 hd hk []
 have aG:=Sb.v 17 0 hd hk []
 clear hd
 replace x0:=cL hh.ext x0
 go_simp
 try rw [if_pos (by omega)]
 exact Sb.k Z)
 refine Sb.Tg 19 hf a6 ?_
 refine Sb.T 20 hf a6 ?_
 refine Sb.E hf a6 (fun _ _ h g=>ad (Sb.O h s0) (ad (Sb.O h s1) (ad (Sb.O h s5) (ad (Sb.O h s6) (Sb.f 20 0 g))))) ?_
 clear hf a6 s0 s1 s5 s6;intro a7 w1 hf hx sS
 replace x0:=cL hx x0
 refine Zx j8 (Fc.l7 sS.2.2.2.2 ?_)
 have N0:=hb.trans (hx.mono hb.size)
 have QM:shared (wl last) (wl e.word)=shared ((wl last).drop (i+1)) ((wl e.word).drop (i+1))+(i+1):=by rw [HSH.out,AQ (aZ AA) (by rw [HC3.out];exact aZ uG)];omega
 have iq:=H9 QM;clear QM
 refine wp_skip (Zx a8 (wp_block (Zr [30,31] hf ?_)))
 refine z8 0 1 5 6 hf ?_
 intro a7 hf sS
 refine Fc.j9 (Fc.j7 ?_)
 obtain ⟨s0,s1,s5,s6⟩:=sS
 exact ⟨_,by have:=HK.out;omega,i+1,rfl,oM,oM,hf,s0,s1,s5,by rw [s6];rfl,iq.out,N0⟩)))
 . (
 clear hf sS
 rintro fr wd ⟨hf,s0,s5,s6,VQ⟩
 obtain ⟨d,hd⟩:∃ d,shared (wl last) (wl e.word)=d:=⟨_,rfl⟩
 have hd1:d<=e.word.size:=by rw [<- hd, <- o5];exact JU _ _
 rw [hd] at s6
 have HD:=H9 hd;clear hd vp
 have hBd:=VA.later VQ
 have hpd:=(VQ.block _ (j5 E3)).trans E3
 have z9g:M3 w.heap.size=0:=H0.out _ nR
 have HP:=H9 z9g;clear z9g E3 c0 VA
 refine Ze fun _ a8=>rg ?_
 have bB:=hf.B2 32 33
 iterate 2 refine Zy ?_
 refine Zc (Hk wd d hBd F0 eZ.bnd oM hN oM) ?_;rintro e w2 ⟨rfl,QN,sv2,wv2,wK,M9,r8⟩
 refine Zv ?_
 refine Fc.nil (y7 0 5 6 hf ?_)
 clear hf s0 s5 s6 bB;intro a7 hf sS
 have J1:=r8.heap hpd (fun h=>h.1 HP.out)
 have h2p:QN w.heap.size=0:=(M9 _ (j5 hpd) (.inl HP.out)).trans HP.out
 have H2P:=H9 h2p;clear h2p
 have hU:=(De.closeN oM hN (u6.length-(d+1)) ss u6 eZ.bnd).all
 have YA:fX (N+1) M (close ss u6 d).1 (close ss u6 d).2:=hU
 clear hU hBd hpd
 have z9f:=Cc ss u6 d F0
 obtain ⟨gd,im⟩:∃ x,(close ss u6 d).1=x:=⟨_,rfl⟩
 obtain ⟨wy2,ik⟩:∃ x,(close ss u6 d).2=x:=⟨_,rfl⟩
 rw [im] at wK YA;rw [ik] at wK YA z9f
 have Ku:=H9 im;have HY2:=H9 ik;clear im ik
 refine Zs a8 fun _ a8=>Ze fun _ j8=>Zr [35] hf ?_
 refine y7 0 5 7 hf ?_
 intro a7 hf sS
 refine Zx j8 (wp_block ?_)
 have y6s:n4 (fun k=>own k≠0/\own k≠4) w w2:=n4.via (S:=fun _=>False) (o7.trans (VQ.mono o7.size)) (n4.refl _ _) r8 (fun k hk h=>by have:=H1.out k hk;rcases h with h | h;exact h.elim;omega)
 have y6r:CZ w own QN:=fun k hk h=>by have h1:=H1.out k hk;have h2:=o7.size;have h3:=VQ.size;exact (M9 k oM oM).trans h1
 clear r8 M9
 have VR:gd.length+wy2.length+(e.word.size-d)<=M+e.word.size:=by have:=YA.size;omega
 refine wp_loop_ghost (fun gk fr wr=>∃ (i:Nat) (aT:Nat->Nat) (AK Xw:Value) (fY:List Open),gk=e.word.size-i/\i<=e.word.size/\Fc.Fr 78 fr/\fr.tmps[0]? =some (.pointer (some ⟨g,0,none⟩))/\fr.tmps[5]? =some (.pointer (some ⟨w.heap.size,0,none⟩))/\fr.tmps[7]? =some (.int .i64 i)/\bU wr base aT g AK mb gd Xw 0 fY/\fY≠[]/\opens fY ((wl e.word).drop i)=opens wy2 ((wl e.word).drop d)/\gd.length+fY.length+(e.word.size-i)<=M+e.word.size/\wr.heap[w.heap.size]? =some (.cells #[.string e.word,.int .u32 e.weight,.bool e.gone] 64 (0,0))/\aT w.heap.size=0/\CZ w own aT/\n4 (fun k=>own k≠0/\own k≠4) w wr) (e.word.size-d) ?_ ?_
 . (
 obtain ⟨s0,s5,s7⟩:=sS
 exact ⟨d,QN,sv2,wv2,wy2,rfl,hd1,hf,s0,s5,s7,wK,z9f,rfl,VR,J1,H2P.out,y6r,y6s⟩)
 . (
 clear hf sS
 rintro gk fr wr ⟨i,aT,AK,Xw,fY,hk,hi,hf,s0,s5,s7,sM,Ky,X4,hlen,Kz,Ep,Ca,F9⟩
 have HK:=H9 hk;have HO:=H9 X4;have HL:=H9 hlen;have YB:=H9 Ep;clear hk X4 hlen Ep
 have x0:=n5 0 Kz
 simp at x0
 obtain ⟨o1,S6,rfl⟩:=List.exists_cons_of_ne_nil Ky
 obtain ⟨wb,c,av,rfl,U0,oD,d0,d1,d2,d3,S1,Z3⟩:=sM.top
 have q2:=sM.CW
 have dk:=H9 oD;clear oD
 have XD:S6.length<=1000000:=by have:=HL.out;simp only [List.length_cons] at this;omega
 refine Ze fun _ j8=>Ze fun _ l8=>Zr [36,37,38,39] hf ?_
 refine z8 0 5 7 40 hf ?_
 clear hf s0 s5 s7;intro a7 hf sS
 refine Zx l8 (Fc.l0 sS.2.2.2 (fun hq=> ?_) (fun hq=> ?_))
 . (
 have o9:i<e.word.size:=qT
 have HQ:=H9 hq;clear hq
 clear d0 d1 d2 d3 S1 Z3
 obtain ⟨lG,QP⟩:∃ f,(fun k=>if k<wr.heap.size then aT k else 0)=f:=⟨_,rfl⟩
 have QQ:∀ k,wr.heap.size<=k->lG k=0:=fun k hk=>by rw [<- QP];exact if_neg (by omega)
 have FJ:∀ k,k<wr.heap.size->lG k=aT k:=fun k hk=>by rw [<- QP];exact if_pos hk
 have JT:=sM.dP.aS
 have Hm:=sM.told (aC:=lG) (fun k hk=>by rw [FJ k oM];exact sM.dP.lo k hk) (fun k hk _ _=>FJ k hk)
 have H3:=H9 QQ;have H4:=H9 FJ;clear QQ FJ QP sM
 obtain ⟨cells,nB,z9e,hWC⟩:=Hm.row
 have mB:=Hm.dP.box
 have Xs:=Hm.dP.og
 have gj:=H9 Xs;have HW5:=H9 z9e;have UQ:=H9 hWC;clear Xs z9e hWC
 simp only [List.length_cons,Nat.add_zero] at nB
 refine wp_skip (Zs j8 fun _ j8=>wp_block ?_)
 obtain ⟨s0,s5,s7,gZ⟩:=sS
 refine Sm.E4 (n:=78) (SA ((.slice (some ⟨wb,0,none⟩) (S6.length+1) c:Value).ownBlock) g) [11,14] (Sb.OkOps.of kR) (fun a6=> ?_)
 refine Sm.mD (k:=0) s0 hf.size a6.out rfl kR rfl rfl (.inl rfl) kR ?_
 refine Sm.mD (k:=1) s0 hf.size a6.out rfl kR rfl rfl (.inl rfl) kR ?_
 apply Sm.tq 2 _ hf a6
 . (
 intro a7 w1 hh hd hk K Z
 refine Sb.pl ?_
 have Bq:=Sm.v 1 0 hd hk []
 have F4:=Sm.r5 hh [(11,[4,3]),(14,[])] kR
 have l6:=Sm.l9 hh [] [(11,[4,3]),(14,[])] kR
 clear hd hh
 go_simp
 exact Sb.k Z)
 apply Sm.tq 3 _ hf a6
 . (
 intro a7 w1 hh hd hk K Z
 refine Sb.pl ?_
 have QR:=Sm.v 2 0 hd hk []
 have F4:=Sm.r5 hh [(11,[4]),(14,[])] kR
 have l6:=Sm.l9 hh [] [(11,[4]),(14,[])] kR
 clear hd hh
 go_simp
 exact Sb.k Z)
 apply Sm.tq 4 _ hf a6
 . (
 intro a7 w1 hh hd hk K Z
 refine Sb.pl ?_
 have DW:=Sm.v 3 0 hd hk []
 have F4:=Sm.r5 hh [(11,[]),(14,[])] kR
 have l6:=Sm.l9 hh [] [(11,[]),(14,[])] kR
 clear hd hh
 have q3:=cL F4 q2
 go_simp
 exact Sb.k Z)
 apply Sm.tq 5 _ hf a6
 . (
 intro a7 w1 hh hd hk K Z
 refine Sb.pl ?_
 have s5:=Sm.o hh kR s5
 have F4:=Sm.r5 hh [(11,[10,9,8,6]),(14,[])] kR
 have l6:=Sm.l9 hh [] [(11,[10,9,8,6]),(14,[])] kR
 clear hd hh
 go_simp
 exact Sb.k Z)
 apply Sm.tq 6 _ hf a6
 . (
 intro a7 w1 hh hd hk K Z
 refine Sb.pl ?_
 have Jd:=Sm.v 5 0 hd hk []
 have F4:=Sm.r5 hh [(11,[10,9,8]),(14,[])] kR
 have l6:=Sm.l9 hh [] [(11,[10,9,8]),(14,[])] kR
 clear hd hh
 have x1:=cL F4 x0
 go_simp
 exact Sb.k Z)
 refine Sm.mD (k:=7) s7 hf.size a6.out rfl kR rfl rfl (.inl rfl) kR ?_
 apply Sm.tq 8 _ hf a6
 . (
 intro a7 w1 hh hd hk K Z
 refine Sb.pl ?_
 have zY:=Sm.v 6 1 hd hk []
 have GU:=Sm.v 7 0 hd hk []
 have F4:=Sm.r5 hh [(11,[10,9]),(14,[])] kR
 have l6:=Sm.l9 hh [] [(11,[10,9]),(14,[])] kR
 clear hd hh
 go_simp
 try rw [if_pos (by omega)]
 exact Sb.k Z)
 apply Sm.tq 9 _ hf a6
 . (
 intro a7 w1 hh hd hk K Z
 refine Sb.pl ?_
 have qQ:=Sm.v 8 0 hd hk []
 have F4:=Sm.r5 hh [(11,[10]),(14,[])] kR
 have l6:=Sm.l9 hh [] [(11,[10]),(14,[])] kR
 clear hd hh
 go_simp
 exact Sb.k Z)
 refine Sm.E1 (k:=10) (n:=78) (oZ [.slice none 0 0,.bool false,.int .u64 0,.int .u8 (at_ e.word i:Nat)]) hf.size a6.out rfl (oZ.u5 _) kR ?_ ?_
 . (
 intro a7 w1 hh hd hk K Z
 refine Sb.pl ?_
 have iv:=Sm.v 9 0 hd hk []
 have F4:=Sm.r5 hh [(11,[]),(14,[])] kR
 have l6:=Sm.l9 hh [] [(11,[]),(14,[])] kR
 clear hd hh
 go_simp
 exact Z.out _ rfl _ _ ((Below.refl _ _).alloc nR _) ⟨_,rfl,E8 _ _ _⟩)
 refine Sm.E6 (k:=11) (n:=78) (Hn wr base g AK mb (.slice (some ⟨wb,0,none⟩) (S6.length+1) c) (S6.length+2) (cells++[.slice none 0 0,.bool false,.int .u64 0,.int .u8 (at_ e.word i:Nat)])) hf.size a6.out rfl (Hn.u5 _ _ _ _ _ _ _ _) kR ?_ ?_
 . (
 intro a7 w1 hh hd hk K Z
 refine Sb.pl ?_
 have me:=Sm.v 4 6 hd hk []
 obtain ⟨x53,Sr,ij⟩:=Sm.use (j:=10) (m:=0) hd hk rfl [] kR [(14,true,[])] kR rfl rfl rfl
 obtain ⟨b53,rfl,ig⟩:=ij
 have F4:=Sm.r5 hh [(14,[])] kR
 have l6:=Sm.l9 hh [] [(14,[])] kR
 clear hd hh
 have R1:=n3 nB F4
 have gR:=(F4.block g (j5 mB)).trans mB
 refine J6 _ _ 121 rfl 126 _ 4 48 Tryz.underlying121 sF rfl dC dC base (.slice (some ⟨wb,0,none⟩) (S6.length+1) c) (S6.length+1) cells (Fc.l5 me) R1 b53 _ (Fc.l5 Sr) rfl ig (by intro u hu;simp at hu;rcases hu with rfl | rfl | rfl | rfl<;>rfl) (by have:=HL.out;simp only [List.length_cons] at this;omega) (by have:=F4.size;omega) (fun v2 w2 kT lW jE=> ?_)
 exact Z.out _ rfl _ _ (n4.grown lW (fun k aB=>aB)) ⟨kT,jE.imp id (fun h=>⟨_,h,F4.size⟩),lW.block g (j5 gR) (fun e1=>by have h1:=HW5.out g e1.symm;have h2:=gj.out;omega) |>.trans gR⟩)
 apply Sm.tq 12 _ hf a6
 . (
 intro a7 w1 hh hd hk K Z
 refine Sb.pl ?_
 have Mb:=Sm.v 0 11 hd hk []
 have l6:=Sm.l9 hh [11] [(14,[13])] kR
 clear hd hh
 go_simp
 exact Sb.k Z)
 apply Sm.tq 13 _ hf a6
 . (
 intro a7 w1 hh hd hk K Z
 refine Sb.pl ?_
 have Xy:=Sm.v 12 0 hd hk []
 have l6:=Sm.l9 hh [11] [(14,[])] kR
 clear hd hh
 go_simp
 exact Sb.k Z)
 refine Sm.E6 (k:=14) (n:=78) (Hp wr base g AK mb (.slice (some ⟨wb,0,none⟩) (S6.length+1) c) (S6.length+2) (cells++[.slice none 0 0,.bool false,.int .u64 0,.int .u8 (at_ e.word i:Nat)])) hf.size a6.out rfl (Hp.u5 _ _ _ _ _ _ _ _) kR ?_ ?_
 . (
 intro a7 w1 hh hd hk K Z
 refine Sb.pl ?_
 have Sh:=Sm.v 13 0 hd hk []
 obtain ⟨x54,Kx,ie⟩:=Sm.use (j:=11) (m:=2) hd hk rfl [] kR [] kR rfl rfl rfl
 obtain ⟨LA,QS,Cd⟩:=ie
 have l6:=Sm.l9 hh [11] [] kR
 clear hd hh
 have z0:=n5 2 Cd
 simp at z0
 have fz:=j6 (i:=2) Cd
 obtain ⟨A2,c2,vV,_⟩:=y8 LA
 subst vV
 go_simp
 refine Z.out _ rfl undef _ (n4.setCell (S:=fun k=>k=g) rfl _) ⟨_,u7 LA (n4.setCell (S:=fun k=>k=g) rfl _) (fun k aB e1=> ?_),QS,?_⟩;(subst e1;rcases QS with h | ⟨k2,h,M9⟩;(rw [aB] at h;have h1:=HW5.out _ h.symm;have h2:=gj.out;omega);(rw [aB] at h;injection h with h;have:=j5 mB;omega));exact (k7 Cd _).trans sP)
 refine Sm.E5 (n:=78) kR hf.size a6.out rfl (fun a7 w1 hh hg=> ?_)
 replace s0:=Sm.o hh kR s0
 replace s5:=Sm.o hh kR s5
 replace s7:=Sm.o hh kR s7
 obtain ⟨_,V0⟩:=Sm.M4 (j:=14) (m:=0) hg rfl dC [(11,[])] kR rfl
 have y5:=hh.fr hf
 have l6:=hh.but
 clear hg hh hf a6 gZ
 have hf:=y5;clear y5
 refine Fc.j9 (Zx j8 (Zr [41,42] hf ?_))
 refine y7 0 5 7 hf ?_
 clear hf s0 s5 s7;intro a7 hf sS
 refine Fc.j7 ?_
 obtain ⟨v2,R1,vU,gR⟩:=V0
 replace l6:=l6 _ (fun m hm b h=>SA.all hm h)
 have hvn:∀ k,k<wr.heap.size->lG k≠5->v2.ownBlock≠some k:=fun k cZ M9 h=>by rcases vU with h3 | ⟨k3,h3,yJ⟩;(rw [h] at h3;exact M9 (HW5.out k h3.symm));(rw [h] at h3;injection h3 with h3;omega)
 have hT:∀ k,lG k=0\/lG k=4->¬ ((Value.slice (some ⟨wb,0,none⟩) (S6.length+1) c).ownBlock=some k\/k=g):=fun k h1 h=>by rcases h with h | h;(have:=HW5.out _ h;omega);(rw [h] at h1;have:=gj.out;omega)
 have fP:lG w.heap.size=0:=(H4.out _ (j5 Kz)).trans YB.out
 have DT:=F9.size
 have Ma:∀ k,k<w.heap.size->(own k=0\/own k=4)->lG k=own k:=fun k cZ M9=>(H4.out k oM).trans (Ca k cZ M9)
 obtain ⟨s0,s5,s7⟩:=sS
 refine ⟨_,by have:=HK.out;omega,i+1,_,AK,v2,⟨M5,at_ e.word i⟩::o1::S6,rfl,oM,hf,s0,s5,by rw [s7];rfl,bU.opened Hm nB HW5.out UQ.out H3.out gR l6 R1 vU,sP,?_,?_,l6.heap Kz (hT _ (.inl fP)),?_,fun k cZ M9=> ?_,⟨?_,?_,?_,?_,?_⟩⟩
 . (
 have h9:=HO.out;rw [U3 (aZ o9)] at h9;exact h9)
 . (
 have h9:=HL.out;simp only [List.length_cons] at h9 |-;omega)
 . (
 show (if v2.ownBlock=some w.heap.size then 5 else lG w.heap.size)=0;rw [if_neg (hvn _ (j5 Kz) oM)];exact fP)
 . (
 show (if v2.ownBlock=some k then 5 else lG k)=own k;have h9:=Ma k cZ M9;rw [if_neg (hvn k oM oM)];exact h9)
 . (
 exact l6.os.trans F9.os)
 . (
 exact l6.tape.trans F9.tape)
 . (
 exact l6.output.trans F9.output)
 . (
 exact Nat.le_trans F9.size l6.size)
 . (
 intro k cZ M9;have h9:=Ma k cZ oM;rw [l6.block k oM (hT k oM),F9.block k cZ M9]))
 . (
 have C3:i=e.word.size:=qF
 have nM:=H9 C3;clear C3
 have ho:=HO.out
 rw [List.drop_eq_nil_of_le (by rw [o5];have:=nM.out;omega)] at ho
 have tX:(o1::S6)=opens wy2 ((wl e.word).drop d):=ho
 have ug:=H9 tX;clear ho tX hq
 refine Zo ?_
 refine Zs a8 fun _ a8=> ?_
 obtain ⟨s0,s5,s7,gZ⟩:=sS
 refine Sb.tb 78 fun a6=> ?_
 refine Sb.mO 0 s0 hf a6 ?_
 refine Sb.T 1 hf a6 ?_
 refine Sb.T 2 hf a6 ?_
 refine Sb.T 3 hf a6 ?_ (hF:=fun _ _ h d=>cL h.ext q2)
 refine Sb.mO 4 s0 hf a6 ?_
 refine Sb.T 5 hf a6 ?_
 refine Sb.T 6 hf a6 ?_
 refine Sb.T 7 hf a6 ?_ (hF:=fun _ _ h d=>cL h.ext q2)
 refine Sb.T 8 hf a6 ?_ (hF:=fun _ _ h d=>cL h.ext q2)
 apply Sb.tq 9 _ hf a6
 . (
 intro a7 w1 hh hd hk K Z
 have s65:=Sb.v 8 0 hd hk []
 clear hd
 go_simp
 try simp (disch:=omega) only [Fc.W]
 try rw [show (S6.length:Int)+1-1=(S6.length:Int) by omega]
 exact Sb.k Z)
 refine Sb.T 10 hf a6 ?_
 refine Sb.mN 11 10 0 hf a6 [] ?_
 refine Sb.E hf a6 (fun _ _ h g=>ad (Sb.O h s5) (Sb.f 11 0 g)) ?_
 clear hf a6 s0 s5 s7 gZ;intro a7 w1 hf hx sS
 replace q2:=cL hx q2
 have hB9:=sM.later hx
 have jW:=(hx.block _ (j5 Kz)).trans Kz
 have x9:=n5 0 jW;have DU:=n5 1 jW;have MH:=n5 2 jW
 simp at x9 DU MH
 clear d0 d1 d2 d3 S1 Z3
 refine Zx a8 (rg ?_)
 have bB:=hf.eW 68 69 70 71 72 73 74 75 76 77
 iterate 3 refine Zy ?_
 refine Zc (VP e he w1) ?_;rintro e w5 ⟨rfl,F3⟩
 have hBv:=hB9.later F3
 obtain ⟨wb2,c2,Hi,eH,_,iw,e0,e1,e2,e3,DV,VM⟩:=hBv.top
 injection eH with eH _ he3
 injection eH with eH
 injection eH with eH
 subst eH
 have oh:=hBv.row
 obtain ⟨cz,oh,_⟩:=oh
 simp only [List.length_cons,Nat.add_zero] at oh
 have Ja:=oh.frozenAt (S6.length*4+1)
 have SU:=oh.frozenAt (S6.length*4+2)
 clear e0 e3 DV VM oh x9 DU MH
 refine Zv ?_
 iterate 8 refine Zy ?_
 refine Fc.nil (Dq hf ?_)
 intro a7 hf
 have uR:add (ss,u6) (wl last) (lQ e)=(gd,⟨⟨true,bA e,o1.st.j4⟩,o1.kA⟩::S6):=by unfold add;simp only [lQ,HD.out,Ku.out,HY2.out, <- ug.out];rfl
 refine Fc.mE rfl hf ⟨rfl,aT,AK,.slice (some ⟨wb,0,none⟩) (S6.length+1) c,?_,Ca,?_⟩
 . (
 rw [uR];exact hBv.marked rfl)
 . (
 have h5:=hx.trans (F3.mono hx.size);have fB:n4 (fun k=>k=wb) w5 ((w5.setCell ⟨wb,S6.length*4+1,none⟩ (.bool true)).setCell ⟨wb,S6.length*4+2,none⟩ (.int .u64 (bA e))):=(n4.setCell (S:=fun k=>k=wb) rfl _).trans (n4.setCell (S:=fun k=>k=wb) rfl _);refine ⟨fB.os.trans (h5.os.trans F9.os),fB.tape.trans (h5.tape.trans F9.tape),fB.output.trans (h5.output.trans F9.output),Nat.le_trans F9.size (Nat.le_trans h5.size fB.size),fun k cZ M9=> ?_⟩;have h9:=Ca k cZ oM;have h8:=F9.size;have h7:=h5.size;rw [fB.block k oM (fun e1=>by subst e1;have:=dk.out;omega),h5.block k oM,F9.block k cZ M9]))))
open Go.RowKit Go.Maps
theorem QT (w:World):(Instr.makeSlice 121 (.int .i64 1) (.int .i64 1)).run Tryz.prog w= .ok (.slice (some ⟨w.heap.size,0,none⟩) 1 1) (w.alloc (.cells #[.slice none 0 0,.bool false,.int .u64 0,.int .u8 0] 126)):=by
 obtain ⟨i0,hi,fG,jT,X0⟩:=info_parts sF
 have hr:=run_make (P:=Tryz.prog) (w:=w) 121 126 i0 _ Tryz.underlying121 hi fG .i64 .i64 1 1 oM oM (by rw [X0];omega) oM
 have hc:madeCells (Value.agg #[.slice none 0 0,.bool false,.int .u64 0,.int .u8 0]).cells (Int.toNat 1*4)= #[.slice none 0 0,.bool false,.int .u64 0,.int .u8 0]:=kR
 rw [jT,hc] at hr
 exact hr
def sR (base k0:Nat) (k:Nat):Nat:=if k<base then 4 else if k=k0 then 3 else if k=k0+1 then 5 else if k=k0+2 then 1 else 0
theorem bU.start (w0:World) (base:Nat) (hb:base<=w0.heap.size) {W:World}
  (hW:((w0.alloc (.map #[] 0)).alloc (.cells #[.slice none 0 0,.bool false,.int .u64 0,.int .u8 0] 126)).alloc (.cells #[.slice none 0 0,.map (some w0.heap.size),.slice (some ⟨w0.heap.size+1,0,none⟩) 1 1] 123)=W) :
  bU W base (sR base w0.heap.size) (w0.heap.size+2) (.slice none 0 0) w0.heap.size [] (.slice (some ⟨w0.heap.size+1,0,none⟩) 1 1) 0 [⟨M5,0⟩]/\Below w0.heap.size w0 W:=by
 have tR:Below w0.heap.size w0 W:=by rw [<- hW];exact (((Below.refl _ _).alloc nR _).alloc sP _).alloc sO _
 have h1:=World.ownsMap_made w0 Tryz.prog 9 (plainElem (H:=Unit) Tryz.prog 3)
 have hm:=h1.alloc (.cells #[.slice none 0 0,.bool false,.int .u64 0,.int .u8 0] 126)
 have lX:=hm.alloc (.cells #[.slice none 0 0,.map (some w0.heap.size),.slice (some ⟨w0.heap.size+1,0,none⟩) 1 1] 123)
 rw [hW] at lX
 have hr:=World.ownsRow_lit (base:=base) (e:=126) (size:=4) (w0.alloc (.map #[] 0)) #[.slice none 0 0,.bool false,.int .u64 0,.int .u8 0] 1 sO (by unfold maxLen;omega) rfl
 have R1:=hr.alloc (.cells #[.slice none 0 0,.map (some w0.heap.size),.slice (some ⟨w0.heap.size+1,0,none⟩) 1 1] 123)
 rw [hW] at R1
 have ow:(w0.alloc (.map #[] 0)).heap.size=w0.heap.size+1:=sP
 rw [ow] at R1
 have mB:W.heap[w0.heap.size+2]? =some (.cells #[.slice none 0 0,.map (some w0.heap.size),.slice (some ⟨w0.heap.size+1,0,none⟩) 1 1] 123 (0,0)):=by
  have:=heap_alloc_new ((w0.alloc (.map #[] 0)).alloc (.cells #[.slice none 0 0,.bool false,.int .u64 0,.int .u8 0] 126)) (.cells #[.slice none 0 0,.map (some w0.heap.size),.slice (some ⟨w0.heap.size+1,0,none⟩) 1 1] 123)
  rw [hW] at this
  rw [<- this]
  simp
 have o1:∀ k,k<base->sR base w0.heap.size k=4:=fun k hk=>if_pos hk
 have o2:sR base w0.heap.size w0.heap.size=3:=by unfold sR;rw [if_neg (by omega),if_pos rfl]
 have o3:sR base w0.heap.size (w0.heap.size+1)=5:=by unfold sR;rw [if_neg (by omega),if_neg (by omega),if_pos rfl]
 have o4:sR base w0.heap.size (w0.heap.size+2)=1:=by unfold sR;rw [if_neg (by omega),if_neg (by omega),if_neg (by omega),if_pos rfl]
 refine ⟨⟨⟨o1,mB,o4,o2,lX,⟨[],World.ownsRow_nil _ _ _ _,(fun k hk=>by cases hk),fun i s hi=>by simp at hi⟩,List.Pairwise.nil,sP⟩,_,R1,fun k hk=> ?_,fun i o hi=> ?_⟩,tR⟩
 ·injection hk with hk;subst hk;exact o3
 ·match i,hi with
  | 0,hi =>
   injection hi with hi
   subst hi
   exact ⟨.slice none 0 0,rfl,rfl,rfl,rfl,OA.T7 _ _,fun k hk=>by cases hk⟩
theorem bZ.rs {w:World} {base g mb:Nat} {own:Nat->Nat} {t:TypeId} {xs:List Value} {sv:Value} {ss:List State} (h:bZ w base own g t xs sv mb ss):RS w sv ss:=by
 obtain ⟨cells,h1,h2,h3⟩:=h.row
 rcases h1.2 with ⟨rfl,h0⟩ | ⟨b,cap,cur,rfl,_,_,hc,_⟩
 ·have:ss=[]:=List.eq_nil_of_length_eq_zero h0
  subst this
  exact RS.T7 w
 ·refine ⟨_,_,rfl,hc,fun _=>⟨b,0,rfl,fun i s hi=> ?_⟩⟩
  obtain ⟨av,h4,h5,h6,h7⟩:=h3 i s hi
  have W8:=(H2 hi).1
  refine ⟨av,?_,?_,?_,h7.more (fun _ _ _=>trivial)⟩
  ·rw [Nat.zero_add,h1.cellAt _ oM];exact h4
  ·rw [Nat.zero_add,h1.cellAt _ oM];exact h5
  ·rw [Nat.zero_add,h1.cellAt _ oM];exact h6
theorem pT:∀ (es:List G9) (p:Option (List Nat)),chkL p es=0->(∀ e∈es,okW e.word=true)/\xT (es.map lQ)/\∀ q,p=some q->∀ e∈es,lexlt q (wl e.word)=true
 | [],p,_=>⟨sP,List.Pairwise.nil,sP⟩
 | e::es,p,h=>by
  simp only [chkL] at h
  cases hw:okW e.word with
  | false=>rw [hw] at h;simp at h
  | true =>
   rw [hw] at h
   simp only [if_true] at h
   have hl:chkL (some (wl e.word)) es=0:=by
    cases p with
    | none=>exact h
    | some q =>
     by_cases hc:lexlt q (wl e.word)=true
     ·simpa [hc] using h
     ·simp [hc] at h
   obtain ⟨h1,h2,h3⟩:=pT es _ hl
   refine ⟨fun x hx=> ?_,?_,fun q hq x hx=> ?_⟩
   ·rcases List.mem_cons.1 hx with rfl | hx
    ·exact hw
    ·exact h1 x hx
   ·rw [List.map_cons]
    refine List.pairwise_cons.2 ⟨fun y hy=> ?_,h2⟩
    obtain ⟨x,hx,rfl⟩:=List.mem_map.1 hy
    exact h3 _ rfl x hx
   ·subst hq
    have C5:lexlt q (wl e.word)=true:=by
     by_cases h9:lexlt q (wl e.word)=true
     ·exact h9
     ·simp [h9] at h
    rcases List.mem_cons.1 hx with rfl | hx
    ·exact C5
    ·exact nP _ _ _ C5 (h3 _ rfl x hx)
theorem rL {s:ByteArray} (h:okW s=true):s.size<=255:=by
 unfold okW at h
 simp at h
 omega
def lastW (es:List G9) (i:Nat):ByteArray:=match i with
 | 0=>⟨#[]⟩
 | i+1=>(es[i]?.map G9.word).getD ⟨#[]⟩
theorem LB {es:List G9} {i:Nat} {e:G9} (h:es[i]? =some e) (x:List State×List Open):adds x [] ((es.take (i+1)).map lQ)=add (adds x [] ((es.take i).map lQ)) (wl (lastW es i)) (lQ e):=by
 have ht:es.take (i+1)=es.take i++[e]:=by rw [List.take_add_one,h];rfl
 rw [ht,List.map_append,Ad]
 show add _ _ _=_
 congr 1
 cases i with
 | zero=>rfl
 | succ i =>
  have hl:i<es.length:=by have:=(H2 h).1;omega
  have gr:es.take (i+1)=es.take i++[es[i]]:=by rw [List.take_add_one,F8 hl];rfl
  rw [gr,List.map_append,List.map_cons,List.map_nil,List.getLast?_concat]
  simp [lastW,hl,lQ]
theorem ic (ss:List State) (u6:List Open) (last:List Nat) (e:Wv) (h:u6≠[]):(add (ss,u6) last e).2≠[]:=by
 have h1:=Cc ss u6 (shared last e.1) h
 intro h2
 have h3:=congrArg List.length h2
 unfold add at h3
 simp only [nN,xS,List.length_nil] at h3
 exact h1 (List.eq_nil_of_length_eq_zero oM)
theorem FK (ss:List State) (u6:List Open) (h:u6≠[]):∃ o,(close ss u6 0).2=[o]:=by
 have:=kD ss u6 0 (List.length_pos_iff.2 h)
 match hc:(close ss u6 0).2,this with
 | [o],_=>exact ⟨o,rfl⟩
theorem Ce {w:World} {base g mb j:Nat} {own:Nat->Nat} {sv wv:Value} {ss:List State} {u6:List Open} (h:bU w base own g sv mb ss wv j u6) :
  ∃ M3:Nat->Nat,(∀ k,w.heap.size<=k->M3 k=0)/\(∀ k,k<w.heap.size->M3 k=own k)/\bU w base M3 g sv mb ss wv j u6:=by
 have hb:=h.dP.aS
 have bR:∀ k,k<w.heap.size->(if k<w.heap.size then own k else 0)=own k:=fun k hk=>if_pos hk
 exact ⟨fun k=>if k<w.heap.size then own k else 0,fun k hk=>if_neg (by omega),bR,h.told (fun k hk=>by rw [bR k oM];exact h.dP.lo k hk) (fun k hk _ _=>bR k hk)⟩
theorem n4.lo {w w':World} {own:Nat->Nat} {base:Nat} (h:n4 (fun k=>own k≠0/\own k≠4) w w') (hb:base<=w.heap.size) (na:∀ k,k<base->own k=4):Below base w w' :=
 ⟨h.os,h.tape,h.output,h.size,fun k hk=>h.block k oM (fun h4=>h4.2 (na k hk))⟩
def YC (e:G9):G9:=if e.gone then ⟨e.word,0,e.gone⟩ else e
structure Dra where
 letters:List Int
 weight:Int
 gone:Bool
section
variable {w w':World} {B B':Nat} {v:Value} {l:List Int} {ds:List Dra}
end
abbrev OE (w:World) (base:Nat) (v:Value) (es:List G9):Prop:=w.ownsRow base 64 3 v es.length (GQ es)
theorem jG (a b:List G9):GQ (a++b)=GQ a++GQ b:=by simp [GQ]
theorem OE.T7 (w:World) (base:Nat):OE w base (.slice none 0 0) []:=World.ownsRow_nil _ _ _ _
theorem OE.re {w:World} {base:Nat} {v:Value} {es:List G9} (h:OE w base v es):RE w w.heap.size v es:=by
 rcases h.2 with ⟨rfl,h0⟩ | ⟨g,cap,cur,rfl,_,hh,hc,_⟩
 ·obtain rfl:es=[]:=List.eq_nil_of_length_eq_zero h0
  exact ⟨none,0,rfl,sP,fun h=>absurd h sP⟩
 ·refine ⟨_,_,rfl,hc,fun _=>⟨g,0,rfl,j5 hh,fun j u hu=> ?_⟩⟩
  have:=h.cellAt j (by rw [<- qN];exact (H2 hu).1)
  rw [Nat.zero_add,this,hu]
theorem OE.form {w:World} {base:Nat} {v:Value} {es:List G9} (h:OE w base v es):∃ (A:Option Addr) (c:Nat),v= .slice A es.length c/\es.length<=c:=h.re.form
theorem sU:(Tryz.prog.info? 64).map (fun i=>(i.zero,i.size,i.bytes))=some (some (.agg #[.string ⟨#[]⟩,.int .u32 0,.bool false]),3,24):=kR
theorem zF (e:G9):∀ u∈e.cells,u.oneCell'=true:=by
 intro u hu
 simp [G9.cells] at hu
 rcases hu with rfl | rfl | rfl<;>rfl
theorem Hq (a b:ByteArray) (w:World):(binOp .geq 9 (.string a) (.string b)).run Tryz.prog w= .ok (.bool (!Op.bytesLess a.toList b.toList)) w:=rfl
def Er (z:ByteArray) (e:G9):Bool:= !lexlt (wl e.word) (wl z)
theorem Cf {α:Type} {p:α->Bool} {l:List α} {i n:Nat} (h:((l.take i).filter p).length=n):(l.filter p).take n=(l.take i).filter p:=by
 have h2:l.filter p=(l.take i).filter p++(l.drop i).filter p:=by rw [<- List.filter_append,List.take_append_drop]
 rw [h2, <- h,List.take_left]
theorem zG {α:Type} {p:α->Bool} {l:List α} {i n:Nat} (hi:l.length<=i) (h:((l.take i).filter p).length<=n):(l.filter p).take n=(l.take i).filter p:=by
 rw [List.take_of_length_le hi] at h |-
 exact List.take_of_length_le h
theorem Un (w:World) (es:List G9) (B:Nat) (v:Value) (hB:B<=w.heap.size) (Q9:RE w B v es) (hlen:es.length<=1000000) (z:ByteArray) (n:Nat):Calls Tryz.prog 41 #[v,.string z,.int .i64 n] w fun e w1=>∃ v1,e= .returned v1/\OE w1 w.heap.size v1 ((es.filter (Er z)).take n)/\Below w.heap.size w w1:=by
 refine dT 36 Tryz.func41 fun fr hf s0 s1 s2=> ?_
 have fM:=Q9.any
 obtain ⟨A,cc,rfl,U0⟩:=Q9.form
 clear Q9
 refine Ze fun _ a8=>Zr [] hf ?_
 refine y7 0 1 2 hf ?_
 clear hf s0 s1 s2;intro a7 hf sS
 refine Zs a8 fun _ a8=>Zr [] hf ?_
 refine z8 0 1 2 7 hf ?_
 intro a7 hf sS
 refine Zs a8 fun _ a8=>Ze fun _ j8=>Zr [] hf ?_
 refine D2 0 1 2 7 8 hf ?_
 intro a7 hf sS
 refine Zx j8 (wp_block (wp_loop_ghost (fun gk fr wr=>∃ (i:Nat) (V:Value),gk=es.length-i/\i<=es.length/\Fc.Fr 36 fr/\fr.tmps[0]? =some (.slice A es.length cc)/\fr.tmps[1]? =some (.string z)/\fr.tmps[2]? =some (.int .i64 n)/\fr.tmps[7]? =some V/\fr.tmps[8]? =some (.int .i64 i)/\OE wr w.heap.size V ((es.take i).filter (Er z))/\((es.take i).filter (Er z)).length<=n/\Below w.heap.size w wr) (es.length) ?_ ?_))
 . (
 obtain ⟨s0,s1,s2,s7,s8⟩:=sS
 exact ⟨0,_,rfl,Nat.zero_le _,hf,s0,s1,s2,s7,s8,OE.T7 _ _,Nat.zero_le _,Below.refl _ _⟩)
 . (
 clear hf sS
 rintro gk fr wr ⟨i,V,dA,hi,hf,s0,s1,s2,s7,s8,how,KD,hb⟩
 have HK:=H9 dA;clear dA
 obtain ⟨xs,mC⟩:∃ x,(es.take i).filter (Er z)=x:=⟨_,rfl⟩
 have Ss:xs.length<=es.length:=by have h1:=List.length_filter_le (Er z) (es.take i);rw [List.length_take] at h1;rw [<- mC];omega
 rw [mC] at how KD
 have VS:=H9 mC;clear mC
 rcases Nat.lt_or_ge i es.length with o9 | eV
 . (
 rcases Nat.lt_or_ge xs.length n with nk | nk
 . (
 obtain ⟨Av,cv,rfl,iU⟩:=OE.form (es:=xs) how
 have q1:decide (i<es.length)=true:=decide_eq_true o9
 have q2:decide (xs.length<n)=true:=decide_eq_true nk
 refine Ze fun _ j8=>Ze fun _ l8=> ?_
 have qs:=And.intro q1 q2
 refine Zr [9,10,11,12,13,14,15,16,17] hf ?_
 refine F1 0 1 2 7 8 18 hf ?_
 clear hf s0 s1 s2 s7 s8 qs;intro a7 hf sS
 refine Zx l8 (Fc.l7 sS.2.2.2.2.2 ?_)
 clear q1 q2
 obtain ⟨p,hp⟩:∃ q,es[i]? =some q:=⟨_,F8 o9⟩
 obtain ⟨b,off,rfl,lS,X3,d0,d1,d2⟩:=(fM.below hb).at_ hp
 have A8:(es.take (i+1)).filter (Er z)=xs++[p].filter (Er z):=by rw [List.take_add_one,hp,List.filter_append,VS.out];rfl
 have L4:=H9 A8;clear A8 hp
 refine wp_skip (Zs j8 fun _ j8=>wp_block (Ze fun _ l8=>rg ?_))
 have bB:=hf.B6 21 22 23 24 25 26
 iterate 6 refine Zy ?_
 refine fp fun K Z=> ?_
 go_simp
 rw [Hq]
 go_simp
 apply Z.out;clear Z K
 refine Fc.nil (F1 0 1 2 7 8 27 hf ?_)
 intro a7 hf sS
 refine Zx l8 (Fc.l0 sS.2.2.2.2.2 (fun ib=> ?_) (fun ib=> ?_))
 . (
 rw [qV] at ib
 have eV:Er z p=true:=ib
 have jF:=L4.out
 rw [List.filter_cons,eV] at jF
 simp only [if_true,Bool.false_eq_true,if_false,List.filter_nil,List.append_nil] at jF
 have Ku:=H9 jF;clear jF eV ib L4
 refine rg ?_
 have bB:=hf.B7 28 29 30 31 32 33 34
 iterate 6 refine Zy ?_
 obtain ⟨s0,s1,s2,s7,s8,S0⟩:=sS
 clear bB
 refine Fc.nL (n:=36) (by simp only [Fc.G,hf.size]) hf.defers (fun a7 y5 hT=> ?_)
 have J8:=Fc.h7 hT 0 1 2 7 8 28 33
 simp (decide:=true) only [Fc.G,hf.size,reduceIte,s0,s1,s2,s7,s8] at J8
 replace hf:=y5;clear hT y5 s0 s1 s2 s7 s8 S0
 obtain ⟨s0,s1,s2,s7,s8,bT,ou⟩:=J8
 have bB:=hf.b 34
 refine ⟨?_⟩
 refine wpList_plain rfl fun K5 U6=> ?_
 refine J6 _ _ 29 rfl 64 _ 3 24 Tryz.underlying29 sU rfl dC dC w.heap.size (.slice Av xs.length cv) xs.length _ (Fc.l5 bT) (how.alloc _) wr.heap.size p.cells (Fc.l5 ou) rfl (E8 wr _ _) (zF p) oM (by have:=hb.size;simp;omega) (fun v5 w5 X8 bN M6=>U6 _ _ ?_)
 refine Fc.L.out ?_
 refine Zy ?_
 refine Fc.nil (D2 0 1 2 7 8 hf ?_)
 clear hf s0 s1 s2 s7 s8 bT ou bB;intro a7 hf sS
 have C4:=(hb.alloc hb.size _).grown bN (by have:=hb.size;simp;omega) (fun kk aB=>(how.lt kk aB).1)
 have VT:OE w5 w.heap.size v5 (xs++[p]):=by unfold OE;rw [jG,List.length_append];exact X8
 refine Fc.j9 (Zx j8 (Zr [19,20] hf ?_))
 refine D2 0 1 2 7 8 hf ?_
 intro a7 hf sS
 refine Fc.j7 ?_
 obtain ⟨s0,s1,s2,s7,s8⟩:=sS
 exact ⟨_,by have:=HK.out;omega,i+1,v5,rfl,oM,hf,s0,s1,s2,s7,by rw [s8];rfl,by rw [Ku.out];exact VT,by rw [Ku.out,List.length_append];simp;omega,C4⟩)
 . (
 rw [qV] at ib
 have eV:Er z p=false:=ib
 have jF:=L4.out
 rw [List.filter_cons,eV] at jF
 simp only [if_true,Bool.false_eq_true,if_false,List.filter_nil,List.append_nil] at jF
 have Ku:=H9 jF;clear jF eV ib L4
 refine wp_skip (Fc.j9 (Zx j8 (Zr [19,20] hf ?_)))
 refine D2 0 1 2 7 8 hf ?_
 intro a7 hf sS
 refine Fc.j7 ?_
 obtain ⟨s0,s1,s2,s7,s8⟩:=sS
 exact ⟨_,by have:=HK.out;omega,i+1,_,rfl,oM,hf,s0,s1,s2,s7,by rw [s8];rfl,by rw [Ku.out];exact how,by rw [Ku.out];exact KD,hb⟩))
 . (
 have q1:decide (i<es.length)=true:=decide_eq_true oM
 obtain ⟨Av,cv,rfl,iU⟩:=OE.form (es:=xs) how
 have q2:decide (xs.length<n)=false:=decide_eq_false oM
 refine Ze fun _ j8=>Ze fun _ l8=> ?_
 have qs:=And.intro q1 q2
 refine Zr [9,10,11,12,13,14,15,16,17] hf ?_
 refine F1 0 1 2 7 8 18 hf ?_
 clear hf s0 s1 s2 s7 s8 qs;intro a7 hf sS
 refine Zx l8 (Fc.k9 sS.2.2.2.2.2 ?_)
 have he:(es.filter (Er z)).take n=xs:=by have h9:=Cf (l:=es) (p:=Er z) (i:=i) (n:=n) (by rw [VS.out];omega);rw [h9,VS.out]
 refine Zo ?_
 refine Zs a8 fun _ a8=>Zr [35] hf ?_
 refine p5 6 hf ?_
 intro a7 hf s6
 refine Zx a8 (k8 ?_)
 exact Fc.o6 rfl hf s6 ⟨_,rfl,by rw [he];exact how,hb⟩))
 . (
 have q1:decide (i<es.length)=false:=decide_eq_false oM
 refine Ze fun _ j8=>Ze fun _ l8=> ?_
 have qs:=q1
 refine Zr [9,10,11,12,13,14,15,16,17] hf ?_
 refine F1 0 1 2 7 8 18 hf ?_
 clear hf s0 s1 s2 s7 s8 qs;intro a7 hf sS
 refine Zx l8 (Fc.k9 sS.2.2.2.2.2 ?_)
 have he:(es.filter (Er z)).take n=xs:=by rw [<- VS.out] at KD |-;exact zG oM KD
 refine Zo ?_
 refine Zs a8 fun _ a8=>Zr [35] hf ?_
 refine p5 6 hf ?_
 intro a7 hf s6
 refine Zx a8 (k8 ?_)
 exact Fc.o6 rfl hf s6 ⟨_,rfl,by rw [he];exact how,hb⟩))
open Go.Maps
def PB (W2:World) (z6:Nat->Nat) (base g:Nat) (wv:Value) (mb:Nat) (ss:List State):Sb.Pr:=fun _ w=>∃ P4 pG,(∀ k,k<W2.heap.size->P4 k=z6 k)/\bZ w base P4 g 123 [wv] pG mb ss
theorem PB.u5 (W2:World) (z6:Nat->Nat) (base g:Nat) (wv:Value) (mb:Nat) (ss:List State):Sb.Stable (PB W2 z6 base g wv mb ss):=fun _ w w' hb ⟨P4,pG,h1,h3⟩=>⟨P4,pG,h1,h3.later hb⟩
theorem FL {es:List G9} {i:Nat} {e:G9} (h:es[i]? =some e):lastW es (i+1)=e.word:=by simp [lastW,h]
theorem FM {es:List G9} (h:aP es=0) (i:Nat):(lastW es i).size<=1000000:=by
 cases i with
 | zero=>show (⟨#[]⟩:ByteArray).size<=1000000;decide
 | succ i =>
  simp only [lastW]
  cases hi:es[i]? with
  | none=>show (⟨#[]⟩:ByteArray).size<=1000000;decide
  | some e=>have:=rL ((pT es none h).1 e (T9 hi));simp;omega
theorem VU (w:World) (es:List G9) (B:Nat) (v:Value) (hB:B<=w.heap.size) (Q9:RE w B v es) (hlen:es.length<=100) (QU:aP es≠0):E2 w 27 #[v] (.tuple #[.agg #[.slice none 0 0,.int .u64 0],.int .i64 (aP es:Nat)]):=by
 refine L7 61 Tryz.func27 fun fr hf s0=> ?_
 have fM:=Q9.any
 clear Q9
 have HC:=H9 QU;clear QU
 refine Ze fun _ a8=>Zr [] hf ?_
 refine y4 0 2 hf ?_
 clear hf s0;intro a7 hf sS
 generalize p8:w.alloc (.cells #[.slice none 0 0,.int .u64 0] 38)=W0
 obtain ⟨o7, -, -,E3,R6⟩:=P7 p8
 clear p8
 have fG:w.heap.size<W0.heap.size:=by rw [R6];exact Nat.lt_succ_self _
 clear R6
 have QV:=(fM.below o7).any
 refine Zs a8 fun _ a8=>Ze fun _ j8=>rg ?_
 have bB:=hf.B5 13 14 12 15 16
 refine Zy ?_
 refine Zc (Mr W0 es W0.heap.size v nR QV oM) ?_;rintro e w1 ⟨n1,rfl,p6⟩
 refine Zv ?_
 iterate 5 refine Zy ?_
 refine Fc.nil (y7 0 2 5 hf ?_)
 intro a7 hf sS
 have C9:=(p6.block _ (j5 E3)).trans E3
 clear QV E3
 have F9:=o7.trans (p6.mono o7.size)
 have Eu:w.heap.size<w1.heap.size:=by have:=p6.size;omega
 refine Zs j8 fun _ j8=>Zr [17] hf ?_
 refine z8 0 2 5 18 hf ?_
 intro a7 hf sS
 refine Zx j8 ?_
 have q18:a7.tmps[18]? =some (.bool true):=by rw [sS.2.2.2];have:=HC.out;simp;omega
 obtain ⟨s0,s2,s5,Q0⟩:=sS
 clear Q0
 have Q0:=q18;clear q18
 refine Fc.l7 Q0 ?_
 have z0:=n5 0 C9;have z1:=n5 1 C9;have fz0:=j6 (i:=0) C9;have Ja:=j6 (i:=1) C9
 simp at z0 z1
 refine Ze fun _ j8=>Zr [19,20] hf ?_
 refine y4 2 3 hf ?_
 clear hf s0 s2 s5 Q0;intro a7 hf sS
 refine Zx j8 (k8 ?_)
 exact U2 rfl hf sS.1 sS.2 (k7 (k7 C9 _) _) Tryz.underlying38 rfl kR ⟨rfl,(F9.setCell (p:=⟨w.heap.size,0,none⟩) nR _).setCell (p:=⟨w.heap.size,1,none⟩) nR _⟩
theorem VV (w:World) (es:List G9) (B:Nat) (v:Value) (hB:B<=w.heap.size) (Q9:RE w B v es) (hlen:es.length<=100) (uK:∀ e∈es,GR e) (QU:aP es=0):Calls Tryz.prog 27 #[v] w fun e w1=>∃ sv,e= .returned (.tuple #[.agg #[sv,.int .u64 (build (es.map lQ)).init],.int .i64 0])/\RS w1 sv (build (es.map lQ)).Y2/\(∀ s∈(build (es.map lQ)).Y2,tU s)/\(build (es.map lQ)).Y2.length<=2+255*es.length/\Below w.heap.size w w1:=by
 have tY:=@run_makeMap Tryz.prog
 have Dp:=QT
 refine L7 61 Tryz.func27 fun fr hf s0=> ?_
 have fM:=Q9.any
 clear Q9
 have HC:=H9 QU;clear QU
 clear tY Dp
 refine Ze fun _ a8=>Zr [] hf ?_
 refine y4 0 2 hf ?_
 clear hf s0;intro a7 hf sS
 generalize p8:w.alloc (.cells #[.slice none 0 0,.int .u64 0] 38)=W0
 obtain ⟨o7, -, -,E3,R6⟩:=P7 p8
 clear p8
 have fG:w.heap.size<W0.heap.size:=by rw [R6];exact Nat.lt_succ_self _
 clear R6
 have QV:=(fM.below o7).any
 refine Zs a8 fun _ a8=>Ze fun _ j8=>rg ?_
 have bB:=hf.B5 13 14 12 15 16
 refine Zy ?_
 refine Zc (Mr W0 es W0.heap.size v nR QV oM) ?_;rintro e w1 ⟨n1,rfl,p6⟩
 rw [HC.out]
 refine Zv ?_
 iterate 5 refine Zy ?_
 refine Fc.nil (y7 0 2 5 hf ?_)
 intro a7 hf sS
 have C9:=(p6.block _ (j5 E3)).trans E3
 clear QV E3
 have F9:=o7.trans (p6.mono o7.size)
 have Eu:w.heap.size<w1.heap.size:=by have:=p6.size;omega
 refine Zs j8 fun _ j8=>Zr [17] hf ?_
 refine z8 0 2 5 18 hf ?_
 intro a7 hf sS
 refine Zx j8 (Fc.k9 sS.2.2.2 ?_)
 have tY:=@run_makeMap Tryz.prog
 have Dp:=QT
 skip
 refine wp_skip (Zs a8 fun _ a8=>Zr [21,22,23,24,25] hf ?_)
 refine y7 0 2 6 hf ?_
 intro a7 hf sS
 clear tY Dp
 generalize Y4:((w1.alloc (.map #[] 0)).alloc (.cells #[.slice none 0 0,.bool false,.int .u64 0,.int .u8 0] 126)).alloc (.cells #[.slice none 0 0,.map (some w1.heap.size),.slice (some ⟨w1.heap.size+1,0,none⟩) 1 1] 123)=W2
 obtain ⟨s0,s2,s6⟩:=sS
 try simp only [World.size_alloc] at s6
 try rw [show w1.heap.size+1+1=w1.heap.size+2 from rfl] at s6
 obtain ⟨wK,r8⟩:=bU.start w1 w.heap.size (Nat.le_of_lt Eu) Y4
 have tX:sR w.heap.size w1.heap.size w.heap.size=0:=by unfold sR;rw [if_neg (by omega),if_neg (by omega),if_neg (by omega),if_neg (by omega)]
 clear Y4
 have J1:=(r8.block _ (j5 C9)).trans C9
 have eN:=F9.trans (r8.mono (Nat.le_of_lt Eu))
 obtain ⟨g,hg⟩:∃ g,w1.heap.size+2=g:=⟨_,rfl⟩
 rw [hg] at s6 wK
 obtain ⟨mb,hmb⟩:∃ mb,w1.heap.size=mb:=⟨_,rfl⟩
 rw [hmb] at wK tX
 obtain ⟨QN,YD⟩:∃ f,sR w.heap.size mb=f:=⟨_,rfl⟩
 rw [YD] at wK tX
 obtain ⟨A,cc,rfl,U0⟩:=fM.form
 clear hg YD hmb C9 F9 Eu r8
 have ug:=H9 tX;clear tX
 refine Zs a8 fun _ a8=>Zr [] hf ?_
 refine z8 0 2 6 7 hf ?_
 clear hf s0 s2 s6;intro a7 hf sS
 refine Zs a8 fun _ a8=>Ze fun _ j8=>Zr [26] hf ?_
 refine F1 2 6 7 26 27 28 hf ?_
 intro a7 hf sS
 refine Zx j8 (wp_block ?_)
 have HES:=H9 uK;clear uK
 refine wp_loop_ghost (fun gk fr wr=>∃ (i:Nat) (aT:Nat->Nat) (AK Xw:Value) (qD:List State) (fY:List Open),gk=es.length-i/\i<=es.length/\Fc.Fr 61 fr/\fr.tmps[2]? =some (.pointer (some ⟨w.heap.size,0,none⟩))/\fr.tmps[6]? =some (.pointer (some ⟨g,0,none⟩))/\fr.tmps[7]? =some (.string (lastW es i))/\fr.tmps[26]? =some (.slice A es.length cc)/\fr.tmps[27]? =some (.int .i64 es.length)/\fr.tmps[28]? =some (.int .i64 i)/\bU wr w.heap.size aT g AK mb qD Xw 0 fY/\fY≠[]/\adds ([],[⟨M5,0⟩]) [] ((es.take i).map lQ)=(qD,fY)/\fX i (1+255*i) qD fY/\wr.heap[w.heap.size]? =some (.cells #[.slice none 0 0,.int .u64 0] 38 (0,0))/\aT w.heap.size=0/\Below w.heap.size w wr) (es.length) ?_ ?_
 . (
 obtain ⟨s2,s6,s7,aG,S0,bT⟩:=sS
 exact ⟨0,QN,_,_,[],[⟨M5,0⟩],rfl,Nat.zero_le _,hf,s2,s6,s7,aG,S0,bT,wK,sP,rfl,⟨fun o ho=>by simp at ho;subst ho;exact CY 0 oM,sP⟩,J1,ug.out,eN⟩)
 . (
 clear hf sS
 rintro gk fr wr ⟨i,aT,AK,Xw,qD,fY,hk,hi,hf,s2,s6,s7,aG,S0,bT,sM,Ky,had,eZ,Kz,Ep,hb⟩
 have HK:=H9 hk;have HA:=H9 had;have YB:=H9 Ep;clear hk had Ep wK J1 eN
 have Uk:=fM.below hb
 refine Ze fun _ j8=>Zr [] hf ?_
 refine Z1 2 6 7 26 27 28 29 hf ?_
 clear hf s2 s6 s7 aG S0 bT;intro a7 hf sS
 refine Zs j8 fun _ j8=>Fc.l0 sS.2.2.2.2.2.2 (fun hq=> ?_) (fun hq=> ?_)
 . (
 have o9:i<es.length:=qT
 have HQ:=H9 hq;clear hq
 obtain ⟨e,C3⟩:∃ e,es[i]? =some e:=⟨_,F8 o9⟩
 obtain ⟨b,off,rfl,lS,X3,d0,d1,d2⟩:=Uk.at_ C3
 have tu:=T9 C3
 have yT:=HES.out e tu
 have C8:=rL ((pT es none HC.out).1 e tu)
 have HE:=H9 C3;clear C3 tu
 obtain ⟨lG,QQ,FJ,Sn⟩:=Ce sM
 have H3:=H9 QQ;have H4:=H9 FJ;clear QQ FJ sM
 have R3:=Sn.dP.aS
 refine wp_skip (Zs j8 fun _ j8=>wp_block (Ze fun _ l8=>Zr [30,31,9] hf ?_))
 refine Z1 2 6 7 9 26 27 28 hf ?_
 intro a7 hf sS
 generalize lT:wr.alloc (.cells #[.string e.word,.int .u32 e.weight,.bool e.gone] 64)=W3
 obtain ⟨G4,x0,x1,x2,R0,z9c⟩:=E7 lT
 clear lT
 have sV:wr.heap.size<W3.heap.size:=by rw [z9c];exact Nat.lt_succ_self _
 clear z9c
 clear d0 d1 d2
 have FF:=Sn.later G4
 have fP:=(G4.block _ (j5 Kz)).trans Kz
 clear Sn
 refine Zt l8 fun _ l8=> ?_
 have bB:=hf.B3 32 33 34
 iterate 3 refine Zy ?_
 refine Zc (z9i W3 (lastW es i) e FF Ky eZ oM oM yT (FM HC.out i)) ?_;rintro e w5 ⟨rfl,z9b,sv5,wv5,hB5,Ma,F3⟩
 refine Zv ?_
 refine Fc.nil (F1 2 6 9 26 27 28 hf ?_)
 intro a7 hf sS
 have yK:=F3.heap R0 (fun h=>h.1 (H3.out _ nR))
 have x5:=n5 0 yK
 simp at x5
 clear x0 x1 x2 R0
 have lC:lG w.heap.size=0:=(H4.out _ (j5 Kz)).trans YB.out
 have iC:=F3.heap fP (fun h=>h.1 lC)
 have z9a:z9b w.heap.size=0:=(Ma _ (j5 fP) (.inl lC)).trans lC
 have Su:=H9 z9a;have LC:=H9 lC;clear z9a lC
 refine Zx l8 (Zr [36,37] hf ?_)
 refine F1 2 6 7 26 27 28 hf ?_
 intro a7 hf sS
 refine Fc.j9 (Zx j8 (Zr [38] hf ?_))
 refine F1 2 6 7 26 27 28 hf ?_
 intro a7 hf sS
 refine Fc.j7 ?_
 have hbU:=eZ.add (last:=wl (lastW es i)) (e:=lQ e) oM oM (cX e.word) (by have:=xP yT;show bA e<_;omega)
 have z8z:(lQ e).1.length=e.word.size:=o5 _
 rw [z8z] at hbU
 obtain ⟨s2,s6,s7,aG,S0,bT⟩:=sS
 exact ⟨_,by have:=HK.out;omega,i+1,z9b,sv5,wv5,_,_,rfl,oM,hf,s2,s6,by rw [s7,FL HE.out],aG,S0,by rw [bT];rfl,hB5,ic _ _ _ _ Ky,by rw [LB HE.out,HA.out],⟨hbU.all,by have:=hbU.size;omega⟩,iC,Su.out,hb.trans ((G4.mono hb.size).trans (n4.lo F3 (by have:=hb.size;have:=G4.size;omega) FF.dP.lo))⟩)
 . (
 have C3:i=es.length:=qF
 have nc:=HA.out
 rw [C3,List.take_length] at nc
 have HA2:=H9 nc;clear nc hq
 have nM:=H9 C3;clear C3
 refine Zo ?_
 refine Zt a8 fun _ a8=> ?_
 have bB:=hf.b 39
 refine Zy ?_
 refine Zc (Hk wr 0 sM Ky eZ.bnd oM oM oM) ?_;rintro e w2 ⟨rfl,lG,sv3,wv3,Sn,yJ,G4⟩
 refine Zv ?_
 refine Fc.nil (y4 2 6 hf ?_)
 intro a7 hf sS
 have hU:=De.closeN oM oM (fY.length-(0+1)) qD fY eZ.bnd
 have YA:De i (1+255*i) (close qD fY 0).1 (close qD fY 0).2:=hU
 clear hU
 obtain ⟨o,uz⟩:=FK qD fY Ky
 obtain ⟨ss3,ia⟩:∃ x,(close qD fY 0).1=x:=⟨_,rfl⟩
 rw [ia,uz] at Sn YA
 have HS3:=H9 ia;have HCO:=H9 uz;clear ia uz
 have fP:=G4.heap Kz (fun h=>h.1 YB.out)
 have lC:lG w.heap.size=0:=(yJ _ (j5 Kz) (.inl YB.out)).trans YB.out
 have kU:=hb.trans (n4.lo G4 sM.dP.aS sM.dP.lo)
 clear G4 yJ sM Kz
 obtain ⟨M3,Cb,bR,Hm⟩:=Ce Sn
 have z8x:M3 w.heap.size=0:=(bR _ (j5 fP)).trans lC
 have H0:=H9 Cb;have HP0:=H9 z8x;clear Cb bR Sn lC z8x
 obtain ⟨wb,c,av,rfl,x1r,oD,d0,d1,d2,d3,S1,Z3⟩:=Hm.top
 simp only [List.length_nil,Nat.zero_mul,Nat.zero_add,Nat.add_zero] at d0 d1 d2 d3 Z3
 have q2:=Hm.CW
 have ot:=YA.head o rfl
 have hus:=YA.size
 obtain ⟨Aa,ca,rfl,aa⟩:=(OA.ra (B:=fun _=>True) S1 (fun _ _=>trivial)).form
 have dk:=H9 oD;clear oD
 have z8w:=kU.size
 refine Zt a8 fun _ a8=> ?_
 have bB:=hf.B7 41 42 43 44 45 46 10
 iterate 4 refine Zy ?_
 refine fp fun K Z=> ?_
 go_simp
 try rw [if_pos (by omega)]
 try simp
 apply Z.out;clear Z K
 iterate 3 refine Zy ?_
 refine Fc.nil (y7 2 6 10 hf ?_)
 intro a7 hf sS
 generalize AG:w2.alloc (.cells #[.slice Aa o.st.j4.length ca,.bool o.st.final,.int .u64 o.st.out,.int .u8 o.kA] 126)=W6
 obtain ⟨C4, -, -, -, -,EB,QW⟩:=TG AG
 clear AG
 have hz6:w2.heap.size<W6.heap.size:=by rw [QW];exact Nat.lt_succ_self _
 clear QW
 have hB6:=(Hm.later C4).forget
 have FN:OA W6 w.heap.size (.slice Aa o.st.j4.length ca) o.st.j4:=n3 S1 C4
 have cA:=(C4.block _ (j5 fP)).trans fP
 clear d0 d1 d2 d3 S1 q2
 refine Zs a8 fun _ a8=> ?_
 obtain ⟨n,hn⟩:∃ n,leastOf o.st=n:=⟨_,rfl⟩
 have HN:=H9 hn;clear hn
 refine rg ?_
 have bB:=hf.b 47
 refine Zc (QE W6 w2.heap.size o.kA w.heap.size o.st _ ot.ok EB FN) ?_;rintro e w7 ⟨rfl,bJ,FP,nD⟩
 rw [HN.out] at bJ FP
 rw [HN.out]
 refine Zv ?_
 refine Zy ?_
 refine Fc.nil (z8 2 6 10 11 hf ?_)
 intro a7 hf sS
 have hB7:=hB6.but nD (fun k hk=>by rcases hk with rfl | hk;exact .inl (H0.out _ nR);right;have:=Z3 k hk;simp only [List.length_nil];omega)
 have SX:=nD.heap cA (fun h=>by rcases h with h | h;(have h5:=j5 fP;omega);(have:=Z3 _ h;have:=HP0.out;omega))
 have x1q:=nD.size
 have jz:Below w.heap.size w w7:=kU.trans ((C4.mono z8w).trans (n4.below nD oM (fun k hk=>by rcases hk with rfl | hk;exact z8w;exact (FN.lt k hk).1)))
 have sN:∀ k,M3 k≠6->(if (.slice Aa o.st.j4.length ca:Value).ownBlock=some k then 4 else M3 k)=M3 k:=fun k hk=>if_neg (fun h=>hk (Z3 k h))
 have FF:=hB7.dP.told (aC:=fun k=>if (.slice Aa o.st.j4.length ca:Value).ownBlock=some k then 4 else M3 k) (fun k hk=>by rw [sN k (by have:=hB7.dP.lo k hk;omega)];exact hB7.dP.lo k hk) (fun k _ h1 h2=>sN k oM)
 have S7:RA w7 (fun k=>(if (.slice Aa o.st.j4.length ca:Value).ownBlock=some k then 4 else M3 k)=4) (.slice Aa o.st.j4.length ca) (less o.st n).j4:=OA.ra FP (fun k hk=>if_pos hk)
 obtain ⟨z6,dH⟩:∃ f,(fun k=>if (.slice Aa o.st.j4.length ca:Value).ownBlock=some k then 4 else M3 k)=f:=⟨_,rfl⟩
 have z8v:z6 w.heap.size=0:=by rw [<- dH];exact (sN _ (by have:=HP0.out;omega)).trans HP0.out
 rw [dH] at FF
 replace S7:RA w7 (fun k=>z6 k=4) (.slice Aa o.st.j4.length ca) (less o.st n).j4:=by rw [<- dH];exact S7
 have QX:=H9 z8v;clear z8v sN dH hB7 FP nD cA hB6 FN EB
 have g0:=n5 0 bJ;have g1:=n5 1 bJ;have g2:=n5 2 bJ
 simp at g0 g1 g2
 refine Zs a8 fun _ a8=> ?_
 obtain ⟨s2,s6,u4,D9⟩:=sS
 refine Sm.E4 (n:=61) (fun _ k=>z6 k=1\/z6 k=2\/z6 k=3) [5] (Sb.OkOps.of kR) (fun a6=> ?_)
 refine Sm.mD (k:=0) s6 hf.size a6.out rfl kR rfl rfl (.inl rfl) kR ?_
 apply Sm.tq 1 _ hf a6
 . (
 intro a7 w1 hh hd hk K Z
 refine Sb.pl ?_
 have Jd:=Sm.v 0 0 hd hk []
 have F4:=Sm.r5 hh [(5,[2])] kR
 have l6:=Sm.l9 hh [] [(5,[2])] kR
 clear hd hh
 go_simp
 exact Sb.k Z)
 apply Sm.tq 2 _ hf a6
 . (
 intro a7 w1 hh hd hk K Z
 refine Sb.pl ?_
 have zY:=Sm.v 1 0 hd hk []
 have F4:=Sm.r5 hh [(5,[])] kR
 have l6:=Sm.l9 hh [] [(5,[])] kR
 clear hd hh
 go_simp
 exact Sb.k Z)
 apply Sm.tq 3 _ hf a6
 . (
 intro a7 w1 hh hd hk K Z
 refine Sb.pl ?_
 have u4:=Sm.o hh kR u4
 have F4:=Sm.r5 hh [(5,[4])] kR
 have l6:=Sm.l9 hh [] [(5,[4])] kR
 clear hd hh
 go_simp
 exact Sb.k Z)
 apply Sm.tq 4 _ hf a6
 . (
 intro a7 w1 hh hd hk K Z
 refine Sb.pl ?_
 have qQ:=Sm.v 3 0 hd hk []
 have F4:=Sm.r5 hh [(5,[])] kR
 have l6:=Sm.l9 hh [] [(5,[])] kR
 clear hd hh
 have f0:=cL F4 g0;have f1:=cL F4 g1;have f2:=cL F4 g2
 go_simp
 exact Sb.k Z)
 refine Sm.E6 (k:=5) (n:=61) (PB w7 z6 w.heap.size g (.slice (some ⟨wb,0,none⟩) 1 c) mb (finish ss3 (less o.st n)).1) hf.size a6.out rfl (PB.u5 _ _ _ _ _ _ _) kR ?_ ?_
 . (
 intro a7 w1 hh hd hk K Z
 refine Sb.pl ?_
 have GU:=Sm.v 2 2 hd hk []
 have iv:=Sm.v 4 0 hd hk []
 have F4:=Sm.r5 hh [] kR
 have l6:=Sm.l9 hh [] [] kR
 clear hd hh
 go_simp
 go_at_call 54;refine (dG w1 (FF.later F4) (S7.later F4) (Hj ot oM) (by simp only [List.length_cons,List.length_nil] at hus;omega)).mono ?_;rintro e w2 ⟨rfl,P4,pG,FG,Xz,FH,QJ⟩
 exact Z.out _ rfl _ _ QJ ⟨P4,pG,fun k cZ=>FG k (by have:=F4.size;omega),FH⟩)
 refine Sm.E5 (n:=61) kR hf.size a6.out rfl (fun a7 w1 hh hg=> ?_)
 replace s2:=Sm.o hh kR s2
 replace s6:=Sm.o hh kR s6
 replace D9:=Sm.o hh kR D9
 obtain ⟨_,V0⟩:=Sm.M4 (j:=5) (m:=0) hg rfl dC [] kR rfl
 have y5:=hh.fr hf
 have l6:=hh.but
 clear hg hh hf a6 u4
 have hf:=y5;clear y5
 obtain ⟨P4,pG,FG,FH⟩:=V0
 replace l6:=l6 (fun k=>z6 k=1\/z6 k=2\/z6 k=3) (fun m _ b h=>h)
 have gX:=l6.heap SX (fun h=>by have:=QX.out;have h:z6 w.heap.size=1\/z6 w.heap.size=2\/z6 w.heap.size=3:=h;omega)
 have hpF:P4 w.heap.size=0:=(FG _ (j5 SX)).trans QX.out
 obtain ⟨As,cs,uJ,cB⟩:=FH.form
 subst uJ
 have r0:=FH.cell0
 have z0:=n5 0 gX;have z1:=n5 1 gX;have fz0:=j6 (i:=0) gX;have Ja:=j6 (i:=1) gX
 simp at z0 z1
 have y6l:Below w.heap.size w _:=jz.trans (n4.below l6 (by have:=jz.size;omega) (fun k hk=>by rcases Nat.lt_or_ge k w.heap.size with h | h;(have:=FF.lo k h;omega);exact h))
 have HPF:=H9 hpF;clear hpF S7 FF g0 g1 g2 bJ
 refine Zs a8 fun _ a8=>Zr [54,55,56,57,58,59,60] hf ?_
 refine y4 2 3 hf ?_
 clear hf s2 s6 D9;intro a7 hf sS
 refine Zx a8 (k8 ?_)
 have hS:∀ k,k=w.heap.size->P4 k=0\/5<=P4 k:=fun k hk=>by subst hk;exact .inl HPF.out
 have hF5:=(FH.but (n4.setCell (S:=fun k=>k=w.heap.size) (p:=⟨w.heap.size,0,none⟩) rfl (.slice As (finish ss3 (less o.st n)).1.length cs)) hS).but (n4.setCell (S:=fun k=>k=w.heap.size) (p:=⟨w.heap.size,1,none⟩) rfl (.int .u64 n)) hS
 have y6k:build (es.map lQ)=⟨(finish ss3 (less o.st n)).1,n⟩:=by unfold build;rw [HA2.out];simp only [HS3.out,HCO.out,List.headD_cons,HN.out]
 rw [y6k]
 have MY:(finish ss3 (less o.st n)).1.length<=2+255*es.length:=by have h1:=(iG ss3 (less o.st n)).1;have h2:=YA.size;simp only [List.length_cons,List.length_nil] at h2;omega
 exact U2 rfl hf sS.1 sS.2 (k7 (k7 gX _) _) Tryz.underlying38 rfl kR ⟨_,rfl,hF5.rs,hF5.mJ,MY,(y6l.setCell (p:=⟨w.heap.size,0,none⟩) nR _).setCell (p:=⟨w.heap.size,1,none⟩) nR _⟩))
theorem LD (t i b l:Int):t<0\/(0<=t/\i<=t)\/(0<=t/\t<i/\b<=l)\/(0<=t/\t<i/\l<b):=oM
theorem QY (w:World) (sv:Value) (init:Nat) (ss:List State) (o8:RS w sv ss) (a6:∀ s∈ss,L3 s) (hlen:ss.length<=1000000):E2 w 103 #[.agg #[sv,.int .u64 init]] (.bool (D4 ss)):=by
 refine L7 56 Tryz.func103 fun fr hf s0=> ?_
 obtain ⟨A,cc,rfl,U0⟩:=o8.form
 have HO:=H9 a6;clear a6
 refine Ze fun _ a8=>Zr [] hf ?_
 refine p5 1 hf ?_
 clear hf s0;intro a7 hf s1
 generalize p8:w.alloc (.cells #[.slice A ss.length cc,.int .u64 init] 38)=W0
 obtain ⟨o7,c0,c1, -, -⟩:=P7 p8
 clear p8
 have R9:=o8.later o7
 clear o8
 refine Zs a8 fun _ a8=>Ze fun _ j8=>Zr [8,9] hf ?_
 refine z8 1 9 10 11 hf ?_
 clear hf s1;intro a7 hf sS
 refine Zx j8 (wp_block (wp_loop_ghost (fun gk fr wr=>∃ (i:Nat),gk=ss.length-i/\i<=ss.length/\Fc.Fr 56 fr/\fr.tmps[1]? =some (.pointer (some ⟨w.heap.size,0,none⟩))/\fr.tmps[9]? =some (.slice A ss.length cc)/\fr.tmps[10]? =some (.int .i64 ss.length)/\fr.tmps[11]? =some (.int .i64 i)/\formedL 0 ss=formedL i (ss.drop i)/\Below W0.heap.size W0 wr) (ss.length) ?_ ?_))
 . (
 obtain ⟨s1,s9,u4,D9⟩:=sS
 exact ⟨0,rfl,Nat.zero_le _,hf,s1,s9,u4,D9,rfl,Below.refl _ _⟩)
 . (
 clear hf sS
 rintro gk fr wr ⟨i,hk,hi,hf,s1,s9,u4,D9,D6,hb⟩
 have HK:=H9 hk;have HM:=H9 D6;clear hk D6
 refine Ze fun _ j8=>Zr [] hf ?_
 refine D2 1 9 10 11 12 hf ?_
 clear hf s1 s9 u4 D9;intro a7 hf sS
 refine Zs j8 fun _ j8=>Fc.l0 sS.2.2.2.2 (fun hq=> ?_) (fun hq=> ?_)
 . (
 have o9:i<ss.length:=qT
 have HQ:=H9 hq;clear hq
 obtain ⟨s,N3⟩:∃ s,ss[i]? =some s:=⟨_,F8 o9⟩
 obtain ⟨b,off,av,rfl,C7⟩:=(R9.later hb).at_ N3
 have d0:=C7.c0;have d1:=C7.c1;have d2:=C7.c2
 have S7:=C7.j4
 obtain ⟨A2,c2,rfl,_⟩:=C7.j4.form
 have cY:=HO.out s (T9 N3)
 have A8:=kE N3
 have HS:=H9 N3;have L4:=H9 A8;clear N3 A8 C7
 have Z7:=cY.2.1
 refine wp_skip (Zs j8 fun _ j8=>wp_block (Ze fun _ l8=>Zr [13,14,15,4] hf ?_))
 refine F1 1 3 4 9 10 11 hf ?_
 intro a7 hf sS
 generalize cS:wr.alloc (.cells #[.slice A2 s.j4.length c2,.bool s.final,.int .u64 s.out] 46)=W5
 obtain ⟨F3,x0,x1,x2, -, -⟩:=E7 cS
 clear cS
 clear d0 d1 d2
 have mH:=S7.later F3
 clear S7
 have K8:=o7.trans ((hb.trans (F3.mono hb.size)).mono o7.size)
 refine Zx l8 (Fc.G1 (fun fr wq=>Fc.Fr 56 fr/\fr.tmps[1]? =some (.pointer (some ⟨w.heap.size,0,none⟩))/\fr.tmps[3]? =some (.int .i64 i)/\fr.tmps[4]? =some (.pointer (some ⟨wr.heap.size,0,none⟩))/\fr.tmps[9]? =some (.slice (some ⟨b,off,none⟩) ss.length cc)/\fr.tmps[10]? =some (.int .i64 ss.length)/\fr.tmps[11]? =some (.int .i64 i)/\wq=W5/\(s.final||decide (s.out=0))=true) ?_ ?_)
 . (
 rcases p7:s.final with _ | _
 . (
 have M8:=H9 p7;clear p7
 have q1:=M8.out
 refine Ze fun _ l8=> ?_
 have qs:=q1
 refine Zr [16,17,18,19,20,21,22] hf ?_
 refine Z1 1 3 4 9 10 11 23 hf ?_
 clear hf sS qs;intro a7 hf sS
 refine Zx l8 (Fc.l0 sS.2.2.2.2.2.2 (fun AY=> ?_) (fun AY=> ?_))
 . (
 have AZ:s.out≠0:=by simpa using AY
 have Mm:=H9 AZ;clear AZ AY
 have D5:formedL 0 ss=false:=by rw [HM.out,L4.out,M8.out,decide_eq_false Mm.out];rfl
 have J0:=H9 D5;clear D5
 have N0:=K8
 refine Ze fun _ l8=>Zr [] hf ?_
 refine p5 2 hf ?_
 intro a7 hf s2
 refine Zx l8 (k8 ?_)
 exact Fc.o6 rfl hf s2 ⟨by rw [D4,J0.out];rfl,N0⟩)
 . (
 have AZ:s.out=0:=by simpa using AY
 have Mm:=H9 AZ;clear AZ AY
 have iA:(s.final||decide (s.out=0))=true:=by rw [M8.out,decide_eq_true Mm.out];rfl
 have uC:=H9 iA;clear iA
 refine wp_skip (Fc.j7 ?_)
 obtain ⟨s1,s3,s4,s9,u4,D9,Q3⟩:=sS
 exact ⟨hf,s1,s3,s4,s9,u4,D9,rfl,(by have h9:=uC.out;rw [M8.out] at h9;exact h9)⟩))
 . (
 have M8:=H9 p7;clear p7
 have q1:=M8.out
 refine Ze fun _ l8=> ?_
 have qs:=q1
 refine Zr [16,17,18,19,20,21,22] hf ?_
 refine Z1 1 3 4 9 10 11 23 hf ?_
 clear hf sS qs;intro a7 hf sS
 refine Zx l8 ?_
 have iA:(s.final||decide (s.out=0))=true:=by rw [M8.out];rfl
 have uC:=H9 iA;clear iA
 refine Fc.k9 sS.2.2.2.2.2.2 ?_
 refine wp_skip (Fc.j7 ?_)
 obtain ⟨s1,s3,s4,s9,u4,D9,Q3⟩:=sS
 exact ⟨hf,s1,s3,s4,s9,u4,D9,rfl,(by have h9:=uC.out;rw [M8.out] at h9;exact h9)⟩))
 . (
 clear hf sS
 rintro fr wq ⟨hf,s1,s3,s4,s9,u4,D9,hw,iA⟩
 subst wq
 have uC:=H9 iA;clear iA
 refine Ze fun _ l8=>Zr [] hf ?_
 refine Z1 1 3 4 5 9 10 11 hf ?_
 clear hf s1 s3 s4 s9 u4 D9;intro a7 hf sS
 refine Zs l8 fun _ l8=>Zr [24,25] hf ?_
 refine tZ 1 3 5 9 10 11 25 26 27 hf ?_
 intro a7 hf sS
 refine Zx l8 (wp_block (wp_loop_ghost (fun lR fr pA=>∃ (k:Nat) (last:Int),lR=s.j4.length-k/\k<=s.j4.length/\Fc.Fr 56 fr/\fr.tmps[1]? =some (.pointer (some ⟨w.heap.size,0,none⟩))/\fr.tmps[3]? =some (.int .i64 i)/\fr.tmps[5]? =some (.int .i64 last)/\fr.tmps[9]? =some (.slice (some ⟨b,off,none⟩) ss.length cc)/\fr.tmps[10]? =some (.int .i64 ss.length)/\fr.tmps[11]? =some (.int .i64 i)/\fr.tmps[25]? =some (.slice A2 s.j4.length c2)/\fr.tmps[26]? =some (.int .i64 s.j4.length)/\fr.tmps[27]? =some (.int .i64 k)/\okArcs i (-1) s.j4=okArcs i last (s.j4.drop k)/\Below W5.heap.size W5 pA) (s.j4.length) ?_ ?_))
 . (
 obtain ⟨s1,s3,s5,s9,u4,D9,Z9,aG,S0⟩:=sS
 exact ⟨0, -1,rfl,Nat.zero_le _,hf,s1,s3,s5,s9,u4,D9,Z9,aG,S0,rfl,Below.refl _ _⟩)
 . (
 clear hf sS
 rintro lR fr pA ⟨k,last,M9,aN,hf,s1,s3,s5,s9,u4,D9,Z9,aG,S0,S1,C4⟩
 have xQ:=H9 M9;have Ac:=H9 S1;clear M9 S1
 refine Ze fun _ l8=>Zr [] hf ?_
 refine gV 1 3 5 9 10 11 25 26 27 28 hf ?_
 clear hf s1 s3 s5 s9 u4 D9 Z9 aG S0;intro a7 hf sS
 refine Zs l8 fun _ l8=>Fc.l0 sS.2.2.2.2.2.2.2.2.2 (fun C5=> ?_) (fun C5=> ?_)
 . (
 have bC:k<s.j4.length:=by have h9:=of_decide_eq_true C5;omega
 have xR:=H9 C5;clear C5
 obtain ⟨a,aU⟩:∃ a,s.j4[k]? =some a:=⟨_,F8 bC⟩
 obtain ⟨b3,uD,rfl,X3,y0,y1,y2⟩:=(mH.later C4).at' aU
 have uE:=cY.2.2 a (T9 aU)
 have C7:=nS (i:=i) (last:=last) aU
 have TK:=H9 aU;have zZ:=H9 C7;clear aU C7
 have SP:=uE.1
 rcases LD a.to (i:Int) (a.byte:Int) last with hc | hc | hc | hc
 . (
 have q2:decide (a.to<0)=true:=decide_eq_true hc
 have HC:=H9 hc;clear hc
 refine wp_skip (Zs l8 fun _ l8=>wp_block (Ze fun _ F5=>Zr [29,30,7] hf ?_))
 refine gV 1 3 5 7 9 10 11 25 26 27 hf ?_
 intro a7 hf sS
 generalize fH:pA.alloc (.cells #[.int .u8 a.byte,.int .u64 a.out,.int .i64 a.to] 71)=W7
 obtain ⟨B1,z0, -,z2, -, -⟩:=E7 fH
 clear fH
 clear y0 y1 y2 X3
 have N0:=K8.trans ((C4.trans (B1.mono C4.size)).mono K8.size)
 refine Zs F5 fun _ F5=>Ze fun _ U6=> ?_
 have qs:=q2
 refine Zr [31,32,33,34,35,36,37,38,39,40,41,42,43,44,45] hf ?_
 refine gV 1 3 7 9 10 11 25 26 27 46 hf ?_
 clear hf sS qs;intro a7 hf sS
 refine Zx U6 (Fc.l7 sS.2.2.2.2.2.2.2.2.2 ?_)
 have D5:formedL 0 ss=false:=by rw [HM.out,L4.out,Ac.out,zZ.out];have:=HC.out;rw [decide_eq_false (show ¬ 0<=a.to by omega)];simp
 have J0:=H9 D5;clear D5
 refine Ze fun _ U6=>Zr [] hf ?_
 refine p5 2 hf ?_
 intro a7 hf s2
 refine Zx U6 (k8 ?_)
 exact Fc.o6 rfl hf s2 ⟨by rw [D4,J0.out];rfl,N0⟩)
 . (
 have q2:decide (a.to<0)=false:=decide_eq_false oM
 have q3:decide ((i:Int)<=a.to)=true:=decide_eq_true hc.2
 have HC:=H9 hc;clear hc
 refine wp_skip (Zs l8 fun _ l8=>wp_block (Ze fun _ F5=>Zr [29,30,7] hf ?_))
 refine gV 1 3 5 7 9 10 11 25 26 27 hf ?_
 intro a7 hf sS
 generalize fH:pA.alloc (.cells #[.int .u8 a.byte,.int .u64 a.out,.int .i64 a.to] 71)=W7
 obtain ⟨B1,z0, -,z2, -, -⟩:=E7 fH
 clear fH
 clear y0 y1 y2 X3
 have N0:=K8.trans ((C4.trans (B1.mono C4.size)).mono K8.size)
 refine Zs F5 fun _ F5=>Ze fun _ U6=> ?_
 have qs:=And.intro q2 q3
 refine Zr [31,32,33,34,35,36,37,38,39,40,41,42,43,44,45] hf ?_
 refine gV 1 3 7 9 10 11 25 26 27 46 hf ?_
 clear hf sS qs;intro a7 hf sS
 refine Zx U6 (Fc.l7 sS.2.2.2.2.2.2.2.2.2 ?_)
 have D5:formedL 0 ss=false:=by rw [HM.out,L4.out,Ac.out,zZ.out];have:=HC.out;rw [decide_eq_false (show ¬ a.to<(i:Int) by omega)];simp
 have J0:=H9 D5;clear D5
 refine Ze fun _ U6=>Zr [] hf ?_
 refine p5 2 hf ?_
 intro a7 hf s2
 refine Zx U6 (k8 ?_)
 exact Fc.o6 rfl hf s2 ⟨by rw [D4,J0.out];rfl,N0⟩)
 . (
 have q2:decide (a.to<0)=false:=decide_eq_false oM
 have q3:decide ((i:Int)<=a.to)=false:=decide_eq_false oM
 have q4:decide ((a.byte:Int)<=last)=true:=decide_eq_true hc.2.2
 have HC:=H9 hc;clear hc
 refine wp_skip (Zs l8 fun _ l8=>wp_block (Ze fun _ F5=>Zr [29,30,7] hf ?_))
 refine gV 1 3 5 7 9 10 11 25 26 27 hf ?_
 intro a7 hf sS
 generalize fH:pA.alloc (.cells #[.int .u8 a.byte,.int .u64 a.out,.int .i64 a.to] 71)=W7
 obtain ⟨B1,z0, -,z2, -, -⟩:=E7 fH
 clear fH
 clear y0 y1 y2 X3
 have N0:=K8.trans ((C4.trans (B1.mono C4.size)).mono K8.size)
 refine Zs F5 fun _ F5=>Ze fun _ U6=> ?_
 have qs:=And.intro q2 (And.intro q3 q4)
 refine rg ?_
 have bB:=And.intro (hf.eW 31 32 33 34 35 36 37 38 39 40) (hf.B5 41 42 43 44 45)
 iterate 12 refine Zy ?_
 refine og 9 40 false ?_ fun K Z=> ?_
 . (
 simp (decide:=true) only [Fc.G,reduceIte,hf.size,q2,q3,q4])
 go_simp
 try simp (disch:=omega) only [Fc.wrap_i64]
 apply Z.out;clear Z K
 iterate 3 refine Zy ?_
 refine Fc.nil (gV 1 3 7 9 10 11 25 26 27 46 hf ?_)
 clear hf sS bB qs;intro a7 hf sS
 refine Zx U6 (Fc.l7 sS.2.2.2.2.2.2.2.2.2 ?_)
 have D5:formedL 0 ss=false:=by rw [HM.out,L4.out,Ac.out,zZ.out];have:=HC.out;rw [decide_eq_false (show ¬ last<(a.byte:Int) by omega)];simp
 have J0:=H9 D5;clear D5
 refine Ze fun _ U6=>Zr [] hf ?_
 refine p5 2 hf ?_
 intro a7 hf s2
 refine Zx U6 (k8 ?_)
 exact Fc.o6 rfl hf s2 ⟨by rw [D4,J0.out];rfl,N0⟩)
 . (
 have q2:decide (a.to<0)=false:=decide_eq_false oM
 have q3:decide ((i:Int)<=a.to)=false:=decide_eq_false oM
 have q4:decide ((a.byte:Int)<=last)=false:=decide_eq_false oM
 have HC:=H9 hc;clear hc
 refine wp_skip (Zs l8 fun _ l8=>wp_block (Ze fun _ F5=>Zr [29,30,7] hf ?_))
 refine gV 1 3 5 7 9 10 11 25 26 27 hf ?_
 intro a7 hf sS
 generalize fH:pA.alloc (.cells #[.int .u8 a.byte,.int .u64 a.out,.int .i64 a.to] 71)=W7
 obtain ⟨B1,z0, -,z2, -, -⟩:=E7 fH
 clear fH
 clear y0 y1 y2 X3
 have N0:=K8.trans ((C4.trans (B1.mono C4.size)).mono K8.size)
 refine Zs F5 fun _ F5=>Ze fun _ U6=> ?_
 have qs:=And.intro q2 (And.intro q3 q4)
 refine rg ?_
 have bB:=And.intro (hf.eW 31 32 33 34 35 36 37 38 39 40) (hf.B5 41 42 43 44 45)
 iterate 12 refine Zy ?_
 refine og 9 40 false ?_ fun K Z=> ?_
 . (
 simp (decide:=true) only [Fc.G,reduceIte,hf.size,q2,q3,q4])
 go_simp
 try simp (disch:=omega) only [Fc.wrap_i64]
 apply Z.out;clear Z K
 iterate 3 refine Zy ?_
 refine Fc.nil (gV 1 3 7 9 10 11 25 26 27 46 hf ?_)
 clear hf sS bB qs;intro a7 hf sS
 refine Zx U6 (Fc.k9 sS.2.2.2.2.2.2.2.2.2 ?_)
 have qR:okArcs i (-1) s.j4=okArcs i (a.byte:Int) (s.j4.drop (k+1)):=by rw [Ac.out,zZ.out];have:=HC.out;rw [decide_eq_true (show 0<=a.to by omega),decide_eq_true (show a.to<(i:Int) by omega),decide_eq_true (show last<(a.byte:Int) by omega)];rfl
 have Dr:=H9 qR;clear qR
 refine wp_skip (Zx F5 (rg ?_))
 have bB:=hf.B3 47 48 49
 iterate 2 refine Zy ?_
 refine fp fun K Z=> ?_
 go_simp
 try simp (disch:=omega) only [Fc.wrap_i64]
 apply Z.out;clear Z K
 refine Zy ?_
 refine Fc.nil (tZ 1 3 5 9 10 11 25 26 27 hf ?_)
 intro a7 hf sS
 refine Fc.j9 (Zx l8 (Zr [50] hf ?_))
 refine tZ 1 3 5 9 10 11 25 26 27 hf ?_
 intro a7 hf sS
 refine Fc.j7 ?_
 obtain ⟨s1,s3,s5,s9,u4,D9,Z9,aG,S0⟩:=sS
 exact ⟨_,by have:=xQ.out;omega,k+1,_,rfl,oM,hf,s1,s3,s5,s9,u4,D9,Z9,aG,by rw [S0];rfl,Dr.out,C4.trans (B1.mono C4.size)⟩))
 . (
 have iB:k=s.j4.length:=by have h9:=of_decide_eq_false C5;omega
 have gW:okArcs i (-1) s.j4=true:=by rw [Ac.out,iB,List.drop_length];rfl
 have Mn:=H9 gW;clear gW iB C5
 have JT:=hb.trans ((F3.trans (C4.mono F3.size)).mono hb.size)
 refine Zo ?_
 refine Fc.j9 (Zx j8 (Zr [51] hf ?_))
 refine z8 1 9 10 11 hf ?_
 intro a7 hf sS
 refine Fc.j7 ?_
 obtain ⟨s1,s9,u4,D9⟩:=sS
 exact ⟨_,by have:=HK.out;omega,i+1,rfl,oM,hf,s1,s9,u4,by rw [D9];rfl,by rw [HM.out,L4.out,uC.out,Mn.out];rfl,JT⟩))))
 . (
 have C3:i=ss.length:=qF
 have nM:=H9 C3;clear C3 hq
 have e0:=cL hb c0
 refine Zo ?_
 refine Zs a8 fun _ a8=>Zr [52,53,54,55] hf ?_
 refine p5 2 hf ?_
 intro a7 hf s2
 refine Zx a8 (k8 ?_)
 refine Fc.o6 rfl hf s2 ⟨?_,o7.trans (hb.mono o7.size)⟩
 rw [D4,HM.out,nM.out,List.drop_length]
 rfl))
def QZ (l:List (Nat×Nat)):List Value:=l.flatMap fun x=>[.int .i64 (x.1:Int),.int .i64 (x.2:Int)]
theorem P5 (l:List (Nat×Nat)):(QZ l).length=l.length*2:=by
 induction l with
 | nil=>rfl
 | cons x l ih=>simp only [QZ,List.flatMap_cons,List.length_append,List.length_cons] at ih |-;rw [ih];simp;omega
theorem Y9 (a b:List (Nat×Nat)):QZ (a++b)=QZ a++QZ b:=by simp [QZ]
structure OW (w:World) (base:Nat) (v:Value) (l:List (Nat×Nat)):Prop where
 own:w.ownsRow base 226 2 v l.length (QZ l.reverse)
section
variable {w w':World} {base n b c s k:Nat} {v:Value} {l R:List (Nat×Nat)}
theorem OW.one (w:World) (s:Nat):OW (w.alloc (.cells #[.int .i64 (s:Int),.int .i64 0] 226)) w.heap.size (.slice (some ⟨w.heap.size,0,none⟩) 1 1) [(s,0)] :=
 ⟨World.ownsRow_lit w #[.int .i64 (s:Int),.int .i64 0] 1 nR (by unfold maxLen;omega) rfl⟩
theorem OW.later (h:OW w base v l) (hb:Below w.heap.size w w'):OW w' base v l:=⟨n3 h.own hb⟩
theorem OW.form (h:OW w base v l):∃ A c,v= .slice A l.length c/\l.length<=c:=y8 h.own
theorem OW.top {A:Option Addr} (h:OW w base (.slice A n c) ((s,k)::R)):∃ b,A=some ⟨b,0,none⟩/\base<=b/\w.cell? ⟨b,R.length*2,none⟩=some (.int .i64 (s:Int))/\w.cell? ⟨b,R.length*2+1,none⟩=some (.int .i64 (k:Int)):=by
 have h1:=h.own
 rcases h1.2 with ⟨_,h0⟩ | ⟨b,cap,cur,hv,hb,_⟩
 ·simp at h0
 ·injection hv with hv hn hc
  subst hv;subst hn;subst hc
  refine ⟨b,rfl,hb,?_,?_⟩
  ·rw [h1.cellAt _ (by simp only [List.length_cons];omega),List.reverse_cons,Y9,List.getElem?_append_right (by rw [P5];simp),P5,List.length_reverse,Nat.sub_self]
   rfl
  ·rw [h1.cellAt _ (by simp only [List.length_cons];omega),List.reverse_cons,Y9,List.getElem?_append_right (by rw [P5];simp),P5,List.length_reverse,show R.length*2+1-R.length*2=1 by omega]
   rfl
theorem OW.frozen (h:OW w base (.slice (some ⟨b,0,none⟩) (R.length+1) c) ((s,k)::R)) (i:Nat):w.frozen? ⟨b,i,none⟩=false:=h.own.frozenAt i
theorem OW.bump (h:OW w base (.slice (some ⟨b,0,none⟩) (R.length+1) c) ((s,k)::R)):OW (w.setCell ⟨b,R.length*2+1,none⟩ (.int .i64 ((k:Int)+1))) base (.slice (some ⟨b,0,none⟩) (R.length+1) c) ((s,k+1)::R):=by
 have h1:=(World.ownsRow.stored h.own (R.length*2+1) (.int .i64 ((k:Int)+1))).1
 refine ⟨?_⟩
 have e:QZ ((s,k+1)::R).reverse=(QZ ((s,k)::R).reverse).set (R.length*2+1) (.int .i64 ((k:Int)+1)):=by
  rw [List.reverse_cons,List.reverse_cons,Y9,Y9,List.set_append_right _ _ (by rw [P5];simp),P5,List.length_reverse,show R.length*2+1-R.length*2=1 by omega]
  rfl
 rw [e]
 exact h1
theorem OW.lat (h:OW w base v l) (o:Obj):(w.alloc o).ownsRow base 226 2 v l.length (QZ l.reverse):=h.own.alloc o
theorem OW.push {w5:World} {v5:Value} {t:Nat} (h:w5.ownsRow base 226 2 v5 (l.length+1) (QZ l.reverse++[.int .i64 (t:Int),.int .i64 0])):OW w5 base v5 ((t,0)::l):=by
 refine ⟨?_⟩
 rw [List.reverse_cons,Y9,List.length_cons]
 exact h
theorem OW.cut (h:OW w base (.slice (some ⟨b,0,none⟩) (R.length+1) c) ((s,k)::R)):OW w base (.slice (some ⟨b,0,none⟩) R.length c) R:=by
 have h1:=CV (n:=R.length) h.own
 refine ⟨?_⟩
 rw [List.reverse_cons,Y9,List.take_append_of_le_length (by rw [P5,List.length_reverse];exact nR),List.take_of_length_le (by rw [P5,List.length_reverse];exact nR)] at h1
 exact h1
end
theorem kS (a b:Nat):((a:Int)==(b:Int))=decide (a=b):=by
 by_cases h:a=b
 ·subst h;simp
 ·rw [decide_eq_false h]
  exact beq_false_of_ne oM
def Qa (n:Nat):List (Nat×Nat)->Prop
 | []=>True
 | (s,_)::R=>s+R.length+1<=n/\Qa n R
theorem LG {n:Nat} {l:List (Nat×Nat)} (h:Qa n l):l.length<=n:=by
 cases l with
 | nil=>simp
 | cons x R=>obtain ⟨s,k⟩:=x;have:=h.1;simp only [List.length_cons];omega
def YE (n left len:Nat):Nat:=(n-left)*(n+2)+(n+1-len)
theorem Qb (n left len:Nat) (h:len<=n):YE n left (len+1)<YE n left len:=by unfold YE;omega
theorem VW (n left len:Nat) (h:left<n) (hl:len+1<=n+1):YE n (left+1) len<YE n left (len+1):=by
 unfold YE
 obtain ⟨d,hd⟩:∃ d,n-left=d+1:=⟨n-left-1,oM⟩
 rw [show n-(left+1)=d by omega,hd,Nat.succ_mul]
 omega
theorem Qc:(Tryz.prog.info? 226).map (fun i=>(i.zero,i.size,i.bytes))=some (some (.agg #[.int .i64 0,.int .i64 0]),2,16):=kR
theorem LH (w:World) (sv:Value) (init:Nat) (ss:List State) (o8:RS w sv ss) (a6:∀ s∈ss,L3 s) (hlen:ss.length<=1000000) (h0:0<ss.length) (hA:fK ss):E2 w 104 #[.agg #[sv,.int .u64 init]] (.bool (J7 ss)):=by
 refine L7 79 Tryz.func104 fun fr hf s0=> ?_
 obtain ⟨A,cc,rfl,U0⟩:=o8.form
 have pQ:((ss.length:Int)-1)=((ss.length-1:Nat):Int):=oM
 refine Ze fun _ a8=>Zr [] hf ?_
 refine y4 1 2 hf ?_
 clear hf s0;intro a7 hf sS
 generalize p8:w.alloc (.cells #[.slice A ss.length cc,.int .u64 init] 38)=W0
 obtain ⟨o7,c0,c1, -,R6⟩:=P7 p8
 clear p8
 have fG:w.heap.size<W0.heap.size:=by rw [R6];exact Nat.lt_succ_self _
 clear R6
 have R9:=o8.later o7
 clear o8
 refine Zx a8 (wp_scope_straight ?_)
 refine Ze fun _ a8=>Zr [] hf ?_
 refine y7 1 2 3 hf ?_
 intro a7 hf sS
 refine Zt a8 fun _ a8=> ?_
 have bB:=hf.B6 8 9 10 11 12 13
 iterate 3 refine Zy ?_
 refine fp fun K Z=> ?_
 go_simp
 try simp (disch:=omega) only [Fc.W]
 try rw [pQ]
 apply Z.out;clear Z K
 iterate 3 refine Zy ?_
 refine Fc.nil (z8 1 2 3 4 hf ?_)
 intro a7 hf sS
 generalize P2:W0.alloc (.cells #[.int .i64 ((ss.length-1:Nat):Int),.int .i64 0] 226)=W1
 have hOW:=OW.one W0 (ss.length-1);rw [P2] at hOW
 have p6:Below W0.heap.size W0 W1:=by rw [<- P2];exact (Below.refl _ _).alloc nR _
 clear P2 pQ
 refine Zs a8 fun _ a8=>wp_label ?_
 refine Zs a8 fun _ a8=>wp_block ?_
 have HO:=H9 a6;clear a6
 refine wp_loop_ghost (fun gk fr wr=>∃ (left:Nat) (V:Value) (Wy:List (Nat×Nat)),gk=YE ss.length left Wy.length/\Fc.Fr 79 fr/\fr.tmps[1]? =some (.pointer (some ⟨w.heap.size,0,none⟩))/\fr.tmps[3]? =some (.int .i64 left)/\fr.tmps[4]? =some V/\OW wr W0.heap.size V Wy/\contW ss Wy left=J7 ss/\Qa ss.length Wy/\left<=ss.length/\Below W0.heap.size W0 wr) (YE ss.length 0 1) ?_ ?_
 . (
 obtain ⟨s1,s2,s3,s4⟩:=sS
 exact ⟨0,_,[(ss.length-1,0)],rfl,hf,s1,s3,s4,hOW,rfl,⟨sO,trivial⟩,Nat.zero_le _,p6⟩)
 . (
 clear hf sS
 rintro gk fr wr ⟨left,V,Wy,hk,hf,s1,s3,s4,how,hct,hwy,hlf,hb⟩
 have HK:=H9 hk;have HC:=H9 hct;clear hk hct
 obtain ⟨AV,cv,rfl,iU⟩:=how.form
 have XD:=LG hwy
 refine Ze fun _ j8=>Ze fun _ l8=>Zr [14,15] hf ?_
 refine z8 1 3 4 16 hf ?_
 clear hf s1 s3 s4;intro a7 hf sS
 refine Zx l8 (Fc.l0 sS.2.2.2 (fun hq=> ?_) (fun hq=> ?_))
 . (
 obtain ⟨⟨s,k⟩,R,rfl⟩:=List.exists_cons_of_ne_nil (show Wy≠[] by rintro rfl;simp at hq)
 have HQ:=H9 hq;clear hq
 obtain ⟨b,rfl,lS,d0,d1⟩:=how.top
 have ow:=hwy.1
 simp only [List.length_cons] at *
 obtain ⟨st,A8⟩:∃ st,ss[s]? =some st:=⟨_,F8 oM⟩
 have Se:K2 ss s=st.j4:=by simp [K2,A8]
 obtain ⟨b2,Ms,av,eH,VX⟩:=R9.at_ A8
 subst eH
 have hrA:=VX.j4
 have d5:=H7 hb VX.c0 (G2 VX.c0)
 obtain ⟨A2,c2,rfl,uG⟩:=hrA.form
 have cY:=HO.out st (T9 A8)
 have Z7:=cY.2.1
 have Np:=H9 Se;have L4:=H9 A8;clear Se A8 VX cY
 have e0:=H7 hb c0 fG
 have VY:=hlen
 refine wp_skip (Zx j8 (wp_block (Ze fun _ j8=>rg ?_)))
 have bB:=hf.B5 17 18 19 20 21
 iterate 3 refine Zy ?_
 refine fp fun K Z=> ?_
 go_simp
 try simp (disch:=omega) only [Fc.W]
 try rw [show ((R.length:Int)+1-1)=(R.length:Int) by omega]
 apply Z.out;clear Z K
 iterate 2 refine Zy ?_
 refine Fc.nil (z8 1 3 4 5 hf ?_)
 intro a7 hf sS
 refine Zs j8 fun _ j8=> ?_
 obtain ⟨s1,s3,s4,s5⟩:=sS
 refine Sb.tb 79 fun a6=> ?_
 have lf:=H9 fun (w9:World) (h9:Below _ _ w9)=>ad (cL h9 e0) (ad (cL h9 d0) (cL h9 d5))
 refine Sb.T 0 hf a6 ?_ (hF:=fun _ _ h d=>Sb.O h s1)
 refine Sb.T 1 hf a6 ?_ (hF:=fun _ _ h d=>lf.out _ h.ext)
 refine Sb.mO 2 s5 hf a6 ?_
 refine Sb.T 3 hf a6 ?_
 refine Sb.T 4 hf a6 ?_
 refine Sb.T 5 hf a6 ?_ (hF:=fun _ _ h d=>lf.out _ h.ext)
 refine Sb.T 6 hf a6 ?_
 refine Sb.T 7 hf a6 ?_
 apply Sb.tq 8 _ hf a6
 . (
 intro a7 w1 hh hd hk K Z
 have cT:=Sb.v 7 0 hd hk []
 clear hd
 have L1:=lf.out _ hh.ext;(try clear e0 d0 d5);obtain ⟨e0,d0,d5⟩:=L1
 go_simp
 exact Sb.k Z)
 refine Sb.mN 9 8 0 hf a6 [] ?_
 refine Sb.E hf a6 (fun _ _ h g=>ad (Sb.O h s1) (ad (Sb.O h s3) (ad (Sb.O h s4) (ad (Sb.O h s5) (Sb.f 9 0 g))))) ?_
 clear hf a6 s1 s3 s4 s5;intro a7 w1 hf hx sS
 have L1:=lf.out _ hx;(try clear e0 d0 d5);clear lf;obtain ⟨e0,d0,d5⟩:=L1
 refine Zx j8 ?_
 have LJ:=how.later hx
 have mB:=hb.trans (hx.mono hb.size)
 clear e0 d0 d5 d1
 refine Ze fun _ j8=>wp_block (wp_loop_ghost (fun lR fr pA=>∃ (k2:Nat),lR=st.j4.length-k2/\Fc.Fr 79 fr/\fr.tmps[1]? =some (.pointer (some ⟨w.heap.size,0,none⟩))/\fr.tmps[3]? =some (.int .i64 left)/\fr.tmps[4]? =some (.slice (some ⟨b,0,none⟩) (R.length+1) cv)/\fr.tmps[5]? =some (.pointer (some ⟨b,R.length*2,none⟩))/\fr.tmps[6]? =some (.slice A2 st.j4.length c2)/\OW pA W0.heap.size (.slice (some ⟨b,0,none⟩) (R.length+1) cv) ((s,k2)::R)/\contW ss ((s,k2)::R) left=J7 ss/\Below W0.heap.size W0 pA) (st.j4.length-k) ?_ ?_)
 . (
 obtain ⟨s1,s3,s4,s5,s6⟩:=sS
 exact ⟨k,rfl,hf,s1,s3,s4,s5,s6,LJ,HC.out,mB⟩)
 . (
 clear hf sS
 rintro lR fr pA ⟨k2,M9,hf,s1,s3,s4,s5,s6,bS,z8u,r8⟩
 have xQ:=H9 M9;have KG:=H9 z8u;clear M9 z8u
 obtain ⟨b9,he9,_,f0,f1⟩:=bS.top
 injection he9 with he9
 injection he9 with he9
 subst he9
 refine Ze fun _ l8=>Ze fun _ F5=>Zr [31,32,33,34,35,36] hf ?_
 refine F1 1 3 4 5 6 37 hf ?_
 clear hf s1 s3 s4 s5 s6;intro a7 hf sS
 refine Zx F5 (Fc.l0 sS.2.2.2.2.2 (fun C5=> ?_) (fun C5=> ?_))
 . (
 have bC:k2<st.j4.length:=by have h9:=of_decide_eq_true C5;omega
 have xR:=H9 C5;clear C5
 obtain ⟨a,aU⟩:∃ a,st.j4[k2]? =some a:=⟨_,F8 bC⟩
 obtain ⟨b3,uD,rfl,X3,_,_,y2⟩:=hrA.at' aU
 have z2:=H7 r8 y2 (G2 y2)
 have jy:(K2 ss s)[k2]? =some a:=by rw [Np.out];exact aU
 have uE:=hA s a (T9 jy)
 obtain ⟨t,ht⟩:∃ t:Nat,a.to=(t:Int):=⟨a.to.toNat,oM⟩
 have htt:a.to.toNat=t:=oM
 have nq:t<s:=oM
 have HT:=H9 ht;have zb:=H9 htt;have TK:=H9 jy
 rw [ht] at z2
 clear aU jy ht htt uE y2
 have fz:=bS.frozen (R.length*2+1)
 have LK:=bS.bump
 refine wp_skip (Zx l8 (wp_block (Ze fun _ l8=>Zr [38,39,40,41,42,43,44,45] hf ?_)))
 refine F1 1 3 4 5 6 7 hf ?_
 intro a7 hf sS
 refine Zs l8 fun _ l8=>Zr [46,47,48,49,50,51,52] hf ?_
 refine F1 1 3 4 5 6 7 hf ?_
 intro a7 hf sS
 refine Zs l8 fun _ l8=>Zr [53,54] hf ?_
 refine Z1 1 3 4 5 6 7 55 hf ?_
 intro a7 hf sS
 refine Zx l8 ?_
 have G4:Below W0.heap.size W0 (pA.setCell ⟨b,R.length*2+1,none⟩ (.int .i64 ((k2:Int)+1))):=r8.setCell (p:=⟨b,R.length*2+1,none⟩) lS _
 obtain ⟨W3,lT⟩:∃ W3,pA.setCell ⟨b,R.length*2+1,none⟩ (.int .i64 ((k2:Int)+1))=W3:=⟨_,rfl⟩
 rw [lT] at G4 LK
 try rw [lT]
 clear lT f0 f1 z2
 refine Fc.l0 sS.2.2.2.2.2.2 (fun R0=> ?_) (fun R0=> ?_)
 . (
 have eV:(left:Int)<=a.to:=by rw [HT.out];have h9:=of_decide_eq_true R0;omega
 have oe:=JV (rest:=R) hA TK.out eV
 rw [zb.out] at oe
 have HCP:=H9 oe;clear oe eV
 have HQ3:=H9 R0;clear R0
 refine Ze fun _ l8=>rg ?_
 have bB:=hf.B5 56 57 58 59 60
 iterate 4 refine Zy ?_
 obtain ⟨s1,s3,s4,s5,s6,s7,Xy⟩:=sS
 clear bB
 refine Fc.nL (n:=79) (by simp only [Fc.G,hf.size]) hf.defers (fun a7 y5 hT=> ?_)
 have J8:=Fc.h5 hT 1 3 4 56 59
 simp (decide:=true) only [Fc.G,hf.size,reduceIte,s1,s3,s4] at J8
 replace hf:=y5;clear hT y5 s1 s3 s4 s5 s6 s7 Xy
 obtain ⟨s1,s3,s4,Sh,de⟩:=J8
 have bB:=hf.b 60
 refine ⟨?_⟩
 refine wpList_plain rfl fun K5 U6=> ?_
 refine J6 _ _ 227 rfl 226 _ 2 16 Tryz.underlying227 Qc rfl dC dC W0.heap.size (.slice (some ⟨b,0,none⟩) (R.length+1) cv) (R.length+1) _ (Fc.l5 Sh) (OW.lat LK _) W3.heap.size [.int .i64 (t:Int),.int .i64 0] (Fc.l5 de) rfl (E8 W3 _ _) (by intro u hu;simp at hu;rcases hu with rfl | rfl<;>rfl) oM (by have:=G4.size;simp;omega) (fun v5 w5 X8 bN M6=>U6 _ _ ?_)
 refine Fc.L.out ?_
 refine Zy ?_
 refine Fc.nil (y7 1 3 4 hf ?_)
 clear hf s1 s3 s4 Sh de bB;intro a7 hf sS
 have eS:=OW.push X8
 have F3:Below W0.heap.size W0 w5:=(G4.alloc G4.size _).grown bN (by have:=G4.size;simp;omega) (fun kk aB=>by injection aB with aB;subst aB;exact lS)
 refine Zx l8 (Zo ?_)
 refine Fc.j7 ?_
 obtain ⟨s1,s3,s4⟩:=sS
 exact ⟨_,by have:=HK.out;rw [this];exact Qb _ _ _ oM,left,v5,(t,0)::(s,k2+1)::R,rfl,hf,s1,s3,s4,eS,by rw [<- HCP.out];exact KG.out,⟨by simp only [List.length_cons];omega,hwy⟩,hlf,F3⟩)
 . (
 have eV:¬ (left:Int)<=a.to:=by rw [HT.out];have h9:=of_decide_eq_false R0;omega
 have zv:=JW (rest:=R) TK.out eV
 have HCN:=H9 zv;clear zv eV
 have HQ3:=H9 R0;clear R0
 refine wp_skip (Fc.j9 (Fc.j7 ?_))
 obtain ⟨s1,s3,s4,s5,s6,s7,Xy⟩:=sS
 exact ⟨_,by have:=xQ.out;omega,k2+1,rfl,hf,s1,s3,s4,s5,s6,LK,by rw [<- HCN.out];exact KG.out,G4⟩))
 . (
 have hle:st.j4.length<=k2:=by have h9:=of_decide_eq_false C5;omega
 have hce:=Mp (left:=left) (rest:=R) (show (K2 ss s).length<=k2 by rw [Np.out];exact hle)
 have HCE:=H9 hce;clear hce C5
 refine Zo ?_
 refine Zs j8 fun _ j8=>Ze fun _ l8=>Zr [61,62,63,64,65] hf ?_
 refine z8 1 3 4 66 hf ?_
 intro a7 hf sS
 refine Zx l8 (Fc.l0 sS.2.2.2 (fun R0=> ?_) (fun R0=> ?_))
 . (
 have F0:s≠left:=by simp at R0;omega
 have p7:J7 ss=false:=by rw [<- KG.out,HCE.out,if_neg F0]
 have tg:=H9 p7;clear p7 R0
 refine Ze fun _ l8=>Zr [] hf ?_
 refine p5 2 hf ?_
 intro a7 hf s2
 refine Zx l8 (k8 ?_)
 exact Fc.o6 rfl hf s2 ⟨by rw [tg.out],o7.trans (r8.mono (Nat.le_of_lt fG))⟩)
 . (
 have heq:s=left:=by simp at R0;omega
 have oe:contW ss R (left+1)=J7 ss:=by rw [<- KG.out,HCE.out,if_pos heq]
 have HCP:=H9 oe;clear oe R0
 have HEQ:=H9 heq;clear heq
 clear f0 f1
 refine wp_skip (Zs j8 fun _ j8=>Zr [67,68] hf ?_)
 refine y7 1 3 4 hf ?_
 intro a7 hf sS
 refine Zx j8 (rg ?_)
 have bB:=hf.B5 69 70 71 72 73
 iterate 3 refine Zy ?_
 refine fp fun K Z=> ?_
 go_simp
 try simp (disch:=omega) only [Fc.W]
 try rw [show ((R.length:Int)+1-1)=(R.length:Int) by omega]
 apply Z.out;clear Z K
 refine fp fun K Z=> ?_
 go_simp
 try rw [if_pos (by omega)]
 apply Z.out;clear Z K
 refine Zy ?_
 refine Fc.nil (y7 1 3 4 hf ?_)
 intro a7 hf sS
 refine Fc.j9 (Fc.j7 ?_)
 have hlv:left<ss.length:=by have:=HEQ.out;omega
 obtain ⟨s1,s3,s4⟩:=sS
 exact ⟨_,by have:=HK.out;rw [this];exact VW _ _ _ hlv oM,left+1,_,R,rfl,hf,s1,s3,s4,bS.cut,HCP.out,hwy.2,oM,r8⟩))))
 . (
 have Sa:Wy=[]:=by have h9:=of_decide_eq_false hq;exact List.eq_nil_of_length_eq_zero oM
 subst Sa
 have e0:=H7 hb c0 fG
 have p7:J7 ss=decide (left=ss.length):=HC.out.symm
 have tg:=H9 p7;clear p7
 refine Zo ?_
 refine Zs a8 fun _ a8=>Zr [74,75,76,77,78] hf ?_
 refine p5 2 hf ?_
 intro a7 hf s2
 refine Zx a8 (k8 ?_)
 exact Fc.o6 rfl hf s2 ⟨by rw [tg.out, <- kS],o7.trans (hb.mono (Nat.le_of_lt fG))⟩))
end Dw
end Go.Proofs.YtcddnmhmcieebaaGreatDoor
