/- Dawg: the number of a state. -/
import Derived.Test.YtcddnmhmcieebaaGreatDoorY1
import Derived.Test.YtcddnmhmcieebaaGreatDoorY2
import Derived.Test.YtcddnmhmcieebaaGreatDoorTools
namespace Go.Proofs.YtcddnmhmcieebaaGreatDoor
set_option maxHeartbeats 4000000
set_option maxRecDepth 100000
open Go.RowKit
set_option linter.unusedSimpArgs false
set_option linter.unusedVariables false
set_option linter.unnecessarySimpa false
namespace Dw
open Go.Maps
def x1m (w4:World) (base g:Nat) (t:TypeId) (xs:List Value) (sv:Value) (mb n:Nat) (cells:List Value):Sb.Pr:=fun v w=>w.ownsRow base 46 3 v n cells/\(v.ownBlock=sv.ownBlock\/∃ k,v.ownBlock=some k/\w4.heap.size<=k)/\w.heap[g]? =some (.cells (sv:: .map (some mb)::xs).toArray t (0,0))
theorem x1m.u5 (w4:World) (base g:Nat) (t:TypeId) (xs:List Value) (sv:Value) (mb n:Nat) (cells:List Value):Sb.Stable (x1m w4 base g t xs sv mb n cells):=fun v w w' hb ⟨h1,h2,h3⟩=>⟨l5 h1 hb,h2,(hb.block g (j4 h3)).trans h3⟩
def x1l (w4:World) (base g:Nat) (t:TypeId) (xs:List Value) (sv:Value) (mb n:Nat) (cells:List Value):Sb.Pr:=fun _ w=>∃ v,w.ownsRow base 46 3 v n cells/\(v.ownBlock=sv.ownBlock\/∃ k,v.ownBlock=some k/\w4.heap.size<=k)/\w.heap[g]? =some (.cells (v:: .map (some mb)::xs).toArray t (0,0))
theorem x1l.u5 (w4:World) (base g:Nat) (t:TypeId) (xs:List Value) (sv:Value) (mb n:Nat) (cells:List Value):Sb.Stable (x1l w4 base g t xs sv mb n cells):=fun _ w w' hb ⟨v,h1,h2,h3⟩=>⟨v,l5 h1 hb,h2,(hb.block g (j4 h3)).trans h3⟩
theorem w1x {w:World} {B:Nat->Prop} {v:Value} {l:List r7} (h:RA w B v l):v.oneCell'=true:=by
 obtain ⟨A,c,rfl,_⟩:=h.form
 rfl
theorem n4.via {S S' T:Nat->Prop} {w w1 w4 w5:World} (h1:Below w.heap.size w w1) (h4:n4 S w1 w4) (h5:n4 S' w4 w5) (hT:∀ k,k<w.heap.size->(S k\/S' k)->T k):n4 T w w5 :=
 ⟨h5.os.trans (h4.os.trans h1.os),h5.tape.trans (h4.tape.trans h1.tape),h5.output.trans (h4.output.trans h1.output),Nat.le_trans h1.size (Nat.le_trans h4.size h5.size),fun k hk hn=>by
  have hs1:=h1.size
  have hs4:=h4.size
  rw [h5.block k oM (fun e=>hn (hT k hk (.inr e))),h4.block k oM (fun e=>hn (hT k hk (.inl e))),h1.block k hk]⟩
theorem cH (w:World) {base g mb:Nat} {own:Nat->Nat} {t:TypeId} {xs:List Value} {sv:Value} {ss:List State} {s:State} {av:Value} (hR:bC w base own g t xs sv mb ss) (bA:RA w (fun k=>own k=4) av s.a6) (a8:tN s) (hlen:ss.length<1000000):Calls Tryz.prog 54 #[.pointer (some ⟨g,0,none⟩),z9d av s] w fun e w1=>e= .returned (.int .i64 ((finish ss s).2:Nat))/\∃ Y6 sv',(∀ k,k<w.heap.size->Y6 k=own k)/\(∀ k,w.heap.size<=k->Y6 k=2)/\bC w1 base Y6 g t xs sv' mb (finish ss s).1/\n4 (fun k=>own k=1\/own k=2\/own k=3) w w1:=by
 refine aT 43 Tryz.func54 fun fr hf s0 s1=> ?_
 have hRg:=hR.told (Y6:=fun k=>if k<w.heap.size then own k else 2) (fun k hk=>by rw [if_pos (by have:=hR.aC;omega)];exact hR.lo k hk) (fun k hk _ _=>if_pos hk)
 have y7y:=bA.more (B':=fun k=>(if k<w.heap.size then own k else 2)=4) (fun k hk h4=>by rw [if_pos hk];exact h4)
 obtain ⟨sK,z6r⟩:∃ f,(fun k=>if k<w.heap.size then own k else 2)=f:=⟨_,rfl⟩
 have nL:∀ k,w.heap.size<=k->sK k=2:=fun k hk=>by rw [<- z6r];exact if_neg (by omega)
 have n8:∀ k,k<w.heap.size->sK k=own k:=fun k hk=>by rw [<- z6r];exact if_pos hk
 replace hRg:bC w base sK g t xs sv mb ss:=by rw [<- z6r];exact hRg
 replace y7y:RA w (fun k=>sK k=4) av s.a6:=by rw [<- z6r];exact y7y
 clear z6r hR bA
 have HGE:=H9 nL;have HLT:=H9 n8;clear nL n8
 have G5:=hRg.aC
 simp only [z9d] at s1
 refine Ze fun _ b7=>Zr [] hf ?_
 refine C1 0 3 hf ?_
 clear hf s0 s1;intro a7 hf sS
 generalize p8:w.alloc (.cells #[av,.bool s.final,.int .u64 s.out] 46)=W0
 obtain ⟨p9,c0,c1,c2, -,T1⟩:=G1 p8
 clear p8
 have gE:w.heap.size<W0.heap.size:=by rw [T1];exact Nat.lt_succ_self _
 clear T1
 have hR0:=hRg.later p9
 have w1w:=y7y.later p9
 clear hRg y7y
 refine Zt b7 fun _ b7=> ?_
 have bB:=hf.B2 8 9
 refine Zy ?_
 refine Zc (v3y W0 s _ av w1w a8.ok a8.to a8.uG) ?_;rintro e w1 ⟨rfl,n7⟩
 refine Zv ?_
 refine Zy ?_
 refine Fc.nil (B1 0 3 5 hf ?_)
 clear hf sS bB;intro a7 hf sS
 replace c0:=cL n7 c0;replace c1:=cL n7 c1;replace c2:=cL n7 c2;have zU:=hR0.later n7;have v1d:=w1w.later n7;have w1v:=p9.trans (n7.mono p9.size)
 clear hR0 w1w n7
 have r0:=zU.cell0;have r1:=zU.v3u
 refine Zx b7 ?_
 by_cases K0:s∈ss
 . (
 obtain ⟨i,hi,P2,kD⟩:=aB K0
 have hlk:=x2z zU.map a8 zU.S7 zU.nodup hi
 have HI:=H9 hi;have P9:=H9 kD;have HIN:=H9 K0;clear hi kD K0
 refine Ze fun _ b7=>Zr [11,12,13,14,15,16,10,17,18] hf ?_
 refine D0 0 3 5 6 7 hf ?_
 clear hf sS;intro a7 hf sS
 refine Zs b7 fun _ b7=>Ze fun _ j8=>Zr [19] hf ?_
 refine D0 0 3 5 6 20 hf ?_
 clear hf sS;intro a7 hf sS
 refine Zx j8 (Fc.k9 sS.2.2.2.2 ?_)
 refine wp_skip (Zs b7 fun _ b7=>Zr [42] hf ?_)
 refine r6 4 hf ?_
 clear hf sS;intro a7 hf s4
 refine Zx b7 (k8 ?_)
 refine Fc.o9 rfl hf s4 ⟨by rw [P9.out],sK,sv,HLT.out,HGE.out,?_,n4.of _ w1v⟩
 rw [P9.out]
 exact zU)
 . (
 have kD:=dJ K0
 obtain ⟨c,hlk⟩:=y0e zU.map a8 zU.S7 K0
 have P9:=H9 kD;have HIN:=H9 K0;clear kD K0
 obtain ⟨A,cc,hsv,Z3⟩:=zU.form
 have HSV:=H9 hsv
 rw [hsv] at r0
 clear hsv
 refine Ze fun _ b7=>Zr [11,12,13,14,15,16,10,17,18] hf ?_
 refine D0 0 3 5 6 7 hf ?_
 clear hf sS;intro a7 hf sS
 refine Zs b7 fun _ b7=>Ze fun _ j8=>Zr [19] hf ?_
 refine D0 0 3 5 6 20 hf ?_
 clear hf sS;intro a7 hf sS
 refine Zx j8 (Fc.l8 sS.2.2.2.2 ?_)
 refine Ze fun _ j8=>Zr [21,22,23,24,25] hf ?_
 refine C0 0 3 5 6 hf ?_
 clear hf sS;intro a7 hf sS
 refine Zt j8 fun _ j8=> ?_
 have bB:=hf.B6 26 27 28 29 30 31
 iterate 6 refine Zy ?_
 obtain ⟨s0,s3,s5,s6⟩:=sS
 clear bB
 refine Fc.lQ (n:=43) (by simp only [Fc.G,hf.size]) hf.defers (fun a7 u3 hT=> ?_)
 have G9:=Fc.h6 hT 0 3 6 29 30 31
 simp (decide:=true) only [Fc.G,hf.size,reduceIte,s0,s3,s6] at G9
 replace hf:=u3;clear hT u3 s0 s3 s5 s6
 obtain ⟨s0,s3,s6,bG,s30,s31⟩:=G9
 refine ⟨?_⟩
 refine wpList_mapUpdate_own _ rfl _ _ _ 118 rfl 9 3 (string_keyed Tryz.underlying9) Tryz.underlying118 _ mb ss.length _ (Fc.k7 bG) zU.map (by unfold maxLen;omega) _ _ _ (Fc.k7 s30) (Fc.k7 s31) (rL _ (eY a8)) _ _ (rM _ oM) ?_
 intro w4 hM4 hg4
 refine Fc.L.out ?_
 refine Fc.nil (B1 0 3 6 hf ?_)
 clear hf s0 s3 s6 bG s30 s31;intro a7 hf sS
 have X6:n4 (fun k=>k=mb) w1 w4:=n4.grown hg4 (fun k hk=>by injection hk with hk;exact hk.symm)
 have E6:=zU.y0d
 have x8r:=X6.heap zU.box E6
 have q0:=cell_of_row _ _ 0 _ t (0,0) x8r
 simp at q0
 rw [HSV.out] at q0
 have hmw:mb<w.heap.size:=by rcases Nat.lt_or_ge mb w.heap.size with h | h;exact h;have h1:=HGE.out mb h;have h2:=zU.om;omega
 replace c0:=X6.cell c0 (fun e=>by have e:w.heap.size=mb:=e;omega);replace c1:=X6.cell c1 (fun e=>by have e:w.heap.size=mb:=e;omega);replace c2:=X6.cell c2 (fun e=>by have e:w.heap.size=mb:=e;omega)
 clear r0 r1
 obtain ⟨cells,kN,hsb,yV⟩:=zU.row
 have v1b:=y7 kN X6 (fun k hk e=>by subst e;have h1:=hsb _ hk;have h2:=zU.om;omega)
 have N5:=kN.1
 have hfz:=j3 (i:=0) x8r
 have hCS:Cells w1 sK cells ss:=yV
 clear yV
 have hog:=zU.og
 have HOG:=H9 hog
 clear hog
 have hs4:=X6.size
 have hs1:=w1v.size
 refine Zx j8 ?_
 obtain ⟨s0,s3,s6⟩:=sS
 refine Sm.K1 (n:=43) (fun _ k=>sK k=1\/sK k=2) [7,10] (Sb.OkOps.of kR) (fun a8=> ?_)
 refine Sm.xQ (k:=0) s0 hf.size a8.out rfl kR rfl rfl (.inl rfl) kR ?_
 refine Sm.xQ (k:=1) s0 hf.size a8.out rfl kR rfl rfl (.inl rfl) kR ?_
 apply Sm.tq 2 _ hf a8
 . (
 intro a7 w1 hh hd hk K Z
 refine Sb.pl ?_
 have s33:=Sm.v 1 0 hd hk []
 have K6:=Sm.z7 hh [(7,[4,3]),(10,[])] kR
 have o5:=Sm.l7 hh [] [(7,[4,3]),(10,[])] kR
 clear hd hh
 go_simp
 exact Sb.k Z)
 apply Sm.tq 3 _ hf a8
 . (
 intro a7 w1 hh hd hk K Z
 refine Sb.pl ?_
 have s34:=Sm.v 2 0 hd hk []
 have K6:=Sm.z7 hh [(7,[4]),(10,[])] kR
 have o5:=Sm.l7 hh [] [(7,[4]),(10,[])] kR
 clear hd hh
 go_simp
 exact Sb.k Z)
 apply Sm.tq 4 _ hf a8
 . (
 intro a7 w1 hh hd hk K Z
 refine Sb.pl ?_
 have s35:=Sm.v 3 0 hd hk []
 have K6:=Sm.z7 hh [(7,[]),(10,[])] kR
 have o5:=Sm.l7 hh [] [(7,[]),(10,[])] kR
 clear hd hh
 have q1:=cL K6 q0
 go_simp
 exact Sb.k Z)
 apply Sm.tq 5 _ hf a8
 . (
 intro a7 w1 hh hd hk K Z
 refine Sb.pl ?_
 have s3:=Sm.o hh kR s3
 have K6:=Sm.z7 hh [(7,[6]),(10,[])] kR
 have o5:=Sm.l7 hh [] [(7,[6]),(10,[])] kR
 clear hd hh
 have d0:=cL K6 c0;have d1:=cL K6 c1;have d2:=cL K6 c2
 go_simp
 exact Sb.k Z)
 refine Sm.E8 (k:=6) (n:=43) (nV [av,.bool s.final,.int .u64 s.out]) hf.size a8.out rfl (nV.u5 _) kR ?_ ?_
 . (
 intro a7 w1 hh hd hk K Z
 refine Sb.pl ?_
 have s37:=Sm.v 5 0 hd hk []
 have K6:=Sm.z7 hh [(7,[]),(10,[])] kR
 have o5:=Sm.l7 hh [] [(7,[]),(10,[])] kR
 clear hd hh
 go_simp
 exact Z.out _ rfl _ _ ((Below.refl _ _).alloc nR _) ⟨_,rfl,E7 _ _ _⟩)
 refine Sm.K3 (k:=7) (n:=43) (x1m w4 base g t xs sv mb (ss.length+1) (cells++[av,.bool s.final,.int .u64 s.out])) hf.size a8.out rfl (x1m.u5 _ _ _ _ _ _ _ _ _) kR ?_ ?_
 . (
 intro a7 w1 hh hd hk K Z
 refine Sb.pl ?_
 have vX:=Sm.v 4 2 hd hk []
 obtain ⟨x38,s38,t8u⟩:=Sm.use (j:=6) (m:=0) hd hk rfl [] kR [(10,true,[])] kR rfl rfl rfl
 obtain ⟨b38,rfl,t8t⟩:=t8u
 have K6:=Sm.z7 hh [(10,[])] kR
 have o5:=Sm.l7 hh [] [(10,[])] kR
 clear hd hh
 have S5:=l5 v1b K6
 have fT:=(K6.block g (j4 x8r)).trans x8r
 refine J7 _ _ 36 rfl 46 _ 3 40 Tryz.underlying36 z7n rfl dC dC base sv ss.length cells (by rw [HSV.out];exact Fc.k7 vX) S5 b38 _ (Fc.k7 s38) rfl t8t (by intro u hu;simp at hu;rcases hu with rfl | rfl | rfl<;>first | rfl | exact w1x v1d) oM (by have:=K6.size;omega) (fun v2 w2 oP tK iM=> ?_)
 have t3m:sv.ownBlock=sv.ownBlock:=rfl
 exact Z.out _ rfl _ _ (n4.grown tK (fun k hk=> .inr (hsb k hk))) ⟨oP,iM.imp id (fun h=>⟨_,h,K6.size⟩),tK.block g (j4 fT) (fun e=>by have h1:=hsb g e.symm;have h2:=HOG.out;omega) |>.trans fT⟩)
 apply Sm.tq 8 _ hf a8
 . (
 intro a7 w1 hh hd hk K Z
 refine Sb.pl ?_
 have s32:=Sm.v 0 7 hd hk []
 have o5:=Sm.l7 hh [7] [(10,[9])] kR
 clear hd hh
 go_simp
 exact Sb.k Z)
 apply Sm.tq 9 _ hf a8
 . (
 intro a7 w1 hh hd hk K Z
 refine Sb.pl ?_
 have kM:=Sm.v 8 0 hd hk []
 have o5:=Sm.l7 hh [7] [(10,[])] kR
 clear hd hh
 go_simp
 exact Sb.k Z)
 refine Sm.K3 (k:=10) (n:=43) (x1l w4 base g t xs sv mb (ss.length+1) (cells++[av,.bool s.final,.int .u64 s.out])) hf.size a8.out rfl (x1l.u5 _ _ _ _ _ _ _ _ _) kR ?_ ?_
 . (
 intro a7 w1 hh hd hk K Z
 refine Sb.pl ?_
 have s41:=Sm.v 9 0 hd hk []
 obtain ⟨x39,bM,t8s⟩:=Sm.use (j:=7) (m:=2) hd hk rfl [] kR [] kR rfl rfl rfl
 obtain ⟨v1a,v0z,w1t⟩:=t8s
 have o5:=Sm.l7 hh [7] [] kR
 clear hd hh
 have z0:=cell_of_row _ _ 0 _ t (0,0) w1t
 simp at z0
 have fz:=j3 (i:=0) w1t
 obtain ⟨A2,c2,hv2,_⟩:=A1 v1a
 subst hv2
 go_simp
 refine Z.out _ rfl undef _ (n4.setCell (.inl HOG.out) _) ⟨_,y7 v1a (n4.setCell (S:=fun k=>k=g) rfl _) (fun k S3 e=> ?_),v0z,?_⟩;(subst e;rcases v0z with h | ⟨k2,h,M5⟩;(rw [S3] at h;have h1:=hsb _ h.symm;have h2:=HOG.out;omega);(rw [S3] at h;injection h with h;have:=j4 x8r;omega));exact (j5 w1t _).trans sP)
 refine Sm.K2 (n:=43) kR hf.size a8.out rfl (fun a7 w1 hh hg=> ?_)
 replace s6:=Sm.o hh kR s6
 obtain ⟨_,U8⟩:=Sm.T0 (j:=10) (m:=0) hg rfl dC [(7,[])] kR rfl
 have u3:=hh.fr hf
 have o5:=hh.but
 clear hg hh hf a8 s0 s3
 have hf:=u3;clear u3
 refine Zs b7 fun _ b7=>Zr [42] hf ?_
 refine r6 4 hf ?_
 clear hf s6;intro a7 hf s4
 refine Zx b7 (k8 ?_)
 obtain ⟨v2,S5,nH,fT⟩:=U8
 replace o5:=o5 (fun k=>sK k=1\/sK k=2) (fun m _ b h=>h)
 refine Fc.o9 rfl hf s4 ⟨by rw [P9.out],sK,v2,HLT.out,HGE.out,?_,?_⟩
 . (
 rw [P9.out];exact zU.snoc hg4 hM4 o5 N5 hCS S5 (fun k hk=>by rcases nH with h | ⟨k2,h,M5⟩;(rw [hk] at h;exact hsb _ h.symm);(rw [hk] at h;injection h with h;exact HGE.out k oM)) fT v1d a8 HIN.out)
 . (
 exact n4.via w1v X6 o5 (fun k hk e=>by have h1:=HLT.out k hk;have h2:=zU.om;rcases e with rfl | e | e<;>omega)))
theorem w1s (w:World) (sv:Value) (init:Nat) (ss:List State) (o7:RS w sv ss) (a8:∀ s∈ss,J8 s) (hlen:ss.length<=1000000) (z8f:∀ s∈ss,s.a6.length<=1000):G4 w 61 #[.agg #[sv,.int .u64 init]] (.tuple #[.int .i64 ss.length,.int .i64 (L9 ss:Nat)]):=by
 refine S8 23 Tryz.func61 fun fr hf s0=> ?_
 obtain ⟨A,cc,rfl,Z3⟩:=o7.form
 have HO:=H9 a8;have HF:=H9 z8f;clear a8 z8f
 refine Ze fun _ b7=>Zr [] hf ?_
 refine C1 1 3 hf ?_
 clear hf s0;intro a7 hf sS
 generalize p8:w.alloc (.cells #[.slice A ss.length cc,.int .u64 init] 38)=W0
 obtain ⟨p9,c0,c1, -, -⟩:=Z8 p8
 clear p8
 have cQ:=o7.later p9
 clear o7
 refine Zs b7 fun _ b7=>Ze fun _ j8=>Zr [6,7] hf ?_
 refine D0 1 3 7 8 9 hf ?_
 clear hf sS;intro a7 hf sS
 refine Zx j8 (wp_block (wp_loop_ghost (fun gk fr wr=>∃ (i:Nat),gk=ss.length-i/\i<=ss.length/\Fc.Fr 23 fr/\fr.tmps[1]? =some (.pointer (some ⟨w.heap.size,0,none⟩))/\fr.tmps[3]? =some (.int .i64 (L9 (ss.take i):Nat))/\fr.tmps[7]? =some (.slice A ss.length cc)/\fr.tmps[8]? =some (.int .i64 ss.length)/\fr.tmps[9]? =some (.int .i64 i)/\Below W0.heap.size W0 wr) (ss.length) ?_ ?_))
 . (
 obtain ⟨s1,s3,s7,s8,s9⟩:=sS
 exact ⟨0,rfl,Nat.zero_le _,hf,s1,s3,s7,s8,s9,Below.refl _ _⟩)
 . (
 clear hf sS
 rintro gk fr wr ⟨i,hk,hi,hf,s1,s3,s7,s8,s9,hb⟩
 have HK:=H9 hk;clear hk
 refine Ze fun _ j8=>Zr [] hf ?_
 refine J3 1 3 7 8 9 10 hf ?_
 clear hf s1 s3 s7 s8 s9;intro a7 hf sS
 refine Zs j8 fun _ j8=>Fc.l0 sS.2.2.2.2.2 (fun hq=> ?_) (fun hq=> ?_)
 . (
 have n8:i<ss.length:=qT
 have HQ:=H9 hq;clear hq
 obtain ⟨s,U2⟩:∃ s,ss[i]? =some s:=⟨_,D9 n8⟩
 obtain ⟨b,off,av,rfl,D3⟩:=(cQ.later hb).at_ U2
 have d0:=D3.c0;have d1:=D3.c1;have d2:=D3.c2
 obtain ⟨A2,c2,rfl,_⟩:=D3.a6.form
 have bS:=HF.out s (U0 U2)
 have y8:=tW U2
 have hac:=z9a HF.out i
 have HS:=H9 U2;have X9:=H9 y8;clear U2 y8 D3
 refine wp_skip (Zs j8 fun _ j8=>wp_block (Ze fun _ l6=>Zr [11,12,5] hf ?_))
 refine J3 1 3 5 7 8 9 hf ?_
 clear hf sS;intro a7 hf sS
 generalize eC:wr.alloc (.cells #[.slice A2 s.a6.length c2,.bool s.final,.int .u64 s.out] 46)=W5
 obtain ⟨F2,x0, -, -, -, -⟩:=G1 eC
 clear eC
 clear d0 d1 d2
 refine Zx l6 (rg ?_)
 have bB:=hf.B5 13 14 15 16 17
 iterate 4 refine Zy ?_
 refine fp fun K Z=> ?_
 go_simp
 try simp (disch:=omega) only [Fc.W]
 rw [show ((L9 (ss.take i):Nat):Int)+(s.a6.length:Int)=((L9 (ss.take (i+1)):Nat):Int) by rw [X9.out];omega]
 apply Z.out;clear Z K
 refine Zy ?_
 refine Fc.nil (D0 1 3 7 8 9 hf ?_)
 clear hf sS bB;intro a7 hf sS
 refine Fc.j7 (Zx j8 (Zr [18] hf ?_))
 refine D0 1 3 7 8 9 hf ?_
 clear hf sS;intro a7 hf sS
 refine Fc.j6 ?_
 obtain ⟨s1,s3,s7,s8,s9⟩:=sS
 exact ⟨_,by have:=HK.out;omega,i+1,rfl,oM,hf,s1,s3,s7,s8,by rw [s9];rfl,hb.trans (F2.mono hb.size)⟩)
 . (
 have F3:i=ss.length:=qF
 have HIE:=H9 F3;clear F3 hq
 have e0:=cL hb c0
 refine Zo ?_
 refine Zs b7 fun _ b7=>Zr [19,20,21,22] hf ?_
 refine C1 2 3 hf ?_
 clear hf sS;intro a7 hf sS
 refine Zx b7 (k8 ?_)
 refine Fc.U6 rfl hf sS.1 sS.2 ⟨?_,p9.trans (hb.mono p9.size)⟩
 rw [HIE.out,List.take_length]))
def okTo (i:Nat):List r7->Bool
 | []=>true
 | a::l=>decide (0<=a.to)&&decide (a.to<(i:Int))&&okTo i l
def mayL:Nat->List State->Bool
 | _,[]=>true
 | i,s::l=>(decide (s.a6.length<=256)&&(s.final||decide (s.out=0)))&&okTo i s.a6&&mayL (i+1) l
def P1 (en:Int) (ss:List State):Bool:=decide (0<=en)&&decide (en<=100000)&&decide (0<ss.length)&&mayL 0 ss
theorem X7 {α:Type} {l:List α} {i:Nat} {x:α} (h:l[i]? =some x):l.drop i=x::l.drop (i+1):=by
 obtain ⟨h1,h2⟩:=E2 h
 rw [List.drop_eq_getElem_cons h1,h2]
theorem wA {ss:List State} {i:Nat} {s:State} (h:ss[i]? =some s):mayL i (ss.drop i)=((decide (s.a6.length<=256)&&(s.final||decide (s.out=0)))&&okTo i s.a6&&mayL (i+1) (ss.drop (i+1))):=by rw [X7 h];rfl
theorem y5a {l:List r7} {i k:Nat} {a:r7} (h:l[k]? =some a):okTo i (l.drop k)=(decide (0<=a.to)&&decide (a.to<(i:Int))&&okTo i (l.drop (k+1))):=by rw [X7 h];rfl
theorem y4z (en:Int) (n:Nat):en<0\/(0<=en/\100000<en)\/(0<=en/\en<=100000/\n=0)\/(0<=en/\en<=100000/\0<n):=oM
theorem x8q (t i:Int):t<0\/(0<=t/\i<=t)\/(0<=t/\t<i):=oM
theorem y4y (s:State):256<s.a6.length\/(s.a6.length<=256/\s.final=true)\/(s.a6.length<=256/\s.final=false):=by
 rcases s.final with _ | _<;>simp<;>omega
theorem v5x (w:World) (en:Int) (sv:Value) (init:Nat) (ss:List State) (o7:RS w sv ss) (a8:∀ s∈ss,J8 s) (hlen:ss.length<=1000000) (z8f:∀ s∈ss,s.a6.length<=1000):G4 w 34 #[.int .i64 en,.agg #[sv,.int .u64 init]] (.bool (P1 en ss)):=by
 refine aT 66 Tryz.func34 fun fr hf s0 s1=> ?_
 obtain ⟨A,cc,rfl,Z3⟩:=o7.form
 have HO:=H9 a8;have HF:=H9 z8f;clear a8 z8f
 refine Ze fun _ b7=>Zr [] hf ?_
 refine C1 0 3 hf ?_
 clear hf s0 s1;intro a7 hf sS
 generalize p8:w.alloc (.cells #[.slice A ss.length cc,.int .u64 init] 38)=W0
 obtain ⟨p9,c0,c1, -, -⟩:=Z8 p8
 clear p8
 have cQ:=o7.later p9
 clear o7
 refine Zt b7 fun _ b7=> ?_
 have bB:=hf.B5 12 13 11 14 15
 refine Zy ?_
 refine Zc (w1s W0 _ init ss cQ HO.out hlen HF.out) ?_;rintro e w1 ⟨rfl,n7⟩
 refine Zv ?_
 iterate 5 refine Zy ?_
 refine Fc.nil (B1 0 3 5 hf ?_)
 clear hf sS bB;intro a7 hf sS
 have hr1:=cQ.later n7
 have e0:=cL n7 c0
 have e1:=cL n7 c1
 have T6:=p9.trans (n7.mono p9.size)
 clear cQ c0 c1
 refine Zx b7 ?_
 rcases y4z en ss.length with hc | hc | hc | hc
 . (
 have q1:decide (en<0)=true:=decide_eq_true hc
 have HC:=H9 hc;clear hc
 refine Ze fun _ b7=>Ze fun _ j8=> ?_
 have qs:=q1
 refine Zr [16,17,18,19,20,21,22,23,24] hf ?_
 refine C1 3 25 hf ?_
 clear hf sS qs;intro a7 hf sS
 refine Zx j8 (Fc.l8 sS.2 ?_)
 have G3:P1 en ss=false:=by unfold P1;have:=HC.out;rw [decide_eq_false (show ¬ 0<=en by omega)];rfl
 have Q9:=H9 G3;clear G3
 refine Ze fun _ j8=>Zr [] hf ?_
 refine r6 4 hf ?_
 clear hf sS;intro a7 hf s4
 refine Zx j8 (k8 ?_)
 exact Fc.o9 rfl hf s4 ⟨by rw [Q9.out],T6⟩)
 . (
 have q1:decide (en<0)=false:=decide_eq_false oM
 have q2:decide ((100000:Int)<en)=true:=decide_eq_true hc.2
 have HC:=H9 hc;clear hc
 refine Ze fun _ b7=>Ze fun _ j8=> ?_
 have qs:=And.intro q1 q2
 refine Zr [16,17,18,19,20,21,22,23,24] hf ?_
 refine C1 3 25 hf ?_
 clear hf sS qs;intro a7 hf sS
 refine Zx j8 (Fc.l8 sS.2 ?_)
 have G3:P1 en ss=false:=by unfold P1;have:=HC.out;rw [decide_eq_true (show 0<=en by omega),decide_eq_false (show ¬ en<=100000 by omega)];rfl
 have Q9:=H9 G3;clear G3
 refine Ze fun _ j8=>Zr [] hf ?_
 refine r6 4 hf ?_
 clear hf sS;intro a7 hf s4
 refine Zx j8 (k8 ?_)
 exact Fc.o9 rfl hf s4 ⟨by rw [Q9.out],T6⟩)
 . (
 have q1:decide (en<0)=false:=decide_eq_false oM
 have q2:decide ((100000:Int)<en)=false:=decide_eq_false oM
 have q3:((ss.length:Int)==0)=true:=beq_iff_eq.2 oM
 have HC:=H9 hc;clear hc
 refine Ze fun _ b7=>Ze fun _ j8=> ?_
 have qs:=And.intro q1 (And.intro q2 q3)
 refine Zr [16,17,18,19,20,21,22,23,24] hf ?_
 refine C1 3 25 hf ?_
 clear hf sS qs;intro a7 hf sS
 refine Zx j8 (Fc.l8 sS.2 ?_)
 have G3:P1 en ss=false:=by unfold P1;have:=HC.out;rw [decide_eq_false (show ¬ 0<ss.length by omega)];simp
 have Q9:=H9 G3;clear G3
 refine Ze fun _ j8=>Zr [] hf ?_
 refine r6 4 hf ?_
 clear hf sS;intro a7 hf s4
 refine Zx j8 (k8 ?_)
 exact Fc.o9 rfl hf s4 ⟨by rw [Q9.out],T6⟩)
 . (
 have q1:decide (en<0)=false:=decide_eq_false oM
 have q2:decide ((100000:Int)<en)=false:=decide_eq_false oM
 have q3:((ss.length:Int)==0)=false:=beq_eq_false_iff_ne.2 oM
 have HC:=H9 hc;clear hc
 refine Ze fun _ b7=>Ze fun _ j8=> ?_
 have qs:=And.intro q1 (And.intro q2 q3)
 refine Zr [16,17,18,19,20,21,22,23,24] hf ?_
 refine C1 3 25 hf ?_
 clear hf sS qs;intro a7 hf sS
 refine Zx j8 (Fc.k9 sS.2 ?_)
 have hen:P1 en ss=mayL 0 ss:=by unfold P1;have:=HC.out;rw [decide_eq_true (show 0<=en by omega),decide_eq_true (show en<=100000 by omega),decide_eq_true (show 0<ss.length by omega)];rfl
 have HM0:=H9 hen;clear hen
 refine wp_skip (Zs b7 fun _ b7=>Ze fun _ j8=>Zr [26,27] hf ?_)
 refine B1 27 28 29 hf ?_
 clear hf sS;intro a7 hf sS
 refine Zx j8 (wp_block (wp_loop_ghost (fun gk fr wr=>∃ (i:Nat),gk=ss.length-i/\i<=ss.length/\Fc.Fr 66 fr/\fr.tmps[27]? =some (.slice A ss.length cc)/\fr.tmps[28]? =some (.int .i64 ss.length)/\fr.tmps[29]? =some (.int .i64 i)/\mayL 0 ss=mayL i (ss.drop i)/\Below w1.heap.size w1 wr) (ss.length) ?_ ?_))
 . (
 obtain ⟨V0,bR,bG⟩:=sS
 exact ⟨0,rfl,Nat.zero_le _,hf,V0,bR,bG,rfl,Below.refl _ _⟩)
 . (
 clear hf sS
 rintro gk fr wr ⟨i,hk,hi,hf,V0,bR,bG,D5,hb⟩
 have HK:=H9 hk;have HM:=H9 D5;clear hk D5
 refine Ze fun _ j8=>Zr [] hf ?_
 refine C0 27 28 29 30 hf ?_
 clear hf V0 bR bG;intro a7 hf sS
 refine Zs j8 fun _ j8=>Fc.l0 sS.2.2.2 (fun hq=> ?_) (fun hq=> ?_)
 . (
 have n8:i<ss.length:=qT
 have HQ:=H9 hq;clear hq
 obtain ⟨s,U2⟩:∃ s,ss[i]? =some s:=⟨_,D9 n8⟩
 obtain ⟨b,off,av,rfl,D3⟩:=(hr1.later hb).at_ U2
 have d0:=D3.c0;have d1:=D3.c1;have d2:=D3.c2
 have bA:=D3.a6
 obtain ⟨A2,c2,rfl,_⟩:=D3.a6.form
 have iT:=HO.out s (U0 U2)
 have y8:=wA U2
 have HS:=H9 U2;have X9:=H9 y8;clear U2 y8 D3
 have bS:=iT.2.1
 refine wp_skip (Zs j8 fun _ j8=>wp_block (Ze fun _ l6=>Zr [31,32,33,8] hf ?_))
 refine D0 7 8 27 28 29 hf ?_
 clear hf sS;intro a7 hf sS
 generalize eC:wr.alloc (.cells #[.slice A2 s.a6.length c2,.bool s.final,.int .u64 s.out] 46)=W5
 obtain ⟨F2,x0,x1,x2, -, -⟩:=G1 eC
 clear eC
 clear d0 d1 d2
 have y6f:=bA.later F2
 clear bA
 have w1r:=hb.trans (F2.mono hb.size)
 have z6q:=T6.trans (w1r.mono T6.size)
 refine Zx l6 (Fc.L1 (fun fr wq=>Fc.Fr 66 fr/\fr.tmps[7]? =some (.int .i64 i)/\fr.tmps[8]? =some (.pointer (some ⟨wr.heap.size,0,none⟩))/\fr.tmps[27]? =some (.slice (some ⟨b,off,none⟩) ss.length cc)/\fr.tmps[28]? =some (.int .i64 ss.length)/\fr.tmps[29]? =some (.int .i64 i)/\wq=W5/\(decide (s.a6.length<=256)&&(s.final||decide (s.out=0)))=true) ?_ ?_)
 . (
 rcases y4y s with q9 | q9 | q9
 . (
 have q0:decide ((256:Int)<(s.a6.length:Int))=true:=decide_eq_true oM
 have P9:=H9 q9;clear q9
 refine Ze fun _ l6=> ?_
 have qs:=q0
 refine Zr [34,35,36,37,38,39,40,41,42,43,44,45,46] hf ?_
 refine J3 7 8 27 28 29 47 hf ?_
 clear hf sS qs;intro a7 hf sS
 refine Zx l6 (Fc.l8 sS.2.2.2.2.2 ?_)
 have G3:P1 en ss=false:=by rw [HM0.out,HM.out,X9.out];have:=P9.out;rw [decide_eq_false (show ¬ s.a6.length<=256 by omega)];rfl
 have Q9:=H9 G3;clear G3
 refine Ze fun _ l6=>Zr [] hf ?_
 refine r6 4 hf ?_
 clear hf sS;intro a7 hf s4
 refine Zx l6 (k8 ?_)
 exact Fc.o9 rfl hf s4 ⟨by rw [Q9.out],z6q⟩)
 . (
 have q0:decide ((256:Int)<(s.a6.length:Int))=false:=decide_eq_false oM
 have q1:=q9.2
 have P9:=H9 q9;clear q9
 refine Ze fun _ l6=>rg ?_
 have bB:=And.intro (hf.pL 34 35 36 37 38 39 40 41 42 43) (hf.B3 44 45 46)
 iterate 5 refine Zy ?_
 refine Zg ?_ (hv:=by simp (decide:=true) only [Fc.G,reduceIte,hf.size,q0,q1,Fc.N])
 refine Zg ?_ (hv:=by simp (decide:=true) only [Fc.G,reduceIte,hf.size,q0,q1,Fc.N])
 refine Zg ?_ (hv:=by simp (decide:=true) only [Fc.G,reduceIte,hf.size,q0,q1,Fc.N])
 refine Zg ?_ (hv:=by simp (decide:=true) only [Fc.G,reduceIte,hf.size,q0,q1,Fc.N])
 refine Zk ?_ (hv:=by simp (decide:=true) only [Fc.G,reduceIte,hf.size,Fc.N,q0,q1,Fc.N])
 refine Zk ?_ (hv:=by simp (decide:=true) only [Fc.G,reduceIte,hf.size,Fc.N,q0,q1,Fc.N])
 refine Zk ?_ (hv:=by simp (decide:=true) only [Fc.G,reduceIte,hf.size,Fc.N,q0,q1,Fc.N])
 refine Zg ?_ (hv:=by simp (decide:=true) only [Fc.G,reduceIte,hf.size,q0,q1,Fc.N])
 refine Zy ?_
 refine Fc.nil (J3 7 8 27 28 29 47 hf ?_)
 clear hf sS bB;intro a7 hf sS
 refine Zx l6 (Fc.k9 sS.2.2.2.2.2 ?_)
 have hfo:(decide (s.a6.length<=256)&&(s.final||decide (s.out=0)))=true:=by have:=P9.out;rw [decide_eq_true this.1,this.2];rfl
 have HFO:=H9 hfo;clear hfo
 refine wp_skip (Fc.j6 ?_)
 obtain ⟨s7,s8,V0,bR,bG,s47⟩:=sS
 exact ⟨hf,s7,s8,V0,bR,bG,rfl,HFO.out⟩)
 . (
 have q0:decide ((256:Int)<(s.a6.length:Int))=false:=decide_eq_false oM
 have q1:=q9.2
 have P9:=H9 q9;clear q9
 refine Ze fun _ l6=>rg ?_
 have bB:=And.intro (hf.pL 34 35 36 37 38 39 40 41 42 43) (hf.B3 44 45 46)
 iterate 5 refine Zy ?_
 refine Zg ?_ (hv:=by simp (decide:=true) only [Fc.G,reduceIte,hf.size,q0,q1,Fc.N])
 refine Zg ?_ (hv:=by simp (decide:=true) only [Fc.G,reduceIte,hf.size,q0,q1,Fc.N])
 refine Zg ?_ (hv:=by simp (decide:=true) only [Fc.G,reduceIte,hf.size,q0,q1,Fc.N])
 refine Zg ?_ (hv:=by simp (decide:=true) only [Fc.G,reduceIte,hf.size,q0,q1,Fc.N])
 refine Zg ?_ (hv:=by simp (decide:=true) only [Fc.G,reduceIte,hf.size,q0,q1,Fc.N])
 refine Zg ?_ (hv:=by simp (decide:=true) only [Fc.G,reduceIte,hf.size,q0,q1,Fc.N])
 refine Zg ?_ (hv:=by simp (decide:=true) only [Fc.G,reduceIte,hf.size,q0,q1,Fc.N])
 refine Zg ?_ (hv:=by simp (decide:=true) only [Fc.G,reduceIte,hf.size,q0,q1,Fc.N])
 refine Zy ?_
 refine Fc.nil (J3 7 8 27 28 29 47 hf ?_)
 clear hf sS bB;intro a7 hf sS
 refine Zx l6 (Fc.l0 sS.2.2.2.2.2 (fun hqo=> ?_) (fun hqo=> ?_))
 . (
 have ho0:s.out≠0:=by simpa using hqo
 have HO0:=H9 ho0;clear ho0 hqo
 have G3:P1 en ss=false:=by rw [HM0.out,HM.out,X9.out,P9.out.2,decide_eq_false HO0.out];simp
 have Q9:=H9 G3;clear G3
 refine Ze fun _ l6=>Zr [] hf ?_
 refine r6 4 hf ?_
 clear hf sS;intro a7 hf s4
 refine Zx l6 (k8 ?_)
 exact Fc.o9 rfl hf s4 ⟨by rw [Q9.out],z6q⟩)
 . (
 have ho0:s.out=0:=by simpa using hqo
 have HO0:=H9 ho0;clear ho0 hqo
 have hfo:(decide (s.a6.length<=256)&&(s.final||decide (s.out=0)))=true:=by have:=P9.out;rw [decide_eq_true this.1,this.2,decide_eq_true HO0.out];rfl
 have HFO:=H9 hfo;clear hfo
 refine wp_skip (Fc.j6 ?_)
 obtain ⟨s7,s8,V0,bR,bG,s47⟩:=sS
 exact ⟨hf,s7,s8,V0,bR,bG,rfl,HFO.out⟩)))
 . (
 clear hf sS
 rintro fr wq ⟨hf,s7,s8,V0,bR,bG,hw,hfo⟩
 subst wq
 have HFO:=H9 hfo;clear hfo
 refine Ze fun _ l6=>Zr [48,49] hf ?_
 refine cP 7 27 28 29 49 50 51 hf ?_
 clear hf s7 s8 V0 bR bG;intro a7 hf sS
 refine Zx l6 (wp_block (wp_loop_ghost (fun nJ fr mV=>∃ (k:Nat),nJ=s.a6.length-k/\k<=s.a6.length/\Fc.Fr 66 fr/\fr.tmps[7]? =some (.int .i64 i)/\fr.tmps[27]? =some (.slice (some ⟨b,off,none⟩) ss.length cc)/\fr.tmps[28]? =some (.int .i64 ss.length)/\fr.tmps[29]? =some (.int .i64 i)/\fr.tmps[49]? =some (.slice A2 s.a6.length c2)/\fr.tmps[50]? =some (.int .i64 s.a6.length)/\fr.tmps[51]? =some (.int .i64 k)/\okTo i s.a6=okTo i (s.a6.drop k)/\Below W5.heap.size W5 mV) (s.a6.length) ?_ ?_))
 . (
 obtain ⟨s7,V0,bR,bG,uA,yG,pS⟩:=sS
 exact ⟨0,rfl,Nat.zero_le _,hf,s7,V0,bR,bG,uA,yG,pS,rfl,Below.refl _ _⟩)
 . (
 clear hf sS
 rintro nJ fr mV ⟨k,M5,eK,hf,s7,V0,bR,bG,uA,yG,pS,Y8,G7⟩
 have HK2:=H9 M5;have HOA:=H9 Y8;clear M5 Y8
 refine Ze fun _ l6=>Zr [] hf ?_
 refine nM 7 27 28 29 49 50 51 52 hf ?_
 clear hf s7 V0 bR bG uA yG pS;intro a7 hf sS
 refine Zs l6 fun _ l6=>Fc.l0 sS.2.2.2.2.2.2.2 (fun H7=> ?_) (fun H7=> ?_)
 . (
 have gG:k<s.a6.length:=by have h9:=of_decide_eq_true H7;omega
 have HQ2:=H9 H7;clear H7
 obtain ⟨a,qS⟩:∃ a,s.a6[k]? =some a:=⟨_,D9 gG⟩
 obtain ⟨b3,y7d,rfl,aF,y0,y1,y2⟩:=(y6f.later G7).at' qS
 have yR:=iT.2.2 a (U0 qS)
 have D3:=y5a (i:=i) qS
 have HKA:=H9 qS;have HAT:=H9 D3;clear qS D3
 have hab:=yR.1
 rcases x8q a.to (i:Int) with hc | hc | hc
 . (
 have q2:decide (a.to<0)=true:=decide_eq_true hc
 have HC:=H9 hc;clear hc
 refine wp_skip (Zs l6 fun _ l6=>wp_block (Ze fun _ N4=>Zr [53,54,10] hf ?_))
 refine nM 7 10 27 28 29 49 50 51 hf ?_
 clear hf sS;intro a7 hf sS
 generalize eB:mV.alloc (.cells #[.int .u8 a.byte,.int .u64 a.out,.int .i64 a.to] 71)=W7
 obtain ⟨A8, -, -,z2, -, -⟩:=G1 eB
 clear eB
 clear y0 y1 y2 aF
 have T2:=z6q.trans ((G7.trans (A8.mono G7.size)).mono z6q.size)
 refine Zs N4 fun _ N4=> ?_
 have qs:=q2
 refine Zr [55,56,57,58,59,60,61,62] hf ?_
 refine nM 7 27 28 29 49 50 51 63 hf ?_
 clear hf sS qs;intro a7 hf sS
 refine Zx N4 (Fc.l8 sS.2.2.2.2.2.2.2 ?_)
 have G3:P1 en ss=false:=by rw [HM0.out,HM.out,X9.out,HOA.out,HAT.out];have:=HC.out;rw [decide_eq_false (show ¬ 0<=a.to by omega)];simp
 have Q9:=H9 G3;clear G3
 refine Ze fun _ N4=>Zr [] hf ?_
 refine r6 4 hf ?_
 clear hf sS;intro a7 hf s4
 refine Zx N4 (k8 ?_)
 exact Fc.o9 rfl hf s4 ⟨by rw [Q9.out],T2⟩)
 . (
 have q2:decide (a.to<0)=false:=decide_eq_false oM
 have q3:decide ((i:Int)<=a.to)=true:=decide_eq_true hc.2
 have HC:=H9 hc;clear hc
 refine wp_skip (Zs l6 fun _ l6=>wp_block (Ze fun _ N4=>Zr [53,54,10] hf ?_))
 refine nM 7 10 27 28 29 49 50 51 hf ?_
 clear hf sS;intro a7 hf sS
 generalize eB:mV.alloc (.cells #[.int .u8 a.byte,.int .u64 a.out,.int .i64 a.to] 71)=W7
 obtain ⟨A8, -, -,z2, -, -⟩:=G1 eB
 clear eB
 clear y0 y1 y2 aF
 have T2:=z6q.trans ((G7.trans (A8.mono G7.size)).mono z6q.size)
 refine Zs N4 fun _ N4=> ?_
 have qs:=And.intro q2 q3
 refine Zr [55,56,57,58,59,60,61,62] hf ?_
 refine nM 7 27 28 29 49 50 51 63 hf ?_
 clear hf sS qs;intro a7 hf sS
 refine Zx N4 (Fc.l8 sS.2.2.2.2.2.2.2 ?_)
 have G3:P1 en ss=false:=by rw [HM0.out,HM.out,X9.out,HOA.out,HAT.out];have:=HC.out;rw [decide_eq_false (show ¬ a.to<(i:Int) by omega)];simp
 have Q9:=H9 G3;clear G3
 refine Ze fun _ N4=>Zr [] hf ?_
 refine r6 4 hf ?_
 clear hf sS;intro a7 hf s4
 refine Zx N4 (k8 ?_)
 exact Fc.o9 rfl hf s4 ⟨by rw [Q9.out],T2⟩)
 . (
 have q2:decide (a.to<0)=false:=decide_eq_false oM
 have q3:decide ((i:Int)<=a.to)=false:=decide_eq_false oM
 have HC:=H9 hc;clear hc
 refine wp_skip (Zs l6 fun _ l6=>wp_block (Ze fun _ N4=>Zr [53,54,10] hf ?_))
 refine nM 7 10 27 28 29 49 50 51 hf ?_
 clear hf sS;intro a7 hf sS
 generalize eB:mV.alloc (.cells #[.int .u8 a.byte,.int .u64 a.out,.int .i64 a.to] 71)=W7
 obtain ⟨A8, -, -,z2, -, -⟩:=G1 eB
 clear eB
 clear y0 y1 y2 aF
 have T2:=z6q.trans ((G7.trans (A8.mono G7.size)).mono z6q.size)
 refine Zs N4 fun _ N4=> ?_
 have qs:=And.intro q2 q3
 refine Zr [55,56,57,58,59,60,61,62] hf ?_
 refine nM 7 27 28 29 49 50 51 63 hf ?_
 clear hf sS qs;intro a7 hf sS
 refine Zx N4 (Fc.k9 sS.2.2.2.2.2.2.2 ?_)
 have x8m:okTo i s.a6=okTo i (s.a6.drop (k+1)):=by rw [HOA.out,HAT.out];have:=HC.out;rw [decide_eq_true (show 0<=a.to by omega),decide_eq_true (show a.to<(i:Int) by omega)];rfl
 have w1p:=H9 x8m;clear x8m
 refine wp_skip (Fc.j7 (Zx l6 (Zr [64] hf ?_)))
 refine cP 7 27 28 29 49 50 51 hf ?_
 clear hf sS;intro a7 hf sS
 refine Fc.j6 ?_
 obtain ⟨s7,V0,bR,bG,uA,yG,pS⟩:=sS
 exact ⟨_,by have:=HK2.out;omega,k+1,rfl,oM,hf,s7,V0,bR,bG,uA,yG,by rw [pS];rfl,w1p.out,G7.trans (A8.mono G7.size)⟩))
 . (
 have oR:k=s.a6.length:=by have h9:=of_decide_eq_false H7;omega
 have uF:okTo i s.a6=true:=by rw [HOA.out,oR,List.drop_length];rfl
 have w1o:=H9 uF;clear uF oR H7
 have zE:=w1r.trans (G7.mono w1r.size)
 refine Zo ?_
 refine Fc.j7 (Zx j8 (Zr [65] hf ?_))
 refine B1 27 28 29 hf ?_
 clear hf sS;intro a7 hf sS
 refine Fc.j6 ?_
 obtain ⟨V0,bR,bG⟩:=sS
 exact ⟨_,by have:=HK.out;omega,i+1,rfl,oM,hf,V0,bR,by rw [bG];rfl,by rw [HM.out,X9.out,HFO.out,w1o.out];rfl,zE⟩))))
 . (
 have F3:i=ss.length:=qF
 have HIE:=H9 F3;clear F3 hq
 refine Zo ?_
 refine Zs b7 fun _ b7=>Zr [] hf ?_
 refine r6 4 hf ?_
 clear hf sS;intro a7 hf s4
 refine Zx b7 (k8 ?_)
 refine Fc.o9 rfl hf s4 ⟨?_,T6.trans (hb.mono T6.size)⟩
 rw [HM0.out,HM.out,HIE.out,List.drop_length]
 rfl)))
end Dw
end Go.Proofs.YtcddnmhmcieebaaGreatDoor
