/- Dawg: Right. -/
import Derived.Test.YtcddnmhmcieebaaGreatDoorY7
import Derived.Test.YtcddnmhmcieebaaGreatDoorTools
import Derived.Test.YtcddnmhmcieebaaGreatDoorY6
import Derived.Test.YtcddnmhmcieebaaGreatDoorY1
import Derived.Laws.BytesArg
namespace Go.Proofs.YtcddnmhmcieebaaGreatDoor
set_option maxHeartbeats 4000000
set_option maxRecDepth 100000
open Go.RowKit
set_option linter.unusedSimpArgs false
set_option linter.unusedVariables false
set_option linter.unnecessarySimpa false
namespace Dw
open Go.Maps
theorem jA:∀ (l:List r7) (i:Nat) (last:Int),okArcs i last l=true->∀ a∈l,0<=a.to/\a.to<(i:Int)
 | [],_,_,_=>by simp
 | a::l,i,last,h=>by
  simp only [okArcs,Bool.and_eq_true,decide_eq_true_eq] at h
  intro x hx
  rcases List.mem_cons.1 hx with rfl | hx
  ·exact ⟨h.1.1.1,h.1.1.2⟩
  ·exact jA l i _ h.2 x hx
theorem iQ:∀ (l:List r7) (i:Nat) (last:Int),okArcs i last l=true->(∀ a∈l,a.byte<256)-> -1<=last->last<=255->(l.length:Int)<=255-last
 | [],_,_,_,_,_,h=>by simp;omega
 | a::l,i,last,h,hb,h1,h2=>by
  simp only [okArcs,Bool.and_eq_true,decide_eq_true_eq] at h
  have h3:=hb a (List.mem_cons_self ..)
  have:=iQ l i (a.byte:Int) h.2 (fun x hx=>hb x (List.mem_cons_of_mem _ hx)) oM oM
  simp only [List.length_cons]
  omega
theorem nA:∀ (l:List State) (i:Nat),formedL i l=true->∀ (j:Nat) (s:State),l[j]? =some s->okArcs (i+j) (-1) s.a6=true
 | [],_,_,j,s,hj=>by simp at hj
 | x::l,i,h,j,s,hj=>by
  simp only [formedL,Bool.and_eq_true] at h
  cases j with
  | zero=>injection hj with hj;subst hj;exact h.1.2
  | succ j=>rw [show i+(j+1)=(i+1)+j by omega];exact nA l (i+1) h.2 j s hj
theorem aG {ss:List State} (h:C4 ss=true) {j:Nat} {s:State} (hj:ss[j]? =some s):okArcs j (-1) s.a6=true:=by
 unfold C4 at h
 rw [Bool.and_eq_true] at h
 have:=nA ss 0 h.1 j s hj
 rwa [Nat.zero_add] at this
theorem iW {ss:List State} (h:C4 ss=true):0<ss.length:=by
 unfold C4 at h
 rw [Bool.and_eq_true] at h
 exact of_decide_eq_true h.2
theorem zH {ss:List State} (h:C4 ss=true):lJ ss:=by
 intro s a ha
 unfold J9 at ha
 cases hs:ss[s]? with
 | none=>rw [hs] at ha;simp at ha
 | some st=>rw [hs] at ha;exact jA _ _ _ (aG h hs) a (by simpa using ha)
theorem z1h {ss:List State} (h:C4 ss=true) (a8:∀ s∈ss,J8 s):∀ s∈ss,tN s:=by
 intro s hs
 obtain ⟨j,hj⟩:=List.mem_iff_getElem?.1 hs
 have h1:=aG h hj
 have h2:=a8 s hs
 refine ⟨h2,fun a ha=>(jA _ _ _ h1 a ha).1,?_⟩
 have:=iQ _ _ _ h1 (fun a ha=>(h2.2.2 a ha).1) oM oM
 omega
theorem z1g {ss:List State} {r:State} (h:ss[ss.length-1]? =some r):ss.getLast? =some r:=by rw [List.getLast?_eq_getElem?];exact h
def y4q (base:Nat) (k:Nat):Nat:=if k<base then 4 else if k=base then 3 else if k=base+1 then 1 else 0
theorem bC.start (w0:World) {W:World} (hW:(w0.alloc (.map #[] 0)).alloc (.cells #[.slice none 0 0,.map (some w0.heap.size)] 120)=W) :
  bC W w0.heap.size (y4q w0.heap.size) (w0.heap.size+1) 120 [] (.slice none 0 0) w0.heap.size []/\Below w0.heap.size w0 W:=by
 have uB:Below w0.heap.size w0 W:=by rw [<- hW];exact ((Below.refl _ _).alloc nR _).alloc sP _
 have h1:=World.ownsMap_made w0 Tryz.prog 9 (plainElem (H:=Unit) Tryz.prog 3)
 have fU:=h1.alloc (.cells #[.slice none 0 0,.map (some w0.heap.size)] 120)
 rw [hW] at fU
 have dE:W.heap[w0.heap.size+1]? =some (.cells #[.slice none 0 0,.map (some w0.heap.size)] 120 (0,0)):=by
  have:=heap_alloc_new (w0.alloc (.map #[] 0)) (.cells #[.slice none 0 0,.map (some w0.heap.size)] 120)
  rw [hW] at this
  rw [<- this]
  simp
 have o2:y4q w0.heap.size w0.heap.size=3:=by unfold y4q;rw [if_neg (by omega),if_pos rfl]
 have o4:y4q w0.heap.size (w0.heap.size+1)=1:=by unfold y4q;rw [if_neg (by omega),if_neg (by omega),if_pos rfl]
 exact ⟨⟨fun k hk=>if_pos hk,dE,o4,o2,fU,⟨[],World.ownsRow_nil _ _ _ _,(fun k hk=>by cases hk),fun i s hi=>by simp at hi⟩,List.Pairwise.nil,sP⟩,uB⟩
theorem w2u (w:World) (sv:Value) (init:Nat) (ss:List State) (o7:RS w sv ss) (a8:∀ s∈ss,J8 s) (hlen:ss.length<=1000000):G4 w 65 #[.agg #[sv,.int .u64 init]] (.bool (rightF ss init)):=by
 refine S8 72 Tryz.func65 fun fr hf s0=> ?_
 obtain ⟨A,cc,rfl,Z3⟩:=o7.form
 have t2t:=hlen
 have HO:=H9 a8;clear a8
 refine Ze fun _ b7=>Zr [] hf ?_
 refine r6 1 hf ?_
 clear hf s0;intro a7 hf s1
 generalize p8:w.alloc (.cells #[.slice A ss.length cc,.int .u64 init] 38)=W0
 obtain ⟨p9,c0,c1, -,T1⟩:=Z8 p8
 clear p8
 have gE:w.heap.size<W0.heap.size:=by rw [T1];exact Nat.lt_succ_self _
 clear T1
 have cQ:=o7.later p9
 clear o7
 refine Zs b7 fun _ b7=>Ze fun _ j8=>rg ?_
 have bB:=hf.B2 8 9
 refine Zy ?_
 refine Zc (x7s W0 _ init ss cQ HO.out hlen) ?_;rintro e w1 ⟨rfl,n7⟩
 refine Zv ?_
 refine Zy ?_
 refine Fc.nil (C1 1 10 hf ?_)
 clear hf s1 bB;intro a7 hf sS
 have hr1:=cQ.later n7
 replace c0:=cL n7 c0;replace c1:=cL n7 c1
 have G5:=p9.trans (n7.mono p9.size)
 have hzw:w.heap.size<w1.heap.size:=by have:=n7.size;omega
 clear cQ n7
 refine Zx j8 ?_
 rcases D5:C4 ss with _ | _
 . (
 have HFM:=H9 D5;clear D5
 have q10:a7.tmps[10]? =some (.bool true):=by rw [sS.2,HFM.out];rfl
 obtain ⟨s1,y4⟩:=sS
 clear y4
 have y4:=q10;clear q10
 refine Fc.l8 y4 ?_
 refine Ze fun _ j8=>Zr [] hf ?_
 refine r6 2 hf ?_
 clear hf s1 y4;intro a7 hf s2
 refine Zx j8 (k8 ?_)
 exact Fc.o9 rfl hf s2 ⟨by rw [rightF,HFM.out];rfl,G5⟩)
 . (
 have S3:=z1h D5 HO.out
 have h0:=iW D5
 have hA:=zH D5
 have HFM:=H9 D5;clear D5
 have q10:a7.tmps[10]? =some (.bool false):=by rw [sS.2,HFM.out];rfl
 obtain ⟨s1,y4⟩:=sS
 clear y4
 have y4:=q10;clear q10
 refine Fc.k9 y4 ?_
 obtain ⟨root,uW⟩:∃ root,ss[ss.length-1]? =some root:=⟨_,D9 oM⟩
 have hn1:((ss.length:Int)-1)=((ss.length-1:Nat):Int):=oM
 obtain ⟨b,off,av,rfl,D3⟩:=hr1.at_ uW
 have d0:=D3.c0;have d1:=D3.c1;have d2:=D3.c2
 obtain ⟨Ar,cr,rfl,_⟩:=D3.a6.form
 have HN1:=H9 hn1;have HR:=H9 uW;have HKK:=H9 S3;clear hn1 uW S3 D3
 obtain ⟨RE,hRE⟩:∃ x,(!root.final&&decide (root.a6.length=0))=x:=⟨_,rfl⟩
 have HRE:=H9 hRE;clear hRE
 have hrf:rightF ss init=if RE then decide (ss.length=1)&&decide (init=0) else E9 ss&&P5 ss 0 ss:=by rw [rightF,HFM.out,z1g HR.out, <- HRE.out];rfl
 have HRF:=H9 hrf;clear hrf
 refine wp_skip (Zt b7 fun _ b7=> ?_)
 have bB:=hf.B9 11 12 13 14 15 16 17 18 3
 iterate 5 refine Zy ?_
 refine fp fun K Z=> ?_
 go_simp
 try simp (disch:=omega) only [Fc.W]
 rw [HN1.out]
 apply Z.out;clear Z K
 iterate 4 refine Zy ?_
 refine Fc.nil (C1 1 3 hf ?_)
 clear hf s1 y4 bB;intro a7 hf sS
 generalize U1:w1.alloc (.cells #[.slice Ar root.a6.length cr,.bool root.final,.int .u64 root.out] 46)=W2
 obtain ⟨r9,x0,x1, -, -, -⟩:=G1 U1
 clear U1
 clear d0 d1 d2
 have S5:=hr1.later r9
 replace c0:=cL r9 c0;replace c1:=cL r9 c1
 have gC:=G5.trans (r9.mono (by have:=p9.size;omega))
 have s4q:w.heap.size<W2.heap.size:=by have:=r9.size;omega
 clear hr1 r9 G5
 refine Zx b7 (Fc.L1 (fun fr wq=>Fc.Fr 72 fr/\fr.tmps[1]? =some (.pointer (some ⟨w.heap.size,0,none⟩))/\wq=W2/\RE=false) ?_ ?_)
 . (
 rcases q9:root.final with _ | _
 . (
 have P9:=H9 q9;clear q9
 have q1:=P9.out
 by_cases hemp:root.a6.length=0
 . (
 have HEM:=H9 hemp;clear hemp
 have q2:((root.a6.length:Int)==0)=true:=by have h9:=HEM.out;rw [beq_iff_eq];omega
 have sZ:RE=true:=by rw [<- HRE.out,P9.out,decide_eq_true HEM.out];rfl
 have z1e:=H9 sZ;clear sZ
 refine Ze fun _ b7=> ?_
 have qs:=And.intro q1 q2
 refine Zr [19,20,21,22,23,24,25,26] hf ?_
 refine C1 1 27 hf ?_
 clear hf sS qs;intro a7 hf sS
 refine Zx b7 (Fc.l8 sS.2 ?_)
 have cS:rightF ss init=(decide (ss.length=1)&&decide (init=0)):=by rw [HRF.out,z1e.out];rfl
 have HQ:=H9 cS;clear cS
 by_cases h1:ss.length=1
 . (
 have H1:=H9 h1;clear h1
 have q1:((ss.length:Int)==1)=true:=by have:=H1.out;simp;omega
 refine Ze fun _ b7=> ?_
 have qs:=q1
 refine Zr [28,29,30,31,32,33,34,35,36] hf ?_
 refine r6 2 hf ?_
 clear hf sS qs;intro a7 hf s2
 refine Zx b7 (k8 ?_)
 refine Fc.o9 rfl hf s2 ⟨?_,gC⟩
 rw [HQ.out,decide_eq_true H1.out]
 rw [<- y8k init 0];rfl)
 . (
 have H1:=H9 h1;clear h1
 have q1:((ss.length:Int)==1)=false:=by have:=H1.out;simp;omega
 refine Ze fun _ b7=> ?_
 have qs:=q1
 refine Zr [28,29,30,31,32,33,34,35,36] hf ?_
 refine r6 2 hf ?_
 clear hf sS qs;intro a7 hf s2
 refine Zx b7 (k8 ?_)
 refine Fc.o9 rfl hf s2 ⟨?_,gC⟩
 rw [HQ.out,decide_eq_false H1.out]
 rfl))
 . (
 have HEM:=H9 hemp;clear hemp
 have q2:((root.a6.length:Int)==0)=false:=by have h9:=HEM.out;rw [beq_eq_false_iff_ne];omega
 have sZ:RE=false:=by rw [<- HRE.out,P9.out,decide_eq_false HEM.out];rfl
 have z1e:=H9 sZ;clear sZ
 refine Ze fun _ b7=> ?_
 have qs:=And.intro q1 q2
 refine Zr [19,20,21,22,23,24,25,26] hf ?_
 refine C1 1 27 hf ?_
 clear hf sS qs;intro a7 hf sS
 refine Zx b7 (Fc.k9 sS.2 ?_)
 clear q1 q2
 refine wp_skip (Fc.j6 ?_)
 exact ⟨hf,sS.1,rfl,z1e.out⟩))
 . (
 have P9:=H9 q9;clear q9
 have q1:=P9.out
 have sZ:RE=false:=by rw [<- HRE.out,P9.out];rfl
 have z1e:=H9 sZ;clear sZ
 refine Ze fun _ b7=> ?_
 have qs:=q1
 refine Zr [19,20,21,22,23,24,25,26] hf ?_
 refine C1 1 27 hf ?_
 clear hf sS qs;intro a7 hf sS
 refine Zx b7 (Fc.k9 sS.2 ?_)
 clear q1
 refine wp_skip (Fc.j6 ?_)
 exact ⟨hf,sS.1,rfl,z1e.out⟩))
 . (
 clear hf sS
 rintro fr wq ⟨hf,s1,hw,sZ⟩
 subst wq
 have z1e:=H9 sZ;clear sZ
 have cS:rightF ss init=(E9 ss&&P5 ss 0 ss):=by rw [HRF.out,z1e.out];rfl
 have HQ:=H9 cS;clear cS
 refine Ze fun _ b7=>Ze fun _ j8=>rg ?_
 have bB:=hf.B2 37 38
 refine Zy ?_
 refine fp fun K Z=> ?_
 go_simp
 go_at_call 104;refine (y4r W2 _ init ss S5 HO.out hlen h0 hA).mono ?_;rintro e w3 ⟨rfl,D4⟩
 try dsimp only
 apply Z.out;clear Z K
 refine Zy ?_
 refine Fc.nil (C1 1 39 hf ?_)
 clear hf s1 bB;intro a7 hf sS
 have oP:=S5.later D4
 replace c0:=cL D4 c0
 have uP:=gC.trans (D4.mono oM)
 have y4p:w.heap.size<w3.heap.size:=by have:=D4.size;omega
 clear S5 D4 gC c1 x0 x1
 refine Zx j8 ?_
 rcases hof:E9 ss with _ | _
 . (
 have HOF:=H9 hof;clear hof
 have q39:a7.tmps[39]? =some (.bool true):=by rw [sS.2,HOF.out];rfl
 obtain ⟨s1,bM⟩:=sS
 clear bM
 have bM:=q39;clear q39
 refine Fc.l8 bM ?_
 refine Ze fun _ j8=>Zr [] hf ?_
 refine r6 2 hf ?_
 clear hf s1 bM;intro a7 hf s2
 refine Zx j8 (k8 ?_)
 exact Fc.o9 rfl hf s2 ⟨by rw [HQ.out,HOF.out];rfl,uP⟩)
 . (
 have HOF:=H9 hof;clear hof
 have q39:a7.tmps[39]? =some (.bool false):=by rw [sS.2,HOF.out];rfl
 obtain ⟨s1,bM⟩:=sS
 clear bM
 have bM:=q39;clear q39
 refine Fc.k9 bM ?_
 have oH:=@run_makeMap Tryz.prog
 refine wp_skip (Zs b7 fun _ b7=>Zr [40,41,4] hf ?_)
 refine C1 1 4 hf ?_
 clear hf s1 bM;intro a7 hf sS
 clear oH
 generalize oQ:(w3.alloc (.map #[] 0)).alloc (.cells #[.slice none 0 0,.map (some w3.heap.size)] 120)=W4
 obtain ⟨s1,s4⟩:=sS
 try simp only [World.size_alloc] at s4
 obtain ⟨hg4,X6⟩:=bC.start w3 oQ
 clear oQ
 have c4:=cL X6 c0
 obtain ⟨v7,cJ⟩:∃ f,y4q w3.heap.size=f:=⟨_,rfl⟩
 rw [cJ] at hg4
 clear cJ
 refine Zs b7 fun _ b7=>Ze fun _ j8=>Zr [42,43] hf ?_
 refine C0 4 43 44 45 hf ?_
 clear hf s1 s4;intro a7 hf sS
 refine Zx j8 (wp_block ?_)
 clear c4
 refine wp_loop_ghost (fun gk fr wr=>∃ (i:Nat) (aD:Nat->Nat) (zV:Value),gk=ss.length-i/\i<=ss.length/\Fc.Fr 72 fr/\fr.tmps[4]? =some (.pointer (some ⟨w3.heap.size+1,0,none⟩))/\fr.tmps[43]? =some (.slice (some ⟨b,off,none⟩) ss.length cc)/\fr.tmps[44]? =some (.int .i64 ss.length)/\fr.tmps[45]? =some (.int .i64 i)/\bC wr w3.heap.size aD (w3.heap.size+1) 120 [] zV w3.heap.size (ss.take i)/\P5 ss 0 ss=P5 ss i (ss.drop i)/\Below w3.heap.size w3 wr) (ss.length) ?_ ?_
 . (
 obtain ⟨s4,s43,s44,s45⟩:=sS
 exact ⟨0,v7,_,rfl,Nat.zero_le _,hf,s4,s43,s44,s45,hg4,rfl,X6⟩)
 . (
 clear hf sS
 rintro gk fr wr ⟨i,aD,zV,hk,hi,hf,s4,s43,s44,s45,jR,hag,hb⟩
 have HK:=H9 hk;have HAG:=H9 hag;clear hk hag hg4 X6
 refine Ze fun _ j8=>Zr [] hf ?_
 refine D0 4 43 44 45 46 hf ?_
 clear hf s4 s43 s44 s45;intro a7 hf sS
 refine Zs j8 fun _ j8=>Fc.l0 sS.2.2.2.2 (fun hq=> ?_) (fun hq=> ?_)
 . (
 have n8:i<ss.length:=qT
 have HQ0:=H9 hq;clear hq
 obtain ⟨s,U2⟩:∃ s,ss[i]? =some s:=⟨_,D9 n8⟩
 obtain ⟨b5,s4p,av5,he5,D3⟩:=oP.at_ U2
 injection he5 with he5
 injection he5 with he5 he6
 subst he5;subst he6
 have x0u:=D3.later hb
 have d0:=x0u.c0;have d1:=x0u.c1;have d2:=x0u.c2
 obtain ⟨A5,c5,rfl,_⟩:=D3.a6.form
 have aY:=HKK.out s (U0 U2)
 have hsl:=aY.uG
 have hgs:=jH U2
 have HS:=H9 U2;have HGS:=H9 hgs;clear U2 hgs
 have hgb:=jR.aC
 have bA:RA wr (fun k=>aD k=4) (.slice A5 s.a6.length c5) s.a6:=(D3.a6.more (fun k hk _=>jR.lo k hk)).later hb
 have u9r:=D3.a6.later hb
 clear D3 x0u
 obtain ⟨K9,gY⟩:∃ f,(fun k=>if k<wr.heap.size then aD k else 0)=f:=⟨_,rfl⟩
 have aS:∀ k,k<wr.heap.size->K9 k=aD k:=fun k hk=>by rw [<- gY];exact if_pos hk
 have hg0:=jR.told (Y6:=K9) (fun k hk=>by rw [aS k oM];exact jR.lo k hk) (fun k hk _ _=>aS k hk)
 replace bA:RA wr (fun k=>K9 k=4) (.slice A5 s.a6.length c5) s.a6:=bA.more (fun k hk h4=>by rw [aS k hk];exact h4)
 clear jR aS gY
 refine wp_skip (Zs j8 fun _ j8=>wp_block (Ze fun _ l6=>Zr [47,48,49,6] hf ?_))
 refine J3 4 5 6 43 44 45 hf ?_
 clear hf sS;intro a7 hf sS
 generalize eC:wr.alloc (.cells #[.slice A5 s.a6.length c5,.bool s.final,.int .u64 s.out] 46)=W5
 obtain ⟨F2,x0,x1,x2,hh5,z7p⟩:=G1 eC
 clear eC
 have hz5:wr.heap.size<W5.heap.size:=by rw [z7p];exact Nat.lt_succ_self _
 clear z7p
 clear d0 d1 d2
 refine Zs l6 fun _ l6=>Zr [50,51,7] hf ?_
 refine cP 4 5 6 7 43 44 45 hf ?_
 clear hf sS;intro a7 hf sS
 generalize hW6:W5.alloc (.cells #[.slice A5 s.a6.length c5,.bool s.final,.int .u64 s.out,.int .u8 0] 126)=W6
 obtain ⟨G7,y0,y1,y2, -, -,x7t⟩:=w6d hW6
 clear hW6
 have hz6:W5.heap.size<W6.heap.size:=by rw [x7t];exact Nat.lt_succ_self _
 clear x7t
 replace x0:=cL G7 x0;replace x1:=cL G7 x1;replace x2:=cL G7 x2
 have gL:=F2.trans (G7.mono F2.size)
 have hgz:=hg0.later gL
 have y4o:=bA.later gL
 have xB:=u9r.later gL
 clear G7 hg0 bA u9r
 refine Zx l6 ?_
 rcases q9:s.final with _ | _
 . (
 by_cases hemp:s.a6.length=0
 . (
 have P9:=H9 q9;clear q9
 have q1:=P9.out
 have HEM:=H9 hemp;clear hemp
 have q2:((s.a6.length:Int)==0)=true:=by have h9:=HEM.out;rw [beq_iff_eq];omega
 refine Ze fun _ l6=> ?_
 have qs:=And.intro q1 q2
 refine Zr [52,53,54,55,56,57,58,59,60,61,62,63,64,65,66,67,68,69] hf ?_
 refine D0 4 43 44 45 70 hf ?_
 clear hf sS qs;intro a7 hf sS
 refine Zx l6 (Fc.l8 sS.2.2.2.2 ?_)
 have G3:R3 ss i s=false:=by unfold R3;rw [P9.out];rw [decide_eq_true HEM.out];rfl
 have Q9:=H9 G3;clear G3
 refine Ze fun _ l6=>Zr [] hf ?_
 refine r6 2 hf ?_
 clear hf sS;intro a7 hf s2
 refine Zx l6 (k8 ?_)
 exact Fc.o9 rfl hf s2 ⟨by rw [HQ.out,HOF.out,HAG.out,HGS.out,Q9.out];rfl,uP.trans (Below.mono (hb.trans (gL.mono hb.size)) (Nat.le_of_lt y4p))⟩)
 . (
 by_cases hlz:leastOf s=0
 . (
 by_cases K0:s∈ss.take i
 . (
 have P9:=H9 q9;clear q9
 have q1:=P9.out
 have HEM:=H9 hemp;clear hemp
 have q2:((s.a6.length:Int)==0)=false:=by have h9:=HEM.out;rw [beq_eq_false_iff_ne];omega
 have HLZ:=H9 hlz;clear hlz
 have q3:((leastOf s:Int) !=0)=false:=by have h9:=HLZ.out;rw [h9];rfl
 have HIN:=H9 K0;clear K0
 obtain ⟨j,hj1,hj2,hj3⟩:=aB HIN.out
 have HJ:=H9 hj3;clear hj1 hj3
 have hj4:j<i:=by simp at hj2;omega
 have q4:((j:Int) !=(i:Int))=true:=by rw [bne_iff_ne];omega
 refine Ze fun _ l6=> ?_
 have qs:=And.intro q1 (And.intro q2 q3)
 refine rg ?_
 have bB:=And.intro (hf.pL 52 53 54 55 56 57 58 59 60 61) (hf.B8 62 63 64 65 66 67 68 69)
 iterate 10 refine Zy ?_
 refine Zd (dN W6 W5.heap.size 0 s _ _ ⟨y0,y1,y2,xB⟩ aY.ok) ?_;rintro e w7 ⟨rfl,A8⟩
 replace x0:=cL A8 x0;replace x1:=cL A8 x1;replace x2:=cL A8 x2
 have qU:=hgz.later A8
 have zJ:=y4o.later A8
 have jB:=gL.trans (A8.mono gL.size)
 refine Zv ?_
 iterate 4 refine Zy ?_
 have HH:=cH w7 qU zJ aY sO
 simp only [z9d,P9.out] at HH
 refine Zd (HH) ?_;rintro e w8 ⟨rfl,M3,oD,hF1,hF2,hF3,hF4⟩
 have T2:=hb.trans ((jB.mono hb.size).trans (n4.below hF4 (by have:=hb.size;have:=jB.size;omega) (fun k hk=>by rcases Nat.lt_or_ge k w3.heap.size with h | h;(have:=qU.lo k h;omega);exact h)))
 rw [HJ.out]
 refine Zv ?_
 iterate 3 refine Zy ?_
 refine Fc.nil (D0 4 43 44 45 70 hf ?_)
 clear hf sS bB qs;intro a7 hf sS
 refine Zx l6 (Fc.l8 sS.2.2.2.2 ?_)
 have G3:R3 ss i s=false:=by unfold R3;rw [P9.out];rw [decide_eq_false (show ¬ s∉ss.take i from fun h=>h HIN.out)];simp
 have Q9:=H9 G3;clear G3
 refine Ze fun _ l6=>Zr [] hf ?_
 refine r6 2 hf ?_
 clear hf sS;intro a7 hf s2
 refine Zx l6 (k8 ?_)
 exact Fc.o9 rfl hf s2 ⟨by rw [HQ.out,HOF.out,HAG.out,HGS.out,Q9.out];rfl,uP.trans (Below.mono (T2) (Nat.le_of_lt y4p))⟩)
 . (
 have P9:=H9 q9;clear q9
 have q1:=P9.out
 have HEM:=H9 hemp;clear hemp
 have q2:((s.a6.length:Int)==0)=false:=by have h9:=HEM.out;rw [beq_eq_false_iff_ne];omega
 have HLZ:=H9 hlz;clear hlz
 have q3:((leastOf s:Int) !=0)=false:=by have h9:=HLZ.out;rw [h9];rfl
 have HIN:=H9 K0;clear K0
 have HJ:=H9 (dJ HIN.out)
 have hti:(ss.take i).length=i:=sO
 have HTI:=H9 hti;clear hti
 refine Ze fun _ l6=> ?_
 have qs:=And.intro q1 (And.intro q2 q3)
 refine rg ?_
 have bB:=And.intro (hf.pL 52 53 54 55 56 57 58 59 60 61) (hf.B8 62 63 64 65 66 67 68 69)
 iterate 10 refine Zy ?_
 refine Zd (dN W6 W5.heap.size 0 s _ _ ⟨y0,y1,y2,xB⟩ aY.ok) ?_;rintro e w7 ⟨rfl,A8⟩
 replace x0:=cL A8 x0;replace x1:=cL A8 x1;replace x2:=cL A8 x2
 have qU:=hgz.later A8
 have zJ:=y4o.later A8
 have jB:=gL.trans (A8.mono gL.size)
 refine Zv ?_
 iterate 4 refine Zy ?_
 have HH:=cH w7 qU zJ aY sO
 simp only [z9d,P9.out] at HH
 refine Zd (HH) ?_;rintro e w8 ⟨rfl,M3,oD,hF1,hF2,hF3,hF4⟩
 have T2:=hb.trans ((jB.mono hb.size).trans (n4.below hF4 (by have:=hb.size;have:=jB.size;omega) (fun k hk=>by rcases Nat.lt_or_ge k w3.heap.size with h | h;(have:=qU.lo k h;omega);exact h)))
 rw [HJ.out] at hF3
 rw [HJ.out,HTI.out]
 refine Zv ?_
 iterate 3 refine Zy ?_
 refine Fc.nil (D0 4 43 44 45 70 hf ?_)
 clear hf sS bB qs;intro a7 hf sS
 refine Zx l6 (Fc.k9 sS.2.2.2.2 ?_)
 have R4:R3 ss i s=true:=by unfold R3;rw [P9.out,decide_eq_true HLZ.out,decide_eq_true HIN.out];rw [decide_eq_false HEM.out];rfl
 have HGD:=H9 R4;clear R4
 refine wp_skip (Fc.j7 (Zx j8 (Zr [71] hf ?_)))
 refine C0 4 43 44 45 hf ?_
 clear hf sS;intro a7 hf sS
 refine Fc.j6 ?_
 obtain ⟨s4,s43,s44,s45⟩:=sS
 exact ⟨_,by have:=HK.out;omega,i+1,M3,oD,rfl,oM,hf,s4,s43,s44,by rw [s45];rfl,by rw [List.take_add_one,HS.out];exact hF3,by rw [HAG.out,HGS.out,HGD.out];rfl,T2⟩))
 . (
 have P9:=H9 q9;clear q9
 have q1:=P9.out
 have HEM:=H9 hemp;clear hemp
 have q2:((s.a6.length:Int)==0)=false:=by have h9:=HEM.out;rw [beq_eq_false_iff_ne];omega
 have HLZ:=H9 hlz;clear hlz
 have q3:((leastOf s:Int) !=0)=true:=by have h9:=HLZ.out;rw [bne_iff_ne];omega
 refine Ze fun _ l6=> ?_
 have qs:=And.intro q1 (And.intro q2 q3)
 refine rg ?_
 have bB:=And.intro (hf.pL 52 53 54 55 56 57 58 59 60 61) (hf.B8 62 63 64 65 66 67 68 69)
 iterate 10 refine Zy ?_
 refine Zd (dN W6 W5.heap.size 0 s _ _ ⟨y0,y1,y2,xB⟩ aY.ok) ?_;rintro e w7 ⟨rfl,A8⟩
 replace x0:=cL A8 x0;replace x1:=cL A8 x1;replace x2:=cL A8 x2
 have qU:=hgz.later A8
 have zJ:=y4o.later A8
 have jB:=gL.trans (A8.mono gL.size)
 refine Zv ?_
 iterate 8 refine Zy ?_
 refine Fc.nil (D0 4 43 44 45 70 hf ?_)
 clear hf sS bB qs;intro a7 hf sS
 refine Zx l6 (Fc.l8 sS.2.2.2.2 ?_)
 have G3:R3 ss i s=false:=by unfold R3;rw [P9.out];rw [decide_eq_false HLZ.out];simp
 have Q9:=H9 G3;clear G3
 refine Ze fun _ l6=>Zr [] hf ?_
 refine r6 2 hf ?_
 clear hf sS;intro a7 hf s2
 refine Zx l6 (k8 ?_)
 exact Fc.o9 rfl hf s2 ⟨by rw [HQ.out,HOF.out,HAG.out,HGS.out,Q9.out];rfl,uP.trans (Below.mono (hb.trans (jB.mono hb.size)) (Nat.le_of_lt y4p))⟩)))
 . (
 by_cases hlz:leastOf s=0
 . (
 by_cases K0:s∈ss.take i
 . (
 have P9:=H9 q9;clear q9
 have q1:=P9.out
 have HLZ:=H9 hlz;clear hlz
 have q3:((leastOf s:Int) !=0)=false:=by have h9:=HLZ.out;rw [h9];rfl
 have HIN:=H9 K0;clear K0
 obtain ⟨j,hj1,hj2,hj3⟩:=aB HIN.out
 have HJ:=H9 hj3;clear hj1 hj3
 have hj4:j<i:=by simp at hj2;omega
 have q4:((j:Int) !=(i:Int))=true:=by rw [bne_iff_ne];omega
 refine Ze fun _ l6=> ?_
 have qs:=And.intro q1 q3
 refine rg ?_
 have bB:=And.intro (hf.pL 52 53 54 55 56 57 58 59 60 61) (hf.B8 62 63 64 65 66 67 68 69)
 iterate 10 refine Zy ?_
 refine Zd (dN W6 W5.heap.size 0 s _ _ ⟨y0,y1,y2,xB⟩ aY.ok) ?_;rintro e w7 ⟨rfl,A8⟩
 replace x0:=cL A8 x0;replace x1:=cL A8 x1;replace x2:=cL A8 x2
 have qU:=hgz.later A8
 have zJ:=y4o.later A8
 have jB:=gL.trans (A8.mono gL.size)
 refine Zv ?_
 iterate 4 refine Zy ?_
 have HH:=cH w7 qU zJ aY sO
 simp only [z9d,P9.out] at HH
 refine Zd (HH) ?_;rintro e w8 ⟨rfl,M3,oD,hF1,hF2,hF3,hF4⟩
 have T2:=hb.trans ((jB.mono hb.size).trans (n4.below hF4 (by have:=hb.size;have:=jB.size;omega) (fun k hk=>by rcases Nat.lt_or_ge k w3.heap.size with h | h;(have:=qU.lo k h;omega);exact h)))
 rw [HJ.out]
 refine Zv ?_
 iterate 3 refine Zy ?_
 refine Fc.nil (D0 4 43 44 45 70 hf ?_)
 clear hf sS bB qs;intro a7 hf sS
 refine Zx l6 (Fc.l8 sS.2.2.2.2 ?_)
 have G3:R3 ss i s=false:=by unfold R3;rw [P9.out];rw [decide_eq_false (show ¬ s∉ss.take i from fun h=>h HIN.out)];simp
 have Q9:=H9 G3;clear G3
 refine Ze fun _ l6=>Zr [] hf ?_
 refine r6 2 hf ?_
 clear hf sS;intro a7 hf s2
 refine Zx l6 (k8 ?_)
 exact Fc.o9 rfl hf s2 ⟨by rw [HQ.out,HOF.out,HAG.out,HGS.out,Q9.out];rfl,uP.trans (Below.mono (T2) (Nat.le_of_lt y4p))⟩)
 . (
 have P9:=H9 q9;clear q9
 have q1:=P9.out
 have HLZ:=H9 hlz;clear hlz
 have q3:((leastOf s:Int) !=0)=false:=by have h9:=HLZ.out;rw [h9];rfl
 have HIN:=H9 K0;clear K0
 have HJ:=H9 (dJ HIN.out)
 have hti:(ss.take i).length=i:=sO
 have HTI:=H9 hti;clear hti
 refine Ze fun _ l6=> ?_
 have qs:=And.intro q1 q3
 refine rg ?_
 have bB:=And.intro (hf.pL 52 53 54 55 56 57 58 59 60 61) (hf.B8 62 63 64 65 66 67 68 69)
 iterate 10 refine Zy ?_
 refine Zd (dN W6 W5.heap.size 0 s _ _ ⟨y0,y1,y2,xB⟩ aY.ok) ?_;rintro e w7 ⟨rfl,A8⟩
 replace x0:=cL A8 x0;replace x1:=cL A8 x1;replace x2:=cL A8 x2
 have qU:=hgz.later A8
 have zJ:=y4o.later A8
 have jB:=gL.trans (A8.mono gL.size)
 refine Zv ?_
 iterate 4 refine Zy ?_
 have HH:=cH w7 qU zJ aY sO
 simp only [z9d,P9.out] at HH
 refine Zd (HH) ?_;rintro e w8 ⟨rfl,M3,oD,hF1,hF2,hF3,hF4⟩
 have T2:=hb.trans ((jB.mono hb.size).trans (n4.below hF4 (by have:=hb.size;have:=jB.size;omega) (fun k hk=>by rcases Nat.lt_or_ge k w3.heap.size with h | h;(have:=qU.lo k h;omega);exact h)))
 rw [HJ.out] at hF3
 rw [HJ.out,HTI.out]
 refine Zv ?_
 iterate 3 refine Zy ?_
 refine Fc.nil (D0 4 43 44 45 70 hf ?_)
 clear hf sS bB qs;intro a7 hf sS
 refine Zx l6 (Fc.k9 sS.2.2.2.2 ?_)
 have R4:R3 ss i s=true:=by unfold R3;rw [P9.out,decide_eq_true HLZ.out,decide_eq_true HIN.out];rfl
 have HGD:=H9 R4;clear R4
 refine wp_skip (Fc.j7 (Zx j8 (Zr [71] hf ?_)))
 refine C0 4 43 44 45 hf ?_
 clear hf sS;intro a7 hf sS
 refine Fc.j6 ?_
 obtain ⟨s4,s43,s44,s45⟩:=sS
 exact ⟨_,by have:=HK.out;omega,i+1,M3,oD,rfl,oM,hf,s4,s43,s44,by rw [s45];rfl,by rw [List.take_add_one,HS.out];exact hF3,by rw [HAG.out,HGS.out,HGD.out];rfl,T2⟩))
 . (
 have P9:=H9 q9;clear q9
 have q1:=P9.out
 have HLZ:=H9 hlz;clear hlz
 have q3:((leastOf s:Int) !=0)=true:=by have h9:=HLZ.out;rw [bne_iff_ne];omega
 refine Ze fun _ l6=> ?_
 have qs:=And.intro q1 q3
 refine rg ?_
 have bB:=And.intro (hf.pL 52 53 54 55 56 57 58 59 60 61) (hf.B8 62 63 64 65 66 67 68 69)
 iterate 10 refine Zy ?_
 refine Zd (dN W6 W5.heap.size 0 s _ _ ⟨y0,y1,y2,xB⟩ aY.ok) ?_;rintro e w7 ⟨rfl,A8⟩
 replace x0:=cL A8 x0;replace x1:=cL A8 x1;replace x2:=cL A8 x2
 have qU:=hgz.later A8
 have zJ:=y4o.later A8
 have jB:=gL.trans (A8.mono gL.size)
 refine Zv ?_
 iterate 8 refine Zy ?_
 refine Fc.nil (D0 4 43 44 45 70 hf ?_)
 clear hf sS bB qs;intro a7 hf sS
 refine Zx l6 (Fc.l8 sS.2.2.2.2 ?_)
 have G3:R3 ss i s=false:=by unfold R3;rw [P9.out];rw [decide_eq_false HLZ.out];simp
 have Q9:=H9 G3;clear G3
 refine Ze fun _ l6=>Zr [] hf ?_
 refine r6 2 hf ?_
 clear hf sS;intro a7 hf s2
 refine Zx l6 (k8 ?_)
 exact Fc.o9 rfl hf s2 ⟨by rw [HQ.out,HOF.out,HAG.out,HGS.out,Q9.out];rfl,uP.trans (Below.mono (hb.trans (jB.mono hb.size)) (Nat.le_of_lt y4p))⟩)))
 . (
 have F3:i=ss.length:=qF
 have HIE:=H9 F3;clear F3 hq
 refine Zo ?_
 refine Zs b7 fun _ b7=>Zr [] hf ?_
 refine r6 2 hf ?_
 clear hf sS;intro a7 hf s2
 refine Zx b7 (k8 ?_)
 refine Fc.o9 rfl hf s2 ⟨?_,uP.trans (hb.mono (Nat.le_of_lt y4p))⟩
 rw [HQ.out,HOF.out,HAG.out,HIE.out,List.drop_length];rfl)))))
def buildF (es:List z6):Fst:=if aW es=0 then build (es.map Y1) else ⟨[],0⟩
theorem x9i (w:World) (es:List z6) (B:Nat) (v:Value) (hB:B<=w.heap.size) (cS:RE w B v es) (hlen:es.length<=100) (hes:∀ e∈es,gM e) :
  Calls Tryz.prog 27 #[v] w fun e w1=>∃ sv,e= .returned (.tuple #[.agg #[sv,.int .u64 (buildF es).init],.int .i64 (aW es:Nat)])/\RS w1 sv (buildF es).l3/\(∀ s∈(buildF es).l3,tN s)/\(buildF es).l3.length<=2+255*es.length/\Below w.heap.size w w1:=by
 by_cases hc:aW es=0
 ·refine (x0w w es B v hB cS hlen hes hc).mono ?_
  rintro e w1 ⟨sv,rfl,h2,h4,h5,h3⟩
  unfold buildF
  rw [if_pos hc,hc]
  exact ⟨sv,rfl,h2,h4,h5,h3⟩
 ·refine (x0x w es B v hB cS hlen hc).mono ?_
  rintro e w1 ⟨rfl,h3⟩
  unfold buildF
  rw [if_neg hc]
  exact ⟨_,rfl,RS.S0 _,sP,sP,h3⟩
theorem w0u (s:ByteArray):okW s=(decide (1<=s.size)&&decide (s.size<=255)):=by
 unfold okW
 have h1:s.toList.length=s.size:=by rw [ByteArray.toList_eq,Array.length_toList];rfl
 congr 1
 cases hl:s.toList with
 | nil =>
  have h2:s.size=0:=by rw [<- h1,hl];rfl
  rw [h2];rfl
 | cons x l =>
  have h2:1<=s.size:=by rw [<- h1,hl];simp
  rw [decide_eq_true h2];rfl
/-! bare -/
def A7 (e:z6):z6:=if e.gone then ⟨e.word,0,e.gone⟩ else e
theorem x7n {e:z6} (h:gM e):gM (A7 e):=by unfold A7;split;exact ⟨sP,sP⟩;exact h
theorem jC (e:z6):(A7 e).word=e.word:=by unfold A7;split<;>rfl
/-! drafts -/
structure gK where
 letters:List Int
 weight:Int
 gone:Bool
def okD (d:gK):Prop:=(∀ x∈d.letters,0<=x/\x<=255)/\0<=d.weight/\d.weight<4294967296
def dP (x:Int):Int:=if x%8<7 then 97+x%8%3 else x
def bP (l:List Int):ByteArray:=l.foldl (fun s x=>s++strOfNums [dP x]) ⟨#[]⟩
def cK (l:List Int):ByteArray:=if (bP (l.take 9)).toList=[] then ⟨#[97]⟩ else bP (l.take 9)
def gK.ent (d:gK):z6:=A7 ⟨cK d.letters,d.weight,d.gone⟩
theorem x7m (x:Int):(strOfNums [x]).size=1:=rfl
theorem z1c (l:List Int) (x:Int):bP (l++[x])=bP l++strOfNums [dP x]:=by simp [bP]
theorem tA (l:List Int):(bP l).size=l.length:=by
 have key:∀ (l:List Int) (s:ByteArray),(l.foldl (fun s x=>s++strOfNums [dP x]) s).size=s.size+l.length:=by
  intro l
  induction l with
  | nil=>intro s;simp
  | cons x l ih=>intro s;rw [List.foldl_cons,ih,ByteArray.size_append,x7m];simp;omega
 have:=key l ⟨#[]⟩
 rw [show (⟨#[]⟩:ByteArray).size=0 from rfl,Nat.zero_add] at this
 exact this
theorem uQ (s:ByteArray):s.toList.length=s.size:=by rw [ByteArray.toList_eq,Array.length_toList];rfl
theorem z1b (l:List Int):1<=(cK l).size/\(cK l).size<=9:=by
 unfold cK
 have h1:=uQ (bP (l.take 9))
 have h2:=tA (l.take 9)
 have h3:(l.take 9).length<=9:=sO
 split
 ·decide
 ·rename_i h
  refine ⟨?_,oM⟩
  rcases Nat.eq_zero_or_pos (bP (l.take 9)).size with h4 | h4
  ·exact absurd (List.eq_nil_of_length_eq_zero (h1.trans h4)) h
  ·exact h4
theorem x0t {d:gK} (h:okD d):gM d.ent:=x7n ⟨h.2.1,h.2.2⟩
theorem x0s (d:gK):okW d.ent.word=true:=by
 unfold gK.ent
 rw [jC,w0u]
 have:=z1b d.letters
 rw [decide_eq_true this.1,decide_eq_true (show (cK d.letters).size<=255 by omega)]
 rfl
theorem u9q (W:World) (y:Int):(convert 31 9 (.slice (some ⟨W.heap.size,0,none⟩) 1 1)).run Tryz.prog (W.alloc (.cells #[.int .u8 y] 5))= .ok (.string (strOfNums [y])) (W.alloc (.cells #[.int .u8 y] 5)):=by
 refine run_convert_bytes_arg (P:=Tryz.prog) _ 31 5 Tryz.underlying31 Tryz.underlying5 W.heap.size 0 1 1 [y] rfl (fun i hi=> ?_) 9 Tryz.underlying9
 obtain rfl:i=0:=oM
 exact n5 0 (heap_alloc_new W (.cells #[.int .u8 y] 5))
def RU (w:World) (B:Nat) (v:Value) (l:List Int):Prop:=∃ (A:Option Addr) (c:Nat),v= .slice A l.length c/\l.length<=9223372036854775807/\(0<l.length->∃ b off,A=some ⟨b,off,none⟩/\b<B/\∀ (i:Nat) (x:Int),l[i]? =some x->w.cell? ⟨b,off+i,none⟩=some (.int .u8 x))
def RDs (w:World) (B:Nat) (v:Value) (ds:List gK):Prop:=∃ (A:Option Addr) (c:Nat),v= .slice A ds.length c/\ds.length<=9223372036854775807/\(0<ds.length->∃ b off,A=some ⟨b,off,none⟩/\b<B /\
 ∀ (i:Nat) (d:gK),ds[i]? =some d->∃ lv,w.cell? ⟨b,off+i*3,none⟩=some lv/\w.cell? ⟨b,off+i*3+1,none⟩=some (.int .u32 d.weight)/\w.cell? ⟨b,off+i*3+2,none⟩=some (.bool d.gone)/\RU w B lv d.letters)
section
variable {w w':World} {B B':Nat} {v:Value} {l:List Int} {ds:List gK}
theorem RU.below (h:RU w B v l) (hb:Below B w w'):RU w' B v l:=by
 obtain ⟨A,c,h1,h2,h3⟩:=h
 refine ⟨A,c,h1,h2,fun h0=> ?_⟩
 obtain ⟨b,off,h4,h5,h6⟩:=h3 h0
 exact ⟨b,off,h4,h5,fun i x hi=>D1 hb (h6 i x hi) h5⟩
theorem RU.more (h:RU w B v l) (hB:B<=B'):RU w B' v l:=by
 obtain ⟨A,c,h1,h2,h3⟩:=h
 refine ⟨A,c,h1,h2,fun h0=> ?_⟩
 obtain ⟨b,off,h4,h5,h6⟩:=h3 h0
 exact ⟨b,off,h4,oM,h6⟩
theorem RU.form (h:RU w B v l):∃ (A:Option Addr) (c:Nat),v= .slice A l.length c/\l.length<=9223372036854775807:=by
 obtain ⟨A,c,h1,h2,_⟩:=h
 exact ⟨A,c,h1,h2⟩
theorem RU.at_ {A:Option Addr} {n c:Nat} (h:RU w B (.slice A n c) l) {i:Nat} {x:Int} (hi:l[i]? =some x):∃ b off,A=some ⟨b,off,none⟩/\b<B/\w.cell? ⟨b,off+i,none⟩=some (.int .u8 x):=by
 obtain ⟨A',c',h1,h2,h3⟩:=h
 injection h1 with h1
 have h0:=(E2 hi).1
 obtain ⟨b,off,h4,h5,h6⟩:=h3 oM
 exact ⟨b,off,h1.trans h4,h5,h6 i x hi⟩
theorem RDs.below (h:RDs w B v ds) (hb:Below B w w'):RDs w' B v ds:=by
 obtain ⟨A,c,h1,h2,h3⟩:=h
 refine ⟨A,c,h1,h2,fun h0=> ?_⟩
 obtain ⟨b,off,h4,h5,h6⟩:=h3 h0
 refine ⟨b,off,h4,h5,fun i d hi=> ?_⟩
 obtain ⟨lv,k0,k1,k2,k3⟩:=h6 i d hi
 exact ⟨lv,D1 hb k0 h5,D1 hb k1 h5,D1 hb k2 h5,k3.below hb⟩
theorem RDs.more (h:RDs w B v ds) (hB:B<=B'):RDs w B' v ds:=by
 obtain ⟨A,c,h1,h2,h3⟩:=h
 refine ⟨A,c,h1,h2,fun h0=> ?_⟩
 obtain ⟨b,off,h4,h5,h6⟩:=h3 h0
 refine ⟨b,off,h4,oM,fun i d hi=> ?_⟩
 obtain ⟨lv,k0,k1,k2,k3⟩:=h6 i d hi
 exact ⟨lv,k0,k1,k2,k3.more hB⟩
theorem RDs.form (h:RDs w B v ds):∃ (A:Option Addr) (c:Nat),v= .slice A ds.length c/\ds.length<=9223372036854775807:=by
 obtain ⟨A,c,h1,h2,_⟩:=h
 exact ⟨A,c,h1,h2⟩
theorem RDs.at_ {A:Option Addr} {n c:Nat} (h:RDs w B (.slice A n c) ds) {i:Nat} {d:gK} (hi:ds[i]? =some d):∃ b off lv,A=some ⟨b,off,none⟩/\b<B/\w.cell? ⟨b,off+i*3,none⟩=some lv/\w.cell? ⟨b,off+i*3+1,none⟩=some (.int .u32 d.weight)/\w.cell? ⟨b,off+i*3+2,none⟩=some (.bool d.gone)/\RU w B lv d.letters:=by
 obtain ⟨A',c',h1,h2,h3⟩:=h
 injection h1 with h1
 have h0:=(E2 hi).1
 obtain ⟨b,off,h4,h5,h6⟩:=h3 oM
 obtain ⟨lv,k⟩:=h6 i d hi
 exact ⟨b,off,lv,h1.trans h4,h5,k⟩
end
abbrev OE (w:World) (base:Nat) (v:Value) (es:List z6):Prop:=w.ownsRow base 64 3 v es.length (tJ es)
theorem K8 (a b:List z6):tJ (a++b)=tJ a++tJ b:=by simp [tJ]
theorem OE.S0 (w:World) (base:Nat):OE w base (.slice none 0 0) []:=World.ownsRow_nil _ _ _ _
theorem OE.re {w:World} {base:Nat} {v:Value} {es:List z6} (h:OE w base v es):RE w w.heap.size v es:=by
 rcases h.2 with ⟨rfl,h0⟩ | ⟨g,cap,cur,rfl,_,hh,hc,_⟩
 ·obtain rfl:es=[]:=List.eq_nil_of_length_eq_zero h0
  exact ⟨none,0,rfl,sP,fun h=>absurd h sP⟩
 ·refine ⟨_,_,rfl,hc,fun _=>⟨g,0,rfl,j4 hh,fun j u hu=> ?_⟩⟩
  have:=h.cellAt j (by rw [<- iF];exact (E2 hu).1)
  rw [Nat.zero_add,this,hu]
theorem OE.form {w:World} {base:Nat} {v:Value} {es:List z6} (h:OE w base v es):∃ (A:Option Addr) (c:Nat),v= .slice A es.length c/\es.length<=c:=h.re.form
theorem Y7:(Tryz.prog.info? 64).map (fun i=>(i.zero,i.size,i.bytes))=some (some (.agg #[.string ⟨#[]⟩,.int .u32 0,.bool false]),3,24):=kR
theorem dK (e:z6):∀ u∈e.cells,u.oneCell'=true:=by
 intro u hu
 simp [z6.cells] at hu
 rcases hu with rfl | rfl | rfl<;>rfl
/-! lists -/
def tB (l:List z6) (e:z6):List z6:=l.takeWhile (fun x=>lexlt (wl x.word) (wl e.word))++[A7 e]++l.filter fun x=>lexlt (wl e.word) (wl x.word)
def cM (l es:List z6):List z6:=es.foldl tB l
def bU (ds:List gK) (most:Nat):List z6:=(ds.take most).map gK.ent
def lD (ds:List gK) (most:Nat):List z6:=cM [] (bU ds most)
theorem tC {w W:World} {x y z x' y' z':Value} {t t':TypeId} (h:(w.alloc (.cells #[x,y,z] t)).alloc (.cells #[x',y',z'] t')=W):Below w.heap.size w W/\W.cell? ⟨w.heap.size,0,none⟩=some x/\W.cell? ⟨w.heap.size,1,none⟩=some y/\W.cell? ⟨w.heap.size,2,none⟩=some z /\
  W.heap[w.heap.size+1]? =some (.cells #[x',y',z'] t' (0,0))/\W.heap[w.heap.size]? =some (.cells #[x,y,z] t (0,0)):=by
 obtain ⟨W0,p8⟩:∃ W0,w.alloc (.cells #[x,y,z] t)=W0:=⟨_,rfl⟩
 rw [p8] at h
 obtain ⟨h1,h2,h3,h4,h6,h5⟩:=G1 p8
 obtain ⟨k1,k2,k3,k4,k6,k5⟩:=G1 h
 rw [h5] at k6
 exact ⟨h1.trans (k1.mono h1.size),cL k1 h2,cL k1 h3,cL k1 h4,k6,(k1.block _ oM).trans h6⟩
theorem w0t (w:World) (e:z6) (hg:e.gone=true):Calls Tryz.prog 93 #[eval e] w fun e1 w1=>e1= .returned (eval (A7 e))/\Below w.heap.size w w1:=by
 refine S8 7 Tryz.func93 fun fr hf s0=> ?_
 simp only [eval] at s0
 have HG:=H9 hg;clear hg
 refine Ze fun _ b7=>Zr [] hf ?_
 refine C1 1 2 hf ?_
 clear hf s0;intro a7 hf sS
 generalize Z4:(w.alloc (.cells #[.string e.word,.int .u32 e.weight,.bool e.gone] 64)).alloc (.cells #[.string ⟨#[]⟩,.int .u32 0,.bool false] 64)=W1
 obtain ⟨n7,x0,x1,x2,hp,hq⟩:=tC Z4
 obtain ⟨s1,s2⟩:=sS
 try simp only [World.size_alloc] at s2
 clear Z4
 refine Zs b7 fun _ b7=>Ze fun _ j8=>Zr [3] hf ?_
 refine B1 1 2 4 hf ?_
 clear hf s1 s2;intro a7 hf sS
 refine Zx j8 ?_
 obtain ⟨s1,s2,s4⟩:=sS
 rw [HG.out] at s4
 refine Fc.l8 s4 ?_
 have fz1:=j3 (i:=1) hq
 refine Zr [5] hf ?_
 refine C1 1 2 hf ?_
 clear hf s1 s2 s4;intro a7 hf sS
 generalize U1:W1.setCell ⟨w.heap.size,1,none⟩ (.int .u32 0)=W2
 have r9:Below w.heap.size w W2:=by rw [<- U1];exact n7.setCell (p:=⟨w.heap.size,1,none⟩) nR _
 have H7:=j5 (i:=1) hq (.int .u32 0)
 rw [U1] at H7
 have J2:W2.heap[w.heap.size+1]? =some (.cells #[.string ⟨#[]⟩,.int .u32 0,.bool false] 64 (0,0)):=by rw [<- U1];exact (Below.heap_setCell _ _ _ _ sP).trans hp
 clear U1 hp hq x0 x1 x2 n7
 have hp:=J2;have n7:=r9;clear J2 r9
 have x0:=n5 0 H7;have x1:=n5 1 H7;have x2:=n5 2 H7
 simp at x0 x1 x2
 refine Zx b7 ?_
 have fz0:=j3 (i:=0) hp;have fz1:=j3 (i:=1) hp;have fz2:=j3 (i:=2) hp
 have g0:=n5 0 hp;have g1:=n5 1 hp;have g2:=n5 2 hp
 simp at g0 g1 g2
 refine Ze fun _ b7=>Zr [6] hf ?_
 refine r6 2 hf ?_
 clear hf sS;intro a7 hf s2
 refine Zx b7 (k8 ?_)
 refine N9 rfl hf s2 (j5 (j5 (j5 hp _) _) _) Tryz.underlying64 rfl kR ⟨?_,((n7.setCell (p:=⟨w.heap.size+1,0,none⟩) (Nat.le_succ _) _).setCell (p:=⟨w.heap.size+1,1,none⟩) (Nat.le_succ _) _).setCell (p:=⟨w.heap.size+1,2,none⟩) (Nat.le_succ _) _⟩
 rw [show A7 e=⟨e.word,0,e.gone⟩ from if_pos HG.out]
 rfl
theorem w0s (w:World) (e:z6) (hg:e.gone=false):Calls Tryz.prog 93 #[eval e] w fun e1 w1=>e1= .returned (eval (A7 e))/\Below w.heap.size w w1:=by
 refine S8 7 Tryz.func93 fun fr hf s0=> ?_
 simp only [eval] at s0
 have HG:=H9 hg;clear hg
 refine Ze fun _ b7=>Zr [] hf ?_
 refine C1 1 2 hf ?_
 clear hf s0;intro a7 hf sS
 generalize Z4:(w.alloc (.cells #[.string e.word,.int .u32 e.weight,.bool e.gone] 64)).alloc (.cells #[.string ⟨#[]⟩,.int .u32 0,.bool false] 64)=W1
 obtain ⟨n7,x0,x1,x2,hp,hq⟩:=tC Z4
 obtain ⟨s1,s2⟩:=sS
 try simp only [World.size_alloc] at s2
 clear Z4
 refine Zs b7 fun _ b7=>Ze fun _ j8=>Zr [3] hf ?_
 refine B1 1 2 4 hf ?_
 clear hf s1 s2;intro a7 hf sS
 refine Zx j8 ?_
 obtain ⟨s1,s2,s4⟩:=sS
 rw [HG.out] at s4
 refine Fc.k9 s4 ?_
 refine wp_skip (Zx b7 ?_)
 have fz0:=j3 (i:=0) hp;have fz1:=j3 (i:=1) hp;have fz2:=j3 (i:=2) hp
 have g0:=n5 0 hp;have g1:=n5 1 hp;have g2:=n5 2 hp
 simp at g0 g1 g2
 refine Ze fun _ b7=>Zr [6] hf ?_
 refine r6 2 hf ?_
 clear hf s1 s2 s4;intro a7 hf s2
 refine Zx b7 (k8 ?_)
 refine N9 rfl hf s2 (j5 (j5 (j5 hp _) _) _) Tryz.underlying64 rfl kR ⟨?_,((n7.setCell (p:=⟨w.heap.size+1,0,none⟩) (Nat.le_succ _) _).setCell (p:=⟨w.heap.size+1,1,none⟩) (Nat.le_succ _) _).setCell (p:=⟨w.heap.size+1,2,none⟩) (Nat.le_succ _) _⟩
 rw [show A7 e=e from if_neg (by rw [HG.out];simp)]
 rfl
theorem bare (w:World) (e:z6):Calls Tryz.prog 93 #[eval e] w fun e1 w1=>e1= .returned (eval (A7 e))/\Below w.heap.size w w1:=by
 cases hg:e.gone with
 | true=>exact w0t w e hg
 | false=>exact w0s w e hg
theorem w0r (w:World) (d:gK) (lv:Value) (hru:RU w w.heap.size lv d.letters) (hx:∀ x∈d.letters,0<=x/\x<=255):Calls Tryz.prog 56 #[.agg #[lv,.int .u32 d.weight,.bool d.gone]] w fun e1 w1=>e1= .returned (eval d.ent)/\Below w.heap.size w w1:=by
 refine S8 43 Tryz.func56 fun fr hf s0=> ?_
 have t7o:=hru
 obtain ⟨A,c,rfl,hlc⟩:=hru.form
 clear hru
 have HX:=H9 hx;clear hx
 have xH:=u9q
 refine Ze fun _ b7=>Zr [] hf ?_
 refine C1 1 2 hf ?_
 clear hf s0;intro a7 hf sS
 generalize Z4:(w.alloc (.cells #[.slice A d.letters.length c,.int .u32 d.weight,.bool d.gone] 131)).alloc (.cells #[.string ⟨#[]⟩,.int .u32 0,.bool false] 64)=W1
 obtain ⟨n7,x0,x1,x2,hp, -⟩:=tC Z4
 obtain ⟨s1,s2⟩:=sS
 try simp only [World.size_alloc] at s2
 clear Z4
 have hs1:=n7.size
 have fK:w.heap.size+1<W1.heap.size:=j4 hp
 refine Zs b7 fun _ b7=>Zr [] hf ?_
 refine B1 1 2 3 hf ?_
 clear hf s1 s2;intro a7 hf sS
 refine Zs b7 fun _ b7=>Ze fun _ j8=>Zr [] hf ?_
 refine C0 1 2 3 4 hf ?_
 clear hf sS;intro a7 hf sS
 refine Zx j8 (wp_block (wp_loop_ghost (fun gk fr wr=>∃ (j:Nat),gk=9-j/\j<=d.letters.length/\j<=9/\Fc.Fr 43 fr/\fr.tmps[1]? =some (.pointer (some ⟨w.heap.size,0,none⟩))/\fr.tmps[2]? =some (.pointer (some ⟨w.heap.size+1,0,none⟩))/\fr.tmps[3]? =some (.string (bP (d.letters.take j)))/\fr.tmps[4]? =some (.int .i64 j)/\Below W1.heap.size W1 wr) (9) ?_ ?_))
 . (
 obtain ⟨s1,s2,s3,s4⟩:=sS
 exact ⟨0,rfl,Nat.zero_le _,Nat.zero_le _,hf,s1,s2,s3,s4,Below.refl _ _⟩)
 . (
 clear hf sS
 rintro gk fr wr ⟨j,hk,hj,hj9,hf,s1,s2,s3,s4,hb⟩
 have HK:=H9 hk;clear hk
 have y0:=cL hb x0
 have zE:=n7.trans (hb.mono hs1)
 rcases Nat.lt_or_ge j d.letters.length with n8 | nL
 . (
 rcases Nat.lt_or_ge j 9 with h9 | h9
 . (
 have q1:decide (j<d.letters.length)=true:=decide_eq_true oM
 have q2:decide ((j:Int)<9)=true:=decide_eq_true oM
 refine Ze fun _ j8=>Ze fun _ l6=> ?_
 have qs:=And.intro q1 q2
 refine Zr [6,7,8,9,10,11,12,13] hf ?_
 refine D0 1 2 3 4 14 hf ?_
 clear hf s1 s2 s3 s4 qs;intro a7 hf sS
 refine Zx l6 (Fc.l8 sS.2.2.2.2 ?_)
 clear q1 q2
 obtain ⟨x,hx⟩:∃ x,d.letters[j]? =some x:=⟨_,D9 n8⟩
 obtain ⟨b,off,rfl,uB,z0⟩:=(t7o.below zE).at_ hx
 have yC:=HX.out x (U0 hx)
 have y8:bP (d.letters.take (j+1))=bP (d.letters.take j)++strOfNums [dP x]:=by rw [List.take_add_one,hx];exact z1c _ _
 have hds:(bP (d.letters.take j)).size<=9:=by rw [tA];simp;omega
 have h1s:(strOfNums [dP x]).size<=1:=Nat.le_of_eq (x7m _)
 have X9:=H9 y8;clear y8 hx
 refine wp_skip (Zs j8 fun _ j8=>wp_block (Ze fun _ l6=>Zr [17,18,19,20,21] hf ?_))
 refine D0 1 2 3 4 5 hf ?_
 clear hf sS;intro a7 hf sS
 refine Zs l6 fun _ l6=>Ze fun _ N4=>rg ?_
 have bB:=hf.B2 22 23
 refine Zy ?_
 refine fp fun K Z=> ?_
 go_simp
 rw [Int.tmod_eq_emod_of_nonneg yC.1]
 apply Z.out;clear Z K
 refine Zy ?_
 refine Fc.nil (J3 1 2 3 4 5 24 hf ?_)
 clear hf sS bB;intro a7 hf sS
 refine Zx N4 (Fc.l0 sS.2.2.2.2.2 (fun M7=> ?_) (fun M7=> ?_))
 . (
 have HQ:=H9 M7;clear M7
 have h7:=of_decide_eq_true HQ.out
 have hdl:dP x=97+x%8%3:=if_pos h7
 rw [hdl] at h1s
 have HDL:=H9 hdl;clear hdl
 refine rg ?_
 have bB:=hf.B4 25 26 27 28
 refine Zy ?_
 refine fp fun K Z=> ?_
 go_simp
 rw [Int.tmod_eq_emod_of_nonneg yC.1]
 apply Z.out;clear Z K
 refine fp fun K Z=> ?_
 go_simp
 rw [Int.tmod_eq_emod_of_nonneg (show 0<=x%8 by omega)]
 apply Z.out;clear Z K
 refine fp fun K Z=> ?_
 go_simp
 try simp (disch:=omega) only [Fc.W]
 try simp (disch:=omega) only [Fc.wrap_u8]
 apply Z.out;clear Z K
 refine Zy ?_
 refine Fc.nil (D0 1 2 3 4 5 hf ?_)
 clear hf sS bB;intro a7 hf sS
 refine Zx l6 (rg ?_)
 have bB:=hf.B5 29 30 31 32 33
 iterate 4 refine Zy ?_
 refine fp fun K Z=> ?_
 go_simp
 try simp (disch:=omega) only [Fc.W]
 rw [if_neg (by omega),Oper.upon_value]
 apply Z.out;clear Z K
 refine Zy ?_
 refine Fc.nil (C0 1 2 3 4 hf ?_)
 clear hf sS bB;intro a7 hf sS
 refine Fc.j7 (Zx j8 (Zr [15,16] hf ?_))
 refine C0 1 2 3 4 hf ?_
 clear hf sS;intro a7 hf sS
 refine Fc.j6 ?_
 obtain ⟨s1,s2,s3,s4⟩:=sS
 refine ⟨9-(j+1),by have:=HK.out;omega,j+1,rfl,oM,oM,hf,s1,s2,?_,by rw [s4];rfl,hb.alloc hb.size _⟩
 rw [s3,X9.out,HDL.out])
 . (
 have HQ:=H9 M7;clear M7
 have h7:=of_decide_eq_false HQ.out
 have hdl:dP x=x:=if_neg h7
 rw [hdl] at h1s
 have HDL:=H9 hdl;clear hdl
 refine wp_skip (Zx l6 (rg ?_))
 have bB:=hf.B5 29 30 31 32 33
 iterate 4 refine Zy ?_
 refine fp fun K Z=> ?_
 go_simp
 try simp (disch:=omega) only [Fc.W]
 rw [if_neg (by omega),Oper.upon_value]
 apply Z.out;clear Z K
 refine Zy ?_
 refine Fc.nil (C0 1 2 3 4 hf ?_)
 clear hf sS bB;intro a7 hf sS
 refine Fc.j7 (Zx j8 (Zr [15,16] hf ?_))
 refine C0 1 2 3 4 hf ?_
 clear hf sS;intro a7 hf sS
 refine Fc.j6 ?_
 obtain ⟨s1,s2,s3,s4⟩:=sS
 refine ⟨9-(j+1),by have:=HK.out;omega,j+1,rfl,oM,oM,hf,s1,s2,?_,by rw [s4];rfl,hb.alloc hb.size _⟩
 rw [s3,X9.out,HDL.out]))
 . (
 have q1:decide (j<d.letters.length)=true:=decide_eq_true oM
 have q2:decide ((j:Int)<9)=false:=decide_eq_false oM
 have he:d.letters.take j=d.letters.take 9:=by rw [show j=9 by omega]
 rw [he] at s3
 clear he
 refine Ze fun _ j8=>Ze fun _ l6=> ?_
 have qs:=And.intro q1 q2
 refine Zr [6,7,8,9,10,11,12,13] hf ?_
 refine D0 1 2 3 4 14 hf ?_
 clear hf s1 s2 s3 s4 qs;intro a7 hf sS
 refine Zx l6 (Fc.k9 sS.2.2.2.2 ?_)
 clear q1 q2
 have y1:=cL hb x1;have y2:=cL hb x2
 have sW:=(hb.block _ fK).trans hp
 obtain ⟨S,hS⟩:∃ x,bP (d.letters.take 9)=x:=⟨_,rfl⟩
 obtain ⟨s1,s2,s3,s4,fW⟩:=sS
 rw [hS] at s3
 have HS:=H9 hS;clear hS y0
 refine Zo ?_
 refine Zs b7 fun _ b7=>Ze fun _ j8=>Zr [34] hf ?_
 refine C0 1 2 3 35 hf ?_
 clear hf s1 s2 s3 s4 fW;intro a7 hf sS
 refine Zx j8 (Fc.l0 sS.2.2.2 (fun hqe=> ?_) (fun hqe=> ?_))
 . (
 have HE:=H9 hqe;clear hqe
 have hwd:cK d.letters=⟨#[97]⟩:=by unfold cK;rw [HS.out];exact if_pos (List.isEmpty_iff.1 HE.out)
 have HW:=H9 hwd;clear hwd
 refine Zr [] hf ?_
 refine B1 1 2 3 hf ?_
 clear hf sS;intro a7 hf sS
 refine Zt b7 fun _ b7=> ?_
 have bB:=hf.B7 36 37 38 39 40 41 42
 iterate 6 refine Zy ?_
 refine fp fun K Z=> ?_
 go_simp
 go_at_call 93;refine (bare wr ⟨⟨#[97]⟩,d.weight,d.gone⟩).mono ?_;rintro e w5 ⟨rfl,F2⟩
 have P6:=(F2.block _ (j4 sW)).trans sW
 have g0:=n5 0 P6;have g1:=n5 1 P6;have g2:=n5 2 P6
 have fz0:=j3 (i:=0) P6;have fz1:=j3 (i:=1) P6;have fz2:=j3 (i:=2) P6
 generalize hE5:A7 ⟨⟨#[97]⟩,d.weight,d.gone⟩=E5
 have HE5:=H9 hE5;clear hE5
 simp only [eval]
 simp at g0 g1 g2
 try dsimp only
 apply Z.out;clear Z K
 refine Zy ?_
 refine Fc.nil (r6 2 hf ?_)
 clear hf sS bB;intro a7 hf s2
 refine Zx b7 (k8 ?_)
 have T2:=zE.trans (F2.mono zE.size)
 refine N9 rfl hf s2 (j5 (j5 (j5 P6 _) _) _) Tryz.underlying64 rfl kR ⟨?_,((T2.setCell (p:=⟨w.heap.size+1,0,none⟩) (Nat.le_succ _) _).setCell (p:=⟨w.heap.size+1,1,none⟩) (Nat.le_succ _) _).setCell (p:=⟨w.heap.size+1,2,none⟩) (Nat.le_succ _) _⟩
 unfold gK.ent;rw [HW.out,HE5.out];rfl)
 . (
 have HE:=H9 hqe;clear hqe
 have hwd:cK d.letters=S:=by unfold cK;rw [HS.out];exact if_neg (fun h=>by have:=HE.out;rw [h] at this;cases this)
 have HW:=H9 hwd;clear hwd
 refine wp_skip (Zt b7 fun _ b7=> ?_)
 have bB:=hf.B7 36 37 38 39 40 41 42
 iterate 6 refine Zy ?_
 refine fp fun K Z=> ?_
 go_simp
 go_at_call 93;refine (bare wr ⟨S,d.weight,d.gone⟩).mono ?_;rintro e w5 ⟨rfl,F2⟩
 have P6:=(F2.block _ (j4 sW)).trans sW
 have g0:=n5 0 P6;have g1:=n5 1 P6;have g2:=n5 2 P6
 have fz0:=j3 (i:=0) P6;have fz1:=j3 (i:=1) P6;have fz2:=j3 (i:=2) P6
 generalize hE5:A7 ⟨S,d.weight,d.gone⟩=E5
 have HE5:=H9 hE5;clear hE5
 simp only [eval]
 simp at g0 g1 g2
 try dsimp only
 apply Z.out;clear Z K
 refine Zy ?_
 refine Fc.nil (r6 2 hf ?_)
 clear hf sS bB;intro a7 hf s2
 refine Zx b7 (k8 ?_)
 have T2:=zE.trans (F2.mono zE.size)
 refine N9 rfl hf s2 (j5 (j5 (j5 P6 _) _) _) Tryz.underlying64 rfl kR ⟨?_,((T2.setCell (p:=⟨w.heap.size+1,0,none⟩) (Nat.le_succ _) _).setCell (p:=⟨w.heap.size+1,1,none⟩) (Nat.le_succ _) _).setCell (p:=⟨w.heap.size+1,2,none⟩) (Nat.le_succ _) _⟩
 unfold gK.ent;rw [HW.out,HE5.out];rfl)))
 . (
 have q1:decide (j<d.letters.length)=false:=decide_eq_false oM
 have he:d.letters.take j=d.letters.take 9:=by rw [List.take_of_length_le oM,List.take_of_length_le oM]
 rw [he] at s3
 clear he
 refine Ze fun _ j8=>Ze fun _ l6=> ?_
 have qs:=q1
 refine Zr [6,7,8,9,10,11,12,13] hf ?_
 refine D0 1 2 3 4 14 hf ?_
 clear hf s1 s2 s3 s4 qs;intro a7 hf sS
 refine Zx l6 (Fc.k9 sS.2.2.2.2 ?_)
 clear q1
 have y1:=cL hb x1;have y2:=cL hb x2
 have sW:=(hb.block _ fK).trans hp
 obtain ⟨S,hS⟩:∃ x,bP (d.letters.take 9)=x:=⟨_,rfl⟩
 obtain ⟨s1,s2,s3,s4,fW⟩:=sS
 rw [hS] at s3
 have HS:=H9 hS;clear hS y0
 refine Zo ?_
 refine Zs b7 fun _ b7=>Ze fun _ j8=>Zr [34] hf ?_
 refine C0 1 2 3 35 hf ?_
 clear hf s1 s2 s3 s4 fW;intro a7 hf sS
 refine Zx j8 (Fc.l0 sS.2.2.2 (fun hqe=> ?_) (fun hqe=> ?_))
 . (
 have HE:=H9 hqe;clear hqe
 have hwd:cK d.letters=⟨#[97]⟩:=by unfold cK;rw [HS.out];exact if_pos (List.isEmpty_iff.1 HE.out)
 have HW:=H9 hwd;clear hwd
 refine Zr [] hf ?_
 refine B1 1 2 3 hf ?_
 clear hf sS;intro a7 hf sS
 refine Zt b7 fun _ b7=> ?_
 have bB:=hf.B7 36 37 38 39 40 41 42
 iterate 6 refine Zy ?_
 refine fp fun K Z=> ?_
 go_simp
 go_at_call 93;refine (bare wr ⟨⟨#[97]⟩,d.weight,d.gone⟩).mono ?_;rintro e w5 ⟨rfl,F2⟩
 have P6:=(F2.block _ (j4 sW)).trans sW
 have g0:=n5 0 P6;have g1:=n5 1 P6;have g2:=n5 2 P6
 have fz0:=j3 (i:=0) P6;have fz1:=j3 (i:=1) P6;have fz2:=j3 (i:=2) P6
 generalize hE5:A7 ⟨⟨#[97]⟩,d.weight,d.gone⟩=E5
 have HE5:=H9 hE5;clear hE5
 simp only [eval]
 simp at g0 g1 g2
 try dsimp only
 apply Z.out;clear Z K
 refine Zy ?_
 refine Fc.nil (r6 2 hf ?_)
 clear hf sS bB;intro a7 hf s2
 refine Zx b7 (k8 ?_)
 have T2:=zE.trans (F2.mono zE.size)
 refine N9 rfl hf s2 (j5 (j5 (j5 P6 _) _) _) Tryz.underlying64 rfl kR ⟨?_,((T2.setCell (p:=⟨w.heap.size+1,0,none⟩) (Nat.le_succ _) _).setCell (p:=⟨w.heap.size+1,1,none⟩) (Nat.le_succ _) _).setCell (p:=⟨w.heap.size+1,2,none⟩) (Nat.le_succ _) _⟩
 unfold gK.ent;rw [HW.out,HE5.out];rfl)
 . (
 have HE:=H9 hqe;clear hqe
 have hwd:cK d.letters=S:=by unfold cK;rw [HS.out];exact if_neg (fun h=>by have:=HE.out;rw [h] at this;cases this)
 have HW:=H9 hwd;clear hwd
 refine wp_skip (Zt b7 fun _ b7=> ?_)
 have bB:=hf.B7 36 37 38 39 40 41 42
 iterate 6 refine Zy ?_
 refine fp fun K Z=> ?_
 go_simp
 go_at_call 93;refine (bare wr ⟨S,d.weight,d.gone⟩).mono ?_;rintro e w5 ⟨rfl,F2⟩
 have P6:=(F2.block _ (j4 sW)).trans sW
 have g0:=n5 0 P6;have g1:=n5 1 P6;have g2:=n5 2 P6
 have fz0:=j3 (i:=0) P6;have fz1:=j3 (i:=1) P6;have fz2:=j3 (i:=2) P6
 generalize hE5:A7 ⟨S,d.weight,d.gone⟩=E5
 have HE5:=H9 hE5;clear hE5
 simp only [eval]
 simp at g0 g1 g2
 try dsimp only
 apply Z.out;clear Z K
 refine Zy ?_
 refine Fc.nil (r6 2 hf ?_)
 clear hf sS bB;intro a7 hf s2
 refine Zx b7 (k8 ?_)
 have T2:=zE.trans (F2.mono zE.size)
 refine N9 rfl hf s2 (j5 (j5 (j5 P6 _) _) _) Tryz.underlying64 rfl kR ⟨?_,((T2.setCell (p:=⟨w.heap.size+1,0,none⟩) (Nat.le_succ _) _).setCell (p:=⟨w.heap.size+1,1,none⟩) (Nat.le_succ _) _).setCell (p:=⟨w.heap.size+1,2,none⟩) (Nat.le_succ _) _⟩
 unfold gK.ent;rw [HW.out,HE5.out];rfl)))
end Dw
end Go.Proofs.YtcddnmhmcieebaaGreatDoor
