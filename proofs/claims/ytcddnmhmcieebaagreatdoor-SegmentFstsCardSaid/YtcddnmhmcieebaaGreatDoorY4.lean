import Derived.Test.YtcddnmhmcieebaaGreatDoorY3
import Derived.Lib.BitFns
import Derived.Lib.ItoaNum
import Derived.Deep.WholeRow
import Derived.Laws.IdiomStrings
import Derived.ArgAppend
import Derived.Laws.BitsAllLaws
import Derived.Laws.CopyOwn
namespace Go.Proofs.YtcddnmhmcieebaaGreatDoor
set_option linter.unusedSimpArgs false
set_option linter.unusedVariables false
set_option linter.unnecessarySimpa false
set_option maxHeartbeats 4000000
set_option maxRecDepth 100000
open Go.RowKit
namespace Dw
open Go.Maps
theorem jH:∀ (l:List u3) (i:Nat) (last:Int),okArcs i last l=true->∀ a∈l,0<=a.to/\a.to<(i:Int)
 | [],_,_,_=>by simp
 | a::l,i,last,h=>by
  simp only [okArcs,Bool.and_eq_true,decide_eq_true_eq] at h
  intro x hx
  rcases List.mem_cons.1 hx with rfl | hx
  ·exact ⟨h.1.1.1,h.1.1.2⟩
  ·exact jH l i _ h.2 x hx
theorem jJ:∀ (l:List u3) (i:Nat) (last:Int),okArcs i last l=true->(∀ a∈l,a.byte<256)-> -1<=last->last<=255->(l.length:Int)<=255-last
 | [],_,_,_,_,_,h=>by simp;omega
 | a::l,i,last,h,hb,h1,h2=>by
  simp only [okArcs,Bool.and_eq_true,decide_eq_true_eq] at h
  have h3:=hb a (List.mem_cons_self ..)
  have:=jJ l i (a.byte:Int) h.2 (fun x hx=>hb x (List.mem_cons_of_mem _ hx)) oM oM
  simp only [List.length_cons]
  omega
theorem oP:∀ (l:List State) (i:Nat),formedL i l=true->∀ (j:Nat) (s:State),l[j]? =some s->okArcs (i+j) (-1) s.j4=true
 | [],_,_,j,s,hj=>by simp at hj
 | x::l,i,h,j,s,hj=>by
  simp only [formedL,Bool.and_eq_true] at h
  cases j with
  | zero=>injection hj with hj;subst hj;exact h.1.2
  | succ j=>rw [show i+(j+1)=(i+1)+j by omega];exact oP l (i+1) h.2 j s hj
theorem T1 {ss:List State} (h:D4 ss=true) {j:Nat} {s:State} (hj:ss[j]? =some s):okArcs j (-1) s.j4=true:=by
 unfold D4 at h
 rw [Bool.and_eq_true] at h
 have:=oP ss 0 h.1 j s hj
 rwa [Nat.zero_add] at this
theorem bG {ss:List State} (h:D4 ss=true):0<ss.length:=by
 unfold D4 at h
 rw [Bool.and_eq_true] at h
 exact of_decide_eq_true h.2
theorem zH {ss:List State} (h:D4 ss=true):fK ss:=by
 intro s a ha
 unfold K2 at ha
 cases hs:ss[s]? with
 | none=>rw [hs] at ha;simp at ha
 | some st=>rw [hs] at ha;exact jH _ _ _ (T1 h hs) a (by simpa using ha)
theorem FQ {ss:List State} (h:D4 ss=true) (a6:∀ s∈ss,L3 s):∀ s∈ss,tU s:=by
 intro s hs
 obtain ⟨j,hj⟩:=List.mem_iff_getElem?.1 hs
 have h1:=T1 h hj
 have h2:=a6 s hs
 refine ⟨h2,fun a ha=>(jH _ _ _ h1 a ha).1,?_⟩
 have:=jJ _ _ _ h1 (fun a ha=>(h2.2.2 a ha).1) oM oM
 omega
theorem rG {ss:List State} {r:State} (h:ss[ss.length-1]? =some r):ss.getLast? =some r:=by rw [List.getLast?_eq_getElem?];exact h
def LL (base:Nat) (k:Nat):Nat:=if k<base then 4 else if k=base then 3 else if k=base+1 then 1 else 0
theorem bZ.start (w0:World) {W:World} (hW:(w0.alloc (.map #[] 0)).alloc (.cells #[.slice none 0 0,.map (some w0.heap.size)] 120)=W) :
  bZ W w0.heap.size (LL w0.heap.size) (w0.heap.size+1) 120 [] (.slice none 0 0) w0.heap.size []/\Below w0.heap.size w0 W:=by
 have tR:Below w0.heap.size w0 W:=by rw [<- hW];exact ((Below.refl _ _).alloc nR _).alloc sP _
 have h1:=World.ownsMap_made w0 Tryz.prog 9 (plainElem (H:=Unit) Tryz.prog 3)
 have lX:=h1.alloc (.cells #[.slice none 0 0,.map (some w0.heap.size)] 120)
 rw [hW] at lX
 have mB:W.heap[w0.heap.size+1]? =some (.cells #[.slice none 0 0,.map (some w0.heap.size)] 120 (0,0)):=by
  have:=heap_alloc_new (w0.alloc (.map #[] 0)) (.cells #[.slice none 0 0,.map (some w0.heap.size)] 120)
  rw [hW] at this
  rw [<- this]
  simp
 have o2:LL w0.heap.size w0.heap.size=3:=by unfold LL;rw [if_neg (by omega),if_pos rfl]
 have o4:LL w0.heap.size (w0.heap.size+1)=1:=by unfold LL;rw [if_neg (by omega),if_neg (by omega),if_pos rfl]
 exact ⟨⟨fun k hk=>if_pos hk,mB,o4,o2,lX,⟨[],World.ownsRow_nil _ _ _ _,(fun k hk=>by cases hk),fun i s hi=>by simp at hi⟩,List.Pairwise.nil,sP⟩,tR⟩
theorem Zh (w:World) (sv:Value) (init:Nat) (ss:List State) (o8:RS w sv ss) (a6:∀ s∈ss,L3 s) (hlen:ss.length<=1000000):E2 w 65 #[.agg #[sv,.int .u64 init]] (.bool (rightF ss init)):=by
 refine L7 72 Tryz.func65 fun fr hf s0=> ?_
 obtain ⟨A,cc,rfl,U0⟩:=o8.form
 have x8e:=hlen
 have HO:=H9 a6;clear a6
 refine Ze fun _ a8=>Zr [] hf ?_
 refine p5 1 hf ?_
 clear hf s0;intro a7 hf s1
 generalize p8:w.alloc (.cells #[.slice A ss.length cc,.int .u64 init] 38)=W0
 obtain ⟨o7,c0,c1, -,R6⟩:=P7 p8
 clear p8
 have fG:w.heap.size<W0.heap.size:=by rw [R6];exact Nat.lt_succ_self _
 clear R6
 have R9:=o8.later o7
 clear o8
 refine Zs a8 fun _ a8=>Ze fun _ j8=>rg ?_
 have bB:=hf.B2 8 9
 refine Zy ?_
 refine Zc (QY W0 _ init ss R9 HO.out hlen) ?_;rintro e w1 ⟨rfl,p6⟩
 refine Zv ?_
 refine Zy ?_
 refine Fc.nil (y4 1 10 hf ?_)
 clear hf s1 bB;intro a7 hf sS
 have zX:=R9.later p6
 replace c0:=cL p6 c0;replace c1:=cL p6 c1
 have F9:=o7.trans (p6.mono o7.size)
 have hzw:w.heap.size<w1.heap.size:=by have:=p6.size;omega
 clear R9 p6
 refine Zx j8 ?_
 rcases D6:D4 ss with _ | _
 . (
 have NX:=H9 D6;clear D6
 have q10:a7.tmps[10]? =some (.bool true):=by rw [sS.2,NX.out];rfl
 obtain ⟨s1,u4⟩:=sS
 clear u4
 have u4:=q10;clear q10
 refine Fc.l7 u4 ?_
 refine Ze fun _ j8=>Zr [] hf ?_
 refine p5 2 hf ?_
 clear hf s1 u4;intro a7 hf s2
 refine Zx j8 (k8 ?_)
 exact Fc.o6 rfl hf s2 ⟨by rw [rightF,NX.out];rfl,F9⟩)
 . (
 have aB:=FQ D6 HO.out
 have h0:=bG D6
 have hA:=zH D6
 have NX:=H9 D6;clear D6
 have q10:a7.tmps[10]? =some (.bool false):=by rw [sS.2,NX.out];rfl
 obtain ⟨s1,u4⟩:=sS
 clear u4
 have u4:=q10;clear q10
 refine Fc.k9 u4 ?_
 obtain ⟨root,oA⟩:∃ root,ss[ss.length-1]? =some root:=⟨_,F8 oM⟩
 have pQ:((ss.length:Int)-1)=((ss.length-1:Nat):Int):=oM
 obtain ⟨b,off,av,rfl,C7⟩:=zX.at_ oA
 have d0:=C7.c0;have d1:=C7.c1;have d2:=C7.c2
 obtain ⟨Ar,cr,rfl,_⟩:=C7.j4.form
 have Tr:=H9 pQ;have HR:=H9 oA;have HKK:=H9 aB;clear pQ oA aB C7
 obtain ⟨RE,hRE⟩:∃ x,(!root.final&&decide (root.j4.length=0))=x:=⟨_,rfl⟩
 have HRE:=H9 hRE;clear hRE
 have hrf:rightF ss init=if RE then decide (ss.length=1)&&decide (init=0) else J7 ss&&Z2 ss 0 ss:=by rw [rightF,NX.out,rG HR.out, <- HRE.out];rfl
 have HRF:=H9 hrf;clear hrf
 refine wp_skip (Zt a8 fun _ a8=> ?_)
 have bB:=hf.B9 11 12 13 14 15 16 17 18 3
 iterate 5 refine Zy ?_
 refine fp fun K Z=> ?_
 go_simp
 try simp (disch:=omega) only [Fc.W]
 rw [Tr.out]
 apply Z.out;clear Z K
 iterate 4 refine Zy ?_
 refine Fc.nil (y4 1 3 hf ?_)
 clear hf s1 u4 bB;intro a7 hf sS
 generalize Y4:w1.alloc (.cells #[.slice Ar root.j4.length cr,.bool root.final,.int .u64 root.out] 46)=W2
 obtain ⟨r8,x0,x1, -, -, -⟩:=E7 Y4
 clear Y4
 clear d0 d1 d2
 have R1:=zX.later r8
 replace c0:=cL r8 c0;replace c1:=cL r8 c1
 have eN:=F9.trans (r8.mono (by have:=o7.size;omega))
 have tc:w.heap.size<W2.heap.size:=by have:=r8.size;omega
 clear zX r8 F9
 refine Zx a8 (Fc.G1 (fun fr wq=>Fc.Fr 72 fr/\fr.tmps[1]? =some (.pointer (some ⟨w.heap.size,0,none⟩))/\wq=W2/\RE=false) ?_ ?_)
 . (
 rcases p7:root.final with _ | _
 . (
 have M8:=H9 p7;clear p7
 have q1:=M8.out
 by_cases hemp:root.j4.length=0
 . (
 have FR:=H9 hemp;clear hemp
 have q2:((root.j4.length:Int)==0)=true:=by have h9:=FR.out;rw [beq_iff_eq];omega
 have sW:RE=true:=by rw [<- HRE.out,M8.out,decide_eq_true FR.out];rfl
 have FT:=H9 sW;clear sW
 refine Ze fun _ a8=> ?_
 have qs:=And.intro q1 q2
 refine Zr [19,20,21,22,23,24,25,26] hf ?_
 refine y4 1 27 hf ?_
 clear hf sS qs;intro a7 hf sS
 refine Zx a8 (Fc.l7 sS.2 ?_)
 have Q9:rightF ss init=(decide (ss.length=1)&&decide (init=0)):=by rw [HRF.out,FT.out];rfl
 have HQ:=H9 Q9;clear Q9
 by_cases h1:ss.length=1
 . (
 have H1:=H9 h1;clear h1
 have q1:((ss.length:Int)==1)=true:=by have:=H1.out;simp;omega
 refine Ze fun _ a8=> ?_
 have qs:=q1
 refine Zr [28,29,30,31,32,33,34,35,36] hf ?_
 refine p5 2 hf ?_
 clear hf sS qs;intro a7 hf s2
 refine Zx a8 (k8 ?_)
 refine Fc.o6 rfl hf s2 ⟨?_,eN⟩
 rw [HQ.out,decide_eq_true H1.out]
 rw [<- kS init 0];rfl)
 . (
 have H1:=H9 h1;clear h1
 have q1:((ss.length:Int)==1)=false:=by have:=H1.out;simp;omega
 refine Ze fun _ a8=> ?_
 have qs:=q1
 refine Zr [28,29,30,31,32,33,34,35,36] hf ?_
 refine p5 2 hf ?_
 clear hf sS qs;intro a7 hf s2
 refine Zx a8 (k8 ?_)
 refine Fc.o6 rfl hf s2 ⟨?_,eN⟩
 rw [HQ.out,decide_eq_false H1.out]
 rfl))
 . (
 have FR:=H9 hemp;clear hemp
 have q2:((root.j4.length:Int)==0)=false:=by have h9:=FR.out;rw [beq_eq_false_iff_ne];omega
 have sW:RE=false:=by rw [<- HRE.out,M8.out,decide_eq_false FR.out];rfl
 have FT:=H9 sW;clear sW
 refine Ze fun _ a8=> ?_
 have qs:=And.intro q1 q2
 refine Zr [19,20,21,22,23,24,25,26] hf ?_
 refine y4 1 27 hf ?_
 clear hf sS qs;intro a7 hf sS
 refine Zx a8 (Fc.k9 sS.2 ?_)
 clear q1 q2
 refine wp_skip (Fc.j7 ?_)
 exact ⟨hf,sS.1,rfl,FT.out⟩))
 . (
 have M8:=H9 p7;clear p7
 have q1:=M8.out
 have sW:RE=false:=by rw [<- HRE.out,M8.out];rfl
 have FT:=H9 sW;clear sW
 refine Ze fun _ a8=> ?_
 have qs:=q1
 refine Zr [19,20,21,22,23,24,25,26] hf ?_
 refine y4 1 27 hf ?_
 clear hf sS qs;intro a7 hf sS
 refine Zx a8 (Fc.k9 sS.2 ?_)
 clear q1
 refine wp_skip (Fc.j7 ?_)
 exact ⟨hf,sS.1,rfl,FT.out⟩))
 . (
 clear hf sS
 rintro fr wq ⟨hf,s1,hw,sW⟩
 subst wq
 have FT:=H9 sW;clear sW
 have Q9:rightF ss init=(J7 ss&&Z2 ss 0 ss):=by rw [HRF.out,FT.out];rfl
 have HQ:=H9 Q9;clear Q9
 refine Ze fun _ a8=>Ze fun _ j8=>rg ?_
 have bB:=hf.B2 37 38
 refine Zy ?_
 refine fp fun K Z=> ?_
 go_simp
 go_at_call 104;refine (LH W2 _ init ss R1 HO.out hlen h0 hA).mono ?_;rintro e w3 ⟨rfl,G4⟩
 try dsimp only
 apply Z.out;clear Z K
 refine Zy ?_
 refine Fc.nil (y4 1 39 hf ?_)
 clear hf s1 bB;intro a7 hf sS
 have kT:=R1.later G4
 replace c0:=cL G4 c0
 have kU:=eN.trans (G4.mono oM)
 have yH:w.heap.size<w3.heap.size:=by have:=G4.size;omega
 clear R1 G4 eN c1 x0 x1
 refine Zx j8 ?_
 rcases du:J7 ss with _ | _
 . (
 have DZ:=H9 du;clear du
 have q39:a7.tmps[39]? =some (.bool true):=by rw [sS.2,DZ.out];rfl
 obtain ⟨s1,cR⟩:=sS
 clear cR
 have cR:=q39;clear q39
 refine Fc.l7 cR ?_
 refine Ze fun _ j8=>Zr [] hf ?_
 refine p5 2 hf ?_
 clear hf s1 cR;intro a7 hf s2
 refine Zx j8 (k8 ?_)
 exact Fc.o6 rfl hf s2 ⟨by rw [HQ.out,DZ.out];rfl,kU⟩)
 . (
 have DZ:=H9 du;clear du
 have q39:a7.tmps[39]? =some (.bool false):=by rw [sS.2,DZ.out];rfl
 obtain ⟨s1,cR⟩:=sS
 clear cR
 have cR:=q39;clear q39
 refine Fc.k9 cR ?_
 have tY:=@run_makeMap Tryz.prog
 refine wp_skip (Zs a8 fun _ a8=>Zr [40,41,4] hf ?_)
 refine y4 1 4 hf ?_
 clear hf s1 cR;intro a7 hf sS
 clear tY
 generalize mK:(w3.alloc (.map #[] 0)).alloc (.cells #[.slice none 0 0,.map (some w3.heap.size)] 120)=W4
 obtain ⟨s1,s4⟩:=sS
 try simp only [World.size_alloc] at s4
 obtain ⟨Hh,U4⟩:=bZ.start w3 mK
 clear mK
 have c4:=cL U4 c0
 obtain ⟨z6,dH⟩:∃ f,LL w3.heap.size=f:=⟨_,rfl⟩
 rw [dH] at Hh
 clear dH
 refine Zs a8 fun _ a8=>Ze fun _ j8=>Zr [42,43] hf ?_
 refine z8 4 43 44 45 hf ?_
 clear hf s1 s4;intro a7 hf sS
 refine Zx j8 (wp_block ?_)
 clear c4
 refine wp_loop_ghost (fun gk fr wr=>∃ (i:Nat) (aT:Nat->Nat) (AK:Value),gk=ss.length-i/\i<=ss.length/\Fc.Fr 72 fr/\fr.tmps[4]? =some (.pointer (some ⟨w3.heap.size+1,0,none⟩))/\fr.tmps[43]? =some (.slice (some ⟨b,off,none⟩) ss.length cc)/\fr.tmps[44]? =some (.int .i64 ss.length)/\fr.tmps[45]? =some (.int .i64 i)/\bZ wr w3.heap.size aT (w3.heap.size+1) 120 [] AK w3.heap.size (ss.take i)/\Z2 ss 0 ss=Z2 ss i (ss.drop i)/\Below w3.heap.size w3 wr) (ss.length) ?_ ?_
 . (
 obtain ⟨s4,Mb,Bq,QR⟩:=sS
 exact ⟨0,z6,_,rfl,Nat.zero_le _,hf,s4,Mb,Bq,QR,Hh,rfl,U4⟩)
 . (
 clear hf sS
 rintro gk fr wr ⟨i,aT,AK,hk,hi,hf,s4,Mb,Bq,QR,lH,uw,hb⟩
 have HK:=H9 hk;have EM:=H9 uw;clear hk uw Hh U4
 refine Ze fun _ j8=>Zr [] hf ?_
 refine D2 4 43 44 45 46 hf ?_
 clear hf s4 Mb Bq QR;intro a7 hf sS
 refine Zs j8 fun _ j8=>Fc.l0 sS.2.2.2.2 (fun hq=> ?_) (fun hq=> ?_)
 . (
 have o9:i<ss.length:=qT
 have HQ0:=H9 hq;clear hq
 obtain ⟨s,N3⟩:∃ s,ss[i]? =some s:=⟨_,F8 o9⟩
 obtain ⟨b5,z0h,av5,EN,C7⟩:=kT.at_ N3
 injection EN with EN
 injection EN with EN he6
 subst EN;subst he6
 have VZ:=C7.later hb
 have d0:=VZ.c0;have d1:=VZ.c1;have d2:=VZ.c2
 obtain ⟨A5,c5,rfl,_⟩:=C7.j4.form
 have Y1:=HKK.out s (T9 N3)
 have Gf:=Y1.Gg
 have rJ:=xU N3
 have HS:=H9 N3;have Jv:=H9 rJ;clear N3 rJ
 have XT:=lH.aS
 have S7:RA wr (fun k=>aT k=4) (.slice A5 s.j4.length c5) s.j4:=(C7.j4.more (fun k hk _=>lH.lo k hk)).later hb
 have z8q:=C7.j4.later hb
 clear C7 VZ
 obtain ⟨M3,iH⟩:∃ f,(fun k=>if k<wr.heap.size then aT k else 0)=f:=⟨_,rfl⟩
 have bR:∀ k,k<wr.heap.size->M3 k=aT k:=fun k hk=>by rw [<- iH];exact if_pos hk
 have hg0:=lH.told (aC:=M3) (fun k hk=>by rw [bR k oM];exact lH.lo k hk) (fun k hk _ _=>bR k hk)
 replace S7:RA wr (fun k=>M3 k=4) (.slice A5 s.j4.length c5) s.j4:=S7.more (fun k hk h4=>by rw [bR k hk];exact h4)
 clear lH bR iH
 refine wp_skip (Zs j8 fun _ j8=>wp_block (Ze fun _ l8=>Zr [47,48,49,6] hf ?_))
 refine F1 4 5 6 43 44 45 hf ?_
 intro a7 hf sS
 generalize cS:wr.alloc (.cells #[.slice A5 s.j4.length c5,.bool s.final,.int .u64 s.out] 46)=W5
 obtain ⟨F3,x0,x1,x2,hh5,CP⟩:=E7 cS
 clear cS
 have Wm:wr.heap.size<W5.heap.size:=by rw [CP];exact Nat.lt_succ_self _
 clear CP
 clear d0 d1 d2
 refine Zs l8 fun _ l8=>Zr [50,51,7] hf ?_
 refine Z1 4 5 6 7 43 44 45 hf ?_
 intro a7 hf sS
 generalize AG:W5.alloc (.cells #[.slice A5 s.j4.length c5,.bool s.final,.int .u64 s.out,.int .u8 0] 126)=W6
 obtain ⟨C4,y0,y1,y2, -, -,QW⟩:=TG AG
 clear AG
 have hz6:W5.heap.size<W6.heap.size:=by rw [QW];exact Nat.lt_succ_self _
 clear QW
 replace x0:=cL C4 x0;replace x1:=cL C4 x1;replace x2:=cL C4 x2
 have hZ:=F3.trans (C4.mono F3.size)
 have UG:=hg0.later hZ
 have LM:=S7.later hZ
 have wQ:=z8q.later hZ
 clear C4 hg0 S7 z8q
 refine Zx l8 ?_
 rcases p7:s.final with _ | _
 . (
 by_cases hemp:s.j4.length=0
 . (
 have M8:=H9 p7;clear p7
 have q1:=M8.out
 have FR:=H9 hemp;clear hemp
 have q2:((s.j4.length:Int)==0)=true:=by have h9:=FR.out;rw [beq_iff_eq];omega
 refine Ze fun _ l8=> ?_
 have qs:=And.intro q1 q2
 refine Zr [52,53,54,55,56,57,58,59,60,61,62,63,64,65,66,67,68,69] hf ?_
 refine D2 4 43 44 45 70 hf ?_
 clear hf sS qs;intro a7 hf sS
 refine Zx l8 (Fc.l7 sS.2.2.2.2 ?_)
 have D5:X5 ss i s=false:=by unfold X5;rw [M8.out];rw [decide_eq_true FR.out];rfl
 have J0:=H9 D5;clear D5
 refine Ze fun _ l8=>Zr [] hf ?_
 refine p5 2 hf ?_
 intro a7 hf s2
 refine Zx l8 (k8 ?_)
 exact Fc.o6 rfl hf s2 ⟨by rw [HQ.out,DZ.out,EM.out,Jv.out,J0.out];rfl,kU.trans (Below.mono (hb.trans (hZ.mono hb.size)) (Nat.le_of_lt yH))⟩)
 . (
 by_cases hlz:leastOf s=0
 . (
 by_cases D7:s∈ss.take i
 . (
 have M8:=H9 p7;clear p7
 have q1:=M8.out
 have FR:=H9 hemp;clear hemp
 have q2:((s.j4.length:Int)==0)=false:=by have h9:=FR.out;rw [beq_eq_false_iff_ne];omega
 have FU:=H9 hlz;clear hlz
 have q3:((leastOf s:Int) !=0)=false:=by have h9:=FU.out;rw [h9];rfl
 have Dc:=H9 D7;clear D7
 obtain ⟨j,YF,hj2,KJ⟩:=aR Dc.out
 have HJ:=H9 KJ;clear YF KJ
 have hj4:j<i:=by simp at hj2;omega
 have q4:((j:Int) !=(i:Int))=true:=by rw [bne_iff_ne];omega
 refine Ze fun _ l8=> ?_
 have qs:=And.intro q1 (And.intro q2 q3)
 refine rg ?_
 have bB:=And.intro (hf.eW 52 53 54 55 56 57 58 59 60 61) (hf.B8 62 63 64 65 66 67 68 69)
 iterate 10 refine Zy ?_
 refine Zd (eE W6 W5.heap.size 0 s _ _ ⟨y0,y1,y2,wQ⟩ Y1.ok) ?_;rintro e w7 ⟨rfl,B1⟩
 replace x0:=cL B1 x0;replace x1:=cL B1 x1;replace x2:=cL B1 x2
 have mS:=UG.later B1
 have zJ:=LM.later B1
 have jK:=hZ.trans (B1.mono hZ.size)
 refine Zv ?_
 iterate 4 refine Zy ?_
 have HH:=dG w7 mS zJ Y1 sO
 simp only [bW,M8.out] at HH
 refine Zd (HH) ?_;rintro e w8 ⟨rfl,P4,pG,FG,Xz,FH,QJ⟩
 have N0:=hb.trans ((jK.mono hb.size).trans (n4.below QJ (by have:=hb.size;have:=jK.size;omega) (fun k hk=>by rcases Nat.lt_or_ge k w3.heap.size with h | h;(have:=mS.lo k h;omega);exact h)))
 rw [HJ.out]
 refine Zv ?_
 iterate 3 refine Zy ?_
 refine Fc.nil (D2 4 43 44 45 70 hf ?_)
 clear hf sS bB qs;intro a7 hf sS
 refine Zx l8 (Fc.l7 sS.2.2.2.2 ?_)
 have D5:X5 ss i s=false:=by unfold X5;rw [M8.out];rw [decide_eq_false (show ¬ s∉ss.take i from fun h=>h Dc.out)];simp
 have J0:=H9 D5;clear D5
 refine Ze fun _ l8=>Zr [] hf ?_
 refine p5 2 hf ?_
 intro a7 hf s2
 refine Zx l8 (k8 ?_)
 exact Fc.o6 rfl hf s2 ⟨by rw [HQ.out,DZ.out,EM.out,Jv.out,J0.out];rfl,kU.trans (Below.mono (N0) (Nat.le_of_lt yH))⟩)
 . (
 have M8:=H9 p7;clear p7
 have q1:=M8.out
 have FR:=H9 hemp;clear hemp
 have q2:((s.j4.length:Int)==0)=false:=by have h9:=FR.out;rw [beq_eq_false_iff_ne];omega
 have FU:=H9 hlz;clear hlz
 have q3:((leastOf s:Int) !=0)=false:=by have h9:=FU.out;rw [h9];rfl
 have Dc:=H9 D7;clear D7
 have HJ:=H9 (eD Dc.out)
 have MJ:(ss.take i).length=i:=sO
 have od:=H9 MJ;clear MJ
 refine Ze fun _ l8=> ?_
 have qs:=And.intro q1 (And.intro q2 q3)
 refine rg ?_
 have bB:=And.intro (hf.eW 52 53 54 55 56 57 58 59 60 61) (hf.B8 62 63 64 65 66 67 68 69)
 iterate 10 refine Zy ?_
 refine Zd (eE W6 W5.heap.size 0 s _ _ ⟨y0,y1,y2,wQ⟩ Y1.ok) ?_;rintro e w7 ⟨rfl,B1⟩
 replace x0:=cL B1 x0;replace x1:=cL B1 x1;replace x2:=cL B1 x2
 have mS:=UG.later B1
 have zJ:=LM.later B1
 have jK:=hZ.trans (B1.mono hZ.size)
 refine Zv ?_
 iterate 4 refine Zy ?_
 have HH:=dG w7 mS zJ Y1 sO
 simp only [bW,M8.out] at HH
 refine Zd (HH) ?_;rintro e w8 ⟨rfl,P4,pG,FG,Xz,FH,QJ⟩
 have N0:=hb.trans ((jK.mono hb.size).trans (n4.below QJ (by have:=hb.size;have:=jK.size;omega) (fun k hk=>by rcases Nat.lt_or_ge k w3.heap.size with h | h;(have:=mS.lo k h;omega);exact h)))
 rw [HJ.out] at FH
 rw [HJ.out,od.out]
 refine Zv ?_
 iterate 3 refine Zy ?_
 refine Fc.nil (D2 4 43 44 45 70 hf ?_)
 clear hf sS bB qs;intro a7 hf sS
 refine Zx l8 (Fc.k9 sS.2.2.2.2 ?_)
 have Cg:X5 ss i s=true:=by unfold X5;rw [M8.out,decide_eq_true FU.out,decide_eq_true Dc.out];rw [decide_eq_false FR.out];rfl
 have pz:=H9 Cg;clear Cg
 refine wp_skip (Fc.j9 (Zx j8 (Zr [71] hf ?_)))
 refine z8 4 43 44 45 hf ?_
 intro a7 hf sS
 refine Fc.j7 ?_
 obtain ⟨s4,Mb,Bq,QR⟩:=sS
 exact ⟨_,by have:=HK.out;omega,i+1,P4,pG,rfl,oM,hf,s4,Mb,Bq,by rw [QR];rfl,by rw [List.take_add_one,HS.out];exact FH,by rw [EM.out,Jv.out,pz.out];rfl,N0⟩))
 . (
 have M8:=H9 p7;clear p7
 have q1:=M8.out
 have FR:=H9 hemp;clear hemp
 have q2:((s.j4.length:Int)==0)=false:=by have h9:=FR.out;rw [beq_eq_false_iff_ne];omega
 have FU:=H9 hlz;clear hlz
 have q3:((leastOf s:Int) !=0)=true:=by have h9:=FU.out;rw [bne_iff_ne];omega
 refine Ze fun _ l8=> ?_
 have qs:=And.intro q1 (And.intro q2 q3)
 refine rg ?_
 have bB:=And.intro (hf.eW 52 53 54 55 56 57 58 59 60 61) (hf.B8 62 63 64 65 66 67 68 69)
 iterate 10 refine Zy ?_
 refine Zd (eE W6 W5.heap.size 0 s _ _ ⟨y0,y1,y2,wQ⟩ Y1.ok) ?_;rintro e w7 ⟨rfl,B1⟩
 replace x0:=cL B1 x0;replace x1:=cL B1 x1;replace x2:=cL B1 x2
 have mS:=UG.later B1
 have zJ:=LM.later B1
 have jK:=hZ.trans (B1.mono hZ.size)
 refine Zv ?_
 iterate 8 refine Zy ?_
 refine Fc.nil (D2 4 43 44 45 70 hf ?_)
 clear hf sS bB qs;intro a7 hf sS
 refine Zx l8 (Fc.l7 sS.2.2.2.2 ?_)
 have D5:X5 ss i s=false:=by unfold X5;rw [M8.out];rw [decide_eq_false FU.out];simp
 have J0:=H9 D5;clear D5
 refine Ze fun _ l8=>Zr [] hf ?_
 refine p5 2 hf ?_
 intro a7 hf s2
 refine Zx l8 (k8 ?_)
 exact Fc.o6 rfl hf s2 ⟨by rw [HQ.out,DZ.out,EM.out,Jv.out,J0.out];rfl,kU.trans (Below.mono (hb.trans (jK.mono hb.size)) (Nat.le_of_lt yH))⟩)))
 . (
 by_cases hlz:leastOf s=0
 . (
 by_cases D7:s∈ss.take i
 . (
 have M8:=H9 p7;clear p7
 have q1:=M8.out
 have FU:=H9 hlz;clear hlz
 have q3:((leastOf s:Int) !=0)=false:=by have h9:=FU.out;rw [h9];rfl
 have Dc:=H9 D7;clear D7
 obtain ⟨j,YF,hj2,KJ⟩:=aR Dc.out
 have HJ:=H9 KJ;clear YF KJ
 have hj4:j<i:=by simp at hj2;omega
 have q4:((j:Int) !=(i:Int))=true:=by rw [bne_iff_ne];omega
 refine Ze fun _ l8=> ?_
 have qs:=And.intro q1 q3
 refine rg ?_
 have bB:=And.intro (hf.eW 52 53 54 55 56 57 58 59 60 61) (hf.B8 62 63 64 65 66 67 68 69)
 iterate 10 refine Zy ?_
 refine Zd (eE W6 W5.heap.size 0 s _ _ ⟨y0,y1,y2,wQ⟩ Y1.ok) ?_;rintro e w7 ⟨rfl,B1⟩
 replace x0:=cL B1 x0;replace x1:=cL B1 x1;replace x2:=cL B1 x2
 have mS:=UG.later B1
 have zJ:=LM.later B1
 have jK:=hZ.trans (B1.mono hZ.size)
 refine Zv ?_
 iterate 4 refine Zy ?_
 have HH:=dG w7 mS zJ Y1 sO
 simp only [bW,M8.out] at HH
 refine Zd (HH) ?_;rintro e w8 ⟨rfl,P4,pG,FG,Xz,FH,QJ⟩
 have N0:=hb.trans ((jK.mono hb.size).trans (n4.below QJ (by have:=hb.size;have:=jK.size;omega) (fun k hk=>by rcases Nat.lt_or_ge k w3.heap.size with h | h;(have:=mS.lo k h;omega);exact h)))
 rw [HJ.out]
 refine Zv ?_
 iterate 3 refine Zy ?_
 refine Fc.nil (D2 4 43 44 45 70 hf ?_)
 clear hf sS bB qs;intro a7 hf sS
 refine Zx l8 (Fc.l7 sS.2.2.2.2 ?_)
 have D5:X5 ss i s=false:=by unfold X5;rw [M8.out];rw [decide_eq_false (show ¬ s∉ss.take i from fun h=>h Dc.out)];simp
 have J0:=H9 D5;clear D5
 refine Ze fun _ l8=>Zr [] hf ?_
 refine p5 2 hf ?_
 intro a7 hf s2
 refine Zx l8 (k8 ?_)
 exact Fc.o6 rfl hf s2 ⟨by rw [HQ.out,DZ.out,EM.out,Jv.out,J0.out];rfl,kU.trans (Below.mono (N0) (Nat.le_of_lt yH))⟩)
 . (
 have M8:=H9 p7;clear p7
 have q1:=M8.out
 have FU:=H9 hlz;clear hlz
 have q3:((leastOf s:Int) !=0)=false:=by have h9:=FU.out;rw [h9];rfl
 have Dc:=H9 D7;clear D7
 have HJ:=H9 (eD Dc.out)
 have MJ:(ss.take i).length=i:=sO
 have od:=H9 MJ;clear MJ
 refine Ze fun _ l8=> ?_
 have qs:=And.intro q1 q3
 refine rg ?_
 have bB:=And.intro (hf.eW 52 53 54 55 56 57 58 59 60 61) (hf.B8 62 63 64 65 66 67 68 69)
 iterate 10 refine Zy ?_
 refine Zd (eE W6 W5.heap.size 0 s _ _ ⟨y0,y1,y2,wQ⟩ Y1.ok) ?_;rintro e w7 ⟨rfl,B1⟩
 replace x0:=cL B1 x0;replace x1:=cL B1 x1;replace x2:=cL B1 x2
 have mS:=UG.later B1
 have zJ:=LM.later B1
 have jK:=hZ.trans (B1.mono hZ.size)
 refine Zv ?_
 iterate 4 refine Zy ?_
 have HH:=dG w7 mS zJ Y1 sO
 simp only [bW,M8.out] at HH
 refine Zd (HH) ?_;rintro e w8 ⟨rfl,P4,pG,FG,Xz,FH,QJ⟩
 have N0:=hb.trans ((jK.mono hb.size).trans (n4.below QJ (by have:=hb.size;have:=jK.size;omega) (fun k hk=>by rcases Nat.lt_or_ge k w3.heap.size with h | h;(have:=mS.lo k h;omega);exact h)))
 rw [HJ.out] at FH
 rw [HJ.out,od.out]
 refine Zv ?_
 iterate 3 refine Zy ?_
 refine Fc.nil (D2 4 43 44 45 70 hf ?_)
 clear hf sS bB qs;intro a7 hf sS
 refine Zx l8 (Fc.k9 sS.2.2.2.2 ?_)
 have Cg:X5 ss i s=true:=by unfold X5;rw [M8.out,decide_eq_true FU.out,decide_eq_true Dc.out];rfl
 have pz:=H9 Cg;clear Cg
 refine wp_skip (Fc.j9 (Zx j8 (Zr [71] hf ?_)))
 refine z8 4 43 44 45 hf ?_
 intro a7 hf sS
 refine Fc.j7 ?_
 obtain ⟨s4,Mb,Bq,QR⟩:=sS
 exact ⟨_,by have:=HK.out;omega,i+1,P4,pG,rfl,oM,hf,s4,Mb,Bq,by rw [QR];rfl,by rw [List.take_add_one,HS.out];exact FH,by rw [EM.out,Jv.out,pz.out];rfl,N0⟩))
 . (
 have M8:=H9 p7;clear p7
 have q1:=M8.out
 have FU:=H9 hlz;clear hlz
 have q3:((leastOf s:Int) !=0)=true:=by have h9:=FU.out;rw [bne_iff_ne];omega
 refine Ze fun _ l8=> ?_
 have qs:=And.intro q1 q3
 refine rg ?_
 have bB:=And.intro (hf.eW 52 53 54 55 56 57 58 59 60 61) (hf.B8 62 63 64 65 66 67 68 69)
 iterate 10 refine Zy ?_
 refine Zd (eE W6 W5.heap.size 0 s _ _ ⟨y0,y1,y2,wQ⟩ Y1.ok) ?_;rintro e w7 ⟨rfl,B1⟩
 replace x0:=cL B1 x0;replace x1:=cL B1 x1;replace x2:=cL B1 x2
 have mS:=UG.later B1
 have zJ:=LM.later B1
 have jK:=hZ.trans (B1.mono hZ.size)
 refine Zv ?_
 iterate 8 refine Zy ?_
 refine Fc.nil (D2 4 43 44 45 70 hf ?_)
 clear hf sS bB qs;intro a7 hf sS
 refine Zx l8 (Fc.l7 sS.2.2.2.2 ?_)
 have D5:X5 ss i s=false:=by unfold X5;rw [M8.out];rw [decide_eq_false FU.out];simp
 have J0:=H9 D5;clear D5
 refine Ze fun _ l8=>Zr [] hf ?_
 refine p5 2 hf ?_
 intro a7 hf s2
 refine Zx l8 (k8 ?_)
 exact Fc.o6 rfl hf s2 ⟨by rw [HQ.out,DZ.out,EM.out,Jv.out,J0.out];rfl,kU.trans (Below.mono (hb.trans (jK.mono hb.size)) (Nat.le_of_lt yH))⟩)))
 . (
 have C3:i=ss.length:=qF
 have nM:=H9 C3;clear C3 hq
 refine Zo ?_
 refine Zs a8 fun _ a8=>Zr [] hf ?_
 refine p5 2 hf ?_
 intro a7 hf s2
 refine Zx a8 (k8 ?_)
 refine Fc.o6 rfl hf s2 ⟨?_,kU.trans (hb.mono (Nat.le_of_lt yH))⟩
 rw [HQ.out,DZ.out,EM.out,nM.out,List.drop_length];rfl)))))
def buildF (es:List G9):Fst:=if aP es=0 then build (es.map lQ) else ⟨[],0⟩
theorem az (w:World) (es:List G9) (B:Nat) (v:Value) (hB:B<=w.heap.size) (Q9:RE w B v es) (hlen:es.length<=100) (uK:∀ e∈es,GR e) :
  Calls Tryz.prog 27 #[v] w fun e w1=>∃ sv,e= .returned (.tuple #[.agg #[sv,.int .u64 (buildF es).init],.int .i64 (aP es:Nat)])/\RS w1 sv (buildF es).Y2/\(∀ s∈(buildF es).Y2,tU s)/\(buildF es).Y2.length<=2+255*es.length/\Below w.heap.size w w1:=by
 by_cases hc:aP es=0
 ·refine (VV w es B v hB Q9 hlen uK hc).mono ?_
  rintro e w1 ⟨sv,rfl,h2,h4,h5,h3⟩
  unfold buildF
  rw [if_pos hc,hc]
  exact ⟨sv,rfl,h2,h4,h5,h3⟩
 ·refine (VU w es B v hB Q9 hlen hc).mono ?_
  rintro e w1 ⟨rfl,h3⟩
  unfold buildF
  rw [if_neg hc]
  exact ⟨_,rfl,RS.T7 _,sP,sP,h3⟩
theorem vW (a b:ByteArray):(a.toList==b.toList)=decide (wl a=wl b):=by
 have h:∀ {x y:Bool},(x=true ↔ y=true)->x=y:=fun {x y} h=>by cases x<;>cases y<;>simp_all
 refine h ?_
 rw [beq_iff_eq,decide_eq_true_iff]
 constructor
 ·intro e;unfold wl;rw [<- ByteArray.toList_eq, <- ByteArray.toList_eq,e]
 ·intro e;rw [cK e]
def XL (l:List G9):Prop:=l.Pairwise fun a b=>lexlt (wl a.word) (wl b.word)=true
theorem BS:∀ (l:List G9) (p:Option (List Nat)),(∀ e∈l,okW e.word=true)->XL l->(∀ q,p=some q->∀ e,l.head? =some e->lexlt q (wl e.word)=true)->chkL p l=0
 | [],_,_,_,_=>rfl
 | e::l,p,hw,hr,hp=>by
  have hr:=List.pairwise_cons.1 hr
  have ih:=BS l (some (wl e.word)) (fun x hx=>hw x (List.mem_cons_of_mem _ hx)) hr.2 (fun q hq x hx=>by injection hq with hq;subst hq;exact hr.1 x (List.mem_of_mem_head? hx))
  simp only [chkL,hw e (List.mem_cons_self ..),if_true,ih]
  cases p with
  | none=>rfl
  | some q=>simp only [hp q rfl e rfl,if_true]
def shift (b o:Nat) (e:Wv):Wv:=(b::e.1,o+e.2)
def P0 (s:State):List Wv:=if s.final then [([],s.out)] else []
def wds (ss:List State):Nat->Nat->List Wv
 | 0,k=>match ss[k]? with | none=>[] | some s=>P0 s
 | m+1,k=>match ss[k]? with | none=>[] | some s=>P0 s++s.j4.flatMap fun a=>(wds ss m a.to.toNat).map (shift a.byte a.out)
def z8o (n:Nat) (e:Wv):Wv:=(e.1,e.2-n)
def rel (l:List Wv):List Wv:=l.map (z8o (leastV l))
theorem Y6 {SS:List State} {k:Nat} {s:State} (h:SS[k]? =some s) (m:Nat):wds SS (m+1) k=P0 s++s.j4.flatMap fun a=>(wds SS m a.to.toNat).map (shift a.byte a.out):=by
 simp only [wds,h]
theorem Gk {SS:List State} {k:Nat} {s:State} (h:SS[k]? =some s) (hs:s.j4=[]):∀ m,wds SS m k=P0 s
 | 0=>by simp only [wds,h]
 | m+1=>by simp [wds,h,hs]
section
variable {f:Nat} (IH:∀ (l:List Wv) (ss SS:List State) (m:Nat),nQ f l->l≠[]->xT l->Inv ss->nQ (m+1) l->(K f ss l).1 <+: SS->wds SS m (K f ss l).2=rel l)
include IH
end
theorem dZ (F:u3->List Wv):∀ (l:List u3) (i:Nat) (last:Int),okArcs i last l=true->∀ e∈l.flatMap (fun a=>(F a).map (shift a.byte a.out)),∃ b w,e.1=b::w/\last<(b:Int)
 | [],_,_,_,e,he=>by simp at he
 | a::l,i,last,h,e,he=>by
  simp only [okArcs,Bool.and_eq_true,decide_eq_true_eq] at h
  rcases List.mem_append.1 (by simpa [List.flatMap_cons] using he:e∈(F a).map (shift a.byte a.out)++l.flatMap (fun a=>(F a).map (shift a.byte a.out))) with he | he
  ·obtain ⟨x,_,rfl⟩:=List.mem_map.1 he
   exact ⟨a.byte,x.1,rfl,h.1.2⟩
  ·obtain ⟨b,w,h1,h2⟩:=dZ F l i a.byte h.2 e he
   exact ⟨b,w,h1,by have:=h.1.2;omega⟩
def sub (l:List Wv) (p:List Nat):List Wv:=(l.filter fun e=>p.isPrefixOf e.1).map fun e=>(e.1.drop p.length,e.2)
section
variable {f:Nat} (IHB:∀ (l:List Wv) (ss SS:List State) (m:Nat),nQ f l->l≠[]->xT l->Inv ss->nQ (m+1) l->(K f ss l).1 <+: SS->∀ k,ss.length<=k->k<(K f ss l).1.length->∃ e∈l,∃ p,p <+: e.1/\wds SS m k=rel (sub l p))
 (IHA:∀ (l:List Wv) (ss SS:List State) (m:Nat),nQ f l->l≠[]->xT l->Inv ss->nQ (m+1) l->(K f ss l).1 <+: SS->∀ e∈l,∀ p,p <+: e.1->∃ k,k<SS.length/\wds SS m k=rel (sub l p))
include IHB IHA
end
instance:DecidableEq G9:=fun a b=>decidable_of_iff (a.word=b.word/\a.weight=b.weight/\a.gone=b.gone) (by cases a;cases b;simp)
def q9:Nat:=18446744073709551616
def bl (l:List Nat):ByteArray:=strOfNums (l.map fun (x:Nat)=>(x:Int))
theorem ay {l:List Nat} (h:∀ x∈l,x<256):wl (bl l)=l:=by
 unfold wl bl
 rw [strOfNums_data,List.map_map,List.map_map]
 refine (List.map_congr_left fun x hx=> ?_).trans (List.map_id _)
 have:=h x hx
 simp
 omega
theorem Jn (a b:ByteArray):wl (a++b)=wl a++wl b:=by
 unfold wl
 rw [<- List.map_append,ByteArray.data_append,Array.toList_append]
theorem Gi (b:Nat) (l:List Nat):bl (b::l)=strOfNums [(b:Int)]++bl l:=by
 refine ByteArray.ext (Array.ext' ?_)
 rw [ByteArray.data_append,Array.toList_append]
 rfl
theorem append_assoc (a b c:ByteArray):a++b++c=a++(b++c):=by
 refine ByteArray.ext (Array.ext' ?_)
 simp [ByteArray.data_append]
theorem EJ:bl []=⟨#[]⟩:=rfl
theorem empty_append (a:ByteArray):(⟨#[]⟩:ByteArray)++a=a:=by
 refine ByteArray.ext (Array.ext' ?_)
 simp [ByteArray.data_append]
theorem append_empty (a:ByteArray):a++(⟨#[]⟩:ByteArray)=a:=by
 refine ByteArray.ext (Array.ext' ?_)
 simp [ByteArray.data_append]
def eX (s:ByteArray) (v:Nat):G9:=if 4294967296<v then ⟨⟨#[]⟩,0,false⟩ else if v=0 then ⟨s,0,true⟩ else ⟨s,((v-1:Nat):Int),false⟩
def AD (v:Nat):Bool:= !decide (4294967296<v)
def BT (e:G9):Prop:=GR e/\YC e=e
theorem BU (s:ByteArray) (v:Nat):BT (eX s v):=by
 unfold eX
 split
 ·exact ⟨⟨sP,sP⟩,rfl⟩
 ·split
  ·exact ⟨⟨sP,sP⟩,rfl⟩
  ·exact ⟨⟨sP,sO⟩,rfl⟩
theorem jx {s:ByteArray} {v:Nat} (h:v<=4294967296):lQ (eX s v)=(wl s,v):=by
 unfold eX lQ
 rw [if_neg (by omega)]
 by_cases h0:v=0
 ·subst h0;rfl
 ·rw [if_neg h0]
  simp only [bA,Bool.false_eq_true,if_false]
  refine Prod.ext rfl ?_
  simp
  omega
theorem Va {a b:G9} (ha:BT a) (hb:BT b) (h:lQ a=lQ b):a=b:=by
 have h1:a.word=b.word:=cK (congrArg Prod.fst h)
 have h2:bA a=bA b:=congrArg Prod.snd h
 obtain ⟨⟨a1,a2⟩,a3⟩:=ha
 obtain ⟨⟨b1,b2⟩,b3⟩:=hb
 cases a with | mk aw an ag =>
 cases b with | mk bw bn bg =>
 simp only [bA,YC] at *
 subst h1
 cases ag<;>cases bg<;>simp at h2 a3 b3 |-
 ·omega
 ·rw [<- a3, <- b3]
theorem cx {e:G9} (h:BT e):eX e.word (bA e)=e:=by
 have hv:=xP h.1
 exact Va (BU _ _) h (jx oM)
def valW (ss:List State):Nat->List Nat->Option Nat
 | k,[]=>match ss[k]? with | none=>none | some s=>if s.final then some s.out else none
 | k,b::w=>match ss[k]? with | none=>none | some s=>match s.j4.find? (fun a=>decide (a.byte=b)) with | none=>none | some a=>(valW ss a.to.toNat w).map (a.out + ·)
def uN (l:List Wv) (w:List Nat):Option Nat:=(l.find? fun e=>decide (e.1=w)).map Prod.snd
theorem iT (a b:List Wv) (w:List Nat):uN (a++b) w=(uN a w).or (uN b w):=by
 unfold uN
 rw [List.find?_append]
 cases a.find? (fun e=>decide (e.1=w))<;>rfl
theorem kW {l:List Wv} {w:List Nat} (h:∀ e∈l,e.1≠w):uN l w=none:=by
 unfold uN
 rw [List.find?_eq_none.2 (fun e he=>by simpa using h e he)]
 rfl
theorem LN (l:List Wv) (b o:Nat) (w:List Nat):uN (l.map (shift b o)) (b::w)=(uN l w).map (o + ·):=by
 unfold uN
 rw [List.find?_map]
 have:((fun e:Wv=>decide (e.1=b::w))∘shift b o)=fun e:Wv=>decide (e.1=w):=by
  funext e;simp [shift]
 rw [this]
 cases l.find? (fun e=>decide (e.1=w))<;>rfl
theorem BR (F:u3->List Wv) (b:Nat) (w:List Nat):∀ (l:List u3) (i:Nat) (last:Int),okArcs i last l=true ->
  uN (l.flatMap fun a=>(F a).map (shift a.byte a.out)) (b::w)=match l.find? (fun a=>decide (a.byte=b)) with | none=>none | some a=>(uN (F a) w).map (a.out + ·)
 | [],_,_,_=>rfl
 | a::l,i,last,h=>by
  have h':=h
  simp only [okArcs,Bool.and_eq_true,decide_eq_true_eq] at h'
  rw [List.flatMap_cons,iT,List.find?_cons]
  by_cases hb:a.byte=b
  ·rw [decide_eq_true hb]
   simp only
   subst hb
   rw [LN,kW (l:=l.flatMap fun a=>(F a).map (shift a.byte a.out))]
   ·cases (uN (F a) w).map (a.out + ·)<;>rfl
   ·intro e he hw
    obtain ⟨x,u,h1,h2⟩:=dZ F l i a.byte h'.2 e he
    rw [h1] at hw
    injection hw with hw _
    omega
  ·rw [decide_eq_false hb]
   simp only
   rw [kW (l:=(F a).map (shift a.byte a.out)),Option.none_or,BR F b w l i a.byte h'.2]
   intro e he hw
   obtain ⟨x,_,rfl⟩:=List.mem_map.1 he
   injection hw with hw _
   exact hb hw
def R5 (es:List G9) (w:ByteArray):Option G9:=es.find? fun e=>decide (e.word=w)
theorem Tw (es:List G9) (w:ByteArray):uN (es.map lQ) (wl w)=(R5 es w).map bA:=by
 unfold uN R5
 rw [List.find?_map]
 have:((fun e:Wv=>decide (e.1=wl w))∘lQ)=fun e:G9=>decide (e.word=w):=by
  funext e
  show decide (wl e.word=wl w)=_
  by_cases h:e.word=w
  ·rw [h];simp
  ·rw [decide_eq_false h,decide_eq_false (fun h2=>h (cK h2))]
 rw [this]
 cases es.find? (fun e=>decide (e.word=w))<;>rfl
def Small (l:List Nat):Prop:=∀ x∈l,x<256
theorem aL {l:List Nat} (h:Small l):wl (bl l)=l:=by
 unfold wl bl
 rw [strOfNums_data,List.map_map,List.map_map]
 refine (List.map_congr_left fun x hx=> ?_).trans (List.map_id _)
 have:=h x hx
 simp
 omega
theorem Bi (s:ByteArray):bl (wl s)=s:=cK (aL (cX s))
theorem N7 (l:List Nat):(bl l).size=l.length:=by unfold bl;rw [strOfNums_size,List.length_map]
theorem Small.append {a b:List Nat} (ha:Small a) (hb:Small b):Small (a++b):=fun x hx=>by
 rcases List.mem_append.1 hx with h | h
 ·exact ha x h
 ·exact hb x h
theorem Small.nil:Small []:=by simp [Small]
theorem Small.cons {x:Nat} {l:List Nat} (hx:x<256) (hl:Small l):Small (x::l):=fun y hy=>by
 rcases List.mem_cons.1 hy with rfl | h
 ·exact hx
 ·exact hl y h
def P9 (n:Nat):Nat:=(Lib.bitLen n+7) / 8
def leB:Nat->Nat->List Nat
 | 0,_=>[]
 | m+1,n=>n%256::leB m (n / 256)
def r7 (n:Nat):List Nat:=if n<248 then [n] else (247+P9 n)::leB (P9 n) n
theorem J2:∀ (m n:Nat),(leB m n).length=m
 | 0,_=>rfl
 | m+1,n=>by simp [leB,J2 m]
theorem wR:∀ (m n:Nat),Small (leB m n)
 | 0,_=>by simp [Small,leB]
 | m+1,n=>Small.cons (Nat.mod_lt _ oM) (wR m _)
theorem rV:∀ (m n:Nat),leB (m+1) n=leB m n++[n / 256^m%256]
 | 0,n=>by simp [leB]
 | m+1,n=>by
  rw [leB,rV m (n / 256)]
  simp only [leB,List.cons_append]
  rw [Nat.div_div_eq_div_mul,Nat.pow_succ,Nat.mul_comm]
def ofLe:List Nat->Nat
 | []=>0
 | x::l=>x+256*ofLe l
theorem Ch:∀ (m n:Nat),n<256^m->ofLe (leB m n)=n
 | 0,n,h=>by simp [leB,ofLe] at *;omega
 | m+1,n,h=>by
  rw [leB,ofLe,Ch m (n / 256) (by rw [Nat.pow_succ] at h;exact Nat.div_lt_of_lt_mul (by rw [Nat.mul_comm];exact h))]
  omega
theorem rW:∀ (l:List Nat),Small l->leB l.length (ofLe l)=l
 | [],_=>rfl
 | x::l,h=>by
  have hx:=h x (List.mem_cons_self ..)
  have hl:Small l:=fun y hy=>h y (List.mem_cons_of_mem _ hy)
  rw [List.length_cons,leB,ofLe]
  have e1:(x+256*ofLe l)%256=x:=oM
  have e2:(x+256*ofLe l) / 256=ofLe l:=oM
  rw [e1,e2,rW l hl]
theorem pW:∀ (l:List Nat),Small l->ofLe l<256^l.length
 | [],_=>by simp [ofLe]
 | x::l,h=>by
  have hx:=h x (List.mem_cons_self ..)
  have hl:=pW l (fun y hy=>h y (List.mem_cons_of_mem _ hy))
  rw [List.length_cons,ofLe,Nat.pow_succ]
  omega
theorem wS:∀ (l:List Nat) (x:Nat),ofLe (l++[x])=ofLe l+256^l.length*x
 | [],x=>by simp [ofLe]
 | y::l,x=>by
  rw [List.cons_append,ofLe,wS l x,ofLe,List.length_cons,Nat.pow_succ,Nat.mul_add, <- Nat.add_assoc, <- Nat.mul_assoc,Nat.mul_comm 256 (256^l.length)]
theorem sX (m:Nat):256^m=2^(8*m):=by rw [show (256:Nat)=2^8 from rfl, <- Nat.pow_mul]
theorem T4 {n:Nat} (h0:0<n) (h:n<q9):1<=P9 n/\P9 n<=8/\256^(P9 n-1)<=n/\n<256^P9 n:=by
 obtain ⟨h1,h2,h3⟩:=Lib.bitLenAux_bounds 64 n h oM
 have e:Lib.bitLenAux 64 n=Lib.bitLen n:=rfl
 rw [e] at h1 h2 h3
 have XX:Lib.bitLen n<=64:=by
  rcases Nat.lt_or_ge 64 (Lib.bitLen n) with h5 | h5
  ·have h6:2^64<=2^(Lib.bitLen n-1):=Nat.pow_le_pow_right oM oM
   have h7:q9=2^64:=rfl
   omega
  ·exact h5
 unfold P9
 refine ⟨oM,oM,?_,?_⟩
 ·rw [sX]
  exact Nat.le_trans (Nat.pow_le_pow_right oM oM) h2
 ·rw [sX]
  exact Nat.lt_of_lt_of_le h3 (Nat.pow_le_pow_right oM oM)
theorem KS {n k:Nat} (h:n<q9) (hk:1<=k) (h1:256^(k-1)<=n) (h2:n<256^k):P9 n=k:=by
 have h0:0<n:=Nat.lt_of_lt_of_le (Nat.pow_pos oM) h1
 obtain ⟨b1,b2,b3,b4⟩:=T4 h0 h
 rcases Nat.lt_trichotomy (P9 n) k with hl | hl | hl
 ·have:256^P9 n<=256^(k-1):=Nat.pow_le_pow_right oM oM
  omega
 ·exact hl
 ·have:256^k<=256^(P9 n-1):=Nat.pow_le_pow_right oM oM
  omega
theorem iY {n:Nat} (h:n<q9):Small (r7 n):=by
 unfold r7
 split
 ·exact Small.cons oM Small.nil
 ·obtain ⟨_,b2,_⟩:=T4 (show 0<n by omega) h
  exact Small.cons oM (wR _ _)
theorem cE (n:Nat):(r7 n).length=if n<248 then 1 else 1+P9 n:=by
 unfold r7
 split
 ·rfl
 ·rw [List.length_cons,J2];omega
theorem M0 {n:Nat} (h:n<q9):1<=(r7 n).length/\(r7 n).length<=9:=by
 rw [cE]
 split
 ·omega
 ·obtain ⟨b1,b2,_⟩:=T4 (show 0<n by omega) h
  omega
def getN (s:List Nat) (i:Nat):Nat×Nat×Nat :=
 match s[i]? with
 | none=>(0,i,3)
 | some c=>if c<248 then (c,i+1,0) else
  if s.length-i<=c-247 then (0,i,3) else
  if (r7 (ofLe ((s.drop (i+1)).take (c-247)))).length=1+(c-247) then (ofLe ((s.drop (i+1)).take (c-247)),i+1+(c-247),0) else (0,i,5)
theorem Qd {n:Nat} (h:n<q9) (p r:List Nat):getN (p++r7 n++r) p.length=(n,p.length+(r7 n).length,0):=by
 unfold getN
 by_cases hn:n<248
 ·have e:r7 n=[n]:=by unfold r7;rw [if_pos hn]
  rw [e]
  simp [hn]
 ·have e:r7 n=(247+P9 n)::leB (P9 n) n:=by unfold r7;rw [if_neg hn]
  obtain ⟨b1,b2,b3,b4⟩:=T4 (show 0<n by omega) h
  have hl:=J2 (P9 n) n
  have h1:(p++r7 n++r)[p.length]? =some (247+P9 n):=by rw [e];simp
  have h2:((p++r7 n++r).drop (p.length+1)).take (P9 n)=leB (P9 n) n:=by
   rw [e,show p++(247+P9 n)::leB (P9 n) n++r=(p++[247+P9 n])++(leB (P9 n) n++r) by simp,show p.length+1=(p++[247+P9 n]).length by simp,List.drop_left,List.take_append_of_le_length oM,List.take_of_length_le oM]
  rw [h1]
  simp only
  rw [if_neg (by omega),show 247+P9 n-247=P9 n by omega,h2,Ch _ _ b4,cE,if_neg hn,if_neg (by
   rw [e];simp;omega),if_pos rfl,show p.length+1+P9 n=p.length+(1+P9 n) by omega]
theorem sY {s:List Nat} (hs:Small s) {i n j:Nat} (h:getN s i=(n,j,0)):n<q9/\s.drop i=r7 n++s.drop j/\j=i+(r7 n).length:=by
 unfold getN at h
 split at h
 ·simp at h
 ·rename_i c hc
  have o9:=(H2 hc).1
  have Ty:=hs c (T9 hc)
  have Tj:s.drop i=c::s.drop (i+1):=U3 hc
  split at h
  ·rename_i h8
   simp only [Prod.mk.injEq] at h
   obtain ⟨rfl,rfl,_⟩:=h
   have e:r7 c=[c]:=by unfold r7;rw [if_pos h8]
   exact ⟨by unfold q9;omega,by rw [e,Tj];rfl,by rw [e];rfl⟩
  ·rename_i h8
   split at h
   ·simp at h
   ·rename_i hlen
    split at h
    ·rename_i iW
     simp only [Prod.mk.injEq] at h
     obtain ⟨hn,rfl,_⟩:=h
     have N6:Small ((s.drop (i+1)).take (c-247)):=fun x hx=>hs x (List.mem_of_mem_drop (List.mem_of_mem_take hx))
     have KD:((s.drop (i+1)).take (c-247)).length=c-247:=sO
     have h7:leB ((s.drop (i+1)).take (c-247)).length (ofLe ((s.drop (i+1)).take (c-247)))=(s.drop (i+1)).take (c-247):=rW _ N6
     rw [KD,hn] at h7
     have hb:=pW _ N6
     rw [hn,KD] at hb
     rw [hn] at iW
     have XX:n<q9:=by
      have:256^(c-247)<=256^8:=Nat.pow_le_pow_right oM oM
      have e:q9=256^8:=rfl
      omega
     rw [cE] at iW
     have h9:¬ n<248:=fun h9=>by rw [if_pos h9] at iW;omega
     rw [if_neg h9] at iW
     have e:r7 n=c::(s.drop (i+1)).take (c-247):=by
      unfold r7
      rw [if_neg h9,show P9 n=c-247 by omega,h7,show 247+(c-247)=c by omega]
     refine ⟨XX,?_,?_⟩
     ·rw [e,Tj,List.cons_append,show i+1+(c-247)=(c-247)+(i+1) by omega]
      refine congrArg (c :: ·) ?_
      conv=>lhs;rw [<- List.take_append_drop (c-247) (s.drop (i+1))]
      rw [List.drop_drop,show i+1+(c-247)=(c-247)+(i+1) by omega]
     ·rw [e,List.length_cons,KD];omega
    ·simp at h
def lZ (l:List Nat):List Value:=l.map fun (x:Nat)=>Value.int .u8 x
theorem eF (l:List Nat):(lZ l).length=l.length:=by simp [lZ]
theorem M1 (a b:List Nat):lZ (a++b)=lZ a++lZ b:=by simp [lZ]
theorem Vc (l:List Nat):∀ u∈lZ l,u.oneCell'=true:=fun u hu=>by
 obtain ⟨x,_,rfl⟩:=List.mem_map.1 hu
 rfl
abbrev OB (w:World) (base:Nat) (v:Value) (l:List Nat):Prop:=w.ownsRow base 5 1 v l.length (lZ l)
theorem OB.T7 (w:World) (base:Nat):OB w base (.slice none 0 0) []:=World.ownsRow_nil _ _ _ _
theorem cD:(Tryz.prog.info? 5).map (fun i=>(i.zero,i.size,i.bytes))=some (some (.int .u8 0),1,1):=kR
theorem OB.cell {w:World} {base n c:Nat} {A:Option Addr} {l:List Nat} (h:OB w base (.slice A n c) l) {i x:Nat} (hi:l[i]? =some x):∃ b,A=some ⟨b,0,none⟩/\base<=b/\b<w.heap.size/\w.cell? ⟨b,i,none⟩=some (.int .u8 x):=by
 have o9:=(H2 hi).1
 have h0:=h
 rcases h.2 with ⟨hv,h9⟩ | ⟨g,cap,cur,hv,hg,hh,hc,_⟩
 ·omega
 ·injection hv with h1 h2 h3
  subst h1;subst h2;subst h3
  refine ⟨g,rfl,hg,j5 hh,?_⟩
  rw [World.ownsRow.cellAt (show w.ownsRow base _ 1 _ l.length (lZ l) from h0) i (by rw [Nat.mul_one];exact o9)]
  unfold lZ
  rw [List.getElem?_map,hi]
  rfl
theorem OB.conv {w:World} {base:Nat} {v:Value} {l:List Nat} (h:OB w base v l):(convert 31 9 v).run Tryz.prog w= .ok (.string (bl l)) w:=by
 rcases h.2 with ⟨rfl,h0⟩ | ⟨g,cap,cur,rfl,hg,hh,hc,_⟩
 ·obtain rfl:l=[]:=List.eq_nil_of_length_eq_zero h0
  exact run_convert_bytes_nil (P:=Tryz.prog) w 31 5 Tryz.underlying31 Tryz.underlying5 0 0 9 Tryz.underlying9
 ·refine run_convert_bytes_arg (P:=Tryz.prog) w 31 5 Tryz.underlying31 Tryz.underlying5 g 0 l.length cap (l.map fun (x:Nat)=>(x:Int)) sP (fun i hi=> ?_) 9 Tryz.underlying9
  obtain ⟨b,e,_,_,z8n⟩:=OB.cell h (F8 hi)
  injection e with e
  injection e with e
  subst e
  rw [Nat.zero_add,z8n]
  simp [hi]
def RN (w:World) (B:Nat) (v:Value) (l:List Nat):Prop:=∃ (A:Option Addr) (c:Nat),v= .slice A l.length c/\(0<l.length->∃ b off,A=some ⟨b,off,none⟩/\b<B/\∀ (i x:Nat),l[i]? =some x->w.cell? ⟨b,off+i,none⟩=some (.int .u64 x))
theorem RN.below {w w':World} {B:Nat} {v:Value} {l:List Nat} (h:RN w B v l) (hb:Below B w w'):RN w' B v l:=by
 obtain ⟨A,c,h1,h2⟩:=h
 refine ⟨A,c,h1,fun h0=> ?_⟩
 obtain ⟨b,off,h4,h5,h6⟩:=h2 h0
 exact ⟨b,off,h4,h5,fun i x hi=>H7 hb (h6 i x hi) h5⟩
theorem RN.more {w:World} {B B':Nat} {v:Value} {l:List Nat} (h:RN w B v l) (hB:B<=B'):RN w B' v l:=by
 obtain ⟨A,c,h1,h2⟩:=h
 refine ⟨A,c,h1,fun h0=> ?_⟩
 obtain ⟨b,off,h4,h5,h6⟩:=h2 h0
 exact ⟨b,off,h4,oM,h6⟩
theorem RN.form {w:World} {B:Nat} {v:Value} {l:List Nat} (h:RN w B v l):∃ (A:Option Addr) (c:Nat),v= .slice A l.length c:=by
 obtain ⟨A,c,h1,_⟩:=h
 exact ⟨A,c,h1⟩
theorem RN.at_ {w:World} {B:Nat} {A:Option Addr} {n c:Nat} {l:List Nat} (h:RN w B (.slice A n c) l) {i x:Nat} (hi:l[i]? =some x):∃ b off,A=some ⟨b,off,none⟩/\b<B/\w.cell? ⟨b,off+i,none⟩=some (.int .u64 x):=by
 obtain ⟨A',c',h1,h3⟩:=h
 injection h1 with h1
 have h0:=(H2 hi).1
 obtain ⟨b,off,h4,h5,h6⟩:=h3 oM
 exact ⟨b,off,h1.trans h4,h5,h6 i x hi⟩
def G3 (l:List Nat):List Nat:=l.flatMap r7
theorem FV {l:List Nat} {i x:Nat} (h:l[i]? =some x):G3 (l.take (i+1))=G3 (l.take i)++r7 x:=by
 unfold G3
 rw [List.take_add_one,h]
 simp
def OM (w:World) (base:Nat) (v:Value) (l:List Nat):Prop :=
 ∃ g cap cur,v= .slice (some ⟨g,0,none⟩) l.length cap/\base<=g/\w.heap[g]? =some (.cells cur 5 (cap,cap+1))/\l.length<=cap/\cap<=maxLen/\cur.size=cap/\cur.toList.take l.length=lZ l
def OX (w:World) (base:Nat) (v:Value) (l:List Nat):Prop:=OB w base v l\/OM w base v l
section
variable {w w':World} {base:Nat} {v:Value} {l:List Nat}
theorem OM.later (h:OM w base v l) (hb:Below w.heap.size w w'):OM w' base v l:=by
 obtain ⟨g,cap,cur,h1,h2,h3,h4⟩:=h
 exact ⟨g,cap,cur,h1,h2,(hb.block g (j5 h3)).trans h3,h4⟩
theorem OX.later (h:OX w base v l) (hb:Below w.heap.size w w'):OX w' base v l:=h.imp (fun h=>n3 h hb) (fun h=>h.later hb)
theorem OM.cell (h:OM w base v l) {i x:Nat} (hi:l[i]? =some x):∃ b cap,v= .slice (some ⟨b,0,none⟩) l.length cap/\base<=b/\b<w.heap.size/\w.cell? ⟨b,i,none⟩=some (.int .u8 x)/\w.frozen? ⟨b,i,none⟩=false:=by
 obtain ⟨g,cap,cur,h1,h2,h3,h4,h5,h6,h7⟩:=h
 have o9:=(H2 hi).1
 refine ⟨g,cap,h1,h2,j5 h3,?_,?_⟩
 ·rw [cell_of_row _ _ _ _ _ _ h3]
  have:(cur.toList.take l.length)[i]? =(lZ l)[i]? :=by rw [h7]
  rw [List.getElem?_take,if_pos o9] at this
  unfold lZ at this
  rw [List.getElem?_map,hi] at this
  simpa using this
 ·simp [World.frozen?,h3]
  omega
theorem OX.lt (h:OX w base v l):∀ k,v.ownBlock=some k->base<=k/\k<w.heap.size:=fun k hk=>by
 rcases h with h | ⟨g,cap,cur,rfl,h2,h3,_⟩
 ·exact World.ownsRow.lt h k hk
 ·injection hk with hk
  have hk:g=k:=hk
  subst hk
  exact ⟨h2,j5 h3⟩
theorem OX.conv (h:OX w base v l):(convert 31 9 v).run Tryz.prog w= .ok (.string (bl l)) w:=by
 rcases h with h | h
 ·exact OB.conv h
 ·obtain ⟨g,cap,cur,rfl,h2,h3,h4,h5,h6,h7⟩:=h
  refine run_convert_bytes_arg (P:=Tryz.prog) w 31 5 Tryz.underlying31 Tryz.underlying5 g 0 l.length cap (l.map fun (x:Nat)=>(x:Int)) sP (fun i hi=> ?_) 9 Tryz.underlying9
  obtain ⟨b,x1i,e,_,_,hc,_⟩:=OM.cell ⟨g,cap,cur,rfl,h2,h3,h4,h5,h6,h7⟩ (F8 hi)
  injection e with e
  injection e with e
  injection e with e
  subst e
  rw [Nat.zero_add,hc]
  simp [hi]
end
theorem LP (w:World) (s:ByteArray) (hs:s.size<=maxLen):∃ v w',(convert 9 31 (.string s)).run Tryz.prog w= .ok v w'/\OM w' w.heap.size v (wl s)/\Below w.heap.size w w':=by
 have hr:=run_bytes_of_string (P:=Tryz.prog) w 9 31 5 s Tryz.underlying9 Tryz.underlying31 Tryz.underlying5
 have eV:=grownCap_ge w s.size 0 5
 have C8:(bytesRow s (grownCap w s.size 0 5)).size=grownCap w s.size 0 5:=by
  unfold bytesRow
  rw [Array.size_append,Array.size_map,Array.size_replicate]
  show s.size+_=_
  omega
 rw [C8] at hr
 refine ⟨_,_,hr,⟨w.heap.size,grownCap w s.size 0 5,bytesRow s (grownCap w s.size 0 5),by rw [o5],nR,heap_alloc_new w.drew _,by rw [o5];exact eV,grownCap_le_maxLen _ _ _ _ hs,C8,?_⟩,?_⟩
 ·unfold bytesRow lZ wl
  rw [Array.toList_append,Array.toList_map,List.take_append_of_le_length sP,List.take_of_length_le sP,List.map_map]
  rfl
 ·have h1:Below w.heap.size w w.drew:=⟨rfl,rfl,rfl,nR,fun _ _=>rfl⟩
  exact h1.trans ((Below.refl w.heap.size w.drew).alloc (Nat.le_refl w.heap.size) _)
theorem Vd {o:Oper} {a:Act} {w:World} {K:Act->World->Prop} {Q:Exit->Act->World->Prop} (s y:Operand) (ho:o.op= .call { callee:= .builtin .append,args:= #[s,y],argTypes:= #[31,31] })
  (base:Nat) (v:Value) (l:List Nat) (hs:a.eval s=v) (H8:OX w base v l) (b x:Nat) (hx:a.eval y= .slice (some ⟨b,0,none⟩) 1 1) (hc:w.cell? ⟨b,0,none⟩=some (.int .u8 x)) (hn:l.length<=1000000000) (R3:base<=w.heap.size)
  (h:∀ v' w',OX w' base v' (l++[x])->w.grownBy w' v.ownBlock->K (a.put o.dst v') w'):Oper.wp Tryz.prog o a w K Q:=by
 have Qe:∀ j u,([Value.int .u8 x]:List Value)[j]? =some u->w.cell? ⟨b,j,none⟩=some u:=fun j u hu=>by
  cases j with
  | zero=>injection hu with hu;rw [<- hu];exact hc
  | succ j=>simp at hu
 rcases H8 with H8 | H8
 ·refine J6 s y 31 ho 5 _ 1 1 Tryz.underlying31 cD rfl dC dC base v l.length _ hs H8 b [.int .u8 x] hx rfl Qe (by intro u hu;simp at hu;subst hu;rfl) hn R3 (fun v' w' h1 h2 _=>h v' w' (.inl ?_) h2)
  unfold OB
  rw [M1,List.length_append]
  exact h1
 ·obtain ⟨g,cap,cur,rfl,h2,h3,h4,h5,h6,h7⟩:=H8
  obtain ⟨i0,hi,fG,jT,X0⟩:=info_parts cD
  have y6h:∀ u∈([Value.int .u8 x]:List Value),u.oneCell'=true:=by intro u hu;simp at hu;subst hu;rfl
  rcases Nat.lt_or_ge l.length cap with o9 | eV
  ·have hr:=run_append_room_cells (P:=Tryz.prog) w 31 o.type 5 i0 Tryz.underlying31 hi g 0 l.length cap ⟨b,0,none⟩ 1 1 [.int .u8 x] (by rw [jT];rfl) (fun j u hu=>by rw [Addr.add_lit,Nat.zero_add];exact Qe j u hu) y6h oM
    (fun j hj=>by
     have:j=0:=by simpa using hj
     subst this
     rw [jT,cell_of_row _ _ _ _ _ _ h3,Array.getElem?_eq_getElem oM]
     rfl)
    (fun j hj=>by
     have:j=0:=by simpa using hj
     subst this
     rw [jT]
     simp [World.frozen?,h3]
     omega)
   rw [jT] at hr
   unfold Oper.wp execOp
   simp only [ho,resolve,invoke,builtin,Sem.run_bind,Sem.run_pure,Result.andThen_ok,List.map_toArray,List.map_cons,List.map_nil,hs,hx,hr]
   have hw:w.setCells g (0+l.length*1) [.int .u8 x]=w.setCell ⟨g,l.length,none⟩ (.int .u8 x):=by rw [Nat.zero_add,Nat.mul_one];rfl
   rw [hw]
   refine h _ _ (.inr ⟨g,cap,cur.setIfInBounds l.length (.int .u8 x),by rw [List.length_append];rfl,h2,?_,by rw [List.length_append];exact o9,h5,by rw [Array.size_setIfInBounds];exact h6,?_⟩) ⟨rfl,rfl,rfl,by simp [World.setCell],fun k hk F0=> ?_⟩
   ·exact k7 h3 _
   ·rw [Array.toList_setIfInBounds,List.length_append,M1,List.length_cons,List.length_nil,Nat.zero_add]
    rw [List.take_add_one,List.take_set_of_le nR,h7,List.getElem?_set_self (by simp [h6,o9])]
    rfl
   ·exact Below.heap_setCell _ _ _ _ (fun e=>F0 (by rw [e];rfl))
  ·have x1h:l.length=cap:=oM
   obtain ⟨v',w',r1,r2,r3⟩:=run_append_arg_grows (P:=Tryz.prog) w 31 o.type 5 i0 _ 1 1 Tryz.underlying31 hi fG jT X0 rfl dC ⟨g,0,none⟩ l.length cap (lZ l) (by rw [eF,Nat.mul_one]) (fun j u hj=>by
     rw [Addr.add_lit,Nat.zero_add,cell_of_row _ _ _ _ _ _ h3]
     have zW:j<l.length:=by have:=(H2 hj).1;rwa [eF] at this
     rw [<- h7,List.getElem?_take,if_pos zW] at hj
     simpa using hj) ⟨b,0,none⟩ 1 1 [.int .u8 x] rfl (fun j u hu=>by rw [Addr.add_lit,Nat.zero_add];exact Qe j u hu) oM (by unfold maxLen;omega) oM
   unfold Oper.wp execOp
   simp only [ho,resolve,invoke,builtin,Sem.run_bind,Sem.run_pure,Result.andThen_ok,List.map_toArray,List.map_cons,List.map_nil,hs,hx,r1]
   refine h v' w' (.inl ?_) ⟨r3.os,r3.tape,r3.output,r3.size,fun k hk _=>r3.block k hk sP⟩
   unfold OB
   rw [M1,List.length_append]
   exact K7 r2 R3
end Dw
namespace Crc
def Qg:Nat:=0xEDB88320
def L (n:Nat):Nat:=if n%2=1 then (n / 2)^^^Qg else n / 2
def bit (n b:Nat):Nat:=if n%2=b then n / 2 else (n / 2)^^^Qg
def byte (n c:Nat):Nat:=bit (bit (bit (bit (bit (bit (bit (bit n (c%2)) (c / 2%2)) (c / 4%2)) (c / 8%2)) (c / 16%2)) (c / 32%2)) (c / 64%2)) (c / 128%2)
def T (x:Nat):Nat:=L (L (L (L x)))
def Df (n h:Nat):Nat:=(n / 16)^^^T ((n%16)^^^h)
theorem Ci (a b:Nat):(a^^^b)%2=(a%2+b%2)%2:=by
 have h:=Nat.xor_mod_two_pow (a:=a) (b:=b) (n:=1)
 rw [show (2:Nat)^1=2 from rfl] at h
 rw [h]
 rcases Nat.mod_two_eq_zero_or_one a with ha | ha<;>rcases Nat.mod_two_eq_zero_or_one b with hb | hb<;>simp [ha,hb]
theorem z8m (a b:Nat):L (a^^^b)=L a^^^L b:=by
 unfold L
 have h1:=Ci a b
 have h2:(a^^^b) / 2=a / 2^^^b / 2:=Nat.xor_div_two
 rw [h1,h2]
 rcases Nat.mod_two_eq_zero_or_one a with ha | ha<;>rcases Nat.mod_two_eq_zero_or_one b with hb | hb<;>simp [ha,hb]
 ·rw [Nat.xor_assoc]
 ·rw [Nat.xor_assoc,Nat.xor_assoc,Nat.xor_comm Qg]
 ·rw [Nat.xor_assoc, <- Nat.xor_assoc Qg,Nat.xor_comm Qg (b / 2),Nat.xor_assoc,Nat.xor_self,Nat.xor_zero]
theorem Hr (n b:Nat) (hb:b<2):bit n b=L (n^^^b):=by
 unfold bit L
 have h2:(n^^^b) / 2=n / 2:=by rw [Nat.xor_div_two,show b / 2=0 by omega,Nat.xor_zero]
 have h1:=Ci n b
 rw [h1,h2]
 rcases Nat.mod_two_eq_zero_or_one n with ha | ha<;>rcases (show b=0\/b=1 by omega) with rfl | rfl<;>simp [ha]
theorem lJ (x:Nat):L (2*x)=x:=by unfold L;simp
theorem y6g (x:Nat):L (L (L (L (16*x))))=x:=by
 rw [show 16*x=2*(2*(2*(2*x))) by omega,lJ,lJ,lJ,lJ]
theorem LQ (n:Nat):n=(16*(n / 16))^^^(n%16):=by
 refine Nat.eq_of_testBit_eq fun i=> ?_
 rw [Nat.testBit_xor,show (16:Nat)*(n / 16)=2^4*(n / 2^4) from rfl,show n%16=n%2^4 from rfl,Nat.testBit_two_pow_mul,Nat.testBit_div_two_pow,Nat.testBit_mod_two_pow]
 by_cases h:i<4
 ·have h':¬ i ≥ 4:=oM
  simp [h,h']
 ·have h':i ≥ 4:=oM
  simp [h,h',show i-4+4=i by omega]
theorem Cj (n h:Nat) (hh:h<16):bit (bit (bit (bit n (h%2)) (h / 2%2)) (h / 4%2)) (h / 8%2)=Df n h:=by
 have b0:h%2<2:=oM
 have b1:h / 2%2<2:=oM
 have b2:h / 4%2<2:=oM
 have b3:h / 8%2<2:=oM
 rw [Hr _ _ b0,Hr _ _ b1,Hr _ _ b2,Hr _ _ b3]
 unfold Df T
 conv=>lhs;rw [LQ n]
 simp only [z8m]
 rw [y6g]
 have hs:∀ h,h<16->L (L (L (L (h%2))))^^^(L (L (L (h / 2%2)))^^^(L (L (h / 4%2))^^^L (h / 8%2)))=L (L (L (L h))):=dC
 have qp:=hs h hh
 rw [<- qp]
 simp only [Nat.xor_assoc]
theorem FW (n h:Nat) (hn:n<4294967296) (hh:h<16):Df n h<4294967296:=by
 have ht:∀ x,x<16->T x<4294967296:=dC
 have hx:(n%16)^^^h<2^4:=Nat.xor_lt_two_pow oM oM
 exact Nat.xor_lt_two_pow (n:=32) oM (ht _ oM)
theorem Qh (n c:Nat) (hc:c<256):byte n c=Df (Df n (c%16)) (c / 16):=by
 rw [<- Cj _ _ (show c%16<16 by omega), <- Cj _ _ (show c / 16<16 by omega)]
 unfold byte
 rw [show c%16%2=c%2 by omega,show c%16 / 2%2=c / 2%2 by omega,show c%16 / 4%2=c / 4%2 by omega,show c%16 / 8%2=c / 8%2 by omega,
  show c / 16 / 2%2=c / 32%2 by omega,show c / 16 / 4%2=c / 64%2 by omega,show c / 16 / 8%2=c / 128%2 by omega]
def run (n:Nat) (l:List Nat):Nat:=l.foldl byte n
def sum (l:List Nat):Nat:=4294967295-run 4294967295 l
theorem rT (l:List Nat):sum l<4294967296:=by unfold sum;omega
def four (n:Nat):List Nat:=[n%256,n / 256%256,n / 65536%256,n / 16777216%256]
def N8 (l:List Nat):List Nat:=l++four (sum l)
def opened (l:List Nat):Option (List Nat):=if 4<=l.length/\N8 (l.take (l.length-4))=l then some (l.take (l.length-4)) else none
theorem T5 (l:List Nat):(N8 l).length=l.length+4:=by simp [N8,four]
theorem Ck (l:List Nat):opened (N8 l)=some l:=by
 unfold opened
 have h:(N8 l).take ((N8 l).length-4)=l:=by rw [T5];simp [N8]
 rw [h,if_pos ⟨by rw [T5];omega,rfl⟩]
theorem cC {l b:List Nat} (h:opened l=some b):l=N8 b:=by
 unfold opened at h
 split at h
 ·rename_i hc
  injection h with h
  rw [<- h];exact hc.2.symm
 ·cases h
end Crc
namespace Dw
def lcs (l:List Nat) (k:Nat):List Value:=l.map (fun (x:Nat)=>Value.int .u8 x)++[.int .i64 k]
def jL (n:Nat):List Nat:=r7 n++List.replicate (9-(r7 n).length) 0
theorem cF {n:Nat} (h:n<q9):(jL n).length=9:=by
 have:=M0 h
 unfold jL
 rw [List.length_append,List.length_replicate]
 omega
theorem aD {l:List Nat} {k:Nat} (h:l.length=9):(lcs l k).toArray.size=10:=by
 rw [List.size_toArray]
 unfold lcs
 rw [List.length_append,List.length_map,h]
 rfl
theorem zK (l:List Nat) (k:Nat):(lcs l k).toArray.all (·.oneCell')=true:=by
 rw [Array.all_eq_true_iff_forall_mem]
 intro v hv
 have hv:v∈lcs l k:=by simpa using hv
 rcases List.mem_append.1 hv with hv | hv
 ·obtain ⟨x,_,rfl⟩:=List.mem_map.1 hv
  rfl
 ·simp at hv;subst hv;rfl
theorem zL {w:World} {g i k x:Nat} {l:List Nat} {t:TypeId} (h:w.heap[g]? =some (.cells (lcs l k).toArray t (0,0))) (hi:l[i]? =some x):w.cell? ⟨g,i,none⟩=some (.int .u8 x):=by
 have hl:=(H2 hi).1
 rw [cell_of_row _ _ i _ t (0,0) h]
 unfold lcs
 simp only [List.getElem?_toArray]
 rw [List.getElem?_append_left (by simpa using hl),List.getElem?_map,hi]
 rfl
theorem sZ {w:World} {g k:Nat} {l:List Nat} {t:TypeId} (h:w.heap[g]? =some (.cells (lcs l k).toArray t (0,0))) (hl:l.length=9):w.cell? ⟨g,9,none⟩=some (.int .i64 k):=by
 rw [cell_of_row _ _ 9 _ t (0,0) h]
 unfold lcs
 simp only [List.getElem?_toArray]
 rw [List.getElem?_append_right (by simp [hl])]
 simp [hl]
theorem Hs {l:List Nat} {k i x:Nat} (hi:i<l.length):(lcs l k).toArray.setIfInBounds i (.int .u8 (x:Int))=(lcs (l.set i x) k).toArray:=by
 unfold lcs
 rw [List.setIfInBounds_toArray,List.set_append_left _ _ (by simpa using hi),List.map_set]
theorem Cm {l:List Nat} {k j:Nat} (hl:l.length=9):(lcs l k).toArray.setIfInBounds 9 (.int .i64 (j:Int))=(lcs l j).toArray:=by
 unfold lcs
 rw [List.setIfInBounds_toArray,List.set_append_right _ _ (by simp [hl])]
 simp [hl]
theorem Ve {n:Nat} (h:n<248):lcs (jL n) (r7 n).length=[.int .u8 n,.int .u8 0,.int .u8 0,.int .u8 0,.int .u8 0,.int .u8 0,.int .u8 0,.int .u8 0,.int .u8 0,.int .i64 1]:=by
 have e:r7 n=[n]:=by unfold r7;rw [if_pos h]
 unfold jL
 rw [e]
 rfl
theorem Qi {n m i:Nat} (h:i<m) (hm:m<=8):((247+m)::(leB i n++List.replicate (8-i) 0))[1+i]? =some 0:=by
 rw [Nat.add_comm 1 i,List.getElem?_cons_succ,List.getElem?_append_right (by rw [J2];omega),J2,Nat.sub_self,List.getElem?_replicate,if_pos (by omega)]
theorem Qj {n m i:Nat} (h:i<m) (hm:m<=8):((247+m)::(leB i n++List.replicate (8-i) 0)).set (1+i) (n / 256^i%256)=(247+m)::(leB (i+1) n++List.replicate (8-(i+1)) 0):=by
 rw [Nat.add_comm 1 i,List.set_cons_succ,List.set_append_right _ _ (by rw [J2];omega),J2,Nat.sub_self,rV,List.append_assoc,show 8-i=(8-(i+1))+1 by omega,List.replicate_succ]
 rfl
theorem Qk {n i:Nat} (h:P9 n=i) (hn:248<=n):lcs ((247+i)::(leB i n++List.replicate (8-i) 0)) (1+i)=lcs (jL n) (r7 n).length:=by
 have e:r7 n=(247+i)::leB i n:=by unfold r7;rw [if_neg (by omega),h]
 unfold jL
 rw [e,List.length_cons,J2,show 9-(i+1)=8-i by omega,Nat.add_comm 1 i]
 rfl
theorem Ht {n i:Nat}:(n:Int) / 2^(8*(i:Int)).toNat=((n / 256^i:Nat):Int):=by
 rw [show (8*(i:Int)).toNat=8*i by omega,show (2:Int)^(8*i)=((256^i:Nat):Int) by rw [sX];norm_cast]
 rfl
theorem Qm {n:Nat}:IntKind.u8.wrap (n:Int)=((n%256:Nat):Int):=by rw [IntKind.wrap_u8];omega
theorem Vf {n m:Nat} (h:(Lib.bitLen n+7) / 8=m):((Lib.bitLen n:Int)+8-1).tdiv 8=(m:Int):=by
 rw [Int.tdiv_eq_ediv_of_nonneg oM]
 omega
theorem LR (w:World) (n:Nat) (hn:n<248):E2 w 101 #[.int .u64 n] (.agg (lcs (jL n) (r7 n).length).toArray):=by
 refine L7 41 Tryz.func101 fun fr hf s0=> ?_
 have q0:decide ((n:Int)<248)=true:=decide_eq_true oM
 refine Ze fun _ a8=>Zr [] hf ?_
 refine y4 0 2 hf ?_
 clear hf s0;intro a7 hf sS
 generalize p8:w.alloc (.cells #[.int .u8 0,.int .u8 0,.int .u8 0,.int .u8 0,.int .u8 0,.int .u8 0,.int .u8 0,.int .u8 0,.int .u8 0,.int .i64 0] 184)=W0
 have bK:W0.heap[w.heap.size]? =some (.cells (lcs (List.replicate 9 0) 0).toArray 184 (0,0)):=by rw [<- p8,y9,if_pos rfl];rfl
 have o7:Below w.heap.size w W0:=by rw [<- p8];exact (Below.refl _ _).alloc nR _
 clear p8
 refine Zs a8 fun _ a8=>Ze fun _ j8=>Zr [5] hf ?_
 refine y7 0 2 6 hf ?_
 intro a7 hf sS
 refine Zx j8 (Fc.l7 sS.2.2 ?_)
 clear q0
 have f0:=j6 (i:=0) bK;have f9:=j6 (i:=9) bK
 have z0:=zL (i:=0) (x:=0) bK sP
 have z9:=sZ bK sP
 refine Ze fun _ j8=>rg ?_
 have bB:=hf.B5 7 8 9 10 11
 refine Zy ?_
 refine fp fun K Z=> ?_
 go_simp
 rw [Fc.wrap_u8 oM oM]
 apply Z.out;clear Z K
 iterate 5 refine Zy ?_
 refine Fc.nil (p5 2 hf ?_)
 intro a7 hf s2
 have kP:=k7 (i:=9) (k7 (i:=0) bK (.int .u8 n)) (.int .i64 1)
 have p6:=(o7.setCell (p:=⟨w.heap.size,0,none⟩) nR (.int .u8 n)).setCell (p:=⟨w.heap.size,9,none⟩) nR (.int .i64 1)
 rw [show ((lcs (List.replicate 9 0) 0).toArray.setIfInBounds 0 (.int .u8 n)).setIfInBounds 9 (.int .i64 1)=(lcs (jL n) (r7 n).length).toArray by rw [Ve hn];rfl] at kP
 obtain ⟨W1,P2⟩:∃ x,(W0.setCell ⟨w.heap.size,0,none⟩ (.int .u8 n)).setCell ⟨w.heap.size,9,none⟩ (.int .i64 1)=x:=⟨_,rfl⟩
 rw [P2] at kP p6
 rw [P2]
 have Qp:=cF (n:=n) (by unfold q9;omega)
 clear P2 z0 z9 f0 f9 bK o7
 refine Zt j8 fun _ j8=> ?_
 have bB:=hf.b 12
 refine ⟨?_⟩
 refine wpList_load_row rfl 184 _ rfl w.heap.size (Fc.l5 s2) 184 _ (0,0) _ kP Tryz.underlying184 rfl (by rw [aD Qp];kernel_rfl) ?_
 refine Fc.L.out ?_
 clear bB
 refine Fc.nL (n:=41) (by simp only [Fc.G,hf.size]) hf.defers (fun a7 y5 hT=> ?_)
 have J8:=Fc.h2 hT 2 12
 simp (decide:=true) only [Fc.G,hf.size,reduceIte,s2] at J8
 replace hf:=y5;clear hT y5 s2
 obtain ⟨s2,F7⟩:=J8
 refine ⟨?_⟩
 refine wpList_plain rfl fun KL uM=> ?_
 refine wp_store_row 184 _ _ rfl w.heap.size _ (Fc.l5 s2) (Fc.l5 F7) 184 _ kP (by rw [aD Qp];kernel_rfl) rfl (zK _ _) (uM _ _ ?_)
 refine Fc.L.out ?_
 refine Fc.nil (p5 2 hf ?_)
 clear hf s2 F7;intro a7 hf s2
 rw [setRow_self _ _ _ 184 (0,0) kP]
 refine Zx j8 (k8 ?_)
 refine aX rfl hf s2 kP Tryz.underlying184 rfl (by rw [aD Qp];kernel_rfl) ⟨?_,p6⟩
 rfl
theorem Vg (w:World) (n:Nat) (hn:248<=n) (mV:n<q9):E2 w 101 #[.int .u64 n] (.agg (lcs (jL n) (r7 n).length).toArray):=by
 refine L7 41 Tryz.func101 fun fr hf s0=> ?_
 have q0:decide ((n:Int)<248)=false:=decide_eq_false oM
 refine Ze fun _ a8=>Zr [] hf ?_
 refine y4 0 2 hf ?_
 clear hf s0;intro a7 hf sS
 generalize p8:w.alloc (.cells #[.int .u8 0,.int .u8 0,.int .u8 0,.int .u8 0,.int .u8 0,.int .u8 0,.int .u8 0,.int .u8 0,.int .u8 0,.int .i64 0] 184)=W0
 have bK:W0.heap[w.heap.size]? =some (.cells (lcs (List.replicate 9 0) 0).toArray 184 (0,0)):=by rw [<- p8,y9,if_pos rfl];rfl
 have o7:Below w.heap.size w W0:=by rw [<- p8];exact (Below.refl _ _).alloc nR _
 clear p8
 refine Zs a8 fun _ a8=>Ze fun _ j8=>Zr [5] hf ?_
 refine y7 0 2 6 hf ?_
 intro a7 hf sS
 refine Zx j8 (Fc.k9 sS.2.2 ?_)
 clear q0
 obtain ⟨nj,Sc, -, -⟩:=T4 (show 0<n by omega) mV
 obtain ⟨m,hm⟩:∃ m,P9 n=m:=⟨_,rfl⟩
 rw [hm] at nj Sc
 have iQ:(Lib.bitLen n+7) / 8=m:=hm
 have HM:=H9 hm;clear hm
 have f0:=j6 (i:=0) bK
 have z0:=zL (i:=0) (x:=0) bK sP
 refine wp_skip (Zt a8 fun _ a8=> ?_)
 have bB:=hf.B5 13 14 15 16 17
 refine Zy ?_
 refine Zc (Tryz.bits_Len64 (n:Int) W0 oM (by unfold q9 at mV;omega)) ?_;rintro e w1 ⟨rfl,Vh⟩
 subst w1
 rw [Int.toNat_natCast]
 refine Zv ?_
 iterate 2 refine Zy ?_
 refine fp fun K Z=> ?_
 go_simp
 rw [Vf iQ,Fc.wrap_i64 oM oM]
 clear iQ
 apply Z.out;clear Z K
 refine Zy ?_
 refine Fc.nil (y7 0 2 3 hf ?_)
 intro a7 hf sS
 refine Zt a8 fun _ a8=> ?_
 have bB:=hf.B5 18 19 20 21 22
 refine Zy ?_
 refine fp fun K Z=> ?_
 go_simp
 try simp (disch:=omega) only [Fc.W]
 rw [show (247:Int)+(m:Int)=((247+m:Nat):Int) by omega]
 apply Z.out;clear Z K
 refine fp fun K Z=> ?_
 go_simp
 rw [Fc.wrap_u8 oM oM]
 apply Z.out;clear Z K
 iterate 3 refine Zy ?_
 refine Fc.nil (y7 0 2 3 hf ?_)
 intro a7 hf sS
 rw [show (247:Int)+(m:Int)=((247+m:Nat):Int) by omega]
 have kP:=k7 (i:=0) bK (.int .u8 ((247+m:Nat):Int))
 have p6:=o7.setCell (p:=⟨w.heap.size,0,none⟩) nR (.int .u8 ((247+m:Nat):Int))
 rw [Hs sP] at kP
 obtain ⟨W1,P2⟩:∃ x,W0.setCell ⟨w.heap.size,0,none⟩ (.int .u8 ((247+m:Nat):Int))=x:=⟨_,rfl⟩
 rw [P2] at kP p6
 try rw [P2]
 replace kP:W1.heap[w.heap.size]? =some (.cells (lcs ((247+m)::(leB 0 n++List.replicate (8-0) 0)) 0).toArray 184 (0,0)):=kP
 clear P2 z0 f0 bK o7
 refine Zs a8 fun _ a8=>Ze fun _ j8=>Zr [] hf ?_
 refine D2 0 2 3 23 24 hf ?_
 intro a7 hf sS
 refine Zx j8 (wp_block (wp_loop_ghost (fun gk fr wr=>∃ (i:Nat),gk=m-i/\i<=m/\Fc.Fr 41 fr/\fr.tmps[0]? =some (.int .u64 n)/\fr.tmps[2]? =some (.pointer (some ⟨w.heap.size,0,none⟩))/\fr.tmps[3]? =some (.int .i64 m)/\fr.tmps[23]? =some (.int .i64 m)/\fr.tmps[24]? =some (.int .i64 i)/\wr.heap[w.heap.size]? =some (.cells (lcs ((247+m)::(leB i n++List.replicate (8-i) 0)) 0).toArray 184 (0,0))/\Below w.heap.size w wr) (m) ?_ ?_))
 . (
 obtain ⟨s0,s2,s3,Q3,dL⟩:=sS
 exact ⟨0,rfl,Nat.zero_le _,hf,s0,s2,s3,Q3,dL,kP,p6⟩)
 . (
 clear hf sS
 clear kP p6
 rintro gk fr wr ⟨i,hk,hi,hf,s0,s2,s3,Q3,dL,hx,hb⟩
 have HK:=H9 hk;clear hk
 refine Ze fun _ j8=>Zr [] hf ?_
 refine F1 0 2 3 23 24 25 hf ?_
 clear hf s0 s2 s3 Q3 dL;intro a7 hf sS
 refine Zs j8 fun _ j8=>Fc.l0 sS.2.2.2.2.2 (fun hq=> ?_) (fun hq=> ?_)
 . (
 have o9:i<m:=qT
 clear hq
 have f1:=j6 (i:=1+i) hx
 have z1:=zL (i:=1+i) (x:=0) hx (Qi o9 Sc)
 obtain ⟨d,hd⟩:∃ d,n / 256^i=d:=⟨_,rfl⟩
 obtain ⟨x8,Dg⟩:∃ x8,d%256=x8:=⟨_,rfl⟩
 have HD:=H9 hd;have HX8:=H9 Dg;clear hd Dg
 refine wp_skip (Zs j8 fun _ j8=>wp_block (Ze fun _ l8=>Zr [26] hf ?_))
 refine F1 0 2 3 4 23 24 hf ?_
 intro a7 hf sS
 refine Zx l8 (rg ?_)
 have bB:=hf.B9 27 28 29 30 31 32 33 34 35
 refine Zy ?_
 refine fp fun K Z=> ?_
 go_simp
 try simp (disch:=omega) only [Fc.W]
 rw [show (1:Int)+(i:Int)=((1+i:Nat):Int) by omega]
 apply Z.out;clear Z K
 iterate 3 refine Zy ?_
 refine fp fun K Z=> ?_
 go_simp
 rw [Ht,HD.out]
 apply Z.out;clear Z K
 refine fp fun K Z=> ?_
 go_simp
 rw [Qm,HX8.out]
 apply Z.out;clear Z K
 refine Zy ?_
 refine fp fun K Z=> ?_
 go_simp
 try rw [if_pos (by omega)]
 rw [show ((1:Int)+(i:Int)).toNat=1+i by omega]
 apply Z.out;clear Z K
 refine Zy ?_
 refine Fc.nil (D2 0 2 3 23 24 hf ?_)
 intro a7 hf sS
 try rw [show (1:Int)+(i:Int)=((1+i:Nat):Int) by omega]
 have gR:=k7 (i:=1+i) hx (.int .u8 (x8:Int))
 have r8:=hb.setCell (p:=⟨w.heap.size,1+i,none⟩) nR (.int .u8 (x8:Int))
 rw [Hs (by simp [J2];omega)] at gR
 have A8:=Qj (n:=n) o9 Sc
 rw [HD.out,HX8.out] at A8
 rw [A8] at gR
 obtain ⟨W2,Y4⟩:∃ x,wr.setCell ⟨w.heap.size,1+i,none⟩ (.int .u8 (x8:Int))=x:=⟨_,rfl⟩
 rw [Y4] at gR r8
 try rw [Y4]
 clear Y4 A8 z1 f1 hx hb
 refine Fc.j9 (Zx j8 (Zr [36] hf ?_))
 refine D2 0 2 3 23 24 hf ?_
 intro a7 hf sS
 refine Fc.j7 ?_
 obtain ⟨s0,s2,s3,Q3,dL⟩:=sS
 exact ⟨_,by have:=HK.out;omega,i+1,rfl,oM,hf,s0,s2,s3,Q3,by rw [dL];rfl,gR,r8⟩)
 . (
 have C3:i=m:=qF
 subst C3
 clear hq
 have MY:((247+i)::(leB i n++List.replicate (8-i) 0)).length=9:=by simp [J2];omega
 have z9:=sZ hx MY
 have f9:=j6 (i:=9) hx
 refine Zo ?_
 refine Zt a8 fun _ a8=> ?_
 have bB:=hf.B3 37 38 39
 refine Zy ?_
 refine fp fun K Z=> ?_
 go_simp
 try simp (disch:=omega) only [Fc.W]
 rw [show (1:Int)+(i:Int)=((1+i:Nat):Int) by omega]
 apply Z.out;clear Z K
 iterate 2 refine Zy ?_
 refine Fc.nil (p5 2 hf ?_)
 intro a7 hf s2
 try rw [show (1:Int)+(i:Int)=((1+i:Nat):Int) by omega]
 have gR:=k7 (i:=9) hx (.int .i64 ((1+i:Nat):Int))
 have r8:=hb.setCell (p:=⟨w.heap.size,9,none⟩) nR (.int .i64 ((1+i:Nat):Int))
 rw [Cm MY] at gR
 rw [Qk HM.out hn] at gR
 obtain ⟨W2,Y4⟩:∃ x,wr.setCell ⟨w.heap.size,9,none⟩ (.int .i64 ((1+i:Nat):Int))=x:=⟨_,rfl⟩
 rw [Y4] at gR r8
 try rw [Y4]
 have Qp:=cF (n:=n) mV
 clear Y4 z9 f9 hx hb
 refine Zt a8 fun _ a8=> ?_
 have bB:=hf.b 40
 refine ⟨?_⟩
 refine wpList_load_row rfl 184 _ rfl w.heap.size (Fc.l5 s2) 184 _ (0,0) _ gR Tryz.underlying184 rfl (by rw [aD Qp];kernel_rfl) ?_
 refine Fc.L.out ?_
 clear bB
 refine Fc.nL (n:=41) (by simp only [Fc.G,hf.size]) hf.defers (fun a7 y5 hT=> ?_)
 have J8:=Fc.h2 hT 2 40
 simp (decide:=true) only [Fc.G,hf.size,reduceIte,s2] at J8
 replace hf:=y5;clear hT y5 s2
 obtain ⟨s2,gZ⟩:=J8
 refine ⟨?_⟩
 refine wpList_plain rfl fun KL uM=> ?_
 refine wp_store_row 184 _ _ rfl w.heap.size _ (Fc.l5 s2) (Fc.l5 gZ) 184 _ gR (by rw [aD Qp];kernel_rfl) rfl (zK _ _) (uM _ _ ?_)
 refine Fc.L.out ?_
 refine Fc.nil (p5 2 hf ?_)
 clear hf s2 gZ;intro a7 hf s2
 rw [setRow_self _ _ _ 184 (0,0) gR]
 refine Zx a8 (k8 ?_)
 refine aX rfl hf s2 gR Tryz.underlying184 rfl (by rw [aD Qp];kernel_rfl) ⟨?_,r8⟩
 rfl))
theorem jw {x:Nat} (h:x<16):(#[.int .u32 0,.int .u32 498536548,.int .u32 997073096,.int .u32 651767980,.int .u32 1994146192,.int .u32 1802195444,.int .u32 1303535960,.int .u32 1342533948,.int .u32 3988292384,.int .u32 4027552580,.int .u32 3604390888,.int .u32 3412177804,.int .u32 2607071920,.int .u32 2262029012,.int .u32 2685067896,.int .u32 3183342108]:Array Value)[x]? =some (.int .u32 (Crc.T x:Nat)):=by
 rcases x with _ | _ | _ | _ | _ | _ | _ | _ | _ | _ | _ | _ | _ | _ | _ | _ | x<;>first | rfl | omega
theorem Qq {w:World} {g x:Nat} {t:TypeId} (h:w.heap[g]? =some (.cells #[.int .u32 0,.int .u32 498536548,.int .u32 997073096,.int .u32 651767980,.int .u32 1994146192,.int .u32 1802195444,.int .u32 1303535960,.int .u32 1342533948,.int .u32 3988292384,.int .u32 4027552580,.int .u32 3604390888,.int .u32 3412177804,.int .u32 2607071920,.int .u32 2262029012,.int .u32 2685067896,.int .u32 3183342108] t (0,0))) (hx:x<16):w.cell? ⟨g,x,none⟩=some (.int .u32 (Crc.T x:Nat)):=by
 rw [cell_of_row _ _ _ _ _ _ h,jw hx]
theorem jv {x:Nat} (h:x<16):Crc.T x<4294967296:=(by decide:∀ x,x<16->Crc.T x<4294967296) x h
theorem YG (m:Nat):m%256 &&& 15=m%16:=by
 rw [show (15:Nat)=2^4-1 from rfl,Nat.and_two_pow_sub_one_eq_mod]
 omega
theorem Vi (w:World)  : E2 w 139 #[] (.agg #[.int .u32 0,.int .u32 498536548,.int .u32 997073096,.int .u32 651767980,.int .u32 1994146192,.int .u32 1802195444,.int .u32 1303535960,.int .u32 1342533948,.int .u32 3988292384,.int .u32 4027552580,.int .u32 3604390888,.int .u32 3412177804,.int .u32 2607071920,.int .u32 2262029012,.int .u32 2685067896,.int .u32 3183342108]):=by
 refine Zn0 2 Tryz.func139 fun fr hf=> ?_
 refine Ze fun _ a8=>Zr [] hf ?_
 refine p5 0 hf ?_
 clear hf;intro a7 hf s0
 generalize p8:w.alloc (.cells #[.int .u32 0,.int .u32 0,.int .u32 0,.int .u32 0,.int .u32 0,.int .u32 0,.int .u32 0,.int .u32 0,.int .u32 0,.int .u32 0,.int .u32 0,.int .u32 0,.int .u32 0,.int .u32 0,.int .u32 0,.int .u32 0] 222)=W0
 have bK:W0.heap[w.heap.size]? =some (.cells #[.int .u32 0,.int .u32 0,.int .u32 0,.int .u32 0,.int .u32 0,.int .u32 0,.int .u32 0,.int .u32 0,.int .u32 0,.int .u32 0,.int .u32 0,.int .u32 0,.int .u32 0,.int .u32 0,.int .u32 0,.int .u32 0] 222 (0,0)):=by rw [<- p8];exact heap_alloc_new w _
 have o7:Below w.heap.size w W0:=by rw [<- p8];exact (Below.refl _ _).alloc nR _
 clear p8
 refine Zt a8 fun _ a8=> ?_
 have bB:=hf.b 1
 refine Zy ?_
 clear bB
 refine Fc.nL (n:=2) (by simp only [Fc.G,hf.size]) hf.defers (fun a7 y5 hT=> ?_)
 have J8:=Fc.h2 hT 0 1
 simp (decide:=true) only [Fc.G,hf.size,reduceIte,s0] at J8
 replace hf:=y5;clear hT y5 s0
 obtain ⟨s0,s1⟩:=J8
 refine ⟨?_⟩
 refine wpList_plain rfl fun KL uM=> ?_
 refine wp_store_row 222 _ _ rfl w.heap.size _ (Fc.l5 s0) (Fc.l5 s1) 222 _ bK kR rfl kR (uM _ _ ?_)
 refine Fc.L.out ?_
 refine Fc.nil (p5 0 hf ?_)
 clear hf s0 s1;intro a7 hf s0
 have kP:=setRow_heap W0 w.heap.size _ #[.int .u32 0,.int .u32 498536548,.int .u32 997073096,.int .u32 651767980,.int .u32 1994146192,.int .u32 1802195444,.int .u32 1303535960,.int .u32 1342533948,.int .u32 3988292384,.int .u32 4027552580,.int .u32 3604390888,.int .u32 3412177804,.int .u32 2607071920,.int .u32 2262029012,.int .u32 2685067896,.int .u32 3183342108] 222 (0,0) bK
 have p6:=below_setRow o7 nR #[.int .u32 0,.int .u32 498536548,.int .u32 997073096,.int .u32 651767980,.int .u32 1994146192,.int .u32 1802195444,.int .u32 1303535960,.int .u32 1342533948,.int .u32 3988292384,.int .u32 4027552580,.int .u32 3604390888,.int .u32 3412177804,.int .u32 2607071920,.int .u32 2262029012,.int .u32 2685067896,.int .u32 3183342108]
 refine Zx a8 (k8 ?_)
 refine aX rfl hf s0 kP Tryz.underlying222 rfl kR ⟨rfl,p6⟩
theorem y6f (w:World) (n:Nat) (hn:n<4294967296) (hs:List Nat) (hlen:hs.length<=1000000) (b c:Nat) (hc:∀ (i x:Nat),hs[i]? =some x->w.cell? ⟨b,i,none⟩=some (.int .u8 x)) (N6:∀ x∈hs,x<16):E2 w 140 #[.agg #[.int .u32 0,.int .u32 498536548,.int .u32 997073096,.int .u32 651767980,.int .u32 1994146192,.int .u32 1802195444,.int .u32 1303535960,.int .u32 1342533948,.int .u32 3988292384,.int .u32 4027552580,.int .u32 3604390888,.int .u32 3412177804,.int .u32 2607071920,.int .u32 2262029012,.int .u32 2685067896,.int .u32 3183342108],.int .u32 n,.slice (some ⟨b,0,none⟩) hs.length c] (.int .u32 (hs.foldl Crc.Df n:Nat)):=by
 refine dT 27 Tryz.func140 fun fr hf s0 s1 s2=> ?_
 refine Ze fun _ a8=>Zr [] hf ?_
 refine y7 1 2 3 hf ?_
 clear hf s0 s1 s2;intro a7 hf sS
 generalize p8:w.alloc (.cells #[.int .u32 0,.int .u32 498536548,.int .u32 997073096,.int .u32 651767980,.int .u32 1994146192,.int .u32 1802195444,.int .u32 1303535960,.int .u32 1342533948,.int .u32 3988292384,.int .u32 4027552580,.int .u32 3604390888,.int .u32 3412177804,.int .u32 2607071920,.int .u32 2262029012,.int .u32 2685067896,.int .u32 3183342108] 222)=W0
 have bK:W0.heap[w.heap.size]? =some (.cells #[.int .u32 0,.int .u32 498536548,.int .u32 997073096,.int .u32 651767980,.int .u32 1994146192,.int .u32 1802195444,.int .u32 1303535960,.int .u32 1342533948,.int .u32 3988292384,.int .u32 4027552580,.int .u32 3604390888,.int .u32 3412177804,.int .u32 2607071920,.int .u32 2262029012,.int .u32 2685067896,.int .u32 3183342108] 222 (0,0)):=by rw [<- p8];exact heap_alloc_new w _
 have o7:Below w.heap.size w W0:=by rw [<- p8];exact (Below.refl _ _).alloc nR _
 have nB:∀ (i x:Nat),hs[i]? =some x->W0.cell? ⟨b,i,none⟩=some (.int .u8 x):=fun i x hx=>cL o7 (hc i x hx)
 have y6e:=H9 nB;have HS:=H9 N6
 clear p8 nB hc N6
 refine Zs a8 fun _ a8=>Ze fun _ j8=>Zr [9] hf ?_
 refine D2 1 3 9 10 11 hf ?_
 intro a7 hf sS
 refine Zx j8 (wp_block (wp_loop_ghost (fun gk fr wr=>∃ (i m:Nat),gk=hs.length-i/\i<=hs.length/\Fc.Fr 27 fr/\fr.tmps[1]? =some (.int .u32 m)/\fr.tmps[3]? =some (.pointer (some ⟨w.heap.size,0,none⟩))/\fr.tmps[9]? =some (.slice (some ⟨b,0,none⟩) hs.length c)/\fr.tmps[10]? =some (.int .i64 hs.length)/\fr.tmps[11]? =some (.int .i64 i)/\m=(hs.take i).foldl Crc.Df n/\m<4294967296/\wr=W0) (hs.length) ?_ ?_))
 . (
 obtain ⟨s1,s3,s9,u4,D9⟩:=sS
 exact ⟨0,n,rfl,Nat.zero_le _,hf,s1,s3,s9,u4,D9,rfl,hn,rfl⟩)
 . (
 clear hf sS
 rintro gk fr wr ⟨i,m,hk,hi,hf,s1,s3,s9,u4,D9,hm,BW,SQ⟩
 subst wr
 have HK:=H9 hk;have HM:=H9 hm;clear hk hm
 refine Ze fun _ j8=>Zr [] hf ?_
 refine F1 1 3 9 10 11 12 hf ?_
 clear hf s1 s3 s9 u4 D9;intro a7 hf sS
 refine Zs j8 fun _ j8=>Fc.l0 sS.2.2.2.2.2 (fun hq=> ?_) (fun hq=> ?_)
 . (
 have o9:i<hs.length:=qT
 clear hq
 obtain ⟨h,hih⟩:∃ h,hs[i]? =some h:=⟨_,F8 o9⟩
 have c0:=y6e.out i h hih
 have z8l:=HS.out h (T9 hih)
 have A8:(hs.take (i+1)).foldl Crc.Df n=Crc.Df m h:=by rw [List.take_add_one,hih,Option.toList_some,List.foldl_append, <- HM.out];rfl
 obtain ⟨m2,lX⟩:∃ x,Crc.Df m h=x:=⟨_,rfl⟩
 rw [lX] at A8
 have rM:m2<4294967296:=by rw [<- lX];exact Crc.FW _ _ BW z8l
 obtain ⟨x,hx⟩:∃ x,m%16^^^h=x:=⟨_,rfl⟩
 have z8k:x<16:=by rw [<- hx];exact Nat.xor_lt_two_pow (n:=4) oM z8l
 have z0:=Qq bK z8k
 obtain ⟨tx,Wi⟩:∃ t,Crc.T x=t:=⟨_,rfl⟩
 have z8j:tx<4294967296:=by rw [<- Wi];exact jv z8k
 rw [Wi] at z0
 obtain ⟨q16,ju⟩:∃ q,m / 16=q:=⟨_,rfl⟩
 have z8i:q16^^^tx=m2:=by rw [<- lX, <- Wi, <- hx, <- ju];rfl
 obtain ⟨jt,Qr⟩:∃ r,m%256=r:=⟨_,rfl⟩
 obtain ⟨r16,js⟩:∃ r,m%16=r:=⟨_,rfl⟩
 have hand:jt &&& 15=r16:=by rw [<- Qr, <- js];exact YG m
 rw [js] at hx
 have R1:jt<256:=oM
 have zX:r16<16:=oM
 have L4:=H9 A8;have HX:=H9 hx;have HQ:=H9 ju;have y6c:=H9 z8i;have HR:=H9 Qr;have HAND:=H9 hand;clear A8 hx ju z8i Qr js hand lX Wi hih
 refine wp_skip (Zs j8 fun _ j8=>wp_block (Ze fun _ l8=>Zr [13,14] hf ?_))
 refine F1 1 3 8 9 10 11 hf ?_
 intro a7 hf sS
 refine Zx l8 (rg ?_)
 have bB:=hf.eW 15 16 17 18 19 20 21 22 23 24
 refine Zy ?_
 refine fp fun K Z=> ?_
 go_simp
 rw [show (m:Int) / 16=((m / 16:Nat):Int) by omega,HQ.out]
 apply Z.out;clear Z K
 refine Zy ?_
 refine fp fun K Z=> ?_
 go_simp
 rw [Qm,HR.out]
 apply Z.out;clear Z K
 refine fp fun K Z=> ?_
 go_simp
 rw [show (15:Int)=((15:Nat):Int) from rfl,u8_and_nat jt 15 R1 dC,HAND.out]
 apply Z.out;clear Z K
 refine Zy ?_
 refine fp fun K Z=> ?_
 go_simp
 rw [u8_xor_nat r16 h oM oM,HX.out]
 apply Z.out;clear Z K
 iterate 2 refine Zy ?_
 refine fp fun K Z=> ?_
 go_simp
 rw [u32_xor_nat q16 tx (by have:=HQ.out;omega) z8j,y6c.out]
 apply Z.out;clear Z K
 refine Zy ?_
 refine Fc.nil (D2 1 3 9 10 11 hf ?_)
 intro a7 hf sS
 refine Fc.j9 (Zx j8 (Zr [25] hf ?_))
 refine D2 1 3 9 10 11 hf ?_
 intro a7 hf sS
 refine Fc.j7 ?_
 obtain ⟨s1,s3,s9,u4,D9⟩:=sS
 exact ⟨_,by have:=HK.out;omega,i+1,m2,rfl,oM,hf,s1,s3,s9,u4,by rw [D9];rfl,L4.out.symm,rM,rfl⟩)
 . (
 have C3:i=hs.length:=qF
 have XN:m=hs.foldl Crc.Df n:=by have h9:=HM.out;rwa [C3,List.take_length] at h9
 have ui:=H9 XN;clear XN C3 hq
 refine Zo ?_
 refine Zs a8 fun _ a8=>Zr [26] hf ?_
 refine p5 6 hf ?_
 intro a7 hf s6
 refine Zx a8 (k8 ?_)
 exact Fc.o6 rfl hf s6 ⟨by rw [ui.out],o7⟩))
theorem Qs {n:Nat} (h:n<4294967296):4294967295^^^n=4294967295-n:=by
 have h1:(BitVec.allOnes 32^^^BitVec.ofNat 32 n).toNat=4294967295^^^n:=by
  rw [BitVec.toNat_xor,BitVec.toNat_allOnes,BitVec.toNat_ofNat,Nat.mod_eq_of_lt h]
 have h2:(~~~ (BitVec.ofNat 32 n)).toNat=4294967295-n:=by
  rw [BitVec.toNat_not,BitVec.toNat_ofNat,Nat.mod_eq_of_lt h]
 rw [<- h1, <- h2,BitVec.allOnes_xor]
theorem YH {n:Nat} (h:n<4294967296):bits .xor .u32 (if IntKind.u32.signed=true then -1 else IntKind.u32.max) (n:Int)=((4294967295-n:Nat):Int):=by
 have e:(if IntKind.u32.signed=true then (-1:Int) else IntKind.u32.max)=((4294967295:Nat):Int):=rfl
 rw [e,u32_xor_nat 4294967295 n dC h,Qs h]
def jr (x y:Nat):Sb.Pr:=fun v w=>∃ b,v= .slice (some ⟨b,0,none⟩) 2 2/\∀ (i q:Nat),([x,y]:List Nat)[i]? =some q->w.cell? ⟨b,i,none⟩=some (.int .u8 q)
theorem jr.u5 (x y:Nat):Sb.Stable (jr x y):=fun v w w' hb ⟨b,h1,h2⟩=>⟨b,h1,fun i q h=>cL hb (h2 i q h)⟩
theorem jr.new (w:World) (x y:Nat) (t:TypeId):jr x y (.slice (some ⟨w.heap.size,0,none⟩) 2 2) (w.alloc (.cells #[.int .u8 x,.int .u8 y] t)):=⟨_,rfl,fun i q h=>by
 rw [cell_of_row _ _ i _ t (0,0) (heap_alloc_new w _)]
 rcases i with _ | _ | i
 ·injection h with h;rw [<- h];rfl
 ·injection h with h;rw [<- h];rfl
 ·simp at h⟩
theorem jq (w:World) (n:Nat) (hn:n<4294967296) (s:ByteArray) (C8:s.size<=1000000000):E2 w 102 #[.int .u32 n,.string s] (.int .u32 (4294967295-Crc.run (4294967295-n) (wl s):Nat)):=by
 refine Z6 31 Tryz.func102 fun fr hf s0 s1=> ?_
 have uQ:∀ (i:Nat) (h:i<s.size),s[i].toNat=at_ s i:=fun i h=>(aY h).symm
 refine Ze fun _ a8=>Zr [] hf ?_
 refine y4 0 1 hf ?_
 clear hf s0 s1;intro a7 hf sS
 refine Zt a8 fun _ a8=> ?_
 have bB:=hf.B2 8 5
 refine Zc (Vi w) ?_;rintro e W0 ⟨rfl,o7⟩
 refine Zv ?_
 refine Zy ?_
 obtain ⟨s0,s1⟩:=sS
 clear bB
 refine Fc.nL (n:=31) (by simp only [Fc.G,hf.size]) hf.defers (fun a7 y5 hT=> ?_)
 have J8:=Fc.h4 hT 0 1 5 8
 simp (decide:=true) only [Fc.G,hf.size,reduceIte,s0,s1] at J8
 replace hf:=y5;clear hT y5 s0 s1
 obtain ⟨s0,s1,s5,s8⟩:=J8
 refine ⟨?_⟩
 refine wpList_plain rfl fun KL uM=> ?_
 refine wp_store_row 222 _ _ rfl W0.heap.size _ (Fc.l5 s5) (Fc.l5 s8) 222 _ (heap_alloc_new W0 _) kR rfl kR (uM _ _ ?_)
 rw [World.setRow_alloc_new]
 refine Fc.L.out ?_
 refine Fc.nil (y7 0 1 5 hf ?_)
 clear hf s0 s1 s5 s8;intro a7 hf sS
 generalize P2:W0.alloc (.cells #[.int .u32 0,.int .u32 498536548,.int .u32 997073096,.int .u32 651767980,.int .u32 1994146192,.int .u32 1802195444,.int .u32 1303535960,.int .u32 1342533948,.int .u32 3988292384,.int .u32 4027552580,.int .u32 3604390888,.int .u32 3412177804,.int .u32 2607071920,.int .u32 2262029012,.int .u32 2685067896,.int .u32 3183342108] 222)=W1
 have kP:W1.heap[W0.heap.size]? =some (.cells #[.int .u32 0,.int .u32 498536548,.int .u32 997073096,.int .u32 651767980,.int .u32 1994146192,.int .u32 1802195444,.int .u32 1303535960,.int .u32 1342533948,.int .u32 3988292384,.int .u32 4027552580,.int .u32 3604390888,.int .u32 3412177804,.int .u32 2607071920,.int .u32 2262029012,.int .u32 2685067896,.int .u32 3183342108] 222 (0,0)):=by rw [<- P2];exact heap_alloc_new W0 _
 have p6:Below w.heap.size w W1:=o7.trans (by rw [<- P2];exact (Below.refl _ _).alloc o7.size _)
 have HX1:=H9 kP;clear P2 o7 kP
 refine Zt a8 fun _ a8=> ?_
 have bB:=hf.B2 9 10
 refine Zy ?_
 refine fp fun K Z=> ?_
 go_simp
 rw [YH hn]
 apply Z.out;clear Z K
 refine Zy ?_
 refine Fc.nil (y7 1 5 6 hf ?_)
 intro a7 hf sS
 refine Zs a8 fun _ a8=>Ze fun _ j8=>Zr [11] hf ?_
 refine D2 1 5 6 12 13 hf ?_
 intro a7 hf sS
 refine Zx j8 (wp_block (wp_loop_ghost (fun gk fr wr=>∃ (i m:Nat),gk=s.size-i/\i<=s.size/\Fc.Fr 31 fr/\fr.tmps[1]? =some (.string s)/\fr.tmps[5]? =some (.pointer (some ⟨W0.heap.size,0,none⟩))/\fr.tmps[6]? =some (.int .u32 m)/\fr.tmps[12]? =some (.int .i64 s.size)/\fr.tmps[13]? =some (.int .i64 i)/\m=Crc.run (4294967295-n) ((wl s).take i)/\m<4294967296/\Below W1.heap.size W1 wr) (s.size) ?_ ?_))
 . (
 obtain ⟨s1,s5,s6,F7,D1⟩:=sS
 exact ⟨0,_,rfl,Nat.zero_le _,hf,s1,s5,s6,F7,D1,rfl,oM,Below.refl _ _⟩)
 . (
 clear hf sS
 rintro gk fr wr ⟨i,m,hk,hi,hf,s1,s5,s6,F7,D1,hm,BW,hb⟩
 have HK:=H9 hk;have HM:=H9 hm;clear hk hm
 refine Ze fun _ j8=>Zr [] hf ?_
 refine F1 1 5 6 12 13 14 hf ?_
 clear hf s1 s5 s6 F7 D1;intro a7 hf sS
 refine Zs j8 fun _ j8=>Fc.l0 sS.2.2.2.2.2 (fun hq=> ?_) (fun hq=> ?_)
 . (
 have o9:i<s.size:=qT
 clear hq
 obtain ⟨c,hc⟩:∃ c,at_ s i=c:=⟨_,rfl⟩
 have Ty:c<256:=by rw [<- hc];exact qM s i
 have A8:Crc.run (4294967295-n) ((wl s).take (i+1))=Crc.Df (Crc.Df m (c%16)) (c / 16):=by rw [List.take_add_one,aZ o9,Option.toList_some,hc];unfold Crc.run at *;rw [List.foldl_append, <- HM.out];exact Crc.Qh m c Ty
 obtain ⟨m2,lX⟩:∃ x,Crc.Df (Crc.Df m (c%16)) (c / 16)=x:=⟨_,rfl⟩
 rw [lX] at A8
 have rM:m2<4294967296:=by rw [<- lX];exact Crc.FW _ _ (Crc.FW _ _ BW oM) oM
 obtain ⟨x,hx⟩:∃ x,c%16=x:=⟨_,rfl⟩
 obtain ⟨y,hy⟩:∃ y,c / 16=y:=⟨_,rfl⟩
 have mf:x<16/\y<16:=oM
 have YJ:([x,y]:List Nat).foldl Crc.Df m=m2:=by rw [<- lX,hx,hy];rfl
 have hand:c &&& 15=x:=by rw [<- hx, <- YG,Nat.mod_eq_of_lt Ty]
 have N6:∀ q∈([x,y]:List Nat),q<16:=by intro q hq;simp at hq;rcases hq with rfl | rfl<;>omega
 have HC:=H9 hc;have HX:=H9 hx;have HY:=H9 hy;have HF:=H9 YJ;have HA:=H9 hand;have SY:=H9 N6;have L4:=H9 A8;clear hc hx hy YJ hand N6 A8 lX
 have hxr:=(hb.block _ (j5 HX1.out)).trans HX1.out
 have HXR:=H9 hxr;clear hxr
 refine wp_skip (Zs j8 fun _ j8=>wp_block (Ze fun _ l8=>Zr [15] hf ?_))
 refine F1 1 5 6 7 12 13 hf ?_
 intro a7 hf sS
 refine Zx l8 ?_
 obtain ⟨s1,s5,s6,s7,F7,D1⟩:=sS
 refine Sb.tb 31 fun a6=> ?_
 apply Sb.tq 0 _ hf a6
 . (
 intro a7 w1 hh hd hk K Z
 have s5:=Sb.O hh s5
 clear hd
 exact wp_load_row 222 _ rfl W0.heap.size (Fc.l5 s5) 222 _ (0,0) _ ((hh.ext.block _ (j5 HXR.out)).trans HXR.out) Tryz.underlying222 rfl kR (Z.out _ rfl _ _ (Below.refl _ _) rfl))
 refine Sb.qq (k:=1) (j:=12) s6 hf.size a6.out rfl rfl rfl (.inl rfl) [] kR kR ?_
 refine Sb.mO 2 s1 hf a6 ?_
 refine Sb.mO 3 s7 hf a6 ?_
 apply Sb.tq 4 _ hf a6
 . (
 intro a7 w1 hh hd hk K Z
 have Q0:=Sb.v 2 1 hd hk []
 have K9:=Sb.v 3 0 hd hk []
 clear hd
 go_simp
 try rw [HC.out]
 exact Sb.k Z)
 apply Sb.tq 5 _ hf a6
 . (
 intro a7 w1 hh hd hk K Z
 have N5:=Sb.v 4 0 hd hk []
 clear hd
 go_simp
 rw [show (15:Int)=((15:Nat):Int) from rfl,u8_and_nat c 15 Ty dC,HA.out]
 exact Sb.k Z)
 refine Sb.mO 6 s1 hf a6 ?_
 refine Sb.mO 7 s7 hf a6 ?_
 apply Sb.tq 8 _ hf a6
 . (
 intro a7 w1 hh hd hk K Z
 have X6:=Sb.v 6 1 hd hk []
 have Q3:=Sb.v 7 0 hd hk []
 clear hd
 go_simp
 try rw [HC.out]
 exact Sb.k Z)
 apply Sb.tq 9 _ hf a6
 . (
 intro a7 w1 hh hd hk K Z
 have dL:=Sb.v 8 0 hd hk []
 clear hd
 go_simp
 rw [show (c:Int) / 16=((c / 16:Nat):Int) by omega,HY.out]
 exact Sb.k Z)
 refine Sb.E1 (k:=10) (n:=31) (jr x y) hf.size a6.out rfl (jr.u5 x y) ?_ ?_
 . (
 intro a7 w1 hh hd hk K Z
 refine Sb.pl ?_
 have S9:=Sb.v 5 4 hd hk []
 have Z9:=Sb.v 9 0 hd hk []
 clear hd
 go_simp
 exact Z.out _ rfl _ _ ((Below.refl _ _).alloc nR _) (jr.new _ _ _ _))
 apply Sb.tq 11 _ hf a6
 . (
 intro a7 w1 hh hd hk K Z
 have Y5:=Sb.v 0 10 hd hk []
 have G7:=Sb.v 1 9 hd hk []
 obtain ⟨x26,aG,y6b⟩:=Sb.use (j:=10) (m:=0) hd hk rfl [] kR rfl rfl rfl
 obtain ⟨Sv,rfl,y6a⟩:=y6b
 clear hd
 go_simp
 go_at_call 140;refine (y6f w1 m BW [x,y] sP Sv 2 y6a SY.out).mono ?_;rintro e w2 ⟨rfl,hb⟩
 rw [HF.out]
 exact Z.out _ rfl _ _ hb rfl)
 refine Sb.mN 12 11 0 hf a6 [] ?_
 refine Sb.E hf a6 (fun _ _ h g=>ad (Sb.O h s1) (ad (Sb.O h s5) (ad (Sb.f 12 0 g) (ad (Sb.O h F7) (Sb.O h D1))))) ?_
 clear hf a6 s1 s5 s6 s7 F7 D1;intro a7 w1 hf hx sS
 refine Fc.j9 (Zx j8 (Zr [28] hf ?_))
 refine D2 1 5 6 12 13 hf ?_
 intro a7 hf sS
 refine Fc.j7 ?_
 obtain ⟨s1,s5,s6,F7,D1⟩:=sS
 exact ⟨_,by have:=HK.out;omega,i+1,m2,rfl,oM,hf,s1,s5,s6,F7,by rw [D1];rfl,L4.out.symm,rM,hb.trans (hx.mono hb.size)⟩)
 . (
 have C3:i=s.size:=qF
 have XN:m=Crc.run (4294967295-n) (wl s):=by have h9:=HM.out;rwa [C3,List.take_of_length_le (by rw [o5];omega)] at h9
 have ui:=H9 XN;clear XN C3 hq
 refine Zo ?_
 refine Zt a8 fun _ a8=> ?_
 have bB:=hf.B2 29 30
 refine Zy ?_
 refine fp fun K Z=> ?_
 go_simp
 rw [YH BW]
 apply Z.out;clear Z K
 refine Zy ?_
 refine Fc.nil (p5 4 hf ?_)
 intro a7 hf s4
 refine Zx a8 (k8 ?_)
 exact Fc.o6 rfl hf s4 ⟨by rw [ui.out],p6.trans (hb.mono p6.size)⟩))
theorem z8h (w:World) (s:ByteArray) (C8:s.size<=1000000000):E2 w 63 #[.string s] (.int .u32 (Crc.sum (wl s):Nat)):=by
 refine L7 5 Tryz.func63 fun fr hf s0=> ?_
 refine Ze fun _ a8=>Zr [] hf ?_
 refine p5 0 hf ?_
 clear hf s0;intro a7 hf s0
 refine Zt a8 fun _ a8=> ?_
 have bB:=hf.B2 3 4
 refine Zy ?_
 refine Zc (jq w 0 dC s C8) ?_;rintro e w1 ⟨rfl,p6⟩
 refine Zv ?_
 refine Zy ?_
 refine Fc.nil (p5 2 hf ?_)
 clear hf s0 bB;intro a7 hf s2
 refine Zx a8 (k8 ?_)
 exact Fc.o6 rfl hf s2 ⟨rfl,p6⟩
theorem Gn {o:Oper} {a:Act} {w:World} {K:Act->World->Prop} {Q:Exit->Act->World->Prop} (x:Operand) (s:ByteArray) (ho:o.op= .convert 9 31 x) (hx:a.eval x= .string s) (hs:s.size<=maxLen)
  (h:∀ v w',OM w' w.heap.size v (wl s)->Below w.heap.size w w'->K (a.put o.dst v) w'):Oper.wp Tryz.prog o a w K Q:=by
 obtain ⟨v,w',hr,yD,hb⟩:=LP w s hs
 unfold Oper.wp execOp
 simp only [ho,hx,Sem.run_bind,hr,Result.andThen_ok,Sem.run_pure]
 exact h v w' yD hb
theorem LS {n i:Nat} (h:i<4):(Crc.four n).take (i+1)=(Crc.four n).take i++[n / 256^i%256]:=by
 rcases i with _ | _ | _ | _ | i<;>first | rfl | omega | (simp [Crc.four])
theorem bP (s:ByteArray) (i j:Nat):wl (s.extract i j)=((wl s).take j).drop i:=by
 unfold wl
 rw [ByteArray.data_extract,Array.toList_extract, <- List.map_take, <- List.map_drop,List.drop_take]
theorem jo {s:ByteArray} {n:Nat}:s.extract 0 n=bl ((wl s).take n):=by
 refine cK ?_
 rw [bP,aL (fun x hx=>cX _ x (List.mem_of_mem_take hx)),List.drop_zero]
theorem Vj {a b:ByteArray} (h:(!(a.toList==b.toList))=false):a=b:=by
 have h1:a.toList=b.toList:=by simpa using h
 refine cK ?_
 unfold wl
 rw [<- ByteArray.toList_eq, <- ByteArray.toList_eq,h1]
theorem iX (n:Nat):Small (Crc.four n):=by
 intro x hx
 simp [Crc.four] at hx
 rcases hx with rfl | rfl | rfl | rfl<;>omega
theorem FX {l:List Nat} (h:Small l):Small (Crc.N8 l):=h.append (iX _)
def openR:Option (List Nat)->ByteArray×Bool
 | none=>(⟨#[]⟩,false)
 | some l=>(bl l,true)
theorem FY {l:List Nat} (h:l.length<4):Crc.opened l=none:=by
 unfold Crc.opened
 rw [if_neg (by omega)]
theorem Qt {l:List Nat} {m:Nat} (h:l.length=m+4) (hn:¬ Crc.N8 (l.take m)=l):Crc.opened l=none:=by
 unfold Crc.opened
 rw [h,Nat.add_sub_cancel,if_neg (fun h=>hn h.2)]
theorem Qu {l:List Nat} {m:Nat} (h:l.length=m+4) (hn:Crc.N8 (l.take m)=l):Crc.opened l=some (l.take m):=by
 unfold Crc.opened
 rw [h,Nat.add_sub_cancel,if_pos ⟨oM,hn⟩]
theorem Qv (w:World) (s:ByteArray) (x1g:s.size<=900000000):E2 w 37 #[.string s] (.string (bl (Crc.N8 (wl s)))):=by
 have C8:s.size<=1000000000:=oM
 refine L7 24 Tryz.func37 fun fr hf s0=> ?_
 refine Ze fun _ a8=>Zr [] hf ?_
 refine p5 0 hf ?_
 clear hf s0;intro a7 hf s0
 refine Zt a8 fun _ a8=> ?_
 have bB:=hf.B2 6 7
 refine Zy ?_
 clear bB
 refine Fc.nL (n:=24) (by simp only [Fc.G,hf.size]) hf.defers (fun a7 y5 hT=> ?_)
 have J8:=Fc.h2 hT 0 6
 simp (decide:=true) only [Fc.G,hf.size,reduceIte,s0] at J8
 replace hf:=y5;clear hT y5 s0
 obtain ⟨s0,s6⟩:=J8
 have bB:=hf.b 7
 refine ⟨?_⟩
 refine wpList_plain rfl fun KL uM=> ?_
 refine Gn _ s rfl (Fc.l5 s6) (by unfold maxLen;omega) (fun v1 w1 z8g p6=>uM _ _ ?_)
 refine Fc.L.out ?_
 refine Zy ?_
 refine Fc.nil (y4 0 3 hf ?_)
 clear hf s0 s6 bB;intro a7 hf sS
 have y5z:OX w1 w.heap.size v1 (wl s):= .inr z8g
 clear z8g
 refine Zt a8 fun _ a8=> ?_
 have bB:=hf.B2 8 9
 refine Zy ?_
 refine Zc (z8h w1 s C8) ?_;rintro e w2 ⟨rfl,r8⟩
 have y5y:=y5z.later r8
 have BZ:=p6.trans (r8.mono p6.size)
 obtain ⟨n,hn⟩:∃ n,Crc.sum (wl s)=n:=⟨_,rfl⟩
 have x1f:n<4294967296:=by rw [<- hn];exact Crc.rT _
 rw [hn]
 have HN:=H9 hn;clear hn
 refine Zv ?_
 refine Zy ?_
 refine Fc.nil (y4 3 4 hf ?_)
 intro a7 hf sS
 refine Zs a8 fun _ a8=>Ze fun _ j8=>Zr [] hf ?_
 refine y7 3 4 10 hf ?_
 intro a7 hf sS
 refine Zx j8 (wp_block (wp_loop_ghost (fun gk fr wr=>∃ (i:Nat) (V:Value),gk=4-i/\i<=4/\Fc.Fr 24 fr/\fr.tmps[3]? =some V/\fr.tmps[4]? =some (.int .u32 n)/\fr.tmps[10]? =some (.int .i64 i)/\OX wr w.heap.size V (wl s++(Crc.four n).take i)/\Below w.heap.size w wr) (4) ?_ ?_))
 . (
 obtain ⟨s3,s4,u4⟩:=sS
 exact ⟨0,_,rfl,oM,hf,s3,s4,u4,by rw [List.take_zero,List.append_nil];exact y5y,BZ⟩)
 . (
 clear hf sS
 rintro gk fr wr ⟨i,V,hk,hi,hf,s3,s4,u4,nv,hb⟩
 have HK:=H9 hk;clear hk
 refine Ze fun _ j8=>Zr [] hf ?_
 refine z8 3 4 10 11 hf ?_
 clear hf s3 s4 u4;intro a7 hf sS
 refine Zs j8 fun _ j8=>Fc.l0 sS.2.2.2 (fun hq=> ?_) (fun hq=> ?_)
 . (
 have o9:i<4:=qT
 clear hq
 obtain ⟨d,hd⟩:∃ d,n / 256^i=d:=⟨_,rfl⟩
 obtain ⟨x8,Dg⟩:∃ x,d%256=x:=⟨_,rfl⟩
 have A8:(Crc.four n).take (i+1)=(Crc.four n).take i++[x8]:=by rw [<- Dg, <- hd];exact LS o9
 have HD:=H9 hd;have HX:=H9 Dg;have L4:=H9 A8;clear hd Dg A8
 have MY:(wl s++(Crc.four n).take i).length<=1000000000:=by rw [List.length_append,o5,List.length_take];omega
 refine wp_skip (Zs j8 fun _ j8=>wp_block (Ze fun _ l8=>Zr [12] hf ?_))
 refine z8 3 4 5 10 hf ?_
 intro a7 hf sS
 refine Zx l8 (rg ?_)
 have bB:=hf.B8 13 14 15 16 17 18 19 20
 iterate 4 refine Zy ?_
 refine fp fun K Z=> ?_
 go_simp
 rw [Ht,HD.out]
 apply Z.out;clear Z K
 refine fp fun K Z=> ?_
 go_simp
 rw [Qm,HX.out]
 apply Z.out;clear Z K
 refine Zy ?_
 obtain ⟨s3,s4,s5,u4⟩:=sS
 clear bB
 refine Fc.nL (n:=24) (by simp only [Fc.G,hf.size]) hf.defers (fun a7 y5 hT=> ?_)
 have J8:=Fc.h5 hT 3 4 10 13 19
 simp (decide:=true) only [Fc.G,hf.size,reduceIte,s3,s4,u4] at J8
 replace hf:=y5;clear hT y5 s3 s4 s5 u4
 obtain ⟨s3,s4,u4,D1,K9⟩:=J8
 have bB:=hf.b 20
 refine ⟨?_⟩
 refine wpList_plain rfl fun KL uM=> ?_
 refine Vd _ _ rfl w.heap.size V _ (Fc.l5 D1) (nv.later ((Below.refl _ _).alloc nR _)) wr.heap.size x8 (Fc.l5 K9) (by rw [n5 0 (heap_alloc_new wr _)];rfl) MY (by have:=hb.size;simp;omega) (fun v8 w8 z8f vi=>uM _ _ ?_)
 refine Fc.L.out ?_
 refine Zy ?_
 refine Fc.nil (y7 3 4 10 hf ?_)
 clear hf s3 s4 u4 D1 K9 bB;intro a7 hf sS
 have aA:=(hb.alloc hb.size _).grown vi (by have:=hb.size;simp;omega) (fun kk aB=>(nv.lt kk aB).1)
 rw [List.append_assoc, <- L4.out] at z8f
 refine Fc.j9 (Zx j8 (Zr [21] hf ?_))
 refine y7 3 4 10 hf ?_
 intro a7 hf sS
 refine Fc.j7 ?_
 obtain ⟨s3,s4,u4⟩:=sS
 exact ⟨_,by have:=HK.out;omega,i+1,v8,rfl,oM,hf,s3,s4,by rw [u4];rfl,z8f,aA⟩)
 . (
 have C3:i=4:=qF
 subst C3
 rw [show (Crc.four n).take 4=Crc.four n from rfl] at nv
 have iU:=OX.conv nv
 have D0:wl s++Crc.four n=Crc.N8 (wl s):=by unfold Crc.N8;rw [HN.out]
 rw [D0] at iU
 clear hq D0
 refine Zo ?_
 refine Zs a8 fun _ a8=>Zr [22,23] hf ?_
 refine p5 2 hf ?_
 intro a7 hf s2
 refine Zx a8 (k8 ?_)
 exact Fc.o6 rfl hf s2 ⟨rfl,hb⟩))
theorem FZ (w:World) (s:ByteArray) (C8:s.size<=900000000):E2 w 31 #[.string s] (.tuple #[.string (openR (Crc.opened (wl s))).1,.bool (openR (Crc.opened (wl s))).2]):=by
 refine L7 21 Tryz.func31 fun fr hf s0=> ?_
 refine Ze fun _ a8=>Zr [] hf ?_
 refine p5 0 hf ?_
 clear hf s0;intro a7 hf s0
 refine Zx a8 ?_
 rcases Nat.lt_or_ge s.size 4 with h4 | h4
 . (
 have q1:decide ((s.size:Int)-4<0)=true:=decide_eq_true oM
 refine Ze fun _ a8=>Zr [5,6,7] hf ?_
 refine y4 0 4 hf ?_
 clear hf s0;intro a7 hf sS
 refine Zs a8 fun _ a8=>Ze fun _ j8=> ?_
 have qs:=q1
 refine Zr [8,9,10,11,12,13,14,15,16] hf ?_
 refine y7 0 4 17 hf ?_
 clear hf sS qs;intro a7 hf sS
 refine Zx j8 (Fc.l7 sS.2.2 ?_)
 refine Ze fun _ j8=>Zr [] hf ?_
 refine y4 2 3 hf ?_
 intro a7 hf sS
 refine Zx j8 (k8 ?_)
 refine Fc.H6 rfl hf sS.1 sS.2 ⟨?_,Below.refl _ _⟩
 rw [FY (by rw [o5];exact h4)]
 rfl)
 . (
 obtain ⟨m,hm⟩:∃ m,s.size=m+4:=⟨s.size-4,oM⟩
 have iQ:(s.size:Int)-4=(m:Int):=oM
 have q1:decide ((m:Int)<0)=false:=decide_eq_false oM
 have X3:s.extract 0 m=bl ((wl s).take m):=jo
 obtain ⟨p,hp⟩:∃ p,bl ((wl s).take m)=p:=⟨_,rfl⟩
 have hpw:wl p=(wl s).take m:=by rw [<- hp];exact aL (fun x hx=>cX s x (List.mem_of_mem_take hx))
 have T8:p.size<=900000000:=by rw [<- o5 p,hpw,List.length_take];omega
 have HML:=H9 iQ;have HM:=H9 hm;have Da:=H9 (X3.trans hp);have HPW:=H9 hpw;clear iQ X3 hp hpw hm
 refine Ze fun _ a8=>rg ?_
 have bB:=hf.B3 5 6 7
 iterate 2 refine Zy ?_
 refine fp fun K Z=> ?_
 go_simp
 try simp (disch:=omega) only [Fc.W]
 try simp (disch:=omega) only [Fc.W]
 rw [HML.out]
 apply Z.out;clear Z K
 refine Zy ?_
 refine Fc.nil (y4 0 4 hf ?_)
 clear hf s0 bB;intro a7 hf sS
 refine Zs a8 fun _ a8=>Ze fun _ j8=> ?_
 have qs:=q1
 refine rg ?_
 have bB:=hf.B9 8 9 10 11 12 13 14 15 16
 iterate 5 refine Zy ?_
 refine og 2 10 false ?_ fun K Z=> ?_
 . (
 simp (decide:=true) only [Fc.G,reduceIte,hf.size,q1,Fc.N])
 go_simp
 try rw [if_pos (by have:=HM.out;omega)]
 try rw [Oper.upon_value]
 rw [Da.out]
 apply Z.out;clear Z K
 refine Zd (Qv w p T8) ?_;rintro e w1 ⟨rfl,p6⟩
 rw [HPW.out]
 generalize Cn:bl (Crc.N8 ((wl s).take m))=q
 have HQ:=H9 Cn;clear Cn
 refine Zv ?_
 iterate 3 refine Zy ?_
 refine Fc.nil (y7 0 4 17 hf ?_)
 clear hf sS bB qs;intro a7 hf sS
 refine Zx j8 (Fc.l0 sS.2.2 (fun hq=> ?_) (fun hq=> ?_))
 . (
 have F0:¬ (Crc.N8 ((wl s).take m)=wl s):=fun e=>by have h9:=HQ.out;rw [e,Bi] at h9;rw [h9] at hq;simp at hq
 have MS:=H9 F0;clear F0 hq
 refine Ze fun _ j8=>Zr [] hf ?_
 refine y4 2 3 hf ?_
 intro a7 hf sS
 refine Zx j8 (k8 ?_)
 refine Fc.H6 rfl hf sS.1 sS.2 ⟨?_,p6⟩
 rw [Qt (m:=m) (by rw [o5];exact HM.out) MS.out]
 rfl)
 . (
 have heq:Crc.N8 ((wl s).take m)=wl s:=by have h8:q=s:=Vj hq;have h9:=HQ.out;rw [h8] at h9;have h7:=congrArg wl h9;rw [aL (FX (fun x hx=>cX s x (List.mem_of_mem_take hx)))] at h7;exact h7
 have HEQ:=H9 heq;clear heq hq
 refine wp_skip (Zt a8 fun _ a8=> ?_)
 have bB:=hf.B3 18 19 20
 iterate 2 refine Zy ?_
 refine fp fun K Z=> ?_
 go_simp
 try rw [if_pos (by have:=HM.out;omega)]
 try rw [Oper.upon_value]
 rw [Da.out]
 apply Z.out;clear Z K
 iterate 2 refine Zy ?_
 refine Fc.nil (y4 2 3 hf ?_)
 intro a7 hf sS
 refine Zx a8 (k8 ?_)
 refine Fc.H6 rfl hf sS.1 sS.2 ⟨?_,p6⟩
 rw [Qu (m:=m) (by rw [o5];exact HM.out) HEQ.out]
 simp only [openR]
 rw [<- HPW.out,Bi]))
theorem jn (W:World) (g k:Nat) (hk:k<=9):(Instr.sliceAt 182 (.pointer (some ⟨g,0,none⟩)) none (some (.int .i64 (k:Int))) none).run Tryz.prog W= .ok (.slice (some ⟨g,0,none⟩) k 9) W:=by
 have ha:Tryz.prog.arrayLen 182=9:=kR
 have hs:∀ W:World,(sizeOf (Tryz.prog.elem 182)).run Tryz.prog W= .ok 1 W:=fun W=>by kernel_rfl
 rw [run_sliceAt_array_h (P:=Tryz.prog) W 182 ⟨g,0,none⟩ kR .i64 (k:Int) oM (by rw [ha];omega),hs,ha]
 simp [slicedAt,Result.andThen,Addr.add]
theorem Vk {l:List Nat} (h:l.length=9):∃ x0 x1 x2 x3 x4 x5 x6 x7 x8,l=[x0,x1,x2,x3,x4,x5,x6,x7,x8]:=by
 match l,h with
 | [x0,x1,x2,x3,x4,x5,x6,x7,x8],_=>exact ⟨x0,x1,x2,x3,x4,x5,x6,x7,x8,rfl⟩
theorem Qw {x0 x1 x2 x3 x4 x5 x6 x7 x8 k:Nat}:(lcs [x0,x1,x2,x3,x4,x5,x6,x7,x8] k).toArray= #[.int .u8 x0,.int .u8 x1,.int .u8 x2,.int .u8 x3,.int .u8 x4,.int .u8 x5,.int .u8 x6,.int .u8 x7,.int .u8 x8,.int .i64 k]:=rfl
theorem Qx {n i:Nat} (h:i<(r7 n).length):(jL n)[i]? =(r7 n)[i]? :=by
 unfold jL
 rw [List.getElem?_append_left h]
theorem LU {w:World} {g n j:Nat} {u:Value} {t:TypeId} (h:w.heap[g]? =some (.cells (lcs (jL n) (r7 n).length).toArray t (0,0))) (hu:(lZ (r7 n))[j]? =some u):w.cell? ⟨g,j,none⟩=some u:=by
 have hj:j<(r7 n).length:=by have:=(H2 hu).1;rwa [eF] at this
 unfold lZ at hu
 rw [List.getElem?_map,F8 hj] at hu
 injection hu with hu
 rw [<- hu]
 exact zL h (by rw [Qx hj,F8 hj])
theorem jM:∀ (l:List Nat),(∀ n∈l,n<q9)->(G3 l).length<=9*l.length
 | [],_=>by simp [G3]
 | x::l,h=>by
  have h1:=jM l (fun n hn=>h n (List.mem_cons_of_mem _ hn))
  have h2:=M0 (h x (List.mem_cons_self ..))
  have e:G3 (x::l)=r7 x++G3 l:=by simp [G3]
  rw [e,List.length_append,List.length_cons]
  omega
theorem zM (l:List Nat) (i:Nat) (h:∀ n∈l,n<q9):(G3 (l.take i)).length<=9*l.length:=by
 have:=jM (l.take i) (fun n hn=>h n (List.mem_of_mem_take hn))
 have h2:(l.take i).length<=l.length:=sO
 omega
theorem YK (n:Nat) (hn:n<q9) (w:World):E2 w 101 #[.int .u64 n] (.agg (lcs (jL n) (r7 n).length).toArray):=by
 rcases Nat.lt_or_ge n 248 with h | h
 ·exact LR w n h
 ·exact Vg w n h hn
theorem jm (w:World) (n:Nat) (hn:n<q9):E2 w 137 #[.int .u64 n] (.int .i64 (r7 n).length):=by
 refine L7 6 Tryz.func137 fun fr hf s0=> ?_
 refine Ze fun _ a8=>Zr [] hf ?_
 refine p5 0 hf ?_
 clear hf s0;intro a7 hf s0
 refine Zt a8 fun _ a8=> ?_
 have bB:=hf.B3 3 4 5
 refine Zy ?_
 refine Zc (YK n hn w) ?_;rintro e w1 ⟨rfl,p6⟩
 obtain ⟨x0,x1,x2,x3,x4,x5,x6,x7,x8,hx⟩:=Vk (cF hn)
 rw [hx,Qw]
 clear hx
 refine Zv ?_
 iterate 2 refine Zy ?_
 refine Fc.nil (p5 2 hf ?_)
 clear hf s0 bB;intro a7 hf s2
 refine Zx a8 (k8 ?_)
 exact Fc.o6 rfl hf s2 ⟨rfl,p6⟩
theorem z8d (w:World) (ns:List Nat) (v:Value) (Q7:RN w w.heap.size v ns) (hlen:ns.length<=1000) (N6:∀ n∈ns,n<q9):E2 w 62 #[v] (.string (bl (G3 ns))):=by
 refine L7 24 Tryz.func62 fun fr hf s0=> ?_
 have y5w:=Q7
 obtain ⟨A,cc,rfl⟩:=Q7.form
 clear Q7
 have SY:=H9 N6;clear N6
 refine Ze fun _ a8=>Zr [] hf ?_
 refine p5 0 hf ?_
 clear hf s0;intro a7 hf s0
 refine Zs a8 fun _ a8=>Zr [] hf ?_
 refine y4 0 3 hf ?_
 clear hf s0;intro a7 hf sS
 refine Zs a8 fun _ a8=>Ze fun _ j8=>Zr [7] hf ?_
 refine z8 3 7 8 9 hf ?_
 intro a7 hf sS
 refine Zx j8 (wp_block (wp_loop_ghost (fun gk fr wr=>∃ (i:Nat) (Vb:Value),gk=ns.length-i/\i<=ns.length/\Fc.Fr 24 fr/\fr.tmps[7]? =some (.slice A ns.length cc)/\fr.tmps[8]? =some (.int .i64 ns.length)/\fr.tmps[9]? =some (.int .i64 i)/\fr.tmps[3]? =some Vb/\OB wr w.heap.size Vb (G3 (ns.take i))/\Below w.heap.size w wr) (ns.length) ?_ ?_))
 . (
 obtain ⟨s3,s7,s8,s9⟩:=sS
 exact ⟨0,_,rfl,Nat.zero_le _,hf,s7,s8,s9,s3,OB.T7 _ _,Below.refl _ _⟩)
 . (
 clear hf sS
 rintro gk fr wr ⟨i,Vb,hk,hi,hf,s7,s8,s9,s3,how,hb⟩
 have HK:=H9 hk;clear hk
 refine Ze fun _ j8=>Zr [] hf ?_
 refine D2 3 7 8 9 10 hf ?_
 clear hf s3 s7 s8 s9;intro a7 hf sS
 refine Zs j8 fun _ j8=>Fc.l0 sS.2.2.2.2 (fun hq=> ?_) (fun hq=> ?_)
 . (
 have o9:i<ns.length:=qT
 clear hq
 obtain ⟨n,D7⟩:∃ n,ns[i]? =some n:=⟨_,F8 o9⟩
 obtain ⟨b,off,rfl,lS,c0⟩:=(y5w.below hb).at_ D7
 have hn:=SY.out n (T9 D7)
 have A8:=FV D7
 obtain ⟨xs,mC⟩:∃ x,G3 (ns.take i)=x:=⟨_,rfl⟩
 have Ss:xs.length<=9*ns.length:=by rw [<- mC];exact zM ns i SY.out
 rw [mC] at how A8
 have L4:=H9 A8;have VS:=H9 mC;have Dc:=H9 D7;clear A8 mC D7
 obtain ⟨A5,c5,KK,_⟩:=y8 how
 subst KK
 have Qp:=cF hn
 have vr:=M0 hn
 refine wp_skip (Zs j8 fun _ j8=>wp_block (Ze fun _ l8=>Zr [11,12] hf ?_))
 refine D2 3 5 7 8 9 hf ?_
 intro a7 hf sS
 refine Zt l8 fun _ l8=> ?_
 have bB:=hf.B3 13 14 6
 refine Zy ?_
 refine Zc (YK n hn wr) ?_;rintro e w2 ⟨rfl,r8⟩
 have bS:=n3 how r8
 have BZ:=hb.trans (r8.mono hb.size)
 refine Zv ?_
 refine Zy ?_
 obtain ⟨s3,s5,s7,s8,s9⟩:=sS
 clear bB
 refine Fc.nL (n:=24) (by simp only [Fc.G,hf.size]) hf.defers (fun a7 y5 hT=> ?_)
 have J8:=Fc.h6 hT 3 6 7 8 9 14
 simp (decide:=true) only [Fc.G,hf.size,reduceIte,s3,s7,s8,s9] at J8
 replace hf:=y5;clear hT y5 s3 s5 s7 s8 s9
 obtain ⟨s3,s6,s7,s8,s9,S4⟩:=J8
 refine ⟨?_⟩
 refine wpList_plain rfl fun KL uM=> ?_
 refine wp_store_row 184 _ _ rfl w2.heap.size _ (Fc.l5 s6) (Fc.l5 S4) 184 _ (heap_alloc_new w2 _) (by rw [aD Qp];kernel_rfl) (by rw [aD Qp];rfl) (zK _ _) (uM _ _ ?_)
 rw [World.setRow_alloc_new]
 refine Fc.L.out ?_
 refine Fc.nil (D2 3 6 7 8 9 hf ?_)
 clear hf s3 s6 s7 s8 s9 S4;intro a7 hf sS
 generalize lT:w2.alloc (.cells (lcs (jL n) (r7 n).length).toArray 184)=W3
 have AH:W3.heap[w2.heap.size]? =some (.cells (lcs (jL n) (r7 n).length).toArray 184 (0,0)):=by rw [<- lT];exact heap_alloc_new w2 _
 have G4:Below w2.heap.size w2 W3:=by rw [<- lT];exact (Below.refl _ _).alloc nR _
 clear lT
 have z8c:=n3 bS G4
 have Cp:=BZ.trans (G4.mono BZ.size)
 have z9:=sZ AH Qp
 have Gf:=jn W3 w2.heap.size (r7 n).length vr.2
 refine Zx l8 (rg ?_)
 have bB:=hf.B6 15 16 17 18 19 20
 iterate 5 refine Zy ?_
 obtain ⟨s3,s6,s7,s8,s9⟩:=sS
 clear bB
 refine Fc.nL (n:=24) (by simp only [Fc.G,hf.size]) hf.defers (fun a7 y5 hT=> ?_)
 have J8:=Fc.h6 hT 3 7 8 9 15 19
 simp (decide:=true) only [Fc.G,hf.size,reduceIte,s3,s7,s8,s9] at J8
 replace hf:=y5;clear hT y5 s3 s6 s7 s8 s9
 obtain ⟨s3,s7,s8,s9,aQ,K9⟩:=J8
 have bB:=hf.b 20
 refine ⟨?_⟩
 refine wpList_plain rfl fun KL uM=> ?_
 refine TH _ _ 31 rfl 5 _ 1 1 Tryz.underlying31 cD rfl dC dC w.heap.size (.slice A5 xs.length c5) xs.length _ (Fc.l5 aQ) z8c _ (r7 n).length 9 (lZ (r7 n)) (Fc.l5 K9) (by rw [eF,Nat.mul_one]) (fun _=>⟨w2.heap.size,0,rfl,fun j u hu=>by rw [Nat.zero_add];exact LU AH hu⟩) (Vc _) oM Cp.size (fun v8 w8 UN vi x1e=>uM _ _ ?_)
 refine Fc.L.out ?_
 refine Zy ?_
 refine Fc.nil (z8 3 7 8 9 hf ?_)
 clear hf s3 s7 s8 s9 aQ K9 bB;intro a7 hf sS
 have aA:=Cp.grown vi Cp.size (fun kk aB=>(World.ownsRow.lt z8c kk aB).1)
 have y5v:OB w8 w.heap.size v8 (G3 (ns.take (i+1))):=by rw [L4.out];unfold OB;rw [M1,List.length_append];exact UN
 refine Fc.j9 (Zx j8 (Zr [21] hf ?_))
 refine z8 3 7 8 9 hf ?_
 intro a7 hf sS
 refine Fc.j7 ?_
 obtain ⟨s3,s7,s8,s9⟩:=sS
 exact ⟨_,by have:=HK.out;omega,i+1,v8,rfl,oM,hf,s7,s8,by rw [s9];rfl,s3,y5v,aA⟩)
 . (
 have C3:i=ns.length:=qF
 rw [C3,List.take_length] at how
 clear hq C3
 have iU:=OB.conv how
 refine Zo ?_
 refine Zs a8 fun _ a8=>Zr [22,23] hf ?_
 refine p5 2 hf ?_
 intro a7 hf s2
 refine Zx a8 (k8 ?_)
 exact Fc.o6 rfl hf s2 ⟨rfl,hb⟩))
theorem Cq (s:ByteArray):Lib.strCells s=lZ (wl s):=by
 unfold Lib.strCells lZ wl
 rw [List.map_map]
 rfl
theorem Fa {w w':World} {base n:Nat} {v v':Value} {xs:List Value} {s:ByteArray} {i:TypeInfo} {ty:TypeId} (hi:Tryz.prog.info? 5=some i) (hz:i.zero=some (.int .u8 0)) (YL:i.size=1) (Mj:i.bytes=1)
  (H8:w.ownsRow base 5 1 v n xs) (hn:n+s.size<=1000000000) (hr:(Builtin.append_ #[31,9] ty #[v,.string s]).run Tryz.prog w= .ok v' w') (h0:v= .slice none 0 0->s.size=0->v'= .slice none 0 0):v'.ownBlock=v.ownBlock\/v'.ownBlock=some w.heap.size:=by
 have Ss:xs.length=n:=by simpa using H8.1
 rcases H8.2 with ⟨rfl,rfl⟩ | ⟨g,cap,cur,rfl,AE,hg,hnc,hcm,cB,Xu⟩
 ·by_cases hm:s.size=0
  ·rw [h0 rfl hm];exact .inl rfl
  ·have R1:=run_append_nil_string (P:=Tryz.prog) w 31 9 ty 5 i (.int .u8 0) Tryz.underlying31 Tryz.underlying9 hi hz s oM oM (by rw [Mj];omega)
   rw [R1] at hr
   injection hr with h1 h2
   rw [<- h1]
   exact .inr rfl
 ·by_cases hroom:n+s.size<=cap
  ·have R1:=Lib.run_append_room_string (P:=Tryz.prog) w 31 9 ty 5 i Tryz.underlying31 Tryz.underlying9 hi YL g n cap cur hg s hroom oM
   rw [R1] at hr
   injection hr with h1 h2
   rw [<- h1]
   exact .inl rfl
  ·have holds:∀ j u,xs[j]? =some u->w.cell? ((⟨g,0,none⟩:Addr).add j)=some u:=H8.cells (g:=g) rfl
   have R1:=Lib.run_append_grow_string (P:=Tryz.prog) w 31 9 ty 5 i (.int .u8 0) Tryz.underlying31 Tryz.underlying9 hi hz ⟨g,0,none⟩ n cap xs (by rw [YL];simpa using Ss) holds s oM oM (by rw [Mj];exact growslice_fits oM oM)
   rw [R1] at hr
   injection hr with h1 h2
   rw [<- h1]
   exact .inr rfl
theorem wT {o:Oper} {a:Act} {w:World} {K:Act->World->Prop} {Q:Exit->Act->World->Prop} (sl x:Operand) (ho:o.op= .call { callee:= .builtin .append,args:= #[sl,x],argTypes:= #[31,9] })
  (base:Nat) (v:Value) (l:List Nat) (hs:a.eval sl=v) (H8:OB w base v l) (s:ByteArray) (hx:a.eval x= .string s) (hn:l.length+s.size<=1000000000) (R3:base<=w.heap.size)
  (h:∀ v' w',OB w' base v' (l++wl s)->w.grownBy w' v.ownBlock->(v'.ownBlock=v.ownBlock\/v'.ownBlock=some w.heap.size)->K (a.put o.dst v') w'):Oper.wp Tryz.prog o a w K Q:=by
 obtain ⟨i0,hi,fG,jT,X0⟩:=info_parts cD
 obtain ⟨v',w',hr,h2,h3,h4⟩:=Lib.run_append_own_string (P:=Tryz.prog) w base 31 9 o.type 5 i0 Tryz.underlying31 Tryz.underlying9 hi fG jT X0 v l.length (lZ l) H8 s (by unfold maxLen;omega) oM R3
 have C7:=Fa hi fG jT X0 H8 hn hr (fun e1 e2=>h4.2 ⟨e1,e2⟩)
 unfold Oper.wp execOp
 simp only [ho,resolve,invoke,builtin,Sem.run_bind,Sem.run_pure,Result.andThen_ok,List.map_toArray,List.map_cons,List.map_nil,hs,hx,hr]
 refine h v' w' ?_ h3 C7
 unfold OB
 rw [M1,List.length_append,o5, <- Cq]
 exact h2
def LW (w:World) (base g:Nat) (rest:List Value) (t:TypeId) (bv:Value) (l:List Nat):Prop:=w.heap[g]? =some (.cells (bv::rest).toArray t (0,0))/\OB w base bv l/\bv.ownBlock≠some g
def LF (w:World) (g:Nat) (bv:Value) (w1:World) (bv1:Value):Prop:=n4 (fun k=>k=g\/bv.ownBlock=some k) w w1/\(bv1.ownBlock=bv.ownBlock\/∃ k,bv1.ownBlock=some k/\w.heap.size<=k)
theorem LF.r9 {w w1:World} (g:Nat) (bv:Value) (h:Below w.heap.size w w1):LF w g bv w1 bv:=⟨n4.of _ h,.inl rfl⟩
theorem LF.trans {w w1 w2:World} {g:Nat} {bv b1 b2:Value} (h:LF w g bv w1 b1) (k:LF w1 g b1 w2 b2):LF w g bv w2 b2:=by
 refine ⟨⟨k.1.os.trans h.1.os,k.1.tape.trans h.1.tape,k.1.output.trans h.1.output,Nat.le_trans h.1.size k.1.size,fun i hi hn=> ?_⟩,?_⟩
 ·have h1:=h.1.block i hi hn
  have h2:=k.1.block i (Nat.lt_of_lt_of_le hi h.1.size) (fun e=>by
   rcases e with e | e
   ·exact hn (.inl e)
   ·rcases h.2 with h3 | ⟨q,h3,h4⟩
    ·exact hn (.inr (by rw [<- h3];exact e))
    ·rw [h3] at e;injection e with e;omega)
  exact h2.trans h1
 ·rcases k.2 with h3 | ⟨q,h3,h4⟩
  ·rcases h.2 with h5 | ⟨q,h5,h6⟩
   ·exact .inl (h3.trans h5)
   ·exact .inr ⟨q,h3.trans h5,h6⟩
  ·exact .inr ⟨q,h3,Nat.le_trans h.1.size h4⟩
theorem LF.cell {w w1:World} {g:Nat} {bv b1:Value} (h:LF w g bv w1 b1) {p:Addr} {v:Value} (hc:w.cell? p=some v) (hg:p.block≠g) (ho:bv.ownBlock≠some p.block):w1.cell? p=some v :=
 h.1.cell hc (fun e=>e.elim hg ho)
theorem LF.below {w w1:World} {g base:Nat} {bv b1:Value} (h:LF w g bv w1 b1) (hb:base<=w.heap.size) (hg:base<=g) (ho:∀ k,bv.ownBlock=some k->base<=k):Below base w w1 :=
 ⟨h.1.os,h.1.tape,h.1.output,h.1.size,fun k hk=>h.1.block k oM (fun e=>by
  rcases e with e | e
  ·omega
  ·have:=ho k e;omega)⟩
theorem LW.lo {w:World} {base g:Nat} {rest:List Value} {t:TypeId} {bv:Value} {l:List Nat} (h:LW w base g rest t bv l):∀ k,bv.ownBlock=some k->base<=k:=fun k hk=>(World.ownsRow.lt h.2.1 k hk).1
theorem LW.later {w w1:World} {base g:Nat} {rest:List Value} {t:TypeId} {bv:Value} {l:List Nat} (h:LW w base g rest t bv l) (hb:Below w.heap.size w w1):LW w1 base g rest t bv l:=⟨(hb.block g (j5 h.1)).trans h.1,n3 h.2.1 hb,h.2.2⟩
theorem LW.step {w w1 w4:World} {base g:Nat} {rest:List Value} {t:TypeId} {bv v4:Value} {l l4:List Nat} (h:LW w base g rest t bv l) (p6:Below w.heap.size w w1) (H8:OB w4 base v4 l4) (hg:w1.grownBy w4 bv.ownBlock) (C7:v4.ownBlock=bv.ownBlock\/v4.ownBlock=some w1.heap.size) (hz:w.heap.size<=w1.heap.size) :
  LW (w4.setCell ⟨g,0,none⟩ v4) base g rest t v4 l4/\LF w g bv (w4.setCell ⟨g,0,none⟩ v4) v4:=by
 have h1:=j5 h.1
 have kP:=(p6.block g h1).trans h.1
 have Si:w4.heap[g]? =some (.cells (bv::rest).toArray t (0,0)):=(hg.block g (j5 kP) (fun e=>h.2.2 e.symm)).trans kP
 have F0:v4.ownBlock≠some g:=by
  rcases C7 with e | e
  ·rw [e];exact h.2.2
  ·rw [e];intro e2;injection e2 with e2;omega
 refine ⟨⟨?_,u7 H8 (n4.setCell (S:=fun k=>k=g) rfl _) (fun k hk e=>by subst e;exact F0 hk),F0⟩,?_,?_⟩
 ·have:=k7 (i:=0) Si v4
  rw [this]
  simp
 ·have hb:n4 (fun k=>k=g\/bv.ownBlock=some k) w w4:=(n4.of _ p6).trans ((n4.grown (S:=fun k=>k=g\/bv.ownBlock=some k) hg (fun k hk=> .inr hk)))
  exact hb.trans (n4.setCell (.inl rfl) _)
 ·rcases C7 with e | e
  ·exact .inl e
  ·exact .inr ⟨_,e,hz⟩
theorem T6:∀ {l:List Nat},(∀ n∈l,n<q9)->Small (G3 l)
 | [],_=>Small.nil
 | x::l,h=>by
  have e:G3 (x::l)=r7 x++G3 l:=by simp [G3]
  rw [e]
  exact (iY (h x (List.mem_cons_self ..))).append (T6 (fun n hn=>h n (List.mem_cons_of_mem _ hn)))
def iJ (w0:World) (base g:Nat) (bv:Value) (rest:List Value) (t:TypeId) (l:List Nat):Sb.Pr:=fun v w=>OB w base v l/\(v.ownBlock=bv.ownBlock\/∃ k,v.ownBlock=some k/\w0.heap.size<=k)/\w.heap[g]? =some (.cells (bv::rest).toArray t (0,0))
theorem iJ.u5 (w0:World) (base g:Nat) (bv:Value) (rest:List Value) (t:TypeId) (l:List Nat):Sb.Stable (iJ w0 base g bv rest t l):=fun v w w' hb ⟨h1,h2,h3⟩=>⟨n3 h1 hb,h2,(hb.block g (j5 h3)).trans h3⟩
theorem iK.ne {w0:World} {g:Nat} {bv v:Value} (h:v.ownBlock=bv.ownBlock\/∃ k,v.ownBlock=some k/\w0.heap.size<=k) (F0:bv.ownBlock≠some g) (hg:g<w0.heap.size):v.ownBlock≠some g:=by
 rcases h with e | ⟨k,e,h2⟩
 ·rw [e];exact F0
 ·rw [e];intro e2;injection e2 with e2;omega
theorem iJ.ne {w w0:World} {base g:Nat} {bv v:Value} {rest:List Value} {t:TypeId} {l:List Nat} (h:iJ w0 base g bv rest t l v w) (F0:bv.ownBlock≠some g) (hg:g<w0.heap.size):v.ownBlock≠some g:=iK.ne h.2.1 F0 hg
def iK (w0:World) (base g:Nat) (bv:Value) (rest:List Value) (t:TypeId) (l:List Nat):Sb.Pr:=fun _ w=>∃ v,OB w base v l/\(v.ownBlock=bv.ownBlock\/∃ k,v.ownBlock=some k/\w0.heap.size<=k)/\w.heap[g]? =some (.cells (v::rest).toArray t (0,0))
theorem iK.u5 (w0:World) (base g:Nat) (bv:Value) (rest:List Value) (t:TypeId) (l:List Nat):Sb.Stable (iK w0 base g bv rest t l):=fun _ w w' hb ⟨v,h1,h2,h3⟩=>⟨v,n3 h1 hb,h2,(hb.block g (j5 h3)).trans h3⟩
theorem Cr (w:World) (base g:Nat) (rest:List Value) (t:TypeId) (bv:Value) (l:List Nat) (VR:LW w base g rest t bv l) (R3:base<=w.heap.size) (ns:List Nat) (v:Value) (Q7:RN w w.heap.size v ns) (hlen:ns.length<=1000) (N6:∀ n∈ns,n<q9) (XW:l.length<=900000000):Calls Tryz.prog 35 #[.pointer (some ⟨g,0,none⟩),v] w fun e w1=>e= .returned (.tuple #[])/\∃ b1,LW w1 base g rest t b1 (l++G3 ns)/\LF w g bv w1 b1:=by
 refine Z6 14 Tryz.func35 fun fr hf s0 s1=> ?_
 obtain ⟨hx,how,F0⟩:=VR
 have o9:=j5 hx
 have na:=fun k hk=>(World.ownsRow.lt how k hk).1
 have XT:=(j5 hx)
 obtain ⟨L2,hL2⟩:∃ x,G3 ns=x:=⟨_,rfl⟩
 have y5u:Small L2:=by rw [<- hL2];exact T6 N6
 have x1d:L2.length<=9*ns.length:=by rw [<- hL2];exact jM ns N6
 have HL2:=H9 hL2;have SY:=H9 N6;clear hL2 N6
 refine Sm.E4 (n:=14) (fun _ k=>k=g\/bv.ownBlock=some k) [7,10] (Sb.OkOps.of kR) (fun a6=> ?_)
 refine Sm.mD (k:=0) s0 hf.size a6.out rfl kR rfl rfl (.inl rfl) kR ?_
 refine Sm.mD (k:=1) s0 hf.size a6.out rfl kR rfl rfl (.inl rfl) kR ?_
 apply Sm.tq 2 _ hf a6
 . (
 intro a7 w1 hh hd hk K Z
 refine Sb.pl ?_
 have s5:=Sm.v 1 0 hd hk []
 have F4:=Sm.r5 hh [(7,[4,3]),(10,[])] kR
 have l6:=Sm.l9 hh [] [(7,[4,3]),(10,[])] kR
 clear hd hh
 go_simp
 exact Sb.k Z)
 apply Sm.tq 3 _ hf a6
 . (
 intro a7 w1 hh hd hk K Z
 refine Sb.pl ?_
 have s6:=Sm.v 2 0 hd hk []
 have F4:=Sm.r5 hh [(7,[4]),(10,[])] kR
 have l6:=Sm.l9 hh [] [(7,[4]),(10,[])] kR
 clear hd hh
 go_simp
 exact Sb.k Z)
 apply Sm.tq 4 _ hf a6
 . (
 intro a7 w1 hh hd hk K Z
 refine Sb.pl ?_
 have s7:=Sm.v 3 0 hd hk []
 have F4:=Sm.r5 hh [(7,[]),(10,[])] kR
 have l6:=Sm.l9 hh [] [(7,[]),(10,[])] kR
 clear hd hh
 have z0:=cell_of_row _ _ 0 _ t (0,0) ((F4.block g o9).trans hx)
 simp at z0
 go_simp
 exact Sb.k Z)
 refine Sm.mD (k:=5) s1 hf.size a6.out rfl kR rfl rfl (.inl rfl) kR ?_
 apply Sm.tq 6 _ hf a6
 . (
 intro a7 w1 hh hd hk K Z
 refine Sb.pl ?_
 have s9:=Sm.v 5 0 hd hk []
 have F4:=Sm.r5 hh [(7,[]),(10,[])] kR
 have l6:=Sm.l9 hh [] [(7,[]),(10,[])] kR
 clear hd hh
 go_simp
 go_at_call 62;refine (z8d w1 ns v ((Q7.below F4).more F4.size) hlen SY.out).mono ?_;rintro e w2 ⟨rfl,hb⟩
 rw [HL2.out]
 exact Z.out _ rfl _ _ hb rfl)
 refine Sm.E6 (k:=7) (n:=14) (iJ w base g bv rest t (l++L2)) hf.size a6.out rfl (iJ.u5 _ _ _ _ _ _ _) kR ?_ ?_
 . (
 intro a7 w1 hh hd hk K Z
 refine Sb.pl ?_
 have s8:=Sm.v 4 2 hd hk []
 have u4:=Sm.v 6 0 hd hk []
 have F4:=Sm.r5 hh [(10,[])] kR
 have l6:=Sm.l9 hh [] [(10,[])] kR
 clear hd hh
 have bS:=n3 how F4
 have gR:=(F4.block g o9).trans hx
 refine wT _ _ rfl base bv l (Fc.l5 s8) bS (bl L2) (Fc.l5 u4) (by rw [N7];omega) (by have:=F4.size;omega) (fun v2 w2 kT lW jE=> ?_)
 rw [aL y5u] at kT
 exact Z.out _ rfl _ _ (n4.grown lW (fun k hk=> .inr hk)) ⟨kT,jE.imp id (fun h=>⟨_,h,F4.size⟩),(lW.block g (j5 gR) (fun e=>F0 e.symm)).trans gR⟩)
 apply Sm.tq 8 _ hf a6
 . (
 intro a7 w1 hh hd hk K Z
 refine Sb.pl ?_
 have s4:=Sm.v 0 7 hd hk []
 have l6:=Sm.l9 hh [7] [(10,[9])] kR
 clear hd hh
 go_simp
 exact Sb.k Z)
 apply Sm.tq 9 _ hf a6
 . (
 intro a7 w1 hh hd hk K Z
 refine Sb.pl ?_
 have F7:=Sm.v 8 0 hd hk []
 have l6:=Sm.l9 hh [7] [(10,[])] kR
 clear hd hh
 go_simp
 exact Sb.k Z)
 refine Sm.E6 (k:=10) (n:=14) (iK w base g bv rest t (l++L2)) hf.size a6.out rfl (iK.u5 _ _ _ _ _ _ _) kR ?_ ?_
 . (
 intro a7 w1 hh hd hk K Z
 refine Sb.pl ?_
 have D1:=Sm.v 9 0 hd hk []
 obtain ⟨MH,D9,y5t⟩:=Sm.use (j:=7) (m:=2) hd hk rfl [] kR [] kR rfl rfl rfl
 obtain ⟨LV,z8b,zN⟩:=y5t
 have l6:=Sm.l9 hh [7] [] kR
 clear hd hh
 have z0:=cell_of_row _ _ 0 _ t (0,0) zN
 simp at z0
 have fz:=j6 (i:=0) zN
 obtain ⟨A2,c2,vV,_⟩:=y8 LV
 subst vV
 go_simp
 refine Z.out _ rfl undef _ (n4.setCell (.inl rfl) _) ⟨_,u7 LV (n4.setCell (S:=fun k=>k=g) rfl _) (fun kk aB e=>by subst e;exact iJ.ne ⟨LV,z8b,zN⟩ F0 o9 aB),z8b,(k7 (i:=0) zN _).trans sP⟩)
 refine Sm.E5 (n:=14) kR hf.size a6.out rfl (fun a7 w1 hh hg=> ?_)
 obtain ⟨_,V0⟩:=Sm.M4 (j:=10) (m:=0) hg rfl dC [(7,[])] kR rfl
 have y5:=hh.fr hf
 have l6:=hh.but
 clear hg hh hf a6 s0 s1
 have hf:=y5;clear y5
 obtain ⟨v6,ER,Mc,LX⟩:=V0
 replace l6:=l6 (fun k=>k=g\/bv.ownBlock=some k) (fun m _ b h=>h)
 exact Fc.mE rfl hf ⟨rfl,v6,⟨LX,by rw [HL2.out];exact ER,iK.ne Mc F0 o9⟩,l6,Mc⟩
end Dw
end Go.Proofs.YtcddnmhmcieebaaGreatDoor
