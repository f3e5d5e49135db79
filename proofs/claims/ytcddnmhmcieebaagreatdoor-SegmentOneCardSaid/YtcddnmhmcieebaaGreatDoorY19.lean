/- fst: ways. -/
import Derived.Test.YtcddnmhmcieebaaGreatDoorY18
import Derived.Test.YtcddnmhmcieebaaGreatDoorTools
namespace Go.Proofs.YtcddnmhmcieebaaGreatDoor
set_option maxHeartbeats 4000000
set_option maxRecDepth 100000
open Go.RowKit
set_option linter.unusedSimpArgs false
set_option linter.unusedVariables false
set_option linter.unnecessarySimpa false
namespace Dw
def CK (G:Nat) (w w':World):Prop:=w.heap.size<=w'.heap.size/\(∀ (p:Addr) (v:Value),p.block≠G->w.cell? p=some v->w'.cell? p=some v)/\∀ (k:Nat) (o:Obj),k≠G->o.isCells=true->w.heap[k]? =some o->w'.heap[k]? =some o
theorem CK.trans {G:Nat} {a b c:World} (h:CK G a b) (k:CK G b c):CK G a c:=⟨Nat.le_trans h.1 k.1,fun p v hp hv=>k.2.1 p v hp (h.2.1 p v hp hv),fun n o hn ho hh=>k.2.2 n o hn ho (h.2.2 n o hn ho hh)⟩
theorem CK.r5 {G:Nat} {w w':World} (hb:Below w.heap.size w w'):CK G w w':=⟨hb.size,fun p v _ hv=>cL hb hv,fun k o _ _ hh=>(hb.block k (j4 hh)).trans hh⟩
theorem RA.ck {G N:Nat} {w w':World} {v:Value} {l:List r7} (h:RA w (fun k=>k<N) v l) (hN:N<=G) (hc:CK G w w'):RA w' (fun k=>k<N) v l:=by
 obtain ⟨A,c,h1,h2,h3⟩:=h
 refine ⟨A,c,h1,h2,fun h0=> ?_⟩
 obtain ⟨b,off,h4,h5,h6⟩:=h3 h0
 exact ⟨b,off,h4,h5,fun j u hu=>hc.2.1 _ _ sQ (h6 j u hu)⟩
theorem oJ.ck {G N:Nat} {w w':World} {sv:Value} {ss:List State} (h:oJ w N sv ss) (hN:N<=G) (hc:CK G w w'):oJ w' N sv ss:=by
 obtain ⟨A,c,h1,h2,h3⟩:=h
 refine ⟨A,c,h1,h2,fun h0=> ?_⟩
 obtain ⟨b,off,h4,h5,h6⟩:=h3 h0
 refine ⟨b,off,h4,h5,fun i s hi=> ?_⟩
 obtain ⟨av,h7⟩:=h6 i s hi
 exact ⟨av,hc.2.1 _ _ sQ h7.c0,hc.2.1 _ _ sQ h7.c1,hc.2.1 _ _ sQ h7.c2,h7.a6.ck hN hc⟩
theorem oJ.rs {w:World} {N:Nat} {sv:Value} {ss:List State} (h:oJ w N sv ss):RS w sv ss:=by
 obtain ⟨A,c,h1,h2,h3⟩:=h
 refine ⟨A,c,h1,h2,fun h0=> ?_⟩
 obtain ⟨b,off,h4,h5,h6⟩:=h3 h0
 refine ⟨b,off,h4,fun i s hi=> ?_⟩
 obtain ⟨av,h7⟩:=h6 i s hi
 exact ⟨av,h7.c0,h7.c1,h7.c2,h7.a6.more (fun k _ _=>trivial)⟩
theorem OB.kp {A B:World} {base:Nat} {v:Value} {l:List Nat} (h:OB A base v l) (hs:A.heap.size<=B.heap.size) (hk:∀ (g:Nat) (cs:Array Value),base<=g->A.heap[g]? =some (.cells cs 5 (0,0))->B.heap[g]? =some (.cells cs 5 (0,0))):OB B base v l:=by
 refine ⟨h.1,?_⟩
 rcases h.2 with h1 | ⟨g,cap,cur,rfl,h2,h3,h4⟩
 ·exact .inl h1
 ·exact .inr ⟨g,cap,cur,rfl,h2,hk g _ h2 h3,h4⟩
theorem RB.ck {G g:Nat} {w w':World} {l:List Nat} (h:RB w g l) (hg:g≠G) (hc:CK G w w'):RB w' g l:=fun i x hx=>hc.2.1 _ _ hg (h i x hx)
theorem mH {W W':World} (hb:Below W.heap.size W W'):W.grownBy W' none:=⟨hb.os,hb.tape,hb.output,hb.size,fun k hk _=>hb.block k hk⟩
theorem _root_.Go.Proofs.YtcddnmhmcieebaaGreatDoor.j9.r5 {C:Obj->Prop} {B:Nat} {I:World->Prop} (h:j9 C B I) {W W':World} (hs:I W) (hb:Below W.heap.size W W'):I W':=h W W' none hs (mH hb) (fun r e=>by cases e)
theorem kX {e:Ending} {A B:Prop} (h:(e= .returned (.bool true)/\A)\/(e= .returned (.bool false)/\B)):∃ b:Bool,e= .returned (.bool b)/\((b=true/\A)\/(b=false/\B)):=by
 rcases h with ⟨h,k⟩ | ⟨h,k⟩
 ·exact ⟨true,h,.inl ⟨rfl,k⟩⟩
 ·exact ⟨false,h,.inr ⟨rfl,k⟩⟩
theorem y0p {k i:Nat} {l:List r7} {a:r7} (a8:okArcs k (-1) l=true) (hi:l[i]? =some a):l.find? (X0 a.byte k)=some a:=by
 have hr:=rC a8
 have nF:=C3 a8 (U0 hi)
 obtain ⟨n8,hga⟩:=E2 hi
 rw [List.find?_eq_some_iff_getElem]
 refine ⟨by unfold X0;simp [nF.1,nF.2],i,n8,hga,fun j hj=> ?_⟩
 have hjl:j<l.length:=oM
 have n7:(l.map r7.byte)[j]? =some l[j].byte:=by rw [List.getElem?_map,D9 hjl];rfl
 have r9:(l.map r7.byte)[i]? =some a.byte:=by rw [List.getElem?_map,hi];rfl
 have:=hr.out j i _ _ hj n7 r9
 unfold X0
 have E6:(l[j].byte==a.byte)=false:=beq_eq_false_iff_ne.2 oM
 simp [E6]
theorem yP (w:World) (sv:Value) (init k:Nat) (ss:List State) (o7:RS w sv ss):Calls Tryz.prog 141 #[.agg #[sv,.int .u64 init],.int .i64 k] w fun e w1=>e= .returned (.func (.func 156) #[] #[.pointer (some ⟨w.heap.size,0,none⟩),.pointer (some ⟨(w.heap.size+1),0,none⟩)])/\w1.cell? ⟨w.heap.size,0,none⟩=some sv/\w1.cell? ⟨w.heap.size,1,none⟩=some (.int .u64 init)/\w1.cell? ⟨w.heap.size+1,0,none⟩=some (.int .i64 k)/\Below w.heap.size w w1/\w1.heap[w.heap.size]? =some (.cells #[sv,.int .u64 init] 38 (0,0))/\w1.heap[w.heap.size+1]? =some (.cells #[.int .i64 k] 3 (0,0)):=by
 refine aT 6 Tryz.func141 fun fr hf s0 s1=> ?_
 obtain ⟨A,cc,rfl,Z3⟩:=o7.form
 refine Ze fun _ b7=>Zr [] hf ?_
 refine C1 2 3 hf ?_
 clear hf s0 s1;intro a7 hf sS
 obtain ⟨W0,p8⟩:∃ x,(w.alloc (.cells #[.slice A ss.length cc,.int .u64 init] 38)).alloc (.cells #[.int .i64 k] 3)=x:=⟨_,rfl⟩
 obtain ⟨s2,s3⟩:=sS
 try simp only [World.size_alloc] at s3
 try rw [p8]
 obtain ⟨p9,F1,C5⟩:=F9 p8
 clear p8
 have c0:=n5 0 F1;have c1:=n5 1 F1;have k0:=n5 0 C5
 simp at c0 c1 k0
 refine Zs b7 fun _ b7=>Zr [5] hf ?_
 refine r6 4 hf ?_
 clear hf s2 s3;intro a7 hf s4
 refine Zx b7 (k8 ?_)
 exact Fc.o9 rfl hf s4 ⟨rfl,c0,c1,k0,p9,F1,C5⟩
theorem x3h (W:World) (n l p0 p1 init k:Nat) (ss:List State) (st:State) (sv:Value) (J Jx:List r7->World->Prop) (Kp:World->World->Prop) (F:World->Prop)
    (hY:∀ pre (x:r7) W1,J pre W1->pre++[x] <+: st.a6->YieldAt Fence.wide (n-1) Tryz.prog l #[.int .u8 x.byte,.agg #[.int .i64 x.to,.int .u64 x.out]] W1 fun e W'=>(e= .returned (.bool true)/\J (pre++[x]) W'/\Kp W1 W')\/(e= .returned (.bool false)/\Jx (pre++[x]) W'/\Kp W1 W'))
    (hJ:∀ s,j9 (fun _=>False) W.heap.size (J s)) (hF:∀ {V:World},F V->V.cell? ⟨p0,0,none⟩=some sv/\V.cell? ⟨p0,1,none⟩=some (.int .u64 init)/\V.cell? ⟨p1,0,none⟩=some (.int .i64 k)/\RS V sv ss)
    (hFb:∀ {A B:World},Below A.heap.size A B->F A->F B) (hFk:∀ {A B:World},Kp A B->F A->F B) (hKs:∀ {A B:World},Kp A B->A.heap.size<=B.heap.size)
    (hKo:∀ {A B:World} (g:Nat) (cs:Array Value),W.heap.size<=g->Kp A B->A.heap[g]? =some (.cells cs 5 (0,0))->B.heap[g]? =some (.cells cs 5 (0,0))) (hF0:F W)
    (hk:ss[k]? =some st) (nY:ss.length<=1000000000) (a8:okArcs k (-1) st.a6=true) (hlen:st.a6.length<=1000000) (h0:J [] W):Calls Tryz.prog 156 #[.func (.yield l) #[] #[],.pointer (some ⟨p0,0,none⟩),.pointer (some ⟨p1,0,none⟩)] W fun e W'=>(∃ v,e= .returned v)/\((∃ xs,xs=st.a6/\J xs W')\/(∃ pre,pre <+: st.a6/\Jx pre W')):=by
 refine lM 33 Tryz.func156 fun fr hf s0 s1 s2=> ?_
 obtain ⟨c0,c1,k0,o7⟩:=hF hF0
 obtain ⟨A,cc,rfl,Z3⟩:=o7.form
 refine Ze fun _ b7=>rg ?_
 have bB:=hf.B3 9 10 11
 iterate 2 refine Zy ?_
 refine Zc (y0t W _ init ss o7 k st hk nY a8 hlen) ?_;rintro e w1 ⟨v1,rfl,nZ,n7⟩
 obtain ⟨bl9,yM⟩:∃ x,st.a6.map r7.byte=x:=⟨_,rfl⟩
 have z7t:bl9.length=st.a6.length:=by rw [<- yM,List.length_map]
 rw [yM] at nZ
 obtain ⟨_,A9,c9,pQ, -, -⟩:=nZ.rb
 subst pQ
 have HL9:=H9 z7t;have HB9:=H9 yM;clear z7t yM
 have hFr:=hFb n7 hF0
 have hj1:=(hJ []).r5 h0 n7
 clear o7 c0 c1 k0 hF0
 refine Zv ?_
 iterate 2 refine Zy ?_
 refine Fc.nil (J3 0 1 2 11 12 13 hf ?_)
 clear hf s0 s1 s2 bB;intro a7 hf sS
 refine Zx b7 (wp_block (wp_loop_ghost (fun gk fr wr=>∃ (i:Nat),gk=bl9.length-i/\i<=bl9.length/\Fc.Fr 33 fr/\fr.tmps[0]? =some (.func (.yield l) #[] #[])/\fr.tmps[1]? =some (.pointer (some ⟨p0,0,none⟩))/\fr.tmps[2]? =some (.pointer (some ⟨p1,0,none⟩))/\fr.tmps[11]? =some (.slice A9 bl9.length c9)/\fr.tmps[12]? =some (.int .i64 bl9.length)/\fr.tmps[13]? =some (.int .i64 i)/\F wr/\OB wr W.heap.size (.slice A9 bl9.length c9) bl9/\J (st.a6.take i) wr) (bl9.length) ?_ ?_))
 . (
 obtain ⟨s0,s1,s2,C7,aZ,J0⟩:=sS
 exact ⟨0,rfl,Nat.zero_le _,hf,s0,s1,s2,C7,aZ,J0,hFr,nZ,hj1⟩)
 . (
 clear hf sS
 clear hFr hj1 nZ
 rintro gk fr wr ⟨i,qZ,hi,hf,s0,s1,s2,C7,aZ,J0,hFr,how,hj⟩
 have HK:=H9 qZ;clear qZ
 obtain ⟨c0,c1,k0,o7⟩:=hF hFr
 refine Ze fun _ b7=>Zr [] hf ?_
 refine cP 0 1 2 11 12 13 14 hf ?_
 clear hf s0 s1 s2 C7 aZ J0;intro a7 hf sS
 refine Zs b7 fun _ b7=>Fc.l0 sS.2.2.2.2.2.2 (fun hq=> ?_) (fun hq=> ?_)
 . (
 have n8:i<bl9.length:=qT
 clear hq
 have w4b:i<st.a6.length:=by have:=HL9.out;omega
 obtain ⟨a,aN⟩:∃ a,st.a6[i]? =some a:=⟨_,D9 w4b⟩
 have hib:bl9[i]? =some a.byte:=by rw [<- HB9.out,List.getElem?_map,aN];rfl
 obtain ⟨g9,rfl,hgb, -,cb⟩:=how.cell hib
 have hfd:=y0p a8 aN
 have y8:st.a6.take (i+1)=st.a6.take i++[a]:=by rw [List.take_add_one,aN];rfl
 have HFD:=H9 hfd;have X9:=H9 y8;clear hfd y8 aN hib
 refine wp_skip (Zs b7 fun _ b7=>wp_block (Ze fun _ j8=>Zr [15,16] hf ?_))
 refine cP 0 1 2 5 11 12 13 hf ?_
 clear hf sS;intro a7 hf sS
 refine Zt j8 fun _ j8=> ?_
 have bB:=hf.B8 18 19 20 21 17 22 23 24
 iterate 3 refine Zy ?_
 refine Zc (yL wr _ init ss o7 k a.byte st hk nY oM) ?_;rintro e w2 ⟨rfl,r9⟩
 rw [HFD.out]
 simp only [stepV]
 have hj2:=(hJ _).r5 hj r9
 have u1x:=hFb r9 hFr;have Q3:=l5 how r9
 clear c0 c1 k0 hFr how hj cb o7
 refine Zv ?_
 iterate 7 refine Zy ?_
 refine Fc.nil (vE 0 1 2 5 6 7 11 12 13 hf ?_)
 clear hf sS bB;intro a7 hf sS
 refine Zs j8 fun _ j8=> ?_
 obtain ⟨s0,s1,s2,s5,s6,s7,C7,aZ,J0⟩:=sS
 refine Inr.rgW n ?_
 obtain ⟨b25,b26,b27,b28,b29,b30⟩:=hf.B6 25 26 27 28 29 30
 refine Inr.cR fun K Z=> ?_
 go_simp
 apply Z.out;clear Z K
 refine Inr.cR fun K Z=> ?_
 go_simp
 apply Z.out;clear Z K
 refine Inr.cR fun K Z=> ?_
 go_simp
 apply Z.out;clear Z K
 refine Inr.cR fun K Z=> ?_
 go_simp
 apply Z.out;clear Z K
 refine Inr.cR fun K Z=> ?_
 go_simp
 apply Z.out;clear Z K
 have hy:=hY (st.a6.take i) a w2 hj2 (by rw [<- X9.out];exact List.take_prefix _ _)
 refine Inr.w4c (r:=none) hy (by simp [execOp,go_sem,s0,s5,s6,s7,b25,b26,b27,b28,b29]) (fun e W3 hz=> ?_) rfl rfl
 obtain ⟨bt,rfl,U4⟩:=kX hz
 refine ⟨_,rfl,?_⟩
 clear hy hz
 refine Inr.cR fun K Z=> ?_
 go_simp
 apply Z.out;clear Z K
 refine Inr.kW ?_
 refine cP 0 1 2 11 12 13 31 hf ?_
 clear hf s0 s1 s2 s5 s6 s7 C7 aZ J0 b25 b26 b27 b28 b29 b30;intro a7 hf sS
 refine Zx j8 (Fc.l0 sS.2.2.2.2.2.2 (fun T3=> ?_) (fun T3=> ?_))
 . (
 have o5:bt=false:=by simpa using T3
 obtain ⟨h9, -⟩ | ⟨-,hjx, -⟩:=U4
 . (
 rw [o5] at h9;cases h9)
 refine k8 ?_
 exact Fc.w6f rfl hf ⟨⟨_,rfl⟩,.inr ⟨_,by rw [<- X9.out];exact List.take_prefix _ _,hjx⟩⟩)
 . (
 have o5:bt=true:=by simpa using T3
 obtain ⟨-,hj3,Y9⟩ | ⟨h9, -⟩:=U4;rotate_left;(rw [o5] at h9;cases h9)
 have hFr:=hFk Y9 u1x;have how:=OB.kp (l:=bl9) Q3 (hKs Y9) (fun g cs hg=>hKo g cs hg Y9)
 rw [<- X9.out] at hj3
 have hj:=hj3
 clear T3 o5
 refine wp_skip (Fc.j7 (Zx b7 (Zr [32] hf ?_)))
 refine J3 0 1 2 11 12 13 hf ?_
 clear hf sS;intro a7 hf sS
 refine Fc.j6 ?_
 obtain ⟨s0,s1,s2,C7,aZ,J0⟩:=sS
 exact ⟨_,by have:=HK.out;omega,i+1,rfl,oM,hf,s0,s1,s2,C7,aZ,by rw [J0];rfl,hFr,how,hj⟩))
 . (
 have F3:i=st.a6.length:=by have h9:=of_decide_eq_false hq;have:=HL9.out;omega
 clear hq
 rw [F3,List.take_length] at hj
 refine Zo ?_
 exact Fc.pZ rfl hf ⟨⟨_,rfl⟩,.inl ⟨_,rfl,hj⟩⟩))
def aP {α:Type} (z:α) (wi:α->α->Nat->α) (vs:List α) (x:α) (l:List r7):α:=l.foldl (fun x a=>wi x (vs.getD a.to.toNat z) a.out) x
def o8 {α:Type} (z:α) (o:State->α) (wi:α->α->Nat->α) (ss:List State):List α:=ss.foldl (fun vs st=>vs++[aP z wi vs (o st) st.a6]) []
section
variable {α:Type} {z:α} {o:State->α} {wi:α->α->Nat->α} {ss:List State}
theorem R9 {i:Nat} {st:State} (h:ss[i]? =some st):o8 z o wi (ss.take (i+1))=o8 z o wi (ss.take i)++[aP z wi (o8 z o wi (ss.take i)) (o st) st.a6]:=by
 unfold o8
 rw [List.take_add_one,h]
 simp [List.foldl_append]
theorem Q7:∀ (i:Nat),i<=ss.length->(o8 z o wi (ss.take i)).length=i
 | 0,_=>by simp [o8]
 | i+1,h=>by rw [R9 (D9 h),List.length_append,Q7 i oM];rfl
theorem M0 (ss:List State):(o8 z o wi ss).length=ss.length:=by have h:=Q7 (z:=z) (o:=o) (wi:=wi) (ss:=ss) ss.length nR;rwa [List.take_length] at h
theorem dH (vs:List α) (x:α) (l:List r7) (a:r7):aP z wi vs x (l++[a])=wi (aP z wi vs x l) (vs.getD a.to.toNat z) a.out:=by simp [aP,List.foldl_append]
def bT (z:α) (n:Nat) (vs:List α):List α:=vs++List.replicate (n-vs.length) z
theorem rE {n:Nat} {vs:List α} (h:vs.length<=n):(bT z n vs).length=n:=by simp [bT];omega
theorem z7s {n i:Nat} {vs:List α} (x:α) (hi:vs.length=i) {j:Nat} (hj:j<i):((bT z n vs).set i x)[j]? =some (vs.getD j z):=by
 subst hi
 rw [List.getElem?_set_ne oM]
 unfold bT
 rw [List.getElem?_append_left hj,List.getD_eq_getElem?_getD,D9 hj]
 rfl
theorem y9f {n i:Nat} {vs:List α} (x:α) (hi:vs.length=i) (hn:i<n):((bT z n vs).set i x)[i]? =some x:=by
 subst hi
 rw [List.getElem?_set_self (by rw [rE oM];exact hn)]
theorem wD {n i:Nat} {vs:List α} (x:α) (hi:vs.length=i) (hn:i<n):(bT z n vs).set i x=bT z n (vs++[x]):=by
 subst hi
 unfold bT
 rw [List.set_append_right _ _ nR,Nat.sub_self,List.length_append,List.length_singleton]
 obtain ⟨k,hk⟩:∃ k,n-vs.length=k+1:=⟨n-vs.length-1,oM⟩
 rw [hk,show n-(vs.length+1)=k by omega,List.replicate_succ,List.set_cons_zero,List.append_assoc]
 rfl
theorem wE {n:Nat} {vs:List α} (h:vs.length=n):bT z n vs=vs:=by subst h;simp [bT]
theorem eU {Ok:Nat->α->Prop} (ho:∀ i st,ss[i]? =some st->Ok i (o st)) (hw:∀ i j x c u,Ok i x->j<i->Ok j c->u<18446744073709551616->Ok i (wi x c u))
  (a8:∀ s∈ss,J8 s) (D5:∀ (k:Nat) (st:State),ss[k]? =some st->okArcs k (-1) st.a6=true):∀ (i:Nat),i<=ss.length->∀ (j:Nat) (x:α),(o8 z o wi (ss.take i))[j]? =some x->Ok j x
 | 0,_=>by intro j x h;simp [o8] at h
 | i+1,h=>by
  intro j x hx
  have ih:=eU ho hw a8 D5 i oM
  have hs:=D9 (l:=ss) h
  have hl:=Q7 (z:=z) (o:=o) (wi:=wi) (ss:=ss) i oM
  rw [R9 hs] at hx
  rcases Nat.lt_or_ge j i with hj | hj
  ·rw [List.getElem?_append_left oM] at hx
   exact ih j x hx
  ·rw [List.getElem?_append_right oM,hl] at hx
   obtain rfl:j=i:=by have:=(E2 hx).1;simp at this;omega
   simp at hx
   subst hx
   have y8:=a8 _ (List.getElem_mem h)
   have nF:=D5 _ _ hs
   suffices ∀ (pre l:List r7),ss[j].a6=pre++l->Ok j (aP z wi (o8 z o wi (ss.take j)) (o ss[j]) pre)->Ok j (aP z wi (o8 z o wi (ss.take j)) (o ss[j]) (pre++l)) from this [] _ rfl (ho _ _ hs)
   intro pre l
   induction l generalizing pre with
   | nil=>intro _ h;rwa [List.append_nil]
   | cons a l ihl =>
    intro he hx
    rw [show pre++a::l=(pre++[a])++l by simp] at he |-
    refine ihl _ he ?_
    rw [dH]
    have hma:a∈ss[j].a6:=by rw [he];simp
    have ht:=C3 nF hma
    refine hw _ a.to.toNat _ _ _ hx oM (ih _ _ ?_) (y8.2.2 a hma).2.1
    rw [List.getD_eq_getElem?_getD,D9 oM]
    rfl
theorem y9e {Ok:Nat->α->Prop} (ho:∀ i st,ss[i]? =some st->Ok i (o st)) (hw:∀ i j x c u,Ok i x->j<i->Ok j c->u<18446744073709551616->Ok i (wi x c u))
  (a8:∀ s∈ss,J8 s) (D5:∀ (k:Nat) (st:State),ss[k]? =some st->okArcs k (-1) st.a6=true) {i:Nat} {st:State} (hs:ss[i]? =some st):∀ (pre:List r7),pre <+: st.a6->Ok i (aP z wi (o8 z o wi (ss.take i)) (o st) pre):=by
 intro pre
 have hi:=(E2 hs).1
 have hl:=Q7 (z:=z) (o:=o) (wi:=wi) (ss:=ss) i oM
 suffices ∀ (k:Nat),k<=pre.length->pre <+: st.a6->Ok i (aP z wi (o8 z o wi (ss.take i)) (o st) (pre.take k)) by
  intro hp;have:=this pre.length nR hp;rwa [List.take_length] at this
 intro k hk hp
 induction k with
 | zero=>exact ho _ _ hs
 | succ k ih =>
  obtain ⟨t,ht⟩:=hp
  have T9:pre[k]∈st.a6:=by rw [<- ht];exact List.mem_append_left _ (List.getElem_mem oM)
  rw [List.take_succ_eq_append_getElem oM,dH]
  have h2:=C3 (D5 _ _ hs) T9
  refine hw _ pre[k].to.toNat _ _ _ (ih oM) oM (eU (z:=z) ho hw a8 D5 i oM _ _ ?_) ((a8 _ (U0 hs)).2.2 _ T9).2.1
  rw [List.getD_eq_getElem?_getD,D9 oM]
  rfl
end
def L4 (G:Nat):List Deferred->Nat->World->Prop
 | [],_,_=>True
 | d::ds,n,w=>∃ D,d={ target:= .collected D,args:= #[] }/\G<D/\D<n/\w.heap[D]? =some (.deferred (some []))/\L4 G ds D w
theorem L4.turn {G:Nat} {w w':World}:∀ {ds:List Deferred} {n m:Nat},L4 G ds n w->n<=m->(∀ D,G<D->D<n->w.heap[D]? =some (.deferred (some []))->w'.heap[D]? =some (.deferred (some [])))->L4 G ds m w'
 | [],_,_,_,_,_=>trivial
 | d::ds,n,m,⟨D,h1,h2,h3,h4,h5⟩,hm,h=>⟨D,h1,h2,Nat.lt_of_lt_of_le h3 hm,h D h2 h3 h4,h5.turn nR fun E e1 e2=>h E e1 (Nat.lt_trans e2 h3)⟩
theorem L4.below {G n m:Nat} {ds:List Deferred} {w w':World} (h:L4 G ds n w) (hm:n<=m) (hb:Below n w w'):L4 G ds m w':=h.turn hm fun D _ hD hh=>(hb.block D hD).trans hh
theorem L4.set {G n:Nat} {ds:List Deferred} {w:World} (h:L4 G ds n w) {p:Addr} (hp:p.block=G) (v:Value):L4 G ds n (w.setCell p v):=h.turn nR fun D hD _ hh=>(Below.heap_setCell w p v D oM).trans hh
theorem eV {P:Program} {fn:Func} {tmps:Array Value} {R:Ending->World->Prop} {G:Nat}:∀ {ds:List Deferred} {n:Nat} {w:World},L4 G ds n w ->
  (∀ w',Below (G+1) w w'->∃ v,(results fn tmps).run P w'= .ok v w'/\R (.returned v) w')->LeavesInM Fence.wide 9 P fn tmps R ds .returning w
 | [],n,w,_,h=>h w (Below.refl _ _)
 | d::ds,n,w,⟨D,h1,h2,h3,h4,h5⟩,h=>by
  subst h1
  refine ⟨sP,.inl ⟨_,_,rfl,run_takeDeferred h4,?_⟩⟩
  have hb:Below (G+1) w (w.putObj D (.deferred none)):=(Below.refl _ w).grown (grownBy_putObj' w D _) (by have:=(Array.getElem?_eq_some_iff.1 h4).1;omega) (fun k e=>by cases e;omega)
  exact eV (h5.turn nR fun E _ e2 hE=>(World.putObj_heap_other oM).trans hE) fun w' hw=>h w' (hb.trans hw)
theorem yQ {P:Program} {f:FuncId} {fn:Func} {c:Code} {args:Array Value} {w:World} {R:Ending->World->Prop} (hf:P.funcs[f]? =some fn) (hb:fn.body=some c)
  (h:c.wp P (bodyPostM Fence.wide 9 P fn R) { tmps:=args++Array.replicate (fn.ntmps-args.size) undef,defers:=[] } w):Calls P f args w R :=
 (callsIn_wide (n:=9)).1 (callsIn_of_wp_marks hf hb trivial (wpIn_wide.2 h) rfl)
theorem fY {P:Program} {o:Oper} {a:Act} {w:World} {K:Act->World->Prop} {Q:Exit->Act->World->Prop} {g:FuncId} {args:Array Value} {R:Ending->World->Prop} (hs:(execOp a.eval o).run P w= .ok (.enter g args) w)
  (hc:Calls P g args w R) (hR:∀ e w',R e w'->∃ v,e= .returned v/\K (a.put o.dst v) w'):o.wp P a w K Q:=by
 unfold Oper.wp
 rw [hs]
 exact hc.mono fun e w' h=>by obtain ⟨v,rfl,h2⟩:=hR e w' h;exact h2
theorem j9.cell {B:Nat} {p:Addr} {v:Value}:j9 (Z2 fun _=>False) B (fun W=>W.cell? p=some v):=by
 intro W W' row hs hg hr
 have n8:p.block<W.heap.size:=C8 hs
 refine (World.cell?_of_block (hg.block p.block n8 fun e=> ?_)).trans hs
 obtain ⟨_,o,ho,hc⟩:=hr _ e.symm
 rcases hc with hc | hc
 ·unfold World.cell? at hs
  rw [ho] at hs
  cases o<;>first | (cases hs;done) | (cases hc;done)
 ·exact hc
theorem j9.cells {B k:Nat} {o:Obj} (ho:o.isCells=true):j9 (Z2 fun _=>False) B (fun W=>W.heap[k]? =some o):=by
 intro W W' row hs hg hr
 refine (hg.block k (j4 hs) fun e=> ?_).trans hs
 obtain ⟨_,o2,tH,hc⟩:=hr _ e.symm
 rw [hs] at tH
 cases tH
 rcases hc with hc | hc
 ·rw [ho] at hc;cases hc
 ·exact hc
theorem j9.all {β:Type} {C:Obj->Prop} {B:Nat} {I:β->World->Prop} (h:∀ b,j9 C B (I b)):j9 C B (fun W=>∀ b,I b W):=fun W W' row hs hg hr b=>h b W W' row (hs b) hg hr
theorem j9.imp {C:Obj->Prop} {B:Nat} {p:Prop} {I:World->Prop} (h:p->j9 C B I):j9 C B (fun W=>p->I W):=fun W W' row hs hg hr hp=>h hp W W' row (hs hp) hg hr
theorem j9.ck {B G:Nat} {W0:World}:j9 (Z2 fun _=>False) B (CK G W0):=by
 intro W W' row hs hg hr
 exact ⟨Nat.le_trans hs.1 hg.size,fun p v hp hv=>j9.cell W W' row (hs.2.1 p v hp hv) hg hr,fun k o hk ho hh=>j9.cells ho W W' row (hs.2.2 k o hk ho hh) hg hr⟩
theorem j9.v4e {G B:Nat}:∀ {ds:List Deferred} {n:Nat},n<=B->j9 (Z2 fun _=>False) B (L4 G ds n)
 | [],_,_=>j9.pure _ _ _
 | d::ds,n,h=>by
  intro W W' row hs hg hr
  refine hs.turn nR fun D _ hD hh=> ?_
  exact j9.block (.inl oM) W W' row hh hg hr
theorem CK.set {G:Nat} {w w':World} (h:CK G w w') {p:Addr} (hp:p.block=G) (v:Value):CK G w (w'.setCell p v) :=
 ⟨Nat.le_trans h.1 sP,fun q u hq hu=>(World.cell?_of_block (Below.heap_setCell _ _ _ _ (by rw [hp];exact hq))).trans (h.2.1 q u hq hu),fun k o hk ho hh=>(Below.heap_setCell _ _ _ _ (by rw [hp];exact hk)).trans (h.2.2 k o hk ho hh)⟩
theorem CK.refl (G:Nat) (w:World):CK G w w:=⟨nR,fun _ _ _ h=>h,fun _ _ _ _ h=>h⟩
theorem K7 {W W':World} (hb:Below W.heap.size W W'):KeepsOthers W W':=⟨hb.size,fun k _o h _=>(hb.block k (Array.getElem?_eq_some_iff.1 h).1).trans h⟩
theorem CK.put {G l:Nat} {W:World} {o:Obj} (o':Obj) (ho:W.heap[l]? =some o) (hc:o.isCells=false):CK G W (W.putObj l o') :=
 ⟨sP,fun p v _ hv=>j9.cell (B:=l) W _ (some l) hv (grownBy_putObj' W l o') (fun r e=>by cases e;exact ⟨nR,o,ho,.inl hc⟩),fun k o2 _ tH hh=>j9.cells tH (B:=l) W _ (some l) hh (grownBy_putObj' W l o') (fun r e=>by cases e;exact ⟨nR,o,ho,.inl hc⟩)⟩
theorem v4d {P:Program} {fn:Func} {R:Ending->World->Prop} {G n N t:Nat} {ds:List Deferred} {a:Act} {w:World} {v:Value} (h:fn.results= #[.tmp t]) (hf:Fc.J4 ds N a) (s:a.tmps[t]? =some v) (hc:L4 G ds n w) (hR:∀ w',Below (G+1) w w'->R (.returned v) w'):bodyPostM Fence.wide 9 P fn R .ret a w:=by
 show LeavesInM Fence.wide 9 P fn a.tmps R a.defers .returning w
 rw [hf.defers]
 exact eV hc fun w' hw=>⟨v,by rw [results_tmp h,Fc.aL s],hR w' hw⟩
theorem w8k {P:Program} {fn:Func} {R:Ending->World->Prop} {G n N p g:Nat} {ty t:TypeId} {ds:List Deferred} {a:Act} {w:World} {cs:Array Value} {fr:Nat×Nat} {d:TypeDesc} (h:fn.results= #[.cell p ty]) (hf:Fc.J4 ds N a)
  (sp:a.tmps[p]? =some (.pointer (some ⟨g,0,none⟩))) (hg:w.heap[g]? =some (.cells cs t fr)) (hgG:g<=G) (hu:P.underlying ty=some d) (hd:(match d with | .struct _ | .array _ _=>true | _=>false)=true) (hi:(P.info? ty).map (·.size)=some cs.size)
  (hc:L4 G ds n w) (hR:∀ w',Below (G+1) w w'->R (.returned (.agg cs)) w'):bodyPostM Fence.wide 9 P fn R .ret a w:=by
 show LeavesInM Fence.wide 9 P fn a.tmps R a.defers .returning w
 rw [hf.defers]
 refine eV hc fun w' hw=>⟨.agg cs,?_,hR w' hw⟩
 have rD:=(hw.block g oM).trans hg
 have vG:a.tmps[p]?.getD undef= .pointer (some ⟨g,0,none⟩):=by simp [sp]
 have h2:(results fn a.tmps).run P w'=((asAddr (a.tmps.getD p undef)).run P w').andThen fun x w₁=>(loadVar ty x).run P w₁:=by
  simp only [results,h]
  simp [Sem.run_bind,Result.andThen]
 rw [h2]
 simp [vG,asAddr,run_loadVar_row w' g t ty cs fr d rD hu hd hi,Result.andThen]
theorem oW {ds:List Deferred} {N p q:Nat} {v1 v2:Value} {fr:Act} (hf:Fc.J4 ds N fr) (hp:Nat.blt p N=true) (hq:Nat.blt q N=true) (hpq:Nat.beq p q=false) {M:Act->Prop}
  (h:∀ a1:Act,Fc.Fr N a1->a1.tmps[p]? =some v1->a1.tmps[q]? =some v2->(∀ t,Nat.beq p t=false->Nat.beq q t=false->a1.tmps[t]? =fr.tmps[t]?)->M a1):M { tmps:=(#[p,q].zip #[v1,v2]).foldl (fun t (p,v)=>t.setIfInBounds p v) fr.tmps,defers:=[] }:=by
 have vG:p<fr.tmps.size:=hf.l p hp
 have hq':q<fr.tmps.size:=hf.l q hq
 have E6:p≠q:=Nat.ne_of_beq_eq_false hpq
 have e:(#[p,q].zip #[v1,v2]).foldl (fun t (p,v)=>t.setIfInBounds p v) fr.tmps=(fr.tmps.setIfInBounds p v1).setIfInBounds q v2:=sP
 rw [e]
 refine h _ ⟨by simp [hf.size],rfl⟩ ?_ ?_ fun t h1 h2=> ?_
 ·simp [Array.getElem?_setIfInBounds,E6.symm,vG]
 ·simp [Array.getElem?_setIfInBounds,hq']
 ·simp [Array.getElem?_setIfInBounds,Nat.ne_of_beq_eq_false h1,Nat.ne_of_beq_eq_false h2]
theorem rF (m p0 p1 init k:Nat) (ss:List State) (st:State) (sv:Value) (W0:World) (Kp:World->World->Prop) (F:World->Prop) (hF:∀ {V:World},F V->V.cell? ⟨p0,0,none⟩=some sv/\V.cell? ⟨p0,1,none⟩=some (.int .u64 init)/\V.cell? ⟨p1,0,none⟩=some (.int .i64 k)/\RS V sv ss) (hFb:∀ {A B:World},Below A.heap.size A B->F A->F B) (hFk:∀ {A B:World},Kp A B->F A->F B) (hKs:∀ {A B:World},Kp A B->A.heap.size<=B.heap.size) (hF0:F W0) (hk:ss[k]? =some st) (nY:ss.length<=1000000000) (a8:okArcs k (-1) st.a6=true) (hlen:st.a6.length<=1000000)
  (hKo:∀ {A B:World} (g:Nat) (cs:Array Value),W0.heap.size+2<=g->Kp A B->A.heap[g]? =some (.cells cs 5 (0,0))->B.heap[g]? =some (.cells cs 5 (0,0))) :
  Iter m Tryz.prog (fun _=>False) 156 #[.pointer (some ⟨p0,0,none⟩),.pointer (some ⟨p1,0,none⟩)] (fun x:r7=> #[.int .u8 x.byte,.agg #[.int .i64 x.to,.int .u64 x.out]]) Kp (fun xs=>xs=st.a6) (fun pre=>pre <+: st.a6) (fun pre x=>pre++[x] <+: st.a6) W0:=by
 intro l J Jx W hb F7 hJ _ hY h0
 exact callsIn_wide.2 (x3h W m l p0 p1 init k ss st sv J Jx Kp F hY hJ hF hFb hFk hKs (fun g cs hg=>hKo g cs oM) (hFb hb hF0) hk nY a8 hlen h0)
theorem wF (m p0 p1 G N:Nat) (init k:Nat) (ss:List State) (st:State) (sv:Value) (W0:World) (hNG:N<=G) (hGW:G<W0.heap.size) (hNW:N<=W0.heap.size) (F1:p0≠G) (C5:p1≠G)
  (c0:W0.cell? ⟨p0,0,none⟩=some sv) (c1:W0.cell? ⟨p0,1,none⟩=some (.int .u64 init)) (k0:W0.cell? ⟨p1,0,none⟩=some (.int .i64 k)) (N3:oJ W0 N sv ss) (hk:ss[k]? =some st) (nY:ss.length<=1000000000) (a8:okArcs k (-1) st.a6=true) (hlen:st.a6.length<=1000000) :
  Iter m Tryz.prog (fun _=>False) 156 #[.pointer (some ⟨p0,0,none⟩),.pointer (some ⟨p1,0,none⟩)] (fun x:r7=> #[.int .u8 x.byte,.agg #[.int .i64 x.to,.int .u64 x.out]]) (CK G) (fun xs=>xs=st.a6) (fun pre=>pre <+: st.a6) (fun pre x=>pre++[x] <+: st.a6) W0 :=
 rF m p0 p1 init k ss st sv W0 (CK G) (fun V=>N<=V.heap.size/\V.cell? ⟨p0,0,none⟩=some sv/\V.cell? ⟨p0,1,none⟩=some (.int .u64 init)/\V.cell? ⟨p1,0,none⟩=some (.int .i64 k)/\oJ V N sv ss)
  (fun h=>⟨h.2.1,h.2.2.1,h.2.2.2.1,h.2.2.2.2.rs⟩) (fun hb h=>⟨Nat.le_trans h.1 hb.size,cL hb h.2.1,cL hb h.2.2.1,cL hb h.2.2.2.1,h.2.2.2.2.below (hb.mono h.1)⟩)
  (fun hc h=>⟨Nat.le_trans h.1 hc.1,hc.2.1 _ _ F1 h.2.1,hc.2.1 _ _ F1 h.2.2.1,hc.2.1 _ _ C5 h.2.2.2.1,h.2.2.2.2.ck hNG hc⟩) (fun hc=>hc.1) ⟨hNW,c0,c1,k0,N3⟩ hk nY a8 hlen (fun g cs hg hc hh=>hc.2.2 g _ oM rfl hh)
theorem rG {k:Nat} {st:State} (h:okArcs k (-1) st.a6=true) (ho:J8 st):st.a6.length<=256:=by
 have:=iQ _ _ _ h (fun a ha=>(ho.2.2 a ha).1) oM oM
 omega
end Dw
namespace Tl
open Sb (Pr Here Deps Got OkOps Dep isPath)
open Inr (Fe LI op_in noDefer nd_of fe_fn sem_in fe_depth)
section
variable {P:Program} {Q:Exit->Act->World->Prop} {l:List Oper} {a0:Act} {w0:World} {ps:List Pr} {n:Nat} {ds:List Deferred}
abbrev Qf:Exit->Act->World->Prop:=fun _ _ _=>False
abbrev w8j (n:Nat) (P:Program) (id:Nat) (l:List Oper) (Q:Exit->Act->World->Prop) (a0:Act) (w0:World) (ps:List Pr):Prop :=
 Sb.E3 (P.follows .mixedOrders=true/\wpAnyIn (Fe none) n P .any l.toArray Q l.length (Array.replicate l.length false) a0 { w0 with drawn:=w0.drawn+1 }) P id l.toArray Qf a0 w0 ps
theorem w3y (n:Nat) (k:Nat) {id:Nat} (h:Hid (OkOps l.toArray k)->w8j n P id l Q a0 w0 []) (a8:Sb.okOps l.toArray k=true:=by kernel_rfl):(Code.region id l.toArray true).wp P Q a0 w0:=by
 obtain ⟨h1,h2⟩:=(h (H9 (.of a8))).out Sb.z9f
 exact (wpIn_wide (n:=n)).1 (wpIn_region_any h1 h2)
theorem z7r {ops:Array Oper}:∀ fuel,anyG (wpOpIn (Fe none) n P ops Q) (Q .normal) ops fuel=wpAnyIn (Fe none) n P .any ops Q fuel
 | 0=>rfl
 | fuel+1=>by funext listed a w;unfold anyG wpAnyIn;rw [z7r fuel]
theorem y0o {o:Oper} {a:Act} {w:World} {K:Act->World->Prop} (hh:o.wp P a w K Qf):o.wp P a w K Q:=by
 unfold Oper.wp at *
 generalize (execOp a.eval o).run P w=r at *
 cases r with
 | ok n w' =>
  cases n<;>simp only [Oper.upon] at hh |- <;>
   first
    | exact hh
    | exact Calls.mono hh (fun e w'' he=>by cases e<;>first | exact he | exact he.elim | exact absurd he (fun ⟨_,_,h⟩=>h))
 | halt x w'=>cases x<;>simp only [Oper.upon] at hh |- <;> first | exact hh | exact hh.elim
theorem x3e (hd:noDefer l=true) {i:Nat} {K:Act->World->Prop} {a:Act} {w:World} (h:wpOp P l.toArray Qf i K a w):wpOpIn (Fe none) n P l.toArray Q i K a w:=by
 unfold wpOp at h
 unfold wpOpIn
 cases ho:l.toArray[i]? with
 | none=>rw [ho] at h;exact h
 | some o =>
  rw [ho] at h
  simp only at h |-
  split at h
  ·rename_i hw
   rw [if_pos hw]
   rcases h with h | h
   ·exact op_in (nd_of hd (U0 (by simpa using ho))) (y0o h)
   ·exact absurd h.2 (fun ⟨_,_,h⟩=>h)
  ·rename_i hw
   rw [if_neg hw]
   exact ⟨fun f _=>fe_fn none f,h⟩
theorem rH:∀ (k j:Nat) (a:Act) (w:World),k+j=l.length->wpListIn (Fe none) n P l.toArray Q (l.drop j) a w->y2x (wpOpIn (Fe none) n P l.toArray Q) (Q .normal) k j a w
 | 0,j,a,w,hk,h=>by
  rw [List.drop_of_length_le oM] at h
  exact h
 | k+1,j,a,w,hk,h=>by
  intro K hK
  have hj:j<l.length:=oM
  rw [List.drop_eq_getElem_cons hj] at h
  unfold wpListIn at h
  unfold wpOpIn
  rw [show l.toArray[j]? =some l[j] by simp [hj]]
  simp only
  split at h
  ·rename_i hw
   rw [if_pos hw]
   exact Oper.wpIn_mono (fun a w h=>hK a w (rH k (j+1) a w oM h)) h
  ·rename_i hw
   rw [if_neg hw]
   exact ⟨h.1,hK _ _ (rH k (j+1) _ w oM h.2)⟩
theorem z2u {id k:Nat} (m:Nat) (ws:List (Nat×Nat×List Nat)) (hf:Fc.J4 ds k a0) (a8:Hid (OkOps l.toArray k))
  (q9:∀ a w,Here l.toArray a0 w0 a w->Hid (∀ i,i<m->Got l.toArray ps i a w)->LI none n P l.toArray Q (l.drop m) a w) (hlen:ps.length=m:=by rfl) (nS:Nat.blt m l.length=true:=by rfl) (hch:chain1 l m ws=true:=by kernel_rfl) (hd:noDefer l=true:=by rfl) (hm:P.follows .mixedOrders=true:=by kernel_rfl):w8j n P id l Q a0 w0 ps:=by
 have a8:=a8.out
 have hn:=hf.size
 subst hn
 refine ⟨fun hg=> ?_⟩
 refine ⟨hm,?_⟩
 rw [<- z7r]
 refine z9e (Nat.le_of_ble_eq_true nS) (fun k i h1 h2 h3=>chain_dep hch h1 h2 h3) a8 hlen hg.1 (fun i hi a w h1 h2 K hK=>x3e hd (hg.2 i oM a w h1 h2 K hK)) (fun a w hh iB=>rH _ _ _ _ (by have:=Nat.le_of_ble_eq_true nS;omega) (q9 a w hh (H9 iB)).out) _ _ _ _ sP ?_ (fun i hi=> ?_) ?_
 ·exact Nat.le_trans List.countP_le_length sP
 ·by_cases h:i<l.length
  ·simp [h]
  ·simp [h]
 ·refine ⟨⟨⟨rfl,rfl,rfl,nR,fun _ _=>rfl⟩,rfl,rfl,fun _ _=>rfl⟩,fun i o ho hl=> ?_,fun i hi hl=> ?_,fun _ _=>rfl⟩
  ·have hi:=(Array.getElem?_eq_some_iff.1 ho).1
   simp at hi
   simp [hi] at hl
  ·simp at hi
   simp [hi] at hl
end
end Tl
namespace Inr
section
variable {P:Program} {n:Nat} {Q:Exit->Act->World->Prop} {r:Option Nat} {l rest:List Oper} {o x:Oper} {a:Act} {w:World} {g d:Nat} {b:Bool}
theorem w8i (hg:o.guard=some (g,b)) (bH:l[g]? =some x) (hd:x.dst=some d) (hv:a.tmps[d]? =some (.bool b)):Region.wanted o (yielded l.toArray a.tmps)=true:=by
 simp [Region.wanted,hg,yielded,bH,hd,hv]
theorem ogI (h:∀ K:Act->World->Prop,Hid (∀ a w,LI r n P l.toArray Q rest a w->K a w)->o.wp P a w K Q) (hg:o.guard=some (g,b):=by rfl) (bH:l[g]? =some x:=by rfl) (hd:x.dst=some d:=by rfl) (hv:a.tmps[d]? =some (.bool b):=by first | assumption | (simp (decide:=true) only [Fc.G,reduceIte,hf.size];assumption)) (hnd:noDefer [o]=true:=by rfl):LI r n P l.toArray Q (o::rest) a w:=by
 refine ⟨?_⟩
 unfold wpListIn
 rw [if_pos (w8i hg bH hd hv)]
 exact op_in (nd_of hnd (List.mem_singleton.2 rfl)) (h _ (H9 fun a w hl=>hl.out))
theorem w3x {lp:Nat} {y0q:Array Value} {R:Ending->World->Prop} (hy:YieldAt (Fe r) (n-1) P lp y0q w R) (hs:(execOp a.eval o).run P w=(Instr.yield lp y0q).run P w)
  (hR:∀ e w',R e w'->∃ v,e= .returned v/\LI r n P l.toArray Q rest (a.put o.dst v) w') (hv:a.tmps[d]? =some (.bool b)) (hg:o.guard=some (g,b):=by rfl) (bH:l[g]? =some x:=by rfl) (hd:x.dst=some d:=by rfl) (hnd:noDefer [o]=true:=by rfl):LI r n P l.toArray Q (o::rest) a w:=by
 obtain ⟨fn,tmps,asg,body,h1,h2⟩:=hy
 refine ⟨?_⟩
 unfold wpListIn
 rw [if_pos (w8i hg bH hd hv)]
 refine ⟨fun f _=>fe_fn r f,?_⟩
 rw [sem_in r _ (nd_of hnd (List.mem_singleton.2 rfl)),hs,h1]
 refine ⟨fun h=>(by rw [fe_depth] at h;cases h),RoundIn.mono h2 fun e w' hr=> ?_⟩
 obtain ⟨v,rfl,h⟩:=hR e w' hr
 exact h.out
end
end Inr
namespace Dw
structure Wd where
 w:ByteArray
 n:Nat
 b:Bool
def Wd.args (x:Wd):Array Value:= #[.string x.w,.agg #[.int .u64 x.n,.bool x.b]]
def walkS (ss:List State) (fr:List Nat):Nat->Nat->ByteArray->Nat->Bool->List Wd
 | 0,_,_,_,_=>[]
 | f+1,k,u,n,b=>if lexlt (wl u) (fr.take u.size) then [] else match ss[k]? with
  | none=>[]
  | some st=>(if st.final&& !lexlt (wl u) fr then [⟨u,(n+st.out)%y5,b&&decide (n+st.out<y5)⟩] else [])++st.a6.flatMap fun a=>walkS ss fr f a.to.toNat (u++bl [a.byte]) ((n+a.out)%y5) (b&&decide (n+a.out<y5))
def z2t (st:State) (fr:List Nat) (u:ByteArray) (n:Nat) (b:Bool):List Wd:=if st.final&& !lexlt (wl u) fr then [⟨u,(n+st.out)%y5,b&&decide (n+st.out<y5)⟩] else []
def y0n (ss:List State) (fr:List Nat) (f:Nat) (u:ByteArray) (n:Nat) (b:Bool) (a:r7):List Wd:=walkS ss fr f a.to.toNat (u++bl [a.byte]) ((n+a.out)%y5) (b&&decide (n+a.out<y5))
theorem eW {ss:List State} {fr:List Nat} {f k n:Nat} {u:ByteArray} {b:Bool} (h:lexlt (wl u) (fr.take u.size)=true):walkS ss fr (f+1) k u n b=[]:=by rw [walkS,if_pos h]
theorem rJ {ss:List State} {fr:List Nat} {f k n:Nat} {u:ByteArray} {b:Bool} {st:State} (h:lexlt (wl u) (fr.take u.size)=false) (y8:ss[k]? =some st):walkS ss fr (f+1) k u n b=z2t st fr u n b++st.a6.flatMap (y0n ss fr f u n b):=by
 rw [walkS,if_neg (by rw [h];decide),y8]
 rfl
def z7q (o:Obj):Prop:=∃ cs fz,o= .cells cs 64 fz
theorem nE {cs:Array Value} {t:TypeId} {fz:Nat×Nat} (h:Nat.beq t 64=false):¬ z7q (.cells cs t fz):=fun ⟨_,_,e⟩=>by injection e with _ e2 _;rw [e2] at h;cases h
theorem nE' {o:Obj} (h:o.isCells=false):¬ z7q o:=fun ⟨_,_,e⟩=>by rw [e] at h;cases h
def Cw (o:Obj):Prop:=o.isCells=false\/∃ b,o= .cells #[.bool b] 4 (0,0)
theorem _root_.Go.Proofs.YtcddnmhmcieebaaGreatDoor.j9.mono {C C':Obj->Prop} {B B':Nat} {I:World->Prop} (h:j9 C B I) (hc:∀ o,C' o->C o) (hB:B<=B'):j9 C' B' I :=
 fun W W' row hs hg hr=>h W W' row hs hg fun r e=>by obtain ⟨h1,o,h2,h3⟩:=hr r e;exact ⟨oM,o,h2,hc o h3⟩
structure KC (F:World->Prop) (M:Nat) (A B:World):Prop where
 size:A.heap.size<=B.heap.size
 held:F A->F B
 kept:∀ (g:Nat) (o:Obj),M<=g->¬ z7q o->A.heap[g]? =some o->B.heap[g]? =some o
def Low (F:World->Prop) (M:Nat):Prop:=∀ A A' row,F A->A.grownBy A' row->(∀ r,row=some r->M<=r)->F A'
section
variable {F:World->Prop} {M B0:Nat} {A B C:World}
theorem Low.below (h:Low F M) (hb:Below A.heap.size A B) (hf:F A):F B:=h A B none hf (mH hb) (fun r e=>by cases e)
theorem KC.refl (F:World->Prop) (M:Nat) (A:World):KC F M A A:=⟨nR,id,fun _ _ _ _ h=>h⟩
theorem KC.trans (h:KC F M A B) (k:KC F M B C):KC F M A C:=⟨Nat.le_trans h.size k.size,fun x=>k.held (h.held x),fun g o a b c=>k.kept g o a b (h.kept g o a b c)⟩
theorem KC.below (hF:Low F M) (hb:Below A.heap.size A B):KC F M A B:=⟨hb.size,hF.below hb,fun g o _ _ h=>(hb.block g (j4 h)).trans h⟩
theorem KC.turn (h:KC F M A B) (hF:Low F M) {g:Nat} (hg:A.heap.size<=g) (hM:M<=A.heap.size) (hk:B.grownBy C (some g)):KC F M A C :=
 ⟨Nat.le_trans h.size hk.size,fun x=>hF B C (some g) (h.held x) hk (fun r e=>by cases e;omega),fun k o a b c=>by
  have h1:=j4 c
  exact (hk.block k (j4 (h.kept k o a b c)) (fun e=>by injection e with e;omega)).trans (h.kept k o a b c)⟩
theorem KC.stays (hF:Low F M) (hA:A.heap.size<=B0) (hM:M<=A.heap.size) {D:Obj->Prop}:j9 D B0 (fun W=>KC F M A W):=by
 intro W W' row hs hg hr
 cases row with
 | none=>exact ⟨Nat.le_trans hs.size hg.size,fun x=>hF W W' none (hs.held x) hg (fun r e=>by cases e),fun k o a b c=>(hg.block k (j4 (hs.kept k o a b c)) sP).trans (hs.kept k o a b c)⟩
 | some r=>exact hs.turn hF (g:=r) (by have:=(hr r rfl).1;omega) hM hg
structure KI (F:World->Prop) (M B0:Nat) (A B:World):Prop where
 size:A.heap.size<=B.heap.size
 held:F A->F B
 kept:∀ (g:Nat) (o:Obj),M<=g->(g<B0\/o.isCells=true)->¬ z7q o->A.heap[g]? =some o->B.heap[g]? =some o
theorem KC.ki (h:KC F M A B):KI F M B0 A B:=⟨h.size,h.held,fun g o a _ b c=>h.kept g o a b c⟩
theorem KI.trans (h:KI F M B0 A B) (k:KI F M B0 B C):KI F M B0 A C:=⟨Nat.le_trans h.size k.size,fun x=>k.held (h.held x),fun g o a b c d=>k.kept g o a b c (h.kept g o a b c d)⟩
theorem KI.put (hF:Low F M) {l:Nat} {o o':Obj} (hl:B0<=l) (hM:M<=B0) (ho:A.heap[l]? =some o) (hc:o.isCells=false):KI F M B0 A (A.putObj l o') :=
 ⟨sP,fun x=>hF A _ (some l) x (grownBy_putObj' A l o') (fun r e=>by cases e;omega),fun g o2 _ a _ c=>by
  by_cases e:g=l
  ·subst e
   rw [ho] at c
   injection c with c
   subst c
   rcases a with a | a
   ·omega
   ·rw [hc] at a;cases a
  ·exact (World.putObj_heap_other e).trans c⟩
theorem KC.from (h:KC F M A B) (hM:M<=B0):KeepsFrom B0 A B:=⟨h.size,fun k o a b c=>h.kept k o (Nat.le_trans hM a) (nE' c) b⟩
end
theorem oX {W W9:World} {g:Nat} {b b':Bool} (h:W.heap[g]? =some (.cells #[.bool b] 4 (0,0))) (h9:W.setCell ⟨g,0,none⟩ (.bool b')=W9):W9.heap[g]? =some (.cells #[.bool b'] 4 (0,0))/\W.grownBy W9 (some g)/\∀ (I:World->Prop) (B:Nat),j9 Cw B I->B<=g->I W->I W9:=by
 subst h9
 refine ⟨by have:=j5 (i:=0) h (.bool b');simpa using this,grownBy_setCell' W g _,fun I B hI hB hs=>hI W _ (some g) hs (grownBy_setCell' W g _) (fun r e=>by cases e;exact ⟨hB,_,h,.inr ⟨b,rfl⟩⟩)⟩
theorem jX {P:Program} {fn:Func} {tmps:Array Value} {R:Ending->World->Prop} {G:Nat} {S:World->Prop} (hS:j9 (fun o=>o.isCells=false) (G+1) S):∀ {ds:List Deferred} {n:Nat} {w:World},L4 G ds n w->S w ->
  (∀ w',Below (G+1) w w'->S w'->∃ v,(results fn tmps).run P w'= .ok v w'/\R (.returned v) w')->LeavesInM Fence.wide 9 P fn tmps R ds .returning w
 | [],n,w,_,hs,h=>h w (Below.refl _ _) hs
 | d::ds,n,w,⟨D,h1,h2,h3,h4,h5⟩,hs,h=>by
  subst h1
  refine ⟨sP,.inl ⟨_,_,rfl,run_takeDeferred h4,?_⟩⟩
  have hb:Below (G+1) w (w.putObj D (.deferred none)):=(Below.refl _ w).grown (grownBy_putObj' w D _) (by have:=(Array.getElem?_eq_some_iff.1 h4).1;omega) (fun k e=>by cases e;omega)
  exact jX hS (h5.turn nR fun E _ e2 hE=>(World.putObj_heap_other oM).trans hE) (hS.put hs _ h4 oM rfl) fun w' hw=>h w' (hb.trans hw)
theorem y9d {P:Program} {fn:Func} {R:Ending->World->Prop} {G n N p g:Nat} {ty t:TypeId} {ds:List Deferred} {a:Act} {w:World} {x:Value} {fr:Nat×Nat} {S:World->Prop} (hS:j9 (fun o=>o.isCells=false) (G+1) S) (h:fn.results= #[.cell p ty]) (hf:Fc.J4 ds N a)
  (sp:a.tmps[p]? =some (.pointer (some ⟨g,0,none⟩))) (hg:w.heap[g]? =some (.cells #[x] t fr)) (hgG:g<=G) (hu:∀ w,(isAgg ty).run P w= .ok false w)
  (hc:L4 G ds n w) (hs:S w) (hR:∀ w',Below (G+1) w w'->S w'->R (.returned x) w'):bodyPostM Fence.wide 9 P fn R .ret a w:=by
 show LeavesInM Fence.wide 9 P fn a.tmps R a.defers .returning w
 rw [hf.defers]
 refine jX hS hc hs fun w' hw hs'=>⟨x,?_,hR w' hw hs'⟩
 have rD:=(hw.block g oM).trans hg
 have vG:a.tmps[p]?.getD undef= .pointer (some ⟨g,0,none⟩):=by simp [sp]
 have hc':=cell_of_row _ _ 0 _ t fr rD
 simp at hc'
 simp [results,h,Sem.run_bind,vG,asAddr,loadVar,go_sem,hu,hc',Result.andThen]
theorem y9c {P:Program} {fn:Func} {R:Ending->World->Prop} {G n N p g:Nat} {ty t:TypeId} {ds:List Deferred} {a:Act} {w:World} {b:Bool} {fr:Nat×Nat} {S:World->Prop} (hS:j9 (fun o=>o.isCells=false) (G+1) S) (h:fn.results= #[.cell p ty]) (hf:Fc.J4 ds N a)
  (sp:a.tmps[p]? =some (.pointer (some ⟨g,0,none⟩))) (hg:w.heap[g]? =some (.cells #[.bool b] t fr)) (hgG:g<=G) (hu:∀ w,(isAgg ty).run P w= .ok false w)
  (hc:L4 G ds n w) (hs:S w) (hR:∀ w',Below (G+1) w w'->S w'->R (.returned (.bool b)) w'):bodyPostM Fence.wide 9 P fn R .ret a w:=y9d hS h hf sp hg hgG hu hc hs hR
end Dw
end Go.Proofs.YtcddnmhmcieebaaGreatDoor
