import Derived.Test.YtcddnmhmcieebaaGreatDoorY5
import Derived.Recover
import Derived.Tactics
import Derived.Tactics2
import Derived.RegionTactic
namespace Go.Proofs.YtcddnmhmcieebaaGreatDoor
set_option linter.unusedSimpArgs false
set_option linter.unusedVariables false
set_option linter.unnecessarySimpa false
set_option maxHeartbeats 4000000
set_option maxRecDepth 100000
open Go.RowKit
namespace Dw
def y4m (w w1:World) (e:Ending) (g:Nat):Except J9 (Nat×Nat×List State)->Prop
 | .error b=>eU w w1 e g b
 | .ok (en,init,ss)=>∃ sv,e= .returned (.tuple #[.int .i64 en,.agg #[sv,.int .u64 init]])/\(∀ w',n4 (fun k=>k<w.heap.size) w1 w'->RS w' sv ss)/\n4 (fun k=>k=g) w w1
theorem ku {P:Program} {fn:Func} {R:Ending->World->Prop} {n p u g:Nat} {ty t:TypeId} {a:Act} {w:World} {x:Value} {cs:Array Value} {fr:Nat×Nat} {d:TypeDesc} (h:fn.results= #[.tmp u,.cell p ty]) (hf:Fc.Fr n a)
  (su:a.tmps[u]? =some x) (sp:a.tmps[p]? =some (.pointer (some ⟨g,0,none⟩))) (hg:w.heap[g]? =some (.cells cs t fr)) (hu:P.underlying ty=some d) (hd:(match d with | .struct _ | .array _ _=>true | _=>false)=true)
  (hi:(P.info? ty).map (·.size)=some cs.size) (hR:R (.returned (.tuple #[x,.agg cs])) w):bodyPost P fn R .ret a w:=by
 refine bodyPost_ret (v:= .tuple #[x,.agg cs]) ?_ hf.defers hR
 have oX:a.tmps[p]?.getD undef= .pointer (some ⟨g,0,none⟩):=by simp [sp]
 simp [results,h,Sem.run_bind,oX,asAddr,run_loadVar_row w g t ty cs fr d hg hu hd hi,Result.andThen,su]
theorem bM:(Tryz.prog.info? 46).map (fun i=>(i.zero,i.size,i.bytes))=some (some (.agg #[.slice none 0 0,.bool false,.int .u64 0]),3,40):=kR
def Q4 (g:Nat) (s:ByteArray) (j:Nat) (st:State) (N:Nat):Sb.Pr:=fun x wz=>∃ A4 c4 B4,x= .agg #[.slice A4 st.j4.length c4,.bool st.final,.int .u64 st.out]/\RD wz g s j/\OA wz B4 (.slice A4 st.j4.length c4) st.j4/\N<=B4
theorem Q4.u5 (g:Nat) (s:ByteArray) (j:Nat) (st:State) (N:Nat):Sb.Stable (Q4 g s j st N):=fun v w w' hb ⟨A,c,B,h1,h2,h3,h4⟩=>⟨A,c,B,h1,h2.later hb,n3 h3 hb,h4⟩
def Q5 (g:Nat) (s:ByteArray) (j:Nat) (st:State) (N:Nat):Sb.Pr:=fun x wz=>∃ A4 c4 B4,oZ [.slice A4 st.j4.length c4,.bool st.final,.int .u64 st.out] x wz/\RD wz g s j/\OA wz B4 (.slice A4 st.j4.length c4) st.j4/\N<=B4
theorem Q5.u5 (g:Nat) (s:ByteArray) (j:Nat) (st:State) (N:Nat):Sb.Stable (Q5 g s j st N):=fun v w w' hb ⟨A,c,B,h1,h2,h3,h4⟩=>⟨A,c,B,oZ.u5 _ v w w' hb h1,h2.later hb,n3 h3 hb,h4⟩
def Q6 (base g:Nat) (s:ByteArray) (j:Nat) (l:List (Value×State)) (st:State):Sb.Pr:=fun v wz=>∃ (y:Value×State) (C:Nat->Prop),SR wz base C v (l++[y])/\y.2=st/\RD wz g s j/\v.ownBlock≠some base/\∀ k,C k->base<k/\k<wz.heap.size/\v.ownBlock≠some k
theorem Q6.u5 (base g:Nat) (s:ByteArray) (j:Nat) (l:List (Value×State)) (st:State):Sb.Stable (Q6 base g s j l st):=fun v w w' hb ⟨y,C,h1,h2,h3,h4,h5⟩=>⟨y,C,h1.later hb,h2,h3.later hb,h4,fun k hk=>⟨(h5 k hk).1,Nat.lt_of_lt_of_le (h5 k hk).2.1 hb.size,(h5 k hk).2.2⟩⟩
theorem Q6.mk {w1 w3:World} {base g j N B4:Nat} {s:ByteArray} {C:Nat->Prop} {sv v3:Value} {A4:Option Addr} {c4:Nat} {l:List (Value×State)} {st:State} (eA:SR w1 base C sv l) (uJ:sv.ownBlock≠some base) (hC:∀ k,C k->base<k/\k<N/\sv.ownBlock≠some k) (hN:N<=w1.heap.size) (hBN:base<N) (hr:RD w1 g s j) (rJ:sv.ownBlock≠some g) (S1:OA w1 B4 (.slice A4 st.j4.length c4) st.j4) (FF:N<=B4) (Fj:∀ k,sv.ownBlock=some k->k<N) (lW:w1.grownBy w3 sv.ownBlock) (kT:w3.ownsRow base 46 3 v3 (l.length+1) (Sd l++[.slice A4 st.j4.length c4,.bool st.final,.int .u64 st.out])) (jE:v3.ownBlock=sv.ownBlock\/v3.ownBlock=some w1.heap.size):Q6 base g s j l st v3 w3:=by
 have AE:n4 (fun k=>sv.ownBlock=some k) w1 w3:=n4.grown lW (fun k hk=>hk)
 have C8:=AE.size
 refine ⟨(.slice A4 st.j4.length c4,st),fun k=>C k\/(.slice A4 st.j4.length c4:Value).ownBlock=some k,⟨?_,fun x hx=> ?_⟩,rfl,AE.heap hr rJ,?_,fun k hk=> ?_⟩
 ·rw [List.length_append,rP];exact kT
 ·rcases List.mem_append.1 hx with hx | hx
  ·exact ((eA.j4 x hx).but AE (fun k hk h=>(hC k hk).2.2 h)).more (fun k _ hk=> .inl hk)
  ·simp at hx
   subst hx
   exact ((S1.ra (B:=fun k=>(.slice A4 st.j4.length c4:Value).ownBlock=some k) (fun k hk=>hk)).but AE (fun k hk h=>by have h1:=(World.ownsRow.lt S1 k hk).1;have h2:=Fj k h;omega)).more (fun k _ hk=> .inr hk)
 ·rcases jE with e | e
  ·rw [e];exact uJ
  ·rw [e];intro e2;injection e2 with e2;omega
 ·rcases hk with hk | hk
  ·have h1:=hC k hk
   refine ⟨h1.1,oM,?_⟩
   rcases jE with e | e
   ·rw [e];exact h1.2.2
   ·rw [e];intro e2;injection e2 with e2;omega
  ·have h1:=World.ownsRow.lt S1 k hk
   refine ⟨oM,oM,?_⟩
   rcases jE with e | e
   ·rw [e];intro e2;have:=Fj k e2;omega
   ·rw [e];intro e2;injection e2 with e2;omega
def Q8 (base g:Nat) (s:ByteArray) (j:Nat) (l:List (Value×State)) (st:State) (wz:World):Prop:=∃ (v:Value) (y:Value×State) (C:Nat->Prop),wz.heap[base]? =some (.cells #[v,.int .u64 0] 38 (0,0))/\SR wz base C v (l++[y])/\y.2=st/\RD wz g s j/\v.ownBlock≠some base/\∀ k,C k->base<k/\k<wz.heap.size/\v.ownBlock≠some k
theorem Q8.later {base g j:Nat} {s:ByteArray} {l:List (Value×State)} {st:State} {w w':World} (hb:Below w.heap.size w w') (h:Q8 base g s j l st w):Q8 base g s j l st w':=by
 obtain ⟨v,y,C,h0,h1,h2,h3,h4,h5⟩:=h
 exact ⟨v,y,C,(hb.block _ (j5 h0)).trans h0,h1.later hb,h2,h3.later hb,h4,fun k hk=>⟨(h5 k hk).1,Nat.lt_of_lt_of_le (h5 k hk).2.1 hb.size,(h5 k hk).2.2⟩⟩
theorem Q8.mk {w1:World} {base g j:Nat} {s:ByteArray} {l:List (Value×State)} {st:State} {v0 v:Value} {y:Value×State} {C:Nat->Prop} (h0:w1.heap[base]? =some (.cells #[v0,.int .u64 0] 38 (0,0))) (XT:g<base) (h1:SR w1 base C v (l++[y])) (h2:y.2=st) (h3:RD w1 g s j) (h4:v.ownBlock≠some base) (h5:∀ k,C k->base<k/\k<w1.heap.size/\v.ownBlock≠some k):Q8 base g s j l st (w1.setCell ⟨base,0,none⟩ v):=by
 have hb:n4 (fun k=>k=base) w1 (w1.setCell ⟨base,0,none⟩ v):=n4.setCell (S:=fun k=>k=base) rfl _
 exact ⟨v,y,C,(k7 (i:=0) h0 v).trans sP,h1.but hb (fun k hk e=>h4 (by rw [hk,e])) (fun k hk e=>by have:=(h5 k hk).1;omega),h2,hb.heap h3 (by intro e;omega),h4,fun k hk=>⟨(h5 k hk).1,Nat.lt_of_lt_of_le (h5 k hk).2.1 hb.size,(h5 k hk).2.2⟩⟩
theorem Yc (w:World) (g:Nat) (s:ByteArray) (hr:RD w g s 0) (C8:s.size<=1000000000):Calls Tryz.prog 33 #[.pointer (some ⟨g,0,none⟩)] w fun e w1=>y4m w w1 e g (pAll s):=by
 refine L7 52 Tryz.func33 fun fr hf s0=> ?_
 generalize MW:pAll s=r
 have RL:=H9 MW;clear MW
 have Je:=j5 hr
 refine Ze fun _ a8=>Zr [] hf ?_
 refine y4 0 3 hf ?_
 clear hf s0;intro a7 hf sS
 generalize p8:w.alloc (.cells #[.slice none 0 0,.int .u64 0] 38)=W0
 have K8:Below w.heap.size w W0:=by rw [<- p8];exact (Below.refl _ _).alloc nR _
 have bK:W0.heap[w.heap.size]? =some (.cells #[.slice none 0 0,.int .u64 0] 38 (0,0)):=by rw [<- p8];exact heap_alloc_new w _
 clear p8
 have R9:=hr.later K8
 have RP:n4 (fun k=>k=g\/w.heap.size<=k) w W0:=n4.of _ K8
 clear hr K8
 refine Zs a8 fun _ a8=>Ze fun _ j8=>Zr [] hf ?_
 refine y7 0 3 7 hf ?_
 intro a7 hf sS
 refine Zx j8 (wp_block (wp_loop_ghost (fun gk fr wr=>∃ (k:Nat),gk=3-k/\k<=3/\Fc.Fr 52 fr/\fr.tmps[0]? =some (.pointer (some ⟨g,0,none⟩))/\fr.tmps[3]? =some (.pointer (some ⟨w.heap.size,0,none⟩))/\fr.tmps[7]? =some (.int .i64 k)/\pMagic s 3 0 0=pMagic s (3-k) k k/\RD wr g s k/\k<=s.size/\wr.heap[w.heap.size]? =some (.cells #[.slice none 0 0,.int .u64 0] 38 (0,0))/\n4 (fun k=>k=g\/w.heap.size<=k) w wr) (3) ?_ ?_))
 . (
 obtain ⟨s0,s3,s7⟩:=sS
 exact ⟨0,rfl,Nat.zero_le _,hf,s0,s3,s7,rfl,R9,Nat.zero_le _,bK,RP⟩)
 . (
 clear hf sS
 rintro gk fr wr ⟨k,hk,aN,hf,s0,s3,s7,Db,X8,iC,wY,mZ⟩
 have HK:=H9 hk;have yS:=H9 Db;clear hk Db
 refine Ze fun _ j8=>Zr [] hf ?_
 refine z8 0 3 7 8 hf ?_
 clear hf s0 s3 s7;intro a7 hf sS
 refine Zs j8 fun _ j8=>Fc.l0 sS.2.2.2 (fun hq=> ?_) (fun hq=> ?_)
 . (
 have bC:k<3:=qT
 clear hq
 obtain ⟨u,hu⟩:∃ u,3-k=u+1:=⟨3-k-1,oM⟩
 have HU:=H9 hu;clear hu
 refine wp_skip (Zs j8 fun _ j8=>wp_block (Ze fun _ l8=>Zr [9,4] hf ?_))
 refine z8 0 3 4 7 hf ?_
 intro a7 hf sS
 generalize AG:wr.alloc (.cells #[.int .i64 k] 3)=W6
 obtain ⟨C4,c6, -, -⟩:=oY AG
 clear AG
 have ER:=X8.later C4
 have LX:=(C4.block _ (j5 wY)).trans wY
 have Cx:n4 (fun k=>k=g\/w.heap.size<=k) w W6:=mZ.trans (n4.of _ C4)
 refine Zx l8 ?_
 rcases T8:pD s k k with bz | ⟨xm,j1⟩
 . (
 have lM:=H9 T8;clear T8
 have he:r= .error bz:=by rw [<- RL.out];unfold pAll;rw [yS.out,HU.out];simp only [pMagic,lM.out]
 subst he
 refine rg ?_
 have bB:=hf.B2 10 11
 iterate 2 refine Zy ?_
 refine fp fun K Z=> ?_
 go_simp
 go_at_call 57;refine (YT W6 g s k ER iC C8 k wr.heap.size bC c6).mono ?_;rintro e wz D0
 rw [lM.out] at D0
 obtain ⟨q,rfl,X0,sV,uV⟩:=D0
 try dsimp only
 try dsimp only
 exact eT hf.defers (eU.via Cx ⟨q,rfl,X0,sV,uV⟩))
 . (
 have YU:=H9 T8;clear T8
 refine rg ?_
 have bB:=hf.B2 10 11
 iterate 2 refine Zy ?_
 refine Zc (YT W6 g s k ER iC C8 k wr.heap.size bC c6) ?_;rintro e w7 D0
 rw [YU.out] at D0
 obtain ⟨rfl,YW,B1⟩:=D0
 have pr:=B1.heap LX (by intro e;have e:w.heap.size=g:=e;omega)
 have nD:n4 (fun k=>k=g\/w.heap.size<=k) w w7:=Cx.trans (B1.mono (fun k _ h=> .inl h))
 clear B1 LX Cx ER
 refine Zv ?_
 refine Fc.nil (y7 0 3 7 hf ?_)
 intro a7 hf sS
 obtain ⟨hj,DS,_⟩:=qE iC YU.out
 have hH:pMagic s 3 0 0=pMagic s (3-(k+1)) (k+1) (k+1):=by rw [yS.out,HU.out,show 3-(k+1)=u by have:=HU.out;omega];simp only [pMagic,YU.out];rw [hj]
 rw [hj] at YW DS
 refine Fc.j9 (Zx j8 (Zr [13] hf ?_))
 refine y7 0 3 7 hf ?_
 intro a7 hf sS
 refine Fc.j7 ?_
 obtain ⟨s0,s3,s7⟩:=sS
 exact ⟨_,by have:=HK.out;omega,k+1,rfl,oM,hf,s0,s3,by rw [s7];rfl,hH,YW,DS,pr,nD⟩))
 . (
 have iB:k=3:=qF
 subst iB
 have hpm:pMagic s 3 0 0= .ok 3:=yS.out
 have po:=H9 hpm;clear hpm hq
 refine Zo ?_
 refine Zx a8 ?_
 rcases T8:L5 s 0 100000 3 with bz | ⟨en,p1⟩
 . (
 have lM:=H9 T8;clear T8
 have he:r= .error bz:=by rw [<- RL.out];unfold pAll;simp only [po.out,lM.out]
 subst he
 refine Ze fun _ a8=>rg ?_
 have bB:=hf.B3 14 15 16
 refine Zy ?_
 refine fp fun K Z=> ?_
 go_simp
 go_at_call 59;refine (V9 wr g s 3 X8 iC C8 0 100000).mono ?_;rintro e wz D0
 rw [lM.out] at D0
 obtain ⟨q,rfl,X0,sV,uV⟩:=D0
 try dsimp only
 try dsimp only
 exact eT hf.defers (eU.via mZ ⟨q,rfl,X0,sV,uV⟩))
 . (
 have RQ:=H9 T8;clear T8
 have Tz:=G6 RQ.out
 have GS:en<=100000:=Tz.2.2.2.2.1
 refine Ze fun _ a8=>rg ?_
 have bB:=hf.B3 14 15 16
 refine Zy ?_
 refine Zc (V9 wr g s 3 X8 iC C8 0 100000) ?_;rintro e w8 D0
 rw [RQ.out] at D0
 obtain ⟨rfl,UN,aA⟩:=D0
 have Dg:=aA.heap wY (by intro e;have e:w.heap.size=g:=e;omega)
 have yR:n4 (fun k=>k=g\/w.heap.size<=k) w w8:=mZ.trans (aA.mono (fun k _ h=> .inl h))
 clear aA wY mZ X8
 refine Zv ?_
 refine fp fun K Z=> ?_
 go_simp
 try rw [Fc.wrap_i64 oM oM]
 apply Z.out;clear Z K
 refine Zy ?_
 refine Fc.nil (y7 0 2 3 hf ?_)
 intro a7 hf sS
 refine Zx a8 ?_
 rcases T8:L5 s 1 18446744073709551615 p1 with bz | ⟨n,p2⟩
 . (
 have lM:=H9 T8;clear T8
 have he:r= .error bz:=by rw [<- RL.out];unfold pAll;simp only [po.out,RQ.out,lM.out]
 subst he
 refine Ze fun _ a8=>Ze fun _ j8=>rg ?_
 have bB:=hf.B2 17 18
 refine Zy ?_
 refine fp fun K Z=> ?_
 go_simp
 go_at_call 59;refine (V9 w8 g s p1 UN Tz.2.1 C8 1 18446744073709551615).mono ?_;rintro e wz D0
 rw [lM.out] at D0
 obtain ⟨q,rfl,X0,sV,uV⟩:=D0
 try dsimp only
 try dsimp only
 exact eT hf.defers (eU.via yR ⟨q,rfl,X0,sV,uV⟩))
 . (
 have LC:=H9 T8;clear T8
 have dA:=G6 LC.out
 have mV:=dA.2.2.1
 unfold q9 at mV
 refine Ze fun _ a8=>Ze fun _ j8=>rg ?_
 have bB:=hf.B2 17 18
 refine Zy ?_
 refine Zc (V9 w8 g s p1 UN Tz.2.1 C8 1 18446744073709551615) ?_;rintro e w9 D0
 rw [LC.out] at D0
 obtain ⟨rfl,YX,dN⟩:=D0
 have Ns:=dN.heap Dg (by intro e;have e:w.heap.size=g:=e;omega)
 have pE:n4 (fun k=>k=g\/w.heap.size<=k) w w9:=yR.trans (dN.mono (fun k _ h=> .inl h))
 clear dN Dg yR UN
 refine Zv ?_
 iterate 2 refine Zy ?_
 refine Fc.nil (D2 0 2 3 5 6 hf ?_)
 intro a7 hf sS
 refine Zx j8 (wp_block (wp_loop_ghost (fun gk fr wr=>∃ (i pk:Nat) (sv:Value) (l:List (Value×State)) (C:Nat->Prop),gk=n-i/\i<=n/\Fc.Fr 52 fr/\fr.tmps[0]? =some (.pointer (some ⟨g,0,none⟩))/\fr.tmps[3]? =some (.pointer (some ⟨w.heap.size,0,none⟩))/\fr.tmps[2]? =some (.int .i64 en)/\fr.tmps[5]? =some (.int .u64 i)/\fr.tmps[6]? =some (.int .u64 n)/\pStates s n 0 p2 []=pStates s (n-i) i pk (l.map Prod.snd)/\RD wr g s pk/\pk<=s.size/\i<=pk/\l.length=i/\wr.heap[w.heap.size]? =some (.cells #[sv,.int .u64 0] 38 (0,0))/\SR wr w.heap.size C sv l/\sv.ownBlock≠some w.heap.size/\(∀ k,C k->w.heap.size<k/\k<wr.heap.size/\sv.ownBlock≠some k)/\n4 (fun k=>k=g\/w.heap.size<=k) w wr) (n) ?_ ?_))
 . (
 obtain ⟨s0,s2,s3,s5,s6⟩:=sS
 exact ⟨0,p2,_,[],fun _=>False,rfl,Nat.zero_le _,hf,s0,s3,s2,s5,s6,rfl,YX,dA.2.1,Nat.zero_le _,rfl,Ns,SR.T7 _ _ _,(by intro e;cases e),(fun k h=>h.elim),pE⟩)
 . (
 clear hf sS
 rintro gk fr wr ⟨i,pk,sv,l,C,hk,aN,hf,s0,s3,s2,s5,s6,Db,X8,iC,MK,MG,wY,eA,uJ,hC,mZ⟩
 have HK:=H9 hk;have yS:=H9 Db;have HLI:=H9 MG;clear hk Db MG
 refine Ze fun _ j8=>Ze fun _ l8=>Zr [19,20] hf ?_
 refine F1 0 2 3 5 6 21 hf ?_
 clear hf s0 s2 s3 s5 s6;intro a7 hf sS
 refine Zx l8 (Fc.l0 sS.2.2.2.2.2 (fun hq=> ?_) (fun hq=> ?_))
 . (
 have bC:i<n:=qT
 clear hq
 obtain ⟨u,hu⟩:∃ u,n-i=u+1:=⟨n-i-1,oM⟩
 have HU:=H9 hu;clear hu
 have e0:wr.cell? ⟨w.heap.size,0,none⟩=some sv:=by rw [cell_of_row _ _ 0 _ _ (0,0) wY];rfl
 obtain ⟨A,cc,Vy,_⟩:=eA.form
 have x0d:=H9 Vy;clear Vy
 rcases T8:N1 s i pk with bz | ⟨st,j⟩
 . (
 have lM:=H9 T8;clear T8
 have he:r= .error bz:=by rw [<- RL.out];unfold pAll;simp only [po.out,RQ.out,LC.out];rw [yS.out,HU.out];simp only [pStates,lM.out]
 subst he
 refine wp_skip (Zs j8 fun _ j8=>wp_block ?_)
 obtain ⟨s0,s2,s3,s5,s6,S9⟩:=sS
 refine Sb.tb 52 fun a6=> ?_
 refine Sb.T 0 hf a6 ?_ (hF:=fun _ _ h d=>Sb.O h s3)
 refine Sb.T 1 hf a6 ?_ (hF:=fun _ _ h d=>cL h.ext e0)
 refine Sb.mO 2 s0 hf a6 ?_
 refine Sb.mO 3 s5 hf a6 ?_
 refine Sb.E1 (k:=4) (n:=52) (fun _ _=>False) hf.size a6.out rfl (fun _ _ _ _ h=>h) ?_ ?_
 . (
 intro a7 w1 hh hd hk K Z
 refine Sb.pl ?_
 have aG:=Sb.v 2 1 hd hk []
 have S0:=Sb.v 3 0 hd hk []
 clear hd
 replace e0:=cL hh.ext e0
 go_simp
 go_at_call 60;refine (JA w1 g s pk (X8.later hh.ext) iC C8 i oM).mono ?_;rintro e w2 D0
 rw [lM.out] at D0
 obtain ⟨q,rfl,X0,sV,uV⟩:=D0
 try dsimp only
 exact eT (hh.defers.trans hf.defers) (eU.via (mZ.trans (n4.of _ hh.ext)) ⟨q,rfl,X0,sV,uV⟩))
 refine Sb.E1 (k:=5) (n:=52) Sb.Any hf.size a6.out rfl Sb.Stable.any ?_ ?_
 . (
 intro a7 w1 hh hd hk K Z
 obtain ⟨_,T8⟩:=Sb.U1 (j:=4) (m:=0) hd hk rfl [] kR rfl
 exact T8.elim)
 refine Sb.E1 (k:=6) (n:=52) Sb.Any hf.size a6.out rfl Sb.Stable.any ?_ ?_
 . (
 intro a7 w1 hh hd hk K Z
 obtain ⟨_,T8⟩:=Sb.U1 (j:=4) (m:=1) hd hk rfl [] kR rfl
 exact T8.elim)
 refine Sb.E1 (k:=7) (n:=52) Sb.Any hf.size a6.out rfl Sb.Stable.any ?_ ?_
 . (
 intro a7 w1 hh hd hk K Z
 obtain ⟨_,T8⟩:=Sb.U1 (j:=4) (m:=2) hd hk rfl [] kR rfl
 exact T8.elim)
 refine Sb.E1 (k:=8) (n:=52) Sb.Any hf.size a6.out rfl Sb.Stable.any ?_ ?_
 . (
 intro a7 w1 hh hd hk K Z
 obtain ⟨_,T8⟩:=Sb.U1 (j:=4) (m:=3) hd hk rfl [] kR rfl
 exact T8.elim)
 refine Sb.tf hf a6 fun a7 w1 hh hg=> ?_
 obtain ⟨_,T8⟩:=Sb.M4 (j:=4) (m:=4) hg rfl dC rfl
 exact T8.elim)
 . (
 have QX:=H9 T8;clear T8
 have VE:=mX (by omega:i<=1000000000) QX.out
 have hB5:=j5 wY
 have Fj:∀ k,sv.ownBlock=some k->w.heap.size<=k/\k<wr.heap.size:=fun k hk=>World.ownsRow.lt eA.row k hk
 refine wp_skip (Zs j8 fun _ j8=>wp_block ?_)
 obtain ⟨s0,s2,s3,s5,s6,S9⟩:=sS
 refine Sm.E4 (n:=52) (fun m k=>(m=4/\k=g)\/(m=6/\sv.ownBlock=some k)\/(m=8/\k=w.heap.size)) [4,6,8] (Sb.OkOps.of kR) (fun a6=> ?_)
 apply Sm.tq 0 _ hf a6
 . (
 intro a7 w1 hh hd hk K Z
 refine Sb.pl ?_
 have s3:=Sm.o hh kR s3
 have l6:=Sm.l9 hh [4] [(6,[1]),(8,[])] kR
 clear hd hh
 go_simp
 exact Sb.k Z)
 apply Sm.tq 1 _ hf a6
 . (
 intro a7 w1 hh hd hk K Z
 refine Sb.pl ?_
 have dL:=Sm.v 0 0 hd hk []
 have l6:=Sm.l9 hh [4] [(6,[]),(8,[])] kR
 clear hd hh
 have h4:=(l6 (fun k=>k=g) (fun m hm b h=>by simp at hm;subst hm;rcases h with h | h | h;exact h.2;(have:=h.1;omega);(have:=h.1;omega)))
 have e1:=h4.cell e0 (by intro e;have e:w.heap.size=g:=e;omega)
 clear h4 l6
 go_simp
 exact Sb.k Z)
 refine Sm.mD (k:=2) s0 hf.size a6.out rfl kR rfl rfl (.inl rfl) kR ?_
 refine Sm.mD (k:=3) s5 hf.size a6.out rfl kR rfl rfl (.inl rfl) kR ?_
 refine Sm.E6 (k:=4) (n:=52) (Q4 g s j st wr.heap.size) hf.size a6.out rfl (Q4.u5 _ _ _ _ _) kR ?_ ?_
 . (
 intro a7 w1 hh hd hk K Z
 refine Sb.pl ?_
 have aG:=Sm.v 2 1 hd hk []
 have S0:=Sm.v 3 0 hd hk []
 have F4:=Sm.r5 hh [(6,[]),(8,[])] kR
 have l6:=Sm.l9 hh [] [(6,[]),(8,[])] kR
 clear hd hh
 go_simp
 go_at_call 60;refine (JA w1 g s pk (X8.later F4) iC C8 i oM).mono ?_;rintro e w2 D0
 rw [QX.out] at D0
 obtain ⟨av,rfl,MV,z7f,U4⟩:=D0
 obtain ⟨A4,c4,hv4,_⟩:=y8 z7f
 subst hv4
 exact Z.out _ rfl _ _ (U4.mono (fun k _ h=> .inl ⟨rfl,h⟩)) ⟨_,_,_,rfl,MV,z7f,F4.size⟩)
 refine Sm.E1 (k:=5) (n:=52) (Q5 g s j st wr.heap.size) hf.size a6.out rfl (Q5.u5 _ _ _ _ _) kR ?_ ?_
 . (
 intro a7 w1 hh hd hk K Z
 refine Sb.pl ?_
 obtain ⟨x28,bT,Uh⟩:=Sm.use (j:=4) (m:=0) hd hk rfl [] kR [(6,true,[]),(8,true,[])] kR rfl rfl rfl
 obtain ⟨A4,c4,B4,rfl,y4l,Gy,y4k⟩:=Uh
 have l6:=Sm.l9 hh [4] [(6,[]),(8,[])] kR
 clear hd hh
 go_simp
 exact Z.out _ rfl _ _ ((Below.refl _ _).alloc nR _) ⟨A4,c4,B4,⟨_,rfl,E8 _ _ _⟩,y4l.later ((Below.refl _ _).alloc nR _),n3 Gy ((Below.refl _ _).alloc nR _),y4k⟩)
 refine Sm.E6 (k:=6) (n:=52) (Q6 w.heap.size g s j l st) hf.size a6.out rfl (Q6.u5 _ _ _ _ _ _) kR ?_ ?_
 . (
 intro a7 w1 hh hd hk K Z
 refine Sb.pl ?_
 have Z9:=Sm.v 1 4 hd hk []
 obtain ⟨x29,cT,PY⟩:=Sm.use (j:=5) (m:=0) hd hk rfl [] kR [(4,false,[]),(8,true,[])] kR rfl rfl rfl
 obtain ⟨A4,c4,B4,⟨ML,rfl,y4j⟩,y4i,z7e,y4h⟩:=PY
 have l6:=Sm.l9 hh [4] [(8,[])] kR
 clear hd hh
 have h6:=(l6 (fun k=>k=g) (fun m hm b h=>by simp at hm;subst hm;rcases h with h | h | h;exact h.2;(have:=h.1;omega);(have:=h.1;omega)))
 have Vz:=eA.but h6 (fun k hk e=>by have e:k=g:=e;have:=(Fj k hk).1;omega) (fun k hk e=>by have e:k=g:=e;have:=(hC k hk).1;omega)
 refine J6 _ _ 36 rfl 46 _ 3 40 Tryz.underlying36 bM rfl dC dC w.heap.size sv l.length _ (Fc.l5 Z9) Vz.row ML [.slice A4 st.j4.length c4,.bool st.final,.int .u64 st.out] (Fc.l5 cT) rfl y4j (by intro u hu;simp at hu;rcases hu with rfl | rfl | rfl<;>rfl) (by have:=HLI.out;omega) (by have:=mZ.size;have:=h6.size;omega) (fun v3 w3 kT lW jE=> ?_)
 exact Z.out _ rfl _ _ (n4.grown lW (fun k hk=> .inr (.inl ⟨rfl,hk⟩))) (Q6.mk Vz uJ hC h6.size hB5 y4i (fun e=>by have:=(Fj g e).1;omega) z7e y4h (fun k hk=>(Fj k hk).2) lW kT jE))
 apply Sm.tq 7 _ hf a6
 . (
 intro a7 w1 hh hd hk K Z
 refine Sb.pl ?_
 have s3:=Sm.o hh kR s3
 have l6:=Sm.l9 hh [4,6] [(8,[])] kR
 clear hd hh
 go_simp
 exact Sb.k Z)
 refine Sm.E6 (k:=8) (n:=52) (fun _ wz=>Q8 w.heap.size g s j l st wz) hf.size a6.out rfl (fun _ _ _ hb h=>Q8.later hb h) kR ?_ ?_
 . (
 intro a7 w1 hh hd hk K Z
 refine Sb.pl ?_
 have Mz:=Sm.v 7 0 hd hk []
 obtain ⟨x30,kG,lC⟩:=Sm.use (j:=6) (m:=1) hd hk rfl [] kR [(4,false,[])] kR rfl rfl rfl
 obtain ⟨y30,C2,CJ,z7d,y4g,z7c,y4f⟩:=lC
 have l6:=Sm.l9 hh [4,6] [] kR
 clear hd hh
 have h8:=l6 (fun k=>k=g\/sv.ownBlock=some k) (fun m hm b h=>by simp at hm;rcases h with h | h | h;exact .inl h.2;exact .inr h.2;(have:=h.1;omega))
 have Dg:=h8.heap wY (fun h=>by rcases h with h | h;omega;exact uJ h)
 have e8:w1.cell? ⟨w.heap.size,0,none⟩=some sv:=by rw [cell_of_row _ _ 0 _ _ (0,0) Dg];rfl
 have fz:=j6 (i:=0) Dg
 clear l6 h8
 obtain ⟨A9,c9,mT,_⟩:=CJ.form
 rw [List.length_append,List.length_cons,List.length_nil,Nat.zero_add] at mT
 subst mT
 go_simp
 exact Z.out _ rfl undef _ (n4.setCell (.inr (.inr ⟨rfl,rfl⟩)) _) (Q8.mk Dg oM CJ z7d y4g z7c y4f))
 refine Sm.E5 (n:=52) kR hf.size a6.out rfl (fun a7 w1 hh hg=> ?_)
 replace s0:=Sm.o hh kR s0
 replace s2:=Sm.o hh kR s2
 replace s3:=Sm.o hh kR s3
 replace s5:=Sm.o hh kR s5
 replace s6:=Sm.o hh kR s6
 obtain ⟨_,V0⟩:=Sm.M4 (j:=8) (m:=0) hg rfl dC [(4,[]),(6,[])] kR rfl
 have y5:=hh.fr hf
 have l6:=hh.but
 clear hg hh hf a6 S9
 have hf:=y5;clear y5
 obtain ⟨v6,y6,C6,LX,Vz,y4e,ER,y4d,hC6⟩:=V0
 replace l6:=l6 (fun k=>k=g\/w.heap.size<=k) (fun m _ b h=>by rcases h with h | h | h;exact .inl h.2;exact .inr (Fj _ h.2).1;exact .inr (by rw [h.2];exact nR))
 have Cx:n4 (fun k=>k=g\/w.heap.size<=k) w _:=mZ.trans l6
 have hH:pStates s n 0 p2 []=pStates s (n-(i+1)) (i+1) j ((l++[y6]).map Prod.snd):=by rw [yS.out,HU.out,show n-(i+1)=u by have:=HU.out;omega,List.map_append,List.map_cons,y4e];simp only [pStates,QX.out];rfl
 refine Fc.j9 (Zx j8 (Zr [22,23] hf ?_))
 refine D2 0 2 3 5 6 hf ?_
 clear hf s0 s2 s3 s5 s6;intro a7 hf sS
 refine Fc.j7 ?_
 obtain ⟨s0,s2,s3,s5,s6⟩:=sS
 exact ⟨_,by have:=HK.out;omega,i+1,j,v6,l++[y6],C6,rfl,oM,hf,s0,s3,s2,by rw [s5];rfl,s6,hH,ER,VE.2.1,oM,by simp [HLI.out],LX,Vz,y4d,hC6,Cx⟩))
 . (
 have z7b:pStates s n 0 p2 []= .ok (l.map Prod.snd,pk):=by rw [yS.out,show n-i=0 by have h9:=of_decide_eq_false hq;omega];rfl
 have HPT:=H9 z7b;clear z7b hq
 rcases T8:L5 s 0 18446744073709551615 pk with bz | ⟨init,p4⟩
 . (
 have lM:=H9 T8;clear T8
 have he:r= .error bz:=by rw [<- RL.out];unfold pAll;simp only [po.out,RQ.out,LC.out,HPT.out,lM.out]
 subst he
 refine Zo ?_
 refine Zt a8 fun _ a8=> ?_
 have bB:=hf.B3 32 33 34
 refine Zy ?_
 refine fp fun K Z=> ?_
 go_simp
 go_at_call 59;refine (V9 wr g s pk X8 iC C8 0 18446744073709551615).mono ?_;rintro e wz D0
 rw [lM.out] at D0
 obtain ⟨q,rfl,X0,sV,uV⟩:=D0
 try dsimp only
 try dsimp only
 exact eT hf.defers (eU.via mZ ⟨q,rfl,X0,sV,uV⟩))
 . (
 have Su:=H9 T8;clear T8
 refine Zo ?_
 refine Zt a8 fun _ a8=> ?_
 have bB:=hf.B3 32 33 34
 refine Zy ?_
 refine Zc (V9 wr g s pk X8 iC C8 0 18446744073709551615) ?_;rintro e w9 D0
 rw [Su.out] at D0
 obtain ⟨rfl,YX,dN⟩:=D0
 have y4b:=eA.but dN (fun k hk e=>by have e:k=g:=e;have:=(World.ownsRow.lt eA.row k hk).1;omega) (fun k hk e=>by have e:k=g:=e;have:=(hC k hk).1;omega)
 have Ns:=dN.heap wY (by intro e;have e:w.heap.size=g:=e;omega)
 have pE:n4 (fun k=>k=g\/w.heap.size<=k) w w9:=mZ.trans (dN.mono (fun k _ h=> .inl h))
 clear dN wY mZ X8
 have e1:w9.cell? ⟨w.heap.size,1,none⟩=some (.int .u64 0):=by rw [cell_of_row _ _ 1 _ _ (0,0) Ns];rfl
 have fz:=j6 (i:=1) Ns
 refine Zv ?_
 iterate 2 refine Zy ?_
 refine Fc.nil (y7 0 2 3 hf ?_)
 intro a7 hf sS
 have x0b:=G6 Su.out
 generalize kt:w9.setCell ⟨w.heap.size,1,none⟩ (.int .u64 init)=W10
 have lS:n4 (fun k=>k=w.heap.size) w9 W10:=by rw [<- kt];exact n4.setCell (S:=fun k=>k=w.heap.size) rfl _
 have RT:W10.heap[w.heap.size]? =some (.cells #[sv,.int .u64 init] 38 (0,0)):=by rw [<- kt];exact (k7 (i:=1) Ns _).trans sP
 clear kt
 have Ld:RD W10 g s p4:=lS.heap YX (by intro e;have e:g=w.heap.size:=e;omega)
 have z7a:=y4b.but lS (fun k hk e=>uJ (by rw [hk,e])) (fun k hk e=>by have:=(hC k hk).1;omega)
 have JB:n4 (fun k=>k=g\/w.heap.size<=k) w W10:=pE.trans (lS.mono (fun k _ h=> .inr oM))
 have g0:=Ld.c0;have g1:=Ld.c1
 clear lS e1 fz
 refine Zs a8 fun _ a8=>Ze fun _ j8=> ?_
 obtain ⟨s0,s2,s3⟩:=sS
 refine Sb.tb 52 fun a6=> ?_
 refine Sb.mO 0 s0 hf a6 ?_
 refine Sb.T 1 hf a6 ?_
 refine Sb.T 2 hf a6 ?_
 refine Sb.T 3 hf a6 ?_ (hF:=fun _ _ h d=>ad (cL h.ext g0) (cL h.ext g1))
 refine Sb.mO 4 s0 hf a6 ?_
 refine Sb.T 5 hf a6 ?_
 refine Sb.T 6 hf a6 ?_
 refine Sb.T 7 hf a6 ?_ (hF:=fun _ _ h d=>ad (cL h.ext g0) (cL h.ext g1))
 refine Sb.T 8 hf a6 ?_ (hF:=fun _ _ h d=>ad (cL h.ext g0) (cL h.ext g1))
 refine Sb.T 9 hf a6 ?_
 refine Sb.E hf a6 (fun _ _ h g=>ad (Sb.O h s0) (ad (Sb.O h s2) (ad (Sb.O h s3) (Sb.f 9 0 g)))) ?_
 clear hf a6 s0 s2 s3;intro a7 w1 hf hx sS
 replace g0:=cL hx g0
 replace g1:=cL hx g1
 have ky:=Ld.later hx
 have pJ:=(hx.block _ (j5 RT)).trans RT
 have Yd:=z7a.later hx
 have oE:n4 (fun k=>k=g\/w.heap.size<=k) w w1:=JB.trans (n4.of _ hx)
 refine Zx j8 (Fc.l0 sS.2.2.2 (fun hq=> ?_) (fun hq=> ?_))
 . (
 have y4a:p4<s.size:=qT
 have he:r= .error (4,p4):=by rw [<- RL.out];unfold pAll;simp only [po.out,RQ.out,LC.out,HPT.out,Su.out];rw [if_pos y4a]
 subst he
 refine rg ?_
 have bB:=hf.B4 45 46 47 48
 iterate 4 refine Zy ?_
 refine fp fun K Z=> ?_
 go_simp
 go_at_call 32;refine (wW w1 4 p4).mono ?_;rintro e wz y3z
 obtain ⟨q,rfl,X0,sV,uV⟩:=y3z
 try dsimp only
 try dsimp only
 exact eT hf.defers (eU.via oE (wV.g (c:=4) (a:=p4) ⟨q,rfl,X0,sV,uV⟩)))
 . (
 have y3y:¬ p4<s.size:=qF
 have he:r= .ok (en,init,l.map Prod.snd):=by rw [<- RL.out];unfold pAll;simp only [po.out,RQ.out,LC.out,HPT.out,Su.out];rw [if_neg y3y]
 subst he
 obtain ⟨A,cc,Vy,_⟩:=Yd.form
 subst Vy
 have d0:w1.cell? ⟨w.heap.size,0,none⟩=some (.slice A l.length cc):=by rw [cell_of_row _ _ 0 _ _ (0,0) pJ];rfl
 have d1:w1.cell? ⟨w.heap.size,1,none⟩=some (.int .u64 init):=by rw [cell_of_row _ _ 1 _ _ (0,0) pJ];rfl
 refine wp_skip (Zs a8 fun _ a8=> ?_)
 obtain ⟨s0,s2,s3,Bq⟩:=sS
 refine Sb.tb 52 fun a6=> ?_
 refine Sb.qq (k:=0) (j:=2) s2 hf.size a6.out rfl rfl rfl (.inl rfl) [] kR kR ?_
 refine Sb.T 1 hf a6 ?_ (hF:=fun _ _ h d=>ad (Sb.O h s3) (ad (cL h.ext d0) (cL h.ext d1)))
 refine Sb.mN 2 0 1 hf a6 [] ?_
 refine Tl.G5 (n:=52) (m:=3) (ws:=[]) kR hf.size a6.out rfl rfl kR (fun a7 w1 hh hg=> ?_)
 clear s2;have s2:=Tl.z7 2 0 hg rfl rfl rfl rfl rfl
 replace s3:=Sb.O hh s3
 have qQ:=Tl.z7 1 1 hg rfl rfl rfl rfl rfl
 have y5:=hh.fr hf
 have hx:=hh.ext
 replace d0:=cL hx d0
 replace d1:=cL hx d1
 clear hg hh hf a6 s0 Bq
 have hf:=y5;clear y5
 have Fi:=(hx.block _ (j5 pJ)).trans pJ
 have f0:=j6 (i:=0) Fi
 have f1:=j6 (i:=1) Fi
 refine Tl.J5 rfl rfl (fun K Z=> ?_)
 go_simp
 apply Z.out;clear Z K
 refine Tl.L8 rfl ?_
 refine y4 2 3 hf ?_
 clear hf s2 s3 qQ;intro a7 hf sS
 refine Zx a8 (k8 ?_)
 have lS:=fun W:World=>(n4.setCell (S:=fun k=>k=w.heap.size) (w:=W) (p:=⟨w.heap.size,0,none⟩) rfl (.slice A l.length cc)).trans (n4.setCell (S:=fun k=>k=w.heap.size) (p:=⟨w.heap.size,1,none⟩) rfl (.int .u64 init))
 have Ye:=(Yd.later hx).but (lS _) (fun k hk e=>uJ (by rw [hk,e])) (fun k hk e=>by have:=(hC k hk).1;omega)
 exact ku rfl hf sS.1 sS.2 (k7 (k7 Fi _) _) Tryz.underlying38 rfl kR ⟨_,sP,(fun wz hw=>(Ye.but hw (fun k hk h=>by have:=(World.ownsRow.lt Ye.row k hk).1;omega) (fun k hk h=>by have:=(hC k hk).1;omega)).rs),(oE.trans ((n4.of _ hx).trans ((lS _).mono (fun k _ h=> .inr oM)))).mono (fun k hk h=>h.elim id (fun h=>oM))⟩))))))))
theorem JC (a b c q:Nat) (x:Int) (sv:Value) (y:Nat) (ev:Value) (w:World) (SP:a≠b) (hac:a≠c) (CC:b≠c) (h0:w.heap[a]? =some (.cells #[.int .i64 x] 3 (0,0))) (h1:w.heap[b]? =some (.cells #[sv,.int .u64 y] 38 (0,0))) (h2:w.heap[c]? =some (.cells #[ev] 41 (0,0))) :
  CallsD Tryz.prog 30 #[.pointer (some ⟨a,0,none⟩),.pointer (some ⟨b,0,none⟩),.pointer (some ⟨c,0,none⟩)] (.panicking [{ v:= .iface 77 (.pointer (some ⟨q,0,none⟩)),recovered:=false }]) w fun e u' w' =>
   e= .returned (.tuple #[])/\u'= .panicking [{ v:= .iface 77 (.pointer (some ⟨q,0,none⟩)),recovered:=true }]/\w'=(((w.setCell ⟨a,0,none⟩ (.int .i64 0)).setCell ⟨b,0,none⟩ (.slice none 0 0)).setCell ⟨b,1,none⟩ (.int .u64 0)).setCell ⟨c,0,none⟩ (.iface 77 (.pointer (some ⟨q,0,none⟩))):=by
 refine callsD_of_wpS Tryz.func30 rfl fun c₀ cs hu=> ?_
 apply wpS_seq
 apply wpS_region
 simp [wpOpsS,go_sem,recoverD,hu,Tryz.ntmps30,Exit.thenS]
 refine wpS_of_wp ?_
 have a0:w.cell? ⟨a,0,none⟩=some (.int .i64 x):=by rw [cell_of_row _ _ 0 _ _ (0,0) h0];rfl
 have b0:w.cell? ⟨b,0,none⟩=some sv:=by rw [cell_of_row _ _ 0 _ _ (0,0) h1];rfl
 have b1:w.cell? ⟨b,1,none⟩=some (.int .u64 y):=by rw [cell_of_row _ _ 1 _ _ (0,0) h1];rfl
 have c0':w.cell? ⟨c,0,none⟩=some ev:=by rw [cell_of_row _ _ 0 _ _ (0,0) h2];rfl
 have fa:=j6 (i:=0) h0
 have fb:=j6 (i:=0) h1
 have fb1:=j6 (i:=1) h1
 have fc:=j6 (i:=0) h2
 have w9z:=SP.symm
 have w9y:=hac.symm
 have w9x:=CC.symm
 have nr:∀ w':World,(Instr.typeAssert (.iface 77 (.pointer (some ⟨q,0,none⟩))) 20 77 true).run Tryz.prog w'= .ok (.tuple #[.pointer (some ⟨q,0,none⟩),.bool true]) w':=fun w'=>by kernel_rfl
 go_wp2
 exact ⟨rfl,_,rfl,_,results_none rfl _ _ _,rfl,rfl,rfl⟩
theorem kr (p0 p1 p2:Value) (w:World):CallsD Tryz.prog 30 #[p0,p1,p2] .returning w fun e u' w'=>e= .returned (.tuple #[])/\u'= .returning/\w'=w:=by
 refine callsD_of_wpS Tryz.func30 rfl fun c₀ cs hu=> ?_
 apply wpS_seq
 apply wpS_region
 simp [wpOpsS,go_sem,recoverD,hu,Tryz.ntmps30,Exit.thenS]
 refine wpS_of_wp ?_
 have hn:∀ w':World,(binOp .eql 20 .nilIface .nilIface).run Tryz.prog w'= .ok (.bool true) w':=fun w'=>by kernel_rfl
 go_wp2
 cases c₀
 simp_all [bodyPostS,results,Tryz.results31]
def N9 (s:ByteArray):Except J9 (Nat×Nat×List State):=match openR (Crc.opened (wl s)) with
 | (body,is)=>if is then pAll body else .error (16,0)
def kq (w w1:World) (e:Ending):Except J9 (Nat×Nat×List State)->Prop
 | .error b=>∃ q,e= .returned (.tuple #[.int .i64 0,.agg #[.slice none 0 0,.int .u64 0],.iface 77 (.pointer (some ⟨q,0,none⟩))])/\w.heap.size<=q/\w1.heap[q]? =some (.cells #[.int .i64 b.1,.int .i64 b.2] 134 (0,0))/\Below w.heap.size w w1
 | .ok (en,init,ss)=>∃ sv,e= .returned (.tuple #[.int .i64 en,.agg #[sv,.int .u64 init],.nilIface])/\RS w1 sv ss/\Below w.heap.size w w1
abbrev W15 (w:World):World:=((w.alloc (.cells #[.int .i64 0] 3)).alloc (.cells #[.slice none 0 0,.int .u64 0] 38)).alloc (.cells #[.nilIface] 41)
theorem gS {w w2:World} (hb:Below (W15 w).heap.size (W15 w) w2):w2.heap[w.heap.size]? =some (.cells #[.int .i64 0] 3 (0,0))/\w2.heap[w.heap.size+1]? =some (.cells #[.slice none 0 0,.int .u64 0] 38 (0,0))/\w2.heap[w.heap.size+1+1]? =some (.cells #[.nilIface] 41 (0,0))/\Below w.heap.size w w2/\w.heap.size+3<=w2.heap.size:=by
 have C8:(W15 w).heap.size=w.heap.size+3:=by simp [W15]
 have h0:=hb.size
 refine ⟨?_,?_,?_,?_,oM⟩
 ·rw [hb.block _ oM,y9,if_neg sO,y9,if_neg sP,y9,if_pos rfl]
 ·rw [hb.block _ oM,y9,if_neg sP,y9,if_pos sP]
 ·rw [hb.block _ oM,y9,if_pos sP]
 ·exact (((Below.refl _ w).alloc nR _).alloc sP _ |>.alloc sO _).trans (hb.mono oM)
theorem JD {tmps:Array Value} {a b c:Nat} {W:World} {x:Int} {sv ev:Value} {y:Nat} {R:Ending->World->Prop} (t2:tmps[2]? =some (.pointer (some ⟨a,0,none⟩))) (t3:tmps[3]? =some (.pointer (some ⟨b,0,none⟩))) (t4:tmps[4]? =some (.pointer (some ⟨c,0,none⟩)))
  (ha:W.heap[a]? =some (.cells #[.int .i64 x] 3 (0,0))) (hb:W.heap[b]? =some (.cells #[sv,.int .u64 y] 38 (0,0))) (hc:W.heap[c]? =some (.cells #[ev] 41 (0,0))) (hR:R (.returned (.tuple #[.int .i64 x,.agg #[sv,.int .u64 y],ev])) W):Leaves Tryz.prog Tryz.f13 tmps R [] .returning W:=by
 have a0:W.cell? ⟨a,0,none⟩=some (.int .i64 x):=by rw [cell_of_row _ _ 0 _ _ (0,0) ha];rfl
 have c0:W.cell? ⟨c,0,none⟩=some ev:=by rw [cell_of_row _ _ 0 _ _ (0,0) hc];rfl
 have b0:W.cell? ⟨b,0,none⟩=some sv:=by rw [cell_of_row _ _ 0 _ _ (0,0) hb];rfl
 have b1:W.cell? ⟨b,1,none⟩=some (.int .u64 y):=by rw [cell_of_row _ _ 1 _ _ (0,0) hb];rfl
 simp [Leaves,results,Tryz.results15,Sem.run_bind,Result.andThen,asAddr,t2,t3,t4,a0,b0,b1,c0,go_sem]
 exact hR
theorem p9 {W:World} {k blk i:Nat} {v:Value} {o:Obj} (h:W.heap[k]? =some o) (F0:k≠blk):(W.setCell ⟨blk,i,none⟩ v).heap[k]? =some o:=(n4.setCell (S:=fun k=>k=blk) rfl v).heap h (fun e=>F0 e)
theorem DA {w w2:World} {q:Nat} {bz:J9} {tmps:Array Value} (t2:tmps[2]? =some (.pointer (some ⟨w.heap.size,0,none⟩))) (t3:tmps[3]? =some (.pointer (some ⟨w.heap.size+1,0,none⟩))) (t4:tmps[4]? =some (.pointer (some ⟨w.heap.size+1+1,0,none⟩))) {x:Int} {sv ev:Value} {y:Nat}
  (k0:w2.heap[w.heap.size]? =some (.cells #[.int .i64 x] 3 (0,0))) (k1:w2.heap[w.heap.size+1]? =some (.cells #[sv,.int .u64 y] 38 (0,0))) (k2:w2.heap[w.heap.size+1+1]? =some (.cells #[ev] 41 (0,0))) (k3:Below w.heap.size w w2) (hq:w.heap.size+3<=q) (h3:w2.heap[q]? =some (.cells #[.int .i64 bz.1,.int .i64 bz.2] 134 (0,0))) :
  Leaves Tryz.prog Tryz.f13 tmps (fun e w1=>kq w w1 e (.error bz)) [] .returning ((((w2.setCell ⟨w.heap.size,0,none⟩ (.int .i64 0)).setCell ⟨w.heap.size+1,0,none⟩ (.slice none 0 0)).setCell ⟨w.heap.size+1,1,none⟩ (.int .u64 0)).setCell ⟨w.heap.size+1+1,0,none⟩ (.iface 77 (.pointer (some ⟨q,0,none⟩)))):=by
 refine JD (x:=0) (sv:= .slice none 0 0) (y:=0) (ev:= .iface 77 (.pointer (some ⟨q,0,none⟩))) t2 t3 t4 ?_ ?_ ?_ ⟨q,rfl,oM,?_,?_⟩
 ·exact p9 (p9 (p9 ((k7 k0 _).trans sP) oM) oM) oM
 ·exact p9 ((k7 (k7 (p9 k1 oM) _) _).trans sP) oM
 ·exact (k7 (p9 (p9 (p9 k2 oM) oM) oM) _).trans sP
 ·exact p9 (p9 (p9 (p9 h3 oM) oM) oM) oM
 ·exact (((k3.setCell (p:=⟨w.heap.size,0,none⟩) nR _).setCell (p:=⟨w.heap.size+1,0,none⟩) sP _).setCell (p:=⟨w.heap.size+1,1,none⟩) sP _).setCell (p:=⟨w.heap.size+1+1,0,none⟩) sO _
def DB (w2:World) (a:Nat) (en init:Nat) (sv:Value):World:=(((((((w2.setCell ⟨a,0,none⟩ (.int .i64 en)).setCell ⟨a+1,0,none⟩ sv).setCell ⟨a+1,1,none⟩ (.int .u64 init)).setCell ⟨a,0,none⟩ (.int .i64 en)).setCell ⟨a+1,0,none⟩ sv).setCell ⟨a+1,1,none⟩ (.int .u64 init)).setCell ⟨a+1+1,0,none⟩ .nilIface).drew
theorem nG (W:World):W.drew.heap=W.heap:=rfl
theorem ko {w w2:World} {N:Nat} {tmps:Array Value} (t2:tmps[2]? =some (.pointer (some ⟨w.heap.size,0,none⟩))) (t3:tmps[3]? =some (.pointer (some ⟨w.heap.size+1,0,none⟩))) (t4:tmps[4]? =some (.pointer (some ⟨w.heap.size+1+1,0,none⟩))) {x:Int} {sv v0 ev:Value} {y en init:Nat} {ss:List State}
  (k0:w2.heap[w.heap.size]? =some (.cells #[.int .i64 x] 3 (0,0))) (k1:w2.heap[w.heap.size+1]? =some (.cells #[v0,.int .u64 y] 38 (0,0))) (k2:w2.heap[w.heap.size+1+1]? =some (.cells #[ev] 41 (0,0))) (k3:Below w.heap.size w w2) (o8:∀ w',n4 (fun k=>k<N) w2 w'->RS w' sv ss) (hN:w.heap.size+2<N) :
  Leaves Tryz.prog Tryz.f13 tmps (fun e w1=>kq w w1 e (.ok (en,init,ss))) [] .returning (DB w2 w.heap.size en init sv):=by
 have m0:(DB w2 w.heap.size en init sv).heap[w.heap.size]? =some (.cells #[.int .i64 en] 3 (0,0)):=by
  rw [DB,nG]
  refine p9 (p9 (p9 ((k7 (p9 (p9 (k7 k0 _) oM) oM) _).trans sP) oM) oM) oM
 have m1:(DB w2 w.heap.size en init sv).heap[w.heap.size+1]? =some (.cells #[sv,.int .u64 init] 38 (0,0)):=by
  rw [DB,nG]
  refine p9 ((k7 (k7 (p9 (k7 (k7 (p9 k1 oM) _) _) oM) _) _).trans sP) oM
 have m2:(DB w2 w.heap.size en init sv).heap[w.heap.size+1+1]? =some (.cells #[.nilIface] 41 (0,0)):=by
  rw [DB,nG]
  refine (k7 (p9 (p9 (p9 (p9 (p9 (p9 k2 oM) oM) oM) oM) oM) oM) _).trans sP
 have l6:n4 (fun k=>w.heap.size<=k/\k<N) w2 (DB w2 w.heap.size en init sv):=by
  have c:∀ (W:World) (p:Addr) (v:Value),w.heap.size<=p.block->p.block<N->n4 (fun k=>w.heap.size<=k/\k<N) W (W.setCell p v):=fun W p v h1 h2=>n4.setCell (S:=fun k=>w.heap.size<=k/\k<N) ⟨h1,h2⟩ v
  have hd:∀ W:World,n4 (fun k=>w.heap.size<=k/\k<N) W W.drew:=fun W=>⟨rfl,rfl,rfl,nR,fun _ _ _=>rfl⟩
  refine (((((((c _ _ _ ?_ ?_).trans (c _ _ _ ?_ ?_)).trans (c _ _ _ ?_ ?_)).trans (c _ _ _ ?_ ?_)).trans (c _ _ _ ?_ ?_)).trans (c _ _ _ ?_ ?_)).trans (c _ _ _ ?_ ?_)).trans (hd _)<;>simp<;>omega
 exact JD t2 t3 t4 m0 m1 m2 ⟨_,rfl,o8 _ (l6.mono (fun k _ h=>h.2)),k3.trans (l6.below k3.size (fun k h=>h.1))⟩
theorem Wx (w:World) (s:ByteArray) (C8:s.size<=900000000):Calls Tryz.prog 13 #[.string s] w fun e w1=>kq w w1 e (N9 s):=by
 have hmf:∀ (fn:Fn) (first cap:Array Value) (w:World),(Instr.makeFunc fn first cap).run Tryz.prog w= .ok (.func fn first cap) w:=fun _ _ _ _=>rfl
 obtain ⟨body,is,ho⟩:∃ b i,openR (Crc.opened (wl s))=(b,i):=⟨_,_,rfl⟩
 rcases is with _ | _
 ·have hp:N9 s= .error (16,0):=by unfold N9;rw [ho];rfl
  rw [hp]
  go_enter_defers Tryz.func13,Tryz.ntmps13
  go_wp2_with (go_at_call 31;refine (FZ _ s C8).mono ?_;rw [ho];rintro e w1 ⟨rfl,p6⟩)
  refine (wW _ 16 0).mono ?_
  rintro e w2 ⟨q,rfl,h2,h3,h4⟩
  dsimp only
  refine leaves_cons (f:=30) (args:= #[.pointer (some ⟨w.heap.size,0,none⟩),.pointer (some ⟨w.heap.size+1,0,none⟩),.pointer (some ⟨w.heap.size+1+1,0,none⟩)]) sP (by simp [go_sem]) ?_
  obtain ⟨k0,k1,k2,k3,k4⟩:=gS (p6.trans (h4.mono p6.size))
  refine (JC _ _ _ q 0 (.slice none 0 0) 0 .nilIface w2 oM oM oM k0 k1 k2).mono ?_
  rintro e u' w3 ⟨rfl,rfl,rfl⟩
  have k5:=(gS p6).2.2.2.2
  exact DA (rfl) (rfl) (rfl) k0 k1 k2 k3 oM h3
 ·have hp:N9 s=pAll body:=by unfold N9;rw [ho];rfl
  rw [hp]
  have jZ:body.size<=1000000000:=by
   have h9:=congrArg (fun x=>x.1.size) ho
   simp only at h9
   rw [<- h9]
   cases X4:Crc.opened (wl s) with
   | none=>exact Nat.zero_le _
   | some l =>
    have h8:=congrArg List.length (Crc.cC X4)
    rw [Crc.T5,o5] at h8
    simp only [openR,N7]
    omega
  cases J4:pAll body with
  | error bz =>
   go_enter_defers Tryz.func13,Tryz.ntmps13
   go_wp2_with (go_at_call 31;refine (FZ _ s C8).mono ?_;rw [ho];rintro e w1 ⟨rfl,p6⟩)
   refine (Yc _ w1.heap.size body (heap_alloc_new w1 _) jZ).mono ?_
   rintro e w2 D0
   rw [J4] at D0
   obtain ⟨q,rfl,h2,h3,h4⟩:=D0
   dsimp only
   refine leaves_cons (f:=30) (args:= #[.pointer (some ⟨w.heap.size,0,none⟩),.pointer (some ⟨w.heap.size+1,0,none⟩),.pointer (some ⟨w.heap.size+1+1,0,none⟩)]) sP (by simp [go_sem]) ?_
   have k5:=(gS p6).2.2.2.2
   have r8:Below w1.heap.size w1 w2:=((Below.refl _ w1).alloc nR _).trans (h4.below sP (fun k hk=>oM))
   obtain ⟨k0,k1,k2,k3,k4⟩:=gS (p6.trans (r8.mono p6.size))
   refine (JC _ _ _ q 0 (.slice none 0 0) 0 .nilIface w2 oM oM oM k0 k1 k2).mono ?_
   rintro e u' w3 ⟨rfl,rfl,rfl⟩
   exact DA rfl rfl rfl k0 k1 k2 k3 (by simp at h2;omega) h3
  | ok x =>
   obtain ⟨en,init,ss⟩:=x
   go_enter_defers Tryz.func13,Tryz.ntmps13
   go_wp2_with (go_at_call 31;refine (FZ _ s C8).mono ?_;rw [ho];rintro e w1 ⟨rfl,p6⟩)
   refine (Yc _ w1.heap.size body (heap_alloc_new w1 _) jZ).mono ?_
   rintro e w2 D0
   rw [J4] at D0
   obtain ⟨sv,rfl,o8,h4⟩:=D0
   obtain ⟨A,cc,uJ,_⟩:=(o8 _ (n4.refl _ _)).form
   subst uJ
   dsimp only
   have r8:Below w1.heap.size w1 w2:=((Below.refl _ w1).alloc nR _).trans (h4.below sP (fun k hk=>oM))
   obtain ⟨k0,k1,k2,k3,k4⟩:=gS (p6.trans (r8.mono p6.size))
   have a0:w2.cell? ⟨w.heap.size,0,none⟩=some (.int .i64 0):=by rw [cell_of_row _ _ 0 _ _ (0,0) k0];rfl
   have b0:w2.cell? ⟨w.heap.size+1,0,none⟩=some (.slice none 0 0):=by rw [cell_of_row _ _ 0 _ _ (0,0) k1];rfl
   have b1:w2.cell? ⟨w.heap.size+1,1,none⟩=some (.int .u64 0):=by rw [cell_of_row _ _ 1 _ _ (0,0) k1];rfl
   have c0:w2.cell? ⟨w.heap.size+1+1,0,none⟩=some .nilIface:=by rw [cell_of_row _ _ 0 _ _ (0,0) k2];rfl
   have fa:=j6 (i:=0) k0
   have fb:=j6 (i:=0) k1
   have fb1:=j6 (i:=1) k1
   have fc:=j6 (i:=0) k2
   go_wp2
   go_region
   go_wp2
   refine leaves_cons (f:=30) (args:= #[.pointer (some ⟨w.heap.size,0,none⟩),.pointer (some ⟨w.heap.size+1,0,none⟩),.pointer (some ⟨w.heap.size+1+1,0,none⟩)]) sP (by simp [go_sem]) ?_
   refine (kr _ _ _ _).mono ?_
   rintro e u' w3 ⟨rfl,rfl,rfl⟩
   have k5:=(gS p6).2.2.2.2
   exact ko rfl rfl rfl k0 k1 k2 k3 o8 sO
theorem aE {s:ByteArray} {pre post:List Nat} {n lo hi:Nat} (h:wl s=pre++r7 n++post) (hn:n<q9) (h1:lo<=n) (h2:n<=hi):L5 s lo hi pre.length= .ok (n,pre.length+(r7 n).length):=by
 unfold L5
 rw [h,Qd hn]
 unfold U9 aH
 simp only
 rw [if_neg sP,if_neg (by rw [if_neg (by omega)];simp)]
theorem Le {s:ByteArray} {pre post:List Nat} {c:Nat} (h:wl s=pre++c::post):U8 s pre.length= .ok (c,pre.length+1):=by
 have hl:=congrArg List.length h
 rw [o5] at hl
 simp only [List.length_append,List.length_cons] at hl
 have ha:=aZ (s:=s) (i:=pre.length) oM
 rw [h] at ha
 simp at ha
 have F0:¬ pre.length=s.size:=oM
 unfold U8 U9 K4
 simp [F0, <- ha]
theorem tB {s:ByteArray} {pre post:List Nat} {k:Nat} (h:wl s=pre++K6 k::post):pD s k pre.length= .ok (K6 k,pre.length+1):=by
 have hl:=congrArg List.length h
 rw [o5] at hl
 simp only [List.length_append,List.length_cons] at hl
 have ha:=aZ (s:=s) (i:=pre.length) oM
 rw [h] at ha
 simp at ha
 have F0:¬ pre.length=s.size:=oM
 unfold pD U9 K4 rY
 simp [F0, <- ha]
def RW (i:Nat) (a:u3):Prop:=uA a/\0<=a.to/\a.to<(i:Int)
theorem T2 (a b:Nat):G3 [a,b]=r7 a++r7 b:=by simp [G3]
theorem aV (a:Nat):G3 [a]=r7 a:=by simp [G3]
theorem nH {s:ByteArray} {i:Nat} (hi:i<=1000000):∀ (l acc:List u3) (pre post:List Nat),wl s=pre++K0 i l++post->(∀ a∈l,RW i a)->pArcs s i l.length pre.length acc= .ok (acc++l,pre.length+(K0 i l).length)
 | [],acc,pre,post,_,_=>by simp [pArcs,K0]
 | a::l,acc,pre,post,h,a6=>by
  obtain ⟨⟨ha,px,_,_⟩,h0,h1⟩:=a6 a (List.mem_cons_self ..)
  have SN:K0 i (a::l)=a.byte::(r7 a.out++(r7 (i-a.to.toNat)++K0 i l)):=by
   simp [K0,Cs,T2]
  rw [SN] at h
  simp only [List.length_cons,pArcs]
  rw [Le (c:=a.byte) (post:=r7 a.out++(r7 (i-a.to.toNat)++K0 i l)++post) (by rw [h];simp)]
  simp only
  rw [show pre.length+1=(pre++[a.byte]).length by simp,aE (n:=a.out) (post:=r7 (i-a.to.toNat)++K0 i l++post) (by rw [h];simp) (by unfold q9;omega) oM oM]
  simp only
  rw [show (pre++[a.byte]).length+(r7 a.out).length=(pre++[a.byte]++r7 a.out).length by simp;omega,aE (n:=i-a.to.toNat) (post:=K0 i l++post) (by rw [h];simp) (by unfold q9;omega) oM oM]
  simp only
  rw [show (pre++[a.byte]++r7 a.out).length+(r7 (i-a.to.toNat)).length=(pre++[a.byte]++r7 a.out++r7 (i-a.to.toNat)).length by simp;omega,nH hi l _ (pre++[a.byte]++r7 a.out++r7 (i-a.to.toNat)) post (by rw [h];simp) fun x hx=>a6 x (List.mem_cons_of_mem _ hx)]
  have he:(⟨a.byte,a.out,((i-(i-a.to.toNat):Nat):Int)⟩:u3)=a:=by
   have e1:((i-(i-a.to.toNat):Nat):Int)=a.to:=oM
   rw [e1]
  rw [he,SN]
  simp
  omega
def RX (i:Nat) (s:State):Prop:=L3 s/\s.j4.length<=256/\(s.final=false->s.out=0)/\∀ a∈s.j4,RW i a
theorem Fk {s:ByteArray} {i:Nat} {st:State} (hi:i<=1000000) (h:RX i st) (pre post:List Nat) (hw:wl s=pre++Hu i st++post):N1 s i pre.length= .ok (st,pre.length+(Hu i st).length):=by
 obtain ⟨⟨dx,_,_⟩,hl,hz,ha⟩:=h
 unfold Hu dJ at hw |-
 unfold N1
 cases hf:st.final with
 | true =>
  rw [hf,if_pos rfl,T2] at hw
  rw [if_pos rfl,T2]
  rw [aE (n:=2*st.j4.length+1) (post:=r7 st.out++K0 i st.j4++post) (by rw [hw];simp) (by unfold q9;omega) oM oM]
  simp only
  unfold jA
  rw [if_pos (by omega),show pre.length+(r7 (2*st.j4.length+1)).length=(pre++r7 (2*st.j4.length+1)).length by simp,aE (n:=st.out) (post:=K0 i st.j4++post) (by rw [hw];simp) (by unfold q9;omega) oM oM]
  simp only
  rw [show (2*st.j4.length+1) / 2=st.j4.length by omega,show (pre++r7 (2*st.j4.length+1)).length+(r7 st.out).length=(pre++r7 (2*st.j4.length+1)++r7 st.out).length by simp;omega,nH hi st.j4 [] (pre++r7 (2*st.j4.length+1)++r7 st.out) post (by rw [hw];simp) ha]
  simp only [pMk,List.nil_append]
  rw [show decide ((2*st.j4.length+1)%2=1)=st.final by rw [hf];exact decide_eq_true oM]
  simp
  omega
 | false =>
  rw [hf,if_neg sP,aV] at hw
  rw [if_neg sP,aV]
  rw [aE (n:=2*st.j4.length) (post:=K0 i st.j4++post) (by rw [hw];simp) (by unfold q9;omega) oM oM]
  simp only
  unfold jA
  rw [if_neg (by omega)]
  simp only
  rw [show 2*st.j4.length / 2=st.j4.length by omega,show pre.length+(r7 (2*st.j4.length)).length=(pre++r7 (2*st.j4.length)).length by simp,nH hi st.j4 [] (pre++r7 (2*st.j4.length)) post (by rw [hw];simp) ha]
  simp only [pMk,List.nil_append]
  rw [show decide (2*st.j4.length%2=1)=st.final by rw [hf];exact decide_eq_false oM]
  have he:({ j4:=st.j4,final:=st.final,out:=0 }:State)=st:=by rw [<- hz hf]
  rw [he]
  simp
  omega
theorem oR {s:ByteArray}:∀ (l acc:List State) (i:Nat) (pre post:List Nat),i+l.length<=1000000->wl s=pre++statesB i l++post->(∀ k st,l[k]? =some st->RX (i+k) st)->pStates s l.length i pre.length acc= .ok (acc++l,pre.length+(statesB i l).length)
 | [],acc,i,pre,post,_,_,_=>by simp [pStates,statesB]
 | st::l,acc,i,pre,post,hl,h,a6=>by
  simp only [List.length_cons] at hl
  simp only [statesB] at h
  simp only [List.length_cons,pStates]
  rw [Fk (i:=i) oM (a6 0 st rfl) pre (statesB (i+1) l++post) (by rw [h];simp)]
  simp only
  rw [show pre.length+(Hu i st).length=(pre++Hu i st).length by simp,oR l _ (i+1) (pre++Hu i st) post oM (by rw [h];simp) fun k x hx=>by
   have h9:=a6 (k+1) x (by simpa using hx)
   rw [show i+1+k=i+(k+1) by omega]
   exact h9]
  simp [statesB]
  omega
theorem Fm {s:ByteArray} {post:List Nat} (h:wl s=[67,83,1]++post):pMagic s 3 0 0= .ok 3:=by
 simp only [pMagic]
 have h0:=tB (k:=0) (pre:=[]) (post:=[83,1]++post) (s:=s) (by rw [h];rfl)
 have h1:=tB (k:=0+1) (pre:=[67]) (post:=[1]++post) (s:=s) (by rw [h];rfl)
 have h2:=tB (k:=0+1+1) (pre:=[67,83]) (post:=post) (s:=s) (by rw [h];rfl)
 simp only [List.length_nil,List.length_cons] at h0 h1 h2
 simp only [h0,h1,h2]
theorem Lf {ss:List State} (a6:∀ s∈ss,L3 s) (hm:mayL 0 ss=true) {k:Nat} {st:State} (hk:ss[k]? =some st):RX k st:=by
 have h1:=lK hm hk
 have h2:=a6 st (T9 hk)
 have h3:mayL k (ss.drop k)=true:=by
  have key:∀ (l:List State) (i k:Nat),mayL i l=true->mayL (i+k) (l.drop k)=true:=by
   intro l
   induction l with
   | nil=>intro i k _;simp [mayL]
   | cons a l ih =>
    intro i k h
    cases k with
    | zero=>simpa using h
    | succ k =>
     simp only [mayL,Bool.and_eq_true] at h
     have:=ih (i+1) k h.2
     simp only [List.drop_succ_cons]
     rw [show i+(k+1)=i+1+k by omega]
     exact this
  have:=key ss 0 k hm
  rwa [Nat.zero_add] at this
 rw [vC hk] at h3
 simp only [Bool.and_eq_true,decide_eq_true_eq,Bool.or_eq_true] at h3
 refine ⟨h2,h1.1,fun hf=> ?_,fun a ha=>⟨h2.2.2 a ha,by have:=h1.2 a ha;simpa using this⟩⟩
 rcases h3.1.1.2 with h4 | h4
 ·rw [hf] at h4;cases h4
 ·exact h4
theorem RY {s:ByteArray} {en init:Nat} {ss:List State} (GS:en<=100000) (a6:∀ s∈ss,L3 s) (h0:0<ss.length) (hm:mayL 0 ss=true) (hl:ss.length<=1000000) (hi:init<q9) (h:wl s=X7 en init ss):pAll s= .ok (en,init,ss):=by
 unfold X7 at h
 rw [T2,aV] at h
 unfold pAll
 rw [Fm (post:=r7 en++r7 ss.length++statesB 0 ss++r7 init) (by rw [h];simp)]
 simp only
 rw [show (3:Nat)=([67,83,1]:List Nat).length from rfl,aE (pre:=([67,83,1]:List Nat)) (n:=en) (post:=r7 ss.length++statesB 0 ss++r7 init) (by rw [h];simp) (by unfold q9;omega) oM oM]
 simp only
 rw [show ([67,83,1]:List Nat).length+(r7 en).length=(([67,83,1]:List Nat)++r7 en).length by simp;omega,aE (n:=ss.length) (post:=statesB 0 ss++r7 init) (by rw [h];simp) (by unfold q9;omega) oM oM]
 simp only
 rw [show (([67,83,1]:List Nat)++r7 en).length+(r7 ss.length).length=(([67,83,1]:List Nat)++r7 en++r7 ss.length).length by simp;omega,oR ss [] 0 (([67,83,1]:List Nat)++r7 en++r7 ss.length) (r7 init) oM (by rw [h];simp) fun k st hk=>by rw [Nat.zero_add];exact Lf a6 hm hk]
 simp only
 rw [show (([67,83,1]:List Nat)++r7 en++r7 ss.length).length+(statesB 0 ss).length=(([67,83,1]:List Nat)++r7 en++r7 ss.length++statesB 0 ss).length by simp;omega,aE (n:=init) (post:=[]) (by rw [h];simp) hi oM (by unfold q9 at hi;omega)]
 simp only
 have C8:=congrArg List.length h
 rw [o5] at C8
 rw [if_neg (by rw [C8];simp;omega),List.nil_append]
theorem Z0 {s:ByteArray} {lo hi p n j:Nat} (h:L5 s lo hi p= .ok (n,j)):n<q9/\lo<=n/\n<=hi/\(wl s).drop p=r7 n++(wl s).drop j:=by
 have h1:=G6 h
 have h2:=sY (cX s) h1.2.2.2.2.2
 exact ⟨h2.1,h1.2.2.2.1,h1.2.2.2.2.1,h2.2.1⟩
theorem Fp {s:ByteArray} {p c j:Nat} (hp:p<=s.size) (h:U8 s p= .ok (c,j)):(wl s).drop p=c::(wl s).drop j:=by
 have h1:=lL hp h
 rw [U3 h1.2.2.2,h1.1]
theorem jP {s:ByteArray} {i:Nat}:∀ {k p:Nat} {acc l:List u3} {j:Nat},p<=s.size->pArcs s i k p acc= .ok (l,j)->∃ l',l=acc++l'/\l'.length=k/\p<=j/\j<=s.size/\(wl s).drop p=K0 i l'++(wl s).drop j
 | 0,p,acc,l,j,hp,h=>by
  simp only [pArcs] at h
  injection h with h
  injection h with h1 h2
  subst h1;subst h2
  exact ⟨[],sP,rfl,nR,hp,by simp [K0]⟩
 | k+1,p,acc,l,j,hp,h=>by
  simp only [pArcs] at h
  split at h
  ·cases h
  ·rename_i c p1 hc
   have k1:=lL hp hc
   have b1:=Fp hp hc
   split at h
   ·cases h
   ·rename_i o p2 ho
    have k2:=G6 ho
    have b2:=Z0 ho
    split at h
    ·cases h
    ·rename_i d p3 hd
     have k3:=G6 hd
     have b3:=Z0 hd
     obtain ⟨l',h5,h4,h7,h8,h6⟩:=jP k3.2.1 h
     refine ⟨⟨c,o,((i-d:Nat):Int)⟩::l',by rw [h5];simp,by simp [h4],oM,h8,?_⟩
     rw [b1,b2.2.2.2,b3.2.2.2,h6]
     simp only [K0,List.flatMap_cons,Cs,T2]
     rw [show i-((i-d:Nat):Int).toNat=d by have:=b3.2.1;have:=b3.2.2.1;omega]
     simp
theorem oS {s:ByteArray} {i p j:Nat} {st:State} (h:N1 s i p= .ok (st,j)):p<j/\j<=s.size/\(wl s).drop p=Hu i st++(wl s).drop j:=by
 unfold N1 at h
 split at h
 ·cases h
 ·rename_i n p1 hn
  have k1:=G6 hn
  have b1:=Z0 hn
  split at h
  ·cases h
  ·rename_i o p2 ho
   cases hl:pArcs s i (n / 2) p2 [] with
   | error b=>rw [hl] at h;cases h
   | ok x =>
    obtain ⟨l,p3⟩:=x
    rw [hl] at h
    simp only [pMk] at h
    injection h with h
    injection h with h1 h2
    subst h1;subst h2
    unfold jA at ho
    unfold Hu dJ
    simp only
    split at ho
    ·rename_i h1
     have k2:=G6 ho
     have b2:=Z0 ho
     obtain ⟨l',h5,h3,h8,h9,h6⟩:=jP k2.2.1 hl
     rw [List.nil_append] at h5
     subst h5
     refine ⟨oM,h9,?_⟩
     rw [if_pos (decide_eq_true h1),T2,b1.2.2.2,b2.2.2.2,h6,show 2*l.length+1=n by omega]
     simp
    ·rename_i h1
     injection ho with ho
     injection ho with h7 h8
     subst h7;subst h8
     obtain ⟨l',h5,h3,h8,h9,h6⟩:=jP k1.2.1 hl
     rw [List.nil_append] at h5
     subst h5
     refine ⟨oM,h9,?_⟩
     rw [if_neg (by simpa using h1),aV,b1.2.2.2,h6,show 2*l.length=n by omega]
     simp
theorem oT {s:ByteArray}:∀ {k i p:Nat} {acc l:List State} {j:Nat},p<=s.size->pStates s k i p acc= .ok (l,j)->p+k<=s.size
 | 0,i,p,acc,l,j,hp,h=>hp
 | k+1,i,p,acc,l,j,hp,h=>by
  simp only [pStates] at h
  split at h
  ·cases h
  ·rename_i st p1 hs
   have b1:=oS hs
   have:=oT b1.2.1 h
   omega
theorem lN {s:ByteArray}:∀ {k i p:Nat} {acc l:List State} {j:Nat},i+k<=1000000000->p<=s.size->pStates s k i p acc= .ok (l,j)->∃ l',l=acc++l'/\l'.length=k/\p+k<=j/\j<=s.size/\(wl s).drop p=statesB i l'++(wl s).drop j/\∀ m st,l'[m]? =some st->RX (i+m) st
 | 0,i,p,acc,l,j,_,hp,h=>by
  simp only [pStates] at h
  injection h with h
  injection h with h1 h2
  subst h1;subst h2
  exact ⟨[],sP,rfl,oM,hp,by simp [statesB],fun m st hm=>by simp at hm⟩
 | k+1,i,p,acc,l,j,hik,hp,h=>by
  simp only [pStates] at h
  split at h
  ·cases h
  ·rename_i st p1 hs
   have k1:=mX oM hs
   have b1:=oS hs
   obtain ⟨l',h5,h6,h7,h8,h9,Fq⟩:=lN oM k1.2.1 h
   refine ⟨st::l',by rw [h5];simp,by simp [h6],oM,h8,by rw [b1.2.2,h9];simp [statesB],fun m x hm=> ?_⟩
   cases m with
   | zero =>
    simp at hm
    subst hm
    exact ⟨k1.2.2.1,k1.2.2.2.1,k1.2.2.2.2.2,fun a ha=>⟨k1.2.2.1.2.2 a ha,k1.2.2.2.2.1 a ha⟩⟩
   | succ m =>
    have:=Fq m x (by simpa using hm)
    rw [show i+(m+1)=i+1+m by omega]
    exact this
theorem wZ:∀ (l:List State) (i:Nat),(∀ k st,l[k]? =some st->RX (i+k) st)->mayL i l=true
 | [],_,_=>rfl
 | st::l,i,h=>by
  obtain ⟨_,h1,h2,h3⟩:=h 0 st rfl
  have h4:=wZ l (i+1) fun k x hx=>by
   have h9:=h (k+1) x (by simpa using hx)
   rw [show i+1+k=i+(k+1) by omega]
   exact h9
  have key:∀ l:List u3,(∀ a∈l,RW (i+0) a)->okTo i l=true:=by
   intro l
   induction l with
   | nil=>intro _;rfl
   | cons a l ih =>
    intro h
    have h5:=h a (List.mem_cons_self ..)
    simp only [okTo,Bool.and_eq_true,decide_eq_true_eq]
    exact ⟨h5.2,ih fun x hx=>h x (List.mem_cons_of_mem _ hx)⟩
  simp only [mayL,Bool.and_eq_true,decide_eq_true_eq,Bool.or_eq_true]
  refine ⟨⟨⟨h1,?_⟩,key _ h3⟩,h4⟩
  cases hf:st.final with
  | true=>exact .inl rfl
  | false=>exact .inr (h2 hf)
theorem DC {s:ByteArray} {p:Nat} (h:pMagic s 3 0 0= .ok p):p=3/\wl s=[67,83,1]++(wl s).drop 3/\3<=s.size:=by
 simp only [pMagic] at h
 split at h
 ·cases h
 ·rename_i x0 p1 h0
  have k0:=qE (Nat.zero_le _) h0
  split at h
  ·cases h
  ·rename_i x1 p2 h1
   have k1:=qE k0.2.1 h1
   split at h
   ·cases h
   ·rename_i x2 p3 h2
    have k2:=qE k1.2.1 h2
    injection h with h
    have e1:p1=1:=oM
    have e2:p2=2:=oM
    subst e1;subst e2
    refine ⟨oM,?_,oM⟩
    have d0:=U3 k0.2.2
    have d1:=U3 k1.2.2
    have d2:=U3 k2.2.2
    rw [List.drop_zero] at d0
    rw [d0,d1,d2]
    rfl
theorem Lg {s:ByteArray} (C8:s.size<=900000000) {en init:Nat} {ss:List State} (h:pAll s= .ok (en,init,ss)):wl s=X7 en init ss/\en<=100000/\0<ss.length/\(∀ st∈ss,L3 st)/\mayL 0 ss=true/\init<q9/\ss.length<=s.size:=by
 unfold pAll at h
 split at h
 ·cases h
 ·rename_i p0 hm
  obtain ⟨rfl,b0,h3⟩:=DC hm
  split at h
  ·cases h
  ·rename_i en' p1 h1
   have k1:=G6 h1
   have b1:=Z0 h1
   split at h
   ·cases h
   ·rename_i n p2 h2
    have k2:=G6 h2
    have b2:=Z0 h2
    split at h
    ·cases h
    ·rename_i ss' p3 h4
     have hn:n<=900000000:=by
      have:=oT k2.2.1 h4
      omega
     obtain ⟨l',h5,h6,h7,h8,h9,Fq⟩:=lN oM k2.2.1 h4
     rw [List.nil_append] at h5
     subst h5
     split at h
     ·cases h
     ·rename_i init' p4 hi
      have k5:=G6 hi
      have b5:=Z0 hi
      split at h
      ·cases h
      ·rename_i hend
       injection h with h
       injection h with e1 e2
       injection e2 with e2 e3
       subst e1;subst e2;subst e3
       have hd:(wl s).drop p4=[]:=List.drop_eq_nil_of_le (by rw [o5];omega)
       refine ⟨?_,b1.2.2.1,oM,fun st A8=> ?_,wZ _ 0 Fq,b5.1,oM⟩
       ·unfold X7
        rw [T2,aV,b0,b1.2.2.2,b2.2.2.2,h9,b5.2.2.2,hd,h6]
        simp
       ·obtain ⟨m,lX⟩:=List.mem_iff_getElem?.1 A8
        exact (Fq m st lX).1
theorem rU (l:List Nat):openR (some l)=(bl l,true):=rfl
theorem Lh (s:ByteArray):N9 (bl (Crc.N8 (wl s)))=pAll s:=by
 have hs:Small (Crc.N8 (wl s)):=by
  intro x hx
  rcases List.mem_append.1 hx with h | h
  ·exact cX s x h
  ·simp [Crc.four] at h;omega
 unfold N9
 rw [aL hs,Crc.Ck,rU,Bi]
 rfl
theorem Kh {w W:World} {A:Array Value} {t:TypeId} (h:w.alloc (.cells A t)=W):Below w.heap.size w W/\(∀ j u,A.toList[j]? =some u->W.cell? ⟨w.heap.size,0+j,none⟩=some u)/\W.heap.size=w.heap.size+1:=by
 subst h
 refine ⟨(Below.refl _ _).alloc nR _,fun j u hu=> ?_,sP⟩
 rw [Nat.zero_add,cell_of_row _ _ j _ t (0,0) (heap_alloc_new w _)]
 simpa using hu
def z6z (a:u3):Bool:=decide (a.byte<256)&&decide (a.out<18446744073709551616)&&decide (-9223372036854775808<=a.to)&&decide (a.to<9223372036854775808)
def WA (s:State):Bool:=decide (s.out<18446744073709551616)&&decide (s.j4.length<1000)&&s.j4.all z6z
theorem Up (l:List State) (h:l.all WA=true):∀ s∈l,L3 s:=by
 intro s hs
 have:=List.all_eq_true.1 h s hs
 simp only [WA,Bool.and_eq_true,decide_eq_true_eq] at this
 refine ⟨this.1.1,by have:=this.1.2;omega,fun a ha=> ?_⟩
 have h2:=List.all_eq_true.1 this.2 a ha
 simp only [z6z,Bool.and_eq_true,decide_eq_true_eq] at h2
 exact ⟨h2.1.1.1,h2.1.1.2,h2.1.2,h2.2⟩
theorem Ut (l:List State) (h:l.all WA=true):∀ s∈l,s.j4.length<=1000:=by
 intro s hs
 have:=List.all_eq_true.1 h s hs
 simp only [WA,Bool.and_eq_true,decide_eq_true_eq] at this
 omega
theorem wC:(Tryz.prog.info? 71).map (fun i=>(i.zero,i.size,i.bytes))=some (some (.agg #[.int .u8 0,.int .u64 0,.int .i64 0]),3,24):=kR
theorem zQ {en init:Nat} {ss:List State} (a6:∀ s∈ss,L3 s) (hm:mayL 0 ss=true) (hl:ss.length<=100000) (GS:en<=100000) (hi:init<q9):Small (X7 en init ss):=oQ a6 hm hl GS hi
theorem Li {en init:Nat} {ss:List State} (GS:en<=100000) (a6:∀ s∈ss,L3 s) (h0:0<ss.length) (hm:mayL 0 ss=true) (hl:ss.length<=100000) (hi:init<q9):N9 (bl (Crc.N8 (X7 en init ss)))= .ok (en,init,ss):=by
 have hs:=zQ a6 hm hl GS hi
 have h1:=Lh (bl (X7 en init ss))
 rw [aL hs] at h1
 rw [h1]
 exact RY GS a6 h0 hm oM hi (aL hs)
theorem CN {en:Int} {init:Nat} {ss:List State} (h:X2 en ss=true) (a6:∀ s∈ss,L3 s) (hl:ss.length<=100000) (hi:init<q9):N9 (bl (putR en init ss).1)= .ok (en.toNat,init,ss):=by
 obtain ⟨h1,h2,h3,h4⟩:=pN h
 unfold putR
 rw [if_pos h]
 exact Li oM a6 h3 h4 hl hi
theorem vR {y:ByteArray} (C8:y.size<=900000000) {en init:Nat} {ss:List State} (h:N9 y= .ok (en,init,ss)):X2 (en:Int) ss=true/\(∀ s∈ss,L3 s)/\init<q9/\ss.length<=y.size/\y=bl (putR (en:Int) init ss).1:=by
 unfold N9 at h
 cases ho:Crc.opened (wl y) with
 | none=>rw [ho] at h;simp [openR] at h
 | some b =>
  have h1:=Crc.cC ho
  have N6:Small b:=fun x hx=>cX y x (by rw [h1];exact List.mem_append_left _ hx)
  have hlen:=congrArg List.length h1
  rw [o5,Crc.T5] at hlen
  rw [ho] at h
  have h2:pAll (bl b)= .ok (en,init,ss):=by simpa [openR] using h
  have h3:=Lg (by rw [N7];omega) h2
  rw [aL N6,N7] at h3
  have hm:X2 (en:Int) ss=true:=by
   unfold X2
   rw [decide_eq_true (show (0:Int)<=en by omega),decide_eq_true (show (en:Int)<=100000 by have:=h3.2.1;omega),decide_eq_true h3.2.2.1,h3.2.2.2.2.1]
   rfl
  refine ⟨hm,h3.2.2.2.1,h3.2.2.2.2.2.1,by have:=h3.2.2.2.2.2.2;omega,?_⟩
  unfold putR
  rw [if_pos hm,Int.toNat_natCast, <- h3.1, <- h1,Bi]
theorem D8 {w W:World} {a b:Array Value} {t u:TypeId} (h:(w.alloc (.cells a t)).alloc (.cells b u)=W):Below w.heap.size w W/\W.heap[w.heap.size]? =some (.cells a t (0,0))/\W.heap[w.heap.size+1]? =some (.cells b u (0,0)):=by
 subst h
 refine ⟨((Below.refl _ w).alloc nR _).alloc sP _,?_,?_⟩
 ·rw [y9,if_neg sP,y9,if_pos rfl]
 ·rw [y9,if_pos sP]
theorem cG {w W:World} {a b c:Array Value} {t u v:TypeId} (h:((w.alloc (.cells a t)).alloc (.cells b u)).alloc (.cells c v)=W):Below w.heap.size w W/\W.heap[w.heap.size]? =some (.cells a t (0,0))/\W.heap[w.heap.size+1]? =some (.cells b u (0,0))/\W.heap[w.heap.size+1+1]? =some (.cells c v (0,0)):=by
 subst h
 refine ⟨(((Below.refl _ _).alloc nR _).alloc sP _).alloc sO _,?_,?_,?_⟩
 ·rw [y9,if_neg sO,y9,if_neg sP,y9,if_pos rfl]
 ·rw [y9,if_neg sP,y9,if_pos sP]
 ·rw [y9,if_pos sP]
structure C0 where
 n:Nat
 fits:Bool
 any:Bool
def C0.val (m:C0):Value:= .agg #[.int .u64 m.n,.bool m.fits,.bool m.any]
def C0.or (m x:C0):C0:=if x.any then (if m.any then ⟨max m.n x.n,m.fits&&x.fits,true⟩ else x) else m
def qZ (x c:Int):Int:=if c<0 then x else max x (c+1)
theorem xA {n k sm cr:Nat} (hs:(n+k)%q9=sm) (hc:(n+k) / q9=cr) (w:World):(callFunc 142 #[.int .u64 n,.int .u64 k,.int .u64 0]).run Tryz.prog w= .ok (.value (.tuple #[.int .u64 sm,.int .u64 cr])) w:=by
 rw [run_callFunc_extern Tryz.func142 kR kR kR (e:=add64Entry) kR,run_add64 _ _ _ oM oM oM oM]
 unfold q9 at *
 rw [show ((n:Int)+(k:Int)+0)%18446744073709551616=(sm:Int) by omega,show ((n:Int)+(k:Int)+0) / 18446744073709551616=(cr:Int) by omega]
 rfl
theorem DD {n k:Nat} (hn:n<q9) (hk:k<q9):((((n+k) / q9:Nat):Int)==0)=decide (n+k<q9):=by
 unfold q9 at *
 by_cases h:n+k<18446744073709551616
 ·rw [decide_eq_true h,show (n+k) / 18446744073709551616=0 by omega];rfl
 ·rw [decide_eq_false h,show (n+k) / 18446744073709551616=1 by omega];rfl
theorem z6y (w:World) (n k:Nat) (hn:n<q9) (hk:k<q9):E2 w 113 #[.agg #[.int .u64 n,.bool true],.int .u64 k] (.agg #[.int .u64 ((n+k)%q9:Nat),.bool (true&&decide (n+k<q9))]):=by
 refine Z6 22 Tryz.func113 fun fr hf s0 s1=> ?_
 obtain ⟨sm,N6⟩:∃ x,(n+k)%q9=x:=⟨_,rfl⟩
 obtain ⟨cr,kn⟩:∃ x,(n+k) / q9=x:=⟨_,rfl⟩
 obtain ⟨d,hd⟩:∃ x,decide (n+k<q9)=x:=⟨_,rfl⟩
 have XX:=fun w=>xA N6 kn w
 have q1:(((cr:Nat):Int)==0)=d:=by rw [<- kn, <- hd];exact DD hn hk
 rw [N6,hd]
 clear N6 kn hd
 refine Ze fun _ a8=>Zr [] hf ?_
 refine y7 1 2 4 hf ?_
 clear hf s0 s1;intro a7 hf sS
 obtain ⟨W0,p8⟩:∃ x,(w.alloc (.cells #[.int .u64 n,.bool true] 190)).alloc (.cells #[.int .u64 0,.bool false] 190)=x:=⟨_,rfl⟩
 obtain ⟨s1,s2,s4⟩:=sS
 try simp only [World.size_alloc] at s4
 try rw [p8]
 obtain ⟨o7,E3,C9⟩:=D8 p8
 clear p8
 have c0:=n5 0 E3;have c1:=n5 1 E3;have i0:=n5 0 C9;have i1:=n5 1 C9;have fi0:=j6 (i:=0) C9;have fi1:=j6 (i:=1) C9
 simp at c0 c1 i0 i1
 refine Zt a8 fun _ a8=> ?_
 have bB:=hf.B7 8 9 10 11 7 12 13
 iterate 3 refine Zy ?_
 refine fp fun K Z=> ?_
 go_simp
 apply Z.out;clear Z K
 iterate 5 refine Zy ?_
 refine Fc.nil (z8 2 4 5 6 hf ?_)
 clear hf s1 s2 s4 bB;intro a7 hf sS
 refine Zs a8 fun _ a8=> ?_
 have qs:=q1
 refine Zr [14,15,16,17,18,19,20,21] hf ?_
 refine p5 4 hf ?_
 clear hf sS qs;intro a7 hf s4
 refine Zx a8 (k8 ?_)
 exact aX rfl hf s4 (k7 (k7 C9 _) _) Tryz.underlying190 rfl kR ⟨sP,(o7.setCell (p:=⟨w.heap.size+1,0,none⟩) (Nat.le_succ _) _).setCell (p:=⟨w.heap.size+1,1,none⟩) (Nat.le_succ _) _⟩
theorem z6x (w:World) (n k:Nat) (hn:n<q9) (hk:k<q9):E2 w 113 #[.agg #[.int .u64 n,.bool false],.int .u64 k] (.agg #[.int .u64 ((n+k)%q9:Nat),.bool (false&&decide (n+k<q9))]):=by
 refine Z6 22 Tryz.func113 fun fr hf s0 s1=> ?_
 obtain ⟨sm,N6⟩:∃ x,(n+k)%q9=x:=⟨_,rfl⟩
 obtain ⟨cr,kn⟩:∃ x,(n+k) / q9=x:=⟨_,rfl⟩
 obtain ⟨d,hd⟩:∃ x,decide (n+k<q9)=x:=⟨_,rfl⟩
 have XX:=fun w=>xA N6 kn w
 have q1:(((cr:Nat):Int)==0)=d:=by rw [<- kn, <- hd];exact DD hn hk
 rw [N6,hd]
 clear N6 kn hd
 refine Ze fun _ a8=>Zr [] hf ?_
 refine y7 1 2 4 hf ?_
 clear hf s0 s1;intro a7 hf sS
 obtain ⟨W0,p8⟩:∃ x,(w.alloc (.cells #[.int .u64 n,.bool false] 190)).alloc (.cells #[.int .u64 0,.bool false] 190)=x:=⟨_,rfl⟩
 obtain ⟨s1,s2,s4⟩:=sS
 try simp only [World.size_alloc] at s4
 try rw [p8]
 obtain ⟨o7,E3,C9⟩:=D8 p8
 clear p8
 have c0:=n5 0 E3;have c1:=n5 1 E3;have i0:=n5 0 C9;have i1:=n5 1 C9;have fi0:=j6 (i:=0) C9;have fi1:=j6 (i:=1) C9
 simp at c0 c1 i0 i1
 refine Zt a8 fun _ a8=> ?_
 have bB:=hf.B7 8 9 10 11 7 12 13
 iterate 3 refine Zy ?_
 refine fp fun K Z=> ?_
 go_simp
 apply Z.out;clear Z K
 iterate 5 refine Zy ?_
 refine Fc.nil (z8 2 4 5 6 hf ?_)
 clear hf s1 s2 s4 bB;intro a7 hf sS
 refine Zs a8 fun _ a8=> ?_
 have qs:=q1
 refine Zr [14,15,16,17,18,19,20,21] hf ?_
 refine p5 4 hf ?_
 clear hf sS qs;intro a7 hf s4
 refine Zx a8 (k8 ?_)
 exact aX rfl hf s4 (k7 (k7 C9 _) _) Tryz.underlying190 rfl kR ⟨sP,(o7.setCell (p:=⟨w.heap.size+1,0,none⟩) (Nat.le_succ _) _).setCell (p:=⟨w.heap.size+1,1,none⟩) (Nat.le_succ _) _⟩
theorem mQ (w:World) (n k:Nat) (b:Bool) (hn:n<q9) (hk:k<q9):E2 w 113 #[.agg #[.int .u64 n,.bool b],.int .u64 k] (.agg #[.int .u64 ((n+k)%q9:Nat),.bool (b&&decide (n+k<q9))]):=by
 cases b with
 | true=>exact z6y w n k hn hk
 | false=>exact z6x w n k hn hk
theorem y3w (w:World) (n k:Nat) (fm fx am:Bool):E2 w 114 #[.agg #[.int .u64 n,.bool fm,.bool am],.agg #[.int .u64 k,.bool fx,.bool false]] (.agg #[.int .u64 n,.bool fm,.bool am]):=by
 refine Z6 32 Tryz.func114 fun fr hf s0 s1=> ?_
 refine Ze fun _ a8=>Zr [] hf ?_
 refine y7 2 3 4 hf ?_
 clear hf s0 s1;intro a7 hf sS
 obtain ⟨W0,p8⟩:∃ x,((w.alloc (.cells #[.int .u64 n,.bool fm,.bool am] 192)).alloc (.cells #[.int .u64 k,.bool fx,.bool false] 192)).alloc (.cells #[.int .u64 0,.bool false,.bool false] 192)=x:=⟨_,rfl⟩
 obtain ⟨s2,s3,s4⟩:=sS
 try simp only [World.size_alloc] at s2 s3 s4
 try rw [p8]
 obtain ⟨o7,E3,C9,J1⟩:=cG p8
 clear p8
 have c0:=n5 0 E3
 have c1:=n5 1 E3
 have c2:=n5 2 E3
 have d0:=n5 0 C9
 have d1:=n5 1 C9
 have d2:=n5 2 C9
 have r0:=n5 0 J1
 have r1:=n5 1 J1
 have r2:=n5 2 J1
 have f0:=j6 (i:=0) J1;have f1:=j6 (i:=1) J1;have f2:=j6 (i:=2) J1
 simp at c0 c1 c2 d0 d1 d2 r0 r1 r2
 refine Zs a8 fun _ a8=>wp_block (Ze fun _ j8=>Zr [6,7,8] hf ?_)
 refine z8 2 3 4 5 hf ?_
 clear hf s2 s3 s4;intro a7 hf sS
 refine Zx j8 (Fc.l7 sS.2.2.2 ?_)
 refine Ze fun _ j8=>Zr [9] hf ?_
 refine p5 4 hf ?_
 intro a7 hf s4
 refine Zx j8 (k8 ?_)
 exact aX rfl hf s4 (k7 (k7 (k7 J1 _) _) _) Tryz.underlying192 rfl kR ⟨sP,((o7.setCell (p:=⟨w.heap.size+1+1,0,none⟩) sQ _).setCell (p:=⟨w.heap.size+1+1,1,none⟩) sQ _).setCell (p:=⟨w.heap.size+1+1,2,none⟩) sQ _⟩
theorem y3v (w:World) (n k:Nat) (fm fx am:Bool):E2 w 114 #[.agg #[.int .u64 n,.bool fm,.bool false],.agg #[.int .u64 k,.bool fx,.bool true]] (.agg #[.int .u64 k,.bool fx,.bool true]):=by
 refine Z6 32 Tryz.func114 fun fr hf s0 s1=> ?_
 refine Ze fun _ a8=>Zr [] hf ?_
 refine y7 2 3 4 hf ?_
 clear hf s0 s1;intro a7 hf sS
 obtain ⟨W0,p8⟩:∃ x,((w.alloc (.cells #[.int .u64 n,.bool fm,.bool false] 192)).alloc (.cells #[.int .u64 k,.bool fx,.bool true] 192)).alloc (.cells #[.int .u64 0,.bool false,.bool false] 192)=x:=⟨_,rfl⟩
 obtain ⟨s2,s3,s4⟩:=sS
 try simp only [World.size_alloc] at s2 s3 s4
 try rw [p8]
 obtain ⟨o7,E3,C9,J1⟩:=cG p8
 clear p8
 have c0:=n5 0 E3
 have c1:=n5 1 E3
 have c2:=n5 2 E3
 have d0:=n5 0 C9
 have d1:=n5 1 C9
 have d2:=n5 2 C9
 have r0:=n5 0 J1
 have r1:=n5 1 J1
 have r2:=n5 2 J1
 have f0:=j6 (i:=0) J1;have f1:=j6 (i:=1) J1;have f2:=j6 (i:=2) J1
 simp at c0 c1 c2 d0 d1 d2 r0 r1 r2
 refine Zs a8 fun _ a8=>wp_block (Ze fun _ j8=>Zr [6,7,8] hf ?_)
 refine z8 2 3 4 5 hf ?_
 clear hf s2 s3 s4;intro a7 hf sS
 refine Zx j8 (Fc.k9 sS.2.2.2 ?_)
 refine Ze fun _ j8=>Zr [11,12,13] hf ?_
 refine z8 2 3 4 10 hf ?_
 intro a7 hf sS
 refine Zx j8 (Fc.l7 sS.2.2.2 ?_)
 refine Ze fun _ j8=>Zr [14] hf ?_
 refine p5 4 hf ?_
 intro a7 hf s4
 refine Zx j8 (k8 ?_)
 exact aX rfl hf s4 (k7 (k7 (k7 J1 _) _) _) Tryz.underlying192 rfl kR ⟨sP,((o7.setCell (p:=⟨w.heap.size+1+1,0,none⟩) sQ _).setCell (p:=⟨w.heap.size+1+1,1,none⟩) sQ _).setCell (p:=⟨w.heap.size+1+1,2,none⟩) sQ _⟩
theorem y3u (w:World) (n k:Nat) (fm fx am:Bool):E2 w 114 #[.agg #[.int .u64 n,.bool fm,.bool true],.agg #[.int .u64 k,.bool fx,.bool true]] (.agg #[.int .u64 ((max n k:Nat):Int),.bool (fm&&fx),.bool true]):=by
 refine Z6 32 Tryz.func114 fun fr hf s0 s1=> ?_
 refine Ze fun _ a8=>Zr [] hf ?_
 refine y7 2 3 4 hf ?_
 clear hf s0 s1;intro a7 hf sS
 obtain ⟨W0,p8⟩:∃ x,((w.alloc (.cells #[.int .u64 n,.bool fm,.bool true] 192)).alloc (.cells #[.int .u64 k,.bool fx,.bool true] 192)).alloc (.cells #[.int .u64 0,.bool false,.bool false] 192)=x:=⟨_,rfl⟩
 obtain ⟨s2,s3,s4⟩:=sS
 try simp only [World.size_alloc] at s2 s3 s4
 try rw [p8]
 obtain ⟨o7,E3,C9,J1⟩:=cG p8
 clear p8
 have c0:=n5 0 E3
 have c1:=n5 1 E3
 have c2:=n5 2 E3
 have d0:=n5 0 C9
 have d1:=n5 1 C9
 have d2:=n5 2 C9
 have r0:=n5 0 J1
 have r1:=n5 1 J1
 have r2:=n5 2 J1
 have f0:=j6 (i:=0) J1;have f1:=j6 (i:=1) J1;have f2:=j6 (i:=2) J1
 simp at c0 c1 c2 d0 d1 d2 r0 r1 r2
 refine Zs a8 fun _ a8=>wp_block (Ze fun _ j8=>Zr [6,7,8] hf ?_)
 refine z8 2 3 4 5 hf ?_
 clear hf s2 s3 s4;intro a7 hf sS
 refine Zx j8 (Fc.k9 sS.2.2.2 ?_)
 refine Ze fun _ j8=>Zr [11,12,13] hf ?_
 refine z8 2 3 4 10 hf ?_
 intro a7 hf sS
 refine Zx j8 (Fc.k9 sS.2.2.2 ?_)
 refine wp_skip (Fc.j9 (Zx a8 ?_))
 rcases D6:fm with _ | _
 . (
 refine Ze fun _ a8=>rg ?_
 have bB:=And.intro (hf.eW 15 16 17 18 19 20 21 22 23 24) (hf.B7 25 26 27 28 29 30 31)
 iterate 6 refine Zy ?_
 refine fp fun K Z=> ?_
 go_simp
 apply Z.out;clear Z K
 iterate 11 refine Zy ?_
 refine Fc.nil (p5 4 hf ?_)
 intro a7 hf s4
 refine Zx a8 (k8 ?_)
 exact aX rfl hf s4 (k7 (k7 (k7 J1 _) _) _) Tryz.underlying192 rfl kR ⟨sO,((o7.setCell (p:=⟨w.heap.size+1+1,0,none⟩) sQ _).setCell (p:=⟨w.heap.size+1+1,1,none⟩) sQ _).setCell (p:=⟨w.heap.size+1+1,2,none⟩) sQ _⟩)
 . (
 refine Ze fun _ a8=>rg ?_
 have bB:=And.intro (hf.eW 15 16 17 18 19 20 21 22 23 24) (hf.B7 25 26 27 28 29 30 31)
 iterate 6 refine Zy ?_
 refine fp fun K Z=> ?_
 go_simp
 apply Z.out;clear Z K
 iterate 11 refine Zy ?_
 refine Fc.nil (p5 4 hf ?_)
 intro a7 hf s4
 refine Zx a8 (k8 ?_)
 exact aX rfl hf s4 (k7 (k7 (k7 J1 _) _) _) Tryz.underlying192 rfl kR ⟨sO,((o7.setCell (p:=⟨w.heap.size+1+1,0,none⟩) sQ _).setCell (p:=⟨w.heap.size+1+1,1,none⟩) sQ _).setCell (p:=⟨w.heap.size+1+1,2,none⟩) sQ _⟩)
theorem z6w (w:World) (m x:C0):Calls Tryz.prog 114 #[m.val,x.val] w fun e w1=>e= .returned (m.or x).val/\Below w.heap.size w w1:=by
 obtain ⟨n,fm,am⟩:=m
 obtain ⟨k,fx,ax⟩:=x
 cases ax with
 | false=>exact y3w w n k fm fx am
 | true=>cases am with
  | false=>exact y3v w n k fm fx true
  | true=>exact y3u w n k fm fx true
theorem y3t (w:World) (n:Nat):E2 w 115 #[.agg #[.int .u64 n,.bool true]] (.bool (true&&decide (n<=4294967296))):=by
 refine L7 10 Tryz.func115 fun fr hf s0=> ?_
 refine Ze fun _ a8=>Zr [] hf ?_
 refine p5 1 hf ?_
 clear hf s0;intro a7 hf s1
 generalize p8:w.alloc (.cells #[.int .u64 n,.bool true] 190)=W0
 obtain ⟨o7,c0,c1, -, -⟩:=P7 p8
 clear p8
 refine Zs a8 fun _ a8=>Zr [3,4,5,6,7,8,9] hf ?_
 refine p5 2 hf ?_
 clear hf s1;intro a7 hf s2
 refine Zx a8 (k8 ?_)
 exact Fc.o6 rfl hf s2 ⟨by rw [Bool.true_and];congr 2;exact decide_eq_decide.2 oM,o7⟩
theorem y3s (w:World) (n:Nat):E2 w 115 #[.agg #[.int .u64 n,.bool false]] (.bool (false&&decide (n<=4294967296))):=by
 refine L7 10 Tryz.func115 fun fr hf s0=> ?_
 refine Ze fun _ a8=>Zr [] hf ?_
 refine p5 1 hf ?_
 clear hf s0;intro a7 hf s1
 generalize p8:w.alloc (.cells #[.int .u64 n,.bool false] 190)=W0
 obtain ⟨o7,c0,c1, -, -⟩:=P7 p8
 clear p8
 refine Zs a8 fun _ a8=>Zr [3,4,5,6,7,8,9] hf ?_
 refine p5 2 hf ?_
 clear hf s1;intro a7 hf s2
 refine Zx a8 (k8 ?_)
 exact Fc.o6 rfl hf s2 ⟨sP,o7⟩
theorem NC (w:World) (n:Nat) (b:Bool):E2 w 115 #[.agg #[.int .u64 n,.bool b]] (.bool (b&&decide (n<=4294967296))):=by
 cases b with
 | true=>exact y3t w n
 | false=>exact y3s w n
theorem Gm (w:World) (sv:Value) (init:Nat) (ss:List State) (o8:RS w sv ss) (hlen:ss.length<=1000000000):E2 w 149 #[.agg #[sv,.int .u64 init]] (.int .i64 ((ss.length:Int)-1)):=by
 refine L7 7 Tryz.func149 fun fr hf s0=> ?_
 obtain ⟨A,cc,rfl,U0⟩:=o8.form
 refine Ze fun _ a8=>Zr [] hf ?_
 refine p5 1 hf ?_
 clear hf s0;intro a7 hf s1
 generalize p8:w.alloc (.cells #[.slice A ss.length cc,.int .u64 init] 38)=W0
 obtain ⟨o7,c0,c1, -, -⟩:=P7 p8
 clear p8
 refine Zs a8 fun _ a8=>Zr [3,4,5,6] hf ?_
 refine p5 2 hf ?_
 clear hf s1;intro a7 hf s2
 refine Zx a8 (k8 ?_)
 exact Fc.o6 rfl hf s2 ⟨rfl,o7⟩
theorem zR (w:World) (a b:ByteArray):Calls Tryz.prog 153 #[.string a,.string b] w fun e w1=>e= .returned (.bool (lexlt (wl a) (wl b)))/\w=w1:=by
 refine Z6 8 Tryz.func153 fun fr hf s0 s1=> ?_
 refine Ze fun _ a8=>Zr [] hf ?_
 refine y4 0 1 hf ?_
 clear hf s0 s1;intro a7 hf sS
 refine Zs a8 fun _ a8=>Zr [5,6,7] hf ?_
 refine p5 4 hf ?_
 intro a7 hf s4
 refine Zx a8 (k8 ?_)
 exact Fc.o6 rfl hf s4 ⟨by rw [<- xV],rfl⟩
theorem sg (w:World) (av:Value) (out:Nat) (Z3:∃ A n c,av= .slice A n c):E2 w 106 #[.agg #[av,.bool true,.int .u64 out]] (.int .i64 (1)):=by
 refine L7 5 Tryz.func106 fun fr hf s0=> ?_
 obtain ⟨A,n,c,rfl⟩:=Z3
 refine Ze fun _ a8=>Zr [] hf ?_
 refine p5 1 hf ?_
 clear hf s0;intro a7 hf s1
 generalize p8:w.alloc (.cells #[.slice A n c,.bool true,.int .u64 out] 46)=W0
 obtain ⟨o7,c0,c1,c2, -, -⟩:=E7 p8
 clear p8
 refine Zs a8 fun _ a8=>Ze fun _ j8=>Zr [3] hf ?_
 refine p5 4 hf ?_
 clear hf s1;intro a7 hf s4
 refine Zx j8 (Fc.l7 s4 ?_)
 refine Ze fun _ j8=>Zr [] hf ?_
 refine p5 2 hf ?_
 clear hf s4;intro a7 hf s2
 refine Zx j8 (k8 ?_)
 exact Fc.o6 rfl hf s2 ⟨rfl,o7⟩
theorem si (w:World) (av:Value) (out:Nat) (Z3:∃ A n c,av= .slice A n c):E2 w 106 #[.agg #[av,.bool false,.int .u64 out]] (.int .i64 (0)):=by
 refine L7 5 Tryz.func106 fun fr hf s0=> ?_
 obtain ⟨A,n,c,rfl⟩:=Z3
 refine Ze fun _ a8=>Zr [] hf ?_
 refine p5 1 hf ?_
 clear hf s0;intro a7 hf s1
 generalize p8:w.alloc (.cells #[.slice A n c,.bool false,.int .u64 out] 46)=W0
 obtain ⟨o7,c0,c1,c2, -, -⟩:=E7 p8
 clear p8
 refine Zs a8 fun _ a8=>Ze fun _ j8=>Zr [3] hf ?_
 refine p5 4 hf ?_
 clear hf s1;intro a7 hf s4
 refine Zx j8 (Fc.k9 s4 ?_)
 refine wp_skip (Zs a8 fun _ a8=>Zr [] hf ?_)
 refine p5 2 hf ?_
 clear hf s4;intro a7 hf s2
 refine Zx a8 (k8 ?_)
 exact Fc.o6 rfl hf s2 ⟨rfl,o7⟩
theorem sd (w:World) (av:Value) (out:Nat) (Z3:∃ A n c,av= .slice A n c):E2 w 108 #[.agg #[av,.bool true,.int .u64 out]] (.int .i64 (0)):=by
 refine L7 5 Tryz.func108 fun fr hf s0=> ?_
 obtain ⟨A,n,c,rfl⟩:=Z3
 refine Ze fun _ a8=>Zr [] hf ?_
 refine p5 1 hf ?_
 clear hf s0;intro a7 hf s1
 generalize p8:w.alloc (.cells #[.slice A n c,.bool true,.int .u64 out] 46)=W0
 obtain ⟨o7,c0,c1,c2, -, -⟩:=E7 p8
 clear p8
 refine Zs a8 fun _ a8=>Ze fun _ j8=>Zr [3] hf ?_
 refine p5 4 hf ?_
 clear hf s1;intro a7 hf s4
 refine Zx j8 (Fc.l7 s4 ?_)
 refine Ze fun _ j8=>Zr [] hf ?_
 refine p5 2 hf ?_
 clear hf s4;intro a7 hf s2
 refine Zx j8 (k8 ?_)
 exact Fc.o6 rfl hf s2 ⟨rfl,o7⟩
theorem se (w:World) (av:Value) (out:Nat) (Z3:∃ A n c,av= .slice A n c):E2 w 108 #[.agg #[av,.bool false,.int .u64 out]] (.int .i64 (-1)):=by
 refine L7 5 Tryz.func108 fun fr hf s0=> ?_
 obtain ⟨A,n,c,rfl⟩:=Z3
 refine Ze fun _ a8=>Zr [] hf ?_
 refine p5 1 hf ?_
 clear hf s0;intro a7 hf s1
 generalize p8:w.alloc (.cells #[.slice A n c,.bool false,.int .u64 out] 46)=W0
 obtain ⟨o7,c0,c1,c2, -, -⟩:=E7 p8
 clear p8
 refine Zs a8 fun _ a8=>Ze fun _ j8=>Zr [3] hf ?_
 refine p5 4 hf ?_
 clear hf s1;intro a7 hf s4
 refine Zx j8 (Fc.k9 s4 ?_)
 refine wp_skip (Zs a8 fun _ a8=>Zr [] hf ?_)
 refine p5 2 hf ?_
 clear hf s4;intro a7 hf s2
 refine Zx a8 (k8 ?_)
 exact Fc.o6 rfl hf s2 ⟨rfl,o7⟩
theorem z1g (w:World) (av:Value) (fin:Bool) (out:Nat) (Z3:∃ A n c,av= .slice A n c):E2 w 111 #[.agg #[av,.bool fin,.int .u64 out]] (C0.val ⟨out,true,fin⟩):=by
 refine L7 9 Tryz.func111 fun fr hf s0=> ?_
 obtain ⟨A,n,c,rfl⟩:=Z3
 refine Ze fun _ a8=>Zr [] hf ?_
 refine y4 1 2 hf ?_
 clear hf s0;intro a7 hf sS
 obtain ⟨W0,p8⟩:∃ x,(w.alloc (.cells #[.slice A n c,.bool fin,.int .u64 out] 46)).alloc (.cells #[.int .u64 0,.bool false,.bool false] 192)=x:=⟨_,rfl⟩
 obtain ⟨s1,s2⟩:=sS
 try simp only [World.size_alloc] at s2
 try rw [p8]
 obtain ⟨o7,E3,C9⟩:=D8 p8
 clear p8
 have c0:=n5 0 E3
 have c1:=n5 1 E3
 have c2:=n5 2 E3
 have r0:=n5 0 C9
 have r1:=n5 1 C9
 have r2:=n5 2 C9
 have f0:=j6 (i:=0) C9;have f1:=j6 (i:=1) C9;have f2:=j6 (i:=2) C9
 simp at c0 c1 c2 r0 r1 r2
 refine Zs a8 fun _ a8=>Zr [3,4,5,6,7,8] hf ?_
 refine p5 2 hf ?_
 clear hf s1 s2;intro a7 hf s2
 refine Zx a8 (k8 ?_)
 exact aX rfl hf s2 (k7 (k7 (k7 C9 _) _) _) Tryz.underlying192 rfl kR ⟨by simp [C0.val],((o7.setCell (p:=⟨w.heap.size+1,0,none⟩) sQ _).setCell (p:=⟨w.heap.size+1,1,none⟩) sQ _).setCell (p:=⟨w.heap.size+1,2,none⟩) sQ _⟩
theorem z1i (w:World) (x c:Nat) (ov:Value) (hx:x<=100001) (hc:c<=100001):Calls Tryz.prog 107 #[.int .i64 x,.int .i64 c,ov] w fun e w1=>e= .returned (.int .i64 (min (x+c) 100001:Nat))/\w=w1:=by
 refine dT 11 Tryz.func107 fun fr hf s0 s1 s2=> ?_
 refine Ze fun _ a8=>Zr [] hf ?_
 refine y4 0 1 hf ?_
 clear hf s0 s1 s2;intro a7 hf sS
 refine Zt a8 fun _ a8=> ?_
 have bB:=hf.B4 7 8 9 10
 iterate 2 refine Zy ?_
 refine fp fun K Z=> ?_
 go_simp
 try simp (disch:=omega) only [Fc.W]
 try rw [Fc.wrap_i64 oM oM]
 apply Z.out;clear Z K
 iterate 2 refine Zy ?_
 refine Fc.nil (p5 6 hf ?_)
 intro a7 hf s6
 refine Zx a8 (k8 ?_)
 exact Fc.o6 rfl hf s6 ⟨by congr 2;omega,rfl⟩
theorem sb (w:World) (x c:Int) (ov:Value) (hx: -1<=x/\x<=1000000000) (hc: -1<=c/\c<=1000000000) (hn:c<0):Calls Tryz.prog 109 #[.int .i64 x,.int .i64 c,ov] w fun e w1=>e= .returned (.int .i64 (qZ x c))/\w=w1:=by
 refine dT 14 Tryz.func109 fun fr hf s0 s1 s2=> ?_
 have q1:decide (c<0)=true:=decide_eq_true hn
 clear hn
 refine Ze fun _ a8=>Zr [] hf ?_
 refine y4 0 1 hf ?_
 clear hf s0 s1 s2;intro a7 hf sS
 refine Zs a8 fun _ a8=>Ze fun _ j8=>Zr [7] hf ?_
 refine y7 0 1 8 hf ?_
 intro a7 hf sS
 refine Zx j8 (Fc.l7 sS.2.2 ?_)
 refine Ze fun _ j8=>Zr [9] hf ?_
 refine p5 6 hf ?_
 intro a7 hf s6
 refine Zx j8 (k8 ?_)
 exact Fc.o6 rfl hf s6 ⟨by simp only [qZ];rw [if_pos (of_decide_eq_true q1)],rfl⟩
theorem sa (w:World) (x c:Int) (ov:Value) (hx: -1<=x/\x<=1000000000) (hc: -1<=c/\c<=1000000000) (hn:0<=c):Calls Tryz.prog 109 #[.int .i64 x,.int .i64 c,ov] w fun e w1=>e= .returned (.int .i64 (qZ x c))/\w=w1:=by
 refine dT 14 Tryz.func109 fun fr hf s0 s1 s2=> ?_
 have q1:decide (c<0)=false:=decide_eq_false oM
 skip
 refine Ze fun _ a8=>Zr [] hf ?_
 refine y4 0 1 hf ?_
 clear hf s0 s1 s2;intro a7 hf sS
 refine Zs a8 fun _ a8=>Ze fun _ j8=>Zr [7] hf ?_
 refine y7 0 1 8 hf ?_
 intro a7 hf sS
 refine Zx j8 (Fc.k9 sS.2.2 ?_)
 refine wp_skip (Zt a8 fun _ a8=> ?_)
 have bB:=hf.B4 10 11 12 13
 iterate 2 refine Zy ?_
 refine fp fun K Z=> ?_
 go_simp
 try simp (disch:=omega) only [Fc.W]
 try rw [Fc.wrap_i64 oM oM]
 apply Z.out;clear Z K
 iterate 2 refine Zy ?_
 refine Fc.nil (p5 6 hf ?_)
 intro a7 hf s6
 refine Zx a8 (k8 ?_)
 exact Fc.o6 rfl hf s6 ⟨by simp only [qZ];rw [if_neg (of_decide_eq_false q1)],rfl⟩
theorem z1f (w:World) (n k ov:Nat) (fm fx am ax:Bool) (hk:k<q9) (ho:ov<q9):Calls Tryz.prog 112 #[.agg #[.int .u64 n,.bool fm,.bool am],.agg #[.int .u64 k,.bool fx,.bool ax],.int .u64 ov] w fun e w1=>e= .returned (C0.or ⟨n,fm,am⟩ ⟨(k+ov)%q9,fx&&decide (k+ov<q9),ax⟩).val/\Below w.heap.size w w1:=by
 refine dT 15 Tryz.func112 fun fr hf s0 s1 s2=> ?_
 refine Ze fun _ a8=>Zr [] hf ?_
 refine z8 2 3 4 6 hf ?_
 clear hf s0 s1 s2;intro a7 hf sS
 obtain ⟨W0,p8⟩:∃ x,((w.alloc (.cells #[.int .u64 n,.bool fm,.bool am] 192)).alloc (.cells #[.int .u64 k,.bool fx,.bool ax] 192)).alloc (.cells #[.int .u64 0,.bool false,.bool false] 192)=x:=⟨_,rfl⟩
 obtain ⟨s2,s3,s4,s6⟩:=sS
 try simp only [World.size_alloc] at s3 s4 s6
 try rw [p8]
 obtain ⟨o7,E3,C9,J1⟩:=cG p8
 clear p8
 obtain ⟨cq,hcq⟩:∃ x,w.heap.size+1=x:=⟨_,rfl⟩
 rw [hcq] at C9 s4
 have HCQ:=H9 hcq;clear hcq
 have c0:=n5 0 E3
 have c1:=n5 1 E3
 have c2:=n5 2 E3
 have d0:=n5 0 C9
 have d1:=n5 1 C9
 have d2:=n5 2 C9
 simp at c0 c1 c2 d0 d1 d2
 refine Zt a8 fun _ a8=> ?_
 have bB:=hf.B5 7 8 9 10 11
 iterate 3 refine Zy ?_
 refine Zc (mQ W0 k ov fx hk ho) ?_;rintro e w1 ⟨rfl,p6⟩
 obtain ⟨sm,N6⟩:∃ x,(k+ov)%q9=x:=⟨_,rfl⟩
 obtain ⟨sf,AB⟩:∃ x,(fx&&decide (k+ov<q9))=x:=⟨_,rfl⟩
 rw [N6,AB]
 have SY:=H9 N6;have HSF:=H9 AB;clear N6 AB
 replace C9:=(p6.block _ (j5 C9)).trans C9;replace J1:=(p6.block _ (j5 J1)).trans J1
 replace c0:=cL p6 c0;replace c1:=cL p6 c1;replace c2:=cL p6 c2;replace d0:=cL p6 d0;replace d1:=cL p6 d1;replace d2:=cL p6 d2
 have l6:=o7.trans (p6.mono o7.size)
 have f0:=j6 (i:=0) C9;have f1:=j6 (i:=1) C9
 refine Zv ?_
 iterate 2 refine Zy ?_
 refine Fc.nil (y7 3 4 6 hf ?_)
 clear hf s2 s3 s4 s6 bB;intro a7 hf sS
 generalize Y4:(w1.setCell ⟨cq,0,none⟩ (.int .u64 sm)).setCell ⟨cq,1,none⟩ (.bool sf)=W2
 have eQ:n4 (fun q=>q=cq) w1 W2:=by rw [<- Y4];exact (n4.setCell (S:=fun q=>q=cq) (p:=⟨cq,0,none⟩) rfl _).trans (n4.setCell (S:=fun q=>q=cq) (p:=⟨cq,1,none⟩) rfl _)
 have km:W2.heap[cq]? =some (.cells #[.int .u64 sm,.bool sf,.bool ax] 192 (0,0)):=by rw [<- Y4];exact (k7 (k7 C9 _) _).trans sP
 replace c0:=eQ.cell c0 (by have:=HCQ.out;simp only;omega);replace c1:=eQ.cell c1 (by have:=HCQ.out;simp only;omega);replace c2:=eQ.cell c2 (by have:=HCQ.out;simp only;omega)
 replace J1:=eQ.heap J1 (by have:=HCQ.out;omega)
 replace l6:=l6.trans (eQ.below l6.size (fun q h=>by have h:q=cq:=h;have:=HCQ.out;omega))
 have e0:=n5 0 km;have e1:=n5 1 km;have e2:=n5 2 km
 simp at e0 e1 e2
 clear d0 d1 d2 f0 f1 C9 Y4
 refine Zt a8 fun _ a8=> ?_
 have bB:=hf.B3 12 13 14
 iterate 2 refine Zy ?_
 refine Zc (z6w W2 ⟨n,fm,am⟩ ⟨sm,sf,ax⟩) ?_;rintro e w3 ⟨rfl,G4⟩
 obtain ⟨⟨rn,rf_,ra⟩,hr⟩:∃ x,C0.or ⟨n,fm,am⟩ ⟨sm,sf,ax⟩=x:=⟨_,rfl⟩
 rw [hr]
 have HR:=H9 hr;clear hr
 simp only [C0.val]
 replace J1:=(G4.block _ (j5 J1)).trans J1
 replace l6:=l6.trans (G4.mono l6.size)
 have r0:=n5 0 J1
 have r1:=n5 1 J1
 have r2:=n5 2 J1
 have f0:=j6 (i:=0) J1;have f1:=j6 (i:=1) J1;have f2:=j6 (i:=2) J1
 simp at r0 r1 r2
 refine Zv ?_
 refine Zy ?_
 refine Fc.nil (p5 6 hf ?_)
 intro a7 hf s6
 refine Zx a8 (k8 ?_)
 exact aX rfl hf s6 (k7 (k7 (k7 J1 _) _) _) Tryz.underlying192 rfl kR ⟨by rw [SY.out,HSF.out,HR.out];simp [C0.val],((l6.setCell (p:=⟨w.heap.size+1+1,0,none⟩) sQ _).setCell (p:=⟨w.heap.size+1+1,1,none⟩) sQ _).setCell (p:=⟨w.heap.size+1+1,2,none⟩) sQ _⟩
theorem y3q (w:World) (s:ByteArray) (v:Nat) (hv:v<18446744073709551616) (hc:v=0):E2 w 127 #[.string s,.int .u64 v] (.tuple #[eval (eX s v),.bool (AD v)]):=by
 refine Z6 21 Tryz.func127 fun fr hf s0 s1=> ?_
 have q0:((v:Int)==0)=true:=beq_iff_eq.2 oM
 have pj:=H9 (show eX s v=⟨s,0,true⟩ by unfold eX;rw [if_neg (by omega),if_pos (by omega)]);have HOB:=H9 (show AD v=true by unfold AD;simp;omega)
 refine Ze fun _ a8=>Zr [] hf ?_
 refine y7 0 1 4 hf ?_
 clear hf s0 s1;intro a7 hf sS
 generalize p8:w.alloc (.cells #[.string ⟨#[]⟩,.int .u32 0,.bool false] 64)=W0
 obtain ⟨o7,r0,r1,r2,E3, -⟩:=E7 p8
 clear p8
 have f0:=j6 (i:=0) E3;have f1:=j6 (i:=1) E3;have f2:=j6 (i:=2) E3
 refine Zs a8 fun _ a8=>wp_block (Ze fun _ j8=>Zr [7,8] hf ?_)
 refine z8 0 1 4 6 hf ?_
 intro a7 hf sS
 refine Zx j8 (Fc.l7 sS.2.2.2 ?_)
 refine Ze fun _ j8=>Zr [9,10] hf ?_
 refine y4 4 5 hf ?_
 intro a7 hf sS
 refine Zx j8 (k8 ?_)
 refine U2 rfl hf sS.1 sS.2 (k7 (k7 (k7 E3 _) _) _) Tryz.underlying64 rfl kR ⟨by rw [pj.out,HOB.out];simp [eval],((o7.setCell (p:=⟨w.heap.size,0,none⟩) nR _).setCell (p:=⟨w.heap.size,1,none⟩) nR _).setCell (p:=⟨w.heap.size,2,none⟩) nR _⟩
theorem y3p (w:World) (s:ByteArray) (v:Nat) (hv:v<18446744073709551616) (hc:4294967296<v):E2 w 127 #[.string s,.int .u64 v] (.tuple #[eval (eX s v),.bool (AD v)]):=by
 refine Z6 21 Tryz.func127 fun fr hf s0 s1=> ?_
 have q0:((v:Int)==0)=false:=beq_eq_false_iff_ne.2 oM
 have pj:=H9 (show eX s v=⟨⟨#[]⟩,0,false⟩ by unfold eX;rw [if_pos (by omega)]);have HOB:=H9 (show AD v=false by unfold AD;simp;omega)
 refine Ze fun _ a8=>Zr [] hf ?_
 refine y7 0 1 4 hf ?_
 clear hf s0 s1;intro a7 hf sS
 generalize p8:w.alloc (.cells #[.string ⟨#[]⟩,.int .u32 0,.bool false] 64)=W0
 obtain ⟨o7,r0,r1,r2,E3, -⟩:=E7 p8
 clear p8
 have f0:=j6 (i:=0) E3;have f1:=j6 (i:=1) E3;have f2:=j6 (i:=2) E3
 refine Zs a8 fun _ a8=>wp_block (Ze fun _ j8=>Zr [7,8] hf ?_)
 refine z8 0 1 4 6 hf ?_
 intro a7 hf sS
 refine Zx j8 (Fc.k9 sS.2.2.2 ?_)
 obtain ⟨u,hu⟩:∃ u:Nat,v=u+1:=⟨v-1,oM⟩
 subst hu
 have Eu:IntKind.u64.wrap (((u+1:Nat):Int)-1)=(u:Int):=by rw [Fc.wrap_u64 oM oM];omega
 have q2:decide ((4294967295:Int)<(u:Int))=true:=decide_eq_true oM
 skip
 refine Ze fun _ j8=>rg ?_
 have bB:=hf.B3 12 13 14
 refine Zy ?_
 refine fp fun K Z=> ?_
 go_simp
 try simp (disch:=omega) only [Fc.W]
 try rw [Eu]
 apply Z.out;clear Z K
 iterate 2 refine Zy ?_
 refine Fc.nil (z8 0 1 4 11 hf ?_)
 intro a7 hf sS
 refine Zx j8 (Fc.l7 sS.2.2.2 ?_)
 refine Ze fun _ j8=>Zr [15] hf ?_
 refine y4 4 5 hf ?_
 intro a7 hf sS
 refine Zx j8 (k8 ?_)
 refine U2 rfl hf sS.1 sS.2 (k7 (k7 (k7 E3 _) _) _) Tryz.underlying64 rfl kR ⟨by rw [pj.out,HOB.out];simp [eval],((o7.setCell (p:=⟨w.heap.size,0,none⟩) nR _).setCell (p:=⟨w.heap.size,1,none⟩) nR _).setCell (p:=⟨w.heap.size,2,none⟩) nR _⟩
theorem y3o (w:World) (s:ByteArray) (v:Nat) (hv:v<18446744073709551616) (hc:0<v/\v<=4294967296):E2 w 127 #[.string s,.int .u64 v] (.tuple #[eval (eX s v),.bool (AD v)]):=by
 refine Z6 21 Tryz.func127 fun fr hf s0 s1=> ?_
 have q0:((v:Int)==0)=false:=beq_eq_false_iff_ne.2 oM
 have pj:=H9 (show eX s v=⟨s,((v-1:Nat):Int),false⟩ by unfold eX;rw [if_neg (by omega),if_neg (by omega)]);have HOB:=H9 (show AD v=true by unfold AD;simp;omega)
 refine Ze fun _ a8=>Zr [] hf ?_
 refine y7 0 1 4 hf ?_
 clear hf s0 s1;intro a7 hf sS
 generalize p8:w.alloc (.cells #[.string ⟨#[]⟩,.int .u32 0,.bool false] 64)=W0
 obtain ⟨o7,r0,r1,r2,E3, -⟩:=E7 p8
 clear p8
 have f0:=j6 (i:=0) E3;have f1:=j6 (i:=1) E3;have f2:=j6 (i:=2) E3
 refine Zs a8 fun _ a8=>wp_block (Ze fun _ j8=>Zr [7,8] hf ?_)
 refine z8 0 1 4 6 hf ?_
 intro a7 hf sS
 refine Zx j8 (Fc.k9 sS.2.2.2 ?_)
 obtain ⟨u,hu⟩:∃ u:Nat,v=u+1:=⟨v-1,oM⟩
 subst hu
 have Eu:IntKind.u64.wrap (((u+1:Nat):Int)-1)=(u:Int):=by rw [Fc.wrap_u64 oM oM];omega
 have q2:decide ((4294967295:Int)<(u:Int))=false:=decide_eq_false oM
 simp only [Nat.add_sub_cancel] at pj
 refine Ze fun _ j8=>rg ?_
 have bB:=hf.B3 12 13 14
 refine Zy ?_
 refine fp fun K Z=> ?_
 go_simp
 try simp (disch:=omega) only [Fc.W]
 try rw [Eu]
 apply Z.out;clear Z K
 iterate 2 refine Zy ?_
 refine Fc.nil (z8 0 1 4 11 hf ?_)
 intro a7 hf sS
 refine Zx j8 (Fc.k9 sS.2.2.2 ?_)
 refine wp_skip (Fc.j9 (Zt a8 fun _ a8=> ?_))
 have bB:=hf.B5 16 17 18 19 20
 iterate 2 refine Zy ?_
 refine fp fun K Z=> ?_
 go_simp
 try simp (disch:=omega) only [Fc.W]
 try rw [Eu]
 apply Z.out;clear Z K
 refine fp fun K Z=> ?_
 go_simp
 try rw [show IntKind.u32.wrap (u:Int)=(u:Int) from Fc.wrap_u32 oM oM]
 apply Z.out;clear Z K
 iterate 3 refine Zy ?_
 refine Fc.nil (y4 4 5 hf ?_)
 intro a7 hf sS
 refine Zx a8 (k8 ?_)
 refine U2 rfl hf sS.1 sS.2 (k7 (k7 (k7 E3 _) _) _) Tryz.underlying64 rfl kR ⟨by rw [pj.out,HOB.out];simp [eval],((o7.setCell (p:=⟨w.heap.size,0,none⟩) nR _).setCell (p:=⟨w.heap.size,1,none⟩) nR _).setCell (p:=⟨w.heap.size,2,none⟩) nR _⟩
theorem XG (w:World) (s:ByteArray) (v:Nat) (hv:v<18446744073709551616):E2 w 127 #[.string s,.int .u64 v] (.tuple #[eval (eX s v),.bool (AD v)]):=by
 rcases Nat.eq_zero_or_pos v with h | h
 ·exact y3q w s v hv h
 ·rcases Nat.lt_or_ge 4294967296 v with h2 | h2
  ·exact y3p w s v hv h2
  ·exact y3o w s v hv ⟨h,h2⟩
theorem cH (a b:Nat):(((a:Nat):Int)==((b:Nat):Int))=(a==b):=by
 by_cases h:a=b
 ·subst h;simp
 ·rw [beq_eq_false_iff_ne.2 (by omega:(a:Int)≠(b:Int)),beq_eq_false_iff_ne.2 h]
def G8 (b k:Nat) (a:u3):Bool:=(a.byte==b)&&decide (0<=a.to)&&decide (a.to<(k:Int))
def zS (b k:Nat) (l:List u3):Int:=match l.findIdx? (G8 b k) with
 | some i=>i
 | none=> -1
def stepV:Option u3->Value
 | some a=> .tuple #[.int .i64 a.to,.int .u64 a.out,.bool true]
 | none=> .tuple #[.int .i64 0,.int .u64 0,.bool false]
theorem Fs {b k i:Nat} {l:List u3} {a:u3} (h:l[i]? =some a) (hn:(l.take i).findIdx? (G8 b k)=none) (ha:G8 b k a=false):(l.take (i+1)).findIdx? (G8 b k)=none:=by
 rw [List.take_add_one,h,List.findIdx?_eq_none_iff]
 rw [List.findIdx?_eq_none_iff] at hn
 intro x hx
 rcases List.mem_append.1 hx with hx | hx
 ·exact hn x hx
 ·simp at hx;subst hx;exact ha
theorem Ft {b k i:Nat} {l:List u3} {a:u3} (h:l[i]? =some a) (hn:(l.take i).findIdx? (G8 b k)=none) (ha:G8 b k a=true):l.findIdx? (G8 b k)=some i:=by
 obtain ⟨o9,KN⟩:=H2 h
 rw [List.findIdx?_eq_none_iff] at hn
 rw [List.findIdx?_eq_some_iff_getElem]
 refine ⟨o9,by rw [KN];exact ha,fun j hj=> ?_⟩
 have:=hn l[j] (List.mem_take_iff_getElem.2 ⟨j,oM,rfl⟩)
 simp [this]
theorem RZ {b k:Nat} {l:List u3} {x:Int} (h:zS b k l=x) (hf:l.find? (G8 b k)=none):x= -1:=by
 rw [<- h]
 unfold zS
 have:l.findIdx? (G8 b k)=none:=by
  rw [List.findIdx?_eq_none_iff]
  intro a ha
  have:=List.find?_eq_none.1 hf a ha
  simpa using this
 rw [this]
theorem Ra {b k:Nat} {l:List u3} {x:Int} {a:u3} (h:zS b k l=x) (hf:l.find? (G8 b k)=some a):∃ j:Nat,l[j]? =some a/\x=(j:Int):=by
 rw [List.find?_eq_some_iff_getElem] at hf
 obtain ⟨ha,i,hi,X9,Kv⟩:=hf
 refine ⟨i,by rw [F8 hi,X9],?_⟩
 rw [<- h]
 unfold zS
 have:l.findIdx? (G8 b k)=some i:=by
  rw [List.findIdx?_eq_some_iff_getElem]
  refine ⟨hi,by rw [X9];exact ha,fun j hj=> ?_⟩
  have:=Kv j hj
  simpa using this
 rw [this]
theorem z6t (w:World) (p q:Nat) (a:u3) (b k:Nat) (hp:w.cell? ⟨p,0,none⟩=some (.int .u8 b)) (hq:w.cell? ⟨q,0,none⟩=some (.int .i64 k)) (h1:(a.byte==b)=false):E2 w 162 #[.agg #[.int .u8 a.byte,.int .u64 a.out,.int .i64 a.to],.pointer (some ⟨p,0,none⟩),.pointer (some ⟨q,0,none⟩)] (.bool false):=by
 refine dT 20 Tryz.func162 fun fr hf s0 s1 s2=> ?_
 have q1:(((a.byte:Nat):Int)==((b:Nat):Int))=false:=(cH _ _).trans h1
 clear h1
 refine Ze fun _ a8=>Zr [] hf ?_
 refine y7 1 2 3 hf ?_
 clear hf s0 s1 s2;intro a7 hf sS
 generalize p8:w.alloc (.cells #[.int .u8 a.byte,.int .u64 a.out,.int .i64 a.to] 71)=W0
 obtain ⟨o7,c0,c1,c2, -, -⟩:=E7 p8
 clear p8
 have d0:=cL o7 hp;have d1:=cL o7 hq
 refine Zs a8 fun _ a8=> ?_
 have qs:=q1
 refine Zr [5,6,7,8,9,10,11,12,13,14,15,16,17,18,19] hf ?_
 refine p5 4 hf ?_
 clear hf sS qs;intro a7 hf s4
 refine Zx a8 (k8 ?_)
 exact Fc.o6 rfl hf s4 ⟨rfl,o7⟩
theorem z6s (w:World) (p q:Nat) (a:u3) (b k:Nat) (hp:w.cell? ⟨p,0,none⟩=some (.int .u8 b)) (hq:w.cell? ⟨q,0,none⟩=some (.int .i64 k)) (h1:(a.byte==b)=true) (h2:decide (0<=a.to)=false):E2 w 162 #[.agg #[.int .u8 a.byte,.int .u64 a.out,.int .i64 a.to],.pointer (some ⟨p,0,none⟩),.pointer (some ⟨q,0,none⟩)] (.bool false):=by
 refine dT 20 Tryz.func162 fun fr hf s0 s1 s2=> ?_
 have q1:(((a.byte:Nat):Int)==((b:Nat):Int))=true:=(cH _ _).trans h1
 clear h1
 refine Ze fun _ a8=>Zr [] hf ?_
 refine y7 1 2 3 hf ?_
 clear hf s0 s1 s2;intro a7 hf sS
 generalize p8:w.alloc (.cells #[.int .u8 a.byte,.int .u64 a.out,.int .i64 a.to] 71)=W0
 obtain ⟨o7,c0,c1,c2, -, -⟩:=E7 p8
 clear p8
 have d0:=cL o7 hp;have d1:=cL o7 hq
 refine Zs a8 fun _ a8=> ?_
 have qs:=And.intro q1 h2
 refine Zr [5,6,7,8,9,10,11,12,13,14,15,16,17,18,19] hf ?_
 refine p5 4 hf ?_
 clear hf sS qs;intro a7 hf s4
 refine Zx a8 (k8 ?_)
 exact Fc.o6 rfl hf s4 ⟨rfl,o7⟩
theorem z6r (w:World) (p q:Nat) (a:u3) (b k:Nat) (hp:w.cell? ⟨p,0,none⟩=some (.int .u8 b)) (hq:w.cell? ⟨q,0,none⟩=some (.int .i64 k)) (h1:(a.byte==b)=true) (h2:decide (0<=a.to)=true) (h3:decide (a.to<(k:Int))=false):E2 w 162 #[.agg #[.int .u8 a.byte,.int .u64 a.out,.int .i64 a.to],.pointer (some ⟨p,0,none⟩),.pointer (some ⟨q,0,none⟩)] (.bool false):=by
 refine dT 20 Tryz.func162 fun fr hf s0 s1 s2=> ?_
 have q1:(((a.byte:Nat):Int)==((b:Nat):Int))=true:=(cH _ _).trans h1
 clear h1
 refine Ze fun _ a8=>Zr [] hf ?_
 refine y7 1 2 3 hf ?_
 clear hf s0 s1 s2;intro a7 hf sS
 generalize p8:w.alloc (.cells #[.int .u8 a.byte,.int .u64 a.out,.int .i64 a.to] 71)=W0
 obtain ⟨o7,c0,c1,c2, -, -⟩:=E7 p8
 clear p8
 have d0:=cL o7 hp;have d1:=cL o7 hq
 refine Zs a8 fun _ a8=> ?_
 have qs:=And.intro q1 (And.intro h2 h3)
 refine Zr [5,6,7,8,9,10,11,12,13,14,15,16,17,18,19] hf ?_
 refine p5 4 hf ?_
 clear hf sS qs;intro a7 hf s4
 refine Zx a8 (k8 ?_)
 exact Fc.o6 rfl hf s4 ⟨rfl,o7⟩
theorem z6q (w:World) (p q:Nat) (a:u3) (b k:Nat) (hp:w.cell? ⟨p,0,none⟩=some (.int .u8 b)) (hq:w.cell? ⟨q,0,none⟩=some (.int .i64 k)) (h1:(a.byte==b)=true) (h2:decide (0<=a.to)=true) (h3:decide (a.to<(k:Int))=true):E2 w 162 #[.agg #[.int .u8 a.byte,.int .u64 a.out,.int .i64 a.to],.pointer (some ⟨p,0,none⟩),.pointer (some ⟨q,0,none⟩)] (.bool true):=by
 refine dT 20 Tryz.func162 fun fr hf s0 s1 s2=> ?_
 have q1:(((a.byte:Nat):Int)==((b:Nat):Int))=true:=(cH _ _).trans h1
 clear h1
 refine Ze fun _ a8=>Zr [] hf ?_
 refine y7 1 2 3 hf ?_
 clear hf s0 s1 s2;intro a7 hf sS
 generalize p8:w.alloc (.cells #[.int .u8 a.byte,.int .u64 a.out,.int .i64 a.to] 71)=W0
 obtain ⟨o7,c0,c1,c2, -, -⟩:=E7 p8
 clear p8
 have d0:=cL o7 hp;have d1:=cL o7 hq
 refine Zs a8 fun _ a8=> ?_
 have qs:=And.intro q1 (And.intro h2 h3)
 refine Zr [5,6,7,8,9,10,11,12,13,14,15,16,17,18,19] hf ?_
 refine p5 4 hf ?_
 clear hf sS qs;intro a7 hf s4
 refine Zx a8 (k8 ?_)
 exact Fc.o6 rfl hf s4 ⟨rfl,o7⟩
theorem kj (w:World) (p q:Nat) (a:u3) (b k:Nat) (hp:w.cell? ⟨p,0,none⟩=some (.int .u8 b)) (hq:w.cell? ⟨q,0,none⟩=some (.int .i64 k)):E2 w 162 #[.agg #[.int .u8 a.byte,.int .u64 a.out,.int .i64 a.to],.pointer (some ⟨p,0,none⟩),.pointer (some ⟨q,0,none⟩)] (.bool (G8 b k a)):=by
 unfold G8
 cases h1:(a.byte==b) with
 | false=>exact z6t w p q a b k hp hq h1
 | true=>cases h2:decide (0<=a.to) with
  | false=>exact z6s w p q a b k hp hq h1 h2
  | true=>cases h3:decide (a.to<(k:Int)) with
   | false=>exact z6r w p q a b k hp hq h1 h2 h3
   | true=>exact z6q w p q a b k hp hq h1 h2 h3
theorem Rc (w:World) (l:List u3) (v:Value) (S7:RA w (fun _=>True) v l) (hlen:l.length<4611686018427387904) (p q b k:Nat) (hp:w.cell? ⟨p,0,none⟩=some (.int .u8 b)) (hq:w.cell? ⟨q,0,none⟩=some (.int .i64 k)):E2 w 161 #[v,.func (.func 162) #[] #[.pointer (some ⟨p,0,none⟩),.pointer (some ⟨q,0,none⟩)]] (.int .i64 (zS b k l)):=by
 refine Z6 19 Tryz.func161 fun fr hf s0 s1=> ?_
 obtain ⟨A,cc,rfl,U0⟩:=S7.form
 refine Ze fun _ a8=>Zr [] hf ?_
 refine y4 0 1 hf ?_
 clear hf s0 s1;intro a7 hf sS
 refine Zs a8 fun _ a8=>Ze fun _ j8=>Zr [6] hf ?_
 refine z8 0 1 7 8 hf ?_
 intro a7 hf sS
 refine Zx j8 (wp_block (wp_loop_ghost (fun gk fr wr=>∃ (i:Nat),gk=l.length-i/\i<=l.length/\Fc.Fr 19 fr/\fr.tmps[0]? =some (.slice A l.length cc)/\fr.tmps[1]? =some (.func (.func 162) #[] #[.pointer (some ⟨p,0,none⟩),.pointer (some ⟨q,0,none⟩)])/\fr.tmps[7]? =some (.int .i64 l.length)/\fr.tmps[8]? =some (.int .i64 i)/\(l.take i).findIdx? (G8 b k)=none/\Below w.heap.size w wr) (l.length) ?_ ?_))
 . (
 obtain ⟨s0,s1,s7,s8⟩:=sS
 exact ⟨0,rfl,Nat.zero_le _,hf,s0,s1,s7,s8,rfl,Below.refl _ _⟩)
 . (
 clear hf sS
 rintro gk fr wr ⟨i,hk,hi,hf,s0,s1,s7,s8,Kv,hb⟩
 have HK:=H9 hk;have WB:=H9 Kv;clear hk Kv
 refine Ze fun _ j8=>Zr [] hf ?_
 refine D2 0 1 7 8 9 hf ?_
 clear hf s0 s1 s7 s8;intro a7 hf sS
 refine Zs j8 fun _ j8=>Fc.l0 sS.2.2.2.2 (fun C5=> ?_) (fun C5=> ?_)
 . (
 have o9:i<l.length:=by have h9:=of_decide_eq_true C5;omega
 clear C5
 obtain ⟨a,X9⟩:∃ a,l[i]? =some a:=⟨_,F8 o9⟩
 obtain ⟨b3,uD,rfl,X3,y0,y1,y2⟩:=(S7.later hb).at' X9
 have C9:=cL hb hp;have kZ:=cL hb hq
 have yZ:=H9 X9;clear X9
 refine wp_skip (Zs j8 fun _ j8=>wp_block (Ze fun _ l8=>Zr [10] hf ?_))
 refine D2 0 1 5 7 8 hf ?_
 intro a7 hf sS
 refine Zt l8 fun _ l8=> ?_
 have bB:=hf.B5 11 12 13 14 15
 iterate 5 refine Zy ?_
 refine Zc (kj wr p q a b k C9 kZ) ?_;rintro e w2 ⟨rfl,r8⟩
 refine Zv ?_
 refine Fc.nil (F1 0 1 5 7 8 16 hf ?_)
 intro a7 hf sS
 refine Zx l8 (Fc.l0 sS.2.2.2.2.2 (fun R0=> ?_) (fun R0=> ?_))
 . (
 have HH:=H9 R0;clear R0
 refine Ze fun _ l8=>Zr [17] hf ?_
 refine p5 4 hf ?_
 intro a7 hf s4
 refine Zx l8 (k8 ?_)
 exact Fc.o6 rfl hf s4 ⟨by unfold zS;rw [Ft yZ.out WB.out HH.out],hb.trans (r8.mono hb.size)⟩)
 . (
 have HH:=H9 R0;clear R0
 refine wp_skip (Fc.j9 (Zx j8 (Zr [18] hf ?_)))
 refine z8 0 1 7 8 hf ?_
 intro a7 hf sS
 refine Fc.j7 ?_
 obtain ⟨s0,s1,s7,s8⟩:=sS
 exact ⟨_,by have:=HK.out;omega,i+1,rfl,oM,hf,s0,s1,s7,by rw [s8];rfl,Fs yZ.out WB.out HH.out,hb.trans (r8.mono hb.size)⟩))
 . (
 have C3:i=l.length:=by have h9:=of_decide_eq_false C5;omega
 clear C5
 refine Zo ?_
 refine Zs a8 fun _ a8=>Zr [] hf ?_
 refine p5 4 hf ?_
 intro a7 hf s4
 refine Zx a8 (k8 ?_)
 exact Fc.o6 rfl hf s4 ⟨by have h:=WB.out;rw [C3,List.take_length] at h;unfold zS;rw [h],hb⟩))
theorem kh (w:World) (sv:Value) (init:Nat) (ss:List State) (o8:RS w sv ss) (k b:Nat) (st:State) (hk:ss[k]? =some st) (jQ:ss.length<=1000000000) (hlen:st.j4.length<4611686018427387904) (gJ:st.j4.find? (G8 b k)=none):E2 w 150 #[.agg #[sv,.int .u64 init],.int .i64 k,.int .u8 b] (.tuple #[.int .i64 0,.int .u64 0,.bool false]):=by
 refine dT 43 Tryz.func150 fun fr hf s0 s1 s2=> ?_
 obtain ⟨A,cc,rfl,U0⟩:=o8.form
 have o9:=(H2 hk).1
 have q1:decide ((k:Int)<0)=false:=decide_eq_false oM
 have q2:decide (ss.length<=k)=false:=decide_eq_false oM
 refine Ze fun _ a8=>Zr [] hf ?_
 refine y7 3 4 5 hf ?_
 clear hf s0 s1 s2;intro a7 hf sS
 obtain ⟨W0,p8⟩:∃ x,((w.alloc (.cells #[.slice A ss.length cc,.int .u64 init] 38)).alloc (.cells #[.int .i64 k] 3)).alloc (.cells #[.int .u8 b] 5)=x:=⟨_,rfl⟩
 obtain ⟨s3,s4,s5⟩:=sS
 try simp only [World.size_alloc] at s3 s4 s5
 try rw [p8]
 obtain ⟨o7,E3,C9,J1⟩:=cG p8
 clear p8
 have c0:=n5 0 E3;have c1:=n5 1 E3;have k0:=n5 0 C9;have b0:=n5 0 J1
 simp at c0 c1 k0 b0
 have R9:=o8.later o7
 clear o8 E3 C9 J1
 obtain ⟨bb,off,av,hA,C7⟩:=R9.at_ hk
 subst hA
 have d0:=C7.c0
 have S7:=C7.j4
 obtain ⟨A2,c2,Z3,uG⟩:=S7.form
 subst Z3
 clear C7
 refine Zs a8 fun _ a8=>Ze fun _ j8=> ?_
 have qs:=And.intro q1 q2
 refine Zr [11,12,13,14,15,16,17,18] hf ?_
 refine z8 3 4 5 19 hf ?_
 clear hf s3 s4 s5 qs;intro a7 hf sS
 refine Zx j8 (Fc.k9 sS.2.2.2 ?_)
 clear q1 q2
 refine wp_skip (Zt a8 fun _ a8=> ?_)
 obtain ⟨b20,b21,b22,b23,b24,Yf,Sv,Yg⟩:=hf.B8 20 21 22 23 24 25 26 27
 iterate 7 refine Zy ?_
 refine fp fun K Z=> ?_
 go_simp
 go_at_call 161;refine (Rc W0 st.j4 _ S7 hlen _ _ b k b0 k0).mono ?_;rintro e w1 ⟨rfl,p6⟩
 generalize BM:zS b k st.j4=ix
 have XK:=H9 BM;clear BM
 replace c0:=cL p6 c0;replace c1:=cL p6 c1;replace k0:=cL p6 k0;replace d0:=cL p6 d0;replace S7:=S7.later p6
 replace o7:=o7.trans (p6.mono o7.size)
 clear b0
 try dsimp only
 apply Z.out;clear Z K
 refine Zy ?_
 refine Fc.nil (y7 3 4 9 hf ?_)
 clear hf sS b20 b21 b22 b23 b24 Yf Sv Yg;intro a7 hf sS
 refine Zx a8 ?_
 have hx:=RZ XK.out gJ
 subst hx
 refine Ze fun _ a8=>Ze fun _ j8=>Zr [28] hf ?_
 refine z8 3 4 9 29 hf ?_
 intro a7 hf sS
 refine Zx j8 (Fc.l7 sS.2.2.2 ?_)
 refine Ze fun _ j8=>Zr [] hf ?_
 refine y7 6 7 8 hf ?_
 intro a7 hf sS
 refine Zx j8 (k8 ?_)
 obtain ⟨s6,s7,s8⟩:=sS
 exact Fc.fE rfl hf s6 s7 s8 ⟨rfl,o7⟩
theorem kg (w:World) (sv:Value) (init:Nat) (ss:List State) (o8:RS w sv ss) (k b:Nat) (st:State) (hk:ss[k]? =some st) (jQ:ss.length<=1000000000) (hlen:st.j4.length<4611686018427387904) (a:u3) (gJ:st.j4.find? (G8 b k)=some a):E2 w 150 #[.agg #[sv,.int .u64 init],.int .i64 k,.int .u8 b] (.tuple #[.int .i64 a.to,.int .u64 a.out,.bool true]):=by
 refine dT 43 Tryz.func150 fun fr hf s0 s1 s2=> ?_
 obtain ⟨A,cc,rfl,U0⟩:=o8.form
 have o9:=(H2 hk).1
 have q1:decide ((k:Int)<0)=false:=decide_eq_false oM
 have q2:decide (ss.length<=k)=false:=decide_eq_false oM
 refine Ze fun _ a8=>Zr [] hf ?_
 refine y7 3 4 5 hf ?_
 clear hf s0 s1 s2;intro a7 hf sS
 obtain ⟨W0,p8⟩:∃ x,((w.alloc (.cells #[.slice A ss.length cc,.int .u64 init] 38)).alloc (.cells #[.int .i64 k] 3)).alloc (.cells #[.int .u8 b] 5)=x:=⟨_,rfl⟩
 obtain ⟨s3,s4,s5⟩:=sS
 try simp only [World.size_alloc] at s3 s4 s5
 try rw [p8]
 obtain ⟨o7,E3,C9,J1⟩:=cG p8
 clear p8
 have c0:=n5 0 E3;have c1:=n5 1 E3;have k0:=n5 0 C9;have b0:=n5 0 J1
 simp at c0 c1 k0 b0
 have R9:=o8.later o7
 clear o8 E3 C9 J1
 obtain ⟨bb,off,av,hA,C7⟩:=R9.at_ hk
 subst hA
 have d0:=C7.c0
 have S7:=C7.j4
 obtain ⟨A2,c2,Z3,uG⟩:=S7.form
 subst Z3
 clear C7
 refine Zs a8 fun _ a8=>Ze fun _ j8=> ?_
 have qs:=And.intro q1 q2
 refine Zr [11,12,13,14,15,16,17,18] hf ?_
 refine z8 3 4 5 19 hf ?_
 clear hf s3 s4 s5 qs;intro a7 hf sS
 refine Zx j8 (Fc.k9 sS.2.2.2 ?_)
 clear q1 q2
 refine wp_skip (Zt a8 fun _ a8=> ?_)
 obtain ⟨b20,b21,b22,b23,b24,Yf,Sv,Yg⟩:=hf.B8 20 21 22 23 24 25 26 27
 iterate 7 refine Zy ?_
 refine fp fun K Z=> ?_
 go_simp
 go_at_call 161;refine (Rc W0 st.j4 _ S7 hlen _ _ b k b0 k0).mono ?_;rintro e w1 ⟨rfl,p6⟩
 generalize BM:zS b k st.j4=ix
 have XK:=H9 BM;clear BM
 replace c0:=cL p6 c0;replace c1:=cL p6 c1;replace k0:=cL p6 k0;replace d0:=cL p6 d0;replace S7:=S7.later p6
 replace o7:=o7.trans (p6.mono o7.size)
 clear b0
 try dsimp only
 apply Z.out;clear Z K
 refine Zy ?_
 refine Fc.nil (y7 3 4 9 hf ?_)
 clear hf sS b20 b21 b22 b23 b24 Yf Sv Yg;intro a7 hf sS
 refine Zx a8 ?_
 obtain ⟨j,hj,DE⟩:=Ra XK.out gJ
 subst DE
 obtain ⟨b3,uD,hA3,X3,y0,y1,y2⟩:=S7.at' hj
 subst hA3
 have zW:=(H2 hj).1
 clear hj
 have q3:decide ((j:Int)<0)=false:=decide_eq_false oM
 refine Ze fun _ a8=>Ze fun _ j8=>Zr [28] hf ?_
 refine z8 3 4 9 29 hf ?_
 intro a7 hf sS
 refine Zx j8 (Fc.k9 sS.2.2.2 ?_)
 clear q3
 refine wp_skip (Zs a8 fun _ a8=>Zr [30,31,32,33,34,35,36,37,38,10] hf ?_)
 refine p5 10 hf ?_
 intro a7 hf u4
 generalize lT:w1.alloc (.cells #[.int .u8 a.byte,.int .u64 a.out,.int .i64 a.to] 71)=W3
 obtain ⟨G4,z0,z1,z2, -, -⟩:=E7 lT
 clear lT
 refine Zs a8 fun _ a8=>Sb.tb 43 fun a6=> ?_
 refine Sb.T 0 hf a6 ?_ (hF:=fun _ _ h d=>Sb.O h u4)
 refine Sb.T 1 hf a6 ?_ (hF:=fun _ _ h d=>ad (cL h.ext z1) (cL h.ext z2))
 refine Sb.T 2 hf a6 ?_ (hF:=fun _ _ h d=>Sb.O h u4)
 refine Sb.T 3 hf a6 ?_ (hF:=fun _ _ h d=>ad (cL h.ext z1) (cL h.ext z2))
 refine Sb.mN 4 1 2 hf a6 [] ?_
 refine Sb.mN 5 3 1 hf a6 [] ?_
 refine Sb.T 6 hf a6 ?_
 refine Sb.E hf a6 (fun _ _ h g=>ad (Sb.f 4 2 g) (ad (Sb.f 5 1 g) (Sb.f 6 0 g))) ?_
 clear hf a6 u4;intro a7 w1 hf hx sS
 replace z1:=cL hx z1
 replace z2:=cL hx z2
 refine Zx a8 (k8 ?_)
 obtain ⟨s6,s7,s8⟩:=sS
 exact Fc.fE rfl hf s6 s7 s8 ⟨rfl,o7.trans ((G4.trans (hx.mono G4.size)).mono o7.size)⟩
theorem yE (w:World) (sv:Value) (init:Nat) (ss:List State) (o8:RS w sv ss) (k b:Nat) (st:State) (hk:ss[k]? =some st) (jQ:ss.length<=1000000000) (hlen:st.j4.length<4611686018427387904):E2 w 150 #[.agg #[sv,.int .u64 init],.int .i64 k,.int .u8 b] (stepV (st.j4.find? (G8 b k))):=by
 cases h:st.j4.find? (G8 b k) with
 | none=>exact kh w sv init ss o8 k b st hk jQ hlen h
 | some a=>exact kg w sv init ss o8 k b st hk jQ hlen a h
def RB (w:World) (g:Nat) (l:List Nat):Prop:=∀ (i x:Nat),l[i]? =some x->w.cell? ⟨g,i,none⟩=some (.int .u8 x)
theorem RB.later {w w':World} {g:Nat} {l:List Nat} (h:RB w g l) (hb:Below w.heap.size w w'):RB w' g l:=fun i x hx=>cL hb (h i x hx)
def aM (l:List Nat):Prop:=∀ (i j x y:Nat),i<j->l[i]? =some x->l[j]? =some y->x<y
theorem y3m (w:World) (x:Nat):Calls Tryz.prog 193 #[.int .u8 x] w fun e w1=>e= .returned (.bool false)/\w=w1:=by
 refine L7 6 Tryz.func193 fun fr hf s0=> ?_
 refine Ze fun _ a8=>Zr [] hf ?_
 refine p5 0 hf ?_
 clear hf s0;intro a7 hf s0
 refine Zs a8 fun _ a8=>Zr [3,4,5] hf ?_
 refine p5 2 hf ?_
 clear hf s0;intro a7 hf s2
 refine Zx a8 (k8 ?_)
 exact Fc.o6 rfl hf s2 ⟨rfl,rfl⟩
theorem Rd (w:World) (x y:Nat):Calls Tryz.prog 184 #[.int .u8 x,.int .u8 y] w fun e w1=>e= .returned (.bool (decide (x<y)))/\w=w1:=by
 refine Z6 17 Tryz.func184 fun fr hf s0 s1=> ?_
 refine Ze fun _ a8=>Zr [] hf ?_
 refine y4 0 1 hf ?_
 clear hf s0 s1;intro a7 hf sS
 refine Zt a8 fun _ a8=> ?_
 have bB:=And.intro (hf.eW 5 6 7 8 9 10 11 12 13 14) (hf.B2 15 16)
 refine Zy ?_
 refine Zc (y3m w x) ?_;rintro e w1 ⟨rfl,rfl⟩
 refine Zv ?_
 iterate 11 refine Zy ?_
 refine Fc.nil (p5 4 hf ?_)
 intro a7 hf s4
 refine Zx a8 (k8 ?_)
 exact Fc.o6 rfl hf s4 ⟨rfl,rfl⟩
theorem ke (w:World) (g n c:Nat) (l:List Nat) (hl:l.length=n) (hn:n<=1000000) (hr:RB w g l) (hs:Hid (aM l)) (a b:Nat) (SP:a<b) (hbn:b<n) (sp:Value):E2 w 194 #[.slice (some ⟨g,0,none⟩) n c,.int .i64 a,.int .i64 b,sp] (.tuple #[.int .i64 a,.int .i64 b]):=by
 refine Zn4 28 Tryz.func194 fun fr hf s0 s1 s2 s3=> ?_
 obtain ⟨xi,dK⟩:∃ x,l[a]? =some x:=⟨_,F8 oM⟩
 obtain ⟨xj,DE⟩:∃ x,l[b]? =some x:=⟨_,F8 oM⟩
 have ci:=hr _ _ dK;have cj:=hr _ _ DE
 have gB:=hs.out _ _ _ _ oM dK DE
 clear dK DE
 have kd:=H9 gB;clear gB
 refine Ze fun _ a8=>Zr [] hf ?_
 refine z8 0 1 2 3 hf ?_
 clear hf s0 s1 s2 s3;intro a7 hf sS
 refine Zs a8 fun _ a8=>Ze fun _ j8=> ?_
 obtain ⟨s0,s1,s2,s3⟩:=sS
 refine Sb.tb 28 fun a6=> ?_
 refine Sb.mO 0 s0 hf a6 ?_
 refine Sb.mO 1 s2 hf a6 ?_
 apply Sb.tq 2 _ hf a6
 . (
 intro a7 w1 hh hd hk K Z
 have u4:=Sb.v 0 1 hd hk []
 have D9:=Sb.v 1 0 hd hk []
 clear hd
 go_simp
 try rw [if_pos (by omega)]
 exact Sb.k Z)
 refine Sb.T 3 hf a6 ?_ (hF:=fun _ _ h d=>ad (cL h.ext ci) (cL h.ext cj))
 refine Sb.mO 4 s0 hf a6 ?_
 refine Sb.mO 5 s1 hf a6 ?_
 apply Sb.tq 6 _ hf a6
 . (
 intro a7 w1 hh hd hk K Z
 have S4:=Sb.v 4 1 hd hk []
 have aQ:=Sb.v 5 0 hd hk []
 clear hd
 go_simp
 try rw [if_pos (by omega)]
 exact Sb.k Z)
 refine Sb.T 7 hf a6 ?_ (hF:=fun _ _ h d=>ad (cL h.ext ci) (cL h.ext cj))
 apply Sb.tq 8 _ hf a6
 . (
 intro a7 w1 hh hd hk K Z
 have D1:=Sb.v 3 4 hd hk []
 have G7:=Sb.v 7 0 hd hk []
 clear hd
 replace ci:=cL hh.ext ci
 replace cj:=cL hh.ext cj
 go_simp
 go_at_call 184;refine (Rd w1 xj xi).mono ?_;rintro e w2 ⟨rfl,rfl⟩
 rw [decide_eq_false (show ¬ xj<xi by have:=kd.out;omega)]
 exact Sb.k Z)
 refine Sb.E hf a6 (fun _ _ h g=>ad (Sb.O h s1) (ad (Sb.O h s2) (ad (Sb.O h s3) (Sb.f 8 0 g)))) ?_
 clear hf a6 s0 s1 s2 s3;intro a7 w1 hf hx sS
 replace ci:=cL hx ci
 replace cj:=cL hx cj
 refine Zx j8 (Fc.k9 sS.2.2.2 ?_)
 refine wp_skip (Zs a8 fun _ a8=>Zr [26,27] hf ?_)
 refine y4 8 9 hf ?_
 intro a7 hf sS
 refine Zx a8 (k8 ?_)
 exact Fc.H6 rfl hf sS.1 sS.2 ⟨rfl,hx⟩
theorem ka (w:World) (g n c:Nat) (l:List Nat) (hl:l.length=n) (hn:n<=1000000) (hr:RB w g l) (hs:Hid (aM l)) (i j k:Nat) (gB:i<j) (hjk:j<k) (hk:k<n) (sp:Value):E2 w 192 #[.slice (some ⟨g,0,none⟩) n c,.int .i64 i,.int .i64 j,.int .i64 k,sp] (.int .i64 j):=by
 refine Zn5 36 Tryz.func192 fun fr hf s0 s1 s2 s3 s4=> ?_
 refine Ze fun _ a8=>Zr [] hf ?_
 refine D2 0 1 2 3 4 hf ?_
 clear hf s0 s1 s2 s3 s4;intro a7 hf sS
 refine Zt a8 fun _ a8=> ?_
 have bB:=hf.B8 12 13 14 15 16 11 17 18
 iterate 4 refine Zy ?_
 refine Zc (ke w g n c l hl hn hr hs i j gB oM sp) ?_;rintro e w1 ⟨rfl,p6⟩
 have zX:=hr.later p6
 refine Zv ?_
 iterate 5 refine Zy ?_
 refine Fc.nil (D2 0 1 2 3 4 hf ?_)
 intro a7 hf sS
 refine Zt a8 fun _ a8=> ?_
 have bB:=hf.B8 20 21 22 23 24 19 25 26
 iterate 4 refine Zy ?_
 refine Zc (ke w1 g n c l hl hn zX hs j k hjk hk sp) ?_;rintro e w2 ⟨rfl,r8⟩
 have R1:=zX.later r8
 have eR:=p6.trans (r8.mono p6.size)
 refine Zv ?_
 iterate 5 refine Zy ?_
 refine Fc.nil (z8 0 1 2 4 hf ?_)
 intro a7 hf sS
 refine Zt a8 fun _ a8=> ?_
 have bB:=hf.B8 28 29 30 31 32 27 33 34
 iterate 4 refine Zy ?_
 refine Zc (ke w2 g n c l hl hn R1 hs i j gB oM sp) ?_;rintro e w3 ⟨rfl,G4⟩
 have bX:=eR.trans (G4.mono eR.size)
 refine Zv ?_
 iterate 5 refine Zy ?_
 refine Fc.nil (p5 2 hf ?_)
 intro a7 hf s2
 refine Zs a8 fun _ a8=>Zr [35] hf ?_
 refine p5 10 hf ?_
 clear hf s2;intro a7 hf u4
 refine Zx a8 (k8 ?_)
 exact Fc.o6 rfl hf u4 ⟨rfl,bX⟩
theorem Fu (w:World) (g n c:Nat) (l:List Nat) (hl:l.length=n) (hn:n<=1000000) (hr:RB w g l) (hs:Hid (aM l)) (i:Nat) (hi:i+2<n) (sp:Value):E2 w 191 #[.slice (some ⟨g,0,none⟩) n c,.int .i64 (i+1:Nat),sp] (.int .i64 (i+1:Nat)):=by
 refine dT 15 Tryz.func191 fun fr hf s0 s1 s2=> ?_
 obtain ⟨j,hj⟩:∃ j,i+1=j:=⟨_,rfl⟩
 rw [hj] at s1 |-
 have e1:IntKind.i64.wrap ((j:Int)-1)=(i:Int):=by rw [Fc.wrap_i64 oM oM];omega
 have e2:IntKind.i64.wrap ((j:Int)+1)=((i+2:Nat):Int):=by rw [Fc.wrap_i64 oM oM];omega
 have HJ:=H9 hj;clear hj
 refine Ze fun _ a8=>Zr [] hf ?_
 refine y7 0 1 2 hf ?_
 clear hf s0 s1 s2;intro a7 hf sS
 refine Zt a8 fun _ a8=> ?_
 have bB:=hf.B8 7 8 9 10 11 12 13 14
 iterate 2 refine Zy ?_
 refine fp fun K Z=> ?_
 go_simp
 try simp (disch:=omega) only [Fc.W]
 try rw [e1]
 apply Z.out;clear Z K
 iterate 2 refine Zy ?_
 refine fp fun K Z=> ?_
 go_simp
 try simp (disch:=omega) only [Fc.W]
 try rw [e2]
 apply Z.out;clear Z K
 refine Zy ?_
 refine Zc (ka w g n c l hl hn hr hs i j (i+2) (by have:=HJ.out;omega) (by have:=HJ.out;omega) hi sp) ?_;rintro e w1 ⟨rfl,p6⟩
 refine Zv ?_
 refine Zy ?_
 refine Fc.nil (p5 6 hf ?_)
 intro a7 hf s6
 refine Zx a8 (k8 ?_)
 exact Fc.o6 rfl hf s6 ⟨rfl,p6⟩
end Dw
end Go.Proofs.YtcddnmhmcieebaaGreatDoor
