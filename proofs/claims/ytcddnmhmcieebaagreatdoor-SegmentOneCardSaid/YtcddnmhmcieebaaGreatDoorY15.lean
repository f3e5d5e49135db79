/- pack: reading.all. -/
import Derived.Test.YtcddnmhmcieebaaGreatDoorY14
import Derived.Test.YtcddnmhmcieebaaGreatDoorTools
import Derived.Recover
import Derived.Tactics
import Derived.Tactics2
import Derived.RegionTactic
namespace Go.Proofs.YtcddnmhmcieebaaGreatDoor
set_option maxHeartbeats 4000000
set_option maxRecDepth 100000
open Go.RowKit
set_option linter.unusedSimpArgs false
set_option linter.unusedVariables false
set_option linter.unnecessarySimpa false
namespace Dw
def u3h (w w1:World) (e:Ending) (g:Nat):Except uD (Nat×Nat×List State)->Prop
 | .error b=>dW w w1 e g b
 | .ok (en,init,ss)=>∃ sv,e= .returned (.tuple #[.int .i64 en,.agg #[sv,.int .u64 init]])/\(∀ w',n4 (fun k=>k<w.heap.size) w1 w'->RS w' sv ss)/\n4 (fun k=>k=g) w w1
theorem w4q {P:Program} {fn:Func} {R:Ending->World->Prop} {n p u g:Nat} {ty t:TypeId} {a:Act} {w:World} {x:Value} {cs:Array Value} {fr:Nat×Nat} {d:TypeDesc} (h:fn.results= #[.tmp u,.cell p ty]) (hf:Fc.Fr n a)
  (su:a.tmps[u]? =some x) (sp:a.tmps[p]? =some (.pointer (some ⟨g,0,none⟩))) (hg:w.heap[g]? =some (.cells cs t fr)) (hu:P.underlying ty=some d) (hd:(match d with | .struct _ | .array _ _=>true | _=>false)=true)
  (hi:(P.info? ty).map (·.size)=some cs.size) (hR:R (.returned (.tuple #[x,.agg cs])) w):bodyPost P fn R .ret a w:=by
 refine bodyPost_ret (v:= .tuple #[x,.agg cs]) ?_ hf.defers hR
 have vG:a.tmps[p]?.getD undef= .pointer (some ⟨g,0,none⟩):=by simp [sp]
 simp [results,h,Sem.run_bind,vG,asAddr,run_loadVar_row w g t ty cs fr d hg hu hd hi,Result.andThen,su]
theorem aK:(Tryz.prog.info? 46).map (fun i=>(i.zero,i.size,i.bytes))=some (some (.agg #[.slice none 0 0,.bool false,.int .u64 0]),3,40):=kR
def Q4 (g:Nat) (s:ByteArray) (j:Nat) (st:State) (N:Nat):Sb.Pr:=fun x wz=>∃ A4 c4 B4,x= .agg #[.slice A4 st.a6.length c4,.bool st.final,.int .u64 st.out]/\RD wz g s j/\OA wz B4 (.slice A4 st.a6.length c4) st.a6/\N<=B4
theorem Q4.u5 (g:Nat) (s:ByteArray) (j:Nat) (st:State) (N:Nat):Sb.Stable (Q4 g s j st N):=fun v w w' hb ⟨A,c,B,h1,h2,h3,h4⟩=>⟨A,c,B,h1,h2.later hb,l5 h3 hb,h4⟩
def Q5 (g:Nat) (s:ByteArray) (j:Nat) (st:State) (N:Nat):Sb.Pr:=fun x wz=>∃ A4 c4 B4,nV [.slice A4 st.a6.length c4,.bool st.final,.int .u64 st.out] x wz/\RD wz g s j/\OA wz B4 (.slice A4 st.a6.length c4) st.a6/\N<=B4
theorem Q5.u5 (g:Nat) (s:ByteArray) (j:Nat) (st:State) (N:Nat):Sb.Stable (Q5 g s j st N):=fun v w w' hb ⟨A,c,B,h1,h2,h3,h4⟩=>⟨A,c,B,nV.u5 _ v w w' hb h1,h2.later hb,l5 h3 hb,h4⟩
def Q6 (base g:Nat) (s:ByteArray) (j:Nat) (l:List (Value×State)) (st:State):Sb.Pr:=fun v wz=>∃ (y:Value×State) (C:Nat->Prop),SR wz base C v (l++[y])/\y.2=st/\RD wz g s j/\v.ownBlock≠some base/\∀ k,C k->base<k/\k<wz.heap.size/\v.ownBlock≠some k
theorem Q6.u5 (base g:Nat) (s:ByteArray) (j:Nat) (l:List (Value×State)) (st:State):Sb.Stable (Q6 base g s j l st):=fun v w w' hb ⟨y,C,h1,h2,h3,h4,h5⟩=>⟨y,C,h1.later hb,h2,h3.later hb,h4,fun k hk=>⟨(h5 k hk).1,Nat.lt_of_lt_of_le (h5 k hk).2.1 hb.size,(h5 k hk).2.2⟩⟩
theorem Q6.mk {w1 w3:World} {base g j N B4:Nat} {s:ByteArray} {C:Nat->Prop} {sv v3:Value} {A4:Option Addr} {c4:Nat} {l:List (Value×State)} {st:State} (hZ:SR w1 base C sv l) (hsv:sv.ownBlock≠some base) (hC:∀ k,C k->base<k/\k<N/\sv.ownBlock≠some k) (hN:N<=w1.heap.size) (hBN:base<N) (hr:RD w1 g s j) (hgs:sv.ownBlock≠some g) (Y8:OA w1 B4 (.slice A4 st.a6.length c4) st.a6) (hB4:N<=B4) (z3i:∀ k,sv.ownBlock=some k->k<N) (tK:w1.grownBy w3 sv.ownBlock) (oP:w3.ownsRow base 46 3 v3 (l.length+1) (lN l++[.slice A4 st.a6.length c4,.bool st.final,.int .u64 st.out])) (iM:v3.ownBlock=sv.ownBlock\/v3.ownBlock=some w1.heap.size):Q6 base g s j l st v3 w3:=by
 have tF:n4 (fun k=>sv.ownBlock=some k) w1 w3:=n4.grown tK (fun k hk=>hk)
 have F7:=tF.size
 refine ⟨(.slice A4 st.a6.length c4,st),fun k=>C k\/(.slice A4 st.a6.length c4:Value).ownBlock=some k,⟨?_,fun x hx=> ?_⟩,rfl,tF.heap hr hgs,?_,fun k hk=> ?_⟩
 ·rw [List.length_append,pM];exact oP
 ·rcases List.mem_append.1 hx with hx | hx
  ·exact ((hZ.a6 x hx).but tF (fun k hk h=>(hC k hk).2.2 h)).more (fun k _ hk=> .inl hk)
  ·simp at hx
   subst hx
   exact ((Y8.ra (B:=fun k=>(.slice A4 st.a6.length c4:Value).ownBlock=some k) (fun k hk=>hk)).but tF (fun k hk h=>by have h1:=(World.ownsRow.lt Y8 k hk).1;have h2:=z3i k h;omega)).more (fun k _ hk=> .inr hk)
 ·rcases iM with e | e
  ·rw [e];exact hsv
  ·rw [e];intro e2;injection e2 with e2;omega
 ·rcases hk with hk | hk
  ·have h1:=hC k hk
   refine ⟨h1.1,oM,?_⟩
   rcases iM with e | e
   ·rw [e];exact h1.2.2
   ·rw [e];intro e2;injection e2 with e2;omega
  ·have h1:=World.ownsRow.lt Y8 k hk
   refine ⟨oM,oM,?_⟩
   rcases iM with e | e
   ·rw [e];intro e2;have:=z3i k e2;omega
   ·rw [e];intro e2;injection e2 with e2;omega
def Q8 (base g:Nat) (s:ByteArray) (j:Nat) (l:List (Value×State)) (st:State) (wz:World):Prop:=∃ (v:Value) (y:Value×State) (C:Nat->Prop),wz.heap[base]? =some (.cells #[v,.int .u64 0] 38 (0,0))/\SR wz base C v (l++[y])/\y.2=st/\RD wz g s j/\v.ownBlock≠some base/\∀ k,C k->base<k/\k<wz.heap.size/\v.ownBlock≠some k
theorem Q8.later {base g j:Nat} {s:ByteArray} {l:List (Value×State)} {st:State} {w w':World} (hb:Below w.heap.size w w') (h:Q8 base g s j l st w):Q8 base g s j l st w':=by
 obtain ⟨v,y,C,h0,h1,h2,h3,h4,h5⟩:=h
 exact ⟨v,y,C,(hb.block _ (j4 h0)).trans h0,h1.later hb,h2,h3.later hb,h4,fun k hk=>⟨(h5 k hk).1,Nat.lt_of_lt_of_le (h5 k hk).2.1 hb.size,(h5 k hk).2.2⟩⟩
theorem Q8.mk {w1:World} {base g j:Nat} {s:ByteArray} {l:List (Value×State)} {st:State} {v0 v:Value} {y:Value×State} {C:Nat->Prop} (h0:w1.heap[base]? =some (.cells #[v0,.int .u64 0] 38 (0,0))) (hgb:g<base) (h1:SR w1 base C v (l++[y])) (h2:y.2=st) (h3:RD w1 g s j) (h4:v.ownBlock≠some base) (h5:∀ k,C k->base<k/\k<w1.heap.size/\v.ownBlock≠some k):Q8 base g s j l st (w1.setCell ⟨base,0,none⟩ v):=by
 have hb:n4 (fun k=>k=base) w1 (w1.setCell ⟨base,0,none⟩ v):=n4.setCell (S:=fun k=>k=base) rfl _
 exact ⟨v,y,C,(j5 (i:=0) h0 v).trans sP,h1.but hb (fun k hk e=>h4 (by rw [hk,e])) (fun k hk e=>by have:=(h5 k hk).1;omega),h2,hb.heap h3 (by intro e;omega),h4,fun k hk=>⟨(h5 k hk).1,Nat.lt_of_lt_of_le (h5 k hk).2.1 hb.size,(h5 k hk).2.2⟩⟩
theorem w8s (w:World) (g:Nat) (s:ByteArray) (hr:RD w g s 0) (F7:s.size<=1000000000):Calls Tryz.prog 33 #[.pointer (some ⟨g,0,none⟩)] w fun e w1=>u3h w w1 e g (pAll s):=by
 refine S8 52 Tryz.func33 fun fr hf s0=> ?_
 generalize hps:pAll s=r
 have HPS:=H9 hps;clear hps
 have hgl:=j4 hr
 refine Ze fun _ b7=>Zr [] hf ?_
 refine C1 0 3 hf ?_
 clear hf s0;intro a7 hf sS
 generalize p8:w.alloc (.cells #[.slice none 0 0,.int .u64 0] 38)=W0
 have T6:Below w.heap.size w W0:=by rw [<- p8];exact (Below.refl _ _).alloc nR _
 have oN:W0.heap[w.heap.size]? =some (.cells #[.slice none 0 0,.int .u64 0] 38 (0,0)):=by rw [<- p8];exact heap_alloc_new w _
 clear p8
 have cQ:=hr.later T6
 have y1m:n4 (fun k=>k=g\/w.heap.size<=k) w W0:=n4.of _ T6
 clear hr T6
 refine Zs b7 fun _ b7=>Ze fun _ j8=>Zr [] hf ?_
 refine B1 0 3 7 hf ?_
 clear hf sS;intro a7 hf sS
 refine Zx j8 (wp_block (wp_loop_ghost (fun gk fr wr=>∃ (k:Nat),gk=3-k/\k<=3/\Fc.Fr 52 fr/\fr.tmps[0]? =some (.pointer (some ⟨g,0,none⟩))/\fr.tmps[3]? =some (.pointer (some ⟨w.heap.size,0,none⟩))/\fr.tmps[7]? =some (.int .i64 k)/\pMagic s 3 0 0=pMagic s (3-k) k k/\RD wr g s k/\k<=s.size/\wr.heap[w.heap.size]? =some (.cells #[.slice none 0 0,.int .u64 0] 38 (0,0))/\n4 (fun k=>k=g\/w.heap.size<=k) w wr) (3) ?_ ?_))
 . (
 obtain ⟨s0,s3,s7⟩:=sS
 exact ⟨0,rfl,Nat.zero_le _,hf,s0,s3,s7,rfl,cQ,Nat.zero_le _,oN,y1m⟩)
 . (
 clear hf sS
 rintro gk fr wr ⟨k,hk,eK,hf,s0,s3,s7,hpa,U5,P6,vW,qY⟩
 have HK:=H9 hk;have HPA:=H9 hpa;clear hk hpa
 refine Ze fun _ j8=>Zr [] hf ?_
 refine C0 0 3 7 8 hf ?_
 clear hf s0 s3 s7;intro a7 hf sS
 refine Zs j8 fun _ j8=>Fc.l0 sS.2.2.2 (fun hq=> ?_) (fun hq=> ?_)
 . (
 have gG:k<3:=qT
 clear hq
 obtain ⟨u,hu⟩:∃ u,3-k=u+1:=⟨3-k-1,oM⟩
 have HU:=H9 hu;clear hu
 refine wp_skip (Zs j8 fun _ j8=>wp_block (Ze fun _ l6=>Zr [9,4] hf ?_))
 refine C0 0 3 4 7 hf ?_
 clear hf sS;intro a7 hf sS
 generalize hW6:wr.alloc (.cells #[.int .i64 k] 3)=W6
 obtain ⟨G7,c6, -, -⟩:=nU hW6
 clear hW6
 have hr6:=U5.later G7
 have hx6:=(G7.block _ (j4 vW)).trans vW
 have z8d:n4 (fun k=>k=g\/w.heap.size<=k) w W6:=qY.trans (n4.of _ G7)
 refine Zx l6 ?_
 rcases S4:z3n s k k with bz | ⟨xm,j1⟩
 . (
 have jU:=H9 S4;clear S4
 have he:r= .error bz:=by rw [<- HPS.out];unfold pAll;rw [HPA.out,HU.out];simp only [pMagic,jU.out]
 subst he
 refine rg ?_
 have bB:=hf.B2 10 11
 iterate 2 refine Zy ?_
 refine fp fun K Z=> ?_
 go_simp
 go_at_call 57;refine (w9f W6 g s k hr6 P6 F7 k wr.heap.size gG c6).mono ?_;rintro e wz z8
 rw [jU.out] at z8
 obtain ⟨q,rfl,U4,tM,uE⟩:=z8
 try dsimp only
 try dsimp only
 exact dV hf.defers (dW.via z8d ⟨q,rfl,U4,tM,uE⟩))
 . (
 have HP1:=H9 S4;clear S4
 refine rg ?_
 have bB:=hf.B2 10 11
 iterate 2 refine Zy ?_
 refine Zc (w9f W6 g s k hr6 P6 F7 k wr.heap.size gG c6) ?_;rintro e w7 z8
 rw [HP1.out] at z8
 obtain ⟨rfl,hr7,A8⟩:=z8
 have hx7:=A8.heap hx6 (by intro e;have e:w.heap.size=g:=e;omega)
 have qX:n4 (fun k=>k=g\/w.heap.size<=k) w w7:=z8d.trans (A8.mono (fun k _ h=> .inl h))
 clear A8 hx6 z8d hr6
 refine Zv ?_
 refine Fc.nil (B1 0 3 7 hf ?_)
 clear hf sS bB;intro a7 hf sS
 obtain ⟨hj,hjs,_⟩:=oU P6 HP1.out
 have y1g:pMagic s 3 0 0=pMagic s (3-(k+1)) (k+1) (k+1):=by rw [HPA.out,HU.out,show 3-(k+1)=u by have:=HU.out;omega];simp only [pMagic,HP1.out];rw [hj]
 rw [hj] at hr7 hjs
 refine Fc.j7 (Zx j8 (Zr [13] hf ?_))
 refine B1 0 3 7 hf ?_
 clear hf sS;intro a7 hf sS
 refine Fc.j6 ?_
 obtain ⟨s0,s3,s7⟩:=sS
 exact ⟨_,by have:=HK.out;omega,k+1,rfl,oM,hf,s0,s3,by rw [s7];rfl,y1g,hr7,hjs,hx7,qX⟩))
 . (
 have oR:k=3:=qF
 subst oR
 have hpm:pMagic s 3 0 0= .ok 3:=HPA.out
 have HPM:=H9 hpm;clear hpm hq
 refine Zo ?_
 refine Zx b7 ?_
 rcases S4:cE s 0 100000 3 with bz | ⟨en,p1⟩
 . (
 have jU:=H9 S4;clear S4
 have he:r= .error bz:=by rw [<- HPS.out];unfold pAll;simp only [HPM.out,jU.out]
 subst he
 refine Ze fun _ b7=>rg ?_
 have bB:=hf.B3 14 15 16
 refine Zy ?_
 refine fp fun K Z=> ?_
 go_simp
 go_at_call 59;refine (T5 wr g s 3 U5 P6 F7 0 100000).mono ?_;rintro e wz z8
 rw [jU.out] at z8
 obtain ⟨q,rfl,U4,tM,uE⟩:=z8
 try dsimp only
 try dsimp only
 exact dV hf.defers (dW.via qY ⟨q,rfl,U4,tM,uE⟩))
 . (
 have HP2:=H9 S4;clear S4
 have hk8:=F5 HP2.out
 have hen:en<=100000:=hk8.2.2.2.2.1
 refine Ze fun _ b7=>rg ?_
 have bB:=hf.B3 14 15 16
 refine Zy ?_
 refine Zc (T5 wr g s 3 U5 P6 F7 0 100000) ?_;rintro e w8 z8
 rw [HP2.out] at z8
 obtain ⟨rfl,hr8,dZ⟩:=z8
 have yC:=dZ.heap vW (by intro e;have e:w.heap.size=g:=e;omega)
 have y6t:n4 (fun k=>k=g\/w.heap.size<=k) w w8:=qY.trans (dZ.mono (fun k _ h=> .inl h))
 clear dZ vW qY U5
 refine Zv ?_
 refine fp fun K Z=> ?_
 go_simp
 try rw [Fc.wrap_i64 oM oM]
 apply Z.out;clear Z K
 refine Zy ?_
 refine Fc.nil (B1 0 2 3 hf ?_)
 clear hf sS bB;intro a7 hf sS
 refine Zx b7 ?_
 rcases S4:cE s 1 18446744073709551615 p1 with bz | ⟨n,p2⟩
 . (
 have jU:=H9 S4;clear S4
 have he:r= .error bz:=by rw [<- HPS.out];unfold pAll;simp only [HPM.out,HP2.out,jU.out]
 subst he
 refine Ze fun _ b7=>Ze fun _ j8=>rg ?_
 have bB:=hf.B2 17 18
 refine Zy ?_
 refine fp fun K Z=> ?_
 go_simp
 go_at_call 59;refine (T5 w8 g s p1 hr8 hk8.2.1 F7 1 18446744073709551615).mono ?_;rintro e wz z8
 rw [jU.out] at z8
 obtain ⟨q,rfl,U4,tM,uE⟩:=z8
 try dsimp only
 try dsimp only
 exact dV hf.defers (dW.via y6t ⟨q,rfl,U4,tM,uE⟩))
 . (
 have HP3:=H9 S4;clear S4
 have qZ:=F5 HP3.out
 have qL:=qZ.2.2.1
 unfold y5 at qL
 refine Ze fun _ b7=>Ze fun _ j8=>rg ?_
 have bB:=hf.B2 17 18
 refine Zy ?_
 refine Zc (T5 w8 g s p1 hr8 hk8.2.1 F7 1 18446744073709551615) ?_;rintro e w9 z8
 rw [HP3.out] at z8
 obtain ⟨rfl,hr9,kL⟩:=z8
 have hx9:=kL.heap yC (by intro e;have e:w.heap.size=g:=e;omega)
 have z8c:n4 (fun k=>k=g\/w.heap.size<=k) w w9:=y6t.trans (kL.mono (fun k _ h=> .inl h))
 clear kL yC y6t hr8
 refine Zv ?_
 iterate 2 refine Zy ?_
 refine Fc.nil (D0 0 2 3 5 6 hf ?_)
 clear hf sS bB;intro a7 hf sS
 refine Zx j8 (wp_block (wp_loop_ghost (fun gk fr wr=>∃ (i pk:Nat) (sv:Value) (l:List (Value×State)) (C:Nat->Prop),gk=n-i/\i<=n/\Fc.Fr 52 fr/\fr.tmps[0]? =some (.pointer (some ⟨g,0,none⟩))/\fr.tmps[3]? =some (.pointer (some ⟨w.heap.size,0,none⟩))/\fr.tmps[2]? =some (.int .i64 en)/\fr.tmps[5]? =some (.int .u64 i)/\fr.tmps[6]? =some (.int .u64 n)/\pStates s n 0 p2 []=pStates s (n-i) i pk (l.map Prod.snd)/\RD wr g s pk/\pk<=s.size/\i<=pk/\l.length=i/\wr.heap[w.heap.size]? =some (.cells #[sv,.int .u64 0] 38 (0,0))/\SR wr w.heap.size C sv l/\sv.ownBlock≠some w.heap.size/\(∀ k,C k->w.heap.size<k/\k<wr.heap.size/\sv.ownBlock≠some k)/\n4 (fun k=>k=g\/w.heap.size<=k) w wr) (n) ?_ ?_))
 . (
 obtain ⟨s0,s2,s3,s5,s6⟩:=sS
 exact ⟨0,p2,_,[],fun _=>False,rfl,Nat.zero_le _,hf,s0,s3,s2,s5,s6,rfl,hr9,qZ.2.1,Nat.zero_le _,rfl,hx9,SR.S0 _ _ _,(by intro e;cases e),(fun k h=>h.elim),z8c⟩)
 . (
 clear hf sS
 rintro gk fr wr ⟨i,pk,sv,l,C,hk,eK,hf,s0,s3,s2,s5,s6,hpa,U5,P6,hip,hli,vW,hZ,hsv,hC,qY⟩
 have HK:=H9 hk;have HPA:=H9 hpa;have HLI:=H9 hli;clear hk hpa hli
 refine Ze fun _ j8=>Ze fun _ l6=>Zr [19,20] hf ?_
 refine J3 0 2 3 5 6 21 hf ?_
 clear hf s0 s2 s3 s5 s6;intro a7 hf sS
 refine Zx l6 (Fc.l0 sS.2.2.2.2.2 (fun hq=> ?_) (fun hq=> ?_))
 . (
 have gG:i<n:=qT
 clear hq
 obtain ⟨u,hu⟩:∃ u,n-i=u+1:=⟨n-i-1,oM⟩
 have HU:=H9 hu;clear hu
 have e0:wr.cell? ⟨w.heap.size,0,none⟩=some sv:=by rw [cell_of_row _ _ 0 _ _ (0,0) vW];rfl
 obtain ⟨A,cc,x3t,_⟩:=hZ.form
 have s9t:=H9 x3t;clear x3t
 rcases S4:T4 s i pk with bz | ⟨st,j⟩
 . (
 have jU:=H9 S4;clear S4
 have he:r= .error bz:=by rw [<- HPS.out];unfold pAll;simp only [HPM.out,HP2.out,HP3.out];rw [HPA.out,HU.out];simp only [pStates,jU.out]
 subst he
 refine wp_skip (Zs j8 fun _ j8=>wp_block ?_)
 obtain ⟨s0,s2,s3,s5,s6,N6⟩:=sS
 refine Sb.tb 52 fun a8=> ?_
 refine Sb.T 0 hf a8 ?_ (hF:=fun _ _ h d=>Sb.O h s3)
 refine Sb.T 1 hf a8 ?_ (hF:=fun _ _ h d=>cL h.ext e0)
 refine Sb.mO 2 s0 hf a8 ?_
 refine Sb.mO 3 s5 hf a8 ?_
 refine Sb.E8 (k:=4) (n:=52) (fun _ _=>False) hf.size a8.out rfl (fun _ _ _ _ h=>h) ?_ ?_
 . (
 intro a7 w1 hh hd hk K Z
 refine Sb.pl ?_
 have Z1:=Sb.v 2 1 hd hk []
 have V0:=Sb.v 3 0 hd hk []
 clear hd
 replace e0:=cL hh.ext e0
 go_simp
 go_at_call 60;refine (y9n w1 g s pk (U5.later hh.ext) P6 F7 i oM).mono ?_;rintro e w2 z8
 rw [jU.out] at z8
 obtain ⟨q,rfl,U4,tM,uE⟩:=z8
 try dsimp only
 exact dV (hh.defers.trans hf.defers) (dW.via (qY.trans (n4.of _ hh.ext)) ⟨q,rfl,U4,tM,uE⟩))
 refine Sb.E8 (k:=5) (n:=52) Sb.Any hf.size a8.out rfl Sb.Stable.any ?_ ?_
 . (
 intro a7 w1 hh hd hk K Z
 obtain ⟨_,S4⟩:=Sb.bY (j:=4) (m:=0) hd hk rfl [] kR rfl
 exact S4.elim)
 refine Sb.E8 (k:=6) (n:=52) Sb.Any hf.size a8.out rfl Sb.Stable.any ?_ ?_
 . (
 intro a7 w1 hh hd hk K Z
 obtain ⟨_,S4⟩:=Sb.bY (j:=4) (m:=1) hd hk rfl [] kR rfl
 exact S4.elim)
 refine Sb.E8 (k:=7) (n:=52) Sb.Any hf.size a8.out rfl Sb.Stable.any ?_ ?_
 . (
 intro a7 w1 hh hd hk K Z
 obtain ⟨_,S4⟩:=Sb.bY (j:=4) (m:=2) hd hk rfl [] kR rfl
 exact S4.elim)
 refine Sb.E8 (k:=8) (n:=52) Sb.Any hf.size a8.out rfl Sb.Stable.any ?_ ?_
 . (
 intro a7 w1 hh hd hk K Z
 obtain ⟨_,S4⟩:=Sb.bY (j:=4) (m:=3) hd hk rfl [] kR rfl
 exact S4.elim)
 refine Sb.tf hf a8 fun a7 w1 hh hg=> ?_
 obtain ⟨_,S4⟩:=Sb.T0 (j:=4) (m:=4) hg rfl dC rfl
 exact S4.elim)
 . (
 have HP4:=H9 S4;clear S4
 have hk4:=vY (by omega:i<=1000000000) HP4.out
 have hB5:=j4 vW
 have z3i:∀ k,sv.ownBlock=some k->w.heap.size<=k/\k<wr.heap.size:=fun k hk=>World.ownsRow.lt hZ.row k hk
 refine wp_skip (Zs j8 fun _ j8=>wp_block ?_)
 obtain ⟨s0,s2,s3,s5,s6,N6⟩:=sS
 refine Sm.K1 (n:=52) (fun m k=>(m=4/\k=g)\/(m=6/\sv.ownBlock=some k)\/(m=8/\k=w.heap.size)) [4,6,8] (Sb.OkOps.of kR) (fun a8=> ?_)
 apply Sm.tq 0 _ hf a8
 . (
 intro a7 w1 hh hd hk K Z
 refine Sb.pl ?_
 have s3:=Sm.o hh kR s3
 have o5:=Sm.l7 hh [4] [(6,[1]),(8,[])] kR
 clear hd hh
 go_simp
 exact Sb.k Z)
 apply Sm.tq 1 _ hf a8
 . (
 intro a7 w1 hh hd hk K Z
 refine Sb.pl ?_
 have gF:=Sm.v 0 0 hd hk []
 have o5:=Sm.l7 hh [4] [(6,[]),(8,[])] kR
 clear hd hh
 have h4:=(o5 (fun k=>k=g) (fun m hm b h=>by simp at hm;subst hm;rcases h with h | h | h;exact h.2;(have:=h.1;omega);(have:=h.1;omega)))
 have e1:=h4.cell e0 (by intro e;have e:w.heap.size=g:=e;omega)
 clear h4 o5
 go_simp
 exact Sb.k Z)
 refine Sm.xQ (k:=2) s0 hf.size a8.out rfl kR rfl rfl (.inl rfl) kR ?_
 refine Sm.xQ (k:=3) s5 hf.size a8.out rfl kR rfl rfl (.inl rfl) kR ?_
 refine Sm.K3 (k:=4) (n:=52) (Q4 g s j st wr.heap.size) hf.size a8.out rfl (Q4.u5 _ _ _ _ _) kR ?_ ?_
 . (
 intro a7 w1 hh hd hk K Z
 refine Sb.pl ?_
 have Z1:=Sm.v 2 1 hd hk []
 have V0:=Sm.v 3 0 hd hk []
 have K6:=Sm.z7 hh [(6,[]),(8,[])] kR
 have o5:=Sm.l7 hh [] [(6,[]),(8,[])] kR
 clear hd hh
 go_simp
 go_at_call 60;refine (y9n w1 g s pk (U5.later K6) P6 F7 i oM).mono ?_;rintro e w2 z8
 rw [HP4.out] at z8
 obtain ⟨av,rfl,hr4,v5d,X6⟩:=z8
 obtain ⟨A4,c4,hv4,_⟩:=A1 v5d
 subst hv4
 exact Z.out _ rfl _ _ (X6.mono (fun k _ h=> .inl ⟨rfl,h⟩)) ⟨_,_,_,rfl,hr4,v5d,K6.size⟩)
 refine Sm.E8 (k:=5) (n:=52) (Q5 g s j st wr.heap.size) hf.size a8.out rfl (Q5.u5 _ _ _ _ _) kR ?_ ?_
 . (
 intro a7 w1 hh hd hk K Z
 refine Sb.pl ?_
 obtain ⟨x28,bR,u3f⟩:=Sm.use (j:=4) (m:=0) hd hk rfl [] kR [(6,true,[]),(8,true,[])] kR rfl rfl rfl
 obtain ⟨A4,c4,B4,rfl,u3e,v5c,u3d⟩:=u3f
 have o5:=Sm.l7 hh [4] [(6,[]),(8,[])] kR
 clear hd hh
 go_simp
 exact Z.out _ rfl _ _ ((Below.refl _ _).alloc nR _) ⟨A4,c4,B4,⟨_,rfl,E7 _ _ _⟩,u3e.later ((Below.refl _ _).alloc nR _),l5 v5c ((Below.refl _ _).alloc nR _),u3d⟩)
 refine Sm.K3 (k:=6) (n:=52) (Q6 w.heap.size g s j l st) hf.size a8.out rfl (Q6.u5 _ _ _ _ _ _) kR ?_ ?_
 . (
 intro a7 w1 hh hd hk K Z
 refine Sb.pl ?_
 have bQ:=Sm.v 1 4 hd hk []
 obtain ⟨x29,bG,u3c⟩:=Sm.use (j:=5) (m:=0) hd hk rfl [] kR [(4,false,[]),(8,true,[])] kR rfl rfl rfl
 obtain ⟨A4,c4,B4,⟨b29,rfl,u3b⟩,u3a,v5b,u2z⟩:=u3c
 have o5:=Sm.l7 hh [4] [(8,[])] kR
 clear hd hh
 have h6:=(o5 (fun k=>k=g) (fun m hm b h=>by simp at hm;subst hm;rcases h with h | h | h;exact h.2;(have:=h.1;omega);(have:=h.1;omega)))
 have x3r:=hZ.but h6 (fun k hk e=>by have e:k=g:=e;have:=(z3i k hk).1;omega) (fun k hk e=>by have e:k=g:=e;have:=(hC k hk).1;omega)
 refine J7 _ _ 36 rfl 46 _ 3 40 Tryz.underlying36 aK rfl dC dC w.heap.size sv l.length _ (Fc.k7 bQ) x3r.row b29 [.slice A4 st.a6.length c4,.bool st.final,.int .u64 st.out] (Fc.k7 bG) rfl u3b (by intro u hu;simp at hu;rcases hu with rfl | rfl | rfl<;>rfl) (by have:=HLI.out;omega) (by have:=qY.size;have:=h6.size;omega) (fun v3 w3 oP tK iM=> ?_)
 exact Z.out _ rfl _ _ (n4.grown tK (fun k hk=> .inr (.inl ⟨rfl,hk⟩))) (Q6.mk x3r hsv hC h6.size hB5 u3a (fun e=>by have:=(z3i g e).1;omega) v5b u2z (fun k hk=>(z3i k hk).2) tK oP iM))
 apply Sm.tq 7 _ hf a8
 . (
 intro a7 w1 hh hd hk K Z
 refine Sb.pl ?_
 have s3:=Sm.o hh kR s3
 have o5:=Sm.l7 hh [4,6] [(8,[])] kR
 clear hd hh
 go_simp
 exact Sb.k Z)
 refine Sm.K3 (k:=8) (n:=52) (fun _ wz=>Q8 w.heap.size g s j l st wz) hf.size a8.out rfl (fun _ _ _ hb h=>Q8.later hb h) kR ?_ ?_
 . (
 intro a7 w1 hh hd hk K Z
 refine Sb.pl ?_
 have s31:=Sm.v 7 0 hd hk []
 obtain ⟨x30,s30,nW⟩:=Sm.use (j:=6) (m:=1) hd hk rfl [] kR [(4,false,[])] kR rfl rfl rfl
 obtain ⟨y30,C2,w8r,v5a,u2y,v4z,u2x⟩:=nW
 have o5:=Sm.l7 hh [4,6] [] kR
 clear hd hh
 have h8:=o5 (fun k=>k=g\/sv.ownBlock=some k) (fun m hm b h=>by simp at hm;rcases h with h | h | h;exact .inl h.2;exact .inr h.2;(have:=h.1;omega))
 have yC:=h8.heap vW (fun h=>by rcases h with h | h;omega;exact hsv h)
 have e8:w1.cell? ⟨w.heap.size,0,none⟩=some sv:=by rw [cell_of_row _ _ 0 _ _ (0,0) yC];rfl
 have fz:=j3 (i:=0) yC
 clear o5 h8
 obtain ⟨A9,c9,pQ,_⟩:=w8r.form
 rw [List.length_append,List.length_cons,List.length_nil,Nat.zero_add] at pQ
 subst pQ
 go_simp
 exact Z.out _ rfl undef _ (n4.setCell (.inr (.inr ⟨rfl,rfl⟩)) _) (Q8.mk yC oM w8r v5a u2y v4z u2x))
 refine Sm.K2 (n:=52) kR hf.size a8.out rfl (fun a7 w1 hh hg=> ?_)
 replace s0:=Sm.o hh kR s0
 replace s2:=Sm.o hh kR s2
 replace s3:=Sm.o hh kR s3
 replace s5:=Sm.o hh kR s5
 replace s6:=Sm.o hh kR s6
 obtain ⟨_,U8⟩:=Sm.T0 (j:=8) (m:=0) hg rfl dC [(4,[]),(6,[])] kR rfl
 have u3:=hh.fr hf
 have o5:=hh.but
 clear hg hh hf a8 N6
 have hf:=u3;clear u3
 obtain ⟨v6,y6,C6,hx6,x3r,u2w,hr6,u2v,hC6⟩:=U8
 replace o5:=o5 (fun k=>k=g\/w.heap.size<=k) (fun m _ b h=>by rcases h with h | h | h;exact .inl h.2;exact .inr (z3i _ h.2).1;exact .inr (by rw [h.2];exact nR))
 have z8d:n4 (fun k=>k=g\/w.heap.size<=k) w _:=qY.trans o5
 have y1g:pStates s n 0 p2 []=pStates s (n-(i+1)) (i+1) j ((l++[y6]).map Prod.snd):=by rw [HPA.out,HU.out,show n-(i+1)=u by have:=HU.out;omega,List.map_append,List.map_cons,u2w];simp only [pStates,HP4.out];rfl
 refine Fc.j7 (Zx j8 (Zr [22,23] hf ?_))
 refine D0 0 2 3 5 6 hf ?_
 clear hf s0 s2 s3 s5 s6;intro a7 hf sS
 refine Fc.j6 ?_
 obtain ⟨s0,s2,s3,s5,s6⟩:=sS
 exact ⟨_,by have:=HK.out;omega,i+1,j,v6,l++[y6],C6,rfl,oM,hf,s0,s3,s2,by rw [s5];rfl,s6,y1g,hr6,hk4.2.1,oM,by simp [HLI.out],hx6,x3r,u2v,hC6,z8d⟩))
 . (
 have v4y:pStates s n 0 p2 []= .ok (l.map Prod.snd,pk):=by rw [HPA.out,show n-i=0 by have h9:=of_decide_eq_false hq;omega];rfl
 have HPT:=H9 v4y;clear v4y hq
 rcases S4:cE s 0 18446744073709551615 pk with bz | ⟨init,p4⟩
 . (
 have jU:=H9 S4;clear S4
 have he:r= .error bz:=by rw [<- HPS.out];unfold pAll;simp only [HPM.out,HP2.out,HP3.out,HPT.out,jU.out]
 subst he
 refine Zo ?_
 refine Zt b7 fun _ b7=> ?_
 have bB:=hf.B3 32 33 34
 refine Zy ?_
 refine fp fun K Z=> ?_
 go_simp
 go_at_call 59;refine (T5 wr g s pk U5 P6 F7 0 18446744073709551615).mono ?_;rintro e wz z8
 rw [jU.out] at z8
 obtain ⟨q,rfl,U4,tM,uE⟩:=z8
 try dsimp only
 try dsimp only
 exact dV hf.defers (dW.via qY ⟨q,rfl,U4,tM,uE⟩))
 . (
 have HP5:=H9 S4;clear S4
 refine Zo ?_
 refine Zt b7 fun _ b7=> ?_
 have bB:=hf.B3 32 33 34
 refine Zy ?_
 refine Zc (T5 wr g s pk U5 P6 F7 0 18446744073709551615) ?_;rintro e w9 z8
 rw [HP5.out] at z8
 obtain ⟨rfl,hr9,kL⟩:=z8
 have u2u:=hZ.but kL (fun k hk e=>by have e:k=g:=e;have:=(World.ownsRow.lt hZ.row k hk).1;omega) (fun k hk e=>by have e:k=g:=e;have:=(hC k hk).1;omega)
 have hx9:=kL.heap vW (by intro e;have e:w.heap.size=g:=e;omega)
 have z8c:n4 (fun k=>k=g\/w.heap.size<=k) w w9:=qY.trans (kL.mono (fun k _ h=> .inl h))
 clear kL vW qY U5
 have e1:w9.cell? ⟨w.heap.size,1,none⟩=some (.int .u64 0):=by rw [cell_of_row _ _ 1 _ _ (0,0) hx9];rfl
 have fz:=j3 (i:=1) hx9
 refine Zv ?_
 iterate 2 refine Zy ?_
 refine Fc.nil (B1 0 2 3 hf ?_)
 clear hf sS bB;intro a7 hf sS
 have s9q:=F5 HP5.out
 generalize z3g:w9.setCell ⟨w.heap.size,1,none⟩ (.int .u64 init)=W10
 have qP:n4 (fun k=>k=w.heap.size) w9 W10:=by rw [<- z3g];exact n4.setCell (S:=fun k=>k=w.heap.size) rfl _
 have y1j:W10.heap[w.heap.size]? =some (.cells #[sv,.int .u64 init] 38 (0,0)):=by rw [<- z3g];exact (j5 (i:=1) hx9 _).trans sP
 clear z3g
 have y6s:RD W10 g s p4:=qP.heap hr9 (by intro e;have e:g=w.heap.size:=e;omega)
 have mB:=u2u.but qP (fun k hk e=>hsv (by rw [hk,e])) (fun k hk e=>by have:=(hC k hk).1;omega)
 have y9l:n4 (fun k=>k=g\/w.heap.size<=k) w W10:=z8c.trans (qP.mono (fun k _ h=> .inr oM))
 have g0:=y6s.c0;have g1:=y6s.c1
 clear qP e1 fz
 refine Zs b7 fun _ b7=>Ze fun _ j8=> ?_
 obtain ⟨s0,s2,s3⟩:=sS
 refine Sb.tb 52 fun a8=> ?_
 refine Sb.mO 0 s0 hf a8 ?_
 refine Sb.T 1 hf a8 ?_
 refine Sb.T 2 hf a8 ?_
 refine Sb.T 3 hf a8 ?_ (hF:=fun _ _ h d=>ad (cL h.ext g0) (cL h.ext g1))
 refine Sb.mO 4 s0 hf a8 ?_
 refine Sb.T 5 hf a8 ?_
 refine Sb.T 6 hf a8 ?_
 refine Sb.T 7 hf a8 ?_ (hF:=fun _ _ h d=>ad (cL h.ext g0) (cL h.ext g1))
 refine Sb.T 8 hf a8 ?_ (hF:=fun _ _ h d=>ad (cL h.ext g0) (cL h.ext g1))
 refine Sb.T 9 hf a8 ?_
 refine Sb.E hf a8 (fun _ _ h g=>ad (Sb.O h s0) (ad (Sb.O h s2) (ad (Sb.O h s3) (Sb.f 9 0 g)))) ?_
 clear hf a8 s0 s2 s3;intro a7 w1 hf hx sS
 replace g0:=cL hx g0
 replace g1:=cL hx g1
 have w4u:=y6s.later hx
 have z8a:=(hx.block _ (j4 y1j)).trans y1j
 have vZ:=mB.later hx
 have z7z:n4 (fun k=>k=g\/w.heap.size<=k) w w1:=y9l.trans (n4.of _ hx)
 refine Zx j8 (Fc.l0 sS.2.2.2 (fun hq=> ?_) (fun hq=> ?_))
 . (
 have u2t:p4<s.size:=qT
 have he:r= .error (4,p4):=by rw [<- HPS.out];unfold pAll;simp only [HPM.out,HP2.out,HP3.out,HPT.out,HP5.out];rw [if_pos u2t]
 subst he
 refine rg ?_
 have bB:=hf.B4 45 46 47 48
 iterate 4 refine Zy ?_
 refine fp fun K Z=> ?_
 go_simp
 go_at_call 32;refine (vT w1 4 p4).mono ?_;rintro e wz u2s
 obtain ⟨q,rfl,U4,tM,uE⟩:=u2s
 try dsimp only
 try dsimp only
 exact dV hf.defers (dW.via z7z (vS.g (c:=4) (a:=p4) ⟨q,rfl,U4,tM,uE⟩)))
 . (
 have u2r:¬ p4<s.size:=qF
 have he:r= .ok (en,init,l.map Prod.snd):=by rw [<- HPS.out];unfold pAll;simp only [HPM.out,HP2.out,HP3.out,HPT.out,HP5.out];rw [if_neg u2r]
 subst he
 obtain ⟨A,cc,x3t,_⟩:=vZ.form
 subst x3t
 have d0:w1.cell? ⟨w.heap.size,0,none⟩=some (.slice A l.length cc):=by rw [cell_of_row _ _ 0 _ _ (0,0) z8a];rfl
 have d1:w1.cell? ⟨w.heap.size,1,none⟩=some (.int .u64 init):=by rw [cell_of_row _ _ 1 _ _ (0,0) z8a];rfl
 refine wp_skip (Zs b7 fun _ b7=> ?_)
 obtain ⟨s0,s2,s3,s44⟩:=sS
 refine Sb.tb 52 fun a8=> ?_
 refine Sb.mvP (k:=0) (j:=2) s2 hf.size a8.out rfl rfl rfl (.inl rfl) [] kR kR ?_
 refine Sb.T 1 hf a8 ?_ (hF:=fun _ _ h d=>ad (Sb.O h s3) (ad (cL h.ext d0) (cL h.ext d1)))
 refine Sb.mN 2 0 1 hf a8 [] ?_
 refine Tl.D7 (n:=52) (m:=3) (ws:=[]) kR hf.size a8.out rfl rfl kR (fun a7 w1 hh hg=> ?_)
 clear s2;have s2:=Tl.u7 2 0 hg rfl rfl rfl rfl rfl
 replace s3:=Sb.O hh s3
 have pS:=Tl.u7 1 1 hg rfl rfl rfl rfl rfl
 have u3:=hh.fr hf
 have hx:=hh.ext
 replace d0:=cL hx d0
 replace d1:=cL hx d1
 clear hg hh hf a8 s0 s44
 have hf:=u3;clear u3
 have z3k:=(hx.block _ (j4 z8a)).trans z8a
 have f0:=j3 (i:=0) z3k
 have f1:=j3 (i:=1) z3k
 refine Tl.D8 rfl rfl (fun K Z=> ?_)
 go_simp
 apply Z.out;clear Z K
 refine Tl.J5 rfl ?_
 refine C1 2 3 hf ?_
 clear hf s2 s3 pS;intro a7 hf sS
 refine Zx b7 (k8 ?_)
 have qP:=fun W:World=>(n4.setCell (S:=fun k=>k=w.heap.size) (w:=W) (p:=⟨w.heap.size,0,none⟩) rfl (.slice A l.length cc)).trans (n4.setCell (S:=fun k=>k=w.heap.size) (p:=⟨w.heap.size,1,none⟩) rfl (.int .u64 init))
 have w8p:=(vZ.later hx).but (qP _) (fun k hk e=>hsv (by rw [hk,e])) (fun k hk e=>by have:=(hC k hk).1;omega)
 exact w4q rfl hf sS.1 sS.2 (j5 (j5 z3k _) _) Tryz.underlying38 rfl kR ⟨_,sP,(fun wz hw=>(w8p.but hw (fun k hk h=>by have:=(World.ownsRow.lt w8p.row k hk).1;omega) (fun k hk h=>by have:=(hC k hk).1;omega)).rs),(z7z.trans ((n4.of _ hx).trans ((qP _).mono (fun k _ h=> .inr oM)))).mono (fun k hk h=>h.elim id (fun h=>oM))⟩))))))))
theorem y9k (a b c q:Nat) (x:Int) (sv:Value) (y:Nat) (ev:Value) (w:World) (hab:a≠b) (hac:a≠c) (hbc:b≠c) (h0:w.heap[a]? =some (.cells #[.int .i64 x] 3 (0,0))) (h1:w.heap[b]? =some (.cells #[sv,.int .u64 y] 38 (0,0))) (h2:w.heap[c]? =some (.cells #[ev] 41 (0,0))) :
  CallsD Tryz.prog 30 #[.pointer (some ⟨a,0,none⟩),.pointer (some ⟨b,0,none⟩),.pointer (some ⟨c,0,none⟩)] (.panicking [{ v:= .iface 77 (.pointer (some ⟨q,0,none⟩)),recovered:=false }]) w fun e u' w' =>
   e= .returned (.tuple #[])/\u'= .panicking [{ v:= .iface 77 (.pointer (some ⟨q,0,none⟩)),recovered:=true }]/\w'=(((w.setCell ⟨a,0,none⟩ (.int .i64 0)).setCell ⟨b,0,none⟩ (.slice none 0 0)).setCell ⟨b,1,none⟩ (.int .u64 0)).setCell ⟨c,0,none⟩ (.iface 77 (.pointer (some ⟨q,0,none⟩))):=by
 refine callsD_of_wpS Tryz.func30 rfl fun c₀ cs hu=> ?_
 apply wpS_seq
 apply wpS_region
 simp [wpOpsS,go_sem,recoverD,hu,Tryz.ntmps30,Exit.thenS]
 refine wpS_of_wp ?_
 have a0:w.cell? ⟨a,0,none⟩=some (.int .i64 x):=by rw [cell_of_row _ _ 0 _ _ (0,0) h0];rfl
 have b0:w.cell? ⟨b,0,none⟩=some sv:=by rw [cell_of_row _ _ 0 _ _ (0,0) h1];rfl
 have b1:w.cell? ⟨b,1,none⟩=some (.int .u64 y):=by rw [cell_of_row _ _ 1 _ _ (0,0) h1];rfl
 have c0':w.cell? ⟨c,0,none⟩=some ev:=by rw [cell_of_row _ _ 0 _ _ (0,0) h2];rfl
 have fa:=j3 (i:=0) h0
 have fb:=j3 (i:=0) h1
 have fb1:=j3 (i:=1) h1
 have fc:=j3 (i:=0) h2
 have s9o:=hab.symm
 have s9n:=hac.symm
 have s9m:=hbc.symm
 have hta:∀ w':World,(Instr.typeAssert (.iface 77 (.pointer (some ⟨q,0,none⟩))) 20 77 true).run Tryz.prog w'= .ok (.tuple #[.pointer (some ⟨q,0,none⟩),.bool true]) w':=fun w'=>by kernel_rfl
 go_wp2
 exact ⟨rfl,_,rfl,_,results_none rfl _ _ _,rfl,rfl,rfl⟩
theorem w4p (p0 p1 p2:Value) (w:World):CallsD Tryz.prog 30 #[p0,p1,p2] .returning w fun e u' w'=>e= .returned (.tuple #[])/\u'= .returning/\w'=w:=by
 refine callsD_of_wpS Tryz.func30 rfl fun c₀ cs hu=> ?_
 apply wpS_seq
 apply wpS_region
 simp [wpOpsS,go_sem,recoverD,hu,Tryz.ntmps30,Exit.thenS]
 refine wpS_of_wp ?_
 have hn:∀ w':World,(binOp .eql 20 .nilIface .nilIface).run Tryz.prog w'= .ok (.bool true) w':=fun w'=>by kernel_rfl
 go_wp2
 cases c₀
 simp_all [bodyPostS,results,Tryz.results31]
def Q0 (s:ByteArray):Except uD (Nat×Nat×List State):=match openR (Crc.opened (wl s)) with
 | (body,is)=>if is then pAll body else .error (16,0)
def w4o (w w1:World) (e:Ending):Except uD (Nat×Nat×List State)->Prop
 | .error b=>∃ q,e= .returned (.tuple #[.int .i64 0,.agg #[.slice none 0 0,.int .u64 0],.iface 77 (.pointer (some ⟨q,0,none⟩))])/\w.heap.size<=q/\w1.heap[q]? =some (.cells #[.int .i64 b.1,.int .i64 b.2] 134 (0,0))/\Below w.heap.size w w1
 | .ok (en,init,ss)=>∃ sv,e= .returned (.tuple #[.int .i64 en,.agg #[sv,.int .u64 init],.nilIface])/\RS w1 sv ss/\Below w.heap.size w w1
abbrev W15 (w:World):World:=((w.alloc (.cells #[.int .i64 0] 3)).alloc (.cells #[.slice none 0 0,.int .u64 0] 38)).alloc (.cells #[.nilIface] 41)
theorem fX {w w2:World} (hb:Below (W15 w).heap.size (W15 w) w2):w2.heap[w.heap.size]? =some (.cells #[.int .i64 0] 3 (0,0))/\w2.heap[w.heap.size+1]? =some (.cells #[.slice none 0 0,.int .u64 0] 38 (0,0))/\w2.heap[w.heap.size+1+1]? =some (.cells #[.nilIface] 41 (0,0))/\Below w.heap.size w w2/\w.heap.size+3<=w2.heap.size:=by
 have F7:(W15 w).heap.size=w.heap.size+3:=by simp [W15]
 have h0:=hb.size
 refine ⟨?_,?_,?_,?_,oM⟩
 ·rw [hb.block _ oM,u6,if_neg sO,u6,if_neg sP,u6,if_pos rfl]
 ·rw [hb.block _ oM,u6,if_neg sP,u6,if_pos sP]
 ·rw [hb.block _ oM,u6,if_pos sP]
 ·exact (((Below.refl _ w).alloc nR _).alloc sP _ |>.alloc sO _).trans (hb.mono oM)
theorem y9j {tmps:Array Value} {a b c:Nat} {W:World} {x:Int} {sv ev:Value} {y:Nat} {R:Ending->World->Prop} (t2:tmps[2]? =some (.pointer (some ⟨a,0,none⟩))) (t3:tmps[3]? =some (.pointer (some ⟨b,0,none⟩))) (t4:tmps[4]? =some (.pointer (some ⟨c,0,none⟩)))
  (ha:W.heap[a]? =some (.cells #[.int .i64 x] 3 (0,0))) (hb:W.heap[b]? =some (.cells #[sv,.int .u64 y] 38 (0,0))) (hc:W.heap[c]? =some (.cells #[ev] 41 (0,0))) (hR:R (.returned (.tuple #[.int .i64 x,.agg #[sv,.int .u64 y],ev])) W):Leaves Tryz.prog Tryz.f13 tmps R [] .returning W:=by
 have a0:W.cell? ⟨a,0,none⟩=some (.int .i64 x):=by rw [cell_of_row _ _ 0 _ _ (0,0) ha];rfl
 have c0:W.cell? ⟨c,0,none⟩=some ev:=by rw [cell_of_row _ _ 0 _ _ (0,0) hc];rfl
 have b0:W.cell? ⟨b,0,none⟩=some sv:=by rw [cell_of_row _ _ 0 _ _ (0,0) hb];rfl
 have b1:W.cell? ⟨b,1,none⟩=some (.int .u64 y):=by rw [cell_of_row _ _ 1 _ _ (0,0) hb];rfl
 simp [Leaves,results,Tryz.results15,Sem.run_bind,Result.andThen,asAddr,t2,t3,t4,a0,b0,b1,c0,go_sem]
 exact hR
theorem u4 {W:World} {k blk i:Nat} {v:Value} {o:Obj} (h:W.heap[k]? =some o) (E6:k≠blk):(W.setCell ⟨blk,i,none⟩ v).heap[k]? =some o:=(n4.setCell (S:=fun k=>k=blk) rfl v).heap h (fun e=>E6 e)
theorem z7x {w w2:World} {q:Nat} {bz:uD} {tmps:Array Value} (t2:tmps[2]? =some (.pointer (some ⟨w.heap.size,0,none⟩))) (t3:tmps[3]? =some (.pointer (some ⟨w.heap.size+1,0,none⟩))) (t4:tmps[4]? =some (.pointer (some ⟨w.heap.size+1+1,0,none⟩))) {x:Int} {sv ev:Value} {y:Nat}
  (k0:w2.heap[w.heap.size]? =some (.cells #[.int .i64 x] 3 (0,0))) (k1:w2.heap[w.heap.size+1]? =some (.cells #[sv,.int .u64 y] 38 (0,0))) (k2:w2.heap[w.heap.size+1+1]? =some (.cells #[ev] 41 (0,0))) (k3:Below w.heap.size w w2) (hq:w.heap.size+3<=q) (h3:w2.heap[q]? =some (.cells #[.int .i64 bz.1,.int .i64 bz.2] 134 (0,0))) :
  Leaves Tryz.prog Tryz.f13 tmps (fun e w1=>w4o w w1 e (.error bz)) [] .returning ((((w2.setCell ⟨w.heap.size,0,none⟩ (.int .i64 0)).setCell ⟨w.heap.size+1,0,none⟩ (.slice none 0 0)).setCell ⟨w.heap.size+1,1,none⟩ (.int .u64 0)).setCell ⟨w.heap.size+1+1,0,none⟩ (.iface 77 (.pointer (some ⟨q,0,none⟩)))):=by
 refine y9j (x:=0) (sv:= .slice none 0 0) (y:=0) (ev:= .iface 77 (.pointer (some ⟨q,0,none⟩))) t2 t3 t4 ?_ ?_ ?_ ⟨q,rfl,oM,?_,?_⟩
 ·exact u4 (u4 (u4 ((j5 k0 _).trans sP) oM) oM) oM
 ·exact u4 ((j5 (j5 (u4 k1 oM) _) _).trans sP) oM
 ·exact (j5 (u4 (u4 (u4 k2 oM) oM) oM) _).trans sP
 ·exact u4 (u4 (u4 (u4 h3 oM) oM) oM) oM
 ·exact (((k3.setCell (p:=⟨w.heap.size,0,none⟩) nR _).setCell (p:=⟨w.heap.size+1,0,none⟩) sP _).setCell (p:=⟨w.heap.size+1,1,none⟩) sP _).setCell (p:=⟨w.heap.size+1+1,0,none⟩) sO _
def z7w (w2:World) (a:Nat) (en init:Nat) (sv:Value):World:=(((((((w2.setCell ⟨a,0,none⟩ (.int .i64 en)).setCell ⟨a+1,0,none⟩ sv).setCell ⟨a+1,1,none⟩ (.int .u64 init)).setCell ⟨a,0,none⟩ (.int .i64 en)).setCell ⟨a+1,0,none⟩ sv).setCell ⟨a+1,1,none⟩ (.int .u64 init)).setCell ⟨a+1+1,0,none⟩ .nilIface).drew
theorem kS (W:World):W.drew.heap=W.heap:=rfl
theorem w4n {w w2:World} {N:Nat} {tmps:Array Value} (t2:tmps[2]? =some (.pointer (some ⟨w.heap.size,0,none⟩))) (t3:tmps[3]? =some (.pointer (some ⟨w.heap.size+1,0,none⟩))) (t4:tmps[4]? =some (.pointer (some ⟨w.heap.size+1+1,0,none⟩))) {x:Int} {sv v0 ev:Value} {y en init:Nat} {ss:List State}
  (k0:w2.heap[w.heap.size]? =some (.cells #[.int .i64 x] 3 (0,0))) (k1:w2.heap[w.heap.size+1]? =some (.cells #[v0,.int .u64 y] 38 (0,0))) (k2:w2.heap[w.heap.size+1+1]? =some (.cells #[ev] 41 (0,0))) (k3:Below w.heap.size w w2) (o7:∀ w',n4 (fun k=>k<N) w2 w'->RS w' sv ss) (hN:w.heap.size+2<N) :
  Leaves Tryz.prog Tryz.f13 tmps (fun e w1=>w4o w w1 e (.ok (en,init,ss))) [] .returning (z7w w2 w.heap.size en init sv):=by
 have m0:(z7w w2 w.heap.size en init sv).heap[w.heap.size]? =some (.cells #[.int .i64 en] 3 (0,0)):=by
  rw [z7w,kS]
  refine u4 (u4 (u4 ((j5 (u4 (u4 (j5 k0 _) oM) oM) _).trans sP) oM) oM) oM
 have m1:(z7w w2 w.heap.size en init sv).heap[w.heap.size+1]? =some (.cells #[sv,.int .u64 init] 38 (0,0)):=by
  rw [z7w,kS]
  refine u4 ((j5 (j5 (u4 (j5 (j5 (u4 k1 oM) _) _) oM) _) _).trans sP) oM
 have m2:(z7w w2 w.heap.size en init sv).heap[w.heap.size+1+1]? =some (.cells #[.nilIface] 41 (0,0)):=by
  rw [z7w,kS]
  refine (j5 (u4 (u4 (u4 (u4 (u4 (u4 k2 oM) oM) oM) oM) oM) oM) _).trans sP
 have o5:n4 (fun k=>w.heap.size<=k/\k<N) w2 (z7w w2 w.heap.size en init sv):=by
  have c:∀ (W:World) (p:Addr) (v:Value),w.heap.size<=p.block->p.block<N->n4 (fun k=>w.heap.size<=k/\k<N) W (W.setCell p v):=fun W p v h1 h2=>n4.setCell (S:=fun k=>w.heap.size<=k/\k<N) ⟨h1,h2⟩ v
  have hd:∀ W:World,n4 (fun k=>w.heap.size<=k/\k<N) W W.drew:=fun W=>⟨rfl,rfl,rfl,nR,fun _ _ _=>rfl⟩
  refine (((((((c _ _ _ ?_ ?_).trans (c _ _ _ ?_ ?_)).trans (c _ _ _ ?_ ?_)).trans (c _ _ _ ?_ ?_)).trans (c _ _ _ ?_ ?_)).trans (c _ _ _ ?_ ?_)).trans (c _ _ _ ?_ ?_)).trans (hd _)<;>simp<;>omega
 exact y9j t2 t3 t4 m0 m1 m2 ⟨_,rfl,o7 _ (o5.mono (fun k _ h=>h.2)),k3.trans (o5.below k3.size (fun k h=>h.1))⟩
theorem y9i (w:World) (s:ByteArray) (F7:s.size<=900000000):Calls Tryz.prog 13 #[.string s] w fun e w1=>w4o w w1 e (Q0 s):=by
 have hmf:∀ (fn:Fn) (first cap:Array Value) (w:World),(Instr.makeFunc fn first cap).run Tryz.prog w= .ok (.func fn first cap) w:=fun _ _ _ _=>rfl
 obtain ⟨body,is,ho⟩:∃ b i,openR (Crc.opened (wl s))=(b,i):=⟨_,_,rfl⟩
 rcases is with _ | _
 ·have hp:Q0 s= .error (16,0):=by unfold Q0;rw [ho];rfl
  rw [hp]
  go_enter_defers Tryz.func13,Tryz.ntmps13
  go_wp2_with (go_at_call 31;refine (z3x _ s F7).mono ?_;rw [ho];rintro e w1 ⟨rfl,n7⟩)
  refine (vT _ 16 0).mono ?_
  rintro e w2 ⟨q,rfl,h2,h3,h4⟩
  dsimp only
  refine leaves_cons (f:=30) (args:= #[.pointer (some ⟨w.heap.size,0,none⟩),.pointer (some ⟨w.heap.size+1,0,none⟩),.pointer (some ⟨w.heap.size+1+1,0,none⟩)]) sP (by simp [go_sem]) ?_
  obtain ⟨k0,k1,k2,k3,k4⟩:=fX (n7.trans (h4.mono n7.size))
  refine (y9k _ _ _ q 0 (.slice none 0 0) 0 .nilIface w2 oM oM oM k0 k1 k2).mono ?_
  rintro e u' w3 ⟨rfl,rfl,rfl⟩
  have k5:=(fX n7).2.2.2.2
  exact z7x (rfl) (rfl) (rfl) k0 k1 k2 k3 oM h3
 ·have hp:Q0 s=pAll body:=by unfold Q0;rw [ho];rfl
  rw [hp]
  have tE:body.size<=1000000000:=by
   have h9:=congrArg (fun x=>x.1.size) ho
   simp only at h9
   rw [<- h9]
   cases lT:Crc.opened (wl s) with
   | none=>exact Nat.zero_le _
   | some l =>
    have h8:=congrArg List.length (Crc.lY lT)
    rw [Crc.R6,l9] at h8
    simp only [openR,X4]
    omega
  cases F6:pAll body with
  | error bz =>
   go_enter_defers Tryz.func13,Tryz.ntmps13
   go_wp2_with (go_at_call 31;refine (z3x _ s F7).mono ?_;rw [ho];rintro e w1 ⟨rfl,n7⟩)
   refine (w8s _ w1.heap.size body (heap_alloc_new w1 _) tE).mono ?_
   rintro e w2 z8
   rw [F6] at z8
   obtain ⟨q,rfl,h2,h3,h4⟩:=z8
   dsimp only
   refine leaves_cons (f:=30) (args:= #[.pointer (some ⟨w.heap.size,0,none⟩),.pointer (some ⟨w.heap.size+1,0,none⟩),.pointer (some ⟨w.heap.size+1+1,0,none⟩)]) sP (by simp [go_sem]) ?_
   have k5:=(fX n7).2.2.2.2
   have r9:Below w1.heap.size w1 w2:=((Below.refl _ w1).alloc nR _).trans (h4.below sP (fun k hk=>oM))
   obtain ⟨k0,k1,k2,k3,k4⟩:=fX (n7.trans (r9.mono n7.size))
   refine (y9k _ _ _ q 0 (.slice none 0 0) 0 .nilIface w2 oM oM oM k0 k1 k2).mono ?_
   rintro e u' w3 ⟨rfl,rfl,rfl⟩
   exact z7x rfl rfl rfl k0 k1 k2 k3 (by simp at h2;omega) h3
  | ok x =>
   obtain ⟨en,init,ss⟩:=x
   go_enter_defers Tryz.func13,Tryz.ntmps13
   go_wp2_with (go_at_call 31;refine (z3x _ s F7).mono ?_;rw [ho];rintro e w1 ⟨rfl,n7⟩)
   refine (w8s _ w1.heap.size body (heap_alloc_new w1 _) tE).mono ?_
   rintro e w2 z8
   rw [F6] at z8
   obtain ⟨sv,rfl,o7,h4⟩:=z8
   obtain ⟨A,cc,hsv,_⟩:=(o7 _ (n4.refl _ _)).form
   subst hsv
   dsimp only
   have r9:Below w1.heap.size w1 w2:=((Below.refl _ w1).alloc nR _).trans (h4.below sP (fun k hk=>oM))
   obtain ⟨k0,k1,k2,k3,k4⟩:=fX (n7.trans (r9.mono n7.size))
   have a0:w2.cell? ⟨w.heap.size,0,none⟩=some (.int .i64 0):=by rw [cell_of_row _ _ 0 _ _ (0,0) k0];rfl
   have b0:w2.cell? ⟨w.heap.size+1,0,none⟩=some (.slice none 0 0):=by rw [cell_of_row _ _ 0 _ _ (0,0) k1];rfl
   have b1:w2.cell? ⟨w.heap.size+1,1,none⟩=some (.int .u64 0):=by rw [cell_of_row _ _ 1 _ _ (0,0) k1];rfl
   have c0:w2.cell? ⟨w.heap.size+1+1,0,none⟩=some .nilIface:=by rw [cell_of_row _ _ 0 _ _ (0,0) k2];rfl
   have fa:=j3 (i:=0) k0
   have fb:=j3 (i:=0) k1
   have fb1:=j3 (i:=1) k1
   have fc:=j3 (i:=0) k2
   go_wp2
   go_region
   go_wp2
   refine leaves_cons (f:=30) (args:= #[.pointer (some ⟨w.heap.size,0,none⟩),.pointer (some ⟨w.heap.size+1,0,none⟩),.pointer (some ⟨w.heap.size+1+1,0,none⟩)]) sP (by simp [go_sem]) ?_
   refine (w4p _ _ _ _).mono ?_
   rintro e u' w3 ⟨rfl,rfl,rfl⟩
   have k5:=(fX n7).2.2.2.2
   exact w4n rfl rfl rfl k0 k1 k2 k3 o7 sO
end Dw
end Go.Proofs.YtcddnmhmcieebaaGreatDoor
