/- pack: reading.state. -/
import Derived.Test.YtcddnmhmcieebaaGreatDoorY13
import Derived.Test.YtcddnmhmcieebaaGreatDoorTools
namespace Go.Proofs.YtcddnmhmcieebaaGreatDoor
open Go.RowKit
set_option linter.unusedSimpArgs false
set_option linter.unusedVariables false
set_option linter.unnecessarySimpa false
namespace Dw
theorem y1q:(Tryz.prog.info? 71).map (fun i=>(i.zero,i.size,i.bytes))=some (some (.agg #[.int .u8 0,.int .u64 0,.int .i64 0]),3,24):=kR
theorem y1p (n:Nat):(((n:Nat):Int).tmod 2==1)=decide (n%2=1):=by
 have h:((n:Nat):Int).tmod 2=((n%2:Nat):Int):=(Int.ofNat_tmod n 2).symm
 rw [h]
 rcases Nat.mod_two_eq_zero_or_one n with h | h<;>rw [h]<;>rfl
def StR (w w1:World) (e:Ending) (g:Nat) (s:ByteArray):Except uD (State×Nat)->Prop
 | .error b=>dW w w1 e g b
 | .ok (st,j)=>∃ av,e= .returned (.agg #[av,.bool st.final,.int .u64 st.out])/\RD w1 g s j/\OA w1 w.heap.size av st.a6/\n4 (fun k=>k=g) w w1
set_option maxHeartbeats 4000000 in
set_option maxRecDepth 100000 in
theorem y9n (w:World) (g:Nat) (s:ByteArray) (p:Nat) (hr:RD w g s p) (hi:p<=s.size) (F7:s.size<=1000000000) (i:Nat) (tG:i<=1000000000):Calls Tryz.prog 60 #[.pointer (some ⟨g,0,none⟩),.int .u64 i] w fun e w1=>StR w w1 e g s (T4 s i p):=by
 refine aT 43 Tryz.func60 fun fr hf s0 s1=> ?_
 generalize hps:T4 s i p=r
 have HPS:=H9 hps;clear hps
 have hgl:=j4 hr
 rcases S4:cE s 0 513 p with bz | ⟨n,p1⟩
 . (
 have jU:=H9 S4;clear S4
 have he:r= .error bz:=by rw [<- HPS.out];unfold T4;rw [jU.out]
 subst he
 refine Ze fun _ b7=>Zr [] hf ?_
 refine B1 0 1 4 hf ?_
 clear hf s0 s1;intro a7 hf sS
 generalize p8:w.alloc (.cells #[.slice none 0 0,.bool false,.int .u64 0] 46)=W0
 have T6:Below w.heap.size w W0:=by rw [<- p8];exact (Below.refl _ _).alloc nR _
 have oN:W0.heap[w.heap.size]? =some (.cells #[.slice none 0 0,.bool false,.int .u64 0] 46 (0,0)):=by rw [<- p8];exact heap_alloc_new w _
 clear p8
 have cQ:=hr.later T6
 have y1m:n4 (fun k=>k=g\/w.heap.size<=k) w W0:=n4.of _ T6
 clear hr T6
 refine Zt b7 fun _ b7=> ?_
 have bB:=hf.B2 7 8
 refine Zy ?_
 refine fp fun K Z=> ?_
 go_simp
 go_at_call 59;refine (T5 W0 g s p cQ hi F7 0 513).mono ?_;rintro e wz z8
 rw [jU.out] at z8
 obtain ⟨q,rfl,U4,tM,uE⟩:=z8
 try dsimp only
 try dsimp only
 exact dV hf.defers (dW.via y1m ⟨q,rfl,U4,tM,uE⟩))
 . (
 have HP1:=H9 S4;clear S4
 refine Ze fun _ b7=>Zr [] hf ?_
 refine B1 0 1 4 hf ?_
 clear hf s0 s1;intro a7 hf sS
 generalize p8:w.alloc (.cells #[.slice none 0 0,.bool false,.int .u64 0] 46)=W0
 have T6:Below w.heap.size w W0:=by rw [<- p8];exact (Below.refl _ _).alloc nR _
 have oN:W0.heap[w.heap.size]? =some (.cells #[.slice none 0 0,.bool false,.int .u64 0] 46 (0,0)):=by rw [<- p8];exact heap_alloc_new w _
 clear p8
 have cQ:=hr.later T6
 have y1m:n4 (fun k=>k=g\/w.heap.size<=k) w W0:=n4.of _ T6
 clear hr T6
 refine Zt b7 fun _ b7=> ?_
 have bB:=hf.B2 7 8
 refine Zy ?_
 refine Zc (T5 W0 g s p cQ hi F7 0 513) ?_;rintro e w1 z8
 rw [HP1.out] at z8
 obtain ⟨rfl,hr1,n7⟩:=z8
 refine Zv ?_
 refine Zy ?_
 refine Fc.nil (C0 0 1 4 5 hf ?_)
 clear hf sS bB;intro a7 hf sS
 have bV:=F5 HP1.out
 have kC:=n7.heap oN (by intro e;have e:w.heap.size=g:=e;omega)
 have y6w:n4 (fun k=>k=g\/w.heap.size<=k) w w1:=y1m.trans (n7.mono (fun k _ h=> .inl h))
 have t5s:n<=513:=bV.2.2.2.2.1
 have e1:w1.cell? ⟨w.heap.size,1,none⟩=some (.bool false):=by rw [cell_of_row _ _ 1 _ _ (0,0) kC];rfl
 have fz:=j3 (i:=1) kC
 clear cQ oN n7
 refine Zx b7 (Fc.L1 (fun fr wq=>∃ (o p2:Nat),Fc.Fr 43 fr/\fr.tmps[0]? =some (.pointer (some ⟨g,0,none⟩))/\fr.tmps[1]? =some (.int .u64 i)/\fr.tmps[4]? =some (.pointer (some ⟨w.heap.size,0,none⟩))/\fr.tmps[5]? =some (.int .u64 n)/\nX s n p1= .ok (o,p2)/\RD wq g s p2/\p2<=s.size/\wq.heap[w.heap.size]? =some (.cells #[.slice none 0 0,.bool (decide (n%2=1)),.int .u64 o] 46 (0,0))/\n4 (fun k=>k=g\/w.heap.size<=k) w wq) ?_ ?_)
 . (
 refine Ze fun _ b7=>rg ?_
 have bB:=hf.B4 9 10 11 12
 iterate 2 refine Zy ?_
 refine fp fun K Z=> ?_
 go_simp
 rw [y1p]
 apply Z.out;clear Z K
 iterate 2 refine Zy ?_
 refine Fc.nil (C0 0 1 4 5 hf ?_)
 clear hf sS bB;intro a7 hf sS
 generalize U1:w1.setCell ⟨w.heap.size,1,none⟩ (.bool (decide (n%2=1)))=W2
 have fT:=j5 (i:=1) kC (.bool (decide (n%2=1)))
 have S5:RD (w1.setCell ⟨w.heap.size,1,none⟩ (.bool (decide (n%2=1)))) g s _:=(n4.setCell (S:=fun k=>k=w.heap.size) (p:=⟨w.heap.size,1,none⟩) rfl _).heap hr1 (by intro e;have e:g=w.heap.size:=e;omega)
 have qW:n4 (fun k=>k=g\/w.heap.size<=k) w (w1.setCell ⟨w.heap.size,1,none⟩ (.bool (decide (n%2=1)))):=y6w.trans (n4.setCell (.inr nR) _)
 rw [U1] at fT S5 qW
 try rw [U1] at uF
 clear U1
 simp only [List.setIfInBounds_toArray,List.set_cons_zero,List.set_cons_succ] at fT
 clear e1 fz kC hr1 y6w
 refine Zx b7 ?_
 have e2:W2.cell? ⟨w.heap.size,1,none⟩=some (.bool (decide (n%2=1))):=by rw [cell_of_row _ _ 1 _ _ (0,0) fT];rfl
 refine Ze fun _ b7=>Zr [13] hf ?_
 refine D0 0 1 4 5 14 hf ?_
 clear hf sS;intro a7 hf sS
 refine Zx b7 (Fc.l0 sS.2.2.2.2 (fun hq=> ?_) (fun hq=> ?_))
 . (
 have v5l:n%2=1:=of_decide_eq_true hq
 clear hq
 rcases S4:cE s 0 18446744073709551615 p1 with bz | ⟨o,p2⟩
 . (
 have jU:=H9 S4;clear S4
 have hpo:nX s n p1= .error bz:=by unfold nX;rw [if_pos v5l];exact jU.out
 have he:r= .error bz:=by rw [<- HPS.out];unfold T4;simp only [HP1.out,hpo]
 subst he
 refine rg ?_
 have bB:=hf.B3 15 16 17
 refine Zy ?_
 refine fp fun K Z=> ?_
 go_simp
 go_at_call 59;refine (T5 W2 g s p1 S5 bV.2.1 F7 0 18446744073709551615).mono ?_;rintro e wz z8
 rw [jU.out] at z8
 obtain ⟨q,rfl,U4,tM,uE⟩:=z8
 try dsimp only
 try dsimp only
 exact dV hf.defers (dW.via qW ⟨q,rfl,U4,tM,uE⟩))
 . (
 have HP2:=H9 S4;clear S4
 refine rg ?_
 have bB:=hf.B3 15 16 17
 refine Zy ?_
 refine Zc (T5 W2 g s p1 S5 bV.2.1 F7 0 18446744073709551615) ?_;rintro e w3 z8
 rw [HP2.out] at z8
 obtain ⟨rfl,oP,D4⟩:=z8
 have hx3:=D4.heap fT (by intro e;have e:w.heap.size=g:=e;omega)
 have u3m:n4 (fun k=>k=g\/w.heap.size<=k) w w3:=qW.trans (D4.mono (fun k _ h=> .inl h))
 have e3:w3.cell? ⟨w.heap.size,2,none⟩=some (.int .u64 0):=by rw [cell_of_row _ _ 2 _ _ (0,0) hx3];rfl
 have fz:=j3 (i:=2) hx3
 refine Zv ?_
 iterate 2 refine Zy ?_
 refine Fc.nil (C0 0 1 4 5 hf ?_)
 clear hf sS bB;intro a7 hf sS
 generalize oQ:w3.setCell ⟨w.heap.size,2,none⟩ (.int .u64 o)=W4
 have hxq:=j5 (i:=2) hx3 (.int .u64 o)
 have hrq:RD (w3.setCell ⟨w.heap.size,2,none⟩ (.int .u64 o)) g s _:=(n4.setCell (S:=fun k=>k=w.heap.size) (p:=⟨w.heap.size,2,none⟩) rfl _).heap oP (by intro e;have e:g=w.heap.size:=e;omega)
 have v5k:n4 (fun k=>k=g\/w.heap.size<=k) w (w3.setCell ⟨w.heap.size,2,none⟩ (.int .u64 o)):=u3m.trans (n4.setCell (.inr nR) _)
 rw [oQ] at hxq hrq v5k
 try rw [oQ] at hoaq
 clear oQ
 simp only [List.setIfInBounds_toArray,List.set_cons_zero,List.set_cons_succ] at hxq
 have hpo:nX s n p1= .ok (o,p2):=by unfold nX;rw [if_pos v5l];exact HP2.out
 have hpq:=(F5 HP2.out).2.1
 have hrq:=hrq;have hbq:=v5k
 refine Fc.j6 ?_
 obtain ⟨s0,s1,s4,s5⟩:=sS
 exact ⟨_,_,hf,s0,s1,s4,s5,hpo,hrq,hpq,hxq,hbq⟩))
 . (
 have hpo:nX s n p1= .ok (0,p1):=by unfold nX;rw [if_neg (of_decide_eq_false hq)]
 have hpq:p1<=s.size:=bV.2.1
 have hrq:=S5;have hxq:=fT;have hbq:=qW
 clear hq
 refine wp_skip (Fc.j6 ?_)
 obtain ⟨s0,s1,s4,s5,fW⟩:=sS
 exact ⟨_,_,hf,s0,s1,s4,s5,hpo,hrq,hpq,hxq,hbq⟩))
 . (
 clear hf sS
 rintro fr wq ⟨o,p2,hf,s0,s1,s4,s5,hpo,hrq,hpq,hxq,hbq⟩
 have HPO:=H9 hpo;clear hpo
 obtain ⟨m,hm⟩:∃ x,n / 2=x:=⟨_,rfl⟩
 have hm9:m<=256:=oM
 have HM:=H9 hm;clear hm
 have hps:T4 s i p=pMk n o (pArcs s i m p2 []):=by unfold T4;simp only [HP1.out,HPO.out,HM.out]
 rw [HPS.out] at hps
 have x3x:=H9 hps;clear hps
 refine Ze fun _ b7=>Ze fun _ j8=>rg ?_
 have bB:=hf.b 18
 refine Zy ?_
 refine fp fun K Z=> ?_
 go_simp
 rw [show IntKind.u64.wrap ((n:Int) / 2)=((m:Nat):Int) by rw [Fc.wrap_u64 oM oM];have:=HM.out;omega]
 apply Z.out;clear Z K
 refine Zy ?_
 refine Fc.nil (D0 0 1 4 19 20 hf ?_)
 clear hf s0 s1 s4 s5 bB;intro a7 hf sS
 refine Zx j8 (wp_block (wp_loop_ghost (fun gk fr wr=>∃ (k pk:Nat) (acc:List r7) (av:Value),gk=m-k/\k<=m/\Fc.Fr 43 fr/\fr.tmps[0]? =some (.pointer (some ⟨g,0,none⟩))/\fr.tmps[1]? =some (.int .u64 i)/\fr.tmps[4]? =some (.pointer (some ⟨w.heap.size,0,none⟩))/\fr.tmps[19]? =some (.int .u64 m)/\fr.tmps[20]? =some (.int .u64 k)/\pArcs s i m p2 []=pArcs s i (m-k) pk acc/\RD wr g s pk/\pk<=s.size/\wr.heap[w.heap.size]? =some (.cells #[av,.bool (decide (n%2=1)),.int .u64 o] 46 (0,0))/\OA wr w.heap.size av acc/\av.ownBlock≠some w.heap.size/\acc.length=k/\n4 (fun k=>k=g\/w.heap.size<=k) w wr) (m) ?_ ?_))
 . (
 obtain ⟨s0,s1,s4,J6,M6⟩:=sS
 exact ⟨0,p2,[],_,rfl,Nat.zero_le _,hf,s0,s1,s4,J6,M6,rfl,hrq,hpq,hxq,OA.S0 _ _,(by intro e;cases e),rfl,hbq⟩)
 . (
 clear hf sS
 rintro gk fr wr ⟨k,pk,acc,av,hk,eK,hf,s0,s1,s4,J6,M6,hpa,U5,P6,vW,Y8,aE,bS,o5⟩
 have s9w:acc.length<=1000:=oM
 have HAL:=H9 bS;have HK:=H9 hk;have HPA:=H9 hpa;clear hk hpa bS
 refine Ze fun _ j8=>Zr [] hf ?_
 refine J3 0 1 4 19 20 21 hf ?_
 clear hf s0 s1 s4 J6 M6;intro a7 hf sS
 refine Zs j8 fun _ j8=>Fc.l0 sS.2.2.2.2.2 (fun hq=> ?_) (fun hq=> ?_)
 . (
 have gG:k<m:=qT
 clear hq
 obtain ⟨u,hu⟩:∃ u,m-k=u+1:=⟨m-k-1,oM⟩
 have HU:=H9 hu;clear hu
 rcases S4:mA s pk with bz | ⟨c,q1⟩
 . (
 have jU:=H9 S4;clear S4
 have he:r= .error bz:=by rw [x3x.out,HPA.out,HU.out];simp only [pArcs,jU.out];rfl
 subst he
 refine wp_skip (Zs j8 fun _ j8=>wp_block (Ze fun _ l6=>rg ?_))
 have bB:=hf.B4 22 23 24 6
 refine Zy ?_
 refine fp fun K Z=> ?_
 go_simp
 go_at_call 57;refine (y9o wr g s pk U5 P6 F7).mono ?_;rintro e wz z8
 rw [jU.out] at z8
 obtain ⟨q,rfl,U4,tM,uE⟩:=z8
 try dsimp only
 try dsimp only
 exact dV hf.defers (dW.via o5 ⟨q,rfl,U4,tM,uE⟩))
 . (
 have HP3:=H9 S4;clear S4
 refine wp_skip (Zs j8 fun _ j8=>wp_block (Ze fun _ l6=>rg ?_))
 have bB:=hf.B4 22 23 24 6
 refine Zy ?_
 refine Zc (y9o wr g s pk U5 P6 F7) ?_;rintro e w6 z8
 rw [HP3.out] at z8
 obtain ⟨rfl,hr6,G7⟩:=z8
 refine Zv ?_
 iterate 3 refine Zy ?_
 refine Fc.nil (J3 0 1 4 6 19 20 hf ?_)
 clear hf sS bB;intro a7 hf sS
 have hk6:=jT P6 HP3.out
 have hx6:=G7.heap vW (by intro e;have e:w.heap.size=g:=e;omega)
 have z8d:n4 (fun k=>k=g\/w.heap.size<=k) w w6:=o5.trans (G7.mono (fun k _ h=> .inl h))
 have z3m:=y7 Y8 G7 (fun k hk e=>by have e:k=g:=e;have:=(World.ownsRow.lt Y8 k hk).1;omega)
 have hBA:=j4 hx6
 have hvA:∀ k,av.ownBlock=some k->k<w6.heap.size:=fun k hk=>(World.ownsRow.lt z3m k hk).2
 generalize eB:w6.alloc (.cells #[.int .u8 c,.int .u64 0,.int .i64 0] 71)=W7
 have A8:Below w6.heap.size w6 W7:=by rw [<- eB];exact (Below.refl _ _).alloc nR _
 have hA7:W7.heap[w6.heap.size]? =some (.cells #[.int .u8 c,.int .u64 0,.int .i64 0] 71 (0,0)):=by rw [<- eB];exact heap_alloc_new w6 _
 obtain ⟨A,hA⟩:∃ x,w6.heap.size=x:=⟨_,rfl⟩
 obtain ⟨s0,s1,s4,s6,J6,M6⟩:=sS
 rw [hA] at hBA hvA hA7 s6
 have hr7:=hr6.later A8
 have hx7:=(A8.block _ oM).trans hx6
 have z3l:=l5 z3m A8
 have qX:n4 (fun k=>k=g\/w.heap.size<=k) w W7:=z8d.trans (n4.of _ A8)
 clear eB hA A8 G7 hr6 hx6 z3m z8d U5 vW Y8 o5
 refine Zx l6 ?_
 rcases S4:cE s 0 18446744073709551615 q1 with bz | ⟨oo,q2⟩
 . (
 have jU:=H9 S4;clear S4
 have he:r= .error bz:=by rw [x3x.out,HPA.out,HU.out];simp only [pArcs,HP3.out,jU.out];rfl
 subst he
 refine Ze fun _ l6=>rg ?_
 have bB:=hf.B3 25 26 27
 refine Zy ?_
 refine fp fun K Z=> ?_
 go_simp
 go_at_call 59;refine (T5 W7 g s q1 hr7 hk6.2.1 F7 0 18446744073709551615).mono ?_;rintro e wz z8
 rw [jU.out] at z8
 obtain ⟨q,rfl,U4,tM,uE⟩:=z8
 try dsimp only
 try dsimp only
 exact dV hf.defers (dW.via qX ⟨q,rfl,U4,tM,uE⟩))
 . (
 have HP4:=H9 S4;clear S4
 refine Ze fun _ l6=>rg ?_
 have bB:=hf.B3 25 26 27
 refine Zy ?_
 refine Zc (T5 W7 g s q1 hr7 hk6.2.1 F7 0 18446744073709551615) ?_;rintro e w8 z8
 rw [HP4.out] at z8
 obtain ⟨rfl,hr8,dZ⟩:=z8
 have hA8:=dZ.heap hA7 (by intro e;have e:A=g:=e;omega)
 have yC:=dZ.heap hx7 (by intro e;have e:w.heap.size=g:=e;omega)
 have v5j:=y7 z3l dZ (fun k hk e=>by have e:k=g:=e;have:=(World.ownsRow.lt z3l k hk).1;omega)
 have y6t:n4 (fun k=>k=g\/w.heap.size<=k) w w8:=qX.trans (dZ.mono (fun k _ h=> .inl h))
 clear dZ hA7 hx7 z3l qX hr7
 have y1:w8.cell? ⟨A,1,none⟩=some (.int .u64 0):=by rw [cell_of_row _ _ 1 _ _ (0,0) hA8];rfl
 have fz:=j3 (i:=1) hA8
 refine Zv ?_
 iterate 2 refine Zy ?_
 refine Fc.nil (J3 0 1 4 6 19 20 hf ?_)
 clear hf s0 s1 s4 s6 J6 M6 bB;intro a7 hf sS
 generalize kQ:w8.setCell ⟨A,1,none⟩ (.int .u64 oo)=W9
 have hA9:=j5 (i:=1) hA8 (.int .u64 oo)
 have hr9:RD (w8.setCell ⟨A,1,none⟩ (.int .u64 oo)) g s _:=(n4.setCell (S:=fun k=>k=A) (w:=w8) (p:=⟨A,1,none⟩) rfl (.int .u64 oo)).heap hr8 (by intro e;have e:g=A:=e;omega)
 have hx9:=(n4.setCell (S:=fun k=>k=A) (w:=w8) (p:=⟨A,1,none⟩) rfl (.int .u64 oo)).heap yC (by intro e;have e:w.heap.size=A:=e;omega)
 have x3v:=y7 v5j (n4.setCell (S:=fun k=>k=A) (w:=w8) (p:=⟨A,1,none⟩) rfl (.int .u64 oo)) (fun k hk e=>by have e:k=A:=e;have:=hvA k hk;omega)
 have z8c:n4 (fun k=>k=g\/w.heap.size<=k) w (w8.setCell ⟨A,1,none⟩ (.int .u64 oo)):=y6t.trans (n4.setCell (.inr (Nat.le_of_lt hBA)) _)
 rw [kQ] at hA9 hr9 hx9 x3v z8c
 clear kQ hA8 hr8 yC v5j y6t
 simp only [List.setIfInBounds_toArray,List.set_cons_zero,List.set_cons_succ] at hA9
 clear y1 fz
 have hk8:=F5 HP4.out
 refine Zx l6 ?_
 rcases S4:cE s 1 i q2 with bz | ⟨dd,q3⟩
 . (
 have jU:=H9 S4;clear S4
 have he:r= .error bz:=by rw [x3x.out,HPA.out,HU.out];simp only [pArcs,HP3.out,HP4.out,jU.out];rfl
 subst he
 refine Ze fun _ l6=>rg ?_
 have bB:=hf.B7 28 29 30 31 32 33 34
 iterate 3 refine Zy ?_
 refine fp fun K Z=> ?_
 go_simp
 go_at_call 59;refine (T5 W9 g s q2 hr9 hk8.2.1 F7 1 i).mono ?_;rintro e wz z8
 rw [jU.out] at z8
 obtain ⟨q,rfl,U4,tM,uE⟩:=z8
 try dsimp only
 try dsimp only
 exact dV hf.defers (dW.via z8c ⟨q,rfl,U4,tM,uE⟩))
 . (
 have HP5:=H9 S4;clear S4
 have hkd:=F5 HP5.out
 obtain ⟨t,ht⟩:∃ x,i-dd=x:=⟨_,rfl⟩
 have htb:t<=1000000000:=oM
 have hti:(i:Int)-(dd:Nat)=((t:Nat):Int):=by have:=hkd.2.2.2;omega
 have HTI:=H9 hti;have HT:=H9 ht;clear hti ht
 refine Ze fun _ l6=>rg ?_
 have bB:=hf.B7 28 29 30 31 32 33 34
 iterate 3 refine Zy ?_
 refine Zc (T5 W9 g s q2 hr9 hk8.2.1 F7 1 i) ?_;rintro e w10 z8
 rw [HP5.out] at z8
 obtain ⟨rfl,y6s,bX⟩:=z8
 have x3u:=bX.heap hA9 (by intro e;have e:A=g:=e;omega)
 have y1j:=bX.heap hx9 (by intro e;have e:w.heap.size=g:=e;omega)
 have w8y:=y7 x3v bX (fun k hk e=>by have e:k=g:=e;have:=(World.ownsRow.lt x3v k hk).1;omega)
 have y9l:n4 (fun k=>k=g\/w.heap.size<=k) w w10:=z8c.trans (bX.mono (fun k _ h=> .inl h))
 clear bX hA9 hx9 x3v z8c hr9
 have y2:w10.cell? ⟨A,2,none⟩=some (.int .i64 0):=by rw [cell_of_row _ _ 2 _ _ (0,0) x3u];rfl
 have fz:=j3 (i:=2) x3u
 refine Zv ?_
 refine fp fun K Z=> ?_
 go_simp
 try simp (disch:=omega) only [Fc.W]
 try rw [HTI.out]
 try rw [Fc.wrap_u64 oM oM]
 apply Z.out;clear Z K
 refine fp fun K Z=> ?_
 go_simp
 try rw [HTI.out]
 try rw [Fc.wrap_i64 oM oM]
 apply Z.out;clear Z K
 iterate 2 refine Zy ?_
 refine Fc.nil (J3 0 1 4 6 19 20 hf ?_)
 clear hf sS bB;intro a7 hf sS
 generalize y6r:w10.setCell ⟨A,2,none⟩ (.int .i64 t)=W11
 have z8b:=j5 (i:=2) x3u (.int .i64 t)
 have y7g:RD (w10.setCell ⟨A,2,none⟩ (.int .i64 t)) g s _:=(n4.setCell (S:=fun k=>k=A) (w:=w10) (p:=⟨A,2,none⟩) rfl (.int .i64 t)).heap y6s (by intro e;have e:g=A:=e;omega)
 have yF:=(n4.setCell (S:=fun k=>k=A) (w:=w10) (p:=⟨A,2,none⟩) rfl (.int .i64 t)).heap y1j (by intro e;have e:w.heap.size=A:=e;omega)
 have w8x:=y7 w8y (n4.setCell (S:=fun k=>k=A) (w:=w10) (p:=⟨A,2,none⟩) rfl (.int .i64 t)) (fun k hk e=>by have e:k=A:=e;have:=hvA k hk;omega)
 have w8w:n4 (fun k=>k=g\/w.heap.size<=k) w (w10.setCell ⟨A,2,none⟩ (.int .i64 t)):=y9l.trans (n4.setCell (.inr (Nat.le_of_lt hBA)) _)
 rw [y6r] at z8b y7g yF w8x w8w
 clear y6r x3u y6s y1j w8y y9l
 simp only [List.setIfInBounds_toArray,List.set_cons_zero,List.set_cons_succ] at z8b
 clear y2 fz
 have a0:W11.cell? ⟨A,0,none⟩=some (.int .u8 c):=by rw [cell_of_row _ _ 0 _ _ (0,0) z8b];rfl
 have a1:W11.cell? ⟨A,1,none⟩=some (.int .u64 oo):=by rw [cell_of_row _ _ 1 _ _ (0,0) z8b];rfl
 have a2:W11.cell? ⟨A,2,none⟩=some (.int .i64 t):=by rw [cell_of_row _ _ 2 _ _ (0,0) z8b];rfl
 have af0:=j3 (i:=0) z8b
 have af1:=j3 (i:=1) z8b
 have af2:=j3 (i:=2) z8b
 have e0:W11.cell? ⟨w.heap.size,0,none⟩=some av:=by rw [cell_of_row _ _ 0 _ _ (0,0) yF];rfl
 refine Zx l6 (rg ?_)
 have bB:=hf.B6 35 36 37 38 39 40
 iterate 3 refine Zy ?_
 refine fp fun K Z=> ?_
 go_simp
 generalize y7x:W11.alloc (.cells #[.int .u8 c,.int .u64 oo,.int .i64 t] 71)=W12
 have y1i:∀ (j:Nat) (u:Value),([.int .u8 c,.int .u64 oo,.int .i64 t]:List Value)[j]? =some u->W12.cell? ⟨W11.heap.size,j,none⟩=some u:=by rw [<- y7x];exact E7 W11 _ _
 have aF:Below W11.heap.size W11 W12:=by rw [<- y7x];exact (Below.refl _ _).alloc nR _
 clear y7x
 have w4u:=y7g.later aF
 have z8a:=(aF.block _ (j4 yF)).trans yF
 have y1h:=l5 w8x aF
 have z7z:n4 (fun k=>k=g\/w.heap.size<=k) w W12:=w8w.trans (n4.of _ aF)
 apply Z.out;clear Z K
 obtain ⟨s0,s1,s4,s6,J6,M6⟩:=sS
 clear bB
 refine Fc.lQ (n:=43) (by simp only [Fc.G,hf.size]) hf.defers (fun a7 u3 hT=> ?_)
 have G9:=Fc.h7 hT 0 1 4 19 20 36 38
 simp (decide:=true) only [Fc.G,hf.size,reduceIte,s0,s1,s4,J6,M6] at G9
 replace hf:=u3;clear hT u3 s0 s1 s4 s6 J6 M6
 obtain ⟨s0,s1,s4,J6,M6,vX,s38⟩:=G9
 have bB:=hf.B2 39 40
 refine ⟨?_⟩
 refine wpList_plain rfl fun KL tY=> ?_
 refine J7 _ _ 44 rfl 71 _ 3 24 Tryz.underlying44 y1q rfl dC dC w.heap.size av acc.length (nG acc) (Fc.k7 vX) y1h W11.heap.size [.int .u8 c,.int .u64 oo,.int .i64 t] (Fc.k7 s38) rfl y1i (by intro u hu;simp at hu;rcases hu with rfl | rfl | rfl<;>rfl) oM z7z.size (fun v13 w13 v5i w4t v5h=>tY _ _ ?_)
 refine Fc.L.out ?_
 refine Zy ?_
 have w4s:=(w4t.block w.heap.size (j4 z8a) (fun e=>aE e.symm)).trans z8a
 have u3i:RD w13 g s q3:=(w4t.block g (j4 w4u) (fun e=>by have:=(World.ownsRow.lt y1h _ e.symm).1;omega)).trans w4u
 have v5g:n4 (fun k=>k=g\/w.heap.size<=k) w w13:=z7z.trans (n4.grown w4t (fun k hk=> .inr (World.ownsRow.lt y1h k hk).1))
 have v5f:v13.ownBlock≠some w.heap.size:=by rcases v5h with h | h;(rw [h];exact aE);(rw [h];intro e;injection e with e;have:=j4 z8a;omega)
 have lS:OA w13 w.heap.size v13 (acc++[⟨c,oo,((t:Nat):Int)⟩]):=by unfold OA;rw [List.length_append,cY];exact v5i
 obtain ⟨A9,c9,pQ,_⟩:=A1 v5i
 subst pQ
 have e1:w13.cell? ⟨w.heap.size,0,none⟩=some av:=by rw [cell_of_row _ _ 0 _ _ (0,0) w4s];rfl
 have fz:=j3 (i:=0) w4s
 refine Zy ?_
 refine Fc.nil (D0 0 1 4 19 20 hf ?_)
 clear hf s0 s1 s4 J6 M6 vX s38 bB;intro a7 hf sS
 have w8u:=y7 lS (n4.setCell (S:=fun k=>k=w.heap.size) (w:=w13) (p:=⟨w.heap.size,0,none⟩) rfl (.slice A9 (acc.length+1) c9)) (fun k hk e=>v5f (by rw [hk,e]))
 generalize w4r:w13.setCell ⟨w.heap.size,0,none⟩ (.slice A9 (acc.length+1) c9)=W14
 have z3k:=j5 (i:=0) w4s (.slice A9 (acc.length+1) c9)
 have v5e:RD (w13.setCell ⟨w.heap.size,0,none⟩ (.slice A9 (acc.length+1) c9)) g s _:=(n4.setCell (S:=fun k=>k=w.heap.size) (p:=⟨w.heap.size,0,none⟩) rfl _).heap u3i (by intro e;have e:g=w.heap.size:=e;omega)
 have w8t:n4 (fun k=>k=g\/w.heap.size<=k) w (w13.setCell ⟨w.heap.size,0,none⟩ (.slice A9 (acc.length+1) c9)):=v5g.trans (n4.setCell (.inr nR) _)
 rw [w4r] at z3k v5e w8t
 try rw [w4r] at w8u
 clear w4r
 simp only [List.setIfInBounds_toArray,List.set_cons_zero,List.set_cons_succ] at z3k
 skip
 have y1g:pArcs s i m p2 []=pArcs s i (m-(k+1)) q3 (acc++[⟨c,oo,((t:Nat):Int)⟩]):=by rw [HPA.out,HU.out,show m-(k+1)=u by have:=HU.out;omega];simp only [pArcs,HP3.out,HP4.out,HP5.out,HT.out]
 refine Fc.j7 (Zx j8 (Zr [41] hf ?_))
 refine D0 0 1 4 19 20 hf ?_
 clear hf sS;intro a7 hf sS
 refine Fc.j6 ?_
 obtain ⟨s0,s1,s4,J6,M6⟩:=sS
 exact ⟨_,by have:=HK.out;omega,k+1,q3,_,_,rfl,oM,hf,s0,s1,s4,J6,by rw [M6];rfl,y1g,v5e,hkd.2.1,z3k,w8u,v5f,by simp [HAL.out],w8t⟩))))
 . (
 have oR:m-k=0:=qF
 have he:r= .ok ({ a6:=acc,final:=decide (n%2=1),out:=o },pk):=by rw [x3x.out,HPA.out,oR];rfl
 subst he
 clear hq oR
 obtain ⟨Aa,ca,hva,_⟩:=A1 Y8
 subst hva
 have e0:wr.cell? ⟨w.heap.size,0,none⟩=some (.slice Aa acc.length ca):=by rw [cell_of_row _ _ 0 _ _ (0,0) vW];rfl
 have e1:wr.cell? ⟨w.heap.size,1,none⟩=some (.bool (decide (n%2=1))):=by rw [cell_of_row _ _ 1 _ _ (0,0) vW];rfl
 have e2:wr.cell? ⟨w.heap.size,2,none⟩=some (.int .u64 o):=by rw [cell_of_row _ _ 2 _ _ (0,0) vW];rfl
 have ef0:=j3 (i:=0) vW
 have ef1:=j3 (i:=1) vW
 have ef2:=j3 (i:=2) vW
 refine Zo ?_
 refine Zs b7 fun _ b7=>Zr [42] hf ?_
 refine r6 4 hf ?_
 clear hf sS;intro a7 hf s4
 refine Zx b7 (k8 ?_)
 have D4:n4 (fun k=>k=w.heap.size) wr _:=((n4.setCell (S:=fun k=>k=w.heap.size) (w:=wr) (p:=⟨w.heap.size,0,none⟩) rfl (.slice Aa acc.length ca)).trans (n4.setCell (S:=fun k=>k=w.heap.size) (p:=⟨w.heap.size,1,none⟩) rfl (.bool (decide (n%2=1))))).trans (n4.setCell (S:=fun k=>k=w.heap.size) (p:=⟨w.heap.size,2,none⟩) rfl (.int .u64 o))
 exact N9 rfl hf s4 (j5 (j5 (j5 vW _) _) _) Tryz.underlying46 rfl kR ⟨_,sP,D4.heap U5 (by intro e;have e:g=w.heap.size:=e;omega),y7 Y8 D4 (fun k hk e=>aE (by rw [hk,e])),(o5.trans (D4.mono (fun k _ h=> .inr oM))).mono (fun k hk h=>h.elim id (fun h=>oM))⟩))))
def lN (l:List (Value×State)):List Value:=l.flatMap fun x=>[x.1,.bool x.2.final,.int .u64 x.2.out]
theorem dF (l:List (Value×State)):(lN l).length=l.length*3:=by
 induction l with
 | nil=>rfl
 | cons e l ih=>simp only [lN,List.flatMap_cons,List.length_append,List.length_cons] at ih |-;rw [ih];simp;omega
theorem oT (l:List (Value×State)) (i j:Nat) (hi:i<l.length) (hj:j<3):(lN l)[i*3+j]? =([(l[i]).1,.bool (l[i]).2.final,.int .u64 (l[i]).2.out]:List Value)[j]? :=by
 induction l generalizing i with
 | nil=>simp at hi
 | cons e l ih =>
  simp only [lN,List.flatMap_cons]
  cases i with
  | zero=>rw [List.getElem?_append_left sO];simp
  | succ i =>
   rw [List.getElem?_append_right sO]
   have:=ih i (by simpa using hi)
   simp only [lN] at this
   simp only [List.getElem_cons_succ]
   rw [<- this];congr 1;simp;omega
theorem pM (a b:List (Value×State)):lN (a++b)=lN a++lN b:=by simp [lN]
structure SR (w:World) (base:Nat) (B:Nat->Prop) (v:Value) (l:List (Value×State)):Prop where
 row:w.ownsRow base 46 3 v l.length (lN l)
 a6:∀ x∈l,RA w B x.1 x.2.a6
section
variable {w w':World} {base:Nat} {B S:Nat->Prop} {v:Value} {l:List (Value×State)}
theorem SR.but (h:SR w base B v l) (hb:n4 S w w') (hv:∀ k,v.ownBlock=some k->¬ S k) (hB:∀ k,B k->¬ S k):SR w' base B v l:=⟨y7 h.row hb hv,fun x hx=>(h.a6 x hx).but hb hB⟩
theorem SR.later (h:SR w base B v l) (hb:Below w.heap.size w w'):SR w' base B v l:=h.but (n4.of (fun _=>False) hb) (fun _ _ h=>h) (fun _ _ h=>h)
theorem SR.form (h:SR w base B v l):∃ (A:Option Addr) (c:Nat),v= .slice A l.length c/\l.length<=c:=by
 obtain ⟨A,c,h1,h2⟩:=A1 h.row
 exact ⟨A,c,h1,h2⟩
theorem SR.cells (h:SR w base B v l) {i:Nat} {x:Value×State} (hi:l[i]? =some x):∃ g c,v= .slice (some ⟨g,0,none⟩) l.length c/\base<=g/\SAt w B g (i*3) x.1 x.2:=by
 have n8:=(E2 hi).1
 have hx:=(E2 hi).2
 have h1:=h.row
 rcases h1.2 with ⟨_,h0⟩ | ⟨b,cap,cur,rfl,hb,hh,hc,_⟩
 ·omega
 ·have k:∀ j,j<3->w.cell? ⟨b,i*3+j,none⟩=([x.1,.bool x.2.final,.int .u64 x.2.out]:List Value)[j]? :=fun j hj=>by
   rw [h1.cellAt (i*3+j) oM,oT l i j n8 hj,hx]
  exact ⟨b,cap,rfl,hb,⟨k 0 oM,k 1 oM,k 2 oM,h.a6 x (U0 hi)⟩⟩
theorem SR.rs (h:SR w base B v l):RS w v (l.map Prod.snd):=by
 obtain ⟨A,c,h1,h2⟩:=h.form
 refine ⟨A,c,by rw [List.length_map];exact h1,by rw [List.length_map];exact h2,fun h0=> ?_⟩
 rw [List.length_map] at h0
 obtain ⟨x0,oN⟩:∃ x,l[0]? =some x:=⟨_,D9 h0⟩
 obtain ⟨g,c2,h3,_,_⟩:=h.cells oN
 rw [h1] at h3
 injection h3 with h3
 refine ⟨g,0,h3,fun i s hi=> ?_⟩
 rw [List.getElem?_map] at hi
 obtain ⟨x,hx,rfl⟩:=Option.map_eq_some_iff.1 hi
 obtain ⟨g',c',h4,_,h5⟩:=h.cells hx
 rw [h1] at h4
 injection h4 with h4
 rw [h3] at h4
 injection h4 with h4
 injection h4 with h4
 subst h4
 rw [Nat.zero_add]
 exact ⟨x.1,⟨h5.c0,h5.c1,h5.c2,h5.a6.more (fun _ _ _=>trivial)⟩⟩
end
theorem SR.S0 (w:World) (base:Nat) (B:Nat->Prop):SR w base B (.slice none 0 0) []:=⟨World.ownsRow_nil _ _ _ _,fun x hx=>by cases hx⟩
theorem oU {s:ByteArray} {k i x j:Nat} (hi:i<=s.size) (h:z3n s k i= .ok (x,j)):j=i+1/\j<=s.size/\(wl s)[i]? =some (bN k):=by
 unfold z3n eT N1 at h
 by_cases h2:i=s.size
 ·rw [if_pos h2] at h;simp at h
 ·rw [if_neg h2] at h
  simp only [ne_eq,not_true_eq_false,if_false] at h
  split at h
  ·cases h
  ·rename_i h3
   injection h with h
   injection h with h4 h5
   unfold vV at h3
   have h6:at_ s i=bN k:=by
    by_cases h7:at_ s i=bN k
    ·exact h7
    ·rw [if_neg h7] at h3;simp at h3
   exact ⟨h5.symm,oM,by rw [<- h6];exact dQ oM⟩
theorem z7y {s:ByteArray} {i:Nat} (tG:i<=1000000000):∀ {k p:Nat} {acc l:List r7} {j:Nat},p<=s.size->pArcs s i k p acc= .ok (l,j)->p<=j/\j<=s.size/\l.length=acc.length+k/\((∀ a∈acc,uZ a/\0<=a.to/\a.to<(i:Int))->∀ a∈l,uZ a/\0<=a.to/\a.to<(i:Int))
 | 0,p,acc,l,j,hp,h=>by
  simp only [pArcs] at h
  injection h with h
  injection h with h1 h2
  subst h1;subst h2
  exact ⟨nR,hp,rfl,id⟩
 | k+1,p,acc,l,j,hp,h=>by
  simp only [pArcs] at h
  split at h
  ·cases h
  ·rename_i c p1 hc
   have k1:=jT hp hc
   split at h
   ·cases h
   ·rename_i o p2 ho
    have k2:=F5 ho
    split at h
    ·cases h
    ·rename_i d p3 hd
     have k3:=F5 hd
     have ih:=z7y tG k3.2.1 h
     refine ⟨oM,ih.2.1,by rw [ih.2.2.1,List.length_append];simp;omega,fun ha=>ih.2.2.2 fun a hm=> ?_⟩
     rcases List.mem_append.1 hm with hm | hm
     ·exact ha a hm
     ·simp at hm
      subst hm
      have k4:=k2.2.2.1
      unfold y5 at k4
      refine ⟨⟨k1.2.2.1,k4,?_,?_⟩,?_,?_⟩<;>simp<;>omega
theorem vY {s:ByteArray} {i p j:Nat} {st:State} (tG:i<=1000000000) (h:T4 s i p= .ok (st,j)):p<j/\j<=s.size/\J8 st/\st.a6.length<=256/\(∀ a∈st.a6,0<=a.to/\a.to<(i:Int))/\(st.final=false->st.out=0):=by
 unfold T4 at h
 split at h
 ·cases h
 ·rename_i n p1 hn
  have k1:=F5 hn
  split at h
  ·cases h
  ·rename_i o p2 ho
   have k2:p1<=p2/\p2<=s.size/\o<y5/\(n%2≠1->o=0):=by
    unfold nX at ho
    split at ho
    ·rename_i h1
     have:=F5 ho
     exact ⟨oM,this.2.1,this.2.2.1,fun h=>absurd h1 h⟩
    ·injection ho with ho
     injection ho with h1 h2
     subst h1;subst h2
     exact ⟨nR,k1.2.1,by unfold y5;omega,fun _=>rfl⟩
   cases hl:pArcs s i (n / 2) p2 [] with
   | error b=>rw [hl] at h;cases h
   | ok x =>
    obtain ⟨l,p3⟩:=x
    rw [hl] at h
    simp only [pMk] at h
    injection h with h
    injection h with h1 h2
    subst h1;subst h2
    have k3:=z7y tG k2.2.1 hl
    have k4:=k3.2.2.2 sP
    have k5:=k2.2.2.1
    have k6:=k3.2.2.1
    simp at k6
    unfold y5 at k5
    exact ⟨oM,k3.2.1,⟨k5,sO,fun a ha=>(k4 a ha).1⟩,sO,fun a ha=>(k4 a ha).2,fun hf=>k2.2.2.2 (by simpa using hf)⟩
theorem RA.take {w:World} {B:Nat->Prop} {A:Option Addr} {n c:Nat} {l:List r7} (h:RA w B (.slice A n c) l) (m:Nat) (hm:m<=n):RA w B (.slice A m c) (l.take m):=by
 obtain ⟨A',c',h1,h2,h3⟩:=h
 injection h1 with h1 h4 h5
 subst h1;subst h5
 refine ⟨A,c,by rw [List.length_take,Nat.min_eq_left oM],by rw [List.length_take];omega,fun h0=> ?_⟩
 rw [List.length_take] at h0
 obtain ⟨b,off,h6,h7,h8⟩:=h3 oM
 refine ⟨b,off,h6,h7,fun j u hu=>h8 j u ?_⟩
 have hs:nG l=nG (l.take m)++nG (l.drop m):=by rw [<- cY,List.take_append_drop]
 rw [hs,List.getElem?_append_left (E2 hu).1]
 exact hu
end Dw
end Go.Proofs.YtcddnmhmcieebaaGreatDoor
