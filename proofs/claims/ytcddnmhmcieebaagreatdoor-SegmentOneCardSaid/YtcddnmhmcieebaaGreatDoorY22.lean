/- fst: found of sums. -/
import Derived.Test.YtcddnmhmcieebaaGreatDoorY21
import Derived.Test.YtcddnmhmcieebaaGreatDoorTools
namespace Go.Proofs.YtcddnmhmcieebaaGreatDoor
set_option maxHeartbeats 4000000
set_option maxRecDepth 100000
open Go.RowKit
set_option linter.unusedSimpArgs false
set_option linter.unusedVariables false
set_option linter.unnecessarySimpa false
namespace Dw
def dL (n:Nat):Array Value:=madeCells #[.int .u64 0,.bool false,.bool false] (n*3)
theorem z2i (w:World) (n:Nat) (hn:n<=5000000):(Instr.makeSlice 234 (.int .i64 n) (.int .i64 n)).run Tryz.prog w= .ok (.slice (some ⟨w.heap.size,0,none⟩) n n) (w.alloc (.cells (dL n) 192)):=by
 obtain ⟨i,hi,h2⟩:=Option.map_eq_some_iff.1 (show (Tryz.prog.info? 192).map (fun i=>(i.zero,i.size,i.bytes))=some (some (.agg #[.int .u64 0,.bool false,.bool false]),3,24) by kernel_rfl)
 obtain ⟨h3,h4,h5⟩:=(by simpa only [Prod.mk.injEq] using h2:_/\_/\_)
 have h:=run_makeSlice (P:=Tryz.prog) w 234 192 i _ Tryz.underlying234 hi h3 .i64 .i64 n n oM (Int.le_refl _) (by rw [h4];omega) (by rw [h5];omega) oM
 have e:(Value.agg #[.int .u64 0,.bool false,.bool false]).cells= #[.int .u64 0,.bool false,.bool false]:=rfl
 rw [h4,e,Int.toNat_natCast] at h
 exact h
theorem x2m {w W:World} {a b z c d:Array Value} {t u y v x:TypeId} (h:((((w.alloc (.cells a t)).alloc (.cells b u)).alloc (.cells z y)).alloc (.cells c v)).alloc (.cells d x)=W):Below w.heap.size w W/\W.heap[w.heap.size]? =some (.cells a t (0,0))/\W.heap[w.heap.size+1]? =some (.cells b u (0,0))/\W.heap[w.heap.size+1+1]? =some (.cells z y (0,0))/\W.heap[w.heap.size+1+1+1]? =some (.cells c v (0,0))/\W.heap[w.heap.size+1+1+1+1]? =some (.cells d x (0,0))/\W.heap.size=w.heap.size+1+1+1+2:=by
 obtain ⟨X,hX⟩:∃ y,w.alloc (.cells a t)=y:=⟨_,rfl⟩
 rw [hX] at h
 obtain ⟨h1,h2,h3,h4,h5,h6⟩:=y8y h
 have hs:X.heap.size=w.heap.size+1:=by rw [<- hX];simp
 rw [hs] at h1 h2 h3 h4 h5 h6
 have h0:Below w.heap.size w X:=by rw [<- hX];exact (Below.refl _ _).alloc nR _
 refine ⟨h0.trans (h1.mono oM),(h1.block _ oM).trans (by rw [<- hX,u6,if_pos rfl]),h2,h3,h4,h5,h6⟩
def RM (w:World) (G:Nat) (l:List y9):Prop:=∃ cur,w.heap[G]? =some (.cells cur 192 (0,0))/\∀ (j:Nat) (m:y9),l[j]? =some m->cur[j*3]? =some (.int .u64 m.n)/\cur[j*3+1]? =some (.bool m.fits)/\cur[j*3+2]? =some (.bool m.any)
theorem RM.start {w:World} {G n:Nat} {o:State->y9} {wi:y9->y9->Nat->y9} {ss:List State} (h:w.heap[G]? =some (.cells (dL n) 192 (0,0))):RM w G (bT (⟨0,false,false⟩:y9) n (o8 (⟨0,false,false⟩:y9) o wi (ss.take 0))):=by
 refine ⟨_,h,fun j m hm=> ?_⟩
 simp [bT,o8,List.getElem?_replicate] at hm
 obtain ⟨hj,rfl⟩:=hm
 have m0:j*3%3=0:=oM
 have m1:(j*3+1)%3=1:=oM
 have m2:(j*3+2)%3=2:=oM
 refine ⟨?_,?_,?_⟩
 ·rw [Array.getElem?_eq_getElem (by unfold dL;rw [size_madeCells];omega)];simp [dL,madeCells,m0]
 ·rw [Array.getElem?_eq_getElem (by unfold dL;rw [size_madeCells];omega)];simp [dL,madeCells,m1]
 ·rw [Array.getElem?_eq_getElem (by unfold dL;rw [size_madeCells];omega)];simp [dL,madeCells,m2]
theorem RM.cell {w:World} {G j:Nat} {x:y9} {l:List y9} (h:RM w G l) (hx:l[j]? =some x):w.cell? ⟨G,j*3,none⟩=some (.int .u64 x.n)/\w.cell? ⟨G,j*3+1,none⟩=some (.bool x.fits)/\w.cell? ⟨G,j*3+2,none⟩=some (.bool x.any):=by
 obtain ⟨cur,hg,hc⟩:=h
 obtain ⟨h0,h1,h2⟩:=hc j x hx
 exact ⟨(cell_of_row _ _ _ _ 192 (0,0) hg).trans h0,(cell_of_row _ _ _ _ 192 (0,0) hg).trans h1,(cell_of_row _ _ _ _ 192 (0,0) hg).trans h2⟩
theorem RM.frozen {w:World} {G j:Nat} {l:List y9} (h:RM w G l):w.frozen? ⟨G,j,none⟩=false:=by
 obtain ⟨cur,hg,hc⟩:=h
 exact j3 (i:=j) hg
theorem RM.lt {w:World} {G:Nat} {l:List y9} (h:RM w G l):G<w.heap.size:=by obtain ⟨cur,hg,hc⟩:=h;exact j4 hg
theorem RM.later {w w':World} {G:Nat} {l:List y9} (h:RM w G l) (hb:Below w.heap.size w w'):RM w' G l:=by obtain ⟨cur,hg,hc⟩:=h;exact ⟨cur,(hb.block _ (j4 hg)).trans hg,hc⟩
theorem RM.stays {G B:Nat} {l:List y9} (hG:G<B):j9 (Z2 fun _=>False) B (fun W=>RM W G l):=j9.ex fun _=>j9.and (j9.block (.inl hG)) (j9.pure _ _ _)
theorem RM.set {w W:World} {G i:Nat} {l:List y9} {x:y9} (h:RM w G l) (hW:((w.setCell ⟨G,i*3,none⟩ (.int .u64 x.n)).setCell ⟨G,i*3+1,none⟩ (.bool x.fits)).setCell ⟨G,i*3+2,none⟩ (.bool x.any)=W):RM W G (l.set i x):=by
 subst hW
 obtain ⟨cur,hg,hc⟩:=h
 refine ⟨_,j5 (j5 (j5 hg _) _) _,fun j m hm=> ?_⟩
 rcases Nat.decEq i j with E6 | rfl
 ·rw [List.getElem?_set_ne E6] at hm
  obtain ⟨h0,h1,h2⟩:=hc j m hm
  simp only [Array.getElem?_setIfInBounds]
  refine ⟨?_,?_,?_⟩
  ·rw [if_neg (by omega),if_neg (by omega),if_neg (by omega)];exact h0
  ·rw [if_neg (by omega),if_neg (by omega),if_neg (by omega)];exact h1
  ·rw [if_neg (by omega),if_neg (by omega),if_neg (by omega)];exact h2
 ·have n8:i<l.length:=by have:=(E2 hm).1;simpa using this
  rw [List.getElem?_set_self n8] at hm
  cases hm
  obtain ⟨h0,h1,h2⟩:=hc i _ (D9 n8)
  have hz:=(Array.getElem?_eq_some_iff.1 h2).1
  simp only [Array.getElem?_setIfInBounds,Array.size_setIfInBounds]
  refine ⟨?_,?_,?_⟩
  ·rw [if_neg (by omega),if_neg (by omega),if_pos True.intro,if_pos (by omega)]
  ·rw [if_neg (by omega),if_pos True.intro,if_pos (by omega)]
  ·rw [if_pos True.intro,if_pos (by omega)]
theorem w3b {w W:World} {G i:Nat} {a b c:Value} (h:((w.setCell ⟨G,i*3,none⟩ a).setCell ⟨G,i*3+1,none⟩ b).setCell ⟨G,i*3+2,none⟩ c=W):CK G w W/\KeepsOthers w W/\(∀ B,B<=G->Below B w W)/\W.heap.size=w.heap.size/\∀ k,k≠G->W.heap[k]? =w.heap[k]? :=by
 obtain ⟨a1,a2,a3,a4,a5⟩:=x9r (w:=w) (G:=G) (i:=i*3) (v:=a) rfl
 obtain ⟨b1,b2,b3,b4,b5⟩:=x9r (w:=w.setCell ⟨G,i*3,none⟩ a) (G:=G) (i:=i*3+1) (v:=b) rfl
 obtain ⟨c1,c2,c3,c4,c5⟩:=x9r h
 exact ⟨a1.trans (b1.trans c1),a2.trans (b2.trans c2),fun B hB=>(a3 B hB).trans ((b3 B hB).trans (c3 B hB)),c4.trans (b4.trans a4),fun k hk=>(c5 k hk).trans ((b5 k hk).trans (a5 k hk))⟩
theorem w3a {w W:World} {g n n2:Nat} {b c b2 c2:Bool} (hg:w.heap[g]? =some (.cells #[.int .u64 n2,.bool b2,.bool c2] 192 (0,0))) (h:((w.setCell ⟨g,0,none⟩ (.int .u64 n)).setCell ⟨g,1,none⟩ (.bool b)).setCell ⟨g,2,none⟩ (.bool c)=W) :
  W.heap[g]? =some (.cells #[.int .u64 n,.bool b,.bool c] 192 (0,0))/\(∀ B,B<=g->Below B w W)/\∀ k,k≠g->W.heap[k]? =w.heap[k]? :=by
 obtain ⟨-, -,a3, -,a5⟩:=w3b (i:=0) h
 subst h
 exact ⟨(j5 (j5 (j5 hg _) _) _).trans sP,a3,a5⟩
theorem x9l {g1 g2:Nat} (o:State->y9) (wi:y9->y9->Nat->y9) (w:World) (sv:Value) (init:Nat) (ss:List State) (o7:RS w sv ss) (hlen:ss.length<=1000000) (Ok:Nat->y9->Prop) (eg1:∀ args w,(callFunc g1 args).run Tryz.prog w= .ok (.enter g1 args) w) (eg2:∀ args w,(callFunc g2 args).run Tryz.prog w= .ok (.enter g2 args) w)
    (ho:∀ i st,ss[i]? =some st->Ok i (o st)) (hw:∀ i j x c u,Ok i x->j<i->Ok j c->u<18446744073709551616->Ok i (wi x c u)) (a8:∀ s∈ss,J8 s) (D5:∀ (k:Nat) (st:State),ss[k]? =some st->okArcs k (-1) st.a6=true)
    (F4:∀ (W:World) (av:Value) (i:Nat) (st:State),ss[i]? =some st->(∃ A n c,av= .slice A n c)->Calls Tryz.prog g1 #[.agg #[av,.bool st.final,.int .u64 st.out]] W fun e W'=>e= .returned ((o st).val)/\Below W.heap.size W W')
    (x9q:∀ (W:World) (i j:Nat) (x c:y9) (u:Nat),Ok i x->j<i->Ok j c->u<18446744073709551616->Calls Tryz.prog g2 #[(x).val,(c).val,.int .u64 u] W fun e W'=>e= .returned ((wi x c u).val)/\Below W.heap.size W W'):G4 w 110 #[.agg #[sv,.int .u64 init],.func (.func g1) #[] #[],.func (.func g2) #[] #[]] (((o8 (⟨0,false,false⟩:y9) o wi ss).getLastD (⟨0,false,false⟩:y9)).val):=by
 refine yQ Tryz.func110 rfl ?_
 refine Fc.en 62 fun fr hf hT=> ?_
 have s0:=hT 0 _ rfl
 have s1:=hT 1 _ rfl
 have s2:=hT 2 _ rfl
 clear hT
 obtain ⟨A,cc,rfl,Z3⟩:=o7.form
 have hmk:=fun w=>z2i w ss.length oM
 refine Ze fun _ b7=>Zr [] hf ?_
 refine C0 1 3 5 6 hf ?_
 clear hf s0 s1 s2;intro a7 hf sS
 refine Zs b7 fun _ b7=>Zr [12,13,14,15,7] hf ?_
 refine D0 1 3 5 6 7 hf ?_
 clear hf sS;intro a7 hf sS
 generalize Z4:((((w.alloc (.cells #[.slice A ss.length cc,.int .u64 init] 38)).alloc (.cells #[.func (.func g2) #[] #[]] 197)).alloc (.cells #[.int .u64 0,.bool false,.bool false] 192)).alloc (.cells (dL ss.length) 192)).alloc (.cells #[.slice (some ⟨w.heap.size+1+1+1,0,none⟩) ss.length ss.length] 234)=W1
 obtain ⟨n7,F1,C5,bF,J2,tR,fK⟩:=x2m Z4
 clear Z4 hmk
 obtain ⟨G,hG⟩:∃ x,w.heap.size+1+1+1=x:=⟨_,rfl⟩
 obtain ⟨s1,s3,s5,s6,s7⟩:=sS
 rw [hG] at J2 tR s7 fK
 have hg0:w.heap.size<G:=oM
 have hg1:w.heap.size+1<G:=oM
 have hg6:w.heap.size+1+1<G:=oM
 have c0:=n5 0 F1;have c1:=n5 1 F1;have d0:=n5 0 C5;have e0:=n5 0 tR
 simp at c0 c1 d0 e0
 have V8:RM W1 G (bT (⟨0,false,false⟩:y9) ss.length (o8 (⟨0,false,false⟩:y9) o wi (ss.take 0))):=RM.start J2
 have N3:=o7.n.below n7
 clear F1 C5 J2 tR o7 hG
 refine Zs b7 fun _ b7=>Ze fun _ j8=>Zr [16,17] hf ?_
 refine nM 1 3 5 6 7 17 18 19 hf ?_
 clear hf s1 s3 s5 s6 s7;intro a7 hf sS
 refine Zx j8 (wp_block (wp_loop_ghost (fun gk fr wr=>∃ (i:Nat) (ds:List Deferred),gk=ss.length-i/\i<=ss.length/\Fc.J4 ds 62 fr/\fr.tmps[1]? =some (.func (.func g1) #[] #[])/\fr.tmps[3]? =some (.pointer (some ⟨w.heap.size,0,none⟩))/\fr.tmps[5]? =some (.pointer (some ⟨(w.heap.size+1),0,none⟩))/\fr.tmps[6]? =some (.pointer (some ⟨(w.heap.size+1+1),0,none⟩))/\fr.tmps[7]? =some (.pointer (some ⟨(G+1),0,none⟩))/\fr.tmps[17]? =some (.slice A ss.length cc)/\fr.tmps[18]? =some (.int .i64 ss.length)/\fr.tmps[19]? =some (.int .i64 i)/\L4 G ds wr.heap.size wr/\CK G W1 wr/\RM wr G (bT (⟨0,false,false⟩:y9) ss.length (o8 (⟨0,false,false⟩:y9) o wi (ss.take i)))/\oJ wr w.heap.size (.slice A ss.length cc) ss/\Below w.heap.size w wr) (ss.length) ?_ ?_))
 . (
 obtain ⟨s1,s3,s5,s6,s7,N7,S2,J6⟩:=sS
 exact ⟨0,[],rfl,Nat.zero_le _,hf,s1,s3,s5,s6,s7,N7,S2,J6,trivial,CK.refl _ _,V8,N3,n7⟩)
 . (
 clear hf sS
 clear V8 N3
 rintro gk fr wr ⟨i,ds,qZ,hi,hf,s1,s3,s5,s6,s7,N7,S2,J6,N5,Y9,V8,N3,hb⟩
 have HK:=H9 qZ;clear qZ
 refine Ze fun _ j8=>Zr [] hf ?_
 refine vE 1 3 5 6 7 17 18 19 20 hf ?_
 clear hf s1 s3 s5 s6 s7 N7 S2 J6;intro a7 hf sS
 refine Zs j8 fun _ j8=>Fc.l0 sS.2.2.2.2.2.2.2.2 (fun hq=> ?_) (fun hq=> ?_)
 . (
 have n8:i<ss.length:=qT
 clear hq
 obtain ⟨st,y8⟩:∃ x,ss[i]? =some x:=⟨_,D9 n8⟩
 obtain ⟨bb,off,av,hA0,hbN,D3⟩:=N3.at_ y8
 subst hA0
 have x0:=D3.c0;have x1:=D3.c1;have x2:=D3.c2
 obtain ⟨A2,c2,aE,hc2⟩:=D3.a6.form
 subst aE
 clear D3
 have F7:=Y9.1
 refine wp_skip (Zs j8 fun _ j8=>wp_block (Ze fun _ l6=>Zr [21,22,23,8,9] hf ?_))
 refine v7a 1 3 5 6 7 8 9 17 18 19 20 21 22 23 hf ?_
 clear hf sS;intro a7 hf sS
 generalize oQ:(wr.alloc (.cells #[.int .i64 i] 3)).alloc (.cells #[.slice A2 st.a6.length c2,.bool st.final,.int .u64 st.out] 46)=W4
 obtain ⟨X6,hp4,P6⟩:=F9 oQ
 clear oQ x0 x1 x2
 have k0:=n5 0 hp4;have y0:=n5 0 P6;have y1:=n5 1 P6;have y2:=n5 2 P6
 simp at k0 y0 y1 y2
 clear hp4 P6
 replace Y9:=Y9.trans (CK.r5 X6)
 replace N5:=N5.below X6.size X6
 replace V8:=V8.later X6
 replace N3:=N3.below (X6.mono hb.size)
 replace hb:=hb.trans (X6.mono hb.size)
 have kY:=Y9.2.1 _ _ sQ e0
 obtain ⟨q8,hq8⟩:∃ x,wr.heap.size=x:=⟨_,rfl⟩
 have w3g:G<q8:=by rw [<- hq8];omega
 obtain ⟨s1,s3,s5,s6,s7,s8,s9,N7,S2,J6,M6,N6,U9,S1⟩:=sS
 rw [hq8] at s8 s9 k0 y0 y1 y2 F7
 refine Zs l6 fun _ l6=>Sb.tb 62 fun a8=> ?_
 have lf:=H9 fun (w9:World) (h9:Below _ _ w9)=>ad (cL h9 kY) (ad (cL h9 k0) (ad (cL h9 y0) (ad (cL h9 y1) (cL h9 y2))))
 refine Sb.T 0 hf a8 ?_ (hF:=fun _ _ h d=>ad (Sb.O h s7) (lf.out _ h.ext))
 refine Sb.T 1 hf a8 ?_ (hF:=fun _ _ h d=>ad (Sb.O h s8) (lf.out _ h.ext))
 refine Sb.mO 2 s1 hf a8 ?_
 refine Sb.T 3 hf a8 ?_ (hF:=fun _ _ h d=>ad (Sb.O h s9) (lf.out _ h.ext))
 apply Sb.tq 4 _ hf a8
 . (
 intro a7 w1 hh hd hk K Z
 have Z1:=Sb.v 2 1 hd hk []
 have V0:=Sb.v 3 0 hd hk []
 clear hd
 have L7:=lf.out _ hh.ext;try clear kY k0 y0 y1 y2;obtain ⟨kY,k0,y0,y1,y2⟩:=L7
 refine fY (g:=g1) (args:= #[.agg #[.slice A2 st.a6.length c2,.bool st.final,.int .u64 st.out]]) (by simp [execOp,go_sem,Z1,V0,eg1]) (F4 _ _ _ _ y8 ⟨_,_,_,rfl⟩) ?_
 rintro e w2 ⟨rfl,hb⟩
 exact ⟨_,rfl,Z.out _ rfl _ _ hb rfl⟩)
 refine Tl.D7 (n:=62) (m:=5) (ws:=[]) kR hf.size a8.out rfl rfl kR (fun a7 w1 hh hg=> ?_)
 replace s1:=Sb.O hh s1
 replace s3:=Sb.O hh s3
 replace s5:=Sb.O hh s5
 replace s6:=Sb.O hh s6
 replace s7:=Sb.O hh s7
 replace s8:=Sb.O hh s8
 replace s9:=Sb.O hh s9
 replace N7:=Sb.O hh N7
 replace S2:=Sb.O hh S2
 replace J6:=Sb.O hh J6
 replace M6:=Sb.O hh M6
 replace N6:=Sb.O hh N6
 replace U9:=Sb.O hh U9
 replace S1:=Sb.O hh S1
 have gF:=Tl.u7 0 4 hg rfl rfl rfl rfl rfl
 have bQ:=Tl.u7 1 3 hg rfl rfl rfl rfl rfl
 have Z1:=Tl.u7 2 2 hg rfl rfl rfl rfl rfl
 have V0:=Tl.u7 3 1 hg rfl rfl rfl rfl rfl
 have bR:=Tl.u7 4 0 hg rfl rfl rfl rfl rfl
 have u3:Fc.J4 ds 62 a7:=⟨hh.size.trans hf.size,hh.defers.trans hf.defers⟩
 have hx:=hh.ext
 have L7:=lf.out _ hx;try clear kY k0 y0 y1 y2;clear lf;obtain ⟨kY,k0,y0,y1,y2⟩:=L7
 clear hg hh hf a8
 have hf:=u3;clear u3
 have b29:=hf.b 29
 replace Y9:=Y9.trans (CK.r5 hx)
 replace N5:=N5.below hx.size hx
 replace V8:=V8.later hx
 replace N3:=N3.below (hx.mono hb.size)
 replace hb:=hb.trans (hx.mono hb.size)
 have hvl:(o8 (⟨0,false,false⟩:y9) o wi (ss.take i)).length=i:=Q7 i hi
 have fz0:=V8.frozen (j:=i*3)
 have fz1:=V8.frozen (j:=i*3+1)
 have fz2:=V8.frozen (j:=i*3+2)
 obtain ⟨u0j,u0i,u0h⟩:=V8.cell (D9 (by rw [rE oM];exact n8))
 refine Tl.D8 rfl rfl (fun K Z=> ?_)
 go_simp
 try rw [if_pos (by omega)]
 apply Z.out;clear Z K
 simp only [y9.val] at bR
 refine Tl.D8 rfl rfl (fun K Z=> ?_)
 go_simp
 apply Z.out;clear Z K
 refine Tl.J5 rfl ?_
 refine Fc.q hf (by simp only [Fc.G]) rfl fun a7 u3 hT=> ?_
 have G9:_/\_/\_/\_/\_/\_/\_/\_/\_/\_/\_/\_/\_/\_/\_/\_/\_/\_/\_/\_:=⟨hT 1,hT 3,hT 5,hT 6,hT 7,hT 8,hT 9,hT 17,hT 18,hT 19,hT 20,hT 21,hT 22,hT 23,hT 24,hT 25,hT 26,hT 27,hT 28,hT 29⟩
 simp (decide:=true) only [Fc.G,hf.size,reduceIte,s1,s3,s5,s6,s7,s8,s9,N7,S2,J6,M6,N6,U9,S1,gF,bQ,Z1,V0,bR] at G9
 replace hf:=u3;clear hT u3 s1 s3 s5 s6 s7 s8 s9 N7 S2 J6 M6 N6 U9 S1 gF bQ Z1 V0 bR b29
 obtain ⟨s1,s3,s5,s6,s7,s8,s9,N7,S2,J6,M6,N6,U9,S1,gF,bQ,Z1,V0,bR,bG⟩:=G9
 refine Zx l6 ?_
 generalize eC:((w1.setCell ⟨G,i*3,none⟩ (.int .u64 (o st).n)).setCell ⟨G,i*3+1,none⟩ (.bool (o st).fits)).setCell ⟨G,i*3+2,none⟩ (.bool (o st).any)=W5
 obtain ⟨S6, -,tE,hz5,hhs⟩:=w3b eC
 replace Y9:=Y9.trans S6
 replace N5:=N5.turn (Nat.le_of_eq hz5.symm) fun D hD _ hh=>(hhs D oM).trans hh
 replace V8:=V8.set eC
 replace N3:=N3.ck oM S6
 replace hb:=hb.trans (tE _ oM)
 have c0w:=Y9.2.1 _ _ sQ c0;have c1w:=Y9.2.1 _ _ sQ c1
 replace k0:=S6.2.1 _ _ sQ k0
 clear kY y0 y1 y2 fz0 fz1 fz2 u0j u0i u0h eC hx hhs tE
 have x9o:=N3.rs
 refine Ze fun _ l6=>rg ?_
 have bB:=hf.B2 30 31
 iterate 2 refine Zy ?_
 refine Zc (yP W5 _ init i ss x9o) ?_;rintro e W6 ⟨rfl,u0,u1,v0,G7, -, -⟩
 have hN6:w.heap.size<=W5.heap.size:=hb.size
 clear x9o S6
 have w3f:=V8.lt
 replace Y9:=Y9.trans (CK.r5 G7)
 replace N5:=N5.below G7.size G7
 replace V8:=V8.later G7
 replace N3:=N3.below (G7.mono hb.size)
 replace hb:=hb.trans (G7.mono hb.size)
 replace k0:=cL G7 k0
 obtain ⟨q6,hq6⟩:∃ x,W5.heap.size=x:=⟨_,rfl⟩
 have hGq:G<q6:=by rw [<- hq6];exact w3f
 rw [hq6] at u0 u1 v0 |-
 skip
 refine Zv ?_
 refine Fc.nil ?_
 clear bB
 refine Fc.q hf (by simp only [Fc.G]) rfl fun a7 u3 hT=> ?_
 have G9:_/\_/\_/\_/\_/\_/\_/\_/\_/\_/\_/\_/\_/\_/\_/\_/\_/\_/\_/\_/\_/\_/\_:=⟨hT 1,hT 3,hT 5,hT 6,hT 7,hT 8,hT 9,hT 17,hT 18,hT 19,hT 20,hT 21,hT 22,hT 23,hT 24,hT 25,hT 26,hT 27,hT 28,hT 29,hT 30,hT 31,hT 32⟩
 simp (decide:=true) only [Fc.G,hf.size,reduceIte,s1,s3,s5,s6,s7,s8,s9,N7,S2,J6,M6,N6,U9,S1,gF,bQ,Z1,V0,bR,bG] at G9
 replace hf:=u3;clear hT u3 s1 s3 s5 s6 s7 s8 s9 N7 S2 J6 M6 N6 U9 S1 gF bQ Z1 V0 bR bG
 obtain ⟨s1,s3,s5,s6,s7,s8,s9,N7,S2,J6,M6,N6,U9,S1,gF,bQ,Z1,V0,bR,bG,s30,s31,s32⟩:=G9
 refine Zx l6 (wp_block ?_)
 have hGB:G<W6.heap.size:=V8.lt
 have hNB:w.heap.size<=W6.heap.size:=hb.size
 have bS:=D5 _ _ y8
 have hit:=wF (9-1) q6 (q6+1) G w.heap.size init i ss st _ W6 oM hGB hNB (by have:=hGq;omega) (by have:=hGq;omega) u0 u1 v0 N3 y8 oM bS (Nat.le_trans (rG bS (a8 _ (U0 y8))) oM)
 refine (wpIn_wide (n:=9)).1 ?_
 refine dG (C:=fun _=>False) (Fc.k7 s32) (enters_of Tryz.func156 kR rfl) hit CK.trans (fun W o o' ho hc _=>CK.put o' ho hc) (Below.refl _ _) (fun _=>rfl) (fun pre W=>CK G W6 W/\RM W G (((bT (⟨0,false,false⟩:y9) ss.length (o8 (⟨0,false,false⟩:y9) o wi (ss.take i)))).set i (aP (⟨0,false,false⟩:y9) wi (o8 (⟨0,false,false⟩:y9) o wi (ss.take i)) (o st) pre))/\Below w.heap.size w W/\L4 G ds W6.heap.size W) (fun _ _ _=>False) (fun s=>j9.and j9.ck (j9.and (RM.stays hGB) (j9.and (j9.below nR hNB) (j9.v4e nR)))) (fun _ _=>j9.pure _ _ _) ⟨CK.refl _ _,V8,hb,N5⟩ (fun (x:r7) a' W=>∃ Bx,(Fc.Fr 62 a'/\a'.tmps[5]? =some (.pointer (some ⟨(w.heap.size+1),0,none⟩))/\a'.tmps[7]? =some (.pointer (some ⟨(G+1),0,none⟩))/\a'.tmps[8]? =some (.pointer (some ⟨q8,0,none⟩))/\a'.tmps[11]? =some (.pointer (some ⟨Bx,0,none⟩)))/\(W.cell? ⟨Bx,0,none⟩=some (.int .i64 x.to)/\W.cell? ⟨Bx,1,none⟩=some (.int .u64 x.out))) (fun x a'=>j9.ex fun Bx=>j9.and (j9.pure _ _ _) (j9.and j9.cell j9.cell)) ?_ ?_ ?_ ?_
 . (
 rintro l pre x W K ⟨uK,yW,G5,cl1⟩ hKK
 refine oW (M:=fun a=>Code.wpIn _ _ _ _ _ a _) hf rfl rfl rfl fun a1 u3 h33 h34 hold=> ?_
 have s5:=(hold 5 rfl rfl).trans s5;have s7:=(hold 7 rfl rfl).trans s7;have s8:=(hold 8 rfl rfl).trans s8;have s34:=h34
 clear hold h33 h34
 have hf:=u3;clear u3
 refine Inr.rgI (r:=some l) ?_
 have b11:=hf.b 11
 refine Inr.cR fun K Z=> ?_
 go_simp
 apply Z.out;clear Z K
 refine Inr.cR fun K Z=> ?_
 go_simp
 apply Z.out;clear Z K
 refine Inr.kW ?_
 refine C0 5 7 8 11 hf ?_
 clear hf s5 s7 s8 s34 b11;intro a7 hf sS
 refine Fc.j6 ?_
 generalize eB:W.alloc (.cells #[.int .i64 x.to,.int .u64 x.out] 233)=W7
 obtain ⟨A8,b0,b1, -, -⟩:=Z8 eB
 obtain ⟨s5,s7,s8,C7⟩:=sS
 exact hKK _ _ ((K7 A8).from _) (CK.r5 A8) ⟨uK.trans (CK.r5 A8),yW.later A8,G5.trans (A8.mono G5.size),cl1.turn nR fun D _ _ hh=>(A8.block D (j4 hh)).trans hh⟩ ⟨_,⟨hf,s5,s7,s8,C7⟩,b0,b1⟩)
 . (
 clear hf s1 s3 s5 s6 s7 s8 s9 N7 S2 J6 M6 N6 U9 S1 gF bQ Z1 V0 bR bG s30 s31 s32
 rintro l pre x a1 W hl _ ⟨uK,yW,G5,cl1⟩ ⟨Bx,⟨hf,s5,s7,s8,C7⟩,z0,z1⟩ rR
 have hxm:x∈st.a6:=rR.subset sP
 have hxt:=C3 bS hxm
 obtain ⟨c,hc⟩:∃ c:Nat,x.to=(c:Int):=⟨x.to.toNat,oM⟩
 rw [hc] at z0
 have hci:c<i:=oM
 have okx:=y9e (z:=(⟨0,false,false⟩:y9)) ho hw a8 D5 y8 pre ((List.prefix_append _ _).trans rR)
 have okc:=eU (z:=(⟨0,false,false⟩:y9)) ho hw a8 D5 i hi c ((o8 (⟨0,false,false⟩:y9) o wi (ss.take i)).getD c (⟨0,false,false⟩:y9)) (by rw [List.getD_eq_getElem?_getD,D9 oM];rfl)
 have hou:=((a8 _ (U0 y8)).2.2 x hxm).2.1
 have uL:=dH (z:=(⟨0,false,false⟩:y9)) (wi:=wi) (o8 (⟨0,false,false⟩:y9) o wi (ss.take i)) (o st) pre x
 rw [show x.to.toNat=c by omega] at uL
 obtain ⟨X,hX⟩:∃ y,aP (⟨0,false,false⟩:y9) wi (o8 (⟨0,false,false⟩:y9) o wi (ss.take i)) (o st) pre=y:=⟨_,rfl⟩
 obtain ⟨Y,hY⟩:∃ y,(o8 (⟨0,false,false⟩:y9) o wi (ss.take i)).getD c (⟨0,false,false⟩:y9)=y:=⟨_,rfl⟩
 rw [hX] at okx uL yW
 rw [hY] at okc uL
 have rx:=y9f (z:=(⟨0,false,false⟩:y9)) (n:=ss.length) X hvl n8
 have ry:=z7s (z:=(⟨0,false,false⟩:y9)) (n:=ss.length) X hvl hci
 rw [hY] at ry
 obtain ⟨r10,r11,r12⟩:=yW.cell (rx)
 obtain ⟨r20,r21,r22⟩:=yW.cell (ry)
 clear rx ry
 have d0w:=uK.2.1 _ _ sQ (Y9.2.1 _ _ sQ d0);have kY:=uK.2.1 _ _ sQ (Y9.2.1 _ _ sQ e0);have k0w:=uK.2.1 _ _ (by simp only;have:=w3g;omega) k0
 have HX:=H9 hX;have HY:=H9 hY;have HC:=H9 hc;have HFS:=H9 uL;clear hX hY hc uL
 refine wpIn_block ?_
 refine Inr.z2v (r:=some l) (k:=62) (fun ⟨_,_,h⟩=>h) (Sb.OkOps.of kR) (fun a8=> ?_)
 have lf:=H9 fun (w9:World) (h9:Below _ _ w9)=>ad (cL h9 d0w) (ad (cL h9 kY) (ad (cL h9 k0w) (ad (cL h9 z0) (ad (cL h9 z1) (ad (cL h9 r10) (ad (cL h9 r11) (ad (cL h9 r12) (ad (cL h9 r20) (ad (cL h9 r21) (cL h9 r22))))))))))
 refine Sb.T 0 hf a8 ?_ (hF:=fun _ _ h d=>ad (Sb.O h s7) (lf.out _ h.ext))
 refine Sb.T 1 hf a8 ?_ (hF:=fun _ _ h d=>ad (Sb.O h s8) (lf.out _ h.ext))
 refine Sb.T 2 hf a8 ?_ (hF:=fun _ _ h d=>ad (Sb.O h s5) (lf.out _ h.ext))
 refine Sb.T 3 hf a8 ?_ (hF:=fun _ _ h d=>ad (Sb.O h s7) (lf.out _ h.ext))
 refine Sb.T 4 hf a8 ?_ (hF:=fun _ _ h d=>ad (Sb.O h s8) (lf.out _ h.ext))
 refine Sb.T 5 hf a8 ?_
 refine Sb.T 6 hf a8 ?_ (hF:=fun _ _ h d=>lf.out _ h.ext)
 refine Sb.T 7 hf a8 ?_ (hF:=fun _ _ h d=>ad (Sb.O h s7) (lf.out _ h.ext))
 refine Sb.T 8 hf a8 ?_ (hF:=fun _ _ h d=>Sb.O h C7)
 refine Sb.T 9 hf a8 ?_ (hF:=fun _ _ h d=>lf.out _ h.ext)
 refine Sb.T 10 hf a8 ?_
 refine Sb.T 11 hf a8 ?_ (hF:=fun _ _ h d=>lf.out _ h.ext)
 refine Sb.T 12 hf a8 ?_ (hF:=fun _ _ h d=>Sb.O h C7)
 refine Sb.T 13 hf a8 ?_ (hF:=fun _ _ h d=>lf.out _ h.ext)
 apply Sb.tq 14 _ hf a8
 . (
 intro a7 w1 hh hd hk K Z
 have s37:=Sb.v 2 11 hd hk []
 have s41:=Sb.v 6 7 hd hk []
 have s46:=Sb.v 11 2 hd hk []
 have s48:=Sb.v 13 0 hd hk []
 clear hd
 have L7:=lf.out _ hh.ext;try clear d0w kY k0w z0 z1 r10 r11 r12 r20 r21 r22;obtain ⟨d0w,kY,k0w,z0,z1,r10,r11,r12,r20,r21,r22⟩:=L7
 refine fY (g:=g2) (args:= #[(X).val,(Y).val,.int .u64 x.out]) (by simp [execOp,go_sem,s37,s41,s46,s48,eg2,y9.val]) (x9q _ i c X Y x.out okx hci okc hou) ?_
 rintro e w2 ⟨rfl,T2⟩
 exact ⟨_,rfl,Z.out _ rfl _ _ T2 rfl⟩)
 refine Tl.D7 (n:=62) (m:=15) (ws:=[]) kR hf.size a8.out rfl rfl kR (fun a7 w1 hh hg=> ?_)
 have s35:=Tl.u7 0 14 hg rfl rfl rfl rfl rfl
 have vX:=Tl.u7 1 13 hg rfl rfl rfl rfl rfl
 have uA:=Tl.u7 14 0 hg rfl rfl rfl rfl rfl
 have u3:=hh.fr hf
 have hx:=hh.ext
 have L7:=lf.out _ hx;try clear d0w kY k0w z0 z1 r10 r11 r12 r20 r21 r22;clear lf;obtain ⟨d0w,kY,k0w,z0,z1,r10,r11,r12,r20,r21,r22⟩:=L7
 clear hg hh hf a8 s5 s7 s8 C7
 have hf:=u3;clear u3
 have b50:=hf.b 50
 have ri2:=yW.later hx
 have fz0:=ri2.frozen (j:=i*3)
 have fz1:=ri2.frozen (j:=i*3+1)
 have fz2:=ri2.frozen (j:=i*3+2)
 refine Tl.D8 rfl rfl (fun K Z=> ?_)
 go_simp
 try rw [if_pos (by omega)]
 apply Z.out;clear Z K
 simp only [y9.val] at uA
 refine Tl.D8 rfl rfl (fun K Z=> ?_)
 go_simp
 apply Z.out;clear Z K
 refine Tl.J5 rfl ?_
 refine Zq0 hf ?_
 clear hf s35 vX uA b50;intro a7 hf
 refine Fc.j7 ?_
 generalize kQ:((w1.setCell ⟨G,i*3,none⟩ (.int .u64 (wi X Y x.out).n)).setCell ⟨G,i*3+1,none⟩ (.bool (wi X Y x.out).fits)).setCell ⟨G,i*3+2,none⟩ (.bool (wi X Y x.out).any)=W9
 obtain ⟨S6,hko,tE, -,hhs⟩:=w3b kQ
 refine ⟨((K7 hx).trans hko).from _,(CK.r5 hx).trans S6,(uK.trans (CK.r5 hx)).trans S6,?_,(G5.trans (hx.mono G5.size)).trans (tE _ oM),(cl1.turn nR fun D _ _ hh=>(hx.block D (j4 hh)).trans hh).turn nR fun D hD _ hh=>(hhs D oM).trans hh⟩
 have h:=ri2.set kQ
 rw [List.set_set] at h
 rw [HFS.out]
 exact h)
 . (
 clear k0
 rintro D xs W hD rfl ⟨uK,yW,G5,cl1⟩ hDh
 refine Fc.reQ (n:=62) (ds:={ target:= .collected D,args:= #[] }::ds) hf.size (by rw [hf.defers]) (fun fr2 kJ hT=> ?_)
 have s1:=(hT 1).trans s1
 have s3:=(hT 3).trans s3
 have s5:=(hT 5).trans s5
 have s6:=(hT 6).trans s6
 have s7:=(hT 7).trans s7
 have N7:=(hT 17).trans N7
 have S2:=(hT 18).trans S2
 have J6:=(hT 19).trans J6
 clear hT hf
 have hf:=kJ;clear kJ
 replace Y9:=Y9.trans uK
 replace N3:=N3.ck oM uK
 rw [wD _ hvl n8, <- R9 y8] at yW
 have w3c:L4 G ({ target:= .collected D,args:= #[] }::ds) W.heap.size W:=⟨D,rfl,Nat.lt_of_lt_of_le hGB hD,j4 hDh,hDh,cl1.turn hD fun _ _ _ hh=>hh⟩
 clear N5 uK cl1 V8 hb hit u0 u1 v0 hDh
 refine Fc.j7 (Fc.j7 (Zx j8 (Zr [51] hf ?_)))
 refine vE 1 3 5 6 7 17 18 19 51 hf ?_
 clear hf s1 s3 s5 s6 s7 N7 S2 J6;intro a7 hf sS
 refine Fc.j6 ?_
 obtain ⟨s1,s3,s5,s6,s7,N7,S2,J6,pS⟩:=sS
 exact ⟨_,by have:=HK.out;omega,i+1,_,rfl,oM,hf,s1,s3,s5,s6,s7,N7,S2,by rw [J6];rfl,w3c,Y9,yW,N3,G5⟩)
 . (
 rintro D c pre W _ _ h _
 exact h.elim))
 . (
 have F3:i=ss.length:=qF
 clear hq
 rw [F3,List.take_length] at V8
 have kY:=Y9.2.1 _ _ sQ e0
 rw [wE (M0 _)] at V8
 replace bF:=Y9.2.2 _ _ oM rfl bF
 refine Zo ?_
 refine Zs b7 fun _ b7=>Ze fun _ j8=>Zr [52,53] hf ?_
 refine B1 6 7 54 hf ?_
 clear hf sS;intro a7 hf sS
 refine Zx j8 (Fc.l0 sS.2.2 (fun H7=> ?_) (fun H7=> ?_))
 . (
 obtain ⟨k,hk⟩:∃ k,ss.length=k+1:=⟨ss.length-1,by have h9:=of_decide_eq_true H7;omega⟩
 clear H7
 have e4:IntKind.i64.wrap ((ss.length:Int)-1)=(k:Int):=by rw [Fc.wrap_i64 oM oM];omega
 have hfl:=M0 (z:=(⟨0,false,false⟩:y9)) (o:=o) (wi:=wi) ss
 have hkl:k<(o8 (⟨0,false,false⟩:y9) o wi ss).length:=oM
 obtain ⟨r10,r11,r12⟩:=V8.cell (D9 hkl)
 have hgl:(o8 (⟨0,false,false⟩:y9) o wi ss).getLastD (⟨0,false,false⟩:y9)=(o8 (⟨0,false,false⟩:y9) o wi ss)[k]:=by rw [List.getLastD_eq_getLast?,List.getLast?_eq_getElem?,hfl,hk,Nat.add_sub_cancel,D9 hkl];rfl
 obtain ⟨X,hX⟩:∃ y,(o8 (⟨0,false,false⟩:y9) o wi ss)[k]=y:=⟨_,rfl⟩
 rw [hX] at hgl r10 r11 r12
 have q0:=n5 0 bF;have f0:=j3 (i:=0) bF
 have q1:=n5 1 bF;have f1:=j3 (i:=1) bF
 have q2:=n5 2 bF;have f2:=j3 (i:=2) bF
 simp at q0 q1 q2
 refine rg ?_
 have bB:=hf.B6 55 56 57 58 59 60
 iterate 3 refine Zy ?_
 refine fp fun K Z=> ?_
 go_simp
 try simp (disch:=omega) only [Fc.W]
 try rw [e4]
 apply Z.out;clear Z K
 iterate 3 refine Zy ?_
 refine Fc.nil (r6 6 hf ?_)
 clear hf sS bB;intro a7 hf s6
 generalize hV1:((wr.setCell ⟨w.heap.size+1+1,0,none⟩ (.int .u64 (X).n)).setCell ⟨w.heap.size+1+1,1,none⟩ (.bool (X).fits)).setCell ⟨w.heap.size+1+1,2,none⟩ (.bool (X).any)=V1
 obtain ⟨bF,hbv,hhv⟩:=w3a bF hV1
 replace hb:=hb.trans (hbv _ oM)
 replace N5:=N5.turn nR fun D hD _ hh=>(hhv D oM).trans hh
 clear hbv hhv hV1
 have q0:=n5 0 bF;have f0:=j3 (i:=0) bF
 have q1:=n5 1 bF;have f1:=j3 (i:=1) bF
 have q2:=n5 2 bF;have f2:=j3 (i:=2) bF
 simp at q0 q1 q2
 refine Zs b7 fun _ b7=>Zr [61] hf ?_
 refine r6 6 hf ?_
 clear hf s6;intro a7 hf s6
 refine Zx b7 (k8 ?_)
 generalize hV2:((V1.setCell ⟨w.heap.size+1+1,0,none⟩ (.int .u64 (X).n)).setCell ⟨w.heap.size+1+1,1,none⟩ (.bool (X).fits)).setCell ⟨w.heap.size+1+1,2,none⟩ (.bool (X).any)=V2
 obtain ⟨bF,hbv,hhv⟩:=w3a bF hV2
 replace hb:=hb.trans (hbv _ oM)
 replace N5:=N5.turn nR fun D hD _ hh=>(hhv D oM).trans hh
 clear hbv hhv hV2
 exact w8k rfl hf s6 bF oM Tryz.underlying192 rfl kR N5 fun w' hw=>⟨by rw [hgl];rfl,hb.trans (hw.mono oM)⟩)
 . (
 have hn0:ss=[]:=by have h9:=of_decide_eq_false H7;exact List.length_eq_zero_iff.1 oM
 clear H7
 have q0:=n5 0 bF;have f0:=j3 (i:=0) bF
 have q1:=n5 1 bF;have f1:=j3 (i:=1) bF
 have q2:=n5 2 bF;have f2:=j3 (i:=2) bF
 simp at q0 q1 q2
 refine wp_skip (Zs b7 fun _ b7=>Zr [61] hf ?_)
 refine r6 6 hf ?_
 clear hf sS;intro a7 hf s6
 refine Zx b7 (k8 ?_)
 generalize hV2:((wr.setCell ⟨w.heap.size+1+1,0,none⟩ (.int .u64 0)).setCell ⟨w.heap.size+1+1,1,none⟩ (.bool false)).setCell ⟨w.heap.size+1+1,2,none⟩ (.bool false)=V2
 obtain ⟨bF,hbv,hhv⟩:=w3a bF hV2
 replace hb:=hb.trans (hbv _ oM)
 replace N5:=N5.turn nR fun D hD _ hh=>(hhv D oM).trans hh
 clear hbv hhv hV2
 exact w8k rfl hf s6 bF oM Tryz.underlying192 rfl kR N5 fun w' hw=>⟨by rw [hn0];rfl,hb.trans (hw.mono oM)⟩)))
def y5t (st:State):Int:=if st.final then 1 else 0
def y5s (x c:Int) (_:Nat):Int:=min (x+c) 100001
def oB (ss:List State):Int:=(o8 0 y5t y5s ss).getLastD 0
def z7k (st:State):Int:=if st.final then 0 else -1
def z7j (ss:List State):Int:=(o8 0 z7k (fun x c _=>pK x c) ss).getLastD 0
def gtO (st:State):y9:=⟨st.out,true,st.final⟩
def gtW (x c:y9) (u:Nat):y9:=x.or ⟨(c.n+u)%y5,c.fits&&decide (c.n+u<y5),c.any⟩
def gtV (ss:List State):y9:=(o8 ⟨0,false,false⟩ gtO gtW ss).getLastD ⟨0,false,false⟩
def yX (ss:List State) (init:Nat):Bool:=(gtV ss).any&&((gtV ss).fits&&decide ((gtV ss).n+init<y5)&&decide (((gtV ss).n+init)%y5<=4294967296))
theorem y8w {α:Type} {z:α} {o:State->α} {wi:α->α->Nat->α} {ss:List State} {Ok:Nat->α->Prop} (ho:∀ i st,ss[i]? =some st->Ok i (o st)) (hw:∀ i j x c u,Ok i x->j<i->Ok j c->u<18446744073709551616->Ok i (wi x c u))
  (a8:∀ s∈ss,J8 s) (D5:∀ (k:Nat) (st:State),ss[k]? =some st->okArcs k (-1) st.a6=true) (hz:Ok 0 z):∃ i,Ok i ((o8 z o wi ss).getLastD z):=by
 rw [List.getLastD_eq_getLast?]
 cases h:(o8 z o wi ss).getLast? with
 | none=>exact ⟨0,hz⟩
 | some x =>
  rw [List.getLast?_eq_getElem?] at h
  refine ⟨_,eU (z:=z) ho hw a8 D5 ss.length nR ((o8 z o wi ss).length-1) x ?_⟩
  rw [List.take_length]
  exact h
def mL (_:Nat) (x:Int):Prop:=0<=x/\x<=100001
theorem w7x (ss:List State):∀ i st,ss[i]? =some st->mL i (y5t st):=fun i st _=>by unfold mL y5t;split<;>omega
theorem w7w:∀ (i j:Nat) (x c:Int) (u:Nat),mL i x->j<i->mL j c->u<18446744073709551616->mL i (y5s x c u):=fun i j x c u h1 _ h2 _=>by unfold mL y5s at *;omega
def mM (i:Nat) (x:Int):Prop:= -1<=x/\x<=i/\i<=1000000
theorem v2s (ss:List State) (hlen:ss.length<=1000000):∀ i st,ss[i]? =some st->mM i (z7k st):=fun i st h=>by have:=(E2 h).1;unfold mM z7k;split<;>omega
theorem v2r:∀ (i j:Nat) (x c:Int) (u:Nat),mM i x->j<i->mM j c->u<18446744073709551616->mM i (pK x c):=fun i j x c u h1 h3 h2 _=>by unfold mM pK at *;split<;>omega
def z2h (_:Nat) (m:y9):Prop:=m.n<y5
theorem v2q (ss:List State) (a8:∀ s∈ss,J8 s):∀ i st,ss[i]? =some st->z2h i (gtO st):=fun i st h=>(a8 _ (U0 h)).1
theorem v2p:∀ (i j:Nat) (x c:y9) (u:Nat),z2h i x->j<i->z2h j c->u<18446744073709551616->z2h i (gtW x c u):=fun i j x c u h1 _ h2 _=>by
 unfold z2h gtW y9.or y5 at *
 split
 ·split
  ·simp only;omega
  ·simp only;omega
 ·exact h1
theorem y8v (ss:List State) (hlen:ss.length<=1000000) (a8:∀ s∈ss,J8 s) (D5:∀ (k:Nat) (st:State),ss[k]? =some st->okArcs k (-1) st.a6=true):0<=oB ss/\oB ss<=100001:=by
 obtain ⟨i,h⟩:=y8w (w7x ss) w7w a8 D5 (z:=0) (by unfold mL;omega)
 exact h
theorem w2w (ss:List State) (hlen:ss.length<=1000000) (a8:∀ s∈ss,J8 s) (D5:∀ (k:Nat) (st:State),ss[k]? =some st->okArcs k (-1) st.a6=true):(gtV ss).n<y5:=by
 obtain ⟨i,h⟩:=y8w (v2q ss a8) v2p a8 D5 (z:=⟨0,false,false⟩) (by unfold z2h y5;simp only;omega)
 exact h
theorem w2v (w:World) (sv:Value) (init:Nat) (ss:List State) (o7:RS w sv ss) (hlen:ss.length<=1000000) (a8:∀ s∈ss,J8 s) (D5:∀ (k:Nat) (st:State),ss[k]? =some st->okArcs k (-1) st.a6=true):G4 w 105 #[.agg #[sv,.int .u64 init],.func (.func 106) #[] #[],.func (.func 107) #[] #[]] (.int .i64 (oB ss)):=by
 refine z7l y5t y5s w sv init ss o7 hlen mL (enters_of Tryz.func106 kR rfl) (enters_of Tryz.func107 kR rfl) (w7x ss) w7w a8 D5 ?_ ?_
 ·intro W av i st _ aE
  unfold y5t
  cases q9:st.final with
  | false=>exact v8f W av st.out aE
  | true=>exact v8g W av st.out aE
 ·intro W i j x c u h1 _ h2 _
  obtain ⟨a,rfl⟩:=Int.eq_ofNat_of_zero_le h1.1
  obtain ⟨b,rfl⟩:=Int.eq_ofNat_of_zero_le h2.1
  have h3:=h1.2
  have h4:=h2.2
  refine (u6p W a b (.int .u64 u) oM oM).mono ?_
  rintro e w2 ⟨rfl,rfl⟩
  exact ⟨by unfold y5s;congr 2;omega,Below.refl _ _⟩
theorem u0g (w:World) (sv:Value) (init:Nat) (ss:List State) (o7:RS w sv ss) (hlen:ss.length<=1000000) (a8:∀ s∈ss,J8 s) (D5:∀ (k:Nat) (st:State),ss[k]? =some st->okArcs k (-1) st.a6=true):G4 w 105 #[.agg #[sv,.int .u64 init],.func (.func 108) #[] #[],.func (.func 109) #[] #[]] (.int .i64 (z7j ss)):=by
 refine z7l z7k (fun x c _=>pK x c) w sv init ss o7 hlen mM (enters_of Tryz.func108 kR rfl) (enters_of Tryz.func109 kR rfl) (v2s ss hlen) v2r a8 D5 ?_ ?_
 ·intro W av i st _ aE
  unfold z7k
  cases q9:st.final with
  | false=>exact v8d W av st.out aE
  | true=>exact v8e W av st.out aE
 ·intro W i j x c u h1 _ h2 _
  unfold mM at h1 h2
  rcases Int.lt_or_le c 0 with h | h
  ·refine (v8c W x c (.int .u64 u) oM oM h).mono ?_
   rintro e w2 ⟨rfl,rfl⟩
   exact ⟨rfl,Below.refl _ _⟩
  ·refine (v8b W x c (.int .u64 u) oM oM h).mono ?_
   rintro e w2 ⟨rfl,rfl⟩
   exact ⟨rfl,Below.refl _ _⟩
theorem v2o (w:World) (sv:Value) (init:Nat) (ss:List State) (o7:RS w sv ss) (hlen:ss.length<=1000000) (a8:∀ s∈ss,J8 s) (D5:∀ (k:Nat) (st:State),ss[k]? =some st->okArcs k (-1) st.a6=true):Calls Tryz.prog 110 #[.agg #[sv,.int .u64 init],.func (.func 111) #[] #[],.func (.func 112) #[] #[]] w fun e w1=>e= .returned (gtV ss).val/\Below w.heap.size w w1:=by
 refine x9l gtO gtW w sv init ss o7 hlen z2h (enters_of Tryz.func111 kR rfl) (enters_of Tryz.func112 kR rfl) (v2q ss a8) v2p a8 D5 ?_ ?_
 ·intro W av i st _ aE
  exact u6q W av st.final st.out aE
 ·rintro W i j ⟨n,fm,am⟩ ⟨k,fx,ax⟩ u _ _ h2 hu
  exact u6o W n k u fm fx am ax h2 hu
theorem x2l (w:World) (sv:Value) (init:Nat) (ss:List State) (o7:RS w sv ss) (hlen:ss.length<=1000000) (a8:∀ s∈ss,J8 s) (D5:∀ (k:Nat) (st:State),ss[k]? =some st->okArcs k (-1) st.a6=true):G4 w 67 #[.agg #[sv,.int .u64 init]] (.tuple #[.int .i64 (if 100000<oB ss then 0 else oB ss),.bool (decide (oB ss<=100000))]):=by
 refine S8 10 Tryz.func67 fun fr hf s0=> ?_
 obtain ⟨A,cc,rfl,Z3⟩:=o7.form
 obtain ⟨hc0,zS⟩:=y8v ss hlen a8 D5
 refine Ze fun _ b7=>Zr [] hf ?_
 refine r6 1 hf ?_
 clear hf s0;intro a7 hf s1
 generalize p8:w.alloc (.cells #[.slice A ss.length cc,.int .u64 init] 38)=W0
 obtain ⟨p9,c0,c1, -, -⟩:=Z8 p8
 clear p8
 replace o7:=o7.later p9
 refine Zt b7 fun _ b7=> ?_
 have bB:=hf.B2 5 6
 refine Zy ?_
 refine Zc (w2v W0 _ init ss o7 hlen a8 D5) ?_;rintro e w1 ⟨rfl,n7⟩
 obtain ⟨n,hn⟩:∃ x,oB ss=x:=⟨_,rfl⟩
 rw [hn] at hc0 zS |-
 have HN:=H9 hn
 have hb:=p9.trans (n7.mono p9.size)
 clear o7 hn c0 c1 p9 n7
 refine Zv ?_
 refine Zy ?_
 refine Fc.nil (r6 4 hf ?_)
 clear hf s1 bB;intro a7 hf s4
 refine Zs b7 fun _ b7=>Ze fun _ j8=>Zr [7] hf ?_
 refine C1 4 8 hf ?_
 clear hf s4;intro a7 hf sS
 refine Zx j8 (Fc.l0 sS.2 (fun hq=> ?_) (fun hq=> ?_))
 . (
 have h9:=of_decide_eq_true hq
 clear hq
 refine Ze fun _ j8=>Zr [] hf ?_
 refine C1 2 3 hf ?_
 clear hf sS;intro a7 hf sS
 refine Zx j8 (k8 ?_)
 exact Fc.U6 rfl hf sS.1 sS.2 ⟨by rw [HN.out,if_pos (by omega),decide_eq_false oM],hb⟩)
 . (
 have h9:=of_decide_eq_false hq
 clear hq
 refine wp_skip (Zs b7 fun _ b7=>Zr [9] hf ?_)
 refine C1 2 3 hf ?_
 clear hf sS;intro a7 hf sS
 refine Zx b7 (k8 ?_)
 exact Fc.U6 rfl hf sS.1 sS.2 ⟨by rw [HN.out,if_neg (by omega),decide_eq_true oM],hb⟩)
theorem y5r (w:World) (sv:Value) (init:Nat) (ss:List State) (o7:RS w sv ss) (hlen:ss.length<=1000000) (a8:∀ s∈ss,J8 s) (D5:∀ (k:Nat) (st:State),ss[k]? =some st->okArcs k (-1) st.a6=true) (h0:0<ss.length):G4 w 69 #[.agg #[sv,.int .u64 init]] (.int .i64 (z7j ss)):=by
 refine S8 9 Tryz.func69 fun fr hf s0=> ?_
 obtain ⟨A,cc,rfl,Z3⟩:=o7.form
 have q1:((ss.length:Int)==0)=false:=beq_eq_false_iff_ne.2 oM
 refine Ze fun _ b7=>Zr [] hf ?_
 refine r6 1 hf ?_
 clear hf s0;intro a7 hf s1
 generalize p8:w.alloc (.cells #[.slice A ss.length cc,.int .u64 init] 38)=W0
 obtain ⟨p9,c0,c1, -, -⟩:=Z8 p8
 clear p8
 replace o7:=o7.later p9
 refine Zs b7 fun _ b7=>Ze fun _ j8=>Zr [3,4,5] hf ?_
 refine C1 1 6 hf ?_
 clear hf s1;intro a7 hf sS
 refine Zx j8 (Fc.k9 sS.2 ?_)
 clear q1
 refine wp_skip (Zt b7 fun _ b7=> ?_)
 have bB:=hf.B2 7 8
 refine Zy ?_
 refine Zc (u0g W0 _ init ss o7 hlen a8 D5) ?_;rintro e w1 ⟨rfl,n7⟩
 have hb:=p9.trans (n7.mono p9.size)
 clear o7 c0 c1 p9 n7
 refine Zv ?_
 refine Zy ?_
 refine Fc.nil (r6 2 hf ?_)
 clear hf sS bB;intro a7 hf s2
 refine Zx b7 (k8 ?_)
 exact Fc.o9 rfl hf s2 ⟨rfl,hb⟩
theorem z2g (w:World) (sv:Value) (init:Nat) (ss:List State) (o7:RS w sv ss) (hlen:ss.length<=1000000) (a8:∀ s∈ss,J8 s) (D5:∀ (k:Nat) (st:State),ss[k]? =some st->okArcs k (-1) st.a6=true) (K0:init<y5):Calls Tryz.prog 72 #[.agg #[sv,.int .u64 init]] w fun e w1=>(∃ v,e= .returned (.tuple #[v,.bool (yX ss init)]))/\Below w.heap.size w w1:=by
 refine S8 25 Tryz.func72 fun fr hf s0=> ?_
 obtain ⟨A,cc,rfl,Z3⟩:=o7.form
 have hgm:=w2w ss hlen a8 D5
 refine Ze fun _ b7=>Zr [] hf ?_
 refine r6 1 hf ?_
 clear hf s0;intro a7 hf s1
 generalize p8:w.alloc (.cells #[.slice A ss.length cc,.int .u64 init] 38)=W0
 obtain ⟨p9,c0,c1, -, -⟩:=Z8 p8
 clear p8
 replace o7:=o7.later p9
 refine Zt b7 fun _ b7=> ?_
 have bB:=hf.B3 5 6 4
 refine Zy ?_
 refine Zc (v2o W0 _ init ss o7 hlen a8 D5) ?_;rintro e w1 ⟨rfl,n7⟩
 obtain ⟨⟨n,ft,an⟩,hn⟩:∃ x,gtV ss=x:=⟨_,rfl⟩
 rw [hn] at hgm |-
 have HG:=H9 (show yX ss init=(an&&(ft&&decide (n+init<y5)&&decide ((n+init)%y5<=4294967296))) by unfold yX;rw [hn])
 simp only [y9.val]
 replace c1:=cL n7 c1
 have hb:=p9.trans (n7.mono p9.size)
 clear o7 hn c0 p9 n7
 refine Zv ?_
 iterate 2 refine Zy ?_
 refine Fc.nil (C1 1 4 hf ?_)
 clear hf s1 bB;intro a7 hf sS
 generalize U1:w1.alloc (.cells #[.int .u64 n,.bool ft,.bool an] 192)=W2
 obtain ⟨r9,m0,m1,m2,hm, -⟩:=G1 U1
 obtain ⟨g,hg⟩:∃ x,w1.heap.size=x:=⟨_,rfl⟩
 have hwg:w.heap.size<=g:=by rw [<- hg];exact hb.size
 replace c1:=cL r9 c1
 replace hb:=hb.trans (r9.mono hb.size)
 obtain ⟨s1,s4⟩:=sS
 rw [hg] at m0 m1 m2 hm s4
 clear U1 r9 hg
 refine Zs b7 fun _ b7=>Ze fun _ j8=>rg ?_
 have bB:=hf.B6 7 8 9 10 11 12
 iterate 4 refine Zy ?_
 refine Zc (kH W2 n init ft hgm K0) ?_;rintro e w3 ⟨rfl,D4⟩
 obtain ⟨sm,Z7⟩:∃ x,(n+init)%y5=x:=⟨_,rfl⟩
 obtain ⟨sf,hsf⟩:∃ x,(ft&&decide (n+init<y5))=x:=⟨_,rfl⟩
 rw [Z7,hsf]
 replace hm:=(D4.block _ (j4 hm)).trans hm
 replace hb:=hb.trans (D4.mono hb.size)
 replace m0:=cL D4 m0
 replace m1:=cL D4 m1
 replace m2:=cL D4 m2
 have f0:=j3 (i:=0) hm;have f1:=j3 (i:=1) hm
 clear D4 c1
 refine Zv ?_
 iterate 2 refine Zy ?_
 refine Fc.nil (r6 4 hf ?_)
 clear hf s1 s4 bB;intro a7 hf s4
 generalize oQ:(w3.setCell ⟨g,0,none⟩ (.int .u64 sm)).setCell ⟨g,1,none⟩ (.bool sf)=W4
 replace hm:W4.heap[g]? =some (.cells #[.int .u64 sm,.bool sf,.bool an] 192 (0,0)):=by rw [<- oQ];exact (j5 (j5 hm _) _).trans sP
 replace hb:=(hb.setCell (p:=⟨g,0,none⟩) hwg (.int .u64 sm)).setCell (p:=⟨g,1,none⟩) hwg (.bool sf);rw [oQ] at hb
 clear m0 m1 m2 f0 f1 oQ
 have m0:=n5 0 hm;have m1:=n5 1 hm;have m2:=n5 2 hm
 simp at m0 m1 m2
 refine Zx j8 ?_
 rcases han:an with _ | _
 . (
 refine Ze fun _ j8=>Zr [13,14,15,16,17,18,19,20] hf ?_
 refine C1 4 21 hf ?_
 clear hf s4;intro a7 hf sS
 refine Zx j8 (Fc.l8 sS.2 ?_)
 refine Ze fun _ j8=>Zr [] hf ?_
 refine C1 2 3 hf ?_
 clear hf sS;intro a7 hf sS
 refine Zx j8 (k8 ?_)
 exact Fc.U6 rfl hf sS.1 sS.2 ⟨⟨_,by rw [HG.out,han];rfl⟩,hb⟩)
 . (
 refine Ze fun _ j8=>rg ?_
 have bB:=hf.B8 13 14 15 16 17 18 19 20
 iterate 6 refine Zy ?_
 refine Zd (y3q W4 sm sf) ?_;rintro e w5 ⟨rfl,F2⟩
 generalize hi:(sf&&decide (sm<=4294967296))=is
 replace hb:=hb.trans (F2.mono hb.size)
 replace m0:=cL F2 m0
 refine Zv ?_
 iterate 2 refine Zy ?_
 refine Fc.nil (C1 4 21 hf ?_)
 clear hf s4 bB;intro a7 hf sS
 refine Zx j8 (Fc.l0 sS.2 (fun hq=> ?_) (fun hq=> ?_))
 . (
 have hi2:is=false:=by simpa using hq
 clear hq
 subst hi2
 refine Ze fun _ j8=>Zr [] hf ?_
 refine C1 2 3 hf ?_
 clear hf sS;intro a7 hf sS
 refine Zx j8 (k8 ?_)
 exact Fc.U6 rfl hf sS.1 sS.2 ⟨⟨_,by rw [HG.out,han,Z7,hsf,hi];rfl⟩,hb⟩)
 . (
 have hi2:is=true:=by simpa using hq
 clear hq
 subst hi2
 refine wp_skip (Zs b7 fun _ b7=>Zr [22,23,24] hf ?_)
 refine C1 2 3 hf ?_
 clear hf sS;intro a7 hf sS
 refine Zx b7 (k8 ?_)
 exact Fc.U6 rfl hf sS.1 sS.2 ⟨⟨_,by rw [HG.out,han,Z7,hsf,hi];rfl⟩,hb⟩))
theorem E0 {ss:List State} {init:Nat} (h:rightF ss init=true):C4 ss=true:=by
 unfold rightF at h
 cases hf:C4 ss with
 | true=>rfl
 | false=>rw [hf] at h;simp at h
def yY (ss:List State) (en:Int):Bool:=decide (oB ss<=100000)&&decide (oB ss=en)&&decide (0<oB ss)
def eZ (ss:List State):Bool:=(ss.getLast?.map State.final).getD false
theorem u0e (w:World) (p:Nat) (sv:Value) (init:Nat) (ss:List State) (c0:w.cell? ⟨p,0,none⟩=some sv) (c1:w.cell? ⟨p,1,none⟩=some (.int .u64 init)) (o7:RS w sv ss) (hlen:ss.length<=1000000) (a8:∀ s∈ss,J8 s):G4 w 64 #[.pointer (some ⟨p,0,none⟩)] (.bool (rightF ss init)):=by
 refine S8 4 Tryz.func64 fun fr hf s0=> ?_
 obtain ⟨A,cc,rfl,Z3⟩:=o7.form
 refine Ze fun _ b7=>Zr [] hf ?_
 refine r6 0 hf ?_
 clear hf s0;intro a7 hf s0
 refine Zt b7 fun _ b7=> ?_
 have bB:=hf.B2 2 3
 refine Zy ?_
 refine Zc (w2u w _ init ss o7 a8 hlen) ?_;rintro e w1 ⟨rfl,n7⟩
 refine Zv ?_
 refine Zy ?_
 refine Fc.nil (r6 1 hf ?_)
 clear hf s0 bB;intro a7 hf s1
 refine Zx b7 (k8 ?_)
 exact Fc.o9 rfl hf s1 ⟨rfl,n7⟩
theorem u0d (w:World) (p:Nat) (sv:Value) (init:Nat) (ss:List State) (c0:w.cell? ⟨p,0,none⟩=some sv) (c1:w.cell? ⟨p,1,none⟩=some (.int .u64 init)) (o7:RS w sv ss) (hlen:ss.length<=1000000) (a8:∀ s∈ss,J8 s) (h0:rightF ss init=true) (pn:Nat) (en:Int) (n0:w.cell? ⟨pn,0,none⟩=some (.int .i64 en)):G4 w 66 #[.pointer (some ⟨p,0,none⟩),.pointer (some ⟨pn,0,none⟩)] (.bool (yY ss en)):=by
 refine aT 20 Tryz.func66 fun fr hf s0 s1=> ?_
 obtain ⟨A,cc,rfl,Z3⟩:=o7.form
 have D5:∀ (k:Nat) (st:State),ss[k]? =some st->okArcs k (-1) st.a6=true:=fun k st hk=>aG (E0 h0) hk
 obtain ⟨hc0,zS⟩:=y8v ss hlen a8 D5
 refine Ze fun _ b7=>Zr [] hf ?_
 refine C1 0 1 hf ?_
 clear hf s0 s1;intro a7 hf sS
 refine Zt b7 fun _ b7=> ?_
 have bB:=hf.B5 6 7 5 8 9
 refine Zy ?_
 refine Zc (x2l w _ init ss o7 hlen a8 D5) ?_;rintro e w1 ⟨rfl,n7⟩
 obtain ⟨n,hn⟩:∃ x,oB ss=x:=⟨_,rfl⟩
 rw [hn] at hc0 zS |-
 have HN:=H9 hn
 replace n0:=cL n7 n0
 clear hn c0 c1 o7
 refine Zv ?_
 iterate 5 refine Zy ?_
 refine Fc.nil (B1 1 3 4 hf ?_)
 clear hf sS bB;intro a7 hf sS
 refine Zx b7 ?_
 rcases Int.lt_or_le 100000 n with n8 | n8
 . (
 have q1:decide (n<=100000)=false:=decide_eq_false oM
 have q2:(if (100000:Int)<n then (0:Int) else n)=0:=if_pos (by omega)
 obtain ⟨s1,s3,s4⟩:=sS
 rw [q1] at s4
 rw [q2] at s3
 refine Ze fun _ b7=>Zr [10,11,12,13,14,15,16,17,18,19] hf ?_
 refine r6 2 hf ?_
 clear hf s1 s3 s4;intro a7 hf s2
 refine Zx b7 (k8 ?_)
 exact Fc.o9 rfl hf s2 ⟨by unfold yY;rw [HN.out,q1];rfl,n7⟩)
 . (
 have q1:decide (n<=100000)=true:=decide_eq_true oM
 have q2:(if (100000:Int)<n then (0:Int) else n)=n:=if_neg (by omega)
 obtain ⟨s1,s3,s4⟩:=sS
 rw [q1] at s4
 rw [q2] at s3
 rcases Classical.em (n=en) with E6 | E6
 . (
 have q3:(n==en)=true:=beq_iff_eq.2 E6
 refine Ze fun _ b7=> ?_
 have qs:=q3
 refine Zr [10,11,12,13,14,15,16,17,18,19] hf ?_
 refine r6 2 hf ?_
 clear hf s1 s3 s4 qs;intro a7 hf s2
 refine Zx b7 (k8 ?_)
 exact Fc.o9 rfl hf s2 ⟨by unfold yY;rw [HN.out,q1,decide_eq_true E6,E6];rfl,n7⟩)
 . (
 have q3:(n==en)=false:=beq_eq_false_iff_ne.2 E6
 refine Ze fun _ b7=> ?_
 have qs:=q3
 refine Zr [10,11,12,13,14,15,16,17,18,19] hf ?_
 refine r6 2 hf ?_
 clear hf s1 s3 s4 qs;intro a7 hf s2
 refine Zx b7 (k8 ?_)
 exact Fc.o9 rfl hf s2 ⟨by unfold yY;rw [HN.out,q1,decide_eq_false E6];rfl,n7⟩))
theorem u0c (w:World) (p:Nat) (sv:Value) (init:Nat) (ss:List State) (c0:w.cell? ⟨p,0,none⟩=some sv) (c1:w.cell? ⟨p,1,none⟩=some (.int .u64 init)) (o7:RS w sv ss) (hlen:ss.length<=1000000) (a8:∀ s∈ss,J8 s) (h0:rightF ss init=true):G4 w 68 #[.pointer (some ⟨p,0,none⟩)] (.bool (decide (z7j ss<=255))):=by
 refine S8 5 Tryz.func68 fun fr hf s0=> ?_
 obtain ⟨A,cc,rfl,Z3⟩:=o7.form
 have D5:∀ (k:Nat) (st:State),ss[k]? =some st->okArcs k (-1) st.a6=true:=fun k st hk=>aG (E0 h0) hk
 have hp:=iW (E0 h0)
 refine Ze fun _ b7=>Zr [] hf ?_
 refine r6 0 hf ?_
 clear hf s0;intro a7 hf s0
 refine Zt b7 fun _ b7=> ?_
 have bB:=hf.B3 2 3 4
 refine Zy ?_
 refine Zc (y5r w _ init ss o7 hlen a8 D5 hp) ?_;rintro e w1 ⟨rfl,n7⟩
 refine Zv ?_
 iterate 2 refine Zy ?_
 refine Fc.nil (r6 1 hf ?_)
 clear hf s0 bB;intro a7 hf s1
 refine Zx b7 (k8 ?_)
 exact Fc.o9 rfl hf s1 ⟨rfl,n7⟩
theorem u0b (w:World) (p:Nat) (sv:Value) (init:Nat) (ss:List State) (c0:w.cell? ⟨p,0,none⟩=some sv) (c1:w.cell? ⟨p,1,none⟩=some (.int .u64 init)) (o7:RS w sv ss) (hlen:ss.length<=1000000) (a8:∀ s∈ss,J8 s) (h0:rightF ss init=true):G4 w 70 #[.pointer (some ⟨p,0,none⟩)] (.bool (!eZ ss)):=by
 refine S8 12 Tryz.func70 fun fr hf s0=> ?_
 obtain ⟨A,cc,rfl,Z3⟩:=o7.form
 obtain ⟨k,hk⟩:∃ k,ss.length=k+1:=⟨ss.length-1,by have:=iW (E0 h0);omega⟩
 obtain ⟨st,y8⟩:∃ x,ss[k]? =some x:=⟨_,D9 oM⟩
 have hl:eZ ss=st.final:=by unfold eZ;rw [List.getLast?_eq_getElem?,hk,Nat.add_sub_cancel,y8];rfl
 obtain ⟨bb,off,av,hA0,D3⟩:=o7.at_ y8
 subst hA0
 have x1:=D3.c1
 have e4:IntKind.i64.wrap ((ss.length:Int)-1)=(k:Int):=by rw [Fc.wrap_i64 oM oM];omega
 have HKK:=H9 hk;have HL:=H9 hl;have hkl:k<ss.length:=oM
 clear hk y8 hl D3
 refine Ze fun _ b7=>Zr [] hf ?_
 refine r6 0 hf ?_
 clear hf s0;intro a7 hf s0
 refine Zt b7 fun _ b7=> ?_
 have bB:=hf.pL 2 3 4 5 6 7 8 9 10 11
 iterate 5 refine Zy ?_
 refine fp fun K Z=> ?_
 go_simp
 try simp (disch:=omega) only [Fc.W]
 try rw [e4]
 apply Z.out;clear Z K
 iterate 5 refine Zy ?_
 refine Fc.nil (r6 1 hf ?_)
 clear hf s0 bB;intro a7 hf s1
 refine Zx b7 (k8 ?_)
 exact Fc.o9 rfl hf s1 ⟨by rw [HL.out],Below.refl _ _⟩
theorem u0a (w:World) (p:Nat) (sv:Value) (init:Nat) (ss:List State) (c0:w.cell? ⟨p,0,none⟩=some sv) (c1:w.cell? ⟨p,1,none⟩=some (.int .u64 init)) (o7:RS w sv ss) (hlen:ss.length<=1000000) (a8:∀ s∈ss,J8 s) (h0:rightF ss init=true) (K0:init<y5):G4 w 71 #[.pointer (some ⟨p,0,none⟩)] (.bool (yX ss init)):=by
 refine S8 10 Tryz.func71 fun fr hf s0=> ?_
 obtain ⟨A,cc,rfl,Z3⟩:=o7.form
 have D5:∀ (k:Nat) (st:State),ss[k]? =some st->okArcs k (-1) st.a6=true:=fun k st hk=>aG (E0 h0) hk
 refine Ze fun _ b7=>Zr [] hf ?_
 refine r6 0 hf ?_
 clear hf s0;intro a7 hf s0
 refine Zt b7 fun _ b7=> ?_
 have bB:=hf.B5 5 6 4 7 8
 refine Zy ?_
 refine Zc (z2g w _ init ss o7 hlen a8 D5 K0) ?_;rintro e w1 ⟨⟨v,rfl⟩,n7⟩
 refine Zv ?_
 iterate 5 refine Zy ?_
 refine Fc.nil (r6 3 hf ?_)
 clear hf s0 bB;intro a7 hf s3
 refine Zs b7 fun _ b7=>Zr [9] hf ?_
 refine r6 1 hf ?_
 clear hf s3;intro a7 hf s1
 refine Zx b7 (k8 ?_)
 exact Fc.o9 rfl hf s1 ⟨rfl,n7⟩
end Dw
end Go.Proofs.YtcddnmhmcieebaaGreatDoor
