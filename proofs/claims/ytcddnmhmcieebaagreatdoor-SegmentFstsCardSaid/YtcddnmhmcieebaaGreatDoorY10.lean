import Derived.Test.YtcddnmhmcieebaaGreatDoorY9
namespace Go.Proofs.YtcddnmhmcieebaaGreatDoor
set_option linter.unusedSimpArgs false
set_option linter.unusedVariables false
set_option linter.unnecessarySimpa false
set_option maxHeartbeats 4000000
set_option maxRecDepth 100000
open Go.RowKit
namespace Dw
def dW (n:Nat):Array Value:=madeCells #[.int .u64 0,.bool false,.bool false] (n*3)
theorem EA (w:World) (n:Nat) (hn:n<=5000000):(Instr.makeSlice 234 (.int .i64 n) (.int .i64 n)).run Tryz.prog w= .ok (.slice (some ⟨w.heap.size,0,none⟩) n n) (w.alloc (.cells (dW n) 192)):=by
 obtain ⟨i,hi,h2⟩:=Option.map_eq_some_iff.1 (show (Tryz.prog.info? 192).map (fun i=>(i.zero,i.size,i.bytes))=some (some (.agg #[.int .u64 0,.bool false,.bool false]),3,24) by kernel_rfl)
 obtain ⟨h3,h4,h5⟩:=(by simpa only [Prod.mk.injEq] using h2:_/\_/\_)
 have h:=run_makeSlice (P:=Tryz.prog) w 234 192 i _ Tryz.underlying234 hi h3 .i64 .i64 n n oM (Int.le_refl _) (by rw [h4];omega) (by rw [h5];omega) oM
 have e:(Value.agg #[.int .u64 0,.bool false,.bool false]).cells= #[.int .u64 0,.bool false,.bool false]:=rfl
 rw [h4,e,Int.toNat_natCast] at h
 exact h
theorem TU {w W:World} {a b z c d:Array Value} {t u y v x:TypeId} (h:((((w.alloc (.cells a t)).alloc (.cells b u)).alloc (.cells z y)).alloc (.cells c v)).alloc (.cells d x)=W):Below w.heap.size w W/\W.heap[w.heap.size]? =some (.cells a t (0,0))/\W.heap[w.heap.size+1]? =some (.cells b u (0,0))/\W.heap[w.heap.size+1+1]? =some (.cells z y (0,0))/\W.heap[w.heap.size+1+1+1]? =some (.cells c v (0,0))/\W.heap[w.heap.size+1+1+1+1]? =some (.cells d x (0,0))/\W.heap.size=w.heap.size+1+1+1+2:=by
 obtain ⟨X,hX⟩:∃ y,w.alloc (.cells a t)=y:=⟨_,rfl⟩
 rw [hX] at h
 obtain ⟨h1,h2,h3,h4,h5,h6⟩:=GY h
 have hs:X.heap.size=w.heap.size+1:=by rw [<- hX];simp
 rw [hs] at h1 h2 h3 h4 h5 h6
 have h0:Below w.heap.size w X:=by rw [<- hX];exact (Below.refl _ _).alloc nR _
 refine ⟨h0.trans (h1.mono oM),(h1.block _ oM).trans (by rw [<- hX,y9,if_pos rfl]),h2,h3,h4,h5,h6⟩
def RM (w:World) (G:Nat) (l:List C0):Prop:=∃ cur,w.heap[G]? =some (.cells cur 192 (0,0))/\∀ (j:Nat) (m:C0),l[j]? =some m->cur[j*3]? =some (.int .u64 m.n)/\cur[j*3+1]? =some (.bool m.fits)/\cur[j*3+2]? =some (.bool m.any)
theorem RM.start {w:World} {G n:Nat} {o:State->C0} {wi:C0->C0->Nat->C0} {ss:List State} (h:w.heap[G]? =some (.cells (dW n) 192 (0,0))):RM w G (cN (⟨0,false,false⟩:C0) n (r6 (⟨0,false,false⟩:C0) o wi (ss.take 0))):=by
 refine ⟨_,h,fun j m hm=> ?_⟩
 simp [cN,r6,List.getElem?_replicate] at hm
 obtain ⟨hj,rfl⟩:=hm
 have m0:j*3%3=0:=oM
 have m1:(j*3+1)%3=1:=oM
 have m2:(j*3+2)%3=2:=oM
 refine ⟨?_,?_,?_⟩
 ·rw [Array.getElem?_eq_getElem (by unfold dW;rw [size_madeCells];omega)];simp [dW,madeCells,m0]
 ·rw [Array.getElem?_eq_getElem (by unfold dW;rw [size_madeCells];omega)];simp [dW,madeCells,m1]
 ·rw [Array.getElem?_eq_getElem (by unfold dW;rw [size_madeCells];omega)];simp [dW,madeCells,m2]
theorem RM.cell {w:World} {G j:Nat} {x:C0} {l:List C0} (h:RM w G l) (hx:l[j]? =some x):w.cell? ⟨G,j*3,none⟩=some (.int .u64 x.n)/\w.cell? ⟨G,j*3+1,none⟩=some (.bool x.fits)/\w.cell? ⟨G,j*3+2,none⟩=some (.bool x.any):=by
 obtain ⟨cur,hg,hc⟩:=h
 obtain ⟨h0,h1,h2⟩:=hc j x hx
 exact ⟨(cell_of_row _ _ _ _ 192 (0,0) hg).trans h0,(cell_of_row _ _ _ _ 192 (0,0) hg).trans h1,(cell_of_row _ _ _ _ 192 (0,0) hg).trans h2⟩
theorem RM.frozen {w:World} {G j:Nat} {l:List C0} (h:RM w G l):w.frozen? ⟨G,j,none⟩=false:=by
 obtain ⟨cur,hg,hc⟩:=h
 exact j6 (i:=j) hg
theorem RM.lt {w:World} {G:Nat} {l:List C0} (h:RM w G l):G<w.heap.size:=by obtain ⟨cur,hg,hc⟩:=h;exact j5 hg
theorem RM.later {w w':World} {G:Nat} {l:List C0} (h:RM w G l) (hb:Below w.heap.size w w'):RM w' G l:=by obtain ⟨cur,hg,hc⟩:=h;exact ⟨cur,(hb.block _ (j5 hg)).trans hg,hc⟩
theorem RM.stays {G B:Nat} {l:List C0} (hG:G<B):l3 (aF fun _=>False) B (fun W=>RM W G l):=l3.ex fun _=>l3.and (l3.block (.inl hG)) (l3.pure _ _ _)
theorem RM.set {w W:World} {G i:Nat} {l:List C0} {x:C0} (h:RM w G l) (hW:((w.setCell ⟨G,i*3,none⟩ (.int .u64 x.n)).setCell ⟨G,i*3+1,none⟩ (.bool x.fits)).setCell ⟨G,i*3+2,none⟩ (.bool x.any)=W):RM W G (l.set i x):=by
 subst hW
 obtain ⟨cur,hg,hc⟩:=h
 refine ⟨_,k7 (k7 (k7 hg _) _) _,fun j m hm=> ?_⟩
 rcases Nat.decEq i j with F0 | rfl
 ·rw [List.getElem?_set_ne F0] at hm
  obtain ⟨h0,h1,h2⟩:=hc j m hm
  simp only [Array.getElem?_setIfInBounds]
  refine ⟨?_,?_,?_⟩
  ·rw [if_neg (by omega),if_neg (by omega),if_neg (by omega)];exact h0
  ·rw [if_neg (by omega),if_neg (by omega),if_neg (by omega)];exact h1
  ·rw [if_neg (by omega),if_neg (by omega),if_neg (by omega)];exact h2
 ·have o9:i<l.length:=by have:=(H2 hm).1;simpa using this
  rw [List.getElem?_set_self o9] at hm
  cases hm
  obtain ⟨h0,h1,h2⟩:=hc i _ (F8 o9)
  have hz:=(Array.getElem?_eq_some_iff.1 h2).1
  simp only [Array.getElem?_setIfInBounds,Array.size_setIfInBounds]
  refine ⟨?_,?_,?_⟩
  ·rw [if_neg (by omega),if_neg (by omega),if_pos True.intro,if_pos (by omega)]
  ·rw [if_neg (by omega),if_pos True.intro,if_pos (by omega)]
  ·rw [if_pos True.intro,if_pos (by omega)]
theorem ZL {w W:World} {G i:Nat} {a b c:Value} (h:((w.setCell ⟨G,i*3,none⟩ a).setCell ⟨G,i*3+1,none⟩ b).setCell ⟨G,i*3+2,none⟩ c=W):CK G w W/\KeepsOthers w W/\(∀ B,B<=G->Below B w W)/\W.heap.size=w.heap.size/\∀ k,k≠G->W.heap[k]? =w.heap[k]? :=by
 obtain ⟨a1,a2,a3,a4,a5⟩:=Mt (w:=w) (G:=G) (i:=i*3) (v:=a) rfl
 obtain ⟨b1,b2,b3,b4,b5⟩:=Mt (w:=w.setCell ⟨G,i*3,none⟩ a) (G:=G) (i:=i*3+1) (v:=b) rfl
 obtain ⟨c1,c2,c3,c4,c5⟩:=Mt h
 exact ⟨a1.trans (b1.trans c1),a2.trans (b2.trans c2),fun B hB=>(a3 B hB).trans ((b3 B hB).trans (c3 B hB)),c4.trans (b4.trans a4),fun k hk=>(c5 k hk).trans ((b5 k hk).trans (a5 k hk))⟩
theorem ZM {w W:World} {g n n2:Nat} {b c b2 c2:Bool} (hg:w.heap[g]? =some (.cells #[.int .u64 n2,.bool b2,.bool c2] 192 (0,0))) (h:((w.setCell ⟨g,0,none⟩ (.int .u64 n)).setCell ⟨g,1,none⟩ (.bool b)).setCell ⟨g,2,none⟩ (.bool c)=W) :
  W.heap[g]? =some (.cells #[.int .u64 n,.bool b,.bool c] 192 (0,0))/\(∀ B,B<=g->Below B w W)/\∀ k,k≠g->W.heap[k]? =w.heap[k]? :=by
 obtain ⟨-, -,a3, -,a5⟩:=ZL (i:=0) h
 subst h
 exact ⟨(k7 (k7 (k7 hg _) _) _).trans sP,a3,a5⟩
theorem Mu {g1 g2:Nat} (o:State->C0) (wi:C0->C0->Nat->C0) (w:World) (sv:Value) (init:Nat) (ss:List State) (o8:RS w sv ss) (hlen:ss.length<=1000000) (Ok:Nat->C0->Prop) (eg1:∀ args w,(callFunc g1 args).run Tryz.prog w= .ok (.enter g1 args) w) (eg2:∀ args w,(callFunc g2 args).run Tryz.prog w= .ok (.enter g2 args) w)
    (ho:∀ i st,ss[i]? =some st->Ok i (o st)) (hw:∀ i j x c u,Ok i x->j<i->Ok j c->u<18446744073709551616->Ok i (wi x c u)) (a6:∀ s∈ss,L3 s) (D6:∀ (k:Nat) (st:State),ss[k]? =some st->okArcs k (-1) st.j4=true)
    (H8:∀ (W:World) (av:Value) (i:Nat) (st:State),ss[i]? =some st->(∃ A n c,av= .slice A n c)->Calls Tryz.prog g1 #[.agg #[av,.bool st.final,.int .u64 st.out]] W fun e W'=>e= .returned ((o st).val)/\Below W.heap.size W W')
    (Mv:∀ (W:World) (i j:Nat) (x c:C0) (u:Nat),Ok i x->j<i->Ok j c->u<18446744073709551616->Calls Tryz.prog g2 #[(x).val,(c).val,.int .u64 u] W fun e W'=>e= .returned ((wi x c u).val)/\Below W.heap.size W W'):E2 w 110 #[.agg #[sv,.int .u64 init],.func (.func g1) #[] #[],.func (.func g2) #[] #[]] (((r6 (⟨0,false,false⟩:C0) o wi ss).getLastD (⟨0,false,false⟩:C0)).val):=by
 refine xX Tryz.func110 rfl ?_
 refine Fc.en 62 fun fr hf hT=> ?_
 have s0:=hT 0 _ rfl
 have s1:=hT 1 _ rfl
 have s2:=hT 2 _ rfl
 clear hT
 obtain ⟨A,cc,rfl,U0⟩:=o8.form
 have hmk:=fun w=>EA w ss.length oM
 refine Ze fun _ a8=>Zr [] hf ?_
 refine z8 1 3 5 6 hf ?_
 clear hf s0 s1 s2;intro a7 hf sS
 refine Zs a8 fun _ a8=>Zr [12,13,14,15,7] hf ?_
 refine D2 1 3 5 6 7 hf ?_
 intro a7 hf sS
 generalize P2:((((w.alloc (.cells #[.slice A ss.length cc,.int .u64 init] 38)).alloc (.cells #[.func (.func g2) #[] #[]] 197)).alloc (.cells #[.int .u64 0,.bool false,.bool false] 192)).alloc (.cells (dW ss.length) 192)).alloc (.cells #[.slice (some ⟨w.heap.size+1+1+1,0,none⟩) ss.length ss.length] 234)=W1
 obtain ⟨p6,E3,C9,cA,J1,fP,jT⟩:=TU P2
 clear P2 hmk
 obtain ⟨G,hG⟩:∃ x,w.heap.size+1+1+1=x:=⟨_,rfl⟩
 obtain ⟨s1,s3,s5,s6,s7⟩:=sS
 rw [hG] at J1 fP s7 jT
 have hg0:w.heap.size<G:=oM
 have Mw:w.heap.size+1<G:=oM
 have hg6:w.heap.size+1+1<G:=oM
 have c0:=n5 0 E3;have c1:=n5 1 E3;have d0:=n5 0 C9;have e0:=n5 0 fP
 simp at c0 c1 d0 e0
 have cP:RM W1 G (cN (⟨0,false,false⟩:C0) ss.length (r6 (⟨0,false,false⟩:C0) o wi (ss.take 0))):=RM.start J1
 have Q7:=o8.n.below p6
 clear E3 C9 J1 fP o8 hG
 refine Zs a8 fun _ a8=>Ze fun _ j8=>Zr [16,17] hf ?_
 refine mF 1 3 5 6 7 17 18 19 hf ?_
 clear hf s1 s3 s5 s6 s7;intro a7 hf sS
 refine Zx j8 (wp_block (wp_loop_ghost (fun gk fr wr=>∃ (i:Nat) (ds:List Deferred),gk=ss.length-i/\i<=ss.length/\Fc.K1 ds 62 fr/\fr.tmps[1]? =some (.func (.func g1) #[] #[])/\fr.tmps[3]? =some (.pointer (some ⟨w.heap.size,0,none⟩))/\fr.tmps[5]? =some (.pointer (some ⟨(w.heap.size+1),0,none⟩))/\fr.tmps[6]? =some (.pointer (some ⟨(w.heap.size+1+1),0,none⟩))/\fr.tmps[7]? =some (.pointer (some ⟨(G+1),0,none⟩))/\fr.tmps[17]? =some (.slice A ss.length cc)/\fr.tmps[18]? =some (.int .i64 ss.length)/\fr.tmps[19]? =some (.int .i64 i)/\P8 G ds wr.heap.size wr/\CK G W1 wr/\RM wr G (cN (⟨0,false,false⟩:C0) ss.length (r6 (⟨0,false,false⟩:C0) o wi (ss.take i)))/\pL wr w.heap.size (.slice A ss.length cc) ss/\Below w.heap.size w wr) (ss.length) ?_ ?_))
 . (
 obtain ⟨s1,s3,s5,s6,s7,G7,Q0,K9⟩:=sS
 exact ⟨0,[],rfl,Nat.zero_le _,hf,s1,s3,s5,s6,s7,G7,Q0,K9,trivial,CK.refl _ _,cP,Q7,p6⟩)
 . (
 clear hf sS
 clear cP Q7
 rintro gk fr wr ⟨i,ds,dA,hi,hf,s1,s3,s5,s6,s7,G7,Q0,K9,R8,Z8,cP,Q7,hb⟩
 have HK:=H9 dA;clear dA
 refine Ze fun _ j8=>Zr [] hf ?_
 refine tZ 1 3 5 6 7 17 18 19 20 hf ?_
 clear hf s1 s3 s5 s6 s7 G7 Q0 K9;intro a7 hf sS
 refine Zs j8 fun _ j8=>Fc.l0 sS.2.2.2.2.2.2.2.2 (fun hq=> ?_) (fun hq=> ?_)
 . (
 have o9:i<ss.length:=qT
 clear hq
 obtain ⟨st,A8⟩:∃ x,ss[i]? =some x:=⟨_,F8 o9⟩
 obtain ⟨bb,off,av,zV,hbN,C7⟩:=Q7.at_ A8
 subst zV
 have x0:=C7.c0;have x1:=C7.c1;have x2:=C7.c2
 obtain ⟨A2,c2,Z3,uG⟩:=C7.j4.form
 subst Z3
 clear C7
 have C8:=Z8.1
 refine wp_skip (Zs j8 fun _ j8=>wp_block (Ze fun _ l8=>Zr [21,22,23,8,9] hf ?_))
 refine qm 1 3 5 6 7 8 9 17 18 19 20 21 22 23 hf ?_
 intro a7 hf sS
 generalize mK:(wr.alloc (.cells #[.int .i64 i] 3)).alloc (.cells #[.slice A2 st.j4.length c2,.bool st.final,.int .u64 st.out] 46)=W4
 obtain ⟨U4,TV,iC⟩:=D8 mK
 clear mK x0 x1 x2
 have k0:=n5 0 TV;have y0:=n5 0 iC;have y1:=n5 1 iC;have y2:=n5 2 iC
 simp at k0 y0 y1 y2
 clear TV iC
 replace Z8:=Z8.trans (CK.r9 U4)
 replace R8:=R8.below U4.size U4
 replace cP:=cP.later U4
 replace Q7:=Q7.below (U4.mono hb.size)
 replace hb:=hb.trans (U4.mono hb.size)
 have mL:=Z8.2.1 _ _ sQ e0
 obtain ⟨q8,rv⟩:∃ x,wr.heap.size=x:=⟨_,rfl⟩
 have ZN:G<q8:=by rw [<- rv];omega
 obtain ⟨s1,s3,s5,s6,s7,s8,s9,G7,Q0,K9,N5,S9,X6,Q3⟩:=sS
 rw [rv] at s8 s9 k0 y0 y1 y2 C8
 refine Zs l8 fun _ l8=>Sb.tb 62 fun a6=> ?_
 have lf:=H9 fun (w9:World) (h9:Below _ _ w9)=>ad (cL h9 mL) (ad (cL h9 k0) (ad (cL h9 y0) (ad (cL h9 y1) (cL h9 y2))))
 refine Sb.T 0 hf a6 ?_ (hF:=fun _ _ h d=>ad (Sb.O h s7) (lf.out _ h.ext))
 refine Sb.T 1 hf a6 ?_ (hF:=fun _ _ h d=>ad (Sb.O h s8) (lf.out _ h.ext))
 refine Sb.mO 2 s1 hf a6 ?_
 refine Sb.T 3 hf a6 ?_ (hF:=fun _ _ h d=>ad (Sb.O h s9) (lf.out _ h.ext))
 apply Sb.tq 4 _ hf a6
 . (
 intro a7 w1 hh hd hk K Z
 have aG:=Sb.v 2 1 hd hk []
 have S0:=Sb.v 3 0 hd hk []
 clear hd
 have L1:=lf.out _ hh.ext;(try clear mL k0 y0 y1 y2);obtain ⟨mL,k0,y0,y1,y2⟩:=L1
 refine gH (g:=g1) (args:= #[.agg #[.slice A2 st.j4.length c2,.bool st.final,.int .u64 st.out]]) (by simp [execOp,go_sem,aG,S0,eg1]) (H8 _ _ _ _ A8 ⟨_,_,_,rfl⟩) ?_
 rintro e w2 ⟨rfl,hb⟩
 exact ⟨_,rfl,Z.out _ rfl _ _ hb rfl⟩)
 refine Tl.G5 (n:=62) (m:=5) (ws:=[]) kR hf.size a6.out rfl rfl kR (fun a7 w1 hh hg=> ?_)
 replace s1:=Sb.O hh s1
 replace s3:=Sb.O hh s3
 replace s5:=Sb.O hh s5
 replace s6:=Sb.O hh s6
 replace s7:=Sb.O hh s7
 replace s8:=Sb.O hh s8
 replace s9:=Sb.O hh s9
 replace G7:=Sb.O hh G7
 replace Q0:=Sb.O hh Q0
 replace K9:=Sb.O hh K9
 replace N5:=Sb.O hh N5
 replace S9:=Sb.O hh S9
 replace X6:=Sb.O hh X6
 replace Q3:=Sb.O hh Q3
 have dL:=Tl.z7 0 4 hg rfl rfl rfl rfl rfl
 have Z9:=Tl.z7 1 3 hg rfl rfl rfl rfl rfl
 have aG:=Tl.z7 2 2 hg rfl rfl rfl rfl rfl
 have S0:=Tl.z7 3 1 hg rfl rfl rfl rfl rfl
 have bT:=Tl.z7 4 0 hg rfl rfl rfl rfl rfl
 have y5:Fc.K1 ds 62 a7:=⟨hh.size.trans hf.size,hh.defers.trans hf.defers⟩
 have hx:=hh.ext
 have L1:=lf.out _ hx;(try clear mL k0 y0 y1 y2);clear lf;obtain ⟨mL,k0,y0,y1,y2⟩:=L1
 clear hg hh hf a6
 have hf:=y5;clear y5
 have ML:=hf.b 29
 replace Z8:=Z8.trans (CK.r9 hx)
 replace R8:=R8.below hx.size hx
 replace cP:=cP.later hx
 replace Q7:=Q7.below (hx.mono hb.size)
 replace hb:=hb.trans (hx.mono hb.size)
 have JZ:(r6 (⟨0,false,false⟩:C0) o wi (ss.take i)).length=i:=S3 i hi
 have fz0:=cP.frozen (j:=i*3)
 have Ja:=cP.frozen (j:=i*3+1)
 have SU:=cP.frozen (j:=i*3+2)
 obtain ⟨z1o,z1n,z1m⟩:=cP.cell (F8 (by rw [qX oM];exact o9))
 refine Tl.J5 rfl rfl (fun K Z=> ?_)
 go_simp
 try rw [if_pos (by omega)]
 apply Z.out;clear Z K
 simp only [C0.val] at bT
 refine Tl.J5 rfl rfl (fun K Z=> ?_)
 go_simp
 apply Z.out;clear Z K
 refine Tl.L8 rfl ?_
 refine Fc.q hf (by simp only [Fc.G]) rfl fun a7 y5 hT=> ?_
 have J8:_/\_/\_/\_/\_/\_/\_/\_/\_/\_/\_/\_/\_/\_/\_/\_/\_/\_/\_/\_:=⟨hT 1,hT 3,hT 5,hT 6,hT 7,hT 8,hT 9,hT 17,hT 18,hT 19,hT 20,hT 21,hT 22,hT 23,hT 24,hT 25,hT 26,hT 27,hT 28,hT 29⟩
 simp (decide:=true) only [Fc.G,hf.size,reduceIte,s1,s3,s5,s6,s7,s8,s9,G7,Q0,K9,N5,S9,X6,Q3,dL,Z9,aG,S0,bT] at J8
 replace hf:=y5;clear hT y5 s1 s3 s5 s6 s7 s8 s9 G7 Q0 K9 N5 S9 X6 Q3 dL Z9 aG S0 bT ML
 obtain ⟨s1,s3,s5,s6,s7,s8,s9,G7,Q0,K9,N5,S9,X6,Q3,dL,Z9,aG,S0,bT,cT⟩:=J8
 refine Zx l8 ?_
 generalize cS:((w1.setCell ⟨G,i*3,none⟩ (.int .u64 (o st).n)).setCell ⟨G,i*3+1,none⟩ (.bool (o st).fits)).setCell ⟨G,i*3+2,none⟩ (.bool (o st).any)=W5
 obtain ⟨cB, -,jZ,Wm,TW⟩:=ZL cS
 replace Z8:=Z8.trans cB
 replace R8:=R8.turn (Nat.le_of_eq Wm.symm) fun D hD _ hh=>(TW D oM).trans hh
 replace cP:=cP.set cS
 replace Q7:=Q7.ck oM cB
 replace hb:=hb.trans (jZ _ oM)
 have Mx:=Z8.2.1 _ _ sQ c0;have c1w:=Z8.2.1 _ _ sQ c1
 replace k0:=cB.2.1 _ _ sQ k0
 clear mL y0 y1 y2 fz0 Ja SU z1o z1n z1m cS hx TW jZ
 have My:=Q7.rs
 refine Ze fun _ l8=>rg ?_
 have bB:=hf.B2 30 31
 iterate 2 refine Zy ?_
 refine Zc (xY W5 _ init i ss My) ?_;rintro e W6 ⟨rfl,u0,u1,v0,C4, -, -⟩
 have hN6:w.heap.size<=W5.heap.size:=hb.size
 clear My cB
 have ZP:=cP.lt
 replace Z8:=Z8.trans (CK.r9 C4)
 replace R8:=R8.below C4.size C4
 replace cP:=cP.later C4
 replace Q7:=Q7.below (C4.mono hb.size)
 replace hb:=hb.trans (C4.mono hb.size)
 replace k0:=cL C4 k0
 obtain ⟨q6,EB⟩:∃ x,W5.heap.size=x:=⟨_,rfl⟩
 have ru:G<q6:=by rw [<- EB];exact ZP
 rw [EB] at u0 u1 v0 |-
 skip
 refine Zv ?_
 refine Fc.nil ?_
 clear bB
 refine Fc.q hf (by simp only [Fc.G]) rfl fun a7 y5 hT=> ?_
 have J8:_/\_/\_/\_/\_/\_/\_/\_/\_/\_/\_/\_/\_/\_/\_/\_/\_/\_/\_/\_/\_/\_/\_:=⟨hT 1,hT 3,hT 5,hT 6,hT 7,hT 8,hT 9,hT 17,hT 18,hT 19,hT 20,hT 21,hT 22,hT 23,hT 24,hT 25,hT 26,hT 27,hT 28,hT 29,hT 30,hT 31,hT 32⟩
 simp (decide:=true) only [Fc.G,hf.size,reduceIte,s1,s3,s5,s6,s7,s8,s9,G7,Q0,K9,N5,S9,X6,Q3,dL,Z9,aG,S0,bT,cT] at J8
 replace hf:=y5;clear hT y5 s1 s3 s5 s6 s7 s8 s9 G7 Q0 K9 N5 S9 X6 Q3 dL Z9 aG S0 bT cT
 obtain ⟨s1,s3,s5,s6,s7,s8,s9,G7,Q0,K9,N5,S9,X6,Q3,dL,Z9,aG,S0,bT,cT,kG,Mz,TX⟩:=J8
 refine Zx l8 (wp_block ?_)
 have ZQ:G<W6.heap.size:=cP.lt
 have rq:w.heap.size<=W6.heap.size:=hb.size
 have Z7:=D6 _ _ A8
 have MM:=vM (9-1) q6 (q6+1) G w.heap.size init i ss st _ W6 oM ZQ rq (by have:=ru;omega) (by have:=ru;omega) u0 u1 v0 Q7 A8 oM Z7 (Nat.le_trans (qY Z7 (a6 _ (T9 A8))) oM)
 refine (wpIn_wide (n:=9)).1 ?_
 refine dX (C:=fun _=>False) (Fc.l5 TX) (enters_of Tryz.func156 kR rfl) MM CK.trans (fun W o o' ho hc _=>CK.put o' ho hc) (Below.refl _ _) (fun _=>rfl) (fun pre W=>CK G W6 W/\RM W G (((cN (⟨0,false,false⟩:C0) ss.length (r6 (⟨0,false,false⟩:C0) o wi (ss.take i)))).set i (bF (⟨0,false,false⟩:C0) wi (r6 (⟨0,false,false⟩:C0) o wi (ss.take i)) (o st) pre))/\Below w.heap.size w W/\P8 G ds W6.heap.size W) (fun _ _ _=>False) (fun s=>l3.and l3.ck (l3.and (RM.stays ZQ) (l3.and (l3.below nR rq) (l3.rp nR)))) (fun _ _=>l3.pure _ _ _) ⟨CK.refl _ _,cP,hb,R8⟩ (fun (x:u3) a' W=>∃ Bx,(Fc.Fr 62 a'/\a'.tmps[5]? =some (.pointer (some ⟨(w.heap.size+1),0,none⟩))/\a'.tmps[7]? =some (.pointer (some ⟨(G+1),0,none⟩))/\a'.tmps[8]? =some (.pointer (some ⟨q8,0,none⟩))/\a'.tmps[11]? =some (.pointer (some ⟨Bx,0,none⟩)))/\(W.cell? ⟨Bx,0,none⟩=some (.int .i64 x.to)/\W.cell? ⟨Bx,1,none⟩=some (.int .u64 x.out))) (fun x a'=>l3.ex fun Bx=>l3.and (l3.pure _ _ _) (l3.and l3.cell l3.cell)) ?_ ?_ ?_ ?_
 . (
 rintro l pre x W K ⟨uH,xZ,F9,Jb⟩ ZR
 refine pM (M:=fun a=>Code.wpIn _ _ _ _ _ a _) hf rfl rfl rfl fun a1 y5 h33 rm hold=> ?_
 have s5:=(hold 5 rfl rfl).trans s5;have s7:=(hold 7 rfl rfl).trans s7;have s8:=(hold 8 rfl rfl).trans s8;have Wn:=rm
 clear hold h33 rm
 have hf:=y5;clear y5
 refine Inr.MN (r:=some l) ?_
 have ma:=hf.b 11
 refine Inr.dM fun K Z=> ?_
 go_simp
 apply Z.out;clear Z K
 refine Inr.dM fun K Z=> ?_
 go_simp
 apply Z.out;clear Z K
 refine Inr.mM ?_
 refine z8 5 7 8 11 hf ?_
 clear hf s5 s7 s8 Wn ma;intro a7 hf sS
 refine Fc.j7 ?_
 generalize fH:W.alloc (.cells #[.int .i64 x.to,.int .u64 x.out] 233)=W7
 obtain ⟨B1,b0,b1, -, -⟩:=P7 fH
 obtain ⟨s5,s7,s8,D9⟩:=sS
 exact ZR _ _ ((L9 B1).from _) (CK.r9 B1) ⟨uH.trans (CK.r9 B1),xZ.later B1,F9.trans (B1.mono F9.size),Jb.turn nR fun D _ _ hh=>(B1.block D (j5 hh)).trans hh⟩ ⟨_,⟨hf,s5,s7,s8,D9⟩,b0,b1⟩)
 . (
 clear hf s1 s3 s5 s6 s7 s8 s9 G7 Q0 K9 N5 S9 X6 Q3 dL Z9 aG S0 bT cT kG Mz TX
 rintro l pre x a1 W hl _ ⟨uH,xZ,F9,Jb⟩ ⟨Bx,⟨hf,s5,s7,s8,D9⟩,z0,z1⟩ yA
 have MP:x∈st.j4:=yA.subset sP
 have hxt:=E9 Z7 MP
 obtain ⟨c,hc⟩:∃ c:Nat,x.to=(c:Int):=⟨x.to.toNat,oM⟩
 rw [hc] at z0
 have TY:c<i:=oM
 have rk:=GZ (z:=(⟨0,false,false⟩:C0)) ho hw a6 D6 A8 pre ((List.prefix_append _ _).trans yA)
 have rj:=fQ (z:=(⟨0,false,false⟩:C0)) ho hw a6 D6 i hi c ((r6 (⟨0,false,false⟩:C0) o wi (ss.take i)).getD c (⟨0,false,false⟩:C0)) (by rw [List.getD_eq_getElem?_getD,F8 oM];rfl)
 have DV:=((a6 _ (T9 A8)).2.2 x MP).2.1
 have kH:=dY (z:=(⟨0,false,false⟩:C0)) (wi:=wi) (r6 (⟨0,false,false⟩:C0) o wi (ss.take i)) (o st) pre x
 rw [show x.to.toNat=c by omega] at kH
 obtain ⟨X,hX⟩:∃ y,bF (⟨0,false,false⟩:C0) wi (r6 (⟨0,false,false⟩:C0) o wi (ss.take i)) (o st) pre=y:=⟨_,rfl⟩
 obtain ⟨Y,hY⟩:∃ y,(r6 (⟨0,false,false⟩:C0) o wi (ss.take i)).getD c (⟨0,false,false⟩:C0)=y:=⟨_,rfl⟩
 rw [hX] at rk kH xZ
 rw [hY] at rj kH
 have rx:=Ga (z:=(⟨0,false,false⟩:C0)) (n:=ss.length) X JZ o9
 have ry:=Aq (z:=(⟨0,false,false⟩:C0)) (n:=ss.length) X JZ TY
 rw [hY] at ry
 obtain ⟨ZS,ZT,ZU⟩:=xZ.cell (rx)
 obtain ⟨ri,rh,rf⟩:=xZ.cell (ry)
 clear rx ry
 have NA:=uH.2.1 _ _ sQ (Z8.2.1 _ _ sQ d0);have mL:=uH.2.1 _ _ sQ (Z8.2.1 _ _ sQ e0);have NB:=uH.2.1 _ _ (by simp only;have:=ZN;omega) k0
 have HX:=H9 hX;have HY:=H9 hY;have HC:=H9 hc;have Jc:=H9 kH;clear hX hY hc kH
 refine wpIn_block ?_
 refine Inr.EC (r:=some l) (k:=62) (fun ⟨_,_,h⟩=>h) (Sb.OkOps.of kR) (fun a6=> ?_)
 have lf:=H9 fun (w9:World) (h9:Below _ _ w9)=>ad (cL h9 NA) (ad (cL h9 mL) (ad (cL h9 NB) (ad (cL h9 z0) (ad (cL h9 z1) (ad (cL h9 ZS) (ad (cL h9 ZT) (ad (cL h9 ZU) (ad (cL h9 ri) (ad (cL h9 rh) (cL h9 rf))))))))))
 refine Sb.T 0 hf a6 ?_ (hF:=fun _ _ h d=>ad (Sb.O h s7) (lf.out _ h.ext))
 refine Sb.T 1 hf a6 ?_ (hF:=fun _ _ h d=>ad (Sb.O h s8) (lf.out _ h.ext))
 refine Sb.T 2 hf a6 ?_ (hF:=fun _ _ h d=>ad (Sb.O h s5) (lf.out _ h.ext))
 refine Sb.T 3 hf a6 ?_ (hF:=fun _ _ h d=>ad (Sb.O h s7) (lf.out _ h.ext))
 refine Sb.T 4 hf a6 ?_ (hF:=fun _ _ h d=>ad (Sb.O h s8) (lf.out _ h.ext))
 refine Sb.T 5 hf a6 ?_
 refine Sb.T 6 hf a6 ?_ (hF:=fun _ _ h d=>lf.out _ h.ext)
 refine Sb.T 7 hf a6 ?_ (hF:=fun _ _ h d=>ad (Sb.O h s7) (lf.out _ h.ext))
 refine Sb.T 8 hf a6 ?_ (hF:=fun _ _ h d=>Sb.O h D9)
 refine Sb.T 9 hf a6 ?_ (hF:=fun _ _ h d=>lf.out _ h.ext)
 refine Sb.T 10 hf a6 ?_
 refine Sb.T 11 hf a6 ?_ (hF:=fun _ _ h d=>lf.out _ h.ext)
 refine Sb.T 12 hf a6 ?_ (hF:=fun _ _ h d=>Sb.O h D9)
 refine Sb.T 13 hf a6 ?_ (hF:=fun _ _ h d=>lf.out _ h.ext)
 apply Sb.tq 14 _ hf a6
 . (
 intro a7 w1 hh hd hk K Z
 have ZV:=Sb.v 2 11 hd hk []
 have At:=Sb.v 6 7 hd hk []
 have DW:=Sb.v 11 2 hd hk []
 have Jd:=Sb.v 13 0 hd hk []
 clear hd
 have L1:=lf.out _ hh.ext;(try clear NA mL NB z0 z1 ZS ZT ZU ri rh rf);obtain ⟨NA,mL,NB,z0,z1,ZS,ZT,ZU,ri,rh,rf⟩:=L1
 refine gH (g:=g2) (args:= #[(X).val,(Y).val,.int .u64 x.out]) (by simp [execOp,go_sem,ZV,At,DW,Jd,eg2,C0.val]) (Mv _ i c X Y x.out rk TY rj DV) ?_
 rintro e w2 ⟨rfl,N0⟩
 exact ⟨_,rfl,Z.out _ rfl _ _ N0 rfl⟩)
 refine Tl.G5 (n:=62) (m:=15) (ws:=[]) kR hf.size a6.out rfl rfl kR (fun a7 w1 hh hg=> ?_)
 have ZW:=Tl.z7 0 14 hg rfl rfl rfl rfl rfl
 have vN:=Tl.z7 1 13 hg rfl rfl rfl rfl rfl
 have zY:=Tl.z7 14 0 hg rfl rfl rfl rfl rfl
 have y5:=hh.fr hf
 have hx:=hh.ext
 have L1:=lf.out _ hx;(try clear NA mL NB z0 z1 ZS ZT ZU ri rh rf);clear lf;obtain ⟨NA,mL,NB,z0,z1,ZS,ZT,ZU,ri,rh,rf⟩:=L1
 clear hg hh hf a6 s5 s7 s8 D9
 have hf:=y5;clear y5
 have b50:=hf.b 50
 have ZX:=xZ.later hx
 have fz0:=ZX.frozen (j:=i*3)
 have Ja:=ZX.frozen (j:=i*3+1)
 have SU:=ZX.frozen (j:=i*3+2)
 refine Tl.J5 rfl rfl (fun K Z=> ?_)
 go_simp
 try rw [if_pos (by omega)]
 apply Z.out;clear Z K
 simp only [C0.val] at zY
 refine Tl.J5 rfl rfl (fun K Z=> ?_)
 go_simp
 apply Z.out;clear Z K
 refine Tl.L8 rfl ?_
 refine Dq hf ?_
 clear hf ZW vN zY b50;intro a7 hf
 refine Fc.j9 ?_
 generalize mP:((w1.setCell ⟨G,i*3,none⟩ (.int .u64 (wi X Y x.out).n)).setCell ⟨G,i*3+1,none⟩ (.bool (wi X Y x.out).fits)).setCell ⟨G,i*3+2,none⟩ (.bool (wi X Y x.out).any)=W9
 obtain ⟨cB,hko,jZ, -,TW⟩:=ZL mP
 refine ⟨((L9 hx).trans hko).from _,(CK.r9 hx).trans cB,(uH.trans (CK.r9 hx)).trans cB,?_,(F9.trans (hx.mono F9.size)).trans (jZ _ oM),(Jb.turn nR fun D _ _ hh=>(hx.block D (j5 hh)).trans hh).turn nR fun D hD _ hh=>(TW D oM).trans hh⟩
 have h:=ZX.set mP
 rw [List.set_set] at h
 rw [Jc.out]
 exact h)
 . (
 clear k0
 rintro D xs W hD rfl ⟨uH,xZ,F9,Jb⟩ ED
 refine Fc.reQ (n:=62) (ds:={ target:= .collected D,args:= #[] }::ds) hf.size (by rw [hf.defers]) (fun Wp Az hT=> ?_)
 have s1:=(hT 1).trans s1
 have s3:=(hT 3).trans s3
 have s5:=(hT 5).trans s5
 have s6:=(hT 6).trans s6
 have s7:=(hT 7).trans s7
 have G7:=(hT 17).trans G7
 have Q0:=(hT 18).trans Q0
 have K9:=(hT 19).trans K9
 clear hT hf
 have hf:=Az;clear Az
 replace Z8:=Z8.trans uH
 replace Q7:=Q7.ck oM uH
 rw [vP _ JZ o9, <- T0 A8] at xZ
 have ZY:P8 G ({ target:= .collected D,args:= #[] }::ds) W.heap.size W:=⟨D,rfl,Nat.lt_of_lt_of_le ZQ hD,j5 ED,ED,Jb.turn hD fun _ _ _ hh=>hh⟩
 clear R8 uH Jb cP hb MM u0 u1 v0 ED
 refine Fc.j9 (Fc.j9 (Zx j8 (Zr [51] hf ?_)))
 refine tZ 1 3 5 6 7 17 18 19 51 hf ?_
 clear hf s1 s3 s5 s6 s7 G7 Q0 K9;intro a7 hf sS
 refine Fc.j7 ?_
 obtain ⟨s1,s3,s5,s6,s7,G7,Q0,K9,qQ⟩:=sS
 exact ⟨_,by have:=HK.out;omega,i+1,_,rfl,oM,hf,s1,s3,s5,s6,s7,G7,Q0,by rw [K9];rfl,ZY,Z8,xZ,Q7,F9⟩)
 . (
 rintro D c pre W _ _ h _
 exact h.elim))
 . (
 have C3:i=ss.length:=qF
 clear hq
 rw [C3,List.take_length] at cP
 have mL:=Z8.2.1 _ _ sQ e0
 rw [vQ (P3 _)] at cP
 replace cA:=Z8.2.2 _ _ oM rfl cA
 refine Zo ?_
 refine Zs a8 fun _ a8=>Ze fun _ j8=>Zr [52,53] hf ?_
 refine y7 6 7 54 hf ?_
 intro a7 hf sS
 refine Zx j8 (Fc.l0 sS.2.2 (fun C5=> ?_) (fun C5=> ?_))
 . (
 obtain ⟨k,hk⟩:∃ k,ss.length=k+1:=⟨ss.length-1,by have h9:=of_decide_eq_true C5;omega⟩
 clear C5
 have e4:IntKind.i64.wrap ((ss.length:Int)-1)=(k:Int):=by rw [Fc.wrap_i64 oM oM];omega
 have TZ:=P3 (z:=(⟨0,false,false⟩:C0)) (o:=o) (wi:=wi) ss
 have tW:k<(r6 (⟨0,false,false⟩:C0) o wi ss).length:=oM
 obtain ⟨ZS,ZT,ZU⟩:=cP.cell (F8 tW)
 have Je:(r6 (⟨0,false,false⟩:C0) o wi ss).getLastD (⟨0,false,false⟩:C0)=(r6 (⟨0,false,false⟩:C0) o wi ss)[k]:=by rw [List.getLastD_eq_getLast?,List.getLast?_eq_getElem?,TZ,hk,Nat.add_sub_cancel,F8 tW];rfl
 obtain ⟨X,hX⟩:∃ y,(r6 (⟨0,false,false⟩:C0) o wi ss)[k]=y:=⟨_,rfl⟩
 rw [hX] at Je ZS ZT ZU
 have q0:=n5 0 cA;have f0:=j6 (i:=0) cA
 have q1:=n5 1 cA;have f1:=j6 (i:=1) cA
 have q2:=n5 2 cA;have f2:=j6 (i:=2) cA
 simp at q0 q1 q2
 refine rg ?_
 have bB:=hf.B6 55 56 57 58 59 60
 iterate 3 refine Zy ?_
 refine fp fun K Z=> ?_
 go_simp
 try simp (disch:=omega) only [Fc.W]
 try rw [e4]
 apply Z.out;clear Z K
 iterate 3 refine Zy ?_
 refine Fc.nil (p5 6 hf ?_)
 intro a7 hf s6
 generalize sy:((wr.setCell ⟨w.heap.size+1+1,0,none⟩ (.int .u64 (X).n)).setCell ⟨w.heap.size+1+1,1,none⟩ (.bool (X).fits)).setCell ⟨w.heap.size+1+1,2,none⟩ (.bool (X).any)=V1
 obtain ⟨cA,DX,Wq⟩:=ZM cA sy
 replace hb:=hb.trans (DX _ oM)
 replace R8:=R8.turn nR fun D hD _ hh=>(Wq D oM).trans hh
 clear DX Wq sy
 have q0:=n5 0 cA;have f0:=j6 (i:=0) cA
 have q1:=n5 1 cA;have f1:=j6 (i:=1) cA
 have q2:=n5 2 cA;have f2:=j6 (i:=2) cA
 simp at q0 q1 q2
 refine Zs a8 fun _ a8=>Zr [61] hf ?_
 refine p5 6 hf ?_
 clear hf s6;intro a7 hf s6
 refine Zx a8 (k8 ?_)
 generalize Wr:((V1.setCell ⟨w.heap.size+1+1,0,none⟩ (.int .u64 (X).n)).setCell ⟨w.heap.size+1+1,1,none⟩ (.bool (X).fits)).setCell ⟨w.heap.size+1+1,2,none⟩ (.bool (X).any)=V2
 obtain ⟨cA,DX,Wq⟩:=ZM cA Wr
 replace hb:=hb.trans (DX _ oM)
 replace R8:=R8.turn nR fun D hD _ hh=>(Wq D oM).trans hh
 clear DX Wq Wr
 exact Ws rfl hf s6 cA oM Tryz.underlying192 rfl kR R8 fun w' hw=>⟨by rw [Je];rfl,hb.trans (hw.mono oM)⟩)
 . (
 have Yx:ss=[]:=by have h9:=of_decide_eq_false C5;exact List.length_eq_zero_iff.1 oM
 clear C5
 have q0:=n5 0 cA;have f0:=j6 (i:=0) cA
 have q1:=n5 1 cA;have f1:=j6 (i:=1) cA
 have q2:=n5 2 cA;have f2:=j6 (i:=2) cA
 simp at q0 q1 q2
 refine wp_skip (Zs a8 fun _ a8=>Zr [61] hf ?_)
 refine p5 6 hf ?_
 intro a7 hf s6
 refine Zx a8 (k8 ?_)
 generalize Wr:((wr.setCell ⟨w.heap.size+1+1,0,none⟩ (.int .u64 0)).setCell ⟨w.heap.size+1+1,1,none⟩ (.bool false)).setCell ⟨w.heap.size+1+1,2,none⟩ (.bool false)=V2
 obtain ⟨cA,DX,Wq⟩:=ZM cA Wr
 replace hb:=hb.trans (DX _ oM)
 replace R8:=R8.turn nR fun D hD _ hh=>(Wq D oM).trans hh
 clear DX Wq Wr
 exact Ws rfl hf s6 cA oM Tryz.underlying192 rfl kR R8 fun w' hw=>⟨by rw [Yx];rfl,hb.trans (hw.mono oM)⟩)))
def Jf (st:State):Int:=if st.final then 1 else 0
def Jg (x c:Int) (_:Nat):Int:=min (x+c) 100001
def pB (ss:List State):Int:=(r6 0 Jf Jg ss).getLastD 0
def BA (st:State):Int:=if st.final then 0 else -1
def BB (ss:List State):Int:=(r6 0 BA (fun x c _=>qZ x c) ss).getLastD 0
def sx (st:State):C0:=⟨st.out,true,st.final⟩
def nz (x c:C0) (u:Nat):C0:=x.or ⟨(c.n+u)%q9,c.fits&&decide (c.n+u<q9),c.any⟩
def Gb (ss:List State):C0:=(r6 ⟨0,false,false⟩ sx nz ss).getLastD ⟨0,false,false⟩
def yB (ss:List State) (init:Nat):Bool:=(Gb ss).any&&((Gb ss).fits&&decide ((Gb ss).n+init<q9)&&decide (((Gb ss).n+init)%q9<=4294967296))
theorem Gc {α:Type} {z:α} {o:State->α} {wi:α->α->Nat->α} {ss:List State} {Ok:Nat->α->Prop} (ho:∀ i st,ss[i]? =some st->Ok i (o st)) (hw:∀ i j x c u,Ok i x->j<i->Ok j c->u<18446744073709551616->Ok i (wi x c u))
  (a6:∀ s∈ss,L3 s) (D6:∀ (k:Nat) (st:State),ss[k]? =some st->okArcs k (-1) st.j4=true) (hz:Ok 0 z):∃ i,Ok i ((r6 z o wi ss).getLastD z):=by
 rw [List.getLastD_eq_getLast?]
 cases h:(r6 z o wi ss).getLast? with
 | none=>exact ⟨0,hz⟩
 | some x =>
  rw [List.getLast?_eq_getElem?] at h
  refine ⟨_,fQ (z:=z) ho hw a6 D6 ss.length nR ((r6 z o wi ss).length-1) x ?_⟩
  rw [List.take_length]
  exact h
def nW (_:Nat) (x:Int):Prop:=0<=x/\x<=100001
theorem Wt (ss:List State):∀ i st,ss[i]? =some st->nW i (Jf st):=fun i st _=>by unfold nW Jf;split<;>omega
theorem Wu:∀ (i j:Nat) (x c:Int) (u:Nat),nW i x->j<i->nW j c->u<18446744073709551616->nW i (Jg x c u):=fun i j x c u h1 _ h2 _=>by unfold nW Jg at *;omega
def nX (i:Nat) (x:Int):Prop:= -1<=x/\x<=i/\i<=1000000
theorem sw (ss:List State) (hlen:ss.length<=1000000):∀ i st,ss[i]? =some st->nX i (BA st):=fun i st h=>by have:=(H2 h).1;unfold nX BA;split<;>omega
theorem sr:∀ (i j:Nat) (x c:Int) (u:Nat),nX i x->j<i->nX j c->u<18446744073709551616->nX i (qZ x c):=fun i j x c u h1 h3 h2 _=>by unfold nX qZ at *;split<;>omega
def EE (_:Nat) (m:C0):Prop:=m.n<q9
theorem sn (ss:List State) (a6:∀ s∈ss,L3 s):∀ i st,ss[i]? =some st->EE i (sx st):=fun i st h=>(a6 _ (T9 h)).1
theorem sj:∀ (i j:Nat) (x c:C0) (u:Nat),EE i x->j<i->EE j c->u<18446744073709551616->EE i (nz x c u):=fun i j x c u h1 _ h2 _=>by
 unfold EE nz C0.or q9 at *
 split
 ·split
  ·simp only;omega
  ·simp only;omega
 ·exact h1
theorem Gd (ss:List State) (hlen:ss.length<=1000000) (a6:∀ s∈ss,L3 s) (D6:∀ (k:Nat) (st:State),ss[k]? =some st->okArcs k (-1) st.j4=true):0<=pB ss/\pB ss<=100001:=by
 obtain ⟨i,h⟩:=Gc (Wt ss) Wu a6 D6 (z:=0) (by unfold nW;omega)
 exact h
theorem ZZ (ss:List State) (hlen:ss.length<=1000000) (a6:∀ s∈ss,L3 s) (D6:∀ (k:Nat) (st:State),ss[k]? =some st->okArcs k (-1) st.j4=true):(Gb ss).n<q9:=by
 obtain ⟨i,h⟩:=Gc (sn ss a6) sj a6 D6 (z:=⟨0,false,false⟩) (by unfold EE q9;simp only;omega)
 exact h
theorem Zf (w:World) (sv:Value) (init:Nat) (ss:List State) (o8:RS w sv ss) (hlen:ss.length<=1000000) (a6:∀ s∈ss,L3 s) (D6:∀ (k:Nat) (st:State),ss[k]? =some st->okArcs k (-1) st.j4=true):E2 w 105 #[.agg #[sv,.int .u64 init],.func (.func 106) #[] #[],.func (.func 107) #[] #[]] (.int .i64 (pB ss)):=by
 refine BC Jf Jg w sv init ss o8 hlen nW (enters_of Tryz.func106 kR rfl) (enters_of Tryz.func107 kR rfl) (Wt ss) Wu a6 D6 ?_ ?_
 ·intro W av i st _ Z3
  unfold Jf
  cases p7:st.final with
  | false=>exact si W av st.out Z3
  | true=>exact sg W av st.out Z3
 ·intro W i j x c u h1 _ h2 _
  obtain ⟨a,rfl⟩:=Int.eq_ofNat_of_zero_le h1.1
  obtain ⟨b,rfl⟩:=Int.eq_ofNat_of_zero_le h2.1
  have h3:=h1.2
  have h4:=h2.2
  refine (z1i W a b (.int .u64 u) oM oM).mono ?_
  rintro e w2 ⟨rfl,rfl⟩
  exact ⟨by unfold Jg;congr 2;omega,Below.refl _ _⟩
theorem z1h (w:World) (sv:Value) (init:Nat) (ss:List State) (o8:RS w sv ss) (hlen:ss.length<=1000000) (a6:∀ s∈ss,L3 s) (D6:∀ (k:Nat) (st:State),ss[k]? =some st->okArcs k (-1) st.j4=true):E2 w 105 #[.agg #[sv,.int .u64 init],.func (.func 108) #[] #[],.func (.func 109) #[] #[]] (.int .i64 (BB ss)):=by
 refine BC BA (fun x c _=>qZ x c) w sv init ss o8 hlen nX (enters_of Tryz.func108 kR rfl) (enters_of Tryz.func109 kR rfl) (sw ss hlen) sr a6 D6 ?_ ?_
 ·intro W av i st _ Z3
  unfold BA
  cases p7:st.final with
  | false=>exact se W av st.out Z3
  | true=>exact sd W av st.out Z3
 ·intro W i j x c u h1 _ h2 _
  unfold nX at h1 h2
  rcases Int.lt_or_le c 0 with h | h
  ·refine (sb W x c (.int .u64 u) oM oM h).mono ?_
   rintro e w2 ⟨rfl,rfl⟩
   exact ⟨rfl,Below.refl _ _⟩
  ·refine (sa W x c (.int .u64 u) oM oM h).mono ?_
   rintro e w2 ⟨rfl,rfl⟩
   exact ⟨rfl,Below.refl _ _⟩
theorem tz (w:World) (sv:Value) (init:Nat) (ss:List State) (o8:RS w sv ss) (hlen:ss.length<=1000000) (a6:∀ s∈ss,L3 s) (D6:∀ (k:Nat) (st:State),ss[k]? =some st->okArcs k (-1) st.j4=true):Calls Tryz.prog 110 #[.agg #[sv,.int .u64 init],.func (.func 111) #[] #[],.func (.func 112) #[] #[]] w fun e w1=>e= .returned (Gb ss).val/\Below w.heap.size w w1:=by
 refine Mu sx nz w sv init ss o8 hlen EE (enters_of Tryz.func111 kR rfl) (enters_of Tryz.func112 kR rfl) (sn ss a6) sj a6 D6 ?_ ?_
 ·intro W av i st _ Z3
  exact z1g W av st.final st.out Z3
 ·rintro W i j ⟨n,fm,am⟩ ⟨k,fx,ax⟩ u _ _ h2 hu
  exact z1f W n k u fm fx am ax h2 hu
theorem Tb (w:World) (sv:Value) (init:Nat) (ss:List State) (o8:RS w sv ss) (hlen:ss.length<=1000000) (a6:∀ s∈ss,L3 s) (D6:∀ (k:Nat) (st:State),ss[k]? =some st->okArcs k (-1) st.j4=true):E2 w 67 #[.agg #[sv,.int .u64 init]] (.tuple #[.int .i64 (if 100000<pB ss then 0 else pB ss),.bool (decide (pB ss<=100000))]):=by
 refine L7 10 Tryz.func67 fun fr hf s0=> ?_
 obtain ⟨A,cc,rfl,U0⟩:=o8.form
 obtain ⟨SV,AA⟩:=Gd ss hlen a6 D6
 refine Ze fun _ a8=>Zr [] hf ?_
 refine p5 1 hf ?_
 clear hf s0;intro a7 hf s1
 generalize p8:w.alloc (.cells #[.slice A ss.length cc,.int .u64 init] 38)=W0
 obtain ⟨o7,c0,c1, -, -⟩:=P7 p8
 clear p8
 replace o8:=o8.later o7
 refine Zt a8 fun _ a8=> ?_
 have bB:=hf.B2 5 6
 refine Zy ?_
 refine Zc (Zf W0 _ init ss o8 hlen a6 D6) ?_;rintro e w1 ⟨rfl,p6⟩
 obtain ⟨n,hn⟩:∃ x,pB ss=x:=⟨_,rfl⟩
 rw [hn] at SV AA |-
 have HN:=H9 hn
 have hb:=o7.trans (p6.mono o7.size)
 clear o8 hn c0 c1 o7 p6
 refine Zv ?_
 refine Zy ?_
 refine Fc.nil (p5 4 hf ?_)
 clear hf s1 bB;intro a7 hf s4
 refine Zs a8 fun _ a8=>Ze fun _ j8=>Zr [7] hf ?_
 refine y4 4 8 hf ?_
 clear hf s4;intro a7 hf sS
 refine Zx j8 (Fc.l0 sS.2 (fun hq=> ?_) (fun hq=> ?_))
 . (
 have h9:=of_decide_eq_true hq
 clear hq
 refine Ze fun _ j8=>Zr [] hf ?_
 refine y4 2 3 hf ?_
 intro a7 hf sS
 refine Zx j8 (k8 ?_)
 exact Fc.H6 rfl hf sS.1 sS.2 ⟨by rw [HN.out,if_pos (by omega),decide_eq_false oM],hb⟩)
 . (
 have h9:=of_decide_eq_false hq
 clear hq
 refine wp_skip (Zs a8 fun _ a8=>Zr [9] hf ?_)
 refine y4 2 3 hf ?_
 intro a7 hf sS
 refine Zx a8 (k8 ?_)
 exact Fc.H6 rfl hf sS.1 sS.2 ⟨by rw [HN.out,if_neg (by omega),decide_eq_true oM],hb⟩)
theorem Jh (w:World) (sv:Value) (init:Nat) (ss:List State) (o8:RS w sv ss) (hlen:ss.length<=1000000) (a6:∀ s∈ss,L3 s) (D6:∀ (k:Nat) (st:State),ss[k]? =some st->okArcs k (-1) st.j4=true) (h0:0<ss.length):E2 w 69 #[.agg #[sv,.int .u64 init]] (.int .i64 (BB ss)):=by
 refine L7 9 Tryz.func69 fun fr hf s0=> ?_
 obtain ⟨A,cc,rfl,U0⟩:=o8.form
 have q1:((ss.length:Int)==0)=false:=beq_eq_false_iff_ne.2 oM
 refine Ze fun _ a8=>Zr [] hf ?_
 refine p5 1 hf ?_
 clear hf s0;intro a7 hf s1
 generalize p8:w.alloc (.cells #[.slice A ss.length cc,.int .u64 init] 38)=W0
 obtain ⟨o7,c0,c1, -, -⟩:=P7 p8
 clear p8
 replace o8:=o8.later o7
 refine Zs a8 fun _ a8=>Ze fun _ j8=>Zr [3,4,5] hf ?_
 refine y4 1 6 hf ?_
 clear hf s1;intro a7 hf sS
 refine Zx j8 (Fc.k9 sS.2 ?_)
 clear q1
 refine wp_skip (Zt a8 fun _ a8=> ?_)
 have bB:=hf.B2 7 8
 refine Zy ?_
 refine Zc (z1h W0 _ init ss o8 hlen a6 D6) ?_;rintro e w1 ⟨rfl,p6⟩
 have hb:=o7.trans (p6.mono o7.size)
 clear o8 c0 c1 o7 p6
 refine Zv ?_
 refine Zy ?_
 refine Fc.nil (p5 2 hf ?_)
 intro a7 hf s2
 refine Zx a8 (k8 ?_)
 exact Fc.o6 rfl hf s2 ⟨rfl,hb⟩
theorem EF (w:World) (sv:Value) (init:Nat) (ss:List State) (o8:RS w sv ss) (hlen:ss.length<=1000000) (a6:∀ s∈ss,L3 s) (D6:∀ (k:Nat) (st:State),ss[k]? =some st->okArcs k (-1) st.j4=true) (D7:init<q9):Calls Tryz.prog 72 #[.agg #[sv,.int .u64 init]] w fun e w1=>(∃ v,e= .returned (.tuple #[v,.bool (yB ss init)]))/\Below w.heap.size w w1:=by
 refine L7 25 Tryz.func72 fun fr hf s0=> ?_
 obtain ⟨A,cc,rfl,U0⟩:=o8.form
 have hgm:=ZZ ss hlen a6 D6
 refine Ze fun _ a8=>Zr [] hf ?_
 refine p5 1 hf ?_
 clear hf s0;intro a7 hf s1
 generalize p8:w.alloc (.cells #[.slice A ss.length cc,.int .u64 init] 38)=W0
 obtain ⟨o7,c0,c1, -, -⟩:=P7 p8
 clear p8
 replace o8:=o8.later o7
 refine Zt a8 fun _ a8=> ?_
 have bB:=hf.B3 5 6 4
 refine Zy ?_
 refine Zc (tz W0 _ init ss o8 hlen a6 D6) ?_;rintro e w1 ⟨rfl,p6⟩
 obtain ⟨⟨n,ft,an⟩,hn⟩:∃ x,Gb ss=x:=⟨_,rfl⟩
 rw [hn] at hgm |-
 have HG:=H9 (show yB ss init=(an&&(ft&&decide (n+init<q9)&&decide ((n+init)%q9<=4294967296))) by unfold yB;rw [hn])
 simp only [C0.val]
 replace c1:=cL p6 c1
 have hb:=o7.trans (p6.mono o7.size)
 clear o8 hn c0 o7 p6
 refine Zv ?_
 iterate 2 refine Zy ?_
 refine Fc.nil (y4 1 4 hf ?_)
 clear hf s1 bB;intro a7 hf sS
 generalize Y4:w1.alloc (.cells #[.int .u64 n,.bool ft,.bool an] 192)=W2
 obtain ⟨r8,m0,m1,m2,hm, -⟩:=E7 Y4
 obtain ⟨g,hg⟩:∃ x,w1.heap.size=x:=⟨_,rfl⟩
 have SW:w.heap.size<=g:=by rw [<- hg];exact hb.size
 replace c1:=cL r8 c1
 replace hb:=hb.trans (r8.mono hb.size)
 obtain ⟨s1,s4⟩:=sS
 rw [hg] at m0 m1 m2 hm s4
 clear Y4 r8 hg
 refine Zs a8 fun _ a8=>Ze fun _ j8=>rg ?_
 have bB:=hf.B6 7 8 9 10 11 12
 iterate 4 refine Zy ?_
 refine Zc (mQ W2 n init ft hgm D7) ?_;rintro e w3 ⟨rfl,G4⟩
 obtain ⟨sm,N6⟩:∃ x,(n+init)%q9=x:=⟨_,rfl⟩
 obtain ⟨sf,AB⟩:∃ x,(ft&&decide (n+init<q9))=x:=⟨_,rfl⟩
 rw [N6,AB]
 replace hm:=(G4.block _ (j5 hm)).trans hm
 replace hb:=hb.trans (G4.mono hb.size)
 replace m0:=cL G4 m0
 replace m1:=cL G4 m1
 replace m2:=cL G4 m2
 have f0:=j6 (i:=0) hm;have f1:=j6 (i:=1) hm
 clear G4 c1
 refine Zv ?_
 iterate 2 refine Zy ?_
 refine Fc.nil (p5 4 hf ?_)
 clear hf s1 s4 bB;intro a7 hf s4
 generalize mK:(w3.setCell ⟨g,0,none⟩ (.int .u64 sm)).setCell ⟨g,1,none⟩ (.bool sf)=W4
 replace hm:W4.heap[g]? =some (.cells #[.int .u64 sm,.bool sf,.bool an] 192 (0,0)):=by rw [<- mK];exact (k7 (k7 hm _) _).trans sP
 replace hb:=(hb.setCell (p:=⟨g,0,none⟩) SW (.int .u64 sm)).setCell (p:=⟨g,1,none⟩) SW (.bool sf);rw [mK] at hb
 clear m0 m1 m2 f0 f1 mK
 have m0:=n5 0 hm;have m1:=n5 1 hm;have m2:=n5 2 hm
 simp at m0 m1 m2
 refine Zx j8 ?_
 rcases han:an with _ | _
 . (
 refine Ze fun _ j8=>Zr [13,14,15,16,17,18,19,20] hf ?_
 refine y4 4 21 hf ?_
 clear hf s4;intro a7 hf sS
 refine Zx j8 (Fc.l7 sS.2 ?_)
 refine Ze fun _ j8=>Zr [] hf ?_
 refine y4 2 3 hf ?_
 intro a7 hf sS
 refine Zx j8 (k8 ?_)
 exact Fc.H6 rfl hf sS.1 sS.2 ⟨⟨_,by rw [HG.out,han];rfl⟩,hb⟩)
 . (
 refine Ze fun _ j8=>rg ?_
 have bB:=hf.B8 13 14 15 16 17 18 19 20
 iterate 6 refine Zy ?_
 refine Zd (NC W4 sm sf) ?_;rintro e w5 ⟨rfl,F3⟩
 generalize hi:(sf&&decide (sm<=4294967296))=is
 replace hb:=hb.trans (F3.mono hb.size)
 replace m0:=cL F3 m0
 refine Zv ?_
 iterate 2 refine Zy ?_
 refine Fc.nil (y4 4 21 hf ?_)
 clear hf s4 bB;intro a7 hf sS
 refine Zx j8 (Fc.l0 sS.2 (fun hq=> ?_) (fun hq=> ?_))
 . (
 have ND:is=false:=by simpa using hq
 clear hq
 subst ND
 refine Ze fun _ j8=>Zr [] hf ?_
 refine y4 2 3 hf ?_
 intro a7 hf sS
 refine Zx j8 (k8 ?_)
 exact Fc.H6 rfl hf sS.1 sS.2 ⟨⟨_,by rw [HG.out,han,N6,AB,hi];rfl⟩,hb⟩)
 . (
 have ND:is=true:=by simpa using hq
 clear hq
 subst ND
 refine wp_skip (Zs a8 fun _ a8=>Zr [22,23,24] hf ?_)
 refine y4 2 3 hf ?_
 intro a7 hf sS
 refine Zx a8 (k8 ?_)
 exact Fc.H6 rfl hf sS.1 sS.2 ⟨⟨_,by rw [HG.out,han,N6,AB,hi];rfl⟩,hb⟩))
theorem F6 {ss:List State} {init:Nat} (h:rightF ss init=true):D4 ss=true:=by
 unfold rightF at h
 cases hf:D4 ss with
 | true=>rfl
 | false=>rw [hf] at h;simp at h
def yC (ss:List State) (en:Int):Bool:=decide (pB ss<=100000)&&decide (pB ss=en)&&decide (0<pB ss)
def kJ (ss:List State):Bool:=(ss.getLast?.map State.final).getD false
theorem z1e (w:World) (p:Nat) (sv:Value) (init:Nat) (ss:List State) (c0:w.cell? ⟨p,0,none⟩=some sv) (c1:w.cell? ⟨p,1,none⟩=some (.int .u64 init)) (o8:RS w sv ss) (hlen:ss.length<=1000000) (a6:∀ s∈ss,L3 s):E2 w 64 #[.pointer (some ⟨p,0,none⟩)] (.bool (rightF ss init)):=by
 refine L7 4 Tryz.func64 fun fr hf s0=> ?_
 obtain ⟨A,cc,rfl,U0⟩:=o8.form
 refine Ze fun _ a8=>Zr [] hf ?_
 refine p5 0 hf ?_
 clear hf s0;intro a7 hf s0
 refine Zt a8 fun _ a8=> ?_
 have bB:=hf.B2 2 3
 refine Zy ?_
 refine Zc (Zh w _ init ss o8 a6 hlen) ?_;rintro e w1 ⟨rfl,p6⟩
 refine Zv ?_
 refine Zy ?_
 refine Fc.nil (p5 1 hf ?_)
 clear hf s0 bB;intro a7 hf s1
 refine Zx a8 (k8 ?_)
 exact Fc.o6 rfl hf s1 ⟨rfl,p6⟩
theorem z1d (w:World) (p:Nat) (sv:Value) (init:Nat) (ss:List State) (c0:w.cell? ⟨p,0,none⟩=some sv) (c1:w.cell? ⟨p,1,none⟩=some (.int .u64 init)) (o8:RS w sv ss) (hlen:ss.length<=1000000) (a6:∀ s∈ss,L3 s) (h0:rightF ss init=true) (pn:Nat) (en:Int) (n0:w.cell? ⟨pn,0,none⟩=some (.int .i64 en)):E2 w 66 #[.pointer (some ⟨p,0,none⟩),.pointer (some ⟨pn,0,none⟩)] (.bool (yC ss en)):=by
 refine Z6 20 Tryz.func66 fun fr hf s0 s1=> ?_
 obtain ⟨A,cc,rfl,U0⟩:=o8.form
 have D6:∀ (k:Nat) (st:State),ss[k]? =some st->okArcs k (-1) st.j4=true:=fun k st hk=>T1 (F6 h0) hk
 obtain ⟨SV,AA⟩:=Gd ss hlen a6 D6
 refine Ze fun _ a8=>Zr [] hf ?_
 refine y4 0 1 hf ?_
 clear hf s0 s1;intro a7 hf sS
 refine Zt a8 fun _ a8=> ?_
 have bB:=hf.B5 6 7 5 8 9
 refine Zy ?_
 refine Zc (Tb w _ init ss o8 hlen a6 D6) ?_;rintro e w1 ⟨rfl,p6⟩
 obtain ⟨n,hn⟩:∃ x,pB ss=x:=⟨_,rfl⟩
 rw [hn] at SV AA |-
 have HN:=H9 hn
 replace n0:=cL p6 n0
 clear hn c0 c1 o8
 refine Zv ?_
 iterate 5 refine Zy ?_
 refine Fc.nil (y7 1 3 4 hf ?_)
 intro a7 hf sS
 refine Zx a8 ?_
 rcases Int.lt_or_le 100000 n with o9 | o9
 . (
 have q1:decide (n<=100000)=false:=decide_eq_false oM
 have q2:(if (100000:Int)<n then (0:Int) else n)=0:=if_pos (by omega)
 obtain ⟨s1,s3,s4⟩:=sS
 rw [q1] at s4
 rw [q2] at s3
 refine Ze fun _ a8=>Zr [10,11,12,13,14,15,16,17,18,19] hf ?_
 refine p5 2 hf ?_
 clear hf s1 s3 s4;intro a7 hf s2
 refine Zx a8 (k8 ?_)
 exact Fc.o6 rfl hf s2 ⟨by unfold yC;rw [HN.out,q1];rfl,p6⟩)
 . (
 have q1:decide (n<=100000)=true:=decide_eq_true oM
 have q2:(if (100000:Int)<n then (0:Int) else n)=n:=if_neg (by omega)
 obtain ⟨s1,s3,s4⟩:=sS
 rw [q1] at s4
 rw [q2] at s3
 rcases Classical.em (n=en) with F0 | F0
 . (
 have q3:(n==en)=true:=beq_iff_eq.2 F0
 refine Ze fun _ a8=> ?_
 have qs:=q3
 refine Zr [10,11,12,13,14,15,16,17,18,19] hf ?_
 refine p5 2 hf ?_
 clear hf s1 s3 s4 qs;intro a7 hf s2
 refine Zx a8 (k8 ?_)
 exact Fc.o6 rfl hf s2 ⟨by unfold yC;rw [HN.out,q1,decide_eq_true F0,F0];rfl,p6⟩)
 . (
 have q3:(n==en)=false:=beq_eq_false_iff_ne.2 F0
 refine Ze fun _ a8=> ?_
 have qs:=q3
 refine Zr [10,11,12,13,14,15,16,17,18,19] hf ?_
 refine p5 2 hf ?_
 clear hf s1 s3 s4 qs;intro a7 hf s2
 refine Zx a8 (k8 ?_)
 exact Fc.o6 rfl hf s2 ⟨by unfold yC;rw [HN.out,q1,decide_eq_false F0];rfl,p6⟩))
theorem z1c (w:World) (p:Nat) (sv:Value) (init:Nat) (ss:List State) (c0:w.cell? ⟨p,0,none⟩=some sv) (c1:w.cell? ⟨p,1,none⟩=some (.int .u64 init)) (o8:RS w sv ss) (hlen:ss.length<=1000000) (a6:∀ s∈ss,L3 s) (h0:rightF ss init=true):E2 w 68 #[.pointer (some ⟨p,0,none⟩)] (.bool (decide (BB ss<=255))):=by
 refine L7 5 Tryz.func68 fun fr hf s0=> ?_
 obtain ⟨A,cc,rfl,U0⟩:=o8.form
 have D6:∀ (k:Nat) (st:State),ss[k]? =some st->okArcs k (-1) st.j4=true:=fun k st hk=>T1 (F6 h0) hk
 have hp:=bG (F6 h0)
 refine Ze fun _ a8=>Zr [] hf ?_
 refine p5 0 hf ?_
 clear hf s0;intro a7 hf s0
 refine Zt a8 fun _ a8=> ?_
 have bB:=hf.B3 2 3 4
 refine Zy ?_
 refine Zc (Jh w _ init ss o8 hlen a6 D6 hp) ?_;rintro e w1 ⟨rfl,p6⟩
 refine Zv ?_
 iterate 2 refine Zy ?_
 refine Fc.nil (p5 1 hf ?_)
 clear hf s0 bB;intro a7 hf s1
 refine Zx a8 (k8 ?_)
 exact Fc.o6 rfl hf s1 ⟨rfl,p6⟩
theorem z1b (w:World) (p:Nat) (sv:Value) (init:Nat) (ss:List State) (c0:w.cell? ⟨p,0,none⟩=some sv) (c1:w.cell? ⟨p,1,none⟩=some (.int .u64 init)) (o8:RS w sv ss) (hlen:ss.length<=1000000) (a6:∀ s∈ss,L3 s) (h0:rightF ss init=true):E2 w 70 #[.pointer (some ⟨p,0,none⟩)] (.bool (!kJ ss)):=by
 refine L7 12 Tryz.func70 fun fr hf s0=> ?_
 obtain ⟨A,cc,rfl,U0⟩:=o8.form
 obtain ⟨k,hk⟩:∃ k,ss.length=k+1:=⟨ss.length-1,by have:=bG (F6 h0);omega⟩
 obtain ⟨st,A8⟩:∃ x,ss[k]? =some x:=⟨_,F8 oM⟩
 have hl:kJ ss=st.final:=by unfold kJ;rw [List.getLast?_eq_getElem?,hk,Nat.add_sub_cancel,A8];rfl
 obtain ⟨bb,off,av,zV,C7⟩:=o8.at_ A8
 subst zV
 have x1:=C7.c1
 have e4:IntKind.i64.wrap ((ss.length:Int)-1)=(k:Int):=by rw [Fc.wrap_i64 oM oM];omega
 have HKK:=H9 hk;have HL:=H9 hl;have tW:k<ss.length:=oM
 clear hk A8 hl C7
 refine Ze fun _ a8=>Zr [] hf ?_
 refine p5 0 hf ?_
 clear hf s0;intro a7 hf s0
 refine Zt a8 fun _ a8=> ?_
 have bB:=hf.eW 2 3 4 5 6 7 8 9 10 11
 iterate 5 refine Zy ?_
 refine fp fun K Z=> ?_
 go_simp
 try simp (disch:=omega) only [Fc.W]
 try rw [e4]
 apply Z.out;clear Z K
 iterate 5 refine Zy ?_
 refine Fc.nil (p5 1 hf ?_)
 clear hf s0 bB;intro a7 hf s1
 refine Zx a8 (k8 ?_)
 exact Fc.o6 rfl hf s1 ⟨by rw [HL.out],Below.refl _ _⟩
theorem z0z (w:World) (p:Nat) (sv:Value) (init:Nat) (ss:List State) (c0:w.cell? ⟨p,0,none⟩=some sv) (c1:w.cell? ⟨p,1,none⟩=some (.int .u64 init)) (o8:RS w sv ss) (hlen:ss.length<=1000000) (a6:∀ s∈ss,L3 s) (h0:rightF ss init=true) (D7:init<q9):E2 w 71 #[.pointer (some ⟨p,0,none⟩)] (.bool (yB ss init)):=by
 refine L7 10 Tryz.func71 fun fr hf s0=> ?_
 obtain ⟨A,cc,rfl,U0⟩:=o8.form
 have D6:∀ (k:Nat) (st:State),ss[k]? =some st->okArcs k (-1) st.j4=true:=fun k st hk=>T1 (F6 h0) hk
 refine Ze fun _ a8=>Zr [] hf ?_
 refine p5 0 hf ?_
 clear hf s0;intro a7 hf s0
 refine Zt a8 fun _ a8=> ?_
 have bB:=hf.B5 5 6 4 7 8
 refine Zy ?_
 refine Zc (EF w _ init ss o8 hlen a6 D6 D7) ?_;rintro e w1 ⟨⟨v,rfl⟩,p6⟩
 refine Zv ?_
 iterate 5 refine Zy ?_
 refine Fc.nil (p5 3 hf ?_)
 clear hf s0 bB;intro a7 hf s3
 refine Zs a8 fun _ a8=>Zr [9] hf ?_
 refine p5 1 hf ?_
 clear hf s3;intro a7 hf s1
 refine Zx a8 (k8 ?_)
 exact Fc.o6 rfl hf s1 ⟨rfl,p6⟩
theorem kK {w W:World} {a:Array Value} {t:TypeId} (h:w.alloc (.cells a t)=W):Below w.heap.size w W/\W.heap[w.heap.size]? =some (.cells a t (0,0)):=by
 subst h
 exact ⟨(Below.refl _ w).alloc nR _,by rw [y9,if_pos rfl]⟩
def EG (ss:List State) (init:Nat) (en:Int):Nat->Bool
 | 0=>rightF ss init
 | 1=>yC ss en
 | 2=>decide (BB ss<=255)
 | 3=> !kJ ss
 | _=>yB ss init
def NF:Nat->Nat
 | 0=>64
 | 1=>66
 | 2=>68
 | 3=>70
 | _=>71
def Zj (p pn:Nat):Nat->Array Value
 | 1=> #[.pointer (some ⟨p,0,none⟩),.pointer (some ⟨pn,0,none⟩)]
 | _=> #[.pointer (some ⟨p,0,none⟩)]
def rightS (en:Int) (ss:List State) (init:Nat):Bool:=(List.range 5).all (EG ss init en)
theorem rA {en:Int} {ss:List State} {init:Nat} (h:∀ j,j<5->EG ss init en j=true):rightS en ss init=true:=List.all_eq_true.2 fun j hj=>h j (List.mem_range.1 hj)
theorem Ji {en:Int} {ss:List State} {init i:Nat} (hi:i<5) (h:EG ss init en i=false):rightS en ss init=false:=List.all_eq_false.2 ⟨i,List.mem_range.2 hi,by rw [h];simp⟩
theorem EH (i:Nat):∀ args w,(callFunc (NF i) args).run Tryz.prog w= .ok (.enter (NF i) args) w:=by
 match i with
 | 0=>exact enters_of Tryz.func64 kR rfl
 | 1=>exact enters_of Tryz.func66 kR rfl
 | 2=>exact enters_of Tryz.func68 kR rfl
 | 3=>exact enters_of Tryz.func70 kR rfl
 | i+4=>exact enters_of Tryz.func71 kR rfl
theorem Jj {W:World} {g q p:Nat} {t:TypeId} (h:W.heap[g]? =some (.cells #[.func (.func 64) #[] #[.pointer (some ⟨q,0,none⟩)],.func (.func 66) #[] #[.pointer (some ⟨q,0,none⟩),.pointer (some ⟨p,0,none⟩)],.func (.func 68) #[] #[.pointer (some ⟨q,0,none⟩)],.func (.func 70) #[] #[.pointer (some ⟨q,0,none⟩)],.func (.func 71) #[] #[.pointer (some ⟨q,0,none⟩)]] t (0,0))) {k:Nat} (hk:k<5):W.cell? ⟨g,k,none⟩=some (.func (.func (NF k)) #[] (Zj q p k)):=by
 rw [cell_of_row _ _ k _ t (0,0) h]
 match k,hk with
 | 0,_=>rfl
 | 1,_=>rfl
 | 2,_=>rfl
 | 3,_=>rfl
 | 4,_=>rfl
theorem asks (w:World) (i p pn:Nat) (sv:Value) (init:Nat) (ss:List State) (en:Int) (c0:w.cell? ⟨p,0,none⟩=some sv) (c1:w.cell? ⟨p,1,none⟩=some (.int .u64 init)) (n0:w.cell? ⟨pn,0,none⟩=some (.int .i64 en)) (o8:RS w sv ss) (hlen:ss.length<=1000000) (a6:∀ s∈ss,L3 s) (D7:init<q9)
  (hi:i<5) (J4:∀ j,j<i->EG ss init en j=true):Calls Tryz.prog (NF i) (Zj p pn i) w fun e w1=>e= .returned (.bool (EG ss init en i))/\Below w.heap.size w w1:=by
 match i,hi with
 | 0,_=>exact z1e w p sv init ss c0 c1 o8 hlen a6
 | 1,_=>exact z1d w p sv init ss c0 c1 o8 hlen a6 (J4 0 oM) pn en n0
 | 2,_=>exact z1c w p sv init ss c0 c1 o8 hlen a6 (J4 0 oM)
 | 3,_=>exact z1b w p sv init ss c0 c1 o8 hlen a6 (J4 0 oM)
 | 4,_=>exact z0z w p sv init ss c0 c1 o8 hlen a6 (J4 0 oM) D7
theorem Tc (w:World) (en:Int) (sv:Value) (init:Nat) (ss:List State) (o8:RS w sv ss) (hlen:ss.length<=1000000) (a6:∀ s∈ss,L3 s) (D7:init<q9):E2 w 38 #[.int .i64 en,.agg #[sv,.int .u64 init]] (.bool (rightS en ss init)):=by
 refine Z6 26 Tryz.func38 fun fr hf s0 s1=> ?_
 obtain ⟨A,cc,rfl,U0⟩:=o8.form
 refine Ze fun _ a8=>Zr [] hf ?_
 refine y7 2 3 4 hf ?_
 clear hf s0 s1;intro a7 hf sS
 obtain ⟨W0,p8⟩:∃ x,(w.alloc (.cells #[.int .i64 en] 3)).alloc (.cells #[.slice A ss.length cc,.int .u64 init] 38)=x:=⟨_,rfl⟩
 obtain ⟨s2,s3,s4⟩:=sS
 try simp only [World.size_alloc] at s3
 rw [p8]
 obtain ⟨o7,E3,C9⟩:=D8 p8
 clear p8
 have n0:=n5 0 E3;have c0:=n5 0 C9;have c1:=n5 1 C9
 simp at n0 c0 c1
 replace o8:=o8.later o7
 clear E3 C9
 obtain ⟨q,hq⟩:∃ x,w.heap.size+1=x:=⟨_,rfl⟩
 rw [hq] at s3 c0 c1
 clear hq
 refine Zx a8 (wp_scope_straight ?_)
 refine Ze fun _ a8=>Zr [8,9,10,11,12,13] hf ?_
 refine y4 4 5 hf ?_
 clear hf s2 s3 s4;intro a7 hf sS
 generalize P2:W0.alloc (.cells #[.func (.func 64) #[] #[.pointer (some ⟨q,0,none⟩)],.func (.func 66) #[] #[.pointer (some ⟨q,0,none⟩),.pointer (some ⟨w.heap.size,0,none⟩)],.func (.func 68) #[] #[.pointer (some ⟨q,0,none⟩)],.func (.func 70) #[] #[.pointer (some ⟨q,0,none⟩)],.func (.func 71) #[] #[.pointer (some ⟨q,0,none⟩)]] 25)=W1
 obtain ⟨p6,hS⟩:=kK P2
 clear P2
 have R8:∀ k,k<5->W1.cell? ⟨W0.heap.size,k,none⟩=some (.func (.func (NF k)) #[] (Zj q w.heap.size k)):=fun k hk=>Jj hS hk
 replace n0:=cL p6 n0;replace c0:=cL p6 c0;replace c1:=cL p6 c1;replace o8:=o8.later p6
 replace o7:=o7.trans (p6.mono o7.size)
 obtain ⟨S,nw⟩:∃ x,W0.heap.size=x:=⟨_,rfl⟩
 obtain ⟨s4,s5⟩:=sS
 rw [nw] at R8 s5
 clear p6 hS nw
 refine Zs a8 fun _ a8=>Zr [] hf ?_
 refine y4 4 5 hf ?_
 clear hf s4 s5;intro a7 hf sS
 refine Zs a8 fun _ a8=>wp_label ?_
 refine Zs a8 fun _ a8=>Ze fun _ j8=>Zr [14] hf ?_
 refine z8 4 14 15 16 hf ?_
 intro a7 hf sS
 refine Zx j8 (wp_block (wp_loop_ghost (fun gk fr wr=>∃ (i:Nat),gk=5-i/\i<=5/\Fc.Fr 26 fr/\fr.tmps[4]? =some (.bool true)/\fr.tmps[14]? =some (.slice (some ⟨S,0,none⟩) 5 5)/\fr.tmps[15]? =some (.int .i64 5)/\fr.tmps[16]? =some (.int .i64 i)/\(∀ j,j<i->EG ss init en j=true)/\Below W1.heap.size W1 wr) (5) ?_ ?_))
 . (
 obtain ⟨s4,S4,aQ,Y5⟩:=sS
 exact ⟨0,rfl,oM,hf,s4,S4,aQ,Y5,fun j hj=>absurd hj oM,Below.refl _ _⟩)
 . (
 clear hf sS
 rintro gk fr wr ⟨i,dA,hi,hf,s4,S4,aQ,Y5,J4,hb⟩
 have HK:=H9 dA;clear dA
 refine Ze fun _ j8=>Zr [] hf ?_
 refine D2 4 14 15 16 17 hf ?_
 clear hf s4 S4 aQ Y5;intro a7 hf sS
 refine Zs j8 fun _ j8=>Fc.l0 sS.2.2.2.2 (fun hq=> ?_) (fun hq=> ?_)
 . (
 have o9:i<5:=qT
 clear hq
 have TY:=cL hb (R8 i o9)
 have eg:=EH i
 refine wp_skip (Zs j8 fun _ j8=>wp_block (Ze fun _ l8=>Zr [18,19] hf ?_))
 refine z8 7 14 15 16 hf ?_
 intro a7 hf sS
 refine Zt l8 fun _ l8=> ?_
 have bB:=hf.B2 20 21
 refine Zy ?_
 refine fp fun K Z=> ?_
 go_simp
 refine (asks wr i q w.heap.size _ init ss en (cL hb c0) (cL hb c1) (cL hb n0) (o8.later hb) hlen a6 D7 o9 J4).mono ?_
 rintro e w1 ⟨rfl,p6⟩
 generalize JY:EG ss init en i=bk
 replace hb:=hb.trans (p6.mono hb.size)
 clear TY eg p6
 dsimp only
 apply Z.out;clear Z K
 refine Zy ?_
 refine Fc.nil (z8 4 14 15 16 hf ?_)
 intro a7 hf sS
 refine Zs l8 fun _ l8=>Zr [22] hf ?_
 refine D2 4 14 15 16 23 hf ?_
 intro a7 hf sS
 refine Zx l8 (Fc.l0 sS.2.2.2.2 (fun C5=> ?_) (fun C5=> ?_))
 . (
 have l6:bk=false:=by simpa using C5
 clear C5
 subst l6
 refine Zo ?_
 refine Zs a8 fun _ a8=>Zr [25] hf ?_
 refine p5 4 hf ?_
 intro a7 hf s4
 refine Zx a8 (k8 ?_)
 exact Fc.o6 rfl hf s4 ⟨by rw [Ji o9 JY],o7.trans (hb.mono o7.size)⟩)
 . (
 have l6:bk=true:=by simpa using C5
 clear C5
 subst l6
 refine wp_skip (Fc.j9 (Zx j8 (Zr [24] hf ?_)))
 refine z8 4 14 15 16 hf ?_
 intro a7 hf sS
 refine Fc.j7 ?_
 obtain ⟨s4,S4,aQ,Y5⟩:=sS
 exact ⟨_,by have:=HK.out;omega,i+1,rfl,oM,hf,s4,S4,aQ,by rw [Y5];rfl,fun j hj=>(Nat.lt_or_ge j i).elim (fun h=>J4 j h) (fun h=>Nat.le_antisymm h (Nat.le_of_lt_succ hj)▸JY),hb⟩))
 . (
 have C3:i=5:=qF
 clear hq
 subst C3
 refine Zo ?_
 refine Zs a8 fun _ a8=>Zr [25] hf ?_
 refine p5 4 hf ?_
 intro a7 hf s4
 refine Zx a8 (k8 ?_)
 exact Fc.o6 rfl hf s4 ⟨by rw [rA J4],o7.trans (hb.mono o7.size)⟩))
def Ww (w w1:World) (e:Ending) (s:ByteArray) (en init:Nat) (ss:List State):Bool->Prop
 | false=>e= .returned (.tuple #[.pointer none,.int .i64 12])/\Below w.heap.size w w1
 | true=>∃ S sv,e= .returned (.tuple #[.pointer (some ⟨S,0,none⟩),.int .i64 0])/\w.heap.size<=S/\w1.heap[S]? =some (.cells #[sv,.int .u64 init,.int .i64 en,.int .i64 s.size] 98 (0,0))/\RS w1 sv ss/\Below w.heap.size w w1
def openV (s:ByteArray):Bool:=match N9 s with
 | .error _=>false
 | .ok (en,init,ss)=>rightS en ss init
def kL (w w1:World) (e:Ending) (s:ByteArray):Prop:=match N9 s with
 | .error _=>e= .returned (.tuple #[.pointer none,.int .i64 12])/\Below w.heap.size w w1
 | .ok (en,init,ss)=>Ww w w1 e s en init ss (rightS en ss init)
theorem Zm (w:World) (s:ByteArray) (C8:s.size<=900000000) (b:J9) (hp:N9 s= .error b):E2 w 15 #[.string s] (.tuple #[.pointer none,.int .i64 12]):=by
 refine L7 28 Tryz.func15 fun fr hf s0=> ?_
 refine Ze fun _ a8=>Zr [] hf ?_
 refine p5 0 hf ?_
 clear hf s0;intro a7 hf s0
 refine Zt a8 fun _ a8=> ?_
 have bB:=hf.B7 8 9 7 10 11 12 5
 refine Zy ?_
 refine Zc (Wx w s C8) ?_;rintro e w1 hg
 rw [hp] at hg
 obtain ⟨g,rfl, -, -,p6⟩:=hg
 refine Zv ?_
 iterate 8 refine Zy ?_
 refine Fc.nil (z8 0 4 5 6 hf ?_)
 clear hf s0 bB;intro a7 hf sS
 refine Zx a8 ?_
 have hb:=p6.trans (((Below.refl _ w1).alloc nR (.cells #[.slice none 0 0,.int .u64 0] 38)).mono p6.size)
 refine Ze fun _ a8=>Ze fun _ j8=>Zr [13,14,15,16,17,18,19] hf ?_
 refine z8 0 4 5 20 hf ?_
 intro a7 hf sS
 refine Zx j8 (Fc.l7 sS.2.2.2 ?_)
 refine Ze fun _ j8=>Zr [] hf ?_
 refine y4 2 3 hf ?_
 intro a7 hf sS
 refine Zx j8 (k8 ?_)
 exact Fc.H6 rfl hf sS.1 sS.2 ⟨rfl,hb⟩
theorem Zn (w:World) (s:ByteArray) (C8:s.size<=900000000) (en:Nat) (init:Nat) (ss:List State) (hp:N9 s= .ok (en,init,ss)) (hlen:ss.length<=1000000) (a6:∀ s∈ss,L3 s) (D7:init<q9):Calls Tryz.prog 15 #[.string s] w fun e w1=>Ww w w1 e s en init ss (rightS en ss init):=by
 refine L7 28 Tryz.func15 fun fr hf s0=> ?_
 refine Ze fun _ a8=>Zr [] hf ?_
 refine p5 0 hf ?_
 clear hf s0;intro a7 hf s0
 refine Zt a8 fun _ a8=> ?_
 have bB:=hf.B7 8 9 7 10 11 12 5
 refine Zy ?_
 refine Zc (Wx w s C8) ?_;rintro e w1 hg
 rw [hp] at hg
 obtain ⟨sv,rfl,o8,p6⟩:=hg
 obtain ⟨A,cc,rfl,U0⟩:=o8.form
 refine Zv ?_
 iterate 8 refine Zy ?_
 refine Fc.nil (z8 0 4 5 6 hf ?_)
 clear hf s0 bB;intro a7 hf sS
 generalize Y4:w1.alloc (.cells #[.slice A ss.length cc,.int .u64 init] 38)=W2
 obtain ⟨r8,c0,c1, -, -⟩:=P7 Y4
 replace o8:=o8.later r8
 have hb:=p6.trans (r8.mono p6.size)
 clear Y4 p6 r8
 refine Zs a8 fun _ a8=>Ze fun _ j8=>rg ?_
 have bB:=hf.B7 13 14 15 16 17 18 19
 iterate 5 refine Zy ?_
 refine Zd (Tc W2 en _ init ss o8 hlen a6 D7) ?_;rintro e w3 ⟨rfl,G4⟩
 generalize hr:rightS en ss init=r
 have HR:=H9 hr;clear hr
 replace o8:=o8.later G4;replace c0:=cL G4 c0;replace c1:=cL G4 c1;replace hb:=hb.trans (G4.mono hb.size);clear G4
 refine Zv ?_
 iterate 2 refine Zy ?_
 refine Fc.nil (z8 0 4 5 20 hf ?_)
 intro a7 hf sS
 refine Zx j8 (Fc.l0 sS.2.2.2 (fun hq=> ?_) (fun hq=> ?_))
 . (
 have hr:r=false:=by simpa using hq
 clear hq
 subst hr
 refine Ze fun _ j8=>Zr [] hf ?_
 refine y4 2 3 hf ?_
 intro a7 hf sS
 refine Zx j8 (k8 ?_)
 exact Fc.H6 rfl hf sS.1 sS.2 (by rw [HR.out];exact ⟨rfl,hb⟩))
 . (
 have hr:r=true:=by simpa using hq
 clear hq
 subst hr
 obtain ⟨W4,mK⟩:∃ x,w3.alloc (.cells #[.slice A ss.length cc,.int .u64 init,.int .i64 en,.int .i64 s.size] 98)=x:=⟨_,rfl⟩
 refine wp_skip (Zs a8 fun _ a8=>Zr [21,22,23,24,25,26,27] hf ?_)
 refine y4 2 3 hf ?_
 intro a7 hf sS
 try rw [mK]
 obtain ⟨U4,hS⟩:=kK mK
 obtain ⟨S,nw⟩:∃ x,w3.heap.size=x:=⟨_,rfl⟩
 have z0y:w.heap.size<=S:=by rw [<- nw];exact hb.size
 obtain ⟨s2,s3⟩:=sS
 rw [nw] at hS s2
 clear nw mK
 replace o8:=o8.later U4;replace hb:=hb.trans (U4.mono hb.size)
 refine Zx a8 (k8 ?_)
 exact Fc.H6 rfl hf s2 s3 (by rw [HR.out];exact ⟨S,_,rfl,z0y,hS,o8,hb⟩))
theorem rB (w:World) (s:ByteArray) (C8:s.size<=900000000) (hlen:∀ en init ss,N9 s= .ok (en,init,ss)->ss.length<=1000000):Calls Tryz.prog 15 #[.string s] w fun e w1=>kL w w1 e s:=by
 unfold kL
 cases hp:N9 s with
 | error b=>exact Zm w s C8 b hp
 | ok x =>
  obtain ⟨en,init,ss⟩:=x
  obtain ⟨-,h2,h3, -, -⟩:=vR C8 hp
  exact Zn w s C8 en init ss hp (hlen _ _ _ hp) h2 h3
theorem NG {w w1:World} {e:Ending} {s:ByteArray} (h:kL w w1 e s):∃ pv cv,e= .returned (.tuple #[pv,cv])/\Below w.heap.size w w1/\((openV s=false/\pv= .pointer none/\cv= .int .i64 12)\/(openV s=true/\∃ S,pv= .pointer (some ⟨S,0,none⟩)/\cv= .int .i64 0)):=by
 unfold kL at h
 unfold openV
 cases hp:N9 s with
 | error b=>rw [hp] at h;exact ⟨_,_,h.1,h.2,.inl ⟨rfl,rfl,rfl⟩⟩
 | ok x =>
  obtain ⟨en,init,ss⟩:=x
  rw [hp] at h
  simp only at h |-
  cases hr:rightS en ss init with
  | false=>rw [hr] at h;exact ⟨_,_,h.1,h.2,.inl ⟨rfl,rfl,rfl⟩⟩
  | true=>rw [hr] at h;obtain ⟨S,sv,h1,_,_,_,h2⟩:=h;exact ⟨_,_,h1,h2,.inr ⟨rfl,S,rfl,rfl⟩⟩
theorem vS (w:World) (s:ByteArray) (C8:s.size<=900000000) (hlen:∀ en init ss,N9 s= .ok (en,init,ss)->ss.length<=1000000):E2 w 11 #[.string s] (.bool (!openV s)):=by
 refine L7 16 Tryz.func11 fun fr hf s0=> ?_
 refine Ze fun _ a8=>Zr [] hf ?_
 refine p5 0 hf ?_
 clear hf s0;intro a7 hf s0
 refine Zt a8 fun _ a8=> ?_
 have bB:=hf.B5 6 7 5 8 9
 refine Zy ?_
 refine Zc (rB w s C8 hlen) ?_;rintro e w1 hg
 obtain ⟨pv,cv,rfl,p6,hh⟩:=NG hg
 refine Zv ?_
 iterate 5 refine Zy ?_
 refine Fc.nil (y4 3 4 hf ?_)
 clear hf s0 bB;intro a7 hf sS
 refine Zx a8 ?_
 rcases hh with hh | hh
 . (
 obtain ⟨hv,rfl,rfl⟩:=hh
 refine Ze fun _ a8=>Zr [10,11,12,13,14,15] hf ?_
 refine p5 2 hf ?_
 intro a7 hf s2
 refine Zx a8 (k8 ?_)
 exact Fc.o6 rfl hf s2 ⟨by rw [hv];rfl,p6⟩)
 . (
 obtain ⟨hv,S,rfl,rfl⟩:=hh
 refine Ze fun _ a8=>Zr [10,11,12,13,14,15] hf ?_
 refine p5 2 hf ?_
 intro a7 hf s2
 refine Zx a8 (k8 ?_)
 exact Fc.o6 rfl hf s2 ⟨by rw [hv];rfl,p6⟩)
theorem NH (w:World) (S:Nat) (sv:Value) (init:Nat) (en sz:Int) (hS:w.heap[S]? =some (.cells #[sv,.int .u64 init,.int .i64 en,.int .i64 sz] 98 (0,0))):E2 w 19 #[.pointer (some ⟨S,0,none⟩)] (.int .i64 en):=by
 refine L7 9 Tryz.func19 fun fr hf s0=> ?_
 have c0:=n5 0 hS
 have c1:=n5 1 hS
 have c2:=n5 2 hS
 have c3:=n5 3 hS
 simp at c0 c1 c2 c3
 refine Ze fun _ a8=>Zr [] hf ?_
 refine p5 0 hf ?_
 clear hf s0;intro a7 hf s0
 refine Zs a8 fun _ a8=>Ze fun _ j8=>Zr [3] hf ?_
 refine y4 0 4 hf ?_
 clear hf s0;intro a7 hf sS
 refine Zx j8 (Fc.k9 sS.2 ?_)
 refine wp_skip (Zs a8 fun _ a8=>Zr [5,6,7,8] hf ?_)
 refine p5 2 hf ?_
 intro a7 hf s2
 refine Zx a8 (k8 ?_)
 exact Fc.o6 rfl hf s2 ⟨rfl,Below.refl _ _⟩
theorem Zp (w:World) (S:Nat) (sv:Value) (init:Nat) (en sz:Int) (hS:w.heap[S]? =some (.cells #[sv,.int .u64 init,.int .i64 en,.int .i64 sz] 98 (0,0))):E2 w 20 #[.pointer (some ⟨S,0,none⟩)] (.int .i64 sz):=by
 refine L7 9 Tryz.func20 fun fr hf s0=> ?_
 have c0:=n5 0 hS
 have c1:=n5 1 hS
 have c2:=n5 2 hS
 have c3:=n5 3 hS
 simp at c0 c1 c2 c3
 refine Ze fun _ a8=>Zr [] hf ?_
 refine p5 0 hf ?_
 clear hf s0;intro a7 hf s0
 refine Zs a8 fun _ a8=>Ze fun _ j8=>Zr [3] hf ?_
 refine y4 0 4 hf ?_
 clear hf s0;intro a7 hf sS
 refine Zx j8 (Fc.k9 sS.2 ?_)
 refine wp_skip (Zs a8 fun _ a8=>Zr [5,6,7,8] hf ?_)
 refine p5 2 hf ?_
 intro a7 hf s2
 refine Zx a8 (k8 ?_)
 exact Fc.o6 rfl hf s2 ⟨rfl,Below.refl _ _⟩
theorem tw (w:World) (S:Nat) (sv:Value) (init:Nat) (en sz:Int) (hS:w.heap[S]? =some (.cells #[sv,.int .u64 init,.int .i64 en,.int .i64 sz] 98 (0,0))) (uJ:∃ A n c,sv= .slice A n c):E2 w 26 #[.pointer (some ⟨S,0,none⟩)] (.agg #[sv,.int .u64 init]):=by
 refine L7 11 Tryz.func26 fun fr hf s0=> ?_
 obtain ⟨A,n,cc,rfl⟩:=uJ
 have c0:=n5 0 hS
 have c1:=n5 1 hS
 have c2:=n5 2 hS
 have c3:=n5 3 hS
 simp at c0 c1 c2 c3
 refine Ze fun _ a8=>Zr [] hf ?_
 refine y4 0 2 hf ?_
 clear hf s0;intro a7 hf sS
 generalize p8:w.alloc (.cells #[.slice none 0 0,.int .u64 0] 38)=W0
 obtain ⟨o7,E3⟩:=kK p8
 have r0:=n5 0 E3;have r1:=n5 1 E3;have f0:=j6 (i:=0) E3;have f1:=j6 (i:=1) E3
 simp at r0 r1
 replace c0:=cL o7 c0
 replace c1:=cL o7 c1
 replace c2:=cL o7 c2
 replace c3:=cL o7 c3
 clear p8
 refine Zs a8 fun _ a8=>Ze fun _ j8=>Zr [3] hf ?_
 refine y7 0 2 4 hf ?_
 intro a7 hf sS
 refine Zx j8 (Fc.k9 sS.2.2 ?_)
 refine wp_skip (Zs a8 fun _ a8=>Zr [6,7,8,9,10] hf ?_)
 refine p5 2 hf ?_
 intro a7 hf s2
 refine Zx a8 (k8 ?_)
 exact aX rfl hf s2 (k7 (k7 E3 _) _) Tryz.underlying38 rfl kR ⟨sP,(o7.setCell (p:=⟨w.heap.size,0,none⟩) nR _).setCell (p:=⟨w.heap.size,1,none⟩) nR _⟩
theorem Td (w:World) (sv:Value) (init:Nat) (ss:List State) (s:ByteArray) (n:Int) (o8:RS w sv ss) (hs:s.size<=1000000000) (D7:init<q9) (hn:n<=1000000) (hlen:ss.length<=1000000) (a6:∀ s∈ss,L3 s) (D6:∀ (k:Nat) (st:State),ss[k]? =some st->okArcs k (-1) st.j4=true):Calls Tryz.prog 43 #[.agg #[sv,.int .u64 init],.string s,.int .i64 n] w fun e w1=>∃ v,e= .returned v/\OE w1 w.heap.size v (Q1 ss init s n)/\Below w.heap.size w w1:=by
 refine dT 12 Tryz.func43 fun fr hf s0 s1 s2=> ?_
 obtain ⟨A,cc,rfl,U0⟩:=o8.form
 refine Ze fun _ a8=>Zr [] hf ?_
 refine y7 1 2 3 hf ?_
 clear hf s0 s1 s2;intro a7 hf sS
 generalize p8:w.alloc (.cells #[.slice A ss.length cc,.int .u64 init] 96)=W0
 obtain ⟨hb,c0,c1, -, -⟩:=P7 p8
 clear p8
 replace o8:=o8.later hb
 refine Zt a8 fun _ a8=> ?_
 have bB:=hf.B5 7 8 9 10 11
 iterate 4 refine Zy ?_
 refine Zc (Zq W0 _ init ss s n o8 hs D7 hn hlen a6 D6) ?_;rintro e w1 ⟨v,rfl,how,p6⟩
 refine Zv ?_
 refine Zy ?_
 refine Fc.nil (p5 6 hf ?_)
 intro a7 hf s6
 refine Zx a8 (k8 ?_)
 exact Fc.o6 rfl hf s6 ⟨_,rfl,K7 how hb.size,hb.trans (p6.mono hb.size)⟩
theorem Ge (w:World) (sv:Value) (init:Nat) (ss:List State) (S:Nat) (en sz:Int) (hS:w.heap[S]? =some (.cells #[sv,.int .u64 init,.int .i64 en,.int .i64 sz] 98 (0,0))) (s:ByteArray) (n:Int) (o8:RS w sv ss) (hs:s.size<=1000000000) (D7:init<q9) (hn:n<=1000000) (hlen:ss.length<=1000000) (a6:∀ s∈ss,L3 s) (D6:∀ (k:Nat) (st:State),ss[k]? =some st->okArcs k (-1) st.j4=true):Calls Tryz.prog 24 #[.pointer (some ⟨S,0,none⟩),.string s,.int .i64 n] w fun e w1=>∃ v,e= .returned v/\OE w1 w.heap.size v (Q1 ss init s n)/\Below w.heap.size w w1:=by
 refine dT 16 Tryz.func24 fun fr hf s0 s1 s2=> ?_
 obtain ⟨A,cc,rfl,U0⟩:=o8.form
 have c0:=n5 0 hS
 have c1:=n5 1 hS
 simp at c0 c1
 refine Ze fun _ a8=>Zr [] hf ?_
 refine y7 0 1 2 hf ?_
 clear hf s0 s1 s2;intro a7 hf sS
 refine Zs a8 fun _ a8=>Ze fun _ j8=>Zr [7] hf ?_
 refine z8 0 1 2 8 hf ?_
 intro a7 hf sS
 refine Zx j8 (Fc.k9 sS.2.2.2 ?_)
 refine wp_skip (Zt a8 fun _ a8=> ?_)
 have bB:=hf.B7 9 10 11 12 13 14 15
 iterate 6 refine Zy ?_
 refine Zc (Td w _ init ss s n o8 hs D7 hn hlen a6 D6) ?_;rintro e w1 ⟨v,rfl,how,p6⟩
 refine Zv ?_
 refine Zy ?_
 refine Fc.nil (p5 6 hf ?_)
 intro a7 hf s6
 refine Zx a8 (k8 ?_)
 exact Fc.o6 rfl hf s6 ⟨_,rfl,how,p6⟩
theorem tv (w:World) (sv:Value) (init:Nat) (ss:List State) (S:Nat) (en sz:Int) (hS:w.heap[S]? =some (.cells #[sv,.int .u64 init,.int .i64 en,.int .i64 sz] 98 (0,0))) (o8:RS w sv ss) (D7:init<q9) (hn:en<=1000000) (hlen:ss.length<=1000000) (a6:∀ s∈ss,L3 s) (D6:∀ (k:Nat) (st:State),ss[k]? =some st->okArcs k (-1) st.j4=true):Calls Tryz.prog 16 #[.pointer (some ⟨S,0,none⟩)] w fun e w1=>∃ v,e= .returned v/\OE w1 w.heap.size v (Q1 ss init ⟨#[]⟩ en)/\Below w.heap.size w w1:=by
 refine L7 7 Tryz.func16 fun fr hf s0=> ?_
 obtain ⟨A,cc,rfl,U0⟩:=o8.form
 refine Ze fun _ a8=>Zr [] hf ?_
 refine p5 0 hf ?_
 clear hf s0;intro a7 hf s0
 refine Zt a8 fun _ a8=> ?_
 have bB:=hf.B4 3 4 5 6
 iterate 2 refine Zy ?_
 refine Zc (NH w S _ init en sz hS) ?_;rintro e w1 ⟨rfl,p6⟩
 replace o8:=o8.later p6
 have hS1:=(p6.block _ (j5 hS)).trans hS
 refine Zv ?_
 refine Zc (Ge w1 _ init ss S en sz hS1 ⟨#[]⟩ en o8 dC D7 hn hlen a6 D6) ?_;rintro e w2 ⟨v,rfl,how,r8⟩
 refine Zv ?_
 refine Zy ?_
 refine Fc.nil (p5 2 hf ?_)
 clear hf s0 bB;intro a7 hf s2
 refine Zx a8 (k8 ?_)
 exact Fc.o6 rfl hf s2 ⟨_,rfl,K7 how p6.size,p6.trans (r8.mono p6.size)⟩
def makeV (es:List G9):ByteArray×Nat:=if es.length=0 then (⟨#[]⟩,2) else if aP es≠0 then (⟨#[]⟩,aP es) else (bl (putR es.length (buildF es).init (buildF es).Y2).1,(putR es.length (buildF es).init (buildF es).Y2).2)
theorem Zw (w:World) (es:List G9) (B:Nat) (v:Value) (hB:B<=w.heap.size) (Q9:RE w B v es) (hlen:es.length<=100) (uK:∀ e∈es,GR e) (D7:(buildF es).init<18446744073709551616) (h0:es.length=0):E2 w 9 #[v] (.tuple #[.string (makeV es).1,.int .i64 (makeV es).2]):=by
 refine L7 28 Tryz.func9 fun fr hf s0=> ?_
 obtain ⟨A,cc,rfl,U0⟩:=Q9.form
 have q1:((es.length:Int)==0)=true:=beq_iff_eq.2 oM
 refine Ze fun _ a8=>Zr [] hf ?_
 refine p5 0 hf ?_
 clear hf s0;intro a7 hf s0
 refine Zs a8 fun _ a8=>Ze fun _ j8=> ?_
 have qs:=q1
 refine Zr [6,7,8,9,10,11,12] hf ?_
 refine y4 0 13 hf ?_
 clear hf s0 qs;intro a7 hf sS
 refine Zx j8 (Fc.l7 sS.2 ?_)
 refine Ze fun _ j8=>Zr [] hf ?_
 refine y4 2 3 hf ?_
 intro a7 hf sS
 refine Zx j8 (k8 ?_)
 exact Fc.H6 rfl hf sS.1 sS.2 ⟨by unfold makeV;rw [if_pos h0];rfl,Below.refl _ _⟩
theorem Zz (w:World) (es:List G9) (B:Nat) (v:Value) (hB:B<=w.heap.size) (Q9:RE w B v es) (hlen:es.length<=100) (uK:∀ e∈es,GR e) (D7:(buildF es).init<18446744073709551616) (h0:¬ es.length=0):E2 w 9 #[v] (.tuple #[.string (makeV es).1,.int .i64 (makeV es).2]):=by
 refine L7 28 Tryz.func9 fun fr hf s0=> ?_
 obtain ⟨A,cc,rfl,U0⟩:=Q9.form
 have q1:((es.length:Int)==0)=false:=beq_eq_false_iff_ne.2 oM
 have q2:decide ((100000:Int)<(es.length:Int))=false:=decide_eq_false oM
 refine Ze fun _ a8=>Zr [] hf ?_
 refine p5 0 hf ?_
 clear hf s0;intro a7 hf s0
 refine Zs a8 fun _ a8=>Ze fun _ j8=> ?_
 have qs:=And.intro q1 q2
 refine Zr [6,7,8,9,10,11,12] hf ?_
 refine y4 0 13 hf ?_
 clear hf s0 qs;intro a7 hf sS
 refine Zx j8 (Fc.k9 sS.2 ?_)
 clear q1 q2
 refine wp_skip (Zt a8 fun _ a8=> ?_)
 have bB:=hf.B6 15 16 14 17 18 4
 refine Zy ?_
 refine Zc (az w es B _ hB Q9 hlen uK) ?_;rintro e w1 ⟨sv,rfl,o8,a6,Gf,p6⟩
 obtain ⟨A2,c2,rfl,uG⟩:=o8.form
 refine Zv ?_
 iterate 6 refine Zy ?_
 refine Fc.nil (y7 0 4 5 hf ?_)
 intro a7 hf sS
 generalize Y4:w1.alloc (.cells #[.slice A2 (buildF es).Y2.length c2,.int .u64 (buildF es).init] 38)=W2
 obtain ⟨r8,c0,c1, -, -⟩:=P7 Y4
 replace o8:=o8.later r8
 have hb:=p6.trans (r8.mono p6.size)
 clear Y4 p6 r8 Q9
 refine Zs a8 fun _ a8=>Ze fun _ j8=>Zr [19] hf ?_
 refine z8 0 4 5 20 hf ?_
 intro a7 hf sS
 refine Zx j8 (Fc.l0 sS.2.2.2 (fun hq=> ?_) (fun hq=> ?_))
 . (
 have F0:aP es≠0:=by intro h;rw [h] at hq<;>simp at hq
 clear hq
 refine Ze fun _ j8=>Zr [21] hf ?_
 refine y4 2 3 hf ?_
 intro a7 hf sS
 refine Zx j8 (k8 ?_)
 exact Fc.H6 rfl hf sS.1 sS.2 ⟨by unfold makeV;rw [if_neg h0,if_pos F0],hb⟩)
 . (
 have heq:aP es=0:=by simpa using hq
 clear hq
 refine wp_skip (Zt a8 fun _ a8=> ?_)
 have bB:=hf.B6 22 23 24 25 26 27
 iterate 3 refine Zy ?_
 refine Zc (NJ W2 es.length _ (buildF es).init (buildF es).Y2 o8 (fun s hs=>(a6 s hs).ok) oM (fun s hs=>Nat.le_trans (a6 s hs).Gg oM) D7) ?_;rintro e w3 ⟨rfl,G4⟩
 have N0:=hb.trans (G4.mono hb.size)
 clear o8 hb G4 c0 c1
 refine Zv ?_
 iterate 4 refine Zy ?_
 refine Fc.nil (y4 2 3 hf ?_)
 intro a7 hf sS
 refine Zx a8 (k8 ?_)
 exact Fc.H6 rfl hf sS.1 sS.2 ⟨by unfold makeV;rw [if_neg h0,if_neg (fun h=>h heq)],N0⟩)
theorem NK (w:World) (es:List G9) (B:Nat) (v:Value) (hB:B<=w.heap.size) (Q9:RE w B v es) (hlen:es.length<=100) (uK:∀ e∈es,GR e) (D7:(buildF es).init<18446744073709551616):E2 w 9 #[v] (.tuple #[.string (makeV es).1,.int .i64 (makeV es).2]):=by
 by_cases h0:es.length=0
 ·exact Zw w es B v hB Q9 hlen uK D7 h0
 ·exact Zz w es B v hB Q9 hlen uK D7 h0
end Dw
namespace Crc
def val:List Nat->Nat
 | []=>0
 | b::l=>b+2*val l
end Crc
namespace Dw
section
variable {w w':World} {base g cap:Nat} {v:Value} {l:List Nat}
end
theorem Jk {n i:Nat} {f:List State} (h1:∀ s∈f,L3 s) (h2:f.length<=100000) (hn:n<=100000) (hm:X2 n f=true) (hi:i<18446744073709551616):(X7 n i f).length<=800000000:=by
 have h:=(pN hm).2.2.2
 have h3:=fR f 0 h1 h oM
 have h5:=(M0 (n:=n) (by unfold q9;omega)).2
 have h6:=(M0 (n:=f.length) (by unfold q9;omega)).2
 have h7:=(M0 (n:=i) hi).2
 unfold X7
 rw [T2,aV]
 simp only [List.length_append,List.length_cons,List.length_nil]
 omega
theorem mR:∀ (a fr x:List Nat),lexlt a (fr.take a.length)=true->lexlt (a++x) fr=true
 | [],fr,x,h=>by simp [S8] at h
 | a::l,[],x,h=>by simp [S8] at h
 | a::l,b::fr,x,h=>by
  rw [List.length_cons,List.take_succ_cons,bD] at h
  rw [List.cons_append,bD]
  rcases h with h | ⟨h1,h2⟩
  ·exact .inl h
  ·exact .inr ⟨h1,mR l fr x h2⟩
theorem Jm {ss:List State} (fr:List Nat):∀ (f k n:Nat) (u:ByteArray) (b:Bool),wds ss f k=[]->walkS ss fr (f+1) k u n b=[]:=by
 intro f
 induction f with
 | zero =>
  intro k n u b h
  cases hk:ss[k]? with
  | none=>rw [walkS,hk];simp
  | some st =>
   have h1:P0 st=[]:=by have:=h;rw [wds,hk] at this;exact this
   have hf:st.final=false:=by unfold P0 at h1;split at h1;cases h1;rename_i h2;simpa using h2
   rw [walkS,hk]
   simp only [hf,Bool.false_and,Bool.false_eq_true,if_false,List.nil_append,walkS]
   split
   ·rfl
   ·simp
 | succ f ih =>
  intro k n u b h
  cases hk:ss[k]? with
  | none=>rw [walkS,hk];simp
  | some st =>
   rw [Y6 hk,List.append_eq_nil_iff] at h
   have hf:st.final=false:=by have h1:=h.1;unfold P0 at h1;split at h1;cases h1;rename_i h2;simpa using h2
   rw [walkS,hk]
   simp only [hf,Bool.false_and,Bool.false_eq_true,if_false,List.nil_append]
   split
   ·rfl
   ·rw [List.flatMap_eq_nil_iff] at h |-
    intro a ha
    exact ih _ _ _ _ (by simpa using h.2 a ha)
theorem Gh {ss:List State} (a6:∀ s∈ss,L3 s) {k:Nat} {st:State} (hk:ss[k]? =some st) {a:u3} (ha:a∈st.j4):a.byte<256:=((a6 _ (T9 hk)).2.2 a ha).1
theorem BD {st:State} {fr:List Nat} {n:Nat} {u:ByteArray} (h:∀ e∈P0 st,n+e.2<=4294967296):eM st fr u n true=((P0 st).filter fun e=> !lexlt (wl u++e.1) fr).map fun e=>(⟨u++bl e.1,n+e.2,true⟩:Wd):=by
 unfold eM P0 at *
 cases hf:st.final
 ·simp
 ·have h1:=h ([],st.out) (by simp [hf])
  simp only [if_true,Bool.true_and,List.filter_cons,List.append_nil,List.filter_nil]
  cases hl:lexlt (wl u) fr
  ·simp only [Bool.not_false,if_true,List.map_cons,List.map_nil]
   rw [Nat.mod_eq_of_lt (by unfold q9;omega),decide_eq_true (by unfold q9;omega),EJ,append_empty]
  ·simp
theorem U5 {α β:Type} {f g:α->List β}:∀ {l:List α},(∀ a∈l,f a=g a)->l.flatMap f=l.flatMap g
 | [],_=>rfl
 | a::l,h=>by rw [List.flatMap_cons,List.flatMap_cons,h a (List.mem_cons_self ..),U5 fun x hx=>h x (List.mem_cons_of_mem _ hx)]
theorem NL {ss:List State} (a6:∀ s∈ss,L3 s) (fr:List Nat):∀ (f k n:Nat) (u:ByteArray),(∀ e∈wds ss f k,n+e.2<=4294967296)->walkS ss fr (f+1) k u n true=((wds ss f k).filter fun e=> !lexlt (wl u++e.1) fr).map fun e=>(⟨u++bl e.1,n+e.2,true⟩:Wd):=by
 intro f
 induction f with
 | zero =>
  intro k n u h
  cases hk:ss[k]? with
  | none=>rw [walkS,hk,wds,hk];simp
  | some st =>
   have h0:wds ss 0 k=P0 st:=by rw [wds,hk]
   rw [h0] at h |-
   cases ha:lexlt (wl u) (fr.take u.size)
   ·rw [kM ha hk,BD h]
    have:st.j4.flatMap (kN ss fr 0 u n true)=[]:=by rw [List.flatMap_eq_nil_iff];intro a _;rfl
    rw [this,List.append_nil]
   ·rw [fS ha]
    rw [List.filter_eq_nil_iff.2 (fun e _=>by rw [mR (wl u) fr e.1 (by rw [o5];exact ha)];simp)]
    rfl
 | succ f ih =>
  intro k n u h
  cases hk:ss[k]? with
  | none=>rw [walkS,hk,wds,hk];simp
  | some st =>
   cases ha:lexlt (wl u) (fr.take u.size)
   ·rw [Y6 hk] at h |-
    rw [kM ha hk,BD (fun e he=>h e (List.mem_append_left _ he)),List.filter_append,List.map_append]
    refine congrArg (_ ++ ·) ?_
    rw [List.filter_flatMap,List.map_flatMap]
    refine U5 fun a ham=> ?_
    have hb:=Gh a6 hk ham
    have hm:∀ e∈wds ss f a.to.toNat,n+(a.out+e.2)<=4294967296:=fun e he=>h (shift a.byte a.out e) (List.mem_append_right _ (List.mem_flatMap.2 ⟨a,ham,List.mem_map_of_mem he⟩))
    unfold kN
    by_cases hn:wds ss f a.to.toNat=[]
    ·rw [Jm fr _ _ _ _ _ hn,hn];rfl
    ·obtain ⟨e0,he0⟩:=List.exists_mem_of_ne_nil _ hn
     have h0:=hm e0 he0
     rw [Nat.mod_eq_of_lt (by unfold q9;omega),decide_eq_true (by unfold q9;omega),Bool.and_self,ih _ _ _ (fun e he=>by have:=hm e he;omega),List.filter_map,List.map_map]
     have hw:wl (u++bl [a.byte])=wl u++[a.byte]:=by rw [Jn,ay (by simpa using hb)]
     have hp:((fun e:Wv=> !lexlt (wl u++e.1) fr)∘shift a.byte a.out)=fun e:Wv=> !lexlt (wl (u++bl [a.byte])++e.1) fr:=by
      funext e;simp [shift,hw]
     rw [hp]
     refine List.map_congr_left fun e _=> ?_
     show (⟨u++bl [a.byte]++bl e.1,n+a.out+e.2,true⟩:Wd)=⟨u++bl (a.byte::e.1),n+(a.out+e.2),true⟩
     rw [Gi,append_assoc,Nat.add_assoc]
     rfl
   ·rw [fS ha]
    rw [List.filter_eq_nil_iff.2 (fun e _=>by rw [mR (wl u) fr e.1 (by rw [o5];exact ha)];simp)]
    rfl
theorem rC {α:Type} {z:α} {o:State->α} {wi:α->α->Nat->α} {ss:List State} {i:Nat}:∀ (n:Nat),i+n<=ss.length->r6 z o wi (ss.take i) <+: r6 z o wi (ss.take (i+n))
 | 0,_=>List.prefix_refl _
 | n+1,h=>by
  refine (rC n oM).trans ?_
  rw [<- Nat.add_assoc,T0 (F8 oM)]
  exact List.prefix_append _ _
theorem rD {α:Type} {z:α} {o:State->α} {wi:α->α->Nat->α} {ss:List State} {i j:Nat} {st:State} (h:ss[i]? =some st) (gB:i<j) (hj:j<=ss.length):(r6 z o wi (ss.take j))[i]? =some (bF z wi (r6 z o wi (ss.take i)) (o st) st.j4):=by
 have h1:=rC (z:=z) (o:=o) (wi:=wi) (ss:=ss) (i:=i+1) (j-(i+1)) oM
 rw [show i+1+(j-(i+1))=j by omega,T0 h] at h1
 obtain ⟨t,ht⟩:=h1
 have hl:=S3 (z:=z) (o:=o) (wi:=wi) (ss:=ss) i oM
 rw [<- ht,List.append_assoc,List.getElem?_append_right oM,hl,Nat.sub_self]
 rfl
theorem vT {α:Type} {z:α} {wi:α->α->Nat->α} {ss:List State} {m:Nat} {vs:List α} (R:List Wv->α->Prop) (hs:∀ l x l2 c (a:u3),R l x->R l2 c->R (l++l2.map (shift a.byte a.out)) (wi x c a.out)):∀ (al:List u3) (l:List Wv) (x:α),R l x->(∀ a∈al,R (wds ss m a.to.toNat) (vs.getD a.to.toNat z))->R (l++al.flatMap fun a=>(wds ss m a.to.toNat).map (shift a.byte a.out)) (bF z wi vs x al)
 | [],l,x,h,_=>by rw [List.flatMap_nil,List.append_nil];exact h
 | a::al,l,x,h,ha=>by
  rw [List.flatMap_cons, <- List.append_assoc]
  exact vT R hs al _ _ (hs _ _ _ _ a h (ha a (List.mem_cons_self ..))) fun b hb=>ha b (List.mem_cons_of_mem _ hb)
theorem Jp {α:Type} {z:α} {o:State->α} {wi:α->α->Nat->α} {ss:List State} (D6:∀ (k:Nat) (st:State),ss[k]? =some st->okArcs k (-1) st.j4=true) (R:List Wv->α->Prop) (h0:∀ st,R (P0 st) (o st)) (hs:∀ l x l2 c (a:u3),R l x->R l2 c->R (l++l2.map (shift a.byte a.out)) (wi x c a.out)):∀ (m k j:Nat),k<=m->k<j->j<=ss.length->R (wds ss m k) ((r6 z o wi (ss.take j)).getD k z):=by
 intro m
 induction m with
 | zero =>
  intro k j hk hkj hj
  obtain rfl:k=0:=oM
  have A8:ss[0]? =some (ss[0]'(by omega)):=F8 oM
  rw [List.getD_eq_getElem?_getD,rD A8 hkj hj]
  have ha:=D6 0 _ A8
  cases Z7:(ss[0]'(by omega)).j4 with
  | cons a l=>rw [Z7] at ha;have:=E9 ha (List.mem_cons_self ..);omega
  | nil=>rw [wds,A8];exact h0 _
 | succ m ih =>
  intro k j hk hkj hj
  have A8:ss[k]? =some (ss[k]'(by omega)):=F8 oM
  rw [List.getD_eq_getElem?_getD,rD A8 hkj hj,Y6 A8]
  have ha:=D6 k _ A8
  exact vT R hs _ _ _ (h0 _) fun a ham=>by have:=E9 ha ham;exact ih _ _ oM oM oM
theorem bH {α:Type} {z:α} {o:State->α} {wi:α->α->Nat->α} {ss:List State} (D6:∀ (k:Nat) (st:State),ss[k]? =some st->okArcs k (-1) st.j4=true) (R:List Wv->α->Prop) (h0:∀ st,R (P0 st) (o st)) (hs:∀ l x l2 c (a:u3),R l x->R l2 c->R (l++l2.map (shift a.byte a.out)) (wi x c a.out)) (m:Nat) (hm:ss.length<=m+1) (hl:0<ss.length):R (wds ss m (ss.length-1)) ((r6 z o wi ss).getLastD z):=by
 have h:=Jp (z:=z) D6 R h0 hs m (ss.length-1) ss.length oM oM nR
 rw [List.take_length] at h
 rwa [List.getLastD_eq_getLast?,List.getLast?_eq_getElem?,P3, <- List.getD_eq_getElem?_getD]
theorem Gj {ss:List State} (D6:∀ (k:Nat) (st:State),ss[k]? =some st->okArcs k (-1) st.j4=true) (m:Nat) (hm:ss.length<=m+1) (hl:0<ss.length):pB ss=min ((wds ss m (ss.length-1)).length:Int) 100001 :=
 bH D6 (fun l x=>x=min (l.length:Int) 100001) (fun st=>by unfold P0 Jf;split<;>rfl) (fun l x l2 c a h1 h2=>by subst h1;subst h2;unfold Jg;rw [List.length_append,List.length_map];omega) m hm hl
theorem Te {ss:List State} (D6:∀ (k:Nat) (st:State),ss[k]? =some st->okArcs k (-1) st.j4=true) (m:Nat) (hm:ss.length<=m+1) (hl:0<ss.length):BB ss= -1\/∃ e∈wds ss m (ss.length-1),BB ss=(e.1.length:Int) :=
 bH D6 (fun l x=>x= -1\/∃ e∈l,x=(e.1.length:Int)) (fun st=>by unfold P0 BA;split;exact .inr ⟨_,List.mem_cons_self ..,rfl⟩;exact .inl rfl) (fun l x l2 c a h1 h2=>by
  have hx:x= -1\/∃ e∈l++l2.map (shift a.byte a.out),x=(e.1.length:Int):=by
   rcases h1 with h1 | ⟨e,he,h1⟩
   ·exact .inl h1
   ·exact .inr ⟨e,List.mem_append_left _ he,h1⟩
  unfold qZ
  split
  ·exact hx
  ·rcases h2 with h2 | ⟨e,he,h2⟩
   ·omega
   ·by_cases hc:x<=c+1
    ·exact .inr ⟨_,List.mem_append_right _ (List.mem_map_of_mem he),by show max x (c+1)=((a.byte::e.1).length:Int);rw [List.length_cons];omega⟩
    ·rw [show max x (c+1)=x by omega];exact hx) m hm hl
theorem au {ss:List State} (D6:∀ (k:Nat) (st:State),ss[k]? =some st->okArcs k (-1) st.j4=true) (m:Nat) (hm:ss.length<=m+1) (hl:0<ss.length):(∀ e∈wds ss m (ss.length-1),e.2<=4294967296)->((Gb ss).any= !(wds ss m (ss.length-1)).isEmpty)/\((Gb ss).any=true->(Gb ss).fits=true/\∃ e∈wds ss m (ss.length-1),(Gb ss).n=e.2) :=
 bH (z:=(⟨0,false,false⟩:C0)) D6 (fun l (x:C0)=>(∀ e∈l,e.2<=4294967296)->(x.any= !l.isEmpty)/\(x.any=true->x.fits=true/\∃ e∈l,x.n=e.2)) (fun st _=>by unfold P0 sx;cases st.final<;>simp) (fun l x l2 c a h1 h2 h=>by
  have k1:=h1 fun e he=>h e (List.mem_append_left _ he)
  have k2:=h2 fun e he=>by have:=h _ (List.mem_append_right _ (List.mem_map_of_mem he));have h3:a.out+e.2<=4294967296:=this;omega
  unfold nz C0.or
  cases hc:c.any with
  | false =>
   have vU:l2=[]:=by have:=k2.1;rw [hc] at this;simpa using this.symm
   subst vU
   simpa using k1
  | true =>
   obtain ⟨hf,e2,eH,pP⟩:=k2.2 hc
   have hs:a.out+e2.2<=4294967296:=h _ (List.mem_append_right _ (List.mem_map_of_mem eH))
   have Z5:shift a.byte a.out e2∈l++l2.map (shift a.byte a.out):=List.mem_append_right _ (List.mem_map_of_mem eH)
   have tu:(l++l2.map (shift a.byte a.out)).isEmpty=false:=by rw [List.isEmpty_eq_false_iff];exact List.ne_nil_of_mem Z5
   have h3:(c.n+a.out)%q9=a.out+e2.2:=by rw [pP,Nat.mod_eq_of_lt (by unfold q9;omega)];omega
   have h4:decide (c.n+a.out<q9)=true:=decide_eq_true (by rw [pP];unfold q9;omega)
   rw [tu,h3,h4,hf]
   cases hx:x.any with
   | false=>exact ⟨rfl,fun _=>⟨rfl,_,Z5,rfl⟩⟩
   | true =>
    obtain ⟨hfx,e1,he1,pQ⟩:=k1.2 hx
    refine ⟨rfl,fun _=>⟨by simp [hfx],?_⟩⟩
    by_cases hle:x.n<=a.out+e2.2
    ·exact ⟨_,Z5,by show max x.n (a.out+e2.2)=a.out+e2.2;omega⟩
    ·exact ⟨e1,List.mem_append_left _ he1,by show max x.n (a.out+e2.2)=e1.2;omega⟩) m hm hl
theorem BE {ss:List State} (D6:∀ (k:Nat) (st:State),ss[k]? =some st->okArcs k (-1) st.j4=true):∀ (m k m':Nat),k<=m->k<=m'->wds ss m k=wds ss m' k:=by
 have h00:∀ m,wds ss m 0=wds ss 0 0:=by
  intro m
  cases hk:ss[0]? with
  | none=>cases m<;>rw [wds,hk]<;>rw [wds,hk]
  | some st =>
   cases ha:st.j4 with
   | nil=>rw [Gk hk ha m,Gk hk ha 0]
   | cons a l=>have h:=D6 0 st hk;rw [ha] at h;have:=E9 h (List.mem_cons_self ..);omega
 intro m
 induction m with
 | zero =>
  intro k m' h1 h2
  obtain rfl:k=0:=oM
  exact (h00 m').symm
 | succ m ih =>
  intro k m' h1 h2
  cases m' with
  | zero =>
   obtain rfl:k=0:=oM
   exact h00 (m+1)
  | succ m' =>
   cases hk:ss[k]? with
   | none=>rw [wds,hk,wds,hk]
   | some st =>
    rw [Y6 hk,Y6 hk]
    refine congrArg (_ ++ ·) (U5 fun a ha=> ?_)
    have:=E9 (D6 k st hk) ha
    rw [ih _ m' (by omega) oM]
theorem Tf {s:ByteArray} (h:okW s=true):0<s.size:=by
 rcases Nat.eq_zero_or_pos s.size with h0 | h0
 ·have h1:wl s=[]:=List.length_eq_zero_iff.1 (by rw [o5];exact h0)
  rw [show s=⟨#[]⟩ from cK h1] at h
  exact absurd h (by decide +kernel)
 ·exact h0
end Dw
namespace Ta
open Sb (Pr Here Deps Got OkOps Dep isPath)
open Tl (Seq chain1 chain_dep seq_any TL)
section
variable {P:Program} {Q:Exit->Act->World->Prop} {l:List Oper} {a0:Act} {w0:World} {ps:List Pr}
abbrev ptr (g:Nat):Value:= .pointer (some ⟨g,0,none⟩)
structure NM (P:Program) (Q:Exit->Act->World->Prop) (l:List Oper) (i d:Nat) (ob:Obj) (p:Pr):Prop where
 dst:∃ o,l[i]? =some o/\o.dst=some d
 step:∀ (a:Act) (w:World) (K:Act->World->Prop),K (a.put (some d) (ptr w.heap.size)) (w.alloc ob)->wpOp P l.toArray Q i K a w
 holds:∀ w:World,p (ptr w.heap.size) (w.alloc ob)
def eJ (N:Nat) (al:List (Nat×Nat×Obj)) (C:Nat->Prop) (a:Act) (w:World):Prop :=
 (∀ x∈al,C x.1->∃ g,a.tmps[x.2.1]? =some (ptr g)/\g<w.heap.size/\N<=g)/\∀ x∈al,∀ y∈al,x.1≠y.1->C x.1->C y.1->∀ g g',a.tmps[x.2.1]? =some (ptr g)->a.tmps[y.2.1]? =some (ptr g')->g≠g'
theorem Jq {N:Nat} {al:List (Nat×Nat×Obj)} {C C':Nat->Prop} {a:Act} {w w':World} {d:Option Nat} {v:Value} (h:eJ N al C a w) (C8:w.heap.size<=w'.heap.size) (hC:∀ x∈al,C' x.1->C x.1) (hd:∀ x∈al,C' x.1->d≠some x.2.1):eJ N al C' (a.put d v) w':=by
 refine ⟨fun x hx hc=> ?_,fun x hx y hy F0 MQ Wz g g' hg rE=> ?_⟩
 ·obtain ⟨g,h1,h2,h3⟩:=h.1 x hx (hC x hx hc)
  exact ⟨g,by rw [Sb.put_get_ne _ _ _ _ (hd x hx hc)];exact h1,oM,h3⟩
 ·rw [Sb.put_get_ne _ _ _ _ (hd x hx MQ)] at hg
  rw [Sb.put_get_ne _ _ _ _ (hd y hy Wz)] at rE
  exact h.2 x hx y hy F0 (hC x hx MQ) (hC y hy Wz) g g' hg rE
theorem Jr {N:Nat} {al:List (Nat×Nat×Obj)} {C:Nat->Prop} {a:Act} {w w':World} {i d:Nat} (h:eJ N al C a w) (hN:N<=w.heap.size) (C8:w'.heap.size=w.heap.size+1) (hdl:d<a.tmps.size) (hi:∀ x∈al,x.1=i->x.2.1=d) (hd:∀ x∈al,x.1≠i->x.2.1≠d):eJ N al (fun k=>k=i\/C k) (a.put (some d) (ptr w.heap.size)) w':=by
 have NN:(a.put (some d) (ptr w.heap.size)).tmps[d]? =some (ptr w.heap.size):=Sb.put_get _ _ _ hdl
 have hold:∀ x∈al,x.1≠i->(a.put (some d) (ptr w.heap.size)).tmps[x.2.1]? =a.tmps[x.2.1]? :=fun x hx F0=>Sb.put_get_ne _ _ _ _ (fun e=>hd x hx F0 (by injection e with e;exact e.symm))
 have hC:∀ x∈al,x.1≠i->(x.1=i\/C x.1)->C x.1:=fun x hx F0 hc=>hc.resolve_left F0
 have D7:∀ x∈al,x.1≠i->(x.1=i\/C x.1)->∀ g,(a.put (some d) (ptr w.heap.size)).tmps[x.2.1]? =some (ptr g)->g<w.heap.size:=by
  intro x hx F0 hc g hg
  obtain ⟨g1,h1,h2,_⟩:=h.1 x hx (hC x hx F0 hc)
  rw [hold x hx F0,h1] at hg
  injection hg with hg
  injection hg with hg
  injection hg with hg
  injection hg with hg
  omega
 refine ⟨fun x hx hc=> ?_,fun x hx y hy F0 MQ Wz g g' hg rE=> ?_⟩
 ·by_cases dK:x.1=i
  ·rw [hi x hx dK];exact ⟨_,NN,oM,hN⟩
  ·obtain ⟨g,h1,h2,h3⟩:=h.1 x hx (hC x hx dK hc)
   exact ⟨g,by rw [hold x hx dK];exact h1,oM,h3⟩
 ·by_cases dK:x.1=i
  ·have XA:y.1≠i:=fun e=>F0 (dK.trans e.symm)
   rw [hi x hx dK,NN] at hg
   injection hg with hg
   injection hg with hg
   injection hg with hg
   injection hg with hg
   have:=D7 y hy XA Wz g' rE
   omega
  ·by_cases XA:y.1=i
   ·rw [hi y hy XA,NN] at rE
    injection rE with rE
    injection rE with rE
    injection rE with rE
    injection rE with rE
    have:=D7 x hx dK MQ g hg
    omega
   ·rw [hold x hx dK] at hg
    rw [hold y hy XA] at rE
    exact h.2 x hx y hy F0 (hC x hx dK MQ) (hC y hy XA Wz) g g' hg rE
theorem eJ.of {N:Nat} {al:List (Nat×Nat×Obj)} {C C':Nat->Prop} {a:Act} {w:World} (h:eJ N al C a w) (hC:∀ x∈al,C' x.1->C x.1):eJ N al C' a w :=
 ⟨fun x hx hc=>h.1 x hx (hC x hx hc),fun x hx y hy F0 MQ Wz=>h.2 x hx y hy F0 (hC x hx MQ) (hC y hy Wz)⟩
theorem NP {al:List (Nat×Nat×Obj)} {m:Nat} (Z7:∀ x∈al,NM P Q l x.1 x.2.1 x.2.2 (Sb.look ps x.1)) (iQ:m<l.length) (o9:∀ (k i:Nat),m<=k->k<l.length->i<k->Dep l.toArray k i) (a6:OkOps l.toArray a0.tmps.size) (hlen:ps.length=m)
  (A8:∀ i,Sb.Stable (Sb.look ps i)) (hg:∀ i,i<m->Sb.Step P l.toArray Q a0 w0 ps i (Sb.look ps i))
  (p7:∀ a w,Here l.toArray a0 w0 a w->(∀ i,i<m->Got l.toArray ps i a w)->eJ w0.heap.size al (. <m) a w->Seq P l Q (l.length-m) m a w) :
  ∀ (fuel:Nat) (listed:Array Bool) (a:Act) (w:World),listed.size=l.length->listed.toList.countP (! ·)<=fuel->(∀ i,m<=i->listed.getD i false=false)->Sb.Inv l.toArray a0 w0 ps listed a w->eJ w0.heap.size al (fun i=>listed.getD i false=true) a w ->
   wpAny P .any l.toArray Q fuel listed a w:=by
 intro fuel
 induction fuel with
 | zero =>
  intro listed a w iN hc hm hI pR
  exfalso
  have qJ:0<listed.toList.countP (! ·):=by
   rw [List.countP_pos_iff]
   have:=hm m nR
   have Dp:m<listed.size:=oM
   refine ⟨listed[m],sP,?_⟩
   simp [Dp] at this
   simp [this]
  omega
 | succ fuel ih =>
  intro listed a w iN hc hm hI pR
  have Dp:m<listed.size:=oM
  have hm0:listed[m]=false:=by have:=hm m nR;simpa [Dp] using this
  -- if all ahead of m are listed
  by_cases J4:∀ i,i<m->listed.getD i false=true
  ·refine seq_any o9 a6 (l.length-m) m listed (fuel+1) a w oM nR iN hc (fun i hi=>⟨fun h=> ?_,J4 i⟩) (fun i o hi=>hI.closed i o (by simpa using hi)) (p7 a w hI.here (fun i hi=>hI.AM i sO (J4 i hi)) (pR.of fun x _ hx=>J4 x.1 hx))
   rcases Nat.lt_or_ge i m with h1 | h1
   ·exact h1
   ·rw [hm i h1] at h;cases h
  refine ⟨fun hr=> ?_,fun i hi=> ?_⟩
  ·exfalso
   refine J4 (fun i=> ?_)
   induction i using Nat.strongRecOn with
   | _ i ihi =>
    intro Mh
    cases hl:listed.getD i false with
    | true=>rfl
    | false =>
     exfalso
     have N3:i<listed.size:=oM
     have W8:i<l.length:=oM
     have Z5:i∈Region.ready .any l.toArray listed:=by
      rw [mem_ready]
      refine ⟨by simpa [N3] using hl,l[i],by simp [W8],fun e he hb=> ?_⟩
      have o9:=a6.back i l[i] (by simp [W8]) e he hb
      exact ihi e.on o9 oM
     rw [hr] at Z5
     cases Z5
  ·obtain ⟨h0,o,ho,cV⟩:=mem_ready.1 hi
   have W8:i<l.length:=by have:=(Array.getElem?_eq_some_iff.1 ho).1;simpa using this
   have qL:i<listed.size:=oM
   have h0':listed[i]=false:=by simpa [qL] using h0
   have Mh:i<m:=by
    rcases Nat.lt_or_ge i m with h1 | h1
    ·exact h1
    ·exfalso
     exact J4 fun x hx=>Sb.C1 hI (o9 i x h1 W8 oM) (.inr hi)
   have tt:∀ v w',Below w.heap.size w w'->Sb.look ps i v w'->eJ w0.heap.size al (fun k=>(listed.setIfInBounds i true).getD k false=true) (a.put o.dst v) w'->wpAny P .any l.toArray Q fuel (listed.setIfInBounds i true) (a.put o.dst v) w':=by
    intro v w' hb hp ar
    refine ih _ _ _ (by simp [iN]) ?_ (fun x hx=>by rw [getD_set_ne false oM];exact hm x hx) ⟨⟨hI.here.ext.trans (hb.mono hI.here.ext.size),(Sb.put_defers ..).trans hI.here.defers,(Sb.put_size ..).trans hI.here.size,fun t ht=>(Sb.put_get_ne _ _ _ _ (ht i o ho)).trans (hI.here.Dj t ht)⟩,?_,?_,?_⟩ ar
    ·have fB:(listed.setIfInBounds i true).toList=listed.toList.set i true:=sP
     have qJ:0<listed.toList.countP (! ·):=by
      rw [List.countP_pos_iff]
      exact ⟨listed[i],sP,by simp [h0']⟩
     rw [fB,List.countP_set (by simpa using qL)]
     simp only [Array.getElem_toList,h0',Bool.not_false,Bool.not_true,if_true,Bool.false_eq_true,if_false,Nat.add_zero]
     omega
    ·intro k ok hk hl e he hb
     by_cases aN:i=k
     ·subst aN
      rw [ho] at hk
      injection hk with hk
      subst hk
      exact getD_set_true (cV e he hb)
     ·rw [getD_set_ne false aN] at hl
      exact getD_set_true (hI.closed k ok hk hl e he hb)
    ·intro k hk hl
     by_cases aN:i=k
     ·subst aN
      refine ⟨v,fun tV d X1 hd=> ?_,hp⟩
      rw [ho] at X1
      injection X1 with X1
      subst X1
      rw [hd]
      exact Sb.put_get _ _ _ (by rw [hI.here.size];exact a6.room i o d ho hd)
     ·rw [getD_set_ne false aN] at hl
      obtain ⟨v',GN,oX⟩:=hI.AM k hk hl
      refine ⟨v',fun tV d X1 hd=> ?_,A8 k _ _ _ hb oX⟩
      rw [Sb.put_get_ne _ _ _ _ (fun he=>aN (a6.apart i k o tV d ho X1 he hd))]
      exact GN tV d X1 hd
    ·intro t ht
     refine (Sb.put_get_ne _ _ _ _ (fun he=> ?_)).trans (hI.iM t fun j oj hj hd=> ?_)
     ·have h9:=ht i o ho he
      simp [qL] at h9
     ·have h9:=ht j oj hj hd
      by_cases gB:i=j
      ·subst gB;simp [qL] at h9
      ·rwa [getD_set_ne false gB] at h9
   have XB:∀ k,k≠i->(listed.setIfInBounds i true).getD k false=true->listed.getD k false=true:=fun k hk h=>by rw [getD_set_ne false (fun e=>hk e.symm)] at h;exact h
   have E0:∀ x∈al,∀ ox:Oper,l[x.1]? =some ox->ox.dst=some x.2.1:=fun x hx ox nv=>by
    obtain ⟨o1,h1,h2⟩:=(Z7 x hx).dst
    rw [nv] at h1;injection h1 with h1;rw [h1];exact h2
   by_cases hx:∃ x∈al,x.1=i
   ·obtain ⟨x,hx,rfl⟩:=hx
    have F:=Z7 x hx
    have XC:o.dst=some x.2.1:=E0 x hx o (by simpa using ho)
    refine F.step a w _ ?_
    have bV:=tt (ptr w.heap.size) (w.alloc x.2.2) ((Below.refl _ w).alloc nR _) (F.holds w) ?_
    ·rw [XC] at bV;exact bV
    ·rw [XC]
     have hN:=Jr (i:=x.1) (d:=x.2.1) (w':=w.alloc x.2.2) pR hI.here.ext.size sP (by rw [hI.here.size];exact a6.room x.1 o x.2.1 ho XC) (fun y hy he=>by
      have h1:=E0 y hy o (by rw [he];simpa using ho)
      rw [XC] at h1;injection h1 with h1;exact h1.symm) (fun y hy F0 e=>by
      obtain ⟨oy,h1,h2⟩:=(Z7 y hy).dst
      exact F0 (a6.apart y.1 x.1 oy o x.2.1 (by simpa using h1) ho (by rw [h2,e]) XC))
     refine hN.of fun y hy hc=> ?_
     by_cases XA:y.1=x.1
     ·exact .inl XA
     ·exact .inr (XB y.1 XA hc)
   ·refine hg i Mh a w hI.here ⟨fun j hj hjp=> ?_,fun t ht=> ?_⟩ _ (fun o' R2 v w' hb hp=> ?_)
    ·exact hI.AM j sO (Sb.C1 hI hj (.inr hi))
    ·refine hI.iM t fun j oj hj hd=> ?_
     have h9:listed.getD i false=false:=by simp [qL,h0']
     rcases ht j oj hj hd with rfl | xG
     ·exact h9
     ·cases hl:listed.getD j false with
      | false=>rfl
      | true=>rw [Sb.C1 hI xG (.inl hl)] at h9;cases h9
    ·rw [ho] at R2
     injection R2 with R2
     subst R2
     refine tt v w' hb hp (Jq pR hb.size (fun y hy hc=>XB y.1 (fun e=>hx ⟨y,hy,e⟩) hc) (fun y hy hc e=> ?_))
     obtain ⟨oy,h1,h2⟩:=(Z7 y hy).dst
     exact hx ⟨y,hy,a6.apart y.1 i oy o y.2.1 (by simpa using h1) ho h2 e⟩
theorem EK {id n m:Nat} (al:List (Nat×Nat×Obj)) (Z7:∀ x∈al,NM P Q l x.1 x.2.1 x.2.2 (Sb.look ps x.1)) {ws:List (Nat×Nat×List Nat)} (hm:P.follows .mixedOrders=true) (hn:a0.tmps.size=n) (a6:OkOps l.toArray n) (hlen:ps.length=m) (iQ:Nat.blt m l.length=true) (JM:chain1 l m ws=true)
  (p7:∀ a w,Here l.toArray a0 w0 a w->Hid (∀ i,i<m->Got l.toArray ps i a w)->Hid (eJ w0.heap.size al (. <m) a w)->TL P l Q m a w):(Sb.fC P id l.toArray Q a0 w0 ps):=by
 subst hn
 refine ⟨fun hg=> ?_⟩
 refine ⟨hm,?_⟩
 refine NP Z7 (Nat.le_of_ble_eq_true iQ) (fun k i h1 h2 h3=>chain_dep JM h1 h2 h3) a6 hlen hg.1 (fun i hi=>hg.2 i oM) (fun a w hh cW pR=>(p7 a w hh cW (H9 pR)).out) _ _ _ _ sP ?_ (fun i hi=> ?_) ?_ ?_
 ·exact Nat.le_trans List.countP_le_length sP
 ·by_cases h:i<l.length
  ·simp [h]
  ·simp [h]
 ·refine ⟨⟨⟨rfl,rfl,rfl,nR,fun _ _=>rfl⟩,rfl,rfl,fun _ _=>rfl⟩,fun i o ho hl=> ?_,fun i hi hl=> ?_,fun _ _=>rfl⟩
  ·have hi:=(Array.getElem?_eq_some_iff.1 ho).1
   simp at hi
   simp [hi] at hl
  ·simp at hi
   simp [hi] at hl
 ·refine ⟨fun x hx hc=> ?_,fun x hx y hy F0 MQ Wz=> ?_⟩
  ·exfalso
   obtain ⟨o,h1,_⟩:=(Z7 x hx).dst
   have h2:=(H2 h1).1
   simp [h2] at hc
  ·exfalso
   obtain ⟨o,h1,_⟩:=(Z7 x hx).dst
   have h2:=(H2 h1).1
   simp [h2] at MQ
theorem BF {i d:Nat} {t:TypeId} {ob:Obj} {p:Pr} {o:Oper} (ho:l[i]? =some o) (hg:o.guard=none) (hd:o.dst=some d) (X4:o.op= .alloc t) (hr:∀ (e:Operand->Value) (w:World),(execOp e o).run P w= .ok (.value (ptr w.heap.size)) (w.alloc ob)) (hp:∀ w:World,p (ptr w.heap.size) (w.alloc ob)):NM P Q l i d ob p :=
 ⟨⟨o,ho,hd⟩,fun a w K hK=>Sb.op_plain ho hg (by unfold Oper.wp;rw [hr,Oper.upon_value,hd];exact hK),hp⟩
theorem low {al:List (Nat×Nat×Obj)} {m:Nat} {a:Act} {w:World} (h:Hid (eJ w0.heap.size al (. <m) a w)) (x:Nat×Nat×Obj) (hx:x∈al) (MP:Nat.blt x.1 m=true) {g:Nat} (hg:a.tmps[x.2.1]? =some (ptr g)):w0.heap.size<=g:=by
 obtain ⟨g1,h1,_,h3⟩:=h.out.1 x hx (Nat.le_of_ble_eq_true MP)
 rw [h1] at hg
 injection hg with hg
 injection hg with hg
 injection hg with hg
 injection hg with hg
 omega
def PZ (cs:Array Value) (t:TypeId):Pr:=fun v w=>∃ g,v=ptr g/\w.heap[g]? =some (.cells cs t (0,0))
theorem PZ.u5 (cs:Array Value) (t:TypeId):Sb.Stable (PZ cs t):=fun v w w' hb ⟨g,h1,h2⟩=>⟨g,h1,(hb.block g (Array.getElem?_eq_some_iff.1 h2).1).trans h2⟩
theorem PZ.mk (cs:Array Value) (t:TypeId) (w:World):PZ cs t (ptr w.heap.size) (w.alloc (.cells cs t)):=⟨_,rfl,heap_alloc_new w _⟩
end
end Ta
namespace Dw
def valG (ss:List State):Nat->Nat×Bool->List Nat->Option (Nat×Nat×Bool)
 | k,s,[]=>some (k,s)
 | k,s,b::w=>match ss[k]?.bind fun st=>st.j4.find? (G8 b k) with
  | none=>none
  | some a=>valG ss a.to.toNat ((s.1+a.out)%q9,s.2&&decide (s.1+a.out<q9)) w
def valFin (ss:List State):Option (Nat×Nat×Bool)->Option Nat
 | none=>none
 | some (k,n,f)=>match ss[k]? with
  | none=>none
  | some st=>if st.final&&(f&&decide (n+st.out<q9)&&decide ((n+st.out)%q9<=4294967296)) then some ((n+st.out)%q9) else none
def uL (init:Nat) (ss:List State) (s:ByteArray):Option Nat:=valFin ss (valG ss (ss.length-1) (init,true) (wl s))
theorem rF {w W:World} {g n n2:Nat} {f f2:Bool} (h:w.heap[g]? =some (.cells #[.int .u64 n2,.bool f2] 190 (0,0))) (hW:(w.setCell ⟨g,0,none⟩ (.int .u64 n)).setCell ⟨g,1,none⟩ (.bool f)=W) :
  W.heap[g]? =some (.cells #[.int .u64 n,.bool f] 190 (0,0))/\∀ B,B<=g->Below B w W:=by
 subst hW
 refine ⟨(k7 (k7 h _) _).trans sP,fun B hB=>((Below.refl B w).setCell (p:=⟨g,0,none⟩) hB _).setCell (p:=⟨g,1,none⟩) hB _⟩
theorem Th {w:World} {base:Nat} {v:Value} {l:List Nat} (h:OM w base v l):∃ g c,v= .slice (some ⟨g,0,none⟩) l.length c:=by
 obtain ⟨g,c,_,h,_⟩:=h
 exact ⟨g,c,h⟩
theorem OM.off {w:World} {base g i:Nat} {v u:Value} {l:List Nat} (h:OM w base v l) (hg:g<base):OM (w.setCell ⟨g,i,none⟩ u) base v l:=by
 obtain ⟨b,cap,cur,h1,h2,h3,h4⟩:=h
 exact ⟨b,cap,cur,h1,h2,(Below.heap_setCell _ _ _ _ sQ).trans h3,h4⟩
theorem NQ (w:World) (sv:Value) (init:Nat) (ss:List State) (s:ByteArray) (o8:RS w sv ss) (hlen:ss.length<=1000000) (a6:∀ s∈ss,L3 s) (D6:∀ (k:Nat) (st:State),ss[k]? =some st->okArcs k (-1) st.j4=true) (h0:0<ss.length) (D7:init<q9) (aq:s.size<=1000000000):E2 w 126 #[.agg #[sv,.int .u64 init],.string s] (.tuple #[.int .u64 ((uL init ss s).getD 0),.bool (uL init ss s).isSome]):=by
 refine Z6 64 Tryz.func126 fun fr hf s0 s1=> ?_
 have XD:(wl s).length<=1000000000:=by rw [o5];exact aq
 obtain ⟨A,cc,rfl,U0⟩:=o8.form
 obtain ⟨k0,hk0⟩:∃ k,ss.length=k+1:=⟨ss.length-1,oM⟩
 obtain ⟨G0,tn⟩:∃ x,valG ss (ss.length-1) (init,true) (wl s)=x:=⟨_,rfl⟩
 have hG1:valG ss k0 (init,true) (wl s)=G0:=by rw [<- tn,hk0];rfl
 have HV:=H9 (show uL init ss s=valFin ss G0 by unfold uL;rw [tn])
 have HK0:=H9 hk0;clear hk0 tn
 refine Ze fun _ a8=>Zr [] hf ?_
 refine y4 1 2 hf ?_
 clear hf s0 s1;intro a7 hf sS
 generalize p8:w.alloc (.cells #[.slice A ss.length cc,.int .u64 init] 38)=W0
 obtain ⟨o7,c0,c1, -,tm⟩:=P7 p8
 clear p8
 have XE:w.heap.size<W0.heap.size:=by rw [tm];exact Nat.lt_succ_self _
 clear tm
 replace o8:=o8.later o7
 have Q7:=o8.n
 have z0:=c0;have z1:=c1
 refine Zs a8 fun _ a8=> ?_
 obtain ⟨s1,s2⟩:=sS
 refine Sb.tb 64 fun a6=> ?_
 refine Sb.T 0 hf a6 ?_ (hF:=fun _ _ h d=>ad (Sb.O h s2) (ad (cL h.ext c0) (ad (cL h.ext c1) (o8.later h.ext))))
 apply Sb.tq 1 _ hf a6
 . (
 intro a7 w1 hh hd hk K Z
 have D1:=Sb.v 0 0 hd hk []
 clear hd
 replace c0:=cL hh.ext c0
 replace c1:=cL hh.ext c1
 replace o8:=o8.later hh.ext
 go_simp
 go_at_call 149;refine (Gm w1 _ init ss o8 oM).mono ?_;rintro e w2 ⟨rfl,hb⟩
 exact Z.out _ rfl _ _ hb rfl)
 refine Sb.T 2 hf a6 ?_ (hF:=fun _ _ h d=>Sb.O h s2)
 refine Sb.T 3 hf a6 ?_ (hF:=fun _ _ h d=>ad (cL h.ext c0) (ad (cL h.ext c1) (o8.later h.ext)))
 refine Sb.T 4 hf a6 ?_
 refine Sb.E1 (k:=5) (n:=64) (Ta.PZ #[.int .u64 0,.bool false] 190) hf.size a6.out rfl (Ta.PZ.u5 _ _) ?_ ?_
 . (
 intro a7 w1 hh hd hk K Z
 refine Sb.pl ?_
 clear hd
 go_simp
 exact Z.out _ rfl _ _ ((Below.refl _ _).alloc nR _) (Ta.PZ.mk _ _ _))
 refine Sb.mN 6 1 4 hf a6 [] ?_
 refine Ta.EK (n:=64) (m:=7) (ws:=[]) [(5,7,.cells #[.int .u64 0,.bool false] 190)] ?_ kR hf.size a6.out rfl rfl kR (fun a7 w1 hh hg pR=> ?_)
 . (
 intro x hx
 simp only [List.mem_cons,List.not_mem_nil,or_false] at hx
 rcases hx with rfl<;>exact Ta.BF rfl rfl rfl rfl (fun e w=>kR) (fun w=>Ta.PZ.mk _ _ w))
 replace s1:=Sb.O hh s1
 replace s2:=Sb.O hh s2
 have s6:=Tl.z7 6 0 hg rfl rfl rfl rfl rfl
 obtain ⟨x7,s7,SX⟩:=Tl.gD (j:=5) (m:=1) hg rfl rfl rfl rfl rfl
 obtain ⟨g7,hv7,bJ⟩:=SX
 subst hv7
 have G7:=Tl.z7 4 2 hg rfl rfl rfl rfl rfl
 have lo7:=Ta.low pR (5,7,.cells #[.int .u64 0,.bool false] 190) sP rfl s7
 clear pR
 have y5:=hh.fr hf
 have hx:=hh.ext
 replace c0:=cL hx c0
 replace c1:=cL hx c1
 replace o8:=o8.later hx
 clear hg hh hf a6
 have hf:=y5;clear y5
 have i0:=n5 0 bJ;have i1:=n5 1 bJ;have fi0:=j6 (i:=0) bJ;have fi1:=j6 (i:=1) bJ
 simp at i0 i1
 refine Tl.J5 rfl rfl (fun K Z=> ?_)
 go_simp
 apply Z.out;clear Z K
 refine Tl.L8 rfl ?_
 refine z8 1 2 6 7 hf ?_
 clear hf s1 s2 s6 s7 G7;intro a7 hf sS
 generalize Y4:(w1.setCell ⟨g7,0,none⟩ (.int .u64 init)).setCell ⟨g7,1,none⟩ (.bool true)=W2
 obtain ⟨bJ,XF⟩:=rF bJ Y4
 have F9:=hx.trans (XF _ lo7)
 clear XF Y4 i0 i1 fi0 fi1 hx o8
 have e6:(ss.length:Int)-1=(k0:Int):=by have:=HK0.out;omega
 obtain ⟨s1,s2,s6,s7⟩:=sS
 rw [e6] at s6
 clear e6
 have mS:=j5 bJ
 refine Zs a8 fun _ a8=>Ze fun _ j8=>rg ?_
 have bB:=hf.B2 18 19
 refine Zy ?_
 clear bB
 refine Fc.nL (n:=64) (by simp only [Fc.G,hf.size]) hf.defers (fun a7 y5 hT=> ?_)
 have J8:=Fc.h4 hT 2 6 7 18
 simp (decide:=true) only [Fc.G,hf.size,reduceIte,s2,s6,s7] at J8
 replace hf:=y5;clear hT y5 s1 s2 s6 s7
 obtain ⟨s2,s6,s7,Q0⟩:=J8
 have bB:=hf.b 19
 refine ⟨?_⟩
 refine wpList_plain rfl fun KL uM=> ?_
 refine Gn _ s rfl (Fc.l5 Q0) (by unfold maxLen;omega) (fun v1 w2 yD r8=>uM _ _ ?_)
 obtain ⟨gb,cb,rfl⟩:=Th yD
 refine Fc.L.out ?_
 iterate 2 refine Zy ?_
 refine Fc.nil (F1 2 6 7 19 20 21 hf ?_)
 clear hf s2 s6 s7 Q0 bB;intro a7 hf sS
 replace bJ:=(r8.block _ mS).trans bJ
 replace F9:=F9.trans (r8.mono F9.size)
 obtain ⟨N2,hN2⟩:∃ x,W2.heap.size=x:=⟨_,rfl⟩
 rw [hN2] at yD mS
 clear r8 hN2
 refine Zx j8 (wp_block (wp_loop_ghost (fun gk fr wr=>∃ (i k n:Nat) (f:Bool),gk=(wl s).length-i/\i<=(wl s).length/\k<ss.length/\n<q9/\valG ss k (n,f) ((wl s).drop i)=G0/\Fc.Fr 64 fr/\fr.tmps[2]? =some (.pointer (some ⟨w.heap.size,0,none⟩))/\fr.tmps[6]? =some (.int .i64 k)/\fr.tmps[7]? =some (Ta.ptr g7)/\fr.tmps[19]? =some (.slice (some ⟨gb,0,none⟩) (wl s).length cb)/\fr.tmps[20]? =some (.int .i64 (wl s).length)/\fr.tmps[21]? =some (.int .i64 i)/\OM wr N2 (.slice (some ⟨gb,0,none⟩) (wl s).length cb) (wl s)/\wr.heap[g7]? =some (.cells #[.int .u64 n,.bool f] 190 (0,0))/\Below W0.heap.size W0 wr) ((wl s).length) ?_ ?_))
 . (
 obtain ⟨s2,s6,s7,K9,N5,S9⟩:=sS
 exact ⟨0,k0,init,true,rfl,Nat.zero_le _,by have:=HK0.out;omega,D7,hG1,hf,s2,s6,s7,K9,N5,S9,yD,bJ,F9⟩)
 . (
 clear hf sS
 clear yD bJ F9 hG1
 rintro gk fr wr ⟨i,k,n,f,dA,hi,hk,hn,hG,hf,s2,s6,s7,K9,N5,S9,yD,bJ,F9⟩
 have HK:=H9 dA;clear dA
 refine Ze fun _ j8=>Zr [] hf ?_
 refine Z1 2 6 7 19 20 21 22 hf ?_
 clear hf s2 s6 s7 K9 N5 S9;intro a7 hf sS
 refine Zs j8 fun _ j8=>Fc.l0 sS.2.2.2.2.2.2 (fun hq=> ?_) (fun hq=> ?_)
 . (
 have o9:i<(wl s).length:=qT
 clear hq
 obtain ⟨b,ak⟩:∃ b,(wl s)[i]? =some b:=⟨_,F8 o9⟩
 obtain ⟨_,_,hvv,X3,qg,cb0, -⟩:=yD.cell ak
 injection hvv with h1 _ h2;injection h1 with h1;injection h1 with h1;subst h1;subst h2
 have tR:b<256:=cX s b (T9 ak)
 have Tj:=List.drop_eq_getElem_cons o9
 have tk:(wl s)[i]=b:=(H2 ak).2
 rw [tk] at Tj
 rw [Tj] at hG
 obtain ⟨st,A8⟩:∃ x,ss[k]? =some x:=⟨_,F8 hk⟩
 have Mx:=H7 F9 z0 XE;have c1w:=H7 F9 z1 XE
 have o8:=(Q7.below F9).rs
 have Z7:st.j4.length<4611686018427387904:=(a6 _ (T9 A8)).2.1
 clear Tj tk ak
 refine wp_skip (Zs j8 fun _ j8=>wp_block (Ze fun _ l8=>Zr [23,24] hf ?_))
 refine Z1 2 6 7 9 19 20 21 hf ?_
 intro a7 hf sS
 refine Zx l8 ?_
 rcases MR:st.j4.find? (G8 b k) with _ | a
 . (
 refine Ze fun _ l8=>rg ?_
 have bB:=hf.B8 26 27 28 29 25 30 31 32
 iterate 3 refine Zy ?_
 refine Zc (yE wr _ init ss o8 k b st A8 oM Z7) ?_;rintro e w5 ⟨rfl,F3⟩
 rw [MR]
 simp only [stepV]
 replace yD:=yD.later F3;replace bJ:=(F3.block _ (j5 bJ)).trans bJ;replace F9:=F9.trans (F3.mono F9.size)
 clear o8 cb0 Mx c1w F3
 refine Zv ?_
 iterate 7 refine Zy ?_
 refine Fc.nil (mF 2 7 10 11 12 19 20 21 hf ?_)
 intro a7 hf sS
 refine Zs l8 fun _ l8=>Ze fun _ F5=>Zr [33] hf ?_
 refine mF 2 7 10 11 19 20 21 34 hf ?_
 intro a7 hf sS
 refine Zx F5 (Fc.l7 sS.2.2.2.2.2.2.2 ?_)
 have tn:G0=none:=by rw [<- hG];simp only [valG,A8,Option.bind_some,MR]
 refine Ze fun _ F5=>Zr [] hf ?_
 refine y4 4 5 hf ?_
 intro a7 hf sS
 refine Zx F5 (k8 ?_)
 exact Fc.H6 rfl hf sS.1 sS.2 ⟨by rw [HV.out,tn];rfl,o7.trans (F9.mono o7.size)⟩)
 . (
 have aj:G8 b k a=true:=List.find?_some MR
 have tQ:0<=a.to/\a.to<(k:Int):=by unfold G8 at aj;simp at aj;omega
 obtain ⟨c,hc⟩:∃ c:Nat,a.to=(c:Int):=⟨a.to.toNat,oM⟩
 have DV:a.out<q9:=((a6 _ (T9 A8)).2.2 a (List.mem_of_find?_eq_some MR)).2.1
 have hG2:valG ss c ((n+a.out)%q9,f&&decide (n+a.out<q9)) ((wl s).drop (i+1))=G0:=by rw [<- hG];simp only [valG,A8,Option.bind_some,MR,hc,Int.toNat_natCast]
 have HC:=H9 hc;have R8:c<ss.length:=oM
 clear hG hc aj tQ
 refine Ze fun _ l8=>rg ?_
 have bB:=hf.B8 26 27 28 29 25 30 31 32
 iterate 3 refine Zy ?_
 refine Zc (yE wr _ init ss o8 k b st A8 oM Z7) ?_;rintro e w5 ⟨rfl,F3⟩
 rw [MR]
 simp only [stepV]
 rw [HC.out]
 replace yD:=yD.later F3;replace bJ:=(F3.block _ (j5 bJ)).trans bJ;replace F9:=F9.trans (F3.mono F9.size)
 clear o8 cb0 Mx c1w F3
 refine Zv ?_
 iterate 7 refine Zy ?_
 refine Fc.nil (mF 2 7 10 11 12 19 20 21 hf ?_)
 intro a7 hf sS
 refine Zs l8 fun _ l8=>Ze fun _ F5=>Zr [33] hf ?_
 refine mF 2 7 10 11 19 20 21 34 hf ?_
 intro a7 hf sS
 refine Zx F5 (Fc.k9 sS.2.2.2.2.2.2.2 ?_)
 have y0:=n5 0 bJ;have y1:=n5 1 bJ;have fy0:=j6 (i:=0) bJ;have fy1:=j6 (i:=1) bJ
 simp at y0 y1
 refine wp_skip (Zx l8 (rg ?_))
 have bB:=hf.B4 35 36 37 38
 iterate 3 refine Zy ?_
 refine Zc (mQ w5 n a.out f hn DV) ?_;rintro e w8 ⟨rfl,aA⟩
 obtain ⟨sm,N6⟩:∃ x,(n+a.out)%q9=x:=⟨_,rfl⟩
 obtain ⟨sf,AB⟩:∃ x,(f&&decide (n+a.out<q9))=x:=⟨_,rfl⟩
 rw [N6,AB] at hG2 |-
 have Gf:sm<q9:=by rw [<- N6];exact Nat.mod_lt _ (by unfold q9;omega)
 clear N6 AB
 replace yD:=yD.later aA;replace bJ:=(aA.block _ (j5 bJ)).trans bJ;replace F9:=F9.trans (aA.mono F9.size);replace y0:=cL aA y0;replace y1:=cL aA y1;replace fy0:=j6 (i:=0) bJ;replace fy1:=j6 (i:=1) bJ
 clear aA
 refine Zv ?_
 iterate 2 refine Zy ?_
 refine Fc.nil (F1 2 6 7 19 20 21 hf ?_)
 intro a7 hf sS
 generalize mP:(w8.setCell ⟨g7,0,none⟩ (.int .u64 sm)).setCell ⟨g7,1,none⟩ (.bool sf)=W9
 obtain ⟨bJ,XF⟩:=rF bJ mP
 replace yD:OM W9 N2 (.slice (some ⟨gb,0,none⟩) (wl s).length cb) (wl s):=by rw [<- mP];exact (yD.off mS).off mS
 replace F9:=F9.trans (XF _ lo7)
 clear XF mP y0 y1 fy0 fy1
 refine Fc.j9 (Zx j8 (Zr [39] hf ?_))
 refine F1 2 6 7 19 20 21 hf ?_
 intro a7 hf sS
 refine Fc.j7 ?_
 obtain ⟨s2,s6,s7,K9,N5,S9⟩:=sS
 exact ⟨_,by have:=HK.out;omega,i+1,c,sm,sf,rfl,oM,R8,Gf,hG2,hf,s2,s6,s7,K9,N5,by rw [S9];rfl,yD,bJ,F9⟩))
 . (
 have C3:i=(wl s).length:=qF
 clear hq
 rw [C3,List.drop_length] at hG
 simp only [valG] at hG
 obtain ⟨st,A8⟩:∃ x,ss[k]? =some x:=⟨_,F8 hk⟩
 have nu:=H9 (show uL init ss s=(if st.final&&(f&&decide (n+st.out<q9)&&decide ((n+st.out)%q9<=4294967296)) then some ((n+st.out)%q9) else none) by rw [HV.out, <- hG];simp only [valFin,A8])
 have tS:=(a6 _ (T9 A8)).1
 have Mx:=H7 F9 z0 XE
 have o8:=(Q7.below F9).rs
 obtain ⟨bb,off,av,zV,C7⟩:=o8.at_ A8
 subst zV
 have x1:=C7.c1;have x2:=C7.c2
 have q1:decide ((k:Int)<0)=false:=decide_eq_false oM
 clear C7 o8 hG yD
 refine Zo ?_
 refine Zs a8 fun _ a8=>Ze fun _ j8=> ?_
 have qs:=q1
 refine Zr [40,41,42,43,44,45,46,47,48,49] hf ?_
 refine z8 2 6 7 50 hf ?_
 clear hf sS qs;intro a7 hf sS
 refine Zx j8 (Fc.l0 sS.2.2.2 (fun C5=> ?_) (fun C5=> ?_))
 . (
 have gJ:st.final=false:=by simpa using C5
 clear C5
 refine Ze fun _ j8=>Zr [] hf ?_
 refine y4 4 5 hf ?_
 intro a7 hf sS
 refine Zx j8 (k8 ?_)
 exact Fc.H6 rfl hf sS.1 sS.2 ⟨by rw [nu.out,gJ];rfl,o7.trans (F9.mono o7.size)⟩)
 . (
 have gJ:st.final=true:=by simpa using C5
 clear C5
 have y0:=n5 0 bJ;have y1:=n5 1 bJ
 simp at y0 y1
 obtain ⟨sm,N6⟩:∃ x,(n+st.out)%q9=x:=⟨_,rfl⟩
 obtain ⟨sf,AB⟩:∃ x,(f&&decide (n+st.out<q9))=x:=⟨_,rfl⟩
 have vV:=nu.out
 rw [gJ,N6,AB,Bool.true_and] at vV
 have SY:=H9 N6;have HSF:=H9 AB;have HV3:=H9 vV;clear N6 AB nu vV
 refine wp_skip (Zs a8 fun _ a8=>Ze fun _ j8=> ?_)
 obtain ⟨s2,s6,s7,GU⟩:=sS
 refine Sb.tb 64 fun a6=> ?_
 have lf:=H9 fun (w9:World) (h9:Below _ _ w9)=>ad (cL h9 Mx) (ad (cL h9 x2) (ad (cL h9 y0) (cL h9 y1)))
 refine Sb.T 0 hf a6 ?_ (hF:=fun _ _ h d=>ad (Sb.O h s7) (lf.out _ h.ext))
 refine Sb.T 1 hf a6 ?_ (hF:=fun _ _ h d=>Sb.O h s2)
 refine Sb.T 2 hf a6 ?_ (hF:=fun _ _ h d=>lf.out _ h.ext)
 refine Sb.mO 3 s6 hf a6 ?_
 refine Sb.T 4 hf a6 ?_
 refine Sb.T 5 hf a6 ?_
 refine Sb.T 6 hf a6 ?_ (hF:=fun _ _ h d=>lf.out _ h.ext)
 apply Sb.tq 7 _ hf a6
 . (
 intro a7 w1 hh hd hk K Z
 have qQ:=Sb.v 0 6 hd hk []
 have ai:=Sb.v 6 0 hd hk []
 clear hd
 have L1:=lf.out _ hh.ext;(try clear Mx x2 y0 y1);obtain ⟨Mx,x2,y0,y1⟩:=L1
 go_simp
 go_at_call 113;refine (mQ w1 n st.out f hn tS).mono ?_;rintro e w2 ⟨rfl,hb⟩
 rw [SY.out,HSF.out]
 exact Z.out _ rfl _ _ hb rfl)
 refine Tl.G5 (n:=64) (m:=8) (ws:=[]) kR hf.size a6.out rfl rfl kR (fun a7 w1 hh hg=> ?_)
 replace s7:=Sb.O hh s7
 have nt:=Tl.z7 7 0 hg rfl rfl rfl rfl rfl
 have y5:=hh.fr hf
 have hx:=hh.ext
 have L1:=lf.out _ hx;(try clear Mx x2 y0 y1);clear lf;obtain ⟨Mx,x2,y0,y1⟩:=L1
 clear hg hh hf a6 s2 s6 GU
 have hf:=y5;clear y5
 replace bJ:=(hx.block _ (j5 bJ)).trans bJ;replace F9:=F9.trans (hx.mono F9.size)
 have fy0:=j6 (i:=0) bJ;have fy1:=j6 (i:=1) bJ
 refine Tl.J5 rfl rfl (fun K Z=> ?_)
 go_simp
 apply Z.out;clear Z K
 refine Tl.L8 rfl ?_
 refine p5 7 hf ?_
 clear hf s7 nt;intro a7 hf s7
 have vV:=HV3.out;clear HV3
 generalize lT:(w1.setCell ⟨g7,0,none⟩ (.int .u64 sm)).setCell ⟨g7,1,none⟩ (.bool sf)=W3
 obtain ⟨bJ,XF⟩:=rF bJ lT
 replace F9:=F9.trans (XF _ lo7)
 clear XF lT y0 y1 fy0 fy1 Mx x2
 have y0:=n5 0 bJ;have y1:=n5 1 bJ
 simp at y0 y1
 refine Zt j8 fun _ j8=> ?_
 have bB:=hf.B2 59 60
 refine Zy ?_
 refine Zc (NC W3 sm sf) ?_;rintro e w5 ⟨rfl,F3⟩
 obtain ⟨is,cU⟩:∃ x,(sf&&decide (sm<=4294967296))=x:=⟨_,rfl⟩
 rw [cU] at vV |-
 have nu:=H9 vV
 replace F9:=F9.trans (F3.mono F9.size);replace y0:=cL F3 y0
 clear vV cU F3
 refine Zv ?_
 refine Zy ?_
 refine Fc.nil (y4 7 61 hf ?_)
 clear hf s7 bB;intro a7 hf sS
 refine Zx j8 (Fc.l0 sS.2 (fun R0=> ?_) (fun R0=> ?_))
 . (
 have N3:is=false:=by simpa using R0
 clear R0
 subst N3
 refine Ze fun _ j8=>Zr [] hf ?_
 refine y4 4 5 hf ?_
 intro a7 hf sS
 refine Zx j8 (k8 ?_)
 exact Fc.H6 rfl hf sS.1 sS.2 ⟨by rw [nu.out];rfl,o7.trans (F9.mono o7.size)⟩)
 . (
 have N3:is=true:=by simpa using R0
 clear R0
 subst N3
 refine wp_skip (Zs a8 fun _ a8=>Zr [62,63] hf ?_)
 refine y4 4 5 hf ?_
 intro a7 hf sS
 refine Zx a8 (k8 ?_)
 exact Fc.H6 rfl hf sS.1 sS.2 ⟨by rw [nu.out];rfl,o7.trans (F9.mono o7.size)⟩))))
end Dw
end Go.Proofs.YtcddnmhmcieebaaGreatDoor
