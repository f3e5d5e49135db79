/- law16: drawn. -/
import Derived.Test.YtcddnmhmcieebaaGreatDoorY15
import Derived.Test.YtcddnmhmcieebaaGreatDoorY16
import Derived.Test.YtcddnmhmcieebaaGreatDoorY22
import Derived.Test.YtcddnmhmcieebaaGreatDoorY23
import Derived.Test.YtcddnmhmcieebaaGreatDoorTools
namespace Go.Proofs.YtcddnmhmcieebaaGreatDoor
open Go.RowKit
set_option linter.unusedSimpArgs false
set_option linter.unusedVariables false
set_option linter.unnecessarySimpa false
namespace Dw
theorem x5u {w:World} {g:Nat} {x y:Value} {t:TypeId} (h:w.heap[g]? =some (.cells #[x,y] t (0,0))) (x' y':Value):((w.setCell ⟨g,0,none⟩ x').setCell ⟨g,1,none⟩ y').heap[g]? =some (.cells #[x',y'] t (0,0)) :=
 (j5 (i:=1) (cs:= #[x',y]) (t:=t) (fr:=(0,0)) ((j5 (i:=0) (cs:= #[x,y]) (t:=t) (fr:=(0,0)) h x').trans sP) y').trans sP
theorem x0i {w:World} {g:Nat} {x y z:Value} {t:TypeId} (h:w.heap[g]? =some (.cells #[x,y,z] t (0,0))) (z':Value):(w.setCell ⟨g,2,none⟩ z').heap[g]? =some (.cells #[x,y,z'] t (0,0)) :=
 (j5 (i:=2) (cs:= #[x,y,z]) (t:=t) (fr:=(0,0)) h z').trans sP
theorem v7x {w:World} {g:Nat} {x y z:Value} {t:TypeId} (h:w.heap[g]? =some (.cells #[x,y,z] t (0,0))) (x':Value):(w.setCell ⟨g,0,none⟩ x').heap[g]? =some (.cells #[x',y,z] t (0,0)) :=
 (j5 (i:=0) (cs:= #[x,y,z]) (t:=t) (fr:=(0,0)) h x').trans sP
theorem z0q {w:World} {g:Nat} {x y:Value} {t:TypeId} (h:w.heap[g]? =some (.cells #[x,y] t (0,0))) (x':Value):(w.setCell ⟨g,0,none⟩ x').heap[g]? =some (.cells #[x',y] t (0,0)) :=
 (j5 (i:=0) (cs:= #[x,y]) (t:=t) (fr:=(0,0)) h x').trans sP
theorem RS.off {w w':World} {g:Nat} {sv:Value} {ss:List State} (h:RS w sv ss) (hg:∀ cs t fr,w.heap[g]? =some (.cells cs t fr)->cs.size<=2) (hb:n4 (fun k=>k=g) w w'):RS w' sv ss:=by
 have key:∀ (b o:Nat) (x y z:Value),w.cell? ⟨b,o,none⟩=some x->w.cell? ⟨b,o+1,none⟩=some y->w.cell? ⟨b,o+2,none⟩=some z->b≠g:=by
  rintro b o x y z _ _ h3 rfl
  unfold World.cell? at h3
  cases ho:w.heap[b]? with
  | none=>simp [ho] at h3
  | some ob =>
   cases ob with
   | cells cs t fr =>
    have:=hg cs t fr ho
    simp only [ho] at h3
    have:=(Array.getElem?_eq_some_iff.1 h3).1
    omega
   | _=>simp [ho] at h3
 obtain ⟨A,c,h1,h2,h3⟩:=h
 refine ⟨A,c,h1,h2,fun h0=> ?_⟩
 obtain ⟨b,off,h4,h5⟩:=h3 h0
 refine ⟨b,off,h4,fun i s hi=> ?_⟩
 obtain ⟨av,h6⟩:=h5 i s hi
 have tF:=key _ _ _ _ _ h6.c0 h6.c1 h6.c2
 refine ⟨av,hb.cell h6.c0 tF,hb.cell h6.c1 tF,hb.cell h6.c2 tF,?_⟩
 obtain ⟨A',c',k1,k2,k3⟩:=h6.a6
 refine ⟨A',c',k1,k2,fun k0=> ?_⟩
 obtain ⟨b',v7w,k4,k5,k6⟩:=k3 k0
 have hl:2<(nG s.a6).length:=by rw [P8];omega
 have u6f:b'≠g:=key b' v7w _ _ _ (k6 0 _ (D9 oM)) (k6 1 _ (D9 oM)) (k6 2 _ (D9 hl))
 exact ⟨b',v7w,k4,trivial,fun j u hu=>hb.cell (k6 j u hu) u6f⟩
theorem SR.app {w1 w3:World} {base B4:Nat} {C:Nat->Prop} {V v3 NV:Value} {l:List (Value×State)} {st:State} (hZ:SR w1 base C V l) (Y8:OA w1 B4 NV st.a6) (hnv:∀ k,NV.ownBlock=some k->V.ownBlock≠some k) (hCV:∀ k,C k->V.ownBlock≠some k) (hg:w1.grownBy w3 V.ownBlock) (hr:w3.ownsRow base 46 3 v3 (l.length+1) (lN l++[NV,.bool st.final,.int .u64 st.out])):SR w3 base (fun k=>C k\/NV.ownBlock=some k) v3 (l++[(NV,st)]):=by
 have tF:n4 (fun k=>V.ownBlock=some k) w1 w3:=n4.grown hg (fun k hk=>hk)
 refine ⟨by rw [List.length_append,pM];exact hr,fun x hx=> ?_⟩
 rcases List.mem_append.1 hx with hx | hx
 ·exact ((hZ.a6 x hx).but tF (fun k hk h=>hCV k hk h)).more (fun k _ hk=> .inl hk)
 ·simp at hx
  subst hx
  exact ((Y8.ra (B:=fun k=>NV.ownBlock=some k) (fun k hk=>hk)).but tF (fun k hk h=>hnv k hk h)).more (fun k _ hk=> .inr hk)
def toD (i:Nat) (t:Int):Int:=(t.tmod (i:Int)+(i:Int)).tmod (i:Int)
theorem w6v {i:Nat} (hi:0<i) (t:Int):0<=toD i t/\toD i t<(i:Int):=by
 have h1: -(i:Int)<t.tmod i:=Int.lt_tmod_of_pos _ oM
 have h2:t.tmod i<(i:Int):=Int.tmod_lt_of_pos _ oM
 unfold toD
 rw [Int.tmod_eq_emod_of_nonneg oM]
 exact ⟨Int.emod_nonneg _ oM,Int.emod_lt_of_pos _ oM⟩
def dT (i:Nat) (acc:List r7) (a:r7):List r7:=if (∀ b∈acc.getLast?,b.byte<a.byte) then acc++[⟨a.byte,a.out,toD i a.to⟩] else acc
def R5 (i:Nat) (l:List r7):List r7:=l.foldl (dT i) []
def dY (i:Nat) (s:State):State:=⟨s.final,if s.final then s.out else 0,if i=0 then [] else R5 i (s.a6.take 3)⟩
def drawL:Nat->List State->List State
 | _,[]=>[]
 | i,s::l=>dY i s::drawL (i+1) l
def z9t (ss:List State):List State:=drawL 0 (ss.take 7)
theorem jK:∀ (a b:List State) (i:Nat),drawL i (a++b)=drawL i a++drawL (i+a.length) b
 | [],b,i=>by simp [drawL]
 | x::a,b,i=>by simp only [List.cons_append,drawL,List.length_cons];rw [jK a b (i+1),show i+1+a.length=i+(a.length+1) by omega]
theorem z4u {l:List State} {i:Nat} {s:State} (h:l[i]? =some s):drawL 0 (l.take (i+1))=drawL 0 (l.take i)++[dY i s]:=by
 have hl:=(E2 h).1
 rw [List.take_add_one,h,jK]
 simp only [Option.toList,drawL,Nat.zero_add,List.length_take]
 rw [Nat.min_eq_left oM]
theorem S9:∀ (l:List State) (i:Nat),(drawL i l).length=l.length
 | [],_=>rfl
 | x::l,i=>by simp [drawL,S9 l]
theorem uY:∀ (l:List State) (i k:Nat) (st:State),(drawL i l)[k]? =some st->∃ s,l[k]? =some s/\st=dY (i+k) s
 | [],_,k,st,h=>by simp [drawL] at h
 | x::l,i,k,st,h=>by
  cases k with
  | zero=>simp [drawL] at h;exact ⟨x,rfl,h.symm⟩
  | succ k =>
   obtain ⟨s,h1,h2⟩:=uY l (i+1) k st (by simpa [drawL] using h)
   exact ⟨s,by simpa using h1,by rw [h2,show i+1+k=i+(k+1) by omega]⟩
theorem z4t {i j:Nat} {l:List r7} {a:r7} (h:l[j]? =some a):R5 i (l.take (j+1))=dT i (R5 i (l.take j)) a:=by
 unfold R5
 rw [List.take_add_one,h,List.foldl_append]
 rfl
theorem pN (i:Nat) (a:r7):dT i [] a=[⟨a.byte,a.out,toD i a.to⟩]:=by
 unfold dT
 rw [if_pos (fun b hb=>by cases hb)]
 rfl
theorem y3n (i:Nat) (acc:List r7) (a:r7):acc.length<=(dT i acc a).length/\(dT i acc a).length<=acc.length+1:=by
 unfold dT
 split
 ·simp
 ·exact ⟨nR,Nat.le_succ _⟩
theorem fH (i:Nat):∀ (l acc:List r7),acc.length<=(l.foldl (dT i) acc).length/\(l.foldl (dT i) acc).length<=acc.length+l.length
 | [],acc=>⟨nR,sP⟩
 | a::l,acc=>by
  have h1:=y3n i acc a
  have h2:=fH i l (dT i acc a)
  simp only [List.foldl_cons,List.length_cons]
  omega
theorem y3m {i j:Nat} {l:List r7} {a:r7} (h:l[j]? =some a) {k:Nat} (hk:j<k):0<(R5 i (l.take k)).length:=by
 have h0:0<(l.take k).length:=by rw [List.length_take];have:=(E2 h).1;omega
 cases hq:l.take k with
 | nil=>rw [hq] at h0;cases h0
 | cons x r =>
  unfold R5
  rw [List.foldl_cons,pN]
  have:=fH i r [⟨x.byte,x.out,toD i x.to⟩]
  simp only [List.length_cons,List.length_nil] at this
  omega
theorem z9s {i:Nat} (hi:0<i) (tG:i<=1000):∀ (l acc:List r7),okArcs i (-1) acc=true->(∀ a∈acc,uZ a)->(∀ a∈l,uZ a)->okArcs i (-1) (l.foldl (dT i) acc)=true/\∀ a∈l.foldl (dT i) acc,uZ a
 | [],acc,h1,h2,_=>⟨h1,h2⟩
 | a::l,acc,h1,h2,h3=>by
  rw [List.foldl_cons]
  have ha:=h3 a (List.mem_cons_self ..)
  have ht:=w6v hi a.to
  have a8:uZ (⟨a.byte,a.out,toD i a.to⟩:r7):=⟨ha.1,ha.2.1,by show _<=toD i a.to;omega,by show toD i a.to<_;omega⟩
  have key:okArcs i (-1) (dT i acc a)=true/\∀ x∈dT i acc a,uZ x:=by
   unfold dT
   split
   ·rename_i hb
    refine ⟨?_,fun x hx=> ?_⟩
    ·refine lL (⟨a.byte,a.out,toD i a.to⟩:r7) ht.1 ht.2 acc (-1) h1 (by show (-1:Int)<((a.byte:Nat):Int);omega) fun b hm=> ?_
     show b.byte<a.byte
     have hp:acc.Pairwise fun x y=>x.byte<y.byte:=by
      have:∀ (l:List r7) (last:Int),okArcs i last l=true->l.Pairwise fun x y:r7=>x.byte<y.byte:=by
       intro l
       induction l with
       | nil=>intro _ _;exact List.Pairwise.nil
       | cons c l ih =>
        intro last h
        simp only [okArcs,Bool.and_eq_true,decide_eq_true_eq] at h
        exact List.pairwise_cons.2 ⟨fun y hy=>by have:=fJ l _ h.2 y hy;omega,ih _ h.2⟩
      exact this acc _ h1
     obtain ⟨z,hz⟩:∃ z,acc.getLast? =some z:=by
      cases hq:acc.getLast? with
      | none=>rw [List.getLast?_eq_none_iff] at hq;rw [hq] at hm;cases hm
      | some z=>exact ⟨z,rfl⟩
     have hza:=hb z (by rw [hz];rfl)
     obtain ⟨ys,hys⟩:=List.getLast?_eq_some_iff.1 hz
     rw [hys] at hm hp
     rcases List.mem_append.1 hm with hm | hm
     ·have:=(List.pairwise_append.1 hp).2.2 b hm z (List.mem_singleton.2 rfl);omega
     ·rw [List.mem_singleton.1 hm];exact hza
    ·rcases List.mem_append.1 hx with hx | hx
     ·exact h2 x hx
     ·rw [List.mem_singleton.1 hx];exact a8
   ·exact ⟨h1,h2⟩
  exact z9s hi tG l _ key.1 key.2 fun x hx=>h3 x (List.mem_cons_of_mem _ hx)
theorem x5t {ss:List State} (h:∀ s∈ss,s.out<18446744073709551616/\∀ a∈s.a6,uZ a):(z9t ss).length<=7/\∀ (k:Nat) (st:State),(z9t ss)[k]? =some st->J8 st/\st.a6.length<=3/\(st.final=false->st.out=0)/\okArcs k (-1) st.a6=true:=by
 refine ⟨by unfold z9t;rw [S9,List.length_take];omega,fun k st hk=> ?_⟩
 obtain ⟨s,h1,rfl⟩:=uY _ _ _ _ hk
 rw [Nat.zero_add]
 have hk7:k<7:=by have:=(E2 h1).1;rw [List.length_take] at this;omega
 have hs:=h s (List.mem_of_mem_take (U0 h1))
 have tQ:=fH k (s.a6.take 3) []
 have t1z:(s.a6.take 3).length<=3:=by rw [List.length_take];omega
 have w6t:(dY k s).out<18446744073709551616:=by unfold dY;simp only;split;exact hs.1;omega
 by_cases h0:k=0
 ·have ha:(dY k s).a6=[]:=by unfold dY;simp only;rw [if_pos h0]
  refine ⟨⟨w6t,by rw [ha];simp,by rw [ha];intro a ha;cases ha⟩,by rw [ha];simp,fun hf=> ?_,by rw [ha];rfl⟩
  unfold dY at hf |-
  simp only at hf |-
  rw [hf];rfl
 ·have ha:(dY k s).a6=R5 k (s.a6.take 3):=by unfold dY;simp only;rw [if_neg h0]
  obtain ⟨k1,k2⟩:=z9s (i:=k) oM oM (s.a6.take 3) [] rfl (fun a ha=>by cases ha) fun a ha=>hs.2 a (List.mem_of_mem_take ha)
  simp only [List.length_nil,Nat.zero_add] at tQ
  refine ⟨⟨w6t,by rw [ha];show (R5 k (s.a6.take 3)).length<_;unfold R5;omega,by rw [ha];exact k2⟩,by rw [ha];show (R5 k (s.a6.take 3)).length<=3;unfold R5;omega,fun hf=> ?_,by rw [ha];exact k1⟩
  unfold dY at hf |-
  simp only at hf |-
  rw [hf];rfl
theorem vA {i j:Nat} {s:State} (h:s.a6.length<=j\/3<=j) (hj:j<=3) (h0:i=0->j=0):R5 i (s.a6.take j)=(dY i s).a6:=by
 unfold dY
 simp only
 split
 ·rw [h0 (by assumption)];rfl
 ·rcases h with h | h
  ·rw [List.take_of_length_le h,List.take_of_length_le oM]
  ·rw [show j=3 by omega]
theorem z4s {i j:Nat} {s:State} (h:i=0) (hj:j=0):R5 i (s.a6.take j)=(dY i s).a6:=by
 unfold dY
 simp only
 rw [if_pos h,hj]
 rfl
theorem x5s {i:Nat} {acc:List r7} {a b:r7} (h:acc.getLast? =some b):dT i acc a=if b.byte<a.byte then acc++[⟨a.byte,a.out,toD i a.to⟩] else acc:=by
 unfold dT
 rw [h]
 by_cases hb:b.byte<a.byte
 ·rw [if_pos hb,if_pos (fun c hc=>by cases hc;exact hb)]
 ·rw [if_neg hb,if_neg (fun hc=>hb (hc b rfl))]
theorem x5r {i:Nat} (hi:0<i) (tG:i<=1000) (t:Int):IntKind.i64.wrap (t.tmod (i:Int)+(i:Int))=t.tmod (i:Int)+(i:Int):=by
 have h1: -(i:Int)<t.tmod i:=Int.lt_tmod_of_pos _ oM
 have h2:t.tmod i<(i:Int):=Int.tmod_lt_of_pos _ oM
 exact Fc.wrap_i64 oM oM
theorem x5q {w:World} {base:Nat} {v:Value} {l:List r7} (h:OA w base v l) {i:Nat} {x:r7} (hi:l[i]? =some x):∃ g c,v= .slice (some ⟨g,0,none⟩) l.length c/\base<=g/\w.cell? ⟨g,i*3,none⟩=some (.int .u8 x.byte)/\w.cell? ⟨g,i*3+1,none⟩=some (.int .u64 x.out)/\w.cell? ⟨g,i*3+2,none⟩=some (.int .i64 x.to):=by
 obtain ⟨n8,hx⟩:=E2 hi
 have h1:=h
 rcases h1.2 with ⟨_,h0⟩ | ⟨b,cap,cur,rfl,hb,hh,hc,_⟩
 ·omega
 ·have k:∀ j,j<3->w.cell? ⟨b,i*3+j,none⟩=([.int .u8 x.byte,.int .u64 x.out,.int .i64 x.to]:List Value)[j]? :=fun j hj=>by
   rw [World.ownsRow.cellAt h1 (i*3+j) oM,jL l i j n8 hj,hx]
   rfl
  exact ⟨b,cap,rfl,hb,k 0 oM,k 1 oM,k 2 oM⟩
set_option maxHeartbeats 4000000 in
set_option maxRecDepth 100000 in
theorem x5p (w:World) (sv:Value) (init:Nat) (ss:List State) (o7:RS w sv ss):Calls Tryz.prog 12 #[sv,.int .u64 init] w fun e w1=>∃ sv1,e= .returned (.agg #[sv1,.int .u64 init])/\RS w1 sv1 (z9t ss)/\Below w.heap.size w w1:=by
 refine aT 100 Tryz.func12 fun fr hf s0 s1=> ?_
 obtain ⟨A,cc,rfl,Z3⟩:=o7.form
 refine Ze fun _ b7=>Zr [] hf ?_
 refine B1 0 1 4 hf ?_
 clear hf s0 s1;intro a7 hf sS
 generalize U1:w.alloc (.cells #[.slice none 0 0,.int .u64 0] 38)=W2
 obtain ⟨z9r,fK⟩:=cW U1
 clear U1
 have S5:=o7.later z9r
 have N3:=S5.n
 clear S5
 refine Zs b7 fun _ b7=>Zr [10,11,5] hf ?_
 refine B1 0 4 5 hf ?_
 clear hf sS;intro a7 hf sS
 obtain ⟨g,hg⟩:∃ x,W2.heap.size=x:=⟨_,rfl⟩
 generalize kB:W2.alloc (.cells #[.slice none 0 0,.int .u64 init] 38)=W3
 obtain ⟨D4, -, -,tR, -⟩:=Z8 kB
 clear kB
 rw [hg] at N3 D4 tR
 obtain ⟨s0,s4,s5⟩:=sS
 try rw [hg] at s5
 have hwg:w.heap.size<g:=by rw [<- hg];exact j4 fK
 have HG:=H9 hg;clear hg
 refine Zs b7 fun _ b7=>Ze fun _ j8=>Zr [] hf ?_
 refine C0 0 4 5 6 hf ?_
 clear hf s0 s4 s5;intro a7 hf sS
 refine Zx j8 (wp_block (wp_loop_ghost (fun gk fr wr=>∃ (i:Nat) (V:Value) (l:List (Value×State)) (C:Nat->Prop),gk=7-i/\i<=ss.length/\i<=7/\Fc.Fr 100 fr/\(fr.tmps[0]? =some (.slice A ss.length cc)/\fr.tmps[4]? =some (.pointer (some ⟨w.heap.size,0,none⟩))/\fr.tmps[5]? =some (.pointer (some ⟨g,0,none⟩))/\fr.tmps[6]? =some (.int .i64 i))/\SR wr g C V l/\l.map Prod.snd=drawL 0 (ss.take i)/\(∀ k,V.ownBlock=some k->g<k)/\(∀ k,C k->g<k/\k<wr.heap.size/\V.ownBlock≠some k)/\wr.heap[g]? =some (.cells #[V,.int .u64 init] 38 (0,0))/\Below g W2 wr) (7) ?_ ?_))
 . (
 obtain ⟨s0,s4,s5,s6⟩:=sS
 exact ⟨0,_,[],fun _=>False,rfl,Nat.zero_le _,Nat.zero_le _,hf,⟨s0,s4,s5,s6⟩,SR.S0 _ _ _,rfl,(fun k h=>by cases h),(fun k h=>h.elim),tR,D4⟩)
 . (
 clear hf sS
 rintro gk fr wr ⟨i,V,l,C,hk,hi,hi7,hf,⟨s0,s4,s5,s6⟩,hZ,hl,hvb,hC,pP,hb⟩
 have HK:=H9 hk;have HL:=H9 hl;have HVB:=H9 hvb;have HC:=H9 hC;clear hk hl hvb hC
 rcases (by omega:ss.length<=i\/(i<ss.length/\7<=i)\/(i<ss.length/\i<7)) with h1 | ⟨h1,h2⟩ | ⟨h1,h2⟩
 . (
 have q1:decide (i<ss.length)=false:=decide_eq_false oM
 refine Ze fun _ j8=>Ze fun _ l6=> ?_
 have qs:=q1
 refine Zr [12,13,14,15,16,17,18] hf ?_
 refine D0 0 4 5 6 19 hf ?_
 clear hf s0 s4 s5 s6 qs;intro a7 hf sS
 refine Zx l6 (Fc.k9 sS.2.2.2.2 ?_)
 clear q1
 have nH:=HL.out
 have htk:ss.take i=ss.take 7:=by rw [List.take_of_length_le oM,List.take_of_length_le oM]
 rw [htk] at nH
 clear htk
 obtain ⟨Av,cv,pQ,xH⟩:=hZ.form
 subst pQ
 have g0:=n5 0 pP;have g1:=n5 1 pP
 simp at g0 g1
 have jM:=(hb.block w.heap.size hwg).trans fK
 have hzb:=hb.size
 have gC:=z9r.trans (hb.mono oM:Below w.heap.size W2 wr)
 have hgw:=j4 pP
 have n0:=n5 0 jM;have n1:=n5 1 jM;have fa:=j3 (i:=0) jM;have fb:=j3 (i:=1) jM
 simp at n0 n1
 refine Zo ?_
 refine Zs b7 fun _ b7=>Zr [99] hf ?_
 refine r6 4 hf ?_
 clear hf sS;intro a7 hf s4
 refine Zx b7 (k8 ?_)
 have hbS:n4 (fun k=>k=w.heap.size) _ _:=(n4.setCell (S:=fun k=>k=w.heap.size) (w:=wr) (p:=⟨w.heap.size,0,none⟩) rfl (.slice Av l.length cv)).trans (n4.setCell (S:=fun k=>k=w.heap.size) (p:=⟨w.heap.size,1,none⟩) rfl (.int .u64 init))
 have y3k:=(hZ.but hbS (fun k hk h=>by have:=HVB.out k hk;omega) (fun k hk h=>by have:=(HC.out k hk).1;omega)).rs
 rw [nH] at y3k
 exact N9 rfl hf s4 (x5u jM (.slice Av l.length cv) (.int .u64 init)) Tryz.underlying38 rfl kR ⟨_,rfl,y3k,(gC.setCell (p:=⟨w.heap.size,0,none⟩) nR _).setCell (p:=⟨w.heap.size,1,none⟩) nR _⟩)
 . (
 have q1:decide (i<ss.length)=true:=decide_eq_true oM
 have q2:decide ((i:Int)<7)=false:=decide_eq_false oM
 refine Ze fun _ j8=>Ze fun _ l6=> ?_
 have qs:=And.intro q1 q2
 refine Zr [12,13,14,15,16,17,18] hf ?_
 refine D0 0 4 5 6 19 hf ?_
 clear hf s0 s4 s5 s6 qs;intro a7 hf sS
 refine Zx l6 (Fc.k9 sS.2.2.2.2 ?_)
 clear q1 q2
 have nH:=HL.out
 have htk:ss.take i=ss.take 7:=by rw [show i=7 by omega]
 rw [htk] at nH
 clear htk
 obtain ⟨Av,cv,pQ,xH⟩:=hZ.form
 subst pQ
 have g0:=n5 0 pP;have g1:=n5 1 pP
 simp at g0 g1
 have jM:=(hb.block w.heap.size hwg).trans fK
 have hzb:=hb.size
 have gC:=z9r.trans (hb.mono oM:Below w.heap.size W2 wr)
 have hgw:=j4 pP
 have n0:=n5 0 jM;have n1:=n5 1 jM;have fa:=j3 (i:=0) jM;have fb:=j3 (i:=1) jM
 simp at n0 n1
 refine Zo ?_
 refine Zs b7 fun _ b7=>Zr [99] hf ?_
 refine r6 4 hf ?_
 clear hf sS;intro a7 hf s4
 refine Zx b7 (k8 ?_)
 have hbS:n4 (fun k=>k=w.heap.size) _ _:=(n4.setCell (S:=fun k=>k=w.heap.size) (w:=wr) (p:=⟨w.heap.size,0,none⟩) rfl (.slice Av l.length cv)).trans (n4.setCell (S:=fun k=>k=w.heap.size) (p:=⟨w.heap.size,1,none⟩) rfl (.int .u64 init))
 have y3k:=(hZ.but hbS (fun k hk h=>by have:=HVB.out k hk;omega) (fun k hk h=>by have:=(HC.out k hk).1;omega)).rs
 rw [nH] at y3k
 exact N9 rfl hf s4 (x5u jM (.slice Av l.length cv) (.int .u64 init)) Tryz.underlying38 rfl kR ⟨_,rfl,y3k,(gC.setCell (p:=⟨w.heap.size,0,none⟩) nR _).setCell (p:=⟨w.heap.size,1,none⟩) nR _⟩)
 . (
 have q1:decide (i<ss.length)=true:=decide_eq_true oM
 have q2:decide ((i:Int)<7)=true:=decide_eq_true oM
 refine Ze fun _ j8=>Ze fun _ l6=> ?_
 have qs:=And.intro q1 q2
 refine Zr [12,13,14,15,16,17,18] hf ?_
 refine D0 0 4 5 6 19 hf ?_
 clear hf s0 s4 s5 s6 qs;intro a7 hf sS
 refine Zx l6 (Fc.l8 sS.2.2.2.2 ?_)
 clear q1 q2
 have n8:i<ss.length:=h1
 obtain ⟨s,U2⟩:∃ s,ss[i]? =some s:=⟨_,D9 n8⟩
 obtain ⟨b,off,av,hAb,tF,D3⟩:=(N3.below hb).at_ U2
 subst hAb
 have d0:=D3.c0;have d1:=D3.c1;have d2:=D3.c2
 have v7v:=D3.a6
 obtain ⟨A2,c2,rfl,hc2⟩:=v7v.form
 clear D3
 have y8:=z4u U2
 have X9:=H9 y8;have HIS:=H9 U2;clear y8 U2
 obtain ⟨gs,hgs⟩:∃ x,wr.heap.size=x:=⟨_,rfl⟩
 have w6r:g<gs:=by rw [<- hgs];exact j4 pP
 obtain ⟨of,hof⟩:∃ x,(if s.final then s.out else 0)=x:=⟨_,rfl⟩
 have HOF:=H9 hof;clear hof
 refine wp_skip (Zs j8 fun _ j8=>wp_block (Ze fun _ l6=>Zr [22,23,24,25,26,27,7] hf ?_))
 refine D0 0 4 5 6 7 hf ?_
 clear hf sS;intro a7 hf sS
 generalize hW6:wr.alloc (.cells #[.slice none 0 0,.bool s.final,.int .u64 0] 46)=W6
 obtain ⟨G7,y0,y1,y2,bF, -⟩:=G1 hW6
 clear hW6
 rw [hgs] at G7 y0 y1 y2 bF
 obtain ⟨s0,s4,s5,s6,s7⟩:=sS
 try rw [hgs] at s7
 refine Zx l6 (Fc.L1 (fun fr wq=>Fc.Fr 100 fr/\((fr.tmps[0]? =some (.slice (some ⟨b,off,none⟩) ss.length cc)/\fr.tmps[4]? =some (.pointer (some ⟨w.heap.size,0,none⟩))/\fr.tmps[5]? =some (.pointer (some ⟨g,0,none⟩))/\fr.tmps[6]? =some (.int .i64 i))/\fr.tmps[7]? =some (.pointer (some ⟨gs,0,none⟩)))/\wq.heap[gs]? =some (.cells #[.slice none 0 0,.bool s.final,.int .u64 of] 46 (0,0))/\Below gs wr wq) ?_ ?_)
 . (
 rcases q9:s.final with _ | _
 . (
 have P9:=H9 q9
 rw [q9] at y1
 clear q9
 refine Ze fun _ l6=>Zr [28] hf ?_
 refine J3 0 4 5 6 7 29 hf ?_
 clear hf s0 s4 s5 s6 s7;intro a7 hf sS
 refine Zx l6 (Fc.k9 sS.2.2.2.2.2 ?_)
 refine wp_skip (Fc.j6 ?_)
 obtain ⟨s0,s4,s5,s6,s7,bG⟩:=sS
 exact ⟨hf,⟨⟨s0,s4,s5,s6⟩,s7⟩,by have h9:=bF;rw [P9.out] at h9;rw [show of=0 by rw [<- HOF.out,P9.out];rfl];exact h9,G7⟩)
 . (
 have P9:=H9 q9
 rw [q9] at y1
 clear q9
 have e0:=(G7.cell (p:=⟨b,off+i*3+2,none⟩) sQ).trans d2
 have fz2:=j3 (i:=2) bF
 refine Ze fun _ l6=>Zr [28] hf ?_
 refine J3 0 4 5 6 7 29 hf ?_
 clear hf s0 s4 s5 s6 s7;intro a7 hf sS
 refine Zx l6 (Fc.l8 sS.2.2.2.2.2 ?_)
 refine Zr [30,31,32,33,34,35] hf ?_
 refine D0 0 4 5 6 7 hf ?_
 clear hf sS;intro a7 hf sS
 have gD:=x0i bF (.int .u64 s.out)
 have dZ:=G7.setCell (p:=⟨gs,2,none⟩) nR (.int .u64 s.out)
 have tH:of=s.out:=by rw [<- HOF.out,P9.out];rfl
 have HO2:=H9 tH;clear tH
 refine Fc.j6 ?_
 obtain ⟨s0,s4,s5,s6,s7⟩:=sS
 exact ⟨hf,⟨⟨s0,s4,s5,s6⟩,s7⟩,by have h9:=gD;rw [P9.out] at h9;rw [HO2.out];exact h9,dZ⟩))
 . (
 clear hf s0 s4 s5 s6 s7
 rintro fr wq ⟨hf,⟨⟨s0,s4,s5,s6⟩,s7⟩,hp7,A8⟩
 refine Ze fun _ l6=>Ze fun _ N4=>Zr [] hf ?_
 refine J3 0 4 5 6 7 8 hf ?_
 clear hf s0 s4 s5 s6 s7;intro a7 hf sS
 refine Zx N4 (wp_block (wp_loop_ghost (fun nJ fr w2=>∃ (j:Nat) (V2:Value),nJ=3-j/\j<=s.a6.length/\j<=3/\(i=0->j=0)/\Fc.Fr 100 fr/\((fr.tmps[0]? =some (.slice (some ⟨b,off,none⟩) ss.length cc)/\fr.tmps[4]? =some (.pointer (some ⟨w.heap.size,0,none⟩))/\fr.tmps[5]? =some (.pointer (some ⟨g,0,none⟩))/\fr.tmps[6]? =some (.int .i64 i))/\fr.tmps[7]? =some (.pointer (some ⟨gs,0,none⟩)))/\fr.tmps[8]? =some (.int .i64 j)/\OA w2 gs V2 (R5 i (s.a6.take j))/\(∀ k,V2.ownBlock=some k->gs<k)/\w2.heap[gs]? =some (.cells #[V2,.bool s.final,.int .u64 of] 46 (0,0))/\Below gs wr w2) (3) ?_ ?_))
 . (
 obtain ⟨s0,s4,s5,s6,s7,s8⟩:=sS
 exact ⟨0,_,rfl,Nat.zero_le _,Nat.zero_le _,fun _=>rfl,hf,⟨⟨s0,s4,s5,s6⟩,s7⟩,s8,OA.S0 _ _,(fun k h=>by cases h),hp7,A8⟩)
 . (
 clear hf sS
 rintro nJ fr w2 ⟨j,V2,M5,hj,hj3,nK,hf,⟨⟨s0,s4,s5,s6⟩,s7⟩,s8,Y8,w6p,J2,r9⟩
 have HK2:=H9 M5;have z4r:=H9 w6p;have HI0:=H9 nK;clear M5 w6p nK
 have e0:=(r9.cell (p:=⟨b,off+i*3,none⟩) sQ).trans d0
 have y7y:=v7v.but (fL r9) (fun k hk h=>oM)
 rcases Nat.lt_or_ge j s.a6.length with hlj | nL
 . (
 rcases Nat.lt_or_ge j 3 with t1v | t1u
 . (
 rcases Nat.eq_zero_or_pos i with nK | nK
 . (
 have HI1:=H9 nK;clear nK
 have q1:decide (j<s.a6.length)=true:=decide_eq_true oM
 have q2:decide ((j:Int)<3)=true:=decide_eq_true oM
 have q3:decide (0<i)=false:=decide_eq_false (by have:=HI1.out;omega)
 refine Ze fun _ N4=>Ze fun _ U3=> ?_
 have qs:=And.intro q1 (And.intro q2 q3)
 refine Zr [36,37,38,39,40,41,42,43,44,45,46,47,48,49,50] hf ?_
 refine cP 0 4 5 6 7 8 51 hf ?_
 clear hf s0 s4 s5 s6 s7 s8 qs;intro a7 hf sS
 refine Zx U3 (Fc.k9 sS.2.2.2.2.2.2 ?_)
 clear q1 q2 q3
 have hfa:R5 i (s.a6.take j)=(dY i s).a6:=z4s HI1.out (HI0.out HI1.out)
 rw [hfa] at Y8
 clear hfa
 refine Zo ?_
 refine Zx l6 ?_
 have pR:=hZ.later (hgs▸r9)
 obtain ⟨Av,cv,pQ,xH⟩:=pR.form
 subst pQ
 have z9p:=(r9.block g w6r).trans pP
 obtain ⟨A3,c3,hv3,hc3⟩:=A1 Y8
 subst hv3
 have g0:=n5 0 z9p;have h0:=n5 0 J2;have h1:=n5 1 J2;have h2:=n5 2 J2
 simp at g0 h0 h1 h2
 have lP:=hb.trans (r9.mono oM)
 have U4:=lP.size
 have hlen:l.length=i:=by have:=congrArg List.length HL.out;rw [List.length_map,S9,List.length_take] at this;omega
 have v7s:l.length<=7:=oM
 clear hlen
 have hgz:W2.heap.size<=w2.heap.size:=U4
 have hg2:g<=w2.heap.size:=by have:=j4 J2;omega
 refine rg ?_
 have bB:=hf.B6 93 94 95 96 97 98
 iterate 4 refine Zy ?_
 obtain ⟨s0,s4,s5,s6,s7,s8,pS⟩:=sS
 clear bB
 refine Fc.lQ (n:=100) (by simp only [Fc.G,hf.size]) hf.defers (fun a7 u3 hT=> ?_)
 have G9:=Fc.h6 hT 0 4 5 6 94 96
 simp (decide:=true) only [Fc.G,hf.size,reduceIte,s0,s4,s5,s6] at G9
 replace hf:=u3;clear hT u3 s0 s4 s5 s6 s7 s8 pS
 obtain ⟨s0,s4,s5,s6,s94,s96⟩:=G9
 have bB:=hf.B2 97 98
 refine ⟨?_⟩
 refine wpList_plain rfl fun K5 U3=> ?_
 refine J7 _ _ 36 rfl 46 _ 3 40 Tryz.underlying36 aK rfl dC dC g (.slice Av l.length cv) l.length _ (Fc.k7 s94) (pR.row.alloc _) w2.heap.size [.slice A3 (dY i s).a6.length c3,.bool s.final,.int .u64 of] (Fc.k7 s96) rfl (E7 w2 _ _) (by intro u hu;simp at hu;rcases hu with rfl | rfl | rfl<;>rfl) oM sO (fun v5 w5 U5 aV P0=>U3 _ _ ?_)
 refine Fc.L.out ?_
 obtain ⟨A5,c5,hv5,_⟩:=A1 U5
 subst hv5
 obtain ⟨Wl,hWl⟩:∃ x,w2.alloc (.cells #[.slice A3 (dY i s).a6.length c3,.bool s.final,.int .u64 of] 46)=x:=⟨_,rfl⟩
 have aF:Below w2.heap.size w2 Wl:=by rw [<- hWl];exact (Below.refl _ _).alloc nR _
 have v7r:Wl.heap.size=w2.heap.size+1:=by rw [<- hWl];simp
 try rw [hWl] at U5 aV P0
 try simp only [List.toArray] at aV P0
 try rw [hWl] at aV P0
 have y3h:=pR.later aF
 have y3g:=l5 Y8 aF
 have xJ:∀ k,(.slice A3 (dY i s).a6.length c3:Value).ownBlock=some k->gs<k/\k<w2.heap.size:=fun k hk=>⟨z4r.out k hk,(World.ownsRow.lt Y8 k hk).2⟩
 have z9m:=y3h.app (st:=dY i s) y3g (fun k hk h=>by have h1:=xJ k hk;have h3:=(World.ownsRow.lt hZ.row k h).2;omega) (fun k hk=>(HC.out k hk).2.2) aV (by rw [show (dY i s).out=of from HOF.out];exact U5)
 have lR:n4 (fun k=>(.slice Av l.length cv:Value).ownBlock=some k) w2 w5:=(n4.of _ aF).trans (n4.grown aV (fun k hk=>hk))
 have pT:=lR.heap z9p (fun h=>by have:=HVB.out _ h;omega)
 have g1:=n5 0 pT;have fz5:=j3 (i:=0) pT
 simp at g1
 have pU:∀ k,(.slice A5 (l.length+1) c5:Value).ownBlock=some k->g<k:=fun k hk=>by rcases P0 with h | h;(rw [h] at hk;exact HVB.out k hk);(rw [h] at hk;injection hk with hk;omega)
 have hC5:∀ k,(C k\/(.slice A3 (dY i s).a6.length c3:Value).ownBlock=some k)->g<k/\k<w5.heap.size/\(.slice A5 (l.length+1) c5:Value).ownBlock≠some k:=fun k hk=>by
   have M5:g<k/\k<w2.heap.size/\(.slice Av l.length cv:Value).ownBlock≠some k:=by
     rcases hk with hk | hk
     . exact ⟨(HC.out k hk).1,by have:=(HC.out k hk).2.1;have:=r9.size;omega,(HC.out k hk).2.2⟩
     . exact ⟨by have:=xJ k hk;omega,(xJ k hk).2,fun h=>by have h1:=xJ k hk;have h3:=(World.ownsRow.lt hZ.row k h).2;omega⟩
   refine ⟨M5.1,by have:=lR.size;omega,fun h=> ?_⟩
   rcases P0 with h4 | h4
   . rw [h4] at h;exact M5.2.2 h
   . rw [h4] at h;injection h with h;omega
 have z9l:=lP.trans (lR.below hg2 (fun k hk=>by have:=HVB.out k hk;omega))
 iterate 2 refine Zy ?_
 refine Fc.nil (C0 0 4 5 6 hf ?_)
 clear hf s0 s4 s5 s6 s94 s96 bB;intro a7 hf sS
 have z4q:=z0q pT (.slice A5 (l.length+1) c5)
 have z9k:=z9l.setCell (p:=⟨g,0,none⟩) nR (.slice A5 (l.length+1) c5)
 have z9j:=z9m.but (n4.setCell (S:=fun k=>k=g) (p:=⟨g,0,none⟩) rfl (.slice A5 (l.length+1) c5)) (fun k hk h=>by have:=pU k hk;omega) (fun k hk h=>by have:=(hC5 k hk).1;omega)
 refine Fc.j7 (Zx j8 (Zr [20,21] hf ?_))
 refine C0 0 4 5 6 hf ?_
 clear hf sS;intro a7 hf sS
 refine Fc.j6 ?_
 obtain ⟨s0,s4,s5,s6⟩:=sS
 exact ⟨_,by have:=HK.out;omega,i+1,_,_,_,rfl,oM,oM,hf,⟨s0,s4,s5,by rw [s6];rfl⟩,z9j,by rw [List.map_append,HL.out,X9.out];rfl,pU,(fun k hk=>by have h9:=hC5 k hk;exact ⟨h9.1,by simpa [World.setCell] using h9.2.1,h9.2.2⟩),z4q,z9k⟩)
 . (
 have q1:decide (j<s.a6.length)=true:=decide_eq_true oM
 have q2:decide ((j:Int)<3)=true:=decide_eq_true oM
 have q3:decide (0<i)=true:=decide_eq_true oM
 refine Ze fun _ N4=>Ze fun _ U3=> ?_
 have qs:=And.intro q1 (And.intro q2 q3)
 refine Zr [36,37,38,39,40,41,42,43,44,45,46,47,48,49,50] hf ?_
 refine cP 0 4 5 6 7 8 51 hf ?_
 clear hf s0 s4 s5 s6 s7 s8 qs;intro a7 hf sS
 refine Zx U3 (Fc.l8 sS.2.2.2.2.2.2 ?_)
 clear q1 q2 q3
 obtain ⟨a,hja⟩:∃ a,s.a6[j]? =some a:=⟨_,D9 hlj⟩
 obtain ⟨ab,t1t,hA2,hab,k0,k1,k2⟩:=y7y.at' hja
 subst hA2
 have hft:=z4t (i:=i) hja
 have HFT:=H9 hft;have HJA:=H9 hja;clear hft hja
 obtain ⟨ga,hga⟩:∃ x,w2.heap.size=x:=⟨_,rfl⟩
 have t1s:gs<ga:=by rw [<- hga];exact j4 J2
 obtain ⟨la,hla⟩:∃ x,R5 i (s.a6.take j)=x:=⟨_,rfl⟩
 have t1r:la.length<=3:=by rw [<- hla];have:=fH i (s.a6.take j) [];rw [List.length_take] at this;simp only [List.length_nil,Nat.zero_add] at this;unfold R5;omega
 have v7o:0<j->0<la.length:=fun h=>by rw [<- hla];exact y3m (D9 oM:s.a6[0]? =some _) h
 rw [hla] at Y8 HFT
 have HLA:=H9 hla;have HLN:=H9 v7o;clear hla v7o
 refine wp_skip (Zs N4 fun _ N4=>wp_block (Ze fun _ U3=>Zr [54,55,56,57,58,59,60,61,9] hf ?_))
 refine cP 0 4 5 6 7 8 9 hf ?_
 clear hf sS;intro a7 hf sS
 generalize y7x:w2.alloc (.cells #[.int .u8 a.byte,.int .u64 a.out,.int .i64 a.to] 71)=W12
 obtain ⟨tS, -, -,u2,pV, -⟩:=G1 y7x
 clear y7x k0 k1 k2
 rw [hga] at tS u2 pV
 obtain ⟨s0,s4,s5,s6,s7,s8,s9⟩:=sS
 try rw [hga] at s9
 have fz2:=j3 (i:=2) pV
 refine Zt U3 fun _ U3=> ?_
 have bB:=hf.B9 62 63 64 65 66 67 68 69 70
 iterate 3 refine Zy ?_
 refine fp fun K Z=> ?_
 go_simp
 rw [if_neg (by omega)]
 rw [Oper.upon_value]
 apply Z.out;clear Z K
 refine Zy ?_
 refine fp fun K Z=> ?_
 go_simp
 try simp (disch:=omega) only [Fc.W]
 rw [x5r oM oM]
 apply Z.out;clear Z K
 refine Zy ?_
 refine fp fun K Z=> ?_
 go_simp
 rw [if_neg (by omega),show (a.to.tmod (i:Int)+(i:Int)).tmod (i:Int)=toD i a.to from rfl]
 rw [Oper.upon_value]
 apply Z.out;clear Z K
 iterate 2 refine Zy ?_
 refine Fc.nil (cP 0 4 5 6 7 8 9 hf ?_)
 clear hf s0 s4 s5 s6 s7 s8 s9 bB;intro a7 hf sS
 generalize htd:toD i a.to=td
 have z9i:=x0i pV (.int .i64 td)
 have cX:=tS.setCell (p:=⟨ga,2,none⟩) nR (.int .i64 td)
 obtain ⟨W13,w6o⟩:∃ x,W12.setCell ⟨ga,2,none⟩ (.int .i64 td)=x:=⟨_,rfl⟩
 rw [w6o] at z9i cX
 try rw [w6o]
 clear w6o pV tS u2 fz2
 have v0:=n5 0 z9i;have v1:=n5 1 z9i;have v2:=n5 2 z9i
 simp at v0 v1 v2
 rw [<- hga] at cX
 have lS:=l5 Y8 cX
 have z4o:=(cX.block gs (j4 J2)).trans J2
 obtain ⟨A3,c3,hv3,hc3⟩:=A1 lS
 subst hv3
 have g0:=n5 0 z4o
 simp at g0
 have vC:=r9.trans (cX.mono oM)
 have v7m:=vC.size
 have HTD:=H9 htd;clear htd
 refine Zx U3 (Fc.L1 (fun fr wq=>∃ t:Bool,Fc.Fr 100 fr/\((fr.tmps[0]? =some (.slice (some ⟨b,off,none⟩) ss.length cc)/\fr.tmps[4]? =some (.pointer (some ⟨w.heap.size,0,none⟩))/\fr.tmps[5]? =some (.pointer (some ⟨g,0,none⟩))/\fr.tmps[6]? =some (.int .i64 i))/\fr.tmps[7]? =some (.pointer (some ⟨gs,0,none⟩)))/\fr.tmps[8]? =some (.int .i64 j)/\fr.tmps[9]? =some (.pointer (some ⟨ga,0,none⟩))/\fr.tmps[86]? =some (.bool t)/\dT i la a=(if t then la++[⟨a.byte,a.out,td⟩] else la)/\Below W13.heap.size W13 wq) ?_ ?_)
 . (
 rcases Nat.eq_zero_or_pos j with h0 | h0
 . (
 have q1:(((j:Nat):Int)==0)=true:=beq_iff_eq.2 oM
 obtain ⟨s0,s4,s5,s6,s7,s8,s9⟩:=sS
 refine Sb.tb 100 fun a8=> ?_
 refine Sb.mO 0 s8 hf a8 ?_
 refine Sb.T 1 hf a8 ?_
 refine Sb.mN 2 1 0 hf a8 [] ?_
 refine Sb.Tk 3 hf a8 ?_
 refine Sb.Tk 4 hf a8 ?_
 refine Sb.Tk 5 hf a8 ?_
 refine Sb.Tk 6 hf a8 ?_
 refine Sb.Tk 7 hf a8 ?_
 refine Sb.Tk 8 hf a8 ?_
 refine Sb.Tk 9 hf a8 ?_
 refine Sb.Tk 10 hf a8 ?_
 refine Sb.Tk 11 hf a8 ?_
 refine Sb.Tk 12 hf a8 ?_
 refine Sb.Tk 13 hf a8 ?_
 refine Sb.Tk 14 hf a8 ?_
 refine Sb.T 15 hf a8 ?_
 refine Sb.E hf a8 (fun _ _ h g=>ad (Sb.O h s0) (ad (Sb.O h s4) (ad (Sb.O h s5) (ad (Sb.O h s6) (ad (Sb.O h s7) (ad (Sb.O h s8) (ad (Sb.O h s9) (Sb.f 15 0 g)))))))) ?_
 clear hf a8 s0 s4 s5 s6 s7 s8 s9;intro a7 w1 hf hx sS
 refine Fc.j6 ?_
 obtain ⟨s0,s4,s5,s6,s7,s8,s9,s86⟩:=sS
 exact ⟨true,hf,⟨⟨s0,s4,s5,s6⟩,s7⟩,s8,s9,s86,by rw [show la=[] by rw [<- HLA.out,h0];rfl,pN,HTD.out];rfl,hx⟩)
 . (
 have q1:(((j:Nat):Int)==0)=false:=beq_eq_false_iff_ne.2 oM
 have hl0:=HLN.out h0
 obtain ⟨lb,hlb⟩:∃ x,la[la.length-1]? =some x:=⟨_,D9 oM⟩
 obtain ⟨gb,cb,hvb,hgb,j0,j1,j2⟩:=x5q lS hlb
 have HLB:=H9 hlb;clear hlb
 injection hvb with hvb w6p hvb3
 subst hvb
 obtain ⟨lm,hlm⟩:∃ x,la.length-1=x:=⟨_,rfl⟩
 rw [hlm] at j0 j1 j2
 have q4:IntKind.i64.wrap ((la.length:Int)-1)=(lm:Int):=by rw [Fc.wrap_i64 oM oM];omega
 have HLM:=H9 hlm;clear hlm
 obtain ⟨s0,s4,s5,s6,s7,s8,s9⟩:=sS
 refine Sb.tb 100 fun a8=> ?_
 have lf:=H9 fun (w9:World) (h9:Below _ _ w9)=>ad (cL h9 v0) (ad (cL h9 g0) (cL h9 j0))
 refine Sb.mO 0 s8 hf a8 ?_
 refine Sb.T 1 hf a8 ?_
 refine Sb.mN 2 1 0 hf a8 [] ?_
 refine Sb.Tg 3 hf a8 ?_ (hF:=fun _ _ h d=>Sb.O h s9)
 refine Sb.Tg 4 hf a8 ?_ (hF:=fun _ _ h d=>lf.out _ h.ext)
 refine Sb.Tg 5 hf a8 ?_ (hF:=fun _ _ h d=>Sb.O h s7)
 refine Sb.Tg 6 hf a8 ?_ (hF:=fun _ _ h d=>lf.out _ h.ext)
 refine Sb.Tg 7 hf a8 ?_ (hF:=fun _ _ h d=>Sb.O h s7)
 refine Sb.Tg 8 hf a8 ?_ (hF:=fun _ _ h d=>lf.out _ h.ext)
 refine Sb.Tg 9 hf a8 ?_ (hF:=fun _ _ h d=>lf.out _ h.ext)
 refine Sb.Tg 10 hf a8 ?_
 apply Sb.tr 11 _ hf a8
 . (
 intro a7 w1 hh hd hk K Z
 have s73:=Sb.v 2 8 hd hk []
 refine Sb.g s73 ?_
 have s77:=Sb.v 6 4 hd hk []
 have s81:=Sb.v 10 0 hd hk []
 clear hd
 go_simp
 rw [if_pos (by have:=HLM.out;omega)]
 exact Sb.k Z)
 refine Sb.Tg 12 hf a8 ?_
 refine Sb.Tg 13 hf a8 ?_ (hF:=fun _ _ h d=>lf.out _ h.ext)
 refine Sb.Tg 14 hf a8 ?_
 refine Sb.T 15 hf a8 ?_
 refine Sb.E hf a8 (fun _ _ h g=>ad (Sb.O h s0) (ad (Sb.O h s4) (ad (Sb.O h s5) (ad (Sb.O h s6) (ad (Sb.O h s7) (ad (Sb.O h s8) (ad (Sb.O h s9) (Sb.f 15 0 g)))))))) ?_
 clear hf a8 s0 s4 s5 s6 s7 s8 s9;intro a7 w1 hf hx sS
 have L7:=lf.out _ hx;try clear v0 g0 j0;clear lf;obtain ⟨v0,g0,j0⟩:=L7
 refine Fc.j6 ?_
 obtain ⟨s0,s4,s5,s6,s7,s8,s9,s86⟩:=sS
 exact ⟨_,hf,⟨⟨s0,s4,s5,s6⟩,s7⟩,s8,s9,s86,by rw [x5s (by rw [List.getLast?_eq_getElem?];exact HLB.out),HTD.out];by_cases h8:lb.byte<a.byte;(rw [if_pos h8,if_pos (decide_eq_true oM)]);(rw [if_neg h8,if_neg sO]),hx⟩))
 . (
 clear hf sS
 rintro fr wq ⟨t,hf,⟨⟨s0,s4,s5,s6⟩,s7⟩,s8,s9,s86,tT,hx⟩
 have v7k:=H9 tT;clear tT
 replace v0:=cL hx v0
 replace v1:=cL hx v1
 replace v2:=cL hx v2
 replace g0:=cL hx g0
 replace lS:=l5 lS hx
 replace z4o:=(hx.block gs (j4 z4o)).trans z4o
 replace v7m:=Nat.le_trans v7m hx.size
 replace vC:=vC.trans (hx.mono (by have:=vC.size;omega))
 refine Fc.l0 s86 (fun hq=> ?_) (fun hq=> ?_)
 . (
 obtain rfl:t=true:=by simpa using hq
 clear hq
 have tT:=v7k.out
 simp only [if_true] at tT
 refine rg ?_
 have bB:=hf.B6 87 88 89 90 91 92
 iterate 4 refine Zy ?_
 clear bB
 refine Fc.lQ (n:=100) (by simp only [Fc.G,hf.size]) hf.defers (fun a7 u3 hT=> ?_)
 have G9:=Fc.h8 hT 0 4 5 6 7 8 88 90
 simp (decide:=true) only [Fc.G,hf.size,reduceIte,s0,s4,s5,s6,s7,s8] at G9
 replace hf:=u3;clear hT u3 s0 s4 s5 s6 s7 s8 s9 s86
 obtain ⟨s0,s4,s5,s6,s7,s8,s88,s90⟩:=G9
 have bB:=hf.B2 91 92
 refine ⟨?_⟩
 refine wpList_plain rfl fun K5 U3=> ?_
 refine J7 _ _ 44 rfl 71 _ 3 24 Tryz.underlying44 y7w rfl dC dC gs (.slice A3 la.length c3) la.length _ (Fc.k7 s88) (lS.alloc _) wq.heap.size [.int .u8 a.byte,.int .u64 a.out,.int .i64 td] (Fc.k7 s90) rfl (E7 wq _ _) (by intro u hu;simp at hu;rcases hu with rfl | rfl | rfl<;>rfl) oM sO (fun v5 w5 U5 aV P0=>U3 _ _ ?_)
 refine Fc.L.out ?_
 obtain ⟨A5,c5,hv5,_⟩:=A1 U5
 subst hv5
 have lR:n4 (fun k=>(.slice A3 la.length c3:Value).ownBlock=some k) wq w5:=(n4.alloc (S:=fun k=>(.slice A3 la.length c3:Value).ownBlock=some k) wq _).trans (n4.grown aV (fun k hk=>hk))
 have w6m:=lR.heap z4o (fun h=>by have:=z4r.out _ h;omega)
 have g1:=n5 0 w6m;have fz5:=j3 (i:=0) w6m
 simp at g1
 have pU:∀ k,(.slice A5 (la.length+1) c5:Value).ownBlock=some k->gs<k:=fun k hk=>by rcases P0 with h | h;(rw [h] at hk;exact z4r.out k hk);(rw [h] at hk;injection hk with hk;simp at hk;omega)
 have v7j:=vC.trans (lR.below (by have:=j4 z4o;omega) (fun k hk=>by have:=z4r.out k hk;omega))
 iterate 2 refine Zy ?_
 refine Fc.nil (J3 0 4 5 6 7 8 hf ?_)
 clear hf s0 s4 s5 s6 s7 s8 s88 s90 bB;intro a7 hf sS
 have z4q:=v7x w6m (.slice A5 (la.length+1) c5)
 have v7i:=v7j.setCell (p:=⟨gs,0,none⟩) nR (.slice A5 (la.length+1) c5)
 have v7h:OA (w5.setCell ⟨gs,0,none⟩ (.slice A5 (la.length+1) c5)) gs (.slice A5 (la.length+1) c5) (R5 i (s.a6.take (j+1))):=by rw [HFT.out,tT];unfold OA;rw [List.length_append,cY];exact y7 U5 (n4.setCell (S:=fun k=>k=gs) rfl _) (fun k hk h=>by have:=pU k hk;omega)
 refine Fc.j7 (Zx N4 (Zr [52,53] hf ?_))
 refine J3 0 4 5 6 7 8 hf ?_
 clear hf sS;intro a7 hf sS
 refine Fc.j6 ?_
 obtain ⟨s0,s4,s5,s6,s7,s8⟩:=sS
 exact ⟨_,by have:=HK2.out;omega,j+1,_,rfl,oM,oM,(fun h=>absurd h oM),hf,⟨⟨s0,s4,s5,s6⟩,s7⟩,by rw [s8];rfl,v7h,pU,z4q,v7i⟩)
 . (
 obtain rfl:t=false:=by simpa using hq
 clear hq
 have tT:=v7k.out
 simp only [Bool.false_eq_true,if_false] at tT
 refine wp_skip (Fc.j7 (Zx N4 (Zr [52,53] hf ?_)))
 refine J3 0 4 5 6 7 8 hf ?_
 clear hf s0 s4 s5 s6 s7 s8 s9 s86;intro a7 hf sS
 refine Fc.j6 ?_
 obtain ⟨s0,s4,s5,s6,s7,s8⟩:=sS
 exact ⟨_,by have:=HK2.out;omega,j+1,_,rfl,oM,oM,(fun h=>absurd h oM),hf,⟨⟨s0,s4,s5,s6⟩,s7⟩,by rw [s8];rfl,by rw [HFT.out,tT];exact lS,z4r.out,z4o,vC⟩))))
 . (
 have q1:decide (j<s.a6.length)=true:=decide_eq_true oM
 have q2:decide ((j:Int)<3)=false:=decide_eq_false oM
 refine Ze fun _ N4=>Ze fun _ U3=> ?_
 have qs:=And.intro q1 q2
 refine Zr [36,37,38,39,40,41,42,43,44,45,46,47,48,49,50] hf ?_
 refine cP 0 4 5 6 7 8 51 hf ?_
 clear hf s0 s4 s5 s6 s7 s8 qs;intro a7 hf sS
 refine Zx U3 (Fc.k9 sS.2.2.2.2.2.2 ?_)
 clear q1 q2
 have hfa:R5 i (s.a6.take j)=(dY i s).a6:=vA (.inr oM) hj3 HI0.out
 rw [hfa] at Y8
 clear hfa
 refine Zo ?_
 refine Zx l6 ?_
 have pR:=hZ.later (hgs▸r9)
 obtain ⟨Av,cv,pQ,xH⟩:=pR.form
 subst pQ
 have z9p:=(r9.block g w6r).trans pP
 obtain ⟨A3,c3,hv3,hc3⟩:=A1 Y8
 subst hv3
 have g0:=n5 0 z9p;have h0:=n5 0 J2;have h1:=n5 1 J2;have h2:=n5 2 J2
 simp at g0 h0 h1 h2
 have lP:=hb.trans (r9.mono oM)
 have U4:=lP.size
 have hlen:l.length=i:=by have:=congrArg List.length HL.out;rw [List.length_map,S9,List.length_take] at this;omega
 have v7s:l.length<=7:=oM
 clear hlen
 have hgz:W2.heap.size<=w2.heap.size:=U4
 have hg2:g<=w2.heap.size:=by have:=j4 J2;omega
 refine rg ?_
 have bB:=hf.B6 93 94 95 96 97 98
 iterate 4 refine Zy ?_
 obtain ⟨s0,s4,s5,s6,s7,s8,pS⟩:=sS
 clear bB
 refine Fc.lQ (n:=100) (by simp only [Fc.G,hf.size]) hf.defers (fun a7 u3 hT=> ?_)
 have G9:=Fc.h6 hT 0 4 5 6 94 96
 simp (decide:=true) only [Fc.G,hf.size,reduceIte,s0,s4,s5,s6] at G9
 replace hf:=u3;clear hT u3 s0 s4 s5 s6 s7 s8 pS
 obtain ⟨s0,s4,s5,s6,s94,s96⟩:=G9
 have bB:=hf.B2 97 98
 refine ⟨?_⟩
 refine wpList_plain rfl fun K5 U3=> ?_
 refine J7 _ _ 36 rfl 46 _ 3 40 Tryz.underlying36 aK rfl dC dC g (.slice Av l.length cv) l.length _ (Fc.k7 s94) (pR.row.alloc _) w2.heap.size [.slice A3 (dY i s).a6.length c3,.bool s.final,.int .u64 of] (Fc.k7 s96) rfl (E7 w2 _ _) (by intro u hu;simp at hu;rcases hu with rfl | rfl | rfl<;>rfl) oM sO (fun v5 w5 U5 aV P0=>U3 _ _ ?_)
 refine Fc.L.out ?_
 obtain ⟨A5,c5,hv5,_⟩:=A1 U5
 subst hv5
 obtain ⟨Wl,hWl⟩:∃ x,w2.alloc (.cells #[.slice A3 (dY i s).a6.length c3,.bool s.final,.int .u64 of] 46)=x:=⟨_,rfl⟩
 have aF:Below w2.heap.size w2 Wl:=by rw [<- hWl];exact (Below.refl _ _).alloc nR _
 have v7r:Wl.heap.size=w2.heap.size+1:=by rw [<- hWl];simp
 try rw [hWl] at U5 aV P0
 try simp only [List.toArray] at aV P0
 try rw [hWl] at aV P0
 have y3h:=pR.later aF
 have y3g:=l5 Y8 aF
 have xJ:∀ k,(.slice A3 (dY i s).a6.length c3:Value).ownBlock=some k->gs<k/\k<w2.heap.size:=fun k hk=>⟨z4r.out k hk,(World.ownsRow.lt Y8 k hk).2⟩
 have z9m:=y3h.app (st:=dY i s) y3g (fun k hk h=>by have h1:=xJ k hk;have h3:=(World.ownsRow.lt hZ.row k h).2;omega) (fun k hk=>(HC.out k hk).2.2) aV (by rw [show (dY i s).out=of from HOF.out];exact U5)
 have lR:n4 (fun k=>(.slice Av l.length cv:Value).ownBlock=some k) w2 w5:=(n4.of _ aF).trans (n4.grown aV (fun k hk=>hk))
 have pT:=lR.heap z9p (fun h=>by have:=HVB.out _ h;omega)
 have g1:=n5 0 pT;have fz5:=j3 (i:=0) pT
 simp at g1
 have pU:∀ k,(.slice A5 (l.length+1) c5:Value).ownBlock=some k->g<k:=fun k hk=>by rcases P0 with h | h;(rw [h] at hk;exact HVB.out k hk);(rw [h] at hk;injection hk with hk;omega)
 have hC5:∀ k,(C k\/(.slice A3 (dY i s).a6.length c3:Value).ownBlock=some k)->g<k/\k<w5.heap.size/\(.slice A5 (l.length+1) c5:Value).ownBlock≠some k:=fun k hk=>by
   have M5:g<k/\k<w2.heap.size/\(.slice Av l.length cv:Value).ownBlock≠some k:=by
     rcases hk with hk | hk
     . exact ⟨(HC.out k hk).1,by have:=(HC.out k hk).2.1;have:=r9.size;omega,(HC.out k hk).2.2⟩
     . exact ⟨by have:=xJ k hk;omega,(xJ k hk).2,fun h=>by have h1:=xJ k hk;have h3:=(World.ownsRow.lt hZ.row k h).2;omega⟩
   refine ⟨M5.1,by have:=lR.size;omega,fun h=> ?_⟩
   rcases P0 with h4 | h4
   . rw [h4] at h;exact M5.2.2 h
   . rw [h4] at h;injection h with h;omega
 have z9l:=lP.trans (lR.below hg2 (fun k hk=>by have:=HVB.out k hk;omega))
 iterate 2 refine Zy ?_
 refine Fc.nil (C0 0 4 5 6 hf ?_)
 clear hf s0 s4 s5 s6 s94 s96 bB;intro a7 hf sS
 have z4q:=z0q pT (.slice A5 (l.length+1) c5)
 have z9k:=z9l.setCell (p:=⟨g,0,none⟩) nR (.slice A5 (l.length+1) c5)
 have z9j:=z9m.but (n4.setCell (S:=fun k=>k=g) (p:=⟨g,0,none⟩) rfl (.slice A5 (l.length+1) c5)) (fun k hk h=>by have:=pU k hk;omega) (fun k hk h=>by have:=(hC5 k hk).1;omega)
 refine Fc.j7 (Zx j8 (Zr [20,21] hf ?_))
 refine C0 0 4 5 6 hf ?_
 clear hf sS;intro a7 hf sS
 refine Fc.j6 ?_
 obtain ⟨s0,s4,s5,s6⟩:=sS
 exact ⟨_,by have:=HK.out;omega,i+1,_,_,_,rfl,oM,oM,hf,⟨s0,s4,s5,by rw [s6];rfl⟩,z9j,by rw [List.map_append,HL.out,X9.out];rfl,pU,(fun k hk=>by have h9:=hC5 k hk;exact ⟨h9.1,by simpa [World.setCell] using h9.2.1,h9.2.2⟩),z4q,z9k⟩))
 . (
 have q1:decide (j<s.a6.length)=false:=decide_eq_false oM
 refine Ze fun _ N4=>Ze fun _ U3=> ?_
 have qs:=q1
 refine Zr [36,37,38,39,40,41,42,43,44,45,46,47,48,49,50] hf ?_
 refine cP 0 4 5 6 7 8 51 hf ?_
 clear hf s0 s4 s5 s6 s7 s8 qs;intro a7 hf sS
 refine Zx U3 (Fc.k9 sS.2.2.2.2.2.2 ?_)
 clear q1
 have hfa:R5 i (s.a6.take j)=(dY i s).a6:=vA (.inl oM) hj3 HI0.out
 rw [hfa] at Y8
 clear hfa
 refine Zo ?_
 refine Zx l6 ?_
 have pR:=hZ.later (hgs▸r9)
 obtain ⟨Av,cv,pQ,xH⟩:=pR.form
 subst pQ
 have z9p:=(r9.block g w6r).trans pP
 obtain ⟨A3,c3,hv3,hc3⟩:=A1 Y8
 subst hv3
 have g0:=n5 0 z9p;have h0:=n5 0 J2;have h1:=n5 1 J2;have h2:=n5 2 J2
 simp at g0 h0 h1 h2
 have lP:=hb.trans (r9.mono oM)
 have U4:=lP.size
 have hlen:l.length=i:=by have:=congrArg List.length HL.out;rw [List.length_map,S9,List.length_take] at this;omega
 have v7s:l.length<=7:=oM
 clear hlen
 have hgz:W2.heap.size<=w2.heap.size:=U4
 have hg2:g<=w2.heap.size:=by have:=j4 J2;omega
 refine rg ?_
 have bB:=hf.B6 93 94 95 96 97 98
 iterate 4 refine Zy ?_
 obtain ⟨s0,s4,s5,s6,s7,s8,pS⟩:=sS
 clear bB
 refine Fc.lQ (n:=100) (by simp only [Fc.G,hf.size]) hf.defers (fun a7 u3 hT=> ?_)
 have G9:=Fc.h6 hT 0 4 5 6 94 96
 simp (decide:=true) only [Fc.G,hf.size,reduceIte,s0,s4,s5,s6] at G9
 replace hf:=u3;clear hT u3 s0 s4 s5 s6 s7 s8 pS
 obtain ⟨s0,s4,s5,s6,s94,s96⟩:=G9
 have bB:=hf.B2 97 98
 refine ⟨?_⟩
 refine wpList_plain rfl fun K5 U3=> ?_
 refine J7 _ _ 36 rfl 46 _ 3 40 Tryz.underlying36 aK rfl dC dC g (.slice Av l.length cv) l.length _ (Fc.k7 s94) (pR.row.alloc _) w2.heap.size [.slice A3 (dY i s).a6.length c3,.bool s.final,.int .u64 of] (Fc.k7 s96) rfl (E7 w2 _ _) (by intro u hu;simp at hu;rcases hu with rfl | rfl | rfl<;>rfl) oM sO (fun v5 w5 U5 aV P0=>U3 _ _ ?_)
 refine Fc.L.out ?_
 obtain ⟨A5,c5,hv5,_⟩:=A1 U5
 subst hv5
 obtain ⟨Wl,hWl⟩:∃ x,w2.alloc (.cells #[.slice A3 (dY i s).a6.length c3,.bool s.final,.int .u64 of] 46)=x:=⟨_,rfl⟩
 have aF:Below w2.heap.size w2 Wl:=by rw [<- hWl];exact (Below.refl _ _).alloc nR _
 have v7r:Wl.heap.size=w2.heap.size+1:=by rw [<- hWl];simp
 try rw [hWl] at U5 aV P0
 try simp only [List.toArray] at aV P0
 try rw [hWl] at aV P0
 have y3h:=pR.later aF
 have y3g:=l5 Y8 aF
 have xJ:∀ k,(.slice A3 (dY i s).a6.length c3:Value).ownBlock=some k->gs<k/\k<w2.heap.size:=fun k hk=>⟨z4r.out k hk,(World.ownsRow.lt Y8 k hk).2⟩
 have z9m:=y3h.app (st:=dY i s) y3g (fun k hk h=>by have h1:=xJ k hk;have h3:=(World.ownsRow.lt hZ.row k h).2;omega) (fun k hk=>(HC.out k hk).2.2) aV (by rw [show (dY i s).out=of from HOF.out];exact U5)
 have lR:n4 (fun k=>(.slice Av l.length cv:Value).ownBlock=some k) w2 w5:=(n4.of _ aF).trans (n4.grown aV (fun k hk=>hk))
 have pT:=lR.heap z9p (fun h=>by have:=HVB.out _ h;omega)
 have g1:=n5 0 pT;have fz5:=j3 (i:=0) pT
 simp at g1
 have pU:∀ k,(.slice A5 (l.length+1) c5:Value).ownBlock=some k->g<k:=fun k hk=>by rcases P0 with h | h;(rw [h] at hk;exact HVB.out k hk);(rw [h] at hk;injection hk with hk;omega)
 have hC5:∀ k,(C k\/(.slice A3 (dY i s).a6.length c3:Value).ownBlock=some k)->g<k/\k<w5.heap.size/\(.slice A5 (l.length+1) c5:Value).ownBlock≠some k:=fun k hk=>by
   have M5:g<k/\k<w2.heap.size/\(.slice Av l.length cv:Value).ownBlock≠some k:=by
     rcases hk with hk | hk
     . exact ⟨(HC.out k hk).1,by have:=(HC.out k hk).2.1;have:=r9.size;omega,(HC.out k hk).2.2⟩
     . exact ⟨by have:=xJ k hk;omega,(xJ k hk).2,fun h=>by have h1:=xJ k hk;have h3:=(World.ownsRow.lt hZ.row k h).2;omega⟩
   refine ⟨M5.1,by have:=lR.size;omega,fun h=> ?_⟩
   rcases P0 with h4 | h4
   . rw [h4] at h;exact M5.2.2 h
   . rw [h4] at h;injection h with h;omega
 have z9l:=lP.trans (lR.below hg2 (fun k hk=>by have:=HVB.out k hk;omega))
 iterate 2 refine Zy ?_
 refine Fc.nil (C0 0 4 5 6 hf ?_)
 clear hf s0 s4 s5 s6 s94 s96 bB;intro a7 hf sS
 have z4q:=z0q pT (.slice A5 (l.length+1) c5)
 have z9k:=z9l.setCell (p:=⟨g,0,none⟩) nR (.slice A5 (l.length+1) c5)
 have z9j:=z9m.but (n4.setCell (S:=fun k=>k=g) (p:=⟨g,0,none⟩) rfl (.slice A5 (l.length+1) c5)) (fun k hk h=>by have:=pU k hk;omega) (fun k hk h=>by have:=(hC5 k hk).1;omega)
 refine Fc.j7 (Zx j8 (Zr [20,21] hf ?_))
 refine C0 0 4 5 6 hf ?_
 clear hf sS;intro a7 hf sS
 refine Fc.j6 ?_
 obtain ⟨s0,s4,s5,s6⟩:=sS
 exact ⟨_,by have:=HK.out;omega,i+1,_,_,_,rfl,oM,oM,hf,⟨s0,s4,s5,by rw [s6];rfl⟩,z9j,by rw [List.map_append,HL.out,X9.out];rfl,pU,(fun k hk=>by have h9:=hC5 k hk;exact ⟨h9.1,by simpa [World.setCell] using h9.2.1,h9.2.2⟩),z4q,z9k⟩)))))
end Dw
end Go.Proofs.YtcddnmhmcieebaaGreatDoor
