import Derived.Test.YtcddnmhmcieebaaGreatDoorY10
namespace Go.Proofs.YtcddnmhmcieebaaGreatDoor
set_option linter.unusedSimpArgs false
set_option linter.unusedVariables false
set_option linter.unnecessarySimpa false
set_option maxHeartbeats 4000000
set_option maxRecDepth 100000
open Go.RowKit
namespace Dw
def getE (s:ByteArray):Option Nat->G9×Bool
 | none=>(⟨⟨#[]⟩,0,false⟩,false)
 | some v=>(eX s v,AD v)
def getV (init:Nat) (ss:List State) (s:ByteArray):G9×Bool:=getE s (uL init ss s)
theorem Tm (init:Nat) (ss:List State) (s:ByteArray) (a6:∀ s∈ss,L3 s):∀ v,uL init ss s=some v->v<18446744073709551616:=by
 intro v h
 unfold uL valFin at h
 split at h
 ·cases h
 ·split at h
  ·cases h
  ·split at h
   ·injection h with h
    rw [<- h]
    exact Nat.mod_lt _ (by unfold q9;omega)
   ·cases h
theorem tj (w:World) (sv:Value) (init:Nat) (ss:List State) (s:ByteArray) (o8:RS w sv ss) (hlen:ss.length<=1000000) (a6:∀ s∈ss,L3 s) (D6:∀ (k:Nat) (st:State),ss[k]? =some st->okArcs k (-1) st.j4=true) (h0:0<ss.length) (D7:init<q9) (aq:s.size<=1000000000):E2 w 80 #[.agg #[sv,.int .u64 init],.string s] (.tuple #[eval (getV init ss s).1,.bool (getV init ss s).2]):=by
 refine Z6 22 Tryz.func80 fun fr hf s0 s1=> ?_
 obtain ⟨A,cc,rfl,U0⟩:=o8.form
 refine Ze fun _ a8=>Zr [] hf ?_
 refine y7 1 2 4 hf ?_
 clear hf s0 s1;intro a7 hf sS
 obtain ⟨W0,p8⟩:∃ x,(w.alloc (.cells #[.slice A ss.length cc,.int .u64 init] 38)).alloc (.cells #[.string ⟨#[]⟩,.int .u32 0,.bool false] 64)=x:=⟨_,rfl⟩
 obtain ⟨s1,s2,s4⟩:=sS
 try simp only [World.size_alloc] at s4
 rw [p8]
 obtain ⟨hb,E3,C9⟩:=D8 p8
 clear p8
 have c0:=n5 0 E3;have c1:=n5 1 E3
 simp at c0 c1
 replace o8:=o8.later hb
 obtain ⟨q,hq⟩:∃ x,w.heap.size+1=x:=⟨_,rfl⟩
 have Gp:w.heap.size<=q:=oM
 rw [hq] at C9 s4
 clear hq E3
 refine Zt a8 fun _ a8=> ?_
 have bB:=hf.B6 9 10 11 8 12 13
 iterate 2 refine Zy ?_
 refine Zc (NQ W0 _ init ss s o8 hlen a6 D6 h0 D7 aq) ?_;rintro e w1 ⟨rfl,p6⟩
 have JZ:=Tm init ss s a6
 obtain ⟨v,hv⟩:∃ x,uL init ss s=x:=⟨_,rfl⟩
 rw [hv] at JZ |-
 have HG:=H9 (show getV init ss s=getE s v by unfold getV;rw [hv])
 replace hb:=hb.trans (p6.mono hb.size);replace C9:=(p6.block _ (j5 C9)).trans C9
 clear hv o8 c0 c1 p6
 refine Zv ?_
 iterate 5 refine Zy ?_
 refine Fc.nil (z8 1 4 6 7 hf ?_)
 clear hf s1 s2 s4 bB;intro a7 hf sS
 refine Zx a8 ?_
 rcases v with _ | v
 . (
 obtain ⟨s1,s4,s6,s7⟩:=sS
 simp only [Option.isSome_none] at s7
 refine Ze fun _ a8=>Ze fun _ j8=>Zr [14] hf ?_
 refine z8 1 4 6 15 hf ?_
 clear hf s1 s4 s6 s7;intro a7 hf sS
 refine Zx j8 (Fc.l7 sS.2.2.2 ?_)
 have r0:=n5 0 C9;have r1:=n5 1 C9;have r2:=n5 2 C9;have f0:=j6 (i:=0) C9;have f1:=j6 (i:=1) C9;have f2:=j6 (i:=2) C9
 simp at r0 r1 r2
 refine Ze fun _ j8=>Zr [16] hf ?_
 refine y4 4 5 hf ?_
 intro a7 hf sS
 refine Zx j8 (k8 ?_)
 refine U2 rfl hf sS.1 sS.2 (k7 (k7 (k7 C9 _) _) _) Tryz.underlying64 rfl kR ⟨by rw [HG.out];simp [getE,eval],((hb.setCell (p:=⟨q,0,none⟩) Gp _).setCell (p:=⟨q,1,none⟩) Gp _).setCell (p:=⟨q,2,none⟩) Gp _⟩)
 . (
 obtain ⟨s1,s4,s6,s7⟩:=sS
 simp only [Option.isSome_some,Option.getD_some] at s6 s7
 have z0p:v<18446744073709551616:=JZ v rfl
 refine Ze fun _ a8=>Ze fun _ j8=>Zr [14] hf ?_
 refine z8 1 4 6 15 hf ?_
 clear hf s1 s4 s6 s7;intro a7 hf sS
 refine Zx j8 (Fc.k9 sS.2.2.2 ?_)
 refine wp_skip (Zt a8 fun _ a8=> ?_)
 have bB:=hf.B5 17 18 19 20 21
 iterate 2 refine Zy ?_
 refine Zc (XG w1 s v z0p) ?_;rintro e w2 ⟨rfl,r8⟩
 obtain ⟨⟨oa,ob,oc⟩,ho⟩:∃ x,eX s v=x:=⟨_,rfl⟩
 obtain ⟨oz,hz⟩:∃ x,AD v=x:=⟨_,rfl⟩
 rw [ho,hz]
 simp only [eval]
 have HE:=H9 (show getE s (some v)=(⟨oa,ob,oc⟩,oz) by simp only [getE];rw [ho,hz])
 replace hb:=hb.trans (r8.mono hb.size);replace C9:=(r8.block _ (j5 C9)).trans C9
 clear ho hz r8
 have r0:=n5 0 C9;have r1:=n5 1 C9;have r2:=n5 2 C9;have f0:=j6 (i:=0) C9;have f1:=j6 (i:=1) C9;have f2:=j6 (i:=2) C9
 simp at r0 r1 r2
 refine Zv ?_
 iterate 4 refine Zy ?_
 refine Fc.nil (y4 4 5 hf ?_)
 intro a7 hf sS
 refine Zx a8 (k8 ?_)
 refine U2 rfl hf sS.1 sS.2 (k7 (k7 (k7 C9 _) _) _) Tryz.underlying64 rfl kR ⟨by rw [HG.out,HE.out];simp [eval],((hb.setCell (p:=⟨q,0,none⟩) Gp _).setCell (p:=⟨q,1,none⟩) Gp _).setCell (p:=⟨q,2,none⟩) Gp _⟩)
theorem af (w:World) (sv:Value) (init:Nat) (ss:List State) (s:ByteArray) (o8:RS w sv ss) (hlen:ss.length<=1000000) (a6:∀ s∈ss,L3 s) (D6:∀ (k:Nat) (st:State),ss[k]? =some st->okArcs k (-1) st.j4=true) (h0:0<ss.length) (D7:init<q9) (aq:s.size<=1000000000):E2 w 42 #[.agg #[sv,.int .u64 init],.string s] (.tuple #[eval (getV init ss s).1,.bool (getV init ss s).2]):=by
 refine Z6 12 Tryz.func42 fun fr hf s0 s1=> ?_
 obtain ⟨A,cc,rfl,U0⟩:=o8.form
 refine Ze fun _ a8=>Zr [] hf ?_
 refine y7 1 2 4 hf ?_
 clear hf s0 s1;intro a7 hf sS
 obtain ⟨W0,p8⟩:∃ x,(w.alloc (.cells #[.slice A ss.length cc,.int .u64 init] 96)).alloc (.cells #[.string ⟨#[]⟩,.int .u32 0,.bool false] 64)=x:=⟨_,rfl⟩
 obtain ⟨s1,s2,s4⟩:=sS
 try simp only [World.size_alloc] at s4
 rw [p8]
 obtain ⟨hb,E3,C9⟩:=D8 p8
 clear p8
 have c0:=n5 0 E3;have c1:=n5 1 E3
 simp at c0 c1
 replace o8:=o8.later hb
 obtain ⟨q,hq⟩:∃ x,w.heap.size+1=x:=⟨_,rfl⟩
 have Gp:w.heap.size<=q:=oM
 rw [hq] at C9 s4
 clear hq E3
 refine Zt a8 fun _ a8=> ?_
 have bB:=hf.B6 6 7 8 9 10 11
 iterate 3 refine Zy ?_
 refine Zc (tj W0 _ init ss s o8 hlen a6 D6 h0 D7 aq) ?_;rintro e w1 ⟨rfl,p6⟩
 obtain ⟨⟨⟨oa,ob,oc⟩,oz⟩,ho⟩:∃ x,getV init ss s=x:=⟨_,rfl⟩
 rw [ho]
 simp only [eval]
 have HG:=H9 ho
 replace hb:=hb.trans (p6.mono hb.size);replace C9:=(p6.block _ (j5 C9)).trans C9
 clear ho p6 o8
 have r0:=n5 0 C9;have r1:=n5 1 C9;have r2:=n5 2 C9;have f0:=j6 (i:=0) C9;have f1:=j6 (i:=1) C9;have f2:=j6 (i:=2) C9
 simp at r0 r1 r2
 refine Zv ?_
 iterate 4 refine Zy ?_
 refine Fc.nil (y4 4 5 hf ?_)
 clear hf s1 s2 s4 bB;intro a7 hf sS
 refine Zx a8 (k8 ?_)
 refine U2 rfl hf sS.1 sS.2 (k7 (k7 (k7 C9 _) _) _) Tryz.underlying64 rfl kR ⟨by rw [HG.out];simp [eval],((hb.setCell (p:=⟨q,0,none⟩) Gp _).setCell (p:=⟨q,1,none⟩) Gp _).setCell (p:=⟨q,2,none⟩) Gp _⟩
theorem yF (w:World) (S init:Nat) (en sz:Int) (sv:Value) (hS:w.heap[S]? =some (.cells #[sv,.int .u64 init,.int .i64 en,.int .i64 sz] 98 (0,0))) (ss:List State) (s:ByteArray) (o8:RS w sv ss) (hlen:ss.length<=1000000) (a6:∀ s∈ss,L3 s) (D6:∀ (k:Nat) (st:State),ss[k]? =some st->okArcs k (-1) st.j4=true) (h0:0<ss.length) (D7:init<q9) (aq:s.size<=1000000000):E2 w 22 #[.pointer (some ⟨S,0,none⟩),.string s] (.tuple #[eval (getV init ss s).1,.bool (getV init ss s).2]):=by
 refine Z6 17 Tryz.func22 fun fr hf s0 s1=> ?_
 obtain ⟨A,cc,rfl,U0⟩:=o8.form
 have c0:=n5 0 hS
 have c1:=n5 1 hS
 have c2:=n5 2 hS
 have c3:=n5 3 hS
 simp at c0 c1 c2 c3
 refine Ze fun _ a8=>Zr [] hf ?_
 refine y7 0 1 4 hf ?_
 clear hf s0 s1;intro a7 hf sS
 generalize p8:w.alloc (.cells #[.string ⟨#[]⟩,.int .u32 0,.bool false] 64)=W0
 obtain ⟨hb,C9⟩:=kK p8
 obtain ⟨q,hq⟩:∃ x,w.heap.size=x:=⟨_,rfl⟩
 have Gp:w.heap.size<=q:=Nat.le_of_eq hq
 obtain ⟨s0,s1,s4⟩:=sS
 rw [hq] at C9 s4
 replace o8:=o8.later hb;replace c0:=cL hb c0;replace c1:=cL hb c1
 clear hq p8 c2 c3
 refine Zs a8 fun _ a8=>Ze fun _ j8=>Zr [6] hf ?_
 refine z8 0 1 4 7 hf ?_
 clear hf s0 s1 s4;intro a7 hf sS
 refine Zx j8 (Fc.k9 sS.2.2.2 ?_)
 refine wp_skip (Zt a8 fun _ a8=> ?_)
 have bB:=hf.B8 9 10 11 12 13 14 15 16
 iterate 5 refine Zy ?_
 refine Zc (af W0 _ init ss s o8 hlen a6 D6 h0 D7 aq) ?_;rintro e w1 ⟨rfl,p6⟩
 obtain ⟨⟨⟨oa,ob,oc⟩,oz⟩,ho⟩:∃ x,getV init ss s=x:=⟨_,rfl⟩
 rw [ho]
 simp only [eval]
 have HG:=H9 ho
 replace hb:=hb.trans (p6.mono hb.size);replace C9:=(p6.block _ (j5 C9)).trans C9
 clear ho p6 o8
 have r0:=n5 0 C9;have r1:=n5 1 C9;have r2:=n5 2 C9;have f0:=j6 (i:=0) C9;have f1:=j6 (i:=1) C9;have f2:=j6 (i:=2) C9
 simp at r0 r1 r2
 refine Zv ?_
 iterate 4 refine Zy ?_
 refine Fc.nil (y4 4 5 hf ?_)
 intro a7 hf sS
 refine Zx a8 (k8 ?_)
 refine U2 rfl hf sS.1 sS.2 (k7 (k7 (k7 C9 _) _) _) Tryz.underlying64 rfl kR ⟨by rw [HG.out];simp [eval],((hb.setCell (p:=⟨q,0,none⟩) Gp _).setCell (p:=⟨q,1,none⟩) Gp _).setCell (p:=⟨q,2,none⟩) Gp _⟩
theorem nY {α:Type} {p q:α->Bool}:∀ {l:List α},(∀ a∈l,p a=q a)->l.find? p=l.find? q
 | [],_=>rfl
 | a::l,h=>by rw [List.find?_cons,List.find?_cons,h a (List.mem_cons_self ..),nY fun x hx=>h x (List.mem_cons_of_mem _ hx)]
theorem BG {k i:Nat} {b:Nat} {l:List u3} {last:Int} (h:okArcs i last l=true) (hk:i=k):l.find? (G8 b k)=l.find? fun a=>decide (a.byte=b):=by
 subst hk
 refine nY fun a ha=> ?_
 have:=E9 h ha
 unfold G8
 rw [decide_eq_true this.1,decide_eq_true this.2,Bool.and_true,Bool.and_true]
 cases hq:decide (a.byte=b) with
 | true=>have:=of_decide_eq_true hq;simp [this]
 | false=>have:=of_decide_eq_false hq;simp [this]
theorem BH {ss:List State} (D6:∀ (k:Nat) (st:State),ss[k]? =some st->okArcs k (-1) st.j4=true):∀ (w:List Nat) (k:Nat) (s:Nat×Bool),valW ss k w=none->valFin ss (valG ss k s w)=none
 | [],k,s,h=>by
  rw [valW] at h
  obtain ⟨n,b⟩:=s
  rw [valG,valFin]
  cases hk:ss[k]? with
  | none=>rfl
  | some st =>
   rw [hk] at h
   simp only at h
   split at h
   ·cases h
   ·rename_i hf
    have:st.final=false:=by simpa using hf
    simp [this]
 | b::w,k,s,h=>by
  rw [valW] at h
  rw [valG]
  cases hk:ss[k]? with
  | none=>rfl
  | some st =>
   rw [hk] at h
   simp only [Option.bind_some] at h |-
   rw [BG (D6 k st hk) rfl]
   cases hf:st.j4.find? (fun a=>decide (a.byte=b)) with
   | none=>rfl
   | some a =>
    rw [hf] at h
    simp only [Option.map_eq_none_iff] at h |-
    exact BH D6 w _ _ h
theorem BJ {ss:List State} (D6:∀ (k:Nat) (st:State),ss[k]? =some st->okArcs k (-1) st.j4=true):∀ (w:List Nat) (k n v:Nat),valW ss k w=some v->n+v<=4294967296->valFin ss (valG ss k (n,true) w)=some (n+v)
 | [],k,n,v,h,hl=>by
  rw [valW] at h
  rw [valG,valFin]
  cases hk:ss[k]? with
  | none=>rw [hk] at h;cases h
  | some st =>
   rw [hk] at h
   simp only at h |-
   split at h
   ·rename_i hf
    injection h with h
    subst h
    rw [hf,Nat.mod_eq_of_lt (by unfold q9;omega),decide_eq_true (by unfold q9;omega),decide_eq_true hl]
    rfl
   ·cases h
 | b::w,k,n,v,h,hl=>by
  rw [valW] at h
  rw [valG]
  cases hk:ss[k]? with
  | none=>rw [hk] at h;cases h
  | some st =>
   rw [hk] at h
   simp only [Option.bind_some] at h |-
   rw [BG (D6 k st hk) rfl]
   cases hf:st.j4.find? (fun a=>decide (a.byte=b)) with
   | none=>rw [hf] at h;cases h
   | some a =>
    rw [hf] at h
    simp only [Option.map_eq_some_iff] at h |-
    obtain ⟨x,hx,rfl⟩:=h
    rw [Nat.mod_eq_of_lt (by unfold q9;omega),decide_eq_true (by unfold q9;omega),Bool.and_self,BJ D6 w _ _ _ hx oM,Nat.add_assoc]
theorem NR {a b:ByteArray} (h:(a.toList==b.toList)=true):a=b:=by
 rw [vW] at h
 exact cK (of_decide_eq_true h)
theorem ae {a b:ByteArray} (h:(a.toList==b.toList)=false):a≠b:=by
 rw [vW] at h
 exact fun e=>of_decide_eq_false h (by rw [e])
theorem Tn {p q:G9} {w1:World}:(if p.word.toList=q.word.toList then if p.weight=q.weight then if p.gone=q.gone then (Result.ok (Next.value (Value.bool false)) w1:Result Next) else .ok (.value (.bool true)) w1 else .ok (.value (.bool true)) w1 else .ok (.value (.bool true)) w1)= .ok (.value (.bool (decide (p≠q)))) w1:=by
 cases p with | mk a b c=>cases q with | mk a' b' c' =>
 by_cases h1:a=a'
 ·subst h1
  by_cases h2:b=b'
  ·by_cases h3:c=c'
   ·subst h2;subst h3;simp
   ·simp [h2,h3]
  ·simp [h2]
 ·have h5:a.toList≠a'.toList:=fun h=>h1 (NR (beq_iff_eq.2 h))
  simp [h1,h5]
theorem Tp {es:List G9} {i:Nat} {q:G9} {s:ByteArray} (hi:es[i]? =some q) (hn:R5 (es.take i) s=none) (hq:q.word=s):R5 es s=some q:=by
 rw [<- List.take_append_drop i es]
 unfold R5 at hn |-
 rw [List.find?_append,hn,R4 hi,List.find?_cons,decide_eq_true hq]
 rfl
theorem NS {es:List G9} {i:Nat} {q:G9} {s:ByteArray} (hi:es[i]? =some q) (hn:R5 (es.take i) s=none) (hq:q.word≠s):R5 (es.take (i+1)) s=none:=by
 unfold R5 at hn |-
 rw [List.take_add_one,hi,List.find?_append,hn]
 simp [hq]
theorem Js (w:World) (a b:List G9) (Ba Bb:Nat) (va vb:Value) (hBa:Ba<=w.heap.size) (hBb:Bb<=w.heap.size) (ha:RE w Ba va a) (hb:RE w Bb vb b) (pC:a.length<=1000000) (vX:b.length<=1000000) (h1:((a.length:Int) !=(b.length:Int))=true):E2 w 21 #[va,vb] (.bool false):=by
 refine Z6 26 Tryz.func21 fun fr hf s0 s1=> ?_
 have EL:=ha.any;have o7:=hb.any
 obtain ⟨Aa,ca,rfl,aa⟩:=ha.form
 obtain ⟨Ab,cb,rfl,ti⟩:=hb.form
 clear ha hb
 have q1:((a.length:Int) !=(b.length:Int))=true:=h1
 refine Ze fun _ a8=>Zr [] hf ?_
 refine y4 0 1 hf ?_
 clear hf s0 s1;intro a7 hf sS
 refine Zs a8 fun _ a8=>Ze fun _ j8=>Zr [6,7,8,9] hf ?_
 refine y7 0 1 10 hf ?_
 intro a7 hf sS
 refine Zx j8 (Fc.l7 sS.2.2 ?_)
 refine Ze fun _ j8=>Zr [] hf ?_
 refine p5 4 hf ?_
 intro a7 hf s4
 refine Zx j8 (k8 ?_)
 exact Fc.o6 rfl hf s4 ⟨rfl,Below.refl _ _⟩
theorem Jt (w:World) (a b:List G9) (Ba Bb:Nat) (va vb:Value) (hBa:Ba<=w.heap.size) (hBb:Bb<=w.heap.size) (ha:RE w Ba va a) (hb:RE w Bb vb b) (pC:a.length<=1000000) (vX:b.length<=1000000) (h1:((a.length:Int) !=(b.length:Int))=false):E2 w 21 #[va,vb] (.bool (decide (a=b))):=by
 refine Z6 26 Tryz.func21 fun fr hf s0 s1=> ?_
 have EL:=ha.any;have o7:=hb.any
 obtain ⟨Aa,ca,rfl,aa⟩:=ha.form
 obtain ⟨Ab,cb,rfl,ti⟩:=hb.form
 clear ha hb
 have q1:((a.length:Int) !=(b.length:Int))=false:=h1
 refine Ze fun _ a8=>Zr [] hf ?_
 refine y4 0 1 hf ?_
 clear hf s0 s1;intro a7 hf sS
 refine Zs a8 fun _ a8=>Ze fun _ j8=>Zr [6,7,8,9] hf ?_
 refine y7 0 1 10 hf ?_
 intro a7 hf sS
 refine Zx j8 (Fc.k9 sS.2.2 ?_)
 have hl:a.length=b.length:=by have:=bne_eq_false_iff_eq.1 h1;omega
 have HL:=H9 hl;clear hl
 clear h1 q1
 refine wp_skip (Zs a8 fun _ a8=>Ze fun _ j8=>Zr [] hf ?_)
 refine y7 0 1 5 hf ?_
 intro a7 hf sS
 refine Zx j8 (wp_block (wp_loop_ghost (fun gk fr wr=>∃ (i:Nat),gk=a.length-i/\i<=a.length/\Fc.Fr 26 fr/\fr.tmps[0]? =some (.slice Aa a.length ca)/\fr.tmps[1]? =some (.slice Ab b.length cb)/\fr.tmps[5]? =some (.int .i64 i)/\a.take i=b.take i/\Below w.heap.size w wr) (a.length) ?_ ?_))
 . (
 obtain ⟨s0,s1,s5⟩:=sS
 exact ⟨0,rfl,Nat.zero_le _,hf,s0,s1,s5,rfl,Below.refl _ _⟩)
 . (
 clear hf sS
 rintro gk fr wr ⟨i,hk,hi,hf,s0,s1,s5,nr,hb⟩
 have HK:=H9 hk;have HT:=H9 nr;clear hk nr
 refine Ze fun _ j8=>Ze fun _ l8=>Zr [11,12,13] hf ?_
 refine z8 0 1 5 14 hf ?_
 clear hf s0 s1 s5;intro a7 hf sS
 refine Zx l8 (Fc.l0 sS.2.2.2 (fun hq=> ?_) (fun hq=> ?_))
 . (
 have o9:i<a.length:=qT
 have z0o:i<b.length:=by have:=HL.out;omega
 have HQ:=H9 hq;clear hq
 obtain ⟨p,hp⟩:∃ p,a[i]? =some p:=⟨_,F8 o9⟩
 obtain ⟨q,SZ⟩:∃ q,b[i]? =some q:=⟨_,F8 (by have:=HL.out;omega)⟩
 obtain ⟨g1,o1,rfl,_,_,d0,d1,d2⟩:=(EL.below hb).at_ hp
 obtain ⟨g2,o2,rfl,_,_,e0,e1,e2⟩:=(o7.below hb).at_ SZ
 have HP:=H9 hp;have HB:=H9 SZ;clear hp SZ
 refine wp_skip (Zs j8 fun _ j8=>wp_block (Ze fun _ l8=> ?_))
 obtain ⟨s0,s1,s5,S4⟩:=sS
 refine Sb.tb 26 fun a6=> ?_
 have lf:=H9 fun (w9:World) (h9:Below _ _ w9)=>ad (cL h9 d0) (ad (cL h9 d1) (ad (cL h9 d2) (ad (cL h9 e0) (ad (cL h9 e1) (cL h9 e2)))))
 refine Sb.mO 0 s0 hf a6 ?_
 refine Sb.mO 1 s5 hf a6 ?_
 refine Sb.T 2 hf a6 ?_
 refine Sb.T 3 hf a6 ?_ (hF:=fun _ _ h d=>lf.out _ h.ext)
 refine Sb.mO 4 s1 hf a6 ?_
 refine Sb.mO 5 s5 hf a6 ?_
 refine Sb.T 6 hf a6 ?_
 refine Sb.T 7 hf a6 ?_ (hF:=fun _ _ h d=>lf.out _ h.ext)
 apply Sb.tq 8 _ hf a6
 . (
 intro a7 w1 hh hd hk K Z
 have N5:=Sb.v 3 4 hd hk []
 have dL:=Sb.v 7 0 hd hk []
 clear hd
 go_simp
 rw [Tn]
 rw [Oper.upon_value]
 exact Sb.k Z)
 refine Sb.E hf a6 (fun _ _ h g=>ad (Sb.O h s0) (ad (Sb.O h s1) (ad (Sb.O h s5) (Sb.f 8 0 g)))) ?_
 clear hf a6 s0 s1 s5 S4;intro a7 w1 hf hx sS
 have L1:=lf.out _ hx;(try clear d0 d1 d2 e0 e1 e2);clear lf;obtain ⟨d0,d1,d2,e0,e1,e2⟩:=L1
 refine Zx l8 (Fc.l0 sS.2.2.2 (fun C5=> ?_) (fun C5=> ?_))
 . (
 have xR:=H9 C5;clear C5
 have F0:a≠b:=fun e=>of_decide_eq_true xR.out (Option.some.inj (by rw [<- HP.out, <- HB.out,e]))
 have HN:=H9 F0;clear F0
 refine Ze fun _ l8=>Zr [] hf ?_
 refine p5 4 hf ?_
 intro a7 hf s4
 refine Zx l8 (k8 ?_)
 exact Fc.o6 rfl hf s4 ⟨by rw [decide_eq_false HN.out],hb.trans (hx.mono hb.size)⟩)
 . (
 have xR:=H9 C5;clear C5
 have vY:p=q:=by have:=of_decide_eq_false xR.out;exact Classical.not_not.1 this
 have nq:a.take (i+1)=b.take (i+1):=by rw [List.take_add_one,List.take_add_one,HT.out,HP.out,HB.out,vY]
 have HTS:=H9 nq;clear nq vY
 refine wp_skip (Fc.j9 (Zx j8 (Zr [15,16] hf ?_)))
 refine y7 0 1 5 hf ?_
 intro a7 hf sS
 refine Fc.j7 ?_
 obtain ⟨s0,s1,s5⟩:=sS
 exact ⟨_,by have:=HK.out;omega,i+1,rfl,oM,hf,s0,s1,by rw [s5];rfl,HTS.out,hb.trans (hx.mono hb.size)⟩))
 . (
 have C3:i=a.length:=qF
 have nM:=H9 C3;clear C3 hq
 refine Zo ?_
 refine Zs a8 fun _ a8=>Zr [] hf ?_
 refine p5 4 hf ?_
 intro a7 hf s4
 refine Zx a8 (k8 ?_)
 refine Fc.o6 rfl hf s4 ⟨?_,hb⟩
 have h5:=HT.out
 rw [nM.out] at h5
 rw [decide_eq_true (by rwa [List.take_length,HL.out,List.take_length] at h5)]))
theorem NT (w:World) (a b:List G9) (Ba Bb:Nat) (va vb:Value) (hBa:Ba<=w.heap.size) (hBb:Bb<=w.heap.size) (ha:RE w Ba va a) (hb:RE w Bb vb b) (pC:a.length<=1000000) (vX:b.length<=1000000):E2 w 21 #[va,vb] (.bool (decide (a=b))):=by
 cases h1:((a.length:Int) !=(b.length:Int)) with
 | false=>exact Jt w a b Ba Bb va vb hBa hBb ha hb pC vX h1
 | true =>
  refine (Js w a b Ba Bb va vb hBa hBb ha hb pC vX h1).mono fun e w1 h=> ?_
  rw [decide_eq_false (fun h=>by subst h;simp at h1)]
  exact h
theorem bu (w:World) (es:List G9) (B:Nat) (v:Value) (hB:B<=w.heap.size) (Q9:RE w B v es) (hlen:es.length<=1000000) (s:ByteArray):E2 w 23 #[v,.string s] (.tuple #[eval ((R5 es s).getD ⟨⟨#[]⟩,0,false⟩),.bool (R5 es s).isSome]):=by
 refine Z6 25 Tryz.func23 fun fr hf s0 s1=> ?_
 have fM:=Q9.any
 obtain ⟨A,cc,rfl,U0⟩:=Q9.form
 clear Q9
 refine Ze fun _ a8=>Zr [] hf ?_
 refine y7 0 1 4 hf ?_
 clear hf s0 s1;intro a7 hf sS
 generalize p8:w.alloc (.cells #[.string ⟨#[]⟩,.int .u32 0,.bool false] 64)=W0
 obtain ⟨o7,c0,c1,c2,bK, -⟩:=E7 p8
 clear p8
 clear c0 c1 c2
 replace fM:=fM.below o7
 have fG:=o7.size
 have kP:=j5 bK
 refine Zs a8 fun _ a8=>Ze fun _ j8=>Zr [] hf ?_
 refine z8 0 1 4 6 hf ?_
 intro a7 hf sS
 refine Zx j8 (wp_block (wp_loop_ghost (fun gk fr wr=>∃ (i:Nat),gk=es.length-i/\i<=es.length/\Fc.Fr 25 fr/\fr.tmps[0]? =some (.slice A es.length cc)/\fr.tmps[1]? =some (.string s)/\fr.tmps[4]? =some (.pointer (some ⟨w.heap.size,0,none⟩))/\fr.tmps[6]? =some (.int .i64 i)/\R5 (es.take i) s=none/\wr=W0) (es.length) ?_ ?_))
 . (
 obtain ⟨s0,s1,s4,s6⟩:=sS
 exact ⟨0,rfl,Nat.zero_le _,hf,s0,s1,s4,s6,rfl,rfl⟩)
 . (
 clear hf sS
 rintro gk fr wr ⟨i,hk,hi,hf,s0,s1,s4,s6,gJ,SQ⟩
 subst wr
 have HK:=H9 hk;have M8:=H9 gJ;clear hk gJ
 refine Ze fun _ j8=>Ze fun _ l8=>Zr [7,8,9] hf ?_
 refine D2 0 1 4 6 10 hf ?_
 clear hf s0 s1 s4 s6;intro a7 hf sS
 refine Zx l8 (Fc.l0 sS.2.2.2.2 (fun hq=> ?_) (fun hq=> ?_))
 . (
 have o9:i<es.length:=qT
 have HQ:=H9 hq;clear hq
 obtain ⟨q,hiq⟩:∃ q,es[i]? =some q:=⟨_,F8 o9⟩
 obtain ⟨b,off,rfl,_,_,d0,d1,d2⟩:=fM.at_ hiq
 have HI:=H9 hiq;clear hiq
 refine wp_skip (Zs j8 fun _ j8=>wp_block (Ze fun _ l8=>Zr [13,14,15,16,17,18] hf ?_))
 refine D2 0 1 4 6 19 hf ?_
 intro a7 hf sS
 refine Zx l8 (Fc.l0 sS.2.2.2.2 (fun C5=> ?_) (fun C5=> ?_))
 . (
 have hqs:q.word=s:=NR C5
 have kH:R5 es s=some q:=Tp HI.out M8.out hqs
 have Jc:=H9 kH;clear kH hqs C5
 have z0:=n5 0 bK;have z1:=n5 1 bK;have z2:=n5 2 bK
 simp at z0 z1 z2
 have f0:=j6 (i:=0) bK;have f1:=j6 (i:=1) bK;have f2:=j6 (i:=2) bK
 refine Ze fun _ l8=>Zr [20,21,22,23] hf ?_
 refine y4 4 5 hf ?_
 intro a7 hf sS
 refine Zx l8 (k8 ?_)
 refine U2 rfl hf sS.1 sS.2 (k7 (k7 (k7 bK _) _) _) Tryz.underlying64 rfl kR ⟨?_,((o7.setCell (p:=⟨w.heap.size,0,none⟩) nR _).setCell (p:=⟨w.heap.size,1,none⟩) nR _).setCell (p:=⟨w.heap.size,2,none⟩) nR _⟩
 rw [Jc.out]
 rfl)
 . (
 have kH:R5 (es.take (i+1)) s=none:=NS HI.out M8.out (ae C5)
 have Jc:=H9 kH;clear kH C5
 refine wp_skip (Fc.j9 (Zx j8 (Zr [11,12] hf ?_)))
 refine z8 0 1 4 6 hf ?_
 intro a7 hf sS
 refine Fc.j7 ?_
 obtain ⟨s0,s1,s4,s6⟩:=sS
 exact ⟨_,by have:=HK.out;omega,i+1,rfl,oM,hf,s0,s1,s4,by rw [s6];rfl,Jc.out,rfl⟩))
 . (
 have C3:i=es.length:=qF
 have mh:R5 es s=none:=by have h9:=M8.out;rwa [C3,List.take_length] at h9
 have tg:=H9 mh;clear mh C3 hq
 have z0:=n5 0 bK;have z1:=n5 1 bK;have z2:=n5 2 bK
 simp at z0 z1 z2
 have f0:=j6 (i:=0) bK;have f1:=j6 (i:=1) bK;have f2:=j6 (i:=2) bK
 refine Zo ?_
 refine Zs a8 fun _ a8=>Zr [24] hf ?_
 refine y4 4 5 hf ?_
 intro a7 hf sS
 refine Zx a8 (k8 ?_)
 refine U2 rfl hf sS.1 sS.2 (k7 (k7 (k7 bK _) _) _) Tryz.underlying64 rfl kR ⟨?_,((o7.setCell (p:=⟨w.heap.size,0,none⟩) nR _).setCell (p:=⟨w.heap.size,1,none⟩) nR _).setCell (p:=⟨w.heap.size,2,none⟩) nR _⟩
 rw [tg.out]
 rfl))
def XH (o:Nat) (e:Wv):Wv:=(e.1,o+e.2)
theorem nZ (F:u3->List Wv) (u:u3->Nat) (l:List u3):∀ e∈l.flatMap (fun a=>(F a).map (shift a.byte (u a))),e.1≠[]:=by
 intro e he
 obtain ⟨a,_,h⟩:=List.mem_flatMap.1 he
 obtain ⟨x,_,rfl⟩:=List.mem_map.1 h
 exact List.cons_ne_nil _ _
theorem NU {ss:List State} (D6:∀ (k:Nat) (st:State),ss[k]? =some st->okArcs k (-1) st.j4=true):∀ (m k:Nat),xT (wds ss m k):=by
 intro m
 induction m with
 | zero =>
  intro k
  cases hk:ss[k]? with
  | none=>rw [wds,hk];exact List.Pairwise.nil
  | some st=>rw [wds,hk];show xT (P0 st);unfold P0;split;exact List.pairwise_singleton _ _;exact List.Pairwise.nil
 | succ m ih =>
  intro k
  cases hk:ss[k]? with
  | none=>rw [wds,hk];exact List.Pairwise.nil
  | some st =>
   rw [Y6 hk]
   refine List.pairwise_append.2 ⟨?_,?_,?_⟩
   ·unfold P0;split;exact List.pairwise_singleton _ _;exact List.Pairwise.nil
   ·have:∀ (l:List u3) (last:Int),okArcs k last l=true->xT (l.flatMap fun a=>(wds ss m a.to.toNat).map (shift a.byte a.out)):=by
     intro l
     induction l with
     | nil=>intro _ _;exact List.Pairwise.nil
     | cons a l mc =>
      intro last h
      have h2:=h
      simp only [okArcs,Bool.and_eq_true,decide_eq_true_eq] at h2
      rw [List.flatMap_cons]
      refine List.pairwise_append.2 ⟨List.pairwise_map.2 ((ih a.to.toNat).imp fun {x y} mf=> ?_),mc _ h2.2,fun x hx y hy=> ?_⟩
      ·exact bD.2 (.inr ⟨rfl,mf⟩)
      ·obtain ⟨e,_,rfl⟩:=List.mem_map.1 hx
       obtain ⟨b,w,h3,h4⟩:=dZ (fun a=>wds ss m a.to.toNat) l k a.byte h2.2 y hy
       rw [h3]
       exact bD.2 (.inl oM)
    exact this st.j4 _ (D6 k st hk)
   ·intro x hx y hy
    have kP:x.1=[]:=by unfold P0 at hx;split at hx;simp at hx;rw [hx];cases hx
    have hy1:=nZ (fun a=>wds ss m a.to.toNat) (fun a=>a.out) st.j4 y hy
    rw [kP]
    cases hq:y.1 with
    | nil=>exact absurd hq hy1
    | cons b w=>rfl
theorem Tq {ss:List State} (D6:∀ (k:Nat) (st:State),ss[k]? =some st->okArcs k (-1) st.j4=true) (m:Nat) (hm:ss.length<=m+1) (hl:0<ss.length):∀ e∈wds ss m (ss.length-1),(e.1.length:Int)<=BB ss :=
 bH (z:=(0:Int)) (o:=BA) (wi:=fun x c _=>qZ x c) D6 (fun l x=>∀ e∈l,(e.1.length:Int)<=x) (fun st e he=>by
  unfold P0 at he
  unfold BA
  cases hf:st.final
  ·rw [hf] at he;cases he
  ·rw [hf] at he;obtain rfl:e=([],st.out):=by simpa using he
   simp) (fun l x l2 c a h1 h2 e he=>by
  unfold qZ
  rcases List.mem_append.1 he with he | he
  ·have:=h1 e he
   split<;>omega
  ·obtain ⟨y,hy,rfl⟩:=List.mem_map.1 he
   have:=h2 y hy
   rw [if_neg (by omega)]
   show (((a.byte::y.1).length:Nat):Int)<=_
   rw [List.length_cons]
   omega) m hm hl
theorem br {ss:List State} (D6:∀ (k:Nat) (st:State),ss[k]? =some st->okArcs k (-1) st.j4=true) (m:Nat) (hm:ss.length<=m+1) (hl:0<ss.length):(Gb ss).fits=true->∀ e∈wds ss m (ss.length-1),e.2<=(Gb ss).n :=
 (bH (z:=(⟨0,false,false⟩:C0)) D6 (fun l (x:C0)=>(x.any=false->l=[])/\(x.fits=true->∀ e∈l,e.2<=x.n)) (fun st=>by
  unfold P0 sx
  cases hf:st.final
  ·simp
  ·simp) (fun l x l2 c a h1 h2=>by
  unfold nz C0.or
  cases hc:c.any with
  | false =>
   have:=h2.1 hc
   subst this
   simpa using h1
  | true =>
   have k2:(c.fits&&decide (c.n+a.out<q9))=true->∀ e∈l2.map (shift a.byte a.out),e.2<=(c.n+a.out)%q9:=fun h e he=>by
    rw [Bool.and_eq_true,decide_eq_true_eq] at h
    obtain ⟨y,hy,rfl⟩:=List.mem_map.1 he
    have:=h2.2 h.1 y hy
    rw [Nat.mod_eq_of_lt h.2]
    show a.out+y.2<=_
    omega
   cases hx:x.any with
   | false =>
    have:=h1.1 hx
    subst this
    simp only [if_true,Bool.false_eq_true,if_false,List.nil_append]
    exact ⟨fun h=>(Bool.noConfusion h),k2⟩
   | true =>
    simp only [if_true]
    refine ⟨fun h=>(Bool.noConfusion h),fun h e he=> ?_⟩
    rw [Bool.and_eq_true] at h
    rcases List.mem_append.1 he with he | he
    ·exact Nat.le_trans (h1.2 h.1 e he) (Nat.le_max_left _ _)
    ·exact Nat.le_trans (k2 h.2 e he) (Nat.le_max_right _ _)) m hm hl).2
theorem yG {s:ByteArray} {v:Nat} (h:v<=4294967296):lQ (eX s v)=(wl s,v)/\(eX s v).word=s:=by
 unfold eX lQ bA
 rw [if_neg (by omega)]
 split
 ·rename_i h0;subst h0;exact ⟨rfl,rfl⟩
 ·refine ⟨?_,rfl⟩
  simp only [Bool.false_eq_true,if_false]
  refine Prod.ext rfl ?_
  show (((v-1:Nat):Int)).toNat+1=v
  omega
theorem NW (w:World) (sv:Value) (init:Nat) (ss:List State) (o8:RS w sv ss) (a6:∀ s∈ss,L3 s) (hlen:ss.length<=1000000):E2 w 77 #[.agg #[sv,.int .u64 init]] (.bool (F2 ss init)):=by
 refine L7 113 Tryz.func77 fun fr hf s0=> ?_
 obtain ⟨A,cc,rfl,U0⟩:=o8.form
 have z0l:=a6
 skip
 refine Ze fun _ a8=>Zr [] hf ?_
 refine p5 1 hf ?_
 clear hf s0;intro a7 hf s1
 generalize p8:w.alloc (.cells #[.slice A ss.length cc,.int .u64 init] 38)=W0
 obtain ⟨o7,c0,c1, -,R6⟩:=P7 p8
 clear p8
 have fG:w.heap.size<W0.heap.size:=by rw [R6];exact Nat.lt_succ_self _
 clear R6
 have R9:=o8.later o7
 clear o8
 refine Zs a8 fun _ a8=>Ze fun _ j8=>rg ?_
 have bB:=hf.B2 11 12
 refine Zy ?_
 refine Zc (Ju W0 _ init ss R9 z0l hlen) ?_;rintro e w1 ⟨rfl,p6⟩
 refine Zv ?_
 refine Zy ?_
 refine Fc.nil (y4 1 13 hf ?_)
 clear hf s1 bB;intro a7 hf sS
 have zX:=R9.later p6
 replace c0:=cL p6 c0;replace c1:=cL p6 c1
 have F9:=o7.trans (p6.mono o7.size)
 have hzw:w.heap.size<w1.heap.size:=by have:=p6.size;omega
 have HO:=H9 a6;clear a6 R9 o7 p6 fG
 refine Zx j8 ?_
 rcases D6:D4 ss with _ | _
 . (
 have NX:=H9 D6;clear D6
 have te:a7.tmps[13]? =some (.bool true):=by rw [sS.2,NX.out];rfl
 obtain ⟨s1,D1⟩:=sS
 clear D1
 have D1:=te;clear te
 refine Fc.l7 D1 ?_
 refine Ze fun _ j8=>Zr [] hf ?_
 refine p5 2 hf ?_
 clear hf s1 D1;intro a7 hf s2
 refine Zx j8 (k8 ?_)
 exact Fc.o6 rfl hf s2 ⟨by rw [F2,NX.out];rfl,F9⟩)
 . (
 obtain ⟨hA,h0⟩:=kF D6
 have NX:=H9 D6;clear D6
 have te:a7.tmps[13]? =some (.bool false):=by rw [sS.2,NX.out];rfl
 obtain ⟨s1,D1⟩:=sS
 clear D1
 have D1:=te;clear te
 refine Fc.k9 D1 ?_
 obtain ⟨root,oA⟩:∃ root,ss[ss.length-1]? =some root:=⟨_,F8 oM⟩
 have pQ:((ss.length:Int)-1)=((ss.length-1:Nat):Int):=oM
 obtain ⟨b,off,av,bq,C7⟩:=zX.at_ oA
 subst bq
 have d0:=C7.c0;have d1:=C7.c1;have d2:=C7.c2
 obtain ⟨Ar,cr,rfl,_⟩:=C7.j4.form
 have hrl:=(HO.out root (T9 oA)).2.1
 have Tr:=H9 pQ;have HR:=H9 oA;have Ts:=H9 hA;clear pQ oA C7 hA
 have kQ:F2 ss init=if !root.final&&decide (root.j4.length=0) then decide (ss.length=1)&&decide (init=0) else decide ((endsL ss ss.length (ss.length-1) []).length=ss.length)&&S2 ss (endsL ss ss.length (ss.length-1) []) 0 ss:=by rw [F2,NX.out,rG HR.out];rfl
 have HRR:=H9 kQ;clear kQ
 refine wp_skip (Zt a8 fun _ a8=> ?_)
 have bB:=hf.B4 14 15 16 17
 iterate 3 refine Zy ?_
 refine fp fun K Z=> ?_
 go_simp
 try simp (disch:=omega) only [Fc.W]
 rw [Tr.out]
 apply Z.out;clear Z K
 refine Zy ?_
 refine Fc.nil (y4 1 3 hf ?_)
 clear hf s1 D1 bB;intro a7 hf sS
 refine Zs a8 fun _ a8=>Zr [18,19,20,21,22,4] hf ?_
 refine y7 1 3 4 hf ?_
 intro a7 hf sS
 generalize Y4:w1.alloc (.cells #[.slice Ar root.j4.length cr,.bool root.final,.int .u64 root.out] 46)=W2
 obtain ⟨r8,x0,x1, -, -, -⟩:=E7 Y4
 clear Y4
 clear d0 d1 d2
 have R1:=zX.later r8
 replace c0:=cL r8 c0;replace c1:=cL r8 c1
 have eN:=F9.trans (r8.mono oM)
 have tc:w.heap.size<W2.heap.size:=by have:=r8.size;omega
 clear zX r8 F9
 refine Zx a8 (Fc.G1 (fun fr wq=>Fc.Fr 113 fr/\fr.tmps[1]? =some (.pointer (some ⟨w.heap.size,0,none⟩))/\fr.tmps[3]? =some (.int .i64 (ss.length-1:Nat))/\wq=W2/\F2 ss init=(decide ((endsL ss ss.length (ss.length-1) []).length=ss.length)&&S2 ss (endsL ss ss.length (ss.length-1) []) 0 ss)) ?_ ?_)
 . (
 rcases p7:root.final with _ | _
 . (
 have q1:=p7
 by_cases h5:root.j4.length=0
 . (
 have q2:(((root.j4.length:Nat):Int)==0)=true:=beq_iff_eq.2 oM
 have rH:F2 ss init=(decide (ss.length=1)&&decide (init=0)):=by rw [HRR.out,p7,decide_eq_true h5];rfl
 have BK:=H9 rH;clear rH p7
 refine Ze fun _ a8=> ?_
 have qs:=And.intro q1 q2
 refine Zr [23,24,25,26,27,28,29,30] hf ?_
 refine y7 1 3 31 hf ?_
 clear hf sS qs;intro a7 hf sS
 refine Zx a8 (Fc.l7 sS.2.2 ?_)
 clear q1 q2
 by_cases h1:ss.length=1
 . (
 have q3:(((ss.length-1:Nat):Int)==0)=true:=beq_iff_eq.2 oM
 have H1:=H9 h1;clear h1
 refine Ze fun _ a8=> ?_
 have qs:=q3
 refine Zr [32,33,34,35,36,37,38] hf ?_
 refine p5 2 hf ?_
 clear hf sS qs;intro a7 hf s2
 refine Zx a8 (k8 ?_)
 refine Fc.o6 rfl hf s2 ⟨?_,eN⟩
 rw [BK.out,decide_eq_true H1.out]
 rw [<- kS init 0];rfl)
 . (
 have q3:(((ss.length-1:Nat):Int)==0)=false:=beq_false_of_ne oM
 have H1:=H9 h1;clear h1
 refine Ze fun _ a8=> ?_
 have qs:=q3
 refine Zr [32,33,34,35,36,37,38] hf ?_
 refine p5 2 hf ?_
 clear hf sS qs;intro a7 hf s2
 refine Zx a8 (k8 ?_)
 refine Fc.o6 rfl hf s2 ⟨?_,eN⟩
 rw [BK.out,decide_eq_false H1.out]
 rfl))
 . (
 have q2:(((root.j4.length:Nat):Int)==0)=false:=beq_false_of_ne oM
 have rH:F2 ss init=(decide ((endsL ss ss.length (ss.length-1) []).length=ss.length)&&S2 ss (endsL ss ss.length (ss.length-1) []) 0 ss):=by rw [HRR.out,p7,decide_eq_false h5];rfl
 have BK:=H9 rH;clear rH p7
 refine Ze fun _ a8=> ?_
 have qs:=And.intro q1 q2
 refine Zr [23,24,25,26,27,28,29,30] hf ?_
 refine y7 1 3 31 hf ?_
 clear hf sS qs;intro a7 hf sS
 refine Zx a8 (Fc.k9 sS.2.2 ?_)
 clear q1 q2
 refine wp_skip (Fc.j7 ?_)
 exact ⟨hf,sS.1,sS.2.1,rfl,BK.out⟩))
 . (
 have q1:=p7
 have rH:F2 ss init=(decide ((endsL ss ss.length (ss.length-1) []).length=ss.length)&&S2 ss (endsL ss ss.length (ss.length-1) []) 0 ss):=by rw [HRR.out,p7];rfl
 have BK:=H9 rH;clear rH p7
 refine Ze fun _ a8=> ?_
 have qs:=q1
 refine Zr [23,24,25,26,27,28,29,30] hf ?_
 refine y7 1 3 31 hf ?_
 clear hf sS qs;intro a7 hf sS
 refine Zx a8 (Fc.k9 sS.2.2 ?_)
 clear q1
 refine wp_skip (Fc.j7 ?_)
 exact ⟨hf,sS.1,sS.2.1,rfl,BK.out⟩))
 . (
 clear hf sS
 rintro fr wq ⟨hf,s1,s3,hw,rH⟩
 subst wq
 have BK:=H9 rH;clear rH
 clear x0 x1
 refine Ze fun _ a8=>rg ?_
 have bB:=hf.B3 39 40 41
 iterate 2 refine Zy ?_
 refine fp fun K Z=> ?_
 go_simp
 go_at_call 121;refine (BL ss.length W2 W2.heap.size W2.heap.size _ init ss (ss.length-1) [] (.slice none 0 0) oM oM (XJ.of R1) nR nR (World.ownsRow_nil _ _ _ _) List.nodup_nil (fun x hx=>by cases hx) Ts.out HO.out hlen).mono ?_;rintro e w3 ⟨v3,rfl,lU,l6,lV⟩
 try dsimp only
 apply Z.out;clear Z K
 refine Zy ?_
 refine Fc.nil (y7 1 3 5 hf ?_)
 clear hf s1 s3 bB;intro a7 hf sS
 have G4:=n4.below l6 nR (fun k hk=>by cases hk)
 have kT:=R1.later G4
 replace c0:=cL G4 c0;clear c1
 have kU:=eN.trans (G4.mono (Nat.le_of_lt tc))
 have yH:w.heap.size<w3.heap.size:=by have:=G4.size;omega
 obtain ⟨ord,bp⟩:∃ x,(endsL ss ss.length (ss.length-1) [])=x:=⟨_,rfl⟩
 rw [bp] at lU
 have hRR:=BK.out
 rw [bp] at hRR
 have ta:=H9 hRR;clear hRR bp l6 lV R1 G4
 obtain ⟨Ao,co,rfl,uz⟩:=OI.form lU
 refine Zs a8 fun _ a8=>Ze fun _ j8=>Zr [42,43,44,45,46] hf ?_
 refine z8 1 3 5 47 hf ?_
 intro a7 hf sS
 refine Zx j8 (Fc.l0 sS.2.2.2 (fun hq=> ?_) (fun hq=> ?_))
 . (
 have F0:ord.length≠ss.length:=by intro h9;rw [h9] at hq;simp at hq
 have MS:=H9 F0;clear F0 hq
 refine Ze fun _ j8=>Zr [] hf ?_
 refine p5 2 hf ?_
 intro a7 hf s2
 refine Zx j8 (k8 ?_)
 exact Fc.o6 rfl hf s2 ⟨by rw [ta.out,decide_eq_false MS.out];rfl,kU⟩)
 . (
 have uy:ord.length=ss.length:=by have h9:=hq;simp at h9;omega
 have ux:F2 ss init=S2 ss ord 0 ss:=by rw [ta.out,decide_eq_true uy];rfl
 have NY:=H9 ux;have HEL:=H9 uy;clear ux uy hq
 refine wp_skip (Zs a8 fun _ a8=>Ze fun _ j8=>Zr [] hf ?_)
 refine z8 1 3 5 6 hf ?_
 intro a7 hf sS
 refine Zx j8 (wp_block (wp_loop_ghost (fun gk fr wr=>∃ (i:Nat),gk=ss.length-i/\i<=ss.length/\Fc.Fr 113 fr/\fr.tmps[1]? =some (.pointer (some ⟨w.heap.size,0,none⟩))/\fr.tmps[3]? =some (.int .i64 (ss.length-1:Nat))/\fr.tmps[5]? =some (.slice Ao ord.length co)/\fr.tmps[6]? =some (.int .i64 i)/\S2 ss ord 0 ss=S2 ss ord i (ss.drop i)/\Below w3.heap.size w3 wr) (ss.length) ?_ ?_))
 . (
 obtain ⟨s1,s3,s5,s6⟩:=sS
 exact ⟨0,rfl,Nat.zero_le _,hf,s1,s3,s5,s6,rfl,Below.refl _ _⟩)
 . (
 clear hf sS
 rintro gk fr wr ⟨i,hk,hi,hf,s1,s3,s5,s6,uw,hb⟩
 have HK:=H9 hk;have EM:=H9 uw;clear hk uw
 have e0:=cL hb c0
 have kQ:=kT.later hb
 have uv:=n3 lU hb
 refine Ze fun _ j8=>Ze fun _ l8=>Zr [48,49] hf ?_
 refine D2 1 3 5 6 50 hf ?_
 clear hf s1 s3 s5 s6;intro a7 hf sS
 refine Zx l8 (Fc.l0 sS.2.2.2.2 (fun hq=> ?_) (fun hq=> ?_))
 . (
 have o9:i<ss.length:=qT
 clear hq
 obtain ⟨s,N3⟩:∃ s,ss[i]? =some s:=⟨_,F8 o9⟩
 obtain ⟨b5,z0h,av5,EN,C7⟩:=kQ.at_ N3
 injection EN with EN
 injection EN with EN he6 _
 subst EN;subst he6
 have d0:=C7.c0;have d1:=C7.c1;have d2:=C7.c2
 have S7:=C7.j4
 obtain ⟨A5,c5,rfl,_⟩:=S7.form
 have cY:=HO.out s (T9 N3)
 have Gf:=cY.2.1
 have rJ:=Af (order:=ord) N3
 have HS:=H9 N3;have Jv:=H9 rJ;clear N3 rJ C7
 have hio:i<ord.length:=by have:=HEL.out;omega
 obtain ⟨x,BM⟩:∃ x,ord[i]? =some x:=⟨_,F8 (by have:=HEL.out;omega)⟩
 obtain ⟨g,hAo,y0⟩:=OI.at_ uv BM
 subst hAo
 have XK:=H9 BM;clear BM
 refine wp_skip (Zs j8 fun _ j8=>wp_block (Ze fun _ l8=>Zr [53,54,55,56,57,7] hf ?_))
 refine D2 1 3 5 6 7 hf ?_
 intro a7 hf sS
 generalize cS:wr.alloc (.cells #[.slice A5 s.j4.length c5,.bool s.final,.int .u64 s.out] 46)=W5
 obtain ⟨F3,x0,x1,x2, -, -⟩:=E7 cS
 clear cS
 clear d0 d1 d2
 replace y0:=cL F3 y0
 replace e0:=cL F3 e0
 have mH:=S7.later F3
 have N0:=kU.trans ((hb.trans (F3.mono hb.size)).mono (Nat.le_of_lt yH))
 have X8:=kQ.later F3
 clear S7 kQ uv
 refine Zx l8 (Fc.G1 (fun fr wq=>Fc.Fr 113 fr/\fr.tmps[1]? =some (.pointer (some ⟨w.heap.size,0,none⟩))/\fr.tmps[3]? =some (.int .i64 (ss.length-1:Nat))/\fr.tmps[5]? =some (.slice (some ⟨g,0,none⟩) ord.length co)/\fr.tmps[6]? =some (.int .i64 i)/\fr.tmps[7]? =some (.pointer (some ⟨wr.heap.size,0,none⟩))/\wq=W5/\N4 ss ord i s=(zeroOf s&&decide (s∉ss.take i))) ?_ ?_)
 . (
 by_cases dK:x=i
 . (
 rcases p7:s.final with _ | _
 . (
 by_cases h5:s.j4.length=0
 . (
 have q1:((x:Int) !=(i:Int))=false:=sO
 have q2:s.final=false:=p7
 have q3:(((s.j4.length:Nat):Int)==0)=true:=beq_iff_eq.2 oM
 refine Ze fun _ l8=> ?_
 have qs:=And.intro q1 (And.intro q2 q3)
 refine Zr [58,59,60,61,62,63,64,65,66,67,68,69,70,71,72,73] hf ?_
 refine F1 1 3 5 6 7 74 hf ?_
 clear hf sS qs;intro a7 hf sS
 refine Zx l8 (Fc.l7 sS.2.2.2.2.2 ?_)
 have D5:F2 ss init=false:=by rw [NY.out,EM.out,Jv.out];unfold N4;rw [XK.out];rw [p7,decide_eq_true h5];simp
 have J0:=H9 D5;clear D5
 clear q1 q2 q3
 refine Ze fun _ l8=>Zr [] hf ?_
 refine p5 2 hf ?_
 intro a7 hf s2
 refine Zx l8 (k8 ?_)
 exact Fc.o6 rfl hf s2 ⟨by rw [J0.out],N0⟩)
 . (
 have q1:((x:Int) !=(i:Int))=false:=sO
 have q2:s.final=false:=p7
 have q3:(((s.j4.length:Nat):Int)==0)=false:=beq_false_of_ne oM
 refine Ze fun _ l8=> ?_
 have qs:=And.intro q1 (And.intro q2 q3)
 refine Zr [58,59,60,61,62,63,64,65,66,67,68,69,70,71,72,73] hf ?_
 refine F1 1 3 5 6 7 74 hf ?_
 clear hf sS qs;intro a7 hf sS
 refine Zx l8 (Fc.k9 sS.2.2.2.2.2 ?_)
 have Mw:N4 ss ord i s=(zeroOf s&&decide (s∉ss.take i)):=by unfold N4;rw [XK.out,dK,decide_eq_true rfl,p7,decide_eq_false h5];rfl
 have np:=H9 Mw;clear Mw q1
 clear q3
 refine wp_skip (Fc.j7 ?_)
 obtain ⟨s1,s3,s5,s6,s7,s74⟩:=sS
 exact ⟨hf,s1,s3,s5,s6,s7,rfl,np.out⟩))
 . (
 have q1:((x:Int) !=(i:Int))=false:=sO
 have q2:s.final=true:=p7
 refine Ze fun _ l8=> ?_
 have qs:=And.intro q1 q2
 refine Zr [58,59,60,61,62,63,64,65,66,67,68,69,70,71,72,73] hf ?_
 refine F1 1 3 5 6 7 74 hf ?_
 clear hf sS qs;intro a7 hf sS
 refine Zx l8 (Fc.k9 sS.2.2.2.2.2 ?_)
 have Mw:N4 ss ord i s=(zeroOf s&&decide (s∉ss.take i)):=by unfold N4;rw [XK.out,dK,decide_eq_true rfl,p7];rfl
 have np:=H9 Mw;clear Mw q1
 refine wp_skip (Fc.j7 ?_)
 obtain ⟨s1,s3,s5,s6,s7,s74⟩:=sS
 exact ⟨hf,s1,s3,s5,s6,s7,rfl,np.out⟩))
 . (
 have q1:((x:Int) !=(i:Int))=true:=sO
 refine Ze fun _ l8=> ?_
 have qs:=q1
 refine Zr [58,59,60,61,62,63,64,65,66,67,68,69,70,71,72,73] hf ?_
 refine F1 1 3 5 6 7 74 hf ?_
 clear hf sS qs;intro a7 hf sS
 refine Zx l8 (Fc.l7 sS.2.2.2.2.2 ?_)
 have D5:F2 ss init=false:=by rw [NY.out,EM.out,Jv.out];unfold N4;rw [XK.out];rw [decide_eq_false (by intro h;injection h with h;exact dK h)];rfl
 have J0:=H9 D5;clear D5
 clear q1
 refine Ze fun _ l8=>Zr [] hf ?_
 refine p5 2 hf ?_
 intro a7 hf s2
 refine Zx l8 (k8 ?_)
 exact Fc.o6 rfl hf s2 ⟨by rw [J0.out],N0⟩))
 . (
 clear hf sS
 rintro fr wq ⟨hf,s1,s3,s5,s6,s7,hw,Mw⟩
 subst wq
 have np:=H9 Mw;clear Mw
 refine Fc.G1 (fun fr wq=>Fc.Fr 113 fr/\fr.tmps[1]? =some (.pointer (some ⟨w.heap.size,0,none⟩))/\fr.tmps[3]? =some (.int .i64 (ss.length-1:Nat))/\fr.tmps[5]? =some (.slice (some ⟨g,0,none⟩) ord.length co)/\fr.tmps[6]? =some (.int .i64 i)/\fr.tmps[7]? =some (.pointer (some ⟨wr.heap.size,0,none⟩))/\fr.tmps[8]? =some (.bool (s.final&&decide (s.out=0)))/\wq=W5) ?_ ?_
 . (
 rcases p7:s.final with _ | _
 . (
 have q2:=p7
 have qs:=q2
 refine Zr [75,76,77,78,79,80,81] hf ?_
 refine F1 1 3 5 6 7 8 hf ?_
 clear hf s1 s3 s5 s6 s7 qs;intro a7 hf sS
 clear q2 p7
 refine Fc.j7 ?_
 obtain ⟨s1,s3,s5,s6,s7,s8⟩:=sS
 exact ⟨hf,s1,s3,s5,s6,s7,s8,rfl⟩)
 . (
 have q2:=p7
 have qs:=q2
 refine rg ?_
 have bB:=hf.B7 75 76 77 78 79 80 81
 iterate 5 refine Zy ?_
 refine og 2 77 true ?_ fun K Z=> ?_
 . (
 simp (decide:=true) only [Fc.G,reduceIte,hf.size,q2,Fc.N])
 go_simp
 rw [show ((s.out:Int)==0)=decide (s.out=0) from kS s.out 0]
 apply Z.out;clear Z K
 iterate 2 refine Zy ?_
 refine Fc.nil (F1 1 3 5 6 7 8 hf ?_)
 clear hf s1 s3 s5 s6 s7 bB qs;intro a7 hf sS
 clear q2 p7
 refine Fc.j7 ?_
 obtain ⟨s1,s3,s5,s6,s7,s8⟩:=sS
 exact ⟨hf,s1,s3,s5,s6,s7,s8,rfl⟩))
 . (
 clear hf s1 s3 s5 s6 s7
 rintro fr wq ⟨hf,s1,s3,s5,s6,s7,s8,hw⟩
 subst wq
 refine Ze fun _ l8=>Ze fun _ F5=>Zr [] hf ?_
 refine Z1 1 3 5 6 7 8 9 hf ?_
 clear hf s1 s3 s5 s6 s7 s8;intro a7 hf sS
 refine Zx F5 (wp_block (wp_loop_ghost (fun lR fr pA=>∃ (k:Nat),lR=s.j4.length-k/\k<=s.j4.length/\Fc.Fr 113 fr/\fr.tmps[1]? =some (.pointer (some ⟨w.heap.size,0,none⟩))/\fr.tmps[3]? =some (.int .i64 (ss.length-1:Nat))/\fr.tmps[5]? =some (.slice (some ⟨g,0,none⟩) ord.length co)/\fr.tmps[6]? =some (.int .i64 i)/\fr.tmps[7]? =some (.pointer (some ⟨wr.heap.size,0,none⟩))/\fr.tmps[8]? =some (.bool ((s.final&&decide (s.out=0))||(s.j4.take k).any fun a=>decide (a.out=0)))/\fr.tmps[9]? =some (.int .i64 k)/\pA=W5) (s.j4.length) ?_ ?_))
 . (
 obtain ⟨s1,s3,s5,s6,s7,s8,s9⟩:=sS
 exact ⟨0,rfl,Nat.zero_le _,hf,s1,s3,s5,s6,s7,by rw [s8];simp,s9,rfl⟩)
 . (
 clear hf sS
 rintro lR fr pA ⟨k,M9,aN,hf,s1,s3,s5,s6,s7,s8,s9,hw⟩
 subst pA
 have xQ:=H9 M9;clear M9
 refine Ze fun _ F5=>Ze fun _ U6=>Zr [82,83,84,85] hf ?_
 refine mF 1 3 5 6 7 8 9 86 hf ?_
 clear hf s1 s3 s5 s6 s7 s8 s9;intro a7 hf sS
 refine Zx U6 (Fc.l0 sS.2.2.2.2.2.2.2 (fun C5=> ?_) (fun C5=> ?_))
 . (
 have bC:k<s.j4.length:=by have h9:=of_decide_eq_true C5;omega
 clear C5
 obtain ⟨a,aU⟩:∃ a,s.j4[k]? =some a:=⟨_,F8 bC⟩
 obtain ⟨b3,uD,rfl,X3, -,u1, -⟩:=mH.at' aU
 obtain ⟨z,hz⟩:∃ x,((s.final&&decide (s.out=0))||(s.j4.take k).any fun a=>decide (a.out=0))=x:=⟨_,rfl⟩
 obtain ⟨s1,s3,s5,s6,s7,s8,s9,EP⟩:=sS
 rw [hz] at s8
 have Yw:((s.final&&decide (s.out=0))||(s.j4.take (k+1)).any fun a=>decide (a.out=0))=(z||decide (a.out=0)):=by rw [<- hz,List.take_add_one,aU,List.any_append, <- Bool.or_assoc];simp
 have HZS:=H9 Yw;clear Yw hz aU
 rcases hzv:z with _ | _
 . (
 have q4:=hzv
 rw [hzv] at s8
 have HZV:=H9 hzv;clear hzv q4
 refine wp_skip (Zs F5 fun _ F5=>wp_block (rg ?_))
 have bB:=hf.eW 89 90 91 92 93 94 95 96 97 98
 iterate 8 refine Zy ?_
 refine og 1 90 false ?_ fun K Z=> ?_
 . (
 simp (decide:=true) only [Fc.G,reduceIte,hf.size])
 go_simp
 rw [show ((a.out:Int)==0)=decide (a.out=0) from kS a.out 0]
 apply Z.out;clear Z K
 iterate 2 refine Zy ?_
 refine Fc.nil (Z1 1 3 5 6 7 8 9 hf ?_)
 clear hf s1 s3 s5 s6 s7 s8 s9 EP bB;intro a7 hf sS
 refine Fc.j9 (Zx F5 (Zr [87,88] hf ?_))
 refine Z1 1 3 5 6 7 8 9 hf ?_
 intro a7 hf sS
 refine Fc.j7 ?_
 obtain ⟨s1,s3,s5,s6,s7,s8,s9⟩:=sS
 exact ⟨_,by have:=xQ.out;omega,k+1,rfl,oM,hf,s1,s3,s5,s6,s7,by rw [s8,HZS.out,HZV.out];simp,by rw [s9];rfl,rfl⟩)
 . (
 have q4:=hzv
 rw [hzv] at s8
 have HZV:=H9 hzv;clear hzv q4
 refine wp_skip (Zs F5 fun _ F5=>wp_block (rg ?_))
 have bB:=hf.eW 89 90 91 92 93 94 95 96 97 98
 iterate 11 refine Zy ?_
 refine Fc.nil (Z1 1 3 5 6 7 8 9 hf ?_)
 clear hf s1 s3 s5 s6 s7 s8 s9 EP bB;intro a7 hf sS
 refine Fc.j9 (Zx F5 (Zr [87,88] hf ?_))
 refine Z1 1 3 5 6 7 8 9 hf ?_
 intro a7 hf sS
 refine Fc.j7 ?_
 obtain ⟨s1,s3,s5,s6,s7,s8,s9⟩:=sS
 exact ⟨_,by have:=xQ.out;omega,k+1,rfl,oM,hf,s1,s3,s5,s6,s7,by rw [s8,HZS.out,HZV.out];simp,by rw [s9];rfl,rfl⟩))
 . (
 have iB:k=s.j4.length:=by have h9:=of_decide_eq_false C5;omega
 have MT:((s.final&&decide (s.out=0))||(s.j4.take k).any fun a=>decide (a.out=0))=zeroOf s:=by rw [iB,List.take_length];rfl
 obtain ⟨s1,s3,s5,s6,s7,s8,s9,EP⟩:=sS
 rw [MT] at s8
 clear iB C5 MT xQ aN
 refine Zo ?_
 refine Zs l8 fun _ l8=>Ze fun _ F5=>Zr [99] hf ?_
 refine F1 1 3 5 6 7 100 hf ?_
 clear hf s1 s3 s5 s6 s7 s8 s9 EP;intro a7 hf sS
 refine Zx F5 (Fc.l0 sS.2.2.2.2.2 (fun R0=> ?_) (fun R0=> ?_))
 . (
 have hzf:zeroOf s=false:=by simpa using R0
 clear R0
 have D5:F2 ss init=false:=by rw [NY.out,EM.out,Jv.out];rw [np.out];rw [hzf];rfl
 have J0:=H9 D5;clear D5
 refine Ze fun _ F5=>Zr [] hf ?_
 refine p5 2 hf ?_
 intro a7 hf s2
 refine Zx F5 (k8 ?_)
 exact Fc.o6 rfl hf s2 ⟨by rw [J0.out],N0⟩)
 . (
 have hzf:zeroOf s=true:=by simpa using R0
 clear R0
 have iR:N4 ss ord i s=decide (s∉ss.take i):=by rw [np.out,hzf];rfl
 have HG2:=H9 iR;clear iR hzf
 refine wp_skip (Zs l8 fun _ l8=>Zr [] hf ?_)
 refine F1 1 3 5 6 7 10 hf ?_
 intro a7 hf sS
 refine Zx l8 (wp_block (wp_loop_ghost (fun gk3 fr wr3=>∃ (k:Nat),gk3=i-k/\k<=i/\Fc.Fr 113 fr/\fr.tmps[1]? =some (.pointer (some ⟨w.heap.size,0,none⟩))/\fr.tmps[3]? =some (.int .i64 (ss.length-1:Nat))/\fr.tmps[5]? =some (.slice (some ⟨g,0,none⟩) ord.length co)/\fr.tmps[6]? =some (.int .i64 i)/\fr.tmps[7]? =some (.pointer (some ⟨wr.heap.size,0,none⟩))/\fr.tmps[10]? =some (.int .i64 k)/\s∉ss.take k/\Below W5.heap.size W5 wr3) (i) ?_ ?_))
 . (
 obtain ⟨s1,s3,s5,s6,s7,u4⟩:=sS
 exact ⟨0,rfl,Nat.zero_le _,hf,s1,s3,s5,s6,s7,u4,sP,Below.refl _ _⟩)
 . (
 clear hf sS
 rintro gk3 fr wr3 ⟨k,yJ,aN,hf,s1,s3,s5,s6,s7,u4,hn,C4⟩
 have HK3:=H9 yJ;have HN:=H9 hn;clear yJ hn
 replace x0:=cL C4 x0;replace x1:=cL C4 x1;replace x2:=cL C4 x2;replace e0:=cL C4 e0
 have ER:=X8.later C4
 have Jw:=mH.later C4
 refine Ze fun _ l8=>Ze fun _ F5=>Zr [101,102] hf ?_
 refine Z1 1 3 5 6 7 10 103 hf ?_
 clear hf s1 s3 s5 s6 s7 u4;intro a7 hf sS
 refine Zx F5 (Fc.l0 sS.2.2.2.2.2.2 (fun ES=> ?_) (fun ES=> ?_))
 . (
 have bC:k<i:=by have h9:=of_decide_eq_true ES;omega
 clear ES
 obtain ⟨t,uu⟩:∃ t,ss[k]? =some t:=⟨_,F8 oM⟩
 obtain ⟨b7,x5i,av7,ur,Jy⟩:=ER.at_ uu
 injection ur with ur
 injection ur with ur he8 _
 subst ur;subst he8
 have d0:=Jy.c0;have d1:=Jy.c1;have d2:=Jy.c2
 have bm:=Jy.j4
 obtain ⟨A7,c7,rfl,_⟩:=bm.form
 have x5h:=(HO.out t (T9 uu)).2.1
 have uq:s≠t->s∉ss.take (k+1):=fun F0=>by rw [List.take_add_one,uu];simp only [Option.toList_some,List.mem_append,List.mem_singleton];rintro (h | h);exact HN.out h;exact F0 h
 have MM:s=t->s∈ss.take i:=fun e=>by subst e;exact List.mem_iff_getElem?.2 ⟨k,by rw [List.getElem?_take,if_pos bC,uu]⟩
 have HNT:=H9 uq;have HIT:=H9 MM;clear uq MM uu Jy
 refine wp_skip (Zs l8 fun _ l8=>wp_block (Ze fun _ F5=> ?_))
 obtain ⟨s1,s3,s5,s6,s7,u4,z0d⟩:=sS
 refine Sb.tb 113 fun a6=> ?_
 have lf:=H9 fun (w9:World) (h9:Below _ _ w9)=>ad (cL h9 x0) (ad (cL h9 x1) (ad (cL h9 x2) (ad (cL h9 e0) (ad (cL h9 d0) (ad (cL h9 d1) (ad (cL h9 d2) (ad (Jw.later h9) (bm.later h9))))))))
 refine Sb.T 0 hf a6 ?_ (hF:=fun _ _ h d=>ad (Sb.O h s7) (lf.out _ h.ext))
 refine Sb.T 1 hf a6 ?_ (hF:=fun _ _ h d=>Sb.O h s1)
 refine Sb.T 2 hf a6 ?_ (hF:=fun _ _ h d=>lf.out _ h.ext)
 refine Sb.mO 3 u4 hf a6 ?_
 refine Sb.T 4 hf a6 ?_
 refine Sb.T 5 hf a6 ?_ (hF:=fun _ _ h d=>lf.out _ h.ext)
 apply Sb.tq 6 _ hf a6
 . (
 intro a7 w1 hh hd hk K Z
 have bj:=Sb.v 0 5 hd hk []
 have x5f:=Sb.v 5 0 hd hk []
 clear hd
 have L1:=lf.out _ hh.ext;(try clear x0 x1 x2 e0 d0 d1 d2 Jw bm);obtain ⟨x0,x1,x2,e0,d0,d1,d2,Jw,bm⟩:=L1
 go_simp
 go_at_call 122;refine (alike w1 s t _ _ Jw bm oM oM).mono ?_;rintro e w2 ⟨rfl,hb⟩
 exact Z.out _ rfl _ _ hb rfl)
 refine Sb.E hf a6 (fun _ _ h g=>ad (Sb.O h s1) (ad (Sb.O h s3) (ad (Sb.O h s5) (ad (Sb.O h s6) (ad (Sb.O h s7) (ad (Sb.O h u4) (Sb.f 6 0 g))))))) ?_
 clear hf a6 s1 s3 s5 s6 s7 u4 z0d;intro a7 w1 hf hx sS
 have L1:=lf.out _ hx;(try clear x0 x1 x2 e0 d0 d1 d2 Jw bm);clear lf;obtain ⟨x0,x1,x2,e0,d0,d1,d2,Jw,bm⟩:=L1
 refine Zx F5 (Fc.l0 sS.2.2.2.2.2.2 (fun yK=> ?_) (fun yK=> ?_))
 . (
 have B1:=C4.trans (hx.mono C4.size)
 have A8:=HIT.out (of_decide_eq_true yK)
 clear yK
 have D5:F2 ss init=false:=by rw [NY.out,EM.out,Jv.out];rw [HG2.out];rw [decide_eq_false (fun h=>h A8)];rfl
 have J0:=H9 D5;clear D5
 refine Ze fun _ F5=>Zr [] hf ?_
 refine p5 2 hf ?_
 intro a7 hf s2
 refine Zx F5 (k8 ?_)
 exact Fc.o6 rfl hf s2 ⟨by rw [J0.out],N0.trans (B1.mono (by have:=N0.size;omega))⟩)
 . (
 have B1:=C4.trans (hx.mono C4.size)
 have pP:=HNT.out (of_decide_eq_false yK)
 have bh:=H9 pP;clear pP yK
 refine wp_skip (Fc.j9 (Zx l8 (Zr [104,105] hf ?_)))
 refine F1 1 3 5 6 7 10 hf ?_
 intro a7 hf sS
 refine Fc.j7 ?_
 obtain ⟨s1,s3,s5,s6,s7,u4⟩:=sS
 exact ⟨_,by have:=HK3.out;omega,k+1,rfl,oM,hf,s1,s3,s5,s6,s7,by rw [u4];rfl,bh.out,B1⟩))
 . (
 have iB:k=i:=by have h9:=of_decide_eq_false ES;omega
 have lW:N4 ss ord i s=true:=by rw [HG2.out];exact decide_eq_true (by have:=HN.out;rwa [iB] at this)
 have HG3:=H9 lW;clear lW iB ES
 have JT:=hb.trans ((F3.trans (C4.mono F3.size)).mono hb.size)
 refine Zo ?_
 refine Fc.j9 (Zx j8 (Zr [51,52] hf ?_))
 refine z8 1 3 5 6 hf ?_
 intro a7 hf sS
 refine Fc.j7 ?_
 obtain ⟨s1,s3,s5,s6⟩:=sS
 exact ⟨_,by have:=HK.out;omega,i+1,rfl,oM,hf,s1,s3,s5,by rw [s6];rfl,by rw [EM.out,Jv.out,HG3.out];rfl,JT⟩))))))))
 . (
 have C3:i=ss.length:=qF
 have nM:=H9 C3;clear C3 hq
 refine Zo ?_
 refine Zs a8 fun _ a8=>Zr [] hf ?_
 refine p5 2 hf ?_
 intro a7 hf s2
 refine Zx a8 (k8 ?_)
 refine Fc.o6 rfl hf s2 ⟨?_,kU.trans (hb.mono (Nat.le_of_lt yH))⟩
 rw [NY.out,EM.out,nM.out,List.drop_length];rfl)))))
def bc (u:ByteArray) (N:Nat) (e:Wv):Wd:=⟨u++bl e.1,(N+e.2)%q9,decide (N+e.2<q9)⟩
theorem BN (N k:Nat):(N%q9+k)%q9=(N+k)%q9:=Nat.mod_add_mod N q9 k
theorem BP (N k:Nat):(decide (N<q9)&&decide (N%q9+k<q9))=decide (N+k<q9):=by
 by_cases h:N<q9
 ·rw [Nat.mod_eq_of_lt h,decide_eq_true h,Bool.true_and]
 ·rw [decide_eq_false h,decide_eq_false (show ¬ N+k<q9 by omega),Bool.false_and]
theorem Gq (st:State) (u:ByteArray) (N:Nat):eM st [] u (N%q9) (decide (N<q9))=(P0 st).map (bc u N):=by
 rw [rK,BN,BP]
 unfold P0
 cases st.final
 ·rfl
 ·show [_]=[(⟨u++bl [],(N+st.out)%q9,decide (N+st.out<q9)⟩:Wd)]
  rw [EJ,append_empty]
theorem NZ {ss:List State}:∀ (f k N:Nat) (u:ByteArray),walkS ss [] (f+1) k u (N%q9) (decide (N<q9))=(wds ss f k).map (bc u N):=by
 intro f
 induction f with
 | zero =>
  intro k N u
  cases hk:ss[k]? with
  | none=>rw [walkS,hk,wds,hk];simp
  | some st =>
   rw [gK hk,wds,hk,Gq]
   have:st.j4.flatMap (kN ss [] 0 u (N%q9) (decide (N<q9)))=[]:=by rw [List.flatMap_eq_nil_iff];intro a _;rfl
   rw [this,List.append_nil]
 | succ f ih =>
  intro k N u
  cases hk:ss[k]? with
  | none=>rw [walkS,hk,wds,hk];simp
  | some st =>
   rw [gK hk,Y6 hk,Gq,List.map_append,List.map_flatMap]
   refine congrArg (_ ++ ·) (U5 fun a _=> ?_)
   unfold kN
   rw [BN,BP,ih,List.map_map]
   refine List.map_congr_left fun e _=> ?_
   show (⟨u++bl [a.byte]++bl e.1,(N+a.out+e.2)%q9,decide (N+a.out+e.2<q9)⟩:Wd)=⟨u++bl (a.byte::e.1),(N+(a.out+e.2))%q9,decide (N+(a.out+e.2)<q9)⟩
   rw [Gi,append_assoc,Nat.add_assoc]
   rfl
theorem Na (u:ByteArray) (N:Nat) (e:Wv):pS (bc u N e)=decide (N+e.2<=4294967296):=by
 unfold pS bc
 by_cases h:N+e.2<q9
 ·simp only [Nat.mod_eq_of_lt h,decide_eq_true h,Bool.true_and]
 ·simp only [decide_eq_false h,Bool.false_and]
  rw [decide_eq_false]
  unfold q9 at h
  omega
theorem fT {ss:List State} {init:Nat} (hp:0<ss.length) (D7:init<q9):q7 ss init=(wds ss (ss.length-1) (ss.length-1)).map (bc ⟨#[]⟩ init):=by
 have h:=NZ (ss:=ss) (ss.length-1) (ss.length-1) init ⟨#[]⟩
 rw [Nat.mod_eq_of_lt D7,decide_eq_true D7,show ss.length-1+1=ss.length by omega] at h
 exact h
def Z4 (en init:Nat) (ss:List State):Option (List G9) :=
 if F2 ss init&&(q7 ss init).all pS&&decide ((q7 ss init).length=en)&&decide (1<=en)&&decide (aP ((q7 ss init).map eK)=0) then some ((q7 ss init).map eK) else none
theorem Jz {ss:List State} {st:State} {k:Nat} (hk:ss[k]? =some st) (hf:st.final=true):∀ m,([],st.out)∈wds ss m k:=by
 intro m
 cases m with
 | zero=>rw [wds,hk];simp [P0,hf]
 | succ m=>rw [Y6 hk];simp [P0,hf]
def kV (init:Nat) (e:Wv):G9:=eX (bl e.1) (init+e.2)
structure WdE (n init:Nat) (ss:List State) (es:List G9):Prop where
 len:es.length=n
 pos:0<n
 z0b:0<ss.length
 from_:∀ (z:ByteArray) (k:Nat),1<=k->Q1 ss init z k=(es.filter fun e=> !lexlt (wl e.word) (wl z)).take k
 get:∀ z,getV init ss z=((R5 es z).getD ⟨⟨#[]⟩,0,false⟩,(R5 es z).isSome)
theorem WdE.all {n init:Nat} {ss:List State} {es:List G9} (h:WdE n init ss es):Q1 ss init ⟨#[]⟩ n=es:=by
 have h2:=h.pos
 rw [h.from_ ⟨#[]⟩ n h2,List.filter_eq_self.2 (fun e _=>by
  show (!lexlt (wl e.word) [])=true
  rw [S8];rfl), <- h.len,List.take_length]
theorem BQ {SS:List State} (D6:∀ (k:Nat) (st:State),SS[k]? =some st->okArcs k (-1) st.j4=true):∀ (w:List Nat) (m k:Nat) (s:State),w.length<=m->SS[k]? =some s->valW SS k w=uN (wds SS m k) w
 | [],m,k,s,_,hs=>by
  obtain ⟨R,h1,hR⟩:∃ R,wds SS m k=P0 s++R/\∀ e∈R,e.1≠[]:=by
   cases m with
   | zero=>exact ⟨[],by simp only [wds,hs,List.append_nil],sP⟩
   | succ m=>exact ⟨_,Y6 hs m,fun e he=>by
     obtain ⟨b,u,h2,_⟩:=dZ (fun a=>wds SS m a.to.toNat) s.j4 k (-1) (D6 k s hs) e he
     rw [h2];simp⟩
  rw [h1,iT,kW hR]
  simp only [valW,hs]
  unfold P0
  cases s.final<;>rfl
 | b::w,0,k,s,h,_=>by simp at h
 | b::w,m+1,k,s,h,hs=>by
  have o9:=(H2 hs).1
  rw [Y6 hs,iT,kW (l:=P0 s),Option.none_or,BR (fun a=>wds SS m a.to.toNat) b w s.j4 k (-1) (D6 k s hs)]
  ·simp only [valW,hs]
   cases hf:s.j4.find? (fun a=>decide (a.byte=b)) with
   | none=>rfl
   | some a =>
    simp only
    have ht:=E9 (D6 k s hs) (List.mem_of_find?_eq_some hf)
    rw [BQ D6 w m a.to.toNat SS[a.to.toNat] (by simpa using h) (F8 oM)]
  ·intro e he
   unfold P0 at he
   split at he
   ·simp at he;subst he;simp
   ·cases he
theorem KA {ss:List State} (a6:∀ s∈ss,L3 s):∀ (m k:Nat),∀ e∈wds ss m k,∀ b∈e.1,b<256:=by
 intro m
 induction m with
 | zero =>
  intro k e he
  cases aB:ss[k]? with
  | none=>rw [wds,aB] at he;cases he
  | some st=>rw [wds,aB] at he;have he:e∈P0 st:=he;unfold P0 at he;split at he;simp at he;subst he;intro b hb;cases hb;cases he
 | succ m ih =>
  intro k e he
  cases aB:ss[k]? with
  | none=>rw [wds,aB] at he;cases he
  | some st =>
   rw [Y6 aB] at he
   rcases List.mem_append.1 he with he | he
   ·unfold P0 at he;split at he;simp at he;subst he;intro b hb;cases hb;cases he
   ·obtain ⟨a,ha,h2⟩:=List.mem_flatMap.1 he
    obtain ⟨y,hy,rfl⟩:=List.mem_map.1 h2
    intro b hb
    rcases List.mem_cons.1 (show b∈a.byte::y.1 from hb) with rfl | hb
    ·exact Gh a6 aB ha
    ·exact ih _ y hy b hb
theorem KB {n init:Nat} {ss:List State} (a6:∀ s∈ss,L3 s) (D7:init<q9) (h:rightS n ss init=true):∃ es,Z4 n init ss=some es/\WdE n init ss es:=by
  have ha:=fun j hj=>List.all_eq_true.1 h j (List.mem_range.2 hj)
  have a0:rightF ss init=true:=ha 0 oM
  have a1:yC ss n=true:=ha 1 oM
  have a2:decide (BB ss<=255)=true:=ha 2 oM
  have a3:(!kJ ss)=true:=ha 3 oM
  have a4:yB ss init=true:=ha 4 oM
  have hp:=bG (F6 a0)
  have D6:∀ (k:Nat) (st:State),ss[k]? =some st->okArcs k (-1) st.j4=true:=fun k st hk=>T1 (F6 a0) hk
  have hm:ss.length<=ss.length-1+1:=oM
  have Tt:=fT (init:=init) hp D7
  have Tv:=Gj D6 _ hm hp
  have Nb:=Tq D6 _ hm hp
  have ET:=br D6 _ hm hp
  have uo:=NU D6 (ss.length-1) (ss.length-1)
  have Mj:=KA a6 (ss.length-1) (ss.length-1)
  have hk:ss[ss.length-1]? =some (ss[ss.length-1]'(by omega)):=F8 oM
  have JZ:=fun z:ByteArray=>(BQ D6 (wl z) (ss.length-1+z.size) (ss.length-1) _ (by rw [o5];omega) hk).trans (by rw [BE D6 _ _ (ss.length-1) oM nR])
  have um:∀ e∈wds ss (ss.length-1) (ss.length-1),e.1≠[]:=by
    intro e he
    have hlf:(ss[ss.length-1]'(by omega)).final=false:=by
     have q9z:kJ ss=false:=by simpa using a3
     unfold kJ at q9z;rw [List.getLast?_eq_getElem?,hk] at q9z;simpa using q9z
    rw [BE D6 _ _ (ss.length-1+1) nR oM,Y6 hk] at he
    rcases List.mem_append.1 he with he | he
    . unfold P0 at he;rw [hlf] at he;cases he
    . exact nZ (fun a=>wds ss (ss.length-1) a.to.toNat) (fun a=>a.out) _ e he
  obtain ⟨W,hW⟩:∃ x,wds ss (ss.length-1) (ss.length-1)=x:=⟨_,rfl⟩
  rw [hW] at Tt Tv Nb ET uo Mj um
  simp only [hW] at JZ
  unfold yC at a1
  simp only [Bool.and_eq_true,decide_eq_true_eq] at a1 a2
  have hWn:W.length=n/\0<n:=oM
  unfold yB at a4
  simp only [Bool.and_eq_true,decide_eq_true_eq] at a4
  obtain ⟨g1,⟨g2,g3⟩,g4⟩:=a4
  rw [Nat.mod_eq_of_lt g3] at g4
  have uP:∀ e∈W,init+e.2<=4294967296:=fun e he=>by have:=ET g2 e he;omega
  have XD:∀ e∈W,wl (bl e.1)=e.1:=fun e he=>aL (Mj e he)
  have ba:∀ e∈W,(kV init e).word=bl e.1:=fun e he=>(yG (uP e he)).2
  have Nc:∀ x∈W.map (kV init),okW x.word=true:=fun x hx=>by
    obtain ⟨e,he,rfl⟩:=List.mem_map.1 hx
    have h1:(bl e.1).size=e.1.length:=by rw [<- o5,XD e he]
    have h2:=Nb e he
    have h3:e.1.length≠0:=fun h0=>um e he (List.length_eq_zero_iff.1 h0)
    rw [ba e he,Dx,decide_eq_true (show 1<=(bl e.1).size by omega),decide_eq_true (show (bl e.1).size<=255 by omega)]
    rfl
  have kQ:XL (W.map (kV init)):=List.pairwise_map.2 (uo.imp_of_mem fun {x y} hx hy mf=>by
    show lexlt (wl (kV init x).word) (wl (kV init y).word)=true
    rw [ba x hx,ba y hy,XD x hx,XD y hy]
    exact mf)
  have h0:aP (W.map (kV init))=0:=BS _ _ Nc kQ (fun q hq=>by cases hq)
  have uK:(q7 ss init).map eK=W.map (kV init):=by
    rw [Tt,List.map_map]
    refine List.map_congr_left fun e he=> ?_
    show eX (⟨#[]⟩++bl e.1) ((init+e.2)%q9)=eX (bl e.1) (init+e.2)
    rw [empty_append,Nat.mod_eq_of_lt (by have:=uP e he;unfold q9;omega)]
  have Z7:(q7 ss init).all pS=true:=List.all_eq_true.2 fun x hx=>by
    rw [Tt] at hx
    obtain ⟨e,he,rfl⟩:=List.mem_map.1 hx
    rw [Na]
    exact decide_eq_true (uP e he)
  have KD:(q7 ss init).length=n:=by rw [Tt,List.length_map];exact hWn.1
  refine ⟨W.map (kV init),?_,by rw [List.length_map];exact hWn.1,hWn.2,hp,fun z k cZ=> ?_,fun z=> ?_⟩
  . unfold Z4
    rw [uK, <- vE,a0,Z7,decide_eq_true KD,decide_eq_true (show 1<=n from hWn.2),decide_eq_true h0]
    rfl
  . unfold Q1
    rw [if_neg (by omega),Int.toNat_natCast]
    have hw:=NL a6 (wl z) (ss.length-1) (ss.length-1) init ⟨#[]⟩ (by rw [hW];exact uP)
    rw [show ss.length-1+1=ss.length by omega,hW] at hw
    rw [hw]
    unfold bL
    rw [List.filter_eq_self.2 (fun x hx=>by
      obtain ⟨e,he,rfl⟩:=List.mem_map.1 hx
      unfold pS
      rw [Bool.true_and]
      exact decide_eq_true (uP e (List.mem_filter.1 he).1)),List.map_map,List.filter_map]
    refine congrArg (List.take k) ?_
    rw [show W.filter ((fun e=> !lexlt (wl e.word) (wl z))∘kV init)=W.filter (fun e=> !lexlt (wl (⟨#[]⟩:ByteArray)++e.1) (wl z)) from List.filter_congr fun e he=>by
      show (!lexlt (wl (kV init e).word) (wl z))=_
      rw [ba e he,XD e he];rfl]
    refine List.map_congr_left fun e _=> ?_
    show eX (⟨#[]⟩++bl e.1) (init+e.2)=eX (bl e.1) (init+e.2)
    rw [empty_append]
  . have hf:(R5 (W.map (kV init)) z).map bA=(uN W (wl z)).map (init + ·):=by
      rw [<- Tw,List.map_map,show W.map (lQ∘kV init)=W.map (XH init) from List.map_congr_left fun e he=>by
        show lQ (eX (bl e.1) (init+e.2))=(e.1,init+e.2)
        rw [(yG (uP e he)).1,XD e he]]
      unfold uN
      rw [List.find?_map,show ((fun e:Wv=>decide (e.1=wl z))∘XH init)=fun e=>decide (e.1=wl z) from rfl]
      cases W.find? (fun e=>decide (e.1=wl z))<;>rfl
    have hv:=JZ z
    unfold getV uL
    cases hq:R5 (W.map (kV init)) z with
    | none =>
      rw [hq] at hf
      have hl:uN W (wl z)=none:=by
        cases hz:uN W (wl z) with
        | none=>rfl
        | some v=>rw [hz] at hf;cases hf
      rw [BH D6 _ _ _ (hv.trans hl)]
      rfl
    | some x =>
      rw [hq] at hf
      obtain ⟨v,hl,hxv⟩:∃ v,uN W (wl z)=some v/\bA x=init+v:=by
        cases hz:uN W (wl z) with
        | none=>rw [hz] at hf;cases hf
        | some v=>rw [hz] at hf;injection hf with hf;exact ⟨v,rfl,hf⟩
      have MP:x∈W.map (kV init):=List.mem_of_find?_eq_some hq
      have hxw:x.word=z:=by
        unfold R5 at hq
        have hq:=List.find?_some hq
        simpa using hq
      obtain ⟨e,_,he⟩:=List.mem_map.1 MP
      have XM:BT x:=he▸BU _ _
      have o9:=xP XM.1
      rw [BJ D6 _ _ _ _ (hv.trans hl) oM, <- hxv]
      show (eX z (bA x),AD (bA x))=(x,true)
      rw [<- hxw,cx XM]
      unfold AD
      rw [decide_eq_false oM]
      rfl
theorem Nd {n init:Nat} {ss:List State} (D7:init<q9) (N6:(q7 ss init).length<=40000) (h:rightS n ss init=false):Z4 n init ss=none:=by
 unfold Z4
 rw [if_neg]
 intro h9
 simp only [Bool.and_eq_true,decide_eq_true_eq] at h9
 obtain ⟨⟨⟨⟨b0,b1⟩,b2⟩,b3⟩,b4⟩:=h9
 rw [<- vE] at b0
 have hp:=bG (F6 b0)
 have D6:∀ (k:Nat) (st:State),ss[k]? =some st->okArcs k (-1) st.j4=true:=fun k st hk=>T1 (F6 b0) hk
 have hm:ss.length<=ss.length-1+1:=oM
 have Tt:=fT hp D7
 have Tv:=Gj D6 _ hm hp
 have Nb:=Te D6 _ hm hp
 have ET:=au D6 _ hm hp
 obtain ⟨W,hW⟩:∃ x,wds ss (ss.length-1) (ss.length-1)=x:=⟨_,rfl⟩
 rw [Tt] at b1 b2 b4 N6
 have tT:W.length=n:=by rw [<- hW, <- b2,List.length_map]
 have uP:∀ e∈W,init+e.2<=4294967296:=fun e he=>by
  have h2:=List.all_eq_true.1 b1 _ (List.mem_map_of_mem (by rw [hW];exact he))
  rw [Na] at h2
  exact of_decide_eq_true h2
 have a6:∀ e∈W,okW (bl e.1)=true:=fun e he=>by
  have h2:=(pT _ none b4).1 _ (List.mem_map_of_mem (List.mem_map_of_mem (by rw [hW];exact he)))
  have h3:(eK (bc ⟨#[]⟩ init e)).word=bl e.1:=by
   have h4:=uP e he
   have h5:(bc ⟨#[]⟩ init e).n=init+e.2:=Nat.mod_eq_of_lt (by unfold q9;omega)
   unfold eK
   rw [h5,(yG h4).2]
   exact empty_append _
  rwa [h3] at h2
 have h40:n<=40000:=by rw [<- b2];exact N6
 rw [hW] at Tv Nb ET
 refine Bool.noConfusion (h.symm.trans (rA fun j hj=> ?_))
 match j,hj with
 | 0,_=>exact b0
 | 1,_ =>
  show yC _ _=true
  unfold yC
  rw [Tv,tT]
  simp
  omega
 | 2,_ =>
  refine decide_eq_true ?_
  rcases Nb with h1 | ⟨e,he,h1⟩
  ·omega
  ·have:=rL (a6 e he)
   rw [N7] at this
   omega
 | 3,_ =>
  show (!kJ _)=true
  have hk:ss[ss.length-1]? =some (ss[ss.length-1]'(by omega)):=F8 oM
  unfold kJ
  rw [List.getLast?_eq_getElem?,hk]
  show (!(ss[ss.length-1]'(by omega)).final)=true
  cases hf:(ss[ss.length-1]'(by omega)).final with
  | false=>rfl
  | true =>
   exfalso
   have h1:=Jz hk hf (ss.length-1)
   rw [hW] at h1
   have h2:=Tf (a6 _ h1)
   rw [N7] at h2
   simp at h2
 | 4,_ =>
  show yB _ _=true
  have hg:=ET (fun e he=>by have:=uP e he;omega)
  have ha:(Gb ss).any=true:=by
   rw [hg.1]
   cases W with
   | nil=>simp at tT;omega
   | cons=>rfl
  obtain ⟨hf,e,he,hn⟩:=hg.2 ha
  have hs:=uP e he
  unfold yB
  rw [ha,hf,hn,Nat.mod_eq_of_lt (by unfold q9;omega),decide_eq_true (by unfold q9;omega),decide_eq_true oM]
  rfl
 | n+5,hj=>omega
theorem BV {α β:Type} {f:α->List β} {B:Nat}:∀ {l:List α},(∀ a∈l,(f a).length<=B)->(l.flatMap f).length<=l.length*B
 | [],_=>by simp
 | a::l,h=>by
  have h1:=BV (l:=l) fun x hx=>h x (List.mem_cons_of_mem _ hx)
  have h2:=h a (List.mem_cons_self ..)
  rw [List.flatMap_cons,List.length_append,List.length_cons,Nat.add_mul]
  omega
theorem Gr (st:State):(P0 st).length<=1:=by
 unfold P0
 split<;>simp
theorem Tx {ss:List State} (D6:∀ (k:Nat) (st:State),ss[k]? =some st->okArcs k (-1) st.j4=true) (h3:∀ (k:Nat) (st:State),ss[k]? =some st->st.j4.length<=3):∀ (f k:Nat),(wds ss f k).length<=4^k:=by
 intro f
 induction f with
 | zero =>
  intro k
  have hp:1<=4^k:=Nat.one_le_pow _ _ dC
  cases hk:ss[k]? with
  | none=>rw [wds,hk];exact Nat.zero_le _
  | some st=>rw [wds,hk];exact Nat.le_trans (Gr st) hp
 | succ f ih =>
  intro k
  have hp:1<=4^k:=Nat.one_le_pow _ _ dC
  cases hk:ss[k]? with
  | none=>rw [wds,hk];exact Nat.zero_le _
  | some st =>
   rw [Y6 hk,List.length_append]
   have h1:=Gr st
   have h9:=h3 k st hk
   cases k with
   | zero =>
    have:st.j4=[]:=by
     cases hc:st.j4 with
     | nil=>rfl
     | cons a l=>have:=E9 (D6 _ _ hk) (a:=a) (by rw [hc];exact List.mem_cons_self ..);omega
    rw [this]
    simpa using h1
   | succ j =>
    have h2:=BV (f:=fun a=>(wds ss f a.to.toNat).map (shift a.byte a.out)) (B:=4^j) (l:=st.j4) fun a ha=>by
     rw [List.length_map]
     have ht:=E9 (D6 _ _ hk) ha
     exact Nat.le_trans (ih a.to.toNat) (Nat.pow_le_pow_right dC oM)
    have h4:st.j4.length*4^j<=3*4^j:=Nat.mul_le_mul_right _ h9
    have h5:1<=4^j:=Nat.one_le_pow _ _ dC
    rw [Nat.pow_succ]
    omega
theorem KF {ss:List State} {init:Nat} (D7:init<q9) (h7:ss.length<=7) (D6:∀ (k:Nat) (st:State),ss[k]? =some st->okArcs k (-1) st.j4=true) (h3:∀ (k:Nat) (st:State),ss[k]? =some st->st.j4.length<=3):(q7 ss init).length<=4096:=by
 rcases Nat.eq_zero_or_pos ss.length with h0 | hp
 ·unfold q7
  rw [h0]
  exact Nat.zero_le _
 ·rw [fT hp D7,List.length_map]
  exact Nat.le_trans (Tx D6 h3 _ _) (Nat.le_trans (Nat.pow_le_pow_right dC (show ss.length-1<=6 by omega)) dC)
end Dw
namespace Crc
def bitsRun (n c:Nat):Nat->Nat
 | 0=>n
 | k+1=>bit (bitsRun n c k) (c / 2^k%2)
theorem Nf (n c:Nat):bitsRun n c 8=byte n c:=by
 simp only [bitsRun,byte,Nat.pow_zero,Nat.div_one,Nat.reducePow]
theorem ct {n b:Nat} (hn:n<4294967296):bit n b<4294967296:=by
 unfold bit
 split
 ·omega
 ·exact Nat.xor_lt_two_pow (n:=32) oM dC
end Crc
namespace Dw
theorem Gs (w:World) (n:Nat) (hn:n<4294967296):Calls Tryz.prog 158 #[.int .u32 n] w fun e w1=>e= .returned (.int .u32 (4294967295-n:Nat))/\w1=w:=by
 refine L7 5 Tryz.func158 fun fr hf s0=> ?_
 refine Ze fun _ a8=>Zr [] hf ?_
 refine p5 0 hf ?_
 clear hf s0;intro a7 hf s0
 refine Zt a8 fun _ a8=> ?_
 have bB:=hf.B2 3 4
 refine Zy ?_
 refine fp fun K Z=> ?_
 go_simp
 try simp (disch:=omega) only [Fc.W]
 rw [show (4294967295:Int)-((n:Nat):Int)=((4294967295-n:Nat):Int) by omega]
 apply Z.out;clear Z K
 refine Zy ?_
 refine Fc.nil (p5 2 hf ?_)
 clear hf s0 bB;intro a7 hf s2
 refine Zx a8 (k8 ?_)
 exact Fc.o6 rfl hf s2 ⟨rfl,rfl⟩
theorem y9z (w:World) (n b:Nat) (hn:n<4294967296) (hb:b<2):Calls Tryz.prog 159 #[.int .u32 n,.int .u32 b] w fun e w1=>e= .returned (.int .u32 (Crc.bit n b:Nat))/\w1=w:=by
 refine Z6 16 Tryz.func159 fun fr hf s0 s1=> ?_
 obtain ⟨r,hr⟩:∃ x,n%2=x:=⟨_,rfl⟩
 obtain ⟨h,hh⟩:∃ x,n / 2=x:=⟨_,rfl⟩
 have y9y:h<4294967296:=oM
 have HR:=H9 hr;have HH:=H9 hh;clear hr hh
 by_cases cm:r=b
 . (
 have HB:=H9 cm;clear cm
 have q1:((r:Int) !=(b:Int))=false:=by have:=HB.out;simp;omega
 refine Ze fun _ a8=>Zr [] hf ?_
 refine y4 0 1 hf ?_
 clear hf s0 s1;intro a7 hf sS
 refine Zt a8 fun _ a8=> ?_
 have bB:=hf.B4 6 7 8 9
 refine Zy ?_
 refine fp fun K Z=> ?_
 go_simp
 rw [show ((n:Nat):Int).tmod 2=((r:Nat):Int) by rw [Int.tmod_eq_emod_of_nonneg oM];have:=HR.out;omega]
 apply Z.out;clear Z K
 refine Zy ?_
 refine fp fun K Z=> ?_
 go_simp
 try rw [q1]
 apply Z.out;clear Z K
 refine Zy ?_
 refine Fc.nil (y4 0 5 hf ?_)
 intro a7 hf sS
 refine Zt a8 fun _ a8=> ?_
 have bB:=hf.B2 10 11
 refine Zy ?_
 refine fp fun K Z=> ?_
 go_simp
 rw [show ((n:Nat):Int) / 2=((h:Nat):Int) by have:=HH.out;omega,Fc.wrap_u32 oM oM]
 apply Z.out;clear Z K
 refine Zy ?_
 refine Fc.nil (y4 0 5 hf ?_)
 intro a7 hf sS
 refine Zs a8 fun _ a8=>Ze fun _ j8=>Zr [] hf ?_
 refine y4 0 12 hf ?_
 intro a7 hf sS
 refine Zx j8 (Fc.k9 sS.2 ?_)
 refine wp_skip (Zs a8 fun _ a8=>Zr [15] hf ?_)
 refine p5 4 hf ?_
 intro a7 hf s4
 refine Zx a8 (k8 ?_)
 refine Fc.o6 rfl hf s4 ⟨?_,rfl⟩
 unfold Crc.bit
 rw [HR.out,HH.out,if_pos HB.out])
 . (
 have HB:=H9 cm;clear cm
 have q1:((r:Int) !=(b:Int))=true:=by have:=HB.out;simp;omega
 refine Ze fun _ a8=>Zr [] hf ?_
 refine y4 0 1 hf ?_
 clear hf s0 s1;intro a7 hf sS
 refine Zt a8 fun _ a8=> ?_
 have bB:=hf.B4 6 7 8 9
 refine Zy ?_
 refine fp fun K Z=> ?_
 go_simp
 rw [show ((n:Nat):Int).tmod 2=((r:Nat):Int) by rw [Int.tmod_eq_emod_of_nonneg oM];have:=HR.out;omega]
 apply Z.out;clear Z K
 refine Zy ?_
 refine fp fun K Z=> ?_
 go_simp
 try rw [q1]
 apply Z.out;clear Z K
 refine Zy ?_
 refine Fc.nil (y4 0 5 hf ?_)
 intro a7 hf sS
 refine Zt a8 fun _ a8=> ?_
 have bB:=hf.B2 10 11
 refine Zy ?_
 refine fp fun K Z=> ?_
 go_simp
 rw [show ((n:Nat):Int) / 2=((h:Nat):Int) by have:=HH.out;omega,Fc.wrap_u32 oM oM]
 apply Z.out;clear Z K
 refine Zy ?_
 refine Fc.nil (y4 0 5 hf ?_)
 intro a7 hf sS
 refine Zs a8 fun _ a8=>Ze fun _ j8=>Zr [] hf ?_
 refine y4 0 12 hf ?_
 intro a7 hf sS
 refine Zx j8 (Fc.l7 sS.2 ?_)
 refine rg ?_
 have bB:=hf.B2 13 14
 refine Zy ?_
 refine fp fun K Z=> ?_
 go_simp
 rw [show (3988292384:Int)=((3988292384:Nat):Int) from rfl,u32_xor_nat h 3988292384 y9y dC]
 apply Z.out;clear Z K
 refine Zy ?_
 refine Fc.nil (p5 0 hf ?_)
 intro a7 hf s0
 refine Zs a8 fun _ a8=>Zr [15] hf ?_
 refine p5 4 hf ?_
 clear hf s0;intro a7 hf s4
 refine Zx a8 (k8 ?_)
 refine Fc.o6 rfl hf s4 ⟨?_,rfl⟩
 unfold Crc.bit
 rw [HR.out,HH.out,if_neg HB.out];rfl)
theorem uk (w:World) (s:ByteArray) (C8:s.size<=1000000000):Calls Tryz.prog 144 #[.string s] w fun e w1=>e= .returned (.int .u32 (Crc.sum (wl s):Nat))/\w1=w:=by
 refine L7 30 Tryz.func144 fun fr hf s0=> ?_
 refine Ze fun _ a8=>Zr [] hf ?_
 refine p5 0 hf ?_
 clear hf s0;intro a7 hf s0
 refine Zt a8 fun _ a8=> ?_
 have bB:=hf.b 7
 refine Zc (Gs w 0 dC) ?_;rintro e w1 ⟨rfl,Sa⟩
 subst w1
 refine Zv ?_
 refine Zy ?_
 refine Fc.nil (y4 0 3 hf ?_)
 clear hf s0 bB;intro a7 hf sS
 refine Zs a8 fun _ a8=>Ze fun _ j8=>Zr [] hf ?_
 refine y7 0 3 4 hf ?_
 intro a7 hf sS
 refine Zx j8 (wp_block (wp_loop_ghost (fun gk fr wr=>∃ (i m:Nat),gk=s.size-i/\i<=s.size/\Fc.Fr 30 fr/\fr.tmps[0]? =some (.string s)/\fr.tmps[3]? =some (.int .u32 m)/\fr.tmps[4]? =some (.int .i64 i)/\m=Crc.run 4294967295 ((wl s).take i)/\m<4294967296/\w=wr) (s.size) ?_ ?_))
 . (
 obtain ⟨s0,s3,s4⟩:=sS
 exact ⟨0,4294967295,rfl,Nat.zero_le _,hf,s0,s3,s4,rfl,dC,rfl⟩)
 . (
 clear hf sS
 rintro gk fr wr ⟨i,m,hk,hi,hf,s0,s3,s4,hm,BW,hw⟩
 subst wr
 have HK:=H9 hk;have HM:=H9 hm;clear hk hm
 refine Ze fun _ j8=>Ze fun _ l8=>Zr [8,9,10] hf ?_
 refine z8 0 3 4 11 hf ?_
 clear hf s0 s3 s4;intro a7 hf sS
 refine Zx l8 (Fc.l0 sS.2.2.2 (fun hq=> ?_) (fun hq=> ?_))
 . (
 have o9:i<s.size:=qT
 clear hq
 obtain ⟨c,hc⟩:∃ c,at_ s i=c:=⟨_,rfl⟩
 have Ty:c<256:=by rw [<- hc];exact qM s i
 have A8:Crc.run 4294967295 ((wl s).take (i+1))=Crc.byte m c:=by rw [List.take_add_one,aZ o9,Option.toList_some,hc];unfold Crc.run at *;rw [List.foldl_append, <- HM.out];rfl
 have uQ:s[i].toNat=c:=by rw [<- hc];exact (aY o9).symm
 have L4:=H9 A8;have HC:=H9 hc;clear A8 hc
 refine wp_skip (Zs j8 fun _ j8=>wp_block (Ze fun _ l8=>rg ?_))
 have bB:=hf.B4 14 15 16 17
 iterate 2 refine Zy ?_
 refine fp fun K Z=> ?_
 go_simp
 try rw [if_pos o9]
 try rw [uQ]
 apply Z.out;clear Z K
 refine fp fun K Z=> ?_
 go_simp
 try rw [Fc.wrap_u32 oM oM]
 apply Z.out;clear Z K
 refine Zy ?_
 refine Fc.nil (z8 0 3 4 5 hf ?_)
 intro a7 hf sS
 refine Zs l8 fun _ l8=>Zr [] hf ?_
 refine D2 0 3 4 5 6 hf ?_
 intro a7 hf sS
 refine Zx l8 (wp_block (wp_loop_ghost (fun lR fr w2=>∃ (k m2 c2:Nat),lR=8-k/\k<=8/\Fc.Fr 30 fr/\fr.tmps[0]? =some (.string s)/\fr.tmps[3]? =some (.int .u32 m2)/\fr.tmps[4]? =some (.int .i64 i)/\fr.tmps[5]? =some (.int .u32 c2)/\fr.tmps[6]? =some (.int .i64 k)/\m2=Crc.bitsRun m c k/\c2=c / 2^k/\m2<4294967296/\w=w2) (8) ?_ ?_))
 . (
 obtain ⟨s0,s3,s4,s5,s6⟩:=sS
 exact ⟨0,_,_,rfl,Nat.zero_le _,hf,s0,s3,s4,s5,s6,rfl,sP,BW,rfl⟩)
 . (
 clear hf sS
 rintro lR fr w2 ⟨k,m2,c2,M9,Tz,hf,s0,s3,s4,s5,s6,lX,uG,rM,EU⟩
 subst w2
 have xQ:=H9 M9;have jU:=H9 lX;have KG:=H9 uG;clear M9 lX uG
 have y0n:c2<256:=by rw [KG.out];exact Nat.lt_of_le_of_lt (Nat.div_le_self _ _) Ty
 refine Ze fun _ l8=>Ze fun _ F5=>Zr [18] hf ?_
 refine F1 0 3 4 5 6 19 hf ?_
 clear hf s0 s3 s4 s5 s6;intro a7 hf sS
 refine Zx F5 (Fc.l0 sS.2.2.2.2.2 (fun C5=> ?_) (fun C5=> ?_))
 . (
 have bC:k<8:=by have h9:=of_decide_eq_true C5;omega
 clear C5
 obtain ⟨r,hr⟩:∃ x,c2%2=x:=⟨_,rfl⟩
 obtain ⟨h,hh⟩:∃ x,c2 / 2=x:=⟨_,rfl⟩
 have R1:r<2:=oM
 have y0m:h<256:=oM
 have HR:=H9 hr;have HH:=H9 hh;clear hr hh
 refine wp_skip (Zs l8 fun _ l8=>wp_block (Ze fun _ F5=>rg ?_))
 have bB:=hf.B4 22 23 24 25
 iterate 2 refine Zy ?_
 refine fp fun K Z=> ?_
 go_simp
 rw [show ((c2:Nat):Int).tmod 2=((r:Nat):Int) by rw [Int.tmod_eq_emod_of_nonneg oM];have:=HR.out;omega]
 apply Z.out;clear Z K
 refine Zc (y9z w m2 r rM R1) ?_;rintro e w3 ⟨rfl,Sa⟩
 subst w3
 generalize Ng:Crc.bit m2 r=m3
 have uj:m3<4294967296:=by rw [<- Ng];exact Crc.ct rM
 have kX:=H9 Ng;clear Ng
 refine Zv ?_
 refine Zy ?_
 refine Fc.nil (D2 0 3 4 5 6 hf ?_)
 intro a7 hf sS
 refine Zx F5 (rg ?_)
 have bB:=hf.B2 26 27
 refine Zy ?_
 refine fp fun K Z=> ?_
 go_simp
 rw [show ((c2:Nat):Int) / 2=((h:Nat):Int) by have:=HH.out;omega,Fc.wrap_u32 oM oM]
 apply Z.out;clear Z K
 refine Zy ?_
 refine Fc.nil (D2 0 3 4 5 6 hf ?_)
 intro a7 hf sS
 refine Fc.j9 (Zx l8 (Zr [20,21] hf ?_))
 refine D2 0 3 4 5 6 hf ?_
 intro a7 hf sS
 refine Fc.j7 ?_
 obtain ⟨s0,s3,s4,s5,s6⟩:=sS
 exact ⟨_,by have:=xQ.out;omega,k+1,m3,h,rfl,oM,hf,s0,s3,s4,s5,by rw [s6];rfl,by rw [<- kX.out, <- HR.out,jU.out,KG.out];rfl,by rw [<- HH.out,KG.out,Nat.div_div_eq_div_mul,Nat.pow_succ],uj,rfl⟩)
 . (
 have iB:k=8:=by have h9:=of_decide_eq_false C5;omega
 have Sc:m2=Crc.byte m c:=by rw [jU.out,iB];exact Crc.Nf m c
 have HM8:=H9 Sc;clear Sc iB C5
 refine Zo ?_
 refine Fc.j9 (Zx j8 (Zr [12,13] hf ?_))
 refine y7 0 3 4 hf ?_
 intro a7 hf sS
 refine Fc.j7 ?_
 obtain ⟨s0,s3,s4⟩:=sS
 exact ⟨_,by have:=HK.out;omega,i+1,m2,rfl,oM,hf,s0,s3,by rw [s4];rfl,by rw [HM8.out, <- L4.out],rM,rfl⟩)))
 . (
 have C3:i=s.size:=qF
 have XN:m=Crc.run 4294967295 (wl s):=by have h9:=HM.out;rwa [C3,List.take_of_length_le (by rw [o5];omega)] at h9
 have ui:=H9 XN;clear XN C3 hq
 refine Zo ?_
 refine Zt a8 fun _ a8=> ?_
 have bB:=hf.B2 28 29
 refine Zy ?_
 refine Zc (Gs w m BW) ?_;rintro e w1 ⟨rfl,Sa⟩
 subst w1
 refine Zv ?_
 refine Zy ?_
 refine Fc.nil (p5 2 hf ?_)
 intro a7 hf s2
 refine Zx a8 (k8 ?_)
 exact Fc.o6 rfl hf s2 ⟨by unfold Crc.sum;rw [ui.out],rfl⟩))
theorem rN {w:World} {g:Nat} {x y:Value} {t:TypeId} (h:w.heap[g]? =some (.cells #[x,y] t (0,0))) (x' y':Value):((w.setCell ⟨g,0,none⟩ x').setCell ⟨g,1,none⟩ y').heap[g]? =some (.cells #[x',y'] t (0,0)) :=
 (k7 (i:=1) (cs:= #[x',y]) (t:=t) (fr:=(0,0)) ((k7 (i:=0) (cs:= #[x,y]) (t:=t) (fr:=(0,0)) h x').trans sP) y').trans sP
theorem Gt {w:World} {g:Nat} {x y z:Value} {t:TypeId} (h:w.heap[g]? =some (.cells #[x,y,z] t (0,0))) (z':Value):(w.setCell ⟨g,2,none⟩ z').heap[g]? =some (.cells #[x,y,z'] t (0,0)) :=
 (k7 (i:=2) (cs:= #[x,y,z]) (t:=t) (fr:=(0,0)) h z').trans sP
theorem XP {w:World} {g:Nat} {x y z:Value} {t:TypeId} (h:w.heap[g]? =some (.cells #[x,y,z] t (0,0))) (x':Value):(w.setCell ⟨g,0,none⟩ x').heap[g]? =some (.cells #[x',y,z] t (0,0)) :=
 (k7 (i:=0) (cs:= #[x,y,z]) (t:=t) (fr:=(0,0)) h x').trans sP
theorem Nh {w:World} {g:Nat} {x y:Value} {t:TypeId} (h:w.heap[g]? =some (.cells #[x,y] t (0,0))) (x':Value):(w.setCell ⟨g,0,none⟩ x').heap[g]? =some (.cells #[x',y] t (0,0)) :=
 (k7 (i:=0) (cs:= #[x,y]) (t:=t) (fr:=(0,0)) h x').trans sP
theorem SR.app {w1 w3:World} {base B4:Nat} {C:Nat->Prop} {V v3 NV:Value} {l:List (Value×State)} {st:State} (eA:SR w1 base C V l) (S1:OA w1 B4 NV st.j4) (hnv:∀ k,NV.ownBlock=some k->V.ownBlock≠some k) (hCV:∀ k,C k->V.ownBlock≠some k) (hg:w1.grownBy w3 V.ownBlock) (hr:w3.ownsRow base 46 3 v3 (l.length+1) (Sd l++[NV,.bool st.final,.int .u64 st.out])):SR w3 base (fun k=>C k\/NV.ownBlock=some k) v3 (l++[(NV,st)]):=by
 have AE:n4 (fun k=>V.ownBlock=some k) w1 w3:=n4.grown hg (fun k hk=>hk)
 refine ⟨by rw [List.length_append,rP];exact hr,fun x hx=> ?_⟩
 rcases List.mem_append.1 hx with hx | hx
 ·exact ((eA.j4 x hx).but AE (fun k hk h=>hCV k hk h)).more (fun k _ hk=> .inl hk)
 ·simp at hx
  subst hx
  exact ((S1.ra (B:=fun k=>NV.ownBlock=some k) (fun k hk=>hk)).but AE (fun k hk h=>hnv k hk h)).more (fun k _ hk=> .inr hk)
def KH (i:Nat) (t:Int):Int:=(t.tmod (i:Int)+(i:Int)).tmod (i:Int)
theorem dz {i:Nat} (hi:0<i) (t:Int):0<=KH i t/\KH i t<(i:Int):=by
 have h1: -(i:Int)<t.tmod i:=Int.lt_tmod_of_pos _ oM
 have h2:t.tmod i<(i:Int):=Int.tmod_lt_of_pos _ oM
 unfold KH
 rw [Int.tmod_eq_emod_of_nonneg oM]
 exact ⟨Int.emod_nonneg _ oM,Int.emod_lt_of_pos _ oM⟩
def eP (i:Nat) (acc:List u3) (a:u3):List u3:=if (∀ b∈acc.getLast?,b.byte<a.byte) then acc++[⟨a.byte,a.out,KH i a.to⟩] else acc
def T3 (i:Nat) (l:List u3):List u3:=l.foldl (eP i) []
def eY (i:Nat) (s:State):State:=⟨s.final,if s.final then s.out else 0,if i=0 then [] else T3 i (s.j4.take 3)⟩
def drawL:Nat->List State->List State
 | _,[]=>[]
 | i,s::l=>eY i s::drawL (i+1) l
def rQ (ss:List State):List State:=drawL 0 (ss.take 7)
theorem kY:∀ (a b:List State) (i:Nat),drawL i (a++b)=drawL i a++drawL (i+a.length) b
 | [],b,i=>by simp [drawL]
 | x::a,b,i=>by simp only [List.cons_append,drawL,List.length_cons];rw [kY a b (i+1),show i+1+a.length=i+(a.length+1) by omega]
theorem EV {l:List State} {i:Nat} {s:State} (h:l[i]? =some s):drawL 0 (l.take (i+1))=drawL 0 (l.take i)++[eY i s]:=by
 have hl:=(H2 h).1
 rw [List.take_add_one,h,kY]
 simp only [Option.toList,drawL,Nat.zero_add,List.length_take]
 rw [Nat.min_eq_left oM]
theorem U7:∀ (l:List State) (i:Nat),(drawL i l).length=l.length
 | [],_=>rfl
 | x::l,i=>by simp [drawL,U7 l]
theorem vZ:∀ (l:List State) (i k:Nat) (st:State),(drawL i l)[k]? =some st->∃ s,l[k]? =some s/\st=eY (i+k) s
 | [],_,k,st,h=>by simp [drawL] at h
 | x::l,i,k,st,h=>by
  cases k with
  | zero=>simp [drawL] at h;exact ⟨x,rfl,h.symm⟩
  | succ k =>
   obtain ⟨s,h1,h2⟩:=vZ l (i+1) k st (by simpa [drawL] using h)
   exact ⟨s,by simpa using h1,by rw [h2,show i+1+k=i+(k+1) by omega]⟩
theorem EW {i j:Nat} {l:List u3} {a:u3} (h:l[j]? =some a):T3 i (l.take (j+1))=eP i (T3 i (l.take j)) a:=by
 unfold T3
 rw [List.take_add_one,h,List.foldl_append]
 rfl
theorem rR (i:Nat) (a:u3):eP i [] a=[⟨a.byte,a.out,KH i a.to⟩]:=by
 unfold eP
 rw [if_pos (fun b hb=>by cases hb)]
 rfl
theorem Ni (i:Nat) (acc:List u3) (a:u3):acc.length<=(eP i acc a).length/\(eP i acc a).length<=acc.length+1:=by
 unfold eP
 split
 ·simp
 ·exact ⟨nR,Nat.le_succ _⟩
theorem gL (i:Nat):∀ (l acc:List u3),acc.length<=(l.foldl (eP i) acc).length/\(l.foldl (eP i) acc).length<=acc.length+l.length
 | [],acc=>⟨nR,sP⟩
 | a::l,acc=>by
  have h1:=Ni i acc a
  have h2:=gL i l (eP i acc a)
  simp only [List.foldl_cons,List.length_cons]
  omega
theorem Nj {i j:Nat} {l:List u3} {a:u3} (h:l[j]? =some a) {k:Nat} (hk:j<k):0<(T3 i (l.take k)).length:=by
 have h0:0<(l.take k).length:=by rw [List.length_take];have:=(H2 h).1;omega
 cases hq:l.take k with
 | nil=>rw [hq] at h0;cases h0
 | cons x r =>
  unfold T3
  rw [List.foldl_cons,rR]
  have:=gL i r [⟨x.byte,x.out,KH i x.to⟩]
  simp only [List.length_cons,List.length_nil] at this
  omega
theorem BX {i:Nat} (hi:0<i) (cU:i<=1000):∀ (l acc:List u3),okArcs i (-1) acc=true->(∀ a∈acc,uA a)->(∀ a∈l,uA a)->okArcs i (-1) (l.foldl (eP i) acc)=true/\∀ a∈l.foldl (eP i) acc,uA a
 | [],acc,h1,h2,_=>⟨h1,h2⟩
 | a::l,acc,h1,h2,h3=>by
  rw [List.foldl_cons]
  have ha:=h3 a (List.mem_cons_self ..)
  have ht:=dz hi a.to
  have a6:uA (⟨a.byte,a.out,KH i a.to⟩:u3):=⟨ha.1,ha.2.1,by show _<=KH i a.to;omega,by show KH i a.to<_;omega⟩
  have key:okArcs i (-1) (eP i acc a)=true/\∀ x∈eP i acc a,uA x:=by
   unfold eP
   split
   ·rename_i hb
    refine ⟨?_,fun x hx=> ?_⟩
    ·refine nV (⟨a.byte,a.out,KH i a.to⟩:u3) ht.1 ht.2 acc (-1) h1 (by show (-1:Int)<((a.byte:Nat):Int);omega) fun b hm=> ?_
     show b.byte<a.byte
     have hp:acc.Pairwise fun x y=>x.byte<y.byte:=by
      have:∀ (l:List u3) (last:Int),okArcs i last l=true->l.Pairwise fun x y:u3=>x.byte<y.byte:=by
       intro l
       induction l with
       | nil=>intro _ _;exact List.Pairwise.nil
       | cons c l ih =>
        intro last h
        simp only [okArcs,Bool.and_eq_true,decide_eq_true_eq] at h
        exact List.pairwise_cons.2 ⟨fun y hy=>by have:=dB l _ h.2 y hy;omega,ih _ h.2⟩
      exact this acc _ h1
     obtain ⟨z,hz⟩:∃ z,acc.getLast? =some z:=by
      cases hq:acc.getLast? with
      | none=>rw [List.getLast?_eq_none_iff] at hq;rw [hq] at hm;cases hm
      | some z=>exact ⟨z,rfl⟩
     have dy:=hb z (by rw [hz];rfl)
     obtain ⟨ys,hys⟩:=List.getLast?_eq_some_iff.1 hz
     rw [hys] at hm hp
     rcases List.mem_append.1 hm with hm | hm
     ·have:=(List.pairwise_append.1 hp).2.2 b hm z (List.mem_singleton.2 rfl);omega
     ·rw [List.mem_singleton.1 hm];exact dy
    ·rcases List.mem_append.1 hx with hx | hx
     ·exact h2 x hx
     ·rw [List.mem_singleton.1 hx];exact a6
   ·exact ⟨h1,h2⟩
  exact BX hi cU l _ key.1 key.2 fun x hx=>h3 x (List.mem_cons_of_mem _ hx)
theorem UA {ss:List State} (h:∀ s∈ss,s.out<18446744073709551616/\∀ a∈s.j4,uA a):(rQ ss).length<=7/\∀ (k:Nat) (st:State),(rQ ss)[k]? =some st->L3 st/\st.j4.length<=3/\(st.final=false->st.out=0)/\okArcs k (-1) st.j4=true:=by
 refine ⟨by unfold rQ;rw [U7,List.length_take];omega,fun k st hk=> ?_⟩
 obtain ⟨s,h1,rfl⟩:=vZ _ _ _ _ hk
 rw [Nat.zero_add]
 have hk7:k<7:=by have:=(H2 h1).1;rw [List.length_take] at this;omega
 have hs:=h s (List.mem_of_mem_take (T9 h1))
 have AF:=gL k (s.j4.take 3) []
 have x4y:(s.j4.take 3).length<=3:=by rw [List.length_take];omega
 have dx:(eY k s).out<18446744073709551616:=by unfold eY;simp only;split;exact hs.1;omega
 by_cases h0:k=0
 ·have ha:(eY k s).j4=[]:=by unfold eY;simp only;rw [if_pos h0]
  refine ⟨⟨dx,by rw [ha];simp,by rw [ha];intro a ha;cases ha⟩,by rw [ha];simp,fun hf=> ?_,by rw [ha];rfl⟩
  unfold eY at hf |-
  simp only at hf |-
  rw [hf];rfl
 ·have ha:(eY k s).j4=T3 k (s.j4.take 3):=by unfold eY;simp only;rw [if_neg h0]
  obtain ⟨k1,k2⟩:=BX (i:=k) oM oM (s.j4.take 3) [] rfl (fun a ha=>by cases ha) fun a ha=>hs.2 a (List.mem_of_mem_take ha)
  simp only [List.length_nil,Nat.zero_add] at AF
  refine ⟨⟨dx,by rw [ha];show (T3 k (s.j4.take 3)).length<_;unfold T3;omega,by rw [ha];exact k2⟩,by rw [ha];show (T3 k (s.j4.take 3)).length<=3;unfold T3;omega,fun hf=> ?_,by rw [ha];exact k1⟩
  unfold eY at hf |-
  simp only at hf |-
  rw [hf];rfl
theorem wA {i j:Nat} {s:State} (h:s.j4.length<=j\/3<=j) (hj:j<=3) (h0:i=0->j=0):T3 i (s.j4.take j)=(eY i s).j4:=by
 unfold eY
 simp only
 split
 ·rw [h0 (by assumption)];rfl
 ·rcases h with h | h
  ·rw [List.take_of_length_le h,List.take_of_length_le oM]
  ·rw [show j=3 by omega]
theorem EX {i j:Nat} {s:State} (h:i=0) (hj:j=0):T3 i (s.j4.take j)=(eY i s).j4:=by
 unfold eY
 simp only
 rw [if_pos h,hj]
 rfl
theorem UB {i:Nat} {acc:List u3} {a b:u3} (h:acc.getLast? =some b):eP i acc a=if b.byte<a.byte then acc++[⟨a.byte,a.out,KH i a.to⟩] else acc:=by
 unfold eP
 rw [h]
 by_cases hb:b.byte<a.byte
 ·rw [if_pos hb,if_pos (fun c hc=>by cases hc;exact hb)]
 ·rw [if_neg hb,if_neg (fun hc=>hb (hc b rfl))]
theorem UC {i:Nat} (hi:0<i) (cU:i<=1000) (t:Int):IntKind.i64.wrap (t.tmod (i:Int)+(i:Int))=t.tmod (i:Int)+(i:Int):=by
 have h1: -(i:Int)<t.tmod i:=Int.lt_tmod_of_pos _ oM
 have h2:t.tmod i<(i:Int):=Int.tmod_lt_of_pos _ oM
 exact Fc.wrap_i64 oM oM
theorem UD {w:World} {base:Nat} {v:Value} {l:List u3} (h:OA w base v l) {i:Nat} {x:u3} (hi:l[i]? =some x):∃ g c,v= .slice (some ⟨g,0,none⟩) l.length c/\base<=g/\w.cell? ⟨g,i*3,none⟩=some (.int .u8 x.byte)/\w.cell? ⟨g,i*3+1,none⟩=some (.int .u64 x.out)/\w.cell? ⟨g,i*3+2,none⟩=some (.int .i64 x.to):=by
 obtain ⟨o9,hx⟩:=H2 hi
 have h1:=h
 rcases h1.2 with ⟨_,h0⟩ | ⟨b,cap,cur,rfl,hb,hh,hc,_⟩
 ·omega
 ·have k:∀ j,j<3->w.cell? ⟨b,i*3+j,none⟩=([.int .u8 x.byte,.int .u64 x.out,.int .i64 x.to]:List Value)[j]? :=fun j hj=>by
   rw [World.ownsRow.cellAt h1 (i*3+j) oM,kB l i j o9 hj,hx]
   rfl
  exact ⟨b,cap,rfl,hb,k 0 oM,k 1 oM,k 2 oM⟩
theorem UE (w:World) (sv:Value) (init:Nat) (ss:List State) (o8:RS w sv ss):Calls Tryz.prog 12 #[sv,.int .u64 init] w fun e w1=>∃ sv1,e= .returned (.agg #[sv1,.int .u64 init])/\RS w1 sv1 (rQ ss)/\Below w.heap.size w w1:=by
 refine Z6 100 Tryz.func12 fun fr hf s0 s1=> ?_
 obtain ⟨A,cc,rfl,U0⟩:=o8.form
 refine Ze fun _ a8=>Zr [] hf ?_
 refine y7 0 1 4 hf ?_
 clear hf s0 s1;intro a7 hf sS
 generalize Y4:w.alloc (.cells #[.slice none 0 0,.int .u64 0] 38)=W2
 obtain ⟨BZ,jT⟩:=kK Y4
 clear Y4
 have R1:=o8.later BZ
 have Q7:=R1.n
 clear R1
 refine Zs a8 fun _ a8=>Zr [10,11,5] hf ?_
 refine y7 0 4 5 hf ?_
 intro a7 hf sS
 obtain ⟨g,hg⟩:∃ x,W2.heap.size=x:=⟨_,rfl⟩
 generalize lT:W2.alloc (.cells #[.slice none 0 0,.int .u64 init] 38)=W3
 obtain ⟨G4, -, -,fP, -⟩:=P7 lT
 clear lT
 rw [hg] at Q7 G4 fP
 obtain ⟨s0,s4,s5⟩:=sS
 try rw [hg] at s5
 have SW:w.heap.size<g:=by rw [<- hg];exact j5 jT
 have HG:=H9 hg;clear hg
 refine Zs a8 fun _ a8=>Ze fun _ j8=>Zr [] hf ?_
 refine z8 0 4 5 6 hf ?_
 clear hf s0 s4 s5;intro a7 hf sS
 refine Zx j8 (wp_block (wp_loop_ghost (fun gk fr wr=>∃ (i:Nat) (V:Value) (l:List (Value×State)) (C:Nat->Prop),gk=7-i/\i<=ss.length/\i<=7/\Fc.Fr 100 fr/\(fr.tmps[0]? =some (.slice A ss.length cc)/\fr.tmps[4]? =some (.pointer (some ⟨w.heap.size,0,none⟩))/\fr.tmps[5]? =some (.pointer (some ⟨g,0,none⟩))/\fr.tmps[6]? =some (.int .i64 i))/\SR wr g C V l/\l.map Prod.snd=drawL 0 (ss.take i)/\(∀ k,V.ownBlock=some k->g<k)/\(∀ k,C k->g<k/\k<wr.heap.size/\V.ownBlock≠some k)/\wr.heap[g]? =some (.cells #[V,.int .u64 init] 38 (0,0))/\Below g W2 wr) (7) ?_ ?_))
 . (
 obtain ⟨s0,s4,s5,s6⟩:=sS
 exact ⟨0,_,[],fun _=>False,rfl,Nat.zero_le _,Nat.zero_le _,hf,⟨s0,s4,s5,s6⟩,SR.T7 _ _ _,rfl,(fun k h=>by cases h),(fun k h=>h.elim),fP,G4⟩)
 . (
 clear hf sS
 rintro gk fr wr ⟨i,V,l,C,hk,hi,hi7,hf,⟨s0,s4,s5,s6⟩,eA,hl,DY,hC,lY,hb⟩
 have HK:=H9 hk;have HL:=H9 hl;have pU:=H9 DY;have HC:=H9 hC;clear hk hl DY hC
 rcases (by omega:ss.length<=i\/(i<ss.length/\7<=i)\/(i<ss.length/\i<7)) with h1 | ⟨h1,h2⟩ | ⟨h1,h2⟩
 . (
 have q1:decide (i<ss.length)=false:=decide_eq_false oM
 refine Ze fun _ j8=>Ze fun _ l8=> ?_
 have qs:=q1
 refine Zr [12,13,14,15,16,17,18] hf ?_
 refine D2 0 4 5 6 19 hf ?_
 clear hf s0 s4 s5 s6 qs;intro a7 hf sS
 refine Zx l8 (Fc.k9 sS.2.2.2.2 ?_)
 clear q1
 have vU:=HL.out
 have UF:ss.take i=ss.take 7:=by rw [List.take_of_length_le oM,List.take_of_length_le oM]
 rw [UF] at vU
 clear UF
 obtain ⟨Av,cv,mT,iU⟩:=eA.form
 subst mT
 have g0:=n5 0 lY;have g1:=n5 1 lY
 simp at g0 g1
 have kZ:=(hb.block w.heap.size SW).trans jT
 have dw:=hb.size
 have eN:=BZ.trans (hb.mono oM:Below w.heap.size W2 wr)
 have hgw:=j5 lY
 have n0:=n5 0 kZ;have n1:=n5 1 kZ;have fa:=j6 (i:=0) kZ;have fb:=j6 (i:=1) kZ
 simp at n0 n1
 refine Zo ?_
 refine Zs a8 fun _ a8=>Zr [99] hf ?_
 refine p5 4 hf ?_
 intro a7 hf s4
 refine Zx a8 (k8 ?_)
 have eQ:n4 (fun k=>k=w.heap.size) _ _:=(n4.setCell (S:=fun k=>k=w.heap.size) (w:=wr) (p:=⟨w.heap.size,0,none⟩) rfl (.slice Av l.length cv)).trans (n4.setCell (S:=fun k=>k=w.heap.size) (p:=⟨w.heap.size,1,none⟩) rfl (.int .u64 init))
 have Nk:=(eA.but eQ (fun k hk h=>by have:=pU.out k hk;omega) (fun k hk h=>by have:=(HC.out k hk).1;omega)).rs
 rw [vU] at Nk
 exact aX rfl hf s4 (rN kZ (.slice Av l.length cv) (.int .u64 init)) Tryz.underlying38 rfl kR ⟨_,rfl,Nk,(eN.setCell (p:=⟨w.heap.size,0,none⟩) nR _).setCell (p:=⟨w.heap.size,1,none⟩) nR _⟩)
 . (
 have q1:decide (i<ss.length)=true:=decide_eq_true oM
 have q2:decide ((i:Int)<7)=false:=decide_eq_false oM
 refine Ze fun _ j8=>Ze fun _ l8=> ?_
 have qs:=And.intro q1 q2
 refine Zr [12,13,14,15,16,17,18] hf ?_
 refine D2 0 4 5 6 19 hf ?_
 clear hf s0 s4 s5 s6 qs;intro a7 hf sS
 refine Zx l8 (Fc.k9 sS.2.2.2.2 ?_)
 clear q1 q2
 have vU:=HL.out
 have UF:ss.take i=ss.take 7:=by rw [show i=7 by omega]
 rw [UF] at vU
 clear UF
 obtain ⟨Av,cv,mT,iU⟩:=eA.form
 subst mT
 have g0:=n5 0 lY;have g1:=n5 1 lY
 simp at g0 g1
 have kZ:=(hb.block w.heap.size SW).trans jT
 have dw:=hb.size
 have eN:=BZ.trans (hb.mono oM:Below w.heap.size W2 wr)
 have hgw:=j5 lY
 have n0:=n5 0 kZ;have n1:=n5 1 kZ;have fa:=j6 (i:=0) kZ;have fb:=j6 (i:=1) kZ
 simp at n0 n1
 refine Zo ?_
 refine Zs a8 fun _ a8=>Zr [99] hf ?_
 refine p5 4 hf ?_
 intro a7 hf s4
 refine Zx a8 (k8 ?_)
 have eQ:n4 (fun k=>k=w.heap.size) _ _:=(n4.setCell (S:=fun k=>k=w.heap.size) (w:=wr) (p:=⟨w.heap.size,0,none⟩) rfl (.slice Av l.length cv)).trans (n4.setCell (S:=fun k=>k=w.heap.size) (p:=⟨w.heap.size,1,none⟩) rfl (.int .u64 init))
 have Nk:=(eA.but eQ (fun k hk h=>by have:=pU.out k hk;omega) (fun k hk h=>by have:=(HC.out k hk).1;omega)).rs
 rw [vU] at Nk
 exact aX rfl hf s4 (rN kZ (.slice Av l.length cv) (.int .u64 init)) Tryz.underlying38 rfl kR ⟨_,rfl,Nk,(eN.setCell (p:=⟨w.heap.size,0,none⟩) nR _).setCell (p:=⟨w.heap.size,1,none⟩) nR _⟩)
 . (
 have q1:decide (i<ss.length)=true:=decide_eq_true oM
 have q2:decide ((i:Int)<7)=true:=decide_eq_true oM
 refine Ze fun _ j8=>Ze fun _ l8=> ?_
 have qs:=And.intro q1 q2
 refine Zr [12,13,14,15,16,17,18] hf ?_
 refine D2 0 4 5 6 19 hf ?_
 clear hf s0 s4 s5 s6 qs;intro a7 hf sS
 refine Zx l8 (Fc.l7 sS.2.2.2.2 ?_)
 clear q1 q2
 have o9:i<ss.length:=h1
 obtain ⟨s,N3⟩:∃ s,ss[i]? =some s:=⟨_,F8 o9⟩
 obtain ⟨b,off,av,bq,AE,C7⟩:=(Q7.below hb).at_ N3
 subst bq
 have d0:=C7.c0;have d1:=C7.c1;have d2:=C7.c2
 have uh:=C7.j4
 obtain ⟨A2,c2,rfl,uG⟩:=uh.form
 clear C7
 have A8:=EV N3
 have L4:=H9 A8;have XQ:=H9 N3;clear A8 N3
 obtain ⟨gs,rJ⟩:∃ x,wr.heap.size=x:=⟨_,rfl⟩
 have dv:g<gs:=by rw [<- rJ];exact j5 lY
 obtain ⟨of,du⟩:∃ x,(if s.final then s.out else 0)=x:=⟨_,rfl⟩
 have DZ:=H9 du;clear du
 refine wp_skip (Zs j8 fun _ j8=>wp_block (Ze fun _ l8=>Zr [22,23,24,25,26,27,7] hf ?_))
 refine D2 0 4 5 6 7 hf ?_
 intro a7 hf sS
 generalize AG:wr.alloc (.cells #[.slice none 0 0,.bool s.final,.int .u64 0] 46)=W6
 obtain ⟨C4,y0,y1,y2,cA, -⟩:=E7 AG
 clear AG
 rw [rJ] at C4 y0 y1 y2 cA
 obtain ⟨s0,s4,s5,s6,s7⟩:=sS
 try rw [rJ] at s7
 refine Zx l8 (Fc.G1 (fun fr wq=>Fc.Fr 100 fr/\((fr.tmps[0]? =some (.slice (some ⟨b,off,none⟩) ss.length cc)/\fr.tmps[4]? =some (.pointer (some ⟨w.heap.size,0,none⟩))/\fr.tmps[5]? =some (.pointer (some ⟨g,0,none⟩))/\fr.tmps[6]? =some (.int .i64 i))/\fr.tmps[7]? =some (.pointer (some ⟨gs,0,none⟩)))/\wq.heap[gs]? =some (.cells #[.slice none 0 0,.bool s.final,.int .u64 of] 46 (0,0))/\Below gs wr wq) ?_ ?_)
 . (
 rcases p7:s.final with _ | _
 . (
 have M8:=H9 p7
 rw [p7] at y1
 clear p7
 refine Ze fun _ l8=>Zr [28] hf ?_
 refine F1 0 4 5 6 7 29 hf ?_
 clear hf s0 s4 s5 s6 s7;intro a7 hf sS
 refine Zx l8 (Fc.k9 sS.2.2.2.2.2 ?_)
 refine wp_skip (Fc.j7 ?_)
 obtain ⟨s0,s4,s5,s6,s7,cT⟩:=sS
 exact ⟨hf,⟨⟨s0,s4,s5,s6⟩,s7⟩,by have h9:=cA;rw [M8.out] at h9;rw [show of=0 by rw [<- DZ.out,M8.out];rfl];exact h9,C4⟩)
 . (
 have M8:=H9 p7
 rw [p7] at y1
 clear p7
 have e0:=(C4.cell (p:=⟨b,off+i*3+2,none⟩) sQ).trans d2
 have SU:=j6 (i:=2) cA
 refine Ze fun _ l8=>Zr [28] hf ?_
 refine F1 0 4 5 6 7 29 hf ?_
 clear hf s0 s4 s5 s6 s7;intro a7 hf sS
 refine Zx l8 (Fc.l7 sS.2.2.2.2.2 ?_)
 refine Zr [30,31,32,33,34,35] hf ?_
 refine D2 0 4 5 6 7 hf ?_
 intro a7 hf sS
 have gX:=Gt cA (.int .u64 s.out)
 have aA:=C4.setCell (p:=⟨gs,2,none⟩) nR (.int .u64 s.out)
 have tX:of=s.out:=by rw [<- DZ.out,M8.out];rfl
 have ug:=H9 tX;clear tX
 refine Fc.j7 ?_
 obtain ⟨s0,s4,s5,s6,s7⟩:=sS
 exact ⟨hf,⟨⟨s0,s4,s5,s6⟩,s7⟩,by have h9:=gX;rw [M8.out] at h9;rw [ug.out];exact h9,aA⟩))
 . (
 clear hf s0 s4 s5 s6 s7
 rintro fr wq ⟨hf,⟨⟨s0,s4,s5,s6⟩,s7⟩,SX,B1⟩
 refine Ze fun _ l8=>Ze fun _ F5=>Zr [] hf ?_
 refine F1 0 4 5 6 7 8 hf ?_
 clear hf s0 s4 s5 s6 s7;intro a7 hf sS
 refine Zx F5 (wp_block (wp_loop_ghost (fun lR fr w2=>∃ (j:Nat) (V2:Value),lR=3-j/\j<=s.j4.length/\j<=3/\(i=0->j=0)/\Fc.Fr 100 fr/\((fr.tmps[0]? =some (.slice (some ⟨b,off,none⟩) ss.length cc)/\fr.tmps[4]? =some (.pointer (some ⟨w.heap.size,0,none⟩))/\fr.tmps[5]? =some (.pointer (some ⟨g,0,none⟩))/\fr.tmps[6]? =some (.int .i64 i))/\fr.tmps[7]? =some (.pointer (some ⟨gs,0,none⟩)))/\fr.tmps[8]? =some (.int .i64 j)/\OA w2 gs V2 (T3 i (s.j4.take j))/\(∀ k,V2.ownBlock=some k->gs<k)/\w2.heap[gs]? =some (.cells #[V2,.bool s.final,.int .u64 of] 46 (0,0))/\Below gs wr w2) (3) ?_ ?_))
 . (
 obtain ⟨s0,s4,s5,s6,s7,s8⟩:=sS
 exact ⟨0,_,rfl,Nat.zero_le _,Nat.zero_le _,fun _=>rfl,hf,⟨⟨s0,s4,s5,s6⟩,s7⟩,s8,OA.T7 _ _,(fun k h=>by cases h),SX,B1⟩)
 . (
 clear hf sS
 rintro lR fr w2 ⟨j,V2,M9,hj,KJ,fF,hf,⟨⟨s0,s4,s5,s6⟩,s7⟩,s8,S1,yL,J1,r8⟩
 have xQ:=H9 M9;have dD:=H9 yL;have ZG:=H9 fF;clear M9 yL fF
 have e0:=(r8.cell (p:=⟨b,off+i*3,none⟩) sQ).trans d0
 have Bc:=uh.but (mG r8) (fun k hk h=>oM)
 rcases Nat.lt_or_ge j s.j4.length with hlj | eV
 . (
 rcases Nat.lt_or_ge j 3 with x4w | x4v
 . (
 rcases Nat.eq_zero_or_pos i with fF | fF
 . (
 have HI1:=H9 fF;clear fF
 have q1:decide (j<s.j4.length)=true:=decide_eq_true oM
 have q2:decide ((j:Int)<3)=true:=decide_eq_true oM
 have q3:decide (0<i)=false:=decide_eq_false (by have:=HI1.out;omega)
 refine Ze fun _ F5=>Ze fun _ U6=> ?_
 have qs:=And.intro q1 (And.intro q2 q3)
 refine Zr [36,37,38,39,40,41,42,43,44,45,46,47,48,49,50] hf ?_
 refine Z1 0 4 5 6 7 8 51 hf ?_
 clear hf s0 s4 s5 s6 s7 s8 qs;intro a7 hf sS
 refine Zx U6 (Fc.k9 sS.2.2.2.2.2.2 ?_)
 clear q1 q2 q3
 have MU:T3 i (s.j4.take j)=(eY i s).j4:=EX HI1.out (ZG.out HI1.out)
 rw [MU] at S1
 clear MU
 refine Zo ?_
 refine Zx l8 ?_
 have iV:=eA.later (rJ▸r8)
 obtain ⟨Av,cv,mT,iU⟩:=iV.form
 subst mT
 have Bd:=(r8.block g dv).trans lY
 obtain ⟨A3,c3,lV,Nn⟩:=y8 S1
 subst lV
 have g0:=n5 0 Bd;have h0:=n5 0 J1;have h1:=n5 1 J1;have h2:=n5 2 J1
 simp at g0 h0 h1 h2
 have oB:=hb.trans (r8.mono oM)
 have X0:=oB.size
 have hlen:l.length=i:=by have:=congrArg List.length HL.out;rw [List.length_map,U7,List.length_take] at this;omega
 have uf:l.length<=7:=oM
 clear hlen
 have UG:W2.heap.size<=w2.heap.size:=X0
 have iR:g<=w2.heap.size:=by have:=j5 J1;omega
 refine rg ?_
 have bB:=hf.B6 93 94 95 96 97 98
 iterate 4 refine Zy ?_
 obtain ⟨s0,s4,s5,s6,s7,s8,qQ⟩:=sS
 clear bB
 refine Fc.nL (n:=100) (by simp only [Fc.G,hf.size]) hf.defers (fun a7 y5 hT=> ?_)
 have J8:=Fc.h6 hT 0 4 5 6 94 96
 simp (decide:=true) only [Fc.G,hf.size,reduceIte,s0,s4,s5,s6] at J8
 replace hf:=y5;clear hT y5 s0 s4 s5 s6 s7 s8 qQ
 obtain ⟨s0,s4,s5,s6,XR,XS⟩:=J8
 have bB:=hf.B2 97 98
 refine ⟨?_⟩
 refine wpList_plain rfl fun K5 U6=> ?_
 refine J6 _ _ 36 rfl 46 _ 3 40 Tryz.underlying36 bM rfl dC dC g (.slice Av l.length cv) l.length _ (Fc.l5 XR) (iV.row.alloc _) w2.heap.size [.slice A3 (eY i s).j4.length c3,.bool s.final,.int .u64 of] (Fc.l5 XS) rfl (E8 w2 _ _) (by intro u hu;simp at hu;rcases hu with rfl | rfl | rfl<;>rfl) oM sO (fun v5 w5 X8 bN M6=>U6 _ _ ?_)
 refine Fc.L.out ?_
 obtain ⟨A5,c5,KK,_⟩:=y8 X8
 subst KK
 obtain ⟨Wl,tT⟩:∃ x,w2.alloc (.cells #[.slice A3 (eY i s).j4.length c3,.bool s.final,.int .u64 of] 46)=x:=⟨_,rfl⟩
 have X3:Below w2.heap.size w2 Wl:=by rw [<- tT];exact (Below.refl _ _).alloc nR _
 have dt:Wl.heap.size=w2.heap.size+1:=by rw [<- tT];simp
 try rw [tT] at X8 bN M6
 try simp only [List.toArray] at bN M6
 try rw [tT] at bN M6
 have EY:=iV.later X3
 have EZ:=n3 S1 X3
 have iW:∀ k,(.slice A3 (eY i s).j4.length c3:Value).ownBlock=some k->gs<k/\k<w2.heap.size:=fun k hk=>⟨dD.out k hk,(World.ownsRow.lt S1 k hk).2⟩
 have Ea:=EY.app (st:=eY i s) EZ (fun k hk h=>by have h1:=iW k hk;have h3:=(World.ownsRow.lt eA.row k h).2;omega) (fun k hk=>(HC.out k hk).2.2) bN (by rw [show (eY i s).out=of from DZ.out];exact X8)
 have gM:n4 (fun k=>(.slice Av l.length cv:Value).ownBlock=some k) w2 w5:=(n4.of _ X3).trans (n4.grown bN (fun k hk=>hk))
 have rS:=gM.heap Bd (fun h=>by have:=pU.out _ h;omega)
 have g1:=n5 0 rS;have ue:=j6 (i:=0) rS
 simp at g1
 have fU:∀ k,(.slice A5 (l.length+1) c5:Value).ownBlock=some k->g<k:=fun k hk=>by rcases M6 with h | h;(rw [h] at hk;exact pU.out k hk);(rw [h] at hk;injection hk with hk;omega)
 have KM:∀ k,(C k\/(.slice A3 (eY i s).j4.length c3:Value).ownBlock=some k)->g<k/\k<w5.heap.size/\(.slice A5 (l.length+1) c5:Value).ownBlock≠some k:=fun k hk=>by
   have M9:g<k/\k<w2.heap.size/\(.slice Av l.length cv:Value).ownBlock≠some k:=by
     rcases hk with hk | hk
     . exact ⟨(HC.out k hk).1,by have:=(HC.out k hk).2.1;have:=r8.size;omega,(HC.out k hk).2.2⟩
     . exact ⟨by have:=iW k hk;omega,(iW k hk).2,fun h=>by have h1:=iW k hk;have h3:=(World.ownsRow.lt eA.row k h).2;omega⟩
   refine ⟨M9.1,by have:=gM.size;omega,fun h=> ?_⟩
   rcases M6 with h4 | h4
   . rw [h4] at h;exact M9.2.2 h
   . rw [h4] at h;injection h with h;omega
 have Be:=oB.trans (gM.below iR (fun k hk=>by have:=pU.out k hk;omega))
 iterate 2 refine Zy ?_
 refine Fc.nil (z8 0 4 5 6 hf ?_)
 clear hf s0 s4 s5 s6 XR XS bB;intro a7 hf sS
 have Eb:=Nh rS (.slice A5 (l.length+1) c5)
 have Bf:=Be.setCell (p:=⟨g,0,none⟩) nR (.slice A5 (l.length+1) c5)
 have Bg:=Ea.but (n4.setCell (S:=fun k=>k=g) (p:=⟨g,0,none⟩) rfl (.slice A5 (l.length+1) c5)) (fun k hk h=>by have:=fU k hk;omega) (fun k hk h=>by have:=(KM k hk).1;omega)
 refine Fc.j9 (Zx j8 (Zr [20,21] hf ?_))
 refine z8 0 4 5 6 hf ?_
 intro a7 hf sS
 refine Fc.j7 ?_
 obtain ⟨s0,s4,s5,s6⟩:=sS
 exact ⟨_,by have:=HK.out;omega,i+1,_,_,_,rfl,oM,oM,hf,⟨s0,s4,s5,by rw [s6];rfl⟩,Bg,by rw [List.map_append,HL.out,L4.out];rfl,fU,(fun k hk=>by have h9:=KM k hk;exact ⟨h9.1,by simpa [World.setCell] using h9.2.1,h9.2.2⟩),Eb,Bf⟩)
 . (
 have q1:decide (j<s.j4.length)=true:=decide_eq_true oM
 have q2:decide ((j:Int)<3)=true:=decide_eq_true oM
 have q3:decide (0<i)=true:=decide_eq_true oM
 refine Ze fun _ F5=>Ze fun _ U6=> ?_
 have qs:=And.intro q1 (And.intro q2 q3)
 refine Zr [36,37,38,39,40,41,42,43,44,45,46,47,48,49,50] hf ?_
 refine Z1 0 4 5 6 7 8 51 hf ?_
 clear hf s0 s4 s5 s6 s7 s8 qs;intro a7 hf sS
 refine Zx U6 (Fc.l7 sS.2.2.2.2.2.2 ?_)
 clear q1 q2 q3
 obtain ⟨a,hja⟩:∃ a,s.j4[j]? =some a:=⟨_,F8 hlj⟩
 obtain ⟨ab,x4u,ud,SP,k0,k1,k2⟩:=Bc.at' hja
 subst ud
 have hft:=EW (i:=i) hja
 have HFT:=H9 hft;have HJA:=H9 hja;clear hft hja
 obtain ⟨ga,KN⟩:∃ x,w2.heap.size=x:=⟨_,rfl⟩
 have y9t:gs<ga:=by rw [<- KN];exact j5 J1
 obtain ⟨la,pC⟩:∃ x,T3 i (s.j4.take j)=x:=⟨_,rfl⟩
 have y9s:la.length<=3:=by rw [<- pC];have:=gL i (s.j4.take j) [];rw [List.length_take] at this;simp only [List.length_nil,Nat.zero_add] at this;unfold T3;omega
 have uc:0<j->0<la.length:=fun h=>by rw [<- pC];exact Nj (F8 oM:s.j4[0]? =some _) h
 rw [pC] at S1 HFT
 have nm:=H9 pC;have HLN:=H9 uc;clear pC uc
 refine wp_skip (Zs F5 fun _ F5=>wp_block (Ze fun _ U6=>Zr [54,55,56,57,58,59,60,61,9] hf ?_))
 refine Z1 0 4 5 6 7 8 9 hf ?_
 intro a7 hf sS
 generalize KP:w2.alloc (.cells #[.int .u8 a.byte,.int .u64 a.out,.int .i64 a.to] 71)=ub
 obtain ⟨eR, -, -,u2,KQ, -⟩:=E7 KP
 clear KP k0 k1 k2
 rw [KN] at eR u2 KQ
 obtain ⟨s0,s4,s5,s6,s7,s8,s9⟩:=sS
 try rw [KN] at s9
 have SU:=j6 (i:=2) KQ
 refine Zt U6 fun _ U6=> ?_
 have bB:=hf.B9 62 63 64 65 66 67 68 69 70
 iterate 3 refine Zy ?_
 refine fp fun K Z=> ?_
 go_simp
 rw [if_neg (by omega)]
 rw [Oper.upon_value]
 apply Z.out;clear Z K
 refine Zy ?_
 refine fp fun K Z=> ?_
 go_simp
 try simp (disch:=omega) only [Fc.W]
 rw [UC oM oM]
 apply Z.out;clear Z K
 refine Zy ?_
 refine fp fun K Z=> ?_
 go_simp
 rw [if_neg (by omega),show (a.to.tmod (i:Int)+(i:Int)).tmod (i:Int)=KH i a.to from rfl]
 rw [Oper.upon_value]
 apply Z.out;clear Z K
 iterate 2 refine Zy ?_
 refine Fc.nil (Z1 0 4 5 6 7 8 9 hf ?_)
 clear hf s0 s4 s5 s6 s7 s8 s9 bB;intro a7 hf sS
 generalize dr:KH i a.to=td
 have UH:=Gt KQ (.int .i64 td)
 have bX:=eR.setCell (p:=⟨ga,2,none⟩) nR (.int .i64 td)
 obtain ⟨W13,dq⟩:∃ x,ub.setCell ⟨ga,2,none⟩ (.int .i64 td)=x:=⟨_,rfl⟩
 rw [dq] at UH bX
 try rw [dq]
 clear dq KQ eR u2 SU
 have v0:=n5 0 UH;have v1:=n5 1 UH;have v2:=n5 2 UH
 simp at v0 v1 v2
 rw [<- KN] at bX
 have oC:=n3 S1 bX
 have Ec:=(bX.block gs (j5 J1)).trans J1
 obtain ⟨A3,c3,lV,Nn⟩:=y8 oC
 subst lV
 have g0:=n5 0 Ec
 simp at g0
 have wB:=r8.trans (bX.mono oM)
 have ua:=wB.size
 have HTD:=H9 dr;clear dr
 refine Zx U6 (Fc.G1 (fun fr wq=>∃ t:Bool,Fc.Fr 100 fr/\((fr.tmps[0]? =some (.slice (some ⟨b,off,none⟩) ss.length cc)/\fr.tmps[4]? =some (.pointer (some ⟨w.heap.size,0,none⟩))/\fr.tmps[5]? =some (.pointer (some ⟨g,0,none⟩))/\fr.tmps[6]? =some (.int .i64 i))/\fr.tmps[7]? =some (.pointer (some ⟨gs,0,none⟩)))/\fr.tmps[8]? =some (.int .i64 j)/\fr.tmps[9]? =some (.pointer (some ⟨ga,0,none⟩))/\fr.tmps[86]? =some (.bool t)/\eP i la a=(if t then la++[⟨a.byte,a.out,td⟩] else la)/\Below W13.heap.size W13 wq) ?_ ?_)
 . (
 rcases Nat.eq_zero_or_pos j with h0 | h0
 . (
 have q1:(((j:Nat):Int)==0)=true:=beq_iff_eq.2 oM
 obtain ⟨s0,s4,s5,s6,s7,s8,s9⟩:=sS
 refine Sb.tb 100 fun a6=> ?_
 refine Sb.mO 0 s8 hf a6 ?_
 refine Sb.T 1 hf a6 ?_
 refine Sb.mN 2 1 0 hf a6 [] ?_
 refine Sb.Tk 3 hf a6 ?_
 refine Sb.Tk 4 hf a6 ?_
 refine Sb.Tk 5 hf a6 ?_
 refine Sb.Tk 6 hf a6 ?_
 refine Sb.Tk 7 hf a6 ?_
 refine Sb.Tk 8 hf a6 ?_
 refine Sb.Tk 9 hf a6 ?_
 refine Sb.Tk 10 hf a6 ?_
 refine Sb.Tk 11 hf a6 ?_
 refine Sb.Tk 12 hf a6 ?_
 refine Sb.Tk 13 hf a6 ?_
 refine Sb.Tk 14 hf a6 ?_
 refine Sb.T 15 hf a6 ?_
 refine Sb.E hf a6 (fun _ _ h g=>ad (Sb.O h s0) (ad (Sb.O h s4) (ad (Sb.O h s5) (ad (Sb.O h s6) (ad (Sb.O h s7) (ad (Sb.O h s8) (ad (Sb.O h s9) (Sb.f 15 0 g)))))))) ?_
 clear hf a6 s0 s4 s5 s6 s7 s8 s9;intro a7 w1 hf hx sS
 refine Fc.j7 ?_
 obtain ⟨s0,s4,s5,s6,s7,s8,s9,EP⟩:=sS
 exact ⟨true,hf,⟨⟨s0,s4,s5,s6⟩,s7⟩,s8,s9,EP,by rw [show la=[] by rw [<- nm.out,h0];rfl,rR,HTD.out];rfl,hx⟩)
 . (
 have q1:(((j:Nat):Int)==0)=false:=beq_eq_false_iff_ne.2 oM
 have hl0:=HLN.out h0
 obtain ⟨lb,vX⟩:∃ x,la[la.length-1]? =some x:=⟨_,F8 oM⟩
 obtain ⟨gb,cb,DY,XT,j0,j1,j2⟩:=UD oC vX
 have dn:=H9 vX;clear vX
 injection DY with DY yL hvb3
 subst DY
 obtain ⟨lm,nk⟩:∃ x,la.length-1=x:=⟨_,rfl⟩
 rw [nk] at j0 j1 j2
 have q4:IntKind.i64.wrap ((la.length:Int)-1)=(lm:Int):=by rw [Fc.wrap_i64 oM oM];omega
 have HLM:=H9 nk;clear nk
 obtain ⟨s0,s4,s5,s6,s7,s8,s9⟩:=sS
 refine Sb.tb 100 fun a6=> ?_
 have lf:=H9 fun (w9:World) (h9:Below _ _ w9)=>ad (cL h9 v0) (ad (cL h9 g0) (cL h9 j0))
 refine Sb.mO 0 s8 hf a6 ?_
 refine Sb.T 1 hf a6 ?_
 refine Sb.mN 2 1 0 hf a6 [] ?_
 refine Sb.Tg 3 hf a6 ?_ (hF:=fun _ _ h d=>Sb.O h s9)
 refine Sb.Tg 4 hf a6 ?_ (hF:=fun _ _ h d=>lf.out _ h.ext)
 refine Sb.Tg 5 hf a6 ?_ (hF:=fun _ _ h d=>Sb.O h s7)
 refine Sb.Tg 6 hf a6 ?_ (hF:=fun _ _ h d=>lf.out _ h.ext)
 refine Sb.Tg 7 hf a6 ?_ (hF:=fun _ _ h d=>Sb.O h s7)
 refine Sb.Tg 8 hf a6 ?_ (hF:=fun _ _ h d=>lf.out _ h.ext)
 refine Sb.Tg 9 hf a6 ?_ (hF:=fun _ _ h d=>lf.out _ h.ext)
 refine Sb.Tg 10 hf a6 ?_
 apply Sb.tr 11 _ hf a6
 . (
 intro a7 w1 hh hd hk K Z
 have s73:=Sb.v 2 8 hd hk []
 refine Sb.g s73 ?_
 have s77:=Sb.v 6 4 hd hk []
 have s81:=Sb.v 10 0 hd hk []
 clear hd
 go_simp
 rw [if_pos (by have:=HLM.out;omega)]
 exact Sb.k Z)
 refine Sb.Tg 12 hf a6 ?_
 refine Sb.Tg 13 hf a6 ?_ (hF:=fun _ _ h d=>lf.out _ h.ext)
 refine Sb.Tg 14 hf a6 ?_
 refine Sb.T 15 hf a6 ?_
 refine Sb.E hf a6 (fun _ _ h g=>ad (Sb.O h s0) (ad (Sb.O h s4) (ad (Sb.O h s5) (ad (Sb.O h s6) (ad (Sb.O h s7) (ad (Sb.O h s8) (ad (Sb.O h s9) (Sb.f 15 0 g)))))))) ?_
 clear hf a6 s0 s4 s5 s6 s7 s8 s9;intro a7 w1 hf hx sS
 have L1:=lf.out _ hx;(try clear v0 g0 j0);clear lf;obtain ⟨v0,g0,j0⟩:=L1
 refine Fc.j7 ?_
 obtain ⟨s0,s4,s5,s6,s7,s8,s9,EP⟩:=sS
 exact ⟨_,hf,⟨⟨s0,s4,s5,s6⟩,s7⟩,s8,s9,EP,by rw [UB (by rw [List.getLast?_eq_getElem?];exact dn.out),HTD.out];by_cases h8:lb.byte<a.byte;(rw [if_pos h8,if_pos (decide_eq_true oM)]);(rw [if_neg h8,if_neg sO]),hx⟩))
 . (
 clear hf sS
 rintro fr wq ⟨t,hf,⟨⟨s0,s4,s5,s6⟩,s7⟩,s8,s9,EP,uR,hx⟩
 have vz:=H9 uR;clear uR
 replace v0:=cL hx v0
 replace v1:=cL hx v1
 replace v2:=cL hx v2
 replace g0:=cL hx g0
 replace oC:=n3 oC hx
 replace Ec:=(hx.block gs (j5 Ec)).trans Ec
 replace ua:=Nat.le_trans ua hx.size
 replace wB:=wB.trans (hx.mono (by have:=wB.size;omega))
 refine Fc.l0 EP (fun hq=> ?_) (fun hq=> ?_)
 . (
 obtain rfl:t=true:=by simpa using hq
 clear hq
 have uR:=vz.out
 simp only [if_true] at uR
 refine rg ?_
 have bB:=hf.B6 87 88 89 90 91 92
 iterate 4 refine Zy ?_
 clear bB
 refine Fc.nL (n:=100) (by simp only [Fc.G,hf.size]) hf.defers (fun a7 y5 hT=> ?_)
 have J8:=Fc.h8 hT 0 4 5 6 7 8 88 90
 simp (decide:=true) only [Fc.G,hf.size,reduceIte,s0,s4,s5,s6,s7,s8] at J8
 replace hf:=y5;clear hT y5 s0 s4 s5 s6 s7 s8 s9 EP
 obtain ⟨s0,s4,s5,s6,s7,s8,s88,s90⟩:=J8
 have bB:=hf.B2 91 92
 refine ⟨?_⟩
 refine wpList_plain rfl fun K5 U6=> ?_
 refine J6 _ _ 44 rfl 71 _ 3 24 Tryz.underlying44 wC rfl dC dC gs (.slice A3 la.length c3) la.length _ (Fc.l5 s88) (oC.alloc _) wq.heap.size [.int .u8 a.byte,.int .u64 a.out,.int .i64 td] (Fc.l5 s90) rfl (E8 wq _ _) (by intro u hu;simp at hu;rcases hu with rfl | rfl | rfl<;>rfl) oM sO (fun v5 w5 X8 bN M6=>U6 _ _ ?_)
 refine Fc.L.out ?_
 obtain ⟨A5,c5,KK,_⟩:=y8 X8
 subst KK
 have gM:n4 (fun k=>(.slice A3 la.length c3:Value).ownBlock=some k) wq w5:=(n4.alloc (S:=fun k=>(.slice A3 la.length c3:Value).ownBlock=some k) wq _).trans (n4.grown bN (fun k hk=>hk))
 have dm:=gM.heap Ec (fun h=>by have:=dD.out _ h;omega)
 have g1:=n5 0 dm;have ue:=j6 (i:=0) dm
 simp at g1
 have fU:∀ k,(.slice A5 (la.length+1) c5:Value).ownBlock=some k->gs<k:=fun k hk=>by rcases M6 with h | h;(rw [h] at hk;exact dD.out k hk);(rw [h] at hk;injection hk with hk;simp at hk;omega)
 have vy:=wB.trans (gM.below (by have:=j5 Ec;omega) (fun k hk=>by have:=dD.out k hk;omega))
 iterate 2 refine Zy ?_
 refine Fc.nil (F1 0 4 5 6 7 8 hf ?_)
 clear hf s0 s4 s5 s6 s7 s8 s88 s90 bB;intro a7 hf sS
 have Eb:=XP dm (.slice A5 (la.length+1) c5)
 have vw:=vy.setCell (p:=⟨gs,0,none⟩) nR (.slice A5 (la.length+1) c5)
 have vv:OA (w5.setCell ⟨gs,0,none⟩ (.slice A5 (la.length+1) c5)) gs (.slice A5 (la.length+1) c5) (T3 i (s.j4.take (j+1))):=by rw [HFT.out,uR];unfold OA;rw [List.length_append,dU];exact u7 X8 (n4.setCell (S:=fun k=>k=gs) rfl _) (fun k hk h=>by have:=fU k hk;omega)
 refine Fc.j9 (Zx F5 (Zr [52,53] hf ?_))
 refine F1 0 4 5 6 7 8 hf ?_
 intro a7 hf sS
 refine Fc.j7 ?_
 obtain ⟨s0,s4,s5,s6,s7,s8⟩:=sS
 exact ⟨_,by have:=xQ.out;omega,j+1,_,rfl,oM,oM,(fun h=>absurd h oM),hf,⟨⟨s0,s4,s5,s6⟩,s7⟩,by rw [s8];rfl,vv,fU,Eb,vw⟩)
 . (
 obtain rfl:t=false:=by simpa using hq
 clear hq
 have uR:=vz.out
 simp only [Bool.false_eq_true,if_false] at uR
 refine wp_skip (Fc.j9 (Zx F5 (Zr [52,53] hf ?_)))
 refine F1 0 4 5 6 7 8 hf ?_
 clear hf s0 s4 s5 s6 s7 s8 s9 EP;intro a7 hf sS
 refine Fc.j7 ?_
 obtain ⟨s0,s4,s5,s6,s7,s8⟩:=sS
 exact ⟨_,by have:=xQ.out;omega,j+1,_,rfl,oM,oM,(fun h=>absurd h oM),hf,⟨⟨s0,s4,s5,s6⟩,s7⟩,by rw [s8];rfl,by rw [HFT.out,uR];exact oC,dD.out,Ec,wB⟩))))
 . (
 have q1:decide (j<s.j4.length)=true:=decide_eq_true oM
 have q2:decide ((j:Int)<3)=false:=decide_eq_false oM
 refine Ze fun _ F5=>Ze fun _ U6=> ?_
 have qs:=And.intro q1 q2
 refine Zr [36,37,38,39,40,41,42,43,44,45,46,47,48,49,50] hf ?_
 refine Z1 0 4 5 6 7 8 51 hf ?_
 clear hf s0 s4 s5 s6 s7 s8 qs;intro a7 hf sS
 refine Zx U6 (Fc.k9 sS.2.2.2.2.2.2 ?_)
 clear q1 q2
 have MU:T3 i (s.j4.take j)=(eY i s).j4:=wA (.inr oM) KJ ZG.out
 rw [MU] at S1
 clear MU
 refine Zo ?_
 refine Zx l8 ?_
 have iV:=eA.later (rJ▸r8)
 obtain ⟨Av,cv,mT,iU⟩:=iV.form
 subst mT
 have Bd:=(r8.block g dv).trans lY
 obtain ⟨A3,c3,lV,Nn⟩:=y8 S1
 subst lV
 have g0:=n5 0 Bd;have h0:=n5 0 J1;have h1:=n5 1 J1;have h2:=n5 2 J1
 simp at g0 h0 h1 h2
 have oB:=hb.trans (r8.mono oM)
 have X0:=oB.size
 have hlen:l.length=i:=by have:=congrArg List.length HL.out;rw [List.length_map,U7,List.length_take] at this;omega
 have uf:l.length<=7:=oM
 clear hlen
 have UG:W2.heap.size<=w2.heap.size:=X0
 have iR:g<=w2.heap.size:=by have:=j5 J1;omega
 refine rg ?_
 have bB:=hf.B6 93 94 95 96 97 98
 iterate 4 refine Zy ?_
 obtain ⟨s0,s4,s5,s6,s7,s8,qQ⟩:=sS
 clear bB
 refine Fc.nL (n:=100) (by simp only [Fc.G,hf.size]) hf.defers (fun a7 y5 hT=> ?_)
 have J8:=Fc.h6 hT 0 4 5 6 94 96
 simp (decide:=true) only [Fc.G,hf.size,reduceIte,s0,s4,s5,s6] at J8
 replace hf:=y5;clear hT y5 s0 s4 s5 s6 s7 s8 qQ
 obtain ⟨s0,s4,s5,s6,XR,XS⟩:=J8
 have bB:=hf.B2 97 98
 refine ⟨?_⟩
 refine wpList_plain rfl fun K5 U6=> ?_
 refine J6 _ _ 36 rfl 46 _ 3 40 Tryz.underlying36 bM rfl dC dC g (.slice Av l.length cv) l.length _ (Fc.l5 XR) (iV.row.alloc _) w2.heap.size [.slice A3 (eY i s).j4.length c3,.bool s.final,.int .u64 of] (Fc.l5 XS) rfl (E8 w2 _ _) (by intro u hu;simp at hu;rcases hu with rfl | rfl | rfl<;>rfl) oM sO (fun v5 w5 X8 bN M6=>U6 _ _ ?_)
 refine Fc.L.out ?_
 obtain ⟨A5,c5,KK,_⟩:=y8 X8
 subst KK
 obtain ⟨Wl,tT⟩:∃ x,w2.alloc (.cells #[.slice A3 (eY i s).j4.length c3,.bool s.final,.int .u64 of] 46)=x:=⟨_,rfl⟩
 have X3:Below w2.heap.size w2 Wl:=by rw [<- tT];exact (Below.refl _ _).alloc nR _
 have dt:Wl.heap.size=w2.heap.size+1:=by rw [<- tT];simp
 try rw [tT] at X8 bN M6
 try simp only [List.toArray] at bN M6
 try rw [tT] at bN M6
 have EY:=iV.later X3
 have EZ:=n3 S1 X3
 have iW:∀ k,(.slice A3 (eY i s).j4.length c3:Value).ownBlock=some k->gs<k/\k<w2.heap.size:=fun k hk=>⟨dD.out k hk,(World.ownsRow.lt S1 k hk).2⟩
 have Ea:=EY.app (st:=eY i s) EZ (fun k hk h=>by have h1:=iW k hk;have h3:=(World.ownsRow.lt eA.row k h).2;omega) (fun k hk=>(HC.out k hk).2.2) bN (by rw [show (eY i s).out=of from DZ.out];exact X8)
 have gM:n4 (fun k=>(.slice Av l.length cv:Value).ownBlock=some k) w2 w5:=(n4.of _ X3).trans (n4.grown bN (fun k hk=>hk))
 have rS:=gM.heap Bd (fun h=>by have:=pU.out _ h;omega)
 have g1:=n5 0 rS;have ue:=j6 (i:=0) rS
 simp at g1
 have fU:∀ k,(.slice A5 (l.length+1) c5:Value).ownBlock=some k->g<k:=fun k hk=>by rcases M6 with h | h;(rw [h] at hk;exact pU.out k hk);(rw [h] at hk;injection hk with hk;omega)
 have KM:∀ k,(C k\/(.slice A3 (eY i s).j4.length c3:Value).ownBlock=some k)->g<k/\k<w5.heap.size/\(.slice A5 (l.length+1) c5:Value).ownBlock≠some k:=fun k hk=>by
   have M9:g<k/\k<w2.heap.size/\(.slice Av l.length cv:Value).ownBlock≠some k:=by
     rcases hk with hk | hk
     . exact ⟨(HC.out k hk).1,by have:=(HC.out k hk).2.1;have:=r8.size;omega,(HC.out k hk).2.2⟩
     . exact ⟨by have:=iW k hk;omega,(iW k hk).2,fun h=>by have h1:=iW k hk;have h3:=(World.ownsRow.lt eA.row k h).2;omega⟩
   refine ⟨M9.1,by have:=gM.size;omega,fun h=> ?_⟩
   rcases M6 with h4 | h4
   . rw [h4] at h;exact M9.2.2 h
   . rw [h4] at h;injection h with h;omega
 have Be:=oB.trans (gM.below iR (fun k hk=>by have:=pU.out k hk;omega))
 iterate 2 refine Zy ?_
 refine Fc.nil (z8 0 4 5 6 hf ?_)
 clear hf s0 s4 s5 s6 XR XS bB;intro a7 hf sS
 have Eb:=Nh rS (.slice A5 (l.length+1) c5)
 have Bf:=Be.setCell (p:=⟨g,0,none⟩) nR (.slice A5 (l.length+1) c5)
 have Bg:=Ea.but (n4.setCell (S:=fun k=>k=g) (p:=⟨g,0,none⟩) rfl (.slice A5 (l.length+1) c5)) (fun k hk h=>by have:=fU k hk;omega) (fun k hk h=>by have:=(KM k hk).1;omega)
 refine Fc.j9 (Zx j8 (Zr [20,21] hf ?_))
 refine z8 0 4 5 6 hf ?_
 intro a7 hf sS
 refine Fc.j7 ?_
 obtain ⟨s0,s4,s5,s6⟩:=sS
 exact ⟨_,by have:=HK.out;omega,i+1,_,_,_,rfl,oM,oM,hf,⟨s0,s4,s5,by rw [s6];rfl⟩,Bg,by rw [List.map_append,HL.out,L4.out];rfl,fU,(fun k hk=>by have h9:=KM k hk;exact ⟨h9.1,by simpa [World.setCell] using h9.2.1,h9.2.2⟩),Eb,Bf⟩))
 . (
 have q1:decide (j<s.j4.length)=false:=decide_eq_false oM
 refine Ze fun _ F5=>Ze fun _ U6=> ?_
 have qs:=q1
 refine Zr [36,37,38,39,40,41,42,43,44,45,46,47,48,49,50] hf ?_
 refine Z1 0 4 5 6 7 8 51 hf ?_
 clear hf s0 s4 s5 s6 s7 s8 qs;intro a7 hf sS
 refine Zx U6 (Fc.k9 sS.2.2.2.2.2.2 ?_)
 clear q1
 have MU:T3 i (s.j4.take j)=(eY i s).j4:=wA (.inl oM) KJ ZG.out
 rw [MU] at S1
 clear MU
 refine Zo ?_
 refine Zx l8 ?_
 have iV:=eA.later (rJ▸r8)
 obtain ⟨Av,cv,mT,iU⟩:=iV.form
 subst mT
 have Bd:=(r8.block g dv).trans lY
 obtain ⟨A3,c3,lV,Nn⟩:=y8 S1
 subst lV
 have g0:=n5 0 Bd;have h0:=n5 0 J1;have h1:=n5 1 J1;have h2:=n5 2 J1
 simp at g0 h0 h1 h2
 have oB:=hb.trans (r8.mono oM)
 have X0:=oB.size
 have hlen:l.length=i:=by have:=congrArg List.length HL.out;rw [List.length_map,U7,List.length_take] at this;omega
 have uf:l.length<=7:=oM
 clear hlen
 have UG:W2.heap.size<=w2.heap.size:=X0
 have iR:g<=w2.heap.size:=by have:=j5 J1;omega
 refine rg ?_
 have bB:=hf.B6 93 94 95 96 97 98
 iterate 4 refine Zy ?_
 obtain ⟨s0,s4,s5,s6,s7,s8,qQ⟩:=sS
 clear bB
 refine Fc.nL (n:=100) (by simp only [Fc.G,hf.size]) hf.defers (fun a7 y5 hT=> ?_)
 have J8:=Fc.h6 hT 0 4 5 6 94 96
 simp (decide:=true) only [Fc.G,hf.size,reduceIte,s0,s4,s5,s6] at J8
 replace hf:=y5;clear hT y5 s0 s4 s5 s6 s7 s8 qQ
 obtain ⟨s0,s4,s5,s6,XR,XS⟩:=J8
 have bB:=hf.B2 97 98
 refine ⟨?_⟩
 refine wpList_plain rfl fun K5 U6=> ?_
 refine J6 _ _ 36 rfl 46 _ 3 40 Tryz.underlying36 bM rfl dC dC g (.slice Av l.length cv) l.length _ (Fc.l5 XR) (iV.row.alloc _) w2.heap.size [.slice A3 (eY i s).j4.length c3,.bool s.final,.int .u64 of] (Fc.l5 XS) rfl (E8 w2 _ _) (by intro u hu;simp at hu;rcases hu with rfl | rfl | rfl<;>rfl) oM sO (fun v5 w5 X8 bN M6=>U6 _ _ ?_)
 refine Fc.L.out ?_
 obtain ⟨A5,c5,KK,_⟩:=y8 X8
 subst KK
 obtain ⟨Wl,tT⟩:∃ x,w2.alloc (.cells #[.slice A3 (eY i s).j4.length c3,.bool s.final,.int .u64 of] 46)=x:=⟨_,rfl⟩
 have X3:Below w2.heap.size w2 Wl:=by rw [<- tT];exact (Below.refl _ _).alloc nR _
 have dt:Wl.heap.size=w2.heap.size+1:=by rw [<- tT];simp
 try rw [tT] at X8 bN M6
 try simp only [List.toArray] at bN M6
 try rw [tT] at bN M6
 have EY:=iV.later X3
 have EZ:=n3 S1 X3
 have iW:∀ k,(.slice A3 (eY i s).j4.length c3:Value).ownBlock=some k->gs<k/\k<w2.heap.size:=fun k hk=>⟨dD.out k hk,(World.ownsRow.lt S1 k hk).2⟩
 have Ea:=EY.app (st:=eY i s) EZ (fun k hk h=>by have h1:=iW k hk;have h3:=(World.ownsRow.lt eA.row k h).2;omega) (fun k hk=>(HC.out k hk).2.2) bN (by rw [show (eY i s).out=of from DZ.out];exact X8)
 have gM:n4 (fun k=>(.slice Av l.length cv:Value).ownBlock=some k) w2 w5:=(n4.of _ X3).trans (n4.grown bN (fun k hk=>hk))
 have rS:=gM.heap Bd (fun h=>by have:=pU.out _ h;omega)
 have g1:=n5 0 rS;have ue:=j6 (i:=0) rS
 simp at g1
 have fU:∀ k,(.slice A5 (l.length+1) c5:Value).ownBlock=some k->g<k:=fun k hk=>by rcases M6 with h | h;(rw [h] at hk;exact pU.out k hk);(rw [h] at hk;injection hk with hk;omega)
 have KM:∀ k,(C k\/(.slice A3 (eY i s).j4.length c3:Value).ownBlock=some k)->g<k/\k<w5.heap.size/\(.slice A5 (l.length+1) c5:Value).ownBlock≠some k:=fun k hk=>by
   have M9:g<k/\k<w2.heap.size/\(.slice Av l.length cv:Value).ownBlock≠some k:=by
     rcases hk with hk | hk
     . exact ⟨(HC.out k hk).1,by have:=(HC.out k hk).2.1;have:=r8.size;omega,(HC.out k hk).2.2⟩
     . exact ⟨by have:=iW k hk;omega,(iW k hk).2,fun h=>by have h1:=iW k hk;have h3:=(World.ownsRow.lt eA.row k h).2;omega⟩
   refine ⟨M9.1,by have:=gM.size;omega,fun h=> ?_⟩
   rcases M6 with h4 | h4
   . rw [h4] at h;exact M9.2.2 h
   . rw [h4] at h;injection h with h;omega
 have Be:=oB.trans (gM.below iR (fun k hk=>by have:=pU.out k hk;omega))
 iterate 2 refine Zy ?_
 refine Fc.nil (z8 0 4 5 6 hf ?_)
 clear hf s0 s4 s5 s6 XR XS bB;intro a7 hf sS
 have Eb:=Nh rS (.slice A5 (l.length+1) c5)
 have Bf:=Be.setCell (p:=⟨g,0,none⟩) nR (.slice A5 (l.length+1) c5)
 have Bg:=Ea.but (n4.setCell (S:=fun k=>k=g) (p:=⟨g,0,none⟩) rfl (.slice A5 (l.length+1) c5)) (fun k hk h=>by have:=fU k hk;omega) (fun k hk h=>by have:=(KM k hk).1;omega)
 refine Fc.j9 (Zx j8 (Zr [20,21] hf ?_))
 refine z8 0 4 5 6 hf ?_
 intro a7 hf sS
 refine Fc.j7 ?_
 obtain ⟨s0,s4,s5,s6⟩:=sS
 exact ⟨_,by have:=HK.out;omega,i+1,_,_,_,rfl,oM,oM,hf,⟨s0,s4,s5,by rw [s6];rfl⟩,Bg,by rw [List.map_append,HL.out,L4.out];rfl,fU,(fun k hk=>by have h9:=KM k hk;exact ⟨h9.1,by simpa [World.setCell] using h9.2.1,h9.2.2⟩),Eb,Bf⟩)))))
theorem pV {a b:ByteArray}:(a.toList==b.toList)=decide (a=b):=by
 by_cases h:a=b
 ·subst h;simp
 ·rw [decide_eq_false h];exact beq_eq_false_iff_ne.2 (fun e=>h (by rw [ByteArray.toList_eq,ByteArray.toList_eq] at e;exact ByteArray.ext (Array.ext' e)))
theorem XU {w W:World} {g:Nat} {x y x' y':Value} {t:TypeId} (h:w.heap[g]? =some (.cells #[x,y] t (0,0))) (hW:(w.setCell ⟨g,0,none⟩ x').setCell ⟨g,1,none⟩ y'=W):n4 (fun k=>k=g) w W/\W.heap[g]? =some (.cells #[x',y'] t (0,0)):=by
 subst hW
 exact ⟨(n4.setCell (S:=fun k=>k=g) (p:=⟨g,0,none⟩) rfl x').trans (n4.setCell (S:=fun k=>k=g) (p:=⟨g,1,none⟩) rfl y'),rN h x' y'⟩
end Dw
end Go.Proofs.YtcddnmhmcieebaaGreatDoor
