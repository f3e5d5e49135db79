/- fst: Get. -/
import Derived.Test.YtcddnmhmcieebaaGreatDoorY24
import Derived.Test.YtcddnmhmcieebaaGreatDoorTools
import Derived.Test.YtcddnmhmcieebaaGreatDoorY10
import Derived.Test.YtcddnmhmcieebaaGreatDoorY23
import Derived.Test.YtcddnmhmcieebaaGreatDoorY14
import Derived.Test.YtcddnmhmcieebaaGreatDoorY16
import Derived.Test.YtcddnmhmcieebaaGreatDoorShelf3
import Derived.Test.YtcddnmhmcieebaaGreatDoorY9
namespace Go.Proofs.YtcddnmhmcieebaaGreatDoor
set_option maxHeartbeats 4000000
set_option maxRecDepth 100000
open Go.RowKit
set_option linter.unusedSimpArgs false
set_option linter.unusedVariables false
set_option linter.unnecessarySimpa false
namespace Dw
def getE (s:ByteArray):Option Nat->z6×Bool
 | none=>(⟨⟨#[]⟩,0,false⟩,false)
 | some v=>(eH s v,ofB v)
def getV (init:Nat) (ss:List State) (s:ByteArray):z6×Bool:=getE s (uM init ss s)
theorem x2c (init:Nat) (ss:List State) (s:ByteArray) (a8:∀ s∈ss,J8 s):∀ v,uM init ss s=some v->v<18446744073709551616:=by
 intro v h
 unfold uM valFin at h
 split at h
 ·cases h
 ·split at h
  ·cases h
  ·split at h
   ·injection h with h
    rw [<- h]
    exact Nat.mod_lt _ (by unfold y5;omega)
   ·cases h
theorem v2e (w:World) (sv:Value) (init:Nat) (ss:List State) (s:ByteArray) (o7:RS w sv ss) (hlen:ss.length<=1000000) (a8:∀ s∈ss,J8 s) (D5:∀ (k:Nat) (st:State),ss[k]? =some st->okArcs k (-1) st.a6=true) (h0:0<ss.length) (K0:init<y5) (hss:s.size<=1000000000):G4 w 80 #[.agg #[sv,.int .u64 init],.string s] (.tuple #[eval (getV init ss s).1,.bool (getV init ss s).2]):=by
 refine aT 22 Tryz.func80 fun fr hf s0 s1=> ?_
 obtain ⟨A,cc,rfl,Z3⟩:=o7.form
 refine Ze fun _ b7=>Zr [] hf ?_
 refine B1 1 2 4 hf ?_
 clear hf s0 s1;intro a7 hf sS
 obtain ⟨W0,p8⟩:∃ x,(w.alloc (.cells #[.slice A ss.length cc,.int .u64 init] 38)).alloc (.cells #[.string ⟨#[]⟩,.int .u32 0,.bool false] 64)=x:=⟨_,rfl⟩
 obtain ⟨s1,s2,s4⟩:=sS
 try simp only [World.size_alloc] at s4
 rw [p8]
 obtain ⟨hb,F1,C5⟩:=F9 p8
 clear p8
 have c0:=n5 0 F1;have c1:=n5 1 F1
 simp at c0 c1
 replace o7:=o7.later hb
 obtain ⟨q,hq⟩:∃ x,w.heap.size+1=x:=⟨_,rfl⟩
 have hwq:w.heap.size<=q:=oM
 rw [hq] at C5 s4
 clear hq F1
 refine Zt b7 fun _ b7=> ?_
 have bB:=hf.B6 9 10 11 8 12 13
 iterate 2 refine Zy ?_
 refine Zc (x9b W0 _ init ss s o7 hlen a8 D5 h0 K0 hss) ?_;rintro e w1 ⟨rfl,n7⟩
 have hvl:=x2c init ss s a8
 obtain ⟨v,hv⟩:∃ x,uM init ss s=x:=⟨_,rfl⟩
 rw [hv] at hvl |-
 have HG:=H9 (show getV init ss s=getE s v by unfold getV;rw [hv])
 replace hb:=hb.trans (n7.mono hb.size);replace C5:=(n7.block _ (j4 C5)).trans C5
 clear hv o7 c0 c1 n7
 refine Zv ?_
 iterate 5 refine Zy ?_
 refine Fc.nil (C0 1 4 6 7 hf ?_)
 clear hf s1 s2 s4 bB;intro a7 hf sS
 refine Zx b7 ?_
 rcases v with _ | v
 . (
 obtain ⟨s1,s4,s6,s7⟩:=sS
 simp only [Option.isSome_none] at s7
 refine Ze fun _ b7=>Ze fun _ j8=>Zr [14] hf ?_
 refine C0 1 4 6 15 hf ?_
 clear hf s1 s4 s6 s7;intro a7 hf sS
 refine Zx j8 (Fc.l8 sS.2.2.2 ?_)
 have r0:=n5 0 C5;have r1:=n5 1 C5;have r2:=n5 2 C5;have f0:=j3 (i:=0) C5;have f1:=j3 (i:=1) C5;have f2:=j3 (i:=2) C5
 simp at r0 r1 r2
 refine Ze fun _ j8=>Zr [16] hf ?_
 refine C1 4 5 hf ?_
 clear hf sS;intro a7 hf sS
 refine Zx j8 (k8 ?_)
 refine cV rfl hf sS.1 sS.2 (j5 (j5 (j5 C5 _) _) _) Tryz.underlying64 rfl kR ⟨by rw [HG.out];simp [getE,eval],((hb.setCell (p:=⟨q,0,none⟩) hwq _).setCell (p:=⟨q,1,none⟩) hwq _).setCell (p:=⟨q,2,none⟩) hwq _⟩)
 . (
 obtain ⟨s1,s4,s6,s7⟩:=sS
 simp only [Option.isSome_some,Option.getD_some] at s6 s7
 have t9s:v<18446744073709551616:=hvl v rfl
 refine Ze fun _ b7=>Ze fun _ j8=>Zr [14] hf ?_
 refine C0 1 4 6 15 hf ?_
 clear hf s1 s4 s6 s7;intro a7 hf sS
 refine Zx j8 (Fc.k9 sS.2.2.2 ?_)
 refine wp_skip (Zt b7 fun _ b7=> ?_)
 have bB:=hf.B5 17 18 19 20 21
 iterate 2 refine Zy ?_
 refine Zc (x0k w1 s v t9s) ?_;rintro e w2 ⟨rfl,r9⟩
 obtain ⟨⟨oa,ob,oc⟩,ho⟩:∃ x,eH s v=x:=⟨_,rfl⟩
 obtain ⟨oz,hz⟩:∃ x,ofB v=x:=⟨_,rfl⟩
 rw [ho,hz]
 simp only [eval]
 have HE:=H9 (show getE s (some v)=(⟨oa,ob,oc⟩,oz) by simp only [getE];rw [ho,hz])
 replace hb:=hb.trans (r9.mono hb.size);replace C5:=(r9.block _ (j4 C5)).trans C5
 clear ho hz r9
 have r0:=n5 0 C5;have r1:=n5 1 C5;have r2:=n5 2 C5;have f0:=j3 (i:=0) C5;have f1:=j3 (i:=1) C5;have f2:=j3 (i:=2) C5
 simp at r0 r1 r2
 refine Zv ?_
 iterate 4 refine Zy ?_
 refine Fc.nil (C1 4 5 hf ?_)
 clear hf sS bB;intro a7 hf sS
 refine Zx b7 (k8 ?_)
 refine cV rfl hf sS.1 sS.2 (j5 (j5 (j5 C5 _) _) _) Tryz.underlying64 rfl kR ⟨by rw [HG.out,HE.out];simp [eval],((hb.setCell (p:=⟨q,0,none⟩) hwq _).setCell (p:=⟨q,1,none⟩) hwq _).setCell (p:=⟨q,2,none⟩) hwq _⟩)
theorem w2k (w:World) (sv:Value) (init:Nat) (ss:List State) (s:ByteArray) (o7:RS w sv ss) (hlen:ss.length<=1000000) (a8:∀ s∈ss,J8 s) (D5:∀ (k:Nat) (st:State),ss[k]? =some st->okArcs k (-1) st.a6=true) (h0:0<ss.length) (K0:init<y5) (hss:s.size<=1000000000):G4 w 42 #[.agg #[sv,.int .u64 init],.string s] (.tuple #[eval (getV init ss s).1,.bool (getV init ss s).2]):=by
 refine aT 12 Tryz.func42 fun fr hf s0 s1=> ?_
 obtain ⟨A,cc,rfl,Z3⟩:=o7.form
 refine Ze fun _ b7=>Zr [] hf ?_
 refine B1 1 2 4 hf ?_
 clear hf s0 s1;intro a7 hf sS
 obtain ⟨W0,p8⟩:∃ x,(w.alloc (.cells #[.slice A ss.length cc,.int .u64 init] 96)).alloc (.cells #[.string ⟨#[]⟩,.int .u32 0,.bool false] 64)=x:=⟨_,rfl⟩
 obtain ⟨s1,s2,s4⟩:=sS
 try simp only [World.size_alloc] at s4
 rw [p8]
 obtain ⟨hb,F1,C5⟩:=F9 p8
 clear p8
 have c0:=n5 0 F1;have c1:=n5 1 F1
 simp at c0 c1
 replace o7:=o7.later hb
 obtain ⟨q,hq⟩:∃ x,w.heap.size+1=x:=⟨_,rfl⟩
 have hwq:w.heap.size<=q:=oM
 rw [hq] at C5 s4
 clear hq F1
 refine Zt b7 fun _ b7=> ?_
 have bB:=hf.B6 6 7 8 9 10 11
 iterate 3 refine Zy ?_
 refine Zc (v2e W0 _ init ss s o7 hlen a8 D5 h0 K0 hss) ?_;rintro e w1 ⟨rfl,n7⟩
 obtain ⟨⟨⟨oa,ob,oc⟩,oz⟩,ho⟩:∃ x,getV init ss s=x:=⟨_,rfl⟩
 rw [ho]
 simp only [eval]
 have HG:=H9 ho
 replace hb:=hb.trans (n7.mono hb.size);replace C5:=(n7.block _ (j4 C5)).trans C5
 clear ho n7 o7
 have r0:=n5 0 C5;have r1:=n5 1 C5;have r2:=n5 2 C5;have f0:=j3 (i:=0) C5;have f1:=j3 (i:=1) C5;have f2:=j3 (i:=2) C5
 simp at r0 r1 r2
 refine Zv ?_
 iterate 4 refine Zy ?_
 refine Fc.nil (C1 4 5 hf ?_)
 clear hf s1 s2 s4 bB;intro a7 hf sS
 refine Zx b7 (k8 ?_)
 refine cV rfl hf sS.1 sS.2 (j5 (j5 (j5 C5 _) _) _) Tryz.underlying64 rfl kR ⟨by rw [HG.out];simp [eval],((hb.setCell (p:=⟨q,0,none⟩) hwq _).setCell (p:=⟨q,1,none⟩) hwq _).setCell (p:=⟨q,2,none⟩) hwq _⟩
theorem z4k (w:World) (S init:Nat) (en sz:Int) (sv:Value) (hS:w.heap[S]? =some (.cells #[sv,.int .u64 init,.int .i64 en,.int .i64 sz] 98 (0,0))) (ss:List State) (s:ByteArray) (o7:RS w sv ss) (hlen:ss.length<=1000000) (a8:∀ s∈ss,J8 s) (D5:∀ (k:Nat) (st:State),ss[k]? =some st->okArcs k (-1) st.a6=true) (h0:0<ss.length) (K0:init<y5) (hss:s.size<=1000000000):G4 w 22 #[.pointer (some ⟨S,0,none⟩),.string s] (.tuple #[eval (getV init ss s).1,.bool (getV init ss s).2]):=by
 refine aT 17 Tryz.func22 fun fr hf s0 s1=> ?_
 obtain ⟨A,cc,rfl,Z3⟩:=o7.form
 have c0:=n5 0 hS
 have c1:=n5 1 hS
 have c2:=n5 2 hS
 have c3:=n5 3 hS
 simp at c0 c1 c2 c3
 refine Ze fun _ b7=>Zr [] hf ?_
 refine B1 0 1 4 hf ?_
 clear hf s0 s1;intro a7 hf sS
 generalize p8:w.alloc (.cells #[.string ⟨#[]⟩,.int .u32 0,.bool false] 64)=W0
 obtain ⟨hb,C5⟩:=cW p8
 obtain ⟨q,hq⟩:∃ x,w.heap.size=x:=⟨_,rfl⟩
 have hwq:w.heap.size<=q:=Nat.le_of_eq hq
 obtain ⟨s0,s1,s4⟩:=sS
 rw [hq] at C5 s4
 replace o7:=o7.later hb;replace c0:=cL hb c0;replace c1:=cL hb c1
 clear hq p8 c2 c3
 refine Zs b7 fun _ b7=>Ze fun _ j8=>Zr [6] hf ?_
 refine C0 0 1 4 7 hf ?_
 clear hf s0 s1 s4;intro a7 hf sS
 refine Zx j8 (Fc.k9 sS.2.2.2 ?_)
 refine wp_skip (Zt b7 fun _ b7=> ?_)
 have bB:=hf.B8 9 10 11 12 13 14 15 16
 iterate 5 refine Zy ?_
 refine Zc (w2k W0 _ init ss s o7 hlen a8 D5 h0 K0 hss) ?_;rintro e w1 ⟨rfl,n7⟩
 obtain ⟨⟨⟨oa,ob,oc⟩,oz⟩,ho⟩:∃ x,getV init ss s=x:=⟨_,rfl⟩
 rw [ho]
 simp only [eval]
 have HG:=H9 ho
 replace hb:=hb.trans (n7.mono hb.size);replace C5:=(n7.block _ (j4 C5)).trans C5
 clear ho n7 o7
 have r0:=n5 0 C5;have r1:=n5 1 C5;have r2:=n5 2 C5;have f0:=j3 (i:=0) C5;have f1:=j3 (i:=1) C5;have f2:=j3 (i:=2) C5
 simp at r0 r1 r2
 refine Zv ?_
 iterate 4 refine Zy ?_
 refine Fc.nil (C1 4 5 hf ?_)
 clear hf sS bB;intro a7 hf sS
 refine Zx b7 (k8 ?_)
 refine cV rfl hf sS.1 sS.2 (j5 (j5 (j5 C5 _) _) _) Tryz.underlying64 rfl kR ⟨by rw [HG.out];simp [eval],((hb.setCell (p:=⟨q,0,none⟩) hwq _).setCell (p:=⟨q,1,none⟩) hwq _).setCell (p:=⟨q,2,none⟩) hwq _⟩
theorem mQ {α:Type} {p q:α->Bool}:∀ {l:List α},(∀ a∈l,p a=q a)->l.find? p=l.find? q
 | [],_=>rfl
 | a::l,h=>by rw [List.find?_cons,List.find?_cons,h a (List.mem_cons_self ..),mQ fun x hx=>h x (List.mem_cons_of_mem _ hx)]
theorem z6y {k i:Nat} {b:Nat} {l:List r7} {last:Int} (h:okArcs i last l=true) (hk:i=k):l.find? (X0 b k)=l.find? fun a=>decide (a.byte=b):=by
 subst hk
 refine mQ fun a ha=> ?_
 have:=C3 h ha
 unfold X0
 rw [decide_eq_true this.1,decide_eq_true this.2,Bool.and_true,Bool.and_true]
 cases hq:decide (a.byte=b) with
 | true=>have:=of_decide_eq_true hq;simp [this]
 | false=>have:=of_decide_eq_false hq;simp [this]
theorem z6x {ss:List State} (D5:∀ (k:Nat) (st:State),ss[k]? =some st->okArcs k (-1) st.a6=true):∀ (w:List Nat) (k:Nat) (s:Nat×Bool),valW ss k w=none->valFin ss (valG ss k s w)=none
 | [],k,s,h=>by
  rw [valW] at h
  obtain ⟨n,b⟩:=s
  rw [valG,valFin]
  cases hk:ss[k]? with
  | none=>rfl
  | some st =>
   rw [hk] at h
   simp only at h
   split at h
   ·cases h
   ·rename_i hf
    have:st.final=false:=by simpa using hf
    simp [this]
 | b::w,k,s,h=>by
  rw [valW] at h
  rw [valG]
  cases hk:ss[k]? with
  | none=>rfl
  | some st =>
   rw [hk] at h
   simp only [Option.bind_some] at h |-
   rw [z6y (D5 k st hk) rfl]
   cases hf:st.a6.find? (fun a=>decide (a.byte=b)) with
   | none=>rfl
   | some a =>
    rw [hf] at h
    simp only [Option.map_eq_none_iff] at h |-
    exact z6x D5 w _ _ h
theorem z6w {ss:List State} (D5:∀ (k:Nat) (st:State),ss[k]? =some st->okArcs k (-1) st.a6=true):∀ (w:List Nat) (k n v:Nat),valW ss k w=some v->n+v<=4294967296->valFin ss (valG ss k (n,true) w)=some (n+v)
 | [],k,n,v,h,hl=>by
  rw [valW] at h
  rw [valG,valFin]
  cases hk:ss[k]? with
  | none=>rw [hk] at h;cases h
  | some st =>
   rw [hk] at h
   simp only at h |-
   split at h
   ·rename_i hf
    injection h with h
    subst h
    rw [hf,Nat.mod_eq_of_lt (by unfold y5;omega),decide_eq_true (by unfold y5;omega),decide_eq_true hl]
    rfl
   ·cases h
 | b::w,k,n,v,h,hl=>by
  rw [valW] at h
  rw [valG]
  cases hk:ss[k]? with
  | none=>rw [hk] at h;cases h
  | some st =>
   rw [hk] at h
   simp only [Option.bind_some] at h |-
   rw [z6y (D5 k st hk) rfl]
   cases hf:st.a6.find? (fun a=>decide (a.byte=b)) with
   | none=>rw [hf] at h;cases h
   | some a =>
    rw [hf] at h
    simp only [Option.map_eq_some_iff] at h |-
    obtain ⟨x,hx,rfl⟩:=h
    rw [Nat.mod_eq_of_lt (by unfold y5;omega),decide_eq_true (by unfold y5;omega),Bool.and_self,z6w D5 w _ _ _ hx oM,Nat.add_assoc]
theorem M1.get {es:List z6} (h:M1 es) (w:ByteArray):getV (buildF es).init (buildF es).l3 w=match vM es w with | some e=>(e,true) | none=>(⟨⟨#[]⟩,0,false⟩,false):=by
 have hp:=h.pos
 have hk:(buildF es).l3[(buildF es).l3.length-1]? =some (buildF es).l3[(buildF es).l3.length-1]:=D9 oM
 have hw:valW (buildF es).l3 ((buildF es).l3.length-1) (wl w)=((vM es w).map M9).map (. - leastV (es.map Y1)):=by
  rw [z0g h.inv (wl w) ((buildF es).l3.length-1+(255+w.size)) _ _ (by rw [l9];omega) hk,z0f h.ok h.Z0 _ (fun e he=>by have:=bZ (h.ok e he).2.1;omega), <- x4x]
  exact w5z h.ok h.Z0 _ _ _
 unfold getV uM
 cases hf:vM es w with
 | none =>
  rw [hf] at hw
  rw [z6x h.formed _ _ _ hw]
  rfl
 | some e =>
  rw [hf] at hw
  simp only [Option.map_some] at hw
  have he:e∈es:=List.mem_of_find?_eq_some hf
  have hew:e.word=w:=by
   unfold vM at hf
   have hq:=List.find?_some hf
   simpa using hq
  have hl:=h.least he
  have hi:=jQ h.ok h.Z0
  rw [z6w h.formed _ _ _ _ hw (by rw [hi];omega),hi,show leastV (es.map Y1)+(M9 e-leastV (es.map Y1))=M9 e by omega]
  show (eH w (M9 e),ofB (M9 e))=(e,true)
  rw [<- hew,y2u ⟨(h.ok e he).1,(h.ok e he).2.2⟩]
  unfold ofB
  rw [decide_eq_false oM]
  rfl
theorem RS.take {w:World} {A:Option Addr} {n c m:Nat} {ss:List State} (h:RS w (.slice A n c) ss) (hm:m<=n):RS w (.slice A m c) (ss.take m):=by
 obtain ⟨A',c',h1,h2,h3⟩:=h
 injection h1 with h1 h4 h5
 subst h1;subst h5
 have hl:(ss.take m).length=m:=by rw [List.length_take];omega
 refine ⟨A,c,by rw [hl],oM,fun h0=> ?_⟩
 obtain ⟨b,off,h6,h7⟩:=h3 oM
 exact ⟨b,off,h6,fun i s hi=>h7 i s (by
  rw [List.getElem?_take] at hi
  split at hi
  ·exact hi
  ·cases hi)⟩
structure x9a (n init:Nat) (ss:List State) (S:ByteArray):Prop where
 get:Q0 S= .ok (n,init,ss)
 sz:S.size<=900000000
 len:ss.length<=1000000
theorem x9a.hlen {n init:Nat} {ss:List State} {S:ByteArray} (h:x9a n init ss S):∀ en i s2,Q0 S= .ok (en,i,s2)->s2.length<=1000000:=fun en i s2 h2=>by rw [h.get] at h2;cases h2;exact h.len
theorem x9a.opened {n init:Nat} {ss:List State} {S:ByteArray} {w w1:World} {e:Ending} (hk:x9a n init ss S) (hr:rightS n ss init=true) (h:gN w w1 e S):∃ Q sv,e= .returned (.tuple #[.pointer (some ⟨Q,0,none⟩),.int .i64 0])/\w1.heap[Q]? =some (.cells #[sv,.int .u64 init,.int .i64 n,.int .i64 S.size] 98 (0,0))/\RS w1 sv ss/\Below w.heap.size w w1:=by
 unfold gN at h
 rw [hk.get] at h
 simp only at h
 rw [hr] at h
 obtain ⟨Q,sv,h1,_,h2,h3,h4⟩:=h
 exact ⟨Q,sv,h1,h2,h3,h4⟩
theorem RE.cut {w:World} {B b off n c k m c2:Nat} {es:List z6} (h:RE w B (.slice (some ⟨b,off,none⟩) n c) es) (hkm:k<=m) (hm:m<=es.length) (hc:m-k<=c2):RE w B (.slice (some ⟨b,off+k*3,none⟩) (m-k) c2) ((es.take m).drop k):=by
 obtain ⟨A,c0,h1,h2,h3⟩:=h
 injection h1 with h1 h4 h5
 subst h1
 have hl:((es.take m).drop k).length=m-k:=by rw [List.length_drop,List.length_take,Nat.min_eq_left hm]
 refine ⟨_,c2,by rw [hl],by rw [hl];exact hc,fun h0=> ?_⟩
 have F1:0<es.length:=by rw [hl] at h0;clear hl h3;omega
 obtain ⟨b2,o2,h6,h7,h8⟩:=h3 F1
 injection h6 with h6
 injection h6 with h6 h9 _
 subst h6;subst h9
 refine ⟨_,_,rfl,h7,fun j u hj=> ?_⟩
 have e1:tJ es=tJ (es.take m)++tJ (es.drop m):=by rw [<- K8,List.take_append_drop]
 have e2:tJ (es.take m)=tJ ((es.take m).take k)++tJ ((es.take m).drop k):=by rw [<- K8,List.take_append_drop]
 have hj3:j<(tJ ((es.take m).drop k)).length:=(E2 hj).1
 have ht:(tJ ((es.take m).take k)).length=k*3:=by rw [iF,List.length_take,List.length_take,Nat.min_eq_left hm,Nat.min_eq_left hkm]
 rw [Nat.add_assoc]
 refine h8 (k*3+j) u ?_
 rw [e1,List.getElem?_append_left (by rw [e2,List.length_append,ht];omega),e2,List.getElem?_append_right oM,ht,show k*3+j-k*3=j by omega]
 exact hj
theorem RE.slice {w:World} {B n c k m:Nat} {A:Option Addr} {es:List z6} (h:RE w B (.slice A n c) es) (hkm:k<=m) (hm:m<=es.length):RE w B (.slice (if c=k then A else Option.map (fun x=>x.add (k*3)) A) (m-k) (c-k)) ((es.take m).drop k):=by
 have hl:((es.take m).drop k).length=m-k:=by rw [List.length_drop,List.length_take,Nat.min_eq_left hm]
 obtain ⟨A0,c0,h1,h2,h3⟩:=id h
 injection h1 with h1 h4 h5
 subst h1;subst h4;subst h5
 by_cases h0:m-k=0
 ·exact ⟨_,_,by rw [hl],by rw [hl];omega,fun h9=>by rw [hl] at h9;omega⟩
 ·obtain ⟨b,o,h6,_,_⟩:=h3 oM
  subst h6
  rw [if_neg (by omega)]
  have h9:m-k<=c-k:=oM
  rw [Option.map_some,Addr.add_lit]
  exact h.cut hkm hm h9
theorem M1.put {es:List z6} (h:M1 es):x9a es.length (buildF es).init (buildF es).l3 (makeV es).1:=by
 have h0:aW es=0:=eP _ _ (fun e he=>(h.ok e he).2.1) h.Z0 (fun q hq=>by cases hq)
 have hm:=h.make
 obtain ⟨bd,h1,h2,h3,h4,h5⟩:=z7e h0 (by rw [hm]) ⟨h.st,h.sl⟩ h.uG (mP h.ok h.Z0)
 refine ⟨h5,?_,by have:=h.sl;have:=h.uG;omega⟩
 rw [<- l9,h1,Crc.R6]
 omega
def aR (o:Nat) (e:Wv):Wv:=(e.1,o+e.2)
def raise (o:Nat) (s:State):State:=⟨s.final,if s.final then o+s.out else s.out,s.a6.map fun a=>⟨a.byte,o+a.out,a.to⟩⟩
theorem iY (o:Nat) (s:State):less (raise o s) o=s:=by
 obtain ⟨f,n,al⟩:=s
 unfold less raise
 have h1:(if f then (if f then o+n else n)-o else (if f then o+n else n))=n:=by cases f<;>simp
 have h2:(al.map fun a:r7=>(⟨a.byte,o+a.out,a.to⟩:r7)).map (fun a=>(⟨a.byte,a.out-o,a.to⟩:r7))=al:=by
  rw [List.map_map]
  refine (List.map_congr_left fun a _=> ?_).trans (List.map_id _)
  show (⟨a.byte,o+a.out-o,a.to⟩:r7)=a
  rw [Nat.add_sub_cancel_left]
 simp only [h1,h2]
theorem y8t {i:Nat} {s:State} (hg:Good i s):F8 s≠[]:=by
 unfold F8
 rcases hg.some_ with h | h
 ·simp [h]
 ·intro h2
  exact h (by simpa using (List.append_eq_nil_iff.1 h2).2)
theorem fB {i:Nat} {s:State} (hg:Good i s) (o:Nat):leastOf (raise o s)=o:=by
 have h1:=L3 (y8t hg)
 have h2:F8 (raise o s)=(F8 s).map (o + ·):=by
  unfold F8 raise
  cases s.final<;>simp
 have h3:F8 (raise o s)≠[]:=by rw [h2];simpa using y8t hg
 have h4:=L3 h3
 rw [hg.zero] at h1
 refine h4.uniq ⟨?_,fun v hv=> ?_⟩
 ·rw [h2];exact List.mem_map.2 ⟨0,h1.1,rfl⟩
 ·rw [h2] at hv
  obtain ⟨x,_,rfl⟩:=List.mem_map.1 hv
  exact Nat.le_add_right _ _
theorem z6v {ss:List State} (h:ss.Nodup) {i j:Nat} {s:State} (hi:ss[i]? =some s) (hj:ss[j]? =some s):i=j:=by
 obtain ⟨h1,h2⟩:=E2 hi
 obtain ⟨h3,h4⟩:=E2 hj
 rcases Nat.lt_trichotomy i j with h5 | h5 | h5
 ·exact absurd (h2.trans h4.symm) (List.pairwise_iff_getElem.1 h i j h1 h3 h5)
 ·exact h5
 ·exact absurd (h4.trans h2.symm) (List.pairwise_iff_getElem.1 h j i h3 h1 h5)
theorem yZ {ss:List State} (h:ss.Nodup) {k left:Nat} {s:State} (hk:ss[k]? =some s) (hl:k<left):finish (ss.take left) s=(ss.take left,k):=by
 have hm:(ss.take left)[k]? =some s:=by rw [List.getElem?_take_of_lt hl];exact hk
 obtain ⟨i,h1,h2,h3⟩:=kG (U0 hm)
 rw [h3]
 have h4:ss[i]? =some s:=by
  rw [List.getElem?_take] at h1
  split at h1
  ·exact h1
  ·cases h1
 rw [z6v h h4 hk]
theorem mR {ss:List State} (h:ss.Nodup) {k:Nat} {s:State} (hk:ss[k]? =some s):finish (ss.take k) s=(ss.take (k+1),k):=by
 have hn:s∉ss.take k:=fun hm=>by
  obtain ⟨j,hj,mF⟩:=List.mem_take_iff_getElem.1 hm
  have:=z6v h (show ss[j]? =some s by rw [D9 oM,mF]) hk
  omega
 have hl:=(E2 hk).1
 rw [hH hn,List.take_add_one,hk,List.length_take,Nat.min_eq_left oM]
 rfl
theorem sA (b o:Nat) (R:List Wv) (hR:∀ x∈(groups R).head?,b≠x.1):∀ (g:List Wv),g≠[]->groups (g.map (shift b o)++R)=(b,g.map (aR o))::groups R
 | [],h=>absurd rfl h
 | [e],_=>by
  show groups ((b::e.1,o+e.2)::R)=_
  rw [groups]
  cases hq:groups R with
  | nil=>rfl
  | cons x gs =>
   obtain ⟨b',g'⟩:=x
   have:=hR (b',g') (by rw [hq];rfl)
   simp only [if_neg this]
   rfl
 | e::e2::g,_=>by
  have ih:=sA b o R hR (e2::g) sP
  show groups ((b::e.1,o+e.2)::((e2::g).map (shift b o)++R))=_
  rw [groups,ih]
  simp only [if_true]
  rfl
theorem mS (F:r7->List Wv) (o:Nat):∀ (l:List r7) (i:Nat) (last:Int),okArcs i last l=true->(∀ a∈l,F a≠[])->groups (l.flatMap fun a=>(F a).map (shift a.byte (o+a.out)))=l.map fun a=>(a.byte,(F a).map (aR (o+a.out)))
 | [],_,_,_,_=>rfl
 | a::l,i,last,h,hF=>by
  simp only [okArcs,Bool.and_eq_true,decide_eq_true_eq] at h
  have ih:=mS F o l i a.byte h.2 fun x hx=>hF x (List.mem_cons_of_mem _ hx)
  rw [List.flatMap_cons,sA a.byte (o+a.out) _ (fun x hx=> ?_) _ (hF a (List.mem_cons_self ..)),ih]
  ·rfl
  ·rw [ih] at hx
   cases l with
   | nil=>cases hx
   | cons c l =>
    obtain rfl:(c.byte,(F c).map (aR (o+c.out)))=x:=by simpa using hx
    have:=fJ (c::l) _ h.2 c (List.mem_cons_self ..)
    show a.byte≠c.byte
    omega
theorem z1y (b o u:Nat) (l:List Wv):(l.map (shift b u)).map (aR o)=l.map (shift b (o+u)):=by
 rw [List.map_map]
 refine List.map_congr_left fun e _=> ?_
 show (b::e.1,o+(u+e.2))=(b::e.1,o+u+e.2)
 rw [Nat.add_assoc]
theorem x2b {ss:List State} {k:Nat} {st:State} (h:ss[k]? =some st) (m o:Nat):(wds ss (m+1) k).map (aR o)=(H2 st).map (aR o)++st.a6.flatMap fun a=>(wds ss m a.to.toNat).map (shift a.byte (o+a.out)):=by
 rw [Q1 h,List.map_append,List.map_flatMap]
 refine congrArg (_ ++ ·) (T8 fun a _=> ?_)
 exact z1y _ _ _ _
theorem sB {s:State} {o:Nat} {R:List Wv}:groups ((H2 s).map (aR o)++R)=groups R:=by
 unfold H2
 cases s.final<;>rfl
theorem wQ {i:Nat} {s:State} (hg:Good i s) {o:Nat} {R:List Wv} (hR:∀ e∈R.head?,e.1≠[]):finOf ((H2 s).map (aR o)++R)=(s.final,if s.final then o+s.out else s.out):=by
 unfold H2
 cases hf:s.final with
 | true=>rfl
 | false =>
  have h0:=hg.out hf
  rw [h0]
  show finOf R=(false,0)
  cases R with
  | nil=>rfl
  | cons e R =>
   obtain ⟨w,v⟩:=e
   cases w with
   | nil=>exact absurd rfl (hR ([],v) rfl)
   | cons b w=>rfl
theorem fC (F:r7->List Wv) (u:r7->Nat) (l:List r7):∀ e∈l.flatMap (fun a=>(F a).map (shift a.byte (u a))),e.1≠[]:=by
 intro e he
 obtain ⟨a,_,h⟩:=List.mem_flatMap.1 he
 obtain ⟨x,_,rfl⟩:=List.mem_map.1 h
 exact List.cons_ne_nil _ _
theorem mT {r:Nat->Nat->Option Nat}:∀ (l:List r7) (left:Nat),(∀ a∈l,a.to<(left:Int))->wArcs r l left=some left
 | [],_,_=>rfl
 | a::l,left,h=>by
  have:=h a (List.mem_cons_self ..)
  rw [wArcs,if_neg (by omega)]
  exact mT l left fun b hb=>h b (List.mem_cons_of_mem _ hb)
theorem Inv.ne {ss:List State} (hi:Inv ss) {m k:Nat} {s:State} (h:k<=m) (hk:ss[k]? =some s):wds ss m k≠[]:=by
 obtain ⟨e,he,_⟩:=z6u hi m k s h hk
 exact List.ne_nil_of_mem he
def x8z (ss:List State) (f m:Nat):Prop:=∀ (k:Nat) (st:State) (left o x g:Nat),k<=m->ss[k]? =some st->C9 f (wds ss m k)->wArcs (wlk g ss) st.a6 left=some x->N f (ss.take left) ((wds ss m k).map (aR o))=(ss.take x,raise o st)
theorem iZ {ss:List State} (hi:Inv ss) {f m k o:Nat} (hk:k<ss.length) (ih:x8z ss f m) (g:Nat):∀ (al:List r7) (last:Int) (left x:Nat) (dX:List r7),okArcs k last al=true->(∀ a∈al,a.to.toNat<=m/\C9 f (wds ss m a.to.toNat))->wArcs (wlk g ss) al left=some x ->
  arcsN (N f) (ss.take left) dX (al.map fun a=>(a.byte,(wds ss m a.to.toNat).map (aR (o+a.out))))=(ss.take x,dX++al.map fun a=>⟨a.byte,o+a.out,a.to⟩)
 | [],_,left,x,dX,_,_,h=>by
  simp only [wArcs,Option.some.injEq] at h
  subst h
  simp [arcsN]
 | a::al,last,left,x,dX,ho,hm,h=>by
  simp only [okArcs,Bool.and_eq_true,decide_eq_true_eq] at ho
  obtain ⟨⟨⟨o1,o2⟩,o3⟩,o4⟩:=ho
  obtain ⟨t,ht⟩:∃ t:Nat,a.to=(t:Int):=⟨a.to.toNat,oM⟩
  have hta:a.to.toNat=t:=oM
  have htk:t<k:=oM
  have y8:ss[t]? =some (ss[t]'(by omega)):=D9 oM
  have R4:=hi.S7 t _ y8
  have hm1:=hm a (List.mem_cons_self ..)
  rw [hta] at hm1
  have fU:=fun b (hb:b∈al)=>hm b (List.mem_cons_of_mem _ hb)
  rw [List.map_cons,arcsN]
  simp only [hta]
  rw [wArcs] at h
  by_cases hl:(left:Int)<=a.to
  ·rw [if_pos hl,hta] at h
   cases g with
   | zero=>simp [wlk] at h
   | succ g =>
    have t9r:J9 ss t=(ss[t]'(by omega)).a6:=by unfold J9;rw [y8];rfl
    rw [wlk,t9r] at h
    cases hq:wArcs (wlk g ss) (ss[t]'(by omega)).a6 left with
    | none=>rw [hq] at h;simp [leave] at h
    | some l =>
     rw [hq] at h
     unfold leave at h
     by_cases htl:t=l
     ·subst htl
      simp only [if_true] at h
      rw [ih t _ left (o+a.out) t g hm1.1 y8 hm1.2 hq]
      simp only
      rw [fB R4,iY,mR hi.nodup y8]
      simp only
      rw [iZ hi hk ih (g+1) al _ (t+1) x _ o4 fU h,List.append_assoc]
      simp [ht]
     ·simp [if_neg htl] at h
  ·rw [if_neg hl] at h
   have hkn:=mT (r:=wlk 0 ss) (ss[t]'(by omega)).a6 left fun b hb=>by have:=C3 R4.a6 hb;omega
   rw [ih t _ left (o+a.out) left 0 hm1.1 y8 hm1.2 hkn]
   simp only
   rw [fB R4,iY,yZ hi.nodup y8 oM]
   simp only
   rw [iZ hi hk ih g al _ left x _ o4 fU h,List.append_assoc]
   simp [ht]
theorem C9.kid {ss:List State} {f m k:Nat} {st:State} (h:ss[k]? =some st) (ha:C9 (f+1) (wds ss (m+1) k)) {a:r7} (hm:a∈st.a6):C9 f (wds ss m a.to.toNat):=fun e he=>by
 have:=ha (shift a.byte a.out e) (by rw [Q1 h];exact List.mem_append_right _ (List.mem_flatMap.2 ⟨a,hm,List.mem_map_of_mem he⟩))
 have h2:(a.byte::e.1).length<f+1:=this
 simpa using h2
theorem x2a {ss:List State} (hi:Inv ss):∀ (m f:Nat),x8z ss f m:=by
 intro m
 induction m with
 | zero =>
  intro f k st left o x g hk y8 F6 hw
  obtain rfl:k=0:=oM
  have R4:=hi.S7 0 _ y8
  have v2d:st.a6=[]:=by
   cases ha:st.a6 with
   | nil=>rfl
   | cons a l=>have:=C3 R4.a6 (a:=a) (by rw [ha];exact List.mem_cons_self ..);omega
  rw [v2d] at hw
  simp only [wArcs,Option.some.injEq] at hw
  subst hw
  have E6:=hi.ne (Nat.le_refl 0) y8
  cases f with
  | zero =>
   obtain ⟨e,he⟩:=List.exists_mem_of_ne_nil _ E6
   exact absurd (F6 e he) oM
  | succ f =>
   have hwd:wds ss 0 0=H2 st:=by rw [wds,y8]
   have h1:groups ((H2 st).map (aR o))=[]:=by have:=sB (s:=st) (o:=o) (R:=[]);rwa [List.append_nil] at this
   have h2:=wQ R4 (o:=o) (R:=[]) (fun e he=>by cases he)
   rw [List.append_nil] at h2
   rw [hwd,N,h1,h2]
   simp only [arcsN]
   unfold raise
   rw [v2d]
   rfl
 | succ m ih =>
  intro f k st left o x g hk y8 F6 hw
  have R4:=hi.S7 k _ y8
  have hkl:=(E2 y8).1
  cases f with
  | zero =>
   obtain ⟨e,he⟩:=List.exists_mem_of_ne_nil _ (hi.ne hk y8)
   exact absurd (F6 e he) oM
  | succ f =>
   have nF:∀ a∈st.a6,a.to.toNat<=m/\C9 f (wds ss m a.to.toNat):=fun a ha=>⟨by have:=C3 R4.a6 ha;omega,C9.kid y8 F6 ha⟩
   have h1:=mS (fun a=>wds ss m a.to.toNat) o st.a6 k (-1) R4.a6 fun a ha=>by
    have:=C3 R4.a6 ha
    exact hi.ne (nF a ha).1 (D9 oM)
   rw [x2b y8,N,sB,h1,wQ R4 fun e he=>fC (fun a=>wds ss m a.to.toNat) (fun a=>o+a.out) st.a6 e (List.mem_of_mem_head? he),iZ hi hkl (ih f) g st.a6 _ left x [] R4.a6 nF hw]
   rfl
/-! what is right -/
theorem sC {ss:List State}:∀ (l:List State) (i:Nat),P5 ss i l=true->∀ (j:Nat) (s:State),l[j]? =some s->R3 ss (i+j) s=true
 | [],_,_,j,s,h=>by simp at h
 | t::l,i,h,j,s,hj=>by
  rw [P5,Bool.and_eq_true] at h
  cases j with
  | zero =>
   obtain rfl:t=s:=by simpa using hj
   exact h.1
  | succ j=>have:=sC l (i+1) h.2 j s (by simpa using hj);rwa [show i+1+j=i+(j+1) by omega] at this
theorem mU:∀ (l:List State) (i:Nat),formedL i l=true->∀ s∈l,s.final=false->s.out=0
 | [],_,_,s,h,_=>by cases h
 | t::l,i,h,s,hs,hf=>by
  rw [formedL,Bool.and_eq_true,Bool.and_eq_true] at h
  rcases List.mem_cons.1 hs with rfl | hs
  ·have:=h.1.1;rw [hf] at this;simpa using this
  ·exact mU l _ h.2 s hs hf
theorem wR {ss:List State} {i:Nat} {s:State} (h:R3 ss i s=true):(s.final=true\/s.a6≠[])/\leastOf s=0/\s∉ss.take i:=by
 unfold R3 at h
 simp only [Bool.and_eq_true,decide_eq_true_eq] at h
 refine ⟨?_,h.1.2,h.2⟩
 have h1:=h.1.1
 cases hf:s.final with
 | true=>exact .inl rfl
 | false =>
  rw [hf] at h1
  refine .inr fun h2=> ?_
  rw [h2] at h1
  simp at h1
theorem y5g {ss:List State} {init:Nat} (h:rightF ss init=true) (hl:eZ ss=false) (hc:wds ss (ss.length-1) (ss.length-1)≠[]):Inv ss/\E9 ss=true:=by
 have hf:=E0 h
 have kJ:=hf
 unfold C4 at kJ
 rw [Bool.and_eq_true,decide_eq_true_eq] at kJ
 obtain ⟨f1,f2⟩:=kJ
 have hk:ss[ss.length-1]? =some (ss[ss.length-1]'(by omega)):=D9 oM
 unfold rightF at h
 rw [hf,Bool.true_and,List.getLast?_eq_getElem?,hk] at h
 simp only at h
 split at h
 ·rename_i hd
  exfalso
  rw [Bool.and_eq_true,decide_eq_true_eq] at hd
  refine hc ?_
  have h1:(ss[ss.length-1]'(by omega)).a6=[]:=List.length_eq_zero_iff.1 hd.2
  have h2:(ss[ss.length-1]'(by omega)).final=false:=by simpa using hd.1
  rw [fR hk h1]
  unfold H2
  rw [h2]
  rfl
 ·rw [Bool.and_eq_true] at h
  have hg:=fun j s hj=>by have:=sC ss 0 h.2 j s hj;rwa [Nat.zero_add] at this
  refine ⟨⟨?_,fun i s hi=> ?_⟩,h.1⟩
  ·refine List.pairwise_iff_getElem.2 fun i j hi hj dU he=> ?_
   have:=(wR (hg j _ (D9 hj))).2.2
   exact this (by rw [<- he];exact List.mem_take_iff_getElem.2 ⟨i,oM,rfl⟩)
  ·obtain ⟨g1,g2,_⟩:=wR (hg i s hi)
   refine ⟨?_,mU ss 0 f1 s (U0 hi),g1,g2⟩
   have:=X8 ss 0 f1 i s hi
   rwa [Nat.zero_add] at this
theorem zA {ss:List State} {st:State} (h:E9 ss=true) (hp:0<ss.length) (y8:ss[ss.length-1]? =some st):wArcs (wlk (ss.length-1) ss) st.a6 0=some (ss.length-1):=by
 unfold E9 at h
 rw [contW] at h
 unfold resume at h
 rw [List.drop_zero,show J9 ss (ss.length-1)=st.a6 by unfold J9;rw [y8];rfl] at h
 cases hq:wArcs (wlk (ss.length-1) ss) st.a6 0 with
 | none=>rw [hq] at h;simp [leave] at h
 | some x =>
  rw [hq] at h
  unfold leave at h
  by_cases hx:ss.length-1=x
  ·rw [hx]
  ·simp [if_neg hx] at h
theorem x1z {ss:List State} (hi:Inv ss) (ho:E9 ss=true) (hp:0<ss.length) (init:Nat) (F6:C9 256 (wds ss (ss.length-1) (ss.length-1))):(K 256 [] ((wds ss (ss.length-1) (ss.length-1)).map (aR init))).1=ss:=by
 have y8:ss[ss.length-1]? =some (ss[ss.length-1]'(by omega)):=D9 oM
 have h:=x2a hi (ss.length-1) 256 (ss.length-1) _ 0 init _ _ nR y8 F6 (zA ho hp y8)
 rw [List.take_zero] at h
 unfold K
 rw [h]
 simp only
 rw [fB (hi.S7 _ _ y8),iY,mR hi.nodup y8]
 show ss.take (ss.length-1+1)=ss
 rw [List.take_of_length_le oM]
theorem x8y {ss:List State} (D5:∀ (k:Nat) (st:State),ss[k]? =some st->okArcs k (-1) st.a6=true):∀ (m k:Nat),L6 (wds ss m k):=by
 intro m
 induction m with
 | zero =>
  intro k
  cases hk:ss[k]? with
  | none=>rw [wds,hk];exact List.Pairwise.nil
  | some st=>rw [wds,hk];show L6 (H2 st);unfold H2;split;exact List.pairwise_singleton _ _;exact List.Pairwise.nil
 | succ m ih =>
  intro k
  cases hk:ss[k]? with
  | none=>rw [wds,hk];exact List.Pairwise.nil
  | some st =>
   rw [Q1 hk]
   refine List.pairwise_append.2 ⟨?_,?_,?_⟩
   ·unfold H2;split;exact List.pairwise_singleton _ _;exact List.Pairwise.nil
   ·have:∀ (l:List r7) (last:Int),okArcs k last l=true->L6 (l.flatMap fun a=>(wds ss m a.to.toNat).map (shift a.byte a.out)):=by
     intro l
     induction l with
     | nil=>intro _ _;exact List.Pairwise.nil
     | cons a l ihl =>
      intro last h
      have h2:=h
      simp only [okArcs,Bool.and_eq_true,decide_eq_true_eq] at h2
      rw [List.flatMap_cons]
      refine List.pairwise_append.2 ⟨List.pairwise_map.2 ((ih a.to.toNat).imp fun {x y} hxy=> ?_),ihl _ h2.2,fun x hx y hy=> ?_⟩
      ·exact P7.2 (.inr ⟨rfl,hxy⟩)
      ·obtain ⟨e,_,rfl⟩:=List.mem_map.1 hx
       obtain ⟨b,w,h3,h4⟩:=cZ (fun a=>wds ss m a.to.toNat) l k a.byte h2.2 y hy
       rw [h3]
       exact P7.2 (.inl oM)
    exact this st.a6 _ (D5 k st hk)
   ·intro x hx y hy
    have kC:x.1=[]:=by unfold H2 at hx;split at hx;simp at hx;rw [hx];cases hx
    have hy1:=fC (fun a=>wds ss m a.to.toNat) (fun a=>a.out) st.a6 y hy
    rw [kC]
    cases hq:y.1 with
    | nil=>exact absurd hq hy1
    | cons b w=>rfl
/-! what the asks say of all words -/
theorem x1y {ss:List State} (D5:∀ (k:Nat) (st:State),ss[k]? =some st->okArcs k (-1) st.a6=true) (m:Nat) (hm:ss.length<=m+1) (hl:0<ss.length):∀ e∈wds ss m (ss.length-1),(e.1.length:Int)<=z7j ss :=
 aQ (z:=(0:Int)) (o:=z7k) (wi:=fun x c _=>pK x c) D5 (fun l x=>∀ e∈l,(e.1.length:Int)<=x) (fun st e he=>by
  unfold H2 at he
  unfold z7k
  cases hf:st.final
  ·rw [hf] at he;cases he
  ·rw [hf] at he;obtain rfl:e=([],st.out):=by simpa using he
   simp) (fun l x l2 c a h1 h2 e he=>by
  unfold pK
  rcases List.mem_append.1 he with he | he
  ·have:=h1 e he
   split<;>omega
  ·obtain ⟨y,hy,rfl⟩:=List.mem_map.1 he
   have:=h2 y hy
   rw [if_neg (by omega)]
   show (((a.byte::y.1).length:Nat):Int)<=_
   rw [List.length_cons]
   omega) m hm hl
theorem w2j {ss:List State} (D5:∀ (k:Nat) (st:State),ss[k]? =some st->okArcs k (-1) st.a6=true) (m:Nat) (hm:ss.length<=m+1) (hl:0<ss.length):(gtV ss).fits=true->∀ e∈wds ss m (ss.length-1),e.2<=(gtV ss).n :=
 (aQ (z:=(⟨0,false,false⟩:y9)) D5 (fun l (x:y9)=>(x.any=false->l=[])/\(x.fits=true->∀ e∈l,e.2<=x.n)) (fun st=>by
  unfold H2 gtO
  cases hf:st.final
  ·simp
  ·simp) (fun l x l2 c a h1 h2=>by
  unfold gtW y9.or
  cases hc:c.any with
  | false =>
   have:=h2.1 hc
   subst this
   simpa using h1
  | true =>
   have k2:(c.fits&&decide (c.n+a.out<y5))=true->∀ e∈l2.map (shift a.byte a.out),e.2<=(c.n+a.out)%y5:=fun h e he=>by
    rw [Bool.and_eq_true,decide_eq_true_eq] at h
    obtain ⟨y,hy,rfl⟩:=List.mem_map.1 he
    have:=h2.2 h.1 y hy
    rw [Nat.mod_eq_of_lt h.2]
    show a.out+y.2<=_
    omega
   cases hx:x.any with
   | false =>
    have:=h1.1 hx
    subst this
    simp only [if_true,Bool.false_eq_true,if_false,List.nil_append]
    exact ⟨fun h=>(Bool.noConfusion h),k2⟩
   | true =>
    simp only [if_true]
    refine ⟨fun h=>(Bool.noConfusion h),fun h e he=> ?_⟩
    rw [Bool.and_eq_true] at h
    rcases List.mem_append.1 he with he | he
    ·exact Nat.le_trans (h1.2 h.1 e he) (Nat.le_max_left _ _)
    ·exact Nat.le_trans (k2 h.2 e he) (Nat.le_max_right _ _)) m hm hl).2
theorem pB {s:ByteArray} {v:Nat} (h:v<=4294967296):Y1 (eH s v)=(wl s,v)/\(eH s v).word=s:=by
 unfold eH Y1 M9
 rw [if_neg (by omega)]
 split
 ·rename_i h0;subst h0;exact ⟨rfl,rfl⟩
 ·refine ⟨?_,rfl⟩
  simp only [Bool.false_eq_true,if_false]
  refine Prod.ext rfl ?_
  show (((v-1:Nat):Int)).toNat+1=v
  omega
structure v2c (n:Nat) (init:Nat) (ss:List State) (es:List z6):Prop where
 all:L5 ss init ⟨#[]⟩ n=es
 len:es.length=n
 pos:0<n
 ok:∀ e∈es,gM e/\okW e.word=true/\A7 e=e
 Z0:P3 es
 build:buildF es=⟨ss,init⟩
theorem w2i {n init:Nat} {ss:List State} (a8:∀ s∈ss,J8 s) (h:rightS n ss init=true):∃ es,v2c n init ss es:=by
 have ha:=fun j hj=>List.all_eq_true.1 h j (List.mem_range.2 hj)
 have a0:rightF ss init=true:=ha 0 oM
 have a1:yY ss n=true:=ha 1 oM
 have a2:decide (z7j ss<=255)=true:=ha 2 oM
 have a3:(!eZ ss)=true:=ha 3 oM
 have a4:yX ss init=true:=ha 4 oM
 have hf:=E0 a0
 have kJ:=hf
 unfold C4 at kJ
 rw [Bool.and_eq_true,decide_eq_true_eq] at kJ
 obtain ⟨f1,hp⟩:=kJ
 have D5:∀ (k:Nat) (st:State),ss[k]? =some st->okArcs k (-1) st.a6=true:=fun k st hk=>by have:=X8 ss 0 f1 k st hk;rwa [Nat.zero_add] at this
 have hm:ss.length<=ss.length-1+1:=oM
 obtain ⟨W,hW⟩:∃ x,wds ss (ss.length-1) (ss.length-1)=x:=⟨_,rfl⟩
 have t9q:=y8u D5 _ hm hp
 have v2b:=x1y D5 _ hm hp
 have hgt:=w2j D5 _ hm hp
 have w2h:=x8y D5 (ss.length-1) (ss.length-1)
 rw [hW] at t9q v2b hgt w2h
 unfold yY at a1
 simp only [Bool.and_eq_true,decide_eq_true_eq] at a1 a2
 have hWn:W.length=n/\0<n:=oM
 have hl0:eZ ss=false:=by simpa using a3
 have z1x:W≠[]:=fun h0=>by rw [h0] at hWn;simp at hWn;omega
 obtain ⟨hi,hor⟩:=y5g a0 hl0 (by rw [hW];exact z1x)
 unfold yX at a4
 simp only [Bool.and_eq_true,decide_eq_true_eq] at a4
 obtain ⟨g1,⟨g2,g3⟩,g4⟩:=a4
 rw [Nat.mod_eq_of_lt g3] at g4
 have y5f:∀ e∈W,init+e.2<=4294967296:=fun e he=>by have:=hgt g2 e he;omega
 have hk:ss[ss.length-1]? =some (ss[ss.length-1]'(by omega)):=D9 oM
 have t9p:∀ e∈W,e.1≠[]:=by
  intro e he
  have hlf:(ss[ss.length-1]'(by omega)).final=false:=by have:=hl0;unfold eZ at this;rw [List.getLast?_eq_getElem?,hk] at this;simpa using this
  rw [<- hW] at he
  cases hq:ss.length-1 with
  | zero =>
   exfalso
   rw [<- hW] at z1x
   have h1:(ss[ss.length-1]'(by omega)).a6=[]:=by
    cases hc:(ss[ss.length-1]'(by omega)).a6 with
    | nil=>rfl
    | cons a l=>have:=C3 (D5 _ _ hk) (a:=a) (by rw [hc];exact List.mem_cons_self ..);omega
   rw [fR hk h1] at z1x
   unfold H2 at z1x
   rw [hlf] at z1x
   exact z1x rfl
  | succ m =>
   have M5:=hk
   rw [show wds ss (ss.length-1) (ss.length-1)=wds ss (m+1) (ss.length-1) by rw [<- hq],Q1 hk] at he
   rcases List.mem_append.1 he with he | he
   ·unfold H2 at he;rw [hlf] at he;cases he
   ·exact fC (fun a=>wds ss m a.to.toNat) (fun a=>a.out) _ e he
 have Z7:∀ (m k:Nat),∀ e∈wds ss m k,∀ b∈e.1,b<256:=by
  intro m
  induction m with
  | zero =>
   intro k e he
   cases S3:ss[k]? with
   | none=>rw [wds,S3] at he;cases he
   | some st=>rw [wds,S3] at he;have he:e∈H2 st:=he;unfold H2 at he;split at he;simp at he;subst he;intro b hb;cases hb;cases he
  | succ m ih =>
   intro k e he
   cases S3:ss[k]? with
   | none=>rw [wds,S3] at he;cases he
   | some st =>
    rw [Q1 S3] at he
    rcases List.mem_append.1 he with he | he
    ·unfold H2 at he;split at he;simp at he;subst he;intro b hb;cases hb;cases he
    ·obtain ⟨a,ha,h2⟩:=List.mem_flatMap.1 he
     obtain ⟨y,hy,rfl⟩:=List.mem_map.1 h2
     intro b hb
     rcases List.mem_cons.1 (show b∈a.byte::y.1 from hb) with rfl | hb
     ·exact oL a8 S3 ha
     ·exact ih _ y hy b hb
 have hwk:=z7c a8 [] (ss.length-1) (ss.length-1) init ⟨#[]⟩ (by rw [hW];exact y5f)
 rw [hW,show ss.length-1+1=ss.length by omega] at hwk
 have hfl:(W.filter fun e=> !lexlt (wl (⟨#[]⟩:ByteArray)++e.1) [])=W:=List.filter_eq_self.2 fun e _=>by rw [R2];rfl
 rw [hfl] at hwk
 have F6:L5 ss init ⟨#[]⟩ n=W.map fun e=>eH (bl e.1) (init+e.2):=by
  have he:U7 (walkS ss [] ss.length (ss.length-1) ⟨#[]⟩ init true)=W.map fun e=>eH (bl e.1) (init+e.2):=by
   rw [hwk]
   unfold U7
   rw [List.filter_eq_self.2 fun x hx=>by
    obtain ⟨e,he,rfl⟩:=List.mem_map.1 hx
    unfold isW
    rw [Bool.true_and]
    exact decide_eq_true (y5f e he),List.map_map]
   refine List.map_congr_left fun e _=> ?_
   show eH (⟨#[]⟩++bl e.1) (init+e.2)=_
   rw [empty_append]
  unfold L5
  rw [if_neg (by omega)]
  show (U7 (walkS ss [] ss.length (ss.length-1) ⟨#[]⟩ init true)).take _=_
  rw [he,Int.toNat_natCast,List.take_of_length_le (by rw [List.length_map];omega)]
 have hwl:∀ e∈W,wl (bl e.1)=e.1:=fun e he=>cB (Z7 _ _ e (by rw [hW];exact he))
 have hwv:(W.map fun e=>eH (bl e.1) (init+e.2)).map Y1=W.map (aR init):=by
  rw [List.map_map]
  refine List.map_congr_left fun e he=> ?_
  show Y1 (eH (bl e.1) (init+e.2))=(e.1,init+e.2)
  rw [(pB (y5f e he)).1,hwl e he]
 have n8:∀ e∈W,e.1.length<=255:=fun e he=>by have:=v2b e he;omega
 have v2a:∀ x∈(W.map fun e=>eH (bl e.1) (init+e.2)),gM x/\okW x.word=true/\A7 x=x:=fun x hx=>by
  obtain ⟨e,he,rfl⟩:=List.mem_map.1 hx
  have hg:=z8w (bl e.1) (init+e.2)
  refine ⟨hg.1,?_,hg.2⟩
  rw [(pB (y5f e he)).2]
  unfold okW
  rw [decide_eq_true (by rw [<- l9,hwl e he];exact n8 e he),Bool.and_true]
  have h1:(bl e.1).toList≠[]:=fun h0=>by
   have h2:=hwl e he
   rw [ByteArray.toList_eq] at h0
   have h3:(wl (bl e.1)).length=0:=by rw [l9];show (bl e.1).data.size=0;rw [<- Array.length_toList,h0];rfl
   rw [h2] at h3
   exact t9p e he (List.length_eq_zero_iff.1 h3)
  cases hq:(bl e.1).toList with
  | nil=>exact absurd hq h1
  | cons=>rfl
 have yJ:P3 (W.map fun e=>eH (bl e.1) (init+e.2)):=List.pairwise_map.2 (w2h.imp_of_mem fun {x y} hx hy hxy=>by
  show lexlt (wl (eH (bl x.1) (init+x.2)).word) (wl (eH (bl y.1) (init+y.2)).word)=true
  rw [(pB (y5f x hx)).2,(pB (y5f y hy)).2,hwl x hx,hwl y hy]
  exact hxy)
 refine ⟨_,F6,by rw [List.length_map];exact hWn.1,hWn.2,v2a,yJ,?_⟩
 have hWl:W.map (aR init)≠[]:=by simpa using z1x
 have bS:C9 256 W:=fun e he=>by have:=n8 e he;omega
 rw [cA v2a yJ,hwv,jJ (fun e he=>by obtain ⟨x,hx,rfl⟩:=List.mem_map.1 he;exact bS x hx) hWl (List.pairwise_map.2 w2h)]
 have hK:=x1z hi hor hp init (by rw [hW];exact bS)
 rw [hW] at hK
 rw [hK]
 have hl9:leastV (W.map (aR init))=init:=by
  obtain ⟨z,hz,gE⟩:=z6u hi (ss.length-1) (ss.length-1) _ nR hk
  rw [hW] at hz
  refine (M8 hWl).uniq ⟨?_,fun v hv=> ?_⟩
  ·rw [List.map_map]
   exact List.mem_map.2 ⟨z,hz,by show init+z.2=init;omega⟩
  ·rw [List.map_map] at hv
   obtain ⟨x,_,rfl⟩:=List.mem_map.1 hv
   exact Nat.le_add_right _ _
 rw [hl9]
end Dw
end Go.Proofs.YtcddnmhmcieebaaGreatDoor
