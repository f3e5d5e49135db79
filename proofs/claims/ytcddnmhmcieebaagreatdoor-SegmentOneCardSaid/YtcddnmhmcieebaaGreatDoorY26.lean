/- law16: SegmentOne. -/
import Derived.Test.YtcddnmhmcieebaaGreatDoorY25
import Derived.Test.YtcddnmhmcieebaaGreatDoorSD
import Derived.Test.YtcddnmhmcieebaaGreatDoorSW
import Derived.Test.YtcddnmhmcieebaaGreatDoorY23
import Derived.Test.YtcddnmhmcieebaaGreatDoorTools
import Derived.Test.YtcddnmhmcieebaaGreatDoorY9
import Derived.Test.YtcddnmhmcieebaaGreatDoorY10
import Derived.ProofKit
import Derived.Deep.Slices
import Derived.Deep.Fields
import Derived.OpenShut
namespace Go.Proofs.YtcddnmhmcieebaaGreatDoor
open Go.RowKit
set_option linter.unusedSimpArgs false
set_option linter.unusedVariables false
set_option linter.unnecessarySimpa false
namespace Dw
theorem x8x {S:ByteArray} (F7:S.size<=900000000) {en init:Nat} {ss:List State} (hp:Q0 S= .ok (en,init,ss)) (hr:rightS en ss init=true):∃ es,v2c en init ss es/\makeV es=(S,0):=by
 obtain ⟨hm,a8,K0,hl,hS⟩:=wC F7 hp
 obtain ⟨es,hs⟩:=w2i a8 hr
 refine ⟨es,hs,?_⟩
 have h0:aW es=0:=eP _ _ (fun e he=>(hs.ok e he).2.1) hs.Z0 (fun q hq=>by cases hq)
 unfold makeV
 rw [if_neg (by have:=hs.pos;rw [hs.len];omega),if_neg (fun h=>h h0),hs.build,hs.len]
 refine Prod.ext hS.symm ?_
 show (putR (en:Int) init ss).2=0
 unfold putR
 rw [if_pos hm]
theorem z1w {w w1:World} {e:Ending} {s:ByteArray} (h:gN w w1 e s):∃ (pv:Value) (cd:Int),e= .returned (.tuple #[pv,.int .i64 cd])/\Below w.heap.size w w1/\(cd=12\/(cd=0/\∃ (Q:Nat) (sv:Value) (en init:Nat) (ss:List State),pv= .pointer (some ⟨Q,0,none⟩)/\Q0 s= .ok (en,init,ss)/\rightS en ss init=true/\w1.heap[Q]? =some (.cells #[sv,.int .u64 init,.int .i64 en,.int .i64 s.size] 98 (0,0))/\RS w1 sv ss)):=by
 unfold gN at h
 cases hp:Q0 s with
 | error b=>rw [hp] at h;exact ⟨_,_,h.1,h.2,.inl rfl⟩
 | ok x =>
  obtain ⟨en,init,ss⟩:=x
  rw [hp] at h
  simp only at h
  cases hr:rightS en ss init with
  | false=>rw [hr] at h;exact ⟨_,_,h.1,h.2,.inl rfl⟩
  | true=>rw [hr] at h;obtain ⟨Q,sv,h1,_,h2,h3,h4⟩:=h;exact ⟨_,_,h1,h4,.inr ⟨rfl,Q,sv,en,init,ss,rfl,rfl,hr,h2,h3⟩⟩
theorem x8w {n:Int} {init:Nat} {ss:List State} (h:rightS n ss init=true):∀ (k:Nat) (st:State),ss[k]? =some st->okArcs k (-1) st.a6=true:=by
 have hf:=E0 (show rightF ss init=true from List.all_eq_true.1 h 0 (List.mem_range.2 oM))
 unfold C4 at hf
 rw [Bool.and_eq_true] at hf
 intro k st hk
 have:=X8 ss 0 hf.1 k st hk
 rwa [Nat.zero_add] at this
structure XF (ss:List State):Prop where
 ok:∀ s∈ss,J8 s
 len:ss.length<=10000
 uG:∀ s∈ss,s.a6.length<=1000
theorem y5e {en:Nat} {init:Nat} {ss:List State} (h:XF ss) (hen:en<=100) (hi:init<18446744073709551616):(bl (putR (en:Int) init ss).1).size<=900000000/\∀ n i s2,Q0 (bl (putR (en:Int) init ss).1)= .ok (n,i,s2)->n=en/\i=init/\s2=ss:=by
 by_cases hm:P1 (en:Int) ss=true
 ·have hp:=pW hm h.ok (by have:=h.len;omega) hi
  refine ⟨?_,fun n i s2 h2=> ?_⟩
  ·have hb:=wN (n:=en) (i:=init) h.ok (by have:=h.len;omega) oM hm hi
   rw [X4,show (putR (en:Int) init ss).1=Crc.D2 (N0 en init ss) by unfold putR;rw [if_pos hm];rfl,Crc.R6]
   omega
  ·rw [hp,Int.toNat_natCast] at h2
   cases h2
   exact ⟨rfl,rfl,rfl⟩
 ·have h0:(putR (en:Int) init ss).1=[]:=by unfold putR;rw [if_neg hm]
  rw [h0]
  refine ⟨dC,fun n i s2 h2=> ?_⟩
  rw [show Q0 (bl [])= .error (16,0) by kernel_rfl] at h2
  cases h2
theorem XF.set {ss:List State} (h:XF ss) {j:Nat} {x s:State} (hj:ss[j]? =some x) (h1:s.out<18446744073709551616) (h2:s.a6=x.a6):XF (ss.set j s):=by
 have hx:=h.ok x (U0 hj)
 have hf:=h.uG x (U0 hj)
 have key:∀ t∈ss.set j s,t=s\/t∈ss:=fun t ht=>(List.mem_or_eq_of_mem_set ht).symm
 refine ⟨fun t ht=> ?_,by rw [List.length_set];exact h.len,fun t ht=> ?_⟩
 ·rcases key t ht with rfl | h9
  ·exact ⟨h1,by rw [h2];exact hx.2.1,by rw [h2];exact hx.2.2⟩
  ·exact h.ok t h9
 ·rcases key t ht with rfl | h9
  ·rw [h2];exact hf
  ·exact h.uG t h9
theorem x1x (w:World) (own:List z6) (hlo:∀ e∈own,gM e/\okW e.word=true/\A7 e=e) (hlr:P3 own) (hll:own.length<=30) (hbf:(∀ s∈(buildF own).l3,J8 s/\s.a6.length<=256)/\(buildF own).l3.length<=2+255*own.length) (x1w:(buildF own).init<18446744073709551616) :
  Calls Tryz.prog 13 #[.string (makeV own).1] w fun e w1=>∃ (n:Nat) (gv:Value) (gi:Nat) (dM:List State) (ev:Value),e= .returned (.tuple #[.int .i64 n,.agg #[gv,.int .u64 gi],ev])/\n<=30/\gi<18446744073709551616/\RS w1 gv dM/\XF dM/\Below w.heap.size w w1:=by
 by_cases hn:own=[]
 ·subst hn
  rw [show (makeV []).1=⟨#[]⟩ from congrArg Prod.fst y3d]
  refine (y9i w ⟨#[]⟩ dC).mono fun e w1 h=> ?_
  rw [show Q0 ⟨#[]⟩= .error (16,0) by kernel_rfl] at h
  obtain ⟨q,h1,_,_,h2⟩:=h
  exact ⟨0,_,0,[],_,h1,oM,oM,RS.S0 _,⟨(fun s hs=>by cases hs),sP,(fun s hs=>by cases hs)⟩,h2⟩
 ·have hF:M1 own:=⟨hlo,hlr,hn,oM,hbf.1,hbf.2⟩
  have kp:=hF.put
  refine (y9i w _ kp.sz).mono fun e w1 h=> ?_
  rw [kp.get] at h
  obtain ⟨sv,h1,h2,h3⟩:=h
  exact ⟨_,_,_,_,_,h1,hll,x1w,h2,⟨fun s hs=>(hbf.1 s hs).1,by have:=hbf.2;omega,fun s hs=>by have:=(hbf.1 s hs).2;omega⟩,h3⟩
theorem wS {w:World} {B:Nat->Prop} {b:Nat}:∀ (ss:List State) (off:Nat),(∀ (i:Nat) (s:State),ss[i]? =some s->∃ av,SAt w B b (off+i*3) av s)->∃ l:List (Value×State),l.map Prod.snd=ss/\(∀ x∈l,RA w B x.1 x.2.a6)/\∀ j u,(lN l)[j]? =some u->w.cell? ⟨b,off+j,none⟩=some u
 | [],off,_=>⟨[],rfl,(fun x hx=>by cases hx),fun j u h=>by simp [lN] at h⟩
 | s::ss,off,h=>by
  obtain ⟨av,h0⟩:=h 0 s rfl
  obtain ⟨l,h1,h2,h3⟩:=wS ss (off+3) (fun i t hi=>by obtain ⟨a,ha⟩:=h (i+1) t hi;exact ⟨a,by rw [show off+3+i*3=off+(i+1)*3 by omega];exact ha⟩)
  have k0:=h0.c0;have k1:=h0.c1;have k2:=h0.c2
  rw [Nat.zero_mul,Nat.add_zero] at k0 k1 k2
  refine ⟨(av,s)::l,by rw [List.map_cons,h1],fun x hx=> ?_,fun j u hj=> ?_⟩
  ·rcases List.mem_cons.1 hx with rfl | hx
   ·exact h0.a6
   ·exact h2 x hx
  ·match j,hj with
   | 0,hj =>
    obtain rfl:av=u:=by simpa [lN] using hj
    exact k0
   | 1,hj =>
    obtain rfl:Value.bool s.final=u:=by simpa [lN] using hj
    exact k1
   | 2,hj =>
    obtain rfl:Value.int .u64 s.out=u:=by simpa [lN] using hj
    exact k2
   | j+3,hj =>
    rw [show off+(j+3)=off+3+j by omega]
    exact h3 j u (by simpa [lN] using hj)
theorem x1v (l:List (Value×State)) {w:World} {B:Nat->Prop} (h:∀ x∈l,RA w B x.1 x.2.a6):∀ u∈lN l,u.oneCell'=true:=by
 intro u hu
 obtain ⟨x,hx,h2⟩:=List.mem_flatMap.1 hu
 obtain ⟨A,c,h3,_⟩:=h x hx
 simp at h2
 rcases h2 with rfl | rfl | rfl
 ·rw [h3];rfl
 ·rfl
 ·rfl
theorem SR.blk {w:World} {base g n c:Nat} {C:Nat->Prop} {l:List (Value×State)} (h:SR w base C (.slice (some ⟨g,0,none⟩) n c) l):∃ cur,w.heap[g]? =some (.cells cur 46 (0,0)):=by
 rcases h.row.2 with ⟨h0,_⟩ | ⟨g',cap,cur,h0,_,hc,_⟩
 ·cases h0
 ·injection h0 with h0
  injection h0 with h0
  injection h0 with h0
  subst h0
  exact ⟨cur,hc⟩
theorem t9n (a b c d:Value) (j:Nat) (w:World) (hj:j=0\/j=1):(Instr.index 48 (.agg #[a,b,c,d]) (.int .i64 j)).run Tryz.prog w= .ok (if j=0 then .agg #[a,b] else .agg #[c,d]) w:=by
 rcases hj with rfl | rfl
 ·simp [Instr.index,run_underlying Tryz.underlying48,asIntOf,go_sem]
 ·simp [Instr.index,run_underlying Tryz.underlying48,asIntOf,go_sem]
theorem RS.rows {w:World} {A:Option Addr} {n c:Nat} {ss:List State} (h:RS w (.slice A n c) ss) (h0:0<ss.length):∃ (b off:Nat) (l:List (Value×State)),A=some ⟨b,off,none⟩/\l.map Prod.snd=ss/\(∀ x∈l,RA w (fun k=>k<w.heap.size) x.1 x.2.a6)/\∀ j u,(lN l)[j]? =some u->w.cell? ⟨b,off+j,none⟩=some u:=by
 obtain ⟨A',c',h1,h2,h3⟩:=h.n
 injection h1 with h1 _ _
 obtain ⟨b,off,h4,h5,h6⟩:=h3 h0
 obtain ⟨l,k1,k2,k3⟩:=wS ss off h6
 exact ⟨b,off,l,h1.trans h4,k1,k2,k3⟩
def sc (x:Value×State):List Value:=[x.1,.bool x.2.final,.int .u64 x.2.out]
theorem x1u {l:List (Value×State)} {j q:Nat} {x x':Value×State} {u:Value} (hj:l[j]? =some x) (hq:q<3) (hx:sc x'=(sc x).set q u):lN (l.set j x')=(lN l).set (j*3+q) u:=by
 obtain ⟨n8,mF⟩:=E2 hj
 refine List.ext_getElem? fun t=> ?_
 by_cases ht:t<l.length*3
 ·have e1:=oT (l.set j x') (t / 3) (t%3) sO oM
  rw [show t / 3*3+t%3=t by omega] at e1
  have e0:=oT l (t / 3) (t%3) oM oM
  rw [show t / 3*3+t%3=t by omega] at e0
  rw [e1,List.getElem?_set,e0]
  by_cases htj:t / 3=j
  ·have hg:(l.set j x')[t / 3]'(by simp;omega)=x':=by simp [htj]
   have hg2:l[t / 3]'(by omega)=x:=by simp only [htj];exact mF
   rw [hg,hg2]
   show (sc x')[t%3]? =_
   rw [hx,List.getElem?_set]
   have hl:(sc x).length=3:=rfl
   by_cases h2:q=t%3
   ·have e1:q<(sc x).length:=by rw [hl];omega
    have e2:j*3+q=t:=oM
    have e3:j*3+q<(lN l).length:=by rw [dF];omega
    rw [if_pos h2,if_pos e1,if_pos e2,if_pos e3]
   ·rw [if_neg h2,if_neg (by omega)];rfl
  ·have hg:(l.set j x')[t / 3]'(by simp;omega)=l[t / 3]'(by omega):=by rw [List.getElem_set_ne (fun e=>htj e.symm)]
   rw [hg,if_neg (by omega)]
 ·rw [List.getElem?_eq_none (by rw [dF];simp;omega),List.getElem?_eq_none (by rw [List.length_set,dF];omega)]
theorem w2g {α:Type} {l:List α} {j i:Nat} {x' y:α} (h:(l.set j x')[i]? =some y):(i=j/\y=x')\/(i≠j/\l[i]? =some y):=by
 by_cases dU:i=j
 ·subst dU
  rw [List.getElem?_set_self' ] at h
  cases hl:l[i]? with
  | none=>rw [hl] at h;simp at h
  | some z=>rw [hl] at h;simp at h;exact .inl ⟨rfl,h.symm⟩
 ·rw [List.getElem?_set_ne (fun e=>dU e.symm)] at h
  exact .inr ⟨dU,h⟩
theorem x1t (x:Int):∃ z:Int,IntKind.i64.wrap x=z/\ -9223372036854775808<=z/\z<9223372036854775808:=by
 have h:IntKind.i64.wrap x=if true&&decide (x%18446744073709551616 ≥ 9223372036854775808) then x%18446744073709551616-18446744073709551616 else x%18446744073709551616:=rfl
 refine ⟨_,rfl,?_⟩
 rw [h]
 by_cases h2:x%18446744073709551616 ≥ 9223372036854775808
 ·rw [decide_eq_true h2];simp only [Bool.and_self,if_true];omega
 ·rw [decide_eq_false h2];simp only [Bool.and_false,Bool.false_eq_true,if_false];omega
theorem x1s (x:Int):∃ n:Nat,IntKind.u64.wrap x=(n:Int)/\n<18446744073709551616:=by
 have h:IntKind.u64.wrap x=x%18446744073709551616:=rfl
 refine ⟨(x%18446744073709551616).toNat,?_,?_⟩<;>omega
theorem SR.put {w:World} {base g c n j q:Nat} {C:Nat->Prop} {l:List (Value×State)} {u:Value} {x x':Value×State} (h:SR w base C (.slice (some ⟨g,0,none⟩) n c) l) (hn:n=l.length) (hj:l[j]? =some x) (hq:q<3) (hx:sc x'=(sc x).set q u) (h1:x'.1=x.1) (h2:x'.2.a6=x.2.a6) (hC:∀ k,C k->k≠g):SR (w.setCell ⟨g,j*3+q,none⟩ u) base C (.slice (some ⟨g,0,none⟩) n c) (l.set j x'):=by
 subst hn
 have hb:n4 (fun k=>k=g) w (w.setCell ⟨g,j*3+q,none⟩ u):=n4.setCell (S:=fun k=>k=g) rfl u
 refine ⟨?_,fun y hy=> ?_⟩
 ·rw [List.length_set,x1u hj hq hx]
  exact (h.row.stored (j*3+q) u).1
 ·obtain ⟨i,hi⟩:=List.mem_iff_getElem?.1 hy
  rcases w2g hi with ⟨_,rfl⟩ | ⟨dU,hi2⟩
  ·rw [h1,h2];exact (h.a6 x (U0 hj)).but hb (fun k hk h=>hC k hk h)
  ·exact (h.a6 y (U0 hi2)).but hb (fun k hk h=>hC k hk h)
set_option maxHeartbeats 4000000 in
set_option maxRecDepth 100000 in
theorem u6h (w:World) (lv:Value) (lss:List State) (hrl:RS w lv lss) (y3o:∀ s∈lss,s.out<18446744073709551616/\∀ a∈s.a6,uZ a) (first:Nat) (kD:first<18446744073709551616) (ds:List gK) (dv:Value) (hrd:RDs w w.heap.size dv ds) (z9v:∀ d∈ds,okD d):G4 w 4 #[lv,.int .u64 first,dv] (.bool true):=by
 refine lM 143 Tryz.func4 fun fr hf s0 s1 s2=> ?_
 have hlo:=(zB (n:=30) z9v).1
 have hlr:=(zB (n:=30) z9v).2.1
 have hll:=(zB (n:=30) z9v).2.2
 obtain ⟨own,F4⟩:∃ x,lD ds 30=x:=⟨_,rfl⟩
 rw [F4] at hlo hlr hll
 have x1w:=mP hlo hlr
 have x9w:=H9 F4;have HLO:=H9 hlo;have HLR:=H9 hlr;clear F4 hlo hlr
 have hdr:=x5t y3o
 obtain ⟨fss,uL⟩:∃ x,z9t lss=x:=⟨_,rfl⟩
 rw [uL] at hdr
 have HDR:=H9 hdr;clear hdr
 have HOL:=H9 y3o;clear y3o
 refine Ze fun _ b7=>Zr [] hf ?_
 refine B1 0 1 2 hf ?_
 clear hf s0 s1 s2;intro a7 hf sS
 refine Zs b7 fun _ b7=>Ze fun _ j8=>rg ?_
 have bB:=hf.b 23
 refine Zc (w6i w) ?_;rintro e w1 ⟨rfl,n7⟩
 have v1y:=(hrd.below n7).more n7.size
 have x1q:=hrl.later n7
 obtain ⟨lA,lc,rfl,hlc⟩:=x1q.form
 refine Zv ?_
 refine Zy ?_
 refine Fc.nil (C0 0 1 2 24 hf ?_)
 clear hf sS bB;intro a7 hf sS
 refine Zx j8 (Fc.k9 sS.2.2.2 ?_)
 refine wp_skip (Zt b7 fun _ b7=> ?_)
 have bB:=hf.B4 25 26 27 7
 iterate 2 refine Zy ?_
 refine Zc (x5p w1 _ first lss x1q) ?_;rintro e w2 ⟨fV,rfl,hrf,r9⟩
 rw [uL] at hrf
 clear uL
 obtain ⟨fA,fc,rfl,hfc⟩:=hrf.form
 have v1x:=(v1y.below r9).more r9.size
 have sD:=x1q.later r9
 have o5:=n7.trans (r9.mono n7.size)
 clear hrd v1y hrl x1q n7 r9
 refine Zv ?_
 iterate 2 refine Zy ?_
 refine Fc.nil (C0 0 1 2 7 hf ?_)
 clear hf sS bB;intro a7 hf sS
 generalize kB:w2.alloc (.cells #[.slice fA fss.length fc,.int .u64 first] 38)=W3
 obtain ⟨D4,M7⟩:=cW kB
 obtain ⟨q7,w2f⟩:∃ x,w2.heap.size=x:=⟨_,rfl⟩
 have v1w:=(v1x.below D4).more D4.size
 replace sD:=sD.later D4
 replace hrf:=hrf.later D4
 replace o5:=o5.trans (D4.mono o5.size)
 rw [w2f] at M7
 obtain ⟨s0,s1,s2,s7⟩:=sS
 try rw [w2f] at s7
 clear kB v1x D4 w2f
 refine Zt b7 fun _ b7=> ?_
 have bB:=hf.B6 29 30 31 28 32 33
 refine Zy ?_
 refine Zc (v1v W3 ds 30 oM dv v1w z9v) ?_;rintro e w4 ⟨v1,rfl,nZ,X6⟩
 rw [x9w.out] at nZ
 have sE:=OE.re (es:=own) nZ
 have hbf:=z7f w4 own _ v1 nR sE oM (fun e he=>(HLO.out e he).1)
 have HBF:=H9 hbf;clear hbf nZ v1w
 replace sD:=sD.later X6
 replace hrf:=hrf.later X6
 replace o5:=o5.trans (X6.mono o5.size)
 replace M7:=(X6.block _ (j4 M7)).trans M7
 clear X6
 refine Zv ?_
 refine Zc (z9g w4 own _ v1 nR sE oM (fun e he=>(HLO.out e he).1) x1w) ?_;rintro e w5 ⟨rfl,F2⟩
 have w2e:=x1x w5 own HLO.out HLR.out hll HBF.out x1w
 obtain ⟨cd,hcd⟩:∃ x,(makeV own).2=x:=⟨_,rfl⟩
 obtain ⟨SA,hSA⟩:∃ x,(makeV own).1=x:=⟨_,rfl⟩
 rw [hcd,hSA]
 rw [hSA] at w2e
 have HGC:=H9 w2e
 clear hcd hSA sE w2e
 replace sD:=sD.later F2
 replace hrf:=hrf.later F2
 replace o5:=o5.trans (F2.mono o5.size)
 replace M7:=(F2.block _ (j4 M7)).trans M7
 clear F2
 refine Zv ?_
 iterate 5 refine Zy ?_
 refine Fc.nil (C0 0 1 7 8 hf ?_)
 clear hf s0 s1 s2 s7 bB;intro a7 hf sS
 refine Zt b7 fun _ b7=> ?_
 have bB:=hf.B7 35 36 34 37 38 39 11
 refine Zy ?_
 refine Zc (HGC.out) ?_;rintro e w6 ⟨n,gV,gi,dM,ev,rfl,v6f,hgi,hrg,hxg,G7⟩
 obtain ⟨gA,gc,rfl,hgc⟩:=hrg.form
 replace sD:=sD.later G7
 replace hrf:=hrf.later G7
 replace o5:=o5.trans (G7.mono o5.size)
 replace M7:=(G7.block _ (j4 M7)).trans M7
 clear G7 HGC
 refine Zv ?_
 iterate 8 refine Zy ?_
 refine Fc.nil (D0 0 1 7 10 11 hf ?_)
 clear hf sS bB;intro a7 hf sS
 generalize eB:w6.alloc (.cells #[.slice gA dM.length gc,.int .u64 gi] 38)=W7
 obtain ⟨A8,sF⟩:=cW eB
 obtain ⟨wT,z6t⟩:∃ x,w6.heap.size=x:=⟨_,rfl⟩
 have w2d:=hrg.later A8
 have t9k:=sD.later A8
 rw [z6t] at sF
 obtain ⟨s0,s1,s7,y4,C7⟩:=sS
 try rw [z6t] at C7
 have t3x:q7<wT:=by rw [<- z6t];exact j4 M7
 have x8v:=H9 z6t;clear eB z6t
 refine Zx b7 (Fc.L1 (fun fr wq=>∃ (gA:Option Addr) (gc:Nat) (dM:List State),Fc.Fr 143 fr/\(fr.tmps[7]? =some (.pointer (some ⟨q7,0,none⟩))/\fr.tmps[10]? =some (.int .i64 n)/\fr.tmps[11]? =some (.pointer (some ⟨wT,0,none⟩)))/\wq.heap[wT]? =some (.cells #[.slice gA dM.length gc,.int .u64 gi] 38 (0,0))/\RS wq (.slice gA dM.length gc) dM/\XF dM/\Below w6.heap.size w6 wq) ?_ ?_)
 . (
 have x0:W7.cell? ⟨wT,0,none⟩=some (.slice gA dM.length gc):=by rw [n5 0 sF];rfl
 rcases (by omega:lss.length=0\/(0<lss.length/\dM.length=0)\/(0<lss.length/\0<dM.length)) with h1 | ⟨h1,h2⟩ | ⟨h1,h2⟩
 . (
 have q1:decide (0<lss.length)=false:=decide_eq_false oM
 refine Ze fun _ b7=> ?_
 have qs:=q1
 refine Zr [40,41,42,43,44,45,46,47] hf ?_
 refine J3 0 1 7 10 11 48 hf ?_
 clear hf s0 s1 s7 y4 C7 qs;intro a7 hf sS
 refine Zx b7 (Fc.k9 sS.2.2.2.2.2 ?_)
 refine wp_skip (Fc.j6 ?_)
 obtain ⟨s0,s1,s7,y4,C7,s48⟩:=sS
 exact ⟨gA,gc,dM,hf,⟨s7,y4,C7⟩,sF,w2d,hxg,A8⟩)
 . (
 have q1:decide (0<lss.length)=true:=decide_eq_true oM
 have q2:decide (0<dM.length)=false:=decide_eq_false oM
 refine Ze fun _ b7=> ?_
 have qs:=And.intro q1 q2
 refine Zr [40,41,42,43,44,45,46,47] hf ?_
 refine J3 0 1 7 10 11 48 hf ?_
 clear hf s0 s1 s7 y4 C7 qs;intro a7 hf sS
 refine Zx b7 (Fc.k9 sS.2.2.2.2.2 ?_)
 refine wp_skip (Fc.j6 ?_)
 obtain ⟨s0,s1,s7,y4,C7,s48⟩:=sS
 exact ⟨gA,gc,dM,hf,⟨s7,y4,C7⟩,sF,w2d,hxg,A8⟩)
 . (
 have q1:decide (0<lss.length)=true:=decide_eq_true oM
 have q2:decide (0<dM.length)=true:=decide_eq_true oM
 refine Ze fun _ b7=> ?_
 have qs:=And.intro q1 q2
 refine Zr [40,41,42,43,44,45,46,47] hf ?_
 refine J3 0 1 7 10 11 48 hf ?_
 clear hf s0 s1 s7 y4 C7 qs;intro a7 hf sS
 refine Zx b7 (Fc.l8 sS.2.2.2.2.2 ?_)
 clear q1 q2
 obtain ⟨fz,hfz,s6y,s6x⟩:=x1t (first:Int)
 obtain ⟨az,haz⟩:∃ x,fz.tmod (dM.length:Int)=x:=⟨_,rfl⟩
 have s6w:=hxg.len
 have s6v: -(dM.length:Int)<az/\az<(dM.length:Int):=by rw [<- haz];exact ⟨Int.lt_tmod_of_pos _ oM,Int.tmod_lt_of_pos _ oM⟩
 have HAZ:=H9 haz;clear haz
 refine Ze fun _ b7=>rg ?_
 have bB:=hf.B6 49 50 51 52 53 54
 refine Zy ?_
 refine fp fun K Z=> ?_
 go_simp
 try rw [hfz]
 apply Z.out;clear Z K
 iterate 3 refine Zy ?_
 refine fp fun K Z=> ?_
 go_simp
 rw [if_neg (show ¬ dM=[] from fun h9=>by rw [h9] at h2;exact absurd h2 (Nat.lt_irrefl _)),HAZ.out]
 rw [Oper.upon_value]
 apply Z.out;clear Z K
 refine Zy ?_
 refine Fc.nil (D0 0 7 10 11 13 hf ?_)
 clear hf sS bB;intro a7 hf sS
 refine Zx b7 (Fc.L1 (fun fr wq=>∃ j:Nat,Fc.Fr 143 fr/\(fr.tmps[0]? =some (.slice lA lss.length lc)/\fr.tmps[7]? =some (.pointer (some ⟨q7,0,none⟩))/\fr.tmps[10]? =some (.int .i64 n)/\fr.tmps[11]? =some (.pointer (some ⟨wT,0,none⟩)))/\fr.tmps[13]? =some (.int .i64 j)/\j<dM.length/\wq=W7) ?_ ?_)
 . (
 rcases Int.lt_or_le az 0 with hn1 | hn1
 . (
 have q1:decide (az<0)=true:=decide_eq_true oM
 refine Ze fun _ b7=>Zr [55] hf ?_
 refine J3 0 7 10 11 13 56 hf ?_
 clear hf sS;intro a7 hf sS
 refine Zx b7 (Fc.l8 sS.2.2.2.2.2 ?_)
 refine Zr [] hf ?_
 refine D0 0 7 10 11 13 hf ?_
 clear hf sS;intro a7 hf sS
 refine Fc.j6 ?_
 obtain ⟨s0,s7,y4,C7,J0⟩:=sS
 exact ⟨0,hf,⟨s0,s7,y4,C7⟩,J0,h2,rfl⟩)
 . (
 have q1:decide (az<0)=false:=decide_eq_false oM
 refine Ze fun _ b7=>Zr [55] hf ?_
 refine J3 0 7 10 11 13 56 hf ?_
 clear hf sS;intro a7 hf sS
 refine Zx b7 (Fc.k9 sS.2.2.2.2.2 ?_)
 refine wp_skip (Fc.j6 ?_)
 obtain ⟨s0,s7,y4,C7,J0,s56⟩:=sS
 exact ⟨az.toNat,hf,⟨s0,s7,y4,C7⟩,by rw [J0,Int.toNat_of_nonneg hn1],oM,rfl⟩))
 . (
 clear hf sS
 rintro fr wq ⟨j,hf,⟨s0,s7,y4,C7⟩,J0,hj,hwq⟩
 subst wq
 have x0:W7.cell? ⟨wT,0,none⟩=some (.slice gA dM.length gc):=by rw [n5 0 sF];rfl
 obtain ⟨gb,v1u,l,hgA,qR,nH,tQ⟩:=hrg.rows h2
 subst hgA
 have x1p:l.length=dM.length:=by rw [<- qR,List.length_map]
 have v1t:Below W7.heap.size W7 (W7.alloc (.cells #[] 46)):=(Below.refl _ _).alloc nR _
 have v1s:=A8.trans (v1t.mono A8.size)
 have hl4:∀ j u,(lN l)[j]? =some u->(W7.alloc (.cells #[] 46)).cell? ⟨gb,v1u+j,none⟩=some u:=fun j u hj=>by have h9:=tQ j u hj;exact (v1s.cell (C8 h9)).trans h9
 have HL1:=H9 qR;have HL2:=H9 nH;clear qR nH tQ
 have t3w:=hxg.len
 have t9i:=j4 sF
 refine Ze fun _ b7=>rg ?_
 have bB:=hf.B5 57 58 59 60 61
 iterate 3 refine Zy ?_
 clear bB
 refine Fc.lQ (n:=143) (by simp only [Fc.G,hf.size]) hf.defers (fun a7 u3 hT=> ?_)
 have G9:=Fc.h7 hT 0 7 10 11 13 57 59
 simp (decide:=true) only [Fc.G,hf.size,reduceIte,s0,s7,y4,C7,J0] at G9
 replace hf:=u3;clear hT u3 s0 s7 y4 C7 J0
 obtain ⟨s0,s7,y4,C7,J0,s57,s59⟩:=G9
 have bB:=hf.B2 60 61
 refine ⟨?_⟩
 refine wpList_plain rfl fun K5 U3=> ?_
 refine xW _ _ 36 rfl 46 _ 3 40 Tryz.underlying36 aK rfl dC dC W7.heap.size _ 0 [] (Fc.k7 s57) (World.ownsRow_lit W7 #[] 0 nR dC sP) _ dM.length gc (lN l) (Fc.k7 s59) (by rw [dF,x1p]) (fun _=>⟨gb,v1u,rfl,hl4⟩) (x1v l HL2.out) oM sP (fun v5 w5 U5 aV P0=>U3 _ _ ?_)
 refine Fc.L.out ?_
 obtain ⟨A5,c5,hv5,_⟩:=A1 U5
 subst hv5
 rw [Nat.zero_add,List.nil_append] at U5
 have lR:n4 (fun k=>(.slice (some ⟨W7.heap.size,0,none⟩) 0 0:Value).ownBlock=some k) W7 w5:=(n4.alloc (S:=fun k=>(.slice (some ⟨W7.heap.size,0,none⟩) 0 0:Value).ownBlock=some k) W7 _).trans (n4.grown aV (fun k hk=>hk))
 have hSk:∀ k,(.slice (some ⟨W7.heap.size,0,none⟩) 0 0:Value).ownBlock=some k->k=W7.heap.size:=fun k hk=>by injection hk with hk;exact hk.symm
 have G2:=lR.heap sF (fun h=>by have:=hSk _ h;omega)
 have g1:=n5 0 G2;have fz5:=j3 (i:=0) G2
 simp at g1
 iterate 2 refine Zy ?_
 refine Fc.nil (D0 0 7 10 11 13 hf ?_)
 clear hf s0 s7 y4 C7 J0 s57 s59 bB;intro a7 hf sS
 have qP:Below w6.heap.size w6 w5:=A8.trans (lR.below A8.size (fun k hk=>by have:=hSk _ hk;have:=A8.size;omega))
 have z9m:SR w5 W7.heap.size (fun k=>k<wT) (.slice A5 dM.length c5) l:=⟨by rw [x1p];exact U5,fun x hx=>((HL2.out x hx).but (fL qP) (fun k h1 h2=>oM)).more (fun k _ hk=>by rw [<- x8v.out];exact hk)⟩
 have bX:n4 (fun k=>k=wT) w5 (w5.setCell ⟨wT,0,none⟩ (.slice A5 dM.length c5)):=n4.setCell (S:=fun k=>k=wT) rfl _
 have z3v:=z0q G2 (.slice A5 dM.length c5)
 have mB:=z9m.but bX (fun k hk h=>by have:=(World.ownsRow.lt U5 k hk).1;omega) (fun k hk h=>oM)
 have hbC:=qP.setCell (p:=⟨wT,0,none⟩) (by have:=x8v.out;simp only;omega) (.slice A5 dM.length c5)
 obtain ⟨W10,z3g⟩:∃ x,w5.setCell ⟨wT,0,none⟩ (.slice A5 dM.length c5)=x:=⟨_,rfl⟩
 rw [z3g] at z3v mB hbC
 try rw [z3g]
 clear z3g bX z9m qP G2 U5 aV P0 lR hSk g1 fz5 hl4 v1s v1t x0
 obtain ⟨x,mF⟩:∃ x,l[j]? =some x:=⟨_,D9 oM⟩
 obtain ⟨g5,c6,hv6,s6s,D3⟩:=mB.cells mF
 injection hv6 with hv6 hv7 hv8
 subst hv6
 clear hv7 hv8
 have d1:=D3.c1;have d2:=D3.c2
 obtain ⟨st0,h00⟩:∃ x,lss[0]? =some x:=⟨_,D9 h1⟩
 obtain ⟨lb,lo,lav,hlA,z1v⟩:=(sD.later hbC).at_ h00
 subst hlA
 have e2:=z1v.c2
 clear z1v D3
 have y0:W10.cell? ⟨wT,0,none⟩=some (.slice (some ⟨g5,0,none⟩) dM.length c5):=by rw [n5 0 z3v];rfl
 have v1q:=World.ownsRow.lt mB.row g5 rfl
 obtain ⟨t9g,z6s⟩:=mB.blk
 refine Zx b7 ?_
 obtain ⟨o2,tH,ho3⟩:=x1s ((x.2.out:Int)+((st0.out:Nat):Int).tmod 3)
 refine Ze fun _ b7=> ?_
 obtain ⟨s0,s7,y4,C7,J0⟩:=sS
 refine Sb.tb 143 fun a8=> ?_
 have lf:=H9 fun (w9:World) (h9:Below _ _ w9)=>ad (cL h9 y0) (ad (cL h9 d1) (ad (cL h9 d2) (cL h9 e2)))
 refine Sb.T 0 hf a8 ?_ (hF:=fun _ _ h d=>Sb.O h C7)
 refine Sb.T 1 hf a8 ?_ (hF:=fun _ _ h d=>lf.out _ h.ext)
 refine Sb.mO 2 J0 hf a8 ?_
 refine Sb.T 3 hf a8 ?_ (hF:=fun _ _ h d=>Sb.O h C7)
 refine Sb.T 4 hf a8 ?_ (hF:=fun _ _ h d=>lf.out _ h.ext)
 refine Sb.mO 5 J0 hf a8 ?_
 refine Sb.T 6 hf a8 ?_
 refine Sb.T 7 hf a8 ?_
 refine Sb.T 8 hf a8 ?_ (hF:=fun _ _ h d=>lf.out _ h.ext)
 refine Sb.mO 9 s0 hf a8 ?_
 refine Sb.T 10 hf a8 ?_
 refine Sb.T 11 hf a8 ?_
 refine Sb.T 12 hf a8 ?_ (hF:=fun _ _ h d=>lf.out _ h.ext)
 refine Sb.T 13 hf a8 ?_
 apply Sb.tq 14 _ hf a8
 . (
 intro a7 w1 hh hd hk K Z
 have s70:=Sb.v 8 5 hd hk []
 have s75:=Sb.v 13 0 hd hk []
 clear hd
 go_simp
 try simp (disch:=omega) only [Fc.W]
 try rw [tH]
 exact Sb.k Z)
 refine Tl.D7 (n:=143) (m:=15) (ws:=[(17,15,[16])]) kR hf.size a8.out rfl rfl kR (fun a7 w1 hh hg=> ?_)
 replace s7:=Sb.O hh s7
 replace y4:=Sb.O hh y4
 replace C7:=Sb.O hh C7
 replace J0:=Sb.O hh J0
 have s63:=Tl.u7 1 13 hg rfl rfl rfl rfl rfl
 have s64:=Tl.u7 2 12 hg rfl rfl rfl rfl rfl
 have s76:=Tl.u7 14 0 hg rfl rfl rfl rfl rfl
 have u3:=hh.fr hf
 have hx:=hh.ext
 have L7:=lf.out _ hx;(try clear y0 d1 d2 e2);clear lf;obtain ⟨y0,d1,d2,e2⟩:=L7
 clear hg hh hf a8 s0
 have hf:=u3;clear u3
 obtain ⟨b77,b78⟩:=hf.B2 77 78
 refine Tl.D8 rfl rfl (fun K Z=> ?_)
 go_simp
 try rw [if_pos (by omega)]
 apply Z.out;clear Z K
 refine Tl.D8 rfl rfl (fun K Z=> ?_)
 go_simp
 apply Z.out;clear Z K
 have s6n:=j3 (i:=j*3+2) ((hx.block g5 v1q.2).trans z6s)
 refine Tl.D8 rfl rfl (fun K Z=> ?_)
 go_simp
 apply Z.out;clear Z K
 refine Tl.J5 rfl ?_
 refine C0 7 10 11 13 hf ?_
 clear hf s7 y4 C7 J0 s63 s64 s76 b77 b78;intro a7 hf sS
 have wU:=(mB.later hx).put (q:=2) (u:= .int .u64 o2) (x:=x) (x':=(x.1,⟨x.2.final,o2,x.2.a6⟩)) x1p.symm mF oM rfl rfl rfl (fun k hk=>oM)
 have nN:n4 (fun k=>k=g5) w1 (w1.setCell ⟨g5,j*3+2,none⟩ (.int .u64 o2)):=n4.setCell (S:=fun k=>k=g5) rfl _
 have pV:=nN.heap ((hx.block wT (j4 z3v)).trans z3v) oM
 have hbD:=(hbC.trans (hx.mono hbC.size)).setCell (p:=⟨g5,j*3+2,none⟩) (by have:=x8v.out;simp only;omega) (.int .u64 o2)
 obtain ⟨W11,y6r⟩:∃ x,w1.setCell ⟨g5,j*3+2,none⟩ (.int .u64 o2)=x:=⟨_,rfl⟩
 rw [y6r] at wU pV hbD
 try rw [y6r]
 clear y6r nN hbC z3v z6s mB y0 d1 d2 e2
 have w2c:(l.set j (x.1,(⟨x.2.final,o2,x.2.a6⟩:State)))[j]? =some (x.1,⟨x.2.final,o2,x.2.a6⟩):=List.getElem?_set_self oM
 have v1o:(l.set j (x.1,(⟨x.2.final,o2,x.2.a6⟩:State))).length=dM.length:=by rw [List.length_set,x1p]
 obtain ⟨g6,c7,hv6, -,D3⟩:=wU.cells w2c
 injection hv6 with hv6 hv7 hv8
 injection hv6 with hv6
 injection hv6 with hv6
 subst hv6
 clear hv7 hv8
 have d1:=D3.c1;have d2:=D3.c2
 simp only at d1 d2
 clear D3
 have y0:W11.cell? ⟨wT,0,none⟩=some (.slice (some ⟨g5,0,none⟩) dM.length c5):=by rw [n5 0 pV];rfl
 have w7p:=World.ownsRow.lt wU.row g5 rfl
 obtain ⟨t9g,z6s⟩:=wU.blk
 refine Zx b7 ?_
 rcases hfx:x.2.final with _ | _
 . (
 rw [hfx] at d1
 obtain ⟨s7,y4,C7,J0⟩:=sS
 refine Sb.tb 143 fun a8=> ?_
 have lf:=H9 fun (w9:World) (h9:Below _ _ w9)=>ad (cL h9 y0) (ad (cL h9 d1) (cL h9 d2))
 refine Sb.T 0 hf a8 ?_ (hF:=fun _ _ h d=>Sb.O h C7)
 refine Sb.T 1 hf a8 ?_ (hF:=fun _ _ h d=>lf.out _ h.ext)
 refine Sb.mO 2 J0 hf a8 ?_
 refine Sb.T 3 hf a8 ?_ (hF:=fun _ _ h d=>Sb.O h C7)
 refine Sb.T 4 hf a8 ?_ (hF:=fun _ _ h d=>lf.out _ h.ext)
 refine Sb.mO 5 J0 hf a8 ?_
 refine Sb.T 6 hf a8 ?_
 refine Sb.T 7 hf a8 ?_
 refine Sb.T 8 hf a8 ?_ (hF:=fun _ _ h d=>lf.out _ h.ext)
 refine Sb.mN 9 8 0 hf a8 [] ?_
 refine Sb.Tg 10 hf a8 ?_ (hF:=fun _ _ h d=>Sb.O h C7)
 refine Sb.Tg 11 hf a8 ?_ (hF:=fun _ _ h d=>lf.out _ h.ext)
 refine Sb.Tg 12 hf a8 ?_ (hF:=fun _ _ h d=>Sb.O h J0)
 refine Sb.Tg 13 hf a8 ?_
 refine Sb.Tg 14 hf a8 ?_
 refine Sb.Tg 15 hf a8 ?_ (hF:=fun _ _ h d=>lf.out _ h.ext)
 refine Sb.Tg 16 hf a8 ?_
 refine Sb.T 17 hf a8 ?_
 refine Tl.D7 (n:=143) (m:=18) (ws:=[(20,18,[19])]) kR hf.size a8.out rfl rfl kR (fun a7 w1 hh hg=> ?_)
 replace s7:=Sb.O hh s7
 replace y4:=Sb.O hh y4
 replace C7:=Sb.O hh C7
 have s80:=Tl.u7 1 16 hg rfl rfl rfl rfl rfl
 have s81:=Tl.u7 2 15 hg rfl rfl rfl rfl rfl
 have s96:=Tl.u7 17 0 hg rfl rfl rfl rfl rfl
 have u3:=hh.fr hf
 have hx:=hh.ext
 have L7:=lf.out _ hx;(try clear y0 d1 d2);clear lf;obtain ⟨y0,d1,d2⟩:=L7
 clear hg hh hf a8 J0
 have hf:=u3;clear u3
 obtain ⟨b97,b98⟩:=hf.B2 97 98
 refine Tl.D8 rfl rfl (fun K Z=> ?_)
 go_simp
 try rw [if_pos (by omega)]
 apply Z.out;clear Z K
 refine Tl.D8 rfl rfl (fun K Z=> ?_)
 go_simp
 apply Z.out;clear Z K
 have t9c:=j3 (i:=j*3+1) ((hx.block g5 w7p.2).trans z6s)
 refine Tl.D8 rfl rfl (fun K Z=> ?_)
 go_simp
 apply Z.out;clear Z K
 refine Tl.J5 rfl ?_
 refine B1 7 10 11 hf ?_
 clear hf s7 y4 C7 s80 s81 s96 b97 b98;intro a7 hf sS
 have vZ:=(wU.later hx).put (q:=1) (u:= .bool (decide (0<o2))) (x':=(x.1,⟨decide (0<o2),o2,x.2.a6⟩)) v1o.symm w2c oM rfl rfl rfl (fun k hk=>oM)
 have tS:n4 (fun k=>k=g5) w1 (w1.setCell ⟨g5,j*3+1,none⟩ (.bool (decide (0<o2)))):=n4.setCell (S:=fun k=>k=g5) rfl _
 have z9i:=tS.heap ((hx.block wT (j4 pV)).trans pV) oM
 have hbE:=(hbD.trans (hx.mono hbD.size)).setCell (p:=⟨g5,j*3+1,none⟩) (by have:=x8v.out;simp only;omega) (.bool (decide (0<o2)))
 refine Fc.j6 ?_
 obtain ⟨s7,y4,C7⟩:=sS
 exact ⟨_,_,(dM.set j ⟨x.2.final,o2,x.2.a6⟩).set j ⟨decide (0<o2),o2,x.2.a6⟩,hf,⟨s7,y4,C7⟩,by rw [List.length_set,List.length_set];exact z9i,by rw [List.length_set,List.length_set];have h9:=vZ.rs;rw [List.map_set,List.map_set,HL1.out] at h9;exact h9,(hxg.set (x:=x.2) (s:=⟨x.2.final,o2,x.2.a6⟩) (by rw [<- HL1.out,List.getElem?_map,mF];rfl) ho3 rfl).set (x:=⟨x.2.final,o2,x.2.a6⟩) (s:=⟨decide (0<o2),o2,x.2.a6⟩) (List.getElem?_set_self hj) ho3 rfl,hbE⟩)
 . (
 rw [hfx] at d1
 obtain ⟨s7,y4,C7,J0⟩:=sS
 refine Sb.tb 143 fun a8=> ?_
 have lf:=H9 fun (w9:World) (h9:Below _ _ w9)=>ad (cL h9 y0) (ad (cL h9 d1) (cL h9 d2))
 refine Sb.T 0 hf a8 ?_ (hF:=fun _ _ h d=>Sb.O h C7)
 refine Sb.T 1 hf a8 ?_ (hF:=fun _ _ h d=>lf.out _ h.ext)
 refine Sb.mO 2 J0 hf a8 ?_
 refine Sb.T 3 hf a8 ?_ (hF:=fun _ _ h d=>Sb.O h C7)
 refine Sb.T 4 hf a8 ?_ (hF:=fun _ _ h d=>lf.out _ h.ext)
 refine Sb.mO 5 J0 hf a8 ?_
 refine Sb.T 6 hf a8 ?_
 refine Sb.T 7 hf a8 ?_
 refine Sb.T 8 hf a8 ?_ (hF:=fun _ _ h d=>lf.out _ h.ext)
 refine Sb.mN 9 8 0 hf a8 [] ?_
 refine Sb.Tk 10 hf a8 ?_
 refine Sb.Tk 11 hf a8 ?_
 refine Sb.Tk 12 hf a8 ?_
 refine Sb.Tk 13 hf a8 ?_
 refine Sb.Tk 14 hf a8 ?_
 refine Sb.Tk 15 hf a8 ?_
 refine Sb.Tk 16 hf a8 ?_
 refine Sb.T 17 hf a8 ?_
 refine Tl.D7 (n:=143) (m:=18) (ws:=[(20,18,[19])]) kR hf.size a8.out rfl rfl kR (fun a7 w1 hh hg=> ?_)
 replace s7:=Sb.O hh s7
 replace y4:=Sb.O hh y4
 replace C7:=Sb.O hh C7
 have s80:=Tl.u7 1 16 hg rfl rfl rfl rfl rfl
 have s81:=Tl.u7 2 15 hg rfl rfl rfl rfl rfl
 have s96:=Tl.u7 17 0 hg rfl rfl rfl rfl rfl
 have u3:=hh.fr hf
 have hx:=hh.ext
 have L7:=lf.out _ hx;(try clear y0 d1 d2);clear lf;obtain ⟨y0,d1,d2⟩:=L7
 clear hg hh hf a8 J0
 have hf:=u3;clear u3
 obtain ⟨b97,b98⟩:=hf.B2 97 98
 refine Tl.D8 rfl rfl (fun K Z=> ?_)
 go_simp
 try rw [if_pos (by omega)]
 apply Z.out;clear Z K
 refine Tl.D8 rfl rfl (fun K Z=> ?_)
 go_simp
 apply Z.out;clear Z K
 have t9c:=j3 (i:=j*3+1) ((hx.block g5 w7p.2).trans z6s)
 refine Tl.D8 rfl rfl (fun K Z=> ?_)
 go_simp
 apply Z.out;clear Z K
 refine Tl.J5 rfl ?_
 refine B1 7 10 11 hf ?_
 clear hf s7 y4 C7 s80 s81 s96 b97 b98;intro a7 hf sS
 have vZ:=(wU.later hx).put (q:=1) (u:= .bool (true)) (x':=(x.1,⟨true,o2,x.2.a6⟩)) v1o.symm w2c oM rfl rfl rfl (fun k hk=>oM)
 have tS:n4 (fun k=>k=g5) w1 (w1.setCell ⟨g5,j*3+1,none⟩ (.bool (true))):=n4.setCell (S:=fun k=>k=g5) rfl _
 have z9i:=tS.heap ((hx.block wT (j4 pV)).trans pV) oM
 have hbE:=(hbD.trans (hx.mono hbD.size)).setCell (p:=⟨g5,j*3+1,none⟩) (by have:=x8v.out;simp only;omega) (.bool (true))
 refine Fc.j6 ?_
 obtain ⟨s7,y4,C7⟩:=sS
 exact ⟨_,_,(dM.set j ⟨x.2.final,o2,x.2.a6⟩).set j ⟨true,o2,x.2.a6⟩,hf,⟨s7,y4,C7⟩,by rw [List.length_set,List.length_set];exact z9i,by rw [List.length_set,List.length_set];have h9:=vZ.rs;rw [List.map_set,List.map_set,HL1.out] at h9;exact h9,(hxg.set (x:=x.2) (s:=⟨x.2.final,o2,x.2.a6⟩) (by rw [<- HL1.out,List.getElem?_map,mF];rfl) ho3 rfl).set (x:=⟨x.2.final,o2,x.2.a6⟩) (s:=⟨true,o2,x.2.a6⟩) (List.getElem?_set_self hj) ho3 rfl,hbE⟩))))
 . (
 clear hf s0 s1 s7 y4 C7
 clear sF w2d hxg hrg t9k sD
 rintro fr wq ⟨gA,gc,dM,hf,⟨s7,y4,C7⟩,sF,hrg,hxg,hbq⟩
 replace hrf:=hrf.later hbq
 replace M7:=(hbq.block _ (j4 M7)).trans M7
 replace o5:=o5.trans (hbq.mono o5.size)
 refine Ze fun _ b7=>Ze fun _ j8=>Zr [] hf ?_
 refine C0 7 10 11 14 hf ?_
 clear hf s7 y4 C7;intro a7 hf sS
 refine Zx j8 (wp_block ?_)
 have p9:=Below.refl wq.heap.size wq
 have t9a:True:=trivial
 clear t9a
 refine wp_loop_ghost (fun gk fr wr=>∃ (k:Nat),gk=12-k/\k<=12/\Fc.Fr 143 fr/\(fr.tmps[7]? =some (.pointer (some ⟨q7,0,none⟩))/\fr.tmps[10]? =some (.int .i64 n)/\fr.tmps[11]? =some (.pointer (some ⟨wT,0,none⟩)))/\fr.tmps[14]? =some (.int .i64 k)/\Below wq.heap.size wq wr) (12) ?_ ?_
 . (
 obtain ⟨s7,y4,C7,fW⟩:=sS
 exact ⟨0,rfl,Nat.zero_le _,hf,⟨s7,y4,C7⟩,fW,p9⟩)
 . (
 clear hf sS
 rintro gk fr wr ⟨k,qZ,s6m,hf,⟨s7,y4,C7⟩,fW,hb⟩
 have HK:=H9 qZ;clear qZ p9
 refine Ze fun _ j8=>Ze fun _ l6=>Zr [99] hf ?_
 refine D0 7 10 11 14 100 hf ?_
 clear hf s7 y4 C7 fW;intro a7 hf sS
 refine Zx l6 (Fc.l0 sS.2.2.2.2 (fun hq=> ?_) (fun hq=> ?_))
 . (
 have n8:k<12:=qT
 clear hq
 have p7:=(hb.block _ (j4 M7)).trans M7
 have p11:=(hb.block _ (j4 sF)).trans sF
 have a0:=n5 0 p7
 have a1:=n5 1 p7
 have e0:=n5 0 p11
 have e1:=n5 1 p11
 simp at a0 a1 e0 e1
 refine wp_skip (Zs j8 fun _ j8=>wp_block (Ze fun _ l6=>Zr [103,104] hf ?_))
 refine J3 7 10 11 14 105 106 hf ?_
 clear hf sS;intro a7 hf sS
 clear p7 p11 a0 a1 e0 e1
 refine Zx l6 (wp_block (wp_loop_ghost (fun nJ fr w2=>∃ (j:Nat),nJ=2-j/\j<=2/\Fc.Fr 143 fr/\(fr.tmps[7]? =some (.pointer (some ⟨q7,0,none⟩))/\fr.tmps[10]? =some (.int .i64 n)/\fr.tmps[11]? =some (.pointer (some ⟨wT,0,none⟩)))/\fr.tmps[14]? =some (.int .i64 k)/\fr.tmps[105]? =some (.agg #[.slice fA fss.length fc,.int .u64 first,.slice gA dM.length gc,.int .u64 gi])/\fr.tmps[106]? =some (.int .i64 j)/\Below wq.heap.size wq w2) (2) ?_ ?_))
 . (
 obtain ⟨s7,y4,C7,fW,sG,sH⟩:=sS
 exact ⟨0,rfl,Nat.zero_le _,hf,⟨s7,y4,C7⟩,fW,sG,sH,hb⟩)
 . (
 clear hf sS
 clear hb
 rintro nJ fr w2 ⟨j,hj9,hj2,hf,⟨s7,y4,C7⟩,fW,sG,sH,hb⟩
 have HJ:=H9 hj9;clear hj9
 refine Ze fun _ l6=>Zr [] hf ?_
 refine cP 7 10 11 14 105 106 107 hf ?_
 clear hf s7 y4 C7 fW sG sH;intro a7 hf sS
 refine Zs l6 fun _ l6=>Fc.l0 sS.2.2.2.2.2.2 (fun hq=> ?_) (fun hq=> ?_)
 . (
 have bW:j<2:=qT
 clear hq
 refine wp_skip (Zx l6 (Fc.L1 (fun fr w9=>Fc.Fr 143 fr/\(fr.tmps[7]? =some (.pointer (some ⟨q7,0,none⟩))/\fr.tmps[10]? =some (.int .i64 n)/\fr.tmps[11]? =some (.pointer (some ⟨wT,0,none⟩)))/\fr.tmps[14]? =some (.int .i64 k)/\fr.tmps[105]? =some (.agg #[.slice fA fss.length fc,.int .u64 first,.slice gA dM.length gc,.int .u64 gi])/\fr.tmps[106]? =some (.int .i64 j)/\Below wq.heap.size wq w9) ?_ ?_))
 . (
 obtain ⟨xA,xc,xss,xi,hel,hrx,hxx,eA⟩:∃ (xA:Option Addr) (xc:Nat) (xss:List State) (xi:Nat),(if j=0 then (.agg #[.slice fA fss.length fc,.int .u64 first]:Value) else .agg #[.slice gA dM.length gc,.int .u64 gi])= .agg #[.slice xA xss.length xc,.int .u64 xi]/\RS wq (.slice xA xss.length xc) xss/\XF xss/\xi<18446744073709551616:=by by_cases h0:j=0;exact ⟨fA,fc,fss,first,if_pos h0,hrf,⟨fun s hs=>by obtain ⟨z,hz⟩:=List.mem_iff_getElem?.1 hs;exact (HDR.out.2 z s hz).1,by have:=HDR.out.1;omega,fun s hs=>by obtain ⟨z,hz⟩:=List.mem_iff_getElem?.1 hs;have:=(HDR.out.2 z s hz).2.1;omega⟩,kD⟩;exact ⟨gA,gc,dM,gi,if_neg h0,hrg,hxg,hgi⟩
 replace hrx:=hrx.later hb
 have HEL:=H9 hel;clear hel
 refine wp_block (Ze fun _ l6=>rg ?_)
 have bB:=hf.B2 108 16
 refine fp fun K Z=> ?_
 go_simp
 rw [t9n _ _ _ _ j w2 oM,HEL.out]
 rw [Result.andThen_ok,Oper.upon_value]
 apply Z.out;clear Z K
 iterate 2 refine Zy ?_
 refine Fc.nil (cP 7 10 11 14 16 105 106 hf ?_)
 clear hf sS bB;intro a7 hf sS
 generalize v1n:w2.alloc (.cells #[.slice xA xss.length xc,.int .u64 xi] 38)=W18
 obtain ⟨w2a,z0,z1, -, -⟩:=Z8 v1n
 replace hrx:=hrx.later w2a
 replace hb:=hb.trans (w2a.mono hb.size)
 clear v1n w2a
 refine Zx l6 ?_
 obtain ⟨n3,hn3⟩:∃ x,n-3=x:=⟨_,rfl⟩
 obtain ⟨k2,M5⟩:∃ x,k%2=x:=⟨_,rfl⟩
 have v1m:k2=0\/k2=1:=oM
 obtain ⟨mm,oH⟩:∃ x,n3*k2=x:=⟨_,rfl⟩
 have nS:mm<=27:=by rcases v1m with h9 | h9<;>rw [h9] at oH<;>omega
 obtain ⟨en,hen⟩:∃ x,mm+k=x:=⟨_,rfl⟩
 have t3s:en<=50:=oM
 have HEN:=H9 hen;have HN3:=H9 hn3;have HK2:=H9 M5;have HMM:=H9 oH;clear hen hn3 M5 oH v1m
 refine Ze fun _ l6=>rg ?_
 have bB:=And.intro (hf.pL 110 111 112 113 114 115 116 117 118 119) (hf.B3 109 120 121)
 iterate 2 refine Zy ?_
 refine fp fun K Z=> ?_
 go_simp
 rw [show max 0 ((n:Int)-3)=((n3:Nat):Int) by have:=HN3.out;omega]
 apply Z.out;clear Z K
 refine Zy ?_
 refine fp fun K Z=> ?_
 go_simp
 rw [show ((k:Nat):Int).tmod 2=((k2:Nat):Int) by rw [Int.tmod_eq_emod_of_nonneg oM];have:=HK2.out;omega]
 apply Z.out;clear Z K
 refine fp fun K Z=> ?_
 go_simp
 try simp (disch:=omega) only [Fc.W]
 rw [show (n3:Int)*(k2:Int)=((mm:Nat):Int) by rw [<- HMM.out,Int.natCast_mul],Fc.wrap_i64 oM oM]
 apply Z.out;clear Z K
 refine Zy ?_
 refine fp fun K Z=> ?_
 go_simp
 try simp (disch:=omega) only [Fc.W]
 try rw [Fc.wrap_i64 oM oM]
 rw [show (mm:Int)+(k:Int)=((en:Nat):Int) by have:=HEN.out;omega]
 apply Z.out;clear Z K
 refine Zy ?_
 refine Zc (y2z W18 en _ xi xss hrx hxx.ok (by have:=hxx.len;omega) hxx.uG eA) ?_;rintro e w19 ⟨rfl,w1z⟩
 obtain ⟨SS,hSS⟩:∃ x,bl (putR (en:Int) xi xss).1=x:=⟨_,rfl⟩
 obtain ⟨pc,hpc⟩:∃ x,(putR (en:Int) xi xss).2=x:=⟨_,rfl⟩
 rw [hSS,hpc]
 clear hpc
 have kF:=y5e hxx (show en<=100 by omega) eA
 rw [hSS] at kF
 have HPT:=H9 kF
 clear kF hSS
 replace hrx:=hrx.later w1z
 replace hb:=hb.trans (w1z.mono hb.size)
 clear w1z z0 z1
 refine Zv ?_
 iterate 5 refine Zy ?_
 refine Fc.nil (cP 7 10 11 14 17 105 106 hf ?_)
 clear hf sS bB;intro a7 hf sS
 refine Zt l6 fun _ l6=> ?_
 have bB:=hf.B5 123 124 122 125 126
 refine Zy ?_
 refine Zc (z4l w19 SS HPT.out.1 (fun en2 i2 s2 h=>by have h9:=HPT.out.2 en2 i2 s2 h;rw [h9.2.2];have:=hxx.len;omega)) ?_;rintro e w20 lT
 obtain ⟨pv,cd,rfl,v1l,hh⟩:=z1w lT
 clear lT
 replace hb:=hb.trans (v1l.mono hb.size)
 clear hrx v1l
 refine Zv ?_
 iterate 5 refine Zy ?_
 refine Fc.nil (vE 7 10 11 14 17 19 20 105 106 hf ?_)
 clear hf sS bB;intro a7 hf sS
 refine Zx l6 ?_
 rcases hh with hh | hh
 . (
 subst hh
 have q1:((12:Int) !=0)=true:=rfl
 refine Ze fun _ l6=>Ze fun _ N4=>Zr [127] hf ?_
 refine vE 7 10 11 14 17 19 105 106 128 hf ?_
 clear hf sS;intro a7 hf sS
 refine Zx N4 (Fc.l8 sS.2.2.2.2.2.2.2.2 ?_)
 clear q1
 refine Zo ?_
 refine Fc.j6 ?_
 obtain ⟨s7,y4,C7,fW,N7,J6,sG,sH,s6e⟩:=sS
 exact ⟨hf,⟨s7,y4,C7⟩,fW,sG,sH,hb⟩)
 . (
 obtain ⟨hcd,Q,sv,en2,i2,ss2,rfl,pP,hrt,hQ,o7⟩:=hh
 subst hcd
 obtain ⟨rfl,rfl,rfl⟩:=HPT.out.2 _ _ _ pP
 obtain ⟨es,hse,hmk⟩:=x8x HPT.out.1 pP hrt
 have D5:=x8w hrt
 have hxl:=hxx.len
 have HMK:=H9 hmk
 clear pP hrt hmk
 have q1:((0:Int) !=0)=false:=rfl
 refine Ze fun _ l6=>Ze fun _ N4=>Zr [127] hf ?_
 refine vE 7 10 11 14 17 19 105 106 128 hf ?_
 clear hf sS;intro a7 hf sS
 refine Zx N4 (Fc.k9 sS.2.2.2.2.2.2.2.2 ?_)
 clear q1
 refine wp_skip (Zt l6 fun _ l6=> ?_)
 have bB:=hf.B6 130 131 132 129 133 134
 refine Zy ?_
 refine Zc (v2n w20 sv i2 ss2 Q en2 SS.size hQ o7 eA oM oM hxx.ok D5) ?_;rintro e w21 ⟨vB,rfl,how,v1k⟩
 rw [hse.all] at how
 have cS:=OE.re (es:=es) how
 clear how hQ o7
 replace hb:=hb.trans (v1k.mono hb.size)
 clear v1k
 refine Zv ?_
 refine Zc (z9g w21 es _ vB nR cS (by rw [hse.len];omega) (fun e he=>(hse.ok e he).1) (by rw [hse.build];exact eA)) ?_;rintro e w22 ⟨rfl,v1j⟩
 rw [HMK.out]
 replace hb:=hb.trans (v1j.mono hb.size)
 clear cS v1j
 refine Zv ?_
 iterate 5 refine Zy ?_
 refine Fc.nil (vE 7 10 11 14 17 21 22 105 106 hf ?_)
 clear hf sS bB;intro a7 hf sS
 refine Zx l6 ?_
 have q1:(SS.toList !=SS.toList)=false:=bne_self_eq_false _
 have q2:(((0:Nat):Int) !=0)=false:=rfl
 refine Ze fun _ l6=> ?_
 have qs:=And.intro q1 q2
 refine Zr [135,136,137,138,139,140] hf ?_
 refine cP 7 10 11 14 105 106 141 hf ?_
 clear hf sS qs;intro a7 hf sS
 refine Zx l6 (Fc.k9 sS.2.2.2.2.2.2 ?_)
 clear q1 q2
 refine wp_skip (Fc.j7 (Fc.j6 ?_))
 obtain ⟨s7,y4,C7,fW,sG,sH,s6b⟩:=sS
 exact ⟨hf,⟨s7,y4,C7⟩,fW,sG,sH,hb⟩))
 . (
 clear hf sS
 rintro fr w9 ⟨hf,⟨s7,y4,C7⟩,fW,sG,sH,kL⟩
 refine Zr [142] hf ?_
 refine J3 7 10 11 14 105 106 hf ?_
 clear hf s7 y4 C7 fW sG sH;intro a7 hf sS
 refine Fc.j6 ?_
 obtain ⟨s7,y4,C7,fW,sG,sH⟩:=sS
 exact ⟨_,by have:=HJ.out;omega,j+1,rfl,oM,hf,⟨s7,y4,C7⟩,fW,sG,by rw [sH];rfl,kL⟩))
 . (
 clear hq HJ
 refine Zo ?_
 refine Fc.j7 (Zx j8 (Zr [101,102] hf ?_))
 refine C0 7 10 11 14 hf ?_
 clear hf sS;intro a7 hf sS
 refine Fc.j6 ?_
 obtain ⟨s7,y4,C7,fW⟩:=sS
 exact ⟨_,by have:=HK.out;omega,k+1,rfl,oM,hf,⟨s7,y4,C7⟩,by rw [fW];rfl,hb⟩)))
 . (
 clear hq HK
 replace o5:=o5.trans (hb.mono o5.size)
 refine Zo ?_
 refine Zs b7 fun _ b7=>Zr [] hf ?_
 refine r6 6 hf ?_
 clear hf sS;intro a7 hf s6
 refine Zx b7 (k8 ?_)
 exact Fc.o9 rfl hf s6 ⟨rfl,o5⟩)))
open Go.ChangeShapes Go.WideShapes Go.ChangeAt Go.Deep
set_option maxRecDepth 100000
theorem x8t:Tryz.prog.cellsOf 5=1:=kR
theorem y5d:Tryz.prog.cellsOf 131=3:=kR
section
variable {H:Type} {enc:TypeId×Value->H} {W:World}
theorem zC {fuel:Nat} {v:Value} {x:DataW H×List MemPlace} (h:DataW.trod enc Tryz.prog W 0 (fun _=>true) true fuel 31 [v]=some x) :
  ∃ l:List Int,RU W W.heap.size v l/\∀ x∈l,0<=x/\x<=255:=by
 rcases open_ints Tryz.underlying31 Tryz.underlying5 x8t h with ⟨S6, -⟩ | ⟨a,len,cap,zs,S6,_,hl,hm,hz, -,z8r,hwz⟩
 ·injection S6 with S6
  exact ⟨[],⟨none,0,S6,sP,fun h=>absurd h sP⟩,sP⟩
 ·injection S6 with S6
  simp only [if_true] at hz
  have hlen:(zs.take len).length=len:=sO
  refine ⟨zs.take len,⟨some a,cap,by rw [hlen];exact S6,by rw [hlen];unfold maxLen at hm;omega,fun h0=> ?_⟩,fun x hx=>by have:=bounds_u8 (hwz x (List.mem_of_mem_take hx));omega⟩
  rw [hlen] at h0
  obtain ⟨ab,ao,spot⟩:=a
  have sJ:spot=none:=by simpa [Addr.add] using World.cell?_spot (z8r 0 oM)
  subst sJ
  have h00:=C8 (z8r 0 oM)
  refine ⟨ab,ao,rfl,by simpa [Addr.add] using h00,fun j u hu=> ?_⟩
  have hj:j<len:=by have:=(E2 hu).1;simp at this;omega
  have hcj:=z8r j oM
  rw [Addr.add_lit] at hcj
  have hu2:zs[j]? =some u:=by rw [List.getElem?_take,if_pos hj] at hu;exact hu
  rw [hcj]
  simp [List.getD,hu2]
theorem z9u {fuel:Nat} {v:Value} {x:DataW H×List MemPlace} (h:DataW.trod enc Tryz.prog W 0 (fun _=>true) true fuel 22 [v]=some x) :
  ∃ ds:List gK,RDs W W.heap.size v ds/\∀ d∈ds,okD d:=by
 rcases open_slice Tryz.underlying22 h with ⟨S6, -⟩ | ⟨a,len,cap,m,n,D,Pl,S6,_,hl,hm,oH, -,hi⟩
 ·injection S6 with S6
  exact ⟨[],⟨none,0,S6,sP,fun h=>absurd h sP⟩,sP⟩
 ·injection S6 with S6
  simp only [if_true] at oH
  subst oH
  have key:∀ i,i<len->∃ d:gK,okD d/\∃ lv,W.cell? (a.add (i*3))=some lv/\W.cell? (a.add (i*3+1))=some (.int .u32 d.weight)/\W.cell? (a.add (i*3+2))=some (.bool d.gone)/\RU W W.heap.size lv d.letters:=by
   intro i P2
   obtain ⟨cs',hc,ht'⟩:=hi i oM
   rw [y5d] at hc
   obtain ⟨ys,n',hn',hy,hlen,hyl,hf⟩:=DataW.trod_struct Tryz.underlying131 ht'
   obtain ⟨_,N5,D3⟩:=World.cells?_some hc
   match cs',N5 with
   | [u0,u1,u2],_ =>
    have k0:=D3 0 oM
    have k1:=D3 1 oM
    have k2:=D3 2 oM
    have f0:=hf 0 _ rfl
    have f1:=hf 1 _ rfl
    have f2:=hf 2 _ rfl
    have g0:DataW.trod enc Tryz.prog W 0 (fun _=>true) true n' 31 [u0]=ys[0]? :=f0
    have g1:DataW.trod enc Tryz.prog W 0 (fun _=>true) true n' 24 [u1]=ys[1]? :=f1
    have g2:DataW.trod enc Tryz.prog W 0 (fun _=>true) true n' 4 [u2]=ys[2]? :=f2
    have y3:ys.length=3:=hyl
    rw [D9 oM] at g0 g1 g2
    obtain ⟨l,qR,nH⟩:=zC g0
    obtain ⟨z,hz, -,hwz⟩:=DataW.trod_int Tryz.underlying24 g1
    obtain ⟨g,hg, -⟩:=DataW.trod_bool Tryz.underlying4 g2
    injection hz with hz
    injection hg with hg
    subst hz
    subst hg
    rw [Go.Deep.add_add] at k0 k1 k2
    exact ⟨⟨l,z,g⟩,⟨nH,by have:=bounds_u32 hwz;show 0<=z;omega,by have:=bounds_u32 hwz;show z<4294967296;omega⟩,u0,k0,k1,k2,qR⟩
  obtain ⟨F,hF⟩:=choose_lt (α:=Option gK) (p:=fun i o=>∃ d,o=some d/\okD d/\∃ lv,W.cell? (a.add (i*3))=some lv/\W.cell? (a.add (i*3+1))=some (.int .u32 d.weight)/\W.cell? (a.add (i*3+2))=some (.bool d.gone)/\RU W W.heap.size lv d.letters)
   (fun i hi=>by obtain ⟨d,hd⟩:=key i hi;exact ⟨some d,d,rfl,hd⟩)
  have hlen:((List.range len).map fun i=>(F i).getD ⟨[],0,false⟩).length=len:=sP
  have gJ:∀ (i:Nat) (d:gK),((List.range len).map fun i=>(F i).getD ⟨[],0,false⟩)[i]? =some d->i<len/\F i=some d:=fun i d hd=>by
   have P2:i<len:=by have:=(E2 hd).1;simpa using this
   obtain ⟨d',e,_⟩:=hF i P2
   rw [List.getElem?_map,List.getElem?_range P2] at hd
   simp only [Option.map_some,e,Option.getD_some,Option.some.injEq] at hd
   exact ⟨P2,by rw [e,hd]⟩
  refine ⟨(List.range len).map fun i=>(F i).getD ⟨[],0,false⟩,⟨some a,m,by rw [hlen];exact S6,by rw [hlen];unfold maxLen at hm;omega,fun h0=> ?_⟩,fun d hd=> ?_⟩
  ·rw [hlen] at h0
   obtain ⟨ab,ao,spot⟩:=a
   obtain ⟨d0, -, -,lv0,q0, -⟩:=hF 0 h0
   have sJ:spot=none:=by simpa [Addr.add] using World.cell?_spot q0
   subst sJ
   refine ⟨ab,ao,rfl,by simpa [Addr.add] using C8 q0,fun i d hd=> ?_⟩
   obtain ⟨P2,hFi⟩:=gJ i d hd
   obtain ⟨d',e, -,lv,k0,k1,k2,k3⟩:=hF i P2
   obtain rfl:d=d':=Option.some.inj (hFi.symm.trans e)
   rw [Addr.add_lit] at k0 k1 k2
   exact ⟨lv,k0,by rw [Nat.add_assoc];exact k1,by rw [Nat.add_assoc];exact k2,k3⟩
  ·obtain ⟨i,hi2⟩:=List.mem_iff_getElem?.1 hd
   obtain ⟨P2,hFi⟩:=gJ i d hi2
   obtain ⟨d',e,a8, -⟩:=hF i P2
   obtain rfl:d=d':=Option.some.inj (hFi.symm.trans e)
   exact a8
end
end Dw
end Go.Proofs.YtcddnmhmcieebaaGreatDoor
