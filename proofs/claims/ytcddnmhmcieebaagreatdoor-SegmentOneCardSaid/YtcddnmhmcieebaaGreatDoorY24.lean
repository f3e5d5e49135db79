/- segment: what the asks answer, of the words behind. -/
import Derived.Test.YtcddnmhmcieebaaGreatDoorY23
import Derived.Test.YtcddnmhmcieebaaGreatDoorY22
import Derived.Test.YtcddnmhmcieebaaGreatDoorTools
import Derived.Test.YtcddnmhmcieebaaGreatDoorY11
namespace Go.Proofs.YtcddnmhmcieebaaGreatDoor
open Go.RowKit
set_option linter.unusedSimpArgs false
set_option linter.unusedVariables false
set_option linter.unnecessarySimpa false
namespace Dw
theorem lC:∀ (a fr x:List Nat),lexlt a (fr.take a.length)=true->lexlt (a++x) fr=true
 | [],fr,x,h=>by simp [R2] at h
 | a::l,[],x,h=>by simp [R2] at h
 | a::l,b::fr,x,h=>by
  rw [List.length_cons,List.take_succ_cons,P7] at h
  rw [List.cons_append,P7]
  rcases h with h | ⟨h1,h2⟩
  ·exact .inl h
  ·exact .inr ⟨h1,lC l fr x h2⟩
theorem y5l {ss:List State} (fr:List Nat):∀ (f k n:Nat) (u:ByteArray) (b:Bool),wds ss f k=[]->walkS ss fr (f+1) k u n b=[]:=by
 intro f
 induction f with
 | zero =>
  intro k n u b h
  cases hk:ss[k]? with
  | none=>rw [walkS,hk];simp
  | some st =>
   have h1:H2 st=[]:=by have:=h;rw [wds,hk] at this;exact this
   have hf:st.final=false:=by unfold H2 at h1;split at h1;cases h1;rename_i h2;simpa using h2
   rw [walkS,hk]
   simp only [hf,Bool.false_and,Bool.false_eq_true,if_false,List.nil_append,walkS]
   split
   ·rfl
   ·simp
 | succ f ih =>
  intro k n u b h
  cases hk:ss[k]? with
  | none=>rw [walkS,hk];simp
  | some st =>
   rw [Q1 hk,List.append_eq_nil_iff] at h
   have hf:st.final=false:=by have h1:=h.1;unfold H2 at h1;split at h1;cases h1;rename_i h2;simpa using h2
   rw [walkS,hk]
   simp only [hf,Bool.false_and,Bool.false_eq_true,if_false,List.nil_append]
   split
   ·rfl
   ·rw [List.flatMap_eq_nil_iff] at h |-
    intro a ha
    exact ih _ _ _ _ (by simpa using h.2 a ha)
theorem oL {ss:List State} (a8:∀ s∈ss,J8 s) {k:Nat} {st:State} (hk:ss[k]? =some st) {a:r7} (ha:a∈st.a6):a.byte<256:=((a8 _ (U0 hk)).2.2 a ha).1
theorem z7d {st:State} {fr:List Nat} {n:Nat} {u:ByteArray} (h:∀ e∈H2 st,n+e.2<=4294967296):z2t st fr u n true=((H2 st).filter fun e=> !lexlt (wl u++e.1) fr).map fun e=>(⟨u++bl e.1,n+e.2,true⟩:Wd):=by
 unfold z2t H2 at *
 cases hf:st.final
 ·simp
 ·have h1:=h ([],st.out) (by simp [hf])
  simp only [if_true,Bool.true_and,List.filter_cons,List.append_nil,List.filter_nil]
  cases hl:lexlt (wl u) fr
  ·simp only [Bool.not_false,if_true,List.map_cons,List.map_nil]
   rw [Nat.mod_eq_of_lt (by unfold y5;omega),decide_eq_true (by unfold y5;omega),w6b,append_empty]
  ·simp
theorem T8 {α β:Type} {f g:α->List β}:∀ {l:List α},(∀ a∈l,f a=g a)->l.flatMap f=l.flatMap g
 | [],_=>rfl
 | a::l,h=>by rw [List.flatMap_cons,List.flatMap_cons,h a (List.mem_cons_self ..),T8 fun x hx=>h x (List.mem_cons_of_mem _ hx)]
theorem z7c {ss:List State} (a8:∀ s∈ss,J8 s) (fr:List Nat):∀ (f k n:Nat) (u:ByteArray),(∀ e∈wds ss f k,n+e.2<=4294967296)->walkS ss fr (f+1) k u n true=((wds ss f k).filter fun e=> !lexlt (wl u++e.1) fr).map fun e=>(⟨u++bl e.1,n+e.2,true⟩:Wd):=by
 intro f
 induction f with
 | zero =>
  intro k n u h
  cases hk:ss[k]? with
  | none=>rw [walkS,hk,wds,hk];simp
  | some st =>
   have h0:wds ss 0 k=H2 st:=by rw [wds,hk]
   rw [h0] at h |-
   cases ha:lexlt (wl u) (fr.take u.size)
   ·rw [rJ ha hk,z7d h]
    have:st.a6.flatMap (y0n ss fr 0 u n true)=[]:=by rw [List.flatMap_eq_nil_iff];intro a _;rfl
    rw [this,List.append_nil]
   ·rw [eW ha]
    rw [List.filter_eq_nil_iff.2 (fun e _=>by rw [lC (wl u) fr e.1 (by rw [l9];exact ha)];simp)]
    rfl
 | succ f ih =>
  intro k n u h
  cases hk:ss[k]? with
  | none=>rw [walkS,hk,wds,hk];simp
  | some st =>
   cases ha:lexlt (wl u) (fr.take u.size)
   ·rw [Q1 hk] at h |-
    rw [rJ ha hk,z7d (fun e he=>h e (List.mem_append_left _ he)),List.filter_append,List.map_append]
    refine congrArg (_ ++ ·) ?_
    rw [List.filter_flatMap,List.map_flatMap]
    refine T8 fun a ham=> ?_
    have hb:=oL a8 hk ham
    have hm:∀ e∈wds ss f a.to.toNat,n+(a.out+e.2)<=4294967296:=fun e he=>h (shift a.byte a.out e) (List.mem_append_right _ (List.mem_flatMap.2 ⟨a,ham,List.mem_map_of_mem he⟩))
    unfold y0n
    by_cases hn:wds ss f a.to.toNat=[]
    ·rw [y5l fr _ _ _ _ _ hn,hn];rfl
    ·obtain ⟨e0,he0⟩:=List.exists_mem_of_ne_nil _ hn
     have h0:=hm e0 he0
     rw [Nat.mod_eq_of_lt (by unfold y5;omega),decide_eq_true (by unfold y5;omega),Bool.and_self,ih _ _ _ (fun e he=>by have:=hm e he;omega),List.filter_map,List.map_map]
     have hw:wl (u++bl [a.byte])=wl u++[a.byte]:=by rw [y7q,y2v (by simpa using hb)]
     have hp:((fun e:Wv=> !lexlt (wl u++e.1) fr)∘shift a.byte a.out)=fun e:Wv=> !lexlt (wl (u++bl [a.byte])++e.1) fr:=by
      funext e;simp [shift,hw]
     rw [hp]
     refine List.map_congr_left fun e _=> ?_
     show (⟨u++bl [a.byte]++bl e.1,n+a.out+e.2,true⟩:Wd)=⟨u++bl (a.byte::e.1),n+(a.out+e.2),true⟩
     rw [x4z,append_assoc,Nat.add_assoc]
     rfl
   ·rw [eW ha]
    rw [List.filter_eq_nil_iff.2 (fun e _=>by rw [lC (wl u) fr e.1 (by rw [l9];exact ha)];simp)]
    rfl
theorem rX {α:Type} {z:α} {o:State->α} {wi:α->α->Nat->α} {ss:List State} {i:Nat}:∀ (n:Nat),i+n<=ss.length->o8 z o wi (ss.take i) <+: o8 z o wi (ss.take (i+n))
 | 0,_=>List.prefix_refl _
 | n+1,h=>by
  refine (rX n oM).trans ?_
  rw [<- Nat.add_assoc,R9 (D9 oM)]
  exact List.prefix_append _ _
theorem rY {α:Type} {z:α} {o:State->α} {wi:α->α->Nat->α} {ss:List State} {i j:Nat} {st:State} (h:ss[i]? =some st) (dU:i<j) (hj:j<=ss.length):(o8 z o wi (ss.take j))[i]? =some (aP z wi (o8 z o wi (ss.take i)) (o st) st.a6):=by
 have h1:=rX (z:=z) (o:=o) (wi:=wi) (ss:=ss) (i:=i+1) (j-(i+1)) oM
 rw [show i+1+(j-(i+1))=j by omega,R9 h] at h1
 obtain ⟨t,ht⟩:=h1
 have hl:=Q7 (z:=z) (o:=o) (wi:=wi) (ss:=ss) i oM
 rw [<- ht,List.append_assoc,List.getElem?_append_right oM,hl,Nat.sub_self]
 rfl
theorem wP {α:Type} {z:α} {wi:α->α->Nat->α} {ss:List State} {m:Nat} {vs:List α} (R:List Wv->α->Prop) (hs:∀ l x l2 c (a:r7),R l x->R l2 c->R (l++l2.map (shift a.byte a.out)) (wi x c a.out)):∀ (al:List r7) (l:List Wv) (x:α),R l x->(∀ a∈al,R (wds ss m a.to.toNat) (vs.getD a.to.toNat z))->R (l++al.flatMap fun a=>(wds ss m a.to.toNat).map (shift a.byte a.out)) (aP z wi vs x al)
 | [],l,x,h,_=>by rw [List.flatMap_nil,List.append_nil];exact h
 | a::al,l,x,h,ha=>by
  rw [List.flatMap_cons, <- List.append_assoc]
  exact wP R hs al _ _ (hs _ _ _ _ a h (ha a (List.mem_cons_self ..))) fun b hb=>ha b (List.mem_cons_of_mem _ hb)
theorem y5k {α:Type} {z:α} {o:State->α} {wi:α->α->Nat->α} {ss:List State} (D5:∀ (k:Nat) (st:State),ss[k]? =some st->okArcs k (-1) st.a6=true) (R:List Wv->α->Prop) (h0:∀ st,R (H2 st) (o st)) (hs:∀ l x l2 c (a:r7),R l x->R l2 c->R (l++l2.map (shift a.byte a.out)) (wi x c a.out)):∀ (m k j:Nat),k<=m->k<j->j<=ss.length->R (wds ss m k) ((o8 z o wi (ss.take j)).getD k z):=by
 intro m
 induction m with
 | zero =>
  intro k j hk hkj hj
  obtain rfl:k=0:=oM
  have y8:ss[0]? =some (ss[0]'(by omega)):=D9 oM
  rw [List.getD_eq_getElem?_getD,rY y8 hkj hj]
  have ha:=D5 0 _ y8
  cases bS:(ss[0]'(by omega)).a6 with
  | cons a l=>rw [bS] at ha;have:=C3 ha (List.mem_cons_self ..);omega
  | nil=>rw [wds,y8];exact h0 _
 | succ m ih =>
  intro k j hk hkj hj
  have y8:ss[k]? =some (ss[k]'(by omega)):=D9 oM
  rw [List.getD_eq_getElem?_getD,rY y8 hkj hj,Q1 y8]
  have ha:=D5 k _ y8
  exact wP R hs _ _ _ (h0 _) fun a ham=>by have:=C3 ha ham;exact ih _ _ oM oM oM
theorem aQ {α:Type} {z:α} {o:State->α} {wi:α->α->Nat->α} {ss:List State} (D5:∀ (k:Nat) (st:State),ss[k]? =some st->okArcs k (-1) st.a6=true) (R:List Wv->α->Prop) (h0:∀ st,R (H2 st) (o st)) (hs:∀ l x l2 c (a:r7),R l x->R l2 c->R (l++l2.map (shift a.byte a.out)) (wi x c a.out)) (m:Nat) (hm:ss.length<=m+1) (hl:0<ss.length):R (wds ss m (ss.length-1)) ((o8 z o wi ss).getLastD z):=by
 have h:=y5k (z:=z) D5 R h0 hs m (ss.length-1) ss.length oM oM nR
 rw [List.take_length] at h
 rwa [List.getLastD_eq_getLast?,List.getLast?_eq_getElem?,M0, <- List.getD_eq_getElem?_getD]
theorem y8u {ss:List State} (D5:∀ (k:Nat) (st:State),ss[k]? =some st->okArcs k (-1) st.a6=true) (m:Nat) (hm:ss.length<=m+1) (hl:0<ss.length):oB ss=min ((wds ss m (ss.length-1)).length:Int) 100001 :=
 aQ D5 (fun l x=>x=min (l.length:Int) 100001) (fun st=>by unfold H2 y5t;split<;>rfl) (fun l x l2 c a h1 h2=>by subst h1;subst h2;unfold y5s;rw [List.length_append,List.length_map];omega) m hm hl
theorem x2h {ss:List State} (D5:∀ (k:Nat) (st:State),ss[k]? =some st->okArcs k (-1) st.a6=true) (m:Nat) (hm:ss.length<=m+1) (hl:0<ss.length):z7j ss= -1\/∃ e∈wds ss m (ss.length-1),z7j ss=(e.1.length:Int) :=
 aQ D5 (fun l x=>x= -1\/∃ e∈l,x=(e.1.length:Int)) (fun st=>by unfold H2 z7k;split;exact .inr ⟨_,List.mem_cons_self ..,rfl⟩;exact .inl rfl) (fun l x l2 c a h1 h2=>by
  have hx:x= -1\/∃ e∈l++l2.map (shift a.byte a.out),x=(e.1.length:Int):=by
   rcases h1 with h1 | ⟨e,he,h1⟩
   ·exact .inl h1
   ·exact .inr ⟨e,List.mem_append_left _ he,h1⟩
  unfold pK
  split
  ·exact hx
  ·rcases h2 with h2 | ⟨e,he,h2⟩
   ·omega
   ·by_cases hc:x<=c+1
    ·exact .inr ⟨_,List.mem_append_right _ (List.mem_map_of_mem he),by show max x (c+1)=((a.byte::e.1).length:Int);rw [List.length_cons];omega⟩
    ·rw [show max x (c+1)=x by omega];exact hx) m hm hl
theorem w2o {ss:List State} (D5:∀ (k:Nat) (st:State),ss[k]? =some st->okArcs k (-1) st.a6=true) (m:Nat) (hm:ss.length<=m+1) (hl:0<ss.length):(∀ e∈wds ss m (ss.length-1),e.2<=4294967296)->((gtV ss).any= !(wds ss m (ss.length-1)).isEmpty)/\((gtV ss).any=true->(gtV ss).fits=true/\∃ e∈wds ss m (ss.length-1),(gtV ss).n=e.2) :=
 aQ (z:=(⟨0,false,false⟩:y9)) D5 (fun l (x:y9)=>(∀ e∈l,e.2<=4294967296)->(x.any= !l.isEmpty)/\(x.any=true->x.fits=true/\∃ e∈l,x.n=e.2)) (fun st _=>by unfold H2 gtO;cases st.final<;>simp) (fun l x l2 c a h1 h2 h=>by
  have k1:=h1 fun e he=>h e (List.mem_append_left _ he)
  have k2:=h2 fun e he=>by have:=h _ (List.mem_append_right _ (List.mem_map_of_mem he));have h3:a.out+e.2<=4294967296:=this;omega
  unfold gtW y9.or
  cases hc:c.any with
  | false =>
   have nH:l2=[]:=by have:=k2.1;rw [hc] at this;simpa using this.symm
   subst nH
   simpa using k1
  | true =>
   obtain ⟨hf,e2,gT,tX⟩:=k2.2 hc
   have hs:a.out+e2.2<=4294967296:=h _ (List.mem_append_right _ (List.mem_map_of_mem gT))
   have T9:shift a.byte a.out e2∈l++l2.map (shift a.byte a.out):=List.mem_append_right _ (List.mem_map_of_mem gT)
   have hem:(l++l2.map (shift a.byte a.out)).isEmpty=false:=by rw [List.isEmpty_eq_false_iff];exact List.ne_nil_of_mem T9
   have h3:(c.n+a.out)%y5=a.out+e2.2:=by rw [tX,Nat.mod_eq_of_lt (by unfold y5;omega)];omega
   have h4:decide (c.n+a.out<y5)=true:=decide_eq_true (by rw [tX];unfold y5;omega)
   rw [hem,h3,h4,hf]
   cases hx:x.any with
   | false=>exact ⟨rfl,fun _=>⟨rfl,_,T9,rfl⟩⟩
   | true =>
    obtain ⟨hfx,e1,he1,hn1⟩:=k1.2 hx
    refine ⟨rfl,fun _=>⟨by simp [hfx],?_⟩⟩
    by_cases hle:x.n<=a.out+e2.2
    ·exact ⟨_,T9,by show max x.n (a.out+e2.2)=a.out+e2.2;omega⟩
    ·exact ⟨e1,List.mem_append_left _ he1,by show max x.n (a.out+e2.2)=e1.2;omega⟩) m hm hl
theorem x9e {ss:List State} (D5:∀ (k:Nat) (st:State),ss[k]? =some st->okArcs k (-1) st.a6=true):∀ (m k m':Nat),k<=m->k<=m'->wds ss m k=wds ss m' k:=by
 have h00:∀ m,wds ss m 0=wds ss 0 0:=by
  intro m
  cases hk:ss[0]? with
  | none=>cases m<;>rw [wds,hk]<;>rw [wds,hk]
  | some st =>
   cases ha:st.a6 with
   | nil=>rw [fR hk ha m,fR hk ha 0]
   | cons a l=>have h:=D5 0 st hk;rw [ha] at h;have:=C3 h (List.mem_cons_self ..);omega
 intro m
 induction m with
 | zero =>
  intro k m' h1 h2
  obtain rfl:k=0:=oM
  exact (h00 m').symm
 | succ m ih =>
  intro k m' h1 h2
  cases m' with
  | zero =>
   obtain rfl:k=0:=oM
   exact h00 (m+1)
  | succ m' =>
   cases hk:ss[k]? with
   | none=>rw [wds,hk,wds,hk]
   | some st =>
    rw [Q1 hk,Q1 hk]
    refine congrArg (_ ++ ·) (T8 fun a ha=> ?_)
    have:=C3 (D5 k st hk) ha
    rw [ih _ m' (by omega) oM]
structure M1 (es:List z6):Prop where
 ok:∀ e∈es,gM e/\okW e.word=true/\A7 e=e
 Z0:P3 es
 ne:es≠[]
 uG:es.length<=100
 st:∀ s∈(buildF es).l3,J8 s/\s.a6.length<=256
 sl:(buildF es).l3.length<=2+255*es.length
theorem M1.inv {es:List z6} (h:M1 es):Inv (buildF es).l3:=by
 rw [cA h.ok h.Z0]
 have tX:es.map Y1≠[]:=by simpa using h.ne
 rw [jJ (iJ h.ok h.Z0) tX (aM h.ok h.Z0)]
 exact (z4y 256 (es.map Y1) [] (iJ h.ok h.Z0) tX (aM h.ok h.Z0) Inv.S0).1
theorem M1.right {es:List z6} (h:M1 es):rightF (buildF es).l3 (buildF es).init=true:=by
 rw [cA h.ok h.Z0]
 exact z9x (iJ h.ok h.Z0) (aM h.ok h.Z0)
theorem M1.formed {es:List z6} (h:M1 es):∀ (k:Nat) (st:State),(buildF es).l3[k]? =some st->okArcs k (-1) st.a6=true:=fun k st hk=>(h.inv.S7 k st hk).a6
theorem M1.t9v {es:List z6} (h:M1 es):∀ s∈(buildF es).l3,J8 s:=fun s hs=>(h.st s hs).1
theorem M1.pos {es:List z6} (h:M1 es):0<(buildF es).l3.length:=by
 have:=E0 h.right
 unfold C4 at this
 simp at this
 omega
theorem M1.words {es:List z6} (h:M1 es):wds (buildF es).l3 ((buildF es).l3.length-1) ((buildF es).l3.length-1)=es.map fun e=>(wl e.word,M9 e-leastV (es.map Y1)):=by
 rw [x9e h.formed _ _ ((buildF es).l3.length-1+255) nR oM,z0f h.ok h.Z0 _ (fun e he=>by have:=bZ (h.ok e he).2.1;omega)]
 unfold rel
 rw [List.map_map]
 rfl
theorem M1.least {es:List z6} (h:M1 es) {e:z6} (he:e∈es):leastV (es.map Y1)<=M9 e/\M9 e<=4294967296:=⟨gB (l:=es.map Y1) (Y1 e) (List.mem_map_of_mem he),by have h1:=(h.ok e he).1;unfold gM at h1;unfold M9;split<;>omega⟩
theorem M1.w2n {es:List z6} (h:M1 es):∀ e∈wds (buildF es).l3 ((buildF es).l3.length-1) ((buildF es).l3.length-1),(buildF es).init+e.2<=4294967296:=by
 intro e he
 rw [h.words] at he
 obtain ⟨x,hx,rfl⟩:=List.mem_map.1 he
 rw [jQ h.ok h.Z0]
 have:=h.least hx
 simp only
 omega
theorem z7b {g:z6->Wd}:∀ {l:List z6},(∀ e∈l,isW (g e)=true/\eH (g e).w (g e).n=e)->U7 (l.map g)=l
 | [],_=>rfl
 | e::l,hl=>by
  have h1:=hl e (List.mem_cons_self ..)
  have h2:=z7b (g:=g) (l:=l) fun x hx=>hl x (List.mem_cons_of_mem _ hx)
  unfold U7 at *
  rw [List.map_cons,List.filter_cons,if_pos h1.1,List.map_cons,h1.2,h2]
theorem M1.walk {es:List z6} (h:M1 es) (fr:List Nat):U7 (walkS (buildF es).l3 fr (buildF es).l3.length ((buildF es).l3.length-1) ⟨#[]⟩ (buildF es).init true)=es.filter fun e=> !lexlt (wl e.word) fr:=by
 have hp:=h.pos
 have hw:=z7c h.t9v fr ((buildF es).l3.length-1) ((buildF es).l3.length-1) (buildF es).init ⟨#[]⟩ h.w2n
 rw [show (buildF es).l3.length-1+1=(buildF es).l3.length by omega] at hw
 rw [hw,h.words,List.filter_map,List.map_map]
 have he:((fun e:Wv=> !lexlt (wl (⟨#[]⟩:ByteArray)++e.1) fr)∘fun e:z6=>(wl e.word,M9 e-leastV (es.map Y1)))=fun e=> !lexlt (wl e.word) fr:=by funext e;rfl
 rw [he]
 refine z7b fun e hm=> ?_
 have fU:=(List.mem_filter.1 hm).1
 have hl:=h.least fU
 show isW ⟨⟨#[]⟩++bl (wl e.word),(buildF es).init+(M9 e-leastV (es.map Y1)),true⟩=true/\eH (⟨#[]⟩++bl (wl e.word)) ((buildF es).init+(M9 e-leastV (es.map Y1)))=e
 rw [jQ h.ok h.Z0,empty_append,w6c,show leastV (es.map Y1)+(M9 e-leastV (es.map Y1))=M9 e by omega]
 refine ⟨?_,y2u ⟨(h.ok e fU).1,(h.ok e fU).2.2⟩⟩
 unfold isW
 simp only [Bool.true_and]
 exact decide_eq_true hl.2
theorem M1.from {es:List z6} (h:M1 es) (s:ByteArray) (n:Int):L5 (buildF es).l3 (buildF es).init s n=if n<1 then [] else (es.filter fun e=> !lexlt (wl e.word) (wl s)).take n.toNat:=by
 unfold L5
 rw [h.walk]
theorem M1.all {es:List z6} (h:M1 es):L5 (buildF es).l3 (buildF es).init ⟨#[]⟩ es.length=es:=by
 have hl:0<es.length:=List.length_pos_iff.2 h.ne
 rw [h.from,if_neg (by omega),Int.toNat_natCast]
 have:(es.filter fun e=> !lexlt (wl e.word) (wl (⟨#[]⟩:ByteArray)))=es:=List.filter_eq_self.2 fun e _=>by
  show (!lexlt (wl e.word) [])=true
  rw [R2];rfl
 rw [this,List.take_length]
theorem x2g {s:ByteArray} (h:okW s=true):0<s.size:=by
 rcases Nat.eq_zero_or_pos s.size with h0 | h0
 ·have h1:wl s=[]:=List.length_eq_zero_iff.1 (by rw [l9];exact h0)
  rw [show s=⟨#[]⟩ from eM h1] at h
  exact absurd h (by decide +kernel)
 ·exact h0
theorem M1.last {es:List z6} (h:M1 es):eZ (buildF es).l3=false:=by
 unfold eZ
 have hp:=h.pos
 rw [List.getLast?_eq_getElem?,D9 oM]
 show (buildF es).l3[(buildF es).l3.length-1].final=false
 have hk:(buildF es).l3[(buildF es).l3.length-1]? =some (buildF es).l3[(buildF es).l3.length-1]:=D9 oM
 cases hf:(buildF es).l3[(buildF es).l3.length-1].final with
 | false=>rfl
 | true =>
  exfalso
  have h1:∀ m,([],(buildF es).l3[(buildF es).l3.length-1].out)∈wds (buildF es).l3 m ((buildF es).l3.length-1):=by
   intro m
   cases m with
   | zero=>rw [wds,hk];simp [H2,hf]
   | succ m=>rw [Q1 hk];simp [H2,hf]
  have h2:=h1 ((buildF es).l3.length-1)
  rw [h.words] at h2
  obtain ⟨e,he,h3⟩:=List.mem_map.1 h2
  injection h3 with h3 _
  have h4:=x2g (h.ok e he).2.1
  have h5:=l9 e.word
  rw [h3] at h5
  simp at h5
  omega
theorem M1.asks {es:List z6} (h:M1 es):rightS es.length (buildF es).l3 (buildF es).init=true:=by
 have hp:=h.pos
 have hl:0<es.length:=List.length_pos_iff.2 h.ne
 have hm:(buildF es).l3.length<=(buildF es).l3.length-1+1:=oM
 have hc:=y8u h.formed _ hm hp
 rw [h.words,List.length_map] at hc
 refine rT fun j hj=> ?_
 match j,hj with
 | 0,_=>exact h.right
 | 1,_ =>
  show yY _ _=true
  have:=h.uG
  unfold yY
  rw [hc]
  simp
  omega
 | 2,_ =>
  refine decide_eq_true ?_
  rcases x2h h.formed _ hm hp with h1 | ⟨e,he,h1⟩
  ·omega
  ·rw [h.words] at he
   obtain ⟨x,hx,rfl⟩:=List.mem_map.1 he
   have:=bZ (h.ok x hx).2.1
   simp only at h1
   rw [l9] at h1
   omega
 | 3,_=>show (!eZ _)=true;rw [h.last];rfl
 | 4,_ =>
  show yX _ _=true
  have hg:=w2o h.formed _ hm hp (fun e he=>by have:=h.w2n e he;omega)
  have ha:(gtV (buildF es).l3).any=true:=by
   rw [hg.1,h.words]
   cases es with
   | nil=>exact absurd rfl h.ne
   | cons=>rfl
  obtain ⟨hf,e,he,hn⟩:=hg.2 ha
  have hs:=h.w2n e he
  unfold yX
  rw [ha,hf,hn,Nat.mod_eq_of_lt (by unfold y5;omega),decide_eq_true (by unfold y5;omega),decide_eq_true oM]
  rfl
 | n+5,hj=>omega
theorem w2m (n:Int) (h0:0<=n/\n<=100000) {ss:List State} (hp:0<ss.length) (h1:∀ (k:Nat) (s:State),ss[k]? =some s->s.a6.length<=256/\(s.final=false->s.out=0)/\okArcs k (-1) s.a6=true):P1 n ss=true:=by
 have nF:∀ (i:Nat) (l:List r7),(∀ a∈l,0<=a.to/\a.to<(i:Int))->okTo i l=true:=by
  intro i l
  induction l with
  | nil=>intro _;rfl
  | cons a l ih=>intro hl;have:=hl a (List.mem_cons_self ..);rw [okTo,ih fun x hx=>hl x (List.mem_cons_of_mem _ hx)];simp [this]
 have hL:∀ (l:List State) (i:Nat),(∀ (k:Nat) (s:State),l[k]? =some s->s.a6.length<=256/\(s.final=false->s.out=0)/\okArcs (i+k) (-1) s.a6=true)->mayL i l=true:=by
  intro l
  induction l with
  | nil=>intro _ _;rfl
  | cons s l ih =>
   intro i hl
   obtain ⟨k1,k2,k3⟩:=hl 0 s rfl
   rw [mayL,ih (i+1) (fun k x hx=>by have:=hl (k+1) x hx;rwa [show i+(k+1)=i+1+k by omega] at this),nF i s.a6 fun a ha=>C3 k3 ha,decide_eq_true k1]
   cases hf:s.final
   ·simp [k2 hf]
   ·simp
 unfold P1
 rw [decide_eq_true h0.1,decide_eq_true h0.2,decide_eq_true hp,hL ss 0 fun k s hk=>by have:=h1 k s hk;rwa [Nat.zero_add]]
 rfl
theorem M1.may {es:List z6} (h:M1 es):P1 es.length (buildF es).l3=true:=w2m _ (by have:=h.uG;omega) h.pos fun k s hk=>⟨(h.st s (U0 hk)).2,(h.inv.S7 k s hk).out,h.formed k s hk⟩
theorem M1.make {es:List z6} (h:M1 es):makeV es=(bl (putR es.length (buildF es).init (buildF es).l3).1,0):=by
 have hl:0<es.length:=List.length_pos_iff.2 h.ne
 have h0:aW es=0:=eP _ _ (fun e he=>(h.ok e he).2.1) h.Z0 (fun q hq=>by cases hq)
 unfold makeV
 rw [if_neg (by omega),if_neg (by rw [h0];simp),show (putR es.length (buildF es).init (buildF es).l3).2=0 by unfold putR;rw [if_pos h.may]]
end Dw
namespace Ta
open Sb (Pr Here Deps Got OkOps Dep isPath)
open Tl (Seq chain1 chain_dep seq_any TL)
section
variable {P:Program} {Q:Exit->Act->World->Prop} {l:List Oper} {a0:Act} {w0:World} {ps:List Pr}
abbrev ptr (g:Nat):Value:= .pointer (some ⟨g,0,none⟩)
structure x9d (P:Program) (Q:Exit->Act->World->Prop) (l:List Oper) (i d:Nat) (ob:Obj) (p:Pr):Prop where
 dst:∃ o,l[i]? =some o/\o.dst=some d
 step:∀ (a:Act) (w:World) (K:Act->World->Prop),K (a.put (some d) (ptr w.heap.size)) (w.alloc ob)->wpOp P l.toArray Q i K a w
 holds:∀ w:World,p (ptr w.heap.size) (w.alloc ob)
def dS (N:Nat) (al:List (Nat×Nat×Obj)) (C:Nat->Prop) (a:Act) (w:World):Prop :=
 (∀ x∈al,C x.1->∃ g,a.tmps[x.2.1]? =some (ptr g)/\g<w.heap.size/\N<=g)/\∀ x∈al,∀ y∈al,x.1≠y.1->C x.1->C y.1->∀ g g',a.tmps[x.2.1]? =some (ptr g)->a.tmps[y.2.1]? =some (ptr g')->g≠g'
theorem y5j {N:Nat} {al:List (Nat×Nat×Obj)} {C C':Nat->Prop} {a:Act} {w w':World} {d:Option Nat} {v:Value} (h:dS N al C a w) (F7:w.heap.size<=w'.heap.size) (hC:∀ x∈al,C' x.1->C x.1) (hd:∀ x∈al,C' x.1->d≠some x.2.1):dS N al C' (a.put d v) w':=by
 refine ⟨fun x hx hc=> ?_,fun x hx y hy E6 hcx hcy g g' hg rD=> ?_⟩
 ·obtain ⟨g,h1,h2,h3⟩:=h.1 x hx (hC x hx hc)
  exact ⟨g,by rw [Sb.put_get_ne _ _ _ _ (hd x hx hc)];exact h1,oM,h3⟩
 ·rw [Sb.put_get_ne _ _ _ _ (hd x hx hcx)] at hg
  rw [Sb.put_get_ne _ _ _ _ (hd y hy hcy)] at rD
  exact h.2 x hx y hy E6 (hC x hx hcx) (hC y hy hcy) g g' hg rD
theorem y5i {N:Nat} {al:List (Nat×Nat×Obj)} {C:Nat->Prop} {a:Act} {w w':World} {i d:Nat} (h:dS N al C a w) (hN:N<=w.heap.size) (F7:w'.heap.size=w.heap.size+1) (hdl:d<a.tmps.size) (hi:∀ x∈al,x.1=i->x.2.1=d) (hd:∀ x∈al,x.1≠i->x.2.1≠d):dS N al (fun k=>k=i\/C k) (a.put (some d) (ptr w.heap.size)) w':=by
 have y0c:(a.put (some d) (ptr w.heap.size)).tmps[d]? =some (ptr w.heap.size):=Sb.put_get _ _ _ hdl
 have hold:∀ x∈al,x.1≠i->(a.put (some d) (ptr w.heap.size)).tmps[x.2.1]? =a.tmps[x.2.1]? :=fun x hx E6=>Sb.put_get_ne _ _ _ _ (fun e=>hd x hx E6 (by injection e with e;exact e.symm))
 have hC:∀ x∈al,x.1≠i->(x.1=i\/C x.1)->C x.1:=fun x hx E6 hc=>hc.resolve_left E6
 have K0:∀ x∈al,x.1≠i->(x.1=i\/C x.1)->∀ g,(a.put (some d) (ptr w.heap.size)).tmps[x.2.1]? =some (ptr g)->g<w.heap.size:=by
  intro x hx E6 hc g hg
  obtain ⟨g1,h1,h2,_⟩:=h.1 x hx (hC x hx E6 hc)
  rw [hold x hx E6,h1] at hg
  injection hg with hg
  injection hg with hg
  injection hg with hg
  injection hg with hg
  omega
 refine ⟨fun x hx hc=> ?_,fun x hx y hy E6 hcx hcy g g' hg rD=> ?_⟩
 ·by_cases eA:x.1=i
  ·rw [hi x hx eA];exact ⟨_,y0c,oM,hN⟩
  ·obtain ⟨g,h1,h2,h3⟩:=h.1 x hx (hC x hx eA hc)
   exact ⟨g,by rw [hold x hx eA];exact h1,oM,h3⟩
 ·by_cases eA:x.1=i
  ·have hyi:y.1≠i:=fun e=>E6 (eA.trans e.symm)
   rw [hi x hx eA,y0c] at hg
   injection hg with hg
   injection hg with hg
   injection hg with hg
   injection hg with hg
   have:=K0 y hy hyi hcy g' rD
   omega
  ·by_cases hyi:y.1=i
   ·rw [hi y hy hyi,y0c] at rD
    injection rD with rD
    injection rD with rD
    injection rD with rD
    injection rD with rD
    have:=K0 x hx eA hcx g hg
    omega
   ·rw [hold x hx eA] at hg
    rw [hold y hy hyi] at rD
    exact h.2 x hx y hy E6 (hC x hx eA hcx) (hC y hy hyi hcy) g g' hg rD
theorem dS.of {N:Nat} {al:List (Nat×Nat×Obj)} {C C':Nat->Prop} {a:Act} {w:World} (h:dS N al C a w) (hC:∀ x∈al,C' x.1->C x.1):dS N al C' a w :=
 ⟨fun x hx hc=>h.1 x hx (hC x hx hc),fun x hx y hy E6 hcx hcy=>h.2 x hx y hy E6 (hC x hx hcx) (hC y hy hcy)⟩
theorem x9c {al:List (Nat×Nat×Obj)} {m:Nat} (bS:∀ x∈al,x9d P Q l x.1 x.2.1 x.2.2 (Sb.look ps x.1)) (nS:m<l.length) (n8:∀ (k i:Nat),m<=k->k<l.length->i<k->Dep l.toArray k i) (a8:OkOps l.toArray a0.tmps.size) (hlen:ps.length=m)
  (y8:∀ i,Sb.Stable (Sb.look ps i)) (hg:∀ i,i<m->Sb.Step P l.toArray Q a0 w0 ps i (Sb.look ps i))
  (q9:∀ a w,Here l.toArray a0 w0 a w->(∀ i,i<m->Got l.toArray ps i a w)->dS w0.heap.size al (. <m) a w->Seq P l Q (l.length-m) m a w) :
  ∀ (fuel:Nat) (listed:Array Bool) (a:Act) (w:World),listed.size=l.length->listed.toList.countP (! ·)<=fuel->(∀ i,m<=i->listed.getD i false=false)->Sb.Inv l.toArray a0 w0 ps listed a w->dS w0.heap.size al (fun i=>listed.getD i false=true) a w ->
   wpAny P .any l.toArray Q fuel listed a w:=by
 intro fuel
 induction fuel with
 | zero =>
  intro listed a w nQ hc hm hI kF
  exfalso
  have y7s:0<listed.toList.countP (! ·):=by
   rw [List.countP_pos_iff]
   have:=hm m nR
   have hms:m<listed.size:=oM
   refine ⟨listed[m],sP,?_⟩
   simp [hms] at this
   simp [this]
  omega
 | succ fuel ih =>
  intro listed a w nQ hc hm hI kF
  have hms:m<listed.size:=oM
  have hm0:listed[m]=false:=by have:=hm m nR;simpa [hms] using this
  -- if all ahead of m are listed
  by_cases F6:∀ i,i<m->listed.getD i false=true
  ·refine seq_any n8 a8 (l.length-m) m listed (fuel+1) a w oM nR nQ hc (fun i hi=>⟨fun h=> ?_,F6 i⟩) (fun i o hi=>hI.closed i o (by simpa using hi)) (q9 a w hI.here (fun i hi=>hI.got i sO (F6 i hi)) (kF.of fun x _ hx=>F6 x.1 hx))
   rcases Nat.lt_or_ge i m with h1 | h1
   ·exact h1
   ·rw [hm i h1] at h;cases h
  refine ⟨fun hr=> ?_,fun i hi=> ?_⟩
  ·exfalso
   refine F6 (fun i=> ?_)
   induction i using Nat.strongRecOn with
   | _ i ihi =>
    intro him
    cases hl:listed.getD i false with
    | true=>rfl
    | false =>
     exfalso
     have U2:i<listed.size:=oM
     have P2:i<l.length:=oM
     have T9:i∈Region.ready .any l.toArray listed:=by
      rw [mem_ready]
      refine ⟨by simpa [U2] using hl,l[i],by simp [P2],fun e he hb=> ?_⟩
      have n8:=a8.back i l[i] (by simp [P2]) e he hb
      exact ihi e.on n8 oM
     rw [hr] at T9
     cases T9
  ·obtain ⟨h0,o,ho,eJ⟩:=mem_ready.1 hi
   have P2:i<l.length:=by have:=(Array.getElem?_eq_some_iff.1 ho).1;simpa using this
   have qB:i<listed.size:=oM
   have h0':listed[i]=false:=by simpa [qB] using h0
   have him:i<m:=by
    rcases Nat.lt_or_ge i m with h1 | h1
    ·exact h1
    ·exfalso
     exact F6 fun x hx=>Sb.D6 hI (n8 i x h1 P2 oM) (.inr hi)
   have v2l:∀ v w',Below w.heap.size w w'->Sb.look ps i v w'->dS w0.heap.size al (fun k=>(listed.setIfInBounds i true).getD k false=true) (a.put o.dst v) w'->wpAny P .any l.toArray Q fuel (listed.setIfInBounds i true) (a.put o.dst v) w':=by
    intro v w' hb hp hpn
    refine ih _ _ _ (by simp [nQ]) ?_ (fun x hx=>by rw [getD_set_ne false oM];exact hm x hx) ⟨⟨hI.here.ext.trans (hb.mono hI.here.ext.size),(Sb.put_defers ..).trans hI.here.defers,(Sb.put_size ..).trans hI.here.size,fun t ht=>(Sb.put_get_ne _ _ _ _ (ht i o ho)).trans (hI.here.old t ht)⟩,?_,?_,?_⟩ hpn
    ·have iA:(listed.setIfInBounds i true).toList=listed.toList.set i true:=sP
     have y7s:0<listed.toList.countP (! ·):=by
      rw [List.countP_pos_iff]
      exact ⟨listed[i],sP,by simp [h0']⟩
     rw [iA,List.countP_set (by simpa using qB)]
     simp only [Array.getElem_toList,h0',Bool.not_false,Bool.not_true,if_true,Bool.false_eq_true,if_false,Nat.add_zero]
     omega
    ·intro k ok hk hl e he hb
     by_cases eK:i=k
     ·subst eK
      rw [ho] at hk
      injection hk with hk
      subst hk
      exact getD_set_true (eJ e he hb)
     ·rw [getD_set_ne false eK] at hl
      exact getD_set_true (hI.closed k ok hk hl e he hb)
    ·intro k hk hl
     by_cases eK:i=k
     ·subst eK
      refine ⟨v,fun o'' d aX hd=> ?_,hp⟩
      rw [ho] at aX
      injection aX with aX
      subst aX
      rw [hd]
      exact Sb.put_get _ _ _ (by rw [hI.here.size];exact a8.room i o d ho hd)
     ·rw [getD_set_ne false eK] at hl
      obtain ⟨v',hv',vG⟩:=hI.got k hk hl
      refine ⟨v',fun o'' d aX hd=> ?_,y8 k _ _ _ hb vG⟩
      rw [Sb.put_get_ne _ _ _ _ (fun he=>eK (a8.apart i k o o'' d ho aX he hd))]
      exact hv' o'' d aX hd
    ·intro t ht
     refine (Sb.put_get_ne _ _ _ _ (fun he=> ?_)).trans (hI.nP t fun j oj hj hd=> ?_)
     ·have h9:=ht i o ho he
      simp [qB] at h9
     ·have h9:=ht j oj hj hd
      by_cases dU:i=j
      ·subst dU;simp [qB] at h9
      ·rwa [getD_set_ne false dU] at h9
   have w7r:∀ k,k≠i->(listed.setIfInBounds i true).getD k false=true->listed.getD k false=true:=fun k hk h=>by rw [getD_set_ne false (fun e=>hk e.symm)] at h;exact h
   have F0:∀ x∈al,∀ ox:Oper,l[x.1]? =some ox->ox.dst=some x.2.1:=fun x hx ox hox=>by
    obtain ⟨o1,h1,h2⟩:=(bS x hx).dst
    rw [hox] at h1;injection h1 with h1;rw [h1];exact h2
   by_cases hx:∃ x∈al,x.1=i
   ·obtain ⟨x,hx,rfl⟩:=hx
    have F:=bS x hx
    have hod:o.dst=some x.2.1:=F0 x hx o (by simpa using ho)
    refine F.step a w _ ?_
    have bH:=v2l (ptr w.heap.size) (w.alloc x.2.2) ((Below.refl _ w).alloc nR _) (F.holds w) ?_
    ·rw [hod] at bH;exact bH
    ·rw [hod]
     have hN:=y5i (i:=x.1) (d:=x.2.1) (w':=w.alloc x.2.2) kF hI.here.ext.size sP (by rw [hI.here.size];exact a8.room x.1 o x.2.1 ho hod) (fun y hy he=>by
      have h1:=F0 y hy o (by rw [he];simpa using ho)
      rw [hod] at h1;injection h1 with h1;exact h1.symm) (fun y hy E6 e=>by
      obtain ⟨oy,h1,h2⟩:=(bS y hy).dst
      exact E6 (a8.apart y.1 x.1 oy o x.2.1 (by simpa using h1) ho (by rw [h2,e]) hod))
     refine hN.of fun y hy hc=> ?_
     by_cases hyi:y.1=x.1
     ·exact .inl hyi
     ·exact .inr (w7r y.1 hyi hc)
   ·refine hg i him a w hI.here ⟨fun j hj hjp=> ?_,fun t ht=> ?_⟩ _ (fun o' V9 v w' hb hp=> ?_)
    ·exact hI.got j sO (Sb.D6 hI hj (.inr hi))
    ·refine hI.nP t fun j oj hj hd=> ?_
     have h9:listed.getD i false=false:=by simp [qB,h0']
     rcases ht j oj hj hd with rfl | z4j
     ·exact h9
     ·cases hl:listed.getD j false with
      | false=>rfl
      | true=>rw [Sb.D6 hI z4j (.inl hl)] at h9;cases h9
    ·rw [ho] at V9
     injection V9 with V9
     subst V9
     refine v2l v w' hb hp (y5j kF hb.size (fun y hy hc=>w7r y.1 (fun e=>hx ⟨y,hy,e⟩) hc) (fun y hy hc e=> ?_))
     obtain ⟨oy,h1,h2⟩:=(bS y hy).dst
     exact hx ⟨y,hy,a8.apart y.1 i oy o y.2.1 (by simpa using h1) ho h2 e⟩
theorem z2a {id n m:Nat} (al:List (Nat×Nat×Obj)) (bS:∀ x∈al,x9d P Q l x.1 x.2.1 x.2.2 (Sb.look ps x.1)) {ws:List (Nat×Nat×List Nat)} (hm:P.follows .mixedOrders=true) (hn:a0.tmps.size=n) (a8:OkOps l.toArray n) (hlen:ps.length=m) (nS:Nat.blt m l.length=true) (hch:chain1 l m ws=true)
  (q9:∀ a w,Here l.toArray a0 w0 a w->Hid (∀ i,i<m->Got l.toArray ps i a w)->Hid (dS w0.heap.size al (. <m) a w)->TL P l Q m a w):(Sb.eL P id l.toArray Q a0 w0 ps):=by
 subst hn
 refine ⟨fun hg=> ?_⟩
 refine ⟨hm,?_⟩
 refine x9c bS (Nat.le_of_ble_eq_true nS) (fun k i h1 h2 h3=>chain_dep hch h1 h2 h3) a8 hlen hg.1 (fun i hi=>hg.2 i oM) (fun a w hh iB kF=>(q9 a w hh iB (H9 kF)).out) _ _ _ _ sP ?_ (fun i hi=> ?_) ?_ ?_
 ·exact Nat.le_trans List.countP_le_length sP
 ·by_cases h:i<l.length
  ·simp [h]
  ·simp [h]
 ·refine ⟨⟨⟨rfl,rfl,rfl,nR,fun _ _=>rfl⟩,rfl,rfl,fun _ _=>rfl⟩,fun i o ho hl=> ?_,fun i hi hl=> ?_,fun _ _=>rfl⟩
  ·have hi:=(Array.getElem?_eq_some_iff.1 ho).1
   simp at hi
   simp [hi] at hl
  ·simp at hi
   simp [hi] at hl
 ·refine ⟨fun x hx hc=> ?_,fun x hx y hy E6 hcx hcy=> ?_⟩
  ·exfalso
   obtain ⟨o,h1,_⟩:=(bS x hx).dst
   have h2:=(E2 h1).1
   simp [h2] at hc
  ·exfalso
   obtain ⟨o,h1,_⟩:=(bS x hx).dst
   have h2:=(E2 h1).1
   simp [h2] at hcx
theorem z7a {i d:Nat} {t:TypeId} {ob:Obj} {p:Pr} {o:Oper} (ho:l[i]? =some o) (hg:o.guard=none) (hd:o.dst=some d) (lT:o.op= .alloc t) (hr:∀ (e:Operand->Value) (w:World),(execOp e o).run P w= .ok (.value (ptr w.heap.size)) (w.alloc ob)) (hp:∀ w:World,p (ptr w.heap.size) (w.alloc ob)):x9d P Q l i d ob p :=
 ⟨⟨o,ho,hd⟩,fun a w K hK=>Sb.op_plain ho hg (by unfold Oper.wp;rw [hr,Oper.upon_value,hd];exact hK),hp⟩
theorem low {al:List (Nat×Nat×Obj)} {m:Nat} {a:Act} {w:World} (h:Hid (dS w0.heap.size al (. <m) a w)) (x:Nat×Nat×Obj) (hx:x∈al) (hxm:Nat.blt x.1 m=true) {g:Nat} (hg:a.tmps[x.2.1]? =some (ptr g)):w0.heap.size<=g:=by
 obtain ⟨g1,h1,_,h3⟩:=h.out.1 x hx (Nat.le_of_ble_eq_true hxm)
 rw [h1] at hg
 injection hg with hg
 injection hg with hg
 injection hg with hg
 injection hg with hg
 omega
def PZ (cs:Array Value) (t:TypeId):Pr:=fun v w=>∃ g,v=ptr g/\w.heap[g]? =some (.cells cs t (0,0))
theorem PZ.u5 (cs:Array Value) (t:TypeId):Sb.Stable (PZ cs t):=fun v w w' hb ⟨g,h1,h2⟩=>⟨g,h1,(hb.block g (Array.getElem?_eq_some_iff.1 h2).1).trans h2⟩
theorem PZ.mk (cs:Array Value) (t:TypeId) (w:World):PZ cs t (ptr w.heap.size) (w.alloc (.cells cs t)):=⟨_,rfl,heap_alloc_new w _⟩
end
end Ta
namespace Dw
def valG (ss:List State):Nat->Nat×Bool->List Nat->Option (Nat×Nat×Bool)
 | k,s,[]=>some (k,s)
 | k,s,b::w=>match ss[k]?.bind fun st=>st.a6.find? (X0 b k) with
  | none=>none
  | some a=>valG ss a.to.toNat ((s.1+a.out)%y5,s.2&&decide (s.1+a.out<y5)) w
def valFin (ss:List State):Option (Nat×Nat×Bool)->Option Nat
 | none=>none
 | some (k,n,f)=>match ss[k]? with
  | none=>none
  | some st=>if st.final&&(f&&decide (n+st.out<y5)&&decide ((n+st.out)%y5<=4294967296)) then some ((n+st.out)%y5) else none
def uM (init:Nat) (ss:List State) (s:ByteArray):Option Nat:=valFin ss (valG ss (ss.length-1) (init,true) (wl s))
theorem rZ {w W:World} {g n n2:Nat} {f f2:Bool} (h:w.heap[g]? =some (.cells #[.int .u64 n2,.bool f2] 190 (0,0))) (hW:(w.setCell ⟨g,0,none⟩ (.int .u64 n)).setCell ⟨g,1,none⟩ (.bool f)=W) :
  W.heap[g]? =some (.cells #[.int .u64 n,.bool f] 190 (0,0))/\∀ B,B<=g->Below B w W:=by
 subst hW
 refine ⟨(j5 (j5 h _) _).trans sP,fun B hB=>((Below.refl B w).setCell (p:=⟨g,0,none⟩) hB _).setCell (p:=⟨g,1,none⟩) hB _⟩
theorem x2d {w:World} {base:Nat} {v:Value} {l:List Nat} (h:OM w base v l):∃ g c,v= .slice (some ⟨g,0,none⟩) l.length c:=by
 obtain ⟨g,c,_,h,_⟩:=h
 exact ⟨g,c,h⟩
theorem OM.off {w:World} {base g i:Nat} {v u:Value} {l:List Nat} (h:OM w base v l) (hg:g<base):OM (w.setCell ⟨g,i,none⟩ u) base v l:=by
 obtain ⟨b,cap,cur,h1,h2,h3,h4⟩:=h
 exact ⟨b,cap,cur,h1,h2,(Below.heap_setCell _ _ _ _ sQ).trans h3,h4⟩
set_option maxHeartbeats 4000000 in
set_option maxRecDepth 100000 in
theorem x9b (w:World) (sv:Value) (init:Nat) (ss:List State) (s:ByteArray) (o7:RS w sv ss) (hlen:ss.length<=1000000) (a8:∀ s∈ss,J8 s) (D5:∀ (k:Nat) (st:State),ss[k]? =some st->okArcs k (-1) st.a6=true) (h0:0<ss.length) (K0:init<y5) (hss:s.size<=1000000000):G4 w 126 #[.agg #[sv,.int .u64 init],.string s] (.tuple #[.int .u64 ((uM init ss s).getD 0),.bool (uM init ss s).isSome]):=by
 refine aT 64 Tryz.func126 fun fr hf s0 s1=> ?_
 have hwl:(wl s).length<=1000000000:=by rw [l9];exact hss
 obtain ⟨A,cc,rfl,Z3⟩:=o7.form
 obtain ⟨k0,hk0⟩:∃ k,ss.length=k+1:=⟨ss.length-1,oM⟩
 obtain ⟨G0,hG0⟩:∃ x,valG ss (ss.length-1) (init,true) (wl s)=x:=⟨_,rfl⟩
 have hG1:valG ss k0 (init,true) (wl s)=G0:=by rw [<- hG0,hk0];rfl
 have HV:=H9 (show uM init ss s=valFin ss G0 by unfold uM;rw [hG0])
 have HK0:=H9 hk0;clear hk0 hG0
 refine Ze fun _ b7=>Zr [] hf ?_
 refine C1 1 2 hf ?_
 clear hf s0 s1;intro a7 hf sS
 generalize p8:w.alloc (.cells #[.slice A ss.length cc,.int .u64 init] 38)=W0
 obtain ⟨p9,c0,c1, -,v2i⟩:=Z8 p8
 clear p8
 have hw0:w.heap.size<W0.heap.size:=by rw [v2i];exact Nat.lt_succ_self _
 clear v2i
 replace o7:=o7.later p9
 have N3:=o7.n
 have z0:=c0;have z1:=c1
 refine Zs b7 fun _ b7=> ?_
 obtain ⟨s1,s2⟩:=sS
 refine Sb.tb 64 fun a8=> ?_
 refine Sb.T 0 hf a8 ?_ (hF:=fun _ _ h d=>ad (Sb.O h s2) (ad (cL h.ext c0) (ad (cL h.ext c1) (o7.later h.ext))))
 apply Sb.tq 1 _ hf a8
 . (
 intro a7 w1 hh hd hk K Z
 have J0:=Sb.v 0 0 hd hk []
 clear hd
 replace c0:=cL hh.ext c0
 replace c1:=cL hh.ext c1
 replace o7:=o7.later hh.ext
 go_simp
 go_at_call 149;refine (z0u w1 _ init ss o7 oM).mono ?_;rintro e w2 ⟨rfl,hb⟩
 exact Z.out _ rfl _ _ hb rfl)
 refine Sb.T 2 hf a8 ?_ (hF:=fun _ _ h d=>Sb.O h s2)
 refine Sb.T 3 hf a8 ?_ (hF:=fun _ _ h d=>ad (cL h.ext c0) (ad (cL h.ext c1) (o7.later h.ext)))
 refine Sb.T 4 hf a8 ?_
 refine Sb.E8 (k:=5) (n:=64) (Ta.PZ #[.int .u64 0,.bool false] 190) hf.size a8.out rfl (Ta.PZ.u5 _ _) ?_ ?_
 . (
 intro a7 w1 hh hd hk K Z
 refine Sb.pl ?_
 clear hd
 go_simp
 exact Z.out _ rfl _ _ ((Below.refl _ _).alloc nR _) (Ta.PZ.mk _ _ _))
 refine Sb.mN 6 1 4 hf a8 [] ?_
 refine Ta.z2a (n:=64) (m:=7) (ws:=[]) [(5,7,.cells #[.int .u64 0,.bool false] 190)] ?_ kR hf.size a8.out rfl rfl kR (fun a7 w1 hh hg kF=> ?_)
 . (
 intro x hx
 simp only [List.mem_cons,List.not_mem_nil,or_false] at hx
 rcases hx with rfl<;>exact Ta.z7a rfl rfl rfl rfl (fun e w=>kR) (fun w=>Ta.PZ.mk _ _ w))
 replace s1:=Sb.O hh s1
 replace s2:=Sb.O hh s2
 have s6:=Tl.u7 6 0 hg rfl rfl rfl rfl rfl
 obtain ⟨x7,s7,hp7⟩:=Tl.fQ (j:=5) (m:=1) hg rfl rfl rfl rfl rfl
 obtain ⟨g7,hv7,M7⟩:=hp7
 subst hv7
 have N7:=Tl.u7 4 2 hg rfl rfl rfl rfl rfl
 have lo7:=Ta.low kF (5,7,.cells #[.int .u64 0,.bool false] 190) sP rfl s7
 clear kF
 have u3:=hh.fr hf
 have hx:=hh.ext
 replace c0:=cL hx c0
 replace c1:=cL hx c1
 replace o7:=o7.later hx
 clear hg hh hf a8
 have hf:=u3;clear u3
 have i0:=n5 0 M7;have i1:=n5 1 M7;have fi0:=j3 (i:=0) M7;have fi1:=j3 (i:=1) M7
 simp at i0 i1
 refine Tl.D8 rfl rfl (fun K Z=> ?_)
 go_simp
 apply Z.out;clear Z K
 refine Tl.J5 rfl ?_
 refine C0 1 2 6 7 hf ?_
 clear hf s1 s2 s6 s7 N7;intro a7 hf sS
 generalize U1:(w1.setCell ⟨g7,0,none⟩ (.int .u64 init)).setCell ⟨g7,1,none⟩ (.bool true)=W2
 obtain ⟨M7,hbf⟩:=rZ M7 U1
 have G5:=hx.trans (hbf _ lo7)
 clear hbf U1 i0 i1 fi0 fi1 hx o7
 have e6:(ss.length:Int)-1=(k0:Int):=by have:=HK0.out;omega
 obtain ⟨s1,s2,s6,s7⟩:=sS
 rw [e6] at s6
 clear e6
 have qU:=j4 M7
 refine Zs b7 fun _ b7=>Ze fun _ j8=>rg ?_
 have bB:=hf.B2 18 19
 refine Zy ?_
 clear bB
 refine Fc.lQ (n:=64) (by simp only [Fc.G,hf.size]) hf.defers (fun a7 u3 hT=> ?_)
 have G9:=Fc.h4 hT 2 6 7 18
 simp (decide:=true) only [Fc.G,hf.size,reduceIte,s2,s6,s7] at G9
 replace hf:=u3;clear hT u3 s1 s2 s6 s7
 obtain ⟨s2,s6,s7,S2⟩:=G9
 have bB:=hf.b 19
 refine ⟨?_⟩
 refine wpList_plain rfl fun KL tY=> ?_
 refine z0a _ s rfl (Fc.k7 S2) (by unfold maxLen;omega) (fun v1 w2 yD r9=>tY _ _ ?_)
 obtain ⟨gb,cb,rfl⟩:=x2d yD
 refine Fc.L.out ?_
 iterate 2 refine Zy ?_
 refine Fc.nil (J3 2 6 7 19 20 21 hf ?_)
 clear hf s2 s6 s7 S2 bB;intro a7 hf sS
 replace M7:=(r9.block _ qU).trans M7
 replace G5:=G5.trans (r9.mono G5.size)
 obtain ⟨N2,hN2⟩:∃ x,W2.heap.size=x:=⟨_,rfl⟩
 rw [hN2] at yD qU
 clear r9 hN2
 refine Zx j8 (wp_block (wp_loop_ghost (fun gk fr wr=>∃ (i k n:Nat) (f:Bool),gk=(wl s).length-i/\i<=(wl s).length/\k<ss.length/\n<y5/\valG ss k (n,f) ((wl s).drop i)=G0/\Fc.Fr 64 fr/\fr.tmps[2]? =some (.pointer (some ⟨w.heap.size,0,none⟩))/\fr.tmps[6]? =some (.int .i64 k)/\fr.tmps[7]? =some (Ta.ptr g7)/\fr.tmps[19]? =some (.slice (some ⟨gb,0,none⟩) (wl s).length cb)/\fr.tmps[20]? =some (.int .i64 (wl s).length)/\fr.tmps[21]? =some (.int .i64 i)/\OM wr N2 (.slice (some ⟨gb,0,none⟩) (wl s).length cb) (wl s)/\wr.heap[g7]? =some (.cells #[.int .u64 n,.bool f] 190 (0,0))/\Below W0.heap.size W0 wr) ((wl s).length) ?_ ?_))
 . (
 obtain ⟨s2,s6,s7,J6,M6,N6⟩:=sS
 exact ⟨0,k0,init,true,rfl,Nat.zero_le _,by have:=HK0.out;omega,K0,hG1,hf,s2,s6,s7,J6,M6,N6,yD,M7,G5⟩)
 . (
 clear hf sS
 clear yD M7 G5 hG1
 rintro gk fr wr ⟨i,k,n,f,qZ,hi,hk,hn,hG,hf,s2,s6,s7,J6,M6,N6,yD,M7,G5⟩
 have HK:=H9 qZ;clear qZ
 refine Ze fun _ j8=>Zr [] hf ?_
 refine cP 2 6 7 19 20 21 22 hf ?_
 clear hf s2 s6 s7 J6 M6 N6;intro a7 hf sS
 refine Zs j8 fun _ j8=>Fc.l0 sS.2.2.2.2.2.2 (fun hq=> ?_) (fun hq=> ?_)
 . (
 have n8:i<(wl s).length:=qT
 clear hq
 obtain ⟨b,hib⟩:∃ b,(wl s)[i]? =some b:=⟨_,D9 n8⟩
 obtain ⟨_,_,hvv,aF,v2f,cb0, -⟩:=yD.cell hib
 injection hvv with h1 _ h2;injection h1 with h1;injection h1 with h1;subst h1;subst h2
 have uB:b<256:=dR s b (U0 hib)
 have hdr:=List.drop_eq_getElem_cons n8
 have hbe:(wl s)[i]=b:=(E2 hib).2
 rw [hbe] at hdr
 rw [hdr] at hG
 obtain ⟨st,y8⟩:∃ x,ss[k]? =some x:=⟨_,D9 hk⟩
 have c0w:=D1 G5 z0 hw0;have c1w:=D1 G5 z1 hw0
 have o7:=(N3.below G5).rs
 have bS:st.a6.length<4611686018427387904:=(a8 _ (U0 y8)).2.1
 clear hdr hbe hib
 refine wp_skip (Zs j8 fun _ j8=>wp_block (Ze fun _ l6=>Zr [23,24] hf ?_))
 refine cP 2 6 7 9 19 20 21 hf ?_
 clear hf sS;intro a7 hf sS
 refine Zx l6 ?_
 rcases hfd:st.a6.find? (X0 b k) with _ | a
 . (
 refine Ze fun _ l6=>rg ?_
 have bB:=hf.B8 26 27 28 29 25 30 31 32
 iterate 3 refine Zy ?_
 refine Zc (yL wr _ init ss o7 k b st y8 oM bS) ?_;rintro e w5 ⟨rfl,F2⟩
 rw [hfd]
 simp only [stepV]
 replace yD:=yD.later F2;replace M7:=(F2.block _ (j4 M7)).trans M7;replace G5:=G5.trans (F2.mono G5.size)
 clear o7 cb0 c0w c1w F2
 refine Zv ?_
 iterate 7 refine Zy ?_
 refine Fc.nil (nM 2 7 10 11 12 19 20 21 hf ?_)
 clear hf sS bB;intro a7 hf sS
 refine Zs l6 fun _ l6=>Ze fun _ N4=>Zr [33] hf ?_
 refine nM 2 7 10 11 19 20 21 34 hf ?_
 clear hf sS;intro a7 hf sS
 refine Zx N4 (Fc.l8 sS.2.2.2.2.2.2.2 ?_)
 have hG0:G0=none:=by rw [<- hG];simp only [valG,y8,Option.bind_some,hfd]
 refine Ze fun _ N4=>Zr [] hf ?_
 refine C1 4 5 hf ?_
 clear hf sS;intro a7 hf sS
 refine Zx N4 (k8 ?_)
 exact Fc.U6 rfl hf sS.1 sS.2 ⟨by rw [HV.out,hG0];rfl,p9.trans (G5.mono p9.size)⟩)
 . (
 have w2l:X0 b k a=true:=List.find?_some hfd
 have nF:0<=a.to/\a.to<(k:Int):=by unfold X0 at w2l;simp at w2l;omega
 obtain ⟨c,hc⟩:∃ c:Nat,a.to=(c:Int):=⟨a.to.toNat,oM⟩
 have hou:a.out<y5:=((a8 _ (U0 y8)).2.2 a (List.mem_of_find?_eq_some hfd)).2.1
 have hG2:valG ss c ((n+a.out)%y5,f&&decide (n+a.out<y5)) ((wl s).drop (i+1))=G0:=by rw [<- hG];simp only [valG,y8,Option.bind_some,hfd,hc,Int.toNat_natCast]
 have HC:=H9 hc;have N5:c<ss.length:=oM
 clear hG hc w2l nF
 refine Ze fun _ l6=>rg ?_
 have bB:=hf.B8 26 27 28 29 25 30 31 32
 iterate 3 refine Zy ?_
 refine Zc (yL wr _ init ss o7 k b st y8 oM bS) ?_;rintro e w5 ⟨rfl,F2⟩
 rw [hfd]
 simp only [stepV]
 rw [HC.out]
 replace yD:=yD.later F2;replace M7:=(F2.block _ (j4 M7)).trans M7;replace G5:=G5.trans (F2.mono G5.size)
 clear o7 cb0 c0w c1w F2
 refine Zv ?_
 iterate 7 refine Zy ?_
 refine Fc.nil (nM 2 7 10 11 12 19 20 21 hf ?_)
 clear hf sS bB;intro a7 hf sS
 refine Zs l6 fun _ l6=>Ze fun _ N4=>Zr [33] hf ?_
 refine nM 2 7 10 11 19 20 21 34 hf ?_
 clear hf sS;intro a7 hf sS
 refine Zx N4 (Fc.k9 sS.2.2.2.2.2.2.2 ?_)
 have y0:=n5 0 M7;have y1:=n5 1 M7;have fy0:=j3 (i:=0) M7;have fy1:=j3 (i:=1) M7
 simp at y0 y1
 refine wp_skip (Zx l6 (rg ?_))
 have bB:=hf.B4 35 36 37 38
 iterate 3 refine Zy ?_
 refine Zc (kH w5 n a.out f hn hou) ?_;rintro e w8 ⟨rfl,dZ⟩
 obtain ⟨sm,Z7⟩:∃ x,(n+a.out)%y5=x:=⟨_,rfl⟩
 obtain ⟨sf,hsf⟩:∃ x,(f&&decide (n+a.out<y5))=x:=⟨_,rfl⟩
 rw [Z7,hsf] at hG2 |-
 have hsl:sm<y5:=by rw [<- Z7];exact Nat.mod_lt _ (by unfold y5;omega)
 clear Z7 hsf
 replace yD:=yD.later dZ;replace M7:=(dZ.block _ (j4 M7)).trans M7;replace G5:=G5.trans (dZ.mono G5.size);replace y0:=cL dZ y0;replace y1:=cL dZ y1;replace fy0:=j3 (i:=0) M7;replace fy1:=j3 (i:=1) M7
 clear dZ
 refine Zv ?_
 iterate 2 refine Zy ?_
 refine Fc.nil (J3 2 6 7 19 20 21 hf ?_)
 clear hf sS bB;intro a7 hf sS
 generalize kQ:(w8.setCell ⟨g7,0,none⟩ (.int .u64 sm)).setCell ⟨g7,1,none⟩ (.bool sf)=W9
 obtain ⟨M7,hbf⟩:=rZ M7 kQ
 replace yD:OM W9 N2 (.slice (some ⟨gb,0,none⟩) (wl s).length cb) (wl s):=by rw [<- kQ];exact (yD.off qU).off qU
 replace G5:=G5.trans (hbf _ lo7)
 clear hbf kQ y0 y1 fy0 fy1
 refine Fc.j7 (Zx j8 (Zr [39] hf ?_))
 refine J3 2 6 7 19 20 21 hf ?_
 clear hf sS;intro a7 hf sS
 refine Fc.j6 ?_
 obtain ⟨s2,s6,s7,J6,M6,N6⟩:=sS
 exact ⟨_,by have:=HK.out;omega,i+1,c,sm,sf,rfl,oM,N5,hsl,hG2,hf,s2,s6,s7,J6,M6,by rw [N6];rfl,yD,M7,G5⟩))
 . (
 have F3:i=(wl s).length:=qF
 clear hq
 rw [F3,List.drop_length] at hG
 simp only [valG] at hG
 obtain ⟨st,y8⟩:∃ x,ss[k]? =some x:=⟨_,D9 hk⟩
 have HV2:=H9 (show uM init ss s=(if st.final&&(f&&decide (n+st.out<y5)&&decide ((n+st.out)%y5<=4294967296)) then some ((n+st.out)%y5) else none) by rw [HV.out, <- hG];simp only [valFin,y8])
 have hso:=(a8 _ (U0 y8)).1
 have c0w:=D1 G5 z0 hw0
 have o7:=(N3.below G5).rs
 obtain ⟨bb,off,av,hA0,D3⟩:=o7.at_ y8
 subst hA0
 have x1:=D3.c1;have x2:=D3.c2
 have q1:decide ((k:Int)<0)=false:=decide_eq_false oM
 clear D3 o7 hG yD
 refine Zo ?_
 refine Zs b7 fun _ b7=>Ze fun _ j8=> ?_
 have qs:=q1
 refine Zr [40,41,42,43,44,45,46,47,48,49] hf ?_
 refine C0 2 6 7 50 hf ?_
 clear hf sS qs;intro a7 hf sS
 refine Zx j8 (Fc.l0 sS.2.2.2 (fun H7=> ?_) (fun H7=> ?_))
 . (
 have kD:st.final=false:=by simpa using H7
 clear H7
 refine Ze fun _ j8=>Zr [] hf ?_
 refine C1 4 5 hf ?_
 clear hf sS;intro a7 hf sS
 refine Zx j8 (k8 ?_)
 exact Fc.U6 rfl hf sS.1 sS.2 ⟨by rw [HV2.out,kD];rfl,p9.trans (G5.mono p9.size)⟩)
 . (
 have kD:st.final=true:=by simpa using H7
 clear H7
 have y0:=n5 0 M7;have y1:=n5 1 M7
 simp at y0 y1
 obtain ⟨sm,Z7⟩:∃ x,(n+st.out)%y5=x:=⟨_,rfl⟩
 obtain ⟨sf,hsf⟩:∃ x,(f&&decide (n+st.out<y5))=x:=⟨_,rfl⟩
 have hv2:=HV2.out
 rw [kD,Z7,hsf,Bool.true_and] at hv2
 have HSM:=H9 Z7;have HSF:=H9 hsf;have HV3:=H9 hv2;clear Z7 hsf HV2 hv2
 refine wp_skip (Zs b7 fun _ b7=>Ze fun _ j8=> ?_)
 obtain ⟨s2,s6,s7,yG⟩:=sS
 refine Sb.tb 64 fun a8=> ?_
 have lf:=H9 fun (w9:World) (h9:Below _ _ w9)=>ad (cL h9 c0w) (ad (cL h9 x2) (ad (cL h9 y0) (cL h9 y1)))
 refine Sb.T 0 hf a8 ?_ (hF:=fun _ _ h d=>ad (Sb.O h s7) (lf.out _ h.ext))
 refine Sb.T 1 hf a8 ?_ (hF:=fun _ _ h d=>Sb.O h s2)
 refine Sb.T 2 hf a8 ?_ (hF:=fun _ _ h d=>lf.out _ h.ext)
 refine Sb.mO 3 s6 hf a8 ?_
 refine Sb.T 4 hf a8 ?_
 refine Sb.T 5 hf a8 ?_
 refine Sb.T 6 hf a8 ?_ (hF:=fun _ _ h d=>lf.out _ h.ext)
 apply Sb.tq 7 _ hf a8
 . (
 intro a7 w1 hh hd hk K Z
 have pS:=Sb.v 0 6 hd hk []
 have s57:=Sb.v 6 0 hd hk []
 clear hd
 have L7:=lf.out _ hh.ext;try clear c0w x2 y0 y1;obtain ⟨c0w,x2,y0,y1⟩:=L7
 go_simp
 go_at_call 113;refine (kH w1 n st.out f hn hso).mono ?_;rintro e w2 ⟨rfl,hb⟩
 rw [HSM.out,HSF.out]
 exact Z.out _ rfl _ _ hb rfl)
 refine Tl.D7 (n:=64) (m:=8) (ws:=[]) kR hf.size a8.out rfl rfl kR (fun a7 w1 hh hg=> ?_)
 replace s7:=Sb.O hh s7
 have s58:=Tl.u7 7 0 hg rfl rfl rfl rfl rfl
 have u3:=hh.fr hf
 have hx:=hh.ext
 have L7:=lf.out _ hx;try clear c0w x2 y0 y1;clear lf;obtain ⟨c0w,x2,y0,y1⟩:=L7
 clear hg hh hf a8 s2 s6 yG
 have hf:=u3;clear u3
 replace M7:=(hx.block _ (j4 M7)).trans M7;replace G5:=G5.trans (hx.mono G5.size)
 have fy0:=j3 (i:=0) M7;have fy1:=j3 (i:=1) M7
 refine Tl.D8 rfl rfl (fun K Z=> ?_)
 go_simp
 apply Z.out;clear Z K
 refine Tl.J5 rfl ?_
 refine r6 7 hf ?_
 clear hf s7 s58;intro a7 hf s7
 have hv2:=HV3.out;clear HV3
 generalize kB:(w1.setCell ⟨g7,0,none⟩ (.int .u64 sm)).setCell ⟨g7,1,none⟩ (.bool sf)=W3
 obtain ⟨M7,hbf⟩:=rZ M7 kB
 replace G5:=G5.trans (hbf _ lo7)
 clear hbf kB y0 y1 fy0 fy1 c0w x2
 have y0:=n5 0 M7;have y1:=n5 1 M7
 simp at y0 y1
 refine Zt j8 fun _ j8=> ?_
 have bB:=hf.B2 59 60
 refine Zy ?_
 refine Zc (y3q W3 sm sf) ?_;rintro e w5 ⟨rfl,F2⟩
 obtain ⟨is,tG⟩:∃ x,(sf&&decide (sm<=4294967296))=x:=⟨_,rfl⟩
 rw [tG] at hv2 |-
 have HV2:=H9 hv2
 replace G5:=G5.trans (F2.mono G5.size);replace y0:=cL F2 y0
 clear hv2 tG F2
 refine Zv ?_
 refine Zy ?_
 refine Fc.nil (C1 7 61 hf ?_)
 clear hf s7 bB;intro a7 hf sS
 refine Zx j8 (Fc.l0 sS.2 (fun T3=> ?_) (fun T3=> ?_))
 . (
 have U2:is=false:=by simpa using T3
 clear T3
 subst U2
 refine Ze fun _ j8=>Zr [] hf ?_
 refine C1 4 5 hf ?_
 clear hf sS;intro a7 hf sS
 refine Zx j8 (k8 ?_)
 exact Fc.U6 rfl hf sS.1 sS.2 ⟨by rw [HV2.out];rfl,p9.trans (G5.mono p9.size)⟩)
 . (
 have U2:is=true:=by simpa using T3
 clear T3
 subst U2
 refine wp_skip (Zs b7 fun _ b7=>Zr [62,63] hf ?_)
 refine C1 4 5 hf ?_
 clear hf sS;intro a7 hf sS
 refine Zx b7 (k8 ?_)
 exact Fc.U6 rfl hf sS.1 sS.2 ⟨by rw [HV2.out];rfl,p9.trans (G5.mono p9.size)⟩))))
end Dw
end Go.Proofs.YtcddnmhmcieebaaGreatDoor
