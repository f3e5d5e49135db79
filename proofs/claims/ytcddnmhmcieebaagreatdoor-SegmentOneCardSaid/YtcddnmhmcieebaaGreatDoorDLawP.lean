/- Dawg: laws of the mirror. -/
import Derived.Test.YtcddnmhmcieebaaGreatDoorY1
import Derived.Test.YtcddnmhmcieebaaGreatDoorY3
namespace Go.Proofs.YtcddnmhmcieebaaGreatDoor
set_option linter.unusedSimpArgs false
set_option linter.unusedVariables false
namespace Dw
theorem G8 (n:Nat) (ss:List State) (o6:List Open) (h:o6.length<=1):closeN n ss o6=(ss,o6):=by
 cases n with
 | zero=>simp [closeN]
 | succ n =>
  match o6,h with
  | [],_=>rfl
  | [o],_=>rfl
theorem R1 (ss:List State) (o6:List Open):closeN 0 ss o6=(ss,o6):=by cases o6<;>rfl
theorem z5e (m n:Nat):∀ (ss:List State) (o6:List Open),closeN (m+n) ss o6=closeN n (closeN m ss o6).1 (closeN m ss o6).2:=by
 induction m with
 | zero=>intro ss o6;rw [Nat.zero_add,R1]
 | succ m ih =>
  intro ss o6
  match o6 with
  | []=>rw [G8 (m+1) _ _ (Nat.zero_le _),G8 (m+1+n) _ _ (Nat.zero_le _),G8 n _ _ (Nat.zero_le _)]
  | [o]=>rw [G8 (m+1) _ _ nR,G8 (m+1+n) _ _ nR,G8 n _ _ nR]
  | o::up::o6 =>
   rw [show m+1+n=(m+n)+1 by omega]
   show closeN (m+n) (G6 ss up o).1 ((G6 ss up o).2::o6)=_
   rw [ih]
   rfl
theorem tP (n:Nat):∀ (ss:List State) (o6:List Open),n<o6.length->(closeN n ss o6).2.length=o6.length-n:=by
 induction n with
 | zero=>intro ss o6 h;rw [R1];rfl
 | succ n ih =>
  intro ss o6 h
  match o6,h with
  | [o],h=>simp at h
  | o::up::o6,h =>
   show (closeN n (G6 ss up o).1 ((G6 ss up o).2::o6)).2.length=_
   rw [ih _ _ (by simp at h |-;omega)]
   simp
theorem Z6 (ss:List State) (o6:List Open) (d:Nat) (h:d<o6.length):(close ss o6 d).2.length=d+1:=by
 unfold close
 rw [tP _ _ _ oM]
 omega
theorem zW (ss:List State) (o6:List Open) {a b:Nat} (hab:a<=b) (hb:b<o6.length):close (close ss o6 b).1 (close ss o6 b).2 a=close ss o6 a:=by
 have hl:=Z6 ss o6 b hb
 unfold close at hl |-
 rw [hl, <- z5e]
 congr 1
 omega
theorem zX (a:List Nat):shared a a=a.length:=by
 induction a with
 | nil=>rfl
 | cons x a ih=>simp [shared,ih]
theorem uT (a b:List Nat):shared a b<=b.length:=by
 induction a generalizing b with
 | nil=>simp [shared]
 | cons x a ih =>
  cases b with
  | nil=>simp [shared]
  | cons y b =>
   simp only [shared]
   split
   ·have:=ih b;simp;omega
   ·omega
theorem jE (o6:List Open) (w:List Nat):(opens o6 w).length=o6.length+w.length:=by
 induction w generalizing o6 with
 | nil=>rfl
 | cons b w ih=>rw [opens,ih];simp;omega
theorem eE (v:Nat) (o6:List Open):(mark v o6).length=o6.length:=by cases o6<;>rfl
theorem lH (x:List State×List Open) (last:List Nat) (a b:List Wv):adds x last (a++b)=adds (adds x last a) ((a.getLast?.map Prod.fst).getD last) b:=by
 induction a generalizing x last with
 | nil=>rfl
 | cons e a ih =>
  rw [List.cons_append,adds,ih,adds]
  congr 1
  cases a with
  | nil=>rfl
  | cons f a =>
   rw [List.getLast?_cons_cons]
   obtain ⟨y,hy⟩:∃ y,(f::a).getLast? =some y:=⟨_,List.getLast?_eq_some_getLast sP⟩
   rw [hy];rfl
/-! rising lists of words, and their groups by the next byte -/
def lexlt:List Nat->List Nat->Bool
 | [],_::_=>true
 | _,[]=>false
 | x::a,y::b=>decide (x<y)||(decide (x=y)&&lexlt a b)
def L6 (l:List Wv):Prop:=l.Pairwise fun a b=>lexlt a.1 b.1=true
def groups:List Wv->List (Nat×List Wv)
 | []=>[]
 | ([],_)::l=>groups l
 | (b::w,v)::l=>match groups l with
  | []=>[(b,[(w,v)])]
  | (b',g)::gs=>if b=b' then (b,(w,v)::g)::gs else (b,[(w,v)])::(b',g)::gs
def pre (p:List Nat) (e:Wv):Wv:=(p++e.1,e.2)
def flat (gs:List (Nat×List Wv)):List Wv:=gs.flatMap fun x=>x.2.map (pre [x.1])
structure Grp (l:List Wv) (gs:List (Nat×List Wv)):Prop where
 flat:l=flat gs
 some_:∀ x,x∈gs->x.2≠[]/\L6 x.2
 Z0:gs.Pairwise fun a b=>a.1<b.1
theorem P7 {x y:Nat} {a b:List Nat}:lexlt (x::a) (y::b)=true ↔ x<y\/(x=y/\lexlt a b=true):=by simp [lexlt]
theorem R2 (a:List Nat):lexlt a []=false:=by cases a<;>rfl
theorem eF:∀ (a b c:List Nat),lexlt a b=true->lexlt b c=true->lexlt a c=true
 | _,[],_,h1,_=>by rw [R2] at h1;cases h1
 | _,_::_,[],_,h2=>by rw [R2] at h2;cases h2
 | [],y::b,z::c,_,_=>rfl
 | x::a,y::b,z::c,h1,h2=>by
  rw [P7] at h1 h2 |-
  rcases h1 with h1 | ⟨rfl,h1⟩
  ·rcases h2 with h2 | ⟨rfl,h2⟩
   ·exact .inl oM
   ·exact .inl h1
  ·rcases h2 with h2 | ⟨rfl,h2⟩
   ·exact .inl h2
   ·exact .inr ⟨rfl,eF a b c h1 h2⟩
theorem L6.tail {e:Wv} {l:List Wv} (h:L6 (e::l)):L6 l:=(List.pairwise_cons.1 h).2
theorem L6.head {e:Wv} {l:List Wv} (h:L6 (e::l)):∀ x∈l,lexlt e.1 x.1=true:=(List.pairwise_cons.1 h).1
theorem L6.nonempty {e:Wv} {l:List Wv} (h:L6 (e::l)):∀ x∈l,x.1≠[]:=fun x hx h0=>by
 have:=h.head x hx
 rw [h0,R2] at this
 cases this
theorem aJ:∀ {l:List Wv},L6 l->(∀ x∈l,x.1≠[])->Grp l (groups l)
 | [],_,_=>⟨rfl,(fun x hx=>by cases hx),List.Pairwise.nil⟩
 | ([],v)::l,_,hn=>absurd rfl (hn _ (List.mem_cons_self ..))
 | (b::w,v)::l,hr,hn=>by
  have ih:=aJ hr.tail (fun x hx=>hn x (List.mem_cons_of_mem _ hx))
  have hd:=hr.head
  simp only [groups]
  cases hg:groups l with
  | nil =>
   rw [hg] at ih
   have hl:l=[]:=ih.flat
   subst hl
   exact ⟨rfl,fun x hx=>by simp at hx;subst hx;exact ⟨sP,by simp [L6]⟩,sP⟩
  | cons x gs =>
   obtain ⟨b',g⟩:=x
   rw [hg] at ih
   have hs:=ih.some_ (b',g) (List.mem_cons_self ..)
   obtain ⟨⟨w',v'⟩,g',rfl⟩:∃ e g',g=e::g':=List.exists_cons_of_ne_nil hs.1
   have hfl:=ih.flat
   simp only [flat,List.flatMap_cons,List.map_cons,List.cons_append] at hfl
   have n8:=hd (pre [b'] (w',v')) (by rw [hfl];exact List.mem_cons_self ..)
   have bW:lexlt (b::w) (b'::w')=true:=n8
   rw [P7] at bW
   have V8:=List.pairwise_cons.1 ih.Z0
   by_cases hb:b=b'
   ·subst hb
    simp only [if_true]
    refine ⟨?_,fun x hx=> ?_,List.pairwise_cons.2 ⟨fun y hy=>V8.1 y hy,V8.2⟩⟩
    ·rw [hfl];simp [flat,pre]
    ·rcases List.mem_cons.1 hx with rfl | hx
     ·refine ⟨sP,List.pairwise_cons.2 ⟨fun y hy=> ?_,hs.2⟩⟩
      have h2:=hd (pre [b] y) (by
       rw [ih.flat]
       simp only [flat,List.flatMap_cons]
       exact List.mem_append_left _ (List.mem_map_of_mem hy))
      have h3:lexlt (b::w) (b::y.1)=true:=h2
      rw [P7] at h3
      rcases h3 with h3 | h3
      ·omega
      ·exact h3.2
     ·exact ih.some_ x (List.mem_cons_of_mem _ hx)
   ·have u7e:b<b':=by rcases bW with h | h;exact h;exact absurd h.1 hb
    simp only [hb,if_false]
    refine ⟨?_,fun x hx=> ?_,List.pairwise_cons.2 ⟨fun y hy=> ?_,ih.Z0⟩⟩
    ·rw [ih.flat];simp [flat,pre]
    ·rcases List.mem_cons.1 hx with rfl | hx
     ·exact ⟨sP,by simp [L6]⟩
     ·exact ih.some_ x hx
    ·rcases List.mem_cons.1 hy with rfl | hy
     ·exact u7e
     ·have:=V8.1 y hy
      simp only at this |-
      omega
/-! the tree of all words, state by state -/
def finOf:List Wv->Bool×Nat
 | ([],v)::_=>(true,v)
 | _=>(false,0)
def arcsN (rec:List State->List Wv->List State×State):List State->List r7->List (Nat×List Wv)->List State×List r7
 | ss,dX,[]=>(ss,dX)
 | ss,dX,(b,g)::gs =>
  let r:=rec ss g
  let q:=finish r.1 (less r.2 (leastOf r.2))
  arcsN rec q.1 (dX++[⟨b,leastOf r.2,(q.2:Int)⟩]) gs
def N:Nat->List State->List Wv->List State×State
 | 0,ss,_=>(ss,E1)
 | f+1,ss,l =>
  let r:=arcsN (N f) ss [] (groups l)
  (r.1,⟨(finOf l).1,(finOf l).2,r.2⟩)
theorem gZ (p a:List Nat):shared p (p++a)=p.length:=by
 induction p with
 | nil=>cases a<;>rfl
 | cons x p ih=>simp [shared,ih]
theorem y8g (p:List Nat) {b b':Nat} (w w':List Nat) (h:b≠b'):shared (p++b::w) (p++b'::w')=p.length:=by
 induction p with
 | nil=>simp [shared,h]
 | cons x p ih=>simp [shared,ih]
theorem cU (ss:List State) (o6:List Open) (d:Nat) (h:o6.length<=d+1):close ss o6 d=(ss,o6):=by
 unfold close
 rw [show o6.length-(d+1)=0 by omega,R1]
theorem y3u {ss kA:List State} {o6:List Open} {last p:List Nat} {b:Nat} {st:State} {cN:Nat} {rest:List Open} (hr:rest.length=p.length)
  (hc:close ss o6 p.length=(kA,⟨st,cN⟩::rest)) (e:Wv) (hs:shared last (p++b::e.1)=p.length) :
  add (ss,o6) last (pre p (pre [b] e))=add (kA,⟨E1,b⟩::⟨st,cN⟩::rest) (p++[b]) (pre (p++[b]) e):=by
 have e1:pre p (pre [b] e)=(p++b::e.1,e.2):=rfl
 have e2:pre (p++[b]) e=(p++b::e.1,e.2):=by simp [pre]
 have e3:shared (p++[b]) (p++b::e.1)=p.length+1:=by
  have:=gZ (p++[b]) e.1
  simpa using this
 rw [e1,e2]
 unfold add
 simp only [hs,e3]
 rw [hc,cU _ _ (p.length+1) (by simp [hr])]
 simp only [List.drop_left]
 rw [show p++b::e.1=(p++[b])++e.1 by simp,show p.length+1=(p++[b]).length by simp,List.drop_left]
 rfl
theorem fF (x:List State×List Open) (last:List Nat) (e:Wv) (l:List Wv):adds x last (e::l)=adds (add x last e) e.1 l:=rfl
theorem uU (x:List State×List Open) (last:List Nat) (e:Wv) (h:shared last e.1<x.2.length):(add x last e).2.length=e.1.length+1:=by
 unfold add
 simp only [eE,jE]
 rw [Z6 _ _ _ h,List.length_drop]
 have:=uT last e.1
 omega
theorem pE (a b:List Nat):shared a b<=a.length:=by
 induction a generalizing b with
 | nil=>simp [shared]
 | cons x a ih =>
  cases b with
  | nil=>simp [shared]
  | cons y b =>
   simp only [shared]
   split
   ·have:=ih b;simp;omega
   ·omega
theorem zY:∀ (l:List Wv) (x:List State×List Open) (last:List Nat),x.2.length=last.length+1->(adds x last l).2.length=((l.getLast?.map Prod.fst).getD last).length+1
 | [],x,last,h=>h
 | [e],x,last,h=>by
  have:=pE last e.1
  exact uU x last e oM
 | e::e'::l,x,last,h=>by
  have:=pE last e.1
  rw [fF,zY (e'::l) _ e.1 (uU x last e oM),List.getLast?_cons_cons]
  obtain ⟨y,hy⟩:∃ y,(e'::l).getLast? =some y:=⟨_,List.getLast?_eq_some_getLast sP⟩
  rw [hy];rfl
def C9 (f:Nat) (l:List Wv):Prop:=∀ e∈l,e.1.length<f
theorem z5d {ss:List State} {o6:List Open} {d:Nat} {kA:List State} {o up:Open} {rest:List Open} (hr:rest.length=d) (n8:d+1<o6.length)
  (h:close ss o6 (d+1)=(kA,o::up::rest)):close ss o6 d=((G6 kA up o).1,(G6 kA up o).2::rest):=by
 rw [<- zW ss o6 (Nat.le_succ d) n8,h]
 unfold close
 rw [show (o::up::rest).length-(d+1)=1 by simp [hr]]
 show closeN 0 (G6 kA up o).1 ((G6 kA up o).2::rest)=_
 rw [R1]
section
variable {f:Nat} (IH:∀ (l:List Wv) (ss:List State) (p:List Nat) (top:Open) (rest:List Open),C9 f l->l≠[]->L6 l->rest.length=p.length->top.st=E1 ->
  close (adds (ss,top::rest) p (l.map (pre p))).1 (adds (ss,top::rest) p (l.map (pre p))).2 p.length=((N f ss l).1,⟨(N f ss l).2,top.cN⟩::rest))
include IH
theorem eG:∀ (gs:List (Nat×List Wv)) (ss:List State) (o6:List Open) (last p:List Nat) (kA:List State) (st:State) (cN:Nat) (rest:List Open),rest.length=p.length ->
  o6.length=last.length+1->p.length<o6.length->close ss o6 p.length=(kA,⟨st,cN⟩::rest)->(∀ x∈gs,∀ w,shared last (p++x.1::w)=p.length) ->
  (∀ x∈gs,x.2≠[]/\L6 x.2/\C9 f x.2)->(gs.Pairwise fun a b=>a.1<b.1) ->
  close (adds (ss,o6) last ((flat gs).map (pre p))).1 (adds (ss,o6) last ((flat gs).map (pre p))).2 p.length =
   ((arcsN (N f) kA st.a6 gs).1,⟨⟨st.final,st.out,(arcsN (N f) kA st.a6 gs).2⟩,cN⟩::rest)
 | [],ss,o6,last,p,kA,st,cN,rest,hr,hw,hp,hc,hs,hg,V8=>by
  show close ss o6 p.length=_
  rw [hc]
  rfl
 | (b,g)::gs,ss,o6,last,p,kA,st,cN,rest,hr,hw,hp,hc,hs,hg,V8=>by
  obtain ⟨hg0,hg1,hg2⟩:=hg (b,g) (List.mem_cons_self ..)
  obtain ⟨e,g',rfl⟩:∃ e g',g=e::g':=List.exists_cons_of_ne_nil hg0
  have hfl:(flat ((b,e::g')::gs)).map (pre p)=((e::g').map (pre (p++[b])))++(flat gs).map (pre p):=by
   simp [flat,pre,List.map_append,List.map_map,Function.comp_def]
  have w6z:adds (ss,o6) last ((e::g').map (pre (p++[b])))=adds (kA,⟨E1,b⟩::⟨st,cN⟩::rest) (p++[b]) ((e::g').map (pre (p++[b]))):=by
   rw [List.map_cons,fF,fF, <- y3u hr hc e (hs (b,e::g') (List.mem_cons_self ..) e.1)]
   rw [show pre p (pre [b] e)=pre (p++[b]) e by simp [pre]]
  have ih:=IH (e::g') kA (p++[b]) ⟨E1,b⟩ (⟨st,cN⟩::rest) hg2 hg0 hg1 (by simp [hr]) rfl
  rw [<- w6z] at ih
  have U8:∃ y:Wv,y∈(e::g')/\(((e::g').map (pre (p++[b]))).getLast?.map Prod.fst).getD last=p++b::y.1:=by
   refine ⟨(e::g').getLast sP,List.getLast_mem _,?_⟩
   rw [List.getLast?_map,List.getLast?_eq_some_getLast sP]
   simp [pre]
  obtain ⟨y,hy,U8⟩:=U8
  have hlen:=zY ((e::g').map (pre (p++[b]))) (ss,o6) last hw
  rw [U8] at hlen
  rw [hfl,lH,U8]
  rw [show (p++[b]).length=p.length+1 by simp] at ih
  have y8:=z5d hr (by rw [hlen];simp) ih
  have v8n:=List.pairwise_cons.1 V8
  have:=eG gs _ _ (p++b::y.1) p _ _ _ rest hr hlen (by rw [hlen];simp;omega) y8 (fun x hx w=>y8g p _ _ (by have:=v8n.1 x hx;simp only at this;omega))
   (fun x hx=>hg x (List.mem_cons_of_mem _ hx)) v8n.2
  exact this
end
theorem z5c (v:Nat) (l:List Wv):groups (([],v)::l)=groups l:=rfl
theorem pF {gs:List (Nat×List Wv)} {x:Nat×List Wv} {e:Wv} (hx:x∈gs) (he:e∈x.2):pre [x.1] e∈flat gs:=by
 unfold flat
 exact List.mem_flatMap.2 ⟨x,hx,List.mem_map_of_mem he⟩
theorem z5b:∀ (f:Nat) (l:List Wv) (ss:List State) (p:List Nat) (top:Open) (rest:List Open),C9 f l->l≠[]->L6 l->rest.length=p.length->top.st=E1 ->
  close (adds (ss,top::rest) p (l.map (pre p))).1 (adds (ss,top::rest) p (l.map (pre p))).2 p.length=((N f ss l).1,⟨(N f ss l).2,top.cN⟩::rest)
 | 0,e::l,ss,p,top,rest,hl,_,_,_,_=>absurd (hl e (List.mem_cons_self ..)) oM
 | 0,[],ss,p,top,rest,hl,hn,_,_,_=>absurd rfl hn
 | f+1,l,ss,p,top,rest,hl,hn,V8,hr,ht=>by
  have v8m:∀ (m:List Wv),L6 m->(∀ x∈m,x.1≠[])->C9 (f+1) m->Grp m (groups m)/\∀ x∈groups m,x.2≠[]/\L6 x.2/\C9 f x.2:=fun m h1 h2 h3=>by
   have hG:=aJ h1 h2
   refine ⟨hG,fun x hx=>⟨(hG.some_ x hx).1,(hG.some_ x hx).2,fun e he=> ?_⟩⟩
   have:=h3 (pre [x.1] e) (by rw [hG.flat];exact pF hx he)
   simp [pre] at this
   omega
  obtain ⟨e,l,rfl⟩:=List.exists_cons_of_ne_nil hn
  obtain ⟨w,v⟩:=e
  obtain ⟨st0,by0⟩:=top
  simp only at ht
  subst ht
  cases w with
  | nil =>
   have hG:=v8m l V8.tail V8.nonempty (fun e he=>hl e (List.mem_cons_of_mem _ he))
   rw [List.map_cons,fF]
   have ha:add (ss,⟨E1,by0⟩::rest) p (pre p ([],v))=(ss,⟨⟨true,v,[]⟩,by0⟩::rest):=by
    unfold add
    simp only [pre,List.append_nil,zX,List.drop_length]
    rw [cU _ _ _ (by simp [hr])]
    rfl
   rw [ha,show (pre p ([],v)).1=p by simp [pre]]
   have hb:=eG (z5b f) (groups l) ss (⟨⟨true,v,[]⟩,by0⟩::rest) p p ss ⟨true,v,[]⟩ by0 rest hr (by simp [hr]) (by simp [hr]) (cU _ _ _ (by simp [hr])) (fun x _ w=>gZ p _) hG.2 hG.1.Z0
   rw [<- hG.1.flat] at hb
   rw [hb]
   simp only [N,z5c,finOf]
  | cons b w =>
   have E6:∀ x∈(b::w,v)::l,x.1≠[]:=fun x hx=>by
    rcases List.mem_cons.1 hx with rfl | hx
    ·simp
    ·exact V8.nonempty x hx
   have hG:=v8m _ V8 E6 hl
   have hb:=eG (z5b f) (groups ((b::w,v)::l)) ss (⟨E1,by0⟩::rest) p p ss E1 by0 rest hr (by simp [hr]) (by simp [hr]) (cU _ _ _ (by simp [hr])) (fun x _ w=>gZ p _) hG.2 hG.1.Z0
   rw [<- hG.1.flat] at hb
   rw [hb]
   rfl
/-! the least of values -/
def jF (m:Nat) (vs:List Nat):Prop:=m∈vs/\∀ v∈vs,m<=v
theorem jF.uniq {m n:Nat} {vs:List Nat} (h:jF m vs) (k:jF n vs):m=n:=Nat.le_antisymm (h.2 n k.1) (k.2 m h.1)
theorem foldl_min (l:List Nat):∀ x,jF (l.foldl min x) (x::l):=by
 induction l with
 | nil=>intro x;exact ⟨sP,sP⟩
 | cons y l ih =>
  intro x
  obtain ⟨h1,h2⟩:=ih (min x y)
  rw [List.foldl_cons]
  refine ⟨?_,fun v hv=> ?_⟩
  ·rcases List.mem_cons.1 h1 with h | h
   ·rw [h]
    rcases Nat.le_total x y with h3 | h3
    ·rw [Nat.min_eq_left h3];simp
    ·rw [Nat.min_eq_right h3];simp
   ·simp [h]
  ·have h3:=h2 (min x y) sP
   rcases List.mem_cons.1 hv with rfl | hv
   ·omega
   ·rcases List.mem_cons.1 hv with rfl | hv
    ·omega
    ·exact h2 v (by simp [hv])
theorem M8 {l:List Wv} (h:l≠[]):jF (leastV l) (l.map Prod.snd):=by
 obtain ⟨e,l,rfl⟩:=List.exists_cons_of_ne_nil h
 have:=foldl_min (l.map Prod.snd) e.2
 rw [List.foldl_map] at this
 exact this
def F8 (s:State):List Nat:=(if s.final then [s.out] else [])++s.a6.map r7.out
theorem L3 {s:State} (h:F8 s≠[]):jF (leastOf s) (F8 s):=by
 unfold leastOf
 show jF (match F8 s with | []=>s.out | x::l=>l.foldl min x) (F8 s)
 obtain ⟨x,l,hx⟩:=List.exists_cons_of_ne_nil h
 rw [hx]
 exact foldl_min l x
theorem jG (rec:List State->List Wv->List State×State):∀ (gs:List (Nat×List Wv)) (ss:List State) (dX:List r7),∃ bs,(arcsN rec ss dX gs).2=dX++bs/\bs.length=gs.length /\
  (∀ P:Nat->Nat->List Wv->Prop,(∀ x∈gs,∀ ss,P x.1 (leastOf (rec ss x.2).2) x.2)->∀ (i:Nat) (x:Nat×List Wv) (a:r7),gs[i]? =some x->bs[i]? =some a->a.byte=x.1/\P x.1 a.out x.2)
 | [],ss,dX=>⟨[],by simp [arcsN],rfl,fun P h i x a h1 h2=>by simp at h1⟩
 | (b,g)::gs,ss,dX=>by
  obtain ⟨bs,h1,h2,h3⟩:=jG rec gs (finish (rec ss g).1 (less (rec ss g).2 (leastOf (rec ss g).2))).1 (dX++[⟨b,leastOf (rec ss g).2,((finish (rec ss g).1 (less (rec ss g).2 (leastOf (rec ss g).2))).2:Int)⟩])
  refine ⟨⟨b,leastOf (rec ss g).2,((finish (rec ss g).1 (less (rec ss g).2 (leastOf (rec ss g).2))).2:Int)⟩::bs,?_,by simp [h2],fun P hP i x a hx ha=> ?_⟩
  ·show (arcsN rec _ _ gs).2=_
   rw [h1];simp
  ·cases i with
   | zero=>simp at hx ha;subst hx;subst ha;exact ⟨rfl,hP _ (List.mem_cons_self ..) ss⟩
   | succ i=>exact h3 P (fun y hy=>hP y (List.mem_cons_of_mem _ hy)) i x a (by simpa using hx) (by simpa using ha)
theorem y8f {l:List Wv} (h:∀ x∈l,x.1≠[]) (hn:l≠[]):groups l≠[]:=by
 obtain ⟨⟨w,v⟩,l,rfl⟩:=List.exists_cons_of_ne_nil hn
 cases w with
 | nil=>exact absurd rfl (h _ (List.mem_cons_self ..))
 | cons b w =>
  simp only [groups]
  split
  ·simp
  ·split<;>simp
theorem parts {l:List Wv} (hr:L6 l):∃ m,l=(if (finOf l).1 then [([],(finOf l).2)] else [])++m/\groups l=groups m/\Grp m (groups m)/\((finOf l).1=false->(finOf l).2=0)/\(∀ x∈m,x.1≠[])/\(l≠[]->(finOf l).1=false->groups m≠[]):=by
 cases l with
 | nil=>exact ⟨[],rfl,rfl,aJ List.Pairwise.nil sP,fun _=>rfl,sP,fun h=>absurd rfl h⟩
 | cons e l =>
  obtain ⟨w,v⟩:=e
  cases w with
  | nil=>exact ⟨l,rfl,rfl,aJ hr.tail hr.nonempty,(fun h=>by cases h),hr.nonempty,(fun _ h=>by cases h)⟩
  | cons b w =>
   have E6:∀ x∈(b::w,v)::l,x.1≠[]:=fun x hx=>by
    rcases List.mem_cons.1 hx with rfl | hx
    ·simp
    ·exact hr.nonempty x hx
   exact ⟨(b::w,v)::l,rfl,rfl,aJ hr E6,fun _=>rfl,E6,fun h _=>y8f E6 h⟩
theorem C9.group {f:Nat} {l m:List Wv} {gs:List (Nat×List Wv)} (h:C9 (f+1) l) (hm:∀ e∈m,e∈l) (hG:Grp m gs):∀ x∈gs,C9 f x.2:=fun x hx e he=>by
 have:=h (pre [x.1] e) (hm _ (by rw [hG.flat];exact pF hx he))
 simp [pre] at this
 omega
theorem zZ (gs:List (Nat×List Wv)):(flat gs).map Prod.snd=gs.flatMap fun x=>x.2.map Prod.snd:=by
 simp [flat,List.map_flatMap,List.map_map,Function.comp_def,pre]
theorem z9z {fin:Bool} {v:Nat} {gs:List (Nat×List Wv)} (hn:∀ x∈gs,x.2≠[]) (m:Nat) (h:jF m ((if fin then [v] else [])++gs.map fun x=>leastV x.2)) :
  jF m ((if fin then [v] else [])++gs.flatMap fun x=>x.2.map Prod.snd):=by
 refine ⟨?_,fun u hu=> ?_⟩
 ·rcases List.mem_append.1 h.1 with h1 | h1
  ·exact List.mem_append_left _ h1
  ·obtain ⟨x,hx,rfl⟩:=List.mem_map.1 h1
   exact List.mem_append_right _ (List.mem_flatMap.2 ⟨x,hx,(M8 (hn x hx)).1⟩)
 ·rcases List.mem_append.1 hu with h1 | h1
  ·exact h.2 u (List.mem_append_left _ h1)
  ·obtain ⟨x,hx,hux⟩:=List.mem_flatMap.1 h1
   exact Nat.le_trans (h.2 _ (List.mem_append_right _ (List.mem_map_of_mem hx))) ((M8 (hn x hx)).2 u hux)
theorem oF:∀ (f:Nat) (l:List Wv) (ss:List State),C9 f l->l≠[]->L6 l->leastOf (N f ss l).2=leastV l
 | 0,[],ss,hl,hn,hr=>absurd rfl hn
 | 0,e::l,ss,hl,hn,hr=>absurd (hl e (List.mem_cons_self ..)) oM
 | f+1,l,ss,hl,hn,hr=>by
  obtain ⟨m,hlm,hgm,hG,hf0,E6,hgn⟩:=parts hr
  have T9:∀ e∈m,e∈l:=fun e he=>by rw [hlm];exact List.mem_append_right _ he
  have u7c:=hl.group T9 hG
  obtain ⟨bs,h1,h2,h3⟩:=jG (N f) (groups m) ss []
  have h4:=h3 (fun b n g=>n=leastV g) (fun x hx ss=>oF f x.2 ss (u7c x hx) (hG.some_ x hx).1 (hG.some_ x hx).2)
  have tE:bs.map r7.out=(groups m).map fun x=>leastV x.2:=by
   refine List.ext_getElem (by simp [h2]) fun i hi1 hi2=> ?_
   simp at hi1 hi2
   have:=h4 i (groups m)[i] bs[i] (by simp [hi2]) (by simp [hi1])
   simp [this.2]
  have z0v:F8 (N (f+1) ss l).2=(if (finOf l).1 then [(finOf l).2] else [])++(groups m).map fun x=>leastV x.2:=by
   simp only [F8,N,hgm,h1,List.nil_append,tE]
  have x6a:F8 (N (f+1) ss l).2≠[]:=by
   rw [z0v]
   cases q9:(finOf l).1 with
   | true=>simp
   | false =>
    have:=hgn hn q9
    simp [this]
  have hL:=L3 x6a
  rw [z0v] at hL
  have hL2:=z9z (fun x hx=>(hG.some_ x hx).1) _ hL
  rw [<- zZ, <- hG.flat] at hL2
  have hv:l.map Prod.snd=(if (finOf l).1 then [(finOf l).2] else [])++m.map Prod.snd:=by
   rw [hlm,List.map_append, <- hlm]
   cases (finOf l).1<;>rfl
  rw [<- hv] at hL2
  exact hL2.uniq (M8 hn)
/-! the document's o6 -/
section
variable {f:Nat} (IH:∀ (l:List Wv) (ss:List State) (p:List Nat) (le:Nat),C9 f l->l≠[]->L6 l->v8l f ss (l.map (pre p)) p.length le=finish (N f ss l).1 (less (N f ss l).2 le))
include IH
end
def okArcs (i:Nat):Int->List r7->Bool
 | _,[]=>true
 | last,a::l=>decide (0<=a.to)&&decide (a.to<(i:Int))&&decide (last<(a.byte:Int))&&okArcs i (a.byte:Int) l
def formedL:Nat->List State->Bool
 | _,[]=>true
 | i,s::l=>(s.final||decide (s.out=0))&&okArcs i (-1) s.a6&&formedL (i+1) l
def C4 (ss:List State):Bool:=formedL 0 ss&&decide (0<ss.length)
theorem xC {ss:List State} {i:Nat} {s:State} (h:ss[i]? =some s):formedL i (ss.drop i)=((s.final||decide (s.out=0))&&okArcs i (-1) s.a6&&formedL (i+1) (ss.drop (i+1))):=by rw [X7 h];rfl
theorem z9y {l:List r7} {i k:Nat} {last:Int} {a:r7} (h:l[k]? =some a):okArcs i last (l.drop k)=(decide (0<=a.to)&&decide (a.to<(i:Int))&&decide (last<(a.byte:Int))&&okArcs i (a.byte:Int) (l.drop (k+1))):=by rw [X7 h];rfl
/-! the walk from the root -/
def wArcs (rec:Nat->Nat->Option Nat):List r7->Nat->Option Nat
 | [],left=>some left
 | a::l,left=>if (left:Int)<=a.to then (match rec a.to.toNat left with | none=>none | some x=>wArcs rec l x) else wArcs rec l left
def J9 (ss:List State) (s:Nat):List r7:=(ss[s]?.map State.a6).getD []
def leave (s:Nat):Option Nat->Option Nat
 | none=>none
 | some l=>if s=l then some (l+1) else none
def wlk:Nat->List State->Nat->Nat->Option Nat
 | 0,_,_,_=>none
 | f+1,ss,s,left=>leave s (wArcs (wlk f ss) (J9 ss s) left)
def resume (ss:List State) (s k left:Nat):Option Nat:=leave s (wArcs (wlk s ss) ((J9 ss s).drop k) left)
def contW (ss:List State):List (Nat×Nat)->Nat->Bool
 | [],left=>decide (left=ss.length)
 | (s,k)::rest,left=>match resume ss s k left with
  | none=>false
  | some l=>contW ss rest l
def lJ (ss:List State):Prop:=∀ (s:Nat),∀ a∈J9 ss s,0<=a.to/\a.to<(s:Int)
theorem lK {r r':Nat->Nat->Option Nat}:∀ (l:List r7) (left:Nat),(∀ a∈l,∀ x,r a.to.toNat x=r' a.to.toNat x)->wArcs r l left=wArcs r' l left
 | [],_,_=>rfl
 | a::l,left,h=>by
  have h1:=h a (List.mem_cons_self ..)
  have ih:=fun x=>lK l x (fun b hb=>h b (List.mem_cons_of_mem _ hb))
  simp only [wArcs]
  rw [h1 left,ih left]
  split
  ·cases r' a.to.toNat left with
   | none=>rfl
   | some x=>exact ih x
  ·rfl
theorem y3s {ss:List State} (hA:lJ ss):∀ (s f f':Nat),s<f->s<f'->∀ left,wlk f ss s left=wlk f' ss s left:=by
 intro s
 induction s using Nat.strongRecOn with
 | _ s ih =>
  intro f f' h h' left
  obtain ⟨g,rfl⟩:∃ g,f=g+1:=⟨f-1,oM⟩
  obtain ⟨g',rfl⟩:∃ g',f'=g'+1:=⟨f'-1,oM⟩
  simp only [wlk]
  rw [lK (J9 ss s) left (fun a ha x=>by
   have:=hA s a ha
   exact ih a.to.toNat oM g g' (by omega) oM x)]
theorem z5a {ss:List State} (hA:lJ ss) {s t left:Nat} (h:t<s):wlk s ss t left=resume ss t 0 left:=by
 rw [y3s hA t s (t+1) h oM]
 rfl
theorem y8d {ss:List State} (hA:lJ ss) {s k left:Nat} {rest:List (Nat×Nat)} {a:r7} (h:(J9 ss s)[k]? =some a) (hl:(left:Int)<=a.to):contW ss ((s,k)::rest) left=contW ss ((a.to.toNat,0)::(s,k+1)::rest) left:=by
 have ha:=hA s a (U0 h)
 simp only [contW,resume]
 rw [X7 h]
 simp only [wArcs,hl,if_true]
 rw [z5a hA oM]
 cases hr:resume ss a.to.toNat 0 left with
 | none=>simp [leave,resume] at hr |-;rw [hr]
 | some x=>simp only [resume] at hr |-;rw [hr]
theorem y8c {ss:List State} {s k left:Nat} {rest:List (Nat×Nat)} {a:r7} (h:(J9 ss s)[k]? =some a) (hl:¬ (left:Int)<=a.to):contW ss ((s,k)::rest) left=contW ss ((s,k+1)::rest) left:=by
 simp only [contW,resume]
 rw [X7 h]
 simp only [wArcs,hl,if_false]
theorem y3r {ss:List State} {s k left:Nat} {rest:List (Nat×Nat)} (h:(J9 ss s).length<=k):contW ss ((s,k)::rest) left=if s=left then contW ss rest (left+1) else false:=by
 simp only [contW,resume]
 rw [List.drop_eq_nil_of_le h]
 simp only [wArcs,leave]
 by_cases hs:s=left
 ·simp [hs]
 ·simp [hs]
def E9 (ss:List State):Bool:=contW ss [(ss.length-1,0)] 0
def R3 (ss:List State) (i:Nat) (s:State):Bool:= !(!s.final&&decide (s.a6.length=0))&&decide (leastOf s=0)&&decide (s∉ss.take i)
def P5 (ss:List State):Nat->List State->Bool
 | _,[]=>true
 | i,s::l=>R3 ss i s&&P5 ss (i+1) l
theorem jH {ss:List State} {i:Nat} {s:State} (h:ss[i]? =some s):P5 ss i (ss.drop i)=(R3 ss i s&&P5 ss (i+1) (ss.drop (i+1))):=by rw [X7 h];rfl
def rightF (ss:List State) (init:Nat):Bool :=
 C4 ss&&(match ss.getLast? with
  | none=>false
  | some root=>if !root.final&&decide (root.a6.length=0) then decide (ss.length=1)&&decide (init=0) else E9 ss&&P5 ss 0 ss)
def w6y (out:List Nat):Prop:=∃ i x:Nat,out[i]? =some x/\x≠i
theorem w6y.more {a b:List Nat} (h:w6y a) (hp:a <+: b):w6y b:=by
 obtain ⟨i,x,h1,h2⟩:=h
 obtain ⟨c,rfl⟩:=hp
 exact ⟨i,x,by rw [List.getElem?_append_left (E2 h1).1];exact h1,h2⟩
theorem N8:∀ (l:List r7) (i:Nat) (last:Int),okArcs i last l=true->∀ a∈l,0<=a.to/\a.to<(i:Int)
 | [],_,_,_=>by simp
 | a::l,i,last,h=>by
  simp only [okArcs,Bool.and_eq_true,decide_eq_true_eq] at h
  intro x hx
  rcases List.mem_cons.1 hx with rfl | hx
  ·exact ⟨h.1.1.1,h.1.1.2⟩
  ·exact N8 l i _ h.2 x hx
theorem X8:∀ (l:List State) (i:Nat),formedL i l=true->∀ (j:Nat) (s:State),l[j]? =some s->okArcs (i+j) (-1) s.a6=true
 | [],_,_,j,s,hj=>by simp at hj
 | x::l,i,h,j,s,hj=>by
  simp only [formedL,Bool.and_eq_true] at h
  cases j with
  | zero=>injection hj with hj;subst hj;exact h.1.2
  | succ j=>rw [show i+(j+1)=(i+1)+j by omega];exact X8 l (i+1) h.2 j s hj
theorem xD {ss:List State} (h:C4 ss=true):lJ ss/\0<ss.length:=by
 unfold C4 at h
 rw [Bool.and_eq_true] at h
 refine ⟨fun s a ha=> ?_,of_decide_eq_true h.2⟩
 unfold J9 at ha
 cases hs:ss[s]? with
 | none=>rw [hs] at ha;simp at ha
 | some st =>
  rw [hs] at ha
  have:=X8 ss 0 h.1 s st hs
  rw [Nat.zero_add] at this
  exact N8 _ _ _ this a (by simpa using ha)
theorem kG {ss:List State} {s:State} (h:s∈ss):∃ i,ss[i]? =some s/\i<ss.length/\finish ss s=(ss,i):=by
 unfold finish
 cases hf:ss.findIdx? (. =s) with
 | none =>
  rw [List.findIdx?_eq_none_iff] at hf
  have:=hf s h
  simp at this
 | some i =>
  obtain ⟨h1,h2,_⟩:=List.findIdx?_eq_some_iff_getElem.1 hf
  have h2:ss[i]=s:=by simpa using h2
  exact ⟨i,by rw [D9 h1,h2],h1,rfl⟩
theorem hH {ss:List State} {s:State} (h:s∉ss):finish ss s=(ss++[s],ss.length):=by
 unfold finish
 have:ss.findIdx? (. =s)=none:=by
  rw [List.findIdx?_eq_none_iff]
  intro x hx
  simp only [decide_eq_false_iff_not]
  rintro rfl
  exact h hx
 rw [this]
structure Good (i:Nat) (s:State):Prop where
 a6:okArcs i (-1) s.a6=true
 out:s.final=false->s.out=0
 some_:s.final=true\/s.a6≠[]
 zero:leastOf s=0
structure Inv (ss:List State):Prop where
 nodup:ss.Nodup
 S7:∀ (i:Nat) (s:State),ss[i]? =some s->Good i s
def K (f:Nat) (ss:List State) (l:List Wv):List State×Nat:=finish (N f ss l).1 (less (N f ss l).2 (leastOf (N f ss l).2))
structure KOk (ss zQ:List State) (k:Nat):Prop where
 pre:ss <+: zQ
 lt:k<zQ.length
 old:k<ss.length->zQ=ss
 new:ss.length<=k->zQ.length=k+1
 walk:ss.length<=k->∀ SS,zQ <+: SS->lJ SS->∀ f,k<f->wlk f SS k ss.length=some zQ.length
theorem pG {r:Nat->Nat->Option Nat} (g:r7->r7) (hg:∀ a,(g a).to=a.to):∀ (l:List r7) (left:Nat),wArcs r (l.map g) left=wArcs r l left
 | [],_=>rfl
 | a::l,left=>by
  simp only [List.map_cons,wArcs,hg]
  split
  ·split
   ·rfl
   ·exact pG g hg l _
  ·exact pG g hg l _
theorem pH {i:Nat} (g:r7->r7) (hg:∀ a,(g a).to=a.to) (hb:∀ a,(g a).byte=a.byte):∀ (l:List r7) (last:Int),okArcs i last (l.map g)=okArcs i last l
 | [],_=>rfl
 | a::l,last=>by simp only [List.map_cons,okArcs,hg,hb,pH g hg hb l]
theorem lL {i:Nat} (a:r7) (h1:0<=a.to) (h2:a.to<(i:Int)):∀ (l:List r7) (last:Int),okArcs i last l=true->last<(a.byte:Int)->(∀ b∈l,b.byte<a.byte)->okArcs i last (l++[a])=true
 | [],last,_,hl,_=>by simp [okArcs,h1,h2,hl]
 | b::l,last,h,hl,hb=>by
  simp only [List.cons_append,okArcs,Bool.and_eq_true,decide_eq_true_eq] at h |-
  refine ⟨h.1,lL a h1 h2 l _ h.2 ?_ (fun c hc=>hb c (List.mem_cons_of_mem _ hc))⟩
  have:=hb b (List.mem_cons_self ..)
  omega
theorem fG (s:State) (n:Nat):(less s n).a6=s.a6.map fun a=>⟨a.byte,a.out-n,a.to⟩:=rfl
theorem uV (s:State) (n:Nat):F8 (less s n)=(F8 s).map (. - n):=by
 unfold F8 less
 cases s.final<;>simp [Function.comp_def]
theorem xE {s:State} (h:F8 s≠[]):leastOf (less s (leastOf s))=0:=by
 have h2:F8 (less s (leastOf s))≠[]:=by rw [uV];simpa using h
 have h3:=L3 h2
 have h4:=L3 h
 have h5:=h3.2 0 (by rw [uV,List.mem_map];exact ⟨_,h4.1,Nat.sub_self _⟩)
 omega
theorem Inv.S0:Inv []:=⟨List.nodup_nil,fun i s h=>by simp at h⟩
theorem Inv.formed {ss:List State} (h:Inv ss) (h0:0<ss.length):C4 ss=true:=by
 have key:∀ (l:List State) (i:Nat),(∀ (j:Nat) (s:State),l[j]? =some s->Good (i+j) s)->formedL i l=true:=by
  intro l
  induction l with
  | nil=>intro i _;rfl
  | cons s l ih =>
   intro i hg
   have hs:=hg 0 s rfl
   simp only [formedL,Bool.and_eq_true,Bool.or_eq_true,decide_eq_true_eq]
   refine ⟨⟨?_,hs.a6⟩,ih (i+1) (fun j t ht=>by have:=hg (j+1) t (by simpa using ht);rwa [show i+(j+1)=i+1+j by omega] at this)⟩
   cases hf:s.final with
   | true=>exact .inl rfl
   | false=>exact .inr (hs.out hf)
 unfold C4
 rw [key ss 0 (fun j s hs=>by rw [Nat.zero_add];exact h.S7 j s hs),decide_eq_true h0]
 rfl
theorem Inv.all {ss:List State} (h:Inv ss):P5 ss 0 ss=true:=by
 have key:∀ (n i:Nat),i+n=ss.length->P5 ss i (ss.drop i)=true:=by
  intro n
  induction n with
  | zero=>intro i hi;rw [List.drop_eq_nil_of_le oM];rfl
  | succ n ih =>
   intro i hi
   obtain ⟨s,hs⟩:∃ s,ss[i]? =some s:=⟨_,D9 oM⟩
   rw [jH hs,ih (i+1) oM,Bool.and_true]
   have hg:=h.S7 i s hs
   unfold R3
   have u7b:s∉ss.take i:=fun hm=>by
    obtain ⟨j,hj⟩:=List.mem_iff_getElem?.1 hm
    have n8:j<i:=by have:=(E2 hj).1;simp at this;omega
    have hj2:ss[j]? =some s:=by rw [List.getElem?_take] at hj;rwa [if_pos n8] at hj
    have:=(List.getElem?_inj (i:=j) (j:=i) (by have:=(E2 hj2).1;omega) h.nodup).1 (hj2.trans hs.symm)
    omega
   rw [decide_eq_true hg.zero,decide_eq_true u7b]
   rcases hg.some_ with h1 | h1
   ·rw [h1];rfl
   ·have:s.a6.length≠0:=fun e=>h1 (List.eq_nil_of_length_eq_zero e)
    rw [decide_eq_false this];cases s.final<;>rfl
 exact key ss.length 0 oM
theorem z4z {ss SS:List State} (h:ss <+: SS) {k:Nat} {s:State} (hk:ss[k]? =some s):J9 SS k=s.a6:=by
 obtain ⟨r,rfl⟩:=h
 unfold J9
 rw [List.getElem?_append_left (E2 hk).1,hk]
 rfl
structure AOk (ss zQ:List State) (news:List r7):Prop where
 pre:ss <+: zQ
 inv:Inv zQ
 to:∀ a∈news,0<=a.to/\a.to<(zQ.length:Int)
 last:zQ≠ss->∃ a∈news,a.to=(zQ.length:Int)-1
 walk:∀ SS,zQ <+: SS->lJ SS->∀ f,zQ.length<=f->wArcs (wlk f SS) news ss.length=some zQ.length
theorem oG (f:Nat) (ih:∀ (l:List Wv) (ss:List State),C9 f l->l≠[]->L6 l->Inv ss->Inv (K f ss l).1/\KOk ss (K f ss l).1 (K f ss l).2) :
  ∀ (gs:List (Nat×List Wv)) (ss:List State) (dX:List r7),(∀ x∈gs,x.2≠[]/\L6 x.2/\C9 f x.2)->Inv ss->∃ news,(arcsN (N f) ss dX gs).2=dX++news/\news.map r7.byte=gs.map Prod.fst/\AOk ss (arcsN (N f) ss dX gs).1 news
 | [],ss,dX,_,hi=>⟨[],by simp [arcsN],rfl,⟨List.prefix_refl _,hi,sP,fun h=>absurd rfl h,fun SS _ _ f' _=>rfl⟩⟩
 | (b,g)::gs,ss,dX,hg,hi=>by
  obtain ⟨g1,g2,g3⟩:=hg (b,g) (List.mem_cons_self ..)
  obtain ⟨i1,hk⟩:=ih g ss g3 g1 g2 hi
  obtain ⟨news,e1,e2,hA⟩:=oG f ih gs (K f ss g).1 (dX++[⟨b,leastOf (N f ss g).2,((K f ss g).2:Int)⟩]) (fun x hx=>hg x (List.mem_cons_of_mem _ hx)) i1
  refine ⟨⟨b,leastOf (N f ss g).2,((K f ss g).2:Int)⟩::news,?_,?_,?_⟩
  ·have h9:(arcsN (N f) ss dX ((b,g)::gs)).2=(arcsN (N f) (K f ss g).1 (dX++[⟨b,leastOf (N f ss g).2,((K f ss g).2:Int)⟩]) gs).2:=rfl
   rw [h9,e1];simp
  ·simp [e2]
  ·have h9:(arcsN (N f) ss dX ((b,g)::gs)).1=(arcsN (N f) (K f ss g).1 (dX++[⟨b,leastOf (N f ss g).2,((K f ss g).2:Int)⟩]) gs).1:=rfl
   rw [h9]
   obtain ⟨zQ,u7a⟩:∃ x,(arcsN (N f) (K f ss g).1 (dX++[⟨b,leastOf (N f ss g).2,((K f ss g).2:Int)⟩]) gs).1=x:=⟨_,rfl⟩
   rw [u7a] at hA |-
   have hle:=hA.pre.length_le
   refine ⟨hk.pre.trans hA.pre,hA.inv,fun a ha=> ?_,fun E6=> ?_,fun SS hS hAh f' hf'=> ?_⟩
   ·rcases List.mem_cons.1 ha with rfl | ha
    ·have:=hk.lt
     exact ⟨sQ,sQ⟩
    ·exact hA.to a ha
   ·by_cases h1:zQ=(K f ss g).1
    ·refine ⟨_,List.mem_cons_self ..,?_⟩
     have h2:ss.length<=(K f ss g).2:=by
      rcases Nat.lt_or_ge (K f ss g).2 ss.length with h3 | h3
      ·exact absurd (h1.trans (hk.old h3)) E6
      ·exact h3
     have:=hk.new h2
     rw [h1]
     simp only
     omega
    ·obtain ⟨a,ha,he⟩:=hA.last h1
     exact ⟨a,List.mem_cons_of_mem _ ha,he⟩
   ·simp only [wArcs]
    have hw:=hA.walk SS hS hAh f' hf'
    by_cases nF:(ss.length:Int)<=((K f ss g).2:Int)
    ·rw [if_pos nF]
     have h2:ss.length<=(K f ss g).2:=oM
     have h3:=hk.walk h2 SS (hA.pre.trans hS) hAh f' (by have:=hk.lt;omega)
     simp only [Int.toNat_natCast]
     rw [h3]
     exact hw
    ·rw [if_neg nF]
     rw [hk.old oM] at hw
     exact hw
theorem pJ:∀ (l:List r7) (i:Nat) (last:Int),(l.map r7.byte).Pairwise (. < ·)->(∀ a∈l,0<=a.to/\a.to<(i:Int))->(∀ a∈l,last<(a.byte:Int))->okArcs i last l=true
 | [],_,_,_,_,_=>rfl
 | a::l,i,last,hp,ht,hl=>by
  simp only [List.map_cons,List.pairwise_cons] at hp
  have h1:=ht a (List.mem_cons_self ..)
  have h2:=hl a (List.mem_cons_self ..)
  simp only [okArcs,decide_eq_true h1.1,decide_eq_true h1.2,decide_eq_true h2,Bool.true_and]
  exact pJ l i _ hp.2 (fun b hb=>ht b (List.mem_cons_of_mem _ hb)) (fun b hb=>by have:=hp.1 b.byte (List.mem_map.2 ⟨b,hb,rfl⟩);omega)
theorem z4y:∀ (f:Nat) (l:List Wv) (ss:List State),C9 f l->l≠[]->L6 l->Inv ss->Inv (K f ss l).1/\KOk ss (K f ss l).1 (K f ss l).2
 | 0,[],ss,_,hn,_,_=>absurd rfl hn
 | 0,e::l,ss,hl,_,_,_=>absurd (hl e (List.mem_cons_self ..)) oM
 | f+1,l,ss,hl,hn,hr,hi=>by
  obtain ⟨m,p1,p2,p3,p4,p5,p6⟩:=parts hr
  have hm:∀ e∈m,e∈l:=fun e he=>by rw [p1];exact List.mem_append_right _ he
  have F6:=hl.group hm p3
  obtain ⟨news,e1,e2,hA⟩:=oG f (z4y f) (groups l) ss [] (fun x hx=>by rw [p2] at hx;exact ⟨(p3.some_ x hx).1,(p3.some_ x hx).2,F6 x hx⟩) hi
  obtain ⟨kA,v8k⟩:∃ x,(arcsN (N f) ss [] (groups l)).1=x:=⟨_,rfl⟩
  rw [v8k] at hA
  have hN1:(N (f+1) ss l).1=kA:=v8k
  have hN2:(N (f+1) ss l).2=⟨(finOf l).1,(finOf l).2,news⟩:=by show (⟨_,_,(arcsN (N f) ss [] (groups l)).2⟩:State)=_;rw [e1];rfl
  have hK:K (f+1) ss l=finish kA (less ⟨(finOf l).1,(finOf l).2,news⟩ (leastOf ⟨(finOf l).1,(finOf l).2,news⟩)):=by unfold K;rw [hN1,hN2]
  have x0m:(finOf l).1=true\/news≠[]:=by
   cases hf:(finOf l).1 with
   | true=>exact .inl rfl
   | false =>
    refine .inr fun h0=> ?_
    rw [h0] at e2
    have h9:=p6 hn hf
    rw [<- p2] at h9
    exact h9 (by simpa using e2.symm)
  have z0v:F8 ⟨(finOf l).1,(finOf l).2,news⟩≠[]:=by
   unfold F8
   rcases x0m with h | h
   ·simp [h]
   ·intro h2
    have:=(List.append_eq_nil_iff.1 h2).2
    exact h (by simpa using this)
  obtain ⟨s',hs'⟩:∃ x,less ⟨(finOf l).1,(finOf l).2,news⟩ (leastOf ⟨(finOf l).1,(finOf l).2,news⟩)=x:=⟨_,rfl⟩
  have R4:Good kA.length s':=by
   rw [<- hs']
   refine ⟨?_,fun hf=> ?_,?_,xE z0v⟩
   ·rw [fG,pH (fun a=>⟨a.byte,a.out-leastOf ⟨(finOf l).1,(finOf l).2,news⟩,a.to⟩) (fun _=>rfl) (fun _=>rfl)]
    refine pJ _ _ _ ?_ hA.to (fun a _=>oM)
    rw [e2,p2,List.pairwise_map]
    exact p3.Z0
   ·have hf:(finOf l).1=false:=hf
    show (if (finOf l).1 then (finOf l).2-_ else (finOf l).2)=0
    rw [hf,if_neg sP]
    exact p4 hf
   ·rcases x0m with h | h
    ·exact .inl h
    ·exact .inr (by rw [fG];simpa using h)
  have x0l:s'.a6=news.map fun a=>⟨a.byte,a.out-leastOf ⟨(finOf l).1,(finOf l).2,news⟩,a.to⟩:=by rw [<- hs',fG]
  rw [hK,hs']
  by_cases K0:s'∈kA
  ·obtain ⟨k,bV,M5,zR⟩:=kG K0
   rw [zR]
   have heq:kA=ss:=by
    refine Classical.byContradiction fun E6=> ?_
    obtain ⟨a,ha,nF⟩:=hA.last E6
    have hg:=hA.inv.S7 k s' bV
    have h9:=N8 _ _ _ hg.a6 ⟨a.byte,a.out-leastOf ⟨(finOf l).1,(finOf l).2,news⟩,a.to⟩ (by rw [x0l];exact List.mem_map.2 ⟨a,ha,rfl⟩)
    simp only at h9
    omega
   exact ⟨hA.inv,hA.pre,M5,fun _=>heq,fun h=>by rw [heq] at M5;omega,fun h=>by rw [heq] at M5;omega⟩
  ·rw [hH K0]
   have hinv:Inv (kA++[s']):=by
    refine ⟨List.nodup_append.2 ⟨hA.inv.nodup,sP,fun a ha b hb=>by simp at hb;subst hb;exact fun e=>K0 (e▸ha)⟩,fun i s hs=> ?_⟩
    rcases Nat.lt_or_ge i kA.length with h | h
    ·rw [List.getElem?_append_left h] at hs
     exact hA.inv.S7 i s hs
    ·rw [List.getElem?_append_right h] at hs
     have h0:i-kA.length=0:=by
      rcases Nat.eq_zero_or_pos (i-kA.length) with h2 | h2
      ·exact h2
      ·rw [List.getElem?_eq_none sO] at hs;cases hs
     rw [h0] at hs
     injection hs with hs
     subst hs
     rw [show i=kA.length by omega]
     exact R4
   have hle:=hA.pre.length_le
   refine ⟨hinv,hA.pre.trans (List.prefix_append _ _),sP,fun h=>by simp only at h;omega,fun _=>sP,fun _ SS hS hAh f' hf'=> ?_⟩
   obtain ⟨g,rfl⟩:∃ g,f'=g+1:=⟨f'-1,oM⟩
   simp only at hf' |-
   simp only [wlk]
   rw [z4z hS (k:=kA.length) (s:=s') (by rw [List.getElem?_append_right nR];simp),x0l,pG (fun a=>⟨a.byte,a.out-leastOf ⟨(finOf l).1,(finOf l).2,news⟩,a.to⟩) (fun _=>rfl),hA.walk SS ((List.prefix_append _ _).trans hS) hAh g oM]
   simp [leave]
theorem jJ {l:List Wv} (hl:C9 256 l) (hn:l≠[]) (hr:L6 l):build l=⟨(K 256 [] l).1,leastV l⟩:=by
 obtain ⟨e,l,rfl⟩:=List.exists_cons_of_ne_nil hn
 have hp:(e::l).map (pre [])=e::l:=(List.map_congr_left fun x _=>by simp [pre]).trans (List.map_id _)
 have hb:=z5b 256 (e::l) [] [] ⟨E1,0⟩ [] hl sP hr rfl rfl
 rw [hp] at hb
 have hn:=oF 256 (e::l) [] hl sP hr
 unfold build K
 have h0:([]:List Nat).length=0:=rfl
 rw [h0] at hb
 simp only [hb,List.headD_cons,hn]
theorem z9x {l:List Wv} (hl:C9 256 l) (hr:L6 l):rightF (build l).l3 (build l).init=true:=by
 by_cases hn:l=[]
 ·subst hn;decide
 ·rw [jJ hl hn hr]
  obtain ⟨hI,hK⟩:=z4y 256 l [] hl hn hr Inv.S0
  obtain ⟨ss,hss⟩:∃ x,(K 256 [] l).1=x:=⟨_,rfl⟩
  obtain ⟨k,hk⟩:∃ x,(K 256 [] l).2=x:=⟨_,rfl⟩
  rw [hss,hk] at hK
  rw [hss] at hI |-
  have h0:0<ss.length:=by have:=hK.lt;omega
  have hlen:=hK.new (Nat.zero_le _)
  have D5:=hI.formed h0
  obtain ⟨hA,_⟩:=xD D5
  obtain ⟨root,uW⟩:∃ r,ss[ss.length-1]? =some r:=⟨_,D9 oM⟩
  have hg:=hI.S7 _ _ uW
  have hw:=hK.walk (Nat.zero_le _) ss (List.prefix_refl _) hA (k+1) oM
  have u6y:E9 ss=true:=by
   unfold E9
   rw [show ss.length-1=k by omega]
   simp only [contW]
   have z8:resume ss k 0 0=some ss.length:=by
    have:resume ss k 0 0=wlk (k+1) ss k 0:=rfl
    rw [this];exact hw
   rw [z8]
   simp
  unfold rightF
  rw [D5,List.getLast?_eq_getElem?,uW,u6y,hI.all]
  have E6:(!root.final&&decide (root.a6.length=0))=false:=by
   rcases hg.some_ with h | h
   ·rw [h];rfl
   ·have:root.a6.length≠0:=fun e=>h (List.eq_nil_of_length_eq_zero e)
    rw [decide_eq_false this];cases root.final<;>rfl
  simp only [E6,Bool.true_and]
  rfl
end Dw
end Go.Proofs.YtcddnmhmcieebaaGreatDoor
