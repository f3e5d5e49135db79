import Derived.Test.YtcddnmhmcieebaaGreatDoorProg
import Derived.Below
import Derived.Orders
import Derived.Lib.Hide
import Derived.Deep.LoopGhost
import Derived.IntWalk
import Derived.Laws.Bits64
import Derived.Scope
import Derived.KernelRfl
namespace Go.Proofs.YtcddnmhmcieebaaGreatDoor
set_option linter.unusedSimpArgs false
set_option linter.unusedVariables false
set_option linter.unnecessarySimpa false
theorem n5 {w:World} {g:Nat} {cs:Array Value} {t:TypeId} {fr:Nat×Nat} (j:Nat) (hg:w.heap[g]? =some (.cells cs t fr)):w.cell? ⟨g,j,none⟩=cs[j]? :=Go.cell_of_row w g j cs t fr hg
theorem F8 {α:Type} {l:List α} {i:Nat} (h:i<l.length):l[i]? =some l[i]:=List.getElem?_eq_getElem h
theorem T9 {α:Type} {l:List α} {i:Nat} {x:α} (h:l[i]? =some x):x∈l:=List.mem_of_getElem? h
theorem H2 {α:Type} {l:List α} {i:Nat} {x:α} (h:l[i]? =some x):∃ h:i<l.length,l[i]=x:=List.getElem?_eq_some_iff.1 h
open Go.RowKit
namespace Sb
abbrev Pr:=Value->World->Prop
def Stable (p:Pr):Prop:=∀ v w w',Below w.heap.size w w'->p v w->p v w'
def Is (V:Value):Pr:=fun v _=>v=V
def Any:Pr:=fun _ _=>True
theorem Stable.is (V:Value):Stable (Is V):=fun _ _ _ _ h=>h
theorem Stable.any:Stable Any:=fun _ _ _ _ h=>h
def look:List Pr->Nat->Pr
 | [],_=>Any
 | p::ps,k=>if k=ps.length then p else look ps k
theorem look_cons_lt {p:Pr} {ps:List Pr} {k:Nat} (h:k<ps.length):look (p::ps) k=look ps k:=by
 simp [look,Nat.ne_of_lt h]
theorem look_cons_eq {p:Pr} {ps:List Pr}:look (p::ps) ps.length=p:=by simp [look]
theorem look_ge {ps:List Pr} {k:Nat} (h:ps.length<=k):look ps k=Any:=by
 induction ps with
 | nil=>rfl
 | cons p ps ih=>simp only [List.length_cons] at h;rw [look,if_neg (by omega)];exact ih (by omega)
section
variable (P:Program) (ops:Array Oper) (Q:Exit->Act->World->Prop) (a0:Act) (w0:World)
def Got (ps:List Pr) (i:Nat) (a:Act) (w:World):Prop:=∃ v,(∀ (o:Oper) (d:Nat),ops[i]? =some o->o.dst=some d->a.tmps[d]? =some v)/\look ps i v w
structure Here (a:Act) (w:World):Prop where
 ext:Below w0.heap.size w0 w
 defers:a.defers=a0.defers
 size:a.tmps.size=a0.tmps.size
 Dj:∀ t:Nat,(∀ (i:Nat) (o:Oper),ops[i]? =some o->o.dst≠some t)->a.tmps[t]? =a0.tmps[t]?
def Near (i j:Nat):Prop:=∃ (o:Oper) (e:Edge),ops[i]? =some o/\e∈o.after/\Region.binds .any e=true/\e.on=j
def Way:Nat->List Nat->Nat->Prop
 | i,[],j=>Near ops i j
 | i,k::ks,j=>Near ops i k/\Way k ks j
def Dep (i j:Nat):Prop:=∃ ks,Way ops i ks j
def Deps (ps:List Pr) (i:Nat) (a:Act) (w:World):Prop :=
 (∀ j,Dep ops i j->j<ps.length->Got ops ps j a w)/\∀ t:Nat,(∀ (j:Nat) (o:Oper),ops[j]? =some o->o.dst=some t->j=i\/Dep ops j i)->a.tmps[t]? =a0.tmps[t]?
def Step (ps:List Pr) (i:Nat) (p:Pr):Prop :=
 ∀ a w,Here ops a0 w0 a w->Deps ops a0 ps i a w->∀ K:Act->World->Prop,
  (∀ o:Oper,ops[i]? =some o->∀ v w',Below w.heap.size w w'->p v w'->K (a.put o.dst v) w')->wpOp P ops Q i K a w
def Good (ps:List Pr):Prop:=(∀ i,Stable (look ps i))/\∀ i,i<ps.length->Step P ops Q a0 w0 ps i (look ps i)
def okOps (n:Nat):Bool :=
 (List.range ops.size).all fun i=>match ops[i]? with
  | none=>false
  | some o=>(o.after.all fun e=> !Region.binds .any e||decide (e.on<i)) &&
    match o.dst with
    | none=>true
    | some d=>decide (d<n)&&(List.range i).all fun j=>match ops[j]? with | none=>true | some o'=>o'.dst !=some d
structure OkOps (n:Nat):Prop where
 back:∀ (i:Nat) (o:Oper),ops[i]? =some o->∀ e∈o.after,Region.binds .any e=true->e.on<i
 room:∀ (i:Nat) (o:Oper) (d:Nat),ops[i]? =some o->o.dst=some d->d<n
 apart:∀ (i j:Nat) (o o':Oper) (d:Nat),ops[i]? =some o->ops[j]? =some o'->o.dst=some d->o'.dst=some d->i=j
end
theorem OkOps.of {ops:Array Oper} {n:Nat} (h:okOps ops n=true):OkOps ops n:=by
 simp only [okOps,List.all_eq_true,List.mem_range] at h
 have h':∀ (i:Nat) (o:Oper),ops[i]? =some o->(∀ e∈o.after,Region.binds .any e=true->e.on<i)/\∀ d:Nat,o.dst=some d->d<n/\∀ j,j<i->∀ o':Oper,ops[j]? =some o'->o'.dst≠some d:=by
  intro i o ho
  have hi:=h i (Array.getElem?_eq_some_iff.1 ho).1
  simp only [ho,Bool.and_eq_true] at hi
  obtain ⟨ha,hd⟩:=hi
  refine ⟨fun e he hb=> ?_,fun d Yr=> ?_⟩
  ·have:=Array.all_eq_true_iff_forall_mem.1 ha e he
   simpa [hb] using this
  ·simp only [Yr,Bool.and_eq_true,decide_eq_true_eq,List.all_eq_true,List.mem_range] at hd
   refine ⟨hd.1,fun j hj o' R2=> ?_⟩
   have:=hd.2 j hj
   simp only [R2] at this
   simpa using this
 refine ⟨fun i o ho=>(h' i o ho).1,fun i o d ho hd=>((h' i o ho).2 d hd).1,fun i j o o' d ho R2 hd hd'=> ?_⟩
 rcases Nat.lt_trichotomy i j with o9 | heq | o9
 ·exact absurd hd (((h' j o' R2).2 d hd').2 i o9 o ho)
 ·exact heq
 ·exact absurd hd' (((h' i o ho).2 d hd).2 j o9 o' R2)
section
variable {P:Program} {ops:Array Oper} {Q:Exit->Act->World->Prop} {a0:Act} {w0:World} {ps:List Pr}
theorem put_size (a:Act) (d:Option Tmp) (v:Value):(a.put d v).tmps.size=a.tmps.size:=by cases d<;>simp [Act.put]
theorem put_defers (a:Act) (d:Option Tmp) (v:Value):(a.put d v).defers=a.defers:=by cases d<;>simp [Act.put]
theorem put_get_ne (a:Act) (d:Option Tmp) (v:Value) (t:Nat) (h:d≠some t):(a.put d v).tmps[t]? =a.tmps[t]? :=by
 cases d with
 | none=>rfl
 | some d =>
  have:d≠t:=fun e=>h (by rw [e])
  simp [Act.put,Array.getElem?_setIfInBounds_ne this]
theorem put_get (a:Act) (d:Nat) (v:Value) (h:d<a.tmps.size):(a.put (some d) v).tmps[d]? =some v:=by
 simp [Act.put,h]
structure Inv (ops:Array Oper) (a0:Act) (w0:World) (ps:List Pr) (listed:Array Bool) (a:Act) (w:World):Prop where
 here:Here ops a0 w0 a w
 closed:∀ (i:Nat) (o:Oper),ops[i]? =some o->listed.getD i false=true->∀ e∈o.after,Region.binds .any e=true->listed.getD e.on false=true
 AM:∀ i,i<ops.size->listed.getD i false=true->Got ops ps i a w
 iM:∀ t:Nat,(∀ (j:Nat) (o:Oper),ops[j]? =some o->o.dst=some t->listed.getD j false=false)->a.tmps[t]? =a0.tmps[t]?
theorem L6 {listed:Array Bool} {a:Act} {w:World} (h:Inv ops a0 w0 ps listed a w) {i j:Nat} (hd:Near ops i j)
  (hl:listed.getD i false=true\/i∈Region.ready .any ops listed):listed.getD j false=true:=by
 obtain ⟨o,e,hi,he,hb,hj⟩:=hd
 rw [<- hj]
 rcases hl with hl | hl
 ·exact h.closed _ _ hi hl e he hb
 ·obtain ⟨_,o',R2,J4⟩:=mem_ready.1 hl
  rw [hi] at R2
  injection R2 with R2
  subst R2
  exact J4 e he hb
theorem C1 {listed:Array Bool} {a:Act} {w:World} (h:Inv ops a0 w0 ps listed a w) {i j:Nat} (hd:Dep ops i j)
  (hl:listed.getD i false=true\/i∈Region.ready .any ops listed):listed.getD j false=true:=by
 obtain ⟨ks,hw⟩:=hd
 induction ks generalizing i with
 | nil=>exact L6 h hw hl
 | cons k ks ih=>exact ih (.inl (L6 h hw.1 hl)) hw.2
theorem jX (a6:OkOps ops a0.tmps.size) (hlen:ps.length=ops.size) (hg:Good P ops Q a0 w0 ps)
  (p7:∀ a w,Here ops a0 w0 a w->(∀ i,i<ops.size->Got ops ps i a w)->Q .normal a w) :
  ∀ (fuel:Nat) (listed:Array Bool) (a:Act) (w:World),listed.size=ops.size->(listed.toList.countP (! ·))<=fuel->Inv ops a0 w0 ps listed a w ->
   wpAny P .any ops Q fuel listed a w:=by
 have J4:∀ (listed:Array Bool) (a:Act) (w:World),listed.size=ops.size->Inv ops a0 w0 ps listed a w->Region.ready .any ops listed=[]->Q .normal a w:=by
  intro listed a w iN hI hr
  have jY:∀ n i,i<n->i<ops.size->listed.getD i false=true:=by
   intro n
   induction n with
   | zero=>intro i h;omega
   | succ n ih =>
    intro i hi N3
    by_cases D7:i<n
    ·exact ih i D7 N3
    ·have Me:i=n:=by omega
     subst Me
     cases hl:listed.getD i false with
     | true=>rfl
     | false =>
      exfalso
      have Z5:i∈Region.ready .any ops listed:=by
       rw [mem_ready]
       have o9:i<listed.size:=by omega
       refine ⟨by simpa [o9] using hl,ops[i],Array.getElem?_eq_getElem N3,fun e he hb=> ?_⟩
       have o9:=a6.back i ops[i] (Array.getElem?_eq_getElem N3) e he hb
       exact ih e.on o9 (by omega)
      rw [hr] at Z5
      cases Z5
  exact p7 a w hI.here fun i hi=>hI.AM i hi (jY (i+1) i (by omega) hi)
 intro fuel
 induction fuel with
 | zero =>
  intro listed a w iN hc hI
  have hr:Region.ready .any ops listed=[]:=by
   rw [List.eq_nil_iff_forall_not_mem]
   intro i hi
   obtain ⟨h0,o,ho,_⟩:=mem_ready.1 hi
   have o9:i<listed.size:=by have:=(Array.getElem?_eq_some_iff.1 ho).1;omega
   have qJ:0<listed.toList.countP (! ·):=by
    rw [List.countP_pos_iff]
    refine ⟨listed[i],by simp,?_⟩
    simp [o9] at h0
    simp [h0]
   omega
  exact ⟨hr,J4 listed a w iN hI hr⟩
 | succ fuel ih =>
  intro listed a w iN hc hI
  refine ⟨J4 listed a w iN hI,fun i hi=> ?_⟩
  obtain ⟨h0,o,ho,cV⟩:=mem_ready.1 hi
  have N3:i<ops.size:=(Array.getElem?_eq_some_iff.1 ho).1
  have o9:i<listed.size:=by omega
  have h0':listed[i]=false:=by simpa [o9] using h0
  refine hg.2 i (by omega) a w hI.here ⟨fun j hj hjp=> ?_,fun t ht=> ?_⟩ _ (fun o' R2 v w' hb hp=> ?_)
  ·exact hI.AM j (by omega) (C1 hI hj (.inr hi))
  ·refine hI.iM t fun j oj hj hd=> ?_
   have h9:listed.getD i false=false:=by simp [o9,h0']
   rcases ht j oj hj hd with rfl | xG
   ·exact h9
   ·cases hl:listed.getD j false with
    | false=>rfl
    | true=>rw [C1 hI xG (.inl hl)] at h9;cases h9
  ·rw [ho] at R2
   injection R2 with R2
   subst R2
   refine ih _ _ _ (by simp [iN]) ?_ ⟨⟨hI.here.ext.trans (hb.mono hI.here.ext.size),(put_defers ..).trans hI.here.defers,(put_size ..).trans hI.here.size,fun t ht=>(put_get_ne _ _ _ _ (ht i o ho)).trans (hI.here.Dj t ht)⟩,?_,?_,?_⟩
   ·have fB:(listed.setIfInBounds i true).toList=listed.toList.set i true:=by simp
    rw [fB,List.countP_set (by simpa using o9)]
    simp [h0']
    have:0<listed.toList.countP (! ·):=by
     rw [List.countP_pos_iff]
     exact ⟨listed[i],by simp,by simp [h0']⟩
    simp only [Array.countP_toList] at this hc
    omega
   ·intro k ok hk hl e he hb
    by_cases aN:i=k
    ·subst aN
     rw [ho] at hk
     injection hk with hk
     subst hk
     exact getD_set_true (cV e he hb)
    ·rw [getD_set_ne false aN] at hl
     exact getD_set_true (hI.closed k ok hk hl e he hb)
   ·intro k hk hl
    by_cases aN:i=k
    ·subst aN
     refine ⟨v,fun tV d X1 hd=> ?_,hp⟩
     rw [ho] at X1
     injection X1 with X1
     subst X1
     rw [hd]
     exact put_get _ _ _ (by rw [hI.here.size];exact a6.room i o d ho hd)
    ·rw [getD_set_ne false aN] at hl
     obtain ⟨v',GN,oX⟩:=hI.AM k hk hl
     refine ⟨v',fun tV d X1 hd=> ?_,hg.1 k _ _ _ hb oX⟩
     rw [put_get_ne _ _ _ _ (fun he=>aN (a6.apart i k o tV d ho X1 he hd))]
     exact GN tV d X1 hd
   ·intro t ht
    refine (put_get_ne _ _ _ _ (fun he=> ?_)).trans (hI.iM t fun j oj hj hd=> ?_)
    ·have h9:=ht i o ho he
     simp [o9] at h9
    ·have h9:=ht j oj hj hd
     by_cases gB:i=j
     ·subst gB;simp [o9] at h9
     ·rwa [getD_set_ne false gB] at h9
variable {X:Prop}
def Fin (Q:Exit->Act->World->Prop) (w:World):List Oper->List Pr->Act->Prop
 | o::os,p::ps,a=>∀ v,p v w->Fin Q w os ps (a.put o.dst v)
 | _,_,a=>Q .normal a w
structure D3 (X:Prop) (P:Program) (id:Nat) (ops:Array Oper) (Q:Exit->Act->World->Prop) (a0:Act) (w0:World) (ps:List Pr):Prop where
 out:Good P ops Q a0 w0 ps->X
abbrev fC (P:Program) (id:Nat) (ops:Array Oper) (Q:Exit->Act->World->Prop) (a0:Act) (w0:World) (ps:List Pr):Prop :=
 D3 (P.follows .mixedOrders=true/\wpAny P .any ops Q ops.size (Array.replicate ops.size false) a0 { w0 with drawn:=w0.drawn+1 }) P id ops Q a0 w0 ps
theorem AN:Good P ops Q a0 w0 []:=⟨fun i=>Stable.any,fun i hi=>absurd hi (by simp)⟩
theorem gC {id:Nat} (h:fC P id ops Q a0 w0 []):P.follows .mixedOrders=true/\wpAny P .any ops Q ops.size (Array.replicate ops.size false) a0 { w0 with drawn:=w0.drawn+1 } :=
 h.out AN
theorem Dk {id:Nat} (h:fC P id ops Q a0 w0 []):(Code.region id ops true).wp P Q a0 w0:=wp_region_any (gC h).1 (gC h).2
theorem E4 {id n:Nat} {l:List Oper} (a6:OkOps l.toArray n) (h:Hid (OkOps l.toArray n)->fC P id l.toArray Q a0 w0 []):(Code.region id l.toArray true).wp P Q a0 w0:=Dk (h (Lib.hid a6))
theorem Y0 {id:Nat} (p:Pr) (hs:Stable p) (h:Step P ops Q a0 w0 ps ps.length p) (rest:D3 X P id ops Q a0 w0 (p::ps)) (a6:OkOps ops a0.tmps.size):D3 X P id ops Q a0 w0 ps:=by
 refine ⟨fun hg=> ?_⟩
 refine rest.out ⟨fun i=> ?_,fun i hi a w hh hd=> ?_⟩
 ·by_cases he:i=ps.length
  ·subst he;rw [look_cons_eq];exact hs
  ·have:look (p::ps) i=look ps i:=by simp [look,he]
   rw [this];exact hg.1 i
 ·have cW:Deps ops a0 ps i a w:=⟨fun j hj zW=>by
   obtain ⟨v,hv,hp⟩:=hd.1 j hj (by simp;omega)
   exact ⟨v,hv,by rwa [look_cons_lt zW] at hp⟩,hd.2⟩
  by_cases he:i=ps.length
  ·subst he
   rw [look_cons_eq]
   exact h a w hh cW
  ·have o9:i<ps.length:=by simp at hi;omega
   rw [look_cons_lt o9]
   exact hg.2 i o9 a w hh cW
theorem look_rev (ps:List Pr) (i:Nat) (p:Pr) (h:ps.reverse[i]? =some p):look ps i=p:=by
 induction ps with
 | nil=>simp at h
 | cons q ps ih =>
  rw [List.reverse_cons] at h
  by_cases he:i=ps.length
  ·subst he
   rw [look_cons_eq]
   rw [List.getElem?_append_right (by simp)] at h
   simpa using h
  ·rcases Nat.lt_or_ge i ps.length with o9 | eV
   ·rw [look_cons_lt o9]
    rw [List.getElem?_append_left (by simpa using o9)] at h
    exact ih h
   ·rw [List.getElem?_append_right (by simpa using eV)] at h
    simp at h
    have:=(H2 h).1
    simp at this
    omega
theorem E1 {id k n:Nat} {l:List Oper} (p:Pr) (hn:a0.tmps.size=n) (a6:OkOps l.toArray n) (hk:ps.length=k) (hs:Stable p)
  (h:∀ a w,Here l.toArray a0 w0 a w->Hid (Deps l.toArray a0 ps k a w)->ps.length=k->∀ K:Act->World->Prop,
   Hid (∀ o:Oper,l[k]? =some o->∀ v w',Below w.heap.size w w'->p v w'->K (a.put o.dst v) w')->wpOp P l.toArray Q k K a w)
  (rest:D3 X P id l.toArray Q a0 w0 (p::ps)):D3 X P id l.toArray Q a0 w0 ps:=by
 subst hn
 refine Y0 p hs ?_ rest a6
 rw [hk]
 intro a w hh hd K hK
 exact h a w hh hd hk K (fun o ho=>hK o (by simpa using ho))
theorem P6 {id k n:Nat} {l:List Oper} (V:Value) (hn:a0.tmps.size=n) (a6:OkOps l.toArray n) (hk:ps.length=k)
  (h:∀ a w,Here l.toArray a0 w0 a w->Hid (Deps l.toArray a0 ps k a w)->ps.length=k->∀ K:Act->World->Prop,
   Hid (∀ o:Oper,l[k]? =some o->∀ v w',Below w.heap.size w w'->v=V->K (a.put o.dst v) w')->wpOp P l.toArray Q k K a w)
  (rest:D3 X P id l.toArray Q a0 w0 (Is V::ps)):D3 X P id l.toArray Q a0 w0 ps :=
 E1 (Is V) hn a6 hk (Stable.is V) h rest
def dep1 (l:List Oper) (i j:Nat):Bool:=match l[i]? with | some o=>o.after.any fun e=>Region.binds .any e&&e.on==j | none=>false
def isPath (l:List Oper):Nat->List Nat->Nat->Bool
 | i,[],j=>dep1 l i j
 | i,k::ks,j=>dep1 l i k&&isPath l k ks j
theorem near_of {l:List Oper} {i j:Nat} (h:dep1 l i j=true):Near l.toArray i j:=by
 unfold dep1 at h
 cases ho:l[i]? with
 | none=>simp [ho] at h
 | some o =>
  simp only [ho,Array.any_eq_true',Bool.and_eq_true,beq_iff_eq] at h
  obtain ⟨e,he,hb,hj⟩:=h
  exact ⟨o,e,by simpa using ho,he,hb,hj⟩
theorem way_of {l:List Oper} {j:Nat}:∀ (ks:List Nat) {i:Nat},isPath l i ks j=true->Way l.toArray i ks j
 | [],_,h=>near_of h
 | k::ks,_,h=>by
  simp only [isPath,Bool.and_eq_true] at h
  exact ⟨near_of h.1,way_of ks h.2⟩
theorem Dep.of {l:List Oper} {i j:Nat} (ks:List Nat) (h:isPath l i ks j=true):Dep l.toArray i j:=⟨ks,way_of ks h⟩
theorem use {l:List Oper} {k j m d:Nat} {p:Pr} {o:Oper} {a:Act} {w:World} (hd:Hid (Deps l.toArray a0 ps k a w)) (hk:ps.length=k) (hm:j+m+1=k)
  (ks:List Nat) (Y1:isPath l k ks j=true) (hp:ps[m]? =some p) (ho:l[j]? =some o) (E0:o.dst=some d):∃ v,a.tmps[d]? =some v/\p v w:=by
 obtain ⟨v,hv,hl⟩:=hd.out.1 j (Dep.of ks Y1) (by omega)
 refine ⟨v,hv o d (by simpa using ho) E0,?_⟩
 have o9:=(H2 hp).1
 have:look ps j=p:=look_rev ps j p (by rw [List.getElem?_reverse (by omega)];rw [<- hp];congr 1;omega)
 rwa [this] at hl
theorem fD {l:List Oper} {k j m d:Nat} {V:Value} {o:Oper} {a:Act} {w:World} (hd:Hid (Deps l.toArray a0 ps k a w)) (hk:ps.length=k) (hm:j+m+1=k)
  (ks:List Nat) (Y1:isPath l k ks j=true) (hp:ps[m]? =some (Is V)) (ho:l[j]? =some o) (E0:o.dst=some d):a.tmps[d]? =some V:=by
 obtain ⟨v,hv,hl⟩:=use hd hk hm ks Y1 hp ho E0
 rw [hv,show v=V from hl]
theorem U1 {l:List Oper} {k j m:Nat} {p:Pr} {a:Act} {w:World} (hd:Hid (Deps l.toArray a0 ps k a w)) (hk:ps.length=k) (hm:j+m+1=k)
  (ks:List Nat) (Y1:isPath l k ks j=true) (hp:ps[m]? =some p):∃ v,p v w:=by
 obtain ⟨v,hv,hl⟩:=hd.out.1 j (Dep.of ks Y1) (by omega)
 have o9:=(H2 hp).1
 have:look ps j=p:=look_rev ps j p (by rw [List.getElem?_reverse (by omega)];rw [<- hp];congr 1;omega)
 rw [this] at hl
 exact ⟨v,hl⟩
theorem E5 {id n:Nat} {l:List Oper} (hm:P.follows .mixedOrders=true) (hn:a0.tmps.size=n) (a6:OkOps l.toArray n) (hlen:ps.length=l.length)
  (p7:∀ a w,Here l.toArray a0 w0 a w->Hid (∀ i,i<l.length->Got l.toArray ps i a w)->Q .normal a w):fC P id l.toArray Q a0 w0 ps:=by
 subst hn
 refine ⟨fun hg=> ?_⟩
 refine ⟨hm,?_⟩
 refine jX a6 (by simpa using hlen) hg (fun a w hh cW=>p7 a w hh (fun i hi=>cW i (by simpa using hi))) _ _ _ _ (by simp) ?_ ?_
 ·exact Nat.le_trans List.countP_le_length (by simp)
 ·refine ⟨⟨⟨rfl,rfl,rfl,Nat.le_refl _,fun _ _=>rfl⟩,rfl,rfl,fun _ _=>rfl⟩,fun i o ho hl=> ?_,fun i hi hl=> ?_,fun _ _=>rfl⟩
  ·have hi:=(Array.getElem?_eq_some_iff.1 ho).1
   simp at hi
   simp [hi] at hl
  ·simp at hi
   simp [hi] at hl
theorem xH {l:List Oper} {j m d:Nat} {p:Pr} {o:Oper} {a:Act} {w:World} (hg:Hid (∀ i,i<l.length->Got l.toArray ps i a w)) (hm:j+m+1=ps.length)
  (hp:ps[m]? =some p) (ho:l[j]? =some o) (E0:o.dst=some d):∃ v,a.tmps[d]? =some v/\p v w:=by
 obtain ⟨v,hv,hl⟩:=hg.out j (H2 ho).1
 refine ⟨v,hv o d (by simpa using ho) E0,?_⟩
 have o9:=(H2 hp).1
 have:look ps j=p:=look_rev ps j p (by rw [List.getElem?_reverse (by omega)];rw [<- hp];congr 1;omega)
 rwa [this] at hl
theorem Dn {l:List Oper} {j m d:Nat} {V:Value} {o:Oper} {a:Act} {w:World} (hg:Hid (∀ i,i<l.length->Got l.toArray ps i a w)) (hm:j+m+1=ps.length)
  (hp:ps[m]? =some (Is V)) (ho:l[j]? =some o) (E0:o.dst=some d):a.tmps[d]? =some V:=by
 obtain ⟨v,hv,hl⟩:=xH hg hm hp ho E0
 rw [hv,show v=V from hl]
theorem M4 {l:List Oper} {j m:Nat} {p:Pr} {a:Act} {w:World} (hg:Hid (∀ i,i<l.length->Got l.toArray ps i a w)) (hm:j+m+1=ps.length) (zW:j<l.length)
  (hp:ps[m]? =some p):∃ v,p v w:=by
 obtain ⟨v,hv,hl⟩:=hg.out j zW
 have o9:=(H2 hp).1
 have:look ps j=p:=look_rev ps j p (by rw [List.getElem?_reverse (by omega)];rw [<- hp];congr 1;omega)
 rw [this] at hl
 exact ⟨v,hl⟩
def noDst (l:List Oper) (t:Nat):Bool:=l.all fun o=>o.dst !=some t
theorem cJ {l:List Oper} {t:Nat} {x:Value} {a:Act} {w:World} (hh:Here l.toArray a0 w0 a w) (hn:noDst l t=true) (hx:a0.tmps[t]? =some x):a.tmps[t]? =some x:=by
 rw [hh.Dj t ?_,hx]
 intro i o ho hd
 have hm:o∈l:=by have:o∈l.toArray:=Array.mem_of_getElem? ho;simpa using this
 have:=List.all_eq_true.1 hn o hm
 simp [hd] at this
def onlyDst (l:List Oper) (t j:Nat):Bool:=(List.range l.length).all fun i=>i==j||(match l[i]? with | some o=>o.dst !=some t | none=>true)
theorem xJ {l:List Oper} {t k j:Nat} (ks:List Nat) {x:Value} {a:Act} {w:World} (hd:Hid (Deps l.toArray a0 ps k a w)) (hn:onlyDst l t j=true) (hp:(j==k||isPath l j ks k)=true) (hx:a0.tmps[t]? =some x):a.tmps[t]? =some x:=by
 rw [hd.out.2 t ?_,hx]
 intro i o ho E0
 have R2:l[i]? =some o:=by simpa using ho
 have W8:=(H2 R2).1
 have h1:=List.all_eq_true.1 hn i (by simpa using W8)
 rw [R2] at h1
 simp only [E0,Bool.or_eq_true,beq_iff_eq,bne_self_eq_false,Bool.false_eq_true,or_false] at h1
 subst h1
 rcases Bool.or_eq_true _ _ |>.mp hp with h2 | h2
 ·exact .inl (by simpa using h2)
 ·exact .inr (Dep.of ks h2)
theorem op_plain {l:List Oper} {i:Nat} {o:Oper} {a:Act} {w:World} {K:Act->World->Prop} (hi:l[i]? =some o) (hg:o.guard=none) (h:Oper.wp P o a w K Q):wpOp P l.toArray Q i K a w:=by
 unfold wpOp;simp only [List.getElem?_toArray,hi]
 rw [if_pos (by simp [Region.wanted,hg])]
 exact .inl h
theorem op_guard {l:List Oper} {i g d:Nat} {b:Bool} {o og:Oper} {a:Act} {w:World} {K:Act->World->Prop} (hi:l[i]? =some o) (hg:o.guard=some (g,b)) (bV:l[g]? =some og) (hd:og.dst=some d) (hv:a.tmps[d]? =some (.bool b))
  (h:Oper.wp P o a w K Q):wpOp P l.toArray Q i K a w:=by
 unfold wpOp;simp only [List.getElem?_toArray,hi]
 rw [if_pos (by simp [Region.wanted,hg,yielded,bV,hd,hv])]
 exact .inl h
theorem op_skip {l:List Oper} {i g d:Nat} {b:Bool} {o og:Oper} {a:Act} {w:World} {K:Act->World->Prop} (hi:l[i]? =some o) (hg:o.guard=some (g,b)) (bV:l[g]? =some og) (hd:og.dst=some d)
  (hv:a.tmps[d]? =some (.bool (!b))) (h:K (a.put o.dst undef) w):wpOp P l.toArray Q i K a w:=by
 unfold wpOp;simp only [List.getElem?_toArray,hi]
 rw [if_neg]
 ·exact h
 ·cases b<;>simp [Region.wanted,hg,yielded,bV,hd,hv]
theorem op_skip' {l:List Oper} {i g d:Nat} {b:Bool} {o og:Oper} {a:Act} {w:World} {K:Act->World->Prop} (hi:l[i]? =some o) (hg:o.guard=some (g,b)) (bV:l[g]? =some og) (hd:og.dst=some d)
  (hv:a.tmps[d]? =some undef) (h:K (a.put o.dst undef) w):wpOp P l.toArray Q i K a w:=by
 unfold wpOp;simp only [List.getElem?_toArray,hi]
 rw [if_neg]
 ·exact h
 ·simp [Region.wanted,hg,yielded,bV,hd,hv,undef]
theorem mD {id k n u:Nat} {l:List Oper} {V:Value} {o:Oper} (s:a0.tmps[u]? =some V) (hn:a0.tmps.size=n) (a6:OkOps l.toArray n) (hk:ps.length=k) (ho:l[k]? =some o) (hg:o.guard=none) (X4:o.op= .move (.tmp u)\/o.op= .assign (.tmp u)) (qH:noDst l u=true)
  (rest:D3 X P id l.toArray Q a0 w0 (Is V::ps)):D3 X P id l.toArray Q a0 w0 ps :=
 P6 V hn a6 hk (fun a w hh hd _ K hK=>op_plain ho hg (by
  have hs:=cJ hh qH s
  have he:a.eval (.tmp u)=V:=by simp [Act.eval,hs]
  have h2:=hK.out o ho V w (Below.refl _ _) rfl
  rw [<- he] at h2
  unfold Oper.wp execOp
  rcases X4 with h | h<;>rw [h]<;>exact h2)) rest
theorem qq {id k n u j:Nat} {l:List Oper} {V:Value} {o:Oper} (s:a0.tmps[u]? =some V) (hn:a0.tmps.size=n) (a6:OkOps l.toArray n) (hk:ps.length=k) (ho:l[k]? =some o) (hg:o.guard=none) (X4:o.op= .move (.tmp u)\/o.op= .assign (.tmp u)) (ks:List Nat) (qH:onlyDst l u j=true) (hp:(j==k||isPath l j ks k)=true)
  (rest:D3 X P id l.toArray Q a0 w0 (Is V::ps)):D3 X P id l.toArray Q a0 w0 ps :=
 P6 V hn a6 hk (fun a w hh hd _ K hK=>op_plain ho hg (by
  have hs:=xJ ks hd qH hp s
  have he:a.eval (.tmp u)=V:=by simp [Act.eval,hs]
  have h2:=hK.out o ho V w (Below.refl _ _) rfl
  rw [<- he] at h2
  unfold Oper.wp execOp
  rcases X4 with h | h<;>rw [h]<;>exact h2)) rest
theorem mg {id k n u j m:Nat} {l:List Oper} {V:Value} {o oj:Oper} (hn:a0.tmps.size=n) (a6:OkOps l.toArray n) (hk:ps.length=k) (ho:l[k]? =some o) (hg:o.guard=none) (X4:o.op= .move (.tmp u)\/o.op= .assign (.tmp u))
  (hm:j+m+1=k) (ks:List Nat) (Y1:isPath l k ks j=true) (hp:ps[m]? =some (Is V)) (Ys:l[j]? =some oj) (E0:oj.dst=some u)
  (rest:D3 X P id l.toArray Q a0 w0 (Is V::ps)):D3 X P id l.toArray Q a0 w0 ps :=
 P6 V hn a6 hk (fun a w hh hd hk K hK=>op_plain ho hg (by
  have hs:=fD hd hk hm ks Y1 hp Ys E0
  have he:a.eval (.tmp u)=V:=by simp [Act.eval,hs]
  have h2:=hK.out o ho V w (Below.refl _ _) rfl
  rw [<- he] at h2
  unfold Oper.wp execOp
  rcases X4 with h | h<;>rw [h]<;>exact h2)) rest
theorem u (j m:Nat) {l:List Oper} {k d:Nat} {V:Value} {o:Oper} {a:Act} {w:World} (hd:Hid (Deps l.toArray a0 ps k a w)) (hk:ps.length=k) (hm:j+m+1=k)
  (ks:List Nat) (Y1:isPath l k ks j=true) (hp:ps[m]? =some (Is V)) (ho:l[j]? =some o) (E0:o.dst=some d):a.tmps[d]? =some V:=fD hd hk hm ks Y1 hp ho E0
theorem e (j m:Nat) {l:List Oper} {d:Nat} {V:Value} {o:Oper} {a:Act} {w:World} (hg:Hid (∀ i,i<l.length->Got l.toArray ps i a w)) (hm:j+m+1=ps.length)
  (hp:ps[m]? =some (Is V)) (ho:l[j]? =some o) (E0:o.dst=some d):a.tmps[d]? =some V:=Dn hg hm hp ho E0
theorem o {l:List Oper} {t:Nat} {x:Value} {a:Act} {w:World} (hh:Here l.toArray a0 w0 a w) (hn:noDst l t=true) (hx:a0.tmps[t]? =some x):a.tmps[t]? =some x:=cJ hh hn hx
theorem t (k:Nat) {id n:Nat} {l:List Oper} (V:Value) (hn:a0.tmps.size=n) (a6:OkOps l.toArray n) (hk:ps.length=k)
  (h:∀ a w,Here l.toArray a0 w0 a w->Hid (Deps l.toArray a0 ps k a w)->ps.length=k->∀ K:Act->World->Prop,
   Hid (∀ o:Oper,l[k]? =some o->∀ v w',Below w.heap.size w w'->v=V->K (a.put o.dst v) w')->wpOp P l.toArray Q k K a w)
  (rest:D3 X P id l.toArray Q a0 w0 (Is V::ps)):D3 X P id l.toArray Q a0 w0 ps:=P6 V hn a6 hk h rest
end
end Sb
variable {ds:List Deferred}
open Go.RowKit
namespace Fc
structure K1 (ds:List Deferred) (n:Nat) (a:Act):Prop where
 size:a.tmps.size=n
 defers:a.defers=ds
abbrev Fr:Nat->Act->Prop:=K1 []
theorem K1.l {n:Nat} {a:Act} (h:K1 ds n a) (t:Nat) (ht:Nat.blt t n=true):t<a.tmps.size:=by rw [h.size];exact Nat.le_of_ble_eq_true ht
section
variable {P:Program} {Q:Exit->Act->World->Prop} {a:Act} {w:World} {n:Nat}
theorem re {A:Act} {c:Code} (hs:A.tmps.size=n) (hd:A.defers=ds) (h:∀ a:Act,K1 ds n a->(∀ t:Nat,a.tmps[t]? =A.tmps[t]?)->c.wp P Q a w):c.wp P Q A w:=h A ⟨hs,hd⟩ (fun _=>rfl)
theorem reQ {A:Act} {e:Exit} (hs:A.tmps.size=n) (hd:A.defers=ds) (h:∀ a:Act,K1 ds n a->(∀ t:Nat,a.tmps[t]? =A.tmps[t]?)->Q e a w):Q e A w:=h A ⟨hs,hd⟩ (fun _=>rfl)
theorem enter {l:List Value} {m:Nat} {c:Code} (hs:l.length+m=n) (h:∀ a:Act,Fr n a->(∀ (t:Nat) (v:Value),l[t]? =some v->a.tmps[t]? =some v)->c.wp P Q a w):c.wp P Q ⟨l.toArray++Array.replicate m undef,[]⟩ w :=
 h _ ⟨by simpa using hs,rfl⟩ (fun t v hv=>by
  have o9:=(H2 hv).1
  rw [Array.getElem?_append_left (by simpa using o9)]
  simpa using hv)
theorem l5 {t:Nat} {v:Value} (h:a.tmps[t]? =some v):a.eval (.tmp t)=v:=by simp [Act.eval,h]
theorem aW {t:Nat} {v:Value} (h:a.tmps[t]? =some v):a.tmps.getD t undef=v:=by simp [h]
theorem l7 {t:Nat} {x y:Code} (h:a.tmps[t]? =some (.bool true)) (hx:x.wp P Q a w):(Code.cond (.tmp t) x y).wp P Q a w:=wp_cond_true (l5 h) hx
theorem k9 {t:Nat} {x y:Code} (h:a.tmps[t]? =some (.bool false)) (hy:y.wp P Q a w):(Code.cond (.tmp t) x y).wp P Q a w:=wp_cond_false (l5 h) hy
theorem l0 {t:Nat} {b:Bool} {x y:Code} (h:a.tmps[t]? =some (.bool b)) (hx:b=true->x.wp P Q a w) (hy:b=false->y.wp P Q a w):(Code.cond (.tmp t) x y).wp P Q a w:=wp_cond_split (l5 h) hx hy
theorem uY {K:Act->World->Prop} {id:Nat} (h:Q (.exit id) a w):Exit.then K Q (.exit id) a w:=h
theorem Mf {K:Act->World->Prop} (h:Q .ret a w):Exit.then K Q .ret a w:=h
theorem j7 {K:Act->World->Prop} (h:K a w):Exit.then K Q .normal a w:=h
theorem iP {id:Nat} (h:Q .normal a w):Exit.inBlock id Q (.exit id) a w:=by simpa [Exit.inBlock] using h
theorem nK {id id':Nat} (F0:(id'==id)=false) (h:Q (.exit id') a w):Exit.inBlock id Q (.exit id') a w:=by
 have:id'≠id:=by simpa using F0
 simpa [Exit.inBlock,this] using h
theorem j9 {id:Nat} (h:Q .normal a w):Exit.inBlock id Q .normal a w:=h
theorem uZ {id:Nat} (h:Q .ret a w):Exit.inBlock id Q .ret a w:=h
theorem G1 {x y:Code} (I:Act->World->Prop) (h1:x.wp P (Exit.then I Q) a w) (h2:∀ a w,I a w->y.wp P Q a w):(Code.seq x y).wp P Q a w :=
 wp_seq (wp_mono h1 fun e a w h=>by cases e<;>first | exact h2 _ _ h | exact h)
theorem Yt {fn:Func} {R:Ending->World->Prop} (h:fn.results= #[]) (hf:Fr n a) (hR:R (.returned (.tuple #[])) w):bodyPost P fn R .ret a w :=
 bodyPost_ret (results_none h _ _ _) hf.defers hR
theorem mE {fn:Func} {R:Ending->World->Prop} (h:fn.results= #[]) (hf:Fr n a) (hR:R (.returned (.tuple #[])) w):bodyPost P fn R .normal a w :=
 bodyPost_end (results_none h _ _ _) hf.defers hR
theorem o6 {fn:Func} {R:Ending->World->Prop} {t:Nat} {v:Value} (h:fn.results= #[.tmp t]) (hf:Fr n a) (s:a.tmps[t]? =some v) (hR:R (.returned v) w):bodyPost P fn R .ret a w :=
 bodyPost_ret (results_tmp h _ _ _) hf.defers (by rw [aW s];exact hR)
theorem H6 {fn:Func} {R:Ending->World->Prop} {t u:Nat} {v x:Value} (h:fn.results= #[.tmp t,.tmp u]) (hf:Fr n a) (s:a.tmps[t]? =some v) (s':a.tmps[u]? =some x) (hR:R (.returned (.tuple #[v,x])) w):bodyPost P fn R .ret a w :=
 bodyPost_ret (results_tmp2 h _ _ _) hf.defers (by rw [aW s,aW s'];exact hR)
theorem fE {fn:Func} {R:Ending->World->Prop} {t u r:Nat} {v x y:Value} (h:fn.results= #[.tmp t,.tmp u,.tmp r]) (hf:Fr n a) (s:a.tmps[t]? =some v) (s':a.tmps[u]? =some x) (s'':a.tmps[r]? =some y) (hR:R (.returned (.tuple #[v,x,y])) w):bodyPost P fn R .ret a w:=by
 refine bodyPost_ret (v:= .tuple #[v,x,y]) ?_ hf.defers hR
 have h1:=aW s
 have h2:=aW s'
 have h3:=aW s''
 simp [results,h,s,s',s'']
theorem wrap_i64 {n:Int} (h1: -9223372036854775808<=n) (h2:n<=9223372036854775807):IntKind.i64.wrap n=n:=IntWalk.i64_in n ⟨h1,h2⟩
theorem wrap_u8 {n:Int} (h1:0<=n) (h2:n<=255):IntKind.u8.wrap n=n:=IntWalk.u8_in n ⟨h1,h2⟩
theorem wrap_u32 {n:Int} (h1:0<=n) (h2:n<=4294967295):IntKind.u32.wrap n=n:=IntWalk.u32_in n ⟨h1,h2⟩
theorem wrap_u64 {n:Int} (h1:0<=n) (h2:n<=18446744073709551615):IntKind.u64.wrap n=n:=by rw [IntKind.wrap_u64];omega
theorem G:(∀ {xs:Array Value} {i j:Nat} {v:Value},(xs.setIfInBounds i v)[j]? =if i=j then if i<xs.size then some v else none else xs[j]?)/\(∀ {xs:Array Value} {i:Nat} {v:Value},(xs.setIfInBounds i v).size=xs.size)/\(∀ {a:Act} {v:Value},a.put none v=a)/\∀ {a:Act} {d:Nat} {v:Value},a.put (some d) v=⟨a.tmps.setIfInBounds d v,a.defers⟩ :=
 ⟨Array.getElem?_setIfInBounds,Array.size_setIfInBounds,rfl,rfl⟩
structure L (P:Program) (ops:Array Oper) (Q:Exit->Act->World->Prop) (rest:List Oper) (a:Act) (w:World):Prop where
 out:wpList P ops Q rest a w
theorem region {id:Nat} {l:List Oper} (h:L P l.toArray Q l a w):(Code.region id l.toArray false).wp P Q a w:=wp_region_lit h.out
theorem nil {ops:Array Oper} (h:Q .normal a w):L P ops Q [] a w:=⟨wpList_nil h⟩
theorem nL {A:Act} {ops:Array Oper} {rest:List Oper} (hs:A.tmps.size=n) (hd:A.defers=ds) (h:∀ a:Act,K1 ds n a->(∀ t:Nat,a.tmps[t]? =A.tmps[t]?)->L P ops Q rest a w):L P ops Q rest A w:=h A ⟨hs,hd⟩ (fun _=>rfl)
theorem op_plain {ops:Array Oper} {rest:List Oper} {o:Oper} (hg:o.guard=none) (h:∀ K:Act->World->Prop,Hid (∀ a w,L P ops Q rest a w->K a w)->o.wp P a w K Q):L P ops Q (o::rest) a w :=
 ⟨wpList_plain hg fun K hK=>h K (Lib.hid fun a w hl=>hK a w hl.out)⟩
theorem op_guard {l:List Oper} {rest:List Oper} {o og:Oper} {g d:Nat} {b:Bool} (hg:o.guard=some (g,b)) (bV:l[g]? =some og) (hd:og.dst=some d) (hv:a.tmps[d]? =some (.bool b)) (h:∀ K:Act->World->Prop,Hid (∀ a w,L P l.toArray Q rest a w->K a w)->o.wp P a w K Q):L P l.toArray Q (o::rest) a w:=by
 refine ⟨wpList_step fun K hK=> ?_⟩
 rw [if_pos (by simp [Region.wanted,hg,yielded,bV,hd,hv])]
 exact h K (Lib.hid fun a w hl=>hK a w hl.out)
theorem op_skip {l:List Oper} {rest:List Oper} {o og:Oper} {g d:Nat} {b:Bool} (hg:o.guard=some (g,b)) (bV:l[g]? =some og) (hd:og.dst=some d) (hv:a.tmps[d]? =some (.bool (!b))) (h:L P l.toArray Q rest (a.put o.dst undef) w):L P l.toArray Q (o::rest) a w:=by
 refine ⟨?_⟩
 unfold wpList
 rw [if_neg (by cases b<;>simp [Region.wanted,hg,yielded,bV,hd,hv])]
 exact h.out
theorem op_skip' {l:List Oper} {rest:List Oper} {o og:Oper} {g d:Nat} {b:Bool} (hg:o.guard=some (g,b)) (bV:l[g]? =some og) (hd:og.dst=some d) (hv:a.tmps[d]? =some undef) (h:L P l.toArray Q rest (a.put o.dst undef) w):L P l.toArray Q (o::rest) a w:=by
 refine ⟨?_⟩
 unfold wpList
 rw [if_neg (by simp [Region.wanted,hg,yielded,bV,hd,hv,undef])]
 exact h.out
theorem p {ops:Array Oper} {rest:List Oper} {o:Oper} (hg:o.guard=none) (h:∀ K:Act->World->Prop,Hid (∀ a w,L P ops Q rest a w->K a w)->o.wp P a w K Q):L P ops Q (o::rest) a w:=op_plain hg h
theorem nx {K:Act->World->Prop} (h:K a w):Exit.then K Q .normal a w:=h
theorem q {A:Act} {e:Exit} (hf:K1 ds n a) (hs:A.tmps.size=a.tmps.size) (hd:A.defers=a.defers) (h:∀ a:Act,K1 ds n a->(∀ t:Nat,a.tmps[t]? =A.tmps[t]?)->Q e a w):Q e A w:=h A ⟨hs.trans hf.size,hd.trans hf.defers⟩ (fun _=>rfl)
end
end Fc
namespace Tl
open Sb (Pr Here Deps Got OkOps Dep isPath)
section
variable {P:Program} {Q:Exit->Act->World->Prop} {l:List Oper} {a0:Act} {w0:World} {ps:List Pr}
def anyG (St:Nat->(Act->World->Prop)->Act->World->Prop) (Qn:Act->World->Prop) (ops:Array Oper):Nat->Array Bool->Act->World->Prop
 | 0,listed,a,w=>Region.ready .any ops listed=[]/\Qn a w
 | fuel+1,listed,a,w=>(Region.ready .any ops listed=[]->Qn a w)/\∀ i∈Region.ready .any ops listed,St i (anyG St Qn ops fuel (listed.setIfInBounds i true)) a w
theorem any_eq {ops:Array Oper}:∀ fuel,anyG (wpOp P ops Q) (Q .normal) ops fuel=wpAny P .any ops Q fuel
 | 0=>rfl
 | fuel+1=>by funext listed a w;unfold anyG wpAny;rw [any_eq fuel]
def Mg (St:Nat->(Act->World->Prop)->Act->World->Prop) (Qn:Act->World->Prop):Nat->Nat->Act->World->Prop
 | 0,_,a,w=>Qn a w
 | n+1,k,a,w=>∀ K:Act->World->Prop,(∀ a' w',Mg St Qn n (k+1) a' w'->K a' w')->St k K a w
abbrev Seq (P:Program) (l:List Oper) (Q:Exit->Act->World->Prop):Nat->Nat->Act->World->Prop:=Mg (wpOp P l.toArray Q) (Q .normal)
variable {St:Nat->(Act->World->Prop)->Act->World->Prop} {Qn:Act->World->Prop}
def chain (l:List Oper) (m:Nat):Bool:=(List.range l.length).all fun k=>decide (k<m)||(match l[k]? with | some o=>(List.range k).all fun i=>o.after.any fun e=>Region.binds .any e&&e.on==i | none=>true)
def chain1 (l:List Oper) (m:Nat) (ws:List (Nat×Nat×List Nat)):Bool:=(List.range l.length).all fun k=>decide (k<m)||((List.range k).all fun i=>Sb.dep1 l k i||ws.any fun x=>x.1==k&&x.2.1==i&&isPath l k x.2.2 i)
theorem chain_dep {m:Nat} {ws:List (Nat×Nat×List Nat)} (h:chain1 l m ws=true) {k i:Nat} (hk:m<=k) (tW:k<l.length) (hi:i<k):Dep l.toArray k i:=by
 have h1:=List.all_eq_true.1 h k (by simpa using tW)
 simp only [Bool.or_eq_true,decide_eq_true_eq,List.all_eq_true,List.mem_range,List.any_eq_true,Bool.and_eq_true,beq_iff_eq] at h1
 rcases h1 with h1 | h1
 ·omega
 ·rcases h1 i hi with h2 | ⟨x,_,⟨h3,h4⟩,h5⟩
  ·exact ⟨[],Sb.near_of h2⟩
  ·exact Dep.of _ h5
theorem qK {m:Nat} (o9:∀ (k i:Nat),m<=k->k<l.length->i<k->Dep l.toArray k i) (a6:OkOps l.toArray a0.tmps.size) :
  ∀ (n j:Nat) (listed:Array Bool) (fuel:Nat) (a:Act) (w:World),n+j=l.length->m<=j->listed.size=l.length->listed.toList.countP (! ·)<=fuel ->
   (∀ i,i<l.length->(listed.getD i false=true ↔ i<j))->(∀ (i:Nat) (o:Oper),l[i]? =some o->listed.getD i false=true->∀ e∈o.after,Region.binds .any e=true->listed.getD e.on false=true) ->
   Mg St Qn n j a w->anyG St Qn l.toArray fuel listed a w
 | 0,j,listed,fuel,a,w,hn,hm,iN,hc,MG,R8,hs=>by
  have hr:Region.ready .any l.toArray listed=[]:=by
   rw [List.eq_nil_iff_forall_not_mem]
   intro i hi
   obtain ⟨h0,o,ho,_⟩:=mem_ready.1 hi
   have W8:i<l.length:=by have:=(Array.getElem?_eq_some_iff.1 ho).1;simpa using this
   have:=(MG i W8).2 (by omega)
   have C8:i<listed.size:=by omega
   have h1:listed[i]=false:=by simpa [C8] using h0
   simp [C8,h1] at this
  cases fuel with
  | zero=>exact ⟨hr,hs⟩
  | succ fuel=>exact ⟨fun _=>hs,(fun i hi=>by rw [hr] at hi;cases hi)⟩
 | n+1,j,listed,fuel,a,w,hn,hm,iN,hc,MG,R8,hs=>by
  have zW:j<l.length:=by omega
  have DS:j<listed.size:=by omega
  have hj0:listed[j]=false:=by
   cases hb:listed[j] with
   | false=>rfl
   | true=>have:=(MG j zW).1 (by simp [DS,hb]);omega
  have qJ:0<listed.toList.countP (! ·):=by
   rw [List.countP_pos_iff]
   exact ⟨listed[j],by simp,by simp [hj0]⟩
  have hjr:j∈Region.ready .any l.toArray listed:=by
   rw [mem_ready]
   refine ⟨by simp [DS,hj0],l[j],by simp [zW],fun e he hb=> ?_⟩
   have o9:=a6.back j l[j] (by simp [zW]) e he hb
   exact (MG e.on (by omega)).2 o9
  cases fuel with
  | zero=>omega
  | succ fuel =>
   refine ⟨(fun h=>by rw [h] at hjr;cases hjr),fun i hi=> ?_⟩
   obtain ⟨h0,o,ho,cV⟩:=mem_ready.1 hi
   have W8:i<l.length:=by have:=(Array.getElem?_eq_some_iff.1 ho).1;simpa using this
   have N3:i<listed.size:=by omega
   have fF:listed[i]=false:=by simpa [N3] using h0
   have hji:j<=i:=by
    rcases Nat.lt_or_ge i j with h1 | h1
    ·have:=(MG i W8).2 h1;simp [N3,fF] at this
    ·exact h1
   have gB:i=j:=by
    rcases Nat.lt_or_ge j i with h1 | h1
    ·have hd:=o9 i j (by omega) W8 h1
     obtain ⟨ks,hw⟩:=hd
     have hl:∀ (ks:List Nat) (i':Nat),Sb.Way l.toArray i' ks j->(listed.getD i' false=true\/i'=i)->listed.getD j false=true:=by
      intro ks
      induction ks with
      | nil =>
       intro i' hw' Yu
       obtain ⟨o',e,R2,he,hb,hj'⟩:=hw'
       rw [<- hj']
       rcases Yu with Yu | rfl
       ·exact R8 i' o' (by simpa using R2) Yu e he hb
       ·rw [ho] at R2;injection R2 with R2;subst R2;exact cV e he hb
      | cons x ks ih =>
       intro i' hw' Yu
       refine ih x hw'.2 (.inl ?_)
       obtain ⟨o',e,R2,he,hb,hj'⟩:=hw'.1
       rw [<- hj']
       rcases Yu with Yu | rfl
       ·exact R8 i' o' (by simpa using R2) Yu e he hb
       ·rw [ho] at R2;injection R2 with R2;subst R2;exact cV e he hb
     have:=hl ks i hw (.inr rfl)
     simp [DS,hj0] at this
    ·omega
   subst gB
   refine hs _ (fun a' w' qp=>qK o9 a6 n (i+1) (listed.setIfInBounds i true) fuel a' w' (by omega) (by omega) (by simpa using iN) ?_ (fun x hx=> ?_) (fun x ox hx hlx e he hb=> ?_) qp)
   ·have fB:(listed.setIfInBounds i true).toList=listed.toList.set i true:=by simp
    rw [fB,List.countP_set (by simpa using DS)]
    simp only [Array.getElem_toList,hj0,Bool.not_false,Bool.not_true,if_true,Bool.false_eq_true,if_false,Nat.add_zero]
    omega
   ·by_cases dK:i=x
    ·subst dK
     exact ⟨fun _=>Nat.lt_succ_self _,fun _=>by simp [DS]⟩
    ·rw [getD_set_ne false dK,MG x hx]
     omega
   ·by_cases dK:i=x
    ·subst dK
     have tX:l.toArray[i]? =some ox:=by simpa using hx
     rw [ho] at tX;injection tX with tX;subst tX
     exact getD_set_true (cV e he hb)
    ·rw [getD_set_ne false dK] at hlx
     exact getD_set_true (R8 x ox hx hlx e he hb)
theorem seq_any {m:Nat} (o9:∀ (k i:Nat),m<=k->k<l.length->i<k->Dep l.toArray k i) (a6:OkOps l.toArray a0.tmps.size) (n j:Nat) (listed:Array Bool) (fuel:Nat) (a:Act) (w:World) (h1:n+j=l.length) (h2:m<=j) (h3:listed.size=l.length) (h4:listed.toList.countP (! ·)<=fuel)
      (h5:∀ i,i<l.length->(listed.getD i false=true ↔ i<j)) (h6:∀ (i:Nat) (o:Oper),l[i]? =some o->listed.getD i false=true->∀ e∈o.after,Region.binds .any e=true->listed.getD e.on false=true)
      (h7:Seq P l Q n j a w):wpAny P .any l.toArray Q fuel listed a w:=by
  have h:=qK o9 a6 n j listed fuel a w h1 h2 h3 h4 h5 h6 h7
  rwa [any_eq] at h
theorem AP {m:Nat} (iQ:m<l.length) (o9:∀ (k i:Nat),m<=k->k<l.length->i<k->Dep l.toArray k i) (a6:OkOps l.toArray a0.tmps.size) (hlen:ps.length=m)
  (A8:∀ i,Sb.Stable (Sb.look ps i)) (hg:∀ i,i<m->∀ a w,Here l.toArray a0 w0 a w->Deps l.toArray a0 ps i a w->∀ K:Act->World->Prop,(∀ o:Oper,l.toArray[i]? =some o->∀ v w',Below w.heap.size w w'->Sb.look ps i v w'->K (a.put o.dst v) w')->St i K a w)
  (p7:∀ a w,Here l.toArray a0 w0 a w->(∀ i,i<m->Got l.toArray ps i a w)->Mg St Qn (l.length-m) m a w) :
  ∀ (fuel:Nat) (listed:Array Bool) (a:Act) (w:World),listed.size=l.length->listed.toList.countP (! ·)<=fuel->(∀ i,m<=i->listed.getD i false=false)->Sb.Inv l.toArray a0 w0 ps listed a w ->
   anyG St Qn l.toArray fuel listed a w:=by
 intro fuel
 induction fuel with
 | zero =>
  intro listed a w iN hc hm hI
  exfalso
  have qJ:0<listed.toList.countP (! ·):=by
   rw [List.countP_pos_iff]
   have:=hm m (Nat.le_refl _)
   have Dp:m<listed.size:=by omega
   refine ⟨listed[m],by simp,?_⟩
   simp [Dp] at this
   simp [this]
  omega
 | succ fuel ih =>
  intro listed a w iN hc hm hI
  have Dp:m<listed.size:=by omega
  have hm0:listed[m]=false:=by have:=hm m (Nat.le_refl _);simpa [Dp] using this
  -- if all ahead of m are listed
  by_cases J4:∀ i,i<m->listed.getD i false=true
  ·refine qK o9 a6 (l.length-m) m listed (fuel+1) a w (by omega) (Nat.le_refl _) iN hc (fun i hi=>⟨fun h=> ?_,J4 i⟩) (fun i o hi=>hI.closed i o (by simpa using hi)) (p7 a w hI.here fun i hi=>hI.AM i (by simp;omega) (J4 i hi))
   rcases Nat.lt_or_ge i m with h1 | h1
   ·exact h1
   ·rw [hm i h1] at h;cases h
  refine ⟨fun hr=> ?_,fun i hi=> ?_⟩
  ·exfalso
   refine J4 (fun i=> ?_)
   induction i using Nat.strongRecOn with
   | _ i ihi =>
    intro Mh
    cases hl:listed.getD i false with
    | true=>rfl
    | false =>
     exfalso
     have N3:i<listed.size:=by omega
     have W8:i<l.length:=by omega
     have Z5:i∈Region.ready .any l.toArray listed:=by
      rw [mem_ready]
      refine ⟨by simpa [N3] using hl,l[i],by simp [W8],fun e he hb=> ?_⟩
      have o9:=a6.back i l[i] (by simp [W8]) e he hb
      exact ihi e.on o9 (by omega)
     rw [hr] at Z5
     cases Z5
  ·obtain ⟨h0,o,ho,cV⟩:=mem_ready.1 hi
   have W8:i<l.length:=by have:=(Array.getElem?_eq_some_iff.1 ho).1;simpa using this
   have qL:i<listed.size:=by omega
   have h0':listed[i]=false:=by simpa [qL] using h0
   have Mh:i<m:=by
    rcases Nat.lt_or_ge i m with h1 | h1
    ·exact h1
    ·exfalso
     exact J4 fun x hx=>Sb.C1 hI (o9 i x h1 W8 (by omega)) (.inr hi)
   refine hg i Mh a w hI.here ⟨fun j hj hjp=> ?_,fun t ht=> ?_⟩ _ (fun o' R2 v w' hb hp=> ?_)
   ·exact hI.AM j (by simp;omega) (Sb.C1 hI hj (.inr hi))
   ·refine hI.iM t fun j oj hj hd=> ?_
    have h9:listed.getD i false=false:=by simp [qL,h0']
    rcases ht j oj hj hd with rfl | xG
    ·exact h9
    ·cases hl:listed.getD j false with
     | false=>rfl
     | true=>rw [Sb.C1 hI xG (.inl hl)] at h9;cases h9
   ·rw [ho] at R2
    injection R2 with R2
    subst R2
    refine ih _ _ _ (by simp [iN]) ?_ (fun x hx=>by rw [getD_set_ne false (by omega)];exact hm x hx) ⟨⟨hI.here.ext.trans (hb.mono hI.here.ext.size),(Sb.put_defers ..).trans hI.here.defers,(Sb.put_size ..).trans hI.here.size,fun t ht=>(Sb.put_get_ne _ _ _ _ (ht i o ho)).trans (hI.here.Dj t ht)⟩,?_,?_,?_⟩
    ·have fB:(listed.setIfInBounds i true).toList=listed.toList.set i true:=by simp
     have qJ:0<listed.toList.countP (! ·):=by
      rw [List.countP_pos_iff]
      exact ⟨listed[i],by simp,by simp [h0']⟩
     rw [fB,List.countP_set (by simpa using qL)]
     simp only [Array.getElem_toList,h0',Bool.not_false,Bool.not_true,if_true,Bool.false_eq_true,if_false,Nat.add_zero]
     omega
    ·intro k ok hk hl e he hb
     by_cases aN:i=k
     ·subst aN
      rw [ho] at hk
      injection hk with hk
      subst hk
      exact getD_set_true (cV e he hb)
     ·rw [getD_set_ne false aN] at hl
      exact getD_set_true (hI.closed k ok hk hl e he hb)
    ·intro k hk hl
     by_cases aN:i=k
     ·subst aN
      refine ⟨v,fun tV d X1 hd=> ?_,hp⟩
      rw [ho] at X1
      injection X1 with X1
      subst X1
      rw [hd]
      exact Sb.put_get _ _ _ (by rw [hI.here.size];exact a6.room i o d ho hd)
     ·rw [getD_set_ne false aN] at hl
      obtain ⟨v',GN,oX⟩:=hI.AM k hk hl
      refine ⟨v',fun tV d X1 hd=> ?_,A8 k _ _ _ hb oX⟩
      rw [Sb.put_get_ne _ _ _ _ (fun he=>aN (a6.apart i k o tV d ho X1 he hd))]
      exact GN tV d X1 hd
    ·intro t ht
     refine (Sb.put_get_ne _ _ _ _ (fun he=> ?_)).trans (hI.iM t fun j oj hj hd=> ?_)
     ·have h9:=ht i o ho he
      simp [qL] at h9
     ·have h9:=ht j oj hj hd
      by_cases gB:i=j
      ·subst gB;simp [qL] at h9
      ·rwa [getD_set_ne false gB] at h9
structure TL (P:Program) (l:List Oper) (Q:Exit->Act->World->Prop) (k:Nat) (a:Act) (w:World):Prop where
 out:Seq P l Q (l.length-k) k a w
theorem G5 {id n m:Nat} {ws:List (Nat×Nat×List Nat)} (hm:P.follows .mixedOrders=true) (hn:a0.tmps.size=n) (a6:OkOps l.toArray n) (hlen:ps.length=m) (iQ:Nat.blt m l.length=true) (JM:chain1 l m ws=true)
  (p7:∀ a w,Here l.toArray a0 w0 a w->Hid (∀ i,i<m->Got l.toArray ps i a w)->TL P l Q m a w):(Sb.fC P id l.toArray Q a0 w0 ps):=by
 subst hn
 refine ⟨fun hg=> ?_⟩
 refine ⟨hm,?_⟩
 rw [<- any_eq]
 refine AP (Nat.le_of_ble_eq_true iQ) (fun k i h1 h2 h3=>chain_dep JM h1 h2 h3) a6 hlen hg.1 (fun i hi=>hg.2 i (by omega)) (fun a w hh cW=>(p7 a w hh cW).out) _ _ _ _ (by simp) ?_ (fun i hi=> ?_) ?_
 ·exact Nat.le_trans List.countP_le_length (by simp)
 ·by_cases h:i<l.length
  ·simp [h]
  ·simp [h]
 ·refine ⟨⟨⟨rfl,rfl,rfl,Nat.le_refl _,fun _ _=>rfl⟩,rfl,rfl,fun _ _=>rfl⟩,fun i o ho hl=> ?_,fun i hi hl=> ?_,fun _ _=>rfl⟩
  ·have hi:=(Array.getElem?_eq_some_iff.1 ho).1
   simp at hi
   simp [hi] at hl
  ·simp at hi
   simp [hi] at hl
theorem gD {j m d k:Nat} {p:Pr} {o:Oper} {a:Act} {w:World} (hg:Hid (∀ i,i<k->Got l.toArray ps i a w)) (hk:ps.length=k) (hm:j+m+1=k)
  (hp:ps[m]? =some p) (ho:l[j]? =some o) (E0:o.dst=some d):∃ v,a.tmps[d]? =some v/\p v w:=by
 obtain ⟨v,hv,hl⟩:=hg.out j (by omega)
 refine ⟨v,hv o d (by simpa using ho) E0,?_⟩
 have:Sb.look ps j=p:=Sb.look_rev ps j p (by rw [List.getElem?_reverse (by omega)];rw [<- hp];congr 1;omega)
 rwa [this] at hl
theorem z7 (j m:Nat) {d k:Nat} {V:Value} {o:Oper} {a:Act} {w:World} (hg:Hid (∀ i,i<k->Got l.toArray ps i a w)) (hk:ps.length=k) (hm:j+m+1=k)
  (hp:ps[m]? =some (Sb.Is V)) (ho:l[j]? =some o) (E0:o.dst=some d):a.tmps[d]? =some V:=by
 obtain ⟨v,hv,hl⟩:=gD hg hk hm hp ho E0
 rw [hv,show v=V from hl]
theorem Dj {m t:Nat} {x:Value} {a:Act} {w:World} (hg:Hid (∀ i,i<m->Got l.toArray ps i a w)) (hh:Here l.toArray a0 w0 a w) (hn:Sb.noDst l t=true) (hx:a0.tmps[t]? =some x):a.tmps[t]? =some x:=Sb.cJ hh hn hx
theorem J5 {k:Nat} {o:Oper} {a:Act} {w:World} (ho:l[k]? =some o) (hg:o.guard=none) (h:∀ K:Act->World->Prop,Hid (∀ a w,TL P l Q (k+1) a w->K a w)->o.wp P a w K Q):TL P l Q k a w:=by
 have tW:=(H2 ho).1
 refine ⟨?_⟩
 obtain ⟨n,hn⟩:∃ n,l.length-k=n+1:=⟨l.length-k-1,by omega⟩
 rw [hn]
 intro K hK
 exact Sb.op_plain (o:=o) ho hg (h K (Lib.hid fun a w ht=>hK a w (by have:=ht.out;rwa [show l.length-(k+1)=n by omega] at this)))
theorem L8 {k:Nat} {a:Act} {w:World} (hk:l.length=k) (h:Q .normal a w):TL P l Q k a w:=⟨by rw [hk,Nat.sub_self];exact h⟩
end
end Tl
open Sb (Pr Stable Is Any look look_cons_lt look_cons_eq look_ge look_rev Near Way Dep OkOps put_size put_defers put_get_ne put_get dep1 isPath near_of way_of noDst onlyDst op_plain op_guard op_skip op_skip')
structure n4 (S:Nat->Prop) (w w':World):Prop where
 os:w'.os=w.os
 tape:w'.tape=w.tape
 output:w'.output=w.output
 size:w.heap.size<=w'.heap.size
 block:∀ k,k<w.heap.size->¬ S k->w'.heap[k]? =w.heap[k]?
theorem n4.refl (S:Nat->Prop) (w:World):n4 S w w:=⟨rfl,rfl,rfl,Nat.le_refl _,fun _ _ _=>rfl⟩
theorem n4.trans {S:Nat->Prop} {a b c:World} (h:n4 S a b) (k:n4 S b c):n4 S a c :=
 ⟨k.os.trans h.os,k.tape.trans h.tape,k.output.trans h.output,Nat.le_trans h.size k.size,fun i hi hn=>(k.block i (Nat.lt_of_lt_of_le hi h.size) hn).trans (h.block i hi hn)⟩
theorem n4.of {w w':World} (S:Nat->Prop) (h:Below w.heap.size w w'):n4 S w w':=⟨h.os,h.tape,h.output,h.size,fun k hk _=>h.block k hk⟩
theorem n4.mono {S T:Nat->Prop} {w w':World} (h:n4 S w w') (A8:∀ k,k<w.heap.size->S k->T k):n4 T w w':=⟨h.os,h.tape,h.output,h.size,fun k hk hn=>h.block k hk (fun hs=>hn (A8 k hk hs))⟩
namespace Sm
def Wl (p:Pr):Prop:=∀ v w w',p v w->p v w'
theorem Wl.is (V:Value):Wl (Is V):=fun _ _ _ h=>h
section
variable (P:Program) (ops:Array Oper) (Q:Exit->Act->World->Prop) (a0:Act) (w0:World) (S:Nat->Nat->Prop) (es:List Nat)
def Got (ps:List Pr) (C:Prop) (i:Nat) (a:Act) (w:World):Prop:=∃ v,(∀ (o:Oper) (d:Nat),ops[i]? =some o->o.dst=some d->a.tmps[d]? =some v)/\(C\/Wl (Sb.look ps i)->Sb.look ps i v w)
structure Here (C:Prop) (Bt:(Nat->Prop)->Prop) (a:Act) (w:World):Prop where
 ext:C->Below w0.heap.size w0 w
 but:∀ T:Nat->Prop,Bt T->n4 T w0 w
 defers:a.defers=a0.defers
 size:a.tmps.size=a0.tmps.size
 Dj:∀ t:Nat,(∀ (i:Nat) (o:Oper),ops[i]? =some o->o.dst≠some t)->a.tmps[t]? =a0.tmps[t]?
def Pure (k:Nat):Prop:=∀ m,m∈es->m=k\/Dep ops m k
def aK (k:Nat) (T:Nat->Prop):Prop:=∀ m,m∈es->m=k\/Dep ops m k\/∀ b,S m b->T b
def Safe (k j:Nat):Prop:=∀ m,m∈es->m=k\/m=j\/Dep ops m k\/Dep ops j m
def dQ (j:Nat):Prop:=∀ m,m∈es->m=j\/Dep ops j m
def Deps (ps:List Pr) (i:Nat) (a:Act) (w:World):Prop :=
 (∀ j,Dep ops i j->j<ps.length->Got ops ps (Safe ops es i j) j a w)/\∀ t:Nat,(∀ (j:Nat) (o:Oper),ops[j]? =some o->o.dst=some t->j=i\/Dep ops j i)->a.tmps[t]? =a0.tmps[t]?
def Step (ps:List Pr) (i:Nat) (p:Pr):Prop :=
 ∀ a w,Here ops a0 w0 (Pure ops es i) (aK ops S es i) a w->Deps ops a0 es ps i a w->∀ K:Act->World->Prop,
  (∀ o:Oper,ops[i]? =some o->∀ v w',(i∉es->Below w.heap.size w w')->(i∈es->n4 (S i) w w')->p v w'->K (a.put o.dst v) w')->wpOp P ops Q i K a w
def Good (ps:List Pr):Prop:=(∀ i,Stable (Sb.look ps i))/\∀ i,i<ps.length->Step P ops Q a0 w0 S es ps i (Sb.look ps i)
end
section
variable {P:Program} {ops:Array Oper} {Q:Exit->Act->World->Prop} {a0:Act} {w0:World} {S:Nat->Nat->Prop} {es:List Nat} {ps:List Pr}
structure Inv (ops:Array Oper) (a0:Act) (w0:World) (S:Nat->Nat->Prop) (es:List Nat) (ps:List Pr) (listed:Array Bool) (a:Act) (w:World):Prop where
 here:Here ops a0 w0 (∀ m,m∈es->listed.getD m false=false) (fun T=>∀ m,m∈es->listed.getD m false=false\/∀ b,S m b->T b) a w
 closed:∀ (i:Nat) (o:Oper),ops[i]? =some o->listed.getD i false=true->∀ e∈o.after,Region.binds .any e=true->listed.getD e.on false=true
 AM:∀ i,i<ops.size->listed.getD i false=true->Got ops ps (∀ m,m∈es->listed.getD m false=true->m=i\/Dep ops i m) i a w
 iM:∀ t:Nat,(∀ (j:Nat) (o:Oper),ops[j]? =some o->o.dst=some t->listed.getD j false=false)->a.tmps[t]? =a0.tmps[t]?
theorem L6 {listed:Array Bool} {a:Act} {w:World} (h:Inv ops a0 w0 S es ps listed a w) {i j:Nat} (hd:Near ops i j)
  (hl:listed.getD i false=true\/i∈Region.ready .any ops listed):listed.getD j false=true:=by
 obtain ⟨o,e,hi,he,hb,hj⟩:=hd
 rw [<- hj]
 rcases hl with hl | hl
 ·exact h.closed _ _ hi hl e he hb
 ·obtain ⟨_,o',R2,J4⟩:=mem_ready.1 hl
  rw [hi] at R2
  injection R2 with R2
  subst R2
  exact J4 e he hb
theorem C1 {listed:Array Bool} {a:Act} {w:World} (h:Inv ops a0 w0 S es ps listed a w) {i j:Nat} (hd:Dep ops i j)
  (hl:listed.getD i false=true\/i∈Region.ready .any ops listed):listed.getD j false=true:=by
 obtain ⟨ks,hw⟩:=hd
 induction ks generalizing i with
 | nil=>exact L6 h hw hl
 | cons k ks ih=>exact ih (.inl (L6 h hw.1 hl)) hw.2
theorem jX (a6:OkOps ops a0.tmps.size) (hlen:ps.length=ops.size) (hg:Good P ops Q a0 w0 S es ps)
  (p7:∀ a w,Here ops a0 w0 (∀ m,m∈es->False) (fun T=>∀ m,m∈es->∀ b,S m b->T b) a w->(∀ i,i<ops.size->Got ops ps (dQ ops es i) i a w)->Q .normal a w) :
  ∀ (fuel:Nat) (listed:Array Bool) (a:Act) (w:World),listed.size=ops.size->(listed.toList.countP (! ·))<=fuel->Inv ops a0 w0 S es ps listed a w ->
   wpAny P .any ops Q fuel listed a w:=by
 have J4:∀ (listed:Array Bool) (a:Act) (w:World),listed.size=ops.size->Inv ops a0 w0 S es ps listed a w->Region.ready .any ops listed=[]->Q .normal a w:=by
  intro listed a w iN hI hr
  have jY:∀ n i,i<n->i<ops.size->listed.getD i false=true:=by
   intro n
   induction n with
   | zero=>intro i h;omega
   | succ n ih =>
    intro i hi N3
    by_cases D7:i<n
    ·exact ih i D7 N3
    ·have Me:i=n:=by omega
     subst Me
     cases hl:listed.getD i false with
     | true=>rfl
     | false =>
      exfalso
      have Z5:i∈Region.ready .any ops listed:=by
       rw [mem_ready]
       have o9:i<listed.size:=by omega
       refine ⟨by simpa [o9] using hl,ops[i],Array.getElem?_eq_getElem N3,fun e he hb=> ?_⟩
       have o9:=a6.back i ops[i] (Array.getElem?_eq_getElem N3) e he hb
       exact ih e.on o9 (by omega)
      rw [hr] at Z5
      cases Z5
  refine p7 a w ⟨fun h=>hI.here.ext (fun m hm=>(h m hm).elim),(fun T hT=>hI.here.but T (fun m hm=> .inr (hT m hm))),hI.here.defers,hI.here.size,hI.here.Dj⟩ fun i hi=> ?_
  obtain ⟨v,h1,h2⟩:=hI.AM i hi (jY (i+1) i (by omega) hi)
  exact ⟨v,h1,fun h=>h2 (h.imp (fun hl m hm _=>hl m hm) id)⟩
 intro fuel
 induction fuel with
 | zero =>
  intro listed a w iN hc hI
  have hr:Region.ready .any ops listed=[]:=by
   rw [List.eq_nil_iff_forall_not_mem]
   intro i hi
   obtain ⟨h0,o,ho,_⟩:=mem_ready.1 hi
   have o9:i<listed.size:=by have:=(Array.getElem?_eq_some_iff.1 ho).1;omega
   have qJ:0<listed.toList.countP (! ·):=by
    rw [List.countP_pos_iff]
    refine ⟨listed[i],by simp,?_⟩
    simp [o9] at h0
    simp [h0]
   omega
  exact ⟨hr,J4 listed a w iN hI hr⟩
 | succ fuel ih =>
  intro listed a w iN hc hI
  refine ⟨J4 listed a w iN hI,fun i hi=> ?_⟩
  obtain ⟨h0,o,ho,cV⟩:=mem_ready.1 hi
  have N3:i<ops.size:=(Array.getElem?_eq_some_iff.1 ho).1
  have o9:i<listed.size:=by omega
  have h0':listed[i]=false:=by simpa [o9] using h0
  have xK:listed.getD i false=false:=by simp [o9,h0']
  have dR:∀ m,Dep ops m i->listed.getD m false=false:=fun m hm=>by
   cases hl:listed.getD m false with
   | false=>rfl
   | true=>rw [C1 hI hm (.inl hl)] at xK;cases xK
  refine hg.2 i (by omega) a w ⟨fun h=>hI.here.ext (fun m hm=>by
   rcases h m hm with rfl | h3
   ·exact xK
   ·exact dR m h3),(fun T hT=>hI.here.but T (fun m hm=>by
   rcases hT m hm with rfl | h3 | h3
   ·exact .inl xK
   ·exact .inl (dR m h3)
   ·exact .inr h3)),hI.here.defers,hI.here.size,hI.here.Dj⟩ ⟨fun j hj hjp=> ?_,fun t ht=> ?_⟩ _ (fun o' R2 v w' hb l6 hp=> ?_)
  ·obtain ⟨v,h1,h2⟩:=hI.AM j (by omega) (C1 hI hj (.inr hi))
   refine ⟨v,h1,fun h=>h2 (h.imp (fun hs m hm iQ=> ?_) id)⟩
   rcases hs m hm with rfl | h3 | h3 | h3
   ·rw [xK] at iQ;cases iQ
   ·exact .inl h3
   ·rw [dR m h3] at iQ;cases iQ
   ·exact .inr h3
  ·refine hI.iM t fun j oj hj hd=> ?_
   have h9:listed.getD i false=false:=by simp [o9,h0']
   rcases ht j oj hj hd with rfl | xG
   ·exact h9
   ·cases hl:listed.getD j false with
    | false=>rfl
    | true=>rw [C1 hI xG (.inl hl)] at h9;cases h9
  ·rw [ho] at R2
   injection R2 with R2
   subst R2
   refine ih _ _ _ (by simp [iN]) ?_ ⟨⟨fun h=> ?_,fun T hT=> ?_,(put_defers ..).trans hI.here.defers,(put_size ..).trans hI.here.size,fun t ht=>(put_get_ne _ _ _ _ (ht i o ho)).trans (hI.here.Dj t ht)⟩,?_,?_,?_⟩
   ·have fB:(listed.setIfInBounds i true).toList=listed.toList.set i true:=by simp
    rw [fB,List.countP_set (by simpa using o9)]
    simp [h0']
    have:0<listed.toList.countP (! ·):=by
     rw [List.countP_pos_iff]
     exact ⟨listed[i],by simp,by simp [h0']⟩
    simp only [Array.countP_toList] at this hc
    omega
   ·have C3:i∉es:=fun C3=>by
     have:=h i C3
     simp [o9] at this
    have hx:=hI.here.ext (fun m hm=>by
     have:=h m hm
     rwa [getD_set_ne false (fun e=>C3 (by rw [e];exact hm))] at this)
    exact hx.trans ((hb C3).mono hx.size)
   ·have h1:=hI.here.but T (fun m hm=>by
     rcases hT m hm with h3 | h3
     ·refine .inl ?_
      by_cases Mh:i=m
      ·subst Mh;exact xK
      ·rwa [getD_set_ne false Mh] at h3
     ·exact .inr h3)
    refine h1.trans ?_
    by_cases C3:i∈es
    ·rcases hT i C3 with h3 | h3
     ·simp [o9] at h3
     ·exact (l6 C3).mono (fun k _ hs=>h3 k hs)
    ·exact n4.of T (hb C3)
   ·intro k ok hk hl e he hb
    by_cases aN:i=k
    ·subst aN
     rw [ho] at hk
     injection hk with hk
     subst hk
     exact getD_set_true (cV e he hb)
    ·rw [getD_set_ne false aN] at hl
     exact getD_set_true (hI.closed k ok hk hl e he hb)
   ·intro k hk hl
    by_cases aN:i=k
    ·subst aN
     refine ⟨v,fun tV d X1 hd=> ?_,fun _=>hp⟩
     rw [ho] at X1
     injection X1 with X1
     subst X1
     rw [hd]
     exact put_get _ _ _ (by rw [hI.here.size];exact a6.room i o d ho hd)
    ·rw [getD_set_ne false aN] at hl
     obtain ⟨v',GN,oX⟩:=hI.AM k hk hl
     refine ⟨v',fun tV d X1 hd=> ?_,fun hc=> ?_⟩
     rotate_left
     ·by_cases C3:i∈es
      ·rcases hc with hc | hc
       ·rcases hc i C3 (by simp [o9]) with h3 | h3
        ·exact absurd h3 aN
        ·rw [C1 hI h3 (.inl hl)] at xK;cases xK
       ·exact hc _ _ _ (oX (.inr hc))
      ·refine hg.1 k _ _ _ (hb C3) (oX (hc.imp (fun hc m hm iQ=>hc m hm ?_) id))
       rw [getD_set_ne false (fun e=>C3 (by rw [e];exact hm))]
       exact iQ
     rw [put_get_ne _ _ _ _ (fun he=>aN (a6.apart i k o tV d ho X1 he hd))]
     exact GN tV d X1 hd
   ·intro t ht
    refine (put_get_ne _ _ _ _ (fun he=> ?_)).trans (hI.iM t fun j oj hj hd=> ?_)
    ·have h9:=ht i o ho he
     simp [o9] at h9
    ·have h9:=ht j oj hj hd
     by_cases gB:i=j
     ·subst gB;simp [o9] at h9
     ·rwa [getD_set_ne false gB] at h9
def D3 (P:Program) (id:Nat) (ops:Array Oper) (Q:Exit->Act->World->Prop) (a0:Act) (w0:World) (S:Nat->Nat->Prop) (es:List Nat) (ps:List Pr):Prop :=
 Good P ops Q a0 w0 S es ps->(Code.region id ops true).wp P Q a0 w0
theorem E4 {id n:Nat} {l:List Oper} (S:Nat->Nat->Prop) (es:List Nat) (a6:OkOps l.toArray n) (h:Hid (OkOps l.toArray n)->D3 P id l.toArray Q a0 w0 S es []):(Code.region id l.toArray true).wp P Q a0 w0 :=
 h (Lib.hid a6) ⟨fun i=>Stable.any,fun i hi=>absurd hi (by simp)⟩
theorem Y0 {id:Nat} (p:Pr) (hs:Stable p) (h:Step P ops Q a0 w0 S es ps ps.length p) (rest:D3 P id ops Q a0 w0 S es (p::ps)) (a6:OkOps ops a0.tmps.size):D3 P id ops Q a0 w0 S es ps:=by
 intro hg
 refine rest ⟨fun i=> ?_,fun i hi a w hh hd=> ?_⟩
 ·by_cases he:i=ps.length
  ·subst he;rw [look_cons_eq];exact hs
  ·have:Sb.look (p::ps) i=Sb.look ps i:=by simp [Sb.look,he]
   rw [this];exact hg.1 i
 ·have cW:Deps ops a0 es ps i a w:=⟨fun j hj zW=>by
   obtain ⟨v,hv,hp⟩:=hd.1 j hj (by simp;omega)
   rw [look_cons_lt zW] at hp
   exact ⟨v,hv,hp⟩,hd.2⟩
  by_cases he:i=ps.length
  ·subst he
   rw [look_cons_eq]
   exact h a w hh cW
  ·have o9:i<ps.length:=by simp at hi;omega
   rw [look_cons_lt o9]
   exact hg.2 i o9 a w hh cW
theorem E1 {id k n:Nat} {l:List Oper} (p:Pr) (hn:a0.tmps.size=n) (a6:OkOps l.toArray n) (hk:ps.length=k) (hs:Stable p) (hm:es.contains k=false)
  (h:∀ a w,Here l.toArray a0 w0 (Pure l.toArray es k) (aK l.toArray S es k) a w->Hid (Deps l.toArray a0 es ps k a w)->ps.length=k->∀ K:Act->World->Prop,
   Hid (∀ o:Oper,l[k]? =some o->∀ v w',Below w.heap.size w w'->p v w'->K (a.put o.dst v) w')->wpOp P l.toArray Q k K a w)
  (rest:D3 P id l.toArray Q a0 w0 S es (p::ps)):D3 P id l.toArray Q a0 w0 S es ps:=by
 subst hn
 refine Y0 p hs ?_ rest a6
 rw [hk]
 intro a w hh hd K hK
 exact h a w hh hd hk K (fun o ho v w' hb=>hK o (by simpa using ho) v w' (fun _=>hb) (fun hi=>absurd hi (by simpa using hm)))
theorem E6 {id k n:Nat} {l:List Oper} (p:Pr) (hn:a0.tmps.size=n) (a6:OkOps l.toArray n) (hk:ps.length=k) (hs:Stable p) (hm:es.contains k=true)
  (h:∀ a w,Here l.toArray a0 w0 (Pure l.toArray es k) (aK l.toArray S es k) a w->Hid (Deps l.toArray a0 es ps k a w)->ps.length=k->∀ K:Act->World->Prop,
   Hid (∀ o:Oper,l[k]? =some o->∀ v w',n4 (S k) w w'->p v w'->K (a.put o.dst v) w')->wpOp P l.toArray Q k K a w)
  (rest:D3 P id l.toArray Q a0 w0 S es (p::ps)):D3 P id l.toArray Q a0 w0 S es ps:=by
 subst hn
 refine Y0 p hs ?_ rest a6
 rw [hk]
 intro a w hh hd K hK
 exact h a w hh hd hk K (fun o ho v w' l6=>hK o (by simpa using ho) v w' (fun hn=>absurd (by simpa using hm) hn) (fun _=>l6))
theorem P6 {id k n:Nat} {l:List Oper} (V:Value) (hn:a0.tmps.size=n) (a6:OkOps l.toArray n) (hk:ps.length=k) (hm:es.contains k=false)
  (h:∀ a w,Here l.toArray a0 w0 (Pure l.toArray es k) (aK l.toArray S es k) a w->Hid (Deps l.toArray a0 es ps k a w)->ps.length=k->∀ K:Act->World->Prop,
   Hid (∀ o:Oper,l[k]? =some o->∀ v w',Below w.heap.size w w'->v=V->K (a.put o.dst v) w')->wpOp P l.toArray Q k K a w)
  (rest:D3 P id l.toArray Q a0 w0 S es (Is V::ps)):D3 P id l.toArray Q a0 w0 S es ps :=
 E1 (Is V) hn a6 hk (Stable.is V) hm h rest
def gE (l:List Oper) (es:List Nat) (k j:Nat) (ws:List (Nat×Bool×List Nat)):Bool :=
 es.all fun m=>m==k||m==j||ws.any fun x=>x.1==m&&if x.2.1 then isPath l m x.2.2 k else isPath l j x.2.2 m
theorem Safe.of {l:List Oper} {k j:Nat} (ws:List (Nat×Bool×List Nat)) (h:gE l es k j ws=true):Safe l.toArray es k j:=by
 intro m hm
 have h1:=List.all_eq_true.1 h m hm
 simp only [Bool.or_eq_true,beq_iff_eq,List.any_eq_true,Bool.and_eq_true] at h1
 rcases h1 with (h1 | h1) | ⟨x,_,h2,h3⟩
 ·exact .inl h1
 ·exact .inr (.inl h1)
 ·by_cases hx:x.2.1=true
  ·rw [if_pos hx] at h3
   exact .inr (.inr (.inl (Dep.of _ h3)))
  ·rw [if_neg hx] at h3
   exact .inr (.inr (.inr (Dep.of _ h3)))
def xL (l:List Oper) (es:List Nat) (k:Nat) (ws:List (Nat×List Nat)):Bool:=es.all fun m=>m==k||ws.any fun x=>x.1==m&&isPath l m x.2 k
theorem r5 {l:List Oper} {k:Nat} {a:Act} {w:World} (hh:Here l.toArray a0 w0 (Pure l.toArray es k) (aK l.toArray S es k) a w) (ws:List (Nat×List Nat)) (h:xL l es k ws=true):Below w0.heap.size w0 w:=by
 refine hh.ext fun m hm=> ?_
 have h1:=List.all_eq_true.1 h m hm
 simp only [Bool.or_eq_true,beq_iff_eq,List.any_eq_true,Bool.and_eq_true] at h1
 rcases h1 with h1 | ⟨x,_,_,h3⟩
 ·exact .inl h1
 ·exact .inr (Dep.of _ h3)
def Yv (l:List Oper) (es:List Nat) (k:Nat) (TD:List Nat) (ws:List (Nat×List Nat)):Bool:=es.all fun m=>m==k||TD.contains m||ws.any fun x=>x.1==m&&isPath l m x.2 k
theorem l9 {l:List Oper} {k:Nat} {a:Act} {w:World} (hh:Here l.toArray a0 w0 (Pure l.toArray es k) (aK l.toArray S es k) a w) (TD:List Nat) (ws:List (Nat×List Nat)) (h:Yv l es k TD ws=true) (T:Nat->Prop) (hT:∀ m,m∈TD->∀ b,S m b->T b):n4 T w0 w:=by
 refine hh.but T fun m hm=> ?_
 have h1:=List.all_eq_true.1 h m hm
 simp only [Bool.or_eq_true,beq_iff_eq,List.any_eq_true,Bool.and_eq_true] at h1
 rcases h1 with (h1 | h1) | ⟨x,_,_,h3⟩
 ·exact .inl h1
 ·exact .inr (.inr (hT m (by simpa using h1)))
 ·exact .inr (.inl (Dep.of _ h3))
def dS (l:List Oper) (es:List Nat) (j:Nat) (ws:List (Nat×List Nat)):Bool:=es.all fun m=>m==j||ws.any fun x=>x.1==m&&isPath l j x.2 m
theorem dQ.of {l:List Oper} {j:Nat} (ws:List (Nat×List Nat)) (h:dS l es j ws=true):dQ l.toArray es j:=by
 intro m hm
 have h1:=List.all_eq_true.1 h m hm
 simp only [Bool.or_eq_true,beq_iff_eq,List.any_eq_true,Bool.and_eq_true] at h1
 rcases h1 with h1 | ⟨x,_,h2,h3⟩
 ·exact .inl h1
 ·exact .inr (Dep.of _ h3)
theorem use {l:List Oper} {k j m d:Nat} {p:Pr} {o:Oper} {a:Act} {w:World} (hd:Hid (Deps l.toArray a0 es ps k a w)) (hk:ps.length=k) (hm:j+m+1=k)
  (ks:List Nat) (Y1:isPath l k ks j=true) (ws:List (Nat×Bool×List Nat)) (DT:gE l es k j ws=true) (hp:ps[m]? =some p) (ho:l[j]? =some o) (E0:o.dst=some d):∃ v,a.tmps[d]? =some v/\p v w:=by
 obtain ⟨v,hv,hl⟩:=hd.out.1 j (Dep.of ks Y1) (by omega)
 refine ⟨v,hv o d (by simpa using ho) E0,?_⟩
 have o9:=(H2 hp).1
 have:Sb.look ps j=p:=look_rev ps j p (by rw [List.getElem?_reverse (by omega)];rw [<- hp];congr 1;omega)
 rw [this] at hl
 exact hl (.inl (Safe.of ws DT))
theorem fD {l:List Oper} {k j m d:Nat} {V:Value} {o:Oper} {a:Act} {w:World} (hd:Hid (Deps l.toArray a0 es ps k a w)) (hk:ps.length=k) (hm:j+m+1=k)
  (ks:List Nat) (Y1:isPath l k ks j=true) (hp:ps[m]? =some (Is V)) (ho:l[j]? =some o) (E0:o.dst=some d):a.tmps[d]? =some V:=by
 obtain ⟨v,hv,hl⟩:=hd.out.1 j (Dep.of ks Y1) (by omega)
 have o9:=(H2 hp).1
 have:Sb.look ps j=Is V:=look_rev ps j _ (by rw [List.getElem?_reverse (by omega)];rw [<- hp];congr 1;omega)
 rw [this] at hl
 rw [hv o d (by simpa using ho) E0,show v=V from hl (.inr (Wl.is V))]
theorem U1 {l:List Oper} {k j m:Nat} {p:Pr} {a:Act} {w:World} (hd:Hid (Deps l.toArray a0 es ps k a w)) (hk:ps.length=k) (hm:j+m+1=k)
  (ks:List Nat) (Y1:isPath l k ks j=true) (ws:List (Nat×Bool×List Nat)) (DT:gE l es k j ws=true) (hp:ps[m]? =some p):∃ v,p v w:=by
 obtain ⟨v,hv,hl⟩:=hd.out.1 j (Dep.of ks Y1) (by omega)
 have o9:=(H2 hp).1
 have:Sb.look ps j=p:=look_rev ps j p (by rw [List.getElem?_reverse (by omega)];rw [<- hp];congr 1;omega)
 rw [this] at hl
 exact ⟨v,hl (.inl (Safe.of ws DT))⟩
theorem E5 {id n:Nat} {l:List Oper} (hm:P.follows .mixedOrders=true) (hn:a0.tmps.size=n) (a6:OkOps l.toArray n) (hlen:ps.length=l.length)
  (p7:∀ a w,Here l.toArray a0 w0 (∀ m,m∈es->False) (fun T=>∀ m,m∈es->∀ b,S m b->T b) a w->Hid (∀ i,i<l.length->Got l.toArray ps (dQ l.toArray es i) i a w)->Q .normal a w):D3 P id l.toArray Q a0 w0 S es ps:=by
 subst hn
 intro hg
 refine wp_region_any hm ?_
 refine jX a6 (by simpa using hlen) hg (fun a w hh cW=>p7 a w hh (fun i hi=>cW i (by simpa using hi))) _ _ _ _ (by simp) ?_ ?_
 ·exact Nat.le_trans List.countP_le_length (by simp)
 ·refine ⟨⟨fun _=>⟨rfl,rfl,rfl,Nat.le_refl _,fun _ _=>rfl⟩,(fun _ _=>⟨rfl,rfl,rfl,Nat.le_refl _,fun _ _ _=>rfl⟩),rfl,rfl,fun _ _=>rfl⟩,fun i o ho hl=> ?_,fun i hi hl=> ?_,fun _ _=>rfl⟩
  ·have hi:=(Array.getElem?_eq_some_iff.1 ho).1
   simp at hi
   simp [hi] at hl
  ·simp at hi
   simp [hi] at hl
theorem xH {l:List Oper} {j m d:Nat} {p:Pr} {o:Oper} {a:Act} {w:World} (hg:Hid (∀ i,i<l.length->Got l.toArray ps (dQ l.toArray es i) i a w)) (hm:j+m+1=ps.length)
  (ws:List (Nat×List Nat)) (DT:dS l es j ws=true) (hp:ps[m]? =some p) (ho:l[j]? =some o) (E0:o.dst=some d):∃ v,a.tmps[d]? =some v/\p v w:=by
 obtain ⟨v,hv,hl⟩:=hg.out j (H2 ho).1
 refine ⟨v,hv o d (by simpa using ho) E0,?_⟩
 have o9:=(H2 hp).1
 have:Sb.look ps j=p:=look_rev ps j p (by rw [List.getElem?_reverse (by omega)];rw [<- hp];congr 1;omega)
 rw [this] at hl
 exact hl (.inl (dQ.of ws DT))
theorem Dn {l:List Oper} {j m d:Nat} {V:Value} {o:Oper} {a:Act} {w:World} (hg:Hid (∀ i,i<l.length->Got l.toArray ps (dQ l.toArray es i) i a w)) (hm:j+m+1=ps.length)
  (hp:ps[m]? =some (Is V)) (ho:l[j]? =some o) (E0:o.dst=some d):a.tmps[d]? =some V:=by
 obtain ⟨v,hv,hl⟩:=hg.out j (H2 ho).1
 have o9:=(H2 hp).1
 have:Sb.look ps j=Is V:=look_rev ps j _ (by rw [List.getElem?_reverse (by omega)];rw [<- hp];congr 1;omega)
 rw [this] at hl
 rw [hv o d (by simpa using ho) E0,show v=V from hl (.inr (Wl.is V))]
theorem M4 {l:List Oper} {j m:Nat} {p:Pr} {a:Act} {w:World} (hg:Hid (∀ i,i<l.length->Got l.toArray ps (dQ l.toArray es i) i a w)) (hm:j+m+1=ps.length) (zW:j<l.length)
  (ws:List (Nat×List Nat)) (DT:dS l es j ws=true) (hp:ps[m]? =some p):∃ v,p v w:=by
 obtain ⟨v,hv,hl⟩:=hg.out j zW
 have o9:=(H2 hp).1
 have:Sb.look ps j=p:=look_rev ps j p (by rw [List.getElem?_reverse (by omega)];rw [<- hp];congr 1;omega)
 rw [this] at hl
 exact ⟨v,hl (.inl (dQ.of ws DT))⟩
theorem cJ {l:List Oper} {t:Nat} {x:Value} {a:Act} {w:World} {C:Prop} {Bt:(Nat->Prop)->Prop} (hh:Here l.toArray a0 w0 C Bt a w) (hn:noDst l t=true) (hx:a0.tmps[t]? =some x):a.tmps[t]? =some x:=by
 rw [hh.Dj t ?_,hx]
 intro i o ho hd
 have hm:o∈l:=by have:o∈l.toArray:=Array.mem_of_getElem? ho;simpa using this
 have:=List.all_eq_true.1 hn o hm
 simp [hd] at this
theorem xJ {l:List Oper} {t k j:Nat} (ks:List Nat) {x:Value} {a:Act} {w:World} (hd:Hid (Deps l.toArray a0 es ps k a w)) (hn:onlyDst l t j=true) (hp:(j==k||isPath l j ks k)=true) (hx:a0.tmps[t]? =some x):a.tmps[t]? =some x:=by
 rw [hd.out.2 t ?_,hx]
 intro i o ho E0
 have R2:l[i]? =some o:=by simpa using ho
 have W8:=(H2 R2).1
 have h1:=List.all_eq_true.1 hn i (by simpa using W8)
 rw [R2] at h1
 simp only [E0,Bool.or_eq_true,beq_iff_eq,bne_self_eq_false,Bool.false_eq_true,or_false] at h1
 subst h1
 rcases Bool.or_eq_true _ _ |>.mp hp with h2 | h2
 ·exact .inl (by simpa using h2)
 ·exact .inr (Dep.of ks h2)
theorem mD {id k n u:Nat} {l:List Oper} {V:Value} {o:Oper} (s:a0.tmps[u]? =some V) (hn:a0.tmps.size=n) (a6:OkOps l.toArray n) (hk:ps.length=k) (tY:es.contains k=false) (ho:l[k]? =some o) (hg:o.guard=none) (X4:o.op= .move (.tmp u)\/o.op= .assign (.tmp u)) (qH:noDst l u=true)
  (rest:D3 P id l.toArray Q a0 w0 S es (Is V::ps)):D3 P id l.toArray Q a0 w0 S es ps :=
 P6 V hn a6 hk tY (fun a w hh hd _ K hK=>op_plain ho hg (by
  have hs:=cJ hh qH s
  have he:a.eval (.tmp u)=V:=by simp [Act.eval,hs]
  have h2:=hK.out o ho V w (Below.refl _ _) rfl
  rw [<- he] at h2
  unfold Oper.wp execOp
  rcases X4 with h | h<;>rw [h]<;>exact h2)) rest
theorem qq {id k n u j:Nat} {l:List Oper} {V:Value} {o:Oper} (s:a0.tmps[u]? =some V) (hn:a0.tmps.size=n) (a6:OkOps l.toArray n) (hk:ps.length=k) (tY:es.contains k=false) (ho:l[k]? =some o) (hg:o.guard=none) (X4:o.op= .move (.tmp u)\/o.op= .assign (.tmp u)) (ks:List Nat) (qH:onlyDst l u j=true) (hp:(j==k||isPath l j ks k)=true)
  (rest:D3 P id l.toArray Q a0 w0 S es (Is V::ps)):D3 P id l.toArray Q a0 w0 S es ps :=
 P6 V hn a6 hk tY (fun a w hh hd _ K hK=>op_plain ho hg (by
  have hs:=xJ ks hd qH hp s
  have he:a.eval (.tmp u)=V:=by simp [Act.eval,hs]
  have h2:=hK.out o ho V w (Below.refl _ _) rfl
  rw [<- he] at h2
  unfold Oper.wp execOp
  rcases X4 with h | h<;>rw [h]<;>exact h2)) rest
theorem mg {id k n u j m:Nat} {l:List Oper} {V:Value} {o oj:Oper} (hn:a0.tmps.size=n) (a6:OkOps l.toArray n) (hk:ps.length=k) (tY:es.contains k=false) (ho:l[k]? =some o) (hg:o.guard=none) (X4:o.op= .move (.tmp u)\/o.op= .assign (.tmp u))
  (hm:j+m+1=k) (ks:List Nat) (Y1:isPath l k ks j=true) (hp:ps[m]? =some (Is V)) (Ys:l[j]? =some oj) (E0:oj.dst=some u)
  (rest:D3 P id l.toArray Q a0 w0 S es (Is V::ps)):D3 P id l.toArray Q a0 w0 S es ps :=
 P6 V hn a6 hk tY (fun a w hh hd hk K hK=>op_plain ho hg (by
  have hs:=fD hd hk hm ks Y1 hp Ys E0
  have he:a.eval (.tmp u)=V:=by simp [Act.eval,hs]
  have h2:=hK.out o ho V w (Below.refl _ _) rfl
  rw [<- he] at h2
  unfold Oper.wp execOp
  rcases X4 with h | h<;>rw [h]<;>exact h2)) rest
theorem u (j m:Nat) {l:List Oper} {k d:Nat} {V:Value} {o:Oper} {a:Act} {w:World} (hd:Hid (Deps l.toArray a0 es ps k a w)) (hk:ps.length=k) (hm:j+m+1=k)
  (ks:List Nat) (Y1:isPath l k ks j=true) (hp:ps[m]? =some (Is V)) (ho:l[j]? =some o) (E0:o.dst=some d):a.tmps[d]? =some V:=fD hd hk hm ks Y1 hp ho E0
theorem e (j m:Nat) {l:List Oper} {d:Nat} {V:Value} {o:Oper} {a:Act} {w:World} (hg:Hid (∀ i,i<l.length->Got l.toArray ps (dQ l.toArray es i) i a w)) (hm:j+m+1=ps.length)
  (hp:ps[m]? =some (Is V)) (ho:l[j]? =some o) (E0:o.dst=some d):a.tmps[d]? =some V:=Dn hg hm hp ho E0
theorem o {l:List Oper} {t:Nat} {x:Value} {a:Act} {w:World} {C:Prop} {Bt:(Nat->Prop)->Prop} (hh:Here l.toArray a0 w0 C Bt a w) (hn:noDst l t=true) (hx:a0.tmps[t]? =some x):a.tmps[t]? =some x:=cJ hh hn hx
theorem t (k:Nat) {id n:Nat} {l:List Oper} (V:Value) (hn:a0.tmps.size=n) (a6:OkOps l.toArray n) (hk:ps.length=k) (hm:es.contains k=false)
  (h:∀ a w,Here l.toArray a0 w0 (Pure l.toArray es k) (aK l.toArray S es k) a w->Hid (Deps l.toArray a0 es ps k a w)->ps.length=k->∀ K:Act->World->Prop,
   Hid (∀ o:Oper,l[k]? =some o->∀ v w',Below w.heap.size w w'->v=V->K (a.put o.dst v) w')->wpOp P l.toArray Q k K a w)
  (rest:D3 P id l.toArray Q a0 w0 S es (Is V::ps)):D3 P id l.toArray Q a0 w0 S es ps:=P6 V hn a6 hk hm h rest
end
end Sm
namespace Fc
section
variable {Q:Exit->Act->World->Prop} {a:Act} {w:World}
theorem TE (h:Q .ret a w):Exit.noGoto Q .ret a w:=h
end
end Fc
variable {ds:List Deferred} {X:Prop}
open Go.RowKit
namespace Fc
section
variable {P:Program} {Q:Exit->Act->World->Prop} {a:Act} {w:World} {n:Nat}
end
end Fc
namespace Sb
variable {P:Program} {a0:Act} {w0:World} {ps:List Pr}
theorem v (j m:Nat) {l:List Oper} {k d:Nat} {V:Value} {o:Oper} {a:Act} {w:World} (hd:Hid (Deps l.toArray a0 ps k a w)) (hk:ps.length=k) (ks:List Nat) (hm:j+m+1=k:=by rfl)
  (Y1:isPath l k ks j=true:=by kernel_rfl) (hp:ps[m]? =some (Is V):=by rfl) (ho:l[j]? =some o:=by rfl) (E0:o.dst=some d:=by rfl):a.tmps[d]? =some V:=u j m hd hk hm ks Y1 hp ho E0
theorem f (j m:Nat) {l:List Oper} {d:Nat} {V:Value} {o:Oper} {a:Act} {w:World} (hg:Hid (∀ i,i<l.length->Got l.toArray ps i a w)) (hm:j+m+1=ps.length:=by rfl)
  (hp:ps[m]? =some (Is V):=by rfl) (ho:l[j]? =some o:=by rfl) (E0:o.dst=some d:=by rfl):a.tmps[d]? =some V:=e j m hg hm hp ho E0
theorem tp (k:Nat) {Q:Exit->Act->World->Prop} {id n:Nat} {l:List Oper} {o:Oper} (V:Value) (hn:a0.tmps.size=n) (a6:OkOps l.toArray n) (hk:ps.length=k)
  (h:∀ a w,Here l.toArray a0 w0 a w->Hid (Deps l.toArray a0 ps k a w)->ps.length=k->∀ K:Act->World->Prop,
   Hid (∀ o:Oper,l[k]? =some o->∀ v w',Below w.heap.size w w'->v=V->K (a.put o.dst v) w')->Oper.wp P o a w K Q)
  (rest:D3 X P id l.toArray Q a0 w0 (Is V::ps)) (ho:l[k]? =some o:=by rfl) (hg:o.guard=none:=by rfl):D3 X P id l.toArray Q a0 w0 ps :=
 t k V hn a6 hk (fun a w h1 h2 h3 K hK=>op_plain ho hg (h a w h1 h2 h3 K hK)) rest
theorem k {K:Act->World->Prop} {l:List Oper} {i:Nat} {a:Act} {w:World} {V:Value} {o:Oper} (hK:Hid (∀ o:Oper,l[i]? =some o->∀ v w',Below w.heap.size w w'->v=V->K (a.put o.dst v) w')) (ho:l[i]? =some o:=by rfl):K (a.put o.dst V) w:=hK.out o ho V w (Below.refl _ _) rfl
end Sb
section
variable {P:Program} {Q:Exit->Act->World->Prop} {a:Act} {w:World}
theorem fp {ops:Array Oper} {rest:List Oper} {o:Oper} (h:∀ K:Act->World->Prop,Hid (∀ a w,Fc.L P ops Q rest a w->K a w)->o.wp P a w K Q) (hg:o.guard=none:=by rfl):Fc.L P ops Q (o::rest) a w:=Fc.p hg h
theorem nx {K:Act->World->Prop} (h:K a w):Exit.then K Q .normal a w:=h
theorem rg {id:Nat} {l:List Oper} (h:Fc.L P l.toArray Q l a w):(Code.region id l.toArray false).wp P Q a w:=Fc.region h
theorem og {l:List Oper} {rest:List Oper} {o x:Oper} (g d:Nat) (b:Bool) (hv:a.tmps[d]? =some (.bool b)) (h:∀ K:Act->World->Prop,Hid (∀ a w,Fc.L P l.toArray Q rest a w->K a w)->o.wp P a w K Q) (hg:o.guard=some (g,b):=by rfl) (bV:l[g]? =some x:=by rfl) (hd:x.dst=some d:=by rfl):Fc.L P l.toArray Q (o::rest) a w:=Fc.op_guard hg bV hd hv h
end
section
variable {P:Program} {Q:Exit->Act->World->Prop} {a:Act} {w:World} {n:Nat}
theorem Fc.K1.b {n:Nat} {a:Act} (h:Fc.K1 ds n a) (t:Nat) (ht:Nat.blt t n=true:=by rfl):t<a.tmps.size:=h.l t ht
theorem sk {l:List Oper} {rest:List Oper} {o x:Oper} (g d:Nat) (b:Bool) (hv:a.tmps[d]? =some (.bool (!b))) (h:Fc.L P l.toArray Q rest (a.put o.dst undef) w) (hg:o.guard=some (g,b):=by rfl) (bV:l[g]? =some x:=by rfl) (hd:x.dst=some d:=by rfl):Fc.L P l.toArray Q (o::rest) a w:=Fc.op_skip hg bV hd hv h
end
namespace Sb
section
variable {P:Program} {a0:Act} {w0:World} {ps:List Pr}
theorem O {l:List Oper} {t:Nat} {x:Value} {a:Act} {w:World} (hh:Here l.toArray a0 w0 a w) (hx:a0.tmps[t]? =some x) (hn:noDst l t=true:=by kernel_rfl):a.tmps[t]? =some x:=cJ hh hn hx
theorem tq (k:Nat) {Q:Exit->Act->World->Prop} {id n:Nat} {l:List Oper} {o:Oper} (V:Value) (hf:Fc.K1 ds n a0) (a6:Hid (OkOps l.toArray n))
  (h:∀ a w,Here l.toArray a0 w0 a w->Hid (Deps l.toArray a0 ps k a w)->ps.length=k->∀ K:Act->World->Prop,
   Hid (∀ o:Oper,l[k]? =some o->∀ v w',Below w.heap.size w w'->v=V->K (a.put o.dst v) w')->Oper.wp P o a w K Q)
  (rest:D3 X P id l.toArray Q a0 w0 (Is V::ps)) (hk:ps.length=k:=by rfl) (ho:l[k]? =some o:=by rfl) (hg:o.guard=none:=by rfl):D3 X P id l.toArray Q a0 w0 ps :=
 tp k V hf.size a6.out hk h rest ho hg
theorem tr (k:Nat) {Q:Exit->Act->World->Prop} {id n:Nat} {l:List Oper} (V:Value) (hf:Fc.K1 ds n a0) (a6:Hid (OkOps l.toArray n))
  (h:∀ a w,Here l.toArray a0 w0 a w->Hid (Deps l.toArray a0 ps k a w)->ps.length=k->∀ K:Act->World->Prop,
   Hid (∀ o:Oper,l[k]? =some o->∀ v w',Below w.heap.size w w'->v=V->K (a.put o.dst v) w')->wpOp P l.toArray Q k K a w)
  (rest:D3 X P id l.toArray Q a0 w0 (Is V::ps)) (hk:ps.length=k:=by rfl):D3 X P id l.toArray Q a0 w0 ps:=t k V hf.size a6.out hk h rest
theorem g {Q:Exit->Act->World->Prop} {l:List Oper} {i g d:Nat} {b:Bool} {o og:Oper} {a:Act} {w:World} {K:Act->World->Prop} (hv:a.tmps[d]? =some (.bool b)) (h:Oper.wp P o a w K Q) (hi:l[i]? =some o:=by rfl) (hg:o.guard=some (g,b):=by rfl) (bV:l[g]? =some og:=by rfl) (hd:og.dst=some d:=by rfl):wpOp P l.toArray Q i K a w:=op_guard hi hg bV hd hv h
end
end Sb
section
variable {P:Program} {a0:Act} {w0:World} {ps:List Sb.Pr} {Q:Exit->Act->World->Prop}
open Sb (Is isPath OkOps noDst)
theorem Sb.mO (k:Nat) {id n u:Nat} {l:List Oper} {V:Value} {o:Oper} (s:a0.tmps[u]? =some V) (hf:Fc.K1 ds n a0) (a6:Hid (OkOps l.toArray n)) (rest:Sb.D3 X P id l.toArray Q a0 w0 (Is V::ps)) (hk:ps.length=k:=by rfl) (ho:l[k]? =some o:=by rfl) (hg:o.guard=none:=by rfl) (X4:o.op= .move (.tmp u)\/o.op= .assign (.tmp u):=by first | exact .inl rfl | exact .inr rfl) (qH:noDst l u=true:=by kernel_rfl):Sb.D3 X P id l.toArray Q a0 w0 ps:=Sb.mD s hf.size a6.out hk ho hg X4 qH rest
theorem Sb.mN (k j m:Nat) {id n u:Nat} {l:List Oper} {V:Value} {o oj:Oper} (hf:Fc.K1 ds n a0) (a6:Hid (OkOps l.toArray n)) (ks:List Nat) (rest:Sb.D3 X P id l.toArray Q a0 w0 (Is V::ps)) (hk:ps.length=k:=by rfl) (ho:l[k]? =some o:=by rfl) (hg:o.guard=none:=by rfl) (Ys:l[j]? =some oj:=by rfl) (E0:oj.dst=some u:=by rfl) (X4:o.op= .move (.tmp u)\/o.op= .assign (.tmp u):=by first | exact .inl rfl | exact .inr rfl)
  (hm:j+m+1=k:=by rfl) (Y1:isPath l k ks j=true:=by kernel_rfl) (hp:ps[m]? =some (Is V):=by rfl):Sb.D3 X P id l.toArray Q a0 w0 ps:=Sb.mg hf.size a6.out hk ho hg X4 hm ks Y1 hp Ys E0 rest
theorem Sb.sk {l:List Oper} {i g d:Nat} {b:Bool} {o og:Oper} {a:Act} {w:World} {K:Act->World->Prop} (hv:a.tmps[d]? =some (.bool (!b))) (h:K (a.put o.dst undef) w) (hi:l[i]? =some o:=by rfl) (hg:o.guard=some (g,b):=by rfl) (bV:l[g]? =some og:=by rfl) (hd:og.dst=some d:=by rfl):wpOp P l.toArray Q i K a w:=Sb.op_skip hi hg bV hd hv h
theorem Sb.pl {l:List Oper} {i:Nat} {o:Oper} {a:Act} {w:World} {K:Act->World->Prop} (h:Oper.wp P o a w K Q) (hi:l[i]? =some o:=by rfl) (hg:o.guard=none:=by rfl):wpOp P l.toArray Q i K a w:=Sb.op_plain hi hg h
theorem Sb.Here.fr {ops:Array Oper} {n:Nat} {a:Act} {w:World} (hh:Sb.Here ops a0 w0 a w) (hf:Fc.K1 ds n a0):Fc.K1 ds n a:=⟨hh.size.trans hf.size,hh.defers.trans hf.defers⟩
theorem Sm.Here.fr {ops:Array Oper} {n:Nat} {C:Prop} {Bt:(Nat->Prop)->Prop} {a:Act} {w:World} (hh:Sm.Here ops a0 w0 C Bt a w) (hf:Fc.K1 ds n a0):Fc.K1 ds n a:=⟨hh.size.trans hf.size,hh.defers.trans hf.defers⟩
theorem Sb.tb (n:Nat) {id:Nat} {l:List Oper} (h:Hid (OkOps l.toArray n)->Sb.fC P id l.toArray Q a0 w0 []) (a6:Sb.okOps l.toArray n=true:=by kernel_rfl):(Code.region id l.toArray true).wp P Q a0 w0:=Sb.E4 (.of a6) h
theorem Sb.tf {id n:Nat} {l:List Oper} (hf:Fc.K1 ds n a0) (a6:Hid (OkOps l.toArray n)) (p7:∀ a w,Sb.Here l.toArray a0 w0 a w->Hid (∀ i,i<l.length->Sb.Got l.toArray ps i a w)->Q .normal a w) (hlen:ps.length=l.length:=by rfl) (hm:P.follows .mixedOrders=true:=by kernel_rfl):Sb.fC P id l.toArray Q a0 w0 ps:=Sb.E5 hm hf.size a6.out hlen p7
theorem Fc.en (n:Nat) {l:List Value} {m:Nat} {c:Code} {w:World} (h:∀ a:Act,Fc.Fr n a->(∀ (t:Nat) (v:Value),l[t]? =some v->a.tmps[t]? =some v)->c.wp P Q a w) (hs:l.length+m=n:=by kernel_rfl):c.wp P Q ⟨l.toArray++Array.replicate m undef,[]⟩ w:=Fc.enter hs h
theorem Fc.W:(∀ {n:Int}, -9223372036854775808<=n->n<=9223372036854775807->IntKind.i64.wrap n=n)/\(∀ {n:Int},0<=n->n<=255->IntKind.u8.wrap n=n)/\(∀ {n:Int},0<=n->n<=4294967295->IntKind.u32.wrap n=n)/\∀ {n:Int},0<=n->n<=18446744073709551615->IntKind.u64.wrap n=n:=⟨Fc.wrap_i64,Fc.wrap_u8,Fc.wrap_u32,Fc.wrap_u64⟩
theorem Fc.N:(!true)=false/\(!false)=true:=⟨rfl,rfl⟩
theorem Sm.v (j m:Nat) {es:List Nat} {l:List Oper} {k d:Nat} {V:Value} {o:Oper} {a:Act} {w:World} (hd:Hid (Sm.Deps l.toArray a0 es ps k a w)) (hk:ps.length=k) (ks:List Nat) (hm:j+m+1=k:=by rfl) (Y1:isPath l k ks j=true:=by kernel_rfl) (hp:ps[m]? =some (Is V):=by rfl) (ho:l[j]? =some o:=by rfl) (E0:o.dst=some d:=by rfl):a.tmps[d]? =some V:=Sm.u j m hd hk hm ks Y1 hp ho E0
theorem Sm.tq (k:Nat) {S:Nat->Nat->Prop} {es:List Nat} {id n:Nat} {l:List Oper} (V:Value) (hf:Fc.K1 ds n a0) (a6:Hid (OkOps l.toArray n))
  (h:∀ a w,Sm.Here l.toArray a0 w0 (Sm.Pure l.toArray es k) (Sm.aK l.toArray S es k) a w->Hid (Sm.Deps l.toArray a0 es ps k a w)->ps.length=k->∀ K:Act->World->Prop,
   Hid (∀ o:Oper,l[k]? =some o->∀ v w',Below w.heap.size w w'->v=V->K (a.put o.dst v) w')->wpOp P l.toArray Q k K a w)
  (rest:Sm.D3 P id l.toArray Q a0 w0 S es (Is V::ps)) (hk:ps.length=k:=by rfl) (hm:es.contains k=false:=by kernel_rfl):Sm.D3 P id l.toArray Q a0 w0 S es ps:=Sm.t k V hf.size a6.out hk hm h rest
end
namespace Fc
theorem h2 {P:Nat->Prop} (h:∀ t,P t) (a b:Nat):P a/\P b:=⟨h a,h b⟩
theorem h4 {P:Nat->Prop} (h:∀ t,P t) (a b c d:Nat):P a/\P b/\P c/\P d:=⟨h a,h b,h c,h d⟩
theorem h5 {P:Nat->Prop} (h:∀ t,P t) (a b c d e:Nat):P a/\P b/\P c/\P d/\P e:=⟨h a,h b,h c,h d,h e⟩
theorem h6 {P:Nat->Prop} (h:∀ t,P t) (a b c d e f:Nat):P a/\P b/\P c/\P d/\P e/\P f:=⟨h a,h b,h c,h d,h e,h f⟩
theorem h7 {P:Nat->Prop} (h:∀ t,P t) (a b c d e f g:Nat):P a/\P b/\P c/\P d/\P e/\P f/\P g:=⟨h a,h b,h c,h d,h e,h f,h g⟩
theorem h8 {P:Nat->Prop} (h:∀ t,P t) (a b c d e f g i:Nat):P a/\P b/\P c/\P d/\P e/\P f/\P g/\P i:=⟨h a,h b,h c,h d,h e,h f,h g,h i⟩
theorem h11 {P:Nat->Prop} (h:∀ t,P t) (a b c d e f g i j k l:Nat):P a/\P b/\P c/\P d/\P e/\P f/\P g/\P i/\P j/\P k/\P l:=⟨h a,h b,h c,h d,h e,h f,h g,h i,h j,h k,h l⟩
theorem h14 {P:Nat->Prop} (h:∀ t,P t) (a b c d e f g i j k l m o p:Nat):P a/\P b/\P c/\P d/\P e/\P f/\P g/\P i/\P j/\P k/\P l/\P m/\P o/\P p:=⟨h a,h b,h c,h d,h e,h f,h g,h i,h j,h k,h l,h m,h o,h p⟩
theorem K1.B2 {n:Nat} {z:Act} (h:K1 ds n z) (a b:Nat) (hz:(Nat.blt a n&&Nat.blt b n)=true:=by rfl):a<z.tmps.size/\b<z.tmps.size:=by
 simp only [Bool.and_eq_true,and_assoc] at hz
 exact ⟨h.b a hz.1,h.b b hz.2⟩
theorem K1.B3 {n:Nat} {z:Act} (h:K1 ds n z) (a b c:Nat) (hz:(Nat.blt a n&&Nat.blt b n&&Nat.blt c n)=true:=by rfl):a<z.tmps.size/\b<z.tmps.size/\c<z.tmps.size:=by
 simp only [Bool.and_eq_true,and_assoc] at hz
 exact ⟨h.b a hz.1,h.b b hz.2.1,h.b c hz.2.2⟩
theorem K1.B4 {n:Nat} {z:Act} (h:K1 ds n z) (a b c d:Nat) (hz:(Nat.blt a n&&Nat.blt b n&&Nat.blt c n&&Nat.blt d n)=true:=by rfl):a<z.tmps.size/\b<z.tmps.size/\c<z.tmps.size/\d<z.tmps.size:=by
 simp only [Bool.and_eq_true,and_assoc] at hz
 exact ⟨h.b a hz.1,h.b b hz.2.1,h.b c hz.2.2.1,h.b d hz.2.2.2⟩
theorem K1.B5 {n:Nat} {z:Act} (h:K1 ds n z) (a b c d e:Nat) (hz:(Nat.blt a n&&Nat.blt b n&&Nat.blt c n&&Nat.blt d n&&Nat.blt e n)=true:=by rfl):a<z.tmps.size/\b<z.tmps.size/\c<z.tmps.size/\d<z.tmps.size/\e<z.tmps.size:=by
 simp only [Bool.and_eq_true,and_assoc] at hz
 exact ⟨h.b a hz.1,h.b b hz.2.1,h.b c hz.2.2.1,h.b d hz.2.2.2.1,h.b e hz.2.2.2.2⟩
theorem K1.B6 {n:Nat} {z:Act} (h:K1 ds n z) (a b c d e f:Nat) (hz:(Nat.blt a n&&Nat.blt b n&&Nat.blt c n&&Nat.blt d n&&Nat.blt e n&&Nat.blt f n)=true:=by rfl):a<z.tmps.size/\b<z.tmps.size/\c<z.tmps.size/\d<z.tmps.size/\e<z.tmps.size/\f<z.tmps.size:=by
 simp only [Bool.and_eq_true,and_assoc] at hz
 exact ⟨h.b a hz.1,h.b b hz.2.1,h.b c hz.2.2.1,h.b d hz.2.2.2.1,h.b e hz.2.2.2.2.1,h.b f hz.2.2.2.2.2⟩
theorem K1.B7 {n:Nat} {z:Act} (h:K1 ds n z) (a b c d e f g:Nat) (hz:(Nat.blt a n&&Nat.blt b n&&Nat.blt c n&&Nat.blt d n&&Nat.blt e n&&Nat.blt f n&&Nat.blt g n)=true:=by rfl):a<z.tmps.size/\b<z.tmps.size/\c<z.tmps.size/\d<z.tmps.size/\e<z.tmps.size/\f<z.tmps.size/\g<z.tmps.size:=by
 simp only [Bool.and_eq_true,and_assoc] at hz
 exact ⟨h.b a hz.1,h.b b hz.2.1,h.b c hz.2.2.1,h.b d hz.2.2.2.1,h.b e hz.2.2.2.2.1,h.b f hz.2.2.2.2.2.1,h.b g hz.2.2.2.2.2.2⟩
theorem K1.B8 {n:Nat} {z:Act} (h:K1 ds n z) (a b c d e f g i:Nat) (hz:(Nat.blt a n&&Nat.blt b n&&Nat.blt c n&&Nat.blt d n&&Nat.blt e n&&Nat.blt f n&&Nat.blt g n&&Nat.blt i n)=true:=by rfl):a<z.tmps.size/\b<z.tmps.size/\c<z.tmps.size/\d<z.tmps.size/\e<z.tmps.size/\f<z.tmps.size/\g<z.tmps.size/\i<z.tmps.size:=by
 simp only [Bool.and_eq_true,and_assoc] at hz
 exact ⟨h.b a hz.1,h.b b hz.2.1,h.b c hz.2.2.1,h.b d hz.2.2.2.1,h.b e hz.2.2.2.2.1,h.b f hz.2.2.2.2.2.1,h.b g hz.2.2.2.2.2.2.1,h.b i hz.2.2.2.2.2.2.2⟩
theorem K1.B9 {n:Nat} {z:Act} (h:K1 ds n z) (a b c d e f g i j:Nat) (hz:(Nat.blt a n&&Nat.blt b n&&Nat.blt c n&&Nat.blt d n&&Nat.blt e n&&Nat.blt f n&&Nat.blt g n&&Nat.blt i n&&Nat.blt j n)=true:=by rfl):a<z.tmps.size/\b<z.tmps.size/\c<z.tmps.size/\d<z.tmps.size/\e<z.tmps.size/\f<z.tmps.size/\g<z.tmps.size/\i<z.tmps.size/\j<z.tmps.size:=by
 simp only [Bool.and_eq_true,and_assoc] at hz
 exact ⟨h.b a hz.1,h.b b hz.2.1,h.b c hz.2.2.1,h.b d hz.2.2.2.1,h.b e hz.2.2.2.2.1,h.b f hz.2.2.2.2.2.1,h.b g hz.2.2.2.2.2.2.1,h.b i hz.2.2.2.2.2.2.2.1,h.b j hz.2.2.2.2.2.2.2.2⟩
theorem K1.eW {n:Nat} {z:Act} (h:K1 ds n z) (a b c d e f g i j k:Nat) (hz:(Nat.blt a n&&Nat.blt b n&&Nat.blt c n&&Nat.blt d n&&Nat.blt e n&&Nat.blt f n&&Nat.blt g n&&Nat.blt i n&&Nat.blt j n&&Nat.blt k n)=true:=by rfl):a<z.tmps.size/\b<z.tmps.size/\c<z.tmps.size/\d<z.tmps.size/\e<z.tmps.size/\f<z.tmps.size/\g<z.tmps.size/\i<z.tmps.size/\j<z.tmps.size/\k<z.tmps.size:=by
 simp only [Bool.and_eq_true,and_assoc] at hz
 exact ⟨h.b a hz.1,h.b b hz.2.1,h.b c hz.2.2.1,h.b d hz.2.2.2.1,h.b e hz.2.2.2.2.1,h.b f hz.2.2.2.2.2.1,h.b g hz.2.2.2.2.2.2.1,h.b i hz.2.2.2.2.2.2.2.1,h.b j hz.2.2.2.2.2.2.2.2.1,h.b k hz.2.2.2.2.2.2.2.2.2⟩
end Fc
variable {ds:List Deferred} {X:Prop}
section
variable {P:Program} {Q:Exit->Act->World->Prop} {a:Act} {w:World} {n:Nat}
theorem Za {ops:Array Oper} {rest:List Oper} {o:Oper} {A:Act} {W:World} (k:Fc.L P ops Q rest A W) (hg:o.guard=none:=by rfl) (h:∀ K:Act->World->Prop,Hid (K A W)->o.wp P a w K Q:=by intro K Z;go_simp;exact Z.out):Fc.L P ops Q (o::rest) a w:=Fc.p hg fun K Z=>h K (Lib.hid (Z.out _ _ k))
def z2b (o:Op):Bool:=match o with
 | .binOp .add _ _ _ _=>true
 | .binOp .sub _ _ _ _=>true
 | .binOp .mul _ _ _ _=>true
 | _=>false
def z2a (o:Op):Bool:=match o with
 | .indexAddr .. =>true
 | _=>false
theorem Zb {ops:Array Oper} {rest:List Oper} {o:Oper} {A:Act} {W:World} (k:Fc.L P ops Q rest A W) (hg:o.guard=none:=by rfl) (ha:z2b o.op=true:=by rfl) (h:∀ K:Act->World->Prop,Hid (K A W)->o.wp P a w K Q:=by intro K Z;go_simp;(try simp (disch:=omega) only [Fc.W]);exact Z.out):Fc.L P ops Q (o::rest) a w:=Fc.p hg fun K Z=>h K (Lib.hid (Z.out _ _ k))
theorem Zi {ops:Array Oper} {rest:List Oper} {o:Oper} {A:Act} {W:World} (k:Fc.L P ops Q rest A W) (hg:o.guard=none:=by rfl) (ha:z2a o.op=true:=by rfl) (h:∀ K:Act->World->Prop,Hid (K A W)->o.wp P a w K Q:=by intro K Z;go_simp;(try rw [if_pos (by omega)]);exact Z.out):Fc.L P ops Q (o::rest) a w:=Fc.p hg fun K Z=>h K (Lib.hid (Z.out _ _ k))
theorem Zg {l:List Oper} {rest:List Oper} {o x:Oper} {g d:Nat} {b:Bool} {A:Act} {W:World} (k:Fc.L P l.toArray Q rest A W) (hg:o.guard=some (g,b):=by rfl) (bV:l[g]? =some x:=by rfl) (hd:x.dst=some d:=by rfl) (hv:a.tmps[d]? =some (.bool b):=by first | (simp (decide:=true) only [Fc.G,reduceIte,hf.size,qs,Fc.N]<;>fail) | (first | (simp (decide:=true) only [Fc.G,reduceIte,hf.size,qs,Fc.N]<;>fail) | (simp (decide:=true) only [Fc.G,reduceIte,hf.size,Fc.N]<;>fail))) (h:∀ K:Act->World->Prop,Hid (K A W)->o.wp P a w K Q:=by intro K Z;go_simp;(try simp (disch:=omega) only [Fc.W]);exact Z.out):Fc.L P l.toArray Q (o::rest) a w:=Fc.op_guard hg bV hd hv fun K Z=>h K (Lib.hid (Z.out _ _ k))
theorem Zk {l:List Oper} {rest:List Oper} {o x:Oper} {g d:Nat} {b:Bool} (h:Fc.L P l.toArray Q rest (a.put o.dst undef) w) (hg:o.guard=some (g,b):=by rfl) (bV:l[g]? =some x:=by rfl) (hd:x.dst=some d:=by rfl) (hv:a.tmps[d]? =some (.bool (!b)):=by first | (simp (decide:=true) only [Fc.G,reduceIte,hf.size,qs,Fc.N]<;>fail) | (simp (decide:=true) only [Fc.G,reduceIte,hf.size,Fc.N]<;>fail)):Fc.L P l.toArray Q (o::rest) a w:=Fc.op_skip hg bV hd hv h
theorem Zu {l:List Oper} {rest:List Oper} {o x:Oper} {g d:Nat} {b:Bool} (h:Fc.L P l.toArray Q rest (a.put o.dst undef) w) (hg:o.guard=some (g,b):=by rfl) (bV:l[g]? =some x:=by rfl) (hd:x.dst=some d:=by rfl) (hv:a.tmps[d]? =some undef:=by first | (simp (decide:=true) only [Fc.G,reduceIte,hf.size,qs,Fc.N]<;>fail) | (simp (decide:=true) only [Fc.G,reduceIte,hf.size,Fc.N]<;>fail)):Fc.L P l.toArray Q (o::rest) a w:=Fc.op_skip' hg bV hd hv h
theorem Zy {ops:Array Oper} {rest:List Oper} {o:Oper} {A:Act} {W:World} (k:Fc.L P ops Q rest A W) (h:Hid (Fc.L P ops Q rest A W)->Fc.L P ops Q (o::rest) a w:=by intro Z;first | exact Zb Z.out | exact Zi Z.out | exact Za Z.out | exact Zg Z.out | exact Zk Z.out | exact Zu Z.out):Fc.L P ops Q (o::rest) a w:=h (Lib.hid k)
def Nx (P:Program) (ops:Array Oper) (Q:Exit->Act->World->Prop) (rest:List Oper) (A:Value->Act):Ending->World->Prop
 | .returned v,w=>Fc.L P ops Q rest (A v) w
 | _,_=>False
theorem Zv {ops:Array Oper} {rest:List Oper} {A:Value->Act} {v:Value} (h:Fc.L P ops Q rest (A v) w):Nx P ops Q rest A (.returned v) w:=h
theorem Nx.r {ops:Array Oper} {rest:List Oper} {A:Value->Act} {v:Value} (h:Nx P ops Q rest A (.returned v) w):Fc.L P ops Q rest (A v) w:=h
theorem Nx.p {ops:Array Oper} {rest:List Oper} {A:Value->Act} {c:_} (h:Nx P ops Q rest A (.panicked c) w):False:=h
theorem Nx.o {ops:Array Oper} {rest:List Oper} {A:Value->Act} (h:Nx P ops Q rest A .outgrown w):False:=h
theorem Zc {f:FuncId} {args:Array Value} {R:Ending->World->Prop} {ops:Array Oper} {rest:List Oper} {o:Oper} {A:Value->Act} (hc:Calls P f args w R) (h:∀ e w1,R e w1->Nx P ops Q rest A e w1) (hg:o.guard=none:=by rfl) (hw:∀ K:Act->World->Prop,Hid (∀ a w,Fc.L P ops Q rest a w->K a w)->Hid (Calls P f args w (Nx P ops Q rest A))->o.wp P a w K Q:=by intro K Z N;go_simp;refine N.out.mono ?_;intro e w1 hx;cases e with | returned v=>exact Z.out _ _ (Nx.r hx) | panicked c=>exact (Nx.p hx).elim | outgrown=>exact (Nx.o hx).elim):Fc.L P ops Q (o::rest) a w:=Fc.p hg fun K Z=>hw K Z (Lib.hid (hc.mono h))
theorem Zd {f:FuncId} {args:Array Value} {R:Ending->World->Prop} {l:List Oper} {rest:List Oper} {o x:Oper} {g d:Nat} {b:Bool} {A:Value->Act} (hc:Calls P f args w R) (h:∀ e w1,R e w1->Nx P l.toArray Q rest A e w1) (hg:o.guard=some (g,b):=by rfl) (bV:l[g]? =some x:=by rfl) (hd:x.dst=some d:=by rfl) (hv:a.tmps[d]? =some (.bool b):=by first | (simp (decide:=true) only [Fc.G,reduceIte,hf.size,qs,Fc.N]<;>fail) | (simp (decide:=true) only [Fc.G,reduceIte,hf.size,Fc.N]<;>fail)) (hw:∀ K:Act->World->Prop,Hid (∀ a w,Fc.L P l.toArray Q rest a w->K a w)->Hid (Calls P f args w (Nx P l.toArray Q rest A))->o.wp P a w K Q:=by intro K Z N;go_simp;refine N.out.mono ?_;intro e w1 hx;cases e with | returned v=>exact Z.out _ _ (Nx.r hx) | panicked c=>exact (Nx.p hx).elim | outgrown=>exact (Nx.o hx).elim):Fc.L P l.toArray Q (o::rest) a w:=Fc.op_guard hg bV hd hv fun K Z=>hw K Z (Lib.hid (hc.mono h))
def Bs:List Nat->Act->Prop
 | [],_=>True
 | t::ts,a=>t<a.tmps.size/\Bs ts a
theorem Bs.of (hf:Fc.K1 ds n a):∀ (l:List Nat),(l.all fun t=>Nat.blt t n)=true->Bs l a
 | [],_=>trivial
 | t::ts,h=>by
  rw [List.all_cons,Bool.and_eq_true] at h
  exact ⟨hf.l t h.1,Bs.of hf ts h.2⟩
theorem Zx {K:Act->World->Prop} {R:Exit->Act->World->Prop} {b:Code} (hK:∀ a w,b.wp P R a w->K a w) (h:b.wp P R a w):Exit.then K Q .normal a w:=hK _ _ h
theorem k8 {Z:Exit->Act->World->Prop} (h:Z .ret a w) (hq:Z .ret a w->Q .ret a w:=by intro h;(repeat first | with_reducible refine Fc.Mf ?_ | with_reducible refine Fc.uZ ?_ | with_reducible refine Fc.TE ?_);exact h):Code.ret.wp P Q a w:=wp_ret (hq h)
theorem Zo {id:Nat} {Z:Exit->Act->World->Prop} (h:Z .normal a w) (hq:Z .normal a w->Q (.exit id) a w:=by intro h;repeat first | with_reducible refine Fc.uY ?_ | with_reducible refine Fc.scope_e ?_ | with_reducible exact Fc.iP h | with_reducible refine Fc.nK (by decide) ?_):(Code.exit id).wp P Q a w:=wp_exit (hq h)
theorem Ze {b c:Code} {R:Exit->Act->World->Prop} (h:∀ K:Act->World->Prop,(∀ a w,c.wp P R a w->K a w)->b.wp P (Exit.then K R) a w):(Code.seq b c).wp P R a w:=wp_seq_k h
theorem Zs {K:Act->World->Prop} {R:Exit->Act->World->Prop} {b c:Code} (hK:∀ a w,(Code.seq b c).wp P R a w->K a w) (h:∀ K:Act->World->Prop,(∀ a w,c.wp P R a w->K a w)->b.wp P (Exit.then K R) a w):Exit.then K Q .normal a w:=hK _ _ (wp_seq_k h)
theorem Zt {K:Act->World->Prop} {R:Exit->Act->World->Prop} {id:Nat} {l:List Oper} {c:Code} (hK:∀ a w,(Code.seq (Code.region id l.toArray false) c).wp P R a w->K a w) (h:∀ K:Act->World->Prop,(∀ a w,c.wp P R a w->K a w)->Fc.L P l.toArray (Exit.then K R) l a w):Exit.then K Q .normal a w:=hK _ _ (wp_seq_k fun K hK=>Fc.region (h K hK))
theorem Dq {A:Act} {e:Exit} (hf:Fc.K1 ds n a) (h:∀ a:Act,Fc.K1 ds n a->Q e a w) (hs:A.tmps.size=a.tmps.size:=by simp only [Fc.G]) (hd:A.defers=a.defers:=by rfl):Q e A w:=Fc.q hf hs hd fun a h1 hT=>h a h1
theorem p5 (i:Nat) {A:Act} {e:Exit} {x0:Value} (hf:Fc.K1 ds n a) (h:∀ a:Act,Fc.K1 ds n a->a.tmps[i]? =some x0->Q e a w) (hx:A.tmps[i]? =some x0:=by (try simp (decide:=true) only [Fc.G,hf.size,reduceIte])<;>first | with_reducible rfl | with_reducible assumption | (simp only [sS];rfl)) (hs:A.tmps.size=a.tmps.size:=by simp only [Fc.G]) (hd:A.defers=a.defers:=by rfl):Q e A w:=Fc.q hf hs hd fun a h1 hT=>h a h1 ((hT i).trans hx)
theorem y4 (i j:Nat) {A:Act} {e:Exit} {x0 x1:Value} (hf:Fc.K1 ds n a) (h:∀ a:Act,Fc.K1 ds n a->a.tmps[i]? =some x0/\a.tmps[j]? =some x1->Q e a w) (hx:A.tmps[i]? =some x0/\A.tmps[j]? =some x1:=by and_intros<;>(try simp (decide:=true) only [Fc.G,hf.size,reduceIte])<;>first | with_reducible rfl | with_reducible assumption | (simp only [sS];rfl)) (hs:A.tmps.size=a.tmps.size:=by simp only [Fc.G]) (hd:A.defers=a.defers:=by rfl):Q e A w:=Fc.q hf hs hd fun a h1 hT=>h a h1 ⟨(hT i).trans hx.1,(hT j).trans hx.2⟩
theorem y7 (i j k:Nat) {A:Act} {e:Exit} {x0 x1 x2:Value} (hf:Fc.K1 ds n a) (h:∀ a:Act,Fc.K1 ds n a->a.tmps[i]? =some x0/\a.tmps[j]? =some x1/\a.tmps[k]? =some x2->Q e a w) (hx:A.tmps[i]? =some x0/\A.tmps[j]? =some x1/\A.tmps[k]? =some x2:=by and_intros<;>(try simp (decide:=true) only [Fc.G,hf.size,reduceIte])<;>first | with_reducible rfl | with_reducible assumption | (simp only [sS];rfl)) (hs:A.tmps.size=a.tmps.size:=by simp only [Fc.G]) (hd:A.defers=a.defers:=by rfl):Q e A w:=Fc.q hf hs hd fun a h1 hT=>h a h1 ⟨(hT i).trans hx.1,(hT j).trans hx.2.1,(hT k).trans hx.2.2⟩
theorem z8 (i j k m:Nat) {A:Act} {e:Exit} {x0 x1 x2 x3:Value} (hf:Fc.K1 ds n a) (h:∀ a:Act,Fc.K1 ds n a->a.tmps[i]? =some x0/\a.tmps[j]? =some x1/\a.tmps[k]? =some x2/\a.tmps[m]? =some x3->Q e a w) (hx:A.tmps[i]? =some x0/\A.tmps[j]? =some x1/\A.tmps[k]? =some x2/\A.tmps[m]? =some x3:=by and_intros<;>(try simp (decide:=true) only [Fc.G,hf.size,reduceIte])<;>first | with_reducible rfl | with_reducible assumption | (simp only [sS];rfl)) (hs:A.tmps.size=a.tmps.size:=by simp only [Fc.G]) (hd:A.defers=a.defers:=by rfl):Q e A w:=Fc.q hf hs hd fun a h1 hT=>h a h1 ⟨(hT i).trans hx.1,(hT j).trans hx.2.1,(hT k).trans hx.2.2.1,(hT m).trans hx.2.2.2⟩
theorem D2 (i j k m p:Nat) {A:Act} {e:Exit} {x0 x1 x2 x3 x4:Value} (hf:Fc.K1 ds n a) (h:∀ a:Act,Fc.K1 ds n a->a.tmps[i]? =some x0/\a.tmps[j]? =some x1/\a.tmps[k]? =some x2/\a.tmps[m]? =some x3/\a.tmps[p]? =some x4->Q e a w) (hx:A.tmps[i]? =some x0/\A.tmps[j]? =some x1/\A.tmps[k]? =some x2/\A.tmps[m]? =some x3/\A.tmps[p]? =some x4:=by and_intros<;>(try simp (decide:=true) only [Fc.G,hf.size,reduceIte])<;>first | with_reducible rfl | with_reducible assumption | (simp only [sS];rfl)) (hs:A.tmps.size=a.tmps.size:=by simp only [Fc.G]) (hd:A.defers=a.defers:=by rfl):Q e A w:=Fc.q hf hs hd fun a h1 hT=>h a h1 ⟨(hT i).trans hx.1,(hT j).trans hx.2.1,(hT k).trans hx.2.2.1,(hT m).trans hx.2.2.2.1,(hT p).trans hx.2.2.2.2⟩
theorem F1 (i j k m p q:Nat) {A:Act} {e:Exit} {x0 x1 x2 x3 x4 x5:Value} (hf:Fc.K1 ds n a) (h:∀ a:Act,Fc.K1 ds n a->a.tmps[i]? =some x0/\a.tmps[j]? =some x1/\a.tmps[k]? =some x2/\a.tmps[m]? =some x3/\a.tmps[p]? =some x4/\a.tmps[q]? =some x5->Q e a w) (hx:A.tmps[i]? =some x0/\A.tmps[j]? =some x1/\A.tmps[k]? =some x2/\A.tmps[m]? =some x3/\A.tmps[p]? =some x4/\A.tmps[q]? =some x5:=by and_intros<;>(try simp (decide:=true) only [Fc.G,hf.size,reduceIte])<;>first | with_reducible rfl | with_reducible assumption | (simp only [sS];rfl)) (hs:A.tmps.size=a.tmps.size:=by simp only [Fc.G]) (hd:A.defers=a.defers:=by rfl):Q e A w:=Fc.q hf hs hd fun a h1 hT=>h a h1 ⟨(hT i).trans hx.1,(hT j).trans hx.2.1,(hT k).trans hx.2.2.1,(hT m).trans hx.2.2.2.1,(hT p).trans hx.2.2.2.2.1,(hT q).trans hx.2.2.2.2.2⟩
theorem Z1 (i j k m p q r:Nat) {A:Act} {e:Exit} {x0 x1 x2 x3 x4 x5 x6:Value} (hf:Fc.K1 ds n a) (h:∀ a:Act,Fc.K1 ds n a->a.tmps[i]? =some x0/\a.tmps[j]? =some x1/\a.tmps[k]? =some x2/\a.tmps[m]? =some x3/\a.tmps[p]? =some x4/\a.tmps[q]? =some x5/\a.tmps[r]? =some x6->Q e a w) (hx:A.tmps[i]? =some x0/\A.tmps[j]? =some x1/\A.tmps[k]? =some x2/\A.tmps[m]? =some x3/\A.tmps[p]? =some x4/\A.tmps[q]? =some x5/\A.tmps[r]? =some x6:=by and_intros<;>(try simp (decide:=true) only [Fc.G,hf.size,reduceIte])<;>first | with_reducible rfl | with_reducible assumption | (simp only [sS];rfl)) (hs:A.tmps.size=a.tmps.size:=by simp only [Fc.G]) (hd:A.defers=a.defers:=by rfl):Q e A w:=Fc.q hf hs hd fun a h1 hT=>h a h1 ⟨(hT i).trans hx.1,(hT j).trans hx.2.1,(hT k).trans hx.2.2.1,(hT m).trans hx.2.2.2.1,(hT p).trans hx.2.2.2.2.1,(hT q).trans hx.2.2.2.2.2.1,(hT r).trans hx.2.2.2.2.2.2⟩
theorem mF (i j k m p q r s:Nat) {A:Act} {e:Exit} {x0 x1 x2 x3 x4 x5 x6 x7:Value} (hf:Fc.K1 ds n a) (h:∀ a:Act,Fc.K1 ds n a->a.tmps[i]? =some x0/\a.tmps[j]? =some x1/\a.tmps[k]? =some x2/\a.tmps[m]? =some x3/\a.tmps[p]? =some x4/\a.tmps[q]? =some x5/\a.tmps[r]? =some x6/\a.tmps[s]? =some x7->Q e a w) (hx:A.tmps[i]? =some x0/\A.tmps[j]? =some x1/\A.tmps[k]? =some x2/\A.tmps[m]? =some x3/\A.tmps[p]? =some x4/\A.tmps[q]? =some x5/\A.tmps[r]? =some x6/\A.tmps[s]? =some x7:=by and_intros<;>(try simp (decide:=true) only [Fc.G,hf.size,reduceIte])<;>first | with_reducible rfl | with_reducible assumption | (simp only [sS];rfl)) (hs:A.tmps.size=a.tmps.size:=by simp only [Fc.G]) (hd:A.defers=a.defers:=by rfl):Q e A w:=Fc.q hf hs hd fun a h1 hT=>h a h1 ⟨(hT i).trans hx.1,(hT j).trans hx.2.1,(hT k).trans hx.2.2.1,(hT m).trans hx.2.2.2.1,(hT p).trans hx.2.2.2.2.1,(hT q).trans hx.2.2.2.2.2.1,(hT r).trans hx.2.2.2.2.2.2.1,(hT s).trans hx.2.2.2.2.2.2.2⟩
theorem tZ (i j k m p q r s t:Nat) {A:Act} {e:Exit} {x0 x1 x2 x3 x4 x5 x6 x7 x8:Value} (hf:Fc.K1 ds n a) (h:∀ a:Act,Fc.K1 ds n a->a.tmps[i]? =some x0/\a.tmps[j]? =some x1/\a.tmps[k]? =some x2/\a.tmps[m]? =some x3/\a.tmps[p]? =some x4/\a.tmps[q]? =some x5/\a.tmps[r]? =some x6/\a.tmps[s]? =some x7/\a.tmps[t]? =some x8->Q e a w) (hx:A.tmps[i]? =some x0/\A.tmps[j]? =some x1/\A.tmps[k]? =some x2/\A.tmps[m]? =some x3/\A.tmps[p]? =some x4/\A.tmps[q]? =some x5/\A.tmps[r]? =some x6/\A.tmps[s]? =some x7/\A.tmps[t]? =some x8:=by and_intros<;>(try simp (decide:=true) only [Fc.G,hf.size,reduceIte])<;>first | with_reducible rfl | with_reducible assumption | (simp only [sS];rfl)) (hs:A.tmps.size=a.tmps.size:=by simp only [Fc.G]) (hd:A.defers=a.defers:=by rfl):Q e A w:=Fc.q hf hs hd fun a h1 hT=>h a h1 ⟨(hT i).trans hx.1,(hT j).trans hx.2.1,(hT k).trans hx.2.2.1,(hT m).trans hx.2.2.2.1,(hT p).trans hx.2.2.2.2.1,(hT q).trans hx.2.2.2.2.2.1,(hT r).trans hx.2.2.2.2.2.2.1,(hT s).trans hx.2.2.2.2.2.2.2.1,(hT t).trans hx.2.2.2.2.2.2.2.2⟩
theorem gV (i j k m p q r s t u:Nat) {A:Act} {e:Exit} {x0 x1 x2 x3 x4 x5 x6 x7 x8 x9:Value} (hf:Fc.K1 ds n a) (h:∀ a:Act,Fc.K1 ds n a->a.tmps[i]? =some x0/\a.tmps[j]? =some x1/\a.tmps[k]? =some x2/\a.tmps[m]? =some x3/\a.tmps[p]? =some x4/\a.tmps[q]? =some x5/\a.tmps[r]? =some x6/\a.tmps[s]? =some x7/\a.tmps[t]? =some x8/\a.tmps[u]? =some x9->Q e a w) (hx:A.tmps[i]? =some x0/\A.tmps[j]? =some x1/\A.tmps[k]? =some x2/\A.tmps[m]? =some x3/\A.tmps[p]? =some x4/\A.tmps[q]? =some x5/\A.tmps[r]? =some x6/\A.tmps[s]? =some x7/\A.tmps[t]? =some x8/\A.tmps[u]? =some x9:=by and_intros<;>(try simp (decide:=true) only [Fc.G,hf.size,reduceIte])<;>first | with_reducible rfl | with_reducible assumption | (simp only [sS];rfl)) (hs:A.tmps.size=a.tmps.size:=by simp only [Fc.G]) (hd:A.defers=a.defers:=by rfl):Q e A w:=Fc.q hf hs hd fun a h1 hT=>h a h1 ⟨(hT i).trans hx.1,(hT j).trans hx.2.1,(hT k).trans hx.2.2.1,(hT m).trans hx.2.2.2.1,(hT p).trans hx.2.2.2.2.1,(hT q).trans hx.2.2.2.2.2.1,(hT r).trans hx.2.2.2.2.2.2.1,(hT s).trans hx.2.2.2.2.2.2.2.1,(hT t).trans hx.2.2.2.2.2.2.2.2.1,(hT u).trans hx.2.2.2.2.2.2.2.2.2⟩
theorem qo (i j k m p q r s t u v:Nat) {A:Act} {e:Exit} {x0 x1 x2 x3 x4 x5 x6 x7 x8 x9 DU:Value} (hf:Fc.K1 ds n a) (h:∀ a:Act,Fc.K1 ds n a->a.tmps[i]? =some x0/\a.tmps[j]? =some x1/\a.tmps[k]? =some x2/\a.tmps[m]? =some x3/\a.tmps[p]? =some x4/\a.tmps[q]? =some x5/\a.tmps[r]? =some x6/\a.tmps[s]? =some x7/\a.tmps[t]? =some x8/\a.tmps[u]? =some x9/\a.tmps[v]? =some DU->Q e a w) (hx:A.tmps[i]? =some x0/\A.tmps[j]? =some x1/\A.tmps[k]? =some x2/\A.tmps[m]? =some x3/\A.tmps[p]? =some x4/\A.tmps[q]? =some x5/\A.tmps[r]? =some x6/\A.tmps[s]? =some x7/\A.tmps[t]? =some x8/\A.tmps[u]? =some x9/\A.tmps[v]? =some DU:=by and_intros<;>(try simp (decide:=true) only [Fc.G,hf.size,reduceIte])<;>first | with_reducible rfl | with_reducible assumption | (simp only [sS];rfl)) (hs:A.tmps.size=a.tmps.size:=by simp only [Fc.G]) (hd:A.defers=a.defers:=by rfl):Q e A w:=Fc.q hf hs hd fun a h1 hT=>h a h1 ⟨(hT i).trans hx.1,(hT j).trans hx.2.1,(hT k).trans hx.2.2.1,(hT m).trans hx.2.2.2.1,(hT p).trans hx.2.2.2.2.1,(hT q).trans hx.2.2.2.2.2.1,(hT r).trans hx.2.2.2.2.2.2.1,(hT s).trans hx.2.2.2.2.2.2.2.1,(hT t).trans hx.2.2.2.2.2.2.2.2.1,(hT u).trans hx.2.2.2.2.2.2.2.2.2.1,(hT v).trans hx.2.2.2.2.2.2.2.2.2.2⟩
theorem TF (i j k m p q r s t u v c:Nat) {A:Act} {e:Exit} {x0 x1 x2 x3 x4 x5 x6 x7 x8 x9 DU MH:Value} (hf:Fc.K1 ds n a) (h:∀ a:Act,Fc.K1 ds n a->a.tmps[i]? =some x0/\a.tmps[j]? =some x1/\a.tmps[k]? =some x2/\a.tmps[m]? =some x3/\a.tmps[p]? =some x4/\a.tmps[q]? =some x5/\a.tmps[r]? =some x6/\a.tmps[s]? =some x7/\a.tmps[t]? =some x8/\a.tmps[u]? =some x9/\a.tmps[v]? =some DU/\a.tmps[c]? =some MH->Q e a w) (hx:A.tmps[i]? =some x0/\A.tmps[j]? =some x1/\A.tmps[k]? =some x2/\A.tmps[m]? =some x3/\A.tmps[p]? =some x4/\A.tmps[q]? =some x5/\A.tmps[r]? =some x6/\A.tmps[s]? =some x7/\A.tmps[t]? =some x8/\A.tmps[u]? =some x9/\A.tmps[v]? =some DU/\A.tmps[c]? =some MH:=by and_intros<;>(try simp (decide:=true) only [Fc.G,hf.size,reduceIte])<;>first | with_reducible rfl | with_reducible assumption | (simp only [sS];rfl)) (hs:A.tmps.size=a.tmps.size:=by simp only [Fc.G]) (hd:A.defers=a.defers:=by rfl):Q e A w:=Fc.q hf hs hd fun a h1 hT=>h a h1 ⟨(hT i).trans hx.1,(hT j).trans hx.2.1,(hT k).trans hx.2.2.1,(hT m).trans hx.2.2.2.1,(hT p).trans hx.2.2.2.2.1,(hT q).trans hx.2.2.2.2.2.1,(hT r).trans hx.2.2.2.2.2.2.1,(hT s).trans hx.2.2.2.2.2.2.2.1,(hT t).trans hx.2.2.2.2.2.2.2.2.1,(hT u).trans hx.2.2.2.2.2.2.2.2.2.1,(hT v).trans hx.2.2.2.2.2.2.2.2.2.2.1,(hT c).trans hx.2.2.2.2.2.2.2.2.2.2.2⟩
theorem JN (i j k m p q r s t u v c d:Nat) {A:Act} {e:Exit} {x0 x1 x2 x3 x4 x5 x6 x7 x8 x9 DU MH qn:Value} (hf:Fc.K1 ds n a) (h:∀ a:Act,Fc.K1 ds n a->a.tmps[i]? =some x0/\a.tmps[j]? =some x1/\a.tmps[k]? =some x2/\a.tmps[m]? =some x3/\a.tmps[p]? =some x4/\a.tmps[q]? =some x5/\a.tmps[r]? =some x6/\a.tmps[s]? =some x7/\a.tmps[t]? =some x8/\a.tmps[u]? =some x9/\a.tmps[v]? =some DU/\a.tmps[c]? =some MH/\a.tmps[d]? =some qn->Q e a w) (hx:A.tmps[i]? =some x0/\A.tmps[j]? =some x1/\A.tmps[k]? =some x2/\A.tmps[m]? =some x3/\A.tmps[p]? =some x4/\A.tmps[q]? =some x5/\A.tmps[r]? =some x6/\A.tmps[s]? =some x7/\A.tmps[t]? =some x8/\A.tmps[u]? =some x9/\A.tmps[v]? =some DU/\A.tmps[c]? =some MH/\A.tmps[d]? =some qn:=by and_intros<;>(try simp (decide:=true) only [Fc.G,hf.size,reduceIte])<;>first | with_reducible rfl | with_reducible assumption | (simp only [sS];rfl)) (hs:A.tmps.size=a.tmps.size:=by simp only [Fc.G]) (hd:A.defers=a.defers:=by rfl):Q e A w:=Fc.q hf hs hd fun a h1 hT=>h a h1 ⟨(hT i).trans hx.1,(hT j).trans hx.2.1,(hT k).trans hx.2.2.1,(hT m).trans hx.2.2.2.1,(hT p).trans hx.2.2.2.2.1,(hT q).trans hx.2.2.2.2.2.1,(hT r).trans hx.2.2.2.2.2.2.1,(hT s).trans hx.2.2.2.2.2.2.2.1,(hT t).trans hx.2.2.2.2.2.2.2.2.1,(hT u).trans hx.2.2.2.2.2.2.2.2.2.1,(hT v).trans hx.2.2.2.2.2.2.2.2.2.2.1,(hT c).trans hx.2.2.2.2.2.2.2.2.2.2.2.1,(hT d).trans hx.2.2.2.2.2.2.2.2.2.2.2.2⟩
theorem qm (i j k m p q r s t u v c d g:Nat) {A:Act} {e:Exit} {x0 x1 x2 x3 x4 x5 x6 x7 x8 x9 DU MH qn x13:Value} (hf:Fc.K1 ds n a) (h:∀ a:Act,Fc.K1 ds n a->a.tmps[i]? =some x0/\a.tmps[j]? =some x1/\a.tmps[k]? =some x2/\a.tmps[m]? =some x3/\a.tmps[p]? =some x4/\a.tmps[q]? =some x5/\a.tmps[r]? =some x6/\a.tmps[s]? =some x7/\a.tmps[t]? =some x8/\a.tmps[u]? =some x9/\a.tmps[v]? =some DU/\a.tmps[c]? =some MH/\a.tmps[d]? =some qn/\a.tmps[g]? =some x13->Q e a w) (hx:A.tmps[i]? =some x0/\A.tmps[j]? =some x1/\A.tmps[k]? =some x2/\A.tmps[m]? =some x3/\A.tmps[p]? =some x4/\A.tmps[q]? =some x5/\A.tmps[r]? =some x6/\A.tmps[s]? =some x7/\A.tmps[t]? =some x8/\A.tmps[u]? =some x9/\A.tmps[v]? =some DU/\A.tmps[c]? =some MH/\A.tmps[d]? =some qn/\A.tmps[g]? =some x13:=by and_intros<;>(try simp (decide:=true) only [Fc.G,hf.size,reduceIte])<;>first | with_reducible rfl | with_reducible assumption | (simp only [sS];rfl)) (hs:A.tmps.size=a.tmps.size:=by simp only [Fc.G]) (hd:A.defers=a.defers:=by rfl):Q e A w:=Fc.q hf hs hd fun a h1 hT=>h a h1 ⟨(hT i).trans hx.1,(hT j).trans hx.2.1,(hT k).trans hx.2.2.1,(hT m).trans hx.2.2.2.1,(hT p).trans hx.2.2.2.2.1,(hT q).trans hx.2.2.2.2.2.1,(hT r).trans hx.2.2.2.2.2.2.1,(hT s).trans hx.2.2.2.2.2.2.2.1,(hT t).trans hx.2.2.2.2.2.2.2.2.1,(hT u).trans hx.2.2.2.2.2.2.2.2.2.1,(hT v).trans hx.2.2.2.2.2.2.2.2.2.2.1,(hT c).trans hx.2.2.2.2.2.2.2.2.2.2.2.1,(hT d).trans hx.2.2.2.2.2.2.2.2.2.2.2.2.1,(hT g).trans hx.2.2.2.2.2.2.2.2.2.2.2.2.2⟩
theorem Zr (bs:List Nat) {A:Act} {W:World} {id:Nat} {l:List Oper} (hf:Fc.K1 ds n a) (h:Q .normal A W) (hr:∀ Q:Exit->Act->World->Prop,Hid (Q .normal A W)->Bs bs a->Fc.L P l.toArray Q l a w:=by intro Q Z bB;simp only [Bs] at bB;(repeat first | refine Zb ?_ | refine Zi ?_ | refine Za ?_ | refine Zg ?_ | refine Zk ?_ | refine Zu ?_);exact Fc.nil Z.out) (jZ:(bs.all fun t=>Nat.blt t n)=true:=by rfl):(Code.region id l.toArray false).wp P Q a w:=Fc.region (hr _ (Lib.hid h) (Bs.of hf bs jZ))
theorem Zn0 (n:Nat) {f:FuncId} {fn:Func} {c:Code} {R:Ending->World->Prop} (hF:P.funcs[f]? =some fn) (h:∀ a:Act,Fc.Fr n a->c.wp P (bodyPost P fn R) a w) (hb:fn.body=some c:=by rfl) (hn:Nat.beq fn.ntmps n&&Nat.ble 0 n:=by kernel_rfl):Calls P f #[] w R:=by
 rw [Bool.and_eq_true] at hn
 refine calls_of_wp hF hb (Fc.enter (l:=[]) (n:=n) ?_ fun a hf hT=>h a hf)
 have h1:=Nat.eq_of_beq_eq_true hn.1;have h2:=Nat.le_of_ble_eq_true hn.2;show 0+(fn.ntmps-0)=n;omega
theorem L7 (n:Nat) {f:FuncId} {fn:Func} {c:Code} {x0:Value} {R:Ending->World->Prop} (hF:P.funcs[f]? =some fn) (h:∀ a:Act,Fc.Fr n a->a.tmps[0]? =some x0->c.wp P (bodyPost P fn R) a w) (hb:fn.body=some c:=by rfl) (hn:Nat.beq fn.ntmps n&&Nat.ble 1 n:=by kernel_rfl):Calls P f #[x0] w R:=by
 rw [Bool.and_eq_true] at hn
 refine calls_of_wp hF hb (Fc.enter (l:=[x0]) (n:=n) ?_ fun a hf hT=>h a hf (hT 0 _ rfl))
 have h1:=Nat.eq_of_beq_eq_true hn.1;have h2:=Nat.le_of_ble_eq_true hn.2;show 1+(fn.ntmps-1)=n;omega
theorem Z6 (n:Nat) {f:FuncId} {fn:Func} {c:Code} {x0 x1:Value} {R:Ending->World->Prop} (hF:P.funcs[f]? =some fn) (h:∀ a:Act,Fc.Fr n a->a.tmps[0]? =some x0->a.tmps[1]? =some x1->c.wp P (bodyPost P fn R) a w) (hb:fn.body=some c:=by rfl) (hn:Nat.beq fn.ntmps n&&Nat.ble 2 n:=by kernel_rfl):Calls P f #[x0,x1] w R:=by
 rw [Bool.and_eq_true] at hn
 refine calls_of_wp hF hb (Fc.enter (l:=[x0,x1]) (n:=n) ?_ fun a hf hT=>h a hf (hT 0 _ rfl) (hT 1 _ rfl))
 have h1:=Nat.eq_of_beq_eq_true hn.1;have h2:=Nat.le_of_ble_eq_true hn.2;show 2+(fn.ntmps-2)=n;omega
theorem dT (n:Nat) {f:FuncId} {fn:Func} {c:Code} {x0 x1 x2:Value} {R:Ending->World->Prop} (hF:P.funcs[f]? =some fn) (h:∀ a:Act,Fc.Fr n a->a.tmps[0]? =some x0->a.tmps[1]? =some x1->a.tmps[2]? =some x2->c.wp P (bodyPost P fn R) a w) (hb:fn.body=some c:=by rfl) (hn:Nat.beq fn.ntmps n&&Nat.ble 3 n:=by kernel_rfl):Calls P f #[x0,x1,x2] w R:=by
 rw [Bool.and_eq_true] at hn
 refine calls_of_wp hF hb (Fc.enter (l:=[x0,x1,x2]) (n:=n) ?_ fun a hf hT=>h a hf (hT 0 _ rfl) (hT 1 _ rfl) (hT 2 _ rfl))
 have h1:=Nat.eq_of_beq_eq_true hn.1;have h2:=Nat.le_of_ble_eq_true hn.2;show 3+(fn.ntmps-3)=n;omega
theorem Zn4 (n:Nat) {f:FuncId} {fn:Func} {c:Code} {x0 x1 x2 x3:Value} {R:Ending->World->Prop} (hF:P.funcs[f]? =some fn) (h:∀ a:Act,Fc.Fr n a->a.tmps[0]? =some x0->a.tmps[1]? =some x1->a.tmps[2]? =some x2->a.tmps[3]? =some x3->c.wp P (bodyPost P fn R) a w) (hb:fn.body=some c:=by rfl) (hn:Nat.beq fn.ntmps n&&Nat.ble 4 n:=by kernel_rfl):Calls P f #[x0,x1,x2,x3] w R:=by
 rw [Bool.and_eq_true] at hn
 refine calls_of_wp hF hb (Fc.enter (l:=[x0,x1,x2,x3]) (n:=n) ?_ fun a hf hT=>h a hf (hT 0 _ rfl) (hT 1 _ rfl) (hT 2 _ rfl) (hT 3 _ rfl))
 have h1:=Nat.eq_of_beq_eq_true hn.1;have h2:=Nat.le_of_ble_eq_true hn.2;show 4+(fn.ntmps-4)=n;omega
theorem Zn5 (n:Nat) {f:FuncId} {fn:Func} {c:Code} {x0 x1 x2 x3 x4:Value} {R:Ending->World->Prop} (hF:P.funcs[f]? =some fn) (h:∀ a:Act,Fc.Fr n a->a.tmps[0]? =some x0->a.tmps[1]? =some x1->a.tmps[2]? =some x2->a.tmps[3]? =some x3->a.tmps[4]? =some x4->c.wp P (bodyPost P fn R) a w) (hb:fn.body=some c:=by rfl) (hn:Nat.beq fn.ntmps n&&Nat.ble 5 n:=by kernel_rfl):Calls P f #[x0,x1,x2,x3,x4] w R:=by
 rw [Bool.and_eq_true] at hn
 refine calls_of_wp hF hb (Fc.enter (l:=[x0,x1,x2,x3,x4]) (n:=n) ?_ fun a hf hT=>h a hf (hT 0 _ rfl) (hT 1 _ rfl) (hT 2 _ rfl) (hT 3 _ rfl) (hT 4 _ rfl))
 have h1:=Nat.eq_of_beq_eq_true hn.1;have h2:=Nat.le_of_ble_eq_true hn.2;show 5+(fn.ntmps-5)=n;omega
end
theorem ad {p q:Prop} (h:p) (g:q):p/\q:=⟨h,g⟩
namespace Sb
section
variable {P:Program} {Q:Exit->Act->World->Prop} {a0:Act} {w0:World} {ps:List Pr}
def dat (l:List Oper) (k:Nat):List Nat:=match l[k]? with
 | some o=>(o.after.toList.filter fun e=>match e.ground with | .data=>true | _=>false).map fun e=>e.on
 | none=>[]
theorem dp (i:Nat) {l:List Oper} {k j d:Nat} {V:Value} {o:Oper} {a:Act} {w:World} (hd:Hid (Deps l.toArray a0 ps k a w)) (hj:(dat l k)[i]? =some j:=by rfl) (hp:ps[k-1-j]? =some (Is V):=by rfl) (ho:l[j]? =some o:=by rfl) (E0:o.dst=some d:=by rfl) (hb:Nat.blt j k=true:=by rfl) (hk:ps.length=k:=by rfl) (Y1:isPath l k [] j=true:=by kernel_rfl):a.tmps[d]? =some V:=by
 have:=Nat.le_of_ble_eq_true hb
 exact u j (k-1-j) hd hk (by omega) [] Y1 hp ho E0
theorem gu {l:List Oper} {k g d:Nat} {V:Value} {o:Oper} {a:Act} {w:World} (hd:Hid (Deps l.toArray a0 ps k a w)) (hp:ps[k-1-g]? =some (Is V)) (ho:l[g]? =some o) (E0:o.dst=some d) (hb:Nat.blt g k=true) (hk:ps.length=k) (Y1:isPath l k [] g=true):a.tmps[d]? =some V:=by
 have:=Nat.le_of_ble_eq_true hb
 exact u g (k-1-g) hd hk (by omega) [] Y1 hp ho E0
theorem T (k:Nat) {id n:Nat} {l:List Oper} {o:Oper} {V:Value} {F:Act->World->Prop} (hf:Fc.K1 ds n a0) (a6:Hid (OkOps l.toArray n)) (rest:D3 X P id l.toArray Q a0 w0 (Is V::ps)) (hF:∀ a w,Here l.toArray a0 w0 a w->Hid (Deps l.toArray a0 ps k a w)->F a w:=by intros;exact trivial) (ho:l[k]? =some o:=by rfl) (hg:o.guard=none:=by rfl)
  (h:∀ a w,F a w->Hid (Deps l.toArray a0 ps k a w)->∀ K:Act->World->Prop,Hid (K (a.put o.dst V) w)->o.wp P a w K Q:=by intro a w sT hd K Z;(try have g0:=Sb.dp 0 hd);(try have g1:=Sb.dp 1 hd);(try have g2:=Sb.dp 2 hd);(try have g3:=Sb.dp 3 hd);clear hd;go_simp;(try simp (disch:=omega) only [Fc.W]);(try rw [if_pos (by omega)]);exact Z.out) (hk:ps.length=k:=by rfl):D3 X P id l.toArray Q a0 w0 ps :=
 tq k V hf a6 (fun a w h1 h2 _ K hK=>h a w (hF a w h1 h2) h2 K (Lib.hid (Sb.k hK ho))) rest hk ho hg
theorem Tg (k:Nat) {id n:Nat} {l:List Oper} {o og:Oper} {g d:Nat} {b:Bool} {V:Value} {F:Act->World->Prop} (hf:Fc.K1 ds n a0) (a6:Hid (OkOps l.toArray n)) (rest:D3 X P id l.toArray Q a0 w0 (Is V::ps)) (hF:∀ a w,Here l.toArray a0 w0 a w->Hid (Deps l.toArray a0 ps k a w)->F a w:=by intros;exact trivial) (ho:l[k]? =some o:=by rfl) (hg:o.guard=some (g,b):=by rfl) (bV:l[g]? =some og:=by rfl) (hd:og.dst=some d:=by rfl) (hb:Nat.blt g k=true:=by rfl) (Y1:isPath l k [] g=true:=by kernel_rfl) (hp:ps[k-1-g]? =some (Is (.bool b)):=by rfl)
  (h:∀ a w,F a w->Hid (Deps l.toArray a0 ps k a w)->∀ K:Act->World->Prop,Hid (K (a.put o.dst V) w)->o.wp P a w K Q:=by intro a w sT hd K Z;(try have g0:=Sb.dp 0 hd);(try have g1:=Sb.dp 1 hd);(try have g2:=Sb.dp 2 hd);(try have g3:=Sb.dp 3 hd);clear hd;go_simp;(try simp (disch:=omega) only [Fc.W]);(try rw [if_pos (by omega)]);exact Z.out) (hk:ps.length=k:=by rfl):D3 X P id l.toArray Q a0 w0 ps :=
 tr k V hf a6 (fun a w h1 h2 _ K hK=>op_guard ho hg bV hd (gu h2 hp bV hd hb hk Y1) (h a w (hF a w h1 h2) h2 K (Lib.hid (Sb.k hK ho)))) rest hk
theorem Tk (k:Nat) {id n:Nat} {l:List Oper} {o og:Oper} {g d:Nat} {b c:Bool} (hf:Fc.K1 ds n a0) (a6:Hid (OkOps l.toArray n)) (rest:D3 X P id l.toArray Q a0 w0 (Is undef::ps)) (ho:l[k]? =some o:=by rfl) (hg:o.guard=some (g,b):=by rfl) (bV:l[g]? =some og:=by rfl) (hd:og.dst=some d:=by rfl) (hb:Nat.blt g k=true:=by rfl) (Y1:isPath l k [] g=true:=by kernel_rfl) (hp:ps[k-1-g]? =some (Is (.bool c)):=by rfl) (hc:c= !b:=by rfl) (hk:ps.length=k:=by rfl):D3 X P id l.toArray Q a0 w0 ps :=
 tr k undef hf a6 (fun a w h1 h2 _ K hK=>op_skip ho hg bV hd (hc▸gu h2 hp bV hd hb hk Y1) (Sb.k hK ho)) rest hk
theorem Tu (k:Nat) {id n:Nat} {l:List Oper} {o og:Oper} {g d:Nat} {b:Bool} (hf:Fc.K1 ds n a0) (a6:Hid (OkOps l.toArray n)) (rest:D3 X P id l.toArray Q a0 w0 (Is undef::ps)) (ho:l[k]? =some o:=by rfl) (hg:o.guard=some (g,b):=by rfl) (bV:l[g]? =some og:=by rfl) (hd:og.dst=some d:=by rfl) (hb:Nat.blt g k=true:=by rfl) (Y1:isPath l k [] g=true:=by kernel_rfl) (hp:ps[k-1-g]? =some (Is undef):=by rfl) (hk:ps.length=k:=by rfl):D3 X P id l.toArray Q a0 w0 ps :=
 tr k undef hf a6 (fun a w h1 h2 _ K hK=>op_skip' ho hg bV hd (gu h2 hp bV hd hb hk Y1) (Sb.k hK ho)) rest hk
theorem E {id n:Nat} {l:List Oper} {F:Act->World->Prop} (hf:Fc.K1 ds n a0) (a6:Hid (OkOps l.toArray n)) (hF:∀ a w,Here l.toArray a0 w0 a w->Hid (∀ i,i<l.length->Got l.toArray ps i a w)->F a w) (h:∀ a w,Fc.K1 ds n a->Below w0.heap.size w0 w->F a w->Q .normal a w) (hlen:ps.length=l.length:=by rfl) (hm:P.follows .mixedOrders=true:=by kernel_rfl):fC P id l.toArray Q a0 w0 ps :=
 tf hf a6 (fun a w h1 h2=>h a w (h1.fr hf) h1.ext (hF a w h1 h2)) hlen hm
end
end Sb
open Go.RowKit
abbrev E2 (w:World) (f:FuncId) (args:Array Value) (v:Value):Prop:=Calls Tryz.prog f args w fun e w1=>e= .returned v∧Below w.heap.size w w1
theorem H9 {p:Prop} (h:p):Hid p:=Lib.hid h
theorem oM {p:Prop} (h:p:=by omega):p:=h
theorem kR {p:Prop} (h:p:=by kernel_rfl):p:=h
theorem dC {p:Prop} (h:p:=by decide):p:=h
theorem sP {p:Prop} (h:p:=by simp):p:=h
theorem sO {p:Prop} (h:p:=by simp;omega):p:=h
theorem sQ {p:Prop} (h:p:=by simp only;omega):p:=h
theorem qT {p:Prop} (h:p:=by have h9:=of_decide_eq_true hq;omega):p:=h
theorem qF {p:Prop} (h:p:=by have h9:=of_decide_eq_false hq;omega):p:=h
theorem nR {n:Nat}:n≤n:=Nat.le_refl _
end Go.Proofs.YtcddnmhmcieebaaGreatDoor
