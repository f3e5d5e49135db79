/- Dawg: the code's way, in plain Lean: states, the registry, the states along the last word. -/
import Derived.Below
import Derived.Test.YtcddnmhmcieebaaGreatDoorProg
import Derived.Test.YtcddnmhmcieebaaGreatDoorTools
import Derived.WalkKit
import Derived.WalkSpells
import Derived.Deep.OwnRows
import Derived.Laws.OwnMore
import Derived.Deep.RegionHeld3
import Derived.Maps.AppendAt
import Derived.OwnWalk
import Derived.Laws.ResultCell
import Derived.Test.YtcddnmhmcieebaaGreatDoorShelf
import Derived.Lib.AppendStr
import Derived.Lib.OthersKept
import Derived.Lib.UnsafeStr
import Derived.Laws.Externs
import Derived.Laws.IdiomCopy
import Derived.Laws.BitsLemmas
namespace Go.Proofs.YtcddnmhmcieebaaGreatDoor
set_option maxHeartbeats 2000000
set_option maxRecDepth 100000
set_option linter.unusedSimpArgs false
set_option linter.unusedVariables false
namespace Dw
structure r7 where
 byte:Nat
 out:Nat
 to:Int
instance:DecidableEq r7:=fun a b=>decidable_of_iff (a.byte=b.byte/\a.out=b.out/\a.to=b.to) (by cases a;cases b;simp)
structure State where
 final:Bool
 out:Nat
 a6:List r7
instance:DecidableEq State:=fun a b=>decidable_of_iff (a.final=b.final/\a.out=b.out/\a.a6=b.a6) (by cases a;cases b;simp)
def E1:State:=⟨false,0,[]⟩
structure Open where
 st:State
 cN:Nat
abbrev Wv:=List Nat×Nat
def finish (ss:List State) (s:State):List State×Nat :=
 match ss.findIdx? (. =s) with
 | some i=>(ss,i)
 | none=>(ss++[s],ss.length)
def leastOf (s:State):Nat :=
 match (if s.final then [s.out] else [])++s.a6.map r7.out with
 | []=>s.out
 | x::l=>l.foldl min x
def less (s:State) (n:Nat):State:=⟨s.final,if s.final then s.out-n else s.out,s.a6.map fun a=>⟨a.byte,a.out-n,a.to⟩⟩
def G6 (ss:List State) (up o:Open):List State×Open :=
 let n:=leastOf o.st
 let r:=finish ss (less o.st n)
 (r.1,⟨⟨up.st.final,up.st.out,up.st.a6++[⟨o.cN,n,(r.2:Int)⟩]⟩,up.cN⟩)
def closeN:Nat->List State->List Open->List State×List Open
 | n+1,ss,o::up::o6=>closeN n (G6 ss up o).1 ((G6 ss up o).2::o6)
 | _,ss,o6=>(ss,o6)
def close (ss:List State) (o6:List Open) (depth:Nat):List State×List Open:=closeN (o6.length-(depth+1)) ss o6
def shared:List Nat->List Nat->Nat
 | x::a,y::b=>if x=y then shared a b+1 else 0
 | _,_=>0
def opens (o6:List Open):List Nat->List Open
 | []=>o6
 | b::w=>opens (⟨E1,b⟩::o6) w
def mark (v:Nat):List Open->List Open
 | o::o6=>⟨⟨true,v,o.st.a6⟩,o.cN⟩::o6
 | []=>[]
def add (x:List State×List Open) (last:List Nat) (e:Wv):List State×List Open :=
 let d:=shared last e.1
 let r:=close x.1 x.2 d
 (r.1,mark e.2 (opens r.2 (e.1.drop d)))
def adds (x:List State×List Open):List Nat->List Wv->List State×List Open
 | _,[]=>x
 | last,e::l=>adds (add x last e) e.1 l
structure Fst where
 l3:List State
 init:Nat
def build (l:List Wv):Fst :=
 let x:=adds ([],[⟨E1,0⟩]) [] l
 let r:=close x.1 x.2 0
 let root:=(r.2.headD ⟨E1,0⟩).st
 let n:=leastOf root
 ⟨(finish r.1 (less root n)).1,n⟩
/-! the document's -/
def leastV:List Wv->Nat
 | []=>0
 | e::l=>l.foldl (fun n x=>min n x.2) e.2
def v8l:Nat->List State->List Wv->Nat->Nat->List State×Nat
 | 0,ss,_,_,_=>(ss,0)
 | f+1,ss,l,depth,le =>
  let x:=(List.range l.length).foldl (fun (x:List State×List r7) i =>
   match (l.getD i ([],0)).1[depth]? with
   | none=>x
   | some b=>if (x.2.getLast?.map r7.byte)=some b then x else
    let own:=(l.drop i).filter fun e=>decide (e.1[depth]? =some b)
    let n:=leastV own
    let r:=v8l f x.1 own (depth+1) n
    (r.1,x.2++[⟨b,n-le,(r.2:Int)⟩])) (ss,[])
  let fo:=l.foldl (fun (y:Bool×Nat) e=>if e.1.length=depth then (true,e.2-le) else y) (false,0)
  finish x.1 ⟨fo.1,fo.2,x.2⟩
end Dw
open Go.RowKit
theorem C8 {w:World} {p:Addr} {v:Value} (h:w.cell? p=some v):p.block<w.heap.size:=by
 unfold World.cell? at h
 rcases Nat.lt_or_ge p.block w.heap.size with n8 | nL
 ·exact n8
 ·rw [Array.getElem?_eq_none nL] at h;cases h
theorem n4.cell {S:Nat->Prop} {w w':World} (hb:n4 S w w') {p:Addr} {v:Value} (h:w.cell? p=some v) (hn:¬ S p.block):w'.cell? p=some v :=
 (World.cell?_of_block (hb.block p.block (C8 h) hn)).trans h
theorem n4.heap {S:Nat->Prop} {w w':World} (hb:n4 S w w') {k:Nat} {o:Obj} (h:w.heap[k]? =some o) (hn:¬ S k):w'.heap[k]? =some o :=
 (hb.block k (Array.getElem?_eq_some_iff.1 h).1 hn).trans h
theorem j4 {w:World} {k:Nat} {o:Obj} (h:w.heap[k]? =some o):k<w.heap.size:=(Array.getElem?_eq_some_iff.1 h).1
theorem n4.setCell {S:Nat->Prop} {w:World} {p:Addr} (hp:S p.block) (u:Value):n4 S w (w.setCell p u) :=
 ⟨rfl,rfl,rfl,by simp [World.setCell],fun k hk hn=>Below.heap_setCell _ _ _ _ (fun e=>hn (e▸hp))⟩
theorem n4.alloc {S:Nat->Prop} (w:World) (o:Obj):n4 S w (w.alloc o):=n4.of S ((Below.refl _ w).alloc nR o)
theorem n4.grown {S:Nat->Prop} {w w':World} {row:Option Nat} (hg:w.grownBy w' row) (hr:∀ k,row=some k->S k):n4 S w w' :=
 ⟨hg.os,hg.tape,hg.output,hg.size,fun k hk hn=>hg.block k hk (fun e=>hn (hr k e.symm))⟩
theorem n4.below {S:Nat->Prop} {w w':World} {B:Nat} (h:n4 S w w') (hB:B<=w.heap.size) (hS:∀ k,S k->B<=k):Below B w w' :=
 ⟨h.os,h.tape,h.output,h.size,fun k hk=>h.block k oM (fun hs=>by have:=hS k hs;omega)⟩
theorem n4.grownBy {S:Nat->Prop} {w w':World} (h:n4 S w w') (hS:∀ k,k<w.heap.size->¬ S k):w.grownBy w' none:=⟨h.os,h.tape,h.output,h.size,fun k hk _=>h.block k hk (hS k hk)⟩
namespace Dw
/-! general -/
theorem cL {w w':World} (hb:Below w.heap.size w w') {p:Addr} {v:Value} (h:w.cell? p=some v):w'.cell? p=some v:=(hb.cell (C8 h)).trans h
theorem xU {w w':World} (hb:Below w.heap.size w w') {p:Addr} {v:Value} (h:w.cell? p=some v) (hf:w.frozen? p=false):w'.frozen? p=false:=(hb.frozen (C8 h)).trans hf
theorem D1 {w w':World} {B:Nat} {p:Addr} {v:Value} (hb:Below B w w') (h:w.cell? p=some v) (hp:p.block<B):w'.cell? p=some v:=(hb.cell hp).trans h
theorem j5 {w:World} {g i:Nat} {t:TypeId} {cs:Array Value} {fr:Nat×Nat} (h:w.heap[g]? =some (.cells cs t fr)) (u:Value):(w.setCell ⟨g,i,none⟩ u).heap[g]? =some (.cells (cs.setIfInBounds i u) t fr):=by
 simp [World.setCell,Array.getElem?_modify,h]
theorem j3 {w:World} {g i:Nat} {t:TypeId} {cs:Array Value} (h:w.heap[g]? =some (.cells cs t (0,0))):w.frozen? ⟨g,i,none⟩=false:=by simp [World.frozen?,h]
theorem u6 {w:World} (o:Obj) (k:Nat):(w.alloc o).heap[k]? =if k=w.heap.size then some o else w.heap[k]? :=by
 show (w.heap.push o)[k]? =_
 rw [Array.getElem?_push]
theorem y7 {S:Nat->Prop} {w w':World} {base n size:Nat} {e:TypeId} {v:Value} {xs:List Value} (h:w.ownsRow base e size v n xs) (hb:n4 S w w') (hn:∀ k,v.ownBlock=some k->¬ S k):w'.ownsRow base e size v n xs:=by
 refine ⟨h.1,?_⟩
 rcases h.2 with h1 | ⟨g,cap,cur,rfl,h2,h3,h4⟩
 ·exact .inl h1
 ·exact .inr ⟨g,cap,cur,rfl,h2,hb.heap h3 (hn g rfl),h4⟩
theorem l5 {w w':World} {base n size:Nat} {e:TypeId} {v:Value} {xs:List Value} (h:w.ownsRow base e size v n xs) (hb:Below w.heap.size w w'):w'.ownsRow base e size v n xs :=
 y7 h (n4.of (fun _=>False) hb) (fun _ _ hf=>hf)
theorem L8 {w:World} {base z0l n size:Nat} {e:TypeId} {v:Value} {xs:List Value} (h:w.ownsRow base e size v n xs) (hb:z0l<=base):w.ownsRow z0l e size v n xs:=by
 refine ⟨h.1,?_⟩
 rcases h.2 with h1 | ⟨g,cap,cur,h1,h2,h3⟩
 ·exact .inl h1
 ·exact .inr ⟨g,cap,cur,h1,oM,h3⟩
/-! fresh boxes -/
theorem G1 {w W:World} {x y z:Value} {t:TypeId} (h:w.alloc (.cells #[x,y,z] t)=W):Below w.heap.size w W/\W.cell? ⟨w.heap.size,0,none⟩=some x/\W.cell? ⟨w.heap.size,1,none⟩=some y/\W.cell? ⟨w.heap.size,2,none⟩=some z /\
  W.heap[w.heap.size]? =some (.cells #[x,y,z] t (0,0))/\W.heap.size=w.heap.size+1:=by
 subst h
 have hh:=heap_alloc_new w (.cells #[x,y,z] t)
 exact ⟨(Below.refl _ _).alloc nR _,cell_of_row _ _ 0 _ t (0,0) hh,cell_of_row _ _ 1 _ t (0,0) hh,cell_of_row _ _ 2 _ t (0,0) hh,hh,sP⟩
theorem w6d {w W:World} {x y z u:Value} {t:TypeId} (h:w.alloc (.cells #[x,y,z,u] t)=W):Below w.heap.size w W/\W.cell? ⟨w.heap.size,0,none⟩=some x/\W.cell? ⟨w.heap.size,1,none⟩=some y/\W.cell? ⟨w.heap.size,2,none⟩=some z/\W.cell? ⟨w.heap.size,3,none⟩=some u /\
  W.heap[w.heap.size]? =some (.cells #[x,y,z,u] t (0,0))/\W.heap.size=w.heap.size+1:=by
 subst h
 have hh:=heap_alloc_new w (.cells #[x,y,z,u] t)
 exact ⟨(Below.refl _ _).alloc nR _,cell_of_row _ _ 0 _ t (0,0) hh,cell_of_row _ _ 1 _ t (0,0) hh,cell_of_row _ _ 2 _ t (0,0) hh,cell_of_row _ _ 3 _ t (0,0) hh,hh,sP⟩
theorem Z8 {w W:World} {x y:Value} {t:TypeId} (h:w.alloc (.cells #[x,y] t)=W):Below w.heap.size w W/\W.cell? ⟨w.heap.size,0,none⟩=some x/\W.cell? ⟨w.heap.size,1,none⟩=some y /\
  W.heap[w.heap.size]? =some (.cells #[x,y] t (0,0))/\W.heap.size=w.heap.size+1:=by
 subst h
 have hh:=heap_alloc_new w (.cells #[x,y] t)
 exact ⟨(Below.refl _ _).alloc nR _,cell_of_row _ _ 0 _ t (0,0) hh,cell_of_row _ _ 1 _ t (0,0) hh,hh,sP⟩
theorem nU {w W:World} {x:Value} {t:TypeId} (h:w.alloc (.cells #[x] t)=W):Below w.heap.size w W/\W.cell? ⟨w.heap.size,0,none⟩=some x /\
  W.heap[w.heap.size]? =some (.cells #[x] t (0,0))/\W.heap.size=w.heap.size+1:=by
 subst h
 have hh:=heap_alloc_new w (.cells #[x] t)
 exact ⟨(Below.refl _ _).alloc nR _,cell_of_row _ _ 0 _ t (0,0) hh,hh,sP⟩
/-! a6 -/
def r7.cells (a:r7):List Value:=[.int .u8 a.byte,.int .u64 a.out,.int .i64 a.to]
def nG (l:List r7):List Value:=l.flatMap r7.cells
theorem P8 (l:List r7):(nG l).length=l.length*3:=by
 induction l with
 | nil=>rfl
 | cons e l ih=>simp only [nG,List.flatMap_cons,List.length_append,List.length_cons] at ih |-;rw [ih];simp [r7.cells];omega
theorem jL (l:List r7) (i j:Nat) (hi:i<l.length) (hj:j<3):(nG l)[i*3+j]? =(l[i]).cells[j]? :=by
 induction l generalizing i with
 | nil=>simp at hi
 | cons e l ih =>
  simp only [nG,List.flatMap_cons]
  cases i with
  | zero=>rw [List.getElem?_append_left (by simp [r7.cells];omega)];simp
  | succ i =>
   rw [List.getElem?_append_right (by simp [r7.cells];omega)]
   have:=ih i (by simpa using hi)
   simp only [nG] at this
   simp only [List.getElem_cons_succ]
   rw [<- this];congr 1;simp [r7.cells];omega
theorem cY (a b:List r7):nG (a++b)=nG a++nG b:=by simp [nG]
def RA (w:World) (B:Nat->Prop) (v:Value) (l:List r7):Prop :=
 ∃ (A:Option Addr) (c:Nat),v= .slice A l.length c/\l.length<=c/\(0<l.length->∃ b off,A=some ⟨b,off,none⟩/\B b/\∀ j u,(nG l)[j]? =some u->w.cell? ⟨b,off+j,none⟩=some u)
section
variable {w w':World} {S B B':Nat->Prop} {v:Value} {l:List r7}
theorem RA.but (h:RA w B v l) (hb:n4 S w w') (hn:∀ k,B k->¬ S k):RA w' B v l:=by
 obtain ⟨A,c,h1,h2,h3⟩:=h
 refine ⟨A,c,h1,h2,fun h0=> ?_⟩
 obtain ⟨b,off,h4,h5,h6⟩:=h3 h0
 exact ⟨b,off,h4,h5,fun j u hu=>hb.cell (h6 j u hu) (hn b h5)⟩
theorem RA.later (h:RA w B v l) (hb:Below w.heap.size w w'):RA w' B v l:=h.but (n4.of (fun _=>False) hb) (fun _ _ hf=>hf)
theorem RA.more (h:RA w B v l) (hB:∀ k,k<w.heap.size->B k->B' k):RA w B' v l:=by
 obtain ⟨A,c,h1,h2,h3⟩:=h
 refine ⟨A,c,h1,h2,fun h0=> ?_⟩
 obtain ⟨b,off,h4,h5,h6⟩:=h3 h0
 have n8:b<w.heap.size:=C8 (h6 0 _ (D9 (by rw [P8];omega)))
 exact ⟨b,off,h4,hB b n8 h5,h6⟩
theorem RA.S0:RA w B (.slice none 0 0) []:=⟨none,0,rfl,sP,fun h=>absurd h sP⟩
theorem RA.form (h:RA w B v l):∃ (A:Option Addr) (c:Nat),v= .slice A l.length c/\l.length<=c:=by
 obtain ⟨A,c,h1,h2,_⟩:=h
 exact ⟨A,c,h1,h2⟩
theorem RA.at_ {A:Option Addr} {n c:Nat} (h:RA w B (.slice A n c) l) {i:Nat} (hi:i<l.length):∃ b off,A=some ⟨b,off,none⟩/\b<w.heap.size/\w.cell? ⟨b,off+i*3,none⟩=some (.int .u8 (l[i]).byte) /\
  w.cell? ⟨b,off+i*3+1,none⟩=some (.int .u64 (l[i]).out)/\w.cell? ⟨b,off+i*3+2,none⟩=some (.int .i64 (l[i]).to):=by
 obtain ⟨A,c,h1,h2,h3⟩:=h
 injection h1 with h1
 obtain ⟨b,off,h4,h5,h6⟩:=h3 oM
 have k:∀ j,j<3->∀ u,(l[i]).cells[j]? =some u->w.cell? ⟨b,off+(i*3+j),none⟩=some u:=fun j hj u hu=>h6 _ _ (by rw [jL l i j hi hj];exact hu)
 refine ⟨b,off,h1.trans h4,?_,k 0 oM _ rfl,k 1 oM _ rfl,k 2 oM _ rfl⟩
 exact C8 (k 0 oM _ rfl)
theorem RA.at' {A:Option Addr} {n c:Nat} (h:RA w B (.slice A n c) l) {i:Nat} {a:r7} (hi:l[i]? =some a):∃ b off,A=some ⟨b,off,none⟩/\b<w.heap.size/\w.cell? ⟨b,off+i*3,none⟩=some (.int .u8 a.byte) /\
  w.cell? ⟨b,off+i*3+1,none⟩=some (.int .u64 a.out)/\w.cell? ⟨b,off+i*3+2,none⟩=some (.int .i64 a.to):=by
 obtain ⟨n8,rfl⟩:=E2 hi
 exact h.at_ n8
end
abbrev OA (w:World) (base:Nat) (v:Value) (l:List r7):Prop:=w.ownsRow base 71 3 v l.length (nG l)
theorem OA.ra {w:World} {base:Nat} {v:Value} {l:List r7} {B:Nat->Prop} (h:OA w base v l) (hB:∀ k,v.ownBlock=some k->B k):RA w B v l:=by
 rcases h.2 with ⟨rfl,h0⟩ | ⟨g,cap,cur,rfl,_,hh,hc,_⟩
 ·obtain rfl:l=[]:=List.eq_nil_of_length_eq_zero h0
  exact RA.S0
 ·refine ⟨_,_,rfl,hc,fun _=>⟨g,0,rfl,hB g rfl,fun j u hu=> ?_⟩⟩
  have:=h.cellAt j (by rw [<- P8];exact (E2 hu).1)
  rw [Nat.zero_add,this,hu]
theorem OA.S0 (w:World) (base:Nat):OA w base (.slice none 0 0) []:=World.ownsRow_nil _ _ _ _
theorem OA.own {w:World} {base:Nat} {v:Value} {l:List r7} (h:OA w base v l) (h0:0<l.length):∃ b c,v= .slice (some ⟨b,0,none⟩) l.length c/\base<=b/\b<w.heap.size:=by
 rcases h.2 with ⟨_,h1⟩ | ⟨g,cap,cur,rfl,h2,h3,_⟩
 ·omega
 ·exact ⟨g,cap,rfl,h2,j4 h3⟩
theorem OA.cell {w:World} {base b c n:Nat} {l:List r7} (h:OA w base (.slice (some ⟨b,0,none⟩) n c) l) {i:Nat} {a:r7} (hi:l[i]? =some a):w.cell? ⟨b,i*3,none⟩=some (.int .u8 a.byte)/\w.cell? ⟨b,i*3+1,none⟩=some (.int .u64 a.out)/\w.cell? ⟨b,i*3+2,none⟩=some (.int .i64 a.to):=by
 have h2:=OA.ra (B:=fun _=>True) h (fun _ _=>trivial)
 obtain ⟨b',off,e,_,h3,h4,h5⟩:=h2.at' hi
 injection e with e
 injection e with e1 e2
 subst e1
 subst e2
 rw [Nat.zero_add] at h3 h4 h5
 exact ⟨h3,h4,h5⟩
theorem OA.out {w:World} {base b c n:Nat} {l:List r7} (h:OA w base (.slice (some ⟨b,0,none⟩) n c) l) {i:Nat} {a:r7} (hi:l[i]? =some a) (hn:n=l.length) (x:Nat) :
  OA (w.setCell ⟨b,i*3+1,none⟩ (.int .u64 x)) base (.slice (some ⟨b,0,none⟩) n c) (l.set i ⟨a.byte,x,a.to⟩):=by
 subst hn
 have h1:=(h.stored (i*3+1) (.int .u64 x)).1
 have n8:=(E2 hi).1
 have hc:nG (l.set i ⟨a.byte,x,a.to⟩)=(nG l).set (i*3+1) (.int .u64 x):=by
  refine List.ext_getElem? fun t=> ?_
  by_cases ht:t<l.length*3
  ·have e1:=jL (l.set i ⟨a.byte,x,a.to⟩) (t / 3) (t%3) sO oM
   rw [show t / 3*3+t%3=t by omega] at e1
   have e0:=jL l (t / 3) (t%3) oM oM
   rw [show t / 3*3+t%3=t by omega] at e0
   rw [e1,List.getElem?_set,e0]
   by_cases hti:t / 3=i
   ·have h3:t=i*3\/t=i*3+1\/t=i*3+2:=oM
    have hg:(l.set i ⟨a.byte,x,a.to⟩)[t / 3]'(by simp;omega)=⟨a.byte,x,a.to⟩:=by simp [hti]
    have hg2:l[t / 3]'(by omega)=a:=by
     have:=(E2 hi).2
     simp only [hti];exact this
    rw [hg,hg2]
    rcases h3 with e | e | e
    ·subst e;rw [show i*3%3=0 by omega,if_neg (by omega)];rfl
    ·subst e;rw [show (i*3+1)%3=1 by omega,if_pos rfl,if_pos (by rw [P8];omega)];rfl
    ·subst e;rw [show (i*3+2)%3=2 by omega,if_neg (by omega)];rfl
   ·have hg:(l.set i ⟨a.byte,x,a.to⟩)[t / 3]'(by simp;omega)=l[t / 3]'(by omega):=by rw [List.getElem_set_ne (fun e=>hti e.symm)]
    rw [hg,if_neg (by omega)]
  ·rw [List.getElem?_eq_none (by rw [P8];simp;omega),List.getElem?_eq_none (by rw [List.length_set,P8];omega)]
 unfold OA
 rw [hc,List.length_set]
 exact h1
/-! a state at an address -/
structure SAt (w:World) (B:Nat->Prop) (g o:Nat) (av:Value) (s:State):Prop where
 c0:w.cell? ⟨g,o,none⟩=some av
 c1:w.cell? ⟨g,o+1,none⟩=some (.bool s.final)
 c2:w.cell? ⟨g,o+2,none⟩=some (.int .u64 s.out)
 a6:RA w B av s.a6
theorem SAt.later {w w':World} {B:Nat->Prop} {g o:Nat} {av:Value} {s:State} (h:SAt w B g o av s) (hb:Below w.heap.size w w'):SAt w' B g o av s :=
 ⟨cL hb h.c0,cL hb h.c1,cL hb h.c2,h.a6.later hb⟩
def uZ (a:r7):Prop:=a.byte<256/\a.out<18446744073709551616/\ -9223372036854775808<=a.to/\a.to<9223372036854775808
def J8 (s:State):Prop:=s.out<18446744073709551616/\s.a6.length<4611686018427387904/\∀ a∈s.a6,uZ a
def z9d (av:Value) (s:State):Value:= .agg #[av,.bool s.final,.int .u64 s.out]
open Go.RowKit
theorem N9 {P:Program} {fn:Func} {R:Ending->World->Prop} {n p g:Nat} {ty t:TypeId} {a:Act} {w:World} {cs:Array Value} {fr:Nat×Nat} {d:TypeDesc} (h:fn.results= #[.cell p ty]) (hf:Fc.Fr n a)
  (sp:a.tmps[p]? =some (.pointer (some ⟨g,0,none⟩))) (hg:w.heap[g]? =some (.cells cs t fr)) (hu:P.underlying ty=some d) (hd:(match d with | .struct _ | .array _ _=>true | _=>false)=true)
  (hi:(P.info? ty).map (·.size)=some cs.size) (hR:R (.returned (.agg cs)) w):bodyPost P fn R .ret a w:=by
 refine bodyPost_ret (v:= .agg cs) ?_ hf.defers hR
 have vG:a.tmps[p]?.getD undef= .pointer (some ⟨g,0,none⟩):=by simp [sp]
 have h2:(results fn a.tmps).run P w=((asAddr (a.tmps.getD p undef)).run P w).andThen fun x w₁=>(loadVar ty x).run P w₁:=by
  simp only [results,h]
  simp [Sem.run_bind,Result.andThen]
 rw [h2]
 simp [vG,asAddr,run_loadVar_row w g t ty cs fr d hg hu hd hi,Result.andThen]
theorem cV {P:Program} {fn:Func} {R:Ending->World->Prop} {n p u g:Nat} {ty t:TypeId} {a:Act} {w:World} {x:Value} {cs:Array Value} {fr:Nat×Nat} {d:TypeDesc} (h:fn.results= #[.cell p ty,.tmp u]) (hf:Fc.Fr n a)
  (sp:a.tmps[p]? =some (.pointer (some ⟨g,0,none⟩))) (su:a.tmps[u]? =some x) (hg:w.heap[g]? =some (.cells cs t fr)) (hu:P.underlying ty=some d) (hd:(match d with | .struct _ | .array _ _=>true | _=>false)=true)
  (hi:(P.info? ty).map (·.size)=some cs.size) (hR:R (.returned (.tuple #[.agg cs,x])) w):bodyPost P fn R .ret a w:=by
 refine bodyPost_ret (v:= .tuple #[.agg cs,x]) ?_ hf.defers hR
 rw [results_cell_tmp h]
 have vG:a.tmps[p]?.getD undef= .pointer (some ⟨g,0,none⟩):=by simp [sp]
 simp [vG,asAddr,run_loadVar_row w g t ty cs fr d hg hu hd hi,Result.andThen,su]
theorem A1 {w:World} {base n size:Nat} {e:TypeId} {v:Value} {xs:List Value} (h:w.ownsRow base e size v n xs):∃ A c,v= .slice A n c/\n<=c:=by
 rcases h.2 with ⟨rfl,h0⟩ | ⟨b,cap,cur,rfl,_,_,hc,_⟩
 ·exact ⟨none,0,by rw [h0],oM⟩
 ·exact ⟨_,_,rfl,hc⟩
theorem J7 {o:Oper} {a:Act} {w:World} {K:Act->World->Prop} {Q:Exit->Act->World->Prop} (s y:Operand) (t:TypeId) (ho:o.op= .call { callee:= .builtin .append,args:= #[s,y],argTypes:= #[t,t] })
  (e:TypeId) (z:Value) (size bytes:Nat) (ht:Tryz.prog.underlying t=some (.slice e)) (y2w:(Tryz.prog.info? e).map (fun i=>(i.zero,i.size,i.bytes))=some (some z,size,bytes)) (hzs:z.cells.size=size) (F7:0<size) (hby:bytes<=100)
  (base:Nat) (v:Value) (n:Nat) (xs:List Value) (hs:a.eval s=v) (F4:w.ownsRow base e size v n xs) (b:Nat) (news:List Value) (hx:a.eval y= .slice (some ⟨b,0,none⟩) 1 1) (hl:news.length=size)
  (hc:∀ j u,news[j]? =some u->w.cell? ⟨b,j,none⟩=some u) (h1:∀ u∈news,u.oneCell'=true) (hn:n<=1000000000) (bJ:base<=w.heap.size)
  (h:∀ v' w',w'.ownsRow base e size v' (n+1) (xs++news)->w.grownBy w' v.ownBlock->(v'.ownBlock=v.ownBlock\/v'.ownBlock=some w.heap.size)->K (a.put o.dst v') w'):Oper.wp Tryz.prog o a w K Q:=by
 obtain ⟨i0,hi,gE,fK,U4⟩:=info_parts y2w
 obtain ⟨v',w',r1,r2,r3,_,r4⟩:=run_append_own_at (P:=Tryz.prog) w base t o.type e i0 z size bytes ht hi gE fK U4 hzs F7 v n xs F4 ⟨b,0,none⟩ 1 1 news oM (fun j u hu=>by
  have ha:(⟨b,0,none⟩:Addr).add j=⟨b,j,none⟩:=by unfold Addr.add;split<;>simp_all
  rw [ha];exact hc j u hu) h1 (by unfold maxLen;omega) (by have:(n+1)*bytes<=(n+1)*100:=Nat.mul_le_mul_left _ hby;omega) bJ
 unfold Oper.wp execOp
 simp only [ho,resolve,invoke,builtin,Sem.run_bind,Sem.run_pure,Result.andThen_ok,List.map_toArray,List.map_cons,List.map_nil,hs,hx,r1]
 exact h v' w' r2 r3 r4
def nV (news:List Value):Sb.Pr:=fun v w=>∃ b,v= .slice (some ⟨b,0,none⟩) 1 1/\∀ (j:Nat) (u:Value),news[j]? =some u->w.cell? ⟨b,j,none⟩=some u
theorem nV.u5 (news:List Value):Sb.Stable (nV news):=fun v w w' hb ⟨b,h1,h2⟩=>⟨b,h1,fun j u hu=>cL hb (h2 j u hu)⟩
theorem E7 (w:World) (news:List Value) (t:TypeId):∀ (j:Nat) (u:Value),news[j]? =some u->(w.alloc (.cells news.toArray t)).cell? ⟨w.heap.size,j,none⟩=some u:=fun j u hu=>by
 rw [cell_of_row _ _ j _ t (0,0) (heap_alloc_new w _)]
 simpa using hu
theorem xV {P:Program} {w:World} (base:Nat) (t ty e:TypeId) (i:TypeInfo) (size:Nat) (ht:P.underlying t=some (.slice e)) (hi:P.info? e=some i)
  (v:Value) (n:Nat) (xs:List Value) (F4:w.ownsRow base e size v n xs) (c:Nat):(Builtin.append_ #[t,t] ty #[v,.slice none 0 c]).run P w= .ok v w:=by
 rcases F4.2 with ⟨rfl,rfl⟩ | ⟨g,cap,cur,rfl,_,_,hnc,_⟩
 ·simp [Builtin.append_,run_underlying ht,sizeOf,typeInfo,hi,Builtin.lenOf,Builtin.firstCells]
 ·simp [Builtin.append_,run_underlying ht,sizeOf,typeInfo,hi,Builtin.lenOf,Builtin.firstCells,hnc,storeCells]
theorem xW {o:Oper} {a:Act} {w:World} {K:Act->World->Prop} {Q:Exit->Act->World->Prop} (s y:Operand) (t:TypeId) (ho:o.op= .call { callee:= .builtin .append,args:= #[s,y],argTypes:= #[t,t] })
  (e:TypeId) (z:Value) (size bytes:Nat) (ht:Tryz.prog.underlying t=some (.slice e)) (y2w:(Tryz.prog.info? e).map (fun i=>(i.zero,i.size,i.bytes))=some (some z,size,bytes)) (hzs:z.cells.size=size) (F7:0<size) (hby:bytes<=100)
  (base:Nat) (v:Value) (n:Nat) (xs:List Value) (hs:a.eval s=v) (F4:w.ownsRow base e size v n xs) (A:Option Addr) (m c:Nat) (news:List Value) (hx:a.eval y= .slice A m c) (hl:news.length=m*size)
  (hc:0<m->∃ b off,A=some ⟨b,off,none⟩/\∀ j u,news[j]? =some u->w.cell? ⟨b,off+j,none⟩=some u) (h1:∀ u∈news,u.oneCell'=true) (hn:n+m<=1000000000) (bJ:base<=w.heap.size)
  (h:∀ v' w',w'.ownsRow base e size v' (n+m) (xs++news)->w.grownBy w' v.ownBlock->(v'.ownBlock=v.ownBlock\/v'.ownBlock=some w.heap.size)->K (a.put o.dst v') w'):Oper.wp Tryz.prog o a w K Q:=by
 obtain ⟨i0,hi,gE,fK,U4⟩:=info_parts y2w
 cases A with
 | none =>
  have hm:m=0:=by
   rcases Nat.eq_zero_or_pos m with h9 | h9
   ·exact h9
   ·obtain ⟨b,off,e9,_⟩:=hc h9;cases e9
  subst hm
  have hn0:news=[]:=List.eq_nil_of_length_eq_zero (by simpa using hl)
  subst hn0
  have hr:=xV (P:=Tryz.prog) (w:=w) base t o.type e i0 size ht hi v n xs F4 c
  unfold Oper.wp execOp
  simp only [ho,resolve,invoke,builtin,Sem.run_bind,Sem.run_pure,Result.andThen_ok,List.map_toArray,List.map_cons,List.map_nil,hs,hx,hr]
  exact h v w (by rw [List.append_nil,Nat.add_zero];exact F4) ⟨rfl,rfl,rfl,nR,fun _ _ _=>rfl⟩ (.inl rfl)
 | some p =>
  obtain ⟨v',w',r1,r2,r3,_,r4⟩:=run_append_own_at (P:=Tryz.prog) w base t o.type e i0 z size bytes ht hi gE fK U4 hzs F7 v n xs F4 p m c news hl (fun j u hu=>by
   have h0:0<m:=by
    rcases Nat.eq_zero_or_pos m with h9 | h9
    ·subst h9;have:=(E2 hu).1;rw [hl] at this;omega
    ·exact h9
   obtain ⟨b,off,e9,h9⟩:=hc h0
   obtain rfl:=Option.some.inj e9
   have ha:(⟨b,off,none⟩:Addr).add j=⟨b,off+j,none⟩:=Addr.add_lit ..
   rw [ha];exact h9 j u hu) h1 (by unfold maxLen;omega) (by have:(n+m)*bytes<=(n+m)*100:=Nat.mul_le_mul_left _ hby;omega) bJ
  unfold Oper.wp execOp
  simp only [ho,resolve,invoke,builtin,Sem.run_bind,Sem.run_pure,Result.andThen_ok,List.map_toArray,List.map_cons,List.map_nil,hs,hx,r1]
  exact h v' w' r2 r3 r4
open Go.RowKit
def at_ (s:ByteArray) (i:Nat):Nat:=if h:i<s.size then s[i].toNat else 0
theorem iE {s:ByteArray} {i:Nat} (h:i<s.size):at_ s i=s[i].toNat:=by simp [at_,h]
theorem z0j (s:ByteArray) (i:Nat):at_ s i<256:=by
 unfold at_
 split
 ·rename_i h
  exact (s[i]).toNat_lt
 ·omega
def wl (s:ByteArray):List Nat:=s.data.toList.map UInt8.toNat
theorem l9 (s:ByteArray):(wl s).length=s.size:=by unfold wl;rw [List.length_map,Array.length_toList];rfl
theorem dQ {s:ByteArray} {i:Nat} (h:i<s.size):(wl s)[i]? =some (at_ s i):=by
 have h2:i<s.data.toList.length:=by rw [Array.length_toList];exact h
 rw [iE h]
 simp only [wl,List.getElem?_map,D9 h2,Option.map_some]
 rw [ByteArray.getElem_eq_getElem_data]
 simp
theorem dR (s:ByteArray):∀ x∈wl s,x<256:=by
 intro x hx
 obtain ⟨b,_,rfl⟩:=List.mem_map.1 hx
 exact b.toNat_lt
theorem eM {a b:ByteArray} (h:wl a=wl b):a=b:=by
 unfold wl at h
 have:a.data.toList=b.data.toList:=by
  refine (List.map_inj_right fun x y hxy=> ?_).1 h
  exact UInt8.toNat_inj.1 hxy
 exact ByteArray.ext (Array.ext' this)
structure z6 where
 word:ByteArray
 weight:Int
 gone:Bool
def z6.cells (e:z6):List Value:=[.string e.word,.int .u32 e.weight,.bool e.gone]
def tJ (es:List z6):List Value:=es.flatMap z6.cells
theorem iF (es:List z6):(tJ es).length=es.length*3:=by
 induction es with
 | nil=>rfl
 | cons e es ih=>simp only [tJ,List.flatMap_cons,List.length_append,List.length_cons] at ih |-;rw [ih];simp [z6.cells];omega
theorem x5a (es:List z6) (i j:Nat) (hi:i<es.length) (hj:j<3):(tJ es)[i*3+j]? =(es[i]).cells[j]? :=by
 induction es generalizing i with
 | nil=>simp at hi
 | cons e es ih =>
  simp only [tJ,List.flatMap_cons]
  cases i with
  | zero=>rw [List.getElem?_append_left (by simp [z6.cells];omega)];simp
  | succ i =>
   rw [List.getElem?_append_right (by simp [z6.cells];omega)]
   have:=ih i (by simpa using hi)
   simp only [tJ] at this
   simp only [List.getElem_cons_succ]
   rw [<- this];congr 1;simp [z6.cells];omega
def RE (w:World) (B:Nat) (v:Value) (es:List z6):Prop :=
 ∃ (A:Option Addr) (c:Nat),v= .slice A es.length c/\es.length<=c/\(0<es.length->∃ b off,A=some ⟨b,off,none⟩/\b<B/\∀ j u,(tJ es)[j]? =some u->w.cell? ⟨b,off+j,none⟩=some u)
section
variable {w w':World} {B B':Nat} {v:Value} {es:List z6}
theorem RE.below (h:RE w B v es) (hb:Below B w w'):RE w' B v es:=by
 obtain ⟨A,c,h1,h2,h3⟩:=h
 refine ⟨A,c,h1,h2,fun h0=> ?_⟩
 obtain ⟨b,off,h4,h5,h6⟩:=h3 h0
 exact ⟨b,off,h4,h5,fun j u hu=>D1 hb (h6 j u hu) h5⟩
theorem RE.more (h:RE w B v es) (hB:B<=B'):RE w B' v es:=by
 obtain ⟨A,c,h1,h2,h3⟩:=h
 refine ⟨A,c,h1,h2,fun h0=> ?_⟩
 obtain ⟨b,off,h4,h5,h6⟩:=h3 h0
 exact ⟨b,off,h4,oM,h6⟩
theorem RE.any (h:RE w B v es):RE w w.heap.size v es:=by
 obtain ⟨A,c,h1,h2,h3⟩:=h
 refine ⟨A,c,h1,h2,fun h0=> ?_⟩
 obtain ⟨b,off,h4,h5,h6⟩:=h3 h0
 exact ⟨b,off,h4,C8 (h6 0 _ (D9 (by rw [iF];omega))),h6⟩
theorem RE.form (h:RE w B v es):∃ (A:Option Addr) (c:Nat),v= .slice A es.length c/\es.length<=c:=by
 obtain ⟨A,c,h1,h2,_⟩:=h
 exact ⟨A,c,h1,h2⟩
theorem RE.at_ {A:Option Addr} {n c:Nat} (h:RE w B (.slice A n c) es) {i:Nat} {e:z6} (hi:es[i]? =some e):∃ b off,A=some ⟨b,off,none⟩/\b<B/\b<w.heap.size/\w.cell? ⟨b,off+i*3,none⟩=some (.string e.word) /\
  w.cell? ⟨b,off+i*3+1,none⟩=some (.int .u32 e.weight)/\w.cell? ⟨b,off+i*3+2,none⟩=some (.bool e.gone):=by
 obtain ⟨n8,rfl⟩:=E2 hi
 obtain ⟨A,c,h1,h2,h3⟩:=h
 injection h1 with h1
 obtain ⟨b,off,h4,h5,h6⟩:=h3 oM
 have k:∀ j,j<3->∀ u,(es[i]).cells[j]? =some u->w.cell? ⟨b,off+(i*3+j),none⟩=some u:=fun j hj u hu=>h6 _ _ (by rw [x5a es i j n8 hj];exact hu)
 exact ⟨b,off,h1.trans h4,h5,C8 (k 0 oM _ rfl),k 0 oM _ rfl,k 1 oM _ rfl,k 2 oM _ rfl⟩
end
def eval (e:z6):Value:= .agg #[.string e.word,.int .u32 e.weight,.bool e.gone]
def M9 (e:z6):Nat:=if e.gone then 0 else e.weight.toNat+1
def gM (e:z6):Prop:=0<=e.weight/\e.weight<4294967296
def Y1 (e:z6):Wv:=(wl e.word,M9 e)
theorem xX {e:z6} (h:gM e):M9 e<4294967297:=by unfold M9;obtain ⟨h1,h2⟩:=h;split<;>omega
/-! the beginning that two words share -/
theorem qC {a b:List Nat} (h:a=[]\/b=[]):shared a b=0:=by
 rcases h with rfl | rfl
 ·cases b<;>rfl
 ·cases a<;>rfl
theorem X5 {l:List Nat} {i x:Nat} (h:l[i]? =some x):l.drop i=x::l.drop (i+1):=by
 obtain ⟨h1,h2⟩:=E2 h
 rw [List.drop_eq_getElem_cons h1,h2]
theorem z9c {a b:List Nat} {i x:Nat} (ha:a[i]? =some x) (hb:b[i]? =some x):shared (a.drop i) (b.drop i)=shared (a.drop (i+1)) (b.drop (i+1))+1:=by
 rw [X5 ha,X5 hb];simp [shared]
theorem z9b {a b:List Nat} {i x y:Nat} (ha:a[i]? =some x) (hb:b[i]? =some y) (h:x≠y):shared (a.drop i) (b.drop i)=0:=by
 rw [X5 ha,X5 hb];simp [shared,h]
open Go.RowKit
def RS (w:World) (sv:Value) (ss:List State):Prop:=∃ (A:Option Addr) (c:Nat),sv= .slice A ss.length c/\ss.length<=c/\(0<ss.length->∃ b off,A=some ⟨b,off,none⟩/\∀ (i:Nat) (s:State),ss[i]? =some s->∃ av,SAt w (fun _=>True) b (off+i*3) av s)
theorem RS.later {w w':World} {sv:Value} {ss:List State} (h:RS w sv ss) (hb:Below w.heap.size w w'):RS w' sv ss:=by
 obtain ⟨A,c,h1,h2,h3⟩:=h
 refine ⟨A,c,h1,h2,fun h0=> ?_⟩
 obtain ⟨b,off,h4,h5⟩:=h3 h0
 exact ⟨b,off,h4,fun i s hi=>by obtain ⟨av,h6⟩:=h5 i s hi;exact ⟨av,h6.later hb⟩⟩
theorem RS.form {w:World} {sv:Value} {ss:List State} (h:RS w sv ss):∃ (A:Option Addr) (c:Nat),sv= .slice A ss.length c/\ss.length<=c:=by
 obtain ⟨A,c,h1,h2,_⟩:=h
 exact ⟨A,c,h1,h2⟩
theorem RS.at_ {w:World} {A:Option Addr} {n c:Nat} {ss:List State} (h:RS w (.slice A n c) ss) {i:Nat} {s:State} (hi:ss[i]? =some s):∃ b off av,A=some ⟨b,off,none⟩/\SAt w (fun _=>True) b (off+i*3) av s:=by
 obtain ⟨A',c',h1,h2,h3⟩:=h
 injection h1 with h1
 have h0:=(E2 hi).1
 obtain ⟨b,off,h4,h5⟩:=h3 oM
 obtain ⟨av,h6⟩:=h5 i s hi
 exact ⟨b,off,av,h1.trans h4,h6⟩
theorem RS.S0 (w:World):RS w (.slice none 0 0) []:=⟨none,0,rfl,sP,fun h=>by simp at h⟩
def oJ (w:World) (N:Nat) (sv:Value) (ss:List State):Prop:=∃ (A:Option Addr) (c:Nat),sv= .slice A ss.length c/\ss.length<=c/\(0<ss.length->∃ b off,A=some ⟨b,off,none⟩/\b<N/\∀ (i:Nat) (s:State),ss[i]? =some s->∃ av,SAt w (fun k=>k<N) b (off+i*3) av s)
theorem RS.n {w:World} {sv:Value} {ss:List State} (h:RS w sv ss):oJ w w.heap.size sv ss:=by
 obtain ⟨A,c,h1,h2,h3⟩:=h
 refine ⟨A,c,h1,h2,fun h0=> ?_⟩
 obtain ⟨b,off,h4,h5⟩:=h3 h0
 obtain ⟨av0,h6⟩:=h5 0 _ (D9 h0)
 refine ⟨b,off,h4,C8 h6.c0,fun i s hi=> ?_⟩
 obtain ⟨av,h7⟩:=h5 i s hi
 exact ⟨av,h7.c0,h7.c1,h7.c2,h7.a6.more (fun k hk _=>hk)⟩
theorem fL {N:Nat} {w w':World} (hb:Below N w w'):n4 (fun k=>N<=k) w w':=⟨hb.os,hb.tape,hb.output,hb.size,fun i _ hn=>hb.block i oM⟩
theorem SAt.below {w w':World} {N g o:Nat} {av:Value} {s:State} (h:SAt w (fun k=>k<N) g o av s) (hg:g<N) (hb:Below N w w'):SAt w' (fun k=>k<N) g o av s :=
 ⟨(hb.cell hg).trans h.c0,(hb.cell hg).trans h.c1,(hb.cell hg).trans h.c2,h.a6.but (fL hb) (fun k h1 h2=>oM)⟩
theorem oJ.below {w w':World} {N:Nat} {sv:Value} {ss:List State} (h:oJ w N sv ss) (hb:Below N w w'):oJ w' N sv ss:=by
 obtain ⟨A,c,h1,h2,h3⟩:=h
 refine ⟨A,c,h1,h2,fun h0=> ?_⟩
 obtain ⟨b,off,h4,h5,h6⟩:=h3 h0
 exact ⟨b,off,h4,h5,fun i s hi=>by obtain ⟨av,h7⟩:=h6 i s hi;exact ⟨av,h7.below h5 hb⟩⟩
theorem oJ.form {w:World} {N:Nat} {sv:Value} {ss:List State} (h:oJ w N sv ss):∃ (A:Option Addr) (c:Nat),sv= .slice A ss.length c/\ss.length<=c:=by
 obtain ⟨A,c,h1,h2,_⟩:=h
 exact ⟨A,c,h1,h2⟩
theorem oJ.at_ {w:World} {A:Option Addr} {N n c:Nat} {ss:List State} (h:oJ w N (.slice A n c) ss) {i:Nat} {s:State} (hi:ss[i]? =some s):∃ b off av,A=some ⟨b,off,none⟩/\b<N/\SAt w (fun k=>k<N) b (off+i*3) av s:=by
 obtain ⟨A',c',h1,h2,h3⟩:=h
 injection h1 with h1
 have h0:=(E2 hi).1
 obtain ⟨b,off,h4,h5,h6⟩:=h3 oM
 obtain ⟨av,h7⟩:=h6 i s hi
 exact ⟨b,off,av,h1.trans h4,h5,h7⟩
def L9 (ss:List State):Nat:=(ss.map fun s=>s.a6.length).sum
theorem tW {ss:List State} {i:Nat} {s:State} (h:ss[i]? =some s):L9 (ss.take (i+1))=L9 (ss.take i)+s.a6.length:=by
 rw [List.take_add_one,h]
 simp [L9]
theorem z9a {ss:List State} (h:∀ s∈ss,s.a6.length<=1000) (i:Nat):L9 (ss.take i)<=1000*ss.length:=by
 have key:∀ l:List State,(∀ s∈l,s.a6.length<=1000)->L9 l<=1000*l.length:=fun l=>by
  induction l with
  | nil=>intro _;simp [L9]
  | cons s l ih =>
   intro hl
   have h1:=hl s (List.mem_cons_self ..)
   have h2:=ih fun x hx=>hl x (List.mem_cons_of_mem _ hx)
   simp only [L9,List.map_cons,List.sum_cons,List.length_cons] at h2 |-
   omega
 have:=key (ss.take i) (fun s hs=>h s (List.mem_of_mem_take hs))
 have h2:(ss.take i).length<=ss.length:=sO
 omega
open Go.RowKit
theorem z0i:(Tryz.prog.info? 111).map (·.size)=some 2:=kR
theorem w9v:(Tryz.prog.info? 5).map (fun i=>(i.zero,i.size,i.bytes))=some (some (.int .u8 0),1,1):=kR
theorem z8z {w:World} {B:Nat} {e:TypeId} {v:Value} {n:Nat} {xs:List Value} (h:w.ownsRow B e 1 v n xs):∀ g,v.ownBlock=some g->∃ c fz,w.heap[g]? =some (.cells c e fz):=by
 intro g hg
 rcases h.2 with ⟨rfl,_⟩ | ⟨g',cap,cur,rfl,_,hgg,_⟩
 ·simp [Value.ownBlock] at hg
 ·simp [Value.ownBlock] at hg
  subst hg
  exact ⟨cur,_,hgg⟩
theorem xY {w w':World} (e:TypeId) (b:Option Nat) (h:Below w.heap.size w w'):Lib.OthersKept e b w w':=fun k o hk _ _=>(h.block k (Array.getElem?_eq_some_iff.1 hk).1).trans hk
theorem z4d (b:Nat) (w:World) (h0:w.cell? ⟨b,0,none⟩=some (.pointer (some ⟨b,0,none⟩))) :
  Calls Tryz.prog 85 #[.pointer (some ⟨b,0,none⟩)] w fun e w'=>e= .returned (.tuple #[])/\w'=w:=by
 obtain ⟨j,hj,_⟩:=Option.map_eq_some_iff.1 z0i
 go_enter Tryz.func85,Tryz.ntmps85
 go_wp2
 rw [Lib.run_neq_ptr_same w _ Tryz.underlying109 hj]
 go_wp2
 go_end0
 exact ⟨rfl,rfl⟩
theorem z8y (b:Nat) (w:World) (h0:w.cell? ⟨b,0,none⟩=some (.pointer none)) (hsh:w.shape? b=some (111,2)) (hfz:w.frozen? ⟨b,0,none⟩=false) :
  Calls Tryz.prog 85 #[.pointer (some ⟨b,0,none⟩)] w fun e w'=>e= .returned (.tuple #[])/\w'=w.setCell ⟨b,0,none⟩ (.pointer (some ⟨b,0,none⟩)):=by
 obtain ⟨j,hj,hjs⟩:=Option.map_eq_some_iff.1 z0i
 go_enter Tryz.func85,Tryz.ntmps85
 go_wp2
 rw [Lib.run_to_unsafe w ⟨b,0,none⟩ Tryz.underlying109 Tryz.underlying211 hj (by rw [hjs];decide) hsh (Nat.zero_lt_succ 1)]
 simp only [Result.andThen]
 rw [Oper.upon_value]
 go_wp2
 rw [run_callFunc_extern Tryz.func129 kR kR kR (e:=Extern.AbiNoEscape.same) kR]
 rw [Lib.run_noEscape]
 simp only [Result.andThen]
 rw [Oper.upon_value]
 go_wp2
 rw [Lib.run_from_unsafe w ⟨b,0,none⟩ Tryz.underlying211 Tryz.underlying109 hj hsh kR]
 simp only [Result.andThen]
 rw [Oper.upon_value]
 go_wp2
 go_end0
 exact ⟨rfl,rfl⟩
theorem vK (B b:Nat) (bs:List Value) (w:World) (h:Lib.IsBuilder 111 5 B b bs w) :
  Calls Tryz.prog 85 #[.pointer (some ⟨b,0,none⟩)] w fun e w'=>e= .returned (.tuple #[])/\(Lib.BuilderAt 111 5 B b (.pointer (some ⟨b,0,none⟩)) bs w'/\Below B w w'/\Lib.OthersKept 5 (some b) w w'):=by
 rcases h with h | h
 ·refine (z8y b w h.cell0 h.shape h.frozen0).mono ?_
  rintro e w' ⟨rfl,rfl⟩
  exact ⟨rfl,h.used _,(Below.refl B w).setCell (p:=⟨b,0,none⟩) h.1 _,(Lib.OthersKept.refl _ _ w).setCell ⟨b,0,none⟩ rfl _⟩
 ·refine (z4d b w h.cell0).mono ?_
  rintro e w' ⟨rfl,rfl⟩
  exact ⟨rfl,h,Below.refl B _,Lib.OthersKept.refl _ _ _⟩
theorem vL (B b:Nat) (bs:List Value) (c:Int) (w:World) (h:Lib.IsBuilder 111 5 B b bs w) (hlen:bs.length+1<=140737488355328) (hBw:B<=w.heap.size) :
  Calls Tryz.prog 136 #[.pointer (some ⟨b,0,none⟩),.int .u8 c] w fun e w'=>e= .returned .nilIface/\(Lib.BuilderAt 111 5 B b (.pointer (some ⟨b,0,none⟩)) (bs++[.int .u8 c]) w'/\Below B w w'/\Lib.OthersKept 5 (some b) w w'):=by
 obtain ⟨i0,hi,gE,fK,U4⟩:=info_parts w9v
 go_enter Tryz.func136,Tryz.ntmps136
 go_wp2_with (go_at_call 85;refine (vK B b bs _ h).mono ?_)
 rintro e w1 ⟨rfl,h1,n7,bV⟩
 have n8:b<w1.heap.size:=h1.lt
 obtain ⟨hB,v,hbk,F4,E6⟩:=h1
 have c0:w1.cell? ⟨b,0,none⟩=some (.pointer (some ⟨b,0,none⟩)):=by rw [Lib.cell_of_heap hbk];rfl
 have c1:w1.cell? ⟨b,1,none⟩=some v:=by rw [Lib.cell_of_heap hbk];rfl
 go_wp2_with (at_builtin;refine wpList_append_own _ rfl _ _ 31 rfl B 5 i0 (.int .u8 0) 1 1 Tryz.underlying31 hi gE fK U4 rfl dC _ _ _ rfl (F4.alloc _) ⟨w1.heap.size,0,none⟩ 1 1 [.int .u8 c] rfl rfl ?c1 ?c2 ?c3 ?c4 ?c5 ?_)
 case c1 =>
  intro j u hj
  match j,hj with
  | 0,hj=>simp at hj;subst hj;simp [Addr.add]
 case c2=>intro u hu;simp at hu;subst hu;rfl
 case c3=>unfold maxLen;omega
 case c4=>omega
 case c5=>have:=n7.size;simp;omega
 intro v' w2 z8x qD _
 have r9:w2.heap[b]? =some (.cells #[.pointer (some ⟨b,0,none⟩),v] 111 (0,0)):=by
  rw [qD.block b sO (fun e=>E6 e.symm),Lib.alloc_old w1 _ b n8]
  exact hbk
 have d0:w2.cell? ⟨b,0,none⟩=some (.pointer (some ⟨b,0,none⟩)):=by rw [Lib.cell_of_heap r9];rfl
 have d1:w2.cell? ⟨b,1,none⟩=some v:=by rw [Lib.cell_of_heap r9];rfl
 have f1:w2.frozen? ⟨b,1,none⟩=false:=Lib.frozen_of_heap r9 1
 obtain ⟨g,cap,rfl⟩:∃ g cap,v'= .slice (some ⟨g,0,none⟩) (bs.length+1) cap:=by
  rcases z8x.2 with ⟨_,h0⟩ | ⟨g,cap,cur,hv,_⟩
  ·omega
  ·exact ⟨g,cap,hv⟩
 go_wp2
 go_ret
 refine ⟨rfl,?_,?_,((bV.alloc _).grown qD (z8z (F4.alloc _))).setCell ⟨b,1,none⟩ rfl _⟩
 ·exact Lib.BuilderAt.put (T:=111) (e:=5) hB r9 (bs':=bs++[.int .u8 c]) (by simpa using z8x) dC
 ·exact ((n7.alloc (by have:=n7.size;omega) _).grown qD (by have:=n7.size;simp;omega) (fun k hk=>(F4.lt k hk).1)).setCell (p:=⟨b,1,none⟩) hB _
theorem z4c (B b:Nat) (bs:List Value) (s:ByteArray) (w:World) (h:Lib.IsBuilder 111 5 B b bs w) (hlen:bs.length+s.size<=140737488355328) (hBw:B<=w.heap.size) :
  Calls Tryz.prog 47 #[.pointer (some ⟨b,0,none⟩),.string s] w fun e w'=>e= .returned (.tuple #[.int .i64 s.size,.nilIface])/\(Lib.BuilderAt 111 5 B b (.pointer (some ⟨b,0,none⟩)) (bs++Lib.strCells s) w'/\Below B w w'/\Lib.OthersKept 5 (some b) w w'):=by
 obtain ⟨i0,hi,gE,fK,U4⟩:=info_parts w9v
 go_enter Tryz.func47,Tryz.ntmps47
 go_wp2_with (go_at_call 85;refine (vK B b bs _ h).mono ?_)
 rintro e w1 ⟨rfl,h1,n7,bV⟩
 have n8:b<w1.heap.size:=h1.lt
 obtain ⟨hB,v,hbk,F4,E6⟩:=h1
 have c0:w1.cell? ⟨b,0,none⟩=some (.pointer (some ⟨b,0,none⟩)):=by rw [Lib.cell_of_heap hbk];rfl
 have c1:w1.cell? ⟨b,1,none⟩=some v:=by rw [Lib.cell_of_heap hbk];rfl
 go_wp2_with (at_builtin;refine Lib.wpList_append_own_string _ rfl _ _ 31 9 rfl B 5 i0 Tryz.underlying31 Tryz.underlying9 hi gE fK U4 _ _ _ rfl F4 s rfl ?c3 ?c4 ?c5 ?_)
 case c3=>unfold maxLen;omega
 case c4=>omega
 case c5=>have:=n7.size;omega
 intro v' w2 z8x qD _
 have r9:w2.heap[b]? =some (.cells #[.pointer (some ⟨b,0,none⟩),v] 111 (0,0)):=by
  rw [qD.block b n8 (fun e=>E6 e.symm)]
  exact hbk
 have d0:w2.cell? ⟨b,0,none⟩=some (.pointer (some ⟨b,0,none⟩)):=by rw [Lib.cell_of_heap r9];rfl
 have d1:w2.cell? ⟨b,1,none⟩=some v:=by rw [Lib.cell_of_heap r9];rfl
 have f1:w2.frozen? ⟨b,1,none⟩=false:=Lib.frozen_of_heap r9 1
 obtain ⟨ao,n',cap,rfl⟩:∃ ao n' cap,v'= .slice ao n' cap:=by
  rcases z8x.2 with ⟨hv,_⟩ | ⟨g,cap,cur,hv,_⟩
  ·exact ⟨_,_,_,hv⟩
  ·exact ⟨_,_,_,hv⟩
 go_wp2
 go_ret2
 refine ⟨rfl,?_,?_,(bV.grown qD (z8z F4)).setCell ⟨b,1,none⟩ rfl _⟩
 ·exact Lib.BuilderAt.put (T:=111) (e:=5) hB r9 (bs':=bs++Lib.strCells s) (by simpa [Lib.strCells_length] using z8x) dC
 ·exact (n7.grown qD (by have:=n7.size;omega) (fun k hk=>(F4.lt k hk).1)).setCell (p:=⟨b,1,none⟩) hB _
theorem fresh (w:World):Lib.IsBuilder 111 5 w.heap.size w.heap.size [] (w.alloc (.cells #[.pointer none,.slice none 0 0] 111)) :=
 .inl ⟨nR,.slice none 0 0,heap_alloc_new w _,World.ownsRow_nil _ _ _ _,by simp [Value.ownBlock]⟩
theorem eN {B b:Nat} {l:List Value} {w w':World} (h:Lib.IsBuilder 111 5 B b l w) (hb:Below w.heap.size w w'):Lib.IsBuilder 111 5 B b l w':=by
 have go:∀ p,Lib.BuilderAt 111 5 B b p l w->Lib.BuilderAt 111 5 B b p l w':=by
  rintro p ⟨hB,v,hbk,F4,E6⟩
  refine ⟨hB,v,(hb.block b (Array.getElem?_eq_some_iff.1 hbk).1).trans hbk,⟨F4.1,?_⟩,E6⟩
  rcases F4.2 with h | ⟨g,cap,cur,h1,h2,h3,h4⟩
  ·exact .inl h
  ·exact .inr ⟨g,cap,cur,h1,h2,(hb.block g (Array.getElem?_eq_some_iff.1 h3).1).trans h3,h4⟩
 exact h.elim (fun x=> .inl (go _ x)) (fun x=> .inr (go _ x))
end Dw
end Go.Proofs.YtcddnmhmcieebaaGreatDoor
