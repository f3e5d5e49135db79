import Derived.Test.YtcddnmhmcieebaaGreatDoorTools
import Derived.WalkKit
import Derived.WalkSpells
import Derived.Deep.OwnRows
import Derived.Laws.OwnMore
import Derived.Deep.RegionHeld3
import Derived.Maps.AppendAt
import Derived.OwnWalk
import Derived.Laws.ResultCell
import Derived.WalkSmall
import Derived.Test.YtcddnmhmcieebaaGreatDoorShelf
import Derived.Lib.AppendStr
import Derived.Lib.OthersKept
import Derived.Lib.UnsafeStr
import Derived.Laws.Externs
import Derived.Laws.IdiomCopy
import Derived.Laws.BitsLemmas
namespace Go.Proofs.YtcddnmhmcieebaaGreatDoor
set_option linter.unusedSimpArgs false
set_option linter.unusedVariables false
set_option linter.unnecessarySimpa false
set_option maxHeartbeats 4000000
set_option maxRecDepth 100000
namespace Dw
structure u3 where
 byte:Nat
 out:Nat
 to:Int
instance:DecidableEq u3:=fun a b=>decidable_of_iff (a.byte=b.byte/\a.out=b.out/\a.to=b.to) (by cases a;cases b;simp)
structure State where
 final:Bool
 out:Nat
 j4:List u3
instance:DecidableEq State:=fun a b=>decidable_of_iff (a.final=b.final/\a.out=b.out/\a.j4=b.j4) (by cases a;cases b;simp)
def M5:State:=⟨false,0,[]⟩
structure Open where
 st:State
 kA:Nat
abbrev Wv:=List Nat×Nat
def finish (ss:List State) (s:State):List State×Nat :=
 match ss.findIdx? (. =s) with
 | some i=>(ss,i)
 | none=>(ss++[s],ss.length)
def leastOf (s:State):Nat :=
 match (if s.final then [s.out] else [])++s.j4.map u3.out with
 | []=>s.out
 | x::l=>l.foldl min x
def less (s:State) (n:Nat):State:=⟨s.final,if s.final then s.out-n else s.out,s.j4.map fun a=>⟨a.byte,a.out-n,a.to⟩⟩
def Q2 (ss:List State) (up o:Open):List State×Open :=
 let n:=leastOf o.st
 let r:=finish ss (less o.st n)
 (r.1,⟨⟨up.st.final,up.st.out,up.st.j4++[⟨o.kA,n,(r.2:Int)⟩]⟩,up.kA⟩)
def closeN:Nat->List State->List Open->List State×List Open
 | n+1,ss,o::up::u6=>closeN n (Q2 ss up o).1 ((Q2 ss up o).2::u6)
 | _,ss,u6=>(ss,u6)
def close (ss:List State) (u6:List Open) (depth:Nat):List State×List Open:=closeN (u6.length-(depth+1)) ss u6
def shared:List Nat->List Nat->Nat
 | x::a,y::b=>if x=y then shared a b+1 else 0
 | _,_=>0
def opens (u6:List Open):List Nat->List Open
 | []=>u6
 | b::w=>opens (⟨M5,b⟩::u6) w
def mark (v:Nat):List Open->List Open
 | o::u6=>⟨⟨true,v,o.st.j4⟩,o.kA⟩::u6
 | []=>[]
def add (x:List State×List Open) (last:List Nat) (e:Wv):List State×List Open :=
 let d:=shared last e.1
 let r:=close x.1 x.2 d
 (r.1,mark e.2 (opens r.2 (e.1.drop d)))
def adds (x:List State×List Open):List Nat->List Wv->List State×List Open
 | _,[]=>x
 | last,e::l=>adds (add x last e) e.1 l
structure Fst where
 Y2:List State
 init:Nat
def build (l:List Wv):Fst :=
 let x:=adds ([],[⟨M5,0⟩]) [] l
 let r:=close x.1 x.2 0
 let root:=(r.2.headD ⟨M5,0⟩).st
 let n:=leastOf root
 ⟨(finish r.1 (less root n)).1,n⟩
def leastV:List Wv->Nat
 | []=>0
 | e::l=>l.foldl (fun n x=>min n x.2) e.2
def qk:Nat->List State->List Wv->Nat->Nat->List State×Nat
 | 0,ss,_,_,_=>(ss,0)
 | f+1,ss,l,depth,le =>
  let x:=(List.range l.length).foldl (fun (x:List State×List u3) i =>
   match (l.getD i ([],0)).1[depth]? with
   | none=>x
   | some b=>if (x.2.getLast?.map u3.byte)=some b then x else
    let own:=(l.drop i).filter fun e=>decide (e.1[depth]? =some b)
    let n:=leastV own
    let r:=qk f x.1 own (depth+1) n
    (r.1,x.2++[⟨b,n-le,(r.2:Int)⟩])) (ss,[])
  let fo:=l.foldl (fun (y:Bool×Nat) e=>if e.1.length=depth then (true,e.2-le) else y) (false,0)
  finish x.1 ⟨fo.1,fo.2,x.2⟩
end Dw
open Go.RowKit
theorem G2 {w:World} {p:Addr} {v:Value} (h:w.cell? p=some v):p.block<w.heap.size:=by
 unfold World.cell? at h
 rcases Nat.lt_or_ge p.block w.heap.size with o9 | eV
 ·exact o9
 ·rw [Array.getElem?_eq_none eV] at h;cases h
theorem n4.cell {S:Nat->Prop} {w w':World} (hb:n4 S w w') {p:Addr} {v:Value} (h:w.cell? p=some v) (hn:¬ S p.block):w'.cell? p=some v :=
 (World.cell?_of_block (hb.block p.block (G2 h) hn)).trans h
theorem n4.heap {S:Nat->Prop} {w w':World} (hb:n4 S w w') {k:Nat} {o:Obj} (h:w.heap[k]? =some o) (hn:¬ S k):w'.heap[k]? =some o :=
 (hb.block k (Array.getElem?_eq_some_iff.1 h).1 hn).trans h
theorem j5 {w:World} {k:Nat} {o:Obj} (h:w.heap[k]? =some o):k<w.heap.size:=(Array.getElem?_eq_some_iff.1 h).1
theorem n4.setCell {S:Nat->Prop} {w:World} {p:Addr} (hp:S p.block) (u:Value):n4 S w (w.setCell p u) :=
 ⟨rfl,rfl,rfl,by simp [World.setCell],fun k hk hn=>Below.heap_setCell _ _ _ _ (fun e=>hn (e▸hp))⟩
theorem n4.alloc {S:Nat->Prop} (w:World) (o:Obj):n4 S w (w.alloc o):=n4.of S ((Below.refl _ w).alloc nR o)
theorem n4.grown {S:Nat->Prop} {w w':World} {row:Option Nat} (hg:w.grownBy w' row) (hr:∀ k,row=some k->S k):n4 S w w' :=
 ⟨hg.os,hg.tape,hg.output,hg.size,fun k hk hn=>hg.block k hk (fun e=>hn (hr k e.symm))⟩
theorem n4.below {S:Nat->Prop} {w w':World} {B:Nat} (h:n4 S w w') (hB:B<=w.heap.size) (hS:∀ k,S k->B<=k):Below B w w' :=
 ⟨h.os,h.tape,h.output,h.size,fun k hk=>h.block k oM (fun hs=>by have:=hS k hs;omega)⟩
namespace Dw
theorem cL {w w':World} (hb:Below w.heap.size w w') {p:Addr} {v:Value} (h:w.cell? p=some v):w'.cell? p=some v:=(hb.cell (G2 h)).trans h
theorem xM {w w':World} (hb:Below w.heap.size w w') {p:Addr} {v:Value} (h:w.cell? p=some v) (hf:w.frozen? p=false):w'.frozen? p=false:=(hb.frozen (G2 h)).trans hf
theorem H7 {w w':World} {B:Nat} {p:Addr} {v:Value} (hb:Below B w w') (h:w.cell? p=some v) (hp:p.block<B):w'.cell? p=some v:=(hb.cell hp).trans h
theorem k7 {w:World} {g i:Nat} {t:TypeId} {cs:Array Value} {fr:Nat×Nat} (h:w.heap[g]? =some (.cells cs t fr)) (u:Value):(w.setCell ⟨g,i,none⟩ u).heap[g]? =some (.cells (cs.setIfInBounds i u) t fr):=by
 simp [World.setCell,Array.getElem?_modify,h]
theorem j6 {w:World} {g i:Nat} {t:TypeId} {cs:Array Value} (h:w.heap[g]? =some (.cells cs t (0,0))):w.frozen? ⟨g,i,none⟩=false:=by simp [World.frozen?,h]
theorem y9 {w:World} (o:Obj) (k:Nat):(w.alloc o).heap[k]? =if k=w.heap.size then some o else w.heap[k]? :=by
 show (w.heap.push o)[k]? =_
 rw [Array.getElem?_push]
theorem u7 {S:Nat->Prop} {w w':World} {base n size:Nat} {e:TypeId} {v:Value} {xs:List Value} (h:w.ownsRow base e size v n xs) (hb:n4 S w w') (hn:∀ k,v.ownBlock=some k->¬ S k):w'.ownsRow base e size v n xs:=by
 refine ⟨h.1,?_⟩
 rcases h.2 with h1 | ⟨g,cap,cur,rfl,h2,h3,h4⟩
 ·exact .inl h1
 ·exact .inr ⟨g,cap,cur,rfl,h2,hb.heap h3 (hn g rfl),h4⟩
theorem n3 {w w':World} {base n size:Nat} {e:TypeId} {v:Value} {xs:List Value} (h:w.ownsRow base e size v n xs) (hb:Below w.heap.size w w'):w'.ownsRow base e size v n xs :=
 u7 h (n4.of (fun _=>False) hb) (fun _ _ hf=>hf)
theorem K7 {w:World} {base GP n size:Nat} {e:TypeId} {v:Value} {xs:List Value} (h:w.ownsRow base e size v n xs) (hb:GP<=base):w.ownsRow GP e size v n xs:=by
 refine ⟨h.1,?_⟩
 rcases h.2 with h1 | ⟨g,cap,cur,h1,h2,h3⟩
 ·exact .inl h1
 ·exact .inr ⟨g,cap,cur,h1,oM,h3⟩
theorem E7 {w W:World} {x y z:Value} {t:TypeId} (h:w.alloc (.cells #[x,y,z] t)=W):Below w.heap.size w W/\W.cell? ⟨w.heap.size,0,none⟩=some x/\W.cell? ⟨w.heap.size,1,none⟩=some y/\W.cell? ⟨w.heap.size,2,none⟩=some z /\
  W.heap[w.heap.size]? =some (.cells #[x,y,z] t (0,0))/\W.heap.size=w.heap.size+1:=by
 subst h
 have hh:=heap_alloc_new w (.cells #[x,y,z] t)
 exact ⟨(Below.refl _ _).alloc nR _,cell_of_row _ _ 0 _ t (0,0) hh,cell_of_row _ _ 1 _ t (0,0) hh,cell_of_row _ _ 2 _ t (0,0) hh,hh,sP⟩
theorem TG {w W:World} {x y z u:Value} {t:TypeId} (h:w.alloc (.cells #[x,y,z,u] t)=W):Below w.heap.size w W/\W.cell? ⟨w.heap.size,0,none⟩=some x/\W.cell? ⟨w.heap.size,1,none⟩=some y/\W.cell? ⟨w.heap.size,2,none⟩=some z/\W.cell? ⟨w.heap.size,3,none⟩=some u /\
  W.heap[w.heap.size]? =some (.cells #[x,y,z,u] t (0,0))/\W.heap.size=w.heap.size+1:=by
 subst h
 have hh:=heap_alloc_new w (.cells #[x,y,z,u] t)
 exact ⟨(Below.refl _ _).alloc nR _,cell_of_row _ _ 0 _ t (0,0) hh,cell_of_row _ _ 1 _ t (0,0) hh,cell_of_row _ _ 2 _ t (0,0) hh,cell_of_row _ _ 3 _ t (0,0) hh,hh,sP⟩
theorem P7 {w W:World} {x y:Value} {t:TypeId} (h:w.alloc (.cells #[x,y] t)=W):Below w.heap.size w W/\W.cell? ⟨w.heap.size,0,none⟩=some x/\W.cell? ⟨w.heap.size,1,none⟩=some y /\
  W.heap[w.heap.size]? =some (.cells #[x,y] t (0,0))/\W.heap.size=w.heap.size+1:=by
 subst h
 have hh:=heap_alloc_new w (.cells #[x,y] t)
 exact ⟨(Below.refl _ _).alloc nR _,cell_of_row _ _ 0 _ t (0,0) hh,cell_of_row _ _ 1 _ t (0,0) hh,hh,sP⟩
theorem oY {w W:World} {x:Value} {t:TypeId} (h:w.alloc (.cells #[x] t)=W):Below w.heap.size w W/\W.cell? ⟨w.heap.size,0,none⟩=some x /\
  W.heap[w.heap.size]? =some (.cells #[x] t (0,0))/\W.heap.size=w.heap.size+1:=by
 subst h
 have hh:=heap_alloc_new w (.cells #[x] t)
 exact ⟨(Below.refl _ _).alloc nR _,cell_of_row _ _ 0 _ t (0,0) hh,hh,sP⟩
def u3.cells (a:u3):List Value:=[.int .u8 a.byte,.int .u64 a.out,.int .i64 a.to]
def vA (l:List u3):List Value:=l.flatMap u3.cells
theorem Y3 (l:List u3):(vA l).length=l.length*3:=by
 induction l with
 | nil=>rfl
 | cons e l ih=>simp only [vA,List.flatMap_cons,List.length_append,List.length_cons] at ih |-;rw [ih];simp [u3.cells];omega
theorem kB (l:List u3) (i j:Nat) (hi:i<l.length) (hj:j<3):(vA l)[i*3+j]? =(l[i]).cells[j]? :=by
 induction l generalizing i with
 | nil=>simp at hi
 | cons e l ih =>
  simp only [vA,List.flatMap_cons]
  cases i with
  | zero=>rw [List.getElem?_append_left (by simp [u3.cells];omega)];simp
  | succ i =>
   rw [List.getElem?_append_right (by simp [u3.cells];omega)]
   have:=ih i (by simpa using hi)
   simp only [vA] at this
   simp only [List.getElem_cons_succ]
   rw [<- this];congr 1;simp [u3.cells];omega
theorem dU (a b:List u3):vA (a++b)=vA a++vA b:=by simp [vA]
def RA (w:World) (B:Nat->Prop) (v:Value) (l:List u3):Prop :=
 ∃ (A:Option Addr) (c:Nat),v= .slice A l.length c/\l.length<=c/\(0<l.length->∃ b off,A=some ⟨b,off,none⟩/\B b/\∀ j u,(vA l)[j]? =some u->w.cell? ⟨b,off+j,none⟩=some u)
section
variable {w w':World} {S B B':Nat->Prop} {v:Value} {l:List u3}
theorem RA.but (h:RA w B v l) (hb:n4 S w w') (hn:∀ k,B k->¬ S k):RA w' B v l:=by
 obtain ⟨A,c,h1,h2,h3⟩:=h
 refine ⟨A,c,h1,h2,fun h0=> ?_⟩
 obtain ⟨b,off,h4,h5,h6⟩:=h3 h0
 exact ⟨b,off,h4,h5,fun j u hu=>hb.cell (h6 j u hu) (hn b h5)⟩
theorem RA.later (h:RA w B v l) (hb:Below w.heap.size w w'):RA w' B v l:=h.but (n4.of (fun _=>False) hb) (fun _ _ hf=>hf)
theorem RA.more (h:RA w B v l) (hB:∀ k,k<w.heap.size->B k->B' k):RA w B' v l:=by
 obtain ⟨A,c,h1,h2,h3⟩:=h
 refine ⟨A,c,h1,h2,fun h0=> ?_⟩
 obtain ⟨b,off,h4,h5,h6⟩:=h3 h0
 have o9:b<w.heap.size:=G2 (h6 0 _ (F8 (by rw [Y3];omega)))
 exact ⟨b,off,h4,hB b o9 h5,h6⟩
theorem RA.T7:RA w B (.slice none 0 0) []:=⟨none,0,rfl,sP,fun h=>absurd h sP⟩
theorem RA.form (h:RA w B v l):∃ (A:Option Addr) (c:Nat),v= .slice A l.length c/\l.length<=c:=by
 obtain ⟨A,c,h1,h2,_⟩:=h
 exact ⟨A,c,h1,h2⟩
theorem RA.at_ {A:Option Addr} {n c:Nat} (h:RA w B (.slice A n c) l) {i:Nat} (hi:i<l.length):∃ b off,A=some ⟨b,off,none⟩/\b<w.heap.size/\w.cell? ⟨b,off+i*3,none⟩=some (.int .u8 (l[i]).byte) /\
  w.cell? ⟨b,off+i*3+1,none⟩=some (.int .u64 (l[i]).out)/\w.cell? ⟨b,off+i*3+2,none⟩=some (.int .i64 (l[i]).to):=by
 obtain ⟨A,c,h1,h2,h3⟩:=h
 injection h1 with h1
 obtain ⟨b,off,h4,h5,h6⟩:=h3 oM
 have k:∀ j,j<3->∀ u,(l[i]).cells[j]? =some u->w.cell? ⟨b,off+(i*3+j),none⟩=some u:=fun j hj u hu=>h6 _ _ (by rw [kB l i j hi hj];exact hu)
 refine ⟨b,off,h1.trans h4,?_,k 0 oM _ rfl,k 1 oM _ rfl,k 2 oM _ rfl⟩
 exact G2 (k 0 oM _ rfl)
theorem RA.at' {A:Option Addr} {n c:Nat} (h:RA w B (.slice A n c) l) {i:Nat} {a:u3} (hi:l[i]? =some a):∃ b off,A=some ⟨b,off,none⟩/\b<w.heap.size/\w.cell? ⟨b,off+i*3,none⟩=some (.int .u8 a.byte) /\
  w.cell? ⟨b,off+i*3+1,none⟩=some (.int .u64 a.out)/\w.cell? ⟨b,off+i*3+2,none⟩=some (.int .i64 a.to):=by
 obtain ⟨o9,rfl⟩:=H2 hi
 exact h.at_ o9
end
abbrev OA (w:World) (base:Nat) (v:Value) (l:List u3):Prop:=w.ownsRow base 71 3 v l.length (vA l)
theorem OA.ra {w:World} {base:Nat} {v:Value} {l:List u3} {B:Nat->Prop} (h:OA w base v l) (hB:∀ k,v.ownBlock=some k->B k):RA w B v l:=by
 rcases h.2 with ⟨rfl,h0⟩ | ⟨g,cap,cur,rfl,_,hh,hc,_⟩
 ·obtain rfl:l=[]:=List.eq_nil_of_length_eq_zero h0
  exact RA.T7
 ·refine ⟨_,_,rfl,hc,fun _=>⟨g,0,rfl,hB g rfl,fun j u hu=> ?_⟩⟩
  have:=h.cellAt j (by rw [<- Y3];exact (H2 hu).1)
  rw [Nat.zero_add,this,hu]
theorem OA.T7 (w:World) (base:Nat):OA w base (.slice none 0 0) []:=World.ownsRow_nil _ _ _ _
theorem OA.own {w:World} {base:Nat} {v:Value} {l:List u3} (h:OA w base v l) (h0:0<l.length):∃ b c,v= .slice (some ⟨b,0,none⟩) l.length c/\base<=b/\b<w.heap.size:=by
 rcases h.2 with ⟨_,h1⟩ | ⟨g,cap,cur,rfl,h2,h3,_⟩
 ·omega
 ·exact ⟨g,cap,rfl,h2,j5 h3⟩
theorem OA.cell {w:World} {base b c n:Nat} {l:List u3} (h:OA w base (.slice (some ⟨b,0,none⟩) n c) l) {i:Nat} {a:u3} (hi:l[i]? =some a):w.cell? ⟨b,i*3,none⟩=some (.int .u8 a.byte)/\w.cell? ⟨b,i*3+1,none⟩=some (.int .u64 a.out)/\w.cell? ⟨b,i*3+2,none⟩=some (.int .i64 a.to):=by
 have h2:=OA.ra (B:=fun _=>True) h (fun _ _=>trivial)
 obtain ⟨b',off,e,_,h3,h4,h5⟩:=h2.at' hi
 injection e with e
 injection e with e1 e2
 subst e1
 subst e2
 rw [Nat.zero_add] at h3 h4 h5
 exact ⟨h3,h4,h5⟩
theorem OA.out {w:World} {base b c n:Nat} {l:List u3} (h:OA w base (.slice (some ⟨b,0,none⟩) n c) l) {i:Nat} {a:u3} (hi:l[i]? =some a) (hn:n=l.length) (x:Nat) :
  OA (w.setCell ⟨b,i*3+1,none⟩ (.int .u64 x)) base (.slice (some ⟨b,0,none⟩) n c) (l.set i ⟨a.byte,x,a.to⟩):=by
 subst hn
 have h1:=(h.stored (i*3+1) (.int .u64 x)).1
 have o9:=(H2 hi).1
 have hc:vA (l.set i ⟨a.byte,x,a.to⟩)=(vA l).set (i*3+1) (.int .u64 x):=by
  refine List.ext_getElem? fun t=> ?_
  by_cases ht:t<l.length*3
  ·have e1:=kB (l.set i ⟨a.byte,x,a.to⟩) (t / 3) (t%3) sO oM
   rw [show t / 3*3+t%3=t by omega] at e1
   have e0:=kB l (t / 3) (t%3) oM oM
   rw [show t / 3*3+t%3=t by omega] at e0
   rw [e1,List.getElem?_set,e0]
   by_cases MJ:t / 3=i
   ·have h3:t=i*3\/t=i*3+1\/t=i*3+2:=oM
    have hg:(l.set i ⟨a.byte,x,a.to⟩)[t / 3]'(by simp;omega)=⟨a.byte,x,a.to⟩:=by simp [MJ]
    have iR:l[t / 3]'(by omega)=a:=by
     have:=(H2 hi).2
     simp only [MJ];exact this
    rw [hg,iR]
    rcases h3 with e | e | e
    ·subst e;rw [show i*3%3=0 by omega,if_neg (by omega)];rfl
    ·subst e;rw [show (i*3+1)%3=1 by omega,if_pos rfl,if_pos (by rw [Y3];omega)];rfl
    ·subst e;rw [show (i*3+2)%3=2 by omega,if_neg (by omega)];rfl
   ·have hg:(l.set i ⟨a.byte,x,a.to⟩)[t / 3]'(by simp;omega)=l[t / 3]'(by omega):=by rw [List.getElem_set_ne (fun e=>MJ e.symm)]
    rw [hg,if_neg (by omega)]
  ·rw [List.getElem?_eq_none (by rw [Y3];simp;omega),List.getElem?_eq_none (by rw [List.length_set,Y3];omega)]
 unfold OA
 rw [hc,List.length_set]
 exact h1
structure JP (w:World) (B:Nat->Prop) (g o:Nat) (av:Value) (s:State):Prop where
 c0:w.cell? ⟨g,o,none⟩=some av
 c1:w.cell? ⟨g,o+1,none⟩=some (.bool s.final)
 c2:w.cell? ⟨g,o+2,none⟩=some (.int .u64 s.out)
 j4:RA w B av s.j4
theorem JP.later {w w':World} {B:Nat->Prop} {g o:Nat} {av:Value} {s:State} (h:JP w B g o av s) (hb:Below w.heap.size w w'):JP w' B g o av s :=
 ⟨cL hb h.c0,cL hb h.c1,cL hb h.c2,h.j4.later hb⟩
def uA (a:u3):Prop:=a.byte<256/\a.out<18446744073709551616/\ -9223372036854775808<=a.to/\a.to<9223372036854775808
def L3 (s:State):Prop:=s.out<18446744073709551616/\s.j4.length<4611686018427387904/\∀ a∈s.j4,uA a
def bW (av:Value) (s:State):Value:= .agg #[av,.bool s.final,.int .u64 s.out]
open Go.RowKit
theorem aX {P:Program} {fn:Func} {R:Ending->World->Prop} {n p g:Nat} {ty t:TypeId} {a:Act} {w:World} {cs:Array Value} {fr:Nat×Nat} {d:TypeDesc} (h:fn.results= #[.cell p ty]) (hf:Fc.Fr n a)
  (sp:a.tmps[p]? =some (.pointer (some ⟨g,0,none⟩))) (hg:w.heap[g]? =some (.cells cs t fr)) (hu:P.underlying ty=some d) (hd:(match d with | .struct _ | .array _ _=>true | _=>false)=true)
  (hi:(P.info? ty).map (·.size)=some cs.size) (hR:R (.returned (.agg cs)) w):bodyPost P fn R .ret a w:=by
 refine bodyPost_ret (v:= .agg cs) ?_ hf.defers hR
 have oX:a.tmps[p]?.getD undef= .pointer (some ⟨g,0,none⟩):=by simp [sp]
 have h2:(results fn a.tmps).run P w=((asAddr (a.tmps.getD p undef)).run P w).andThen fun x w₁=>(loadVar ty x).run P w₁:=by
  simp only [results,h]
  simp [Sem.run_bind,Result.andThen]
 rw [h2]
 simp [oX,asAddr,run_loadVar_row w g t ty cs fr d hg hu hd hi,Result.andThen]
theorem U2 {P:Program} {fn:Func} {R:Ending->World->Prop} {n p u g:Nat} {ty t:TypeId} {a:Act} {w:World} {x:Value} {cs:Array Value} {fr:Nat×Nat} {d:TypeDesc} (h:fn.results= #[.cell p ty,.tmp u]) (hf:Fc.Fr n a)
  (sp:a.tmps[p]? =some (.pointer (some ⟨g,0,none⟩))) (su:a.tmps[u]? =some x) (hg:w.heap[g]? =some (.cells cs t fr)) (hu:P.underlying ty=some d) (hd:(match d with | .struct _ | .array _ _=>true | _=>false)=true)
  (hi:(P.info? ty).map (·.size)=some cs.size) (hR:R (.returned (.tuple #[.agg cs,x])) w):bodyPost P fn R .ret a w:=by
 refine bodyPost_ret (v:= .tuple #[.agg cs,x]) ?_ hf.defers hR
 rw [results_cell_tmp h]
 have oX:a.tmps[p]?.getD undef= .pointer (some ⟨g,0,none⟩):=by simp [sp]
 simp [oX,asAddr,run_loadVar_row w g t ty cs fr d hg hu hd hi,Result.andThen,su]
theorem y8 {w:World} {base n size:Nat} {e:TypeId} {v:Value} {xs:List Value} (h:w.ownsRow base e size v n xs):∃ A c,v= .slice A n c/\n<=c:=by
 rcases h.2 with ⟨rfl,h0⟩ | ⟨b,cap,cur,rfl,_,_,hc,_⟩
 ·exact ⟨none,0,by rw [h0],oM⟩
 ·exact ⟨_,_,rfl,hc⟩
theorem J6 {o:Oper} {a:Act} {w:World} {K:Act->World->Prop} {Q:Exit->Act->World->Prop} (s y:Operand) (t:TypeId) (ho:o.op= .call { callee:= .builtin .append,args:= #[s,y],argTypes:= #[t,t] })
  (e:TypeId) (z:Value) (size bytes:Nat) (ht:Tryz.prog.underlying t=some (.slice e)) (Mi:(Tryz.prog.info? e).map (fun i=>(i.zero,i.size,i.bytes))=some (some z,size,bytes)) (Yw:z.cells.size=size) (C8:0<size) (Mj:bytes<=100)
  (base:Nat) (v:Value) (n:Nat) (xs:List Value) (hs:a.eval s=v) (H8:w.ownsRow base e size v n xs) (b:Nat) (news:List Value) (hx:a.eval y= .slice (some ⟨b,0,none⟩) 1 1) (hl:news.length=size)
  (hc:∀ j u,news[j]? =some u->w.cell? ⟨b,j,none⟩=some u) (h1:∀ u∈news,u.oneCell'=true) (hn:n<=1000000000) (R3:base<=w.heap.size)
  (h:∀ v' w',w'.ownsRow base e size v' (n+1) (xs++news)->w.grownBy w' v.ownBlock->(v'.ownBlock=v.ownBlock\/v'.ownBlock=some w.heap.size)->K (a.put o.dst v') w'):Oper.wp Tryz.prog o a w K Q:=by
 obtain ⟨i0,hi,fG,jT,X0⟩:=info_parts Mi
 obtain ⟨v',w',r1,r2,r3,_,r4⟩:=run_append_own_at (P:=Tryz.prog) w base t o.type e i0 z size bytes ht hi fG jT X0 Yw C8 v n xs H8 ⟨b,0,none⟩ 1 1 news oM (fun j u hu=>by
  have ha:(⟨b,0,none⟩:Addr).add j=⟨b,j,none⟩:=by unfold Addr.add;split<;>simp_all
  rw [ha];exact hc j u hu) h1 (by unfold maxLen;omega) (by have:(n+1)*bytes<=(n+1)*100:=Nat.mul_le_mul_left _ Mj;omega) R3
 unfold Oper.wp execOp
 simp only [ho,resolve,invoke,builtin,Sem.run_bind,Sem.run_pure,Result.andThen_ok,List.map_toArray,List.map_cons,List.map_nil,hs,hx,r1]
 exact h v' w' r2 r3 r4
def oZ (news:List Value):Sb.Pr:=fun v w=>∃ b,v= .slice (some ⟨b,0,none⟩) 1 1/\∀ (j:Nat) (u:Value),news[j]? =some u->w.cell? ⟨b,j,none⟩=some u
theorem oZ.u5 (news:List Value):Sb.Stable (oZ news):=fun v w w' hb ⟨b,h1,h2⟩=>⟨b,h1,fun j u hu=>cL hb (h2 j u hu)⟩
theorem E8 (w:World) (news:List Value) (t:TypeId):∀ (j:Nat) (u:Value),news[j]? =some u->(w.alloc (.cells news.toArray t)).cell? ⟨w.heap.size,j,none⟩=some u:=fun j u hu=>by
 rw [cell_of_row _ _ j _ t (0,0) (heap_alloc_new w _)]
 simpa using hu
theorem xN {P:Program} {w:World} (base:Nat) (t ty e:TypeId) (i:TypeInfo) (size:Nat) (ht:P.underlying t=some (.slice e)) (hi:P.info? e=some i)
  (v:Value) (n:Nat) (xs:List Value) (H8:w.ownsRow base e size v n xs) (c:Nat):(Builtin.append_ #[t,t] ty #[v,.slice none 0 c]).run P w= .ok v w:=by
 rcases H8.2 with ⟨rfl,rfl⟩ | ⟨g,cap,cur,rfl,_,_,hnc,_⟩
 ·simp [Builtin.append_,run_underlying ht,sizeOf,typeInfo,hi,Builtin.lenOf,Builtin.firstCells]
 ·simp [Builtin.append_,run_underlying ht,sizeOf,typeInfo,hi,Builtin.lenOf,Builtin.firstCells,hnc,storeCells]
theorem TH {o:Oper} {a:Act} {w:World} {K:Act->World->Prop} {Q:Exit->Act->World->Prop} (s y:Operand) (t:TypeId) (ho:o.op= .call { callee:= .builtin .append,args:= #[s,y],argTypes:= #[t,t] })
  (e:TypeId) (z:Value) (size bytes:Nat) (ht:Tryz.prog.underlying t=some (.slice e)) (Mi:(Tryz.prog.info? e).map (fun i=>(i.zero,i.size,i.bytes))=some (some z,size,bytes)) (Yw:z.cells.size=size) (C8:0<size) (Mj:bytes<=100)
  (base:Nat) (v:Value) (n:Nat) (xs:List Value) (hs:a.eval s=v) (H8:w.ownsRow base e size v n xs) (A:Option Addr) (m c:Nat) (news:List Value) (hx:a.eval y= .slice A m c) (hl:news.length=m*size)
  (hc:0<m->∃ b off,A=some ⟨b,off,none⟩/\∀ j u,news[j]? =some u->w.cell? ⟨b,off+j,none⟩=some u) (h1:∀ u∈news,u.oneCell'=true) (hn:n+m<=1000000000) (R3:base<=w.heap.size)
  (h:∀ v' w',w'.ownsRow base e size v' (n+m) (xs++news)->w.grownBy w' v.ownBlock->(v'.ownBlock=v.ownBlock\/v'.ownBlock=some w.heap.size)->K (a.put o.dst v') w'):Oper.wp Tryz.prog o a w K Q:=by
 obtain ⟨i0,hi,fG,jT,X0⟩:=info_parts Mi
 cases A with
 | none =>
  have hm:m=0:=by
   rcases Nat.eq_zero_or_pos m with h9 | h9
   ·exact h9
   ·obtain ⟨b,off,e9,_⟩:=hc h9;cases e9
  subst hm
  have Yx:news=[]:=List.eq_nil_of_length_eq_zero (by simpa using hl)
  subst Yx
  have hr:=xN (P:=Tryz.prog) (w:=w) base t o.type e i0 size ht hi v n xs H8 c
  unfold Oper.wp execOp
  simp only [ho,resolve,invoke,builtin,Sem.run_bind,Sem.run_pure,Result.andThen_ok,List.map_toArray,List.map_cons,List.map_nil,hs,hx,hr]
  exact h v w (by rw [List.append_nil,Nat.add_zero];exact H8) ⟨rfl,rfl,rfl,nR,fun _ _ _=>rfl⟩ (.inl rfl)
 | some p =>
  obtain ⟨v',w',r1,r2,r3,_,r4⟩:=run_append_own_at (P:=Tryz.prog) w base t o.type e i0 z size bytes ht hi fG jT X0 Yw C8 v n xs H8 p m c news hl (fun j u hu=>by
   have h0:0<m:=by
    rcases Nat.eq_zero_or_pos m with h9 | h9
    ·subst h9;have:=(H2 hu).1;rw [hl] at this;omega
    ·exact h9
   obtain ⟨b,off,e9,h9⟩:=hc h0
   obtain rfl:=Option.some.inj e9
   have ha:(⟨b,off,none⟩:Addr).add j=⟨b,off+j,none⟩:=Addr.add_lit ..
   rw [ha];exact h9 j u hu) h1 (by unfold maxLen;omega) (by have:(n+m)*bytes<=(n+m)*100:=Nat.mul_le_mul_left _ Mj;omega) R3
  unfold Oper.wp execOp
  simp only [ho,resolve,invoke,builtin,Sem.run_bind,Sem.run_pure,Result.andThen_ok,List.map_toArray,List.map_cons,List.map_nil,hs,hx,r1]
  exact h v' w' r2 r3 r4
open Go.RowKit
def at_ (s:ByteArray) (i:Nat):Nat:=if h:i<s.size then s[i].toNat else 0
theorem aY {s:ByteArray} {i:Nat} (h:i<s.size):at_ s i=s[i].toNat:=by simp [at_,h]
theorem qM (s:ByteArray) (i:Nat):at_ s i<256:=by
 unfold at_
 split
 ·rename_i h
  exact (s[i]).toNat_lt
 ·omega
def wl (s:ByteArray):List Nat:=s.data.toList.map UInt8.toNat
theorem o5 (s:ByteArray):(wl s).length=s.size:=by unfold wl;rw [List.length_map,Array.length_toList];rfl
theorem aZ {s:ByteArray} {i:Nat} (h:i<s.size):(wl s)[i]? =some (at_ s i):=by
 have h2:i<s.data.toList.length:=by rw [Array.length_toList];exact h
 rw [aY h]
 simp only [wl,List.getElem?_map,F8 h2,Option.map_some]
 rw [ByteArray.getElem_eq_getElem_data]
 simp
theorem cX (s:ByteArray):∀ x∈wl s,x<256:=by
 intro x hx
 obtain ⟨b,_,rfl⟩:=List.mem_map.1 hx
 exact b.toNat_lt
theorem cK {a b:ByteArray} (h:wl a=wl b):a=b:=by
 unfold wl at h
 have:a.data.toList=b.data.toList:=by
  refine (List.map_inj_right fun x y mf=> ?_).1 h
  exact UInt8.toNat_inj.1 mf
 exact ByteArray.ext (Array.ext' this)
structure G9 where
 word:ByteArray
 weight:Int
 gone:Bool
def G9.cells (e:G9):List Value:=[.string e.word,.int .u32 e.weight,.bool e.gone]
def GQ (es:List G9):List Value:=es.flatMap G9.cells
theorem qN (es:List G9):(GQ es).length=es.length*3:=by
 induction es with
 | nil=>rfl
 | cons e es ih=>simp only [GQ,List.flatMap_cons,List.length_append,List.length_cons] at ih |-;rw [ih];simp [G9.cells];omega
theorem TJ (es:List G9) (i j:Nat) (hi:i<es.length) (hj:j<3):(GQ es)[i*3+j]? =(es[i]).cells[j]? :=by
 induction es generalizing i with
 | nil=>simp at hi
 | cons e es ih =>
  simp only [GQ,List.flatMap_cons]
  cases i with
  | zero=>rw [List.getElem?_append_left (by simp [G9.cells];omega)];simp
  | succ i =>
   rw [List.getElem?_append_right (by simp [G9.cells];omega)]
   have:=ih i (by simpa using hi)
   simp only [GQ] at this
   simp only [List.getElem_cons_succ]
   rw [<- this];congr 1;simp [G9.cells];omega
def RE (w:World) (B:Nat) (v:Value) (es:List G9):Prop :=
 ∃ (A:Option Addr) (c:Nat),v= .slice A es.length c/\es.length<=c/\(0<es.length->∃ b off,A=some ⟨b,off,none⟩/\b<B/\∀ j u,(GQ es)[j]? =some u->w.cell? ⟨b,off+j,none⟩=some u)
section
variable {w w':World} {B B':Nat} {v:Value} {es:List G9}
theorem RE.below (h:RE w B v es) (hb:Below B w w'):RE w' B v es:=by
 obtain ⟨A,c,h1,h2,h3⟩:=h
 refine ⟨A,c,h1,h2,fun h0=> ?_⟩
 obtain ⟨b,off,h4,h5,h6⟩:=h3 h0
 exact ⟨b,off,h4,h5,fun j u hu=>H7 hb (h6 j u hu) h5⟩
theorem RE.more (h:RE w B v es) (hB:B<=B'):RE w B' v es:=by
 obtain ⟨A,c,h1,h2,h3⟩:=h
 refine ⟨A,c,h1,h2,fun h0=> ?_⟩
 obtain ⟨b,off,h4,h5,h6⟩:=h3 h0
 exact ⟨b,off,h4,oM,h6⟩
theorem RE.any (h:RE w B v es):RE w w.heap.size v es:=by
 obtain ⟨A,c,h1,h2,h3⟩:=h
 refine ⟨A,c,h1,h2,fun h0=> ?_⟩
 obtain ⟨b,off,h4,h5,h6⟩:=h3 h0
 exact ⟨b,off,h4,G2 (h6 0 _ (F8 (by rw [qN];omega))),h6⟩
theorem RE.form (h:RE w B v es):∃ (A:Option Addr) (c:Nat),v= .slice A es.length c/\es.length<=c:=by
 obtain ⟨A,c,h1,h2,_⟩:=h
 exact ⟨A,c,h1,h2⟩
theorem RE.at_ {A:Option Addr} {n c:Nat} (h:RE w B (.slice A n c) es) {i:Nat} {e:G9} (hi:es[i]? =some e):∃ b off,A=some ⟨b,off,none⟩/\b<B/\b<w.heap.size/\w.cell? ⟨b,off+i*3,none⟩=some (.string e.word) /\
  w.cell? ⟨b,off+i*3+1,none⟩=some (.int .u32 e.weight)/\w.cell? ⟨b,off+i*3+2,none⟩=some (.bool e.gone):=by
 obtain ⟨o9,rfl⟩:=H2 hi
 obtain ⟨A,c,h1,h2,h3⟩:=h
 injection h1 with h1
 obtain ⟨b,off,h4,h5,h6⟩:=h3 oM
 have k:∀ j,j<3->∀ u,(es[i]).cells[j]? =some u->w.cell? ⟨b,off+(i*3+j),none⟩=some u:=fun j hj u hu=>h6 _ _ (by rw [TJ es i j o9 hj];exact hu)
 exact ⟨b,off,h1.trans h4,h5,G2 (k 0 oM _ rfl),k 0 oM _ rfl,k 1 oM _ rfl,k 2 oM _ rfl⟩
end
def eval (e:G9):Value:= .agg #[.string e.word,.int .u32 e.weight,.bool e.gone]
def bA (e:G9):Nat:=if e.gone then 0 else e.weight.toNat+1
def GR (e:G9):Prop:=0<=e.weight/\e.weight<4294967296
def lQ (e:G9):Wv:=(wl e.word,bA e)
theorem xP {e:G9} (h:GR e):bA e<4294967297:=by unfold bA;obtain ⟨h1,h2⟩:=h;split<;>omega
theorem qP {a b:List Nat} (h:a=[]\/b=[]):shared a b=0:=by
 rcases h with rfl | rfl
 ·cases b<;>rfl
 ·cases a<;>rfl
theorem U3 {l:List Nat} {i x:Nat} (h:l[i]? =some x):l.drop i=x::l.drop (i+1):=by
 obtain ⟨h1,h2⟩:=H2 h
 rw [List.drop_eq_getElem_cons h1,h2]
theorem AQ {a b:List Nat} {i x:Nat} (ha:a[i]? =some x) (hb:b[i]? =some x):shared (a.drop i) (b.drop i)=shared (a.drop (i+1)) (b.drop (i+1))+1:=by
 rw [U3 ha,U3 hb];simp [shared]
theorem AR {a b:List Nat} {i x y:Nat} (ha:a[i]? =some x) (hb:b[i]? =some y) (h:x≠y):shared (a.drop i) (b.drop i)=0:=by
 rw [U3 ha,U3 hb];simp [shared,h]
open Go.RowKit
def RS (w:World) (sv:Value) (ss:List State):Prop:=∃ (A:Option Addr) (c:Nat),sv= .slice A ss.length c/\ss.length<=c/\(0<ss.length->∃ b off,A=some ⟨b,off,none⟩/\∀ (i:Nat) (s:State),ss[i]? =some s->∃ av,JP w (fun _=>True) b (off+i*3) av s)
theorem RS.later {w w':World} {sv:Value} {ss:List State} (h:RS w sv ss) (hb:Below w.heap.size w w'):RS w' sv ss:=by
 obtain ⟨A,c,h1,h2,h3⟩:=h
 refine ⟨A,c,h1,h2,fun h0=> ?_⟩
 obtain ⟨b,off,h4,h5⟩:=h3 h0
 exact ⟨b,off,h4,fun i s hi=>by obtain ⟨av,h6⟩:=h5 i s hi;exact ⟨av,h6.later hb⟩⟩
theorem RS.form {w:World} {sv:Value} {ss:List State} (h:RS w sv ss):∃ (A:Option Addr) (c:Nat),sv= .slice A ss.length c/\ss.length<=c:=by
 obtain ⟨A,c,h1,h2,_⟩:=h
 exact ⟨A,c,h1,h2⟩
theorem RS.at_ {w:World} {A:Option Addr} {n c:Nat} {ss:List State} (h:RS w (.slice A n c) ss) {i:Nat} {s:State} (hi:ss[i]? =some s):∃ b off av,A=some ⟨b,off,none⟩/\JP w (fun _=>True) b (off+i*3) av s:=by
 obtain ⟨A',c',h1,h2,h3⟩:=h
 injection h1 with h1
 have h0:=(H2 hi).1
 obtain ⟨b,off,h4,h5⟩:=h3 oM
 obtain ⟨av,h6⟩:=h5 i s hi
 exact ⟨b,off,av,h1.trans h4,h6⟩
theorem RS.T7 (w:World):RS w (.slice none 0 0) []:=⟨none,0,rfl,sP,fun h=>by simp at h⟩
def pL (w:World) (N:Nat) (sv:Value) (ss:List State):Prop:=∃ (A:Option Addr) (c:Nat),sv= .slice A ss.length c/\ss.length<=c/\(0<ss.length->∃ b off,A=some ⟨b,off,none⟩/\b<N/\∀ (i:Nat) (s:State),ss[i]? =some s->∃ av,JP w (fun k=>k<N) b (off+i*3) av s)
theorem RS.n {w:World} {sv:Value} {ss:List State} (h:RS w sv ss):pL w w.heap.size sv ss:=by
 obtain ⟨A,c,h1,h2,h3⟩:=h
 refine ⟨A,c,h1,h2,fun h0=> ?_⟩
 obtain ⟨b,off,h4,h5⟩:=h3 h0
 obtain ⟨av0,h6⟩:=h5 0 _ (F8 h0)
 refine ⟨b,off,h4,G2 h6.c0,fun i s hi=> ?_⟩
 obtain ⟨av,h7⟩:=h5 i s hi
 exact ⟨av,h7.c0,h7.c1,h7.c2,h7.j4.more (fun k hk _=>hk)⟩
theorem mG {N:Nat} {w w':World} (hb:Below N w w'):n4 (fun k=>N<=k) w w':=⟨hb.os,hb.tape,hb.output,hb.size,fun i _ hn=>hb.block i oM⟩
theorem JP.below {w w':World} {N g o:Nat} {av:Value} {s:State} (h:JP w (fun k=>k<N) g o av s) (hg:g<N) (hb:Below N w w'):JP w' (fun k=>k<N) g o av s :=
 ⟨(hb.cell hg).trans h.c0,(hb.cell hg).trans h.c1,(hb.cell hg).trans h.c2,h.j4.but (mG hb) (fun k h1 h2=>oM)⟩
theorem pL.below {w w':World} {N:Nat} {sv:Value} {ss:List State} (h:pL w N sv ss) (hb:Below N w w'):pL w' N sv ss:=by
 obtain ⟨A,c,h1,h2,h3⟩:=h
 refine ⟨A,c,h1,h2,fun h0=> ?_⟩
 obtain ⟨b,off,h4,h5,h6⟩:=h3 h0
 exact ⟨b,off,h4,h5,fun i s hi=>by obtain ⟨av,h7⟩:=h6 i s hi;exact ⟨av,h7.below h5 hb⟩⟩
theorem pL.form {w:World} {N:Nat} {sv:Value} {ss:List State} (h:pL w N sv ss):∃ (A:Option Addr) (c:Nat),sv= .slice A ss.length c/\ss.length<=c:=by
 obtain ⟨A,c,h1,h2,_⟩:=h
 exact ⟨A,c,h1,h2⟩
theorem pL.at_ {w:World} {A:Option Addr} {N n c:Nat} {ss:List State} (h:pL w N (.slice A n c) ss) {i:Nat} {s:State} (hi:ss[i]? =some s):∃ b off av,A=some ⟨b,off,none⟩/\b<N/\JP w (fun k=>k<N) b (off+i*3) av s:=by
 obtain ⟨A',c',h1,h2,h3⟩:=h
 injection h1 with h1
 have h0:=(H2 hi).1
 obtain ⟨b,off,h4,h5,h6⟩:=h3 oM
 obtain ⟨av,h7⟩:=h6 i s hi
 exact ⟨b,off,av,h1.trans h4,h5,h7⟩
def P1 (ss:List State):Nat:=(ss.map fun s=>s.j4.length).sum
theorem uB {ss:List State} {i:Nat} {s:State} (h:ss[i]? =some s):P1 (ss.take (i+1))=P1 (ss.take i)+s.j4.length:=by
 rw [List.take_add_one,h]
 simp [P1]
theorem AU {ss:List State} (h:∀ s∈ss,s.j4.length<=1000) (i:Nat):P1 (ss.take i)<=1000*ss.length:=by
 have key:∀ l:List State,(∀ s∈l,s.j4.length<=1000)->P1 l<=1000*l.length:=fun l=>by
  induction l with
  | nil=>intro _;simp [P1]
  | cons s l ih =>
   intro hl
   have h1:=hl s (List.mem_cons_self ..)
   have h2:=ih fun x hx=>hl x (List.mem_cons_of_mem _ hx)
   simp only [P1,List.map_cons,List.sum_cons,List.length_cons] at h2 |-
   omega
 have:=key (ss.take i) (fun s hs=>h s (List.mem_of_mem_take hs))
 have h2:(ss.take i).length<=ss.length:=sO
 omega
open Go.RowKit
theorem Yy (w:World) (sv:Value) (init:Nat) (ss:List State) (o8:RS w sv ss) (a6:∀ s∈ss,L3 s) (hlen:ss.length<=1000000) (AW:∀ s∈ss,s.j4.length<=1000):E2 w 61 #[.agg #[sv,.int .u64 init]] (.tuple #[.int .i64 ss.length,.int .i64 (P1 ss:Nat)]):=by
 refine L7 23 Tryz.func61 fun fr hf s0=> ?_
 obtain ⟨A,cc,rfl,U0⟩:=o8.form
 have HO:=H9 a6;have HF:=H9 AW;clear a6 AW
 refine Ze fun _ a8=>Zr [] hf ?_
 refine y4 1 3 hf ?_
 clear hf s0;intro a7 hf sS
 generalize p8:w.alloc (.cells #[.slice A ss.length cc,.int .u64 init] 38)=W0
 obtain ⟨o7,c0,c1, -, -⟩:=P7 p8
 clear p8
 have R9:=o8.later o7
 clear o8
 refine Zs a8 fun _ a8=>Ze fun _ j8=>Zr [6,7] hf ?_
 refine D2 1 3 7 8 9 hf ?_
 intro a7 hf sS
 refine Zx j8 (wp_block (wp_loop_ghost (fun gk fr wr=>∃ (i:Nat),gk=ss.length-i/\i<=ss.length/\Fc.Fr 23 fr/\fr.tmps[1]? =some (.pointer (some ⟨w.heap.size,0,none⟩))/\fr.tmps[3]? =some (.int .i64 (P1 (ss.take i):Nat))/\fr.tmps[7]? =some (.slice A ss.length cc)/\fr.tmps[8]? =some (.int .i64 ss.length)/\fr.tmps[9]? =some (.int .i64 i)/\Below W0.heap.size W0 wr) (ss.length) ?_ ?_))
 . (
 obtain ⟨s1,s3,s7,s8,s9⟩:=sS
 exact ⟨0,rfl,Nat.zero_le _,hf,s1,s3,s7,s8,s9,Below.refl _ _⟩)
 . (
 clear hf sS
 rintro gk fr wr ⟨i,hk,hi,hf,s1,s3,s7,s8,s9,hb⟩
 have HK:=H9 hk;clear hk
 refine Ze fun _ j8=>Zr [] hf ?_
 refine F1 1 3 7 8 9 10 hf ?_
 clear hf s1 s3 s7 s8 s9;intro a7 hf sS
 refine Zs j8 fun _ j8=>Fc.l0 sS.2.2.2.2.2 (fun hq=> ?_) (fun hq=> ?_)
 . (
 have o9:i<ss.length:=qT
 have HQ:=H9 hq;clear hq
 obtain ⟨s,N3⟩:∃ s,ss[i]? =some s:=⟨_,F8 o9⟩
 obtain ⟨b,off,av,rfl,C7⟩:=(R9.later hb).at_ N3
 have d0:=C7.c0;have d1:=C7.c1;have d2:=C7.c2
 obtain ⟨A2,c2,rfl,_⟩:=C7.j4.form
 have Z7:=HF.out s (T9 N3)
 have A8:=uB N3
 have hac:=AU HF.out i
 have HS:=H9 N3;have L4:=H9 A8;clear N3 A8 C7
 refine wp_skip (Zs j8 fun _ j8=>wp_block (Ze fun _ l8=>Zr [11,12,5] hf ?_))
 refine F1 1 3 5 7 8 9 hf ?_
 intro a7 hf sS
 generalize cS:wr.alloc (.cells #[.slice A2 s.j4.length c2,.bool s.final,.int .u64 s.out] 46)=W5
 obtain ⟨F3,x0, -, -, -, -⟩:=E7 cS
 clear cS
 clear d0 d1 d2
 refine Zx l8 (rg ?_)
 have bB:=hf.B5 13 14 15 16 17
 iterate 4 refine Zy ?_
 refine fp fun K Z=> ?_
 go_simp
 try simp (disch:=omega) only [Fc.W]
 rw [show ((P1 (ss.take i):Nat):Int)+(s.j4.length:Int)=((P1 (ss.take (i+1)):Nat):Int) by rw [L4.out];omega]
 apply Z.out;clear Z K
 refine Zy ?_
 refine Fc.nil (D2 1 3 7 8 9 hf ?_)
 intro a7 hf sS
 refine Fc.j9 (Zx j8 (Zr [18] hf ?_))
 refine D2 1 3 7 8 9 hf ?_
 intro a7 hf sS
 refine Fc.j7 ?_
 obtain ⟨s1,s3,s7,s8,s9⟩:=sS
 exact ⟨_,by have:=HK.out;omega,i+1,rfl,oM,hf,s1,s3,s7,s8,by rw [s9];rfl,hb.trans (F3.mono hb.size)⟩)
 . (
 have C3:i=ss.length:=qF
 have nM:=H9 C3;clear C3 hq
 have e0:=cL hb c0
 refine Zo ?_
 refine Zs a8 fun _ a8=>Zr [19,20,21,22] hf ?_
 refine y4 2 3 hf ?_
 intro a7 hf sS
 refine Zx a8 (k8 ?_)
 refine Fc.H6 rfl hf sS.1 sS.2 ⟨?_,o7.trans (hb.mono o7.size)⟩
 rw [nM.out,List.take_length]))
open Go.RowKit
def okTo (i:Nat):List u3->Bool
 | []=>true
 | a::l=>decide (0<=a.to)&&decide (a.to<(i:Int))&&okTo i l
def mayL:Nat->List State->Bool
 | _,[]=>true
 | i,s::l=>(decide (s.j4.length<=256)&&(s.final||decide (s.out=0)))&&okTo i s.j4&&mayL (i+1) l
def X2 (en:Int) (ss:List State):Bool:=decide (0<=en)&&decide (en<=100000)&&decide (0<ss.length)&&mayL 0 ss
theorem R4 {α:Type} {l:List α} {i:Nat} {x:α} (h:l[i]? =some x):l.drop i=x::l.drop (i+1):=by
 obtain ⟨h1,h2⟩:=H2 h
 rw [List.drop_eq_getElem_cons h1,h2]
theorem vC {ss:List State} {i:Nat} {s:State} (h:ss[i]? =some s):mayL i (ss.drop i)=((decide (s.j4.length<=256)&&(s.final||decide (s.out=0)))&&okTo i s.j4&&mayL (i+1) (ss.drop (i+1))):=by rw [R4 h];rfl
theorem JQ {l:List u3} {i k:Nat} {a:u3} (h:l[k]? =some a):okTo i (l.drop k)=(decide (0<=a.to)&&decide (a.to<(i:Int))&&okTo i (l.drop (k+1))):=by rw [R4 h];rfl
theorem JR (en:Int) (n:Nat):en<0\/(0<=en/\100000<en)\/(0<=en/\en<=100000/\n=0)\/(0<=en/\en<=100000/\0<n):=oM
theorem Mk (t i:Int):t<0\/(0<=t/\i<=t)\/(0<=t/\t<i):=oM
theorem JS (s:State):256<s.j4.length\/(s.j4.length<=256/\s.final=true)\/(s.j4.length<=256/\s.final=false):=by
 rcases s.final with _ | _<;>simp<;>omega
theorem qj (w:World) (en:Int) (sv:Value) (init:Nat) (ss:List State) (o8:RS w sv ss) (a6:∀ s∈ss,L3 s) (hlen:ss.length<=1000000) (AW:∀ s∈ss,s.j4.length<=1000):E2 w 34 #[.int .i64 en,.agg #[sv,.int .u64 init]] (.bool (X2 en ss)):=by
 refine Z6 66 Tryz.func34 fun fr hf s0 s1=> ?_
 obtain ⟨A,cc,rfl,U0⟩:=o8.form
 have HO:=H9 a6;have HF:=H9 AW;clear a6 AW
 refine Ze fun _ a8=>Zr [] hf ?_
 refine y4 0 3 hf ?_
 clear hf s0 s1;intro a7 hf sS
 generalize p8:w.alloc (.cells #[.slice A ss.length cc,.int .u64 init] 38)=W0
 obtain ⟨o7,c0,c1, -, -⟩:=P7 p8
 clear p8
 have R9:=o8.later o7
 clear o8
 refine Zt a8 fun _ a8=> ?_
 have bB:=hf.B5 12 13 11 14 15
 refine Zy ?_
 refine Zc (Yy W0 _ init ss R9 HO.out hlen HF.out) ?_;rintro e w1 ⟨rfl,p6⟩
 refine Zv ?_
 iterate 5 refine Zy ?_
 refine Fc.nil (y7 0 3 5 hf ?_)
 intro a7 hf sS
 have zX:=R9.later p6
 have e0:=cL p6 c0
 have e1:=cL p6 c1
 have K8:=o7.trans (p6.mono o7.size)
 clear R9 c0 c1
 refine Zx a8 ?_
 rcases JR en ss.length with hc | hc | hc | hc
 . (
 have q1:decide (en<0)=true:=decide_eq_true hc
 have HC:=H9 hc;clear hc
 refine Ze fun _ a8=>Ze fun _ j8=> ?_
 have qs:=q1
 refine Zr [16,17,18,19,20,21,22,23,24] hf ?_
 refine y4 3 25 hf ?_
 clear hf sS qs;intro a7 hf sS
 refine Zx j8 (Fc.l7 sS.2 ?_)
 have D5:X2 en ss=false:=by unfold X2;have:=HC.out;rw [decide_eq_false (show ¬ 0<=en by omega)];rfl
 have J0:=H9 D5;clear D5
 refine Ze fun _ j8=>Zr [] hf ?_
 refine p5 4 hf ?_
 intro a7 hf s4
 refine Zx j8 (k8 ?_)
 exact Fc.o6 rfl hf s4 ⟨by rw [J0.out],K8⟩)
 . (
 have q1:decide (en<0)=false:=decide_eq_false oM
 have q2:decide ((100000:Int)<en)=true:=decide_eq_true hc.2
 have HC:=H9 hc;clear hc
 refine Ze fun _ a8=>Ze fun _ j8=> ?_
 have qs:=And.intro q1 q2
 refine Zr [16,17,18,19,20,21,22,23,24] hf ?_
 refine y4 3 25 hf ?_
 clear hf sS qs;intro a7 hf sS
 refine Zx j8 (Fc.l7 sS.2 ?_)
 have D5:X2 en ss=false:=by unfold X2;have:=HC.out;rw [decide_eq_true (show 0<=en by omega),decide_eq_false (show ¬ en<=100000 by omega)];rfl
 have J0:=H9 D5;clear D5
 refine Ze fun _ j8=>Zr [] hf ?_
 refine p5 4 hf ?_
 intro a7 hf s4
 refine Zx j8 (k8 ?_)
 exact Fc.o6 rfl hf s4 ⟨by rw [J0.out],K8⟩)
 . (
 have q1:decide (en<0)=false:=decide_eq_false oM
 have q2:decide ((100000:Int)<en)=false:=decide_eq_false oM
 have q3:((ss.length:Int)==0)=true:=beq_iff_eq.2 oM
 have HC:=H9 hc;clear hc
 refine Ze fun _ a8=>Ze fun _ j8=> ?_
 have qs:=And.intro q1 (And.intro q2 q3)
 refine Zr [16,17,18,19,20,21,22,23,24] hf ?_
 refine y4 3 25 hf ?_
 clear hf sS qs;intro a7 hf sS
 refine Zx j8 (Fc.l7 sS.2 ?_)
 have D5:X2 en ss=false:=by unfold X2;have:=HC.out;rw [decide_eq_false (show ¬ 0<ss.length by omega)];simp
 have J0:=H9 D5;clear D5
 refine Ze fun _ j8=>Zr [] hf ?_
 refine p5 4 hf ?_
 intro a7 hf s4
 refine Zx j8 (k8 ?_)
 exact Fc.o6 rfl hf s4 ⟨by rw [J0.out],K8⟩)
 . (
 have q1:decide (en<0)=false:=decide_eq_false oM
 have q2:decide ((100000:Int)<en)=false:=decide_eq_false oM
 have q3:((ss.length:Int)==0)=false:=beq_eq_false_iff_ne.2 oM
 have HC:=H9 hc;clear hc
 refine Ze fun _ a8=>Ze fun _ j8=> ?_
 have qs:=And.intro q1 (And.intro q2 q3)
 refine Zr [16,17,18,19,20,21,22,23,24] hf ?_
 refine y4 3 25 hf ?_
 clear hf sS qs;intro a7 hf sS
 refine Zx j8 (Fc.k9 sS.2 ?_)
 have GS:X2 en ss=mayL 0 ss:=by unfold X2;have:=HC.out;rw [decide_eq_true (show 0<=en by omega),decide_eq_true (show en<=100000 by omega),decide_eq_true (show 0<ss.length by omega)];rfl
 have Yz:=H9 GS;clear GS
 refine wp_skip (Zs a8 fun _ a8=>Ze fun _ j8=>Zr [26,27] hf ?_)
 refine y7 27 28 29 hf ?_
 intro a7 hf sS
 refine Zx j8 (wp_block (wp_loop_ghost (fun gk fr wr=>∃ (i:Nat),gk=ss.length-i/\i<=ss.length/\Fc.Fr 66 fr/\fr.tmps[27]? =some (.slice A ss.length cc)/\fr.tmps[28]? =some (.int .i64 ss.length)/\fr.tmps[29]? =some (.int .i64 i)/\mayL 0 ss=mayL i (ss.drop i)/\Below w1.heap.size w1 wr) (ss.length) ?_ ?_))
 . (
 obtain ⟨S0,bT,cT⟩:=sS
 exact ⟨0,rfl,Nat.zero_le _,hf,S0,bT,cT,rfl,Below.refl _ _⟩)
 . (
 clear hf sS
 rintro gk fr wr ⟨i,hk,hi,hf,S0,bT,cT,D6,hb⟩
 have HK:=H9 hk;have HM:=H9 D6;clear hk D6
 refine Ze fun _ j8=>Zr [] hf ?_
 refine z8 27 28 29 30 hf ?_
 clear hf S0 bT cT;intro a7 hf sS
 refine Zs j8 fun _ j8=>Fc.l0 sS.2.2.2 (fun hq=> ?_) (fun hq=> ?_)
 . (
 have o9:i<ss.length:=qT
 have HQ:=H9 hq;clear hq
 obtain ⟨s,N3⟩:∃ s,ss[i]? =some s:=⟨_,F8 o9⟩
 obtain ⟨b,off,av,rfl,C7⟩:=(zX.later hb).at_ N3
 have d0:=C7.c0;have d1:=C7.c1;have d2:=C7.c2
 have S7:=C7.j4
 obtain ⟨A2,c2,rfl,_⟩:=C7.j4.form
 have cY:=HO.out s (T9 N3)
 have A8:=vC N3
 have HS:=H9 N3;have L4:=H9 A8;clear N3 A8 C7
 have Z7:=cY.2.1
 refine wp_skip (Zs j8 fun _ j8=>wp_block (Ze fun _ l8=>Zr [31,32,33,8] hf ?_))
 refine D2 7 8 27 28 29 hf ?_
 intro a7 hf sS
 generalize cS:wr.alloc (.cells #[.slice A2 s.j4.length c2,.bool s.final,.int .u64 s.out] 46)=W5
 obtain ⟨F3,x0,x1,x2, -, -⟩:=E7 cS
 clear cS
 clear d0 d1 d2
 have mH:=S7.later F3
 clear S7
 have ZA:=hb.trans (F3.mono hb.size)
 have AX:=K8.trans (ZA.mono K8.size)
 refine Zx l8 (Fc.G1 (fun fr wq=>Fc.Fr 66 fr/\fr.tmps[7]? =some (.int .i64 i)/\fr.tmps[8]? =some (.pointer (some ⟨wr.heap.size,0,none⟩))/\fr.tmps[27]? =some (.slice (some ⟨b,off,none⟩) ss.length cc)/\fr.tmps[28]? =some (.int .i64 ss.length)/\fr.tmps[29]? =some (.int .i64 i)/\wq=W5/\(decide (s.j4.length<=256)&&(s.final||decide (s.out=0)))=true) ?_ ?_)
 . (
 rcases JS s with p7 | p7 | p7
 . (
 have q0:decide ((256:Int)<(s.j4.length:Int))=true:=decide_eq_true oM
 have M8:=H9 p7;clear p7
 refine Ze fun _ l8=> ?_
 have qs:=q0
 refine Zr [34,35,36,37,38,39,40,41,42,43,44,45,46] hf ?_
 refine F1 7 8 27 28 29 47 hf ?_
 clear hf sS qs;intro a7 hf sS
 refine Zx l8 (Fc.l7 sS.2.2.2.2.2 ?_)
 have D5:X2 en ss=false:=by rw [Yz.out,HM.out,L4.out];have:=M8.out;rw [decide_eq_false (show ¬ s.j4.length<=256 by omega)];rfl
 have J0:=H9 D5;clear D5
 refine Ze fun _ l8=>Zr [] hf ?_
 refine p5 4 hf ?_
 intro a7 hf s4
 refine Zx l8 (k8 ?_)
 exact Fc.o6 rfl hf s4 ⟨by rw [J0.out],AX⟩)
 . (
 have q0:decide ((256:Int)<(s.j4.length:Int))=false:=decide_eq_false oM
 have q1:=p7.2
 have M8:=H9 p7;clear p7
 refine Ze fun _ l8=> ?_
 have qs:=And.intro q0 q1
 refine Zr [34,35,36,37,38,39,40,41,42,43,44,45,46] hf ?_
 refine F1 7 8 27 28 29 47 hf ?_
 clear hf sS qs;intro a7 hf sS
 refine Zx l8 (Fc.k9 sS.2.2.2.2.2 ?_)
 have iA:(decide (s.j4.length<=256)&&(s.final||decide (s.out=0)))=true:=by have:=M8.out;rw [decide_eq_true this.1,this.2];rfl
 have uC:=H9 iA;clear iA
 refine wp_skip (Fc.j7 ?_)
 obtain ⟨s7,s8,S0,bT,cT,me⟩:=sS
 exact ⟨hf,s7,s8,S0,bT,cT,rfl,uC.out⟩)
 . (
 have q0:decide ((256:Int)<(s.j4.length:Int))=false:=decide_eq_false oM
 have q1:=p7.2
 have M8:=H9 p7;clear p7
 refine Ze fun _ l8=> ?_
 have qs:=And.intro q0 q1
 refine Zr [34,35,36,37,38,39,40,41,42,43,44,45,46] hf ?_
 refine F1 7 8 27 28 29 47 hf ?_
 clear hf sS qs;intro a7 hf sS
 refine Zx l8 (Fc.l0 sS.2.2.2.2.2 (fun AY=> ?_) (fun AY=> ?_))
 . (
 have AZ:s.out≠0:=by simpa using AY
 have Mm:=H9 AZ;clear AZ AY
 have D5:X2 en ss=false:=by rw [Yz.out,HM.out,L4.out,M8.out.2,decide_eq_false Mm.out];simp
 have J0:=H9 D5;clear D5
 refine Ze fun _ l8=>Zr [] hf ?_
 refine p5 4 hf ?_
 intro a7 hf s4
 refine Zx l8 (k8 ?_)
 exact Fc.o6 rfl hf s4 ⟨by rw [J0.out],AX⟩)
 . (
 have AZ:s.out=0:=by simpa using AY
 have Mm:=H9 AZ;clear AZ AY
 have iA:(decide (s.j4.length<=256)&&(s.final||decide (s.out=0)))=true:=by have:=M8.out;rw [decide_eq_true this.1,this.2,decide_eq_true Mm.out];rfl
 have uC:=H9 iA;clear iA
 refine wp_skip (Fc.j7 ?_)
 obtain ⟨s7,s8,S0,bT,cT,me⟩:=sS
 exact ⟨hf,s7,s8,S0,bT,cT,rfl,uC.out⟩)))
 . (
 clear hf sS
 rintro fr wq ⟨hf,s7,s8,S0,bT,cT,hw,iA⟩
 subst wq
 have uC:=H9 iA;clear iA
 refine Ze fun _ l8=>Zr [48,49] hf ?_
 refine Z1 7 27 28 29 49 50 51 hf ?_
 clear hf s7 s8 S0 bT cT;intro a7 hf sS
 refine Zx l8 (wp_block (wp_loop_ghost (fun lR fr pA=>∃ (k:Nat),lR=s.j4.length-k/\k<=s.j4.length/\Fc.Fr 66 fr/\fr.tmps[7]? =some (.int .i64 i)/\fr.tmps[27]? =some (.slice (some ⟨b,off,none⟩) ss.length cc)/\fr.tmps[28]? =some (.int .i64 ss.length)/\fr.tmps[29]? =some (.int .i64 i)/\fr.tmps[49]? =some (.slice A2 s.j4.length c2)/\fr.tmps[50]? =some (.int .i64 s.j4.length)/\fr.tmps[51]? =some (.int .i64 k)/\okTo i s.j4=okTo i (s.j4.drop k)/\Below W5.heap.size W5 pA) (s.j4.length) ?_ ?_))
 . (
 obtain ⟨s7,S0,bT,cT,zY,GU,qQ⟩:=sS
 exact ⟨0,rfl,Nat.zero_le _,hf,s7,S0,bT,cT,zY,GU,qQ,rfl,Below.refl _ _⟩)
 . (
 clear hf sS
 rintro lR fr pA ⟨k,M9,aN,hf,s7,S0,bT,cT,zY,GU,qQ,S1,C4⟩
 have xQ:=H9 M9;have Ac:=H9 S1;clear M9 S1
 refine Ze fun _ l8=>Zr [] hf ?_
 refine mF 7 27 28 29 49 50 51 52 hf ?_
 clear hf s7 S0 bT cT zY GU qQ;intro a7 hf sS
 refine Zs l8 fun _ l8=>Fc.l0 sS.2.2.2.2.2.2.2 (fun C5=> ?_) (fun C5=> ?_)
 . (
 have bC:k<s.j4.length:=by have h9:=of_decide_eq_true C5;omega
 have xR:=H9 C5;clear C5
 obtain ⟨a,aU⟩:∃ a,s.j4[k]? =some a:=⟨_,F8 bC⟩
 obtain ⟨b3,uD,rfl,X3,y0,y1,y2⟩:=(mH.later C4).at' aU
 have uE:=cY.2.2 a (T9 aU)
 have C7:=JQ (i:=i) aU
 have TK:=H9 aU;have zZ:=H9 C7;clear aU C7
 have SP:=uE.1
 rcases Mk a.to (i:Int) with hc | hc | hc
 . (
 have q2:decide (a.to<0)=true:=decide_eq_true hc
 have HC:=H9 hc;clear hc
 refine wp_skip (Zs l8 fun _ l8=>wp_block (Ze fun _ F5=>Zr [53,54,10] hf ?_))
 refine mF 7 10 27 28 29 49 50 51 hf ?_
 intro a7 hf sS
 generalize fH:pA.alloc (.cells #[.int .u8 a.byte,.int .u64 a.out,.int .i64 a.to] 71)=W7
 obtain ⟨B1, -, -,z2, -, -⟩:=E7 fH
 clear fH
 clear y0 y1 y2 X3
 have N0:=AX.trans ((C4.trans (B1.mono C4.size)).mono AX.size)
 refine Zs F5 fun _ F5=> ?_
 have qs:=q2
 refine Zr [55,56,57,58,59,60,61,62] hf ?_
 refine mF 7 27 28 29 49 50 51 63 hf ?_
 clear hf sS qs;intro a7 hf sS
 refine Zx F5 (Fc.l7 sS.2.2.2.2.2.2.2 ?_)
 have D5:X2 en ss=false:=by rw [Yz.out,HM.out,L4.out,Ac.out,zZ.out];have:=HC.out;rw [decide_eq_false (show ¬ 0<=a.to by omega)];simp
 have J0:=H9 D5;clear D5
 refine Ze fun _ F5=>Zr [] hf ?_
 refine p5 4 hf ?_
 intro a7 hf s4
 refine Zx F5 (k8 ?_)
 exact Fc.o6 rfl hf s4 ⟨by rw [J0.out],N0⟩)
 . (
 have q2:decide (a.to<0)=false:=decide_eq_false oM
 have q3:decide ((i:Int)<=a.to)=true:=decide_eq_true hc.2
 have HC:=H9 hc;clear hc
 refine wp_skip (Zs l8 fun _ l8=>wp_block (Ze fun _ F5=>Zr [53,54,10] hf ?_))
 refine mF 7 10 27 28 29 49 50 51 hf ?_
 intro a7 hf sS
 generalize fH:pA.alloc (.cells #[.int .u8 a.byte,.int .u64 a.out,.int .i64 a.to] 71)=W7
 obtain ⟨B1, -, -,z2, -, -⟩:=E7 fH
 clear fH
 clear y0 y1 y2 X3
 have N0:=AX.trans ((C4.trans (B1.mono C4.size)).mono AX.size)
 refine Zs F5 fun _ F5=> ?_
 have qs:=And.intro q2 q3
 refine Zr [55,56,57,58,59,60,61,62] hf ?_
 refine mF 7 27 28 29 49 50 51 63 hf ?_
 clear hf sS qs;intro a7 hf sS
 refine Zx F5 (Fc.l7 sS.2.2.2.2.2.2.2 ?_)
 have D5:X2 en ss=false:=by rw [Yz.out,HM.out,L4.out,Ac.out,zZ.out];have:=HC.out;rw [decide_eq_false (show ¬ a.to<(i:Int) by omega)];simp
 have J0:=H9 D5;clear D5
 refine Ze fun _ F5=>Zr [] hf ?_
 refine p5 4 hf ?_
 intro a7 hf s4
 refine Zx F5 (k8 ?_)
 exact Fc.o6 rfl hf s4 ⟨by rw [J0.out],N0⟩)
 . (
 have q2:decide (a.to<0)=false:=decide_eq_false oM
 have q3:decide ((i:Int)<=a.to)=false:=decide_eq_false oM
 have HC:=H9 hc;clear hc
 refine wp_skip (Zs l8 fun _ l8=>wp_block (Ze fun _ F5=>Zr [53,54,10] hf ?_))
 refine mF 7 10 27 28 29 49 50 51 hf ?_
 intro a7 hf sS
 generalize fH:pA.alloc (.cells #[.int .u8 a.byte,.int .u64 a.out,.int .i64 a.to] 71)=W7
 obtain ⟨B1, -, -,z2, -, -⟩:=E7 fH
 clear fH
 clear y0 y1 y2 X3
 have N0:=AX.trans ((C4.trans (B1.mono C4.size)).mono AX.size)
 refine Zs F5 fun _ F5=> ?_
 have qs:=And.intro q2 q3
 refine Zr [55,56,57,58,59,60,61,62] hf ?_
 refine mF 7 27 28 29 49 50 51 63 hf ?_
 clear hf sS qs;intro a7 hf sS
 refine Zx F5 (Fc.k9 sS.2.2.2.2.2.2.2 ?_)
 have qR:okTo i s.j4=okTo i (s.j4.drop (k+1)):=by rw [Ac.out,zZ.out];have:=HC.out;rw [decide_eq_true (show 0<=a.to by omega),decide_eq_true (show a.to<(i:Int) by omega)];rfl
 have Dr:=H9 qR;clear qR
 refine wp_skip (Fc.j9 (Zx l8 (Zr [64] hf ?_)))
 refine Z1 7 27 28 29 49 50 51 hf ?_
 intro a7 hf sS
 refine Fc.j7 ?_
 obtain ⟨s7,S0,bT,cT,zY,GU,qQ⟩:=sS
 exact ⟨_,by have:=xQ.out;omega,k+1,rfl,oM,hf,s7,S0,bT,cT,zY,GU,by rw [qQ];rfl,Dr.out,C4.trans (B1.mono C4.size)⟩))
 . (
 have iB:k=s.j4.length:=by have h9:=of_decide_eq_false C5;omega
 have gW:okTo i s.j4=true:=by rw [Ac.out,iB,List.drop_length];rfl
 have Mn:=H9 gW;clear gW iB C5
 have JT:=ZA.trans (C4.mono ZA.size)
 refine Zo ?_
 refine Fc.j9 (Zx j8 (Zr [65] hf ?_))
 refine y7 27 28 29 hf ?_
 intro a7 hf sS
 refine Fc.j7 ?_
 obtain ⟨S0,bT,cT⟩:=sS
 exact ⟨_,by have:=HK.out;omega,i+1,rfl,oM,hf,S0,bT,by rw [cT];rfl,by rw [HM.out,L4.out,uC.out,Mn.out];rfl,JT⟩))))
 . (
 have C3:i=ss.length:=qF
 have nM:=H9 C3;clear C3 hq
 refine Zo ?_
 refine Zs a8 fun _ a8=>Zr [] hf ?_
 refine p5 4 hf ?_
 intro a7 hf s4
 refine Zx a8 (k8 ?_)
 refine Fc.o6 rfl hf s4 ⟨?_,K8.trans (hb.mono K8.size)⟩
 rw [Yz.out,HM.out,nM.out,List.drop_length]
 rfl)))
theorem kC (n:Nat) (ss:List State) (u6:List Open) (h:u6.length<=1):closeN n ss u6=(ss,u6):=by
 cases n with
 | zero=>simp [closeN]
 | succ n =>
  match u6,h with
  | [],_=>rfl
  | [o],_=>rfl
theorem fJ (ss:List State) (u6:List Open):closeN 0 ss u6=(ss,u6):=by cases u6<;>rfl
theorem uF (n:Nat):∀ (ss:List State) (u6:List Open),n<u6.length->(closeN n ss u6).2.length=u6.length-n:=by
 induction n with
 | zero=>intro ss u6 h;rw [fJ];rfl
 | succ n ih =>
  intro ss u6 h
  match u6,h with
  | [o],h=>simp at h
  | o::up::u6,h =>
   show (closeN n (Q2 ss up o).1 ((Q2 ss up o).2::u6)).2.length=_
   rw [ih _ _ (by simp at h |-;omega)]
   simp
theorem kD (ss:List State) (u6:List Open) (d:Nat) (h:d<u6.length):(close ss u6 d).2.length=d+1:=by
 unfold close
 rw [uF _ _ _ oM]
 omega
theorem JU (a b:List Nat):shared a b<=b.length:=by
 induction a generalizing b with
 | nil=>simp [shared]
 | cons x a ih =>
  cases b with
  | nil=>simp [shared]
  | cons y b =>
   simp only [shared]
   split
   ·have:=ih b;simp;omega
   ·omega
theorem xS (u6:List Open) (w:List Nat):(opens u6 w).length=u6.length+w.length:=by
 induction w generalizing u6 with
 | nil=>rfl
 | cons b w ih=>rw [opens,ih];simp;omega
theorem nN (v:Nat) (u6:List Open):(mark v u6).length=u6.length:=by cases u6<;>rfl
theorem Ad (x:List State×List Open) (last:List Nat) (a b:List Wv):adds x last (a++b)=adds (adds x last a) ((a.getLast?.map Prod.fst).getD last) b:=by
 induction a generalizing x last with
 | nil=>rfl
 | cons e a ih =>
  rw [List.cons_append,adds,ih,adds]
  congr 1
  cases a with
  | nil=>rfl
  | cons f a =>
   rw [List.getLast?_cons_cons]
   obtain ⟨y,hy⟩:∃ y,(f::a).getLast? =some y:=⟨_,List.getLast?_eq_some_getLast sP⟩
   rw [hy];rfl
def lexlt:List Nat->List Nat->Bool
 | [],_::_=>true
 | _,[]=>false
 | x::a,y::b=>decide (x<y)||(decide (x=y)&&lexlt a b)
def xT (l:List Wv):Prop:=l.Pairwise fun a b=>lexlt a.1 b.1=true
def groups:List Wv->List (Nat×List Wv)
 | []=>[]
 | ([],_)::l=>groups l
 | (b::w,v)::l=>match groups l with
  | []=>[(b,[(w,v)])]
  | (b',g)::gs=>if b=b' then (b,(w,v)::g)::gs else (b,[(w,v)])::(b',g)::gs
def pre (p:List Nat) (e:Wv):Wv:=(p++e.1,e.2)
theorem bD {x y:Nat} {a b:List Nat}:lexlt (x::a) (y::b)=true ↔ x<y\/(x=y/\lexlt a b=true):=by simp [lexlt]
theorem S8 (a:List Nat):lexlt a []=false:=by cases a<;>rfl
theorem nP:∀ (a b c:List Nat),lexlt a b=true->lexlt b c=true->lexlt a c=true
 | _,[],_,h1,_=>by rw [S8] at h1;cases h1
 | _,_::_,[],_,h2=>by rw [S8] at h2;cases h2
 | [],y::b,z::c,_,_=>rfl
 | x::a,y::b,z::c,h1,h2=>by
  rw [bD] at h1 h2 |-
  rcases h1 with h1 | ⟨rfl,h1⟩
  ·rcases h2 with h2 | ⟨rfl,h2⟩
   ·exact .inl oM
   ·exact .inl h1
  ·rcases h2 with h2 | ⟨rfl,h2⟩
   ·exact .inl h2
   ·exact .inr ⟨rfl,nP a b c h1 h2⟩
def finOf:List Wv->Bool×Nat
 | ([],v)::_=>(true,v)
 | _=>(false,0)
def arcsN (rec:List State->List Wv->List State×State):List State->List u3->List (Nat×List Wv)->List State×List u3
 | ss,ars,[]=>(ss,ars)
 | ss,ars,(b,g)::gs =>
  let r:=rec ss g
  let q:=finish r.1 (less r.2 (leastOf r.2))
  arcsN rec q.1 (ars++[⟨b,leastOf r.2,(q.2:Int)⟩]) gs
def N:Nat->List State->List Wv->List State×State
 | 0,ss,_=>(ss,M5)
 | f+1,ss,l =>
  let r:=arcsN (N f) ss [] (groups l)
  (r.1,⟨(finOf l).1,(finOf l).2,r.2⟩)
def nQ (f:Nat) (l:List Wv):Prop:=∀ e∈l,e.1.length<f
section
variable {f:Nat} (IH:∀ (l:List Wv) (ss:List State) (p:List Nat) (top:Open) (rest:List Open),nQ f l->l≠[]->xT l->rest.length=p.length->top.st=M5 ->
  close (adds (ss,top::rest) p (l.map (pre p))).1 (adds (ss,top::rest) p (l.map (pre p))).2 p.length=((N f ss l).1,⟨(N f ss l).2,top.kA⟩::rest))
include IH
end
section
variable {f:Nat} (IH:∀ (l:List Wv) (ss:List State) (p:List Nat) (le:Nat),nQ f l->l≠[]->xT l->qk f ss (l.map (pre p)) p.length le=finish (N f ss l).1 (less (N f ss l).2 le))
include IH
end
def okArcs (i:Nat):Int->List u3->Bool
 | _,[]=>true
 | last,a::l=>decide (0<=a.to)&&decide (a.to<(i:Int))&&decide (last<(a.byte:Int))&&okArcs i (a.byte:Int) l
def formedL:Nat->List State->Bool
 | _,[]=>true
 | i,s::l=>(s.final||decide (s.out=0))&&okArcs i (-1) s.j4&&formedL (i+1) l
def D4 (ss:List State):Bool:=formedL 0 ss&&decide (0<ss.length)
theorem kE {ss:List State} {i:Nat} {s:State} (h:ss[i]? =some s):formedL i (ss.drop i)=((s.final||decide (s.out=0))&&okArcs i (-1) s.j4&&formedL (i+1) (ss.drop (i+1))):=by rw [R4 h];rfl
theorem nS {l:List u3} {i k:Nat} {last:Int} {a:u3} (h:l[k]? =some a):okArcs i last (l.drop k)=(decide (0<=a.to)&&decide (a.to<(i:Int))&&decide (last<(a.byte:Int))&&okArcs i (a.byte:Int) (l.drop (k+1))):=by rw [R4 h];rfl
def wArcs (rec:Nat->Nat->Option Nat):List u3->Nat->Option Nat
 | [],left=>some left
 | a::l,left=>if (left:Int)<=a.to then (match rec a.to.toNat left with | none=>none | some x=>wArcs rec l x) else wArcs rec l left
def K2 (ss:List State) (s:Nat):List u3:=(ss[s]?.map State.j4).getD []
def leave (s:Nat):Option Nat->Option Nat
 | none=>none
 | some l=>if s=l then some (l+1) else none
def wlk:Nat->List State->Nat->Nat->Option Nat
 | 0,_,_,_=>none
 | f+1,ss,s,left=>leave s (wArcs (wlk f ss) (K2 ss s) left)
def resume (ss:List State) (s k left:Nat):Option Nat:=leave s (wArcs (wlk s ss) ((K2 ss s).drop k) left)
def contW (ss:List State):List (Nat×Nat)->Nat->Bool
 | [],left=>decide (left=ss.length)
 | (s,k)::rest,left=>match resume ss s k left with
  | none=>false
  | some l=>contW ss rest l
def fK (ss:List State):Prop:=∀ (s:Nat),∀ a∈K2 ss s,0<=a.to/\a.to<(s:Int)
theorem nT {r r':Nat->Nat->Option Nat}:∀ (l:List u3) (left:Nat),(∀ a∈l,∀ x,r a.to.toNat x=r' a.to.toNat x)->wArcs r l left=wArcs r' l left
 | [],_,_=>rfl
 | a::l,left,h=>by
  have h1:=h a (List.mem_cons_self ..)
  have ih:=fun x=>nT l x (fun b hb=>h b (List.mem_cons_of_mem _ hb))
  simp only [wArcs]
  rw [h1 left,ih left]
  split
  ·cases r' a.to.toNat left with
   | none=>rfl
   | some x=>exact ih x
  ·rfl
theorem Ae {ss:List State} (hA:fK ss):∀ (s f f':Nat),s<f->s<f'->∀ left,wlk f ss s left=wlk f' ss s left:=by
 intro s
 induction s using Nat.strongRecOn with
 | _ s ih =>
  intro f f' h h' left
  obtain ⟨g,rfl⟩:∃ g,f=g+1:=⟨f-1,oM⟩
  obtain ⟨g',rfl⟩:∃ g',f'=g'+1:=⟨f'-1,oM⟩
  simp only [wlk]
  rw [nT (K2 ss s) left (fun a ha x=>by
   have:=hA s a ha
   exact ih a.to.toNat oM g g' (by omega) oM x)]
theorem Ds {ss:List State} (hA:fK ss) {s t left:Nat} (h:t<s):wlk s ss t left=resume ss t 0 left:=by
 rw [Ae hA t s (t+1) h oM]
 rfl
theorem JV {ss:List State} (hA:fK ss) {s k left:Nat} {rest:List (Nat×Nat)} {a:u3} (h:(K2 ss s)[k]? =some a) (hl:(left:Int)<=a.to):contW ss ((s,k)::rest) left=contW ss ((a.to.toNat,0)::(s,k+1)::rest) left:=by
 have ha:=hA s a (T9 h)
 simp only [contW,resume]
 rw [R4 h]
 simp only [wArcs,hl,if_true]
 rw [Ds hA oM]
 cases hr:resume ss a.to.toNat 0 left with
 | none=>simp [leave,resume] at hr |-;rw [hr]
 | some x=>simp only [resume] at hr |-;rw [hr]
theorem JW {ss:List State} {s k left:Nat} {rest:List (Nat×Nat)} {a:u3} (h:(K2 ss s)[k]? =some a) (hl:¬ (left:Int)<=a.to):contW ss ((s,k)::rest) left=contW ss ((s,k+1)::rest) left:=by
 simp only [contW,resume]
 rw [R4 h]
 simp only [wArcs,hl,if_false]
theorem Mp {ss:List State} {s k left:Nat} {rest:List (Nat×Nat)} (h:(K2 ss s).length<=k):contW ss ((s,k)::rest) left=if s=left then contW ss rest (left+1) else false:=by
 simp only [contW,resume]
 rw [List.drop_eq_nil_of_le h]
 simp only [wArcs,leave]
 by_cases hs:s=left
 ·simp [hs]
 ·simp [hs]
def J7 (ss:List State):Bool:=contW ss [(ss.length-1,0)] 0
def X5 (ss:List State) (i:Nat) (s:State):Bool:= !(!s.final&&decide (s.j4.length=0))&&decide (leastOf s=0)&&decide (s∉ss.take i)
def Z2 (ss:List State):Nat->List State->Bool
 | _,[]=>true
 | i,s::l=>X5 ss i s&&Z2 ss (i+1) l
theorem xU {ss:List State} {i:Nat} {s:State} (h:ss[i]? =some s):Z2 ss i (ss.drop i)=(X5 ss i s&&Z2 ss (i+1) (ss.drop (i+1))):=by rw [R4 h];rfl
def rightF (ss:List State) (init:Nat):Bool :=
 D4 ss&&(match ss.getLast? with
  | none=>false
  | some root=>if !root.final&&decide (root.j4.length=0) then decide (ss.length=1)&&decide (init=0) else J7 ss&&Z2 ss 0 ss)
def endsL (ss:List State):Nat->Nat->List Nat->List Nat
 | 0,_,out=>out
 | f+1,s,out=>if s∈out then out else (K2 ss s).foldl (fun o a=>endsL ss f a.to.toNat o) out++[s]
def zeroOf (s:State):Bool:=(s.final&&decide (s.out=0))||s.j4.any fun a=>decide (a.out=0)
def N4 (ss:List State) (order:List Nat) (i:Nat) (s:State):Bool:=decide (order[i]? =some i)&& !(!s.final&&decide (s.j4.length=0))&&zeroOf s&&decide (s∉ss.take i)
def S2 (ss:List State) (order:List Nat):Nat->List State->Bool
 | _,[]=>true
 | i,s::l=>N4 ss order i s&&S2 ss order (i+1) l
theorem Af {ss:List State} {order:List Nat} {i:Nat} {s:State} (h:ss[i]? =some s):S2 ss order i (ss.drop i)=(N4 ss order i s&&S2 ss order (i+1) (ss.drop (i+1))):=by rw [R4 h];rfl
def F2 (ss:List State) (init:Nat):Bool :=
 D4 ss&&(match ss.getLast? with
  | none=>false
  | some root=>if !root.final&&decide (root.j4.length=0) then decide (ss.length=1)&&decide (init=0)
   else decide ((endsL ss ss.length (ss.length-1) []).length=ss.length)&&S2 ss (endsL ss ss.length (ss.length-1) []) 0 ss)
def Dt (out:List Nat):Prop:=∃ i x:Nat,out[i]? =some x/\x≠i
theorem Dt.more {a b:List Nat} (h:Dt a) (hp:a <+: b):Dt b:=by
 obtain ⟨i,x,h1,h2⟩:=h
 obtain ⟨c,rfl⟩:=hp
 exact ⟨i,x,by rw [List.getElem?_append_left (H2 h1).1];exact h1,h2⟩
theorem qS {β:Type} (f:List Nat->β->List Nat) (hf:∀ o b,o <+: f o b):∀ (l:List β) (o:List Nat),o <+: l.foldl f o
 | [],o=>List.prefix_refl o
 | b::l,o=>(hf o b).trans (qS f hf l _)
theorem vD (ss:List State):∀ (f s:Nat) (out:List Nat),out <+: endsL ss f s out
 | 0,_,out=>List.prefix_refl out
 | f+1,s,out=>by
  simp only [endsL]
  split
  ·exact List.prefix_refl out
  ·exact (qS _ (fun o (a:u3)=>vD ss f a.to.toNat o) _ out).trans (List.prefix_append _ _)
theorem fL {ss:List State} {f s:Nat} {out:List Nat} (h:s∈out):endsL ss f s out=out:=by
 cases f with
 | zero=>rfl
 | succ f=>simp only [endsL];rw [if_pos h]
theorem gF {ss:List State} {f:Nat} (ih:∀ (s left:Nat),left<=s->(∀ l,wlk f ss s left=some l->endsL ss f s (List.range left)=List.range l/\left<=l)/\(wlk f ss s left=none->f<=s\/Dt (endsL ss f s (List.range left)))) (b:Nat) (hb:b<=f) :
  ∀ (l:List u3) (left:Nat),(∀ a∈l,0<=a.to/\a.to<(b:Int))->(∀ x,wArcs (wlk f ss) l left=some x->l.foldl (fun o a=>endsL ss f a.to.toNat o) (List.range left)=List.range x/\left<=x)/\(wArcs (wlk f ss) l left=none->Dt (l.foldl (fun o a=>endsL ss f a.to.toNat o) (List.range left)))
 | [],left,_=>⟨fun x hx=>by simp only [wArcs,Option.some.injEq] at hx;subst hx;exact ⟨rfl,nR⟩,fun hx=>by simp [wArcs] at hx⟩
 | a::l,left,h=>by
  have ha:=h a (List.mem_cons_self ..)
  have hl:=fun x (hx:x∈l)=>h x (List.mem_cons_of_mem _ hx)
  simp only [wArcs,List.foldl_cons]
  by_cases tQ:(left:Int)<=a.to
  ·rw [if_pos tQ]
   obtain ⟨i1,i2⟩:=ih a.to.toNat left oM
   cases hw:wlk f ss a.to.toNat left with
   | none =>
    refine ⟨fun x hx=>by simp at hx,fun _=> ?_⟩
    rcases i2 hw with h9 | h9
    ·omega
    ·exact h9.more (qS _ (fun o a=>vD ss f a.to.toNat o) l _)
   | some y =>
    obtain ⟨j1,j2⟩:=i1 y hw
    obtain ⟨k1,k2⟩:=gF ih b hb l y hl
    rw [j1]
    exact ⟨fun x hx=>⟨(k1 x hx).1,Nat.le_trans j2 (k1 x hx).2⟩,k2⟩
  ·rw [if_neg tQ,fL (List.mem_range.2 oM)]
   exact gF ih b hb l left hl
theorem qU {ss:List State} (hA:fK ss):∀ (f s left:Nat),left<=s->(∀ l,wlk f ss s left=some l->endsL ss f s (List.range left)=List.range l/\left<=l)/\(wlk f ss s left=none->f<=s\/Dt (endsL ss f s (List.range left)))
 | 0,s,left,_=>⟨fun l hl=>by simp [wlk] at hl,fun _=> .inl (Nat.zero_le _)⟩
 | f+1,s,left,hs=>by
  by_cases hf:f+1<=s
  ·refine ⟨fun l hl=> ?_,fun _=> .inl hf⟩
   have key:=gF (qU hA f)
   -- the depth is never too small where an answer comes
   have hd:∀ (g t lf r:Nat),wlk g ss t lf=some r->t<g->wlk (t+1) ss t lf=some r:=fun g t lf r h1 h2=>by rw [Ae hA t (t+1) g oM h2];exact h1
   have gen:∀ (g t lf r:Nat),lf<=t->wlk g ss t lf=some r->endsL ss g t (List.range lf)=List.range r/\lf<=r:=by
    intro g
    induction g with
    | zero=>intro t lf r _ h;simp [wlk] at h
    | succ g ih =>
     intro t lf r o9 h
     have j4:∀ (l:List u3) (left x:Nat),(∀ a∈l,0<=a.to)->wArcs (wlk g ss) l left=some x->l.foldl (fun o a=>endsL ss g a.to.toNat o) (List.range left)=List.range x/\left<=x:=by
      intro l
      induction l with
      | nil=>intro left x _ hx;simp only [wArcs,Option.some.injEq] at hx;subst hx;exact ⟨rfl,nR⟩
      | cons a l mc =>
       intro left x qJ hx
       have ha:=qJ a (List.mem_cons_self ..)
       simp only [wArcs,List.foldl_cons] at hx |-
       by_cases tQ:(left:Int)<=a.to
       ·rw [if_pos tQ] at hx
        cases hw:wlk g ss a.to.toNat left with
        | none=>rw [hw] at hx;simp at hx
        | some y =>
         rw [hw] at hx
         obtain ⟨j1,j2⟩:=ih a.to.toNat left y oM hw
         obtain ⟨k1,k2⟩:=mc y x (fun b hb=>qJ b (List.mem_cons_of_mem _ hb)) hx
         rw [j1]
         exact ⟨k1,Nat.le_trans j2 k2⟩
       ·rw [if_neg tQ] at hx
        rw [fL (List.mem_range.2 oM)]
        exact mc left x (fun b hb=>qJ b (List.mem_cons_of_mem _ hb)) hx
     simp only [wlk,leave] at h
     cases hw:wArcs (wlk g ss) (K2 ss t) lf with
     | none=>rw [hw] at h;simp at h
     | some x =>
      rw [hw] at h
      obtain ⟨k1,k2⟩:=j4 _ _ _ (fun a ha=>(hA t a ha).1) hw
      by_cases Wi:t=x
      ·simp only [Wi,if_true,Option.some.injEq] at h
       subst h
       simp only [endsL]
       rw [if_neg (by rw [List.mem_range];omega),k1,Wi,List.range_succ]
       exact ⟨rfl,oM⟩
      ·simp [Wi] at h
   exact gen (f+1) s left l hs hl
  ·have key:=gF (qU hA f) s oM (K2 ss s) left (fun a ha=>hA s a ha)
   have z1w:s∉List.range left:=by rw [List.mem_range];omega
   simp only [wlk,endsL,if_neg z1w]
   cases hw:wArcs (wlk f ss) (K2 ss s) left with
   | none=>exact ⟨fun l hl=>by simp [leave] at hl,fun _=> .inr ((key.2 hw).more (List.prefix_append _ _))⟩
   | some x =>
    obtain ⟨k1,k2⟩:=key.1 x hw
    rw [k1]
    by_cases hsx:s=x
    ·refine ⟨fun l hl=> ?_,fun h=>by simp [leave,hsx] at h⟩
     simp only [leave,hsx,if_true,Option.some.injEq] at hl
     subst hl
     rw [hsx,List.range_succ]
     exact ⟨rfl,oM⟩
    ·refine ⟨fun l hl=>by simp [leave,hsx] at hl,fun _=> .inr ⟨x,s,?_,hsx⟩⟩
     rw [List.getElem?_append_right sP]
     simp
theorem Ag {ss:List State} (hA:fK ss) (h0:0<ss.length):(J7 ss=true->endsL ss ss.length (ss.length-1) []=List.range ss.length)/\(J7 ss=false->Dt (endsL ss ss.length (ss.length-1) [])):=by
 have hr:resume ss (ss.length-1) 0 0=wlk ss.length ss (ss.length-1) 0:=by
  obtain ⟨n,hn⟩:∃ n,ss.length=n+1:=⟨ss.length-1,oM⟩
  rw [hn]
  rfl
 have h:=qU hA ss.length (ss.length-1) 0 (Nat.zero_le _)
 have hl:∀ x,wlk ss.length ss (ss.length-1) 0=some x->x=ss.length:=fun x hx=>by
  obtain ⟨n,hn⟩:∃ n,ss.length=n+1:=⟨ss.length-1,oM⟩
  rw [hn] at hx
  simp only [Nat.add_sub_cancel,wlk,leave] at hx
  cases hw:wArcs (wlk n ss) (K2 ss n) 0 with
  | none=>rw [hw] at hx;simp at hx
  | some y =>
   rw [hw] at hx
   by_cases hny:n=y
   ·simp [hny] at hx;omega
   ·simp [hny] at hx
 unfold J7
 simp only [contW,hr]
 cases hw:wlk ss.length ss (ss.length-1) 0 with
 | none =>
  refine ⟨fun h9=>by simp at h9,fun _=> ?_⟩
  rcases h.2 hw with h9 | h9
  ·omega
  ·exact h9
 | some x =>
  have hx:=hl x hw
  refine ⟨fun _=> ?_,fun h9=>by simp [hx] at h9⟩
  have h9:=(h.1 x hw).1
  rw [hx] at h9
  exact h9
theorem bE:∀ (l:List Nat) (x:Nat),l.foldl min x=0 ↔ x=0\/∃ y∈l,y=0
 | [],x=>by simp
 | y::l,x=>by
  simp only [List.foldl_cons,bE l,List.mem_cons]
  constructor
  ·rintro (h | ⟨z,hz,rfl⟩)
   ·rcases Nat.le_total x y with h1 | h1
    ·rw [Nat.min_eq_left h1] at h;exact .inl h
    ·rw [Nat.min_eq_right h1] at h;exact .inr ⟨y,.inl rfl,h⟩
   ·exact .inr ⟨0,.inr hz,rfl⟩
  ·rintro (h | ⟨z,hz | hz,rfl⟩)
   ·left;omega
   ·left;omega
   ·exact .inr ⟨0,hz,rfl⟩
theorem Du {s:State} (h:s.final=true\/s.j4.length≠0):zeroOf s=decide (leastOf s=0):=by
 have hb:∀ {a b:Bool},(a=true ↔ b=true)->a=b:=fun {a b} h=>by cases a<;>cases b<;>simp_all
 refine hb ?_
 rw [decide_eq_true_iff]
 unfold zeroOf leastOf
 simp only [Bool.or_eq_true,Bool.and_eq_true,decide_eq_true_eq,List.any_eq_true]
 cases hf:s.final with
 | true =>
  simp only [if_true,List.singleton_append,bE,true_and,List.mem_map]
  constructor
  ·rintro (h | ⟨a,ha,h⟩)
   ·exact .inl h
   ·exact .inr ⟨0,⟨a,ha,h⟩,rfl⟩
  ·rintro (h | ⟨_,⟨a,ha,rfl⟩,h⟩)
   ·exact .inl h
   ·exact .inr ⟨a,ha,h⟩
 | false =>
  cases hl:s.j4 with
  | nil=>rw [hf,hl] at h;simp at h
  | cons a l =>
   simp only [Bool.false_eq_true,if_false,List.map_cons,List.nil_append,bE,false_and,false_or,List.mem_cons,List.mem_map]
   constructor
   ·rintro ⟨b,rfl | hb,h⟩
    ·exact .inl h
    ·exact .inr ⟨0,⟨b,hb,h⟩,rfl⟩
   ·rintro (h | ⟨_,⟨b,hb,rfl⟩,h⟩)
    ·exact ⟨a,.inl rfl,h⟩
    ·exact ⟨b,.inr hb,h⟩
theorem Mq {ss:List State} {order:List Nat} {i:Nat} {s:State} (h:order[i]? =some i):N4 ss order i s=X5 ss i s:=by
 unfold N4 X5
 rw [decide_eq_true h,Bool.true_and]
 by_cases he:s.final=true\/s.j4.length≠0
 ·rw [Du he]
 ·have h1:s.final=false:=by cases hf:s.final with | true=>exact absurd (.inl hf) he | false=>rfl
  have h2:s.j4.length=0:=by rcases Nat.eq_zero_or_pos s.j4.length with h3 | h3;exact h3;exact absurd (.inr oM) he
  rw [h1,decide_eq_true h2]
  rfl
theorem GV {ss:List State} {order:List Nat}:∀ (l:List State) (i:Nat),(∀ j,i<=j->j<i+l.length->order[j]? =some j)->S2 ss order i l=Z2 ss i l
 | [],_,_=>rfl
 | s::l,i,h=>by
  simp only [S2,Z2]
  rw [Mq (h i nR sP),GV l (i+1) (fun j h1 h2=>h j oM (by simp only [List.length_cons];omega))]
theorem GW {ss:List State} {order:List Nat}:∀ (l:List State) (i k:Nat),i<=k->k<i+l.length->order[k]? ≠some k->S2 ss order i l=false
 | [],i,k,h1,h2,_=>by simp at h2;omega
 | s::l,i,k,h1,h2,h3=>by
  simp only [S2]
  rcases Nat.eq_or_lt_of_le h1 with h4 | h4
  ·subst h4
   unfold N4
   rw [decide_eq_false h3]
   rfl
  ·rw [GW l (i+1) k oM (by simp only [List.length_cons] at h2;omega) h3,Bool.and_false]
theorem cM:∀ (l:List u3) (i:Nat) (last:Int),okArcs i last l=true->∀ a∈l,0<=a.to/\a.to<(i:Int)
 | [],_,_,_=>by simp
 | a::l,i,last,h=>by
  simp only [okArcs,Bool.and_eq_true,decide_eq_true_eq] at h
  intro x hx
  rcases List.mem_cons.1 hx with rfl | hx
  ·exact ⟨h.1.1.1,h.1.1.2⟩
  ·exact cM l i _ h.2 x hx
theorem nU:∀ (l:List State) (i:Nat),formedL i l=true->∀ (j:Nat) (s:State),l[j]? =some s->okArcs (i+j) (-1) s.j4=true
 | [],_,_,j,s,hj=>by simp at hj
 | x::l,i,h,j,s,hj=>by
  simp only [formedL,Bool.and_eq_true] at h
  cases j with
  | zero=>injection hj with hj;subst hj;exact h.1.2
  | succ j=>rw [show i+(j+1)=(i+1)+j by omega];exact nU l (i+1) h.2 j s hj
theorem kF {ss:List State} (h:D4 ss=true):fK ss/\0<ss.length:=by
 unfold D4 at h
 rw [Bool.and_eq_true] at h
 refine ⟨fun s a ha=> ?_,of_decide_eq_true h.2⟩
 unfold K2 at ha
 cases hs:ss[s]? with
 | none=>rw [hs] at ha;simp at ha
 | some st =>
  rw [hs] at ha
  have:=nU ss 0 h.1 s st hs
  rw [Nat.zero_add] at this
  exact cM _ _ _ this a (by simpa using ha)
theorem vE (ss:List State) (init:Nat):rightF ss init=F2 ss init:=by
 unfold rightF F2
 cases D6:D4 ss with
 | false=>rfl
 | true =>
  obtain ⟨hA,h0⟩:=kF D6
  simp only [Bool.true_and]
  cases hr:ss.getLast? with
  | none=>rfl
  | some root =>
   simp only
   split
   ·rfl
   ·obtain ⟨o1,o2⟩:=Ag hA h0
    cases ho:J7 ss with
    | true =>
     rw [o1 ho,List.length_range,decide_eq_true rfl,Bool.true_and,Bool.true_and]
     exact (GV ss 0 (fun j _ hj=>by rw [List.getElem?_range oM])).symm
    | false =>
     rw [Bool.false_and]
     obtain ⟨i,x,h1,h2⟩:=o2 ho
     by_cases hlen:(endsL ss ss.length (ss.length-1) []).length=ss.length
     ·rw [GW ss 0 i (Nat.zero_le _) (by have:=(H2 h1).1;omega) (by rw [h1];intro e;injection e with e;exact h2 e),Bool.and_false]
     ·rw [decide_eq_false hlen,Bool.false_and]
structure Good (i:Nat) (s:State):Prop where
 j4:okArcs i (-1) s.j4=true
 out:s.final=false->s.out=0
 some_:s.final=true\/s.j4≠[]
 zero:leastOf s=0
structure Inv (ss:List State):Prop where
 nodup:ss.Nodup
 mJ:∀ (i:Nat) (s:State),ss[i]? =some s->Good i s
def K (f:Nat) (ss:List State) (l:List Wv):List State×Nat:=finish (N f ss l).1 (less (N f ss l).2 (leastOf (N f ss l).2))
theorem nV {i:Nat} (a:u3) (h1:0<=a.to) (h2:a.to<(i:Int)):∀ (l:List u3) (last:Int),okArcs i last l=true->last<(a.byte:Int)->(∀ b∈l,b.byte<a.byte)->okArcs i last (l++[a])=true
 | [],last,_,hl,_=>by simp [okArcs,h1,h2,hl]
 | b::l,last,h,hl,hb=>by
  simp only [List.cons_append,okArcs,Bool.and_eq_true,decide_eq_true_eq] at h |-
  refine ⟨h.1,nV a h1 h2 l _ h.2 ?_ (fun c hc=>hb c (List.mem_cons_of_mem _ hc))⟩
  have:=hb b (List.mem_cons_self ..)
  omega
open Go.RowKit
theorem vG:∀ (a b:List UInt8),Op.bytesLess a b=lexlt (a.map UInt8.toNat) (b.map UInt8.toNat)
 | a,[]=>by cases a<;>simp [Op.bytesLess,lexlt]
 | [],b::l=>by simp [Op.bytesLess,lexlt]
 | a::x,b::y=>by
  simp only [Op.bytesLess,List.map_cons,lexlt]
  rw [vG x y]
  congr 1
  ·congr 1
   by_cases h:a=b
   ·subst h;simp
   ·have:a.toNat≠b.toNat:=fun e=>h (UInt8.toNat_inj.1 e)
    simp [h,this]
theorem xV (a b:ByteArray):Op.bytesLess a.toList b.toList=lexlt (wl a) (wl b):=by
 rw [ByteArray.toList_eq,ByteArray.toList_eq,vG]
 rfl
def okW (s:ByteArray):Bool:= !s.toList.isEmpty&&decide (s.size<=255)
theorem vJ (s:ByteArray) (w:World):Calls Tryz.prog 154 #[.string s] w fun e w1=>e= .returned (.bool false)/\w=w1:=by
 refine L7 6 Tryz.func154 fun fr hf s0=> ?_
 refine Ze fun _ a8=>Zr [] hf ?_
 refine p5 0 hf ?_
 clear hf s0;intro a7 hf s0
 refine Zs a8 fun _ a8=>Zr [3,4,5] hf ?_
 refine p5 2 hf ?_
 clear hf s0;intro a7 hf s2
 refine Zx a8 (k8 ?_)
 exact Fc.o6 rfl hf s2 ⟨rfl,rfl⟩
theorem TM (a b:ByteArray) (h1:Op.bytesLess a.toList b.toList=true) (w:World):Calls Tryz.prog 133 #[.string a,.string b] w fun e w1=>e= .returned (.int .i64 (-1))/\w=w1:=by
 refine Z6 20 Tryz.func133 fun fr hf s0 s1=> ?_
 have r1:=h1
 have r2:=trivial
 refine Ze fun _ a8=>Zr [] hf ?_
 refine y4 0 1 hf ?_
 clear hf s0 s1;intro a7 hf sS
 refine Zt a8 fun _ a8=> ?_
 have bB:=hf.B2 7 8
 refine Zy ?_
 refine Zc (vJ a w) ?_;rintro e w1 ⟨rfl,rfl⟩
 refine Zv ?_
 refine Zy ?_
 refine Fc.nil (y7 0 1 5 hf ?_)
 intro a7 hf sS
 refine Zt a8 fun _ a8=> ?_
 have bB:=hf.B2 9 10
 refine Zy ?_
 refine Zc (vJ b w) ?_;rintro e w2 ⟨rfl,rfl⟩
 refine Zv ?_
 refine Zy ?_
 refine Fc.nil (z8 0 1 5 6 hf ?_)
 intro a7 hf sS
 refine Zs a8 fun _ a8=>Ze fun _ j8=>Zr [] hf ?_
 refine z8 0 1 6 11 hf ?_
 intro a7 hf sS
 refine Zx j8 (Fc.k9 sS.2.2.2 ?_)
 refine wp_skip (Zs a8 fun _ a8=>Ze fun _ j8=>Zr [] hf ?_)
 refine y7 0 1 13 hf ?_
 intro a7 hf sS
 refine Zx j8 (Fc.k9 sS.2.2 ?_)
 refine wp_skip (Zs a8 fun _ a8=>Ze fun _ j8=>Zr [14,15] hf ?_)
 refine y7 0 1 16 hf ?_
 intro a7 hf sS
 refine Zx j8 (Fc.l7 sS.2.2 ?_)
 refine Ze fun _ j8=>Zr [] hf ?_
 refine p5 4 hf ?_
 intro a7 hf s4
 refine Zx j8 (k8 ?_)
 exact Fc.o6 rfl hf s4 ⟨rfl,rfl⟩
theorem TN (a b:ByteArray) (h1:Op.bytesLess a.toList b.toList=false) (h2:(a.toList==b.toList)=false) (w:World):Calls Tryz.prog 133 #[.string a,.string b] w fun e w1=>e= .returned (.int .i64 (1))/\w=w1:=by
 refine Z6 20 Tryz.func133 fun fr hf s0 s1=> ?_
 have r1:=h1
 have r2:=h2
 refine Ze fun _ a8=>Zr [] hf ?_
 refine y4 0 1 hf ?_
 clear hf s0 s1;intro a7 hf sS
 refine Zt a8 fun _ a8=> ?_
 have bB:=hf.B2 7 8
 refine Zy ?_
 refine Zc (vJ a w) ?_;rintro e w1 ⟨rfl,rfl⟩
 refine Zv ?_
 refine Zy ?_
 refine Fc.nil (y7 0 1 5 hf ?_)
 intro a7 hf sS
 refine Zt a8 fun _ a8=> ?_
 have bB:=hf.B2 9 10
 refine Zy ?_
 refine Zc (vJ b w) ?_;rintro e w2 ⟨rfl,rfl⟩
 refine Zv ?_
 refine Zy ?_
 refine Fc.nil (z8 0 1 5 6 hf ?_)
 intro a7 hf sS
 refine Zs a8 fun _ a8=>Ze fun _ j8=>Zr [] hf ?_
 refine z8 0 1 6 11 hf ?_
 intro a7 hf sS
 refine Zx j8 (Fc.k9 sS.2.2.2 ?_)
 refine wp_skip (Zs a8 fun _ a8=>Ze fun _ j8=>Zr [] hf ?_)
 refine y7 0 1 13 hf ?_
 intro a7 hf sS
 refine Zx j8 (Fc.k9 sS.2.2 ?_)
 refine wp_skip (Zs a8 fun _ a8=>Ze fun _ j8=>Zr [14,15] hf ?_)
 refine y7 0 1 16 hf ?_
 intro a7 hf sS
 refine Zx j8 (Fc.k9 sS.2.2 ?_)
 refine wp_skip (Zs a8 fun _ a8=>Ze fun _ j8=>Zr [17,18] hf ?_)
 refine p5 19 hf ?_
 intro a7 hf K9
 refine Zx j8 ?_
 rw [r1,r2] at K9
 simp only [Bool.or_self,Bool.false_or,Bool.not_false,Bool.not_true] at K9
 refine Fc.l7 K9 ?_
 refine Ze fun _ j8=>Zr [] hf ?_
 refine p5 4 hf ?_
 clear hf K9;intro a7 hf s4
 refine Zx j8 (k8 ?_)
 exact Fc.o6 rfl hf s4 ⟨rfl,rfl⟩
theorem TP (a b:ByteArray) (h1:Op.bytesLess a.toList b.toList=false) (h2:(a.toList==b.toList)=true) (w:World):Calls Tryz.prog 133 #[.string a,.string b] w fun e w1=>e= .returned (.int .i64 (0))/\w=w1:=by
 refine Z6 20 Tryz.func133 fun fr hf s0 s1=> ?_
 have r1:=h1
 have r2:=h2
 refine Ze fun _ a8=>Zr [] hf ?_
 refine y4 0 1 hf ?_
 clear hf s0 s1;intro a7 hf sS
 refine Zt a8 fun _ a8=> ?_
 have bB:=hf.B2 7 8
 refine Zy ?_
 refine Zc (vJ a w) ?_;rintro e w1 ⟨rfl,rfl⟩
 refine Zv ?_
 refine Zy ?_
 refine Fc.nil (y7 0 1 5 hf ?_)
 intro a7 hf sS
 refine Zt a8 fun _ a8=> ?_
 have bB:=hf.B2 9 10
 refine Zy ?_
 refine Zc (vJ b w) ?_;rintro e w2 ⟨rfl,rfl⟩
 refine Zv ?_
 refine Zy ?_
 refine Fc.nil (z8 0 1 5 6 hf ?_)
 intro a7 hf sS
 refine Zs a8 fun _ a8=>Ze fun _ j8=>Zr [] hf ?_
 refine z8 0 1 6 11 hf ?_
 intro a7 hf sS
 refine Zx j8 (Fc.k9 sS.2.2.2 ?_)
 refine wp_skip (Zs a8 fun _ a8=>Ze fun _ j8=>Zr [] hf ?_)
 refine y7 0 1 13 hf ?_
 intro a7 hf sS
 refine Zx j8 (Fc.k9 sS.2.2 ?_)
 refine wp_skip (Zs a8 fun _ a8=>Ze fun _ j8=>Zr [14,15] hf ?_)
 refine y7 0 1 16 hf ?_
 intro a7 hf sS
 refine Zx j8 (Fc.k9 sS.2.2 ?_)
 refine wp_skip (Zs a8 fun _ a8=>Ze fun _ j8=>Zr [17,18] hf ?_)
 refine p5 19 hf ?_
 intro a7 hf K9
 refine Zx j8 ?_
 rw [r1,r2] at K9
 simp only [Bool.or_self,Bool.false_or,Bool.not_false,Bool.not_true] at K9
 refine Fc.k9 K9 ?_
 refine wp_skip (Zs a8 fun _ a8=>Zr [] hf ?_)
 refine p5 4 hf ?_
 clear hf K9;intro a7 hf s4
 refine Zx a8 (k8 ?_)
 exact Fc.o6 rfl hf s4 ⟨rfl,rfl⟩
def Dv (a b:ByteArray):Int:=if lexlt (wl a) (wl b) then -1 else if (a.toList==b.toList)=true then 0 else 1
theorem qi (a b:ByteArray) (w:World):Calls Tryz.prog 133 #[.string a,.string b] w fun e w1=>e= .returned (.int .i64 (Dv a b))/\w=w1:=by
 unfold Dv
 rw [<- xV]
 cases h1:Op.bytesLess a.toList b.toList with
 | true=>exact TM a b h1 w
 | false =>
  cases h2:(a.toList==b.toList) with
  | true=>exact TP a b h1 h2 w
  | false=>exact TN a b h1 h2 w
theorem z1u (e:G9) (b:ByteArray) (w:World):Calls Tryz.prog 88 #[eval e,.string b] w fun e1 w1=>e1= .returned (.int .i64 (Dv e.word b))/\Below w.heap.size w w1:=by
 refine Z6 9 Tryz.func88 fun fr hf s0 s1=> ?_
 simp only [eval] at s0
 refine Ze fun _ a8=>Zr [] hf ?_
 refine y4 1 2 hf ?_
 clear hf s0 s1;intro a7 hf sS
 refine Zt a8 fun _ a8=> ?_
 have bB:=hf.B4 5 6 7 8
 iterate 3 refine Zy ?_
 refine Zc (qi e.word b (w.alloc (.cells #[.string e.word,.int .u32 e.weight,.bool e.gone] 64))) ?_;rintro e w2 ⟨rfl,rfl⟩
 refine Zv ?_
 refine Zy ?_
 refine Fc.nil (p5 4 hf ?_)
 intro a7 hf s4
 refine Zx a8 (k8 ?_)
 exact Fc.o6 rfl hf s4 ⟨rfl,(Below.refl _ _).alloc nR _⟩
theorem ZB (s:ByteArray) (h1:s.toList.isEmpty=true) (w:World):Calls Tryz.prog 131 #[.string s] w fun e w1=>e= .returned (.bool (okW s))/\w=w1:=by
 refine L7 10 Tryz.func131 fun fr hf s0=> ?_
 have q1:=h1
 refine Ze fun _ a8=>Zr [] hf ?_
 refine p5 0 hf ?_
 clear hf s0;intro a7 hf s0
 refine Zs a8 fun _ a8=> ?_
 have qs:=q1
 refine Zr [3,4,5,6,7,8,9] hf ?_
 refine p5 2 hf ?_
 clear hf s0 qs;intro a7 hf s2
 refine Zx a8 (k8 ?_)
 exact Fc.o6 rfl hf s2 ⟨by simp [okW,h1],rfl⟩
theorem ZC (s:ByteArray) (h1:s.toList.isEmpty=false) (w:World):Calls Tryz.prog 131 #[.string s] w fun e w1=>e= .returned (.bool (okW s))/\w=w1:=by
 refine L7 10 Tryz.func131 fun fr hf s0=> ?_
 have q1:=h1
 refine Ze fun _ a8=>Zr [] hf ?_
 refine p5 0 hf ?_
 clear hf s0;intro a7 hf s0
 refine Zs a8 fun _ a8=> ?_
 have qs:=q1
 refine Zr [3,4,5,6,7,8,9] hf ?_
 refine p5 2 hf ?_
 clear hf s0 qs;intro a7 hf s2
 refine Zx a8 (k8 ?_)
 exact Fc.o6 rfl hf s2 ⟨by simp [okW,h1];try omega,rfl⟩
theorem qh (s:ByteArray) (w:World):Calls Tryz.prog 131 #[.string s] w fun e w1=>e= .returned (.bool (okW s))/\w=w1:=by
 cases h:s.toList.isEmpty with
 | true=>exact ZB s h w
 | false=>exact ZC s h w
open Go.RowKit
def chkL:Option (List Nat)->List G9->Nat
 | _,[]=>0
 | p,e::l=>if okW e.word then (if (match p with | none=>true | some q=>lexlt q (wl e.word)) then chkL (some (wl e.word)) l else 15) else 7
def aP (es:List G9):Nat:=chkL none es
def prevW (es:List G9):Nat->Option (List Nat)
 | 0=>none
 | i+1=>es[i]?.map fun e=>wl e.word
theorem Ah {es:List G9} {i:Nat} {e:G9} (h:es[i]? =some e):chkL (prevW es i) (es.drop i)=if okW e.word then (if (match prevW es i with | none=>true | some q=>lexlt q (wl e.word)) then chkL (some (wl e.word)) (es.drop (i+1)) else 15) else 7:=by
 obtain ⟨h1,h2⟩:=H2 h
 rw [List.drop_eq_getElem_cons h1,h2]
 rfl
theorem prev_zero {es:List G9} {i:Nat} (h:i=0):prevW es i=none:=by rw [h];rfl
theorem gG {es:List G9} {i:Nat} {p:G9} (h:0<i) (hp:es[i-1]? =some p):prevW es i=some (wl p.word):=by
 obtain ⟨j,rfl⟩:∃ j,i=j+1:=⟨i-1,oM⟩
 have:es[j]? =some p:=hp
 simp [prevW,this]
theorem dV {es:List G9} {i:Nat} {e:G9} (h:es[i]? =some e):prevW es (i+1)=some (wl e.word):=by simp [prevW,h]
theorem ZD {a b:ByteArray} (h:decide (0<=Dv a b)=true):lexlt (wl a) (wl b)=false:=by
 have h:=of_decide_eq_true h
 unfold Dv at h
 cases hl:lexlt (wl a) (wl b) with
 | false=>rfl
 | true=>rw [hl] at h;simp at h
theorem ZE {a b:ByteArray} (h:decide (0<=Dv a b)=false):lexlt (wl a) (wl b)=true:=by
 have h:=of_decide_eq_false h
 unfold Dv at h
 cases hl:lexlt (wl a) (wl b) with
 | true=>rfl
 | false=>rw [hl] at h;simp at h;split at h<;>omega
theorem Wj (w:World) (s:ByteArray) (b:Nat) (c0:w.cell? ⟨b,0,none⟩=some (.string s)):Calls Tryz.prog 132 #[.func (.func 131) #[] #[],.slice (some ⟨b,0,none⟩) 1 1] w fun e w1=>e= .returned (.bool (okW s))/\w=w1:=by
 refine Z6 18 Tryz.func132 fun fr hf s0 s1=> ?_
 refine Ze fun _ a8=>Zr [] hf ?_
 refine y4 0 1 hf ?_
 clear hf s0 s1;intro a7 hf sS
 refine Zs a8 fun _ a8=>Ze fun _ j8=>Zr [7] hf ?_
 refine z8 0 7 8 9 hf ?_
 intro a7 hf sS
 refine Zx j8 (wp_block (wp_loop_ghost (fun gk fr wr=>∃ (i:Nat),gk=1-i/\i<=1/\(0<i->okW s=true)/\Fc.Fr 18 fr/\fr.tmps[0]? =some (.func (.func 131) #[] #[])/\fr.tmps[7]? =some (.slice (some ⟨b,0,none⟩) 1 1)/\fr.tmps[8]? =some (.int .i64 1)/\fr.tmps[9]? =some (.int .i64 i)/\wr=w) (1) ?_ ?_))
 . (
 obtain ⟨s0,s7,s8,s9⟩:=sS
 exact ⟨0,rfl,oM,oM,hf,s0,s7,s8,s9,rfl⟩)
 . (
 clear hf sS
 rintro gk fr wr ⟨i,hk,hi,a6,hf,s0,s7,s8,s9,SQ⟩
 subst SQ
 have HK:=H9 hk;have HO:=H9 a6;clear hk a6
 refine Ze fun _ j8=>Zr [] hf ?_
 refine D2 0 7 8 9 10 hf ?_
 clear hf s0 s7 s8 s9;intro a7 hf sS
 refine Zs j8 fun _ j8=>Fc.l0 sS.2.2.2.2 (fun hq=> ?_) (fun hq=> ?_)
 . (
 have fF:i=0:=qT
 subst fF
 refine wp_skip (Zs j8 fun _ j8=>wp_block (Ze fun _ l8=>rg ?_))
 have bB:=hf.B2 11 12
 refine fp fun K Z=> ?_
 go_simp
 try rw [if_pos (by omega)]
 try simp
 apply Z.out;clear Z K
 iterate 2 refine Zy ?_
 refine Fc.nil (D2 0 6 7 8 9 hf ?_)
 intro a7 hf sS
 refine Zt l8 fun _ l8=> ?_
 have bB:=hf.B3 13 14 15
 iterate 2 refine Zy ?_
 refine Zc (qh s wr) ?_;rintro e w2 ⟨rfl,rfl⟩
 refine Zv ?_
 refine Zy ?_
 refine Fc.nil (D2 0 7 8 9 16 hf ?_)
 intro a7 hf sS
 refine Zx l8 (Fc.l0 sS.2.2.2.2 (fun C5=> ?_) (fun C5=> ?_))
 . (
 refine Ze fun _ l8=>Zr [] hf ?_
 refine p5 4 hf ?_
 intro a7 hf s4
 refine Zx l8 (k8 ?_)
 exact Fc.o6 rfl hf s4 ⟨by simp at C5;rw [C5],rfl⟩)
 . (
 refine wp_skip (Fc.j9 (Zx j8 (Zr [17] hf ?_)))
 refine z8 0 7 8 9 hf ?_
 intro a7 hf sS
 refine Fc.j7 ?_
 obtain ⟨s0,s7,s8,s9⟩:=sS
 exact ⟨_,by have:=HK.out;omega,1,rfl,oM,fun _=>by simpa using C5,hf,s0,s7,s8,by rw [s9];rfl,rfl⟩))
 . (
 have JX:0<i:=qF
 refine Zo ?_
 refine Zs a8 fun _ a8=>Zr [] hf ?_
 refine p5 4 hf ?_
 intro a7 hf s4
 refine Zx a8 (k8 ?_)
 exact Fc.o6 rfl hf s4 ⟨by rw [HO.out JX],rfl⟩))
theorem TQ (w:World) (s:ByteArray) (b:Nat) (c0:w.cell? ⟨b,0,none⟩=some (.string s)) (hh:okW s=true):Calls Tryz.prog 87 #[.slice (some ⟨b,0,none⟩) 1 1] w fun e w1=>e= .returned (.int .i64 (if okW s then 0 else 7))/\w=w1:=by
 refine L7 8 Tryz.func87 fun fr hf s0=> ?_
 have HH:=H9 hh;clear hh
 refine Ze fun _ a8=>Zr [] hf ?_
 refine p5 0 hf ?_
 clear hf s0;intro a7 hf s0
 refine Zs a8 fun _ a8=>Zr [] hf ?_
 refine y4 0 3 hf ?_
 clear hf s0;intro a7 hf sS
 refine Zs a8 fun _ a8=>Ze fun _ j8=>rg ?_
 have bB:=hf.B3 4 5 6
 iterate 2 refine Zy ?_
 refine Zc (Wj w s b c0) ?_;rintro e w2 ⟨rfl,rfl⟩
 rw [HH.out]
 refine Zv ?_
 refine Zy ?_
 refine Fc.nil (p5 7 hf ?_)
 intro a7 hf s7
 refine Zx j8 (Fc.k9 s7 ?_)
 refine wp_skip (Zs a8 fun _ a8=>Zr [] hf ?_)
 refine p5 2 hf ?_
 clear hf s7;intro a7 hf s2
 refine Zx a8 (k8 ?_)
 exact Fc.o6 rfl hf s2 ⟨by rw [HH.out];rfl,rfl⟩
theorem TR (w:World) (s:ByteArray) (b:Nat) (c0:w.cell? ⟨b,0,none⟩=some (.string s)) (hh:okW s=false):Calls Tryz.prog 87 #[.slice (some ⟨b,0,none⟩) 1 1] w fun e w1=>e= .returned (.int .i64 (if okW s then 0 else 7))/\w=w1:=by
 refine L7 8 Tryz.func87 fun fr hf s0=> ?_
 have HH:=H9 hh;clear hh
 refine Ze fun _ a8=>Zr [] hf ?_
 refine p5 0 hf ?_
 clear hf s0;intro a7 hf s0
 refine Zs a8 fun _ a8=>Zr [] hf ?_
 refine y4 0 3 hf ?_
 clear hf s0;intro a7 hf sS
 refine Zs a8 fun _ a8=>Ze fun _ j8=>rg ?_
 have bB:=hf.B3 4 5 6
 iterate 2 refine Zy ?_
 refine Zc (Wj w s b c0) ?_;rintro e w2 ⟨rfl,rfl⟩
 rw [HH.out]
 refine Zv ?_
 refine Zy ?_
 refine Fc.nil (p5 7 hf ?_)
 intro a7 hf s7
 refine Zx j8 (Fc.l7 s7 ?_)
 refine Ze fun _ j8=>Zr [] hf ?_
 refine p5 2 hf ?_
 clear hf s7;intro a7 hf s2
 refine Zx j8 (k8 ?_)
 exact Fc.o6 rfl hf s2 ⟨by rw [HH.out];rfl,rfl⟩
theorem ZF (w:World) (s:ByteArray) (b:Nat) (c0:w.cell? ⟨b,0,none⟩=some (.string s)):Calls Tryz.prog 87 #[.slice (some ⟨b,0,none⟩) 1 1] w fun e w1=>e= .returned (.int .i64 (if okW s then 0 else 7))/\w=w1:=by
 cases h:okW s with
 | true=>have:=TQ w s b c0 h;rw [h] at this;exact this
 | false=>have:=TR w s b c0 h;rw [h] at this;exact this
theorem Mr (w:World) (es:List G9) (B:Nat) (v:Value) (hB:B<=w.heap.size) (Q9:RE w B v es) (hlen:es.length<=1000000):Calls Tryz.prog 50 #[v] w fun e w1=>∃ n:Int,e= .returned (.tuple #[.int .i64 n,.int .i64 (aP es:Nat)])/\Below w.heap.size w w1:=by
 refine L7 37 Tryz.func50 fun fr hf s0=> ?_
 have fM:=Q9.any
 obtain ⟨A,cc,rfl,U0⟩:=Q9.form
 clear Q9
 refine Ze fun _ a8=>Zr [] hf ?_
 refine y7 0 2 3 hf ?_
 clear hf s0;intro a7 hf sS
 refine Zx a8 (wp_scope_straight ?_)
 refine Ze fun _ a8=>Zr [] hf ?_
 refine y7 0 2 3 hf ?_
 intro a7 hf sS
 refine Zs a8 fun _ a8=>wp_label ?_
 refine Zs a8 fun _ a8=>Ze fun _ j8=>Zr [6] hf ?_
 refine F1 0 2 3 6 7 8 hf ?_
 intro a7 hf sS
 refine Zx j8 (wp_block (wp_loop_ghost (fun gk fr wr=>∃ (i:Nat),gk=es.length-i/\i<=es.length/\Fc.Fr 37 fr/\fr.tmps[0]? =some (.slice A es.length cc)/\fr.tmps[2]? =some (.int .i64 (-1))/\fr.tmps[3]? =some (.int .i64 0)/\fr.tmps[6]? =some (.slice A es.length cc)/\fr.tmps[7]? =some (.int .i64 es.length)/\fr.tmps[8]? =some (.int .i64 i)/\aP es=chkL (prevW es i) (es.drop i)/\Below w.heap.size w wr) (es.length) ?_ ?_))
 . (
 obtain ⟨s0,s2,s3,s6,s7,s8⟩:=sS
 exact ⟨0,rfl,Nat.zero_le _,hf,s0,s2,s3,s6,s7,s8,rfl,Below.refl _ _⟩)
 . (
 clear hf sS
 rintro gk fr wr ⟨i,hk,hi,hf,s0,s2,s3,s6,s7,s8,JM,hb⟩
 have HK:=H9 hk;have HC:=H9 JM;clear hk JM
 refine Ze fun _ j8=>Zr [] hf ?_
 refine Z1 0 2 3 6 7 8 9 hf ?_
 clear hf s0 s2 s3 s6 s7 s8;intro a7 hf sS
 refine Zs j8 fun _ j8=>Fc.l0 sS.2.2.2.2.2.2 (fun hq=> ?_) (fun hq=> ?_)
 . (
 have o9:i<es.length:=qT
 have HQ:=H9 hq;clear hq
 obtain ⟨e,C3⟩:∃ e,es[i]? =some e:=⟨_,F8 o9⟩
 obtain ⟨b,off,rfl,lS,X3,d0,d1,d2⟩:=(fM.below hb).at_ C3
 have HE:=H9 C3;clear C3
 refine wp_skip (Zs j8 fun _ j8=>wp_block (Ze fun _ l8=>Zr [10,11,12,5] hf ?_))
 refine mF 0 2 3 4 5 6 7 8 hf ?_
 intro a7 hf sS
 generalize p8:wr.alloc (.cells #[.string e.word,.int .u32 e.weight,.bool e.gone] 64)=W0
 obtain ⟨r8,x0, -, -,E3, -⟩:=E7 p8
 clear p8
 clear d0 d1 d2 X3
 refine Zs l8 fun _ l8=>wp_block (Ze fun _ F5=>rg ?_)
 have bB:=hf.B5 14 15 16 17 18
 iterate 3 refine Zy ?_
 refine Zc (ZF (W0.alloc (.cells #[.string e.word] 9)) e.word W0.heap.size (n5 0 (heap_alloc_new W0 _))) ?_;rintro e w5 ⟨rfl,rfl⟩
 refine Zv ?_
 iterate 2 refine Zy ?_
 refine Fc.nil (tZ 0 2 3 4 5 6 7 8 13 hf ?_)
 intro a7 hf sS
 have F3:Below W0.heap.size W0 (W0.alloc (.cells #[.string e.word] 9)):=(Below.refl _ _).alloc nR _
 obtain ⟨W5,cS⟩:∃ W5,W0.alloc (.cells #[.string e.word] 9)=W5:=⟨_,rfl⟩
 rw [cS] at F3
 try rw [cS]
 clear cS
 have x5:=cL F3 x0
 have iS:=hb.trans ((r8.trans (F3.mono r8.size)).mono hb.size)
 refine Zx F5 ?_
 have A8:=Ah HE.out
 have L4:=H9 A8;clear A8
 rcases a6:okW e.word with _ | _
 . (
 have H1:=H9 a6;clear a6
 have Ai:a7.tmps[13]? =some (.bool true):=by rw [sS.2.2.2.2.2.2.2.2,H1.out];rfl
 obtain ⟨s0,s2,s3,s4,s5,s6,s7,s8,D1⟩:=sS
 clear D1
 have D1:=Ai;clear Ai
 refine Fc.l7 D1 ?_
 refine Zr [] hf ?_
 refine y4 3 4 hf ?_
 clear hf s0 s2 s3 s4 s5 s6 s7 s8 D1;intro a7 hf sS
 refine Fc.j9 (Zs l8 fun _ l8=>Zr [33] hf ?_)
 refine y4 2 3 hf ?_
 intro a7 hf sS
 refine Zx l8 (Zo ?_)
 refine Zs a8 fun _ a8=>Zr [35,36] hf ?_
 refine y4 2 3 hf ?_
 intro a7 hf sS
 refine Zx a8 (k8 ?_)
 exact Fc.H6 rfl hf sS.1 sS.2 ⟨i,by rw [HC.out,L4.out,H1.out];rfl,iS⟩)
 . (
 rcases Nat.eq_zero_or_pos i with fF | fF
 . (
 have H1:=H9 a6;clear a6
 have Ai:a7.tmps[13]? =some (.bool false):=by rw [sS.2.2.2.2.2.2.2.2,H1.out];rfl
 obtain ⟨s0,s2,s3,s4,s5,s6,s7,s8,D1⟩:=sS
 clear D1
 have D1:=Ai;clear Ai
 refine Fc.k9 D1 ?_
 have ZG:=H9 fF
 have q1:decide (0<i)=false:=decide_eq_false oM
 clear fF
 refine Ze fun _ F5=>Sb.tb 37 fun a6=> ?_
 refine Sb.mO 0 s4 hf a6 ?_
 refine Sb.T 1 hf a6 ?_
 refine Sb.mN 2 1 0 hf a6 [] ?_
 refine Sb.Tk 3 hf a6 ?_
 refine Sb.Tk 4 hf a6 ?_
 refine Sb.Tk 5 hf a6 ?_
 refine Sb.Tk 6 hf a6 ?_
 refine Sb.Tk 7 hf a6 ?_
 refine Sb.Tk 8 hf a6 ?_
 refine Sb.Tk 9 hf a6 ?_
 apply Sb.tr 10 _ hf a6
 . (
 intro a7 w1 hh hd hk K Z
 have X6:=Sb.v 2 7 hd hk []
 refine Sb.sk X6 ?_
 exact Sb.k Z)
 refine Sb.Tk 11 hf a6 ?_
 refine Sb.T 12 hf a6 ?_
 refine Sb.mN 13 12 0 hf a6 [] ?_
 refine Sb.E hf a6 (fun _ _ h g=>ad (Sb.O h s0) (ad (Sb.O h s2) (ad (Sb.O h s3) (ad (Sb.O h s4) (ad (Sb.O h s6) (ad (Sb.O h s7) (ad (Sb.O h s8) (Sb.f 13 0 g)))))))) ?_
 clear hf a6 s0 s2 s3 s4 s5 s6 s7 s8 D1;intro a7 w1 hf hx sS
 refine Zx F5 (Fc.k9 sS.2.2.2.2.2.2.2 ?_)
 have p7:aP es=chkL (some (wl e.word)) (es.drop (i+1)):=by rw [HC.out,L4.out,H1.out,prev_zero ZG.out];rfl
 have HF:=H9 p7;clear p7
 have N0:=iS.trans (hx.mono iS.size)
 refine Zo ?_
 refine Zx j8 (Zr [34] hf ?_)
 refine F1 0 2 3 6 7 8 hf ?_
 intro a7 hf sS
 refine Fc.j7 ?_
 obtain ⟨s0,s2,s3,s6,s7,s8⟩:=sS
 exact ⟨_,by have:=HK.out;omega,i+1,rfl,oM,hf,s0,s2,s3,s6,s7,by rw [s8];rfl,by rw [HF.out,dV HE.out],N0⟩)
 . (
 have H1:=H9 a6;clear a6
 have Ai:a7.tmps[13]? =some (.bool false):=by rw [sS.2.2.2.2.2.2.2.2,H1.out];rfl
 obtain ⟨s0,s2,s3,s4,s5,s6,s7,s8,D1⟩:=sS
 clear D1
 have D1:=Ai;clear Ai
 refine Fc.k9 D1 ?_
 have q1:decide (0<i)=true:=decide_eq_true fF
 obtain ⟨p,MK⟩:∃ p,es[i-1]? =some p:=⟨_,F8 oM⟩
 obtain ⟨b2,Ms,eH,z1t,qg,y0,y1,y2⟩:=(fM.below iS).at_ MK
 injection eH with eH
 injection eH with eH he3
 subst eH;subst he3
 have HP:=H9 MK;clear MK
 have JX:(i:Int)-1=((i-1:Nat):Int):=oM
 refine Ze fun _ F5=>Sb.tb 37 fun a6=> ?_
 have lf:=H9 fun (w9:World) (h9:Below _ _ w9)=>ad (cL h9 x5) (ad (cL h9 y0) (ad (cL h9 y1) (cL h9 y2)))
 refine Sb.mO 0 s4 hf a6 ?_
 refine Sb.T 1 hf a6 ?_
 refine Sb.mN 2 1 0 hf a6 [] ?_
 refine Sb.Tg 3 hf a6 ?_ (hF:=fun _ _ h d=>Sb.O h s0)
 refine Sb.Tg 4 hf a6 ?_ (hF:=fun _ _ h d=>Sb.O h s4)
 apply Sb.tr 5 _ hf a6
 . (
 intro a7 w1 hh hd hk K Z
 have X6:=Sb.v 2 2 hd hk []
 refine Sb.g X6 ?_
 have dL:=Sb.v 4 0 hd hk []
 clear hd
 go_simp
 try simp (disch:=omega) only [Fc.W]
 try rw [JX]
 exact Sb.k Z)
 refine Sb.Tg 6 hf a6 ?_
 refine Sb.Tg 7 hf a6 ?_ (hF:=fun _ _ h d=>lf.out _ h.ext)
 refine Sb.Tg 8 hf a6 ?_ (hF:=fun _ _ h d=>Sb.O h s5)
 refine Sb.Tg 9 hf a6 ?_ (hF:=fun _ _ h d=>lf.out _ h.ext)
 apply Sb.tr 10 _ hf a6
 . (
 intro a7 w1 hh hd hk K Z
 have X6:=Sb.v 2 7 hd hk []
 refine Sb.g X6 ?_
 have S0:=Sb.v 7 2 hd hk []
 have cT:=Sb.v 9 0 hd hk []
 clear hd
 have L1:=lf.out _ hh.ext;(try clear x5 y0 y1 y2);obtain ⟨x5,y0,y1,y2⟩:=L1
 go_simp
 go_at_call 88;refine (z1u p e.word w1).mono ?_;rintro e w2 ⟨rfl,hb⟩
 exact Z.out _ rfl _ _ hb rfl)
 refine Sb.Tg 11 hf a6 ?_
 refine Sb.T 12 hf a6 ?_
 refine Sb.mN 13 12 0 hf a6 [] ?_
 refine Sb.E hf a6 (fun _ _ h g=>ad (Sb.O h s0) (ad (Sb.O h s2) (ad (Sb.O h s3) (ad (Sb.O h s4) (ad (Sb.O h s6) (ad (Sb.O h s7) (ad (Sb.O h s8) (Sb.f 13 0 g)))))))) ?_
 clear hf a6 s0 s2 s3 s4 s5 s6 s7 s8 D1;intro a7 w1 hf hx sS
 have L1:=lf.out _ hx;(try clear x5 y0 y1 y2);clear lf;obtain ⟨x5,y0,y1,y2⟩:=L1
 refine Zx F5 (Fc.l0 sS.2.2.2.2.2.2.2 (fun C5=> ?_) (fun C5=> ?_))
 . (
 have xR:=H9 C5;clear C5
 have N0:=iS.trans (hx.mono iS.size)
 refine Zr [] hf ?_
 refine y4 3 4 hf ?_
 intro a7 hf sS
 refine Fc.j9 (Zs l8 fun _ l8=>Zr [33] hf ?_)
 refine y4 2 3 hf ?_
 intro a7 hf sS
 refine Zx l8 (Zo ?_)
 refine Zs a8 fun _ a8=>Zr [35,36] hf ?_
 refine y4 2 3 hf ?_
 intro a7 hf sS
 refine Zx a8 (k8 ?_)
 exact Fc.H6 rfl hf sS.1 sS.2 ⟨i,by rw [HC.out,L4.out,H1.out,gG fF HP.out];simp only [ZD xR.out,if_true,Bool.false_eq_true,if_false];rfl,N0⟩)
 . (
 have xR:=H9 C5;clear C5
 have N0:=iS.trans (hx.mono iS.size)
 have p7:aP es=chkL (some (wl e.word)) (es.drop (i+1)):=by rw [HC.out,L4.out,H1.out,gG fF HP.out];simp only [ZE xR.out,if_true]
 have HF:=H9 p7;clear p7
 refine Zo ?_
 refine Zx j8 (Zr [34] hf ?_)
 refine F1 0 2 3 6 7 8 hf ?_
 intro a7 hf sS
 refine Fc.j7 ?_
 obtain ⟨s0,s2,s3,s6,s7,s8⟩:=sS
 exact ⟨_,by have:=HK.out;omega,i+1,rfl,oM,hf,s0,s2,s3,s6,s7,by rw [s8];rfl,by rw [HF.out,dV HE.out],N0⟩))))
 . (
 have C3:i=es.length:=qF
 have nM:=H9 C3;clear C3 hq
 refine Zo ?_
 refine Zs a8 fun _ a8=>Zr [35,36] hf ?_
 refine y4 2 3 hf ?_
 intro a7 hf sS
 refine Zx a8 (k8 ?_)
 exact Fc.H6 rfl hf sS.1 sS.2 ⟨-1,by rw [HC.out,List.drop_eq_nil_of_le (by have:=nM.out;omega)];rfl,hb⟩))
open Go.RowKit
theorem Dx (s:ByteArray):okW s=(decide (1<=s.size)&&decide (s.size<=255)):=by
 unfold okW
 have h1:s.toList.length=s.size:=by rw [ByteArray.toList_eq,Array.length_toList];rfl
 congr 1
 cases hl:s.toList with
 | nil =>
  have h2:s.size=0:=by rw [<- h1,hl];rfl
  rw [h2];rfl
 | cons x l =>
  have h2:1<=s.size:=by rw [<- h1,hl];simp
  rw [decide_eq_true h2];rfl
theorem qV (a b:ByteArray):(!Op.bytesLess a.toList b.toList)= !lexlt (wl a) (wl b):=by rw [xV]
theorem qf (s:ByteArray) (h1:1<=s.size) (w:World):Calls Tryz.prog 148 #[.string s] w fun e w1=>e= .returned (.bool (okW s))/\w=w1:=by
 refine L7 11 Tryz.func148 fun fr hf s0=> ?_
 have q1:decide (1<=(s.size:Int))=true:=by have:=h1;simp;omega
 refine Ze fun _ a8=>Zr [] hf ?_
 refine p5 0 hf ?_
 clear hf s0;intro a7 hf s0
 refine Zs a8 fun _ a8=> ?_
 have qs:=q1
 refine Zr [3,4,5,6,7,8,9,10] hf ?_
 refine p5 2 hf ?_
 clear hf s0 qs;intro a7 hf s2
 refine Zx a8 (k8 ?_)
 refine Fc.o6 rfl hf s2 ⟨?_,rfl⟩
 rw [Dx]
 try rw [q1]
 try rw [decide_eq_false (show ¬ 1<=s.size by omega)]
 try rw [decide_eq_true h1]
 try simp
 try rfl
 try omega
theorem qe (s:ByteArray) (h1:s.size<1) (w:World):Calls Tryz.prog 148 #[.string s] w fun e w1=>e= .returned (.bool (okW s))/\w=w1:=by
 refine L7 11 Tryz.func148 fun fr hf s0=> ?_
 have q1:decide (1<=(s.size:Int))=false:=by have:=h1;simp;omega
 refine Ze fun _ a8=>Zr [] hf ?_
 refine p5 0 hf ?_
 clear hf s0;intro a7 hf s0
 refine Zs a8 fun _ a8=> ?_
 have qs:=q1
 refine Zr [3,4,5,6,7,8,9,10] hf ?_
 refine p5 2 hf ?_
 clear hf s0 qs;intro a7 hf s2
 refine Zx a8 (k8 ?_)
 refine Fc.o6 rfl hf s2 ⟨?_,rfl⟩
 rw [Dx]
 try rw [q1]
 try rw [decide_eq_false (show ¬ 1<=s.size by omega)]
 try rw [decide_eq_true h1]
 try simp
 try rfl
 try omega
theorem rz (s:ByteArray) (w:World):Calls Tryz.prog 148 #[.string s] w fun e w1=>e= .returned (.bool (okW s))/\w=w1:=by
 rcases Nat.lt_or_ge s.size 1 with h | h
 ·exact qe s h w
 ·exact qf s h w
theorem TS (s:ByteArray) (hh:okW s=true) (w:World):Calls Tryz.prog 125 #[.string s] w fun e w1=>e= .returned (.int .i64 (if okW s then 0 else 7))/\w=w1:=by
 refine L7 6 Tryz.func125 fun fr hf s0=> ?_
 refine Ze fun _ a8=>Zr [] hf ?_
 refine p5 0 hf ?_
 clear hf s0;intro a7 hf s0
 refine Zs a8 fun _ a8=>Ze fun _ j8=>rg ?_
 have bB:=hf.B2 3 4
 refine Zy ?_
 refine Zc (rz s w) ?_;rintro e w1 ⟨rfl,rfl⟩
 rw [hh]
 refine Zv ?_
 refine Zy ?_
 refine Fc.nil (p5 5 hf ?_)
 clear hf s0 bB;intro a7 hf s5
 refine Zx j8 (Fc.k9 s5 ?_)
 refine wp_skip (Zs a8 fun _ a8=>Zr [] hf ?_)
 refine p5 2 hf ?_
 clear hf s5;intro a7 hf s2
 refine Zx a8 (k8 ?_)
 exact Fc.o6 rfl hf s2 ⟨by rw [hh];rfl,rfl⟩
theorem TT (s:ByteArray) (hh:okW s=false) (w:World):Calls Tryz.prog 125 #[.string s] w fun e w1=>e= .returned (.int .i64 (if okW s then 0 else 7))/\w=w1:=by
 refine L7 6 Tryz.func125 fun fr hf s0=> ?_
 refine Ze fun _ a8=>Zr [] hf ?_
 refine p5 0 hf ?_
 clear hf s0;intro a7 hf s0
 refine Zs a8 fun _ a8=>Ze fun _ j8=>rg ?_
 have bB:=hf.B2 3 4
 refine Zy ?_
 refine Zc (rz s w) ?_;rintro e w1 ⟨rfl,rfl⟩
 rw [hh]
 refine Zv ?_
 refine Zy ?_
 refine Fc.nil (p5 5 hf ?_)
 clear hf s0 bB;intro a7 hf s5
 refine Zx j8 (Fc.l7 s5 ?_)
 refine Ze fun _ j8=>Zr [] hf ?_
 refine p5 2 hf ?_
 clear hf s5;intro a7 hf s2
 refine Zx j8 (k8 ?_)
 exact Fc.o6 rfl hf s2 ⟨by rw [hh];rfl,rfl⟩
theorem ZH (s:ByteArray) (w:World):Calls Tryz.prog 125 #[.string s] w fun e w1=>e= .returned (.int .i64 (if okW s then 0 else 7))/\w=w1:=by
 cases h:okW s with
 | true=>have:=TS s h w;rw [h] at this;exact this
 | false=>have:=TT s h w;rw [h] at this;exact this
theorem ZJ (w:World) (es:List G9) (B:Nat) (v:Value) (hB:B<=w.heap.size) (Q9:RE w B v es) (hlen:es.length<=1000000):Calls Tryz.prog 79 #[v] w fun e w1=>∃ n:Int,e= .returned (.tuple #[.int .i64 n,.int .i64 (aP es:Nat)])/\Below w.heap.size w w1:=by
 refine L7 36 Tryz.func79 fun fr hf s0=> ?_
 have fM:=Q9.any
 obtain ⟨A,cc,rfl,U0⟩:=Q9.form
 clear Q9
 refine Ze fun _ a8=>Zr [] hf ?_
 refine p5 0 hf ?_
 clear hf s0;intro a7 hf s0
 refine Zs a8 fun _ a8=>Ze fun _ j8=>Zr [] hf ?_
 refine y4 0 4 hf ?_
 clear hf s0;intro a7 hf sS
 refine Zx j8 (wp_block (wp_loop_ghost (fun gk fr wr=>∃ (i:Nat),gk=es.length-i/\i<=es.length/\Fc.Fr 36 fr/\fr.tmps[0]? =some (.slice A es.length cc)/\fr.tmps[4]? =some (.int .i64 i)/\aP es=chkL (prevW es i) (es.drop i)/\Below w.heap.size w wr) (es.length) ?_ ?_))
 . (
 exact ⟨0,rfl,Nat.zero_le _,hf,sS.1,sS.2,rfl,Below.refl _ _⟩)
 . (
 clear hf sS
 rintro gk fr wr ⟨i,hk,hi,hf,s0,s4,JM,hb⟩
 have HK:=H9 hk;have HC:=H9 JM;clear hk JM
 refine Ze fun _ j8=>Ze fun _ l8=>Zr [5,6,7] hf ?_
 refine y7 0 4 8 hf ?_
 clear hf s0 s4;intro a7 hf sS
 refine Zx l8 (Fc.l0 sS.2.2 (fun hq=> ?_) (fun hq=> ?_))
 . (
 have o9:i<es.length:=qT
 have HQ:=H9 hq;clear hq
 obtain ⟨e,C3⟩:∃ e,es[i]? =some e:=⟨_,F8 o9⟩
 obtain ⟨b,off,rfl,lS,X3,d0,d1,d2⟩:=(fM.below hb).at_ C3
 have A8:=Ah C3
 have HE:=H9 C3;have L4:=H9 A8;clear C3 A8
 refine wp_skip (Zs j8 fun _ j8=>wp_block (Ze fun _ l8=>Ze fun _ F5=>rg ?_))
 have bB:=hf.B6 11 12 13 14 15 16
 iterate 5 refine Zy ?_
 refine Zc (ZH e.word wr) ?_;rintro e w5 ⟨rfl,rfl⟩
 refine Zv ?_
 refine Zy ?_
 refine Fc.nil (y7 0 4 17 hf ?_)
 intro a7 hf sS
 refine Zx F5 ?_
 rcases a6:okW e.word with _ | _
 . (
 have H1:=H9 a6;clear a6
 have Aj:a7.tmps[17]? =some (.bool true):=by rw [sS.2.2,H1.out];rfl
 obtain ⟨s0,s4,G7⟩:=sS
 clear G7
 have G7:=Aj;clear Aj
 refine Fc.l7 G7 ?_
 refine Ze fun _ F5=>Zr [18] hf ?_
 refine y4 2 3 hf ?_
 clear hf s0 s4 G7;intro a7 hf sS
 refine Zx F5 (k8 ?_)
 exact Fc.H6 rfl hf sS.1 sS.2 ⟨i,by rw [HC.out,L4.out,H1.out];rfl,hb⟩)
 . (
 rcases Nat.eq_zero_or_pos i with fF | fF
 . (
 have H1:=H9 a6;clear a6
 have Aj:a7.tmps[17]? =some (.bool false):=by rw [sS.2.2,H1.out];rfl
 obtain ⟨s0,s4,G7⟩:=sS
 clear G7
 have G7:=Aj;clear Aj
 refine Fc.k9 G7 ?_
 have ZG:=H9 fF
 have q1:decide (0<i)=false:=decide_eq_false oM
 clear fF
 refine wp_skip (Zs l8 fun _ l8=>Sb.tb 36 fun a6=> ?_)
 refine Sb.mO 0 s4 hf a6 ?_
 refine Sb.T 1 hf a6 ?_
 refine Sb.mN 2 1 0 hf a6 [] ?_
 refine Sb.Tk 3 hf a6 ?_
 refine Sb.Tk 4 hf a6 ?_
 refine Sb.Tk 5 hf a6 ?_
 refine Sb.Tk 6 hf a6 ?_
 refine Sb.Tk 7 hf a6 ?_
 refine Sb.Tk 8 hf a6 ?_
 refine Sb.Tk 9 hf a6 ?_
 refine Sb.Tk 10 hf a6 ?_
 refine Sb.Tk 11 hf a6 ?_
 refine Sb.Tk 12 hf a6 ?_
 refine Sb.Tk 13 hf a6 ?_
 refine Sb.Tk 14 hf a6 ?_
 refine Sb.T 15 hf a6 ?_
 refine Sb.E hf a6 (fun _ _ h g=>ad (Sb.O h s0) (ad (Sb.O h s4) (Sb.f 15 0 g))) ?_
 clear hf a6 s0 s4 G7;intro a7 w1 hf hx sS
 refine Zx l8 (Fc.k9 sS.2.2 ?_)
 have p7:aP es=chkL (some (wl e.word)) (es.drop (i+1)):=by rw [HC.out,L4.out,H1.out,prev_zero ZG.out];rfl
 have HF:=H9 p7;clear p7
 have N0:=hb.trans (hx.mono hb.size)
 refine wp_skip (Fc.j9 (Zx j8 (Zr [9,10] hf ?_)))
 refine y4 0 4 hf ?_
 intro a7 hf sS
 refine Fc.j7 ?_
 exact ⟨_,by have:=HK.out;omega,i+1,rfl,oM,hf,sS.1,by rw [sS.2];rfl,by rw [HF.out,dV HE.out],N0⟩)
 . (
 have H1:=H9 a6;clear a6
 have Aj:a7.tmps[17]? =some (.bool false):=by rw [sS.2.2,H1.out];rfl
 obtain ⟨s0,s4,G7⟩:=sS
 clear G7
 have G7:=Aj;clear Aj
 refine Fc.k9 G7 ?_
 have q1:decide (0<i)=true:=decide_eq_true fF
 obtain ⟨p,MK⟩:∃ p,es[i-1]? =some p:=⟨_,F8 oM⟩
 obtain ⟨b2,Ms,eH,z1t,qg,y0,y1,y2⟩:=(fM.below hb).at_ MK
 injection eH with eH
 injection eH with eH he3
 subst eH;subst he3
 have HP:=H9 MK;clear MK y1 y2 d1 d2
 have JX:(i:Int)-1=((i-1:Nat):Int):=oM
 refine wp_skip (Zs l8 fun _ l8=>Sb.tb 36 fun a6=> ?_)
 refine Sb.mO 0 s4 hf a6 ?_
 refine Sb.T 1 hf a6 ?_
 refine Sb.mN 2 1 0 hf a6 [] ?_
 refine Sb.Tg 3 hf a6 ?_ (hF:=fun _ _ h d=>Sb.O h s0)
 refine Sb.Tg 4 hf a6 ?_ (hF:=fun _ _ h d=>Sb.O h s4)
 apply Sb.tr 5 _ hf a6
 . (
 intro a7 w1 hh hd hk K Z
 have S9:=Sb.v 2 2 hd hk []
 refine Sb.g S9 ?_
 have Q3:=Sb.v 4 0 hd hk []
 clear hd
 go_simp
 try simp (disch:=omega) only [Fc.W]
 try rw [JX]
 exact Sb.k Z)
 refine Sb.Tg 6 hf a6 ?_
 refine Sb.Tg 7 hf a6 ?_
 refine Sb.Tg 8 hf a6 ?_ (hF:=fun _ _ h d=>ad (cL h.ext d0) (cL h.ext y0))
 refine Sb.Tg 9 hf a6 ?_ (hF:=fun _ _ h d=>Sb.O h s0)
 refine Sb.Tg 10 hf a6 ?_ (hF:=fun _ _ h d=>Sb.O h s4)
 refine Sb.Tg 11 hf a6 ?_
 refine Sb.Tg 12 hf a6 ?_
 refine Sb.Tg 13 hf a6 ?_ (hF:=fun _ _ h d=>ad (cL h.ext d0) (cL h.ext y0))
 refine Sb.Tg 14 hf a6 ?_
 refine Sb.T 15 hf a6 ?_
 refine Sb.E hf a6 (fun _ _ h g=>ad (Sb.O h s0) (ad (Sb.O h s4) (Sb.f 15 0 g))) ?_
 clear hf a6 s0 s4 G7;intro a7 w1 hf hx sS
 replace d0:=cL hx d0
 replace y0:=cL hx y0
 refine Zx l8 (Fc.l0 sS.2.2 (fun C5=> ?_) (fun C5=> ?_))
 . (
 rw [qV] at C5
 have xR:=H9 C5;clear C5
 have N0:=hb.trans (hx.mono hb.size)
 refine Ze fun _ l8=>Zr [35] hf ?_
 refine y4 2 3 hf ?_
 intro a7 hf sS
 refine Zx l8 (k8 ?_)
 exact Fc.H6 rfl hf sS.1 sS.2 ⟨i,by rw [HC.out,L4.out,H1.out,gG fF HP.out];simp only [(Bool.not_eq_true' _).mp xR.out,if_true,Bool.false_eq_true,if_false];rfl,N0⟩)
 . (
 rw [qV] at C5
 have xR:=H9 C5;clear C5
 have N0:=hb.trans (hx.mono hb.size)
 have p7:aP es=chkL (some (wl e.word)) (es.drop (i+1)):=by rw [HC.out,L4.out,H1.out,gG fF HP.out];simp only [(Bool.not_eq_false' _).mp xR.out,if_true]
 have HF:=H9 p7;clear p7
 refine wp_skip (Fc.j9 (Zx j8 (Zr [9,10] hf ?_)))
 refine y4 0 4 hf ?_
 intro a7 hf sS
 refine Fc.j7 ?_
 exact ⟨_,by have:=HK.out;omega,i+1,rfl,oM,hf,sS.1,by rw [sS.2];rfl,by rw [HF.out,dV HE.out],N0⟩))))
 . (
 have C3:i=es.length:=qF
 have nM:=H9 C3;clear C3 hq
 refine Zo ?_
 refine Zs a8 fun _ a8=>Zr [] hf ?_
 refine y4 2 3 hf ?_
 intro a7 hf sS
 refine Zx a8 (k8 ?_)
 exact Fc.H6 rfl hf sS.1 sS.2 ⟨-1,by rw [HC.out,List.drop_eq_nil_of_le (by have:=nM.out;omega)];rfl,hb⟩))
open Go.RowKit
theorem GX:(Tryz.prog.info? 111).map (·.size)=some 2:=kR
theorem Wk:(Tryz.prog.info? 5).map (fun i=>(i.zero,i.size,i.bytes))=some (some (.int .u8 0),1,1):=kR
theorem Ak {w:World} {B:Nat} {e:TypeId} {v:Value} {n:Nat} {xs:List Value} (h:w.ownsRow B e 1 v n xs):∀ g,v.ownBlock=some g->∃ c fz,w.heap[g]? =some (.cells c e fz):=by
 intro g hg
 rcases h.2 with ⟨rfl,_⟩ | ⟨g',cap,cur,rfl,_,hgg,_⟩
 ·simp [Value.ownBlock] at hg
 ·simp [Value.ownBlock] at hg
  subst hg
  exact ⟨cur,_,hgg⟩
theorem xW {w w':World} (e:TypeId) (b:Option Nat) (h:Below w.heap.size w w'):Lib.OthersKept e b w w':=fun k o hk _ _=>(h.block k (Array.getElem?_eq_some_iff.1 hk).1).trans hk
theorem Dy (b:Nat) (w:World) (h0:w.cell? ⟨b,0,none⟩=some (.pointer (some ⟨b,0,none⟩))) :
  Calls Tryz.prog 85 #[.pointer (some ⟨b,0,none⟩)] w fun e w'=>e= .returned (.tuple #[])/\w'=w:=by
 obtain ⟨j,hj,_⟩:=Option.map_eq_some_iff.1 GX
 go_enter Tryz.func85,Tryz.ntmps85
 go_wp2
 rw [Lib.run_neq_ptr_same w _ Tryz.underlying109 hj]
 go_wp2
 go_end0
 exact ⟨rfl,rfl⟩
theorem Am (b:Nat) (w:World) (h0:w.cell? ⟨b,0,none⟩=some (.pointer none)) (ZK:w.shape? b=some (111,2)) (AL:w.frozen? ⟨b,0,none⟩=false) :
  Calls Tryz.prog 85 #[.pointer (some ⟨b,0,none⟩)] w fun e w'=>e= .returned (.tuple #[])/\w'=w.setCell ⟨b,0,none⟩ (.pointer (some ⟨b,0,none⟩)):=by
 obtain ⟨j,hj,DS⟩:=Option.map_eq_some_iff.1 GX
 go_enter Tryz.func85,Tryz.ntmps85
 go_wp2
 rw [Lib.run_to_unsafe w ⟨b,0,none⟩ Tryz.underlying109 Tryz.underlying211 hj (by rw [DS];decide) ZK (Nat.zero_lt_succ 1)]
 simp only [Result.andThen]
 rw [Oper.upon_value]
 go_wp2
 rw [run_callFunc_extern Tryz.func129 kR kR kR (e:=Extern.AbiNoEscape.same) kR]
 rw [Lib.run_noEscape]
 simp only [Result.andThen]
 rw [Oper.upon_value]
 go_wp2
 rw [Lib.run_from_unsafe w ⟨b,0,none⟩ Tryz.underlying211 Tryz.underlying109 hj ZK kR]
 simp only [Result.andThen]
 rw [Oper.upon_value]
 go_wp2
 go_end0
 exact ⟨rfl,rfl⟩
theorem vK (B b:Nat) (bs:List Value) (w:World) (h:Lib.IsBuilder 111 5 B b bs w) :
  Calls Tryz.prog 85 #[.pointer (some ⟨b,0,none⟩)] w fun e w'=>e= .returned (.tuple #[])/\(Lib.BuilderAt 111 5 B b (.pointer (some ⟨b,0,none⟩)) bs w'/\Below B w w'/\Lib.OthersKept 5 (some b) w w'):=by
 rcases h with h | h
 ·refine (Am b w h.cell0 h.shape h.frozen0).mono ?_
  rintro e w' ⟨rfl,rfl⟩
  exact ⟨rfl,h.used _,(Below.refl B w).setCell (p:=⟨b,0,none⟩) h.1 _,(Lib.OthersKept.refl _ _ w).setCell ⟨b,0,none⟩ rfl _⟩
 ·refine (Dy b w h.cell0).mono ?_
  rintro e w' ⟨rfl,rfl⟩
  exact ⟨rfl,h,Below.refl B _,Lib.OthersKept.refl _ _ _⟩
theorem vL (B b:Nat) (bs:List Value) (c:Int) (w:World) (h:Lib.IsBuilder 111 5 B b bs w) (hlen:bs.length+1<=140737488355328) (hBw:B<=w.heap.size) :
  Calls Tryz.prog 136 #[.pointer (some ⟨b,0,none⟩),.int .u8 c] w fun e w'=>e= .returned .nilIface/\(Lib.BuilderAt 111 5 B b (.pointer (some ⟨b,0,none⟩)) (bs++[.int .u8 c]) w'/\Below B w w'/\Lib.OthersKept 5 (some b) w w'):=by
 obtain ⟨i0,hi,fG,jT,X0⟩:=info_parts Wk
 go_enter Tryz.func136,Tryz.ntmps136
 go_wp2_with (go_at_call 85;refine (vK B b bs _ h).mono ?_)
 rintro e w1 ⟨rfl,h1,p6,cZ⟩
 have o9:b<w1.heap.size:=h1.lt
 obtain ⟨hB,v,JY,H8,F0⟩:=h1
 have c0:w1.cell? ⟨b,0,none⟩=some (.pointer (some ⟨b,0,none⟩)):=by rw [Lib.cell_of_heap JY];rfl
 have c1:w1.cell? ⟨b,1,none⟩=some v:=by rw [Lib.cell_of_heap JY];rfl
 go_wp2_with (at_builtin;refine wpList_append_own _ rfl _ _ 31 rfl B 5 i0 (.int .u8 0) 1 1 Tryz.underlying31 hi fG jT X0 rfl dC _ _ _ rfl (H8.alloc _) ⟨w1.heap.size,0,none⟩ 1 1 [.int .u8 c] rfl rfl ?c1 ?c2 ?c3 ?c4 ?c5 ?_)
 case c1 =>
  intro j u hj
  match j,hj with
  | 0,hj=>simp at hj;subst hj;simp [Addr.add]
 case c2=>intro u hu;simp at hu;subst hu;rfl
 case c3=>unfold maxLen;omega
 case c4=>omega
 case c5=>have:=p6.size;simp;omega
 intro v' w2 Ap qW _
 have r8:w2.heap[b]? =some (.cells #[.pointer (some ⟨b,0,none⟩),v] 111 (0,0)):=by
  rw [qW.block b sO (fun e=>F0 e.symm),Lib.alloc_old w1 _ b o9]
  exact JY
 have d0:w2.cell? ⟨b,0,none⟩=some (.pointer (some ⟨b,0,none⟩)):=by rw [Lib.cell_of_heap r8];rfl
 have d1:w2.cell? ⟨b,1,none⟩=some v:=by rw [Lib.cell_of_heap r8];rfl
 have f1:w2.frozen? ⟨b,1,none⟩=false:=Lib.frozen_of_heap r8 1
 obtain ⟨g,cap,rfl⟩:∃ g cap,v'= .slice (some ⟨g,0,none⟩) (bs.length+1) cap:=by
  rcases Ap.2 with ⟨_,h0⟩ | ⟨g,cap,cur,hv,_⟩
  ·omega
  ·exact ⟨g,cap,hv⟩
 go_wp2
 go_ret
 refine ⟨rfl,?_,?_,((cZ.alloc _).grown qW (Ak (H8.alloc _))).setCell ⟨b,1,none⟩ rfl _⟩
 ·exact Lib.BuilderAt.put (T:=111) (e:=5) hB r8 (bs':=bs++[.int .u8 c]) (by simpa using Ap) dC
 ·exact ((p6.alloc (by have:=p6.size;omega) _).grown qW (by have:=p6.size;simp;omega) (fun k hk=>(H8.lt k hk).1)).setCell (p:=⟨b,1,none⟩) hB _
theorem Dz (B b:Nat) (bs:List Value) (s:ByteArray) (w:World) (h:Lib.IsBuilder 111 5 B b bs w) (hlen:bs.length+s.size<=140737488355328) (hBw:B<=w.heap.size) :
  Calls Tryz.prog 47 #[.pointer (some ⟨b,0,none⟩),.string s] w fun e w'=>e= .returned (.tuple #[.int .i64 s.size,.nilIface])/\(Lib.BuilderAt 111 5 B b (.pointer (some ⟨b,0,none⟩)) (bs++Lib.strCells s) w'/\Below B w w'/\Lib.OthersKept 5 (some b) w w'):=by
 obtain ⟨i0,hi,fG,jT,X0⟩:=info_parts Wk
 go_enter Tryz.func47,Tryz.ntmps47
 go_wp2_with (go_at_call 85;refine (vK B b bs _ h).mono ?_)
 rintro e w1 ⟨rfl,h1,p6,cZ⟩
 have o9:b<w1.heap.size:=h1.lt
 obtain ⟨hB,v,JY,H8,F0⟩:=h1
 have c0:w1.cell? ⟨b,0,none⟩=some (.pointer (some ⟨b,0,none⟩)):=by rw [Lib.cell_of_heap JY];rfl
 have c1:w1.cell? ⟨b,1,none⟩=some v:=by rw [Lib.cell_of_heap JY];rfl
 go_wp2_with (at_builtin;refine Lib.wpList_append_own_string _ rfl _ _ 31 9 rfl B 5 i0 Tryz.underlying31 Tryz.underlying9 hi fG jT X0 _ _ _ rfl H8 s rfl ?c3 ?c4 ?c5 ?_)
 case c3=>unfold maxLen;omega
 case c4=>omega
 case c5=>have:=p6.size;omega
 intro v' w2 Ap qW _
 have r8:w2.heap[b]? =some (.cells #[.pointer (some ⟨b,0,none⟩),v] 111 (0,0)):=by
  rw [qW.block b o9 (fun e=>F0 e.symm)]
  exact JY
 have d0:w2.cell? ⟨b,0,none⟩=some (.pointer (some ⟨b,0,none⟩)):=by rw [Lib.cell_of_heap r8];rfl
 have d1:w2.cell? ⟨b,1,none⟩=some v:=by rw [Lib.cell_of_heap r8];rfl
 have f1:w2.frozen? ⟨b,1,none⟩=false:=Lib.frozen_of_heap r8 1
 obtain ⟨ao,n',cap,rfl⟩:∃ ao n' cap,v'= .slice ao n' cap:=by
  rcases Ap.2 with ⟨hv,_⟩ | ⟨g,cap,cur,hv,_⟩
  ·exact ⟨_,_,_,hv⟩
  ·exact ⟨_,_,_,hv⟩
 go_wp2
 go_ret2
 refine ⟨rfl,?_,?_,(cZ.grown qW (Ak H8)).setCell ⟨b,1,none⟩ rfl _⟩
 ·exact Lib.BuilderAt.put (T:=111) (e:=5) hB r8 (bs':=bs++Lib.strCells s) (by simpa [Lib.strCells_length] using Ap) dC
 ·exact (p6.grown qW (by have:=p6.size;omega) (fun k hk=>(H8.lt k hk).1)).setCell (p:=⟨b,1,none⟩) hB _
theorem fresh (w:World):Lib.IsBuilder 111 5 w.heap.size w.heap.size [] (w.alloc (.cells #[.pointer none,.slice none 0 0] 111)) :=
 .inl ⟨nR,.slice none 0 0,heap_alloc_new w _,World.ownsRow_nil _ _ _ _,by simp [Value.ownBlock]⟩
theorem fN {B b:Nat} {l:List Value} {w w':World} (h:Lib.IsBuilder 111 5 B b l w) (hb:Below w.heap.size w w'):Lib.IsBuilder 111 5 B b l w':=by
 have go:∀ p,Lib.BuilderAt 111 5 B b p l w->Lib.BuilderAt 111 5 B b p l w':=by
  rintro p ⟨hB,v,JY,H8,F0⟩
  refine ⟨hB,v,(hb.block b (Array.getElem?_eq_some_iff.1 JY).1).trans JY,⟨H8.1,?_⟩,F0⟩
  rcases H8.2 with h | ⟨g,cap,cur,h1,h2,h3,h4⟩
  ·exact .inl h
  ·exact .inr ⟨g,cap,cur,h1,h2,(hb.block g (Array.getElem?_eq_some_iff.1 h3).1).trans h3,h4⟩
 exact h.elim (fun x=> .inl (go _ x)) (fun x=> .inr (go _ x))
end Dw
end Go.Proofs.YtcddnmhmcieebaaGreatDoor
