/- Dawg: the words of a transducer ars entries, what goes on behind a beginning, how many kinds of that there are, a word's value. -/
import Derived.Test.YtcddnmhmcieebaaGreatDoorY9
import Derived.Test.YtcddnmhmcieebaaGreatDoorY8
import Derived.Test.YtcddnmhmcieebaaGreatDoorY1
import Derived.Laws.BytesArg
import Derived.Lib.BitFns
import Derived.Lib.ItoaNum
import Derived.Deep.WholeRow
import Derived.Laws.IdiomStrings
import Derived.ArgAppend
import Derived.Laws.BitsAllLaws
import Derived.Test.YtcddnmhmcieebaaGreatDoorShelf
import Derived.Test.YtcddnmhmcieebaaGreatDoorTools
namespace Go.Proofs.YtcddnmhmcieebaaGreatDoor
set_option maxHeartbeats 4000000
set_option maxRecDepth 100000
set_option linter.unusedSimpArgs false
set_option linter.unusedVariables false
set_option linter.unnecessarySimpa false
namespace Dw
instance:DecidableEq z6:=fun a b=>decidable_of_iff (a.word=b.word/\a.weight=b.weight/\a.gone=b.gone) (by cases a;cases b;simp)
def y5:Nat:=18446744073709551616
def bl (l:List Nat):ByteArray:=strOfNums (l.map fun (x:Nat)=>(x:Int))
theorem y2v {l:List Nat} (h:∀ x∈l,x<256):wl (bl l)=l:=by
 unfold wl bl
 rw [strOfNums_data,List.map_map,List.map_map]
 refine (List.map_congr_left fun x hx=> ?_).trans (List.map_id _)
 have:=h x hx
 simp
 omega
theorem y7q (a b:ByteArray):wl (a++b)=wl a++wl b:=by
 unfold wl
 rw [<- List.map_append,ByteArray.data_append,Array.toList_append]
theorem w6c (s:ByteArray):bl (wl s)=s:=eM (y2v (dR s))
theorem x4z (b:Nat) (l:List Nat):bl (b::l)=strOfNums [(b:Int)]++bl l:=by
 refine ByteArray.ext (Array.ext' ?_)
 rw [ByteArray.data_append,Array.toList_append]
 rfl
theorem append_assoc (a b c:ByteArray):a++b++c=a++(b++c):=by
 refine ByteArray.ext (Array.ext' ?_)
 simp [ByteArray.data_append]
theorem w6b:bl []=⟨#[]⟩:=rfl
theorem empty_append (a:ByteArray):(⟨#[]⟩:ByteArray)++a=a:=by
 refine ByteArray.ext (Array.ext' ?_)
 simp [ByteArray.data_append]
theorem append_empty (a:ByteArray):a++(⟨#[]⟩:ByteArray)=a:=by
 refine ByteArray.ext (Array.ext' ?_)
 simp [ByteArray.data_append]
/-! Of -/
def eH (s:ByteArray) (v:Nat):z6:=if 4294967296<v then ⟨⟨#[]⟩,0,false⟩ else if v=0 then ⟨s,0,true⟩ else ⟨s,((v-1:Nat):Int),false⟩
def ofB (v:Nat):Bool:= !decide (4294967296<v)
def z0h (e:z6):Prop:=gM e/\A7 e=e
theorem z8w (s:ByteArray) (v:Nat):z0h (eH s v):=by
 unfold eH
 split
 ·exact ⟨⟨sP,sP⟩,rfl⟩
 ·split
  ·exact ⟨⟨sP,sP⟩,rfl⟩
  ·exact ⟨⟨sP,sO⟩,rfl⟩
theorem w6a {s:ByteArray} {v:Nat} (h:v<=4294967296):Y1 (eH s v)=(wl s,v):=by
 unfold eH Y1
 rw [if_neg (by omega)]
 by_cases h0:v=0
 ·subst h0;rfl
 ·rw [if_neg h0]
  simp only [M9,Bool.false_eq_true,if_false]
  refine Prod.ext rfl ?_
  simp
  omega
theorem x4y {a b:z6} (ha:z0h a) (hb:z0h b) (h:Y1 a=Y1 b):a=b:=by
 have h1:a.word=b.word:=eM (congrArg Prod.fst h)
 have h2:M9 a=M9 b:=congrArg Prod.snd h
 obtain ⟨⟨a1,a2⟩,a3⟩:=ha
 obtain ⟨⟨b1,b2⟩,b3⟩:=hb
 cases a with | mk aw an ag =>
 cases b with | mk bw bn bg =>
 simp only [M9,A7] at *
 subst h1
 cases ag<;>cases bg<;>simp at h2 a3 b3 |-
 ·omega
 ·rw [<- a3, <- b3]
theorem y2u {e:z6} (h:z0h e):eH e.word (M9 e)=e:=by
 have hv:=xX h.1
 exact x4y (z8w _ _) h (w6a oM)
def valW (ss:List State):Nat->List Nat->Option Nat
 | k,[]=>match ss[k]? with | none=>none | some s=>if s.final then some s.out else none
 | k,b::w=>match ss[k]? with | none=>none | some s=>match s.a6.find? (fun a=>decide (a.byte=b)) with | none=>none | some a=>(valW ss a.to.toNat w).map (a.out + ·)
def zT (l:List Wv) (w:List Nat):Option Nat:=(l.find? fun e=>decide (e.1=w)).map Prod.snd
theorem iG (a b:List Wv) (w:List Nat):zT (a++b) w=(zT a w).or (zT b w):=by
 unfold zT
 rw [List.find?_append]
 cases a.find? (fun e=>decide (e.1=w))<;>rfl
theorem jP {l:List Wv} {w:List Nat} (h:∀ e∈l,e.1≠w):zT l w=none:=by
 unfold zT
 rw [List.find?_eq_none.2 (fun e he=>by simpa using h e he)]
 rfl
theorem y7p (l:List Wv) (b o:Nat) (w:List Nat):zT (l.map (shift b o)) (b::w)=(zT l w).map (o + ·):=by
 unfold zT
 rw [List.find?_map]
 have:((fun e:Wv=>decide (e.1=b::w))∘shift b o)=fun e:Wv=>decide (e.1=w):=by
  funext e;simp [shift]
 rw [this]
 cases l.find? (fun e=>decide (e.1=w))<;>rfl
theorem z8v (F:r7->List Wv) (b:Nat) (w:List Nat):∀ (l:List r7) (i:Nat) (last:Int),okArcs i last l=true ->
  zT (l.flatMap fun a=>(F a).map (shift a.byte a.out)) (b::w)=match l.find? (fun a=>decide (a.byte=b)) with | none=>none | some a=>(zT (F a) w).map (a.out + ·)
 | [],_,_,_=>rfl
 | a::l,i,last,h=>by
  have h':=h
  simp only [okArcs,Bool.and_eq_true,decide_eq_true_eq] at h'
  rw [List.flatMap_cons,iG,List.find?_cons]
  by_cases hb:a.byte=b
  ·rw [decide_eq_true hb]
   simp only
   subst hb
   rw [y7p,jP (l:=l.flatMap fun a=>(F a).map (shift a.byte a.out))]
   ·cases (zT (F a) w).map (a.out + ·)<;>rfl
   ·intro e he hw
    obtain ⟨x,u,h1,h2⟩:=cZ F l i a.byte h'.2 e he
    rw [h1] at hw
    injection hw with hw _
    omega
  ·rw [decide_eq_false hb]
   simp only
   rw [jP (l:=(F a).map (shift a.byte a.out)),Option.none_or,z8v F b w l i a.byte h'.2]
   intro e he hw
   obtain ⟨x,_,rfl⟩:=List.mem_map.1 he
   injection hw with hw _
   exact hb hw
theorem z0g {SS:List State} (hi:Inv SS):∀ (w:List Nat) (m k:Nat) (s:State),w.length<=m->SS[k]? =some s->valW SS k w=zT (wds SS m k) w
 | [],m,k,s,_,hs=>by
  have hg:=hi.S7 k s hs
  obtain ⟨R,h1,hR⟩:∃ R,wds SS m k=H2 s++R/\∀ e∈R,e.1≠[]:=by
   cases m with
   | zero=>exact ⟨[],by simp only [wds,hs,List.append_nil],sP⟩
   | succ m=>exact ⟨_,Q1 hs m,fun e he=>by
     obtain ⟨b,u,h2,_⟩:=cZ (fun a=>wds SS m a.to.toNat) s.a6 k (-1) hg.a6 e he
     rw [h2];simp⟩
  rw [h1,iG,jP hR]
  simp only [valW,hs]
  unfold H2
  cases s.final<;>rfl
 | b::w,0,k,s,h,_=>by simp at h
 | b::w,m+1,k,s,h,hs=>by
  have hg:=hi.S7 k s hs
  have n8:=(E2 hs).1
  rw [Q1 hs,iG,jP (l:=H2 s),Option.none_or,z8v (fun a=>wds SS m a.to.toNat) b w s.a6 k (-1) hg.a6]
  ·simp only [valW,hs]
   cases hf:s.a6.find? (fun a=>decide (a.byte=b)) with
   | none=>rfl
   | some a =>
    simp only
    have ha:=List.mem_of_find?_eq_some hf
    have ht:=iH _ _ _ hg.a6 a ha
    rw [z0g hi w m a.to.toNat SS[a.to.toNat] (by simpa using h) (D9 oM)]
  ·intro e he
   unfold H2 at he
   split at he
   ·simp at he;subst he;simp
   ·cases he
/-! behind -/
def vM (es:List z6) (w:ByteArray):Option z6:=es.find? fun e=>decide (e.word=w)
theorem x4x (es:List z6) (w:ByteArray):zT (es.map Y1) (wl w)=(vM es w).map M9:=by
 unfold zT vM
 rw [List.find?_map]
 have:((fun e:Wv=>decide (e.1=wl w))∘Y1)=fun e:z6=>decide (e.word=w):=by
  funext e
  show decide (wl e.word=wl w)=_
  by_cases h:e.word=w
  ·rw [h];simp
  ·rw [decide_eq_false h,decide_eq_false (fun h2=>h (eM h2))]
 rw [this]
 cases es.find? (fun e=>decide (e.word=w))<;>rfl
/-! the theorem's parts -/
theorem iJ {es:List z6} (a8:∀ e∈es,gM e/\okW e.word=true/\A7 e=e) (hr:P3 es):C9 256 (es.map Y1):=fun e he=>by
 obtain ⟨x,hx,rfl⟩:=List.mem_map.1 he
 have:=bZ (a8 x hx).2.1
 show (wl x.word).length<256
 rw [l9];omega
theorem aM {es:List z6} (a8:∀ e∈es,gM e/\okW e.word=true/\A7 e=e) (hr:P3 es):L6 (es.map Y1):=List.pairwise_map.2 hr
theorem cA {es:List z6} (a8:∀ e∈es,gM e/\okW e.word=true/\A7 e=e) (hr:P3 es):buildF es=build (es.map Y1):=by
 unfold buildF
 have h0:aW es=0:=eP _ _ (fun e he=>(a8 e he).2.1) hr (fun q hq=>by cases hq)
 rw [if_pos h0]
theorem z0f {es:List z6} (a8:∀ e∈es,gM e/\okW e.word=true/\A7 e=e) (hr:P3 es) (m:Nat) (hm:∀ e∈es,e.word.size<=m):wds (buildF es).l3 m ((buildF es).l3.length-1)=rel (es.map Y1):=by
 rw [cA a8 hr]
 by_cases hn:es=[]
 ·subst hn
  show wds [E1] m 0=[]
  exact fR (s:=E1) rfl rfl m
 ·have tX:es.map Y1≠[]:=by simpa using hn
  rw [jJ (iJ a8 hr) tX (aM a8 hr)]
  simp only
  have hk:=(z4y 256 (es.map Y1) [] (iJ a8 hr) tX (aM a8 hr) Inv.S0).2.new (Nat.zero_le _)
  rw [hk,Nat.add_sub_cancel]
  refine w9u 256 (es.map Y1) [] _ m (iJ a8 hr) tX (aM a8 hr) Inv.S0 (fun e he=> ?_) (List.prefix_refl _)
  obtain ⟨x,hx,rfl⟩:=List.mem_map.1 he
  have:=hm x hx
  show (wl x.word).length<_
  rw [l9];omega
theorem jQ {es:List z6} (a8:∀ e∈es,gM e/\okW e.word=true/\A7 e=e) (hr:P3 es):(buildF es).init=leastV (es.map Y1):=by
 rw [cA a8 hr]
 by_cases hn:es=[]
 ·subst hn;rfl
 ·rw [jJ (iJ a8 hr) (by simpa using hn) (aM a8 hr)]
theorem w5z {es:List z6} (a8:∀ e∈es,gM e/\okW e.word=true/\A7 e=e) (hr:P3 es) (l:List Wv) (n:Nat) (w:List Nat):zT (l.map (qE n)) w=(zT l w).map (. - n):=by
 unfold zT
 rw [List.find?_map]
 have:((fun e:Wv=>decide (e.1=w))∘qE n)=fun e:Wv=>decide (e.1=w):=rfl
 rw [this]
 cases l.find? (fun e=>decide (e.1=w))<;>rfl
open Go.RowKit
def Small (l:List Nat):Prop:=∀ x∈l,x<256
theorem cB {l:List Nat} (h:Small l):wl (bl l)=l:=by
 unfold wl bl
 rw [strOfNums_data,List.map_map,List.map_map]
 refine (List.map_congr_left fun x hx=> ?_).trans (List.map_id _)
 have:=h x hx
 simp
 omega
theorem z0e (s:ByteArray):bl (wl s)=s:=eM (cB (dR s))
theorem X4 (l:List Nat):(bl l).size=l.length:=by unfold bl;rw [strOfNums_size,List.length_map]
theorem Small.append {a b:List Nat} (ha:Small a) (hb:Small b):Small (a++b):=fun x hx=>by
 rcases List.mem_append.1 hx with h | h
 ·exact ha x h
 ·exact hb x h
theorem Small.nil:Small []:=by simp [Small]
theorem Small.cons {x:Nat} {l:List Nat} (hx:x<256) (hl:Small l):Small (x::l):=fun y hy=>by
 rcases List.mem_cons.1 hy with rfl | h
 ·exact hx
 ·exact hl y h
/-! numbers -/
def Y2 (n:Nat):Nat:=(Lib.bitLen n+7) / 8
def leB:Nat->Nat->List Nat
 | 0,_=>[]
 | m+1,n=>n%256::leB m (n / 256)
def r8 (n:Nat):List Nat:=if n<248 then [n] else (247+Y2 n)::leB (Y2 n) n
theorem H8:∀ (m n:Nat),(leB m n).length=m
 | 0,_=>rfl
 | m+1,n=>by simp [leB,H8 m]
theorem vN:∀ (m n:Nat),Small (leB m n)
 | 0,_=>by simp [Small,leB]
 | m+1,n=>Small.cons (Nat.mod_lt _ oM) (vN m _)
theorem z8u:∀ (m n:Nat),leB (m+1) n=leB m n++[n / 256^m%256]
 | 0,n=>by simp [leB]
 | m+1,n=>by
  rw [leB,z8u m (n / 256)]
  simp only [leB,List.cons_append]
  rw [Nat.div_div_eq_div_mul,Nat.pow_succ,Nat.mul_comm]
def ofLe:List Nat->Nat
 | []=>0
 | x::l=>x+256*ofLe l
theorem z8t:∀ (m n:Nat),n<256^m->ofLe (leB m n)=n
 | 0,n,h=>by simp [leB,ofLe] at *;omega
 | m+1,n,h=>by
  rw [leB,ofLe,z8t m (n / 256) (by rw [Nat.pow_succ] at h;exact Nat.div_lt_of_lt_mul (by rw [Nat.mul_comm];exact h))]
  omega
theorem z8s:∀ (l:List Nat),Small l->leB l.length (ofLe l)=l
 | [],_=>rfl
 | x::l,h=>by
  have hx:=h x (List.mem_cons_self ..)
  have hl:Small l:=fun y hy=>h y (List.mem_cons_of_mem _ hy)
  rw [List.length_cons,leB,ofLe]
  have e1:(x+256*ofLe l)%256=x:=oM
  have e2:(x+256*ofLe l) / 256=ofLe l:=oM
  rw [e1,e2,z8s l hl]
theorem xZ:∀ (l:List Nat),Small l->ofLe l<256^l.length
 | [],_=>by simp [ofLe]
 | x::l,h=>by
  have hx:=h x (List.mem_cons_self ..)
  have hl:=xZ l (fun y hy=>h y (List.mem_cons_of_mem _ hy))
  rw [List.length_cons,ofLe,Nat.pow_succ]
  omega
theorem vP:∀ (l:List Nat) (x:Nat),ofLe (l++[x])=ofLe l+256^l.length*x
 | [],x=>by simp [ofLe]
 | y::l,x=>by
  rw [List.cons_append,ofLe,vP l x,ofLe,List.length_cons,Nat.pow_succ,Nat.mul_add, <- Nat.add_assoc, <- Nat.mul_assoc,Nat.mul_comm 256 (256^l.length)]
theorem qG (m:Nat):256^m=2^(8*m):=by rw [show (256:Nat)=2^8 from rfl, <- Nat.pow_mul]
theorem bK {n:Nat} (h0:0<n) (h:n<y5):1<=Y2 n/\Y2 n<=8/\256^(Y2 n-1)<=n/\n<256^Y2 n:=by
 obtain ⟨h1,h2,h3⟩:=Lib.bitLenAux_bounds 64 n h oM
 have e:Lib.bitLenAux 64 n=Lib.bitLen n:=rfl
 rw [e] at h1 h2 h3
 have h64:Lib.bitLen n<=64:=by
  rcases Nat.lt_or_ge 64 (Lib.bitLen n) with h5 | h5
  ·have h6:2^64<=2^(Lib.bitLen n-1):=Nat.pow_le_pow_right oM oM
   have h7:y5=2^64:=rfl
   omega
  ·exact h5
 unfold Y2
 refine ⟨oM,oM,?_,?_⟩
 ·rw [qG]
  exact Nat.le_trans (Nat.pow_le_pow_right oM oM) h2
 ·rw [qG]
  exact Nat.lt_of_lt_of_le h3 (Nat.pow_le_pow_right oM oM)
theorem z4b {n:Nat} (h:n<y5):Small (r8 n):=by
 unfold r8
 split
 ·exact Small.cons oM Small.nil
 ·obtain ⟨_,b2,_⟩:=bK (show 0<n by omega) h
  exact Small.cons oM (vN _ _)
theorem eQ (n:Nat):(r8 n).length=if n<248 then 1 else 1+Y2 n:=by
 unfold r8
 split
 ·rfl
 ·rw [List.length_cons,H8];omega
theorem K4 {n:Nat} (h:n<y5):1<=(r8 n).length/\(r8 n).length<=9:=by
 rw [eQ]
 split
 ·omega
 ·obtain ⟨b1,b2,_⟩:=bK (show 0<n by omega) h
  omega
def getN (s:List Nat) (i:Nat):Nat×Nat×Nat :=
 match s[i]? with
 | none=>(0,i,3)
 | some c=>if c<248 then (c,i+1,0) else
  if s.length-i<=c-247 then (0,i,3) else
  if (r8 (ofLe ((s.drop (i+1)).take (c-247)))).length=1+(c-247) then (ofLe ((s.drop (i+1)).take (c-247)),i+1+(c-247),0) else (0,i,5)
theorem y2t {n:Nat} (h:n<y5) (p r:List Nat):getN (p++r8 n++r) p.length=(n,p.length+(r8 n).length,0):=by
 unfold getN
 by_cases hn:n<248
 ·have e:r8 n=[n]:=by unfold r8;rw [if_pos hn]
  rw [e]
  simp [hn]
 ·have e:r8 n=(247+Y2 n)::leB (Y2 n) n:=by unfold r8;rw [if_neg hn]
  obtain ⟨b1,b2,b3,b4⟩:=bK (show 0<n by omega) h
  have hl:=H8 (Y2 n) n
  have h1:(p++r8 n++r)[p.length]? =some (247+Y2 n):=by rw [e];simp
  have h2:((p++r8 n++r).drop (p.length+1)).take (Y2 n)=leB (Y2 n) n:=by
   rw [e,show p++(247+Y2 n)::leB (Y2 n) n++r=(p++[247+Y2 n])++(leB (Y2 n) n++r) by simp,show p.length+1=(p++[247+Y2 n]).length by simp,List.drop_left,List.take_append_of_le_length oM,List.take_of_length_le oM]
  rw [h1]
  simp only
  rw [if_neg (by omega),show 247+Y2 n-247=Y2 n by omega,h2,z8t _ _ b4,eQ,if_neg hn,if_neg (by
   rw [e];simp;omega),if_pos rfl,show p.length+1+Y2 n=p.length+(1+Y2 n) by omega]
theorem qH {s:List Nat} (hs:Small s) {i n j:Nat} (h:getN s i=(n,j,0)):n<y5/\s.drop i=r8 n++s.drop j/\j=i+(r8 n).length:=by
 unfold getN at h
 split at h
 ·simp at h
 ·rename_i c hc
  have n8:=(E2 hc).1
  have hc8:=hs c (U0 hc)
  have hdr:s.drop i=c::s.drop (i+1):=X5 hc
  split at h
  ·rename_i h8
   simp only [Prod.mk.injEq] at h
   obtain ⟨rfl,rfl,_⟩:=h
   have e:r8 c=[c]:=by unfold r8;rw [if_pos h8]
   exact ⟨by unfold y5;omega,by rw [e,hdr];rfl,by rw [e];rfl⟩
  ·rename_i h8
   split at h
   ·simp at h
   ·rename_i hlen
    split at h
    ·rename_i xJ
     simp only [Prod.mk.injEq] at h
     obtain ⟨hn,rfl,_⟩:=h
     have Z7:Small ((s.drop (i+1)).take (c-247)):=fun x hx=>hs x (List.mem_of_mem_drop (List.mem_of_mem_take hx))
     have hln:((s.drop (i+1)).take (c-247)).length=c-247:=sO
     have h7:leB ((s.drop (i+1)).take (c-247)).length (ofLe ((s.drop (i+1)).take (c-247)))=(s.drop (i+1)).take (c-247):=z8s _ Z7
     rw [hln,hn] at h7
     have hb:=xZ _ Z7
     rw [hn,hln] at hb
     rw [hn] at xJ
     have h64:n<y5:=by
      have:256^(c-247)<=256^8:=Nat.pow_le_pow_right oM oM
      have e:y5=256^8:=rfl
      omega
     rw [eQ] at xJ
     have h9:¬ n<248:=fun h9=>by rw [if_pos h9] at xJ;omega
     rw [if_neg h9] at xJ
     have e:r8 n=c::(s.drop (i+1)).take (c-247):=by
      unfold r8
      rw [if_neg h9,show Y2 n=c-247 by omega,h7,show 247+(c-247)=c by omega]
     refine ⟨h64,?_,?_⟩
     ·rw [e,hdr,List.cons_append,show i+1+(c-247)=(c-247)+(i+1) by omega]
      refine congrArg (c :: ·) ?_
      conv=>lhs;rw [<- List.take_append_drop (c-247) (s.drop (i+1))]
      rw [List.drop_drop,show i+1+(c-247)=(c-247)+(i+1) by omega]
     ·rw [e,List.length_cons,hln];omega
    ·simp at h
open Go.RowKit
def oK (l:List Nat):List Value:=l.map fun (x:Nat)=>Value.int .u8 x
theorem dA (l:List Nat):(oK l).length=l.length:=by simp [oK]
theorem Q2 (a b:List Nat):oK (a++b)=oK a++oK b:=by simp [oK]
theorem x4w (l:List Nat):∀ u∈oK l,u.oneCell'=true:=fun u hu=>by
 obtain ⟨x,_,rfl⟩:=List.mem_map.1 hu
 rfl
abbrev OB (w:World) (base:Nat) (v:Value) (l:List Nat):Prop:=w.ownsRow base 5 1 v l.length (oK l)
theorem OB.S0 (w:World) (base:Nat):OB w base (.slice none 0 0) []:=World.ownsRow_nil _ _ _ _
theorem fS:(Tryz.prog.info? 5).map (fun i=>(i.zero,i.size,i.bytes))=some (some (.int .u8 0),1,1):=kR
theorem OB.cell {w:World} {base n c:Nat} {A:Option Addr} {l:List Nat} (h:OB w base (.slice A n c) l) {i x:Nat} (hi:l[i]? =some x):∃ b,A=some ⟨b,0,none⟩/\base<=b/\b<w.heap.size/\w.cell? ⟨b,i,none⟩=some (.int .u8 x):=by
 have n8:=(E2 hi).1
 have h0:=h
 rcases h.2 with ⟨hv,h9⟩ | ⟨g,cap,cur,hv,hg,hh,hc,_⟩
 ·omega
 ·injection hv with h1 h2 h3
  subst h1;subst h2;subst h3
  refine ⟨g,rfl,hg,j4 hh,?_⟩
  rw [World.ownsRow.cellAt (show w.ownsRow base _ 1 _ l.length (oK l) from h0) i (by rw [Nat.mul_one];exact n8)]
  unfold oK
  rw [List.getElem?_map,hi]
  rfl
theorem OB.conv {w:World} {base:Nat} {v:Value} {l:List Nat} (h:OB w base v l):(convert 31 9 v).run Tryz.prog w= .ok (.string (bl l)) w:=by
 rcases h.2 with ⟨rfl,h0⟩ | ⟨g,cap,cur,rfl,hg,hh,hc,_⟩
 ·obtain rfl:l=[]:=List.eq_nil_of_length_eq_zero h0
  exact run_convert_bytes_nil (P:=Tryz.prog) w 31 5 Tryz.underlying31 Tryz.underlying5 0 0 9 Tryz.underlying9
 ·refine run_convert_bytes_arg (P:=Tryz.prog) w 31 5 Tryz.underlying31 Tryz.underlying5 g 0 l.length cap (l.map fun (x:Nat)=>(x:Int)) sP (fun i hi=> ?_) 9 Tryz.underlying9
  obtain ⟨b,e,_,_,z8r⟩:=OB.cell h (D9 hi)
  injection e with e
  injection e with e
  subst e
  rw [Nat.zero_add,z8r]
  simp [hi]
def RN (w:World) (B:Nat) (v:Value) (l:List Nat):Prop:=∃ (A:Option Addr) (c:Nat),v= .slice A l.length c/\(0<l.length->∃ b off,A=some ⟨b,off,none⟩/\b<B/\∀ (i x:Nat),l[i]? =some x->w.cell? ⟨b,off+i,none⟩=some (.int .u64 x))
theorem RN.below {w w':World} {B:Nat} {v:Value} {l:List Nat} (h:RN w B v l) (hb:Below B w w'):RN w' B v l:=by
 obtain ⟨A,c,h1,h2⟩:=h
 refine ⟨A,c,h1,fun h0=> ?_⟩
 obtain ⟨b,off,h4,h5,h6⟩:=h2 h0
 exact ⟨b,off,h4,h5,fun i x hi=>D1 hb (h6 i x hi) h5⟩
theorem RN.more {w:World} {B B':Nat} {v:Value} {l:List Nat} (h:RN w B v l) (hB:B<=B'):RN w B' v l:=by
 obtain ⟨A,c,h1,h2⟩:=h
 refine ⟨A,c,h1,fun h0=> ?_⟩
 obtain ⟨b,off,h4,h5,h6⟩:=h2 h0
 exact ⟨b,off,h4,oM,h6⟩
theorem RN.form {w:World} {B:Nat} {v:Value} {l:List Nat} (h:RN w B v l):∃ (A:Option Addr) (c:Nat),v= .slice A l.length c:=by
 obtain ⟨A,c,h1,_⟩:=h
 exact ⟨A,c,h1⟩
theorem RN.at_ {w:World} {B:Nat} {A:Option Addr} {n c:Nat} {l:List Nat} (h:RN w B (.slice A n c) l) {i x:Nat} (hi:l[i]? =some x):∃ b off,A=some ⟨b,off,none⟩/\b<B/\w.cell? ⟨b,off+i,none⟩=some (.int .u64 x):=by
 obtain ⟨A',c',h1,h3⟩:=h
 injection h1 with h1
 have h0:=(E2 hi).1
 obtain ⟨b,off,h4,h5,h6⟩:=h3 oM
 exact ⟨b,off,h1.trans h4,h5,h6 i x hi⟩
def E4 (l:List Nat):List Nat:=l.flatMap r8
theorem z4a {l:List Nat} {i x:Nat} (h:l[i]? =some x):E4 (l.take (i+1))=E4 (l.take i)++r8 x:=by
 unfold E4
 rw [List.take_add_one,h]
 simp
open Go.RowKit
def OM (w:World) (base:Nat) (v:Value) (l:List Nat):Prop :=
 ∃ g cap cur,v= .slice (some ⟨g,0,none⟩) l.length cap/\base<=g/\w.heap[g]? =some (.cells cur 5 (cap,cap+1))/\l.length<=cap/\cap<=maxLen/\cur.size=cap/\cur.toList.take l.length=oK l
def OX (w:World) (base:Nat) (v:Value) (l:List Nat):Prop:=OB w base v l\/OM w base v l
section
variable {w w':World} {base:Nat} {v:Value} {l:List Nat}
theorem OM.later (h:OM w base v l) (hb:Below w.heap.size w w'):OM w' base v l:=by
 obtain ⟨g,cap,cur,h1,h2,h3,h4⟩:=h
 exact ⟨g,cap,cur,h1,h2,(hb.block g (j4 h3)).trans h3,h4⟩
theorem OX.later (h:OX w base v l) (hb:Below w.heap.size w w'):OX w' base v l:=h.imp (fun h=>l5 h hb) (fun h=>h.later hb)
theorem OM.cell (h:OM w base v l) {i x:Nat} (hi:l[i]? =some x):∃ b cap,v= .slice (some ⟨b,0,none⟩) l.length cap/\base<=b/\b<w.heap.size/\w.cell? ⟨b,i,none⟩=some (.int .u8 x)/\w.frozen? ⟨b,i,none⟩=false:=by
 obtain ⟨g,cap,cur,h1,h2,h3,h4,h5,h6,h7⟩:=h
 have n8:=(E2 hi).1
 refine ⟨g,cap,h1,h2,j4 h3,?_,?_⟩
 ·rw [cell_of_row _ _ _ _ _ _ h3]
  have:(cur.toList.take l.length)[i]? =(oK l)[i]? :=by rw [h7]
  rw [List.getElem?_take,if_pos n8] at this
  unfold oK at this
  rw [List.getElem?_map,hi] at this
  simpa using this
 ·simp [World.frozen?,h3]
  omega
theorem OX.cell (h:OX w base v l) {i x:Nat} (hi:l[i]? =some x):∃ b cap,v= .slice (some ⟨b,0,none⟩) l.length cap/\base<=b/\b<w.heap.size/\w.cell? ⟨b,i,none⟩=some (.int .u8 x):=by
 rcases h with h | h
 ·obtain ⟨A,c,hv,_⟩:=A1 h
  subst hv
  obtain ⟨b,rfl,h2,h3,h4⟩:=OB.cell h hi
  exact ⟨b,c,rfl,h2,h3,h4⟩
 ·obtain ⟨b,cap,h1,h2,h3,h4,_⟩:=h.cell hi
  exact ⟨b,cap,h1,h2,h3,h4⟩
theorem OX.form (h:OX w base v l):∃ (A:Option Addr) (c:Nat),v= .slice A l.length c:=by
 rcases h with h | ⟨g,cap,cur,h1,_⟩
 ·obtain ⟨A,c,hv,_⟩:=A1 h
  exact ⟨A,c,hv⟩
 ·exact ⟨_,_,h1⟩
theorem OX.lt (h:OX w base v l):∀ k,v.ownBlock=some k->base<=k/\k<w.heap.size:=fun k hk=>by
 rcases h with h | ⟨g,cap,cur,rfl,h2,h3,_⟩
 ·exact World.ownsRow.lt h k hk
 ·injection hk with hk
  have hk:g=k:=hk
  subst hk
  exact ⟨h2,j4 h3⟩
theorem OX.conv (h:OX w base v l):(convert 31 9 v).run Tryz.prog w= .ok (.string (bl l)) w:=by
 rcases h with h | h
 ·exact OB.conv h
 ·obtain ⟨g,cap,cur,rfl,h2,h3,h4,h5,h6,h7⟩:=h
  refine run_convert_bytes_arg (P:=Tryz.prog) w 31 5 Tryz.underlying31 Tryz.underlying5 g 0 l.length cap (l.map fun (x:Nat)=>(x:Int)) sP (fun i hi=> ?_) 9 Tryz.underlying9
  obtain ⟨b,v7y,e,_,_,hc,_⟩:=OM.cell ⟨g,cap,cur,rfl,h2,h3,h4,h5,h6,h7⟩ (D9 hi)
  injection e with e
  injection e with e
  injection e with e
  subst e
  rw [Nat.zero_add,hc]
  simp [hi]
end
theorem y7o (w:World) (s:ByteArray) (hs:s.size<=maxLen):∃ v w',(convert 9 31 (.string s)).run Tryz.prog w= .ok v w'/\OM w' w.heap.size v (wl s)/\Below w.heap.size w w':=by
 have hr:=run_bytes_of_string (P:=Tryz.prog) w 9 31 5 s Tryz.underlying9 Tryz.underlying31 Tryz.underlying5
 have nL:=grownCap_ge w s.size 0 5
 have F7:(bytesRow s (grownCap w s.size 0 5)).size=grownCap w s.size 0 5:=by
  unfold bytesRow
  rw [Array.size_append,Array.size_map,Array.size_replicate]
  show s.size+_=_
  omega
 rw [F7] at hr
 refine ⟨_,_,hr,⟨w.heap.size,grownCap w s.size 0 5,bytesRow s (grownCap w s.size 0 5),by rw [l9],nR,heap_alloc_new w.drew _,by rw [l9];exact nL,grownCap_le_maxLen _ _ _ _ hs,F7,?_⟩,?_⟩
 ·unfold bytesRow oK wl
  rw [Array.toList_append,Array.toList_map,List.take_append_of_le_length sP,List.take_of_length_le sP,List.map_map]
  rfl
 ·have h1:Below w.heap.size w w.drew:=⟨rfl,rfl,rfl,nR,fun _ _=>rfl⟩
  exact h1.trans ((Below.refl w.heap.size w.drew).alloc (Nat.le_refl w.heap.size) _)
theorem x4v {o:Oper} {a:Act} {w:World} {K:Act->World->Prop} {Q:Exit->Act->World->Prop} (s y:Operand) (ho:o.op= .call { callee:= .builtin .append,args:= #[s,y],argTypes:= #[31,31] })
  (base:Nat) (v:Value) (l:List Nat) (hs:a.eval s=v) (F4:OX w base v l) (b x:Nat) (hx:a.eval y= .slice (some ⟨b,0,none⟩) 1 1) (hc:w.cell? ⟨b,0,none⟩=some (.int .u8 x)) (hn:l.length<=1000000000) (bJ:base<=w.heap.size)
  (h:∀ v' w',OX w' base v' (l++[x])->w.grownBy w' v.ownBlock->K (a.put o.dst v') w'):Oper.wp Tryz.prog o a w K Q:=by
 have y2s:∀ j u,([Value.int .u8 x]:List Value)[j]? =some u->w.cell? ⟨b,j,none⟩=some u:=fun j u hu=>by
  cases j with
  | zero=>injection hu with hu;rw [<- hu];exact hc
  | succ j=>simp at hu
 rcases F4 with F4 | F4
 ·refine J7 s y 31 ho 5 _ 1 1 Tryz.underlying31 fS rfl dC dC base v l.length _ hs F4 b [.int .u8 x] hx rfl y2s (by intro u hu;simp at hu;subst hu;rfl) hn bJ (fun v' w' h1 h2 _=>h v' w' (.inl ?_) h2)
  unfold OB
  rw [Q2,List.length_append]
  exact h1
 ·obtain ⟨g,cap,cur,rfl,h2,h3,h4,h5,h6,h7⟩:=F4
  obtain ⟨i0,hi,gE,fK,U4⟩:=info_parts fS
  have u5i:∀ u∈([Value.int .u8 x]:List Value),u.oneCell'=true:=by intro u hu;simp at hu;subst hu;rfl
  rcases Nat.lt_or_ge l.length cap with n8 | nL
  ·have hr:=run_append_room_cells (P:=Tryz.prog) w 31 o.type 5 i0 Tryz.underlying31 hi g 0 l.length cap ⟨b,0,none⟩ 1 1 [.int .u8 x] (by rw [fK];rfl) (fun j u hu=>by rw [Addr.add_lit,Nat.zero_add];exact y2s j u hu) u5i oM
    (fun j hj=>by
     have:j=0:=by simpa using hj
     subst this
     rw [fK,cell_of_row _ _ _ _ _ _ h3,Array.getElem?_eq_getElem oM]
     rfl)
    (fun j hj=>by
     have:j=0:=by simpa using hj
     subst this
     rw [fK]
     simp [World.frozen?,h3]
     omega)
   rw [fK] at hr
   unfold Oper.wp execOp
   simp only [ho,resolve,invoke,builtin,Sem.run_bind,Sem.run_pure,Result.andThen_ok,List.map_toArray,List.map_cons,List.map_nil,hs,hx,hr]
   have hw:w.setCells g (0+l.length*1) [.int .u8 x]=w.setCell ⟨g,l.length,none⟩ (.int .u8 x):=by rw [Nat.zero_add,Nat.mul_one];rfl
   rw [hw]
   refine h _ _ (.inr ⟨g,cap,cur.setIfInBounds l.length (.int .u8 x),by rw [List.length_append];rfl,h2,?_,by rw [List.length_append];exact n8,h5,by rw [Array.size_setIfInBounds];exact h6,?_⟩) ⟨rfl,rfl,rfl,by simp [World.setCell],fun k hk E6=> ?_⟩
   ·exact j5 h3 _
   ·rw [Array.toList_setIfInBounds,List.length_append,Q2,List.length_cons,List.length_nil,Nat.zero_add]
    rw [List.take_add_one,List.take_set_of_le nR,h7,List.getElem?_set_self (by simp [h6,n8])]
    rfl
   ·exact Below.heap_setCell _ _ _ _ (fun e=>E6 (by rw [e];rfl))
  ·have t1a:l.length=cap:=oM
   obtain ⟨v',w',r1,r2,r3⟩:=run_append_arg_grows (P:=Tryz.prog) w 31 o.type 5 i0 _ 1 1 Tryz.underlying31 hi gE fK U4 rfl dC ⟨g,0,none⟩ l.length cap (oK l) (by rw [dA,Nat.mul_one]) (fun j u hj=>by
     rw [Addr.add_lit,Nat.zero_add,cell_of_row _ _ _ _ _ _ h3]
     have hjl:j<l.length:=by have:=(E2 hj).1;rwa [dA] at this
     rw [<- h7,List.getElem?_take,if_pos hjl] at hj
     simpa using hj) ⟨b,0,none⟩ 1 1 [.int .u8 x] rfl (fun j u hu=>by rw [Addr.add_lit,Nat.zero_add];exact y2s j u hu) oM (by unfold maxLen;omega) oM
   unfold Oper.wp execOp
   simp only [ho,resolve,invoke,builtin,Sem.run_bind,Sem.run_pure,Result.andThen_ok,List.map_toArray,List.map_cons,List.map_nil,hs,hx,r1]
   refine h v' w' (.inl ?_) ⟨r3.os,r3.tape,r3.output,r3.size,fun k hk _=>r3.block k hk sP⟩
   unfold OB
   rw [Q2,List.length_append]
   exact L8 r2 bJ
end Dw
namespace Crc
def y7n:Nat:=0xEDB88320
def L (n:Nat):Nat:=if n%2=1 then (n / 2)^^^y7n else n / 2
def bit (n b:Nat):Nat:=if n%2=b then n / 2 else (n / 2)^^^y7n
def byte (n c:Nat):Nat:=bit (bit (bit (bit (bit (bit (bit (bit n (c%2)) (c / 2%2)) (c / 4%2)) (c / 8%2)) (c / 16%2)) (c / 32%2)) (c / 64%2)) (c / 128%2)
def T (x:Nat):Nat:=L (L (L (L x)))
def nib (n h:Nat):Nat:=(n / 16)^^^T ((n%16)^^^h)
theorem z8q (a b:Nat):(a^^^b)%2=(a%2+b%2)%2:=by
 have h:=Nat.xor_mod_two_pow (a:=a) (b:=b) (n:=1)
 rw [show (2:Nat)^1=2 from rfl] at h
 rw [h]
 rcases Nat.mod_two_eq_zero_or_one a with ha | ha<;>rcases Nat.mod_two_eq_zero_or_one b with hb | hb<;>simp [ha,hb]
theorem y2r (a b:Nat):L (a^^^b)=L a^^^L b:=by
 unfold L
 have h1:=z8q a b
 have h2:(a^^^b) / 2=a / 2^^^b / 2:=Nat.xor_div_two
 rw [h1,h2]
 rcases Nat.mod_two_eq_zero_or_one a with ha | ha<;>rcases Nat.mod_two_eq_zero_or_one b with hb | hb<;>simp [ha,hb]
 ·rw [Nat.xor_assoc]
 ·rw [Nat.xor_assoc,Nat.xor_assoc,Nat.xor_comm y7n]
 ·rw [Nat.xor_assoc, <- Nat.xor_assoc y7n,Nat.xor_comm y7n (b / 2),Nat.xor_assoc,Nat.xor_self,Nat.xor_zero]
theorem lX (n b:Nat) (hb:b<2):bit n b=L (n^^^b):=by
 unfold bit L
 have h2:(n^^^b) / 2=n / 2:=by rw [Nat.xor_div_two,show b / 2=0 by omega,Nat.xor_zero]
 have h1:=z8q n b
 rw [h1,h2]
 rcases Nat.mod_two_eq_zero_or_one n with ha | ha<;>rcases (show b=0\/b=1 by omega) with rfl | rfl<;>simp [ha]
theorem cC (x:Nat):L (2*x)=x:=by unfold L;simp
theorem u5h (x:Nat):L (L (L (L (16*x))))=x:=by
 rw [show 16*x=2*(2*(2*(2*x))) by omega,cC,cC,cC,cC]
theorem y7m (n:Nat):n=(16*(n / 16))^^^(n%16):=by
 refine Nat.eq_of_testBit_eq fun i=> ?_
 rw [Nat.testBit_xor,show (16:Nat)*(n / 16)=2^4*(n / 2^4) from rfl,show n%16=n%2^4 from rfl,Nat.testBit_two_pow_mul,Nat.testBit_div_two_pow,Nat.testBit_mod_two_pow]
 by_cases h:i<4
 ·have h':¬ i ≥ 4:=oM
  simp [h,h']
 ·have h':i ≥ 4:=oM
  simp [h,h',show i-4+4=i by omega]
theorem z8p (n h:Nat) (hh:h<16):bit (bit (bit (bit n (h%2)) (h / 2%2)) (h / 4%2)) (h / 8%2)=nib n h:=by
 have b0:h%2<2:=oM
 have b1:h / 2%2<2:=oM
 have b2:h / 4%2<2:=oM
 have b3:h / 8%2<2:=oM
 rw [lX _ _ b0,lX _ _ b1,lX _ _ b2,lX _ _ b3]
 unfold nib T
 conv=>lhs;rw [y7m n]
 simp only [y2r]
 rw [u5h]
 have hs:∀ h,h<16->L (L (L (L (h%2))))^^^(L (L (L (h / 2%2)))^^^(L (L (h / 4%2))^^^L (h / 8%2)))=L (L (L (L h))):=dC
 have hs':=hs h hh
 rw [<- hs']
 simp only [Nat.xor_assoc]
theorem qJ (n h:Nat) (hn:n<4294967296) (hh:h<16):nib n h<4294967296:=by
 have ht:∀ x,x<16->T x<4294967296:=dC
 have hx:(n%16)^^^h<2^4:=Nat.xor_lt_two_pow oM oM
 exact Nat.xor_lt_two_pow (n:=32) oM (ht _ oM)
theorem z8o (n c:Nat) (hc:c<256):byte n c=nib (nib n (c%16)) (c / 16):=by
 rw [<- z8p _ _ (show c%16<16 by omega), <- z8p _ _ (show c / 16<16 by omega)]
 unfold byte
 rw [show c%16%2=c%2 by omega,show c%16 / 2%2=c / 2%2 by omega,show c%16 / 4%2=c / 4%2 by omega,show c%16 / 8%2=c / 8%2 by omega,
  show c / 16 / 2%2=c / 32%2 by omega,show c / 16 / 4%2=c / 64%2 by omega,show c / 16 / 8%2=c / 128%2 by omega]
theorem oL (n c:Nat) (hn:n<4294967296) (hc:c<256):byte n c<4294967296:=by
 rw [z8o n c hc]
 exact qJ _ _ (qJ _ _ hn oM) oM
def run (n:Nat) (l:List Nat):Nat:=l.foldl byte n
theorem w5y (l:List Nat):(∀ x∈l,x<256)->∀ n,n<4294967296->run n l<4294967296:=by
 induction l with
 | nil=>exact fun _ n h=>h
 | cons c l ih=>exact fun hs n h=>ih (fun x hx=>hs x (List.mem_cons_of_mem _ hx)) _ (oL _ _ h (hs c (List.mem_cons_self ..)))
def sum (l:List Nat):Nat:=4294967295-run 4294967295 l
theorem y2q (l:List Nat):sum l<4294967296:=by unfold sum;omega
def four (n:Nat):List Nat:=[n%256,n / 256%256,n / 65536%256,n / 16777216%256]
def D2 (l:List Nat):List Nat:=l++four (sum l)
def opened (l:List Nat):Option (List Nat):=if 4<=l.length/\D2 (l.take (l.length-4))=l then some (l.take (l.length-4)) else none
theorem R6 (l:List Nat):(D2 l).length=l.length+4:=by simp [D2,four]
theorem z8n (l:List Nat):opened (D2 l)=some l:=by
 unfold opened
 have h:(D2 l).take ((D2 l).length-4)=l:=by rw [R6];simp [D2]
 rw [h,if_pos ⟨by rw [R6];omega,rfl⟩]
theorem lY {l b:List Nat} (h:opened l=some b):l=D2 b:=by
 unfold opened at h
 split at h
 ·rename_i hc
  injection h with h
  rw [<- h];exact hc.2.symm
 ·cases h
end Crc
open Go.RowKit
namespace Dw
def lcs (l:List Nat) (k:Nat):List Value:=l.map (fun (x:Nat)=>Value.int .u8 x)++[.int .i64 k]
def iK (n:Nat):List Nat:=r8 n++List.replicate (9-(r8 n).length) 0
theorem bL {n:Nat} (h:n<y5):(iK n).length=9:=by
 have:=K4 h
 unfold iK
 rw [List.length_append,List.length_replicate]
 omega
theorem Y3 {l:List Nat} {k:Nat} (h:l.length=9):(lcs l k).toArray.size=10:=by
 rw [List.size_toArray]
 unfold lcs
 rw [List.length_append,List.length_map,h]
 rfl
theorem yA (l:List Nat) (k:Nat):(lcs l k).toArray.all (·.oneCell')=true:=by
 rw [Array.all_eq_true_iff_forall_mem]
 intro v hv
 have hv:v∈lcs l k:=by simpa using hv
 rcases List.mem_append.1 hv with hv | hv
 ·obtain ⟨x,_,rfl⟩:=List.mem_map.1 hv
  rfl
 ·simp at hv;subst hv;rfl
theorem yB {w:World} {g i k x:Nat} {l:List Nat} {t:TypeId} (h:w.heap[g]? =some (.cells (lcs l k).toArray t (0,0))) (hi:l[i]? =some x):w.cell? ⟨g,i,none⟩=some (.int .u8 x):=by
 have hl:=(E2 hi).1
 rw [cell_of_row _ _ i _ t (0,0) h]
 unfold lcs
 simp only [List.getElem?_toArray]
 rw [List.getElem?_append_left (by simpa using hl),List.getElem?_map,hi]
 rfl
theorem qK {w:World} {g k:Nat} {l:List Nat} {t:TypeId} (h:w.heap[g]? =some (.cells (lcs l k).toArray t (0,0))) (hl:l.length=9):w.cell? ⟨g,9,none⟩=some (.int .i64 k):=by
 rw [cell_of_row _ _ 9 _ t (0,0) h]
 unfold lcs
 simp only [List.getElem?_toArray]
 rw [List.getElem?_append_right (by simp [hl])]
 simp [hl]
theorem z0d {l:List Nat} {k i x:Nat} (hi:i<l.length):(lcs l k).toArray.setIfInBounds i (.int .u8 (x:Int))=(lcs (l.set i x) k).toArray:=by
 unfold lcs
 rw [List.setIfInBounds_toArray,List.set_append_left _ _ (by simpa using hi),List.map_set]
theorem z8m {l:List Nat} {k j:Nat} (hl:l.length=9):(lcs l k).toArray.setIfInBounds 9 (.int .i64 (j:Int))=(lcs l j).toArray:=by
 unfold lcs
 rw [List.setIfInBounds_toArray,List.set_append_right _ _ (by simp [hl])]
 simp [hl]
theorem x4u {n:Nat} (h:n<248):lcs (iK n) (r8 n).length=[.int .u8 n,.int .u8 0,.int .u8 0,.int .u8 0,.int .u8 0,.int .u8 0,.int .u8 0,.int .u8 0,.int .u8 0,.int .i64 1]:=by
 have e:r8 n=[n]:=by unfold r8;rw [if_pos h]
 unfold iK
 rw [e]
 rfl
theorem y2p {n m i:Nat} (h:i<m) (hm:m<=8):((247+m)::(leB i n++List.replicate (8-i) 0))[1+i]? =some 0:=by
 rw [Nat.add_comm 1 i,List.getElem?_cons_succ,List.getElem?_append_right (by rw [H8];omega),H8,Nat.sub_self,List.getElem?_replicate,if_pos (by omega)]
theorem y2o {n m i:Nat} (h:i<m) (hm:m<=8):((247+m)::(leB i n++List.replicate (8-i) 0)).set (1+i) (n / 256^i%256)=(247+m)::(leB (i+1) n++List.replicate (8-(i+1)) 0):=by
 rw [Nat.add_comm 1 i,List.set_cons_succ,List.set_append_right _ _ (by rw [H8];omega),H8,Nat.sub_self,z8u,List.append_assoc,show 8-i=(8-(i+1))+1 by omega,List.replicate_succ]
 rfl
theorem y2n {n i:Nat} (h:Y2 n=i) (hn:248<=n):lcs ((247+i)::(leB i n++List.replicate (8-i) 0)) (1+i)=lcs (iK n) (r8 n).length:=by
 have e:r8 n=(247+i)::leB i n:=by unfold r8;rw [if_neg (by omega),h]
 unfold iK
 rw [e,List.length_cons,H8,show 9-(i+1)=8-i by omega,Nat.add_comm 1 i]
 rfl
theorem z0c {n i:Nat}:(n:Int) / 2^(8*(i:Int)).toNat=((n / 256^i:Nat):Int):=by
 rw [show (8*(i:Int)).toNat=8*i by omega,show (2:Int)^(8*i)=((256^i:Nat):Int) by rw [qG];norm_cast]
 rfl
theorem y2m {n:Nat}:IntKind.u8.wrap (n:Int)=((n%256:Nat):Int):=by rw [IntKind.wrap_u8];omega
theorem x4t {n m:Nat} (h:(Lib.bitLen n+7) / 8=m):((Lib.bitLen n:Int)+8-1).tdiv 8=(m:Int):=by
 rw [Int.tdiv_eq_ediv_of_nonneg oM]
 omega
theorem y7l (w:World) (n:Nat) (hn:n<248):G4 w 101 #[.int .u64 n] (.agg (lcs (iK n) (r8 n).length).toArray):=by
 refine S8 41 Tryz.func101 fun fr hf s0=> ?_
 have q0:decide ((n:Int)<248)=true:=decide_eq_true oM
 refine Ze fun _ b7=>Zr [] hf ?_
 refine C1 0 2 hf ?_
 clear hf s0;intro a7 hf sS
 generalize p8:w.alloc (.cells #[.int .u8 0,.int .u8 0,.int .u8 0,.int .u8 0,.int .u8 0,.int .u8 0,.int .u8 0,.int .u8 0,.int .u8 0,.int .i64 0] 184)=W0
 have oN:W0.heap[w.heap.size]? =some (.cells (lcs (List.replicate 9 0) 0).toArray 184 (0,0)):=by rw [<- p8,u6,if_pos rfl];rfl
 have p9:Below w.heap.size w W0:=by rw [<- p8];exact (Below.refl _ _).alloc nR _
 clear p8
 refine Zs b7 fun _ b7=>Ze fun _ j8=>Zr [5] hf ?_
 refine B1 0 2 6 hf ?_
 clear hf sS;intro a7 hf sS
 refine Zx j8 (Fc.l8 sS.2.2 ?_)
 clear q0
 have f0:=j3 (i:=0) oN;have f9:=j3 (i:=9) oN
 have z0:=yB (i:=0) (x:=0) oN sP
 have z9:=qK oN sP
 refine Ze fun _ j8=>rg ?_
 have bB:=hf.B5 7 8 9 10 11
 refine Zy ?_
 refine fp fun K Z=> ?_
 go_simp
 rw [Fc.wrap_u8 oM oM]
 apply Z.out;clear Z K
 iterate 5 refine Zy ?_
 refine Fc.nil (r6 2 hf ?_)
 clear hf sS bB;intro a7 hf s2
 have kC:=j5 (i:=9) (j5 (i:=0) oN (.int .u8 n)) (.int .i64 1)
 have n7:=(p9.setCell (p:=⟨w.heap.size,0,none⟩) nR (.int .u8 n)).setCell (p:=⟨w.heap.size,9,none⟩) nR (.int .i64 1)
 rw [show ((lcs (List.replicate 9 0) 0).toArray.setIfInBounds 0 (.int .u8 n)).setIfInBounds 9 (.int .i64 1)=(lcs (iK n) (r8 n).length).toArray by rw [x4u hn];rfl] at kC
 obtain ⟨W1,Z4⟩:∃ x,(W0.setCell ⟨w.heap.size,0,none⟩ (.int .u8 n)).setCell ⟨w.heap.size,9,none⟩ (.int .i64 1)=x:=⟨_,rfl⟩
 rw [Z4] at kC n7
 rw [Z4]
 have hnl:=bL (n:=n) (by unfold y5;omega)
 clear Z4 z0 z9 f0 f9 oN p9
 refine Zt j8 fun _ j8=> ?_
 have bB:=hf.b 12
 refine ⟨?_⟩
 refine wpList_load_row rfl 184 _ rfl w.heap.size (Fc.k7 s2) 184 _ (0,0) _ kC Tryz.underlying184 rfl (by rw [Y3 hnl];kernel_rfl) ?_
 refine Fc.L.out ?_
 clear bB
 refine Fc.lQ (n:=41) (by simp only [Fc.G,hf.size]) hf.defers (fun a7 u3 hT=> ?_)
 have G9:=Fc.h2 hT 2 12
 simp (decide:=true) only [Fc.G,hf.size,reduceIte,s2] at G9
 replace hf:=u3;clear hT u3 s2
 obtain ⟨s2,aZ⟩:=G9
 refine ⟨?_⟩
 refine wpList_plain rfl fun KL tY=> ?_
 refine wp_store_row 184 _ _ rfl w.heap.size _ (Fc.k7 s2) (Fc.k7 aZ) 184 _ kC (by rw [Y3 hnl];kernel_rfl) rfl (yA _ _) (tY _ _ ?_)
 refine Fc.L.out ?_
 refine Fc.nil (r6 2 hf ?_)
 clear hf s2 aZ;intro a7 hf s2
 rw [setRow_self _ _ _ 184 (0,0) kC]
 refine Zx j8 (k8 ?_)
 refine N9 rfl hf s2 kC Tryz.underlying184 rfl (by rw [Y3 hnl];kernel_rfl) ⟨?_,n7⟩
 rfl
theorem x4s (w:World) (n:Nat) (hn:248<=n) (qL:n<y5):G4 w 101 #[.int .u64 n] (.agg (lcs (iK n) (r8 n).length).toArray):=by
 refine S8 41 Tryz.func101 fun fr hf s0=> ?_
 have q0:decide ((n:Int)<248)=false:=decide_eq_false oM
 refine Ze fun _ b7=>Zr [] hf ?_
 refine C1 0 2 hf ?_
 clear hf s0;intro a7 hf sS
 generalize p8:w.alloc (.cells #[.int .u8 0,.int .u8 0,.int .u8 0,.int .u8 0,.int .u8 0,.int .u8 0,.int .u8 0,.int .u8 0,.int .u8 0,.int .i64 0] 184)=W0
 have oN:W0.heap[w.heap.size]? =some (.cells (lcs (List.replicate 9 0) 0).toArray 184 (0,0)):=by rw [<- p8,u6,if_pos rfl];rfl
 have p9:Below w.heap.size w W0:=by rw [<- p8];exact (Below.refl _ _).alloc nR _
 clear p8
 refine Zs b7 fun _ b7=>Ze fun _ j8=>Zr [5] hf ?_
 refine B1 0 2 6 hf ?_
 clear hf sS;intro a7 hf sS
 refine Zx j8 (Fc.k9 sS.2.2 ?_)
 clear q0
 obtain ⟨hm1,hm8, -, -⟩:=bK (show 0<n by omega) qL
 obtain ⟨m,hm⟩:∃ m,Y2 n=m:=⟨_,rfl⟩
 rw [hm] at hm1 hm8
 have nS:(Lib.bitLen n+7) / 8=m:=hm
 have HM:=H9 hm;clear hm
 have f0:=j3 (i:=0) oN
 have z0:=yB (i:=0) (x:=0) oN sP
 refine wp_skip (Zt b7 fun _ b7=> ?_)
 have bB:=hf.B5 13 14 15 16 17
 refine Zy ?_
 refine Zc (Tryz.bits_Len64 (n:Int) W0 oM (by unfold y5 at qL;omega)) ?_;rintro e w1 ⟨rfl,hww⟩
 subst w1
 rw [Int.toNat_natCast]
 refine Zv ?_
 iterate 2 refine Zy ?_
 refine fp fun K Z=> ?_
 go_simp
 rw [x4t nS,Fc.wrap_i64 oM oM]
 clear nS
 apply Z.out;clear Z K
 refine Zy ?_
 refine Fc.nil (B1 0 2 3 hf ?_)
 clear hf sS bB;intro a7 hf sS
 refine Zt b7 fun _ b7=> ?_
 have bB:=hf.B5 18 19 20 21 22
 refine Zy ?_
 refine fp fun K Z=> ?_
 go_simp
 try simp (disch:=omega) only [Fc.W]
 rw [show (247:Int)+(m:Int)=((247+m:Nat):Int) by omega]
 apply Z.out;clear Z K
 refine fp fun K Z=> ?_
 go_simp
 rw [Fc.wrap_u8 oM oM]
 apply Z.out;clear Z K
 iterate 3 refine Zy ?_
 refine Fc.nil (B1 0 2 3 hf ?_)
 clear hf sS bB;intro a7 hf sS
 rw [show (247:Int)+(m:Int)=((247+m:Nat):Int) by omega]
 have kC:=j5 (i:=0) oN (.int .u8 ((247+m:Nat):Int))
 have n7:=p9.setCell (p:=⟨w.heap.size,0,none⟩) nR (.int .u8 ((247+m:Nat):Int))
 rw [z0d sP] at kC
 obtain ⟨W1,Z4⟩:∃ x,W0.setCell ⟨w.heap.size,0,none⟩ (.int .u8 ((247+m:Nat):Int))=x:=⟨_,rfl⟩
 rw [Z4] at kC n7
 try rw [Z4]
 replace kC:W1.heap[w.heap.size]? =some (.cells (lcs ((247+m)::(leB 0 n++List.replicate (8-0) 0)) 0).toArray 184 (0,0)):=kC
 clear Z4 z0 f0 oN p9
 refine Zs b7 fun _ b7=>Ze fun _ j8=>Zr [] hf ?_
 refine D0 0 2 3 23 24 hf ?_
 clear hf sS;intro a7 hf sS
 refine Zx j8 (wp_block (wp_loop_ghost (fun gk fr wr=>∃ (i:Nat),gk=m-i/\i<=m/\Fc.Fr 41 fr/\fr.tmps[0]? =some (.int .u64 n)/\fr.tmps[2]? =some (.pointer (some ⟨w.heap.size,0,none⟩))/\fr.tmps[3]? =some (.int .i64 m)/\fr.tmps[23]? =some (.int .i64 m)/\fr.tmps[24]? =some (.int .i64 i)/\wr.heap[w.heap.size]? =some (.cells (lcs ((247+m)::(leB i n++List.replicate (8-i) 0)) 0).toArray 184 (0,0))/\Below w.heap.size w wr) (m) ?_ ?_))
 . (
 obtain ⟨s0,s2,s3,S1,gF⟩:=sS
 exact ⟨0,rfl,Nat.zero_le _,hf,s0,s2,s3,S1,gF,kC,n7⟩)
 . (
 clear hf sS
 clear kC n7
 rintro gk fr wr ⟨i,hk,hi,hf,s0,s2,s3,S1,gF,hx,hb⟩
 have HK:=H9 hk;clear hk
 refine Ze fun _ j8=>Zr [] hf ?_
 refine J3 0 2 3 23 24 25 hf ?_
 clear hf s0 s2 s3 S1 gF;intro a7 hf sS
 refine Zs j8 fun _ j8=>Fc.l0 sS.2.2.2.2.2 (fun hq=> ?_) (fun hq=> ?_)
 . (
 have n8:i<m:=qT
 clear hq
 have f1:=j3 (i:=1+i) hx
 have z1:=yB (i:=1+i) (x:=0) hx (y2p n8 hm8)
 obtain ⟨d,hd⟩:∃ d,n / 256^i=d:=⟨_,rfl⟩
 obtain ⟨x8,yC⟩:∃ x8,d%256=x8:=⟨_,rfl⟩
 have HD:=H9 hd;have HX8:=H9 yC;clear hd yC
 refine wp_skip (Zs j8 fun _ j8=>wp_block (Ze fun _ l6=>Zr [26] hf ?_))
 refine J3 0 2 3 4 23 24 hf ?_
 clear hf sS;intro a7 hf sS
 refine Zx l6 (rg ?_)
 have bB:=hf.B9 27 28 29 30 31 32 33 34 35
 refine Zy ?_
 refine fp fun K Z=> ?_
 go_simp
 try simp (disch:=omega) only [Fc.W]
 rw [show (1:Int)+(i:Int)=((1+i:Nat):Int) by omega]
 apply Z.out;clear Z K
 iterate 3 refine Zy ?_
 refine fp fun K Z=> ?_
 go_simp
 rw [z0c,HD.out]
 apply Z.out;clear Z K
 refine fp fun K Z=> ?_
 go_simp
 rw [y2m,HX8.out]
 apply Z.out;clear Z K
 refine Zy ?_
 refine fp fun K Z=> ?_
 go_simp
 try rw [if_pos (by omega)]
 rw [show ((1:Int)+(i:Int)).toNat=1+i by omega]
 apply Z.out;clear Z K
 refine Zy ?_
 refine Fc.nil (D0 0 2 3 23 24 hf ?_)
 clear hf sS bB;intro a7 hf sS
 try rw [show (1:Int)+(i:Int)=((1+i:Nat):Int) by omega]
 have fT:=j5 (i:=1+i) hx (.int .u8 (x8:Int))
 have r9:=hb.setCell (p:=⟨w.heap.size,1+i,none⟩) nR (.int .u8 (x8:Int))
 rw [z0d (by simp [H8];omega)] at fT
 have y8:=y2o (n:=n) n8 hm8
 rw [HD.out,HX8.out] at y8
 rw [y8] at fT
 obtain ⟨W2,U1⟩:∃ x,wr.setCell ⟨w.heap.size,1+i,none⟩ (.int .u8 (x8:Int))=x:=⟨_,rfl⟩
 rw [U1] at fT r9
 try rw [U1]
 clear U1 y8 z1 f1 hx hb
 refine Fc.j7 (Zx j8 (Zr [36] hf ?_))
 refine D0 0 2 3 23 24 hf ?_
 clear hf sS;intro a7 hf sS
 refine Fc.j6 ?_
 obtain ⟨s0,s2,s3,S1,gF⟩:=sS
 exact ⟨_,by have:=HK.out;omega,i+1,rfl,oM,hf,s0,s2,s3,S1,by rw [gF];rfl,fT,r9⟩)
 . (
 have F3:i=m:=qF
 subst F3
 clear hq
 have hl9:((247+i)::(leB i n++List.replicate (8-i) 0)).length=9:=by simp [H8];omega
 have z9:=qK hx hl9
 have f9:=j3 (i:=9) hx
 refine Zo ?_
 refine Zt b7 fun _ b7=> ?_
 have bB:=hf.B3 37 38 39
 refine Zy ?_
 refine fp fun K Z=> ?_
 go_simp
 try simp (disch:=omega) only [Fc.W]
 rw [show (1:Int)+(i:Int)=((1+i:Nat):Int) by omega]
 apply Z.out;clear Z K
 iterate 2 refine Zy ?_
 refine Fc.nil (r6 2 hf ?_)
 clear hf sS bB;intro a7 hf s2
 try rw [show (1:Int)+(i:Int)=((1+i:Nat):Int) by omega]
 have fT:=j5 (i:=9) hx (.int .i64 ((1+i:Nat):Int))
 have r9:=hb.setCell (p:=⟨w.heap.size,9,none⟩) nR (.int .i64 ((1+i:Nat):Int))
 rw [z8m hl9] at fT
 rw [y2n HM.out hn] at fT
 obtain ⟨W2,U1⟩:∃ x,wr.setCell ⟨w.heap.size,9,none⟩ (.int .i64 ((1+i:Nat):Int))=x:=⟨_,rfl⟩
 rw [U1] at fT r9
 try rw [U1]
 have hnl:=bL (n:=n) qL
 clear U1 z9 f9 hx hb
 refine Zt b7 fun _ b7=> ?_
 have bB:=hf.b 40
 refine ⟨?_⟩
 refine wpList_load_row rfl 184 _ rfl w.heap.size (Fc.k7 s2) 184 _ (0,0) _ fT Tryz.underlying184 rfl (by rw [Y3 hnl];kernel_rfl) ?_
 refine Fc.L.out ?_
 clear bB
 refine Fc.lQ (n:=41) (by simp only [Fc.G,hf.size]) hf.defers (fun a7 u3 hT=> ?_)
 have G9:=Fc.h2 hT 2 40
 simp (decide:=true) only [Fc.G,hf.size,reduceIte,s2] at G9
 replace hf:=u3;clear hT u3 s2
 obtain ⟨s2,kM⟩:=G9
 refine ⟨?_⟩
 refine wpList_plain rfl fun KL tY=> ?_
 refine wp_store_row 184 _ _ rfl w.heap.size _ (Fc.k7 s2) (Fc.k7 kM) 184 _ fT (by rw [Y3 hnl];kernel_rfl) rfl (yA _ _) (tY _ _ ?_)
 refine Fc.L.out ?_
 refine Fc.nil (r6 2 hf ?_)
 clear hf s2 kM;intro a7 hf s2
 rw [setRow_self _ _ _ 184 (0,0) fT]
 refine Zx b7 (k8 ?_)
 refine N9 rfl hf s2 fT Tryz.underlying184 rfl (by rw [Y3 hnl];kernel_rfl) ⟨?_,r9⟩
 rfl))
end Dw
end Go.Proofs.YtcddnmhmcieebaaGreatDoor
