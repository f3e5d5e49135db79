/- Dawg: the least of a state, what it is pushed by. -/
import Derived.Test.YtcddnmhmcieebaaGreatDoorY1
import Derived.WalkSmall
import Derived.Test.YtcddnmhmcieebaaGreatDoorTools
import Derived.Test.YtcddnmhmcieebaaGreatDoorY3
import Derived.Test.YtcddnmhmcieebaaGreatDoorDLawP
namespace Go.Proofs.YtcddnmhmcieebaaGreatDoor
set_option maxHeartbeats 4000000
set_option maxRecDepth 100000
open Go.RowKit
set_option linter.unusedSimpArgs false
set_option linter.unusedVariables false
set_option linter.unnecessarySimpa false
namespace Dw
def jY (s:State) (i:Nat):State:=⟨s.final,s.out,s.a6.take i⟩
theorem z1u (s:State):leastOf (jY s 0)=s.out:=by
 unfold leastOf jY
 cases s.final<;>simp
theorem y4x (s:State):leastOf (jY s s.a6.length)=leastOf s:=by
 unfold jY
 rw [List.take_length]
theorem z1t {s:State} {i:Nat} {a:r7} (h:s.a6[i]? =some a):leastOf (jY s (i+1))=if (!(s.final||decide (0<i))||decide (a.out<leastOf (jY s i)))=true then a.out else leastOf (jY s i):=by
 have n8:=(E2 h).1
 have ht:s.a6.take (i+1)=s.a6.take i++[a]:=by rw [List.take_add_one,h];rfl
 have fold:∀ (x:Nat) (l:List Nat),(l++[a.out]).foldl min x=if a.out<l.foldl min x then a.out else l.foldl min x:=fun x l=>by
  rw [List.foldl_append]
  simp only [List.foldl_cons,List.foldl_nil]
  by_cases bW:a.out<l.foldl min x
  ·rw [if_pos bW,Nat.min_eq_right oM]
  ·rw [if_neg bW,Nat.min_eq_left oM]
 unfold leastOf jY
 simp only [ht,List.map_append,List.map_cons,List.map_nil]
 cases hf:s.final with
 | true =>
  simp only [if_true,List.singleton_append,List.cons_append,Bool.true_or,Bool.not_true,Bool.false_or,decide_eq_true_eq]
  exact fold _ _
 | false =>
  simp only [Bool.false_eq_true,if_false,List.nil_append,Bool.false_or]
  cases i with
  | zero=>simp
  | succ i =>
   obtain ⟨y,l,hl⟩:∃ y l,(s.a6.take (i+1)).map r7.out=y::l:=by
    cases hl:(s.a6.take (i+1)).map r7.out with
    | nil=>have:=congrArg List.length hl;simp only [List.length_map,List.length_take,List.length_nil] at this;omega
    | cons y l=>exact ⟨y,l,rfl⟩
   rw [hl]
   simp only [List.cons_append,Nat.zero_lt_succ,decide_true,Bool.not_true,Bool.false_or,decide_eq_true_eq]
   exact fold _ _
theorem dN (w:World) (g o:Nat) (s:State) (B:Nat->Prop) (av:Value) (hs:SAt w B g o av s) (iT:J8 s):G4 w 90 #[.pointer (some ⟨g,o,none⟩)] (.int .u64 (leastOf s)):=by
 refine S8 39 Tryz.func90 fun fr hf s0=> ?_
 have c1:=hs.c1
 have c2:=hs.c2
 have c0:=hs.c0
 have ha:=hs.a6
 obtain ⟨A,cc,rfl,Z3⟩:=ha.form
 have hlen:=iT.2.1
 have hoo:=iT.2.2
 clear hs
 refine Ze fun _ b7=>Zr [] hf ?_
 refine r6 0 hf ?_
 clear hf s0;intro a7 hf s0
 refine Zs b7 fun _ b7=>Sb.tb 39 fun a8=> ?_
 have lf:=H9 fun (w9:World) (h9:Below _ _ w9)=>ad (cL h9 c0) (ad (cL h9 c1) (ad (cL h9 c2) (ha.later h9)))
 refine Sb.mO 0 s0 hf a8 ?_
 refine Sb.T 1 hf a8 ?_
 refine Sb.T 2 hf a8 ?_
 refine Sb.T 3 hf a8 ?_
 refine Sb.T 4 hf a8 ?_ (hF:=fun _ _ h d=>lf.out _ h.ext)
 refine Sb.mO 5 s0 hf a8 ?_
 refine Sb.T 6 hf a8 ?_
 refine Sb.T 7 hf a8 ?_
 refine Sb.T 8 hf a8 ?_
 refine Sb.T 9 hf a8 ?_ (hF:=fun _ _ h d=>lf.out _ h.ext)
 refine Sb.mN 10 4 5 hf a8 [] ?_
 refine Sb.mN 11 9 1 hf a8 [] ?_
 refine Sb.E hf a8 (fun _ _ h g=>ad (Sb.O h s0) (ad (Sb.f 10 1 g) (Sb.f 11 0 g))) ?_
 clear hf a8 s0;intro a7 w1 hf hx sS
 have L7:=lf.out _ hx;try clear c0 c1 c2 ha;clear lf;obtain ⟨c0,c1,c2,ha⟩:=L7
 refine Zs b7 fun _ b7=>Ze fun _ j8=>Zr [17,18,19,20,21] hf ?_
 refine D0 3 4 21 22 23 hf ?_
 clear hf sS;intro a7 hf sS
 refine Zx j8 (wp_block ?_)
 clear c1 c2
 refine wp_loop_ghost (fun gk fr wr=>∃ (i:Nat),gk=s.a6.length-i/\i<=s.a6.length/\Fc.Fr 39 fr/\fr.tmps[3]? =some (.int .u64 (leastOf (jY s i)))/\fr.tmps[4]? =some (.bool (s.final||decide (0<i)))/\fr.tmps[21]? =some (.slice A s.a6.length cc)/\fr.tmps[22]? =some (.int .i64 s.a6.length)/\fr.tmps[23]? =some (.int .i64 i)/\Below w1.heap.size w1 wr) (s.a6.length) ?_ ?_
 . (
 obtain ⟨s3,s4,N6,U9,S1⟩:=sS
 exact ⟨0,rfl,Nat.zero_le _,hf,by rw [s3,z1u],by rw [s4];simp,N6,U9,S1,Below.refl _ _⟩)
 . (
 clear hf sS
 rintro gk fr wr ⟨i,hk,hi,hf,s3,s4,N6,U9,S1,hb⟩
 have HK:=H9 hk;clear hk
 refine Ze fun _ j8=>Zr [] hf ?_
 refine J3 3 4 21 22 23 24 hf ?_
 clear hf s3 s4 N6 U9 S1;intro a7 hf sS
 refine Zs j8 fun _ j8=>Fc.l0 sS.2.2.2.2.2 (fun hq=> ?_) (fun hq=> ?_)
 . (
 have n8:i<s.a6.length:=qT
 obtain ⟨a,aN⟩:∃ a,s.a6[i]? =some a:=⟨_,D9 n8⟩
 obtain ⟨b,off,rfl,aF,d0,d1,d2⟩:=(ha.later hb).at' aN
 have y8:=z1t aN
 have HS:=H9 y8
 have HA:=H9 aN
 clear y8 aN
 refine wp_skip (Zs j8 fun _ j8=>wp_block (Ze fun _ l6=>Zr [25,26,6] hf ?_))
 refine J3 3 4 6 21 22 23 hf ?_
 clear hf sS;intro a7 hf sS
 clear d0 d1 d2 aF
 generalize p8:wr.alloc (.cells #[.int .u8 a.byte,.int .u64 a.out,.int .i64 a.to] 71)=W0
 obtain ⟨r9, -,x1, -, -, -⟩:=G1 p8
 clear p8
 refine Zx l6 ?_
 rcases hany:(s.final||decide (0<i)) with _ | _
 . (
 obtain ⟨s3,s4,s6,N6,U9,S1⟩:=sS
 try rw [hany] at s4
 refine Ze fun _ l6=>rg ?_
 have bB:=hf.B7 27 28 29 30 31 32 33
 iterate 3 refine Zy ?_
 refine Zk ?_ (hv:=by simp (decide:=true) only [Fc.G,reduceIte,hf.size,Fc.N,hany,Fc.N])
 refine Zk ?_ (hv:=by simp (decide:=true) only [Fc.G,reduceIte,hf.size,Fc.N,hany,Fc.N])
 refine Zk ?_ (hv:=by simp (decide:=true) only [Fc.G,reduceIte,hf.size,Fc.N,hany,Fc.N])
 refine Zk ?_ (hv:=by simp (decide:=true) only [Fc.G,reduceIte,hf.size,Fc.N,hany,Fc.N])
 refine Zy ?_
 refine Fc.nil (cP 3 4 6 21 22 23 34 hf ?_)
 clear hf s3 s4 s6 N6 U9 S1 bB;intro a7 hf sS
 refine Zx l6 (Fc.l0 sS.2.2.2.2.2.2 (fun H7=> ?_) (fun H7=> ?_))
 . (
 have uN:=HS.out
 rw [hany] at uN
 try simp only [Bool.not_true,Bool.not_false,Bool.false_or,Bool.true_or,if_true] at uN
 have HS2:=H9 uN
 clear uN
 refine Zr [35,36] hf ?_
 refine D0 3 4 21 22 23 hf ?_
 clear hf sS;intro a7 hf sS
 refine Fc.j7 (Zx j8 (Zr [37] hf ?_))
 refine D0 3 4 21 22 23 hf ?_
 clear hf sS;intro a7 hf sS
 refine Fc.j6 ?_
 obtain ⟨s3,s4,N6,U9,S1⟩:=sS
 exact ⟨_,by have:=HK.out;omega,i+1,rfl,oM,hf,by rw [s3,HS2.out],by rw [s4];simp,N6,U9,by rw [S1];rfl,hb.trans (r9.mono hb.size)⟩)
 . (
 have uN:=HS.out
 rw [hany] at uN
 try simp only [Bool.not_true,Bool.not_false,Bool.false_or,Bool.true_or,if_true] at uN
 simp at H7))
 . (
 obtain ⟨s3,s4,s6,N6,U9,S1⟩:=sS
 try rw [hany] at s4
 refine Ze fun _ l6=>rg ?_
 have bB:=hf.B7 27 28 29 30 31 32 33
 iterate 3 refine Zy ?_
 refine Zg ?_ (hv:=by simp (decide:=true) only [Fc.G,reduceIte,hf.size,hany,Fc.N])
 refine Zg ?_ (hv:=by simp (decide:=true) only [Fc.G,reduceIte,hf.size,hany,Fc.N])
 refine Zg ?_ (hv:=by simp (decide:=true) only [Fc.G,reduceIte,hf.size,hany,Fc.N])
 refine Zg ?_ (hv:=by simp (decide:=true) only [Fc.G,reduceIte,hf.size,hany,Fc.N])
 refine Zy ?_
 refine Fc.nil (cP 3 4 6 21 22 23 34 hf ?_)
 clear hf s3 s4 s6 N6 U9 S1 bB;intro a7 hf sS
 refine Zx l6 (Fc.l0 sS.2.2.2.2.2.2 (fun H7=> ?_) (fun H7=> ?_))
 . (
 have uN:=HS.out
 rw [hany] at uN
 try simp only [Bool.not_true,Bool.not_false,Bool.false_or,Bool.true_or,if_true] at uN
 rw [H7] at uN
 try simp only [Bool.false_eq_true,if_false,if_true] at uN
 have HS2:=H9 uN
 clear uN
 refine Zr [35,36] hf ?_
 refine D0 3 4 21 22 23 hf ?_
 clear hf sS;intro a7 hf sS
 refine Fc.j7 (Zx j8 (Zr [37] hf ?_))
 refine D0 3 4 21 22 23 hf ?_
 clear hf sS;intro a7 hf sS
 refine Fc.j6 ?_
 obtain ⟨s3,s4,N6,U9,S1⟩:=sS
 exact ⟨_,by have:=HK.out;omega,i+1,rfl,oM,hf,by rw [s3,HS2.out],by rw [s4];simp,N6,U9,by rw [S1];rfl,hb.trans (r9.mono hb.size)⟩)
 . (
 have uN:=HS.out
 rw [hany] at uN
 try simp only [Bool.not_true,Bool.not_false,Bool.false_or,Bool.true_or,if_true] at uN
 rw [H7] at uN
 try simp only [Bool.false_eq_true,if_false,if_true] at uN
 have HS2:=H9 uN
 clear uN
 refine wp_skip (Fc.j7 (Zx j8 (Zr [37] hf ?_)))
 refine D0 3 4 21 22 23 hf ?_
 clear hf sS;intro a7 hf sS
 refine Fc.j6 ?_
 obtain ⟨s3,s4,N6,U9,S1⟩:=sS
 exact ⟨_,by have:=HK.out;omega,i+1,rfl,oM,hf,by rw [s3,HS2.out],by rw [s4];simp,N6,U9,by rw [S1];rfl,hb.trans (r9.mono hb.size)⟩)))
 . (
 have F3:i=s.a6.length:=qF
 subst F3
 refine Zo ?_
 refine Zs b7 fun _ b7=>Zr [38] hf ?_
 refine r6 2 hf ?_
 clear hf sS;intro a7 hf s2
 refine Zx b7 (k8 ?_)
 exact Fc.o9 rfl hf s2 ⟨by rw [y4x],hx.trans (hb.mono hx.size)⟩))
def X2 (l:List r7) (n i:Nat):List r7:=(l.take i).map (fun a=>⟨a.byte,a.out-n,a.to⟩)++l.drop i
theorem mW (l:List r7) (n:Nat):X2 l n 0=l:=by simp [X2]
theorem sL (l:List r7) (n:Nat):X2 l n l.length=l.map (fun a=>⟨a.byte,a.out-n,a.to⟩):=by simp [X2]
theorem gU (l:List r7) (n i:Nat):(X2 l n i).length=l.length:=by simp [X2];omega
theorem wV {l:List r7} {n i:Nat} {a:r7} (h:l[i]? =some a):(X2 l n i)[i]? =some a:=by
 have n8:=(E2 h).1
 unfold X2
 rw [List.getElem?_append_right sO]
 simp
 rw [<- h]
 congr 1
 omega
theorem mX {l:List r7} {n i:Nat} {a:r7} (h:l[i]? =some a):X2 l n (i+1)=(X2 l n i).set i ⟨a.byte,a.out-n,a.to⟩:=by
 have n8:=(E2 h).1
 unfold X2
 have h1:l.take (i+1)=l.take i++[a]:=by rw [List.take_add_one,h];rfl
 have h2:l.drop i=a::l.drop (i+1):=by
  rw [List.drop_eq_getElem_cons n8,(E2 h).2]
 rw [h1,h2,List.map_append,List.append_assoc,List.set_append_right _ _ sO]
 have h3:i-((l.take i).map (fun a:r7=>(⟨a.byte,a.out-n,a.to⟩:r7))).length=0:=sO
 rw [h3]
 rfl
def pC (s:State):List Nat:=(if s.final then [s.out] else [])++s.a6.map r7.out
theorem gW (s:State):(pC s=[]/\leastOf s=s.out)\/∃ x l,pC s=x::l/\leastOf s=l.foldl min x:=by
 unfold leastOf pC
 cases h:(if s.final then [s.out] else [])++s.a6.map r7.out with
 | nil=>exact .inl ⟨rfl,rfl⟩
 | cons x l=>exact .inr ⟨x,l,rfl,rfl⟩
theorem x8l (l:List Nat):∀ x v,v∈x::l->l.foldl min x<=v:=by
 induction l with
 | nil=>intro x v h;simp at h;simp [h]
 | cons y l ih =>
  intro x v h
  rw [List.foldl_cons]
  rcases List.mem_cons.1 h with rfl | h
  ·exact Nat.le_trans (ih (min v y) _ (List.mem_cons_self ..)) (Nat.min_le_left _ _)
  ·rcases List.mem_cons.1 h with rfl | h
   ·exact Nat.le_trans (ih (min x v) _ (List.mem_cons_self ..)) (Nat.min_le_right _ _)
   ·exact ih _ v (List.mem_cons_of_mem _ h)
theorem sM {s:State} {v:Nat} (h:v∈pC s):leastOf s<=v:=by
 rcases gW s with ⟨h1,_⟩ | ⟨x,l,h1,h2⟩
 ·rw [h1] at h;cases h
 ·rw [h2];rw [h1] at h;exact x8l l x v h
theorem mY {s:State} {n i:Nat} {a:r7} (hn:leastOf s=n) (h:s.a6[i]? =some a):n<=a.out:=by
 rw [<- hn]
 exact sM (List.mem_append_right _ (List.mem_map_of_mem (U0 h)))
theorem z6o {s:State} {n:Nat} (hn:leastOf s=n) (h:s.final=true):n<=s.out:=by
 rw [<- hn]
 refine sM (List.mem_append_left _ ?_)
 simp [h]
theorem x8k (N:Nat) (l:List Nat):∀ x,x<N->(∀ v∈l,v<N)->l.foldl min x<N:=by
 induction l with
 | nil=>intro x h _;exact h
 | cons y l ih=>intro x h h2;rw [List.foldl_cons];exact ih _ oM (fun v hv=>h2 v (List.mem_cons_of_mem _ hv))
theorem sN {s:State} (h:J8 s):leastOf s<18446744073709551616:=by
 rcases gW s with ⟨_,h2⟩ | ⟨x,l,h1,h2⟩
 ·rw [h2];exact h.1
 ·have F6:∀ v∈x::l,v<18446744073709551616:=fun v hv=>by
   rw [<- h1] at hv
   rcases List.mem_append.1 hv with hv | hv
   ·split at hv
    ·simp at hv;subst hv;exact h.1
    ·cases hv
   ·obtain ⟨a,ha,rfl⟩:=List.mem_map.1 hv
    exact (h.2.2 a ha).2.1
  rw [h2]
  exact x8k _ l x (F6 x (List.mem_cons_self ..)) (fun v hv=>F6 v (List.mem_cons_of_mem _ hv))
theorem OA.other {w:World} {base g:Nat} {v:Value} {l:List r7} {cs:Array Value} (h:OA w base v l) (hk:w.heap[g]? =some (.cells cs 126 (0,0))):∀ k,v.ownBlock=some k->k≠g:=by
 rintro k hv rfl
 rcases h.2 with ⟨rfl,_⟩ | ⟨g,cap,cur,rfl,_,h3,_⟩
 ·cases hv
 ·injection hv with hv
  subst hv
  rw [hk] at h3
  injection h3 with h3
  injection h3 with _ h4
  cases h4
theorem z1s (w:World) (b i p:Nat) (x n:Nat) (hx:x<18446744073709551616) (hn:n<=x) (cq:w.cell? ⟨b,i,none⟩=some (.int .u64 x)) (fq:w.frozen? ⟨b,i,none⟩=false) (cp:w.cell? ⟨p,0,none⟩=some (.int .u64 n)):Calls Tryz.prog 91 #[.pointer (some ⟨b,i,none⟩),.pointer (some ⟨p,0,none⟩)] w fun e w1=>e= .returned (.tuple #[])/\∃ w0,Below w.heap.size w w0/\w1=w0.setCell ⟨b,i,none⟩ (.int .u64 (x-n:Nat)):=by
 refine aT 9 Tryz.func91 fun fr hf s0 s1=> ?_
 have cq0:=cq
 refine Sb.tb 9 fun a8=> ?_
 refine Sb.mO 0 s0 hf a8 ?_
 refine Sb.T 1 hf a8 ?_
 refine Sb.T 2 hf a8 ?_ (hF:=fun _ _ h d=>ad (cL h.ext cq) (cL h.ext cp))
 refine Sb.T 3 hf a8 ?_ (hF:=fun _ _ h d=>ad (Sb.O h s1) (ad (cL h.ext cq) (cL h.ext cp)))
 apply Sb.tq 4 _ hf a8
 . (
 intro a7 w1 hh hd hk K Z
 have s5:=Sb.v 2 1 hd hk []
 have s6:=Sb.v 3 0 hd hk []
 clear hd
 go_simp
 try simp (disch:=omega) only [Fc.W]
 rw [show (x:Int)-(n:Int)=((x-n:Nat):Int) by omega]
 exact Sb.k Z)
 refine Sb.T 5 hf a8 ?_
 refine Tl.D7 (n:=9) (m:=6) (ws:=[]) kR hf.size a8.out rfl rfl kR (fun a7 w1 hh hg=> ?_)
 have s7:=Tl.u7 4 1 hg rfl rfl rfl rfl rfl
 have s8:=Tl.u7 5 0 hg rfl rfl rfl rfl rfl
 have u3:=hh.fr hf
 have hx:=hh.ext
 replace cq:=cL hx cq
 replace cp:=cL hx cp
 clear hg hh hf a8 s0 s1
 have hf:=u3;clear u3
 have fq2:=xU hx cq0 fq
 refine Tl.D8 rfl rfl (fun K Z=> ?_)
 go_simp
 apply Z.out;clear Z K
 refine Tl.J5 rfl ?_
 refine Zq0 hf ?_
 clear hf s7 s8;intro a7 hf
 exact Fc.pZ rfl hf ⟨rfl,_,hx,rfl⟩
theorem x8j (w:World) (g cN base:Nat) (s:State) (av:Value) (iT:J8 s) (dE:w.heap[g]? =some (.cells #[av,.bool s.final,.int .u64 s.out,.int .u8 cN] 126 (0,0))) (Y8:OA w base av s.a6):Calls Tryz.prog 53 #[.pointer (some ⟨g,0,none⟩)] w fun e w1=>e= .returned (.int .u64 (leastOf s))/\w1.heap[g]? =some (.cells #[av,.bool s.final,.int .u64 (less s (leastOf s)).out,.int .u8 cN] 126 (0,0))/\OA w1 base av (less s (leastOf s)).a6/\n4 (fun k=>k=g\/av.ownBlock=some k) w w1:=by
 refine S8 41 Tryz.func53 fun fr hf s0=> ?_
 have c0:=n5 0 dE
 have c1:=n5 1 dE
 have c2:=n5 2 dE
 simp at c0 c1 c2
 have n8:=j4 dE
 have hlen:=iT.2.1
 have hsa:SAt w (fun _=>True) g 0 av s:=⟨c0,c1,c2,Y8.ra fun _ _=>trivial⟩
 have E6:=OA.other Y8 dE
 clear c0 c1 c2
 obtain ⟨n,hn⟩:∃ n,leastOf s=n:=⟨_,rfl⟩
 have HN:=H9 hn
 have qL:=sN iT
 rw [hn] at qL
 refine Ze fun _ b7=>Zr [] hf ?_
 refine r6 0 hf ?_
 clear hf s0;intro a7 hf s0
 refine Zt b7 fun _ b7=> ?_
 have bB:=hf.B3 6 7 3
 refine Zy ?_
 refine Zc (dN w g 0 s _ av hsa iT) ?_;rintro e w1 ⟨rfl,n7⟩
 rw [hn]
 refine Zv ?_
 iterate 2 refine Zy ?_
 refine Fc.nil (C1 0 3 hf ?_)
 clear hf s0 bB;intro a7 hf sS
 generalize p8:w1.alloc (.cells #[.int .u64 n] 35)=W0
 obtain ⟨r9,xp, -,v0x⟩:=nU p8
 clear p8
 have F7:w1.heap.size<W0.heap.size:=by rw [v0x];exact Nat.lt_succ_self _
 clear v0x
 have p9:=n7.trans (r9.mono n7.size)
 have z6n:=(p9.block g n8).trans dE
 have z1r:=l5 Y8 p9
 have hgp:g≠w1.heap.size:=by have:=n7.size;omega
 have hw1:=n7.size
 have c1:=n5 1 z6n
 simp at c1
 clear n7 r9 hn
 refine Zs b7 fun _ b7=>Zr [8] hf ?_
 refine B1 0 3 4 hf ?_
 clear hf sS;intro a7 hf sS
 refine Zs b7 fun _ b7=>Ze fun _ j8=>Zr [9,10,11,12] hf ?_
 refine C0 0 3 4 13 hf ?_
 clear hf sS;intro a7 hf sS
 refine Zx j8 ?_
 rcases q9:s.final with _ | _
 . (
 obtain ⟨s0,s3,s4,J0⟩:=sS
 try rw [q9] at J0
 refine Fc.k9 J0 ?_
 refine wp_skip (Zx b7 ?_)
 have lE:=z6n
 have o5:n4 (fun k=>k=g\/av.ownBlock=some k) w W0:=n4.of _ p9
 have oC:=z1r
 have xp1:=xp
 clear z6n z1r xp
 obtain ⟨W1,rfl⟩:∃ W1,W0=W1:=⟨_,rfl⟩
 have o0:∃ so:Nat,so=(if s.final then s.out-n else s.out):=⟨_,rfl⟩
 obtain ⟨so,hso⟩:=o0
 rw [q9] at hso lE
 simp only [if_true,Bool.false_eq_true,if_false] at hso
 rw [<- hso] at lE
 have c0:=n5 0 lE
 simp at c0
 obtain ⟨A,cc,rfl,Z3⟩:=(OA.ra (B:=fun _=>True) oC fun _ _=>trivial).form
 have HSO:=H9 hso;clear hso c1
 refine Ze fun _ b7=>Ze fun _ j8=>Zr [20,21,22,23,24] hf ?_
 refine D0 0 3 4 25 26 hf ?_
 clear hf s0 s3 s4 J0;intro a7 hf sS
 refine Zx j8 (wp_block (wp_loop_ghost (fun gk fr wr=>∃ (i:Nat),gk=s.a6.length-i/\i<=s.a6.length/\Fc.Fr 41 fr/\fr.tmps[0]? =some (.pointer (some ⟨g,0,none⟩))/\fr.tmps[3]? =some (.pointer (some ⟨w1.heap.size,0,none⟩))/\fr.tmps[4]? =some (.func (.func 91) #[] #[.pointer (some ⟨w1.heap.size,0,none⟩)])/\fr.tmps[25]? =some (.int .i64 s.a6.length)/\fr.tmps[26]? =some (.int .i64 i)/\OA wr base (.slice A s.a6.length cc) (X2 s.a6 n i)/\wr.heap[g]? =some (.cells #[.slice A s.a6.length cc,.bool false,.int .u64 so,.int .u8 cN] 126 (0,0))/\wr.cell? ⟨w1.heap.size,0,none⟩=some (.int .u64 n)/\n4 (fun k=>k=g\/(.slice A s.a6.length cc:Value).ownBlock=some k) w wr) (s.a6.length) ?_ ?_))
 . (
 obtain ⟨s0,s3,s4,bQ,Z1⟩:=sS
 exact ⟨0,rfl,Nat.zero_le _,hf,s0,s3,s4,bQ,Z1,by rw [mW];exact oC,lE,xp1,o5⟩)
 . (
 clear hf sS
 rintro gk fr wr ⟨i,hk,hi,hf,s0,s3,s4,bQ,Z1,hoi,hbi,xpi,x8i⟩
 have HK:=H9 hk;clear hk
 clear oC lE xp1 o5 c0
 refine Ze fun _ j8=>Zr [] hf ?_
 refine J3 0 3 4 25 26 27 hf ?_
 clear hf s0 s3 s4 bQ Z1;intro a7 hf sS
 refine Zs j8 fun _ j8=>Fc.l0 sS.2.2.2.2.2 (fun hq=> ?_) (fun hq=> ?_)
 . (
 have bW:i<s.a6.length:=qT
 obtain ⟨a,aN⟩:∃ a,s.a6[i]? =some a:=⟨_,D9 bW⟩
 have hll:=gU s.a6 n i
 have z1q:=wV (n:=n) aN
 obtain ⟨b,c3,hv3,_,G5⟩:=OA.own hoi oM
 rw [hll] at hv3
 injection hv3 with hv3
 subst hv3
 have hla:=mY HN.out aN
 have yR:=(iT.2.2 a (U0 aN)).2.1
 have c0:=n5 0 hbi
 simp at c0
 have d1:=(OA.cell hoi z1q).2.1
 have HIA:=H9 aN;have w1m:=H9 z1q;clear aN z1q
 have hfz:wr.frozen? ⟨b,i*3+1,none⟩=false:=by have h5:=hoi;unfold OA at h5;rw [hll] at h5;exact h5.frozenAt _
 refine wp_skip (Zs j8 fun _ j8=>wp_block (Ze fun _ l6=>Zr [28] hf ?_))
 refine J3 0 3 4 5 25 26 hf ?_
 clear hf sS;intro a7 hf sS
 refine Zx l6 (rg ?_)
 have bB:=hf.B9 29 30 31 32 33 34 35 36 37
 iterate 7 refine Zy ?_
 refine fp fun K Z=> ?_
 go_simp
 try rw [if_pos (by omega)]
 apply Z.out;clear Z K
 refine Zy ?_
 refine Zc (z1s wr b (i*3+1) w1.heap.size a.out n yR hla d1 hfz xpi) ?_;rintro e w6 ⟨rfl,w7,A8,rfl⟩
 refine Zv ?_
 refine Fc.nil (D0 0 3 4 25 26 hf ?_)
 clear hf sS bB;intro a7 hf sS
 refine Fc.j7 (Zx j8 (Zr [39] hf ?_))
 refine D0 0 3 4 25 26 hf ?_
 clear hf sS;intro a7 hf sS
 refine Fc.j6 ?_
 have hbS:=n4.setCell (S:=fun k=>k=b) (w:=w7) (p:=⟨b,i*3+1,none⟩) rfl (.int .u64 (a.out-n:Nat))
 have tF:¬ (g=b):=fun e=>E6 b rfl (e.symm)
 obtain ⟨s0,s3,s4,bQ,Z1⟩:=sS
 refine ⟨_,by have:=HK.out;omega,i+1,rfl,oM,hf,s0,s3,s4,bQ,by rw [Z1];rfl,?_,hbS.heap ((A8.block g (j4 hbi)).trans hbi) tF,hbS.cell (cL A8 xpi) (fun e=> ?_),(x8i.trans (n4.of _ A8)).trans (n4.setCell (.inr rfl) _)⟩
 . (
 rw [mX HIA.out];exact OA.out (l5 hoi A8) w1m.out oM _)
 . (
 have e:w1.heap.size=b:=e;have h5:=(Y8.lt b rfl).2;omega))
 . (
 have F3:i=s.a6.length:=qF
 subst F3
 rw [sL] at hoi
 refine Zo ?_
 refine Zs b7 fun _ b7=>Zr [40] hf ?_
 refine r6 2 hf ?_
 clear hf sS;intro a7 hf s2
 refine Zx b7 (k8 ?_)
 have hno:=HSO.out
 subst hno
 have hnn:=HN.out
 subst hnn
 refine Fc.o9 rfl hf s2 ⟨rfl,?_,?_,x8i⟩
 . (
 rw [hbi];simp [less,q9])
 . (
 simpa [less,q9] using hoi))))
 . (
 obtain ⟨s0,s3,s4,J0⟩:=sS
 try rw [q9] at J0
 refine Fc.l8 J0 ?_
 have c2:=n5 2 z6n
 simp at c2
 have hno:=z6o HN.out q9
 refine rg ?_
 have bB:=hf.B5 14 15 16 17 18
 iterate 5 refine Zy ?_
 refine Zc (z1s W0 g 2 w1.heap.size s.out n iT.1 hno c2 (j3 z6n) xp) ?_;rintro e w5 ⟨rfl,w4,X6,rfl⟩
 refine Zv ?_
 refine Fc.nil (B1 0 3 4 hf ?_)
 clear hf s0 s3 s4 J0 bB;intro a7 hf sS
 refine Zx b7 ?_
 have lE:=j5 (i:=2) ((X6.block g (j4 z6n)).trans z6n) (.int .u64 (s.out-n:Nat))
 simp at lE
 have o5:n4 (fun k=>k=g\/av.ownBlock=some k) w (w4.setCell ⟨g,2,none⟩ (.int .u64 (s.out-n:Nat))):=(n4.of _ (p9.trans (X6.mono p9.size))).trans (n4.setCell (.inl rfl) _)
 have oC:OA (w4.setCell ⟨g,2,none⟩ (.int .u64 (s.out-n:Nat))) base av s.a6:=y7 (l5 z1r X6) (n4.setCell (S:=fun k=>k=g) rfl _) (fun k hk e=>E6 k hk e)
 have xp1:(w4.setCell ⟨g,2,none⟩ (.int .u64 (s.out-n:Nat))).cell? ⟨w1.heap.size,0,none⟩=some (.int .u64 n):=(n4.setCell (S:=fun k=>k=g) rfl _).cell (cL X6 xp) (fun e=>hgp e.symm)
 obtain ⟨W1,Z4⟩:∃ W1,w4.setCell ⟨g,2,none⟩ (.int .u64 (s.out-n:Nat))=W1:=⟨_,rfl⟩
 rw [Z4] at lE o5 oC xp1
 try rw [Z4]
 clear Z4 z6n z1r xp X6 c2
 have o0:∃ so:Nat,so=(if s.final then s.out-n else s.out):=⟨_,rfl⟩
 obtain ⟨so,hso⟩:=o0
 rw [q9] at hso lE
 simp only [if_true,Bool.false_eq_true,if_false] at hso
 rw [<- hso] at lE
 have c0:=n5 0 lE
 simp at c0
 obtain ⟨A,cc,rfl,Z3⟩:=(OA.ra (B:=fun _=>True) oC fun _ _=>trivial).form
 have HSO:=H9 hso;clear hso c1
 refine Ze fun _ b7=>Ze fun _ j8=>Zr [20,21,22,23,24] hf ?_
 refine D0 0 3 4 25 26 hf ?_
 clear hf sS;intro a7 hf sS
 refine Zx j8 (wp_block (wp_loop_ghost (fun gk fr wr=>∃ (i:Nat),gk=s.a6.length-i/\i<=s.a6.length/\Fc.Fr 41 fr/\fr.tmps[0]? =some (.pointer (some ⟨g,0,none⟩))/\fr.tmps[3]? =some (.pointer (some ⟨w1.heap.size,0,none⟩))/\fr.tmps[4]? =some (.func (.func 91) #[] #[.pointer (some ⟨w1.heap.size,0,none⟩)])/\fr.tmps[25]? =some (.int .i64 s.a6.length)/\fr.tmps[26]? =some (.int .i64 i)/\OA wr base (.slice A s.a6.length cc) (X2 s.a6 n i)/\wr.heap[g]? =some (.cells #[.slice A s.a6.length cc,.bool true,.int .u64 so,.int .u8 cN] 126 (0,0))/\wr.cell? ⟨w1.heap.size,0,none⟩=some (.int .u64 n)/\n4 (fun k=>k=g\/(.slice A s.a6.length cc:Value).ownBlock=some k) w wr) (s.a6.length) ?_ ?_))
 . (
 obtain ⟨s0,s3,s4,bQ,Z1⟩:=sS
 exact ⟨0,rfl,Nat.zero_le _,hf,s0,s3,s4,bQ,Z1,by rw [mW];exact oC,lE,xp1,o5⟩)
 . (
 clear hf sS
 rintro gk fr wr ⟨i,hk,hi,hf,s0,s3,s4,bQ,Z1,hoi,hbi,xpi,x8i⟩
 have HK:=H9 hk;clear hk
 clear oC lE xp1 o5 c0
 refine Ze fun _ j8=>Zr [] hf ?_
 refine J3 0 3 4 25 26 27 hf ?_
 clear hf s0 s3 s4 bQ Z1;intro a7 hf sS
 refine Zs j8 fun _ j8=>Fc.l0 sS.2.2.2.2.2 (fun hq=> ?_) (fun hq=> ?_)
 . (
 have bW:i<s.a6.length:=qT
 obtain ⟨a,aN⟩:∃ a,s.a6[i]? =some a:=⟨_,D9 bW⟩
 have hll:=gU s.a6 n i
 have z1q:=wV (n:=n) aN
 obtain ⟨b,c3,hv3,_,G5⟩:=OA.own hoi oM
 rw [hll] at hv3
 injection hv3 with hv3
 subst hv3
 have hla:=mY HN.out aN
 have yR:=(iT.2.2 a (U0 aN)).2.1
 have c0:=n5 0 hbi
 simp at c0
 have d1:=(OA.cell hoi z1q).2.1
 have HIA:=H9 aN;have w1m:=H9 z1q;clear aN z1q
 have hfz:wr.frozen? ⟨b,i*3+1,none⟩=false:=by have h5:=hoi;unfold OA at h5;rw [hll] at h5;exact h5.frozenAt _
 refine wp_skip (Zs j8 fun _ j8=>wp_block (Ze fun _ l6=>Zr [28] hf ?_))
 refine J3 0 3 4 5 25 26 hf ?_
 clear hf sS;intro a7 hf sS
 refine Zx l6 (rg ?_)
 have bB:=hf.B9 29 30 31 32 33 34 35 36 37
 iterate 7 refine Zy ?_
 refine fp fun K Z=> ?_
 go_simp
 try rw [if_pos (by omega)]
 apply Z.out;clear Z K
 refine Zy ?_
 refine Zc (z1s wr b (i*3+1) w1.heap.size a.out n yR hla d1 hfz xpi) ?_;rintro e w6 ⟨rfl,w7,A8,rfl⟩
 refine Zv ?_
 refine Fc.nil (D0 0 3 4 25 26 hf ?_)
 clear hf sS bB;intro a7 hf sS
 refine Fc.j7 (Zx j8 (Zr [39] hf ?_))
 refine D0 0 3 4 25 26 hf ?_
 clear hf sS;intro a7 hf sS
 refine Fc.j6 ?_
 have hbS:=n4.setCell (S:=fun k=>k=b) (w:=w7) (p:=⟨b,i*3+1,none⟩) rfl (.int .u64 (a.out-n:Nat))
 have tF:¬ (g=b):=fun e=>E6 b rfl (e.symm)
 obtain ⟨s0,s3,s4,bQ,Z1⟩:=sS
 refine ⟨_,by have:=HK.out;omega,i+1,rfl,oM,hf,s0,s3,s4,bQ,by rw [Z1];rfl,?_,hbS.heap ((A8.block g (j4 hbi)).trans hbi) tF,hbS.cell (cL A8 xpi) (fun e=> ?_),(x8i.trans (n4.of _ A8)).trans (n4.setCell (.inr rfl) _)⟩
 . (
 rw [mX HIA.out];exact OA.out (l5 hoi A8) w1m.out oM _)
 . (
 have e:w1.heap.size=b:=e;have h5:=(Y8.lt b rfl).2;omega))
 . (
 have F3:i=s.a6.length:=qF
 subst F3
 rw [sL] at hoi
 refine Zo ?_
 refine Zs b7 fun _ b7=>Zr [40] hf ?_
 refine r6 2 hf ?_
 clear hf sS;intro a7 hf s2
 refine Zx b7 (k8 ?_)
 have hno:=HSO.out
 subst hno
 have hnn:=HN.out
 subst hnn
 refine Fc.o9 rfl hf s2 ⟨rfl,?_,?_,x8i⟩
 . (
 rw [hbi];simp [less,q9])
 . (
 simpa [less,q9] using hoi))))
open Go.RowKit Go.Maps
theorem z6m {w:World} {base n cap size b:Nat} {e:TypeId} {xs:List Value} (h:w.ownsRow base e size (.slice (some ⟨b,0,none⟩) (n+1) cap) (n+1) xs):w.ownsRow base e size (.slice (some ⟨b,0,none⟩) n cap) n (xs.take (n*size)):=by
 rcases h.2 with ⟨h',_⟩ | ⟨b',t8q,cur,h',hb,hg,hnc,hcm,S6,w9n⟩
 ·simp at h'
 ·simp only [Value.slice.injEq,Option.some.injEq,Addr.mk.injEq,and_true,true_and] at h'
  obtain ⟨rfl,rfl⟩:=h'
  have hl:n*size<=(n+1)*size:=Nat.mul_le_mul_right _ oM
  refine ⟨by rw [List.length_take,h.1];omega,.inr ⟨b,cap,cur,rfl,hb,hg,oM,hcm,S6,?_⟩⟩
  rw [<- w9n,List.take_take,Nat.min_eq_left hl]
theorem w1l {w:World} {base z0l n n' size x8h:Nat} {e e':TypeId} {v v':Value} {xs xs':List Value} (h:w.ownsRow base e size v n xs) (h':w.ownsRow z0l e' x8h v' n' xs') (he:e≠e') {b:Nat} (hv:v.ownBlock=some b):v'.ownBlock≠some b:=by
 intro hv'
 rcases h.2 with ⟨rfl,_⟩ | ⟨g,cap,cur,rfl,_,h3,_⟩
 ·cases hv
 rcases h'.2 with ⟨rfl,_⟩ | ⟨g',t8q,s5t,rfl,_,h3',_⟩
 ·cases hv'
 injection hv with hv;injection hv' with hv'
 subst hv;subst hv'
 rw [h3] at h3'
 injection h3' with h3'
 injection h3' with _ h4
 exact he h4
def zF (w:World) (base:Nat) (own:Nat->Nat) (cells:List Value) (W:List Open):Prop:=∀ (i:Nat) (o:Open),W[i]? =some o->∃ av,cells[i*4]? =some av/\cells[i*4+1]? =some (.bool o.st.final) /\
 cells[i*4+2]? =some (.int .u64 o.st.out)/\cells[i*4+3]? =some (.int .u8 o.cN)/\OA w base av o.st.a6/\∀ k,av.ownBlock=some k->own k=6+i
structure aU (w:World) (base:Nat) (own:Nat->Nat) (g:Nat) (sv:Value) (mb:Nat) (ss:List State) (wv:Value) (j:Nat) (o6:List Open):Prop where
 cT:bC w base own g 123 [wv] sv mb ss
 row:∃ cells,w.ownsRow base 126 4 wv (o6.length+j) cells/\(∀ k,wv.ownBlock=some k->own k=5)/\zF w base own cells o6.reverse
section
variable {w w':World} {base g mb j:Nat} {own Y6:Nat->Nat} {sv wv:Value} {ss:List State} {o6:List Open} {S:Nat->Prop}
theorem aU.but (h:aU w base own g sv mb ss wv j o6) (hb:n4 S w w') (hS:∀ k,S k->own k=0\/6+o6.length<=own k):aU w' base own g sv mb ss wv j o6:=by
 obtain ⟨cells,h1,h2,h3⟩:=h.row
 refine ⟨h.cT.but hb (fun k hk=>by have:=hS k hk;omega),cells,y7 h1 hb (fun k hk hs=>by have:=hS k hs;have:=h2 k hk;omega),h2,fun i o hi=> ?_⟩
 obtain ⟨av,h4,h5,h6,h7,h8,h9⟩:=h3 i o hi
 have P2:=(E2 hi).1
 rw [List.length_reverse] at P2
 exact ⟨av,h4,h5,h6,h7,y7 h8 hb (fun k hk hs=>by have:=hS k hs;have:=h9 k hk;omega),h9⟩
theorem aU.later (h:aU w base own g sv mb ss wv j o6) (hb:Below w.heap.size w w'):aU w' base own g sv mb ss wv j o6:=h.but (n4.of (fun _=>False) hb) (fun _ hf=>hf.elim)
theorem aU.told (h:aU w base own g sv mb ss wv j o6) (hlo:∀ k,k<base->Y6 k=4) (hk:∀ k,k<w.heap.size->1<=own k->own k<6+o6.length->Y6 k=own k):aU w base Y6 g sv mb ss wv j o6:=by
 obtain ⟨cells,h1,h2,h3⟩:=h.row
 refine ⟨h.cT.told hlo (fun k n8 h4 h5=>hk k n8 h4 oM),cells,h1,fun k aX=> ?_,fun i o hi=> ?_⟩
 ·have:=h2 k aX;rw [hk k (h1.lt k aX).2 oM oM];exact this
 ·obtain ⟨av,h4,h5,h6,h7,h8,h9⟩:=h3 i o hi
  have P2:=(E2 hi).1
  rw [List.length_reverse] at P2
  exact ⟨av,h4,h5,h6,h7,h8,fun k aX=>by have:=h9 k aX;rw [hk k (h8.lt k aX).2 oM oM];exact this⟩
theorem aU.forget {o:Open} (h:aU w base own g sv mb ss wv j (o::o6)):aU w base own g sv mb ss wv (j+1) o6:=by
 obtain ⟨cells,h1,h2,h3⟩:=h.row
 refine ⟨h.cT,cells,by rw [show o6.length+(j+1)=(o::o6).length+j by simp;omega];exact h1,h2,fun i x hi=>h3 i x ?_⟩
 rw [List.reverse_cons,List.getElem?_append_left (E2 hi).1]
 exact hi
theorem aU.top {o:Open} (h:aU w base own g sv mb ss wv 0 (o::o6)):∃ wb c av,wv= .slice (some ⟨wb,0,none⟩) (o6.length+1) c/\o6.length+1<=c/\own wb=5/\w.cell? ⟨wb,o6.length*4,none⟩=some av/\w.cell? ⟨wb,o6.length*4+1,none⟩=some (.bool o.st.final) /\
  w.cell? ⟨wb,o6.length*4+2,none⟩=some (.int .u64 o.st.out)/\w.cell? ⟨wb,o6.length*4+3,none⟩=some (.int .u8 o.cN)/\OA w base av o.st.a6/\∀ k,av.ownBlock=some k->own k=6+o6.length:=by
 obtain ⟨cells,h1,h2,h3⟩:=h.row
 rcases h1.2 with ⟨_,h0⟩ | ⟨wb,c,cur,rfl,_,hh,hc,_⟩
 ·simp at h0
 ·simp only [List.length_cons,Nat.add_zero] at h1 hc
  obtain ⟨av,h4,h5,h6,h7,h8,h9⟩:=h3 o6.length o (by rw [List.reverse_cons,List.getElem?_append_right sP];simp)
  have e:∀ i,i<4->w.cell? ⟨wb,o6.length*4+i,none⟩=cells[o6.length*4+i]? :=fun i hi=>h1.cellAt _ oM
  refine ⟨wb,c,av,rfl,hc,h2 wb rfl,?_,?_,?_,?_,h8,h9⟩
  ·rw [show o6.length*4=o6.length*4+0 from rfl,e 0 oM];exact h4
  ·rw [e 1 oM];exact h5
  ·rw [e 2 oM];exact h6
  ·rw [e 3 oM];exact h7
theorem bC.x5u {t:TypeId} (h:bC w base own g t [wv] sv mb ss) (u:Value):bC (w.setCell ⟨g,2,none⟩ u) base own g t [u] sv mb ss:=by
 obtain ⟨cells,h1,h2,h3⟩:=h.row
 have hb:n4 (fun k=>k=g) w (w.setCell ⟨g,2,none⟩ u):=n4.setCell (S:=fun k=>k=g) rfl _
 have hog:=h.og
 refine ⟨h.lo,?_,h.og,h.om,pA h.map hb (fun e=>h.y0d e.symm),⟨cells,y7 h1 hb (fun k hk e=>by subst e;have:=h2 _ hk;omega),h2,fun i s hi=> ?_⟩,h.nodup,h.S7⟩
 ·rw [j5 h.box u];rfl
 ·obtain ⟨av,h4,h5,h6,h7⟩:=h3 i s hi
  exact ⟨av,h4,h5,h6,h7.but hb (fun k hk e=>by subst e;omega)⟩
theorem aU.cut {wb n c:Nat} (h:aU w base own g sv mb ss (.slice (some ⟨wb,0,none⟩) n c) 1 o6) (hn:n=o6.length+1):aU (w.setCell ⟨g,2,none⟩ (.slice (some ⟨wb,0,none⟩) o6.length c)) base own g sv mb ss (.slice (some ⟨wb,0,none⟩) o6.length c) 0 o6:=by
 subst hn
 obtain ⟨cells,h1,h2,h3⟩:=h.row
 have hb:n4 (fun k=>k=g) w (w.setCell ⟨g,2,none⟩ (.slice (some ⟨wb,0,none⟩) o6.length c)):=n4.setCell (S:=fun k=>k=g) rfl _
 have hog:=h.cT.og
 refine ⟨h.cT.x5u _,_,y7 (z6m h1) hb (fun k hk e=>by subst e;have:=h2 _ hk;omega),h2,fun i o hi=> ?_⟩
 obtain ⟨av,h4,h5,h6,h7,h8,h9⟩:=h3 i o hi
 have P2:=(E2 hi).1
 rw [List.length_reverse] at P2
 exact ⟨av,by rw [List.getElem?_take_of_lt oM];exact h4,by rw [List.getElem?_take_of_lt oM];exact h5,by rw [List.getElem?_take_of_lt oM];exact h6,by rw [List.getElem?_take_of_lt oM];exact h7,
  y7 h8 hb (fun k hk e=>by subst e;have:=h9 _ hk;omega),h9⟩
theorem aU.x8g {wb n c:Nat} {o:Open} {av:Value} {cells:List Value} (z1p:bC w base own g 123 [.slice (some ⟨wb,0,none⟩) n c] sv mb ss) (hn:n=o6.length+1) (kN:w.ownsRow base 126 4 (.slice (some ⟨wb,0,none⟩) n c) n cells) (qV:own wb=5) (hW:zF w base own cells o6.reverse)
  (c0:cells[o6.length*4]? =some av) (c1:cells[o6.length*4+1]? =some (.bool o.st.final)) (c2:cells[o6.length*4+2]? =some (.int .u64 o.st.out)) (c3:cells[o6.length*4+3]? =some (.int .u8 o.cN))
  (Y8:OA w base av o.st.a6) (aE:∀ k,av.ownBlock=some k->own k=6+o6.length):aU w base own g sv mb ss (.slice (some ⟨wb,0,none⟩) n c) 0 (o::o6):=by
 subst hn
 refine ⟨z1p,cells,kN,fun k hk=>by injection hk with hk;subst hk;exact qV,fun i x hi=> ?_⟩
 by_cases n8:i<o6.length
 ·exact hW i x (by rw [List.reverse_cons,List.getElem?_append_left (by simpa using n8)] at hi;exact hi)
 ·rw [List.reverse_cons,List.getElem?_append_right (by simpa using n8)] at hi
  have nK:i-o6.reverse.length=0:=by
   have:=(E2 hi).1
   simp at this |-
   omega
  rw [nK] at hi
  injection hi with hi
  subst hi
  have F3:i=o6.length:=by simp at nK n8;omega
  subst F3
  exact ⟨av,c0,c1,c2,c3,Y8,aE⟩
theorem bC.tell {t e':TypeId} {xs:List Value} {v:Value} {n x x8h:Nat} {cs:List Value} (h:bC w base own g t xs sv mb ss) (hv:w.ownsRow base e' x8h v n cs) (he:(46:TypeId)≠e') (hk:∀ b,v.ownBlock=some b->own b=0\/own b=2\/5<=own b) :
  bC w base (fun b=>if v.ownBlock=some b then x else own b) g t xs sv mb ss:=by
 obtain ⟨cells,h1,h2,h3⟩:=h.row
 have e:∀ b,v.ownBlock≠some b->(if v.ownBlock=some b then x else own b)=own b:=fun b hb=>if_neg hb
 refine ⟨fun k aX=> ?_,h.box,?_,?_,h.map,⟨cells,h1,fun k aX=> ?_,fun i s hi=> ?_⟩,h.nodup,h.S7⟩
 ·rw [e k (fun h4=>by have:=(hv.lt k h4).1;omega)];exact h.lo k aX
 ·show (if v.ownBlock=some g then x else own g)=1;rw [e g (fun h4=>by have:=hk g h4;have:=h.og;omega)];exact h.og
 ·show (if v.ownBlock=some mb then x else own mb)=3;rw [e mb (fun h4=>by have:=hk mb h4;have:=h.om;omega)];exact h.om
 ·show (if v.ownBlock=some k then x else own k)=2;rw [e k (w1l h1 hv he aX)];exact h2 k aX
 ·obtain ⟨av,h4,h5,h6,h7⟩:=h3 i s hi
  exact ⟨av,h4,h5,h6,h7.more (fun k _ hk4=>by show (if v.ownBlock=some k then x else own k)=4;rw [e k (fun h8=>by have:=hk k h8;omega)];exact hk4)⟩
theorem aU.z6l (h:aU w base own g sv mb ss wv j o6):w.cell? ⟨g,2,none⟩=some wv:=by rw [n5 2 h.cT.box];rfl
end
theorem aU.closed {w2 w3:World} {base g mb:Nat} {v7 M3:Nat->Nat} {zV oD avu v:Value} {pD ss2:List State} {wb c:Nat} {up:Open} {rest:List Open} {a:r7} {cells:List Value}
  (h4:aU w2 base v7 g zV mb pD (.slice (some ⟨wb,0,none⟩) (rest.length+1) c) 0 (up::rest)) (hA1:∀ k,k<w2.heap.size->M3 k=v7 k) (hA2:∀ k,w2.heap.size<=k->M3 k=0\/M3 k=2)
  (z1p:bC w3 base M3 g 123 [.slice (some ⟨wb,0,none⟩) (rest.length+1) c] oD mb ss2) (hv:w3.ownsRow base 71 3 v (up.st.a6.length+1) (nG up.st.a6++a.cells))
  (hvb:v.ownBlock=avu.ownBlock\/∃ k,v.ownBlock=some k/\w2.heap.size<=k) (v0u:∀ k,avu.ownBlock=some k->v7 k=6+rest.length/\k<w2.heap.size)
  (mZ:w2.ownsRow base 126 4 (.slice (some ⟨wb,0,none⟩) (rest.length+1) c) (rest.length+1) cells) (qV:v7 wb=5) (hW:zF w2 base v7 cells (up::rest).reverse)
  (wW:w3.ownsRow base 126 4 (.slice (some ⟨wb,0,none⟩) (rest.length+1) c) (rest.length+1) (cells.set (rest.length*4) v)) (o5:n4 (fun k=>(v7 k=1\/v7 k=2\/v7 k=3)\/avu.ownBlock=some k\/k=wb) w2 w3) :
  aU w3 base (fun b=>if v.ownBlock=some b then 6+rest.length else M3 b) g oD mb ss2 (.slice (some ⟨wb,0,none⟩) (rest.length+1) c) 0 (⟨⟨up.st.final,up.st.out,up.st.a6++[a]⟩,up.cN⟩::rest):=by
 have N5:=mZ.1
 have t8p:wb<w2.heap.size:=(mZ.lt wb rfl).2
 have hvk:∀ b,v.ownBlock=some b->(b<w2.heap.size/\v7 b=6+rest.length)\/w2.heap.size<=b:=fun b hb=>by
  rcases hvb with h | ⟨k,h,hk⟩
  ·rw [hb] at h;have:=v0u b h.symm;exact .inl ⟨this.2,this.1⟩
  ·rw [hb] at h;injection h with h;subst h;exact .inr hk
 have E6:∀ b,b<w2.heap.size->v7 b≠6+rest.length->(if v.ownBlock=some b then 6+rest.length else M3 b)=v7 b:=fun b hb hn=>by
  rw [if_neg (fun h=>by rcases hvk b h with h | h;exact hn h.2;omega)]
  exact hA1 b hb
 refine aU.x8g (av:=v) (z1p.tell hv dC (fun b hb=> ?_)) rfl wW ?_ (fun i o hi=> ?_) ?_ ?_ ?_ ?_ ?_ (fun k hk=>if_pos hk)
 ·rcases hvk b hb with h | h
  ·rw [hA1 b h.1];omega
  ·have:=hA2 b h;omega
 ·rw [E6 wb t8p oM];exact qV
 ·have P2:=(E2 hi).1
  rw [List.length_reverse] at P2
  obtain ⟨av,h1,h2,h3,h5,h6,h7⟩:=hW i o (by rw [List.reverse_cons,List.getElem?_append_left (by simpa using P2)];exact hi)
  refine ⟨av,?_,?_,?_,?_,y7 h6 o5 (fun k hk hs=> ?_),fun k hk=> ?_⟩
  ·rw [List.getElem?_set_ne oM];exact h1
  ·rw [List.getElem?_set_ne oM];exact h2
  ·rw [List.getElem?_set_ne oM];exact h3
  ·rw [List.getElem?_set_ne oM];exact h5
  ·have h8:=h7 k hk
   rcases hs with hs | hs | rfl
   ·omega
   ·have:=(v0u k hs).1;omega
   ·omega
  ·have h8:=h7 k hk
   rw [E6 k (h6.lt k hk).2 oM];exact h8
 all_goals (obtain ⟨av,h1,h2,h3,h5,h6,h7⟩:=hW rest.length up (by rw [List.reverse_cons,List.getElem?_append_right sP];simp))
 ·rw [List.getElem?_set_self oM]
 ·rw [List.getElem?_set_ne oM];exact h2
 ·rw [List.getElem?_set_ne oM];exact h3
 ·rw [List.getElem?_set_ne oM];exact h5
 ·show w3.ownsRow base 71 3 v (up.st.a6++[a]).length (nG (up.st.a6++[a]))
  rw [List.length_append,cY]
  simpa [nG] using hv
theorem aU.opened {w2 w3:World} {base g mb x:Nat} {own:Nat->Nat} {sv wv v:Value} {ss:List State} {o6:List Open} {cells:List Value}
  (h:aU w2 base own g sv mb ss wv 0 o6) (mZ:w2.ownsRow base 126 4 wv o6.length cells) (qV:∀ k,wv.ownBlock=some k->own k=5) (hW:zF w2 base own cells o6.reverse)
  (nL:∀ k,w2.heap.size<=k->own k=0) (w3s:w3.heap[g]? =some (.cells (sv:: .map (some mb)::[v]).toArray 123 (0,0))) (o5:n4 (fun k=>wv.ownBlock=some k\/k=g) w2 w3)
  (hv:w3.ownsRow base 126 4 v (o6.length+1) (cells++[.slice none 0 0,.bool false,.int .u64 0,.int .u8 x])) (hvb:v.ownBlock=wv.ownBlock\/∃ k,v.ownBlock=some k/\w2.heap.size<=k) :
  aU w3 base (fun b=>if v.ownBlock=some b then 5 else own b) g sv mb ss v 0 (⟨E1,x⟩::o6):=by
 have N5:=mZ.1
 have hog:=h.cT.og
 obtain ⟨sc,h1,h2,h3⟩:=h.cT.row
 have z1p:bC w3 base own g 123 [v] sv mb ss:=by
  refine ⟨h.cT.lo,w3s,h.cT.og,h.cT.om,pA h.cT.map o5 (fun hs=> ?_),⟨sc,y7 h1 o5 (fun k hk hs=> ?_),h2,fun i s hi=> ?_⟩,h.cT.nodup,h.cT.S7⟩
  ·have:=h.cT.om
   rcases hs with hs | hs
   ·have:=qV mb hs;omega
   ·exact h.cT.y0d hs.symm
  ·have:=h2 k hk
   rcases hs with hs | rfl
   ·have:=qV k hs;omega
   ·omega
  ·obtain ⟨av,h4,h5,h6,h7⟩:=h3 i s hi
   refine ⟨av,h4,h5,h6,h7.but o5 (fun k hk hs=> ?_)⟩
   rcases hs with hs | rfl
   ·have:=qV k hs;omega
   ·omega
 have hvk:∀ b,v.ownBlock=some b->own b=0\/own b=5:=fun b hb=>by
  rcases hvb with h8 | ⟨k,h8,hk⟩
  ·rw [hb] at h8;exact .inr (qV b h8.symm)
  ·rw [hb] at h8;injection h8 with h8;subst h8;exact .inl (nL b hk)
 have E6:∀ b,6<=own b->(if v.ownBlock=some b then 5 else own b)=own b:=fun b hb=>if_neg (fun h8=>by have:=hvk b h8;omega)
 refine ⟨z1p.tell hv dC (fun b hb=>by have:=hvk b hb;omega),_,by simpa using hv,fun k hk=>if_pos hk,fun i o hi=> ?_⟩
 by_cases n8:i<o6.length
 ·rw [List.reverse_cons,List.getElem?_append_left (by simpa using n8)] at hi
  obtain ⟨av,h4,h5,h6,h7,h8,h9⟩:=hW i o hi
  refine ⟨av,?_,?_,?_,?_,y7 h8 o5 (fun k hk hs=> ?_),fun k hk=> ?_⟩
  ·rw [List.getElem?_append_left oM];exact h4
  ·rw [List.getElem?_append_left oM];exact h5
  ·rw [List.getElem?_append_left oM];exact h6
  ·rw [List.getElem?_append_left oM];exact h7
  ·have:=h9 k hk
   rcases hs with hs | rfl
   ·have:=qV k hs;omega
   ·omega
  ·have:=h9 k hk
   show (if v.ownBlock=some k then 5 else own k)=6+i
   rw [E6 k oM];exact this
 ·rw [List.reverse_cons,List.getElem?_append_right (by simpa using n8)] at hi
  have nK:i-o6.reverse.length=0:=by
   have:=(E2 hi).1
   simp at this |-
   omega
  rw [nK] at hi
  injection hi with hi
  subst hi
  have F3:i=o6.length:=by simp at nK n8;omega
  subst F3
  refine ⟨.slice none 0 0,?_,?_,?_,?_,OA.S0 _ _,fun k hk=>by cases hk⟩
  ·rw [List.getElem?_append_right oM,N5,Nat.sub_self];rfl
  ·rw [List.getElem?_append_right oM,N5,show o6.length*4+1-o6.length*4=1 by omega];rfl
  ·rw [List.getElem?_append_right oM,N5,show o6.length*4+2-o6.length*4=2 by omega];rfl
  ·rw [List.getElem?_append_right oM,N5,show o6.length*4+3-o6.length*4=3 by omega];rfl
theorem aU.marked {w:World} {base g mb wb n c x:Nat} {own:Nat->Nat} {sv:Value} {ss:List State} {o:Open} {o6:List Open} (h:aU w base own g sv mb ss (.slice (some ⟨wb,0,none⟩) n c) 0 (o::o6)) (hn:n=o6.length+1) :
  aU ((w.setCell ⟨wb,o6.length*4+1,none⟩ (.bool true)).setCell ⟨wb,o6.length*4+2,none⟩ (.int .u64 x)) base own g sv mb ss (.slice (some ⟨wb,0,none⟩) n c) 0 (⟨⟨true,x,o.st.a6⟩,o.cN⟩::o6):=by
 subst hn
 obtain ⟨cells,h1,h2,h3⟩:=h.row
 have qV:=h2 wb rfl
 have hb:n4 (fun k=>k=wb) w ((w.setCell ⟨wb,o6.length*4+1,none⟩ (.bool true)).setCell ⟨wb,o6.length*4+2,none⟩ (.int .u64 x)):=(n4.setCell (S:=fun k=>k=wb) rfl _).trans (n4.setCell (S:=fun k=>k=wb) rfl _)
 simp only [List.length_cons,Nat.add_zero] at h1
 have hr:=((h1.stored (o6.length*4+1) (.bool true)).1.stored (o6.length*4+2) (.int .u64 x)).1
 have N5:=h1.1
 refine aU.x8g (cells:=(cells.set (o6.length*4+1) (.bool true)).set (o6.length*4+2) (.int .u64 x)) (av:=(h3 o6.length o (by rw [List.reverse_cons,List.getElem?_append_right sP];simp)).choose) (h.cT.but hb (fun k hk=>by subst hk;omega)) rfl hr qV (fun i p hi=> ?_) ?_ ?_ ?_ ?_ ?_ ?_
 ·have P2:=(E2 hi).1
  rw [List.length_reverse] at P2
  obtain ⟨av,h4,h5,h6,h7,h8,h9⟩:=h3 i p (by rw [List.reverse_cons,List.getElem?_append_left (by simpa using P2)];exact hi)
  refine ⟨av,?_,?_,?_,?_,y7 h8 hb (fun k hk hs=>by subst hs;have:=h9 _ hk;omega),h9⟩
  ·rw [List.getElem?_set_ne oM,List.getElem?_set_ne oM];exact h4
  ·rw [List.getElem?_set_ne oM,List.getElem?_set_ne oM];exact h5
  ·rw [List.getElem?_set_ne oM,List.getElem?_set_ne oM];exact h6
  ·rw [List.getElem?_set_ne oM,List.getElem?_set_ne oM];exact h7
 all_goals (have hch:=(h3 o6.length o (by rw [List.reverse_cons,List.getElem?_append_right sP];simp)).choose_spec;obtain ⟨h4,h5,h6,h7,h8,h9⟩:=hch)
 ·rw [List.getElem?_set_ne oM,List.getElem?_set_ne oM];exact h4
 ·rw [List.getElem?_set_ne oM,List.getElem?_set_self oM]
 ·rw [List.getElem?_set_self sO]
 ·rw [List.getElem?_set_ne oM,List.getElem?_set_ne oM];exact h7
 ·exact y7 h8 hb (fun k hk hs=>by subst hs;have:=h9 _ hk;omega)
 ·exact h9
structure okO (N:Nat) (o:Open):Prop where
 ok:J8 o.st
 to:∀ a∈o.st.a6,0<=a.to
 uG:o.st.a6.length<=N
 cN:o.cN<256
structure Bnd (N M:Nat) (ss:List State) (o6:List Open):Prop where
 tail:∀ o∈o6.tail,okO N o
 head:∀ o,o6.head? =some o->okO (N+1) o
 size:ss.length+o6.length<=M
theorem okO.more {N N':Nat} {o:Open} (h:okO N o) (hn:N<=N'):okO N' o:=⟨h.ok,h.to,Nat.le_trans h.uG hn,h.cN⟩
theorem y8p {N n:Nat} {o:Open} (h:okO N o) (hN:N<=256):tN (less o.st n):=by
 refine ⟨⟨?_,by simp [less];exact h.ok.2.1,fun a ha=> ?_⟩,fun a ha=> ?_,by simp [less];have:=h.uG;omega⟩
 ·simp only [less]
  have:=h.ok.1
  split<;>omega
 ·simp only [less,List.mem_map] at ha
  obtain ⟨x,hx,rfl⟩:=ha
  have:=h.ok.2.2 x hx
  exact ⟨this.1,by have:=this.2.1;simp only;omega,this.2.2⟩
 ·simp only [less,List.mem_map] at ha
  obtain ⟨x,hx,rfl⟩:=ha
  exact h.to x hx
theorem gX (ss:List State) (s:State):(finish ss s).1.length<=ss.length+1/\(finish ss s).2<=ss.length:=by
 by_cases h:s∈ss
 ·obtain ⟨i,_,h2,h3⟩:=aB h
  rw [h3];simp only;omega
 ·rw [dJ h];simp
theorem Bnd.G6 {N M:Nat} {ss:List State} {o up:Open} {rest:List Open} (h:Bnd N M ss (o::up::rest)) (hM:M<=1000000) (hN:N<=200):Bnd N M (G6 ss up o).1 ((G6 ss up o).2::rest):=by
 have ho:=h.head o rfl
 have hu:=h.tail up (List.mem_cons_self ..)
 have hf:=gX ss (less o.st (leastOf o.st))
 have hs:=h.size
 refine ⟨fun x hx=>h.tail x (List.mem_cons_of_mem _ hx),fun x hx=> ?_,?_⟩
 ·injection hx with hx
  subst hx
  refine ⟨⟨hu.ok.1,?_,fun a ha=> ?_⟩,fun a ha=> ?_,?_,hu.cN⟩
  ·simp only [Dw.G6,List.length_append,List.length_cons,List.length_nil];have:=hu.uG;omega
  ·simp only [Dw.G6] at ha
   rcases List.mem_append.1 ha with ha | ha
   ·exact hu.ok.2.2 a ha
   ·simp at ha
    subst ha
    refine ⟨ho.cN,sN ho.ok,sQ,?_⟩
    simp only [List.length_cons] at hs |-
    omega
  ·simp only [Dw.G6] at ha
   rcases List.mem_append.1 ha with ha | ha
   ·exact hu.to a ha
   ·simp at ha
    subst ha
    simp
  ·simp only [Dw.G6,List.length_append,List.length_cons,List.length_nil];have:=hu.uG;omega
 ·simp only [Dw.G6,List.length_cons] at hs |-
  omega
theorem z6k {ss:List State} {o up:Open} {rest:List Open} {d:Nat} (h:d<=rest.length):close ss (o::up::rest) d=close (G6 ss up o).1 ((G6 ss up o).2::rest) d:=by
 unfold close
 simp only [List.length_cons]
 rw [show rest.length+1+1-(d+1)=(rest.length+1-(d+1))+1 by omega]
 rfl
theorem sR {ss:List State} {o6:List Open} {d:Nat} (h:o6.length<=d+1):close ss o6 d=(ss,o6):=by
 unfold close
 rw [show o6.length-(d+1)=0 by omega,R1]
theorem Bnd.closeN {N M:Nat} (hM:M<=1000000) (hN:N<=200):∀ (n:Nat) (ss:List State) (o6:List Open),Bnd N M ss o6->Bnd N M (closeN n ss o6).1 (closeN n ss o6).2
 | 0,ss,o6,h=>by rw [R1];exact h
 | n+1,ss,[],h=>by rw [G8 _ _ _ sP];exact h
 | n+1,ss,[o],h=>by rw [G8 _ _ _ sP];exact h
 | n+1,ss,o::up::o6,h=>Bnd.closeN hM hN n _ _ (h.G6 hM hN)
structure fD (N M:Nat) (ss:List State) (o6:List Open):Prop where
 all:∀ o∈o6,okO N o
 size:ss.length+o6.length<=M
theorem fD.bnd {N M:Nat} {ss:List State} {o6:List Open} (h:fD N M ss o6):Bnd N M ss o6 :=
 ⟨fun o ho=>h.all o (List.mem_of_mem_tail ho),fun o ho=>(h.all o (List.mem_of_mem_head? ho)).more oM,h.size⟩
theorem Bnd.all {N M:Nat} {ss:List State} {o6:List Open} (h:Bnd N M ss o6):fD (N+1) M ss o6:=by
 refine ⟨fun o ho=> ?_,h.size⟩
 cases o6 with
 | nil=>cases ho
 | cons x o6 =>
  rcases List.mem_cons.1 ho with rfl | ho
  ·exact h.head _ rfl
  ·exact (h.tail o ho).more oM
theorem z6j (x:Nat) (hx:x<256):okO 0 ⟨E1,x⟩:=⟨⟨by simp [E1],by simp [E1],by simp [E1]⟩,by simp [E1],by simp [E1],hx⟩
theorem fD.opens {N:Nat} {ss:List State}:∀ (l:List Nat) (o6:List Open) (M:Nat),(∀ x∈l,x<256)->fD N M ss o6->fD N (M+l.length) ss (opens o6 l)
 | [],o6,M,_,h=>h
 | x::l,o6,M,hl,h=>by
  have:=fD.opens (N:=N) (ss:=ss) l (⟨E1,x⟩::o6) (M+1) (fun y hy=>hl y (List.mem_cons_of_mem _ hy)) ⟨fun o ho=>by
   rcases List.mem_cons.1 ho with rfl | ho
   ·exact (z6j x (hl x (List.mem_cons_self ..))).more oM
   ·exact h.all o ho,by have:=h.size;simp only [List.length_cons];omega⟩
  rw [List.length_cons,show M+(l.length+1)=M+1+l.length by omega]
  exact this
theorem fD.mark {N M v:Nat} {ss:List State} {o6:List Open} (h:fD N M ss o6) (hv:v<18446744073709551616):fD N M ss (mark v o6):=by
 refine ⟨fun o ho=> ?_,by rw [eE];exact h.size⟩
 cases o6 with
 | nil=>cases ho
 | cons x o6 =>
  rcases List.mem_cons.1 ho with rfl | ho
  ·have:=h.all x (List.mem_cons_self ..)
   exact ⟨⟨hv,this.ok.2⟩,this.to,this.uG,this.cN⟩
  ·exact h.all o (List.mem_cons_of_mem _ ho)
theorem fD.add {N M:Nat} {ss:List State} {o6:List Open} {last:List Nat} {e:Wv} (h:fD N M ss o6) (hM:M<=1000000) (hN:N<=200) (he:∀ x∈e.1,x<256) (hv:e.2<18446744073709551616) :
  fD (N+1) (M+e.1.length) (add (ss,o6) last e).1 (add (ss,o6) last e).2:=by
 have h1:=(Bnd.closeN hM hN (o6.length-(shared last e.1+1)) ss o6 h.bnd).all
 have h2:=fD.opens (e.1.drop (shared last e.1)) _ _ (fun x hx=>he x (List.mem_of_mem_drop hx)) h1
 have h3:=h2.mark hv
 refine ⟨h3.all,?_⟩
 have:=h3.size
 rw [List.length_drop] at this
 show _<=M+e.1.length
 unfold Dw.add
 simp only [close] at *
 omega
end Dw
end Go.Proofs.YtcddnmhmcieebaaGreatDoor
