/- fst: Step. -/
import Derived.Test.YtcddnmhmcieebaaGreatDoorFA
import Derived.Test.YtcddnmhmcieebaaGreatDoorTools
namespace Go.Proofs.YtcddnmhmcieebaaGreatDoor
set_option maxHeartbeats 4000000
set_option maxRecDepth 100000
open Go.RowKit
set_option linter.unusedSimpArgs false
set_option linter.unusedVariables false
set_option linter.unnecessarySimpa false
namespace Dw
theorem oV (a b:Nat):(((a:Nat):Int)==((b:Nat):Int))=(a==b):=by
 by_cases h:a=b
 ·subst h;simp
 ·rw [beq_eq_false_iff_ne.2 (by omega:(a:Int)≠(b:Int)),beq_eq_false_iff_ne.2 h]
def X0 (b k:Nat) (a:r7):Bool:=(a.byte==b)&&decide (0<=a.to)&&decide (a.to<(k:Int))
def yK (b k:Nat) (l:List r7):Int:=match l.findIdx? (X0 b k) with
 | some i=>i
 | none=> -1
def stepV:Option r7->Value
 | some a=> .tuple #[.int .i64 a.to,.int .u64 a.out,.bool true]
 | none=> .tuple #[.int .i64 0,.int .u64 0,.bool false]
theorem z3b {b k i:Nat} {l:List r7} {a:r7} (h:l[i]? =some a) (hn:(l.take i).findIdx? (X0 b k)=none) (ha:X0 b k a=false):(l.take (i+1)).findIdx? (X0 b k)=none:=by
 rw [List.take_add_one,h,List.findIdx?_eq_none_iff]
 rw [List.findIdx?_eq_none_iff] at hn
 intro x hx
 rcases List.mem_append.1 hx with hx | hx
 ·exact hn x hx
 ·simp at hx;subst hx;exact ha
theorem z3a {b k i:Nat} {l:List r7} {a:r7} (h:l[i]? =some a) (hn:(l.take i).findIdx? (X0 b k)=none) (ha:X0 b k a=true):l.findIdx? (X0 b k)=some i:=by
 obtain ⟨n8,hga⟩:=E2 h
 rw [List.findIdx?_eq_none_iff] at hn
 rw [List.findIdx?_eq_some_iff_getElem]
 refine ⟨n8,by rw [hga];exact ha,fun j hj=> ?_⟩
 have:=hn l[j] (List.mem_take_iff_getElem.2 ⟨j,oM,rfl⟩)
 simp [this]
theorem y1c {b k:Nat} {l:List r7} {x:Int} (h:yK b k l=x) (hf:l.find? (X0 b k)=none):x= -1:=by
 rw [<- h]
 unfold yK
 have:l.findIdx? (X0 b k)=none:=by
  rw [List.findIdx?_eq_none_iff]
  intro a ha
  have:=List.find?_eq_none.1 hf a ha
  simpa using this
 rw [this]
theorem y1a {b k:Nat} {l:List r7} {x:Int} {a:r7} (h:yK b k l=x) (hf:l.find? (X0 b k)=some a):∃ j:Nat,l[j]? =some a/\x=(j:Int):=by
 rw [List.find?_eq_some_iff_getElem] at hf
 obtain ⟨ha,i,hi,aN,hno⟩:=hf
 refine ⟨i,by rw [D9 hi,aN],?_⟩
 rw [<- h]
 unfold yK
 have:l.findIdx? (X0 b k)=some i:=by
  rw [List.findIdx?_eq_some_iff_getElem]
  refine ⟨hi,by rw [aN];exact ha,fun j hj=> ?_⟩
  have:=hno j hj
  simpa using this
 rw [this]
theorem v4w (w:World) (p q:Nat) (a:r7) (b k:Nat) (hp:w.cell? ⟨p,0,none⟩=some (.int .u8 b)) (hq:w.cell? ⟨q,0,none⟩=some (.int .i64 k)) (h1:(a.byte==b)=false):G4 w 162 #[.agg #[.int .u8 a.byte,.int .u64 a.out,.int .i64 a.to],.pointer (some ⟨p,0,none⟩),.pointer (some ⟨q,0,none⟩)] (.bool false):=by
 refine lM 20 Tryz.func162 fun fr hf s0 s1 s2=> ?_
 have q1:(((a.byte:Nat):Int)==((b:Nat):Int))=false:=(oV _ _).trans h1
 clear h1
 refine Ze fun _ b7=>Zr [] hf ?_
 refine B1 1 2 3 hf ?_
 clear hf s0 s1 s2;intro a7 hf sS
 generalize p8:w.alloc (.cells #[.int .u8 a.byte,.int .u64 a.out,.int .i64 a.to] 71)=W0
 obtain ⟨p9,c0,c1,c2, -, -⟩:=G1 p8
 clear p8
 have d0:=cL p9 hp;have d1:=cL p9 hq
 refine Zs b7 fun _ b7=> ?_
 have qs:=q1
 refine Zr [5,6,7,8,9,10,11,12,13,14,15,16,17,18,19] hf ?_
 refine r6 4 hf ?_
 clear hf sS qs;intro a7 hf s4
 refine Zx b7 (k8 ?_)
 exact Fc.o9 rfl hf s4 ⟨rfl,p9⟩
theorem v4v (w:World) (p q:Nat) (a:r7) (b k:Nat) (hp:w.cell? ⟨p,0,none⟩=some (.int .u8 b)) (hq:w.cell? ⟨q,0,none⟩=some (.int .i64 k)) (h1:(a.byte==b)=true) (h2:decide (0<=a.to)=false):G4 w 162 #[.agg #[.int .u8 a.byte,.int .u64 a.out,.int .i64 a.to],.pointer (some ⟨p,0,none⟩),.pointer (some ⟨q,0,none⟩)] (.bool false):=by
 refine lM 20 Tryz.func162 fun fr hf s0 s1 s2=> ?_
 have q1:(((a.byte:Nat):Int)==((b:Nat):Int))=true:=(oV _ _).trans h1
 clear h1
 refine Ze fun _ b7=>Zr [] hf ?_
 refine B1 1 2 3 hf ?_
 clear hf s0 s1 s2;intro a7 hf sS
 generalize p8:w.alloc (.cells #[.int .u8 a.byte,.int .u64 a.out,.int .i64 a.to] 71)=W0
 obtain ⟨p9,c0,c1,c2, -, -⟩:=G1 p8
 clear p8
 have d0:=cL p9 hp;have d1:=cL p9 hq
 refine Zs b7 fun _ b7=> ?_
 have qs:=And.intro q1 h2
 refine Zr [5,6,7,8,9,10,11,12,13,14,15,16,17,18,19] hf ?_
 refine r6 4 hf ?_
 clear hf sS qs;intro a7 hf s4
 refine Zx b7 (k8 ?_)
 exact Fc.o9 rfl hf s4 ⟨rfl,p9⟩
theorem v4u (w:World) (p q:Nat) (a:r7) (b k:Nat) (hp:w.cell? ⟨p,0,none⟩=some (.int .u8 b)) (hq:w.cell? ⟨q,0,none⟩=some (.int .i64 k)) (h1:(a.byte==b)=true) (h2:decide (0<=a.to)=true) (h3:decide (a.to<(k:Int))=false):G4 w 162 #[.agg #[.int .u8 a.byte,.int .u64 a.out,.int .i64 a.to],.pointer (some ⟨p,0,none⟩),.pointer (some ⟨q,0,none⟩)] (.bool false):=by
 refine lM 20 Tryz.func162 fun fr hf s0 s1 s2=> ?_
 have q1:(((a.byte:Nat):Int)==((b:Nat):Int))=true:=(oV _ _).trans h1
 clear h1
 refine Ze fun _ b7=>Zr [] hf ?_
 refine B1 1 2 3 hf ?_
 clear hf s0 s1 s2;intro a7 hf sS
 generalize p8:w.alloc (.cells #[.int .u8 a.byte,.int .u64 a.out,.int .i64 a.to] 71)=W0
 obtain ⟨p9,c0,c1,c2, -, -⟩:=G1 p8
 clear p8
 have d0:=cL p9 hp;have d1:=cL p9 hq
 refine Zs b7 fun _ b7=> ?_
 have qs:=And.intro q1 (And.intro h2 h3)
 refine Zr [5,6,7,8,9,10,11,12,13,14,15,16,17,18,19] hf ?_
 refine r6 4 hf ?_
 clear hf sS qs;intro a7 hf s4
 refine Zx b7 (k8 ?_)
 exact Fc.o9 rfl hf s4 ⟨rfl,p9⟩
theorem v4t (w:World) (p q:Nat) (a:r7) (b k:Nat) (hp:w.cell? ⟨p,0,none⟩=some (.int .u8 b)) (hq:w.cell? ⟨q,0,none⟩=some (.int .i64 k)) (h1:(a.byte==b)=true) (h2:decide (0<=a.to)=true) (h3:decide (a.to<(k:Int))=true):G4 w 162 #[.agg #[.int .u8 a.byte,.int .u64 a.out,.int .i64 a.to],.pointer (some ⟨p,0,none⟩),.pointer (some ⟨q,0,none⟩)] (.bool true):=by
 refine lM 20 Tryz.func162 fun fr hf s0 s1 s2=> ?_
 have q1:(((a.byte:Nat):Int)==((b:Nat):Int))=true:=(oV _ _).trans h1
 clear h1
 refine Ze fun _ b7=>Zr [] hf ?_
 refine B1 1 2 3 hf ?_
 clear hf s0 s1 s2;intro a7 hf sS
 generalize p8:w.alloc (.cells #[.int .u8 a.byte,.int .u64 a.out,.int .i64 a.to] 71)=W0
 obtain ⟨p9,c0,c1,c2, -, -⟩:=G1 p8
 clear p8
 have d0:=cL p9 hp;have d1:=cL p9 hq
 refine Zs b7 fun _ b7=> ?_
 have qs:=And.intro q1 (And.intro h2 h3)
 refine Zr [5,6,7,8,9,10,11,12,13,14,15,16,17,18,19] hf ?_
 refine r6 4 hf ?_
 clear hf sS qs;intro a7 hf s4
 refine Zx b7 (k8 ?_)
 exact Fc.o9 rfl hf s4 ⟨rfl,p9⟩
theorem w4m (w:World) (p q:Nat) (a:r7) (b k:Nat) (hp:w.cell? ⟨p,0,none⟩=some (.int .u8 b)) (hq:w.cell? ⟨q,0,none⟩=some (.int .i64 k)):G4 w 162 #[.agg #[.int .u8 a.byte,.int .u64 a.out,.int .i64 a.to],.pointer (some ⟨p,0,none⟩),.pointer (some ⟨q,0,none⟩)] (.bool (X0 b k a)):=by
 unfold X0
 cases h1:(a.byte==b) with
 | false=>exact v4w w p q a b k hp hq h1
 | true=>cases h2:decide (0<=a.to) with
  | false=>exact v4v w p q a b k hp hq h1 h2
  | true=>cases h3:decide (a.to<(k:Int)) with
   | false=>exact v4u w p q a b k hp hq h1 h2 h3
   | true=>exact v4t w p q a b k hp hq h1 h2 h3
theorem y0z (w:World) (l:List r7) (v:Value) (bA:RA w (fun _=>True) v l) (hlen:l.length<4611686018427387904) (p q b k:Nat) (hp:w.cell? ⟨p,0,none⟩=some (.int .u8 b)) (hq:w.cell? ⟨q,0,none⟩=some (.int .i64 k)):G4 w 161 #[v,.func (.func 162) #[] #[.pointer (some ⟨p,0,none⟩),.pointer (some ⟨q,0,none⟩)]] (.int .i64 (yK b k l)):=by
 refine aT 19 Tryz.func161 fun fr hf s0 s1=> ?_
 obtain ⟨A,cc,rfl,Z3⟩:=bA.form
 refine Ze fun _ b7=>Zr [] hf ?_
 refine C1 0 1 hf ?_
 clear hf s0 s1;intro a7 hf sS
 refine Zs b7 fun _ b7=>Ze fun _ j8=>Zr [6] hf ?_
 refine C0 0 1 7 8 hf ?_
 clear hf sS;intro a7 hf sS
 refine Zx j8 (wp_block (wp_loop_ghost (fun gk fr wr=>∃ (i:Nat),gk=l.length-i/\i<=l.length/\Fc.Fr 19 fr/\fr.tmps[0]? =some (.slice A l.length cc)/\fr.tmps[1]? =some (.func (.func 162) #[] #[.pointer (some ⟨p,0,none⟩),.pointer (some ⟨q,0,none⟩)])/\fr.tmps[7]? =some (.int .i64 l.length)/\fr.tmps[8]? =some (.int .i64 i)/\(l.take i).findIdx? (X0 b k)=none/\Below w.heap.size w wr) (l.length) ?_ ?_))
 . (
 obtain ⟨s0,s1,s7,s8⟩:=sS
 exact ⟨0,rfl,Nat.zero_le _,hf,s0,s1,s7,s8,rfl,Below.refl _ _⟩)
 . (
 clear hf sS
 rintro gk fr wr ⟨i,hk,hi,hf,s0,s1,s7,s8,hno,hb⟩
 have HK:=H9 hk;have HNO:=H9 hno;clear hk hno
 refine Ze fun _ j8=>Zr [] hf ?_
 refine D0 0 1 7 8 9 hf ?_
 clear hf s0 s1 s7 s8;intro a7 hf sS
 refine Zs j8 fun _ j8=>Fc.l0 sS.2.2.2.2 (fun H7=> ?_) (fun H7=> ?_)
 . (
 have n8:i<l.length:=by have h9:=of_decide_eq_true H7;omega
 clear H7
 obtain ⟨a,aN⟩:∃ a,l[i]? =some a:=⟨_,D9 n8⟩
 obtain ⟨b3,y7d,rfl,aF,y0,y1,y2⟩:=(bA.later hb).at' aN
 have C5:=cL hb hp;have jM:=cL hb hq
 have HIA:=H9 aN;clear aN
 refine wp_skip (Zs j8 fun _ j8=>wp_block (Ze fun _ l6=>Zr [10] hf ?_))
 refine D0 0 1 5 7 8 hf ?_
 clear hf sS;intro a7 hf sS
 refine Zt l6 fun _ l6=> ?_
 have bB:=hf.B5 11 12 13 14 15
 iterate 5 refine Zy ?_
 refine Zc (w4m wr p q a b k C5 jM) ?_;rintro e w2 ⟨rfl,r9⟩
 refine Zv ?_
 refine Fc.nil (J3 0 1 5 7 8 16 hf ?_)
 clear hf sS bB;intro a7 hf sS
 refine Zx l6 (Fc.l0 sS.2.2.2.2.2 (fun T3=> ?_) (fun T3=> ?_))
 . (
 have HH:=H9 T3;clear T3
 refine Ze fun _ l6=>Zr [17] hf ?_
 refine r6 4 hf ?_
 clear hf sS;intro a7 hf s4
 refine Zx l6 (k8 ?_)
 exact Fc.o9 rfl hf s4 ⟨by unfold yK;rw [z3a HIA.out HNO.out HH.out],hb.trans (r9.mono hb.size)⟩)
 . (
 have HH:=H9 T3;clear T3
 refine wp_skip (Fc.j7 (Zx j8 (Zr [18] hf ?_)))
 refine C0 0 1 7 8 hf ?_
 clear hf sS;intro a7 hf sS
 refine Fc.j6 ?_
 obtain ⟨s0,s1,s7,s8⟩:=sS
 exact ⟨_,by have:=HK.out;omega,i+1,rfl,oM,hf,s0,s1,s7,by rw [s8];rfl,z3b HIA.out HNO.out HH.out,hb.trans (r9.mono hb.size)⟩))
 . (
 have F3:i=l.length:=by have h9:=of_decide_eq_false H7;omega
 clear H7
 refine Zo ?_
 refine Zs b7 fun _ b7=>Zr [] hf ?_
 refine r6 4 hf ?_
 clear hf sS;intro a7 hf s4
 refine Zx b7 (k8 ?_)
 exact Fc.o9 rfl hf s4 ⟨by have h:=HNO.out;rw [F3,List.take_length] at h;unfold yK;rw [h],hb⟩))
theorem w4l (w:World) (sv:Value) (init:Nat) (ss:List State) (o7:RS w sv ss) (k b:Nat) (st:State) (hk:ss[k]? =some st) (nY:ss.length<=1000000000) (hlen:st.a6.length<4611686018427387904) (kD:st.a6.find? (X0 b k)=none):G4 w 150 #[.agg #[sv,.int .u64 init],.int .i64 k,.int .u8 b] (.tuple #[.int .i64 0,.int .u64 0,.bool false]):=by
 refine lM 43 Tryz.func150 fun fr hf s0 s1 s2=> ?_
 obtain ⟨A,cc,rfl,Z3⟩:=o7.form
 have n8:=(E2 hk).1
 have q1:decide ((k:Int)<0)=false:=decide_eq_false oM
 have q2:decide (ss.length<=k)=false:=decide_eq_false oM
 refine Ze fun _ b7=>Zr [] hf ?_
 refine B1 3 4 5 hf ?_
 clear hf s0 s1 s2;intro a7 hf sS
 obtain ⟨W0,p8⟩:∃ x,((w.alloc (.cells #[.slice A ss.length cc,.int .u64 init] 38)).alloc (.cells #[.int .i64 k] 3)).alloc (.cells #[.int .u8 b] 5)=x:=⟨_,rfl⟩
 obtain ⟨s3,s4,s5⟩:=sS
 try simp only [World.size_alloc] at s3 s4 s5
 try rw [p8]
 obtain ⟨p9,F1,C5,J2⟩:=bD p8
 clear p8
 have c0:=n5 0 F1;have c1:=n5 1 F1;have k0:=n5 0 C5;have b0:=n5 0 J2
 simp at c0 c1 k0 b0
 have cQ:=o7.later p9
 clear o7 F1 C5 J2
 obtain ⟨bb,off,av,hA,D3⟩:=cQ.at_ hk
 subst hA
 have d0:=D3.c0
 have bA:=D3.a6
 obtain ⟨A2,c2,aE,hc2⟩:=bA.form
 subst aE
 clear D3
 refine Zs b7 fun _ b7=>Ze fun _ j8=> ?_
 have qs:=And.intro q1 q2
 refine Zr [11,12,13,14,15,16,17,18] hf ?_
 refine C0 3 4 5 19 hf ?_
 clear hf s3 s4 s5 qs;intro a7 hf sS
 refine Zx j8 (Fc.k9 sS.2.2.2 ?_)
 clear q1 q2
 refine wp_skip (Zt b7 fun _ b7=> ?_)
 obtain ⟨b20,b21,b22,b23,b24,b25,b26,b27⟩:=hf.B8 20 21 22 23 24 25 26 27
 iterate 7 refine Zy ?_
 refine fp fun K Z=> ?_
 go_simp
 go_at_call 161;refine (y0z W0 st.a6 _ bA hlen _ _ b k b0 k0).mono ?_;rintro e w1 ⟨rfl,n7⟩
 generalize hix:yK b k st.a6=ix
 have HIX:=H9 hix;clear hix
 replace c0:=cL n7 c0;replace c1:=cL n7 c1;replace k0:=cL n7 k0;replace d0:=cL n7 d0;replace bA:=bA.later n7
 replace p9:=p9.trans (n7.mono p9.size)
 clear b0
 try dsimp only
 apply Z.out;clear Z K
 refine Zy ?_
 refine Fc.nil (B1 3 4 9 hf ?_)
 clear hf sS b20 b21 b22 b23 b24 b25 b26 b27;intro a7 hf sS
 refine Zx b7 ?_
 have hx:=y1c HIX.out kD
 subst hx
 refine Ze fun _ b7=>Ze fun _ j8=>Zr [28] hf ?_
 refine C0 3 4 9 29 hf ?_
 clear hf sS;intro a7 hf sS
 refine Zx j8 (Fc.l8 sS.2.2.2 ?_)
 refine Ze fun _ j8=>Zr [] hf ?_
 refine B1 6 7 8 hf ?_
 clear hf sS;intro a7 hf sS
 refine Zx j8 (k8 ?_)
 obtain ⟨s6,s7,s8⟩:=sS
 exact Fc.tU rfl hf s6 s7 s8 ⟨rfl,p9⟩
theorem w4k (w:World) (sv:Value) (init:Nat) (ss:List State) (o7:RS w sv ss) (k b:Nat) (st:State) (hk:ss[k]? =some st) (nY:ss.length<=1000000000) (hlen:st.a6.length<4611686018427387904) (a:r7) (kD:st.a6.find? (X0 b k)=some a):G4 w 150 #[.agg #[sv,.int .u64 init],.int .i64 k,.int .u8 b] (.tuple #[.int .i64 a.to,.int .u64 a.out,.bool true]):=by
 refine lM 43 Tryz.func150 fun fr hf s0 s1 s2=> ?_
 obtain ⟨A,cc,rfl,Z3⟩:=o7.form
 have n8:=(E2 hk).1
 have q1:decide ((k:Int)<0)=false:=decide_eq_false oM
 have q2:decide (ss.length<=k)=false:=decide_eq_false oM
 refine Ze fun _ b7=>Zr [] hf ?_
 refine B1 3 4 5 hf ?_
 clear hf s0 s1 s2;intro a7 hf sS
 obtain ⟨W0,p8⟩:∃ x,((w.alloc (.cells #[.slice A ss.length cc,.int .u64 init] 38)).alloc (.cells #[.int .i64 k] 3)).alloc (.cells #[.int .u8 b] 5)=x:=⟨_,rfl⟩
 obtain ⟨s3,s4,s5⟩:=sS
 try simp only [World.size_alloc] at s3 s4 s5
 try rw [p8]
 obtain ⟨p9,F1,C5,J2⟩:=bD p8
 clear p8
 have c0:=n5 0 F1;have c1:=n5 1 F1;have k0:=n5 0 C5;have b0:=n5 0 J2
 simp at c0 c1 k0 b0
 have cQ:=o7.later p9
 clear o7 F1 C5 J2
 obtain ⟨bb,off,av,hA,D3⟩:=cQ.at_ hk
 subst hA
 have d0:=D3.c0
 have bA:=D3.a6
 obtain ⟨A2,c2,aE,hc2⟩:=bA.form
 subst aE
 clear D3
 refine Zs b7 fun _ b7=>Ze fun _ j8=> ?_
 have qs:=And.intro q1 q2
 refine Zr [11,12,13,14,15,16,17,18] hf ?_
 refine C0 3 4 5 19 hf ?_
 clear hf s3 s4 s5 qs;intro a7 hf sS
 refine Zx j8 (Fc.k9 sS.2.2.2 ?_)
 clear q1 q2
 refine wp_skip (Zt b7 fun _ b7=> ?_)
 obtain ⟨b20,b21,b22,b23,b24,b25,b26,b27⟩:=hf.B8 20 21 22 23 24 25 26 27
 iterate 7 refine Zy ?_
 refine fp fun K Z=> ?_
 go_simp
 go_at_call 161;refine (y0z W0 st.a6 _ bA hlen _ _ b k b0 k0).mono ?_;rintro e w1 ⟨rfl,n7⟩
 generalize hix:yK b k st.a6=ix
 have HIX:=H9 hix;clear hix
 replace c0:=cL n7 c0;replace c1:=cL n7 c1;replace k0:=cL n7 k0;replace d0:=cL n7 d0;replace bA:=bA.later n7
 replace p9:=p9.trans (n7.mono p9.size)
 clear b0
 try dsimp only
 apply Z.out;clear Z K
 refine Zy ?_
 refine Fc.nil (B1 3 4 9 hf ?_)
 clear hf sS b20 b21 b22 b23 b24 b25 b26 b27;intro a7 hf sS
 refine Zx b7 ?_
 obtain ⟨j,hj,mF⟩:=y1a HIX.out kD
 subst mF
 obtain ⟨b3,y7d,hA3,aF,y0,y1,y2⟩:=bA.at' hj
 subst hA3
 have hjl:=(E2 hj).1
 clear hj
 have q3:decide ((j:Int)<0)=false:=decide_eq_false oM
 refine Ze fun _ b7=>Ze fun _ j8=>Zr [28] hf ?_
 refine C0 3 4 9 29 hf ?_
 clear hf sS;intro a7 hf sS
 refine Zx j8 (Fc.k9 sS.2.2.2 ?_)
 clear q3
 refine wp_skip (Zs b7 fun _ b7=>Zr [30,31,32,33,34,35,36,37,38,10] hf ?_)
 refine r6 10 hf ?_
 clear hf sS;intro a7 hf y4
 generalize kB:w1.alloc (.cells #[.int .u8 a.byte,.int .u64 a.out,.int .i64 a.to] 71)=W3
 obtain ⟨D4,z0,z1,z2, -, -⟩:=G1 kB
 clear kB
 refine Zs b7 fun _ b7=>Sb.tb 43 fun a8=> ?_
 refine Sb.T 0 hf a8 ?_ (hF:=fun _ _ h d=>Sb.O h y4)
 refine Sb.T 1 hf a8 ?_ (hF:=fun _ _ h d=>ad (cL h.ext z1) (cL h.ext z2))
 refine Sb.T 2 hf a8 ?_ (hF:=fun _ _ h d=>Sb.O h y4)
 refine Sb.T 3 hf a8 ?_ (hF:=fun _ _ h d=>ad (cL h.ext z1) (cL h.ext z2))
 refine Sb.mN 4 1 2 hf a8 [] ?_
 refine Sb.mN 5 3 1 hf a8 [] ?_
 refine Sb.T 6 hf a8 ?_
 refine Sb.E hf a8 (fun _ _ h g=>ad (Sb.f 4 2 g) (ad (Sb.f 5 1 g) (Sb.f 6 0 g))) ?_
 clear hf a8 y4;intro a7 w1 hf hx sS
 replace z1:=cL hx z1
 replace z2:=cL hx z2
 refine Zx b7 (k8 ?_)
 obtain ⟨s6,s7,s8⟩:=sS
 exact Fc.tU rfl hf s6 s7 s8 ⟨rfl,p9.trans ((D4.trans (hx.mono D4.size)).mono p9.size)⟩
theorem yL (w:World) (sv:Value) (init:Nat) (ss:List State) (o7:RS w sv ss) (k b:Nat) (st:State) (hk:ss[k]? =some st) (nY:ss.length<=1000000000) (hlen:st.a6.length<4611686018427387904):G4 w 150 #[.agg #[sv,.int .u64 init],.int .i64 k,.int .u8 b] (stepV (st.a6.find? (X0 b k))):=by
 cases h:st.a6.find? (X0 b k) with
 | none=>exact w4l w sv init ss o7 k b st hk nY hlen h
 | some a=>exact w4k w sv init ss o7 k b st hk nY hlen a h
def RB (w:World) (g:Nat) (l:List Nat):Prop:=∀ (i x:Nat),l[i]? =some x->w.cell? ⟨g,i,none⟩=some (.int .u8 x)
theorem RB.later {w w':World} {g:Nat} {l:List Nat} (h:RB w g l) (hb:Below w.heap.size w w'):RB w' g l:=fun i x hx=>cL hb (h i x hx)
def Z5 (l:List Nat):Prop:=∀ (i j x y:Nat),i<j->l[i]? =some x->l[j]? =some y->x<y
theorem u2m (w:World) (x:Nat):Calls Tryz.prog 193 #[.int .u8 x] w fun e w1=>e= .returned (.bool false)/\w=w1:=by
 refine S8 6 Tryz.func193 fun fr hf s0=> ?_
 refine Ze fun _ b7=>Zr [] hf ?_
 refine r6 0 hf ?_
 clear hf s0;intro a7 hf s0
 refine Zs b7 fun _ b7=>Zr [3,4,5] hf ?_
 refine r6 2 hf ?_
 clear hf s0;intro a7 hf s2
 refine Zx b7 (k8 ?_)
 exact Fc.o9 rfl hf s2 ⟨rfl,rfl⟩
theorem y0y (w:World) (x y:Nat):Calls Tryz.prog 184 #[.int .u8 x,.int .u8 y] w fun e w1=>e= .returned (.bool (decide (x<y)))/\w=w1:=by
 refine aT 17 Tryz.func184 fun fr hf s0 s1=> ?_
 refine Ze fun _ b7=>Zr [] hf ?_
 refine C1 0 1 hf ?_
 clear hf s0 s1;intro a7 hf sS
 refine Zt b7 fun _ b7=> ?_
 have bB:=And.intro (hf.pL 5 6 7 8 9 10 11 12 13 14) (hf.B2 15 16)
 refine Zy ?_
 refine Zc (u2m w x) ?_;rintro e w1 ⟨rfl,rfl⟩
 refine Zv ?_
 iterate 11 refine Zy ?_
 refine Fc.nil (r6 4 hf ?_)
 clear hf sS bB;intro a7 hf s4
 refine Zx b7 (k8 ?_)
 exact Fc.o9 rfl hf s4 ⟨rfl,rfl⟩
theorem w4j (w:World) (g n c:Nat) (l:List Nat) (hl:l.length=n) (hn:n<=1000000) (hr:RB w g l) (hs:Hid (Z5 l)) (a b:Nat) (hab:a<b) (hbn:b<n) (sp:Value):G4 w 194 #[.slice (some ⟨g,0,none⟩) n c,.int .i64 a,.int .i64 b,sp] (.tuple #[.int .i64 a,.int .i64 b]):=by
 refine Zn4 28 Tryz.func194 fun fr hf s0 s1 s2 s3=> ?_
 obtain ⟨xi,eA⟩:∃ x,l[a]? =some x:=⟨_,D9 oM⟩
 obtain ⟨xj,mF⟩:∃ x,l[b]? =some x:=⟨_,D9 oM⟩
 have ci:=hr _ _ eA;have cj:=hr _ _ mF
 have dU:=hs.out _ _ _ _ oM eA mF
 clear eA mF
 have HIJ:=H9 dU;clear dU
 refine Ze fun _ b7=>Zr [] hf ?_
 refine C0 0 1 2 3 hf ?_
 clear hf s0 s1 s2 s3;intro a7 hf sS
 refine Zs b7 fun _ b7=>Ze fun _ j8=> ?_
 obtain ⟨s0,s1,s2,s3⟩:=sS
 refine Sb.tb 28 fun a8=> ?_
 refine Sb.mO 0 s0 hf a8 ?_
 refine Sb.mO 1 s2 hf a8 ?_
 apply Sb.tq 2 _ hf a8
 . (
 intro a7 w1 hh hd hk K Z
 have y4:=Sb.v 0 1 hd hk []
 have C7:=Sb.v 1 0 hd hk []
 clear hd
 go_simp
 try rw [if_pos (by omega)]
 exact Sb.k Z)
 refine Sb.T 3 hf a8 ?_ (hF:=fun _ _ h d=>ad (cL h.ext ci) (cL h.ext cj))
 refine Sb.mO 4 s0 hf a8 ?_
 refine Sb.mO 5 s1 hf a8 ?_
 apply Sb.tq 6 _ hf a8
 . (
 intro a7 w1 hh hd hk K Z
 have fW:=Sb.v 4 1 hd hk []
 have s15:=Sb.v 5 0 hd hk []
 clear hd
 go_simp
 try rw [if_pos (by omega)]
 exact Sb.k Z)
 refine Sb.T 7 hf a8 ?_ (hF:=fun _ _ h d=>ad (cL h.ext ci) (cL h.ext cj))
 apply Sb.tq 8 _ hf a8
 . (
 intro a7 w1 hh hd hk K Z
 have J0:=Sb.v 3 4 hd hk []
 have N7:=Sb.v 7 0 hd hk []
 clear hd
 replace ci:=cL hh.ext ci
 replace cj:=cL hh.ext cj
 go_simp
 go_at_call 184;refine (y0y w1 xj xi).mono ?_;rintro e w2 ⟨rfl,rfl⟩
 rw [decide_eq_false (show ¬ xj<xi by have:=HIJ.out;omega)]
 exact Sb.k Z)
 refine Sb.E hf a8 (fun _ _ h g=>ad (Sb.O h s1) (ad (Sb.O h s2) (ad (Sb.O h s3) (Sb.f 8 0 g)))) ?_
 clear hf a8 s0 s1 s2 s3;intro a7 w1 hf hx sS
 replace ci:=cL hx ci
 replace cj:=cL hx cj
 refine Zx j8 (Fc.k9 sS.2.2.2 ?_)
 refine wp_skip (Zs b7 fun _ b7=>Zr [26,27] hf ?_)
 refine C1 8 9 hf ?_
 clear hf sS;intro a7 hf sS
 refine Zx b7 (k8 ?_)
 exact Fc.U6 rfl hf sS.1 sS.2 ⟨rfl,hx⟩
theorem w4h (w:World) (g n c:Nat) (l:List Nat) (hl:l.length=n) (hn:n<=1000000) (hr:RB w g l) (hs:Hid (Z5 l)) (i j k:Nat) (dU:i<j) (hjk:j<k) (hk:k<n) (sp:Value):G4 w 192 #[.slice (some ⟨g,0,none⟩) n c,.int .i64 i,.int .i64 j,.int .i64 k,sp] (.int .i64 j):=by
 refine Zn5 36 Tryz.func192 fun fr hf s0 s1 s2 s3 s4=> ?_
 refine Ze fun _ b7=>Zr [] hf ?_
 refine D0 0 1 2 3 4 hf ?_
 clear hf s0 s1 s2 s3 s4;intro a7 hf sS
 refine Zt b7 fun _ b7=> ?_
 have bB:=hf.B8 12 13 14 15 16 11 17 18
 iterate 4 refine Zy ?_
 refine Zc (w4j w g n c l hl hn hr hs i j dU oM sp) ?_;rintro e w1 ⟨rfl,n7⟩
 have hr1:=hr.later n7
 refine Zv ?_
 iterate 5 refine Zy ?_
 refine Fc.nil (D0 0 1 2 3 4 hf ?_)
 clear hf sS bB;intro a7 hf sS
 refine Zt b7 fun _ b7=> ?_
 have bB:=hf.B8 20 21 22 23 24 19 25 26
 iterate 4 refine Zy ?_
 refine Zc (w4j w1 g n c l hl hn hr1 hs j k hjk hk sp) ?_;rintro e w2 ⟨rfl,r9⟩
 have S5:=hr1.later r9
 have tS:=n7.trans (r9.mono n7.size)
 refine Zv ?_
 iterate 5 refine Zy ?_
 refine Fc.nil (C0 0 1 2 4 hf ?_)
 clear hf sS bB;intro a7 hf sS
 refine Zt b7 fun _ b7=> ?_
 have bB:=hf.B8 28 29 30 31 32 27 33 34
 iterate 4 refine Zy ?_
 refine Zc (w4j w2 g n c l hl hn S5 hs i j dU oM sp) ?_;rintro e w3 ⟨rfl,D4⟩
 have cX:=tS.trans (D4.mono tS.size)
 refine Zv ?_
 iterate 5 refine Zy ?_
 refine Fc.nil (r6 2 hf ?_)
 clear hf sS bB;intro a7 hf s2
 refine Zs b7 fun _ b7=>Zr [35] hf ?_
 refine r6 10 hf ?_
 clear hf s2;intro a7 hf y4
 refine Zx b7 (k8 ?_)
 exact Fc.o9 rfl hf y4 ⟨rfl,cX⟩
theorem z2z (w:World) (g n c:Nat) (l:List Nat) (hl:l.length=n) (hn:n<=1000000) (hr:RB w g l) (hs:Hid (Z5 l)) (i:Nat) (hi:i+2<n) (sp:Value):G4 w 191 #[.slice (some ⟨g,0,none⟩) n c,.int .i64 (i+1:Nat),sp] (.int .i64 (i+1:Nat)):=by
 refine lM 15 Tryz.func191 fun fr hf s0 s1 s2=> ?_
 obtain ⟨j,hj⟩:∃ j,i+1=j:=⟨_,rfl⟩
 rw [hj] at s1 |-
 have e1:IntKind.i64.wrap ((j:Int)-1)=(i:Int):=by rw [Fc.wrap_i64 oM oM];omega
 have e2:IntKind.i64.wrap ((j:Int)+1)=((i+2:Nat):Int):=by rw [Fc.wrap_i64 oM oM];omega
 have HJ:=H9 hj;clear hj
 refine Ze fun _ b7=>Zr [] hf ?_
 refine B1 0 1 2 hf ?_
 clear hf s0 s1 s2;intro a7 hf sS
 refine Zt b7 fun _ b7=> ?_
 have bB:=hf.B8 7 8 9 10 11 12 13 14
 iterate 2 refine Zy ?_
 refine fp fun K Z=> ?_
 go_simp
 try simp (disch:=omega) only [Fc.W]
 try rw [e1]
 apply Z.out;clear Z K
 iterate 2 refine Zy ?_
 refine fp fun K Z=> ?_
 go_simp
 try simp (disch:=omega) only [Fc.W]
 try rw [e2]
 apply Z.out;clear Z K
 refine Zy ?_
 refine Zc (w4h w g n c l hl hn hr hs i j (i+2) (by have:=HJ.out;omega) (by have:=HJ.out;omega) hi sp) ?_;rintro e w1 ⟨rfl,n7⟩
 refine Zv ?_
 refine Zy ?_
 refine Fc.nil (r6 6 hf ?_)
 clear hf sS bB;intro a7 hf s6
 refine Zx b7 (k8 ?_)
 exact Fc.o9 rfl hf s6 ⟨rfl,n7⟩
theorem y6l (w:World) (g n c:Nat) (l:List Nat) (hl:l.length=n) (hn:n<=1000000) (hr:RB w g l) (hs:Hid (Z5 l)) (hk:8<=n/\n<50):Calls Tryz.prog 181 #[.slice (some ⟨g,0,none⟩) n c,.int .i64 0,.int .i64 n] w fun e w1=>(∃ p:Int,e= .returned (.tuple #[.int .i64 p,.int .i64 1]))/\Below w.heap.size w w1:=by
 refine lM 57 Tryz.func181 fun fr hf s0 s1 s2=> ?_
 obtain ⟨m,hm⟩:∃ m,n / 4=m:=⟨_,rfl⟩
 have hq:((n:Nat):Int).tdiv 4=(m:Int):=by rw [<- hm];rfl
 have e1:IntKind.i64.wrap ((m:Int)*1)=(m:Int):=by rw [Fc.wrap_i64 oM oM];omega
 have e2:IntKind.i64.wrap ((m:Int)*2)=((m*2:Nat):Int):=by rw [Fc.wrap_i64 oM oM];omega
 have e3:IntKind.i64.wrap ((m:Int)*3)=((m*3:Nat):Int):=by rw [Fc.wrap_i64 oM oM];omega
 have HM:=H9 hm;clear hm
 obtain ⟨m2,fU⟩:∃ x,m*2=x:=⟨_,rfl⟩
 obtain ⟨m3,hm3⟩:∃ x,m*3=x:=⟨_,rfl⟩
 rw [fU] at e2;rw [hm3] at e3
 have kU:=H9 fU;have kV:=H9 hm3;clear fU hm3
 have z0:IntKind.i64.wrap ((n:Int)-0)=(n:Int):=by rw [Fc.wrap_i64 oM oM];omega
 have fm:IntKind.i64.wrap (m:Int)=(m:Int):=Fc.wrap_i64 (by have:=HM.out;have:=kU.out;have:=kV.out;omega) (by have:=HM.out;have:=kU.out;have:=kV.out;omega)
 have fm2:IntKind.i64.wrap (m2:Int)=(m2:Int):=Fc.wrap_i64 (by have:=HM.out;have:=kU.out;have:=kV.out;omega) (by have:=HM.out;have:=kU.out;have:=kV.out;omega)
 have fm3:IntKind.i64.wrap (m3:Int)=(m3:Int):=Fc.wrap_i64 (by have:=HM.out;have:=kU.out;have:=kV.out;omega) (by have:=HM.out;have:=kU.out;have:=kV.out;omega)
 refine Ze fun _ b7=>Zr [] hf ?_
 refine B1 0 1 2 hf ?_
 clear hf s0 s1 s2;intro a7 hf sS
 refine Zt b7 fun _ b7=> ?_
 have bB:=hf.B3 13 14 15
 iterate 2 refine Zy ?_
 refine fp fun K Z=> ?_
 go_simp
 try simp (disch:=omega) only [Fc.W]
 try rw [z0]
 apply Z.out;clear Z K
 refine Zy ?_
 refine Fc.nil (B1 0 1 8 hf ?_)
 clear hf sS bB;intro a7 hf sS
 refine Zs b7 fun _ b7=>Zr [] hf ?_
 refine C0 0 1 8 9 hf ?_
 clear hf sS;intro a7 hf sS
 generalize U1:w.alloc (.cells #[.int .i64 0] 3)=W2
 obtain ⟨r9,sw0, -, -⟩:=nU U1
 clear U1
 have S5:=hr.later r9
 clear hr
 refine Zt b7 fun _ b7=> ?_
 have bB:=hf.B5 16 17 18 19 20
 iterate 2 refine Zy ?_
 refine fp fun K Z=> ?_
 go_simp
 try simp only [fm]
 apply Z.out;clear Z K
 refine fp fun K Z=> ?_
 go_simp
 try simp (disch:=omega) only [Fc.W]
 try simp only [e2,e3,fm,fm2,fm3]
 apply Z.out;clear Z K
 refine fp fun K Z=> ?_
 go_simp
 try simp (disch:=omega) only [Fc.W]
 try simp only [fm,fm2,fm3]
 apply Z.out;clear Z K
 refine Zy ?_
 refine Fc.nil (D0 0 1 8 9 10 hf ?_)
 clear hf sS bB;intro a7 hf sS
 refine Zt b7 fun _ b7=> ?_
 have bB:=hf.B5 21 22 23 24 25
 iterate 2 refine Zy ?_
 refine fp fun K Z=> ?_
 go_simp
 try simp only [fm]
 apply Z.out;clear Z K
 refine fp fun K Z=> ?_
 go_simp
 try simp (disch:=omega) only [Fc.W]
 try simp only [e2,e3,fm,fm2,fm3]
 apply Z.out;clear Z K
 refine fp fun K Z=> ?_
 go_simp
 try simp (disch:=omega) only [Fc.W]
 try simp only [fm,fm2,fm3]
 apply Z.out;clear Z K
 refine Zy ?_
 refine Fc.nil (J3 0 1 8 9 10 11 hf ?_)
 clear hf sS bB;intro a7 hf sS
 refine Zt b7 fun _ b7=> ?_
 have bB:=hf.B5 26 27 28 29 30
 iterate 2 refine Zy ?_
 refine fp fun K Z=> ?_
 go_simp
 try simp only [fm]
 apply Z.out;clear Z K
 refine fp fun K Z=> ?_
 go_simp
 try simp (disch:=omega) only [Fc.W]
 try simp only [e2,e3,fm,fm2,fm3]
 apply Z.out;clear Z K
 refine fp fun K Z=> ?_
 go_simp
 try simp (disch:=omega) only [Fc.W]
 try simp only [fm,fm2,fm3]
 apply Z.out;clear Z K
 refine Zy ?_
 refine Fc.nil (J3 0 8 9 10 11 12 hf ?_)
 clear hf sS bB;intro a7 hf sS
 refine Zx b7 ?_
 clear hq e1 e2 e3 z0 fm fm2 fm3
 have q1:decide ((8:Int)<=(n:Int))=true:=decide_eq_true oM
 have q2:decide ((50:Int)<=(n:Int))=false:=decide_eq_false oM
 refine Ze fun _ b7=>Ze fun _ j8=>Zr [31] hf ?_
 refine cP 0 8 9 10 11 12 32 hf ?_
 clear hf sS;intro a7 hf sS
 refine Zx j8 (Fc.l8 sS.2.2.2.2.2.2 ?_)
 refine Ze fun _ j8=>Ze fun _ l6=>Zr [33] hf ?_
 refine J3 0 9 10 11 12 34 hf ?_
 clear hf sS;intro a7 hf sS
 refine Zx l6 (Fc.k9 sS.2.2.2.2.2 ?_)
 clear q1 q2
 refine wp_skip (Zx j8 (rg ?_))
 have bB:=hf.B5 44 45 46 47 48
 iterate 4 refine Zy ?_
 refine Zc (w4h W2 g n c l hl hn S5 hs m m2 m3 (by have:=HM.out;have:=kU.out;have:=kV.out;omega) (by have:=HM.out;have:=kU.out;have:=kV.out;omega) (by have:=HM.out;have:=kU.out;have:=kV.out;omega) _) ?_;rintro e v11 ⟨rfl,rB⟩
 replace sw0:=cL rB sw0
 replace S5:=S5.later rB
 replace r9:=r9.trans (rB.mono r9.size)
 refine Zv ?_
 refine Zy ?_
 refine Fc.nil (C1 9 11 hf ?_)
 clear hf sS bB;intro a7 hf sS
 refine Zs b7 fun _ b7=>Zr [] hf ?_
 refine C1 11 49 hf ?_
 clear hf sS;intro a7 hf sS
 refine Zx b7 (wp_block (Ze fun _ b7=>Zr [52] hf ?_))
 refine B1 11 49 51 hf ?_
 clear hf sS;intro a7 hf sS
 refine Zx b7 (Fc.l8 sS.2.2 ?_)
 refine Ze fun _ b7=>Zr [53] hf ?_
 refine C1 6 7 hf ?_
 clear hf sS;intro a7 hf sS
 refine Zx b7 (k8 ?_)
 exact Fc.U6 rfl hf sS.1 sS.2 ⟨⟨_,rfl⟩,r9⟩
theorem x3o (w:World) (g n c:Nat) (l:List Nat) (hl:l.length=n) (hn:n<=1000000) (hr:RB w g l) (hs:Hid (Z5 l)) (hk:50<=n):Calls Tryz.prog 181 #[.slice (some ⟨g,0,none⟩) n c,.int .i64 0,.int .i64 n] w fun e w1=>(∃ p:Int,e= .returned (.tuple #[.int .i64 p,.int .i64 1]))/\Below w.heap.size w w1:=by
 refine lM 57 Tryz.func181 fun fr hf s0 s1 s2=> ?_
 obtain ⟨m,hm⟩:∃ m,n / 4=m:=⟨_,rfl⟩
 have hq:((n:Nat):Int).tdiv 4=(m:Int):=by rw [<- hm];rfl
 have e1:IntKind.i64.wrap ((m:Int)*1)=(m:Int):=by rw [Fc.wrap_i64 oM oM];omega
 have e2:IntKind.i64.wrap ((m:Int)*2)=((m*2:Nat):Int):=by rw [Fc.wrap_i64 oM oM];omega
 have e3:IntKind.i64.wrap ((m:Int)*3)=((m*3:Nat):Int):=by rw [Fc.wrap_i64 oM oM];omega
 have HM:=H9 hm;clear hm
 obtain ⟨m2,fU⟩:∃ x,m*2=x:=⟨_,rfl⟩
 obtain ⟨m3,hm3⟩:∃ x,m*3=x:=⟨_,rfl⟩
 rw [fU] at e2;rw [hm3] at e3
 have kU:=H9 fU;have kV:=H9 hm3;clear fU hm3
 have z0:IntKind.i64.wrap ((n:Int)-0)=(n:Int):=by rw [Fc.wrap_i64 oM oM];omega
 have fm:IntKind.i64.wrap (m:Int)=(m:Int):=Fc.wrap_i64 (by have:=HM.out;have:=kU.out;have:=kV.out;omega) (by have:=HM.out;have:=kU.out;have:=kV.out;omega)
 have fm2:IntKind.i64.wrap (m2:Int)=(m2:Int):=Fc.wrap_i64 (by have:=HM.out;have:=kU.out;have:=kV.out;omega) (by have:=HM.out;have:=kU.out;have:=kV.out;omega)
 have fm3:IntKind.i64.wrap (m3:Int)=(m3:Int):=Fc.wrap_i64 (by have:=HM.out;have:=kU.out;have:=kV.out;omega) (by have:=HM.out;have:=kU.out;have:=kV.out;omega)
 refine Ze fun _ b7=>Zr [] hf ?_
 refine B1 0 1 2 hf ?_
 clear hf s0 s1 s2;intro a7 hf sS
 refine Zt b7 fun _ b7=> ?_
 have bB:=hf.B3 13 14 15
 iterate 2 refine Zy ?_
 refine fp fun K Z=> ?_
 go_simp
 try simp (disch:=omega) only [Fc.W]
 try rw [z0]
 apply Z.out;clear Z K
 refine Zy ?_
 refine Fc.nil (B1 0 1 8 hf ?_)
 clear hf sS bB;intro a7 hf sS
 refine Zs b7 fun _ b7=>Zr [] hf ?_
 refine C0 0 1 8 9 hf ?_
 clear hf sS;intro a7 hf sS
 generalize U1:w.alloc (.cells #[.int .i64 0] 3)=W2
 obtain ⟨r9,sw0, -, -⟩:=nU U1
 clear U1
 have S5:=hr.later r9
 clear hr
 refine Zt b7 fun _ b7=> ?_
 have bB:=hf.B5 16 17 18 19 20
 iterate 2 refine Zy ?_
 refine fp fun K Z=> ?_
 go_simp
 try simp only [fm]
 apply Z.out;clear Z K
 refine fp fun K Z=> ?_
 go_simp
 try simp (disch:=omega) only [Fc.W]
 try simp only [e2,e3,fm,fm2,fm3]
 apply Z.out;clear Z K
 refine fp fun K Z=> ?_
 go_simp
 try simp (disch:=omega) only [Fc.W]
 try simp only [fm,fm2,fm3]
 apply Z.out;clear Z K
 refine Zy ?_
 refine Fc.nil (D0 0 1 8 9 10 hf ?_)
 clear hf sS bB;intro a7 hf sS
 refine Zt b7 fun _ b7=> ?_
 have bB:=hf.B5 21 22 23 24 25
 iterate 2 refine Zy ?_
 refine fp fun K Z=> ?_
 go_simp
 try simp only [fm]
 apply Z.out;clear Z K
 refine fp fun K Z=> ?_
 go_simp
 try simp (disch:=omega) only [Fc.W]
 try simp only [e2,e3,fm,fm2,fm3]
 apply Z.out;clear Z K
 refine fp fun K Z=> ?_
 go_simp
 try simp (disch:=omega) only [Fc.W]
 try simp only [fm,fm2,fm3]
 apply Z.out;clear Z K
 refine Zy ?_
 refine Fc.nil (J3 0 1 8 9 10 11 hf ?_)
 clear hf sS bB;intro a7 hf sS
 refine Zt b7 fun _ b7=> ?_
 have bB:=hf.B5 26 27 28 29 30
 iterate 2 refine Zy ?_
 refine fp fun K Z=> ?_
 go_simp
 try simp only [fm]
 apply Z.out;clear Z K
 refine fp fun K Z=> ?_
 go_simp
 try simp (disch:=omega) only [Fc.W]
 try simp only [e2,e3,fm,fm2,fm3]
 apply Z.out;clear Z K
 refine fp fun K Z=> ?_
 go_simp
 try simp (disch:=omega) only [Fc.W]
 try simp only [fm,fm2,fm3]
 apply Z.out;clear Z K
 refine Zy ?_
 refine Fc.nil (J3 0 8 9 10 11 12 hf ?_)
 clear hf sS bB;intro a7 hf sS
 refine Zx b7 ?_
 clear hq e1 e2 e3 z0 fm fm2 fm3
 have q1:decide ((8:Int)<=(n:Int))=true:=decide_eq_true oM
 have q2:decide ((50:Int)<=(n:Int))=true:=decide_eq_true oM
 refine Ze fun _ b7=>Ze fun _ j8=>Zr [31] hf ?_
 refine cP 0 8 9 10 11 12 32 hf ?_
 clear hf sS;intro a7 hf sS
 refine Zx j8 (Fc.l8 sS.2.2.2.2.2.2 ?_)
 refine Ze fun _ j8=>Ze fun _ l6=>Zr [33] hf ?_
 refine J3 0 9 10 11 12 34 hf ?_
 clear hf sS;intro a7 hf sS
 refine Zx l6 (Fc.l8 sS.2.2.2.2.2 ?_)
 clear q1 q2
 obtain ⟨k1,bV⟩:∃ k,m=k+1:=⟨m-1,by have:=HM.out;have:=kU.out;have:=kV.out;omega⟩
 obtain ⟨k2,M5⟩:∃ k,m2=k+1:=⟨m2-1,by have:=HM.out;have:=kU.out;have:=kV.out;omega⟩
 obtain ⟨k3,zR⟩:∃ k,m3=k+1:=⟨m3-1,by have:=HM.out;have:=kU.out;have:=kV.out;omega⟩
 obtain ⟨s0,s9,y4,C7,aZ,s34⟩:=sS
 rw [bV] at y4 HM kU kV;rw [M5] at C7 kU;rw [zR] at aZ kV
 clear bV M5 zR
 refine Ze fun _ l6=>rg ?_
 have bB:=hf.B3 35 36 37
 iterate 2 refine Zy ?_
 refine Zc (z2z W2 g n c l hl hn S5 hs k1 (by have:=HM.out;have:=kU.out;have:=kV.out;omega) _) ?_;rintro e v8 ⟨rfl,w4f⟩
 replace sw0:=cL w4f sw0
 replace S5:=S5.later w4f
 replace r9:=r9.trans (w4f.mono r9.size)
 refine Zv ?_
 refine Zy ?_
 refine Fc.nil (D0 0 9 10 11 12 hf ?_)
 clear hf s0 s9 y4 C7 aZ s34 bB;intro a7 hf sS
 refine Zt l6 fun _ l6=> ?_
 have bB:=hf.B3 38 39 40
 iterate 2 refine Zy ?_
 refine Zc (z2z v8 g n c l hl hn S5 hs k2 (by have:=HM.out;have:=kU.out;have:=kV.out;omega) _) ?_;rintro e v9 ⟨rfl,w4e⟩
 replace sw0:=cL w4e sw0
 replace S5:=S5.later w4e
 replace r9:=r9.trans (w4e.mono r9.size)
 refine Zv ?_
 refine Zy ?_
 refine Fc.nil (D0 0 9 10 11 12 hf ?_)
 clear hf sS bB;intro a7 hf sS
 refine Zx l6 (rg ?_)
 have bB:=hf.B3 41 42 43
 iterate 2 refine Zy ?_
 refine Zc (z2z v9 g n c l hl hn S5 hs k3 (by have:=HM.out;have:=kU.out;have:=kV.out;omega) _) ?_;rintro e v10 ⟨rfl,y0w⟩
 replace sw0:=cL y0w sw0
 replace S5:=S5.later y0w
 replace r9:=r9.trans (y0w.mono r9.size)
 refine Zv ?_
 refine Zy ?_
 refine Fc.nil (D0 0 9 10 11 12 hf ?_)
 clear hf sS bB;intro a7 hf sS
 refine Zx j8 (rg ?_)
 have bB:=hf.B5 44 45 46 47 48
 iterate 4 refine Zy ?_
 refine Zc (w4h v10 g n c l hl hn S5 hs (k1+1) (k2+1) (k3+1) (by have:=HM.out;have:=kU.out;have:=kV.out;omega) (by have:=HM.out;have:=kU.out;have:=kV.out;omega) (by have:=HM.out;have:=kU.out;have:=kV.out;omega) _) ?_;rintro e v11 ⟨rfl,rB⟩
 replace sw0:=cL rB sw0
 replace S5:=S5.later rB
 replace r9:=r9.trans (rB.mono r9.size)
 refine Zv ?_
 refine Zy ?_
 refine Fc.nil (C1 9 11 hf ?_)
 clear hf sS bB;intro a7 hf sS
 refine Zs b7 fun _ b7=>Zr [] hf ?_
 refine C1 11 49 hf ?_
 clear hf sS;intro a7 hf sS
 refine Zx b7 (wp_block (Ze fun _ b7=>Zr [52] hf ?_))
 refine B1 11 49 51 hf ?_
 clear hf sS;intro a7 hf sS
 refine Zx b7 (Fc.l8 sS.2.2 ?_)
 refine Ze fun _ b7=>Zr [53] hf ?_
 refine C1 6 7 hf ?_
 clear hf sS;intro a7 hf sS
 refine Zx b7 (k8 ?_)
 exact Fc.U6 rfl hf sS.1 sS.2 ⟨⟨_,rfl⟩,r9⟩
theorem u2l (w:World) (A:Option Addr) (g n c:Nat) (l:List Nat) (hl:l.length=n) (hn:n<=1000000) (hr:RB w g l) (hs:Hid (Z5 l)) (hA:0<n->A=some ⟨g,0,none⟩):G4 w 178 #[.slice A n c,.int .i64 0,.int .i64 n] (.tuple #[]):=by
 refine lM 49 Tryz.func178 fun fr hf s0 s1 s2=> ?_
 have e1:IntKind.i64.wrap ((0:Int)+1)=1:=dC
 refine Ze fun _ b7=>rg ?_
 have bB:=hf.B2 8 9
 refine Zy ?_
 refine fp fun K Z=> ?_
 go_simp
 try simp (disch:=omega) only [Fc.W]
 try rw [e1]
 apply Z.out;clear Z K
 refine Zy ?_
 refine Fc.nil (C0 0 1 2 6 hf ?_)
 clear hf s0 s1 s2 bB;intro a7 hf sS
 refine Zx b7 (wp_block (wp_loop_ghost (fun gk fr wr=>∃ (i:Nat),gk=n-i/\1<=i/\(i<=n\/i=1)/\Fc.Fr 49 fr/\fr.tmps[0]? =some (.slice A n c)/\fr.tmps[1]? =some (.int .i64 0)/\fr.tmps[2]? =some (.int .i64 n)/\fr.tmps[6]? =some (.int .i64 i)/\Below w.heap.size w wr) (n-1) ?_ ?_))
 . (
 obtain ⟨s0,s1,s2,s6⟩:=sS
 exact ⟨1,rfl,nR,.inr rfl,hf,s0,s1,s2,s6,Below.refl _ _⟩)
 . (
 clear hf sS
 skip
 rintro gk fr wr ⟨i,hk,hi1,K0,hf,s0,s1,s2,s6,hb⟩
 have HK:=H9 hk;have HIN:=H9 K0;clear hk K0
 refine Ze fun _ b7=>Ze fun _ j8=>Zr [10,11] hf ?_
 refine D0 0 1 2 6 12 hf ?_
 clear hf s0 s1 s2 s6;intro a7 hf sS
 refine Zx j8 (Fc.l0 sS.2.2.2.2 (fun hq=> ?_) (fun hq=> ?_))
 . (
 have n8:i<n:=qT
 clear hq
 obtain rfl:=hA oM
 have yJ:=hr.later hb
 refine wp_skip (Zs b7 fun _ b7=>wp_block (Ze fun _ j8=>Zr [15] hf ?_))
 refine D0 0 1 2 6 7 hf ?_
 clear hf sS;intro a7 hf sS
 refine Zx j8 (wp_block (wp_loop_ghost (fun nJ fr w2=>Fc.Fr 49 fr/\fr.tmps[0]? =some (.slice (some ⟨g,0,none⟩) n c)/\fr.tmps[1]? =some (.int .i64 0)/\fr.tmps[2]? =some (.int .i64 n)/\fr.tmps[6]? =some (.int .i64 i)/\fr.tmps[7]? =some (.int .i64 i)/\w2=wr) (0) ?_ ?_))
 . (
 obtain ⟨s0,s1,s2,s6,s7⟩:=sS
 exact ⟨hf,s0,s1,s2,s6,s7,rfl⟩)
 . (
 clear hf sS
 rintro nJ fr w2 ⟨hf,s0,s1,s2,s6,s7,hw2⟩
 subst hw2
 obtain ⟨p,hp⟩:∃ p,i=p+1:=⟨i-1,oM⟩
 obtain ⟨xi,eA⟩:∃ x,l[p]? =some x:=⟨_,D9 oM⟩
 obtain ⟨xj,mF⟩:∃ x,l[p+1]? =some x:=⟨_,D9 oM⟩
 have ci:=yJ _ _ eA;have cj:=yJ _ _ mF
 have dU:=hs.out _ _ _ _ oM eA mF
 clear eA mF
 have HIJ:=H9 dU;clear dU
 have e4:IntKind.i64.wrap ((i:Int)-1)=(p:Int):=by rw [Fc.wrap_i64 oM oM];omega
 rw [<- hp] at cj
 have HP:=H9 hp;clear hp
 have q1:decide ((0:Int)<(i:Int))=true:=decide_eq_true oM
 have q5:decide (0<i)=true:=decide_eq_true oM
 refine Ze fun _ j8=>Ze fun _ l6=>Sb.tb 49 fun a8=> ?_
 refine Sb.mO 0 s7 hf a8 ?_
 refine Sb.mO 1 s1 hf a8 ?_
 refine Sb.T 2 hf a8 ?_
 refine Sb.mN 3 2 0 hf a8 [] ?_
 refine Sb.Tg 4 hf a8 ?_ (hF:=fun _ _ h d=>Sb.O h s0)
 refine Sb.Tg 5 hf a8 ?_ (hF:=fun _ _ h d=>Sb.O h s7)
 apply Sb.tr 6 _ hf a8
 . (
 intro a7 w1 hh hd hk K Z
 have J6:=Sb.v 3 2 hd hk []
 refine Sb.g J6 ?_
 have M6:=Sb.v 4 1 hd hk []
 have N6:=Sb.v 5 0 hd hk []
 clear hd
 go_simp
 try rw [if_pos (by have:=HP.out;omega)]
 exact Sb.k Z)
 refine Sb.Tg 7 hf a8 ?_ (hF:=fun _ _ h d=>ad (cL h.ext ci) (cL h.ext cj))
 refine Sb.Tg 8 hf a8 ?_ (hF:=fun _ _ h d=>Sb.O h s0)
 refine Sb.Tg 9 hf a8 ?_ (hF:=fun _ _ h d=>Sb.O h s7)
 apply Sb.tr 10 _ hf a8
 . (
 intro a7 w1 hh hd hk K Z
 have J6:=Sb.v 3 6 hd hk []
 refine Sb.g J6 ?_
 have bQ:=Sb.v 9 0 hd hk []
 clear hd
 go_simp
 try simp (disch:=omega) only [Fc.W]
 try rw [e4]
 exact Sb.k Z)
 apply Sb.tr 11 _ hf a8
 . (
 intro a7 w1 hh hd hk K Z
 have J6:=Sb.v 3 7 hd hk []
 refine Sb.g J6 ?_
 have gF:=Sb.v 8 2 hd hk []
 have Z1:=Sb.v 10 0 hd hk []
 clear hd
 go_simp
 try rw [if_pos (by have:=HP.out;omega)]
 exact Sb.k Z)
 refine Sb.Tg 12 hf a8 ?_ (hF:=fun _ _ h d=>ad (cL h.ext ci) (cL h.ext cj))
 apply Sb.tr 13 _ hf a8
 . (
 intro a7 w1 hh hd hk K Z
 have J6:=Sb.v 3 9 hd hk []
 refine Sb.g J6 ?_
 have S1:=Sb.v 7 5 hd hk []
 have bR:=Sb.v 12 0 hd hk []
 clear hd
 replace ci:=cL hh.ext ci
 replace cj:=cL hh.ext cj
 go_simp
 go_at_call 184;refine (y0y w1 xj xi).mono ?_;rintro e w2 ⟨rfl,rfl⟩
 rw [decide_eq_false (show ¬ xj<xi by have:=HIJ.out;omega)]
 exact Sb.k Z)
 refine Sb.T 14 hf a8 ?_
 refine Sb.E hf a8 (fun _ _ h g=>ad (Sb.O h s0) (ad (Sb.O h s1) (ad (Sb.O h s2) (ad (Sb.O h s6) (ad (Sb.O h s7) (Sb.f 14 0 g)))))) ?_
 clear hf a8 s0 s1 s2 s6 s7;intro a7 w1 hf hx sS
 replace ci:=cL hx ci
 replace cj:=cL hx cj
 refine Zx l6 (Fc.k9 sS.2.2.2.2.2 ?_)
 clear q1 q5 e4
 refine Zo ?_
 refine Fc.j7 (Zx b7 (Zr [13,14] hf ?_))
 refine C0 0 1 2 6 hf ?_
 clear hf sS;intro a7 hf sS
 refine Fc.j6 ?_
 obtain ⟨s0,s1,s2,s6⟩:=sS
 exact ⟨_,by have:=HK.out;omega,i+1,rfl,oM,.inl oM,hf,s0,s1,s2,by rw [s6];rfl,hb.trans (hx.mono hb.size)⟩))
 . (
 clear hq
 refine Zo ?_
 exact Fc.pZ rfl hf ⟨rfl,hb⟩))
end Dw
end Go.Proofs.YtcddnmhmcieebaaGreatDoor
