/- fst: sums. -/
import Derived.Test.YtcddnmhmcieebaaGreatDoorY8
import Derived.Test.YtcddnmhmcieebaaGreatDoorY9
import Derived.Test.YtcddnmhmcieebaaGreatDoorY16
import Derived.Test.YtcddnmhmcieebaaGreatDoorY13
import Derived.Test.YtcddnmhmcieebaaGreatDoorY10
import Derived.Laws.Externs
import Derived.WalkSmall
import Derived.Test.YtcddnmhmcieebaaGreatDoorTools
namespace Go.Proofs.YtcddnmhmcieebaaGreatDoor
set_option maxHeartbeats 4000000
set_option maxRecDepth 100000
open Go.RowKit
set_option linter.unusedSimpArgs false
set_option linter.unusedVariables false
set_option linter.unnecessarySimpa false
namespace Dw
theorem F9 {w W:World} {a b:Array Value} {t u:TypeId} (h:(w.alloc (.cells a t)).alloc (.cells b u)=W):Below w.heap.size w W/\W.heap[w.heap.size]? =some (.cells a t (0,0))/\W.heap[w.heap.size+1]? =some (.cells b u (0,0)):=by
 subst h
 refine ⟨((Below.refl _ w).alloc nR _).alloc sP _,?_,?_⟩
 ·rw [u6,if_neg sP,u6,if_pos rfl]
 ·rw [u6,if_pos sP]
theorem bD {w W:World} {a b c:Array Value} {t u v:TypeId} (h:((w.alloc (.cells a t)).alloc (.cells b u)).alloc (.cells c v)=W):Below w.heap.size w W/\W.heap[w.heap.size]? =some (.cells a t (0,0))/\W.heap[w.heap.size+1]? =some (.cells b u (0,0))/\W.heap[w.heap.size+1+1]? =some (.cells c v (0,0)):=by
 subst h
 refine ⟨(((Below.refl _ _).alloc nR _).alloc sP _).alloc sO _,?_,?_,?_⟩
 ·rw [u6,if_neg sO,u6,if_neg sP,u6,if_pos rfl]
 ·rw [u6,if_neg sP,u6,if_pos sP]
 ·rw [u6,if_pos sP]
structure y9 where
 n:Nat
 fits:Bool
 any:Bool
def y9.val (m:y9):Value:= .agg #[.int .u64 m.n,.bool m.fits,.bool m.any]
def y9.or (m x:y9):y9:=if x.any then (if m.any then ⟨max m.n x.n,m.fits&&x.fits,true⟩ else x) else m
def pK (x c:Int):Int:=if c<0 then x else max x (c+1)
theorem uX {n k sm cr:Nat} (hs:(n+k)%y5=sm) (hc:(n+k) / y5=cr) (w:World):(callFunc 142 #[.int .u64 n,.int .u64 k,.int .u64 0]).run Tryz.prog w= .ok (.value (.tuple #[.int .u64 sm,.int .u64 cr])) w:=by
 rw [run_callFunc_extern Tryz.func142 kR kR kR (e:=add64Entry) kR,run_add64 _ _ _ oM oM oM oM]
 unfold y5 at *
 rw [show ((n:Int)+(k:Int)+0)%18446744073709551616=(sm:Int) by omega,show ((n:Int)+(k:Int)+0) / 18446744073709551616=(cr:Int) by omega]
 rfl
theorem z9w {n k:Nat} (hn:n<y5) (hk:k<y5):((((n+k) / y5:Nat):Int)==0)=decide (n+k<y5):=by
 unfold y5 at *
 by_cases h:n+k<18446744073709551616
 ·rw [decide_eq_true h,show (n+k) / 18446744073709551616=0 by omega];rfl
 ·rw [decide_eq_false h,show (n+k) / 18446744073709551616=1 by omega];rfl
theorem v8j (w:World) (n k:Nat) (hn:n<y5) (hk:k<y5):G4 w 113 #[.agg #[.int .u64 n,.bool true],.int .u64 k] (.agg #[.int .u64 ((n+k)%y5:Nat),.bool (true&&decide (n+k<y5))]):=by
 refine aT 22 Tryz.func113 fun fr hf s0 s1=> ?_
 obtain ⟨sm,Z7⟩:∃ x,(n+k)%y5=x:=⟨_,rfl⟩
 obtain ⟨cr,hcr⟩:∃ x,(n+k) / y5=x:=⟨_,rfl⟩
 obtain ⟨d,hd⟩:∃ x,decide (n+k<y5)=x:=⟨_,rfl⟩
 have h64:=fun w=>uX Z7 hcr w
 have q1:(((cr:Nat):Int)==0)=d:=by rw [<- hcr, <- hd];exact z9w hn hk
 rw [Z7,hd]
 clear Z7 hcr hd
 refine Ze fun _ b7=>Zr [] hf ?_
 refine B1 1 2 4 hf ?_
 clear hf s0 s1;intro a7 hf sS
 obtain ⟨W0,p8⟩:∃ x,(w.alloc (.cells #[.int .u64 n,.bool true] 190)).alloc (.cells #[.int .u64 0,.bool false] 190)=x:=⟨_,rfl⟩
 obtain ⟨s1,s2,s4⟩:=sS
 try simp only [World.size_alloc] at s4
 try rw [p8]
 obtain ⟨p9,F1,C5⟩:=F9 p8
 clear p8
 have c0:=n5 0 F1;have c1:=n5 1 F1;have i0:=n5 0 C5;have i1:=n5 1 C5;have fi0:=j3 (i:=0) C5;have fi1:=j3 (i:=1) C5
 simp at c0 c1 i0 i1
 refine Zt b7 fun _ b7=> ?_
 have bB:=hf.B7 8 9 10 11 7 12 13
 iterate 3 refine Zy ?_
 refine fp fun K Z=> ?_
 go_simp
 apply Z.out;clear Z K
 iterate 5 refine Zy ?_
 refine Fc.nil (C0 2 4 5 6 hf ?_)
 clear hf s1 s2 s4 bB;intro a7 hf sS
 refine Zs b7 fun _ b7=> ?_
 have qs:=q1
 refine Zr [14,15,16,17,18,19,20,21] hf ?_
 refine r6 4 hf ?_
 clear hf sS qs;intro a7 hf s4
 refine Zx b7 (k8 ?_)
 exact N9 rfl hf s4 (j5 (j5 C5 _) _) Tryz.underlying190 rfl kR ⟨sP,(p9.setCell (p:=⟨w.heap.size+1,0,none⟩) (Nat.le_succ _) _).setCell (p:=⟨w.heap.size+1,1,none⟩) (Nat.le_succ _) _⟩
theorem v8i (w:World) (n k:Nat) (hn:n<y5) (hk:k<y5):G4 w 113 #[.agg #[.int .u64 n,.bool false],.int .u64 k] (.agg #[.int .u64 ((n+k)%y5:Nat),.bool (false&&decide (n+k<y5))]):=by
 refine aT 22 Tryz.func113 fun fr hf s0 s1=> ?_
 obtain ⟨sm,Z7⟩:∃ x,(n+k)%y5=x:=⟨_,rfl⟩
 obtain ⟨cr,hcr⟩:∃ x,(n+k) / y5=x:=⟨_,rfl⟩
 obtain ⟨d,hd⟩:∃ x,decide (n+k<y5)=x:=⟨_,rfl⟩
 have h64:=fun w=>uX Z7 hcr w
 have q1:(((cr:Nat):Int)==0)=d:=by rw [<- hcr, <- hd];exact z9w hn hk
 rw [Z7,hd]
 clear Z7 hcr hd
 refine Ze fun _ b7=>Zr [] hf ?_
 refine B1 1 2 4 hf ?_
 clear hf s0 s1;intro a7 hf sS
 obtain ⟨W0,p8⟩:∃ x,(w.alloc (.cells #[.int .u64 n,.bool false] 190)).alloc (.cells #[.int .u64 0,.bool false] 190)=x:=⟨_,rfl⟩
 obtain ⟨s1,s2,s4⟩:=sS
 try simp only [World.size_alloc] at s4
 try rw [p8]
 obtain ⟨p9,F1,C5⟩:=F9 p8
 clear p8
 have c0:=n5 0 F1;have c1:=n5 1 F1;have i0:=n5 0 C5;have i1:=n5 1 C5;have fi0:=j3 (i:=0) C5;have fi1:=j3 (i:=1) C5
 simp at c0 c1 i0 i1
 refine Zt b7 fun _ b7=> ?_
 have bB:=hf.B7 8 9 10 11 7 12 13
 iterate 3 refine Zy ?_
 refine fp fun K Z=> ?_
 go_simp
 apply Z.out;clear Z K
 iterate 5 refine Zy ?_
 refine Fc.nil (C0 2 4 5 6 hf ?_)
 clear hf s1 s2 s4 bB;intro a7 hf sS
 refine Zs b7 fun _ b7=> ?_
 have qs:=q1
 refine Zr [14,15,16,17,18,19,20,21] hf ?_
 refine r6 4 hf ?_
 clear hf sS qs;intro a7 hf s4
 refine Zx b7 (k8 ?_)
 exact N9 rfl hf s4 (j5 (j5 C5 _) _) Tryz.underlying190 rfl kR ⟨sP,(p9.setCell (p:=⟨w.heap.size+1,0,none⟩) (Nat.le_succ _) _).setCell (p:=⟨w.heap.size+1,1,none⟩) (Nat.le_succ _) _⟩
theorem kH (w:World) (n k:Nat) (b:Bool) (hn:n<y5) (hk:k<y5):G4 w 113 #[.agg #[.int .u64 n,.bool b],.int .u64 k] (.agg #[.int .u64 ((n+k)%y5:Nat),.bool (b&&decide (n+k<y5))]):=by
 cases b with
 | true=>exact v8j w n k hn hk
 | false=>exact v8i w n k hn hk
theorem u6v (w:World) (n k:Nat) (fm fx am:Bool):G4 w 114 #[.agg #[.int .u64 n,.bool fm,.bool am],.agg #[.int .u64 k,.bool fx,.bool false]] (.agg #[.int .u64 n,.bool fm,.bool am]):=by
 refine aT 32 Tryz.func114 fun fr hf s0 s1=> ?_
 refine Ze fun _ b7=>Zr [] hf ?_
 refine B1 2 3 4 hf ?_
 clear hf s0 s1;intro a7 hf sS
 obtain ⟨W0,p8⟩:∃ x,((w.alloc (.cells #[.int .u64 n,.bool fm,.bool am] 192)).alloc (.cells #[.int .u64 k,.bool fx,.bool false] 192)).alloc (.cells #[.int .u64 0,.bool false,.bool false] 192)=x:=⟨_,rfl⟩
 obtain ⟨s2,s3,s4⟩:=sS
 try simp only [World.size_alloc] at s2 s3 s4
 try rw [p8]
 obtain ⟨p9,F1,C5,J2⟩:=bD p8
 clear p8
 have c0:=n5 0 F1
 have c1:=n5 1 F1
 have c2:=n5 2 F1
 have d0:=n5 0 C5
 have d1:=n5 1 C5
 have d2:=n5 2 C5
 have r0:=n5 0 J2
 have r1:=n5 1 J2
 have r2:=n5 2 J2
 have f0:=j3 (i:=0) J2;have f1:=j3 (i:=1) J2;have f2:=j3 (i:=2) J2
 simp at c0 c1 c2 d0 d1 d2 r0 r1 r2
 refine Zs b7 fun _ b7=>wp_block (Ze fun _ j8=>Zr [6,7,8] hf ?_)
 refine C0 2 3 4 5 hf ?_
 clear hf s2 s3 s4;intro a7 hf sS
 refine Zx j8 (Fc.l8 sS.2.2.2 ?_)
 refine Ze fun _ j8=>Zr [9] hf ?_
 refine r6 4 hf ?_
 clear hf sS;intro a7 hf s4
 refine Zx j8 (k8 ?_)
 exact N9 rfl hf s4 (j5 (j5 (j5 J2 _) _) _) Tryz.underlying192 rfl kR ⟨sP,((p9.setCell (p:=⟨w.heap.size+1+1,0,none⟩) sQ _).setCell (p:=⟨w.heap.size+1+1,1,none⟩) sQ _).setCell (p:=⟨w.heap.size+1+1,2,none⟩) sQ _⟩
theorem u6u (w:World) (n k:Nat) (fm fx am:Bool):G4 w 114 #[.agg #[.int .u64 n,.bool fm,.bool false],.agg #[.int .u64 k,.bool fx,.bool true]] (.agg #[.int .u64 k,.bool fx,.bool true]):=by
 refine aT 32 Tryz.func114 fun fr hf s0 s1=> ?_
 refine Ze fun _ b7=>Zr [] hf ?_
 refine B1 2 3 4 hf ?_
 clear hf s0 s1;intro a7 hf sS
 obtain ⟨W0,p8⟩:∃ x,((w.alloc (.cells #[.int .u64 n,.bool fm,.bool false] 192)).alloc (.cells #[.int .u64 k,.bool fx,.bool true] 192)).alloc (.cells #[.int .u64 0,.bool false,.bool false] 192)=x:=⟨_,rfl⟩
 obtain ⟨s2,s3,s4⟩:=sS
 try simp only [World.size_alloc] at s2 s3 s4
 try rw [p8]
 obtain ⟨p9,F1,C5,J2⟩:=bD p8
 clear p8
 have c0:=n5 0 F1
 have c1:=n5 1 F1
 have c2:=n5 2 F1
 have d0:=n5 0 C5
 have d1:=n5 1 C5
 have d2:=n5 2 C5
 have r0:=n5 0 J2
 have r1:=n5 1 J2
 have r2:=n5 2 J2
 have f0:=j3 (i:=0) J2;have f1:=j3 (i:=1) J2;have f2:=j3 (i:=2) J2
 simp at c0 c1 c2 d0 d1 d2 r0 r1 r2
 refine Zs b7 fun _ b7=>wp_block (Ze fun _ j8=>Zr [6,7,8] hf ?_)
 refine C0 2 3 4 5 hf ?_
 clear hf s2 s3 s4;intro a7 hf sS
 refine Zx j8 (Fc.k9 sS.2.2.2 ?_)
 refine Ze fun _ j8=>Zr [11,12,13] hf ?_
 refine C0 2 3 4 10 hf ?_
 clear hf sS;intro a7 hf sS
 refine Zx j8 (Fc.l8 sS.2.2.2 ?_)
 refine Ze fun _ j8=>Zr [14] hf ?_
 refine r6 4 hf ?_
 clear hf sS;intro a7 hf s4
 refine Zx j8 (k8 ?_)
 exact N9 rfl hf s4 (j5 (j5 (j5 J2 _) _) _) Tryz.underlying192 rfl kR ⟨sP,((p9.setCell (p:=⟨w.heap.size+1+1,0,none⟩) sQ _).setCell (p:=⟨w.heap.size+1+1,1,none⟩) sQ _).setCell (p:=⟨w.heap.size+1+1,2,none⟩) sQ _⟩
theorem u6t (w:World) (n k:Nat) (fm fx am:Bool):G4 w 114 #[.agg #[.int .u64 n,.bool fm,.bool true],.agg #[.int .u64 k,.bool fx,.bool true]] (.agg #[.int .u64 ((max n k:Nat):Int),.bool (fm&&fx),.bool true]):=by
 refine aT 32 Tryz.func114 fun fr hf s0 s1=> ?_
 refine Ze fun _ b7=>Zr [] hf ?_
 refine B1 2 3 4 hf ?_
 clear hf s0 s1;intro a7 hf sS
 obtain ⟨W0,p8⟩:∃ x,((w.alloc (.cells #[.int .u64 n,.bool fm,.bool true] 192)).alloc (.cells #[.int .u64 k,.bool fx,.bool true] 192)).alloc (.cells #[.int .u64 0,.bool false,.bool false] 192)=x:=⟨_,rfl⟩
 obtain ⟨s2,s3,s4⟩:=sS
 try simp only [World.size_alloc] at s2 s3 s4
 try rw [p8]
 obtain ⟨p9,F1,C5,J2⟩:=bD p8
 clear p8
 have c0:=n5 0 F1
 have c1:=n5 1 F1
 have c2:=n5 2 F1
 have d0:=n5 0 C5
 have d1:=n5 1 C5
 have d2:=n5 2 C5
 have r0:=n5 0 J2
 have r1:=n5 1 J2
 have r2:=n5 2 J2
 have f0:=j3 (i:=0) J2;have f1:=j3 (i:=1) J2;have f2:=j3 (i:=2) J2
 simp at c0 c1 c2 d0 d1 d2 r0 r1 r2
 refine Zs b7 fun _ b7=>wp_block (Ze fun _ j8=>Zr [6,7,8] hf ?_)
 refine C0 2 3 4 5 hf ?_
 clear hf s2 s3 s4;intro a7 hf sS
 refine Zx j8 (Fc.k9 sS.2.2.2 ?_)
 refine Ze fun _ j8=>Zr [11,12,13] hf ?_
 refine C0 2 3 4 10 hf ?_
 clear hf sS;intro a7 hf sS
 refine Zx j8 (Fc.k9 sS.2.2.2 ?_)
 refine wp_skip (Fc.j7 (Zx b7 ?_))
 rcases D5:fm with _ | _
 . (
 refine Ze fun _ b7=>rg ?_
 have bB:=And.intro (hf.pL 15 16 17 18 19 20 21 22 23 24) (hf.B7 25 26 27 28 29 30 31)
 iterate 6 refine Zy ?_
 refine fp fun K Z=> ?_
 go_simp
 apply Z.out;clear Z K
 iterate 11 refine Zy ?_
 refine Fc.nil (r6 4 hf ?_)
 clear hf sS bB;intro a7 hf s4
 refine Zx b7 (k8 ?_)
 exact N9 rfl hf s4 (j5 (j5 (j5 J2 _) _) _) Tryz.underlying192 rfl kR ⟨sO,((p9.setCell (p:=⟨w.heap.size+1+1,0,none⟩) sQ _).setCell (p:=⟨w.heap.size+1+1,1,none⟩) sQ _).setCell (p:=⟨w.heap.size+1+1,2,none⟩) sQ _⟩)
 . (
 refine Ze fun _ b7=>rg ?_
 have bB:=And.intro (hf.pL 15 16 17 18 19 20 21 22 23 24) (hf.B7 25 26 27 28 29 30 31)
 iterate 6 refine Zy ?_
 refine fp fun K Z=> ?_
 go_simp
 apply Z.out;clear Z K
 iterate 11 refine Zy ?_
 refine Fc.nil (r6 4 hf ?_)
 clear hf sS bB;intro a7 hf s4
 refine Zx b7 (k8 ?_)
 exact N9 rfl hf s4 (j5 (j5 (j5 J2 _) _) _) Tryz.underlying192 rfl kR ⟨sO,((p9.setCell (p:=⟨w.heap.size+1+1,0,none⟩) sQ _).setCell (p:=⟨w.heap.size+1+1,1,none⟩) sQ _).setCell (p:=⟨w.heap.size+1+1,2,none⟩) sQ _⟩)
theorem v8h (w:World) (m x:y9):Calls Tryz.prog 114 #[m.val,x.val] w fun e w1=>e= .returned (m.or x).val/\Below w.heap.size w w1:=by
 obtain ⟨n,fm,am⟩:=m
 obtain ⟨k,fx,ax⟩:=x
 cases ax with
 | false=>exact u6v w n k fm fx am
 | true=>cases am with
  | false=>exact u6u w n k fm fx true
  | true=>exact u6t w n k fm fx true
theorem u6s (w:World) (n:Nat):G4 w 115 #[.agg #[.int .u64 n,.bool true]] (.bool (true&&decide (n<=4294967296))):=by
 refine S8 10 Tryz.func115 fun fr hf s0=> ?_
 refine Ze fun _ b7=>Zr [] hf ?_
 refine r6 1 hf ?_
 clear hf s0;intro a7 hf s1
 generalize p8:w.alloc (.cells #[.int .u64 n,.bool true] 190)=W0
 obtain ⟨p9,c0,c1, -, -⟩:=Z8 p8
 clear p8
 refine Zs b7 fun _ b7=>Zr [3,4,5,6,7,8,9] hf ?_
 refine r6 2 hf ?_
 clear hf s1;intro a7 hf s2
 refine Zx b7 (k8 ?_)
 exact Fc.o9 rfl hf s2 ⟨by rw [Bool.true_and];congr 2;exact decide_eq_decide.2 oM,p9⟩
theorem u6r (w:World) (n:Nat):G4 w 115 #[.agg #[.int .u64 n,.bool false]] (.bool (false&&decide (n<=4294967296))):=by
 refine S8 10 Tryz.func115 fun fr hf s0=> ?_
 refine Ze fun _ b7=>Zr [] hf ?_
 refine r6 1 hf ?_
 clear hf s0;intro a7 hf s1
 generalize p8:w.alloc (.cells #[.int .u64 n,.bool false] 190)=W0
 obtain ⟨p9,c0,c1, -, -⟩:=Z8 p8
 clear p8
 refine Zs b7 fun _ b7=>Zr [3,4,5,6,7,8,9] hf ?_
 refine r6 2 hf ?_
 clear hf s1;intro a7 hf s2
 refine Zx b7 (k8 ?_)
 exact Fc.o9 rfl hf s2 ⟨sP,p9⟩
theorem y3q (w:World) (n:Nat) (b:Bool):G4 w 115 #[.agg #[.int .u64 n,.bool b]] (.bool (b&&decide (n<=4294967296))):=by
 cases b with
 | true=>exact u6s w n
 | false=>exact u6r w n
theorem z0u (w:World) (sv:Value) (init:Nat) (ss:List State) (o7:RS w sv ss) (hlen:ss.length<=1000000000):G4 w 149 #[.agg #[sv,.int .u64 init]] (.int .i64 ((ss.length:Int)-1)):=by
 refine S8 7 Tryz.func149 fun fr hf s0=> ?_
 obtain ⟨A,cc,rfl,Z3⟩:=o7.form
 refine Ze fun _ b7=>Zr [] hf ?_
 refine r6 1 hf ?_
 clear hf s0;intro a7 hf s1
 generalize p8:w.alloc (.cells #[.slice A ss.length cc,.int .u64 init] 38)=W0
 obtain ⟨p9,c0,c1, -, -⟩:=Z8 p8
 clear p8
 refine Zs b7 fun _ b7=>Zr [3,4,5,6] hf ?_
 refine r6 2 hf ?_
 clear hf s1;intro a7 hf s2
 refine Zx b7 (k8 ?_)
 exact Fc.o9 rfl hf s2 ⟨rfl,p9⟩
theorem xF (w:World) (a b:ByteArray):Calls Tryz.prog 153 #[.string a,.string b] w fun e w1=>e= .returned (.bool (lexlt (wl a) (wl b)))/\w=w1:=by
 refine aT 8 Tryz.func153 fun fr hf s0 s1=> ?_
 refine Ze fun _ b7=>Zr [] hf ?_
 refine C1 0 1 hf ?_
 clear hf s0 s1;intro a7 hf sS
 refine Zs b7 fun _ b7=>Zr [5,6,7] hf ?_
 refine r6 4 hf ?_
 clear hf sS;intro a7 hf s4
 refine Zx b7 (k8 ?_)
 exact Fc.o9 rfl hf s4 ⟨by rw [<- bE],rfl⟩
theorem v8g (w:World) (av:Value) (out:Nat) (aE:∃ A n c,av= .slice A n c):G4 w 106 #[.agg #[av,.bool true,.int .u64 out]] (.int .i64 (1)):=by
 refine S8 5 Tryz.func106 fun fr hf s0=> ?_
 obtain ⟨A,n,c,rfl⟩:=aE
 refine Ze fun _ b7=>Zr [] hf ?_
 refine r6 1 hf ?_
 clear hf s0;intro a7 hf s1
 generalize p8:w.alloc (.cells #[.slice A n c,.bool true,.int .u64 out] 46)=W0
 obtain ⟨p9,c0,c1,c2, -, -⟩:=G1 p8
 clear p8
 refine Zs b7 fun _ b7=>Ze fun _ j8=>Zr [3] hf ?_
 refine r6 4 hf ?_
 clear hf s1;intro a7 hf s4
 refine Zx j8 (Fc.l8 s4 ?_)
 refine Ze fun _ j8=>Zr [] hf ?_
 refine r6 2 hf ?_
 clear hf s4;intro a7 hf s2
 refine Zx j8 (k8 ?_)
 exact Fc.o9 rfl hf s2 ⟨rfl,p9⟩
theorem v8f (w:World) (av:Value) (out:Nat) (aE:∃ A n c,av= .slice A n c):G4 w 106 #[.agg #[av,.bool false,.int .u64 out]] (.int .i64 (0)):=by
 refine S8 5 Tryz.func106 fun fr hf s0=> ?_
 obtain ⟨A,n,c,rfl⟩:=aE
 refine Ze fun _ b7=>Zr [] hf ?_
 refine r6 1 hf ?_
 clear hf s0;intro a7 hf s1
 generalize p8:w.alloc (.cells #[.slice A n c,.bool false,.int .u64 out] 46)=W0
 obtain ⟨p9,c0,c1,c2, -, -⟩:=G1 p8
 clear p8
 refine Zs b7 fun _ b7=>Ze fun _ j8=>Zr [3] hf ?_
 refine r6 4 hf ?_
 clear hf s1;intro a7 hf s4
 refine Zx j8 (Fc.k9 s4 ?_)
 refine wp_skip (Zs b7 fun _ b7=>Zr [] hf ?_)
 refine r6 2 hf ?_
 clear hf s4;intro a7 hf s2
 refine Zx b7 (k8 ?_)
 exact Fc.o9 rfl hf s2 ⟨rfl,p9⟩
theorem v8e (w:World) (av:Value) (out:Nat) (aE:∃ A n c,av= .slice A n c):G4 w 108 #[.agg #[av,.bool true,.int .u64 out]] (.int .i64 (0)):=by
 refine S8 5 Tryz.func108 fun fr hf s0=> ?_
 obtain ⟨A,n,c,rfl⟩:=aE
 refine Ze fun _ b7=>Zr [] hf ?_
 refine r6 1 hf ?_
 clear hf s0;intro a7 hf s1
 generalize p8:w.alloc (.cells #[.slice A n c,.bool true,.int .u64 out] 46)=W0
 obtain ⟨p9,c0,c1,c2, -, -⟩:=G1 p8
 clear p8
 refine Zs b7 fun _ b7=>Ze fun _ j8=>Zr [3] hf ?_
 refine r6 4 hf ?_
 clear hf s1;intro a7 hf s4
 refine Zx j8 (Fc.l8 s4 ?_)
 refine Ze fun _ j8=>Zr [] hf ?_
 refine r6 2 hf ?_
 clear hf s4;intro a7 hf s2
 refine Zx j8 (k8 ?_)
 exact Fc.o9 rfl hf s2 ⟨rfl,p9⟩
theorem v8d (w:World) (av:Value) (out:Nat) (aE:∃ A n c,av= .slice A n c):G4 w 108 #[.agg #[av,.bool false,.int .u64 out]] (.int .i64 (-1)):=by
 refine S8 5 Tryz.func108 fun fr hf s0=> ?_
 obtain ⟨A,n,c,rfl⟩:=aE
 refine Ze fun _ b7=>Zr [] hf ?_
 refine r6 1 hf ?_
 clear hf s0;intro a7 hf s1
 generalize p8:w.alloc (.cells #[.slice A n c,.bool false,.int .u64 out] 46)=W0
 obtain ⟨p9,c0,c1,c2, -, -⟩:=G1 p8
 clear p8
 refine Zs b7 fun _ b7=>Ze fun _ j8=>Zr [3] hf ?_
 refine r6 4 hf ?_
 clear hf s1;intro a7 hf s4
 refine Zx j8 (Fc.k9 s4 ?_)
 refine wp_skip (Zs b7 fun _ b7=>Zr [] hf ?_)
 refine r6 2 hf ?_
 clear hf s4;intro a7 hf s2
 refine Zx b7 (k8 ?_)
 exact Fc.o9 rfl hf s2 ⟨rfl,p9⟩
theorem u6q (w:World) (av:Value) (fin:Bool) (out:Nat) (aE:∃ A n c,av= .slice A n c):G4 w 111 #[.agg #[av,.bool fin,.int .u64 out]] (y9.val ⟨out,true,fin⟩):=by
 refine S8 9 Tryz.func111 fun fr hf s0=> ?_
 obtain ⟨A,n,c,rfl⟩:=aE
 refine Ze fun _ b7=>Zr [] hf ?_
 refine C1 1 2 hf ?_
 clear hf s0;intro a7 hf sS
 obtain ⟨W0,p8⟩:∃ x,(w.alloc (.cells #[.slice A n c,.bool fin,.int .u64 out] 46)).alloc (.cells #[.int .u64 0,.bool false,.bool false] 192)=x:=⟨_,rfl⟩
 obtain ⟨s1,s2⟩:=sS
 try simp only [World.size_alloc] at s2
 try rw [p8]
 obtain ⟨p9,F1,C5⟩:=F9 p8
 clear p8
 have c0:=n5 0 F1
 have c1:=n5 1 F1
 have c2:=n5 2 F1
 have r0:=n5 0 C5
 have r1:=n5 1 C5
 have r2:=n5 2 C5
 have f0:=j3 (i:=0) C5;have f1:=j3 (i:=1) C5;have f2:=j3 (i:=2) C5
 simp at c0 c1 c2 r0 r1 r2
 refine Zs b7 fun _ b7=>Zr [3,4,5,6,7,8] hf ?_
 refine r6 2 hf ?_
 clear hf s1 s2;intro a7 hf s2
 refine Zx b7 (k8 ?_)
 exact N9 rfl hf s2 (j5 (j5 (j5 C5 _) _) _) Tryz.underlying192 rfl kR ⟨by simp [y9.val],((p9.setCell (p:=⟨w.heap.size+1,0,none⟩) sQ _).setCell (p:=⟨w.heap.size+1,1,none⟩) sQ _).setCell (p:=⟨w.heap.size+1,2,none⟩) sQ _⟩
theorem u6p (w:World) (x c:Nat) (ov:Value) (hx:x<=100001) (hc:c<=100001):Calls Tryz.prog 107 #[.int .i64 x,.int .i64 c,ov] w fun e w1=>e= .returned (.int .i64 (min (x+c) 100001:Nat))/\w=w1:=by
 refine lM 11 Tryz.func107 fun fr hf s0 s1 s2=> ?_
 refine Ze fun _ b7=>Zr [] hf ?_
 refine C1 0 1 hf ?_
 clear hf s0 s1 s2;intro a7 hf sS
 refine Zt b7 fun _ b7=> ?_
 have bB:=hf.B4 7 8 9 10
 iterate 2 refine Zy ?_
 refine fp fun K Z=> ?_
 go_simp
 try simp (disch:=omega) only [Fc.W]
 try rw [Fc.wrap_i64 oM oM]
 apply Z.out;clear Z K
 iterate 2 refine Zy ?_
 refine Fc.nil (r6 6 hf ?_)
 clear hf sS bB;intro a7 hf s6
 refine Zx b7 (k8 ?_)
 exact Fc.o9 rfl hf s6 ⟨by congr 2;omega,rfl⟩
theorem v8c (w:World) (x c:Int) (ov:Value) (hx: -1<=x/\x<=1000000000) (hc: -1<=c/\c<=1000000000) (hn:c<0):Calls Tryz.prog 109 #[.int .i64 x,.int .i64 c,ov] w fun e w1=>e= .returned (.int .i64 (pK x c))/\w=w1:=by
 refine lM 14 Tryz.func109 fun fr hf s0 s1 s2=> ?_
 have q1:decide (c<0)=true:=decide_eq_true hn
 clear hn
 refine Ze fun _ b7=>Zr [] hf ?_
 refine C1 0 1 hf ?_
 clear hf s0 s1 s2;intro a7 hf sS
 refine Zs b7 fun _ b7=>Ze fun _ j8=>Zr [7] hf ?_
 refine B1 0 1 8 hf ?_
 clear hf sS;intro a7 hf sS
 refine Zx j8 (Fc.l8 sS.2.2 ?_)
 refine Ze fun _ j8=>Zr [9] hf ?_
 refine r6 6 hf ?_
 clear hf sS;intro a7 hf s6
 refine Zx j8 (k8 ?_)
 exact Fc.o9 rfl hf s6 ⟨by simp only [pK];rw [if_pos (of_decide_eq_true q1)],rfl⟩
theorem v8b (w:World) (x c:Int) (ov:Value) (hx: -1<=x/\x<=1000000000) (hc: -1<=c/\c<=1000000000) (hn:0<=c):Calls Tryz.prog 109 #[.int .i64 x,.int .i64 c,ov] w fun e w1=>e= .returned (.int .i64 (pK x c))/\w=w1:=by
 refine lM 14 Tryz.func109 fun fr hf s0 s1 s2=> ?_
 have q1:decide (c<0)=false:=decide_eq_false oM
 skip
 refine Ze fun _ b7=>Zr [] hf ?_
 refine C1 0 1 hf ?_
 clear hf s0 s1 s2;intro a7 hf sS
 refine Zs b7 fun _ b7=>Ze fun _ j8=>Zr [7] hf ?_
 refine B1 0 1 8 hf ?_
 clear hf sS;intro a7 hf sS
 refine Zx j8 (Fc.k9 sS.2.2 ?_)
 refine wp_skip (Zt b7 fun _ b7=> ?_)
 have bB:=hf.B4 10 11 12 13
 iterate 2 refine Zy ?_
 refine fp fun K Z=> ?_
 go_simp
 try simp (disch:=omega) only [Fc.W]
 try rw [Fc.wrap_i64 oM oM]
 apply Z.out;clear Z K
 iterate 2 refine Zy ?_
 refine Fc.nil (r6 6 hf ?_)
 clear hf sS bB;intro a7 hf s6
 refine Zx b7 (k8 ?_)
 exact Fc.o9 rfl hf s6 ⟨by simp only [pK];rw [if_neg (of_decide_eq_false q1)],rfl⟩
theorem u6o (w:World) (n k ov:Nat) (fm fx am ax:Bool) (hk:k<y5) (ho:ov<y5):Calls Tryz.prog 112 #[.agg #[.int .u64 n,.bool fm,.bool am],.agg #[.int .u64 k,.bool fx,.bool ax],.int .u64 ov] w fun e w1=>e= .returned (y9.or ⟨n,fm,am⟩ ⟨(k+ov)%y5,fx&&decide (k+ov<y5),ax⟩).val/\Below w.heap.size w w1:=by
 refine lM 15 Tryz.func112 fun fr hf s0 s1 s2=> ?_
 refine Ze fun _ b7=>Zr [] hf ?_
 refine C0 2 3 4 6 hf ?_
 clear hf s0 s1 s2;intro a7 hf sS
 obtain ⟨W0,p8⟩:∃ x,((w.alloc (.cells #[.int .u64 n,.bool fm,.bool am] 192)).alloc (.cells #[.int .u64 k,.bool fx,.bool ax] 192)).alloc (.cells #[.int .u64 0,.bool false,.bool false] 192)=x:=⟨_,rfl⟩
 obtain ⟨s2,s3,s4,s6⟩:=sS
 try simp only [World.size_alloc] at s3 s4 s6
 try rw [p8]
 obtain ⟨p9,F1,C5,J2⟩:=bD p8
 clear p8
 obtain ⟨cq,hcq⟩:∃ x,w.heap.size+1=x:=⟨_,rfl⟩
 rw [hcq] at C5 s4
 have HCQ:=H9 hcq;clear hcq
 have c0:=n5 0 F1
 have c1:=n5 1 F1
 have c2:=n5 2 F1
 have d0:=n5 0 C5
 have d1:=n5 1 C5
 have d2:=n5 2 C5
 simp at c0 c1 c2 d0 d1 d2
 refine Zt b7 fun _ b7=> ?_
 have bB:=hf.B5 7 8 9 10 11
 iterate 3 refine Zy ?_
 refine Zc (kH W0 k ov fx hk ho) ?_;rintro e w1 ⟨rfl,n7⟩
 obtain ⟨sm,Z7⟩:∃ x,(k+ov)%y5=x:=⟨_,rfl⟩
 obtain ⟨sf,hsf⟩:∃ x,(fx&&decide (k+ov<y5))=x:=⟨_,rfl⟩
 rw [Z7,hsf]
 have HSM:=H9 Z7;have HSF:=H9 hsf;clear Z7 hsf
 replace C5:=(n7.block _ (j4 C5)).trans C5;replace J2:=(n7.block _ (j4 J2)).trans J2
 replace c0:=cL n7 c0;replace c1:=cL n7 c1;replace c2:=cL n7 c2;replace d0:=cL n7 d0;replace d1:=cL n7 d1;replace d2:=cL n7 d2
 have o5:=p9.trans (n7.mono p9.size)
 have f0:=j3 (i:=0) C5;have f1:=j3 (i:=1) C5
 refine Zv ?_
 iterate 2 refine Zy ?_
 refine Fc.nil (B1 3 4 6 hf ?_)
 clear hf s2 s3 s4 s6 bB;intro a7 hf sS
 generalize U1:(w1.setCell ⟨cq,0,none⟩ (.int .u64 sm)).setCell ⟨cq,1,none⟩ (.bool sf)=W2
 have hbS:n4 (fun q=>q=cq) w1 W2:=by rw [<- U1];exact (n4.setCell (S:=fun q=>q=cq) (p:=⟨cq,0,none⟩) rfl _).trans (n4.setCell (S:=fun q=>q=cq) (p:=⟨cq,1,none⟩) rfl _)
 have w6w:W2.heap[cq]? =some (.cells #[.int .u64 sm,.bool sf,.bool ax] 192 (0,0)):=by rw [<- U1];exact (j5 (j5 C5 _) _).trans sP
 replace c0:=hbS.cell c0 (by have:=HCQ.out;simp only;omega);replace c1:=hbS.cell c1 (by have:=HCQ.out;simp only;omega);replace c2:=hbS.cell c2 (by have:=HCQ.out;simp only;omega)
 replace J2:=hbS.heap J2 (by have:=HCQ.out;omega)
 replace o5:=o5.trans (hbS.below o5.size (fun q h=>by have h:q=cq:=h;have:=HCQ.out;omega))
 have e0:=n5 0 w6w;have e1:=n5 1 w6w;have e2:=n5 2 w6w
 simp at e0 e1 e2
 clear d0 d1 d2 f0 f1 C5 U1
 refine Zt b7 fun _ b7=> ?_
 have bB:=hf.B3 12 13 14
 iterate 2 refine Zy ?_
 refine Zc (v8h W2 ⟨n,fm,am⟩ ⟨sm,sf,ax⟩) ?_;rintro e w3 ⟨rfl,D4⟩
 obtain ⟨⟨rn,rf_,ra⟩,hr⟩:∃ x,y9.or ⟨n,fm,am⟩ ⟨sm,sf,ax⟩=x:=⟨_,rfl⟩
 rw [hr]
 have HR:=H9 hr;clear hr
 simp only [y9.val]
 replace J2:=(D4.block _ (j4 J2)).trans J2
 replace o5:=o5.trans (D4.mono o5.size)
 have r0:=n5 0 J2
 have r1:=n5 1 J2
 have r2:=n5 2 J2
 have f0:=j3 (i:=0) J2;have f1:=j3 (i:=1) J2;have f2:=j3 (i:=2) J2
 simp at r0 r1 r2
 refine Zv ?_
 refine Zy ?_
 refine Fc.nil (r6 6 hf ?_)
 clear hf sS bB;intro a7 hf s6
 refine Zx b7 (k8 ?_)
 exact N9 rfl hf s6 (j5 (j5 (j5 J2 _) _) _) Tryz.underlying192 rfl kR ⟨by rw [HSM.out,HSF.out,HR.out];simp [y9.val],((o5.setCell (p:=⟨w.heap.size+1+1,0,none⟩) sQ _).setCell (p:=⟨w.heap.size+1+1,1,none⟩) sQ _).setCell (p:=⟨w.heap.size+1+1,2,none⟩) sQ _⟩
theorem u6l (w:World) (s:ByteArray) (v:Nat) (hv:v<18446744073709551616) (hc:v=0):G4 w 127 #[.string s,.int .u64 v] (.tuple #[eval (eH s v),.bool (ofB v)]):=by
 refine aT 21 Tryz.func127 fun fr hf s0 s1=> ?_
 have q0:((v:Int)==0)=true:=beq_iff_eq.2 oM
 have HOE:=H9 (show eH s v=⟨s,0,true⟩ by unfold eH;rw [if_neg (by omega),if_pos (by omega)]);have HOB:=H9 (show ofB v=true by unfold ofB;simp;omega)
 refine Ze fun _ b7=>Zr [] hf ?_
 refine B1 0 1 4 hf ?_
 clear hf s0 s1;intro a7 hf sS
 generalize p8:w.alloc (.cells #[.string ⟨#[]⟩,.int .u32 0,.bool false] 64)=W0
 obtain ⟨p9,r0,r1,r2,F1, -⟩:=G1 p8
 clear p8
 have f0:=j3 (i:=0) F1;have f1:=j3 (i:=1) F1;have f2:=j3 (i:=2) F1
 refine Zs b7 fun _ b7=>wp_block (Ze fun _ j8=>Zr [7,8] hf ?_)
 refine C0 0 1 4 6 hf ?_
 clear hf sS;intro a7 hf sS
 refine Zx j8 (Fc.l8 sS.2.2.2 ?_)
 refine Ze fun _ j8=>Zr [9,10] hf ?_
 refine C1 4 5 hf ?_
 clear hf sS;intro a7 hf sS
 refine Zx j8 (k8 ?_)
 refine cV rfl hf sS.1 sS.2 (j5 (j5 (j5 F1 _) _) _) Tryz.underlying64 rfl kR ⟨by rw [HOE.out,HOB.out];simp [eval],((p9.setCell (p:=⟨w.heap.size,0,none⟩) nR _).setCell (p:=⟨w.heap.size,1,none⟩) nR _).setCell (p:=⟨w.heap.size,2,none⟩) nR _⟩
theorem u6k (w:World) (s:ByteArray) (v:Nat) (hv:v<18446744073709551616) (hc:4294967296<v):G4 w 127 #[.string s,.int .u64 v] (.tuple #[eval (eH s v),.bool (ofB v)]):=by
 refine aT 21 Tryz.func127 fun fr hf s0 s1=> ?_
 have q0:((v:Int)==0)=false:=beq_eq_false_iff_ne.2 oM
 have HOE:=H9 (show eH s v=⟨⟨#[]⟩,0,false⟩ by unfold eH;rw [if_pos (by omega)]);have HOB:=H9 (show ofB v=false by unfold ofB;simp;omega)
 refine Ze fun _ b7=>Zr [] hf ?_
 refine B1 0 1 4 hf ?_
 clear hf s0 s1;intro a7 hf sS
 generalize p8:w.alloc (.cells #[.string ⟨#[]⟩,.int .u32 0,.bool false] 64)=W0
 obtain ⟨p9,r0,r1,r2,F1, -⟩:=G1 p8
 clear p8
 have f0:=j3 (i:=0) F1;have f1:=j3 (i:=1) F1;have f2:=j3 (i:=2) F1
 refine Zs b7 fun _ b7=>wp_block (Ze fun _ j8=>Zr [7,8] hf ?_)
 refine C0 0 1 4 6 hf ?_
 clear hf sS;intro a7 hf sS
 refine Zx j8 (Fc.k9 sS.2.2.2 ?_)
 obtain ⟨u,hu⟩:∃ u:Nat,v=u+1:=⟨v-1,oM⟩
 subst hu
 have hw1:IntKind.u64.wrap (((u+1:Nat):Int)-1)=(u:Int):=by rw [Fc.wrap_u64 oM oM];omega
 have q2:decide ((4294967295:Int)<(u:Int))=true:=decide_eq_true oM
 skip
 refine Ze fun _ j8=>rg ?_
 have bB:=hf.B3 12 13 14
 refine Zy ?_
 refine fp fun K Z=> ?_
 go_simp
 try simp (disch:=omega) only [Fc.W]
 try rw [hw1]
 apply Z.out;clear Z K
 iterate 2 refine Zy ?_
 refine Fc.nil (C0 0 1 4 11 hf ?_)
 clear hf sS bB;intro a7 hf sS
 refine Zx j8 (Fc.l8 sS.2.2.2 ?_)
 refine Ze fun _ j8=>Zr [15] hf ?_
 refine C1 4 5 hf ?_
 clear hf sS;intro a7 hf sS
 refine Zx j8 (k8 ?_)
 refine cV rfl hf sS.1 sS.2 (j5 (j5 (j5 F1 _) _) _) Tryz.underlying64 rfl kR ⟨by rw [HOE.out,HOB.out];simp [eval],((p9.setCell (p:=⟨w.heap.size,0,none⟩) nR _).setCell (p:=⟨w.heap.size,1,none⟩) nR _).setCell (p:=⟨w.heap.size,2,none⟩) nR _⟩
theorem u6j (w:World) (s:ByteArray) (v:Nat) (hv:v<18446744073709551616) (hc:0<v/\v<=4294967296):G4 w 127 #[.string s,.int .u64 v] (.tuple #[eval (eH s v),.bool (ofB v)]):=by
 refine aT 21 Tryz.func127 fun fr hf s0 s1=> ?_
 have q0:((v:Int)==0)=false:=beq_eq_false_iff_ne.2 oM
 have HOE:=H9 (show eH s v=⟨s,((v-1:Nat):Int),false⟩ by unfold eH;rw [if_neg (by omega),if_neg (by omega)]);have HOB:=H9 (show ofB v=true by unfold ofB;simp;omega)
 refine Ze fun _ b7=>Zr [] hf ?_
 refine B1 0 1 4 hf ?_
 clear hf s0 s1;intro a7 hf sS
 generalize p8:w.alloc (.cells #[.string ⟨#[]⟩,.int .u32 0,.bool false] 64)=W0
 obtain ⟨p9,r0,r1,r2,F1, -⟩:=G1 p8
 clear p8
 have f0:=j3 (i:=0) F1;have f1:=j3 (i:=1) F1;have f2:=j3 (i:=2) F1
 refine Zs b7 fun _ b7=>wp_block (Ze fun _ j8=>Zr [7,8] hf ?_)
 refine C0 0 1 4 6 hf ?_
 clear hf sS;intro a7 hf sS
 refine Zx j8 (Fc.k9 sS.2.2.2 ?_)
 obtain ⟨u,hu⟩:∃ u:Nat,v=u+1:=⟨v-1,oM⟩
 subst hu
 have hw1:IntKind.u64.wrap (((u+1:Nat):Int)-1)=(u:Int):=by rw [Fc.wrap_u64 oM oM];omega
 have q2:decide ((4294967295:Int)<(u:Int))=false:=decide_eq_false oM
 simp only [Nat.add_sub_cancel] at HOE
 refine Ze fun _ j8=>rg ?_
 have bB:=hf.B3 12 13 14
 refine Zy ?_
 refine fp fun K Z=> ?_
 go_simp
 try simp (disch:=omega) only [Fc.W]
 try rw [hw1]
 apply Z.out;clear Z K
 iterate 2 refine Zy ?_
 refine Fc.nil (C0 0 1 4 11 hf ?_)
 clear hf sS bB;intro a7 hf sS
 refine Zx j8 (Fc.k9 sS.2.2.2 ?_)
 refine wp_skip (Fc.j7 (Zt b7 fun _ b7=> ?_))
 have bB:=hf.B5 16 17 18 19 20
 iterate 2 refine Zy ?_
 refine fp fun K Z=> ?_
 go_simp
 try simp (disch:=omega) only [Fc.W]
 try rw [hw1]
 apply Z.out;clear Z K
 refine fp fun K Z=> ?_
 go_simp
 try rw [show IntKind.u32.wrap (u:Int)=(u:Int) from Fc.wrap_u32 oM oM]
 apply Z.out;clear Z K
 iterate 3 refine Zy ?_
 refine Fc.nil (C1 4 5 hf ?_)
 clear hf sS bB;intro a7 hf sS
 refine Zx b7 (k8 ?_)
 refine cV rfl hf sS.1 sS.2 (j5 (j5 (j5 F1 _) _) _) Tryz.underlying64 rfl kR ⟨by rw [HOE.out,HOB.out];simp [eval],((p9.setCell (p:=⟨w.heap.size,0,none⟩) nR _).setCell (p:=⟨w.heap.size,1,none⟩) nR _).setCell (p:=⟨w.heap.size,2,none⟩) nR _⟩
theorem x0k (w:World) (s:ByteArray) (v:Nat) (hv:v<18446744073709551616):G4 w 127 #[.string s,.int .u64 v] (.tuple #[eval (eH s v),.bool (ofB v)]):=by
 rcases Nat.eq_zero_or_pos v with h | h
 ·exact u6l w s v hv h
 ·rcases Nat.lt_or_ge 4294967296 v with h2 | h2
  ·exact u6k w s v hv h2
  ·exact u6j w s v hv ⟨h,h2⟩
end Dw
end Go.Proofs.YtcddnmhmcieebaaGreatDoor
