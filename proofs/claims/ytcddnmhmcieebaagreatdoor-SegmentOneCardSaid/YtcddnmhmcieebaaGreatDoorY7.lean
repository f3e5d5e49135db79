/- Dawg: Size, formed. -/
import Derived.Test.YtcddnmhmcieebaaGreatDoorY1
import Derived.Test.YtcddnmhmcieebaaGreatDoorY6
import Derived.Test.YtcddnmhmcieebaaGreatDoorDLawP
import Derived.Test.YtcddnmhmcieebaaGreatDoorTools
namespace Go.Proofs.YtcddnmhmcieebaaGreatDoor
set_option maxHeartbeats 4000000
set_option maxRecDepth 100000
open Go.RowKit
set_option linter.unusedSimpArgs false
set_option linter.unusedVariables false
set_option linter.unnecessarySimpa false
namespace Dw
theorem y4t (t i b l:Int):t<0\/(0<=t/\i<=t)\/(0<=t/\t<i/\b<=l)\/(0<=t/\t<i/\l<b):=oM
theorem x7s (w:World) (sv:Value) (init:Nat) (ss:List State) (o7:RS w sv ss) (a8:∀ s∈ss,J8 s) (hlen:ss.length<=1000000):G4 w 103 #[.agg #[sv,.int .u64 init]] (.bool (C4 ss)):=by
 refine S8 56 Tryz.func103 fun fr hf s0=> ?_
 obtain ⟨A,cc,rfl,Z3⟩:=o7.form
 have HO:=H9 a8;clear a8
 refine Ze fun _ b7=>Zr [] hf ?_
 refine r6 1 hf ?_
 clear hf s0;intro a7 hf s1
 generalize p8:w.alloc (.cells #[.slice A ss.length cc,.int .u64 init] 38)=W0
 obtain ⟨p9,c0,c1, -, -⟩:=Z8 p8
 clear p8
 have cQ:=o7.later p9
 clear o7
 refine Zs b7 fun _ b7=>Ze fun _ j8=>Zr [8,9] hf ?_
 refine C0 1 9 10 11 hf ?_
 clear hf s1;intro a7 hf sS
 refine Zx j8 (wp_block (wp_loop_ghost (fun gk fr wr=>∃ (i:Nat),gk=ss.length-i/\i<=ss.length/\Fc.Fr 56 fr/\fr.tmps[1]? =some (.pointer (some ⟨w.heap.size,0,none⟩))/\fr.tmps[9]? =some (.slice A ss.length cc)/\fr.tmps[10]? =some (.int .i64 ss.length)/\fr.tmps[11]? =some (.int .i64 i)/\formedL 0 ss=formedL i (ss.drop i)/\Below W0.heap.size W0 wr) (ss.length) ?_ ?_))
 . (
 obtain ⟨s1,s9,y4,C7⟩:=sS
 exact ⟨0,rfl,Nat.zero_le _,hf,s1,s9,y4,C7,rfl,Below.refl _ _⟩)
 . (
 clear hf sS
 rintro gk fr wr ⟨i,hk,hi,hf,s1,s9,y4,C7,D5,hb⟩
 have HK:=H9 hk;have HM:=H9 D5;clear hk D5
 refine Ze fun _ j8=>Zr [] hf ?_
 refine D0 1 9 10 11 12 hf ?_
 clear hf s1 s9 y4 C7;intro a7 hf sS
 refine Zs j8 fun _ j8=>Fc.l0 sS.2.2.2.2 (fun hq=> ?_) (fun hq=> ?_)
 . (
 have n8:i<ss.length:=qT
 have HQ:=H9 hq;clear hq
 obtain ⟨s,U2⟩:∃ s,ss[i]? =some s:=⟨_,D9 n8⟩
 obtain ⟨b,off,av,rfl,D3⟩:=(cQ.later hb).at_ U2
 have d0:=D3.c0;have d1:=D3.c1;have d2:=D3.c2
 have bA:=D3.a6
 obtain ⟨A2,c2,rfl,_⟩:=D3.a6.form
 have iT:=HO.out s (U0 U2)
 have y8:=xC U2
 have HS:=H9 U2;have X9:=H9 y8;clear U2 y8 D3
 have bS:=iT.2.1
 refine wp_skip (Zs j8 fun _ j8=>wp_block (Ze fun _ l6=>Zr [13,14,15,4] hf ?_))
 refine J3 1 3 4 9 10 11 hf ?_
 clear hf sS;intro a7 hf sS
 generalize eC:wr.alloc (.cells #[.slice A2 s.a6.length c2,.bool s.final,.int .u64 s.out] 46)=W5
 obtain ⟨F2,x0,x1,x2, -, -⟩:=G1 eC
 clear eC
 clear d0 d1 d2
 have y6f:=bA.later F2
 clear bA
 have T6:=p9.trans ((hb.trans (F2.mono hb.size)).mono p9.size)
 refine Zx l6 (Fc.L1 (fun fr wq=>Fc.Fr 56 fr/\fr.tmps[1]? =some (.pointer (some ⟨w.heap.size,0,none⟩))/\fr.tmps[3]? =some (.int .i64 i)/\fr.tmps[4]? =some (.pointer (some ⟨wr.heap.size,0,none⟩))/\fr.tmps[9]? =some (.slice (some ⟨b,off,none⟩) ss.length cc)/\fr.tmps[10]? =some (.int .i64 ss.length)/\fr.tmps[11]? =some (.int .i64 i)/\wq=W5/\(s.final||decide (s.out=0))=true) ?_ ?_)
 . (
 rcases q9:s.final with _ | _
 . (
 have P9:=H9 q9;clear q9
 have q1:=P9.out
 refine Ze fun _ l6=>rg ?_
 have bB:=hf.B7 16 17 18 19 20 21 22
 iterate 4 refine Zy ?_
 refine Zg ?_ (hv:=by simp (decide:=true) only [Fc.G,reduceIte,hf.size,q1,Fc.N])
 refine Zg ?_ (hv:=by simp (decide:=true) only [Fc.G,reduceIte,hf.size,q1,Fc.N])
 refine Zg ?_ (hv:=by simp (decide:=true) only [Fc.G,reduceIte,hf.size,q1,Fc.N])
 refine Zy ?_
 refine Fc.nil (cP 1 3 4 9 10 11 23 hf ?_)
 clear hf sS bB;intro a7 hf sS
 refine Zx l6 (Fc.l0 sS.2.2.2.2.2.2 (fun hqo=> ?_) (fun hqo=> ?_))
 . (
 have ho0:s.out≠0:=by simpa using hqo
 have HO0:=H9 ho0;clear ho0 hqo
 have G3:formedL 0 ss=false:=by rw [HM.out,X9.out,P9.out,decide_eq_false HO0.out];rfl
 have Q9:=H9 G3;clear G3
 have T2:=T6
 refine Ze fun _ l6=>Zr [] hf ?_
 refine r6 2 hf ?_
 clear hf sS;intro a7 hf s2
 refine Zx l6 (k8 ?_)
 exact Fc.o9 rfl hf s2 ⟨by rw [C4,Q9.out];rfl,T2⟩)
 . (
 have ho0:s.out=0:=by simpa using hqo
 have HO0:=H9 ho0;clear ho0 hqo
 have hfo:(s.final||decide (s.out=0))=true:=by rw [P9.out,decide_eq_true HO0.out];rfl
 have HFO:=H9 hfo;clear hfo
 refine wp_skip (Fc.j6 ?_)
 obtain ⟨s1,s3,s4,s9,y4,C7,S1⟩:=sS
 exact ⟨hf,s1,s3,s4,s9,y4,C7,rfl,(by have h9:=HFO.out;rw [P9.out] at h9;exact h9)⟩))
 . (
 have P9:=H9 q9;clear q9
 have q1:=P9.out
 refine Ze fun _ l6=>rg ?_
 have bB:=hf.B7 16 17 18 19 20 21 22
 iterate 4 refine Zy ?_
 refine Zk ?_ (hv:=by simp (decide:=true) only [Fc.G,reduceIte,hf.size,Fc.N,q1,Fc.N])
 refine Zk ?_ (hv:=by simp (decide:=true) only [Fc.G,reduceIte,hf.size,Fc.N,q1,Fc.N])
 refine Zk ?_ (hv:=by simp (decide:=true) only [Fc.G,reduceIte,hf.size,Fc.N,q1,Fc.N])
 refine Zy ?_
 refine Fc.nil (cP 1 3 4 9 10 11 23 hf ?_)
 clear hf sS bB;intro a7 hf sS
 refine Zx l6 ?_
 have hfo:(s.final||decide (s.out=0))=true:=by rw [P9.out];rfl
 have HFO:=H9 hfo;clear hfo
 refine Fc.k9 sS.2.2.2.2.2.2 ?_
 refine wp_skip (Fc.j6 ?_)
 obtain ⟨s1,s3,s4,s9,y4,C7,S1⟩:=sS
 exact ⟨hf,s1,s3,s4,s9,y4,C7,rfl,(by have h9:=HFO.out;rw [P9.out] at h9;exact h9)⟩))
 . (
 clear hf sS
 rintro fr wq ⟨hf,s1,s3,s4,s9,y4,C7,hw,hfo⟩
 subst wq
 have HFO:=H9 hfo;clear hfo
 refine Ze fun _ l6=>Zr [] hf ?_
 refine cP 1 3 4 5 9 10 11 hf ?_
 clear hf s1 s3 s4 s9 y4 C7;intro a7 hf sS
 refine Zs l6 fun _ l6=>Zr [24,25] hf ?_
 refine vE 1 3 5 9 10 11 25 26 27 hf ?_
 clear hf sS;intro a7 hf sS
 refine Zx l6 (wp_block (wp_loop_ghost (fun nJ fr mV=>∃ (k:Nat) (last:Int),nJ=s.a6.length-k/\k<=s.a6.length/\Fc.Fr 56 fr/\fr.tmps[1]? =some (.pointer (some ⟨w.heap.size,0,none⟩))/\fr.tmps[3]? =some (.int .i64 i)/\fr.tmps[5]? =some (.int .i64 last)/\fr.tmps[9]? =some (.slice (some ⟨b,off,none⟩) ss.length cc)/\fr.tmps[10]? =some (.int .i64 ss.length)/\fr.tmps[11]? =some (.int .i64 i)/\fr.tmps[25]? =some (.slice A2 s.a6.length c2)/\fr.tmps[26]? =some (.int .i64 s.a6.length)/\fr.tmps[27]? =some (.int .i64 k)/\okArcs i (-1) s.a6=okArcs i last (s.a6.drop k)/\Below W5.heap.size W5 mV) (s.a6.length) ?_ ?_))
 . (
 obtain ⟨s1,s3,s5,s9,y4,C7,bQ,Z1,V0⟩:=sS
 exact ⟨0, -1,rfl,Nat.zero_le _,hf,s1,s3,s5,s9,y4,C7,bQ,Z1,V0,rfl,Below.refl _ _⟩)
 . (
 clear hf sS
 rintro nJ fr mV ⟨k,last,M5,eK,hf,s1,s3,s5,s9,y4,C7,bQ,Z1,V0,Y8,G7⟩
 have HK2:=H9 M5;have HOA:=H9 Y8;clear M5 Y8
 refine Ze fun _ l6=>Zr [] hf ?_
 refine nT 1 3 5 9 10 11 25 26 27 28 hf ?_
 clear hf s1 s3 s5 s9 y4 C7 bQ Z1 V0;intro a7 hf sS
 refine Zs l6 fun _ l6=>Fc.l0 sS.2.2.2.2.2.2.2.2.2 (fun H7=> ?_) (fun H7=> ?_)
 . (
 have gG:k<s.a6.length:=by have h9:=of_decide_eq_true H7;omega
 have HQ2:=H9 H7;clear H7
 obtain ⟨a,qS⟩:∃ a,s.a6[k]? =some a:=⟨_,D9 gG⟩
 obtain ⟨b3,y7d,rfl,aF,y0,y1,y2⟩:=(y6f.later G7).at' qS
 have yR:=iT.2.2 a (U0 qS)
 have D3:=z9y (i:=i) (last:=last) qS
 have HKA:=H9 qS;have HAT:=H9 D3;clear qS D3
 have hab:=yR.1
 rcases y4t a.to (i:Int) (a.byte:Int) last with hc | hc | hc | hc
 . (
 have q2:decide (a.to<0)=true:=decide_eq_true hc
 have HC:=H9 hc;clear hc
 refine wp_skip (Zs l6 fun _ l6=>wp_block (Ze fun _ N4=>Zr [29,30,7] hf ?_))
 refine nT 1 3 5 7 9 10 11 25 26 27 hf ?_
 clear hf sS;intro a7 hf sS
 generalize eB:mV.alloc (.cells #[.int .u8 a.byte,.int .u64 a.out,.int .i64 a.to] 71)=W7
 obtain ⟨A8,z0, -,z2, -, -⟩:=G1 eB
 clear eB
 clear y0 y1 y2 aF
 have T2:=T6.trans ((G7.trans (A8.mono G7.size)).mono T6.size)
 refine Zs N4 fun _ N4=>Ze fun _ U3=> ?_
 have qs:=q2
 refine Zr [31,32,33,34,35,36,37,38,39,40,41,42,43,44,45] hf ?_
 refine nT 1 3 7 9 10 11 25 26 27 46 hf ?_
 clear hf sS qs;intro a7 hf sS
 refine Zx U3 (Fc.l8 sS.2.2.2.2.2.2.2.2.2 ?_)
 have G3:formedL 0 ss=false:=by rw [HM.out,X9.out,HOA.out,HAT.out];have:=HC.out;rw [decide_eq_false (show ¬ 0<=a.to by omega)];simp
 have Q9:=H9 G3;clear G3
 refine Ze fun _ U3=>Zr [] hf ?_
 refine r6 2 hf ?_
 clear hf sS;intro a7 hf s2
 refine Zx U3 (k8 ?_)
 exact Fc.o9 rfl hf s2 ⟨by rw [C4,Q9.out];rfl,T2⟩)
 . (
 have q2:decide (a.to<0)=false:=decide_eq_false oM
 have q3:decide ((i:Int)<=a.to)=true:=decide_eq_true hc.2
 have HC:=H9 hc;clear hc
 refine wp_skip (Zs l6 fun _ l6=>wp_block (Ze fun _ N4=>Zr [29,30,7] hf ?_))
 refine nT 1 3 5 7 9 10 11 25 26 27 hf ?_
 clear hf sS;intro a7 hf sS
 generalize eB:mV.alloc (.cells #[.int .u8 a.byte,.int .u64 a.out,.int .i64 a.to] 71)=W7
 obtain ⟨A8,z0, -,z2, -, -⟩:=G1 eB
 clear eB
 clear y0 y1 y2 aF
 have T2:=T6.trans ((G7.trans (A8.mono G7.size)).mono T6.size)
 refine Zs N4 fun _ N4=>Ze fun _ U3=> ?_
 have qs:=And.intro q2 q3
 refine Zr [31,32,33,34,35,36,37,38,39,40,41,42,43,44,45] hf ?_
 refine nT 1 3 7 9 10 11 25 26 27 46 hf ?_
 clear hf sS qs;intro a7 hf sS
 refine Zx U3 (Fc.l8 sS.2.2.2.2.2.2.2.2.2 ?_)
 have G3:formedL 0 ss=false:=by rw [HM.out,X9.out,HOA.out,HAT.out];have:=HC.out;rw [decide_eq_false (show ¬ a.to<(i:Int) by omega)];simp
 have Q9:=H9 G3;clear G3
 refine Ze fun _ U3=>Zr [] hf ?_
 refine r6 2 hf ?_
 clear hf sS;intro a7 hf s2
 refine Zx U3 (k8 ?_)
 exact Fc.o9 rfl hf s2 ⟨by rw [C4,Q9.out];rfl,T2⟩)
 . (
 have q2:decide (a.to<0)=false:=decide_eq_false oM
 have q3:decide ((i:Int)<=a.to)=false:=decide_eq_false oM
 have q4:decide ((a.byte:Int)<=last)=true:=decide_eq_true hc.2.2
 have HC:=H9 hc;clear hc
 refine wp_skip (Zs l6 fun _ l6=>wp_block (Ze fun _ N4=>Zr [29,30,7] hf ?_))
 refine nT 1 3 5 7 9 10 11 25 26 27 hf ?_
 clear hf sS;intro a7 hf sS
 generalize eB:mV.alloc (.cells #[.int .u8 a.byte,.int .u64 a.out,.int .i64 a.to] 71)=W7
 obtain ⟨A8,z0, -,z2, -, -⟩:=G1 eB
 clear eB
 clear y0 y1 y2 aF
 have T2:=T6.trans ((G7.trans (A8.mono G7.size)).mono T6.size)
 refine Zs N4 fun _ N4=>Ze fun _ U3=> ?_
 have qs:=And.intro q2 (And.intro q3 q4)
 refine rg ?_
 have bB:=And.intro (hf.pL 31 32 33 34 35 36 37 38 39 40) (hf.B5 41 42 43 44 45)
 iterate 12 refine Zy ?_
 refine og 9 40 false ?_ fun K Z=> ?_
 . (
 simp (decide:=true) only [Fc.G,reduceIte,hf.size,q2,q3,q4])
 go_simp
 try simp (disch:=omega) only [Fc.wrap_i64]
 apply Z.out;clear Z K
 iterate 3 refine Zy ?_
 refine Fc.nil (nT 1 3 7 9 10 11 25 26 27 46 hf ?_)
 clear hf sS bB qs;intro a7 hf sS
 refine Zx U3 (Fc.l8 sS.2.2.2.2.2.2.2.2.2 ?_)
 have G3:formedL 0 ss=false:=by rw [HM.out,X9.out,HOA.out,HAT.out];have:=HC.out;rw [decide_eq_false (show ¬ last<(a.byte:Int) by omega)];simp
 have Q9:=H9 G3;clear G3
 refine Ze fun _ U3=>Zr [] hf ?_
 refine r6 2 hf ?_
 clear hf sS;intro a7 hf s2
 refine Zx U3 (k8 ?_)
 exact Fc.o9 rfl hf s2 ⟨by rw [C4,Q9.out];rfl,T2⟩)
 . (
 have q2:decide (a.to<0)=false:=decide_eq_false oM
 have q3:decide ((i:Int)<=a.to)=false:=decide_eq_false oM
 have q4:decide ((a.byte:Int)<=last)=false:=decide_eq_false oM
 have HC:=H9 hc;clear hc
 refine wp_skip (Zs l6 fun _ l6=>wp_block (Ze fun _ N4=>Zr [29,30,7] hf ?_))
 refine nT 1 3 5 7 9 10 11 25 26 27 hf ?_
 clear hf sS;intro a7 hf sS
 generalize eB:mV.alloc (.cells #[.int .u8 a.byte,.int .u64 a.out,.int .i64 a.to] 71)=W7
 obtain ⟨A8,z0, -,z2, -, -⟩:=G1 eB
 clear eB
 clear y0 y1 y2 aF
 have T2:=T6.trans ((G7.trans (A8.mono G7.size)).mono T6.size)
 refine Zs N4 fun _ N4=>Ze fun _ U3=> ?_
 have qs:=And.intro q2 (And.intro q3 q4)
 refine rg ?_
 have bB:=And.intro (hf.pL 31 32 33 34 35 36 37 38 39 40) (hf.B5 41 42 43 44 45)
 iterate 12 refine Zy ?_
 refine og 9 40 false ?_ fun K Z=> ?_
 . (
 simp (decide:=true) only [Fc.G,reduceIte,hf.size,q2,q3,q4])
 go_simp
 try simp (disch:=omega) only [Fc.wrap_i64]
 apply Z.out;clear Z K
 iterate 3 refine Zy ?_
 refine Fc.nil (nT 1 3 7 9 10 11 25 26 27 46 hf ?_)
 clear hf sS bB qs;intro a7 hf sS
 refine Zx U3 (Fc.k9 sS.2.2.2.2.2.2.2.2.2 ?_)
 have x8m:okArcs i (-1) s.a6=okArcs i (a.byte:Int) (s.a6.drop (k+1)):=by rw [HOA.out,HAT.out];have:=HC.out;rw [decide_eq_true (show 0<=a.to by omega),decide_eq_true (show a.to<(i:Int) by omega),decide_eq_true (show last<(a.byte:Int) by omega)];rfl
 have w1p:=H9 x8m;clear x8m
 refine wp_skip (Zx N4 (rg ?_))
 have bB:=hf.B3 47 48 49
 iterate 2 refine Zy ?_
 refine fp fun K Z=> ?_
 go_simp
 try simp (disch:=omega) only [Fc.wrap_i64]
 apply Z.out;clear Z K
 refine Zy ?_
 refine Fc.nil (vE 1 3 5 9 10 11 25 26 27 hf ?_)
 clear hf sS bB;intro a7 hf sS
 refine Fc.j7 (Zx l6 (Zr [50] hf ?_))
 refine vE 1 3 5 9 10 11 25 26 27 hf ?_
 clear hf sS;intro a7 hf sS
 refine Fc.j6 ?_
 obtain ⟨s1,s3,s5,s9,y4,C7,bQ,Z1,V0⟩:=sS
 exact ⟨_,by have:=HK2.out;omega,k+1,_,rfl,oM,hf,s1,s3,s5,s9,y4,C7,bQ,Z1,by rw [V0];rfl,w1p.out,G7.trans (A8.mono G7.size)⟩))
 . (
 have oR:k=s.a6.length:=by have h9:=of_decide_eq_false H7;omega
 have uF:okArcs i (-1) s.a6=true:=by rw [HOA.out,oR,List.drop_length];rfl
 have w1o:=H9 uF;clear uF oR H7
 have zE:=hb.trans ((F2.trans (G7.mono F2.size)).mono hb.size)
 refine Zo ?_
 refine Fc.j7 (Zx j8 (Zr [51] hf ?_))
 refine C0 1 9 10 11 hf ?_
 clear hf sS;intro a7 hf sS
 refine Fc.j6 ?_
 obtain ⟨s1,s9,y4,C7⟩:=sS
 exact ⟨_,by have:=HK.out;omega,i+1,rfl,oM,hf,s1,s9,y4,by rw [C7];rfl,by rw [HM.out,X9.out,HFO.out,w1o.out];rfl,zE⟩))))
 . (
 have F3:i=ss.length:=qF
 have HIE:=H9 F3;clear F3 hq
 have e0:=cL hb c0
 refine Zo ?_
 refine Zs b7 fun _ b7=>Zr [52,53,54,55] hf ?_
 refine r6 2 hf ?_
 clear hf sS;intro a7 hf s2
 refine Zx b7 (k8 ?_)
 refine Fc.o9 rfl hf s2 ⟨?_,p9.trans (hb.mono p9.size)⟩
 rw [C4,HM.out,HIE.out,List.drop_length]
 rfl))
def wcs (l:List (Nat×Nat)):List Value:=l.flatMap fun x=>[.int .i64 (x.1:Int),.int .i64 (x.2:Int)]
theorem M4 (l:List (Nat×Nat)):(wcs l).length=l.length*2:=by
 induction l with
 | nil=>rfl
 | cons x l ih=>simp only [wcs,List.flatMap_cons,List.length_append,List.length_cons] at ih |-;rw [ih];simp;omega
theorem X3 (a b:List (Nat×Nat)):wcs (a++b)=wcs a++wcs b:=by simp [wcs]
structure OW (w:World) (base:Nat) (v:Value) (l:List (Nat×Nat)):Prop where
 own:w.ownsRow base 226 2 v l.length (wcs l.reverse)
section
variable {w w':World} {base n b c s k:Nat} {v:Value} {l R:List (Nat×Nat)}
theorem OW.one (w:World) (s:Nat):OW (w.alloc (.cells #[.int .i64 (s:Int),.int .i64 0] 226)) w.heap.size (.slice (some ⟨w.heap.size,0,none⟩) 1 1) [(s,0)] :=
 ⟨World.ownsRow_lit w #[.int .i64 (s:Int),.int .i64 0] 1 nR (by unfold maxLen;omega) rfl⟩
theorem OW.later (h:OW w base v l) (hb:Below w.heap.size w w'):OW w' base v l:=⟨l5 h.own hb⟩
theorem OW.form (h:OW w base v l):∃ A c,v= .slice A l.length c/\l.length<=c:=A1 h.own
theorem OW.top {A:Option Addr} (h:OW w base (.slice A n c) ((s,k)::R)):∃ b,A=some ⟨b,0,none⟩/\base<=b/\w.cell? ⟨b,R.length*2,none⟩=some (.int .i64 (s:Int))/\w.cell? ⟨b,R.length*2+1,none⟩=some (.int .i64 (k:Int)):=by
 have h1:=h.own
 rcases h1.2 with ⟨_,h0⟩ | ⟨b,cap,cur,hv,hb,_⟩
 ·simp at h0
 ·injection hv with hv hn hc
  subst hv;subst hn;subst hc
  refine ⟨b,rfl,hb,?_,?_⟩
  ·rw [h1.cellAt _ (by simp only [List.length_cons];omega),List.reverse_cons,X3,List.getElem?_append_right (by rw [M4];simp),M4,List.length_reverse,Nat.sub_self]
   rfl
  ·rw [h1.cellAt _ (by simp only [List.length_cons];omega),List.reverse_cons,X3,List.getElem?_append_right (by rw [M4];simp),M4,List.length_reverse,show R.length*2+1-R.length*2=1 by omega]
   rfl
theorem OW.frozen (h:OW w base (.slice (some ⟨b,0,none⟩) (R.length+1) c) ((s,k)::R)) (i:Nat):w.frozen? ⟨b,i,none⟩=false:=h.own.frozenAt i
theorem OW.bump (h:OW w base (.slice (some ⟨b,0,none⟩) (R.length+1) c) ((s,k)::R)):OW (w.setCell ⟨b,R.length*2+1,none⟩ (.int .i64 ((k:Int)+1))) base (.slice (some ⟨b,0,none⟩) (R.length+1) c) ((s,k+1)::R):=by
 have h1:=(World.ownsRow.stored h.own (R.length*2+1) (.int .i64 ((k:Int)+1))).1
 refine ⟨?_⟩
 have e:wcs ((s,k+1)::R).reverse=(wcs ((s,k)::R).reverse).set (R.length*2+1) (.int .i64 ((k:Int)+1)):=by
  rw [List.reverse_cons,List.reverse_cons,X3,X3,List.set_append_right _ _ (by rw [M4];simp),M4,List.length_reverse,show R.length*2+1-R.length*2=1 by omega]
  rfl
 rw [e]
 exact h1
theorem OW.lat (h:OW w base v l) (o:Obj):(w.alloc o).ownsRow base 226 2 v l.length (wcs l.reverse):=h.own.alloc o
theorem OW.push {w5:World} {v5:Value} {t:Nat} (h:w5.ownsRow base 226 2 v5 (l.length+1) (wcs l.reverse++[.int .i64 (t:Int),.int .i64 0])):OW w5 base v5 ((t,0)::l):=by
 refine ⟨?_⟩
 rw [List.reverse_cons,X3,List.length_cons]
 exact h
theorem OW.cut (h:OW w base (.slice (some ⟨b,0,none⟩) (R.length+1) c) ((s,k)::R)):OW w base (.slice (some ⟨b,0,none⟩) R.length c) R:=by
 have h1:=z6m (n:=R.length) h.own
 refine ⟨?_⟩
 rw [List.reverse_cons,X3,List.take_append_of_le_length (by rw [M4,List.length_reverse];exact nR),List.take_of_length_le (by rw [M4,List.length_reverse];exact nR)] at h1
 exact h1
end
theorem y8k (a b:Nat):((a:Int)==(b:Int))=decide (a=b):=by
 by_cases h:a=b
 ·subst h;simp
 ·rw [decide_eq_false h]
  exact beq_false_of_ne oM
def x7q (n:Nat):List (Nat×Nat)->Prop
 | []=>True
 | (s,_)::R=>s+R.length+1<=n/\x7q n R
theorem y4s {n:Nat} {l:List (Nat×Nat)} (h:x7q n l):l.length<=n:=by
 cases l with
 | nil=>simp
 | cons x R=>obtain ⟨s,k⟩:=x;have:=h.1;simp only [List.length_cons];omega
def phi (n left len:Nat):Nat:=(n-left)*(n+2)+(n+1-len)
theorem x7p (n left len:Nat) (h:len<=n):phi n left (len+1)<phi n left len:=by unfold phi;omega
theorem x0v (n left len:Nat) (h:left<n) (hl:len+1<=n+1):phi n (left+1) len<phi n left (len+1):=by
 unfold phi
 obtain ⟨d,hd⟩:∃ d,n-left=d+1:=⟨n-left-1,oM⟩
 rw [show n-(left+1)=d by omega,hd,Nat.succ_mul]
 omega
theorem x7o:(Tryz.prog.info? 226).map (fun i=>(i.zero,i.size,i.bytes))=some (some (.agg #[.int .i64 0,.int .i64 0]),2,16):=kR
theorem y4r (w:World) (sv:Value) (init:Nat) (ss:List State) (o7:RS w sv ss) (a8:∀ s∈ss,J8 s) (hlen:ss.length<=1000000) (h0:0<ss.length) (hA:lJ ss):G4 w 104 #[.agg #[sv,.int .u64 init]] (.bool (E9 ss)):=by
 refine S8 79 Tryz.func104 fun fr hf s0=> ?_
 obtain ⟨A,cc,rfl,Z3⟩:=o7.form
 have hn1:((ss.length:Int)-1)=((ss.length-1:Nat):Int):=oM
 refine Ze fun _ b7=>Zr [] hf ?_
 refine C1 1 2 hf ?_
 clear hf s0;intro a7 hf sS
 generalize p8:w.alloc (.cells #[.slice A ss.length cc,.int .u64 init] 38)=W0
 obtain ⟨p9,c0,c1, -,T1⟩:=Z8 p8
 clear p8
 have gE:w.heap.size<W0.heap.size:=by rw [T1];exact Nat.lt_succ_self _
 clear T1
 have cQ:=o7.later p9
 clear o7
 refine Zx b7 (wp_scope_straight ?_)
 refine Ze fun _ b7=>Zr [] hf ?_
 refine B1 1 2 3 hf ?_
 clear hf sS;intro a7 hf sS
 refine Zt b7 fun _ b7=> ?_
 have bB:=hf.B6 8 9 10 11 12 13
 iterate 3 refine Zy ?_
 refine fp fun K Z=> ?_
 go_simp
 try simp (disch:=omega) only [Fc.W]
 try rw [hn1]
 apply Z.out;clear Z K
 iterate 3 refine Zy ?_
 refine Fc.nil (C0 1 2 3 4 hf ?_)
 clear hf sS bB;intro a7 hf sS
 generalize Z4:W0.alloc (.cells #[.int .i64 ((ss.length-1:Nat):Int),.int .i64 0] 226)=W1
 have hOW:=OW.one W0 (ss.length-1);rw [Z4] at hOW
 have n7:Below W0.heap.size W0 W1:=by rw [<- Z4];exact (Below.refl _ _).alloc nR _
 clear Z4 hn1
 refine Zs b7 fun _ b7=>wp_label ?_
 refine Zs b7 fun _ b7=>wp_block ?_
 have HO:=H9 a8;clear a8
 refine wp_loop_ghost (fun gk fr wr=>∃ (left:Nat) (V:Value) (Wy:List (Nat×Nat)),gk=phi ss.length left Wy.length/\Fc.Fr 79 fr/\fr.tmps[1]? =some (.pointer (some ⟨w.heap.size,0,none⟩))/\fr.tmps[3]? =some (.int .i64 left)/\fr.tmps[4]? =some V/\OW wr W0.heap.size V Wy/\contW ss Wy left=E9 ss/\x7q ss.length Wy/\left<=ss.length/\Below W0.heap.size W0 wr) (phi ss.length 0 1) ?_ ?_
 . (
 obtain ⟨s1,s2,s3,s4⟩:=sS
 exact ⟨0,_,[(ss.length-1,0)],rfl,hf,s1,s3,s4,hOW,rfl,⟨sO,trivial⟩,Nat.zero_le _,n7⟩)
 . (
 clear hf sS
 rintro gk fr wr ⟨left,V,Wy,hk,hf,s1,s3,s4,how,hct,hwy,hlf,hb⟩
 have HK:=H9 hk;have HC:=H9 hct;clear hk hct
 obtain ⟨AV,cv,rfl,xH⟩:=how.form
 have hwl:=y4s hwy
 refine Ze fun _ j8=>Ze fun _ l6=>Zr [14,15] hf ?_
 refine C0 1 3 4 16 hf ?_
 clear hf s1 s3 s4;intro a7 hf sS
 refine Zx l6 (Fc.l0 sS.2.2.2 (fun hq=> ?_) (fun hq=> ?_))
 . (
 obtain ⟨⟨s,k⟩,R,rfl⟩:=List.exists_cons_of_ne_nil (show Wy≠[] by rintro rfl;simp at hq)
 have HQ:=H9 hq;clear hq
 obtain ⟨b,rfl,qP,d0,d1⟩:=how.top
 have hs1:=hwy.1
 simp only [List.length_cons] at *
 obtain ⟨st,y8⟩:∃ st,ss[s]? =some st:=⟨_,D9 oM⟩
 have hsa:J9 ss s=st.a6:=by simp [J9,y8]
 obtain ⟨b2,x2u,av,gT,z1v⟩:=cQ.at_ y8
 subst gT
 have hrA:=z1v.a6
 have d5:=D1 hb z1v.c0 (C8 z1v.c0)
 obtain ⟨A2,c2,rfl,hc2⟩:=hrA.form
 have iT:=HO.out st (U0 y8)
 have bS:=iT.2.1
 have HSA:=H9 hsa;have X9:=H9 y8;clear hsa y8 z1v iT
 have e0:=D1 hb c0 gE
 have s4v:=hlen
 refine wp_skip (Zx j8 (wp_block (Ze fun _ j8=>rg ?_)))
 have bB:=hf.B5 17 18 19 20 21
 iterate 3 refine Zy ?_
 refine fp fun K Z=> ?_
 go_simp
 try simp (disch:=omega) only [Fc.W]
 try rw [show ((R.length:Int)+1-1)=(R.length:Int) by omega]
 apply Z.out;clear Z K
 iterate 2 refine Zy ?_
 refine Fc.nil (C0 1 3 4 5 hf ?_)
 clear hf sS bB;intro a7 hf sS
 refine Zs j8 fun _ j8=> ?_
 obtain ⟨s1,s3,s4,s5⟩:=sS
 refine Sb.tb 79 fun a8=> ?_
 have lf:=H9 fun (w9:World) (h9:Below _ _ w9)=>ad (cL h9 e0) (ad (cL h9 d0) (cL h9 d5))
 refine Sb.T 0 hf a8 ?_ (hF:=fun _ _ h d=>Sb.O h s1)
 refine Sb.T 1 hf a8 ?_ (hF:=fun _ _ h d=>lf.out _ h.ext)
 refine Sb.mO 2 s5 hf a8 ?_
 refine Sb.T 3 hf a8 ?_
 refine Sb.T 4 hf a8 ?_
 refine Sb.T 5 hf a8 ?_ (hF:=fun _ _ h d=>lf.out _ h.ext)
 refine Sb.T 6 hf a8 ?_
 refine Sb.T 7 hf a8 ?_
 apply Sb.tq 8 _ hf a8
 . (
 intro a7 w1 hh hd hk K Z
 have bG:=Sb.v 7 0 hd hk []
 clear hd
 have L7:=lf.out _ hh.ext;try clear e0 d0 d5;obtain ⟨e0,d0,d5⟩:=L7
 go_simp
 exact Sb.k Z)
 refine Sb.mN 9 8 0 hf a8 [] ?_
 refine Sb.E hf a8 (fun _ _ h g=>ad (Sb.O h s1) (ad (Sb.O h s3) (ad (Sb.O h s4) (ad (Sb.O h s5) (Sb.f 9 0 g))))) ?_
 clear hf a8 s1 s3 s4 s5;intro a7 w1 hf hx sS
 have L7:=lf.out _ hx;try clear e0 d0 d5;clear lf;obtain ⟨e0,d0,d5⟩:=L7
 refine Zx j8 ?_
 have nZ:=how.later hx
 have dE:=hb.trans (hx.mono hb.size)
 clear e0 d0 d5 d1
 refine Ze fun _ j8=>wp_block (wp_loop_ghost (fun nJ fr mV=>∃ (k2:Nat),nJ=st.a6.length-k2/\Fc.Fr 79 fr/\fr.tmps[1]? =some (.pointer (some ⟨w.heap.size,0,none⟩))/\fr.tmps[3]? =some (.int .i64 left)/\fr.tmps[4]? =some (.slice (some ⟨b,0,none⟩) (R.length+1) cv)/\fr.tmps[5]? =some (.pointer (some ⟨b,R.length*2,none⟩))/\fr.tmps[6]? =some (.slice A2 st.a6.length c2)/\OW mV W0.heap.size (.slice (some ⟨b,0,none⟩) (R.length+1) cv) ((s,k2)::R)/\contW ss ((s,k2)::R) left=E9 ss/\Below W0.heap.size W0 mV) (st.a6.length-k) ?_ ?_)
 . (
 obtain ⟨s1,s3,s4,s5,s6⟩:=sS
 exact ⟨k,rfl,hf,s1,s3,s4,s5,s6,nZ,HC.out,dE⟩)
 . (
 clear hf sS
 rintro nJ fr mV ⟨k2,M5,hf,s1,s3,s4,s5,s6,Q3,u9x,r9⟩
 have HK2:=H9 M5;have HC2:=H9 u9x;clear M5 u9x
 obtain ⟨b9,he9,_,f0,f1⟩:=Q3.top
 injection he9 with he9
 injection he9 with he9
 subst he9
 refine Ze fun _ l6=>Ze fun _ N4=>Zr [31,32,33,34,35,36] hf ?_
 refine J3 1 3 4 5 6 37 hf ?_
 clear hf s1 s3 s4 s5 s6;intro a7 hf sS
 refine Zx N4 (Fc.l0 sS.2.2.2.2.2 (fun H7=> ?_) (fun H7=> ?_))
 . (
 have gG:k2<st.a6.length:=by have h9:=of_decide_eq_true H7;omega
 have HQ2:=H9 H7;clear H7
 obtain ⟨a,qS⟩:∃ a,st.a6[k2]? =some a:=⟨_,D9 gG⟩
 obtain ⟨b3,y7d,rfl,aF,_,_,y2⟩:=hrA.at' qS
 have z2:=D1 r9 y2 (C8 y2)
 have w0x:(J9 ss s)[k2]? =some a:=by rw [HSA.out];exact qS
 have yR:=hA s a (U0 w0x)
 obtain ⟨t,ht⟩:∃ t:Nat,a.to=(t:Int):=⟨a.to.toNat,oM⟩
 have htt:a.to.toNat=t:=oM
 have hts:t<s:=oM
 have HT:=H9 ht;have HTT:=H9 htt;have HKA:=H9 w0x
 rw [ht] at z2
 clear qS w0x ht htt yR y2
 have fz:=Q3.frozen (R.length*2+1)
 have w0w:=Q3.bump
 refine wp_skip (Zx l6 (wp_block (Ze fun _ l6=>Zr [38,39,40,41,42,43,44,45] hf ?_)))
 refine J3 1 3 4 5 6 7 hf ?_
 clear hf sS;intro a7 hf sS
 refine Zs l6 fun _ l6=>Zr [46,47,48,49,50,51,52] hf ?_
 refine J3 1 3 4 5 6 7 hf ?_
 clear hf sS;intro a7 hf sS
 refine Zs l6 fun _ l6=>Zr [53,54] hf ?_
 refine cP 1 3 4 5 6 7 55 hf ?_
 clear hf sS;intro a7 hf sS
 refine Zx l6 ?_
 have D4:Below W0.heap.size W0 (mV.setCell ⟨b,R.length*2+1,none⟩ (.int .i64 ((k2:Int)+1))):=r9.setCell (p:=⟨b,R.length*2+1,none⟩) qP _
 obtain ⟨W3,kB⟩:∃ W3,mV.setCell ⟨b,R.length*2+1,none⟩ (.int .i64 ((k2:Int)+1))=W3:=⟨_,rfl⟩
 rw [kB] at D4 w0w
 try rw [kB]
 clear kB f0 f1 z2
 refine Fc.l0 sS.2.2.2.2.2.2 (fun T3=> ?_) (fun T3=> ?_)
 . (
 have nL:(left:Int)<=a.to:=by rw [HT.out];have h9:=of_decide_eq_true T3;omega
 have hcp:=y8d (rest:=R) hA HKA.out nL
 rw [HTT.out] at hcp
 have HCP:=H9 hcp;clear hcp nL
 have HQ3:=H9 T3;clear T3
 refine Ze fun _ l6=>rg ?_
 have bB:=hf.B5 56 57 58 59 60
 iterate 4 refine Zy ?_
 obtain ⟨s1,s3,s4,s5,s6,s7,s55⟩:=sS
 clear bB
 refine Fc.lQ (n:=79) (by simp only [Fc.G,hf.size]) hf.defers (fun a7 u3 hT=> ?_)
 have G9:=Fc.h5 hT 1 3 4 56 59
 simp (decide:=true) only [Fc.G,hf.size,reduceIte,s1,s3,s4] at G9
 replace hf:=u3;clear hT u3 s1 s3 s4 s5 s6 s7 s55
 obtain ⟨s1,s3,s4,s56,s59⟩:=G9
 have bB:=hf.b 60
 refine ⟨?_⟩
 refine wpList_plain rfl fun K5 U3=> ?_
 refine J7 _ _ 227 rfl 226 _ 2 16 Tryz.underlying227 x7o rfl dC dC W0.heap.size (.slice (some ⟨b,0,none⟩) (R.length+1) cv) (R.length+1) _ (Fc.k7 s56) (OW.lat w0w _) W3.heap.size [.int .i64 (t:Int),.int .i64 0] (Fc.k7 s59) rfl (E7 W3 _ _) (by intro u hu;simp at hu;rcases hu with rfl | rfl<;>rfl) oM (by have:=D4.size;simp;omega) (fun v5 w5 U5 aV P0=>U3 _ _ ?_)
 refine Fc.L.out ?_
 refine Zy ?_
 refine Fc.nil (B1 1 3 4 hf ?_)
 clear hf s1 s3 s4 s56 s59 bB;intro a7 hf sS
 have Y5:=OW.push U5
 have F2:Below W0.heap.size W0 w5:=(D4.alloc D4.size _).grown aV (by have:=D4.size;simp;omega) (fun kk S3=>by injection S3 with S3;subst S3;exact qP)
 refine Zx l6 (Zo ?_)
 refine Fc.j6 ?_
 obtain ⟨s1,s3,s4⟩:=sS
 exact ⟨_,by have:=HK.out;rw [this];exact x7p _ _ _ oM,left,v5,(t,0)::(s,k2+1)::R,rfl,hf,s1,s3,s4,Y5,by rw [<- HCP.out];exact HC2.out,⟨by simp only [List.length_cons];omega,hwy⟩,hlf,F2⟩)
 . (
 have nL:¬ (left:Int)<=a.to:=by rw [HT.out];have h9:=of_decide_eq_false T3;omega
 have hcn:=y8c (rest:=R) HKA.out nL
 have HCN:=H9 hcn;clear hcn nL
 have HQ3:=H9 T3;clear T3
 refine wp_skip (Fc.j7 (Fc.j6 ?_))
 obtain ⟨s1,s3,s4,s5,s6,s7,s55⟩:=sS
 exact ⟨_,by have:=HK2.out;omega,k2+1,rfl,hf,s1,s3,s4,s5,s6,w0w,by rw [<- HCN.out];exact HC2.out,D4⟩))
 . (
 have hle:st.a6.length<=k2:=by have h9:=of_decide_eq_false H7;omega
 have hce:=y3r (left:=left) (rest:=R) (show (J9 ss s).length<=k2 by rw [HSA.out];exact hle)
 have HCE:=H9 hce;clear hce H7
 refine Zo ?_
 refine Zs j8 fun _ j8=>Ze fun _ l6=>Zr [61,62,63,64,65] hf ?_
 refine C0 1 3 4 66 hf ?_
 clear hf sS;intro a7 hf sS
 refine Zx l6 (Fc.l0 sS.2.2.2 (fun T3=> ?_) (fun T3=> ?_))
 . (
 have E6:s≠left:=by simp at T3;omega
 have q9:E9 ss=false:=by rw [<- HC2.out,HCE.out,if_neg E6]
 have HFN:=H9 q9;clear q9 T3
 refine Ze fun _ l6=>Zr [] hf ?_
 refine r6 2 hf ?_
 clear hf sS;intro a7 hf s2
 refine Zx l6 (k8 ?_)
 exact Fc.o9 rfl hf s2 ⟨by rw [HFN.out],p9.trans (r9.mono (Nat.le_of_lt gE))⟩)
 . (
 have heq:s=left:=by simp at T3;omega
 have hcp:contW ss R (left+1)=E9 ss:=by rw [<- HC2.out,HCE.out,if_pos heq]
 have HCP:=H9 hcp;clear hcp T3
 have HEQ:=H9 heq;clear heq
 clear f0 f1
 refine wp_skip (Zs j8 fun _ j8=>Zr [67,68] hf ?_)
 refine B1 1 3 4 hf ?_
 clear hf sS;intro a7 hf sS
 refine Zx j8 (rg ?_)
 have bB:=hf.B5 69 70 71 72 73
 iterate 3 refine Zy ?_
 refine fp fun K Z=> ?_
 go_simp
 try simp (disch:=omega) only [Fc.W]
 try rw [show ((R.length:Int)+1-1)=(R.length:Int) by omega]
 apply Z.out;clear Z K
 refine fp fun K Z=> ?_
 go_simp
 try rw [if_pos (by omega)]
 apply Z.out;clear Z K
 refine Zy ?_
 refine Fc.nil (B1 1 3 4 hf ?_)
 clear hf sS bB;intro a7 hf sS
 refine Fc.j7 (Fc.j6 ?_)
 have hlv:left<ss.length:=by have:=HEQ.out;omega
 obtain ⟨s1,s3,s4⟩:=sS
 exact ⟨_,by have:=HK.out;rw [this];exact x0v _ _ _ hlv oM,left+1,_,R,rfl,hf,s1,s3,s4,Q3.cut,HCP.out,hwy.2,oM,r9⟩))))
 . (
 have hwe:Wy=[]:=by have h9:=of_decide_eq_false hq;exact List.eq_nil_of_length_eq_zero oM
 subst hwe
 have e0:=D1 hb c0 gE
 have q9:E9 ss=decide (left=ss.length):=HC.out.symm
 have HFN:=H9 q9;clear q9
 refine Zo ?_
 refine Zs b7 fun _ b7=>Zr [74,75,76,77,78] hf ?_
 refine r6 2 hf ?_
 clear hf sS;intro a7 hf s2
 refine Zx b7 (k8 ?_)
 exact Fc.o9 rfl hf s2 ⟨by rw [HFN.out, <- y8k],p9.trans (hb.mono (Nat.le_of_lt gE))⟩))
end Dw
end Go.Proofs.YtcddnmhmcieebaaGreatDoor
