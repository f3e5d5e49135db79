/- vary: Get. -/
import Derived.Test.YtcddnmhmcieebaaGreatDoorY11
import Derived.Laws.BitsAllLaws
import Derived.Test.YtcddnmhmcieebaaGreatDoorTools
import Derived.Test.YtcddnmhmcieebaaGreatDoorY12
namespace Go.Proofs.YtcddnmhmcieebaaGreatDoor
set_option maxHeartbeats 4000000
set_option maxRecDepth 100000
open Go.RowKit
set_option linter.unusedSimpArgs false
set_option linter.unusedVariables false
set_option linter.unnecessarySimpa false
namespace Dw
theorem y7a {s:List Nat} {i:Nat} (h:s.length<=i):getN s i=(0,i,3):=by
 unfold getN
 rw [List.getElem?_eq_none h]
theorem z3p {s:List Nat} {i c:Nat} (h:s[i]? =some c) (h8:c<248):getN s i=(c,i+1,0):=by
 unfold getN
 rw [h]
 simp only
 rw [if_pos h8]
theorem z3o {s:List Nat} {i c:Nat} (h:s[i]? =some c) (h8:¬ c<248) (h7:s.length-i<=c-247):getN s i=(0,i,3):=by
 unfold getN
 rw [h]
 simp only
 rw [if_neg h8,if_pos h7]
theorem y6z {s:List Nat} {i c:Nat} (h:s[i]? =some c) (h8:¬ c<248) (h7:¬ s.length-i<=c-247) (h6:¬ (r8 (ofLe ((s.drop (i+1)).take (c-247)))).length=1+(c-247)):getN s i=(0,i,5):=by
 unfold getN
 rw [h]
 simp only
 rw [if_neg h8,if_neg h7,if_neg h6]
theorem y1w {s:List Nat} {i c:Nat} (h:s[i]? =some c) (h8:¬ c<248) (h7:¬ s.length-i<=c-247) (h6:(r8 (ofLe ((s.drop (i+1)).take (c-247)))).length=1+(c-247)):getN s i=(ofLe ((s.drop (i+1)).take (c-247)),i+1+(c-247),0):=by
 unfold getN
 rw [h]
 simp only
 rw [if_neg h8,if_neg h7,if_pos h6]
theorem vU (s:ByteArray) (i k:Nat):ofLe (((wl s).drop i).take k)<256^k:=by
 refine Nat.lt_of_lt_of_le (xZ _ (fun x hx=>dR s x (List.mem_of_mem_drop (List.mem_of_mem_take hx)))) (Nat.pow_le_pow_right oM ?_)
 simp
 omega
theorem y9s (s:ByteArray) (i:Nat) {k:Nat} (h:k<=8):ofLe (((wl s).drop i).take k)<y5 :=
 Nat.lt_of_lt_of_le (vU s i k) (Nat.pow_le_pow_right oM h)
theorem x4d {d k:Nat} (hd:d<256) (hk:k<=7):IntKind.u64.wrap ((d:Int)*2^(8*(k:Int)).toNat)=((256^k*d:Nat):Int):=by
 have h1:256^k<=256^7:=Nat.pow_le_pow_right oM hk
 have h2:256^k*d<=256^7*255:=Nat.mul_le_mul h1 oM
 have e:(d:Int)*2^(8*(k:Int)).toNat=((256^k*d:Nat):Int):=by
  rw [show (8*(k:Int)).toNat=8*k by omega,show (2:Int)^(8*k)=((256^k:Nat):Int) by rw [qG];norm_cast,Nat.mul_comm]
  exact (Int.natCast_mul _ _).symm
 rw [e]
 exact Fc.wrap_u64 oM oM
theorem w5a {d k:Nat} (hd:d<256) (hk:k<=7):256^k*d<18446744073709551616:=by
 have h1:256^k<=256^7:=Nat.pow_le_pow_right oM hk
 have h2:256^k*d<=256^7*255:=Nat.mul_le_mul h1 oM
 omega
theorem w4z {n d k:Nat} (h:n<256^k):n ||| (256^k*d)=n+256^k*d:=by
 rw [qG] at h |-
 rw [Nat.or_comm, <- Nat.two_pow_add_eq_or_of_lt h,Nat.add_comm]
theorem y6y {l:List Nat} {i k d:Nat} (h:l[i+1+k]? =some d):ofLe ((l.drop (i+1)).take k)+256^k*d=ofLe ((l.drop (i+1)).take (k+1)):=by
 have h1:(l.drop (i+1))[k]? =some d:=by rw [List.getElem?_drop];exact h
 have hl:=(E2 h1).1
 rw [List.take_add_one,h1,Option.toList_some,vP,List.length_take,Nat.min_eq_left oM]
theorem v5t (w:World) (s:ByteArray) (i:Nat) (hi:i<=s.size) (F7:s.size<=1000000000):G4 w 98 #[.string s,.int .i64 i] (.tuple #[.int .u64 (getN (wl s) i).1,.int .i64 (getN (wl s) i).2.1,.int .i64 (getN (wl s) i).2.2]):=by
 refine aT 67 Tryz.func98 fun fr hf s0 s1=> ?_
 have v6p:∀ (i:Nat) (h:i<s.size),s[i].toNat=at_ s i:=fun i h=>(iE h).symm
 have q0:decide ((i:Int)<0)=false:=decide_eq_false oM
 refine Ze fun _ b7=>Zr [] hf ?_
 refine B1 0 1 4 hf ?_
 clear hf s0 s1;intro a7 hf sS
 refine Zx b7 ?_
 rcases Nat.lt_or_ge i s.size with n8 | nL
 . (
 have q1:decide (s.size<=i)=false:=decide_eq_false oM
 refine Ze fun _ b7=>Ze fun _ j8=>rg ?_
 have bB:=hf.B7 10 11 12 13 14 15 16
 iterate 3 refine Zy ?_
 refine Zg ?_ (hv:=by simp (decide:=true) only [Fc.G,reduceIte,hf.size,q0,q1,Fc.N])
 refine Zg ?_ (hv:=by simp (decide:=true) only [Fc.G,reduceIte,hf.size,q0,q1,Fc.N])
 refine Zg ?_ (hv:=by simp (decide:=true) only [Fc.G,reduceIte,hf.size,q0,q1,Fc.N])
 refine Zg ?_ (hv:=by simp (decide:=true) only [Fc.G,reduceIte,hf.size,q0,q1,Fc.N])
 refine Zy ?_
 refine Fc.nil (C0 0 1 4 17 hf ?_)
 clear hf sS bB;intro a7 hf sS
 refine Zx j8 (Fc.k9 sS.2.2.2 ?_)
 clear q0 q1
 obtain ⟨c,hc⟩:∃ c,at_ s i=c:=⟨_,rfl⟩
 have hc8:c<256:=by rw [<- hc];exact z0j s i
 have hwc:(wl s)[i]? =some c:=by rw [<- hc];exact dQ n8
 have HC:=H9 hc;have HW:=H9 hwc;clear hc hwc
 refine wp_skip (Zt b7 fun _ b7=> ?_)
 have bB:=hf.B3 19 20 21
 iterate 2 refine Zy ?_
 refine fp fun K Z=> ?_
 go_simp
 try rw [dif_pos (by omega)]
 skip
 apply Z.out;clear Z K
 refine Zy ?_
 refine Fc.nil (C0 0 1 4 7 hf ?_)
 clear hf sS bB;intro a7 hf sS
 refine Zx b7 ?_
 obtain ⟨s0,s1,s4,s7⟩:=sS
 try rw [HC.out] at s7
 refine Ze fun _ b7=>Ze fun _ j8=>Zr [22] hf ?_
 refine D0 0 1 4 7 23 hf ?_
 clear hf s0 s1 s4 s7;intro a7 hf sS
 refine Zx j8 (Fc.l0 sS.2.2.2.2 (fun hq=> ?_) (fun hq=> ?_))
 . (
 have h8:c<248:=qT
 clear hq
 refine Ze fun _ j8=>Zr [24,25,26,27] hf ?_
 refine B1 4 5 6 hf ?_
 clear hf sS;intro a7 hf sS
 refine Zx j8 (k8 ?_)
 obtain ⟨s4,s5,s6⟩:=sS
 refine Fc.tU rfl hf s4 s5 s6 ⟨?_,Below.refl _ _⟩
 rw [z3p HW.out h8]
 rfl)
 . (
 have h8:¬ c<248:=qF
 clear hq
 obtain ⟨m,hm⟩:∃ m,c-247=m:=⟨_,rfl⟩
 have hm8:1<=m/\m<=8:=oM
 have HM:=H9 hm;clear hm
 refine wp_skip (Zt b7 fun _ b7=> ?_)
 have bB:=hf.B4 28 29 30 31
 iterate 2 refine Zy ?_
 refine fp fun K Z=> ?_
 go_simp
 try simp (disch:=omega) only [Fc.W]
 try simp (disch:=omega) only [Fc.W]
 apply Z.out;clear Z K
 refine fp fun K Z=> ?_
 go_simp
 try simp (disch:=omega) only [Fc.W]
 try simp (disch:=omega) only [Fc.W]
 rw [show (c:Int)-248+1=((c-247:Nat):Int) by omega]
 rw [HM.out]
 apply Z.out;clear Z K
 refine Zy ?_
 refine Fc.nil (C0 0 1 4 8 hf ?_)
 clear hf sS bB;intro a7 hf sS
 refine Zs b7 fun _ b7=>Ze fun _ j8=>Zr [32,33,34,35,36] hf ?_
 refine D0 0 1 4 8 37 hf ?_
 clear hf sS;intro a7 hf sS
 refine Zx j8 (Fc.l0 sS.2.2.2.2 (fun hq=> ?_) (fun hq=> ?_))
 . (
 have h7:s.size-i<=m:=qT
 clear hq
 refine Ze fun _ j8=>Zr [38] hf ?_
 refine B1 4 5 6 hf ?_
 clear hf sS;intro a7 hf sS
 refine Zx j8 (k8 ?_)
 obtain ⟨s4,s5,s6⟩:=sS
 refine Fc.tU rfl hf s4 s5 s6 ⟨?_,Below.refl _ _⟩
 rw [z3o HW.out h8 (by rw [l9,HM.out];exact h7)]
 rfl)
 . (
 have h7:¬ s.size-i<=m:=qF
 clear hq
 refine wp_skip (Zs b7 fun _ b7=>Ze fun _ j8=>Zr [] hf ?_)
 refine J3 0 1 4 8 39 40 hf ?_
 clear hf sS;intro a7 hf sS
 refine Zx j8 (wp_block (wp_loop_ghost (fun gk fr wr=>∃ (k n:Nat),gk=m-k/\k<=m/\Fc.Fr 67 fr/\fr.tmps[0]? =some (.string s)/\fr.tmps[1]? =some (.int .i64 i)/\fr.tmps[8]? =some (.int .i64 m)/\fr.tmps[39]? =some (.int .i64 m)/\fr.tmps[40]? =some (.int .i64 k)/\fr.tmps[4]? =some (.int .u64 n)/\n=ofLe (((wl s).drop (i+1)).take k)/\wr=w) (m) ?_ ?_))
 . (
 obtain ⟨s0,s1,s4,s8,bM,kM⟩:=sS
 exact ⟨0,0,rfl,Nat.zero_le _,hf,s0,s1,s8,bM,kM,s4,rfl,rfl⟩)
 . (
 clear hf sS
 rintro gk fr wr ⟨k,n,hk,hkm,hf,s0,s1,s8,bM,kM,s4,hn,hwr⟩
 subst wr
 have HK:=H9 hk;have HN:=H9 hn;clear hk hn
 refine Ze fun _ j8=>Zr [] hf ?_
 refine cP 0 1 4 8 39 40 41 hf ?_
 clear hf s0 s1 s4 s8 bM kM;intro a7 hf sS
 refine Zs j8 fun _ j8=>Fc.l0 sS.2.2.2.2.2.2 (fun hq=> ?_) (fun hq=> ?_)
 . (
 have s9z:k<m:=qT
 clear hq
 obtain ⟨d,hd⟩:∃ d,at_ s (i+1+k)=d:=⟨_,rfl⟩
 have hd8:d<256:=by rw [<- hd];exact z0j s _
 have hwd:(wl s)[i+1+k]? =some d:=by rw [<- hd];exact dQ oM
 have HD:=H9 hd;clear hd
 have v5s:n<256^k:=by rw [HN.out];exact vU s _ _
 have y8:=y6y hwd
 rw [<- HN.out] at y8
 obtain ⟨n2,tX⟩:∃ n2,n+256^k*d=n2:=⟨_,rfl⟩
 rw [tX] at y8
 obtain ⟨p,hp⟩:∃ p,256^k*d=p:=⟨_,rfl⟩
 rw [hp] at tX
 have hor:=w4z (d:=d) v5s
 rw [hp] at hor
 have qL:n<18446744073709551616:=by rw [HN.out];exact y9s s _ (show k<=8 by omega)
 have u3o:p<18446744073709551616:=by rw [<- hp];exact w5a hd8 (show k<=7 by omega)
 have HP:=H9 hp;have HOR:=H9 hor;have HN2:=H9 tX;have X9:=H9 y8;clear tX y8 hwd hp hor
 refine wp_skip (Zs j8 fun _ j8=>wp_block (Ze fun _ l6=>Zr [42] hf ?_))
 refine cP 0 1 4 8 9 39 40 hf ?_
 clear hf sS;intro a7 hf sS
 refine Zx l6 (rg ?_)
 have bB:=And.intro (hf.pL 43 44 45 46 47 48 49 50 51 52) (hf.B2 53 54)
 iterate 6 refine Zy ?_
 refine fp fun K Z=> ?_
 go_simp
 rw [if_pos (by omega),Oper.upon_value,show ((i:Int)+1+(k:Int)).toNat=i+1+k by omega,HD.out]
 apply Z.out;clear Z K
 iterate 3 refine Zy ?_
 refine fp fun K Z=> ?_
 go_simp
 rw [x4d hd8 (show k<=7 by omega),HP.out]
 apply Z.out;clear Z K
 refine fp fun K Z=> ?_
 go_simp
 rw [u64_or_nat n p qL u3o,HOR.out,HN2.out]
 apply Z.out;clear Z K
 refine Zy ?_
 refine Fc.nil (J3 0 1 4 8 39 40 hf ?_)
 clear hf sS bB;intro a7 hf sS
 refine Fc.j7 (Zx j8 (Zr [55] hf ?_))
 refine J3 0 1 4 8 39 40 hf ?_
 clear hf sS;intro a7 hf sS
 refine Fc.j6 ?_
 obtain ⟨s0,s1,s4,s8,bM,kM⟩:=sS
 exact ⟨_,by have:=HK.out;omega,k+1,n2,rfl,oM,hf,s0,s1,s8,bM,by rw [kM];rfl,s4,X9.out,rfl⟩)
 . (
 have oR:k=m:=qF
 subst oR
 clear hq
 have qL:n<y5:=by rw [HN.out];exact y9s s _ hm8.2
 refine Zo ?_
 refine Zs b7 fun _ b7=>Ze fun _ j8=>rg ?_
 have bB:=hf.B4 56 57 58 59
 refine Zy ?_
 refine Zc (w5o w n qL) ?_;rintro e w1 ⟨rfl,T2⟩
 refine Zv ?_
 refine Zy ?_
 refine fp fun K Z=> ?_
 go_simp
 try simp (disch:=omega) only [Fc.W]
 rw [show (1:Int)+(k:Int)=((1+k:Nat):Int) by omega]
 apply Z.out;clear Z K
 refine Zy ?_
 refine Fc.nil (C0 1 4 8 60 hf ?_)
 clear hf sS bB;intro a7 hf sS
 refine Zx j8 (Fc.l0 sS.2.2.2 (fun hq=> ?_) (fun hq=> ?_))
 . (
 have h6:¬ (r8 n).length=1+k:=by have h9:=hq;simp at h9;omega
 clear hq
 refine Ze fun _ j8=>Zr [61] hf ?_
 refine B1 4 5 6 hf ?_
 clear hf sS;intro a7 hf sS
 refine Zx j8 (k8 ?_)
 obtain ⟨s4,s5,s6⟩:=sS
 refine Fc.tU rfl hf s4 s5 s6 ⟨?_,T2⟩
 rw [y6z HW.out h8 (by rw [l9,HM.out];exact h7) (by rw [HM.out, <- HN.out];exact h6)]
 rfl)
 . (
 have h6 :  (r8 n).length=1+k:=by have h9:=hq;simp at h9;omega
 clear hq
 refine wp_skip (Zs b7 fun _ b7=>Zr [62,63,64,65,66] hf ?_)
 refine B1 4 5 6 hf ?_
 clear hf sS;intro a7 hf sS
 refine Zx b7 (k8 ?_)
 obtain ⟨s4,s5,s6⟩:=sS
 refine Fc.tU rfl hf s4 s5 s6 ⟨?_,T2⟩
 rw [y1w HW.out h8 (by rw [l9,HM.out];exact h7) (by rw [HM.out, <- HN.out];exact h6),HM.out, <- HN.out]
 rfl))))))
 . (
 have q1:decide (s.size<=i)=true:=decide_eq_true nL
 refine Ze fun _ b7=>Ze fun _ j8=>rg ?_
 have bB:=hf.B7 10 11 12 13 14 15 16
 iterate 3 refine Zy ?_
 refine Zg ?_ (hv:=by simp (decide:=true) only [Fc.G,reduceIte,hf.size,q0,q1,Fc.N])
 refine Zg ?_ (hv:=by simp (decide:=true) only [Fc.G,reduceIte,hf.size,q0,q1,Fc.N])
 refine Zg ?_ (hv:=by simp (decide:=true) only [Fc.G,reduceIte,hf.size,q0,q1,Fc.N])
 refine Zg ?_ (hv:=by simp (decide:=true) only [Fc.G,reduceIte,hf.size,q0,q1,Fc.N])
 refine Zy ?_
 refine Fc.nil (C0 0 1 4 17 hf ?_)
 clear hf sS bB;intro a7 hf sS
 refine Zx j8 (Fc.l8 sS.2.2.2 ?_)
 refine Ze fun _ j8=>Zr [18] hf ?_
 refine B1 4 5 6 hf ?_
 clear hf sS;intro a7 hf sS
 refine Zx j8 (k8 ?_)
 obtain ⟨s4,s5,s6⟩:=sS
 refine Fc.tU rfl hf s4 s5 s6 ⟨?_,Below.refl _ _⟩
 rw [y7a (by rw [l9];exact nL)]
 rfl)
def RD (w:World) (g:Nat) (s:ByteArray) (i:Nat):Prop:=w.heap[g]? =some (.cells #[.string s,.int .i64 i] 84 (0,0))
theorem RD.c0 {w:World} {g:Nat} {s:ByteArray} {i:Nat} (h:RD w g s i):w.cell? ⟨g,0,none⟩=some (.string s):=by rw [cell_of_row _ _ 0 _ _ (0,0) h];rfl
theorem RD.c1 {w:World} {g:Nat} {s:ByteArray} {i:Nat} (h:RD w g s i):w.cell? ⟨g,1,none⟩=some (.int .i64 i):=by rw [cell_of_row _ _ 1 _ _ (0,0) h];rfl
theorem RD.later {w w1:World} {g:Nat} {s:ByteArray} {i:Nat} (h:RD w g s i) (hb:Below w.heap.size w w1):RD w1 g s i:=(hb.block g (j4 h)).trans h
def N1 (s:ByteArray) (i:Nat):Nat×Nat×Nat:=if i=s.size then (0,i,3) else (at_ s i,i+1,0)
theorem y6x {s:ByteArray} {i:Nat} (h:i=s.size):N1 s i=(0,i,3):=by unfold N1;rw [if_pos h]
theorem y1v {s:ByteArray} {i:Nat} (h:i<s.size):N1 s i=(at_ s i,i+1,0):=by unfold N1;rw [if_neg (by omega)]
def dD (lo hi n:Nat):Nat:=if n<lo\/hi<n then 17 else 0
theorem z8e (n lo hi:Nat):n<lo\/(lo<=n/\hi<n)\/(lo<=n/\n<=hi):=oM
def bN (k:Nat):Nat:=[67,83,1].getD k 0
theorem y1u {k:Nat} (h:k<3):at_ ⟨#[67,83,1]⟩ k=bN k:=by
 rcases k with _ | _ | _ | k<;>first | rfl | omega
def vV (k x:Nat):Nat:=if x=bN k then 0 else 6
theorem w4y (w:World) (c g:Nat) (s:ByteArray) (i:Nat) (hc:w.cell? ⟨c,0,none⟩=some (.pointer (some ⟨g,0,none⟩))) (hr:RD w g s i) (hi:i<=s.size) (F7:s.size<=1000000000):G4 w 95 #[.pointer (some ⟨c,0,none⟩)] (.tuple #[.int .u8 (N1 s i).1,.int .i64 (N1 s i).2.1,.int .i64 (N1 s i).2.2]):=by
 refine S8 32 Tryz.func95 fun fr hf s0=> ?_
 have g0:=hr.c0;have g1:=hr.c1
 clear hr
 refine Ze fun _ b7=>Zr [] hf ?_
 refine r6 0 hf ?_
 clear hf s0;intro a7 hf s0
 refine Zs b7 fun _ b7=>Ze fun _ j8=>Sb.tb 32 fun a8=> ?_
 have lf:=H9 fun (w9:World) (h9:Below _ _ w9)=>ad (cL h9 hc) (ad (cL h9 g0) (cL h9 g1))
 refine Sb.T 0 hf a8 ?_ (hF:=fun _ _ h d=>ad (Sb.O h s0) (lf.out _ h.ext))
 refine Sb.T 1 hf a8 ?_
 refine Sb.T 2 hf a8 ?_
 refine Sb.T 3 hf a8 ?_ (hF:=fun _ _ h d=>lf.out _ h.ext)
 refine Sb.T 4 hf a8 ?_ (hF:=fun _ _ h d=>ad (Sb.O h s0) (lf.out _ h.ext))
 refine Sb.T 5 hf a8 ?_
 refine Sb.T 6 hf a8 ?_
 refine Sb.T 7 hf a8 ?_ (hF:=fun _ _ h d=>lf.out _ h.ext)
 refine Sb.T 8 hf a8 ?_ (hF:=fun _ _ h d=>lf.out _ h.ext)
 refine Sb.T 9 hf a8 ?_
 refine Sb.E hf a8 (fun _ _ h g=>ad (Sb.O h s0) (Sb.f 9 0 g)) ?_
 clear hf a8 s0;intro a7 w1 hf hx sS
 have L7:=lf.out _ hx;try clear hc g0 g1;clear lf;obtain ⟨hc,g0,g1⟩:=L7
 refine Zx j8 (Fc.l0 sS.2 (fun hq=> ?_) (fun hq=> ?_))
 . (
 have F3:i=s.size:=by have:=beq_iff_eq.1 hq;omega
 have HIE:=H9 F3;clear F3 hq
 have dE:=hx;clear hx
 refine Ze fun _ j8=> ?_
 obtain ⟨s0,J0⟩:=sS
 refine Sb.tb 32 fun a8=> ?_
 refine Sb.T 0 hf a8 ?_ (hF:=fun _ _ h d=>ad (Sb.O h s0) (ad (cL h.ext hc) (ad (cL h.ext g0) (cL h.ext g1))))
 refine Sb.T 1 hf a8 ?_
 refine Sb.T 2 hf a8 ?_
 refine Sb.T 3 hf a8 ?_ (hF:=fun _ _ h d=>ad (cL h.ext hc) (ad (cL h.ext g0) (cL h.ext g1)))
 refine Sb.T 4 hf a8 ?_
 refine Sb.mN 5 3 1 hf a8 [] ?_
 refine Sb.T 6 hf a8 ?_
 refine Sb.E hf a8 (fun _ _ h g=>ad (Sb.f 4 2 g) (ad (Sb.f 5 1 g) (Sb.f 6 0 g))) ?_
 clear hf a8 s0 J0;intro a7 w1 hf hx sS
 replace hc:=cL hx hc
 replace g0:=cL hx g0
 replace g1:=cL hx g1
 refine Zx j8 (k8 ?_)
 obtain ⟨s1,s2,s3⟩:=sS
 refine Fc.tU rfl hf s1 s2 s3 ⟨?_,dE.trans (hx.mono dE.size)⟩
 rw [y6x HIE.out]
 rfl)
 . (
 have n8:i<s.size:=by have:=beq_eq_false_iff_ne.1 hq;omega
 clear hq
 have dE:=hx;clear hx
 refine wp_skip (Zs b7 fun _ b7=> ?_)
 obtain ⟨s0,J0⟩:=sS
 refine Sb.tb 32 fun a8=> ?_
 have lf:=H9 fun (w9:World) (h9:Below _ _ w9)=>ad (cL h9 hc) (ad (cL h9 g0) (cL h9 g1))
 refine Sb.T 0 hf a8 ?_ (hF:=fun _ _ h d=>ad (Sb.O h s0) (lf.out _ h.ext))
 refine Sb.T 1 hf a8 ?_
 refine Sb.T 2 hf a8 ?_
 refine Sb.T 3 hf a8 ?_ (hF:=fun _ _ h d=>lf.out _ h.ext)
 refine Sb.T 4 hf a8 ?_ (hF:=fun _ _ h d=>ad (Sb.O h s0) (lf.out _ h.ext))
 refine Sb.T 5 hf a8 ?_
 refine Sb.T 6 hf a8 ?_
 refine Sb.T 7 hf a8 ?_ (hF:=fun _ _ h d=>lf.out _ h.ext)
 apply Sb.tq 8 _ hf a8
 . (
 intro a7 w1 hh hd hk K Z
 have N6:=Sb.v 3 4 hd hk []
 have bQ:=Sb.v 7 0 hd hk []
 clear hd
 have L7:=lf.out _ hh.ext;try clear hc g0 g1;obtain ⟨hc,g0,g1⟩:=L7
 go_simp
 try rw [dif_pos (by omega)]
 exact Sb.k Z)
 refine Sb.T 9 hf a8 ?_ (hF:=fun _ _ h d=>ad (Sb.O h s0) (lf.out _ h.ext))
 refine Sb.T 10 hf a8 ?_
 refine Sb.T 11 hf a8 ?_
 refine Sb.T 12 hf a8 ?_ (hF:=fun _ _ h d=>lf.out _ h.ext)
 refine Sb.T 13 hf a8 ?_
 refine Sb.mN 14 8 5 hf a8 [] ?_
 refine Sb.mN 15 13 1 hf a8 [] ?_
 refine Sb.T 16 hf a8 ?_
 refine Sb.E hf a8 (fun _ _ h g=>ad (Sb.f 14 2 g) (ad (Sb.f 15 1 g) (Sb.f 16 0 g))) ?_
 clear hf a8 s0 J0;intro a7 w1 hf hx sS
 have L7:=lf.out _ hx;try clear hc g0 g1;clear lf;obtain ⟨hc,g0,g1⟩:=L7
 refine Zx b7 (k8 ?_)
 obtain ⟨s1,s2,s3⟩:=sS
 refine Fc.tU rfl hf s1 s2 s3 ⟨?_,dE.trans (hx.mono dE.size)⟩
 rw [y1v n8]
 simp [iE n8])
theorem v5q (w:World) (c g:Nat) (s:ByteArray) (i:Nat) (hc:w.cell? ⟨c,0,none⟩=some (.pointer (some ⟨g,0,none⟩))) (hr:RD w g s i) (hi:i<=s.size) (F7:s.size<=1000000000):G4 w 97 #[.pointer (some ⟨c,0,none⟩)] (.tuple #[.int .u64 (getN (wl s) i).1,.int .i64 (getN (wl s) i).2.1,.int .i64 (getN (wl s) i).2.2]):=by
 refine S8 16 Tryz.func97 fun fr hf s0=> ?_
 have g0:=hr.c0;have g1:=hr.c1
 clear hr
 refine Ze fun _ b7=>Zr [] hf ?_
 refine r6 0 hf ?_
 clear hf s0;intro a7 hf s0
 refine Zs b7 fun _ b7=>Sb.tb 16 fun a8=> ?_
 have lf:=H9 fun (w9:World) (h9:Below _ _ w9)=>ad (cL h9 hc) (ad (cL h9 g0) (cL h9 g1))
 refine Sb.T 0 hf a8 ?_ (hF:=fun _ _ h d=>ad (Sb.O h s0) (lf.out _ h.ext))
 refine Sb.T 1 hf a8 ?_
 refine Sb.T 2 hf a8 ?_
 refine Sb.T 3 hf a8 ?_ (hF:=fun _ _ h d=>lf.out _ h.ext)
 refine Sb.T 4 hf a8 ?_ (hF:=fun _ _ h d=>ad (Sb.O h s0) (lf.out _ h.ext))
 refine Sb.T 5 hf a8 ?_
 refine Sb.T 6 hf a8 ?_
 refine Sb.T 7 hf a8 ?_ (hF:=fun _ _ h d=>lf.out _ h.ext)
 apply Sb.tq 8 _ hf a8
 . (
 intro a7 w1 hh hd hk K Z
 have s7:=Sb.v 3 4 hd hk []
 have C7:=Sb.v 7 0 hd hk []
 clear hd
 have L7:=lf.out _ hh.ext;try clear hc g0 g1;obtain ⟨hc,g0,g1⟩:=L7
 go_simp
 go_at_call 98;refine (v5t _ s i hi F7).mono ?_;rintro e w2 ⟨rfl,r9⟩
 exact Z.out _ rfl _ _ r9 rfl)
 refine Sb.T 9 hf a8 ?_
 refine Sb.T 10 hf a8 ?_
 refine Sb.T 11 hf a8 ?_
 refine Sb.mN 12 9 2 hf a8 [] ?_
 refine Sb.mN 13 10 2 hf a8 [] ?_
 refine Sb.mN 14 11 2 hf a8 [] ?_
 refine Sb.E hf a8 (fun _ _ h g=>ad (Sb.f 12 2 g) (ad (Sb.f 13 1 g) (Sb.f 14 0 g))) ?_
 clear hf a8 s0;intro a7 w1 hf hx sS
 have L7:=lf.out _ hx;try clear hc g0 g1;clear lf;obtain ⟨hc,g0,g1⟩:=L7
 refine Zx b7 (k8 ?_)
 obtain ⟨s1,s2,s3⟩:=sS
 exact Fc.tU rfl hf s1 s2 s3 ⟨rfl,hx⟩
theorem w9h (w:World) (n lo hi p q:Nat) (hp:w.cell? ⟨p,0,none⟩=some (.int .u64 lo)) (hq:w.cell? ⟨q,0,none⟩=some (.int .u64 hi)):G4 w 99 #[.int .u64 n,.pointer (some ⟨p,0,none⟩),.pointer (some ⟨q,0,none⟩)] (.int .i64 (dD lo hi n:Nat)):=by
 refine lM 13 Tryz.func99 fun fr hf s0 s1 s2=> ?_
 rcases z8e n lo hi with S6 | S6 | S6
 . (
 have q1:decide (n<lo)=true:=decide_eq_true oM
 have HC:=H9 S6;clear S6
 refine Ze fun _ b7=>Zr [] hf ?_
 refine B1 0 1 2 hf ?_
 clear hf s0 s1 s2;intro a7 hf sS
 refine Zs b7 fun _ b7=>Ze fun _ j8=> ?_
 have qs:=q1
 refine Zr [5,6,7,8,9,10,11] hf ?_
 refine r6 12 hf ?_
 clear hf sS qs;intro a7 hf aZ
 refine Zx j8 (Fc.l8 aZ ?_)
 refine Ze fun _ j8=>Zr [] hf ?_
 refine r6 4 hf ?_
 clear hf aZ;intro a7 hf s4
 refine Zx j8 (k8 ?_)
 refine Fc.o9 rfl hf s4 ⟨?_,Below.refl _ _⟩
 have:=HC.out
 rw [dD,if_pos (by omega)]
 rfl)
 . (
 have q1:decide (n<lo)=false:=decide_eq_false oM
 have q2:decide (hi<n)=true:=decide_eq_true oM
 have HC:=H9 S6;clear S6
 refine Ze fun _ b7=>Zr [] hf ?_
 refine B1 0 1 2 hf ?_
 clear hf s0 s1 s2;intro a7 hf sS
 refine Zs b7 fun _ b7=>Ze fun _ j8=> ?_
 have qs:=And.intro q1 q2
 refine Zr [5,6,7,8,9,10,11] hf ?_
 refine r6 12 hf ?_
 clear hf sS qs;intro a7 hf aZ
 refine Zx j8 (Fc.l8 aZ ?_)
 refine Ze fun _ j8=>Zr [] hf ?_
 refine r6 4 hf ?_
 clear hf aZ;intro a7 hf s4
 refine Zx j8 (k8 ?_)
 refine Fc.o9 rfl hf s4 ⟨?_,Below.refl _ _⟩
 have:=HC.out
 rw [dD,if_pos (by omega)]
 rfl)
 . (
 have q1:decide (n<lo)=false:=decide_eq_false oM
 have q2:decide (hi<n)=false:=decide_eq_false oM
 have HC:=H9 S6;clear S6
 refine Ze fun _ b7=>Zr [] hf ?_
 refine B1 0 1 2 hf ?_
 clear hf s0 s1 s2;intro a7 hf sS
 refine Zs b7 fun _ b7=>Ze fun _ j8=> ?_
 have qs:=And.intro q1 q2
 refine Zr [5,6,7,8,9,10,11] hf ?_
 refine r6 12 hf ?_
 clear hf sS qs;intro a7 hf aZ
 refine Zx j8 (Fc.k9 aZ ?_)
 refine wp_skip (Zs b7 fun _ b7=>Zr [] hf ?_)
 refine r6 4 hf ?_
 clear hf aZ;intro a7 hf s4
 refine Zx b7 (k8 ?_)
 refine Fc.o9 rfl hf s4 ⟨?_,Below.refl _ _⟩
 have:=HC.out
 rw [dD,if_neg (by omega)]
 rfl)
theorem x4c (w:World) (x:Nat):G4 w 100 #[.int .u8 x] (.int .i64 ((0:Nat):Int)):=by
 refine S8 3 Tryz.func100 fun fr hf s0=> ?_
 refine Ze fun _ b7=>Zr [] hf ?_
 refine Zq0 hf ?_
 clear hf s0;intro a7 hf
 refine Zs b7 fun _ b7=>Zr [] hf ?_
 refine r6 2 hf ?_
 clear hf;intro a7 hf s2
 refine Zx b7 (k8 ?_)
 exact Fc.o9 rfl hf s2 ⟨rfl,Below.refl _ _⟩
theorem v5p (w:World) (x k p:Nat) (hk:k<3) (hp:w.cell? ⟨p,0,none⟩=some (.int .i64 k)):G4 w 58 #[.int .u8 x,.pointer (some ⟨p,0,none⟩)] (.int .i64 (vV k x:Nat)):=by
 refine aT 8 Tryz.func58 fun fr hf s0 s1=> ?_
 obtain ⟨m,hm⟩:∃ x,bN k=x:=⟨_,rfl⟩
 have D3:∀ h:k<(ByteArray.mk #[67,83,1]).size,((ByteArray.mk #[67,83,1])[k]'h).toNat=m:=fun h=>by rw [<- hm, <- y1u hk,iE h]
 have HM:=H9 hm;clear hm
 refine Ze fun _ b7=>Zr [] hf ?_
 refine C1 0 1 hf ?_
 clear hf s0 s1;intro a7 hf sS
 refine Zs b7 fun _ b7=>Ze fun _ j8=>rg ?_
 have bB:=hf.B3 4 5 6
 iterate 2 refine Zy ?_
 refine fp fun K Z=> ?_
 go_simp
 rw [if_pos (by omega)]
 apply Z.out;clear Z K
 refine Zy ?_
 refine Fc.nil (r6 7 hf ?_)
 clear hf sS bB;intro a7 hf s7
 refine Zx j8 (Fc.l0 s7 (fun hq=> ?_) (fun hq=> ?_))
 . (
 refine Ze fun _ j8=>Zr [] hf ?_
 refine r6 3 hf ?_
 clear hf s7;intro a7 hf s3
 refine Zx j8 (k8 ?_)
 refine Fc.o9 rfl hf s3 ⟨?_,Below.refl _ _⟩
 unfold vV
 rw [HM.out,if_neg (by intro e;subst e;simp at hq)]
 rfl)
 . (
 refine wp_skip (Zs b7 fun _ b7=>Zr [] hf ?_)
 refine r6 3 hf ?_
 clear hf s7;intro a7 hf s3
 refine Zx b7 (k8 ?_)
 refine Fc.o9 rfl hf s3 ⟨?_,Below.refl _ _⟩
 unfold vV
 rw [HM.out,if_pos (by have:=(by simpa using hq:(x:Int)=m);omega)]
 rfl)
theorem vS.via {w w1 w2:World} {e:Ending} {c a:Int} (hb:Below w.heap.size w w2) (h:vS w2 w1 e c a):vS w w1 e c a:=by
 obtain ⟨q,h1,h2,h3,h4⟩:=h
 exact ⟨q,h1,Nat.le_trans hb.size h2,h3,hb.trans (h4.mono hb.size)⟩
def eD (w w1:World) (e:Ending) (k:IntKind) (r:Nat×Nat×Nat) (c2 i g:Nat) (s:ByteArray):Prop :=
 if r.2.2≠0 then vS w w1 e r.2.2 i else if c2≠0 then vS w w1 e c2 i else e= .returned (.int k r.1)/\RD w1 g s r.2.1/\n4 (fun k=>k=g) w w1
theorem eD.one {w w1:World} {e:Ending} {k:IntKind} {x ny c1 c2 i g:Nat} {s:ByteArray} (hc:c1≠0) (h:vS w w1 e c1 i):eD w w1 e k (x,ny,c1) c2 i g s:=by
 unfold eD
 rw [if_pos hc]
 exact h
theorem eD.two {w w1:World} {e:Ending} {k:IntKind} {x ny c2 i g:Nat} {s:ByteArray} (hc:c2≠0) (h:vS w w1 e c2 i):eD w w1 e k (x,ny,0) c2 i g s:=by
 unfold eD
 rw [if_neg sP,if_pos hc]
 exact h
theorem eD.ok {w w1:World} {k:IntKind} {x ny i g:Nat} {s:ByteArray} (h:RD w1 g s ny) (hb:n4 (fun k=>k=g) w w1):eD w w1 (.returned (.int k x)) k (x,ny,0) 0 i g s:=by
 unfold eD
 rw [if_neg sP,if_neg sP]
 exact ⟨rfl,h,hb⟩
theorem y9q (w:World) (c g:Nat) (s:ByteArray) (i:Nat) (hc:w.cell? ⟨c,0,none⟩=some (.pointer (some ⟨g,0,none⟩))) (hr:RD w g s i) (hi:i<=s.size) (F7:s.size<=1000000000) (fq:FuncId) (uC:Array Value) (c2:Nat) (hcf:∀ (xs:Array Value) (w1:World),(callFunc fq xs).run Tryz.prog w1= .ok (.enter fq xs) w1) (hq9:∀ w1,Below w.heap.size w w1->(N1 s i).2.2=0->Calls Tryz.prog fq (#[.int .u8 (N1 s i).1]++uC) w1 fun e w2=>e= .returned (.int .i64 c2)/\Below w1.heap.size w1 w2):Calls Tryz.prog 94 #[.pointer (some ⟨g,0,none⟩),.func (.func 95) #[] #[.pointer (some ⟨c,0,none⟩)],.func (.func fq) #[] uC] w fun e w1=>eD w w1 e .u8 (N1 s i) c2 i g s:=by
 refine lM 40 Tryz.func94 fun fr hf s0 s1 s2=> ?_
 obtain ⟨⟨x,ny,c1⟩,yJ⟩:∃ r,N1 s i=r:=⟨_,rfl⟩
 rw [yJ] at hq9 |-
 have g1:=hr.c1
 have hgl:=j4 hr
 refine Ze fun _ b7=>Zr [] hf ?_
 refine B1 0 1 2 hf ?_
 clear hf s0 s1 s2;intro a7 hf sS
 refine Zt b7 fun _ b7=> ?_
 have bB:=hf.B6 11 12 10 13 14 15
 refine Zy ?_
 refine Zc (w4y w c g s i hc hr hi F7) ?_;rintro e w2 ⟨rfl,r9⟩
 rw [yJ]
 refine Zv ?_
 iterate 7 refine Zy ?_
 refine Fc.nil (D0 0 2 7 8 9 hf ?_)
 clear hf sS bB;intro a7 hf sS
 have g2:=cL r9 g1
 have S5:=hr.later r9
 clear hr g1 hc
 refine Zs b7 fun _ b7=>Ze fun _ j8=>Zr [16] hf ?_
 refine J3 0 2 7 8 9 17 hf ?_
 clear hf sS;intro a7 hf sS
 refine Zx j8 (Fc.l0 sS.2.2.2.2.2 (fun h1=> ?_) (fun h1=> ?_))
 . (
 have E6:c1≠0:=by simpa using h1
 clear h1
 refine rg ?_
 have bB:=hf.B5 18 19 20 21 22
 iterate 5 refine Zy ?_
 refine fp fun K Z=> ?_
 go_simp
 go_at_call 32;refine (vT w2 c1 i).mono ?_;rintro e w3 ⟨q,rfl,jM,H7,T3⟩
 try dsimp only
 refine dV hf.defers (eD.one E6 (vS.via r9 ⟨q,rfl,jM,H7,T3⟩)))
 . (
 have hz:c1=0:=by simpa using h1
 clear h1
 subst hz
 refine wp_skip (Zs b7 fun _ b7=>Ze fun _ j8=>rg ?_)
 have bB:=hf.B3 24 25 26
 iterate 2 refine Zy ?_
 refine fp fun K Z=> ?_
 go_simp
 try rw [hcf]
 refine (hq9 w2 r9 rfl).mono ?_
 rintro e w3 ⟨rfl,D4⟩
 try dsimp only
 apply Z.out;clear Z K
 refine Zy ?_
 refine Fc.nil (C0 0 7 8 9 hf ?_)
 clear hf sS bB;intro a7 hf sS
 have g3:=cL D4 g2
 have oP:=S5.later D4
 have y1t:=r9.trans (D4.mono r9.size)
 clear S5 g2
 refine Zs j8 fun _ j8=>Zr [27] hf ?_
 refine D0 0 7 8 9 28 hf ?_
 clear hf sS;intro a7 hf sS
 refine Zx j8 (Fc.l0 sS.2.2.2.2 (fun h2=> ?_) (fun h2=> ?_))
 . (
 have E6:c2≠0:=by simpa using h2
 clear h2
 refine rg ?_
 have bB:=hf.B5 29 30 31 32 33
 iterate 5 refine Zy ?_
 refine fp fun K Z=> ?_
 go_simp
 go_at_call 32;refine (vT w3 c2 i).mono ?_;rintro e w4 ⟨q,rfl,jM,H7,T3⟩
 try dsimp only
 refine dV hf.defers (eD.two E6 (vS.via y1t ⟨q,rfl,jM,H7,T3⟩)))
 . (
 have hz:c2=0:=by simpa using h2
 clear h2
 subst hz
 have fz:=j3 (i:=1) oP
 refine wp_skip (Zs b7 fun _ b7=>Zr [35,36,37,38] hf ?_)
 refine r6 7 hf ?_
 clear hf sS;intro a7 hf s7
 have hr4:RD (w3.setCell ⟨g,1,none⟩ (.int .i64 ny)) g s ny:=(j5 (i:=1) oP _).trans sP
 have o5:n4 (fun k=>k=g) w (w3.setCell ⟨g,1,none⟩ (.int .i64 ny)):=(n4.of _ y1t).trans (n4.setCell (S:=fun k=>k=g) rfl _)
 refine Zs b7 fun _ b7=>Zr [39] hf ?_
 refine r6 6 hf ?_
 clear hf s7;intro a7 hf s6
 refine Zx b7 (k8 ?_)
 exact Fc.o9 rfl hf s6 (eD.ok hr4 o5)))
theorem y9p (w:World) (c g:Nat) (s:ByteArray) (i:Nat) (hc:w.cell? ⟨c,0,none⟩=some (.pointer (some ⟨g,0,none⟩))) (hr:RD w g s i) (hi:i<=s.size) (F7:s.size<=1000000000) (fq:FuncId) (uC:Array Value) (c2:Nat) (hcf:∀ (xs:Array Value) (w1:World),(callFunc fq xs).run Tryz.prog w1= .ok (.enter fq xs) w1) (hq9:∀ w1,Below w.heap.size w w1->(getN (wl s) i).2.2=0->Calls Tryz.prog fq (#[.int .u64 (getN (wl s) i).1]++uC) w1 fun e w2=>e= .returned (.int .i64 c2)/\Below w1.heap.size w1 w2):Calls Tryz.prog 96 #[.pointer (some ⟨g,0,none⟩),.func (.func 97) #[] #[.pointer (some ⟨c,0,none⟩)],.func (.func fq) #[] uC] w fun e w1=>eD w w1 e .u64 (getN (wl s) i) c2 i g s:=by
 refine lM 40 Tryz.func96 fun fr hf s0 s1 s2=> ?_
 obtain ⟨⟨x,ny,c1⟩,yJ⟩:∃ r,getN (wl s) i=r:=⟨_,rfl⟩
 rw [yJ] at hq9 |-
 have g1:=hr.c1
 have hgl:=j4 hr
 refine Ze fun _ b7=>Zr [] hf ?_
 refine B1 0 1 2 hf ?_
 clear hf s0 s1 s2;intro a7 hf sS
 refine Zt b7 fun _ b7=> ?_
 have bB:=hf.B6 11 12 10 13 14 15
 refine Zy ?_
 refine Zc (v5q w c g s i hc hr hi F7) ?_;rintro e w2 ⟨rfl,r9⟩
 rw [yJ]
 refine Zv ?_
 iterate 7 refine Zy ?_
 refine Fc.nil (D0 0 2 7 8 9 hf ?_)
 clear hf sS bB;intro a7 hf sS
 have g2:=cL r9 g1
 have S5:=hr.later r9
 clear hr g1 hc
 refine Zs b7 fun _ b7=>Ze fun _ j8=>Zr [16] hf ?_
 refine J3 0 2 7 8 9 17 hf ?_
 clear hf sS;intro a7 hf sS
 refine Zx j8 (Fc.l0 sS.2.2.2.2.2 (fun h1=> ?_) (fun h1=> ?_))
 . (
 have E6:c1≠0:=by simpa using h1
 clear h1
 refine rg ?_
 have bB:=hf.B5 18 19 20 21 22
 iterate 5 refine Zy ?_
 refine fp fun K Z=> ?_
 go_simp
 go_at_call 32;refine (vT w2 c1 i).mono ?_;rintro e w3 ⟨q,rfl,jM,H7,T3⟩
 try dsimp only
 refine dV hf.defers (eD.one E6 (vS.via r9 ⟨q,rfl,jM,H7,T3⟩)))
 . (
 have hz:c1=0:=by simpa using h1
 clear h1
 subst hz
 refine wp_skip (Zs b7 fun _ b7=>Ze fun _ j8=>rg ?_)
 have bB:=hf.B3 24 25 26
 iterate 2 refine Zy ?_
 refine fp fun K Z=> ?_
 go_simp
 try rw [hcf]
 refine (hq9 w2 r9 rfl).mono ?_
 rintro e w3 ⟨rfl,D4⟩
 try dsimp only
 apply Z.out;clear Z K
 refine Zy ?_
 refine Fc.nil (C0 0 7 8 9 hf ?_)
 clear hf sS bB;intro a7 hf sS
 have g3:=cL D4 g2
 have oP:=S5.later D4
 have y1t:=r9.trans (D4.mono r9.size)
 clear S5 g2
 refine Zs j8 fun _ j8=>Zr [27] hf ?_
 refine D0 0 7 8 9 28 hf ?_
 clear hf sS;intro a7 hf sS
 refine Zx j8 (Fc.l0 sS.2.2.2.2 (fun h2=> ?_) (fun h2=> ?_))
 . (
 have E6:c2≠0:=by simpa using h2
 clear h2
 refine rg ?_
 have bB:=hf.B5 29 30 31 32 33
 iterate 5 refine Zy ?_
 refine fp fun K Z=> ?_
 go_simp
 go_at_call 32;refine (vT w3 c2 i).mono ?_;rintro e w4 ⟨q,rfl,jM,H7,T3⟩
 try dsimp only
 refine dV hf.defers (eD.two E6 (vS.via y1t ⟨q,rfl,jM,H7,T3⟩)))
 . (
 have hz:c2=0:=by simpa using h2
 clear h2
 subst hz
 have fz:=j3 (i:=1) oP
 refine wp_skip (Zs b7 fun _ b7=>Zr [35,36,37,38] hf ?_)
 refine r6 7 hf ?_
 clear hf sS;intro a7 hf s7
 have hr4:RD (w3.setCell ⟨g,1,none⟩ (.int .i64 ny)) g s ny:=(j5 (i:=1) oP _).trans sP
 have o5:n4 (fun k=>k=g) w (w3.setCell ⟨g,1,none⟩ (.int .i64 ny)):=(n4.of _ y1t).trans (n4.setCell (S:=fun k=>k=g) rfl _)
 refine Zs b7 fun _ b7=>Zr [39] hf ?_
 refine r6 6 hf ?_
 clear hf s7;intro a7 hf s6
 refine Zx b7 (k8 ?_)
 exact Fc.o9 rfl hf s6 (eD.ok hr4 o5)))
theorem iN {P : Program} {f : FuncId} {fn : Func} {c : Code} (hf : P.funcs[f]? = some fn) (hn : (fn.name == "runtime.NumGoroutine") = false) (hb : fn.body = some c) (xs : Array Value) (w1 : World) : (callFunc f xs).run P w1 = .ok (.enter f xs) w1 := by
 have tX : ¬ fn.name = "runtime.NumGoroutine" := by simpa using hn
 simp [callFunc,program,Sem.run,hf,tX,hb]
theorem call73 (xs:Array Value) (w1:World):(callFunc 99 xs).run Tryz.prog w1= .ok (.enter 99 xs) w1:=iN Tryz.func99 kR rfl xs w1
theorem call74 (xs:Array Value) (w1:World):(callFunc 100 xs).run Tryz.prog w1= .ok (.enter 100 xs) w1:=iN Tryz.func100 kR rfl xs w1
theorem call50 (xs:Array Value) (w1:World):(callFunc 58 xs).run Tryz.prog w1= .ok (.enter 58 xs) w1:=iN Tryz.func58 kR rfl xs w1
theorem w9g (a b c:Value):(#[a]++ #[b,c]:Array Value)= #[a,b,c]:=rfl
theorem v5o (a b:Value):(#[a]++ #[b]:Array Value)= #[a,b]:=rfl
theorem v5n (a:Value):(#[a]++ #[]:Array Value)= #[a]:=rfl
theorem eD.S7 {w w1:World} {e:Ending} {k:IntKind} {r:Nat×Nat×Nat} {c2 i g:Nat} {s:ByteArray} (h:eD w w1 e k r c2 i g s) (hg:r.2.2=0/\c2=0):e= .returned (.int k r.1)/\RD w1 g s r.2.1/\n4 (fun k=>k=g) w w1:=by
 unfold eD at h
 rw [if_neg (by simp [hg.1]),if_neg (by simp [hg.2])] at h
 exact h
theorem eD.bad {w w1:World} {e:Ending} {k:IntKind} {r:Nat×Nat×Nat} {c2 i g:Nat} {s:ByteArray} (h:eD w w1 e k r c2 i g s) (hg:¬ (r.2.2=0/\c2=0)):vS w w1 e (if r.2.2≠0 then r.2.2 else c2:Nat) i:=by
 unfold eD at h
 split at h
 ·rename_i h1;rw [if_pos h1];exact h
 ·rename_i h1
  rw [if_neg h1]
  rw [if_pos (by intro e;exact hg ⟨by simpa using h1,e⟩)] at h
  exact h
theorem eD.back {w w0 w1:World} {e:Ending} {k:IntKind} {r:Nat×Nat×Nat} {c2 i g:Nat} {s:ByteArray} (hb:Below w.heap.size w w0) (h:eD w0 w1 e k r c2 i g s):eD w w1 e k r c2 i g s:=by
 unfold eD at h |-
 split
 ·rename_i h1;rw [if_pos h1] at h;exact vS.via hb h
 ·rename_i h1
  rw [if_neg h1] at h
  split
  ·rename_i h2;rw [if_pos h2] at h;exact vS.via hb h
  ·rename_i h2
   rw [if_neg h2] at h
   exact ⟨h.1,h.2.1,(n4.of _ hb).trans h.2.2⟩
theorem y1s (w:World) (g:Nat) (s:ByteArray) (i:Nat) (hr:RD w g s i) (hi:i<=s.size) (F7:s.size<=1000000000) (fq:FuncId) (uC:Array Value) (c2:Nat) (hcf:∀ (xs:Array Value) (w1:World),(callFunc fq xs).run Tryz.prog w1= .ok (.enter fq xs) w1) (hq9:∀ w1,Below w.heap.size w w1->(N1 s i).2.2=0->Calls Tryz.prog fq (#[.int .u8 (N1 s i).1]++uC) w1 fun e w2=>e= .returned (.int .i64 c2)/\Below w1.heap.size w1 w2):Calls Tryz.prog 57 #[.pointer (some ⟨g,0,none⟩),.func (.func fq) #[] uC] w fun e w1=>eD w w1 e .u8 (N1 s i) c2 i g s:=by
 refine aT 9 Tryz.func57 fun fr hf s0 s1=> ?_
 by_cases tL:(N1 s i).2.2=0/\c2=0
 . (
 refine Ze fun _ b7=>Zr [] hf ?_
 refine C1 1 2 hf ?_
 clear hf s0 s1;intro a7 hf sS
 generalize p8:w.alloc (.cells #[.pointer (some ⟨g,0,none⟩)] 82)=W0
 obtain ⟨p9,c0, -, -⟩:=nU p8
 clear p8
 have cQ:=hr.later p9
 refine Zt b7 fun _ b7=> ?_
 have bB:=hf.B4 5 6 7 8
 iterate 3 refine Zy ?_
 refine Zc (y9q W0 w.heap.size g s i c0 cQ hi F7 fq uC c2 hcf (fun w1 h1 h2=>hq9 w1 (p9.trans (h1.mono p9.size)) h2)) ?_;rintro e w1 hth
 obtain ⟨rfl,h2,h3⟩:=hth.S7 tL
 refine Zv ?_
 refine Zy ?_
 refine Fc.nil (r6 4 hf ?_)
 clear hf sS bB;intro a7 hf s4
 refine Zx b7 (k8 ?_)
 exact Fc.o9 rfl hf s4 (eD.back p9 hth))
 . (
 refine Ze fun _ b7=>Zr [] hf ?_
 refine C1 1 2 hf ?_
 clear hf s0 s1;intro a7 hf sS
 generalize p8:w.alloc (.cells #[.pointer (some ⟨g,0,none⟩)] 82)=W0
 obtain ⟨p9,c0, -, -⟩:=nU p8
 clear p8
 have cQ:=hr.later p9
 refine Zt b7 fun _ b7=> ?_
 have bB:=hf.B4 5 6 7 8
 iterate 3 refine Zy ?_
 refine fp fun K Z=> ?_
 go_simp
 go_at_call 94;refine (y9q W0 w.heap.size g s i c0 cQ hi F7 fq uC c2 hcf (fun w1 h1 h2=>hq9 w1 (p9.trans (h1.mono p9.size)) h2)).mono ?_;rintro e w1 hth
 obtain ⟨q,rfl,h2,h3,h4⟩:=hth.bad tL
 try dsimp only
 try dsimp only
 exact dV hf.defers (eD.back p9 hth))
theorem v5m (w:World) (g:Nat) (s:ByteArray) (i:Nat) (hr:RD w g s i) (hi:i<=s.size) (F7:s.size<=1000000000) (lo tG:Nat):Calls Tryz.prog 59 #[.pointer (some ⟨g,0,none⟩),.int .u64 lo,.int .u64 tG] w fun e w1=>eD w w1 e .u64 (getN (wl s) i) (dD lo tG (getN (wl s) i).1) i g s:=by
 refine lM 11 Tryz.func59 fun fr hf s0 s1 s2=> ?_
 generalize hc2:dD lo tG (getN (wl s) i).1=c2
 have HC2:=H9 hc2;clear hc2
 by_cases tL:(getN (wl s) i).2.2=0/\c2=0
 . (
 refine Ze fun _ b7=>Zr [] hf ?_
 refine B1 3 4 5 hf ?_
 clear hf s0 s1 s2;intro a7 hf sS
 generalize p8:w.alloc (.cells #[.pointer (some ⟨g,0,none⟩)] 82)=W0
 obtain ⟨lR,c0, -,hza⟩:=nU p8
 clear p8
 obtain ⟨s3,s4,s5⟩:=sS
 rw [<- hza] at s4 s5
 clear hza
 generalize Z4:W0.alloc (.cells #[.int .u64 lo] 35)=W1
 obtain ⟨uB,c1, -,hzb⟩:=nU Z4
 clear Z4
 rw [<- hzb] at s5
 clear hzb
 generalize U1:W1.alloc (.cells #[.int .u64 tG] 35)=W2
 obtain ⟨hbc,d2, -, -⟩:=nU U1
 clear U1
 replace c1:=cL hbc c1
 replace c0:=cL hbc (cL uB c0)
 have p9:=(lR.trans (uB.mono lR.size)).trans (hbc.mono (Nat.le_trans lR.size uB.size))
 have cQ:=hr.later p9
 refine Zt b7 fun _ b7=> ?_
 have bB:=hf.B4 7 8 9 10
 iterate 3 refine Zy ?_
 refine Zc (y9p W2 w.heap.size g s i c0 cQ hi F7 99 #[.pointer (some ⟨W0.heap.size,0,none⟩),.pointer (some ⟨W1.heap.size,0,none⟩)] c2 call73 (fun w1 h1 _=>by rw [w9g, <- HC2.out];exact w9h w1 _ lo tG _ _ (cL h1 c1) (cL h1 d2))) ?_;rintro e w1 hth
 obtain ⟨rfl,h2,h3⟩:=hth.S7 tL
 refine Zv ?_
 refine Zy ?_
 refine Fc.nil (r6 6 hf ?_)
 clear hf s3 s4 s5 bB;intro a7 hf s6
 refine Zx b7 (k8 ?_)
 exact Fc.o9 rfl hf s6 (eD.back p9 hth))
 . (
 refine Ze fun _ b7=>Zr [] hf ?_
 refine B1 3 4 5 hf ?_
 clear hf s0 s1 s2;intro a7 hf sS
 generalize p8:w.alloc (.cells #[.pointer (some ⟨g,0,none⟩)] 82)=W0
 obtain ⟨lR,c0, -,hza⟩:=nU p8
 clear p8
 obtain ⟨s3,s4,s5⟩:=sS
 rw [<- hza] at s4 s5
 clear hza
 generalize Z4:W0.alloc (.cells #[.int .u64 lo] 35)=W1
 obtain ⟨uB,c1, -,hzb⟩:=nU Z4
 clear Z4
 rw [<- hzb] at s5
 clear hzb
 generalize U1:W1.alloc (.cells #[.int .u64 tG] 35)=W2
 obtain ⟨hbc,d2, -, -⟩:=nU U1
 clear U1
 replace c1:=cL hbc c1
 replace c0:=cL hbc (cL uB c0)
 have p9:=(lR.trans (uB.mono lR.size)).trans (hbc.mono (Nat.le_trans lR.size uB.size))
 have cQ:=hr.later p9
 refine Zt b7 fun _ b7=> ?_
 have bB:=hf.B4 7 8 9 10
 iterate 3 refine Zy ?_
 refine fp fun K Z=> ?_
 go_simp
 go_at_call 96;refine (y9p W2 w.heap.size g s i c0 cQ hi F7 99 #[.pointer (some ⟨W0.heap.size,0,none⟩),.pointer (some ⟨W1.heap.size,0,none⟩)] c2 call73 (fun w1 h1 _=>by rw [w9g, <- HC2.out];exact w9h w1 _ lo tG _ _ (cL h1 c1) (cL h1 d2))).mono ?_;rintro e w1 hth
 obtain ⟨q,rfl,h2,h3,h4⟩:=hth.bad tL
 try dsimp only
 try dsimp only
 exact dV hf.defers (eD.back p9 hth))
abbrev uD:=Nat×Nat
def eT (r:Nat×Nat×Nat) (c2 i:Nat):Except uD (Nat×Nat):=if r.2.2≠0 then .error (r.2.2,i) else if c2≠0 then .error (c2,i) else .ok (r.1,r.2.1)
def cE (s:ByteArray) (lo hi i:Nat):Except uD (Nat×Nat):=eT (getN (wl s) i) (dD lo hi (getN (wl s) i).1) i
def mA (s:ByteArray) (i:Nat):Except uD (Nat×Nat):=eT (N1 s i) 0 i
def z3n (s:ByteArray) (k i:Nat):Except uD (Nat×Nat):=eT (N1 s i) (vV k (N1 s i).1) i
def pArcs (s:ByteArray) (i:Nat):Nat->Nat->List r7->Except uD (List r7×Nat)
 | 0,p,acc=> .ok (acc,p)
 | k+1,p,acc=>match mA s p with
  | .error b=> .error b
  | .ok (c,p1)=>match cE s 0 18446744073709551615 p1 with
   | .error b=> .error b
   | .ok (o,p2)=>match cE s 1 i p2 with
    | .error b=> .error b
    | .ok (d,p3)=>pArcs s i k p3 (acc++[⟨c,o,((i-d:Nat):Int)⟩])
def nX (s:ByteArray) (n p:Nat):Except uD (Nat×Nat):=if n%2=1 then cE s 0 18446744073709551615 p else .ok (0,p)
def pMk (n o:Nat):Except uD (List r7×Nat)->Except uD (State×Nat)
 | .error b=> .error b
 | .ok (l,p)=> .ok ({ a6:=l,final:=decide (n%2=1),out:=o },p)
def T4 (s:ByteArray) (i p:Nat):Except uD (State×Nat):=match cE s 0 513 p with
 | .error b=> .error b
 | .ok (n,p1)=>match nX s n p1 with
  | .error b=> .error b
  | .ok (o,p2)=>pMk n o (pArcs s i (n / 2) p2 [])
def pStates (s:ByteArray):Nat->Nat->Nat->List State->Except uD (List State×Nat)
 | 0,_,p,acc=> .ok (acc,p)
 | k+1,i,p,acc=>match T4 s i p with
  | .error b=> .error b
  | .ok (st,p1)=>pStates s k (i+1) p1 (acc++[st])
def pMagic (s:ByteArray):Nat->Nat->Nat->Except uD Nat
 | 0,_,p=> .ok p
 | m+1,k,p=>match z3n s k p with
  | .error b=> .error b
  | .ok (_,p1)=>pMagic s m (k+1) p1
def pAll (s:ByteArray):Except uD (Nat×Nat×List State):=match pMagic s 3 0 0 with
 | .error b=> .error b
 | .ok p=>match cE s 0 100000 p with
  | .error b=> .error b
  | .ok (en,p1)=>match cE s 1 18446744073709551615 p1 with
   | .error b=> .error b
   | .ok (n,p2)=>match pStates s n 0 p2 [] with
    | .error b=> .error b
    | .ok (ss,p3)=>match cE s 0 18446744073709551615 p3 with
     | .error b=> .error b
     | .ok (init,p4)=>if p4<s.size then .error (4,p4) else .ok (en,init,ss)
def dW (w w1:World) (e:Ending) (g:Nat) (b:uD):Prop:=∃ q,e= .panicked [{ v:= .iface 77 (.pointer (some ⟨q,0,none⟩)),recovered:=false }]/\w.heap.size<=q/\w1.heap[q]? =some (.cells #[.int .i64 b.1,.int .i64 b.2] 134 (0,0))/\n4 (fun k=>k=g) w w1
theorem vS.g {w w1:World} {e:Ending} {g c a:Nat} (h:vS w w1 e c a):dW w w1 e g (c,a):=by
 obtain ⟨q,h1,h2,h3,h4⟩:=h
 exact ⟨q,h1,h2,h3,n4.of _ h4⟩
theorem dW.via {w w1 w2:World} {e:Ending} {g:Nat} {b:uD} (hb:n4 (fun k=>k=g\/w.heap.size<=k) w w2) (h:dW w2 w1 e g b):dW w w1 e g b:=by
 obtain ⟨q,h1,h2,h3,h4⟩:=h
 exact ⟨q,h1,Nat.le_trans hb.size h2,h3,(hb.trans (h4.mono (fun k _ hk=> .inl hk))).mono (fun k hk h=>h.elim id (fun h=>oM))⟩
def x4a (w w1:World) (e:Ending) (k:IntKind) (g:Nat) (s:ByteArray):Except uD (Nat×Nat)->Prop
 | .error b=>dW w w1 e g b
 | .ok (x,j)=>e= .returned (.int k x)/\RD w1 g s j/\n4 (fun k=>k=g) w w1
theorem eD.res {w w1:World} {e:Ending} {k:IntKind} {r:Nat×Nat×Nat} {c2 i g:Nat} {s:ByteArray} (h:eD w w1 e k r c2 i g s):x4a w w1 e k g s (eT r c2 i):=by
 unfold eD at h
 unfold eT
 split at h
 ·rename_i h1;rw [if_pos h1];exact vS.g h
 ·rename_i h1
  rw [if_neg h1]
  split at h
  ·rename_i h2;rw [if_pos h2];exact vS.g h
  ·rename_i h2;rw [if_neg h2];exact h
theorem T5 (w:World) (g:Nat) (s:ByteArray) (i:Nat) (hr:RD w g s i) (hi:i<=s.size) (F7:s.size<=1000000000) (lo tG:Nat):Calls Tryz.prog 59 #[.pointer (some ⟨g,0,none⟩),.int .u64 lo,.int .u64 tG] w fun e w1=>x4a w w1 e .u64 g s (cE s lo tG i) :=
 (v5m w g s i hr hi F7 lo tG).mono fun e w1 h=>h.res
theorem y9o (w:World) (g:Nat) (s:ByteArray) (i:Nat) (hr:RD w g s i) (hi:i<=s.size) (F7:s.size<=1000000000):Calls Tryz.prog 57 #[.pointer (some ⟨g,0,none⟩),.func (.func 100) #[] #[]] w fun e w1=>x4a w w1 e .u8 g s (mA s i) :=
 (y1s w g s i hr hi F7 100 #[] 0 call74 (fun w1 _ _=>by rw [v5n];exact x4c w1 _)).mono fun e w1 h=>h.res
theorem w9f (w:World) (g:Nat) (s:ByteArray) (i:Nat) (hr:RD w g s i) (hi:i<=s.size) (F7:s.size<=1000000000) (k p:Nat) (hk:k<3) (hp:w.cell? ⟨p,0,none⟩=some (.int .i64 k)):Calls Tryz.prog 57 #[.pointer (some ⟨g,0,none⟩),.func (.func 58) #[] #[.pointer (some ⟨p,0,none⟩)]] w fun e w1=>x4a w w1 e .u8 g s (z3n s k i) :=
 (y1s w g s i hr hi F7 58 #[.pointer (some ⟨p,0,none⟩)] _ call50 (fun w1 hb _=>by rw [v5o];exact v5p w1 _ k p hk (cL hb hp))).mono fun e w1 h=>h.res
/-! where readings end -/
theorem x3z {s:List Nat} (hs:Small s) {i n j:Nat} (h:getN s i=(n,j,0)):i<j/\j<=s.length/\n<y5:=by
 obtain ⟨h1,h2,h3⟩:=qH hs h
 have h4:=(K4 h1).1
 have h5:=congrArg List.length h2
 rw [List.length_append,List.length_drop,List.length_drop] at h5
 omega
theorem F5 {s:ByteArray} {lo hi i n j:Nat} (h:cE s lo hi i= .ok (n,j)):i<j/\j<=s.size/\n<y5/\lo<=n/\n<=hi/\getN (wl s) i=(n,j,0):=by
 unfold cE eT at h
 split at h
 ·cases h
 ·rename_i h1
  split at h
  ·cases h
  ·rename_i h2
   injection h with h
   injection h with h3 h4
   have hg:getN (wl s) i=(n,j,0):=by
    obtain ⟨a,b,c⟩:∃ x,getN (wl s) i=x:=⟨_,rfl⟩
    rw [<- h3, <- h4]
    exact Prod.ext rfl (Prod.ext rfl (by simpa using h1))
   have h5:=x3z (dR s) hg
   rw [l9] at h5
   have h6:¬ (n<lo\/hi<n):=by
    intro h7
    apply h2
    unfold dD
    rw [h3,if_pos h7]
    decide
   exact ⟨h5.1,h5.2.1,h5.2.2,oM,oM,hg⟩
theorem jT {s:ByteArray} {i x j:Nat} (hi:i<=s.size) (h:mA s i= .ok (x,j)):j=i+1/\j<=s.size/\x<256/\(wl s)[i]? =some x:=by
 unfold mA eT N1 at h
 by_cases h2:i=s.size
 ·rw [if_pos h2] at h;simp at h
 ·rw [if_neg h2] at h
  simp at h
  refine ⟨h.2.symm,oM,by rw [<- h.1];exact z0j s i,by rw [<- h.1];exact dQ oM⟩
end Dw
end Go.Proofs.YtcddnmhmcieebaaGreatDoor
