/- crc: steps, by. -/
import Derived.Test.YtcddnmhmcieebaaGreatDoorY10
import Derived.Laws.BitsAllLaws
import Derived.Laws.CopyOwn
import Derived.Test.YtcddnmhmcieebaaGreatDoorTools
import Derived.Lib.AppendStr
namespace Go.Proofs.YtcddnmhmcieebaaGreatDoor
set_option maxHeartbeats 4000000
set_option maxRecDepth 100000
open Go.RowKit
set_option linter.unusedSimpArgs false
set_option linter.unusedVariables false
set_option linter.unnecessarySimpa false
namespace Dw
theorem w5x {x:Nat} (h:x<16):(#[.int .u32 0,.int .u32 498536548,.int .u32 997073096,.int .u32 651767980,.int .u32 1994146192,.int .u32 1802195444,.int .u32 1303535960,.int .u32 1342533948,.int .u32 3988292384,.int .u32 4027552580,.int .u32 3604390888,.int .u32 3412177804,.int .u32 2607071920,.int .u32 2262029012,.int .u32 2685067896,.int .u32 3183342108]:Array Value)[x]? =some (.int .u32 (Crc.T x:Nat)):=by
 rcases x with _ | _ | _ | _ | _ | _ | _ | _ | _ | _ | _ | _ | _ | _ | _ | _ | x<;>first | rfl | omega
theorem y2k {w:World} {g x:Nat} {t:TypeId} (h:w.heap[g]? =some (.cells #[.int .u32 0,.int .u32 498536548,.int .u32 997073096,.int .u32 651767980,.int .u32 1994146192,.int .u32 1802195444,.int .u32 1303535960,.int .u32 1342533948,.int .u32 3988292384,.int .u32 4027552580,.int .u32 3604390888,.int .u32 3412177804,.int .u32 2607071920,.int .u32 2262029012,.int .u32 2685067896,.int .u32 3183342108] t (0,0))) (hx:x<16):w.cell? ⟨g,x,none⟩=some (.int .u32 (Crc.T x:Nat)):=by
 rw [cell_of_row _ _ _ _ _ _ h,w5x hx]
theorem w5w {x:Nat} (h:x<16):Crc.T x<4294967296:=(by decide:∀ x,x<16->Crc.T x<4294967296) x h
theorem w9t (m:Nat):m%256 &&& 15=m%16:=by
 rw [show (15:Nat)=2^4-1 from rfl,Nat.and_two_pow_sub_one_eq_mod]
 omega
theorem x4q (w:World)  : G4 w 139 #[] (.agg #[.int .u32 0,.int .u32 498536548,.int .u32 997073096,.int .u32 651767980,.int .u32 1994146192,.int .u32 1802195444,.int .u32 1303535960,.int .u32 1342533948,.int .u32 3988292384,.int .u32 4027552580,.int .u32 3604390888,.int .u32 3412177804,.int .u32 2607071920,.int .u32 2262029012,.int .u32 2685067896,.int .u32 3183342108]):=by
 refine Zn0 2 Tryz.func139 fun fr hf=> ?_
 refine Ze fun _ b7=>Zr [] hf ?_
 refine r6 0 hf ?_
 clear hf;intro a7 hf s0
 generalize p8:w.alloc (.cells #[.int .u32 0,.int .u32 0,.int .u32 0,.int .u32 0,.int .u32 0,.int .u32 0,.int .u32 0,.int .u32 0,.int .u32 0,.int .u32 0,.int .u32 0,.int .u32 0,.int .u32 0,.int .u32 0,.int .u32 0,.int .u32 0] 222)=W0
 have oN:W0.heap[w.heap.size]? =some (.cells #[.int .u32 0,.int .u32 0,.int .u32 0,.int .u32 0,.int .u32 0,.int .u32 0,.int .u32 0,.int .u32 0,.int .u32 0,.int .u32 0,.int .u32 0,.int .u32 0,.int .u32 0,.int .u32 0,.int .u32 0,.int .u32 0] 222 (0,0)):=by rw [<- p8];exact heap_alloc_new w _
 have p9:Below w.heap.size w W0:=by rw [<- p8];exact (Below.refl _ _).alloc nR _
 clear p8
 refine Zt b7 fun _ b7=> ?_
 have bB:=hf.b 1
 refine Zy ?_
 clear bB
 refine Fc.lQ (n:=2) (by simp only [Fc.G,hf.size]) hf.defers (fun a7 u3 hT=> ?_)
 have G9:=Fc.h2 hT 0 1
 simp (decide:=true) only [Fc.G,hf.size,reduceIte,s0] at G9
 replace hf:=u3;clear hT u3 s0
 obtain ⟨s0,s1⟩:=G9
 refine ⟨?_⟩
 refine wpList_plain rfl fun KL tY=> ?_
 refine wp_store_row 222 _ _ rfl w.heap.size _ (Fc.k7 s0) (Fc.k7 s1) 222 _ oN kR rfl kR (tY _ _ ?_)
 refine Fc.L.out ?_
 refine Fc.nil (r6 0 hf ?_)
 clear hf s0 s1;intro a7 hf s0
 have kC:=setRow_heap W0 w.heap.size _ #[.int .u32 0,.int .u32 498536548,.int .u32 997073096,.int .u32 651767980,.int .u32 1994146192,.int .u32 1802195444,.int .u32 1303535960,.int .u32 1342533948,.int .u32 3988292384,.int .u32 4027552580,.int .u32 3604390888,.int .u32 3412177804,.int .u32 2607071920,.int .u32 2262029012,.int .u32 2685067896,.int .u32 3183342108] 222 (0,0) oN
 have n7:=below_setRow p9 nR #[.int .u32 0,.int .u32 498536548,.int .u32 997073096,.int .u32 651767980,.int .u32 1994146192,.int .u32 1802195444,.int .u32 1303535960,.int .u32 1342533948,.int .u32 3988292384,.int .u32 4027552580,.int .u32 3604390888,.int .u32 3412177804,.int .u32 2607071920,.int .u32 2262029012,.int .u32 2685067896,.int .u32 3183342108]
 refine Zx b7 (k8 ?_)
 refine N9 rfl hf s0 kC Tryz.underlying222 rfl kR ⟨rfl,n7⟩
theorem u5g (w:World) (n:Nat) (hn:n<4294967296) (hs:List Nat) (hlen:hs.length<=1000000) (b c:Nat) (hc:∀ (i x:Nat),hs[i]? =some x->w.cell? ⟨b,i,none⟩=some (.int .u8 x)) (Z7:∀ x∈hs,x<16):G4 w 140 #[.agg #[.int .u32 0,.int .u32 498536548,.int .u32 997073096,.int .u32 651767980,.int .u32 1994146192,.int .u32 1802195444,.int .u32 1303535960,.int .u32 1342533948,.int .u32 3988292384,.int .u32 4027552580,.int .u32 3604390888,.int .u32 3412177804,.int .u32 2607071920,.int .u32 2262029012,.int .u32 2685067896,.int .u32 3183342108],.int .u32 n,.slice (some ⟨b,0,none⟩) hs.length c] (.int .u32 (hs.foldl Crc.nib n:Nat)):=by
 refine lM 27 Tryz.func140 fun fr hf s0 s1 s2=> ?_
 refine Ze fun _ b7=>Zr [] hf ?_
 refine B1 1 2 3 hf ?_
 clear hf s0 s1 s2;intro a7 hf sS
 generalize p8:w.alloc (.cells #[.int .u32 0,.int .u32 498536548,.int .u32 997073096,.int .u32 651767980,.int .u32 1994146192,.int .u32 1802195444,.int .u32 1303535960,.int .u32 1342533948,.int .u32 3988292384,.int .u32 4027552580,.int .u32 3604390888,.int .u32 3412177804,.int .u32 2607071920,.int .u32 2262029012,.int .u32 2685067896,.int .u32 3183342108] 222)=W0
 have oN:W0.heap[w.heap.size]? =some (.cells #[.int .u32 0,.int .u32 498536548,.int .u32 997073096,.int .u32 651767980,.int .u32 1994146192,.int .u32 1802195444,.int .u32 1303535960,.int .u32 1342533948,.int .u32 3988292384,.int .u32 4027552580,.int .u32 3604390888,.int .u32 3412177804,.int .u32 2607071920,.int .u32 2262029012,.int .u32 2685067896,.int .u32 3183342108] 222 (0,0)):=by rw [<- p8];exact heap_alloc_new w _
 have p9:Below w.heap.size w W0:=by rw [<- p8];exact (Below.refl _ _).alloc nR _
 have kN:∀ (i x:Nat),hs[i]? =some x->W0.cell? ⟨b,i,none⟩=some (.int .u8 x):=fun i x hx=>cL p9 (hc i x hx)
 have u5f:=H9 kN;have HS:=H9 Z7
 clear p8 kN hc Z7
 refine Zs b7 fun _ b7=>Ze fun _ j8=>Zr [9] hf ?_
 refine D0 1 3 9 10 11 hf ?_
 clear hf sS;intro a7 hf sS
 refine Zx j8 (wp_block (wp_loop_ghost (fun gk fr wr=>∃ (i m:Nat),gk=hs.length-i/\i<=hs.length/\Fc.Fr 27 fr/\fr.tmps[1]? =some (.int .u32 m)/\fr.tmps[3]? =some (.pointer (some ⟨w.heap.size,0,none⟩))/\fr.tmps[9]? =some (.slice (some ⟨b,0,none⟩) hs.length c)/\fr.tmps[10]? =some (.int .i64 hs.length)/\fr.tmps[11]? =some (.int .i64 i)/\m=(hs.take i).foldl Crc.nib n/\m<4294967296/\wr=W0) (hs.length) ?_ ?_))
 . (
 obtain ⟨s1,s3,s9,y4,C7⟩:=sS
 exact ⟨0,n,rfl,Nat.zero_le _,hf,s1,s3,s9,y4,C7,rfl,hn,rfl⟩)
 . (
 clear hf sS
 rintro gk fr wr ⟨i,m,hk,hi,hf,s1,s3,s9,y4,C7,hm,y2j,hwr⟩
 subst wr
 have HK:=H9 hk;have HM:=H9 hm;clear hk hm
 refine Ze fun _ j8=>Zr [] hf ?_
 refine J3 1 3 9 10 11 12 hf ?_
 clear hf s1 s3 s9 y4 C7;intro a7 hf sS
 refine Zs j8 fun _ j8=>Fc.l0 sS.2.2.2.2.2 (fun hq=> ?_) (fun hq=> ?_)
 . (
 have n8:i<hs.length:=qT
 clear hq
 obtain ⟨h,hih⟩:∃ h,hs[i]? =some h:=⟨_,D9 n8⟩
 have c0:=u5f.out i h hih
 have v6u:=HS.out h (U0 hih)
 have y8:(hs.take (i+1)).foldl Crc.nib n=Crc.nib m h:=by rw [List.take_add_one,hih,Option.toList_some,List.foldl_append, <- HM.out];rfl
 obtain ⟨m2,fU⟩:∃ x,Crc.nib m h=x:=⟨_,rfl⟩
 rw [fU] at y8
 have y2i:m2<4294967296:=by rw [<- fU];exact Crc.qJ _ _ y2j v6u
 obtain ⟨x,hx⟩:∃ x,m%16^^^h=x:=⟨_,rfl⟩
 have v6t:x<16:=by rw [<- hx];exact Nat.xor_lt_two_pow (n:=4) oM v6u
 have z0:=y2k oN v6t
 obtain ⟨tx,htx⟩:∃ t,Crc.T x=t:=⟨_,rfl⟩
 have v6s:tx<4294967296:=by rw [<- htx];exact w5w v6t
 rw [htx] at z0
 obtain ⟨q16,w5v⟩:∃ q,m / 16=q:=⟨_,rfl⟩
 have v6r:q16^^^tx=m2:=by rw [<- fU, <- htx, <- hx, <- w5v];rfl
 obtain ⟨w5u,y2h⟩:∃ r,m%256=r:=⟨_,rfl⟩
 obtain ⟨r16,w5t⟩:∃ r,m%16=r:=⟨_,rfl⟩
 have hand:w5u &&& 15=r16:=by rw [<- y2h, <- w5t];exact w9t m
 rw [w5t] at hx
 have S5:w5u<256:=oM
 have hr1:r16<16:=oM
 have X9:=H9 y8;have HX:=H9 hx;have HQ:=H9 w5v;have u5d:=H9 v6r;have HR:=H9 y2h;have HAND:=H9 hand;clear y8 hx w5v v6r y2h w5t hand fU htx hih
 refine wp_skip (Zs j8 fun _ j8=>wp_block (Ze fun _ l6=>Zr [13,14] hf ?_))
 refine J3 1 3 8 9 10 11 hf ?_
 clear hf sS;intro a7 hf sS
 refine Zx l6 (rg ?_)
 have bB:=hf.pL 15 16 17 18 19 20 21 22 23 24
 refine Zy ?_
 refine fp fun K Z=> ?_
 go_simp
 rw [show (m:Int) / 16=((m / 16:Nat):Int) by omega,HQ.out]
 apply Z.out;clear Z K
 refine Zy ?_
 refine fp fun K Z=> ?_
 go_simp
 rw [y2m,HR.out]
 apply Z.out;clear Z K
 refine fp fun K Z=> ?_
 go_simp
 rw [show (15:Int)=((15:Nat):Int) from rfl,u8_and_nat w5u 15 S5 dC,HAND.out]
 apply Z.out;clear Z K
 refine Zy ?_
 refine fp fun K Z=> ?_
 go_simp
 rw [u8_xor_nat r16 h oM oM,HX.out]
 apply Z.out;clear Z K
 iterate 2 refine Zy ?_
 refine fp fun K Z=> ?_
 go_simp
 rw [u32_xor_nat q16 tx (by have:=HQ.out;omega) v6s,u5d.out]
 apply Z.out;clear Z K
 refine Zy ?_
 refine Fc.nil (D0 1 3 9 10 11 hf ?_)
 clear hf sS bB;intro a7 hf sS
 refine Fc.j7 (Zx j8 (Zr [25] hf ?_))
 refine D0 1 3 9 10 11 hf ?_
 clear hf sS;intro a7 hf sS
 refine Fc.j6 ?_
 obtain ⟨s1,s3,s9,y4,C7⟩:=sS
 exact ⟨_,by have:=HK.out;omega,i+1,m2,rfl,oM,hf,s1,s3,s9,y4,by rw [C7];rfl,X9.out.symm,y2i,rfl⟩)
 . (
 have F3:i=hs.length:=qF
 have hme:m=hs.foldl Crc.nib n:=by have h9:=HM.out;rwa [F3,List.take_length] at h9
 have HME:=H9 hme;clear hme F3 hq
 refine Zo ?_
 refine Zs b7 fun _ b7=>Zr [26] hf ?_
 refine r6 6 hf ?_
 clear hf sS;intro a7 hf s6
 refine Zx b7 (k8 ?_)
 exact Fc.o9 rfl hf s6 ⟨by rw [HME.out],p9⟩))
theorem y2g {n:Nat} (h:n<4294967296):4294967295^^^n=4294967295-n:=by
 have h1:(BitVec.allOnes 32^^^BitVec.ofNat 32 n).toNat=4294967295^^^n:=by
  rw [BitVec.toNat_xor,BitVec.toNat_allOnes,BitVec.toNat_ofNat,Nat.mod_eq_of_lt h]
 have h2:(~~~ (BitVec.ofNat 32 n)).toNat=4294967295-n:=by
  rw [BitVec.toNat_not,BitVec.toNat_ofNat,Nat.mod_eq_of_lt h]
 rw [<- h1, <- h2,BitVec.allOnes_xor]
theorem w9s {n:Nat} (h:n<4294967296):bits .xor .u32 (if IntKind.u32.signed=true then -1 else IntKind.u32.max) (n:Int)=((4294967295-n:Nat):Int):=by
 have e:(if IntKind.u32.signed=true then (-1:Int) else IntKind.u32.max)=((4294967295:Nat):Int):=rfl
 rw [e,u32_xor_nat 4294967295 n dC h,y2g h]
def PB2 (x y:Nat):Sb.Pr:=fun v w=>∃ b,v= .slice (some ⟨b,0,none⟩) 2 2/\∀ (i q:Nat),([x,y]:List Nat)[i]? =some q->w.cell? ⟨b,i,none⟩=some (.int .u8 q)
theorem PB2.u5 (x y:Nat):Sb.Stable (PB2 x y):=fun v w w' hb ⟨b,h1,h2⟩=>⟨b,h1,fun i q h=>cL hb (h2 i q h)⟩
theorem PB2.new (w:World) (x y:Nat) (t:TypeId):PB2 x y (.slice (some ⟨w.heap.size,0,none⟩) 2 2) (w.alloc (.cells #[.int .u8 x,.int .u8 y] t)):=⟨_,rfl,fun i q h=>by
 rw [cell_of_row _ _ i _ t (0,0) (heap_alloc_new w _)]
 rcases i with _ | _ | i
 ·injection h with h;rw [<- h];rfl
 ·injection h with h;rw [<- h];rfl
 ·simp at h⟩
theorem w5r (w:World) (n:Nat) (hn:n<4294967296) (s:ByteArray) (F7:s.size<=1000000000):G4 w 102 #[.int .u32 n,.string s] (.int .u32 (4294967295-Crc.run (4294967295-n) (wl s):Nat)):=by
 refine aT 31 Tryz.func102 fun fr hf s0 s1=> ?_
 have v6p:∀ (i:Nat) (h:i<s.size),s[i].toNat=at_ s i:=fun i h=>(iE h).symm
 refine Ze fun _ b7=>Zr [] hf ?_
 refine C1 0 1 hf ?_
 clear hf s0 s1;intro a7 hf sS
 refine Zt b7 fun _ b7=> ?_
 have bB:=hf.B2 8 5
 refine Zc (x4q w) ?_;rintro e W0 ⟨rfl,p9⟩
 refine Zv ?_
 refine Zy ?_
 obtain ⟨s0,s1⟩:=sS
 clear bB
 refine Fc.lQ (n:=31) (by simp only [Fc.G,hf.size]) hf.defers (fun a7 u3 hT=> ?_)
 have G9:=Fc.h4 hT 0 1 5 8
 simp (decide:=true) only [Fc.G,hf.size,reduceIte,s0,s1] at G9
 replace hf:=u3;clear hT u3 s0 s1
 obtain ⟨s0,s1,s5,s8⟩:=G9
 refine ⟨?_⟩
 refine wpList_plain rfl fun KL tY=> ?_
 refine wp_store_row 222 _ _ rfl W0.heap.size _ (Fc.k7 s5) (Fc.k7 s8) 222 _ (heap_alloc_new W0 _) kR rfl kR (tY _ _ ?_)
 rw [World.setRow_alloc_new]
 refine Fc.L.out ?_
 refine Fc.nil (B1 0 1 5 hf ?_)
 clear hf s0 s1 s5 s8;intro a7 hf sS
 generalize Z4:W0.alloc (.cells #[.int .u32 0,.int .u32 498536548,.int .u32 997073096,.int .u32 651767980,.int .u32 1994146192,.int .u32 1802195444,.int .u32 1303535960,.int .u32 1342533948,.int .u32 3988292384,.int .u32 4027552580,.int .u32 3604390888,.int .u32 3412177804,.int .u32 2607071920,.int .u32 2262029012,.int .u32 2685067896,.int .u32 3183342108] 222)=W1
 have kC:W1.heap[W0.heap.size]? =some (.cells #[.int .u32 0,.int .u32 498536548,.int .u32 997073096,.int .u32 651767980,.int .u32 1994146192,.int .u32 1802195444,.int .u32 1303535960,.int .u32 1342533948,.int .u32 3988292384,.int .u32 4027552580,.int .u32 3604390888,.int .u32 3412177804,.int .u32 2607071920,.int .u32 2262029012,.int .u32 2685067896,.int .u32 3183342108] 222 (0,0)):=by rw [<- Z4];exact heap_alloc_new W0 _
 have n7:Below w.heap.size w W1:=p9.trans (by rw [<- Z4];exact (Below.refl _ _).alloc p9.size _)
 have HX1:=H9 kC;clear Z4 p9 kC
 refine Zt b7 fun _ b7=> ?_
 have bB:=hf.B2 9 10
 refine Zy ?_
 refine fp fun K Z=> ?_
 go_simp
 rw [w9s hn]
 apply Z.out;clear Z K
 refine Zy ?_
 refine Fc.nil (B1 1 5 6 hf ?_)
 clear hf sS bB;intro a7 hf sS
 refine Zs b7 fun _ b7=>Ze fun _ j8=>Zr [11] hf ?_
 refine D0 1 5 6 12 13 hf ?_
 clear hf sS;intro a7 hf sS
 refine Zx j8 (wp_block (wp_loop_ghost (fun gk fr wr=>∃ (i m:Nat),gk=s.size-i/\i<=s.size/\Fc.Fr 31 fr/\fr.tmps[1]? =some (.string s)/\fr.tmps[5]? =some (.pointer (some ⟨W0.heap.size,0,none⟩))/\fr.tmps[6]? =some (.int .u32 m)/\fr.tmps[12]? =some (.int .i64 s.size)/\fr.tmps[13]? =some (.int .i64 i)/\m=Crc.run (4294967295-n) ((wl s).take i)/\m<4294967296/\Below W1.heap.size W1 wr) (s.size) ?_ ?_))
 . (
 obtain ⟨s1,s5,s6,aZ,J0⟩:=sS
 exact ⟨0,_,rfl,Nat.zero_le _,hf,s1,s5,s6,aZ,J0,rfl,oM,Below.refl _ _⟩)
 . (
 clear hf sS
 rintro gk fr wr ⟨i,m,hk,hi,hf,s1,s5,s6,aZ,J0,hm,y2j,hb⟩
 have HK:=H9 hk;have HM:=H9 hm;clear hk hm
 refine Ze fun _ j8=>Zr [] hf ?_
 refine J3 1 5 6 12 13 14 hf ?_
 clear hf s1 s5 s6 aZ J0;intro a7 hf sS
 refine Zs j8 fun _ j8=>Fc.l0 sS.2.2.2.2.2 (fun hq=> ?_) (fun hq=> ?_)
 . (
 have n8:i<s.size:=qT
 clear hq
 obtain ⟨c,hc⟩:∃ c,at_ s i=c:=⟨_,rfl⟩
 have hc8:c<256:=by rw [<- hc];exact z0j s i
 have y8:Crc.run (4294967295-n) ((wl s).take (i+1))=Crc.nib (Crc.nib m (c%16)) (c / 16):=by rw [List.take_add_one,dQ n8,Option.toList_some,hc];unfold Crc.run at *;rw [List.foldl_append, <- HM.out];exact Crc.z8o m c hc8
 obtain ⟨m2,fU⟩:∃ x,Crc.nib (Crc.nib m (c%16)) (c / 16)=x:=⟨_,rfl⟩
 rw [fU] at y8
 have y2i:m2<4294967296:=by rw [<- fU];exact Crc.qJ _ _ (Crc.qJ _ _ y2j oM) oM
 obtain ⟨x,hx⟩:∃ x,c%16=x:=⟨_,rfl⟩
 obtain ⟨y,hy⟩:∃ y,c / 16=y:=⟨_,rfl⟩
 have hxy:x<16/\y<16:=oM
 have w9r:([x,y]:List Nat).foldl Crc.nib m=m2:=by rw [<- fU,hx,hy];rfl
 have hand:c &&& 15=x:=by rw [<- hx, <- w9t,Nat.mod_eq_of_lt hc8]
 have Z7:∀ q∈([x,y]:List Nat),q<16:=by intro q hq;simp at hq;rcases hq with rfl | rfl<;>omega
 have HC:=H9 hc;have HX:=H9 hx;have HY:=H9 hy;have HF:=H9 w9r;have HA:=H9 hand;have HSM:=H9 Z7;have X9:=H9 y8;clear hc hx hy w9r hand Z7 y8 fU
 have hxr:=(hb.block _ (j4 HX1.out)).trans HX1.out
 have HXR:=H9 hxr;clear hxr
 refine wp_skip (Zs j8 fun _ j8=>wp_block (Ze fun _ l6=>Zr [15] hf ?_))
 refine J3 1 5 6 7 12 13 hf ?_
 clear hf sS;intro a7 hf sS
 refine Zx l6 ?_
 obtain ⟨s1,s5,s6,s7,aZ,J0⟩:=sS
 refine Sb.tb 31 fun a8=> ?_
 apply Sb.tq 0 _ hf a8
 . (
 intro a7 w1 hh hd hk K Z
 have s5:=Sb.O hh s5
 clear hd
 exact wp_load_row 222 _ rfl W0.heap.size (Fc.k7 s5) 222 _ (0,0) _ ((hh.ext.block _ (j4 HXR.out)).trans HXR.out) Tryz.underlying222 rfl kR (Z.out _ rfl _ _ (Below.refl _ _) rfl))
 refine Sb.mvP (k:=1) (j:=12) s6 hf.size a8.out rfl rfl rfl (.inl rfl) [] kR kR ?_
 refine Sb.mO 2 s1 hf a8 ?_
 refine Sb.mO 3 s7 hf a8 ?_
 apply Sb.tq 4 _ hf a8
 . (
 intro a7 w1 hh hd hk K Z
 have S2:=Sb.v 2 1 hd hk []
 have J6:=Sb.v 3 0 hd hk []
 clear hd
 go_simp
 try rw [HC.out]
 exact Sb.k Z)
 apply Sb.tq 5 _ hf a8
 . (
 intro a7 w1 hh hd hk K Z
 have M6:=Sb.v 4 0 hd hk []
 clear hd
 go_simp
 rw [show (15:Int)=((15:Nat):Int) from rfl,u8_and_nat c 15 hc8 dC,HA.out]
 exact Sb.k Z)
 refine Sb.mO 6 s1 hf a8 ?_
 refine Sb.mO 7 s7 hf a8 ?_
 apply Sb.tq 8 _ hf a8
 . (
 intro a7 w1 hh hd hk K Z
 have U9:=Sb.v 6 1 hd hk []
 have S1:=Sb.v 7 0 hd hk []
 clear hd
 go_simp
 try rw [HC.out]
 exact Sb.k Z)
 apply Sb.tq 9 _ hf a8
 . (
 intro a7 w1 hh hd hk K Z
 have gF:=Sb.v 8 0 hd hk []
 clear hd
 go_simp
 rw [show (c:Int) / 16=((c / 16:Nat):Int) by omega,HY.out]
 exact Sb.k Z)
 refine Sb.E8 (k:=10) (n:=31) (PB2 x y) hf.size a8.out rfl (PB2.u5 x y) ?_ ?_
 . (
 intro a7 w1 hh hd hk K Z
 refine Sb.pl ?_
 have N6:=Sb.v 5 4 hd hk []
 have bQ:=Sb.v 9 0 hd hk []
 clear hd
 go_simp
 exact Z.out _ rfl _ _ ((Below.refl _ _).alloc nR _) (PB2.new _ _ _ _))
 apply Sb.tq 11 _ hf a8
 . (
 intro a7 w1 hh hd hk K Z
 have tZ:=Sb.v 0 10 hd hk []
 have N7:=Sb.v 1 9 hd hk []
 obtain ⟨x26,Z1,u5b⟩:=Sb.use (j:=10) (m:=0) hd hk rfl [] kR rfl rfl rfl
 obtain ⟨b26,rfl,u5a⟩:=u5b
 clear hd
 go_simp
 go_at_call 140;refine (u5g w1 m y2j [x,y] sP b26 2 u5a HSM.out).mono ?_;rintro e w2 ⟨rfl,hb⟩
 rw [HF.out]
 exact Z.out _ rfl _ _ hb rfl)
 refine Sb.mN 12 11 0 hf a8 [] ?_
 refine Sb.E hf a8 (fun _ _ h g=>ad (Sb.O h s1) (ad (Sb.O h s5) (ad (Sb.f 12 0 g) (ad (Sb.O h aZ) (Sb.O h J0))))) ?_
 clear hf a8 s1 s5 s6 s7 aZ J0;intro a7 w1 hf hx sS
 refine Fc.j7 (Zx j8 (Zr [28] hf ?_))
 refine D0 1 5 6 12 13 hf ?_
 clear hf sS;intro a7 hf sS
 refine Fc.j6 ?_
 obtain ⟨s1,s5,s6,aZ,J0⟩:=sS
 exact ⟨_,by have:=HK.out;omega,i+1,m2,rfl,oM,hf,s1,s5,s6,aZ,by rw [J0];rfl,X9.out.symm,y2i,hb.trans (hx.mono hb.size)⟩)
 . (
 have F3:i=s.size:=qF
 have hme:m=Crc.run (4294967295-n) (wl s):=by have h9:=HM.out;rwa [F3,List.take_of_length_le (by rw [l9];omega)] at h9
 have HME:=H9 hme;clear hme F3 hq
 refine Zo ?_
 refine Zt b7 fun _ b7=> ?_
 have bB:=hf.B2 29 30
 refine Zy ?_
 refine fp fun K Z=> ?_
 go_simp
 rw [w9s y2j]
 apply Z.out;clear Z K
 refine Zy ?_
 refine Fc.nil (r6 4 hf ?_)
 clear hf sS bB;intro a7 hf s4
 refine Zx b7 (k8 ?_)
 exact Fc.o9 rfl hf s4 ⟨by rw [HME.out],n7.trans (hb.mono n7.size)⟩))
theorem v6o (w:World) (s:ByteArray) (F7:s.size<=1000000000):G4 w 63 #[.string s] (.int .u32 (Crc.sum (wl s):Nat)):=by
 refine S8 5 Tryz.func63 fun fr hf s0=> ?_
 refine Ze fun _ b7=>Zr [] hf ?_
 refine r6 0 hf ?_
 clear hf s0;intro a7 hf s0
 refine Zt b7 fun _ b7=> ?_
 have bB:=hf.B2 3 4
 refine Zy ?_
 refine Zc (w5r w 0 dC s F7) ?_;rintro e w1 ⟨rfl,n7⟩
 refine Zv ?_
 refine Zy ?_
 refine Fc.nil (r6 2 hf ?_)
 clear hf s0 bB;intro a7 hf s2
 refine Zx b7 (k8 ?_)
 exact Fc.o9 rfl hf s2 ⟨rfl,n7⟩
theorem z0a {o:Oper} {a:Act} {w:World} {K:Act->World->Prop} {Q:Exit->Act->World->Prop} (x:Operand) (s:ByteArray) (ho:o.op= .convert 9 31 x) (hx:a.eval x= .string s) (hs:s.size<=maxLen)
  (h:∀ v w',OM w' w.heap.size v (wl s)->Below w.heap.size w w'->K (a.put o.dst v) w'):Oper.wp Tryz.prog o a w K Q:=by
 obtain ⟨v,w',hr,yD,hb⟩:=y7o w s hs
 unfold Oper.wp execOp
 simp only [ho,hx,Sem.run_bind,hr,Result.andThen_ok,Sem.run_pure]
 exact h v w' yD hb
theorem y7j {n i:Nat} (h:i<4):(Crc.four n).take (i+1)=(Crc.four n).take i++[n / 256^i%256]:=by
 rcases i with _ | _ | _ | _ | i<;>first | rfl | omega | (simp [Crc.four])
theorem qM (s:ByteArray) (i j:Nat):wl (s.extract i j)=((wl s).take j).drop i:=by
 unfold wl
 rw [ByteArray.data_extract,Array.toList_extract, <- List.map_take, <- List.map_drop,List.drop_take]
theorem w5q {s:ByteArray} {n:Nat}:s.extract 0 n=bl ((wl s).take n):=by
 refine eM ?_
 rw [qM,cB (fun x hx=>dR _ x (List.mem_of_mem_take hx)),List.drop_zero]
theorem x4o {a b:ByteArray} (h:(!(a.toList==b.toList))=false):a=b:=by
 have h1:a.toList=b.toList:=by simpa using h
 refine eM ?_
 unfold wl
 rw [<- ByteArray.toList_eq, <- ByteArray.toList_eq,h1]
theorem z3z (n:Nat):Small (Crc.four n):=by
 intro x hx
 simp [Crc.four] at hx
 rcases hx with rfl | rfl | rfl | rfl<;>omega
theorem qN {l:List Nat} (h:Small l):Small (Crc.D2 l):=h.append (z3z _)
def openR:Option (List Nat)->ByteArray×Bool
 | none=>(⟨#[]⟩,false)
 | some l=>(bl l,true)
theorem z3y {l:List Nat} (h:l.length<4):Crc.opened l=none:=by
 unfold Crc.opened
 rw [if_neg (by omega)]
theorem y2f {l:List Nat} {m:Nat} (h:l.length=m+4) (hn:¬ Crc.D2 (l.take m)=l):Crc.opened l=none:=by
 unfold Crc.opened
 rw [h,Nat.add_sub_cancel,if_neg (fun h=>hn h.2)]
theorem y2e {l:List Nat} {m:Nat} (h:l.length=m+4) (hn:Crc.D2 (l.take m)=l):Crc.opened l=some (l.take m):=by
 unfold Crc.opened
 rw [h,Nat.add_sub_cancel,if_pos ⟨oM,hn⟩]
theorem y2d (w:World) (s:ByteArray) (t0z:s.size<=900000000):G4 w 37 #[.string s] (.string (bl (Crc.D2 (wl s)))):=by
 have F7:s.size<=1000000000:=oM
 refine S8 24 Tryz.func37 fun fr hf s0=> ?_
 refine Ze fun _ b7=>Zr [] hf ?_
 refine r6 0 hf ?_
 clear hf s0;intro a7 hf s0
 refine Zt b7 fun _ b7=> ?_
 have bB:=hf.B2 6 7
 refine Zy ?_
 clear bB
 refine Fc.lQ (n:=24) (by simp only [Fc.G,hf.size]) hf.defers (fun a7 u3 hT=> ?_)
 have G9:=Fc.h2 hT 0 6
 simp (decide:=true) only [Fc.G,hf.size,reduceIte,s0] at G9
 replace hf:=u3;clear hT u3 s0
 obtain ⟨s0,s6⟩:=G9
 have bB:=hf.b 7
 refine ⟨?_⟩
 refine wpList_plain rfl fun KL tY=> ?_
 refine z0a _ s rfl (Fc.k7 s6) (by unfold maxLen;omega) (fun v1 w1 v6n n7=>tY _ _ ?_)
 refine Fc.L.out ?_
 refine Zy ?_
 refine Fc.nil (C1 0 3 hf ?_)
 clear hf s0 s6 bB;intro a7 hf sS
 have u4z:OX w1 w.heap.size v1 (wl s):= .inr v6n
 clear v6n
 refine Zt b7 fun _ b7=> ?_
 have bB:=hf.B2 8 9
 refine Zy ?_
 refine Zc (v6o w1 s F7) ?_;rintro e w2 ⟨rfl,r9⟩
 have u4y:=u4z.later r9
 have z9r:=n7.trans (r9.mono n7.size)
 obtain ⟨n,hn⟩:∃ n,Crc.sum (wl s)=n:=⟨_,rfl⟩
 have t0y:n<4294967296:=by rw [<- hn];exact Crc.y2q _
 rw [hn]
 have HN:=H9 hn;clear hn
 refine Zv ?_
 refine Zy ?_
 refine Fc.nil (C1 3 4 hf ?_)
 clear hf sS bB;intro a7 hf sS
 refine Zs b7 fun _ b7=>Ze fun _ j8=>Zr [] hf ?_
 refine B1 3 4 10 hf ?_
 clear hf sS;intro a7 hf sS
 refine Zx j8 (wp_block (wp_loop_ghost (fun gk fr wr=>∃ (i:Nat) (V:Value),gk=4-i/\i<=4/\Fc.Fr 24 fr/\fr.tmps[3]? =some V/\fr.tmps[4]? =some (.int .u32 n)/\fr.tmps[10]? =some (.int .i64 i)/\OX wr w.heap.size V (wl s++(Crc.four n).take i)/\Below w.heap.size w wr) (4) ?_ ?_))
 . (
 obtain ⟨s3,s4,y4⟩:=sS
 exact ⟨0,_,rfl,oM,hf,s3,s4,y4,by rw [List.take_zero,List.append_nil];exact u4y,z9r⟩)
 . (
 clear hf sS
 rintro gk fr wr ⟨i,V,hk,hi,hf,s3,s4,y4,hox,hb⟩
 have HK:=H9 hk;clear hk
 refine Ze fun _ j8=>Zr [] hf ?_
 refine C0 3 4 10 11 hf ?_
 clear hf s3 s4 y4;intro a7 hf sS
 refine Zs j8 fun _ j8=>Fc.l0 sS.2.2.2 (fun hq=> ?_) (fun hq=> ?_)
 . (
 have n8:i<4:=qT
 clear hq
 obtain ⟨d,hd⟩:∃ d,n / 256^i=d:=⟨_,rfl⟩
 obtain ⟨x8,yC⟩:∃ x,d%256=x:=⟨_,rfl⟩
 have y8:(Crc.four n).take (i+1)=(Crc.four n).take i++[x8]:=by rw [<- yC, <- hd];exact y7j n8
 have HD:=H9 hd;have HX:=H9 yC;have X9:=H9 y8;clear hd yC y8
 have hl9:(wl s++(Crc.four n).take i).length<=1000000000:=by rw [List.length_append,l9,List.length_take];omega
 refine wp_skip (Zs j8 fun _ j8=>wp_block (Ze fun _ l6=>Zr [12] hf ?_))
 refine C0 3 4 5 10 hf ?_
 clear hf sS;intro a7 hf sS
 refine Zx l6 (rg ?_)
 have bB:=hf.B8 13 14 15 16 17 18 19 20
 iterate 4 refine Zy ?_
 refine fp fun K Z=> ?_
 go_simp
 rw [z0c,HD.out]
 apply Z.out;clear Z K
 refine fp fun K Z=> ?_
 go_simp
 rw [y2m,HX.out]
 apply Z.out;clear Z K
 refine Zy ?_
 obtain ⟨s3,s4,s5,y4⟩:=sS
 clear bB
 refine Fc.lQ (n:=24) (by simp only [Fc.G,hf.size]) hf.defers (fun a7 u3 hT=> ?_)
 have G9:=Fc.h5 hT 3 4 10 13 19
 simp (decide:=true) only [Fc.G,hf.size,reduceIte,s3,s4,y4] at G9
 replace hf:=u3;clear hT u3 s3 s4 s5 y4
 obtain ⟨s3,s4,y4,J0,J6⟩:=G9
 have bB:=hf.b 20
 refine ⟨?_⟩
 refine wpList_plain rfl fun KL tY=> ?_
 refine x4v _ _ rfl w.heap.size V _ (Fc.k7 J0) (hox.later ((Below.refl _ _).alloc nR _)) wr.heap.size x8 (Fc.k7 J6) (by rw [n5 0 (heap_alloc_new wr _)];rfl) hl9 (by have:=hb.size;simp;omega) (fun v8 w8 v6m hg8=>tY _ _ ?_)
 refine Fc.L.out ?_
 refine Zy ?_
 refine Fc.nil (B1 3 4 10 hf ?_)
 clear hf s3 s4 y4 J0 J6 bB;intro a7 hf sS
 have dZ:=(hb.alloc hb.size _).grown hg8 (by have:=hb.size;simp;omega) (fun kk S3=>(hox.lt kk S3).1)
 rw [List.append_assoc, <- X9.out] at v6m
 refine Fc.j7 (Zx j8 (Zr [21] hf ?_))
 refine B1 3 4 10 hf ?_
 clear hf sS;intro a7 hf sS
 refine Fc.j6 ?_
 obtain ⟨s3,s4,y4⟩:=sS
 exact ⟨_,by have:=HK.out;omega,i+1,v8,rfl,oM,hf,s3,s4,by rw [y4];rfl,v6m,dZ⟩)
 . (
 have F3:i=4:=qF
 subst F3
 rw [show (Crc.four n).take 4=Crc.four n from rfl] at hox
 have xH:=OX.conv hox
 have z8:wl s++Crc.four n=Crc.D2 (wl s):=by unfold Crc.D2;rw [HN.out]
 rw [z8] at xH
 clear hq z8
 refine Zo ?_
 refine Zs b7 fun _ b7=>Zr [22,23] hf ?_
 refine r6 2 hf ?_
 clear hf sS;intro a7 hf s2
 refine Zx b7 (k8 ?_)
 exact Fc.o9 rfl hf s2 ⟨rfl,hb⟩))
theorem z3x (w:World) (s:ByteArray) (F7:s.size<=900000000):G4 w 31 #[.string s] (.tuple #[.string (openR (Crc.opened (wl s))).1,.bool (openR (Crc.opened (wl s))).2]):=by
 refine S8 21 Tryz.func31 fun fr hf s0=> ?_
 refine Ze fun _ b7=>Zr [] hf ?_
 refine r6 0 hf ?_
 clear hf s0;intro a7 hf s0
 refine Zx b7 ?_
 rcases Nat.lt_or_ge s.size 4 with h4 | h4
 . (
 have q1:decide ((s.size:Int)-4<0)=true:=decide_eq_true oM
 refine Ze fun _ b7=>Zr [5,6,7] hf ?_
 refine C1 0 4 hf ?_
 clear hf s0;intro a7 hf sS
 refine Zs b7 fun _ b7=>Ze fun _ j8=>rg ?_
 have bB:=hf.B9 8 9 10 11 12 13 14 15 16
 iterate 3 refine Zy ?_
 refine Zk ?_ (hv:=by simp (decide:=true) only [Fc.G,reduceIte,hf.size,Fc.N,q1,Fc.N])
 refine Zk ?_ (hv:=by simp (decide:=true) only [Fc.G,reduceIte,hf.size,Fc.N,q1,Fc.N])
 refine Zk ?_ (hv:=by simp (decide:=true) only [Fc.G,reduceIte,hf.size,Fc.N,q1,Fc.N])
 refine Zk ?_ (hv:=by simp (decide:=true) only [Fc.G,reduceIte,hf.size,Fc.N,q1,Fc.N])
 refine Zk ?_ (hv:=by simp (decide:=true) only [Fc.G,reduceIte,hf.size,Fc.N,q1,Fc.N])
 refine Zk ?_ (hv:=by simp (decide:=true) only [Fc.G,reduceIte,hf.size,Fc.N,q1,Fc.N])
 refine Zy ?_
 refine Fc.nil (B1 0 4 17 hf ?_)
 clear hf sS bB;intro a7 hf sS
 refine Zx j8 (Fc.l8 sS.2.2 ?_)
 refine Ze fun _ j8=>Zr [] hf ?_
 refine C1 2 3 hf ?_
 clear hf sS;intro a7 hf sS
 refine Zx j8 (k8 ?_)
 refine Fc.U6 rfl hf sS.1 sS.2 ⟨?_,Below.refl _ _⟩
 rw [z3y (by rw [l9];exact h4)]
 rfl)
 . (
 obtain ⟨m,hm⟩:∃ m,s.size=m+4:=⟨s.size-4,oM⟩
 have nS:(s.size:Int)-4=(m:Int):=oM
 have q1:decide ((m:Int)<0)=false:=decide_eq_false oM
 have aF:s.extract 0 m=bl ((wl s).take m):=w5q
 obtain ⟨p,hp⟩:∃ p,bl ((wl s).take m)=p:=⟨_,rfl⟩
 have hpw:wl p=(wl s).take m:=by rw [<- hp];exact cB (fun x hx=>dR s x (List.mem_of_mem_take hx))
 have S4:p.size<=900000000:=by rw [<- l9 p,hpw,List.length_take];omega
 have HML:=H9 nS;have HM:=H9 hm;have HBL:=H9 (aF.trans hp);have HPW:=H9 hpw;clear nS aF hp hpw hm
 refine Ze fun _ b7=>rg ?_
 have bB:=hf.B3 5 6 7
 iterate 2 refine Zy ?_
 refine fp fun K Z=> ?_
 go_simp
 try simp (disch:=omega) only [Fc.W]
 try simp (disch:=omega) only [Fc.W]
 rw [HML.out]
 apply Z.out;clear Z K
 refine Zy ?_
 refine Fc.nil (C1 0 4 hf ?_)
 clear hf s0 bB;intro a7 hf sS
 refine Zs b7 fun _ b7=>Ze fun _ j8=>rg ?_
 have bB:=hf.B9 8 9 10 11 12 13 14 15 16
 iterate 3 refine Zy ?_
 refine Zg ?_ (hv:=by simp (decide:=true) only [Fc.G,reduceIte,hf.size,q1,Fc.N])
 refine Zg ?_ (hv:=by simp (decide:=true) only [Fc.G,reduceIte,hf.size,q1,Fc.N])
 refine og 2 10 false ?_ fun K Z=> ?_
 . (
 simp (decide:=true) only [Fc.G,reduceIte,hf.size,q1,Fc.N])
 go_simp
 try rw [if_pos (by have:=HM.out;omega)]
 try rw [Oper.upon_value]
 rw [HBL.out]
 apply Z.out;clear Z K
 refine og 2 10 false ?_ fun K Z=> ?_
 . (
 simp (decide:=true) only [Fc.G,reduceIte,hf.size,q1,Fc.N])
 go_simp
 go_at_call 37;refine (y2d w p S4).mono ?_;rintro e w1 ⟨rfl,n7⟩
 rw [HPW.out]
 generalize hq9:bl (Crc.D2 ((wl s).take m))=q
 have HQ:=H9 hq9;clear hq9
 try dsimp only
 apply Z.out;clear Z K
 refine Zg ?_ (hv:=by simp (decide:=true) only [Fc.G,reduceIte,hf.size,q1,Fc.N])
 refine Zg ?_ (hv:=by simp (decide:=true) only [Fc.G,reduceIte,hf.size,q1,Fc.N])
 refine Zy ?_
 refine Fc.nil (B1 0 4 17 hf ?_)
 clear hf sS bB;intro a7 hf sS
 refine Zx j8 (Fc.l0 sS.2.2 (fun hq=> ?_) (fun hq=> ?_))
 . (
 have E6:¬ (Crc.D2 ((wl s).take m)=wl s):=fun e=>by have h9:=HQ.out;rw [e,z0e] at h9;rw [h9] at hq;simp at hq
 have HNE:=H9 E6;clear E6 hq
 refine Ze fun _ j8=>Zr [] hf ?_
 refine C1 2 3 hf ?_
 clear hf sS;intro a7 hf sS
 refine Zx j8 (k8 ?_)
 refine Fc.U6 rfl hf sS.1 sS.2 ⟨?_,n7⟩
 rw [y2f (m:=m) (by rw [l9];exact HM.out) HNE.out]
 rfl)
 . (
 have heq:Crc.D2 ((wl s).take m)=wl s:=by have h8:q=s:=x4o hq;have h9:=HQ.out;rw [h8] at h9;have h7:=congrArg wl h9;rw [cB (qN (fun x hx=>dR s x (List.mem_of_mem_take hx)))] at h7;exact h7
 have HEQ:=H9 heq;clear heq hq
 refine wp_skip (Zt b7 fun _ b7=> ?_)
 have bB:=hf.B3 18 19 20
 iterate 2 refine Zy ?_
 refine fp fun K Z=> ?_
 go_simp
 try rw [if_pos (by have:=HM.out;omega)]
 try rw [Oper.upon_value]
 rw [HBL.out]
 apply Z.out;clear Z K
 iterate 2 refine Zy ?_
 refine Fc.nil (C1 2 3 hf ?_)
 clear hf sS bB;intro a7 hf sS
 refine Zx b7 (k8 ?_)
 refine Fc.U6 rfl hf sS.1 sS.2 ⟨?_,n7⟩
 rw [y2e (m:=m) (by rw [l9];exact HM.out) HEQ.out]
 simp only [openR]
 rw [<- HPW.out,z0e]))
theorem w5p (W:World) (g k:Nat) (hk:k<=9):(Instr.sliceAt 182 (.pointer (some ⟨g,0,none⟩)) none (some (.int .i64 (k:Int))) none).run Tryz.prog W= .ok (.slice (some ⟨g,0,none⟩) k 9) W:=by
 have ha:Tryz.prog.arrayLen 182=9:=kR
 have hs:∀ W:World,(sizeOf (Tryz.prog.elem 182)).run Tryz.prog W= .ok 1 W:=fun W=>by kernel_rfl
 rw [run_sliceAt_array_h (P:=Tryz.prog) W 182 ⟨g,0,none⟩ kR .i64 (k:Int) oM (by rw [ha];omega),hs,ha]
 simp [slicedAt,Result.andThen,Addr.add]
theorem x4n {l:List Nat} (h:l.length=9):∃ x0 x1 x2 x3 x4 x5 x6 x7 x8,l=[x0,x1,x2,x3,x4,x5,x6,x7,x8]:=by
 match l,h with
 | [x0,x1,x2,x3,x4,x5,x6,x7,x8],_=>exact ⟨x0,x1,x2,x3,x4,x5,x6,x7,x8,rfl⟩
theorem y2b {x0 x1 x2 x3 x4 x5 x6 x7 x8 k:Nat}:(lcs [x0,x1,x2,x3,x4,x5,x6,x7,x8] k).toArray= #[.int .u8 x0,.int .u8 x1,.int .u8 x2,.int .u8 x3,.int .u8 x4,.int .u8 x5,.int .u8 x6,.int .u8 x7,.int .u8 x8,.int .i64 k]:=rfl
theorem y2a {n i:Nat} (h:i<(r8 n).length):(iK n)[i]? =(r8 n)[i]? :=by
 unfold iK
 rw [List.getElem?_append_left h]
theorem y7i {w:World} {g n j:Nat} {u:Value} {t:TypeId} (h:w.heap[g]? =some (.cells (lcs (iK n) (r8 n).length).toArray t (0,0))) (hu:(oK (r8 n))[j]? =some u):w.cell? ⟨g,j,none⟩=some u:=by
 have hj:j<(r8 n).length:=by have:=(E2 hu).1;rwa [dA] at this
 unfold oK at hu
 rw [List.getElem?_map,D9 hj] at hu
 injection hu with hu
 rw [<- hu]
 exact yB h (by rw [y2a hj,D9 hj])
theorem iL:∀ (l:List Nat),(∀ n∈l,n<y5)->(E4 l).length<=9*l.length
 | [],_=>by simp [E4]
 | x::l,h=>by
  have h1:=iL l (fun n hn=>h n (List.mem_cons_of_mem _ hn))
  have h2:=K4 (h x (List.mem_cons_self ..))
  have e:E4 (x::l)=r8 x++E4 l:=by simp [E4]
  rw [e,List.length_append,List.length_cons]
  omega
theorem yE (l:List Nat) (i:Nat) (h:∀ n∈l,n<y5):(E4 (l.take i)).length<=9*l.length:=by
 have:=iL (l.take i) (fun n hn=>h n (List.mem_of_mem_take hn))
 have h2:(l.take i).length<=l.length:=sO
 omega
theorem w9q (n:Nat) (hn:n<y5) (w:World):G4 w 101 #[.int .u64 n] (.agg (lcs (iK n) (r8 n).length).toArray):=by
 rcases Nat.lt_or_ge n 248 with h | h
 ·exact y7l w n h
 ·exact x4s w n h hn
theorem w5o (w:World) (n:Nat) (hn:n<y5):G4 w 137 #[.int .u64 n] (.int .i64 (r8 n).length):=by
 refine S8 6 Tryz.func137 fun fr hf s0=> ?_
 refine Ze fun _ b7=>Zr [] hf ?_
 refine r6 0 hf ?_
 clear hf s0;intro a7 hf s0
 refine Zt b7 fun _ b7=> ?_
 have bB:=hf.B3 3 4 5
 refine Zy ?_
 refine Zc (w9q n hn w) ?_;rintro e w1 ⟨rfl,n7⟩
 obtain ⟨x0,x1,x2,x3,x4,x5,x6,x7,x8,hx⟩:=x4n (bL hn)
 rw [hx,y2b]
 clear hx
 refine Zv ?_
 iterate 2 refine Zy ?_
 refine Fc.nil (r6 2 hf ?_)
 clear hf s0 bB;intro a7 hf s2
 refine Zx b7 (k8 ?_)
 exact Fc.o9 rfl hf s2 ⟨rfl,n7⟩
theorem v6k (w:World) (ns:List Nat) (v:Value) (N3:RN w w.heap.size v ns) (hlen:ns.length<=1000) (Z7:∀ n∈ns,n<y5):G4 w 62 #[v] (.string (bl (E4 ns))):=by
 refine S8 24 Tryz.func62 fun fr hf s0=> ?_
 have u4u:=N3
 obtain ⟨A,cc,rfl⟩:=N3.form
 clear N3
 have HSM:=H9 Z7;clear Z7
 refine Ze fun _ b7=>Zr [] hf ?_
 refine r6 0 hf ?_
 clear hf s0;intro a7 hf s0
 refine Zs b7 fun _ b7=>Zr [] hf ?_
 refine C1 0 3 hf ?_
 clear hf s0;intro a7 hf sS
 refine Zs b7 fun _ b7=>Ze fun _ j8=>Zr [7] hf ?_
 refine C0 3 7 8 9 hf ?_
 clear hf sS;intro a7 hf sS
 refine Zx j8 (wp_block (wp_loop_ghost (fun gk fr wr=>∃ (i:Nat) (Vb:Value),gk=ns.length-i/\i<=ns.length/\Fc.Fr 24 fr/\fr.tmps[7]? =some (.slice A ns.length cc)/\fr.tmps[8]? =some (.int .i64 ns.length)/\fr.tmps[9]? =some (.int .i64 i)/\fr.tmps[3]? =some Vb/\OB wr w.heap.size Vb (E4 (ns.take i))/\Below w.heap.size w wr) (ns.length) ?_ ?_))
 . (
 obtain ⟨s3,s7,s8,s9⟩:=sS
 exact ⟨0,_,rfl,Nat.zero_le _,hf,s7,s8,s9,s3,OB.S0 _ _,Below.refl _ _⟩)
 . (
 clear hf sS
 rintro gk fr wr ⟨i,Vb,hk,hi,hf,s7,s8,s9,s3,how,hb⟩
 have HK:=H9 hk;clear hk
 refine Ze fun _ j8=>Zr [] hf ?_
 refine D0 3 7 8 9 10 hf ?_
 clear hf s3 s7 s8 s9;intro a7 hf sS
 refine Zs j8 fun _ j8=>Fc.l0 sS.2.2.2.2 (fun hq=> ?_) (fun hq=> ?_)
 . (
 have n8:i<ns.length:=qT
 clear hq
 obtain ⟨n,K0⟩:∃ n,ns[i]? =some n:=⟨_,D9 n8⟩
 obtain ⟨b,off,rfl,qP,c0⟩:=(u4u.below hb).at_ K0
 have hn:=HSM.out n (U0 K0)
 have y8:=z4a K0
 obtain ⟨xs,gP⟩:∃ x,E4 (ns.take i)=x:=⟨_,rfl⟩
 have hxl:xs.length<=9*ns.length:=by rw [<- gP];exact yE ns i HSM.out
 rw [gP] at how y8
 have X9:=H9 y8;have HXS:=H9 gP;have HIN:=H9 K0;clear y8 gP K0
 obtain ⟨A5,c5,hv5,_⟩:=A1 how
 subst hv5
 have hnl:=bL hn
 have hn9:=K4 hn
 refine wp_skip (Zs j8 fun _ j8=>wp_block (Ze fun _ l6=>Zr [11,12] hf ?_))
 refine D0 3 5 7 8 9 hf ?_
 clear hf sS;intro a7 hf sS
 refine Zt l6 fun _ l6=> ?_
 have bB:=hf.B3 13 14 6
 refine Zy ?_
 refine Zc (w9q n hn wr) ?_;rintro e w2 ⟨rfl,r9⟩
 have Q3:=l5 how r9
 have z9r:=hb.trans (r9.mono hb.size)
 refine Zv ?_
 refine Zy ?_
 obtain ⟨s3,s5,s7,s8,s9⟩:=sS
 clear bB
 refine Fc.lQ (n:=24) (by simp only [Fc.G,hf.size]) hf.defers (fun a7 u3 hT=> ?_)
 have G9:=Fc.h6 hT 3 6 7 8 9 14
 simp (decide:=true) only [Fc.G,hf.size,reduceIte,s3,s7,s8,s9] at G9
 replace hf:=u3;clear hT u3 s3 s5 s7 s8 s9
 obtain ⟨s3,s6,s7,s8,s9,fW⟩:=G9
 refine ⟨?_⟩
 refine wpList_plain rfl fun KL tY=> ?_
 refine wp_store_row 184 _ _ rfl w2.heap.size _ (Fc.k7 s6) (Fc.k7 fW) 184 _ (heap_alloc_new w2 _) (by rw [Y3 hnl];kernel_rfl) (by rw [Y3 hnl];rfl) (yA _ _) (tY _ _ ?_)
 rw [World.setRow_alloc_new]
 refine Fc.L.out ?_
 refine Fc.nil (D0 3 6 7 8 9 hf ?_)
 clear hf s3 s6 s7 s8 s9 fW;intro a7 hf sS
 generalize kB:w2.alloc (.cells (lcs (iK n) (r8 n).length).toArray 184)=W3
 have hx3:W3.heap[w2.heap.size]? =some (.cells (lcs (iK n) (r8 n).length).toArray 184 (0,0)):=by rw [<- kB];exact heap_alloc_new w2 _
 have D4:Below w2.heap.size w2 W3:=by rw [<- kB];exact (Below.refl _ _).alloc nR _
 clear kB
 have aA:=l5 Q3 D4
 have w5n:=z9r.trans (D4.mono z9r.size)
 have z9:=qK hx3 hnl
 have hsl:=w5p W3 w2.heap.size (r8 n).length hn9.2
 refine Zx l6 (rg ?_)
 have bB:=hf.B6 15 16 17 18 19 20
 iterate 5 refine Zy ?_
 obtain ⟨s3,s6,s7,s8,s9⟩:=sS
 clear bB
 refine Fc.lQ (n:=24) (by simp only [Fc.G,hf.size]) hf.defers (fun a7 u3 hT=> ?_)
 have G9:=Fc.h6 hT 3 7 8 9 15 19
 simp (decide:=true) only [Fc.G,hf.size,reduceIte,s3,s7,s8,s9] at G9
 replace hf:=u3;clear hT u3 s3 s6 s7 s8 s9
 obtain ⟨s3,s7,s8,s9,s15,J6⟩:=G9
 have bB:=hf.b 20
 refine ⟨?_⟩
 refine wpList_plain rfl fun KL tY=> ?_
 refine xW _ _ 31 rfl 5 _ 1 1 Tryz.underlying31 fS rfl dC dC w.heap.size (.slice A5 xs.length c5) xs.length _ (Fc.k7 s15) aA _ (r8 n).length 9 (oK (r8 n)) (Fc.k7 J6) (by rw [dA,Nat.mul_one]) (fun _=>⟨w2.heap.size,0,rfl,fun j u hu=>by rw [Nat.zero_add];exact y7i hx3 hu⟩) (x4w _) oM w5n.size (fun v8 w8 hr8 hg8 t0w=>tY _ _ ?_)
 refine Fc.L.out ?_
 refine Zy ?_
 refine Fc.nil (C0 3 7 8 9 hf ?_)
 clear hf s3 s7 s8 s9 s15 J6 bB;intro a7 hf sS
 have dZ:=w5n.grown hg8 w5n.size (fun kk S3=>(World.ownsRow.lt aA kk S3).1)
 have u4t:OB w8 w.heap.size v8 (E4 (ns.take (i+1))):=by rw [X9.out];unfold OB;rw [Q2,List.length_append];exact hr8
 refine Fc.j7 (Zx j8 (Zr [21] hf ?_))
 refine C0 3 7 8 9 hf ?_
 clear hf sS;intro a7 hf sS
 refine Fc.j6 ?_
 obtain ⟨s3,s7,s8,s9⟩:=sS
 exact ⟨_,by have:=HK.out;omega,i+1,v8,rfl,oM,hf,s7,s8,by rw [s9];rfl,s3,u4t,dZ⟩)
 . (
 have F3:i=ns.length:=qF
 rw [F3,List.take_length] at how
 clear hq F3
 have xH:=OB.conv how
 refine Zo ?_
 refine Zs b7 fun _ b7=>Zr [22,23] hf ?_
 refine r6 2 hf ?_
 clear hf sS;intro a7 hf s2
 refine Zx b7 (k8 ?_)
 exact Fc.o9 rfl hf s2 ⟨rfl,hb⟩))
theorem z8l (s:ByteArray):Lib.strCells s=oK (wl s):=by
 unfold Lib.strCells oK wl
 rw [List.map_map]
 rfl
theorem z3w {w w':World} {base n:Nat} {v v':Value} {xs:List Value} {s:ByteArray} {i:TypeInfo} {ty:TypeId} (hi:Tryz.prog.info? 5=some i) (hz:i.zero=some (.int .u8 0)) (w9o:i.size=1) (hby:i.bytes=1)
  (F4:w.ownsRow base 5 1 v n xs) (hn:n+s.size<=1000000000) (hr:(Builtin.append_ #[31,9] ty #[v,.string s]).run Tryz.prog w= .ok v' w') (h0:v= .slice none 0 0->s.size=0->v'= .slice none 0 0):v'.ownBlock=v.ownBlock\/v'.ownBlock=some w.heap.size:=by
 have hxl:xs.length=n:=by simpa using F4.1
 rcases F4.2 with ⟨rfl,rfl⟩ | ⟨g,cap,cur,rfl,tF,hg,hnc,hcm,S6,w9n⟩
 ·by_cases hm:s.size=0
  ·rw [h0 rfl hm];exact .inl rfl
  ·have S5:=run_append_nil_string (P:=Tryz.prog) w 31 9 ty 5 i (.int .u8 0) Tryz.underlying31 Tryz.underlying9 hi hz s oM oM (by rw [hby];omega)
   rw [S5] at hr
   injection hr with h1 h2
   rw [<- h1]
   exact .inr rfl
 ·by_cases hroom:n+s.size<=cap
  ·have S5:=Lib.run_append_room_string (P:=Tryz.prog) w 31 9 ty 5 i Tryz.underlying31 Tryz.underlying9 hi w9o g n cap cur hg s hroom oM
   rw [S5] at hr
   injection hr with h1 h2
   rw [<- h1]
   exact .inl rfl
  ·have holds:∀ j u,xs[j]? =some u->w.cell? ((⟨g,0,none⟩:Addr).add j)=some u:=F4.cells (g:=g) rfl
   have S5:=Lib.run_append_grow_string (P:=Tryz.prog) w 31 9 ty 5 i (.int .u8 0) Tryz.underlying31 Tryz.underlying9 hi hz ⟨g,0,none⟩ n cap xs (by rw [w9o];simpa using hxl) holds s oM oM (by rw [hby];exact growslice_fits oM oM)
   rw [S5] at hr
   injection hr with h1 h2
   rw [<- h1]
   exact .inr rfl
theorem vQ {o:Oper} {a:Act} {w:World} {K:Act->World->Prop} {Q:Exit->Act->World->Prop} (sl x:Operand) (ho:o.op= .call { callee:= .builtin .append,args:= #[sl,x],argTypes:= #[31,9] })
  (base:Nat) (v:Value) (l:List Nat) (hs:a.eval sl=v) (F4:OB w base v l) (s:ByteArray) (hx:a.eval x= .string s) (hn:l.length+s.size<=1000000000) (bJ:base<=w.heap.size)
  (h:∀ v' w',OB w' base v' (l++wl s)->w.grownBy w' v.ownBlock->(v'.ownBlock=v.ownBlock\/v'.ownBlock=some w.heap.size)->K (a.put o.dst v') w'):Oper.wp Tryz.prog o a w K Q:=by
 obtain ⟨i0,hi,gE,fK,U4⟩:=info_parts fS
 obtain ⟨v',w',hr,h2,h3,h4⟩:=Lib.run_append_own_string (P:=Tryz.prog) w base 31 9 o.type 5 i0 Tryz.underlying31 Tryz.underlying9 hi gE fK U4 v l.length (oK l) F4 s (by unfold maxLen;omega) oM bJ
 have D3:=z3w hi gE fK U4 F4 hn hr (fun e1 e2=>h4.2 ⟨e1,e2⟩)
 unfold Oper.wp execOp
 simp only [ho,resolve,invoke,builtin,Sem.run_bind,Sem.run_pure,Result.andThen_ok,List.map_toArray,List.map_cons,List.map_nil,hs,hx,hr]
 refine h v' w' ?_ h3 D3
 unfold OB
 rw [Q2,List.length_append,l9, <- z8l]
 exact h2
/-! a writer: the box g holds the bytes' row bv, and other cells -/
def LW (w:World) (base g:Nat) (rest:List Value) (t:TypeId) (bv:Value) (l:List Nat):Prop:=w.heap[g]? =some (.cells (bv::rest).toArray t (0,0))/\OB w base bv l/\bv.ownBlock≠some g
def LF (w:World) (g:Nat) (bv:Value) (w1:World) (bv1:Value):Prop:=n4 (fun k=>k=g\/bv.ownBlock=some k) w w1/\(bv1.ownBlock=bv.ownBlock\/∃ k,bv1.ownBlock=some k/\w.heap.size<=k)
theorem LF.refl (w:World) (g:Nat) (bv:Value):LF w g bv w bv:=⟨n4.refl _ _,.inl rfl⟩
theorem LF.r5 {w w1:World} (g:Nat) (bv:Value) (h:Below w.heap.size w w1):LF w g bv w1 bv:=⟨n4.of _ h,.inl rfl⟩
theorem LF.trans {w w1 w2:World} {g:Nat} {bv b1 b2:Value} (h:LF w g bv w1 b1) (k:LF w1 g b1 w2 b2):LF w g bv w2 b2:=by
 refine ⟨⟨k.1.os.trans h.1.os,k.1.tape.trans h.1.tape,k.1.output.trans h.1.output,Nat.le_trans h.1.size k.1.size,fun i hi hn=> ?_⟩,?_⟩
 ·have h1:=h.1.block i hi hn
  have h2:=k.1.block i (Nat.lt_of_lt_of_le hi h.1.size) (fun e=>by
   rcases e with e | e
   ·exact hn (.inl e)
   ·rcases h.2 with h3 | ⟨q,h3,h4⟩
    ·exact hn (.inr (by rw [<- h3];exact e))
    ·rw [h3] at e;injection e with e;omega)
  exact h2.trans h1
 ·rcases k.2 with h3 | ⟨q,h3,h4⟩
  ·rcases h.2 with h5 | ⟨q,h5,h6⟩
   ·exact .inl (h3.trans h5)
   ·exact .inr ⟨q,h3.trans h5,h6⟩
  ·exact .inr ⟨q,h3,Nat.le_trans h.1.size h4⟩
theorem LF.cell {w w1:World} {g:Nat} {bv b1:Value} (h:LF w g bv w1 b1) {p:Addr} {v:Value} (hc:w.cell? p=some v) (hg:p.block≠g) (ho:bv.ownBlock≠some p.block):w1.cell? p=some v :=
 h.1.cell hc (fun e=>e.elim hg ho)
theorem LF.heap {w w1:World} {g k:Nat} {bv b1:Value} (h:LF w g bv w1 b1) {o:Obj} (hc:w.heap[k]? =some o) (hg:k≠g) (ho:bv.ownBlock≠some k):w1.heap[k]? =some o :=
 h.1.heap hc (fun e=>e.elim hg ho)
theorem LF.off {w w1:World} {g k:Nat} {bv b1:Value} (h:LF w g bv w1 b1) (hk:k<w.heap.size) (ho:bv.ownBlock≠some k):b1.ownBlock≠some k:=by
 rcases h.2 with h3 | ⟨q,h3,h4⟩
 ·rw [h3];exact ho
 ·rw [h3];intro e;injection e with e;omega
theorem LF.below {w w1:World} {g base:Nat} {bv b1:Value} (h:LF w g bv w1 b1) (hb:base<=w.heap.size) (hg:base<=g) (ho:∀ k,bv.ownBlock=some k->base<=k):Below base w w1 :=
 ⟨h.1.os,h.1.tape,h.1.output,h.1.size,fun k hk=>h.1.block k oM (fun e=>by
  rcases e with e | e
  ·omega
  ·have:=ho k e;omega)⟩
theorem LW.lo {w:World} {base g:Nat} {rest:List Value} {t:TypeId} {bv:Value} {l:List Nat} (h:LW w base g rest t bv l):∀ k,bv.ownBlock=some k->base<=k:=fun k hk=>(World.ownsRow.lt h.2.1 k hk).1
theorem LW.later {w w1:World} {base g:Nat} {rest:List Value} {t:TypeId} {bv:Value} {l:List Nat} (h:LW w base g rest t bv l) (hb:Below w.heap.size w w1):LW w1 base g rest t bv l:=⟨(hb.block g (j4 h.1)).trans h.1,l5 h.2.1 hb,h.2.2⟩
theorem LW.step {w w1 w4:World} {base g:Nat} {rest:List Value} {t:TypeId} {bv v4:Value} {l l4:List Nat} (h:LW w base g rest t bv l) (n7:Below w.heap.size w w1) (F4:OB w4 base v4 l4) (hg:w1.grownBy w4 bv.ownBlock) (D3:v4.ownBlock=bv.ownBlock\/v4.ownBlock=some w1.heap.size) (hz:w.heap.size<=w1.heap.size) :
  LW (w4.setCell ⟨g,0,none⟩ v4) base g rest t v4 l4/\LF w g bv (w4.setCell ⟨g,0,none⟩ v4) v4:=by
 have h1:=j4 h.1
 have kC:=(n7.block g h1).trans h.1
 have hx4:w4.heap[g]? =some (.cells (bv::rest).toArray t (0,0)):=(hg.block g (j4 kC) (fun e=>h.2.2 e.symm)).trans kC
 have E6:v4.ownBlock≠some g:=by
  rcases D3 with e | e
  ·rw [e];exact h.2.2
  ·rw [e];intro e2;injection e2 with e2;omega
 refine ⟨⟨?_,y7 F4 (n4.setCell (S:=fun k=>k=g) rfl _) (fun k hk e=>by subst e;exact E6 hk),E6⟩,?_,?_⟩
 ·have:=j5 (i:=0) hx4 v4
  rw [this]
  simp
 ·have hb:n4 (fun k=>k=g\/bv.ownBlock=some k) w w4:=(n4.of _ n7).trans ((n4.grown (S:=fun k=>k=g\/bv.ownBlock=some k) hg (fun k hk=> .inr hk)))
  exact hb.trans (n4.setCell (.inl rfl) _)
 ·rcases D3 with e | e
  ·exact .inl e
  ·exact .inr ⟨_,e,hz⟩
end Dw
end Go.Proofs.YtcddnmhmcieebaaGreatDoor
