/- Dawg: numbers as text, at base 36. -/
import Derived.Test.YtcddnmhmcieebaaGreatDoorY1
import Derived.WalkSmall
import Derived.Laws.BytesArg
import Derived.Test.YtcddnmhmcieebaaGreatDoorTools
import Derived.Maps.OwnSet
import Derived.Maps.Views
import Derived.StringKeys
namespace Go.Proofs.YtcddnmhmcieebaaGreatDoor
set_option maxHeartbeats 4000000
set_option maxRecDepth 100000
open Go.RowKit
set_option linter.unusedSimpArgs false
set_option linter.unusedVariables false
set_option linter.unnecessarySimpa false
namespace Dw
def dg (d:Nat):Nat:=if d<10 then 48+d else 87+d
def kE (n:Nat):List Nat:=if h:n<36 then [dg n] else kE (n / 36)++[dg (n%36)]
termination_by n
def strOf (l:List Nat):ByteArray:=⟨(l.map UInt8.ofNat).toArray⟩
def bs (l:List Nat):List UInt8:=l.map UInt8.ofNat
def num (n:Nat):List Nat:=kE n++[32]
theorem byteCells_length (l:List Nat):(Lib.byteCells (bs l)).length=l.length:=by simp [Lib.byteCells,bs]
theorem iR (l:List Nat):(strOf l).size=l.length:=by simp [strOf,ByteArray.size]
theorem y9b:∀ (k n:Nat),n<36^(k+1)->(kE n).length<=k+1
 | 0,n,h=>by rw [kE,dif_pos (by simpa using h)];simp
 | k+1,n,h=>by
  rw [kE]
  split
  ·simp
  ·have h2:n / 36<36^(k+1):=by
    rw [Nat.div_lt_iff_lt_mul oM]
    rw [Nat.pow_succ] at h
    exact h
   have:=y9b k (n / 36) h2
   simp
   omega
theorem iS (u:Nat) (hu:u<18446744073709551616):(kE u).length<=13:=y9b 12 u (by
 have:(36:Nat)^(12+1)=170581728179578208256:=dC
 omega)
theorem J1 (u:Nat) (hu:u<18446744073709551616):(num u).length<=14:=by have:=iS u hu;simp [num];omega
theorem y6i (l:List Nat) (u:Nat):Lib.byteCells (bs l)++Lib.strCells (strOf (kE u))++[.int .u8 32]=Lib.byteCells (bs (l++num u)):=by
 simp [Lib.byteCells,bs,Lib.strCells,strOf,num]
structure gH (w:World) (p i:Nat) (tl:List Nat):Prop where
 size:i+tl.length=65
 cells:∃ cs:Array Value,w.heap[p]? =some (.cells cs 255 (0,0))/\cs.size=65/\∀ (j x:Nat),tl[j]? =some x->cs[i+j]? =some (.int .u8 (x:Int))
theorem gH.start (w:World):gH (w.alloc (.cells Tryz.zeroCells255 255)) w.heap.size 65 [] :=
 ⟨rfl,_,heap_alloc_new w _,kR,fun j x h=>by simp at h⟩
theorem gH.frozen {w:World} {p i:Nat} {tl:List Nat} (h:gH w p i tl):∀ j:Nat,w.frozen? ⟨p,j,none⟩=false:=by
 obtain ⟨cs,h1,_⟩:=h.cells
 exact fun j=>j3 h1
theorem gH.cell {w:World} {p i:Nat} {tl:List Nat} (h:gH w p i tl) {j x:Nat} (hx:tl[j]? =some x):w.cell? ⟨p,i+j,none⟩=some (.int .u8 (x:Int)):=by
 obtain ⟨cs,h1,h2,h3⟩:=h.cells
 rw [cell_of_row _ _ (i+j) _ 255 (0,0) h1]
 exact h3 j x hx
theorem gH.any {w:World} {p i:Nat} {tl:List Nat} (h:gH w p i tl) {j:Nat} (hj:j<65):∃ v,w.cell? ⟨p,j,none⟩=some v:=by
 obtain ⟨cs,h1,h2,h3⟩:=h.cells
 exact ⟨cs[j],by rw [cell_of_row _ _ j _ 255 (0,0) h1];simp [h2,hj]⟩
theorem gH.put {w:World} {p i:Nat} {tl:List Nat} (h:gH w p i tl) (x:Nat) (hi:0<i):gH (w.setCell ⟨p,i-1,none⟩ (.int .u8 (x:Int))) p (i-1) (x::tl):=by
 obtain ⟨cs,h1,h2,h3⟩:=h.cells
 have hs:=h.size
 refine ⟨by simp only [List.length_cons];omega,_,j5 h1 _,by simpa using h2,fun j y hy=> ?_⟩
 cases j with
 | zero =>
  simp at hy
  subst hy
  rw [Nat.add_zero,Array.getElem?_setIfInBounds_self_of_lt oM]
 | succ j =>
  have:=h3 j y (by simpa using hy)
  rw [Array.getElem?_setIfInBounds_ne oM, <- this]
  congr 1
  omega
theorem y0m {u v n:Nat} (h:v*36^n<=u) (hu:u<18446744073709551616) (hv:1<=v):n<=12:=by
 rcases Nat.lt_or_ge n 13 with h2 | h2
 ·omega
 ·have h3:=Nat.pow_le_pow_right (show 0<36 by omega) h2
  have h4:36^n<=v*36^n:=Nat.le_mul_of_pos_left _ hv
  have h5:(36:Nat)^13=170581728179578208256:=dC
  omega
theorem wG:∀ d:Nat,∀ h:d<(⟨#[48,49,50,51,52,53,54,55,56,57,97,98,99,100,101,102,103,104,105,106,107,108,109,110,111,112,113,114,115,116,117,118,119,120,121,122]⟩:ByteArray).size,
  ((⟨#[48,49,50,51,52,53,54,55,56,57,97,98,99,100,101,102,103,104,105,106,107,108,109,110,111,112,113,114,115,116,117,118,119,120,121,122]⟩:ByteArray)[d]'h).toNat=dg d:=by
 intro d h
 have h36:d<36:=h
 have key:∀ x:Fin 36,((#[48,49,50,51,52,53,54,55,56,57,97,98,99,100,101,102,103,104,105,106,107,108,109,110,111,112,113,114,115,116,117,118,119,120,121,122]:Array UInt8)[x.val]'(x.isLt)).toNat=dg x.val:=dC
 exact key ⟨d,h36⟩
theorem y0l {u v q d:Nat} {tl:List Nat} (h:kE u=kE v++tl) (hv:36<=v) (hq:v / 36=q) (hd:v-36*q=d):kE u=kE q++dg d::tl:=by
 rw [h,kE,dif_neg (by omega),hq,show v%36=d by omega]
 simp
theorem y6h {u v q:Nat} {tl:List Nat} (x:Nat) (h:v*36^tl.length<=u) (hq:36*q<=v):q*36^(x::tl).length<=u:=by
 refine Nat.le_trans ?_ h
 rw [List.length_cons,Nat.pow_succ,Nat.mul_comm _ 36, <- Nat.mul_assoc,Nat.mul_comm q 36]
 exact Nat.mul_le_mul_right _ hq
theorem y0k (w:World) (p i:Nat) (hi:i<65):(Instr.sliceAt 255 (.pointer (some ⟨p,0,none⟩)) (some (.int .i64 (i:Int))) none none).run Tryz.prog w= .ok (.slice (some ⟨p,i,none⟩) (65-i) (65-i)) w:=by
 have hl:Tryz.prog.arrayLen 255=65:=kR
 have h:=run_sliceAt_array_l (P:=Tryz.prog) w 255 ⟨p,0,none⟩ kR .i64 (i:Int) oM (by rw [hl];omega)
 rw [hl] at h
 rw [h]
 have he:Tryz.prog.elem 255=5:=kR
 rw [he,Tryz.sizeOf5]
 simp only [Result.andThen,slicedAt,Int.toNat_natCast,Nat.mul_one]
 rw [if_neg (by omega)]
 have ha:(⟨p,0,none⟩:Addr).add i=⟨p,i,none⟩:=by unfold Addr.add;split<;>simp_all
 rw [ha]
theorem gH.conv {w:World} {p i:Nat} {tl:List Nat} (h:gH w p i tl) (m c:Nat) (hm:m=tl.length):(convert 31 9 (.slice (some ⟨p,i,none⟩) m c)).run Tryz.prog w= .ok (.string (strOf tl)) w:=by
 subst hm
 have:=run_convert_bytes_arg (P:=Tryz.prog) w 31 5 Tryz.underlying31 Tryz.underlying5 p i tl.length c (tl.map fun (x:Nat)=>(x:Int)) sP (fun j hj=>by
  rw [h.cell (D9 hj)]
  simp [hj]) 9 Tryz.underlying9
 rw [this]
 simp [strOfNums,strOf,Function.comp_def]
theorem v4c  (w:World):Calls Tryz.prog 172 #[.int .i64 36] w fun e w1=>e= .returned (.bool false)/\w=w1:=by
 refine S8 8 Tryz.func172 fun fr hf s0=> ?_
 refine Ze fun _ b7=>Zr [] hf ?_
 refine r6 0 hf ?_
 clear hf s0;intro a7 hf s0
 refine Zs b7 fun _ b7=>Zr [3,4,5,6,7] hf ?_
 refine r6 2 hf ?_
 clear hf s0;intro a7 hf s2
 refine Zx b7 (k8 ?_)
 exact Fc.o9 rfl hf s2 ⟨rfl,rfl⟩
theorem w3w (u:Nat) (hu:u<18446744073709551616) (w:World):G4 w 166 #[.slice none 0 0,.int .u64 u,.int .i64 36,.bool false,.bool false] (.tuple #[.slice none 0 0,.string (strOf (kE u))]):=by
 refine Zn5 102 Tryz.func166 fun fr hf s0 s1 s2 s3 s4=> ?_
 refine Ze fun _ b7=>Zr [] hf ?_
 refine cP 0 1 2 3 4 10 11 hf ?_
 clear hf s0 s1 s2 s3 s4;intro a7 hf sS
 refine Zs b7 fun _ b7=>Ze fun _ j8=>Zr [19,20,21,22,23,24,25,26,27] hf ?_
 refine nM 0 1 2 3 4 10 11 28 hf ?_
 clear hf sS;intro a7 hf sS
 refine Zx j8 (Fc.k9 sS.2.2.2.2.2.2.2 ?_)
 refine wp_skip (Zs b7 fun _ b7=>Zr [] hf ?_)
 refine nM 0 1 2 3 4 10 11 12 hf ?_
 clear hf sS;intro a7 hf sS
 generalize p8:w.alloc (.cells Tryz.zeroCells255 255)=W0
 have p9:Below w.heap.size w W0:=by rw [<- p8];exact (Below.refl _ _).alloc nR _
 have hd0:gH W0 w.heap.size 65 []:=by rw [<- p8];exact gH.start w
 clear p8
 refine Zs b7 fun _ b7=>Zr [] hf ?_
 refine vE 0 1 2 3 4 10 11 12 13 hf ?_
 clear hf sS;intro a7 hf sS
 refine Zs b7 fun _ b7=>Ze fun _ j8=>Zr [] hf ?_
 refine nT 0 1 2 3 4 10 11 12 13 30 hf ?_
 clear hf sS;intro a7 hf sS
 refine Zx j8 (Fc.k9 sS.2.2.2.2.2.2.2.2.2 ?_)
 refine wp_skip (Zs b7 fun _ b7=>Ze fun _ j8=>rg ?_)
 have bB:=hf.b 33
 refine Zy ?_
 refine Zc (v4c W0) ?_;rintro e w2 ⟨rfl,rfl⟩
 refine Zv ?_
 refine Fc.nil (nT 0 1 2 3 4 10 11 12 13 34 hf ?_)
 clear hf sS bB;intro a7 hf sS
 refine Zx j8 (Fc.k9 sS.2.2.2.2.2.2.2.2.2 ?_)
 refine Ze fun _ j8=>Zr [64,65] hf ?_
 refine vE 0 1 3 4 10 11 12 13 17 hf ?_
 clear hf sS;intro a7 hf sS
 refine Zs j8 fun _ j8=>wp_block (wp_loop_ghost (fun gk fr wr=>∃ (i v:Nat) (tl:List Nat),gk=v/\Fc.Fr 102 fr/\fr.tmps[3]? =some (.bool false)/\fr.tmps[4]? =some (.bool false)/\fr.tmps[10]? =some (.slice none 0 0)/\fr.tmps[12]? =some (.pointer (some ⟨w.heap.size,0,none⟩))/\fr.tmps[17]? =some (.int .u64 36)/\fr.tmps[1]? =some (.int .u64 v)/\fr.tmps[13]? =some (.int .i64 i)/\gH wr w.heap.size i tl/\kE u=kE v++tl/\v*36^tl.length<=u/\tl.length<=12/\Below w.heap.size w wr) (u) ?_ ?_)
 . (
 obtain ⟨s0,s1,s3,s4,y4,C7,aZ,J0,N7⟩:=sS
 exact ⟨65,u,[],rfl,hf,s3,s4,y4,aZ,N7,s1,J0,hd0,sP,sP,sP,p9⟩)
 . (
 clear hf sS
 rintro gk fr wr ⟨i,v,tl,hk,hf,s3,s4,y4,aZ,N7,s1,J0,hd,v4b,hle,h12,hb⟩
 have HK:=H9 hk;have HD:=H9 v4b;have HL:=H9 hle;have F7:=H9 hd.size
 have s8s:i<=65:=by have:=hd.size;omega
 have hfz:=hd.frozen
 clear hk v4b hle
 refine Ze fun _ l6=>Ze fun _ N4=>Zr [66,67] hf ?_
 refine nM 1 3 4 10 12 13 17 68 hf ?_
 clear hf s1 s3 s4 y4 aZ J0 N7;intro a7 hf sS
 refine Zx N4 (Fc.l0 sS.2.2.2.2.2.2.2 (fun hq=> ?_) (fun hq=> ?_))
 . (
 have x3d:36<=v:=qT
 have s8r:v<18446744073709551616:=by have:=Nat.le_mul_of_pos_right v (Nat.pow_pos (n:=tl.length) (show 0<36 by omega));have:=HL.out;omega
 have hi1:40<=i:=by have:=F7.out;omega
 have hdv:((v:Int).tdiv 36)=((v / 36:Nat):Int):=by rfl
 obtain ⟨q,H7⟩:∃ q,v / 36=q:=⟨_,rfl⟩
 have hqv:36*q<=v/\v<36*q+36:=oM
 rw [H7] at hdv
 have HQ:=H9 H7;clear H7
 obtain ⟨d,hdd⟩:∃ d,v-36*q=d:=⟨_,rfl⟩
 have u1u:d<36:=oM
 have hdi:(v:Int)-(q:Int)*36=(d:Int):=oM
 have HDD:=H9 hdd;have HDI:=H9 hdi;clear hdd hdi
 have y8:=hd.put (dg d) oM
 obtain ⟨vx,hvx⟩:=hd.any (j:=i-1) oM
 have hii:(i:Int)-1=((i-1:Nat):Int):=oM
 refine wp_skip (Zx l6 (wp_block (Ze fun _ l6=>rg ?_)))
 have bB:=hf.B2 69 70
 refine Zy ?_
 refine fp fun K Z=> ?_
 go_simp
 try simp (disch:=omega) only [Fc.W]
 try rw [hii]
 apply Z.out;clear Z K
 refine Zy ?_
 refine Fc.nil (cP 1 3 4 10 12 13 17 hf ?_)
 clear hf sS bB;intro a7 hf sS
 refine Zt l6 fun _ l6=> ?_
 have bB:=hf.B3 71 72 73
 iterate 2 refine Zy ?_
 refine fp fun K Z=> ?_
 go_simp
 try rw [hdv]
 try simp (disch:=omega) only [Fc.wrap_u64]
 apply Z.out;clear Z K
 refine Zy ?_
 refine Fc.nil (nM 1 3 4 10 12 13 17 18 hf ?_)
 clear hf sS bB;intro a7 hf sS
 refine Zt l6 fun _ l6=> ?_
 have bB:=hf.B8 74 75 76 77 78 79 80 81
 iterate 5 refine Zy ?_
 refine fp fun K Z=> ?_
 go_simp
 try simp (disch:=omega) only [Fc.W]
 rw [HDI.out]
 apply Z.out;clear Z K
 refine fp fun K Z=> ?_
 go_simp
 rw [dif_pos (by omega)]
 rw [wG d u1u]
 apply Z.out;clear Z K
 iterate 2 refine Zy ?_
 refine Fc.nil (cP 3 4 10 12 13 17 18 hf ?_)
 clear hf sS bB;intro a7 hf sS
 refine Zx l6 (Zr [82] hf ?_)
 refine cP 1 3 4 10 12 13 17 hf ?_
 clear hf sS;intro a7 hf sS
 refine Fc.j7 (Fc.j6 ?_)
 have o7:=y6h (dg d) HL.out hqv.1
 obtain ⟨s1,s3,s4,y4,aZ,J0,N7⟩:=sS
 exact ⟨_,by have:=HK.out;omega,i-1,q,dg d::tl,rfl,hf,s3,s4,y4,aZ,N7,s1,J0,y8,y0l HD.out x3d HQ.out HDD.out,o7,y0m o7 hu oM,hb.setCell nR _⟩)
 . (
 have x3d:v<36:=qF
 have hi1:40<=i:=by have:=F7.out;omega
 have hii:(i:Int)-1=((i-1:Nat):Int):=oM
 have y8:=hd.put (dg v) oM
 obtain ⟨vx,hvx⟩:=hd.any (j:=i-1) oM
 refine Zo ?_
 refine Zt j8 fun _ j8=> ?_
 have bB:=hf.B2 83 84
 refine Zy ?_
 refine fp fun K Z=> ?_
 go_simp
 try simp (disch:=omega) only [Fc.W]
 try rw [hii]
 apply Z.out;clear Z K
 refine Zy ?_
 refine Fc.nil (J3 1 3 4 10 12 13 hf ?_)
 clear hf sS bB;intro a7 hf sS
 refine Zx j8 (rg ?_)
 have bB:=hf.B4 85 86 87 88
 iterate 2 refine Zy ?_
 refine fp fun K Z=> ?_
 go_simp
 rw [dif_pos (by omega)]
 rw [wG v x3d]
 apply Z.out;clear Z K
 iterate 2 refine Zy ?_
 refine Fc.nil (D0 3 4 10 12 13 hf ?_)
 clear hf sS bB;intro a7 hf sS
 refine Zs b7 fun _ b7=>Ze fun _ j8=>Zr [] hf ?_
 refine D0 4 10 12 13 89 hf ?_
 clear hf sS;intro a7 hf sS
 refine Zx j8 (Fc.k9 sS.2.2.2.2 ?_)
 refine wp_skip (Zs b7 fun _ b7=>Ze fun _ j8=>Zr [] hf ?_)
 refine C0 10 12 13 94 hf ?_
 clear hf sS;intro a7 hf sS
 refine Zx j8 (Fc.k9 sS.2.2.2 ?_)
 refine wp_skip (Zt b7 fun _ b7=> ?_)
 have bB:=hf.B3 99 100 101
 refine Zy ?_
 refine fp fun K Z=> ?_
 go_simp
 rw [y0k _ _ _ oM]
 apply Z.out;clear Z K
 refine fp fun K Z=> ?_
 go_simp
 rw [y8.conv _ _ (by simp only [List.length_cons];have:=F7.out;omega)]
 apply Z.out;clear Z K
 refine Zy ?_
 refine Fc.nil (C1 10 11 hf ?_)
 clear hf sS bB;intro a7 hf sS
 refine Zx b7 (k8 ?_)
 have hdg:kE u=dg v::tl:=by rw [HD.out,kE,dif_pos x3d];rfl
 exact Fc.U6 rfl hf sS.1 sS.2 ⟨by rw [hdg],hb.setCell nR _⟩))
theorem v4a (u:Nat) (hu:u<18446744073709551616) (w:World):G4 w 155 #[.int .u64 u,.int .i64 36] (.string (strOf (kE u))):=by
 refine aT 32 Tryz.func155 fun fr hf s0 s1=> ?_
 refine Ze fun _ b7=>Zr [] hf ?_
 refine C1 0 1 hf ?_
 clear hf s0 s1;intro a7 hf sS
 refine Zs b7 fun _ b7=>Ze fun _ j8=>Zr [9] hf ?_
 refine B1 0 1 10 hf ?_
 clear hf sS;intro a7 hf sS
 refine Zx j8 (Fc.k9 sS.2.2 ?_)
 refine wp_skip (Zt b7 fun _ b7=> ?_)
 have bB:=hf.B6 26 27 28 25 29 30
 iterate 2 refine Zy ?_
 refine Zc (w3w u hu w) ?_;rintro e w1 ⟨rfl,hb⟩
 refine Zv ?_
 iterate 5 refine Zy ?_
 refine Fc.nil (r6 8 hf ?_)
 clear hf sS bB;intro a7 hf s8
 refine Zs b7 fun _ b7=>Zr [31] hf ?_
 refine r6 4 hf ?_
 clear hf s8;intro a7 hf s4
 refine Zx b7 (k8 ?_)
 exact Fc.o9 rfl hf s4 ⟨rfl,hb⟩
theorem v3z (u:Nat) (hu:u<18446744073709551616) (w:World):G4 w 135 #[.int .u64 u,.int .i64 36] (.string (strOf (kE u))):=by
 refine aT 8 Tryz.func135 fun fr hf s0 s1=> ?_
 refine Ze fun _ b7=>Zr [] hf ?_
 refine C1 0 1 hf ?_
 clear hf s0 s1;intro a7 hf sS
 refine Zt b7 fun _ b7=> ?_
 have bB:=hf.B3 5 6 7
 iterate 2 refine Zy ?_
 refine Zc (v4a u hu w) ?_;rintro e w1 ⟨rfl,hb⟩
 refine Zv ?_
 refine Zy ?_
 refine Fc.nil (r6 4 hf ?_)
 clear hf sS bB;intro a7 hf s4
 refine Zx b7 (k8 ?_)
 exact Fc.o9 rfl hf s4 ⟨rfl,hb⟩
theorem mJ (w:World) (B b:Nat) (l:List Nat) (u:Nat) (hu:u<18446744073709551616) (hB:Lib.IsBuilder 111 5 B b (Lib.byteCells (bs l)) w) (hBw:B<=w.heap.size) (hl:l.length<=1000000):Calls Tryz.prog 134 #[.int .u64 u,.pointer (some ⟨b,0,none⟩)] w fun e w1=>e= .returned (.tuple #[])/\Lib.IsBuilder 111 5 B b (Lib.byteCells (bs (l++num u))) w1/\Below B w w1/\Lib.OthersKept 5 (some b) w w1:=by
 refine aT 7 Tryz.func134 fun fr hf s0 s1=> ?_
 refine Ze fun _ b7=>rg ?_
 have bB:=hf.B2 3 4
 refine Zy ?_
 refine Zc (v3z u hu w) ?_;rintro e w1 ⟨rfl,n7⟩
 have hB1:=eN hB n7
 refine Zv ?_
 refine Zc (z4c B b _ (strOf (kE u)) w1 hB1 (by rw [byteCells_length,iR];have:=iS u hu;omega) (by have:=n7.size;omega)) ?_;rintro e w2 ⟨rfl,wH,r9,M5⟩
 refine Zv ?_
 refine Fc.nil (r6 1 hf ?_)
 clear hf s0 s1 bB;intro a7 hf s1
 refine Zx b7 (rg ?_)
 refine Zc (vL B b _ 32 w2 (.inr wH) (by rw [List.length_append,byteCells_length,Lib.strCells_length,iR];have:=iS u hu;omega) (by have:=n7.size;have:=r9.size;omega)) ?_;rintro e w3 ⟨rfl,hB3,D4,zR⟩
 refine Zv ?_
 refine Fc.nil (Zq0 hf ?_)
 clear hf s1;intro a7 hf
 refine Fc.pZ rfl hf ⟨rfl,.inr ?_,((n7.mono hBw).trans r9).trans D4,((xY _ _ n7).trans M5).trans zR⟩
 rw [y6i] at hB3
 exact hB3
def rK (s:State) (i:Nat):List Nat:=(if s.final then [33] else [])++num s.out++(s.a6.take i).flatMap fun a=>num a.byte++num a.out++num a.to.toNat
def eX (s:State):List Nat:=rK s s.a6.length
theorem wJ (s:State):rK s 0=(if s.final then [33] else [])++num s.out:=by simp [rK]
theorem wK {s:State} {i:Nat} {a:r7} (h:s.a6[i]? =some a):rK s (i+1)=rK s i++num a.byte++num a.out++num a.to.toNat:=by
 have ht:s.a6.take (i+1)=s.a6.take i++[a]:=by rw [List.take_add_one,h];rfl
 simp [rK,ht]
theorem X1 {s:State} {i n:Nat} (iT:J8 s) (bS:s.a6.length<=256) (hi:i<=s.a6.length) (hn:n<=28):(rK s i).length+n<=1000000:=by
 have h1:∀ l:List r7,(∀ a∈l,uZ a)->(l.flatMap fun a=>num a.byte++num a.out++num a.to.toNat).length<=l.length*42:=by
  intro l
  induction l with
  | nil=>simp
  | cons a l ih =>
   intro h
   have h2:=h a (List.mem_cons_self ..)
   have h3:=J1 a.byte (by have:=h2.1;omega)
   have h4:=J1 a.out h2.2.1
   have h5:=J1 a.to.toNat (by have:=h2.2.2.2;omega)
   have h6:=ih (fun x hx=>h x (List.mem_cons_of_mem _ hx))
   simp only [List.flatMap_cons,List.length_append,List.length_cons]
   omega
 have h2:=h1 (s.a6.take i) (fun a ha=>iT.2.2 a (List.mem_of_mem_take ha))
 have h3:=J1 s.out iT.1
 have h4:(s.a6.take i).length<=256:=sO
 have h5:(if s.final then [33] else ([]:List Nat)).length<=1:=by split<;>simp
 unfold rK
 simp only [List.length_append] at h2 |-
 omega
theorem fZ {w w':World} {b k:Nat} {cs:Array Value} {t:TypeId} {fr:Nat×Nat} (hk:Lib.OthersKept 5 (some b) w w') (h:w.heap[k]? =some (.cells cs t fr)) (ht:t≠5) (hb:k≠b):w'.heap[k]? =some (.cells cs t fr) :=
 hk k _ h (fun e=>hb (by injection e)) (fun c fz e=>ht (by injection e))
theorem v3y (w:World) (s:State) (B:Nat->Prop) (av:Value) (bA:RA w B av s.a6) (iT:J8 s) (v3x:∀ a∈s.a6,0<=a.to) (bS:s.a6.length<=256):G4 w 92 #[z9d av s] (.string (strOf (eX s))):=by
 refine S8 38 Tryz.func92 fun fr hf s0=> ?_
 have ha:=bA
 obtain ⟨A,cc,rfl,Z3⟩:=ha.form
 have v3w:=iT.1
 have HT:=H9 v3x;clear v3x
 simp only [z9d] at s0
 refine Ze fun _ b7=>Zr [] hf ?_
 refine r6 1 hf ?_
 clear hf s0;intro a7 hf s1
 generalize p8:w.alloc (.cells #[.slice A s.a6.length cc,.bool s.final,.int .u64 s.out] 46)=W0
 obtain ⟨p9,c0,c1,c2, -,T1⟩:=G1 p8
 clear p8
 have gE:w.heap.size<W0.heap.size:=by rw [T1];exact Nat.lt_succ_self _
 clear T1
 have ha0:=ha.later p9
 refine Zs b7 fun _ b7=>Zr [] hf ?_
 refine C1 1 3 hf ?_
 clear hf s1;intro a7 hf sS
 generalize Z4:W0.alloc (.cells #[.pointer none,.slice none 0 0] 111)=W1
 have hB0:=fresh W0;rw [Z4] at hB0
 have n7:Below W0.heap.size W0 W1:=by rw [<- Z4];exact (Below.refl _ _).alloc nR _
 have u1r:W0.heap.size<=W1.heap.size:=n7.size
 clear Z4
 replace c0:=cL n7 c0;replace c1:=cL n7 c1;replace c2:=cL n7 c2;have ha1:=ha0.later n7
 have qP:Below W0.heap.size W0 W1:=n7
 refine Zs b7 fun _ b7=>Zr [7] hf ?_
 refine B1 1 3 4 hf ?_
 clear hf sS;intro a7 hf sS
 refine Zs b7 fun _ b7=>Ze fun _ j8=>Zr [8] hf ?_
 refine C0 1 3 4 9 hf ?_
 clear hf sS;intro a7 hf sS
 refine Zx j8 ?_
 rcases q9:s.final with _ | _
 . (
 obtain ⟨s1,s3,s4,s9⟩:=sS
 try rw [q9] at s9
 refine Fc.k9 s9 ?_
 obtain ⟨w2,hw2⟩:∃ w2,w2=W1:=⟨_,rfl⟩
 have hI2:Lib.IsBuilder 111 5 W0.heap.size W0.heap.size (Lib.byteCells (bs (if s.final then [33] else []))) w2:=by rw [q9,hw2];exact hB0
 have r9:Below W0.heap.size W1 w2:=by rw [hw2];exact Below.refl _ _
 try rw [<- hw2]
 clear hw2
 refine wp_skip (Zs b7 fun _ b7=> ?_)
 have d0:=D1 r9 c0 (show w.heap.size<W0.heap.size by omega);have d2:=D1 r9 c2 (show w.heap.size<W0.heap.size by omega)
 refine rg ?_
 have bB:=hf.B3 11 12 13
 iterate 3 refine Zy ?_
 refine Zc (mJ w2 W0.heap.size W0.heap.size _ s.out v3w hI2 (by have:=r9.size;omega) (by split<;>simp)) ?_;rintro e w3 ⟨rfl,hI3,D4, -⟩
 refine Zv ?_
 refine Fc.nil (B1 1 3 4 hf ?_)
 clear hf s1 s3 s4 s9 bB;intro a7 hf sS
 have d3:=D1 D4 d0 (show w.heap.size<W0.heap.size by omega)
 have hbW:=(qP.trans r9).trans D4
 refine Zs b7 fun _ b7=>Ze fun _ j8=>Zr [15,16] hf ?_
 refine D0 3 4 16 17 18 hf ?_
 clear hf sS;intro a7 hf sS
 refine Zx j8 (wp_block ?_)
 clear d0 d2 d3 c0 c1 c2
 refine wp_loop_ghost (fun gk fr wr=>∃ (i:Nat),gk=s.a6.length-i/\i<=s.a6.length/\Fc.Fr 38 fr/\fr.tmps[3]? =some (.pointer (some ⟨W0.heap.size,0,none⟩))/\fr.tmps[4]? =some (.func (.func 134) #[] #[.pointer (some ⟨W0.heap.size,0,none⟩)])/\fr.tmps[16]? =some (.slice A s.a6.length cc)/\fr.tmps[17]? =some (.int .i64 s.a6.length)/\fr.tmps[18]? =some (.int .i64 i)/\Lib.IsBuilder 111 5 W0.heap.size W0.heap.size (Lib.byteCells (bs (rK s i))) wr/\Below W0.heap.size W0 wr) (s.a6.length) ?_ ?_
 . (
 obtain ⟨s3,s4,tZ,N7,S2⟩:=sS
 exact ⟨0,rfl,Nat.zero_le _,hf,s3,s4,tZ,N7,S2,by rw [wJ];exact hI3,hbW⟩)
 . (
 clear hf sS
 rintro gk fr wr ⟨i,hk,hi,hf,s3,s4,tZ,N7,S2,hI,hb⟩
 have HK:=H9 hk;clear hk
 refine Ze fun _ j8=>Zr [] hf ?_
 refine J3 3 4 16 17 18 19 hf ?_
 clear hf s3 s4 tZ N7 S2;intro a7 hf sS
 refine Zs j8 fun _ j8=>Fc.l0 sS.2.2.2.2.2 (fun hq=> ?_) (fun hq=> ?_)
 . (
 have bW:i<s.a6.length:=qT
 obtain ⟨a,aN⟩:∃ a,s.a6[i]? =some a:=⟨_,D9 bW⟩
 obtain ⟨b,off,rfl,aF,e0,e1,e2⟩:=(ha0.later hb).at' aN
 have yR:=iT.2.2 a (U0 aN)
 have nF:=HT.out a (U0 aN)
 have HIA:=H9 aN;clear aN
 have y0j:=yR.2.1;have hab:=yR.1;have D3:=yR.2.2.2
 obtain ⟨t,ht⟩:∃ t:Nat,a.to=(t:Int):=⟨a.to.toNat,oM⟩
 have ht2:a.to.toNat=t:=oM
 rw [ht] at e2
 have HTT:=H9 ht2
 rw [ht] at D3
 clear ht ht2 nF yR
 refine wp_skip (Zs j8 fun _ j8=>wp_block (Ze fun _ l6=>Zr [20,21,6] hf ?_))
 refine J3 3 4 6 16 17 18 hf ?_
 clear hf sS;intro a7 hf sS
 generalize eC:wr.alloc (.cells #[.int .u8 a.byte,.int .u64 a.out,.int .i64 t] 71)=W5
 obtain ⟨F2,f0, -, -,P6,z7p⟩:=G1 eC
 clear eC
 have hz5:wr.heap.size<W5.heap.size:=by rw [z7p];exact Nat.lt_succ_self _
 clear z7p
 clear e0 e1 e2 aF
 have hI5:=eN hI F2
 have hWr:=hb.size
 have hpb:wr.heap.size≠W0.heap.size:=by have:=hI.elim (fun x=>x.lt) (fun x=>x.lt);omega
 refine Zt l6 fun _ l6=> ?_
 have bB:=hf.B4 22 23 24 25
 iterate 3 refine Zy ?_
 refine fp fun K Z=> ?_
 go_simp
 try simp (disch:=omega) only [Fc.wrap_u64]
 apply Z.out;clear Z K
 refine Zc (mJ W5 W0.heap.size W0.heap.size _ a.byte oM hI5 oM (X1 iT bS (Nat.le_of_lt bW) (Nat.zero_le _))) ?_;rintro e w6 ⟨rfl,hI6,G7,hk6⟩
 refine Zv ?_
 refine Fc.nil (J3 3 4 6 16 17 18 hf ?_)
 clear hf sS bB;intro a7 hf sS
 have bF:=fZ hk6 P6 dC hpb
 have g1:=n5 1 bF
 simp at g1
 clear f0 P6
 refine Zt l6 fun _ l6=> ?_
 have bB:=hf.B3 27 28 29
 iterate 3 refine Zy ?_
 refine Zc (mJ w6 W0.heap.size W0.heap.size _ a.out y0j hI6 (by have:=G7.size;omega) (by rw [List.length_append];exact X1 iT bS (Nat.le_of_lt bW) (by have:=J1 a.byte oM;omega))) ?_;rintro e w7 ⟨rfl,hI7,A8,hk7⟩
 refine Zv ?_
 refine Fc.nil (J3 3 4 6 16 17 18 hf ?_)
 clear hf sS bB;intro a7 hf sS
 have hp7:=fZ hk7 bF dC hpb
 have g2:=n5 2 hp7
 simp at g2
 clear g1 bF
 refine Zx l6 (rg ?_)
 have bB:=hf.B4 31 32 33 34
 iterate 3 refine Zy ?_
 refine fp fun K Z=> ?_
 go_simp
 try simp (disch:=omega) only [Fc.wrap_u64]
 apply Z.out;clear Z K
 refine Zc (mJ w7 W0.heap.size W0.heap.size _ t oM hI7 (by have:=G7.size;have:=A8.size;omega) (by rw [List.length_append,List.length_append,Nat.add_assoc];exact X1 iT bS (Nat.le_of_lt bW) (by have:=J1 a.byte oM;have:=J1 a.out y0j;omega))) ?_;rintro e w8 ⟨rfl,hI8,dZ,hk8⟩
 refine Zv ?_
 refine Fc.nil (D0 3 4 16 17 18 hf ?_)
 clear hf sS bB;intro a7 hf sS
 refine Fc.j7 (Zx j8 (Zr [36] hf ?_))
 refine D0 3 4 16 17 18 hf ?_
 clear hf sS;intro a7 hf sS
 refine Fc.j6 ?_
 obtain ⟨s3,s4,tZ,N7,S2⟩:=sS
 exact ⟨_,by have:=HK.out;omega,i+1,rfl,oM,hf,s3,s4,tZ,N7,by rw [S2];rfl,by rw [wK HIA.out,HTT.out];exact hI8,(((hb.trans (F2.mono hb.size)).trans G7).trans A8).trans dZ⟩)
 . (
 have F3:i=s.a6.length:=qF
 subst F3
 refine Zo ?_
 refine Zt b7 fun _ b7=> ?_
 have bB:=hf.b 37
 refine Zc (Tryz.Builder_String_any W0.heap.size W0.heap.size _ wr hI hb.size) ?_;rintro e w9 ⟨rfl,kL⟩
 refine Zv ?_
 refine Zy ?_
 refine Fc.nil (r6 2 hf ?_)
 clear hf sS bB;intro a7 hf s2
 refine Zx b7 (k8 ?_)
 exact Fc.o9 rfl hf s2 ⟨rfl,(p9.trans (hb.mono p9.size)).trans (kL.mono p9.size)⟩)))
 . (
 obtain ⟨s1,s3,s4,s9⟩:=sS
 try rw [q9] at s9
 refine Fc.l8 s9 ?_
 refine rg ?_
 refine Zc (vL W0.heap.size W0.heap.size (Lib.byteCells (bs [])) 33 W1 hB0 (by simp [bs,Lib.byteCells]) u1r) ?_;rintro e w2 ⟨rfl,wH,r9, -⟩
 have hI2:Lib.IsBuilder 111 5 W0.heap.size W0.heap.size (Lib.byteCells (bs (if s.final then [33] else []))) w2:=by rw [q9];exact .inr wH
 refine Zv ?_
 refine Fc.nil (B1 1 3 4 hf ?_)
 clear hf s1 s3 s4 s9;intro a7 hf sS
 refine Zs b7 fun _ b7=> ?_
 have d0:=D1 r9 c0 (show w.heap.size<W0.heap.size by omega);have d2:=D1 r9 c2 (show w.heap.size<W0.heap.size by omega)
 refine rg ?_
 have bB:=hf.B3 11 12 13
 iterate 3 refine Zy ?_
 refine Zc (mJ w2 W0.heap.size W0.heap.size _ s.out v3w hI2 (by have:=r9.size;omega) (by split<;>simp)) ?_;rintro e w3 ⟨rfl,hI3,D4, -⟩
 refine Zv ?_
 refine Fc.nil (B1 1 3 4 hf ?_)
 clear hf sS bB;intro a7 hf sS
 have d3:=D1 D4 d0 (show w.heap.size<W0.heap.size by omega)
 have hbW:=(qP.trans r9).trans D4
 refine Zs b7 fun _ b7=>Ze fun _ j8=>Zr [15,16] hf ?_
 refine D0 3 4 16 17 18 hf ?_
 clear hf sS;intro a7 hf sS
 refine Zx j8 (wp_block ?_)
 clear d0 d2 d3 c0 c1 c2
 refine wp_loop_ghost (fun gk fr wr=>∃ (i:Nat),gk=s.a6.length-i/\i<=s.a6.length/\Fc.Fr 38 fr/\fr.tmps[3]? =some (.pointer (some ⟨W0.heap.size,0,none⟩))/\fr.tmps[4]? =some (.func (.func 134) #[] #[.pointer (some ⟨W0.heap.size,0,none⟩)])/\fr.tmps[16]? =some (.slice A s.a6.length cc)/\fr.tmps[17]? =some (.int .i64 s.a6.length)/\fr.tmps[18]? =some (.int .i64 i)/\Lib.IsBuilder 111 5 W0.heap.size W0.heap.size (Lib.byteCells (bs (rK s i))) wr/\Below W0.heap.size W0 wr) (s.a6.length) ?_ ?_
 . (
 obtain ⟨s3,s4,tZ,N7,S2⟩:=sS
 exact ⟨0,rfl,Nat.zero_le _,hf,s3,s4,tZ,N7,S2,by rw [wJ];exact hI3,hbW⟩)
 . (
 clear hf sS
 rintro gk fr wr ⟨i,hk,hi,hf,s3,s4,tZ,N7,S2,hI,hb⟩
 have HK:=H9 hk;clear hk
 refine Ze fun _ j8=>Zr [] hf ?_
 refine J3 3 4 16 17 18 19 hf ?_
 clear hf s3 s4 tZ N7 S2;intro a7 hf sS
 refine Zs j8 fun _ j8=>Fc.l0 sS.2.2.2.2.2 (fun hq=> ?_) (fun hq=> ?_)
 . (
 have bW:i<s.a6.length:=qT
 obtain ⟨a,aN⟩:∃ a,s.a6[i]? =some a:=⟨_,D9 bW⟩
 obtain ⟨b,off,rfl,aF,e0,e1,e2⟩:=(ha0.later hb).at' aN
 have yR:=iT.2.2 a (U0 aN)
 have nF:=HT.out a (U0 aN)
 have HIA:=H9 aN;clear aN
 have y0j:=yR.2.1;have hab:=yR.1;have D3:=yR.2.2.2
 obtain ⟨t,ht⟩:∃ t:Nat,a.to=(t:Int):=⟨a.to.toNat,oM⟩
 have ht2:a.to.toNat=t:=oM
 rw [ht] at e2
 have HTT:=H9 ht2
 rw [ht] at D3
 clear ht ht2 nF yR
 refine wp_skip (Zs j8 fun _ j8=>wp_block (Ze fun _ l6=>Zr [20,21,6] hf ?_))
 refine J3 3 4 6 16 17 18 hf ?_
 clear hf sS;intro a7 hf sS
 generalize eC:wr.alloc (.cells #[.int .u8 a.byte,.int .u64 a.out,.int .i64 t] 71)=W5
 obtain ⟨F2,f0, -, -,P6,z7p⟩:=G1 eC
 clear eC
 have hz5:wr.heap.size<W5.heap.size:=by rw [z7p];exact Nat.lt_succ_self _
 clear z7p
 clear e0 e1 e2 aF
 have hI5:=eN hI F2
 have hWr:=hb.size
 have hpb:wr.heap.size≠W0.heap.size:=by have:=hI.elim (fun x=>x.lt) (fun x=>x.lt);omega
 refine Zt l6 fun _ l6=> ?_
 have bB:=hf.B4 22 23 24 25
 iterate 3 refine Zy ?_
 refine fp fun K Z=> ?_
 go_simp
 try simp (disch:=omega) only [Fc.wrap_u64]
 apply Z.out;clear Z K
 refine Zc (mJ W5 W0.heap.size W0.heap.size _ a.byte oM hI5 oM (X1 iT bS (Nat.le_of_lt bW) (Nat.zero_le _))) ?_;rintro e w6 ⟨rfl,hI6,G7,hk6⟩
 refine Zv ?_
 refine Fc.nil (J3 3 4 6 16 17 18 hf ?_)
 clear hf sS bB;intro a7 hf sS
 have bF:=fZ hk6 P6 dC hpb
 have g1:=n5 1 bF
 simp at g1
 clear f0 P6
 refine Zt l6 fun _ l6=> ?_
 have bB:=hf.B3 27 28 29
 iterate 3 refine Zy ?_
 refine Zc (mJ w6 W0.heap.size W0.heap.size _ a.out y0j hI6 (by have:=G7.size;omega) (by rw [List.length_append];exact X1 iT bS (Nat.le_of_lt bW) (by have:=J1 a.byte oM;omega))) ?_;rintro e w7 ⟨rfl,hI7,A8,hk7⟩
 refine Zv ?_
 refine Fc.nil (J3 3 4 6 16 17 18 hf ?_)
 clear hf sS bB;intro a7 hf sS
 have hp7:=fZ hk7 bF dC hpb
 have g2:=n5 2 hp7
 simp at g2
 clear g1 bF
 refine Zx l6 (rg ?_)
 have bB:=hf.B4 31 32 33 34
 iterate 3 refine Zy ?_
 refine fp fun K Z=> ?_
 go_simp
 try simp (disch:=omega) only [Fc.wrap_u64]
 apply Z.out;clear Z K
 refine Zc (mJ w7 W0.heap.size W0.heap.size _ t oM hI7 (by have:=G7.size;have:=A8.size;omega) (by rw [List.length_append,List.length_append,Nat.add_assoc];exact X1 iT bS (Nat.le_of_lt bW) (by have:=J1 a.byte oM;have:=J1 a.out y0j;omega))) ?_;rintro e w8 ⟨rfl,hI8,dZ,hk8⟩
 refine Zv ?_
 refine Fc.nil (D0 3 4 16 17 18 hf ?_)
 clear hf sS bB;intro a7 hf sS
 refine Fc.j7 (Zx j8 (Zr [36] hf ?_))
 refine D0 3 4 16 17 18 hf ?_
 clear hf sS;intro a7 hf sS
 refine Fc.j6 ?_
 obtain ⟨s3,s4,tZ,N7,S2⟩:=sS
 exact ⟨_,by have:=HK.out;omega,i+1,rfl,oM,hf,s3,s4,tZ,N7,by rw [S2];rfl,by rw [wK HIA.out,HTT.out];exact hI8,(((hb.trans (F2.mono hb.size)).trans G7).trans A8).trans dZ⟩)
 . (
 have F3:i=s.a6.length:=qF
 subst F3
 refine Zo ?_
 refine Zt b7 fun _ b7=> ?_
 have bB:=hf.b 37
 refine Zc (Tryz.Builder_String_any W0.heap.size W0.heap.size _ wr hI hb.size) ?_;rintro e w9 ⟨rfl,kL⟩
 refine Zv ?_
 refine Zy ?_
 refine Fc.nil (r6 2 hf ?_)
 clear hf sS bB;intro a7 hf s2
 refine Zx b7 (k8 ?_)
 exact Fc.o9 rfl hf s2 ⟨rfl,(p9.trans (hb.mono p9.size)).trans (kL.mono p9.size)⟩)))
open Go.RowKit Go.Maps
/-! no two l3 have one key -/
theorem y0i (d:Nat) (h:d<36):dg d≠32/\dg d≠33/\dg d<256:=by unfold dg;split<;>omega
theorem y0h {a b:Nat} (ha:a<36) (hb:b<36) (h:dg a=dg b):a=b:=by unfold dg at h;split at h<;>split at h<;>omega
theorem oY:∀ (n:Nat),∀ x∈kE n,x≠32/\x≠33/\x<256:=by
 intro n
 induction n using Nat.strongRecOn with
 | _ n ih =>
  intro x hx
  rw [kE] at hx
  split at hx
  ·simp at hx;subst hx;exact y0i n (by assumption)
  ·rcases List.mem_append.1 hx with h | h
   ·exact ih (n / 36) oM x h
   ·simp at h;subst h;exact y0i _ oM
theorem z2s (n:Nat):kE n≠[]:=by rw [kE];split<;>simp
theorem x3b:∀ a b:Nat,kE a=kE b->a=b:=by
 intro a
 induction a using Nat.strongRecOn with
 | _ a ih =>
  intro b h
  rw [kE.eq_def a,kE.eq_def b] at h
  split at h<;>split at h
  ·injection h with h;exact y0h (by assumption) (by assumption) h
  ·have h1:=congrArg List.length h
   have h2:=List.length_pos_iff.2 (z2s (b / 36))
   simp only [List.length_append,List.length_cons,List.length_nil] at h1;omega
  ·have h1:=congrArg List.length h
   have h2:=List.length_pos_iff.2 (z2s (a / 36))
   simp only [List.length_append,List.length_cons,List.length_nil] at h1;omega
  ·obtain ⟨h1,h2⟩:=List.append_inj' h rfl
   have h3:=ih (a / 36) oM _ h1
   injection h2 with h2
   have h4:=y0h oM oM h2
   omega
theorem y0g {a b x y:List Nat} (ha:∀ u∈a,u≠32) (hb:∀ u∈b,u≠32) (h:a++32::x=b++32::y):a=b/\x=y:=by
 induction a generalizing b with
 | nil =>
  cases b with
  | nil=>simpa using h
  | cons u b=>simp at h;exact absurd h.1.symm (hb u (List.mem_cons_self ..))
 | cons v a ih =>
  cases b with
  | nil=>simp at h;exact absurd h.1 (ha v (List.mem_cons_self ..))
  | cons u b =>
   simp only [List.cons_append,List.cons.injEq] at h
   obtain ⟨h1,h2⟩:=ih (fun z hz=>ha z (List.mem_cons_of_mem _ hz)) (fun z hz=>hb z (List.mem_cons_of_mem _ hz)) h.2
   exact ⟨by rw [h.1,h1],h2⟩
theorem oZ {a b:Nat} {x y:List Nat} (h:num a++x=num b++y):a=b/\x=y:=by
 unfold num at h
 rw [List.append_assoc,List.append_assoc] at h
 obtain ⟨h1,h2⟩:=y0g (fun u hu=>(oY a u hu).1) (fun u hu=>(oY b u hu).1) h
 exact ⟨x3b a b h1,h2⟩
theorem yS (n:Nat):∃ c l,num n=c::l/\c≠33:=by
 obtain ⟨c,l,h⟩:=List.exists_cons_of_ne_nil (z2s n)
 refine ⟨c,l++[32],by simp [num,h],(oY n c (by rw [h];exact List.mem_cons_self ..)).2.1⟩
def T7 (l:List r7):List Nat:=l.flatMap fun a=>num a.byte++num a.out++num a.to.toNat
theorem mK:∀ (a b:List r7),(∀ x∈a,0<=x.to)->(∀ x∈b,0<=x.to)->T7 a=T7 b->a=b
 | [],[],_,_,_=>rfl
 | [],b::l2,_,_,h=>by
  obtain ⟨c,l,h1,_⟩:=yS b.byte
  simp [T7,h1] at h
 | a::l1,[],_,_,h=>by
  obtain ⟨c,l,h1,_⟩:=yS a.byte
  simp [T7,h1] at h
 | a::l1,b::l2,ha,hb,h=>by
  have e:∀ (x:r7) (xs:List r7),T7 (x::xs)=num x.byte++(num x.out++(num x.to.toNat++T7 xs)):=fun x xs=>by simp [T7]
  rw [e,e] at h
  obtain ⟨h1,h⟩:=oZ h
  obtain ⟨h2,h⟩:=oZ h
  obtain ⟨h3,h⟩:=oZ h
  have h4:=mK l1 l2 (fun x hx=>ha x (List.mem_cons_of_mem _ hx)) (fun x hx=>hb x (List.mem_cons_of_mem _ hx)) h
  have h5:=ha a (List.mem_cons_self ..)
  have h6:=hb b (List.mem_cons_self ..)
  obtain ⟨ab,ao,at_⟩:=a
  obtain ⟨bb,bo,bt⟩:=b
  simp only at h1 h2 h3 h5 h6
  subst h1;subst h2;subst h4
  have:at_=bt:=oM
  rw [this]
structure tN (s:State):Prop where
 ok:J8 s
 to:∀ a∈s.a6,0<=a.to
 uG:s.a6.length<=256
theorem yT (s:State):eX s=(if s.final then [33] else [])++(num s.out++T7 s.a6):=by simp [eX,rK,T7]
theorem y0f {a b:State} (ha:tN a) (hb:tN b) (h:eX a=eX b):a=b:=by
 rw [yT,yT] at h
 have key:∀ x y:State,tN x->tN y->x.final=y.final->num x.out++T7 x.a6=num y.out++T7 y.a6->x=y:=fun x y hx hy h0 h=>by
  obtain ⟨h1,h2⟩:=oZ h
  have h3:=mK _ _ hx.to hy.to h2
  obtain ⟨xf,xo,xa⟩:=x
  obtain ⟨yf,yo,ya⟩:=y
  simp only at h0 h1 h3
  rw [h0,h1,h3]
 cases hfa:a.final<;>cases hfb:b.final<;>rw [hfa,hfb] at h
 ·exact key a b ha hb (by rw [hfa,hfb]) (by simpa using h)
 ·obtain ⟨c,l,h1,h2⟩:=yS a.out
  simp [h1] at h
  exact absurd h.1 h2
 ·obtain ⟨c,l,h1,h2⟩:=yS b.out
  simp [h1] at h
  exact absurd h.1.symm h2
 ·exact key a b ha hb (by rw [hfa,hfb]) (by simpa using h)
theorem yU (n:Nat):∀ x∈num n,x<256:=fun x hx=>by
 rcases List.mem_append.1 hx with h | h
 ·exact (oY n x h).2.2
 ·simp at h;omega
theorem y9a (s:State):∀ x∈eX s,x<256:=by
 rw [yT]
 intro x hx
 rcases List.mem_append.1 hx with h | h
 ·split at h
  ·simp at h;omega
  ·cases h
 ·rcases List.mem_append.1 h with h | h
  ·exact yU _ x h
  ·obtain ⟨a,_,h⟩:=List.mem_flatMap.1 h
   rcases List.mem_append.1 h with h | h
   ·rcases List.mem_append.1 h with h | h
    ·exact yU _ x h
    ·exact yU _ x h
   ·exact yU _ x h
theorem w3t {a b:List Nat} (ha:∀ x∈a,x<256) (hb:∀ x∈b,x<256) (h:bs a=bs b):a=b:=by
 have e:∀ l:List Nat,(∀ x∈l,x<256)->(bs l).map UInt8.toNat=l:=fun l hl=>by
  unfold bs
  rw [List.map_map]
  exact (List.map_congr_left fun x hx=>by simp;exact hl x hx).trans (List.map_id l)
 rw [<- e a ha, <- e b hb,h]
theorem key_inj {a b:State} (ha:tN a) (hb:tN b):bs (eX a)=bs (eX b) ↔ a=b :=
 ⟨fun h=>y0f ha hb (w3t (y9a a) (y9a b) h),fun h=>by rw [h]⟩
/-! the map of keys -/
def Dm (ss:List State):Nat->DataW Unit
 | 0=> .map []
 | m+1=>(Dm ss m).put (.string (bs (eX (ss.getD m E1)))) (.lit (.int .i64 (m:Int)))
theorem z7o (ss:List State) (m:Nat):IsMap (Dm ss m):=by
 induction m with
 | zero=>exact ⟨[],rfl⟩
 | succ m ih=>exact IsMap.put ih _ _
theorem y6g (ss:List State) (s:State) (m:Nat) (h:m<=ss.length):Dm (ss++[s]) m=Dm ss m:=by
 induction m with
 | zero=>rfl
 | succ m ih =>
  simp only [Dm]
  rw [ih oM]
  have:(ss++[s]).getD m E1=ss.getD m E1:=by
   simp only [List.getD_eq_getElem?_getD]
   rw [List.getElem?_append_left oM]
  rw [this]
theorem x3a (ss:List State) (s:State):Dm (ss++[s]) (ss++[s]).length=(Dm ss ss.length).put (.string (bs (eX s))) (.lit (.int .i64 (ss.length:Int))):=by
 rw [List.length_append]
 show (Dm (ss++[s]) ss.length).put _ _=_
 rw [y6g _ _ _ nR]
 simp
theorem y8z (x:List UInt8):WideAt.IsKeyLit (Lit.string x):=trivial
theorem z2r {ss:List State} {s:State} (hs:tN s) (hg:∀ x∈ss,tN x):∀ m,m<=ss.length->has (Dm ss m) (.string (bs (eX s)))=decide (s∈ss.take m)
 | 0,_=>by simp [Dm,has]
 | m+1,hm=>by
  have n8:m<ss.length:=oM
  have gJ:ss.getD m E1=ss[m]:=by simp [List.getD_eq_getElem?_getD,n8]
  simp only [Dm]
  rw [gJ,List.take_add_one,D9 n8]
  by_cases hx:ss[m]=s
  ·rw [hx,has_put_same (z7o ss m) (y8z _)]
   simp
  ·rw [has_put_other (by intro h;injection h with h;exact hx ((key_inj hs (hg _ (List.getElem_mem n8))).1 h).symm),z2r hs hg m oM]
   refine decide_eq_decide.2 ⟨fun h=>List.mem_append_left _ h,fun h=>(List.mem_append.1 h).elim id (fun h=> ?_)⟩
   simp at h
   exact absurd h.symm hx
theorem w8h {ss:List State} {s:State} (hs:tN s) (hg:∀ x∈ss,tN x) (hn:ss.Nodup) (z:DataW Unit) {i:Nat} (hi:ss[i]? =some s):∀ m,m<=ss.length->i<m->(Dm ss m).atKey (.string (bs (eX s))) z= .lit (.int .i64 (i:Int))
 | 0,_,h=>by omega
 | m+1,hm,h=>by
  have n8:m<ss.length:=oM
  have gJ:ss.getD m E1=ss[m]:=by simp [List.getD_eq_getElem?_getD,n8]
  simp only [Dm]
  rw [gJ]
  by_cases hmi:m=i
  ·subst hmi
   have:ss[m]=s:=(E2 hi).2
   rw [this]
   exact atKey_put_same (z7o ss m) (y8z _) _ _
  ·have E6:ss[m]≠s:=fun e=>False.elim (by
    obtain ⟨P2,F3⟩:=E2 hi
    rcases Nat.lt_or_gt_of_ne hmi with hl | hl
    ·exact absurd (e.trans F3.symm) (List.pairwise_iff_getElem.1 hn m i n8 P2 hl)
    ·exact absurd (F3.trans e.symm) (List.pairwise_iff_getElem.1 hn i m P2 n8 hl))
   rw [atKey_put_other (by intro h;injection h with h;exact E6 ((key_inj hs (hg _ (List.getElem_mem n8))).1 h).symm)]
   exact w8h hs hg hn z hi m oM oM
theorem rL (l:List Nat) (h:l.length<=1000000):keyOf Tryz.prog 9 (.string (strOf l))=some (.string (bs l)):=by
 have:=WideMaps.keyOf_string_mk (P:=Tryz.prog) (k:=9) Tryz.underlying9 (s:=strOf l) (by rw [iR];unfold maxLen;omega)
 rw [this]
 rfl
theorem rM (n:Nat) (h:n<=1000000):plainElem (H:=Unit) Tryz.prog 3 (.int .i64 (n:Int))=some (.lit (.int .i64 (n:Int)),[]) :=
 plainElem_int Tryz.underlying3 (by simp [Lit.wf,IntKind.min,IntKind.max,IntKind.bits,IntKind.signed];omega)
theorem eY {s:State} (h:tN s):(eX s).length<=1000000:=by
 have:=X1 (n:=0) h.ok h.uG nR oM
 simpa [eX] using this
theorem aB {ss:List State} {s:State} (h:s∈ss):∃ i,ss[i]? =some s/\i<ss.length/\finish ss s=(ss,i):=by
 unfold finish
 cases hf:ss.findIdx? (. =s) with
 | none =>
  rw [List.findIdx?_eq_none_iff] at hf
  simpa using hf s h
 | some i =>
  rw [List.findIdx?_eq_some_iff_getElem] at hf
  obtain ⟨h1,h2,_⟩:=hf
  refine ⟨i,?_,h1,rfl⟩
  rw [D9 h1]
  simpa using h2
theorem dJ {ss:List State} {s:State} (h:s∉ss):finish ss s=(ss++[s],ss.length):=by
 unfold finish
 have:ss.findIdx? (. =s)=none:=by
  rw [List.findIdx?_eq_none_iff]
  intro x hx
  simp
  rintro rfl
  exact h hx
 rw [this]
section
variable {w:World} {b n:Nat} {ss:List State}
theorem w8g (w:World):(zeroValue 3).run Tryz.prog w= .ok (.int .i64 0) w:=Tryz.zeroValue3 w
theorem x2z (h:w.ownsMap Tryz.prog 9 (plainElem Tryz.prog 3) b n (Dm ss ss.length)) {s:State} (hs:tN s) (hg:∀ x∈ss,tN x) (hn:ss.Nodup) {i:Nat} (hi:ss[i]? =some s) :
  (Instr.lookup 118 (.map (some b)) (.string (strOf (eX s))) true).run Tryz.prog w= .ok (.tuple #[.int .i64 (i:Int),.bool true]) w:=by
 obtain ⟨v,ps,h1,h2⟩:=h.look_ok (string_keyed Tryz.underlying9) Tryz.underlying118 (w8g w) (rM 0 oM) (rL _ (eY hs))
 have P2:=(E2 hi).1
 rw [w8h hs hg hn _ hi _ nR P2] at h2
 obtain ⟨c,rfl,h3,_⟩:=plainElem_int_inv Tryz.underlying3 h2
 rw [h1,z2r hs hg _ nR,List.take_length,decide_eq_true (U0 hi)]
 have h4:c=(i:Int):=by simp at h3;exact h3.1.symm
 rw [h4]
theorem y0e (h:w.ownsMap Tryz.prog 9 (plainElem Tryz.prog 3) b n (Dm ss ss.length)) {s:State} (hs:tN s) (hg:∀ x∈ss,tN x) (hi:s∉ss) :
  ∃ c,(Instr.lookup 118 (.map (some b)) (.string (strOf (eX s))) true).run Tryz.prog w= .ok (.tuple #[.int .i64 c,.bool false]) w:=by
 obtain ⟨v,ps,h1,h2⟩:=h.look_ok (string_keyed Tryz.underlying9) Tryz.underlying118 (w8g w) (rM 0 oM) (rL _ (eY hs))
 obtain ⟨c,rfl,_⟩:=plainElem_int_inv Tryz.underlying3 h2
 refine ⟨c,?_⟩
 rw [h1,z2r hs hg _ nR,List.take_length,decide_eq_false hi]
end
/-! the registry in memory: what each block is (own): 0 garbage, 1 the box, 2 the states' row, 3 the map, 4 a6 that stay, 5 the way's row, 6 + i the a6 of the way's i-th state -/
structure bC (w:World) (base:Nat) (own:Nat->Nat) (g:Nat) (t:TypeId) (xs:List Value) (sv:Value) (mb:Nat) (ss:List State):Prop where
 lo:∀ k,k<base->own k=4
 box:w.heap[g]? =some (.cells (sv:: .map (some mb)::xs).toArray t (0,0))
 og:own g=1
 om:own mb=3
 map:w.ownsMap Tryz.prog 9 (plainElem Tryz.prog 3) mb ss.length (Dm ss ss.length)
 row:∃ cells,w.ownsRow base 46 3 sv ss.length cells/\(∀ k,sv.ownBlock=some k->own k=2)/\∀ (i:Nat) (s:State),ss[i]? =some s ->
  ∃ av,cells[i*3]? =some av/\cells[i*3+1]? =some (.bool s.final)/\cells[i*3+2]? =some (.int .u64 s.out)/\RA w (fun k=>own k=4) av s.a6
 nodup:ss.Nodup
 S7:∀ s∈ss,tN s
section
variable {w w':World} {base g mb:Nat} {own Y6:Nat->Nat} {t:TypeId} {xs:List Value} {sv:Value} {ss:List State} {S:Nat->Prop}
theorem pA {H:Type} {P:Program} {k:TypeId} {R:Value->Option (DataW H×List MemPlace)} {b n:Nat} {D:DataW H} (h:w.ownsMap P k R b n D) (hb:n4 S w w') (hn:¬ S b):w'.ownsMap P k R b n D:=by
 obtain ⟨es,clock,h1,F,hs,hD⟩:=h
 exact ⟨es,clock,hb.heap h1 hn,F,hs,hD⟩
theorem bC.but (h:bC w base own g t xs sv mb ss) (hb:n4 S w w') (hS:∀ k,S k->own k=0\/5<=own k):bC w' base own g t xs sv mb ss:=by
 obtain ⟨cells,h1,h2,h3⟩:=h.row
 refine ⟨h.lo,hb.heap h.box (fun hs=> ?_),h.og,h.om,pA h.map hb (fun hs=> ?_),⟨cells,y7 h1 hb (fun k hk hs=> ?_),h2,fun i s hi=> ?_⟩,h.nodup,h.S7⟩
 ·have:=hS g hs;have:=h.og;omega
 ·have:=hS mb hs;have:=h.om;omega
 ·have:=hS k hs;have:=h2 k hk;omega
 ·obtain ⟨av,h4,h5,h6,h7⟩:=h3 i s hi
  exact ⟨av,h4,h5,h6,h7.but hb (fun k hk hs=>by have:=hS k hs;omega)⟩
theorem bC.later (h:bC w base own g t xs sv mb ss) (hb:Below w.heap.size w w'):bC w' base own g t xs sv mb ss:=h.but (n4.of (fun _=>False) hb) (fun _ hf=>hf.elim)
theorem bC.told (h:bC w base own g t xs sv mb ss) (hlo:∀ k,k<base->Y6 k=4) (hk:∀ k,k<w.heap.size->1<=own k->own k<=4->Y6 k=own k):bC w base Y6 g t xs sv mb ss:=by
 obtain ⟨cells,h1,h2,h3⟩:=h.row
 refine ⟨hlo,h.box,?_,?_,h.map,⟨cells,h1,fun k aX=> ?_,fun i s hi=> ?_⟩,h.nodup,h.S7⟩
 ·rw [hk g (j4 h.box) (by rw [h.og];omega) (by rw [h.og];omega)];exact h.og
 ·rw [hk mb h.map.lt (by rw [h.om];omega) (by rw [h.om];omega)];exact h.om
 ·have:=h2 k aX;rw [hk k (h1.lt k aX).2 oM oM];exact this
 ·obtain ⟨av,h4,h5,h6,h7⟩:=h3 i s hi
  exact ⟨av,h4,h5,h6,h7.more (fun k n8 hk4=>by rw [hk k n8 oM oM];exact hk4)⟩
theorem bC.cell0 (h:bC w base own g t xs sv mb ss):w.cell? ⟨g,0,none⟩=some sv:=by rw [cell_of_row _ _ 0 _ t (0,0) h.box];rfl
theorem bC.v3u (h:bC w base own g t xs sv mb ss):w.cell? ⟨g,1,none⟩=some (.map (some mb)):=by rw [cell_of_row _ _ 1 _ t (0,0) h.box];rfl
theorem bC.frozen (h:bC w base own g t xs sv mb ss) (i:Nat):w.frozen? ⟨g,i,none⟩=false:=j3 h.box
theorem bC.form (h:bC w base own g t xs sv mb ss):∃ A c,sv= .slice A ss.length c/\ss.length<=c:=by
 obtain ⟨cells,h1,_⟩:=h.row
 rcases h1.2 with ⟨rfl,h0⟩ | ⟨b,cap,cur,rfl,_,_,hc,_⟩
 ·exact ⟨none,0,by rw [h0],oM⟩
 ·exact ⟨_,_,rfl,hc⟩
theorem bC.aC (h:bC w base own g t xs sv mb ss):base<=w.heap.size:=by
 have h1:=j4 h.box
 rcases Nat.lt_or_ge g base with h2 | h2
 ·have:=h.lo g h2;have:=h.og;omega
 ·omega
theorem bC.y0d (h:bC w base own g t xs sv mb ss):g≠mb:=fun e=>by have h1:=h.og;have h2:=h.om;rw [e] at h1;omega
def Cells (w:World) (own:Nat->Nat) (cells:List Value) (ss:List State):Prop:=∀ (i:Nat) (s:State),ss[i]? =some s ->
  ∃ av,cells[i*3]? =some av/\cells[i*3+1]? =some (.bool s.final)/\cells[i*3+2]? =some (.int .u64 s.out)/\RA w (fun k=>own k=4) av s.a6
theorem bC.snoc {w4 w5:World} {s:State} {av sv':Value} {cells:List Value} (h:bC w base own g t xs sv mb ss) (hg4:w.grownBy w4 (some mb))
  (hM4:w4.ownsMap Tryz.prog 9 (plainElem Tryz.prog 3) mb (ss.length+1) ((Dm ss ss.length).put (.string (bs (eX s))) (.lit (.int .i64 (ss.length:Int))))) (F2:n4 (fun k=>own k=1\/own k=2) w4 w5)
  (N5:cells.length=ss.length*3) (yV:Cells w own cells ss) (kN:w5.ownsRow base 46 3 sv' (ss.length+1) (cells++[av,.bool s.final,.int .u64 s.out])) (F4:∀ k,sv'.ownBlock=some k->own k=2)
  (w3s:w5.heap[g]? =some (.cells (sv':: .map (some mb)::xs).toArray t (0,0))) (bA:RA w (fun k=>own k=4) av s.a6) (a8:tN s) (y0c:s∉ss):bC w5 base own g t xs sv' mb (ss++[s]):=by
 have yD:=h.om
 have X6:n4 (fun k=>k=mb) w w4:=n4.grown hg4 (fun k hk=>by injection hk with hk;exact hk.symm)
 have y6f:∀ {v:Value} {l:List r7},RA w (fun k=>own k=4) v l->RA w5 (fun k=>own k=4) v l:=fun hr =>
  (hr.but X6 (fun k hk e=>by subst e;omega)).but F2 (fun k hk e=>oM)
 refine ⟨h.lo,w3s,h.og,h.om,?_,⟨_,by rw [List.length_append];exact kN,F4,fun i x hi=> ?_⟩,?_,fun x hx=> ?_⟩
 ·rw [x3a,List.length_append]
  exact pA hM4 F2 (fun e=>oM)
 ·by_cases n8:i<ss.length
  ·rw [List.getElem?_append_left n8] at hi
   obtain ⟨av',h4,h5,h6,h7⟩:=yV i x hi
   exact ⟨av',by rw [List.getElem?_append_left oM];exact h4,by rw [List.getElem?_append_left oM];exact h5,by rw [List.getElem?_append_left oM];exact h6,y6f h7⟩
  ·rw [List.getElem?_append_right oM] at hi
   have nK:i-ss.length=0:=by
    have:=(E2 hi).1
    simp at this
    omega
   rw [nK] at hi
   injection hi with hi
   subst hi
   have F3:i=ss.length:=oM
   subst F3
   refine ⟨av,?_,?_,?_,y6f bA⟩
   ·rw [List.getElem?_append_right oM,N5,Nat.sub_self];rfl
   ·rw [List.getElem?_append_right oM,N5,show ss.length*3+1-ss.length*3=1 by omega];rfl
   ·rw [List.getElem?_append_right oM,N5,show ss.length*3+2-ss.length*3=2 by omega];rfl
 ·rw [List.nodup_append]
  refine ⟨h.nodup,sP,fun a ha b hb=> ?_⟩
  simp at hb
  subst hb
  rintro rfl
  exact y0c ha
 ·rcases List.mem_append.1 hx with hx | hx
  ·exact h.S7 x hx
  ·simp at hx;subst hx;exact a8
end
theorem z7n:(Tryz.prog.info? 46).map (fun i=>(i.zero,i.size,i.bytes))=some (some (.agg #[.slice none 0 0,.bool false,.int .u64 0]),3,40):=kR
theorem y6e:(Tryz.prog.info? 71).map (fun i=>(i.zero,i.size,i.bytes))=some (some (.agg #[.int .u8 0,.int .u64 0,.int .i64 0]),3,24):=kR
theorem rN:(Tryz.prog.info? 126).map (fun i=>(i.zero,i.size,i.bytes))=some (some (.agg #[.slice none 0 0,.bool false,.int .u64 0,.int .u8 0]),4,48):=kR
end Dw
end Go.Proofs.YtcddnmhmcieebaaGreatDoor
