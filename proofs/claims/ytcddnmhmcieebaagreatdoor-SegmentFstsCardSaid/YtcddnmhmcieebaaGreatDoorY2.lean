import Derived.Test.YtcddnmhmcieebaaGreatDoorY1
import Derived.Laws.BytesArg
import Derived.Maps.OwnSet
import Derived.Maps.Views
import Derived.StringKeys
namespace Go.Proofs.YtcddnmhmcieebaaGreatDoor
set_option linter.unusedSimpArgs false
set_option linter.unusedVariables false
set_option linter.unnecessarySimpa false
set_option maxHeartbeats 4000000
set_option maxRecDepth 100000
open Go.RowKit
namespace Dw
def dg (d:Nat):Nat:=if d<10 then 48+d else 87+d
def mA (n:Nat):List Nat:=if h:n<36 then [dg n] else mA (n / 36)++[dg (n%36)]
termination_by n
def strOf (l:List Nat):ByteArray:=⟨(l.map UInt8.ofNat).toArray⟩
def bs (l:List Nat):List UInt8:=l.map UInt8.ofNat
def num (n:Nat):List Nat:=mA n++[32]
theorem byteCells_length (l:List Nat):(Lib.byteCells (bs l)).length=l.length:=by simp [Lib.byteCells,bs]
theorem jC (l:List Nat):(strOf l).size=l.length:=by simp [strOf,ByteArray.size]
theorem He:∀ (k n:Nat),n<36^(k+1)->(mA n).length<=k+1
 | 0,n,h=>by rw [mA,dif_pos (by simpa using h)];simp
 | k+1,n,h=>by
  rw [mA]
  split
  ·simp
  ·have h2:n / 36<36^(k+1):=by
    rw [Nat.div_lt_iff_lt_mul oM]
    rw [Nat.pow_succ] at h
    exact h
   have:=He k (n / 36) h2
   simp
   omega
theorem jD (u:Nat) (hu:u<18446744073709551616):(mA u).length<=13:=He 12 u (by
 have:(36:Nat)^(12+1)=170581728179578208256:=dC
 omega)
theorem K3 (u:Nat) (hu:u<18446744073709551616):(num u).length<=14:=by have:=jD u hu;simp [num];omega
theorem Kn (l:List Nat) (u:Nat):Lib.byteCells (bs l)++Lib.strCells (strOf (mA u))++[.int .u8 32]=Lib.byteCells (bs (l++num u)):=by
 simp [Lib.byteCells,bs,Lib.strCells,strOf,num]
structure hP (w:World) (p i:Nat) (tl:List Nat):Prop where
 size:i+tl.length=65
 cells:∃ cs:Array Value,w.heap[p]? =some (.cells cs 255 (0,0))/\cs.size=65/\∀ (j x:Nat),tl[j]? =some x->cs[i+j]? =some (.int .u8 (x:Int))
theorem hP.start (w:World):hP (w.alloc (.cells Tryz.zeroCells255 255)) w.heap.size 65 [] :=
 ⟨rfl,_,heap_alloc_new w _,kR,fun j x h=>by simp at h⟩
theorem hP.frozen {w:World} {p i:Nat} {tl:List Nat} (h:hP w p i tl):∀ j:Nat,w.frozen? ⟨p,j,none⟩=false:=by
 obtain ⟨cs,h1,_⟩:=h.cells
 exact fun j=>j6 h1
theorem hP.cell {w:World} {p i:Nat} {tl:List Nat} (h:hP w p i tl) {j x:Nat} (hx:tl[j]? =some x):w.cell? ⟨p,i+j,none⟩=some (.int .u8 (x:Int)):=by
 obtain ⟨cs,h1,h2,h3⟩:=h.cells
 rw [cell_of_row _ _ (i+j) _ 255 (0,0) h1]
 exact h3 j x hx
theorem hP.any {w:World} {p i:Nat} {tl:List Nat} (h:hP w p i tl) {j:Nat} (hj:j<65):∃ v,w.cell? ⟨p,j,none⟩=some v:=by
 obtain ⟨cs,h1,h2,h3⟩:=h.cells
 exact ⟨cs[j],by rw [cell_of_row _ _ j _ 255 (0,0) h1];simp [h2,hj]⟩
theorem hP.put {w:World} {p i:Nat} {tl:List Nat} (h:hP w p i tl) (x:Nat) (hi:0<i):hP (w.setCell ⟨p,i-1,none⟩ (.int .u8 (x:Int))) p (i-1) (x::tl):=by
 obtain ⟨cs,h1,h2,h3⟩:=h.cells
 have hs:=h.size
 refine ⟨by simp only [List.length_cons];omega,_,k7 h1 _,by simpa using h2,fun j y hy=> ?_⟩
 cases j with
 | zero =>
  simp at hy
  subst hy
  rw [Nat.add_zero,Array.getElem?_setIfInBounds_self_of_lt oM]
 | succ j =>
  have:=h3 j y (by simpa using hy)
  rw [Array.getElem?_setIfInBounds_ne oM, <- this]
  congr 1
  omega
theorem Pq {u v n:Nat} (h:v*36^n<=u) (hu:u<18446744073709551616) (hv:1<=v):n<=12:=by
 rcases Nat.lt_or_ge n 13 with h2 | h2
 ·omega
 ·have h3:=Nat.pow_le_pow_right (show 0<36 by omega) h2
  have h4:36^n<=v*36^n:=Nat.le_mul_of_pos_left _ hv
  have h5:(36:Nat)^13=170581728179578208256:=dC
  omega
theorem wJ:∀ d:Nat,∀ h:d<(⟨#[48,49,50,51,52,53,54,55,56,57,97,98,99,100,101,102,103,104,105,106,107,108,109,110,111,112,113,114,115,116,117,118,119,120,121,122]⟩:ByteArray).size,
  ((⟨#[48,49,50,51,52,53,54,55,56,57,97,98,99,100,101,102,103,104,105,106,107,108,109,110,111,112,113,114,115,116,117,118,119,120,121,122]⟩:ByteArray)[d]'h).toNat=dg d:=by
 intro d h
 have h36:d<36:=h
 have key:∀ x:Fin 36,((#[48,49,50,51,52,53,54,55,56,57,97,98,99,100,101,102,103,104,105,106,107,108,109,110,111,112,113,114,115,116,117,118,119,120,121,122]:Array UInt8)[x.val]'(x.isLt)).toNat=dg x.val:=dC
 exact key ⟨d,h36⟩
theorem Ps {u v q d:Nat} {tl:List Nat} (h:mA u=mA v++tl) (hv:36<=v) (hq:v / 36=q) (hd:v-36*q=d):mA u=mA q++dg d::tl:=by
 rw [h,mA,dif_neg (by omega),hq,show v%36=d by omega]
 simp
theorem Kq {u v q:Nat} {tl:List Nat} (x:Nat) (h:v*36^tl.length<=u) (hq:36*q<=v):q*36^(x::tl).length<=u:=by
 refine Nat.le_trans ?_ h
 rw [List.length_cons,Nat.pow_succ,Nat.mul_comm _ 36, <- Nat.mul_assoc,Nat.mul_comm q 36]
 exact Nat.mul_le_mul_right _ hq
theorem Pt (w:World) (p i:Nat) (hi:i<65):(Instr.sliceAt 255 (.pointer (some ⟨p,0,none⟩)) (some (.int .i64 (i:Int))) none none).run Tryz.prog w= .ok (.slice (some ⟨p,i,none⟩) (65-i) (65-i)) w:=by
 have hl:Tryz.prog.arrayLen 255=65:=kR
 have h:=run_sliceAt_array_l (P:=Tryz.prog) w 255 ⟨p,0,none⟩ kR .i64 (i:Int) oM (by rw [hl];omega)
 rw [hl] at h
 rw [h]
 have he:Tryz.prog.elem 255=5:=kR
 rw [he,Tryz.sizeOf5]
 simp only [Result.andThen,slicedAt,Int.toNat_natCast,Nat.mul_one]
 rw [if_neg (by omega)]
 have ha:(⟨p,0,none⟩:Addr).add i=⟨p,i,none⟩:=by unfold Addr.add;split<;>simp_all
 rw [ha]
theorem hP.conv {w:World} {p i:Nat} {tl:List Nat} (h:hP w p i tl) (m c:Nat) (hm:m=tl.length):(convert 31 9 (.slice (some ⟨p,i,none⟩) m c)).run Tryz.prog w= .ok (.string (strOf tl)) w:=by
 subst hm
 have:=run_convert_bytes_arg (P:=Tryz.prog) w 31 5 Tryz.underlying31 Tryz.underlying5 p i tl.length c (tl.map fun (x:Nat)=>(x:Int)) sP (fun j hj=>by
  rw [h.cell (F8 hj)]
  simp [hj]) 9 Tryz.underlying9
 rw [this]
 simp [strOfNums,strOf,Function.comp_def]
theorem zm  (w:World):Calls Tryz.prog 172 #[.int .i64 36] w fun e w1=>e= .returned (.bool false)/\w=w1:=by
 refine L7 8 Tryz.func172 fun fr hf s0=> ?_
 refine Ze fun _ a8=>Zr [] hf ?_
 refine p5 0 hf ?_
 clear hf s0;intro a7 hf s0
 refine Zs a8 fun _ a8=>Zr [3,4,5,6,7] hf ?_
 refine p5 2 hf ?_
 clear hf s0;intro a7 hf s2
 refine Zx a8 (k8 ?_)
 exact Fc.o6 rfl hf s2 ⟨rfl,rfl⟩
theorem gw (u:Nat) (hu:u<18446744073709551616) (w:World):E2 w 166 #[.slice none 0 0,.int .u64 u,.int .i64 36,.bool false,.bool false] (.tuple #[.slice none 0 0,.string (strOf (mA u))]):=by
 refine Zn5 102 Tryz.func166 fun fr hf s0 s1 s2 s3 s4=> ?_
 refine Ze fun _ a8=>Zr [] hf ?_
 refine Z1 0 1 2 3 4 10 11 hf ?_
 clear hf s0 s1 s2 s3 s4;intro a7 hf sS
 refine Zs a8 fun _ a8=>Ze fun _ j8=>Zr [19,20,21,22,23,24,25,26,27] hf ?_
 refine mF 0 1 2 3 4 10 11 28 hf ?_
 intro a7 hf sS
 refine Zx j8 (Fc.k9 sS.2.2.2.2.2.2.2 ?_)
 refine wp_skip (Zs a8 fun _ a8=>Zr [] hf ?_)
 refine mF 0 1 2 3 4 10 11 12 hf ?_
 intro a7 hf sS
 generalize p8:w.alloc (.cells Tryz.zeroCells255 255)=W0
 have o7:Below w.heap.size w W0:=by rw [<- p8];exact (Below.refl _ _).alloc nR _
 have hd0:hP W0 w.heap.size 65 []:=by rw [<- p8];exact hP.start w
 clear p8
 refine Zs a8 fun _ a8=>Zr [] hf ?_
 refine tZ 0 1 2 3 4 10 11 12 13 hf ?_
 intro a7 hf sS
 refine Zs a8 fun _ a8=>Ze fun _ j8=>Zr [] hf ?_
 refine gV 0 1 2 3 4 10 11 12 13 30 hf ?_
 intro a7 hf sS
 refine Zx j8 (Fc.k9 sS.2.2.2.2.2.2.2.2.2 ?_)
 refine wp_skip (Zs a8 fun _ a8=>Ze fun _ j8=>rg ?_)
 have bB:=hf.b 33
 refine Zy ?_
 refine Zc (zm W0) ?_;rintro e w2 ⟨rfl,rfl⟩
 refine Zv ?_
 refine Fc.nil (gV 0 1 2 3 4 10 11 12 13 34 hf ?_)
 intro a7 hf sS
 refine Zx j8 (Fc.k9 sS.2.2.2.2.2.2.2.2.2 ?_)
 refine Ze fun _ j8=>Zr [64,65] hf ?_
 refine tZ 0 1 3 4 10 11 12 13 17 hf ?_
 intro a7 hf sS
 refine Zs j8 fun _ j8=>wp_block (wp_loop_ghost (fun gk fr wr=>∃ (i v:Nat) (tl:List Nat),gk=v/\Fc.Fr 102 fr/\fr.tmps[3]? =some (.bool false)/\fr.tmps[4]? =some (.bool false)/\fr.tmps[10]? =some (.slice none 0 0)/\fr.tmps[12]? =some (.pointer (some ⟨w.heap.size,0,none⟩))/\fr.tmps[17]? =some (.int .u64 36)/\fr.tmps[1]? =some (.int .u64 v)/\fr.tmps[13]? =some (.int .i64 i)/\hP wr w.heap.size i tl/\mA u=mA v++tl/\v*36^tl.length<=u/\tl.length<=12/\Below w.heap.size w wr) (u) ?_ ?_)
 . (
 obtain ⟨s0,s1,s3,s4,u4,D9,F7,D1,G7⟩:=sS
 exact ⟨65,u,[],rfl,hf,s3,s4,u4,F7,G7,s1,D1,hd0,sP,sP,sP,o7⟩)
 . (
 clear hf sS
 rintro gk fr wr ⟨i,v,tl,hk,hf,s3,s4,u4,F7,G7,s1,D1,hd,zk,hle,h12,hb⟩
 have HK:=H9 hk;have HD:=H9 zk;have HL:=H9 hle;have C8:=H9 hd.size
 have x3a:i<=65:=by have:=hd.size;omega
 have AL:=hd.frozen
 clear hk zk hle
 refine Ze fun _ l8=>Ze fun _ F5=>Zr [66,67] hf ?_
 refine mF 1 3 4 10 12 13 17 68 hf ?_
 clear hf s1 s3 s4 u4 F7 D1 G7;intro a7 hf sS
 refine Zx F5 (Fc.l0 sS.2.2.2.2.2.2.2 (fun hq=> ?_) (fun hq=> ?_))
 . (
 have Uz:36<=v:=qT
 have x2z:v<18446744073709551616:=by have:=Nat.le_mul_of_pos_right v (Nat.pow_pos (n:=tl.length) (show 0<36 by omega));have:=HL.out;omega
 have JX:40<=i:=by have:=C8.out;omega
 have hdv:((v:Int).tdiv 36)=((v / 36:Nat):Int):=by rfl
 obtain ⟨q,C5⟩:∃ q,v / 36=q:=⟨_,rfl⟩
 have hqv:36*q<=v/\v<36*q+36:=oM
 rw [C5] at hdv
 have HQ:=H9 C5;clear C5
 obtain ⟨d,Yr⟩:∃ d,v-36*q=d:=⟨_,rfl⟩
 have y7s:d<36:=oM
 have hdi:(v:Int)-(q:Int)*36=(d:Int):=oM
 have zj:=H9 Yr;have HDI:=H9 hdi;clear Yr hdi
 have A8:=hd.put (dg d) oM
 obtain ⟨vx,hvx⟩:=hd.any (j:=i-1) oM
 have hii:(i:Int)-1=((i-1:Nat):Int):=oM
 refine wp_skip (Zx l8 (wp_block (Ze fun _ l8=>rg ?_)))
 have bB:=hf.B2 69 70
 refine Zy ?_
 refine fp fun K Z=> ?_
 go_simp
 try simp (disch:=omega) only [Fc.W]
 try rw [hii]
 apply Z.out;clear Z K
 refine Zy ?_
 refine Fc.nil (Z1 1 3 4 10 12 13 17 hf ?_)
 intro a7 hf sS
 refine Zt l8 fun _ l8=> ?_
 have bB:=hf.B3 71 72 73
 iterate 2 refine Zy ?_
 refine fp fun K Z=> ?_
 go_simp
 try rw [hdv]
 try simp (disch:=omega) only [Fc.wrap_u64]
 apply Z.out;clear Z K
 refine Zy ?_
 refine Fc.nil (mF 1 3 4 10 12 13 17 18 hf ?_)
 intro a7 hf sS
 refine Zt l8 fun _ l8=> ?_
 have bB:=hf.B8 74 75 76 77 78 79 80 81
 iterate 5 refine Zy ?_
 refine fp fun K Z=> ?_
 go_simp
 try simp (disch:=omega) only [Fc.W]
 rw [HDI.out]
 apply Z.out;clear Z K
 refine fp fun K Z=> ?_
 go_simp
 rw [dif_pos (by omega)]
 rw [wJ d y7s]
 apply Z.out;clear Z K
 iterate 2 refine Zy ?_
 refine Fc.nil (Z1 3 4 10 12 13 17 18 hf ?_)
 intro a7 hf sS
 refine Zx l8 (Zr [82] hf ?_)
 refine Z1 1 3 4 10 12 13 17 hf ?_
 intro a7 hf sS
 refine Fc.j9 (Fc.j7 ?_)
 have o8:=Kq (dg d) HL.out hqv.1
 obtain ⟨s1,s3,s4,u4,F7,D1,G7⟩:=sS
 exact ⟨_,by have:=HK.out;omega,i-1,q,dg d::tl,rfl,hf,s3,s4,u4,F7,G7,s1,D1,A8,Ps HD.out Uz HQ.out zj.out,o8,Pq o8 hu oM,hb.setCell nR _⟩)
 . (
 have Uz:v<36:=qF
 have JX:40<=i:=by have:=C8.out;omega
 have hii:(i:Int)-1=((i-1:Nat):Int):=oM
 have A8:=hd.put (dg v) oM
 obtain ⟨vx,hvx⟩:=hd.any (j:=i-1) oM
 refine Zo ?_
 refine Zt j8 fun _ j8=> ?_
 have bB:=hf.B2 83 84
 refine Zy ?_
 refine fp fun K Z=> ?_
 go_simp
 try simp (disch:=omega) only [Fc.W]
 try rw [hii]
 apply Z.out;clear Z K
 refine Zy ?_
 refine Fc.nil (F1 1 3 4 10 12 13 hf ?_)
 intro a7 hf sS
 refine Zx j8 (rg ?_)
 have bB:=hf.B4 85 86 87 88
 iterate 2 refine Zy ?_
 refine fp fun K Z=> ?_
 go_simp
 rw [dif_pos (by omega)]
 rw [wJ v Uz]
 apply Z.out;clear Z K
 iterate 2 refine Zy ?_
 refine Fc.nil (D2 3 4 10 12 13 hf ?_)
 intro a7 hf sS
 refine Zs a8 fun _ a8=>Ze fun _ j8=>Zr [] hf ?_
 refine D2 4 10 12 13 89 hf ?_
 intro a7 hf sS
 refine Zx j8 (Fc.k9 sS.2.2.2.2 ?_)
 refine wp_skip (Zs a8 fun _ a8=>Ze fun _ j8=>Zr [] hf ?_)
 refine z8 10 12 13 94 hf ?_
 intro a7 hf sS
 refine Zx j8 (Fc.k9 sS.2.2.2 ?_)
 refine wp_skip (Zt a8 fun _ a8=> ?_)
 have bB:=hf.B3 99 100 101
 refine Zy ?_
 refine fp fun K Z=> ?_
 go_simp
 rw [Pt _ _ _ oM]
 apply Z.out;clear Z K
 refine fp fun K Z=> ?_
 go_simp
 rw [A8.conv _ _ (by simp only [List.length_cons];have:=C8.out;omega)]
 apply Z.out;clear Z K
 refine Zy ?_
 refine Fc.nil (y4 10 11 hf ?_)
 intro a7 hf sS
 refine Zx a8 (k8 ?_)
 have hdg:mA u=dg v::tl:=by rw [HD.out,mA,dif_pos Uz];rfl
 exact Fc.H6 rfl hf sS.1 sS.2 ⟨by rw [hdg],hb.setCell nR _⟩))
theorem zi (u:Nat) (hu:u<18446744073709551616) (w:World):E2 w 155 #[.int .u64 u,.int .i64 36] (.string (strOf (mA u))):=by
 refine Z6 32 Tryz.func155 fun fr hf s0 s1=> ?_
 refine Ze fun _ a8=>Zr [] hf ?_
 refine y4 0 1 hf ?_
 clear hf s0 s1;intro a7 hf sS
 refine Zs a8 fun _ a8=>Ze fun _ j8=>Zr [9] hf ?_
 refine y7 0 1 10 hf ?_
 intro a7 hf sS
 refine Zx j8 (Fc.k9 sS.2.2 ?_)
 refine wp_skip (Zt a8 fun _ a8=> ?_)
 have bB:=hf.B6 26 27 28 25 29 30
 iterate 2 refine Zy ?_
 refine Zc (gw u hu w) ?_;rintro e w1 ⟨rfl,hb⟩
 refine Zv ?_
 iterate 5 refine Zy ?_
 refine Fc.nil (p5 8 hf ?_)
 intro a7 hf s8
 refine Zs a8 fun _ a8=>Zr [31] hf ?_
 refine p5 4 hf ?_
 clear hf s8;intro a7 hf s4
 refine Zx a8 (k8 ?_)
 exact Fc.o6 rfl hf s4 ⟨rfl,hb⟩
theorem zh (u:Nat) (hu:u<18446744073709551616) (w:World):E2 w 135 #[.int .u64 u,.int .i64 36] (.string (strOf (mA u))):=by
 refine Z6 8 Tryz.func135 fun fr hf s0 s1=> ?_
 refine Ze fun _ a8=>Zr [] hf ?_
 refine y4 0 1 hf ?_
 clear hf s0 s1;intro a7 hf sS
 refine Zt a8 fun _ a8=> ?_
 have bB:=hf.B3 5 6 7
 iterate 2 refine Zy ?_
 refine Zc (zi u hu w) ?_;rintro e w1 ⟨rfl,hb⟩
 refine Zv ?_
 refine Zy ?_
 refine Fc.nil (p5 4 hf ?_)
 intro a7 hf s4
 refine Zx a8 (k8 ?_)
 exact Fc.o6 rfl hf s4 ⟨rfl,hb⟩
theorem oG (w:World) (B b:Nat) (l:List Nat) (u:Nat) (hu:u<18446744073709551616) (hB:Lib.IsBuilder 111 5 B b (Lib.byteCells (bs l)) w) (hBw:B<=w.heap.size) (hl:l.length<=1000000):Calls Tryz.prog 134 #[.int .u64 u,.pointer (some ⟨b,0,none⟩)] w fun e w1=>e= .returned (.tuple #[])/\Lib.IsBuilder 111 5 B b (Lib.byteCells (bs (l++num u))) w1/\Below B w w1/\Lib.OthersKept 5 (some b) w w1:=by
 refine Z6 7 Tryz.func134 fun fr hf s0 s1=> ?_
 refine Ze fun _ a8=>rg ?_
 have bB:=hf.B2 3 4
 refine Zy ?_
 refine Zc (zh u hu w) ?_;rintro e w1 ⟨rfl,p6⟩
 have gv:=fN hB p6
 refine Zv ?_
 refine Zc (Dz B b _ (strOf (mA u)) w1 gv (by rw [byteCells_length,jC];have:=jD u hu;omega) (by have:=p6.size;omega)) ?_;rintro e w2 ⟨rfl,wK,r8,M9⟩
 refine Zv ?_
 refine Fc.nil (p5 1 hf ?_)
 clear hf s0 s1 bB;intro a7 hf s1
 refine Zx a8 (rg ?_)
 refine Zc (vL B b _ 32 w2 (.inr wK) (by rw [List.length_append,byteCells_length,Lib.strCells_length,jC];have:=jD u hu;omega) (by have:=p6.size;have:=r8.size;omega)) ?_;rintro e w3 ⟨rfl,Sn,G4,yJ⟩
 refine Zv ?_
 refine Fc.nil (Dq hf ?_)
 clear hf s1;intro a7 hf
 refine Fc.mE rfl hf ⟨rfl,.inr ?_,((p6.mono hBw).trans r8).trans G4,((xW _ _ p6).trans M9).trans yJ⟩
 rw [Kn] at Sn
 exact Sn
def sC (s:State) (i:Nat):List Nat:=(if s.final then [33] else [])++num s.out++(s.j4.take i).flatMap fun a=>num a.byte++num a.out++num a.to.toNat
def fV (s:State):List Nat:=sC s s.j4.length
theorem wL (s:State):sC s 0=(if s.final then [33] else [])++num s.out:=by simp [sC]
theorem wM {s:State} {i:Nat} {a:u3} (h:s.j4[i]? =some a):sC s (i+1)=sC s i++num a.byte++num a.out++num a.to.toNat:=by
 have ht:s.j4.take (i+1)=s.j4.take i++[a]:=by rw [List.take_add_one,h];rfl
 simp [sC,ht]
theorem Y7 {s:State} {i n:Nat} (cY:L3 s) (Z7:s.j4.length<=256) (hi:i<=s.j4.length) (hn:n<=28):(sC s i).length+n<=1000000:=by
 have h1:∀ l:List u3,(∀ a∈l,uA a)->(l.flatMap fun a=>num a.byte++num a.out++num a.to.toNat).length<=l.length*42:=by
  intro l
  induction l with
  | nil=>simp
  | cons a l ih =>
   intro h
   have h2:=h a (List.mem_cons_self ..)
   have h3:=K3 a.byte (by have:=h2.1;omega)
   have h4:=K3 a.out h2.2.1
   have h5:=K3 a.to.toNat (by have:=h2.2.2.2;omega)
   have h6:=ih (fun x hx=>h x (List.mem_cons_of_mem _ hx))
   simp only [List.flatMap_cons,List.length_append,List.length_cons]
   omega
 have h2:=h1 (s.j4.take i) (fun a ha=>cY.2.2 a (List.mem_of_mem_take ha))
 have h3:=K3 s.out cY.1
 have h4:(s.j4.take i).length<=256:=sO
 have h5:(if s.final then [33] else ([]:List Nat)).length<=1:=by split<;>simp
 unfold sC
 simp only [List.length_append] at h2 |-
 omega
theorem gQ {w w':World} {b k:Nat} {cs:Array Value} {t:TypeId} {fr:Nat×Nat} (hk:Lib.OthersKept 5 (some b) w w') (h:w.heap[k]? =some (.cells cs t fr)) (ht:t≠5) (hb:k≠b):w'.heap[k]? =some (.cells cs t fr) :=
 hk k _ h (fun e=>hb (by injection e)) (fun c fz e=>ht (by injection e))
theorem zg (w:World) (s:State) (B:Nat->Prop) (av:Value) (S7:RA w B av s.j4) (cY:L3 s) (ze:∀ a∈s.j4,0<=a.to) (Z7:s.j4.length<=256):E2 w 92 #[bW av s] (.string (strOf (fV s))):=by
 refine L7 38 Tryz.func92 fun fr hf s0=> ?_
 have ha:=S7
 obtain ⟨A,cc,rfl,U0⟩:=ha.form
 have zd:=cY.1
 have HT:=H9 ze;clear ze
 simp only [bW] at s0
 refine Ze fun _ a8=>Zr [] hf ?_
 refine p5 1 hf ?_
 clear hf s0;intro a7 hf s1
 generalize p8:w.alloc (.cells #[.slice A s.j4.length cc,.bool s.final,.int .u64 s.out] 46)=W0
 obtain ⟨o7,c0,c1,c2, -,R6⟩:=E7 p8
 clear p8
 have fG:w.heap.size<W0.heap.size:=by rw [R6];exact Nat.lt_succ_self _
 clear R6
 have EL:=ha.later o7
 refine Zs a8 fun _ a8=>Zr [] hf ?_
 refine y4 1 3 hf ?_
 clear hf s1;intro a7 hf sS
 generalize P2:W0.alloc (.cells #[.pointer none,.slice none 0 0] 111)=W1
 have VA:=fresh W0;rw [P2] at VA
 have p6:Below W0.heap.size W0 W1:=by rw [<- P2];exact (Below.refl _ _).alloc nR _
 have y7q:W0.heap.size<=W1.heap.size:=p6.size
 clear P2
 replace c0:=cL p6 c0;replace c1:=cL p6 c1;replace c2:=cL p6 c2;have zc:=EL.later p6
 have lS:Below W0.heap.size W0 W1:=p6
 refine Zs a8 fun _ a8=>Zr [7] hf ?_
 refine y7 1 3 4 hf ?_
 intro a7 hf sS
 refine Zs a8 fun _ a8=>Ze fun _ j8=>Zr [8] hf ?_
 refine z8 1 3 4 9 hf ?_
 intro a7 hf sS
 refine Zx j8 ?_
 rcases p7:s.final with _ | _
 . (
 obtain ⟨s1,s3,s4,s9⟩:=sS
 try rw [p7] at s9
 refine Fc.k9 s9 ?_
 obtain ⟨w2,EU⟩:∃ w2,w2=W1:=⟨_,rfl⟩
 have hI2:Lib.IsBuilder 111 5 W0.heap.size W0.heap.size (Lib.byteCells (bs (if s.final then [33] else []))) w2:=by rw [p7,EU];exact VA
 have r8:Below W0.heap.size W1 w2:=by rw [EU];exact Below.refl _ _
 try rw [<- EU]
 clear EU
 refine wp_skip (Zs a8 fun _ a8=> ?_)
 have d0:=H7 r8 c0 (show w.heap.size<W0.heap.size by omega);have d2:=H7 r8 c2 (show w.heap.size<W0.heap.size by omega)
 refine rg ?_
 have bB:=hf.B3 11 12 13
 iterate 3 refine Zy ?_
 refine Zc (oG w2 W0.heap.size W0.heap.size _ s.out zd hI2 (by have:=r8.size;omega) (by split<;>simp)) ?_;rintro e w3 ⟨rfl,hI3,G4, -⟩
 refine Zv ?_
 refine Fc.nil (y7 1 3 4 hf ?_)
 clear hf s1 s3 s4 s9 bB;intro a7 hf sS
 have d3:=H7 G4 d0 (show w.heap.size<W0.heap.size by omega)
 have iS:=(lS.trans r8).trans G4
 refine Zs a8 fun _ a8=>Ze fun _ j8=>Zr [15,16] hf ?_
 refine D2 3 4 16 17 18 hf ?_
 intro a7 hf sS
 refine Zx j8 (wp_block ?_)
 clear d0 d2 d3 c0 c1 c2
 refine wp_loop_ghost (fun gk fr wr=>∃ (i:Nat),gk=s.j4.length-i/\i<=s.j4.length/\Fc.Fr 38 fr/\fr.tmps[3]? =some (.pointer (some ⟨W0.heap.size,0,none⟩))/\fr.tmps[4]? =some (.func (.func 134) #[] #[.pointer (some ⟨W0.heap.size,0,none⟩)])/\fr.tmps[16]? =some (.slice A s.j4.length cc)/\fr.tmps[17]? =some (.int .i64 s.j4.length)/\fr.tmps[18]? =some (.int .i64 i)/\Lib.IsBuilder 111 5 W0.heap.size W0.heap.size (Lib.byteCells (bs (sC s i))) wr/\Below W0.heap.size W0 wr) (s.j4.length) ?_ ?_
 . (
 obtain ⟨s3,s4,Y5,G7,Q0⟩:=sS
 exact ⟨0,rfl,Nat.zero_le _,hf,s3,s4,Y5,G7,Q0,by rw [wL];exact hI3,iS⟩)
 . (
 clear hf sS
 rintro gk fr wr ⟨i,hk,hi,hf,s3,s4,Y5,G7,Q0,hI,hb⟩
 have HK:=H9 hk;clear hk
 refine Ze fun _ j8=>Zr [] hf ?_
 refine F1 3 4 16 17 18 19 hf ?_
 clear hf s3 s4 Y5 G7 Q0;intro a7 hf sS
 refine Zs j8 fun _ j8=>Fc.l0 sS.2.2.2.2.2 (fun hq=> ?_) (fun hq=> ?_)
 . (
 have cQ:i<s.j4.length:=qT
 obtain ⟨a,X9⟩:∃ a,s.j4[i]? =some a:=⟨_,F8 cQ⟩
 obtain ⟨b,off,rfl,X3,e0,e1,e2⟩:=(EL.later hb).at' X9
 have uE:=cY.2.2 a (T9 X9)
 have tQ:=HT.out a (T9 X9)
 have yZ:=H9 X9;clear X9
 have Pu:=uE.2.1;have SP:=uE.1;have C7:=uE.2.2.2
 obtain ⟨t,ht⟩:∃ t:Nat,a.to=(t:Int):=⟨a.to.toNat,oM⟩
 have gr:a.to.toNat=t:=oM
 rw [ht] at e2
 have zb:=H9 gr
 rw [ht] at C7
 clear ht gr tQ uE
 refine wp_skip (Zs j8 fun _ j8=>wp_block (Ze fun _ l8=>Zr [20,21,6] hf ?_))
 refine F1 3 4 6 16 17 18 hf ?_
 intro a7 hf sS
 generalize cS:wr.alloc (.cells #[.int .u8 a.byte,.int .u64 a.out,.int .i64 t] 71)=W5
 obtain ⟨F3,f0, -, -,iC,CP⟩:=E7 cS
 clear cS
 have Wm:wr.heap.size<W5.heap.size:=by rw [CP];exact Nat.lt_succ_self _
 clear CP
 clear e0 e1 e2 X3
 have hI5:=fN hI F3
 have hWr:=hb.size
 have jV:wr.heap.size≠W0.heap.size:=by have:=hI.elim (fun x=>x.lt) (fun x=>x.lt);omega
 refine Zt l8 fun _ l8=> ?_
 have bB:=hf.B4 22 23 24 25
 iterate 3 refine Zy ?_
 refine fp fun K Z=> ?_
 go_simp
 try simp (disch:=omega) only [Fc.wrap_u64]
 apply Z.out;clear Z K
 refine Zc (oG W5 W0.heap.size W0.heap.size _ a.byte oM hI5 oM (Y7 cY Z7 (Nat.le_of_lt cQ) (Nat.zero_le _))) ?_;rintro e w6 ⟨rfl,hI6,C4,nb⟩
 refine Zv ?_
 refine Fc.nil (F1 3 4 6 16 17 18 hf ?_)
 intro a7 hf sS
 have cA:=gQ nb iC dC jV
 have g1:=n5 1 cA
 simp at g1
 clear f0 iC
 refine Zt l8 fun _ l8=> ?_
 have bB:=hf.B3 27 28 29
 iterate 3 refine Zy ?_
 refine Zc (oG w6 W0.heap.size W0.heap.size _ a.out Pu hI6 (by have:=C4.size;omega) (by rw [List.length_append];exact Y7 cY Z7 (Nat.le_of_lt cQ) (by have:=K3 a.byte oM;omega))) ?_;rintro e w7 ⟨rfl,hI7,B1,hk7⟩
 refine Zv ?_
 refine Fc.nil (F1 3 4 6 16 17 18 hf ?_)
 intro a7 hf sS
 have SX:=gQ hk7 cA dC jV
 have g2:=n5 2 SX
 simp at g2
 clear g1 cA
 refine Zx l8 (rg ?_)
 have bB:=hf.B4 31 32 33 34
 iterate 3 refine Zy ?_
 refine fp fun K Z=> ?_
 go_simp
 try simp (disch:=omega) only [Fc.wrap_u64]
 apply Z.out;clear Z K
 refine Zc (oG w7 W0.heap.size W0.heap.size _ t oM hI7 (by have:=C4.size;have:=B1.size;omega) (by rw [List.length_append,List.length_append,Nat.add_assoc];exact Y7 cY Z7 (Nat.le_of_lt cQ) (by have:=K3 a.byte oM;have:=K3 a.out Pu;omega))) ?_;rintro e w8 ⟨rfl,hI8,aA,Tz⟩
 refine Zv ?_
 refine Fc.nil (D2 3 4 16 17 18 hf ?_)
 intro a7 hf sS
 refine Fc.j9 (Zx j8 (Zr [36] hf ?_))
 refine D2 3 4 16 17 18 hf ?_
 intro a7 hf sS
 refine Fc.j7 ?_
 obtain ⟨s3,s4,Y5,G7,Q0⟩:=sS
 exact ⟨_,by have:=HK.out;omega,i+1,rfl,oM,hf,s3,s4,Y5,G7,by rw [Q0];rfl,by rw [wM yZ.out,zb.out];exact hI8,(((hb.trans (F3.mono hb.size)).trans C4).trans B1).trans aA⟩)
 . (
 have C3:i=s.j4.length:=qF
 subst C3
 refine Zo ?_
 refine Zt a8 fun _ a8=> ?_
 have bB:=hf.b 37
 refine Zc (Tryz.Builder_String_any W0.heap.size W0.heap.size _ wr hI hb.size) ?_;rintro e w9 ⟨rfl,dN⟩
 refine Zv ?_
 refine Zy ?_
 refine Fc.nil (p5 2 hf ?_)
 intro a7 hf s2
 refine Zx a8 (k8 ?_)
 exact Fc.o6 rfl hf s2 ⟨rfl,(o7.trans (hb.mono o7.size)).trans (dN.mono o7.size)⟩)))
 . (
 obtain ⟨s1,s3,s4,s9⟩:=sS
 try rw [p7] at s9
 refine Fc.l7 s9 ?_
 refine rg ?_
 refine Zc (vL W0.heap.size W0.heap.size (Lib.byteCells (bs [])) 33 W1 VA (by simp [bs,Lib.byteCells]) y7q) ?_;rintro e w2 ⟨rfl,wK,r8, -⟩
 have hI2:Lib.IsBuilder 111 5 W0.heap.size W0.heap.size (Lib.byteCells (bs (if s.final then [33] else []))) w2:=by rw [p7];exact .inr wK
 refine Zv ?_
 refine Fc.nil (y7 1 3 4 hf ?_)
 clear hf s1 s3 s4 s9;intro a7 hf sS
 refine Zs a8 fun _ a8=> ?_
 have d0:=H7 r8 c0 (show w.heap.size<W0.heap.size by omega);have d2:=H7 r8 c2 (show w.heap.size<W0.heap.size by omega)
 refine rg ?_
 have bB:=hf.B3 11 12 13
 iterate 3 refine Zy ?_
 refine Zc (oG w2 W0.heap.size W0.heap.size _ s.out zd hI2 (by have:=r8.size;omega) (by split<;>simp)) ?_;rintro e w3 ⟨rfl,hI3,G4, -⟩
 refine Zv ?_
 refine Fc.nil (y7 1 3 4 hf ?_)
 intro a7 hf sS
 have d3:=H7 G4 d0 (show w.heap.size<W0.heap.size by omega)
 have iS:=(lS.trans r8).trans G4
 refine Zs a8 fun _ a8=>Ze fun _ j8=>Zr [15,16] hf ?_
 refine D2 3 4 16 17 18 hf ?_
 intro a7 hf sS
 refine Zx j8 (wp_block ?_)
 clear d0 d2 d3 c0 c1 c2
 refine wp_loop_ghost (fun gk fr wr=>∃ (i:Nat),gk=s.j4.length-i/\i<=s.j4.length/\Fc.Fr 38 fr/\fr.tmps[3]? =some (.pointer (some ⟨W0.heap.size,0,none⟩))/\fr.tmps[4]? =some (.func (.func 134) #[] #[.pointer (some ⟨W0.heap.size,0,none⟩)])/\fr.tmps[16]? =some (.slice A s.j4.length cc)/\fr.tmps[17]? =some (.int .i64 s.j4.length)/\fr.tmps[18]? =some (.int .i64 i)/\Lib.IsBuilder 111 5 W0.heap.size W0.heap.size (Lib.byteCells (bs (sC s i))) wr/\Below W0.heap.size W0 wr) (s.j4.length) ?_ ?_
 . (
 obtain ⟨s3,s4,Y5,G7,Q0⟩:=sS
 exact ⟨0,rfl,Nat.zero_le _,hf,s3,s4,Y5,G7,Q0,by rw [wL];exact hI3,iS⟩)
 . (
 clear hf sS
 rintro gk fr wr ⟨i,hk,hi,hf,s3,s4,Y5,G7,Q0,hI,hb⟩
 have HK:=H9 hk;clear hk
 refine Ze fun _ j8=>Zr [] hf ?_
 refine F1 3 4 16 17 18 19 hf ?_
 clear hf s3 s4 Y5 G7 Q0;intro a7 hf sS
 refine Zs j8 fun _ j8=>Fc.l0 sS.2.2.2.2.2 (fun hq=> ?_) (fun hq=> ?_)
 . (
 have cQ:i<s.j4.length:=qT
 obtain ⟨a,X9⟩:∃ a,s.j4[i]? =some a:=⟨_,F8 cQ⟩
 obtain ⟨b,off,rfl,X3,e0,e1,e2⟩:=(EL.later hb).at' X9
 have uE:=cY.2.2 a (T9 X9)
 have tQ:=HT.out a (T9 X9)
 have yZ:=H9 X9;clear X9
 have Pu:=uE.2.1;have SP:=uE.1;have C7:=uE.2.2.2
 obtain ⟨t,ht⟩:∃ t:Nat,a.to=(t:Int):=⟨a.to.toNat,oM⟩
 have gr:a.to.toNat=t:=oM
 rw [ht] at e2
 have zb:=H9 gr
 rw [ht] at C7
 clear ht gr tQ uE
 refine wp_skip (Zs j8 fun _ j8=>wp_block (Ze fun _ l8=>Zr [20,21,6] hf ?_))
 refine F1 3 4 6 16 17 18 hf ?_
 intro a7 hf sS
 generalize cS:wr.alloc (.cells #[.int .u8 a.byte,.int .u64 a.out,.int .i64 t] 71)=W5
 obtain ⟨F3,f0, -, -,iC,CP⟩:=E7 cS
 clear cS
 have Wm:wr.heap.size<W5.heap.size:=by rw [CP];exact Nat.lt_succ_self _
 clear CP
 clear e0 e1 e2 X3
 have hI5:=fN hI F3
 have hWr:=hb.size
 have jV:wr.heap.size≠W0.heap.size:=by have:=hI.elim (fun x=>x.lt) (fun x=>x.lt);omega
 refine Zt l8 fun _ l8=> ?_
 have bB:=hf.B4 22 23 24 25
 iterate 3 refine Zy ?_
 refine fp fun K Z=> ?_
 go_simp
 try simp (disch:=omega) only [Fc.wrap_u64]
 apply Z.out;clear Z K
 refine Zc (oG W5 W0.heap.size W0.heap.size _ a.byte oM hI5 oM (Y7 cY Z7 (Nat.le_of_lt cQ) (Nat.zero_le _))) ?_;rintro e w6 ⟨rfl,hI6,C4,nb⟩
 refine Zv ?_
 refine Fc.nil (F1 3 4 6 16 17 18 hf ?_)
 intro a7 hf sS
 have cA:=gQ nb iC dC jV
 have g1:=n5 1 cA
 simp at g1
 clear f0 iC
 refine Zt l8 fun _ l8=> ?_
 have bB:=hf.B3 27 28 29
 iterate 3 refine Zy ?_
 refine Zc (oG w6 W0.heap.size W0.heap.size _ a.out Pu hI6 (by have:=C4.size;omega) (by rw [List.length_append];exact Y7 cY Z7 (Nat.le_of_lt cQ) (by have:=K3 a.byte oM;omega))) ?_;rintro e w7 ⟨rfl,hI7,B1,hk7⟩
 refine Zv ?_
 refine Fc.nil (F1 3 4 6 16 17 18 hf ?_)
 intro a7 hf sS
 have SX:=gQ hk7 cA dC jV
 have g2:=n5 2 SX
 simp at g2
 clear g1 cA
 refine Zx l8 (rg ?_)
 have bB:=hf.B4 31 32 33 34
 iterate 3 refine Zy ?_
 refine fp fun K Z=> ?_
 go_simp
 try simp (disch:=omega) only [Fc.wrap_u64]
 apply Z.out;clear Z K
 refine Zc (oG w7 W0.heap.size W0.heap.size _ t oM hI7 (by have:=C4.size;have:=B1.size;omega) (by rw [List.length_append,List.length_append,Nat.add_assoc];exact Y7 cY Z7 (Nat.le_of_lt cQ) (by have:=K3 a.byte oM;have:=K3 a.out Pu;omega))) ?_;rintro e w8 ⟨rfl,hI8,aA,Tz⟩
 refine Zv ?_
 refine Fc.nil (D2 3 4 16 17 18 hf ?_)
 intro a7 hf sS
 refine Fc.j9 (Zx j8 (Zr [36] hf ?_))
 refine D2 3 4 16 17 18 hf ?_
 intro a7 hf sS
 refine Fc.j7 ?_
 obtain ⟨s3,s4,Y5,G7,Q0⟩:=sS
 exact ⟨_,by have:=HK.out;omega,i+1,rfl,oM,hf,s3,s4,Y5,G7,by rw [Q0];rfl,by rw [wM yZ.out,zb.out];exact hI8,(((hb.trans (F3.mono hb.size)).trans C4).trans B1).trans aA⟩)
 . (
 have C3:i=s.j4.length:=qF
 subst C3
 refine Zo ?_
 refine Zt a8 fun _ a8=> ?_
 have bB:=hf.b 37
 refine Zc (Tryz.Builder_String_any W0.heap.size W0.heap.size _ wr hI hb.size) ?_;rintro e w9 ⟨rfl,dN⟩
 refine Zv ?_
 refine Zy ?_
 refine Fc.nil (p5 2 hf ?_)
 intro a7 hf s2
 refine Zx a8 (k8 ?_)
 exact Fc.o6 rfl hf s2 ⟨rfl,(o7.trans (hb.mono o7.size)).trans (dN.mono o7.size)⟩)))
open Go.RowKit Go.Maps
theorem Pv (d:Nat) (h:d<36):dg d≠32/\dg d≠33/\dg d<256:=by unfold dg;split<;>omega
theorem Pw {a b:Nat} (ha:a<36) (hb:b<36) (h:dg a=dg b):a=b:=by unfold dg at h;split at h<;>split at h<;>omega
theorem pZ:∀ (n:Nat),∀ x∈mA n,x≠32/\x≠33/\x<256:=by
 intro n
 induction n using Nat.strongRecOn with
 | _ n ih =>
  intro x hx
  rw [mA] at hx
  split at hx
  ·simp at hx;subst hx;exact Pv n (by assumption)
  ·rcases List.mem_append.1 hx with h | h
   ·exact ih (n / 36) oM x h
   ·simp at h;subst h;exact Pv _ oM
theorem Ew (n:Nat):mA n≠[]:=by rw [mA];split<;>simp
theorem VB:∀ a b:Nat,mA a=mA b->a=b:=by
 intro a
 induction a using Nat.strongRecOn with
 | _ a ih =>
  intro b h
  rw [mA.eq_def a,mA.eq_def b] at h
  split at h<;>split at h
  ·injection h with h;exact Pw (by assumption) (by assumption) h
  ·have h1:=congrArg List.length h
   have h2:=List.length_pos_iff.2 (Ew (b / 36))
   simp only [List.length_append,List.length_cons,List.length_nil] at h1;omega
  ·have h1:=congrArg List.length h
   have h2:=List.length_pos_iff.2 (Ew (a / 36))
   simp only [List.length_append,List.length_cons,List.length_nil] at h1;omega
  ·obtain ⟨h1,h2⟩:=List.append_inj' h rfl
   have h3:=ih (a / 36) oM _ h1
   injection h2 with h2
   have h4:=Pw oM oM h2
   omega
theorem Px {a b x y:List Nat} (ha:∀ u∈a,u≠32) (hb:∀ u∈b,u≠32) (h:a++32::x=b++32::y):a=b/\x=y:=by
 induction a generalizing b with
 | nil =>
  cases b with
  | nil=>simpa using h
  | cons u b=>simp at h;exact absurd h.1.symm (hb u (List.mem_cons_self ..))
 | cons v a ih =>
  cases b with
  | nil=>simp at h;exact absurd h.1 (ha v (List.mem_cons_self ..))
  | cons u b =>
   simp only [List.cons_append,List.cons.injEq] at h
   obtain ⟨h1,h2⟩:=ih (fun z hz=>ha z (List.mem_cons_of_mem _ hz)) (fun z hz=>hb z (List.mem_cons_of_mem _ hz)) h.2
   exact ⟨by rw [h.1,h1],h2⟩
theorem qA {a b:Nat} {x y:List Nat} (h:num a++x=num b++y):a=b/\x=y:=by
 unfold num at h
 rw [List.append_assoc,List.append_assoc] at h
 obtain ⟨h1,h2⟩:=Px (fun u hu=>(pZ a u hu).1) (fun u hu=>(pZ b u hu).1) h
 exact ⟨VB a b h1,h2⟩
theorem zA (n:Nat):∃ c l,num n=c::l/\c≠33:=by
 obtain ⟨c,l,h⟩:=List.exists_cons_of_ne_nil (Ew n)
 refine ⟨c,l++[32],by simp [num,h],(pZ n c (by rw [h];exact List.mem_cons_self ..)).2.1⟩
def V8 (l:List u3):List Nat:=l.flatMap fun a=>num a.byte++num a.out++num a.to.toNat
theorem oH:∀ (a b:List u3),(∀ x∈a,0<=x.to)->(∀ x∈b,0<=x.to)->V8 a=V8 b->a=b
 | [],[],_,_,_=>rfl
 | [],b::l2,_,_,h=>by
  obtain ⟨c,l,h1,_⟩:=zA b.byte
  simp [V8,h1] at h
 | a::l1,[],_,_,h=>by
  obtain ⟨c,l,h1,_⟩:=zA a.byte
  simp [V8,h1] at h
 | a::l1,b::l2,ha,hb,h=>by
  have e:∀ (x:u3) (xs:List u3),V8 (x::xs)=num x.byte++(num x.out++(num x.to.toNat++V8 xs)):=fun x xs=>by simp [V8]
  rw [e,e] at h
  obtain ⟨h1,h⟩:=qA h
  obtain ⟨h2,h⟩:=qA h
  obtain ⟨h3,h⟩:=qA h
  have h4:=oH l1 l2 (fun x hx=>ha x (List.mem_cons_of_mem _ hx)) (fun x hx=>hb x (List.mem_cons_of_mem _ hx)) h
  have h5:=ha a (List.mem_cons_self ..)
  have h6:=hb b (List.mem_cons_self ..)
  obtain ⟨ab,ao,at_⟩:=a
  obtain ⟨bb,bo,bt⟩:=b
  simp only at h1 h2 h3 h5 h6
  subst h1;subst h2;subst h4
  have:at_=bt:=oM
  rw [this]
structure tU (s:State):Prop where
 ok:L3 s
 to:∀ a∈s.j4,0<=a.to
 Gg:s.j4.length<=256
theorem zB (s:State):fV s=(if s.final then [33] else [])++(num s.out++V8 s.j4):=by simp [fV,sC,V8]
theorem Py {a b:State} (ha:tU a) (hb:tU b) (h:fV a=fV b):a=b:=by
 rw [zB,zB] at h
 have key:∀ x y:State,tU x->tU y->x.final=y.final->num x.out++V8 x.j4=num y.out++V8 y.j4->x=y:=fun x y hx hy h0 h=>by
  obtain ⟨h1,h2⟩:=qA h
  have h3:=oH _ _ hx.to hy.to h2
  obtain ⟨xf,xo,xa⟩:=x
  obtain ⟨yf,yo,ya⟩:=y
  simp only at h0 h1 h3
  rw [h0,h1,h3]
 cases MU:a.final<;>cases hfb:b.final<;>rw [MU,hfb] at h
 ·exact key a b ha hb (by rw [MU,hfb]) (by simpa using h)
 ·obtain ⟨c,l,h1,h2⟩:=zA a.out
  simp [h1] at h
  exact absurd h.1 h2
 ·obtain ⟨c,l,h1,h2⟩:=zA b.out
  simp [h1] at h
  exact absurd h.1.symm h2
 ·exact key a b ha hb (by rw [MU,hfb]) (by simpa using h)
theorem zC (n:Nat):∀ x∈num n,x<256:=fun x hx=>by
 rcases List.mem_append.1 hx with h | h
 ·exact (pZ n x h).2.2
 ·simp at h;omega
theorem Hf (s:State):∀ x∈fV s,x<256:=by
 rw [zB]
 intro x hx
 rcases List.mem_append.1 hx with h | h
 ·split at h
  ·simp at h;omega
  ·cases h
 ·rcases List.mem_append.1 h with h | h
  ·exact zC _ x h
  ·obtain ⟨a,_,h⟩:=List.mem_flatMap.1 h
   rcases List.mem_append.1 h with h | h
   ·rcases List.mem_append.1 h with h | h
    ·exact zC _ x h
    ·exact zC _ x h
   ·exact zC _ x h
theorem gq {a b:List Nat} (ha:∀ x∈a,x<256) (hb:∀ x∈b,x<256) (h:bs a=bs b):a=b:=by
 have e:∀ l:List Nat,(∀ x∈l,x<256)->(bs l).map UInt8.toNat=l:=fun l hl=>by
  unfold bs
  rw [List.map_map]
  exact (List.map_congr_left fun x hx=>by simp;exact hl x hx).trans (List.map_id l)
 rw [<- e a ha, <- e b hb,h]
theorem key_inj {a b:State} (ha:tU a) (hb:tU b):bs (fV a)=bs (fV b) ↔ a=b :=
 ⟨fun h=>Py ha hb (gq (Hf a) (Hf b) h),fun h=>by rw [h]⟩
def Dm (ss:List State):Nat->DataW Unit
 | 0=> .map []
 | m+1=>(Dm ss m).put (.string (bs (fV (ss.getD m M5)))) (.lit (.int .i64 (m:Int)))
theorem CQ (ss:List State) (m:Nat):IsMap (Dm ss m):=by
 induction m with
 | zero=>exact ⟨[],rfl⟩
 | succ m ih=>exact IsMap.put ih _ _
theorem Kr (ss:List State) (s:State) (m:Nat) (h:m<=ss.length):Dm (ss++[s]) m=Dm ss m:=by
 induction m with
 | zero=>rfl
 | succ m ih =>
  simp only [Dm]
  rw [ih oM]
  have:(ss++[s]).getD m M5=ss.getD m M5:=by
   simp only [List.getD_eq_getElem?_getD]
   rw [List.getElem?_append_left oM]
  rw [this]
theorem VC (ss:List State) (s:State):Dm (ss++[s]) (ss++[s]).length=(Dm ss ss.length).put (.string (bs (fV s))) (.lit (.int .i64 (ss.length:Int))):=by
 rw [List.length_append]
 show (Dm (ss++[s]) ss.length).put _ _=_
 rw [Kr _ _ _ nR]
 simp
theorem Hg (x:List UInt8):WideAt.IsKeyLit (Lit.string x):=trivial
theorem Ex {ss:List State} {s:State} (hs:tU s) (hg:∀ x∈ss,tU x):∀ m,m<=ss.length->has (Dm ss m) (.string (bs (fV s)))=decide (s∈ss.take m)
 | 0,_=>by simp [Dm,has]
 | m+1,hm=>by
  have o9:m<ss.length:=oM
  have jB:ss.getD m M5=ss[m]:=by simp [List.getD_eq_getElem?_getD,o9]
  simp only [Dm]
  rw [jB,List.take_add_one,F8 o9]
  by_cases hx:ss[m]=s
  ·rw [hx,has_put_same (CQ ss m) (Hg _)]
   simp
  ·rw [has_put_other (by intro h;injection h with h;exact hx ((key_inj hs (hg _ (List.getElem_mem o9))).1 h).symm),Ex hs hg m oM]
   refine decide_eq_decide.2 ⟨fun h=>List.mem_append_left _ h,fun h=>(List.mem_append.1 h).elim id (fun h=> ?_)⟩
   simp at h
   exact absurd h.symm hx
theorem Xq {ss:List State} {s:State} (hs:tU s) (hg:∀ x∈ss,tU x) (hn:ss.Nodup) (z:DataW Unit) {i:Nat} (hi:ss[i]? =some s):∀ m,m<=ss.length->i<m->(Dm ss m).atKey (.string (bs (fV s))) z= .lit (.int .i64 (i:Int))
 | 0,_,h=>by omega
 | m+1,hm,h=>by
  have o9:m<ss.length:=oM
  have jB:ss.getD m M5=ss[m]:=by simp [List.getD_eq_getElem?_getD,o9]
  simp only [Dm]
  rw [jB]
  by_cases hmi:m=i
  ·subst hmi
   have:ss[m]=s:=(H2 hi).2
   rw [this]
   exact atKey_put_same (CQ ss m) (Hg _) _ _
  ·have F0:ss[m]≠s:=fun e=>False.elim (by
    obtain ⟨W8,C3⟩:=H2 hi
    rcases Nat.lt_or_gt_of_ne hmi with hl | hl
    ·exact absurd (e.trans C3.symm) (List.pairwise_iff_getElem.1 hn m i o9 W8 hl)
    ·exact absurd (C3.trans e.symm) (List.pairwise_iff_getElem.1 hn i m W8 o9 hl))
   rw [atKey_put_other (by intro h;injection h with h;exact F0 ((key_inj hs (hg _ (List.getElem_mem o9))).1 h).symm)]
   exact Xq hs hg hn z hi m oM oM
theorem sD (l:List Nat) (h:l.length<=1000000):keyOf Tryz.prog 9 (.string (strOf l))=some (.string (bs l)):=by
 have:=WideMaps.keyOf_string_mk (P:=Tryz.prog) (k:=9) Tryz.underlying9 (s:=strOf l) (by rw [jC];unfold maxLen;omega)
 rw [this]
 rfl
theorem sE (n:Nat) (h:n<=1000000):plainElem (H:=Unit) Tryz.prog 3 (.int .i64 (n:Int))=some (.lit (.int .i64 (n:Int)),[]) :=
 plainElem_int Tryz.underlying3 (by simp [Lit.wf,IntKind.min,IntKind.max,IntKind.bits,IntKind.signed];omega)
theorem fW {s:State} (h:tU s):(fV s).length<=1000000:=by
 have:=Y7 (n:=0) h.ok h.Gg nR oM
 simpa [fV] using this
theorem aR {ss:List State} {s:State} (h:s∈ss):∃ i,ss[i]? =some s/\i<ss.length/\finish ss s=(ss,i):=by
 unfold finish
 cases hf:ss.findIdx? (. =s) with
 | none =>
  rw [List.findIdx?_eq_none_iff] at hf
  simpa using hf s h
 | some i =>
  rw [List.findIdx?_eq_some_iff_getElem] at hf
  obtain ⟨h1,h2,_⟩:=hf
  refine ⟨i,?_,h1,rfl⟩
  rw [F8 h1]
  simpa using h2
theorem eD {ss:List State} {s:State} (h:s∉ss):finish ss s=(ss++[s],ss.length):=by
 unfold finish
 have:ss.findIdx? (. =s)=none:=by
  rw [List.findIdx?_eq_none_iff]
  intro x hx
  simp
  rintro rfl
  exact h hx
 rw [this]
section
variable {w:World} {b n:Nat} {ss:List State}
theorem Xr (w:World):(zeroValue 3).run Tryz.prog w= .ok (.int .i64 0) w:=Tryz.zeroValue3 w
theorem VD (h:w.ownsMap Tryz.prog 9 (plainElem Tryz.prog 3) b n (Dm ss ss.length)) {s:State} (hs:tU s) (hg:∀ x∈ss,tU x) (hn:ss.Nodup) {i:Nat} (hi:ss[i]? =some s) :
  (Instr.lookup 118 (.map (some b)) (.string (strOf (fV s))) true).run Tryz.prog w= .ok (.tuple #[.int .i64 (i:Int),.bool true]) w:=by
 obtain ⟨v,ps,h1,h2⟩:=h.look_ok (string_keyed Tryz.underlying9) Tryz.underlying118 (Xr w) (sE 0 oM) (sD _ (fW hs))
 have W8:=(H2 hi).1
 rw [Xq hs hg hn _ hi _ nR W8] at h2
 obtain ⟨c,rfl,h3,_⟩:=plainElem_int_inv Tryz.underlying3 h2
 rw [h1,Ex hs hg _ nR,List.take_length,decide_eq_true (T9 hi)]
 have h4:c=(i:Int):=by simp at h3;exact h3.1.symm
 rw [h4]
theorem Pz (h:w.ownsMap Tryz.prog 9 (plainElem Tryz.prog 3) b n (Dm ss ss.length)) {s:State} (hs:tU s) (hg:∀ x∈ss,tU x) (hi:s∉ss) :
  ∃ c,(Instr.lookup 118 (.map (some b)) (.string (strOf (fV s))) true).run Tryz.prog w= .ok (.tuple #[.int .i64 c,.bool false]) w:=by
 obtain ⟨v,ps,h1,h2⟩:=h.look_ok (string_keyed Tryz.underlying9) Tryz.underlying118 (Xr w) (sE 0 oM) (sD _ (fW hs))
 obtain ⟨c,rfl,_⟩:=plainElem_int_inv Tryz.underlying3 h2
 refine ⟨c,?_⟩
 rw [h1,Ex hs hg _ nR,List.take_length,decide_eq_false hi]
end
structure bZ (w:World) (base:Nat) (own:Nat->Nat) (g:Nat) (t:TypeId) (xs:List Value) (sv:Value) (mb:Nat) (ss:List State):Prop where
 lo:∀ k,k<base->own k=4
 box:w.heap[g]? =some (.cells (sv:: .map (some mb)::xs).toArray t (0,0))
 og:own g=1
 om:own mb=3
 map:w.ownsMap Tryz.prog 9 (plainElem Tryz.prog 3) mb ss.length (Dm ss ss.length)
 row:∃ cells,w.ownsRow base 46 3 sv ss.length cells/\(∀ k,sv.ownBlock=some k->own k=2)/\∀ (i:Nat) (s:State),ss[i]? =some s ->
  ∃ av,cells[i*3]? =some av/\cells[i*3+1]? =some (.bool s.final)/\cells[i*3+2]? =some (.int .u64 s.out)/\RA w (fun k=>own k=4) av s.j4
 nodup:ss.Nodup
 mJ:∀ s∈ss,tU s
section
variable {w w':World} {base g mb:Nat} {own aC:Nat->Nat} {t:TypeId} {xs:List Value} {sv:Value} {ss:List State} {S:Nat->Prop}
theorem qB {H:Type} {P:Program} {k:TypeId} {R:Value->Option (DataW H×List MemPlace)} {b n:Nat} {D:DataW H} (h:w.ownsMap P k R b n D) (hb:n4 S w w') (hn:¬ S b):w'.ownsMap P k R b n D:=by
 obtain ⟨es,clock,h1,F,hs,hD⟩:=h
 exact ⟨es,clock,hb.heap h1 hn,F,hs,hD⟩
theorem bZ.but (h:bZ w base own g t xs sv mb ss) (hb:n4 S w w') (hS:∀ k,S k->own k=0\/5<=own k):bZ w' base own g t xs sv mb ss:=by
 obtain ⟨cells,h1,h2,h3⟩:=h.row
 refine ⟨h.lo,hb.heap h.box (fun hs=> ?_),h.og,h.om,qB h.map hb (fun hs=> ?_),⟨cells,u7 h1 hb (fun k hk hs=> ?_),h2,fun i s hi=> ?_⟩,h.nodup,h.mJ⟩
 ·have:=hS g hs;have:=h.og;omega
 ·have:=hS mb hs;have:=h.om;omega
 ·have:=hS k hs;have:=h2 k hk;omega
 ·obtain ⟨av,h4,h5,h6,h7⟩:=h3 i s hi
  exact ⟨av,h4,h5,h6,h7.but hb (fun k hk hs=>by have:=hS k hs;omega)⟩
theorem bZ.later (h:bZ w base own g t xs sv mb ss) (hb:Below w.heap.size w w'):bZ w' base own g t xs sv mb ss:=h.but (n4.of (fun _=>False) hb) (fun _ hf=>hf.elim)
theorem bZ.told (h:bZ w base own g t xs sv mb ss) (na:∀ k,k<base->aC k=4) (hk:∀ k,k<w.heap.size->1<=own k->own k<=4->aC k=own k):bZ w base aC g t xs sv mb ss:=by
 obtain ⟨cells,h1,h2,h3⟩:=h.row
 refine ⟨na,h.box,?_,?_,h.map,⟨cells,h1,fun k X1=> ?_,fun i s hi=> ?_⟩,h.nodup,h.mJ⟩
 ·rw [hk g (j5 h.box) (by rw [h.og];omega) (by rw [h.og];omega)];exact h.og
 ·rw [hk mb h.map.lt (by rw [h.om];omega) (by rw [h.om];omega)];exact h.om
 ·have:=h2 k X1;rw [hk k (h1.lt k X1).2 oM oM];exact this
 ·obtain ⟨av,h4,h5,h6,h7⟩:=h3 i s hi
  exact ⟨av,h4,h5,h6,h7.more (fun k o9 VE=>by rw [hk k o9 oM oM];exact VE)⟩
theorem bZ.cell0 (h:bZ w base own g t xs sv mb ss):w.cell? ⟨g,0,none⟩=some sv:=by rw [cell_of_row _ _ 0 _ t (0,0) h.box];rfl
theorem bZ.za (h:bZ w base own g t xs sv mb ss):w.cell? ⟨g,1,none⟩=some (.map (some mb)):=by rw [cell_of_row _ _ 1 _ t (0,0) h.box];rfl
theorem bZ.frozen (h:bZ w base own g t xs sv mb ss) (i:Nat):w.frozen? ⟨g,i,none⟩=false:=j6 h.box
theorem bZ.form (h:bZ w base own g t xs sv mb ss):∃ A c,sv= .slice A ss.length c/\ss.length<=c:=by
 obtain ⟨cells,h1,_⟩:=h.row
 rcases h1.2 with ⟨rfl,h0⟩ | ⟨b,cap,cur,rfl,_,_,hc,_⟩
 ·exact ⟨none,0,by rw [h0],oM⟩
 ·exact ⟨_,_,rfl,hc⟩
theorem bZ.aS (h:bZ w base own g t xs sv mb ss):base<=w.heap.size:=by
 have h1:=j5 h.box
 rcases Nat.lt_or_ge g base with h2 | h2
 ·have:=h.lo g h2;have:=h.og;omega
 ·omega
theorem bZ.QA (h:bZ w base own g t xs sv mb ss):g≠mb:=fun e=>by have h1:=h.og;have h2:=h.om;rw [e] at h1;omega
def Cells (w:World) (own:Nat->Nat) (cells:List Value) (ss:List State):Prop:=∀ (i:Nat) (s:State),ss[i]? =some s ->
  ∃ av,cells[i*3]? =some av/\cells[i*3+1]? =some (.bool s.final)/\cells[i*3+2]? =some (.int .u64 s.out)/\RA w (fun k=>own k=4) av s.j4
theorem bZ.snoc {w4 w5:World} {s:State} {av Sq:Value} {cells:List Value} (h:bZ w base own g t xs sv mb ss) (Hh:w.grownBy w4 (some mb))
  (hM4:w4.ownsMap Tryz.prog 9 (plainElem Tryz.prog 3) mb (ss.length+1) ((Dm ss ss.length).put (.string (bs (fV s))) (.lit (.int .i64 (ss.length:Int))))) (F3:n4 (fun k=>own k=1\/own k=2) w4 w5)
  (R8:cells.length=ss.length*3) (zD:Cells w own cells ss) (nB:w5.ownsRow base 46 3 Sq (ss.length+1) (cells++[av,.bool s.final,.int .u64 s.out])) (H8:∀ k,Sq.ownBlock=some k->own k=2)
  (gp:w5.heap[g]? =some (.cells (Sq:: .map (some mb)::xs).toArray t (0,0))) (S7:RA w (fun k=>own k=4) av s.j4) (a6:tU s) (NN:s∉ss):bZ w5 base own g t xs Sq mb (ss++[s]):=by
 have yD:=h.om
 have U4:n4 (fun k=>k=mb) w w4:=n4.grown Hh (fun k hk=>by injection hk with hk;exact hk.symm)
 have mH:∀ {v:Value} {l:List u3},RA w (fun k=>own k=4) v l->RA w5 (fun k=>own k=4) v l:=fun hr =>
  (hr.but U4 (fun k hk e=>by subst e;omega)).but F3 (fun k hk e=>oM)
 refine ⟨h.lo,gp,h.og,h.om,?_,⟨_,by rw [List.length_append];exact nB,H8,fun i x hi=> ?_⟩,?_,fun x hx=> ?_⟩
 ·rw [VC,List.length_append]
  exact qB hM4 F3 (fun e=>oM)
 ·by_cases o9:i<ss.length
  ·rw [List.getElem?_append_left o9] at hi
   obtain ⟨av',h4,h5,h6,h7⟩:=zD i x hi
   exact ⟨av',by rw [List.getElem?_append_left oM];exact h4,by rw [List.getElem?_append_left oM];exact h5,by rw [List.getElem?_append_left oM];exact h6,mH h7⟩
  ·rw [List.getElem?_append_right oM] at hi
   have fF:i-ss.length=0:=by
    have:=(H2 hi).1
    simp at this
    omega
   rw [fF] at hi
   injection hi with hi
   subst hi
   have C3:i=ss.length:=oM
   subst C3
   refine ⟨av,?_,?_,?_,mH S7⟩
   ·rw [List.getElem?_append_right oM,R8,Nat.sub_self];rfl
   ·rw [List.getElem?_append_right oM,R8,show ss.length*3+1-ss.length*3=1 by omega];rfl
   ·rw [List.getElem?_append_right oM,R8,show ss.length*3+2-ss.length*3=2 by omega];rfl
 ·rw [List.nodup_append]
  refine ⟨h.nodup,sP,fun a ha b hb=> ?_⟩
  simp at hb
  subst hb
  rintro rfl
  exact NN ha
 ·rcases List.mem_append.1 hx with hx | hx
  ·exact h.mJ x hx
  ·simp at hx;subst hx;exact a6
end
theorem CR:(Tryz.prog.info? 46).map (fun i=>(i.zero,i.size,i.bytes))=some (some (.agg #[.slice none 0 0,.bool false,.int .u64 0]),3,40):=kR
theorem Ks:(Tryz.prog.info? 71).map (fun i=>(i.zero,i.size,i.bytes))=some (some (.agg #[.int .u8 0,.int .u64 0,.int .i64 0]),3,24):=kR
theorem sF:(Tryz.prog.info? 126).map (fun i=>(i.zero,i.size,i.bytes))=some (some (.agg #[.slice none 0 0,.bool false,.int .u64 0,.int .u8 0]),4,48):=kR
open Go.Maps
def VF (w4:World) (base g:Nat) (t:TypeId) (xs:List Value) (sv:Value) (mb n:Nat) (cells:List Value):Sb.Pr:=fun v w=>w.ownsRow base 46 3 v n cells/\(v.ownBlock=sv.ownBlock\/∃ k,v.ownBlock=some k/\w4.heap.size<=k)/\w.heap[g]? =some (.cells (sv:: .map (some mb)::xs).toArray t (0,0))
theorem VF.u5 (w4:World) (base g:Nat) (t:TypeId) (xs:List Value) (sv:Value) (mb n:Nat) (cells:List Value):Sb.Stable (VF w4 base g t xs sv mb n cells):=fun v w w' hb ⟨h1,h2,h3⟩=>⟨n3 h1 hb,h2,(hb.block g (j5 h3)).trans h3⟩
def VG (w4:World) (base g:Nat) (t:TypeId) (xs:List Value) (sv:Value) (mb n:Nat) (cells:List Value):Sb.Pr:=fun _ w=>∃ v,w.ownsRow base 46 3 v n cells/\(v.ownBlock=sv.ownBlock\/∃ k,v.ownBlock=some k/\w4.heap.size<=k)/\w.heap[g]? =some (.cells (v:: .map (some mb)::xs).toArray t (0,0))
theorem VG.u5 (w4:World) (base g:Nat) (t:TypeId) (xs:List Value) (sv:Value) (mb n:Nat) (cells:List Value):Sb.Stable (VG w4 base g t xs sv mb n cells):=fun _ w w' hb ⟨v,h1,h2,h3⟩=>⟨v,n3 h1 hb,h2,(hb.block g (j5 h3)).trans h3⟩
theorem gn {w:World} {B:Nat->Prop} {v:Value} {l:List u3} (h:RA w B v l):v.oneCell'=true:=by
 obtain ⟨A,c,rfl,_⟩:=h.form
 rfl
theorem n4.via {S S' T:Nat->Prop} {w w1 w4 w5:World} (h1:Below w.heap.size w w1) (h4:n4 S w1 w4) (h5:n4 S' w4 w5) (hT:∀ k,k<w.heap.size->(S k\/S' k)->T k):n4 T w w5 :=
 ⟨h5.os.trans (h4.os.trans h1.os),h5.tape.trans (h4.tape.trans h1.tape),h5.output.trans (h4.output.trans h1.output),Nat.le_trans h1.size (Nat.le_trans h4.size h5.size),fun k hk hn=>by
  have ow:=h1.size
  have hs4:=h4.size
  rw [h5.block k oM (fun e=>hn (hT k hk (.inr e))),h4.block k oM (fun e=>hn (hT k hk (.inl e))),h1.block k hk]⟩
theorem dG (w:World) {base g mb:Nat} {own:Nat->Nat} {t:TypeId} {xs:List Value} {sv:Value} {ss:List State} {s:State} {av:Value} (hR:bZ w base own g t xs sv mb ss) (S7:RA w (fun k=>own k=4) av s.j4) (a6:tU s) (hlen:ss.length<1000000):Calls Tryz.prog 54 #[.pointer (some ⟨g,0,none⟩),bW av s] w fun e w1=>e= .returned (.int .i64 ((finish ss s).2:Nat))/\∃ aC Sq,(∀ k,k<w.heap.size->aC k=own k)/\(∀ k,w.heap.size<=k->aC k=2)/\bZ w1 base aC g t xs Sq mb (finish ss s).1/\n4 (fun k=>own k=1\/own k=2\/own k=3) w w1:=by
 refine Z6 43 Tryz.func54 fun fr hf s0 s1=> ?_
 have hRg:=hR.told (aC:=fun k=>if k<w.heap.size then own k else 2) (fun k hk=>by rw [if_pos (by have:=hR.aS;omega)];exact hR.lo k hk) (fun k hk _ _=>if_pos hk)
 have Bc:=S7.more (B':=fun k=>(if k<w.heap.size then own k else 2)=4) (fun k hk h4=>by rw [if_pos hk];exact h4)
 obtain ⟨sG,CS⟩:∃ f,(fun k=>if k<w.heap.size then own k else 2)=f:=⟨_,rfl⟩
 have eV:∀ k,w.heap.size<=k->sG k=2:=fun k hk=>by rw [<- CS];exact if_neg (by omega)
 have o9:∀ k,k<w.heap.size->sG k=own k:=fun k hk=>by rw [<- CS];exact if_pos hk
 replace hRg:bZ w base sG g t xs sv mb ss:=by rw [<- CS];exact hRg
 replace Bc:RA w (fun k=>sG k=4) av s.j4:=by rw [<- CS];exact Bc
 clear CS hR S7
 have HGE:=H9 eV;have ec:=H9 o9;clear eV o9
 have F9:=hRg.aS
 simp only [bW] at s1
 refine Ze fun _ a8=>Zr [] hf ?_
 refine y4 0 3 hf ?_
 clear hf s0 s1;intro a7 hf sS
 generalize p8:w.alloc (.cells #[av,.bool s.final,.int .u64 s.out] 46)=W0
 obtain ⟨o7,c0,c1,c2, -,R6⟩:=E7 p8
 clear p8
 have fG:w.heap.size<W0.heap.size:=by rw [R6];exact Nat.lt_succ_self _
 clear R6
 have hR0:=hRg.later o7
 have gm:=Bc.later o7
 clear hRg Bc
 refine Zt a8 fun _ a8=> ?_
 have bB:=hf.B2 8 9
 refine Zy ?_
 refine Zc (zg W0 s _ av gm a6.ok a6.to a6.Gg) ?_;rintro e w1 ⟨rfl,p6⟩
 refine Zv ?_
 refine Zy ?_
 refine Fc.nil (y7 0 3 5 hf ?_)
 intro a7 hf sS
 replace c0:=cL p6 c0;replace c1:=cL p6 c1;replace c2:=cL p6 c2;have AJ:=hR0.later p6;have z9y:=gm.later p6;have uS:=o7.trans (p6.mono o7.size)
 clear hR0 gm p6
 have r0:=AJ.cell0;have r1:=AJ.za
 refine Zx a8 ?_
 by_cases D7:s∈ss
 . (
 obtain ⟨i,hi,W8,gJ⟩:=aR D7
 have hlk:=VD AJ.map a6 AJ.mJ AJ.nodup hi
 have HI:=H9 hi;have M8:=H9 gJ;have Dc:=H9 D7;clear hi gJ D7
 refine Ze fun _ a8=>Zr [11,12,13,14,15,16,10,17,18] hf ?_
 refine D2 0 3 5 6 7 hf ?_
 intro a7 hf sS
 refine Zs a8 fun _ a8=>Ze fun _ j8=>Zr [19] hf ?_
 refine D2 0 3 5 6 20 hf ?_
 intro a7 hf sS
 refine Zx j8 (Fc.k9 sS.2.2.2.2 ?_)
 refine wp_skip (Zs a8 fun _ a8=>Zr [42] hf ?_)
 refine p5 4 hf ?_
 intro a7 hf s4
 refine Zx a8 (k8 ?_)
 refine Fc.o6 rfl hf s4 ⟨by rw [M8.out],sG,sv,ec.out,HGE.out,?_,n4.of _ uS⟩
 rw [M8.out]
 exact AJ)
 . (
 have gJ:=eD D7
 obtain ⟨c,hlk⟩:=Pz AJ.map a6 AJ.mJ D7
 have M8:=H9 gJ;have Dc:=H9 D7;clear gJ D7
 obtain ⟨A,cc,uJ,U0⟩:=AJ.form
 have HSV:=H9 uJ
 rw [uJ] at r0
 clear uJ
 refine Ze fun _ a8=>Zr [11,12,13,14,15,16,10,17,18] hf ?_
 refine D2 0 3 5 6 7 hf ?_
 intro a7 hf sS
 refine Zs a8 fun _ a8=>Ze fun _ j8=>Zr [19] hf ?_
 refine D2 0 3 5 6 20 hf ?_
 intro a7 hf sS
 refine Zx j8 (Fc.l7 sS.2.2.2.2 ?_)
 refine Ze fun _ j8=>Zr [21,22,23,24,25] hf ?_
 refine z8 0 3 5 6 hf ?_
 intro a7 hf sS
 refine Zt j8 fun _ j8=> ?_
 have bB:=hf.B6 26 27 28 29 30 31
 iterate 6 refine Zy ?_
 obtain ⟨s0,s3,s5,s6⟩:=sS
 clear bB
 refine Fc.nL (n:=43) (by simp only [Fc.G,hf.size]) hf.defers (fun a7 y5 hT=> ?_)
 have J8:=Fc.h6 hT 0 3 6 29 30 31
 simp (decide:=true) only [Fc.G,hf.size,reduceIte,s0,s3,s6] at J8
 replace hf:=y5;clear hT y5 s0 s3 s5 s6
 obtain ⟨s0,s3,s6,cT,kG,Mz⟩:=J8
 refine ⟨?_⟩
 refine wpList_mapUpdate_own _ rfl _ _ _ 118 rfl 9 3 (string_keyed Tryz.underlying9) Tryz.underlying118 _ mb ss.length _ (Fc.l5 cT) AJ.map (by unfold maxLen;omega) _ _ _ (Fc.l5 kG) (Fc.l5 Mz) (sD _ (fW a6)) _ _ (sE _ oM) ?_
 intro w4 hM4 Hh
 refine Fc.L.out ?_
 refine Fc.nil (y7 0 3 6 hf ?_)
 clear hf s0 s3 s6 cT kG Mz;intro a7 hf sS
 have U4:n4 (fun k=>k=mb) w1 w4:=n4.grown Hh (fun k hk=>by injection hk with hk;exact hk.symm)
 have F0:=AJ.QA
 have QB:=U4.heap AJ.box F0
 have q0:=cell_of_row _ _ 0 _ t (0,0) QB
 simp at q0
 rw [HSV.out] at q0
 have hmw:mb<w.heap.size:=by rcases Nat.lt_or_ge mb w.heap.size with h | h;exact h;have h1:=HGE.out mb h;have h2:=AJ.om;omega
 replace c0:=U4.cell c0 (fun e=>by have e:w.heap.size=mb:=e;omega);replace c1:=U4.cell c1 (fun e=>by have e:w.heap.size=mb:=e;omega);replace c2:=U4.cell c2 (fun e=>by have e:w.heap.size=mb:=e;omega)
 clear r0 r1
 obtain ⟨cells,nB,hsb,zD⟩:=AJ.row
 have z9w:=u7 nB U4 (fun k hk e=>by subst e;have h1:=hsb _ hk;have h2:=AJ.om;omega)
 have R8:=nB.1
 have AL:=j6 (i:=0) QB
 have hCS:Cells w1 sG cells ss:=zD
 clear zD
 have Xs:=AJ.og
 have gj:=H9 Xs
 clear Xs
 have hs4:=U4.size
 have ow:=uS.size
 refine Zx j8 ?_
 obtain ⟨s0,s3,s6⟩:=sS
 refine Sm.E4 (n:=43) (fun _ k=>sG k=1\/sG k=2) [7,10] (Sb.OkOps.of kR) (fun a6=> ?_)
 refine Sm.mD (k:=0) s0 hf.size a6.out rfl kR rfl rfl (.inl rfl) kR ?_
 refine Sm.mD (k:=1) s0 hf.size a6.out rfl kR rfl rfl (.inl rfl) kR ?_
 apply Sm.tq 2 _ hf a6
 . (
 intro a7 w1 hh hd hk K Z
 refine Sb.pl ?_
 have ou:=Sm.v 1 0 hd hk []
 have F4:=Sm.r5 hh [(7,[4,3]),(10,[])] kR
 have l6:=Sm.l9 hh [] [(7,[4,3]),(10,[])] kR
 clear hd hh
 go_simp
 exact Sb.k Z)
 apply Sm.tq 3 _ hf a6
 . (
 intro a7 w1 hh hd hk K Z
 refine Sb.pl ?_
 have Wn:=Sm.v 2 0 hd hk []
 have F4:=Sm.r5 hh [(7,[4]),(10,[])] kR
 have l6:=Sm.l9 hh [] [(7,[4]),(10,[])] kR
 clear hd hh
 go_simp
 exact Sb.k Z)
 apply Sm.tq 4 _ hf a6
 . (
 intro a7 w1 hh hd hk K Z
 refine Sb.pl ?_
 have ZW:=Sm.v 3 0 hd hk []
 have F4:=Sm.r5 hh [(7,[]),(10,[])] kR
 have l6:=Sm.l9 hh [] [(7,[]),(10,[])] kR
 clear hd hh
 have q1:=cL F4 q0
 go_simp
 exact Sb.k Z)
 apply Sm.tq 5 _ hf a6
 . (
 intro a7 w1 hh hd hk K Z
 refine Sb.pl ?_
 have s3:=Sm.o hh kR s3
 have F4:=Sm.r5 hh [(7,[6]),(10,[])] kR
 have l6:=Sm.l9 hh [] [(7,[6]),(10,[])] kR
 clear hd hh
 have d0:=cL F4 c0;have d1:=cL F4 c1;have d2:=cL F4 c2
 go_simp
 exact Sb.k Z)
 refine Sm.E1 (k:=6) (n:=43) (oZ [av,.bool s.final,.int .u64 s.out]) hf.size a6.out rfl (oZ.u5 _) kR ?_ ?_
 . (
 intro a7 w1 hh hd hk K Z
 refine Sb.pl ?_
 have ZV:=Sm.v 5 0 hd hk []
 have F4:=Sm.r5 hh [(7,[]),(10,[])] kR
 have l6:=Sm.l9 hh [] [(7,[]),(10,[])] kR
 clear hd hh
 go_simp
 exact Z.out _ rfl _ _ ((Below.refl _ _).alloc nR _) ⟨_,rfl,E8 _ _ _⟩)
 refine Sm.E6 (k:=7) (n:=43) (VF w4 base g t xs sv mb (ss.length+1) (cells++[av,.bool s.final,.int .u64 s.out])) hf.size a6.out rfl (VF.u5 _ _ _ _ _ _ _ _ _) kR ?_ ?_
 . (
 intro a7 w1 hh hd hk K Z
 refine Sb.pl ?_
 have vN:=Sm.v 4 2 hd hk []
 obtain ⟨x38,Dd,y7h⟩:=Sm.use (j:=6) (m:=0) hd hk rfl [] kR [(10,true,[])] kR rfl rfl rfl
 obtain ⟨b38,rfl,y7g⟩:=y7h
 have F4:=Sm.r5 hh [(10,[])] kR
 have l6:=Sm.l9 hh [] [(10,[])] kR
 clear hd hh
 have R1:=n3 z9w F4
 have gR:=(F4.block g (j5 QB)).trans QB
 refine J6 _ _ 36 rfl 46 _ 3 40 Tryz.underlying36 CR rfl dC dC base sv ss.length cells (by rw [HSV.out];exact Fc.l5 vN) R1 b38 _ (Fc.l5 Dd) rfl y7g (by intro u hu;simp at hu;rcases hu with rfl | rfl | rfl<;>first | rfl | exact gn z9y) oM (by have:=F4.size;omega) (fun v2 w2 kT lW jE=> ?_)
 have x8v:sv.ownBlock=sv.ownBlock:=rfl
 exact Z.out _ rfl _ _ (n4.grown lW (fun k hk=> .inr (hsb k hk))) ⟨kT,jE.imp id (fun h=>⟨_,h,F4.size⟩),lW.block g (j5 gR) (fun e=>by have h1:=hsb g e.symm;have h2:=gj.out;omega) |>.trans gR⟩)
 apply Sm.tq 8 _ hf a6
 . (
 intro a7 w1 hh hd hk K Z
 refine Sb.pl ?_
 have TX:=Sm.v 0 7 hd hk []
 have l6:=Sm.l9 hh [7] [(10,[9])] kR
 clear hd hh
 go_simp
 exact Sb.k Z)
 apply Sm.tq 9 _ hf a6
 . (
 intro a7 w1 hh hd hk K Z
 refine Sb.pl ?_
 have gZ:=Sm.v 8 0 hd hk []
 have l6:=Sm.l9 hh [7] [(10,[])] kR
 clear hd hh
 go_simp
 exact Sb.k Z)
 refine Sm.E6 (k:=10) (n:=43) (VG w4 base g t xs sv mb (ss.length+1) (cells++[av,.bool s.final,.int .u64 s.out])) hf.size a6.out rfl (VG.u5 _ _ _ _ _ _ _ _ _) kR ?_ ?_
 . (
 intro a7 w1 hh hd hk K Z
 refine Sb.pl ?_
 have At:=Sm.v 9 0 hd hk []
 obtain ⟨x39,cR,y7f⟩:=Sm.use (j:=7) (m:=2) hd hk rfl [] kR [] kR rfl rfl rfl
 obtain ⟨z9v,z9u,gi⟩:=y7f
 have l6:=Sm.l9 hh [7] [] kR
 clear hd hh
 have z0:=cell_of_row _ _ 0 _ t (0,0) gi
 simp at z0
 have fz:=j6 (i:=0) gi
 obtain ⟨A2,c2,vV,_⟩:=y8 z9v
 subst vV
 go_simp
 refine Z.out _ rfl undef _ (n4.setCell (.inl gj.out) _) ⟨_,u7 z9v (n4.setCell (S:=fun k=>k=g) rfl _) (fun k aB e=> ?_),z9u,?_⟩;(subst e;rcases z9u with h | ⟨k2,h,M9⟩;(rw [aB] at h;have h1:=hsb _ h.symm;have h2:=gj.out;omega);(rw [aB] at h;injection h with h;have:=j5 QB;omega));exact (k7 gi _).trans sP)
 refine Sm.E5 (n:=43) kR hf.size a6.out rfl (fun a7 w1 hh hg=> ?_)
 replace s6:=Sm.o hh kR s6
 obtain ⟨_,V0⟩:=Sm.M4 (j:=10) (m:=0) hg rfl dC [(7,[])] kR rfl
 have y5:=hh.fr hf
 have l6:=hh.but
 clear hg hh hf a6 s0 s3
 have hf:=y5;clear y5
 refine Zs a8 fun _ a8=>Zr [42] hf ?_
 refine p5 4 hf ?_
 clear hf s6;intro a7 hf s4
 refine Zx a8 (k8 ?_)
 obtain ⟨v2,R1,vU,gR⟩:=V0
 replace l6:=l6 (fun k=>sG k=1\/sG k=2) (fun m _ b h=>h)
 refine Fc.o6 rfl hf s4 ⟨by rw [M8.out],sG,v2,ec.out,HGE.out,?_,?_⟩
 . (
 rw [M8.out];exact AJ.snoc Hh hM4 l6 R8 hCS R1 (fun k hk=>by rcases vU with h | ⟨k2,h,M9⟩;(rw [hk] at h;exact hsb _ h.symm);(rw [hk] at h;injection h with h;exact HGE.out k oM)) gR z9y a6 Dc.out)
 . (
 exact n4.via uS U4 l6 (fun k hk e=>by have h1:=ec.out k hk;have h2:=AJ.om;rcases e with rfl | e | e<;>omega)))
def lF (s:State) (i:Nat):State:=⟨s.final,s.out,s.j4.take i⟩
theorem Ey (s:State):leastOf (lF s 0)=s.out:=by
 unfold leastOf lF
 cases s.final<;>simp
theorem Kt (s:State):leastOf (lF s s.j4.length)=leastOf s:=by
 unfold lF
 rw [List.take_length]
theorem Ez {s:State} {i:Nat} {a:u3} (h:s.j4[i]? =some a):leastOf (lF s (i+1))=if (!(s.final||decide (0<i))||decide (a.out<leastOf (lF s i)))=true then a.out else leastOf (lF s i):=by
 have o9:=(H2 h).1
 have ht:s.j4.take (i+1)=s.j4.take i++[a]:=by rw [List.take_add_one,h];rfl
 have fold:∀ (x:Nat) (l:List Nat),(l++[a.out]).foldl min x=if a.out<l.foldl min x then a.out else l.foldl min x:=fun x l=>by
  rw [List.foldl_append]
  simp only [List.foldl_cons,List.foldl_nil]
  by_cases cQ:a.out<l.foldl min x
  ·rw [if_pos cQ,Nat.min_eq_right oM]
  ·rw [if_neg cQ,Nat.min_eq_left oM]
 unfold leastOf lF
 simp only [ht,List.map_append,List.map_cons,List.map_nil]
 cases hf:s.final with
 | true =>
  simp only [if_true,List.singleton_append,List.cons_append,Bool.true_or,Bool.not_true,Bool.false_or,decide_eq_true_eq]
  exact fold _ _
 | false =>
  simp only [Bool.false_eq_true,if_false,List.nil_append,Bool.false_or]
  cases i with
  | zero=>simp
  | succ i =>
   obtain ⟨y,l,hl⟩:∃ y l,(s.j4.take (i+1)).map u3.out=y::l:=by
    cases hl:(s.j4.take (i+1)).map u3.out with
    | nil=>have:=congrArg List.length hl;simp only [List.length_map,List.length_take,List.length_nil] at this;omega
    | cons y l=>exact ⟨y,l,rfl⟩
   rw [hl]
   simp only [List.cons_append,Nat.zero_lt_succ,decide_true,Bool.not_true,Bool.false_or,decide_eq_true_eq]
   exact fold _ _
theorem eE (w:World) (g o:Nat) (s:State) (B:Nat->Prop) (av:Value) (hs:JP w B g o av s) (cY:L3 s):E2 w 90 #[.pointer (some ⟨g,o,none⟩)] (.int .u64 (leastOf s)):=by
 refine L7 39 Tryz.func90 fun fr hf s0=> ?_
 have c1:=hs.c1
 have c2:=hs.c2
 have c0:=hs.c0
 have ha:=hs.j4
 obtain ⟨A,cc,rfl,U0⟩:=ha.form
 have hlen:=cY.2.1
 have ot:=cY.2.2
 clear hs
 refine Ze fun _ a8=>Zr [] hf ?_
 refine p5 0 hf ?_
 clear hf s0;intro a7 hf s0
 refine Zs a8 fun _ a8=>Sb.tb 39 fun a6=> ?_
 have lf:=H9 fun (w9:World) (h9:Below _ _ w9)=>ad (cL h9 c0) (ad (cL h9 c1) (ad (cL h9 c2) (ha.later h9)))
 refine Sb.mO 0 s0 hf a6 ?_
 refine Sb.T 1 hf a6 ?_
 refine Sb.T 2 hf a6 ?_
 refine Sb.T 3 hf a6 ?_
 refine Sb.T 4 hf a6 ?_ (hF:=fun _ _ h d=>lf.out _ h.ext)
 refine Sb.mO 5 s0 hf a6 ?_
 refine Sb.T 6 hf a6 ?_
 refine Sb.T 7 hf a6 ?_
 refine Sb.T 8 hf a6 ?_
 refine Sb.T 9 hf a6 ?_ (hF:=fun _ _ h d=>lf.out _ h.ext)
 refine Sb.mN 10 4 5 hf a6 [] ?_
 refine Sb.mN 11 9 1 hf a6 [] ?_
 refine Sb.E hf a6 (fun _ _ h g=>ad (Sb.O h s0) (ad (Sb.f 10 1 g) (Sb.f 11 0 g))) ?_
 clear hf a6 s0;intro a7 w1 hf hx sS
 have L1:=lf.out _ hx;(try clear c0 c1 c2 ha);clear lf;obtain ⟨c0,c1,c2,ha⟩:=L1
 refine Zs a8 fun _ a8=>Ze fun _ j8=>Zr [17,18,19,20,21] hf ?_
 refine D2 3 4 21 22 23 hf ?_
 intro a7 hf sS
 refine Zx j8 (wp_block ?_)
 clear c1 c2
 refine wp_loop_ghost (fun gk fr wr=>∃ (i:Nat),gk=s.j4.length-i/\i<=s.j4.length/\Fc.Fr 39 fr/\fr.tmps[3]? =some (.int .u64 (leastOf (lF s i)))/\fr.tmps[4]? =some (.bool (s.final||decide (0<i)))/\fr.tmps[21]? =some (.slice A s.j4.length cc)/\fr.tmps[22]? =some (.int .i64 s.j4.length)/\fr.tmps[23]? =some (.int .i64 i)/\Below w1.heap.size w1 wr) (s.j4.length) ?_ ?_
 . (
 obtain ⟨s3,s4,S9,X6,Q3⟩:=sS
 exact ⟨0,rfl,Nat.zero_le _,hf,by rw [s3,Ey],by rw [s4];simp,S9,X6,Q3,Below.refl _ _⟩)
 . (
 clear hf sS
 rintro gk fr wr ⟨i,hk,hi,hf,s3,s4,S9,X6,Q3,hb⟩
 have HK:=H9 hk;clear hk
 refine Ze fun _ j8=>Zr [] hf ?_
 refine F1 3 4 21 22 23 24 hf ?_
 clear hf s3 s4 S9 X6 Q3;intro a7 hf sS
 refine Zs j8 fun _ j8=>Fc.l0 sS.2.2.2.2.2 (fun hq=> ?_) (fun hq=> ?_)
 . (
 have o9:i<s.j4.length:=qT
 obtain ⟨a,X9⟩:∃ a,s.j4[i]? =some a:=⟨_,F8 o9⟩
 obtain ⟨b,off,rfl,X3,d0,d1,d2⟩:=(ha.later hb).at' X9
 have A8:=Ez X9
 have HS:=H9 A8
 have HA:=H9 X9
 clear A8 X9
 refine wp_skip (Zs j8 fun _ j8=>wp_block (Ze fun _ l8=>Zr [25,26,6] hf ?_))
 refine F1 3 4 6 21 22 23 hf ?_
 intro a7 hf sS
 clear d0 d1 d2 X3
 generalize p8:wr.alloc (.cells #[.int .u8 a.byte,.int .u64 a.out,.int .i64 a.to] 71)=W0
 obtain ⟨r8, -,x1, -, -, -⟩:=E7 p8
 clear p8
 refine Zx l8 ?_
 rcases hany:(s.final||decide (0<i)) with _ | _
 . (
 obtain ⟨s3,s4,s6,S9,X6,Q3⟩:=sS
 try rw [hany] at s4
 refine Ze fun _ l8=> ?_
 have qs:=hany
 refine Zr [27,28,29,30,31,32,33] hf ?_
 refine Z1 3 4 6 21 22 23 34 hf ?_
 clear hf s3 s4 s6 S9 X6 Q3 qs;intro a7 hf sS
 refine Zx l8 (Fc.l0 sS.2.2.2.2.2.2 (fun C5=> ?_) (fun C5=> ?_))
 . (
 have jF:=HS.out
 rw [hany] at jF
 try simp only [Bool.not_true,Bool.not_false,Bool.false_or,Bool.true_or,if_true] at jF
 have Ku:=H9 jF
 clear jF
 refine Zr [35,36] hf ?_
 refine D2 3 4 21 22 23 hf ?_
 intro a7 hf sS
 refine Fc.j9 (Zx j8 (Zr [37] hf ?_))
 refine D2 3 4 21 22 23 hf ?_
 intro a7 hf sS
 refine Fc.j7 ?_
 obtain ⟨s3,s4,S9,X6,Q3⟩:=sS
 exact ⟨_,by have:=HK.out;omega,i+1,rfl,oM,hf,by rw [s3,Ku.out],by rw [s4];simp,S9,X6,by rw [Q3];rfl,hb.trans (r8.mono hb.size)⟩)
 . (
 have jF:=HS.out
 rw [hany] at jF
 try simp only [Bool.not_true,Bool.not_false,Bool.false_or,Bool.true_or,if_true] at jF
 simp at C5))
 . (
 obtain ⟨s3,s4,s6,S9,X6,Q3⟩:=sS
 try rw [hany] at s4
 refine Ze fun _ l8=> ?_
 have qs:=hany
 refine Zr [27,28,29,30,31,32,33] hf ?_
 refine Z1 3 4 6 21 22 23 34 hf ?_
 clear hf s3 s4 s6 S9 X6 Q3 qs;intro a7 hf sS
 refine Zx l8 (Fc.l0 sS.2.2.2.2.2.2 (fun C5=> ?_) (fun C5=> ?_))
 . (
 have jF:=HS.out
 rw [hany] at jF
 try simp only [Bool.not_true,Bool.not_false,Bool.false_or,Bool.true_or,if_true] at jF
 rw [C5] at jF
 try simp only [Bool.false_eq_true,if_false,if_true] at jF
 have Ku:=H9 jF
 clear jF
 refine Zr [35,36] hf ?_
 refine D2 3 4 21 22 23 hf ?_
 intro a7 hf sS
 refine Fc.j9 (Zx j8 (Zr [37] hf ?_))
 refine D2 3 4 21 22 23 hf ?_
 intro a7 hf sS
 refine Fc.j7 ?_
 obtain ⟨s3,s4,S9,X6,Q3⟩:=sS
 exact ⟨_,by have:=HK.out;omega,i+1,rfl,oM,hf,by rw [s3,Ku.out],by rw [s4];simp,S9,X6,by rw [Q3];rfl,hb.trans (r8.mono hb.size)⟩)
 . (
 have jF:=HS.out
 rw [hany] at jF
 try simp only [Bool.not_true,Bool.not_false,Bool.false_or,Bool.true_or,if_true] at jF
 rw [C5] at jF
 try simp only [Bool.false_eq_true,if_false,if_true] at jF
 have Ku:=H9 jF
 clear jF
 refine wp_skip (Fc.j9 (Zx j8 (Zr [37] hf ?_)))
 refine D2 3 4 21 22 23 hf ?_
 intro a7 hf sS
 refine Fc.j7 ?_
 obtain ⟨s3,s4,S9,X6,Q3⟩:=sS
 exact ⟨_,by have:=HK.out;omega,i+1,rfl,oM,hf,by rw [s3,Ku.out],by rw [s4];simp,S9,X6,by rw [Q3];rfl,hb.trans (r8.mono hb.size)⟩)))
 . (
 have C3:i=s.j4.length:=qF
 subst C3
 refine Zo ?_
 refine Zs a8 fun _ a8=>Zr [38] hf ?_
 refine p5 2 hf ?_
 intro a7 hf s2
 refine Zx a8 (k8 ?_)
 exact Fc.o6 rfl hf s2 ⟨by rw [Kt],hx.trans (hb.mono hx.size)⟩))
def Y8 (l:List u3) (n i:Nat):List u3:=(l.take i).map (fun a=>⟨a.byte,a.out-n,a.to⟩)++l.drop i
theorem oJ (l:List u3) (n:Nat):Y8 l n 0=l:=by simp [Y8]
theorem sH (l:List u3) (n:Nat):Y8 l n l.length=l.map (fun a=>⟨a.byte,a.out-n,a.to⟩):=by simp [Y8]
theorem iE (l:List u3) (n i:Nat):(Y8 l n i).length=l.length:=by simp [Y8];omega
theorem wN {l:List u3} {n i:Nat} {a:u3} (h:l[i]? =some a):(Y8 l n i)[i]? =some a:=by
 have o9:=(H2 h).1
 unfold Y8
 rw [List.getElem?_append_right sO]
 simp
 rw [<- h]
 congr 1
 omega
theorem oK {l:List u3} {n i:Nat} {a:u3} (h:l[i]? =some a):Y8 l n (i+1)=(Y8 l n i).set i ⟨a.byte,a.out-n,a.to⟩:=by
 have o9:=(H2 h).1
 unfold Y8
 have h1:l.take (i+1)=l.take i++[a]:=by rw [List.take_add_one,h];rfl
 have h2:l.drop i=a::l.drop (i+1):=by
  rw [List.drop_eq_getElem_cons o9,(H2 h).2]
 rw [h1,h2,List.map_append,List.append_assoc,List.set_append_right _ _ sO]
 have h3:i-((l.take i).map (fun a:u3=>(⟨a.byte,a.out-n,a.to⟩:u3))).length=0:=sO
 rw [h3]
 rfl
def qC (s:State):List Nat:=(if s.final then [s.out] else [])++s.j4.map u3.out
theorem iF (s:State):(qC s=[]/\leastOf s=s.out)\/∃ x l,qC s=x::l/\leastOf s=l.foldl min x:=by
 unfold leastOf qC
 cases h:(if s.final then [s.out] else [])++s.j4.map u3.out with
 | nil=>exact .inl ⟨rfl,rfl⟩
 | cons x l=>exact .inr ⟨x,l,rfl,rfl⟩
theorem QC (l:List Nat):∀ x v,v∈x::l->l.foldl min x<=v:=by
 induction l with
 | nil=>intro x v h;simp at h;simp [h]
 | cons y l ih =>
  intro x v h
  rw [List.foldl_cons]
  rcases List.mem_cons.1 h with rfl | h
  ·exact Nat.le_trans (ih (min v y) _ (List.mem_cons_self ..)) (Nat.min_le_left _ _)
  ·rcases List.mem_cons.1 h with rfl | h
   ·exact Nat.le_trans (ih (min x v) _ (List.mem_cons_self ..)) (Nat.min_le_right _ _)
   ·exact ih _ v (List.mem_cons_of_mem _ h)
theorem sJ {s:State} {v:Nat} (h:v∈qC s):leastOf s<=v:=by
 rcases iF s with ⟨h1,_⟩ | ⟨x,l,h1,h2⟩
 ·rw [h1] at h;cases h
 ·rw [h2];rw [h1] at h;exact QC l x v h
theorem oL {s:State} {n i:Nat} {a:u3} (hn:leastOf s=n) (h:s.j4[i]? =some a):n<=a.out:=by
 rw [<- hn]
 exact sJ (List.mem_append_right _ (List.mem_map_of_mem (T9 h)))
theorem CT {s:State} {n:Nat} (hn:leastOf s=n) (h:s.final=true):n<=s.out:=by
 rw [<- hn]
 refine sJ (List.mem_append_left _ ?_)
 simp [h]
theorem QD (N:Nat) (l:List Nat):∀ x,x<N->(∀ v∈l,v<N)->l.foldl min x<N:=by
 induction l with
 | nil=>intro x h _;exact h
 | cons y l ih=>intro x h h2;rw [List.foldl_cons];exact ih _ oM (fun v hv=>h2 v (List.mem_cons_of_mem _ hv))
theorem sK {s:State} (h:L3 s):leastOf s<18446744073709551616:=by
 rcases iF s with ⟨_,h2⟩ | ⟨x,l,h1,h2⟩
 ·rw [h2];exact h.1
 ·have J4:∀ v∈x::l,v<18446744073709551616:=fun v hv=>by
   rw [<- h1] at hv
   rcases List.mem_append.1 hv with hv | hv
   ·split at hv
    ·simp at hv;subst hv;exact h.1
    ·cases hv
   ·obtain ⟨a,ha,rfl⟩:=List.mem_map.1 hv
    exact (h.2.2 a ha).2.1
  rw [h2]
  exact QD _ l x (J4 x (List.mem_cons_self ..)) (fun v hv=>J4 v (List.mem_cons_of_mem _ hv))
theorem OA.other {w:World} {base g:Nat} {v:Value} {l:List u3} {cs:Array Value} (h:OA w base v l) (hk:w.heap[g]? =some (.cells cs 126 (0,0))):∀ k,v.ownBlock=some k->k≠g:=by
 rintro k hv rfl
 rcases h.2 with ⟨rfl,_⟩ | ⟨g,cap,cur,rfl,_,h3,_⟩
 ·cases hv
 ·injection hv with hv
  subst hv
  rw [hk] at h3
  injection h3 with h3
  injection h3 with _ h4
  cases h4
theorem FA (w:World) (b i p:Nat) (x n:Nat) (hx:x<18446744073709551616) (hn:n<=x) (cq:w.cell? ⟨b,i,none⟩=some (.int .u64 x)) (fq:w.frozen? ⟨b,i,none⟩=false) (cp:w.cell? ⟨p,0,none⟩=some (.int .u64 n)):Calls Tryz.prog 91 #[.pointer (some ⟨b,i,none⟩),.pointer (some ⟨p,0,none⟩)] w fun e w1=>e= .returned (.tuple #[])/\∃ w0,Below w.heap.size w w0/\w1=w0.setCell ⟨b,i,none⟩ (.int .u64 (x-n:Nat)):=by
 refine Z6 9 Tryz.func91 fun fr hf s0 s1=> ?_
 have cq0:=cq
 refine Sb.tb 9 fun a6=> ?_
 refine Sb.mO 0 s0 hf a6 ?_
 refine Sb.T 1 hf a6 ?_
 refine Sb.T 2 hf a6 ?_ (hF:=fun _ _ h d=>ad (cL h.ext cq) (cL h.ext cp))
 refine Sb.T 3 hf a6 ?_ (hF:=fun _ _ h d=>ad (Sb.O h s1) (ad (cL h.ext cq) (cL h.ext cp)))
 apply Sb.tq 4 _ hf a6
 . (
 intro a7 w1 hh hd hk K Z
 have s5:=Sb.v 2 1 hd hk []
 have s6:=Sb.v 3 0 hd hk []
 clear hd
 go_simp
 try simp (disch:=omega) only [Fc.W]
 rw [show (x:Int)-(n:Int)=((x-n:Nat):Int) by omega]
 exact Sb.k Z)
 refine Sb.T 5 hf a6 ?_
 refine Tl.G5 (n:=9) (m:=6) (ws:=[]) kR hf.size a6.out rfl rfl kR (fun a7 w1 hh hg=> ?_)
 have s7:=Tl.z7 4 1 hg rfl rfl rfl rfl rfl
 have s8:=Tl.z7 5 0 hg rfl rfl rfl rfl rfl
 have y5:=hh.fr hf
 have hx:=hh.ext
 replace cq:=cL hx cq
 replace cp:=cL hx cp
 clear hg hh hf a6 s0 s1
 have hf:=y5;clear y5
 have fq2:=xM hx cq0 fq
 refine Tl.J5 rfl rfl (fun K Z=> ?_)
 go_simp
 apply Z.out;clear Z K
 refine Tl.L8 rfl ?_
 refine Dq hf ?_
 clear hf s7 s8;intro a7 hf
 exact Fc.mE rfl hf ⟨rfl,_,hx,rfl⟩
theorem QE (w:World) (g kA base:Nat) (s:State) (av:Value) (cY:L3 s) (mB:w.heap[g]? =some (.cells #[av,.bool s.final,.int .u64 s.out,.int .u8 kA] 126 (0,0))) (S1:OA w base av s.j4):Calls Tryz.prog 53 #[.pointer (some ⟨g,0,none⟩)] w fun e w1=>e= .returned (.int .u64 (leastOf s))/\w1.heap[g]? =some (.cells #[av,.bool s.final,.int .u64 (less s (leastOf s)).out,.int .u8 kA] 126 (0,0))/\OA w1 base av (less s (leastOf s)).j4/\n4 (fun k=>k=g\/av.ownBlock=some k) w w1:=by
 refine L7 41 Tryz.func53 fun fr hf s0=> ?_
 have c0:=n5 0 mB
 have c1:=n5 1 mB
 have c2:=n5 2 mB
 simp at c0 c1 c2
 have o9:=j5 mB
 have hlen:=cY.2.1
 have Se:JP w (fun _=>True) g 0 av s:=⟨c0,c1,c2,S1.ra fun _ _=>trivial⟩
 have F0:=OA.other S1 mB
 clear c0 c1 c2
 obtain ⟨n,hn⟩:∃ n,leastOf s=n:=⟨_,rfl⟩
 have HN:=H9 hn
 have mV:=sK cY
 rw [hn] at mV
 refine Ze fun _ a8=>Zr [] hf ?_
 refine p5 0 hf ?_
 clear hf s0;intro a7 hf s0
 refine Zt a8 fun _ a8=> ?_
 have bB:=hf.B3 6 7 3
 refine Zy ?_
 refine Zc (eE w g 0 s _ av Se cY) ?_;rintro e w1 ⟨rfl,p6⟩
 rw [hn]
 refine Zv ?_
 iterate 2 refine Zy ?_
 refine Fc.nil (y4 0 3 hf ?_)
 clear hf s0 bB;intro a7 hf sS
 generalize p8:w1.alloc (.cells #[.int .u64 n] 35)=W0
 obtain ⟨r8,xp, -,z9t⟩:=oY p8
 clear p8
 have C8:w1.heap.size<W0.heap.size:=by rw [z9t];exact Nat.lt_succ_self _
 clear z9t
 have o7:=p6.trans (r8.mono p6.size)
 have CU:=(o7.block g o9).trans mB
 have FB:=n3 S1 o7
 have hgp:g≠w1.heap.size:=by have:=p6.size;omega
 have Eu:=p6.size
 have c1:=n5 1 CU
 simp at c1
 clear p6 r8 hn
 refine Zs a8 fun _ a8=>Zr [8] hf ?_
 refine y7 0 3 4 hf ?_
 intro a7 hf sS
 refine Zs a8 fun _ a8=>Ze fun _ j8=>Zr [9,10,11,12] hf ?_
 refine z8 0 3 4 13 hf ?_
 intro a7 hf sS
 refine Zx j8 ?_
 rcases p7:s.final with _ | _
 . (
 obtain ⟨s0,s3,s4,D1⟩:=sS
 try rw [p7] at D1
 refine Fc.k9 D1 ?_
 refine wp_skip (Zx a8 ?_)
 have nC:=CU
 have l6:n4 (fun k=>k=g\/av.ownBlock=some k) w W0:=n4.of _ o7
 have pF:=FB
 have oq:=xp
 clear CU FB xp
 obtain ⟨W1,rfl⟩:∃ W1,W0=W1:=⟨_,rfl⟩
 have o0:∃ so:Nat,so=(if s.final then s.out-n else s.out):=⟨_,rfl⟩
 obtain ⟨so,tS⟩:=o0
 rw [p7] at tS nC
 simp only [if_true,Bool.false_eq_true,if_false] at tS
 rw [<- tS] at nC
 have c0:=n5 0 nC
 simp at c0
 obtain ⟨A,cc,rfl,U0⟩:=(OA.ra (B:=fun _=>True) pF fun _ _=>trivial).form
 have Ud:=H9 tS;clear tS c1
 refine Ze fun _ a8=>Ze fun _ j8=>Zr [20,21,22,23,24] hf ?_
 refine D2 0 3 4 25 26 hf ?_
 clear hf s0 s3 s4 D1;intro a7 hf sS
 refine Zx j8 (wp_block (wp_loop_ghost (fun gk fr wr=>∃ (i:Nat),gk=s.j4.length-i/\i<=s.j4.length/\Fc.Fr 41 fr/\fr.tmps[0]? =some (.pointer (some ⟨g,0,none⟩))/\fr.tmps[3]? =some (.pointer (some ⟨w1.heap.size,0,none⟩))/\fr.tmps[4]? =some (.func (.func 91) #[] #[.pointer (some ⟨w1.heap.size,0,none⟩)])/\fr.tmps[25]? =some (.int .i64 s.j4.length)/\fr.tmps[26]? =some (.int .i64 i)/\OA wr base (.slice A s.j4.length cc) (Y8 s.j4 n i)/\wr.heap[g]? =some (.cells #[.slice A s.j4.length cc,.bool false,.int .u64 so,.int .u8 kA] 126 (0,0))/\wr.cell? ⟨w1.heap.size,0,none⟩=some (.int .u64 n)/\n4 (fun k=>k=g\/(.slice A s.j4.length cc:Value).ownBlock=some k) w wr) (s.j4.length) ?_ ?_))
 . (
 obtain ⟨s0,s3,s4,Z9,aG⟩:=sS
 exact ⟨0,rfl,Nat.zero_le _,hf,s0,s3,s4,Z9,aG,by rw [oJ];exact pF,nC,oq,l6⟩)
 . (
 clear hf sS
 rintro gk fr wr ⟨i,hk,hi,hf,s0,s3,s4,Z9,aG,lU,yP,xpi,QF⟩
 have HK:=H9 hk;clear hk
 clear pF nC oq l6 c0
 refine Ze fun _ j8=>Zr [] hf ?_
 refine F1 0 3 4 25 26 27 hf ?_
 clear hf s0 s3 s4 Z9 aG;intro a7 hf sS
 refine Zs j8 fun _ j8=>Fc.l0 sS.2.2.2.2.2 (fun hq=> ?_) (fun hq=> ?_)
 . (
 have cQ:i<s.j4.length:=qT
 obtain ⟨a,X9⟩:∃ a,s.j4[i]? =some a:=⟨_,F8 cQ⟩
 have XW:=iE s.j4 n i
 have FC:=wN (n:=n) X9
 obtain ⟨b,c3,lV,_,F9⟩:=OA.own lU oM
 rw [XW] at lV
 injection lV with lV
 subst lV
 have pC:=oL HN.out X9
 have uE:=(cY.2.2 a (T9 X9)).2.1
 have c0:=n5 0 yP
 simp at c0
 have d1:=(OA.cell lU FC).2.1
 have yZ:=H9 X9;have gh:=H9 FC;clear X9 FC
 have AL:wr.frozen? ⟨b,i*3+1,none⟩=false:=by have h5:=lU;unfold OA at h5;rw [XW] at h5;exact h5.frozenAt _
 refine wp_skip (Zs j8 fun _ j8=>wp_block (Ze fun _ l8=>Zr [28] hf ?_))
 refine F1 0 3 4 5 25 26 hf ?_
 intro a7 hf sS
 refine Zx l8 (rg ?_)
 have bB:=hf.B9 29 30 31 32 33 34 35 36 37
 iterate 7 refine Zy ?_
 refine fp fun K Z=> ?_
 go_simp
 try rw [if_pos (by omega)]
 apply Z.out;clear Z K
 refine Zy ?_
 refine Zc (FA wr b (i*3+1) w1.heap.size a.out n uE pC d1 AL xpi) ?_;rintro e w6 ⟨rfl,w7,B1,rfl⟩
 refine Zv ?_
 refine Fc.nil (D2 0 3 4 25 26 hf ?_)
 intro a7 hf sS
 refine Fc.j9 (Zx j8 (Zr [39] hf ?_))
 refine D2 0 3 4 25 26 hf ?_
 intro a7 hf sS
 refine Fc.j7 ?_
 have eQ:=n4.setCell (S:=fun k=>k=b) (w:=w7) (p:=⟨b,i*3+1,none⟩) rfl (.int .u64 (a.out-n:Nat))
 have AE:¬ (g=b):=fun e=>F0 b rfl (e.symm)
 obtain ⟨s0,s3,s4,Z9,aG⟩:=sS
 refine ⟨_,by have:=HK.out;omega,i+1,rfl,oM,hf,s0,s3,s4,Z9,by rw [aG];rfl,?_,eQ.heap ((B1.block g (j5 yP)).trans yP) AE,eQ.cell (cL B1 xpi) (fun e=> ?_),(QF.trans (n4.of _ B1)).trans (n4.setCell (.inr rfl) _)⟩
 . (
 rw [oK yZ.out];exact OA.out (n3 lU B1) gh.out oM _)
 . (
 have e:w1.heap.size=b:=e;have h5:=(S1.lt b rfl).2;omega))
 . (
 have C3:i=s.j4.length:=qF
 subst C3
 rw [sH] at lU
 refine Zo ?_
 refine Zs a8 fun _ a8=>Zr [40] hf ?_
 refine p5 2 hf ?_
 intro a7 hf s2
 refine Zx a8 (k8 ?_)
 have Kv:=Ud.out
 subst Kv
 have Xt:=HN.out
 subst Xt
 refine Fc.o6 rfl hf s2 ⟨rfl,?_,?_,QF⟩
 . (
 rw [yP];simp [less,p7])
 . (
 simpa [less,p7] using lU))))
 . (
 obtain ⟨s0,s3,s4,D1⟩:=sS
 try rw [p7] at D1
 refine Fc.l7 D1 ?_
 have c2:=n5 2 CU
 simp at c2
 have Kv:=CT HN.out p7
 refine rg ?_
 have bB:=hf.B5 14 15 16 17 18
 iterate 5 refine Zy ?_
 refine Zc (FA W0 g 2 w1.heap.size s.out n cY.1 Kv c2 (j6 CU) xp) ?_;rintro e w5 ⟨rfl,w4,U4,rfl⟩
 refine Zv ?_
 refine Fc.nil (y7 0 3 4 hf ?_)
 clear hf s0 s3 s4 D1 bB;intro a7 hf sS
 refine Zx a8 ?_
 have nC:=k7 (i:=2) ((U4.block g (j5 CU)).trans CU) (.int .u64 (s.out-n:Nat))
 simp at nC
 have l6:n4 (fun k=>k=g\/av.ownBlock=some k) w (w4.setCell ⟨g,2,none⟩ (.int .u64 (s.out-n:Nat))):=(n4.of _ (o7.trans (U4.mono o7.size))).trans (n4.setCell (.inl rfl) _)
 have pF:OA (w4.setCell ⟨g,2,none⟩ (.int .u64 (s.out-n:Nat))) base av s.j4:=u7 (n3 FB U4) (n4.setCell (S:=fun k=>k=g) rfl _) (fun k hk e=>F0 k hk e)
 have oq:(w4.setCell ⟨g,2,none⟩ (.int .u64 (s.out-n:Nat))).cell? ⟨w1.heap.size,0,none⟩=some (.int .u64 n):=(n4.setCell (S:=fun k=>k=g) rfl _).cell (cL U4 xp) (fun e=>hgp e.symm)
 obtain ⟨W1,P2⟩:∃ W1,w4.setCell ⟨g,2,none⟩ (.int .u64 (s.out-n:Nat))=W1:=⟨_,rfl⟩
 rw [P2] at nC l6 pF oq
 try rw [P2]
 clear P2 CU FB xp U4 c2
 have o0:∃ so:Nat,so=(if s.final then s.out-n else s.out):=⟨_,rfl⟩
 obtain ⟨so,tS⟩:=o0
 rw [p7] at tS nC
 simp only [if_true,Bool.false_eq_true,if_false] at tS
 rw [<- tS] at nC
 have c0:=n5 0 nC
 simp at c0
 obtain ⟨A,cc,rfl,U0⟩:=(OA.ra (B:=fun _=>True) pF fun _ _=>trivial).form
 have Ud:=H9 tS;clear tS c1
 refine Ze fun _ a8=>Ze fun _ j8=>Zr [20,21,22,23,24] hf ?_
 refine D2 0 3 4 25 26 hf ?_
 intro a7 hf sS
 refine Zx j8 (wp_block (wp_loop_ghost (fun gk fr wr=>∃ (i:Nat),gk=s.j4.length-i/\i<=s.j4.length/\Fc.Fr 41 fr/\fr.tmps[0]? =some (.pointer (some ⟨g,0,none⟩))/\fr.tmps[3]? =some (.pointer (some ⟨w1.heap.size,0,none⟩))/\fr.tmps[4]? =some (.func (.func 91) #[] #[.pointer (some ⟨w1.heap.size,0,none⟩)])/\fr.tmps[25]? =some (.int .i64 s.j4.length)/\fr.tmps[26]? =some (.int .i64 i)/\OA wr base (.slice A s.j4.length cc) (Y8 s.j4 n i)/\wr.heap[g]? =some (.cells #[.slice A s.j4.length cc,.bool true,.int .u64 so,.int .u8 kA] 126 (0,0))/\wr.cell? ⟨w1.heap.size,0,none⟩=some (.int .u64 n)/\n4 (fun k=>k=g\/(.slice A s.j4.length cc:Value).ownBlock=some k) w wr) (s.j4.length) ?_ ?_))
 . (
 obtain ⟨s0,s3,s4,Z9,aG⟩:=sS
 exact ⟨0,rfl,Nat.zero_le _,hf,s0,s3,s4,Z9,aG,by rw [oJ];exact pF,nC,oq,l6⟩)
 . (
 clear hf sS
 rintro gk fr wr ⟨i,hk,hi,hf,s0,s3,s4,Z9,aG,lU,yP,xpi,QF⟩
 have HK:=H9 hk;clear hk
 clear pF nC oq l6 c0
 refine Ze fun _ j8=>Zr [] hf ?_
 refine F1 0 3 4 25 26 27 hf ?_
 clear hf s0 s3 s4 Z9 aG;intro a7 hf sS
 refine Zs j8 fun _ j8=>Fc.l0 sS.2.2.2.2.2 (fun hq=> ?_) (fun hq=> ?_)
 . (
 have cQ:i<s.j4.length:=qT
 obtain ⟨a,X9⟩:∃ a,s.j4[i]? =some a:=⟨_,F8 cQ⟩
 have XW:=iE s.j4 n i
 have FC:=wN (n:=n) X9
 obtain ⟨b,c3,lV,_,F9⟩:=OA.own lU oM
 rw [XW] at lV
 injection lV with lV
 subst lV
 have pC:=oL HN.out X9
 have uE:=(cY.2.2 a (T9 X9)).2.1
 have c0:=n5 0 yP
 simp at c0
 have d1:=(OA.cell lU FC).2.1
 have yZ:=H9 X9;have gh:=H9 FC;clear X9 FC
 have AL:wr.frozen? ⟨b,i*3+1,none⟩=false:=by have h5:=lU;unfold OA at h5;rw [XW] at h5;exact h5.frozenAt _
 refine wp_skip (Zs j8 fun _ j8=>wp_block (Ze fun _ l8=>Zr [28] hf ?_))
 refine F1 0 3 4 5 25 26 hf ?_
 intro a7 hf sS
 refine Zx l8 (rg ?_)
 have bB:=hf.B9 29 30 31 32 33 34 35 36 37
 iterate 7 refine Zy ?_
 refine fp fun K Z=> ?_
 go_simp
 try rw [if_pos (by omega)]
 apply Z.out;clear Z K
 refine Zy ?_
 refine Zc (FA wr b (i*3+1) w1.heap.size a.out n uE pC d1 AL xpi) ?_;rintro e w6 ⟨rfl,w7,B1,rfl⟩
 refine Zv ?_
 refine Fc.nil (D2 0 3 4 25 26 hf ?_)
 intro a7 hf sS
 refine Fc.j9 (Zx j8 (Zr [39] hf ?_))
 refine D2 0 3 4 25 26 hf ?_
 intro a7 hf sS
 refine Fc.j7 ?_
 have eQ:=n4.setCell (S:=fun k=>k=b) (w:=w7) (p:=⟨b,i*3+1,none⟩) rfl (.int .u64 (a.out-n:Nat))
 have AE:¬ (g=b):=fun e=>F0 b rfl (e.symm)
 obtain ⟨s0,s3,s4,Z9,aG⟩:=sS
 refine ⟨_,by have:=HK.out;omega,i+1,rfl,oM,hf,s0,s3,s4,Z9,by rw [aG];rfl,?_,eQ.heap ((B1.block g (j5 yP)).trans yP) AE,eQ.cell (cL B1 xpi) (fun e=> ?_),(QF.trans (n4.of _ B1)).trans (n4.setCell (.inr rfl) _)⟩
 . (
 rw [oK yZ.out];exact OA.out (n3 lU B1) gh.out oM _)
 . (
 have e:w1.heap.size=b:=e;have h5:=(S1.lt b rfl).2;omega))
 . (
 have C3:i=s.j4.length:=qF
 subst C3
 rw [sH] at lU
 refine Zo ?_
 refine Zs a8 fun _ a8=>Zr [40] hf ?_
 refine p5 2 hf ?_
 intro a7 hf s2
 refine Zx a8 (k8 ?_)
 have Kv:=Ud.out
 subst Kv
 have Xt:=HN.out
 subst Xt
 refine Fc.o6 rfl hf s2 ⟨rfl,?_,?_,QF⟩
 . (
 rw [yP];simp [less,p7])
 . (
 simpa [less,p7] using lU))))
open Go.RowKit Go.Maps
theorem CV {w:World} {base n cap size b:Nat} {e:TypeId} {xs:List Value} (h:w.ownsRow base e size (.slice (some ⟨b,0,none⟩) (n+1) cap) (n+1) xs):w.ownsRow base e size (.slice (some ⟨b,0,none⟩) n cap) n (xs.take (n*size)):=by
 rcases h.2 with ⟨h',_⟩ | ⟨b',y7e,cur,h',hb,hg,hnc,hcm,cB,Xu⟩
 ·simp at h'
 ·simp only [Value.slice.injEq,Option.some.injEq,Addr.mk.injEq,and_true,true_and] at h'
  obtain ⟨rfl,rfl⟩:=h'
  have hl:n*size<=(n+1)*size:=Nat.mul_le_mul_right _ oM
  refine ⟨by rw [List.length_take,h.1];omega,.inr ⟨b,cap,cur,rfl,hb,hg,oM,hcm,cB,?_⟩⟩
  rw [<- Xu,List.take_take,Nat.min_eq_left hl]
theorem gg {w:World} {base GP n n' size QG:Nat} {e e':TypeId} {v v':Value} {xs xs':List Value} (h:w.ownsRow base e size v n xs) (h':w.ownsRow GP e' QG v' n' xs') (he:e≠e') {b:Nat} (hv:v.ownBlock=some b):v'.ownBlock≠some b:=by
 intro GN
 rcases h.2 with ⟨rfl,_⟩ | ⟨g,cap,cur,rfl,_,h3,_⟩
 ·cases hv
 rcases h'.2 with ⟨rfl,_⟩ | ⟨g',y7e,x2m,rfl,_,h3',_⟩
 ·cases GN
 injection hv with hv;injection GN with GN
 subst hv;subst GN
 rw [h3] at h3'
 injection h3' with h3'
 injection h3' with _ h4
 exact he h4
def zE (w:World) (base:Nat) (own:Nat->Nat) (cells:List Value) (W:List Open):Prop:=∀ (i:Nat) (o:Open),W[i]? =some o->∃ av,cells[i*4]? =some av/\cells[i*4+1]? =some (.bool o.st.final) /\
 cells[i*4+2]? =some (.int .u64 o.st.out)/\cells[i*4+3]? =some (.int .u8 o.kA)/\OA w base av o.st.j4/\∀ k,av.ownBlock=some k->own k=6+i
structure bU (w:World) (base:Nat) (own:Nat->Nat) (g:Nat) (sv:Value) (mb:Nat) (ss:List State) (wv:Value) (j:Nat) (u6:List Open):Prop where
 dP:bZ w base own g 123 [wv] sv mb ss
 row:∃ cells,w.ownsRow base 126 4 wv (u6.length+j) cells/\(∀ k,wv.ownBlock=some k->own k=5)/\zE w base own cells u6.reverse
section
variable {w w':World} {base g mb j:Nat} {own aC:Nat->Nat} {sv wv:Value} {ss:List State} {u6:List Open} {S:Nat->Prop}
theorem bU.but (h:bU w base own g sv mb ss wv j u6) (hb:n4 S w w') (hS:∀ k,S k->own k=0\/6+u6.length<=own k):bU w' base own g sv mb ss wv j u6:=by
 obtain ⟨cells,h1,h2,h3⟩:=h.row
 refine ⟨h.dP.but hb (fun k hk=>by have:=hS k hk;omega),cells,u7 h1 hb (fun k hk hs=>by have:=hS k hs;have:=h2 k hk;omega),h2,fun i o hi=> ?_⟩
 obtain ⟨av,h4,h5,h6,h7,h8,h9⟩:=h3 i o hi
 have W8:=(H2 hi).1
 rw [List.length_reverse] at W8
 exact ⟨av,h4,h5,h6,h7,u7 h8 hb (fun k hk hs=>by have:=hS k hs;have:=h9 k hk;omega),h9⟩
theorem bU.later (h:bU w base own g sv mb ss wv j u6) (hb:Below w.heap.size w w'):bU w' base own g sv mb ss wv j u6:=h.but (n4.of (fun _=>False) hb) (fun _ hf=>hf.elim)
theorem bU.told (h:bU w base own g sv mb ss wv j u6) (na:∀ k,k<base->aC k=4) (hk:∀ k,k<w.heap.size->1<=own k->own k<6+u6.length->aC k=own k):bU w base aC g sv mb ss wv j u6:=by
 obtain ⟨cells,h1,h2,h3⟩:=h.row
 refine ⟨h.dP.told na (fun k o9 h4 h5=>hk k o9 h4 oM),cells,h1,fun k X1=> ?_,fun i o hi=> ?_⟩
 ·have:=h2 k X1;rw [hk k (h1.lt k X1).2 oM oM];exact this
 ·obtain ⟨av,h4,h5,h6,h7,h8,h9⟩:=h3 i o hi
  have W8:=(H2 hi).1
  rw [List.length_reverse] at W8
  exact ⟨av,h4,h5,h6,h7,h8,fun k X1=>by have:=h9 k X1;rw [hk k (h8.lt k X1).2 oM oM];exact this⟩
theorem bU.forget {o:Open} (h:bU w base own g sv mb ss wv j (o::u6)):bU w base own g sv mb ss wv (j+1) u6:=by
 obtain ⟨cells,h1,h2,h3⟩:=h.row
 refine ⟨h.dP,cells,by rw [show u6.length+(j+1)=(o::u6).length+j by simp;omega];exact h1,h2,fun i x hi=>h3 i x ?_⟩
 rw [List.reverse_cons,List.getElem?_append_left (H2 hi).1]
 exact hi
theorem bU.top {o:Open} (h:bU w base own g sv mb ss wv 0 (o::u6)):∃ wb c av,wv= .slice (some ⟨wb,0,none⟩) (u6.length+1) c/\u6.length+1<=c/\own wb=5/\w.cell? ⟨wb,u6.length*4,none⟩=some av/\w.cell? ⟨wb,u6.length*4+1,none⟩=some (.bool o.st.final) /\
  w.cell? ⟨wb,u6.length*4+2,none⟩=some (.int .u64 o.st.out)/\w.cell? ⟨wb,u6.length*4+3,none⟩=some (.int .u8 o.kA)/\OA w base av o.st.j4/\∀ k,av.ownBlock=some k->own k=6+u6.length:=by
 obtain ⟨cells,h1,h2,h3⟩:=h.row
 rcases h1.2 with ⟨_,h0⟩ | ⟨wb,c,cur,rfl,_,hh,hc,_⟩
 ·simp at h0
 ·simp only [List.length_cons,Nat.add_zero] at h1 hc
  obtain ⟨av,h4,h5,h6,h7,h8,h9⟩:=h3 u6.length o (by rw [List.reverse_cons,List.getElem?_append_right sP];simp)
  have e:∀ i,i<4->w.cell? ⟨wb,u6.length*4+i,none⟩=cells[u6.length*4+i]? :=fun i hi=>h1.cellAt _ oM
  refine ⟨wb,c,av,rfl,hc,h2 wb rfl,?_,?_,?_,?_,h8,h9⟩
  ·rw [show u6.length*4=u6.length*4+0 from rfl,e 0 oM];exact h4
  ·rw [e 1 oM];exact h5
  ·rw [e 2 oM];exact h6
  ·rw [e 3 oM];exact h7
theorem bZ.rN {t:TypeId} (h:bZ w base own g t [wv] sv mb ss) (u:Value):bZ (w.setCell ⟨g,2,none⟩ u) base own g t [u] sv mb ss:=by
 obtain ⟨cells,h1,h2,h3⟩:=h.row
 have hb:n4 (fun k=>k=g) w (w.setCell ⟨g,2,none⟩ u):=n4.setCell (S:=fun k=>k=g) rfl _
 have Xs:=h.og
 refine ⟨h.lo,?_,h.og,h.om,qB h.map hb (fun e=>h.QA e.symm),⟨cells,u7 h1 hb (fun k hk e=>by subst e;have:=h2 _ hk;omega),h2,fun i s hi=> ?_⟩,h.nodup,h.mJ⟩
 ·rw [k7 h.box u];rfl
 ·obtain ⟨av,h4,h5,h6,h7⟩:=h3 i s hi
  exact ⟨av,h4,h5,h6,h7.but hb (fun k hk e=>by subst e;omega)⟩
theorem bU.cut {wb n c:Nat} (h:bU w base own g sv mb ss (.slice (some ⟨wb,0,none⟩) n c) 1 u6) (hn:n=u6.length+1):bU (w.setCell ⟨g,2,none⟩ (.slice (some ⟨wb,0,none⟩) u6.length c)) base own g sv mb ss (.slice (some ⟨wb,0,none⟩) u6.length c) 0 u6:=by
 subst hn
 obtain ⟨cells,h1,h2,h3⟩:=h.row
 have hb:n4 (fun k=>k=g) w (w.setCell ⟨g,2,none⟩ (.slice (some ⟨wb,0,none⟩) u6.length c)):=n4.setCell (S:=fun k=>k=g) rfl _
 have Xs:=h.dP.og
 refine ⟨h.dP.rN _,_,u7 (CV h1) hb (fun k hk e=>by subst e;have:=h2 _ hk;omega),h2,fun i o hi=> ?_⟩
 obtain ⟨av,h4,h5,h6,h7,h8,h9⟩:=h3 i o hi
 have W8:=(H2 hi).1
 rw [List.length_reverse] at W8
 exact ⟨av,by rw [List.getElem?_take_of_lt oM];exact h4,by rw [List.getElem?_take_of_lt oM];exact h5,by rw [List.getElem?_take_of_lt oM];exact h6,by rw [List.getElem?_take_of_lt oM];exact h7,
  u7 h8 hb (fun k hk e=>by subst e;have:=h9 _ hk;omega),h9⟩
theorem bU.QH {wb n c:Nat} {o:Open} {av:Value} {cells:List Value} (FD:bZ w base own g 123 [.slice (some ⟨wb,0,none⟩) n c] sv mb ss) (hn:n=u6.length+1) (nB:w.ownsRow base 126 4 (.slice (some ⟨wb,0,none⟩) n c) n cells) (oD:own wb=5) (hW:zE w base own cells u6.reverse)
  (c0:cells[u6.length*4]? =some av) (c1:cells[u6.length*4+1]? =some (.bool o.st.final)) (c2:cells[u6.length*4+2]? =some (.int .u64 o.st.out)) (c3:cells[u6.length*4+3]? =some (.int .u8 o.kA))
  (S1:OA w base av o.st.j4) (Z3:∀ k,av.ownBlock=some k->own k=6+u6.length):bU w base own g sv mb ss (.slice (some ⟨wb,0,none⟩) n c) 0 (o::u6):=by
 subst hn
 refine ⟨FD,cells,nB,fun k hk=>by injection hk with hk;subst hk;exact oD,fun i x hi=> ?_⟩
 by_cases o9:i<u6.length
 ·exact hW i x (by rw [List.reverse_cons,List.getElem?_append_left (by simpa using o9)] at hi;exact hi)
 ·rw [List.reverse_cons,List.getElem?_append_right (by simpa using o9)] at hi
  have fF:i-u6.reverse.length=0:=by
   have:=(H2 hi).1
   simp at this |-
   omega
  rw [fF] at hi
  injection hi with hi
  subst hi
  have C3:i=u6.length:=by simp at fF o9;omega
  subst C3
  exact ⟨av,c0,c1,c2,c3,S1,Z3⟩
theorem bZ.tell {t e':TypeId} {xs:List Value} {v:Value} {n x QG:Nat} {cs:List Value} (h:bZ w base own g t xs sv mb ss) (hv:w.ownsRow base e' QG v n cs) (he:(46:TypeId)≠e') (hk:∀ b,v.ownBlock=some b->own b=0\/own b=2\/5<=own b) :
  bZ w base (fun b=>if v.ownBlock=some b then x else own b) g t xs sv mb ss:=by
 obtain ⟨cells,h1,h2,h3⟩:=h.row
 have e:∀ b,v.ownBlock≠some b->(if v.ownBlock=some b then x else own b)=own b:=fun b hb=>if_neg hb
 refine ⟨fun k X1=> ?_,h.box,?_,?_,h.map,⟨cells,h1,fun k X1=> ?_,fun i s hi=> ?_⟩,h.nodup,h.mJ⟩
 ·rw [e k (fun h4=>by have:=(hv.lt k h4).1;omega)];exact h.lo k X1
 ·show (if v.ownBlock=some g then x else own g)=1;rw [e g (fun h4=>by have:=hk g h4;have:=h.og;omega)];exact h.og
 ·show (if v.ownBlock=some mb then x else own mb)=3;rw [e mb (fun h4=>by have:=hk mb h4;have:=h.om;omega)];exact h.om
 ·show (if v.ownBlock=some k then x else own k)=2;rw [e k (gg h1 hv he X1)];exact h2 k X1
 ·obtain ⟨av,h4,h5,h6,h7⟩:=h3 i s hi
  exact ⟨av,h4,h5,h6,h7.more (fun k _ VE=>by show (if v.ownBlock=some k then x else own k)=4;rw [e k (fun h8=>by have:=hk k h8;omega)];exact VE)⟩
theorem bU.CW (h:bU w base own g sv mb ss wv j u6):w.cell? ⟨g,2,none⟩=some wv:=by rw [n5 2 h.dP.box];rfl
end
theorem bU.closed {w2 w3:World} {base g mb:Nat} {z6 P4:Nat->Nat} {AK pG Hi v:Value} {qD gd:List State} {wb c:Nat} {up:Open} {rest:List Open} {a:u3} {cells:List Value}
  (h4:bU w2 base z6 g AK mb qD (.slice (some ⟨wb,0,none⟩) (rest.length+1) c) 0 (up::rest)) (hA1:∀ k,k<w2.heap.size->P4 k=z6 k) (ud:∀ k,w2.heap.size<=k->P4 k=0\/P4 k=2)
  (FD:bZ w3 base P4 g 123 [.slice (some ⟨wb,0,none⟩) (rest.length+1) c] pG mb gd) (hv:w3.ownsRow base 71 3 v (up.st.j4.length+1) (vA up.st.j4++a.cells))
  (DY:v.ownBlock=Hi.ownBlock\/∃ k,v.ownBlock=some k/\w2.heap.size<=k) (z9q:∀ k,Hi.ownBlock=some k->z6 k=6+rest.length/\k<w2.heap.size)
  (oN:w2.ownsRow base 126 4 (.slice (some ⟨wb,0,none⟩) (rest.length+1) c) (rest.length+1) cells) (oD:z6 wb=5) (hW:zE w2 base z6 cells (up::rest).reverse)
  (wP:w3.ownsRow base 126 4 (.slice (some ⟨wb,0,none⟩) (rest.length+1) c) (rest.length+1) (cells.set (rest.length*4) v)) (l6:n4 (fun k=>(z6 k=1\/z6 k=2\/z6 k=3)\/Hi.ownBlock=some k\/k=wb) w2 w3) :
  bU w3 base (fun b=>if v.ownBlock=some b then 6+rest.length else P4 b) g pG mb gd (.slice (some ⟨wb,0,none⟩) (rest.length+1) c) 0 (⟨⟨up.st.final,up.st.out,up.st.j4++[a]⟩,up.kA⟩::rest):=by
 have R8:=oN.1
 have y7d:wb<w2.heap.size:=(oN.lt wb rfl).2
 have hvk:∀ b,v.ownBlock=some b->(b<w2.heap.size/\z6 b=6+rest.length)\/w2.heap.size<=b:=fun b hb=>by
  rcases DY with h | ⟨k,h,hk⟩
  ·rw [hb] at h;have:=z9q b h.symm;exact .inl ⟨this.2,this.1⟩
  ·rw [hb] at h;injection h with h;subst h;exact .inr hk
 have F0:∀ b,b<w2.heap.size->z6 b≠6+rest.length->(if v.ownBlock=some b then 6+rest.length else P4 b)=z6 b:=fun b hb hn=>by
  rw [if_neg (fun h=>by rcases hvk b h with h | h;exact hn h.2;omega)]
  exact hA1 b hb
 refine bU.QH (av:=v) (FD.tell hv dC (fun b hb=> ?_)) rfl wP ?_ (fun i o hi=> ?_) ?_ ?_ ?_ ?_ ?_ (fun k hk=>if_pos hk)
 ·rcases hvk b hb with h | h
  ·rw [hA1 b h.1];omega
  ·have:=ud b h;omega
 ·rw [F0 wb y7d oM];exact oD
 ·have W8:=(H2 hi).1
  rw [List.length_reverse] at W8
  obtain ⟨av,h1,h2,h3,h5,h6,h7⟩:=hW i o (by rw [List.reverse_cons,List.getElem?_append_left (by simpa using W8)];exact hi)
  refine ⟨av,?_,?_,?_,?_,u7 h6 l6 (fun k hk hs=> ?_),fun k hk=> ?_⟩
  ·rw [List.getElem?_set_ne oM];exact h1
  ·rw [List.getElem?_set_ne oM];exact h2
  ·rw [List.getElem?_set_ne oM];exact h3
  ·rw [List.getElem?_set_ne oM];exact h5
  ·have h8:=h7 k hk
   rcases hs with hs | hs | rfl
   ·omega
   ·have:=(z9q k hs).1;omega
   ·omega
  ·have h8:=h7 k hk
   rw [F0 k (h6.lt k hk).2 oM];exact h8
 all_goals (obtain ⟨av,h1,h2,h3,h5,h6,h7⟩:=hW rest.length up (by rw [List.reverse_cons,List.getElem?_append_right sP];simp))
 ·rw [List.getElem?_set_self oM]
 ·rw [List.getElem?_set_ne oM];exact h2
 ·rw [List.getElem?_set_ne oM];exact h3
 ·rw [List.getElem?_set_ne oM];exact h5
 ·show w3.ownsRow base 71 3 v (up.st.j4++[a]).length (vA (up.st.j4++[a]))
  rw [List.length_append,dU]
  simpa [vA] using hv
theorem bU.opened {w2 w3:World} {base g mb x:Nat} {own:Nat->Nat} {sv wv v:Value} {ss:List State} {u6:List Open} {cells:List Value}
  (h:bU w2 base own g sv mb ss wv 0 u6) (oN:w2.ownsRow base 126 4 wv u6.length cells) (oD:∀ k,wv.ownBlock=some k->own k=5) (hW:zE w2 base own cells u6.reverse)
  (eV:∀ k,w2.heap.size<=k->own k=0) (gp:w3.heap[g]? =some (.cells (sv:: .map (some mb)::[v]).toArray 123 (0,0))) (l6:n4 (fun k=>wv.ownBlock=some k\/k=g) w2 w3)
  (hv:w3.ownsRow base 126 4 v (u6.length+1) (cells++[.slice none 0 0,.bool false,.int .u64 0,.int .u8 x])) (DY:v.ownBlock=wv.ownBlock\/∃ k,v.ownBlock=some k/\w2.heap.size<=k) :
  bU w3 base (fun b=>if v.ownBlock=some b then 5 else own b) g sv mb ss v 0 (⟨M5,x⟩::u6):=by
 have R8:=oN.1
 have Xs:=h.dP.og
 obtain ⟨sc,h1,h2,h3⟩:=h.dP.row
 have FD:bZ w3 base own g 123 [v] sv mb ss:=by
  refine ⟨h.dP.lo,gp,h.dP.og,h.dP.om,qB h.dP.map l6 (fun hs=> ?_),⟨sc,u7 h1 l6 (fun k hk hs=> ?_),h2,fun i s hi=> ?_⟩,h.dP.nodup,h.dP.mJ⟩
  ·have:=h.dP.om
   rcases hs with hs | hs
   ·have:=oD mb hs;omega
   ·exact h.dP.QA hs.symm
  ·have:=h2 k hk
   rcases hs with hs | rfl
   ·have:=oD k hs;omega
   ·omega
  ·obtain ⟨av,h4,h5,h6,h7⟩:=h3 i s hi
   refine ⟨av,h4,h5,h6,h7.but l6 (fun k hk hs=> ?_)⟩
   rcases hs with hs | rfl
   ·have:=oD k hs;omega
   ·omega
 have hvk:∀ b,v.ownBlock=some b->own b=0\/own b=5:=fun b hb=>by
  rcases DY with h8 | ⟨k,h8,hk⟩
  ·rw [hb] at h8;exact .inr (oD b h8.symm)
  ·rw [hb] at h8;injection h8 with h8;subst h8;exact .inl (eV b hk)
 have F0:∀ b,6<=own b->(if v.ownBlock=some b then 5 else own b)=own b:=fun b hb=>if_neg (fun h8=>by have:=hvk b h8;omega)
 refine ⟨FD.tell hv dC (fun b hb=>by have:=hvk b hb;omega),_,by simpa using hv,fun k hk=>if_pos hk,fun i o hi=> ?_⟩
 by_cases o9:i<u6.length
 ·rw [List.reverse_cons,List.getElem?_append_left (by simpa using o9)] at hi
  obtain ⟨av,h4,h5,h6,h7,h8,h9⟩:=hW i o hi
  refine ⟨av,?_,?_,?_,?_,u7 h8 l6 (fun k hk hs=> ?_),fun k hk=> ?_⟩
  ·rw [List.getElem?_append_left oM];exact h4
  ·rw [List.getElem?_append_left oM];exact h5
  ·rw [List.getElem?_append_left oM];exact h6
  ·rw [List.getElem?_append_left oM];exact h7
  ·have:=h9 k hk
   rcases hs with hs | rfl
   ·have:=oD k hs;omega
   ·omega
  ·have:=h9 k hk
   show (if v.ownBlock=some k then 5 else own k)=6+i
   rw [F0 k oM];exact this
 ·rw [List.reverse_cons,List.getElem?_append_right (by simpa using o9)] at hi
  have fF:i-u6.reverse.length=0:=by
   have:=(H2 hi).1
   simp at this |-
   omega
  rw [fF] at hi
  injection hi with hi
  subst hi
  have C3:i=u6.length:=by simp at fF o9;omega
  subst C3
  refine ⟨.slice none 0 0,?_,?_,?_,?_,OA.T7 _ _,fun k hk=>by cases hk⟩
  ·rw [List.getElem?_append_right oM,R8,Nat.sub_self];rfl
  ·rw [List.getElem?_append_right oM,R8,show u6.length*4+1-u6.length*4=1 by omega];rfl
  ·rw [List.getElem?_append_right oM,R8,show u6.length*4+2-u6.length*4=2 by omega];rfl
  ·rw [List.getElem?_append_right oM,R8,show u6.length*4+3-u6.length*4=3 by omega];rfl
theorem bU.marked {w:World} {base g mb wb n c x:Nat} {own:Nat->Nat} {sv:Value} {ss:List State} {o:Open} {u6:List Open} (h:bU w base own g sv mb ss (.slice (some ⟨wb,0,none⟩) n c) 0 (o::u6)) (hn:n=u6.length+1) :
  bU ((w.setCell ⟨wb,u6.length*4+1,none⟩ (.bool true)).setCell ⟨wb,u6.length*4+2,none⟩ (.int .u64 x)) base own g sv mb ss (.slice (some ⟨wb,0,none⟩) n c) 0 (⟨⟨true,x,o.st.j4⟩,o.kA⟩::u6):=by
 subst hn
 obtain ⟨cells,h1,h2,h3⟩:=h.row
 have oD:=h2 wb rfl
 have hb:n4 (fun k=>k=wb) w ((w.setCell ⟨wb,u6.length*4+1,none⟩ (.bool true)).setCell ⟨wb,u6.length*4+2,none⟩ (.int .u64 x)):=(n4.setCell (S:=fun k=>k=wb) rfl _).trans (n4.setCell (S:=fun k=>k=wb) rfl _)
 simp only [List.length_cons,Nat.add_zero] at h1
 have hr:=((h1.stored (u6.length*4+1) (.bool true)).1.stored (u6.length*4+2) (.int .u64 x)).1
 have R8:=h1.1
 refine bU.QH (cells:=(cells.set (u6.length*4+1) (.bool true)).set (u6.length*4+2) (.int .u64 x)) (av:=(h3 u6.length o (by rw [List.reverse_cons,List.getElem?_append_right sP];simp)).choose) (h.dP.but hb (fun k hk=>by subst hk;omega)) rfl hr oD (fun i p hi=> ?_) ?_ ?_ ?_ ?_ ?_ ?_
 ·have W8:=(H2 hi).1
  rw [List.length_reverse] at W8
  obtain ⟨av,h4,h5,h6,h7,h8,h9⟩:=h3 i p (by rw [List.reverse_cons,List.getElem?_append_left (by simpa using W8)];exact hi)
  refine ⟨av,?_,?_,?_,?_,u7 h8 hb (fun k hk hs=>by subst hs;have:=h9 _ hk;omega),h9⟩
  ·rw [List.getElem?_set_ne oM,List.getElem?_set_ne oM];exact h4
  ·rw [List.getElem?_set_ne oM,List.getElem?_set_ne oM];exact h5
  ·rw [List.getElem?_set_ne oM,List.getElem?_set_ne oM];exact h6
  ·rw [List.getElem?_set_ne oM,List.getElem?_set_ne oM];exact h7
 all_goals (have JM:=(h3 u6.length o (by rw [List.reverse_cons,List.getElem?_append_right sP];simp)).choose_spec;obtain ⟨h4,h5,h6,h7,h8,h9⟩:=JM)
 ·rw [List.getElem?_set_ne oM,List.getElem?_set_ne oM];exact h4
 ·rw [List.getElem?_set_ne oM,List.getElem?_set_self oM]
 ·rw [List.getElem?_set_self sO]
 ·rw [List.getElem?_set_ne oM,List.getElem?_set_ne oM];exact h7
 ·exact u7 h8 hb (fun k hk hs=>by subst hs;have:=h9 _ hk;omega)
 ·exact h9
structure Xv (N:Nat) (o:Open):Prop where
 ok:L3 o.st
 to:∀ a∈o.st.j4,0<=a.to
 Gg:o.st.j4.length<=N
 kA:o.kA<256
structure De (N M:Nat) (ss:List State) (u6:List Open):Prop where
 tail:∀ o∈u6.tail,Xv N o
 head:∀ o,u6.head? =some o->Xv (N+1) o
 size:ss.length+u6.length<=M
theorem Xv.more {N N':Nat} {o:Open} (h:Xv N o) (hn:N<=N'):Xv N' o:=⟨h.ok,h.to,Nat.le_trans h.Gg hn,h.kA⟩
theorem Hj {N n:Nat} {o:Open} (h:Xv N o) (hN:N<=256):tU (less o.st n):=by
 refine ⟨⟨?_,by simp [less];exact h.ok.2.1,fun a ha=> ?_⟩,fun a ha=> ?_,by simp [less];have:=h.Gg;omega⟩
 ·simp only [less]
  have:=h.ok.1
  split<;>omega
 ·simp only [less,List.mem_map] at ha
  obtain ⟨x,hx,rfl⟩:=ha
  have:=h.ok.2.2 x hx
  exact ⟨this.1,by have:=this.2.1;simp only;omega,this.2.2⟩
 ·simp only [less,List.mem_map] at ha
  obtain ⟨x,hx,rfl⟩:=ha
  exact h.to x hx
theorem iG (ss:List State) (s:State):(finish ss s).1.length<=ss.length+1/\(finish ss s).2<=ss.length:=by
 by_cases h:s∈ss
 ·obtain ⟨i,_,h2,h3⟩:=aR h
  rw [h3];simp only;omega
 ·rw [eD h];simp
theorem De.Q2 {N M:Nat} {ss:List State} {o up:Open} {rest:List Open} (h:De N M ss (o::up::rest)) (hM:M<=1000000) (hN:N<=200):De N M (Q2 ss up o).1 ((Q2 ss up o).2::rest):=by
 have ho:=h.head o rfl
 have hu:=h.tail up (List.mem_cons_self ..)
 have hf:=iG ss (less o.st (leastOf o.st))
 have hs:=h.size
 refine ⟨fun x hx=>h.tail x (List.mem_cons_of_mem _ hx),fun x hx=> ?_,?_⟩
 ·injection hx with hx
  subst hx
  refine ⟨⟨hu.ok.1,?_,fun a ha=> ?_⟩,fun a ha=> ?_,?_,hu.kA⟩
  ·simp only [Dw.Q2,List.length_append,List.length_cons,List.length_nil];have:=hu.Gg;omega
  ·simp only [Dw.Q2] at ha
   rcases List.mem_append.1 ha with ha | ha
   ·exact hu.ok.2.2 a ha
   ·simp at ha
    subst ha
    refine ⟨ho.kA,sK ho.ok,sQ,?_⟩
    simp only [List.length_cons] at hs |-
    omega
  ·simp only [Dw.Q2] at ha
   rcases List.mem_append.1 ha with ha | ha
   ·exact hu.to a ha
   ·simp at ha
    subst ha
    simp
  ·simp only [Dw.Q2,List.length_append,List.length_cons,List.length_nil];have:=hu.Gg;omega
 ·simp only [Dw.Q2,List.length_cons] at hs |-
  omega
theorem CX {ss:List State} {o up:Open} {rest:List Open} {d:Nat} (h:d<=rest.length):close ss (o::up::rest) d=close (Q2 ss up o).1 ((Q2 ss up o).2::rest) d:=by
 unfold close
 simp only [List.length_cons]
 rw [show rest.length+1+1-(d+1)=(rest.length+1-(d+1))+1 by omega]
 rfl
theorem sL {ss:List State} {u6:List Open} {d:Nat} (h:u6.length<=d+1):close ss u6 d=(ss,u6):=by
 unfold close
 rw [show u6.length-(d+1)=0 by omega,fJ]
theorem De.closeN {N M:Nat} (hM:M<=1000000) (hN:N<=200):∀ (n:Nat) (ss:List State) (u6:List Open),De N M ss u6->De N M (closeN n ss u6).1 (closeN n ss u6).2
 | 0,ss,u6,h=>by rw [fJ];exact h
 | n+1,ss,[],h=>by rw [kC _ _ _ sP];exact h
 | n+1,ss,[o],h=>by rw [kC _ _ _ sP];exact h
 | n+1,ss,o::up::u6,h=>De.closeN hM hN n _ _ (h.Q2 hM hN)
structure fX (N M:Nat) (ss:List State) (u6:List Open):Prop where
 all:∀ o∈u6,Xv N o
 size:ss.length+u6.length<=M
theorem fX.bnd {N M:Nat} {ss:List State} {u6:List Open} (h:fX N M ss u6):De N M ss u6 :=
 ⟨fun o ho=>h.all o (List.mem_of_mem_tail ho),fun o ho=>(h.all o (List.mem_of_mem_head? ho)).more oM,h.size⟩
theorem De.all {N M:Nat} {ss:List State} {u6:List Open} (h:De N M ss u6):fX (N+1) M ss u6:=by
 refine ⟨fun o ho=> ?_,h.size⟩
 cases u6 with
 | nil=>cases ho
 | cons x u6 =>
  rcases List.mem_cons.1 ho with rfl | ho
  ·exact h.head _ rfl
  ·exact (h.tail o ho).more oM
theorem CY (x:Nat) (hx:x<256):Xv 0 ⟨M5,x⟩:=⟨⟨by simp [M5],by simp [M5],by simp [M5]⟩,by simp [M5],by simp [M5],hx⟩
theorem fX.opens {N:Nat} {ss:List State}:∀ (l:List Nat) (u6:List Open) (M:Nat),(∀ x∈l,x<256)->fX N M ss u6->fX N (M+l.length) ss (opens u6 l)
 | [],u6,M,_,h=>h
 | x::l,u6,M,hl,h=>by
  have:=fX.opens (N:=N) (ss:=ss) l (⟨M5,x⟩::u6) (M+1) (fun y hy=>hl y (List.mem_cons_of_mem _ hy)) ⟨fun o ho=>by
   rcases List.mem_cons.1 ho with rfl | ho
   ·exact (CY x (hl x (List.mem_cons_self ..))).more oM
   ·exact h.all o ho,by have:=h.size;simp only [List.length_cons];omega⟩
  rw [List.length_cons,show M+(l.length+1)=M+1+l.length by omega]
  exact this
theorem fX.mark {N M v:Nat} {ss:List State} {u6:List Open} (h:fX N M ss u6) (hv:v<18446744073709551616):fX N M ss (mark v u6):=by
 refine ⟨fun o ho=> ?_,by rw [nN];exact h.size⟩
 cases u6 with
 | nil=>cases ho
 | cons x u6 =>
  rcases List.mem_cons.1 ho with rfl | ho
  ·have:=h.all x (List.mem_cons_self ..)
   exact ⟨⟨hv,this.ok.2⟩,this.to,this.Gg,this.kA⟩
  ·exact h.all o (List.mem_cons_of_mem _ ho)
theorem fX.add {N M:Nat} {ss:List State} {u6:List Open} {last:List Nat} {e:Wv} (h:fX N M ss u6) (hM:M<=1000000) (hN:N<=200) (he:∀ x∈e.1,x<256) (hv:e.2<18446744073709551616) :
  fX (N+1) (M+e.1.length) (add (ss,u6) last e).1 (add (ss,u6) last e).2:=by
 have h1:=(De.closeN hM hN (u6.length-(shared last e.1+1)) ss u6 h.bnd).all
 have h2:=fX.opens (e.1.drop (shared last e.1)) _ _ (fun x hx=>he x (List.mem_of_mem_drop hx)) h1
 have h3:=h2.mark hv
 refine ⟨h3.all,?_⟩
 have:=h3.size
 rw [List.length_drop] at this
 show _<=M+e.1.length
 unfold Dw.add
 simp only [close] at *
 omega
end Dw
end Go.Proofs.YtcddnmhmcieebaaGreatDoor
