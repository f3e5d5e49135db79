/- Dawg: words in order, words as they may be. -/
import Derived.Test.YtcddnmhmcieebaaGreatDoorY1
import Derived.Test.YtcddnmhmcieebaaGreatDoorDLawP
import Derived.Test.YtcddnmhmcieebaaGreatDoorTools
import Derived.WalkSmall
import Derived.Test.YtcddnmhmcieebaaGreatDoorY5
import Derived.Laws.ResultCell
import Derived.Laws.MakeOwn
namespace Go.Proofs.YtcddnmhmcieebaaGreatDoor
set_option maxHeartbeats 4000000
set_option maxRecDepth 100000
open Go.RowKit
set_option linter.unusedSimpArgs false
set_option linter.unusedVariables false
set_option linter.unnecessarySimpa false
namespace Dw
theorem wX:∀ (a b:List UInt8),Op.bytesLess a b=lexlt (a.map UInt8.toNat) (b.map UInt8.toNat)
 | a,[]=>by cases a<;>simp [Op.bytesLess,lexlt]
 | [],b::l=>by simp [Op.bytesLess,lexlt]
 | a::x,b::y=>by
  simp only [Op.bytesLess,List.map_cons,lexlt]
  rw [wX x y]
  congr 1
  ·congr 1
   by_cases h:a=b
   ·subst h;simp
   ·have:a.toNat≠b.toNat:=fun e=>h (UInt8.toNat_inj.1 e)
    simp [h,this]
theorem bE (a b:ByteArray):Op.bytesLess a.toList b.toList=lexlt (wl a) (wl b):=by
 rw [ByteArray.toList_eq,ByteArray.toList_eq,wX]
 rfl
def okW (s:ByteArray):Bool:= !s.toList.isEmpty&&decide (s.size<=255)
theorem wY (s:ByteArray) (w:World):Calls Tryz.prog 154 #[.string s] w fun e w1=>e= .returned (.bool false)/\w=w1:=by
 refine S8 6 Tryz.func154 fun fr hf s0=> ?_
 refine Ze fun _ b7=>Zr [] hf ?_
 refine r6 0 hf ?_
 clear hf s0;intro a7 hf s0
 refine Zs b7 fun _ b7=>Zr [3,4,5] hf ?_
 refine r6 2 hf ?_
 clear hf s0;intro a7 hf s2
 refine Zx b7 (k8 ?_)
 exact Fc.o9 rfl hf s2 ⟨rfl,rfl⟩
theorem x1c (a b:ByteArray) (h1:Op.bytesLess a.toList b.toList=true) (w:World):Calls Tryz.prog 133 #[.string a,.string b] w fun e w1=>e= .returned (.int .i64 (-1))/\w=w1:=by
 refine aT 20 Tryz.func133 fun fr hf s0 s1=> ?_
 have r1:=h1
 have r2:=trivial
 refine Ze fun _ b7=>Zr [] hf ?_
 refine C1 0 1 hf ?_
 clear hf s0 s1;intro a7 hf sS
 refine Zt b7 fun _ b7=> ?_
 have bB:=hf.B2 7 8
 refine Zy ?_
 refine Zc (wY a w) ?_;rintro e w1 ⟨rfl,rfl⟩
 refine Zv ?_
 refine Zy ?_
 refine Fc.nil (B1 0 1 5 hf ?_)
 clear hf sS bB;intro a7 hf sS
 refine Zt b7 fun _ b7=> ?_
 have bB:=hf.B2 9 10
 refine Zy ?_
 refine Zc (wY b w) ?_;rintro e w2 ⟨rfl,rfl⟩
 refine Zv ?_
 refine Zy ?_
 refine Fc.nil (C0 0 1 5 6 hf ?_)
 clear hf sS bB;intro a7 hf sS
 refine Zs b7 fun _ b7=>Ze fun _ j8=>Zr [] hf ?_
 refine C0 0 1 6 11 hf ?_
 clear hf sS;intro a7 hf sS
 refine Zx j8 (Fc.k9 sS.2.2.2 ?_)
 refine wp_skip (Zs b7 fun _ b7=>Ze fun _ j8=>Zr [] hf ?_)
 refine B1 0 1 13 hf ?_
 clear hf sS;intro a7 hf sS
 refine Zx j8 (Fc.k9 sS.2.2 ?_)
 refine wp_skip (Zs b7 fun _ b7=>Ze fun _ j8=>Zr [14,15] hf ?_)
 refine B1 0 1 16 hf ?_
 clear hf sS;intro a7 hf sS
 refine Zx j8 (Fc.l8 sS.2.2 ?_)
 refine Ze fun _ j8=>Zr [] hf ?_
 refine r6 4 hf ?_
 clear hf sS;intro a7 hf s4
 refine Zx j8 (k8 ?_)
 exact Fc.o9 rfl hf s4 ⟨rfl,rfl⟩
theorem x1b (a b:ByteArray) (h1:Op.bytesLess a.toList b.toList=false) (h2:(a.toList==b.toList)=false) (w:World):Calls Tryz.prog 133 #[.string a,.string b] w fun e w1=>e= .returned (.int .i64 (1))/\w=w1:=by
 refine aT 20 Tryz.func133 fun fr hf s0 s1=> ?_
 have r1:=h1
 have r2:=h2
 refine Ze fun _ b7=>Zr [] hf ?_
 refine C1 0 1 hf ?_
 clear hf s0 s1;intro a7 hf sS
 refine Zt b7 fun _ b7=> ?_
 have bB:=hf.B2 7 8
 refine Zy ?_
 refine Zc (wY a w) ?_;rintro e w1 ⟨rfl,rfl⟩
 refine Zv ?_
 refine Zy ?_
 refine Fc.nil (B1 0 1 5 hf ?_)
 clear hf sS bB;intro a7 hf sS
 refine Zt b7 fun _ b7=> ?_
 have bB:=hf.B2 9 10
 refine Zy ?_
 refine Zc (wY b w) ?_;rintro e w2 ⟨rfl,rfl⟩
 refine Zv ?_
 refine Zy ?_
 refine Fc.nil (C0 0 1 5 6 hf ?_)
 clear hf sS bB;intro a7 hf sS
 refine Zs b7 fun _ b7=>Ze fun _ j8=>Zr [] hf ?_
 refine C0 0 1 6 11 hf ?_
 clear hf sS;intro a7 hf sS
 refine Zx j8 (Fc.k9 sS.2.2.2 ?_)
 refine wp_skip (Zs b7 fun _ b7=>Ze fun _ j8=>Zr [] hf ?_)
 refine B1 0 1 13 hf ?_
 clear hf sS;intro a7 hf sS
 refine Zx j8 (Fc.k9 sS.2.2 ?_)
 refine wp_skip (Zs b7 fun _ b7=>Ze fun _ j8=>Zr [14,15] hf ?_)
 refine B1 0 1 16 hf ?_
 clear hf sS;intro a7 hf sS
 refine Zx j8 (Fc.k9 sS.2.2 ?_)
 refine wp_skip (Zs b7 fun _ b7=>Ze fun _ j8=>Zr [17,18] hf ?_)
 refine r6 19 hf ?_
 clear hf sS;intro a7 hf J6
 refine Zx j8 ?_
 rw [r1,r2] at J6
 simp only [Bool.or_self,Bool.false_or,Bool.not_false,Bool.not_true] at J6
 refine Fc.l8 J6 ?_
 refine Ze fun _ j8=>Zr [] hf ?_
 refine r6 4 hf ?_
 clear hf J6;intro a7 hf s4
 refine Zx j8 (k8 ?_)
 exact Fc.o9 rfl hf s4 ⟨rfl,rfl⟩
theorem x1a (a b:ByteArray) (h1:Op.bytesLess a.toList b.toList=false) (h2:(a.toList==b.toList)=true) (w:World):Calls Tryz.prog 133 #[.string a,.string b] w fun e w1=>e= .returned (.int .i64 (0))/\w=w1:=by
 refine aT 20 Tryz.func133 fun fr hf s0 s1=> ?_
 have r1:=h1
 have r2:=h2
 refine Ze fun _ b7=>Zr [] hf ?_
 refine C1 0 1 hf ?_
 clear hf s0 s1;intro a7 hf sS
 refine Zt b7 fun _ b7=> ?_
 have bB:=hf.B2 7 8
 refine Zy ?_
 refine Zc (wY a w) ?_;rintro e w1 ⟨rfl,rfl⟩
 refine Zv ?_
 refine Zy ?_
 refine Fc.nil (B1 0 1 5 hf ?_)
 clear hf sS bB;intro a7 hf sS
 refine Zt b7 fun _ b7=> ?_
 have bB:=hf.B2 9 10
 refine Zy ?_
 refine Zc (wY b w) ?_;rintro e w2 ⟨rfl,rfl⟩
 refine Zv ?_
 refine Zy ?_
 refine Fc.nil (C0 0 1 5 6 hf ?_)
 clear hf sS bB;intro a7 hf sS
 refine Zs b7 fun _ b7=>Ze fun _ j8=>Zr [] hf ?_
 refine C0 0 1 6 11 hf ?_
 clear hf sS;intro a7 hf sS
 refine Zx j8 (Fc.k9 sS.2.2.2 ?_)
 refine wp_skip (Zs b7 fun _ b7=>Ze fun _ j8=>Zr [] hf ?_)
 refine B1 0 1 13 hf ?_
 clear hf sS;intro a7 hf sS
 refine Zx j8 (Fc.k9 sS.2.2 ?_)
 refine wp_skip (Zs b7 fun _ b7=>Ze fun _ j8=>Zr [14,15] hf ?_)
 refine B1 0 1 16 hf ?_
 clear hf sS;intro a7 hf sS
 refine Zx j8 (Fc.k9 sS.2.2 ?_)
 refine wp_skip (Zs b7 fun _ b7=>Ze fun _ j8=>Zr [17,18] hf ?_)
 refine r6 19 hf ?_
 clear hf sS;intro a7 hf J6
 refine Zx j8 ?_
 rw [r1,r2] at J6
 simp only [Bool.or_self,Bool.false_or,Bool.not_false,Bool.not_true] at J6
 refine Fc.k9 J6 ?_
 refine wp_skip (Zs b7 fun _ b7=>Zr [] hf ?_)
 refine r6 4 hf ?_
 clear hf J6;intro a7 hf s4
 refine Zx b7 (k8 ?_)
 exact Fc.o9 rfl hf s4 ⟨rfl,rfl⟩
def z1l (a b:ByteArray):Int:=if lexlt (wl a) (wl b) then -1 else if (a.toList==b.toList)=true then 0 else 1
theorem v0h (a b:ByteArray) (w:World):Calls Tryz.prog 133 #[.string a,.string b] w fun e w1=>e= .returned (.int .i64 (z1l a b))/\w=w1:=by
 unfold z1l
 rw [<- bE]
 cases h1:Op.bytesLess a.toList b.toList with
 | true=>exact x1c a b h1 w
 | false =>
  cases h2:(a.toList==b.toList) with
  | true=>exact x1a a b h1 h2 w
  | false=>exact x1b a b h1 h2 w
theorem t7z (e:z6) (b:ByteArray) (w:World):Calls Tryz.prog 88 #[eval e,.string b] w fun e1 w1=>e1= .returned (.int .i64 (z1l e.word b))/\Below w.heap.size w w1:=by
 refine aT 9 Tryz.func88 fun fr hf s0 s1=> ?_
 simp only [eval] at s0
 refine Ze fun _ b7=>Zr [] hf ?_
 refine C1 1 2 hf ?_
 clear hf s0 s1;intro a7 hf sS
 refine Zt b7 fun _ b7=> ?_
 have bB:=hf.B4 5 6 7 8
 iterate 3 refine Zy ?_
 refine Zc (v0h e.word b (w.alloc (.cells #[.string e.word,.int .u32 e.weight,.bool e.gone] 64))) ?_;rintro e w2 ⟨rfl,rfl⟩
 refine Zv ?_
 refine Zy ?_
 refine Fc.nil (r6 4 hf ?_)
 clear hf sS bB;intro a7 hf s4
 refine Zx b7 (k8 ?_)
 exact Fc.o9 rfl hf s4 ⟨rfl,(Below.refl _ _).alloc nR _⟩
theorem w1e (s:ByteArray) (h1:s.toList.isEmpty=true) (w:World):Calls Tryz.prog 131 #[.string s] w fun e w1=>e= .returned (.bool (okW s))/\w=w1:=by
 refine S8 10 Tryz.func131 fun fr hf s0=> ?_
 have q1:=h1
 refine Ze fun _ b7=>Zr [] hf ?_
 refine r6 0 hf ?_
 clear hf s0;intro a7 hf s0
 refine Zt b7 fun _ b7=> ?_
 have bB:=hf.B7 3 4 5 6 7 8 9
 iterate 3 refine Zy ?_
 refine Zk ?_ (hv:=by simp (decide:=true) only [Fc.G,reduceIte,hf.size,Fc.N,q1,Fc.N])
 refine Zk ?_ (hv:=by simp (decide:=true) only [Fc.G,reduceIte,hf.size,Fc.N,q1,Fc.N])
 refine Zk ?_ (hv:=by simp (decide:=true) only [Fc.G,reduceIte,hf.size,Fc.N,q1,Fc.N])
 iterate 2 refine Zy ?_
 refine Fc.nil (r6 2 hf ?_)
 clear hf s0 bB;intro a7 hf s2
 refine Zx b7 (k8 ?_)
 exact Fc.o9 rfl hf s2 ⟨by simp [okW,h1],rfl⟩
theorem w1d (s:ByteArray) (h1:s.toList.isEmpty=false) (w:World):Calls Tryz.prog 131 #[.string s] w fun e w1=>e= .returned (.bool (okW s))/\w=w1:=by
 refine S8 10 Tryz.func131 fun fr hf s0=> ?_
 have q1:=h1
 refine Ze fun _ b7=>Zr [] hf ?_
 refine r6 0 hf ?_
 clear hf s0;intro a7 hf s0
 refine Zt b7 fun _ b7=> ?_
 have bB:=hf.B7 3 4 5 6 7 8 9
 iterate 3 refine Zy ?_
 refine Zg ?_ (hv:=by simp (decide:=true) only [Fc.G,reduceIte,hf.size,q1,Fc.N])
 refine Zg ?_ (hv:=by simp (decide:=true) only [Fc.G,reduceIte,hf.size,q1,Fc.N])
 refine Zg ?_ (hv:=by simp (decide:=true) only [Fc.G,reduceIte,hf.size,q1,Fc.N])
 iterate 2 refine Zy ?_
 refine Fc.nil (r6 2 hf ?_)
 clear hf s0 bB;intro a7 hf s2
 refine Zx b7 (k8 ?_)
 exact Fc.o9 rfl hf s2 ⟨by simp [okW,h1];try omega,rfl⟩
theorem v0g (s:ByteArray) (w:World):Calls Tryz.prog 131 #[.string s] w fun e w1=>e= .returned (.bool (okW s))/\w=w1:=by
 cases h:s.toList.isEmpty with
 | true=>exact w1e s h w
 | false=>exact w1d s h w
def chkL:Option (List Nat)->List z6->Nat
 | _,[]=>0
 | p,e::l=>if okW e.word then (if (match p with | none=>true | some q=>lexlt q (wl e.word)) then chkL (some (wl e.word)) l else 15) else 7
def aW (es:List z6):Nat:=chkL none es
def prevW (es:List z6):Nat->Option (List Nat)
 | 0=>none
 | i+1=>es[i]?.map fun e=>wl e.word
theorem x7y {es:List z6} {i:Nat} {e:z6} (h:es[i]? =some e):chkL (prevW es i) (es.drop i)=if okW e.word then (if (match prevW es i with | none=>true | some q=>lexlt q (wl e.word)) then chkL (some (wl e.word)) (es.drop (i+1)) else 15) else 7:=by
 obtain ⟨h1,h2⟩:=E2 h
 rw [List.drop_eq_getElem_cons h1,h2]
 rfl
theorem prev_zero {es:List z6} {i:Nat} (h:i=0):prevW es i=none:=by rw [h];rfl
theorem wZ {es:List z6} {i:Nat} {p:z6} (h:0<i) (hp:es[i-1]? =some p):prevW es i=some (wl p.word):=by
 obtain ⟨j,rfl⟩:∃ j,i=j+1:=⟨i-1,oM⟩
 have:es[j]? =some p:=hp
 simp [prevW,this]
theorem sX {es:List z6} {i:Nat} {e:z6} (h:es[i]? =some e):prevW es (i+1)=some (wl e.word):=by simp [prevW,h]
theorem w1c {a b:ByteArray} (h:decide (0<=z1l a b)=true):lexlt (wl a) (wl b)=false:=by
 have h:=of_decide_eq_true h
 unfold z1l at h
 cases hl:lexlt (wl a) (wl b) with
 | false=>rfl
 | true=>rw [hl] at h;simp at h
theorem w1b {a b:ByteArray} (h:decide (0<=z1l a b)=false):lexlt (wl a) (wl b)=true:=by
 have h:=of_decide_eq_false h
 unfold z1l at h
 cases hl:lexlt (wl a) (wl b) with
 | true=>rfl
 | false=>rw [hl] at h;simp at h;split at h<;>omega
theorem w7f (w:World) (s:ByteArray) (b:Nat) (c0:w.cell? ⟨b,0,none⟩=some (.string s)):Calls Tryz.prog 132 #[.func (.func 131) #[] #[],.slice (some ⟨b,0,none⟩) 1 1] w fun e w1=>e= .returned (.bool (okW s))/\w=w1:=by
 refine aT 18 Tryz.func132 fun fr hf s0 s1=> ?_
 refine Ze fun _ b7=>Zr [] hf ?_
 refine C1 0 1 hf ?_
 clear hf s0 s1;intro a7 hf sS
 refine Zs b7 fun _ b7=>Ze fun _ j8=>Zr [7] hf ?_
 refine C0 0 7 8 9 hf ?_
 clear hf sS;intro a7 hf sS
 refine Zx j8 (wp_block (wp_loop_ghost (fun gk fr wr=>∃ (i:Nat),gk=1-i/\i<=1/\(0<i->okW s=true)/\Fc.Fr 18 fr/\fr.tmps[0]? =some (.func (.func 131) #[] #[])/\fr.tmps[7]? =some (.slice (some ⟨b,0,none⟩) 1 1)/\fr.tmps[8]? =some (.int .i64 1)/\fr.tmps[9]? =some (.int .i64 i)/\wr=w) (1) ?_ ?_))
 . (
 obtain ⟨s0,s7,s8,s9⟩:=sS
 exact ⟨0,rfl,oM,oM,hf,s0,s7,s8,s9,rfl⟩)
 . (
 clear hf sS
 rintro gk fr wr ⟨i,hk,hi,a8,hf,s0,s7,s8,s9,hwr⟩
 subst hwr
 have HK:=H9 hk;have HO:=H9 a8;clear hk a8
 refine Ze fun _ j8=>Zr [] hf ?_
 refine D0 0 7 8 9 10 hf ?_
 clear hf s0 s7 s8 s9;intro a7 hf sS
 refine Zs j8 fun _ j8=>Fc.l0 sS.2.2.2.2 (fun hq=> ?_) (fun hq=> ?_)
 . (
 have nK:i=0:=qT
 subst nK
 refine wp_skip (Zs j8 fun _ j8=>wp_block (Ze fun _ l6=>rg ?_))
 have bB:=hf.B2 11 12
 refine fp fun K Z=> ?_
 go_simp
 try rw [if_pos (by omega)]
 try simp
 apply Z.out;clear Z K
 iterate 2 refine Zy ?_
 refine Fc.nil (D0 0 6 7 8 9 hf ?_)
 clear hf sS bB;intro a7 hf sS
 refine Zt l6 fun _ l6=> ?_
 have bB:=hf.B3 13 14 15
 iterate 2 refine Zy ?_
 refine Zc (v0g s wr) ?_;rintro e w2 ⟨rfl,rfl⟩
 refine Zv ?_
 refine Zy ?_
 refine Fc.nil (D0 0 7 8 9 16 hf ?_)
 clear hf sS bB;intro a7 hf sS
 refine Zx l6 (Fc.l0 sS.2.2.2.2 (fun H7=> ?_) (fun H7=> ?_))
 . (
 refine Ze fun _ l6=>Zr [] hf ?_
 refine r6 4 hf ?_
 clear hf sS;intro a7 hf s4
 refine Zx l6 (k8 ?_)
 exact Fc.o9 rfl hf s4 ⟨by simp at H7;rw [H7],rfl⟩)
 . (
 refine wp_skip (Fc.j7 (Zx j8 (Zr [17] hf ?_)))
 refine C0 0 7 8 9 hf ?_
 clear hf sS;intro a7 hf sS
 refine Fc.j6 ?_
 obtain ⟨s0,s7,s8,s9⟩:=sS
 exact ⟨_,by have:=HK.out;omega,1,rfl,oM,fun _=>by simpa using H7,hf,s0,s7,s8,by rw [s9];rfl,rfl⟩))
 . (
 have hi1:0<i:=qF
 refine Zo ?_
 refine Zs b7 fun _ b7=>Zr [] hf ?_
 refine r6 4 hf ?_
 clear hf sS;intro a7 hf s4
 refine Zx b7 (k8 ?_)
 exact Fc.o9 rfl hf s4 ⟨by rw [HO.out hi1],rfl⟩))
theorem x0z (w:World) (s:ByteArray) (b:Nat) (c0:w.cell? ⟨b,0,none⟩=some (.string s)) (hh:okW s=true):Calls Tryz.prog 87 #[.slice (some ⟨b,0,none⟩) 1 1] w fun e w1=>e= .returned (.int .i64 (if okW s then 0 else 7))/\w=w1:=by
 refine S8 8 Tryz.func87 fun fr hf s0=> ?_
 have HH:=H9 hh;clear hh
 refine Ze fun _ b7=>Zr [] hf ?_
 refine r6 0 hf ?_
 clear hf s0;intro a7 hf s0
 refine Zs b7 fun _ b7=>Zr [] hf ?_
 refine C1 0 3 hf ?_
 clear hf s0;intro a7 hf sS
 refine Zs b7 fun _ b7=>Ze fun _ j8=>rg ?_
 have bB:=hf.B3 4 5 6
 iterate 2 refine Zy ?_
 refine Zc (w7f w s b c0) ?_;rintro e w2 ⟨rfl,rfl⟩
 rw [HH.out]
 refine Zv ?_
 refine Zy ?_
 refine Fc.nil (r6 7 hf ?_)
 clear hf sS bB;intro a7 hf s7
 refine Zx j8 (Fc.k9 s7 ?_)
 refine wp_skip (Zs b7 fun _ b7=>Zr [] hf ?_)
 refine r6 2 hf ?_
 clear hf s7;intro a7 hf s2
 refine Zx b7 (k8 ?_)
 exact Fc.o9 rfl hf s2 ⟨by rw [HH.out];rfl,rfl⟩
theorem x0y (w:World) (s:ByteArray) (b:Nat) (c0:w.cell? ⟨b,0,none⟩=some (.string s)) (hh:okW s=false):Calls Tryz.prog 87 #[.slice (some ⟨b,0,none⟩) 1 1] w fun e w1=>e= .returned (.int .i64 (if okW s then 0 else 7))/\w=w1:=by
 refine S8 8 Tryz.func87 fun fr hf s0=> ?_
 have HH:=H9 hh;clear hh
 refine Ze fun _ b7=>Zr [] hf ?_
 refine r6 0 hf ?_
 clear hf s0;intro a7 hf s0
 refine Zs b7 fun _ b7=>Zr [] hf ?_
 refine C1 0 3 hf ?_
 clear hf s0;intro a7 hf sS
 refine Zs b7 fun _ b7=>Ze fun _ j8=>rg ?_
 have bB:=hf.B3 4 5 6
 iterate 2 refine Zy ?_
 refine Zc (w7f w s b c0) ?_;rintro e w2 ⟨rfl,rfl⟩
 rw [HH.out]
 refine Zv ?_
 refine Zy ?_
 refine Fc.nil (r6 7 hf ?_)
 clear hf sS bB;intro a7 hf s7
 refine Zx j8 (Fc.l8 s7 ?_)
 refine Ze fun _ j8=>Zr [] hf ?_
 refine r6 2 hf ?_
 clear hf s7;intro a7 hf s2
 refine Zx j8 (k8 ?_)
 exact Fc.o9 rfl hf s2 ⟨by rw [HH.out];rfl,rfl⟩
theorem w1a (w:World) (s:ByteArray) (b:Nat) (c0:w.cell? ⟨b,0,none⟩=some (.string s)):Calls Tryz.prog 87 #[.slice (some ⟨b,0,none⟩) 1 1] w fun e w1=>e= .returned (.int .i64 (if okW s then 0 else 7))/\w=w1:=by
 cases h:okW s with
 | true=>have:=x0z w s b c0 h;rw [h] at this;exact this
 | false=>have:=x0y w s b c0 h;rw [h] at this;exact this
theorem x7x (w:World) (es:List z6) (B:Nat) (v:Value) (hB:B<=w.heap.size) (cS:RE w B v es) (hlen:es.length<=1000000):Calls Tryz.prog 50 #[v] w fun e w1=>∃ n:Int,e= .returned (.tuple #[.int .i64 n,.int .i64 (aW es:Nat)])/\Below w.heap.size w w1:=by
 refine S8 37 Tryz.func50 fun fr hf s0=> ?_
 have lF:=cS.any
 obtain ⟨A,cc,rfl,Z3⟩:=cS.form
 clear cS
 refine Ze fun _ b7=>Zr [] hf ?_
 refine B1 0 2 3 hf ?_
 clear hf s0;intro a7 hf sS
 refine Zx b7 (wp_scope_straight ?_)
 refine Ze fun _ b7=>Zr [] hf ?_
 refine B1 0 2 3 hf ?_
 clear hf sS;intro a7 hf sS
 refine Zs b7 fun _ b7=>wp_label ?_
 refine Zs b7 fun _ b7=>Ze fun _ j8=>Zr [6] hf ?_
 refine J3 0 2 3 6 7 8 hf ?_
 clear hf sS;intro a7 hf sS
 refine Zx j8 (wp_block (wp_loop_ghost (fun gk fr wr=>∃ (i:Nat),gk=es.length-i/\i<=es.length/\Fc.Fr 37 fr/\fr.tmps[0]? =some (.slice A es.length cc)/\fr.tmps[2]? =some (.int .i64 (-1))/\fr.tmps[3]? =some (.int .i64 0)/\fr.tmps[6]? =some (.slice A es.length cc)/\fr.tmps[7]? =some (.int .i64 es.length)/\fr.tmps[8]? =some (.int .i64 i)/\aW es=chkL (prevW es i) (es.drop i)/\Below w.heap.size w wr) (es.length) ?_ ?_))
 . (
 obtain ⟨s0,s2,s3,s6,s7,s8⟩:=sS
 exact ⟨0,rfl,Nat.zero_le _,hf,s0,s2,s3,s6,s7,s8,rfl,Below.refl _ _⟩)
 . (
 clear hf sS
 rintro gk fr wr ⟨i,hk,hi,hf,s0,s2,s3,s6,s7,s8,hch,hb⟩
 have HK:=H9 hk;have HC:=H9 hch;clear hk hch
 refine Ze fun _ j8=>Zr [] hf ?_
 refine cP 0 2 3 6 7 8 9 hf ?_
 clear hf s0 s2 s3 s6 s7 s8;intro a7 hf sS
 refine Zs j8 fun _ j8=>Fc.l0 sS.2.2.2.2.2.2 (fun hq=> ?_) (fun hq=> ?_)
 . (
 have n8:i<es.length:=qT
 have HQ:=H9 hq;clear hq
 obtain ⟨e,F3⟩:∃ e,es[i]? =some e:=⟨_,D9 n8⟩
 obtain ⟨b,off,rfl,qP,aF,d0,d1,d2⟩:=(lF.below hb).at_ F3
 have HE:=H9 F3;clear F3
 refine wp_skip (Zs j8 fun _ j8=>wp_block (Ze fun _ l6=>Zr [10,11,12,5] hf ?_))
 refine nM 0 2 3 4 5 6 7 8 hf ?_
 clear hf sS;intro a7 hf sS
 generalize p8:wr.alloc (.cells #[.string e.word,.int .u32 e.weight,.bool e.gone] 64)=W0
 obtain ⟨r9,x0, -, -,F1, -⟩:=G1 p8
 clear p8
 clear d0 d1 d2 aF
 refine Zs l6 fun _ l6=>wp_block (Ze fun _ N4=>rg ?_)
 have bB:=hf.B5 14 15 16 17 18
 iterate 3 refine Zy ?_
 refine Zc (w1a (W0.alloc (.cells #[.string e.word] 9)) e.word W0.heap.size (n5 0 (heap_alloc_new W0 _))) ?_;rintro e w5 ⟨rfl,rfl⟩
 refine Zv ?_
 iterate 2 refine Zy ?_
 refine Fc.nil (vE 0 2 3 4 5 6 7 8 13 hf ?_)
 clear hf sS bB;intro a7 hf sS
 have F2:Below W0.heap.size W0 (W0.alloc (.cells #[.string e.word] 9)):=(Below.refl _ _).alloc nR _
 obtain ⟨W5,eC⟩:∃ W5,W0.alloc (.cells #[.string e.word] 9)=W5:=⟨_,rfl⟩
 rw [eC] at F2
 try rw [eC]
 clear eC
 have x5:=cL F2 x0
 have hbW:=hb.trans ((r9.trans (F2.mono r9.size)).mono hb.size)
 refine Zx N4 ?_
 have y8:=x7y HE.out
 have X9:=H9 y8;clear y8
 rcases a8:okW e.word with _ | _
 . (
 have H1:=H9 a8;clear a8
 have z6f:a7.tmps[13]? =some (.bool true):=by rw [sS.2.2.2.2.2.2.2.2,H1.out];rfl
 obtain ⟨s0,s2,s3,s4,s5,s6,s7,s8,J0⟩:=sS
 clear J0
 have J0:=z6f;clear z6f
 refine Fc.l8 J0 ?_
 refine Zr [] hf ?_
 refine C1 3 4 hf ?_
 clear hf s0 s2 s3 s4 s5 s6 s7 s8 J0;intro a7 hf sS
 refine Fc.j7 (Zs l6 fun _ l6=>Zr [33] hf ?_)
 refine C1 2 3 hf ?_
 clear hf sS;intro a7 hf sS
 refine Zx l6 (Zo ?_)
 refine Zs b7 fun _ b7=>Zr [35,36] hf ?_
 refine C1 2 3 hf ?_
 clear hf sS;intro a7 hf sS
 refine Zx b7 (k8 ?_)
 exact Fc.U6 rfl hf sS.1 sS.2 ⟨i,by rw [HC.out,X9.out,H1.out];rfl,hbW⟩)
 . (
 rcases Nat.eq_zero_or_pos i with nK | nK
 . (
 have H1:=H9 a8;clear a8
 have z6f:a7.tmps[13]? =some (.bool false):=by rw [sS.2.2.2.2.2.2.2.2,H1.out];rfl
 obtain ⟨s0,s2,s3,s4,s5,s6,s7,s8,J0⟩:=sS
 clear J0
 have J0:=z6f;clear z6f
 refine Fc.k9 J0 ?_
 have HI0:=H9 nK
 have q1:decide (0<i)=false:=decide_eq_false oM
 clear nK
 refine Ze fun _ N4=>Sb.tb 37 fun a8=> ?_
 refine Sb.mO 0 s4 hf a8 ?_
 refine Sb.T 1 hf a8 ?_
 refine Sb.mN 2 1 0 hf a8 [] ?_
 refine Sb.Tk 3 hf a8 ?_
 refine Sb.Tk 4 hf a8 ?_
 refine Sb.Tk 5 hf a8 ?_
 refine Sb.Tk 6 hf a8 ?_
 refine Sb.Tk 7 hf a8 ?_
 refine Sb.Tk 8 hf a8 ?_
 refine Sb.Tk 9 hf a8 ?_
 apply Sb.tr 10 _ hf a8
 . (
 intro a7 w1 hh hd hk K Z
 have U9:=Sb.v 2 7 hd hk []
 refine Sb.sk U9 ?_
 exact Sb.k Z)
 refine Sb.Tk 11 hf a8 ?_
 refine Sb.T 12 hf a8 ?_
 refine Sb.mN 13 12 0 hf a8 [] ?_
 refine Sb.E hf a8 (fun _ _ h g=>ad (Sb.O h s0) (ad (Sb.O h s2) (ad (Sb.O h s3) (ad (Sb.O h s4) (ad (Sb.O h s6) (ad (Sb.O h s7) (ad (Sb.O h s8) (Sb.f 13 0 g)))))))) ?_
 clear hf a8 s0 s2 s3 s4 s5 s6 s7 s8 J0;intro a7 w1 hf hx sS
 refine Zx N4 (Fc.k9 sS.2.2.2.2.2.2.2 ?_)
 have q9:aW es=chkL (some (wl e.word)) (es.drop (i+1)):=by rw [HC.out,X9.out,H1.out,prev_zero HI0.out];rfl
 have HF:=H9 q9;clear q9
 have T2:=hbW.trans (hx.mono hbW.size)
 refine Zo ?_
 refine Zx j8 (Zr [34] hf ?_)
 refine J3 0 2 3 6 7 8 hf ?_
 clear hf sS;intro a7 hf sS
 refine Fc.j6 ?_
 obtain ⟨s0,s2,s3,s6,s7,s8⟩:=sS
 exact ⟨_,by have:=HK.out;omega,i+1,rfl,oM,hf,s0,s2,s3,s6,s7,by rw [s8];rfl,by rw [HF.out,sX HE.out],T2⟩)
 . (
 have H1:=H9 a8;clear a8
 have z6f:a7.tmps[13]? =some (.bool false):=by rw [sS.2.2.2.2.2.2.2.2,H1.out];rfl
 obtain ⟨s0,s2,s3,s4,s5,s6,s7,s8,J0⟩:=sS
 clear J0
 have J0:=z6f;clear z6f
 refine Fc.k9 J0 ?_
 have q1:decide (0<i)=true:=decide_eq_true nK
 obtain ⟨p,hip⟩:∃ p,es[i-1]? =some p:=⟨_,D9 oM⟩
 obtain ⟨b2,x2u,gT,t7y,v2f,y0,y1,y2⟩:=(lF.below hbW).at_ hip
 injection gT with gT
 injection gT with gT he3
 subst gT;subst he3
 have HP:=H9 hip;clear hip
 have hi1:(i:Int)-1=((i-1:Nat):Int):=oM
 refine Ze fun _ N4=>Sb.tb 37 fun a8=> ?_
 have lf:=H9 fun (w9:World) (h9:Below _ _ w9)=>ad (cL h9 x5) (ad (cL h9 y0) (ad (cL h9 y1) (cL h9 y2)))
 refine Sb.mO 0 s4 hf a8 ?_
 refine Sb.T 1 hf a8 ?_
 refine Sb.mN 2 1 0 hf a8 [] ?_
 refine Sb.Tg 3 hf a8 ?_ (hF:=fun _ _ h d=>Sb.O h s0)
 refine Sb.Tg 4 hf a8 ?_ (hF:=fun _ _ h d=>Sb.O h s4)
 apply Sb.tr 5 _ hf a8
 . (
 intro a7 w1 hh hd hk K Z
 have U9:=Sb.v 2 2 hd hk []
 refine Sb.g U9 ?_
 have gF:=Sb.v 4 0 hd hk []
 clear hd
 go_simp
 try simp (disch:=omega) only [Fc.W]
 try rw [hi1]
 exact Sb.k Z)
 refine Sb.Tg 6 hf a8 ?_
 refine Sb.Tg 7 hf a8 ?_ (hF:=fun _ _ h d=>lf.out _ h.ext)
 refine Sb.Tg 8 hf a8 ?_ (hF:=fun _ _ h d=>Sb.O h s5)
 refine Sb.Tg 9 hf a8 ?_ (hF:=fun _ _ h d=>lf.out _ h.ext)
 apply Sb.tr 10 _ hf a8
 . (
 intro a7 w1 hh hd hk K Z
 have U9:=Sb.v 2 7 hd hk []
 refine Sb.g U9 ?_
 have V0:=Sb.v 7 2 hd hk []
 have bG:=Sb.v 9 0 hd hk []
 clear hd
 have L7:=lf.out _ hh.ext;try clear x5 y0 y1 y2;obtain ⟨x5,y0,y1,y2⟩:=L7
 go_simp
 go_at_call 88;refine (t7z p e.word w1).mono ?_;rintro e w2 ⟨rfl,hb⟩
 exact Z.out _ rfl _ _ hb rfl)
 refine Sb.Tg 11 hf a8 ?_
 refine Sb.T 12 hf a8 ?_
 refine Sb.mN 13 12 0 hf a8 [] ?_
 refine Sb.E hf a8 (fun _ _ h g=>ad (Sb.O h s0) (ad (Sb.O h s2) (ad (Sb.O h s3) (ad (Sb.O h s4) (ad (Sb.O h s6) (ad (Sb.O h s7) (ad (Sb.O h s8) (Sb.f 13 0 g)))))))) ?_
 clear hf a8 s0 s2 s3 s4 s5 s6 s7 s8 J0;intro a7 w1 hf hx sS
 have L7:=lf.out _ hx;try clear x5 y0 y1 y2;clear lf;obtain ⟨x5,y0,y1,y2⟩:=L7
 refine Zx N4 (Fc.l0 sS.2.2.2.2.2.2.2 (fun H7=> ?_) (fun H7=> ?_))
 . (
 have HQ2:=H9 H7;clear H7
 have T2:=hbW.trans (hx.mono hbW.size)
 refine Zr [] hf ?_
 refine C1 3 4 hf ?_
 clear hf sS;intro a7 hf sS
 refine Fc.j7 (Zs l6 fun _ l6=>Zr [33] hf ?_)
 refine C1 2 3 hf ?_
 clear hf sS;intro a7 hf sS
 refine Zx l6 (Zo ?_)
 refine Zs b7 fun _ b7=>Zr [35,36] hf ?_
 refine C1 2 3 hf ?_
 clear hf sS;intro a7 hf sS
 refine Zx b7 (k8 ?_)
 exact Fc.U6 rfl hf sS.1 sS.2 ⟨i,by rw [HC.out,X9.out,H1.out,wZ nK HP.out];simp only [w1c HQ2.out,if_true,Bool.false_eq_true,if_false];rfl,T2⟩)
 . (
 have HQ2:=H9 H7;clear H7
 have T2:=hbW.trans (hx.mono hbW.size)
 have q9:aW es=chkL (some (wl e.word)) (es.drop (i+1)):=by rw [HC.out,X9.out,H1.out,wZ nK HP.out];simp only [w1b HQ2.out,if_true]
 have HF:=H9 q9;clear q9
 refine Zo ?_
 refine Zx j8 (Zr [34] hf ?_)
 refine J3 0 2 3 6 7 8 hf ?_
 clear hf sS;intro a7 hf sS
 refine Fc.j6 ?_
 obtain ⟨s0,s2,s3,s6,s7,s8⟩:=sS
 exact ⟨_,by have:=HK.out;omega,i+1,rfl,oM,hf,s0,s2,s3,s6,s7,by rw [s8];rfl,by rw [HF.out,sX HE.out],T2⟩))))
 . (
 have F3:i=es.length:=qF
 have HIE:=H9 F3;clear F3 hq
 refine Zo ?_
 refine Zs b7 fun _ b7=>Zr [35,36] hf ?_
 refine C1 2 3 hf ?_
 clear hf sS;intro a7 hf sS
 refine Zx b7 (k8 ?_)
 exact Fc.U6 rfl hf sS.1 sS.2 ⟨-1,by rw [HC.out,List.drop_eq_nil_of_le (by have:=HIE.out;omega)];rfl,hb⟩))
open Go.RowKit Go.Maps
theorem x7w (w:World):(Instr.makeSlice 121 (.int .i64 1) (.int .i64 1)).run Tryz.prog w= .ok (.slice (some ⟨w.heap.size,0,none⟩) 1 1) (w.alloc (.cells #[.slice none 0 0,.bool false,.int .u64 0,.int .u8 0] 126)):=by
 obtain ⟨i0,hi,gE,fK,U4⟩:=info_parts rN
 have hr:=run_make (P:=Tryz.prog) (w:=w) 121 126 i0 _ Tryz.underlying121 hi gE .i64 .i64 1 1 oM oM (by rw [U4];omega) oM
 have hc:madeCells (Value.agg #[.slice none 0 0,.bool false,.int .u64 0,.int .u8 0]).cells (Int.toNat 1*4)= #[.slice none 0 0,.bool false,.int .u64 0,.int .u8 0]:=kR
 rw [fK,hc] at hr
 exact hr
def sY (base k0:Nat) (k:Nat):Nat:=if k<base then 4 else if k=k0 then 3 else if k=k0+1 then 5 else if k=k0+2 then 1 else 0
theorem aU.start (w0:World) (base:Nat) (hb:base<=w0.heap.size) {W:World}
  (hW:((w0.alloc (.map #[] 0)).alloc (.cells #[.slice none 0 0,.bool false,.int .u64 0,.int .u8 0] 126)).alloc (.cells #[.slice none 0 0,.map (some w0.heap.size),.slice (some ⟨w0.heap.size+1,0,none⟩) 1 1] 123)=W) :
  aU W base (sY base w0.heap.size) (w0.heap.size+2) (.slice none 0 0) w0.heap.size [] (.slice (some ⟨w0.heap.size+1,0,none⟩) 1 1) 0 [⟨E1,0⟩]/\Below w0.heap.size w0 W:=by
 have uB:Below w0.heap.size w0 W:=by rw [<- hW];exact (((Below.refl _ _).alloc nR _).alloc sP _).alloc sO _
 have h1:=World.ownsMap_made w0 Tryz.prog 9 (plainElem (H:=Unit) Tryz.prog 3)
 have hm:=h1.alloc (.cells #[.slice none 0 0,.bool false,.int .u64 0,.int .u8 0] 126)
 have fU:=hm.alloc (.cells #[.slice none 0 0,.map (some w0.heap.size),.slice (some ⟨w0.heap.size+1,0,none⟩) 1 1] 123)
 rw [hW] at fU
 have hr:=World.ownsRow_lit (base:=base) (e:=126) (size:=4) (w0.alloc (.map #[] 0)) #[.slice none 0 0,.bool false,.int .u64 0,.int .u8 0] 1 sO (by unfold maxLen;omega) rfl
 have S5:=hr.alloc (.cells #[.slice none 0 0,.map (some w0.heap.size),.slice (some ⟨w0.heap.size+1,0,none⟩) 1 1] 123)
 rw [hW] at S5
 have hs1:(w0.alloc (.map #[] 0)).heap.size=w0.heap.size+1:=sP
 rw [hs1] at S5
 have dE:W.heap[w0.heap.size+2]? =some (.cells #[.slice none 0 0,.map (some w0.heap.size),.slice (some ⟨w0.heap.size+1,0,none⟩) 1 1] 123 (0,0)):=by
  have:=heap_alloc_new ((w0.alloc (.map #[] 0)).alloc (.cells #[.slice none 0 0,.bool false,.int .u64 0,.int .u8 0] 126)) (.cells #[.slice none 0 0,.map (some w0.heap.size),.slice (some ⟨w0.heap.size+1,0,none⟩) 1 1] 123)
  rw [hW] at this
  rw [<- this]
  simp
 have o1:∀ k,k<base->sY base w0.heap.size k=4:=fun k hk=>if_pos hk
 have o2:sY base w0.heap.size w0.heap.size=3:=by unfold sY;rw [if_neg (by omega),if_pos rfl]
 have o3:sY base w0.heap.size (w0.heap.size+1)=5:=by unfold sY;rw [if_neg (by omega),if_neg (by omega),if_pos rfl]
 have o4:sY base w0.heap.size (w0.heap.size+2)=1:=by unfold sY;rw [if_neg (by omega),if_neg (by omega),if_neg (by omega),if_pos rfl]
 refine ⟨⟨⟨o1,dE,o4,o2,fU,⟨[],World.ownsRow_nil _ _ _ _,(fun k hk=>by cases hk),fun i s hi=>by simp at hi⟩,List.Pairwise.nil,sP⟩,_,S5,fun k hk=> ?_,fun i o hi=> ?_⟩,uB⟩
 ·injection hk with hk;subst hk;exact o3
 ·match i,hi with
  | 0,hi =>
   injection hi with hi
   subst hi
   exact ⟨.slice none 0 0,rfl,rfl,rfl,rfl,OA.S0 _ _,fun k hk=>by cases hk⟩
theorem bC.rs {w:World} {base g mb:Nat} {own:Nat->Nat} {t:TypeId} {xs:List Value} {sv:Value} {ss:List State} (h:bC w base own g t xs sv mb ss):RS w sv ss:=by
 obtain ⟨cells,h1,h2,h3⟩:=h.row
 rcases h1.2 with ⟨rfl,h0⟩ | ⟨b,cap,cur,rfl,_,_,hc,_⟩
 ·have:ss=[]:=List.eq_nil_of_length_eq_zero h0
  subst this
  exact RS.S0 w
 ·refine ⟨_,_,rfl,hc,fun _=>⟨b,0,rfl,fun i s hi=> ?_⟩⟩
  obtain ⟨av,h4,h5,h6,h7⟩:=h3 i s hi
  have P2:=(E2 hi).1
  refine ⟨av,?_,?_,?_,h7.more (fun _ _ _=>trivial)⟩
  ·rw [Nat.zero_add,h1.cellAt _ oM];exact h4
  ·rw [Nat.zero_add,h1.cellAt _ oM];exact h5
  ·rw [Nat.zero_add,h1.cellAt _ oM];exact h6
theorem zG:∀ (es:List z6) (p:Option (List Nat)),chkL p es=0->(∀ e∈es,okW e.word=true)/\L6 (es.map Y1)/\∀ q,p=some q->∀ e∈es,lexlt q (wl e.word)=true
 | [],p,_=>⟨sP,List.Pairwise.nil,sP⟩
 | e::es,p,h=>by
  simp only [chkL] at h
  cases hw:okW e.word with
  | false=>rw [hw] at h;simp at h
  | true =>
   rw [hw] at h
   simp only [if_true] at h
   have hl:chkL (some (wl e.word)) es=0:=by
    cases p with
    | none=>exact h
    | some q =>
     by_cases hc:lexlt q (wl e.word)=true
     ·simpa [hc] using h
     ·simp [hc] at h
   obtain ⟨h1,h2,h3⟩:=zG es _ hl
   refine ⟨fun x hx=> ?_,?_,fun q hq x hx=> ?_⟩
   ·rcases List.mem_cons.1 hx with rfl | hx
    ·exact hw
    ·exact h1 x hx
   ·rw [List.map_cons]
    refine List.pairwise_cons.2 ⟨fun y hy=> ?_,h2⟩
    obtain ⟨x,hx,rfl⟩:=List.mem_map.1 hy
    exact h3 _ rfl x hx
   ·subst hq
    have H7:lexlt q (wl e.word)=true:=by
     by_cases h9:lexlt q (wl e.word)=true
     ·exact h9
     ·simp [h9] at h
    rcases List.mem_cons.1 hx with rfl | hx
    ·exact H7
    ·exact eF _ _ _ H7 (h3 _ rfl x hx)
theorem bZ {s:ByteArray} (h:okW s=true):s.size<=255:=by
 unfold okW at h
 simp at h
 omega
def lastW (es:List z6) (i:Nat):ByteArray:=match i with
 | 0=>⟨#[]⟩
 | i+1=>(es[i]?.map z6.word).getD ⟨#[]⟩
theorem y4u {es:List z6} {i:Nat} {e:z6} (h:es[i]? =some e) (x:List State×List Open):adds x [] ((es.take (i+1)).map Y1)=add (adds x [] ((es.take i).map Y1)) (wl (lastW es i)) (Y1 e):=by
 have ht:es.take (i+1)=es.take i++[e]:=by rw [List.take_add_one,h];rfl
 rw [ht,List.map_append,lH]
 show add _ _ _=_
 congr 1
 cases i with
 | zero=>rfl
 | succ i =>
  have hl:i<es.length:=by have:=(E2 h).1;omega
  have ht2:es.take (i+1)=es.take i++[es[i]]:=by rw [List.take_add_one,D9 hl];rfl
  rw [ht2,List.map_append,List.map_cons,List.map_nil,List.getLast?_concat]
  simp [lastW,hl,Y1]
theorem w0z (ss:List State) (o6:List Open) (last:List Nat) (e:Wv) (h:o6≠[]):(add (ss,o6) last e).2≠[]:=by
 have h1:=z6g ss o6 (shared last e.1) h
 intro h2
 have h3:=congrArg List.length h2
 unfold add at h3
 simp only [eE,jE,List.length_nil] at h3
 exact h1 (List.eq_nil_of_length_eq_zero oM)
theorem z1k (ss:List State) (o6:List Open) (h:o6≠[]):∃ o,(close ss o6 0).2=[o]:=by
 have:=Z6 ss o6 0 (List.length_pos_iff.2 h)
 match hc:(close ss o6 0).2,this with
 | [o],_=>exact ⟨o,rfl⟩
theorem z6e {w:World} {base g mb j:Nat} {own:Nat->Nat} {sv wv:Value} {ss:List State} {o6:List Open} (h:aU w base own g sv mb ss wv j o6) :
  ∃ K9:Nat->Nat,(∀ k,w.heap.size<=k->K9 k=0)/\(∀ k,k<w.heap.size->K9 k=own k)/\aU w base K9 g sv mb ss wv j o6:=by
 have hb:=h.cT.aC
 have aS:∀ k,k<w.heap.size->(if k<w.heap.size then own k else 0)=own k:=fun k hk=>if_pos hk
 exact ⟨fun k=>if k<w.heap.size then own k else 0,fun k hk=>if_neg (by omega),aS,h.told (fun k hk=>by rw [aS k oM];exact h.cT.lo k hk) (fun k hk _ _=>aS k hk)⟩
theorem n4.lo {w w':World} {own:Nat->Nat} {base:Nat} (h:n4 (fun k=>own k≠0/\own k≠4) w w') (hb:base<=w.heap.size) (hlo:∀ k,k<base->own k=4):Below base w w' :=
 ⟨h.os,h.tape,h.output,h.size,fun k hk=>h.block k oM (fun h4=>h4.2 (hlo k hk))⟩
open Go.Maps
def PB (W2:World) (v7:Nat->Nat) (base g:Nat) (wv:Value) (mb:Nat) (ss:List State):Sb.Pr:=fun _ w=>∃ M3 oD,(∀ k,k<W2.heap.size->M3 k=v7 k)/\bC w base M3 g 123 [wv] oD mb ss
theorem PB.u5 (W2:World) (v7:Nat->Nat) (base g:Nat) (wv:Value) (mb:Nat) (ss:List State):Sb.Stable (PB W2 v7 base g wv mb ss):=fun _ w w' hb ⟨M3,oD,h1,h3⟩=>⟨M3,oD,h1,h3.later hb⟩
theorem z1j {es:List z6} {i:Nat} {e:z6} (h:es[i]? =some e):lastW es (i+1)=e.word:=by simp [lastW,h]
theorem z1i {es:List z6} (h:aW es=0) (i:Nat):(lastW es i).size<=1000000:=by
 cases i with
 | zero=>show (⟨#[]⟩:ByteArray).size<=1000000;decide
 | succ i =>
  simp only [lastW]
  cases hi:es[i]? with
  | none=>show (⟨#[]⟩:ByteArray).size<=1000000;decide
  | some e=>have:=bZ ((zG es none h).1 e (U0 hi));simp;omega
theorem x0x (w:World) (es:List z6) (B:Nat) (v:Value) (hB:B<=w.heap.size) (cS:RE w B v es) (hlen:es.length<=100) (x7v:aW es≠0):G4 w 27 #[v] (.tuple #[.agg #[.slice none 0 0,.int .u64 0],.int .i64 (aW es:Nat)]):=by
 refine S8 61 Tryz.func27 fun fr hf s0=> ?_
 have lF:=cS.any
 clear cS
 have HC:=H9 x7v;clear x7v
 refine Ze fun _ b7=>Zr [] hf ?_
 refine C1 0 2 hf ?_
 clear hf s0;intro a7 hf sS
 generalize p8:w.alloc (.cells #[.slice none 0 0,.int .u64 0] 38)=W0
 obtain ⟨p9, -, -,F1,T1⟩:=Z8 p8
 clear p8
 have gE:w.heap.size<W0.heap.size:=by rw [T1];exact Nat.lt_succ_self _
 clear T1
 have x7u:=(lF.below p9).any
 refine Zs b7 fun _ b7=>Ze fun _ j8=>rg ?_
 have bB:=hf.B5 13 14 12 15 16
 refine Zy ?_
 refine Zc (x7x W0 es W0.heap.size v nR x7u oM) ?_;rintro e w1 ⟨n1,rfl,n7⟩
 refine Zv ?_
 iterate 5 refine Zy ?_
 refine Fc.nil (B1 0 2 5 hf ?_)
 clear hf sS bB;intro a7 hf sS
 have C5:=(n7.block _ (j4 F1)).trans F1
 clear x7u F1
 have G5:=p9.trans (n7.mono p9.size)
 have hw1:w.heap.size<w1.heap.size:=by have:=n7.size;omega
 refine Zs j8 fun _ j8=>Zr [17] hf ?_
 refine C0 0 2 5 18 hf ?_
 clear hf sS;intro a7 hf sS
 refine Zx j8 ?_
 have q18:a7.tmps[18]? =some (.bool true):=by rw [sS.2.2.2];have:=HC.out;simp;omega
 obtain ⟨s0,s2,s5,S2⟩:=sS
 clear S2
 have S2:=q18;clear q18
 refine Fc.l8 S2 ?_
 have z0:=n5 0 C5;have z1:=n5 1 C5;have fz0:=j3 (i:=0) C5;have fz1:=j3 (i:=1) C5
 simp at z0 z1
 refine Ze fun _ j8=>Zr [19,20] hf ?_
 refine C1 2 3 hf ?_
 clear hf s0 s2 s5 S2;intro a7 hf sS
 refine Zx j8 (k8 ?_)
 exact cV rfl hf sS.1 sS.2 (j5 (j5 C5 _) _) Tryz.underlying38 rfl kR ⟨rfl,(G5.setCell (p:=⟨w.heap.size,0,none⟩) nR _).setCell (p:=⟨w.heap.size,1,none⟩) nR _⟩
theorem x0w (w:World) (es:List z6) (B:Nat) (v:Value) (hB:B<=w.heap.size) (cS:RE w B v es) (hlen:es.length<=100) (hes:∀ e∈es,gM e) (x7v:aW es=0):Calls Tryz.prog 27 #[v] w fun e w1=>∃ sv,e= .returned (.tuple #[.agg #[sv,.int .u64 (build (es.map Y1)).init],.int .i64 0])/\RS w1 sv (build (es.map Y1)).l3/\(∀ s∈(build (es.map Y1)).l3,tN s)/\(build (es.map Y1)).l3.length<=2+255*es.length/\Below w.heap.size w w1:=by
 have oH:=@run_makeMap Tryz.prog
 have hms:=x7w
 refine S8 61 Tryz.func27 fun fr hf s0=> ?_
 have lF:=cS.any
 clear cS
 have HC:=H9 x7v;clear x7v
 clear oH hms
 refine Ze fun _ b7=>Zr [] hf ?_
 refine C1 0 2 hf ?_
 clear hf s0;intro a7 hf sS
 generalize p8:w.alloc (.cells #[.slice none 0 0,.int .u64 0] 38)=W0
 obtain ⟨p9, -, -,F1,T1⟩:=Z8 p8
 clear p8
 have gE:w.heap.size<W0.heap.size:=by rw [T1];exact Nat.lt_succ_self _
 clear T1
 have x7u:=(lF.below p9).any
 refine Zs b7 fun _ b7=>Ze fun _ j8=>rg ?_
 have bB:=hf.B5 13 14 12 15 16
 refine Zy ?_
 refine Zc (x7x W0 es W0.heap.size v nR x7u oM) ?_;rintro e w1 ⟨n1,rfl,n7⟩
 rw [HC.out]
 refine Zv ?_
 iterate 5 refine Zy ?_
 refine Fc.nil (B1 0 2 5 hf ?_)
 clear hf sS bB;intro a7 hf sS
 have C5:=(n7.block _ (j4 F1)).trans F1
 clear x7u F1
 have G5:=p9.trans (n7.mono p9.size)
 have hw1:w.heap.size<w1.heap.size:=by have:=n7.size;omega
 refine Zs j8 fun _ j8=>Zr [17] hf ?_
 refine C0 0 2 5 18 hf ?_
 clear hf sS;intro a7 hf sS
 refine Zx j8 (Fc.k9 sS.2.2.2 ?_)
 have oH:=@run_makeMap Tryz.prog
 have hms:=x7w
 skip
 refine wp_skip (Zs b7 fun _ b7=>Zr [21,22,23,24,25] hf ?_)
 refine B1 0 2 6 hf ?_
 clear hf sS;intro a7 hf sS
 clear oH hms
 generalize U1:((w1.alloc (.map #[] 0)).alloc (.cells #[.slice none 0 0,.bool false,.int .u64 0,.int .u8 0] 126)).alloc (.cells #[.slice none 0 0,.map (some w1.heap.size),.slice (some ⟨w1.heap.size+1,0,none⟩) 1 1] 123)=W2
 obtain ⟨s0,s2,s6⟩:=sS
 try simp only [World.size_alloc] at s6
 try rw [show w1.heap.size+1+1=w1.heap.size+2 from rfl] at s6
 obtain ⟨wH,r9⟩:=aU.start w1 w.heap.size (Nat.le_of_lt hw1) U1
 have tH:sY w.heap.size w1.heap.size w.heap.size=0:=by unfold sY;rw [if_neg (by omega),if_neg (by omega),if_neg (by omega),if_neg (by omega)]
 clear U1
 have J2:=(r9.block _ (j4 C5)).trans C5
 have gC:=G5.trans (r9.mono (Nat.le_of_lt hw1))
 obtain ⟨g,hg⟩:∃ g,w1.heap.size+2=g:=⟨_,rfl⟩
 rw [hg] at s6 wH
 obtain ⟨mb,hmb⟩:∃ mb,w1.heap.size=mb:=⟨_,rfl⟩
 rw [hmb] at wH tH
 obtain ⟨x8b,w7e⟩:∃ f,sY w.heap.size mb=f:=⟨_,rfl⟩
 rw [w7e] at wH tH
 obtain ⟨A,cc,rfl,Z3⟩:=lF.form
 clear hg w7e hmb C5 G5 hw1 r9
 have HO2:=H9 tH;clear tH
 refine Zs b7 fun _ b7=>Zr [] hf ?_
 refine C0 0 2 6 7 hf ?_
 clear hf s0 s2 s6;intro a7 hf sS
 refine Zs b7 fun _ b7=>Ze fun _ j8=>Zr [26] hf ?_
 refine J3 2 6 7 26 27 28 hf ?_
 clear hf sS;intro a7 hf sS
 refine Zx j8 (wp_block ?_)
 have HES:=H9 hes;clear hes
 refine wp_loop_ghost (fun gk fr wr=>∃ (i:Nat) (aD:Nat->Nat) (zV wvr:Value) (pD:List State) (fE:List Open),gk=es.length-i/\i<=es.length/\Fc.Fr 61 fr/\fr.tmps[2]? =some (.pointer (some ⟨w.heap.size,0,none⟩))/\fr.tmps[6]? =some (.pointer (some ⟨g,0,none⟩))/\fr.tmps[7]? =some (.string (lastW es i))/\fr.tmps[26]? =some (.slice A es.length cc)/\fr.tmps[27]? =some (.int .i64 es.length)/\fr.tmps[28]? =some (.int .i64 i)/\aU wr w.heap.size aD g zV mb pD wvr 0 fE/\fE≠[]/\adds ([],[⟨E1,0⟩]) [] ((es.take i).map Y1)=(pD,fE)/\fD i (1+255*i) pD fE/\wr.heap[w.heap.size]? =some (.cells #[.slice none 0 0,.int .u64 0] 38 (0,0))/\aD w.heap.size=0/\Below w.heap.size w wr) (es.length) ?_ ?_
 . (
 obtain ⟨s2,s6,s7,Z1,V0,bR⟩:=sS
 exact ⟨0,x8b,_,_,[],[⟨E1,0⟩],rfl,Nat.zero_le _,hf,s2,s6,s7,Z1,V0,bR,wH,sP,rfl,⟨fun o ho=>by simp at ho;subst ho;exact z6j 0 oM,sP⟩,J2,HO2.out,gC⟩)
 . (
 clear hf sS
 rintro gk fr wr ⟨i,aD,zV,wvr,pD,fE,hk,hi,hf,s2,s6,s7,Z1,V0,bR,sU,y4v,had,tL,sW,hpo,hb⟩
 have HK:=H9 hk;have HA:=H9 had;have HPO:=H9 hpo;clear hk had hpo wH J2 gC
 have t7x:=lF.below hb
 refine Ze fun _ j8=>Zr [] hf ?_
 refine cP 2 6 7 26 27 28 29 hf ?_
 clear hf s2 s6 s7 Z1 V0 bR;intro a7 hf sS
 refine Zs j8 fun _ j8=>Fc.l0 sS.2.2.2.2.2.2 (fun hq=> ?_) (fun hq=> ?_)
 . (
 have n8:i<es.length:=qT
 have HQ:=H9 hq;clear hq
 obtain ⟨e,F3⟩:∃ e,es[i]? =some e:=⟨_,D9 n8⟩
 obtain ⟨b,off,rfl,qP,aF,d0,d1,d2⟩:=t7x.at_ F3
 have hem:=U0 F3
 have hoe:=HES.out e hem
 have F7:=bZ ((zG es none HC.out).1 e hem)
 have HE:=H9 F3;clear F3 hem
 obtain ⟨jZ,x7z,z1m,hB3⟩:=z6e sU
 have H3:=H9 x7z;have H4:=H9 z1m;clear x7z z1m sU
 have bJ:=hB3.cT.aC
 refine wp_skip (Zs j8 fun _ j8=>wp_block (Ze fun _ l6=>Zr [30,31,9] hf ?_))
 refine cP 2 6 7 9 26 27 28 hf ?_
 clear hf sS;intro a7 hf sS
 generalize kB:wr.alloc (.cells #[.string e.word,.int .u32 e.weight,.bool e.gone] 64)=W3
 obtain ⟨D4,x0,x1,x2,T3,v0f⟩:=G1 kB
 clear kB
 have tM:wr.heap.size<W3.heap.size:=by rw [v0f];exact Nat.lt_succ_self _
 clear v0f
 clear d0 d1 d2
 have hB4:=hB3.later D4
 have tR:=(D4.block _ (j4 sW)).trans sW
 clear hB3
 refine Zt l6 fun _ l6=> ?_
 have bB:=hf.B3 32 33 34
 iterate 3 refine Zy ?_
 refine Zc (v0m W3 (lastW es i) e hB4 y4v tL oM oM hoe (z1i HC.out i)) ?_;rintro e w5 ⟨rfl,v0e,sv5,wv5,hB5,hk5,F2⟩
 refine Zv ?_
 refine Fc.nil (J3 2 6 9 26 27 28 hf ?_)
 clear hf sS bB;intro a7 hf sS
 have hq5:=F2.heap T3 (fun h=>h.1 (H3.out _ nR))
 have x5:=n5 0 hq5
 simp at x5
 clear x0 x1 x2 T3
 have nW:jZ w.heap.size=0:=(H4.out _ (j4 sW)).trans HPO.out
 have P6:=F2.heap tR (fun h=>h.1 nW)
 have v0d:v0e w.heap.size=0:=(hk5 _ (j4 tR) (.inl nW)).trans nW
 have HP5:=H9 v0d;have HP3:=H9 nW;clear v0d nW
 refine Zx l6 (Zr [36,37] hf ?_)
 refine J3 2 6 7 26 27 28 hf ?_
 clear hf sS;intro a7 hf sS
 refine Fc.j7 (Zx j8 (Zr [38] hf ?_))
 refine J3 2 6 7 26 27 28 hf ?_
 clear hf sS;intro a7 hf sS
 refine Fc.j6 ?_
 have hbU:=tL.add (last:=wl (lastW es i)) (e:=Y1 e) oM oM (dR e.word) (by have:=xX hoe;show M9 e<_;omega)
 have v0c:(Y1 e).1.length=e.word.size:=l9 _
 rw [v0c] at hbU
 obtain ⟨s2,s6,s7,Z1,V0,bR⟩:=sS
 exact ⟨_,by have:=HK.out;omega,i+1,v0e,sv5,wv5,_,_,rfl,oM,hf,s2,s6,by rw [s7,z1j HE.out],Z1,V0,by rw [bR];rfl,hB5,w0z _ _ _ _ y4v,by rw [y4u HE.out,HA.out],⟨hbU.all,by have:=hbU.size;omega⟩,P6,HP5.out,hb.trans ((D4.mono hb.size).trans (n4.lo F2 (by have:=hb.size;have:=D4.size;omega) hB4.cT.lo))⟩)
 . (
 have F3:i=es.length:=qF
 have ha2:=HA.out
 rw [F3,List.take_length] at ha2
 have HA2:=H9 ha2;clear ha2 hq
 have HIE:=H9 F3;clear F3
 refine Zo ?_
 refine Zt b7 fun _ b7=> ?_
 have bB:=hf.b 39
 refine Zy ?_
 refine Zc (y8o wr 0 sU y4v tL.bnd oM oM oM) ?_;rintro e w2 ⟨rfl,jZ,sv3,wv3,hB3,zR,D4⟩
 refine Zv ?_
 refine Fc.nil (C1 2 6 hf ?_)
 clear hf sS bB;intro a7 hf sS
 have hU:=Bnd.closeN oM oM (fE.length-(0+1)) pD fE tL.bnd
 have hU2:Bnd i (1+255*i) (close pD fE 0).1 (close pD fE 0).2:=hU
 clear hU
 obtain ⟨o,hco⟩:=z1k pD fE y4v
 obtain ⟨ss3,w0y⟩:∃ x,(close pD fE 0).1=x:=⟨_,rfl⟩
 rw [w0y,hco] at hB3 hU2
 have HS3:=H9 w0y;have HCO:=H9 hco;clear w0y hco
 have tR:=D4.heap sW (fun h=>h.1 HPO.out)
 have nW:jZ w.heap.size=0:=(zR _ (j4 sW) (.inl HPO.out)).trans HPO.out
 have uP:=hb.trans (n4.lo D4 sU.cT.aC sU.cT.lo)
 clear D4 zR sU sW
 obtain ⟨K9,z6h,aS,hBs⟩:=z6e hB3
 have v0a:K9 w.heap.size=0:=(aS _ (j4 tR)).trans nW
 have H0:=H9 z6h;have HP0:=H9 v0a;clear z6h aS hB3 nW v0a
 obtain ⟨wb,c,av,rfl,s5b,qV,d0,d1,d2,d3,Y8,aE⟩:=hBs.top
 simp only [List.length_nil,Nat.zero_mul,Nat.zero_add,Nat.add_zero] at d0 d1 d2 d3 aE
 have q2:=hBs.z6l
 have hoo:=hU2.head o rfl
 have hus:=hU2.size
 obtain ⟨Aa,ca,rfl,hca⟩:=(OA.ra (B:=fun _=>True) Y8 (fun _ _=>trivial)).form
 have HWB:=H9 qV;clear qV
 have u9z:=uP.size
 refine Zt b7 fun _ b7=> ?_
 have bB:=hf.B7 41 42 43 44 45 46 10
 iterate 4 refine Zy ?_
 refine fp fun K Z=> ?_
 go_simp
 try rw [if_pos (by omega)]
 try simp
 apply Z.out;clear Z K
 iterate 3 refine Zy ?_
 refine Fc.nil (B1 2 6 10 hf ?_)
 clear hf sS bB;intro a7 hf sS
 generalize hW6:w2.alloc (.cells #[.slice Aa o.st.a6.length ca,.bool o.st.final,.int .u64 o.st.out,.int .u8 o.cN] 126)=W6
 obtain ⟨G7, -, -, -, -,hq6,x7t⟩:=w6d hW6
 clear hW6
 have hz6:w2.heap.size<W6.heap.size:=by rw [x7t];exact Nat.lt_succ_self _
 clear x7t
 have hB6:=(hBs.later G7).forget
 have z3m:OA W6 w.heap.size (.slice Aa o.st.a6.length ca) o.st.a6:=l5 Y8 G7
 have bF:=(G7.block _ (j4 tR)).trans tR
 clear d0 d1 d2 d3 Y8 q2
 refine Zs b7 fun _ b7=> ?_
 obtain ⟨n,hn⟩:∃ n,leastOf o.st=n:=⟨_,rfl⟩
 have HN:=H9 hn;clear hn
 refine rg ?_
 have bB:=hf.b 47
 refine Zc (x8j W6 w2.heap.size o.cN w.heap.size o.st _ hoo.ok hq6 z3m) ?_;rintro e w7 ⟨rfl,M7,z3l,qX⟩
 rw [HN.out] at M7 z3l
 rw [HN.out]
 refine Zv ?_
 refine Zy ?_
 refine Fc.nil (C0 2 6 10 11 hf ?_)
 clear hf sS bB;intro a7 hf sS
 have hB7:=hB6.but qX (fun k hk=>by rcases hk with rfl | hk;exact .inl (H0.out _ nR);right;have:=aE k hk;simp only [List.length_nil];omega)
 have hp7:=qX.heap bF (fun h=>by rcases h with h | h;(have h5:=j4 tR;omega);(have:=aE _ h;have:=HP0.out;omega))
 have s4y:=qX.size
 have w5i:Below w.heap.size w w7:=uP.trans ((G7.mono u9z).trans (n4.below qX oM (fun k hk=>by rcases hk with rfl | hk;exact u9z;exact (z3m.lt k hk).1)))
 have sV:∀ k,K9 k≠6->(if (.slice Aa o.st.a6.length ca:Value).ownBlock=some k then 4 else K9 k)=K9 k:=fun k hk=>if_neg (fun h=>hk (aE k h))
 have hB4:=hB7.cT.told (Y6:=fun k=>if (.slice Aa o.st.a6.length ca:Value).ownBlock=some k then 4 else K9 k) (fun k hk=>by rw [sV k (by have:=hB7.cT.lo k hk;omega)];exact hB7.cT.lo k hk) (fun k _ h1 h2=>sV k oM)
 have bA:RA w7 (fun k=>(if (.slice Aa o.st.a6.length ca:Value).ownBlock=some k then 4 else K9 k)=4) (.slice Aa o.st.a6.length ca) (less o.st n).a6:=OA.ra z3l (fun k hk=>if_pos hk)
 obtain ⟨v7,cJ⟩:∃ f,(fun k=>if (.slice Aa o.st.a6.length ca:Value).ownBlock=some k then 4 else K9 k)=f:=⟨_,rfl⟩
 have u9y:v7 w.heap.size=0:=by rw [<- cJ];exact (sV _ (by have:=HP0.out;omega)).trans HP0.out
 rw [cJ] at hB4
 replace bA:RA w7 (fun k=>v7 k=4) (.slice Aa o.st.a6.length ca) (less o.st n).a6:=by rw [<- cJ];exact bA
 have HP4:=H9 u9y;clear u9y sV cJ hB7 z3l qX bF hB6 z3m hq6
 have g0:=n5 0 M7;have g1:=n5 1 M7;have g2:=n5 2 M7
 simp at g0 g1 g2
 refine Zs b7 fun _ b7=> ?_
 obtain ⟨s2,s6,y4,C7⟩:=sS
 refine Sm.K1 (n:=61) (fun _ k=>v7 k=1\/v7 k=2\/v7 k=3) [5] (Sb.OkOps.of kR) (fun a8=> ?_)
 refine Sm.xQ (k:=0) s6 hf.size a8.out rfl kR rfl rfl (.inl rfl) kR ?_
 apply Sm.tq 1 _ hf a8
 . (
 intro a7 w1 hh hd hk K Z
 refine Sb.pl ?_
 have s48:=Sm.v 0 0 hd hk []
 have K6:=Sm.z7 hh [(5,[2])] kR
 have o5:=Sm.l7 hh [] [(5,[2])] kR
 clear hd hh
 go_simp
 exact Sb.k Z)
 apply Sm.tq 2 _ hf a8
 . (
 intro a7 w1 hh hd hk K Z
 refine Sb.pl ?_
 have uA:=Sm.v 1 0 hd hk []
 have K6:=Sm.z7 hh [(5,[])] kR
 have o5:=Sm.l7 hh [] [(5,[])] kR
 clear hd hh
 go_simp
 exact Sb.k Z)
 apply Sm.tq 3 _ hf a8
 . (
 intro a7 w1 hh hd hk K Z
 refine Sb.pl ?_
 have y4:=Sm.o hh kR y4
 have K6:=Sm.z7 hh [(5,[4])] kR
 have o5:=Sm.l7 hh [] [(5,[4])] kR
 clear hd hh
 go_simp
 exact Sb.k Z)
 apply Sm.tq 4 _ hf a8
 . (
 intro a7 w1 hh hd hk K Z
 refine Sb.pl ?_
 have pS:=Sm.v 3 0 hd hk []
 have K6:=Sm.z7 hh [(5,[])] kR
 have o5:=Sm.l7 hh [] [(5,[])] kR
 clear hd hh
 have f0:=cL K6 g0;have f1:=cL K6 g1;have f2:=cL K6 g2
 go_simp
 exact Sb.k Z)
 refine Sm.K3 (k:=5) (n:=61) (PB w7 v7 w.heap.size g (.slice (some ⟨wb,0,none⟩) 1 c) mb (finish ss3 (less o.st n)).1) hf.size a8.out rfl (PB.u5 _ _ _ _ _ _ _) kR ?_ ?_
 . (
 intro a7 w1 hh hd hk K Z
 refine Sb.pl ?_
 have yG:=Sm.v 2 2 hd hk []
 have s52:=Sm.v 4 0 hd hk []
 have K6:=Sm.z7 hh [] kR
 have o5:=Sm.l7 hh [] [] kR
 clear hd hh
 go_simp
 go_at_call 54;refine (cH w1 (hB4.later K6) (bA.later K6) (y8p hoo oM) (by simp only [List.length_cons,List.length_nil] at hus;omega)).mono ?_;rintro e w2 ⟨rfl,M3,oD,hF1,hF2,hF3,hF4⟩
 exact Z.out _ rfl _ _ hF4 ⟨M3,oD,fun k bV=>hF1 k (by have:=K6.size;omega),hF3⟩)
 refine Sm.K2 (n:=61) kR hf.size a8.out rfl (fun a7 w1 hh hg=> ?_)
 replace s2:=Sm.o hh kR s2
 replace s6:=Sm.o hh kR s6
 replace C7:=Sm.o hh kR C7
 obtain ⟨_,U8⟩:=Sm.T0 (j:=5) (m:=0) hg rfl dC [] kR rfl
 have u3:=hh.fr hf
 have o5:=hh.but
 clear hg hh hf a8 y4
 have hf:=u3;clear u3
 obtain ⟨M3,oD,hF1,hF3⟩:=U8
 replace o5:=o5 (fun k=>v7 k=1\/v7 k=2\/v7 k=3) (fun m _ b h=>h)
 have gD:=o5.heap hp7 (fun h=>by have:=HP4.out;have h:v7 w.heap.size=1\/v7 w.heap.size=2\/v7 w.heap.size=3:=h;omega)
 have hpF:M3 w.heap.size=0:=(hF1 _ (j4 hp7)).trans HP4.out
 obtain ⟨As,cs,hsv,S6⟩:=hF3.form
 subst hsv
 have r0:=hF3.cell0
 have z0:=n5 0 gD;have z1:=n5 1 gD;have fz0:=j3 (i:=0) gD;have fz1:=j3 (i:=1) gD
 simp at z0 z1
 have t7u:Below w.heap.size w _:=w5i.trans (n4.below o5 (by have:=w5i.size;omega) (fun k hk=>by rcases Nat.lt_or_ge k w.heap.size with h | h;(have:=hB4.lo k h;omega);exact h))
 have HPF:=H9 hpF;clear hpF bA hB4 g0 g1 g2 M7
 refine Zs b7 fun _ b7=>Zr [54,55,56,57,58,59,60] hf ?_
 refine C1 2 3 hf ?_
 clear hf s2 s6 C7;intro a7 hf sS
 refine Zx b7 (k8 ?_)
 have hS:∀ k,k=w.heap.size->M3 k=0\/5<=M3 k:=fun k hk=>by subst hk;exact .inl HPF.out
 have hF5:=(hF3.but (n4.setCell (S:=fun k=>k=w.heap.size) (p:=⟨w.heap.size,0,none⟩) rfl (.slice As (finish ss3 (less o.st n)).1.length cs)) hS).but (n4.setCell (S:=fun k=>k=w.heap.size) (p:=⟨w.heap.size,1,none⟩) rfl (.int .u64 n)) hS
 have t7t:build (es.map Y1)=⟨(finish ss3 (less o.st n)).1,n⟩:=by unfold build;rw [HA2.out];simp only [HS3.out,HCO.out,List.headD_cons,HN.out]
 rw [t7t]
 have hl9:(finish ss3 (less o.st n)).1.length<=2+255*es.length:=by have h1:=(gX ss3 (less o.st n)).1;have h2:=hU2.size;simp only [List.length_cons,List.length_nil] at h2;omega
 exact cV rfl hf sS.1 sS.2 (j5 (j5 gD _) _) Tryz.underlying38 rfl kR ⟨_,rfl,hF5.rs,hF5.S7,hl9,(t7u.setCell (p:=⟨w.heap.size,0,none⟩) nR _).setCell (p:=⟨w.heap.size,1,none⟩) nR _⟩))
end Dw
end Go.Proofs.YtcddnmhmcieebaaGreatDoor
