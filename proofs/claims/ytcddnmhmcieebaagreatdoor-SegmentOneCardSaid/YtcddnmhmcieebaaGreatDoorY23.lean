/- segment: right. -/
import Derived.Test.YtcddnmhmcieebaaGreatDoorY22
import Derived.Test.YtcddnmhmcieebaaGreatDoorTools
import Derived.Test.YtcddnmhmcieebaaGreatDoorY21
import Derived.Test.YtcddnmhmcieebaaGreatDoorY10
import Derived.Test.YtcddnmhmcieebaaGreatDoorY9
namespace Go.Proofs.YtcddnmhmcieebaaGreatDoor
set_option maxHeartbeats 4000000
set_option maxRecDepth 100000
open Go.RowKit
set_option linter.unusedSimpArgs false
set_option linter.unusedVariables false
set_option linter.unnecessarySimpa false
namespace Dw
theorem cW {w W:World} {a:Array Value} {t:TypeId} (h:w.alloc (.cells a t)=W):Below w.heap.size w W/\W.heap[w.heap.size]? =some (.cells a t (0,0)):=by
 subst h
 exact ⟨(Below.refl _ w).alloc nR _,by rw [u6,if_pos rfl]⟩
def z2f (ss:List State) (init:Nat) (en:Int):Nat->Bool
 | 0=>rightF ss init
 | 1=>yY ss en
 | 2=>decide (z7j ss<=255)
 | 3=> !eZ ss
 | _=>yX ss init
def x9k:Nat->Nat
 | 0=>64
 | 1=>66
 | 2=>68
 | 3=>70
 | _=>71
def w2t (p pn:Nat):Nat->Array Value
 | 1=> #[.pointer (some ⟨p,0,none⟩),.pointer (some ⟨pn,0,none⟩)]
 | _=> #[.pointer (some ⟨p,0,none⟩)]
def rightS (en:Int) (ss:List State) (init:Nat):Bool:=(List.range 5).all (z2f ss init en)
theorem rT {en:Int} {ss:List State} {init:Nat} (h:∀ j,j<5->z2f ss init en j=true):rightS en ss init=true:=List.all_eq_true.2 fun j hj=>h j (List.mem_range.1 hj)
theorem y5q {en:Int} {ss:List State} {init i:Nat} (hi:i<5) (h:z2f ss init en i=false):rightS en ss init=false:=List.all_eq_false.2 ⟨i,List.mem_range.2 hi,by rw [h];simp⟩
theorem z2e (i:Nat):∀ args w,(callFunc (x9k i) args).run Tryz.prog w= .ok (.enter (x9k i) args) w:=by
 match i with
 | 0=>exact enters_of Tryz.func64 kR rfl
 | 1=>exact enters_of Tryz.func66 kR rfl
 | 2=>exact enters_of Tryz.func68 kR rfl
 | 3=>exact enters_of Tryz.func70 kR rfl
 | i+4=>exact enters_of Tryz.func71 kR rfl
theorem y5p {W:World} {g q p:Nat} {t:TypeId} (h:W.heap[g]? =some (.cells #[.func (.func 64) #[] #[.pointer (some ⟨q,0,none⟩)],.func (.func 66) #[] #[.pointer (some ⟨q,0,none⟩),.pointer (some ⟨p,0,none⟩)],.func (.func 68) #[] #[.pointer (some ⟨q,0,none⟩)],.func (.func 70) #[] #[.pointer (some ⟨q,0,none⟩)],.func (.func 71) #[] #[.pointer (some ⟨q,0,none⟩)]] t (0,0))) {k:Nat} (hk:k<5):W.cell? ⟨g,k,none⟩=some (.func (.func (x9k k)) #[] (w2t q p k)):=by
 rw [cell_of_row _ _ k _ t (0,0) h]
 match k,hk with
 | 0,_=>rfl
 | 1,_=>rfl
 | 2,_=>rfl
 | 3,_=>rfl
 | 4,_=>rfl
theorem asks (w:World) (i p pn:Nat) (sv:Value) (init:Nat) (ss:List State) (en:Int) (c0:w.cell? ⟨p,0,none⟩=some sv) (c1:w.cell? ⟨p,1,none⟩=some (.int .u64 init)) (n0:w.cell? ⟨pn,0,none⟩=some (.int .i64 en)) (o7:RS w sv ss) (hlen:ss.length<=1000000) (a8:∀ s∈ss,J8 s) (K0:init<y5)
  (hi:i<5) (F6:∀ j,j<i->z2f ss init en j=true):Calls Tryz.prog (x9k i) (w2t p pn i) w fun e w1=>e= .returned (.bool (z2f ss init en i))/\Below w.heap.size w w1:=by
 match i,hi with
 | 0,_=>exact u0e w p sv init ss c0 c1 o7 hlen a8
 | 1,_=>exact u0d w p sv init ss c0 c1 o7 hlen a8 (F6 0 oM) pn en n0
 | 2,_=>exact u0c w p sv init ss c0 c1 o7 hlen a8 (F6 0 oM)
 | 3,_=>exact u0b w p sv init ss c0 c1 o7 hlen a8 (F6 0 oM)
 | 4,_=>exact u0a w p sv init ss c0 c1 o7 hlen a8 (F6 0 oM) K0
theorem x2k (w:World) (en:Int) (sv:Value) (init:Nat) (ss:List State) (o7:RS w sv ss) (hlen:ss.length<=1000000) (a8:∀ s∈ss,J8 s) (K0:init<y5):G4 w 38 #[.int .i64 en,.agg #[sv,.int .u64 init]] (.bool (rightS en ss init)):=by
 refine aT 26 Tryz.func38 fun fr hf s0 s1=> ?_
 obtain ⟨A,cc,rfl,Z3⟩:=o7.form
 refine Ze fun _ b7=>Zr [] hf ?_
 refine B1 2 3 4 hf ?_
 clear hf s0 s1;intro a7 hf sS
 obtain ⟨W0,p8⟩:∃ x,(w.alloc (.cells #[.int .i64 en] 3)).alloc (.cells #[.slice A ss.length cc,.int .u64 init] 38)=x:=⟨_,rfl⟩
 obtain ⟨s2,s3,s4⟩:=sS
 try simp only [World.size_alloc] at s3
 rw [p8]
 obtain ⟨p9,F1,C5⟩:=F9 p8
 clear p8
 have n0:=n5 0 F1;have c0:=n5 0 C5;have c1:=n5 1 C5
 simp at n0 c0 c1
 replace o7:=o7.later p9
 clear F1 C5
 obtain ⟨q,hq⟩:∃ x,w.heap.size+1=x:=⟨_,rfl⟩
 rw [hq] at s3 c0 c1
 clear hq
 refine Zx b7 (wp_scope_straight ?_)
 refine Ze fun _ b7=>Zr [8,9,10,11,12,13] hf ?_
 refine C1 4 5 hf ?_
 clear hf s2 s3 s4;intro a7 hf sS
 generalize Z4:W0.alloc (.cells #[.func (.func 64) #[] #[.pointer (some ⟨q,0,none⟩)],.func (.func 66) #[] #[.pointer (some ⟨q,0,none⟩),.pointer (some ⟨w.heap.size,0,none⟩)],.func (.func 68) #[] #[.pointer (some ⟨q,0,none⟩)],.func (.func 70) #[] #[.pointer (some ⟨q,0,none⟩)],.func (.func 71) #[] #[.pointer (some ⟨q,0,none⟩)]] 25)=W1
 obtain ⟨n7,hS⟩:=cW Z4
 clear Z4
 have N5:∀ k,k<5->W1.cell? ⟨W0.heap.size,k,none⟩=some (.func (.func (x9k k)) #[] (w2t q w.heap.size k)):=fun k hk=>y5p hS hk
 replace n0:=cL n7 n0;replace c0:=cL n7 c0;replace c1:=cL n7 c1;replace o7:=o7.later n7
 replace p9:=p9.trans (n7.mono p9.size)
 obtain ⟨S,hSq⟩:∃ x,W0.heap.size=x:=⟨_,rfl⟩
 obtain ⟨s4,s5⟩:=sS
 rw [hSq] at N5 s5
 clear n7 hS hSq
 refine Zs b7 fun _ b7=>Zr [] hf ?_
 refine C1 4 5 hf ?_
 clear hf s4 s5;intro a7 hf sS
 refine Zs b7 fun _ b7=>wp_label ?_
 refine Zs b7 fun _ b7=>Ze fun _ j8=>Zr [14] hf ?_
 refine C0 4 14 15 16 hf ?_
 clear hf sS;intro a7 hf sS
 refine Zx j8 (wp_block (wp_loop_ghost (fun gk fr wr=>∃ (i:Nat),gk=5-i/\i<=5/\Fc.Fr 26 fr/\fr.tmps[4]? =some (.bool true)/\fr.tmps[14]? =some (.slice (some ⟨S,0,none⟩) 5 5)/\fr.tmps[15]? =some (.int .i64 5)/\fr.tmps[16]? =some (.int .i64 i)/\(∀ j,j<i->z2f ss init en j=true)/\Below W1.heap.size W1 wr) (5) ?_ ?_))
 . (
 obtain ⟨s4,fW,s15,tZ⟩:=sS
 exact ⟨0,rfl,oM,hf,s4,fW,s15,tZ,fun j hj=>absurd hj oM,Below.refl _ _⟩)
 . (
 clear hf sS
 rintro gk fr wr ⟨i,qZ,hi,hf,s4,fW,s15,tZ,F6,hb⟩
 have HK:=H9 qZ;clear qZ
 refine Ze fun _ j8=>Zr [] hf ?_
 refine D0 4 14 15 16 17 hf ?_
 clear hf s4 fW s15 tZ;intro a7 hf sS
 refine Zs j8 fun _ j8=>Fc.l0 sS.2.2.2.2 (fun hq=> ?_) (fun hq=> ?_)
 . (
 have n8:i<5:=qT
 clear hq
 have hci:=cL hb (N5 i n8)
 have eg:=z2e i
 refine wp_skip (Zs j8 fun _ j8=>wp_block (Ze fun _ l6=>Zr [18,19] hf ?_))
 refine C0 7 14 15 16 hf ?_
 clear hf sS;intro a7 hf sS
 refine Zt l6 fun _ l6=> ?_
 have bB:=hf.B2 20 21
 refine Zy ?_
 refine fp fun K Z=> ?_
 go_simp
 refine (asks wr i q w.heap.size _ init ss en (cL hb c0) (cL hb c1) (cL hb n0) (o7.later hb) hlen a8 K0 n8 F6).mono ?_
 rintro e w1 ⟨rfl,n7⟩
 generalize hbk:z2f ss init en i=bk
 replace hb:=hb.trans (n7.mono hb.size)
 clear hci eg n7
 dsimp only
 apply Z.out;clear Z K
 refine Zy ?_
 refine Fc.nil (C0 4 14 15 16 hf ?_)
 clear hf sS bB;intro a7 hf sS
 refine Zs l6 fun _ l6=>Zr [22] hf ?_
 refine D0 4 14 15 16 23 hf ?_
 clear hf sS;intro a7 hf sS
 refine Zx l6 (Fc.l0 sS.2.2.2.2 (fun H7=> ?_) (fun H7=> ?_))
 . (
 have o5:bk=false:=by simpa using H7
 clear H7
 subst o5
 refine Zo ?_
 refine Zs b7 fun _ b7=>Zr [25] hf ?_
 refine r6 4 hf ?_
 clear hf sS;intro a7 hf s4
 refine Zx b7 (k8 ?_)
 exact Fc.o9 rfl hf s4 ⟨by rw [y5q n8 hbk],p9.trans (hb.mono p9.size)⟩)
 . (
 have o5:bk=true:=by simpa using H7
 clear H7
 subst o5
 refine wp_skip (Fc.j7 (Zx j8 (Zr [24] hf ?_)))
 refine C0 4 14 15 16 hf ?_
 clear hf sS;intro a7 hf sS
 refine Fc.j6 ?_
 obtain ⟨s4,fW,s15,tZ⟩:=sS
 exact ⟨_,by have:=HK.out;omega,i+1,rfl,oM,hf,s4,fW,s15,by rw [tZ];rfl,fun j hj=>(Nat.lt_or_ge j i).elim (fun h=>F6 j h) (fun h=>Nat.le_antisymm h (Nat.le_of_lt_succ hj)▸hbk),hb⟩))
 . (
 have F3:i=5:=qF
 clear hq
 subst F3
 refine Zo ?_
 refine Zs b7 fun _ b7=>Zr [25] hf ?_
 refine r6 4 hf ?_
 clear hf sS;intro a7 hf s4
 refine Zx b7 (k8 ?_)
 exact Fc.o9 rfl hf s4 ⟨by rw [rT F6],p9.trans (hb.mono p9.size)⟩))
def w7v (w w1:World) (e:Ending) (s:ByteArray) (en init:Nat) (ss:List State):Bool->Prop
 | false=>e= .returned (.tuple #[.pointer none,.int .i64 12])/\Below w.heap.size w w1
 | true=>∃ S sv,e= .returned (.tuple #[.pointer (some ⟨S,0,none⟩),.int .i64 0])/\w.heap.size<=S/\w1.heap[S]? =some (.cells #[sv,.int .u64 init,.int .i64 en,.int .i64 s.size] 98 (0,0))/\RS w1 sv ss/\Below w.heap.size w w1
def openV (s:ByteArray):Bool:=match Q0 s with
 | .error _=>false
 | .ok (en,init,ss)=>rightS en ss init
def gN (w w1:World) (e:Ending) (s:ByteArray):Prop:=match Q0 s with
 | .error _=>e= .returned (.tuple #[.pointer none,.int .i64 12])/\Below w.heap.size w w1
 | .ok (en,init,ss)=>w7v w w1 e s en init ss (rightS en ss init)
theorem w2s (w:World) (s:ByteArray) (F7:s.size<=900000000) (b:uD) (hp:Q0 s= .error b):G4 w 15 #[.string s] (.tuple #[.pointer none,.int .i64 12]):=by
 refine S8 28 Tryz.func15 fun fr hf s0=> ?_
 refine Ze fun _ b7=>Zr [] hf ?_
 refine r6 0 hf ?_
 clear hf s0;intro a7 hf s0
 refine Zt b7 fun _ b7=> ?_
 have bB:=hf.B7 8 9 7 10 11 12 5
 refine Zy ?_
 refine Zc (y9i w s F7) ?_;rintro e w1 hg
 rw [hp] at hg
 obtain ⟨g,rfl, -, -,n7⟩:=hg
 refine Zv ?_
 iterate 8 refine Zy ?_
 refine Fc.nil (C0 0 4 5 6 hf ?_)
 clear hf s0 bB;intro a7 hf sS
 refine Zx b7 ?_
 have hb:=n7.trans (((Below.refl _ w1).alloc nR (.cells #[.slice none 0 0,.int .u64 0] 38)).mono n7.size)
 refine Ze fun _ b7=>Ze fun _ j8=>Zr [13,14,15,16,17,18,19] hf ?_
 refine C0 0 4 5 20 hf ?_
 clear hf sS;intro a7 hf sS
 refine Zx j8 (Fc.l8 sS.2.2.2 ?_)
 refine Ze fun _ j8=>Zr [] hf ?_
 refine C1 2 3 hf ?_
 clear hf sS;intro a7 hf sS
 refine Zx j8 (k8 ?_)
 exact Fc.U6 rfl hf sS.1 sS.2 ⟨rfl,hb⟩
theorem w2r (w:World) (s:ByteArray) (F7:s.size<=900000000) (en:Nat) (init:Nat) (ss:List State) (hp:Q0 s= .ok (en,init,ss)) (hlen:ss.length<=1000000) (a8:∀ s∈ss,J8 s) (K0:init<y5):Calls Tryz.prog 15 #[.string s] w fun e w1=>w7v w w1 e s en init ss (rightS en ss init):=by
 refine S8 28 Tryz.func15 fun fr hf s0=> ?_
 refine Ze fun _ b7=>Zr [] hf ?_
 refine r6 0 hf ?_
 clear hf s0;intro a7 hf s0
 refine Zt b7 fun _ b7=> ?_
 have bB:=hf.B7 8 9 7 10 11 12 5
 refine Zy ?_
 refine Zc (y9i w s F7) ?_;rintro e w1 hg
 rw [hp] at hg
 obtain ⟨sv,rfl,o7,n7⟩:=hg
 obtain ⟨A,cc,rfl,Z3⟩:=o7.form
 refine Zv ?_
 iterate 8 refine Zy ?_
 refine Fc.nil (C0 0 4 5 6 hf ?_)
 clear hf s0 bB;intro a7 hf sS
 generalize U1:w1.alloc (.cells #[.slice A ss.length cc,.int .u64 init] 38)=W2
 obtain ⟨r9,c0,c1, -, -⟩:=Z8 U1
 replace o7:=o7.later r9
 have hb:=n7.trans (r9.mono n7.size)
 clear U1 n7 r9
 refine Zs b7 fun _ b7=>Ze fun _ j8=>rg ?_
 have bB:=hf.B7 13 14 15 16 17 18 19
 iterate 5 refine Zy ?_
 refine Zd (x2k W2 en _ init ss o7 hlen a8 K0) ?_;rintro e w3 ⟨rfl,D4⟩
 generalize hr:rightS en ss init=r
 have HR:=H9 hr;clear hr
 replace o7:=o7.later D4;replace c0:=cL D4 c0;replace c1:=cL D4 c1;replace hb:=hb.trans (D4.mono hb.size);clear D4
 refine Zv ?_
 iterate 2 refine Zy ?_
 refine Fc.nil (C0 0 4 5 20 hf ?_)
 clear hf sS bB;intro a7 hf sS
 refine Zx j8 (Fc.l0 sS.2.2.2 (fun hq=> ?_) (fun hq=> ?_))
 . (
 have hr:r=false:=by simpa using hq
 clear hq
 subst hr
 refine Ze fun _ j8=>Zr [] hf ?_
 refine C1 2 3 hf ?_
 clear hf sS;intro a7 hf sS
 refine Zx j8 (k8 ?_)
 exact Fc.U6 rfl hf sS.1 sS.2 (by rw [HR.out];exact ⟨rfl,hb⟩))
 . (
 have hr:r=true:=by simpa using hq
 clear hq
 subst hr
 obtain ⟨W4,oQ⟩:∃ x,w3.alloc (.cells #[.slice A ss.length cc,.int .u64 init,.int .i64 en,.int .i64 s.size] 98)=x:=⟨_,rfl⟩
 refine wp_skip (Zs b7 fun _ b7=>Zr [21,22,23,24,25,26,27] hf ?_)
 refine C1 2 3 hf ?_
 clear hf sS;intro a7 hf sS
 try rw [oQ]
 obtain ⟨X6,hS⟩:=cW oQ
 obtain ⟨S,hSq⟩:∃ x,w3.heap.size=x:=⟨_,rfl⟩
 have t9z:w.heap.size<=S:=by rw [<- hSq];exact hb.size
 obtain ⟨s2,s3⟩:=sS
 rw [hSq] at hS s2
 clear hSq oQ
 replace o7:=o7.later X6;replace hb:=hb.trans (X6.mono hb.size)
 refine Zx b7 (k8 ?_)
 exact Fc.U6 rfl hf s2 s3 (by rw [HR.out];exact ⟨S,_,rfl,t9z,hS,o7,hb⟩))
theorem z4l (w:World) (s:ByteArray) (F7:s.size<=900000000) (hlen:∀ en init ss,Q0 s= .ok (en,init,ss)->ss.length<=1000000):Calls Tryz.prog 15 #[.string s] w fun e w1=>gN w w1 e s:=by
 unfold gN
 cases hp:Q0 s with
 | error b=>exact w2s w s F7 b hp
 | ok x =>
  obtain ⟨en,init,ss⟩:=x
  obtain ⟨-,h2,h3, -, -⟩:=wC F7 hp
  exact w2r w s F7 en init ss hp (hlen _ _ _ hp) h2 h3
theorem x9j {w w1:World} {e:Ending} {s:ByteArray} (h:gN w w1 e s):∃ pv cv,e= .returned (.tuple #[pv,cv])/\Below w.heap.size w w1/\((openV s=false/\pv= .pointer none/\cv= .int .i64 12)\/(openV s=true/\∃ S,pv= .pointer (some ⟨S,0,none⟩)/\cv= .int .i64 0)):=by
 unfold gN at h
 unfold openV
 cases hp:Q0 s with
 | error b=>rw [hp] at h;exact ⟨_,_,h.1,h.2,.inl ⟨rfl,rfl,rfl⟩⟩
 | ok x =>
  obtain ⟨en,init,ss⟩:=x
  rw [hp] at h
  simp only at h |-
  cases hr:rightS en ss init with
  | false=>rw [hr] at h;exact ⟨_,_,h.1,h.2,.inl ⟨rfl,rfl,rfl⟩⟩
  | true=>rw [hr] at h;obtain ⟨S,sv,h1,_,_,_,h2⟩:=h;exact ⟨_,_,h1,h2,.inr ⟨rfl,S,rfl,rfl⟩⟩
theorem vF (w:World) (s:ByteArray) (F7:s.size<=900000000) (hlen:∀ en init ss,Q0 s= .ok (en,init,ss)->ss.length<=1000000):G4 w 11 #[.string s] (.bool (!openV s)):=by
 refine S8 16 Tryz.func11 fun fr hf s0=> ?_
 refine Ze fun _ b7=>Zr [] hf ?_
 refine r6 0 hf ?_
 clear hf s0;intro a7 hf s0
 refine Zt b7 fun _ b7=> ?_
 have bB:=hf.B5 6 7 5 8 9
 refine Zy ?_
 refine Zc (z4l w s F7 hlen) ?_;rintro e w1 hg
 obtain ⟨pv,cv,rfl,n7,hh⟩:=x9j hg
 refine Zv ?_
 iterate 5 refine Zy ?_
 refine Fc.nil (C1 3 4 hf ?_)
 clear hf s0 bB;intro a7 hf sS
 refine Zx b7 ?_
 rcases hh with hh | hh
 . (
 obtain ⟨hv,rfl,rfl⟩:=hh
 refine Ze fun _ b7=>Zr [10,11,12,13,14,15] hf ?_
 refine r6 2 hf ?_
 clear hf sS;intro a7 hf s2
 refine Zx b7 (k8 ?_)
 exact Fc.o9 rfl hf s2 ⟨by rw [hv];rfl,n7⟩)
 . (
 obtain ⟨hv,S,rfl,rfl⟩:=hh
 refine Ze fun _ b7=>Zr [10,11,12,13,14,15] hf ?_
 refine r6 2 hf ?_
 clear hf sS;intro a7 hf s2
 refine Zx b7 (k8 ?_)
 exact Fc.o9 rfl hf s2 ⟨by rw [hv];rfl,n7⟩)
theorem w9z (w:World) (S:Nat) (sv:Value) (init:Nat) (en sz:Int) (hS:w.heap[S]? =some (.cells #[sv,.int .u64 init,.int .i64 en,.int .i64 sz] 98 (0,0))):G4 w 19 #[.pointer (some ⟨S,0,none⟩)] (.int .i64 en):=by
 refine S8 9 Tryz.func19 fun fr hf s0=> ?_
 have c0:=n5 0 hS
 have c1:=n5 1 hS
 have c2:=n5 2 hS
 have c3:=n5 3 hS
 simp at c0 c1 c2 c3
 refine Ze fun _ b7=>Zr [] hf ?_
 refine r6 0 hf ?_
 clear hf s0;intro a7 hf s0
 refine Zs b7 fun _ b7=>Ze fun _ j8=>Zr [3] hf ?_
 refine C1 0 4 hf ?_
 clear hf s0;intro a7 hf sS
 refine Zx j8 (Fc.k9 sS.2 ?_)
 refine wp_skip (Zs b7 fun _ b7=>Zr [5,6,7,8] hf ?_)
 refine r6 2 hf ?_
 clear hf sS;intro a7 hf s2
 refine Zx b7 (k8 ?_)
 exact Fc.o9 rfl hf s2 ⟨rfl,Below.refl _ _⟩
theorem v7c (w:World) (S:Nat) (sv:Value) (init:Nat) (en sz:Int) (hS:w.heap[S]? =some (.cells #[sv,.int .u64 init,.int .i64 en,.int .i64 sz] 98 (0,0))) (hsv:∃ A n c,sv= .slice A n c):G4 w 26 #[.pointer (some ⟨S,0,none⟩)] (.agg #[sv,.int .u64 init]):=by
 refine S8 11 Tryz.func26 fun fr hf s0=> ?_
 obtain ⟨A,n,cc,rfl⟩:=hsv
 have c0:=n5 0 hS
 have c1:=n5 1 hS
 have c2:=n5 2 hS
 have c3:=n5 3 hS
 simp at c0 c1 c2 c3
 refine Ze fun _ b7=>Zr [] hf ?_
 refine C1 0 2 hf ?_
 clear hf s0;intro a7 hf sS
 generalize p8:w.alloc (.cells #[.slice none 0 0,.int .u64 0] 38)=W0
 obtain ⟨p9,F1⟩:=cW p8
 have r0:=n5 0 F1;have r1:=n5 1 F1;have f0:=j3 (i:=0) F1;have f1:=j3 (i:=1) F1
 simp at r0 r1
 replace c0:=cL p9 c0
 replace c1:=cL p9 c1
 replace c2:=cL p9 c2
 replace c3:=cL p9 c3
 clear p8
 refine Zs b7 fun _ b7=>Ze fun _ j8=>Zr [3] hf ?_
 refine B1 0 2 4 hf ?_
 clear hf sS;intro a7 hf sS
 refine Zx j8 (Fc.k9 sS.2.2 ?_)
 refine wp_skip (Zs b7 fun _ b7=>Zr [6,7,8,9,10] hf ?_)
 refine r6 2 hf ?_
 clear hf sS;intro a7 hf s2
 refine Zx b7 (k8 ?_)
 exact N9 rfl hf s2 (j5 (j5 F1 _) _) Tryz.underlying38 rfl kR ⟨sP,(p9.setCell (p:=⟨w.heap.size,0,none⟩) nR _).setCell (p:=⟨w.heap.size,1,none⟩) nR _⟩
theorem x2j (w:World) (sv:Value) (init:Nat) (ss:List State) (s:ByteArray) (n:Int) (o7:RS w sv ss) (hs:s.size<=1000000000) (K0:init<y5) (hn:n<=1000000) (hlen:ss.length<=1000000) (a8:∀ s∈ss,J8 s) (D5:∀ (k:Nat) (st:State),ss[k]? =some st->okArcs k (-1) st.a6=true):Calls Tryz.prog 43 #[.agg #[sv,.int .u64 init],.string s,.int .i64 n] w fun e w1=>∃ v,e= .returned v/\OE w1 w.heap.size v (L5 ss init s n)/\Below w.heap.size w w1:=by
 refine lM 12 Tryz.func43 fun fr hf s0 s1 s2=> ?_
 obtain ⟨A,cc,rfl,Z3⟩:=o7.form
 refine Ze fun _ b7=>Zr [] hf ?_
 refine B1 1 2 3 hf ?_
 clear hf s0 s1 s2;intro a7 hf sS
 generalize p8:w.alloc (.cells #[.slice A ss.length cc,.int .u64 init] 96)=W0
 obtain ⟨hb,c0,c1, -, -⟩:=Z8 p8
 clear p8
 replace o7:=o7.later hb
 refine Zt b7 fun _ b7=> ?_
 have bB:=hf.B5 7 8 9 10 11
 iterate 4 refine Zy ?_
 refine Zc (w3j W0 _ init ss s n o7 hs K0 hn hlen a8 D5) ?_;rintro e w1 ⟨v,rfl,how,n7⟩
 refine Zv ?_
 refine Zy ?_
 refine Fc.nil (r6 6 hf ?_)
 clear hf sS bB;intro a7 hf s6
 refine Zx b7 (k8 ?_)
 exact Fc.o9 rfl hf s6 ⟨_,rfl,L8 how hb.size,hb.trans (n7.mono hb.size)⟩
theorem x2i (w:World) (sv:Value) (init:Nat) (ss:List State) (S:Nat) (en sz:Int) (hS:w.heap[S]? =some (.cells #[sv,.int .u64 init,.int .i64 en,.int .i64 sz] 98 (0,0))) (s:ByteArray) (n:Int) (o7:RS w sv ss) (hs:s.size<=1000000000) (K0:init<y5) (hn:n<=1000000) (hlen:ss.length<=1000000) (a8:∀ s∈ss,J8 s) (D5:∀ (k:Nat) (st:State),ss[k]? =some st->okArcs k (-1) st.a6=true):Calls Tryz.prog 24 #[.pointer (some ⟨S,0,none⟩),.string s,.int .i64 n] w fun e w1=>∃ v,e= .returned v/\OE w1 w.heap.size v (L5 ss init s n)/\Below w.heap.size w w1:=by
 refine lM 16 Tryz.func24 fun fr hf s0 s1 s2=> ?_
 obtain ⟨A,cc,rfl,Z3⟩:=o7.form
 have c0:=n5 0 hS
 have c1:=n5 1 hS
 simp at c0 c1
 refine Ze fun _ b7=>Zr [] hf ?_
 refine B1 0 1 2 hf ?_
 clear hf s0 s1 s2;intro a7 hf sS
 refine Zs b7 fun _ b7=>Ze fun _ j8=>Zr [7] hf ?_
 refine C0 0 1 2 8 hf ?_
 clear hf sS;intro a7 hf sS
 refine Zx j8 (Fc.k9 sS.2.2.2 ?_)
 refine wp_skip (Zt b7 fun _ b7=> ?_)
 have bB:=hf.B7 9 10 11 12 13 14 15
 iterate 6 refine Zy ?_
 refine Zc (x2j w _ init ss s n o7 hs K0 hn hlen a8 D5) ?_;rintro e w1 ⟨v,rfl,how,n7⟩
 refine Zv ?_
 refine Zy ?_
 refine Fc.nil (r6 6 hf ?_)
 clear hf sS bB;intro a7 hf s6
 refine Zx b7 (k8 ?_)
 exact Fc.o9 rfl hf s6 ⟨_,rfl,how,n7⟩
theorem v2n (w:World) (sv:Value) (init:Nat) (ss:List State) (S:Nat) (en sz:Int) (hS:w.heap[S]? =some (.cells #[sv,.int .u64 init,.int .i64 en,.int .i64 sz] 98 (0,0))) (o7:RS w sv ss) (K0:init<y5) (hn:en<=1000000) (hlen:ss.length<=1000000) (a8:∀ s∈ss,J8 s) (D5:∀ (k:Nat) (st:State),ss[k]? =some st->okArcs k (-1) st.a6=true):Calls Tryz.prog 16 #[.pointer (some ⟨S,0,none⟩)] w fun e w1=>∃ v,e= .returned v/\OE w1 w.heap.size v (L5 ss init ⟨#[]⟩ en)/\Below w.heap.size w w1:=by
 refine S8 7 Tryz.func16 fun fr hf s0=> ?_
 obtain ⟨A,cc,rfl,Z3⟩:=o7.form
 refine Ze fun _ b7=>Zr [] hf ?_
 refine r6 0 hf ?_
 clear hf s0;intro a7 hf s0
 refine Zt b7 fun _ b7=> ?_
 have bB:=hf.B4 3 4 5 6
 iterate 2 refine Zy ?_
 refine Zc (w9z w S _ init en sz hS) ?_;rintro e w1 ⟨rfl,n7⟩
 replace o7:=o7.later n7
 have hS1:=(n7.block _ (j4 hS)).trans hS
 refine Zv ?_
 refine Zc (x2i w1 _ init ss S en sz hS1 ⟨#[]⟩ en o7 dC K0 hn hlen a8 D5) ?_;rintro e w2 ⟨v,rfl,how,r9⟩
 refine Zv ?_
 refine Zy ?_
 refine Fc.nil (r6 2 hf ?_)
 clear hf s0 bB;intro a7 hf s2
 refine Zx b7 (k8 ?_)
 exact Fc.o9 rfl hf s2 ⟨_,rfl,L8 how n7.size,n7.trans (r9.mono n7.size)⟩
def makeV (es:List z6):ByteArray×Nat:=if es.length=0 then (⟨#[]⟩,2) else if aW es≠0 then (⟨#[]⟩,aW es) else (bl (putR es.length (buildF es).init (buildF es).l3).1,(putR es.length (buildF es).init (buildF es).l3).2)
theorem w2q (w:World) (es:List z6) (B:Nat) (v:Value) (hB:B<=w.heap.size) (cS:RE w B v es) (hlen:es.length<=100) (hes:∀ e∈es,gM e) (K0:(buildF es).init<18446744073709551616) (h0:es.length=0):G4 w 9 #[v] (.tuple #[.string (makeV es).1,.int .i64 (makeV es).2]):=by
 refine S8 28 Tryz.func9 fun fr hf s0=> ?_
 obtain ⟨A,cc,rfl,Z3⟩:=cS.form
 have q1:((es.length:Int)==0)=true:=beq_iff_eq.2 oM
 refine Ze fun _ b7=>Zr [] hf ?_
 refine r6 0 hf ?_
 clear hf s0;intro a7 hf s0
 refine Zs b7 fun _ b7=>Ze fun _ j8=> ?_
 have qs:=q1
 refine Zr [6,7,8,9,10,11,12] hf ?_
 refine C1 0 13 hf ?_
 clear hf s0 qs;intro a7 hf sS
 refine Zx j8 (Fc.l8 sS.2 ?_)
 refine Ze fun _ j8=>Zr [] hf ?_
 refine C1 2 3 hf ?_
 clear hf sS;intro a7 hf sS
 refine Zx j8 (k8 ?_)
 exact Fc.U6 rfl hf sS.1 sS.2 ⟨by unfold makeV;rw [if_pos h0];rfl,Below.refl _ _⟩
theorem w2p (w:World) (es:List z6) (B:Nat) (v:Value) (hB:B<=w.heap.size) (cS:RE w B v es) (hlen:es.length<=100) (hes:∀ e∈es,gM e) (K0:(buildF es).init<18446744073709551616) (h0:¬ es.length=0):G4 w 9 #[v] (.tuple #[.string (makeV es).1,.int .i64 (makeV es).2]):=by
 refine S8 28 Tryz.func9 fun fr hf s0=> ?_
 obtain ⟨A,cc,rfl,Z3⟩:=cS.form
 have q1:((es.length:Int)==0)=false:=beq_eq_false_iff_ne.2 oM
 have q2:decide ((100000:Int)<(es.length:Int))=false:=decide_eq_false oM
 refine Ze fun _ b7=>Zr [] hf ?_
 refine r6 0 hf ?_
 clear hf s0;intro a7 hf s0
 refine Zs b7 fun _ b7=>Ze fun _ j8=> ?_
 have qs:=And.intro q1 q2
 refine Zr [6,7,8,9,10,11,12] hf ?_
 refine C1 0 13 hf ?_
 clear hf s0 qs;intro a7 hf sS
 refine Zx j8 (Fc.k9 sS.2 ?_)
 clear q1 q2
 refine wp_skip (Zt b7 fun _ b7=> ?_)
 have bB:=hf.B6 15 16 14 17 18 4
 refine Zy ?_
 refine Zc (x9i w es B _ hB cS hlen hes) ?_;rintro e w1 ⟨sv,rfl,o7,a8,hsl,n7⟩
 obtain ⟨A2,c2,rfl,hc2⟩:=o7.form
 refine Zv ?_
 iterate 6 refine Zy ?_
 refine Fc.nil (B1 0 4 5 hf ?_)
 clear hf sS bB;intro a7 hf sS
 generalize U1:w1.alloc (.cells #[.slice A2 (buildF es).l3.length c2,.int .u64 (buildF es).init] 38)=W2
 obtain ⟨r9,c0,c1, -, -⟩:=Z8 U1
 replace o7:=o7.later r9
 have hb:=n7.trans (r9.mono n7.size)
 clear U1 n7 r9 cS
 refine Zs b7 fun _ b7=>Ze fun _ j8=>Zr [19] hf ?_
 refine C0 0 4 5 20 hf ?_
 clear hf sS;intro a7 hf sS
 refine Zx j8 (Fc.l0 sS.2.2.2 (fun hq=> ?_) (fun hq=> ?_))
 . (
 have E6:aW es≠0:=by intro h;rw [h] at hq<;>simp at hq
 clear hq
 refine Ze fun _ j8=>Zr [21] hf ?_
 refine C1 2 3 hf ?_
 clear hf sS;intro a7 hf sS
 refine Zx j8 (k8 ?_)
 exact Fc.U6 rfl hf sS.1 sS.2 ⟨by unfold makeV;rw [if_neg h0,if_pos E6],hb⟩)
 . (
 have heq:aW es=0:=by simpa using hq
 clear hq
 refine wp_skip (Zt b7 fun _ b7=> ?_)
 have bB:=hf.B6 22 23 24 25 26 27
 iterate 3 refine Zy ?_
 refine Zc (y2z W2 es.length _ (buildF es).init (buildF es).l3 o7 (fun s hs=>(a8 s hs).ok) oM (fun s hs=>Nat.le_trans (a8 s hs).uG oM) K0) ?_;rintro e w3 ⟨rfl,D4⟩
 have T2:=hb.trans (D4.mono hb.size)
 clear o7 hb D4 c0 c1
 refine Zv ?_
 iterate 4 refine Zy ?_
 refine Fc.nil (C1 2 3 hf ?_)
 clear hf sS bB;intro a7 hf sS
 refine Zx b7 (k8 ?_)
 exact Fc.U6 rfl hf sS.1 sS.2 ⟨by unfold makeV;rw [if_neg h0,if_neg (fun h=>h heq)],T2⟩)
theorem z9g (w:World) (es:List z6) (B:Nat) (v:Value) (hB:B<=w.heap.size) (cS:RE w B v es) (hlen:es.length<=100) (hes:∀ e∈es,gM e) (K0:(buildF es).init<18446744073709551616):G4 w 9 #[v] (.tuple #[.string (makeV es).1,.int .i64 (makeV es).2]):=by
 by_cases h0:es.length=0
 ·exact w2q w es B v hB cS hlen hes K0 h0
 ·exact w2p w es B v hB cS hlen hes K0 h0
end Dw
namespace Crc
def Lk:Nat->Nat->Nat
 | 0,x=>x
 | k+1,x=>Lk k (L x)
theorem x9h:∀ (k x:Nat),Lk k (2^k*x)=x
 | 0,x=>by simp [Lk]
 | k+1,x=>by rw [Lk,show 2^(k+1)*x=2*(2^k*x) by rw [Nat.pow_succ,Nat.mul_comm (2^k) 2,Nat.mul_assoc],cC,x9h k]
theorem x9g:∀ (j k x:Nat),Lk (j+k) x=Lk k (Lk j x)
 | 0,k,x=>by simp [Lk]
 | j+1,k,x=>by rw [show j+1+k=(j+k)+1 by omega,Lk,Lk,x9g j k]
theorem t9y {x:Nat} (h:x<4294967296):L x<4294967296:=by
 unfold L
 split
 ·exact Nat.xor_lt_two_pow (n:=32) oM dC
 ·omega
theorem t9x {x:Nat} (h:x<4294967296) (h0:x≠0):L x≠0:=by
 unfold L
 split
 ·intro e
  have h1:(x / 2^^^y7n).testBit 31=false:=by rw [e];simp
  rw [Nat.testBit_xor,Nat.testBit_lt_two_pow (show x / 2<2^31 by omega)] at h1
  exact absurd h1 dC
 ·omega
theorem w7u:∀ (k:Nat) {x:Nat},x<4294967296->x≠0->Lk k x≠0
 | 0,_,_,h0=>h0
 | k+1,_,h,h0=>w7u k (t9y h) (t9x h h0)
def val:List Nat->Nat
 | []=>0
 | b::l=>b+2*val l
theorem rU:∀ (l:List Nat) (d:Nat),(∀ b∈l,b<2)->l.foldl bit d=Lk l.length (d^^^val l)
 | [],d,_=>by simp [Lk,val]
 | b::l,d,h=>by
  have hb:=h b (List.mem_cons_self ..)
  rw [List.foldl_cons,rU l _ (fun x hx=>h x (List.mem_cons_of_mem _ hx)),List.length_cons,Lk,val,lX _ _ hb]
  have e:b+2*val l=b^^^(2*val l):=by
   rcases (show b=0\/b=1 by omega) with rfl | rfl
   ·simp
   ·refine Nat.eq_of_testBit_eq fun i=> ?_
    rw [Nat.testBit_xor]
    cases i with
    | zero=>simp
    | succ i =>
     rw [Nat.testBit_succ,Nat.testBit_succ,Nat.testBit_succ,show (1+2*val l) / 2=val l by omega,show (1:Nat) / 2=0 by rfl,show 2*val l / 2=val l by omega]
     simp
  rw [e, <- Nat.xor_assoc,y2r (d^^^b) (2*val l),cC]
theorem x9f:∀ (l:List Nat),(∀ b∈l,b<2)->val l<2^l.length
 | [],_=>by simp [val]
 | b::l,h=>by
  have h1:=x9f l fun x hx=>h x (List.mem_cons_of_mem _ hx)
  have h2:=h b (List.mem_cons_self ..)
  rw [val,List.length_cons,Nat.pow_succ]
  omega
theorem iX:∀ (a b:List Nat),val (a++b)=val a+2^a.length*val b
 | [],b=>by simp [val]
 | x::a,b=>by
  rw [List.cons_append,val,val,iX a b,List.length_cons,Nat.pow_succ,Nat.mul_add, <- Nat.mul_assoc,Nat.mul_comm 2 (2^a.length),Nat.add_assoc]
theorem kZ:∀ (l:List Nat),(∀ b∈l,b=0)->val l=0
 | [],_=>rfl
 | b::l,h=>by rw [val,kZ l fun x hx=>h x (List.mem_cons_of_mem _ hx),h b (List.mem_cons_self ..)]
theorem wM:∀ (l:List Nat),val l=0->∀ b∈l,b=0
 | [],_,_,hb=>by cases hb
 | x::l,h,b,hb=>by
  rw [val] at h
  rcases List.mem_cons.1 hb with rfl | hb
  ·omega
  ·exact wM l oM b hb
theorem z2d {l:List Nat} (h:∀ b∈l,b<2) (p:Nat) (hp:∀ i b,l[i]? =some b->i<p\/p+32<=i->b=0) (h0:l.foldl bit 0=0):∀ b∈l,b=0:=by
 rw [rU l 0 h,Nat.zero_xor] at h0
 rcases Nat.lt_or_ge l.length p with hl | hl
 ·intro b hb
  obtain ⟨i,hi⟩:=List.mem_iff_getElem?.1 hb
  exact hp i b hi (.inl (by have:=(E2 hi).1;omega))
 ·have e1:val (l.take p)=0:=kZ _ fun b hb=>by
   obtain ⟨i,hi⟩:=List.mem_iff_getElem?.1 hb
   rw [List.getElem?_take] at hi
   split at hi
   ·exact hp i b hi (.inl (by assumption))
   ·cases hi
  have e2:val ((l.drop p).drop 32)=0:=kZ _ fun b hb=>by
   obtain ⟨i,hi⟩:=List.mem_iff_getElem?.1 hb
   rw [List.drop_drop,List.getElem?_drop] at hi
   exact hp _ b hi (.inr oM)
  have e3:val (l.drop p)<4294967296:=by
   have h5:l.drop p=(l.drop p).take 32++(l.drop p).drop 32:=(List.take_append_drop ..).symm
   rw [h5,iX,e2,Nat.mul_zero,Nat.add_zero]
   refine Nat.lt_of_lt_of_le (x9f _ fun b hb=>h b (List.mem_of_mem_drop (List.mem_of_mem_take hb))) ?_
   exact Nat.le_trans (Nat.pow_le_pow_right oM (by rw [List.length_take];exact Nat.min_le_left ..)) (Nat.le_refl (2^32))
  have e4:val l=2^p*val (l.drop p):=by
   conv=>lhs;rw [<- List.take_append_drop p l]
   rw [iX,e1,Nat.zero_add,List.length_take,Nat.min_eq_left hl]
  have e5:val (l.drop p)=0:=by
   refine Classical.byContradiction fun E6=> ?_
   rw [e4,show l.length=p+(l.length-p) by omega,x9g,x9h] at h0
   exact w7u _ e3 E6 h0
  exact wM l (by rw [e4,e5,Nat.mul_zero])
def cF (c:Nat):List Nat:=[c%2,c / 2%2,c / 4%2,c / 8%2,c / 16%2,c / 32%2,c / 64%2,c / 128%2]
def bitsOf (l:List Nat):List Nat:=l.flatMap cF
theorem P4 (l:List Nat):(bitsOf l).length=8*l.length:=by
 induction l with
 | nil=>rfl
 | cons c l ih=>simp only [bitsOf,List.flatMap_cons,List.length_append,List.length_cons] at ih |-;rw [ih];simp [cF];omega
theorem cG {l:List Nat}:∀ b∈bitsOf l,b<2:=fun b hb=>by
 obtain ⟨c,_,h⟩:=List.mem_flatMap.1 hb
 simp [cF] at h
 omega
theorem rV (l:List Nat):∀ n,run n l=(bitsOf l).foldl bit n:=by
 induction l with
 | nil=>exact fun _=>rfl
 | cons c l ih =>
  intro n
  have e:run n (c::l)=run (byte n c) l:=rfl
  rw [e,ih]
  simp only [bitsOf,List.flatMap_cons,List.foldl_append]
  rfl
theorem z7i:∀ (a b:List Nat) (n m:Nat),a.length=b.length->(∀ x∈a,x<2)->(∀ x∈b,x<2)->a.foldl bit n^^^b.foldl bit m=(List.zipWith (. ^^^ ·) a b).foldl bit (n^^^m)
 | [],[],n,m,_,_,_=>rfl
 | x::a,y::b,n,m,hl,ha,hb=>by
  have hx:=ha x (List.mem_cons_self ..)
  have hy:=hb y (List.mem_cons_self ..)
  rw [List.foldl_cons,List.foldl_cons,z7i a b _ _ (by simpa using hl) (fun z hz=>ha z (List.mem_cons_of_mem _ hz)) (fun z hz=>hb z (List.mem_cons_of_mem _ hz)),List.zipWith_cons_cons,List.foldl_cons]
  congr 1
  have hxy:x^^^y<2:=Nat.xor_lt_two_pow (n:=1) oM oM
  rw [lX _ _ hx,lX _ _ hy,lX _ _ hxy, <- y2r]
  congr 1
  simp only [Nat.xor_assoc]
  congr 1
  rw [<- Nat.xor_assoc x m y,Nat.xor_comm x m,Nat.xor_assoc]
 | [],_::_,_,_,hl,_,_=>by simp at hl
 | _::_,[],_,_,hl,_,_=>by simp at hl
theorem y5o (n:Nat) (h:n<4294967296):val (bitsOf (four n))=n:=by
 simp only [bitsOf,four,cF,List.flatMap_cons,List.flatMap_nil,List.append_nil,List.cons_append,List.nil_append,val]
 omega
theorem z7h {l:List Nat} (h:∀ x∈l,x<256):run 4294967295 (D2 l)=Lk 32 4294967295:=by
 have h1:run 4294967295 (D2 l)=run (run 4294967295 l) (four (sum l)):=by unfold run D2;rw [List.foldl_append]
 have hr:=w5y l h 4294967295 oM
 rw [h1,rV,rU _ _ cG,P4,y5o _ (y2q l)]
 have e:run 4294967295 l^^^sum l=4294967295:=by
  unfold sum
  generalize run 4294967295 l=n at hr
  refine Nat.eq_of_testBit_eq fun i=> ?_
  have h9:=Nat.testBit_two_pow_sub_succ (n:=32) (x:=n) hr i
  have h8:=Nat.testBit_two_pow_sub_one 32 i
  rw [show (2:Nat)^32-(n+1)=4294967295-n by omega] at h9
  rw [show (2:Nat)^32-1=4294967295 by rfl] at h8
  rw [Nat.testBit_xor,h9,h8]
  by_cases hi:i<32
  ·simp [hi]
  ·have h7:n.testBit i=false:=Nat.testBit_lt_two_pow (Nat.lt_of_lt_of_le hr (show 2^32<=2^i from Nat.pow_le_pow_right oM oM))
   simp [hi,h7]
 rw [e]
 rfl
def z7g (l:List Nat) (i:Nat):Nat:=l.getD (i / 8) 0 / 2^(i%8)%2
theorem lB:∀ (l:List Nat) (i:Nat),i<8*l.length->(bitsOf l)[i]? =some (z7g l i)
 | [],i,h=>by simp at h
 | c::l,i,h=>by
  simp only [bitsOf,List.flatMap_cons]
  rcases Nat.lt_or_ge i 8 with h8 | h8
  ·rw [List.getElem?_append_left (by simpa [cF] using h8)]
   unfold z7g
   rw [show i / 8=0 by omega,show i%8=i by omega]
   rcases (show i=0\/i=1\/i=2\/i=3\/i=4\/i=5\/i=6\/i=7 by omega) with rfl | rfl | rfl | rfl | rfl | rfl | rfl | rfl<;>simp [cF]
  ·rw [List.getElem?_append_right (by simpa [cF] using h8)]
   have ih:=lB l (i-8) (by simp only [List.length_cons] at h;omega)
   simp only [bitsOf] at ih
   rw [show (cF c).length=8 from rfl,ih]
   unfold z7g
   rw [show i / 8=(i-8) / 8+1 by omega,show i%8=(i-8)%8 by omega]
   simp
theorem y5n {a b:Nat} (ha:a<256) (hb:b<256) (h:cF a=cF b):a=b:=by
 simp [cF] at h
 omega
theorem rW:∀ {a b:List Nat},(∀ x∈a,x<256)->(∀ x∈b,x<256)->bitsOf a=bitsOf b->a=b
 | [],[],_,_,_=>rfl
 | [],y::b,_,_,h=>by simp [bitsOf,cF] at h
 | x::a,[],_,_,h=>by simp [bitsOf,cF] at h
 | x::a,y::b,ha,hb,h=>by
  simp only [bitsOf,List.flatMap_cons] at h
  have h1:=List.append_inj h rfl
  rw [y5n (ha x (List.mem_cons_self ..)) (hb y (List.mem_cons_self ..)) h1.1,rW (fun z hz=>ha z (List.mem_cons_of_mem _ hz)) (fun z hz=>hb z (List.mem_cons_of_mem _ hz)) h1.2]
theorem t4f {a b:List Nat} (ha:∀ x∈D2 a,x<256) (hb:∀ x∈D2 b,x<256) (hl:(D2 a).length=(D2 b).length) (p:Nat) (h:∀ i,i<8*(D2 a).length->i<p\/p+32<=i->z7g (D2 a) i=z7g (D2 b) i):D2 a=D2 b:=by
 have ra:=z7h (l:=a) fun x hx=>ha x (List.mem_append_left _ hx)
 have rb:=z7h (l:=b) fun x hx=>hb x (List.mem_append_left _ hx)
 generalize D2 a=A at *
 generalize D2 b=B at *
 have hlen:(bitsOf A).length=(bitsOf B).length:=by rw [P4,P4,hl]
 have hx:=z7i (bitsOf A) (bitsOf B) 4294967295 4294967295 hlen cG cG
 rw [<- rV, <- rV,ra,rb,Nat.xor_self,Nat.xor_self] at hx
 have hz:=z2d (l:=List.zipWith (. ^^^ ·) (bitsOf A) (bitsOf B)) (fun c hc=>by
  obtain ⟨i,hi⟩:=List.mem_iff_getElem?.1 hc
  rw [List.getElem?_zipWith] at hi
  cases h1:(bitsOf A)[i]? with
  | none=>simp [h1] at hi
  | some x =>
   cases h2:(bitsOf B)[i]? with
   | none=>simp [h1,h2] at hi
   | some y =>
    simp [h1,h2] at hi
    subst hi
    exact Nat.xor_lt_two_pow (n:=1) (cG x (U0 h1)) (cG y (U0 h2))) p (fun i c hi hp=>by
  have n8:=(E2 hi).1
  rw [List.length_zipWith,P4,P4,hl,Nat.min_self] at n8
  rw [List.getElem?_zipWith,lB A i oM,lB B i n8,h i oM hp] at hi
  simp at hi
  exact hi.symm) hx.symm
 refine rW ha hb (List.ext_getElem? fun i=> ?_)
 rcases Nat.lt_or_ge i (bitsOf A).length with hi | hi
 ·have h2:i<(bitsOf B).length:=oM
  have h3:(List.zipWith (. ^^^ ·) (bitsOf A) (bitsOf B))[i]? =some ((bitsOf A)[i]^^^(bitsOf B)[i]):=by
   rw [List.getElem?_zipWith,D9 hi,D9 h2]
  have h4:=hz _ (U0 h3)
  have h5:(bitsOf A)[i]=(bitsOf B)[i]:=by
   have h6:=congrArg (fun z=>z^^^(bitsOf B)[i]) h4
   simpa [Nat.xor_assoc,Nat.xor_self] using h6
  rw [D9 hi,D9 h2,h5]
 ·rw [List.getElem?_eq_none hi,List.getElem?_eq_none oM]
end Crc
namespace Dw
def OMg (w:World) (g cap:Nat) (l:List Nat):Prop:=∃ cur,w.heap[g]? =some (.cells cur 5 (cap,cap+1))/\l.length<=cap/\cap<=maxLen/\cur.size=cap/\cur.toList.take l.length=oK l
section
variable {w w':World} {base g cap:Nat} {v:Value} {l:List Nat}
theorem OM.gb (h:OM w base v l):∃ g cap,v= .slice (some ⟨g,0,none⟩) l.length cap/\base<=g/\OMg w g cap l:=by
 obtain ⟨g,cap,cur,h1,h2,h3,h4,h5,h6,h7⟩:=h
 exact ⟨g,cap,h1,h2,cur,h3,h4,h5,h6,h7⟩
theorem OMg.om (h:OMg w g cap l) (hb:base<=g):OM w base (.slice (some ⟨g,0,none⟩) l.length cap) l:=by
 obtain ⟨cur,h3,h4,h5,h6,h7⟩:=h
 exact ⟨g,cap,cur,rfl,hb,h3,h4,h5,h6,h7⟩
theorem OMg.lt (h:OMg w g cap l):g<w.heap.size:=by
 obtain ⟨cur,h3,_⟩:=h
 exact j4 h3
theorem OMg.later (h:OMg w g cap l) (hb:Below w.heap.size w w'):OMg w' g cap l:=by
 obtain ⟨cur,h3,h4⟩:=h
 exact ⟨cur,(hb.block g (j4 h3)).trans h3,h4⟩
theorem OMg.cell (h:OMg w g cap l) {i x:Nat} (hi:l[i]? =some x):w.cell? ⟨g,i,none⟩=some (.int .u8 x)/\w.frozen? ⟨g,i,none⟩=false:=by
 obtain ⟨b,v7y,e,_,_,hc,hf⟩:=(h.om (Nat.zero_le g)).cell hi
 injection e with e
 injection e with e
 injection e with e
 subst e
 exact ⟨hc,hf⟩
theorem OMg.set (h:OMg w g cap l) {i:Nat} (hi:i<l.length) (x:Nat):OMg (w.setCell ⟨g,i,none⟩ (.int .u8 x)) g cap (l.set i x):=by
 obtain ⟨cur,h3,h4,h5,h6,h7⟩:=h
 refine ⟨cur.setIfInBounds i (.int .u8 x),j5 h3 _,by rw [List.length_set];exact h4,h5,by rw [Array.size_setIfInBounds];exact h6,?_⟩
 rw [Array.toList_setIfInBounds,List.length_set,List.take_set,h7]
 unfold oK
 rw [List.map_set]
end
theorem mP {es:List z6} (a8:∀ e∈es,gM e/\okW e.word=true/\A7 e=e) (hr:P3 es):(buildF es).init<y5:=by
 rw [jQ a8 hr]
 by_cases hn:es=[]
 ·subst hn;decide
 ·obtain ⟨e,l,rfl⟩:=List.exists_cons_of_ne_nil hn
  have h1:=gB (l:=(e::l).map Y1) (Y1 e) (List.mem_map_of_mem (List.mem_cons_self ..))
  have h2:=xX (a8 e (List.mem_cons_self ..)).1
  have h3:leastV ((e::l).map Y1)<=M9 e:=h1
  unfold y5
  omega
theorem z2c {P:Program} {f:FuncId} {args:Array Value} {w:World} {R:Ending->World->Prop} {p:Prop} (h:Calls P f args w R) (hp:∀ e w',R e w'->p):p:=by
 obtain ⟨e,w',fr,hr,_⟩:=h []
 exact hp _ _ hr
theorem z7f (w:World) (es:List z6) (B:Nat) (v:Value) (hB:B<=w.heap.size) (cS:RE w B v es) (hlen:es.length<=100) (hes:∀ e∈es,gM e):(∀ s∈(buildF es).l3,J8 s/\s.a6.length<=256)/\(buildF es).l3.length<=2+255*es.length :=
 z2c (x9i w es B v hB cS hlen hes) fun e w' ⟨_,_,_,h1,h2,_⟩=>⟨fun s hs=>⟨(h1 s hs).ok,(h1 s hs).uG⟩,h2⟩
theorem z2b {es:List z6} (h:aW es=0) (h0:(makeV es).2=0):0<es.length/\P1 es.length (buildF es).l3=true/\(makeV es).1=bl (Crc.D2 (N0 es.length (buildF es).init (buildF es).l3)):=by
 unfold makeV at h0 |-
 split at h0
 ·cases h0
 ·rename_i hl
  rw [if_neg (fun h2=>h2 h)] at h0
  rw [if_neg hl,if_neg (fun h2=>h2 h)]
  unfold putR at h0 |-
  split at h0
  ·rename_i hm
   refine ⟨oM,hm,?_⟩
   rw [if_pos hm]
   rfl
  ·cases h0
theorem wN {n i:Nat} {f:List State} (h1:∀ s∈f,J8 s) (h2:f.length<=100000) (hn:n<=100000) (hm:P1 n f=true) (hi:i<18446744073709551616):(N0 n i f).length<=800000000:=by
 have h:=(oS hm).2.2.2
 have h3:=eS f 0 h1 h oM
 have h5:=(K4 (n:=n) (by unfold y5;omega)).2
 have h6:=(K4 (n:=f.length) (by unfold y5;omega)).2
 have h7:=(K4 (n:=i) hi).2
 unfold N0
 rw [R8,aH]
 simp only [List.length_append,List.length_cons,List.length_nil]
 omega
theorem z7e {es:List z6} (hc:aW es=0) (h0:(makeV es).2=0) (hf:(∀ s∈(buildF es).l3,J8 s/\s.a6.length<=256)/\(buildF es).l3.length<=2+255*es.length) (hl:es.length<=100) (hi:(buildF es).init<18446744073709551616) :
  ∃ bd,wl (makeV es).1=Crc.D2 bd/\Small bd/\1<=bd.length/\bd.length<=800000000/\Q0 (makeV es).1= .ok (es.length,(buildF es).init,(buildF es).l3):=by
 obtain ⟨h1,h2,h3⟩:=z2b hc h0
 have ho:∀ s∈(buildF es).l3,J8 s:=fun s hs=>(hf.1 s hs).1
 have Z7:=jW ho (oS h2).2.2.2 oM (show es.length<=100000 by omega) hi
 have hp:=pW h2 ho oM hi
 have he:(putR es.length (buildF es).init (buildF es).l3).1=Crc.D2 (N0 es.length (buildF es).init (buildF es).l3):=by unfold putR;rw [if_pos h2];rfl
 rw [he, <- h3,Int.toNat_natCast] at hp
 refine ⟨N0 es.length (buildF es).init (buildF es).l3,?_,Z7,?_,wN ho oM oM h2 hi,hp⟩
 ·rw [h3];exact cB (qN Z7)
 ·unfold N0;simp
end Dw
end Go.Proofs.YtcddnmhmcieebaaGreatDoor
