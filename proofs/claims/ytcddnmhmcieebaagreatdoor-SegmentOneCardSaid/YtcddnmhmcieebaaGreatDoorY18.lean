/- slices.Sort of bytes that rise. -/
import Derived.Test.YtcddnmhmcieebaaGreatDoorY17
import Derived.Test.YtcddnmhmcieebaaGreatDoorTools
import Derived.Test.YtcddnmhmcieebaaGreatDoorY10
import Derived.RangeFuncNested
import Derived.RangeFuncBound
import Derived.RangeFuncCalls
import Derived.RangeFuncLeaves
import Derived.Shelf.Abstract
import Derived.OwnWalkIn
import Derived.TacticsInMore
import Derived.OrdersIn
import Derived.Shelf.RegionOpen
import Derived.LoopNIn
import Derived.LoopIn
import Derived.Maps.AppendAt
import Derived.Sort.LoopGhostIn
import Derived.Sort.CutIn
import Derived.Deep.LoopGhost
import Derived.Deep.RegionHeld3
namespace Go.Proofs.YtcddnmhmcieebaaGreatDoor
set_option maxHeartbeats 4000000
set_option maxRecDepth 100000
open Go.RowKit
set_option linter.unusedSimpArgs false
set_option linter.unusedVariables false
set_option linter.unnecessarySimpa false
namespace Dw
theorem u2k (w:World) (g n c:Nat) (l:List Nat) (hl:l.length=n) (hn:n<=1000000) (hr:RB w g l) (hs:Hid (Z5 l)) (hk:8<=n):Calls Tryz.prog 181 #[.slice (some ⟨g,0,none⟩) n c,.int .i64 0,.int .i64 n] w fun e w1=>(∃ p:Int,e= .returned (.tuple #[.int .i64 p,.int .i64 1]))/\Below w.heap.size w w1:=by
 rcases Nat.lt_or_ge n 50 with h | h
 ·exact y6l w g n c l hl hn hr hs ⟨hk,h⟩
 ·exact x3o w g n c l hl hn hr hs h
theorem z2w {n:Nat} (h:0<n):(Lib.bitLen (n:Int).toNat:Int)≠0:=by
 rw [Int.toNat_natCast]
 show ((Lib.bitLenAux (63+1) n:Nat):Int)≠0
 rw [Lib.bitLenAux]
 split<;>omega
theorem u2j (w:World) (g n c:Nat) (l:List Nat) (hl:l.length=n) (hn:n<=1000000) (hr:RB w g l) (hs:Hid (Z5 l)) (h1n:1<=n):G4 w 183 #[.slice (some ⟨g,0,none⟩) n c,.int .i64 0,.int .i64 n] (.bool true):=by
 refine lM 133 Tryz.func183 fun fr hf s0 s1 s2=> ?_
 refine Ze fun _ b7=>Zr [] hf ?_
 refine B1 0 1 2 hf ?_
 clear hf s0 s1 s2;intro a7 hf sS
 refine Zt b7 fun _ b7=> ?_
 have bB:=hf.B2 11 12
 refine Zy ?_
 refine fp fun K Z=> ?_
 go_simp
 try simp (disch:=omega) only [Fc.W]
 try rw [show IntKind.i64.wrap ((0:Int)+1)=1 by decide]
 apply Z.out;clear Z K
 refine Zy ?_
 refine Fc.nil (C0 0 1 2 7 hf ?_)
 clear hf sS bB;intro a7 hf sS
 refine Zs b7 fun _ b7=>Ze fun _ j8=>Zr [] hf ?_
 refine D0 0 1 2 7 8 hf ?_
 clear hf sS;intro a7 hf sS
 refine Zx j8 (wp_block (wp_loop_ghost (fun gk fr wr=>Fc.Fr 133 fr/\fr.tmps[0]? =some (.slice (some ⟨g,0,none⟩) n c)/\fr.tmps[1]? =some (.int .i64 0)/\fr.tmps[2]? =some (.int .i64 n)/\fr.tmps[7]? =some (.int .i64 1)/\fr.tmps[8]? =some (.int .i64 0)/\wr=w) (0) ?_ ?_))
 . (
 obtain ⟨s0,s1,s2,s7,s8⟩:=sS
 exact ⟨hf,s0,s1,s2,s7,s8,rfl⟩)
 . (
 clear hf sS
 rintro gk fr wr ⟨hf,s0,s1,s2,s7,s8,hwr⟩
 subst hwr
 refine Ze fun _ j8=>Ze fun _ l6=>Zr [13] hf ?_
 refine J3 0 1 2 7 8 14 hf ?_
 clear hf s0 s1 s2 s7 s8;intro a7 hf sS
 refine Zx l6 (Fc.l8 sS.2.2.2.2.2 ?_)
 refine wp_skip (Zs j8 fun _ j8=>wp_block (Ze fun _ l6=>wp_block (wp_loop_ghost (fun nJ fr w2=>∃ (i:Nat),nJ=n-i/\1<=i/\i<=n/\Fc.Fr 133 fr/\fr.tmps[0]? =some (.slice (some ⟨g,0,none⟩) n c)/\fr.tmps[1]? =some (.int .i64 0)/\fr.tmps[2]? =some (.int .i64 n)/\fr.tmps[7]? =some (.int .i64 i)/\fr.tmps[8]? =some (.int .i64 0)/\Below wr.heap.size wr w2) (n-1) ?_ ?_)))
 . (
 obtain ⟨s0,s1,s2,s7,s8,fW⟩:=sS
 exact ⟨1,rfl,nR,h1n,hf,s0,s1,s2,s7,s8,Below.refl _ _⟩)
 . (
 clear hf sS
 rintro nJ fr w2 ⟨i,M5,hi1,K0,hf,s0,s1,s2,s7,s8,hb⟩
 have HK:=H9 M5;clear M5
 rcases Nat.lt_or_ge i n with n8 | nL
 . (
 obtain ⟨p,hp⟩:∃ p,i=p+1:=⟨i-1,oM⟩
 have yJ:=hr.later hb
 obtain ⟨xi,eA⟩:∃ x,l[p]? =some x:=⟨_,D9 oM⟩
 obtain ⟨xj,mF⟩:∃ x,l[p+1]? =some x:=⟨_,D9 oM⟩
 have ci:=yJ _ _ eA;have cj:=yJ _ _ mF
 have dU:=hs.out _ _ _ _ oM eA mF
 clear eA mF
 have HIJ:=H9 dU;clear dU
 have e4:IntKind.i64.wrap ((i:Int)-1)=(p:Int):=by rw [Fc.wrap_i64 oM oM];omega
 rw [<- hp] at cj
 have HP:=H9 hp;clear hp yJ
 have q1:decide (i<n)=true:=decide_eq_true n8
 have q5:decide ((i:Int)<(n:Int))=true:=decide_eq_true oM
 refine Ze fun _ N4=>Ze fun _ U3=>Sb.tb 133 fun a8=> ?_
 refine Sb.mO 0 s7 hf a8 ?_
 refine Sb.mO 1 s2 hf a8 ?_
 refine Sb.T 2 hf a8 ?_
 refine Sb.mN 3 2 0 hf a8 [] ?_
 refine Sb.Tg 4 hf a8 ?_ (hF:=fun _ _ h d=>Sb.O h s0)
 refine Sb.Tg 5 hf a8 ?_ (hF:=fun _ _ h d=>Sb.O h s7)
 refine Sb.Tg 6 hf a8 ?_
 apply Sb.tr 7 _ hf a8
 . (
 intro a7 w1 hh hd hk K Z
 have M6:=Sb.v 3 3 hd hk []
 refine Sb.g M6 ?_
 have S1:=Sb.v 6 0 hd hk []
 clear hd
 replace ci:=cL hh.ext ci
 replace cj:=cL hh.ext cj
 go_simp
 try rw [if_pos (by have:=HP.out;omega)]
 exact Sb.k Z)
 refine Sb.Tg 8 hf a8 ?_ (hF:=fun _ _ h d=>Sb.O h s0)
 refine Sb.Tg 9 hf a8 ?_ (hF:=fun _ _ h d=>Sb.O h s7)
 apply Sb.tr 10 _ hf a8
 . (
 intro a7 w1 hh hd hk K Z
 have M6:=Sb.v 3 6 hd hk []
 refine Sb.g M6 ?_
 have Z1:=Sb.v 9 0 hd hk []
 clear hd
 go_simp
 try simp (disch:=omega) only [Fc.W]
 try rw [e4]
 exact Sb.k Z)
 apply Sb.tr 11 _ hf a8
 . (
 intro a7 w1 hh hd hk K Z
 have M6:=Sb.v 3 7 hd hk []
 refine Sb.g M6 ?_
 have bQ:=Sb.v 8 2 hd hk []
 have V0:=Sb.v 10 0 hd hk []
 clear hd
 go_simp
 try rw [if_pos (by have:=HP.out;omega)]
 exact Sb.k Z)
 refine Sb.Tg 12 hf a8 ?_ (hF:=fun _ _ h d=>ad (cL h.ext ci) (cL h.ext cj))
 apply Sb.tr 13 _ hf a8
 . (
 intro a7 w1 hh hd hk K Z
 have M6:=Sb.v 3 9 hd hk []
 refine Sb.g M6 ?_
 have gF:=Sb.v 7 5 hd hk []
 have bG:=Sb.v 12 0 hd hk []
 clear hd
 replace ci:=cL hh.ext ci
 replace cj:=cL hh.ext cj
 go_simp
 go_at_call 184;refine (y0y w1 xj xi).mono ?_;rintro e w2 ⟨rfl,rfl⟩
 rw [decide_eq_false (show ¬ xj<xi by have:=HIJ.out;omega)]
 exact Sb.k Z)
 refine Sb.Tg 14 hf a8 ?_
 refine Sb.T 15 hf a8 ?_
 refine Sb.E hf a8 (fun _ _ h g=>ad (Sb.O h s0) (ad (Sb.O h s1) (ad (Sb.O h s2) (ad (Sb.O h s7) (ad (Sb.O h s8) (Sb.f 15 0 g)))))) ?_
 clear hf a8 s0 s1 s2 s7 s8;intro a7 w1 hf hx sS
 replace ci:=cL hx ci
 replace cj:=cL hx cj
 refine Zx U3 (Fc.l8 sS.2.2.2.2.2 ?_)
 clear q1 q5 e4
 refine wp_skip (Zx N4 (wp_block (Zr [33,34] hf ?_)))
 refine D0 0 1 2 7 8 hf ?_
 clear hf sS;intro a7 hf sS
 refine Fc.j7 (Fc.j6 ?_)
 obtain ⟨s0,s1,s2,s7,s8⟩:=sS
 exact ⟨_,by have:=HK.out;omega,i+1,rfl,oM,oM,hf,s0,s1,s2,by rw [s7];rfl,s8,hb.trans (hx.mono hb.size)⟩)
 . (
 have F3:i=n:=oM
 have q1:decide (i<n)=false:=decide_eq_false oM
 have q5:decide ((i:Int)<(n:Int))=false:=decide_eq_false oM
 refine Ze fun _ N4=>Ze fun _ U3=>Sb.tb 133 fun a8=> ?_
 refine Sb.mO 0 s7 hf a8 ?_
 refine Sb.mO 1 s2 hf a8 ?_
 refine Sb.T 2 hf a8 ?_
 refine Sb.mN 3 2 0 hf a8 [] ?_
 refine Sb.Tk 4 hf a8 ?_
 refine Sb.Tk 5 hf a8 ?_
 refine Sb.Tk 6 hf a8 ?_
 apply Sb.tr 7 _ hf a8
 . (
 intro a7 w1 hh hd hk K Z
 have M6:=Sb.v 3 3 hd hk []
 refine Sb.sk M6 ?_
 exact Sb.k Z)
 refine Sb.Tk 8 hf a8 ?_
 refine Sb.Tk 9 hf a8 ?_
 apply Sb.tr 10 _ hf a8
 . (
 intro a7 w1 hh hd hk K Z
 have M6:=Sb.v 3 6 hd hk []
 refine Sb.sk M6 ?_
 exact Sb.k Z)
 apply Sb.tr 11 _ hf a8
 . (
 intro a7 w1 hh hd hk K Z
 have M6:=Sb.v 3 7 hd hk []
 refine Sb.sk M6 ?_
 exact Sb.k Z)
 refine Sb.Tk 12 hf a8 ?_
 apply Sb.tr 13 _ hf a8
 . (
 intro a7 w1 hh hd hk K Z
 have M6:=Sb.v 3 9 hd hk []
 refine Sb.sk M6 ?_
 exact Sb.k Z)
 refine Sb.Tk 14 hf a8 ?_
 refine Sb.T 15 hf a8 ?_
 refine Sb.E hf a8 (fun _ _ h g=>ad (Sb.O h s0) (ad (Sb.O h s1) (ad (Sb.O h s2) (ad (Sb.O h s7) (ad (Sb.O h s8) (Sb.f 15 0 g)))))) ?_
 clear hf a8 s0 s1 s2 s7 s8;intro a7 w1 hf hx sS
 refine Zx U3 (Fc.k9 sS.2.2.2.2.2 ?_)
 clear q1 q5
 subst F3
 refine Zo ?_
 refine Zs l6 fun _ l6=>Ze fun _ N4=>Zr [35,36] hf ?_
 refine J3 0 1 2 7 8 37 hf ?_
 clear hf sS;intro a7 hf sS
 refine Zx N4 (Fc.l8 sS.2.2.2.2.2 ?_)
 refine Ze fun _ N4=>Zr [] hf ?_
 refine r6 6 hf ?_
 clear hf sS;intro a7 hf s6
 refine Zx N4 (k8 ?_)
 exact Fc.o9 rfl hf s6 ⟨rfl,hb.trans (hx.mono hb.size)⟩)))
theorem x3n (w:World) (A:Option Addr) (g n c:Nat) (l:List Nat) (hl:l.length=n) (hn:n<=1000000) (hr:RB w g l) (hs:Hid (Z5 l)) (hA:0<n->A=some ⟨g,0,none⟩) (lim:Int) (hk:n<=12):G4 w 174 #[.slice A n c,.int .i64 0,.int .i64 n,.int .i64 lim] (.tuple #[]):=by
 refine Zn4 134 Tryz.func174 fun fr hf s0 s1 s2 s3=> ?_
 have z0:IntKind.i64.wrap ((n:Int)-0)=(n:Int):=by rw [Fc.wrap_i64 oM oM];omega
 refine Ze fun _ b7=>Zr [] hf ?_
 refine D0 0 1 2 3 8 hf ?_
 clear hf s0 s1 s2 s3;intro a7 hf sS
 refine Zs b7 fun _ b7=>Zr [] hf ?_
 refine J3 0 1 2 3 8 9 hf ?_
 clear hf sS;intro a7 hf sS
 refine Zx b7 (wp_block (wp_loop_ghost (fun gk fr wr=>Fc.Fr 134 fr/\fr.tmps[0]? =some (.slice A n c)/\fr.tmps[1]? =some (.int .i64 0)/\fr.tmps[2]? =some (.int .i64 n)/\fr.tmps[3]? =some (.int .i64 lim)/\fr.tmps[8]? =some (.bool true)/\fr.tmps[9]? =some (.bool true)/\wr=w) (0) ?_ ?_))
 . (
 obtain ⟨s0,s1,s2,s3,s8,s9⟩:=sS
 exact ⟨hf,s0,s1,s2,s3,s8,s9,rfl⟩)
 . (
 clear hf sS
 rintro gk fr wr ⟨hf,s0,s1,s2,s3,s8,s9,hwr⟩
 subst hwr
 have q1:decide ((n:Int)<=12)=true:=decide_eq_true oM
 have q2:decide (n<=12)=true:=decide_eq_true oM
 refine wp_block (Ze fun _ b7=>rg ?_)
 have bB:=hf.B3 19 20 21
 iterate 2 refine Zy ?_
 refine fp fun K Z=> ?_
 go_simp
 try simp (disch:=omega) only [Fc.W]
 try rw [z0]
 apply Z.out;clear Z K
 refine Zy ?_
 refine Fc.nil (cP 0 1 2 3 8 9 10 hf ?_)
 clear hf s0 s1 s2 s3 s8 s9 bB;intro a7 hf sS
 refine Zs b7 fun _ b7=>Ze fun _ j8=>Zr [22] hf ?_
 refine nM 0 1 2 3 8 9 10 23 hf ?_
 clear hf sS;intro a7 hf sS
 refine Zx j8 (Fc.l8 sS.2.2.2.2.2.2.2 ?_)
 refine Ze fun _ j8=>rg ?_
 have bB:=hf.B3 24 25 26
 iterate 3 refine Zy ?_
 refine fp fun K Z=> ?_
 go_simp
 go_at_call 178;refine (u2l wr A g n c l hl hn hr hs hA).mono ?_;rintro e w1 ⟨rfl,n7⟩
 try dsimp only
 apply Z.out;clear Z K
 refine Fc.nil (Zq0 hf ?_)
 clear hf sS bB;intro a7 hf
 refine Zx j8 (k8 ?_)
 exact Fc.w6f rfl hf ⟨rfl,n7⟩)
theorem y0v (w:World) (A:Option Addr) (g n c:Nat) (l:List Nat) (hl:l.length=n) (hn:n<=1000000) (hr:RB w g l) (hs:Hid (Z5 l)) (hA:0<n->A=some ⟨g,0,none⟩) (lim:Int) (hk:12<n) (y6k:lim≠0):G4 w 174 #[.slice A n c,.int .i64 0,.int .i64 n,.int .i64 lim] (.tuple #[]):=by
 refine Zn4 134 Tryz.func174 fun fr hf s0 s1 s2 s3=> ?_
 have z0:IntKind.i64.wrap ((n:Int)-0)=(n:Int):=by rw [Fc.wrap_i64 oM oM];omega
 refine Ze fun _ b7=>Zr [] hf ?_
 refine D0 0 1 2 3 8 hf ?_
 clear hf s0 s1 s2 s3;intro a7 hf sS
 refine Zs b7 fun _ b7=>Zr [] hf ?_
 refine J3 0 1 2 3 8 9 hf ?_
 clear hf sS;intro a7 hf sS
 refine Zx b7 (wp_block (wp_loop_ghost (fun gk fr wr=>Fc.Fr 134 fr/\fr.tmps[0]? =some (.slice A n c)/\fr.tmps[1]? =some (.int .i64 0)/\fr.tmps[2]? =some (.int .i64 n)/\fr.tmps[3]? =some (.int .i64 lim)/\fr.tmps[8]? =some (.bool true)/\fr.tmps[9]? =some (.bool true)/\wr=w) (0) ?_ ?_))
 . (
 obtain ⟨s0,s1,s2,s3,s8,s9⟩:=sS
 exact ⟨hf,s0,s1,s2,s3,s8,s9,rfl⟩)
 . (
 clear hf sS
 rintro gk fr wr ⟨hf,s0,s1,s2,s3,s8,s9,hwr⟩
 subst hwr
 have q1:decide ((n:Int)<=12)=false:=decide_eq_false oM
 have q2:decide (n<=12)=false:=decide_eq_false oM
 refine wp_block (Ze fun _ b7=>rg ?_)
 have bB:=hf.B3 19 20 21
 iterate 2 refine Zy ?_
 refine fp fun K Z=> ?_
 go_simp
 try simp (disch:=omega) only [Fc.W]
 try rw [z0]
 apply Z.out;clear Z K
 refine Zy ?_
 refine Fc.nil (cP 0 1 2 3 8 9 10 hf ?_)
 clear hf s0 s1 s2 s3 s8 s9 bB;intro a7 hf sS
 refine Zs b7 fun _ b7=>Ze fun _ j8=>Zr [22] hf ?_
 refine nM 0 1 2 3 8 9 10 23 hf ?_
 clear hf sS;intro a7 hf sS
 refine Zx j8 (Fc.k9 sS.2.2.2.2.2.2.2 ?_)
 have q3:((lim:Int)==0)=false:=beq_eq_false_iff_ne.2 y6k
 refine wp_skip (Zs b7 fun _ b7=>Ze fun _ j8=>Zr [28] hf ?_)
 refine nM 0 1 2 3 8 9 10 29 hf ?_
 clear hf sS;intro a7 hf sS
 refine Zx j8 (Fc.k9 sS.2.2.2.2.2.2.2 ?_)
 clear q1 q2 q3
 obtain rfl:=hA oM
 refine wp_skip (Zs b7 fun _ b7=>Ze fun _ j8=>Zr [34] hf ?_)
 refine nM 0 1 2 3 8 9 10 35 hf ?_
 clear hf sS;intro a7 hf sS
 refine Zx j8 (Fc.k9 sS.2.2.2.2.2.2.2 ?_)
 refine wp_skip (Zt b7 fun _ b7=> ?_)
 have bB:=hf.B7 43 44 45 46 42 47 48
 iterate 3 refine Zy ?_
 refine Zc (u2k wr g n c l hl hn hr hs oM) ?_;rintro e w1 ⟨⟨pv,rfl⟩,n7⟩
 have hr1:=hr.later n7
 refine Zv ?_
 iterate 5 refine Zy ?_
 refine Fc.nil (vE 0 1 2 3 8 9 10 11 12 hf ?_)
 clear hf sS bB;intro a7 hf sS
 refine Zs b7 fun _ b7=>Ze fun _ j8=>Zr [49] hf ?_
 refine nT 0 1 2 3 8 9 10 11 12 50 hf ?_
 clear hf sS;intro a7 hf sS
 refine Zx j8 (Fc.k9 sS.2.2.2.2.2.2.2.2.2 ?_)
 refine wp_skip (Zs b7 fun _ b7=>Ze fun _ j8=>Zr [61,62,63,64,65,66,67] hf ?_)
 refine vE 0 1 2 3 8 9 10 11 68 hf ?_
 clear hf sS;intro a7 hf sS
 refine Zx j8 (Fc.l8 sS.2.2.2.2.2.2.2.2 ?_)
 refine Ze fun _ j8=>rg ?_
 have bB:=hf.B3 69 70 71
 iterate 3 refine Zy ?_
 refine Zc (u2j w1 g n c l hl hn hr1 hs oM) ?_;rintro e w2 ⟨rfl,r9⟩
 refine Zv ?_
 refine Fc.nil (vE 0 1 2 3 8 9 10 11 72 hf ?_)
 clear hf sS bB;intro a7 hf sS
 refine Zx j8 (Fc.l8 sS.2.2.2.2.2.2.2.2 ?_)
 refine k8 ?_
 exact Fc.w6f rfl hf ⟨rfl,n7.trans (r9.mono n7.size)⟩)
theorem u2i (w:World) (A:Option Addr) (g n c:Nat) (l:List Nat) (hl:l.length=n) (hn:n<=1000000) (hr:RB w g l) (hs:Hid (Z5 l)) (hA:0<n->A=some ⟨g,0,none⟩) (lim:Int) (y6k:12<n->lim≠0):G4 w 174 #[.slice A n c,.int .i64 0,.int .i64 n,.int .i64 lim] (.tuple #[]):=by
 rcases Nat.lt_or_ge 12 n with h | h
 ·exact y0v w A g n c l hl hn hr hs hA lim h (y6k h)
 ·exact x3n w A g n c l hl hn hr hs hA lim h
theorem v4n (w:World) (A:Option Addr) (g n c:Nat) (l:List Nat) (hl:l.length=n) (hn:n<=1000000) (hr:RB w g l) (hs:Hid (Z5 l)) (hA:0<n->A=some ⟨g,0,none⟩):G4 w 167 #[.slice A n c] (.tuple #[]):=by
 refine S8 11 Tryz.func167 fun fr hf s0=> ?_
 refine Ze fun _ b7=>Zr [3,4] hf ?_
 refine C1 0 2 hf ?_
 clear hf s0;intro a7 hf sS
 refine Zx b7 (rg ?_)
 have bB:=hf.B5 5 6 7 8 9
 iterate 3 refine Zy ?_
 refine fp fun K Z=> ?_
 go_simp
 try rw [Fc.wrap_u64 oM oM]
 apply Z.out;clear Z K
 refine Zc ((Tryz.bits_Len (n:Int) w oM oM)) ?_;rintro e w1 ⟨rfl,hw1⟩
 subst w1
 generalize y6k:Lib.bitLen (n:Int).toNat=lim
 have HL:=H9 y6k;clear y6k
 refine Zv ?_
 refine Zc (u2i w A g n c l hl hn hr hs hA lim (fun h=>by rw [<- HL.out];exact z2w oM)) ?_;rintro e w2 ⟨rfl,r9⟩
 refine Zv ?_
 refine Fc.nil (Zq0 hf ?_)
 clear hf sS bB;intro a7 hf
 exact Fc.pZ rfl hf ⟨rfl,r9⟩
theorem x3m (w:World) (A:Option Addr) (g n c:Nat) (l:List Nat) (hl:l.length=n) (hn:n<=1000000) (hr:RB w g l) (hs:Hid (Z5 l)) (hA:0<n->A=some ⟨g,0,none⟩) (hk:n<2):G4 w 168 #[.slice A n c] (.slice A n c):=by
 refine S8 61 Tryz.func168 fun fr hf s0=> ?_
 have q1:decide ((n:Int)<2)=true:=decide_eq_true oM
 have q2:decide (n<2)=true:=decide_eq_true oM
 refine Ze fun _ b7=>Zr [] hf ?_
 refine r6 0 hf ?_
 clear hf s0;intro a7 hf s0
 refine Zs b7 fun _ b7=>Ze fun _ j8=>Zr [6,7] hf ?_
 refine C1 0 8 hf ?_
 clear hf s0;intro a7 hf sS
 refine Zx j8 (Fc.l8 sS.2 ?_)
 refine Ze fun _ j8=>Zr [9] hf ?_
 refine r6 2 hf ?_
 clear hf sS;intro a7 hf s2
 refine Zx j8 (k8 ?_)
 exact Fc.o9 rfl hf s2 ⟨rfl,Below.refl _ _⟩
theorem x3l (w:World) (A:Option Addr) (g n c:Nat) (l:List Nat) (hl:l.length=n) (hn:n<=1000000) (hr:RB w g l) (hs:Hid (Z5 l)) (hA:0<n->A=some ⟨g,0,none⟩) (hk:2<=n):G4 w 168 #[.slice A n c] (.slice A n c):=by
 refine S8 61 Tryz.func168 fun fr hf s0=> ?_
 have q1:decide ((n:Int)<2)=false:=decide_eq_false oM
 have q2:decide (n<2)=false:=decide_eq_false oM
 refine Ze fun _ b7=>Zr [] hf ?_
 refine r6 0 hf ?_
 clear hf s0;intro a7 hf s0
 refine Zs b7 fun _ b7=>Ze fun _ j8=>Zr [6,7] hf ?_
 refine C1 0 8 hf ?_
 clear hf s0;intro a7 hf sS
 refine Zx j8 (Fc.k9 sS.2 ?_)
 clear q1 q2
 obtain rfl:=hA oM
 refine wp_skip (Zs b7 fun _ b7=>Ze fun _ j8=>Zr [] hf ?_)
 refine C1 0 3 hf ?_
 clear hf sS;intro a7 hf sS
 refine Zx j8 (wp_block (wp_loop_ghost (fun gk fr wr=>∃ (i:Nat),gk=n-i/\1<=i/\i<=n/\Fc.Fr 61 fr/\fr.tmps[0]? =some (.slice (some ⟨g,0,none⟩) n c)/\fr.tmps[3]? =some (.int .i64 i)/\Below w.heap.size w wr) (n-1) ?_ ?_))
 . (
 exact ⟨1,rfl,nR,oM,hf,sS.1,sS.2,Below.refl _ _⟩)
 . (
 clear hf sS
 rintro gk fr wr ⟨i,hk,hi1,K0,hf,s0,s3,hb⟩
 have HK:=H9 hk;clear hk
 refine Ze fun _ j8=>Ze fun _ l6=>Zr [10,11,12] hf ?_
 refine B1 0 3 13 hf ?_
 clear hf s0 s3;intro a7 hf sS
 refine Zx l6 (Fc.l0 sS.2.2 (fun hq=> ?_) (fun hq=> ?_))
 . (
 have n8:i<n:=qT
 clear hq
 obtain ⟨p,hp⟩:∃ p,i=p+1:=⟨i-1,oM⟩
 have yJ:=hr.later hb
 obtain ⟨xi,eA⟩:∃ x,l[p]? =some x:=⟨_,D9 oM⟩
 obtain ⟨xj,mF⟩:∃ x,l[p+1]? =some x:=⟨_,D9 oM⟩
 have ci:=yJ _ _ eA;have cj:=yJ _ _ mF
 have dU:=hs.out _ _ _ _ oM eA mF
 clear eA mF
 have HIJ:=H9 dU;clear dU
 have e4:IntKind.i64.wrap ((i:Int)-1)=(p:Int):=by rw [Fc.wrap_i64 oM oM];omega
 rw [<- hp] at cj
 have HP:=H9 hp;clear hp yJ
 have q3:(((xj:Nat):Int)==((xi:Nat):Int))=false:=beq_eq_false_iff_ne.2 (by have:=HIJ.out;omega)
 refine wp_skip (Zs j8 fun _ j8=>wp_block (Ze fun _ l6=> ?_))
 obtain ⟨s0,s3,J0⟩:=sS
 refine Sb.tb 61 fun a8=> ?_
 refine Sb.mO 0 s0 hf a8 ?_
 refine Sb.mO 1 s3 hf a8 ?_
 apply Sb.tq 2 _ hf a8
 . (
 intro a7 w1 hh hd hk K Z
 have tZ:=Sb.v 0 1 hd hk []
 have N7:=Sb.v 1 0 hd hk []
 clear hd
 go_simp
 try rw [if_pos (by have:=HP.out;omega)]
 exact Sb.k Z)
 refine Sb.T 3 hf a8 ?_ (hF:=fun _ _ h d=>ad (cL h.ext ci) (cL h.ext cj))
 refine Sb.mO 4 s0 hf a8 ?_
 refine Sb.mO 5 s3 hf a8 ?_
 apply Sb.tq 6 _ hf a8
 . (
 intro a7 w1 hh hd hk K Z
 have N6:=Sb.v 5 0 hd hk []
 clear hd
 go_simp
 try simp (disch:=omega) only [Fc.W]
 try rw [e4]
 exact Sb.k Z)
 apply Sb.tq 7 _ hf a8
 . (
 intro a7 w1 hh hd hk K Z
 have M6:=Sb.v 4 2 hd hk []
 have U9:=Sb.v 6 0 hd hk []
 clear hd
 go_simp
 try rw [if_pos (by have:=HP.out;omega)]
 exact Sb.k Z)
 refine Sb.T 8 hf a8 ?_ (hF:=fun _ _ h d=>ad (cL h.ext ci) (cL h.ext cj))
 apply Sb.tq 9 _ hf a8
 . (
 intro a7 w1 hh hd hk K Z
 have J6:=Sb.v 3 5 hd hk []
 have gF:=Sb.v 8 0 hd hk []
 clear hd
 go_simp
 try rw [q3]
 exact Sb.k Z)
 refine Sb.E hf a8 (fun _ _ h g=>ad (Sb.O h s0) (ad (Sb.O h s3) (Sb.f 9 0 g))) ?_
 clear hf a8 s0 s3 J0;intro a7 w1 hf hx sS
 replace ci:=cL hx ci
 replace cj:=cL hx cj
 refine Zx l6 (Fc.k9 sS.2.2 ?_)
 clear q3 e4
 refine wp_skip (Fc.j7 (Zx j8 (Zr [14,15] hf ?_)))
 refine C1 0 3 hf ?_
 clear hf sS;intro a7 hf sS
 refine Fc.j6 ?_
 exact ⟨_,by have:=HK.out;omega,i+1,rfl,oM,oM,hf,sS.1,by rw [sS.2];rfl,hb.trans (hx.mono hb.size)⟩)
 . (
 clear hq
 refine Zo ?_
 refine Zs b7 fun _ b7=>Zr [60] hf ?_
 refine r6 2 hf ?_
 clear hf sS;intro a7 hf s2
 refine Zx b7 (k8 ?_)
 exact Fc.o9 rfl hf s2 ⟨rfl,hb⟩))
theorem v4m (w:World) (A:Option Addr) (g n c:Nat) (l:List Nat) (hl:l.length=n) (hn:n<=1000000) (hr:RB w g l) (hs:Hid (Z5 l)) (hA:0<n->A=some ⟨g,0,none⟩):G4 w 168 #[.slice A n c] (.slice A n c):=by
 rcases Nat.lt_or_ge n 2 with h | h
 ·exact x3m w A g n c l hl hn hr hs hA h
 ·exact x3l w A g n c l hl hn hr hs hA h
theorem C3 {i:Nat} {last:Int}:∀ {l:List r7},okArcs i last l=true->∀ {a:r7},a∈l->0<=a.to/\a.to<(i:Int):=fun h a ha=>N8 _ i last h a ha
theorem fJ {i:Nat}:∀ (l:List r7) (last:Int),okArcs i last l=true->∀ a∈l,last<(a.byte:Int)
 | [],_,_,a,ha=>by cases ha
 | x::l,last,h,a,ha=>by
  simp only [okArcs,Bool.and_eq_true,decide_eq_true_eq] at h
  rcases List.mem_cons.1 ha with rfl | ha
  ·exact h.1.2
  ·have:=fJ l _ h.2 a ha
   omega
theorem mG {i:Nat}:∀ (l:List r7) (last:Int),okArcs i last l=true->(l.map r7.byte).Pairwise (. < ·)
 | [],_,_=>List.Pairwise.nil
 | x::l,last,h=>by
  simp only [okArcs,Bool.and_eq_true,decide_eq_true_eq] at h
  rw [List.map_cons,List.pairwise_cons]
  refine ⟨fun y hy=> ?_,mG l _ h.2⟩
  obtain ⟨a,ha,rfl⟩:=List.mem_map.1 hy
  have:=fJ l _ h.2 a ha
  omega
theorem rC {i:Nat} {l:List r7} (h:okArcs i (-1) l=true):Hid (Z5 (l.map r7.byte)):=by
 have hp:=mG l (-1) h
 refine H9 fun i j x y dU hx hy=> ?_
 obtain ⟨h1,rfl⟩:=E2 hx
 obtain ⟨h2,rfl⟩:=E2 hy
 exact List.pairwise_iff_getElem.1 hp i j h1 h2 dU
theorem OB.y0u {w w':World} {base:Nat} {v:Value} {l:List Nat} (h:OB w base v l) (hb:Below w.heap.size w w'):OB w' base v l:=l5 h hb
theorem OB.rb {w:World} {base:Nat} {v:Value} {l:List Nat} (h:OB w base v l):∃ (g:Nat) (A:Option Addr) (c:Nat),v= .slice A l.length c/\(0<l.length->A=some ⟨g,0,none⟩)/\RB w g l:=by
 obtain ⟨A,c,rfl,_⟩:=A1 h
 rcases Nat.eq_zero_or_pos l.length with h0 | h0
 ·exact ⟨0,A,c,rfl,fun h=>oM,fun i x hx=>by have:=(E2 hx).1;omega⟩
 ·obtain ⟨x,hx⟩:∃ x,l[0]? =some x:=⟨_,D9 h0⟩
  obtain ⟨b,hA,_⟩:=OB.cell h hx
  refine ⟨b,A,c,rfl,fun _=>hA,fun i y hy=> ?_⟩
  obtain ⟨b',hA',h2⟩:=OB.cell h hy
  rw [hA] at hA'
  injection hA' with hA'
  injection hA' with hA'
  subst hA'
  exact h2.2.2
theorem y0t (w:World) (sv:Value) (init:Nat) (ss:List State) (o7:RS w sv ss) (k:Nat) (st:State) (hk:ss[k]? =some st) (nY:ss.length<=1000000000) (a8:okArcs k (-1) st.a6=true) (hlen:st.a6.length<=1000000):Calls Tryz.prog 157 #[.agg #[sv,.int .u64 init],.int .i64 k] w fun e w1=>∃ v1,e= .returned v1/\OB w1 w.heap.size v1 (st.a6.map r7.byte)/\Below w.heap.size w w1:=by
 refine aT 46 Tryz.func157 fun fr hf s0 s1=> ?_
 obtain ⟨A,cc,rfl,Z3⟩:=o7.form
 have n8:=(E2 hk).1
 have HOK:=H9 a8;clear a8
 have q1:decide ((k:Int)<0)=false:=decide_eq_false oM
 have q2:decide (ss.length<=k)=false:=decide_eq_false oM
 refine Ze fun _ b7=>Zr [] hf ?_
 refine B1 1 2 4 hf ?_
 clear hf s0 s1;intro a7 hf sS
 generalize p8:w.alloc (.cells #[.slice A ss.length cc,.int .u64 init] 38)=W0
 obtain ⟨p9,c0,c1, -, -⟩:=Z8 p8
 clear p8
 have cQ:=o7.later p9
 clear o7
 obtain ⟨bb,off,av,hA0,D3⟩:=cQ.at_ hk
 subst hA0
 have d0:=D3.c0
 have bA:=D3.a6
 obtain ⟨A2,c2,aE,hc2⟩:=bA.form
 subst aE
 clear D3 cQ
 refine Zs b7 fun _ b7=>Ze fun _ j8=> ?_
 have qs:=And.intro q1 q2
 refine Zr [7,8,9,10,11,12,13,14] hf ?_
 refine C0 1 2 4 15 hf ?_
 clear hf sS qs;intro a7 hf sS
 refine Zx j8 (Fc.k9 sS.2.2.2 ?_)
 clear q1 q2
 refine wp_skip (Zs b7 fun _ b7=>Ze fun _ j8=>Zr [16,17,18,19,20,21] hf ?_)
 refine D0 1 4 21 22 23 hf ?_
 clear hf sS;intro a7 hf sS
 refine Zx j8 (wp_block (wp_loop_ghost (fun gk fr wr=>∃ (i:Nat) (V:Value),gk=st.a6.length-i/\i<=st.a6.length/\Fc.Fr 46 fr/\fr.tmps[1]? =some (.int .i64 k)/\fr.tmps[4]? =some V/\fr.tmps[21]? =some (.slice A2 st.a6.length c2)/\fr.tmps[22]? =some (.int .i64 st.a6.length)/\fr.tmps[23]? =some (.int .i64 i)/\OB wr W0.heap.size V ((st.a6.take i).map r7.byte)/\Below W0.heap.size W0 wr) (st.a6.length) ?_ ?_))
 . (
 obtain ⟨s1,s4,N6,U9,S1⟩:=sS
 exact ⟨0,_,rfl,Nat.zero_le _,hf,s1,s4,N6,U9,S1,OB.S0 _ _,Below.refl _ _⟩)
 . (
 clear hf sS
 clear c0 c1 d0
 rintro gk fr wr ⟨i,V,qZ,hi,hf,s1,s4,N6,U9,S1,how,hb⟩
 have HK:=H9 qZ;clear qZ
 have G5:=p9.trans (hb.mono p9.size)
 refine Ze fun _ j8=>Zr [] hf ?_
 refine J3 1 4 21 22 23 24 hf ?_
 clear hf s1 s4 N6 U9 S1;intro a7 hf sS
 refine Zs j8 fun _ j8=>Fc.l0 sS.2.2.2.2.2 (fun hq=> ?_) (fun hq=> ?_)
 . (
 have u2h:i<st.a6.length:=qT
 clear hq
 obtain ⟨a,aN⟩:∃ a,st.a6[i]? =some a:=⟨_,D9 u2h⟩
 obtain ⟨b3,y7d,hA3,aF,y0,y1,y2⟩:=(bA.later hb).at' aN
 subst hA3
 have nF:=C3 HOK.out (U0 aN)
 have y8:(st.a6.take (i+1)).map r7.byte=(st.a6.take i).map r7.byte++[a.byte]:=by rw [List.take_add_one,aN];simp
 obtain ⟨xs,gP⟩:∃ x,(st.a6.take i).map r7.byte=x:=⟨_,rfl⟩
 have hxl:xs.length=i:=by rw [<- gP];simp;omega
 rw [gP] at how y8
 have X9:=H9 y8;have HXL:=H9 hxl;clear y8 gP hxl aN
 obtain ⟨Av,cv,hV,xH⟩:=A1 how
 subst hV
 refine wp_skip (Zs j8 fun _ j8=>wp_block (Ze fun _ l6=>Zr [25,26,6] hf ?_))
 refine J3 1 4 6 21 22 23 hf ?_
 clear hf sS;intro a7 hf sS
 generalize eC:wr.alloc (.cells #[.int .u8 a.byte,.int .u64 a.out,.int .i64 a.to] 71)=W5
 obtain ⟨F2,z0,z1,z2, -, -⟩:=G1 eC
 clear eC
 clear y0 y1 y2 aF
 have Y5:=l5 how F2
 have s9h:=G5.trans (F2.mono G5.size)
 refine Zx l6 ?_
 have q1:decide (0<=a.to)=true:=decide_eq_true nF.1
 have q2:decide (a.to<(k:Int))=true:=decide_eq_true nF.2
 refine Ze fun _ l6=> ?_
 have qs:=And.intro q1 q2
 refine Zr [27,28,29,30,31,32,33,34] hf ?_
 refine cP 1 4 6 21 22 23 35 hf ?_
 clear hf sS qs;intro a7 hf sS
 refine Zx l6 (Fc.l8 sS.2.2.2.2.2.2 ?_)
 clear q1 q2
 refine rg ?_
 have bB:=hf.B5 36 37 38 39 40
 iterate 4 refine Zy ?_
 obtain ⟨s1,s4,s6,N6,U9,S1,s35⟩:=sS
 clear bB
 refine Fc.lQ (n:=46) (by simp only [Fc.G,hf.size]) hf.defers (fun a7 u3 hT=> ?_)
 have G9:=Fc.h7 hT 1 4 21 22 23 36 39
 simp (decide:=true) only [Fc.G,hf.size,reduceIte,s1,s4,N6,U9,S1] at G9
 replace hf:=u3;clear hT u3 s1 s4 s6 N6 U9 S1 s35
 obtain ⟨s1,s4,N6,U9,S1,vX,bM⟩:=G9
 have bB:=hf.b 40
 refine ⟨?_⟩
 refine wpList_plain rfl fun K5 U3=> ?_
 refine J7 _ _ 31 rfl 5 _ 1 1 Tryz.underlying31 fS rfl dC dC W0.heap.size (.slice Av xs.length cv) xs.length _ (Fc.k7 vX) (Y5.alloc _) W5.heap.size [.int .u8 a.byte] (Fc.k7 bM) rfl (E7 W5 _ _) (by intro u hu;simp at hu;subst hu;rfl) (by have:=HXL.out;omega) (by have:=hb.size;have:=F2.size;simp;omega) (fun v5 w5 U5 aV P0=>U3 _ _ ?_)
 refine Fc.L.out ?_
 refine Zy ?_
 refine Fc.nil (D0 1 4 21 22 23 hf ?_)
 clear hf s1 s4 N6 U9 S1 vX bM bB;intro a7 hf sS
 have A8:=((hb.trans (F2.mono hb.size)).alloc (Nat.le_trans hb.size F2.size) _).grown aV (Nat.le_trans (Nat.le_trans hb.size F2.size) sP) (fun kk S3=>(Y5.lt kk S3).1)
 have F4:OB w5 W0.heap.size v5 (xs++[a.byte]):=by unfold OB;rw [Q2,List.length_append];exact U5
 refine Fc.j7 (Zx j8 (Zr [41] hf ?_))
 refine D0 1 4 21 22 23 hf ?_
 clear hf sS;intro a7 hf sS
 refine Fc.j6 ?_
 obtain ⟨s1,s4,N6,U9,S1⟩:=sS
 exact ⟨_,by have:=HK.out;omega,i+1,v5,rfl,oM,hf,s1,s4,N6,U9,by rw [S1];rfl,by rw [X9.out];exact F4,A8⟩)
 . (
 have F3:i=st.a6.length:=qF
 rw [F3,List.take_length] at how
 clear hq F3 HK hi
 obtain ⟨bl9,yM⟩:∃ x,st.a6.map r7.byte=x:=⟨_,rfl⟩
 have z7t:bl9.length=st.a6.length:=by rw [<- yM,List.length_map]
 have y0s:=rC (HOK.out)
 rw [yM] at how y0s
 have HB9:=H9 yM;clear yM
 obtain ⟨g9,A9,c9,pQ,hA9,w4d⟩:=how.rb
 subst pQ
 have HL9:=H9 z7t;clear z7t
 have HA9:=H9 hA9;clear hA9
 refine Zo ?_
 refine Zt b7 fun _ b7=> ?_
 have bB:=hf.b 42
 refine Zy ?_
 refine Zc (v4n wr A9 g9 bl9.length c9 bl9 rfl (by have:=HL9.out;omega) w4d y0s HA9.out) ?_;rintro e w2 ⟨rfl,r9⟩
 have u2f:=w4d.later r9
 replace how:=how.y0u r9
 clear w4d
 refine Zv ?_
 refine Fc.nil (r6 4 hf ?_)
 clear hf sS bB;intro a7 hf s4
 refine Zt b7 fun _ b7=> ?_
 have bB:=hf.B2 44 45
 refine Zy ?_
 refine Zc (v4m w2 A9 g9 bl9.length c9 bl9 rfl (by have:=HL9.out;omega) u2f y0s HA9.out) ?_;rintro e w3 ⟨rfl,D4⟩
 replace how:=how.y0u D4
 refine Zv ?_
 refine Zy ?_
 refine Fc.nil (r6 4 hf ?_)
 clear hf s4 bB;intro a7 hf s4
 refine Zx b7 (k8 ?_)
 exact Fc.o9 rfl hf s4 ⟨_,rfl,by rw [HB9.out];exact L8 how p9.size,(G5.trans (r9.mono G5.size)).trans (D4.mono (Nat.le_trans G5.size r9.size))⟩))
end Dw
namespace Inr
section
variable {P:Program} {n l:Nat} {Q:Exit->Act->World->Prop}
def Fe (r:Option Nat):Fence:=match r with
 | none=>Fence.wide
 | some l=>Fence.wide.inRound l
theorem x3k {r:Option Nat} {row:String} {args:Array Value} {w:World} {R:Value->World->Prop} (h:Rows P row args w R):RowsIn (Fe r) n P row args w R:=by
 intro c cs _
 obtain ⟨v,w',hr,s⟩:=h c cs
 cases r with
 | none=>exact ⟨v,w',hr,stepsIn_wide.2 s⟩
 | some l=>exact ⟨v,w',hr,stepsIn_wide.2 s⟩
theorem y0r {r:Option Nat} {f:FuncId} {args:Array Value} {w:World} {R:Ending->World->Prop} (h:Calls P f args w R):CallsIn (Fe r) n P f args w R:=by
 cases r with
 | none=>exact callsIn_wide.2 h
 | some l=>exact (callsIn_wide.2 h).inRound l
theorem fe_depth (r:Option Nat):(Fe r).depth=none:=by cases r<;>rfl
theorem fe_fn (r:Option Nat) (f:FuncId):(Fe r).fn f:=by cases r<;>exact trivial
theorem sem_in (r:Option Nat) (ρ:Operand->Value) {o:Oper} (hd:∀ c,o.op≠ .defer c):o.semAt (Fe r).round ρ=execOp ρ o:=by
 cases r with
 | none=>rfl
 | some l=>exact Oper.semAt_some l ρ o hd
theorem op_in {r:Option Nat} {o:Oper} {a:Act} {w:World} {K:Act->World->Prop} (hd:∀ c,o.op≠ .defer c) (h:o.wp P a w K Q):o.wpIn (Fe r) n P a w K Q:=by
 refine ⟨fun f _=>fe_fn r f,?_⟩
 rw [sem_in r _ hd]
 unfold Oper.wp at h
 generalize (execOp a.eval o).run P w=res at h
 have h1:(Fe r).depth.isSome=true->1<=n:=fun h=>by rw [fe_depth] at h;cases h
 cases res with
 | ok x w'=>cases x<;>first | exact h | exact ⟨h1,y0r h⟩ | exact ⟨h1,x3k h⟩ | exact h.elim
 | halt x w'=>cases x<;>exact h
def noDefer (ops:List Oper):Bool:=ops.all fun o=>match o.op with
 | .defer _=>false
 | _=>true
theorem nd_of {ops:List Oper} (h:noDefer ops=true) {o:Oper} (ho:o∈ops):∀ c,o.op≠ .defer c:=fun c hc=>by
 have:=List.all_eq_true.1 h o ho
 rw [hc] at this
 cases this
theorem yN {r:Option Nat} {ops:Array Oper} (hQ:¬ LetsOut Q) (hd:∀ (i:Nat) (o:Oper),ops[i]? =some o->∀ c,o.op≠ .defer c):∀ (fuel:Nat) (listed:Array Bool) (a:Act) (w:World),wpAny P .any ops Q fuel listed a w->wpAnyIn (Fe r) n P .any ops Q fuel listed a w
 | 0,_,_,_,h=>h
 | fuel+1,listed,a,w,h=>by
  refine ⟨h.1,fun i hi=> ?_⟩
  have h2:=h.2 i hi
  unfold wpOp at h2
  unfold wpOpIn
  cases ho:ops[i]? with
  | none=>rw [ho] at h2;exact yN hQ hd fuel _ _ _ h2
  | some o =>
   rw [ho] at h2
   simp only at h2 |-
   split at h2
   ·rename_i hw
    rw [if_pos hw]
    rcases h2 with h2 | h2
    ·exact op_in (hd i o ho) (Oper.wp_mono (fun a w=>yN hQ hd fuel _ a w) h2)
    ·exact absurd h2.2 hQ
   ·rename_i hw
    rw [if_neg hw]
    exact ⟨fun f _=>fe_fn r f,yN hQ hd fuel _ _ _ h2⟩
theorem drawn {r:Option Nat} {id:Nat} {l:List Oper} {a:Act} {w:World} (hQ:¬ LetsOut Q) (h:Sb.eL P id l.toArray Q a w []) (hd:noDefer l=true:=by rfl):(Code.region id l.toArray true).wpIn (Fe r) n P Q a w :=
 wpIn_region_any (Sb.fN h).1 (yN hQ (fun i o ho=>nd_of hd (U0 (by simpa using ho))) _ _ _ _ (Sb.fN h).2)
theorem z2v {r:Option Nat} {id k:Nat} {l:List Oper} {a:Act} {w:World} (hQ:¬ LetsOut Q) (a8:Sb.OkOps l.toArray k) (h:Hid (Sb.OkOps l.toArray k)->Sb.eL P id l.toArray Q a w []) (hd:noDefer l=true:=by rfl):(Code.region id l.toArray true).wpIn (Fe r) n P Q a w:=drawn hQ (h (H9 a8)) hd
structure LI (r:Option Nat) (n:Nat) (P:Program) (ops:Array Oper) (Q:Exit->Act->World->Prop) (rest:List Oper) (a:Act) (w:World):Prop where
 out:wpListIn (Fe r) n P ops Q rest a w
variable {r:Option Nat} {ops:Array Oper} {rest:List Oper} {o:Oper} {a:Act} {w:World}
theorem rgI {id:Nat} {l:List Oper} (h:LI r n P l.toArray Q l a w):(Code.region id l.toArray false).wpIn (Fe r) n P Q a w:=wpIn_region_lit h.out
theorem rgW {id:Nat} {l:List Oper} (n:Nat) (h:LI none n P l.toArray Q l a w):(Code.region id l.toArray false).wp P Q a w:=(wpIn_wide (n:=n)).1 (rgI (r:=none) h)
theorem kW (h:Q .normal a w):LI r n P ops Q [] a w:=⟨wpListIn_nil h⟩
theorem cR (h:∀ K:Act->World->Prop,Hid (∀ a w,LI r n P ops Q rest a w->K a w)->o.wp P a w K Q) (hg:o.guard=none:=by rfl) (hd:noDefer [o]=true:=by rfl):LI r n P ops Q (o::rest) a w :=
 ⟨wpListIn_plain hg fun K hK=>op_in (nd_of hd (List.mem_singleton.2 rfl)) (h K (H9 fun a w hl=>hK a w hl.out))⟩
theorem w4c {lp:Nat} {y0q:Array Value} {R:Ending->World->Prop} (hy:YieldAt (Fe r) (n-1) P lp y0q w R) (hs:(execOp a.eval o).run P w=(Instr.yield lp y0q).run P w)
  (hR:∀ e w',R e w'->∃ v,e= .returned v/\LI r n P ops Q rest (a.put o.dst v) w') (hg:o.guard=none:=by rfl) (hd:noDefer [o]=true:=by rfl):LI r n P ops Q (o::rest) a w:=by
 obtain ⟨fn,tmps,asg,body,h1,h2⟩:=hy
 refine ⟨wpListIn_plain hg fun K hK=>⟨fun f _=>fe_fn r f,?_⟩⟩
 rw [sem_in r _ (nd_of hd (List.mem_singleton.2 rfl)),hs,h1]
 refine ⟨fun h=>(by rw [fe_depth] at h;cases h),RoundIn.mono h2 fun e w' hr=> ?_⟩
 obtain ⟨v,rfl,h⟩:=hR e w' hr
 exact hK _ _ h.out
end
end Inr
def j9 (C:Obj->Prop) (B:Nat) (I:World->Prop):Prop :=
 ∀ W W' row,I W->W.grownBy W' row->(∀ r,row=some r->B<=r/\∃ o:Obj,W.heap[r]? =some o/\C o)->I W'
theorem j9.and {C:Obj->Prop} {B:Nat} {I J:World->Prop} (h:j9 C B I) (k:j9 C B J):j9 C B (fun W=>I W/\J W) :=
 fun W W' row hs hg hr=>⟨h W W' row hs.1 hg hr,k W W' row hs.2 hg hr⟩
theorem j9.pure (C:Obj->Prop) (B:Nat) (p:Prop):j9 C B (fun _=>p):=fun _ _ _ hs _ _=>hs
theorem j9.ex {β:Type} {C:Obj->Prop} {B:Nat} {I:β->World->Prop} (h:∀ b,j9 C B (I b)):j9 C B (fun W=>∃ b,I b W) :=
 fun W W' row ⟨b,hs⟩ hg hr=>⟨b,h b W W' row hs hg hr⟩
theorem j9.below {C:Obj->Prop} {n₀ B:Nat} {w₀:World} (hn:n₀<=w₀.heap.size) (hB:n₀<=B):j9 C B (fun W=>Below n₀ w₀ W) :=
 fun _ _ _ hs hg hr=>hs.grown hg (Nat.le_trans hn hs.size) (fun k e=>Nat.le_trans hB (hr k e).1)
theorem j9.block {C:Obj->Prop} {B k:Nat} {o:Obj} (h:k<B\/¬ C o):j9 C B (fun W=>W.heap[k]? =some o):=by
 intro W W' row hs hg hr
 refine (hg.block k (Array.getElem?_eq_some_iff.1 hs).1 (fun e=> ?_)).trans hs
 obtain ⟨hB,o',V9,hc⟩:=hr k e.symm
 rw [hs] at V9
 cases V9
 rcases h with h | h
 ·omega
 ·exact h hc
theorem j9.own {C:Obj->Prop} {B base:Nat} {e:TypeId} {size n:Nat} {v:Value} {xs:List Value} (hC:∀ cur,¬ C (.cells cur e (0,0))) :
  j9 C B (fun W=>W.ownsRow base e size v n xs):=by
 intro W W' row hs hg hr
 refine hs.kept hg ?_
 rcases hs.2 with ⟨rfl,_⟩ | ⟨g,cap,cur,rfl,_,hgb,_⟩
 ·exact .inl rfl
 ·refine .inr (fun he=> ?_)
  obtain ⟨_,o,ho,hc⟩:=hr g he.symm
  rw [hgb] at ho
  cases ho
  exact hC _ hc
theorem j9.alloc {C:Obj->Prop} {B:Nat} {I:World->Prop} (h:j9 C B I) {W:World} (hs:I W) (o:Obj):I (W.alloc o) :=
 h W _ none hs (World.grownBy_alloc W o none) (fun _ e=>by cases e)
theorem j9.put {C:Obj->Prop} {B:Nat} {I:World->Prop} (h:j9 C B I) {W:World} (hs:I W) {l:Nat} {o:Obj} (o':Obj) (hl:W.heap[l]? =some o) (hB:B<=l) (hc:C o):I (W.putObj l o') :=
 h W _ (some l) hs (grownBy_putObj' W l o') (fun r e=>by cases e;exact ⟨hB,o,hl,hc⟩)
def Iter {α:Type} (n:Nat) (P:Program) (C:Obj->Prop) (g:Nat) (lb:Array Value) (y6j:α->Array Value) (Kp:World->World->Prop) (S Sp:List α->Prop) (Nx:List α->α->Prop) (w:World):Prop :=
 ∀ (l:Nat) (J Jx:List α->World->Prop) (W:World),Below w.heap.size w W->w.heap.size+2<=W.heap.size->(∀ s,j9 C W.heap.size (J s))->(∀ s,j9 C W.heap.size (Jx s)) ->
  (∀ pre x W1,J pre W1->Nx pre x->YieldAt Fence.wide (n-1) P l (y6j x) W1 fun e W' =>
   (e= .returned (.bool true)/\J (pre++[x]) W'/\Kp W1 W')\/(e= .returned (.bool false)/\Jx (pre++[x]) W'/\Kp W1 W')) ->
  J [] W ->
  CallsIn Fence.wide n P g (#[.func (.yield l) #[] #[]]++lb) W fun e W'=>(∃ v,e= .returned v)/\((∃ xs,S xs/\J xs W')\/(∃ pre,Sp pre/\Jx pre W'))
def v4k {α:Type} (B:Nat) (Kp:World->World->Prop) (I:List α->World->Prop) (Ix:Code->List α->World->Prop) (xs:List α) (W:World):Exit->Act->World->Prop
 | .normal,_,W'=>KeepsFrom B W W'/\Kp W W'/\I xs W'
 | .ret,_,W'=>KeepsFrom B W W'/\Kp W W'/\Ix .ret xs W'
 | .exit id,_,W'=>KeepsFrom B W W'/\Kp W W'/\Ix (.exit id) xs W'
 | .goto t,_,W'=>KeepsFrom B W W'/\Kp W W'/\Ix (.goto t) xs W'
 | .panic _,_,_=>False
 | .outgrown,_,_=>False
def Z2 (C:Obj->Prop) (o:Obj):Prop:=o.isCells=false\/C o
section
variable {n:Nat} {P:Program}
theorem dG {α:Type} {g:Operand} {ps:Array Tmp} {assign body:Code} {Q:Exit->Act->World->Prop} {a:Act} {w:World} {C:Obj->Prop}
    {gf:Nat} {lb:Array Value} (hg:a.eval g= .func (.func gf) #[] lb) (eg:∀ args w,(callFunc gf args).run P w= .ok (.enter gf args) w)
    {y6j:α->Array Value} {Kp:World->World->Prop} {S Sp:List α->Prop} {Nx:List α->α->Prop} {w0:World} (u2e:Iter (n-1) P C gf lb y6j Kp S Sp Nx w0)
    (hKt:∀ {A B C:World},Kp A B->Kp B C->Kp A C)
    (hKb:∀ (W:World) (o o':Obj),W.heap[w.heap.size+1]? =some o->o.isCells=false->o.isWalk=false->Kp W (W.putObj (w.heap.size+1) o'))
    (p9:Below w0.heap.size w0 w) (hps:∀ x,(y6j x).size=ps.size)
    (I:List α->World->Prop) (Ix:Code->List α->World->Prop) (hI:∀ s,j9 (Z2 C) w.heap.size (I s)) (hIx:∀ c s,j9 (Z2 C) w.heap.size (Ix c s)) (h0:I [] w)
    (Ax:α->Act->World->Prop) (hAx:∀ x a',j9 (Z2 C) w.heap.size (Ax x a'))
    (x3j:∀ (l:Nat) (pre:List α) (x:α) (W:World) (K:Act->World->Prop),I pre W->(∀ a' W',KeepsFrom w.heap.size W W'->Kp W W'->I pre W'->Ax x a' W'->K a' W') ->
      assign.wpIn (Fence.wide.inRound l) (n-1-1) P (Exit.then K (fun _ _ _=>False)) { tmps:=(ps.zip (y6j x)).foldl (fun t (p,v)=>t.setIfInBounds p v) a.tmps,defers:=[] } W)
    (y9t:∀ (l:Nat) (pre:List α) (x:α) (a':Act) (W:World),w.heap.size<=l->(∃ r,W.heap[l]? =some (.loop r))->I pre W->Ax x a' W->Nx pre x ->
      body.wpIn (Fence.wide.inRound l) (n-1-1) P (v4k w.heap.size Kp I Ix (pre++[x]) W) a' W)
    (v4j:∀ (D:Nat) (xs:List α) (W:World),w.heap.size<=D->S xs->I xs W->W.heap[D]? =some (.deferred (some []))->Q .normal { a with defers:={ target:= .collected D,args:= #[] }::a.defers } W)
    (v4i:∀ (D:Nat) (c:Code) (pre:List α) (W:World),w.heap.size<=D->Sp pre->Ix c pre W->W.heap[D]? =some (.deferred (some []))->c.wpIn Fence.wide n P Q { a with defers:={ target:= .collected D,args:= #[] }::a.defers } W) :
    (Code.rangeFunc g ps assign body).wpIn Fence.wide n P Q a w:=by
  refine wpIn_rangeFunc ?_
  intro fn hfn
  let rc:LoopState->Option Code->Loop:=fun st pe=>{ state:=st,pending:=pe,fn:=fn,tmps:=a.tmps,params:=ps,assign:=assign,body:=body,defers:=w.heap.size }
  let W1:World:=(w.alloc (.deferred (some []))).alloc (.loop (rc .ready none))
  have hs1:W1.heap.size=w.heap.size+2:=by simp [W1]
  have hL1:W1.heap[w.heap.size+1]? =some (.loop (rc .ready none)):=by
    have:=World.alloc_heap_new (w.alloc (.deferred (some []))) (.loop (rc .ready none))
    rwa [World.size_alloc] at this
  have hD1:W1.heap[w.heap.size]? =some (.deferred (some [])):=(Below.heap_alloc _ _ _ sP).trans (World.alloc_heap_new w _)
  have hI1:I [] W1:=(hI []).alloc ((hI []).alloc h0 _) _
  have n7:Below w0.heap.size w0 W1:=p9.trans ((((Below.refl _ w).alloc nR _).alloc sP _).mono p9.size)
  refine ⟨w.heap.size+1,[{ target:= .collected w.heap.size,args:= #[] }],W1,{ target:= .fn (.func gf) lb,args:= #[.func (.yield (w.heap.size+1)) #[] #[]] },W1,gf,
    #[.func (.yield (w.heap.size+1)) #[] #[]]++lb,W1,?_,?_,?_,?_,?_,?_⟩
  . exact run_enterLoop_outer _ _ _ _ _
  . simp only [resolve,hg];simp [go_sem]
  . intro f' _;trivial
  . simp [invoke,go_sem,eg]
  . intro h;simp [Fence.wide] at h
  . -- the invariant that the iterator bears: the loop's own, and the two blocks of book-keeping
    have toB:∀ {A:World} {row:Option Nat},(∀ r,row=some r->W1.heap.size<=r/\∃ o:Obj,A.heap[r]? =some o/\C o)->(∀ r,row=some r->w.heap.size<=r/\∃ o:Obj,A.heap[r]? =some o/\Z2 C o) :=
      fun h r e=>⟨by have:=(h r e).1;omega,by obtain ⟨o,ho,hc⟩:=(h r e).2;exact ⟨o,ho,.inr hc⟩⟩
    have bk:∀ st pe,j9 C W1.heap.size (fun W=>W.heap[w.heap.size+1]? =some (.loop (rc st pe))/\W.heap[w.heap.size]? =some (.deferred (some []))):=fun st pe =>
      j9.and (j9.block (.inl oM)) (j9.block (.inl oM))
    refine (u2e (w.heap.size+1)
      (fun pre W=>I pre W/\(W.heap[w.heap.size+1]? =some (.loop (rc .ready none))/\W.heap[w.heap.size]? =some (.deferred (some []))))
      (fun pre W=>∃ c,Ix c pre W/\(W.heap[w.heap.size+1]? =some (.loop (rc .done (some c)))/\W.heap[w.heap.size]? =some (.deferred (some []))))
      W1 n7 (by have:=p9.size;omega)
      (fun s=>j9.and (fun A B row hs rD hr=>hI s A B row hs rD (toB hr)) (bk _ _))
      (fun s=>j9.ex fun c=>j9.and (fun A B row hs rD hr=>hIx c s A B row hs rD (toB hr)) (bk _ _))
      ?_ ⟨hI1,hL1,hD1⟩).mono ?_
    . rintro pre x W ⟨hi,hl,hk⟩ hlen
      have hy:=run_yield (P:=P) (args:=y6j x) hl (hps x)
      refine ⟨fn,_,assign,body,hy,roundIn_of_wpIn hfn (x3j _ pre x W _ hi ?_)⟩
      intro a' Wa hkf hkp aN hax
      have hla:=hkf.same _ _ oM hl rfl
      have qS:=hkf.same _ _ nR hk rfl
      have w4b:w.heap.size+1<Wa.heap.size:=(Array.getElem?_eq_some_iff.1 hla).1
      refine ⟨_,run_beginRound hla rfl,?_⟩
      have nH:(Wa.putObj (w.heap.size+1) (.loop (rc .busy none))).heap[w.heap.size+1]? =some (.loop (rc .busy none)):=World.putObj_heap_same w4b
      have M5:(Wa.putObj (w.heap.size+1) (.loop (rc .busy none))).heap[w.heap.size]? =some (.deferred (some [])):=(World.putObj_heap_other oM).trans qS
      have hw2:Kp Wa (Wa.putObj (w.heap.size+1) (.loop (rc .busy none))):=hKb _ _ _ hla rfl rfl
      refine wpIn_mono (y9t _ pre x a' _ oM ⟨_,nH⟩ ((hI pre).put aN _ hla oM (.inl rfl)) ((hAx x a').put hax _ hla oM (.inl rfl)) hlen) ?_
      have fin:∀ (jump:Option Code) (W3:World),KeepsFrom w.heap.size (Wa.putObj (w.heap.size+1) (.loop (rc .busy none))) W3 ->
          (Instr.endRound (w.heap.size+1) jump).run P W3= .ok (.bool jump.isNone) (W3.putObj (w.heap.size+1) (.loop (rc (if jump.isNone then .ready else .done) jump))) /\
          W3.heap[w.heap.size+1]? =some (.loop (rc .busy none)) /\
          (W3.putObj (w.heap.size+1) (.loop (rc (if jump.isNone then .ready else .done) jump))).heap[w.heap.size+1]? =some (.loop (rc (if jump.isNone then .ready else .done) jump)) /\
          (W3.putObj (w.heap.size+1) (.loop (rc (if jump.isNone then .ready else .done) jump))).heap[w.heap.size]? =some (.deferred (some [])):=fun jump W3 zR=>by
        have tQ:=zR.same _ _ oM nH rfl
        exact ⟨run_endRound (P:=P) jump tQ,tQ,World.putObj_heap_same (Array.getElem?_eq_some_iff.1 tQ).1,(World.putObj_heap_other oM).trans (zR.same _ _ nR M5 rfl)⟩
      have out:∀ (c:Code) (W3:World),KeepsFrom w.heap.size (Wa.putObj (w.heap.size+1) (.loop (rc .busy none))) W3->Kp (Wa.putObj (w.heap.size+1) (.loop (rc .busy none))) W3->Ix c (pre++[x]) W3 ->
          ∃ v w',(Instr.endRound (w.heap.size+1) (some c)).run P W3= .ok v w' /\
            ((Ending.returned v= .returned (.bool true)/\(I (pre++[x]) w'/\(w'.heap[w.heap.size+1]? =some (.loop (rc .ready none))/\w'.heap[w.heap.size]? =some (.deferred (some []))))/\Kp W w') \/
             (Ending.returned v= .returned (.bool false)/\(∃ c,Ix c (pre++[x]) w'/\(w'.heap[w.heap.size+1]? =some (.loop (rc .done (some c)))/\w'.heap[w.heap.size]? =some (.deferred (some []))))/\Kp W w')):=by
        intro c W3 zR w4a hi3
        obtain ⟨hr,tQ,hl4,hk4⟩:=fin (some c) W3 zR
        exact ⟨_,_,hr,.inr ⟨rfl,⟨c,(hIx c _).put hi3 _ tQ oM (.inl rfl),hl4,hk4⟩,hKt hkp (hKt (hKt hw2 w4a) (hKb _ _ _ tQ rfl rfl))⟩⟩
      intro e a3 W3 hp
      cases e with
      | normal =>
        obtain ⟨zR,w4a,hi3⟩:=hp
        obtain ⟨hr,tQ,hl4,hk4⟩:=fin none W3 zR
        exact ⟨_,_,hr,.inl ⟨rfl,⟨(hI _).put hi3 _ tQ oM (.inl rfl),hl4,hk4⟩,hKt hkp (hKt (hKt hw2 w4a) (hKb _ _ _ tQ rfl rfl))⟩⟩
      | ret=>exact out _ _ hp.1 hp.2.1 hp.2.2
      | exit id=>exact out _ _ hp.1 hp.2.1 hp.2.2
      | goto t=>exact out _ _ hp.1 hp.2.1 hp.2.2
      | panic ch=>exact hp.elim
      | outgrown=>exact hp.elim
    . rintro e W2 ⟨⟨v,rfl⟩,(⟨xs,hS,hi,hl,hk⟩ | ⟨pre,hSp,c,hi,hl,hk⟩)⟩
      . exact ⟨none,_,run_endLoop (P:=P) hl (by simp [rc]),v4j _ xs _ nR hS ((hI xs).put hi _ hl oM (.inl rfl)) ((World.putObj_heap_other oM).trans hk)⟩
      . exact ⟨some c,_,run_endLoop (P:=P) hl (by simp [rc]),v4i _ c pre _ nR hSp ((hIx c pre).put hi _ hl oM (.inl rfl)) ((World.putObj_heap_other oM).trans hk)⟩
end
end Go.Proofs.YtcddnmhmcieebaaGreatDoor
