/- fst: From. -/
import Derived.Test.YtcddnmhmcieebaaGreatDoorY20
import Derived.Test.YtcddnmhmcieebaaGreatDoorTools
import Derived.Test.YtcddnmhmcieebaaGreatDoorY19
namespace Go.Proofs.YtcddnmhmcieebaaGreatDoor
set_option maxHeartbeats 4000000
set_option maxRecDepth 100000
open Go.RowKit
set_option linter.unusedSimpArgs false
set_option linter.unusedVariables false
set_option linter.unnecessarySimpa false
namespace Dw
def isW (x:Wd):Bool:=x.b&&decide (x.n<=4294967296)
theorem w3k {x:Wd} (h:isW x=true):x.n<=4294967296:=by
 unfold isW at h
 rw [Bool.and_eq_true] at h
 exact of_decide_eq_true h.2
def U7 (xs:List Wd):List z6:=(xs.filter isW).map fun x=>eH x.w x.n
theorem wL (xs:List Wd) (x:Wd):U7 (xs++[x])=U7 xs++(if isW x then [eH x.w x.n] else []):=by
 unfold U7
 rw [List.filter_append,List.map_append]
 cases h:isW x<;>simp [h]
def L5 (ss:List State) (init:Nat) (s:ByteArray) (n:Int):List z6:=if n<1 then [] else (U7 (walkS ss (wl s) ss.length (ss.length-1) ⟨#[]⟩ init true)).take n.toNat
theorem y6a {ss:List State} {init nn:Nat} {s:ByteArray} (h1:0<nn) (h:(U7 (walkS ss (wl s) ss.length (ss.length-1) ⟨#[]⟩ init true)).length<nn):L5 ss init s nn=U7 (walkS ss (wl s) ss.length (ss.length-1) ⟨#[]⟩ init true):=by
 unfold L5
 rw [if_neg (by omega),List.take_of_length_le (by rw [Int.toNat_natCast];omega)]
theorem y5z {ss:List State} {init nn:Nat} {s:ByteArray} {pre:List Wd} (h1:0<nn) (hp:pre <+: walkS ss (wl s) ss.length (ss.length-1) ⟨#[]⟩ init true) (h:(U7 pre).length=nn):L5 ss init s nn=U7 pre:=by
 unfold L5
 obtain ⟨z,hz⟩:=hp
 rw [if_neg (by omega), <- hz,Int.toNat_natCast]
 unfold U7 at h |-
 rw [List.filter_append,List.map_append,List.take_append_of_le_length oM,List.take_of_length_le oM]
theorem nEs (cur:Array Value):¬ Z2 Cw (.cells cur 64 (0,0)):=fun h=>by
 rcases h with h | h | ⟨b,h⟩
 ·cases h
 ·cases h
 ·injection h with _ h2;exact absurd h2 dC
theorem x2q {B k:Nat} {a b:Value} {t:TypeId} (h:Nat.beq t 4=false):j9 (Z2 Cw) B (fun W=>W.heap[k]? =some (.cells #[a,b] t (0,0))) :=
 j9.block (.inr fun h2=>by
  rcases h2 with h2 | h2 | ⟨b,h2⟩
  ·cases h2
  ·cases h2
  ·injection h2 with _ h3;rw [h3] at h;cases h)
section
variable {N G Lr:Nat} {A B C:World}
theorem KE.trans (h:KE N G Lr A B) (k:KE N G Lr B C):KE N G Lr A C:=⟨Nat.le_trans h.size k.size,fun p v a b=>k.low p v a (h.low p v a b),fun g o a b c d e=>k.kept g o a b c d (h.kept g o a b c d e)⟩
theorem KE.below (hb:Below A.heap.size A B):KE N G Lr A B:=⟨hb.size,fun p v _ h=>cL hb h,fun g o _ _ _ _ h=>(hb.block g (j4 h)).trans h⟩
theorem KE.put {o o':Obj} (ho:A.heap[Lr]? =some o) (hN:N<=Lr):KE N G Lr A (A.putObj Lr o') :=
 ⟨sP,fun p v hp h=>(World.cell?_of_block (World.putObj_heap_other oM)).trans h,fun g o _ _ hg _ h=>(World.putObj_heap_other hg).trans h⟩
theorem KE.turn (h:A.grownBy B (some G)) (hN:N<=G):KE N G Lr A B :=
 ⟨h.size,fun p v hp hv=>(World.cell?_of_block (h.block p.block (C8 hv) (fun e=>by injection e with e;omega))).trans hv,fun g o _ hg _ _ ho=>(h.block g (j4 ho) (fun e=>by injection e with e;omega)).trans ho⟩
theorem KE.app {base n:Nat} {v:Value} {xs:List Value} (h:A.ownsRow base 64 3 v n xs) (hg:A.grownBy B v.ownBlock) (hN:N<=base):KE N G Lr A B :=
 ⟨hg.size,fun p w hp hw=>(World.cell?_of_block (hg.block p.block (C8 hw) (fun e=>by have:=(World.ownsRow.lt h _ e.symm).1;omega))).trans hw,fun g o _ _ _ he ho=>(hg.block g (j4 ho) (fun e=>by
  rcases h.2 with ⟨h1,_⟩ | ⟨g2,cap,cur,h1,_,h3,_⟩
  ·rw [h1] at e;cases e
  ·rw [h1] at e;injection e with e;subst e;rw [h3] at ho;injection ho with ho;exact he ⟨cur,_,ho.symm⟩)).trans ho⟩
theorem x9u {base n L:Nat} {v:Value} {xs:List Value} {o:Obj} (h:A.ownsRow base 64 3 v n xs) (hg:A.grownBy B v.ownBlock) (ho:A.heap[L]? =some o) (hc:o.isCells=false):B.heap[L]? =some o :=
 (hg.block L (j4 ho) (fun e=>by
  rcases h.2 with ⟨h1,_⟩ | ⟨g2,cap,cur,h1,_,h3,_⟩
  ·rw [h1] at e;cases e
  ·rw [h1] at e;injection e with e;subst e;rw [h3] at ho;injection ho with ho;rw [<- ho] at hc;cases hc)).trans ho
theorem KE.from {B0:Nat} (h:KE N G Lr A B) (hN:N<=B0:=by omega) (hG:G<B0:=by omega) (hL:∀ o,A.heap[Lr]? =some o->o.isCells=false->B.heap[Lr]? =some o:=by assumption):KeepsFrom B0 A B:=⟨h.size,fun k o a b c=>by
  by_cases e:k=Lr
  ·subst e;exact hL o b c
  ·exact h.kept k o oM oM e (nE' c) b⟩
end
theorem z2j {A B:World} {base G:Nat} {v:Value} {es:List z6} (h:OE A base v es) (hg:A.grownBy B (some G)) (hG:G<base):OE B base v es:=by
 refine ⟨h.1,?_⟩
 rcases h.2 with h1 | ⟨g,cap,cur,h1,h2,h3,h4⟩
 ·exact .inl h1
 ·exact .inr ⟨g,cap,cur,h1,h2,(hg.block g (j4 h3) (fun e=>by injection e with e;omega)).trans h3,h4⟩
theorem w3j (w:World) (sv:Value) (init:Nat) (ss:List State) (s:ByteArray) (n:Int) (o7:RS w sv ss) (hs:s.size<=1000000000) (K0:init<y5) (hn:n<=1000000) (hlen:ss.length<=1000000) (a8:∀ s∈ss,J8 s) (D5:∀ (k:Nat) (st:State),ss[k]? =some st->okArcs k (-1) st.a6=true):Calls Tryz.prog 81 #[.agg #[sv,.int .u64 init],.string s,.int .i64 n] w fun e w1=>∃ v,e= .returned v/\OE w1 w.heap.size v (L5 ss init s n)/\Below w.heap.size w w1:=by
 refine yQ Tryz.func81 rfl ?_
 refine Fc.en 37 fun fr hf hT=> ?_
 have s0:=hT 0 _ rfl
 have s1:=hT 1 _ rfl
 have s2:=hT 2 _ rfl
 clear hT
 obtain ⟨A,cc,rfl,Z3⟩:=o7.form
 refine Ze fun _ b7=>Zr [] hf ?_
 refine C0 1 3 5 6 hf ?_
 clear hf s0 s1 s2;intro a7 hf sS
 obtain ⟨W0,p8⟩:∃ x,((w.alloc (.cells #[.slice A ss.length cc,.int .u64 init] 38)).alloc (.cells #[.int .i64 n] 3)).alloc (.cells #[.slice none 0 0] 29)=x:=⟨_,rfl⟩
 obtain ⟨s1,s3,s5,s6⟩:=sS
 try simp only [World.size_alloc] at s5 s6
 rw [p8]
 obtain ⟨hb,hpf,hpn,pP⟩:=bD p8
 clear p8
 have cf0:=n5 0 hpf;have cf1:=n5 1 hpf;have cn:=n5 0 hpn;have cg:=n5 0 pP
 simp at cf0 cf1 cn cg
 have fg:=j3 (i:=0) pP
 have N3:=o7.n.below hb
 clear o7
 refine Zs b7 fun _ b7=>Ze fun _ j8=>Zr [11] hf ?_
 refine D0 1 3 5 6 12 hf ?_
 clear hf s1 s3 s5 s6;intro a7 hf sS
 refine Zx j8 (Fc.l0 sS.2.2.2.2 (fun hq=> ?_) (fun hq=> ?_))
 . (
 have hv:L5 ss init s n=[]:=by have h9:=of_decide_eq_true hq;unfold L5;rw [if_pos h9]
 refine Ze fun _ j8=>Zr [] hf ?_
 refine C0 1 3 5 6 hf ?_
 clear hf sS;intro a7 hf sS
 generalize kQ:W0.setCell ⟨(w.heap.size+1+1),0,none⟩ (.slice none 0 0)=W9
 have h6:W9.heap[(w.heap.size+1+1)]? =some (.cells #[.slice none 0 0] 29 (0,0)):=by rw [<- kQ];simpa using j5 (i:=0) pP (.slice none 0 0)
 have hbF:Below w.heap.size w W9:=by rw [<- kQ];exact hb.setCell (p:=⟨(w.heap.size+1+1),0,none⟩) (by show w.heap.size<=w.heap.size+1+1;omega) _
 refine Zx j8 (k8 ?_)
 have x9t:OE W9 ((w.heap.size+1+1)+1) (.slice none 0 0) (L5 ss init s n):=by rw [hv];exact OE.S0 _ _
 exact y9d (G:=(w.heap.size+1+1)) (S:=fun V=>OE V ((w.heap.size+1+1)+1) (.slice none 0 0) (L5 ss init s n)) (j9.own (fun cur h=>by cases h)) rfl hf sS.2.2.2 h6 nR Tryz.isAgg29 L4.w3r x9t (fun w' hw h9=>⟨_,rfl,L8 h9 oM,hbF.trans (hw.mono oM)⟩))
 . (
 obtain ⟨nn,hnn⟩:∃ k:Nat,n=(k:Int):=⟨n.toNat,qF⟩
 subst hnn
 have hn1:0<nn:=qF
 clear hq
 refine wp_skip (Zs b7 fun _ b7=>Ze fun _ j8=>rg ?_)
 have bB:=hf.B2 13 14
 iterate 2 refine Zy ?_
 refine Zc (x2t W0 _ init ss s N3.rs) ?_;rintro e W3 ⟨rfl,hq0,jM,D4⟩
 have v3i:w.heap.size<=W0.heap.size:=hb.size
 have hgl:=j4 pP
 replace hpn:=(D4.block _ (j4 hpn)).trans hpn
 replace pP:=(D4.block _ (j4 pP)).trans pP
 replace N3:=N3.below (D4.mono v3i)
 replace hb:=hb.trans (D4.mono hb.size)
 obtain ⟨q,hq⟩:∃ x,W0.heap.size=x:=⟨_,rfl⟩
 rw [hq] at hq0 jM hgl v3i |-
 have hql:=j4 jM
 clear hq D4 cf0 cf1 cn cg fg
 refine Zv ?_
 refine Fc.nil (B1 5 6 15 hf ?_)
 clear hf sS bB;intro a7 hf sS
 refine Zx j8 (wp_block ?_)
 have hNb:=hb.size
 have hit:=y6b (9-1) (q+1) q w.heap.size (w.heap.size+1+1) s hs (.slice A ss.length cc) init K0 ss W3 jM hq0 N3 hb.size oM oM oM oM oM hlen a8 D5
 refine (wpIn_wide (n:=9)).1 ?_
 refine dG (C:=Cw) (Fc.k7 sS.2.2) (enters_of Tryz.func151 kR rfl) hit KE.trans (fun V o o' ho hc _=>KE.put ho oM) (Below.refl _ _) (fun _=>rfl) (fun xs V=>∃ v,V.heap[(w.heap.size+1+1)]? =some (.cells #[v] 29 (0,0))/\OE V ((w.heap.size+1+1)+1) v (U7 xs)/\(U7 xs).length<nn/\V.heap[(w.heap.size+1)]? =some (.cells #[.int .i64 nn] 3 (0,0))/\Below w.heap.size w V) (fun c xs V=>c= .exit 0/\∃ v,V.heap[(w.heap.size+1+1)]? =some (.cells #[v] 29 (0,0))/\OE V ((w.heap.size+1+1)+1) v (U7 xs)/\(U7 xs).length=nn/\Below w.heap.size w V) (fun xs=>j9.ex fun v=>j9.and (j9.block (.inl oM)) (j9.and (j9.own nEs) (j9.and (j9.pure _ _ _) (j9.and (j9.block (.inl oM)) (j9.below oM oM))))) (fun c xs=>j9.and (j9.pure _ _ _) (j9.ex fun v=>j9.and (j9.block (.inl oM)) (j9.and (j9.own nEs) (j9.and (j9.pure _ _ _) (j9.below oM oM))))) ⟨_,pP,OE.S0 _ _,hn1,hpn,hb⟩ (fun (x:Wd) a' V=>∃ Bx,(Fc.Fr 37 a'/\a'.tmps[5]? =some (.pointer (some ⟨(w.heap.size+1),0,none⟩))/\a'.tmps[6]? =some (.pointer (some ⟨(w.heap.size+1+1),0,none⟩))/\a'.tmps[7]? =some (.string x.w)/\a'.tmps[8]? =some (.pointer (some ⟨Bx,0,none⟩)))/\V.heap[Bx]? =some (.cells #[.int .u64 x.n,.bool x.b] 190 (0,0))/\True) (fun x a'=>j9.ex fun Bx=>j9.and (j9.pure _ _ _) (j9.and (x2q (by rfl)) (j9.pure _ _ _))) ?_ ?_ ?_ ?_
 . (
 rintro l iV x V K ⟨v,hg,how,n8,rS,hbV⟩ hKK
 refine oW (M:=fun a=>Code.wpIn _ _ _ _ _ a _) hf rfl rfl rfl fun a1 u3 h16 h17 hold=> ?_
 obtain ⟨s5,s6,s15⟩:=sS
 have s5:=(hold 5 rfl rfl).trans s5;have s6:=(hold 6 rfl rfl).trans s6;have tZ:=h16;have N7:=h17
 clear hold h16 h17
 have hf:=u3;clear u3
 refine wpIn_seq_k (fun _ iK1=> ?_)
 refine Inr.rgI (r:=some l) ?_
 refine Inr.cR fun K Z=> ?_
 go_simp
 apply Z.out;clear Z K
 refine Inr.kW ?_
 refine C0 5 6 7 17 hf ?_
 clear hf s5 s6 tZ N7;intro a7 hf sS
 refine nx (iK1 _ _ ?_)
 obtain ⟨s5,s6,s7,N7⟩:=sS
 refine Inr.rgI (r:=some l) ?_
 have b8:=hf.b 8
 refine Inr.cR fun K Z=> ?_
 go_simp
 apply Z.out;clear Z K
 refine Inr.cR fun K Z=> ?_
 go_simp
 apply Z.out;clear Z K
 refine Inr.kW ?_
 refine C0 5 6 7 8 hf ?_
 clear hf s5 s6 s7 N7 b8;intro a7 hf sS
 refine Fc.j6 ?_
 generalize hV7:V.alloc (.cells #[.int .u64 x.n,.bool x.b] 190)=V7
 have A8:Below V.heap.size V V7:=by rw [<- hV7];exact (Below.refl _ _).alloc nR _
 have hx7:V7.heap[V.heap.size]? =some (.cells #[.int .u64 x.n,.bool x.b] 190 (0,0)):=by rw [<- hV7];exact heap_alloc_new V _
 clear hV7
 obtain ⟨s5,s6,s7,s8⟩:=sS
 exact hKK _ _ ((K7 A8).from _) (KE.below A8) ⟨v,(A8.block _ (j4 hg)).trans hg,l5 how A8,n8,(A8.block _ (j4 rS)).trans rS,hbV.trans (A8.mono hbV.size)⟩ ⟨_,⟨hf,s5,s6,s7,s8⟩,hx7,trivial⟩)
 . (
 clear hf sS
 rintro l iV x a1 V hl _ ⟨v,hg,how,n8,rS,hbV⟩ ⟨Bx,⟨hf,s5,s6,s7,s8⟩,dE, -⟩ rR
 have z0:=n5 0 dE;have z1:=n5 1 dE
 simp at z0 z1
 obtain ⟨is,U2⟩:∃ y,isW x=y:=⟨_,rfl⟩
 have HIS:=H9 U2;clear U2
 have hVs:w.heap.size+1+1<V.heap.size:=j4 hg
 refine wpIn_block ?_
 refine wpIn_seq_k (fun _ iK1=> ?_)
 refine wpIn_seq_k (fun _ iK2=> ?_)
 refine Inr.rgI (r:=some l) ?_
 obtain ⟨b18,b19⟩:=hf.B2 18 19
 refine Inr.cR fun K Z=> ?_
 go_simp
 apply Z.out;clear Z K
 refine Inr.cR fun K Z=> ?_
 go_simp
 go_at_call 115;refine (y3q V x.n x.b).mono ?_;rintro e V1 ⟨rfl,n7⟩
 rw [show (x.b&&decide (x.n<=4294967296))=is from HIS.out]
 replace z0:=cL n7 z0;replace z1:=cL n7 z1
 try dsimp only
 apply Z.out;clear Z K
 refine Inr.cR fun K Z=> ?_
 go_simp
 apply Z.out;clear Z K
 refine Inr.kW ?_
 refine D0 5 6 7 8 20 hf ?_
 clear hf s5 s6 s7 s8 b18 b19;intro a7 hf sS
 refine nx (iK2 _ _ ?_)
 refine wpIn_cond_split (Fc.k7 sS.2.2.2.2) (fun hq5=> ?_) (fun hq5=> ?_)
 . (
 have hi:is=false:=by simpa using hq5
 have hef:U7 (iV++[x])=U7 iV:=by rw [wL,HIS.out,hi];simp
 refine wpIn_exit ?_
 refine Fc.vH ?_
 refine Fc.iD ?_
 exact ⟨(K7 n7).from _,KE.below n7,by simp only [hef];exact ⟨v,(n7.block _ (j4 hg)).trans hg,l5 how n7,n8,(n7.block _ (j4 rS)).trans rS,hbV.trans (n7.mono hbV.size)⟩⟩)
 . (
 have hi:is=true:=by simpa using hq5
 have hxn:x.n<=4294967296:=w3k (HIS.out.trans hi)
 obtain ⟨E,hE⟩:∃ y,eH x.w x.n=y:=⟨_,rfl⟩
 have hef:U7 (iV++[x])=U7 iV++[E]:=by rw [wL,HIS.out,hi,hE];simp
 have HE:=H9 hE;have HEF:=H9 hef;clear hE hef
 refine wpIn_skip ?_
 refine nx (iK1 _ _ ?_)
 refine wpIn_seq_k (fun _ iK1=> ?_)
 obtain ⟨s5,s6,s7,s8,M6⟩:=sS
 refine Inr.rgI (r:=some l) ?_
 obtain ⟨b22,b23,b24,b25,b21,b26,b27,b9⟩:=hf.B8 22 23 24 25 21 26 27 9
 refine Inr.cR fun K Z=> ?_
 go_simp
 apply Z.out;clear Z K
 refine Inr.cR fun K Z=> ?_
 go_simp
 apply Z.out;clear Z K
 refine Inr.cR fun K Z=> ?_
 go_simp
 apply Z.out;clear Z K
 refine Inr.cR fun K Z=> ?_
 go_simp
 go_at_call 127;refine (x0k V1 x.w x.n oM).mono ?_;rintro e V2 ⟨rfl,r9⟩
 rw [HE.out]
 simp only [eval]
 try dsimp only
 apply Z.out;clear Z K
 refine Inr.cR fun K Z=> ?_
 go_simp
 apply Z.out;clear Z K
 refine Inr.cR fun K Z=> ?_
 go_simp
 apply Z.out;clear Z K
 refine Inr.cR fun K Z=> ?_
 go_simp
 apply Z.out;clear Z K
 refine Inr.cR fun K Z=> ?_
 go_simp
 apply Z.out;clear Z K
 refine Inr.cR fun K Z=> ?_
 go_simp
 apply Z.out;clear Z K
 refine Inr.cR fun K Z=> ?_
 go_simp
 apply Z.out;clear Z K
 refine Inr.kW ?_
 refine B1 5 6 9 hf ?_
 clear hf s5 s6 s7 s8 M6 b22 b23 b24 b25 b21 b26 b27 b9;intro a7 hf sS
 generalize hV3:V2.alloc (.cells #[.string E.word,.int .u32 E.weight,.bool E.gone] 64)=V3
 obtain ⟨u0r,e0,e1,e2, -, -⟩:=G1 hV3
 clear hV3
 have cX:Below V.heap.size V V3:=(n7.trans (r9.mono n7.size)).trans (u0r.mono (Nat.le_trans n7.size r9.size))
 replace hg:=(cX.block _ (j4 hg)).trans hg;replace rS:=(cX.block _ (j4 rS)).trans rS;replace how:=l5 how cX
 have cg:=n5 0 hg
 simp at cg
 have fg:=j3 (i:=0) hg
 obtain ⟨es,hes⟩:∃ y,U7 iV=y:=⟨_,rfl⟩
 have hef:=HEF.out
 rw [hes] at how n8 hef
 have HES:=H9 hes;have v3h:=H9 hef;clear hes hef HEF
 refine nx (iK1 _ _ ?_)
 refine wpIn_seq_k (fun _ iK1=> ?_)
 obtain ⟨s5,s6,s9⟩:=sS
 refine Inr.rgI (r:=some l) ?_
 obtain ⟨b28,b29,b30,b31⟩:=hf.B4 28 29 30 31
 refine Inr.cR fun K Z=> ?_
 go_simp
 apply Z.out;clear Z K
 refine Inr.cR fun K Z=> ?_
 go_simp
 apply Z.out;clear Z K
 refine Inr.cR fun K Z=> ?_
 go_simp
 generalize hV4:V3.alloc (.cells #[.string E.word,.int .u32 E.weight,.bool E.gone] 64)=V4
 have y1i:=E7 V3 (z6.cells E) 64
 rw [show V3.alloc (.cells (z6.cells E).toArray 64)=V4 from hV4] at y1i
 have X6:Below V3.heap.size V3 V4:=by rw [<- hV4];exact (Below.refl _ _).alloc nR _
 clear hV4
 have x9s:=l5 how X6
 have hg4:=(X6.block _ (j4 hg)).trans hg
 apply Z.out;clear Z K
 refine Inr.cR fun K Z=> ?_
 refine J7 _ _ 29 rfl 64 _ 3 24 Tryz.underlying29 Y7 rfl dC dC ((w.heap.size+1+1)+1) v es.length (tJ es) (by simp [Act.eval,b28,b29,b30]) x9s V3.heap.size (z6.cells E) (by simp [Act.eval,b28,b29,b30]) rfl y1i (dK E) oM (by have:=X6.size;have:=cX.size;omega) (fun v5 V5 U5 aV P0=> ?_)
 have hk5:=KE.app x9s aV (N:=w.heap.size) (G:=(w.heap.size+1+1)) (Lr:=W3.heap.size+1) oM
 have w3h:V5.heap[(w.heap.size+1+1)]? =some (.cells #[v] 29 (0,0)):=(aV.block _ (j4 hg4) (fun e=>by have:=(World.ownsRow.lt x9s _ e.symm).1;omega)).trans hg4
 have cg5:=n5 0 w3h
 simp at cg5
 have fg5:=j3 (i:=0) w3h
 clear cg fg
 have Y5:OE V5 ((w.heap.size+1+1)+1) v5 (es++[E]):=by unfold OE;rw [List.length_append,K8];simpa [tJ] using U5
 obtain ⟨A6,n6,c6v,hl6,rfl⟩:∃ A n c,n=es.length+1/\v5= .slice A n c:=by obtain ⟨A6,c6,h, -⟩:=OE.form Y5;exact ⟨A6,_,c6,sP,h⟩
 have HL6:=H9 hl6;clear hl6
 apply Z.out;clear Z K
 refine Inr.cR fun K Z=> ?_
 go_simp
 apply Z.out;clear Z K
 refine Inr.kW ?_
 refine C1 5 6 hf ?_
 clear hf s5 s6 s9 b28 b29 b30 b31;intro a7 hf sS
 generalize hV6:V5.setCell ⟨(w.heap.size+1+1),0,none⟩ (.slice A6 n6 c6v)=V6
 have h6:V6.heap[(w.heap.size+1+1)]? =some (.cells #[(.slice A6 n6 c6v)] 29 (0,0)):=by rw [<- hV6];simpa using j5 (i:=0) w3h (.slice A6 n6 c6v)
 have jR:V5.grownBy V6 (some (w.heap.size+1+1)):=by rw [<- hV6];exact grownBy_setCell' V5 (w.heap.size+1+1) _
 have v3g:OE V6 ((w.heap.size+1+1)+1) (.slice A6 n6 c6v) (U7 (iV++[x])):=by rw [v3h.out];exact z2j (es:=es++[E]) Y5 jR oM
 have hkA:KE w.heap.size (w.heap.size+1+1) (W3.heap.size+1) V V6:=((KE.below (cX.trans (X6.mono cX.size))).trans hk5).trans (KE.turn jR oM)
 have v3f:V6.heap[(w.heap.size+1)]? =some (.cells #[.int .i64 nn] 3 (0,0)):=((hk5.trans (KE.turn jR oM)).kept _ _ oM oM oM (nE rfl) ((X6.block _ (j4 rS)).trans rS))
 have v3e:Below w.heap.size w V6:=((((hbV.trans (cX.mono hbV.size)).trans (X6.mono (Nat.le_trans hbV.size cX.size)))).grown aV (by have:=X6.size;have:=cX.size;have:=hbV.size;omega) (fun k e=>by have:=(World.ownsRow.lt x9s k e).1;omega)).grown jR (by have:=hk5.size;have:=X6.size;have:=cX.size;omega) (fun k e=>by cases e;omega)
 have c6:=n5 0 h6;have cn6:=n5 0 v3f
 simp at c6 cn6
 have hle:(U7 (iV++[x])).length=es.length+1:=by rw [v3h.out];simp
 have hL:∀ o,V.heap[W3.heap.size+1]? =some o->o.isCells=false->V6.heap[W3.heap.size+1]? =some o:=fun o h hc=>by have h13:=(cX.block _ (j4 h)).trans h;have h5:=x9u x9s aV ((X6.block _ (j4 h13)).trans h13) hc;exact (jR.block _ (j4 h5) (fun e=>by injection e with e;omega)).trans h5
 have HLE:=H9 hle;clear hle y1i U5 P0 hk5 Y5
 refine nx (iK1 _ _ ?_)
 refine wpIn_seq_k (fun _ iK1=> ?_)
 obtain ⟨s5,s6⟩:=sS
 refine Inr.rgI (r:=some l) ?_
 obtain ⟨b32,b33,b34⟩:=hf.B3 32 33 34
 refine Inr.cR fun K Z=> ?_
 go_simp
 apply Z.out;clear Z K
 refine Inr.cR fun K Z=> ?_
 go_simp
 apply Z.out;clear Z K
 refine Inr.cR fun K Z=> ?_
 go_simp
 apply Z.out;clear Z K
 refine Inr.cR fun K Z=> ?_
 go_simp
 apply Z.out;clear Z K
 refine Inr.kW ?_
 refine C1 6 35 hf ?_
 clear hf s5 s6 b32 b33 b34;intro a7 hf sS
 refine nx (iK1 _ _ ?_)
 refine wpIn_cond_split (Fc.k7 sS.2) (fun hq6=> ?_) (fun hq6=> ?_)
 . (
 refine wpIn_exit ?_
 refine Fc.lV dC ?_
 exact ⟨hkA.from,hkA,rfl,_,h6,v3g,by have:=HLE.out;have:=HL6.out;have h9:=beq_iff_eq.1 hq6;omega,v3e⟩)
 . (
 refine wpIn_skip ?_
 refine Fc.j7 ?_
 exact ⟨hkA.from,hkA,_,h6,v3g,by have:=HLE.out;have:=HL6.out;have h9:=beq_eq_false_iff_ne.1 hq6;omega,v3f,v3e⟩)))
 . (
 rintro D xs V hD rfl ⟨v,hg,how,n8,rS,hbV⟩ hDh
 refine Fc.reQ (n:=37) (ds:=[{ target:= .collected D,args:= #[] }]) hf.size (by rw [hf.defers]) (fun fr2 kJ hT2=> ?_)
 obtain ⟨s5,s6,s15⟩:=sS
 have s6:=(hT2 6).trans s6
 clear hT2 hf
 have hf:=kJ;clear kJ
 have hfv:L5 ss init s nn=U7 (walkS ss (wl s) ss.length (ss.length-1) ⟨#[]⟩ init true):=y6a hn1 n8
 obtain ⟨A9,n9,c9,rfl⟩:∃ A n c,v= .slice A n c:=by obtain ⟨A9,c9,h, -⟩:=OE.form how;exact ⟨_,_,_,h⟩
 have cg:=n5 0 hg
 simp at cg
 have fg:=j3 (i:=0) hg
 refine Fc.j7 (Zs b7 fun _ b7=>Zr [36] hf ?_)
 refine r6 6 hf ?_
 clear hf s6;intro a7 hf s6
 generalize kQ:V.setCell ⟨(w.heap.size+1+1),0,none⟩ (.slice A9 n9 c9)=W9
 have h6:W9.heap[(w.heap.size+1+1)]? =some (.cells #[(.slice A9 n9 c9)] 29 (0,0)):=by rw [<- kQ];simpa using j5 (i:=0) hg (.slice A9 n9 c9)
 have jR:V.grownBy W9 (some (w.heap.size+1+1)):=by rw [<- kQ];exact grownBy_setCell' V (w.heap.size+1+1) _
 have hbF:Below w.heap.size w W9:=by rw [<- kQ];exact hbV.setCell (p:=⟨(w.heap.size+1+1),0,none⟩) (by show w.heap.size<=w.heap.size+1+1;omega) _
 have x9t:OE W9 ((w.heap.size+1+1)+1) (.slice A9 n9 c9) (L5 ss init s nn):=by rw [hfv];exact z2j how jR oM
 refine Zx b7 (k8 ?_)
 exact y9d (G:=(w.heap.size+1+1)) (S:=fun V=>OE V ((w.heap.size+1+1)+1) ((.slice A9 n9 c9)) (L5 ss init s nn)) (j9.own (fun cur h=>by cases h)) rfl hf s6 h6 nR Tryz.isAgg29 (L4.one oM jR hDh) x9t (fun w' hw h9=>⟨_,rfl,L8 h9 oM,hbF.trans (hw.mono oM)⟩))
 . (
 rintro D c2 iV V hD hsp ⟨rfl,v,hg,how,hle,hbV⟩ hDh
 refine (wpIn_wide (n:=9)).2 ?_
 refine Fc.re (n:=37) (ds:=[{ target:= .collected D,args:= #[] }]) hf.size (by rw [hf.defers]) (fun fr2 kJ hT2=> ?_)
 obtain ⟨s5,s6,s15⟩:=sS
 have s6:=(hT2 6).trans s6
 clear hT2 hf
 have hf:=kJ;clear kJ
 have hfv:L5 ss init s nn=U7 iV:=y5z hn1 hsp hle
 refine wp_exit ?_
 obtain ⟨A9,n9,c9,rfl⟩:∃ A n c,v= .slice A n c:=by obtain ⟨A9,c9,h, -⟩:=OE.form how;exact ⟨_,_,_,h⟩
 have cg:=n5 0 hg
 simp at cg
 have fg:=j3 (i:=0) hg
 refine Fc.iD ?_
 refine Zs b7 fun _ b7=>Zr [36] hf ?_
 refine r6 6 hf ?_
 clear hf s6;intro a7 hf s6
 generalize kQ:V.setCell ⟨(w.heap.size+1+1),0,none⟩ (.slice A9 n9 c9)=W9
 have h6:W9.heap[(w.heap.size+1+1)]? =some (.cells #[(.slice A9 n9 c9)] 29 (0,0)):=by rw [<- kQ];simpa using j5 (i:=0) hg (.slice A9 n9 c9)
 have jR:V.grownBy W9 (some (w.heap.size+1+1)):=by rw [<- kQ];exact grownBy_setCell' V (w.heap.size+1+1) _
 have hbF:Below w.heap.size w W9:=by rw [<- kQ];exact hbV.setCell (p:=⟨(w.heap.size+1+1),0,none⟩) (by show w.heap.size<=w.heap.size+1+1;omega) _
 have x9t:OE W9 ((w.heap.size+1+1)+1) (.slice A9 n9 c9) (L5 ss init s nn):=by rw [hfv];exact z2j how jR oM
 refine Zx b7 (k8 ?_)
 exact y9d (G:=(w.heap.size+1+1)) (S:=fun V=>OE V ((w.heap.size+1+1)+1) ((.slice A9 n9 c9)) (L5 ss init s nn)) (j9.own (fun cur h=>by cases h)) rfl hf s6 h6 nR Tryz.isAgg29 (L4.one oM jR hDh) x9t (fun w' hw h9=>⟨_,rfl,L8 h9 oM,hbF.trans (hw.mono oM)⟩)))
theorem y5w (n:Nat):madeCells #[.int .i64 0] n=Array.replicate n (Value.int .i64 0):=by
 refine Array.ext (by rw [size_madeCells];simp) fun k h1 h2=> ?_
 simp [madeCells,Nat.mod_one]
theorem y5v (w:World) (n:Nat) (hn:n<=10000000):(Instr.makeSlice 202 (.int .i64 n) (.int .i64 n)).run Tryz.prog w= .ok (.slice (some ⟨w.heap.size,0,none⟩) n n) (w.alloc (.cells (Array.replicate n (Value.int .i64 0)) 3)):=by
 obtain ⟨i,hi,h2⟩:=Option.map_eq_some_iff.1 (show (Tryz.prog.info? 3).map (fun i=>(i.zero,i.size,i.bytes))=some (some (.int .i64 0),1,8) by kernel_rfl)
 obtain ⟨h3,h4,h5⟩:=(by simpa only [Prod.mk.injEq] using h2:_/\_/\_)
 have h:=run_makeSlice (P:=Tryz.prog) w 202 3 i _ Tryz.underlying202 hi h3 .i64 .i64 n n oM (Int.le_refl _) (by rw [h4];omega) (by rw [h5];omega) oM
 have e:(Value.int .i64 0).cells= #[.int .i64 0]:=rfl
 rw [h4,e,Int.toNat_natCast,Nat.mul_one,y5w] at h
 exact h
theorem y8y {w W:World} {a b c d:Array Value} {t u v x:TypeId} (h:(((w.alloc (.cells a t)).alloc (.cells b u)).alloc (.cells c v)).alloc (.cells d x)=W):Below w.heap.size w W/\W.heap[w.heap.size]? =some (.cells a t (0,0))/\W.heap[w.heap.size+1]? =some (.cells b u (0,0))/\W.heap[w.heap.size+1+1]? =some (.cells c v (0,0))/\W.heap[w.heap.size+1+1+1]? =some (.cells d x (0,0))/\W.heap.size=w.heap.size+1+1+2:=by
 subst h
 refine ⟨((((Below.refl _ _).alloc nR _).alloc sP _).alloc sO _).alloc sO _,?_,?_,?_,?_,sP⟩
 ·rw [u6,if_neg sO,u6,if_neg sO,u6,if_neg sP,u6,if_pos rfl]
 ·rw [u6,if_neg sP,u6,if_neg sP,u6,if_pos sP]
 ·rw [u6,if_neg sP,u6,if_pos sP]
 ·rw [u6,if_pos sP]
def RI (w:World) (G:Nat) (l:List Int):Prop:=w.heap[G]? =some (.cells (l.map (Value.int .i64)).toArray 3 (0,0))
theorem RI.start {w:World} {G n:Nat} {o:State->Int} {wi:Int->Int->Nat->Int} {ss:List State} (h:w.heap[G]? =some (.cells (Array.replicate n (Value.int .i64 0)) 3 (0,0))):RI w G (bT 0 n (o8 0 o wi (ss.take 0))):=by
 have e:bT (0:Int) n (o8 0 o wi (ss.take 0))=List.replicate n 0:=by simp [bT,o8]
 rw [e]
 unfold RI
 rw [List.map_replicate,List.toArray_replicate]
 exact h
theorem RI.cell {w:World} {G j:Nat} {x:Int} {l:List Int} (h:RI w G l) (hx:l[j]? =some x):w.cell? ⟨G,j,none⟩=some (.int .i64 x):=by
 have hc:=cell_of_row _ _ j _ 3 (0,0) h
 rw [hc]
 simp [hx]
theorem RI.frozen {w:World} {G j:Nat} {l:List Int} (h:RI w G l):w.frozen? ⟨G,j,none⟩=false:=j3 (i:=j) h
theorem RI.lt {w:World} {G:Nat} {l:List Int} (h:RI w G l):G<w.heap.size:=j4 h
theorem RI.later {w w':World} {G:Nat} {l:List Int} (h:RI w G l) (hb:Below w.heap.size w w'):RI w' G l:=(hb.block _ (j4 h)).trans h
theorem RI.stays {G B:Nat} {l:List Int} (hG:G<B):j9 (Z2 fun _=>False) B (fun W=>RI W G l):=j9.block (.inl hG)
theorem RI.set {w W:World} {G i:Nat} {l:List Int} {x:Int} (h:RI w G l) (hW:w.setCell ⟨G,i,none⟩ (.int .i64 x)=W):RI W G (l.set i x):=by
 subst hW
 have h2:=j5 (i:=i) h (.int .i64 x)
 unfold RI
 rw [h2,List.map_set]
 simp
theorem x9r {w W:World} {G i:Nat} {v:Value} (h:w.setCell ⟨G,i,none⟩ v=W):CK G w W/\KeepsOthers w W/\(∀ B,B<=G->Below B w W)/\W.heap.size=w.heap.size/\∀ k,k≠G->W.heap[k]? =w.heap[k]? :=by
 subst h
 exact ⟨(CK.refl G w).set (p:=⟨G,i,none⟩) rfl _,KeepsOthers.setCell _ _ _,fun B hB=>(Below.refl B w).setCell (p:=⟨G,i,none⟩) hB _,by simp [World.setCell],fun k hk=>Below.heap_setCell _ _ _ _ hk⟩
theorem z7l {g1 g2:Nat} (o:State->Int) (wi:Int->Int->Nat->Int) (w:World) (sv:Value) (init:Nat) (ss:List State) (o7:RS w sv ss) (hlen:ss.length<=1000000) (Ok:Nat->Int->Prop) (eg1:∀ args w,(callFunc g1 args).run Tryz.prog w= .ok (.enter g1 args) w) (eg2:∀ args w,(callFunc g2 args).run Tryz.prog w= .ok (.enter g2 args) w)
    (ho:∀ i st,ss[i]? =some st->Ok i (o st)) (hw:∀ i j x c u,Ok i x->j<i->Ok j c->u<18446744073709551616->Ok i (wi x c u)) (a8:∀ s∈ss,J8 s) (D5:∀ (k:Nat) (st:State),ss[k]? =some st->okArcs k (-1) st.a6=true)
    (F4:∀ (W:World) (av:Value) (i:Nat) (st:State),ss[i]? =some st->(∃ A n c,av= .slice A n c)->Calls Tryz.prog g1 #[.agg #[av,.bool st.final,.int .u64 st.out]] W fun e W'=>e= .returned (.int .i64 (o st))/\Below W.heap.size W W')
    (x9q:∀ (W:World) (i j:Nat) (x c:Int) (u:Nat),Ok i x->j<i->Ok j c->u<18446744073709551616->Calls Tryz.prog g2 #[.int .i64 (x),.int .i64 (c),.int .u64 u] W fun e W'=>e= .returned (.int .i64 ((wi x c u)))/\Below W.heap.size W W'):G4 w 105 #[.agg #[sv,.int .u64 init],.func (.func g1) #[] #[],.func (.func g2) #[] #[]] (.int .i64 (((o8 0 o wi ss).getLastD 0))):=by
 refine yQ Tryz.func105 rfl ?_
 refine Fc.en 62 fun fr hf hT=> ?_
 have s0:=hT 0 _ rfl
 have s1:=hT 1 _ rfl
 have s2:=hT 2 _ rfl
 clear hT
 obtain ⟨A,cc,rfl,Z3⟩:=o7.form
 have hmk:=fun w=>y5v w ss.length oM
 refine Ze fun _ b7=>Zr [] hf ?_
 refine C0 1 3 5 6 hf ?_
 clear hf s0 s1 s2;intro a7 hf sS
 refine Zs b7 fun _ b7=>Zr [12,13,14,15,7] hf ?_
 refine D0 1 3 5 6 7 hf ?_
 clear hf sS;intro a7 hf sS
 generalize Z4:(((w.alloc (.cells #[.slice A ss.length cc,.int .u64 init] 38)).alloc (.cells #[.func (.func g2) #[] #[]] 188)).alloc (.cells (Array.replicate ss.length (Value.int .i64 0)) 3)).alloc (.cells #[.slice (some ⟨w.heap.size+1+1,0,none⟩) ss.length ss.length] 202)=W1
 obtain ⟨n7,F1,C5,J2,tR,fK⟩:=y8y Z4
 clear Z4 hmk
 obtain ⟨G,hG⟩:∃ x,w.heap.size+1+1=x:=⟨_,rfl⟩
 obtain ⟨s1,s3,s5,s6,s7⟩:=sS
 rw [hG] at J2 tR s7 fK
 have hg0:w.heap.size<G:=oM
 have hg1:w.heap.size+1<G:=oM
 have c0:=n5 0 F1;have c1:=n5 1 F1;have d0:=n5 0 C5;have e0:=n5 0 tR
 simp at c0 c1 d0 e0
 have V8:RI W1 G (bT 0 ss.length (o8 0 o wi (ss.take 0))):=RI.start J2
 have N3:=o7.n.below n7
 clear F1 C5 J2 tR o7 hG
 refine Zs b7 fun _ b7=>Ze fun _ j8=>Zr [16,17] hf ?_
 refine nM 1 3 5 6 7 17 18 19 hf ?_
 clear hf s1 s3 s5 s6 s7;intro a7 hf sS
 refine Zx j8 (wp_block (wp_loop_ghost (fun gk fr wr=>∃ (i:Nat) (ds:List Deferred),gk=ss.length-i/\i<=ss.length/\Fc.J4 ds 62 fr/\fr.tmps[1]? =some (.func (.func g1) #[] #[])/\fr.tmps[3]? =some (.pointer (some ⟨w.heap.size,0,none⟩))/\fr.tmps[5]? =some (.pointer (some ⟨(w.heap.size+1),0,none⟩))/\fr.tmps[6]? =some (.int .i64 0)/\fr.tmps[7]? =some (.pointer (some ⟨(G+1),0,none⟩))/\fr.tmps[17]? =some (.slice A ss.length cc)/\fr.tmps[18]? =some (.int .i64 ss.length)/\fr.tmps[19]? =some (.int .i64 i)/\L4 G ds wr.heap.size wr/\CK G W1 wr/\RI wr G (bT 0 ss.length (o8 0 o wi (ss.take i)))/\oJ wr w.heap.size (.slice A ss.length cc) ss/\Below w.heap.size w wr) (ss.length) ?_ ?_))
 . (
 obtain ⟨s1,s3,s5,s6,s7,N7,S2,J6⟩:=sS
 exact ⟨0,[],rfl,Nat.zero_le _,hf,s1,s3,s5,s6,s7,N7,S2,J6,trivial,CK.refl _ _,V8,N3,n7⟩)
 . (
 clear hf sS
 clear V8 N3
 rintro gk fr wr ⟨i,ds,qZ,hi,hf,s1,s3,s5,s6,s7,N7,S2,J6,N5,Y9,V8,N3,hb⟩
 have HK:=H9 qZ;clear qZ
 refine Ze fun _ j8=>Zr [] hf ?_
 refine vE 1 3 5 6 7 17 18 19 20 hf ?_
 clear hf s1 s3 s5 s6 s7 N7 S2 J6;intro a7 hf sS
 refine Zs j8 fun _ j8=>Fc.l0 sS.2.2.2.2.2.2.2.2 (fun hq=> ?_) (fun hq=> ?_)
 . (
 have n8:i<ss.length:=qT
 clear hq
 obtain ⟨st,y8⟩:∃ x,ss[i]? =some x:=⟨_,D9 n8⟩
 obtain ⟨bb,off,av,hA0,hbN,D3⟩:=N3.at_ y8
 subst hA0
 have x0:=D3.c0;have x1:=D3.c1;have x2:=D3.c2
 obtain ⟨A2,c2,aE,hc2⟩:=D3.a6.form
 subst aE
 clear D3
 have F7:=Y9.1
 refine wp_skip (Zs j8 fun _ j8=>wp_block (Ze fun _ l6=>Zr [21,22,23,8,9] hf ?_))
 refine v7a 1 3 5 6 7 8 9 17 18 19 20 21 22 23 hf ?_
 clear hf sS;intro a7 hf sS
 generalize oQ:(wr.alloc (.cells #[.int .i64 i] 3)).alloc (.cells #[.slice A2 st.a6.length c2,.bool st.final,.int .u64 st.out] 46)=W4
 obtain ⟨X6,hp4,P6⟩:=F9 oQ
 clear oQ x0 x1 x2
 have k0:=n5 0 hp4;have y0:=n5 0 P6;have y1:=n5 1 P6;have y2:=n5 2 P6
 simp at k0 y0 y1 y2
 clear hp4 P6
 replace Y9:=Y9.trans (CK.r5 X6)
 replace N5:=N5.below X6.size X6
 replace V8:=V8.later X6
 replace N3:=N3.below (X6.mono hb.size)
 replace hb:=hb.trans (X6.mono hb.size)
 have kY:=Y9.2.1 _ _ sQ e0
 obtain ⟨q8,hq8⟩:∃ x,wr.heap.size=x:=⟨_,rfl⟩
 have w3g:G<q8:=by rw [<- hq8];omega
 obtain ⟨s1,s3,s5,s6,s7,s8,s9,N7,S2,J6,M6,N6,U9,S1⟩:=sS
 rw [hq8] at s8 s9 k0 y0 y1 y2 F7
 refine Zs l6 fun _ l6=>Sb.tb 62 fun a8=> ?_
 have lf:=H9 fun (w9:World) (h9:Below _ _ w9)=>ad (cL h9 kY) (ad (cL h9 k0) (ad (cL h9 y0) (ad (cL h9 y1) (cL h9 y2))))
 refine Sb.T 0 hf a8 ?_ (hF:=fun _ _ h d=>ad (Sb.O h s7) (lf.out _ h.ext))
 refine Sb.T 1 hf a8 ?_ (hF:=fun _ _ h d=>ad (Sb.O h s8) (lf.out _ h.ext))
 refine Sb.mO 2 s1 hf a8 ?_
 refine Sb.T 3 hf a8 ?_ (hF:=fun _ _ h d=>ad (Sb.O h s9) (lf.out _ h.ext))
 apply Sb.tq 4 _ hf a8
 . (
 intro a7 w1 hh hd hk K Z
 have Z1:=Sb.v 2 1 hd hk []
 have V0:=Sb.v 3 0 hd hk []
 clear hd
 have L7:=lf.out _ hh.ext;try clear kY k0 y0 y1 y2;obtain ⟨kY,k0,y0,y1,y2⟩:=L7
 refine fY (g:=g1) (args:= #[.agg #[.slice A2 st.a6.length c2,.bool st.final,.int .u64 st.out]]) (by simp [execOp,go_sem,Z1,V0,eg1]) (F4 _ _ _ _ y8 ⟨_,_,_,rfl⟩) ?_
 rintro e w2 ⟨rfl,hb⟩
 exact ⟨_,rfl,Z.out _ rfl _ _ hb rfl⟩)
 refine Tl.D7 (n:=62) (m:=5) (ws:=[]) kR hf.size a8.out rfl rfl kR (fun a7 w1 hh hg=> ?_)
 replace s1:=Sb.O hh s1
 replace s3:=Sb.O hh s3
 replace s5:=Sb.O hh s5
 replace s6:=Sb.O hh s6
 replace s7:=Sb.O hh s7
 replace s8:=Sb.O hh s8
 replace s9:=Sb.O hh s9
 replace N7:=Sb.O hh N7
 replace S2:=Sb.O hh S2
 replace J6:=Sb.O hh J6
 replace M6:=Sb.O hh M6
 replace N6:=Sb.O hh N6
 replace U9:=Sb.O hh U9
 replace S1:=Sb.O hh S1
 have gF:=Tl.u7 0 4 hg rfl rfl rfl rfl rfl
 have bQ:=Tl.u7 1 3 hg rfl rfl rfl rfl rfl
 have Z1:=Tl.u7 2 2 hg rfl rfl rfl rfl rfl
 have V0:=Tl.u7 3 1 hg rfl rfl rfl rfl rfl
 have bR:=Tl.u7 4 0 hg rfl rfl rfl rfl rfl
 have u3:Fc.J4 ds 62 a7:=⟨hh.size.trans hf.size,hh.defers.trans hf.defers⟩
 have hx:=hh.ext
 have L7:=lf.out _ hx;try clear kY k0 y0 y1 y2;clear lf;obtain ⟨kY,k0,y0,y1,y2⟩:=L7
 clear hg hh hf a8
 have hf:=u3;clear u3
 have b29:=hf.b 29
 replace Y9:=Y9.trans (CK.r5 hx)
 replace N5:=N5.below hx.size hx
 replace V8:=V8.later hx
 replace N3:=N3.below (hx.mono hb.size)
 replace hb:=hb.trans (hx.mono hb.size)
 have hvl:(o8 0 o wi (ss.take i)).length=i:=Q7 i hi
 have fz:=V8.frozen (j:=i)
 have hci:=V8.cell (D9 (by rw [rE oM];exact n8))
 refine Tl.D8 rfl rfl (fun K Z=> ?_)
 go_simp
 try rw [if_pos (by omega)]
 apply Z.out;clear Z K
 refine Tl.D8 rfl rfl (fun K Z=> ?_)
 go_simp
 apply Z.out;clear Z K
 refine Tl.J5 rfl ?_
 refine Fc.q hf (by simp only [Fc.G]) rfl fun a7 u3 hT=> ?_
 have G9:_/\_/\_/\_/\_/\_/\_/\_/\_/\_/\_/\_/\_/\_/\_/\_/\_/\_/\_/\_:=⟨hT 1,hT 3,hT 5,hT 6,hT 7,hT 8,hT 9,hT 17,hT 18,hT 19,hT 20,hT 21,hT 22,hT 23,hT 24,hT 25,hT 26,hT 27,hT 28,hT 29⟩
 simp (decide:=true) only [Fc.G,hf.size,reduceIte,s1,s3,s5,s6,s7,s8,s9,N7,S2,J6,M6,N6,U9,S1,gF,bQ,Z1,V0,bR] at G9
 replace hf:=u3;clear hT u3 s1 s3 s5 s6 s7 s8 s9 N7 S2 J6 M6 N6 U9 S1 gF bQ Z1 V0 bR b29
 obtain ⟨s1,s3,s5,s6,s7,s8,s9,N7,S2,J6,M6,N6,U9,S1,gF,bQ,Z1,V0,bR,bG⟩:=G9
 refine Zx l6 ?_
 generalize eC:w1.setCell ⟨G,i,none⟩ (.int .i64 (o st))=W5
 obtain ⟨S6, -,tE,hz5,hhs⟩:=x9r eC
 replace Y9:=Y9.trans S6
 replace N5:=N5.turn (Nat.le_of_eq hz5.symm) fun D hD _ hh=>(hhs D oM).trans hh
 replace V8:=V8.set eC
 replace N3:=N3.ck oM S6
 replace hb:=hb.trans (tE _ oM)
 have c0w:=Y9.2.1 _ _ sQ c0;have c1w:=Y9.2.1 _ _ sQ c1
 replace k0:=S6.2.1 _ _ sQ k0
 clear kY y0 y1 y2 fz hci eC hx hhs tE
 have x9o:=N3.rs
 refine Ze fun _ l6=>rg ?_
 have bB:=hf.B2 30 31
 iterate 2 refine Zy ?_
 refine Zc (yP W5 _ init i ss x9o) ?_;rintro e W6 ⟨rfl,u0,u1,v0,G7, -, -⟩
 have hN6:w.heap.size<=W5.heap.size:=hb.size
 clear x9o S6
 have w3f:=V8.lt
 replace Y9:=Y9.trans (CK.r5 G7)
 replace N5:=N5.below G7.size G7
 replace V8:=V8.later G7
 replace N3:=N3.below (G7.mono hb.size)
 replace hb:=hb.trans (G7.mono hb.size)
 replace k0:=cL G7 k0
 obtain ⟨q6,hq6⟩:∃ x,W5.heap.size=x:=⟨_,rfl⟩
 have hGq:G<q6:=by rw [<- hq6];exact w3f
 rw [hq6] at u0 u1 v0 |-
 skip
 refine Zv ?_
 refine Fc.nil ?_
 clear bB
 refine Fc.q hf (by simp only [Fc.G]) rfl fun a7 u3 hT=> ?_
 have G9:_/\_/\_/\_/\_/\_/\_/\_/\_/\_/\_/\_/\_/\_/\_/\_/\_/\_/\_/\_/\_/\_/\_:=⟨hT 1,hT 3,hT 5,hT 6,hT 7,hT 8,hT 9,hT 17,hT 18,hT 19,hT 20,hT 21,hT 22,hT 23,hT 24,hT 25,hT 26,hT 27,hT 28,hT 29,hT 30,hT 31,hT 32⟩
 simp (decide:=true) only [Fc.G,hf.size,reduceIte,s1,s3,s5,s6,s7,s8,s9,N7,S2,J6,M6,N6,U9,S1,gF,bQ,Z1,V0,bR,bG] at G9
 replace hf:=u3;clear hT u3 s1 s3 s5 s6 s7 s8 s9 N7 S2 J6 M6 N6 U9 S1 gF bQ Z1 V0 bR bG
 obtain ⟨s1,s3,s5,s6,s7,s8,s9,N7,S2,J6,M6,N6,U9,S1,gF,bQ,Z1,V0,bR,bG,s30,s31,s32⟩:=G9
 refine Zx l6 (wp_block ?_)
 have hGB:G<W6.heap.size:=V8.lt
 have hNB:w.heap.size<=W6.heap.size:=hb.size
 have bS:=D5 _ _ y8
 have hit:=wF (9-1) q6 (q6+1) G w.heap.size init i ss st _ W6 oM hGB hNB (by have:=hGq;omega) (by have:=hGq;omega) u0 u1 v0 N3 y8 oM bS (Nat.le_trans (rG bS (a8 _ (U0 y8))) oM)
 refine (wpIn_wide (n:=9)).1 ?_
 refine dG (C:=fun _=>False) (Fc.k7 s32) (enters_of Tryz.func156 kR rfl) hit CK.trans (fun W o o' ho hc _=>CK.put o' ho hc) (Below.refl _ _) (fun _=>rfl) (fun pre W=>CK G W6 W/\RI W G (((bT 0 ss.length (o8 0 o wi (ss.take i)))).set i (aP 0 wi (o8 0 o wi (ss.take i)) (o st) pre))/\Below w.heap.size w W/\L4 G ds W6.heap.size W) (fun _ _ _=>False) (fun s=>j9.and j9.ck (j9.and (RI.stays hGB) (j9.and (j9.below nR hNB) (j9.v4e nR)))) (fun _ _=>j9.pure _ _ _) ⟨CK.refl _ _,V8,hb,N5⟩ (fun (x:r7) a' W=>∃ Bx,(Fc.Fr 62 a'/\a'.tmps[5]? =some (.pointer (some ⟨(w.heap.size+1),0,none⟩))/\a'.tmps[7]? =some (.pointer (some ⟨(G+1),0,none⟩))/\a'.tmps[8]? =some (.pointer (some ⟨q8,0,none⟩))/\a'.tmps[11]? =some (.pointer (some ⟨Bx,0,none⟩)))/\(W.cell? ⟨Bx,0,none⟩=some (.int .i64 x.to)/\W.cell? ⟨Bx,1,none⟩=some (.int .u64 x.out))) (fun x a'=>j9.ex fun Bx=>j9.and (j9.pure _ _ _) (j9.and j9.cell j9.cell)) ?_ ?_ ?_ ?_
 . (
 rintro l pre x W K ⟨uK,yW,G5,cl1⟩ hKK
 refine oW (M:=fun a=>Code.wpIn _ _ _ _ _ a _) hf rfl rfl rfl fun a1 u3 h33 h34 hold=> ?_
 have s5:=(hold 5 rfl rfl).trans s5;have s7:=(hold 7 rfl rfl).trans s7;have s8:=(hold 8 rfl rfl).trans s8;have s34:=h34
 clear hold h33 h34
 have hf:=u3;clear u3
 refine Inr.rgI (r:=some l) ?_
 have b11:=hf.b 11
 refine Inr.cR fun K Z=> ?_
 go_simp
 apply Z.out;clear Z K
 refine Inr.cR fun K Z=> ?_
 go_simp
 apply Z.out;clear Z K
 refine Inr.kW ?_
 refine C0 5 7 8 11 hf ?_
 clear hf s5 s7 s8 s34 b11;intro a7 hf sS
 refine Fc.j6 ?_
 generalize eB:W.alloc (.cells #[.int .i64 x.to,.int .u64 x.out] 233)=W7
 obtain ⟨A8,b0,b1, -, -⟩:=Z8 eB
 obtain ⟨s5,s7,s8,C7⟩:=sS
 exact hKK _ _ ((K7 A8).from _) (CK.r5 A8) ⟨uK.trans (CK.r5 A8),yW.later A8,G5.trans (A8.mono G5.size),cl1.turn nR fun D _ _ hh=>(A8.block D (j4 hh)).trans hh⟩ ⟨_,⟨hf,s5,s7,s8,C7⟩,b0,b1⟩)
 . (
 clear hf s1 s3 s5 s6 s7 s8 s9 N7 S2 J6 M6 N6 U9 S1 gF bQ Z1 V0 bR bG s30 s31 s32
 rintro l pre x a1 W hl _ ⟨uK,yW,G5,cl1⟩ ⟨Bx,⟨hf,s5,s7,s8,C7⟩,z0,z1⟩ rR
 have hxm:x∈st.a6:=rR.subset sP
 have hxt:=C3 bS hxm
 obtain ⟨c,hc⟩:∃ c:Nat,x.to=(c:Int):=⟨x.to.toNat,oM⟩
 rw [hc] at z0
 have hci:c<i:=oM
 have okx:=y9e (z:=0) ho hw a8 D5 y8 pre ((List.prefix_append _ _).trans rR)
 have okc:=eU (z:=0) ho hw a8 D5 i hi c ((o8 0 o wi (ss.take i)).getD c 0) (by rw [List.getD_eq_getElem?_getD,D9 oM];rfl)
 have hou:=((a8 _ (U0 y8)).2.2 x hxm).2.1
 have uL:=dH (z:=0) (wi:=wi) (o8 0 o wi (ss.take i)) (o st) pre x
 rw [show x.to.toNat=c by omega] at uL
 obtain ⟨X,hX⟩:∃ y,aP 0 wi (o8 0 o wi (ss.take i)) (o st) pre=y:=⟨_,rfl⟩
 obtain ⟨Y,hY⟩:∃ y,(o8 0 o wi (ss.take i)).getD c 0=y:=⟨_,rfl⟩
 rw [hX] at okx uL yW
 rw [hY] at okc uL
 have rx:=y9f (z:=0) (n:=ss.length) X hvl n8
 have ry:=z7s (z:=0) (n:=ss.length) X hvl hci
 rw [hY] at ry
 have r1:=yW.cell (rx)
 have r2:=yW.cell (ry)
 clear rx ry
 have d0w:=uK.2.1 _ _ sQ (Y9.2.1 _ _ sQ d0);have kY:=uK.2.1 _ _ sQ (Y9.2.1 _ _ sQ e0);have k0w:=uK.2.1 _ _ (by simp only;have:=w3g;omega) k0
 have HX:=H9 hX;have HY:=H9 hY;have HC:=H9 hc;have HFS:=H9 uL;clear hX hY hc uL
 refine wpIn_block ?_
 refine Inr.z2v (r:=some l) (k:=62) (fun ⟨_,_,h⟩=>h) (Sb.OkOps.of kR) (fun a8=> ?_)
 have lf:=H9 fun (w9:World) (h9:Below _ _ w9)=>ad (cL h9 d0w) (ad (cL h9 kY) (ad (cL h9 k0w) (ad (cL h9 z0) (ad (cL h9 z1) (ad (cL h9 r1) (cL h9 r2))))))
 refine Sb.T 0 hf a8 ?_ (hF:=fun _ _ h d=>ad (Sb.O h s7) (lf.out _ h.ext))
 refine Sb.T 1 hf a8 ?_ (hF:=fun _ _ h d=>ad (Sb.O h s8) (lf.out _ h.ext))
 refine Sb.T 2 hf a8 ?_ (hF:=fun _ _ h d=>ad (Sb.O h s5) (lf.out _ h.ext))
 refine Sb.T 3 hf a8 ?_ (hF:=fun _ _ h d=>ad (Sb.O h s7) (lf.out _ h.ext))
 refine Sb.T 4 hf a8 ?_ (hF:=fun _ _ h d=>ad (Sb.O h s8) (lf.out _ h.ext))
 refine Sb.T 5 hf a8 ?_
 refine Sb.T 6 hf a8 ?_ (hF:=fun _ _ h d=>lf.out _ h.ext)
 refine Sb.T 7 hf a8 ?_ (hF:=fun _ _ h d=>ad (Sb.O h s7) (lf.out _ h.ext))
 refine Sb.T 8 hf a8 ?_ (hF:=fun _ _ h d=>Sb.O h C7)
 refine Sb.T 9 hf a8 ?_ (hF:=fun _ _ h d=>lf.out _ h.ext)
 refine Sb.T 10 hf a8 ?_
 refine Sb.T 11 hf a8 ?_ (hF:=fun _ _ h d=>lf.out _ h.ext)
 refine Sb.T 12 hf a8 ?_ (hF:=fun _ _ h d=>Sb.O h C7)
 refine Sb.T 13 hf a8 ?_ (hF:=fun _ _ h d=>lf.out _ h.ext)
 apply Sb.tq 14 _ hf a8
 . (
 intro a7 w1 hh hd hk K Z
 have s37:=Sb.v 2 11 hd hk []
 have s41:=Sb.v 6 7 hd hk []
 have s46:=Sb.v 11 2 hd hk []
 have s48:=Sb.v 13 0 hd hk []
 clear hd
 have L7:=lf.out _ hh.ext;try clear d0w kY k0w z0 z1 r1 r2;obtain ⟨d0w,kY,k0w,z0,z1,r1,r2⟩:=L7
 refine fY (g:=g2) (args:= #[.int .i64 (X),.int .i64 (Y),.int .u64 x.out]) (by simp [execOp,go_sem,s37,s41,s46,s48,eg2]) (x9q _ i c X Y x.out okx hci okc hou) ?_
 rintro e w2 ⟨rfl,T2⟩
 exact ⟨_,rfl,Z.out _ rfl _ _ T2 rfl⟩)
 refine Tl.D7 (n:=62) (m:=15) (ws:=[]) kR hf.size a8.out rfl rfl kR (fun a7 w1 hh hg=> ?_)
 have s35:=Tl.u7 0 14 hg rfl rfl rfl rfl rfl
 have vX:=Tl.u7 1 13 hg rfl rfl rfl rfl rfl
 have uA:=Tl.u7 14 0 hg rfl rfl rfl rfl rfl
 have u3:=hh.fr hf
 have hx:=hh.ext
 have L7:=lf.out _ hx;try clear d0w kY k0w z0 z1 r1 r2;clear lf;obtain ⟨d0w,kY,k0w,z0,z1,r1,r2⟩:=L7
 clear hg hh hf a8 s5 s7 s8 C7
 have hf:=u3;clear u3
 have b50:=hf.b 50
 have ri2:=yW.later hx
 have fz:=ri2.frozen (j:=i)
 refine Tl.D8 rfl rfl (fun K Z=> ?_)
 go_simp
 try rw [if_pos (by omega)]
 apply Z.out;clear Z K
 refine Tl.D8 rfl rfl (fun K Z=> ?_)
 go_simp
 apply Z.out;clear Z K
 refine Tl.J5 rfl ?_
 refine Zq0 hf ?_
 clear hf s35 vX uA b50;intro a7 hf
 refine Fc.j7 ?_
 generalize kQ:w1.setCell ⟨G,i,none⟩ (.int .i64 (wi X Y x.out))=W9
 obtain ⟨S6,hko,tE, -,hhs⟩:=x9r kQ
 refine ⟨((K7 hx).trans hko).from _,(CK.r5 hx).trans S6,(uK.trans (CK.r5 hx)).trans S6,?_,(G5.trans (hx.mono G5.size)).trans (tE _ oM),(cl1.turn nR fun D _ _ hh=>(hx.block D (j4 hh)).trans hh).turn nR fun D hD _ hh=>(hhs D oM).trans hh⟩
 have h:=ri2.set kQ
 rw [List.set_set] at h
 rw [HFS.out]
 exact h)
 . (
 clear k0
 rintro D xs W hD rfl ⟨uK,yW,G5,cl1⟩ hDh
 refine Fc.reQ (n:=62) (ds:={ target:= .collected D,args:= #[] }::ds) hf.size (by rw [hf.defers]) (fun fr2 kJ hT=> ?_)
 have s1:=(hT 1).trans s1
 have s3:=(hT 3).trans s3
 have s5:=(hT 5).trans s5
 have s6:=(hT 6).trans s6
 have s7:=(hT 7).trans s7
 have N7:=(hT 17).trans N7
 have S2:=(hT 18).trans S2
 have J6:=(hT 19).trans J6
 clear hT hf
 have hf:=kJ;clear kJ
 replace Y9:=Y9.trans uK
 replace N3:=N3.ck oM uK
 rw [wD _ hvl n8, <- R9 y8] at yW
 have w3c:L4 G ({ target:= .collected D,args:= #[] }::ds) W.heap.size W:=⟨D,rfl,Nat.lt_of_lt_of_le hGB hD,j4 hDh,hDh,cl1.turn hD fun _ _ _ hh=>hh⟩
 clear N5 uK cl1 V8 hb hit u0 u1 v0 hDh
 refine Fc.j7 (Fc.j7 (Zx j8 (Zr [51] hf ?_)))
 refine vE 1 3 5 6 7 17 18 19 51 hf ?_
 clear hf s1 s3 s5 s6 s7 N7 S2 J6;intro a7 hf sS
 refine Fc.j6 ?_
 obtain ⟨s1,s3,s5,s6,s7,N7,S2,J6,pS⟩:=sS
 exact ⟨_,by have:=HK.out;omega,i+1,_,rfl,oM,hf,s1,s3,s5,s6,s7,N7,S2,by rw [J6];rfl,w3c,Y9,yW,N3,G5⟩)
 . (
 rintro D c pre W _ _ h _
 exact h.elim))
 . (
 have F3:i=ss.length:=qF
 clear hq
 rw [F3,List.take_length] at V8
 have kY:=Y9.2.1 _ _ sQ e0
 rw [wE (M0 _)] at V8
 refine Zo ?_
 refine Zs b7 fun _ b7=>Ze fun _ j8=>Zr [52,53] hf ?_
 refine B1 6 7 54 hf ?_
 clear hf sS;intro a7 hf sS
 refine Zx j8 (Fc.l0 sS.2.2 (fun H7=> ?_) (fun H7=> ?_))
 . (
 obtain ⟨k,hk⟩:∃ k,ss.length=k+1:=⟨ss.length-1,by have h9:=of_decide_eq_true H7;omega⟩
 clear H7
 have e4:IntKind.i64.wrap ((ss.length:Int)-1)=(k:Int):=by rw [Fc.wrap_i64 oM oM];omega
 have hfl:=M0 (z:=0) (o:=o) (wi:=wi) ss
 have hkl:k<(o8 0 o wi ss).length:=oM
 have r1:=V8.cell (D9 hkl)
 have hgl:(o8 0 o wi ss).getLastD 0=(o8 0 o wi ss)[k]:=by rw [List.getLastD_eq_getLast?,List.getLast?_eq_getElem?,hfl,hk,Nat.add_sub_cancel,D9 hkl];rfl
 obtain ⟨X,hX⟩:∃ y,(o8 0 o wi ss)[k]=y:=⟨_,rfl⟩
 rw [hX] at hgl r1
 refine rg ?_
 have bB:=hf.B6 55 56 57 58 59 60
 iterate 3 refine Zy ?_
 refine fp fun K Z=> ?_
 go_simp
 try simp (disch:=omega) only [Fc.W]
 try rw [e4]
 apply Z.out;clear Z K
 iterate 3 refine Zy ?_
 refine Fc.nil (r6 6 hf ?_)
 clear hf sS bB;intro a7 hf s6
 refine Zs b7 fun _ b7=>Zr [61] hf ?_
 refine r6 6 hf ?_
 clear hf s6;intro a7 hf s6
 refine Zx b7 (k8 ?_)
 exact v4d rfl hf s6 N5 fun w' hw=>⟨by rw [hgl],hb.trans (hw.mono oM)⟩)
 . (
 have hn0:ss=[]:=by have h9:=of_decide_eq_false H7;exact List.length_eq_zero_iff.1 oM
 clear H7
 refine wp_skip (Zs b7 fun _ b7=>Zr [61] hf ?_)
 refine r6 6 hf ?_
 clear hf sS;intro a7 hf s6
 refine Zx b7 (k8 ?_)
 exact v4d rfl hf s6 N5 fun w' hw=>⟨by rw [hn0];rfl,hb.trans (hw.mono oM)⟩)))
end Dw
end Go.Proofs.YtcddnmhmcieebaaGreatDoor
