/- cedillaref05: Entries. -/
import Derived.Test.YtcddnmhmcieebaaGreatDoorY8
import Derived.Test.YtcddnmhmcieebaaGreatDoorTools
import Derived.Test.YtcddnmhmcieebaaGreatDoorDLawP
import Derived.Test.YtcddnmhmcieebaaGreatDoorY1
namespace Go.Proofs.YtcddnmhmcieebaaGreatDoor
set_option maxHeartbeats 4000000
set_option maxRecDepth 100000
open Go.RowKit
set_option linter.unusedSimpArgs false
set_option linter.unusedVariables false
set_option linter.unnecessarySimpa false
namespace Dw
theorem entries (w:World) (ds:List gK) (most:Nat) (hm:most<=1000) (v:Value) (hrd:RDs w w.heap.size v ds) (a8:∀ d∈ds,okD d):Calls Tryz.prog 29 #[v,.int .i64 most] w fun e w1=>∃ v1,e= .returned v1/\OE w1 w.heap.size v1 (bU ds most)/\Below w.heap.size w w1:=by
 refine aT 27 Tryz.func29 fun fr hf s0 s1=> ?_
 have t7m:=hrd
 obtain ⟨A,c,rfl,hlc⟩:=hrd.form
 clear hrd
 have HOK:=H9 a8;clear a8
 refine Ze fun _ b7=>Zr [] hf ?_
 refine C1 0 1 hf ?_
 clear hf s0 s1;intro a7 hf sS
 refine Zs b7 fun _ b7=>Zr [] hf ?_
 refine B1 0 1 5 hf ?_
 clear hf sS;intro a7 hf sS
 refine Zs b7 fun _ b7=>Ze fun _ j8=>Zr [] hf ?_
 refine C0 0 1 5 6 hf ?_
 clear hf sS;intro a7 hf sS
 refine Zx j8 (wp_block (wp_loop_ghost (fun gk fr wr=>∃ (j:Nat) (V:Value),gk=most-j/\j<=ds.length/\j<=most/\Fc.Fr 27 fr/\fr.tmps[0]? =some (.slice A ds.length c)/\fr.tmps[1]? =some (.int .i64 most)/\fr.tmps[5]? =some V/\fr.tmps[6]? =some (.int .i64 j)/\OE wr w.heap.size V ((ds.take j).map gK.ent)/\Below w.heap.size w wr) (most) ?_ ?_))
 . (
 obtain ⟨s0,s1,s5,s6⟩:=sS
 exact ⟨0,_,rfl,Nat.zero_le _,Nat.zero_le _,hf,s0,s1,s5,s6,OE.S0 _ _,Below.refl _ _⟩)
 . (
 clear hf sS
 rintro gk fr wr ⟨j,V,hk,hj,hjm,hf,s0,s1,s5,s6,how,hb⟩
 have HK:=H9 hk;clear hk
 rcases Nat.lt_or_ge j ds.length with n8 | nL
 . (
 rcases Nat.lt_or_ge j most with hlm | hlm
 . (
 have q1:decide (j<ds.length)=true:=decide_eq_true n8
 have q2:decide (j<most)=true:=decide_eq_true hlm
 refine Ze fun _ j8=>Ze fun _ l6=> ?_
 have qs:=And.intro q1 q2
 refine Zr [7,8,9,10,11,12,13,14] hf ?_
 refine D0 0 1 5 6 15 hf ?_
 clear hf s0 s1 s5 s6 qs;intro a7 hf sS
 refine Zx l6 (Fc.l8 sS.2.2.2.2 ?_)
 clear q1 q2
 obtain ⟨d,hd⟩:∃ d,ds[j]? =some d:=⟨_,D9 n8⟩
 obtain ⟨b,off,lv,rfl,uB,z0,z1,z2,hru⟩:=(t7m.below hb).at_ hd
 have z9v:=HOK.out d (U0 hd)
 have y8:(ds.take (j+1)).map gK.ent=(ds.take j).map gK.ent++[d.ent]:=by rw [List.take_add_one,hd];simp
 have hln:((ds.take j).map gK.ent).length<=1000000:=sO
 have X9:=H9 y8;clear y8 hd
 have hss:=hb.size
 obtain ⟨Ee,hEe⟩:∃ x,d.ent=x:=⟨_,rfl⟩
 obtain ⟨xs,gP⟩:∃ x,(ds.take j).map gK.ent=x:=⟨_,rfl⟩
 rw [gP] at how hln
 have HEe:=H9 hEe;have HXS:=H9 gP;clear hEe gP
 obtain ⟨Av,cv,rfl,xH⟩:=how.form
 refine wp_skip (Zs j8 fun _ j8=>wp_block (rg ?_))
 have bB:=hf.B8 18 19 20 21 22 23 24 25
 iterate 5 refine Zy ?_
 refine fp fun K Z=> ?_
 go_simp
 go_at_call 56;refine (w0r wr d lv (hru.more hss) z9v.1).mono ?_;rintro e w2 ⟨rfl,r9⟩
 rw [HEe.out]
 simp only [eval]
 have Q3:=l5 how r9
 have gC:=hb.trans (r9.mono hss)
 try dsimp only
 apply Z.out;clear Z K
 refine Zy ?_
 obtain ⟨s0,s1,s5,s6,s15⟩:=sS
 clear bB
 refine Fc.lQ (n:=27) (by simp only [Fc.G,hf.size]) hf.defers (fun a7 u3 hT=> ?_)
 have G9:=Fc.h6 hT 0 1 5 6 18 24
 simp (decide:=true) only [Fc.G,hf.size,reduceIte,s0,s1,s5,s6] at G9
 replace hf:=u3;clear hT u3 s0 s1 s5 s6 s15
 obtain ⟨s0,s1,s5,s6,S2,gF⟩:=G9
 have bB:=hf.b 25
 refine ⟨?_⟩
 refine wpList_plain rfl fun K5 U3=> ?_
 refine J7 _ _ 29 rfl 64 _ 3 24 Tryz.underlying29 Y7 rfl dC dC w.heap.size (.slice Av xs.length cv) xs.length _ (Fc.k7 S2) (Q3.alloc _) w2.heap.size Ee.cells (Fc.k7 gF) rfl (E7 w2 _ _) (dK Ee) oM (by have:=gC.size;simp;omega) (fun v5 w5 U5 aV P0=>U3 _ _ ?_)
 refine Fc.L.out ?_
 refine Zy ?_
 refine Fc.nil (C0 0 1 5 6 hf ?_)
 clear hf s0 s1 s5 s6 S2 gF bB;intro a7 hf sS
 have F2:=(gC.alloc gC.size _).grown aV (by have:=gC.size;simp;omega) (fun kk S3=>(Q3.lt kk S3).1)
 have Y5:OE w5 w.heap.size v5 (xs++[Ee]):=by unfold OE;rw [K8,List.length_append];exact U5
 refine Fc.j7 (Zx j8 (Zr [16,17] hf ?_))
 refine C0 0 1 5 6 hf ?_
 clear hf sS;intro a7 hf sS
 refine Fc.j6 ?_
 obtain ⟨s0,s1,s5,s6⟩:=sS
 exact ⟨_,by have:=HK.out;omega,j+1,v5,rfl,oM,oM,hf,s0,s1,s5,by rw [s6];rfl,by rw [X9.out,HXS.out,HEe.out];exact Y5,F2⟩)
 . (
 have q1:decide (j<ds.length)=true:=decide_eq_true oM
 have q2:decide (j<most)=false:=decide_eq_false oM
 refine Ze fun _ j8=>Ze fun _ l6=> ?_
 have qs:=And.intro q1 q2
 refine Zr [7,8,9,10,11,12,13,14] hf ?_
 refine D0 0 1 5 6 15 hf ?_
 clear hf s0 s1 s5 s6 qs;intro a7 hf sS
 refine Zx l6 (Fc.k9 sS.2.2.2.2 ?_)
 clear q1 q2
 have he:ds.take j=ds.take most:=by rw [show j=most by omega]
 rw [he] at how
 clear he
 refine Zo ?_
 refine Zs b7 fun _ b7=>Zr [26] hf ?_
 refine r6 4 hf ?_
 clear hf sS;intro a7 hf s4
 refine Zx b7 (k8 ?_)
 exact Fc.o9 rfl hf s4 ⟨_,rfl,how,hb⟩))
 . (
 have q1:decide (j<ds.length)=false:=decide_eq_false oM
 refine Ze fun _ j8=>Ze fun _ l6=> ?_
 have qs:=q1
 refine Zr [7,8,9,10,11,12,13,14] hf ?_
 refine D0 0 1 5 6 15 hf ?_
 clear hf s0 s1 s5 s6 qs;intro a7 hf sS
 refine Zx l6 (Fc.k9 sS.2.2.2.2 ?_)
 clear q1
 have he:ds.take j=ds.take most:=by rw [List.take_of_length_le oM,List.take_of_length_le oM]
 rw [he] at how
 clear he
 refine Zo ?_
 refine Zs b7 fun _ b7=>Zr [26] hf ?_
 refine r6 4 hf ?_
 clear hf sS;intro a7 hf s4
 refine Zx b7 (k8 ?_)
 exact Fc.o9 rfl hf s4 ⟨_,rfl,how,hb⟩))
theorem y8j:∀ x:List Nat,lexlt x x=false
 | []=>rfl
 | a::x=>by simp [lexlt,y8j x]
theorem tD:∀ x y:List Nat,lexlt x y=true->lexlt y x=false
 | _,[],h=>by rw [R2] at h;cases h
 | [],_::_,_=>rfl
 | a::x,b::y,h=>by
  simp only [lexlt,Bool.or_eq_true,Bool.and_eq_true,decide_eq_true_eq] at h
  simp only [lexlt,Bool.or_eq_false_iff,Bool.and_eq_false_iff,decide_eq_false_iff_not]
  rcases h with h | ⟨h1,h2⟩
  ·exact ⟨oM,.inl oM⟩
  ·exact ⟨oM,.inr (tD x y h2)⟩
theorem y8i:∀ x y:List Nat,lexlt x y=false->x≠y->lexlt y x=true
 | [],[],_,h=>absurd rfl h
 | [],_::_,h,_=>by simp [lexlt] at h
 | _::_,[],_,_=>by simp [lexlt]
 | a::x,b::y,h,hn=>by
  simp only [lexlt,Bool.or_eq_false_iff,Bool.and_eq_false_iff,decide_eq_false_iff_not] at h
  simp only [lexlt,Bool.or_eq_true,Bool.and_eq_true,decide_eq_true_eq]
  by_cases hab:a=b
  ·subst hab
   refine .inr ⟨rfl,y8i x y ?_ (fun e=>hn (by rw [e]))⟩
   rcases h.2 with h2 | h2
   ·exact absurd rfl h2
   ·exact h2
  ·exact .inl oM
theorem y4n (a b:ByteArray):(a.toList==b.toList)=decide (wl a=wl b):=by
 have h:∀ {x y:Bool},(x=true ↔ y=true)->x=y:=fun {x y} h=>by cases x<;>cases y<;>simp_all
 refine h ?_
 rw [beq_iff_eq,decide_eq_true_iff]
 constructor
 ·intro e;unfold wl;rw [<- ByteArray.toList_eq, <- ByteArray.toList_eq,e]
 ·intro e;rw [eM e]
theorem zK (a b:ByteArray):(!(lexlt (wl a) (wl b)||a.toList==b.toList))=lexlt (wl b) (wl a):=by
 rw [y4n]
 cases h1:lexlt (wl a) (wl b) with
 | true=>rw [tD _ _ h1];rfl
 | false =>
  by_cases h2:wl a=wl b
  ·rw [decide_eq_true h2,h2,y8j];rfl
  ·rw [decide_eq_false h2,y8i _ _ h1 h2];rfl
def lG (l:List z6) (e:z6):List z6:=l.takeWhile fun x=>lexlt (wl x.word) (wl e.word)
def uR (e x:z6):Bool:=lexlt (wl e.word) (wl x.word)
theorem x0r {es:List z6} {i:Nat} {q e:z6} (h:es[i]? =some q):lG (es.drop i) e=if lexlt (wl q.word) (wl e.word)=true then q::lG (es.drop (i+1)) e else []:=by
 rw [X7 h]
 unfold lG
 rw [List.takeWhile_cons]
theorem nB {es:List z6} {k:Nat} {q e:z6} (h:es[k]? =some q):lG es e++[A7 e]++(es.take (k+1)).filter (uR e)=lG es e++[A7 e]++((es.take k).filter (uR e)++if uR e q=true then [q] else []):=by
 rw [List.take_add_one,h,Option.toList_some,List.filter_append]
 congr 2
 simp only [List.filter_cons,List.filter_nil]
theorem nC (es:List z6) (e:z6) (k:Nat):(lG es e++[A7 e]++(es.take k).filter (uR e)).length<=2*es.length+1:=by
 have h1:=(List.takeWhile_prefix (fun x:z6=>lexlt (wl x.word) (wl e.word)) (l:=es)).length_le
 have h2:=List.length_filter_le (uR e) (es.take k)
 have h3:(es.take k).length<=es.length:=sO
 simp only [List.length_append,List.length_cons,List.length_nil]
 unfold lG
 omega
theorem one (w:World) (es:List z6) (B:Nat) (v:Value) (hB:B<=w.heap.size) (cS:RE w B v es) (hlen:es.length<=100000) (e:z6):Calls Tryz.prog 55 #[v,eval e] w fun e1 w1=>∃ v1,e1= .returned v1/\OE w1 w.heap.size v1 (tB es e)/\Below w.heap.size w w1:=by
 refine aT 58 Tryz.func55 fun fr hf s0 s1=> ?_
 have lF:=cS.any
 obtain ⟨A,cc,rfl,Z3⟩:=cS.form
 clear cS
 simp only [eval] at s1
 refine Ze fun _ b7=>Zr [] hf ?_
 refine C1 0 3 hf ?_
 clear hf s0 s1;intro a7 hf sS
 generalize Z4:w.alloc (.cells #[.string e.word,.int .u32 e.weight,.bool e.gone] 64)=W1
 obtain ⟨n7,x0,x1,x2, -,u9o⟩:=G1 Z4
 clear Z4
 have fK:w.heap.size<W1.heap.size:=by rw [u9o];exact Nat.lt_succ_self _
 clear u9o
 have hs1:=n7.size
 have sE:=(lF.below n7).any
 clear lF
 refine Zs b7 fun _ b7=>Zr [] hf ?_
 refine B1 0 3 5 hf ?_
 clear hf sS;intro a7 hf sS
 refine Zs b7 fun _ b7=>Ze fun _ j8=>Zr [] hf ?_
 refine C0 0 3 5 6 hf ?_
 clear hf sS;intro a7 hf sS
 refine Zx j8 (wp_block (wp_loop_ghost (fun gk fr wr=>∃ (i:Nat) (V:Value),gk=es.length-i/\i<=es.length/\Fc.Fr 58 fr/\fr.tmps[0]? =some (.slice A es.length cc)/\fr.tmps[3]? =some (.pointer (some ⟨w.heap.size,0,none⟩))/\fr.tmps[5]? =some V/\fr.tmps[6]? =some (.int .i64 i)/\OE wr W1.heap.size V (es.take i)/\lG es e=es.take i++lG (es.drop i) e/\Below W1.heap.size W1 wr) (es.length) ?_ ?_))
 . (
 obtain ⟨s0,s3,s5,s6⟩:=sS
 exact ⟨0,_,rfl,Nat.zero_le _,hf,s0,s3,s5,s6,OE.S0 _ _,rfl,Below.refl _ _⟩)
 . (
 clear hf sS
 rintro gk fr wr ⟨i,V,hk,hi,hf,s0,s3,s5,s6,how,htw,hb⟩
 have HK:=H9 hk;have HTW:=H9 htw;clear hk htw
 have y0:=cL hb x0;have y1:=cL hb x1;have y2:=cL hb x2
 rcases Nat.lt_or_ge i es.length with n8 | nL
 . (
 have q1:decide (i<es.length)=true:=decide_eq_true n8
 obtain ⟨q,hiq⟩:∃ q,es[i]? =some q:=⟨_,D9 n8⟩
 obtain ⟨b,off,rfl,qP,aF,d0,d1,d2⟩:=(sE.below hb).at_ hiq
 have y8:=x0r (e:=e) hiq
 have htk:es.take (i+1)=es.take i++[q]:=by rw [List.take_add_one,hiq];rfl
 have X9:=H9 y8;have HTK:=H9 htk;clear y8 htk hiq
 refine Ze fun _ j8=>Ze fun _ l6=>Sb.tb 58 fun a8=> ?_
 have lf:=H9 fun (w9:World) (h9:Below _ _ w9)=>ad (cL h9 d0) (ad (cL h9 d1) (ad (cL h9 d2) (ad (cL h9 y0) (ad (cL h9 y1) (ad (cL h9 y2) (l5 how h9))))))
 refine Sb.mO 0 s6 hf a8 ?_
 refine Sb.mO 1 s0 hf a8 ?_
 refine Sb.T 2 hf a8 ?_ (hF:=fun _ _ h d=>lf.out _ h.ext)
 refine Sb.T 3 hf a8 ?_
 refine Sb.mN 4 3 0 hf a8 [] ?_
 refine Sb.Tg 5 hf a8 ?_ (hF:=fun _ _ h d=>Sb.O h s0)
 refine Sb.Tg 6 hf a8 ?_ (hF:=fun _ _ h d=>Sb.O h s6)
 refine Sb.Tg 7 hf a8 ?_
 refine Sb.Tg 8 hf a8 ?_
 refine Sb.Tg 9 hf a8 ?_ (hF:=fun _ _ h d=>lf.out _ h.ext)
 refine Sb.Tg 10 hf a8 ?_ (hF:=fun _ _ h d=>Sb.O h s3)
 refine Sb.Tg 11 hf a8 ?_ (hF:=fun _ _ h d=>lf.out _ h.ext)
 refine Sb.Tg 12 hf a8 ?_
 refine Sb.T 13 hf a8 ?_
 refine Sb.E hf a8 (fun _ _ h g=>ad (Sb.O h s0) (ad (Sb.O h s3) (ad (Sb.O h s5) (ad (Sb.O h s6) (Sb.f 13 0 g))))) ?_
 clear hf a8 s0 s3 s5 s6;intro a7 w1 hf hx sS
 have L7:=lf.out _ hx;try clear d0 d1 d2 y0 y1 y2 how;clear lf;obtain ⟨d0,d1,d2,y0,y1,y2,how⟩:=L7
 refine Zx l6 (Fc.l0 sS.2.2.2.2 (fun hql=> ?_) (fun hql=> ?_))
 . (
 rw [bE] at hql
 clear q1
 replace hb:=hb.trans (hx.mono hb.size)
 have htn:lG es e=es.take (i+1)++lG (es.drop (i+1)) e:=by rw [HTW.out,X9.out,hql,if_pos rfl,HTK.out,List.append_assoc];rfl
 have HTN:=H9 htn;clear htn hql
 obtain ⟨xs,gP⟩:∃ x,es.take i=x:=⟨_,rfl⟩
 rw [gP] at how
 have hln:xs.length<=1000000:=by rw [<- gP];simp;omega
 have HXS:=H9 gP;clear gP
 obtain ⟨Av,cv,rfl,xH⟩:=OE.form (es:=xs) how
 have Q3:=how
 refine wp_skip (Zs j8 fun _ j8=>wp_block (rg ?_))
 have bB:=hf.B7 24 25 26 27 28 29 30
 iterate 6 refine Zy ?_
 obtain ⟨s0,s3,s5,s6,N6⟩:=sS
 clear bB
 refine Fc.lQ (n:=58) (by simp only [Fc.G,hf.size]) hf.defers (fun a7 u3 hT=> ?_)
 have G9:=Fc.h6 hT 0 3 5 6 24 29
 simp (decide:=true) only [Fc.G,hf.size,reduceIte,s0,s3,s5,s6] at G9
 replace hf:=u3;clear hT u3 s0 s3 s5 s6 N6
 obtain ⟨s0,s3,s5,s6,gF,bG⟩:=G9
 have bB:=hf.b 30
 refine ⟨?_⟩
 refine wpList_plain rfl fun K5 U3=> ?_
 refine J7 _ _ 29 rfl 64 _ 3 24 Tryz.underlying29 Y7 rfl dC dC W1.heap.size (.slice Av xs.length cv) xs.length _ (Fc.k7 gF) (how.alloc _) w1.heap.size q.cells (Fc.k7 bG) rfl (E7 w1 _ _) (dK q) oM (by have:=hb.size;simp;omega) (fun v5 w5 U5 aV P0=>U3 _ _ ?_)
 refine Fc.L.out ?_
 refine Zy ?_
 refine Fc.nil (C0 0 3 5 6 hf ?_)
 clear hf s0 s3 s5 s6 gF bG bB;intro a7 hf sS
 have F2:=(hb.alloc hb.size _).grown aV (by have:=hb.size;simp;omega) (fun kk S3=>(Q3.lt kk S3).1)
 have Y5:OE w5 W1.heap.size v5 (xs++[q]):=by unfold OE;rw [K8,List.length_append];exact U5
 refine Fc.j7 (Zx j8 (Zr [22,23] hf ?_))
 refine C0 0 3 5 6 hf ?_
 clear hf sS;intro a7 hf sS
 refine Fc.j6 ?_
 obtain ⟨s0,s3,s5,s6⟩:=sS
 exact ⟨_,by have:=HK.out;omega,i+1,v5,rfl,oM,hf,s0,s3,s5,by rw [s6];rfl,by rw [HTK.out,HXS.out];exact Y5,HTN.out,F2⟩)
 . (
 rw [bE] at hql
 clear q1
 replace hb:=hb.trans (hx.mono hb.size)
 have x7j:lG es e=es.take i:=by rw [HTW.out,X9.out,hql,if_neg sP];exact List.append_nil _
 clear hql
 refine Zo ?_
 refine Zx b7 ?_
 have HT2:=H9 x7j;clear x7j
 obtain ⟨xs,gP⟩:∃ x,es.take i=x:=⟨_,rfl⟩
 rw [gP] at how
 have hln:xs.length<=1000000:=by rw [<- gP];simp;omega
 have HXS:=H9 gP;clear gP
 obtain ⟨Av,cv,rfl,xH⟩:=OE.form (es:=xs) how
 refine Ze fun _ b7=>rg ?_
 have bB:=hf.B5 31 32 33 34 35
 iterate 2 refine Zy ?_
 refine fp fun K Z=> ?_
 go_simp
 go_at_call 93;refine (bare w1 e).mono ?_;rintro e w2 ⟨rfl,r9⟩
 generalize hEe:A7 e=Ee
 have HEe:=H9 hEe;clear hEe
 simp only [eval]
 have Q3:=l5 how r9
 have zL:=hb.trans (r9.mono hb.size)
 try dsimp only
 apply Z.out;clear Z K
 refine Zy ?_
 obtain ⟨s0,s3,s5,s6,N6⟩:=sS
 clear bB
 refine Fc.lQ (n:=58) (by simp only [Fc.G,hf.size]) hf.defers (fun a7 u3 hT=> ?_)
 have G9:=Fc.h5 hT 0 3 5 31 34
 simp (decide:=true) only [Fc.G,hf.size,reduceIte,s0,s3,s5] at G9
 replace hf:=u3;clear hT u3 s0 s3 s5 s6 N6
 obtain ⟨s0,s3,s5,s31,s34⟩:=G9
 have bB:=hf.b 35
 refine ⟨?_⟩
 refine wpList_plain rfl fun K5 U3=> ?_
 refine J7 _ _ 29 rfl 64 _ 3 24 Tryz.underlying29 Y7 rfl dC dC W1.heap.size (.slice Av xs.length cv) xs.length _ (Fc.k7 s31) (Q3.alloc _) w2.heap.size Ee.cells (Fc.k7 s34) rfl (E7 w2 _ _) (dK Ee) oM (by have:=zL.size;simp;omega) (fun v5 w5 U5 aV P0=>U3 _ _ ?_)
 refine Fc.L.out ?_
 refine Zy ?_
 refine Fc.nil (B1 0 3 5 hf ?_)
 clear hf s0 s3 s5 s31 s34 bB;intro a7 hf sS
 have F2:=(zL.alloc zL.size _).grown aV (by have:=zL.size;simp;omega) (fun kk S3=>(Q3.lt kk S3).1)
 have Y5:OE w5 W1.heap.size v5 (xs++[Ee]):=by unfold OE;rw [K8,List.length_append];exact U5
 refine Zs b7 fun _ b7=>Ze fun _ j8=>Zr [] hf ?_
 refine C0 0 3 5 7 hf ?_
 clear hf sS;intro a7 hf sS
 refine Zx j8 (wp_block (wp_loop_ghost (fun nJ fr mV=>∃ (k:Nat) (V2:Value),nJ=es.length-k/\k<=es.length/\Fc.Fr 58 fr/\fr.tmps[0]? =some (.slice (some ⟨b,off,none⟩) es.length cc)/\fr.tmps[3]? =some (.pointer (some ⟨w.heap.size,0,none⟩))/\fr.tmps[5]? =some V2/\fr.tmps[7]? =some (.int .i64 k)/\OE mV W1.heap.size V2 (lG es e++[A7 e]++(es.take k).filter (uR e))/\Below W1.heap.size W1 mV) (es.length) ?_ ?_))
 . (
 obtain ⟨s0,s3,s5,s7⟩:=sS
 exact ⟨0,v5,rfl,Nat.zero_le _,hf,s0,s3,s5,s7,by rw [HT2.out,HXS.out,HEe.out,List.take_zero,List.filter_nil,List.append_nil];exact Y5,F2⟩)
 . (
 clear hf sS
 rintro nJ fr mV ⟨k,V2,M5,t7j,hf,s0,s3,s5,s7,aA,D4⟩
 have HK2:=H9 M5;clear M5
 have z0:=cL D4 x0;have z1:=cL D4 x1;have z2:=cL D4 x2
 refine Ze fun _ j8=>Ze fun _ l6=>Zr [36,37,38] hf ?_
 refine D0 0 3 5 7 39 hf ?_
 clear hf s0 s3 s5 s7;intro a7 hf sS
 refine Zx l6 (Fc.l0 sS.2.2.2.2 (fun T3=> ?_) (fun T3=> ?_))
 . (
 have gG:k<es.length:=by have h9:=of_decide_eq_true T3;omega
 have HQ3:=H9 T3;clear T3
 obtain ⟨q,hkq⟩:∃ q,es[k]? =some q:=⟨_,D9 gG⟩
 obtain ⟨b2,x2u,gT,t7y,v2f,d0,d1,d2⟩:=(sE.below D4).at_ hkq
 injection gT with gT
 injection gT with gT he3
 subst gT;subst he3
 have uL:=nB (e:=e) hkq
 have HFS:=H9 uL;clear uL hkq
 obtain ⟨xs3,zM⟩:∃ x,lG es e++[A7 e]++(es.take k).filter (uR e)=x:=⟨_,rfl⟩
 have t7i:xs3.length<=1000000:=by rw [<- zM];have:=nC es e k;omega
 rw [zM] at aA
 have HX3:=H9 zM;clear zM
 refine wp_skip (Zs j8 fun _ j8=>wp_block (Ze fun _ l6=> ?_))
 obtain ⟨s0,s3,s5,s7,bM⟩:=sS
 refine Sb.tb 58 fun a8=> ?_
 have lf:=H9 fun (w9:World) (h9:Below _ _ w9)=>ad (cL h9 d0) (ad (cL h9 z0) (ad (cL h9 d1) (ad (cL h9 d2) (ad (cL h9 z1) (ad (cL h9 z2) (l5 aA h9))))))
 refine Sb.mO 0 s0 hf a8 ?_
 refine Sb.mO 1 s7 hf a8 ?_
 refine Sb.T 2 hf a8 ?_
 refine Sb.T 3 hf a8 ?_
 refine Sb.T 4 hf a8 ?_ (hF:=fun _ _ h d=>lf.out _ h.ext)
 refine Sb.T 5 hf a8 ?_ (hF:=fun _ _ h d=>Sb.O h s3)
 refine Sb.T 6 hf a8 ?_ (hF:=fun _ _ h d=>lf.out _ h.ext)
 refine Sb.T 7 hf a8 ?_
 refine Sb.E hf a8 (fun _ _ h g=>ad (Sb.O h s0) (ad (Sb.O h s3) (ad (Sb.O h s5) (ad (Sb.O h s7) (Sb.f 7 0 g))))) ?_
 clear hf a8 s0 s3 s5 s7 bM;intro a7 w1 hf hx sS
 have L7:=lf.out _ hx;try clear d0 z0 d1 d2 z1 z2 aA;clear lf;obtain ⟨d0,z0,d1,d2,z1,z2,aA⟩:=L7
 refine Zx l6 (Fc.l0 sS.2.2.2.2 (fun hqg=> ?_) (fun hqg=> ?_))
 . (
 rw [bE,zK] at hqg
 have dE:=D4.trans (hx.mono D4.size)
 have hgt:uR e q=true:=hqg
 have HGT:=H9 hgt;clear hgt hqg
 obtain ⟨Av3,cv3,rfl,t7f⟩:=OE.form (es:=xs3) aA
 have Q3:=aA
 refine rg ?_
 have bB:=hf.B7 50 51 52 53 54 55 56
 iterate 6 refine Zy ?_
 obtain ⟨s0,s3,s5,s7,uA⟩:=sS
 clear bB
 refine Fc.lQ (n:=58) (by simp only [Fc.G,hf.size]) hf.defers (fun a7 u3 hT=> ?_)
 have G9:=Fc.h6 hT 0 3 5 7 50 55
 simp (decide:=true) only [Fc.G,hf.size,reduceIte,s0,s3,s5,s7] at G9
 replace hf:=u3;clear hT u3 s0 s3 s5 s7 uA
 obtain ⟨s0,s3,s5,s7,yG,s55⟩:=G9
 have bB:=hf.b 56
 refine ⟨?_⟩
 refine wpList_plain rfl fun K5 U3=> ?_
 refine J7 _ _ 29 rfl 64 _ 3 24 Tryz.underlying29 Y7 rfl dC dC W1.heap.size (.slice Av3 xs3.length cv3) xs3.length _ (Fc.k7 yG) (aA.alloc _) w1.heap.size q.cells (Fc.k7 s55) rfl (E7 w1 _ _) (dK q) oM (by have:=dE.size;simp;omega) (fun v5 w5 U5 aV P0=>U3 _ _ ?_)
 refine Fc.L.out ?_
 refine Zy ?_
 refine Fc.nil (C0 0 3 5 7 hf ?_)
 clear hf s0 s3 s5 s7 yG s55 bB;intro a7 hf sS
 have F2:=(dE.alloc dE.size _).grown aV (by have:=dE.size;simp;omega) (fun kk S3=>(Q3.lt kk S3).1)
 have Y5:OE w5 W1.heap.size v5 (xs3++[q]):=by unfold OE;rw [K8,List.length_append];exact U5
 have q9:lG es e++[A7 e]++(es.take (k+1)).filter (uR e)=xs3++[q]:=by rw [HFS.out,HGT.out,if_pos rfl, <- List.append_assoc,HX3.out]
 have HF:=H9 q9;clear q9
 refine Fc.j7 (Zx j8 (Zr [40,41] hf ?_))
 refine C0 0 3 5 7 hf ?_
 clear hf sS;intro a7 hf sS
 refine Fc.j6 ?_
 obtain ⟨s0,s3,s5,s7⟩:=sS
 exact ⟨_,by have:=HK2.out;omega,k+1,_,rfl,oM,hf,s0,s3,s5,by rw [s7];rfl,by rw [HF.out];exact Y5,F2⟩)
 . (
 rw [bE,zK] at hqg
 have dE:=D4.trans (hx.mono D4.size)
 have hgt:uR e q=false:=hqg
 have HGT:=H9 hgt;clear hgt hqg
 have q9:lG es e++[A7 e]++(es.take (k+1)).filter (uR e)=xs3:=by rw [HFS.out,HGT.out,if_neg sP,List.append_nil,HX3.out]
 have HF:=H9 q9;clear q9
 have Y5:=aA
 have F2:=dE
 refine wp_skip (Fc.j7 (Zx j8 (Zr [40,41] hf ?_)))
 refine C0 0 3 5 7 hf ?_
 clear hf sS;intro a7 hf sS
 refine Fc.j6 ?_
 obtain ⟨s0,s3,s5,s7⟩:=sS
 exact ⟨_,by have:=HK2.out;omega,k+1,_,rfl,oM,hf,s0,s3,s5,by rw [s7];rfl,by rw [HF.out];exact Y5,F2⟩))
 . (
 have oR:k=es.length:=by have h9:=of_decide_eq_false T3;omega
 rw [oR,List.take_length] at aA
 clear T3 oR
 refine Zo ?_
 refine Zs b7 fun _ b7=>Zr [57] hf ?_
 refine r6 4 hf ?_
 clear hf sS;intro a7 hf s4
 refine Zx b7 (k8 ?_)
 exact Fc.o9 rfl hf s4 ⟨_,rfl,L8 aA hs1,n7.trans (D4.mono hs1)⟩))))
 . (
 have q1:decide (i<es.length)=false:=decide_eq_false oM
 refine Ze fun _ j8=>Ze fun _ l6=>Sb.tb 58 fun a8=> ?_
 have lf:=H9 fun (w9:World) (h9:Below _ _ w9)=>ad (cL h9 y0) (ad (cL h9 y1) (ad (cL h9 y2) (l5 how h9)))
 refine Sb.mO 0 s6 hf a8 ?_
 refine Sb.mO 1 s0 hf a8 ?_
 refine Sb.T 2 hf a8 ?_ (hF:=fun _ _ h d=>lf.out _ h.ext)
 refine Sb.T 3 hf a8 ?_
 refine Sb.mN 4 3 0 hf a8 [] ?_
 refine Sb.Tk 5 hf a8 ?_
 refine Sb.Tk 6 hf a8 ?_
 refine Sb.Tk 7 hf a8 ?_
 refine Sb.Tk 8 hf a8 ?_
 refine Sb.Tk 9 hf a8 ?_
 refine Sb.Tk 10 hf a8 ?_
 refine Sb.Tk 11 hf a8 ?_
 refine Sb.Tk 12 hf a8 ?_
 refine Sb.T 13 hf a8 ?_
 refine Sb.E hf a8 (fun _ _ h g=>ad (Sb.O h s0) (ad (Sb.O h s3) (ad (Sb.O h s5) (ad (Sb.O h s6) (Sb.f 13 0 g))))) ?_
 clear hf a8 s0 s3 s5 s6;intro a7 w1 hf hx sS
 have L7:=lf.out _ hx;try clear y0 y1 y2 how;clear lf;obtain ⟨y0,y1,y2,how⟩:=L7
 refine Zx l6 (Fc.k9 sS.2.2.2.2 ?_)
 clear q1
 have x7j:lG es e=es.take i:=by rw [HTW.out,List.drop_eq_nil_of_le oM];exact List.append_nil _
 replace hb:=hb.trans (hx.mono hb.size)
 refine Zo ?_
 refine Zx b7 ?_
 have HT2:=H9 x7j;clear x7j
 obtain ⟨xs,gP⟩:∃ x,es.take i=x:=⟨_,rfl⟩
 rw [gP] at how
 have hln:xs.length<=1000000:=by rw [<- gP];simp;omega
 have HXS:=H9 gP;clear gP
 obtain ⟨Av,cv,rfl,xH⟩:=OE.form (es:=xs) how
 refine Ze fun _ b7=>rg ?_
 have bB:=hf.B5 31 32 33 34 35
 iterate 2 refine Zy ?_
 refine fp fun K Z=> ?_
 go_simp
 go_at_call 93;refine (bare w1 e).mono ?_;rintro e w2 ⟨rfl,r9⟩
 generalize hEe:A7 e=Ee
 have HEe:=H9 hEe;clear hEe
 simp only [eval]
 have Q3:=l5 how r9
 have zL:=hb.trans (r9.mono hb.size)
 try dsimp only
 apply Z.out;clear Z K
 refine Zy ?_
 obtain ⟨s0,s3,s5,s6,N6⟩:=sS
 clear bB
 refine Fc.lQ (n:=58) (by simp only [Fc.G,hf.size]) hf.defers (fun a7 u3 hT=> ?_)
 have G9:=Fc.h5 hT 0 3 5 31 34
 simp (decide:=true) only [Fc.G,hf.size,reduceIte,s0,s3,s5] at G9
 replace hf:=u3;clear hT u3 s0 s3 s5 s6 N6
 obtain ⟨s0,s3,s5,s31,s34⟩:=G9
 have bB:=hf.b 35
 refine ⟨?_⟩
 refine wpList_plain rfl fun K5 U3=> ?_
 refine J7 _ _ 29 rfl 64 _ 3 24 Tryz.underlying29 Y7 rfl dC dC W1.heap.size (.slice Av xs.length cv) xs.length _ (Fc.k7 s31) (Q3.alloc _) w2.heap.size Ee.cells (Fc.k7 s34) rfl (E7 w2 _ _) (dK Ee) oM (by have:=zL.size;simp;omega) (fun v5 w5 U5 aV P0=>U3 _ _ ?_)
 refine Fc.L.out ?_
 refine Zy ?_
 refine Fc.nil (B1 0 3 5 hf ?_)
 clear hf s0 s3 s5 s31 s34 bB;intro a7 hf sS
 have F2:=(zL.alloc zL.size _).grown aV (by have:=zL.size;simp;omega) (fun kk S3=>(Q3.lt kk S3).1)
 have Y5:OE w5 W1.heap.size v5 (xs++[Ee]):=by unfold OE;rw [K8,List.length_append];exact U5
 refine Zs b7 fun _ b7=>Ze fun _ j8=>Zr [] hf ?_
 refine C0 0 3 5 7 hf ?_
 clear hf sS;intro a7 hf sS
 refine Zx j8 (wp_block (wp_loop_ghost (fun nJ fr mV=>∃ (k:Nat) (V2:Value),nJ=es.length-k/\k<=es.length/\Fc.Fr 58 fr/\fr.tmps[0]? =some (.slice A es.length cc)/\fr.tmps[3]? =some (.pointer (some ⟨w.heap.size,0,none⟩))/\fr.tmps[5]? =some V2/\fr.tmps[7]? =some (.int .i64 k)/\OE mV W1.heap.size V2 (lG es e++[A7 e]++(es.take k).filter (uR e))/\Below W1.heap.size W1 mV) (es.length) ?_ ?_))
 . (
 obtain ⟨s0,s3,s5,s7⟩:=sS
 exact ⟨0,v5,rfl,Nat.zero_le _,hf,s0,s3,s5,s7,by rw [HT2.out,HXS.out,HEe.out,List.take_zero,List.filter_nil,List.append_nil];exact Y5,F2⟩)
 . (
 clear hf sS
 rintro nJ fr mV ⟨k,V2,M5,t7j,hf,s0,s3,s5,s7,aA,D4⟩
 have HK2:=H9 M5;clear M5
 have z0:=cL D4 x0;have z1:=cL D4 x1;have z2:=cL D4 x2
 refine Ze fun _ j8=>Ze fun _ l6=>Zr [36,37,38] hf ?_
 refine D0 0 3 5 7 39 hf ?_
 clear hf s0 s3 s5 s7;intro a7 hf sS
 refine Zx l6 (Fc.l0 sS.2.2.2.2 (fun T3=> ?_) (fun T3=> ?_))
 . (
 have gG:k<es.length:=by have h9:=of_decide_eq_true T3;omega
 have HQ3:=H9 T3;clear T3
 obtain ⟨q,hkq⟩:∃ q,es[k]? =some q:=⟨_,D9 gG⟩
 obtain ⟨b,off,rfl,qP,aF,d0,d1,d2⟩:=(sE.below D4).at_ hkq
 have uL:=nB (e:=e) hkq
 have HFS:=H9 uL;clear uL hkq
 obtain ⟨xs3,zM⟩:∃ x,lG es e++[A7 e]++(es.take k).filter (uR e)=x:=⟨_,rfl⟩
 have t7i:xs3.length<=1000000:=by rw [<- zM];have:=nC es e k;omega
 rw [zM] at aA
 have HX3:=H9 zM;clear zM
 refine wp_skip (Zs j8 fun _ j8=>wp_block (Ze fun _ l6=> ?_))
 obtain ⟨s0,s3,s5,s7,bM⟩:=sS
 refine Sb.tb 58 fun a8=> ?_
 have lf:=H9 fun (w9:World) (h9:Below _ _ w9)=>ad (cL h9 d0) (ad (cL h9 z0) (ad (cL h9 d1) (ad (cL h9 d2) (ad (cL h9 z1) (ad (cL h9 z2) (l5 aA h9))))))
 refine Sb.mO 0 s0 hf a8 ?_
 refine Sb.mO 1 s7 hf a8 ?_
 refine Sb.T 2 hf a8 ?_
 refine Sb.T 3 hf a8 ?_
 refine Sb.T 4 hf a8 ?_ (hF:=fun _ _ h d=>lf.out _ h.ext)
 refine Sb.T 5 hf a8 ?_ (hF:=fun _ _ h d=>Sb.O h s3)
 refine Sb.T 6 hf a8 ?_ (hF:=fun _ _ h d=>lf.out _ h.ext)
 refine Sb.T 7 hf a8 ?_
 refine Sb.E hf a8 (fun _ _ h g=>ad (Sb.O h s0) (ad (Sb.O h s3) (ad (Sb.O h s5) (ad (Sb.O h s7) (Sb.f 7 0 g))))) ?_
 clear hf a8 s0 s3 s5 s7 bM;intro a7 w1 hf hx sS
 have L7:=lf.out _ hx;try clear d0 z0 d1 d2 z1 z2 aA;clear lf;obtain ⟨d0,z0,d1,d2,z1,z2,aA⟩:=L7
 refine Zx l6 (Fc.l0 sS.2.2.2.2 (fun hqg=> ?_) (fun hqg=> ?_))
 . (
 rw [bE,zK] at hqg
 have dE:=D4.trans (hx.mono D4.size)
 have hgt:uR e q=true:=hqg
 have HGT:=H9 hgt;clear hgt hqg
 obtain ⟨Av3,cv3,rfl,t7f⟩:=OE.form (es:=xs3) aA
 have Q3:=aA
 refine rg ?_
 have bB:=hf.B7 50 51 52 53 54 55 56
 iterate 6 refine Zy ?_
 obtain ⟨s0,s3,s5,s7,uA⟩:=sS
 clear bB
 refine Fc.lQ (n:=58) (by simp only [Fc.G,hf.size]) hf.defers (fun a7 u3 hT=> ?_)
 have G9:=Fc.h6 hT 0 3 5 7 50 55
 simp (decide:=true) only [Fc.G,hf.size,reduceIte,s0,s3,s5,s7] at G9
 replace hf:=u3;clear hT u3 s0 s3 s5 s7 uA
 obtain ⟨s0,s3,s5,s7,yG,s55⟩:=G9
 have bB:=hf.b 56
 refine ⟨?_⟩
 refine wpList_plain rfl fun K5 U3=> ?_
 refine J7 _ _ 29 rfl 64 _ 3 24 Tryz.underlying29 Y7 rfl dC dC W1.heap.size (.slice Av3 xs3.length cv3) xs3.length _ (Fc.k7 yG) (aA.alloc _) w1.heap.size q.cells (Fc.k7 s55) rfl (E7 w1 _ _) (dK q) oM (by have:=dE.size;simp;omega) (fun v5 w5 U5 aV P0=>U3 _ _ ?_)
 refine Fc.L.out ?_
 refine Zy ?_
 refine Fc.nil (C0 0 3 5 7 hf ?_)
 clear hf s0 s3 s5 s7 yG s55 bB;intro a7 hf sS
 have F2:=(dE.alloc dE.size _).grown aV (by have:=dE.size;simp;omega) (fun kk S3=>(Q3.lt kk S3).1)
 have Y5:OE w5 W1.heap.size v5 (xs3++[q]):=by unfold OE;rw [K8,List.length_append];exact U5
 have q9:lG es e++[A7 e]++(es.take (k+1)).filter (uR e)=xs3++[q]:=by rw [HFS.out,HGT.out,if_pos rfl, <- List.append_assoc,HX3.out]
 have HF:=H9 q9;clear q9
 refine Fc.j7 (Zx j8 (Zr [40,41] hf ?_))
 refine C0 0 3 5 7 hf ?_
 clear hf sS;intro a7 hf sS
 refine Fc.j6 ?_
 obtain ⟨s0,s3,s5,s7⟩:=sS
 exact ⟨_,by have:=HK2.out;omega,k+1,_,rfl,oM,hf,s0,s3,s5,by rw [s7];rfl,by rw [HF.out];exact Y5,F2⟩)
 . (
 rw [bE,zK] at hqg
 have dE:=D4.trans (hx.mono D4.size)
 have hgt:uR e q=false:=hqg
 have HGT:=H9 hgt;clear hgt hqg
 have q9:lG es e++[A7 e]++(es.take (k+1)).filter (uR e)=xs3:=by rw [HFS.out,HGT.out,if_neg sP,List.append_nil,HX3.out]
 have HF:=H9 q9;clear q9
 have Y5:=aA
 have F2:=dE
 refine wp_skip (Fc.j7 (Zx j8 (Zr [40,41] hf ?_)))
 refine C0 0 3 5 7 hf ?_
 clear hf sS;intro a7 hf sS
 refine Fc.j6 ?_
 obtain ⟨s0,s3,s5,s7⟩:=sS
 exact ⟨_,by have:=HK2.out;omega,k+1,_,rfl,oM,hf,s0,s3,s5,by rw [s7];rfl,by rw [HF.out];exact Y5,F2⟩))
 . (
 have oR:k=es.length:=by have h9:=of_decide_eq_false T3;omega
 rw [oR,List.take_length] at aA
 clear T3 oR
 refine Zo ?_
 refine Zs b7 fun _ b7=>Zr [57] hf ?_
 refine r6 4 hf ?_
 clear hf sS;intro a7 hf s4
 refine Zx b7 (k8 ?_)
 exact Fc.o9 rfl hf s4 ⟨_,rfl,L8 aA hs1,n7.trans (D4.mono hs1)⟩))))
def P3 (l:List z6):Prop:=l.Pairwise fun a b=>lexlt (wl a.word) (wl b.word)=true
theorem x7i (l:List z6) (e:z6):∀ x∈lG l e,lexlt (wl x.word) (wl e.word)=true:=by
 induction l with
 | nil=>intro x hx;cases hx
 | cons y l ih =>
  intro x hx
  unfold lG at hx
  rw [List.takeWhile_cons] at hx
  split at hx
  ·rename_i h
   rcases List.mem_cons.1 hx with rfl | hx
   ·exact h
   ·exact ih x hx
  ·cases hx
theorem z6d {l:List z6} (h:P3 l) (e:z6):P3 (tB l e):=by
 unfold P3 tB
 rw [List.pairwise_append,List.pairwise_append]
 refine ⟨⟨h.sublist (List.takeWhile_sublist _),List.pairwise_singleton _ _,fun a ha b hb=> ?_⟩,h.sublist List.filter_sublist,fun a ha b hb=> ?_⟩
 ·simp only [List.mem_singleton] at hb
  subst hb
  rw [jC]
  exact x7i l e a ha
 ·have hb:=(List.mem_filter.1 hb).2
  rcases List.mem_append.1 ha with ha | ha
  ·exact eF _ _ _ (x7i l e a ha) hb
  ·simp only [List.mem_singleton] at ha
   subst ha
   rw [jC]
   exact hb
theorem y4m (es:List z6) {l:List z6} (h:P3 l):P3 (cM l es):=by
 induction es generalizing l with
 | nil=>exact h
 | cons e es ih=>exact ih (z6d h e)
theorem zN {l:List z6} (h:P3 l) (e:z6):(lG l e).length+(l.filter (uR e)).length<=l.length:=by
 induction l with
 | nil=>simp [lG]
 | cons x l ih =>
  have ih:=ih (List.pairwise_cons.1 h).2
  unfold lG at ih |-
  simp only [List.takeWhile_cons,List.filter_cons]
  cases h1:lexlt (wl x.word) (wl e.word) with
  | true =>
   have hg:uR e x=false:=tD _ _ h1
   simp only [hg,Bool.false_eq_true,if_true,if_false,List.length_cons]
   omega
  | false =>
   have h2:=List.length_filter_le (uR e) l
   simp only [Bool.false_eq_true,if_false,List.length_nil,Nat.zero_add]
   split<;>simp only [List.length_cons]<;>omega
theorem z0y {l:List z6} (h:P3 l) (e:z6):(tB l e).length<=l.length+1:=by
 have:=zN h e
 unfold tB
 unfold lG uR at this
 simp only [List.length_append,List.length_cons,List.length_nil]
 omega
theorem nD (es:List z6) {l:List z6} (h:P3 l):(cM l es).length<=l.length+es.length:=by
 induction es generalizing l with
 | nil=>simp [cM]
 | cons e es ih =>
  have h1:=ih (z6d h e)
  have h2:=z0y h e
  show (cM (tB l e) es).length<=_
  simp only [List.length_cons]
  omega
theorem zP (es:List z6) (i:Nat):(cM [] (es.take i)).length<=es.length:=by
 have h1:=nD (es.take i) (l:=[]) List.Pairwise.nil
 have h2:(es.take i).length<=es.length:=sO
 simp only [List.length_nil,Nat.zero_add] at h1
 omega
theorem x0q {l:List z6} {e x:z6} (h:x∈tB l e):x∈l\/x=A7 e:=by
 unfold tB at h
 rcases List.mem_append.1 h with h | h
 ·rcases List.mem_append.1 h with h | h
  ·exact .inl ((List.takeWhile_sublist _).subset h)
  ·exact .inr (by simpa using h)
 ·exact .inl (List.mem_filter.1 h).1
theorem x7h (es:List z6) {l:List z6} {x:z6} (h:x∈cM l es):x∈l\/∃ e∈es,x=A7 e:=by
 induction es generalizing l with
 | nil=>exact .inl h
 | cons e es ih =>
  rcases ih (l:=tB l e) h with h1 | ⟨y,hy,h1⟩
  ·rcases x0q h1 with h2 | h2
   ·exact .inl h2
   ·exact .inr ⟨e,List.mem_cons_self ..,h2⟩
  ·exact .inr ⟨y,List.mem_cons_of_mem _ hy,h1⟩
theorem z0x (e:z6):A7 (A7 e)=A7 e:=by
 unfold A7
 cases h:e.gone<;>simp [h]
theorem x0p {ds:List gK} {n:Nat} (h:∀ d∈ds,okD d):∀ e∈bU ds n,gM e/\okW e.word=true/\A7 e=e:=by
 intro e he
 unfold bU at he
 obtain ⟨d,hd,rfl⟩:=List.mem_map.1 he
 exact ⟨x0t (h d (List.mem_of_mem_take hd)),x0s d,z0x _⟩
theorem z6c (ds:List gK) (n:Nat):(bU ds n).length<=n:=by unfold bU;simp;omega
theorem zB {ds:List gK} {n:Nat} (h:∀ d∈ds,okD d):(∀ e∈lD ds n,gM e/\okW e.word=true/\A7 e=e)/\P3 (lD ds n)/\(lD ds n).length<=n:=by
 refine ⟨fun e he=> ?_,y4m _ List.Pairwise.nil,?_⟩
 ·rcases x7h _ he with h1 | ⟨x,hx,rfl⟩
  ·cases h1
  ·obtain ⟨h2,h3,h4⟩:=x0p h x hx
   rw [h4]
   exact ⟨h2,h3,h4⟩
 ·have h1:=nD (bU ds n) (l:=[]) List.Pairwise.nil
  have h2:=z6c ds n
  simp only [List.length_nil,Nat.zero_add] at h1
  unfold lD
  omega
theorem eP:∀ (l:List z6) (p:Option (List Nat)),(∀ e∈l,okW e.word=true)->P3 l->(∀ q,p=some q->∀ e,l.head? =some e->lexlt q (wl e.word)=true)->chkL p l=0
 | [],_,_,_,_=>rfl
 | e::l,p,hw,hr,hp=>by
  have hr:=List.pairwise_cons.1 hr
  have ih:=eP l (some (wl e.word)) (fun x hx=>hw x (List.mem_cons_of_mem _ hx)) hr.2 (fun q hq x hx=>by injection hq with hq;subst hq;exact hr.1 x (List.mem_of_mem_head? hx))
  simp only [chkL,hw e (List.mem_cons_self ..),if_true,ih]
  cases p with
  | none=>rfl
  | some q=>simp only [hp q rfl e rfl,if_true]
theorem u9m (w:World) (es:List z6) (B:Nat) (v:Value) (hB:B<=w.heap.size) (cS:RE w B v es) (hlen:es.length<=1000):Calls Tryz.prog 28 #[.slice none 0 0,v] w fun e w1=>∃ v1,e= .returned v1/\OE w1 w.heap.size v1 (cM [] es)/\Below w.heap.size w w1:=by
 refine aT 22 Tryz.func28 fun fr hf s0 s1=> ?_
 have lF:=cS.any
 obtain ⟨A,cc,rfl,Z3⟩:=cS.form
 clear cS
 refine Ze fun _ b7=>Zr [] hf ?_
 refine C1 0 1 hf ?_
 clear hf s0 s1;intro a7 hf sS
 refine Zt b7 fun _ b7=> ?_
 have bB:=hf.B2 7 8
 refine Zy ?_
 obtain ⟨s0,s1⟩:=sS
 clear bB
 refine Fc.lQ (n:=22) (by simp only [Fc.G,hf.size]) hf.defers (fun a7 u3 hT=> ?_)
 have G9:=Fc.h2 hT 1 7
 simp (decide:=true) only [Fc.G,hf.size,reduceIte,s1] at G9
 replace hf:=u3;clear hT u3 s0 s1
 obtain ⟨s1,s7⟩:=G9
 have bB:=hf.b 8
 refine ⟨?_⟩
 refine wpList_plain rfl fun K5 U3=> ?_
 refine xW _ _ 29 rfl 64 _ 3 24 Tryz.underlying29 Y7 rfl dC dC w.heap.size _ 0 [] rfl (World.ownsRow_nil _ _ _ _) none 0 0 [] (Fc.k7 s7) rfl (fun h=>absurd h sP) sP oM nR (fun v5 w5 U5 aV P0=>U3 _ _ ?_)
 refine Fc.L.out ?_
 refine Zy ?_
 refine Fc.nil (C1 1 5 hf ?_)
 clear hf s1 s7 bB;intro a7 hf sS
 have F2:Below w.heap.size w w5:=(Below.refl _ w).grown aV nR (fun kk S3=>by cases S3)
 have Y5:OE w5 w.heap.size v5 []:=U5
 refine Zs b7 fun _ b7=>Ze fun _ j8=>Zr [] hf ?_
 refine B1 1 5 6 hf ?_
 clear hf sS;intro a7 hf sS
 refine Zx j8 (wp_block (wp_loop_ghost (fun gk fr wr=>∃ (i:Nat) (V:Value),gk=es.length-i/\i<=es.length/\Fc.Fr 22 fr/\fr.tmps[1]? =some (.slice A es.length cc)/\fr.tmps[5]? =some V/\fr.tmps[6]? =some (.int .i64 i)/\OE wr w.heap.size V (cM [] (es.take i))/\Below w.heap.size w wr) (es.length) ?_ ?_))
 . (
 obtain ⟨s1,s5,s6⟩:=sS
 exact ⟨0,v5,rfl,Nat.zero_le _,hf,s1,s5,s6,Y5,F2⟩)
 . (
 clear hf sS
 rintro gk fr wr ⟨i,V,hk,hi,hf,s1,s5,s6,how,hb⟩
 have HK:=H9 hk;clear hk
 refine Ze fun _ j8=>Ze fun _ l6=>Zr [9,10,11] hf ?_
 refine C0 1 5 6 12 hf ?_
 clear hf s1 s5 s6;intro a7 hf sS
 refine Zx l6 (Fc.l0 sS.2.2.2 (fun hq=> ?_) (fun hq=> ?_))
 . (
 have n8:i<es.length:=qT
 have HQ:=H9 hq;clear hq
 obtain ⟨q,hiq⟩:∃ q,es[i]? =some q:=⟨_,D9 n8⟩
 obtain ⟨b,off,rfl,qP,aF,d0,d1,d2⟩:=(lF.below hb).at_ hiq
 have y8:cM [] (es.take (i+1))=tB (cM [] (es.take i)) q:=by rw [List.take_add_one,hiq];simp [cM]
 have X9:=H9 y8;clear y8 hiq
 obtain ⟨xs,gP⟩:∃ x,cM [] (es.take i)=x:=⟨_,rfl⟩
 rw [gP] at how
 have u9l:=zP es i;rw [gP] at u9l
 have hln:xs.length<=100000:=oM
 have HXS:=H9 gP;clear gP u9l
 obtain ⟨Av,cv,rfl,xH⟩:=OE.form (es:=xs) how
 have sE:=OE.re (es:=xs) how
 refine wp_skip (Zs j8 fun _ j8=>wp_block (rg ?_))
 have bB:=hf.B6 15 16 17 18 19 20
 iterate 5 refine Zy ?_
 refine Zc (one wr xs _ _ nR sE hln q) ?_;rintro e w2 ⟨v2,rfl,Q3,r9⟩
 refine Zv ?_
 refine Zy ?_
 refine Fc.nil (B1 1 5 6 hf ?_)
 clear hf sS bB;intro a7 hf sS
 refine Fc.j7 (Zx j8 (Zr [13,14] hf ?_))
 refine B1 1 5 6 hf ?_
 clear hf sS;intro a7 hf sS
 refine Fc.j6 ?_
 obtain ⟨s1,s5,s6⟩:=sS
 exact ⟨_,by have:=HK.out;omega,i+1,v2,rfl,oM,hf,s1,s5,by rw [s6];rfl,by rw [X9.out,HXS.out];exact L8 Q3 hb.size,hb.trans (r9.mono hb.size)⟩)
 . (
 have oR:i=es.length:=qF
 rw [oR,List.take_length] at how
 clear hq oR
 refine Zo ?_
 refine Zs b7 fun _ b7=>Zr [21] hf ?_
 refine r6 4 hf ?_
 clear hf sS;intro a7 hf s4
 refine Zx b7 (k8 ?_)
 exact Fc.o9 rfl hf s4 ⟨_,rfl,how,hb⟩))
theorem v1v (w:World) (ds:List gK) (most:Nat) (hm:most<=1000) (v:Value) (hrd:RDs w w.heap.size v ds) (a8:∀ d∈ds,okD d):Calls Tryz.prog 10 #[v,.int .i64 most] w fun e w1=>∃ v1,e= .returned v1/\OE w1 w.heap.size v1 (lD ds most)/\Below w.heap.size w w1:=by
 refine aT 9 Tryz.func10 fun fr hf s0 s1=> ?_
 refine Ze fun _ b7=>Zr [] hf ?_
 refine C1 0 1 hf ?_
 clear hf s0 s1;intro a7 hf sS
 refine Zt b7 fun _ b7=> ?_
 have bB:=hf.B4 5 6 7 8
 iterate 2 refine Zy ?_
 refine Zc (entries w ds most hm v hrd a8) ?_;rintro e w1 ⟨v1,rfl,nZ,n7⟩
 have sE:=OE.re nZ
 have qR:(bU ds most).length<=1000:=by unfold bU;simp;omega
 refine Zv ?_
 refine Zc (u9m w1 (bU ds most) _ v1 nR sE qR) ?_;rintro e w2 ⟨v2,rfl,Q3,r9⟩
 refine Zv ?_
 refine Zy ?_
 refine Fc.nil (r6 4 hf ?_)
 clear hf sS bB;intro a7 hf s4
 refine Zx b7 (k8 ?_)
 exact Fc.o9 rfl hf s4 ⟨_,rfl,L8 Q3 n7.size,n7.trans (r9.mono n7.size)⟩
def shift (b o:Nat) (e:Wv):Wv:=(b::e.1,o+e.2)
def H2 (s:State):List Wv:=if s.final then [([],s.out)] else []
def wds (ss:List State):Nat->Nat->List Wv
 | 0,k=>match ss[k]? with | none=>[] | some s=>H2 s
 | m+1,k=>match ss[k]? with | none=>[] | some s=>H2 s++s.a6.flatMap fun a=>(wds ss m a.to.toNat).map (shift a.byte a.out)
def qE (n:Nat) (e:Wv):Wv:=(e.1,e.2-n)
def rel (l:List Wv):List Wv:=l.map (qE (leastV l))
theorem z0w (ss:List State) (s:State):(finish ss s).1[(finish ss s).2]? =some s:=by
 by_cases h:s∈ss
 ·obtain ⟨i,h1,h2,h3⟩:=kG h
  rw [h3];exact h1
 ·rw [hH h]
  simp
theorem x0o {ss SS:List State} (h:ss <+: SS) {k:Nat} {s:State} (hk:ss[k]? =some s):SS[k]? =some s:=by
 obtain ⟨r,rfl⟩:=h
 rw [List.getElem?_append_left (E2 hk).1,hk]
theorem Q1 {SS:List State} {k:Nat} {s:State} (h:SS[k]? =some s) (m:Nat):wds SS (m+1) k=H2 s++s.a6.flatMap fun a=>(wds SS m a.to.toNat).map (shift a.byte a.out):=by
 simp only [wds,h]
theorem fR {SS:List State} {k:Nat} {s:State} (h:SS[k]? =some s) (hs:s.a6=[]):∀ m,wds SS m k=H2 s
 | 0=>by simp only [wds,h]
 | m+1=>by simp [wds,h,hs]
theorem gB {l:List Wv}:∀ e∈l,leastV l<=e.2:=fun e he=>(M8 (List.ne_nil_of_mem he)).2 e.2 (List.mem_map_of_mem he)
theorem C9.mono {f g:Nat} {l:List Wv} (h:C9 f l) (hfg:f<=g):C9 g l:=fun e he=>Nat.lt_of_lt_of_le (h e he) hfg
section
variable {f:Nat} (IH:∀ (l:List Wv) (ss SS:List State) (m:Nat),C9 f l->l≠[]->L6 l->Inv ss->C9 (m+1) l->(K f ss l).1 <+: SS->wds SS m (K f ss l).2=rel l)
include IH
theorem z6b (SS:List State) (m le:Nat):∀ (gs:List (Nat×List Wv)) (ss:List State) (dX:List r7),(∀ x∈gs,x.2≠[]/\L6 x.2/\C9 f x.2)->(∀ x∈gs,C9 (m+1) x.2/\∀ e∈x.2,le<=e.2)->Inv ss->(arcsN (N f) ss dX gs).1 <+: SS ->
  ∃ news,(arcsN (N f) ss dX gs).2=dX++news/\(news.flatMap fun a=>(wds SS m a.to.toNat).map (shift a.byte (a.out-le)))=(flat gs).map (qE le)
 | [],ss,dX,_,_,hi,_=>⟨[],by simp [arcsN],rfl⟩
 | (b,g)::gs,ss,dX,hg,hm,hi,hp=>by
  obtain ⟨g1,g2,g3⟩:=hg (b,g) (List.mem_cons_self ..)
  obtain ⟨i1,hk⟩:=z4y f g ss g3 g1 g2 hi
  have h9:arcsN (N f) ss dX ((b,g)::gs)=arcsN (N f) (K f ss g).1 (dX++[⟨b,leastOf (N f ss g).2,((K f ss g).2:Int)⟩]) gs:=rfl
  rw [h9] at hp |-
  obtain ⟨news,e1,e2⟩:=z6b SS m le gs (K f ss g).1 (dX++[⟨b,leastOf (N f ss g).2,((K f ss g).2:Int)⟩]) (fun x hx=>hg x (List.mem_cons_of_mem _ hx)) (fun x hx=>hm x (List.mem_cons_of_mem _ hx)) i1 hp
  obtain ⟨_,_,_,hA⟩:=oG f (z4y f) gs (K f ss g).1 (dX++[⟨b,leastOf (N f ss g).2,((K f ss g).2:Int)⟩]) (fun x hx=>hg x (List.mem_cons_of_mem _ hx)) i1
  refine ⟨⟨b,leastOf (N f ss g).2,((K f ss g).2:Int)⟩::news,by rw [e1];simp,?_⟩
  obtain ⟨hm1,fU⟩:=hm (b,g) (List.mem_cons_self ..)
  rw [List.flatMap_cons,e2]
  simp only [Int.toNat_natCast]
  rw [IH g ss SS m g3 g1 g2 hi hm1 (hA.pre.trans hp),oF f g ss g3 g1 g2]
  have hfl:flat ((b,g)::gs)=g.map (pre [b])++flat gs:=by simp [flat]
  rw [hfl,List.map_append]
  congr 1
  unfold rel
  rw [List.map_map,List.map_map]
  refine List.map_congr_left fun e he=> ?_
  have h1:=gB e he
  have h2:=M8 (l:=g) g1
  obtain ⟨e',he',hle⟩:=List.mem_map.1 h2.1
  have h3:le<=e'.2:=fU e' he'
  show (b::e.1,_)=([b]++e.1,_)
  refine Prod.ext rfl ?_
  show leastV g-le+(e.2-leastV g)=e.2-le
  omega
end
theorem uS {l m:List Wv} (h:l=(if (finOf l).1 then [([],(finOf l).2)] else [])++m) (hm:∀ x∈m,x.1≠[]) (hl:C9 1 l):m=[]:=by
 cases m with
 | nil=>rfl
 | cons x m =>
  have h1:=hm x (List.mem_cons_self ..)
  have h2:=hl x (by rw [h];exact List.mem_append_right _ (List.mem_cons_self ..))
  exact absurd (List.eq_nil_of_length_eq_zero oM) h1
theorem w9u:∀ (f:Nat) (l:List Wv) (ss SS:List State) (m:Nat),C9 f l->l≠[]->L6 l->Inv ss->C9 (m+1) l->(K f ss l).1 <+: SS->wds SS m (K f ss l).2=rel l
 | 0,[],ss,_,_,_,hn,_,_,_,_=>absurd rfl hn
 | 0,e::l,ss,_,_,hl,_,_,_,_,_=>absurd (hl e (List.mem_cons_self ..)) oM
 | f+1,l,ss,SS,m,hl,hn,hr,hi,hm,hp=>by
  obtain ⟨r,p1,p2,p3,p4,p5,p6⟩:=parts hr
  have hmr:∀ e∈r,e∈l:=fun e he=>by rw [p1];exact List.mem_append_right _ he
  have F6:=hl.group hmr p3
  have hg:∀ x∈groups l,x.2≠[]/\L6 x.2/\C9 f x.2:=fun x hx=>by rw [p2] at hx;exact ⟨(p3.some_ x hx).1,(p3.some_ x hx).2,F6 x hx⟩
  obtain ⟨_,_,_,hA⟩:=oG f (z4y f) (groups l) ss [] hg hi
  have hK:K (f+1) ss l=finish (arcsN (N f) ss [] (groups l)).1 (less (N (f+1) ss l).2 (leastV l)):=by
   unfold K
   rw [oF (f+1) l ss hl hn hr]
   rfl
  have rR:(arcsN (N f) ss [] (groups l)).1 <+: (K (f+1) ss l).1:=by
   rw [hK]
   unfold finish
   split
   ·exact List.prefix_refl _
   ·exact List.prefix_append _ _
  have gJ:=x0o hp (by rw [hK];exact z0w _ _)
  rw [<- hK] at gJ
  have T9:∀ x∈groups r,∀ e∈x.2,pre [x.1] e∈l:=fun x hx e he=>hmr _ (by rw [p3.flat];exact pF hx he)
  have key:∀ e∈l,leastV l<=e.2:=gB
  have u3:H2 (less (N (f+1) ss l).2 (leastV l))=(if (finOf l).1 then [([],(finOf l).2)] else []).map (qE (leastV l)):=by
   show (if (finOf l).1 then [([],if (finOf l).1 then (finOf l).2-leastV l else (finOf l).2)] else ([]:List Wv))=_
   cases (finOf l).1<;>rfl
  have u9k:rel l=(if (finOf l).1 then [([],(finOf l).2)] else []).map (qE (leastV l))++r.map (qE (leastV l)):=by
   unfold rel
   rw [<- List.map_append, <- p1]
  cases m with
  | zero =>
   have cQ:=uS p1 p5 hm
   subst cQ
   have hg0:groups l=[]:=p2
   rw [fR gJ (by show ((arcsN (N f) ss [] (groups l)).2.map _)=[];rw [hg0];rfl),u3,u9k]
   simp
  | succ m =>
   obtain ⟨news,e1,e2⟩:=z6b (w9u f) SS m (leastV l) (groups l) ss [] hg (fun x hx=>by
    rw [p2] at hx
    refine ⟨fun e he=> ?_,fun e he=> ?_⟩
    ·have:=hm _ (T9 x hx e he)
     simp [pre] at this
     omega
    ·exact key (pre [x.1] e) (T9 x hx e he)) hi (rR.trans hp)
   rw [Q1 gJ m,u3,u9k]
   congr 1
   have u9j:r=flat (groups l):=by rw [p2];exact p3.flat
   have e3:(N (f+1) ss l).2.a6=news:=by show (arcsN (N f) ss [] (groups l)).2=news;rw [e1];rfl
   rw [u9j, <- e2,fG,e3,List.flatMap_map]
/-! words tell l3 apart -/
theorem iH:∀ (l:List r7) (i:Nat) (last:Int),okArcs i last l=true->∀ a∈l,0<=a.to/\a.to.toNat<i:=fun l i last h a ha=>by
 have:=N8 l i last h a ha
 omega
theorem z6u {SS:List State} (hi:Inv SS):∀ (m k:Nat) (s:State),k<=m->SS[k]? =some s->∃ e∈wds SS m k,e.2=0:=by
 have hz:∀ (k:Nat) (s:State),SS[k]? =some s->(s.final=true/\s.out=0)\/∃ a∈s.a6,a.out=0:=fun k s h=>by
  have hg:=hi.S7 k s h
  have ho:F8 s≠[]:=by
   unfold F8
   rcases hg.some_ with h | h
   ·simp [h]
   ·intro h2
    exact h (by simpa using (List.append_eq_nil_iff.1 h2).2)
  have h0:=(L3 ho).1
  rw [hg.zero] at h0
  unfold F8 at h0
  rcases List.mem_append.1 h0 with h0 | h0
  ·cases hf:s.final with
   | false=>rw [hf] at h0;simp at h0
   | true=>rw [hf] at h0;simp at h0;exact .inl ⟨rfl,h0.symm⟩
  ·obtain ⟨a,ha,h1⟩:=List.mem_map.1 h0
   exact .inr ⟨a,ha,h1⟩
 intro m
 induction m with
 | zero =>
  intro k s hk h
  obtain rfl:k=0:=oM
  rcases hz 0 s h with ⟨h1,h2⟩ | ⟨a,ha,_⟩
  ·exact ⟨([],s.out),by simp only [wds,h,H2,if_pos h1];simp,h2⟩
  ·have:=iH _ _ _ (hi.S7 0 s h).a6 a ha
   omega
 | succ m ih =>
  intro k s hk h
  rw [Q1 h]
  rcases hz k s h with ⟨h1,h2⟩ | ⟨a,ha,h2⟩
  ·exact ⟨([],s.out),by simp [H2,h1],h2⟩
  ·have h3:=iH _ _ _ (hi.S7 k s h).a6 a ha
   have n8:=(E2 h).1
   obtain ⟨e,he,h4⟩:=ih a.to.toNat SS[a.to.toNat] oM (D9 oM)
   exact ⟨shift a.byte a.out e,List.mem_append_right _ (List.mem_flatMap.2 ⟨a,ha,List.mem_map_of_mem he⟩),by show a.out+e.2=0;omega⟩
theorem cZ (F:r7->List Wv):∀ (l:List r7) (i:Nat) (last:Int),okArcs i last l=true->∀ e∈l.flatMap (fun a=>(F a).map (shift a.byte a.out)),∃ b w,e.1=b::w/\last<(b:Int)
 | [],_,_,_,e,he=>by simp at he
 | a::l,i,last,h,e,he=>by
  simp only [okArcs,Bool.and_eq_true,decide_eq_true_eq] at h
  rcases List.mem_append.1 (by simpa [List.flatMap_cons] using he:e∈(F a).map (shift a.byte a.out)++l.flatMap (fun a=>(F a).map (shift a.byte a.out))) with he | he
  ·obtain ⟨x,_,rfl⟩:=List.mem_map.1 he
   exact ⟨a.byte,x.1,rfl,h.1.2⟩
  ·obtain ⟨b,w,h1,h2⟩:=cZ F l i a.byte h.2 e he
   exact ⟨b,w,h1,by have:=h.1.2;omega⟩
def sub (l:List Wv) (p:List Nat):List Wv:=(l.filter fun e=>p.isPrefixOf e.1).map fun e=>(e.1.drop p.length,e.2)
section
variable {f:Nat} (IHB:∀ (l:List Wv) (ss SS:List State) (m:Nat),C9 f l->l≠[]->L6 l->Inv ss->C9 (m+1) l->(K f ss l).1 <+: SS->∀ k,ss.length<=k->k<(K f ss l).1.length->∃ e∈l,∃ p,p <+: e.1/\wds SS m k=rel (sub l p))
 (IHA:∀ (l:List Wv) (ss SS:List State) (m:Nat),C9 f l->l≠[]->L6 l->Inv ss->C9 (m+1) l->(K f ss l).1 <+: SS->∀ e∈l,∀ p,p <+: e.1->∃ k,k<SS.length/\wds SS m k=rel (sub l p))
include IHB IHA
end
end Dw
end Go.Proofs.YtcddnmhmcieebaaGreatDoor
