/- fst: walk: behind. -/
import Derived.Test.YtcddnmhmcieebaaGreatDoorY19
import Derived.Test.YtcddnmhmcieebaaGreatDoorTools
namespace Go.Proofs.YtcddnmhmcieebaaGreatDoor
set_option maxHeartbeats 4000000
set_option maxRecDepth 100000
open Go.RowKit
set_option linter.unusedSimpArgs false
set_option linter.unusedVariables false
set_option linter.unnecessarySimpa false
namespace Dw
theorem x2y (a b:Bool):a=false\/(a=true/\b=true)\/(a=true/\b=false):=by cases a<;>cases b<;>simp
theorem y0a {pre own:List Wd} (g:r7->List Wd) {xs ys:List r7} {x:r7} (h:xs++[x] <+: ys):(pre++own++xs.flatMap g)++g x <+: pre++(own++ys.flatMap g):=by
 obtain ⟨z,rfl⟩:=h
 exact ⟨z.flatMap g,sP⟩
theorem x2x (V:World) (g y:Nat) (h:V.cell? ⟨g,0,none⟩=some (.int .u8 y)):(convert 31 9 (.slice (some ⟨g,0,none⟩) 1 1)).run Tryz.prog V= .ok (.string (bl [y])) V :=
 run_convert_bytes_arg (P:=Tryz.prog) _ 31 5 Tryz.underlying31 Tryz.underlying5 g 0 1 1 [(y:Int)] rfl (fun i hi=>by have h0:i=0:=(by omega);subst h0;exact h) 9 Tryz.underlying9
theorem L4.w3r {G:Nat} {W:World}:L4 G [] 0 W:=trivial
theorem L4.v3t {G D:Nat} {W:World} (hG:G<D) (h:W.heap[D]? =some (.deferred (some []))):L4 G [{ target:= .collected D,args:= #[] }] W.heap.size W:=⟨D,rfl,hG,j4 h,h,trivial⟩
theorem L4.one {G D:Nat} {W W9:World} (hG:G<D) (hg:W.grownBy W9 (some G)) (h:W.heap[D]? =some (.deferred (some []))):L4 G [{ target:= .collected D,args:= #[] }] W9.heap.size W9:=L4.v3t hG ((hg.block D (j4 h) (fun e=>by injection e with e;omega)).trans h)
def Rb (F:World->Prop) (M:Nat) (J Jx:List Wd->World->Prop) (T:List Wd) (W:World) (pre xs:List Wd) (e:Ending) (W':World):Prop :=
 (e= .returned (.bool true)/\J (pre++xs) W'/\KC F M W W')\/(e= .returned (.bool false)/\(∃ s,s <+: T/\Jx s W')/\KC F M W W')
theorem x9z {F:World->Prop} {M:Nat} {J Jx:List Wd->World->Prop} {T:List Wd} {W W':World} {pre xs:List Wd} {e:Ending} (h:Rb F M J Jx T W pre xs e W'):∃ b:Bool,e= .returned (.bool b)/\((b=true/\J (pre++xs) W'/\KC F M W W')\/(b=false/\(∃ s,s <+: T/\Jx s W')/\KC F M W W')):=kX h
theorem KI.res {F:World->Prop} {M B0 g:Nat} {A B:World} {o:Obj} (hF:Low F M) (hM:M<=g) (h:A.heap[g]? =some o) (h9:B.heap[g]? =some o) (hg:A.grownBy B (some g)):KI F M B0 A B :=
 ⟨hg.size,fun x=>hF A B (some g) x hg (fun r e=>by cases e;exact hM),fun k o2 _ _ _ hk=>by
  by_cases e:k=g
  ·subst e;rw [h] at hk;rw [h9];exact hk
  ·exact (hg.block k (j4 hk) (fun e2=>by injection e2 with e2;exact e e2)).trans hk⟩
theorem y6d (m:Nat) (F:World->Prop) (M:Nat) (oA:Low F M) (pf pt py pb:Nat) (from_:ByteArray) (hfz:from_.size<=1000000000) (sv:Value) (init:Nat) (ss:List State) (L:Nat) (J Jx:List Wd->World->Prop) (T:List Wd)
    (hF:∀ {V:World},F V->V.cell? ⟨pf,0,none⟩=some (.string from_)/\V.cell? ⟨pt,0,none⟩=some sv/\V.cell? ⟨pt,1,none⟩=some (.int .u64 init)/\V.cell? ⟨py,0,none⟩=some (.func (.yield L) #[] #[])/\V.cell? ⟨pb,0,none⟩=some (.func (.func 152) #[] #[.pointer (some ⟨pf,0,none⟩),.pointer (some ⟨pt,0,none⟩),.pointer (some ⟨py,0,none⟩),.pointer (some ⟨pb,0,none⟩)])/\RS V sv ss)
    (hY:∀ pre x W1,J pre W1->F W1->pre++[x] <+: T->YieldAt Fence.wide (m-1) Tryz.prog L x.args W1 fun e W'=>(e= .returned (.bool true)/\J (pre++[x]) W'/\KC F M W1 W')\/(e= .returned (.bool false)/\Jx (pre++[x]) W'/\KC F M W1 W'))
    (hJ:∀ s,j9 Cw M (J s)) (hJx:∀ s,j9 Cw M (Jx s)) (hlen:ss.length<=1000000) (a8:∀ s∈ss,J8 s) (D5:∀ (k:Nat) (st:State),ss[k]? =some st->okArcs k (-1) st.a6=true)
    (f k:Nat) (W:World) (u:ByteArray) (n:Nat) (b:Bool) (pre:List Wd) (hM:M<=W.heap.size) (hF0:F W) (hJ0:J pre W) (hT:pre++walkS ss (wl from_) (f+1) k u n b <+: T) (hn:n<y5) (hkl:k<ss.length) (hul:u.size+k<=1000000)
    (IH:∀ (k':Nat) (W':World) (u':ByteArray) (n':Nat) (b':Bool) (x9x:List Wd),k'<k->M<=W'.heap.size->F W'->J x9x W'->x9x++walkS ss (wl from_) f k' u' n' b' <+: T->n'<y5->u'.size+k'<=1000000->Calls Tryz.prog 152 #[.int .i64 k',.string u',.agg #[.int .u64 n',.bool b'],.pointer (some ⟨pf,0,none⟩),.pointer (some ⟨pt,0,none⟩),.pointer (some ⟨py,0,none⟩),.pointer (some ⟨pb,0,none⟩)] W' (Rb F M J Jx T W' x9x (walkS ss (wl from_) f k' u' n' b'))):Calls Tryz.prog 152 #[.int .i64 k,.string u,.agg #[.int .u64 n,.bool b],.pointer (some ⟨pf,0,none⟩),.pointer (some ⟨pt,0,none⟩),.pointer (some ⟨py,0,none⟩),.pointer (some ⟨pb,0,none⟩)] W (Rb F M J Jx T W pre (walkS ss (wl from_) (f+1) k u n b)):=by
 refine yQ Tryz.func152 rfl ?_
 refine Fc.en 69 fun fr hf hT=> ?_
 have s0:=hT 0 _ rfl
 have s1:=hT 1 _ rfl
 have s2:=hT 2 _ rfl
 have s3:=hT 3 _ rfl
 have s4:=hT 4 _ rfl
 have s5:=hT 5 _ rfl
 have s6:=hT 6 _ rfl
 clear hT
 have o7:=(hF hF0).2.2.2.2.2
 obtain ⟨A,cc,rfl,Z3⟩:=o7.form
 obtain ⟨st,y8⟩:∃ x,ss[k]? =some x:=⟨_,D9 hkl⟩
 clear o7
 obtain ⟨res,z8⟩:∃ x,walkS ss (wl from_) (f+1) k u n b=x:=⟨_,rfl⟩
 rw [z8] at hT |-
 have v3s:=H9 z8;clear z8
 refine Ze fun _ b7=>Zr [] hf ?_
 refine nM 0 3 4 5 6 8 9 10 hf ?_
 clear hf s0 s1 s2 s3 s4 s5 s6;intro a7 hf sS
 generalize p8:((W.alloc (.cells #[.string u] 9)).alloc (.cells #[.int .u64 n,.bool b] 190)).alloc (.cells #[.bool false] 4)=W0
 obtain ⟨s0,s3,s4,s5,s6,s8,s9,y4⟩:=sS
 try simp only [World.size_alloc] at s9 y4
 obtain ⟨p9,gD,jD,G2⟩:=bD p8
 clear p8
 have c8:=n5 0 gD
 simp at c8
 have iU:=KC.below oA p9
 have hj:=(hJ pre).r5 hJ0 p9
 have hF1:=iU.held hF0
 obtain ⟨cf, -⟩:=hF hF1
 obtain ⟨mn,hmn⟩:∃ x,min u.size from_.size=x:=⟨_,rfl⟩
 have hmf:mn<=from_.size:=oM
 obtain ⟨ah,hah⟩:∃ x,lexlt (wl u) ((wl from_).take u.size)=x:=⟨_,rfl⟩
 have v3r:lexlt (wl u) (wl (from_.extract 0 mn))=ah:=by rw [<- hah,qM,List.drop_zero, <- hmn];congr 1;rcases Nat.le_total u.size from_.size with h | h;(rw [Nat.min_eq_left h]);(rw [Nat.min_eq_right h];have h2:=l9 from_;rw [List.take_of_length_le oM,List.take_of_length_le oM])
 have HMN:=H9 hmn;have HAH:=H9 hah;have u1f:=H9 v3r;clear hmn hah v3r
 refine Zs b7 fun _ b7=>Sb.tb 69 fun a8=> ?_
 have lf:=H9 fun (w9:World) (h9:Below _ _ w9)=>ad (cL h9 c8) (cL h9 cf)
 refine Sb.T 0 hf a8 ?_ (hF:=fun _ _ h d=>ad (Sb.O h s8) (lf.out _ h.ext))
 refine Sb.T 1 hf a8 ?_ (hF:=fun _ _ h d=>ad (Sb.O h s3) (lf.out _ h.ext))
 refine Sb.T 2 hf a8 ?_ (hF:=fun _ _ h d=>ad (Sb.O h s8) (lf.out _ h.ext))
 refine Sb.T 3 hf a8 ?_ (hF:=fun _ _ h d=>lf.out _ h.ext)
 refine Sb.T 4 hf a8 ?_ (hF:=fun _ _ h d=>ad (Sb.O h s3) (lf.out _ h.ext))
 refine Sb.T 5 hf a8 ?_ (hF:=fun _ _ h d=>lf.out _ h.ext)
 apply Sb.tq 6 _ hf a8
 . (
 intro a7 w1 hh hd hk K Z
 have N7:=Sb.v 3 2 hd hk []
 have J6:=Sb.v 5 0 hd hk []
 clear hd
 replace c8:=cL hh.ext c8
 replace cf:=cL hh.ext cf
 go_simp
 rw [show min (u.size:Int) (from_.size:Int)=((mn:Nat):Int) by rw [<- HMN.out];omega]
 exact Sb.k Z)
 refine Sb.T 7 hf a8 ?_
 apply Sb.tq 8 _ hf a8
 . (
 intro a7 w1 hh hd hk K Z
 have fW:=Sb.v 0 7 hd hk []
 have N6:=Sb.v 7 0 hd hk []
 clear hd
 replace c8:=cL hh.ext c8
 replace cf:=cL hh.ext cf
 go_simp
 go_at_call 153;refine (xF w1 u (from_.extract 0 mn)).mono ?_;rintro e w2 ⟨rfl,hww⟩
 subst hww
 rw [u1f.out]
 exact Sb.k Z)
 refine Sb.mN 9 8 0 hf a8 [] ?_
 refine Sb.E hf a8 (fun _ _ h g=>ad (Sb.O h s0) (ad (Sb.O h s3) (ad (Sb.O h s4) (ad (Sb.O h s5) (ad (Sb.O h s6) (ad (Sb.O h s8) (ad (Sb.O h s9) (ad (Sb.O h y4) (Sb.f 9 0 g))))))))) ?_
 clear hf a8 s0 s3 s4 s5 s6 s8 s9 y4;intro a7 w1 hf hx sS
 replace c8:=cL hx c8
 replace cf:=cL hx cf
 clear lf
 replace hj:=(hJ _).r5 hj hx
 replace iU:=iU.trans (KC.below oA hx)
 replace gD:=(hx.block _ (j4 gD)).trans gD
 replace jD:=(hx.block _ (j4 jD)).trans jD
 replace G2:=(hx.block _ (j4 G2)).trans G2
 replace hF1:=iU.held hF0
 refine Zs b7 fun _ b7=>Ze fun _ j8=>Zr [] hf ?_
 refine vE 0 3 4 5 6 8 9 10 23 hf ?_
 clear hf sS;intro a7 hf sS
 refine Zx j8 (Fc.l0 sS.2.2.2.2.2.2.2.2 (fun hq=> ?_) (fun hq=> ?_))
 . (
 subst hq
 have c10:=n5 0 G2
 simp at c10
 have f10:=j3 (i:=0) G2
 have hr:res=[]:=v3s.out.symm.trans (eW HAH.out)
 refine Ze fun _ j8=>Zr [] hf ?_
 refine nM 0 3 4 5 6 8 9 10 hf ?_
 clear hf sS;intro a7 hf sS
 generalize kB:w1.setCell ⟨(W.heap.size+1+1),0,none⟩ (.bool true)=W3
 obtain ⟨h10,jR,hZ⟩:=oX G2 kB
 have z2p:=iU.turn oA (g:=(W.heap.size+1+1)) oM hM jR
 refine Zx j8 (k8 ?_)
 exact y9c (G:=(W.heap.size+1+1)) (S:=fun V=>J (pre++res) V/\KC F M W V) (j9.and ((hJ _).mono (fun o h=> .inl h) oM) (KC.stays oA oM hM)) rfl hf sS.2.2.2.2.2.2.2 h10 nR Tryz.isAgg4 L4.w3r ⟨by rw [hr,List.append_nil];exact hZ _ _ (hJ _) oM hj,z2p⟩ (fun w' _ hs=> .inl ⟨rfl,hs.1,hs.2⟩))
 . (
 subst hq
 have hr:=v3s.out.symm.trans (rJ HAH.out y8)
 obtain ⟨own,F4⟩:∃ x,z2t st (wl from_) u n b=x:=⟨_,rfl⟩
 obtain ⟨kf,hkf⟩:∃ x,y0n ss (wl from_) f u n b=x:=⟨_,rfl⟩
 rw [F4,hkf] at hr
 rw [hr] at hT
 obtain ⟨ls,nQ⟩:∃ x,lexlt (wl u) (wl from_)=x:=⟨_,rfl⟩
 have HR:=H9 hr;have x9w:=H9 F4;have HKF:=H9 hkf;have HLS:=H9 nQ;clear hr F4 hkf nQ
 refine wp_skip (Zx b7 (Fc.L1 (fun fr wq=>Fc.Fr 69 fr/\fr.tmps[0]? =some (.int .i64 k)/\fr.tmps[4]? =some (.pointer (some ⟨pt,0,none⟩))/\fr.tmps[6]? =some (.pointer (some ⟨pb,0,none⟩))/\fr.tmps[8]? =some (.pointer (some ⟨W.heap.size,0,none⟩))/\fr.tmps[9]? =some (.pointer (some ⟨(W.heap.size+1),0,none⟩))/\fr.tmps[10]? =some (.pointer (some ⟨(W.heap.size+1+1),0,none⟩))/\J (pre++own) wq/\KC F M W wq/\wq.heap[W.heap.size]? =some (.cells #[.string u] 9 (0,0))/\wq.heap[(W.heap.size+1)]? =some (.cells #[.int .u64 n,.bool b] 190 (0,0))/\wq.heap[(W.heap.size+1+1)]? =some (.cells #[.bool false] 4 (0,0))) ?_ ?_))
 . (
 have T9:=U0 y8
 obtain ⟨cf,uH,uJ,cy,cb,v3q⟩:=hF hF1
 obtain ⟨gs,off,av,hA0,D3⟩:=v3q.at_ y8
 subst hA0
 have d1:=D3.c1;have d2:=D3.c2
 clear D3 v3q
 have rP:=n5 0 jD;have rQ:=n5 1 jD
 simp at rP rQ
 rcases x2y st.final ls with kD | kD | kD
 . (
 rw [kD] at d1
 have hon:own=[]:=by rw [<- x9w.out,z2t,kD];rfl
 refine Ze fun _ b7=> ?_
 obtain ⟨s0,s3,s4,s5,s6,s8,s9,y4,S1⟩:=sS
 refine Sb.tb 69 fun a8=> ?_
 have lf:=H9 fun (w9:World) (h9:Below _ _ w9)=>ad (cL h9 c8) (ad (cL h9 cf) (ad (cL h9 uH) (ad (cL h9 uJ) (ad (cL h9 cy) (ad (cL h9 d1) (ad (cL h9 d2) (ad (cL h9 rP) (cL h9 rQ))))))))
 refine Sb.T 0 hf a8 ?_ (hF:=fun _ _ h d=>Sb.O h s4)
 refine Sb.T 1 hf a8 ?_ (hF:=fun _ _ h d=>lf.out _ h.ext)
 refine Sb.mO 2 s0 hf a8 ?_
 refine Sb.T 3 hf a8 ?_
 refine Sb.T 4 hf a8 ?_
 refine Sb.T 5 hf a8 ?_ (hF:=fun _ _ h d=>lf.out _ h.ext)
 refine Sb.mN 6 5 0 hf a8 [] ?_
 refine Sb.Tk 7 hf a8 ?_
 refine Sb.Tk 8 hf a8 ?_
 apply Sb.tr 9 _ hf a8
 . (
 intro a7 w1 hh hd hk K Z
 have s30:=Sb.v 6 2 hd hk []
 refine Sb.sk s30 ?_
 exact Sb.k Z)
 refine Sb.Tk 10 hf a8 ?_
 refine Sb.T 11 hf a8 ?_
 refine Sb.mN 12 11 0 hf a8 [] ?_
 refine Sb.Tk 13 hf a8 ?_
 refine Sb.Tk 14 hf a8 ?_
 refine Sb.Tk 15 hf a8 ?_
 refine Sb.Tk 16 hf a8 ?_
 refine Sb.Tk 17 hf a8 ?_
 refine Sb.Tk 18 hf a8 ?_
 refine Sb.Tk 19 hf a8 ?_
 refine Sb.Tk 20 hf a8 ?_
 refine Sb.Tk 21 hf a8 ?_
 apply Sb.tr 22 _ hf a8
 . (
 intro a7 w1 hh hd hk K Z
 have vX:=Sb.v 12 9 hd hk []
 refine Sb.sk vX ?_
 exact Sb.k Z)
 refine Sb.Tk 23 hf a8 ?_
 refine Sb.Tk 24 hf a8 ?_
 refine Sb.T 25 hf a8 ?_
 refine Sb.E hf a8 (fun _ _ h g=>ad (Sb.O h s0) (ad (Sb.O h s4) (ad (Sb.O h s6) (ad (Sb.O h s8) (ad (Sb.O h s9) (ad (Sb.O h y4) (Sb.f 25 0 g))))))) ?_
 clear hf a8 s0 s3 s4 s5 s6 s8 s9 y4 S1;intro a7 w1 hf hx sS
 have L7:=lf.out _ hx;try clear c8 cf uH uJ cy d1 d2 rP rQ;clear lf;obtain ⟨c8,cf,uH,uJ,cy,d1,d2,rP,rQ⟩:=L7
 replace hj:=(hJ _).r5 hj hx
 replace iU:=iU.trans (KC.below oA hx)
 replace gD:=(hx.block _ (j4 gD)).trans gD
 replace jD:=(hx.block _ (j4 jD)).trans jD
 replace G2:=(hx.block _ (j4 G2)).trans G2
 refine Zx b7 (Fc.k9 sS.2.2.2.2.2.2 ?_)
 refine wp_skip (Fc.j6 ?_)
 obtain ⟨s0,s4,s6,s8,s9,y4,uA⟩:=sS
 exact ⟨hf,s0,s4,s6,s8,s9,y4,by rw [hon,List.append_nil];exact hj,iU,gD,jD,G2⟩)
 . (
 obtain ⟨kD,hl⟩:=kD
 subst hl
 rw [kD] at d1
 have hon:own=[]:=by rw [<- x9w.out,z2t,kD,HLS.out];rfl
 refine Ze fun _ b7=> ?_
 obtain ⟨s0,s3,s4,s5,s6,s8,s9,y4,S1⟩:=sS
 refine Sb.tb 69 fun a8=> ?_
 have lf:=H9 fun (w9:World) (h9:Below _ _ w9)=>ad (cL h9 c8) (ad (cL h9 cf) (ad (cL h9 uH) (ad (cL h9 uJ) (ad (cL h9 cy) (ad (cL h9 d1) (ad (cL h9 d2) (ad (cL h9 rP) (cL h9 rQ))))))))
 refine Sb.T 0 hf a8 ?_ (hF:=fun _ _ h d=>Sb.O h s4)
 refine Sb.T 1 hf a8 ?_ (hF:=fun _ _ h d=>lf.out _ h.ext)
 refine Sb.mO 2 s0 hf a8 ?_
 refine Sb.T 3 hf a8 ?_
 refine Sb.T 4 hf a8 ?_
 refine Sb.T 5 hf a8 ?_ (hF:=fun _ _ h d=>lf.out _ h.ext)
 refine Sb.mN 6 5 0 hf a8 [] ?_
 refine Sb.Tg 7 hf a8 ?_ (hF:=fun _ _ h d=>ad (Sb.O h s8) (lf.out _ h.ext))
 refine Sb.Tg 8 hf a8 ?_ (hF:=fun _ _ h d=>ad (Sb.O h s3) (lf.out _ h.ext))
 apply Sb.tr 9 _ hf a8
 . (
 intro a7 w1 hh hd hk K Z
 have s30:=Sb.v 6 2 hd hk []
 refine Sb.g s30 ?_
 have s31:=Sb.v 7 1 hd hk []
 have s32:=Sb.v 8 0 hd hk []
 clear hd
 have L7:=lf.out _ hh.ext;try clear c8 cf uH uJ cy d1 d2 rP rQ;obtain ⟨c8,cf,uH,uJ,cy,d1,d2,rP,rQ⟩:=L7
 go_simp
 go_at_call 153;refine (xF w1 u from_).mono ?_;rintro e w2 ⟨rfl,hww⟩
 subst hww
 rw [HLS.out]
 exact Sb.k Z)
 refine Sb.Tg 10 hf a8 ?_
 refine Sb.T 11 hf a8 ?_
 refine Sb.mN 12 11 0 hf a8 [] ?_
 refine Sb.Tk 13 hf a8 ?_
 refine Sb.Tk 14 hf a8 ?_
 refine Sb.Tk 15 hf a8 ?_
 refine Sb.Tk 16 hf a8 ?_
 refine Sb.Tk 17 hf a8 ?_
 refine Sb.Tk 18 hf a8 ?_
 refine Sb.Tk 19 hf a8 ?_
 refine Sb.Tk 20 hf a8 ?_
 refine Sb.Tk 21 hf a8 ?_
 apply Sb.tr 22 _ hf a8
 . (
 intro a7 w1 hh hd hk K Z
 have vX:=Sb.v 12 9 hd hk []
 refine Sb.sk vX ?_
 exact Sb.k Z)
 refine Sb.Tk 23 hf a8 ?_
 refine Sb.Tk 24 hf a8 ?_
 refine Sb.T 25 hf a8 ?_
 refine Sb.E hf a8 (fun _ _ h g=>ad (Sb.O h s0) (ad (Sb.O h s4) (ad (Sb.O h s6) (ad (Sb.O h s8) (ad (Sb.O h s9) (ad (Sb.O h y4) (Sb.f 25 0 g))))))) ?_
 clear hf a8 s0 s3 s4 s5 s6 s8 s9 y4 S1;intro a7 w1 hf hx sS
 have L7:=lf.out _ hx;try clear c8 cf uH uJ cy d1 d2 rP rQ;clear lf;obtain ⟨c8,cf,uH,uJ,cy,d1,d2,rP,rQ⟩:=L7
 replace hj:=(hJ _).r5 hj hx
 replace iU:=iU.trans (KC.below oA hx)
 replace gD:=(hx.block _ (j4 gD)).trans gD
 replace jD:=(hx.block _ (j4 jD)).trans jD
 replace G2:=(hx.block _ (j4 G2)).trans G2
 refine Zx b7 (Fc.k9 sS.2.2.2.2.2.2 ?_)
 refine wp_skip (Fc.j6 ?_)
 obtain ⟨s0,s4,s6,s8,s9,y4,uA⟩:=sS
 exact ⟨hf,s0,s4,s6,s8,s9,y4,by rw [hon,List.append_nil];exact hj,iU,gD,jD,G2⟩)
 . (
 obtain ⟨kD,hl⟩:=kD
 subst hl
 rw [kD] at d1
 obtain ⟨X,hX⟩:∃ x,(⟨u,(n+st.out)%y5,b&&decide (n+st.out<y5)⟩:Wd)=x:=⟨_,rfl⟩
 have hon:own=[X]:=by rw [<- x9w.out,z2t,kD,HLS.out, <- hX];rfl
 have hpx:pre++[X] <+: T:=by rw [hon, <- List.append_assoc] at hT;exact (List.prefix_append _ _).trans hT
 have hou:=(a8 st T9).1
 have hxa:X.args= #[.string u,.agg #[.int .u64 ((n+st.out)%y5:Nat),.bool (b&&decide (n+st.out<y5))]]:=by rw [<- hX];rfl
 refine Ze fun _ b7=> ?_
 obtain ⟨s0,s3,s4,s5,s6,s8,s9,y4,S1⟩:=sS
 refine Tl.w3y m 69 fun a8=> ?_
 have lf:=H9 fun (w9:World) (h9:Below _ _ w9)=>ad (cL h9 c8) (ad (cL h9 cf) (ad (cL h9 uH) (ad (cL h9 uJ) (ad (cL h9 cy) (ad (cL h9 d1) (ad (cL h9 d2) (ad (cL h9 rP) (cL h9 rQ))))))))
 refine Sb.T 0 hf a8 ?_ (hF:=fun _ _ h d=>Sb.O h s4)
 refine Sb.T 1 hf a8 ?_ (hF:=fun _ _ h d=>lf.out _ h.ext)
 refine Sb.mO 2 s0 hf a8 ?_
 refine Sb.T 3 hf a8 ?_
 refine Sb.T 4 hf a8 ?_
 refine Sb.T 5 hf a8 ?_ (hF:=fun _ _ h d=>lf.out _ h.ext)
 refine Sb.mN 6 5 0 hf a8 [] ?_
 refine Sb.Tg 7 hf a8 ?_ (hF:=fun _ _ h d=>ad (Sb.O h s8) (lf.out _ h.ext))
 refine Sb.Tg 8 hf a8 ?_ (hF:=fun _ _ h d=>ad (Sb.O h s3) (lf.out _ h.ext))
 apply Sb.tr 9 _ hf a8
 . (
 intro a7 w1 hh hd hk K Z
 have s30:=Sb.v 6 2 hd hk []
 refine Sb.g s30 ?_
 have s31:=Sb.v 7 1 hd hk []
 have s32:=Sb.v 8 0 hd hk []
 clear hd
 have L7:=lf.out _ hh.ext;try clear c8 cf uH uJ cy d1 d2 rP rQ;obtain ⟨c8,cf,uH,uJ,cy,d1,d2,rP,rQ⟩:=L7
 go_simp
 go_at_call 153;refine (xF w1 u from_).mono ?_;rintro e w2 ⟨rfl,hww⟩
 subst hww
 rw [HLS.out]
 exact Sb.k Z)
 refine Sb.Tg 10 hf a8 ?_
 refine Sb.T 11 hf a8 ?_
 refine Sb.mN 12 11 0 hf a8 [] ?_
 refine Sb.Tg 13 hf a8 ?_ (hF:=fun _ _ h d=>ad (Sb.O h s5) (lf.out _ h.ext))
 refine Sb.Tg 14 hf a8 ?_ (hF:=fun _ _ h d=>ad (Sb.O h s8) (lf.out _ h.ext))
 refine Sb.Tg 15 hf a8 ?_ (hF:=fun _ _ h d=>ad (Sb.O h s9) (lf.out _ h.ext))
 refine Sb.Tg 16 hf a8 ?_ (hF:=fun _ _ h d=>Sb.O h s4)
 refine Sb.Tg 17 hf a8 ?_ (hF:=fun _ _ h d=>lf.out _ h.ext)
 refine Sb.Tg 18 hf a8 ?_ (hF:=fun _ _ h d=>Sb.O h s0)
 refine Sb.Tg 19 hf a8 ?_
 refine Sb.Tg 20 hf a8 ?_
 refine Sb.Tg 21 hf a8 ?_ (hF:=fun _ _ h d=>lf.out _ h.ext)
 apply Sb.tr 22 _ hf a8
 . (
 intro a7 w1 hh hd hk K Z
 have vX:=Sb.v 12 9 hd hk []
 refine Sb.g vX ?_
 have bM:=Sb.v 15 6 hd hk []
 have s45:=Sb.v 21 0 hd hk []
 clear hd
 have L7:=lf.out _ hh.ext;try clear c8 cf uH uJ cy d1 d2 rP rQ;obtain ⟨c8,cf,uH,uJ,cy,d1,d2,rP,rQ⟩:=L7
 go_simp
 go_at_call 113;refine (kH w1 n st.out b hn hou).mono ?_;rintro e w2 ⟨rfl,hb⟩
 exact Z.out _ rfl _ _ hb rfl)
 refine Tl.z2u 23 [(23,0,[12,9,6,5,4,3,1]),(23,1,[12,9,6,5,4,3]),(23,2,[12,9,6,5,4,3]),(23,3,[12,9,6,5,4]),(23,4,[12,9,6,5]),(23,5,[12,9,6]),(23,6,[12,9]),(23,7,[12,9]),(23,8,[12,9]),(23,9,[12]),(23,10,[12,11]),(23,11,[12]),(23,15,[22]),(23,16,[22,21,20,19,17]),(23,17,[22,21,20,19]),(23,18,[22,21,20,19]),(23,19,[22,21,20]),(23,20,[22,21]),(23,21,[22]),(24,0,[12,9,6,5,4,3,1]),(24,1,[12,9,6,5,4,3]),(24,2,[12,9,6,5,4,3]),(24,3,[12,9,6,5,4]),(24,4,[12,9,6,5]),(24,5,[12,9,6]),(24,6,[12,9]),(24,7,[12,9]),(24,8,[12,9]),(24,9,[12]),(24,10,[12,11]),(24,11,[12]),(24,13,[23]),(24,14,[23]),(24,15,[23,22]),(24,16,[23,22,21,20,19,17]),(24,17,[23,22,21,20,19]),(24,18,[23,22,21,20,19]),(24,19,[23,22,21,20]),(24,20,[23,22,21]),(24,21,[23,22]),(24,22,[23]),(25,0,[12,9,6,5,4,3,1]),(25,1,[12,9,6,5,4,3]),(25,2,[12,9,6,5,4,3]),(25,3,[12,9,6,5,4]),(25,4,[12,9,6,5]),(25,5,[12,9,6]),(25,6,[12,9]),(25,7,[12,9]),(25,8,[12,9]),(25,9,[12]),(25,10,[12,11]),(25,11,[12]),(25,13,[24,23]),(25,14,[24,23]),(25,15,[24,23,22]),(25,16,[24,23,22,21,20,19,17]),(25,17,[24,23,22,21,20,19]),(25,18,[24,23,22,21,20,19]),(25,19,[24,23,22,21,20]),(25,20,[24,23,22,21]),(25,21,[24,23,22]),(25,22,[24,23]),(25,23,[24])] hf a8 (fun a7 w1 hh hg=> ?_)
 replace s0:=Sb.O hh s0
 replace s4:=Sb.O hh s4
 replace s6:=Sb.O hh s6
 replace s8:=Sb.O hh s8
 replace s9:=Sb.O hh s9
 replace y4:=Sb.O hh y4
 have vX:=Tl.u7 12 10 hg rfl rfl rfl rfl rfl
 have s37:=Tl.u7 13 9 hg rfl rfl rfl rfl rfl
 have s38:=Tl.u7 14 8 hg rfl rfl rfl rfl rfl
 have s46:=Tl.u7 22 0 hg rfl rfl rfl rfl rfl
 have u3:=hh.fr hf
 have hx:=hh.ext
 have L7:=lf.out _ hx;try clear c8 cf uH uJ cy d1 d2 rP rQ;clear lf;obtain ⟨c8,cf,uH,uJ,cy,d1,d2,rP,rQ⟩:=L7
 clear hg hh hf a8 s3 s5 S1
 have hf:=u3;clear u3
 obtain ⟨b47,b48⟩:=hf.B2 47 48
 replace hj:=(hJ _).r5 hj hx
 replace iU:=iU.trans (KC.below oA hx)
 replace gD:=(hx.block _ (j4 gD)).trans gD
 replace jD:=(hx.block _ (j4 jD)).trans jD
 replace G2:=(hx.block _ (j4 G2)).trans G2
 have hF2:=iU.held hF0
 have hy:=hY pre X _ hj hF2 hpx
 rw [hxa] at hy
 refine Inr.w3x (r:=none) (lp:=L) hy (by simp [execOp,go_sem,s37,s38,s46]) (fun e W3 hz=> ?_) vX
 obtain ⟨bt,rfl,U4⟩:=kX hz
 refine ⟨_,rfl,?_⟩
 clear hy hz
 refine Inr.ogI fun K Z=> ?_
 go_simp
 apply Z.out;clear Z K
 refine Inr.cR fun K Z=> ?_
 go_simp
 apply Z.out;clear Z K
 refine Inr.kW ?_
 refine cP 0 4 6 8 9 10 49 hf ?_
 clear hf s0 s4 s6 s8 s9 y4 vX s37 s38 s46 b47 b48;intro a7 hf sS
 refine Zx b7 (Fc.l0 sS.2.2.2.2.2.2 (fun T3=> ?_) (fun T3=> ?_))
 . (
 have o5:bt=false:=by simpa using T3
 obtain ⟨h9, -⟩ | ⟨-,hjx,Y9⟩:=U4
 . (
 rw [o5] at h9;cases h9)
 replace iU:=iU.trans Y9
 replace G2:=Y9.kept _ _ oM (nE rfl) G2
 have c10:=n5 0 G2
 simp at c10
 have f10:=j3 (i:=0) G2
 refine Ze fun _ b7=>Zr [] hf ?_
 refine r6 10 hf ?_
 clear hf sS;intro a7 hf y4
 generalize eC:W3.setCell ⟨(W.heap.size+1+1),0,none⟩ (.bool false)=W5
 obtain ⟨h10,jR,hZ⟩:=oX G2 eC
 have z2p:=iU.turn oA (g:=(W.heap.size+1+1)) oM hM jR
 refine Zx b7 (k8 ?_)
 exact y9c (G:=(W.heap.size+1+1)) (S:=fun V=>(∃ s,s <+: T/\Jx s V)/\KC F M W V) (j9.and (j9.ex fun s=>j9.and (j9.pure _ _ _) ((hJx s).mono (fun o h=> .inl h) oM)) (KC.stays oA oM hM)) rfl hf y4 h10 nR Tryz.isAgg4 L4.w3r ⟨⟨_,hpx,hZ _ _ (hJx _) oM hjx⟩,z2p⟩ (fun w' _ hs=> .inr ⟨rfl,hs.1,hs.2⟩))
 . (
 have o5:bt=true:=by simpa using T3
 obtain ⟨-,hj3,Y9⟩ | ⟨h9, -⟩:=U4;rotate_left;(rw [o5] at h9;cases h9)
 replace iU:=iU.trans Y9
 replace gD:=Y9.kept _ _ oM (nE rfl) gD
 replace jD:=Y9.kept _ _ oM (nE rfl) jD
 replace G2:=Y9.kept _ _ oM (nE rfl) G2
 refine wp_skip (Fc.j6 ?_)
 obtain ⟨s0,s4,s6,s8,s9,y4,uA⟩:=sS
 exact ⟨hf,s0,s4,s6,s8,s9,y4,by rw [hon];exact hj3,iU,gD,jD,G2⟩)))
 . (
 clear hf sS
 clear hj iU gD jD G2 c8 cf
 rintro fr wq ⟨hf,s0,s4,s6,s8,s9,y4,hj,iU,gD,jD,G2⟩
 have hFq:=iU.held hF0
 obtain ⟨-,uH,uJ, -, -,v3p⟩:=hF hFq
 refine Ze fun _ b7=>Ze fun _ j8=>rg ?_
 have bB:=hf.B2 50 51
 iterate 2 refine Zy ?_
 refine Zc (yP wq _ init k ss v3p) ?_;rintro e W6 ⟨rfl, -, -, -,G7,hq0,jM⟩
 have hMq:M<=wq.heap.size:=Nat.le_trans hM iU.size
 have hWq:=iU.size
 replace hj:=(hJ _).r5 hj G7
 replace iU:=iU.trans (KC.below oA G7)
 replace gD:=(G7.block _ (j4 gD)).trans gD
 replace jD:=(G7.block _ (j4 jD)).trans jD
 replace G2:=(G7.block _ (j4 G2)).trans G2
 have hF6:=iU.held hF0
 obtain ⟨q6,hq6⟩:∃ x,wq.heap.size=x:=⟨_,rfl⟩
 rw [hq6] at hq0 jM hMq hWq |-
 have hl0:=j4 hq0;have qR:=j4 jM
 clear hq6 v3p uH uJ
 refine Zv ?_
 refine Fc.nil (D0 6 8 9 10 52 hf ?_)
 clear hf s0 s4 s6 s8 s9 y4 bB;intro a7 hf sS
 refine Zx j8 (wp_block ?_)
 have hB6:=j4 G2
 have bS:=D5 _ _ y8
 have T9:=U0 y8
 have hit:=rF (9-1) q6 (q6+1) init k ss st (.slice A ss.length cc) W6 (KI F M W6.heap.size) (fun V=>F V/\V.heap[q6]? =some (.cells #[.slice A ss.length cc,.int .u64 init] 38 (0,0))/\V.heap[q6+1]? =some (.cells #[.int .i64 k] 3 (0,0))) (fun ⟨x,y,z⟩=>⟨by have c:=n5 0 y;simpa using c,by have c:=n5 1 y;simpa using c,by have c:=n5 0 z;simpa using c,(hF x).2.2.2.2.2⟩) (fun hb ⟨x,y,z⟩=>⟨oA.below hb x,(hb.block _ (j4 y)).trans y,(hb.block _ (j4 z)).trans z⟩) (fun hk ⟨x,y,z⟩=>⟨hk.held x,hk.kept _ _ hMq (.inl hl0) (nE rfl) y,hk.kept _ _ oM (.inl qR) (nE rfl) z⟩) (fun h=>h.size) ⟨hF6,hq0,jM⟩ y8 oM bS (Nat.le_trans (rG bS (a8 _ T9)) oM) (fun g cs hg hk hh=>hk.kept g _ oM (.inr rfl) (nE rfl) hh)
 refine (wpIn_wide (n:=9)).1 ?_
 refine dG (C:=fun _=>False) (Fc.k7 sS.2.2.2.2) (enters_of Tryz.func156 kR rfl) hit KI.trans (fun V o o' ho hc _=>KI.put oA oM oM ho hc) (Below.refl _ _) (fun _=>rfl) (fun xs V=>J (pre++own++xs.flatMap kf) V/\KC F M W V/\V.heap[W.heap.size]? =some (.cells #[.string u] 9 (0,0))/\V.heap[(W.heap.size+1)]? =some (.cells #[.int .u64 n,.bool b] 190 (0,0))/\V.heap[(W.heap.size+1+1)]? =some (.cells #[.bool false] 4 (0,0))) (fun c _ V=>c= .ret/\(∃ s,s <+: T/\Jx s V)/\KC F M W V/\V.heap[(W.heap.size+1+1)]? =some (.cells #[.bool false] 4 (0,0))) (fun s=>j9.and ((hJ _).mono (fun o h=>h.elim .inl (fun x=>x.elim)) oM) (j9.and (KC.stays oA oM hM) (j9.and (j9.block (.inl oM)) (j9.and (j9.block (.inl oM)) (j9.block (.inl oM)))))) (fun c s=>j9.and (j9.pure _ _ _) (j9.and (j9.ex fun s=>j9.and (j9.pure _ _ _) ((hJx s).mono (fun o h=>h.elim .inl (fun x=>x.elim)) oM)) (j9.and (KC.stays oA oM hM) (j9.block (.inl oM))))) ⟨by rw [List.flatMap_nil,List.append_nil];exact hj,iU,gD,jD,G2⟩ (fun (x:r7) a' V=>∃ Bx,(Fc.Fr 69 a'/\a'.tmps[6]? =some (.pointer (some ⟨pb,0,none⟩))/\a'.tmps[8]? =some (.pointer (some ⟨W.heap.size,0,none⟩))/\a'.tmps[9]? =some (.pointer (some ⟨(W.heap.size+1),0,none⟩))/\a'.tmps[10]? =some (.pointer (some ⟨(W.heap.size+1+1),0,none⟩))/\a'.tmps[12]? =some (.int .u8 x.byte)/\a'.tmps[13]? =some (.pointer (some ⟨Bx,0,none⟩)))/\(V.cell? ⟨Bx,0,none⟩=some (.int .i64 x.to)/\V.cell? ⟨Bx,1,none⟩=some (.int .u64 x.out))) (fun x a'=>j9.ex fun Bx=>j9.and (j9.pure _ _ _) (j9.and j9.cell j9.cell)) ?_ ?_ ?_ ?_
 . (
 rintro l iV x V K ⟨hjV,hkV,e8,e9,e10⟩ hKK
 refine oW (M:=fun a=>Code.wpIn _ _ _ _ _ a _) hf rfl rfl rfl fun a1 u3 h53 h54 hold=> ?_
 obtain ⟨s6,s8,s9,y4,s52⟩:=sS
 have s6:=(hold 6 rfl rfl).trans s6;have s8:=(hold 8 rfl rfl).trans s8;have s9:=(hold 9 rfl rfl).trans s9;have y4:=(hold 10 rfl rfl).trans y4;have s53:=h53;have s54:=h54
 clear hold h53 h54
 have hf:=u3;clear u3
 refine wpIn_seq_k (fun _ iK1=> ?_)
 refine Inr.rgI (r:=some l) ?_
 refine Inr.cR fun K Z=> ?_
 go_simp
 apply Z.out;clear Z K
 refine Inr.kW ?_
 refine J3 6 8 9 10 12 54 hf ?_
 clear hf s6 s8 s9 y4 s53 s54;intro a7 hf sS
 refine nx (iK1 _ _ ?_)
 obtain ⟨s6,s8,s9,y4,aZ,s54⟩:=sS
 refine Inr.rgI (r:=some l) ?_
 have b13:=hf.b 13
 refine Inr.cR fun K Z=> ?_
 go_simp
 apply Z.out;clear Z K
 refine Inr.cR fun K Z=> ?_
 go_simp
 apply Z.out;clear Z K
 refine Inr.kW ?_
 refine J3 6 8 9 10 12 13 hf ?_
 clear hf s6 s8 s9 y4 aZ s54 b13;intro a7 hf sS
 refine Fc.j6 ?_
 generalize eB:V.alloc (.cells #[.int .i64 x.to,.int .u64 x.out] 233)=W7
 obtain ⟨A8,b0,b1, -, -⟩:=Z8 eB
 have kb:=KC.below oA A8
 obtain ⟨s6,s8,s9,y4,aZ,J0⟩:=sS
 exact hKK _ _ ((K7 A8).from _) kb.ki ⟨(hJ _).r5 hjV A8,hkV.trans kb,(A8.block _ (j4 e8)).trans e8,(A8.block _ (j4 e9)).trans e9,(A8.block _ (j4 e10)).trans e10⟩ ⟨_,⟨hf,s6,s8,s9,y4,aZ,J0⟩,b0,b1⟩)
 . (
 clear hf sS
 rintro l iV x a1 V hl _ ⟨hjV,hkV,e8,e9,e10⟩ ⟨Bx,⟨hf,s6,s8,s9,y4,aZ,J0⟩,z0,z1⟩ rR
 have hxm:x∈st.a6:=rR.subset sP
 have hxt:=C3 bS hxm
 obtain ⟨c,hc⟩:∃ c:Nat,x.to=(c:Int):=⟨x.to.toNat,oM⟩
 rw [hc] at z0
 have Y9:c<k:=oM
 have hou:=((a8 _ T9).2.2 x hxm).2.1
 obtain ⟨n2,tX⟩:∃ y,(n+x.out)%y5=y:=⟨_,rfl⟩
 obtain ⟨b2,r9⟩:∃ y,(b&&decide (n+x.out<y5))=y:=⟨_,rfl⟩
 have u1d:n2<y5:=by rw [<- tX];exact Nat.mod_lt _ dC
 obtain ⟨u2,hu2⟩:∃ y,u++bl [x.byte]=y:=⟨_,rfl⟩
 have s8c:u2.size=u.size+1:=by rw [<- hu2,ByteArray.size_append];rfl
 have hkx:kf x=walkS ss (wl from_) f c u2 n2 b2:=by rw [<- HKF.out,y0n,tX,r9,hu2,hc,Int.toNat_natCast]
 have hTx:(pre++own++iV.flatMap kf)++kf x <+: T:=(y0a kf rR).trans hT
 have hFV:=hkV.held hF0
 obtain ⟨-, -, -, -,cb, -⟩:=hF hFV
 have c8:=n5 0 e8;have rP:=n5 0 e9;have rQ:=n5 1 e9
 simp at c8 rP rQ
 have ebh:∀ args w,(callFunc 152 args).run Tryz.prog w= .ok (.enter 152 args) w:=enters_of Tryz.func152 kR rfl
 have tE:(bl [x.byte]).size=1:=by rw [X4];rfl
 have HBS:=H9 tE;clear tE
 have HN2:=H9 tX;have HB2:=H9 r9;have HU2:=H9 hu2;have HC:=H9 hc;have HKX:=H9 hkx;clear tX r9 hu2 hc hkx
 refine wpIn_block ?_
 refine wpIn_seq_k (fun _ iK1=> ?_)
 refine Inr.z2v (r:=some l) (k:=69) (fun ⟨_,_,h⟩=>h) (Sb.OkOps.of kR) (fun a8=> ?_)
 have lf:=H9 fun (w9:World) (h9:Below _ _ w9)=>ad (cL h9 z0) (ad (cL h9 z1) (ad (cL h9 c8) (ad (cL h9 rP) (ad (cL h9 rQ) (cL h9 cb)))))
 refine Sb.T 0 hf a8 ?_ (hF:=fun _ _ h d=>ad (Sb.O h s6) (lf.out _ h.ext))
 refine Sb.T 1 hf a8 ?_ (hF:=fun _ _ h d=>Sb.O h J0)
 refine Sb.T 2 hf a8 ?_ (hF:=fun _ _ h d=>lf.out _ h.ext)
 refine Sb.T 3 hf a8 ?_ (hF:=fun _ _ h d=>ad (Sb.O h s8) (lf.out _ h.ext))
 refine Sb.mO 4 aZ hf a8 ?_
 refine Sb.E8 (k:=5) (n:=69) (fun v V=>∃ g,v= .slice (some ⟨g,0,none⟩) 1 1/\V.cell? ⟨g,0,none⟩=some (.int .u8 x.byte)) hf.size a8.out rfl (fun v V V2 hb ⟨g,h1,h2⟩=>⟨g,h1,cL hb h2⟩) ?_ ?_
 . (
 intro a7 w1 hh hd hk K Z
 refine Sb.pl ?_
 have s59:=Sb.v 4 0 hd hk []
 clear hd
 go_simp
 exact Z.out _ rfl _ _ ((Below.refl _ _).alloc nR _) ⟨_,rfl,by simpa using n5 0 (heap_alloc_new w1 _)⟩)
 apply Sb.tq 6 _ hf a8
 . (
 intro a7 w1 hh hd hk K Z
 obtain ⟨x60,s60,w3l⟩:=Sb.use (j:=5) (m:=0) hd hk rfl [] kR rfl rfl rfl
 obtain ⟨gx,u1b,u1a⟩:=w3l
 subst u1b
 clear hd
 have xH:=x2x w1 gx x.byte u1a
 go_simp
 exact Sb.k Z)
 apply Sb.tq 7 _ hf a8
 . (
 intro a7 w1 hh hd hk K Z
 have s58:=Sb.v 3 3 hd hk []
 have s61:=Sb.v 6 0 hd hk []
 clear hd
 go_simp
 try simp (disch:=omega) only [Fc.W]
 rw [if_neg (by rw [HBS.out];omega),HU2.out,Oper.upon_value]
 exact Sb.k Z)
 refine Sb.T 8 hf a8 ?_ (hF:=fun _ _ h d=>ad (Sb.O h s9) (lf.out _ h.ext))
 refine Sb.T 9 hf a8 ?_ (hF:=fun _ _ h d=>Sb.O h J0)
 refine Sb.T 10 hf a8 ?_ (hF:=fun _ _ h d=>lf.out _ h.ext)
 apply Sb.tq 11 _ hf a8
 . (
 intro a7 w1 hh hd hk K Z
 have s63:=Sb.v 8 2 hd hk []
 have s65:=Sb.v 10 0 hd hk []
 clear hd
 have L7:=lf.out _ hh.ext;try clear z0 z1 c8 rP rQ cb;obtain ⟨z0,z1,c8,rP,rQ,cb⟩:=L7
 go_simp
 go_at_call 113;refine (kH w1 n x.out b hn hou).mono ?_;rintro e w2 ⟨rfl,hb⟩
 rw [HN2.out,HB2.out]
 exact Z.out _ rfl _ _ hb rfl)
 refine Tl.D7 (n:=69) (m:=12) (ws:=[(12,1,[2]),(12,3,[7]),(12,4,[7,6,5]),(12,5,[7,6]),(12,6,[7]),(12,8,[11]),(12,9,[11,10]),(12,10,[11]),(13,0,[12]),(13,1,[12,2]),(13,2,[12]),(13,3,[12,7]),(13,4,[12,7,6,5]),(13,5,[12,7,6]),(13,6,[12,7]),(13,7,[12]),(13,8,[12,11]),(13,9,[12,11,10]),(13,10,[12,11]),(13,11,[12])]) kR hf.size a8.out rfl rfl kR (fun a7 w1 hh hg=> ?_)
 replace y4:=Sb.O hh y4
 have s55:=Tl.u7 0 11 hg rfl rfl rfl rfl rfl
 have s57:=Tl.u7 2 9 hg rfl rfl rfl rfl rfl
 have s62:=Tl.u7 7 4 hg rfl rfl rfl rfl rfl
 have s66:=Tl.u7 11 0 hg rfl rfl rfl rfl rfl
 have u3:=hh.fr hf
 have hx:=hh.ext
 have L7:=lf.out _ hx;try clear z0 z1 c8 rP rQ cb;clear lf;obtain ⟨z0,z1,c8,rP,rQ,cb⟩:=L7
 clear hg hh hf a8 s6 s8 s9 aZ J0
 have hf:=u3;clear u3
 have b67:=hf.b 67
 refine Tl.D8 rfl rfl (fun K Z=> ?_)
 have hjx:=(hJ _).r5 hjV hx;have v3n:=hkV.trans (KC.below oA hx)
 refine fY (g:=152) (args:= #[.int .i64 c,.string u2,.agg #[.int .u64 n2,.bool b2],.pointer (some ⟨pf,0,none⟩),.pointer (some ⟨pt,0,none⟩),.pointer (some ⟨py,0,none⟩),.pointer (some ⟨pb,0,none⟩)]) (by simp [execOp,go_sem,s55,s57,s62,s66,ebh]) (IH c w1 u2 n2 b2 (pre++own++iV.flatMap kf) Y9 (by have:=v3n.size;omega) (v3n.held hF0) hjx (by rw [<- HKX.out];exact hTx) u1d oM) ?_
 rintro e W2 hR
 obtain ⟨bt,rfl,U4⟩:=x9z hR
 refine ⟨_,rfl,?_⟩
 clear hR
 apply Z.out;clear Z K
 refine Tl.D8 rfl rfl (fun K Z=> ?_)
 go_simp
 apply Z.out;clear Z K
 refine Tl.J5 rfl ?_
 refine C1 10 68 hf ?_
 clear hf y4 s55 s57 s62 s66 b67;intro a7 hf sS
 refine nx (iK1 _ _ ?_)
 refine wpIn_cond_split (Fc.k7 sS.2) (fun hq5=> ?_) (fun hq5=> ?_)
 . (
 have o5:bt=false:=by simpa using hq5
 obtain ⟨h9, -⟩ | ⟨-,hjs,hkR⟩:=U4
 . (
 rw [o5] at h9;cases h9)
 have hkA:=(KC.below oA hx).trans hkR
 have G2:=hkA.kept _ _ oM (nE rfl) e10
 have c10:=n5 0 G2
 simp at c10
 have f10:=j3 (i:=0) G2
 refine wpIn_seq_k (fun _ iK1=> ?_)
 obtain ⟨y4,s68⟩:=sS
 refine Inr.rgI (r:=some l) ?_
 refine Inr.cR fun K Z=> ?_
 go_simp
 apply Z.out;clear Z K
 refine Inr.kW ?_
 refine r6 10 hf ?_
 clear hf y4 s68;intro a7 hf y4
 generalize kQ:W2.setCell ⟨(W.heap.size+1+1),0,none⟩ (.bool false)=W9
 obtain ⟨h10,jR,hZ⟩:=oX G2 kQ
 refine nx (iK1 _ _ ?_)
 refine wpIn_ret ?_
 refine Fc.vJ ?_
 exact ⟨(hkA.from oM).trans (KeepsFrom.of_grownBy jR (fun j e=>by cases e;omega)),hkA.ki.trans (KI.res oA oM G2 h10 jR),rfl,(by obtain ⟨s,h1,h2⟩:=hjs;exact ⟨s,h1,hZ _ _ (hJx s) oM h2⟩),(hkV.trans hkA).turn oA (g:=(W.heap.size+1+1)) oM hM jR,h10⟩)
 . (
 have o5:bt=true:=by simpa using hq5
 obtain ⟨-,hjs,hkR⟩ | ⟨h9, -⟩:=U4;rotate_left;(rw [o5] at h9;cases h9)
 refine wpIn_skip ?_
 refine Fc.j7 ?_
 have hkA:=(KC.below oA hx).trans hkR
 exact ⟨hkA.from oM,hkA.ki,by rw [List.flatMap_append,List.flatMap_singleton, <- List.append_assoc,HKX.out];exact hjs,hkV.trans hkA,hkA.kept _ _ oM (nE rfl) e8,hkA.kept _ _ oM (nE rfl) e9,hkA.kept _ _ oM (nE rfl) e10⟩))
 . (
 rintro D xs V hD rfl ⟨hjV,hkV,e8,e9,e10⟩ hDh
 refine Fc.reQ (n:=69) (ds:=[{ target:= .collected D,args:= #[] }]) hf.size (by rw [hf.defers]) (fun fr2 kJ hT2=> ?_)
 obtain ⟨s6,s8,s9,y4,s52⟩:=sS
 have y4:=(hT2 10).trans y4
 clear hT2 hf hj gD jD G2
 have hf:=kJ;clear kJ
 replace iU:=hkV
 have G2:=e10
 have c10:=n5 0 G2
 simp at c10
 have f10:=j3 (i:=0) G2
 refine Fc.j7 (Zs b7 fun _ b7=>Zr [] hf ?_)
 refine r6 10 hf ?_
 clear hf y4;intro a7 hf y4
 generalize kQ:V.setCell ⟨(W.heap.size+1+1),0,none⟩ (.bool true)=W9
 obtain ⟨h10,jR,hZ⟩:=oX G2 kQ
 have z2p:=iU.turn oA (g:=(W.heap.size+1+1)) oM hM jR
 refine Zx b7 (k8 ?_)
 exact y9c (G:=(W.heap.size+1+1)) (S:=fun V=>J (pre++res) V/\KC F M W V) (j9.and ((hJ _).mono (fun o h=> .inl h) oM) (KC.stays oA oM hM)) rfl hf y4 h10 nR Tryz.isAgg4 (L4.one oM jR hDh) ⟨by rw [HR.out, <- List.append_assoc];exact hZ _ _ (hJ _) oM hjV,z2p⟩ (fun w' _ hs=> .inl ⟨rfl,hs.1,hs.2⟩))
 . (
 rintro D c2 iV V hD _ ⟨rfl,hjs,z2p,h10⟩ hDh
 refine (wpIn_wide (n:=9)).2 ?_
 refine Fc.re (n:=69) (ds:=[{ target:= .collected D,args:= #[] }]) hf.size (by rw [hf.defers]) (fun fr2 kJ hT2=> ?_)
 obtain ⟨s6,s8,s9,y4,s52⟩:=sS
 have y4:=(hT2 10).trans y4
 clear hT2 hf
 have hf:=kJ;clear kJ
 refine k8 ?_
 exact y9c (G:=(W.heap.size+1+1)) (S:=fun V=>(∃ s,s <+: T/\Jx s V)/\KC F M W V) (j9.and (j9.ex fun s=>j9.and (j9.pure _ _ _) ((hJx s).mono (fun o h=> .inl h) oM)) (KC.stays oA oM hM)) rfl hf y4 h10 nR Tryz.isAgg4 (L4.v3t oM hDh) ⟨hjs,z2p⟩ (fun w' _ hs=> .inr ⟨rfl,hs.1,hs.2⟩))))
theorem oJ.nP {N:Nat} {w w':World} {sv:Value} {ss:List State} (h:oJ w N sv ss) (hc:∀ (p:Addr) (v:Value),p.block<N->w.cell? p=some v->w'.cell? p=some v):oJ w' N sv ss:=by
 obtain ⟨A,c,h1,h2,h3⟩:=h
 refine ⟨A,c,h1,h2,fun h0=> ?_⟩
 obtain ⟨b,off,h4,h5,h6⟩:=h3 h0
 refine ⟨b,off,h4,h5,fun i s hi=> ?_⟩
 obtain ⟨av,h7⟩:=h6 i s hi
 refine ⟨av,hc _ _ sQ h7.c0,hc _ _ sQ h7.c1,hc _ _ sQ h7.c2,?_⟩
 obtain ⟨A2,c2,k1,k2,k3⟩:=h7.a6
 refine ⟨A2,c2,k1,k2,fun h0=> ?_⟩
 obtain ⟨b2,x2u,k4,k5,k6⟩:=k3 h0
 exact ⟨b2,x2u,k4,k5,fun j x hx=>hc _ _ sQ (k6 j x hx)⟩
structure KE (N G Lr:Nat) (A B:World):Prop where
 size:A.heap.size<=B.heap.size
 low:∀ (p:Addr) (v:Value),p.block<N->A.cell? p=some v->B.cell? p=some v
 kept:∀ (g:Nat) (o:Obj),N<=g->g≠G->g≠Lr->¬ z7q o->A.heap[g]? =some o->B.heap[g]? =some o
structure WF (B N pf pt:Nat) (from_:ByteArray) (sv:Value) (init:Nat) (ss:List State) (l:Nat) (V:World):Prop where
 f:V.heap[pf]? =some (.cells #[.string from_] 9 (0,0))
 t:V.heap[pt]? =some (.cells #[sv,.int .u64 init] 38 (0,0))
 y:V.heap[B]? =some (.cells #[.func (.yield l) #[] #[]] 237 (0,0))
 b:V.heap[B+1]? =some (.cells #[.func (.func 152) #[] #[.pointer (some ⟨pf,0,none⟩),.pointer (some ⟨pt,0,none⟩),.pointer (some ⟨B,0,none⟩),.pointer (some ⟨(B+1),0,none⟩)]] 238 (0,0))
 s:oJ V N sv ss
section
variable {B N G Lr pf pt init l:Nat} {from_:ByteArray} {sv:Value} {ss:List State} {V V':World}
theorem WF.use (h:WF B N pf pt from_ sv init ss l V):V.cell? ⟨pf,0,none⟩=some (.string from_)/\V.cell? ⟨pt,0,none⟩=some sv/\V.cell? ⟨pt,1,none⟩=some (.int .u64 init)/\V.cell? ⟨B,0,none⟩=some (.func (.yield l) #[] #[])/\V.cell? ⟨B+1,0,none⟩=some (.func (.func 152) #[] #[.pointer (some ⟨pf,0,none⟩),.pointer (some ⟨pt,0,none⟩),.pointer (some ⟨B,0,none⟩),.pointer (some ⟨(B+1),0,none⟩)])/\RS V sv ss:=by
 have c1:=n5 0 h.f;have c2:=n5 0 h.t;have c3:=n5 1 h.t;have c4:=n5 0 h.y;have c5:=n5 0 h.b
 simp at c1 c2 c3 c4 c5
 exact ⟨c1,c2,c3,c4,c5,h.s.rs⟩
theorem WF.low (hN:N<=B) (hf:pf<Lr) (ht:pt<Lr) (hL:Lr<B:=by omega):Low (WF B N pf pt from_ sv init ss l) (B+2):=fun A A' row h hg hr=>by
 have key:∀ (g:Nat) (o:Obj),g<B+2->A.heap[g]? =some o->A'.heap[g]? =some o:=fun g o h1 h2=>(hg.block g (j4 h2) (fun e=>by have:=hr g e.symm;omega)).trans h2
 exact ⟨key _ _ oM h.f,key _ _ oM h.t,key _ _ oM h.y,key _ _ oM h.b,h.s.nP fun p v hp hv=>(World.cell?_of_block (hg.block p.block (C8 hv) (fun e=>by have:=hr _ e.symm;omega))).trans hv⟩
theorem KE.kc (h:KE N G Lr V V') (hN:N<=B) (hf:pf<Lr) (ht:pt<Lr) (hNf:N<=pf) (hNt:N<=pt) (hfG:pf≠G) (htG:pt≠G) (hG:G<B) (hL:Lr<B):KC (WF B N pf pt from_ sv init ss l) (B+2) V V' :=
 ⟨h.size,fun x=>⟨h.kept _ _ hNf hfG oM (nE rfl) x.f,h.kept _ _ hNt htG oM (nE rfl) x.t,h.kept _ _ hN oM oM (nE rfl) x.y,h.kept _ _ oM oM oM (nE rfl) x.b,x.s.nP h.low⟩,fun g o a b c=>h.kept g o oM oM oM b c⟩
end
theorem _root_.Go.Proofs.YtcddnmhmcieebaaGreatDoor.j9.z7m {C:Obj->Prop} {B:Nat} {I:World->Prop} (h:j9 C B I) {W W':World} {n:Nat} (hs:I W) (_:n<=W.heap.size) (hb:Below W.heap.size W W'):I W':=h.r5 hs hb
theorem z2l (m:Nat) (F:World->Prop) (M:Nat) (oA:Low F M) (pf pt py pb:Nat) (from_:ByteArray) (hfz:from_.size<=1000000000) (sv:Value) (init:Nat) (ss:List State) (L:Nat) (J Jx:List Wd->World->Prop) (T:List Wd)
  (hF:∀ {V:World},F V->V.cell? ⟨pf,0,none⟩=some (.string from_)/\V.cell? ⟨pt,0,none⟩=some sv/\V.cell? ⟨pt,1,none⟩=some (.int .u64 init)/\V.cell? ⟨py,0,none⟩=some (.func (.yield L) #[] #[])/\V.cell? ⟨pb,0,none⟩=some (.func (.func 152) #[] #[.pointer (some ⟨pf,0,none⟩),.pointer (some ⟨pt,0,none⟩),.pointer (some ⟨py,0,none⟩),.pointer (some ⟨pb,0,none⟩)])/\RS V sv ss)
  (hY:∀ pre x W1,J pre W1->F W1->pre++[x] <+: T->YieldAt Fence.wide (m-1) Tryz.prog L x.args W1 fun e W'=>(e= .returned (.bool true)/\J (pre++[x]) W'/\KC F M W1 W')\/(e= .returned (.bool false)/\Jx (pre++[x]) W'/\KC F M W1 W'))
  (hJ:∀ s,j9 Cw M (J s)) (hJx:∀ s,j9 Cw M (Jx s)) (hlen:ss.length<=1000000) (a8:∀ s∈ss,J8 s) (D5:∀ (k:Nat) (st:State),ss[k]? =some st->okArcs k (-1) st.a6=true):∀ (f k:Nat) (W:World) (u:ByteArray) (n:Nat) (b:Bool) (pre:List Wd),k<f->k<ss.length->M<=W.heap.size->F W->J pre W->pre++walkS ss (wl from_) f k u n b <+: T->n<y5->u.size+k<=1000000->Calls Tryz.prog 152 #[.int .i64 k,.string u,.agg #[.int .u64 n,.bool b],.pointer (some ⟨pf,0,none⟩),.pointer (some ⟨pt,0,none⟩),.pointer (some ⟨py,0,none⟩),.pointer (some ⟨pb,0,none⟩)] W (Rb F M J Jx T W pre (walkS ss (wl from_) f k u n b)):=by
 intro f
 induction f with
 | zero=>intro k _ _ _ _ _ h;omega
 | succ f ih =>
  intro k W u n b pre hk hkl hM hF0 hJ0 hT hn hul
  exact y6d m F M oA pf pt py pb from_ hfz sv init ss L J Jx T hF hY hJ hJx hlen a8 D5 f k W u n b pre hM hF0 hJ0 hT hn hkl hul fun k' W' u' n' b' x9x h1 h2 h3 h4 h5 h6 h7=>ih k' W' u' n' b' x9x (by omega) oM h2 h3 h4 h5 h6 h7
theorem x2t (w:World) (sv:Value) (init:Nat) (ss:List State) (s:ByteArray) (o7:RS w sv ss):Calls Tryz.prog 128 #[.agg #[sv,.int .u64 init],.string s] w fun e w1=>e= .returned (.func (.func 151) #[] #[.pointer (some ⟨(w.heap.size+1),0,none⟩),.pointer (some ⟨w.heap.size,0,none⟩)])/\w1.heap[w.heap.size]? =some (.cells #[sv,.int .u64 init] 38 (0,0))/\w1.heap[w.heap.size+1]? =some (.cells #[.string s] 9 (0,0))/\Below w.heap.size w w1:=by
 refine aT 6 Tryz.func128 fun fr hf s0 s1=> ?_
 obtain ⟨A,cc,rfl,Z3⟩:=o7.form
 refine Ze fun _ b7=>Zr [] hf ?_
 refine C1 2 3 hf ?_
 clear hf s0 s1;intro a7 hf sS
 obtain ⟨W0,p8⟩:∃ x,(w.alloc (.cells #[.slice A ss.length cc,.int .u64 init] 38)).alloc (.cells #[.string s] 9)=x:=⟨_,rfl⟩
 obtain ⟨s2,s3⟩:=sS
 try simp only [World.size_alloc] at s3
 try rw [p8]
 obtain ⟨p9,F1,C5⟩:=F9 p8
 clear p8
 refine Zs b7 fun _ b7=>Zr [5] hf ?_
 refine r6 4 hf ?_
 clear hf s2 s3;intro a7 hf s4
 refine Zx b7 (k8 ?_)
 exact Fc.o9 rfl hf s4 ⟨rfl,F1,C5,p9⟩
theorem x2s (W:World) (n m l pf pt N G Lr:Nat) (from_:ByteArray) (hfz:from_.size<=1000000000) (sv:Value) (init:Nat) (K0:init<y5) (ss:List State) (J Jx:List Wd->World->Prop)
    (hY:∀ pre (x:Wd) W1,J pre W1->pre++[x] <+: (walkS ss (wl from_) ss.length (ss.length-1) ⟨#[]⟩ init true)->YieldAt Fence.wide (m-1) Tryz.prog l x.args W1 fun e W'=>(e= .returned (.bool true)/\J (pre++[x]) W'/\KE N G Lr W1 W')\/(e= .returned (.bool false)/\Jx (pre++[x]) W'/\KE N G Lr W1 W'))
    (hJ:∀ s,j9 Cw W.heap.size (J s)) (hJx:∀ s,j9 Cw W.heap.size (Jx s)) (hpf:W.heap[pf]? =some (.cells #[.string from_] 9 (0,0))) (kF:W.heap[pt]? =some (.cells #[sv,.int .u64 init] 38 (0,0))) (N3:oJ W N sv ss) (hNW:N<=W.heap.size) (hNf:N<=pf) (hNt:N<=pt) (hfW:pf<Lr) (htW:pt<Lr) (hfG:pf≠G) (htG:pt≠G) (hGW:G<W.heap.size) (hLW:Lr<W.heap.size)
    (hlen:ss.length<=1000000) (a8:∀ s∈ss,J8 s) (D5:∀ (k:Nat) (st:State),ss[k]? =some st->okArcs k (-1) st.a6=true) (h0:J [] W):Calls Tryz.prog 151 #[.func (.yield l) #[] #[],.pointer (some ⟨pf,0,none⟩),.pointer (some ⟨pt,0,none⟩)] W fun e W'=>(∃ v,e= .returned v)/\((∃ xs,xs=(walkS ss (wl from_) ss.length (ss.length-1) ⟨#[]⟩ init true)/\J xs W')\/(∃ pre,pre <+: (walkS ss (wl from_) ss.length (ss.length-1) ⟨#[]⟩ init true)/\Jx pre W')):=by
 refine lM 17 Tryz.func151 fun fr hf s0 s1 s2=> ?_
 have hsf:∀ (V:World) (a:Addr) (f:Fn) (c e:Array Value) (m:Mode),(store a (.func f c e) m).run Tryz.prog V=stored Tryz.prog V a (.func f c e) m:=fun V a f c e m=>run_store _ _ _ _ _ rfl
 obtain ⟨WS,hWS⟩:∃ x,(walkS ss (wl from_) ss.length (ss.length-1) ⟨#[]⟩ init true)=x:=⟨_,rfl⟩
 rw [hWS] at hY |-
 have HWS:=H9 hWS;clear hWS
 obtain ⟨A,cc,rfl,Z3⟩:=N3.rs.form
 refine Ze fun _ b7=>Zr [] hf ?_
 refine B1 1 2 3 hf ?_
 clear hf s0 s1 s2;intro a7 hf sS
 refine Zs b7 fun _ b7=>Zr [] hf ?_
 refine C0 1 2 3 4 hf ?_
 clear hf sS;intro a7 hf sS
 obtain ⟨Wb,hWb⟩:∃ x,(W.alloc (.cells #[.func (.yield l) #[] #[]] 237)).alloc (.cells #[.nilFunc] 238)=x:=⟨_,rfl⟩
 obtain ⟨s1,s2,s3,s4⟩:=sS
 try simp only [World.size_alloc] at s4
 rw [hWb]
 obtain ⟨uB,hpy,hpb⟩:=F9 hWb
 clear hWb
 have cpb:=n5 0 hpb
 simp at cpb
 have fpb:=j3 (i:=0) hpb
 refine Zs b7 fun _ b7=>Zr [6] hf ?_
 refine C1 2 4 hf ?_
 clear hf s1 s2 s3 s4;intro a7 hf sS
 generalize hWc:Wb.setCell ⟨(W.heap.size+1),0,none⟩ (.func (.func 152) #[] #[.pointer (some ⟨pf,0,none⟩),.pointer (some ⟨pt,0,none⟩),.pointer (some ⟨W.heap.size,0,none⟩),.pointer (some ⟨(W.heap.size+1),0,none⟩)])=Wc
 have z2k:Wc.heap[(W.heap.size+1)]? =some (.cells #[.func (.func 152) #[] #[.pointer (some ⟨pf,0,none⟩),.pointer (some ⟨pt,0,none⟩),.pointer (some ⟨W.heap.size,0,none⟩),.pointer (some ⟨(W.heap.size+1),0,none⟩)]] 238 (0,0)):=by rw [<- hWc];simpa using j5 (i:=0) hpb (.func (.func 152) #[] #[.pointer (some ⟨pf,0,none⟩),.pointer (some ⟨pt,0,none⟩),.pointer (some ⟨W.heap.size,0,none⟩),.pointer (some ⟨(W.heap.size+1),0,none⟩)])
 have x2r:Wc.heap[W.heap.size]? =some (.cells #[.func (.yield l) #[] #[]] 237 (0,0)):=by rw [<- hWc];exact (Below.heap_setCell _ _ _ _ sP).trans hpy
 have hbc:Below W.heap.size W Wc:=by rw [<- hWc];exact uB.setCell (p:=⟨W.heap.size+1,0,none⟩) (Nat.le_succ _) _
 clear hWc cpb fpb hpb hpy uB
 replace hpf:=(hbc.block _ (j4 hpf)).trans hpf;replace kF:=(hbc.block _ (j4 kF)).trans kF;replace N3:=N3.below (hbc.mono hNW)
 have hj:=(hJ []).r5 h0 hbc
 have uH:=n5 0 kF;have uJ:=n5 1 kF
 simp at uH uJ
 have s7s:=j4 z2k
 refine Zt b7 fun _ b7=> ?_
 have bB:=hf.B2 7 8
 refine Zy ?_
 refine Zc (z0u Wc _ init ss N3.rs oM) ?_;rintro e Wd ⟨rfl,tL⟩
 replace hpf:=(tL.block _ (j4 hpf)).trans hpf
 replace kF:=(tL.block _ (j4 kF)).trans kF
 replace x2r:=(tL.block _ (j4 x2r)).trans x2r
 replace z2k:=(tL.block _ (j4 z2k)).trans z2k
 have hNc:N<=Wc.heap.size:=Nat.le_trans hNW hbc.size
 replace N3:=N3.below (tL.mono hNc)
 replace hj:=(hJ []).z7m hj hbc.size tL
 have hWd:W.heap.size+1<Wd.heap.size:=j4 z2k
 refine Zv ?_
 refine Zy ?_
 refine Fc.nil (B1 2 4 5 hf ?_)
 clear hf sS bB;intro a7 hf sS
 refine Zs b7 fun _ b7=>Zr [9] hf ?_
 refine C0 2 4 5 10 hf ?_
 clear hf sS;intro a7 hf sS
 refine Zx b7 (Fc.l0 sS.2.2.2 (fun hq=> ?_) (fun hq=> ?_))
 . (
 obtain ⟨k,hk⟩:∃ k,ss.length=k+1:=⟨ss.length-1,qT⟩
 have bV:(ss.length:Int)-1=((k:Nat):Int):=oM
 obtain ⟨s2,s4,s5,y4⟩:=sS
 rw [bV] at s5
 clear hq
 have uH:=n5 0 kF;have uJ:=n5 1 kF;have cpb:=n5 0 z2k
 simp at uH uJ cpb
 have ebh:∀ args w,(callFunc 152 args).run Tryz.prog w= .ok (.enter 152 args) w:=enters_of Tryz.func152 kR rfl
 have w8c:=z2l m (WF W.heap.size N pf pt from_ (.slice A ss.length cc) init ss l) (W.heap.size+2) (WF.low hNW hfW htW) pf pt W.heap.size (W.heap.size+1) from_ hfz (.slice A ss.length cc) init ss l J Jx WS (fun h=>h.use) (fun pre x W1 hj1 hF1 hp=>(hY pre x W1 hj1 hp).mono fun e W2 h=>by rcases h with ⟨h1,h2,h3⟩ | ⟨h1,h2,h3⟩;exact .inl ⟨h1,h2,h3.kc hNW hfW htW hNf hNt hfG htG hGW hLW⟩;exact .inr ⟨h1,h2,h3.kc hNW hfW htW hNf hNt hfG htG hGW hLW⟩) (fun s=>(hJ s).mono (fun o h=>h) oM) (fun s=>(hJx s).mono (fun o h=>h) oM) hlen a8 D5 ss.length k Wd ⟨#[]⟩ init true [] oM oM oM ⟨hpf,kF,x2r,z2k,N3⟩ hj (by rw [List.nil_append, <- HWS.out,hk];exact List.prefix_refl _) K0 (by show 0+k<=1000000;omega)
 refine rg ?_
 obtain ⟨b11,b12,b13,b14,b15⟩:=hf.B5 11 12 13 14 15
 iterate 5 refine Zy ?_
 refine fp fun K Z=> ?_
 refine fY (g:=152) (args:= #[.int .i64 k,.string ⟨#[]⟩,.agg #[.int .u64 init,.bool true],.pointer (some ⟨pf,0,none⟩),.pointer (some ⟨pt,0,none⟩),.pointer (some ⟨W.heap.size,0,none⟩),.pointer (some ⟨(W.heap.size+1),0,none⟩)]) (by simp [execOp,go_sem,s5,cpb,ebh,b11,b12,b13,b14,b15]) w8c ?_
 rintro e W2 hR
 obtain ⟨bt,rfl,U4⟩:=x9z hR
 refine ⟨_,rfl,?_⟩
 clear hR w8c
 apply Z.out;clear Z K
 refine Fc.nil (Zq0 hf ?_)
 clear hf s2 s4 s5 y4 b11 b12 b13 b14 b15;intro a7 hf
 refine Fc.pZ rfl hf ⟨⟨_,rfl⟩,?_⟩
 rcases U4 with ⟨-,h1, -⟩ | ⟨-,⟨s,h1,h2⟩, -⟩
 . (
 exact .inl ⟨_,rfl,by rw [List.nil_append,show walkS ss (wl from_) ss.length k ⟨#[]⟩ init true=WS by rw [<- HWS.out,hk];rfl] at h1;exact h1⟩)
 . (
 exact .inr ⟨s,h1,h2⟩))
 . (
 have h0l:ss.length=0:=qF
 have hws:WS=[]:=by rw [<- HWS.out,h0l,walkS]
 refine wp_skip ?_
 exact Fc.pZ rfl hf ⟨⟨_,rfl⟩,.inl ⟨_,rfl,by rw [hws];exact hj⟩⟩)
theorem y6b (m pf pt N G:Nat) (from_:ByteArray) (hfz:from_.size<=1000000000) (sv:Value) (init:Nat) (K0:init<y5) (ss:List State) (W0:World) (hpf:W0.heap[pf]? =some (.cells #[.string from_] 9 (0,0))) (kF:W0.heap[pt]? =some (.cells #[sv,.int .u64 init] 38 (0,0))) (N3:oJ W0 N sv ss) (hNW:N<=W0.heap.size) (hNf:N<=pf) (hNt:N<=pt) (hfG:pf≠G) (htG:pt≠G) (hGW:G<W0.heap.size)
  (hlen:ss.length<=1000000) (a8:∀ s∈ss,J8 s) (D5:∀ (k:Nat) (st:State),ss[k]? =some st->okArcs k (-1) st.a6=true) :
  Iter m Tryz.prog Cw 151 #[.pointer (some ⟨pf,0,none⟩),.pointer (some ⟨pt,0,none⟩)] Wd.args (KE N G (W0.heap.size+1)) (fun xs=>xs=(walkS ss (wl from_) ss.length (ss.length-1) ⟨#[]⟩ init true)) (fun pre=>pre <+: (walkS ss (wl from_) ss.length (ss.length-1) ⟨#[]⟩ init true)) (fun pre x=>pre++[x] <+: (walkS ss (wl from_) ss.length (ss.length-1) ⟨#[]⟩ init true)) W0:=by
 intro l J Jx W hb F7 hJ hJx hY h0
 have h1:=j4 hpf;have h2:=j4 kF
 exact callsIn_wide.2 (x2s W m m l pf pt N G (W0.heap.size+1) from_ hfz sv init K0 ss J Jx hY hJ hJx ((hb.block _ h1).trans hpf) ((hb.block _ h2).trans kF) (N3.below (hb.mono hNW)) oM hNf hNt oM oM hfG htG oM oM hlen a8 D5 h0)
end Dw
end Go.Proofs.YtcddnmhmcieebaaGreatDoor
