import Derived.Test.YtcddnmhmcieebaaGreatDoorY7
namespace Go.Proofs.YtcddnmhmcieebaaGreatDoor
set_option linter.unusedSimpArgs false
set_option linter.unusedVariables false
set_option linter.unnecessarySimpa false
set_option maxHeartbeats 4000000
set_option maxRecDepth 100000
open Go.RowKit
namespace Dw
theorem WQ (a b:Bool):a=false\/(a=true/\b=true)\/(a=true/\b=false):=by cases a<;>cases b<;>simp
theorem DK {pre own:List Wd} (g:u3->List Wd) {xs ys:List u3} {x:u3} (h:xs++[x] <+: ys):(pre++own++xs.flatMap g)++g x <+: pre++(own++ys.flatMap g):=by
 obtain ⟨z,rfl⟩:=h
 exact ⟨z.flatMap g,sP⟩
theorem JH (V:World) (g y:Nat) (h:V.cell? ⟨g,0,none⟩=some (.int .u8 y)):(convert 31 9 (.slice (some ⟨g,0,none⟩) 1 1)).run Tryz.prog V= .ok (.string (bl [y])) V :=
 run_convert_bytes_arg (P:=Tryz.prog) _ 31 5 Tryz.underlying31 Tryz.underlying5 g 0 1 1 [(y:Int)] rfl (fun i hi=>by have h0:i=0:=(by omega);subst h0;exact h) 9 Tryz.underlying9
theorem P8.lj {G:Nat} {W:World}:P8 G [] 0 W:=trivial
theorem P8.z6a {G D:Nat} {W:World} (hG:G<D) (h:W.heap[D]? =some (.deferred (some []))):P8 G [{ target:= .collected D,args:= #[] }] W.heap.size W:=⟨D,rfl,hG,j5 h,h,trivial⟩
theorem P8.one {G D:Nat} {W W9:World} (hG:G<D) (hg:W.grownBy W9 (some G)) (h:W.heap[D]? =some (.deferred (some []))):P8 G [{ target:= .collected D,args:= #[] }] W9.heap.size W9:=P8.z6a hG ((hg.block D (j5 h) (fun e=>by injection e with e;omega)).trans h)
def Rb (F:World->Prop) (M:Nat) (J Jx:List Wd->World->Prop) (T:List Wd) (W:World) (pre xs:List Wd) (e:Ending) (W':World):Prop :=
 (e= .returned (.bool true)/\J (pre++xs) W'/\KC F M W W')\/(e= .returned (.bool false)/\(∃ s,s <+: T/\Jx s W')/\KC F M W W')
theorem Rq {F:World->Prop} {M:Nat} {J Jx:List Wd->World->Prop} {T:List Wd} {W W':World} {pre xs:List Wd} {e:Ending} (h:Rb F M J Jx T W pre xs e W'):∃ b:Bool,e= .returned (.bool b)/\((b=true/\J (pre++xs) W'/\KC F M W W')\/(b=false/\(∃ s,s <+: T/\Jx s W')/\KC F M W W')):=nJ h
theorem KI.res {F:World->Prop} {M B0 g:Nat} {A B:World} {o:Obj} (hF:Sy F M) (hM:M<=g) (h:A.heap[g]? =some o) (h9:B.heap[g]? =some o) (hg:A.grownBy B (some g)):KI F M B0 A B :=
 ⟨hg.size,fun x=>hF A B (some g) x hg (fun r e=>by cases e;exact hM),fun k o2 _ _ _ hk=>by
  by_cases e:k=g
  ·subst e;rw [h] at hk;rw [h9];exact hk
  ·exact (hg.block k (j5 hk) (fun e2=>by injection e2 with e2;exact e e2)).trans hk⟩
theorem Lq (m:Nat) (F:World->Prop) (M:Nat) (pK:Sy F M) (pf pt py pb:Nat) (from_:ByteArray) (AL:from_.size<=1000000000) (sv:Value) (init:Nat) (ss:List State) (L:Nat) (J Jx:List Wd->World->Prop) (T:List Wd)
    (hF:∀ {V:World},F V->V.cell? ⟨pf,0,none⟩=some (.string from_)/\V.cell? ⟨pt,0,none⟩=some sv/\V.cell? ⟨pt,1,none⟩=some (.int .u64 init)/\V.cell? ⟨py,0,none⟩=some (.func (.yield L) #[] #[])/\V.cell? ⟨pb,0,none⟩=some (.func (.func 152) #[] #[.pointer (some ⟨pf,0,none⟩),.pointer (some ⟨pt,0,none⟩),.pointer (some ⟨py,0,none⟩),.pointer (some ⟨pb,0,none⟩)])/\RS V sv ss)
    (hY:∀ pre x W1,J pre W1->F W1->pre++[x] <+: T->YieldAt Fence.wide (m-1) Tryz.prog L x.args W1 fun e W'=>(e= .returned (.bool true)/\J (pre++[x]) W'/\KC F M W1 W')\/(e= .returned (.bool false)/\Jx (pre++[x]) W'/\KC F M W1 W'))
    (hJ:∀ s,l3 Cw M (J s)) (Rr:∀ s,l3 Cw M (Jx s)) (hlen:ss.length<=1000000) (a6:∀ s∈ss,L3 s) (D6:∀ (k:Nat) (st:State),ss[k]? =some st->okArcs k (-1) st.j4=true)
    (f k:Nat) (W:World) (u:ByteArray) (n:Nat) (b:Bool) (pre:List Wd) (hM:M<=W.heap.size) (Dh:F W) (hJ0:J pre W) (hT:pre++walkS ss (wl from_) (f+1) k u n b <+: T) (hn:n<q9) (tW:k<ss.length) (hul:u.size+k<=1000000)
    (IH:∀ (k':Nat) (W':World) (u':ByteArray) (n':Nat) (b':Bool) (Rs:List Wd),k'<k->M<=W'.heap.size->F W'->J Rs W'->Rs++walkS ss (wl from_) f k' u' n' b' <+: T->n'<q9->u'.size+k'<=1000000->Calls Tryz.prog 152 #[.int .i64 k',.string u',.agg #[.int .u64 n',.bool b'],.pointer (some ⟨pf,0,none⟩),.pointer (some ⟨pt,0,none⟩),.pointer (some ⟨py,0,none⟩),.pointer (some ⟨pb,0,none⟩)] W' (Rb F M J Jx T W' Rs (walkS ss (wl from_) f k' u' n' b'))):Calls Tryz.prog 152 #[.int .i64 k,.string u,.agg #[.int .u64 n,.bool b],.pointer (some ⟨pf,0,none⟩),.pointer (some ⟨pt,0,none⟩),.pointer (some ⟨py,0,none⟩),.pointer (some ⟨pb,0,none⟩)] W (Rb F M J Jx T W pre (walkS ss (wl from_) (f+1) k u n b)):=by
 refine xX Tryz.func152 rfl ?_
 refine Fc.en 69 fun fr hf hT=> ?_
 have s0:=hT 0 _ rfl
 have s1:=hT 1 _ rfl
 have s2:=hT 2 _ rfl
 have s3:=hT 3 _ rfl
 have s4:=hT 4 _ rfl
 have s5:=hT 5 _ rfl
 have s6:=hT 6 _ rfl
 clear hT
 have o8:=(hF Dh).2.2.2.2.2
 obtain ⟨A,cc,rfl,U0⟩:=o8.form
 obtain ⟨st,A8⟩:∃ x,ss[k]? =some x:=⟨_,F8 tW⟩
 clear o8
 obtain ⟨res,D0⟩:∃ x,walkS ss (wl from_) (f+1) k u n b=x:=⟨_,rfl⟩
 rw [D0] at hT |-
 have z5z:=H9 D0;clear D0
 refine Ze fun _ a8=>Zr [] hf ?_
 refine mF 0 3 4 5 6 8 9 10 hf ?_
 clear hf s0 s1 s2 s3 s4 s5 s6;intro a7 hf sS
 generalize p8:((W.alloc (.cells #[.string u] 9)).alloc (.cells #[.int .u64 n,.bool b] 190)).alloc (.cells #[.bool false] 4)=W0
 obtain ⟨s0,s3,s4,s5,s6,s8,s9,u4⟩:=sS
 try simp only [World.size_alloc] at s9 u4
 obtain ⟨o7,gX,jW,J3⟩:=cG p8
 clear p8
 have c8:=n5 0 gX
 simp at c8
 have iD:=KC.below pK o7
 have hj:=(hJ pre).r9 hJ0 o7
 have FG:=iD.held Dh
 obtain ⟨cf, -⟩:=hF FG
 obtain ⟨mn,ni⟩:∃ x,min u.size from_.size=x:=⟨_,rfl⟩
 have hmf:mn<=from_.size:=oM
 obtain ⟨ah,hah⟩:∃ x,lexlt (wl u) ((wl from_).take u.size)=x:=⟨_,rfl⟩
 have z5x:lexlt (wl u) (wl (from_.extract 0 mn))=ah:=by rw [<- hah,bP,List.drop_zero, <- ni];congr 1;rcases Nat.le_total u.size from_.size with h | h;(rw [Nat.min_eq_left h]);(rw [Nat.min_eq_right h];have h2:=o5 from_;rw [List.take_of_length_le oM,List.take_of_length_le oM])
 have HMN:=H9 ni;have Ts:=H9 hah;have y2u:=H9 z5x;clear ni hah z5x
 refine Zs a8 fun _ a8=>Sb.tb 69 fun a6=> ?_
 have lf:=H9 fun (w9:World) (h9:Below _ _ w9)=>ad (cL h9 c8) (cL h9 cf)
 refine Sb.T 0 hf a6 ?_ (hF:=fun _ _ h d=>ad (Sb.O h s8) (lf.out _ h.ext))
 refine Sb.T 1 hf a6 ?_ (hF:=fun _ _ h d=>ad (Sb.O h s3) (lf.out _ h.ext))
 refine Sb.T 2 hf a6 ?_ (hF:=fun _ _ h d=>ad (Sb.O h s8) (lf.out _ h.ext))
 refine Sb.T 3 hf a6 ?_ (hF:=fun _ _ h d=>lf.out _ h.ext)
 refine Sb.T 4 hf a6 ?_ (hF:=fun _ _ h d=>ad (Sb.O h s3) (lf.out _ h.ext))
 refine Sb.T 5 hf a6 ?_ (hF:=fun _ _ h d=>lf.out _ h.ext)
 apply Sb.tq 6 _ hf a6
 . (
 intro a7 w1 hh hd hk K Z
 have G7:=Sb.v 3 2 hd hk []
 have K9:=Sb.v 5 0 hd hk []
 clear hd
 replace c8:=cL hh.ext c8
 replace cf:=cL hh.ext cf
 go_simp
 rw [show min (u.size:Int) (from_.size:Int)=((mn:Nat):Int) by rw [<- HMN.out];omega]
 exact Sb.k Z)
 refine Sb.T 7 hf a6 ?_
 apply Sb.tq 8 _ hf a6
 . (
 intro a7 w1 hh hd hk K Z
 have S4:=Sb.v 0 7 hd hk []
 have S9:=Sb.v 7 0 hd hk []
 clear hd
 replace c8:=cL hh.ext c8
 replace cf:=cL hh.ext cf
 go_simp
 go_at_call 153;refine (zR w1 u (from_.extract 0 mn)).mono ?_;rintro e w2 ⟨rfl,Vh⟩
 subst Vh
 rw [y2u.out]
 exact Sb.k Z)
 refine Sb.mN 9 8 0 hf a6 [] ?_
 refine Sb.E hf a6 (fun _ _ h g=>ad (Sb.O h s0) (ad (Sb.O h s3) (ad (Sb.O h s4) (ad (Sb.O h s5) (ad (Sb.O h s6) (ad (Sb.O h s8) (ad (Sb.O h s9) (ad (Sb.O h u4) (Sb.f 9 0 g))))))))) ?_
 clear hf a6 s0 s3 s4 s5 s6 s8 s9 u4;intro a7 w1 hf hx sS
 replace c8:=cL hx c8
 replace cf:=cL hx cf
 clear lf
 replace hj:=(hJ _).r9 hj hx
 replace iD:=iD.trans (KC.below pK hx)
 replace gX:=(hx.block _ (j5 gX)).trans gX
 replace jW:=(hx.block _ (j5 jW)).trans jW
 replace J3:=(hx.block _ (j5 J3)).trans J3
 replace FG:=iD.held Dh
 refine Zs a8 fun _ a8=>Ze fun _ j8=>Zr [] hf ?_
 refine tZ 0 3 4 5 6 8 9 10 23 hf ?_
 intro a7 hf sS
 refine Zx j8 (Fc.l0 sS.2.2.2.2.2.2.2.2 (fun hq=> ?_) (fun hq=> ?_))
 . (
 subst hq
 have lh:=n5 0 J3
 simp at lh
 have f10:=j6 (i:=0) J3
 have hr:res=[]:=z5z.out.symm.trans (fS Ts.out)
 refine Ze fun _ j8=>Zr [] hf ?_
 refine mF 0 3 4 5 6 8 9 10 hf ?_
 intro a7 hf sS
 generalize lT:w1.setCell ⟨(W.heap.size+1+1),0,none⟩ (.bool true)=W3
 obtain ⟨Fq,lH,eA⟩:=qG J3 lT
 have GA:=iD.turn pK (g:=(W.heap.size+1+1)) oM hM lH
 refine Zx j8 (k8 ?_)
 exact JG (G:=(W.heap.size+1+1)) (S:=fun V=>J (pre++res) V/\KC F M W V) (l3.and ((hJ _).mono (fun o h=> .inl h) oM) (KC.stays pK oM hM)) rfl hf sS.2.2.2.2.2.2.2 Fq nR Tryz.isAgg4 P8.lj ⟨by rw [hr,List.append_nil];exact eA _ _ (hJ _) oM hj,GA⟩ (fun w' _ hs=> .inl ⟨rfl,hs.1,hs.2⟩))
 . (
 subst hq
 have hr:=z5z.out.symm.trans (kM Ts.out A8)
 obtain ⟨own,H8⟩:∃ x,eM st (wl from_) u n b=x:=⟨_,rfl⟩
 obtain ⟨kf,Rm⟩:∃ x,kN ss (wl from_) f u n b=x:=⟨_,rfl⟩
 rw [H8,Rm] at hr
 rw [hr] at hT
 obtain ⟨ls,iN⟩:∃ x,lexlt (wl u) (wl from_)=x:=⟨_,rfl⟩
 have HR:=H9 hr;have lg:=H9 H8;have HKF:=H9 Rm;have HLS:=H9 iN;clear hr H8 Rm iN
 refine wp_skip (Zx a8 (Fc.G1 (fun fr wq=>Fc.Fr 69 fr/\fr.tmps[0]? =some (.int .i64 k)/\fr.tmps[4]? =some (.pointer (some ⟨pt,0,none⟩))/\fr.tmps[6]? =some (.pointer (some ⟨pb,0,none⟩))/\fr.tmps[8]? =some (.pointer (some ⟨W.heap.size,0,none⟩))/\fr.tmps[9]? =some (.pointer (some ⟨(W.heap.size+1),0,none⟩))/\fr.tmps[10]? =some (.pointer (some ⟨(W.heap.size+1+1),0,none⟩))/\J (pre++own) wq/\KC F M W wq/\wq.heap[W.heap.size]? =some (.cells #[.string u] 9 (0,0))/\wq.heap[(W.heap.size+1)]? =some (.cells #[.int .u64 n,.bool b] 190 (0,0))/\wq.heap[(W.heap.size+1+1)]? =some (.cells #[.bool false] 4 (0,0))) ?_ ?_))
 . (
 have Z5:=T9 A8
 obtain ⟨cf,uW,uX,cy,cb,z5w⟩:=hF FG
 obtain ⟨gs,off,av,zV,C7⟩:=z5w.at_ A8
 subst zV
 have d1:=C7.c1;have d2:=C7.c2
 clear C7 z5w
 have tG:=n5 0 jW;have tH:=n5 1 jW
 simp at tG tH
 rcases WQ st.final ls with gJ | gJ | gJ
 . (
 rw [gJ] at d1
 have pc:own=[]:=by rw [<- lg.out,eM,gJ];rfl
 refine Ze fun _ a8=> ?_
 obtain ⟨s0,s3,s4,s5,s6,s8,s9,u4,Q3⟩:=sS
 refine Sb.tb 69 fun a6=> ?_
 have lf:=H9 fun (w9:World) (h9:Below _ _ w9)=>ad (cL h9 c8) (ad (cL h9 cf) (ad (cL h9 uW) (ad (cL h9 uX) (ad (cL h9 cy) (ad (cL h9 d1) (ad (cL h9 d2) (ad (cL h9 tG) (cL h9 tH))))))))
 refine Sb.T 0 hf a6 ?_ (hF:=fun _ _ h d=>Sb.O h s4)
 refine Sb.T 1 hf a6 ?_ (hF:=fun _ _ h d=>lf.out _ h.ext)
 refine Sb.mO 2 s0 hf a6 ?_
 refine Sb.T 3 hf a6 ?_
 refine Sb.T 4 hf a6 ?_
 refine Sb.T 5 hf a6 ?_ (hF:=fun _ _ h d=>lf.out _ h.ext)
 refine Sb.mN 6 5 0 hf a6 [] ?_
 refine Sb.Tk 7 hf a6 ?_
 refine Sb.Tk 8 hf a6 ?_
 apply Sb.tr 9 _ hf a6
 . (
 intro a7 w1 hh hd hk K Z
 have kG:=Sb.v 6 2 hd hk []
 refine Sb.sk kG ?_
 exact Sb.k Z)
 refine Sb.Tk 10 hf a6 ?_
 refine Sb.T 11 hf a6 ?_
 refine Sb.mN 12 11 0 hf a6 [] ?_
 refine Sb.Tk 13 hf a6 ?_
 refine Sb.Tk 14 hf a6 ?_
 refine Sb.Tk 15 hf a6 ?_
 refine Sb.Tk 16 hf a6 ?_
 refine Sb.Tk 17 hf a6 ?_
 refine Sb.Tk 18 hf a6 ?_
 refine Sb.Tk 19 hf a6 ?_
 refine Sb.Tk 20 hf a6 ?_
 refine Sb.Tk 21 hf a6 ?_
 apply Sb.tr 22 _ hf a6
 . (
 intro a7 w1 hh hd hk K Z
 have vN:=Sb.v 12 9 hd hk []
 refine Sb.sk vN ?_
 exact Sb.k Z)
 refine Sb.Tk 23 hf a6 ?_
 refine Sb.Tk 24 hf a6 ?_
 refine Sb.T 25 hf a6 ?_
 refine Sb.E hf a6 (fun _ _ h g=>ad (Sb.O h s0) (ad (Sb.O h s4) (ad (Sb.O h s6) (ad (Sb.O h s8) (ad (Sb.O h s9) (ad (Sb.O h u4) (Sb.f 25 0 g))))))) ?_
 clear hf a6 s0 s3 s4 s5 s6 s8 s9 u4 Q3;intro a7 w1 hf hx sS
 have L1:=lf.out _ hx;(try clear c8 cf uW uX cy d1 d2 tG tH);clear lf;obtain ⟨c8,cf,uW,uX,cy,d1,d2,tG,tH⟩:=L1
 replace hj:=(hJ _).r9 hj hx
 replace iD:=iD.trans (KC.below pK hx)
 replace gX:=(hx.block _ (j5 gX)).trans gX
 replace jW:=(hx.block _ (j5 jW)).trans jW
 replace J3:=(hx.block _ (j5 J3)).trans J3
 refine Zx a8 (Fc.k9 sS.2.2.2.2.2.2 ?_)
 refine wp_skip (Fc.j7 ?_)
 obtain ⟨s0,s4,s6,s8,s9,u4,zY⟩:=sS
 exact ⟨hf,s0,s4,s6,s8,s9,u4,by rw [pc,List.append_nil];exact hj,iD,gX,jW,J3⟩)
 . (
 obtain ⟨gJ,hl⟩:=gJ
 subst hl
 rw [gJ] at d1
 have pc:own=[]:=by rw [<- lg.out,eM,gJ,HLS.out];rfl
 refine Ze fun _ a8=> ?_
 obtain ⟨s0,s3,s4,s5,s6,s8,s9,u4,Q3⟩:=sS
 refine Sb.tb 69 fun a6=> ?_
 have lf:=H9 fun (w9:World) (h9:Below _ _ w9)=>ad (cL h9 c8) (ad (cL h9 cf) (ad (cL h9 uW) (ad (cL h9 uX) (ad (cL h9 cy) (ad (cL h9 d1) (ad (cL h9 d2) (ad (cL h9 tG) (cL h9 tH))))))))
 refine Sb.T 0 hf a6 ?_ (hF:=fun _ _ h d=>Sb.O h s4)
 refine Sb.T 1 hf a6 ?_ (hF:=fun _ _ h d=>lf.out _ h.ext)
 refine Sb.mO 2 s0 hf a6 ?_
 refine Sb.T 3 hf a6 ?_
 refine Sb.T 4 hf a6 ?_
 refine Sb.T 5 hf a6 ?_ (hF:=fun _ _ h d=>lf.out _ h.ext)
 refine Sb.mN 6 5 0 hf a6 [] ?_
 refine Sb.Tg 7 hf a6 ?_ (hF:=fun _ _ h d=>ad (Sb.O h s8) (lf.out _ h.ext))
 refine Sb.Tg 8 hf a6 ?_ (hF:=fun _ _ h d=>ad (Sb.O h s3) (lf.out _ h.ext))
 apply Sb.tr 9 _ hf a6
 . (
 intro a7 w1 hh hd hk K Z
 have kG:=Sb.v 6 2 hd hk []
 refine Sb.g kG ?_
 have Mz:=Sb.v 7 1 hd hk []
 have TX:=Sb.v 8 0 hd hk []
 clear hd
 have L1:=lf.out _ hh.ext;(try clear c8 cf uW uX cy d1 d2 tG tH);obtain ⟨c8,cf,uW,uX,cy,d1,d2,tG,tH⟩:=L1
 go_simp
 go_at_call 153;refine (zR w1 u from_).mono ?_;rintro e w2 ⟨rfl,Vh⟩
 subst Vh
 rw [HLS.out]
 exact Sb.k Z)
 refine Sb.Tg 10 hf a6 ?_
 refine Sb.T 11 hf a6 ?_
 refine Sb.mN 12 11 0 hf a6 [] ?_
 refine Sb.Tk 13 hf a6 ?_
 refine Sb.Tk 14 hf a6 ?_
 refine Sb.Tk 15 hf a6 ?_
 refine Sb.Tk 16 hf a6 ?_
 refine Sb.Tk 17 hf a6 ?_
 refine Sb.Tk 18 hf a6 ?_
 refine Sb.Tk 19 hf a6 ?_
 refine Sb.Tk 20 hf a6 ?_
 refine Sb.Tk 21 hf a6 ?_
 apply Sb.tr 22 _ hf a6
 . (
 intro a7 w1 hh hd hk K Z
 have vN:=Sb.v 12 9 hd hk []
 refine Sb.sk vN ?_
 exact Sb.k Z)
 refine Sb.Tk 23 hf a6 ?_
 refine Sb.Tk 24 hf a6 ?_
 refine Sb.T 25 hf a6 ?_
 refine Sb.E hf a6 (fun _ _ h g=>ad (Sb.O h s0) (ad (Sb.O h s4) (ad (Sb.O h s6) (ad (Sb.O h s8) (ad (Sb.O h s9) (ad (Sb.O h u4) (Sb.f 25 0 g))))))) ?_
 clear hf a6 s0 s3 s4 s5 s6 s8 s9 u4 Q3;intro a7 w1 hf hx sS
 have L1:=lf.out _ hx;(try clear c8 cf uW uX cy d1 d2 tG tH);clear lf;obtain ⟨c8,cf,uW,uX,cy,d1,d2,tG,tH⟩:=L1
 replace hj:=(hJ _).r9 hj hx
 replace iD:=iD.trans (KC.below pK hx)
 replace gX:=(hx.block _ (j5 gX)).trans gX
 replace jW:=(hx.block _ (j5 jW)).trans jW
 replace J3:=(hx.block _ (j5 J3)).trans J3
 refine Zx a8 (Fc.k9 sS.2.2.2.2.2.2 ?_)
 refine wp_skip (Fc.j7 ?_)
 obtain ⟨s0,s4,s6,s8,s9,u4,zY⟩:=sS
 exact ⟨hf,s0,s4,s6,s8,s9,u4,by rw [pc,List.append_nil];exact hj,iD,gX,jW,J3⟩)
 . (
 obtain ⟨gJ,hl⟩:=gJ
 subst hl
 rw [gJ] at d1
 obtain ⟨X,hX⟩:∃ x,(⟨u,(n+st.out)%q9,b&&decide (n+st.out<q9)⟩:Wd)=x:=⟨_,rfl⟩
 have pc:own=[X]:=by rw [<- lg.out,eM,gJ,HLS.out, <- hX];rfl
 have Sj:pre++[X] <+: T:=by rw [pc, <- List.append_assoc] at hT;exact (List.prefix_append _ _).trans hT
 have DV:=(a6 st Z5).1
 have hxa:X.args= #[.string u,.agg #[.int .u64 ((n+st.out)%q9:Nat),.bool (b&&decide (n+st.out<q9))]]:=by rw [<- hX];rfl
 refine Ze fun _ a8=> ?_
 obtain ⟨s0,s3,s4,s5,s6,s8,s9,u4,Q3⟩:=sS
 refine Tl.ln m 69 fun a6=> ?_
 have lf:=H9 fun (w9:World) (h9:Below _ _ w9)=>ad (cL h9 c8) (ad (cL h9 cf) (ad (cL h9 uW) (ad (cL h9 uX) (ad (cL h9 cy) (ad (cL h9 d1) (ad (cL h9 d2) (ad (cL h9 tG) (cL h9 tH))))))))
 refine Sb.T 0 hf a6 ?_ (hF:=fun _ _ h d=>Sb.O h s4)
 refine Sb.T 1 hf a6 ?_ (hF:=fun _ _ h d=>lf.out _ h.ext)
 refine Sb.mO 2 s0 hf a6 ?_
 refine Sb.T 3 hf a6 ?_
 refine Sb.T 4 hf a6 ?_
 refine Sb.T 5 hf a6 ?_ (hF:=fun _ _ h d=>lf.out _ h.ext)
 refine Sb.mN 6 5 0 hf a6 [] ?_
 refine Sb.Tg 7 hf a6 ?_ (hF:=fun _ _ h d=>ad (Sb.O h s8) (lf.out _ h.ext))
 refine Sb.Tg 8 hf a6 ?_ (hF:=fun _ _ h d=>ad (Sb.O h s3) (lf.out _ h.ext))
 apply Sb.tr 9 _ hf a6
 . (
 intro a7 w1 hh hd hk K Z
 have kG:=Sb.v 6 2 hd hk []
 refine Sb.g kG ?_
 have Mz:=Sb.v 7 1 hd hk []
 have TX:=Sb.v 8 0 hd hk []
 clear hd
 have L1:=lf.out _ hh.ext;(try clear c8 cf uW uX cy d1 d2 tG tH);obtain ⟨c8,cf,uW,uX,cy,d1,d2,tG,tH⟩:=L1
 go_simp
 go_at_call 153;refine (zR w1 u from_).mono ?_;rintro e w2 ⟨rfl,Vh⟩
 subst Vh
 rw [HLS.out]
 exact Sb.k Z)
 refine Sb.Tg 10 hf a6 ?_
 refine Sb.T 11 hf a6 ?_
 refine Sb.mN 12 11 0 hf a6 [] ?_
 refine Sb.Tg 13 hf a6 ?_ (hF:=fun _ _ h d=>ad (Sb.O h s5) (lf.out _ h.ext))
 refine Sb.Tg 14 hf a6 ?_ (hF:=fun _ _ h d=>ad (Sb.O h s8) (lf.out _ h.ext))
 refine Sb.Tg 15 hf a6 ?_ (hF:=fun _ _ h d=>ad (Sb.O h s9) (lf.out _ h.ext))
 refine Sb.Tg 16 hf a6 ?_ (hF:=fun _ _ h d=>Sb.O h s4)
 refine Sb.Tg 17 hf a6 ?_ (hF:=fun _ _ h d=>lf.out _ h.ext)
 refine Sb.Tg 18 hf a6 ?_ (hF:=fun _ _ h d=>Sb.O h s0)
 refine Sb.Tg 19 hf a6 ?_
 refine Sb.Tg 20 hf a6 ?_
 refine Sb.Tg 21 hf a6 ?_ (hF:=fun _ _ h d=>lf.out _ h.ext)
 apply Sb.tr 22 _ hf a6
 . (
 intro a7 w1 hh hd hk K Z
 have vN:=Sb.v 12 9 hd hk []
 refine Sb.g vN ?_
 have cR:=Sb.v 15 6 hd hk []
 have QR:=Sb.v 21 0 hd hk []
 clear hd
 have L1:=lf.out _ hh.ext;(try clear c8 cf uW uX cy d1 d2 tG tH);obtain ⟨c8,cf,uW,uX,cy,d1,d2,tG,tH⟩:=L1
 go_simp
 go_at_call 113;refine (mQ w1 n st.out b hn DV).mono ?_;rintro e w2 ⟨rfl,hb⟩
 exact Z.out _ rfl _ _ hb rfl)
 refine Tl.Fz 23 [(23,0,[12,9,6,5,4,3,1]),(23,1,[12,9,6,5,4,3]),(23,2,[12,9,6,5,4,3]),(23,3,[12,9,6,5,4]),(23,4,[12,9,6,5]),(23,5,[12,9,6]),(23,6,[12,9]),(23,7,[12,9]),(23,8,[12,9]),(23,9,[12]),(23,10,[12,11]),(23,11,[12]),(23,15,[22]),(23,16,[22,21,20,19,17]),(23,17,[22,21,20,19]),(23,18,[22,21,20,19]),(23,19,[22,21,20]),(23,20,[22,21]),(23,21,[22]),(24,0,[12,9,6,5,4,3,1]),(24,1,[12,9,6,5,4,3]),(24,2,[12,9,6,5,4,3]),(24,3,[12,9,6,5,4]),(24,4,[12,9,6,5]),(24,5,[12,9,6]),(24,6,[12,9]),(24,7,[12,9]),(24,8,[12,9]),(24,9,[12]),(24,10,[12,11]),(24,11,[12]),(24,13,[23]),(24,14,[23]),(24,15,[23,22]),(24,16,[23,22,21,20,19,17]),(24,17,[23,22,21,20,19]),(24,18,[23,22,21,20,19]),(24,19,[23,22,21,20]),(24,20,[23,22,21]),(24,21,[23,22]),(24,22,[23]),(25,0,[12,9,6,5,4,3,1]),(25,1,[12,9,6,5,4,3]),(25,2,[12,9,6,5,4,3]),(25,3,[12,9,6,5,4]),(25,4,[12,9,6,5]),(25,5,[12,9,6]),(25,6,[12,9]),(25,7,[12,9]),(25,8,[12,9]),(25,9,[12]),(25,10,[12,11]),(25,11,[12]),(25,13,[24,23]),(25,14,[24,23]),(25,15,[24,23,22]),(25,16,[24,23,22,21,20,19,17]),(25,17,[24,23,22,21,20,19]),(25,18,[24,23,22,21,20,19]),(25,19,[24,23,22,21,20]),(25,20,[24,23,22,21]),(25,21,[24,23,22]),(25,22,[24,23]),(25,23,[24])] hf a6 (fun a7 w1 hh hg=> ?_)
 replace s0:=Sb.O hh s0
 replace s4:=Sb.O hh s4
 replace s6:=Sb.O hh s6
 replace s8:=Sb.O hh s8
 replace s9:=Sb.O hh s9
 replace u4:=Sb.O hh u4
 have vN:=Tl.z7 12 10 hg rfl rfl rfl rfl rfl
 have ZV:=Tl.z7 13 9 hg rfl rfl rfl rfl rfl
 have Dd:=Tl.z7 14 8 hg rfl rfl rfl rfl rfl
 have DW:=Tl.z7 22 0 hg rfl rfl rfl rfl rfl
 have y5:=hh.fr hf
 have hx:=hh.ext
 have L1:=lf.out _ hx;(try clear c8 cf uW uX cy d1 d2 tG tH);clear lf;obtain ⟨c8,cf,uW,uX,cy,d1,d2,tG,tH⟩:=L1
 clear hg hh hf a6 s3 s5 Q3
 have hf:=y5;clear y5
 obtain ⟨b47,b48⟩:=hf.B2 47 48
 replace hj:=(hJ _).r9 hj hx
 replace iD:=iD.trans (KC.below pK hx)
 replace gX:=(hx.block _ (j5 gX)).trans gX
 replace jW:=(hx.block _ (j5 jW)).trans jW
 replace J3:=(hx.block _ (j5 J3)).trans J3
 have Xz:=iD.held Dh
 have hy:=hY pre X _ hj Xz Sj
 rw [hxa] at hy
 refine Inr.lk (r:=none) (lp:=L) hy (by simp [execOp,go_sem,ZV,Dd,DW]) (fun e W3 hz=> ?_) vN
 obtain ⟨bt,rfl,X0⟩:=nJ hz
 refine ⟨_,rfl,?_⟩
 clear hy hz
 refine Inr.ogI fun K Z=> ?_
 go_simp
 apply Z.out;clear Z K
 refine Inr.dM fun K Z=> ?_
 go_simp
 apply Z.out;clear Z K
 refine Inr.mM ?_
 refine Z1 0 4 6 8 9 10 49 hf ?_
 clear hf s0 s4 s6 s8 s9 u4 vN ZV Dd DW b47 b48;intro a7 hf sS
 refine Zx a8 (Fc.l0 sS.2.2.2.2.2.2 (fun R0=> ?_) (fun R0=> ?_))
 . (
 have l6:bt=false:=by simpa using R0
 obtain ⟨h9, -⟩ | ⟨-,hjx,Z8⟩:=X0
 . (
 rw [l6] at h9;cases h9)
 replace iD:=iD.trans Z8
 replace J3:=Z8.kept _ _ oM (nE rfl) J3
 have lh:=n5 0 J3
 simp at lh
 have f10:=j6 (i:=0) J3
 refine Ze fun _ a8=>Zr [] hf ?_
 refine p5 10 hf ?_
 intro a7 hf u4
 generalize cS:W3.setCell ⟨(W.heap.size+1+1),0,none⟩ (.bool false)=W5
 obtain ⟨Fq,lH,eA⟩:=qG J3 cS
 have GA:=iD.turn pK (g:=(W.heap.size+1+1)) oM hM lH
 refine Zx a8 (k8 ?_)
 exact JG (G:=(W.heap.size+1+1)) (S:=fun V=>(∃ s,s <+: T/\Jx s V)/\KC F M W V) (l3.and (l3.ex fun s=>l3.and (l3.pure _ _ _) ((Rr s).mono (fun o h=> .inl h) oM)) (KC.stays pK oM hM)) rfl hf u4 Fq nR Tryz.isAgg4 P8.lj ⟨⟨_,Sj,eA _ _ (Rr _) oM hjx⟩,GA⟩ (fun w' _ hs=> .inr ⟨rfl,hs.1,hs.2⟩))
 . (
 have l6:bt=true:=by simpa using R0
 obtain ⟨-,KJ,Z8⟩ | ⟨h9, -⟩:=X0;rotate_left;(rw [l6] at h9;cases h9)
 replace iD:=iD.trans Z8
 replace gX:=Z8.kept _ _ oM (nE rfl) gX
 replace jW:=Z8.kept _ _ oM (nE rfl) jW
 replace J3:=Z8.kept _ _ oM (nE rfl) J3
 refine wp_skip (Fc.j7 ?_)
 obtain ⟨s0,s4,s6,s8,s9,u4,zY⟩:=sS
 exact ⟨hf,s0,s4,s6,s8,s9,u4,by rw [pc];exact KJ,iD,gX,jW,J3⟩)))
 . (
 clear hf sS
 clear hj iD gX jW J3 c8 cf
 rintro fr wq ⟨hf,s0,s4,s6,s8,s9,u4,hj,iD,gX,jW,J3⟩
 have hFq:=iD.held Dh
 obtain ⟨-,uW,uX, -, -,z5v⟩:=hF hFq
 refine Ze fun _ a8=>Ze fun _ j8=>rg ?_
 have bB:=hf.B2 50 51
 iterate 2 refine Zy ?_
 refine Zc (xY wq _ init k ss z5v) ?_;rintro e W6 ⟨rfl, -, -, -,C4,Ek,kZ⟩
 have hMq:M<=wq.heap.size:=Nat.le_trans hM iD.size
 have hWq:=iD.size
 replace hj:=(hJ _).r9 hj C4
 replace iD:=iD.trans (KC.below pK C4)
 replace gX:=(C4.block _ (j5 gX)).trans gX
 replace jW:=(C4.block _ (j5 jW)).trans jW
 replace J3:=(C4.block _ (j5 J3)).trans J3
 have hF6:=iD.held Dh
 obtain ⟨q6,EB⟩:∃ x,wq.heap.size=x:=⟨_,rfl⟩
 rw [EB] at Ek kZ hMq hWq |-
 have hl0:=j5 Ek;have Ev:=j5 kZ
 clear EB z5v uW uX
 refine Zv ?_
 refine Fc.nil (D2 6 8 9 10 52 hf ?_)
 clear hf s0 s4 s6 s8 s9 u4 bB;intro a7 hf sS
 refine Zx j8 (wp_block ?_)
 have hB6:=j5 J3
 have Z7:=D6 _ _ A8
 have Z5:=T9 A8
 have MM:=tE (9-1) q6 (q6+1) init k ss st (.slice A ss.length cc) W6 (KI F M W6.heap.size) (fun V=>F V/\V.heap[q6]? =some (.cells #[.slice A ss.length cc,.int .u64 init] 38 (0,0))/\V.heap[q6+1]? =some (.cells #[.int .i64 k] 3 (0,0))) (fun ⟨x,y,z⟩=>⟨by have c:=n5 0 y;simpa using c,by have c:=n5 1 y;simpa using c,by have c:=n5 0 z;simpa using c,(hF x).2.2.2.2.2⟩) (fun hb ⟨x,y,z⟩=>⟨pK.below hb x,(hb.block _ (j5 y)).trans y,(hb.block _ (j5 z)).trans z⟩) (fun hk ⟨x,y,z⟩=>⟨hk.held x,hk.kept _ _ hMq (.inl hl0) (nE rfl) y,hk.kept _ _ oM (.inl Ev) (nE rfl) z⟩) (fun h=>h.size) ⟨hF6,Ek,kZ⟩ A8 oM Z7 (Nat.le_trans (qY Z7 (a6 _ Z5)) oM) (fun g cs hg hk hh=>hk.kept g _ oM (.inr rfl) (nE rfl) hh)
 refine (wpIn_wide (n:=9)).1 ?_
 refine dX (C:=fun _=>False) (Fc.l5 sS.2.2.2.2) (enters_of Tryz.func156 kR rfl) MM KI.trans (fun V o o' ho hc _=>KI.put pK oM oM ho hc) (Below.refl _ _) (fun _=>rfl) (fun xs V=>J (pre++own++xs.flatMap kf) V/\KC F M W V/\V.heap[W.heap.size]? =some (.cells #[.string u] 9 (0,0))/\V.heap[(W.heap.size+1)]? =some (.cells #[.int .u64 n,.bool b] 190 (0,0))/\V.heap[(W.heap.size+1+1)]? =some (.cells #[.bool false] 4 (0,0))) (fun c _ V=>c= .ret/\(∃ s,s <+: T/\Jx s V)/\KC F M W V/\V.heap[(W.heap.size+1+1)]? =some (.cells #[.bool false] 4 (0,0))) (fun s=>l3.and ((hJ _).mono (fun o h=>h.elim .inl (fun x=>x.elim)) oM) (l3.and (KC.stays pK oM hM) (l3.and (l3.block (.inl oM)) (l3.and (l3.block (.inl oM)) (l3.block (.inl oM)))))) (fun c s=>l3.and (l3.pure _ _ _) (l3.and (l3.ex fun s=>l3.and (l3.pure _ _ _) ((Rr s).mono (fun o h=>h.elim .inl (fun x=>x.elim)) oM)) (l3.and (KC.stays pK oM hM) (l3.block (.inl oM))))) ⟨by rw [List.flatMap_nil,List.append_nil];exact hj,iD,gX,jW,J3⟩ (fun (x:u3) a' V=>∃ Bx,(Fc.Fr 69 a'/\a'.tmps[6]? =some (.pointer (some ⟨pb,0,none⟩))/\a'.tmps[8]? =some (.pointer (some ⟨W.heap.size,0,none⟩))/\a'.tmps[9]? =some (.pointer (some ⟨(W.heap.size+1),0,none⟩))/\a'.tmps[10]? =some (.pointer (some ⟨(W.heap.size+1+1),0,none⟩))/\a'.tmps[12]? =some (.int .u8 x.byte)/\a'.tmps[13]? =some (.pointer (some ⟨Bx,0,none⟩)))/\(V.cell? ⟨Bx,0,none⟩=some (.int .i64 x.to)/\V.cell? ⟨Bx,1,none⟩=some (.int .u64 x.out))) (fun x a'=>l3.ex fun Bx=>l3.and (l3.pure _ _ _) (l3.and l3.cell l3.cell)) ?_ ?_ ?_ ?_
 . (
 rintro l jR x V K ⟨hjV,Yk,e8,e9,ld⟩ ZR
 refine pM (M:=fun a=>Code.wpIn _ _ _ _ _ a _) hf rfl rfl rfl fun a1 y5 h53 h54 hold=> ?_
 obtain ⟨s6,s8,s9,u4,iv⟩:=sS
 have s6:=(hold 6 rfl rfl).trans s6;have s8:=(hold 8 rfl rfl).trans s8;have s9:=(hold 9 rfl rfl).trans s9;have u4:=(hold 10 rfl rfl).trans u4;have Sr:=h53;have Kx:=h54
 clear hold h53 h54
 have hf:=y5;clear y5
 refine wpIn_seq_k (fun _ GB=> ?_)
 refine Inr.MN (r:=some l) ?_
 refine Inr.dM fun K Z=> ?_
 go_simp
 apply Z.out;clear Z K
 refine Inr.mM ?_
 refine F1 6 8 9 10 12 54 hf ?_
 clear hf s6 s8 s9 u4 Sr Kx;intro a7 hf sS
 refine nx (GB _ _ ?_)
 obtain ⟨s6,s8,s9,u4,F7,Kx⟩:=sS
 refine Inr.MN (r:=some l) ?_
 have b13:=hf.b 13
 refine Inr.dM fun K Z=> ?_
 go_simp
 apply Z.out;clear Z K
 refine Inr.dM fun K Z=> ?_
 go_simp
 apply Z.out;clear Z K
 refine Inr.mM ?_
 refine F1 6 8 9 10 12 13 hf ?_
 clear hf s6 s8 s9 u4 F7 Kx b13;intro a7 hf sS
 refine Fc.j7 ?_
 generalize fH:V.alloc (.cells #[.int .i64 x.to,.int .u64 x.out] 233)=W7
 obtain ⟨B1,b0,b1, -, -⟩:=P7 fH
 have kb:=KC.below pK B1
 obtain ⟨s6,s8,s9,u4,F7,D1⟩:=sS
 exact ZR _ _ ((L9 B1).from _) kb.ki ⟨(hJ _).r9 hjV B1,Yk.trans kb,(B1.block _ (j5 e8)).trans e8,(B1.block _ (j5 e9)).trans e9,(B1.block _ (j5 ld)).trans ld⟩ ⟨_,⟨hf,s6,s8,s9,u4,F7,D1⟩,b0,b1⟩)
 . (
 clear hf sS
 rintro l jR x a1 V hl _ ⟨hjV,Yk,e8,e9,ld⟩ ⟨Bx,⟨hf,s6,s8,s9,u4,F7,D1⟩,z0,z1⟩ yA
 have MP:x∈st.j4:=yA.subset sP
 have hxt:=E9 Z7 MP
 obtain ⟨c,hc⟩:∃ c:Nat,x.to=(c:Int):=⟨x.to.toNat,oM⟩
 rw [hc] at z0
 have Z8:c<k:=oM
 have DV:=((a6 _ Z5).2.2 x MP).2.1
 obtain ⟨n2,pP⟩:∃ y,(n+x.out)%q9=y:=⟨_,rfl⟩
 obtain ⟨b2,r8⟩:∃ y,(b&&decide (n+x.out<q9))=y:=⟨_,rfl⟩
 have mz:n2<q9:=by rw [<- pP];exact Nat.mod_lt _ dC
 obtain ⟨u2,Kb⟩:∃ y,u++bl [x.byte]=y:=⟨_,rfl⟩
 have y2t:u2.size=u.size+1:=by rw [<- Kb,ByteArray.size_append];rfl
 have pa:kf x=walkS ss (wl from_) f c u2 n2 b2:=by rw [<- HKF.out,kN,pP,r8,Kb,hc,Int.toNat_natCast]
 have hTx:(pre++own++jR.flatMap kf)++kf x <+: T:=(DK kf yA).trans hT
 have hFV:=Yk.held Dh
 obtain ⟨-, -, -, -,cb, -⟩:=hF hFV
 have c8:=n5 0 e8;have tG:=n5 0 e9;have tH:=n5 1 e9
 simp at c8 tG tH
 have ebh:∀ args w,(callFunc 152 args).run Tryz.prog w= .ok (.enter 152 args) w:=enters_of Tryz.func152 kR rfl
 have jZ:(bl [x.byte]).size=1:=by rw [N7];rfl
 have df:=H9 jZ;clear jZ
 have bh:=H9 pP;have my:=H9 r8;have HU2:=H9 Kb;have HC:=H9 hc;have HKX:=H9 pa;clear pP r8 Kb hc pa
 refine wpIn_block ?_
 refine wpIn_seq_k (fun _ GB=> ?_)
 refine Inr.EC (r:=some l) (k:=69) (fun ⟨_,_,h⟩=>h) (Sb.OkOps.of kR) (fun a6=> ?_)
 have lf:=H9 fun (w9:World) (h9:Below _ _ w9)=>ad (cL h9 z0) (ad (cL h9 z1) (ad (cL h9 c8) (ad (cL h9 tG) (ad (cL h9 tH) (cL h9 cb)))))
 refine Sb.T 0 hf a6 ?_ (hF:=fun _ _ h d=>ad (Sb.O h s6) (lf.out _ h.ext))
 refine Sb.T 1 hf a6 ?_ (hF:=fun _ _ h d=>Sb.O h D1)
 refine Sb.T 2 hf a6 ?_ (hF:=fun _ _ h d=>lf.out _ h.ext)
 refine Sb.T 3 hf a6 ?_ (hF:=fun _ _ h d=>ad (Sb.O h s8) (lf.out _ h.ext))
 refine Sb.mO 4 F7 hf a6 ?_
 refine Sb.E1 (k:=5) (n:=69) (fun v V=>∃ g,v= .slice (some ⟨g,0,none⟩) 1 1/\V.cell? ⟨g,0,none⟩=some (.int .u8 x.byte)) hf.size a6.out rfl (fun v V V2 hb ⟨g,h1,h2⟩=>⟨g,h1,cL hb h2⟩) ?_ ?_
 . (
 intro a7 w1 hh hd hk K Z
 refine Sb.pl ?_
 have de:=Sb.v 4 0 hd hk []
 clear hd
 go_simp
 exact Z.out _ rfl _ _ ((Below.refl _ _).alloc nR _) ⟨_,rfl,by simpa using n5 0 (heap_alloc_new w1 _)⟩)
 apply Sb.tq 6 _ hf a6
 . (
 intro a7 w1 hh hd hk K Z
 obtain ⟨x60,wu,iu⟩:=Sb.use (j:=5) (m:=0) hd hk rfl [] kR rfl rfl rfl
 obtain ⟨gx,y2q,y2p⟩:=iu
 subst y2q
 clear hd
 have iU:=JH w1 gx x.byte y2p
 go_simp
 exact Sb.k Z)
 apply Sb.tq 7 _ hf a6
 . (
 intro a7 w1 hh hd hk K Z
 have nt:=Sb.v 3 3 hd hk []
 have s61:=Sb.v 6 0 hd hk []
 clear hd
 go_simp
 try simp (disch:=omega) only [Fc.W]
 rw [if_neg (by rw [df.out];omega),HU2.out,Oper.upon_value]
 exact Sb.k Z)
 refine Sb.T 8 hf a6 ?_ (hF:=fun _ _ h d=>ad (Sb.O h s9) (lf.out _ h.ext))
 refine Sb.T 9 hf a6 ?_ (hF:=fun _ _ h d=>Sb.O h D1)
 refine Sb.T 10 hf a6 ?_ (hF:=fun _ _ h d=>lf.out _ h.ext)
 apply Sb.tq 11 _ hf a6
 . (
 intro a7 w1 hh hd hk K Z
 have vj:=Sb.v 8 2 hd hk []
 have s65:=Sb.v 10 0 hd hk []
 clear hd
 have L1:=lf.out _ hh.ext;(try clear z0 z1 c8 tG tH cb);obtain ⟨z0,z1,c8,tG,tH,cb⟩:=L1
 go_simp
 go_at_call 113;refine (mQ w1 n x.out b hn DV).mono ?_;rintro e w2 ⟨rfl,hb⟩
 rw [bh.out,my.out]
 exact Z.out _ rfl _ _ hb rfl)
 refine Tl.G5 (n:=69) (m:=12) (ws:=[(12,1,[2]),(12,3,[7]),(12,4,[7,6,5]),(12,5,[7,6]),(12,6,[7]),(12,8,[11]),(12,9,[11,10]),(12,10,[11]),(13,0,[12]),(13,1,[12,2]),(13,2,[12]),(13,3,[12,7]),(13,4,[12,7,6,5]),(13,5,[12,7,6]),(13,6,[12,7]),(13,7,[12]),(13,8,[12,11]),(13,9,[12,11,10]),(13,10,[12,11]),(13,11,[12])]) kR hf.size a6.out rfl rfl kR (fun a7 w1 hh hg=> ?_)
 replace u4:=Sb.O hh u4
 have Xy:=Tl.z7 0 11 hg rfl rfl rfl rfl rfl
 have ai:=Tl.z7 2 9 hg rfl rfl rfl rfl rfl
 have UR:=Tl.z7 7 4 hg rfl rfl rfl rfl rfl
 have s66:=Tl.z7 11 0 hg rfl rfl rfl rfl rfl
 have y5:=hh.fr hf
 have hx:=hh.ext
 have L1:=lf.out _ hx;(try clear z0 z1 c8 tG tH cb);clear lf;obtain ⟨z0,z1,c8,tG,tH,cb⟩:=L1
 clear hg hh hf a6 s6 s8 s9 F7 D1
 have hf:=y5;clear y5
 have b67:=hf.b 67
 refine Tl.J5 rfl rfl (fun K Z=> ?_)
 have hjx:=(hJ _).r9 hjV hx;have z5t:=Yk.trans (KC.below pK hx)
 refine gH (g:=152) (args:= #[.int .i64 c,.string u2,.agg #[.int .u64 n2,.bool b2],.pointer (some ⟨pf,0,none⟩),.pointer (some ⟨pt,0,none⟩),.pointer (some ⟨py,0,none⟩),.pointer (some ⟨pb,0,none⟩)]) (by simp [execOp,go_sem,Xy,ai,UR,s66,ebh]) (IH c w1 u2 n2 b2 (pre++own++jR.flatMap kf) Z8 (by have:=z5t.size;omega) (z5t.held Dh) hjx (by rw [<- HKX.out];exact hTx) mz oM) ?_
 rintro e W2 hR
 obtain ⟨bt,rfl,X0⟩:=Rq hR
 refine ⟨_,rfl,?_⟩
 clear hR
 apply Z.out;clear Z K
 refine Tl.J5 rfl rfl (fun K Z=> ?_)
 go_simp
 apply Z.out;clear Z K
 refine Tl.L8 rfl ?_
 refine y4 10 68 hf ?_
 clear hf u4 Xy ai UR s66 b67;intro a7 hf sS
 refine nx (GB _ _ ?_)
 refine wpIn_cond_split (Fc.l5 sS.2) (fun yK=> ?_) (fun yK=> ?_)
 . (
 have l6:bt=false:=by simpa using yK
 obtain ⟨h9, -⟩ | ⟨-,DS,hkR⟩:=X0
 . (
 rw [l6] at h9;cases h9)
 have Di:=(KC.below pK hx).trans hkR
 have J3:=Di.kept _ _ oM (nE rfl) ld
 have lh:=n5 0 J3
 simp at lh
 have f10:=j6 (i:=0) J3
 refine wpIn_seq_k (fun _ GB=> ?_)
 obtain ⟨u4,s68⟩:=sS
 refine Inr.MN (r:=some l) ?_
 refine Inr.dM fun K Z=> ?_
 go_simp
 apply Z.out;clear Z K
 refine Inr.mM ?_
 refine p5 10 hf ?_
 clear hf u4 s68;intro a7 hf u4
 generalize mP:W2.setCell ⟨(W.heap.size+1+1),0,none⟩ (.bool false)=W9
 obtain ⟨Fq,lH,eA⟩:=qG J3 mP
 refine nx (GB _ _ ?_)
 refine wpIn_ret ?_
 refine Fc.uZ ?_
 exact ⟨(Di.from oM).trans (KeepsFrom.of_grownBy lH (fun j e=>by cases e;omega)),Di.ki.trans (KI.res pK oM J3 Fq lH),rfl,(by obtain ⟨s,h1,h2⟩:=DS;exact ⟨s,h1,eA _ _ (Rr s) oM h2⟩),(Yk.trans Di).turn pK (g:=(W.heap.size+1+1)) oM hM lH,Fq⟩)
 . (
 have l6:bt=true:=by simpa using yK
 obtain ⟨-,DS,hkR⟩ | ⟨h9, -⟩:=X0;rotate_left;(rw [l6] at h9;cases h9)
 refine wpIn_skip ?_
 refine Fc.j9 ?_
 have Di:=(KC.below pK hx).trans hkR
 exact ⟨Di.from oM,Di.ki,by rw [List.flatMap_append,List.flatMap_singleton, <- List.append_assoc,HKX.out];exact DS,Yk.trans Di,Di.kept _ _ oM (nE rfl) e8,Di.kept _ _ oM (nE rfl) e9,Di.kept _ _ oM (nE rfl) ld⟩))
 . (
 rintro D xs V hD rfl ⟨hjV,Yk,e8,e9,ld⟩ ED
 refine Fc.reQ (n:=69) (ds:=[{ target:= .collected D,args:= #[] }]) hf.size (by rw [hf.defers]) (fun Wp Az Rt=> ?_)
 obtain ⟨s6,s8,s9,u4,iv⟩:=sS
 have u4:=(Rt 10).trans u4
 clear Rt hf hj gX jW J3
 have hf:=Az;clear Az
 replace iD:=Yk
 have J3:=ld
 have lh:=n5 0 J3
 simp at lh
 have f10:=j6 (i:=0) J3
 refine Fc.j9 (Zs a8 fun _ a8=>Zr [] hf ?_)
 refine p5 10 hf ?_
 clear hf u4;intro a7 hf u4
 generalize mP:V.setCell ⟨(W.heap.size+1+1),0,none⟩ (.bool true)=W9
 obtain ⟨Fq,lH,eA⟩:=qG J3 mP
 have GA:=iD.turn pK (g:=(W.heap.size+1+1)) oM hM lH
 refine Zx a8 (k8 ?_)
 exact JG (G:=(W.heap.size+1+1)) (S:=fun V=>J (pre++res) V/\KC F M W V) (l3.and ((hJ _).mono (fun o h=> .inl h) oM) (KC.stays pK oM hM)) rfl hf u4 Fq nR Tryz.isAgg4 (P8.one oM lH ED) ⟨by rw [HR.out, <- List.append_assoc];exact eA _ _ (hJ _) oM hjV,GA⟩ (fun w' _ hs=> .inl ⟨rfl,hs.1,hs.2⟩))
 . (
 rintro D c2 jR V hD _ ⟨rfl,DS,GA,Fq⟩ ED
 refine (wpIn_wide (n:=9)).2 ?_
 refine Fc.re (n:=69) (ds:=[{ target:= .collected D,args:= #[] }]) hf.size (by rw [hf.defers]) (fun Wp Az Rt=> ?_)
 obtain ⟨s6,s8,s9,u4,iv⟩:=sS
 have u4:=(Rt 10).trans u4
 clear Rt hf
 have hf:=Az;clear Az
 refine k8 ?_
 exact JG (G:=(W.heap.size+1+1)) (S:=fun V=>(∃ s,s <+: T/\Jx s V)/\KC F M W V) (l3.and (l3.ex fun s=>l3.and (l3.pure _ _ _) ((Rr s).mono (fun o h=> .inl h) oM)) (KC.stays pK oM hM)) rfl hf u4 Fq nR Tryz.isAgg4 (P8.z6a oM ED) ⟨DS,GA⟩ (fun w' _ hs=> .inr ⟨rfl,hs.1,hs.2⟩))))
theorem pL.iM {N:Nat} {w w':World} {sv:Value} {ss:List State} (h:pL w N sv ss) (hc:∀ (p:Addr) (v:Value),p.block<N->w.cell? p=some v->w'.cell? p=some v):pL w' N sv ss:=by
 obtain ⟨A,c,h1,h2,h3⟩:=h
 refine ⟨A,c,h1,h2,fun h0=> ?_⟩
 obtain ⟨b,off,h4,h5,h6⟩:=h3 h0
 refine ⟨b,off,h4,h5,fun i s hi=> ?_⟩
 obtain ⟨av,h7⟩:=h6 i s hi
 refine ⟨av,hc _ _ sQ h7.c0,hc _ _ sQ h7.c1,hc _ _ sQ h7.c2,?_⟩
 obtain ⟨A2,c2,k1,k2,k3⟩:=h7.j4
 refine ⟨A2,c2,k1,k2,fun h0=> ?_⟩
 obtain ⟨b2,Ms,k4,k5,k6⟩:=k3 h0
 exact ⟨b2,Ms,k4,k5,fun j x hx=>hc _ _ sQ (k6 j x hx)⟩
structure KE (N G Lr:Nat) (A B:World):Prop where
 size:A.heap.size<=B.heap.size
 low:∀ (p:Addr) (v:Value),p.block<N->A.cell? p=some v->B.cell? p=some v
 kept:∀ (g:Nat) (o:Obj),N<=g->g≠G->g≠Lr->¬ DJ o->A.heap[g]? =some o->B.heap[g]? =some o
structure WF (B N pf pt:Nat) (from_:ByteArray) (sv:Value) (init:Nat) (ss:List State) (l:Nat) (V:World):Prop where
 f:V.heap[pf]? =some (.cells #[.string from_] 9 (0,0))
 t:V.heap[pt]? =some (.cells #[sv,.int .u64 init] 38 (0,0))
 y:V.heap[B]? =some (.cells #[.func (.yield l) #[] #[]] 237 (0,0))
 b:V.heap[B+1]? =some (.cells #[.func (.func 152) #[] #[.pointer (some ⟨pf,0,none⟩),.pointer (some ⟨pt,0,none⟩),.pointer (some ⟨B,0,none⟩),.pointer (some ⟨(B+1),0,none⟩)]] 238 (0,0))
 s:pL V N sv ss
section
variable {B N G Lr pf pt init l:Nat} {from_:ByteArray} {sv:Value} {ss:List State} {V V':World}
theorem WF.use (h:WF B N pf pt from_ sv init ss l V):V.cell? ⟨pf,0,none⟩=some (.string from_)/\V.cell? ⟨pt,0,none⟩=some sv/\V.cell? ⟨pt,1,none⟩=some (.int .u64 init)/\V.cell? ⟨B,0,none⟩=some (.func (.yield l) #[] #[])/\V.cell? ⟨B+1,0,none⟩=some (.func (.func 152) #[] #[.pointer (some ⟨pf,0,none⟩),.pointer (some ⟨pt,0,none⟩),.pointer (some ⟨B,0,none⟩),.pointer (some ⟨(B+1),0,none⟩)])/\RS V sv ss:=by
 have c1:=n5 0 h.f;have c2:=n5 0 h.t;have c3:=n5 1 h.t;have c4:=n5 0 h.y;have c5:=n5 0 h.b
 simp at c1 c2 c3 c4 c5
 exact ⟨c1,c2,c3,c4,c5,h.s.rs⟩
theorem WF.low (hN:N<=B) (hf:pf<Lr) (ht:pt<Lr) (hL:Lr<B:=by omega):Sy (WF B N pf pt from_ sv init ss l) (B+2):=fun A A' row h hg hr=>by
 have key:∀ (g:Nat) (o:Obj),g<B+2->A.heap[g]? =some o->A'.heap[g]? =some o:=fun g o h1 h2=>(hg.block g (j5 h2) (fun e=>by have:=hr g e.symm;omega)).trans h2
 exact ⟨key _ _ oM h.f,key _ _ oM h.t,key _ _ oM h.y,key _ _ oM h.b,h.s.iM fun p v hp hv=>(World.cell?_of_block (hg.block p.block (G2 hv) (fun e=>by have:=hr _ e.symm;omega))).trans hv⟩
theorem KE.kc (h:KE N G Lr V V') (hN:N<=B) (hf:pf<Lr) (ht:pt<Lr) (qz:N<=pf) (qy:N<=pt) (qx:pf≠G) (qw:pt≠G) (hG:G<B) (hL:Lr<B):KC (WF B N pf pt from_ sv init ss l) (B+2) V V' :=
 ⟨h.size,fun x=>⟨h.kept _ _ qz qx oM (nE rfl) x.f,h.kept _ _ qy qw oM (nE rfl) x.t,h.kept _ _ hN oM oM (nE rfl) x.y,h.kept _ _ oM oM oM (nE rfl) x.b,x.s.iM h.low⟩,fun g o a b c=>h.kept g o oM oM oM b c⟩
end
theorem _root_.Go.Proofs.YtcddnmhmcieebaaGreatDoor.l3.DL {C:Obj->Prop} {B:Nat} {I:World->Prop} (h:l3 C B I) {W W':World} {n:Nat} (hs:I W) (_:n<=W.heap.size) (hb:Below W.heap.size W W'):I W':=h.r9 hs hb
theorem GC (m:Nat) (F:World->Prop) (M:Nat) (pK:Sy F M) (pf pt py pb:Nat) (from_:ByteArray) (AL:from_.size<=1000000000) (sv:Value) (init:Nat) (ss:List State) (L:Nat) (J Jx:List Wd->World->Prop) (T:List Wd)
  (hF:∀ {V:World},F V->V.cell? ⟨pf,0,none⟩=some (.string from_)/\V.cell? ⟨pt,0,none⟩=some sv/\V.cell? ⟨pt,1,none⟩=some (.int .u64 init)/\V.cell? ⟨py,0,none⟩=some (.func (.yield L) #[] #[])/\V.cell? ⟨pb,0,none⟩=some (.func (.func 152) #[] #[.pointer (some ⟨pf,0,none⟩),.pointer (some ⟨pt,0,none⟩),.pointer (some ⟨py,0,none⟩),.pointer (some ⟨pb,0,none⟩)])/\RS V sv ss)
  (hY:∀ pre x W1,J pre W1->F W1->pre++[x] <+: T->YieldAt Fence.wide (m-1) Tryz.prog L x.args W1 fun e W'=>(e= .returned (.bool true)/\J (pre++[x]) W'/\KC F M W1 W')\/(e= .returned (.bool false)/\Jx (pre++[x]) W'/\KC F M W1 W'))
  (hJ:∀ s,l3 Cw M (J s)) (Rr:∀ s,l3 Cw M (Jx s)) (hlen:ss.length<=1000000) (a6:∀ s∈ss,L3 s) (D6:∀ (k:Nat) (st:State),ss[k]? =some st->okArcs k (-1) st.j4=true):∀ (f k:Nat) (W:World) (u:ByteArray) (n:Nat) (b:Bool) (pre:List Wd),k<f->k<ss.length->M<=W.heap.size->F W->J pre W->pre++walkS ss (wl from_) f k u n b <+: T->n<q9->u.size+k<=1000000->Calls Tryz.prog 152 #[.int .i64 k,.string u,.agg #[.int .u64 n,.bool b],.pointer (some ⟨pf,0,none⟩),.pointer (some ⟨pt,0,none⟩),.pointer (some ⟨py,0,none⟩),.pointer (some ⟨pb,0,none⟩)] W (Rb F M J Jx T W pre (walkS ss (wl from_) f k u n b)):=by
 intro f
 induction f with
 | zero=>intro k _ _ _ _ _ h;omega
 | succ f ih =>
  intro k W u n b pre hk tW hM Dh hJ0 hT hn hul
  exact Lq m F M pK pf pt py pb from_ AL sv init ss L J Jx T hF hY hJ Rr hlen a6 D6 f k W u n b pre hM Dh hJ0 hT hn tW hul fun k' W' u' n' b' Rs h1 h2 h3 h4 h5 h6 h7=>ih k' W' u' n' b' Rs (by omega) oM h2 h3 h4 h5 h6 h7
theorem WR (w:World) (sv:Value) (init:Nat) (ss:List State) (s:ByteArray) (o8:RS w sv ss):Calls Tryz.prog 128 #[.agg #[sv,.int .u64 init],.string s] w fun e w1=>e= .returned (.func (.func 151) #[] #[.pointer (some ⟨(w.heap.size+1),0,none⟩),.pointer (some ⟨w.heap.size,0,none⟩)])/\w1.heap[w.heap.size]? =some (.cells #[sv,.int .u64 init] 38 (0,0))/\w1.heap[w.heap.size+1]? =some (.cells #[.string s] 9 (0,0))/\Below w.heap.size w w1:=by
 refine Z6 6 Tryz.func128 fun fr hf s0 s1=> ?_
 obtain ⟨A,cc,rfl,U0⟩:=o8.form
 refine Ze fun _ a8=>Zr [] hf ?_
 refine y4 2 3 hf ?_
 clear hf s0 s1;intro a7 hf sS
 obtain ⟨W0,p8⟩:∃ x,(w.alloc (.cells #[.slice A ss.length cc,.int .u64 init] 38)).alloc (.cells #[.string s] 9)=x:=⟨_,rfl⟩
 obtain ⟨s2,s3⟩:=sS
 try simp only [World.size_alloc] at s3
 try rw [p8]
 obtain ⟨o7,E3,C9⟩:=D8 p8
 clear p8
 refine Zs a8 fun _ a8=>Zr [5] hf ?_
 refine p5 4 hf ?_
 clear hf s2 s3;intro a7 hf s4
 refine Zx a8 (k8 ?_)
 exact Fc.o6 rfl hf s4 ⟨rfl,E3,C9,o7⟩
theorem WT (W:World) (n m l pf pt N G Lr:Nat) (from_:ByteArray) (AL:from_.size<=1000000000) (sv:Value) (init:Nat) (D7:init<q9) (ss:List State) (J Jx:List Wd->World->Prop)
    (hY:∀ pre (x:Wd) W1,J pre W1->pre++[x] <+: (walkS ss (wl from_) ss.length (ss.length-1) ⟨#[]⟩ init true)->YieldAt Fence.wide (m-1) Tryz.prog l x.args W1 fun e W'=>(e= .returned (.bool true)/\J (pre++[x]) W'/\KE N G Lr W1 W')\/(e= .returned (.bool false)/\Jx (pre++[x]) W'/\KE N G Lr W1 W'))
    (hJ:∀ s,l3 Cw W.heap.size (J s)) (Rr:∀ s,l3 Cw W.heap.size (Jx s)) (CE:W.heap[pf]? =some (.cells #[.string from_] 9 (0,0))) (pR:W.heap[pt]? =some (.cells #[sv,.int .u64 init] 38 (0,0))) (Q7:pL W N sv ss) (WM:N<=W.heap.size) (qz:N<=pf) (qy:N<=pt) (hfW:pf<Lr) (htW:pt<Lr) (qx:pf≠G) (qw:pt≠G) (hGW:G<W.heap.size) (hLW:Lr<W.heap.size)
    (hlen:ss.length<=1000000) (a6:∀ s∈ss,L3 s) (D6:∀ (k:Nat) (st:State),ss[k]? =some st->okArcs k (-1) st.j4=true) (h0:J [] W):Calls Tryz.prog 151 #[.func (.yield l) #[] #[],.pointer (some ⟨pf,0,none⟩),.pointer (some ⟨pt,0,none⟩)] W fun e W'=>(∃ v,e= .returned v)/\((∃ xs,xs=(walkS ss (wl from_) ss.length (ss.length-1) ⟨#[]⟩ init true)/\J xs W')\/(∃ pre,pre <+: (walkS ss (wl from_) ss.length (ss.length-1) ⟨#[]⟩ init true)/\Jx pre W')):=by
 refine dT 17 Tryz.func151 fun fr hf s0 s1 s2=> ?_
 have AB:∀ (V:World) (a:Addr) (f:Fn) (c e:Array Value) (m:Mode),(store a (.func f c e) m).run Tryz.prog V=stored Tryz.prog V a (.func f c e) m:=fun V a f c e m=>run_store _ _ _ _ _ rfl
 obtain ⟨WS,hWS⟩:∃ x,(walkS ss (wl from_) ss.length (ss.length-1) ⟨#[]⟩ init true)=x:=⟨_,rfl⟩
 rw [hWS] at hY |-
 have HWS:=H9 hWS;clear hWS
 obtain ⟨A,cc,rfl,U0⟩:=Q7.rs.form
 refine Ze fun _ a8=>Zr [] hf ?_
 refine y7 1 2 3 hf ?_
 clear hf s0 s1 s2;intro a7 hf sS
 refine Zs a8 fun _ a8=>Zr [] hf ?_
 refine z8 1 2 3 4 hf ?_
 intro a7 hf sS
 obtain ⟨Wb,ez⟩:∃ x,(W.alloc (.cells #[.func (.yield l) #[] #[]] 237)).alloc (.cells #[.nilFunc] 238)=x:=⟨_,rfl⟩
 obtain ⟨s1,s2,s3,s4⟩:=sS
 try simp only [World.size_alloc] at s4
 rw [ez]
 obtain ⟨tR,Xk,jV⟩:=D8 ez
 clear ez
 have cpb:=n5 0 jV
 simp at cpb
 have fpb:=j6 (i:=0) jV
 refine Zs a8 fun _ a8=>Zr [6] hf ?_
 refine y4 2 4 hf ?_
 clear hf s1 s2 s3 s4;intro a7 hf sS
 generalize hWc:Wb.setCell ⟨(W.heap.size+1),0,none⟩ (.func (.func 152) #[] #[.pointer (some ⟨pf,0,none⟩),.pointer (some ⟨pt,0,none⟩),.pointer (some ⟨W.heap.size,0,none⟩),.pointer (some ⟨(W.heap.size+1),0,none⟩)])=Wc
 have GD:Wc.heap[(W.heap.size+1)]? =some (.cells #[.func (.func 152) #[] #[.pointer (some ⟨pf,0,none⟩),.pointer (some ⟨pt,0,none⟩),.pointer (some ⟨W.heap.size,0,none⟩),.pointer (some ⟨(W.heap.size+1),0,none⟩)]] 238 (0,0)):=by rw [<- hWc];simpa using k7 (i:=0) jV (.func (.func 152) #[] #[.pointer (some ⟨pf,0,none⟩),.pointer (some ⟨pt,0,none⟩),.pointer (some ⟨W.heap.size,0,none⟩),.pointer (some ⟨(W.heap.size+1),0,none⟩)])
 have WU:Wc.heap[W.heap.size]? =some (.cells #[.func (.yield l) #[] #[]] 237 (0,0)):=by rw [<- hWc];exact (Below.heap_setCell _ _ _ _ sP).trans Xk
 have CC:Below W.heap.size W Wc:=by rw [<- hWc];exact tR.setCell (p:=⟨W.heap.size+1,0,none⟩) (Nat.le_succ _) _
 clear hWc cpb fpb jV Xk tR
 replace CE:=(CC.block _ (j5 CE)).trans CE;replace pR:=(CC.block _ (j5 pR)).trans pR;replace Q7:=Q7.below (CC.mono WM)
 have hj:=(hJ []).r9 h0 CC
 have uW:=n5 0 pR;have uX:=n5 1 pR
 simp at uW uX
 have w8w:=j5 GD
 refine Zt a8 fun _ a8=> ?_
 have bB:=hf.B2 7 8
 refine Zy ?_
 refine Zc (Gm Wc _ init ss Q7.rs oM) ?_;rintro e Wd ⟨rfl,eZ⟩
 replace CE:=(eZ.block _ (j5 CE)).trans CE
 replace pR:=(eZ.block _ (j5 pR)).trans pR
 replace WU:=(eZ.block _ (j5 WU)).trans WU
 replace GD:=(eZ.block _ (j5 GD)).trans GD
 have hNc:N<=Wc.heap.size:=Nat.le_trans WM CC.size
 replace Q7:=Q7.below (eZ.mono hNc)
 replace hj:=(hJ []).DL hj CC.size eZ
 have hWd:W.heap.size+1<Wd.heap.size:=j5 GD
 refine Zv ?_
 refine Zy ?_
 refine Fc.nil (y7 2 4 5 hf ?_)
 intro a7 hf sS
 refine Zs a8 fun _ a8=>Zr [9] hf ?_
 refine z8 2 4 5 10 hf ?_
 intro a7 hf sS
 refine Zx a8 (Fc.l0 sS.2.2.2 (fun hq=> ?_) (fun hq=> ?_))
 . (
 obtain ⟨k,hk⟩:∃ k,ss.length=k+1:=⟨ss.length-1,qT⟩
 have cZ:(ss.length:Int)-1=((k:Nat):Int):=oM
 obtain ⟨s2,s4,s5,u4⟩:=sS
 rw [cZ] at s5
 clear hq
 have uW:=n5 0 pR;have uX:=n5 1 pR;have cpb:=n5 0 GD
 simp at uW uX cpb
 have ebh:∀ args w,(callFunc 152 args).run Tryz.prog w= .ok (.enter 152 args) w:=enters_of Tryz.func152 kR rfl
 have Ym:=GC m (WF W.heap.size N pf pt from_ (.slice A ss.length cc) init ss l) (W.heap.size+2) (WF.low WM hfW htW) pf pt W.heap.size (W.heap.size+1) from_ AL (.slice A ss.length cc) init ss l J Jx WS (fun h=>h.use) (fun pre x W1 YF FG hp=>(hY pre x W1 YF hp).mono fun e W2 h=>by rcases h with ⟨h1,h2,h3⟩ | ⟨h1,h2,h3⟩;exact .inl ⟨h1,h2,h3.kc WM hfW htW qz qy qx qw hGW hLW⟩;exact .inr ⟨h1,h2,h3.kc WM hfW htW qz qy qx qw hGW hLW⟩) (fun s=>(hJ s).mono (fun o h=>h) oM) (fun s=>(Rr s).mono (fun o h=>h) oM) hlen a6 D6 ss.length k Wd ⟨#[]⟩ init true [] oM oM oM ⟨CE,pR,WU,GD,Q7⟩ hj (by rw [List.nil_append, <- HWS.out,hk];exact List.prefix_refl _) D7 (by show 0+k<=1000000;omega)
 refine rg ?_
 obtain ⟨ma,b12,b13,b14,b15⟩:=hf.B5 11 12 13 14 15
 iterate 5 refine Zy ?_
 refine fp fun K Z=> ?_
 refine gH (g:=152) (args:= #[.int .i64 k,.string ⟨#[]⟩,.agg #[.int .u64 init,.bool true],.pointer (some ⟨pf,0,none⟩),.pointer (some ⟨pt,0,none⟩),.pointer (some ⟨W.heap.size,0,none⟩),.pointer (some ⟨(W.heap.size+1),0,none⟩)]) (by simp [execOp,go_sem,s5,cpb,ebh,ma,b12,b13,b14,b15]) Ym ?_
 rintro e W2 hR
 obtain ⟨bt,rfl,X0⟩:=Rq hR
 refine ⟨_,rfl,?_⟩
 clear hR Ym
 apply Z.out;clear Z K
 refine Fc.nil (Dq hf ?_)
 clear hf s2 s4 s5 u4 ma b12 b13 b14 b15;intro a7 hf
 refine Fc.mE rfl hf ⟨⟨_,rfl⟩,?_⟩
 rcases X0 with ⟨-,h1, -⟩ | ⟨-,⟨s,h1,h2⟩, -⟩
 . (
 exact .inl ⟨_,rfl,by rw [List.nil_append,show walkS ss (wl from_) ss.length k ⟨#[]⟩ init true=WS by rw [<- HWS.out,hk];rfl] at h1;exact h1⟩)
 . (
 exact .inr ⟨s,h1,h2⟩))
 . (
 have h0l:ss.length=0:=qF
 have DT:WS=[]:=by rw [<- HWS.out,h0l,walkS]
 refine wp_skip ?_
 exact Fc.mE rfl hf ⟨⟨_,rfl⟩,.inl ⟨_,rfl,by rw [DT];exact hj⟩⟩)
theorem Ls (m pf pt N G:Nat) (from_:ByteArray) (AL:from_.size<=1000000000) (sv:Value) (init:Nat) (D7:init<q9) (ss:List State) (W0:World) (CE:W0.heap[pf]? =some (.cells #[.string from_] 9 (0,0))) (pR:W0.heap[pt]? =some (.cells #[sv,.int .u64 init] 38 (0,0))) (Q7:pL W0 N sv ss) (WM:N<=W0.heap.size) (qz:N<=pf) (qy:N<=pt) (qx:pf≠G) (qw:pt≠G) (hGW:G<W0.heap.size)
  (hlen:ss.length<=1000000) (a6:∀ s∈ss,L3 s) (D6:∀ (k:Nat) (st:State),ss[k]? =some st->okArcs k (-1) st.j4=true) :
  Iter m Tryz.prog Cw 151 #[.pointer (some ⟨pf,0,none⟩),.pointer (some ⟨pt,0,none⟩)] Wd.args (KE N G (W0.heap.size+1)) (fun xs=>xs=(walkS ss (wl from_) ss.length (ss.length-1) ⟨#[]⟩ init true)) (fun pre=>pre <+: (walkS ss (wl from_) ss.length (ss.length-1) ⟨#[]⟩ init true)) (fun pre x=>pre++[x] <+: (walkS ss (wl from_) ss.length (ss.length-1) ⟨#[]⟩ init true)) W0:=by
 intro l J Jx W hb C8 hJ Rr hY h0
 have h1:=j5 CE;have h2:=j5 pR
 exact callsIn_wide.2 (WT W m m l pf pt N G (W0.heap.size+1) from_ AL sv init D7 ss J Jx hY hJ Rr ((hb.block _ h1).trans CE) ((hb.block _ h2).trans pR) (Q7.below (hb.mono WM)) oM qz qy oM oM qx qw oM oM hlen a6 D6 h0)
def pS (x:Wd):Bool:=x.b&&decide (x.n<=4294967296)
theorem Ru {x:Wd} (h:pS x=true):x.n<=4294967296:=by
 unfold pS at h
 rw [Bool.and_eq_true] at h
 exact of_decide_eq_true h.2
def bL (xs:List Wd):List G9:=(xs.filter pS).map fun x=>eX x.w x.n
theorem xB (xs:List Wd) (x:Wd):bL (xs++[x])=bL xs++(if pS x then [eX x.w x.n] else []):=by
 unfold bL
 rw [List.filter_append,List.map_append]
 cases h:pS x<;>simp [h]
def Q1 (ss:List State) (init:Nat) (s:ByteArray) (n:Int):List G9:=if n<1 then [] else (bL (walkS ss (wl s) ss.length (ss.length-1) ⟨#[]⟩ init true)).take n.toNat
theorem Lt {ss:List State} {init nn:Nat} {s:ByteArray} (h1:0<nn) (h:(bL (walkS ss (wl s) ss.length (ss.length-1) ⟨#[]⟩ init true)).length<nn):Q1 ss init s nn=bL (walkS ss (wl s) ss.length (ss.length-1) ⟨#[]⟩ init true):=by
 unfold Q1
 rw [if_neg (by omega),List.take_of_length_le (by rw [Int.toNat_natCast];omega)]
theorem Lu {ss:List State} {init nn:Nat} {s:ByteArray} {pre:List Wd} (h1:0<nn) (hp:pre <+: walkS ss (wl s) ss.length (ss.length-1) ⟨#[]⟩ init true) (h:(bL pre).length=nn):Q1 ss init s nn=bL pre:=by
 unfold Q1
 obtain ⟨z,hz⟩:=hp
 rw [if_neg (by omega), <- hz,Int.toNat_natCast]
 unfold bL at h |-
 rw [List.filter_append,List.map_append,List.take_append_of_le_length oM,List.take_of_length_le oM]
theorem nEs (cur:Array Value):¬ aF Cw (.cells cur 64 (0,0)):=fun h=>by
 rcases h with h | h | ⟨b,h⟩
 ·cases h
 ·cases h
 ·injection h with _ h2;exact absurd h2 dC
theorem WV {B k:Nat} {a b:Value} {t:TypeId} (h:Nat.beq t 4=false):l3 (aF Cw) B (fun W=>W.heap[k]? =some (.cells #[a,b] t (0,0))) :=
 l3.block (.inr fun h2=>by
  rcases h2 with h2 | h2 | ⟨b,h2⟩
  ·cases h2
  ·cases h2
  ·injection h2 with _ h3;rw [h3] at h;cases h)
section
variable {N G Lr:Nat} {A B C:World}
theorem KE.trans (h:KE N G Lr A B) (k:KE N G Lr B C):KE N G Lr A C:=⟨Nat.le_trans h.size k.size,fun p v a b=>k.low p v a (h.low p v a b),fun g o a b c d e=>k.kept g o a b c d (h.kept g o a b c d e)⟩
theorem KE.below (hb:Below A.heap.size A B):KE N G Lr A B:=⟨hb.size,fun p v _ h=>cL hb h,fun g o _ _ _ _ h=>(hb.block g (j5 h)).trans h⟩
theorem KE.put {o o':Obj} (ho:A.heap[Lr]? =some o) (hN:N<=Lr):KE N G Lr A (A.putObj Lr o') :=
 ⟨sP,fun p v hp h=>(World.cell?_of_block (World.putObj_heap_other oM)).trans h,fun g o _ _ hg _ h=>(World.putObj_heap_other hg).trans h⟩
theorem KE.turn (h:A.grownBy B (some G)) (hN:N<=G):KE N G Lr A B :=
 ⟨h.size,fun p v hp hv=>(World.cell?_of_block (h.block p.block (G2 hv) (fun e=>by injection e with e;omega))).trans hv,fun g o _ hg _ _ ho=>(h.block g (j5 ho) (fun e=>by injection e with e;omega)).trans ho⟩
theorem KE.app {base n:Nat} {v:Value} {xs:List Value} (h:A.ownsRow base 64 3 v n xs) (hg:A.grownBy B v.ownBlock) (hN:N<=base):KE N G Lr A B :=
 ⟨hg.size,fun p w hp hw=>(World.cell?_of_block (hg.block p.block (G2 hw) (fun e=>by have:=(World.ownsRow.lt h _ e.symm).1;omega))).trans hw,fun g o _ _ _ he ho=>(hg.block g (j5 ho) (fun e=>by
  rcases h.2 with ⟨h1,_⟩ | ⟨g2,cap,cur,h1,_,h3,_⟩
  ·rw [h1] at e;cases e
  ·rw [h1] at e;injection e with e;subst e;rw [h3] at ho;injection ho with ho;exact he ⟨cur,_,ho.symm⟩)).trans ho⟩
theorem Rv {base n L:Nat} {v:Value} {xs:List Value} {o:Obj} (h:A.ownsRow base 64 3 v n xs) (hg:A.grownBy B v.ownBlock) (ho:A.heap[L]? =some o) (hc:o.isCells=false):B.heap[L]? =some o :=
 (hg.block L (j5 ho) (fun e=>by
  rcases h.2 with ⟨h1,_⟩ | ⟨g2,cap,cur,h1,_,h3,_⟩
  ·rw [h1] at e;cases e
  ·rw [h1] at e;injection e with e;subst e;rw [h3] at ho;injection ho with ho;rw [<- ho] at hc;cases hc)).trans ho
theorem KE.from {B0:Nat} (h:KE N G Lr A B) (hN:N<=B0:=by omega) (hG:G<B0:=by omega) (hL:∀ o,A.heap[Lr]? =some o->o.isCells=false->B.heap[Lr]? =some o:=by assumption):KeepsFrom B0 A B:=⟨h.size,fun k o a b c=>by
  by_cases e:k=Lr
  ·subst e;exact hL o b c
  ·exact h.kept k o oM oM e (nE' c) b⟩
end
theorem GF {A B:World} {base G:Nat} {v:Value} {es:List G9} (h:OE A base v es) (hg:A.grownBy B (some G)) (hG:G<base):OE B base v es:=by
 refine ⟨h.1,?_⟩
 rcases h.2 with h1 | ⟨g,cap,cur,h1,h2,h3,h4⟩
 ·exact .inl h1
 ·exact .inr ⟨g,cap,cur,h1,h2,(hg.block g (j5 h3) (fun e=>by injection e with e;omega)).trans h3,h4⟩
theorem Zq (w:World) (sv:Value) (init:Nat) (ss:List State) (s:ByteArray) (n:Int) (o8:RS w sv ss) (hs:s.size<=1000000000) (D7:init<q9) (hn:n<=1000000) (hlen:ss.length<=1000000) (a6:∀ s∈ss,L3 s) (D6:∀ (k:Nat) (st:State),ss[k]? =some st->okArcs k (-1) st.j4=true):Calls Tryz.prog 81 #[.agg #[sv,.int .u64 init],.string s,.int .i64 n] w fun e w1=>∃ v,e= .returned v/\OE w1 w.heap.size v (Q1 ss init s n)/\Below w.heap.size w w1:=by
 refine xX Tryz.func81 rfl ?_
 refine Fc.en 37 fun fr hf hT=> ?_
 have s0:=hT 0 _ rfl
 have s1:=hT 1 _ rfl
 have s2:=hT 2 _ rfl
 clear hT
 obtain ⟨A,cc,rfl,U0⟩:=o8.form
 refine Ze fun _ a8=>Zr [] hf ?_
 refine z8 1 3 5 6 hf ?_
 clear hf s0 s1 s2;intro a7 hf sS
 obtain ⟨W0,p8⟩:∃ x,((w.alloc (.cells #[.slice A ss.length cc,.int .u64 init] 38)).alloc (.cells #[.int .i64 n] 3)).alloc (.cells #[.slice none 0 0] 29)=x:=⟨_,rfl⟩
 obtain ⟨s1,s3,s5,s6⟩:=sS
 try simp only [World.size_alloc] at s5 s6
 rw [p8]
 obtain ⟨hb,CE,ar,lY⟩:=cG p8
 clear p8
 have cf0:=n5 0 CE;have cf1:=n5 1 CE;have cn:=n5 0 ar;have cg:=n5 0 lY
 simp at cf0 cf1 cn cg
 have fg:=j6 (i:=0) lY
 have Q7:=o8.n.below hb
 clear o8
 refine Zs a8 fun _ a8=>Ze fun _ j8=>Zr [11] hf ?_
 refine D2 1 3 5 6 12 hf ?_
 clear hf s1 s3 s5 s6;intro a7 hf sS
 refine Zx j8 (Fc.l0 sS.2.2.2.2 (fun hq=> ?_) (fun hq=> ?_))
 . (
 have hv:Q1 ss init s n=[]:=by have h9:=of_decide_eq_true hq;unfold Q1;rw [if_pos h9]
 refine Ze fun _ j8=>Zr [] hf ?_
 refine z8 1 3 5 6 hf ?_
 intro a7 hf sS
 generalize mP:W0.setCell ⟨(w.heap.size+1+1),0,none⟩ (.slice none 0 0)=W9
 have h6:W9.heap[(w.heap.size+1+1)]? =some (.cells #[.slice none 0 0] 29 (0,0)):=by rw [<- mP];simpa using k7 (i:=0) lY (.slice none 0 0)
 have hbF:Below w.heap.size w W9:=by rw [<- mP];exact hb.setCell (p:=⟨(w.heap.size+1+1),0,none⟩) (by show w.heap.size<=w.heap.size+1+1;omega) _
 refine Zx j8 (k8 ?_)
 have yV:OE W9 ((w.heap.size+1+1)+1) (.slice none 0 0) (Q1 ss init s n):=by rw [hv];exact OE.T7 _ _
 exact JF (G:=(w.heap.size+1+1)) (S:=fun V=>OE V ((w.heap.size+1+1)+1) (.slice none 0 0) (Q1 ss init s n)) (l3.own (fun cur h=>by cases h)) rfl hf sS.2.2.2 h6 nR Tryz.isAgg29 P8.lj yV (fun w' hw h9=>⟨_,rfl,K7 h9 oM,hbF.trans (hw.mono oM)⟩))
 . (
 obtain ⟨nn,Xt⟩:∃ k:Nat,n=(k:Int):=⟨n.toNat,qF⟩
 subst Xt
 have pQ:0<nn:=qF
 clear hq
 refine wp_skip (Zs a8 fun _ a8=>Ze fun _ j8=>rg ?_)
 have bB:=hf.B2 13 14
 iterate 2 refine Zy ?_
 refine Zc (WR W0 _ init ss s Q7.rs) ?_;rintro e W3 ⟨rfl,Ek,kZ,G4⟩
 have z5q:w.heap.size<=W0.heap.size:=hb.size
 have Je:=j5 lY
 replace ar:=(G4.block _ (j5 ar)).trans ar
 replace lY:=(G4.block _ (j5 lY)).trans lY
 replace Q7:=Q7.below (G4.mono z5q)
 replace hb:=hb.trans (G4.mono hb.size)
 obtain ⟨q,hq⟩:∃ x,W0.heap.size=x:=⟨_,rfl⟩
 rw [hq] at Ek kZ Je z5q |-
 have hql:=j5 kZ
 clear hq G4 cf0 cf1 cn cg fg
 refine Zv ?_
 refine Fc.nil (y7 5 6 15 hf ?_)
 intro a7 hf sS
 refine Zx j8 (wp_block ?_)
 have hNb:=hb.size
 have MM:=Ls (9-1) (q+1) q w.heap.size (w.heap.size+1+1) s hs (.slice A ss.length cc) init D7 ss W3 kZ Ek Q7 hb.size oM oM oM oM oM hlen a6 D6
 refine (wpIn_wide (n:=9)).1 ?_
 refine dX (C:=Cw) (Fc.l5 sS.2.2) (enters_of Tryz.func151 kR rfl) MM KE.trans (fun V o o' ho hc _=>KE.put ho oM) (Below.refl _ _) (fun _=>rfl) (fun xs V=>∃ v,V.heap[(w.heap.size+1+1)]? =some (.cells #[v] 29 (0,0))/\OE V ((w.heap.size+1+1)+1) v (bL xs)/\(bL xs).length<nn/\V.heap[(w.heap.size+1)]? =some (.cells #[.int .i64 nn] 3 (0,0))/\Below w.heap.size w V) (fun c xs V=>c= .exit 0/\∃ v,V.heap[(w.heap.size+1+1)]? =some (.cells #[v] 29 (0,0))/\OE V ((w.heap.size+1+1)+1) v (bL xs)/\(bL xs).length=nn/\Below w.heap.size w V) (fun xs=>l3.ex fun v=>l3.and (l3.block (.inl oM)) (l3.and (l3.own nEs) (l3.and (l3.pure _ _ _) (l3.and (l3.block (.inl oM)) (l3.below oM oM))))) (fun c xs=>l3.and (l3.pure _ _ _) (l3.ex fun v=>l3.and (l3.block (.inl oM)) (l3.and (l3.own nEs) (l3.and (l3.pure _ _ _) (l3.below oM oM))))) ⟨_,lY,OE.T7 _ _,pQ,ar,hb⟩ (fun (x:Wd) a' V=>∃ Bx,(Fc.Fr 37 a'/\a'.tmps[5]? =some (.pointer (some ⟨(w.heap.size+1),0,none⟩))/\a'.tmps[6]? =some (.pointer (some ⟨(w.heap.size+1+1),0,none⟩))/\a'.tmps[7]? =some (.string x.w)/\a'.tmps[8]? =some (.pointer (some ⟨Bx,0,none⟩)))/\V.heap[Bx]? =some (.cells #[.int .u64 x.n,.bool x.b] 190 (0,0))/\True) (fun x a'=>l3.ex fun Bx=>l3.and (l3.pure _ _ _) (l3.and (WV (by rfl)) (l3.pure _ _ _))) ?_ ?_ ?_ ?_
 . (
 rintro l jR x V K ⟨v,hg,how,o9,tJ,Lv⟩ ZR
 refine pM (M:=fun a=>Code.wpIn _ _ _ _ _ a _) hf rfl rfl rfl fun a1 y5 h16 h17 hold=> ?_
 obtain ⟨s5,s6,aQ⟩:=sS
 have s5:=(hold 5 rfl rfl).trans s5;have s6:=(hold 6 rfl rfl).trans s6;have Y5:=h16;have G7:=h17
 clear hold h16 h17
 have hf:=y5;clear y5
 refine wpIn_seq_k (fun _ GB=> ?_)
 refine Inr.MN (r:=some l) ?_
 refine Inr.dM fun K Z=> ?_
 go_simp
 apply Z.out;clear Z K
 refine Inr.mM ?_
 refine z8 5 6 7 17 hf ?_
 clear hf s5 s6 Y5 G7;intro a7 hf sS
 refine nx (GB _ _ ?_)
 obtain ⟨s5,s6,s7,G7⟩:=sS
 refine Inr.MN (r:=some l) ?_
 have b8:=hf.b 8
 refine Inr.dM fun K Z=> ?_
 go_simp
 apply Z.out;clear Z K
 refine Inr.dM fun K Z=> ?_
 go_simp
 apply Z.out;clear Z K
 refine Inr.mM ?_
 refine z8 5 6 7 8 hf ?_
 clear hf s5 s6 s7 G7 b8;intro a7 hf sS
 refine Fc.j7 ?_
 generalize hV7:V.alloc (.cells #[.int .u64 x.n,.bool x.b] 190)=V7
 have B1:Below V.heap.size V V7:=by rw [<- hV7];exact (Below.refl _ _).alloc nR _
 have pr:V7.heap[V.heap.size]? =some (.cells #[.int .u64 x.n,.bool x.b] 190 (0,0)):=by rw [<- hV7];exact heap_alloc_new V _
 clear hV7
 obtain ⟨s5,s6,s7,s8⟩:=sS
 exact ZR _ _ ((L9 B1).from _) (KE.below B1) ⟨v,(B1.block _ (j5 hg)).trans hg,n3 how B1,o9,(B1.block _ (j5 tJ)).trans tJ,Lv.trans (B1.mono Lv.size)⟩ ⟨_,⟨hf,s5,s6,s7,s8⟩,pr,trivial⟩)
 . (
 clear hf sS
 rintro l jR x a1 V hl _ ⟨v,hg,how,o9,tJ,Lv⟩ ⟨Bx,⟨hf,s5,s6,s7,s8⟩,mB, -⟩ yA
 have z0:=n5 0 mB;have z1:=n5 1 mB
 simp at z0 z1
 obtain ⟨is,N3⟩:∃ y,pS x=y:=⟨_,rfl⟩
 have XQ:=H9 N3;clear N3
 have hVs:w.heap.size+1+1<V.heap.size:=j5 hg
 refine wpIn_block ?_
 refine wpIn_seq_k (fun _ GB=> ?_)
 refine wpIn_seq_k (fun _ iK2=> ?_)
 refine Inr.MN (r:=some l) ?_
 obtain ⟨b18,b19⟩:=hf.B2 18 19
 refine Inr.dM fun K Z=> ?_
 go_simp
 apply Z.out;clear Z K
 refine Inr.dM fun K Z=> ?_
 go_simp
 go_at_call 115;refine (NC V x.n x.b).mono ?_;rintro e V1 ⟨rfl,p6⟩
 rw [show (x.b&&decide (x.n<=4294967296))=is from XQ.out]
 replace z0:=cL p6 z0;replace z1:=cL p6 z1
 try dsimp only
 apply Z.out;clear Z K
 refine Inr.dM fun K Z=> ?_
 go_simp
 apply Z.out;clear Z K
 refine Inr.mM ?_
 refine D2 5 6 7 8 20 hf ?_
 clear hf s5 s6 s7 s8 b18 b19;intro a7 hf sS
 refine nx (iK2 _ _ ?_)
 refine wpIn_cond_split (Fc.l5 sS.2.2.2.2) (fun yK=> ?_) (fun yK=> ?_)
 . (
 have hi:is=false:=by simpa using yK
 have Rw:bL (jR++[x])=bL jR:=by rw [xB,XQ.out,hi];simp
 refine wpIn_exit ?_
 refine Fc.uY ?_
 refine Fc.iP ?_
 exact ⟨(L9 p6).from _,KE.below p6,by simp only [Rw];exact ⟨v,(p6.block _ (j5 hg)).trans hg,n3 how p6,o9,(p6.block _ (j5 tJ)).trans tJ,Lv.trans (p6.mono Lv.size)⟩⟩)
 . (
 have hi:is=true:=by simpa using yK
 have hxn:x.n<=4294967296:=Ru (XQ.out.trans hi)
 obtain ⟨E,hE⟩:∃ y,eX x.w x.n=y:=⟨_,rfl⟩
 have Rw:bL (jR++[x])=bL jR++[E]:=by rw [xB,XQ.out,hi,hE];simp
 have HE:=H9 hE;have HEF:=H9 Rw;clear hE Rw
 refine wpIn_skip ?_
 refine nx (GB _ _ ?_)
 refine wpIn_seq_k (fun _ GB=> ?_)
 obtain ⟨s5,s6,s7,s8,N5⟩:=sS
 refine Inr.MN (r:=some l) ?_
 obtain ⟨b22,b23,b24,Yf,b21,Sv,Yg,b9⟩:=hf.B8 22 23 24 25 21 26 27 9
 refine Inr.dM fun K Z=> ?_
 go_simp
 apply Z.out;clear Z K
 refine Inr.dM fun K Z=> ?_
 go_simp
 apply Z.out;clear Z K
 refine Inr.dM fun K Z=> ?_
 go_simp
 apply Z.out;clear Z K
 refine Inr.dM fun K Z=> ?_
 go_simp
 go_at_call 127;refine (XG V1 x.w x.n oM).mono ?_;rintro e V2 ⟨rfl,r8⟩
 rw [HE.out]
 simp only [eval]
 try dsimp only
 apply Z.out;clear Z K
 refine Inr.dM fun K Z=> ?_
 go_simp
 apply Z.out;clear Z K
 refine Inr.dM fun K Z=> ?_
 go_simp
 apply Z.out;clear Z K
 refine Inr.dM fun K Z=> ?_
 go_simp
 apply Z.out;clear Z K
 refine Inr.dM fun K Z=> ?_
 go_simp
 apply Z.out;clear Z K
 refine Inr.dM fun K Z=> ?_
 go_simp
 apply Z.out;clear Z K
 refine Inr.dM fun K Z=> ?_
 go_simp
 apply Z.out;clear Z K
 refine Inr.mM ?_
 refine y7 5 6 9 hf ?_
 clear hf s5 s6 s7 s8 N5 b22 b23 b24 Yf b21 Sv Yg b9;intro a7 hf sS
 generalize hV3:V2.alloc (.cells #[.string E.word,.int .u32 E.weight,.bool E.gone] 64)=V3
 obtain ⟨y2i,e0,e1,e2, -, -⟩:=E7 hV3
 clear hV3
 have bX:Below V.heap.size V V3:=(p6.trans (r8.mono p6.size)).trans (y2i.mono (Nat.le_trans p6.size r8.size))
 replace hg:=(bX.block _ (j5 hg)).trans hg;replace tJ:=(bX.block _ (j5 tJ)).trans tJ;replace how:=n3 how bX
 have cg:=n5 0 hg
 simp at cg
 have fg:=j6 (i:=0) hg
 obtain ⟨es,uK⟩:∃ y,bL jR=y:=⟨_,rfl⟩
 have Rw:=HEF.out
 rw [uK] at how o9 Rw
 have HES:=H9 uK;have z5p:=H9 Rw;clear uK Rw HEF
 refine nx (GB _ _ ?_)
 refine wpIn_seq_k (fun _ GB=> ?_)
 obtain ⟨s5,s6,s9⟩:=sS
 refine Inr.MN (r:=some l) ?_
 obtain ⟨pd,ML,b30,b31⟩:=hf.B4 28 29 30 31
 refine Inr.dM fun K Z=> ?_
 go_simp
 apply Z.out;clear Z K
 refine Inr.dM fun K Z=> ?_
 go_simp
 apply Z.out;clear Z K
 refine Inr.dM fun K Z=> ?_
 go_simp
 generalize hV4:V3.alloc (.cells #[.string E.word,.int .u32 E.weight,.bool E.gone] 64)=V4
 have RU:=E8 V3 (G9.cells E) 64
 rw [show V3.alloc (.cells (G9.cells E).toArray 64)=V4 from hV4] at RU
 have U4:Below V3.heap.size V3 V4:=by rw [<- hV4];exact (Below.refl _ _).alloc nR _
 clear hV4
 have Rx:=n3 how U4
 have Hh:=(U4.block _ (j5 hg)).trans hg
 apply Z.out;clear Z K
 refine Inr.dM fun K Z=> ?_
 refine J6 _ _ 29 rfl 64 _ 3 24 Tryz.underlying29 sU rfl dC dC ((w.heap.size+1+1)+1) v es.length (GQ es) (by simp [Act.eval,pd,ML,b30]) Rx V3.heap.size (G9.cells E) (by simp [Act.eval,pd,ML,b30]) rfl RU (zF E) oM (by have:=U4.size;have:=bX.size;omega) (fun v5 V5 X8 bN M6=> ?_)
 have Ma:=KE.app Rx bN (N:=w.heap.size) (G:=(w.heap.size+1+1)) (Lr:=W3.heap.size+1) oM
 have mx:V5.heap[(w.heap.size+1+1)]? =some (.cells #[v] 29 (0,0)):=(bN.block _ (j5 Hh) (fun e=>by have:=(World.ownsRow.lt Rx _ e.symm).1;omega)).trans Hh
 have cg5:=n5 0 mx
 simp at cg5
 have fg5:=j6 (i:=0) mx
 clear cg fg
 have eS:OE V5 ((w.heap.size+1+1)+1) v5 (es++[E]):=by unfold OE;rw [List.length_append,jG];simpa [GQ] using X8
 obtain ⟨A6,n6,c6v,Mc,rfl⟩:∃ A n c,n=es.length+1/\v5= .slice A n c:=by obtain ⟨A6,c6,h, -⟩:=OE.form eS;exact ⟨A6,_,c6,sP,h⟩
 have HL6:=H9 Mc;clear Mc
 apply Z.out;clear Z K
 refine Inr.dM fun K Z=> ?_
 go_simp
 apply Z.out;clear Z K
 refine Inr.mM ?_
 refine y4 5 6 hf ?_
 clear hf s5 s6 s9 pd ML b30 b31;intro a7 hf sS
 generalize hV6:V5.setCell ⟨(w.heap.size+1+1),0,none⟩ (.slice A6 n6 c6v)=V6
 have h6:V6.heap[(w.heap.size+1+1)]? =some (.cells #[(.slice A6 n6 c6v)] 29 (0,0)):=by rw [<- hV6];simpa using k7 (i:=0) mx (.slice A6 n6 c6v)
 have lH:V5.grownBy V6 (some (w.heap.size+1+1)):=by rw [<- hV6];exact grownBy_setCell' V5 (w.heap.size+1+1) _
 have VT:OE V6 ((w.heap.size+1+1)+1) (.slice A6 n6 c6v) (bL (jR++[x])):=by rw [z5p.out];exact GF (es:=es++[E]) eS lH oM
 have Di:KE w.heap.size (w.heap.size+1+1) (W3.heap.size+1) V V6:=((KE.below (bX.trans (U4.mono bX.size))).trans Ma).trans (KE.turn lH oM)
 have z5o:V6.heap[(w.heap.size+1)]? =some (.cells #[.int .i64 nn] 3 (0,0)):=((Ma.trans (KE.turn lH oM)).kept _ _ oM oM oM (nE rfl) ((U4.block _ (j5 tJ)).trans tJ))
 have z5n:Below w.heap.size w V6:=((((Lv.trans (bX.mono Lv.size)).trans (U4.mono (Nat.le_trans Lv.size bX.size)))).grown bN (by have:=U4.size;have:=bX.size;have:=Lv.size;omega) (fun k e=>by have:=(World.ownsRow.lt Rx k e).1;omega)).grown lH (by have:=Ma.size;have:=U4.size;have:=bX.size;omega) (fun k e=>by cases e;omega)
 have c6:=n5 0 h6;have cn6:=n5 0 z5o
 simp at c6 cn6
 have hle:(bL (jR++[x])).length=es.length+1:=by rw [z5p.out];simp
 have hL:∀ o,V.heap[W3.heap.size+1]? =some o->o.isCells=false->V6.heap[W3.heap.size+1]? =some o:=fun o h hc=>by have h13:=(bX.block _ (j5 h)).trans h;have h5:=Rv Rx bN ((U4.block _ (j5 h13)).trans h13) hc;exact (lH.block _ (j5 h5) (fun e=>by injection e with e;omega)).trans h5
 have HLE:=H9 hle;clear hle RU X8 M6 Ma eS
 refine nx (GB _ _ ?_)
 refine wpIn_seq_k (fun _ GB=> ?_)
 obtain ⟨s5,s6⟩:=sS
 refine Inr.MN (r:=some l) ?_
 obtain ⟨b32,b33,b34⟩:=hf.B3 32 33 34
 refine Inr.dM fun K Z=> ?_
 go_simp
 apply Z.out;clear Z K
 refine Inr.dM fun K Z=> ?_
 go_simp
 apply Z.out;clear Z K
 refine Inr.dM fun K Z=> ?_
 go_simp
 apply Z.out;clear Z K
 refine Inr.dM fun K Z=> ?_
 go_simp
 apply Z.out;clear Z K
 refine Inr.mM ?_
 refine y4 6 35 hf ?_
 clear hf s5 s6 b32 b33 b34;intro a7 hf sS
 refine nx (GB _ _ ?_)
 refine wpIn_cond_split (Fc.l5 sS.2) (fun EB=> ?_) (fun EB=> ?_)
 . (
 refine wpIn_exit ?_
 refine Fc.nK dC ?_
 exact ⟨Di.from,Di,rfl,_,h6,VT,by have:=HLE.out;have:=HL6.out;have h9:=beq_iff_eq.1 EB;omega,z5n⟩)
 . (
 refine wpIn_skip ?_
 refine Fc.j9 ?_
 exact ⟨Di.from,Di,_,h6,VT,by have:=HLE.out;have:=HL6.out;have h9:=beq_eq_false_iff_ne.1 EB;omega,z5o,z5n⟩)))
 . (
 rintro D xs V hD rfl ⟨v,hg,how,o9,tJ,Lv⟩ ED
 refine Fc.reQ (n:=37) (ds:=[{ target:= .collected D,args:= #[] }]) hf.size (by rw [hf.defers]) (fun Wp Az Rt=> ?_)
 obtain ⟨s5,s6,aQ⟩:=sS
 have s6:=(Rt 6).trans s6
 clear Rt hf
 have hf:=Az;clear Az
 have hfv:Q1 ss init s nn=bL (walkS ss (wl s) ss.length (ss.length-1) ⟨#[]⟩ init true):=Lt pQ o9
 obtain ⟨A9,n9,c9,rfl⟩:∃ A n c,v= .slice A n c:=by obtain ⟨A9,c9,h, -⟩:=OE.form how;exact ⟨_,_,_,h⟩
 have cg:=n5 0 hg
 simp at cg
 have fg:=j6 (i:=0) hg
 refine Fc.j9 (Zs a8 fun _ a8=>Zr [36] hf ?_)
 refine p5 6 hf ?_
 clear hf s6;intro a7 hf s6
 generalize mP:V.setCell ⟨(w.heap.size+1+1),0,none⟩ (.slice A9 n9 c9)=W9
 have h6:W9.heap[(w.heap.size+1+1)]? =some (.cells #[(.slice A9 n9 c9)] 29 (0,0)):=by rw [<- mP];simpa using k7 (i:=0) hg (.slice A9 n9 c9)
 have lH:V.grownBy W9 (some (w.heap.size+1+1)):=by rw [<- mP];exact grownBy_setCell' V (w.heap.size+1+1) _
 have hbF:Below w.heap.size w W9:=by rw [<- mP];exact Lv.setCell (p:=⟨(w.heap.size+1+1),0,none⟩) (by show w.heap.size<=w.heap.size+1+1;omega) _
 have yV:OE W9 ((w.heap.size+1+1)+1) (.slice A9 n9 c9) (Q1 ss init s nn):=by rw [hfv];exact GF how lH oM
 refine Zx a8 (k8 ?_)
 exact JF (G:=(w.heap.size+1+1)) (S:=fun V=>OE V ((w.heap.size+1+1)+1) ((.slice A9 n9 c9)) (Q1 ss init s nn)) (l3.own (fun cur h=>by cases h)) rfl hf s6 h6 nR Tryz.isAgg29 (P8.one oM lH ED) yV (fun w' hw h9=>⟨_,rfl,K7 h9 oM,hbF.trans (hw.mono oM)⟩))
 . (
 rintro D c2 jR V hD SN ⟨rfl,v,hg,how,hle,Lv⟩ ED
 refine (wpIn_wide (n:=9)).2 ?_
 refine Fc.re (n:=37) (ds:=[{ target:= .collected D,args:= #[] }]) hf.size (by rw [hf.defers]) (fun Wp Az Rt=> ?_)
 obtain ⟨s5,s6,aQ⟩:=sS
 have s6:=(Rt 6).trans s6
 clear Rt hf
 have hf:=Az;clear Az
 have hfv:Q1 ss init s nn=bL jR:=Lu pQ SN hle
 refine wp_exit ?_
 obtain ⟨A9,n9,c9,rfl⟩:∃ A n c,v= .slice A n c:=by obtain ⟨A9,c9,h, -⟩:=OE.form how;exact ⟨_,_,_,h⟩
 have cg:=n5 0 hg
 simp at cg
 have fg:=j6 (i:=0) hg
 refine Fc.iP ?_
 refine Zs a8 fun _ a8=>Zr [36] hf ?_
 refine p5 6 hf ?_
 clear hf s6;intro a7 hf s6
 generalize mP:V.setCell ⟨(w.heap.size+1+1),0,none⟩ (.slice A9 n9 c9)=W9
 have h6:W9.heap[(w.heap.size+1+1)]? =some (.cells #[(.slice A9 n9 c9)] 29 (0,0)):=by rw [<- mP];simpa using k7 (i:=0) hg (.slice A9 n9 c9)
 have lH:V.grownBy W9 (some (w.heap.size+1+1)):=by rw [<- mP];exact grownBy_setCell' V (w.heap.size+1+1) _
 have hbF:Below w.heap.size w W9:=by rw [<- mP];exact Lv.setCell (p:=⟨(w.heap.size+1+1),0,none⟩) (by show w.heap.size<=w.heap.size+1+1;omega) _
 have yV:OE W9 ((w.heap.size+1+1)+1) (.slice A9 n9 c9) (Q1 ss init s nn):=by rw [hfv];exact GF how lH oM
 refine Zx a8 (k8 ?_)
 exact JF (G:=(w.heap.size+1+1)) (S:=fun V=>OE V ((w.heap.size+1+1)+1) ((.slice A9 n9 c9)) (Q1 ss init s nn)) (l3.own (fun cur h=>by cases h)) rfl hf s6 h6 nR Tryz.isAgg29 (P8.one oM lH ED) yV (fun w' hw h9=>⟨_,rfl,K7 h9 oM,hbF.trans (hw.mono oM)⟩)))
theorem DM (n k:Nat):IntKind.u64.wrap ((n:Int)+(k:Int))=(((n+k)%q9:Nat):Int):=by
 have h:IntKind.u64.wrap ((n:Int)+(k:Int))=((n:Int)+(k:Int))%18446744073709551616:=rfl
 rw [h]
 unfold q9
 omega
theorem Ry {n k:Nat} (hn:n<q9) (hk:k<q9):decide (n<=(n+k)%q9)=decide (n+k<q9):=by
 unfold q9 at *
 exact decide_eq_decide.2 oM
theorem mw (w:World) (n k:Nat) (hn:n<q9) (hk:k<q9):E2 w 73 #[.int .u64 n,.int .u64 k,.bool false] (.tuple #[.int .u64 ((n+k)%q9:Nat),.bool (false&&decide (n+k<q9))]):=by
 refine dT 19 Tryz.func73 fun fr hf s0 s1 s2=> ?_
 obtain ⟨sm,N6⟩:∃ x,(n+k)%q9=x:=⟨_,rfl⟩
 obtain ⟨d,hd⟩:∃ x,decide (n+k<q9)=x:=⟨_,rfl⟩
 have q5:IntKind.u64.wrap ((n:Int)+(k:Int))=(sm:Int):=by rw [<- N6];exact DM n k
 have q6:decide (n<=sm)=d:=by rw [<- hd, <- N6];exact Ry hn hk
 rw [N6,hd]
 clear N6 hd
 refine Ze fun _ a8=>Zr [] hf ?_
 refine y7 0 1 2 hf ?_
 clear hf s0 s1 s2;intro a7 hf sS
 refine Zt a8 fun _ a8=> ?_
 have bB:=And.intro (hf.eW 8 9 10 11 12 13 14 15 16 17) (hf.b 18)
 iterate 2 refine Zy ?_
 refine fp fun K Z=> ?_
 go_simp
 try simp (disch:=omega) only [Fc.W]
 try rw [q5]
 apply Z.out;clear Z K
 iterate 10 refine Zy ?_
 refine Fc.nil (y4 6 7 hf ?_)
 intro a7 hf sS
 refine Zx a8 (k8 ?_)
 exact Fc.H6 rfl hf sS.1 sS.2 ⟨rfl,Below.refl _ _⟩
theorem mv (w:World) (n k:Nat) (hn:n<q9) (hk:k<q9):E2 w 73 #[.int .u64 n,.int .u64 k,.bool true] (.tuple #[.int .u64 ((n+k)%q9:Nat),.bool (true&&decide (n+k<q9))]):=by
 refine dT 19 Tryz.func73 fun fr hf s0 s1 s2=> ?_
 obtain ⟨sm,N6⟩:∃ x,(n+k)%q9=x:=⟨_,rfl⟩
 obtain ⟨d,hd⟩:∃ x,decide (n+k<q9)=x:=⟨_,rfl⟩
 have q5:IntKind.u64.wrap ((n:Int)+(k:Int))=(sm:Int):=by rw [<- N6];exact DM n k
 have q6:decide (n<=sm)=d:=by rw [<- hd, <- N6];exact Ry hn hk
 rw [N6,hd]
 clear N6 hd
 refine Ze fun _ a8=>Zr [] hf ?_
 refine y7 0 1 2 hf ?_
 clear hf s0 s1 s2;intro a7 hf sS
 refine Zt a8 fun _ a8=> ?_
 have bB:=And.intro (hf.eW 8 9 10 11 12 13 14 15 16 17) (hf.b 18)
 iterate 2 refine Zy ?_
 refine fp fun K Z=> ?_
 go_simp
 try simp (disch:=omega) only [Fc.W]
 try rw [q5]
 apply Z.out;clear Z K
 iterate 4 refine Zy ?_
 refine og 4 12 true ?_ fun K Z=> ?_
 . (
 simp (decide:=true) only [Fc.G,reduceIte,hf.size])
 go_simp
 try simp (disch:=omega) only [Fc.W]
 try rw [q5]
 apply Z.out;clear Z K
 refine Zy ?_
 refine og 4 12 true ?_ fun K Z=> ?_
 . (
 simp (decide:=true) only [Fc.G,reduceIte,hf.size])
 go_simp
 try rw [q6]
 apply Z.out;clear Z K
 iterate 3 refine Zy ?_
 refine Fc.nil (y4 6 7 hf ?_)
 intro a7 hf sS
 refine Zx a8 (k8 ?_)
 exact Fc.H6 rfl hf sS.1 sS.2 ⟨rfl,Below.refl _ _⟩
theorem Rz (w:World) (n k:Nat) (b:Bool) (hn:n<q9) (hk:k<q9):E2 w 73 #[.int .u64 n,.int .u64 k,.bool b] (.tuple #[.int .u64 ((n+k)%q9:Nat),.bool (b&&decide (n+k<q9))]):=by
 cases b
 ·exact mw w n k hn hk
 ·exact mv w n k hn hk
theorem z5m (w:World) (u:ByteArray) (n:Nat):E2 w 146 #[.agg #[.string u,.int .u64 n,.bool false]] (.bool (pS ⟨u,n,false⟩)):=by
 refine L7 10 Tryz.func146 fun fr hf s0=> ?_
 refine Ze fun _ a8=>Zr [] hf ?_
 refine p5 1 hf ?_
 clear hf s0;intro a7 hf s1
 generalize p8:w.alloc (.cells #[.string u,.int .u64 n,.bool false] 101)=W0
 obtain ⟨o7, -,c1,c2, -, -⟩:=E7 p8
 clear p8
 refine Zs a8 fun _ a8=>Zr [3,4,5,6,7,8,9] hf ?_
 refine p5 2 hf ?_
 clear hf s1;intro a7 hf s2
 refine Zx a8 (k8 ?_)
 exact Fc.o6 rfl hf s2 ⟨rfl,o7⟩
theorem z5l (w:World) (u:ByteArray) (n:Nat):E2 w 146 #[.agg #[.string u,.int .u64 n,.bool true]] (.bool (pS ⟨u,n,true⟩)):=by
 refine L7 10 Tryz.func146 fun fr hf s0=> ?_
 refine Ze fun _ a8=>Zr [] hf ?_
 refine p5 1 hf ?_
 clear hf s0;intro a7 hf s1
 generalize p8:w.alloc (.cells #[.string u,.int .u64 n,.bool true] 101)=W0
 obtain ⟨o7, -,c1,c2, -, -⟩:=E7 p8
 clear p8
 refine Zs a8 fun _ a8=>Zr [3,4,5,6,7,8,9] hf ?_
 refine p5 2 hf ?_
 clear hf s1;intro a7 hf s2
 refine Zx a8 (k8 ?_)
 exact Fc.o6 rfl hf s2 ⟨by rw [show decide ((n:Int)<=4294967296)=decide (n<=4294967296) from decide_eq_decide.2 oM];rfl,o7⟩
theorem SD (w:World) (x:Wd):E2 w 146 #[.agg #[.string x.w,.int .u64 x.n,.bool x.b]] (.bool (pS x)):=by
 obtain ⟨u,n,b⟩:=x
 cases b
 ·exact z5m w u n
 ·exact z5l w u n
theorem tK {α:Type} {p:α->Bool} {l:List α} {i:Nat} {a:α} (h:l[i]? =some a) (hn:(l.take i).find? p=none) (ha:p a=false):(l.take (i+1)).find? p=none:=by
 rw [List.take_add_one,h,List.find?_append,hn]
 simp [ha]
theorem SE {α:Type} {p:α->Bool} {l:List α} {i:Nat} {a:α} (h:l[i]? =some a) (hn:(l.take i).find? p=none) (ha:p a=true):l.find? p=some a:=by
 have h1:(l.take (i+1)).find? p=some a:=by
  rw [List.take_add_one,h,List.find?_append,hn]
  simp [ha]
 have h2:=List.take_append_drop (i+1) l
 rw [<- h2,List.find?_append,h1]
 rfl
theorem JJ (w:World) (sv:Value) (init:Nat) (ss:List State) (o8:RS w sv ss) (k:Nat) (st:State) (hk:ss[k]? =some st) (jQ:ss.length<=1000000000) (hlen:st.j4.length<4611686018427387904) (b:Nat):E2 w 75 #[.agg #[sv,.int .u64 init],.int .i64 k,.int .u8 b] (stepV (st.j4.find? (G8 b k))):=by
 refine dT 59 Tryz.func75 fun fr hf s0 s1 s2=> ?_
 obtain ⟨A,cc,rfl,U0⟩:=o8.form
 have o9:=(H2 hk).1
 refine Ze fun _ a8=>Zr [] hf ?_
 refine y7 1 2 3 hf ?_
 clear hf s0 s1 s2;intro a7 hf sS
 generalize p8:w.alloc (.cells #[.slice A ss.length cc,.int .u64 init] 38)=W0
 obtain ⟨o7,c0, -, -, -⟩:=P7 p8
 clear p8
 have R9:=o8.later o7
 clear o8
 obtain ⟨bb,off,av,hA,C7⟩:=R9.at_ hk
 subst hA
 have d0:=C7.c0
 have S7:=C7.j4
 obtain ⟨A2,c2,Z3,uG⟩:=S7.form
 subst Z3
 clear C7 R9
 refine Zx a8 ?_
 have q1:decide ((k:Int)<0)=false:=decide_eq_false oM
 have q2:decide (ss.length<=k)=false:=decide_eq_false oM
 refine Ze fun _ a8=>Ze fun _ j8=> ?_
 have qs:=And.intro q1 q2
 refine Zr [11,12,13,14,15,16,17,18] hf ?_
 refine z8 1 2 3 19 hf ?_
 clear hf sS qs;intro a7 hf sS
 refine Zx j8 (Fc.k9 sS.2.2.2 ?_)
 clear q1 q2
 refine wp_skip (Zs a8 fun _ a8=>Ze fun _ j8=>Zr [] hf ?_)
 refine z8 1 2 3 9 hf ?_
 intro a7 hf sS
 refine Zx j8 (wp_block (wp_loop_ghost (fun gk fr wr=>∃ (i:Nat),gk=st.j4.length-i/\i<=st.j4.length/\Fc.Fr 59 fr/\(fr.tmps[1]? =some (.int .i64 k)/\fr.tmps[2]? =some (.int .u8 b)/\fr.tmps[3]? =some (.pointer (some ⟨w.heap.size,0,none⟩)))/\fr.tmps[9]? =some (.int .i64 i)/\(st.j4.take i).find? (G8 b k)=none/\Below W0.heap.size W0 wr) (st.j4.length) ?_ ?_))
 . (
 obtain ⟨s1,s2,s3,s9⟩:=sS
 exact ⟨0,rfl,Nat.zero_le _,hf,⟨s1,s2,s3⟩,s9,rfl,Below.refl _ _⟩)
 . (
 clear hf sS
 rintro gk fr wr ⟨i,dA,hi,hf,⟨s1,s2,s3⟩,s9,Kv,hb⟩
 have HK:=H9 dA;have WB:=H9 Kv;clear dA Kv
 have e0:=cL hb c0;have f0:=cL hb d0
 have Bc:=S7.later hb
 refine Ze fun _ j8=>Ze fun _ l8=>Zr [20,21,22,23,24,25,26,27] hf ?_
 refine D2 1 2 3 9 28 hf ?_
 clear hf s1 s2 s3 s9;intro a7 hf sS
 refine Zx l8 (Fc.l0 sS.2.2.2.2 (fun hq=> ?_) (fun hq=> ?_))
 . (
 have Ln:i<st.j4.length:=qT
 clear hq
 obtain ⟨a,X9⟩:∃ a,st.j4[i]? =some a:=⟨_,F8 Ln⟩
 obtain ⟨b3,uD,hA3,X3,y0,y1,y2⟩:=Bc.at' X9
 subst hA3
 have yZ:=H9 X9;clear X9
 refine wp_skip (Zs j8 fun _ j8=>wp_block (Ze fun _ l8=>Zr [31,32,33,34,35,36,37,38,39,10] hf ?_))
 refine D2 1 2 3 9 10 hf ?_
 intro a7 hf sS
 generalize AG:wr.alloc (.cells #[.int .u8 a.byte,.int .u64 a.out,.int .i64 a.to] 71)=W6
 obtain ⟨C4,z0,z1,z2, -, -⟩:=E7 AG
 clear AG
 replace hb:=hb.trans (C4.mono hb.size)
 clear C4
 refine Zx l8 ?_
 rcases (by cases h1:(a.byte==b);exact .inl rfl;cases h2:decide (0<=a.to);exact .inr (.inl ⟨rfl,rfl⟩);cases h3:decide (a.to<(k:Int));exact .inr (.inr (.inl ⟨rfl,rfl,rfl⟩));exact .inr (.inr (.inr ⟨rfl,rfl,rfl⟩)):(a.byte==b)=false\/((a.byte==b)=true/\decide (0<=a.to)=false)\/((a.byte==b)=true/\decide (0<=a.to)=true/\decide (a.to<(k:Int))=false)\/((a.byte==b)=true/\decide (0<=a.to)=true/\decide (a.to<(k:Int))=true)) with hh | hh | hh | hh
 . (
 have HH:=H9 hh;clear hh
 have q1:(((a.byte:Nat):Int)==((b:Nat):Int))=false:=(cH _ _).trans HH.out
 refine Ze fun _ l8=> ?_
 have qs:=q1
 refine Zr [40,41,42,43,44,45,46,47,48,49,50,51,52,53] hf ?_
 refine F1 1 2 3 9 10 54 hf ?_
 clear hf sS qs;intro a7 hf sS
 refine Zx l8 (Fc.k9 sS.2.2.2.2.2 ?_)
 clear q1
 have Ej:=tK yZ.out WB.out (p:=G8 b k) (by unfold G8;rw [HH.out];rfl)
 have Sf:=H9 Ej;clear Ej
 refine wp_skip (Fc.j9 (Zx j8 (Zr [29,30] hf ?_)))
 refine z8 1 2 3 9 hf ?_
 intro a7 hf sS
 refine Fc.j7 ?_
 obtain ⟨s1,s2,s3,s9⟩:=sS
 exact ⟨_,by have:=HK.out;omega,i+1,rfl,oM,hf,⟨s1,s2,s3⟩,by rw [s9];rfl,Sf.out,hb⟩)
 . (
 have HH:=H9 hh;clear hh
 have q1:(((a.byte:Nat):Int)==((b:Nat):Int))=true:=(cH _ _).trans HH.out.1
 have q2:decide (0<=a.to)=false:=HH.out.2
 refine Ze fun _ l8=> ?_
 have qs:=And.intro q1 q2
 refine Zr [40,41,42,43,44,45,46,47,48,49,50,51,52,53] hf ?_
 refine F1 1 2 3 9 10 54 hf ?_
 clear hf sS qs;intro a7 hf sS
 refine Zx l8 (Fc.k9 sS.2.2.2.2.2 ?_)
 clear q1 q2
 have Ej:=tK yZ.out WB.out (p:=G8 b k) (by unfold G8;rw [HH.out.1,HH.out.2];rfl)
 have Sf:=H9 Ej;clear Ej
 refine wp_skip (Fc.j9 (Zx j8 (Zr [29,30] hf ?_)))
 refine z8 1 2 3 9 hf ?_
 intro a7 hf sS
 refine Fc.j7 ?_
 obtain ⟨s1,s2,s3,s9⟩:=sS
 exact ⟨_,by have:=HK.out;omega,i+1,rfl,oM,hf,⟨s1,s2,s3⟩,by rw [s9];rfl,Sf.out,hb⟩)
 . (
 have HH:=H9 hh;clear hh
 have q1:(((a.byte:Nat):Int)==((b:Nat):Int))=true:=(cH _ _).trans HH.out.1
 have q2:decide (0<=a.to)=true:=HH.out.2.1
 have q3:decide (a.to<(k:Int))=false:=HH.out.2.2
 refine Ze fun _ l8=> ?_
 have qs:=And.intro q1 (And.intro q2 q3)
 refine Zr [40,41,42,43,44,45,46,47,48,49,50,51,52,53] hf ?_
 refine F1 1 2 3 9 10 54 hf ?_
 clear hf sS qs;intro a7 hf sS
 refine Zx l8 (Fc.k9 sS.2.2.2.2.2 ?_)
 clear q1 q2 q3
 have Ej:=tK yZ.out WB.out (p:=G8 b k) (by unfold G8;rw [HH.out.1,HH.out.2.1,HH.out.2.2];rfl)
 have Sf:=H9 Ej;clear Ej
 refine wp_skip (Fc.j9 (Zx j8 (Zr [29,30] hf ?_)))
 refine z8 1 2 3 9 hf ?_
 intro a7 hf sS
 refine Fc.j7 ?_
 obtain ⟨s1,s2,s3,s9⟩:=sS
 exact ⟨_,by have:=HK.out;omega,i+1,rfl,oM,hf,⟨s1,s2,s3⟩,by rw [s9];rfl,Sf.out,hb⟩)
 . (
 have HH:=H9 hh;clear hh
 have q1:(((a.byte:Nat):Int)==((b:Nat):Int))=true:=(cH _ _).trans HH.out.1
 have q2:decide (0<=a.to)=true:=HH.out.2.1
 have q3:decide (a.to<(k:Int))=true:=HH.out.2.2
 refine Ze fun _ l8=> ?_
 have qs:=And.intro q1 (And.intro q2 q3)
 refine Zr [40,41,42,43,44,45,46,47,48,49,50,51,52,53] hf ?_
 refine F1 1 2 3 9 10 54 hf ?_
 clear hf sS qs;intro a7 hf sS
 refine Zx l8 (Fc.l7 sS.2.2.2.2.2 ?_)
 clear q1 q2 q3
 refine Ze fun _ l8=> ?_
 obtain ⟨s1,s2,s3,s9,u4,Kx⟩:=sS
 refine Sb.tb 59 fun a6=> ?_
 refine Sb.T 0 hf a6 ?_ (hF:=fun _ _ h d=>Sb.O h u4)
 refine Sb.T 1 hf a6 ?_ (hF:=fun _ _ h d=>ad (cL h.ext z1) (cL h.ext z2))
 refine Sb.T 2 hf a6 ?_ (hF:=fun _ _ h d=>Sb.O h u4)
 refine Sb.T 3 hf a6 ?_ (hF:=fun _ _ h d=>ad (cL h.ext z1) (cL h.ext z2))
 refine Sb.mN 4 1 2 hf a6 [] ?_
 refine Sb.mN 5 3 1 hf a6 [] ?_
 refine Sb.T 6 hf a6 ?_
 refine Sb.E hf a6 (fun _ _ h g=>ad (Sb.f 4 2 g) (ad (Sb.f 5 1 g) (Sb.f 6 0 g))) ?_
 clear hf a6 s1 s2 s3 s9 u4 Kx;intro a7 w1 hf hx sS
 replace z1:=cL hx z1
 replace z2:=cL hx z2
 refine Zx l8 (k8 ?_)
 obtain ⟨s6,s7,s8⟩:=sS
 exact Fc.fE rfl hf s6 s7 s8 ⟨by rw [SE yZ.out WB.out (by unfold G8;rw [HH.out.1,HH.out.2.1,HH.out.2.2];rfl)];rfl,o7.trans ((hb.trans (hx.mono hb.size)).mono o7.size)⟩))
 . (
 have C3:i=st.j4.length:=qF
 clear hq
 refine Zo ?_
 refine Zs a8 fun _ a8=>Zr [] hf ?_
 refine y7 6 7 8 hf ?_
 intro a7 hf sS
 refine Zx a8 (k8 ?_)
 obtain ⟨s6,s7,s8⟩:=sS
 exact Fc.fE rfl hf s6 s7 s8 ⟨by have h:=WB.out;rw [C3,List.take_length] at h;rw [h];rfl,o7.trans (hb.mono o7.size)⟩))
theorem GG (fo:Option u3):∃ (to out:Int) (is:Bool),stepV fo= .tuple #[.int .i64 to,.int .u64 out,.bool is]/\fo.isSome=is:=by
 cases fo with
 | none=>exact ⟨_,_,_,rfl,rfl⟩
 | some a=>exact ⟨_,_,_,rfl,rfl⟩
theorem tL {k:Nat} (b:Nat):∀ (l:List u3) (last:Int),okArcs k last l=true->(l.filter fun a=>decide (a.byte<b+1)).map u3.byte=(l.filter fun a=>decide (a.byte<b)).map u3.byte++(if (l.find? (G8 b k)).isSome=true then [b] else [])
 | [],_,_=>by simp
 | a::l,last,h=>by
  have h0:=h
  simp only [okArcs,Bool.and_eq_true,decide_eq_true_eq] at h
  have ih:=tL b l _ h.2
  have ET:=dB l _ h.2
  rcases Nat.lt_trichotomy a.byte b with h1 | h1 | h1
  ·have hn:G8 b k a=false:=by unfold G8;rw [show (a.byte==b)=false from beq_eq_false_iff_ne.2 oM];rfl
   rw [List.filter_cons,if_pos (decide_eq_true oM),List.filter_cons,if_pos (decide_eq_true h1),List.map_cons,List.map_cons,List.find?_cons,hn,ih]
   rfl
  ·subst h1
   have hy:G8 a.byte k a=true:=by unfold G8;rw [beq_self_eq_true,decide_eq_true h.1.1.1,decide_eq_true h.1.1.2];rfl
   rw [List.filter_cons,if_pos (decide_eq_true oM),List.filter_cons,if_neg sP,List.find?_cons,hy,List.filter_eq_nil_iff.2 (fun x hx=>by have:=ET x hx;simp;omega),List.filter_eq_nil_iff.2 (fun x hx=>by have:=ET x hx;simp;omega)]
   rfl
  ·have hn:∀ x∈a::l,G8 b k x=false:=fun x hx=>by
    have:b<x.byte:=by
     rcases List.mem_cons.1 hx with rfl | hx
     ·exact h1
     ·have:=ET x hx;omega
    unfold G8
    rw [show (x.byte==b)=false from beq_eq_false_iff_ne.2 oM]
    rfl
   rw [List.find?_eq_none.2 (fun x hx=>by rw [hn x hx];decide),List.filter_eq_nil_iff.2 (fun x hx=> ?_),List.filter_eq_nil_iff.2 (fun x hx=> ?_)]
   ·rfl
   ·rcases List.mem_cons.1 hx with rfl | hx
    ·simp;omega
    ·have:=ET x hx;simp;omega
   ·rcases List.mem_cons.1 hx with rfl | hx
    ·simp;omega
    ·have:=ET x hx;simp;omega
theorem SF (w:World) (sv:Value) (init:Nat) (ss:List State) (o8:RS w sv ss) (k:Nat) (st:State) (hk:ss[k]? =some st) (jQ:ss.length<=1000000000) (hlen:st.j4.length<=1000000) (a6:okArcs k (-1) st.j4=true) (Mj:∀ a∈st.j4,a.byte<256):Calls Tryz.prog 74 #[.agg #[sv,.int .u64 init],.int .i64 k] w fun e w1=>∃ v1,e= .returned v1/\OB w1 w.heap.size v1 (st.j4.map u3.byte)/\Below w.heap.size w w1:=by
 refine Z6 30 Tryz.func74 fun fr hf s0 s1=> ?_
 obtain ⟨A,cc,rfl,U0⟩:=o8.form
 have Qz:=H9 a6;clear a6
 refine Ze fun _ a8=>Zr [] hf ?_
 refine y4 1 2 hf ?_
 clear hf s0 s1;intro a7 hf sS
 generalize p8:w.alloc (.cells #[.slice A ss.length cc,.int .u64 init] 38)=W0
 obtain ⟨o7,c0,c1, -, -⟩:=P7 p8
 clear p8
 have R9:=o8.later o7
 clear o8
 refine Zs a8 fun _ a8=>Zr [] hf ?_
 refine y7 1 2 5 hf ?_
 intro a7 hf sS
 refine Zs a8 fun _ a8=>Ze fun _ j8=>Zr [] hf ?_
 refine z8 1 2 5 6 hf ?_
 intro a7 hf sS
 refine Zx j8 (wp_block (wp_loop_ghost (fun gk fr wr=>∃ (i:Nat) (V:Value),gk=256-i/\i<=256/\Fc.Fr 30 fr/\fr.tmps[1]? =some (.int .i64 k)/\fr.tmps[2]? =some (.pointer (some ⟨w.heap.size,0,none⟩))/\fr.tmps[5]? =some V/\fr.tmps[6]? =some (.int .i64 i)/\OB wr W0.heap.size V ((st.j4.filter fun a=>decide (a.byte<i)).map u3.byte)/\Below W0.heap.size W0 wr) (256) ?_ ?_))
 . (
 obtain ⟨s1,s2,s5,s6⟩:=sS
 exact ⟨0,_,rfl,oM,hf,s1,s2,s5,s6,by rw [List.filter_eq_nil_iff.2 (fun a _=>sP)];exact OB.T7 _ _,Below.refl _ _⟩)
 . (
 clear hf sS
 rintro gk fr wr ⟨i,V,dA,hi,hf,s1,s2,s5,s6,how,hb⟩
 have HK:=H9 dA;clear dA
 have e0:=cL hb c0;have e1:=cL hb c1
 refine Ze fun _ j8=>Ze fun _ l8=>Zr [10] hf ?_
 refine D2 1 2 5 6 11 hf ?_
 clear hf s1 s2 s5 s6;intro a7 hf sS
 refine Zx l8 (Fc.l0 sS.2.2.2.2 (fun hq=> ?_) (fun hq=> ?_))
 . (
 have Ln:i<256:=qT
 clear hq
 have A8:=tL i _ _ Qz.out
 have L4:=H9 A8;clear A8
 obtain ⟨xs,mC⟩:∃ x,(st.j4.filter fun a=>decide (a.byte<i)).map u3.byte=x:=⟨_,rfl⟩
 have Ss:xs.length<=st.j4.length:=by rw [<- mC,List.length_map];exact List.length_filter_le _ _
 rw [mC] at how L4
 clear mC
 obtain ⟨Av,cv,hV,iU⟩:=y8 how
 subst hV
 refine wp_skip (Zs j8 fun _ j8=>wp_block (Ze fun _ l8=>rg ?_))
 have bB:=hf.B9 15 16 17 18 19 14 20 21 22
 iterate 3 refine Zy ?_
 refine fp fun K Z=> ?_
 go_simp
 try rw [Fc.wrap_u8 oM oM]
 apply Z.out;clear Z K
 refine Zc (JJ wr _ init ss (R9.later hb) k st hk jQ oM i) ?_;rintro e w5 ⟨rfl,F3⟩
 replace how:=how.Fy F3
 generalize iA:st.j4.find? (G8 i k)=fo
 rw [iA] at L4
 obtain ⟨to9,w8m,is9,z5k,z5j⟩:=GG fo
 rw [z5k]
 replace hb:=hb.trans (F3.mono hb.size)
 clear F3 e0 e1 z5k iA
 refine Zv ?_
 iterate 7 refine Zy ?_
 refine Fc.nil (D2 1 2 5 6 9 hf ?_)
 intro a7 hf sS
 refine Zs l8 fun _ l8=>Zr [] hf ?_
 refine D2 1 2 5 6 23 hf ?_
 intro a7 hf sS
 refine Zx l8 (Fc.l0 sS.2.2.2.2 (fun C5=> ?_) (fun C5=> ?_))
 . (
 have my:=H9 (z5j.trans C5);clear C5
 refine rg ?_
 have bB:=hf.B5 24 25 26 27 28
 iterate 2 refine Zy ?_
 refine fp fun K Z=> ?_
 go_simp
 try rw [Fc.wrap_u8 oM oM]
 apply Z.out;clear Z K
 refine Zy ?_
 obtain ⟨s1,s2,s5,s6,Q3⟩:=sS
 clear bB
 refine Fc.nL (n:=30) (by simp only [Fc.G,hf.size]) hf.defers (fun a7 y5 hT=> ?_)
 have J8:=Fc.h6 hT 1 2 5 6 24 27
 simp (decide:=true) only [Fc.G,hf.size,reduceIte,s1,s2,s5,s6] at J8
 replace hf:=y5;clear hT y5 s1 s2 s5 s6 Q3
 obtain ⟨s1,s2,s5,s6,dL,S0⟩:=J8
 have bB:=hf.b 28
 refine ⟨?_⟩
 refine wpList_plain rfl fun K5 U6=> ?_
 refine J6 _ _ 31 rfl 5 _ 1 1 Tryz.underlying31 cD rfl dC dC W0.heap.size (.slice Av xs.length cv) xs.length _ (Fc.l5 dL) (how.alloc _) w5.heap.size [.int .u8 i] (Fc.l5 S0) rfl (E8 w5 _ _) (by intro u hu;simp at hu;subst hu;rfl) oM (by have:=hb.size;simp;omega) (fun v7 w7 YW mS Jy=>U6 _ _ ?_)
 refine Fc.L.out ?_
 refine Zy ?_
 refine Fc.nil (z8 1 2 5 6 hf ?_)
 clear hf s1 s2 s5 s6 dL S0 bB;intro a7 hf sS
 have B1:=(hb.alloc hb.size _).grown mS (Nat.le_trans hb.size sP) (fun kk aB=>(how.lt kk aB).1)
 have H8:OB w7 W0.heap.size v7 (xs++[i]):=by unfold OB;rw [M1,List.length_append];exact YW
 refine Fc.j9 (Zx j8 (Zr [12,13] hf ?_))
 refine z8 1 2 5 6 hf ?_
 intro a7 hf sS
 refine Fc.j7 ?_
 obtain ⟨s1,s2,s5,s6⟩:=sS
 exact ⟨_,by have:=HK.out;omega,i+1,v7,rfl,oM,hf,s1,s2,s5,by rw [s6];rfl,by have h:=L4.out;rw [if_pos my.out] at h;rw [h];exact H8,B1⟩)
 . (
 have my:=H9 (z5j.trans C5);clear C5
 refine wp_skip (Fc.j9 (Zx j8 (Zr [12,13] hf ?_)))
 refine z8 1 2 5 6 hf ?_
 intro a7 hf sS
 refine Fc.j7 ?_
 obtain ⟨s1,s2,s5,s6⟩:=sS
 exact ⟨_,by have:=HK.out;omega,i+1,_,rfl,oM,hf,s1,s2,s5,by rw [s6];rfl,by have h:=L4.out;rw [if_neg (by rw [my.out];decide),List.append_nil] at h;rw [h];exact how,hb⟩))
 . (
 have C3:i=256:=qF
 rw [C3,List.filter_eq_self.2 (fun a ha=>decide_eq_true (Mj a ha))] at how
 clear hq C3
 refine Zo ?_
 refine Zs a8 fun _ a8=>Zr [29] hf ?_
 refine p5 4 hf ?_
 intro a7 hf s4
 refine Zx a8 (k8 ?_)
 exact Fc.o6 rfl hf s4 ⟨_,rfl,K7 how o7.size,o7.trans (hb.mono o7.size)⟩))
theorem z5i {a b:Bool} (h:(a !=b)=true):(a==b)=false:=by cases a<;>cases b<;>first | rfl | cases h
theorem SG {a b:Bool} (h:(a !=b)=false):(a==b)=true:=by cases a<;>cases b<;>first | rfl | cases h
theorem WW {p q:u3} {w1:World}:(if (p.byte:Int)=(q.byte:Int) then if (p.out:Int)=(q.out:Int) then if p.to=q.to then (Result.ok (Next.value (Value.bool false)) w1:Result Next) else .ok (.value (.bool true)) w1 else .ok (.value (.bool true)) w1 else .ok (.value (.bool true)) w1)= .ok (.value (.bool (decide (p≠q)))) w1:=by
 cases p with | mk a b c=>cases q with | mk a' b' c' =>
 by_cases h1:a=a'
 ·by_cases h2:b=b'
  ·by_cases h3:c=c'
   ·subst h1;subst h2;subst h3;simp
   ·simp [h1,h2,h3]
  ·simp [h1,h2];intro h;omega
 ·simp [h1];intro h;omega
theorem gT {w W:World} {x y z x' y' z':Value} {t t':TypeId} (h:(w.alloc (.cells #[x,y,z] t)).alloc (.cells #[x',y',z'] t')=W):Below w.heap.size w W/\W.cell? ⟨w.heap.size,0,none⟩=some x/\W.cell? ⟨w.heap.size,1,none⟩=some y/\W.cell? ⟨w.heap.size,2,none⟩=some z /\
  W.cell? ⟨w.heap.size+1,0,none⟩=some x'/\W.cell? ⟨w.heap.size+1,1,none⟩=some y'/\W.cell? ⟨w.heap.size+1,2,none⟩=some z':=by
 obtain ⟨W0,p8⟩:∃ W0,w.alloc (.cells #[x,y,z] t)=W0:=⟨_,rfl⟩
 rw [p8] at h
 obtain ⟨h1,h2,h3,h4,_,h5⟩:=E7 p8
 obtain ⟨k1,k2,k3,k4,_,k5⟩:=E7 h
 rw [h5] at k2 k3 k4
 exact ⟨h1.trans (k1.mono h1.size),cL k1 h2,cL k1 h3,cL k1 h4,k2,k3,k4⟩
theorem Lw (w:World) (a b:State) (va vb:Value) {Ba Bb:Nat->Prop} (ha:RA w Ba va a.j4) (hb:RA w Bb vb b.j4) (hlen:a.j4.length<=4611686018427387904) (oW:b.j4.length<=4611686018427387904) (h1:(a.final !=b.final)=true):E2 w 122 #[bW va a,bW vb b] (.bool false):=by
 refine Z6 45 Tryz.func122 fun fr hf s0 s1=> ?_
 simp only [bW] at s0 s1
 have EL:=ha;have o7:=hb
 obtain ⟨Aa,ca,rfl,aa⟩:=ha.form
 obtain ⟨Ab,cb,rfl,ti⟩:=hb.form
 clear ha hb
 have q1:(a.final==b.final)=false:=z5i h1
 refine Ze fun _ a8=>Zr [] hf ?_
 refine y4 2 3 hf ?_
 clear hf s0 s1;intro a7 hf sS
 generalize P2:(w.alloc (.cells #[.slice Aa a.j4.length ca,.bool a.final,.int .u64 a.out] 46)).alloc (.cells #[.slice Ab b.j4.length cb,.bool b.final,.int .u64 b.out] 46)=W1
 obtain ⟨iS,x0,x1,x2,y0,y1,y2⟩:=gT P2
 obtain ⟨s2,s3⟩:=sS
 try simp only [World.size_alloc] at s3
 clear P2
 have zc:=EL.later iS;have p6:=o7.later iS
 refine Zs a8 fun _ a8=>Ze fun _ j8=> ?_
 have qs:=q1
 refine Zr [6,7,8,9,10,11,12,13,14,15,16,17,18,19,20,21,22,23,24,25] hf ?_
 refine y7 2 3 26 hf ?_
 clear hf s2 s3 qs;intro a7 hf sS
 refine Zx j8 (Fc.l7 sS.2.2 ?_)
 refine Ze fun _ j8=>Zr [] hf ?_
 refine p5 4 hf ?_
 intro a7 hf s4
 refine Zx j8 (k8 ?_)
 exact Fc.o6 rfl hf s4 ⟨rfl,iS⟩
theorem Lx (w:World) (a b:State) (va vb:Value) {Ba Bb:Nat->Prop} (ha:RA w Ba va a.j4) (hb:RA w Bb vb b.j4) (hlen:a.j4.length<=4611686018427387904) (oW:b.j4.length<=4611686018427387904) (h1:(a.final !=b.final)=false) (h2:((a.out:Int) !=(b.out:Int))=true):E2 w 122 #[bW va a,bW vb b] (.bool false):=by
 refine Z6 45 Tryz.func122 fun fr hf s0 s1=> ?_
 simp only [bW] at s0 s1
 have EL:=ha;have o7:=hb
 obtain ⟨Aa,ca,rfl,aa⟩:=ha.form
 obtain ⟨Ab,cb,rfl,ti⟩:=hb.form
 clear ha hb
 have q1:(a.final==b.final)=true:=SG h1
 have q2:((a.out:Int) !=(b.out:Int))=true:=h2
 refine Ze fun _ a8=>Zr [] hf ?_
 refine y4 2 3 hf ?_
 clear hf s0 s1;intro a7 hf sS
 generalize P2:(w.alloc (.cells #[.slice Aa a.j4.length ca,.bool a.final,.int .u64 a.out] 46)).alloc (.cells #[.slice Ab b.j4.length cb,.bool b.final,.int .u64 b.out] 46)=W1
 obtain ⟨iS,x0,x1,x2,y0,y1,y2⟩:=gT P2
 obtain ⟨s2,s3⟩:=sS
 try simp only [World.size_alloc] at s3
 clear P2
 have zc:=EL.later iS;have p6:=o7.later iS
 refine Zs a8 fun _ a8=>Ze fun _ j8=> ?_
 have qs:=And.intro q1 q2
 refine Zr [6,7,8,9,10,11,12,13,14,15,16,17,18,19,20,21,22,23,24,25] hf ?_
 refine y7 2 3 26 hf ?_
 clear hf s2 s3 qs;intro a7 hf sS
 refine Zx j8 (Fc.l7 sS.2.2 ?_)
 refine Ze fun _ j8=>Zr [] hf ?_
 refine p5 4 hf ?_
 intro a7 hf s4
 refine Zx j8 (k8 ?_)
 exact Fc.o6 rfl hf s4 ⟨rfl,iS⟩
theorem Ly (w:World) (a b:State) (va vb:Value) {Ba Bb:Nat->Prop} (ha:RA w Ba va a.j4) (hb:RA w Bb vb b.j4) (hlen:a.j4.length<=4611686018427387904) (oW:b.j4.length<=4611686018427387904) (h1:(a.final !=b.final)=false) (h2:((a.out:Int) !=(b.out:Int))=false) (h3:((a.j4.length:Int) !=(b.j4.length:Int))=true):E2 w 122 #[bW va a,bW vb b] (.bool false):=by
 refine Z6 45 Tryz.func122 fun fr hf s0 s1=> ?_
 simp only [bW] at s0 s1
 have EL:=ha;have o7:=hb
 obtain ⟨Aa,ca,rfl,aa⟩:=ha.form
 obtain ⟨Ab,cb,rfl,ti⟩:=hb.form
 clear ha hb
 have q1:(a.final==b.final)=true:=SG h1
 have q2:((a.out:Int) !=(b.out:Int))=false:=h2
 have q3:((a.j4.length:Int) !=(b.j4.length:Int))=true:=h3
 refine Ze fun _ a8=>Zr [] hf ?_
 refine y4 2 3 hf ?_
 clear hf s0 s1;intro a7 hf sS
 generalize P2:(w.alloc (.cells #[.slice Aa a.j4.length ca,.bool a.final,.int .u64 a.out] 46)).alloc (.cells #[.slice Ab b.j4.length cb,.bool b.final,.int .u64 b.out] 46)=W1
 obtain ⟨iS,x0,x1,x2,y0,y1,y2⟩:=gT P2
 obtain ⟨s2,s3⟩:=sS
 try simp only [World.size_alloc] at s3
 clear P2
 have zc:=EL.later iS;have p6:=o7.later iS
 refine Zs a8 fun _ a8=>Ze fun _ j8=> ?_
 have qs:=And.intro q1 (And.intro q2 q3)
 refine Zr [6,7,8,9,10,11,12,13,14,15,16,17,18,19,20,21,22,23,24,25] hf ?_
 refine y7 2 3 26 hf ?_
 clear hf s2 s3 qs;intro a7 hf sS
 refine Zx j8 (Fc.l7 sS.2.2 ?_)
 refine Ze fun _ j8=>Zr [] hf ?_
 refine p5 4 hf ?_
 intro a7 hf s4
 refine Zx j8 (k8 ?_)
 exact Fc.o6 rfl hf s4 ⟨rfl,iS⟩
theorem Lz (w:World) (a b:State) (va vb:Value) {Ba Bb:Nat->Prop} (ha:RA w Ba va a.j4) (hb:RA w Bb vb b.j4) (hlen:a.j4.length<=4611686018427387904) (oW:b.j4.length<=4611686018427387904) (h1:(a.final !=b.final)=false) (h2:((a.out:Int) !=(b.out:Int))=false) (h3:((a.j4.length:Int) !=(b.j4.length:Int))=false):E2 w 122 #[bW va a,bW vb b] (.bool (decide (a.j4=b.j4))):=by
 refine Z6 45 Tryz.func122 fun fr hf s0 s1=> ?_
 simp only [bW] at s0 s1
 have EL:=ha;have o7:=hb
 obtain ⟨Aa,ca,rfl,aa⟩:=ha.form
 obtain ⟨Ab,cb,rfl,ti⟩:=hb.form
 clear ha hb
 have q1:(a.final==b.final)=true:=SG h1
 have q2:((a.out:Int) !=(b.out:Int))=false:=h2
 have q3:((a.j4.length:Int) !=(b.j4.length:Int))=false:=h3
 refine Ze fun _ a8=>Zr [] hf ?_
 refine y4 2 3 hf ?_
 clear hf s0 s1;intro a7 hf sS
 generalize P2:(w.alloc (.cells #[.slice Aa a.j4.length ca,.bool a.final,.int .u64 a.out] 46)).alloc (.cells #[.slice Ab b.j4.length cb,.bool b.final,.int .u64 b.out] 46)=W1
 obtain ⟨iS,x0,x1,x2,y0,y1,y2⟩:=gT P2
 obtain ⟨s2,s3⟩:=sS
 try simp only [World.size_alloc] at s3
 clear P2
 have zc:=EL.later iS;have p6:=o7.later iS
 refine Zs a8 fun _ a8=>Ze fun _ j8=> ?_
 have qs:=And.intro q1 (And.intro q2 q3)
 refine Zr [6,7,8,9,10,11,12,13,14,15,16,17,18,19,20,21,22,23,24,25] hf ?_
 refine y7 2 3 26 hf ?_
 clear hf s2 s3 qs;intro a7 hf sS
 refine Zx j8 (Fc.k9 sS.2.2 ?_)
 have hl:a.j4.length=b.j4.length:=by have:=bne_eq_false_iff_eq.1 h3;omega
 have HL:=H9 hl;clear hl
 clear h1 h2 h3 q1 q2 q3 x1 x2 y1 y2 EL o7
 refine wp_skip (Zs a8 fun _ a8=>Ze fun _ j8=>Zr [] hf ?_)
 refine y7 2 3 5 hf ?_
 intro a7 hf sS
 refine Zx j8 (wp_block (wp_loop_ghost (fun gk fr wr=>∃ (i:Nat),gk=a.j4.length-i/\i<=a.j4.length/\Fc.Fr 45 fr/\fr.tmps[2]? =some (.pointer (some ⟨w.heap.size,0,none⟩))/\fr.tmps[3]? =some (.pointer (some ⟨w.heap.size+1,0,none⟩))/\fr.tmps[5]? =some (.int .i64 i)/\a.j4.take i=b.j4.take i/\Below W1.heap.size W1 wr) (a.j4.length) ?_ ?_))
 . (
 obtain ⟨s2,s3,s5⟩:=sS
 exact ⟨0,rfl,Nat.zero_le _,hf,s2,s3,s5,rfl,Below.refl _ _⟩)
 . (
 clear hf sS
 rintro gk fr wr ⟨i,hk,hi,hf,s2,s3,s5,nr,hb⟩
 have HK:=H9 hk;have HT:=H9 nr;clear hk nr
 have x0r:=cL hb x0;have y0r:=cL hb y0
 refine Ze fun _ j8=>Ze fun _ l8=>Zr [27,28,29,30] hf ?_
 refine z8 2 3 5 31 hf ?_
 clear hf s2 s3 s5;intro a7 hf sS
 refine Zx l8 (Fc.l0 sS.2.2.2 (fun hq=> ?_) (fun hq=> ?_))
 . (
 have o9:i<a.j4.length:=qT
 have z0o:i<b.j4.length:=by have:=HL.out;omega
 have HQ:=H9 hq;clear hq
 obtain ⟨p,hp⟩:∃ p,a.j4[i]? =some p:=⟨_,F8 o9⟩
 obtain ⟨q,SZ⟩:∃ q,b.j4[i]? =some q:=⟨_,F8 (by have:=HL.out;omega)⟩
 obtain ⟨g1,o1,rfl,_,d0,d1,d2⟩:=(zc.later hb).at' hp
 obtain ⟨g2,o2,rfl,_,e0,e1,e2⟩:=(p6.later hb).at' SZ
 have HP:=H9 hp;have HB:=H9 SZ;clear hp SZ
 refine wp_skip (Zs j8 fun _ j8=>wp_block (Ze fun _ l8=> ?_))
 obtain ⟨s2,s3,s5,Mz⟩:=sS
 refine Sb.tb 45 fun a6=> ?_
 have lf:=H9 fun (w9:World) (h9:Below _ _ w9)=>ad (cL h9 x0r) (ad (cL h9 y0r) (ad (cL h9 d0) (ad (cL h9 d1) (ad (cL h9 d2) (ad (cL h9 e0) (ad (cL h9 e1) (cL h9 e2)))))))
 refine Sb.T 0 hf a6 ?_ (hF:=fun _ _ h d=>Sb.O h s2)
 refine Sb.T 1 hf a6 ?_ (hF:=fun _ _ h d=>lf.out _ h.ext)
 refine Sb.mO 2 s5 hf a6 ?_
 refine Sb.T 3 hf a6 ?_
 refine Sb.T 4 hf a6 ?_ (hF:=fun _ _ h d=>lf.out _ h.ext)
 refine Sb.T 5 hf a6 ?_ (hF:=fun _ _ h d=>Sb.O h s3)
 refine Sb.T 6 hf a6 ?_ (hF:=fun _ _ h d=>lf.out _ h.ext)
 refine Sb.mO 7 s5 hf a6 ?_
 refine Sb.T 8 hf a6 ?_
 refine Sb.T 9 hf a6 ?_ (hF:=fun _ _ h d=>lf.out _ h.ext)
 apply Sb.tq 10 _ hf a6
 . (
 intro a7 w1 hh hd hk K Z
 have Dd:=Sb.v 4 5 hd hk []
 have Mb:=Sb.v 9 0 hd hk []
 clear hd
 go_simp
 rw [WW]
 rw [Oper.upon_value]
 exact Sb.k Z)
 refine Sb.E hf a6 (fun _ _ h g=>ad (Sb.O h s2) (ad (Sb.O h s3) (ad (Sb.O h s5) (Sb.f 10 0 g)))) ?_
 clear hf a6 s2 s3 s5 Mz;intro a7 w1 hf hx sS
 have L1:=lf.out _ hx;(try clear x0r y0r d0 d1 d2 e0 e1 e2);clear lf;obtain ⟨x0r,y0r,d0,d1,d2,e0,e1,e2⟩:=L1
 refine Zx l8 (Fc.l0 sS.2.2.2 (fun C5=> ?_) (fun C5=> ?_))
 . (
 have xR:=H9 C5;clear C5
 have F0:a.j4≠b.j4:=fun e=>of_decide_eq_true xR.out (Option.some.inj (by rw [<- HP.out, <- HB.out,e]))
 have HN:=H9 F0;clear F0
 refine Ze fun _ l8=>Zr [] hf ?_
 refine p5 4 hf ?_
 intro a7 hf s4
 refine Zx l8 (k8 ?_)
 exact Fc.o6 rfl hf s4 ⟨by rw [decide_eq_false HN.out],iS.trans ((hb.trans (hx.mono hb.size)).mono iS.size)⟩)
 . (
 have xR:=H9 C5;clear C5
 have vY:p=q:=by have:=of_decide_eq_false xR.out;exact Classical.not_not.1 this
 have nq:a.j4.take (i+1)=b.j4.take (i+1):=by rw [List.take_add_one,List.take_add_one,HT.out,HP.out,HB.out,vY]
 have HTS:=H9 nq;clear nq vY
 refine wp_skip (Fc.j9 (Zx j8 (Zr [32,33] hf ?_)))
 refine y7 2 3 5 hf ?_
 intro a7 hf sS
 refine Fc.j7 ?_
 obtain ⟨s2,s3,s5⟩:=sS
 exact ⟨_,by have:=HK.out;omega,i+1,rfl,oM,hf,s2,s3,by rw [s5];rfl,HTS.out,hb.trans (hx.mono hb.size)⟩))
 . (
 have C3:i=a.j4.length:=qF
 have nM:=H9 C3;clear C3 hq
 refine Zo ?_
 refine Zs a8 fun _ a8=>Zr [] hf ?_
 refine p5 4 hf ?_
 intro a7 hf s4
 refine Zx a8 (k8 ?_)
 refine Fc.o6 rfl hf s4 ⟨?_,iS.trans (hb.mono iS.size)⟩
 have h5:=HT.out
 rw [nM.out] at h5
 rw [decide_eq_true (by rwa [List.take_length,HL.out,List.take_length] at h5)]))
theorem alike (w:World) (a b:State) (va vb:Value) {Ba Bb:Nat->Prop} (ha:RA w Ba va a.j4) (hb:RA w Bb vb b.j4) (hlen:a.j4.length<=4611686018427387904) (oW:b.j4.length<=4611686018427387904):E2 w 122 #[bW va a,bW vb b] (.bool (decide (a=b))):=by
 have hd:∀ x,x=decide (a=b)->∀ {e:Ending} {w1:World},e= .returned (.bool x)/\Below w.heap.size w w1->e= .returned (.bool (decide (a=b)))/\Below w.heap.size w w1:=fun x hx e w1 h=>by rw [<- hx];exact h
 cases h1:(a.final !=b.final) with
 | true=>exact (Lw w a b va vb ha hb hlen oW h1).mono fun e w1=>hd _ (decide_eq_false (fun h=>by subst h;simp at h1)).symm
 | false =>
  cases h2:((a.out:Int) !=(b.out:Int)) with
  | true=>exact (Lx w a b va vb ha hb hlen oW h1 h2).mono fun e w1=>hd _ (decide_eq_false (fun h=>by subst h;simp at h2)).symm
  | false =>
   cases h3:((a.j4.length:Int) !=(b.j4.length:Int)) with
   | true=>exact (Ly w a b va vb ha hb hlen oW h1 h2 h3).mono fun e w1=>hd _ (decide_eq_false (fun h=>by subst h;simp at h3)).symm
   | false =>
    refine (Lz w a b va vb ha hb hlen oW h1 h2 h3).mono fun e w1=>hd _ ?_
    have e1:=bne_eq_false_iff_eq.1 h1
    have e2:a.out=b.out:=by have:=bne_eq_false_iff_eq.1 h2;omega
    cases a;cases b
    simp at e1 e2 |-
    subst e1;subst e2
    simp
def lastB (l:List u3):Nat->Int
 | 0=> -1
 | k+1=>match l[k]? with | some a=>(a.byte:Int) | none=> -1
theorem tM {l:List u3} {k:Nat} {a:u3} (h:l[k]? =some a):lastB l (k+1)=(a.byte:Int):=by simp only [lastB,h]
theorem tN {l:List u3} {k:Nat} {a:u3} (h:l[k-1]? =some a) (h0:0<k):lastB l k=(a.byte:Int):=by
 obtain ⟨j,rfl⟩:∃ j,k=j+1:=⟨k-1,oM⟩
 exact tM h
theorem GH (t i b l:Int) (k:Nat):t<0\/(0<=t/\i<=t)\/(0<=t/\t<i/\k=0)\/(0<=t/\t<i/\0<k/\b<=l)\/(0<=t/\t<i/\0<k/\l<b):=oM
theorem Ju (w:World) (sv:Value) (init:Nat) (ss:List State) (o8:RS w sv ss) (a6:∀ s∈ss,L3 s) (hlen:ss.length<=1000000):E2 w 120 #[.agg #[sv,.int .u64 init]] (.bool (D4 ss)):=by
 refine L7 74 Tryz.func120 fun fr hf s0=> ?_
 obtain ⟨A,cc,rfl,U0⟩:=o8.form
 have HO:=H9 a6;clear a6
 refine Ze fun _ a8=>Zr [] hf ?_
 refine p5 1 hf ?_
 clear hf s0;intro a7 hf s1
 generalize p8:w.alloc (.cells #[.slice A ss.length cc,.int .u64 init] 38)=W0
 obtain ⟨o7,c0,c1, -, -⟩:=P7 p8
 clear p8
 have R9:=o8.later o7
 clear o8
 refine Zs a8 fun _ a8=>Ze fun _ j8=>Zr [] hf ?_
 refine y4 1 3 hf ?_
 clear hf s1;intro a7 hf sS
 refine Zx j8 (wp_block (wp_loop_ghost (fun gk fr wr=>∃ (i:Nat),gk=ss.length-i/\i<=ss.length/\Fc.Fr 74 fr/\fr.tmps[1]? =some (.pointer (some ⟨w.heap.size,0,none⟩))/\fr.tmps[3]? =some (.int .i64 i)/\formedL 0 ss=formedL i (ss.drop i)/\Below W0.heap.size W0 wr) (ss.length) ?_ ?_))
 . (
 exact ⟨0,rfl,Nat.zero_le _,hf,sS.1,sS.2,rfl,Below.refl _ _⟩)
 . (
 clear hf sS
 rintro gk fr wr ⟨i,hk,hi,hf,s1,s3,D6,hb⟩
 have HK:=H9 hk;have HM:=H9 D6;clear hk D6
 have e0:=cL hb c0
 refine Ze fun _ j8=>Ze fun _ l8=>Zr [6,7,8,9] hf ?_
 refine y7 1 3 10 hf ?_
 clear hf s1 s3;intro a7 hf sS
 refine Zx l8 (Fc.l0 sS.2.2 (fun hq=> ?_) (fun hq=> ?_))
 . (
 have o9:i<ss.length:=qT
 have HQ:=H9 hq;clear hq
 obtain ⟨s,N3⟩:∃ s,ss[i]? =some s:=⟨_,F8 o9⟩
 obtain ⟨b,off,av,rfl,C7⟩:=(R9.later hb).at_ N3
 have d0:=C7.c0;have d1:=C7.c1;have d2:=C7.c2
 have S7:=C7.j4
 obtain ⟨A2,c2,rfl,_⟩:=C7.j4.form
 have cY:=HO.out s (T9 N3)
 have A8:=kE N3
 have HS:=H9 N3;have L4:=H9 A8;clear N3 A8 C7
 have Z7:=cY.2.1
 refine wp_skip (Zs j8 fun _ j8=>wp_block (Ze fun _ l8=>Zr [13,14,15,16,17,4] hf ?_))
 refine y7 1 3 4 hf ?_
 intro a7 hf sS
 generalize cS:wr.alloc (.cells #[.slice A2 s.j4.length c2,.bool s.final,.int .u64 s.out] 46)=W5
 obtain ⟨F3,x0,x1,x2, -, -⟩:=E7 cS
 clear cS
 clear d0 d1 d2
 have mH:=S7.later F3
 clear S7
 replace e0:=cL F3 e0
 have K8:=o7.trans ((hb.trans (F3.mono hb.size)).mono o7.size)
 refine Zx l8 (Fc.G1 (fun fr wq=>Fc.Fr 74 fr/\fr.tmps[1]? =some (.pointer (some ⟨w.heap.size,0,none⟩))/\fr.tmps[3]? =some (.int .i64 i)/\fr.tmps[4]? =some (.pointer (some ⟨wr.heap.size,0,none⟩))/\wq=W5/\(s.final||decide (s.out=0))=true) ?_ ?_)
 . (
 rcases p7:s.final with _ | _
 . (
 have M8:=H9 p7;clear p7
 have q1:=M8.out
 refine Ze fun _ l8=> ?_
 have qs:=q1
 refine Zr [18,19,20,21,22,23,24] hf ?_
 refine z8 1 3 4 25 hf ?_
 clear hf sS qs;intro a7 hf sS
 refine Zx l8 (Fc.l0 sS.2.2.2 (fun AY=> ?_) (fun AY=> ?_))
 . (
 have AZ:s.out≠0:=by simpa using AY
 have Mm:=H9 AZ;clear AZ AY
 have D5:formedL 0 ss=false:=by rw [HM.out,L4.out,M8.out,decide_eq_false Mm.out];rfl
 have J0:=H9 D5;clear D5
 have N0:=K8
 refine Ze fun _ l8=>Zr [] hf ?_
 refine p5 2 hf ?_
 intro a7 hf s2
 refine Zx l8 (k8 ?_)
 exact Fc.o6 rfl hf s2 ⟨by rw [D4,J0.out];rfl,N0⟩)
 . (
 have AZ:s.out=0:=by simpa using AY
 have Mm:=H9 AZ;clear AZ AY
 have iA:(s.final||decide (s.out=0))=true:=by rw [M8.out,decide_eq_true Mm.out];rfl
 have uC:=H9 iA;clear iA
 refine wp_skip (Fc.j7 ?_)
 obtain ⟨s1,s3,s4,Z9⟩:=sS
 exact ⟨hf,s1,s3,s4,rfl,(by have h9:=uC.out;rw [M8.out] at h9;exact h9)⟩))
 . (
 have M8:=H9 p7;clear p7
 have q1:=M8.out
 refine Ze fun _ l8=> ?_
 have qs:=q1
 refine Zr [18,19,20,21,22,23,24] hf ?_
 refine z8 1 3 4 25 hf ?_
 clear hf sS qs;intro a7 hf sS
 refine Zx l8 ?_
 have iA:(s.final||decide (s.out=0))=true:=by rw [M8.out];rfl
 have uC:=H9 iA;clear iA
 refine Fc.k9 sS.2.2.2 ?_
 refine wp_skip (Fc.j7 ?_)
 obtain ⟨s1,s3,s4,Z9⟩:=sS
 exact ⟨hf,s1,s3,s4,rfl,(by have h9:=uC.out;rw [M8.out] at h9;exact h9)⟩))
 . (
 clear hf sS
 rintro fr wq ⟨hf,s1,s3,s4,hw,iA⟩
 subst wq
 have uC:=H9 iA;clear iA
 refine Ze fun _ l8=>Zr [] hf ?_
 refine z8 1 3 4 5 hf ?_
 clear hf s1 s3 s4;intro a7 hf sS
 refine Zx l8 (wp_block (wp_loop_ghost (fun lR fr pA=>∃ (k:Nat),lR=s.j4.length-k/\k<=s.j4.length/\Fc.Fr 74 fr/\fr.tmps[1]? =some (.pointer (some ⟨w.heap.size,0,none⟩))/\fr.tmps[3]? =some (.int .i64 i)/\fr.tmps[4]? =some (.pointer (some ⟨wr.heap.size,0,none⟩))/\fr.tmps[5]? =some (.int .i64 k)/\okArcs i (-1) s.j4=okArcs i (lastB s.j4 k) (s.j4.drop k)/\Below W5.heap.size W5 pA) (s.j4.length) ?_ ?_))
 . (
 obtain ⟨s1,s3,s4,s5⟩:=sS
 exact ⟨0,rfl,Nat.zero_le _,hf,s1,s3,s4,s5,rfl,Below.refl _ _⟩)
 . (
 clear hf sS
 rintro lR fr pA ⟨k,M9,aN,hf,s1,s3,s4,s5,S1,C4⟩
 have xQ:=H9 M9;have Ac:=H9 S1;clear M9 S1
 replace x0:=cL C4 x0
 refine Ze fun _ l8=>Ze fun _ F5=>Zr [26,27,28,29] hf ?_
 refine D2 1 3 4 5 30 hf ?_
 clear hf s1 s3 s4 s5;intro a7 hf sS
 refine Zx F5 (Fc.l0 sS.2.2.2.2 (fun C5=> ?_) (fun C5=> ?_))
 . (
 have bC:k<s.j4.length:=by have h9:=of_decide_eq_true C5;omega
 have xR:=H9 C5;clear C5
 obtain ⟨a,aU⟩:∃ a,s.j4[k]? =some a:=⟨_,F8 bC⟩
 obtain ⟨b3,uD,rfl,X3,y0,y1,y2⟩:=(mH.later C4).at' aU
 have uE:=cY.2.2 a (T9 aU)
 have C7:=nS (i:=i) (last:=lastB s.j4 k) aU
 have SP:=uE.1
 have KD:=tM aU
 have HLN:=H9 KD;clear KD
 rcases GH a.to (i:Int) (a.byte:Int) (lastB s.j4 k) k with hc | hc | hc | hc | hc
 . (
 have q2:decide (a.to<0)=true:=decide_eq_true hc
 have HC:=H9 hc;have TK:=H9 aU;have zZ:=H9 C7;clear hc aU C7
 refine wp_skip (Zs l8 fun _ l8=>wp_block (Ze fun _ F5=> ?_))
 obtain ⟨s1,s3,s4,s5,kG⟩:=sS
 refine Sb.tb 74 fun a6=> ?_
 have lf:=H9 fun (w9:World) (h9:Below _ _ w9)=>ad (cL h9 x0) (ad (cL h9 y0) (cL h9 y2))
 refine Sb.T 0 hf a6 ?_ (hF:=fun _ _ h d=>Sb.O h s4)
 refine Sb.T 1 hf a6 ?_ (hF:=fun _ _ h d=>lf.out _ h.ext)
 refine Sb.mO 2 s5 hf a6 ?_
 refine Sb.T 3 hf a6 ?_
 refine Sb.T 4 hf a6 ?_
 refine Sb.T 5 hf a6 ?_ (hF:=fun _ _ h d=>lf.out _ h.ext)
 refine Sb.T 6 hf a6 ?_
 refine Sb.mN 7 6 0 hf a6 [] ?_
 refine Sb.Tk 8 hf a6 ?_
 refine Sb.Tk 9 hf a6 ?_
 refine Sb.Tk 10 hf a6 ?_
 refine Sb.Tk 11 hf a6 ?_
 refine Sb.Tk 12 hf a6 ?_
 refine Sb.Tk 13 hf a6 ?_
 refine Sb.Tk 14 hf a6 ?_
 refine Sb.Tk 15 hf a6 ?_
 refine Sb.T 16 hf a6 ?_
 refine Sb.mN 17 16 0 hf a6 [] ?_
 refine Sb.Tk 18 hf a6 ?_
 refine Sb.Tk 19 hf a6 ?_
 refine Sb.Tk 20 hf a6 ?_
 refine Sb.Tu 21 hf a6 ?_
 refine Sb.Tu 22 hf a6 ?_
 refine Sb.Tu 23 hf a6 ?_
 refine Sb.Tu 24 hf a6 ?_
 refine Sb.Tu 25 hf a6 ?_
 refine Sb.Tu 26 hf a6 ?_
 refine Sb.Tu 27 hf a6 ?_
 refine Sb.Tu 28 hf a6 ?_
 refine Sb.Tu 29 hf a6 ?_
 refine Sb.Tu 30 hf a6 ?_
 refine Sb.Tu 31 hf a6 ?_
 refine Sb.Tu 32 hf a6 ?_
 refine Sb.Tu 33 hf a6 ?_
 refine Sb.Tu 34 hf a6 ?_
 refine Sb.Tk 35 hf a6 ?_
 refine Sb.T 36 hf a6 ?_
 refine Sb.E hf a6 (fun _ _ h g=>ad (Sb.O h s1) (ad (Sb.O h s3) (ad (Sb.O h s4) (ad (Sb.O h s5) (Sb.f 36 0 g))))) ?_
 clear hf a6 s1 s3 s4 s5 kG;intro a7 w1 hf hx sS
 have L1:=lf.out _ hx;(try clear x0 y0 y2);clear lf;obtain ⟨x0,y0,y2⟩:=L1
 refine Zx F5 (Fc.l7 sS.2.2.2.2 ?_)
 replace C4:=C4.trans (hx.mono C4.size)
 have N0:=K8.trans (C4.mono K8.size)
 have D5:formedL 0 ss=false:=by rw [HM.out,L4.out,Ac.out,zZ.out];have:=HC.out;rw [decide_eq_false (show ¬ 0<=a.to by omega)];simp
 have J0:=H9 D5;clear D5
 refine Ze fun _ F5=>Zr [] hf ?_
 refine p5 2 hf ?_
 intro a7 hf s2
 refine Zx F5 (k8 ?_)
 exact Fc.o6 rfl hf s2 ⟨by rw [D4,J0.out];rfl,N0⟩)
 . (
 have q2:decide (a.to<0)=false:=decide_eq_false oM
 have q3:decide ((i:Int)<=a.to)=true:=decide_eq_true hc.2
 have HC:=H9 hc;have TK:=H9 aU;have zZ:=H9 C7;clear hc aU C7
 refine wp_skip (Zs l8 fun _ l8=>wp_block (Ze fun _ F5=> ?_))
 obtain ⟨s1,s3,s4,s5,kG⟩:=sS
 refine Sb.tb 74 fun a6=> ?_
 have lf:=H9 fun (w9:World) (h9:Below _ _ w9)=>ad (cL h9 x0) (ad (cL h9 y0) (cL h9 y2))
 refine Sb.T 0 hf a6 ?_ (hF:=fun _ _ h d=>Sb.O h s4)
 refine Sb.T 1 hf a6 ?_ (hF:=fun _ _ h d=>lf.out _ h.ext)
 refine Sb.mO 2 s5 hf a6 ?_
 refine Sb.T 3 hf a6 ?_
 refine Sb.T 4 hf a6 ?_
 refine Sb.T 5 hf a6 ?_ (hF:=fun _ _ h d=>lf.out _ h.ext)
 refine Sb.T 6 hf a6 ?_
 refine Sb.mN 7 6 0 hf a6 [] ?_
 refine Sb.Tg 8 hf a6 ?_ (hF:=fun _ _ h d=>Sb.O h s4)
 refine Sb.Tg 9 hf a6 ?_ (hF:=fun _ _ h d=>lf.out _ h.ext)
 refine Sb.Tg 10 hf a6 ?_ (hF:=fun _ _ h d=>Sb.O h s5)
 refine Sb.Tg 11 hf a6 ?_
 refine Sb.Tg 12 hf a6 ?_
 refine Sb.Tg 13 hf a6 ?_ (hF:=fun _ _ h d=>lf.out _ h.ext)
 refine Sb.Tg 14 hf a6 ?_ (hF:=fun _ _ h d=>Sb.O h s3)
 refine Sb.Tg 15 hf a6 ?_
 refine Sb.T 16 hf a6 ?_
 refine Sb.mN 17 16 0 hf a6 [] ?_
 refine Sb.Tk 18 hf a6 ?_
 refine Sb.Tk 19 hf a6 ?_
 refine Sb.Tk 20 hf a6 ?_
 refine Sb.Tu 21 hf a6 ?_
 refine Sb.Tu 22 hf a6 ?_
 refine Sb.Tu 23 hf a6 ?_
 refine Sb.Tu 24 hf a6 ?_
 refine Sb.Tu 25 hf a6 ?_
 refine Sb.Tu 26 hf a6 ?_
 refine Sb.Tu 27 hf a6 ?_
 refine Sb.Tu 28 hf a6 ?_
 refine Sb.Tu 29 hf a6 ?_
 refine Sb.Tu 30 hf a6 ?_
 refine Sb.Tu 31 hf a6 ?_
 refine Sb.Tu 32 hf a6 ?_
 refine Sb.Tu 33 hf a6 ?_
 refine Sb.Tu 34 hf a6 ?_
 refine Sb.Tk 35 hf a6 ?_
 refine Sb.T 36 hf a6 ?_
 refine Sb.E hf a6 (fun _ _ h g=>ad (Sb.O h s1) (ad (Sb.O h s3) (ad (Sb.O h s4) (ad (Sb.O h s5) (Sb.f 36 0 g))))) ?_
 clear hf a6 s1 s3 s4 s5 kG;intro a7 w1 hf hx sS
 have L1:=lf.out _ hx;(try clear x0 y0 y2);clear lf;obtain ⟨x0,y0,y2⟩:=L1
 refine Zx F5 (Fc.l7 sS.2.2.2.2 ?_)
 replace C4:=C4.trans (hx.mono C4.size)
 have N0:=K8.trans (C4.mono K8.size)
 have D5:formedL 0 ss=false:=by rw [HM.out,L4.out,Ac.out,zZ.out];have:=HC.out;rw [decide_eq_false (show ¬ a.to<(i:Int) by omega)];simp
 have J0:=H9 D5;clear D5
 refine Ze fun _ F5=>Zr [] hf ?_
 refine p5 2 hf ?_
 intro a7 hf s2
 refine Zx F5 (k8 ?_)
 exact Fc.o6 rfl hf s2 ⟨by rw [D4,J0.out];rfl,N0⟩)
 . (
 have q2:decide (a.to<0)=false:=decide_eq_false oM
 have q3:decide ((i:Int)<=a.to)=false:=decide_eq_false oM
 have q5:decide (0<k)=false:=decide_eq_false oM
 have vX:lastB s.j4 k= -1:=(by have h9:k=0:=(by omega);rw [h9];rfl)
 have dn:=H9 vX;clear vX
 have HC:=H9 hc;have TK:=H9 aU;have zZ:=H9 C7;clear hc aU C7
 refine wp_skip (Zs l8 fun _ l8=>wp_block (Ze fun _ F5=> ?_))
 obtain ⟨s1,s3,s4,s5,kG⟩:=sS
 refine Sb.tb 74 fun a6=> ?_
 have lf:=H9 fun (w9:World) (h9:Below _ _ w9)=>ad (cL h9 x0) (ad (cL h9 y0) (cL h9 y2))
 refine Sb.T 0 hf a6 ?_ (hF:=fun _ _ h d=>Sb.O h s4)
 refine Sb.T 1 hf a6 ?_ (hF:=fun _ _ h d=>lf.out _ h.ext)
 refine Sb.mO 2 s5 hf a6 ?_
 refine Sb.T 3 hf a6 ?_
 refine Sb.T 4 hf a6 ?_
 refine Sb.T 5 hf a6 ?_ (hF:=fun _ _ h d=>lf.out _ h.ext)
 refine Sb.T 6 hf a6 ?_
 refine Sb.mN 7 6 0 hf a6 [] ?_
 refine Sb.Tg 8 hf a6 ?_ (hF:=fun _ _ h d=>Sb.O h s4)
 refine Sb.Tg 9 hf a6 ?_ (hF:=fun _ _ h d=>lf.out _ h.ext)
 refine Sb.Tg 10 hf a6 ?_ (hF:=fun _ _ h d=>Sb.O h s5)
 refine Sb.Tg 11 hf a6 ?_
 refine Sb.Tg 12 hf a6 ?_
 refine Sb.Tg 13 hf a6 ?_ (hF:=fun _ _ h d=>lf.out _ h.ext)
 refine Sb.Tg 14 hf a6 ?_ (hF:=fun _ _ h d=>Sb.O h s3)
 refine Sb.Tg 15 hf a6 ?_
 refine Sb.T 16 hf a6 ?_
 refine Sb.mN 17 16 0 hf a6 [] ?_
 refine Sb.Tg 18 hf a6 ?_ (hF:=fun _ _ h d=>Sb.O h s5)
 refine Sb.Tg 19 hf a6 ?_
 refine Sb.Tg 20 hf a6 ?_
 refine Sb.Tk 21 hf a6 ?_
 refine Sb.Tk 22 hf a6 ?_
 refine Sb.Tk 23 hf a6 ?_
 refine Sb.Tk 24 hf a6 ?_
 refine Sb.Tk 25 hf a6 ?_
 refine Sb.Tk 26 hf a6 ?_
 refine Sb.Tk 27 hf a6 ?_
 refine Sb.Tk 28 hf a6 ?_
 refine Sb.Tk 29 hf a6 ?_
 refine Sb.Tk 30 hf a6 ?_
 refine Sb.Tk 31 hf a6 ?_
 refine Sb.Tk 32 hf a6 ?_
 refine Sb.Tk 33 hf a6 ?_
 refine Sb.Tk 34 hf a6 ?_
 refine Sb.Tg 35 hf a6 ?_
 refine Sb.T 36 hf a6 ?_
 refine Sb.E hf a6 (fun _ _ h g=>ad (Sb.O h s1) (ad (Sb.O h s3) (ad (Sb.O h s4) (ad (Sb.O h s5) (Sb.f 36 0 g))))) ?_
 clear hf a6 s1 s3 s4 s5 kG;intro a7 w1 hf hx sS
 have L1:=lf.out _ hx;(try clear x0 y0 y2);clear lf;obtain ⟨x0,y0,y2⟩:=L1
 refine Zx F5 (Fc.k9 sS.2.2.2.2 ?_)
 replace C4:=C4.trans (hx.mono C4.size)
 have N0:=K8.trans (C4.mono K8.size)
 have qR:okArcs i (-1) s.j4=okArcs i (lastB s.j4 (k+1)) (s.j4.drop (k+1)):=by rw [Ac.out,zZ.out,HLN.out,dn.out];have:=HC.out;rw [decide_eq_true (show 0<=a.to by omega),decide_eq_true (show a.to<(i:Int) by omega),decide_eq_true (show (-1:Int)<(a.byte:Int) by omega)];rfl
 have Dr:=H9 qR;clear qR
 refine wp_skip (Fc.j9 (Zx l8 (Zr [31,32] hf ?_)))
 refine z8 1 3 4 5 hf ?_
 intro a7 hf sS
 refine Fc.j7 ?_
 obtain ⟨s1,s3,s4,s5⟩:=sS
 exact ⟨_,by have:=xQ.out;omega,k+1,rfl,oM,hf,s1,s3,s4,by rw [s5];rfl,Dr.out,C4⟩)
 . (
 have q2:decide (a.to<0)=false:=decide_eq_false oM
 have q3:decide ((i:Int)<=a.to)=false:=decide_eq_false oM
 have q5:decide (0<k)=true:=decide_eq_true oM
 obtain ⟨p,Ca⟩:∃ a,s.j4[k-1]? =some a:=⟨_,F8 oM⟩
 obtain ⟨b4,y2d,SH, -,u0, -, -⟩:=(mH.later C4).at' Ca
 injection SH with SH
 injection SH with SH EN _
 subst SH;subst EN
 have vX:=tN Ca oM
 have Tr:=H9 (show (k:Int)-1=((k-1:Nat):Int) by omega)
 rw [vX] at hc
 have q6:decide (a.byte<=p.byte)=true:=decide_eq_true oM
 have dn:=H9 vX;clear vX Ca
 have HC:=H9 hc;have TK:=H9 aU;have zZ:=H9 C7;clear hc aU C7
 refine wp_skip (Zs l8 fun _ l8=>wp_block (Ze fun _ F5=> ?_))
 obtain ⟨s1,s3,s4,s5,kG⟩:=sS
 refine Sb.tb 74 fun a6=> ?_
 have lf:=H9 fun (w9:World) (h9:Below _ _ w9)=>ad (cL h9 x0) (ad (cL h9 y0) (ad (cL h9 y2) (cL h9 u0)))
 refine Sb.T 0 hf a6 ?_ (hF:=fun _ _ h d=>Sb.O h s4)
 refine Sb.T 1 hf a6 ?_ (hF:=fun _ _ h d=>lf.out _ h.ext)
 refine Sb.mO 2 s5 hf a6 ?_
 refine Sb.T 3 hf a6 ?_
 refine Sb.T 4 hf a6 ?_
 refine Sb.T 5 hf a6 ?_ (hF:=fun _ _ h d=>lf.out _ h.ext)
 refine Sb.T 6 hf a6 ?_
 refine Sb.mN 7 6 0 hf a6 [] ?_
 refine Sb.Tg 8 hf a6 ?_ (hF:=fun _ _ h d=>Sb.O h s4)
 refine Sb.Tg 9 hf a6 ?_ (hF:=fun _ _ h d=>lf.out _ h.ext)
 refine Sb.Tg 10 hf a6 ?_ (hF:=fun _ _ h d=>Sb.O h s5)
 refine Sb.Tg 11 hf a6 ?_
 refine Sb.Tg 12 hf a6 ?_
 refine Sb.Tg 13 hf a6 ?_ (hF:=fun _ _ h d=>lf.out _ h.ext)
 refine Sb.Tg 14 hf a6 ?_ (hF:=fun _ _ h d=>Sb.O h s3)
 refine Sb.Tg 15 hf a6 ?_
 refine Sb.T 16 hf a6 ?_
 refine Sb.mN 17 16 0 hf a6 [] ?_
 refine Sb.Tg 18 hf a6 ?_ (hF:=fun _ _ h d=>Sb.O h s5)
 refine Sb.Tg 19 hf a6 ?_
 refine Sb.Tg 20 hf a6 ?_
 refine Sb.Tg 21 hf a6 ?_ (hF:=fun _ _ h d=>Sb.O h s4)
 refine Sb.Tg 22 hf a6 ?_ (hF:=fun _ _ h d=>lf.out _ h.ext)
 refine Sb.Tg 23 hf a6 ?_ (hF:=fun _ _ h d=>Sb.O h s5)
 refine Sb.Tg 24 hf a6 ?_
 refine Sb.Tg 25 hf a6 ?_
 refine Sb.Tg 26 hf a6 ?_ (hF:=fun _ _ h d=>lf.out _ h.ext)
 refine Sb.Tg 27 hf a6 ?_ (hF:=fun _ _ h d=>Sb.O h s4)
 refine Sb.Tg 28 hf a6 ?_ (hF:=fun _ _ h d=>lf.out _ h.ext)
 refine Sb.Tg 29 hf a6 ?_ (hF:=fun _ _ h d=>Sb.O h s5)
 apply Sb.tr 30 _ hf a6
 . (
 intro a7 w1 hh hd hk K Z
 have Sr:=Sb.v 20 9 hd hk []
 refine Sb.g Sr ?_
 have UR:=Sb.v 29 0 hd hk []
 clear hd
 go_simp
 try simp (disch:=omega) only [Fc.W]
 rw [Tr.out]
 exact Sb.k Z)
 refine Sb.Tg 31 hf a6 ?_
 refine Sb.Tg 32 hf a6 ?_
 refine Sb.Tg 33 hf a6 ?_ (hF:=fun _ _ h d=>lf.out _ h.ext)
 refine Sb.Tg 34 hf a6 ?_
 refine Sb.Tg 35 hf a6 ?_
 refine Sb.T 36 hf a6 ?_
 refine Sb.E hf a6 (fun _ _ h g=>ad (Sb.O h s1) (ad (Sb.O h s3) (ad (Sb.O h s4) (ad (Sb.O h s5) (Sb.f 36 0 g))))) ?_
 clear hf a6 s1 s3 s4 s5 kG;intro a7 w1 hf hx sS
 have L1:=lf.out _ hx;(try clear x0 y0 y2 u0);clear lf;obtain ⟨x0,y0,y2,u0⟩:=L1
 refine Zx F5 (Fc.l7 sS.2.2.2.2 ?_)
 replace C4:=C4.trans (hx.mono C4.size)
 have N0:=K8.trans (C4.mono K8.size)
 have D5:formedL 0 ss=false:=by rw [HM.out,L4.out,Ac.out,zZ.out,dn.out];have:=HC.out;rw [decide_eq_false (show ¬ (p.byte:Int)<(a.byte:Int) by omega)];simp
 have J0:=H9 D5;clear D5
 refine Ze fun _ F5=>Zr [] hf ?_
 refine p5 2 hf ?_
 intro a7 hf s2
 refine Zx F5 (k8 ?_)
 exact Fc.o6 rfl hf s2 ⟨by rw [D4,J0.out];rfl,N0⟩)
 . (
 have q2:decide (a.to<0)=false:=decide_eq_false oM
 have q3:decide ((i:Int)<=a.to)=false:=decide_eq_false oM
 have q5:decide (0<k)=true:=decide_eq_true oM
 obtain ⟨p,Ca⟩:∃ a,s.j4[k-1]? =some a:=⟨_,F8 oM⟩
 obtain ⟨b4,y2d,SH, -,u0, -, -⟩:=(mH.later C4).at' Ca
 injection SH with SH
 injection SH with SH EN _
 subst SH;subst EN
 have vX:=tN Ca oM
 have Tr:=H9 (show (k:Int)-1=((k-1:Nat):Int) by omega)
 rw [vX] at hc
 have q6:decide (a.byte<=p.byte)=false:=decide_eq_false oM
 have dn:=H9 vX;clear vX Ca
 have HC:=H9 hc;have TK:=H9 aU;have zZ:=H9 C7;clear hc aU C7
 refine wp_skip (Zs l8 fun _ l8=>wp_block (Ze fun _ F5=> ?_))
 obtain ⟨s1,s3,s4,s5,kG⟩:=sS
 refine Sb.tb 74 fun a6=> ?_
 have lf:=H9 fun (w9:World) (h9:Below _ _ w9)=>ad (cL h9 x0) (ad (cL h9 y0) (ad (cL h9 y2) (cL h9 u0)))
 refine Sb.T 0 hf a6 ?_ (hF:=fun _ _ h d=>Sb.O h s4)
 refine Sb.T 1 hf a6 ?_ (hF:=fun _ _ h d=>lf.out _ h.ext)
 refine Sb.mO 2 s5 hf a6 ?_
 refine Sb.T 3 hf a6 ?_
 refine Sb.T 4 hf a6 ?_
 refine Sb.T 5 hf a6 ?_ (hF:=fun _ _ h d=>lf.out _ h.ext)
 refine Sb.T 6 hf a6 ?_
 refine Sb.mN 7 6 0 hf a6 [] ?_
 refine Sb.Tg 8 hf a6 ?_ (hF:=fun _ _ h d=>Sb.O h s4)
 refine Sb.Tg 9 hf a6 ?_ (hF:=fun _ _ h d=>lf.out _ h.ext)
 refine Sb.Tg 10 hf a6 ?_ (hF:=fun _ _ h d=>Sb.O h s5)
 refine Sb.Tg 11 hf a6 ?_
 refine Sb.Tg 12 hf a6 ?_
 refine Sb.Tg 13 hf a6 ?_ (hF:=fun _ _ h d=>lf.out _ h.ext)
 refine Sb.Tg 14 hf a6 ?_ (hF:=fun _ _ h d=>Sb.O h s3)
 refine Sb.Tg 15 hf a6 ?_
 refine Sb.T 16 hf a6 ?_
 refine Sb.mN 17 16 0 hf a6 [] ?_
 refine Sb.Tg 18 hf a6 ?_ (hF:=fun _ _ h d=>Sb.O h s5)
 refine Sb.Tg 19 hf a6 ?_
 refine Sb.Tg 20 hf a6 ?_
 refine Sb.Tg 21 hf a6 ?_ (hF:=fun _ _ h d=>Sb.O h s4)
 refine Sb.Tg 22 hf a6 ?_ (hF:=fun _ _ h d=>lf.out _ h.ext)
 refine Sb.Tg 23 hf a6 ?_ (hF:=fun _ _ h d=>Sb.O h s5)
 refine Sb.Tg 24 hf a6 ?_
 refine Sb.Tg 25 hf a6 ?_
 refine Sb.Tg 26 hf a6 ?_ (hF:=fun _ _ h d=>lf.out _ h.ext)
 refine Sb.Tg 27 hf a6 ?_ (hF:=fun _ _ h d=>Sb.O h s4)
 refine Sb.Tg 28 hf a6 ?_ (hF:=fun _ _ h d=>lf.out _ h.ext)
 refine Sb.Tg 29 hf a6 ?_ (hF:=fun _ _ h d=>Sb.O h s5)
 apply Sb.tr 30 _ hf a6
 . (
 intro a7 w1 hh hd hk K Z
 have Sr:=Sb.v 20 9 hd hk []
 refine Sb.g Sr ?_
 have UR:=Sb.v 29 0 hd hk []
 clear hd
 go_simp
 try simp (disch:=omega) only [Fc.W]
 rw [Tr.out]
 exact Sb.k Z)
 refine Sb.Tg 31 hf a6 ?_
 refine Sb.Tg 32 hf a6 ?_
 refine Sb.Tg 33 hf a6 ?_ (hF:=fun _ _ h d=>lf.out _ h.ext)
 refine Sb.Tg 34 hf a6 ?_
 refine Sb.Tg 35 hf a6 ?_
 refine Sb.T 36 hf a6 ?_
 refine Sb.E hf a6 (fun _ _ h g=>ad (Sb.O h s1) (ad (Sb.O h s3) (ad (Sb.O h s4) (ad (Sb.O h s5) (Sb.f 36 0 g))))) ?_
 clear hf a6 s1 s3 s4 s5 kG;intro a7 w1 hf hx sS
 have L1:=lf.out _ hx;(try clear x0 y0 y2 u0);clear lf;obtain ⟨x0,y0,y2,u0⟩:=L1
 refine Zx F5 (Fc.k9 sS.2.2.2.2 ?_)
 replace C4:=C4.trans (hx.mono C4.size)
 have N0:=K8.trans (C4.mono K8.size)
 have qR:okArcs i (-1) s.j4=okArcs i (lastB s.j4 (k+1)) (s.j4.drop (k+1)):=by rw [Ac.out,zZ.out,HLN.out,dn.out];have:=HC.out;rw [decide_eq_true (show 0<=a.to by omega),decide_eq_true (show a.to<(i:Int) by omega),decide_eq_true (show (p.byte:Int)<(a.byte:Int) by omega)];rfl
 have Dr:=H9 qR;clear qR
 refine wp_skip (Fc.j9 (Zx l8 (Zr [31,32] hf ?_)))
 refine z8 1 3 4 5 hf ?_
 intro a7 hf sS
 refine Fc.j7 ?_
 obtain ⟨s1,s3,s4,s5⟩:=sS
 exact ⟨_,by have:=xQ.out;omega,k+1,rfl,oM,hf,s1,s3,s4,by rw [s5];rfl,Dr.out,C4⟩))
 . (
 have iB:k=s.j4.length:=by have h9:=of_decide_eq_false C5;omega
 have gW:okArcs i (-1) s.j4=true:=by rw [Ac.out,iB,List.drop_length];rfl
 have Mn:=H9 gW;clear gW iB C5
 have JT:=hb.trans ((F3.trans (C4.mono F3.size)).mono hb.size)
 refine Zo ?_
 refine Fc.j9 (Zx j8 (Zr [11,12] hf ?_))
 refine y4 1 3 hf ?_
 intro a7 hf sS
 refine Fc.j7 ?_
 exact ⟨_,by have:=HK.out;omega,i+1,rfl,oM,hf,sS.1,by rw [sS.2];rfl,by rw [HM.out,L4.out,uC.out,Mn.out];rfl,JT⟩))))
 . (
 have C3:i=ss.length:=qF
 have nM:=H9 C3;clear C3 hq
 refine Zo ?_
 refine Zs a8 fun _ a8=>Zr [70,71,72,73] hf ?_
 refine p5 2 hf ?_
 intro a7 hf s2
 refine Zx a8 (k8 ?_)
 refine Fc.o6 rfl hf s2 ⟨?_,o7.trans (hb.mono o7.size)⟩
 rw [D4,HM.out,nM.out,List.drop_length]
 rfl))
end Dw
end Go.Proofs.YtcddnmhmcieebaaGreatDoor
