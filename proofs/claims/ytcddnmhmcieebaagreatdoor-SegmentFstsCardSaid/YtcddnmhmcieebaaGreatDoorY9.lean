import Derived.Test.YtcddnmhmcieebaaGreatDoorY8
namespace Go.Proofs.YtcddnmhmcieebaaGreatDoor
set_option linter.unusedSimpArgs false
set_option linter.unusedVariables false
set_option linter.unnecessarySimpa false
set_option maxHeartbeats 4000000
set_option maxRecDepth 100000
open Go.RowKit
namespace Dw
theorem n4.join {S T:Nat->Prop} {a b c:World} (h:n4 S a b) (k:n4 T b c) (hT:∀ x,x<a.heap.size->T x->S x):n4 S a c :=
 ⟨k.os.trans h.os,k.tape.trans h.tape,k.output.trans h.output,Nat.le_trans h.size k.size,fun x hx hn=>(k.block x (Nat.lt_of_lt_of_le hx h.size) (fun ht=>hn (hT x hx ht))).trans (h.block x hx hn)⟩
theorem SJ:(Tryz.prog.info? 3).map (fun i=>(i.zero,i.size,i.bytes))=some (some (.int .i64 0),1,8):=kR
def OI (w:World) (base:Nat) (v:Value) (l:List Nat):Prop:=w.ownsRow base 3 1 v l.length (l.map fun (n:Nat)=>Value.int .i64 (n:Int))
theorem OI.form {w:World} {base:Nat} {v:Value} {l:List Nat} (h:OI w base v l):∃ (A:Option Addr) (c:Nat),v= .slice A l.length c/\l.length<=c:=by
 rcases h.2 with ⟨rfl,h0⟩ | ⟨g,cap,cur,rfl,_,_,hc,_⟩
 ·exact ⟨none,0,by rw [h0],oM⟩
 ·exact ⟨_,_,rfl,hc⟩
theorem OI.at_ {w:World} {base n c:Nat} {A:Option Addr} {l:List Nat} (h:OI w base (.slice A n c) l) {i x:Nat} (hi:l[i]? =some x):∃ g,A=some ⟨g,0,none⟩/\w.cell? ⟨g,i,none⟩=some (.int .i64 (x:Nat)):=by
 have o9:=(H2 hi).1
 have h':=h
 unfold OI at h'
 rcases h'.2 with ⟨_,h0⟩ | ⟨g,cap,cur,he,_⟩
 ·omega
 ·injection he with h1 h2 h3
  subst h1;subst h2;subst h3
  refine ⟨g,rfl,?_⟩
  rw [World.ownsRow.cellAt h' i oM,List.getElem?_map,hi]
  rfl
def XJ (w:World) (N:Nat) (sv:Value) (ss:List State):Prop:=∀ w',Below N w w'->RS w' sv ss
theorem XJ.of {w:World} {sv:Value} {ss:List State} (h:RS w sv ss):XJ w w.heap.size sv ss:=fun _ hb=>h.later hb
theorem gU:∀ (n:Nat) (l:List Nat),l.Nodup->(∀ x∈l,x<n)->l.length<=n
 | 0,l,_,h=>by
  cases l with
  | nil=>simp
  | cons x l=>exact absurd (h x (List.mem_cons_self ..)) oM
 | n+1,l,hn,h=>by
  by_cases D7:n∈l
  ·have h1:=gU n (l.erase n) (hn.erase n) (fun x hx=>by
    have h2:=h x (List.mem_of_mem_erase hx)
    have h3:x≠n:=fun e=>by subst e;exact (List.Nodup.not_mem_erase hn) hx
    omega)
   rw [List.length_erase_of_mem D7] at h1
   omega
  ·have h1:=gU n l hn (fun x hx=>by
    have h2:=h x hx
    have h3:x≠n:=fun e=>D7 (e▸hx)
    omega)
   omega
theorem jS {ss:List State} {f:Nat} (ih:∀ (s:Nat) (out:List Nat) (n:Nat),out.Nodup->(∀ x∈out,x<n)->s<n->(endsL ss f s out).Nodup/\(∀ x∈endsL ss f s out,x<n)/\∀ x∈endsL ss f s out,x∈out\/x<=s) :
  ∀ (l:List u3) (out:List Nat) (s n:Nat),out.Nodup->(∀ x∈out,x<n)->s<n->(∀ a∈l,0<=a.to/\a.to<(s:Int))->(l.foldl (fun o a=>endsL ss f a.to.toNat o) out).Nodup/\(∀ x∈l.foldl (fun o a=>endsL ss f a.to.toNat o) out,x<n)/\∀ x∈l.foldl (fun o a=>endsL ss f a.to.toNat o) out,x∈out\/x<s
 | [],out,s,n,h1,h2,h3,_=>⟨h1,h2,fun x hx=> .inl hx⟩
 | a::l,out,s,n,h1,h2,h3,h4=>by
  have ha:=h4 a (List.mem_cons_self ..)
  obtain ⟨i1,i2,i3⟩:=ih a.to.toNat out n h1 h2 oM
  obtain ⟨j1,j2,j3⟩:=jS ih l _ s n i1 i2 h3 (fun x hx=>h4 x (List.mem_cons_of_mem _ hx))
  refine ⟨j1,j2,fun x hx=> ?_⟩
  rcases j3 x hx with h | h
  ·rcases i3 x h with h | h
   ·exact .inl h
   ·exact .inr oM
  ·exact .inr h
theorem xC {ss:List State} (hA:fK ss):∀ (f s:Nat) (out:List Nat) (n:Nat),out.Nodup->(∀ x∈out,x<n)->s<n->(endsL ss f s out).Nodup/\(∀ x∈endsL ss f s out,x<n)/\∀ x∈endsL ss f s out,x∈out\/x<=s
 | 0,s,out,n,h1,h2,_=>⟨h1,h2,fun x hx=> .inl hx⟩
 | f+1,s,out,n,h1,h2,h3=>by
  simp only [endsL]
  by_cases hs:s∈out
  ·rw [if_pos hs];exact ⟨h1,h2,fun x hx=> .inl hx⟩
  ·rw [if_neg hs]
   obtain ⟨j1,j2,j3⟩:=jS (xC hA f) (K2 ss s) out s n h1 h2 h3 (hA s)
   refine ⟨List.nodup_append.2 ⟨j1,List.nodup_cons.2 ⟨sP,List.nodup_nil⟩,fun a ha b hb=> ?_⟩,fun x hx=> ?_,fun x hx=> ?_⟩
   ·simp at hb
    subst hb
    intro e
    subst e
    rcases j3 _ ha with h | h
    ·exact hs h
    ·omega
   ·rcases List.mem_append.1 hx with h | h
    ·exact j2 x h
    ·simp at h;omega
   ·rcases List.mem_append.1 hx with h | h
    ·exact (j3 x h).imp id (fun h=>oM)
    ·simp at h;exact .inr oM
def SK (f:Nat):Prop:=∀ (w:World) (N base:Nat) (sv:Value) (init:Nat) (ss:List State) (s:Nat) (out:List Nat) (ov:Value) (hs:s<f) (Gf:s<ss.length) (o8:XJ w N sv ss) (hN:N<=base) (R3:base<=w.heap.size) (lU:OI w base ov out) (qH:out.Nodup) (o9:∀ x∈out,x<ss.length) (hA:fK ss) (a6:∀ s∈ss,L3 s) (hlen:ss.length<=1000000),Calls Tryz.prog 121 #[.agg #[sv,.int .u64 init],.int .i64 s,ov] w fun e w1=>∃ v1,e= .returned v1/\OI w1 base v1 (endsL ss f s out)/\n4 (fun k=>ov.ownBlock=some k) w w1/\(v1.ownBlock=ov.ownBlock\/∃ k,v1.ownBlock=some k/\w.heap.size<=k)
theorem MA (w:World) (f:Nat) (ih:SK f) (N base:Nat) (sv:Value) (init:Nat) (ss:List State) (s:Nat) (out:List Nat) (ov:Value) (hs:s<f+1) (Gf:s<ss.length) (o8:XJ w N sv ss) (hN:N<=base) (R3:base<=w.heap.size) (lU:OI w base ov out) (qH:out.Nodup) (o9:∀ x∈out,x<ss.length) (hA:fK ss) (a6:∀ s∈ss,L3 s) (hlen:ss.length<=1000000):Calls Tryz.prog 121 #[.agg #[sv,.int .u64 init],.int .i64 s,ov] w fun e w1=>∃ v1,e= .returned v1/\OI w1 base v1 (endsL ss (f+1) s out)/\n4 (fun k=>ov.ownBlock=some k) w w1/\(v1.ownBlock=ov.ownBlock\/∃ k,v1.ownBlock=some k/\w.heap.size<=k):=by
 refine dT 50 Tryz.func121 fun fr hf s0 s1 s2=> ?_
 obtain ⟨st,A8⟩:∃ x,ss[s]? =some x:=⟨_,F8 Gf⟩
 obtain ⟨A0,c0,zV, -⟩:=(o8 w (Below.refl _ _)).form
 subst zV
 obtain ⟨b,off,av0,bq, -⟩:=(o8 w (Below.refl _ _)).at_ A8
 subst bq
 obtain ⟨Ao,co,hov,uz⟩:=OI.form lU
 have hol:=gU _ _ qH o9
 have cY:=a6 st (T9 A8)
 have Z7:=cY.2.1
 have LK:K2 ss s=st.j4:=by unfold K2;rw [A8];rfl
 have HND:=H9 qH;have ec:=H9 o9;have Ts:=H9 hA;have Qz:=H9 a6;have mu:=H9 o8;have L4:=H9 A8;have mr:=H9 LK;have HOV:=H9 hov;clear qH o9 hA a6 o8 A8 LK
 rw [hov] at s2
 have HOI:=H9 lU
 rw [hov] at lU
 clear hov
 refine Ze fun _ a8=>Zr [] hf ?_
 refine y7 1 2 3 hf ?_
 clear hf s0 s1 s2;intro a7 hf sS
 generalize p8:w.alloc (.cells #[.slice (some ⟨b,off,none⟩) ss.length c0,.int .u64 init] 38)=W0
 obtain ⟨o7, -, -,E3, -⟩:=P7 p8
 clear p8
 refine Zs a8 fun _ a8=>Ze fun _ j8=>Zr [] hf ?_
 refine z8 1 2 3 7 hf ?_
 intro a7 hf sS
 refine Zx j8 (wp_block (wp_loop_ghost (fun gk fr wr=>∃ (i:Nat),gk=out.length-i/\i<=out.length/\Fc.Fr 50 fr/\fr.tmps[1]? =some (.int .i64 s)/\fr.tmps[2]? =some (.slice Ao out.length co)/\fr.tmps[3]? =some (.pointer (some ⟨w.heap.size,0,none⟩))/\fr.tmps[7]? =some (.int .i64 i)/\s∉out.take i/\wr=W0) (out.length) ?_ ?_))
 . (
 obtain ⟨s1,s2,s3,s7⟩:=sS
 exact ⟨0,rfl,Nat.zero_le _,hf,s1,s2,s3,s7,sP,rfl⟩)
 . (
 clear hf sS
 rintro gk fr wr ⟨i,hk,hi,hf,s1,s2,s3,s7,hn,rfl⟩
 have HK:=H9 hk;have HN:=H9 hn;clear hk hn
 refine Ze fun _ j8=>Ze fun _ l8=>Zr [9,10,11] hf ?_
 refine D2 1 2 3 7 12 hf ?_
 clear hf s1 s2 s3 s7;intro a7 hf sS
 refine Zx l8 (Fc.l0 sS.2.2.2.2 (fun hq=> ?_) (fun hq=> ?_))
 . (
 have o9:i<out.length:=qT
 clear hq
 obtain ⟨x,BM⟩:∃ x,out[i]? =some x:=⟨_,F8 o9⟩
 obtain ⟨g,hAo,MQ⟩:=OI.at_ lU BM
 subst hAo
 have w8j:=cL o7 MQ
 have uq:x≠s->s∉out.take (i+1):=fun F0=>by rw [List.take_add_one,BM];simp only [Option.toList_some,List.mem_append,List.mem_singleton];rintro (h | h);exact HN.out h;exact F0 h.symm
 have HNT:=H9 uq;have HX:=H9 BM;clear uq BM MQ
 refine wp_skip (Zs j8 fun _ j8=>wp_block (Ze fun _ l8=>Zr [15,16,17,18,19] hf ?_))
 refine D2 1 2 3 7 20 hf ?_
 intro a7 hf sS
 refine Zx l8 (Fc.l0 sS.2.2.2.2 (fun C5=> ?_) (fun C5=> ?_))
 . (
 have mC:x=s:=by have h9:=of_decide_eq_true C5;omega
 have D7:s∈out:=by have h9:=T9 HX.out;rwa [mC] at h9
 clear C5 mC
 refine Ze fun _ l8=>Zr [21] hf ?_
 refine p5 6 hf ?_
 intro a7 hf s6
 refine Zx l8 (k8 ?_)
 refine Fc.o6 rfl hf s6 ⟨_,rfl,?_,n4.of _ o7,.inl (by rw [HOV.out])⟩
 rw [fL D7]
 exact n3 lU o7)
 . (
 have pQ:=HNT.out (by have h9:=of_decide_eq_false C5;omega)
 have Tr:=H9 pQ;clear pQ C5
 refine wp_skip (Fc.j9 (Zx j8 (Zr [13,14] hf ?_)))
 refine z8 1 2 3 7 hf ?_
 intro a7 hf sS
 refine Fc.j7 ?_
 obtain ⟨s1,s2,s3,s7⟩:=sS
 exact ⟨_,by have:=HK.out;omega,i+1,rfl,oM,hf,s1,s2,s3,by rw [s7];rfl,Tr.out,rfl⟩))
 . (
 have C3:i=out.length:=qF
 have Xt:s∉out:=by have:=HN.out;rwa [C3,List.take_length] at this
 have HNN:=H9 Xt;clear Xt C3 hq hi HK HN
 refine Zo ?_
 refine Zs a8 fun _ a8=>Ze fun _ j8=>Zr [] hf ?_
 refine z8 1 2 3 8 hf ?_
 intro a7 hf sS
 refine Zx j8 (wp_block (wp_loop_ghost (fun gk fr wr=>∃ (k:Nat) (V:Value),gk=st.j4.length-k/\k<=st.j4.length/\Fc.Fr 50 fr/\fr.tmps[1]? =some (.int .i64 s)/\fr.tmps[2]? =some V/\fr.tmps[3]? =some (.pointer (some ⟨w.heap.size,0,none⟩))/\fr.tmps[8]? =some (.int .i64 k)/\OI wr base V ((st.j4.take k).foldl (fun o a=>endsL ss f a.to.toNat o) out)/\n4 (fun k=>ov.ownBlock=some k) w wr/\(V.ownBlock=ov.ownBlock\/∃ k,V.ownBlock=some k/\w.heap.size<k)/\wr.heap[w.heap.size]? =some (.cells #[.slice (some ⟨b,off,none⟩) ss.length c0,.int .u64 init] 38 (0,0))) (st.j4.length) ?_ ?_))
 . (
 obtain ⟨s1,s2,s3,s8⟩:=sS
 exact ⟨0,_,rfl,Nat.zero_le _,hf,s1,s2,s3,s8,n3 lU o7,n4.of _ o7,.inl (by rw [HOV.out]),E3⟩)
 . (
 clear hf sS
 rintro gk fr wr ⟨k,V,hk,hi,hf,s1,s2,s3,s8,how,l6,WX,hp⟩
 have HK:=H9 hk;clear hk E3 o7 lU
 obtain ⟨GJ,a6⟩:∃ x,((st.j4.take k).foldl (fun o a=>endsL ss f a.to.toNat o) out)=x:=⟨_,rfl⟩
 have XM:=jS (xC Ts.out f) (st.j4.take k) out s ss.length HND.out ec.out Gf (fun a ha=>Ts.out s a (by rw [mr.out];exact List.mem_of_mem_take ha))
 rw [a6] at how XM
 have hlk:=gU _ _ XM.1 XM.2.1
 have z5h:=H9 a6;have pz:=H9 XM;have mq:=H9 WX;clear a6 XM WX
 have mo:∀ k,ov.ownBlock=some k->base<=k/\k<w.heap.size:=fun k hk=>HOI.out.lt k hk
 have F9:Below N w wr:=n4.below l6 oM (fun k hk=>by have:=(mo k hk).1;omega)
 obtain ⟨b2,Ms,av,eH,C7⟩:=(mu.out wr F9).at_ L4.out
 injection eH with eH
 injection eH with eH he3 _
 subst eH;subst he3
 have d0:=C7.c0
 have S7:=C7.j4
 obtain ⟨A2,c2,Z3,_⟩:=S7.form
 subst Z3
 have z0:wr.cell? ⟨w.heap.size,0,none⟩=some (.slice (some ⟨b,off,none⟩) ss.length c0):=by rw [n5 0 hp];rfl
 have z1:wr.cell? ⟨w.heap.size,1,none⟩=some (.int .u64 init):=by rw [n5 1 hp];rfl
 clear C7
 have y2c:=H9 mo;have HBW:=H9 F9;clear mo F9
 have qv:=H9 how;clear how
 refine Ze fun _ j8=>Ze fun _ l8=>Zr [22,23,24,25,26,27,28,29] hf ?_
 refine D2 1 2 3 8 30 hf ?_
 clear hf s1 s2 s3 s8;intro a7 hf sS
 refine Zx l8 (Fc.l0 sS.2.2.2.2 (fun hq=> ?_) (fun hq=> ?_))
 . (
 have bC:k<st.j4.length:=qT
 clear hq
 obtain ⟨a,aU⟩:∃ a,st.j4[k]? =some a:=⟨_,F8 bC⟩
 obtain ⟨b3,uD,rfl,G4, -, -,y2⟩:=S7.at' aU
 have hah:=Ts.out s a (by rw [mr.out];exact T9 aU)
 obtain ⟨t,ht⟩:∃ t:Nat,a.to=(t:Int):=⟨a.to.toNat,oM⟩
 rw [ht] at y2
 have htn:a.to.toNat=t:=oM
 have kH:((st.j4.take (k+1)).foldl (fun o a=>endsL ss f a.to.toNat o) out)=endsL ss f t GJ:=by rw [List.take_add_one,aU,List.foldl_append,z5h.out];simp only [Option.toList_some,List.foldl_cons,List.foldl_nil,htn]
 have htl:t<s:=oM
 have Jc:=H9 kH;clear kH aU ht htn hah S7
 refine wp_skip (Zs j8 fun _ j8=>wp_block ?_)
 obtain ⟨s1,s2,s3,s8,kG⟩:=sS
 refine Sb.tb 50 fun a6=> ?_
 have lf:=H9 fun (w9:World) (h9:Below _ _ w9)=>ad (cL h9 z0) (ad (cL h9 z1) (ad (cL h9 d0) (cL h9 y2)))
 refine Sb.T 0 hf a6 ?_ (hF:=fun _ _ h d=>ad (Sb.O h s3) (lf.out _ h.ext))
 refine Sb.T 1 hf a6 ?_ (hF:=fun _ _ h d=>Sb.O h s3)
 refine Sb.T 2 hf a6 ?_ (hF:=fun _ _ h d=>lf.out _ h.ext)
 refine Sb.mO 3 s1 hf a6 ?_
 refine Sb.T 4 hf a6 ?_
 refine Sb.T 5 hf a6 ?_
 refine Sb.T 6 hf a6 ?_ (hF:=fun _ _ h d=>lf.out _ h.ext)
 refine Sb.mO 7 s8 hf a6 ?_
 refine Sb.T 8 hf a6 ?_
 refine Sb.T 9 hf a6 ?_
 refine Sb.T 10 hf a6 ?_ (hF:=fun _ _ h d=>lf.out _ h.ext)
 refine Sb.qq (k:=11) (j:=13) s2 hf.size a6.out rfl rfl rfl (.inl rfl) [] kR kR ?_
 refine Tl.G5 (n:=50) (m:=12) (ws:=[(12,1,[10,9,8,6,5,4,2]),(12,2,[10,9,8,6,5,4]),(12,3,[10,9,8,6,5,4]),(12,4,[10,9,8,6,5]),(12,5,[10,9,8,6]),(12,6,[10,9,8]),(12,7,[10,9,8]),(12,8,[10,9]),(12,9,[10])]) kR hf.size a6.out rfl rfl kR (fun a7 w1 hh hg=> ?_)
 replace s1:=Sb.O hh s1
 replace s3:=Sb.O hh s3
 replace s8:=Sb.O hh s8
 have ou:=Tl.z7 0 11 hg rfl rfl rfl rfl rfl
 have Mb:=Tl.z7 10 1 hg rfl rfl rfl rfl rfl
 have Bq:=Tl.z7 11 0 hg rfl rfl rfl rfl rfl
 have y5:=hh.fr hf
 have hx:=hh.ext
 have L1:=lf.out _ hx;(try clear z0 z1 d0 y2);clear lf;obtain ⟨z0,z1,d0,y2⟩:=L1
 clear hg hh hf a6 s2 kG
 have hf:=y5;clear y5
 have b45:=hf.b 45
 refine Tl.J5 rfl rfl (fun K Z=> ?_)
 go_simp
 go_at_call 121;refine (ih w1 N base _ init ss t GJ V oM oM (fun wz hz=>mu.out wz (HBW.out.trans ((hx.mono (by have:=l6.size;omega)).trans hz))) hN (by have:=l6.size;have:=hx.size;omega) (n3 qv.out hx) pz.out.1 pz.out.2.1 Ts.out Qz.out hlen).mono ?_;rintro e w2 ⟨v2,rfl,bS,r8,vV⟩
 try dsimp only
 apply Z.out;clear Z K
 refine Tl.J5 rfl rfl (fun K Z=> ?_)
 go_simp
 apply Z.out;clear Z K
 refine Tl.L8 rfl ?_
 refine z8 1 2 3 8 hf ?_
 clear hf s1 s3 s8 ou Mb Bq b45;intro a7 hf sS
 have hzw:=l6.size;have hzx:=hx.size
 have DX:=(n4.of (fun k=>V.ownBlock=some k) hx).trans r8
 have aJ:n4 (fun k=>ov.ownBlock=some k) w w2:=n4.join l6 DX (fun k hk h=>by rcases mq.out with h2 | ⟨k2,h2,h3⟩;(rw [<- h2];exact h);(rw [h] at h2;injection h2 with h2;omega))
 have J1:=DX.heap hp (fun h=>by rcases mq.out with h2 | ⟨k2,h2,h3⟩;(rw [h2] at h;have:=(y2c.out _ h).2;omega);(rw [h] at h2;injection h2 with h2;omega))
 have lV:v2.ownBlock=ov.ownBlock\/∃ k,v2.ownBlock=some k/\w.heap.size<k:=by rcases vV with h | ⟨k,h,h2⟩;(rw [h];exact mq.out);exact .inr ⟨k,h,by have:=j5 hp;omega⟩
 refine Fc.j9 (Zx j8 (Zr [31,32] hf ?_))
 refine z8 1 2 3 8 hf ?_
 intro a7 hf sS
 refine Fc.j7 ?_
 obtain ⟨s1,s2,s3,s8⟩:=sS
 exact ⟨_,by have:=HK.out;omega,k+1,v2,rfl,oM,hf,s1,s2,s3,by rw [s8];rfl,by rw [Jc.out];exact bS,aJ,lV,J1⟩)
 . (
 have iB:k=st.j4.length:=qF
 obtain ⟨Av,cv,rfl,iU⟩:=OI.form qv.out
 have how:=qv.out
 have Rw:endsL ss (f+1) s out=GJ++[s]:=by simp only [endsL];rw [if_neg HNN.out,mr.out];have:=z5h.out;rw [iB,List.take_length] at this;rw [this]
 have HEF:=H9 Rw;clear Rw hq iB d0 z0 z1 S7
 refine Zo ?_
 refine Zt a8 fun _ a8=> ?_
 have bB:=hf.B4 46 47 48 49
 iterate 3 refine Zy ?_
 obtain ⟨s1,s2,s3,s8,kG⟩:=sS
 clear bB
 refine Fc.nL (n:=50) (by simp only [Fc.G,hf.size]) hf.defers (fun a7 y5 hT=> ?_)
 have J8:=Fc.h2 hT 46 48
 simp (decide:=true) only [Fc.G,hf.size,reduceIte] at J8
 replace hf:=y5;clear hT y5 s1 s2 s3 s8 kG
 obtain ⟨DW,Jd⟩:=J8
 have bB:=hf.b 49
 refine ⟨?_⟩
 refine wpList_plain rfl fun K5 U6=> ?_
 refine J6 _ _ 202 rfl 3 _ 1 8 Tryz.underlying202 SJ rfl dC dC base (.slice Av GJ.length cv) GJ.length _ (Fc.l5 DW) (how.alloc _) wr.heap.size [.int .i64 (s:Nat)] (Fc.l5 Jd) rfl (E8 wr _ _) (by intro u hu;simp at hu;subst hu;rfl) oM (by have:=l6.size;simp;omega) (fun v5 w5 X8 bN M6=>U6 _ _ ?_)
 refine Fc.L.out ?_
 refine Zy ?_
 refine Fc.nil (p5 6 hf ?_)
 clear hf DW Jd bB;intro a7 hf s6
 refine Zx a8 (k8 ?_)
 have hzw:=l6.size
 have F3:n4 (fun k=>(.slice Av GJ.length cv:Value).ownBlock=some k) wr w5:=(n4.alloc (S:=fun k=>(.slice Av GJ.length cv:Value).ownBlock=some k) wr _).trans (n4.grown bN (fun k hk=>hk))
 refine Fc.o6 rfl hf s6 ⟨v5,rfl,?_,n4.join l6 F3 (fun k hk h=> ?_),?_⟩
 . (
 rw [HEF.out];unfold OI;rw [List.length_append,List.map_append];exact X8)
 . (
 rcases mq.out with h2 | ⟨k2,h2,h3⟩;(rw [<- h2];exact h);(rw [h] at h2;injection h2 with h2;omega))
 . (
 rcases M6 with h | h;(rw [h];exact mq.out.imp id (fun ⟨k,h1,h2⟩=>⟨k,h1,oM⟩));exact .inr ⟨_,h,sO⟩)))))
theorem BL:∀ f,SK f
 | 0=>fun w N base sv init ss s out ov hs _ _ _ _ _ _ _ _ _ _=>absurd hs (Nat.not_lt_zero _)
 | f+1=>fun w N base sv init ss s out ov hs Gf o8 hN R3 lU qH o9 hA a6 hlen=>MA w f (BL f) N base sv init ss s out ov hs Gf o8 hN R3 lU qH o9 hA a6 hlen
def Yn (l:List Wd):List Value:=l.flatMap fun x=>[.string x.w,.int .u64 x.n,.bool x.b]
theorem GK (a b:List Wd):Yn (a++b)=Yn a++Yn b:=by simp [Yn]
def zU (w:World) (base:Nat) (v:Value) (l:List Wd):Prop:=w.ownsRow base 101 3 v l.length (Yn l)
theorem zU.T7 (w:World) (base:Nat):zU w base (.slice none 0 0) []:=World.ownsRow_nil _ _ _ _
theorem zU.form {w:World} {base:Nat} {v:Value} {l:List Wd} (h:zU w base v l):∃ (A:Option Addr) (c:Nat),v= .slice A l.length c/\l.length<=c:=by
 obtain ⟨A,c,h1,h2⟩:=y8 h
 exact ⟨A,c,h1,h2⟩
theorem GL:(Tryz.prog.info? 101).map (fun i=>(i.zero,i.size,i.bytes))=some (some (.agg #[.string ⟨#[]⟩,.int .u64 0,.bool false]),3,32):=kR
theorem gK {ss:List State} {f k n:Nat} {u:ByteArray} {b:Bool} {st:State} (hk:ss[k]? =some st):walkS ss [] (f+1) k u n b=eM st [] u n b++st.j4.flatMap (kN ss [] f u n b):=kM (by rw [List.take_nil,S8]) hk
theorem rK {st:State} {u:ByteArray} {n:Nat} {b:Bool}:eM st [] u n b=if st.final then [⟨u,(n+st.out)%q9,b&&decide (n+st.out<q9)⟩] else []:=by
 unfold eM
 rw [S8]
 cases st.final<;>rfl
theorem xD {k:Nat}:∀ {l:List u3} {last:Int} {i:Nat} {a:u3},okArcs k last l=true->l[i]? =some a->l.find? (G8 a.byte k)=some a
 | [],_,i,a,_,h=>by simp at h
 | x::l,last,i,a,ho,h=>by
  have tX:=ho
  simp only [okArcs,Bool.and_eq_true,decide_eq_true_eq] at ho
  cases i with
  | zero =>
   obtain rfl:x=a:=by simpa using h
   rw [List.find?_cons,show G8 x.byte k x=true by unfold G8;rw [beq_self_eq_true,decide_eq_true ho.1.1.1,decide_eq_true ho.1.1.2];rfl]
  | succ i =>
   have h2:l[i]? =some a:=by simpa using h
   have h3:=dB l _ ho.2 a (T9 h2)
   rw [List.find?_cons,show G8 a.byte k x=false by unfold G8;rw [show (x.byte==a.byte)=false from beq_eq_false_iff_ne.2 oM];rfl]
   exact xD ho.2 h2
def JK (f:Nat):Prop:=∀ (w:World) (N base:Nat) (sv:Value) (init:Nat) (ss:List State) (k:Nat) (u:ByteArray) (n:Nat) (b:Bool) (xs:List Wd) (v:Value),k<f->k<ss.length->XJ w N sv ss->N<=base->base<=w.heap.size->zU w base v xs->xs.length+(walkS ss [] f k u n b).length<=40000->n<q9->(∀ s∈ss,L3 s)->(∀ s∈ss,s.j4.length<=1000)->(∀ (k:Nat) (st:State),ss[k]? =some st->okArcs k (-1) st.j4=true)->ss.length<=1000->u.size+k<=100000 ->
 Calls Tryz.prog 39 #[.agg #[sv,.int .u64 init],.int .i64 k,.agg #[.string u,.int .u64 n,.bool b],v] w fun e w1=>∃ v1,e= .returned v1/\zU w1 base v1 (xs++walkS ss [] f k u n b)/\n4 (fun j=>v.ownBlock=some j) w w1/\(v1.ownBlock=v.ownBlock\/∃ j,v1.ownBlock=some j/\w.heap.size<=j)
theorem GM (w:World) (f:Nat) (ih:JK f) (N base:Nat) (sv:Value) (init:Nat) (ss:List State) (k:Nat) (u:ByteArray) (n:Nat) (b:Bool) (xs:List Wd) (v:Value) (Rm:k<f+1) (tW:k<ss.length) (o8:XJ w N sv ss) (hN:N<=base) (R3:base<=w.heap.size) (how:zU w base v xs) (C8:xs.length+(walkS ss [] (f+1) k u n b).length<=40000) (hn:n<q9) (SL:∀ s∈ss,L3 s) (DN:∀ s∈ss,s.j4.length<=1000) (DP:∀ (k:Nat) (st:State),ss[k]? =some st->okArcs k (-1) st.j4=true) (VY:ss.length<=1000) (hus:u.size+k<=100000):Calls Tryz.prog 39 #[.agg #[sv,.int .u64 init],.int .i64 k,.agg #[.string u,.int .u64 n,.bool b],v] w fun e w1=>∃ v1,e= .returned v1/\zU w1 base v1 (xs++walkS ss [] (f+1) k u n b)/\n4 (fun j=>v.ownBlock=some j) w w1/\(v1.ownBlock=v.ownBlock\/∃ j,v1.ownBlock=some j/\w.heap.size<=j):=by
 refine Zn4 94 Tryz.func39 fun fr hf s0 s1 s2 s3=> ?_
 obtain ⟨st,A8⟩:∃ x,ss[k]? =some x:=⟨_,F8 tW⟩
 obtain ⟨A0,c0,zV,SV⟩:=(o8 w (Below.refl _ _)).form
 subst zV
 obtain ⟨Av,cv,hv,iU⟩:=how.form
 have cY:=SL st (T9 A8)
 have hna:=DN st (T9 A8)
 have iA:=DP k st A8
 have X3:=how.lt
 have L4:=H9 A8;have uC:=H9 iA;have HOS:=H9 cY;have y1z:=H9 SL;have HNA:=H9 hna;have z5g:=H9 DN;have z5f:=H9 DP;have mu:=H9 o8;have Da:=H9 X3;have HSZ:=H9 C8;clear A8 iA cY SL hna DN DP o8 X3 C8
 rw [hv] at s3
 have HV:=H9 hv;have qv:=H9 how;clear hv how
 refine Ze fun _ a8=>Zr [] hf ?_
 refine z8 1 3 4 6 hf ?_
 clear hf s0 s1 s2 s3;intro a7 hf sS
 obtain ⟨W0,p8⟩:∃ x,(w.alloc (.cells #[.slice A0 ss.length c0,.int .u64 init] 38)).alloc (.cells #[.string u,.int .u64 n,.bool b] 101)=x:=⟨_,rfl⟩
 obtain ⟨s1,s3,s4,s6⟩:=sS
 try simp only [World.size_alloc] at s6
 try rw [p8]
 obtain ⟨o7,E3,C9⟩:=D8 p8
 have w8g:=j5 C9
 clear p8
 have p0:=n5 0 E3
 have p1:=n5 1 E3
 have r0:=n5 0 C9
 have r1:=n5 1 C9
 have r2:=n5 2 C9
 simp at p0 p1 r0 r1 r2
 refine Zx a8 ?_
 have Ss:xs.length<=40000:=by have:=HSZ.out;omega
 have q1:decide ((40000:Int)<(xs.length:Int))=false:=decide_eq_false oM
 refine Ze fun _ a8=>Ze fun _ j8=>Zr [19,20] hf ?_
 refine D2 1 3 4 6 21 hf ?_
 clear hf s1 s3 s4 s6;intro a7 hf sS
 refine Zx j8 (Fc.k9 sS.2.2.2.2 ?_)
 clear q1
 obtain ⟨bs,z5e,av0,bq,C7⟩:=(mu.out W0 (o7.mono oM)).at_ L4.out
 subst bq
 have d0:=C7.c0;have d1:=C7.c1;have d2:=C7.c2
 have S7:=C7.j4
 obtain ⟨A2,c2,Z3,_⟩:=S7.form
 subst Z3
 clear C7
 refine wp_skip (Zs a8 fun _ a8=>Zr [23,24,25,26,27,9] hf ?_)
 refine D2 1 3 4 6 9 hf ?_
 intro a7 hf sS
 generalize lT:W0.alloc (.cells #[.slice A2 st.j4.length c2,.bool st.final,.int .u64 st.out] 46)=W3
 obtain ⟨G4,t0,t1,t2,fP, -⟩:=E7 lT
 clear lT
 have Cp:=o7.trans (G4.mono o7.size)
 replace E3:=(G4.block _ (j5 E3)).trans E3;replace C9:=(G4.block _ (j5 C9)).trans C9
 have r0:=cL G4 r0;have r1:=cL G4 r1;have r2:=cL G4 r2
 have hzW:=o7.size
 refine Zx a8 (Fc.G1 (fun fr wr=>∃ V,Fc.Fr 94 fr/\(fr.tmps[1]? =some (.int .i64 k)/\fr.tmps[3]? =some V/\fr.tmps[4]? =some (.pointer (some ⟨w.heap.size,0,none⟩))/\fr.tmps[6]? =some (.pointer (some ⟨(w.heap.size+1),0,none⟩))/\fr.tmps[9]? =some (.pointer (some ⟨W0.heap.size,0,none⟩)))/\zU wr base V (xs++eM st [] u n b)/\n4 (fun j=>v.ownBlock=some j) w wr/\(V.ownBlock=v.ownBlock\/∃ j,V.ownBlock=some j/\W0.heap.size<j)/\wr.heap[w.heap.size]? =some (.cells #[.slice (some ⟨bs,z5e,none⟩) ss.length c0,.int .u64 init] 38 (0,0))/\wr.heap[w.heap.size+1]? =some (.cells #[.string u,.int .u64 n,.bool b] 101 (0,0))/\wr.heap[W0.heap.size]? =some (.cells #[.slice A2 st.j4.length c2,.bool st.final,.int .u64 st.out] 46 (0,0))) ?_ ?_)
 . (
 refine Ze fun _ a8=>Zr [28] hf ?_
 refine F1 1 3 4 6 9 29 hf ?_
 intro a7 hf sS
 refine Zx a8 (Fc.l0 sS.2.2.2.2.2 (fun hq=> ?_) (fun hq=> ?_))
 . (
 have p7:eM st [] u n b=[⟨u,(n+st.out)%q9,b&&decide (n+st.out<q9)⟩]:=by rw [rK,show st.final=true from hq];rfl
 have mm:=H9 p7;clear p7 hq
 refine Ze fun _ a8=>rg ?_
 have bB:=hf.eW 31 32 33 34 35 36 37 30 38 39
 iterate 6 refine Zy ?_
 refine Zc (Rz W3 n st.out b hn HOS.out.1) ?_;rintro e w2 ⟨rfl,gM⟩
 refine Zv ?_
 iterate 5 refine Zy ?_
 refine Fc.nil (Z1 1 3 4 6 9 10 11 hf ?_)
 intro a7 hf sS
 have F3:=gM
 have WY:=Cp.trans (F3.mono Cp.size)
 have bS:=n3 qv.out WY
 rw [HV.out] at bS
 replace r0:=cL F3 r0
 replace r1:=cL F3 r1
 replace r2:=cL F3 r2
 replace E3:=(F3.block _ (j5 E3)).trans E3
 replace C9:=(F3.block _ (j5 C9)).trans C9
 replace fP:=(F3.block _ (j5 fP)).trans fP
 refine Zx a8 (rg ?_)
 have bB:=hf.B8 40 41 42 43 44 45 46 47
 iterate 7 refine Zy ?_
 obtain ⟨s1,s3,s4,s6,s9,u4,D9⟩:=sS
 clear bB
 refine Fc.nL (n:=94) (by simp only [Fc.G,hf.size]) hf.defers (fun a7 y5 hT=> ?_)
 have J8:=Fc.h7 hT 1 3 4 6 9 40 46
 simp (decide:=true) only [Fc.G,hf.size,reduceIte,s1,s3,s4,s6,s9] at J8
 replace hf:=y5;clear hT y5 s1 s3 s4 s6 s9 u4 D9
 obtain ⟨s1,s3,s4,s6,s9,gZ,DW⟩:=J8
 have bB:=hf.b 47
 refine ⟨?_⟩
 refine wpList_plain rfl fun K5 U6=> ?_
 refine J6 _ _ 56 rfl 101 _ 3 32 Tryz.underlying56 GL rfl dC dC base (.slice Av xs.length cv) xs.length _ (Fc.l5 gZ) (bS.alloc _) w2.heap.size [.string u,.int .u64 ((n+st.out)%q9:Nat),.bool (b&&decide (n+st.out<q9))] (Fc.l5 DW) rfl (E8 w2 _ _) (by intro u hu;simp at hu;rcases hu with rfl | rfl | rfl<;>rfl) oM (by simp;have:=WY.size;omega) (fun v5 w5 X8 bN M6=>U6 _ _ ?_)
 refine Fc.L.out ?_
 refine Zy ?_
 refine Fc.nil (D2 1 3 4 6 9 hf ?_)
 clear hf s1 s3 s4 s6 s9 gZ DW bB;intro a7 hf sS
 refine Fc.j7 ?_
 have lS:n4 (fun j=>v.ownBlock=some j) w2 w5:=by rw [HV.out];exact (n4.alloc (S:=fun j=>(.slice Av xs.length cv:Value).ownBlock=some j) w2 _).trans (n4.grown bN (fun k hk=>hk))
 have sV:=j5 fP;have Wm:=WY.size
 obtain ⟨s1,s3,s4,s6,s9⟩:=sS
 refine ⟨_,hf,⟨s1,s3,s4,s6,s9⟩,?_,(n4.of _ WY).trans lS,?_,lS.heap E3 (fun h=>by have:=Da.out _ h;omega),lS.heap C9 (fun h=>by have:=Da.out _ h;omega),lS.heap fP (fun h=>by have:=Da.out _ h;omega)⟩
 . (
 rw [mm.out];unfold zU;rw [GK,List.length_append];exact X8)
 . (
 rcases M6 with h | h;(rw [h,HV.out];exact .inl rfl);exact .inr ⟨_,h,sO⟩))
 . (
 have p7:eM st [] u n b=[]:=by rw [rK,show st.final=false from hq];rfl
 have mm:=H9 p7;clear p7 hq
 refine wp_skip (Fc.j7 ?_)
 obtain ⟨s1,s3,s4,s6,s9,cT⟩:=sS
 refine ⟨_,hf,⟨s1,s3,s4,s6,s9⟩,?_,n4.of _ Cp,.inl (by rw [HV.out]),E3,C9,fP⟩
 rw [mm.out,List.append_nil, <- HV.out]
 exact n3 qv.out Cp))
 . (
 clear hf sS
 rintro fr wr ⟨V,hf,⟨s1,s3,s4,s6,s9⟩,how,l6,WX,E3,C9,fP⟩
 have mq:=H9 WX;have z5d:=H9 how;clear WX how
 have p0:=n5 0 E3;have p1:=n5 1 E3
 simp at p0 p1
 have F9:Below N w wr:=n4.below l6 oM (fun k hk=>by have:=(Da.out k hk).1;omega)
 have HBW:=H9 F9;clear F9 r0 r1 r2 t0 t1 t2 d0 d1 d2
 refine Ze fun _ a8=>rg ?_
 have bB:=hf.B3 48 49 50
 iterate 2 refine Zy ?_
 refine Zc (SF wr _ init ss (mu.out wr HBW.out) k st L4.out oM (by have:=HNA.out;omega) uC.out (fun a ha=>(HOS.out.2.2 a ha).1)) ?_;rintro e w7 ⟨vb,rfl,Bm,B1⟩
 refine Zv ?_
 refine Zy ?_
 refine Fc.nil (D2 1 3 4 6 12 hf ?_)
 clear hf s1 s3 s4 s6 s9 bB;intro a7 hf sS
 refine Zx a8 ?_
 have hvd:∀ j,V.ownBlock=some j->vb.ownBlock≠some j:=fun j hj h=>by have h1:=(z5d.out.lt j hj).2;have h2:=(Bm.lt j h).1;omega
 have CL:=n3 z5d.out B1
 have nD:=l6.trans (n4.of (fun j=>v.ownBlock=some j) B1)
 replace E3:=(B1.block _ (j5 E3)).trans E3
 replace C9:=(B1.block _ (j5 C9)).trans C9
 have hzr:=B1.size
 have hz9:=j5 fP
 clear fP p0 p1
 obtain ⟨A7,c7,z5c,hc7⟩:=y8 Bm
 rw [List.length_map] at z5c hc7
 subst z5c
 refine Ze fun _ a8=>Ze fun _ j8=>Zr [] hf ?_
 refine F1 1 3 4 6 12 13 hf ?_
 intro a7 hf sS
 refine Zx j8 (wp_block (wp_loop_ghost (fun gk fr wq=>∃ (i:Nat) (V:Value),gk=st.j4.length-i/\i<=st.j4.length/\Fc.Fr 94 fr/\(fr.tmps[1]? =some (.int .i64 k)/\fr.tmps[3]? =some V/\fr.tmps[4]? =some (.pointer (some ⟨w.heap.size,0,none⟩))/\fr.tmps[6]? =some (.pointer (some ⟨(w.heap.size+1),0,none⟩)))/\fr.tmps[12]? =some (.slice A7 st.j4.length c7)/\fr.tmps[13]? =some (.int .i64 i)/\(zU wq base V (xs++eM st [] u n b++(st.j4.take i).flatMap (kN ss [] f u n b))/\n4 (fun j=>v.ownBlock=some j) w wq/\(V.ownBlock=v.ownBlock\/∃ j,V.ownBlock=some j/\W0.heap.size<j))/\(OB wq wr.heap.size (.slice A7 st.j4.length c7) (st.j4.map u3.byte)/\(∀ j,V.ownBlock=some j->(.slice A7 st.j4.length c7:Value).ownBlock≠some j))/\wq.heap[w.heap.size]? =some (.cells #[.slice (some ⟨bs,z5e,none⟩) ss.length c0,.int .u64 init] 38 (0,0))/\wq.heap[w.heap.size+1]? =some (.cells #[.string u,.int .u64 n,.bool b] 101 (0,0))) (st.j4.length) ?_ ?_))
 . (
 obtain ⟨s1,s3,s4,s6,F7,D1⟩:=sS
 exact ⟨0,V,rfl,Nat.zero_le _,hf,⟨s1,s3,s4,s6⟩,F7,D1,⟨by rw [List.take_zero,List.flatMap_nil,List.append_nil];exact CL,nD,mq.out⟩,⟨Bm,hvd⟩,E3,C9⟩)
 . (
 clear hf sS
 rintro gk fr wq ⟨i,V,dA,hi,hf,⟨s1,s3,s4,s6⟩,F7,D1,⟨how,l6,WX⟩,⟨Bm,hvd⟩,E3,C9⟩
 have HK:=H9 dA;clear dA
 refine Ze fun _ j8=>Ze fun _ l8=>Zr [51,52,53] hf ?_
 refine Z1 1 3 4 6 12 13 54 hf ?_
 clear hf s1 s3 s4 s6 F7 D1;intro a7 hf sS
 refine Zx l8 (Fc.l0 sS.2.2.2.2.2.2 (fun hq=> ?_) (fun hq=> ?_))
 . (
 have Ln:i<st.j4.length:=qT
 clear hq
 obtain ⟨a,X9⟩:∃ a,st.j4[i]? =some a:=⟨_,F8 Ln⟩
 obtain ⟨g7,mS,Je,hgu,y0⟩:=OB.cell (n:=st.j4.length) Bm (i:=i) (x:=a.byte) (by rw [List.getElem?_map,X9];rfl)
 subst mS
 have p0:=n5 0 E3;have p1:=n5 1 E3
 have r0:=n5 0 C9;have r1:=n5 1 C9;have r2:=n5 2 C9
 simp at p0 p1 r0 r1 r2
 have MR:=xD uC.out X9
 have eN:Below N w wq:=n4.below l6 oM (fun k hk=>by have:=(Da.out k hk).1;omega)
 have yZ:=H9 X9;have HFD:=H9 MR;have z5b:=H9 how;have WZ:=H9 WX;have HVD:=H9 hvd;have z5a:=H9 eN;clear X9 MR how WX hvd eN
 have px:=((HOS.out.2.2 a (T9 yZ.out)).2.1)
 have C7:=E9 uC.out (T9 yZ.out)
 obtain ⟨c,hc⟩:∃ c:Nat,a.to=(c:Int):=⟨a.to.toNat,oM⟩
 have Z8:c<k:=oM
 obtain ⟨n2,pP⟩:∃ y,(n+a.out)%q9=y:=⟨_,rfl⟩
 obtain ⟨b2,r8⟩:∃ y,(b&&decide (n+a.out<q9))=y:=⟨_,rfl⟩
 have mz:n2<q9:=by rw [<- pP];exact Nat.mod_lt _ dC
 obtain ⟨u2,Kb⟩:∃ y,u++bl [a.byte]=y:=⟨_,rfl⟩
 have y2t:u2.size=u.size+1:=by rw [<- Kb,ByteArray.size_append];rfl
 have pa:kN ss [] f u n b a=walkS ss [] f c u2 n2 b2:=by rw [kN,pP,r8,Kb,hc,Int.toNat_natCast]
 have UF:st.j4.take (i+1)=st.j4.take i++[a]:=by rw [List.take_add_one,yZ.out];rfl
 obtain ⟨xi,dK⟩:∃ x,(xs++eM st [] u n b++(st.j4.take i).flatMap (kN ss [] f u n b))=x:=⟨_,rfl⟩
 have mC:(xs++eM st [] u n b++(st.j4.take (i+1)).flatMap (kN ss [] f u n b))=xi++walkS ss [] f c u2 n2 b2:=by rw [UF,List.flatMap_append,List.flatMap_singleton,pa, <- List.append_assoc,dK]
 have VN:xi.length+(walkS ss [] f c u2 n2 b2).length<=40000:=by have h9:=(DK (pre:=xs) (own:=eM st [] u n b) (kN ss [] f u n b) (UF▸List.take_prefix (i+1) st.j4)).length_le;rw [<- gK L4.out,pa,dK,List.length_append,List.length_append] at h9;have:=HSZ.out;omega
 have uJ:stepV (st.j4.find? (G8 a.byte k))= .tuple #[.int .i64 (c:Nat),.int .u64 (a.out:Nat),.bool true]:=by rw [HFD.out, <- hc];rfl
 have how:=z5b.out
 rw [dK] at how
 have jZ:(bl [a.byte]).size=1:=by rw [N7];rfl
 have y1x:=H9 how;have df:=H9 jZ;have bh:=H9 pP;have my:=H9 r8;have HU2:=H9 Kb;have HC:=H9 hc;have VS:=H9 mC;have y1w:=H9 VN;have HSV:=H9 uJ;clear how jZ pP r8 Kb hc pa UF dK mC VN uJ C7 z5b HFD
 refine wp_skip (Zs j8 fun _ j8=>wp_block (Ze fun _ l8=> ?_))
 obtain ⟨s1,s3,s4,s6,F7,D1,Kx⟩:=sS
 refine Sb.tb 94 fun a6=> ?_
 have lf:=H9 fun (w9:World) (h9:Below _ _ w9)=>ad (cL h9 p0) (ad (cL h9 p1) (ad (cL h9 y0) (ad (cL h9 r0) (ad (cL h9 r1) (cL h9 r2)))))
 refine Sb.T 0 hf a6 ?_ (hF:=fun _ _ h d=>ad (Sb.O h s4) (lf.out _ h.ext))
 refine Sb.mO 1 s1 hf a6 ?_
 refine Sb.mO 2 F7 hf a6 ?_
 refine Sb.mO 3 D1 hf a6 ?_
 refine Sb.T 4 hf a6 ?_
 refine Sb.T 5 hf a6 ?_ (hF:=fun _ _ h d=>lf.out _ h.ext)
 apply Sb.tq 6 _ hf a6
 . (
 intro a7 w1 hh hd hk K Z
 have nt:=Sb.v 0 5 hd hk []
 have de:=Sb.v 1 4 hd hk []
 have vj:=Sb.v 5 0 hd hk []
 clear hd
 have L1:=lf.out _ hh.ext;(try clear p0 p1 y0 r0 r1 r2);obtain ⟨p0,p1,y0,r0,r1,r2⟩:=L1
 go_simp
 go_at_call 75;refine (JJ w1 _ init ss (mu.out w1 (z5a.out.trans (hh.ext.mono (by have:=l6.size;omega)))) k st L4.out oM (by have:=HNA.out;omega) a.byte).mono ?_;rintro e w2 ⟨rfl,hb⟩
 rw [HSV.out]
 exact Z.out _ rfl _ _ hb rfl)
 refine Sb.mN 7 6 0 hf a6 [] ?_
 refine Sb.T 8 hf a6 ?_
 refine Sb.T 9 hf a6 ?_
 refine Sb.T 10 hf a6 ?_
 refine Sb.mN 11 8 2 hf a6 [] ?_
 refine Sb.mN 12 9 2 hf a6 [] ?_
 refine Sb.mN 13 10 2 hf a6 [] ?_
 refine Sb.E hf a6 (fun _ _ h g=>ad (Sb.O h s1) (ad (Sb.O h s3) (ad (Sb.O h s4) (ad (Sb.O h s6) (ad (Sb.O h F7) (ad (Sb.O h D1) (ad (Sb.f 11 2 g) (Sb.f 12 1 g)))))))) ?_
 clear hf a6 s1 s3 s4 s6 F7 D1 Kx;intro a7 w1 hf hx sS
 have L1:=lf.out _ hx;(try clear p0 p1 y0 r0 r1 r2);clear lf;obtain ⟨p0,p1,y0,r0,r1,r2⟩:=L1
 have RR:=hx
 clear hx
 refine Zt l8 fun _ l8=> ?_
 have bB:=hf.B9 69 70 71 72 73 74 68 75 76
 iterate 5 refine Zy ?_
 refine Zc (Rz w1 n a.out b hn px) ?_;rintro e w12 ⟨rfl,eR⟩
 rw [bh.out,my.out]
 refine Zv ?_
 iterate 5 refine Zy ?_
 refine Fc.nil (tZ 1 3 4 6 12 13 14 17 18 hf ?_)
 intro a7 hf sS
 replace p0:=cL eR p0
 replace p1:=cL eR p1
 replace y0:=cL eR y0
 replace r0:=cL eR r0
 replace r1:=cL eR r1
 replace r2:=cL eR r2
 replace RR:=RR.trans (eR.mono RR.size)
 clear eR
 refine Zx l8 ?_
 obtain ⟨s1,s3,s4,s6,F7,D1,S4,G7,Q0⟩:=sS
 refine Sb.tb 94 fun a6=> ?_
 have lf:=H9 fun (w9:World) (h9:Below _ _ w9)=>ad (cL h9 p0) (ad (cL h9 p1) (ad (cL h9 y0) (ad (cL h9 r0) (ad (cL h9 r1) (cL h9 r2)))))
 refine Sb.T 0 hf a6 ?_ (hF:=fun _ _ h d=>ad (Sb.O h s4) (lf.out _ h.ext))
 refine Sb.mO 1 S4 hf a6 ?_
 refine Sb.T 2 hf a6 ?_ (hF:=fun _ _ h d=>Sb.O h s6)
 refine Sb.T 3 hf a6 ?_ (hF:=fun _ _ h d=>lf.out _ h.ext)
 refine Sb.mO 4 F7 hf a6 ?_
 refine Sb.mO 5 D1 hf a6 ?_
 refine Sb.T 6 hf a6 ?_
 refine Sb.T 7 hf a6 ?_ (hF:=fun _ _ h d=>lf.out _ h.ext)
 refine Sb.E1 (k:=8) (n:=94) (fun v V=>∃ g,v= .slice (some ⟨g,0,none⟩) 1 1/\V.cell? ⟨g,0,none⟩=some (.int .u8 a.byte)) hf.size a6.out rfl (fun v V V2 hb ⟨g,h1,h2⟩=>⟨g,h1,cL hb h2⟩) ?_ ?_
 . (
 intro a7 w1 hh hd hk K Z
 refine Sb.pl ?_
 have s84:=Sb.v 7 0 hd hk []
 clear hd
 go_simp
 exact Z.out _ rfl _ _ ((Below.refl _ _).alloc nR _) ⟨_,rfl,by simpa using n5 0 (heap_alloc_new w1 _)⟩)
 apply Sb.tq 9 _ hf a6
 . (
 intro a7 w1 hh hd hk K Z
 obtain ⟨x85,s85,y1v⟩:=Sb.use (j:=8) (m:=0) hd hk rfl [] kR rfl rfl rfl
 obtain ⟨gx,y1u,y1t⟩:=y1v
 subst y1u
 clear hd
 have iU:=JH w1 gx a.byte y1t
 go_simp
 exact Sb.k Z)
 apply Sb.tq 10 _ hf a6
 . (
 intro a7 w1 hh hd hk K Z
 have s80:=Sb.v 3 6 hd hk []
 have EP:=Sb.v 9 0 hd hk []
 clear hd
 go_simp
 try simp (disch:=omega) only [Fc.W]
 rw [if_neg (by rw [df.out];omega),HU2.out,Oper.upon_value]
 exact Sb.k Z)
 refine Sb.mO 11 G7 hf a6 ?_
 refine Sb.mO 12 Q0 hf a6 ?_
 refine Sb.T 13 hf a6 ?_
 refine Sb.qq (k:=14) (j:=16) s3 hf.size a6.out rfl rfl rfl (.inl rfl) [] kR kR ?_
 refine Tl.G5 (n:=94) (m:=15) (ws:=[(15,2,[13,10,3]),(15,3,[13,10]),(15,4,[13,10,9,8,7,6]),(15,5,[13,10,9,8,7,6]),(15,6,[13,10,9,8,7]),(15,7,[13,10,9,8]),(15,8,[13,10,9]),(15,9,[13,10]),(15,10,[13]),(15,11,[13]),(15,12,[13])]) kR hf.size a6.out rfl rfl kR (fun a7 w1 hh hg=> ?_)
 replace s1:=Sb.O hh s1
 replace s4:=Sb.O hh s4
 replace s6:=Sb.O hh s6
 replace F7:=Sb.O hh F7
 replace D1:=Sb.O hh D1
 have s77:=Tl.z7 0 14 hg rfl rfl rfl rfl rfl
 have s78:=Tl.z7 1 13 hg rfl rfl rfl rfl rfl
 have s90:=Tl.z7 13 1 hg rfl rfl rfl rfl rfl
 have s91:=Tl.z7 14 0 hg rfl rfl rfl rfl rfl
 have y5:=hh.fr hf
 have hx:=hh.ext
 have L1:=lf.out _ hx;(try clear p0 p1 y0 r0 r1 r2);clear lf;obtain ⟨p0,p1,y0,r0,r1,r2⟩:=L1
 clear hg hh hf a6 s3 S4 G7 Q0
 have hf:=y5;clear y5
 have b92:=hf.b 92
 have Cn:=RR.trans (hx.mono RR.size)
 refine Tl.J5 rfl rfl (fun K Z=> ?_)
 go_simp
 go_at_call 39;refine (ih w1 N base _ init ss c u2 n2 b2 xi V oM oM (fun wz hz=>mu.out wz (z5a.out.trans ((Cn.mono (by have:=l6.size;omega)).trans hz))) hN (by have:=l6.size;have:=Cn.size;omega) (n3 y1x.out Cn) y1w.out mz y1z.out z5g.out z5f.out VY oM).mono ?_;rintro e w2 ⟨v2,rfl,bS,r8,vV⟩
 try dsimp only
 apply Z.out;clear Z K
 refine Tl.J5 rfl rfl (fun K Z=> ?_)
 go_simp
 apply Z.out;clear Z K
 refine Tl.L8 rfl ?_
 refine F1 1 3 4 6 12 13 hf ?_
 clear hf s1 s4 s6 F7 D1 s77 s78 s90 s91 b92;intro a7 hf sS
 have DX:=(n4.of (fun j=>V.ownBlock=some j) Cn).trans r8
 have hqz:=Cn.size
 have aJ:n4 (fun j=>v.ownBlock=some j) w w2:=n4.join l6 DX (fun j hj h=>by rcases WZ.out with h2 | ⟨k2,h2,h3⟩;(rw [<- h2];exact h);(rw [h] at h2;injection h2 with h2;omega))
 have y1s:=DX.heap E3 (fun h=>by rcases WZ.out with h2 | ⟨k2,h2,h3⟩;(rw [h2] at h;have:=(Da.out _ h).2;omega);(rw [h] at h2;injection h2 with h2;omega))
 have KQ:=DX.heap C9 (fun h=>by rcases WZ.out with h2 | ⟨k2,h2,h3⟩;(rw [h2] at h;have:=(Da.out _ h).2;omega);(rw [h] at h2;injection h2 with h2;omega))
 have y1r:v2.ownBlock=v.ownBlock\/∃ j,v2.ownBlock=some j/\W0.heap.size<j:=by rcases vV with h | ⟨j,h,h2⟩;(rw [h];exact WZ.out);exact .inr ⟨j,h,oM⟩
 have UP:=u7 Bm DX (fun j hj h=>HVD.out j h hj)
 have y1q:∀ j,v2.ownBlock=some j->(.slice (some ⟨g7,0,none⟩) st.j4.length c7:Value).ownBlock≠some j:=fun j hj h=>by rcases vV with h2 | ⟨k2,h2,h3⟩;(rw [h2] at hj;exact HVD.out j hj h);(have:=(Bm.lt j h).2;rw [hj] at h2;injection h2 with h2;omega)
 refine Fc.j9 (Zx j8 ?_)
 have w8b:=HNA.out
 refine Zr [55,56] hf ?_
 refine F1 1 3 4 6 12 13 hf ?_
 intro a7 hf sS
 refine Fc.j7 ?_
 obtain ⟨s1,s3,s4,s6,F7,D1⟩:=sS
 exact ⟨_,by have:=HK.out;omega,i+1,v2,rfl,oM,hf,⟨s1,s3,s4,s6⟩,F7,by rw [D1];rfl,⟨by rw [VS.out];exact bS,aJ,y1r⟩,⟨UP,y1q⟩,y1s,KQ⟩)
 . (
 have C3:i=st.j4.length:=qF
 clear hq
 rw [C3,List.take_length,List.append_assoc, <- gK L4.out] at how
 refine Zo ?_
 refine Zs a8 fun _ a8=>Zr [93] hf ?_
 refine p5 8 hf ?_
 intro a7 hf s8
 refine Zx a8 (k8 ?_)
 exact Fc.o6 rfl hf s8 ⟨_,rfl,how,l6,WX.imp id (fun ⟨j,h1,h2⟩=>⟨j,h1,oM⟩)⟩)))
structure Sk (ss:List State):Prop where
 len:ss.length<=250
 ok:∀ s∈ss,L3 s
 Gg:∀ s∈ss,s.j4.length<=256
 formed:∀ (k:Nat) (st:State),ss[k]? =some st->okArcs k (-1) st.j4=true
def q7 (ss:List State) (init:Nat):List Wd:=walkS ss [] ss.length (ss.length-1) ⟨#[]⟩ init true
def eK (x:Wd):G9:=eX x.w x.n
theorem JL:∀ (l:List Wd) (i j:Nat) (x:Wd),l[i]? =some x->j<3->(Yn l)[i*3+j]? =([.string x.w,.int .u64 x.n,.bool x.b]:List Value)[j]?
 | [],i,_,_,h,_=>by simp at h
 | y::l,0,j,x,h,hj=>by
  obtain rfl:y=x:=by simpa using h
  show ([.string y.w,.int .u64 y.n,.bool y.b]++Yn l)[0*3+j]? =_
  rw [Nat.zero_mul,Nat.zero_add,List.getElem?_append_left (by simpa using hj)]
 | y::l,i+1,j,x,h,hj=>by
  show ([.string y.w,.int .u64 y.n,.bool y.b]++Yn l)[(i+1)*3+j]? =_
  rw [List.getElem?_append_right sO,show (i+1)*3+j-[Value.string y.w,.int .u64 y.n,.bool y.b].length=i*3+j by simp;omega]
  exact JL l i j x (by simpa using h) hj
theorem zU.at_ {w:World} {base n c:Nat} {A:Option Addr} {l:List Wd} (h:zU w base (.slice A n c) l) {i:Nat} {x:Wd} (hi:l[i]? =some x):∃ b off,A=some ⟨b,off,none⟩/\b<w.heap.size/\w.cell? ⟨b,off+i*3,none⟩=some (.string x.w)/\w.cell? ⟨b,off+i*3+1,none⟩=some (.int .u64 x.n)/\w.cell? ⟨b,off+i*3+2,none⟩=some (.bool x.b):=by
 have o9:=(H2 hi).1
 have h':=h
 unfold zU at h'
 rcases h'.2 with ⟨_,h0⟩ | ⟨g,cap,cur,he,_,hh,_⟩
 ·omega
 ·injection he with h1 h2 h3
  subst h1;subst h2;subst h3
  have k:∀ j,j<3->∀ u,([.string x.w,.int .u64 x.n,.bool x.b]:List Value)[j]? =some u->w.cell? ⟨g,i*3+j,none⟩=some u:=fun j hj u hu=>by
   rw [World.ownsRow.cellAt h' (i*3+j) oM,JL l i j x hi hj]
   exact hu
  exact ⟨g,0,rfl,j5 hh,by rw [Nat.zero_add];exact k 0 oM _ rfl,by rw [Nat.zero_add];exact k 1 oM _ rfl,by rw [Nat.zero_add];exact k 2 oM _ rfl⟩
theorem mj {α:Type} {p:α->Bool} {l:List α} {x:α} (h:x∈l) (hp:p x=false):l.all p=false:=List.all_eq_false.2 ⟨x,h,by rw [hp];decide⟩
theorem xE:∀ f,JK f
 | 0=>fun _ _ _ _ _ _ _ _ _ _ _ _ Rm=>absurd Rm (Nat.not_lt_zero _)
 | f+1=>fun w N base sv init ss k u n b xs v Rm tW o8 hN R3 how C8 hn SL DN DP VY hus=>GM w f (xE f) N base sv init ss k u n b xs v Rm tW o8 hN R3 how C8 hn SL DN DP VY hus
theorem pY (w:World) (sv:Value) (init:Nat) (ss:List State) (o8:RS w sv ss) (hF:Sk ss) (C8:(q7 ss init).length<=40000) (D7:init<q9):Calls Tryz.prog 17 #[.agg #[sv,.int .u64 init]] w fun e w1=>∃ v1,e= .returned v1/\zU w1 w.heap.size v1 (q7 ss init)/\Below w.heap.size w w1:=by
 refine L7 16 Tryz.func17 fun fr hf s0=> ?_
 obtain ⟨A,cc,rfl,U0⟩:=o8.form
 refine Ze fun _ a8=>Zr [] hf ?_
 refine p5 1 hf ?_
 clear hf s0;intro a7 hf s1
 generalize p8:w.alloc (.cells #[.slice A ss.length cc,.int .u64 init] 38)=W0
 obtain ⟨o7,c0,c1, -, -⟩:=P7 p8
 clear p8
 have R9:=o8.later o7
 clear o8
 refine Zx a8 ?_
 rcases Nat.eq_zero_or_pos ss.length with h0 | h0
 . (
 have q1:((ss.length:Int)==0)=true:=beq_iff_eq.2 oM
 have hr:q7 ss init=[]:=by unfold q7;rw [h0];rfl
 refine Ze fun _ a8=>Ze fun _ j8=>Zr [3,4,5] hf ?_
 refine y4 1 6 hf ?_
 clear hf s1;intro a7 hf sS
 refine Zx j8 (Fc.l7 sS.2 ?_)
 refine Ze fun _ j8=>Zr [] hf ?_
 refine p5 2 hf ?_
 intro a7 hf s2
 refine Zx j8 (k8 ?_)
 exact Fc.o6 rfl hf s2 ⟨_,rfl,by rw [hr];exact zU.T7 _ _,o7⟩)
 . (
 have q1:((ss.length:Int)==0)=false:=beq_eq_false_iff_ne.2 oM
 obtain ⟨k,hk⟩:∃ k,ss.length=k+1:=⟨ss.length-1,oM⟩
 have ow:=hF.len
 have e4:IntKind.i64.wrap ((ss.length:Int)-1)=(k:Int):=by rw [Fc.wrap_i64 oM oM];omega
 have Vh:walkS ss [] (k+1) k ⟨#[]⟩ init true=q7 ss init:=by unfold q7;rw [hk,Nat.add_sub_cancel]
 have HWW:=H9 Vh;have HKK:=H9 hk;have tW:k<ss.length:=oM
 clear hk Vh
 refine Ze fun _ a8=>Ze fun _ j8=>Zr [3,4,5] hf ?_
 refine y4 1 6 hf ?_
 clear hf s1;intro a7 hf sS
 refine Zx j8 (Fc.k9 sS.2 ?_)
 clear q1
 refine wp_skip (Zt a8 fun _ a8=> ?_)
 have bB:=hf.B9 7 8 9 10 11 12 13 14 15
 iterate 4 refine Zy ?_
 refine fp fun K Z=> ?_
 go_simp
 try simp (disch:=omega) only [Fc.W]
 try rw [e4]
 apply Z.out;clear Z K
 iterate 3 refine Zy ?_
 refine Zc (xE (k+1) W0 W0.heap.size W0.heap.size _ init ss k ⟨#[]⟩ init true [] (.slice none 0 0) (Nat.lt_succ_self k) tW (XJ.of R9) nR nR (zU.T7 _ _) (by rw [HWW.out,List.length_nil,Nat.zero_add];exact C8) D7 hF.ok (fun s hs=>Nat.le_trans (hF.Gg s hs) dC) hF.formed oM (by show 0+k<=100000;omega)) ?_;rintro e w3 ⟨v1,rfl,how,l6, -⟩
 rw [HWW.out,List.nil_append] at how
 have G4:Below W0.heap.size W0 w3:=n4.below l6 nR (fun k hk=>by cases hk)
 refine Zv ?_
 refine Zy ?_
 refine Fc.nil (p5 2 hf ?_)
 intro a7 hf s2
 refine Zx a8 (k8 ?_)
 exact Fc.o6 rfl hf s2 ⟨_,rfl,K7 how o7.size,o7.trans (G4.mono o7.size)⟩)
theorem SM (w:World) (sv:Value) (init:Nat) (ss:List State) (o8:RS w sv ss) (hF:Sk ss) (C8:(q7 ss init).length<=40000) (D7:init<q9):Calls Tryz.prog 123 #[.agg #[sv,.int .u64 init]] w fun e w1=>∃ g:Int,e= .returned (.tuple #[.int .u64 g,.bool ((q7 ss init).all pS&&decide (0<(q7 ss init).length))])/\Below w.heap.size w w1:=by
 refine L7 32 Tryz.func123 fun fr hf s0=> ?_
 obtain ⟨A,cc,rfl,U0⟩:=o8.form
 refine Ze fun _ a8=>Zr [] hf ?_
 refine p5 1 hf ?_
 clear hf s0;intro a7 hf s1
 generalize p8:w.alloc (.cells #[.slice A ss.length cc,.int .u64 init] 38)=W0
 obtain ⟨o7,c0,c1, -, -⟩:=P7 p8
 clear p8
 have R9:=o8.later o7
 clear o8
 refine Zt a8 fun _ a8=> ?_
 have bB:=hf.B2 7 8
 refine Zy ?_
 refine Zc (pY W0 _ init ss R9 hF C8 D7) ?_;rintro e w1 ⟨v1,rfl,how,p6⟩
 obtain ⟨l,hl⟩:∃ x,q7 ss init=x:=⟨_,rfl⟩
 rw [hl] at how C8
 obtain ⟨Aw,cw,rfl,hcw⟩:=how.form
 have qu:=H9 hl;clear hl
 refine Zv ?_
 refine Zy ?_
 refine Fc.nil (p5 4 hf ?_)
 clear hf s1 bB;intro a7 hf s4
 refine Zs a8 fun _ a8=>Zr [] hf ?_
 refine y4 4 5 hf ?_
 clear hf s4;intro a7 hf sS
 refine Zs a8 fun _ a8=>Ze fun _ j8=>Zr [] hf ?_
 refine y7 4 5 6 hf ?_
 intro a7 hf sS
 refine Zx j8 (wp_block (wp_loop_ghost (fun gk fr wr=>∃ (i:Nat) (g:Int),gk=l.length-i/\i<=l.length/\Fc.Fr 32 fr/\fr.tmps[4]? =some (.slice Aw l.length cw)/\fr.tmps[5]? =some (.int .u64 g)/\fr.tmps[6]? =some (.int .i64 i)/\(l.take i).all pS=true/\Below w1.heap.size w1 wr) (l.length) ?_ ?_))
 . (
 obtain ⟨s4,s5,s6⟩:=sS
 exact ⟨0,0,rfl,Nat.zero_le _,hf,s4,s5,s6,rfl,Below.refl _ _⟩)
 . (
 clear hf sS
 rintro gk fr wr ⟨i,g,dA,hi,hf,s4,s5,s6,Z7,hb⟩
 have HK:=H9 dA;have Xh:=H9 Z7;clear dA Z7
 have bS:=n3 how hb
 refine Ze fun _ j8=>Ze fun _ l8=>Zr [9,10,11] hf ?_
 refine z8 4 5 6 12 hf ?_
 clear hf s4 s5 s6;intro a7 hf sS
 refine Zx l8 (Fc.l0 sS.2.2.2 (fun hq=> ?_) (fun hq=> ?_))
 . (
 have o9:i<l.length:=qT
 clear hq
 obtain ⟨x,hx⟩:∃ x,l[i]? =some x:=⟨_,F8 o9⟩
 obtain ⟨bo,oo,rfl,hbo,d0,d1,d2⟩:=zU.at_ bS hx
 have HX:=H9 hx;clear hx
 refine wp_skip (Zs j8 fun _ j8=>wp_block (Ze fun _ l8=>Ze fun _ F5=>rg ?_))
 have bB:=hf.B5 15 16 17 18 19
 iterate 4 refine Zy ?_
 refine Zc (SD wr x) ?_;rintro e w6 ⟨rfl,C4⟩
 generalize mB:pS x=bx
 have HBX:=H9 mB;clear mB
 replace d1:=cL C4 d1
 refine Zv ?_
 refine Zy ?_
 refine Fc.nil (z8 4 5 6 20 hf ?_)
 intro a7 hf sS
 refine Zx F5 (Fc.l0 sS.2.2.2 (fun C5=> ?_) (fun C5=> ?_))
 . (
 have l6:bx=false:=by simpa using C5
 subst l6
 clear C5
 refine Ze fun _ F5=>Zr [] hf ?_
 refine y4 2 3 hf ?_
 intro a7 hf sS
 refine Zx F5 (k8 ?_)
 exact Fc.H6 rfl hf sS.1 sS.2 ⟨_,by rw [qu.out,mj (T9 HX.out) HBX.out];rfl,o7.trans ((p6.trans ((hb.trans (C4.mono hb.size)).mono p6.size)).mono o7.size)⟩)
 . (
 have l6:bx=true:=by simpa using C5
 subst l6
 clear C5
 refine wp_skip (Zx l8 (Zr [21,22,23,24,25,26,27] hf ?_))
 refine y7 4 5 6 hf ?_
 intro a7 hf sS
 refine Fc.j9 (Zx j8 (Zr [13,14] hf ?_))
 refine y7 4 5 6 hf ?_
 intro a7 hf sS
 refine Fc.j7 ?_
 obtain ⟨s4,s5,s6⟩:=sS
 exact ⟨_,by have:=HK.out;omega,i+1,_,rfl,oM,hf,s4,s5,by rw [s6];rfl,by rw [List.take_add_one,HX.out,List.all_append,Xh.out];simpa using HBX.out,hb.trans (C4.mono hb.size)⟩))
 . (
 have C3:i=l.length:=qF
 clear hq
 have Z7:=Xh.out
 rw [C3,List.take_length] at Z7
 refine Zo ?_
 refine Zs a8 fun _ a8=>Zr [28,29,30,31] hf ?_
 refine y4 2 3 hf ?_
 intro a7 hf sS
 refine Zx a8 (k8 ?_)
 exact Fc.H6 rfl hf sS.1 sS.2 ⟨_,by rw [qu.out,Z7,Bool.true_and],o7.trans ((p6.trans (hb.mono p6.size)).mono o7.size)⟩))
theorem y1p (w:World) (s:ByteArray) (n:Nat) (hn:n<q9):E2 w 147 #[.string s,.int .u64 n] (.tuple #[eval (eX s n),.bool (AD n)]):=by
 refine Z6 18 Tryz.func147 fun fr hf s0 s1=> ?_
 refine Ze fun _ a8=>Zr [] hf ?_
 refine y7 0 1 4 hf ?_
 clear hf s0 s1;intro a7 hf sS
 generalize p8:w.alloc (.cells #[.string ⟨#[]⟩,.int .u32 0,.bool false] 64)=W0
 obtain ⟨o7,c0,c1,c2,bK, -⟩:=E7 p8
 clear p8
 have f0:=j6 (i:=0) bK;have f1:=j6 (i:=1) bK;have f2:=j6 (i:=2) bK
 refine Zs a8 fun _ a8=>Ze fun _ j8=>Zr [6] hf ?_
 refine z8 0 1 4 7 hf ?_
 intro a7 hf sS
 refine Zx j8 (Fc.l0 sS.2.2.2 (fun hq=> ?_) (fun hq=> ?_))
 . (
 have h9:=of_decide_eq_true hq
 clear hq
 refine Ze fun _ j8=>Zr [8] hf ?_
 refine y4 4 5 hf ?_
 intro a7 hf sS
 refine Zx j8 (k8 ?_)
 refine U2 rfl hf sS.1 sS.2 (k7 (k7 (k7 bK _) _) _) Tryz.underlying64 rfl kR ⟨?_,((o7.setCell (p:=⟨w.heap.size,0,none⟩) nR _).setCell (p:=⟨w.heap.size,1,none⟩) nR _).setCell (p:=⟨w.heap.size,2,none⟩) nR _⟩
 unfold eX AD
 rw [if_pos (by omega),decide_eq_true oM]
 rfl)
 . (
 have h9:=of_decide_eq_false hq
 clear hq
 refine wp_skip (Zs a8 fun _ a8=>Ze fun _ j8=>Zr [9] hf ?_)
 refine z8 0 1 4 10 hf ?_
 intro a7 hf sS
 refine Zx j8 (Fc.l0 sS.2.2.2 (fun hq=> ?_) (fun hq=> ?_))
 . (
 have h8:=of_decide_eq_true hq
 clear hq
 refine Ze fun _ j8=>Zr [11,12] hf ?_
 refine y4 4 5 hf ?_
 intro a7 hf sS
 refine Zx j8 (k8 ?_)
 refine U2 rfl hf sS.1 sS.2 (k7 (k7 (k7 bK _) _) _) Tryz.underlying64 rfl kR ⟨?_,((o7.setCell (p:=⟨w.heap.size,0,none⟩) nR _).setCell (p:=⟨w.heap.size,1,none⟩) nR _).setCell (p:=⟨w.heap.size,2,none⟩) nR _⟩
 unfold eX AD
 rw [if_neg (by omega),if_pos (by omega),decide_eq_false oM]
 rfl)
 . (
 have h8:=of_decide_eq_false hq
 clear hq
 refine wp_skip (Zt a8 fun _ a8=> ?_)
 have bB:=hf.B5 13 14 15 16 17
 iterate 3 refine Zy ?_
 refine fp fun K Z=> ?_
 go_simp
 rw [Fc.wrap_u32 oM oM]
 apply Z.out;clear Z K
 iterate 3 refine Zy ?_
 refine Fc.nil (y4 4 5 hf ?_)
 intro a7 hf sS
 refine Zx a8 (k8 ?_)
 refine U2 rfl hf sS.1 sS.2 (k7 (k7 (k7 bK _) _) _) Tryz.underlying64 rfl kR ⟨?_,((o7.setCell (p:=⟨w.heap.size,0,none⟩) nR _).setCell (p:=⟨w.heap.size,1,none⟩) nR _).setCell (p:=⟨w.heap.size,2,none⟩) nR _⟩
 unfold eX AD
 rw [if_neg (by omega),if_neg (by omega),decide_eq_false oM]
 rw [show ((n-1:Nat):Int)=(n:Int)-1 by omega]
 rfl))
end Dw
variable {ds:List Deferred}
open Go.RowKit
open Sb (Pr Stable Is Any look look_cons_lt look_cons_eq look_ge look_rev Near Way Dep OkOps put_size put_defers put_get_ne put_get dep1 isPath near_of way_of noDst onlyDst op_plain op_guard op_skip op_skip')
namespace Stav
def Wl (p:Pr):Prop:=∀ v w w',p v w->p v w'
theorem Wl.is (V:Value):Wl (Is V):=fun _ _ _ h=>h
def Sz (o:Oper):Option Nat:=match o.dst with
 | some d=>some d
 | none=>match o.op with
  | .store _ (.tmp t) _=>some t
  | _=>none
theorem tP {o:Oper} {d:Nat} (h:o.dst=some d):Sz o=some d:=by unfold Sz;rw [h]
section
variable (P:Program) (ops:Array Oper) (Q:Exit->Act->World->Prop) (a0:Act) (w0:World) (S:Nat->Nat->Prop) (es:List Nat)
def Got (ps:List Pr) (C:Prop) (i:Nat) (a:Act) (w:World):Prop:=∃ v,(∀ (o:Oper) (d:Nat),ops[i]? =some o->Sz o=some d->a.tmps[d]? =some v)/\(C\/Wl (Sb.look ps i)->Sb.look ps i v w)
structure Here (C:Prop) (Bt:(Nat->Prop)->Prop) (a:Act) (w:World):Prop where
 ext:C->Below w0.heap.size w0 w
 but:∀ T:Nat->Prop,Bt T->n4 T w0 w
 defers:a.defers=a0.defers
 size:a.tmps.size=a0.tmps.size
 Dj:∀ t:Nat,(∀ (i:Nat) (o:Oper),ops[i]? =some o->o.dst≠some t)->a.tmps[t]? =a0.tmps[t]?
def Pure (k:Nat):Prop:=∀ m,m∈es->m=k\/Dep ops m k
def aK (k:Nat) (T:Nat->Prop):Prop:=∀ m,m∈es->m=k\/Dep ops m k\/∀ b,S m b->T b
def Safe (k j:Nat):Prop:=∀ m,m∈es->m=k\/m=j\/Dep ops m k\/Dep ops j m
def dQ (j:Nat):Prop:=∀ m,m∈es->m=j\/Dep ops j m
def Deps (ps:List Pr) (i:Nat) (a:Act) (w:World):Prop :=
 (∀ j,Dep ops i j->j<ps.length->Got ops ps (Safe ops es i j) j a w)/\∀ t:Nat,(∀ (j:Nat) (o:Oper),ops[j]? =some o->o.dst=some t->j=i\/Dep ops j i)->a.tmps[t]? =a0.tmps[t]?
def Step (ps:List Pr) (i:Nat) (p:Pr):Prop :=
 ∀ a w,Here ops a0 w0 (Pure ops es i) (aK ops S es i) a w->Deps ops a0 es ps i a w->∀ K:Act->World->Prop,
  (∀ o:Oper,ops[i]? =some o->∀ v w',(i∉es->Below w.heap.size w w')->(i∈es->n4 (S i) w w')->(∀ d,o.dst=none->Sz o=some d->a.tmps[d]? =some v)->p v w'->K (a.put o.dst v) w')->wpOp P ops Q i K a w
def Good (ps:List Pr):Prop:=(∀ i,Stable (Sb.look ps i))/\∀ i,i<ps.length->Step P ops Q a0 w0 S es ps i (Sb.look ps i)
end
section
variable {P:Program} {ops:Array Oper} {Q:Exit->Act->World->Prop} {a0:Act} {w0:World} {S:Nat->Nat->Prop} {es:List Nat} {ps:List Pr}
structure Inv (ops:Array Oper) (a0:Act) (w0:World) (S:Nat->Nat->Prop) (es:List Nat) (ps:List Pr) (listed:Array Bool) (a:Act) (w:World):Prop where
 here:Here ops a0 w0 (∀ m,m∈es->listed.getD m false=false) (fun T=>∀ m,m∈es->listed.getD m false=false\/∀ b,S m b->T b) a w
 closed:∀ (i:Nat) (o:Oper),ops[i]? =some o->listed.getD i false=true->∀ e∈o.after,Region.binds .any e=true->listed.getD e.on false=true
 AM:∀ i,i<ops.size->listed.getD i false=true->Got ops ps (∀ m,m∈es->listed.getD m false=true->m=i\/Dep ops i m) i a w
 iM:∀ t:Nat,(∀ (j:Nat) (o:Oper),ops[j]? =some o->o.dst=some t->listed.getD j false=false)->a.tmps[t]? =a0.tmps[t]?
theorem L6 {listed:Array Bool} {a:Act} {w:World} (h:Inv ops a0 w0 S es ps listed a w) {i j:Nat} (hd:Near ops i j)
  (hl:listed.getD i false=true\/i∈Region.ready .any ops listed):listed.getD j false=true:=by
 obtain ⟨o,e,hi,he,hb,hj⟩:=hd
 rw [<- hj]
 rcases hl with hl | hl
 ·exact h.closed _ _ hi hl e he hb
 ·obtain ⟨_,o',R2,J4⟩:=mem_ready.1 hl
  rw [hi] at R2
  injection R2 with R2
  subst R2
  exact J4 e he hb
theorem C1 {listed:Array Bool} {a:Act} {w:World} (h:Inv ops a0 w0 S es ps listed a w) {i j:Nat} (hd:Dep ops i j)
  (hl:listed.getD i false=true\/i∈Region.ready .any ops listed):listed.getD j false=true:=by
 obtain ⟨ks,hw⟩:=hd
 induction ks generalizing i with
 | nil=>exact L6 h hw hl
 | cons k ks ih=>exact ih (.inl (L6 h hw.1 hl)) hw.2
def We (ops:Array Oper):Prop:=∀ (k i d:Nat) (o o':Oper),ops[k]? =some o->o.dst=none->Sz o=some d->ops[i]? =some o'->o'.dst=some d->Dep ops k i
theorem jX (A8:We ops) (a6:OkOps ops a0.tmps.size) (hlen:ps.length=ops.size) (hg:Good P ops Q a0 w0 S es ps)
  (p7:∀ a w,Here ops a0 w0 (∀ m,m∈es->False) (fun T=>∀ m,m∈es->∀ b,S m b->T b) a w->(∀ i,i<ops.size->Got ops ps (dQ ops es i) i a w)->Q .normal a w) :
  ∀ (fuel:Nat) (listed:Array Bool) (a:Act) (w:World),listed.size=ops.size->(listed.toList.countP (! ·))<=fuel->Inv ops a0 w0 S es ps listed a w ->
   wpAny P .any ops Q fuel listed a w:=by
 have J4:∀ (listed:Array Bool) (a:Act) (w:World),listed.size=ops.size->Inv ops a0 w0 S es ps listed a w->Region.ready .any ops listed=[]->Q .normal a w:=by
  intro listed a w iN hI hr
  have jY:∀ n i,i<n->i<ops.size->listed.getD i false=true:=by
   intro n
   induction n with
   | zero=>intro i h;omega
   | succ n ih =>
    intro i hi N3
    by_cases D7:i<n
    ·exact ih i D7 N3
    ·have Me:i=n:=oM
     subst Me
     cases hl:listed.getD i false with
     | true=>rfl
     | false =>
      exfalso
      have Z5:i∈Region.ready .any ops listed:=by
       rw [mem_ready]
       have o9:i<listed.size:=oM
       refine ⟨by simpa [o9] using hl,ops[i],Array.getElem?_eq_getElem N3,fun e he hb=> ?_⟩
       have o9:=a6.back i ops[i] (Array.getElem?_eq_getElem N3) e he hb
       exact ih e.on o9 oM
      rw [hr] at Z5
      cases Z5
  refine p7 a w ⟨fun h=>hI.here.ext (fun m hm=>(h m hm).elim),(fun T hT=>hI.here.but T (fun m hm=> .inr (hT m hm))),hI.here.defers,hI.here.size,hI.here.Dj⟩ fun i hi=> ?_
  obtain ⟨v,h1,h2⟩:=hI.AM i hi (jY (i+1) i oM hi)
  exact ⟨v,h1,fun h=>h2 (h.imp (fun hl m hm _=>hl m hm) id)⟩
 intro fuel
 induction fuel with
 | zero =>
  intro listed a w iN hc hI
  have hr:Region.ready .any ops listed=[]:=by
   rw [List.eq_nil_iff_forall_not_mem]
   intro i hi
   obtain ⟨h0,o,ho,_⟩:=mem_ready.1 hi
   have o9:i<listed.size:=by have:=(Array.getElem?_eq_some_iff.1 ho).1;omega
   have qJ:0<listed.toList.countP (! ·):=by
    rw [List.countP_pos_iff]
    refine ⟨listed[i],sP,?_⟩
    simp [o9] at h0
    simp [h0]
   omega
  exact ⟨hr,J4 listed a w iN hI hr⟩
 | succ fuel ih =>
  intro listed a w iN hc hI
  refine ⟨J4 listed a w iN hI,fun i hi=> ?_⟩
  obtain ⟨h0,o,ho,cV⟩:=mem_ready.1 hi
  have N3:i<ops.size:=(Array.getElem?_eq_some_iff.1 ho).1
  have o9:i<listed.size:=oM
  have h0':listed[i]=false:=by simpa [o9] using h0
  have xK:listed.getD i false=false:=by simp [o9,h0']
  have dR:∀ m,Dep ops m i->listed.getD m false=false:=fun m hm=>by
   cases hl:listed.getD m false with
   | false=>rfl
   | true=>rw [C1 hI hm (.inl hl)] at xK;cases xK
  refine hg.2 i oM a w ⟨fun h=>hI.here.ext (fun m hm=>by
   rcases h m hm with rfl | h3
   ·exact xK
   ·exact dR m h3),(fun T hT=>hI.here.but T (fun m hm=>by
   rcases hT m hm with rfl | h3 | h3
   ·exact .inl xK
   ·exact .inl (dR m h3)
   ·exact .inr h3)),hI.here.defers,hI.here.size,hI.here.Dj⟩ ⟨fun j hj hjp=> ?_,fun t ht=> ?_⟩ _ (fun o' R2 v w' hb l6 htg hp=> ?_)
  ·obtain ⟨v,h1,h2⟩:=hI.AM j oM (C1 hI hj (.inr hi))
   refine ⟨v,h1,fun h=>h2 (h.imp (fun hs m hm iQ=> ?_) id)⟩
   rcases hs m hm with rfl | h3 | h3 | h3
   ·rw [xK] at iQ;cases iQ
   ·exact .inl h3
   ·rw [dR m h3] at iQ;cases iQ
   ·exact .inr h3
  ·refine hI.iM t fun j oj hj hd=> ?_
   have h9:listed.getD i false=false:=by simp [o9,h0']
   rcases ht j oj hj hd with rfl | xG
   ·exact h9
   ·cases hl:listed.getD j false with
    | false=>rfl
    | true=>rw [C1 hI xG (.inl hl)] at h9;cases h9
  ·rw [ho] at R2
   injection R2 with R2
   subst R2
   refine ih _ _ _ (by simp [iN]) ?_ ⟨⟨fun h=> ?_,fun T hT=> ?_,(put_defers ..).trans hI.here.defers,(put_size ..).trans hI.here.size,fun t ht=>(put_get_ne _ _ _ _ (ht i o ho)).trans (hI.here.Dj t ht)⟩,?_,?_,?_⟩
   ·have fB:(listed.setIfInBounds i true).toList=listed.toList.set i true:=sP
    rw [fB,List.countP_set (by simpa using o9)]
    simp [h0']
    have:0<listed.toList.countP (! ·):=by
     rw [List.countP_pos_iff]
     exact ⟨listed[i],sP,by simp [h0']⟩
    simp only [Array.countP_toList] at this hc
    omega
   ·have C3:i∉es:=fun C3=>by
     have:=h i C3
     simp [o9] at this
    have hx:=hI.here.ext (fun m hm=>by
     have:=h m hm
     rwa [getD_set_ne false (fun e=>C3 (by rw [e];exact hm))] at this)
    exact hx.trans ((hb C3).mono hx.size)
   ·have h1:=hI.here.but T (fun m hm=>by
     rcases hT m hm with h3 | h3
     ·refine .inl ?_
      by_cases Mh:i=m
      ·subst Mh;exact xK
      ·rwa [getD_set_ne false Mh] at h3
     ·exact .inr h3)
    refine h1.trans ?_
    by_cases C3:i∈es
    ·rcases hT i C3 with h3 | h3
     ·simp [o9] at h3
     ·exact (l6 C3).mono (fun k _ hs=>h3 k hs)
    ·exact n4.of T (hb C3)
   ·intro k ok hk hl e he hb
    by_cases aN:i=k
    ·subst aN
     rw [ho] at hk
     injection hk with hk
     subst hk
     exact getD_set_true (cV e he hb)
    ·rw [getD_set_ne false aN] at hl
     exact getD_set_true (hI.closed k ok hk hl e he hb)
   ·intro k hk hl
    by_cases aN:i=k
    ·subst aN
     refine ⟨v,fun tV d X1 hd=> ?_,fun _=>hp⟩
     rw [ho] at X1
     injection X1 with X1
     subst X1
     cases mi:o.dst with
     | some d' =>
      have h9:=tP mi
      rw [h9] at hd
      injection hd with hd
      subst hd
      exact put_get _ _ _ (by rw [hI.here.size];exact a6.room i o d' ho mi)
     | none=>exact htg d mi hd
    ·rw [getD_set_ne false aN] at hl
     obtain ⟨v',GN,oX⟩:=hI.AM k hk hl
     refine ⟨v',fun tV d X1 hd=> ?_,fun hc=> ?_⟩
     rotate_left
     ·by_cases C3:i∈es
      ·rcases hc with hc | hc
       ·rcases hc i C3 (by simp [o9]) with h3 | h3
        ·exact absurd h3 aN
        ·rw [C1 hI h3 (.inl hl)] at xK;cases xK
       ·exact hc _ _ _ (oX (.inr hc))
      ·refine hg.1 k _ _ _ (hb C3) (oX (hc.imp (fun hc m hm iQ=>hc m hm ?_) id))
       rw [getD_set_ne false (fun e=>C3 (by rw [e];exact hm))]
       exact iQ
     rw [put_get_ne _ _ _ _ (fun he=>by
      cases mi:tV.dst with
      | some d' =>
       have h9:=tP mi
       rw [h9] at hd
       injection hd with hd
       subst hd
       exact aN (a6.apart i k o tV d' ho X1 he mi)
      | none=>rw [C1 hI (A8 k i d tV o X1 mi hd ho he) (.inl hl)] at xK;cases xK)]
     exact GN tV d X1 hd
   ·intro t ht
    refine (put_get_ne _ _ _ _ (fun he=> ?_)).trans (hI.iM t fun j oj hj hd=> ?_)
    ·have h9:=ht i o ho he
     simp [o9] at h9
    ·have h9:=ht j oj hj hd
     by_cases gB:i=j
     ·subst gB;simp [o9] at h9
     ·rwa [getD_set_ne false gB] at h9
def D3 (P:Program) (id:Nat) (ops:Array Oper) (Q:Exit->Act->World->Prop) (a0:Act) (w0:World) (S:Nat->Nat->Prop) (es:List Nat) (ps:List Pr):Prop :=
 Good P ops Q a0 w0 S es ps->(Code.region id ops true).wp P Q a0 w0
theorem E4 {id n:Nat} {l:List Oper} (S:Nat->Nat->Prop) (es:List Nat) (a6:OkOps l.toArray n) (h:Hid (OkOps l.toArray n)->D3 P id l.toArray Q a0 w0 S es []):(Code.region id l.toArray true).wp P Q a0 w0 :=
 h (H9 a6) ⟨fun i=>Stable.any,fun i hi=>absurd hi sP⟩
theorem Y0 {id:Nat} (p:Pr) (hs:Stable p) (h:Step P ops Q a0 w0 S es ps ps.length p) (rest:D3 P id ops Q a0 w0 S es (p::ps)) (a6:OkOps ops a0.tmps.size):D3 P id ops Q a0 w0 S es ps:=by
 intro hg
 refine rest ⟨fun i=> ?_,fun i hi a w hh hd=> ?_⟩
 ·by_cases he:i=ps.length
  ·subst he;rw [look_cons_eq];exact hs
  ·have:Sb.look (p::ps) i=Sb.look ps i:=by simp [Sb.look,he]
   rw [this];exact hg.1 i
 ·have cW:Deps ops a0 es ps i a w:=⟨fun j hj zW=>by
   obtain ⟨v,hv,hp⟩:=hd.1 j hj sO
   rw [look_cons_lt zW] at hp
   exact ⟨v,hv,hp⟩,hd.2⟩
  by_cases he:i=ps.length
  ·subst he
   rw [look_cons_eq]
   exact h a w hh cW
  ·have o9:i<ps.length:=by simp at hi;omega
   rw [look_cons_lt o9]
   exact hg.2 i o9 a w hh cW
def plainK (l:List Oper) (es:List Nat) (k:Nat):Bool:= !es.contains k&&match l[k]? with | some o=>o.dst.isSome||(Sz o).isNone | none=>true
theorem MB {l:List Oper} {es:List Nat} {k:Nat} (h:plainK l es k=true):¬ k∈es:=by
 unfold plainK at h
 simp only [Bool.and_eq_true,Bool.not_eq_true'] at h
 have:=h.1
 simpa using this
theorem MC {l:List Oper} {es:List Nat} {k:Nat} (h:plainK l es k=true) {o:Oper} (ho:l[k]? =some o) {d:Nat} (h1:o.dst=none) (h2:Sz o=some d):False:=by
 unfold plainK at h
 rw [ho] at h
 simp [h1,h2] at h
def z4z (l:List Oper):Bool:=(List.range l.length).all fun k=>match l[k]? with | none=>true | some o=>o.dst.isSome||match Sz o with | none=>true | some d=>(List.range l.length).all fun i=>(match l[i]? with | some o'=>o'.dst !=some d | none=>true)||dep1 l k i
theorem We.of {l:List Oper} (h:z4z l=true):We l.toArray:=by
 intro k i d o o' hk hd ht hi hd'
 have X1:l[k]? =some o:=by simpa using hk
 have hi':l[i]? =some o':=by simpa using hi
 have tW:=(H2 X1).1
 have W8:=(H2 hi').1
 have h1:=List.all_eq_true.1 h k (by simpa using tW)
 rw [X1] at h1
 simp only [hd,Option.isSome_none,Bool.false_or,ht] at h1
 have h2:=List.all_eq_true.1 h1 i (by simpa using W8)
 rw [hi'] at h2
 simp only [hd',bne_self_eq_false,Bool.false_or] at h2
 exact ⟨[],near_of h2⟩
theorem E1 {id k n:Nat} {l:List Oper} (p:Pr) (hn:a0.tmps.size=n) (a6:OkOps l.toArray n) (hk:ps.length=k) (hs:Stable p) (hm:plainK l es k=true)
  (h:∀ a w,Here l.toArray a0 w0 (Pure l.toArray es k) (aK l.toArray S es k) a w->Hid (Deps l.toArray a0 es ps k a w)->ps.length=k->∀ K:Act->World->Prop,
   Hid (∀ o:Oper,l[k]? =some o->∀ v w',Below w.heap.size w w'->p v w'->K (a.put o.dst v) w')->wpOp P l.toArray Q k K a w)
  (rest:D3 P id l.toArray Q a0 w0 S es (p::ps)):D3 P id l.toArray Q a0 w0 S es ps:=by
 subst hn
 refine Y0 p hs ?_ rest a6
 rw [hk]
 intro a w hh hd K hK
 exact h a w hh hd hk K (fun o ho v w' hb=>hK o (by simpa using ho) v w' (fun _=>hb) (fun hi=>absurd hi (MB hm)) (fun d h1 h2=>(MC hm (by simpa using ho) h1 h2).elim))
theorem E6 {id k n:Nat} {l:List Oper} (p:Pr) (hn:a0.tmps.size=n) (a6:OkOps l.toArray n) (hk:ps.length=k) (hs:Stable p) (hm:es.contains k=true)
  (h:∀ a w,Here l.toArray a0 w0 (Pure l.toArray es k) (aK l.toArray S es k) a w->Hid (Deps l.toArray a0 es ps k a w)->ps.length=k->∀ K:Act->World->Prop,
   Hid (∀ o:Oper,l[k]? =some o->∀ v w',n4 (S k) w w'->(∀ d,o.dst=none->Sz o=some d->a.tmps[d]? =some v)->p v w'->K (a.put o.dst v) w')->wpOp P l.toArray Q k K a w)
  (rest:D3 P id l.toArray Q a0 w0 S es (p::ps)):D3 P id l.toArray Q a0 w0 S es ps:=by
 subst hn
 refine Y0 p hs ?_ rest a6
 rw [hk]
 intro a w hh hd K hK
 exact h a w hh hd hk K (fun o ho v w' l6=>hK o (by simpa using ho) v w' (fun hn=>absurd (by simpa using hm) hn) (fun _=>l6))
theorem P6 {id k n:Nat} {l:List Oper} (V:Value) (hn:a0.tmps.size=n) (a6:OkOps l.toArray n) (hk:ps.length=k) (hm:plainK l es k=true)
  (h:∀ a w,Here l.toArray a0 w0 (Pure l.toArray es k) (aK l.toArray S es k) a w->Hid (Deps l.toArray a0 es ps k a w)->ps.length=k->∀ K:Act->World->Prop,
   Hid (∀ o:Oper,l[k]? =some o->∀ v w',Below w.heap.size w w'->v=V->K (a.put o.dst v) w')->wpOp P l.toArray Q k K a w)
  (rest:D3 P id l.toArray Q a0 w0 S es (Is V::ps)):D3 P id l.toArray Q a0 w0 S es ps :=
 E1 (Is V) hn a6 hk (Stable.is V) hm h rest
def gE (l:List Oper) (es:List Nat) (k j:Nat) (ws:List (Nat×Bool×List Nat)):Bool :=
 es.all fun m=>m==k||m==j||ws.any fun x=>x.1==m&&if x.2.1 then isPath l m x.2.2 k else isPath l j x.2.2 m
theorem Safe.of {l:List Oper} {k j:Nat} (ws:List (Nat×Bool×List Nat)) (h:gE l es k j ws=true):Safe l.toArray es k j:=by
 intro m hm
 have h1:=List.all_eq_true.1 h m hm
 simp only [Bool.or_eq_true,beq_iff_eq,List.any_eq_true,Bool.and_eq_true] at h1
 rcases h1 with (h1 | h1) | ⟨x,_,h2,h3⟩
 ·exact .inl h1
 ·exact .inr (.inl h1)
 ·by_cases hx:x.2.1=true
  ·rw [if_pos hx] at h3
   exact .inr (.inr (.inl (Dep.of _ h3)))
  ·rw [if_neg hx] at h3
   exact .inr (.inr (.inr (Dep.of _ h3)))
def xL (l:List Oper) (es:List Nat) (k:Nat) (ws:List (Nat×List Nat)):Bool:=es.all fun m=>m==k||ws.any fun x=>x.1==m&&isPath l m x.2 k
theorem r5 {l:List Oper} {k:Nat} {a:Act} {w:World} (hh:Here l.toArray a0 w0 (Pure l.toArray es k) (aK l.toArray S es k) a w) (ws:List (Nat×List Nat)) (h:xL l es k ws=true):Below w0.heap.size w0 w:=by
 refine hh.ext fun m hm=> ?_
 have h1:=List.all_eq_true.1 h m hm
 simp only [Bool.or_eq_true,beq_iff_eq,List.any_eq_true,Bool.and_eq_true] at h1
 rcases h1 with h1 | ⟨x,_,_,h3⟩
 ·exact .inl h1
 ·exact .inr (Dep.of _ h3)
def Yv (l:List Oper) (es:List Nat) (k:Nat) (TD:List Nat) (ws:List (Nat×List Nat)):Bool:=es.all fun m=>m==k||TD.contains m||ws.any fun x=>x.1==m&&isPath l m x.2 k
theorem l9 {l:List Oper} {k:Nat} {a:Act} {w:World} (hh:Here l.toArray a0 w0 (Pure l.toArray es k) (aK l.toArray S es k) a w) (TD:List Nat) (ws:List (Nat×List Nat)) (h:Yv l es k TD ws=true) (T:Nat->Prop) (hT:∀ m,m∈TD->∀ b,S m b->T b):n4 T w0 w:=by
 refine hh.but T fun m hm=> ?_
 have h1:=List.all_eq_true.1 h m hm
 simp only [Bool.or_eq_true,beq_iff_eq,List.any_eq_true,Bool.and_eq_true] at h1
 rcases h1 with (h1 | h1) | ⟨x,_,_,h3⟩
 ·exact .inl h1
 ·exact .inr (.inr (hT m (by simpa using h1)))
 ·exact .inr (.inl (Dep.of _ h3))
def dS (l:List Oper) (es:List Nat) (j:Nat) (ws:List (Nat×List Nat)):Bool:=es.all fun m=>m==j||ws.any fun x=>x.1==m&&isPath l j x.2 m
theorem dQ.of {l:List Oper} {j:Nat} (ws:List (Nat×List Nat)) (h:dS l es j ws=true):dQ l.toArray es j:=by
 intro m hm
 have h1:=List.all_eq_true.1 h m hm
 simp only [Bool.or_eq_true,beq_iff_eq,List.any_eq_true,Bool.and_eq_true] at h1
 rcases h1 with h1 | ⟨x,_,h2,h3⟩
 ·exact .inl h1
 ·exact .inr (Dep.of _ h3)
theorem use {l:List Oper} {k j m d:Nat} {p:Pr} {o:Oper} {a:Act} {w:World} (hd:Hid (Deps l.toArray a0 es ps k a w)) (hk:ps.length=k) (hm:j+m+1=k)
  (ks:List Nat) (Y1:isPath l k ks j=true) (ws:List (Nat×Bool×List Nat)) (DT:gE l es k j ws=true) (hp:ps[m]? =some p) (ho:l[j]? =some o) (E0:o.dst=some d):∃ v,a.tmps[d]? =some v/\p v w:=by
 obtain ⟨v,hv,hl⟩:=hd.out.1 j (Dep.of ks Y1) oM
 refine ⟨v,hv o d (by simpa using ho) (tP E0),?_⟩
 have o9:=(H2 hp).1
 have:Sb.look ps j=p:=look_rev ps j p (by rw [List.getElem?_reverse oM];rw [<- hp];congr 1;omega)
 rw [this] at hl
 exact hl (.inl (Safe.of ws DT))
theorem fD {l:List Oper} {k j m d:Nat} {V:Value} {o:Oper} {a:Act} {w:World} (hd:Hid (Deps l.toArray a0 es ps k a w)) (hk:ps.length=k) (hm:j+m+1=k)
  (ks:List Nat) (Y1:isPath l k ks j=true) (hp:ps[m]? =some (Is V)) (ho:l[j]? =some o) (E0:o.dst=some d):a.tmps[d]? =some V:=by
 obtain ⟨v,hv,hl⟩:=hd.out.1 j (Dep.of ks Y1) oM
 have o9:=(H2 hp).1
 have:Sb.look ps j=Is V:=look_rev ps j _ (by rw [List.getElem?_reverse oM];rw [<- hp];congr 1;omega)
 rw [this] at hl
 rw [hv o d (by simpa using ho) (tP E0),show v=V from hl (.inr (Wl.is V))]
theorem E5 {id n:Nat} {l:List Oper} (hm:P.follows .mixedOrders=true) (hn:a0.tmps.size=n) (a6:OkOps l.toArray n) (hlen:ps.length=l.length)
  (p7:∀ a w,Here l.toArray a0 w0 (∀ m,m∈es->False) (fun T=>∀ m,m∈es->∀ b,S m b->T b) a w->Hid (∀ i,i<l.length->Got l.toArray ps (dQ l.toArray es i) i a w)->Q .normal a w) (A8:z4z l=true:=by kernel_rfl):D3 P id l.toArray Q a0 w0 S es ps:=by
 subst hn
 intro hg
 refine wp_region_any hm ?_
 refine jX (We.of A8) a6 (by simpa using hlen) hg (fun a w hh cW=>p7 a w hh (fun i hi=>cW i (by simpa using hi))) _ _ _ _ sP ?_ ?_
 ·exact Nat.le_trans List.countP_le_length sP
 ·refine ⟨⟨fun _=>⟨rfl,rfl,rfl,nR,fun _ _=>rfl⟩,(fun _ _=>⟨rfl,rfl,rfl,nR,fun _ _ _=>rfl⟩),rfl,rfl,fun _ _=>rfl⟩,fun i o ho hl=> ?_,fun i hi hl=> ?_,fun _ _=>rfl⟩
  ·have hi:=(Array.getElem?_eq_some_iff.1 ho).1
   simp at hi
   simp [hi] at hl
  ·simp at hi
   simp [hi] at hl
theorem xH {l:List Oper} {j m d:Nat} {p:Pr} {o:Oper} {a:Act} {w:World} (hg:Hid (∀ i,i<l.length->Got l.toArray ps (dQ l.toArray es i) i a w)) (hm:j+m+1=ps.length)
  (ws:List (Nat×List Nat)) (DT:dS l es j ws=true) (hp:ps[m]? =some p) (ho:l[j]? =some o) (E0:o.dst=some d):∃ v,a.tmps[d]? =some v/\p v w:=by
 obtain ⟨v,hv,hl⟩:=hg.out j (H2 ho).1
 refine ⟨v,hv o d (by simpa using ho) (tP E0),?_⟩
 have o9:=(H2 hp).1
 have:Sb.look ps j=p:=look_rev ps j p (by rw [List.getElem?_reverse oM];rw [<- hp];congr 1;omega)
 rw [this] at hl
 exact hl (.inl (dQ.of ws DT))
theorem MD {l:List Oper} {j m d:Nat} {p:Pr} {o:Oper} {a:Act} {w:World} (hg:Hid (∀ i,i<l.length->Got l.toArray ps (dQ l.toArray es i) i a w)) (hm:j+m+1=ps.length)
  (ws:List (Nat×List Nat)) (DT:dS l es j ws=true) (hp:ps[m]? =some p) (ho:l[j]? =some o) (E0:Sz o=some d):∃ v,a.tmps[d]? =some v/\p v w:=by
 obtain ⟨v,hv,hl⟩:=hg.out j (H2 ho).1
 refine ⟨v,hv o d (by simpa using ho) E0,?_⟩
 have o9:=(H2 hp).1
 have:Sb.look ps j=p:=look_rev ps j p (by rw [List.getElem?_reverse oM];rw [<- hp];congr 1;omega)
 rw [this] at hl
 exact hl (.inl (dQ.of ws DT))
theorem cJ {l:List Oper} {t:Nat} {x:Value} {a:Act} {w:World} {C:Prop} {Bt:(Nat->Prop)->Prop} (hh:Here l.toArray a0 w0 C Bt a w) (hn:noDst l t=true) (hx:a0.tmps[t]? =some x):a.tmps[t]? =some x:=by
 rw [hh.Dj t ?_,hx]
 intro i o ho hd
 have hm:o∈l:=by have:o∈l.toArray:=Array.mem_of_getElem? ho;simpa using this
 have:=List.all_eq_true.1 hn o hm
 simp [hd] at this
theorem mD {id k n u:Nat} {l:List Oper} {V:Value} {o:Oper} (s:a0.tmps[u]? =some V) (hn:a0.tmps.size=n) (a6:OkOps l.toArray n) (hk:ps.length=k) (tY:plainK l es k=true) (ho:l[k]? =some o) (hg:o.guard=none) (X4:o.op= .move (.tmp u)\/o.op= .assign (.tmp u)) (qH:noDst l u=true)
  (rest:D3 P id l.toArray Q a0 w0 S es (Is V::ps)):D3 P id l.toArray Q a0 w0 S es ps :=
 P6 V hn a6 hk tY (fun a w hh hd _ K hK=>op_plain ho hg (by
  have hs:=cJ hh qH s
  have he:a.eval (.tmp u)=V:=by simp [Act.eval,hs]
  have h2:=hK.out o ho V w (Below.refl _ _) rfl
  rw [<- he] at h2
  unfold Oper.wp execOp
  rcases X4 with h | h<;>rw [h]<;>exact h2)) rest
theorem mg {id k n u j m:Nat} {l:List Oper} {V:Value} {o oj:Oper} (hn:a0.tmps.size=n) (a6:OkOps l.toArray n) (hk:ps.length=k) (tY:plainK l es k=true) (ho:l[k]? =some o) (hg:o.guard=none) (X4:o.op= .move (.tmp u)\/o.op= .assign (.tmp u))
  (hm:j+m+1=k) (ks:List Nat) (Y1:isPath l k ks j=true) (hp:ps[m]? =some (Is V)) (Ys:l[j]? =some oj) (E0:oj.dst=some u)
  (rest:D3 P id l.toArray Q a0 w0 S es (Is V::ps)):D3 P id l.toArray Q a0 w0 S es ps :=
 P6 V hn a6 hk tY (fun a w hh hd hk K hK=>op_plain ho hg (by
  have hs:=fD hd hk hm ks Y1 hp Ys E0
  have he:a.eval (.tmp u)=V:=by simp [Act.eval,hs]
  have h2:=hK.out o ho V w (Below.refl _ _) rfl
  rw [<- he] at h2
  unfold Oper.wp execOp
  rcases X4 with h | h<;>rw [h]<;>exact h2)) rest
theorem u (j m:Nat) {l:List Oper} {k d:Nat} {V:Value} {o:Oper} {a:Act} {w:World} (hd:Hid (Deps l.toArray a0 es ps k a w)) (hk:ps.length=k) (hm:j+m+1=k)
  (ks:List Nat) (Y1:isPath l k ks j=true) (hp:ps[m]? =some (Is V)) (ho:l[j]? =some o) (E0:o.dst=some d):a.tmps[d]? =some V:=fD hd hk hm ks Y1 hp ho E0
theorem o {l:List Oper} {t:Nat} {x:Value} {a:Act} {w:World} {C:Prop} {Bt:(Nat->Prop)->Prop} (hh:Here l.toArray a0 w0 C Bt a w) (hn:noDst l t=true) (hx:a0.tmps[t]? =some x):a.tmps[t]? =some x:=cJ hh hn hx
theorem t (k:Nat) {id n:Nat} {l:List Oper} (V:Value) (hn:a0.tmps.size=n) (a6:OkOps l.toArray n) (hk:ps.length=k) (hm:plainK l es k=true)
  (h:∀ a w,Here l.toArray a0 w0 (Pure l.toArray es k) (aK l.toArray S es k) a w->Hid (Deps l.toArray a0 es ps k a w)->ps.length=k->∀ K:Act->World->Prop,
   Hid (∀ o:Oper,l[k]? =some o->∀ v w',Below w.heap.size w w'->v=V->K (a.put o.dst v) w')->wpOp P l.toArray Q k K a w)
  (rest:D3 P id l.toArray Q a0 w0 S es (Is V::ps)):D3 P id l.toArray Q a0 w0 S es ps:=P6 V hn a6 hk hm h rest
theorem Here.fr {ops:Array Oper} {n:Nat} {C:Prop} {Bt:(Nat->Prop)->Prop} {a:Act} {w:World} (hh:Here ops a0 w0 C Bt a w) (hf:Fc.K1 ds n a0):Fc.K1 ds n a:=⟨hh.size.trans hf.size,hh.defers.trans hf.defers⟩
end
end Stav
namespace Dw
def Wf (wr:World):Sb.Pr:=fun v w=>∃ b,v= .pointer (some ⟨b,0,none⟩)/\wr.heap.size<=b/\w.heap[b]? =some (.cells #[.string ⟨#[]⟩,.int .u32 0,.bool false] 64 (0,0))
theorem Wf.u5 (wr:World):Sb.Stable (Wf wr):=fun v w w' hb ⟨b,h1,h2,h3⟩=>⟨b,h1,h2,(hb.block _ (j5 h3)).trans h3⟩
def Wg (wr:World) (e:G9):Sb.Pr:=fun v w=>∃ b,v= .pointer (some ⟨b,0,none⟩)/\wr.heap.size<=b/\w.heap[b]? =some (.cells #[.string e.word,.int .u32 e.weight,.bool e.gone] 64 (0,0))
theorem Wg.u5 (wr:World) (e:G9):Sb.Stable (Wg wr e):=fun v w w' hb ⟨b,h1,h2,h3⟩=>⟨b,h1,h2,(hb.block _ (j5 h3)).trans h3⟩
theorem DQ (w:World) (sv:Value) (init:Nat) (ss:List State) (o8:RS w sv ss) (hF:Sk ss) (C8:(q7 ss init).length<=40000) (D7:init<q9) (J4:(q7 ss init).all pS=true) (z:ByteArray) (hz:wl z=[]) (n:Nat) (hn:n=(q7 ss init).length):Calls Tryz.prog 124 #[.agg #[sv,.int .u64 init],.string z,.int .i64 n] w fun e w1=>∃ v1,e= .returned v1/\OE w1 w.heap.size v1 ((q7 ss init).map eK)/\Below w.heap.size w w1:=by
 refine dT 59 Tryz.func124 fun fr hf s0 s1 s2=> ?_
 obtain ⟨A,cc,rfl,U0⟩:=o8.form
 refine Ze fun _ a8=>Zr [] hf ?_
 refine y7 1 2 3 hf ?_
 clear hf s0 s1 s2;intro a7 hf sS
 generalize p8:w.alloc (.cells #[.slice A ss.length cc,.int .u64 init] 38)=W0
 obtain ⟨o7,c0,c1, -, -⟩:=P7 p8
 clear p8
 have R9:=o8.later o7
 clear o8
 refine Zs a8 fun _ a8=>Zr [] hf ?_
 refine z8 1 2 3 7 hf ?_
 intro a7 hf sS
 refine Zt a8 fun _ a8=> ?_
 have bB:=hf.B2 12 13
 refine Zy ?_
 refine Zc (pY W0 _ init ss R9 hF C8 D7) ?_;rintro e wg ⟨v1,rfl,how,p6⟩
 obtain ⟨l,hl⟩:∃ x,q7 ss init=x:=⟨_,rfl⟩
 rw [hl] at how C8
 obtain ⟨Aw,cw,rfl,hcw⟩:=how.form
 have qu:=H9 hl;clear hl
 refine Zv ?_
 refine Zy ?_
 refine Fc.nil (z8 1 2 7 8 hf ?_)
 intro a7 hf sS
 refine Zs a8 fun _ a8=>Ze fun _ j8=>Zr [] hf ?_
 refine D2 1 2 7 8 9 hf ?_
 intro a7 hf sS
 refine Zx j8 (wp_block ?_)
 have Yp:∀ x∈l,pS x=true:=fun x hx=>List.all_eq_true.1 J4 x (by rw [qu.out];exact hx)
 have pP:n=l.length:=by rw [hn,qu.out]
 subst pP
 have fv:=H9 Yp;clear Yp J4 hn
 refine wp_loop_ghost (fun gk fr wr=>∃ (i:Nat) (V:Value),gk=l.length-i/\i<=l.length/\Fc.Fr 59 fr/\fr.tmps[1]? =some (.string z)/\fr.tmps[2]? =some (.int .i64 l.length)/\fr.tmps[7]? =some V/\fr.tmps[8]? =some (.slice Aw l.length cw)/\fr.tmps[9]? =some (.int .i64 i)/\OE wr wg.heap.size V ((l.take i).map eK)/\Below wg.heap.size wg wr) (l.length) ?_ ?_
 . (
 obtain ⟨s1,s2,s7,s8,s9⟩:=sS
 exact ⟨0,_,rfl,Nat.zero_le _,hf,s1,s2,s7,s8,s9,OE.T7 _ _,Below.refl _ _⟩)
 . (
 clear hf sS
 rintro gk fr wr ⟨i,V,dA,hi,hf,s1,s2,s7,s8,s9,yT,hb⟩
 have HK:=H9 dA;clear dA
 have bS:=n3 how hb
 rcases Nat.lt_or_ge i l.length with o9 | eV
 . (
 obtain ⟨xs,mC⟩:∃ x,(l.take i).map eK=x:=⟨_,rfl⟩
 have Ss:xs.length=i:=by rw [<- mC,List.length_map,List.length_take];omega
 rw [mC] at yT
 have VS:=H9 mC;clear mC
 obtain ⟨Av,cv,rfl,iU⟩:=OE.form (es:=xs) yT
 have q1:decide (i<l.length)=true:=decide_eq_true o9
 have q2:decide (xs.length<l.length)=true:=decide_eq_true oM
 have w7y:xs.length<=40000:=oM
 clear Ss
 refine Ze fun _ j8=>Ze fun _ l8=> ?_
 have qs:=And.intro q1 q2
 refine Zr [14,15,16,17,18,19,20,21,22] hf ?_
 refine F1 1 2 7 8 9 23 hf ?_
 clear hf s1 s2 s7 s8 s9 qs;intro a7 hf sS
 refine Zx l8 (Fc.l7 sS.2.2.2.2.2 ?_)
 clear q1 q2
 obtain ⟨x,hx⟩:∃ x,l[i]? =some x:=⟨_,F8 o9⟩
 obtain ⟨bo,oo,rfl,hbo,d0,d1,d2⟩:=zU.at_ bS hx
 have HX:=H9 hx;clear hx
 have BM:=fv.out x (T9 HX.out)
 have q3:(!Op.bytesLess x.w.toList z.toList)=true:=by rw [qV,hz,S8];rfl
 refine wp_skip (Zs j8 fun _ j8=>wp_block (Ze fun _ l8=> ?_))
 have qs:=q3
 refine rg ?_
 have bB:=And.intro (hf.eW 26 27 28 29 30 31 32 33 34 35) (hf.B3 36 37 38)
 iterate 6 refine Zy ?_
 refine fp fun K Z=> ?_
 go_simp
 rw [Hq]
 go_simp
 apply Z.out;clear Z K
 iterate 5 refine Zy ?_
 refine Zd (SD wr x) ?_;rintro e w6 ⟨rfl,C4⟩
 rw [BM]
 replace d0:=cL C4 d0;replace d1:=cL C4 d1;replace d2:=cL C4 d2
 replace hb:=hb.trans (C4.mono hb.size)
 replace yT:=n3 yT C4
 clear C4
 refine Zv ?_
 refine Zy ?_
 refine Fc.nil (F1 1 2 7 8 9 39 hf ?_)
 clear hf sS bB qs;intro a7 hf sS
 refine Zx l8 (Fc.l7 sS.2.2.2.2.2 ?_)
 clear q3
 have hxn:x.n<=4294967296:=Ru BM
 obtain ⟨Ee,hEe⟩:∃ y,eX x.w x.n=y:=⟨_,rfl⟩
 have HEE:=H9 hEe;clear hEe
 refine Ze fun _ l8=> ?_
 obtain ⟨s1,s2,s7,s8,s9,cR⟩:=sS
 refine Stav.E4 (n:=59) (fun _ k=>w6.heap.size<=k) [15] (Sb.OkOps.of kR) (fun a6=> ?_)
 refine Stav.mD (k:=0) s8 hf.size a6.out rfl kR rfl rfl (.inl rfl) kR ?_
 refine Stav.mD (k:=1) s9 hf.size a6.out rfl kR rfl rfl (.inl rfl) kR ?_
 apply Stav.t 2 _ hf.size a6.out rfl kR
 . (
 intro a7 w1 hh hd hk K Z
 refine Sb.pl ?_
 have At:=Stav.u 0 1 hd hk rfl [] kR rfl rfl rfl
 have s42:=Stav.u 1 0 hd hk rfl [] kR rfl rfl rfl
 have F4:=Stav.r5 hh [(15,[])] kR
 have l6:=Stav.l9 hh [] [(15,[])] kR
 clear hd hh
 go_simp
 try rw [if_pos (by omega)]
 exact Sb.k Z)
 apply Stav.t 3 _ hf.size a6.out rfl kR
 . (
 intro a7 w1 hh hd hk K Z
 refine Sb.pl ?_
 have Mb:=Stav.u 2 0 hd hk rfl [] kR rfl rfl rfl
 have F4:=Stav.r5 hh [(15,[])] kR
 have l6:=Stav.l9 hh [] [(15,[])] kR
 clear hd hh
 go_simp
 exact Sb.k Z)
 apply Stav.t 4 _ hf.size a6.out rfl kR
 . (
 intro a7 w1 hh hd hk K Z
 refine Sb.pl ?_
 have Bq:=Stav.u 3 0 hd hk rfl [] kR rfl rfl rfl
 have F4:=Stav.r5 hh [(15,[])] kR
 have l6:=Stav.l9 hh [] [(15,[])] kR
 clear hd hh
 replace d0:=cL F4 d0
 go_simp
 exact Sb.k Z)
 refine Stav.mD (k:=5) s8 hf.size a6.out rfl kR rfl rfl (.inl rfl) kR ?_
 refine Stav.mD (k:=6) s9 hf.size a6.out rfl kR rfl rfl (.inl rfl) kR ?_
 apply Stav.t 7 _ hf.size a6.out rfl kR
 . (
 intro a7 w1 hh hd hk K Z
 refine Sb.pl ?_
 have DW:=Stav.u 5 1 hd hk rfl [] kR rfl rfl rfl
 have me:=Stav.u 6 0 hd hk rfl [] kR rfl rfl rfl
 have F4:=Stav.r5 hh [(15,[])] kR
 have l6:=Stav.l9 hh [] [(15,[])] kR
 clear hd hh
 go_simp
 try rw [if_pos (by omega)]
 exact Sb.k Z)
 apply Stav.t 8 _ hf.size a6.out rfl kR
 . (
 intro a7 w1 hh hd hk K Z
 refine Sb.pl ?_
 have Jd:=Stav.u 7 0 hd hk rfl [] kR rfl rfl rfl
 have F4:=Stav.r5 hh [(15,[])] kR
 have l6:=Stav.l9 hh [] [(15,[])] kR
 clear hd hh
 go_simp
 exact Sb.k Z)
 apply Stav.t 9 _ hf.size a6.out rfl kR
 . (
 intro a7 w1 hh hd hk K Z
 refine Sb.pl ?_
 have zY:=Stav.u 8 0 hd hk rfl [] kR rfl rfl rfl
 have F4:=Stav.r5 hh [(15,[])] kR
 have l6:=Stav.l9 hh [] [(15,[])] kR
 clear hd hh
 replace d1:=cL F4 d1
 go_simp
 exact Sb.k Z)
 apply Stav.t 10 _ hf.size a6.out rfl kR
 . (
 intro a7 w1 hh hd hk K Z
 refine Sb.pl ?_
 have QR:=Stav.u 4 5 hd hk rfl [] kR rfl rfl rfl
 have GU:=Stav.u 9 0 hd hk rfl [] kR rfl rfl rfl
 have F4:=Stav.r5 hh [(15,[])] kR
 have l6:=Stav.l9 hh [] [(15,[])] kR
 clear hd hh
 go_simp
 go_at_call 147;refine (y1p w1 x.w x.n (by unfold q9;omega)).mono ?_;rintro e w2 ⟨rfl,hb⟩
 rw [HEE.out]
 simp only [eval]
 exact Z.out _ rfl _ _ hb rfl)
 refine Stav.mg (k:=11) (j:=10) (m:=0) hf.size a6.out rfl kR rfl rfl (.inl rfl) rfl [] kR rfl rfl rfl ?_
 apply Stav.t 12 _ hf.size a6.out rfl kR
 . (
 intro a7 w1 hh hd hk K Z
 refine Sb.pl ?_
 have gZ:=Stav.u 11 0 hd hk rfl [] kR rfl rfl rfl
 have F4:=Stav.r5 hh [(15,[])] kR
 have l6:=Stav.l9 hh [] [(15,[])] kR
 clear hd hh
 go_simp
 exact Sb.k Z)
 apply Stav.t 13 _ hf.size a6.out rfl kR
 . (
 intro a7 w1 hh hd hk K Z
 refine Sb.pl ?_
 have gZ:=Stav.u 11 1 hd hk rfl [] kR rfl rfl rfl
 have l6:=Stav.l9 hh [15] [] kR
 clear hd hh
 go_simp
 exact Sb.k Z)
 refine Stav.E1 (k:=14) (n:=59) (Wf w6) hf.size a6.out rfl (Wf.u5 w6) kR ?_ ?_
 . (
 intro a7 w1 hh hd hk K Z
 refine Sb.pl ?_
 have F4:=Stav.r5 hh [(15,[])] kR
 have l6:=Stav.l9 hh [] [(15,[])] kR
 clear hd hh
 go_simp
 exact Z.out _ rfl _ _ ((Below.refl _ _).alloc nR _) ⟨_,rfl,F4.size,heap_alloc_new _ _⟩)
 refine Stav.E6 (k:=15) (n:=59) (Wg w6 Ee) hf.size a6.out rfl (Wg.u5 w6 Ee) kR ?_ ?_
 . (
 intro a7 w1 hh hd hk K Z
 refine Sb.pl ?_
 obtain ⟨DU,u4,J3⟩:=Stav.use (j:=14) (m:=0) hd hk rfl [] kR [] kR rfl rfl rfl
 obtain ⟨b10,rfl,DR,eL⟩:=J3
 have iv:=Stav.u 12 2 hd hk rfl [] kR rfl rfl rfl
 have F4:=Stav.r5 hh [] kR
 have l6:=Stav.l9 hh [] [] kR
 clear hd hh
 have f0:=j6 (i:=0) eL;have f1:=j6 (i:=1) eL;have f2:=j6 (i:=2) eL
 have z0:=n5 0 eL;have z1:=n5 1 eL;have z2:=n5 2 eL
 simp at z0 z1 z2
 go_simp
 refine Z.out _ rfl (.pointer (some ⟨b10,0,none⟩)) _ (((n4.setCell DR _).trans (n4.setCell DR _)).trans (n4.setCell DR _)) (fun d _ h2=>by injection h2 with h2;subst h2;exact u4) ⟨_,rfl,DR,?_⟩;exact (k7 (k7 (k7 eL _) _) _).trans sP)
 refine Stav.mg (k:=16) (j:=13) (m:=2) hf.size a6.out rfl kR rfl rfl (.inr rfl) rfl [] kR rfl rfl rfl ?_
 refine Stav.E5 (n:=59) kR hf.size a6.out rfl (fun a7 w1 hh hg=> ?_)
 replace s1:=Stav.o hh kR s1
 replace s2:=Stav.o hh kR s2
 replace s7:=Stav.o hh kR s7
 replace s8:=Stav.o hh kR s8
 replace s9:=Stav.o hh kR s9
 obtain ⟨DU,u4,J3⟩:=Stav.MD (j:=15) (m:=1) hg rfl [] kR rfl rfl rfl
 obtain ⟨b10,rfl,DR,eL⟩:=J3
 have y5:=hh.fr hf
 have l6:=hh.but
 clear hg hh hf a6 cR
 have hf:=y5;clear y5
 replace l6:=l6 (fun k=>w6.heap.size<=k) (fun m _ b h=>h)
 have pJ:Below w6.heap.size w6 w1:=⟨l6.os,l6.tape,l6.output,l6.size,fun k hk=>l6.block k hk oM⟩
 replace yT:=n3 yT pJ
 have e0:=n5 0 eL;have e1:=n5 1 eL;have e2:=n5 2 eL
 simp at e0 e1 e2
 replace hb:=hb.trans (pJ.mono hb.size)
 obtain ⟨W7,fH⟩:∃ x,w1=x:=⟨_,rfl⟩
 subst fH
 clear l6 pJ d0 d1 d2 eL
 refine Zx l8 (rg ?_)
 have bB:=hf.B4 54 55 56 57
 iterate 3 refine Zy ?_
 clear bB
 refine Fc.nL (n:=59) (by simp only [Fc.G,hf.size]) hf.defers (fun a7 y5 hT=> ?_)
 have J8:=Fc.h7 hT 1 2 7 8 9 54 56
 simp (decide:=true) only [Fc.G,hf.size,reduceIte,s1,s2,s7,s8,s9] at J8
 replace hf:=y5;clear hT y5 s1 s2 s7 s8 s9 u4
 obtain ⟨s1,s2,s7,s8,s9,Kx,Sh⟩:=J8
 have bB:=hf.b 57
 refine ⟨?_⟩
 refine wpList_plain rfl fun K5 U6=> ?_
 refine J6 _ _ 29 rfl 64 _ 3 24 Tryz.underlying29 sU rfl dC dC wg.heap.size (.slice Av xs.length cv) xs.length _ (Fc.l5 Kx) (yT.alloc _) w1.heap.size Ee.cells (Fc.l5 Sh) rfl (E8 w1 _ _) (zF Ee) oM (by have:=hb.size;simp;omega) (fun v5 w5 X8 bN M6=>U6 _ _ ?_)
 refine Fc.L.out ?_
 refine Zy ?_
 refine Fc.nil (D2 1 2 7 8 9 hf ?_)
 clear hf s1 s2 s7 s8 s9 Kx Sh bB;intro a7 hf sS
 have aA:=(hb.alloc hb.size _).grown bN (by have:=hb.size;simp;omega) (fun kk aB=>(yT.lt kk aB).1)
 have y1o:OE w5 wg.heap.size v5 (xs++[Ee]):=by unfold OE;rw [jG,List.length_append];exact X8
 refine Fc.j9 (Zx j8 (Zr [24,25] hf ?_))
 refine D2 1 2 7 8 9 hf ?_
 intro a7 hf sS
 refine Fc.j7 ?_
 obtain ⟨s1,s2,s7,s8,s9⟩:=sS
 exact ⟨_,by have:=HK.out;omega,i+1,v5,rfl,oM,hf,s1,s2,s7,s8,by rw [s9];rfl,by rw [List.take_add_one,HX.out,List.map_append,VS.out,show (some x).toList.map eK=[Ee] from congrArg (fun y=>[y]) HEE.out];exact y1o,aA⟩)
 . (
 have q1:decide (i<l.length)=false:=decide_eq_false oM
 refine Ze fun _ j8=>Ze fun _ l8=> ?_
 have qs:=q1
 refine Zr [14,15,16,17,18,19,20,21,22] hf ?_
 refine F1 1 2 7 8 9 23 hf ?_
 clear hf s1 s2 s7 s8 s9 qs;intro a7 hf sS
 refine Zx l8 (Fc.k9 sS.2.2.2.2.2 ?_)
 clear q1
 rw [show l.take i=l by rw [show i=l.length by omega,List.take_length]] at yT
 refine Zo ?_
 refine Zs a8 fun _ a8=>Zr [58] hf ?_
 refine p5 6 hf ?_
 intro a7 hf s6
 refine Zx a8 (k8 ?_)
 exact Fc.o6 rfl hf s6 ⟨_,rfl,by rw [qu.out];exact K7 yT (Nat.le_trans o7.size p6.size),o7.trans ((p6.trans (hb.mono p6.size)).mono o7.size)⟩))
theorem ea (w:World) (sv:Value) (init:Nat) (ss:List State) (o8:RS w sv ss) (hF:Sk ss) (C8:(q7 ss init).length<=40000) (D7:init<q9):Calls Tryz.prog 78 #[.agg #[sv,.int .u64 init]] w fun e w1=>∃ v1,e= .returned (.tuple #[v1,.bool ((q7 ss init).all pS)])/\((q7 ss init).all pS=true->OE w1 w.heap.size v1 ((q7 ss init).map eK))/\Below w.heap.size w w1:=by
 refine L7 25 Tryz.func78 fun fr hf s0=> ?_
 obtain ⟨A,cc,rfl,U0⟩:=o8.form
 refine Ze fun _ a8=>Zr [] hf ?_
 refine p5 1 hf ?_
 clear hf s0;intro a7 hf s1
 generalize p8:w.alloc (.cells #[.slice A ss.length cc,.int .u64 init] 38)=W0
 obtain ⟨o7,c0,c1, -, -⟩:=P7 p8
 clear p8
 have R9:=o8.later o7
 clear o8
 refine Zt a8 fun _ a8=> ?_
 have bB:=hf.B2 7 8
 refine Zy ?_
 refine Zc (pY W0 _ init ss R9 hF C8 D7) ?_;rintro e w1 ⟨v1,rfl,how,p6⟩
 obtain ⟨A1,c1v,rfl,w7x⟩:=how.form
 clear how
 replace R9:=R9.later p6;replace c0:=cL p6 c0;replace c1:=cL p6 c1;replace o7:=o7.trans (p6.mono o7.size)
 clear p6
 refine Zv ?_
 refine Zy ?_
 refine Fc.nil (y4 1 4 hf ?_)
 clear hf s1 bB;intro a7 hf sS
 refine Zt a8 fun _ a8=> ?_
 have bB:=hf.B5 10 11 9 12 13
 refine Zy ?_
 refine Zc (SM w1 _ init ss R9 hF C8 D7) ?_;rintro e w2 ⟨g,rfl,r8⟩
 replace R9:=R9.later r8;replace c0:=cL r8 c0;replace c1:=cL r8 c1;replace o7:=o7.trans (r8.mono o7.size)
 clear r8
 generalize MZ:(q7 ss init).all pS=aw
 generalize hn:(q7 ss init).length=n
 have HN:=H9 hn;clear hn
 refine Zv ?_
 iterate 5 refine Zy ?_
 refine Fc.nil (y7 1 4 6 hf ?_)
 intro a7 hf sS
 refine Zx a8 ?_
 obtain ⟨s1,s4,s6⟩:=sS
 rw [HN.out] at s4
 rcases aw with _ | _
 . (
 have Yx:0<n:=by rcases Nat.eq_zero_or_pos n with h | h;(have h2:q7 ss init=[]:=List.eq_nil_of_length_eq_zero (HN.out.trans h);rw [h2] at MZ;cases MZ);exact h
 have q1:decide (0<n)=true:=decide_eq_true Yx
 rw [Bool.false_and] at s6
 refine Ze fun _ a8=>Ze fun _ j8=> ?_
 have qs:=q1
 refine Zr [14,15,16,17,18,19] hf ?_
 refine y7 1 4 20 hf ?_
 clear hf s1 s4 s6 qs;intro a7 hf sS
 refine Zx j8 (Fc.l7 sS.2.2 ?_)
 refine Ze fun _ j8=>Zr [] hf ?_
 refine y4 2 3 hf ?_
 intro a7 hf sS
 refine Zx j8 (k8 ?_)
 exact Fc.H6 rfl hf sS.1 sS.2 ⟨_,by rw [MZ],fun h=>(by rw [MZ] at h;cases h),o7⟩)
 . (
 rcases Nat.eq_zero_or_pos n with h0 | h0
 . (
 have q1:decide (0<n)=false:=decide_eq_false oM
 rw [Bool.true_and,q1] at s6
 refine Ze fun _ a8=>Ze fun _ j8=> ?_
 have qs:=q1
 refine Zr [14,15,16,17,18,19] hf ?_
 refine y7 1 4 20 hf ?_
 clear hf s1 s4 s6 qs;intro a7 hf sS
 refine Zx j8 (Fc.k9 sS.2.2 ?_)
 clear q1 h0
 refine wp_skip (Zt a8 fun _ a8=> ?_)
 have bB:=hf.B4 21 22 23 24
 iterate 3 refine Zy ?_
 refine Zc (DQ w2 _ init ss R9 hF C8 D7 MZ ⟨#[]⟩ rfl n HN.out.symm) ?_;rintro e w5 ⟨v5,rfl,eS,F3⟩
 refine Zv ?_
 iterate 2 refine Zy ?_
 refine Fc.nil (y4 2 3 hf ?_)
 intro a7 hf sS
 have yK:=F3
 clear F3
 refine Zx a8 (k8 ?_)
 exact Fc.H6 rfl hf sS.1 sS.2 ⟨_,by rw [MZ],fun _=>K7 eS o7.size,o7.trans (yK.mono o7.size)⟩)
 . (
 have q1:decide (0<n)=true:=decide_eq_true oM
 rw [Bool.true_and,q1] at s6
 refine Ze fun _ a8=>Ze fun _ j8=> ?_
 have qs:=q1
 refine Zr [14,15,16,17,18,19] hf ?_
 refine y7 1 4 20 hf ?_
 clear hf s1 s4 s6 qs;intro a7 hf sS
 refine Zx j8 (Fc.k9 sS.2.2 ?_)
 clear q1 h0
 refine wp_skip (Zt a8 fun _ a8=> ?_)
 have bB:=hf.B4 21 22 23 24
 iterate 3 refine Zy ?_
 refine Zc (DQ w2 _ init ss R9 hF C8 D7 MZ ⟨#[]⟩ rfl n HN.out.symm) ?_;rintro e w5 ⟨v5,rfl,eS,F3⟩
 refine Zv ?_
 iterate 2 refine Zy ?_
 refine Fc.nil (y4 2 3 hf ?_)
 intro a7 hf sS
 have yK:=F3
 clear F3
 refine Zx a8 (k8 ?_)
 exact Fc.H6 rfl hf sS.1 sS.2 ⟨_,by rw [MZ],fun _=>K7 eS o7.size,o7.trans (yK.mono o7.size)⟩))
theorem ME (n:Nat):madeCells #[.int .i64 0] n=Array.replicate n (Value.int .i64 0):=by
 refine Array.ext (by rw [size_madeCells];simp) fun k h1 h2=> ?_
 simp [madeCells,Nat.mod_one]
theorem MF (w:World) (n:Nat) (hn:n<=10000000):(Instr.makeSlice 202 (.int .i64 n) (.int .i64 n)).run Tryz.prog w= .ok (.slice (some ⟨w.heap.size,0,none⟩) n n) (w.alloc (.cells (Array.replicate n (Value.int .i64 0)) 3)):=by
 obtain ⟨i,hi,h2⟩:=Option.map_eq_some_iff.1 (show (Tryz.prog.info? 3).map (fun i=>(i.zero,i.size,i.bytes))=some (some (.int .i64 0),1,8) by kernel_rfl)
 obtain ⟨h3,h4,h5⟩:=(by simpa only [Prod.mk.injEq] using h2:_/\_/\_)
 have h:=run_makeSlice (P:=Tryz.prog) w 202 3 i _ Tryz.underlying202 hi h3 .i64 .i64 n n oM (Int.le_refl _) (by rw [h4];omega) (by rw [h5];omega) oM
 have e:(Value.int .i64 0).cells= #[.int .i64 0]:=rfl
 rw [h4,e,Int.toNat_natCast,Nat.mul_one,ME] at h
 exact h
theorem GY {w W:World} {a b c d:Array Value} {t u v x:TypeId} (h:(((w.alloc (.cells a t)).alloc (.cells b u)).alloc (.cells c v)).alloc (.cells d x)=W):Below w.heap.size w W/\W.heap[w.heap.size]? =some (.cells a t (0,0))/\W.heap[w.heap.size+1]? =some (.cells b u (0,0))/\W.heap[w.heap.size+1+1]? =some (.cells c v (0,0))/\W.heap[w.heap.size+1+1+1]? =some (.cells d x (0,0))/\W.heap.size=w.heap.size+1+1+2:=by
 subst h
 refine ⟨((((Below.refl _ _).alloc nR _).alloc sP _).alloc sO _).alloc sO _,?_,?_,?_,?_,sP⟩
 ·rw [y9,if_neg sO,y9,if_neg sO,y9,if_neg sP,y9,if_pos rfl]
 ·rw [y9,if_neg sP,y9,if_neg sP,y9,if_pos sP]
 ·rw [y9,if_neg sP,y9,if_pos sP]
 ·rw [y9,if_pos sP]
def RI (w:World) (G:Nat) (l:List Int):Prop:=w.heap[G]? =some (.cells (l.map (Value.int .i64)).toArray 3 (0,0))
theorem RI.start {w:World} {G n:Nat} {o:State->Int} {wi:Int->Int->Nat->Int} {ss:List State} (h:w.heap[G]? =some (.cells (Array.replicate n (Value.int .i64 0)) 3 (0,0))):RI w G (cN 0 n (r6 0 o wi (ss.take 0))):=by
 have e:cN (0:Int) n (r6 0 o wi (ss.take 0))=List.replicate n 0:=by simp [cN,r6]
 rw [e]
 unfold RI
 rw [List.map_replicate,List.toArray_replicate]
 exact h
theorem RI.cell {w:World} {G j:Nat} {x:Int} {l:List Int} (h:RI w G l) (hx:l[j]? =some x):w.cell? ⟨G,j,none⟩=some (.int .i64 x):=by
 have hc:=cell_of_row _ _ j _ 3 (0,0) h
 rw [hc]
 simp [hx]
theorem RI.frozen {w:World} {G j:Nat} {l:List Int} (h:RI w G l):w.frozen? ⟨G,j,none⟩=false:=j6 (i:=j) h
theorem RI.lt {w:World} {G:Nat} {l:List Int} (h:RI w G l):G<w.heap.size:=j5 h
theorem RI.later {w w':World} {G:Nat} {l:List Int} (h:RI w G l) (hb:Below w.heap.size w w'):RI w' G l:=(hb.block _ (j5 h)).trans h
theorem RI.stays {G B:Nat} {l:List Int} (hG:G<B):l3 (aF fun _=>False) B (fun W=>RI W G l):=l3.block (.inl hG)
theorem RI.set {w W:World} {G i:Nat} {l:List Int} {x:Int} (h:RI w G l) (hW:w.setCell ⟨G,i,none⟩ (.int .i64 x)=W):RI W G (l.set i x):=by
 subst hW
 have h2:=k7 (i:=i) h (.int .i64 x)
 unfold RI
 rw [h2,List.map_set]
 simp
theorem Mt {w W:World} {G i:Nat} {v:Value} (h:w.setCell ⟨G,i,none⟩ v=W):CK G w W/\KeepsOthers w W/\(∀ B,B<=G->Below B w W)/\W.heap.size=w.heap.size/\∀ k,k≠G->W.heap[k]? =w.heap[k]? :=by
 subst h
 exact ⟨(CK.refl G w).set (p:=⟨G,i,none⟩) rfl _,KeepsOthers.setCell _ _ _,fun B hB=>(Below.refl B w).setCell (p:=⟨G,i,none⟩) hB _,by simp [World.setCell],fun k hk=>Below.heap_setCell _ _ _ _ hk⟩
theorem BC {g1 g2:Nat} (o:State->Int) (wi:Int->Int->Nat->Int) (w:World) (sv:Value) (init:Nat) (ss:List State) (o8:RS w sv ss) (hlen:ss.length<=1000000) (Ok:Nat->Int->Prop) (eg1:∀ args w,(callFunc g1 args).run Tryz.prog w= .ok (.enter g1 args) w) (eg2:∀ args w,(callFunc g2 args).run Tryz.prog w= .ok (.enter g2 args) w)
    (ho:∀ i st,ss[i]? =some st->Ok i (o st)) (hw:∀ i j x c u,Ok i x->j<i->Ok j c->u<18446744073709551616->Ok i (wi x c u)) (a6:∀ s∈ss,L3 s) (D6:∀ (k:Nat) (st:State),ss[k]? =some st->okArcs k (-1) st.j4=true)
    (H8:∀ (W:World) (av:Value) (i:Nat) (st:State),ss[i]? =some st->(∃ A n c,av= .slice A n c)->Calls Tryz.prog g1 #[.agg #[av,.bool st.final,.int .u64 st.out]] W fun e W'=>e= .returned (.int .i64 (o st))/\Below W.heap.size W W')
    (Mv:∀ (W:World) (i j:Nat) (x c:Int) (u:Nat),Ok i x->j<i->Ok j c->u<18446744073709551616->Calls Tryz.prog g2 #[.int .i64 (x),.int .i64 (c),.int .u64 u] W fun e W'=>e= .returned (.int .i64 ((wi x c u)))/\Below W.heap.size W W'):E2 w 105 #[.agg #[sv,.int .u64 init],.func (.func g1) #[] #[],.func (.func g2) #[] #[]] (.int .i64 (((r6 0 o wi ss).getLastD 0))):=by
 refine xX Tryz.func105 rfl ?_
 refine Fc.en 62 fun fr hf hT=> ?_
 have s0:=hT 0 _ rfl
 have s1:=hT 1 _ rfl
 have s2:=hT 2 _ rfl
 clear hT
 obtain ⟨A,cc,rfl,U0⟩:=o8.form
 have hmk:=fun w=>MF w ss.length oM
 refine Ze fun _ a8=>Zr [] hf ?_
 refine z8 1 3 5 6 hf ?_
 clear hf s0 s1 s2;intro a7 hf sS
 refine Zs a8 fun _ a8=>Zr [12,13,14,15,7] hf ?_
 refine D2 1 3 5 6 7 hf ?_
 intro a7 hf sS
 generalize P2:(((w.alloc (.cells #[.slice A ss.length cc,.int .u64 init] 38)).alloc (.cells #[.func (.func g2) #[] #[]] 188)).alloc (.cells (Array.replicate ss.length (Value.int .i64 0)) 3)).alloc (.cells #[.slice (some ⟨w.heap.size+1+1,0,none⟩) ss.length ss.length] 202)=W1
 obtain ⟨p6,E3,C9,J1,fP,jT⟩:=GY P2
 clear P2 hmk
 obtain ⟨G,hG⟩:∃ x,w.heap.size+1+1=x:=⟨_,rfl⟩
 obtain ⟨s1,s3,s5,s6,s7⟩:=sS
 rw [hG] at J1 fP s7 jT
 have hg0:w.heap.size<G:=oM
 have Mw:w.heap.size+1<G:=oM
 have c0:=n5 0 E3;have c1:=n5 1 E3;have d0:=n5 0 C9;have e0:=n5 0 fP
 simp at c0 c1 d0 e0
 have cP:RI W1 G (cN 0 ss.length (r6 0 o wi (ss.take 0))):=RI.start J1
 have Q7:=o8.n.below p6
 clear E3 C9 J1 fP o8 hG
 refine Zs a8 fun _ a8=>Ze fun _ j8=>Zr [16,17] hf ?_
 refine mF 1 3 5 6 7 17 18 19 hf ?_
 clear hf s1 s3 s5 s6 s7;intro a7 hf sS
 refine Zx j8 (wp_block (wp_loop_ghost (fun gk fr wr=>∃ (i:Nat) (ds:List Deferred),gk=ss.length-i/\i<=ss.length/\Fc.K1 ds 62 fr/\fr.tmps[1]? =some (.func (.func g1) #[] #[])/\fr.tmps[3]? =some (.pointer (some ⟨w.heap.size,0,none⟩))/\fr.tmps[5]? =some (.pointer (some ⟨(w.heap.size+1),0,none⟩))/\fr.tmps[6]? =some (.int .i64 0)/\fr.tmps[7]? =some (.pointer (some ⟨(G+1),0,none⟩))/\fr.tmps[17]? =some (.slice A ss.length cc)/\fr.tmps[18]? =some (.int .i64 ss.length)/\fr.tmps[19]? =some (.int .i64 i)/\P8 G ds wr.heap.size wr/\CK G W1 wr/\RI wr G (cN 0 ss.length (r6 0 o wi (ss.take i)))/\pL wr w.heap.size (.slice A ss.length cc) ss/\Below w.heap.size w wr) (ss.length) ?_ ?_))
 . (
 obtain ⟨s1,s3,s5,s6,s7,G7,Q0,K9⟩:=sS
 exact ⟨0,[],rfl,Nat.zero_le _,hf,s1,s3,s5,s6,s7,G7,Q0,K9,trivial,CK.refl _ _,cP,Q7,p6⟩)
 . (
 clear hf sS
 clear cP Q7
 rintro gk fr wr ⟨i,ds,dA,hi,hf,s1,s3,s5,s6,s7,G7,Q0,K9,R8,Z8,cP,Q7,hb⟩
 have HK:=H9 dA;clear dA
 refine Ze fun _ j8=>Zr [] hf ?_
 refine tZ 1 3 5 6 7 17 18 19 20 hf ?_
 clear hf s1 s3 s5 s6 s7 G7 Q0 K9;intro a7 hf sS
 refine Zs j8 fun _ j8=>Fc.l0 sS.2.2.2.2.2.2.2.2 (fun hq=> ?_) (fun hq=> ?_)
 . (
 have o9:i<ss.length:=qT
 clear hq
 obtain ⟨st,A8⟩:∃ x,ss[i]? =some x:=⟨_,F8 o9⟩
 obtain ⟨bb,off,av,zV,hbN,C7⟩:=Q7.at_ A8
 subst zV
 have x0:=C7.c0;have x1:=C7.c1;have x2:=C7.c2
 obtain ⟨A2,c2,Z3,uG⟩:=C7.j4.form
 subst Z3
 clear C7
 have C8:=Z8.1
 refine wp_skip (Zs j8 fun _ j8=>wp_block (Ze fun _ l8=>Zr [21,22,23,8,9] hf ?_))
 refine qm 1 3 5 6 7 8 9 17 18 19 20 21 22 23 hf ?_
 intro a7 hf sS
 generalize mK:(wr.alloc (.cells #[.int .i64 i] 3)).alloc (.cells #[.slice A2 st.j4.length c2,.bool st.final,.int .u64 st.out] 46)=W4
 obtain ⟨U4,TV,iC⟩:=D8 mK
 clear mK x0 x1 x2
 have k0:=n5 0 TV;have y0:=n5 0 iC;have y1:=n5 1 iC;have y2:=n5 2 iC
 simp at k0 y0 y1 y2
 clear TV iC
 replace Z8:=Z8.trans (CK.r9 U4)
 replace R8:=R8.below U4.size U4
 replace cP:=cP.later U4
 replace Q7:=Q7.below (U4.mono hb.size)
 replace hb:=hb.trans (U4.mono hb.size)
 have mL:=Z8.2.1 _ _ sQ e0
 obtain ⟨q8,rv⟩:∃ x,wr.heap.size=x:=⟨_,rfl⟩
 have ZN:G<q8:=by rw [<- rv];omega
 obtain ⟨s1,s3,s5,s6,s7,s8,s9,G7,Q0,K9,N5,S9,X6,Q3⟩:=sS
 rw [rv] at s8 s9 k0 y0 y1 y2 C8
 refine Zs l8 fun _ l8=>Sb.tb 62 fun a6=> ?_
 have lf:=H9 fun (w9:World) (h9:Below _ _ w9)=>ad (cL h9 mL) (ad (cL h9 k0) (ad (cL h9 y0) (ad (cL h9 y1) (cL h9 y2))))
 refine Sb.T 0 hf a6 ?_ (hF:=fun _ _ h d=>ad (Sb.O h s7) (lf.out _ h.ext))
 refine Sb.T 1 hf a6 ?_ (hF:=fun _ _ h d=>ad (Sb.O h s8) (lf.out _ h.ext))
 refine Sb.mO 2 s1 hf a6 ?_
 refine Sb.T 3 hf a6 ?_ (hF:=fun _ _ h d=>ad (Sb.O h s9) (lf.out _ h.ext))
 apply Sb.tq 4 _ hf a6
 . (
 intro a7 w1 hh hd hk K Z
 have aG:=Sb.v 2 1 hd hk []
 have S0:=Sb.v 3 0 hd hk []
 clear hd
 have L1:=lf.out _ hh.ext;(try clear mL k0 y0 y1 y2);obtain ⟨mL,k0,y0,y1,y2⟩:=L1
 refine gH (g:=g1) (args:= #[.agg #[.slice A2 st.j4.length c2,.bool st.final,.int .u64 st.out]]) (by simp [execOp,go_sem,aG,S0,eg1]) (H8 _ _ _ _ A8 ⟨_,_,_,rfl⟩) ?_
 rintro e w2 ⟨rfl,hb⟩
 exact ⟨_,rfl,Z.out _ rfl _ _ hb rfl⟩)
 refine Tl.G5 (n:=62) (m:=5) (ws:=[]) kR hf.size a6.out rfl rfl kR (fun a7 w1 hh hg=> ?_)
 replace s1:=Sb.O hh s1
 replace s3:=Sb.O hh s3
 replace s5:=Sb.O hh s5
 replace s6:=Sb.O hh s6
 replace s7:=Sb.O hh s7
 replace s8:=Sb.O hh s8
 replace s9:=Sb.O hh s9
 replace G7:=Sb.O hh G7
 replace Q0:=Sb.O hh Q0
 replace K9:=Sb.O hh K9
 replace N5:=Sb.O hh N5
 replace S9:=Sb.O hh S9
 replace X6:=Sb.O hh X6
 replace Q3:=Sb.O hh Q3
 have dL:=Tl.z7 0 4 hg rfl rfl rfl rfl rfl
 have Z9:=Tl.z7 1 3 hg rfl rfl rfl rfl rfl
 have aG:=Tl.z7 2 2 hg rfl rfl rfl rfl rfl
 have S0:=Tl.z7 3 1 hg rfl rfl rfl rfl rfl
 have bT:=Tl.z7 4 0 hg rfl rfl rfl rfl rfl
 have y5:Fc.K1 ds 62 a7:=⟨hh.size.trans hf.size,hh.defers.trans hf.defers⟩
 have hx:=hh.ext
 have L1:=lf.out _ hx;(try clear mL k0 y0 y1 y2);clear lf;obtain ⟨mL,k0,y0,y1,y2⟩:=L1
 clear hg hh hf a6
 have hf:=y5;clear y5
 have ML:=hf.b 29
 replace Z8:=Z8.trans (CK.r9 hx)
 replace R8:=R8.below hx.size hx
 replace cP:=cP.later hx
 replace Q7:=Q7.below (hx.mono hb.size)
 replace hb:=hb.trans (hx.mono hb.size)
 have JZ:(r6 0 o wi (ss.take i)).length=i:=S3 i hi
 have fz:=cP.frozen (j:=i)
 have TY:=cP.cell (F8 (by rw [qX oM];exact o9))
 refine Tl.J5 rfl rfl (fun K Z=> ?_)
 go_simp
 try rw [if_pos (by omega)]
 apply Z.out;clear Z K
 refine Tl.J5 rfl rfl (fun K Z=> ?_)
 go_simp
 apply Z.out;clear Z K
 refine Tl.L8 rfl ?_
 refine Fc.q hf (by simp only [Fc.G]) rfl fun a7 y5 hT=> ?_
 have J8:_/\_/\_/\_/\_/\_/\_/\_/\_/\_/\_/\_/\_/\_/\_/\_/\_/\_/\_/\_:=⟨hT 1,hT 3,hT 5,hT 6,hT 7,hT 8,hT 9,hT 17,hT 18,hT 19,hT 20,hT 21,hT 22,hT 23,hT 24,hT 25,hT 26,hT 27,hT 28,hT 29⟩
 simp (decide:=true) only [Fc.G,hf.size,reduceIte,s1,s3,s5,s6,s7,s8,s9,G7,Q0,K9,N5,S9,X6,Q3,dL,Z9,aG,S0,bT] at J8
 replace hf:=y5;clear hT y5 s1 s3 s5 s6 s7 s8 s9 G7 Q0 K9 N5 S9 X6 Q3 dL Z9 aG S0 bT ML
 obtain ⟨s1,s3,s5,s6,s7,s8,s9,G7,Q0,K9,N5,S9,X6,Q3,dL,Z9,aG,S0,bT,cT⟩:=J8
 refine Zx l8 ?_
 generalize cS:w1.setCell ⟨G,i,none⟩ (.int .i64 (o st))=W5
 obtain ⟨cB, -,jZ,Wm,TW⟩:=Mt cS
 replace Z8:=Z8.trans cB
 replace R8:=R8.turn (Nat.le_of_eq Wm.symm) fun D hD _ hh=>(TW D oM).trans hh
 replace cP:=cP.set cS
 replace Q7:=Q7.ck oM cB
 replace hb:=hb.trans (jZ _ oM)
 have Mx:=Z8.2.1 _ _ sQ c0;have c1w:=Z8.2.1 _ _ sQ c1
 replace k0:=cB.2.1 _ _ sQ k0
 clear mL y0 y1 y2 fz TY cS hx TW jZ
 have My:=Q7.rs
 refine Ze fun _ l8=>rg ?_
 have bB:=hf.B2 30 31
 iterate 2 refine Zy ?_
 refine Zc (xY W5 _ init i ss My) ?_;rintro e W6 ⟨rfl,u0,u1,v0,C4, -, -⟩
 have hN6:w.heap.size<=W5.heap.size:=hb.size
 clear My cB
 have ZP:=cP.lt
 replace Z8:=Z8.trans (CK.r9 C4)
 replace R8:=R8.below C4.size C4
 replace cP:=cP.later C4
 replace Q7:=Q7.below (C4.mono hb.size)
 replace hb:=hb.trans (C4.mono hb.size)
 replace k0:=cL C4 k0
 obtain ⟨q6,EB⟩:∃ x,W5.heap.size=x:=⟨_,rfl⟩
 have ru:G<q6:=by rw [<- EB];exact ZP
 rw [EB] at u0 u1 v0 |-
 skip
 refine Zv ?_
 refine Fc.nil ?_
 clear bB
 refine Fc.q hf (by simp only [Fc.G]) rfl fun a7 y5 hT=> ?_
 have J8:_/\_/\_/\_/\_/\_/\_/\_/\_/\_/\_/\_/\_/\_/\_/\_/\_/\_/\_/\_/\_/\_/\_:=⟨hT 1,hT 3,hT 5,hT 6,hT 7,hT 8,hT 9,hT 17,hT 18,hT 19,hT 20,hT 21,hT 22,hT 23,hT 24,hT 25,hT 26,hT 27,hT 28,hT 29,hT 30,hT 31,hT 32⟩
 simp (decide:=true) only [Fc.G,hf.size,reduceIte,s1,s3,s5,s6,s7,s8,s9,G7,Q0,K9,N5,S9,X6,Q3,dL,Z9,aG,S0,bT,cT] at J8
 replace hf:=y5;clear hT y5 s1 s3 s5 s6 s7 s8 s9 G7 Q0 K9 N5 S9 X6 Q3 dL Z9 aG S0 bT cT
 obtain ⟨s1,s3,s5,s6,s7,s8,s9,G7,Q0,K9,N5,S9,X6,Q3,dL,Z9,aG,S0,bT,cT,kG,Mz,TX⟩:=J8
 refine Zx l8 (wp_block ?_)
 have ZQ:G<W6.heap.size:=cP.lt
 have rq:w.heap.size<=W6.heap.size:=hb.size
 have Z7:=D6 _ _ A8
 have MM:=vM (9-1) q6 (q6+1) G w.heap.size init i ss st _ W6 oM ZQ rq (by have:=ru;omega) (by have:=ru;omega) u0 u1 v0 Q7 A8 oM Z7 (Nat.le_trans (qY Z7 (a6 _ (T9 A8))) oM)
 refine (wpIn_wide (n:=9)).1 ?_
 refine dX (C:=fun _=>False) (Fc.l5 TX) (enters_of Tryz.func156 kR rfl) MM CK.trans (fun W o o' ho hc _=>CK.put o' ho hc) (Below.refl _ _) (fun _=>rfl) (fun pre W=>CK G W6 W/\RI W G (((cN 0 ss.length (r6 0 o wi (ss.take i)))).set i (bF 0 wi (r6 0 o wi (ss.take i)) (o st) pre))/\Below w.heap.size w W/\P8 G ds W6.heap.size W) (fun _ _ _=>False) (fun s=>l3.and l3.ck (l3.and (RI.stays ZQ) (l3.and (l3.below nR rq) (l3.rp nR)))) (fun _ _=>l3.pure _ _ _) ⟨CK.refl _ _,cP,hb,R8⟩ (fun (x:u3) a' W=>∃ Bx,(Fc.Fr 62 a'/\a'.tmps[5]? =some (.pointer (some ⟨(w.heap.size+1),0,none⟩))/\a'.tmps[7]? =some (.pointer (some ⟨(G+1),0,none⟩))/\a'.tmps[8]? =some (.pointer (some ⟨q8,0,none⟩))/\a'.tmps[11]? =some (.pointer (some ⟨Bx,0,none⟩)))/\(W.cell? ⟨Bx,0,none⟩=some (.int .i64 x.to)/\W.cell? ⟨Bx,1,none⟩=some (.int .u64 x.out))) (fun x a'=>l3.ex fun Bx=>l3.and (l3.pure _ _ _) (l3.and l3.cell l3.cell)) ?_ ?_ ?_ ?_
 . (
 rintro l pre x W K ⟨uH,xZ,F9,Jb⟩ ZR
 refine pM (M:=fun a=>Code.wpIn _ _ _ _ _ a _) hf rfl rfl rfl fun a1 y5 h33 rm hold=> ?_
 have s5:=(hold 5 rfl rfl).trans s5;have s7:=(hold 7 rfl rfl).trans s7;have s8:=(hold 8 rfl rfl).trans s8;have Wn:=rm
 clear hold h33 rm
 have hf:=y5;clear y5
 refine Inr.MN (r:=some l) ?_
 have ma:=hf.b 11
 refine Inr.dM fun K Z=> ?_
 go_simp
 apply Z.out;clear Z K
 refine Inr.dM fun K Z=> ?_
 go_simp
 apply Z.out;clear Z K
 refine Inr.mM ?_
 refine z8 5 7 8 11 hf ?_
 clear hf s5 s7 s8 Wn ma;intro a7 hf sS
 refine Fc.j7 ?_
 generalize fH:W.alloc (.cells #[.int .i64 x.to,.int .u64 x.out] 233)=W7
 obtain ⟨B1,b0,b1, -, -⟩:=P7 fH
 obtain ⟨s5,s7,s8,D9⟩:=sS
 exact ZR _ _ ((L9 B1).from _) (CK.r9 B1) ⟨uH.trans (CK.r9 B1),xZ.later B1,F9.trans (B1.mono F9.size),Jb.turn nR fun D _ _ hh=>(B1.block D (j5 hh)).trans hh⟩ ⟨_,⟨hf,s5,s7,s8,D9⟩,b0,b1⟩)
 . (
 clear hf s1 s3 s5 s6 s7 s8 s9 G7 Q0 K9 N5 S9 X6 Q3 dL Z9 aG S0 bT cT kG Mz TX
 rintro l pre x a1 W hl _ ⟨uH,xZ,F9,Jb⟩ ⟨Bx,⟨hf,s5,s7,s8,D9⟩,z0,z1⟩ yA
 have MP:x∈st.j4:=yA.subset sP
 have hxt:=E9 Z7 MP
 obtain ⟨c,hc⟩:∃ c:Nat,x.to=(c:Int):=⟨x.to.toNat,oM⟩
 rw [hc] at z0
 have TY:c<i:=oM
 have rk:=GZ (z:=0) ho hw a6 D6 A8 pre ((List.prefix_append _ _).trans yA)
 have rj:=fQ (z:=0) ho hw a6 D6 i hi c ((r6 0 o wi (ss.take i)).getD c 0) (by rw [List.getD_eq_getElem?_getD,F8 oM];rfl)
 have DV:=((a6 _ (T9 A8)).2.2 x MP).2.1
 have kH:=dY (z:=0) (wi:=wi) (r6 0 o wi (ss.take i)) (o st) pre x
 rw [show x.to.toNat=c by omega] at kH
 obtain ⟨X,hX⟩:∃ y,bF 0 wi (r6 0 o wi (ss.take i)) (o st) pre=y:=⟨_,rfl⟩
 obtain ⟨Y,hY⟩:∃ y,(r6 0 o wi (ss.take i)).getD c 0=y:=⟨_,rfl⟩
 rw [hX] at rk kH xZ
 rw [hY] at rj kH
 have rx:=Ga (z:=0) (n:=ss.length) X JZ o9
 have ry:=Aq (z:=0) (n:=ss.length) X JZ TY
 rw [hY] at ry
 have r1:=xZ.cell (rx)
 have r2:=xZ.cell (ry)
 clear rx ry
 have NA:=uH.2.1 _ _ sQ (Z8.2.1 _ _ sQ d0);have mL:=uH.2.1 _ _ sQ (Z8.2.1 _ _ sQ e0);have NB:=uH.2.1 _ _ (by simp only;have:=ZN;omega) k0
 have HX:=H9 hX;have HY:=H9 hY;have HC:=H9 hc;have Jc:=H9 kH;clear hX hY hc kH
 refine wpIn_block ?_
 refine Inr.EC (r:=some l) (k:=62) (fun ⟨_,_,h⟩=>h) (Sb.OkOps.of kR) (fun a6=> ?_)
 have lf:=H9 fun (w9:World) (h9:Below _ _ w9)=>ad (cL h9 NA) (ad (cL h9 mL) (ad (cL h9 NB) (ad (cL h9 z0) (ad (cL h9 z1) (ad (cL h9 r1) (cL h9 r2))))))
 refine Sb.T 0 hf a6 ?_ (hF:=fun _ _ h d=>ad (Sb.O h s7) (lf.out _ h.ext))
 refine Sb.T 1 hf a6 ?_ (hF:=fun _ _ h d=>ad (Sb.O h s8) (lf.out _ h.ext))
 refine Sb.T 2 hf a6 ?_ (hF:=fun _ _ h d=>ad (Sb.O h s5) (lf.out _ h.ext))
 refine Sb.T 3 hf a6 ?_ (hF:=fun _ _ h d=>ad (Sb.O h s7) (lf.out _ h.ext))
 refine Sb.T 4 hf a6 ?_ (hF:=fun _ _ h d=>ad (Sb.O h s8) (lf.out _ h.ext))
 refine Sb.T 5 hf a6 ?_
 refine Sb.T 6 hf a6 ?_ (hF:=fun _ _ h d=>lf.out _ h.ext)
 refine Sb.T 7 hf a6 ?_ (hF:=fun _ _ h d=>ad (Sb.O h s7) (lf.out _ h.ext))
 refine Sb.T 8 hf a6 ?_ (hF:=fun _ _ h d=>Sb.O h D9)
 refine Sb.T 9 hf a6 ?_ (hF:=fun _ _ h d=>lf.out _ h.ext)
 refine Sb.T 10 hf a6 ?_
 refine Sb.T 11 hf a6 ?_ (hF:=fun _ _ h d=>lf.out _ h.ext)
 refine Sb.T 12 hf a6 ?_ (hF:=fun _ _ h d=>Sb.O h D9)
 refine Sb.T 13 hf a6 ?_ (hF:=fun _ _ h d=>lf.out _ h.ext)
 apply Sb.tq 14 _ hf a6
 . (
 intro a7 w1 hh hd hk K Z
 have ZV:=Sb.v 2 11 hd hk []
 have At:=Sb.v 6 7 hd hk []
 have DW:=Sb.v 11 2 hd hk []
 have Jd:=Sb.v 13 0 hd hk []
 clear hd
 have L1:=lf.out _ hh.ext;(try clear NA mL NB z0 z1 r1 r2);obtain ⟨NA,mL,NB,z0,z1,r1,r2⟩:=L1
 refine gH (g:=g2) (args:= #[.int .i64 (X),.int .i64 (Y),.int .u64 x.out]) (by simp [execOp,go_sem,ZV,At,DW,Jd,eg2]) (Mv _ i c X Y x.out rk TY rj DV) ?_
 rintro e w2 ⟨rfl,N0⟩
 exact ⟨_,rfl,Z.out _ rfl _ _ N0 rfl⟩)
 refine Tl.G5 (n:=62) (m:=15) (ws:=[]) kR hf.size a6.out rfl rfl kR (fun a7 w1 hh hg=> ?_)
 have ZW:=Tl.z7 0 14 hg rfl rfl rfl rfl rfl
 have vN:=Tl.z7 1 13 hg rfl rfl rfl rfl rfl
 have zY:=Tl.z7 14 0 hg rfl rfl rfl rfl rfl
 have y5:=hh.fr hf
 have hx:=hh.ext
 have L1:=lf.out _ hx;(try clear NA mL NB z0 z1 r1 r2);clear lf;obtain ⟨NA,mL,NB,z0,z1,r1,r2⟩:=L1
 clear hg hh hf a6 s5 s7 s8 D9
 have hf:=y5;clear y5
 have b50:=hf.b 50
 have ZX:=xZ.later hx
 have fz:=ZX.frozen (j:=i)
 refine Tl.J5 rfl rfl (fun K Z=> ?_)
 go_simp
 try rw [if_pos (by omega)]
 apply Z.out;clear Z K
 refine Tl.J5 rfl rfl (fun K Z=> ?_)
 go_simp
 apply Z.out;clear Z K
 refine Tl.L8 rfl ?_
 refine Dq hf ?_
 clear hf ZW vN zY b50;intro a7 hf
 refine Fc.j9 ?_
 generalize mP:w1.setCell ⟨G,i,none⟩ (.int .i64 (wi X Y x.out))=W9
 obtain ⟨cB,hko,jZ, -,TW⟩:=Mt mP
 refine ⟨((L9 hx).trans hko).from _,(CK.r9 hx).trans cB,(uH.trans (CK.r9 hx)).trans cB,?_,(F9.trans (hx.mono F9.size)).trans (jZ _ oM),(Jb.turn nR fun D _ _ hh=>(hx.block D (j5 hh)).trans hh).turn nR fun D hD _ hh=>(TW D oM).trans hh⟩
 have h:=ZX.set mP
 rw [List.set_set] at h
 rw [Jc.out]
 exact h)
 . (
 clear k0
 rintro D xs W hD rfl ⟨uH,xZ,F9,Jb⟩ ED
 refine Fc.reQ (n:=62) (ds:={ target:= .collected D,args:= #[] }::ds) hf.size (by rw [hf.defers]) (fun Wp Az hT=> ?_)
 have s1:=(hT 1).trans s1
 have s3:=(hT 3).trans s3
 have s5:=(hT 5).trans s5
 have s6:=(hT 6).trans s6
 have s7:=(hT 7).trans s7
 have G7:=(hT 17).trans G7
 have Q0:=(hT 18).trans Q0
 have K9:=(hT 19).trans K9
 clear hT hf
 have hf:=Az;clear Az
 replace Z8:=Z8.trans uH
 replace Q7:=Q7.ck oM uH
 rw [vP _ JZ o9, <- T0 A8] at xZ
 have ZY:P8 G ({ target:= .collected D,args:= #[] }::ds) W.heap.size W:=⟨D,rfl,Nat.lt_of_lt_of_le ZQ hD,j5 ED,ED,Jb.turn hD fun _ _ _ hh=>hh⟩
 clear R8 uH Jb cP hb MM u0 u1 v0 ED
 refine Fc.j9 (Fc.j9 (Zx j8 (Zr [51] hf ?_)))
 refine tZ 1 3 5 6 7 17 18 19 51 hf ?_
 clear hf s1 s3 s5 s6 s7 G7 Q0 K9;intro a7 hf sS
 refine Fc.j7 ?_
 obtain ⟨s1,s3,s5,s6,s7,G7,Q0,K9,qQ⟩:=sS
 exact ⟨_,by have:=HK.out;omega,i+1,_,rfl,oM,hf,s1,s3,s5,s6,s7,G7,Q0,by rw [K9];rfl,ZY,Z8,xZ,Q7,F9⟩)
 . (
 rintro D c pre W _ _ h _
 exact h.elim))
 . (
 have C3:i=ss.length:=qF
 clear hq
 rw [C3,List.take_length] at cP
 have mL:=Z8.2.1 _ _ sQ e0
 rw [vQ (P3 _)] at cP
 refine Zo ?_
 refine Zs a8 fun _ a8=>Ze fun _ j8=>Zr [52,53] hf ?_
 refine y7 6 7 54 hf ?_
 intro a7 hf sS
 refine Zx j8 (Fc.l0 sS.2.2 (fun C5=> ?_) (fun C5=> ?_))
 . (
 obtain ⟨k,hk⟩:∃ k,ss.length=k+1:=⟨ss.length-1,by have h9:=of_decide_eq_true C5;omega⟩
 clear C5
 have e4:IntKind.i64.wrap ((ss.length:Int)-1)=(k:Int):=by rw [Fc.wrap_i64 oM oM];omega
 have TZ:=P3 (z:=0) (o:=o) (wi:=wi) ss
 have tW:k<(r6 0 o wi ss).length:=oM
 have r1:=cP.cell (F8 tW)
 have Je:(r6 0 o wi ss).getLastD 0=(r6 0 o wi ss)[k]:=by rw [List.getLastD_eq_getLast?,List.getLast?_eq_getElem?,TZ,hk,Nat.add_sub_cancel,F8 tW];rfl
 obtain ⟨X,hX⟩:∃ y,(r6 0 o wi ss)[k]=y:=⟨_,rfl⟩
 rw [hX] at Je r1
 refine rg ?_
 have bB:=hf.B6 55 56 57 58 59 60
 iterate 3 refine Zy ?_
 refine fp fun K Z=> ?_
 go_simp
 try simp (disch:=omega) only [Fc.W]
 try rw [e4]
 apply Z.out;clear Z K
 iterate 3 refine Zy ?_
 refine Fc.nil (p5 6 hf ?_)
 intro a7 hf s6
 refine Zs a8 fun _ a8=>Zr [61] hf ?_
 refine p5 6 hf ?_
 clear hf s6;intro a7 hf s6
 refine Zx a8 (k8 ?_)
 exact z6b rfl hf s6 R8 fun w' hw=>⟨by rw [Je],hb.trans (hw.mono oM)⟩)
 . (
 have Yx:ss=[]:=by have h9:=of_decide_eq_false C5;exact List.length_eq_zero_iff.1 oM
 clear C5
 refine wp_skip (Zs a8 fun _ a8=>Zr [61] hf ?_)
 refine p5 6 hf ?_
 intro a7 hf s6
 refine Zx a8 (k8 ?_)
 exact z6b rfl hf s6 R8 fun w' hw=>⟨by rw [Yx];rfl,hb.trans (hw.mono oM)⟩)))
end Dw
end Go.Proofs.YtcddnmhmcieebaaGreatDoor
