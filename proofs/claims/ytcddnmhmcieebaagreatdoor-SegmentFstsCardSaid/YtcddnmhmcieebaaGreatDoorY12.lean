import Derived.Test.YtcddnmhmcieebaaGreatDoorY11
namespace Go.Proofs.YtcddnmhmcieebaaGreatDoor
set_option linter.unusedSimpArgs false
set_option linter.unusedVariables false
set_option linter.unnecessarySimpa false
set_option maxHeartbeats 4000000
set_option maxRecDepth 100000
open Go.RowKit
namespace Dw
theorem Bh (w:World) (l:List Nat):(convert 31 9 (.slice (some ⟨w.heap.size,0,none⟩) l.length l.length)).run Tryz.prog (w.alloc (.cells (lZ l).toArray 5))= .ok (.string (bl l)) (w.alloc (.cells (lZ l).toArray 5)):=by
 refine run_convert_bytes_arg (P:=Tryz.prog) _ 31 5 Tryz.underlying31 Tryz.underlying5 w.heap.size 0 l.length l.length (l.map fun (x:Nat)=>(x:Int)) sP (fun i hi=> ?_) 9 Tryz.underlying9
 rw [Nat.zero_add,E8 w (lZ l) 5 i (.int .u8 (l[i]:Nat)) (by unfold lZ;rw [List.getElem?_map,F8 hi];rfl)]
 simp [hi]
theorem UJ {n a b c d qa qb qc qd:Nat} (ha:qa%256=a) (hb:qb%256=b) (hc:qc%256=c) (hd:qd%256=d) (h1:n=qa) (h2:n / 256=qb) (h3:n / 65536=qc) (h4:n / 16777216=qd):Crc.four n=[a,b,c,d]:=by
 unfold Crc.four
 rw [h2,h3,h4,hb,hc,hd,h1,ha]
theorem yM {l:List Nat} (h:l.length<4):Crc.opened l=none:=by
 unfold Crc.opened
 rw [if_neg (by omega)]
theorem yN (l:List Nat) (n:Nat) (h:l.length=n+4):Crc.opened l=none\/Crc.opened l=some (l.take n):=by
 unfold Crc.opened
 split
 ·right;rw [h,Nat.add_sub_cancel]
 ·left;rfl
theorem UK {A B:ByteArray} {l:List Nat} {n:Nat} (h1:wl A=l.take n) (h2:wl B=l.drop n) (h:l.length=n+4) (ho:Crc.opened l=some (l.take n)):B=bl (Crc.four (Crc.sum (wl A))):=by
 have h3:=Crc.cC ho
 refine cK ?_
 rw [aL (iX _),h2,h1]
 conv=>lhs;rw [h3]
 unfold Crc.N8
 have hl:(l.take n).length=n:=by rw [List.length_take];omega
 conv=>lhs;rw [show n=(l.take n).length from hl.symm]
 rw [hl,List.drop_left' hl]
theorem UL {A B:ByteArray} {l:List Nat} {n:Nat} (h1:wl A=l.take n) (h2:wl B=l.drop n) (h:l.length=n+4) (ho:Crc.opened l=none):B≠bl (Crc.four (Crc.sum (wl A))):=by
 intro e
 have h3:=congrArg wl e
 rw [aL (iX _),h2,h1] at h3
 unfold Crc.opened at ho
 rw [if_pos ⟨oM,by rw [h,Nat.add_sub_cancel];unfold Crc.N8;rw [<- h3,List.take_append_drop]⟩] at ho
 cases ho
theorem XV (w:World) (n:Nat) (hn:n<4294967296):E2 w 143 #[.int .u32 n] (.string (bl (Crc.four n))):=by
 refine L7 19 Tryz.func143 fun fr hf s0=> ?_
 obtain ⟨qa,hqa⟩:∃ x,n=x:=⟨_,rfl⟩
 obtain ⟨a,ha⟩:∃ x,qa%256=x:=⟨_,rfl⟩
 have pC:a<256:=oM
 have aU:qa<4294967296:=oM
 obtain ⟨qb,SZ⟩:∃ x,n / 256=x:=⟨_,rfl⟩
 obtain ⟨b,hb⟩:∃ x,qb%256=x:=⟨_,rfl⟩
 have vX:b<256:=oM
 have hkb:qb<4294967296:=oM
 obtain ⟨qc,hqc⟩:∃ x,n / 65536=x:=⟨_,rfl⟩
 obtain ⟨c,hc⟩:∃ x,qc%256=x:=⟨_,rfl⟩
 have hlc:c<256:=oM
 have iD:qc<4294967296:=oM
 obtain ⟨qd,hqd⟩:∃ x,n / 16777216=x:=⟨_,rfl⟩
 obtain ⟨d,hd⟩:∃ x,qd%256=x:=⟨_,rfl⟩
 have hld:d<256:=oM
 have hkd:qd<4294967296:=oM
 have vu:qd=d:=oM
 have HQA:=H9 hqa;have HQB:=H9 SZ;have HQC:=H9 hqc;have HQD:=H9 hqd;have HA:=H9 ha;have HB:=H9 hb;have HC:=H9 hc;have HD:=H9 hd;have y9o:=H9 vu;clear hqa SZ hqc hqd ha hb hc hd vu
 refine Ze fun _ a8=>Zr [] hf ?_
 refine p5 0 hf ?_
 clear hf s0;intro a7 hf s0
 refine Zt a8 fun _ a8=> ?_
 have bB:=And.intro (hf.eW 3 4 5 6 7 8 9 10 11 12) (hf.B6 13 14 15 16 17 18)
 refine Zy ?_
 refine fp fun K Z=> ?_
 go_simp
 rw [show ((n:Nat):Int).tmod 256=((a:Nat):Int) by rw [Int.tmod_eq_emod_of_nonneg oM];have:=HA.out;have:=HQA.out;omega]
 apply Z.out;clear Z K
 refine fp fun K Z=> ?_
 go_simp
 rw [Fc.wrap_u8 oM oM]
 apply Z.out;clear Z K
 refine Zy ?_
 refine fp fun K Z=> ?_
 go_simp
 rw [show ((n:Nat):Int) / 256=((qb:Nat):Int) by have:=HQB.out;omega,Fc.wrap_u32 oM oM]
 apply Z.out;clear Z K
 refine fp fun K Z=> ?_
 go_simp
 rw [show ((qb:Nat):Int).tmod 256=((b:Nat):Int) by rw [Int.tmod_eq_emod_of_nonneg oM];have:=HB.out;have:=HQB.out;omega]
 apply Z.out;clear Z K
 refine fp fun K Z=> ?_
 go_simp
 rw [Fc.wrap_u8 oM oM]
 apply Z.out;clear Z K
 refine Zy ?_
 refine fp fun K Z=> ?_
 go_simp
 rw [show ((n:Nat):Int) / 65536=((qc:Nat):Int) by have:=HQC.out;omega,Fc.wrap_u32 oM oM]
 apply Z.out;clear Z K
 refine fp fun K Z=> ?_
 go_simp
 rw [show ((qc:Nat):Int).tmod 256=((c:Nat):Int) by rw [Int.tmod_eq_emod_of_nonneg oM];have:=HC.out;have:=HQC.out;omega]
 apply Z.out;clear Z K
 refine fp fun K Z=> ?_
 go_simp
 rw [Fc.wrap_u8 oM oM]
 apply Z.out;clear Z K
 refine Zy ?_
 refine fp fun K Z=> ?_
 go_simp
 rw [show ((n:Nat):Int) / 16777216=((qd:Nat):Int) by have:=HQD.out;omega,Fc.wrap_u32 oM oM]
 apply Z.out;clear Z K
 refine fp fun K Z=> ?_
 go_simp
 rw [show ((qd:Nat):Int)=((d:Nat):Int) by have:=y9o.out;omega,Fc.wrap_u8 oM oM]
 apply Z.out;clear Z K
 refine fp fun K Z=> ?_
 go_simp
 have iU:=Bh w [a,b,c,d]
 have p6:Below w.heap.size w (w.alloc (.cells #[.int .u8 (a:Nat),.int .u8 (b:Nat),.int .u8 (c:Nat),.int .u8 (d:Nat)] 5)):=(Below.refl _ _).alloc nR _
 simp only [lZ,List.map_cons,List.map_nil,List.length_cons,List.length_nil,Nat.zero_add,Nat.reduceAdd] at iU
 obtain ⟨W1,P2⟩:∃ x,w.alloc (.cells #[.int .u8 (a:Nat),.int .u8 (b:Nat),.int .u8 (c:Nat),.int .u8 (d:Nat)] 5)=x:=⟨_,rfl⟩
 rw [P2] at iU p6
 rw [P2]
 clear P2
 apply Z.out;clear Z K
 iterate 2 refine Zy ?_
 refine Fc.nil (p5 2 hf ?_)
 clear hf s0 bB;intro a7 hf s2
 refine Zx a8 (k8 ?_)
 refine Fc.o6 rfl hf s2 ⟨?_,p6⟩
 rw [UJ HA.out HB.out HC.out HD.out HQA.out HQB.out HQC.out HQD.out]
theorem vt (w:World) (s:ByteArray) (C8:s.size<=900000000):E2 w 116 #[.string s] (.tuple #[.string (openR (Crc.opened (wl s))).1,.bool (openR (Crc.opened (wl s))).2]):=by
 refine L7 24 Tryz.func116 fun fr hf s0=> ?_
 rcases Nat.lt_or_ge s.size 4 with h4 | h4
 . (
 have q1:decide ((s.size:Int)-4<0)=true:=decide_eq_true oM
 refine Ze fun _ a8=>Zr [] hf ?_
 refine p5 0 hf ?_
 clear hf s0;intro a7 hf s0
 refine Zt a8 fun _ a8=> ?_
 have bB:=hf.B3 5 6 7
 iterate 2 refine Zy ?_
 refine fp fun K Z=> ?_
 go_simp
 try simp (disch:=omega) only [Fc.W]
 try rw [Fc.wrap_i64 oM oM]
 apply Z.out;clear Z K
 refine Zy ?_
 refine Fc.nil (y4 0 4 hf ?_)
 clear hf s0 bB;intro a7 hf sS
 refine Zs a8 fun _ a8=>Ze fun _ j8=> ?_
 obtain ⟨s0,s4⟩:=sS
 refine Sb.tb 24 fun a6=> ?_
 refine Sb.mO 0 s4 hf a6 ?_
 apply Sb.tq 1 _ hf a6
 . (
 intro a7 w1 hh hd hk K Z
 have s8:=Sb.v 0 0 hd hk []
 clear hd
 go_simp
 try rw [q1]
 exact Sb.k Z)
 refine Sb.mN 2 1 0 hf a6 [] ?_
 refine Sb.Tk 3 hf a6 ?_
 refine Sb.Tk 4 hf a6 ?_
 refine Sb.Tk 5 hf a6 ?_
 refine Sb.Tk 6 hf a6 ?_
 refine Sb.Tk 7 hf a6 ?_
 refine Sb.Tk 8 hf a6 ?_
 apply Sb.tr 9 _ hf a6
 . (
 intro a7 w1 hh hd hk K Z
 have u4:=Sb.v 2 6 hd hk []
 refine Sb.sk u4 ?_
 exact Sb.k Z)
 apply Sb.tr 10 _ hf a6
 . (
 intro a7 w1 hh hd hk K Z
 have u4:=Sb.v 2 7 hd hk []
 refine Sb.sk u4 ?_
 exact Sb.k Z)
 refine Sb.Tk 11 hf a6 ?_
 refine Sb.T 12 hf a6 ?_
 refine Sb.E hf a6 (fun _ _ h g=>ad (Sb.O h s0) (ad (Sb.O h s4) (Sb.f 12 0 g))) ?_
 clear hf a6 s0 s4;intro a7 w1 hf hx sS
 refine Zx j8 (Fc.l7 sS.2.2 ?_)
 refine Ze fun _ j8=>Zr [] hf ?_
 refine y4 2 3 hf ?_
 intro a7 hf sS
 refine Zx j8 (k8 ?_)
 refine Fc.H6 rfl hf sS.1 sS.2 ⟨?_,hx⟩
 rw [yM (by rw [o5];omega)]
 rfl)
 . (
 obtain ⟨n,hn⟩:∃ n,s.size=n+4:=⟨s.size-4,oM⟩
 have HN:=H9 hn;clear hn
 have q1:decide ((n:Int)<0)=false:=decide_eq_false oM
 obtain ⟨A,hA⟩:∃ x,s.extract 0 n=x:=⟨_,rfl⟩
 obtain ⟨B,hB⟩:∃ x,s.extract n s.size=x:=⟨_,rfl⟩
 have hwa:wl A=(wl s).take n:=by rw [<- hA,bP,List.drop_zero]
 have oD:wl B=(wl s).drop n:=by rw [<- hB,bP,List.take_of_length_le (by rw [o5];exact nR)]
 have Se:A.size=n:=by rw [<- o5,hwa,List.length_take,o5];have:=HN.out;omega
 have HA:=H9 hA;have HB:=H9 hB;have HWA:=H9 hwa;have dk:=H9 oD;have Np:=H9 Se;clear hA hB hwa oD Se
 rcases (yN (wl s) n (by rw [o5];have:=HN.out;omega)) with X4 | X4
 . (
 have UM:=H9 X4;clear X4
 have q2:(B.toList !=(bl (Crc.four (Crc.sum (wl A)))).toList)=true:=by rw [bne,pV];rw [decide_eq_false (UL HWA.out dk.out (by rw [o5];have:=HN.out;omega) UM.out)];rfl
 refine Ze fun _ a8=>Zr [] hf ?_
 refine p5 0 hf ?_
 clear hf s0;intro a7 hf s0
 refine Zt a8 fun _ a8=> ?_
 have bB:=hf.B3 5 6 7
 iterate 2 refine Zy ?_
 refine fp fun K Z=> ?_
 go_simp
 try simp (disch:=omega) only [Fc.W]
 rw [show ((s.size:Nat):Int)-4=((n:Nat):Int) by have:=HN.out;omega]
 try rw [Fc.wrap_i64 oM oM]
 apply Z.out;clear Z K
 refine Zy ?_
 refine Fc.nil (y4 0 4 hf ?_)
 clear hf s0 bB;intro a7 hf sS
 refine Zs a8 fun _ a8=>Ze fun _ j8=> ?_
 obtain ⟨s0,s4⟩:=sS
 refine Sb.tb 24 fun a6=> ?_
 refine Sb.mO 0 s4 hf a6 ?_
 apply Sb.tq 1 _ hf a6
 . (
 intro a7 w1 hh hd hk K Z
 have s8:=Sb.v 0 0 hd hk []
 clear hd
 go_simp
 try rw [q1]
 exact Sb.k Z)
 refine Sb.mN 2 1 0 hf a6 [] ?_
 refine Sb.Tg 3 hf a6 ?_ (hF:=fun _ _ h d=>Sb.O h s0)
 refine Sb.Tg 4 hf a6 ?_ (hF:=fun _ _ h d=>Sb.O h s4)
 apply Sb.tr 5 _ hf a6
 . (
 intro a7 w1 hh hd hk K Z
 have u4:=Sb.v 2 2 hd hk []
 refine Sb.g u4 ?_
 have D9:=Sb.v 3 1 hd hk []
 have F7:=Sb.v 4 0 hd hk []
 clear hd
 go_simp
 first | rw [if_pos (by have:=HN.out;omega)] | skip
 rw [HB.out]
 try rw [Oper.upon_value]
 exact Sb.k Z)
 refine Sb.Tg 6 hf a6 ?_ (hF:=fun _ _ h d=>Sb.O h s0)
 refine Sb.Tg 7 hf a6 ?_ (hF:=fun _ _ h d=>Sb.O h s4)
 apply Sb.tr 8 _ hf a6
 . (
 intro a7 w1 hh hd hk K Z
 have u4:=Sb.v 2 5 hd hk []
 refine Sb.g u4 ?_
 have S4:=Sb.v 6 1 hd hk []
 have aQ:=Sb.v 7 0 hd hk []
 clear hd
 go_simp
 first | rw [if_pos (by have:=HN.out;omega)] | skip
 rw [HA.out]
 try rw [Oper.upon_value]
 exact Sb.k Z)
 apply Sb.tr 9 _ hf a6
 . (
 intro a7 w1 hh hd hk K Z
 have u4:=Sb.v 2 6 hd hk []
 refine Sb.g u4 ?_
 have Y5:=Sb.v 8 0 hd hk []
 clear hd
 go_simp
 go_at_call 144;refine (uk w1 A (by have:=Np.out;have:=HN.out;omega)).mono ?_;rintro e w2 ⟨rfl,Sa⟩
 subst w2
 have y9l:=Crc.rT (wl A)
 exact Sb.k Z)
 apply Sb.tr 10 _ hf a6
 . (
 intro a7 w1 hh hd hk K Z
 have u4:=Sb.v 2 7 hd hk []
 refine Sb.g u4 ?_
 have G7:=Sb.v 9 0 hd hk []
 clear hd
 go_simp
 go_at_call 143;refine (XV w1 (Crc.sum (wl A)) (Crc.rT _)).mono ?_;rintro e w2 ⟨rfl,hb⟩
 exact Z.out _ rfl _ _ hb rfl)
 apply Sb.tr 11 _ hf a6
 . (
 intro a7 w1 hh hd hk K Z
 have u4:=Sb.v 2 8 hd hk []
 refine Sb.g u4 ?_
 have D1:=Sb.v 5 5 hd hk []
 have Q0:=Sb.v 10 0 hd hk []
 clear hd
 go_simp
 first | rw [q2] | (rw [bne] at q2;rw [q2]) | skip
 exact Sb.k Z)
 refine Sb.T 12 hf a6 ?_
 refine Sb.E hf a6 (fun _ _ h g=>ad (Sb.O h s0) (ad (Sb.O h s4) (Sb.f 12 0 g))) ?_
 clear hf a6 s0 s4;intro a7 w1 hf hx sS
 refine Zx j8 (Fc.l7 sS.2.2 ?_)
 refine Ze fun _ j8=>Zr [] hf ?_
 refine y4 2 3 hf ?_
 intro a7 hf sS
 refine Zx j8 (k8 ?_)
 refine Fc.H6 rfl hf sS.1 sS.2 ⟨?_,hx⟩
 rw [UM.out]
 rfl)
 . (
 have UM:=H9 X4;clear X4
 have q2:(B.toList !=(bl (Crc.four (Crc.sum (wl A)))).toList)=false:=by rw [bne,pV];rw [decide_eq_true (UK HWA.out dk.out (by rw [o5];have:=HN.out;omega) UM.out)];rfl
 refine Ze fun _ a8=>Zr [] hf ?_
 refine p5 0 hf ?_
 clear hf s0;intro a7 hf s0
 refine Zt a8 fun _ a8=> ?_
 have bB:=hf.B3 5 6 7
 iterate 2 refine Zy ?_
 refine fp fun K Z=> ?_
 go_simp
 try simp (disch:=omega) only [Fc.W]
 rw [show ((s.size:Nat):Int)-4=((n:Nat):Int) by have:=HN.out;omega]
 try rw [Fc.wrap_i64 oM oM]
 apply Z.out;clear Z K
 refine Zy ?_
 refine Fc.nil (y4 0 4 hf ?_)
 clear hf s0 bB;intro a7 hf sS
 refine Zs a8 fun _ a8=>Ze fun _ j8=> ?_
 obtain ⟨s0,s4⟩:=sS
 refine Sb.tb 24 fun a6=> ?_
 refine Sb.mO 0 s4 hf a6 ?_
 apply Sb.tq 1 _ hf a6
 . (
 intro a7 w1 hh hd hk K Z
 have s8:=Sb.v 0 0 hd hk []
 clear hd
 go_simp
 try rw [q1]
 exact Sb.k Z)
 refine Sb.mN 2 1 0 hf a6 [] ?_
 refine Sb.Tg 3 hf a6 ?_ (hF:=fun _ _ h d=>Sb.O h s0)
 refine Sb.Tg 4 hf a6 ?_ (hF:=fun _ _ h d=>Sb.O h s4)
 apply Sb.tr 5 _ hf a6
 . (
 intro a7 w1 hh hd hk K Z
 have u4:=Sb.v 2 2 hd hk []
 refine Sb.g u4 ?_
 have D9:=Sb.v 3 1 hd hk []
 have F7:=Sb.v 4 0 hd hk []
 clear hd
 go_simp
 first | rw [if_pos (by have:=HN.out;omega)] | skip
 rw [HB.out]
 try rw [Oper.upon_value]
 exact Sb.k Z)
 refine Sb.Tg 6 hf a6 ?_ (hF:=fun _ _ h d=>Sb.O h s0)
 refine Sb.Tg 7 hf a6 ?_ (hF:=fun _ _ h d=>Sb.O h s4)
 apply Sb.tr 8 _ hf a6
 . (
 intro a7 w1 hh hd hk K Z
 have u4:=Sb.v 2 5 hd hk []
 refine Sb.g u4 ?_
 have S4:=Sb.v 6 1 hd hk []
 have aQ:=Sb.v 7 0 hd hk []
 clear hd
 go_simp
 first | rw [if_pos (by have:=HN.out;omega)] | skip
 rw [HA.out]
 try rw [Oper.upon_value]
 exact Sb.k Z)
 apply Sb.tr 9 _ hf a6
 . (
 intro a7 w1 hh hd hk K Z
 have u4:=Sb.v 2 6 hd hk []
 refine Sb.g u4 ?_
 have Y5:=Sb.v 8 0 hd hk []
 clear hd
 go_simp
 go_at_call 144;refine (uk w1 A (by have:=Np.out;have:=HN.out;omega)).mono ?_;rintro e w2 ⟨rfl,Sa⟩
 subst w2
 have y9l:=Crc.rT (wl A)
 exact Sb.k Z)
 apply Sb.tr 10 _ hf a6
 . (
 intro a7 w1 hh hd hk K Z
 have u4:=Sb.v 2 7 hd hk []
 refine Sb.g u4 ?_
 have G7:=Sb.v 9 0 hd hk []
 clear hd
 go_simp
 go_at_call 143;refine (XV w1 (Crc.sum (wl A)) (Crc.rT _)).mono ?_;rintro e w2 ⟨rfl,hb⟩
 exact Z.out _ rfl _ _ hb rfl)
 apply Sb.tr 11 _ hf a6
 . (
 intro a7 w1 hh hd hk K Z
 have u4:=Sb.v 2 8 hd hk []
 refine Sb.g u4 ?_
 have D1:=Sb.v 5 5 hd hk []
 have Q0:=Sb.v 10 0 hd hk []
 clear hd
 go_simp
 first | rw [q2] | (rw [bne] at q2;rw [q2]) | skip
 exact Sb.k Z)
 refine Sb.T 12 hf a6 ?_
 refine Sb.E hf a6 (fun _ _ h g=>ad (Sb.O h s0) (ad (Sb.O h s4) (Sb.f 12 0 g))) ?_
 clear hf a6 s0 s4;intro a7 w1 hf hx sS
 refine Zx j8 (Fc.k9 sS.2.2 ?_)
 refine wp_skip (Zt a8 fun _ a8=> ?_)
 have bB:=hf.B3 21 22 23
 iterate 2 refine Zy ?_
 refine fp fun K Z=> ?_
 go_simp
 rw [if_pos (by have:=HN.out;omega),HA.out]
 rw [Oper.upon_value]
 apply Z.out;clear Z K
 iterate 2 refine Zy ?_
 refine Fc.nil (y4 2 3 hf ?_)
 intro a7 hf sS
 refine Zx a8 (k8 ?_)
 refine Fc.H6 rfl hf sS.1 sS.2 ⟨?_,hx⟩
 rw [UM.out]
 rw [rU, <- HWA.out,Bi]))
def mU (n:Nat):Nat:=if n=0 then 1 else P9 n
theorem Bj {n:Nat} (h0:0<n) (h:n<q9):mU n=P9 n:=by unfold mU;rw [if_neg (by omega)]
theorem KR {n x m:Nat} (hn:n<q9) (hm:1<=m) (hmx:2<=m->1<=x) (hx:n / 256^(m-1)=x) (h:x<256):mU n=m:=by
 unfold mU
 split
 ·rename_i h0
  subst h0
  rw [Nat.zero_div] at hx
  rcases Nat.lt_or_ge m 2 with h1 | h1
  ·omega
  ·have:=hmx h1;omega
 ·rename_i h0
  have hp:0<256^(m-1):=Nat.pow_pos oM
  refine KS hn hm ?_ ?_
  ·rcases Nat.lt_or_ge m 2 with h1 | h1
   ·rw [show m-1=0 by omega];simp;omega
   ·have h2:=hmx h1
    have h3:=Nat.div_mul_le_self n (256^(m-1))
    rw [hx] at h3
    exact Nat.le_trans (Nat.le_mul_of_pos_left _ h2) h3
  ·have h3:n<256^(m-1)*256:=Nat.lt_mul_of_div_lt (by rw [hx];exact h) hp |> fun h9=>by rwa [Nat.mul_comm] at h9
   rw [<- Nat.pow_succ,show (m-1).succ=m by omega] at h3
   exact h3
theorem Bk {n x m:Nat} (hn:n<q9) (hx:n / 256^(m-1)=x) (h:256<=x) (hm:m<=8):m<=7:=by
 rcases Nat.lt_or_ge m 8 with h1 | h1
 ·omega
 ·exfalso
  have:m=8:=oM
  subst this
  unfold q9 at hn
  rw [show (256:Nat)^(8-1)=72057594037927936 by rfl] at hx
  omega
theorem dj (w:World) (c:Nat):OB (w.alloc (.cells #[.int .u8 (c:Nat)] 5)) w.heap.size (.slice (some ⟨w.heap.size,0,none⟩) 1 1) [c]:=World.ownsRow_lit (size:=1) w #[.int .u8 (c:Nat)] 1 nR (by unfold maxLen;omega) rfl
theorem di (w:World) (n:Nat) (hn:n<q9):Calls Tryz.prog 169 #[.int .u64 n] w fun e w1=>e= .returned (.int .i64 (mU n:Nat))/\w1=w:=by
 refine L7 11 Tryz.func169 fun fr hf s0=> ?_
 refine Ze fun _ a8=>Zr [] hf ?_
 refine p5 0 hf ?_
 clear hf s0;intro a7 hf s0
 refine Zs a8 fun _ a8=>Zr [] hf ?_
 refine y4 0 3 hf ?_
 clear hf s0;intro a7 hf sS
 refine Zs a8 fun _ a8=>wp_block (wp_loop_ghost (fun gk fr wr=>∃ (x m:Nat),gk=x/\Fc.Fr 11 fr/\fr.tmps[0]? =some (.int .u64 x)/\fr.tmps[3]? =some (.int .i64 m)/\1<=m/\m<=8/\(2<=m->1<=x)/\n / 256^(m-1)=x/\w=wr) (n) ?_ ?_)
 . (
 exact ⟨n,1,rfl,hf,sS.1,sS.2,oM,oM,oM,sP,rfl⟩)
 . (
 clear hf sS
 have vr:=hn;unfold q9 at vr;rintro gk fr wr ⟨x,m,hk,hf,s0,s3,nj,Sc,hmx,hx,hw⟩
 subst wr
 have HK:=H9 hk;have HX:=H9 hx;clear hk hx
 have Ed:x<18446744073709551616:=by have:=HX.out;have:=Nat.div_le_self n (256^(m-1));omega
 refine Ze fun _ j8=>Ze fun _ l8=>Zr [4] hf ?_
 refine y7 0 3 5 hf ?_
 clear hf s0 s3;intro a7 hf sS
 refine Zx l8 (Fc.l0 sS.2.2 (fun hq=> ?_) (fun hq=> ?_))
 . (
 have eV:256<=x:=qT
 clear hq
 obtain ⟨y,hy⟩:∃ y,x / 256=y:=⟨_,rfl⟩
 have x4r:y<18446744073709551616:=oM
 have hyx:y<x:=oM
 have hm7:m<=7:=Bk hn HX.out eV Sc
 have HY:=H9 hy;clear hy
 refine wp_skip (Zx j8 (wp_block (Ze fun _ j8=>rg ?_)))
 have bB:=hf.B2 6 7
 refine Zy ?_
 refine fp fun K Z=> ?_
 go_simp
 rw [show ((x:Nat):Int) / 256=((y:Nat):Int) by have:=HY.out;omega,Fc.wrap_u64 oM oM]
 apply Z.out;clear Z K
 refine Zy ?_
 refine Fc.nil (y4 0 3 hf ?_)
 intro a7 hf sS
 refine Zx j8 (Zr [8,9] hf ?_)
 refine y4 0 3 hf ?_
 intro a7 hf sS
 refine Fc.j9 (Fc.j7 ?_)
 exact ⟨_,by have:=HK.out;omega,y,m+1,rfl,hf,sS.1,by rw [sS.2];rfl,oM,oM,(fun _=>by have:=HY.out;omega),by rw [<- HY.out, <- HX.out,Nat.div_div_eq_div_mul,show m+1-1=(m-1)+1 by omega,Nat.pow_succ],rfl⟩)
 . (
 have o9:x<256:=qF
 have ni:mU n=m:=KR hn nj hmx HX.out o9
 have HMN:=H9 ni;clear ni hq
 refine Zo ?_
 refine Zs a8 fun _ a8=>Zr [10] hf ?_
 refine p5 2 hf ?_
 intro a7 hf s2
 refine Zx a8 (k8 ?_)
 exact Fc.o6 rfl hf s2 ⟨by rw [HMN.out],rfl⟩))
theorem vq (w:World) (n:Nat) (hn:n<q9):E2 w 160 #[.int .u64 n] (.string (bl (r7 n))):=by
 refine L7 33 Tryz.func160 fun fr hf s0=> ?_
 refine Ze fun _ a8=>Zr [] hf ?_
 refine p5 0 hf ?_
 clear hf s0;intro a7 hf s0
 refine Zs a8 fun _ a8=>Ze fun _ j8=>Zr [6] hf ?_
 refine y4 0 7 hf ?_
 clear hf s0;intro a7 hf sS
 refine Zx j8 (Fc.l0 sS.2 (fun hq=> ?_) (fun hq=> ?_))
 . (
 have o9:n<248:=qT
 clear hq
 refine Ze fun _ j8=>rg ?_
 have bB:=hf.B4 8 9 10 11
 refine Zy ?_
 refine fp fun K Z=> ?_
 go_simp
 rw [Fc.wrap_u8 oM oM]
 apply Z.out;clear Z K
 refine fp fun K Z=> ?_
 go_simp
 have iU:=Bh w [n]
 have p6:Below w.heap.size w (w.alloc (.cells #[.int .u8 (n:Nat)] 5)):=(Below.refl _ _).alloc nR _
 simp only [lZ,List.map_cons,List.map_nil,List.length_cons,List.length_nil,Nat.zero_add] at iU
 obtain ⟨W1,P2⟩:∃ x,w.alloc (.cells #[.int .u8 (n:Nat)] 5)=x:=⟨_,rfl⟩
 rw [P2] at iU p6
 rw [P2]
 clear P2
 apply Z.out;clear Z K
 iterate 2 refine Zy ?_
 refine Fc.nil (p5 2 hf ?_)
 intro a7 hf s2
 refine Zx j8 (k8 ?_)
 exact Fc.o6 rfl hf s2 ⟨by unfold r7;rw [if_pos o9],p6⟩)
 . (
 have eV:248<=n:=qF
 clear hq
 have vr:=hn;unfold q9 at vr
 refine wp_skip (Zt a8 fun _ a8=> ?_)
 have bB:=hf.B2 12 13
 refine Zy ?_
 refine Zc (di w n hn) ?_;rintro e w1 ⟨rfl,Sa⟩
 subst w1
 rw [Bj oM hn]
 obtain ⟨m,hm⟩:∃ m,P9 n=m:=⟨_,rfl⟩
 have hmb:=T4 (show 0<n by omega) hn
 rw [hm] at hmb
 rw [hm]
 have HM:=H9 hm;clear hm
 refine Zv ?_
 refine Zy ?_
 refine Fc.nil (y4 0 3 hf ?_)
 intro a7 hf sS
 refine Zx a8 ?_
 obtain ⟨c,hc⟩:∃ c,247+m=c:=⟨_,rfl⟩
 have Ty:c<256:=oM
 have HC:=H9 hc;clear hc
 refine Ze fun _ a8=>rg ?_
 have bB:=hf.B4 14 15 16 17
 refine Zy ?_
 refine fp fun K Z=> ?_
 go_simp
 try simp (disch:=omega) only [Fc.W]
 rw [show (247:Int)+((m:Nat):Int)=((c:Nat):Int) by have:=HC.out;omega]
 apply Z.out;clear Z K
 refine fp fun K Z=> ?_
 go_simp
 rw [Fc.wrap_u8 oM oM]
 apply Z.out;clear Z K
 iterate 2 refine Zy ?_
 refine Fc.nil (y7 0 3 4 hf ?_)
 intro a7 hf sS
 generalize P2:w.alloc (.cells #[.int .u8 (c:Nat)] 5)=W1
 have Bm:OB W1 w.heap.size (.slice (some ⟨w.heap.size,0,none⟩) 1 1) [c]:=by rw [<- P2];exact dj w c
 have p6:Below w.heap.size w W1:=by rw [<- P2];exact (Below.refl _ _).alloc nR _
 clear P2
 refine Zs a8 fun _ a8=>Ze fun _ j8=>Zr [] hf ?_
 refine z8 0 3 4 5 hf ?_
 intro a7 hf sS
 refine Zx j8 (wp_block (wp_loop_ghost (fun gk fr wr=>∃ (i x:Nat) (V:Value),gk=m-i/\i<=m/\Fc.Fr 33 fr/\fr.tmps[0]? =some (.int .u64 x)/\fr.tmps[3]? =some (.int .i64 m)/\fr.tmps[4]? =some V/\fr.tmps[5]? =some (.int .i64 i)/\n / 256^i=x/\OB wr w.heap.size V (c::leB i n)/\Below w.heap.size w wr) (m) ?_ ?_))
 . (
 obtain ⟨s0,s3,s4,s5⟩:=sS
 exact ⟨0,n,_,rfl,Nat.zero_le _,hf,s0,s3,s4,s5,sP,Bm,p6⟩)
 . (
 clear hf sS
 rintro gk fr wr ⟨i,x,V,hk,hi,hf,s0,s3,s4,s5,hx,Bm,hb⟩
 have HK:=H9 hk;have HX:=H9 hx;clear hk hx
 have Ed:x<18446744073709551616:=by have:=HX.out;have:=Nat.div_le_self n (256^i);omega
 refine Ze fun _ j8=>Ze fun _ l8=>Zr [18,19] hf ?_
 refine D2 0 3 4 5 20 hf ?_
 clear hf s0 s3 s4 s5;intro a7 hf sS
 refine Zx l8 (Fc.l0 sS.2.2.2.2 (fun C5=> ?_) (fun C5=> ?_))
 . (
 have o9:i<m:=by have h9:=of_decide_eq_true C5;omega
 clear C5
 obtain ⟨r,hr⟩:∃ r,x%256=r:=⟨_,rfl⟩
 obtain ⟨h,hh⟩:∃ h,x / 256=h:=⟨_,rfl⟩
 have UN:r<256:=oM
 have x4q:h<18446744073709551616:=oM
 have hsn:=rV i n
 rw [HX.out,hr] at hsn
 have HR:=H9 hr;have HH:=H9 hh;have HSN:=H9 hsn;clear hr hh hsn
 obtain ⟨A,cc,hv,_⟩:=y8 Bm
 subst hv
 obtain ⟨l,hl⟩:∃ l,c::leB i n=l:=⟨_,rfl⟩
 rw [hl] at Bm
 have XW:l.length<=9:=by rw [<- hl];simp [J2];omega
 obtain ⟨s0,s3,s4,s5,N5⟩:=sS
 rw [hl] at s4
 have HL:=H9 hl;clear hl
 refine wp_skip (Zs j8 fun _ j8=>wp_block (Ze fun _ l8=>rg ?_))
 have bB:=hf.B6 23 24 25 26 27 28
 iterate 2 refine Zy ?_
 refine fp fun K Z=> ?_
 go_simp
 rw [show ((x:Nat):Int).tmod 256=((r:Nat):Int) by rw [Int.tmod_eq_emod_of_nonneg oM];have:=HR.out;omega]
 apply Z.out;clear Z K
 refine fp fun K Z=> ?_
 go_simp
 rw [Fc.wrap_u8 oM oM]
 apply Z.out;clear Z K
 refine Zy ?_
 clear bB
 refine Fc.nL (n:=33) (by simp only [Fc.G,hf.size]) hf.defers (fun a7 y5 hT=> ?_)
 have J8:=Fc.h6 hT 0 3 4 5 23 27
 simp (decide:=true) only [Fc.G,hf.size,reduceIte,s0,s3,s4,s5] at J8
 replace hf:=y5;clear hT y5 s0 s3 s4 s5 N5
 obtain ⟨s0,s3,s4,s5,Q3,S0⟩:=J8
 have bB:=hf.b 28
 refine ⟨?_⟩
 refine wpList_plain rfl fun K5 U6=> ?_
 refine J6 _ _ 31 rfl 5 _ 1 1 Tryz.underlying31 cD rfl dC dC w.heap.size (.slice A l.length cc) l.length _ (Fc.l5 Q3) (World.ownsRow.alloc Bm _) wr.heap.size [.int .u8 (r:Nat)] (Fc.l5 S0) rfl (E8 wr _ _) (by intro u hu;simp at hu;subst hu;rfl) oM (by have:=hb.size;simp;omega) (fun v5 w5 X8 bN M6=>U6 _ _ ?_)
 refine Fc.L.out ?_
 refine Zy ?_
 refine Fc.nil (z8 0 3 4 5 hf ?_)
 clear hf s0 s3 s4 s5 Q3 S0 bB;intro a7 hf sS
 have gM:n4 (fun k=>(.slice A l.length cc:Value).ownBlock=some k) wr w5:=(n4.alloc (S:=fun k=>(.slice A l.length cc:Value).ownBlock=some k) wr _).trans (n4.grown bN (fun k hk=>hk))
 have F3:=hb.trans (gM.below hb.size (fun k hk=>(World.ownsRow.lt Bm k hk).1))
 have y9i:OB w5 w.heap.size v5 (c::leB (i+1) n):=by rw [HSN.out, <- List.cons_append,HL.out];unfold OB;rw [List.length_append,M1];exact X8
 refine Zx l8 (rg ?_)
 have bB:=hf.B2 29 30
 refine Zy ?_
 refine fp fun K Z=> ?_
 go_simp
 rw [show ((x:Nat):Int) / 256=((h:Nat):Int) by have:=HH.out;omega,Fc.wrap_u64 oM oM]
 apply Z.out;clear Z K
 refine Zy ?_
 refine Fc.nil (z8 0 3 4 5 hf ?_)
 intro a7 hf sS
 refine Fc.j9 (Zx j8 (Zr [21,22] hf ?_))
 refine z8 0 3 4 5 hf ?_
 intro a7 hf sS
 refine Fc.j7 ?_
 obtain ⟨s0,s3,s4,s5⟩:=sS
 exact ⟨_,by have:=HK.out;omega,i+1,h,v5,rfl,oM,hf,s0,s3,s4,by rw [s5];rfl,by rw [<- HH.out, <- HX.out,Nat.div_div_eq_div_mul,Nat.pow_succ],y9i,F3⟩)
 . (
 have C3:i=m:=by have h9:=of_decide_eq_false C5;omega
 have UP:=Bm
 rw [C3] at UP
 have iU:=OB.conv UP
 clear C5 C3
 refine Zo ?_
 refine Zs a8 fun _ a8=>Zr [31,32] hf ?_
 refine p5 2 hf ?_
 intro a7 hf s2
 refine Zx a8 (k8 ?_)
 refine Fc.o6 rfl hf s2 ⟨?_,hb⟩
 unfold r7
 rw [if_neg (by omega),HM.out,HC.out])))
theorem Ef {s:List Nat} {i:Nat} (h:s.length<=i):getN s i=(0,i,3):=by unfold getN;rw [List.getElem?_eq_none h]
theorem KT {s:List Nat} {i c:Nat} (h:s[i]? =some c) (hc:c<248):getN s i=(c,i+1,0):=by unfold getN;rw [h];simp only;rw [if_pos hc]
theorem Bn {s:List Nat} {i c:Nat} (h:s[i]? =some c) (hc:248<=c) (hl:s.length-i<=c-247):getN s i=(0,i,3):=by unfold getN;rw [h];simp only;rw [if_neg (by omega),if_pos hl]
theorem Eg {s bs:List Nat} {i c m x:Nat} (h:s[i]? =some c) (hc:248<=c) (hm:c-247=m) (hl:i+1+m<=s.length) (hb:(s.drop (i+1)).take m=bs) (hx:ofLe bs=x) (hn:(r7 x).length=1+m):getN s i=(x,i+1+m,0):=by
 unfold getN;rw [h];simp only;rw [if_neg (by omega),hm,if_neg (by omega),hb,hx,if_pos hn]
theorem Eh {s bs:List Nat} {i c m x:Nat} (h:s[i]? =some c) (hc:248<=c) (hm:c-247=m) (hl:i+1+m<=s.length) (hb:(s.drop (i+1)).take m=bs) (hx:ofLe bs=x) (hn:¬ (r7 x).length=1+m):getN s i=(0,i,5):=by
 unfold getN;rw [h];simp only;rw [if_neg (by omega),hm,if_neg (by omega),hb,hx,if_neg hn]
theorem Bp {l:List Nat} {m:Nat} (h:Small l) (hl:l.length=m) (hm:m<=8):ofLe l<q9:=by
 have h1:=pW l h
 rw [hl] at h1
 exact Nat.lt_of_lt_of_le h1 (Nat.le_trans (Nat.pow_le_pow_right oM hm) (Nat.le_refl (256^8)))
theorem KU {s bs:List Nat} {i c m:Nat} (h:s[i]? =some c) (hb:(s.drop (i+1)).take m=bs):(s.take (i+1+m)).drop i=c::bs:=by
 rw [List.drop_take,U3 h,show i+1+m-i=m+1 by omega,List.take_succ_cons,hb]
theorem Nq {E:ByteArray} {bs:List Nat} {c m x:Nat} (he:wl E=c::bs) (hx:ofLe bs=x) (hs:Small bs) (hl:bs.length=m) (hm:1<=m) (hc:c-247=m) (Ei:248<=c) (XX:x<q9) (hn:(r7 x).length=1+m):bl (r7 x)=E:=by
 refine cK ?_
 rw [aL (iY XX),he]
 rw [cE] at hn
 have h9:¬ x<248:=fun h9=>by rw [if_pos h9] at hn;omega
 rw [if_neg h9] at hn
 have h7:=rW bs hs
 rw [hl,hx] at h7
 unfold r7
 rw [if_neg h9,show P9 x=m by omega,h7,show 247+m=c by omega]
theorem Nr {E:ByteArray} {bs:List Nat} {c m x:Nat} (he:wl E=c::bs) (hl:bs.length=m) (XX:x<q9) (hn:¬ (r7 x).length=1+m):bl (r7 x)≠E:=by
 intro e
 have h1:=congrArg wl e
 rw [aL (iY XX),he] at h1
 refine hn ?_
 rw [h1,List.length_cons,hl]
 omega
theorem y9h (w:World) (s:ByteArray) (C8:s.size<=1000000000) (S5:Nat) (vp:S5<=1000000000):E2 w 145 #[.string s,.int .i64 S5] (.tuple #[.int .u64 (getN (wl s) S5).1,.int .i64 (getN (wl s) S5).2.1,.int .i64 (getN (wl s) S5).2.2]):=by
 refine Z6 72 Tryz.func145 fun fr hf s0 s1=> ?_
 have uQ:∀ (i:Nat) (h:i<s.size),s[i].toNat=at_ s i:=fun i h=>(aY h).symm
 refine Ze fun _ a8=>Zr [] hf ?_
 refine y4 0 1 hf ?_
 clear hf s0 s1;intro a7 hf sS
 refine Zx a8 ?_
 rcases Nat.lt_or_ge S5 s.size with o9 | eV
 . (
 have q1:decide ((S5:Int)<0)=false:=decide_eq_false oM
 have q2:decide (s.size<=S5)=false:=decide_eq_false oM
 refine Ze fun _ a8=>Ze fun _ j8=>rg ?_
 have bB:=hf.B7 10 11 12 13 14 15 16
 refine Zy ?_
 refine fp fun K Z=> ?_
 go_simp
 try rw [q1]
 apply Z.out;clear Z K
 iterate 4 refine Zy ?_
 refine og 2 12 false ?_ fun K Z=> ?_
 . (
 simp (decide:=true) only [Fc.G,reduceIte,hf.size])
 go_simp
 try rw [q2]
 apply Z.out;clear Z K
 refine Zy ?_
 refine Fc.nil (y7 0 1 17 hf ?_)
 intro a7 hf sS
 refine Zx j8 (Fc.k9 sS.2.2 ?_)
 clear q1 q2
 obtain ⟨c,hc⟩:∃ c,at_ s S5=c:=⟨_,rfl⟩
 have Ty:c<256:=by rw [<- hc];exact qM s S5
 have hg:s[S5].toNat=c:=by rw [<- hc];exact uQ _ o9
 have vo:(wl s)[S5]? =some c:=by rw [<- hc];exact aZ o9
 have HC:=H9 hc;have UQ:=H9 vo;clear hc vo
 refine wp_skip (Zs a8 fun _ a8=>Ze fun _ j8=>rg ?_)
 have bB:=hf.B3 19 20 21
 iterate 2 refine Zy ?_
 refine fp fun K Z=> ?_
 go_simp
 try rw [if_pos o9]
 try rw [hg]
 try rw [HC.out]
 apply Z.out;clear Z K
 refine Zy ?_
 refine Fc.nil (y7 0 1 22 hf ?_)
 intro a7 hf sS
 refine Zx j8 (Fc.l0 sS.2.2 (fun hq=> ?_) (fun hq=> ?_))
 . (
 have Ei:c<248:=qT
 clear hq
 refine Ze fun _ j8=>rg ?_
 have bB:=hf.B6 23 24 25 26 27 28
 iterate 2 refine Zy ?_
 refine fp fun K Z=> ?_
 go_simp
 try rw [if_pos o9]
 try rw [hg]
 try rw [HC.out]
 apply Z.out;clear Z K
 refine fp fun K Z=> ?_
 go_simp
 try rw [Fc.wrap_u64 oM oM]
 apply Z.out;clear Z K
 iterate 5 refine Zy ?_
 refine Fc.nil (y7 4 5 6 hf ?_)
 intro a7 hf sS
 refine Zx j8 (k8 ?_)
 obtain ⟨s4,s5,s6⟩:=sS
 exact Fc.fE rfl hf s4 s5 s6 ⟨by rw [KT UQ.out Ei];rfl,Below.refl _ _⟩)
 . (
 have Ei:248<=c:=qF
 clear hq
 obtain ⟨m,hm⟩:∃ m,c-247=m:=⟨_,rfl⟩
 have nj:1<=m/\m<=8:=oM
 have HM:=H9 hm;clear hm
 refine wp_skip (Zt a8 fun _ a8=> ?_)
 have bB:=hf.B5 29 30 31 32 33
 iterate 2 refine Zy ?_
 refine fp fun K Z=> ?_
 go_simp
 try rw [if_pos o9]
 try rw [hg]
 try rw [HC.out]
 apply Z.out;clear Z K
 refine fp fun K Z=> ?_
 go_simp
 try rw [Fc.wrap_i64 oM oM]
 apply Z.out;clear Z K
 refine fp fun K Z=> ?_
 go_simp
 try simp (disch:=omega) only [Fc.W]
 rw [show ((c:Nat):Int)-247=((m:Nat):Int) by have:=HM.out;omega]
 apply Z.out;clear Z K
 refine Zy ?_
 refine Fc.nil (y7 0 1 7 hf ?_)
 intro a7 hf sS
 refine Zs a8 fun _ a8=>Ze fun _ j8=>Zr [34,35,36,37,38,39] hf ?_
 refine z8 0 1 7 40 hf ?_
 intro a7 hf sS
 refine Zx j8 (Fc.l0 sS.2.2.2 (fun C5=> ?_) (fun C5=> ?_))
 . (
 have ZK:s.size-S5<=m:=by have h9:=of_decide_eq_true C5;omega
 clear C5
 refine Ze fun _ j8=>Zr [41] hf ?_
 refine y7 4 5 6 hf ?_
 intro a7 hf sS
 refine Zx j8 (k8 ?_)
 obtain ⟨s4,s5,s6⟩:=sS
 exact Fc.fE rfl hf s4 s5 s6 ⟨by rw [Bn UQ.out Ei (by rw [o5];have:=HM.out;omega)];rfl,Below.refl _ _⟩)
 . (
 have ZK:S5+1+m<=s.size:=by have h9:=of_decide_eq_false C5;omega
 clear C5
 obtain ⟨bs,jZ⟩:∃ x,((wl s).drop (S5+1)).take m=x:=⟨_,rfl⟩
 have X3:bs.length=m:=by rw [<- jZ,List.length_take,List.length_drop,o5];omega
 have dh:Small bs:=fun x hx=>cX s x (by rw [<- jZ] at hx;exact List.mem_of_mem_drop (List.mem_of_mem_take hx))
 have yP:∀ i,i<m->bs[i]? =some (at_ s (S5+1+i)):=fun i hi=>by rw [<- jZ,List.getElem?_take,if_pos hi,List.getElem?_drop];exact aZ oM
 have df:=H9 jZ;have Da:=H9 X3;have HBI:=H9 yP;clear jZ X3 yP
 refine wp_skip (Zs a8 fun _ a8=>Zr [] hf ?_)
 refine z8 0 1 7 8 hf ?_
 intro a7 hf sS
 refine Zs a8 fun _ a8=>Ze fun _ j8=>Zr [42] hf ?_
 refine D2 0 1 7 8 9 hf ?_
 intro a7 hf sS
 refine Zx j8 (wp_block (wp_loop_ghost (fun gk fr wr=>∃ (i x:Nat),gk=i/\i<=m/\Fc.Fr 72 fr/\fr.tmps[0]? =some (.string s)/\fr.tmps[1]? =some (.int .i64 S5)/\fr.tmps[7]? =some (.int .i64 m)/\fr.tmps[8]? =some (.int .u64 x)/\fr.tmps[9]? =some (.int .i64 i)/\ofLe (bs.drop i)=x/\w=wr) (m) ?_ ?_))
 . (
 obtain ⟨s0,s1,s7,s8,s9⟩:=sS
 exact ⟨m,0,rfl,nR,hf,s0,s1,s7,s8,s9,by rw [List.drop_of_length_le (by rw [Da.out];exact nR)];rfl,rfl⟩)
 . (
 clear hf sS
 rintro gk fr wr ⟨i,x,hk,hi,hf,s0,s1,s7,s8,s9,hx,hw⟩
 subst wr
 have HK:=H9 hk;have HX:=H9 hx;clear hk hx
 refine Ze fun _ j8=>Ze fun _ l8=>Zr [43] hf ?_
 refine F1 0 1 7 8 9 44 hf ?_
 clear hf s0 s1 s7 s8 s9;intro a7 hf sS
 refine Zx l8 (Fc.l0 sS.2.2.2.2.2 (fun R0=> ?_) (fun R0=> ?_))
 . (
 have JX:0<i:=by have h9:=of_decide_eq_true R0;omega
 clear R0
 obtain ⟨j,hj⟩:∃ j,i=j+1:=⟨i-1,oM⟩
 obtain ⟨d,hd⟩:∃ d,at_ s (S5+1+j)=d:=⟨_,rfl⟩
 have hd8:d<256:=by rw [<- hd];exact qM s _
 have hjm:j<m:=oM
 have cQ:S5+i<s.size:=oM
 have iR:=True.intro
 have KV:=HBI.out j hjm
 rw [hd] at KV
 have Tj:bs.drop j=d::bs.drop i:=by rw [hj];exact R4 KV
 have Ej:ofLe (bs.drop j)=d+256*x:=by rw [Tj,ofLe,HX.out]
 have eZ:ofLe (bs.drop j)<q9:=Bp (fun y hy=>dh y (List.mem_of_mem_drop hy)) rfl (by rw [List.length_drop,Da.out];omega)
 rw [Ej] at eZ
 unfold q9 at eZ
 obtain ⟨pq,vY⟩:∃ x,S5+i=x:=⟨_,rfl⟩
 rw [vY] at cQ
 have lW:s[pq].toNat=d:=by rw [uQ _ cQ, <- hd,show S5+1+j=pq by omega]
 clear iR
 have HPQ:=H9 vY;clear vY
 have HJ:=H9 hj;have HD:=H9 hd;have Sf:=H9 Ej;clear hj hd Ej Tj KV
 refine wp_skip (Zs j8 fun _ j8=>wp_block (rg ?_))
 have bB:=hf.B9 47 48 49 50 51 52 53 54 55
 refine Zy ?_
 refine fp fun K Z=> ?_
 go_simp
 try simp (disch:=omega) only [Fc.W]
 try rw [Fc.wrap_u64 oM oM]
 apply Z.out;clear Z K
 iterate 3 refine Zy ?_
 refine fp fun K Z=> ?_
 go_simp
 try simp (disch:=omega) only [Fc.W]
 rw [show ((S5:Nat):Int)+((i:Nat):Int)=((pq:Nat):Int) by have:=HPQ.out;omega]
 apply Z.out;clear Z K
 refine fp fun K Z=> ?_
 go_simp
 try rw [if_pos cQ]
 try rw [lW]
 try rw [show at_ s pq=d by rw [<- uQ _ cQ,lW]]
 apply Z.out;clear Z K
 refine fp fun K Z=> ?_
 go_simp
 try rw [Fc.wrap_u64 oM oM]
 apply Z.out;clear Z K
 refine fp fun K Z=> ?_
 go_simp
 try simp (disch:=omega) only [Fc.W]
 rw [show ((x:Nat):Int)*256+((d:Nat):Int)=((d+256*x:Nat):Int) by omega]
 try rw [Fc.wrap_u64 oM oM]
 apply Z.out;clear Z K
 refine Zy ?_
 refine Fc.nil (D2 0 1 7 8 9 hf ?_)
 intro a7 hf sS
 refine Fc.j9 (Zx j8 (rg ?_))
 have bB:=hf.B2 45 46
 refine Zy ?_
 refine fp fun K Z=> ?_
 go_simp
 try simp (disch:=omega) only [Fc.W]
 rw [show ((i:Nat):Int)-1=((j:Nat):Int) by have:=HJ.out;omega]
 apply Z.out;clear Z K
 refine Zy ?_
 refine Fc.nil (D2 0 1 7 8 9 hf ?_)
 intro a7 hf sS
 refine Fc.j7 ?_
 obtain ⟨s0,s1,s7,s8,s9⟩:=sS
 exact ⟨_,by have:=HK.out;have:=HJ.out;omega,j,d+256*x,rfl,oM,hf,s0,s1,s7,s8,s9,Sf.out,rfl⟩)
 . (
 have fF:i=0:=by have h9:=of_decide_eq_false R0;omega
 have F4:ofLe bs=x:=by have h9:=HX.out;rwa [fF,List.drop_zero] at h9
 have Ed:x<q9:=by rw [<- F4];exact Bp dh Da.out nj.2
 have HXE:=H9 F4;clear F4 R0 fF
 obtain ⟨E,hE⟩:∃ x,s.extract S5 (S5+1+m)=x:=⟨_,rfl⟩
 have Sa:wl E=c::bs:=by rw [<- hE,bP];exact KU UQ.out df.out
 have HEE:=H9 hE;have HWE:=H9 Sa;clear hE Sa
 have Ns:=Ed;unfold q9 at Ns
 obtain ⟨en,GS⟩:∃ x,S5+1+m=x:=⟨_,rfl⟩
 have vn:en<=s.size:=oM
 have hea:S5<=en:=oM
 have vm:Hid (s.extract S5 en=E):=H9 (by rw [<- GS];exact HEE.out)
 have HEN:=H9 GS;clear GS
 refine Zo ?_
 refine Zx a8 ?_
 by_cases iW:(r7 x).length=1+m
 . (
 have vk:=H9 iW;clear iW
 have q5:(!((bl (r7 x)).toList==E.toList))=false:=by rw [pV,decide_eq_true (Nq HWE.out HXE.out dh Da.out nj.1 HM.out Ei Ed vk.out)];rfl
 refine Ze fun _ a8=>Ze fun _ j8=> ?_
 obtain ⟨s0,s1,s7,s8,s9,Bq⟩:=sS
 refine Sb.tb 72 fun a6=> ?_
 refine Sb.mO 0 s8 hf a6 ?_
 apply Sb.tq 1 _ hf a6
 . (
 intro a7 w1 hh hd hk K Z
 have Sh:=Sb.v 0 0 hd hk []
 clear hd
 go_simp
 go_at_call 160;refine (vq w1 x Ed).mono ?_;rintro e w2 ⟨rfl,hb⟩
 exact Z.out _ rfl _ _ hb rfl)
 refine Sb.mO 2 s0 hf a6 ?_
 refine Sb.mO 3 s1 hf a6 ?_
 refine Sb.mO 4 s1 hf a6 ?_
 refine Sb.T 5 hf a6 ?_
 refine Sb.mO 6 s7 hf a6 ?_
 apply Sb.tq 7 _ hf a6
 . (
 intro a7 w1 hh hd hk K Z
 have s61:=Sb.v 5 1 hd hk []
 have UR:=Sb.v 6 0 hd hk []
 clear hd
 go_simp
 try simp (disch:=omega) only [Fc.W]
 rw [show ((S5:Nat):Int)+1+((m:Nat):Int)=((en:Nat):Int) by have:=HEN.out;omega]
 exact Sb.k Z)
 apply Sb.tq 8 _ hf a6
 . (
 intro a7 w1 hh hd hk K Z
 have nt:=Sb.v 2 5 hd hk []
 have de:=Sb.v 3 4 hd hk []
 have vj:=Sb.v 7 0 hd hk []
 clear hd
 go_simp
 try rw [if_pos vn,if_pos hea]
 rw [vm.out]
 try rw [Oper.upon_value]
 exact Sb.k Z)
 apply Sb.tq 9 _ hf a6
 . (
 intro a7 w1 hh hd hk K Z
 have ai:=Sb.v 1 7 hd hk []
 have s64:=Sb.v 8 0 hd hk []
 clear hd
 go_simp
 try rw [q5]
 exact Sb.k Z)
 refine Sb.E hf a6 (fun _ _ h g=>ad (Sb.O h s1) (ad (Sb.O h s7) (ad (Sb.O h s8) (Sb.f 9 0 g)))) ?_
 clear hf a6 s0 s1 s7 s8 s9 Bq;intro a7 w1 hf hx sS
 refine Zx j8 (Fc.k9 sS.2.2.2 ?_)
 refine wp_skip (Zs a8 fun _ a8=>Zr [67,68,69,70,71] hf ?_)
 refine y7 4 5 6 hf ?_
 intro a7 hf sS
 refine Zx a8 (k8 ?_)
 obtain ⟨s4,s5,s6⟩:=sS
 exact Fc.fE rfl hf s4 s5 s6 ⟨by rw [Eg UQ.out Ei HM.out (by rw [o5];omega) df.out HXE.out vk.out];rfl,hx⟩)
 . (
 have vk:=H9 iW;clear iW
 have q5:(!((bl (r7 x)).toList==E.toList))=true:=by rw [pV,decide_eq_false (Nr HWE.out Da.out Ed vk.out)];rfl
 refine Ze fun _ a8=>Ze fun _ j8=> ?_
 obtain ⟨s0,s1,s7,s8,s9,Bq⟩:=sS
 refine Sb.tb 72 fun a6=> ?_
 refine Sb.mO 0 s8 hf a6 ?_
 apply Sb.tq 1 _ hf a6
 . (
 intro a7 w1 hh hd hk K Z
 have Sh:=Sb.v 0 0 hd hk []
 clear hd
 go_simp
 go_at_call 160;refine (vq w1 x Ed).mono ?_;rintro e w2 ⟨rfl,hb⟩
 exact Z.out _ rfl _ _ hb rfl)
 refine Sb.mO 2 s0 hf a6 ?_
 refine Sb.mO 3 s1 hf a6 ?_
 refine Sb.mO 4 s1 hf a6 ?_
 refine Sb.T 5 hf a6 ?_
 refine Sb.mO 6 s7 hf a6 ?_
 apply Sb.tq 7 _ hf a6
 . (
 intro a7 w1 hh hd hk K Z
 have s61:=Sb.v 5 1 hd hk []
 have UR:=Sb.v 6 0 hd hk []
 clear hd
 go_simp
 try simp (disch:=omega) only [Fc.W]
 rw [show ((S5:Nat):Int)+1+((m:Nat):Int)=((en:Nat):Int) by have:=HEN.out;omega]
 exact Sb.k Z)
 apply Sb.tq 8 _ hf a6
 . (
 intro a7 w1 hh hd hk K Z
 have nt:=Sb.v 2 5 hd hk []
 have de:=Sb.v 3 4 hd hk []
 have vj:=Sb.v 7 0 hd hk []
 clear hd
 go_simp
 try rw [if_pos vn,if_pos hea]
 rw [vm.out]
 try rw [Oper.upon_value]
 exact Sb.k Z)
 apply Sb.tq 9 _ hf a6
 . (
 intro a7 w1 hh hd hk K Z
 have ai:=Sb.v 1 7 hd hk []
 have s64:=Sb.v 8 0 hd hk []
 clear hd
 go_simp
 try rw [q5]
 exact Sb.k Z)
 refine Sb.E hf a6 (fun _ _ h g=>ad (Sb.O h s1) (ad (Sb.O h s7) (ad (Sb.O h s8) (Sb.f 9 0 g)))) ?_
 clear hf a6 s0 s1 s7 s8 s9 Bq;intro a7 w1 hf hx sS
 refine Zx j8 (Fc.l7 sS.2.2.2 ?_)
 refine Ze fun _ j8=>Zr [66] hf ?_
 refine y7 4 5 6 hf ?_
 intro a7 hf sS
 refine Zx j8 (k8 ?_)
 obtain ⟨s4,s5,s6⟩:=sS
 exact Fc.fE rfl hf s4 s5 s6 ⟨by rw [Eh UQ.out Ei HM.out (by rw [o5];omega) df.out HXE.out vk.out];rfl,hx⟩))))))
 . (
 have q1:decide ((S5:Int)<0)=false:=decide_eq_false oM
 have q2:decide (s.size<=S5)=true:=decide_eq_true oM
 refine Ze fun _ a8=>Ze fun _ j8=>rg ?_
 have bB:=hf.B7 10 11 12 13 14 15 16
 refine Zy ?_
 refine fp fun K Z=> ?_
 go_simp
 try rw [q1]
 apply Z.out;clear Z K
 iterate 4 refine Zy ?_
 refine og 2 12 false ?_ fun K Z=> ?_
 . (
 simp (decide:=true) only [Fc.G,reduceIte,hf.size])
 go_simp
 try rw [q2]
 apply Z.out;clear Z K
 refine Zy ?_
 refine Fc.nil (y7 0 1 17 hf ?_)
 intro a7 hf sS
 refine Zx j8 (Fc.l7 sS.2.2 ?_)
 refine Ze fun _ j8=>Zr [18] hf ?_
 refine y7 4 5 6 hf ?_
 intro a7 hf sS
 refine Zx j8 (k8 ?_)
 obtain ⟨s4,s5,s6⟩:=sS
 exact Fc.fE rfl hf s4 s5 s6 ⟨by rw [Ef (by rw [o5];omega)];rfl,Below.refl _ _⟩)
def gY (s:ByteArray) (i c a:Nat):Array Value:= #[.string s,.int .i64 i,.int .i64 c,.int .i64 a]
def IN (w:World) (g:Nat) (s:ByteArray):Except J9 Nat->Prop
 | .ok i=>w.heap[g]? =some (.cells (gY s i 0 0) 200 (0,0))/\i<=s.size
 | .error b=>b.1≠0/\∃ i,i<=s.size/\w.heap[g]? =some (.cells (gY s i b.1 b.2) 200 (0,0))
def sNum (s:ByteArray) (lo hi:Nat):Except J9 Nat->Except J9 Nat×Nat
 | .error b=>(.error b,0)
 | .ok p=>match L5 s lo hi p with
  | .error b=>(.error b,0)
  | .ok (n,j)=>(.ok j,n)
def M7 (s:ByteArray):Except J9 Nat->Except J9 Nat×Nat
 | .error b=>(.error b,0)
 | .ok p=>match U8 s p with
  | .error b=>(.error b,0)
  | .ok (n,j)=>(.ok j,n)
theorem dE {s:ByteArray} {lo hi i:Nat} {b:J9} (h:L5 s lo hi i= .error b):sNum s lo hi (.ok i)=(.error b,0):=by simp only [sNum,h]
theorem yQ {s:ByteArray} {lo hi i n j:Nat} (h:L5 s lo hi i= .ok (n,j)):sNum s lo hi (.ok i)=(.ok j,n):=by simp only [sNum,h]
theorem wD {s:ByteArray} {i:Nat} {b:J9} (h:U8 s i= .error b):M7 s (.ok i)=(.error b,0):=by simp only [M7,h]
theorem Br {s:ByteArray} {i n j:Nat} (h:U8 s i= .ok (n,j)):M7 s (.ok i)=(.ok j,n):=by simp only [M7,h]
theorem dc {w:World} {g:Nat} {s:ByteArray} {i c a:Nat} (h:w.heap[g]? =some (.cells (gY s i c a) 200 (0,0))) (x y:Nat):((w.setCell ⟨g,2,none⟩ (.int .i64 x)).setCell ⟨g,3,none⟩ (.int .i64 y)).heap[g]? =some (.cells (gY s i x y) 200 (0,0))/\n4 (fun k=>k=g) w ((w.setCell ⟨g,2,none⟩ (.int .i64 x)).setCell ⟨g,3,none⟩ (.int .i64 y)) :=
 ⟨(k7 (i:=3) (cs:=gY s i x a) (t:=200) (fr:=(0,0)) ((k7 (i:=2) (cs:=gY s i c a) (t:=200) (fr:=(0,0)) h _).trans (by simp [gY])) _).trans (by simp [gY]),(n4.setCell (S:=fun k=>k=g) (p:=⟨g,2,none⟩) rfl _).trans (n4.setCell (S:=fun k=>k=g) (p:=⟨g,3,none⟩) rfl _)⟩
theorem Gu {w:World} {g:Nat} {s:ByteArray} {i c a:Nat} (h:w.heap[g]? =some (.cells (gY s i c a) 200 (0,0))) (x:Nat):(w.setCell ⟨g,1,none⟩ (.int .i64 x)).heap[g]? =some (.cells (gY s x c a) 200 (0,0)) :=
 (k7 (i:=1) (cs:=gY s i c a) (t:=200) (fr:=(0,0)) h _).trans (by simp [gY])
theorem Bu (w:World) (g:Nat) (s:ByteArray) (i:Nat) (c a:Nat) (hg:w.heap[g]? =some (.cells (gY s i 0 0) 200 (0,0))):Calls Tryz.prog 118 #[.pointer (some ⟨g,0,none⟩),.int .i64 c,.int .i64 a] w fun e w1=>e= .returned (.tuple #[])/\w1.heap[g]? =some (.cells (gY s i c a) 200 (0,0))/\n4 (fun k=>k=g) w w1:=by
 refine dT 18 Tryz.func118 fun fr hf s0 s1 s2=> ?_
 have c0:=n5 0 hg
 have c1:=n5 1 hg
 have c2:=n5 2 hg
 have c3:=n5 3 hg
 simp [gY] at c0 c1 c2 c3
 have Ja:=j6 (i:=1) hg
 have SU:=j6 (i:=2) hg
 have fz3:=j6 (i:=3) hg
 refine Ze fun _ a8=>Zr [6,7,8,9,10] hf ?_
 refine z8 0 1 2 11 hf ?_
 clear hf s0 s1 s2;intro a7 hf sS
 refine Zx a8 (Fc.l7 sS.2.2.2 ?_)
 refine Zr [12,13,14,15,16,17] hf ?_
 refine Dq hf ?_
 intro a7 hf
 exact Fc.mE rfl hf ⟨rfl,dc hg _ _⟩
theorem Nt (w:World) (g:Nat) (s:ByteArray) (i Nu a0:Nat) (c a:Nat) (SV:Nu≠0) (hg:w.heap[g]? =some (.cells (gY s i Nu a0) 200 (0,0))):Calls Tryz.prog 118 #[.pointer (some ⟨g,0,none⟩),.int .i64 c,.int .i64 a] w fun e w1=>e= .returned (.tuple #[])/\w1=w:=by
 refine dT 18 Tryz.func118 fun fr hf s0 s1 s2=> ?_
 have c0:=n5 0 hg
 have c1:=n5 1 hg
 have c2:=n5 2 hg
 have c3:=n5 3 hg
 simp [gY] at c0 c1 c2 c3
 have q1:((Nu:Int)==0)=false:=beq_eq_false_iff_ne.2 oM
 refine Ze fun _ a8=>rg ?_
 have bB:=hf.B5 6 7 8 9 10
 iterate 5 refine Zy ?_
 refine fp fun K Z=> ?_
 go_simp
 try rw [q1]
 apply Z.out;clear Z K
 refine Fc.nil (z8 0 1 2 11 hf ?_)
 clear hf s0 s1 s2 bB;intro a7 hf sS
 refine Zx a8 (Fc.k9 sS.2.2.2 ?_)
 refine wp_skip ?_
 exact Fc.mE rfl hf ⟨rfl,rfl⟩
theorem US (w:World) (g:Nat) (s:ByteArray) (i Nu a0:Nat) (SV:Nu≠0) (hg:w.heap[g]? =some (.cells (gY s i Nu a0) 200 (0,0))) (lo cU:Nat):Calls Tryz.prog 119 #[.pointer (some ⟨g,0,none⟩),.int .u64 lo,.int .u64 cU] w fun e w1=>e= .returned (.int .u64 0)/\w1=w:=by
 refine dT 57 Tryz.func119 fun fr hf s0 s1 s2=> ?_
 have c0:=n5 0 hg
 have c1:=n5 1 hg
 have c2:=n5 2 hg
 have c3:=n5 3 hg
 simp [gY] at c0 c1 c2 c3
 have q1:((Nu:Int) !=0)=true:=sO
 refine Ze fun _ a8=>Zr [] hf ?_
 refine y7 0 1 2 hf ?_
 clear hf s0 s1 s2;intro a7 hf sS
 refine Zs a8 fun _ a8=>Ze fun _ j8=>rg ?_
 have bB:=hf.B5 10 11 12 13 14
 iterate 5 refine Zy ?_
 refine fp fun K Z=> ?_
 go_simp
 try rw [q1]
 apply Z.out;clear Z K
 refine Fc.nil (z8 0 1 2 15 hf ?_)
 intro a7 hf sS
 refine Zx j8 (Fc.l7 sS.2.2.2 ?_)
 refine Ze fun _ j8=>Zr [] hf ?_
 refine p5 6 hf ?_
 intro a7 hf s6
 refine Zx j8 (k8 ?_)
 exact Fc.o6 rfl hf s6 ⟨rfl,rfl⟩
theorem UT (w:World) (g:Nat) (s:ByteArray) (i:Nat) (hi:i<=s.size) (C8:s.size<=1000000000) (hg:w.heap[g]? =some (.cells (gY s i 0 0) 200 (0,0))) (lo cU:Nat):Calls Tryz.prog 119 #[.pointer (some ⟨g,0,none⟩),.int .u64 lo,.int .u64 cU] w fun e w1=>e= .returned (.int .u64 (sNum s lo cU (.ok i)).2)/\IN w1 g s (sNum s lo cU (.ok i)).1/\n4 (fun k=>k=g) w w1:=by
 refine dT 57 Tryz.func119 fun fr hf s0 s1 s2=> ?_
 have c0:=n5 0 hg
 have c1:=n5 1 hg
 have c2:=n5 2 hg
 have c3:=n5 3 hg
 simp [gY] at c0 c1 c2 c3
 obtain ⟨n,j,c,hgn⟩:∃ n j c,getN (wl s) i=(n,j,c):=⟨_,_,_,rfl⟩
 have nh:=H9 hgn
 refine Ze fun _ a8=>Zr [] hf ?_
 refine y7 0 1 2 hf ?_
 clear hf s0 s1 s2;intro a7 hf sS
 refine Zs a8 fun _ a8=>Ze fun _ j8=>Zr [10,11,12,13,14] hf ?_
 refine z8 0 1 2 15 hf ?_
 intro a7 hf sS
 refine Zx j8 (Fc.k9 sS.2.2.2 ?_)
 refine wp_skip (Zx a8 ?_)
 clear c2 c3
 refine Ze fun _ a8=> ?_
 obtain ⟨s0,s1,s2,aQ⟩:=sS
 refine Sb.tb 57 fun a6=> ?_
 refine Sb.mO 0 s0 hf a6 ?_
 refine Sb.T 1 hf a6 ?_
 refine Sb.T 2 hf a6 ?_
 refine Sb.T 3 hf a6 ?_ (hF:=fun _ _ h d=>ad (cL h.ext c0) (cL h.ext c1))
 refine Sb.mO 4 s0 hf a6 ?_
 refine Sb.T 5 hf a6 ?_
 refine Sb.T 6 hf a6 ?_
 refine Sb.T 7 hf a6 ?_ (hF:=fun _ _ h d=>ad (cL h.ext c0) (cL h.ext c1))
 apply Sb.tq 8 _ hf a6
 . (
 intro a7 w1 hh hd hk K Z
 have N5:=Sb.v 3 4 hd hk []
 have dL:=Sb.v 7 0 hd hk []
 clear hd
 replace c0:=cL hh.ext c0
 replace c1:=cL hh.ext c1
 go_simp
 go_at_call 145;refine (y9h w1 s C8 i oM).mono ?_;rintro e w2 ⟨rfl,hb⟩
 rw [nh.out]
 exact Z.out _ rfl _ _ hb rfl)
 refine Sb.mN 9 8 0 hf a6 [] ?_
 refine Sb.T 10 hf a6 ?_
 refine Sb.T 11 hf a6 ?_
 refine Sb.T 12 hf a6 ?_
 refine Sb.mN 13 10 2 hf a6 [] ?_
 refine Sb.mN 14 11 2 hf a6 [] ?_
 refine Sb.mN 15 12 2 hf a6 [] ?_
 refine Sb.E hf a6 (fun _ _ h g=>ad (Sb.O h s0) (ad (Sb.O h s1) (ad (Sb.O h s2) (ad (Sb.f 13 2 g) (ad (Sb.f 14 1 g) (Sb.f 15 0 g)))))) ?_
 clear hf a6 s0 s1 s2 aQ;intro a7 w1 hf hx sS
 replace c0:=cL hx c0
 replace c1:=cL hx c1
 replace hg:=(hx.block g (j5 hg)).trans hg
 refine Zx a8 ?_
 by_cases hc:c≠0
 . (
 have HC:=H9 hc;clear hc
 have q1:((c:Int) !=0)=true:=by have:=HC.out;simp;omega
 refine Ze fun _ a8=>Ze fun _ j8=>rg ?_
 have bB:=hf.b 29
 refine Zy ?_
 refine fp fun K Z=> ?_
 go_simp
 try rw [q1]
 apply Z.out;clear Z K
 refine Fc.nil (Z1 0 1 2 7 8 9 30 hf ?_)
 intro a7 hf sS
 refine Zx j8 (Fc.l7 sS.2.2.2.2.2.2 ?_)
 refine Ze fun _ j8=>rg ?_
 have bB:=hf.B6 31 32 33 34 35 36
 iterate 6 refine Zy ?_
 refine Zc (Bu w1 g s i c i hg) ?_;rintro e w2 ⟨rfl,iR,r8⟩
 have l6:=(n4.of _ hx).trans r8
 refine Zv ?_
 refine Fc.nil (Dq hf ?_)
 intro a7 hf
 refine Zs j8 fun _ j8=>Zr [] hf ?_
 refine p5 6 hf ?_
 clear hf;intro a7 hf s6
 refine Zx j8 (k8 ?_)
 refine Fc.o6 rfl hf s6 ?_
 have hp:L5 s lo cU i= .error (c,i):=by unfold L5 U9;rw [nh.out,if_pos HC.out]
 rw [dE hp]
 exact ⟨rfl,⟨HC.out,i,hi,iR⟩,l6⟩)
 . (
 have hcz:c=0:=Classical.not_not.1 hc
 clear hc
 subst hcz
 refine Ze fun _ a8=>Ze fun _ j8=>rg ?_
 have bB:=hf.b 29
 refine Zy ?_
 refine fp fun K Z=> ?_
 go_simp
 try rw [q1]
 apply Z.out;clear Z K
 refine Fc.nil (Z1 0 1 2 7 8 9 30 hf ?_)
 intro a7 hf sS
 refine Zx j8 (Fc.k9 sS.2.2.2.2.2.2 ?_)
 have hj:=Gv (cX s) nh.out
 rw [o5] at hj
 have mV:=hj.2.2
 unfold q9 at mV
 rcases (by omega:n<lo\/(lo<=n/\cU<n)\/(lo<=n/\n<=cU)) with Ek | Ek | Ek
 . (
 have HQ:=H9 Ek;clear Ek
 have r1:decide (n<lo)=true:=decide_eq_true HQ.out
 refine wp_skip (Zs a8 fun _ a8=>Ze fun _ j8=> ?_)
 have qs:=r1
 refine Zr [38,39,40,41,42,43,44] hf ?_
 refine z8 0 7 8 45 hf ?_
 clear hf sS qs;intro a7 hf sS
 refine Zx j8 (Fc.l7 sS.2.2.2 ?_)
 have c1:=n5 1 hg
 simp [gY] at c1
 refine Ze fun _ j8=>rg ?_
 have bB:=hf.B5 46 47 48 49 50
 iterate 5 refine Zy ?_
 refine Zc (Bu w1 g s i 17 i hg) ?_;rintro e w2 ⟨rfl,iR,r8⟩
 have l6:=(n4.of _ hx).trans r8
 refine Zv ?_
 refine Fc.nil (Dq hf ?_)
 intro a7 hf
 refine Zs j8 fun _ j8=>Zr [] hf ?_
 refine p5 6 hf ?_
 clear hf;intro a7 hf s6
 refine Zx j8 (k8 ?_)
 refine Fc.o6 rfl hf s6 ?_
 have hp:L5 s lo cU i= .error (17,i):=by unfold L5 U9 aH;rw [nh.out];simp only;rw [if_neg sP,if_pos (by rw [if_pos (by have:=HQ.out;omega)];decide),if_pos (by have:=HQ.out;omega)]
 rw [dE hp]
 exact ⟨rfl,⟨sP,i,hi,iR⟩,l6⟩)
 . (
 have HQ:=H9 Ek;clear Ek
 have r1:decide (n<lo)=false:=decide_eq_false (by have:=HQ.out.1;omega)
 have r2:decide (cU<n)=true:=decide_eq_true HQ.out.2
 refine wp_skip (Zs a8 fun _ a8=>Ze fun _ j8=> ?_)
 have qs:=And.intro r1 r2
 refine Zr [38,39,40,41,42,43,44] hf ?_
 refine z8 0 7 8 45 hf ?_
 clear hf sS qs;intro a7 hf sS
 refine Zx j8 (Fc.l7 sS.2.2.2 ?_)
 have c1:=n5 1 hg
 simp [gY] at c1
 refine Ze fun _ j8=>rg ?_
 have bB:=hf.B5 46 47 48 49 50
 iterate 5 refine Zy ?_
 refine Zc (Bu w1 g s i 17 i hg) ?_;rintro e w2 ⟨rfl,iR,r8⟩
 have l6:=(n4.of _ hx).trans r8
 refine Zv ?_
 refine Fc.nil (Dq hf ?_)
 intro a7 hf
 refine Zs j8 fun _ j8=>Zr [] hf ?_
 refine p5 6 hf ?_
 clear hf;intro a7 hf s6
 refine Zx j8 (k8 ?_)
 refine Fc.o6 rfl hf s6 ?_
 have hp:L5 s lo cU i= .error (17,i):=by unfold L5 U9 aH;rw [nh.out];simp only;rw [if_neg sP,if_pos (by rw [if_pos (by have:=HQ.out;omega)];decide),if_pos (by have:=HQ.out;omega)]
 rw [dE hp]
 exact ⟨rfl,⟨sP,i,hi,iR⟩,l6⟩)
 . (
 have HQ:=H9 Ek;clear Ek
 have r1:decide (n<lo)=false:=decide_eq_false (by have:=HQ.out.1;omega)
 have r2:decide (cU<n)=false:=decide_eq_false (by have:=HQ.out.2;omega)
 refine wp_skip (Zs a8 fun _ a8=>Ze fun _ j8=> ?_)
 have qs:=And.intro r1 r2
 refine Zr [38,39,40,41,42,43,44] hf ?_
 refine z8 0 7 8 45 hf ?_
 clear hf sS qs;intro a7 hf sS
 refine Zx j8 (Fc.k9 sS.2.2.2 ?_)
 have c1:=n5 1 hg
 simp [gY] at c1
 have Ja:=j6 (i:=1) hg
 refine wp_skip (Zs a8 fun _ a8=>Zr [52,53,54,55] hf ?_)
 refine p5 7 hf ?_
 intro a7 hf s7
 refine Zs a8 fun _ a8=>Zr [56] hf ?_
 refine p5 6 hf ?_
 clear hf s7;intro a7 hf s6
 refine Zx a8 (k8 ?_)
 refine Fc.o6 rfl hf s6 ?_
 have hp:L5 s lo cU i= .ok (n,j):=by unfold L5 U9 aH;rw [nh.out];simp only;rw [if_neg sP,if_neg (by rw [if_neg (by have:=HQ.out;omega)];simp)]
 rw [yQ hp]
 exact ⟨rfl,⟨Gu hg j,hj.2.1⟩,(n4.of _ hx).trans (n4.setCell (S:=fun k=>k=g) rfl _)⟩))
theorem y9d (w:World) (g:Nat) (s:ByteArray) (st:Except J9 Nat) (h:IN w g s st) (C8:s.size<=1000000000) (lo cU:Nat):Calls Tryz.prog 119 #[.pointer (some ⟨g,0,none⟩),.int .u64 lo,.int .u64 cU] w fun e w1=>e= .returned (.int .u64 (sNum s lo cU st).2)/\IN w1 g s (sNum s lo cU st).1/\n4 (fun k=>k=g) w w1:=by
 cases st with
 | ok i=>exact UT w g s i h.2 C8 h.1 lo cU
 | error b =>
  obtain ⟨h0,i,hi,hg⟩:=h
  refine (US w g s i b.1 b.2 h0 hg lo cU).mono ?_
  rintro e w1 ⟨rfl,h1⟩
  subst w1
  exact ⟨rfl,⟨h0,i,hi,hg⟩,n4.refl _ _⟩
theorem Nv (w:World) (g:Nat) (s:ByteArray) (i Nu a0:Nat) (SV:Nu≠0) (hg:w.heap[g]? =some (.cells (gY s i Nu a0) 200 (0,0))):Calls Tryz.prog 117 #[.pointer (some ⟨g,0,none⟩)] w fun e w1=>e= .returned (.int .u8 0)/\w1=w:=by
 refine L7 42 Tryz.func117 fun fr hf s0=> ?_
 have c0:=n5 0 hg
 have c1:=n5 1 hg
 have c2:=n5 2 hg
 have c3:=n5 3 hg
 simp [gY] at c0 c1 c2 c3
 have q1:((Nu:Int) !=0)=true:=sO
 refine Ze fun _ a8=>Zr [] hf ?_
 refine p5 0 hf ?_
 clear hf s0;intro a7 hf s0
 refine Zs a8 fun _ a8=>Ze fun _ j8=>rg ?_
 have bB:=hf.B5 3 4 5 6 7
 iterate 5 refine Zy ?_
 refine fp fun K Z=> ?_
 go_simp
 try rw [q1]
 apply Z.out;clear Z K
 refine Fc.nil (y4 0 8 hf ?_)
 clear hf s0 bB;intro a7 hf sS
 refine Zx j8 (Fc.l7 sS.2 ?_)
 refine Ze fun _ j8=>Zr [] hf ?_
 refine p5 2 hf ?_
 intro a7 hf s2
 refine Zx j8 (k8 ?_)
 exact Fc.o6 rfl hf s2 ⟨rfl,rfl⟩
theorem Nw (w:World) (g:Nat) (s:ByteArray) (i:Nat) (hi:i<=s.size) (C8:s.size<=1000000000) (hg:w.heap[g]? =some (.cells (gY s i 0 0) 200 (0,0))):Calls Tryz.prog 117 #[.pointer (some ⟨g,0,none⟩)] w fun e w1=>e= .returned (.int .u8 (M7 s (.ok i)).2)/\IN w1 g s (M7 s (.ok i)).1/\n4 (fun k=>k=g) w w1:=by
 refine L7 42 Tryz.func117 fun fr hf s0=> ?_
 have c0:=n5 0 hg
 have c1:=n5 1 hg
 have c2:=n5 2 hg
 have c3:=n5 3 hg
 simp [gY] at c0 c1 c2 c3
 clear c2 c3
 have uQ:∀ (i:Nat) (h:i<s.size),s[i].toNat=at_ s i:=fun i h=>(aY h).symm
 have c2:=n5 2 hg
 simp [gY] at c2
 refine Ze fun _ a8=>Zr [] hf ?_
 refine p5 0 hf ?_
 clear hf s0;intro a7 hf s0
 refine Zs a8 fun _ a8=>Ze fun _ j8=>Zr [3,4,5,6,7] hf ?_
 refine y4 0 8 hf ?_
 clear hf s0;intro a7 hf sS
 refine Zx j8 (Fc.k9 sS.2 ?_)
 refine wp_skip (Zx a8 ?_)
 clear c2
 refine Ze fun _ a8=>Ze fun _ j8=> ?_
 obtain ⟨s0,s8⟩:=sS
 refine Sb.tb 42 fun a6=> ?_
 refine Sb.mO 0 s0 hf a6 ?_
 refine Sb.T 1 hf a6 ?_
 refine Sb.T 2 hf a6 ?_
 refine Sb.T 3 hf a6 ?_ (hF:=fun _ _ h d=>ad (cL h.ext c0) (cL h.ext c1))
 refine Sb.mO 4 s0 hf a6 ?_
 refine Sb.T 5 hf a6 ?_
 refine Sb.T 6 hf a6 ?_
 refine Sb.T 7 hf a6 ?_ (hF:=fun _ _ h d=>ad (cL h.ext c0) (cL h.ext c1))
 refine Sb.T 8 hf a6 ?_ (hF:=fun _ _ h d=>ad (cL h.ext c0) (cL h.ext c1))
 refine Sb.T 9 hf a6 ?_
 refine Sb.E hf a6 (fun _ _ h g=>ad (Sb.O h s0) (Sb.f 9 0 g)) ?_
 clear hf a6 s0 s8;intro a7 w1 hf hx sS
 replace c0:=cL hx c0
 replace c1:=cL hx c1
 replace hg:=(hx.block g (j5 hg)).trans hg
 refine Zx j8 (Fc.l0 sS.2 (fun hq=> ?_) (fun hq=> ?_))
 . (
 have C3:i=s.size:=qT
 have nM:=H9 C3;clear C3 hq
 refine Ze fun _ j8=>rg ?_
 have bB:=hf.B5 19 20 21 22 23
 iterate 5 refine Zy ?_
 refine Zc (Bu w1 g s i 3 i hg) ?_;rintro e w2 ⟨rfl,iR,r8⟩
 have l6:=(n4.of _ hx).trans r8
 refine Zv ?_
 refine Fc.nil (Dq hf ?_)
 intro a7 hf
 refine Zs j8 fun _ j8=>Zr [] hf ?_
 refine p5 2 hf ?_
 clear hf;intro a7 hf s2
 refine Zx j8 (k8 ?_)
 refine Fc.o6 rfl hf s2 ?_
 have hp:U8 s i= .error (3,i):=by unfold U8 U9 K4;rw [if_pos nM.out];rfl
 rw [wD hp]
 exact ⟨rfl,⟨sP,i,hi,iR⟩,l6⟩)
 . (
 have o9:i<s.size:=qF
 clear hq
 obtain ⟨c,hc⟩:∃ c,at_ s i=c:=⟨_,rfl⟩
 have vi:s[i].toNat=c:=by rw [<- hc];exact uQ _ o9
 have hp:U8 s i= .ok (c,i+1):=by have F0:¬ i=s.size:=(by omega);unfold U8 U9 K4;simp [F0,hc]
 have HP:=H9 hp;have HC:=H9 hc;clear hp hc
 have Ja:=j6 (i:=1) hg
 refine wp_skip (Zs a8 fun _ a8=>Zr [25,26,27,28,29,30,31] hf ?_)
 refine p5 0 hf ?_
 intro a7 hf s0
 have iR:=Gu hg (i+1)
 have l6:=(n4.of _ hx).trans (n4.setCell (S:=fun k=>k=g) (w:=w1) (p:=⟨g,1,none⟩) rfl (.int .i64 ((i:Int)+1)))
 rw [show ((i+1:Nat):Int)=(i:Int)+1 from rfl] at iR
 obtain ⟨W6,AG⟩:∃ x,w1.setCell ⟨g,1,none⟩ (.int .i64 ((i:Int)+1))=x:=⟨_,rfl⟩
 rw [AG] at iR l6
 try rw [AG]
 clear AG c0 c1
 have c0:=n5 0 iR;have c1:=n5 1 iR
 simp [gY] at c0 c1
 clear Ja hx
 refine Zs a8 fun _ a8=>Sb.tb 42 fun a6=> ?_
 refine Sb.mO 0 s0 hf a6 ?_
 refine Sb.T 1 hf a6 ?_
 refine Sb.T 2 hf a6 ?_
 refine Sb.T 3 hf a6 ?_ (hF:=fun _ _ h d=>ad (cL h.ext c0) (cL h.ext c1))
 refine Sb.mO 4 s0 hf a6 ?_
 refine Sb.T 5 hf a6 ?_
 refine Sb.T 6 hf a6 ?_
 refine Sb.T 7 hf a6 ?_ (hF:=fun _ _ h d=>ad (cL h.ext c0) (cL h.ext c1))
 apply Sb.tq 8 _ hf a6
 . (
 intro a7 w1 hh hd hk K Z
 have cR:=Sb.v 7 0 hd hk []
 clear hd
 go_simp
 try simp (disch:=omega) only [Fc.W]
 try rw [show ((i:Int)+1)-1=(i:Int) by omega]
 try rw [Fc.wrap_i64 oM oM]
 exact Sb.k Z)
 apply Sb.tq 9 _ hf a6
 . (
 intro a7 w1 hh hd hk K Z
 have ZW:=Sb.v 3 5 hd hk []
 have gZ:=Sb.v 8 0 hd hk []
 clear hd
 replace c0:=cL hh.ext c0
 replace c1:=cL hh.ext c1
 go_simp
 try rw [if_pos o9]
 try rw [vi]
 try rw [HC.out]
 exact Sb.k Z)
 refine Sb.mN 10 9 0 hf a6 [] ?_
 refine Sb.E hf a6 (fun _ _ h g=>Sb.f 10 0 g) ?_
 clear hf a6 s0;intro a7 w1 hf hx s2
 replace c0:=cL hx c0
 replace c1:=cL hx c1
 refine Zx a8 (k8 ?_)
 refine Fc.o6 rfl hf s2 ?_
 rw [Br HP.out]
 exact ⟨rfl,⟨(hx.block g (j5 iR)).trans iR,o9⟩,l6.trans (n4.of _ hx)⟩)
theorem vh (w:World) (g:Nat) (s:ByteArray) (st:Except J9 Nat) (h:IN w g s st) (C8:s.size<=1000000000):Calls Tryz.prog 117 #[.pointer (some ⟨g,0,none⟩)] w fun e w1=>e= .returned (.int .u8 (M7 s st).2)/\IN w1 g s (M7 s st).1/\n4 (fun k=>k=g) w w1:=by
 cases st with
 | ok i=>exact Nw w g s i h.2 C8 h.1
 | error b =>
  obtain ⟨h0,i,hi,hg⟩:=h
  refine (Nv w g s i b.1 b.2 h0 hg).mono ?_
  rintro e w1 ⟨rfl,h1⟩
  subst w1
  exact ⟨rfl,⟨h0,i,hi,hg⟩,n4.refl _ _⟩
def gN (s:ByteArray) (k:Nat) (st:Except J9 Nat):Except J9 Nat:=match M7 s st with
 | (.ok j,c)=>if c=K6 k then .ok j else .error (6,k)
 | (.error b,_)=> .error b
def sMag (s:ByteArray):Nat->Nat->Except J9 Nat->Except J9 Nat
 | 0,_,st=>st
 | m+1,k,st=>sMag s m (k+1) (gN s k st)
def Bv (s:ByteArray) (i:Nat) (st:Except J9 Nat):Except J9 Nat×u3 :=
 ((sNum s 1 i (sNum s 0 18446744073709551615 (M7 s st).1).1).1,⟨(M7 s st).2,(sNum s 0 18446744073709551615 (M7 s st).1).2,((i-(sNum s 1 i (sNum s 0 18446744073709551615 (M7 s st).1).1).2:Nat):Int)⟩)
def sArcs (s:ByteArray) (i:Nat):Nat->Except J9 Nat->List u3->Except J9 Nat×List u3
 | 0,st,acc=>(st,acc)
 | _+1,.error b,acc=>(.error b,acc)
 | k+1,.ok p,acc=>sArcs s i k (Bv s i (.ok p)).1 (acc++[(Bv s i (.ok p)).2])
def mW (s:ByteArray) (h:Nat) (st:Except J9 Nat):Except J9 Nat×Nat:=if h%2=1 then sNum s 0 18446744073709551615 st else (st,0)
def bQ (s:ByteArray) (i:Nat) (st:Except J9 Nat):Except J9 Nat×State :=
 ((sArcs s i ((sNum s 0 513 st).2 / 2) (mW s (sNum s 0 513 st).2 (sNum s 0 513 st).1).1 []).1,⟨decide ((sNum s 0 513 st).2%2=1),(mW s (sNum s 0 513 st).2 (sNum s 0 513 st).1).2,(sArcs s i ((sNum s 0 513 st).2 / 2) (mW s (sNum s 0 513 st).2 (sNum s 0 513 st).1).1 []).2⟩)
def sStates (s:ByteArray):Nat->Nat->Except J9 Nat->List State->Except J9 Nat×List State
 | 0,_,st,acc=>(st,acc)
 | _+1,_,.error b,acc=>(.error b,acc)
 | k+1,i,.ok p,acc=>sStates s k (i+1) (bQ s i (.ok p)).1 (acc++[(bQ s i (.ok p)).2])
def sEnd (s:ByteArray) (en:Nat) (init:Nat) (ss:List State):Except J9 Nat->Except J9 (Nat×Nat×List State)
 | .error b=> .error b
 | .ok p=>if p<s.size then .error (4,p) else .ok (en,init,ss)
def db (s:ByteArray):Except J9 (Nat×Nat×List State) :=
 sEnd s (sNum s 0 100000 (sMag s 3 0 (.ok 0))).2
  (sNum s 0 18446744073709551615 (sStates s (sNum s 1 18446744073709551615 (sNum s 0 100000 (sMag s 3 0 (.ok 0))).1).2 0 (sNum s 1 18446744073709551615 (sNum s 0 100000 (sMag s 3 0 (.ok 0))).1).1 []).1).2
  (sStates s (sNum s 1 18446744073709551615 (sNum s 0 100000 (sMag s 3 0 (.ok 0))).1).2 0 (sNum s 1 18446744073709551615 (sNum s 0 100000 (sMag s 3 0 (.ok 0))).1).1 []).2
  (sNum s 0 18446744073709551615 (sStates s (sNum s 1 18446744073709551615 (sNum s 0 100000 (sMag s 3 0 (.ok 0))).1).2 0 (sNum s 1 18446744073709551615 (sNum s 0 100000 (sMag s 3 0 (.ok 0))).1).1 []).1).1
theorem iZ (s:ByteArray) (lo hi:Nat) (b:J9):sNum s lo hi (.error b)=(.error b,0):=rfl
theorem KW (s:ByteArray) (k:Nat) (b:J9):gN s k (.error b)= .error b:=rfl
theorem Ny (s:ByteArray) (b:J9):∀ (m k:Nat),sMag s m k (.error b)= .error b
 | 0,_=>rfl
 | m+1,k=>by rw [sMag,KW,Ny s b m]
theorem lA (s:ByteArray) (i:Nat) (b:J9) (acc:List u3):∀ k,sArcs s i k (.error b) acc=(.error b,acc)
 | 0=>rfl
 | k+1=>rfl
theorem dF (s:ByteArray) (b:J9) (acc:List State):∀ k i,sStates s k i (.error b) acc=(.error b,acc)
 | 0,_=>rfl
 | k+1,_=>rfl
def Rel {α:Type} (st:Except J9 Nat) (v:α):Except J9 (α×Nat)->Prop
 | .error b=>st= .error b
 | .ok (x,j)=>st= .ok j/\v=x
theorem eB (s:ByteArray) (lo hi p:Nat):Rel (sNum s lo hi (.ok p)).1 (sNum s lo hi (.ok p)).2 (L5 s lo hi p):=by
 cases h:L5 s lo hi p with
 | error b=>rw [dE h];rfl
 | ok x=>obtain ⟨n,j⟩:=x;rw [yQ h];exact ⟨rfl,rfl⟩
theorem Bw (s:ByteArray) (p:Nat):Rel (M7 s (.ok p)).1 (M7 s (.ok p)).2 (U8 s p):=by
 cases h:U8 s p with
 | error b=>rw [wD h];rfl
 | ok x=>obtain ⟨n,j⟩:=x;rw [Br h];exact ⟨rfl,rfl⟩
theorem Bz (s:ByteArray) (i:Nat):∀ (k p:Nat) (acc:List u3),Rel (sArcs s i k (.ok p) acc).1 (sArcs s i k (.ok p) acc).2 (pArcs s i k p acc)
 | 0,p,acc=>⟨rfl,rfl⟩
 | k+1,p,acc=>by
  simp only [pArcs,sArcs]
  have h1:=Bw s p
  cases hc:U8 s p with
  | error b =>
   rw [hc] at h1
   have h1:(M7 s (.ok p)).1= .error b:=h1
   simp only [Bv,h1,iZ,lA]
   rfl
  | ok x =>
   obtain ⟨c,p1⟩:=x
   rw [hc] at h1
   have h2:=eB s 0 18446744073709551615 p1
   simp only
   cases ho:L5 s 0 18446744073709551615 p1 with
   | error b =>
    rw [ho] at h2
    have h2:(sNum s 0 18446744073709551615 (.ok p1)).1= .error b:=h2
    simp only [Bv,h1.1,h2,iZ,lA]
    rfl
   | ok x =>
    obtain ⟨o,p2⟩:=x
    rw [ho] at h2
    have h3:=eB s 1 i p2
    simp only
    cases hd:L5 s 1 i p2 with
    | error b =>
     rw [hd] at h3
     have h3:(sNum s 1 i (.ok p2)).1= .error b:=h3
     simp only [Bv,h1.1,h2.1,h3,lA]
     rfl
    | ok x =>
     obtain ⟨d,p3⟩:=x
     rw [hd] at h3
     simp only [Bv,h1.1,h1.2,h2.1,h2.2,h3.1,h3.2]
     exact Bz s i k p3 _
theorem UU (s:ByteArray) (h p:Nat):Rel (mW s h (.ok p)).1 (mW s h (.ok p)).2 (jA s h p):=by
 unfold mW jA
 split
 ·exact eB s _ _ p
 ·exact ⟨rfl,rfl⟩
theorem wE (s:ByteArray) (i p:Nat):Rel (bQ s i (.ok p)).1 (bQ s i (.ok p)).2 (N1 s i p):=by
 unfold N1 bQ
 have h1:=eB s 0 513 p
 cases hn:L5 s 0 513 p with
 | error b =>
  rw [hn] at h1
  have e1:(sNum s 0 513 (.ok p)).1= .error b:=h1
  have e2:(sNum s 0 513 (.ok p)).2=0:=by rw [dE hn]
  simp only [e1,e2]
  rfl
 | ok x =>
  obtain ⟨n,p1⟩:=x
  rw [hn] at h1
  simp only [h1.1,h1.2]
  have h2:=UU s n p1
  cases ho:jA s n p1 with
  | error b =>
   rw [ho] at h2
   have h2:(mW s n (.ok p1)).1= .error b:=h2
   simp only [h2,lA]
   rfl
  | ok x =>
   obtain ⟨o,p2⟩:=x
   rw [ho] at h2
   simp only [h2.1,h2.2]
   have h3:=Bz s i (n / 2) p2 []
   cases ha:pArcs s i (n / 2) p2 [] with
   | error b =>
    rw [ha] at h3
    exact h3
   | ok x =>
    obtain ⟨l,p3⟩:=x
    rw [ha] at h3
    simp only [pMk]
    exact ⟨h3.1,by rw [h3.2]⟩
theorem rX (s:ByteArray):∀ (k i p:Nat) (acc:List State),Rel (sStates s k i (.ok p) acc).1 (sStates s k i (.ok p) acc).2 (pStates s k i p acc)
 | 0,i,p,acc=>⟨rfl,rfl⟩
 | k+1,i,p,acc=>by
  simp only [pStates,sStates]
  have h1:=wE s i p
  cases hs:N1 s i p with
  | error b =>
   rw [hs] at h1
   have h1:(bQ s i (.ok p)).1= .error b:=h1
   simp only [h1,dF]
   rfl
  | ok x =>
   obtain ⟨st,p1⟩:=x
   rw [hs] at h1
   simp only [h1.1,h1.2]
   exact rX s k (i+1) p1 _
theorem step_mag (s:ByteArray) (k:Nat):gN s k (.ok k)=match pD s k k with | .error b=> .error b | .ok (_,j)=> .ok j:=by
 unfold gN pD
 have h1:=Bw s k
 unfold U8 at h1
 unfold U9 at h1 |-
 unfold rY
 by_cases hc:(K4 s k).2.2≠0
 ·rw [if_pos hc] at h1
  have h1:(M7 s (.ok k)).1= .error ((K4 s k).2.2,k):=h1
  rw [if_pos hc]
  cases hs:M7 s (.ok k) with
  | mk a b=>rw [hs] at h1;simp only at h1;subst h1;rfl
 ·rw [if_neg hc] at h1
  simp only [ne_eq,not_true_eq_false,if_false] at h1
  rw [if_neg hc]
  cases hs:M7 s (.ok k) with
  | mk a b =>
   rw [hs] at h1
   obtain ⟨h2,h3⟩:=h1
   simp only at h2 h3
   subst h2
   simp only [h3]
   by_cases hm:(K4 s k).1=K6 k
   ·rw [if_pos hm];simp [hm]
   ·rw [if_neg hm];simp [hm]
theorem KX {s:ByteArray} {k x j:Nat} (h:pD s k k= .ok (x,j)):j=k+1:=by
 unfold pD U9 K4 at h
 by_cases h2:k=s.size
 ·rw [if_pos h2] at h;simp at h
 ·rw [if_neg h2] at h
  simp only [ne_eq,not_true_eq_false,if_false] at h
  split at h
  ·cases h
  ·injection h with h
   injection h with h4 h5
   exact h5.symm
theorem Nz (s:ByteArray):∀ (m k:Nat),sMag s m k (.ok k)=match pMagic s m k k with | .error b=> .error b | .ok p=> .ok p
 | 0,k=>rfl
 | m+1,k=>by
  simp only [sMag,pMagic,step_mag]
  cases hp:pD s k k with
  | error b=>simp only [Ny]
  | ok x =>
   obtain ⟨c,j⟩:=x
   have:=KX hp
   subst this
   simp only
   exact Nz s m (k+1)
theorem UW (s:ByteArray):db s=pAll s:=by
 unfold db pAll
 have h0:=Nz s 3 0
 cases hm:pMagic s 3 0 0 with
 | error b =>
  rw [hm] at h0
  simp only [h0,iZ,dF]
  rfl
 | ok p =>
  rw [hm] at h0
  simp only [h0]
  have h1:=eB s 0 100000 p
  cases he:L5 s 0 100000 p with
  | error b =>
   rw [he] at h1
   have h1:(sNum s 0 100000 (.ok p)).1= .error b:=h1
   simp only [h1,iZ,dF]
   rfl
  | ok x =>
   obtain ⟨en,p1⟩:=x
   rw [he] at h1
   simp only [h1.1,h1.2]
   have h2:=eB s 1 18446744073709551615 p1
   cases hn:L5 s 1 18446744073709551615 p1 with
   | error b =>
    rw [hn] at h2
    have h2:(sNum s 1 18446744073709551615 (.ok p1)).1= .error b:=h2
    simp only [h2,iZ,dF]
    rfl
   | ok x =>
    obtain ⟨n,p2⟩:=x
    rw [hn] at h2
    simp only [h2.1,h2.2]
    have h3:=rX s n 0 p2 []
    cases hs:pStates s n 0 p2 [] with
    | error b =>
     rw [hs] at h3
     have h3:(sStates s n 0 (.ok p2) []).1= .error b:=h3
     simp only [h3,iZ]
     rfl
    | ok x =>
     obtain ⟨ss,p3⟩:=x
     rw [hs] at h3
     simp only [h3.1,h3.2]
     have h4:=eB s 0 18446744073709551615 p3
     cases hi:L5 s 0 18446744073709551615 p3 with
     | error b =>
      rw [hi] at h4
      have h4:(sNum s 0 18446744073709551615 (.ok p3)).1= .error b:=h4
      simp only [h4]
      rfl
     | ok x =>
      obtain ⟨init,p4⟩:=x
      rw [hi] at h4
      simp only [h4.1,h4.2]
      rfl
theorem eC (s:ByteArray) (lo hi:Nat) (st:Except J9 Nat):(sNum s lo hi st).2<=hi/\(sNum s lo hi st).2<18446744073709551616:=by
 cases st with
 | error b=>exact ⟨Nat.zero_le _,by rw [iZ];simp⟩
 | ok p =>
  cases h:L5 s lo hi p with
  | error b=>rw [dE h];simp
  | ok x =>
   obtain ⟨n,j⟩:=x
   rw [yQ h]
   have:=G6 h
   have h2:=this.2.2.1
   unfold q9 at h2
   exact ⟨this.2.2.2.2.1,h2⟩
theorem CA {s:ByteArray} {i p p':Nat} (hi:i<=1000000000) (h:(bQ s i (.ok p)).1= .ok p'):p<p'/\p'<=s.size:=by
 have h1:=wE s i p
 cases hs:N1 s i p with
 | error b =>
  rw [hs] at h1
  rw [show (bQ s i (.ok p)).1= .error b from h1] at h
  cases h
 | ok x =>
  obtain ⟨st,j⟩:=x
  rw [hs] at h1
  rw [h1.1] at h
  injection h with h
  subst h
  have:=mX hi hs
  exact ⟨this.1,this.2.1⟩
theorem IN.but {w w':World} {g:Nat} {s:ByteArray} {st:Except J9 Nat} {S:Nat->Prop} (h:IN w g s st) (hb:n4 S w w') (hn:¬ S g):IN w' g s st:=by
 cases st with
 | ok i=>exact ⟨hb.heap h.1 hn,h.2⟩
 | error b=>obtain ⟨h0,i,hi,hg⟩:=h;exact ⟨h0,i,hi,hb.heap hg hn⟩
theorem IN.later {w w':World} {g:Nat} {s:ByteArray} {st:Except J9 Nat} (h:IN w g s st) (hb:Below w.heap.size w w'):IN w' g s st:=h.but (n4.of (fun _=>False) hb) (fun h=>h)
theorem IN.lt {w:World} {g:Nat} {s:ByteArray} {st:Except J9 Nat} (h:IN w g s st):g<w.heap.size:=by
 cases st with
 | ok i=>exact j5 h.1
 | error b=>obtain ⟨h0,i,hi,hg⟩:=h;exact j5 hg
def codeOf:Except J9 Nat->Nat
 | .ok _=>0
 | .error b=>b.1
def placeOf:Except J9 Nat->Nat
 | .ok _=>0
 | .error b=>b.2
theorem IN.cells {w:World} {g:Nat} {s:ByteArray} {st:Except J9 Nat} (h:IN w g s st):∃ i,i<=s.size/\(∀ p,st= .ok p->i=p)/\w.heap[g]? =some (.cells (gY s i (codeOf st) (placeOf st)) 200 (0,0)):=by
 cases st with
 | ok i=>exact ⟨i,h.2,(fun p hp=>by injection hp),h.1⟩
 | error b=>obtain ⟨h0,i,hi,hg⟩:=h;exact ⟨i,hi,(fun p hp=>by cases hp),hg⟩
theorem IN.code {w:World} {g:Nat} {s:ByteArray} {st:Except J9 Nat} (h:IN w g s st):w.cell? ⟨g,2,none⟩=some (.int .i64 (codeOf st))/\w.cell? ⟨g,3,none⟩=some (.int .i64 (placeOf st)):=by
 obtain ⟨i,_,_,hg⟩:=h.cells
 have c2:=n5 2 hg
 have c3:=n5 3 hg
 simp [gY] at c2 c3
 exact ⟨c2,c3⟩
theorem IN.err {w:World} {g:Nat} {s:ByteArray} {b:J9} (h:IN w g s (.error b)):b.1≠0:=h.1
def lB (b:J9):Except J9 Nat->Except J9 Nat
 | .ok _=> .error b
 | .error a=> .error a
theorem KY (b:J9) (st:Except J9 Nat):∃ a,lB b st= .error a:=by
 cases st<;>exact ⟨_,rfl⟩
theorem PA (w:World) (g:Nat) (s:ByteArray) (st:Except J9 Nat) (h:IN w g s st) (c a:Nat) (hc:c≠0):Calls Tryz.prog 118 #[.pointer (some ⟨g,0,none⟩),.int .i64 c,.int .i64 a] w fun e w1=>e= .returned (.tuple #[])/\IN w1 g s (lB (c,a) st)/\n4 (fun k=>k=g) w w1:=by
 cases st with
 | ok i =>
  refine (Bu w g s i c a h.1).mono ?_
  rintro e w1 ⟨rfl,h1,h2⟩
  exact ⟨rfl,⟨hc,i,h.2,h1⟩,h2⟩
 | error b =>
  obtain ⟨h0,i,hi,hg⟩:=h
  refine (Nt w g s i b.1 b.2 c a h0 hg).mono ?_
  rintro e w1 ⟨rfl,h1⟩
  subst w1
  exact ⟨rfl,⟨h0,i,hi,hg⟩,n4.refl _ _⟩
theorem rZ (w:World) (g:Nat) (s:ByteArray) (st Gw:Except J9 Nat) (n:Nat) (h:IN w g s st) (C8:s.size<=1000000000) (lo hi:Nat) (he:sNum s lo hi st=(Gw,n)):Calls Tryz.prog 119 #[.pointer (some ⟨g,0,none⟩),.int .u64 lo,.int .u64 hi] w fun e w1=>e= .returned (.int .u64 n)/\IN w1 g s Gw/\n4 (fun k=>k=g) w w1:=by
 have:=y9d w g s st h C8 lo hi
 rw [he] at this
 exact this
theorem PC (w:World) (g:Nat) (s:ByteArray) (st Gw:Except J9 Nat) (n:Nat) (h:IN w g s st) (C8:s.size<=1000000000) (he:M7 s st=(Gw,n)):Calls Tryz.prog 117 #[.pointer (some ⟨g,0,none⟩)] w fun e w1=>e= .returned (.int .u8 n)/\IN w1 g s Gw/\n4 (fun k=>k=g) w w1:=by
 have:=vh w g s st h C8
 rw [he] at this
 exact this
theorem da (w:World) (s:ByteArray) (C8:s.size<=900000000) {b:ByteArray} {is:Bool} (he:openR (Crc.opened (wl s))=(b,is)):E2 w 116 #[.string s] (.tuple #[.string b,.bool is]):=by
 have:=vt w s C8
 rw [he] at this
 exact this
theorem UX {s:ByteArray} {b:ByteArray} {is:Bool} (he:openR (Crc.opened (wl s))=(b,is)):b.size<=s.size:=by
 have h9:=congrArg (fun x=>x.1.size) he
 simp only at h9
 rw [<- h9]
 cases X4:Crc.opened (wl s) with
 | none=>exact Nat.zero_le _
 | some l =>
  have h8:=congrArg List.length (Crc.cC X4)
  rw [Crc.T5,o5] at h8
  simp only [openR,N7]
  omega
theorem CB {s:ByteArray} {k c:Nat} {st Gw:Except J9 Nat} (h:M7 s st=(Gw,c)):gN s k st=if c=K6 k then Gw else lB (6,k) Gw:=by
 unfold gN
 rw [h]
 cases Gw with
 | ok j=>rfl
 | error b=>simp [lB]
theorem KZ {s:ByteArray} {k m c:Nat} {st Gw:Except J9 Nat} (h:M7 s st=(Gw,c)):sMag s (m+1) k st=sMag s m (k+1) (if c=K6 k then Gw else lB (6,k) Gw):=by
 rw [sMag,CB h]
theorem UY {s:ByteArray} {i c o d:Nat} {st s1 s2 s3:Except J9 Nat} (h1:M7 s st=(s1,c)) (h2:sNum s 0 18446744073709551615 s1=(s2,o)) (h3:sNum s 1 i s2=(s3,d)):Bv s i st=(s3,⟨c,o,((i-d:Nat):Int)⟩):=by
 unfold Bv
 simp only [h1,h2,h3]
theorem Ka {s:ByteArray} {i h o:Nat} {l:List u3} {st s1 s2 s3:Except J9 Nat} (h1:sNum s 0 513 st=(s1,h)) (h2:mW s h s1=(s2,o)) (h3:sArcs s i (h / 2) s2 []=(s3,l)):bQ s i st=(s3,⟨decide (h%2=1),o,l⟩):=by
 unfold bQ
 simp only [h1,h2,h3]
theorem UZ {s:ByteArray} {en n init:Nat} {l:List State} {s0 s1 s2 s3 s4:Except J9 Nat} (h0:sMag s 3 0 (.ok 0)=s0) (h1:sNum s 0 100000 s0=(s1,en)) (h2:sNum s 1 18446744073709551615 s1=(s2,n)) (h3:sStates s n 0 s2 []=(s3,l)) (h4:sNum s 0 18446744073709551615 s3=(s4,init)):pAll s=sEnd s en init l s4:=by
 rw [<- UW]
 unfold db
 simp only [h0,h1,h2,h3,h4]
def y9c (w w1:World) (e:Ending):Except J9 (Nat×Nat×List State)->Prop
 | .error b=>e= .returned (.tuple #[.int .i64 0,.agg #[.slice none 0 0,.int .u64 0],.agg #[.int .i64 b.1,.int .i64 b.2]])/\b.1≠0/\Below w.heap.size w w1
 | .ok (en,init,ss)=>∃ sv,e= .returned (.tuple #[.int .i64 en,.agg #[sv,.int .u64 init],.agg #[.int .i64 0,.int .i64 0]])/\RS w1 sv ss/\Below w.heap.size w w1
theorem PD {s:ByteArray} {b:ByteArray} (he:openR (Crc.opened (wl s))=(b,false)):N9 s= .error (16,0):=by unfold N9;rw [he];rfl
theorem Em {s:ByteArray} {b:ByteArray} (he:openR (Crc.opened (wl s))=(b,true)):N9 s=pAll b:=by unfold N9;rw [he];rfl
theorem pX {P:Program} {fn:Func} {R:Ending->World->Prop} {n p q u g g2:Nat} {ty ty2 t t2:TypeId} {a:Act} {w:World} {x:Value} {cs vg:Array Value} {fr Wp:Nat×Nat} {d d2:TypeDesc} (h:fn.results= #[.tmp u,.cell p ty,.cell q ty2]) (hf:Fc.Fr n a)
  (su:a.tmps[u]? =some x) (sp:a.tmps[p]? =some (.pointer (some ⟨g,0,none⟩))) (sq:a.tmps[q]? =some (.pointer (some ⟨g2,0,none⟩))) (hg:w.heap[g]? =some (.cells cs t fr)) (iR:w.heap[g2]? =some (.cells vg t2 Wp)) (hu:P.underlying ty=some d) (hd:(match d with | .struct _ | .array _ _=>true | _=>false)=true) (Kb:P.underlying ty2=some d2) (hd2:(match d2 with | .struct _ | .array _ _=>true | _=>false)=true)
  (hi:(P.info? ty).map (·.size)=some cs.size) (ND:(P.info? ty2).map (·.size)=some vg.size) (hR:R (.returned (.tuple #[x,.agg cs,.agg vg])) w):bodyPost P fn R .ret a w:=by
 refine bodyPost_ret (v:= .tuple #[x,.agg cs,.agg vg]) ?_ hf.defers hR
 have oX:a.tmps[p]?.getD undef= .pointer (some ⟨g,0,none⟩):=by simp [sp]
 have hq':a.tmps[q]?.getD undef= .pointer (some ⟨g2,0,none⟩):=by simp [sq]
 simp [results,h,Sem.run_bind,oX,hq',asAddr,run_loadVar_row w g t ty cs fr d hg hu hd hi,run_loadVar_row w g2 t2 ty2 vg Wp d2 iR Kb hd2 ND,Result.andThen,su]
end Dw
end Go.Proofs.YtcddnmhmcieebaaGreatDoor
