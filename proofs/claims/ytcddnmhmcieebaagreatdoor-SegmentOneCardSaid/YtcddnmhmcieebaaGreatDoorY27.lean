/- What comes in, opened: states. -/
import Derived.Test.YtcddnmhmcieebaaGreatDoorY26
import Derived.Test.YtcddnmhmcieebaaGreatDoorY1
import Derived.Test.YtcddnmhmcieebaaGreatDoorProg
import Derived.Test.YtcddnmhmcieebaaGreatDoorRows
import Derived.ProofKit
import Derived.Deep.Slices
import Derived.Deep.Fields
import Derived.OpenShut
import Derived.Below
import Derived.Test.YtcddnmhmcieebaaGreatDoorTie
import Derived.LaidMore
import Derived.Stop.Joined
namespace Go.Proofs.YtcddnmhmcieebaaGreatDoor
open Go.RowKit
set_option linter.unusedSimpArgs false
set_option linter.unusedVariables false
set_option linter.unnecessarySimpa false
namespace Dw
open Go.ChangeShapes Go.WideShapes Go.ChangeAt Go.Deep
set_option maxRecDepth 100000
theorem y5c:Tryz.prog.cellsOf 71=3:=kR
theorem zD:Tryz.prog.cellsOf 47=3:=kR
def w1y (s:State):Prop:=s.out<18446744073709551616/\∀ a∈s.a6,uZ a
section
variable {H:Type} {enc:TypeId×Value->H} {W:World}
theorem y5b {fuel:Nat} {v:Value} {x:DataW H×List MemPlace} (h:DataW.trod enc Tryz.prog W 0 (fun _=>true) true fuel 44 [v]=some x) :
  ∃ l:List r7,RA W (fun _=>True) v l/\∀ a∈l,uZ a:=by
 rcases open_slice Tryz.underlying44 h with ⟨S6, -⟩ | ⟨a,len,cap,m,n,D,Pl,S6,_,hl,hm,oH, -,hi⟩
 ·injection S6 with S6
  exact ⟨[],by rw [S6];exact RA.S0,sP⟩
 ·injection S6 with S6
  simp only [if_true] at oH
  subst oH
  have key:∀ i,i<len->∃ d:r7,uZ d/\W.cell? (a.add (i*3))=some (.int .u8 d.byte)/\W.cell? (a.add (i*3+1))=some (.int .u64 d.out)/\W.cell? (a.add (i*3+2))=some (.int .i64 d.to):=by
   intro i P2
   obtain ⟨cs',hc,ht'⟩:=hi i oM
   rw [y5c] at hc
   obtain ⟨ys,n',hn',hy,hlen,hyl,hf⟩:=DataW.trod_struct Tryz.underlying71 ht'
   obtain ⟨_,N5,D3⟩:=World.cells?_some hc
   match cs',N5 with
   | [u0,u1,u2],_ =>
    have k0:=D3 0 oM
    have k1:=D3 1 oM
    have k2:=D3 2 oM
    have f0:=hf 0 _ rfl
    have f1:=hf 1 _ rfl
    have f2:=hf 2 _ rfl
    have g0:DataW.trod enc Tryz.prog W 0 (fun _=>true) true n' 5 [u0]=ys[0]? :=f0
    have g1:DataW.trod enc Tryz.prog W 0 (fun _=>true) true n' 35 [u1]=ys[1]? :=f1
    have g2:DataW.trod enc Tryz.prog W 0 (fun _=>true) true n' 3 [u2]=ys[2]? :=f2
    have y3:ys.length=3:=hyl
    rw [D9 oM] at g0 g1 g2
    obtain ⟨z0,gE, -,hw0⟩:=DataW.trod_int Tryz.underlying5 g0
    obtain ⟨z1,fK, -,hw1⟩:=DataW.trod_int Tryz.underlying35 g1
    obtain ⟨z2,U4, -,hw2⟩:=DataW.trod_int Tryz.underlying3 g2
    injection gE with gE
    injection fK with fK
    injection U4 with U4
    subst gE
    subst fK
    subst U4
    rw [Go.Deep.add_add] at k0 k1 k2
    have b0:=bounds_u8 hw0
    have b1:=bounds_u64 hw1
    have b2:=bounds_i64 hw2
    obtain ⟨n0,rfl⟩:∃ n0:Nat,z0=(n0:Int):=⟨z0.toNat,oM⟩
    obtain ⟨n1,rfl⟩:∃ n1:Nat,z1=(n1:Int):=⟨z1.toNat,oM⟩
    exact ⟨⟨n0,n1,z2⟩,⟨sQ,sQ,sQ,sQ⟩,k0,k1,k2⟩
  obtain ⟨F,hF⟩:=choose_lt (α:=Option r7) (p:=fun i o=>∃ d,o=some d/\uZ d/\W.cell? (a.add (i*3))=some (.int .u8 d.byte)/\W.cell? (a.add (i*3+1))=some (.int .u64 d.out)/\W.cell? (a.add (i*3+2))=some (.int .i64 d.to))
   (fun i hi=>by obtain ⟨d,hd⟩:=key i hi;exact ⟨some d,d,rfl,hd⟩)
  have hlen:((List.range len).map fun i=>(F i).getD ⟨0,0,0⟩).length=len:=sP
  have gJ:∀ (i:Nat) (d:r7),((List.range len).map fun i=>(F i).getD ⟨0,0,0⟩)[i]? =some d->i<len/\F i=some d:=fun i d hd=>by
   have P2:i<len:=by have:=(E2 hd).1;simpa using this
   obtain ⟨d',e,_⟩:=hF i P2
   rw [List.getElem?_map,List.getElem?_range P2] at hd
   simp only [Option.map_some,e,Option.getD_some,Option.some.injEq] at hd
   exact ⟨P2,by rw [e,hd]⟩
  refine ⟨(List.range len).map fun i=>(F i).getD ⟨0,0,0⟩,⟨some a,m,by rw [hlen];exact S6,by rw [hlen];exact hl,fun h0=> ?_⟩,fun d hd=> ?_⟩
  ·rw [hlen] at h0
   obtain ⟨ab,ao,spot⟩:=a
   obtain ⟨d0, -, -,q0, -⟩:=hF 0 h0
   have sJ:spot=none:=by simpa [Addr.add] using World.cell?_spot q0
   subst sJ
   refine ⟨ab,ao,rfl,trivial,fun j u hu=> ?_⟩
   have hj:=(E2 hu).1
   rw [P8,hlen] at hj
   obtain ⟨d,hd⟩:∃ d,((List.range len).map fun i=>(F i).getD ⟨0,0,0⟩)[j / 3]? =some d:=⟨_,D9 (by rw [hlen];omega)⟩
   obtain ⟨P2,hFi⟩:=gJ (j / 3) d hd
   obtain ⟨d',e, -,k0,k1,k2⟩:=hF (j / 3) P2
   obtain rfl:d=d':=Option.some.inj (hFi.symm.trans e)
   have hg:=jL ((List.range len).map fun i=>(F i).getD ⟨0,0,0⟩) (j / 3) (j%3) (by rw [hlen];omega) oM
   rw [show j / 3*3+j%3=j by omega,(E2 hd).2] at hg
   rw [hg] at hu
   rw [Addr.add_lit] at k0 k1 k2
   rcases (show j%3=0\/j%3=1\/j%3=2 by omega) with h3 | h3 | h3
   ·rw [h3] at hu
    rw [show ao+j=ao+j / 3*3 by omega,k0]
    exact hu
   ·rw [h3] at hu
    rw [show ao+j=ao+(j / 3*3+1) by omega,k1]
    exact hu
   ·rw [h3] at hu
    rw [show ao+j=ao+(j / 3*3+2) by omega,k2]
    exact hu
  ·obtain ⟨i,hi2⟩:=List.mem_iff_getElem?.1 hd
   obtain ⟨P2,hFi⟩:=gJ i d hi2
   obtain ⟨d',e,a8, -⟩:=hF i P2
   obtain rfl:d=d':=Option.some.inj (hFi.symm.trans e)
   exact a8
theorem xG {fuel:Nat} {v:Value} {x:DataW H×List MemPlace} (h:DataW.trod enc Tryz.prog W 0 (fun _=>true) true fuel 34 [v]=some x) :
  ∃ ss:List State,RS W v ss/\∀ s∈ss,w1y s:=by
 rcases open_slice Tryz.underlying34 h with ⟨S6, -⟩ | ⟨a,len,cap,m,n,D,Pl,S6,_,hl,hm,oH, -,hi⟩
 ·injection S6 with S6
  exact ⟨[],by rw [S6];exact RS.S0 W,sP⟩
 ·injection S6 with S6
  simp only [if_true] at oH
  subst oH
  have key:∀ i,i<len->∃ s:State,w1y s/\∃ av,W.cell? (a.add (i*3))=some av/\W.cell? (a.add (i*3+1))=some (.bool s.final)/\W.cell? (a.add (i*3+2))=some (.int .u64 s.out)/\RA W (fun _=>True) av s.a6:=by
   intro i P2
   obtain ⟨cs',hc,ht'⟩:=hi i oM
   rw [zD] at hc
   obtain ⟨ys,n',hn',hy,hlen,hyl,hf⟩:=DataW.trod_struct Tryz.underlying47 ht'
   obtain ⟨_,N5,D3⟩:=World.cells?_some hc
   match cs',N5 with
   | [u0,u1,u2],_ =>
    have k0:=D3 0 oM
    have k1:=D3 1 oM
    have k2:=D3 2 oM
    have f0:=hf 0 _ rfl
    have f1:=hf 1 _ rfl
    have f2:=hf 2 _ rfl
    have g0:DataW.trod enc Tryz.prog W 0 (fun _=>true) true n' 44 [u0]=ys[0]? :=f0
    have g1:DataW.trod enc Tryz.prog W 0 (fun _=>true) true n' 4 [u1]=ys[1]? :=f1
    have g2:DataW.trod enc Tryz.prog W 0 (fun _=>true) true n' 35 [u2]=ys[2]? :=f2
    have y3:ys.length=3:=hyl
    rw [D9 oM] at g0 g1 g2
    obtain ⟨l,qR,nH⟩:=y5b g0
    obtain ⟨g,hg, -⟩:=DataW.trod_bool Tryz.underlying4 g1
    obtain ⟨z,hz, -,hwz⟩:=DataW.trod_int Tryz.underlying35 g2
    injection hz with hz
    injection hg with hg
    subst hz
    subst hg
    rw [Go.Deep.add_add] at k0 k1 k2
    have b1:=bounds_u64 hwz
    obtain ⟨n1,rfl⟩:∃ n1:Nat,z=(n1:Int):=⟨z.toNat,oM⟩
    exact ⟨⟨g,n1,l⟩,⟨sQ,nH⟩,u0,k0,k1,k2,qR⟩
  obtain ⟨F,hF⟩:=choose_lt (α:=Option State) (p:=fun i o=>∃ s,o=some s/\w1y s/\∃ av,W.cell? (a.add (i*3))=some av/\W.cell? (a.add (i*3+1))=some (.bool s.final)/\W.cell? (a.add (i*3+2))=some (.int .u64 s.out)/\RA W (fun _=>True) av s.a6)
   (fun i hi=>by obtain ⟨d,hd⟩:=key i hi;exact ⟨some d,d,rfl,hd⟩)
  have hlen:((List.range len).map fun i=>(F i).getD E1).length=len:=sP
  have gJ:∀ (i:Nat) (d:State),((List.range len).map fun i=>(F i).getD E1)[i]? =some d->i<len/\F i=some d:=fun i d hd=>by
   have P2:i<len:=by have:=(E2 hd).1;simpa using this
   obtain ⟨d',e,_⟩:=hF i P2
   rw [List.getElem?_map,List.getElem?_range P2] at hd
   simp only [Option.map_some,e,Option.getD_some,Option.some.injEq] at hd
   exact ⟨P2,by rw [e,hd]⟩
  refine ⟨(List.range len).map fun i=>(F i).getD E1,⟨some a,m,by rw [hlen];exact S6,by rw [hlen];exact hl,fun h0=> ?_⟩,fun d hd=> ?_⟩
  ·rw [hlen] at h0
   obtain ⟨ab,ao,spot⟩:=a
   obtain ⟨d0, -, -,av0,q0, -⟩:=hF 0 h0
   have sJ:spot=none:=by simpa [Addr.add] using World.cell?_spot q0
   subst sJ
   refine ⟨ab,ao,rfl,fun i s hs=> ?_⟩
   obtain ⟨P2,hFi⟩:=gJ i s hs
   obtain ⟨d',e, -,av,k0,k1,k2,k3⟩:=hF i P2
   obtain rfl:s=d':=Option.some.inj (hFi.symm.trans e)
   rw [Addr.add_lit] at k0 k1 k2
   exact ⟨av,k0,by rw [Nat.add_assoc];exact k1,by rw [Nat.add_assoc];exact k2,k3⟩
  ·obtain ⟨i,hi2⟩:=List.mem_iff_getElem?.1 hd
   obtain ⟨P2,hFi⟩:=gJ i d hi2
   obtain ⟨d',e,a8, -⟩:=hF i P2
   obtain rfl:d=d':=Option.some.inj (hFi.symm.trans e)
   exact a8
end
end Dw
open Go.ChangeShapes Go.WideShapes Go.ChangeAt Go.RowKit Go.Deep
theorem Own.own:ownKnob Tryz.prog.godebug=none:=kR
theorem Own.laidOut:laidOutB Tryz.prog=true:=kR
set_option maxRecDepth 100000 in
theorem x5v {H:Type} {enc:TypeId×Value->H} {f:Func} {s:ChangeSpec} {fresh handsOn again:Bool} {W W':World} {args:Array Value} {ds:List (DataW H)} {before:List MemPlace}
  (hv:s.vars=[]) (ht:f.resultTypes= #[4]) (hf:s.fn H ds={ results:=[.lit (.bool true)],args:=ds })
  (hW:DataW.Whole enc Tryz.prog f.params.toList s.vars false W args.toList ds [] before) (hb:Below W.heap.size W W')
  (v1f:∀ sp:Nat->Bool,(∀ p∈before,sp p.block=true)->DataW.TrodAll enc Tryz.prog W' 0 sp true f.params.toList args.toList ds before) :
  s.post enc Tryz.prog f false fresh handsOn again W args (.bool true) W':=by
 have n8:∀ p∈before,p.block<W.heap.size:=fun p hp=>hW.lt p hp
 have hold:∀ p∈before,(fun b=>decide (b<W.heap.size)) p.block=true:=fun p hp=>by simpa using n8 p hp
 have z8:∀ (b:Nat) (sp:Nat->Bool) (hd:Bool),DataW.TrodAll enc Tryz.prog W' b sp hd f.resultTypes.toList ((Value.bool true).resultList f.resultTypes.size) (s.fn H (ds++[])).results []:=fun b sp hd=>by
  rw [ht,List.append_nil,hf]
  exact trodAll_mk1 ⟨1,by simp [DataW.trod,Value.cells,Tryz.underlying4]⟩
 have w7n:∀ sp:Nat->Bool,DataW.TrodVars enc Tryz.prog W' sp s.vars (s.fn H (ds++[])).vars []:=fun sp=>by
  rw [List.append_nil,hf,hv];rfl
 have ha2:∀ sp:Nat->Bool,(∀ p∈before,sp p.block=true)->DataW.TrodAll enc Tryz.prog W' 0 sp true f.params.toList args.toList (s.fn H (ds++[])).args before:=fun sp hsp=>by
  rw [List.append_nil,hf];exact v1f sp hsp
 refine ⟨ds,[],before,[],before,[],hW,z8 _ _ _,ha2 _ hold,w7n _,World.keptBut_mono (fun p hp=>⟨hp,?_⟩) (hb.frame (. ∈before)),fun _=> ?_⟩
 ·exact .inr (.inl hp)
 ·obtain ⟨_,_,_,_,_,hz,hn⟩:=hW
  refine ⟨?_,_,_,([]++before)++[],⟨[]++before,[],trodAll_append (ha2 _ (fun _ _=>rfl)) (z8 _ _ _),w7n _,rfl,?_,?_⟩,?_⟩
  ·rw [ht]
   intro j t r h1 h2
   match j,h1,h2 with
   | 0,h1,h2 =>
    injection h1 with h1
    subst h1
    have:r= .bool true:=by
     have h3:some (Value.bool true)=some r:=h2
     injection h3 with h3
     exact h3.symm
    subst this
    simp [Value.okWide,Tryz.underlying4,Cell.okWide,Cell.ok]
   | j+1,h1,h2=>simp at h1
  ·intro b off hp
   have K0:MemPlace.cell b off∈before:=by simpa using hp
   rw [hb.frozen (n8 _ K0)]
   exact hz b off K0
  ·intro ha
   cases ha
  ·intro p hp _
   simpa using hp
open Go.ChangeShapes Go.WideShapes Go.ChangeAt Go.RowKit
def x5x : List (String × DataW Unit) := [("math/bits.deBruijn32tab", Rows.laid_math_bits_deBruijn32tab), ("math/bits.deBruijn64tab", Rows.laid_math_bits_deBruijn64tab), ("internal/strconv.uint64pow10", Rows.laid_internal_strconv_uint64pow10)]
set_option maxRecDepth 100000 in
theorem y3p (os:Os) (args:Array Value):laidMetH Tryz.prog x5x ((World.doorLaid Tryz.prog 24 os).forCall (fun _ _=>0) ⟨#[],args,[]⟩).memory :=
 laidMetH_of_parts3 (fuel:=8) (laidMet_of_run' 8 kR kR) kR kR
end Go.Proofs.YtcddnmhmcieebaaGreatDoor
