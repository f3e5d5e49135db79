/- The card of SegmentOne, proved: bytes that are opened are just those that are made of their entries, of whatever transducer. -/
import Derived.Test.YtcddnmhmcieebaaGreatDoorY26
import Derived.Test.YtcddnmhmcieebaaGreatDoorY27
import Derived.Test.YtcddnmhmcieebaaGreatDoorCards
import Derived.SevenTiedAt
namespace Go.Proofs.YtcddnmhmcieebaaGreatDoor
open Go.ChangeShapes Go.WideShapes Go.ChangeAt Go.RowKit Go.Deep
set_option linter.unusedSimpArgs false
set_option linter.unusedVariables false
set_option linter.unnecessarySimpa false
set_option maxRecDepth 100000 in
theorem segmentOne_lifted (os:Os) (started:os.Started) (H:Type) (enc:TypeId×Value->H) :
  ReturnsInHanded {} Tryz.checked os 4 .any (fun w args=>(Rows.segmentOneSpec.pre enc Tryz.prog Tryz.f4 [] false w args/\laidMetH Tryz.prog x5x w)/\sizedMet enc Tryz.prog Tryz.f4 (OpenSpec.ofChange Rows.segmentOneSpec) false w args)
   (Rows.segmentOneSpec.post enc Tryz.prog Tryz.f4 false true false false):=by
 refine returnsInHanded_of_change_and (C:=Tryz.checked) (X:=fun w _=>laidMetH Tryz.prog x5x w) (fun _ _ _ hh h=>h.of_heap hh) Own.own started kR Tryz.func4
  (ChangeSpec.witness_shaped (enc:=enc) (C:=Tryz.checked) (os:=os) (X:=fun w _=>laidMetH Tryz.prog x5x w) false (World.doorLaid Tryz.prog 24 os) #[.slice none 0 0,.int .u64 0,.slice none 0 0] 8 rfl (World.shaped_of_RefB kR kR) kR kR kR (y3p os _)) ?_
 intro W base args ds gs before x0j hW _ _ hL _
 have x5w:∀ (j:Nat) t v,Tryz.f4.params[j]? =some t->args[j]? =some v->Value.okWide Tryz.prog W .any base t v:=x0j
 have hW':=hW
 obtain ⟨p,q,hA0,hV,rfl,hfz,hnd⟩:=hW
 have hA:DataW.TrodAll enc Tryz.prog W 0 (fun _=>true) true Tryz.f4.params.toList args.toList ds p:=hA0
 rw [Tryz.params4] at hA x5w
 obtain ⟨rfl,rfl⟩:=trodVars_none hV
 obtain ⟨v0,v1,v2,d0,d1,d2,p0,p1,p2,rfl,rfl,rfl,h0,h1,h2⟩:=trodAll_three hA
 obtain ⟨A0,t2g,t2f,rfl⟩:=okWide_slice Tryz.underlying34 (x5w 0 34 v0 rfl rfl)
 obtain ⟨A2,t2e,v7y,rfl⟩:=okWide_slice Tryz.underlying22 (x5w 2 22 v2 rfl rfl)
 obtain ⟨zf,rfl,rfl,rfl,hwf⟩:=open_int Tryz.underlying35 (x5w 1 35 v1 rfl rfl) h1
 have bf:=bounds_u64 hwf
 obtain ⟨nf,rfl⟩:∃ n:Nat,zf=(n:Int):=⟨zf.toNat,oM⟩
 have n8:∀ x∈p0++[]++p2,x.block<W.heap.size:=fun x hx=>hW'.lt x (by simpa [List.append_assoc] using hx)
 obtain ⟨n0,hf0⟩:=id h0
 obtain ⟨n2,kJ⟩:=id h2
 obtain ⟨ss,hrl,y3o⟩:=Dw.xG (by simpa [Value.cells] using hf0)
 obtain ⟨ds,hrd,z9v⟩:=Dw.z9u (by simpa [Value.cells] using kJ)
 clear hA0 x0j
 try simp only [List.append_nil] at hW'
 refine (Dw.u6h W _ ss hrl y3o nf oM ds _ hrd z9v).mono fun e W' ⟨he,hw⟩=> ?_
 subst he
 refine ⟨_,rfl,x5v rfl rfl rfl hW' hw (fun sp hsp=> ?_)⟩
 rw [Tryz.params4]
 have h9:=trodAll_mk3 (WideElems.Trod_stays Own.laidOut kR (of_decide_eq_true kR) h0 (fun x hx=>hw.same (n8 x (by first | (simp [hx];done) | cases hx))) (fun x hx=>hsp x (by first | (simp [hx];done) | cases hx))) (WideElems.Trod_stays Own.laidOut kR (of_decide_eq_true kR) h1 (fun x hx=>hw.same (n8 x (by first | (simp [hx];done) | cases hx))) (fun x hx=>hsp x (by first | (simp [hx];done) | cases hx))) (WideElems.Trod_stays Own.laidOut kR (of_decide_eq_true kR) h2 (fun x hx=>hw.same (n8 x (by first | (simp [hx];done) | cases hx))) (fun x hx=>hsp x (by first | (simp [hx];done) | cases hx)))
 simpa [List.append_assoc] using h9
theorem segmentOne_row:Rows.SegmentOneSaid :=
 OpenClaim.holds_of_wide 4 Tryz.f4 rfl rfl rfl rfl rfl rfl rfl ⟨rfl,rfl,rfl,rfl,rfl⟩ rfl rfl rfl rfl rfl kR Tryz.func4 kR
  (of_decide_eq_true kR) (by unfold Func.isWrapper;first | (rw [if_pos (by decide +kernel)];kernel_rfl) | (rw [if_neg (by decide +kernel)];exact ⟨rfl,rfl⟩))
  (fun os started H enc _=>segmentOne_lifted os started H enc)
theorem segmentOne_holds:Rows.SegmentOneCardSaid :=
 Claim7.holds_tied_plain_at .later [] [.data, .data, .data] true (true, "a5b4b35365159a1bd52e29224586d473c2fa61a37fd6909bfafd9f25cf212676") true
  segmentOne_row (fun _ h=>by cases h) kR (fun _ h=>by cases h) segmentOne_row_tie rfl ⟨rfl,rfl⟩ kR rfl
  (fun f fn hf hfn=>by
   obtain rfl : f = 4 := Option.some.inj ((show Tryz.prog.funcNamed "cedilla/cedillalaw16.SegmentOne" = some 4 by kernel_rfl).symm.trans hf) |>.symm
   obtain rfl:fn=Tryz.f4:=(Option.some.inj (Tryz.func4.symm.trans hfn)).symm
   exact ⟨kR,fun j t ht=>by
    rw [Tryz.params4] at ht
    match j,ht with
    | 0,ht=>(obtain rfl:t=34:=(Option.some.inj ht).symm;exact (show Tryz.prog.wantsStandIn 34=false by kernel_rfl))
    | 1,ht=>(obtain rfl:t=35:=(Option.some.inj ht).symm;exact (show Tryz.prog.wantsStandIn 35=false by kernel_rfl))
    | 2,ht=>(obtain rfl:t=22:=(Option.some.inj ht).symm;exact (show Tryz.prog.wantsStandIn 22=false by kernel_rfl))
    | j+3,ht=>simp at ht⟩)
  (by kernel_rfl)
#print axioms segmentOne_holds
end Go.Proofs.YtcddnmhmcieebaaGreatDoor
