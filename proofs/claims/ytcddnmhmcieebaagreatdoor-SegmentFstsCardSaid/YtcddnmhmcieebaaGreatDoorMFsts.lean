import Derived.Test.YtcddnmhmcieebaaGreatDoorY13
import Derived.Test.YtcddnmhmcieebaaGreatDoorCards
namespace Go.Proofs.YtcddnmhmcieebaaGreatDoor
set_option linter.unusedSimpArgs false
set_option linter.unusedVariables false
set_option linter.unnecessarySimpa false
open Go.ChangeShapes Go.WideShapes Go.ChangeAt Go.RowKit Go.Deep
set_option maxRecDepth 100000 in
theorem segmentFsts_lifted (os:Os) (started:os.Started) (H:Type) (enc:TypeId×Value->H) :
  ReturnsInHanded {} Tryz.checked os 5 .any (fun w args=>(Rows.segmentFstsSpec.pre enc Tryz.prog Tryz.f5 [] false w args/\laidMetH Tryz.prog TA w)/\sizedMet enc Tryz.prog Tryz.f5 (OpenSpec.ofChange Rows.segmentFstsSpec) false w args)
   (Rows.segmentFstsSpec.post enc Tryz.prog Tryz.f5 false true false false):=by
 refine returnsInHanded_of_change_and (C:=Tryz.checked) (X:=fun w _=>laidMetH Tryz.prog TA w) (fun _ _ _ hh h=>h.of_heap hh) Own.own started kR Tryz.func5
  (ChangeSpec.witness_shaped (enc:=enc) (C:=Tryz.checked) (os:=os) (X:=fun w _=>laidMetH Tryz.prog TA w) false (World.doorLaid Tryz.prog 24 os) #[.slice none 0 0,.int .u64 0,.int .i8 0] 8 rfl (World.shaped_of_RefB kR kR) kR kR kR (Md os _)) ?_
 intro W base args ds gs before Wh hW _ _ hL _
 have TB:∀ (j:Nat) t v,Tryz.f5.params[j]? =some t->args[j]? =some v->Value.okWide Tryz.prog W .any base t v:=Wh
 have hW':=hW
 obtain ⟨p,q,zV,hV,rfl,AL,qH⟩:=hW
 have hA:DataW.TrodAll enc Tryz.prog W 0 (fun _=>true) true Tryz.f5.params.toList args.toList ds p:=zV
 rw [Tryz.params5] at hA TB
 obtain ⟨rfl,rfl⟩:=trodVars_none hV
 obtain ⟨v0,v1,v2,d0,d1,d2,p0,p1,p2,rfl,rfl,rfl,h0,h1,h2⟩:=trodAll_three hA
 obtain ⟨A0,x6c,x6b,rfl⟩:=okWide_slice Tryz.underlying34 (TB 0 34 v0 rfl rfl)
 obtain ⟨zf,rfl,rfl,rfl,hwf⟩:=open_int Tryz.underlying35 (TB 1 35 v1 rfl rfl) h1
 obtain ⟨zn,rfl,rfl,rfl,hwn⟩:=open_int Tryz.underlying55 (TB 2 55 v2 rfl rfl) h2
 have bf:=bounds_u64 hwf
 have bn:=bounds_i8 hwn
 obtain ⟨nf,rfl⟩:∃ n:Nat,zf=(n:Int):=⟨zf.toNat,oM⟩
 have o9:∀ x∈p0++[]++[],x.block<W.heap.size:=fun x hx=>hW'.lt x (by simpa [List.append_assoc] using hx)
 obtain ⟨n0,hf0⟩:=id h0
 obtain ⟨ss,hrl,Yq⟩:=Dw.xF (by simpa [Value.cells] using hf0)
 clear zV Wh
 try simp only [List.append_nil] at hW'
 refine (Dw.qt W _ ss hrl Yq nf oM zn oM).mono fun e W' ⟨he,hw⟩=> ?_
 subst he
 refine ⟨_,rfl,TC rfl rfl rfl hW' hw (fun sp SN=> ?_)⟩
 rw [Tryz.params5]
 have h9:=trodAll_mk3 (WideElems.Trod_stays Own.laidOut kR (of_decide_eq_true kR) h0 (fun x hx=>hw.same (o9 x (by first | (simp [hx];done) | cases hx))) (fun x hx=>SN x (by first | (simp [hx];done) | cases hx))) (WideElems.Trod_stays Own.laidOut kR (of_decide_eq_true kR) h1 (fun x hx=>hw.same (o9 x (by first | (simp [hx];done) | cases hx))) (fun x hx=>SN x (by first | (simp [hx];done) | cases hx))) (WideElems.Trod_stays Own.laidOut kR (of_decide_eq_true kR) h2 (fun x hx=>hw.same (o9 x (by first | (simp [hx];done) | cases hx))) (fun x hx=>SN x (by first | (simp [hx];done) | cases hx)))
 simpa [List.append_assoc] using h9
theorem segmentFsts_row:Rows.SegmentFstsSaid :=
 OpenClaim.holds_of_wide 5 Tryz.f5 rfl rfl rfl rfl rfl rfl rfl ⟨rfl,rfl,rfl,rfl,rfl⟩ rfl rfl rfl rfl rfl kR Tryz.func5 kR
  (of_decide_eq_true kR) (by unfold Func.isWrapper;first | (rw [if_pos (by decide +kernel)];kernel_rfl) | (rw [if_neg (by decide +kernel)];exact ⟨rfl,rfl⟩))
  (fun os started H enc _=>segmentFsts_lifted os started H enc)
theorem segmentFsts_holds:Rows.SegmentFstsCardSaid :=
 Claim7.holds_tied_plain_at .later [] [.data, .data, .data] true (true, "a5b4b35365159a1bd52e29224586d473c2fa61a37fd6909bfafd9f25cf212676") true
  segmentFsts_row (fun _ h=>by cases h) kR (fun _ h=>by cases h) segmentFsts_row_tie rfl ⟨rfl,rfl⟩ kR rfl
  (fun f fn hf mh=>by
   obtain rfl : f = 5 := Option.some.inj ((show Tryz.prog.funcNamed "cedilla/cedillalaw16.SegmentFsts" = some 5 by kernel_rfl).symm.trans hf) |>.symm
   obtain rfl:fn=Tryz.f5:=(Option.some.inj (Tryz.func5.symm.trans mh)).symm
   exact ⟨kR,fun j t ht=>by
    rw [Tryz.params5] at ht
    match j,ht with
    | 0,ht=>(obtain rfl:t=34:=(Option.some.inj ht).symm;exact (show Tryz.prog.wantsStandIn 34=false by kernel_rfl))
    | 1,ht=>(obtain rfl:t=35:=(Option.some.inj ht).symm;exact (show Tryz.prog.wantsStandIn 35=false by kernel_rfl))
    | 2,ht=>(obtain rfl:t=55:=(Option.some.inj ht).symm;exact (show Tryz.prog.wantsStandIn 55=false by kernel_rfl))
    | j+3,ht=>simp at ht⟩)
  (by kernel_rfl)
#print axioms segmentFsts_holds
end Go.Proofs.YtcddnmhmcieebaaGreatDoor
