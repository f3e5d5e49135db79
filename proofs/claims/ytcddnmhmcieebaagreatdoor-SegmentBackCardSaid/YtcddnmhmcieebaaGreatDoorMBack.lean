/- The card of SegmentBack, proved: a list comes back from the bytes of its segment, whole, by words, and from each word on. -/
import Derived.Test.YtcddnmhmcieebaaGreatDoorY26
import Derived.Test.YtcddnmhmcieebaaGreatDoorCards
import Derived.SevenTiedAt
namespace Go.Proofs.YtcddnmhmcieebaaGreatDoor
open Go.ChangeShapes Go.WideShapes Go.ChangeAt Go.RowKit Go.Deep
set_option linter.unusedSimpArgs false
set_option linter.unusedVariables false
set_option linter.unnecessarySimpa false
set_option maxRecDepth 100000 in
theorem segmentBack_lifted (os : Os) (started : os.Started) (H : Type) (enc : TypeId × Value -> H) :
  ReturnsInHanded {} Tryz.checked os 6 .any (fun w args => (Rows.segmentBackSpec.pre enc Tryz.prog Tryz.f6 [] false w args /\ laidMetH Tryz.prog lay3 w) /\ sizedMet enc Tryz.prog Tryz.f6 (OpenSpec.ofChange Rows.segmentBackSpec) false w args)
   (Rows.segmentBackSpec.post enc Tryz.prog Tryz.f6 false true false false) := by
 refine returnsInHanded_of_change_and (C := Tryz.checked) (X := fun w _ => laidMetH Tryz.prog lay3 w) (fun _ _ _ hh h => h.of_heap hh) Own.own started (by kernel_rfl) Tryz.func6
  (ChangeSpec.witness_shaped (enc := enc) (C := Tryz.checked) (os := os) (X := fun w _ => laidMetH Tryz.prog lay3 w) false (World.doorLaid Tryz.prog 24 os) #[.slice none 0 0, .string ⟨#[]⟩, .int .u8 0] 8 rfl (World.shaped_of_RefB (by kernel_rfl) (by kernel_rfl)) (by kernel_rfl) (by kernel_rfl) (by kernel_rfl) (door_met os _)) ?_
 intro W base args ds gs before hval0 hW _ _ hL _
 have hval : ∀ (j : Nat) t v, Tryz.f6.params[j]? = some t -> args[j]? = some v -> Value.okWide Tryz.prog W .any base t v := hval0
 have hW' := hW
 obtain ⟨p, q, hA0, hV, rfl, hfz, hnd⟩ := hW
 have hA : DataW.TrodAll enc Tryz.prog W 0 (fun _ => true) true Tryz.f6.params.toList args.toList ds p := hA0
 rw [Tryz.params6] at hA hval
 obtain ⟨rfl, rfl⟩ := trodVars_none hV
 obtain ⟨v0, v1, v2, d0, d1, d2, p0, p1, p2, rfl, rfl, rfl, h0, h1, h2⟩ := trodAll_three hA
 obtain ⟨A0, len0, cap0, rfl⟩ := okWide_slice Tryz.underlying22 (hval 0 22 v0 rfl rfl)
 obtain ⟨S, rfl, rfl, rfl, hsl⟩ := ChangeMaps.open_string Tryz.underlying9 (hval 1 9 v1 rfl rfl) h1
 obtain ⟨zn, rfl, rfl, rfl, hwn⟩ := open_int Tryz.underlying5 (hval 2 5 v2 rfl rfl) h2
 have bn := bounds_u8 hwn
 obtain ⟨nn, rfl⟩ : ∃ n : Nat, zn = (n : Int) := ⟨zn.toNat, by omega⟩
 have hlt : ∀ x ∈ p0 ++ [] ++ [], x.block < W.heap.size := fun x hx => hW'.lt x (by simpa [List.append_assoc] using hx)
 obtain ⟨n0, hf0⟩ := id h0
 obtain ⟨ds, hrd, hokd⟩ := Dw.open_drafts (by simpa [Value.cells] using hf0)
 clear hA0 hval0
 try simp only [List.append_nil] at hW'
 refine (Dw.back6 W ds _ hrd hokd S (by unfold maxLen at hsl; omega) nn (by omega)).mono fun e W' ⟨he, hw⟩ => ?_
 subst he
 refine ⟨_, rfl, own_end rfl rfl rfl hW' hw (fun sp hsp => ?_)⟩
 rw [Tryz.params6]
 have h9 := trodAll_mk3 (WideElems.Trod_stays Own.laidOut (by kernel_rfl) (of_decide_eq_true (by kernel_rfl)) h0 (fun x hx => hw.same (hlt x (by first | (simp [hx]; done) | cases hx))) (fun x hx => hsp x (by first | (simp [hx]; done) | cases hx))) (WideElems.Trod_stays Own.laidOut (by kernel_rfl) (of_decide_eq_true (by kernel_rfl)) h1 (fun x hx => hw.same (hlt x (by first | (simp [hx]; done) | cases hx))) (fun x hx => hsp x (by first | (simp [hx]; done) | cases hx))) (WideElems.Trod_stays Own.laidOut (by kernel_rfl) (of_decide_eq_true (by kernel_rfl)) h2 (fun x hx => hw.same (hlt x (by first | (simp [hx]; done) | cases hx))) (fun x hx => hsp x (by first | (simp [hx]; done) | cases hx)))
 simpa [List.append_assoc] using h9
theorem segmentBack_row : Rows.SegmentBackSaid :=
 OpenClaim.holds_of_wide 6 Tryz.f6 rfl rfl rfl rfl rfl rfl rfl ⟨rfl, rfl, rfl, rfl, rfl⟩ rfl rfl rfl rfl rfl (by kernel_rfl) Tryz.func6 (by kernel_rfl)
  (of_decide_eq_true (by kernel_rfl)) (by unfold Func.isWrapper; first | (rw [if_pos (by decide +kernel)]; kernel_rfl) | (rw [if_neg (by decide +kernel)]; exact ⟨rfl, rfl⟩))
  (fun os started H enc _ => segmentBack_lifted os started H enc)
theorem segmentBack_holds : Rows.SegmentBackCardSaid :=
 Claim7.holds_tied_plain_at .later [] [.data, .data, .data] true (true, "a5b4b35365159a1bd52e29224586d473c2fa61a37fd6909bfafd9f25cf212676") true
  segmentBack_row (fun _ h => by cases h) (by kernel_rfl) (fun _ h => by cases h) segmentBack_row_tie rfl ⟨rfl, rfl⟩ (by kernel_rfl) rfl
  (fun f fn hf hfn => by
   obtain rfl : f = 6 := Option.some.inj ((show Tryz.prog.funcNamed "cedilla/cedillalaw16.SegmentBack" = some 6 by kernel_rfl).symm.trans hf) |>.symm
   obtain rfl : fn = Tryz.f6 := (Option.some.inj (Tryz.func6.symm.trans hfn)).symm
   exact ⟨by kernel_rfl, fun j t ht => by
    rw [Tryz.params6] at ht
    match j, ht with
    | 0, ht => (obtain rfl : t = 22 := (Option.some.inj ht).symm; exact (show Tryz.prog.wantsStandIn 22 = false by kernel_rfl))
    | 1, ht => (obtain rfl : t = 9 := (Option.some.inj ht).symm; exact (show Tryz.prog.wantsStandIn 9 = false by kernel_rfl))
    | 2, ht => (obtain rfl : t = 5 := (Option.some.inj ht).symm; exact (show Tryz.prog.wantsStandIn 5 = false by kernel_rfl))
    | j + 3, ht => simp at ht⟩)
  (by kernel_rfl)
#print axioms segmentBack_holds
end Go.Proofs.YtcddnmhmcieebaaGreatDoor
