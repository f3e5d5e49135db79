/- The card of PackSmall, proved: the transducer of a list, laid and read, has the values of its words; words that end alike cost no state more. -/
import Derived.Test.YtdkbgbdgmihlmaaGreatDoorPSm1
import Derived.Test.YtdkbgbdgmihlmaaGreatDoorPOpenS
import Derived.Test.YtdkbgbdgmihlmaaGreatDoorLaid
import Derived.Test.YtdkbgbdgmihlmaaGreatDoorCards
import Derived.SevenTiedAt
namespace Go.Proofs.YtdkbgbdgmihlmaaGreatDoor
open Go.ChangeShapes Go.WideShapes Go.ChangeAt Go.RowKit Go.Deep
set_option linter.unusedSimpArgs false
set_option linter.unusedVariables false
set_option linter.unnecessarySimpa false
set_option maxRecDepth 100000 in
theorem packSmall_lifted (os : Os) (started : os.Started) (H : Type) (enc : TypeId × Value → H) :
    ReturnsInHanded {} Tryz.checked os 3 .any (fun w args => (Rows.packSmallSpec.pre enc Tryz.prog Tryz.f3 [] false w args ∧ laidMetH Tryz.prog lay1 w) ∧ sizedMet enc Tryz.prog Tryz.f3 (OpenSpec.ofChange Rows.packSmallSpec) false w args)
      (Rows.packSmallSpec.post enc Tryz.prog Tryz.f3 false true false false) := by
  refine returnsInHanded_of_change_and (C := Tryz.checked) (X := fun w _ => laidMetH Tryz.prog lay1 w) (fun _ _ _ hh h => h.of_heap hh) Own.own started (by kernel_rfl) Tryz.func3
    (ChangeSpec.witness_shaped (enc := enc) (C := Tryz.checked) (os := os) (X := fun w _ => laidMetH Tryz.prog lay1 w) false (World.doorLaid Tryz.prog 24 os) #[.slice none 0 0, .agg #[.slice none 0 0, .int .u32 0, .bool false]] 8 rfl (World.shaped_of_RefB (by kernel_rfl) (by kernel_rfl)) (by kernel_rfl) (by kernel_rfl) (by kernel_rfl) (door_met os _)) ?_
  intro W base args ds gs before hval0 hW _ _ hL _
  have hval : ∀ (j : Nat) t v, Tryz.f3.params[j]? = some t → args[j]? = some v → Value.okWide Tryz.prog W .any base t v := hval0
  have hW' := hW
  obtain ⟨p, q, hA0, hV, rfl, hfz, hnd⟩ := hW
  have hA : DataW.TrodAll enc Tryz.prog W 0 (fun _ => true) true Tryz.f3.params.toList args.toList ds p := hA0
  rw [Tryz.params3] at hA hval
  obtain ⟨rfl, rfl⟩ := trodVars_none hV
  have hE := ety_of_laid hL
  obtain ⟨v0, v1, d0, d1, p0, p1, rfl, rfl, rfl, h0, h1⟩ := trodAll_two hA
  obtain ⟨A0, len0, cap0, rfl⟩ := okWide_slice Tryz.underlying22 (hval 0 22 v0 rfl rfl)
  obtain ⟨cs1, rfl, hz1⟩ := okWide_struct Tryz.underlying26 (hval 1 26 v1 rfl rfl)
  obtain ⟨u0, u1, u2, rfl⟩ := Dw.three_of (hz1.trans (by kernel_rfl))
  have hlt : ∀ x ∈ p0 ++ p1, x.block < W.heap.size := fun x hx => hW'.lt x (by simpa [List.append_assoc] using hx)
  obtain ⟨n0, hf0⟩ := id h0
  obtain ⟨n1, hf1⟩ := id h1
  obtain ⟨ds, hrd, hokd⟩ := Dw.open_drafts (by simpa [Value.cells] using hf0)
  obtain ⟨d, rfl, rfl, hru, hokd1⟩ := Dw.open_draft (by simpa [Value.cells] using hf1)
  clear hA0 hval0
  try simp only [List.append_nil] at hW'
  refine (Dw.small3 W ds _ hrd hokd d _ hru hokd1 hE).mono fun e W' ⟨he, hw⟩ => ?_
  subst he
  refine ⟨_, rfl, own_end rfl rfl rfl hW' hw (fun sp hsp => ?_)⟩
  rw [Tryz.params3]
  have h9 := trodAll_mk2 (WideElems.Trod_stays Own.laidOut (by kernel_rfl) (of_decide_eq_true (by kernel_rfl)) h0 (fun x hx => hw.same (hlt x (by first | (simp [hx]; done) | cases hx))) (fun x hx => hsp x (by first | (simp [hx]; done) | cases hx))) (WideElems.Trod_stays Own.laidOut (by kernel_rfl) (of_decide_eq_true (by kernel_rfl)) h1 (fun x hx => hw.same (hlt x (by first | (simp [hx]; done) | cases hx))) (fun x hx => hsp x (by first | (simp [hx]; done) | cases hx)))
  simpa [List.append_assoc] using h9
theorem packSmall_row : Rows.PackSmallSaid :=
  OpenClaim.holds_of_wide 3 Tryz.f3 rfl rfl rfl rfl rfl rfl rfl ⟨rfl, rfl, rfl, rfl, rfl⟩ rfl rfl rfl rfl rfl (by kernel_rfl) Tryz.func3 (by kernel_rfl)
    (of_decide_eq_true (by kernel_rfl)) (by unfold Func.isWrapper; first | (rw [if_pos (by decide +kernel)]; kernel_rfl) | (rw [if_neg (by decide +kernel)]; exact ⟨rfl, rfl⟩))
    (fun os started H enc _ => packSmall_lifted os started H enc)
theorem packSmall_holds : Rows.PackSmallCardSaid :=
  Claim7.holds_tied_plain_at .later [] [.data, .data, .data, .handle] true (true, "d06551a8dce4bd2d9c7ebb9262f0947bf6efa0855a1f23293c03a2da0cec52d5") true
    packSmall_row (fun _ h => by cases h) (by kernel_rfl) (fun _ h => by cases h) packSmall_row_tie rfl ⟨rfl, rfl⟩ (by kernel_rfl) rfl
    (fun f fn hf hfn => by
      obtain rfl : f = 3 := Option.some.inj ((show Tryz.prog.funcNamed "cedilla/cedillalaw15.PackSmall" = some 3 by kernel_rfl).symm.trans hf) |>.symm
      obtain rfl : fn = Tryz.f3 := (Option.some.inj (Tryz.func3.symm.trans hfn)).symm
      exact ⟨by kernel_rfl, fun j t ht => by
        rw [Tryz.params3] at ht
        match j, ht with
        | 0, ht => (obtain rfl : t = 22 := (Option.some.inj ht).symm; exact (show Tryz.prog.wantsStandIn 22 = false by kernel_rfl))
        | 1, ht => (obtain rfl : t = 26 := (Option.some.inj ht).symm; exact (show Tryz.prog.wantsStandIn 26 = false by kernel_rfl))
        | j + 2, ht => simp at ht⟩)
    (by kernel_rfl)
#print axioms packSmall_holds
end Go.Proofs.YtdkbgbdgmihlmaaGreatDoor
