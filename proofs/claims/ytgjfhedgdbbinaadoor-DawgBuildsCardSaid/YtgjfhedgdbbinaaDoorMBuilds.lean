/- The card of DawgBuilds, proved: the transducer of any list, and whether any transducer is right. -/
import Derived.Test.YtgjfhedgdbbinaaDoorDBuildsO
import Derived.Test.YtgjfhedgdbbinaaDoorLaid
import Derived.Test.YtgjfhedgdbbinaaDoorCards
import Derived.SevenTiedAt
namespace Go.Proofs.YtgjfhedgdbbinaaDoor
open Go.ChangeShapes Go.WideShapes Go.ChangeAt Go.RowKit Go.Deep
set_option linter.unusedSimpArgs false
set_option linter.unusedVariables false
set_option linter.unnecessarySimpa false
set_option maxRecDepth 100000 in
theorem dawgBuilds_lifted (os : Os) (started : os.Started) (H : Type) (enc : TypeId × Value → H) :
    ReturnsInHanded {} Tryd.checked os 4 .any (fun w args => (Rows.dawgBuildsSpec.pre enc Tryd.prog Tryd.f4 [] false w args ∧ laidMetH Tryd.prog lay3 w) ∧ sizedMet enc Tryd.prog Tryd.f4 (OpenSpec.ofChange Rows.dawgBuildsSpec) false w args)
      (Rows.dawgBuildsSpec.post enc Tryd.prog Tryd.f4 false true false false) := by
  refine returnsInHanded_of_change_and (C := Tryd.checked) (X := fun w _ => laidMetH Tryd.prog lay3 w) (fun _ _ _ hh h => h.of_heap hh) Own.own started (by kernel_rfl) Tryd.func4
    (ChangeSpec.witness_shaped (enc := enc) (C := Tryd.checked) (os := os) (X := fun w _ => laidMetH Tryd.prog lay3 w) false (World.doorLaid Tryd.prog 24 os) #[.slice none 0 0, .agg #[.slice none 0 0, .int .u64 0], .agg #[.int .u8 0, .int .u8 0, .int .u8 0, .int .i16 0]] 8 rfl (World.shaped_of_RefB (by kernel_rfl) (by kernel_rfl)) (by kernel_rfl) (by kernel_rfl) (by kernel_rfl) (door_met os _)) ?_
  intro W base args ds gs before hval0 hW _ _ hL _
  have hval : ∀ (j : Nat) t v, Tryd.f4.params[j]? = some t → args[j]? = some v → Value.okWide Tryd.prog W .any base t v := hval0
  have hW' := hW
  obtain ⟨p, q, hA0, hV, rfl, hfz, hnd⟩ := hW
  have hA : DataW.TrodAll enc Tryd.prog W 0 (fun _ => true) true Tryd.f4.params.toList args.toList ds p := hA0
  rw [Tryd.params4] at hA hval
  obtain ⟨rfl, rfl⟩ := trodVars_none hV
  obtain ⟨v0, v1, v2, d0, d1, d2, p0, p1, p2, rfl, rfl, rfl, h0, h1, h2⟩ := trodAll_three hA
  obtain ⟨A0, len0, cap0, rfl⟩ := okWide_slice Tryd.underlying22 (hval 0 22 v0 rfl rfl)
  obtain ⟨cs1, rfl, hz1⟩ := okWide_struct Tryd.underlying33 (hval 1 33 v1 rfl rfl)
  obtain ⟨cs2, rfl, hz2⟩ := okWide_struct Tryd.underlying52 (hval 2 52 v2 rfl rfl)
  obtain ⟨u0, u1, rfl⟩ := Dw.two_of (hz1.trans (by kernel_rfl))
  obtain ⟨x0, x1, x2, x3, rfl⟩ := Dw.four_of (hz2.trans (by kernel_rfl))
  have hlt : ∀ x ∈ p0 ++ p1 ++ p2, x.block < W.heap.size := fun x hx => hW'.lt x (by simpa [List.append_assoc] using hx)
  obtain ⟨n0, hf0⟩ := id h0
  obtain ⟨n1, hf1⟩ := id h1
  obtain ⟨n2, hf2⟩ := id h2
  obtain ⟨ds, hrd, hokd⟩ := Dw.open_drafts (by simpa [Value.cells] using hf0)
  obtain ⟨ss, init, rfl, hinit, hrs, hokr⟩ := Dw.open_fst (by simpa [Value.cells] using hf1)
  obtain ⟨tw, ti, tk, tn, rfl, rfl, rfl, rfl, hw0, hw1, hw2, hw3⟩ := Dw.open_turn (by simpa [Value.cells] using hf2)
  clear hA0 hval0
  try simp only [List.append_nil] at hW'
  refine (Dw.builds4 W ds _ hrd hokd _ init hinit ss hrs hokr tw ti tk tn hw0 hw1 hw2 hw3).mono fun e W' ⟨he, hw⟩ => ?_
  subst he
  refine ⟨_, rfl, own_end rfl rfl rfl hW' hw (fun sp hsp => ?_)⟩
  rw [Tryd.params4]
  have h9 := trodAll_mk3 (WideElems.Trod_stays Own.laidOut (by kernel_rfl) (of_decide_eq_true (by kernel_rfl)) h0 (fun x hx => hw.same (hlt x (by simp [hx]))) (fun x hx => hsp x (by simp [hx]))) (WideElems.Trod_stays Own.laidOut (by kernel_rfl) (of_decide_eq_true (by kernel_rfl)) h1 (fun x hx => hw.same (hlt x (by simp [hx]))) (fun x hx => hsp x (by simp [hx]))) (WideElems.Trod_stays Own.laidOut (by kernel_rfl) (of_decide_eq_true (by kernel_rfl)) h2 (fun x hx => hw.same (hlt x (by simp [hx]))) (fun x hx => hsp x (by simp [hx])))
  simpa [List.append_assoc] using h9
theorem dawgBuilds_row : Rows.DawgBuildsSaid :=
  OpenClaim.holds_of_wide 4 Tryd.f4 rfl rfl rfl rfl rfl rfl rfl ⟨rfl, rfl, rfl, rfl, rfl⟩ rfl rfl rfl rfl rfl (by kernel_rfl) Tryd.func4 (by kernel_rfl)
    (of_decide_eq_true (by kernel_rfl)) (by unfold Func.isWrapper; first | (rw [if_pos (by decide +kernel)]; kernel_rfl) | (rw [if_neg (by decide +kernel)]; exact ⟨rfl, rfl⟩))
    (fun os started H enc _ => dawgBuilds_lifted os started H enc)
theorem dawgBuilds_holds : Rows.DawgBuildsCardSaid :=
  Claim7.holds_tied_plain_at .later [] [.data, .data, .data] true (true, "dd12548eb80888c3e3ffbe5eadfced694ac8b6e4c92c7b31fa021d917b8e3338") false
    dawgBuilds_row (fun _ h => by cases h) (by kernel_rfl) (fun _ h => by cases h) dawgBuilds_row_tie rfl ⟨rfl, rfl⟩ (by kernel_rfl) rfl
    (fun f fn hf hfn => by
      obtain rfl : f = 4 := Option.some.inj ((show Tryd.prog.funcNamed "cedilla/cedillalaw13.DawgBuilds" = some 4 by kernel_rfl).symm.trans hf) |>.symm
      obtain rfl : fn = Tryd.f4 := (Option.some.inj (Tryd.func4.symm.trans hfn)).symm
      exact ⟨by kernel_rfl, fun j t ht => by
        rw [Tryd.params4] at ht
        match j, ht with
        | 0, ht => (obtain rfl : t = 22 := (Option.some.inj ht).symm; exact (show Tryd.prog.wantsStandIn 22 = false by kernel_rfl))
        | 1, ht => (obtain rfl : t = 33 := (Option.some.inj ht).symm; exact (show Tryd.prog.wantsStandIn 33 = false by kernel_rfl))
        | 2, ht => (obtain rfl : t = 52 := (Option.some.inj ht).symm; exact (show Tryd.prog.wantsStandIn 52 = false by kernel_rfl))
        | j + 3, ht => simp at ht⟩)
    (by kernel_rfl)
#print axioms dawgBuilds_holds
end Go.Proofs.YtgjfhedgdbbinaaDoor
