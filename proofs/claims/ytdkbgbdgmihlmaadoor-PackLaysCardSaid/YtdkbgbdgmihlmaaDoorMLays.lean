/- The card of PackLays, proved: any transducer, with any number of entries, is laid as the document says; so is that of any list. -/
import Derived.Test.YtdkbgbdgmihlmaaDoorQU
import Derived.Test.YtdkbgbdgmihlmaaDoorQL
import Derived.Test.YtdkbgbdgmihlmaaDoorLaid
import Derived.Test.YtdkbgbdgmihlmaaDoorCards
import Derived.SevenTiedAt
namespace Go.Proofs.YtdkbgbdgmihlmaaDoor
open Go.ChangeShapes Go.WideShapes Go.ChangeAt Go.RowKit Go.Deep
set_option linter.unusedSimpArgs false
set_option linter.unusedVariables false
set_option linter.unnecessarySimpa false
set_option maxRecDepth 100000 in
theorem packLays_lifted (os : Os) (started : os.Started) (H : Type) (enc : TypeId × Value → H) :
    ReturnsInHanded {} Tryd.checked os 6 .any (fun w args => (Rows.packLaysSpec.pre enc Tryd.prog Tryd.f6 [] false w args ∧ laidMetH Tryd.prog lay1 w) ∧ sizedMet enc Tryd.prog Tryd.f6 (OpenSpec.ofChange Rows.packLaysSpec) false w args)
      (Rows.packLaysSpec.post enc Tryd.prog Tryd.f6 false true false false) := by
  refine returnsInHanded_of_change_and (C := Tryd.checked) (X := fun w _ => laidMetH Tryd.prog lay1 w) (fun _ _ _ hh h => h.of_heap hh) Own.own started (by kernel_rfl) Tryd.func6
    (ChangeSpec.witness_shaped (enc := enc) (C := Tryd.checked) (os := os) (X := fun w _ => laidMetH Tryd.prog lay1 w) false (World.doorLaid Tryd.prog 24 os) #[.agg #[.slice none 0 0, .int .u64 0], .int .i64 0, .slice none 0 0] 8 rfl (World.shaped_of_RefB (by kernel_rfl) (by kernel_rfl)) (by kernel_rfl) (by kernel_rfl) (by kernel_rfl) (door_met os _)) ?_
  intro W base args ds gs before hval0 hW _ _ hL _
  have hval : ∀ (j : Nat) t v, Tryd.f6.params[j]? = some t → args[j]? = some v → Value.okWide Tryd.prog W .any base t v := hval0
  have hW' := hW
  obtain ⟨p, q, hA0, hV, rfl, hfz, hnd⟩ := hW
  have hA : DataW.TrodAll enc Tryd.prog W 0 (fun _ => true) true Tryd.f6.params.toList args.toList ds p := hA0
  rw [Tryd.params6] at hA hval
  obtain ⟨rfl, rfl⟩ := trodVars_none hV
  have hE := ety_of_laid hL
  obtain ⟨v0, v1, v2, d0, d1, d2, p0, p1, p2, rfl, rfl, rfl, h0, h1, h2⟩ := trodAll_three hA
  obtain ⟨cs0, rfl, hz0⟩ := okWide_struct Tryd.underlying25 (hval 0 25 v0 rfl rfl)
  obtain ⟨t0, t1, rfl⟩ := Dw.two_of (hz0.trans (by kernel_rfl))
  obtain ⟨A2, len2, cap2, rfl⟩ := okWide_slice Tryd.underlying55 (hval 2 55 v2 rfl rfl)
  obtain ⟨en, rfl, rfl, rfl, hwa⟩ := open_int Tryd.underlying3 (hval 1 3 v1 rfl rfl) h1
  have hlt : ∀ x ∈ p0 ++ [] ++ p2, x.block < W.heap.size := fun x hx => hW'.lt x (by simpa [List.append_assoc] using hx)
  obtain ⟨n0, hf0⟩ := id h0
  obtain ⟨n2, hf2⟩ := id h2
  obtain ⟨ssa, ia, rfl, hia, hra, oka⟩ := Dw.open_fst (by simpa [Value.cells] using hf0)
  obtain ⟨ds, hrd, hokd⟩ := Dw.open_drafts (by simpa [Value.cells] using hf2)
  clear hA0 hval0
  try simp only [List.append_nil] at hW'
  refine (Dw.lays6 W _ ia ssa hra oka hia en ds _ hrd hokd hE).mono fun e W' ⟨he, hw⟩ => ?_
  subst he
  refine ⟨_, rfl, own_end rfl rfl rfl hW' hw (fun sp hsp => ?_)⟩
  rw [Tryd.params6]
  have h9 := trodAll_mk3 (WideElems.Trod_stays Own.laidOut (by kernel_rfl) (of_decide_eq_true (by kernel_rfl)) h0 (fun x hx => hw.same (hlt x (by first | (simp [hx]; done) | cases hx))) (fun x hx => hsp x (by first | (simp [hx]; done) | cases hx))) (WideElems.Trod_stays Own.laidOut (by kernel_rfl) (of_decide_eq_true (by kernel_rfl)) h1 (fun x hx => hw.same (hlt x (by first | (simp [hx]; done) | cases hx))) (fun x hx => hsp x (by first | (simp [hx]; done) | cases hx))) (WideElems.Trod_stays Own.laidOut (by kernel_rfl) (of_decide_eq_true (by kernel_rfl)) h2 (fun x hx => hw.same (hlt x (by first | (simp [hx]; done) | cases hx))) (fun x hx => hsp x (by first | (simp [hx]; done) | cases hx)))
  simpa [List.append_assoc] using h9
theorem packLays_row : Rows.PackLaysSaid :=
  OpenClaim.holds_of_wide 6 Tryd.f6 rfl rfl rfl rfl rfl rfl rfl ⟨rfl, rfl, rfl, rfl, rfl⟩ rfl rfl rfl rfl rfl (by kernel_rfl) Tryd.func6 (by kernel_rfl)
    (of_decide_eq_true (by kernel_rfl)) (by unfold Func.isWrapper; first | (rw [if_pos (by decide +kernel)]; kernel_rfl) | (rw [if_neg (by decide +kernel)]; exact ⟨rfl, rfl⟩))
    (fun os started H enc _ => packLays_lifted os started H enc)
theorem packLays_holds : Rows.PackLaysCardSaid :=
  Claim7.holds_tied_plain_at .later [] [.handle] true (true, "225304f82ec8fa91862d1570b77622ee30c3e26739d645b679c43eb42de720ae") true
    packLays_row (fun _ h => by cases h) (by kernel_rfl) (fun _ h => by cases h) packLays_row_tie rfl ⟨rfl, rfl⟩ (by kernel_rfl) rfl
    (fun f fn hf hfn => by
      obtain rfl : f = 6 := Option.some.inj ((show Tryd.prog.funcNamed "cedilla/cedillalaw15.PackLays" = some 6 by kernel_rfl).symm.trans hf) |>.symm
      obtain rfl : fn = Tryd.f6 := (Option.some.inj (Tryd.func6.symm.trans hfn)).symm
      exact ⟨by kernel_rfl, fun j t ht => by
        rw [Tryd.params6] at ht
        match j, ht with
        | 0, ht => (obtain rfl : t = 25 := (Option.some.inj ht).symm; exact (show Tryd.prog.wantsStandIn 25 = false by kernel_rfl))
        | 1, ht => (obtain rfl : t = 3 := (Option.some.inj ht).symm; exact (show Tryd.prog.wantsStandIn 3 = false by kernel_rfl))
        | 2, ht => (obtain rfl : t = 55 := (Option.some.inj ht).symm; exact (show Tryd.prog.wantsStandIn 55 = false by kernel_rfl))
        | j + 3, ht => simp at ht⟩)
    (by kernel_rfl)
#print axioms packLays_holds
end Go.Proofs.YtdkbgbdgmihlmaaDoor
