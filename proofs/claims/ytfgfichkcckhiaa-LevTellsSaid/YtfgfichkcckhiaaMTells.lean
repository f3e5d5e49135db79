/- The row of LevTells, proved: whatever text, whatever is read, it is as the document says. -/
import Derived.Test.YtfgfichkcckhiaaLTells
import Derived.Test.YtfgfichkcckhiaaLOpen
import Derived.SizedLaws
namespace Go.Proofs.Ytfgfichkcckhiaa
open Go.ChangeShapes Go.WideShapes Go.ChangeAt Go.RowKit Go.Deep
set_option linter.unusedSimpArgs false
set_option linter.unusedVariables false
set_option linter.unnecessarySimpa false
set_option maxRecDepth 100000 in
theorem levTells_lifted (os : Os) (started : os.Started) (H : Type) (enc : TypeId × Value → H) :
    ReturnsInHanded {} Try.checked os 3 .any (Rows.levTellsSpec.pre6 enc Try.prog Try.f3 Rows.levTellsRow.domain false) (Rows.levTellsSpec.post enc Try.prog Try.f3 false true false false) := by
  refine returnsInHanded_of_change_sized (C := Try.checked) Own.own started (by kernel_rfl) Try.func3
    (ChangeSpec.witness6 (enc := enc) (C := Try.checked) false ⟨#[], #[.agg #[.string ⟨#[]⟩, .string ⟨#[]⟩, .int .i8 0], .string ⟨#[]⟩, .int .u8 0], []⟩ 8 (by kernel_rfl) (by kernel_rfl) (by kernel_rfl) (by kernel_rfl)) ?_
  intro W base args ds gs before hval0 hW hcnd hsz _
  have hval : ∀ (j : Nat) t v, Try.f3.params[j]? = some t → args[j]? = some v → Value.okWide Try.prog W .any base t v := hval0
  have hW' := hW
  obtain ⟨p, q, hA0, hV, rfl, hfz, hnd⟩ := hW
  have hA : DataW.TrodAll enc Try.prog W 0 (fun _ => true) true Try.f3.params.toList args.toList ds p := hA0
  rw [Try.params3] at hA hval
  obtain ⟨v0, v1, v2, d0, d1, d2, p0, p1, p2, rfl, rfl, rfl, h0, h1, h2⟩ := trodAll_three hA
  obtain ⟨rfl, rfl⟩ := trodVars_none hV
  obtain ⟨Q, T, z, rfl, hz1, hz2, rfl⟩ := Lv.open_ask (hval 0 24 v0 rfl rfl) h0
  have hz : -128 ≤ z ∧ z ≤ 127 := ⟨hz1, hz2⟩
  obtain ⟨s, rfl, rfl, rfl, ws⟩ := ChangeMaps.open_string Try.underlying9 (hval 1 9 v1 rfl rfl) h1
  obtain ⟨n, rfl, rfl, rfl, wn⟩ := open_int Try.underlying5 (hval 2 5 v2 rfl rfl) h2
  have hn := bounds_u8 wn
  have hraw : s.size ≤ 140737488351232 := by
    have h := sized_string (j := 1) (t := 9) hsz (by rw [Try.params3]; rfl) rfl
    rw [Array.length_toList] at h
    exact h
  obtain ⟨b, rfl⟩ : ∃ b : Nat, n = (b : Int) := ⟨n.toNat, by omega⟩
  clear hA0 hval0
  try simp only [List.append_nil] at hW'
  refine (Lv.tells3 Q T z hz s hraw b (by omega) W).mono fun e W' ⟨he, hw⟩ => ?_
  subst he
  refine ⟨_, rfl, own_end rfl rfl rfl hW' hw (fun sp hsp => ?_)⟩
  rw [Try.params3]
  have h9 := trodAll_mk3 (w := W') (spare := sp) (WideElems.Trod_stays Own.laidOut (by kernel_rfl) (of_decide_eq_true (by kernel_rfl)) h0 (fun x hx => by simp at hx) (fun x hx => by simp at hx)) (WideElems.Trod_stays Own.laidOut (by kernel_rfl) (of_decide_eq_true (by kernel_rfl)) h1 (fun x hx => by simp at hx) (fun x hx => by simp at hx)) (WideElems.Trod_stays Own.laidOut (by kernel_rfl) (of_decide_eq_true (by kernel_rfl)) h2 (fun x hx => by simp at hx) (fun x hx => by simp at hx))
  try simp only [List.append_nil] at h9
  exact h9
theorem levTells_holds : Rows.LevTellsSaid :=
  OpenClaim.holds_of_wide 3 Try.f3 rfl rfl rfl rfl rfl rfl rfl ⟨rfl, rfl, rfl, rfl, rfl⟩ rfl rfl rfl rfl rfl (by kernel_rfl) Try.func3 (by kernel_rfl)
    (of_decide_eq_true (by kernel_rfl)) (by unfold Func.isWrapper; first | (rw [if_pos (by decide +kernel)]; kernel_rfl) | (rw [if_neg (by decide +kernel)]; exact ⟨rfl, rfl⟩))
    (fun os started H enc _ => levTells_lifted os started H enc)
#print axioms levTells_holds
end Go.Proofs.Ytfgfichkcckhiaa
