/- The row of RankJoins, proved: lists that are ranked are joined as all their hits together are ranked. -/
import Derived.Test.YtjpgcfcacfhmiaaJoins
import Derived.Test.YtjpgcfcacfhmiaaEnds
namespace Go.Proofs.Ytjpgcfcacfhmiaa
open Go.ChangeShapes Go.WideShapes Go.ChangeAt Go.RowKit Go.Deep
set_option linter.unusedSimpArgs false
set_option linter.unusedVariables false
set_option linter.unnecessarySimpa false
set_option maxRecDepth 100000 in
theorem rankJoins_lifted (os : Os) (started : os.Started) (H : Type) (enc : TypeId × Value → H) :
    ReturnsInHanded {} Try.checked os 5 .any (Rows.rankJoinsSpec.pre6 enc Try.prog Try.f5 Rows.rankJoinsRow.domain false) (Rows.rankJoinsSpec.post enc Try.prog Try.f5 false true false false) := by
  refine returnsInHanded_of_change (C := Try.checked) Own.own started (by kernel_rfl) Try.func5
    (ChangeSpec.witness6 (enc := enc) (C := Try.checked) false ⟨#[], #[.slice none 0 0, .int .i64 0], []⟩ 8 (by kernel_rfl) (by kernel_rfl) (by kernel_rfl) (by kernel_rfl)) ?_
  intro W base args ds gs before hval0 hW hcnd _
  have hval : ∀ (j : Nat) t v, Try.f5.params[j]? = some t → args[j]? = some v → Value.okWide Try.prog W .any base t v := hval0
  have hW' := hW
  obtain ⟨p, q, hA0, hV, rfl, hfz, hnd⟩ := hW
  have hA : DataW.TrodAll enc Try.prog W 0 (fun _ => true) true Try.f5.params.toList args.toList ds p := hA0
  rw [Try.params5] at hA hval
  obtain ⟨v0, v1, d0, d1, p0, p1, rfl, rfl, rfl, h0, h1⟩ := trodAll_two hA
  obtain ⟨rfl, rfl⟩ := trodVars_none hV
  obtain ⟨n, rfl, rfl, rfl, wn⟩ := open_int Try.underlying3 (hval 1 3 v1 rfl rfl) h1
  obtain ⟨A0, len0, cap0, rfl⟩ := okWide_slice Try.underlying45 (hval 0 45 v0 rfl rfl)
  have hlt : ∀ x ∈ p0, x.block < W.heap.size := fun x hx => hW'.lt x (by simpa using hx)
  obtain ⟨fuel, hf⟩ := id h0
  obtain ⟨A, c, D, e, hD, -⟩ := open_rows (by simpa [Value.cells] using hf)
  clear hA0 hval0
  simp only [List.append_nil] at hW'
  rw [e] at h0 hW' ⊢
  refine (joins5 D A c n W hD).mono fun e W' ⟨he, hw⟩ => ?_
  subst he
  refine ⟨_, rfl, own_end rfl rfl rfl hW' hw (fun sp hsp => ?_)⟩
  rw [Try.params5]
  have h9 := trodAll_mk2 (WideElems.Trod_stays Own.laidOut (by kernel_rfl) (of_decide_eq_true (by kernel_rfl)) h0 (fun x hx => hw.same (hlt x hx)) (fun x hx => hsp x (by simpa using hx))) (shut_int (enc := enc) (w := W') (base := 0) (spare := sp) (held := true) Try.underlying3 wn)
  simp only [List.append_nil] at h9
  exact h9
theorem rankJoins_holds : Rows.RankJoinsSaid :=
  OpenClaim.holds_of_wide 5 Try.f5 rfl rfl rfl rfl rfl rfl rfl ⟨rfl, rfl, rfl, rfl, rfl⟩ rfl rfl rfl rfl rfl (by kernel_rfl) Try.func5 (by kernel_rfl)
    (of_decide_eq_true (by kernel_rfl)) (by unfold Func.isWrapper; first | (rw [if_pos (by decide +kernel)]; kernel_rfl) | (rw [if_neg (by decide +kernel)]; exact ⟨rfl, rfl⟩))
    (fun os started H enc _ => rankJoins_lifted os started H enc)
#print axioms rankJoins_holds
end Go.Proofs.Ytjpgcfcacfhmiaa
