/- The row of MergeTells, proved: together lists are, with and without what is gone, and where a word comes from, as the document says; so are lists of hits. -/
import Derived.Test.YtdlcnpjdloinnaaTells
import Derived.Test.YtdlcnpjdloinnaaEnds
namespace Go.Proofs.Ytdlcnpjdloinnaa
open Go.ChangeShapes Go.WideShapes Go.ChangeAt Go.RowKit Go.Deep
set_option maxRecDepth 100000 in
theorem mergeTells_lifted (os : Os) (started : os.Started) (H : Type) (enc : TypeId × Value → H) :
    ReturnsInHanded {} Try.checked os 6 .any (Rows.mergeTellsSpec.pre6 enc Try.prog Try.f6 Rows.mergeTellsRow.domain false) (Rows.mergeTellsSpec.post enc Try.prog Try.f6 false true false false) := by
  refine returnsInHanded_of_change (C := Try.checked) Own.own started (by kernel_rfl) Try.func6
    (ChangeSpec.witness6 (enc := enc) (C := Try.checked) false ⟨#[], #[.slice none 0 0, .string ⟨#[]⟩, .int .u8 0], []⟩ 8 (by kernel_rfl) (by kernel_rfl) (by kernel_rfl) (by kernel_rfl)) ?_
  intro W base args ds gs before hval0 hW hcnd _
  have hval : ∀ (j : Nat) t v, Try.f6.params[j]? = some t → args[j]? = some v → Value.okWide Try.prog W .any base t v := hval0
  have hW' := hW
  obtain ⟨p, q, hA0, hV, rfl, hfz, hnd⟩ := hW
  have hA : DataW.TrodAll enc Try.prog W 0 (fun _ => true) true Try.f6.params.toList args.toList ds p := hA0
  rw [Try.params6] at hA hval
  obtain ⟨v0, v1, v2, d0, d1, d2, p0, p1, p2, rfl, rfl, rfl, h0, h1, h2⟩ := trodAll_three hA
  obtain ⟨rfl, rfl⟩ := trodVars_none hV
  obtain ⟨a, rfl, rfl, rfl, wa⟩ := Go.ChangeMaps.open_string Try.underlying9 (hval 1 9 v1 rfl rfl) h1
  obtain ⟨b, rfl, rfl, rfl, wb⟩ := open_int Try.underlying5 (hval 2 5 v2 rfl rfl) h2
  obtain ⟨A0, len0, cap0, rfl⟩ := okWide_slice Try.underlying22 (hval 0 22 v0 rfl rfl)
  have hlt : ∀ x ∈ p0, x.block < W.heap.size := fun x hx => hW'.lt x (by simpa using hx)
  obtain ⟨fuel, hf⟩ := id h0
  obtain ⟨A, c, D, e, hD, hDl⟩ := open_rows (by simpa [Value.cells] using hf)
  have hu2 := bounds_u8 wb
  clear hA0 hval0
  simp only [List.append_nil] at hW'
  rw [e] at h0 hW' ⊢
  refine (tellsLaw_any D A c a b wa hu2.1 hu2.2 W hDl hD).mono fun e W' ⟨he, hw⟩ => ?_
  subst he
  refine ⟨_, rfl, own_end rfl rfl rfl hW' hw (fun sp hsp => ?_)⟩
  rw [Try.params6]
  have h9 := trodAll_mk3 (WideElems.Trod_stays Own.laidOut (by kernel_rfl) (of_decide_eq_true (by kernel_rfl)) h0 (fun x hx => hw.same (hlt x hx)) (fun x hx => hsp x (by simpa using hx))) (Go.ChangeMaps.shut_string (enc := enc) (w := W') (base := 0) (sp := sp) (held := true) Try.underlying9 wa) (shut_int (enc := enc) (w := W') (base := 0) (spare := sp) (held := true) Try.underlying5 wb)
  simp only [List.append_nil] at h9
  exact h9
theorem mergeTells_holds : Rows.MergeTellsSaid :=
  OpenClaim.holds_of_wide 6 Try.f6 rfl rfl rfl rfl rfl rfl rfl ⟨rfl, rfl, rfl, rfl, rfl⟩ rfl rfl rfl rfl rfl (by kernel_rfl) Try.func6 (by kernel_rfl)
    (of_decide_eq_true (by kernel_rfl)) (by unfold Func.isWrapper; first | (rw [if_pos (by decide +kernel)]; kernel_rfl) | (rw [if_neg (by decide +kernel)]; exact ⟨rfl, rfl⟩))
    (fun os started H enc _ => mergeTells_lifted os started H enc)
#print axioms mergeTells_holds
end Go.Proofs.Ytdlcnpjdloinnaa
