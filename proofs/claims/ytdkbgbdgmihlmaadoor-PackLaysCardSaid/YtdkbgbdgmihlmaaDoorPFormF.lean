/- What Formed makes may be laid; two rows of bytes are one just if the transducers are. -/
import Derived.Test.YtdkbgbdgmihlmaaDoorPFormed
import Derived.Test.YtdkbgbdgmihlmaaDoorQJ
namespace Go.Proofs.YtdkbgbdgmihlmaaDoor
open Go.RowKit
set_option linter.unusedSimpArgs false
set_option linter.unusedVariables false
set_option linter.unnecessarySimpa false
namespace Dw
/-- bounds of a state that comes in -/
def okR (s : State) : Prop := s.out < 18446744073709551616 ∧ ∀ a ∈ s.arcs, okA a
theorem okS_cut {s : State} (h : okR s) : okS (cut6 s) := ⟨h.1, by simp [cut6]; omega, fun a ha => h.2 a (List.mem_of_mem_take ha)⟩
theorem formS_in {i : Nat} {s : State} (hi : i ≤ 1000000) (h : okS s) (h6 : s.arcs.length ≤ 6) : stIn i (formS i s) ∧ (formS i s).arcs.length ≤ 6 := by
  have hl : (formS i s).arcs.length ≤ 6 := by
    unfold formS
    simp only
    split
    · simp
    · simp [arcsF, h6]
  refine ⟨⟨⟨?_, by omega, fun a ha => ?_⟩, by omega, fun hf => ?_, fun a ha => ?_⟩, hl⟩
  · unfold formS
    simp only
    split
    · exact h.1
    · omega
  · have := arcs_form hi h ha
    exact this.1
  · unfold formS at hf ⊢
    simp only at hf ⊢
    rw [hf]
    rfl
  · exact arcs_form hi h ha
where
  arcs_form {i : Nat} {s : State} {a : Arc} (hi : i ≤ 1000000) (h : okS s) (ha : a ∈ (formS i s).arcs) : arcIn i a := by
    unfold formS at ha
    simp only at ha
    split at ha
    · cases ha
    · rename_i h0
      obtain ⟨b, hb, rfl⟩ := List.mem_map.1 ha
      have hk := h.2.2 b hb
      have h1 : 0 ≤ toF i b.to := Int.emod_nonneg _ (by omega)
      have h2 : toF i b.to < (i : Int) := Int.emod_lt_of_pos _ (by omega)
      exact ⟨⟨hk.1, hk.2.1, by simp only; omega, by simp only; omega⟩, h1, h2⟩
theorem formL_in : ∀ (l : List State) (i : Nat), i + l.length ≤ 1000000 → (∀ s ∈ l, okS s ∧ s.arcs.length ≤ 6) → ∀ (k : Nat) (st : State), (formL i l)[k]? = some st → stIn (i + k) st ∧ st.arcs.length ≤ 6
  | [], _, _, _, k, st, hk => by simp [formL] at hk
  | x :: l, i, hl, h, k, st, hk => by
    simp only [List.length_cons] at hl
    have hx := h x (List.mem_cons_self ..)
    cases k with
    | zero =>
      simp [formL] at hk
      subst hk
      exact formS_in (by omega) hx.1 hx.2
    | succ k =>
      have := formL_in l (i + 1) (by omega) (fun s hs => h s (List.mem_cons_of_mem _ hs)) k st (by simpa [formL] using hk)
      rw [show i + (k + 1) = i + 1 + k by omega]
      exact this
theorem formed_ok {ss : List State} (h : ∀ s ∈ ss, okR s) : (∀ s ∈ formedF ss, okS s) ∧ (formedF ss).length ≤ 12 ∧ 0 < (formedF ss).length ∧ (∀ s ∈ formedF ss, s.arcs.length ≤ 6) ∧ mayL 0 (formedF ss) = true := by
  unfold formedF
  split
  · refine ⟨fun s hs => ?_, by simp, by simp, fun s hs => ?_, rfl⟩
    · simp at hs; subst hs; exact ⟨by simp, by simp, fun a ha => by cases ha⟩
    · simp at hs; subst hs; simp
  · rename_i h0
    obtain ⟨fs, hfs⟩ : ∃ x, (ss.take 12).map cut6 = x := ⟨_, rfl⟩
    rw [hfs] at h0 ⊢
    have h12 := fs_le hfs
    have hok : ∀ s ∈ fs, okS s ∧ s.arcs.length ≤ 6 := fun s hs => by
      refine ⟨?_, cut6_le hfs hs⟩
      rw [← hfs] at hs
      obtain ⟨x, hx, rfl⟩ := List.mem_map.1 hs
      exact okS_cut (h x (List.mem_of_mem_take hx))
    have hin := formL_in fs 0 (by omega) hok
    refine ⟨fun s hs => ?_, by rw [formL_length]; omega, by rw [formL_length]; omega, fun s hs => ?_, stIn_mayL _ 0 fun k st hk => (hin k st hk).1⟩
    · obtain ⟨k, hk⟩ := List.mem_iff_getElem?.1 hs
      exact (hin k s hk).1.1
    · obtain ⟨k, hk⟩ := List.mem_iff_getElem?.1 hs
      exact (hin k s hk).2
end Dw
end Go.Proofs.YtdkbgbdgmihlmaaDoor
