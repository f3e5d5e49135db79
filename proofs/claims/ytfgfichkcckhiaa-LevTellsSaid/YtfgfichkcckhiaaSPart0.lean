/- A stretch that is parted at a byte: plain facts for the sort. -/
import Derived.Test.YtfgfichkcckhiaaSPlain
namespace Go.Proofs.Ytfgfichkcckhiaa
set_option linter.unusedSimpArgs false
set_option linter.unusedVariables false
set_option linter.unnecessarySimpa false
namespace Sb
/-- behind a, up to i, all are in front by F; behind j none is -/
def Part (F : Int → Int → Prop) (a b i j : Nat) (ys : List Int) : Prop := (a < i ∧ i ≤ j + 1 ∧ j < b) ∧ (∀ k, a < k → k < i → F (ys.getD k 0) (ys.getD a 0)) ∧ ∀ k, j < k → k < b → ¬ F (ys.getD k 0) (ys.getD a 0)
variable {F : Int → Int → Prop} {a b i j : Nat} {ys : List Int}
theorem Part.start (hab : a < b) : Part F a b (a + 1) (b - 1) ys := ⟨by omega, fun k h1 h2 => by omega, fun k h1 h2 => by omega⟩
theorem Part.up (h : Part F a b i j ys) (hij : i ≤ j) (hf : F (ys.getD i 0) (ys.getD a 0)) : Part F a b (i + 1) j ys := by
  obtain ⟨⟨h1, h2, h3⟩, h4, h5⟩ := h
  refine ⟨by omega, fun k hk hk' => ?_, h5⟩
  by_cases hki : k = i
  · subst hki; exact hf
  · exact h4 k hk (by omega)
theorem Part.down (h : Part F a b i (j + 1) ys) (hij : i ≤ j + 1) (hf : ¬ F (ys.getD (j + 1) 0) (ys.getD a 0)) : Part F a b i j ys := by
  obtain ⟨⟨h1, h2, h3⟩, h4, h5⟩ := h
  refine ⟨by omega, h4, fun k hk hk' => ?_⟩
  by_cases hki : k = j + 1
  · subst hki; exact hf
  · exact h5 k (by omega) hk'
theorem Part.swap (h : Part F a b i (j + 1) ys) (hb : b ≤ ys.length) (hij : i ≤ j + 1) (hi : ¬ F (ys.getD i 0) (ys.getD a 0)) (hj : F (ys.getD (j + 1) 0) (ys.getD a 0)) : i < j + 1 ∧ Part F a b (i + 1) j (Sb.swap ys i (j + 1)) := by
  obtain ⟨⟨h1, h2, h3⟩, h4, h5⟩ := h
  have hne : i ≠ j + 1 := fun e => hi (e ▸ hj)
  have hs := fun k => swap_at ys i (j + 1) k (by omega) (by omega)
  refine ⟨by omega, by omega, fun k hk hk' => ?_, fun k hk hk' => ?_⟩
  · rw [hs k, hs a, if_neg (by omega), if_neg (show ¬ a = j + 1 by omega), if_neg (show ¬ a = i by omega)]
    by_cases hki : k = i
    · rw [if_pos hki]; exact hj
    · rw [if_neg hki]; exact h4 k hk (by omega)
  · rw [hs k, hs a, if_neg (show ¬ a = j + 1 by omega), if_neg (show ¬ a = i by omega)]
    by_cases hki : k = j + 1
    · rw [if_pos hki]; exact hi
    · rw [if_neg hki, if_neg (by omega)]; exact h5 k (by omega) hk'
/-- the byte itself laid between -/
theorem Part.done (h : Part (fun x p => x < p) a b i j ys) (hb : b ≤ ys.length) (hij : j < i) (haj : a ≤ j) :
    (∀ k, a ≤ k → k < j → (Sb.swap ys j a).getD k 0 ≤ (Sb.swap ys j a).getD j 0) ∧ ∀ k, j < k → k < b → (Sb.swap ys j a).getD j 0 ≤ (Sb.swap ys j a).getD k 0 := by
  obtain ⟨⟨h1, h2, h3⟩, h4, h5⟩ := h
  have hs := fun k => swap_at ys j a k (by omega) (by omega)
  have hj : (Sb.swap ys j a).getD j 0 = ys.getD a 0 := by
    rw [hs]
    by_cases hja : j = a
    · rw [if_pos hja, hja]
    · rw [if_neg hja, if_pos rfl]
  refine ⟨fun k hk hk' => ?_, fun k hk hk' => ?_⟩
  · rw [hj, hs]
    by_cases hka : k = a
    · rw [if_pos hka]
      by_cases hja : j = a
      · rw [hja]; exact Int.le_refl _
      · exact Int.le_of_lt (h4 j (by omega) (by omega))
    · rw [if_neg hka, if_neg (by omega)]
      exact Int.le_of_lt (h4 k (by omega) (by omega))
  · rw [hj, hs, if_neg (by omega), if_neg (by omega)]
    have := h5 k hk hk'
    simp at this
    simpa using this
end Sb
end Go.Proofs.Ytfgfichkcckhiaa
