/- Heaps within a stretch: plain facts for the sort. -/
import Derived.Test.YtfgfichkcckhiaaSPlain
namespace Go.Proofs.Ytfgfichkcckhiaa
set_option linter.unusedSimpArgs false
set_option linter.unusedVariables false
set_option linter.unnecessarySimpa false
namespace Sb
/-- from lo on no child below hi is greater than its parent -/
def Heap (lo hi first : Nat) (ys : List Int) : Prop := ∀ p c, lo ≤ p → (c = 2 * p + 1 ∨ c = 2 * p + 2) → c < hi → ys.getD (first + c) 0 ≤ ys.getD (first + p) 0
/-- the same, but for what stands at r -/
def HeapBut (lo hi first r : Nat) (ys : List Int) : Prop := (∀ p c, lo ≤ p → p ≠ r → (c = 2 * p + 1 ∨ c = 2 * p + 2) → c < hi → ys.getD (first + c) 0 ≤ ys.getD (first + p) 0) ∧
  ∀ p c, lo ≤ p → (r = 2 * p + 1 ∨ r = 2 * p + 2) → (c = 2 * r + 1 ∨ c = 2 * r + 2) → c < hi → ys.getD (first + c) 0 ≤ ys.getD (first + p) 0
theorem Heap.but {lo hi first : Nat} {ys : List Int} (h : Heap (lo + 1) hi first ys) : HeapBut lo hi first lo ys :=
  ⟨fun p c h1 h2 h3 h4 => h p c (by omega) h3 h4, fun p c h1 h2 => by omega⟩
theorem HeapBut.leaf {lo hi first r : Nat} {ys : List Int} (h : HeapBut lo hi first r ys) (hr : hi ≤ 2 * r + 1) : Heap lo hi first ys := fun p c h1 h2 h3 => by
  by_cases hp : p = r
  · subst hp; omega
  · exact h.1 p c h1 hp h2 h3
/-- ch is a greatest child of r -/
def Top (hi first r ch : Nat) (ys : List Int) : Prop := (ch = 2 * r + 1 ∨ ch = 2 * r + 2) ∧ ch < hi ∧ ∀ c, (c = 2 * r + 1 ∨ c = 2 * r + 2) → c < hi → ys.getD (first + c) 0 ≤ ys.getD (first + ch) 0
theorem HeapBut.fits {lo hi first r ch : Nat} {ys : List Int} (h : HeapBut lo hi first r ys) (ht : Top hi first r ch ys) (hn : ¬ ys.getD (first + r) 0 < ys.getD (first + ch) 0) : Heap lo hi first ys := fun p c h1 h2 h3 => by
  by_cases hp : p = r
  · subst hp; have := ht.2.2 c h2 h3; omega
  · exact h.1 p c h1 hp h2 h3
theorem HeapBut.sink {lo hi first r ch : Nat} {ys : List Int} (h : HeapBut lo hi first r ys) (ht : Top hi first r ch ys) (hl : first + hi ≤ ys.length) (hr : r < hi) (hlo : lo ≤ r) (hlt : ys.getD (first + r) 0 < ys.getD (first + ch) 0) :
    HeapBut lo hi first ch (swap ys (first + r) (first + ch)) := by
  obtain ⟨hc, hch, hmax⟩ := ht
  have hs := fun k => swap_at ys (first + r) (first + ch) k (by omega) (by omega)
  refine ⟨fun p c h1 h2 h3 h4 => ?_, fun p c h1 h2 h3 h4 => ?_⟩
  · rw [hs, hs]
    by_cases hp : p = r
    · subst hp
      rw [if_neg (show ¬ first + p = first + ch by omega), if_pos rfl]
      by_cases hcc : c = ch
      · subst hcc; rw [if_pos rfl]; omega
      · rw [if_neg (by omega), if_neg (by omega)]; exact hmax c h3 h4
    · rw [if_neg (show ¬ first + p = first + ch by omega), if_neg (show ¬ first + p = first + r by omega)]
      by_cases hcr : c = r
      · subst hcr
        rw [if_neg (by omega), if_pos rfl]
        exact h.2 p ch h1 h3 hc hch
      · rw [if_neg (by omega), if_neg (by omega)]; exact h.1 p c h1 hp h3 h4
  · have hpr : p = r := by omega
    subst hpr
    rw [hs, hs, if_neg (by omega), if_neg (by omega), if_neg (by omega), if_pos rfl]
    exact h.1 ch c (by omega) (by omega) h3 h4
theorem Heap.zero (lo first : Nat) (ys : List Int) {hi : Nat} (h : hi ≤ 2 * lo + 1) : Heap lo hi first ys := fun p c h1 h2 h3 => by omega
/-- the first of a heap is a greatest one -/
theorem Heap.max {hi first : Nat} {ys : List Int} (h : Heap 0 hi first ys) : ∀ k, k < hi → ys.getD (first + k) 0 ≤ ys.getD (first + 0) 0 := by
  intro k
  induction k using Nat.strongRecOn with
  | _ k ih =>
    intro hk
    rcases Nat.eq_zero_or_pos k with h0 | h0
    · subst h0; exact Int.le_refl _
    · have h1 := ih ((k - 1) / 2) (by omega) (by omega)
      have h2 := h ((k - 1) / 2) k (by omega) (by omega) hk
      omega
/-- while the greatest ones are laid behind: a heap of i, and behind it, sorted, what is no less -/
def Popped (first i hi : Nat) (ys : List Int) : Prop := Heap 0 i first ys ∧ SortedOn (first + i) (first + hi) ys ∧ ∀ p q, p < i → i ≤ q → q < hi → ys.getD (first + p) 0 ≤ ys.getD (first + q) 0
theorem Popped.start {first hi : Nat} {ys : List Int} (h : Heap 0 hi first ys) : Popped first hi hi ys := ⟨h, fun p q h1 h2 h3 => by omega, fun p q h1 h2 h3 => by omega⟩
/-- one more: the first one and the last one of the heap change places, and the heap is mended -/
theorem Popped.step {first i hi : Nat} {ys zs : List Int} (h : Popped first (i + 1) hi ys) (hih : i < hi) (hl : first + hi ≤ ys.length) (hs : Segm first (first + i) (swap ys first (first + i)) zs) (hh : Heap 0 i first zs) : Popped first i hi zs := by
  obtain ⟨h1, h2, h3⟩ := h
  have hw := fun k => swap_at ys first (first + i) k (by omega) (by omega)
  have hlen : (swap ys first (first + i)).length = ys.length := swap_length _ _ _
  have hout : ∀ k, first + i ≤ k → zs.getD k 0 = (swap ys first (first + i)).getD k 0 := fun k hk => hs.out (by omega) (.inr hk)
  have hi0 : zs.getD (first + i) 0 = ys.getD first 0 := by rw [hout _ (Nat.le_refl _), hw, if_pos rfl]
  have hib : ∀ k, first + i < k → zs.getD k 0 = ys.getD k 0 := fun k hk => by rw [hout _ (by omega), hw, if_neg (by omega), if_neg (by omega)]
  have hfront : ∀ k, first ≤ k → k < first + i → zs.getD k 0 ≤ ys.getD first 0 := by
    refine hs.all (by omega) (p := fun v => v ≤ ys.getD first 0) (fun k hk hk' => ?_)
    show (swap ys first (first + i)).getD k 0 ≤ _
    rw [hw, if_neg (by omega)]
    have hm := h1.max
    split
    · have := hm i (by omega); simpa using this
    · have := hm (k - first) (by omega)
      rw [show first + (k - first) = k by omega] at this
      simpa using this
  refine ⟨hh, fun p q hp hpq hq => ?_, fun p q hp hq hq' => ?_⟩
  · by_cases hpi : p = first + i
    · subst hpi
      rw [hi0, hib q hpq]
      have := h3 0 (q - first) (by omega) (by omega) (by omega)
      rw [show first + (q - first) = q by omega] at this
      simpa using this
    · rw [hib p (by omega), hib q (by omega)]
      exact h2 p q (by omega) hpq hq
  · have ha := hfront (first + p) (by omega) (by omega)
    by_cases hqi : q = i
    · subst hqi; rw [hi0]; exact ha
    · rw [hib (first + q) (by omega)]
      have h4 := h3 0 q (by omega) (by omega) hq'
      rw [Nat.add_zero] at h4
      omega
theorem Popped.pre {first i hi : Nat} {ys : List Int} (h : Popped first (i + 1) hi ys) (hih : i < hi) (hl : first + hi ≤ ys.length) : Heap (0 + 1) i first (swap ys first (first + i)) := fun p c h1 h2 h3 => by
  have hw := fun k => swap_at ys first (first + i) k (by omega) (by omega)
  rw [hw, hw, if_neg (by omega), if_neg (by omega), if_neg (by omega), if_neg (by omega)]
  exact h.1 p c (by omega) h2 (by omega)
theorem Popped.done {first hi : Nat} {ys : List Int} (h : Popped first 0 hi ys) : SortedOn first (first + hi) ys := by simpa using h.2.1
end Sb
end Go.Proofs.Ytfgfichkcckhiaa
