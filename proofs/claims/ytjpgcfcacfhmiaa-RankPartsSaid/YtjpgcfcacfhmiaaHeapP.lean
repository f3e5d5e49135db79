/- Plain laws: a heap of hits, whose first one is the worst: one hit up, one hit down. -/
import Derived.Test.YtjpgcfcacfhmiaaHeap0
namespace Go.Proofs.Ytjpgcfcacfhmiaa
open Go.RowKit
set_option linter.unusedSimpArgs false
set_option linter.unusedVariables false
set_option linter.unnecessarySimpa false
def gt (es : List Hit) (i : Nat) : Hit := es.getD i default
theorem gt_eq {es : List Hit} {i : Nat} (h : i < es.length) : es[i] = gt es i := by simp [gt, h]
theorem swapL_length (es : List Hit) (i j : Nat) (hi : i < es.length) (hj : j < es.length) : (swapL es i j hi hj).length = es.length := by simp [swapL]
theorem gt_swap (es : List Hit) (i j : Nat) (hi : i < es.length) (hj : j < es.length) (c : Nat) : gt (swapL es i j hi hj) c = if c = j then gt es i else if c = i then gt es j else gt es c := by
  unfold swapL gt
  by_cases h1 : c = j
  · subst h1; simp [hi, hj]
  · rw [if_neg h1]
    simp only [List.getD_eq_getElem?_getD]
    rw [List.getElem?_set_ne (fun e => h1 e.symm)]
    by_cases h2 : c = i
    · subst h2; simp [hi, hj]
    · rw [if_neg h2, List.getElem?_set_ne (fun e => h2 e.symm)]
theorem swapL_perm (es : List Hit) (i j : Nat) (hi : i < es.length) (hj : j < es.length) : (swapL es i j hi hj).Perm es := by
  have h := Array.swap_perm (xs := es.toArray) (i := i) (j := j) (h₁ := by simpa using hi) (h₂ := by simpa using hj)
  have h2 := h.toList
  have e : (es.toArray.swap i j (by simpa using hi) (by simpa using hj)).toList = swapL es i j hi hj := by
    simp [swapL, Array.swap]
  rw [e] at h2
  simpa using h2
def ok (p c : Hit) : Prop := lessH p c = false
theorem ok_trans {a b c : Hit} (h : ok a b) (k : ok b c) : ok a c := lt_ntrans h k
theorem ok_of_lt {a b : Hit} (h : lessH a b = true) : ok b a := by
  unfold ok
  cases k : lessH b a with
  | false => rfl
  | true => have := lt_trans h k; rw [lt_irrefl] at this; cases this
theorem ok_lt {a b c : Hit} (h : lessH a b = true) (k : ok a c) : ok b c := ok_trans (ok_of_lt h) k
def Heaped (n : Nat) (es : List Hit) : Prop := ∀ c, 1 ≤ c → c < n → ok (gt es ((c - 1) / 2)) (gt es c)
def UpInv (es : List Hit) (i : Nat) : Prop :=
  (∀ c, 1 ≤ c → c < es.length → c ≠ i → ok (gt es ((c - 1) / 2)) (gt es c)) ∧ (∀ c, 1 ≤ c → c < es.length → (c - 1) / 2 = i → 1 ≤ i → ok (gt es ((i - 1) / 2)) (gt es c))
theorem up_zero {es : List Hit} (h : UpInv es 0) : Heaped es.length es := fun c h1 h2 => h.1 c h1 h2 (by omega)
theorem up_stop {es : List Hit} {i : Nat} (h : UpInv es i) (hk : ok (gt es ((i - 1) / 2)) (gt es i)) : Heaped es.length es := fun c h1 h2 => by
  by_cases e : c = i
  · subst e; exact hk
  · exact h.1 c h1 h2 e
theorem up_step {es : List Hit} {i : Nat} (hi : i < es.length) (h1 : 1 ≤ i) (h : UpInv es i) (hlt : lessH (gt es ((i - 1) / 2)) (gt es i) = true) : UpInv (swapL es ((i - 1) / 2) i (by omega) hi) ((i - 1) / 2) := by
  have hp : (i - 1) / 2 < i := by omega
  refine ⟨fun c hc1 hc2 hcp => ?_, fun c hc1 hc2 hcp hp1 => ?_⟩
  · rw [swapL_length] at hc2
    rw [gt_swap, gt_swap]
    by_cases hci : c = i
    · subst hci
      rw [if_neg (by omega), if_pos rfl, if_pos rfl]
      exact ok_of_lt hlt
    · rw [if_neg hci, if_neg hcp]
      by_cases hq : (c - 1) / 2 = i
      · rw [if_pos hq]
        exact h.2 c hc1 hc2 hq h1
      · rw [if_neg hq]
        by_cases hq2 : (c - 1) / 2 = (i - 1) / 2
        · rw [if_pos hq2]
          have := h.1 c hc1 hc2 hci
          rw [hq2] at this
          exact ok_lt hlt this
        · rw [if_neg hq2]
          exact h.1 c hc1 hc2 hci
  · rw [swapL_length] at hc2
    rw [gt_swap, gt_swap, if_neg (show ((i - 1) / 2 - 1) / 2 ≠ i by omega), if_neg (show ((i - 1) / 2 - 1) / 2 ≠ (i - 1) / 2 by omega)]
    have ha := h.1 ((i - 1) / 2) hp1 (by omega) (by omega)
    by_cases hci : c = i
    · rw [if_pos hci]; exact ha
    · rw [if_neg hci, if_neg (by omega)]
      have hb := h.1 c hc1 hc2 hci
      rw [hcp] at hb
      exact ok_trans ha hb
/-- a hit put behind a heap -/
theorem up_start {es : List Hit} (h : Heaped es.length es) (x : Hit) : UpInv (es ++ [x]) es.length := by
  refine ⟨fun c h1 h2 h3 => ?_, fun c h1 h2 h3 _ => ?_⟩
  · have hc : c < es.length := by simp at h2; omega
    have := h c h1 hc
    have e : ∀ k, k < es.length → gt (es ++ [x]) k = gt es k := fun k hk => by
      unfold gt
      simp only [List.getD_eq_getElem?_getD]
      rw [List.getElem?_append_left hk]
    rw [e _ hc, e _ (by omega)]
    exact this
  · simp at h2; omega
def DownInv (n : Nat) (es : List Hit) (i : Nat) : Prop :=
  (∀ c, 1 ≤ c → c < n → (c - 1) / 2 ≠ i → ok (gt es ((c - 1) / 2)) (gt es c)) ∧ (∀ c, 1 ≤ c → c < n → (c - 1) / 2 = i → 1 ≤ i → ok (gt es ((i - 1) / 2)) (gt es c))
theorem down_leaf {n : Nat} {es : List Hit} {i : Nat} (h : DownInv n es i) (hn : n ≤ 2 * i + 1) : Heaped n es := fun c h1 h2 => h.1 c h1 h2 (by omega)
theorem down_stop {n : Nat} {es : List Hit} {i j : Nat} (h : DownInv n es i) (hj : j = 2 * i + 1 ∨ j = 2 * i + 2) (hw : ∀ s, (s = 2 * i + 1 ∨ s = 2 * i + 2) → s < n → ok (gt es j) (gt es s)) (hk : ok (gt es i) (gt es j)) : Heaped n es := fun c h1 h2 => by
  by_cases e : (c - 1) / 2 = i
  · rw [e]; exact ok_trans hk (hw c (by omega) h2)
  · exact h.1 c h1 h2 e
theorem down_step {n : Nat} {es : List Hit} {i j : Nat} (hjn : j < n) (hn : n ≤ es.length) (hj : j = 2 * i + 1 ∨ j = 2 * i + 2) (h : DownInv n es i) (hw : ∀ s, (s = 2 * i + 1 ∨ s = 2 * i + 2) → s < n → ok (gt es j) (gt es s)) (hlt : lessH (gt es i) (gt es j) = true) :
    DownInv n (swapL es i j (by omega) (by omega)) j := by
  refine ⟨fun c h1 h2 h3 => ?_, fun c h1 h2 h3 h4 => ?_⟩
  · rw [gt_swap, gt_swap, if_neg h3]
    by_cases hp : (c - 1) / 2 = i
    · rw [if_pos hp]
      by_cases hc : c = j
      · rw [if_pos hc]; exact ok_of_lt hlt
      · rw [if_neg hc, if_neg (by omega)]; exact hw c (by omega) h2
    · rw [if_neg hp, if_neg (by omega)]
      by_cases hci : c = i
      · rw [if_pos hci]
        subst hci
        exact h.2 j (by omega) hjn (by omega) h1
      · rw [if_neg hci]; exact h.1 c h1 h2 hp
  · rw [gt_swap, gt_swap, if_neg (show (j - 1) / 2 ≠ j by omega), if_pos (show (j - 1) / 2 = i by omega), if_neg (show c ≠ j by omega), if_neg (show c ≠ i by omega)]
    have := h.1 c h1 h2 (by omega)
    rw [h3] at this
    exact this
/-- the root is the worst -/
theorem heaped_root {n : Nat} {es : List Hit} (h : Heaped n es) : ∀ c, c < n → ok (gt es 0) (gt es c) := by
  intro c
  induction c using Nat.strongRecOn with
  | _ c ih =>
    intro hc
    rcases Nat.eq_zero_or_pos c with h0 | h0
    · subst h0; exact lt_irrefl _
    · exact ok_trans (ih ((c - 1) / 2) (by omega) (by omega)) (h c h0 hc)
/-- the root put to the end: what is left may be put in order from the root on -/
theorem down_start {m : Nat} {es : List Hit} (hm : es.length = m + 1) (h : Heaped es.length es) : DownInv m (swapL es 0 m (by omega) (by omega)) 0 := by
  refine ⟨fun c h1 h2 h3 => ?_, fun c _ _ _ h4 => by omega⟩
  rw [gt_swap, gt_swap, if_neg (by omega), if_neg h3, if_neg (by omega), if_neg (by omega)]
  exact h c h1 (by omega)
end Go.Proofs.Ytjpgcfcacfhmiaa
