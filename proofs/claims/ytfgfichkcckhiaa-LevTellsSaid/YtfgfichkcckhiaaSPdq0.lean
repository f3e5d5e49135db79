/- How the parts of a stretch that is sorted piece by piece fit: plain facts for the sort. -/
import Derived.Test.YtfgfichkcckhiaaSPlain
namespace Go.Proofs.Ytfgfichkcckhiaa
set_option linter.unusedSimpArgs false
set_option linter.unusedVariables false
set_option linter.unnecessarySimpa false
namespace Sb
/-- ys comes of zs by exchanges between a and b, and v stands at a -/
structure SegP (a b : Nat) (zs : List Int) (v : Int) (ys : List Int) : Prop where
  seg : Segm a b zs ys
  here : ys.getD a 0 = v
theorem SegP.len {a b : Nat} {zs ys : List Int} {v : Int} (h : SegP a b zs v ys) : ys.length = zs.length := h.seg.len
theorem SegP.swap {a b : Nat} {zs ys : List Int} {v : Int} (h : SegP a b zs v ys) {i j : Nat} (hi : a < i) (hi' : i < b) (hj : a < j) (hj' : j < b) : SegP a b zs v (Sb.swap ys i j) :=
  ⟨h.seg.swap (by omega) hi' (by omega) hj', by
    rw [← h.here]
    unfold Sb.swap
    rw [List.getD_eq_getElem?_getD, List.getElem?_set_ne (by omega), List.getElem?_set_ne (by omega), List.getD_eq_getElem?_getD]⟩
/-- what stands ahead of a is no greater than all up to b -/
def Low (a b : Nat) (ys : List Int) : Prop := a = 0 ∨ ∀ k, a ≤ k → k < b → ys.getD (a - 1) 0 ≤ ys.getD k 0
theorem Low.seg {a b : Nat} {zs ys : List Int} (h : Low a b zs) (hs : Segm a b zs ys) (hb : b ≤ zs.length) : Low a b ys := by
  rcases h with h0 | hp
  · exact .inl h0
  · by_cases h0 : a = 0
    · exact .inl h0
    · refine .inr (fun k hk hk2 => ?_)
      rw [hs.out hb (k := a - 1) (.inl (by omega))]
      exact hs.all hb (p := fun v => zs.getD (a - 1) 0 ≤ v) hp k hk hk2
theorem Low.mono {a b m : Nat} {ys : List Int} (h : Low a b ys) (hm : m ≤ b) : Low a m ys := h.imp id (fun h k h1 h2 => h k h1 (by omega))
structure Fit (A B a b : Nat) (ys : List Int) : Prop where
  ends : A ≤ a ∧ a ≤ b ∧ b ≤ B ∧ B ≤ ys.length
  left : SortedOn A a ys
  right : SortedOn b B ys
  low : ∀ p q, A ≤ p → p < a → a ≤ q → q < B → ys.getD p 0 ≤ ys.getD q 0
  high : ∀ p q, A ≤ p → p < b → b ≤ q → q < B → ys.getD p 0 ≤ ys.getD q 0
theorem Fit.start {A B : Nat} {ys : List Int} (h : A ≤ B) (hB : B ≤ ys.length) : Fit A B A B ys :=
  ⟨⟨Nat.le_refl _, h, Nat.le_refl _, hB⟩, fun p q h1 h2 h3 => by omega, fun p q h1 h2 h3 => by omega, fun p q h1 h2 h3 h4 => by omega, fun p q h1 h2 h3 h4 => by omega⟩
/-- of a value of ys between A and B some value of zs there is the same, on the same side -/
theorem Fit.seg {A B a b : Nat} {ys zs : List Int} (h : Fit A B a b ys) (hs : Segm a b ys zs) : Fit A B a b zs := by
  obtain ⟨⟨h1, h2, h3, h4⟩, hl, hr, hlow, hhigh⟩ := h
  have hbl : b ≤ ys.length := by omega
  refine ⟨⟨h1, h2, h3, by rw [hs.len]; exact h4⟩, hl.out hs hbl (.inl (Nat.le_refl _)), hr.out hs hbl (.inr (Nat.le_refl _)), fun p q hp hp' hq hq' => ?_, fun p q hp hp' hq hq' => ?_⟩
  · rw [hs.out hbl (k := p) (.inl hp')]
    by_cases hqb : q < b
    · exact hs.all hbl (p := fun v => ys.getD p 0 ≤ v) (fun k hk hk' => hlow p k hp hp' hk (by omega)) q hq hqb
    · rw [hs.out hbl (k := q) (.inr (by omega))]
      exact hlow p q hp hp' hq hq'
  · rw [hs.out hbl (k := q) (.inr hq)]
    by_cases hpa : a ≤ p
    · exact hs.all hbl (p := fun v => v ≤ ys.getD q 0) (fun k hk hk' => hhigh k q (by omega) hk' hq hq') p hpa hp'
    · rw [hs.out hbl (k := p) (.inl (by omega))]
      exact hhigh p q hp hp' hq hq'
theorem Fit.done {A B a b : Nat} {ys : List Int} (h : Fit A B a b ys) (hs : SortedOn a b ys) : SortedOn A B ys := by
  obtain ⟨⟨h1, h2, h3, h4⟩, hl, hr, hlow, hhigh⟩ := h
  have h5 : SortedOn A b ys := SortedOn.join hl hs (fun p q hp hp' hq hq' => hlow p q hp hp' hq (by omega))
  exact SortedOn.join h5 hr hhigh
theorem Fit.pre {A B a b : Nat} {ys : List Int} (h : Fit A B a b ys) (hl : Low A B ys) : Low a b ys := by
  obtain ⟨⟨h1, h2, h3, h4⟩, _, _, hlow, _⟩ := h
  by_cases haA : a = A
  · subst haA
    rcases hl with h0 | hp
    · exact .inl h0
    · exact .inr fun k hk hk' => hp k hk (by omega)
  · exact .inr fun k hk hk' => hlow (a - 1) k (by omega) (by omega) hk (by omega)
/-- equal ones are done -/
theorem Fit.equal {A B a b m : Nat} {ys : List Int} (h : Fit A B a b ys) (ham : a < m) (hmb : m ≤ b) (hlow : ∀ k, a ≤ k → k < b → ys.getD a 0 ≤ ys.getD k 0) (hle : ∀ k, a ≤ k → k < m → ys.getD k 0 ≤ ys.getD a 0) : Fit A B m b ys := by
  obtain ⟨⟨h1, h2, h3, h4⟩, hl, hr, hlo, hhi⟩ := h
  refine ⟨⟨by omega, hmb, h3, h4⟩, ?_, hr, fun p q hp hp' hq hq' => ?_, hhi⟩
  · refine SortedOn.join hl (fun p q hp hpq hq => ?_) (fun p q hp hp' hq hq' => hlo p q hp hp' hq (by omega))
    have := hle p hp (by omega)
    have := hlow q (by omega) (by omega)
    omega
  · by_cases hpa : p < a
    · exact hlo p q hp hpa (by omega) hq'
    · by_cases hqb : q < b
      · have := hle p (by omega) hp'
        have := hlow q (by omega) hqb
        omega
      · exact hhi p q hp (by omega) (by omega) hq'
theorem Fit.goRight {A B a b m : Nat} {ys : List Int} (h : Fit A B a b ys) (ham : a ≤ m) (hmb : m < b) (hs : SortedOn a m ys) (h1 : ∀ k, a ≤ k → k < m → ys.getD k 0 ≤ ys.getD m 0) (h2 : ∀ k, m < k → k < b → ys.getD m 0 ≤ ys.getD k 0) : Fit A B (m + 1) b ys := by
  obtain ⟨⟨e1, e2, e3, e4⟩, hl, hr, hlo, hhi⟩ := h
  have hsm : SortedOn a (m + 1) ys := fun p q hp hpq hq => by
    by_cases hqm : q = m
    · subst hqm; exact h1 p hp hpq
    · exact hs p q hp hpq (by omega)
  refine ⟨⟨by omega, by omega, e3, e4⟩, SortedOn.join hl hsm (fun p q hp hp' hq hq' => hlo p q hp hp' hq (by omega)), hr, fun p q hp hp' hq hq' => ?_, hhi⟩
  by_cases hpa : p < a
  · exact hlo p q hp hpa (by omega) hq'
  · by_cases hqb : q < b
    · have h5 : ys.getD p 0 ≤ ys.getD m 0 := by
        by_cases hpm : p = m
        · subst hpm; exact Int.le_refl _
        · exact h1 p (by omega) (by omega)
      have := h2 q (by omega) hqb
      omega
    · exact hhi p q hp (by omega) (by omega) hq'
theorem Fit.goLeft {A B a b m : Nat} {ys : List Int} (h : Fit A B a b ys) (ham : a ≤ m) (hmb : m < b) (hs : SortedOn (m + 1) b ys) (h1 : ∀ k, a ≤ k → k < m → ys.getD k 0 ≤ ys.getD m 0) (h2 : ∀ k, m < k → k < b → ys.getD m 0 ≤ ys.getD k 0) : Fit A B a m ys := by
  obtain ⟨⟨e1, e2, e3, e4⟩, hl, hr, hlo, hhi⟩ := h
  have hsm : SortedOn m b ys := fun p q hp hpq hq => by
    by_cases hpm : p = m
    · subst hpm; exact h2 q hpq hq
    · exact hs p q (by omega) hpq hq
  refine ⟨⟨e1, by omega, by omega, e4⟩, hl, SortedOn.join hsm hr (fun p q hp hp' hq hq' => hhi p q (by omega) hp' hq hq'), hlo, fun p q hp hp' hq hq' => ?_⟩
  by_cases hqb : q < b
  · have h5 : ys.getD m 0 ≤ ys.getD q 0 := by
      by_cases hqm : q = m
      · subst hqm; exact Int.le_refl _
      · exact h2 q (by omega) hqb
    by_cases hpa : p < a
    · exact hlo p q hp hpa (by omega) hq'
    · have := h1 p (by omega) hp'
      omega
  · exact hhi p q hp (by omega) (by omega) hq'
/-- what is told of a pivot goes on holding when one side is sorted -/
theorem pivot_left {a b m : Nat} {ys zs : List Int} (hs : Segm a m ys zs) (hb : b ≤ ys.length) (hmb : m < b) (h1 : ∀ k, a ≤ k → k < m → ys.getD k 0 ≤ ys.getD m 0) (h2 : ∀ k, m < k → k < b → ys.getD m 0 ≤ ys.getD k 0) :
    (∀ k, a ≤ k → k < m → zs.getD k 0 ≤ zs.getD m 0) ∧ ∀ k, m < k → k < b → zs.getD m 0 ≤ zs.getD k 0 := by
  have hm : zs.getD m 0 = ys.getD m 0 := hs.out (by omega) (.inr (Nat.le_refl _))
  refine ⟨fun k hk hk' => ?_, fun k hk hk' => ?_⟩
  · rw [hm]; exact hs.all (by omega) (p := fun v => v ≤ ys.getD m 0) h1 k hk hk'
  · rw [hm, hs.out (by omega) (k := k) (.inr (by omega))]; exact h2 k hk hk'
theorem pivot_right {a b m : Nat} {ys zs : List Int} (hs : Segm (m + 1) b ys zs) (hb : b ≤ ys.length) (hmb : m < b) (h1 : ∀ k, a ≤ k → k < m → ys.getD k 0 ≤ ys.getD m 0) (h2 : ∀ k, m < k → k < b → ys.getD m 0 ≤ ys.getD k 0) :
    (∀ k, a ≤ k → k < m → zs.getD k 0 ≤ zs.getD m 0) ∧ ∀ k, m < k → k < b → zs.getD m 0 ≤ zs.getD k 0 := by
  have hm : zs.getD m 0 = ys.getD m 0 := hs.out hb (.inl (by omega))
  refine ⟨fun k hk hk' => ?_, fun k hk hk' => ?_⟩
  · rw [hm, hs.out hb (k := k) (.inl (by omega))]; exact h1 k hk hk'
  · rw [hm]; exact hs.all hb (p := fun v => ys.getD m 0 ≤ v) (fun k hk hk' => h2 k (by omega) hk') k (by omega) hk'
end Sb
end Go.Proofs.Ytfgfichkcckhiaa
