/- What exchanges of places within a stretch do to a list: plain facts for the sort. -/
import Derived.Test.YtfgfichkcckhiaaSBase
namespace Go.Proofs.Ytfgfichkcckhiaa
set_option linter.unusedSimpArgs false
set_option linter.unusedVariables false
set_option linter.unnecessarySimpa false
namespace Sb
theorem swap_at (zs : List Int) (i j k : Nat) (hi : i < zs.length) (hj : j < zs.length) : (swap zs i j).getD k 0 = if k = j then zs.getD i 0 else if k = i then zs.getD j 0 else zs.getD k 0 := by
  rw [List.getD_eq_getElem?_getD, swap_get zs i j hi hj k]
  by_cases h1 : k = j
  · simp [h1, List.getD]
  · by_cases h2 : k = i
    · subst h2
      simp [h1, List.getD]
    · simp [h1, h2, List.getD]
theorem swap_perm (zs : List Int) (i j : Nat) (hi : i < zs.length) (hj : j < zs.length) : (swap zs i j).Perm zs := by
  unfold swap
  have h := List.set_set_perm hi hj
  simpa [List.getD, hi, hj] using h
theorem set_get {zs : List Int} {i j : Nat} {y : Int} (hy : zs[j]? = some y) : (zs.set i y)[j]? = some y := by
  have hj := (List.getElem?_eq_some_iff.1 hy).1
  rw [List.getElem?_set]
  by_cases h : i = j
  · subst h; simp [hj]
  · rw [if_neg h]; exact hy
/-- ys comes of zs by exchanges of places between a and b -/
def Segm (a b : Nat) (zs ys : List Int) : Prop := ∃ sw : List (Nat × Nat), (∀ s ∈ sw, a ≤ s.1 ∧ s.1 < b ∧ a ≤ s.2 ∧ s.2 < b) ∧ ys = sw.foldl (fun z s => swap z s.1 s.2) zs
theorem Segm.refl (a b : Nat) (zs : List Int) : Segm a b zs zs := ⟨[], by simp, rfl⟩
theorem Segm.trans {a b : Nat} {xs ys zs : List Int} (h : Segm a b xs ys) (k : Segm a b ys zs) : Segm a b xs zs := by
  obtain ⟨s1, h1, rfl⟩ := h
  obtain ⟨s2, h2, rfl⟩ := k
  exact ⟨s1 ++ s2, fun s hs => by rcases List.mem_append.1 hs with hs | hs; exact h1 s hs; exact h2 s hs, by rw [List.foldl_append]⟩
theorem Segm.swap {a b : Nat} {zs ys : List Int} (h : Segm a b zs ys) {i j : Nat} (hi : a ≤ i) (hi' : i < b) (hj : a ≤ j) (hj' : j < b) : Segm a b zs (swap ys i j) :=
  h.trans ⟨[(i, j)], by simp; omega, rfl⟩
theorem Segm.mono {a b a' b' : Nat} {zs ys : List Int} (h : Segm a b zs ys) (ha : a' ≤ a) (hb : b ≤ b') : Segm a' b' zs ys := by
  obtain ⟨s, h1, rfl⟩ := h
  exact ⟨s, fun x hx => by have := h1 x hx; omega, rfl⟩
theorem foldl_len (sw : List (Nat × Nat)) : ∀ zs : List Int, (sw.foldl (fun z s => Sb.swap z s.1 s.2) zs).length = zs.length := by
  induction sw with
  | nil => exact fun zs => rfl
  | cons s sw ih => exact fun zs => (ih _).trans (swap_length _ _ _)
theorem Segm.len {a b : Nat} {zs ys : List Int} (h : Segm a b zs ys) : ys.length = zs.length := by
  obtain ⟨s, h1, rfl⟩ := h
  exact foldl_len s zs
theorem Segm.perm {a b : Nat} {zs ys : List Int} (h : Segm a b zs ys) (hb : b ≤ zs.length) : ys.Perm zs := by
  obtain ⟨sw, h1, rfl⟩ := h
  induction sw generalizing zs with
  | nil => exact List.Perm.refl _
  | cons s sw ih =>
    have hs := h1 s (by simp)
    exact (ih (zs := Sb.swap zs s.1 s.2) (by rw [swap_length]; exact hb) (fun x hx => h1 x (by simp [hx]))).trans (swap_perm zs _ _ (by omega) (by omega))
theorem Segm.out {a b : Nat} {zs ys : List Int} (h : Segm a b zs ys) (hb : b ≤ zs.length) {k : Nat} (hk : k < a ∨ b ≤ k) : ys.getD k 0 = zs.getD k 0 := by
  obtain ⟨sw, h1, rfl⟩ := h
  induction sw generalizing zs with
  | nil => rfl
  | cons s sw ih =>
    have hs := h1 s (by simp)
    rw [List.foldl_cons, ih (zs := Sb.swap zs s.1 s.2) (by rw [swap_length]; exact hb) (fun x hx => h1 x (by simp [hx])), swap_at zs _ _ _ (by omega) (by omega), if_neg (by omega), if_neg (by omega)]
/-- what holds of all between a and b goes on holding -/
theorem Segm.all {a b : Nat} {zs ys : List Int} (h : Segm a b zs ys) (hb : b ≤ zs.length) {p : Int → Prop} (hp : ∀ k, a ≤ k → k < b → p (zs.getD k 0)) : ∀ k, a ≤ k → k < b → p (ys.getD k 0) := by
  obtain ⟨sw, h1, rfl⟩ := h
  induction sw generalizing zs with
  | nil => exact hp
  | cons s sw ih =>
    have hs := h1 s (by simp)
    refine ih (zs := Sb.swap zs s.1 s.2) (by rw [swap_length]; exact hb) (fun k hk hk' => ?_) (fun x hx => h1 x (by simp [hx]))
    rw [swap_at zs _ _ _ (by omega) (by omega)]
    split
    · exact hp _ (by omega) (by omega)
    · split
      · exact hp _ (by omega) (by omega)
      · exact hp _ hk hk'
def SortedOn (a b : Nat) (ys : List Int) : Prop := ∀ p q, a ≤ p → p < q → q < b → ys.getD p 0 ≤ ys.getD q 0
theorem SortedOn.one (a : Nat) (ys : List Int) : SortedOn a (a + 1) ys := fun p q h1 h2 h3 => by omega
theorem SortedOn.out {a b c d : Nat} {zs ys : List Int} (h : SortedOn a b zs) (hs : Segm c d zs ys) (hd : d ≤ zs.length) (ha : b ≤ c ∨ d ≤ a) : SortedOn a b ys := fun p q h1 h2 h3 => by
  rw [hs.out hd (by omega), hs.out hd (by omega)]
  exact h p q h1 h2 h3
theorem SortedOn.swap_out {a i j k : Nat} {ys : List Int} (h : SortedOn a i ys) (hj : i ≤ j) (hk : i ≤ k) (hj' : j < ys.length) (hk' : k < ys.length) : SortedOn a i (Sb.swap ys j k) := fun p q h1 h2 h3 => by
  rw [swap_at ys j k p hj' hk', swap_at ys j k q hj' hk', if_neg (by omega), if_neg (by omega), if_neg (by omega), if_neg (by omega)]
  exact h p q h1 h2 h3
theorem SortedOn.snoc {a i : Nat} {ys : List Int} (h : SortedOn a i ys) (hi : a < i) (hle : ys.getD (i - 1) 0 ≤ ys.getD i 0) : SortedOn a (i + 1) ys := fun p q h1 h2 h3 => by
  by_cases hq : q = i
  · subst hq
    by_cases hp : p = q - 1
    · subst hp; exact hle
    · have := h p (q - 1) h1 (by omega) (by omega); omega
  · exact h p q h1 h2 (by omega)
theorem SortedOn.mono {a b b' : Nat} {ys : List Int} (h : SortedOn a b ys) (hb : b' ≤ b) : SortedOn a b' ys := fun p q h1 h2 h3 => h p q h1 h2 (by omega)
/-- two sorted stretches with a place between that parts them -/
theorem SortedOn.join {a m b : Nat} {ys : List Int} (h1 : SortedOn a m ys) (h2 : SortedOn m b ys) (h : ∀ p q, a ≤ p → p < m → m ≤ q → q < b → ys.getD p 0 ≤ ys.getD q 0) : SortedOn a b ys := fun p q hp hpq hq => by
  by_cases hqm : q < m
  · exact h1 p q hp hpq hqm
  · by_cases hpm : p < m
    · exact h p q hp hpm (by omega) hq
    · exact h2 p q (by omega) hpq hq
/-- all sorted but for place j, which is no greater than what stands behind it, up to i -/
def Near (a i j : Nat) (ys : List Int) : Prop := (∀ p q, a ≤ p → p < q → q ≤ i → p ≠ j → q ≠ j → ys.getD p 0 ≤ ys.getD q 0) ∧ ∀ q, j < q → q ≤ i → ys.getD j 0 ≤ ys.getD q 0
theorem Near.start {a i : Nat} {ys : List Int} (h : SortedOn a i ys) : Near a i i ys := ⟨fun p q h1 h2 h3 h4 h5 => h p q h1 h2 (by omega), fun q h1 h2 => by omega⟩
theorem Near.done {a i j : Nat} {ys : List Int} (h : Near a i j ys) (haj : a ≤ j) (hj : j = a ∨ ¬ ys.getD j 0 < ys.getD (j - 1) 0) : SortedOn a (i + 1) ys := fun p q h1 h2 h3 => by
  by_cases hp : p = j
  · subst hp; exact h.2 q h2 (by omega)
  · by_cases hq : q = j
    · subst hq
      rcases hj with rfl | hj
      · omega
      · by_cases hpq : p = q - 1
        · subst hpq; omega
        · have := h.1 p (q - 1) h1 (by omega) (by omega) hp (by omega); omega
    · exact h.1 p q h1 h2 (by omega) hp hq
theorem Near.step {a i j : Nat} {ys : List Int} (h : Near a i (j + 1) ys) (hi : i < ys.length) (hj : j + 1 ≤ i) (haj : a ≤ j) (hlt : ys.getD (j + 1) 0 < ys.getD j 0) : Near a i j (swap ys (j + 1) j) := by
  have hs := fun k => swap_at ys (j + 1) j k (by omega) (by omega)
  refine ⟨fun p q h1 h2 h3 h4 h5 => ?_, fun q h1 h2 => ?_⟩
  · rw [hs p, hs q, if_neg h4, if_neg h5]
    by_cases hp : p = j + 1
    · rw [if_pos hp, if_neg (by omega)]
      exact h.1 j q haj (by omega) h3 (by omega) (by omega)
    · rw [if_neg hp]
      by_cases hq : q = j + 1
      · rw [if_pos hq]
        exact h.1 p j h1 (by omega) (by omega) hp (by omega)
      · rw [if_neg hq]; exact h.1 p q h1 h2 h3 hp hq
  · rw [hs j, hs q, if_pos rfl, if_neg (by omega)]
    by_cases hq : q = j + 1
    · rw [if_pos hq]; omega
    · rw [if_neg hq]; exact h.2 q (by omega) h2
end Sb
end Go.Proofs.Ytfgfichkcckhiaa
