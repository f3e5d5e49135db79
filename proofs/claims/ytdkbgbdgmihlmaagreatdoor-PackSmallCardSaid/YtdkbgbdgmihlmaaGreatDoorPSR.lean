/- rows of states that a call makes; where the parser's parts end. -/
import Derived.Test.YtdkbgbdgmihlmaaGreatDoorPRState
namespace Go.Proofs.YtdkbgbdgmihlmaaGreatDoor
open Go.RowKit
set_option linter.unusedSimpArgs false
set_option linter.unusedVariables false
set_option linter.unnecessarySimpa false
namespace Dw
def scs (l : List (Value × State)) : List Value := l.flatMap fun x => [x.1, .bool x.2.final, .int .u64 x.2.out]
theorem scs_get (l : List (Value × State)) (i j : Nat) (hi : i < l.length) (hj : j < 3) : (scs l)[i * 3 + j]? = ([(l[i]).1, .bool (l[i]).2.final, .int .u64 (l[i]).2.out] : List Value)[j]? := by
  induction l generalizing i with
  | nil => simp at hi
  | cons e l ih =>
    simp only [scs, List.flatMap_cons]
    cases i with
    | zero => rw [List.getElem?_append_left (by simp; omega)]; simp
    | succ i =>
      rw [List.getElem?_append_right (by simp; omega)]
      have := ih i (by simpa using hi)
      simp only [scs] at this
      simp only [List.getElem_cons_succ]
      rw [← this]; congr 1; simp; omega
theorem scs_append (a b : List (Value × State)) : scs (a ++ b) = scs a ++ scs b := by simp [scs]
/-- a row of states that the call owns; their arcs lie in blocks of B -/
structure SR (w : World) (base : Nat) (B : Nat → Prop) (v : Value) (l : List (Value × State)) : Prop where
  row : w.ownsRow base 58 3 v l.length (scs l)
  arcs : ∀ x ∈ l, RA w B x.1 x.2.arcs
section
variable {w w' : World} {base : Nat} {B S : Nat → Prop} {v : Value} {l : List (Value × State)}
theorem SR.but (h : SR w base B v l) (hb : But S w w') (hv : ∀ k, v.ownBlock = some k → ¬ S k) (hB : ∀ k, B k → ¬ S k) : SR w' base B v l := ⟨own_but h.row hb hv, fun x hx => (h.arcs x hx).but hb hB⟩
theorem SR.later (h : SR w base B v l) (hb : Below w.heap.size w w') : SR w' base B v l := h.but (But.of (fun _ => False) hb) (fun _ _ h => h) (fun _ _ h => h)
theorem SR.form (h : SR w base B v l) : ∃ (A : Option Addr) (c : Nat), v = .slice A l.length c ∧ l.length ≤ c := by
  obtain ⟨A, c, h1, h2⟩ := row_form h.row
  exact ⟨A, c, h1, h2⟩
theorem SR.cells (h : SR w base B v l) {i : Nat} {x : Value × State} (hi : l[i]? = some x) : ∃ g c, v = .slice (some ⟨g, 0, none⟩) l.length c ∧ base ≤ g ∧ SAt w B g (i * 3) x.1 x.2 := by
  have hlt := (List.getElem?_eq_some_iff.1 hi).1
  have hx := (List.getElem?_eq_some_iff.1 hi).2
  have h1 := h.row
  rcases h1.2 with ⟨_, h0⟩ | ⟨b, cap, cur, rfl, hb, hh, hc, _⟩
  · omega
  · have k : ∀ j, j < 3 → w.cell? ⟨b, i * 3 + j, none⟩ = ([x.1, .bool x.2.final, .int .u64 x.2.out] : List Value)[j]? := fun j hj => by
      rw [h1.cellAt (i * 3 + j) (by omega), scs_get l i j hlt hj, hx]
    exact ⟨b, cap, rfl, hb, ⟨k 0 (by omega), k 1 (by omega), k 2 (by omega), h.arcs x (List.mem_of_getElem? hi)⟩⟩
theorem SR.rs (h : SR w base B v l) : RS w v (l.map Prod.snd) := by
  obtain ⟨A, c, h1, h2⟩ := h.form
  refine ⟨A, c, by rw [List.length_map]; exact h1, by rw [List.length_map]; exact h2, fun h0 => ?_⟩
  rw [List.length_map] at h0
  obtain ⟨x0, hx0⟩ : ∃ x, l[0]? = some x := ⟨_, List.getElem?_eq_getElem h0⟩
  obtain ⟨g, c2, h3, _, _⟩ := h.cells hx0
  rw [h1] at h3
  injection h3 with h3
  refine ⟨g, 0, h3, fun i s hi => ?_⟩
  rw [List.getElem?_map] at hi
  obtain ⟨x, hx, rfl⟩ := Option.map_eq_some_iff.1 hi
  obtain ⟨g', c', h4, _, h5⟩ := h.cells hx
  rw [h1] at h4
  injection h4 with h4
  rw [h3] at h4
  injection h4 with h4
  injection h4 with h4
  subst h4
  rw [Nat.zero_add]
  exact ⟨x.1, ⟨h5.c0, h5.c1, h5.c2, h5.arcs.more (fun _ _ _ => trivial)⟩⟩
end
theorem SR.nil_ (w : World) (base : Nat) (B : Nat → Prop) : SR w base B (.slice none 0 0) [] := ⟨World.ownsRow_nil _ _ _ _, fun x hx => by cases hx⟩
theorem pMag_ok {s : ByteArray} {k i x j : Nat} (hi : i ≤ s.size) (h : pMag s k i = .ok (x, j)) : j = i + 1 ∧ j ≤ s.size ∧ (wl s)[i]? = some (magicAt k) := by
  unfold pMag stepN charN at h
  by_cases h2 : i = s.size
  · rw [if_pos h2] at h; simp at h
  · rw [if_neg h2] at h
    simp only [ne_eq, not_true_eq_false, if_false] at h
    split at h
    · cases h
    · rename_i h3
      injection h with h
      injection h with h4 h5
      unfold kindN at h3
      have h6 : at_ s i = magicAt k := by
        by_cases h7 : at_ s i = magicAt k
        · exact h7
        · rw [if_neg h7] at h3; simp at h3
      exact ⟨h5.symm, by omega, by rw [← h6]; exact wl_at (by omega)⟩
theorem pArcs_ok {s : ByteArray} {i : Nat} (hi9 : i ≤ 1000000000) : ∀ {k p : Nat} {acc l : List Arc} {j : Nat}, p ≤ s.size → pArcs s i k p acc = .ok (l, j) → p ≤ j ∧ j ≤ s.size ∧ l.length = acc.length + k ∧ ((∀ a ∈ acc, okA a ∧ 0 ≤ a.to ∧ a.to < (i : Int)) → ∀ a ∈ l, okA a ∧ 0 ≤ a.to ∧ a.to < (i : Int))
  | 0, p, acc, l, j, hp, h => by
    simp only [pArcs] at h
    injection h with h
    injection h with h1 h2
    subst h1; subst h2
    exact ⟨Nat.le_refl _, hp, rfl, id⟩
  | k + 1, p, acc, l, j, hp, h => by
    simp only [pArcs] at h
    split at h
    · cases h
    · rename_i c p1 hc
      have k1 := pChar_ok hp hc
      split at h
      · cases h
      · rename_i o p2 ho
        have k2 := pNum_ok ho
        split at h
        · cases h
        · rename_i d p3 hd
          have k3 := pNum_ok hd
          have ih := pArcs_ok hi9 k3.2.1 h
          refine ⟨by omega, ih.2.1, by rw [ih.2.2.1, List.length_append]; simp; omega, fun ha => ih.2.2.2 fun a hm => ?_⟩
          rcases List.mem_append.1 hm with hm | hm
          · exact ha a hm
          · simp at hm
            subst hm
            have k4 := k2.2.2.1
            unfold M64 at k4
            refine ⟨⟨k1.2.2.1, k4, ?_, ?_⟩, ?_, ?_⟩ <;> simp <;> omega
theorem pState_ok {s : ByteArray} {i p j : Nat} {st : State} (hi9 : i ≤ 1000000000) (h : pState s i p = .ok (st, j)) : p < j ∧ j ≤ s.size ∧ okS st ∧ st.arcs.length ≤ 256 ∧ (∀ a ∈ st.arcs, 0 ≤ a.to ∧ a.to < (i : Int)) ∧ (st.final = false → st.out = 0) := by
  unfold pState at h
  split at h
  · cases h
  · rename_i n p1 hn
    have k1 := pNum_ok hn
    split at h
    · cases h
    · rename_i o p2 ho
      have k2 : p1 ≤ p2 ∧ p2 ≤ s.size ∧ o < M64 ∧ (n % 2 ≠ 1 → o = 0) := by
        unfold pOut at ho
        split at ho
        · rename_i h1
          have := pNum_ok ho
          exact ⟨by omega, this.2.1, this.2.2.1, fun h => absurd h1 h⟩
        · injection ho with ho
          injection ho with h1 h2
          subst h1; subst h2
          exact ⟨Nat.le_refl _, k1.2.1, by unfold M64; omega, fun _ => rfl⟩
      cases hl : pArcs s i (n / 2) p2 [] with
      | error b => rw [hl] at h; cases h
      | ok x =>
        obtain ⟨l, p3⟩ := x
        rw [hl] at h
        simp only [pMk] at h
        injection h with h
        injection h with h1 h2
        subst h1; subst h2
        have k3 := pArcs_ok hi9 k2.2.1 hl
        have k4 := k3.2.2.2 (by simp)
        have k5 := k2.2.2.1
        have k6 := k3.2.2.1
        simp at k6
        unfold M64 at k5
        exact ⟨by omega, k3.2.1, ⟨k5, by simp; omega, fun a ha => (k4 a ha).1⟩, by simp; omega, fun a ha => (k4 a ha).2, fun hf => k2.2.2.2 (by simpa using hf)⟩
theorem RA.take {w : World} {B : Nat → Prop} {A : Option Addr} {n c : Nat} {l : List Arc} (h : RA w B (.slice A n c) l) (m : Nat) (hm : m ≤ n) : RA w B (.slice A m c) (l.take m) := by
  obtain ⟨A', c', h1, h2, h3⟩ := h
  injection h1 with h1 h4 h5
  subst h1; subst h5
  refine ⟨A, c, by rw [List.length_take, Nat.min_eq_left (by omega)], by rw [List.length_take]; omega, fun h0 => ?_⟩
  rw [List.length_take] at h0
  obtain ⟨b, off, h6, h7, h8⟩ := h3 (by omega)
  refine ⟨b, off, h6, h7, fun j u hu => h8 j u ?_⟩
  have hs : acs l = acs (l.take m) ++ acs (l.drop m) := by rw [← acs_append, List.take_append_drop]
  rw [hs, List.getElem?_append_left (List.getElem?_eq_some_iff.1 hu).1]
  exact hu
end Dw
end Go.Proofs.YtdkbgbdgmihlmaaGreatDoor
