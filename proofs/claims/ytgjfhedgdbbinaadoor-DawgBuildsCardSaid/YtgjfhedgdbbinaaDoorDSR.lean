/- Dawg: rows of states that a call makes. -/
import Derived.Test.YtgjfhedgdbbinaaDoorDRRight
namespace Go.Proofs.YtgjfhedgdbbinaaDoor
open Go.RowKit
set_option linter.unusedSimpArgs false
set_option linter.unusedVariables false
set_option linter.unnecessarySimpa false
namespace Dw
theorem scs_append (a b : List (Value × State)) : scs (a ++ b) = scs a ++ scs b := by simp [scs]
/-- a row of states that the call owns; their arcs lie in blocks of B -/
structure SR (w : World) (base : Nat) (B : Nat → Prop) (v : Value) (l : List (Value × State)) : Prop where
  row : w.ownsRow base 61 3 v l.length (scs l)
  arcs : ∀ x ∈ l, RA w B x.1 x.2.arcs
section
variable {w w' : World} {base : Nat} {B S : Nat → Prop} {v : Value} {l : List (Value × State)}
theorem SR.but (h : SR w base B v l) (hb : But S w w') (hv : ∀ k, v.ownBlock = some k → ¬ S k) (hB : ∀ k, B k → ¬ S k) : SR w' base B v l := ⟨own_but h.row hb hv, fun x hx => (h.arcs x hx).but hb hB⟩
theorem SR.later (h : SR w base B v l) (hb : Below w.heap.size w w') : SR w' base B v l := h.but (But.of (fun _ => False) hb) (fun _ _ h => h) (fun _ _ h => h)
theorem SR.form (h : SR w base B v l) : ∃ (A : Option Addr) (c : Nat), v = .slice A l.length c ∧ l.length ≤ c := by
  obtain ⟨A, c, h1, h2⟩ := row_form h.row
  exact ⟨A, c, h1, h2⟩
theorem SR.cells (h : SR w base B v l) {i : Nat} {x : Value × State} (hi : l[i]? = some x) : ∃ g c, v = .slice (some ⟨g, 0, none⟩) l.length c ∧ base ≤ g ∧ SAt w B g (i * 3) x.1 x.2 := by
  have hlt := (List.getElem?_eq_some_iff.1 hi).1
  have hx := (List.getElem?_eq_some_iff.1 hi).2
  have h1 := h.row
  rcases h1.2 with ⟨_, h0⟩ | ⟨b, cap, cur, rfl, hb, hh, hc, _⟩
  · omega
  · have k : ∀ j, j < 3 → w.cell? ⟨b, i * 3 + j, none⟩ = ([x.1, .bool x.2.final, .int .u64 x.2.out] : List Value)[j]? := fun j hj => by
      rw [h1.cellAt (i * 3 + j) (by omega), scs_get l i j hlt hj, hx]
    exact ⟨b, cap, rfl, hb, ⟨k 0 (by omega), k 1 (by omega), k 2 (by omega), h.arcs x (List.mem_of_getElem? hi)⟩⟩
theorem SR.rs (h : SR w base B v l) : RS w v (l.map Prod.snd) := by
  obtain ⟨A, c, h1, h2⟩ := h.form
  refine ⟨A, c, by rw [List.length_map]; exact h1, by rw [List.length_map]; exact h2, fun h0 => ?_⟩
  rw [List.length_map] at h0
  obtain ⟨x0, hx0⟩ : ∃ x, l[0]? = some x := ⟨_, List.getElem?_eq_getElem h0⟩
  obtain ⟨g, c2, h3, _, _⟩ := h.cells hx0
  rw [h1] at h3
  injection h3 with h3
  refine ⟨g, 0, h3, fun i s hi => ?_⟩
  rw [List.getElem?_map] at hi
  obtain ⟨x, hx, rfl⟩ := Option.map_eq_some_iff.1 hi
  obtain ⟨g', c', h4, _, h5⟩ := h.cells hx
  rw [h1] at h4
  injection h4 with h4
  rw [h3] at h4
  injection h4 with h4
  injection h4 with h4
  subst h4
  rw [Nat.zero_add]
  exact ⟨x.1, ⟨h5.c0, h5.c1, h5.c2, h5.arcs.more (fun _ _ _ => trivial)⟩⟩
end
theorem SR.nil_ (w : World) (base : Nat) (B : Nat → Prop) : SR w base B (.slice none 0 0) [] := ⟨World.ownsRow_nil _ _ _ _, fun x hx => by cases hx⟩
theorem RA.take {w : World} {B : Nat → Prop} {A : Option Addr} {n c : Nat} {l : List Arc} (h : RA w B (.slice A n c) l) (m : Nat) (hm : m ≤ n) : RA w B (.slice A m c) (l.take m) := by
  obtain ⟨A', c', h1, h2, h3⟩ := h
  injection h1 with h1 h4 h5
  subst h1; subst h5
  refine ⟨A, c, by rw [List.length_take, Nat.min_eq_left (by omega)], by rw [List.length_take]; omega, fun h0 => ?_⟩
  rw [List.length_take] at h0
  obtain ⟨b, off, h6, h7, h8⟩ := h3 (by omega)
  refine ⟨b, off, h6, h7, fun j u hu => h8 j u ?_⟩
  have hs : acs l = acs (l.take m) ++ acs (l.drop m) := by rw [← acs_append, List.take_append_drop]
  rw [hs, List.getElem?_append_left (List.getElem?_eq_some_iff.1 hu).1]
  exact hu
end Dw
end Go.Proofs.YtgjfhedgdbbinaaDoor
