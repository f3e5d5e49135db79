/- Dawg: the document's maker of states, in memory. -/
import Derived.Test.YtgjfhedgdbbinaaDoorDAlike
import Derived.Test.YtgjfhedgdbbinaaDoorDReg
import Derived.Test.YtgjfhedgdbbinaaDoorDLaw
namespace Go.Proofs.YtgjfhedgdbbinaaDoor
open Go.RowKit
set_option linter.unusedSimpArgs false
set_option linter.unusedVariables false
set_option linter.unnecessarySimpa false
namespace Dw
theorem finish_at {ss : List State} {s : State} {i : Nat} (hi : ss[i]? = some s) (hn : s ∉ ss.take i) : finish ss s = (ss, i) := by
  unfold finish
  have : ss.findIdx? (· = s) = some i := by
    rw [List.findIdx?_eq_some_iff_getElem]
    obtain ⟨h1, h2⟩ := List.getElem?_eq_some_iff.1 hi
    refine ⟨h1, by simpa using h2, fun j hj => ?_⟩
    have : ss[j] ≠ s := fun e => hn (List.mem_iff_getElem?.2 ⟨j, by rw [List.getElem?_take, if_pos hj, List.getElem?_eq_getElem (by omega), e]⟩)
    simpa using this
  rw [this]
/-- the maker at block g; its states' arcs lie in blocks of B -/
structure MS (w : World) (base g : Nat) (v : Value) (B : Nat → Prop) (ss : List State) : Prop where
  box : w.heap[g]? = some (.cells #[v] 89 (0, 0))
  row : ∃ cells, w.ownsRow base 61 3 v ss.length cells ∧ ∀ (i : Nat) (s : State), ss[i]? = some s → ∃ av, cells[i * 3]? = some av ∧ cells[i * 3 + 1]? = some (.bool s.final) ∧ cells[i * 3 + 2]? = some (.int .u64 s.out) ∧ RA w B av s.arcs
  vg : v.ownBlock ≠ some g
  bg : ¬ B g
  bv : ∀ k, v.ownBlock = some k → ¬ B k
section
variable {w w' : World} {base g : Nat} {v : Value} {B B' S : Nat → Prop} {ss : List State}
theorem MS.but (h : MS w base g v B ss) (hb : But S w w') (hg : ¬ S g) (hv : ∀ k, v.ownBlock = some k → ¬ S k) (hB : ∀ k, B k → ¬ S k) : MS w' base g v B ss := by
  obtain ⟨cells, h1, h2⟩ := h.row
  exact ⟨hb.heap h.box hg, ⟨cells, own_but h1 hb hv, fun i s hi => by obtain ⟨av, k0, k1, k2, k3⟩ := h2 i s hi; exact ⟨av, k0, k1, k2, k3.but hb hB⟩⟩, h.vg, h.bg, h.bv⟩
theorem MS.later (h : MS w base g v B ss) (hb : Below w.heap.size w w') : MS w' base g v B ss := h.but (But.of (fun _ => False) hb) (fun h => h) (fun _ _ h => h) (fun _ _ h => h)
theorem MS.more (h : MS w base g v B ss) (hB : ∀ k, k < w.heap.size → B k → B' k) (hg : ¬ B' g) (hv : ∀ k, v.ownBlock = some k → ¬ B' k) : MS w base g v B' ss := by
  obtain ⟨cells, h1, h2⟩ := h.row
  exact ⟨h.box, ⟨cells, h1, fun i s hi => by obtain ⟨av, k0, k1, k2, k3⟩ := h2 i s hi; exact ⟨av, k0, k1, k2, k3.more hB⟩⟩, h.vg, hg, hv⟩
theorem MS.form (h : MS w base g v B ss) : ∃ (A : Option Addr) (c : Nat), v = .slice A ss.length c ∧ ss.length ≤ c := by
  obtain ⟨cells, h1, _⟩ := h.row
  rcases h1.2 with ⟨rfl, h0⟩ | ⟨b, cap, cur, rfl, _, _, hc, _⟩
  · exact ⟨none, 0, by rw [h0], by omega⟩
  · exact ⟨_, _, rfl, hc⟩
theorem MS.cell (h : MS w base g v B ss) : w.cell? ⟨g, 0, none⟩ = some v := by rw [cell_of_row _ _ 0 _ _ (0, 0) h.box]; rfl
theorem MS.rs (h : MS w base g v B ss) : RS w v ss := by
  obtain ⟨cells, h1, h2⟩ := h.row
  rcases h1.2 with ⟨rfl, h0⟩ | ⟨b, cap, cur, rfl, _, hh, hc, _⟩
  · obtain rfl : ss = [] := List.eq_nil_of_length_eq_zero h0
    exact RS.nil_ w
  · refine ⟨_, _, rfl, hc, fun _ => ⟨b, 0, rfl, fun i s hi => ?_⟩⟩
    obtain ⟨av, k0, k1, k2, k3⟩ := h2 i s hi
    have hlt := (List.getElem?_eq_some_iff.1 hi).1
    have c0 := h1.cellAt (i * 3) (by omega)
    have c1 := h1.cellAt (i * 3 + 1) (by omega)
    have c2 := h1.cellAt (i * 3 + 2) (by omega)
    rw [Nat.zero_add]
    exact ⟨av, by rw [c0, k0], by rw [c1, k1], by rw [c2, k2], k3.more (fun _ _ _ => trivial)⟩
theorem MS.blk (h : MS w base g v B ss) {k : Nat} (hk : v.ownBlock = some k) : base ≤ k ∧ k < w.heap.size := by
  obtain ⟨cells, h1, _⟩ := h.row
  exact h1.lt k hk
/-- a state comes behind -/
theorem MS.snoc {w6 : World} {s : State} {av v' : Value} {Bs : Nat → Prop} {cells : List Value} (h : MS w base g v B ss) (hcl : ∀ (i : Nat) (s : State), ss[i]? = some s → ∃ av, cells[i * 3]? = some av ∧ cells[i * 3 + 1]? = some (.bool s.final) ∧ cells[i * 3 + 2]? = some (.int .u64 s.out) ∧ RA w B av s.arcs)
    (hlen : cells.length = ss.length * 3) (hra : RA w Bs av s.arcs) (hbs : ∀ k, Bs k → k ≠ g ∧ v.ownBlock ≠ some k) (hw5 : But (fun k => k = g ∨ v.ownBlock = some k) w w6)
    (hrow : w6.ownsRow base 61 3 v' (ss.length + 1) (cells ++ [av, .bool s.final, .int .u64 s.out])) (hbox : w6.heap[g]? = some (.cells #[v'] 89 (0, 0))) (hv : v'.ownBlock = v.ownBlock ∨ ∃ k, v'.ownBlock = some k ∧ w.heap.size ≤ k) :
    MS w6 base g v' (fun k => k < w.heap.size ∧ (B k ∨ Bs k)) (ss ++ [s]) := by
  have hgw := heap_lt h.box
  have hr : ∀ {T : Nat → Prop} {x : Value} {l : List Arc}, (∀ k, T k → k ≠ g ∧ v.ownBlock ≠ some k) → (∀ k, k < w.heap.size → T k → k < w.heap.size ∧ (B k ∨ Bs k)) → RA w T x l → RA w6 (fun k => k < w.heap.size ∧ (B k ∨ Bs k)) x l := fun hT hT2 hx =>
    (hx.more hT2).but hw5 (fun k hk e => by
      rcases hk.2 with h1 | h1
      · rcases e with rfl | e
        · exact h.bg h1
        · exact h.bv k e h1
      · rcases e with rfl | e
        · exact (hbs _ h1).1 rfl
        · exact (hbs _ h1).2 e)
  refine ⟨hbox, ⟨_, by rw [List.length_append]; exact hrow, fun i x hi => ?_⟩, ?_, ?_, ?_⟩
  · by_cases hlt : i < ss.length
    · rw [List.getElem?_append_left hlt] at hi
      obtain ⟨ax, k0, k1, k2, k3⟩ := hcl i x hi
      refine ⟨ax, by rw [List.getElem?_append_left (by omega)]; exact k0, by rw [List.getElem?_append_left (by omega)]; exact k1, by rw [List.getElem?_append_left (by omega)]; exact k2, hr (fun k hk => ⟨fun e => h.bg (e ▸ hk), fun e => h.bv k e hk⟩) (fun k hk hB => ⟨hk, .inl hB⟩) k3⟩
    · have hi2 := (List.getElem?_eq_some_iff.1 hi).1
      simp only [List.length_append, List.length_cons, List.length_nil] at hi2
      obtain rfl : i = ss.length := by omega
      rw [List.getElem?_append_right (Nat.le_refl _), Nat.sub_self] at hi
      injection hi with hi
      subst hi
      refine ⟨av, ?_, ?_, ?_, hr hbs (fun k hk hB => ⟨hk, .inr hB⟩) hra⟩
      · rw [List.getElem?_append_right (by omega), hlen, Nat.sub_self]; rfl
      · rw [List.getElem?_append_right (by omega), hlen, show ss.length * 3 + 1 - ss.length * 3 = 1 by omega]; rfl
      · rw [List.getElem?_append_right (by omega), hlen, show ss.length * 3 + 2 - ss.length * 3 = 2 by omega]; rfl
  · rcases hv with e | ⟨k, e, hk⟩
    · rw [e]; exact h.vg
    · rw [e]; intro e2; injection e2 with e2; omega
  · rintro ⟨_, h1 | h1⟩
    · exact h.bg h1
    · exact (hbs _ h1).1 rfl
  · rintro k hk ⟨hlt, h1⟩
    rcases hv with e | ⟨k', e, hk'⟩
    · rw [e] at hk
      rcases h1 with h1 | h1
      · exact h.bv k hk h1
      · exact (hbs _ h1).2 hk
    · rw [e] at hk
      injection hk with hk
      omega
end
end Dw
end Go.Proofs.YtgjfhedgdbbinaaDoor
