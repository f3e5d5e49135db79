/- Dawg: literal rows of arcs, states, entries; what Build answers, in one. -/
import Derived.Test.YtgjfhedgdbbinaaDoorDSame
namespace Go.Proofs.YtgjfhedgdbbinaaDoor
open Go.RowKit
set_option linter.unusedSimpArgs false
set_option linter.unusedVariables false
namespace Dw
theorem lit_cells {w W : World} {A : Array Value} {t : TypeId} (h : w.alloc (.cells A t) = W) : Below w.heap.size w W ∧ (∀ j u, A.toList[j]? = some u → W.cell? ⟨w.heap.size, 0 + j, none⟩ = some u) ∧ W.heap.size = w.heap.size + 1 := by
  subst h
  refine ⟨(Below.refl _ _).alloc (Nat.le_refl _) _, fun j u hu => ?_, by simp⟩
  rw [Nat.zero_add, cell_of_row _ _ j _ t (0, 0) (heap_alloc_new w _)]
  simpa using hu
theorem RA.lit {w W : World} {A : Array Value} {t : TypeId} (h : w.alloc (.cells A t) = W) (l : List Arc) (hA : A.toList = acs l) : Below w.heap.size w W ∧ RA W (fun _ => True) (.slice (some ⟨w.heap.size, 0, none⟩) l.length l.length) l := by
  obtain ⟨h1, h2, _⟩ := lit_cells h
  exact ⟨h1, _, _, rfl, Nat.le_refl _, fun _ => ⟨_, _, rfl, trivial, fun j u hu => h2 j u (by rw [hA]; exact hu)⟩⟩
def scs (l : List (Value × State)) : List Value := l.flatMap fun x => [x.1, .bool x.2.final, .int .u64 x.2.out]
theorem scs_length (l : List (Value × State)) : (scs l).length = l.length * 3 := by
  induction l with
  | nil => rfl
  | cons e l ih => simp only [scs, List.flatMap_cons, List.length_append, List.length_cons] at ih ⊢; rw [ih]; simp; omega
theorem scs_get (l : List (Value × State)) (i j : Nat) (hi : i < l.length) (hj : j < 3) : (scs l)[i * 3 + j]? = ([(l[i]).1, .bool (l[i]).2.final, .int .u64 (l[i]).2.out] : List Value)[j]? := by
  induction l generalizing i with
  | nil => simp at hi
  | cons e l ih =>
    simp only [scs, List.flatMap_cons]
    cases i with
    | zero => rw [List.getElem?_append_left (by simp; omega)]; simp
    | succ i =>
      rw [List.getElem?_append_right (by simp; omega)]
      have := ih i (by simpa using hi)
      simp only [scs] at this
      simp only [List.getElem_cons_succ]
      rw [← this]; congr 1; simp; omega
theorem RS.lit {w W : World} {A : Array Value} {t : TypeId} (h : w.alloc (.cells A t) = W) (l : List (Value × State)) (hA : A.toList = scs l) (hr : ∀ x ∈ l, RA w (fun _ => True) x.1 x.2.arcs) : Below w.heap.size w W ∧ RS W (.slice (some ⟨w.heap.size, 0, none⟩) l.length l.length) (l.map Prod.snd) := by
  obtain ⟨h1, h2, _⟩ := lit_cells h
  refine ⟨h1, some ⟨w.heap.size, 0, none⟩, l.length, by rw [List.length_map], by rw [List.length_map]; exact Nat.le_refl _, fun _ => ⟨_, _, rfl, fun i s hi => ?_⟩⟩
  rw [List.getElem?_map] at hi
  obtain ⟨x, hx, rfl⟩ := Option.map_eq_some_iff.1 hi
  obtain ⟨hlt, rfl⟩ := List.getElem?_eq_some_iff.1 hx
  have k : ∀ j, j < 3 → ∀ u, ([(l[i]).1, .bool (l[i]).2.final, .int .u64 (l[i]).2.out] : List Value)[j]? = some u → W.cell? ⟨w.heap.size, 0 + (i * 3 + j), none⟩ = some u := fun j hj u hu => h2 _ _ (by rw [hA, scs_get l i j hlt hj]; exact hu)
  exact ⟨(l[i]).1, by have := k 0 (by omega) _ rfl; simpa using this, by have := k 1 (by omega) _ rfl; simpa [Nat.add_assoc] using this, by have := k 2 (by omega) _ rfl; simpa [Nat.add_assoc] using this, (hr _ (List.getElem_mem hlt)).later h1⟩
theorem RE.lit {w W : World} {A : Array Value} {t : TypeId} (h : w.alloc (.cells A t) = W) (l : List Ent) (hA : A.toList = ecs l) : Below w.heap.size w W ∧ RE W W.heap.size (.slice (some ⟨w.heap.size, 0, none⟩) l.length l.length) l := by
  obtain ⟨h1, h2, h3⟩ := lit_cells h
  exact ⟨h1, _, _, rfl, Nat.le_refl _, fun _ => ⟨_, _, rfl, by omega, fun j u hu => h2 j u (by rw [hA]; exact hu)⟩⟩
/-- a box of two cells that is filled at once -/
theorem box2set {w W : World} {x y x' y' : Value} {t : TypeId} (h : ((w.alloc (.cells #[x, y] t)).setCell ⟨w.heap.size, 0, none⟩ x').setCell ⟨w.heap.size, 1, none⟩ y' = W) : Below w.heap.size w W ∧ W.cell? ⟨w.heap.size, 0, none⟩ = some x' ∧ W.cell? ⟨w.heap.size, 1, none⟩ = some y' := by
  subst h
  have h1 := heap_alloc_new w (.cells #[x, y] t)
  have h2 := set_block (g := w.heap.size) (i := 0) h1 x'
  have h3 := set_block (i := 1) h2 y'
  have hb := (((Below.refl w.heap.size w).alloc (Nat.le_refl _) (.cells #[x, y] t)).setCell (p := ⟨w.heap.size, 0, none⟩) (Nat.le_refl _) x').setCell (p := ⟨w.heap.size, 1, none⟩) (Nat.le_refl _) y'
  exact ⟨hb, cell_of_row _ _ 0 _ t (0, 0) h3, cell_of_row _ _ 1 _ t (0, 0) h3⟩
/-- what is built of a list as it comes -/
def buildF (es : List Ent) : Fst := if chkN es = 0 then build (es.map wvE) else ⟨[], 0⟩
theorem build8 (w : World) (es : List Ent) (B : Nat) (v : Value) (hB : B ≤ w.heap.size) (hre : RE w B v es) (hlen : es.length ≤ 30) (hes : ∀ e ∈ es, okE e) :
    Calls Tryd.prog 8 #[v] w fun e w1 => ∃ sv, e = .returned (.tuple #[.agg #[sv, .int .u64 (buildF es).init], .int .i64 (chkN es : Nat)]) ∧ RS w1 sv (buildF es).states ∧ (∀ s ∈ (buildF es).states, okK s) ∧ (buildF es).states.length ≤ 10000 ∧ Below w.heap.size w w1 := by
  by_cases hc : chkN es = 0
  · refine (build8g w es B v hB hre hlen hes hc).mono ?_
    rintro e w1 ⟨sv, rfl, h2, h4, h5, h3⟩
    unfold buildF
    rw [if_pos hc, hc]
    exact ⟨sv, rfl, h2, h4, h5, h3⟩
  · refine (build8b w es B v hB hre hlen hc).mono ?_
    rintro e w1 ⟨rfl, h3⟩
    unfold buildF
    rw [if_neg hc]
    exact ⟨_, rfl, RS.nil_ _, by simp, by simp, h3⟩
end Dw
end Go.Proofs.YtgjfhedgdbbinaaDoor
