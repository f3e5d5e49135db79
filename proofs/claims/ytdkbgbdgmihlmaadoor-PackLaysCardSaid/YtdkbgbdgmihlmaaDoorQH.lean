/- What is laid is read back; what is read is laid again just so. -/
import Derived.Test.YtdkbgbdgmihlmaaDoorPPut
import Derived.Test.YtdkbgbdgmihlmaaDoorQE
namespace Go.Proofs.YtdkbgbdgmihlmaaDoor
open Go.RowKit
set_option linter.unusedSimpArgs false
set_option linter.unusedVariables false
set_option linter.unnecessarySimpa false
namespace Dw
/-- an arc that may stand in the i-th state -/
def arcIn (i : Nat) (a : Arc) : Prop := okA a ∧ 0 ≤ a.to ∧ a.to < (i : Int)
theorem numsB_two (a b : Nat) : numsB [a, b] = numB a ++ numB b := by simp [numsB]
theorem numsB_one (a : Nat) : numsB [a] = numB a := by simp [numsB]
/-- a state that may stand at the i-th place -/
def stIn (i : Nat) (s : State) : Prop := okS s ∧ s.arcs.length ≤ 256 ∧ (s.final = false → s.out = 0) ∧ ∀ a ∈ s.arcs, arcIn i a
theorem stIn_mayL : ∀ (l : List State) (i : Nat), (∀ k st, l[k]? = some st → stIn (i + k) st) → mayL i l = true
  | [], _, _ => rfl
  | st :: l, i, h => by
    obtain ⟨_, h1, h2, h3⟩ := h 0 st rfl
    have h4 := stIn_mayL l (i + 1) fun k x hx => by
      have h9 := h (k + 1) x (by simpa using hx)
      rw [show i + 1 + k = i + (k + 1) by omega]
      exact h9
    have key : ∀ l : List Arc, (∀ a ∈ l, arcIn (i + 0) a) → okTo i l = true := by
      intro l
      induction l with
      | nil => intro _; rfl
      | cons a l ih =>
        intro h
        have h5 := h a (List.mem_cons_self ..)
        simp only [okTo, Bool.and_eq_true, decide_eq_true_eq]
        exact ⟨h5.2, ih fun x hx => h x (List.mem_cons_of_mem _ hx)⟩
    simp only [mayL, Bool.and_eq_true, decide_eq_true_eq, Bool.or_eq_true]
    refine ⟨⟨⟨h1, ?_⟩, key _ h3⟩, h4⟩
    cases hf : st.final with
    | true => exact .inl rfl
    | false => exact .inr (h2 hf)
end Dw
end Go.Proofs.YtdkbgbdgmihlmaaDoor

namespace Go.Proofs.YtdkbgbdgmihlmaaDoor
open Go.RowKit
set_option linter.unusedSimpArgs false
set_option linter.unusedVariables false
set_option linter.unnecessarySimpa false
namespace Dw
theorem lit_cells {w W : World} {A : Array Value} {t : TypeId} (h : w.alloc (.cells A t) = W) : Below w.heap.size w W ∧ (∀ j u, A.toList[j]? = some u → W.cell? ⟨w.heap.size, 0 + j, none⟩ = some u) ∧ W.heap.size = w.heap.size + 1 := by
  subst h
  refine ⟨(Below.refl _ _).alloc (Nat.le_refl _) _, fun j u hu => ?_, by simp⟩
  rw [Nat.zero_add, cell_of_row _ _ j _ t (0, 0) (heap_alloc_new w _)]
  simpa using hu
theorem RA.lit {w W : World} {A : Array Value} {t : TypeId} (h : w.alloc (.cells A t) = W) (l : List Arc) (hA : A.toList = acs l) : Below w.heap.size w W ∧ RA W (fun _ => True) (.slice (some ⟨w.heap.size, 0, none⟩) l.length l.length) l := by
  obtain ⟨h1, h2, _⟩ := lit_cells h
  exact ⟨h1, _, _, rfl, Nat.le_refl _, fun _ => ⟨_, _, rfl, trivial, fun j u hu => h2 j u (by rw [hA]; exact hu)⟩⟩
theorem RS.lit {w W : World} {A : Array Value} {t : TypeId} (h : w.alloc (.cells A t) = W) (l : List (Value × State)) (hA : A.toList = scs l) (hr : ∀ x ∈ l, RA w (fun _ => True) x.1 x.2.arcs) : Below w.heap.size w W ∧ RS W (.slice (some ⟨w.heap.size, 0, none⟩) l.length l.length) (l.map Prod.snd) := by
  obtain ⟨h1, h2, _⟩ := lit_cells h
  refine ⟨h1, some ⟨w.heap.size, 0, none⟩, l.length, by rw [List.length_map], by rw [List.length_map]; exact Nat.le_refl _, fun _ => ⟨_, _, rfl, fun i s hi => ?_⟩⟩
  rw [List.getElem?_map] at hi
  obtain ⟨x, hx, rfl⟩ := Option.map_eq_some_iff.1 hi
  obtain ⟨hlt, rfl⟩ := List.getElem?_eq_some_iff.1 hx
  have k : ∀ j, j < 3 → ∀ u, ([(l[i]).1, .bool (l[i]).2.final, .int .u64 (l[i]).2.out] : List Value)[j]? = some u → W.cell? ⟨w.heap.size, 0 + (i * 3 + j), none⟩ = some u := fun j hj u hu => h2 _ _ (by rw [hA, scs_get l i j hlt hj]; exact hu)
  exact ⟨(l[i]).1, by have := k 0 (by omega) _ rfl; simpa using this, by have := k 1 (by omega) _ rfl; simpa [Nat.add_assoc] using this, by have := k 2 (by omega) _ rfl; simpa [Nat.add_assoc] using this, (hr _ (List.getElem_mem hlt)).later h1⟩
/-- a row of transducers -/
def RF (w : World) (v : Value) (l : List Fst) : Prop := ∃ (A : Option Addr) (c : Nat), v = .slice A l.length c ∧ l.length ≤ c ∧ (0 < l.length → ∃ b off, A = some ⟨b, off, none⟩ ∧ ∀ (i : Nat) (x : Fst), l[i]? = some x → ∃ sv, w.cell? ⟨b, off + i * 2, none⟩ = some sv ∧ w.cell? ⟨b, off + i * 2 + 1, none⟩ = some (.int .u64 x.init) ∧ RS w sv x.states)
theorem RF.later {w w' : World} {v : Value} {l : List Fst} (h : RF w v l) (hb : Below w.heap.size w w') : RF w' v l := by
  obtain ⟨A, c, h1, h2, h3⟩ := h
  refine ⟨A, c, h1, h2, fun h0 => ?_⟩
  obtain ⟨b, off, h4, h5⟩ := h3 h0
  exact ⟨b, off, h4, fun i x hi => by obtain ⟨sv, h6, h7, h8⟩ := h5 i x hi; exact ⟨sv, cL hb h6, cL hb h7, h8.later hb⟩⟩
theorem RF.at_ {w : World} {A : Option Addr} {n c : Nat} {l : List Fst} (h : RF w (.slice A n c) l) {i : Nat} {x : Fst} (hi : l[i]? = some x) : ∃ b off sv, A = some ⟨b, off, none⟩ ∧ w.cell? ⟨b, off + i * 2, none⟩ = some sv ∧ w.cell? ⟨b, off + i * 2 + 1, none⟩ = some (.int .u64 x.init) ∧ RS w sv x.states := by
  obtain ⟨A', c', h1, h2, h3⟩ := h
  injection h1 with h1
  have h0 := (List.getElem?_eq_some_iff.1 hi).1
  obtain ⟨b, off, h4, h5⟩ := h3 (by omega)
  obtain ⟨sv, h6⟩ := h5 i x hi
  exact ⟨b, off, sv, h1.trans h4, h6⟩
def fcs (l : List (Value × Fst)) : List Value := l.flatMap fun x => [x.1, .int .u64 x.2.init]
theorem fcs_get (l : List (Value × Fst)) (i j : Nat) (hi : i < l.length) (hj : j < 2) : (fcs l)[i * 2 + j]? = ([(l[i]).1, .int .u64 (l[i]).2.init] : List Value)[j]? := by
  induction l generalizing i with
  | nil => simp at hi
  | cons e l ih =>
    simp only [fcs, List.flatMap_cons]
    cases i with
    | zero => rw [List.getElem?_append_left (by simp; omega)]; simp
    | succ i =>
      rw [List.getElem?_append_right (by simp; omega)]
      have := ih i (by simpa using hi)
      simp only [fcs] at this
      simp only [List.getElem_cons_succ]
      rw [← this]; congr 1; simp; omega
theorem RF.lit {w W : World} {A : Array Value} {t : TypeId} (h : w.alloc (.cells A t) = W) (l : List (Value × Fst)) (hA : A.toList = fcs l) (hr : ∀ x ∈ l, RS w x.1 x.2.states) : Below w.heap.size w W ∧ RF W (.slice (some ⟨w.heap.size, 0, none⟩) l.length l.length) (l.map Prod.snd) := by
  obtain ⟨h1, h2, _⟩ := lit_cells h
  refine ⟨h1, some ⟨w.heap.size, 0, none⟩, l.length, by rw [List.length_map], by rw [List.length_map]; exact Nat.le_refl _, fun _ => ⟨_, _, rfl, fun i s hi => ?_⟩⟩
  rw [List.getElem?_map] at hi
  obtain ⟨x, hx, rfl⟩ := Option.map_eq_some_iff.1 hi
  obtain ⟨hlt, rfl⟩ := List.getElem?_eq_some_iff.1 hx
  have k : ∀ j, j < 2 → ∀ u, ([(l[i]).1, .int .u64 (l[i]).2.init] : List Value)[j]? = some u → W.cell? ⟨w.heap.size, 0 + (i * 2 + j), none⟩ = some u := fun j hj u hu => h2 _ _ (by rw [hA, fcs_get l i j hlt hj]; exact hu)
  exact ⟨(l[i]).1, by have := k 0 (by omega) _ rfl; simpa using this, by have := k 1 (by omega) _ rfl; simpa [Nat.add_assoc] using this, (hr _ (List.getElem_mem hlt)).later h1⟩
def okAb (a : Arc) : Bool := decide (a.byte < 256) && decide (a.out < 18446744073709551616) && decide (-9223372036854775808 ≤ a.to) && decide (a.to < 9223372036854775808)
def okSb (s : State) : Bool := decide (s.out < 18446744073709551616) && decide (s.arcs.length < 1000) && s.arcs.all okAb
theorem okS_all (l : List State) (h : l.all okSb = true) : ∀ s ∈ l, okS s := by
  intro s hs
  have := List.all_eq_true.1 h s hs
  simp only [okSb, Bool.and_eq_true, decide_eq_true_eq] at this
  refine ⟨this.1.1, by have := this.1.2; omega, fun a ha => ?_⟩
  have h2 := List.all_eq_true.1 this.2 a ha
  simp only [okAb, Bool.and_eq_true, decide_eq_true_eq] at h2
  exact ⟨h2.1.1.1, h2.1.1.2, h2.1.2, h2.2⟩
theorem few_all (l : List State) (h : l.all okSb = true) : ∀ s ∈ l, s.arcs.length ≤ 1000 := by
  intro s hs
  have := List.all_eq_true.1 h s hs
  simp only [okSb, Bool.and_eq_true, decide_eq_true_eq] at this
  omega
theorem info_arcP : (Tryd.prog.info? 66).map (fun i => (i.zero, i.size, i.bytes)) = some (some (.agg #[.int .u8 0, .int .u64 0, .int .i64 0]), 3, 24) := by kernel_rfl
end Dw
end Go.Proofs.YtdkbgbdgmihlmaaDoor
