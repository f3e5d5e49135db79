/- rank.Sort: what slices.SortFunc makes of a row of hits that the call owns. -/
import Derived.Test.YtjpgcfcacfhmiaaCount2
import Derived.Test.YtjpgcfcacfhmiaaShelf
import Derived.Sort.OwnSorted
namespace Go.Proofs.Ytjpgcfcacfhmiaa
open Go.RowKit
set_option linter.unusedSimpArgs false
set_option linter.unusedVariables false
set_option linter.unnecessarySimpa false

/-! ### the order is whole -/
theorem lt_def (a b : Hit) : lessH a b = true ↔ a.dist < b.dist ∨ (a.dist = b.dist ∧ (b.weight < a.weight ∨ (a.weight = b.weight ∧ (bl a.word.toList b.word.toList = true ∨ (a.word.toList = b.word.toList ∧ a.gone = false ∧ b.gone = true))))) := by
  rw [less_ref]
  unfold refLess
  by_cases h1 : a.dist = b.dist
  · rw [if_neg (by simpa using h1)]
    by_cases h2 : a.weight = b.weight
    · rw [if_neg (by simpa using h2)]
      by_cases h3 : a.word.toList = b.word.toList
      · rw [if_neg (by simpa using h3), h3, bl_irrefl]
        simp [h1, h2]
      · rw [if_pos h3]
        simp [h1, h2, h3]
    · rw [if_pos h2]
      simp only [decide_eq_true_iff]
      constructor
      · intro h; exact .inr ⟨h1, .inl h⟩
      · rintro (h | ⟨_, h | ⟨h, _⟩⟩)
        · omega
        · exact h
        · exact absurd h h2
  · rw [if_pos h1]
    simp only [decide_eq_true_iff]
    constructor
    · exact .inl
    · rintro (h | ⟨h, _⟩)
      · exact h
      · exact absurd h h1
theorem lt_irrefl (a : Hit) : lessH a a = false := by
  cases h : lessH a a with
  | false => rfl
  | true =>
    rw [lt_def] at h
    rw [bl_irrefl] at h
    rcases h with h | ⟨_, h | ⟨_, h | ⟨_, h1, h2⟩⟩⟩
    · omega
    · omega
    · cases h
    · rw [h1] at h2; cases h2
theorem lt_trans {a b c : Hit} (h : lessH a b = true) (k : lessH b c = true) : lessH a c = true := by
  rw [lt_def] at *
  rcases h with h | ⟨e, h⟩
  · rcases k with k | ⟨f, k⟩
    · exact .inl (by omega)
    · exact .inl (by omega)
  · rcases k with k | ⟨f, k⟩
    · exact .inl (by omega)
    · refine .inr ⟨by omega, ?_⟩
      rcases h with h | ⟨e2, h⟩
      · rcases k with k | ⟨f2, k⟩
        · exact .inl (by omega)
        · exact .inl (by omega)
      · rcases k with k | ⟨f2, k⟩
        · exact .inl (by omega)
        · refine .inr ⟨by omega, ?_⟩
          rcases h with h | ⟨e3, h1, h2⟩
          · rcases k with k | ⟨f3, _, _⟩
            · exact .inl (bl_trans h k)
            · exact .inl (f3 ▸ h)
          · rcases k with k | ⟨f3, k1, k2⟩
            · exact .inl (e3 ▸ k)
            · rw [h2] at k1; cases k1
theorem lt_total {a b : Hit} (h : lessH a b = false) (k : lessH b a = false) : a = b := by
  have h' : ¬ (lessH a b = true) := by rw [h]; decide
  have k' : ¬ (lessH b a = true) := by rw [k]; decide
  rw [lt_def] at h' k'
  simp only [not_or, not_and] at h' k'
  obtain ⟨h1, h2⟩ := h'
  obtain ⟨k1, k2⟩ := k'
  have e1 : a.dist = b.dist := by omega
  obtain ⟨h3, h4⟩ := h2 e1
  obtain ⟨k3, k4⟩ := k2 e1.symm
  have e2 : a.weight = b.weight := by omega
  obtain ⟨h5, h6⟩ := h4 e2
  obtain ⟨k5, k6⟩ := k4 e2.symm
  have e3 : a.word.toList = b.word.toList := by
    rcases bl_tri a.word.toList b.word.toList with g | g | g
    · exact absurd g h5
    · exact g
    · exact absurd g k5
  have e4 : a.gone = b.gone := by
    have g1 := h6 e3
    have g2 := k6 e3.symm
    cases ha : a.gone <;> cases hb : b.gone <;> simp_all
  exact eqH_iff.1 (by unfold eqH; simp [e1, e2, e3, e4])
theorem lt_ntrans {a b c : Hit} (h : lessH a b = false) (k : lessH b c = false) : lessH a c = false := by
  cases hc : lessH a c with
  | false => rfl
  | true =>
    cases hb : lessH b a with
    | false => rw [lt_total h hb] at hc; rw [hc] at k; cases k
    | true =>
      have := lt_trans hb hc
      rw [this] at k; cases k
theorem swo : Sort.SWO (ltOf cmpH) where
  irrefl := lt_irrefl
  trans _ _ _ := lt_trans
  ntrans _ _ _ := lt_ntrans

/-! ### a row of the call's own, sorted in its place -/
instance : Inhabited Hit := ⟨⟨⟨#[]⟩, 0, false, 0⟩⟩
theorem flatK_hcs (es : List Hit) : Sort.flatK Hit.cells 4 es.toArray = (hcs es).toArray := by
  apply Array.ext
  · simp [hcs_length]
  · intro t h1 h2
    have hlt : t < es.length * 4 := by simpa using h1
    have e1 := Sort.get_flatK Hit.cells 4 es.toArray t (by simpa using hlt)
    rw [getElem!_pos _ t h1] at e1
    rw [e1]
    have hi : t / 4 < es.length := by omega
    have h3 := hcs_get es (t / 4) (t % 4) hi (by omega)
    have ht : t / 4 * 4 + t % 4 = t := by omega
    rw [ht] at h3
    have h4 : es.toArray[t / 4]! = es[t / 4] := by simp [hi]
    rw [h4]
    have h5 : (hcs es).toArray[t]? = some ((hcs es).toArray[t]'h2) := Array.getElem?_eq_getElem h2
    have h6 : (hcs es)[t]? = some ((hcs es).toArray[t]'h2) := by simpa using h5
    rw [h3] at h6
    have h7 : t % 4 < (es[t / 4]).cells.length := by simp [Hit.cells]; omega
    rw [List.getElem?_eq_getElem h7] at h6
    injection h6 with h6
    rw [getElem!_pos (es[t / 4]).cells (t % 4) h7]
    exact h6
theorem holds_hits {w : World} {g : Nat} {cur : Array Value} {es : List Hit} (hb : w.heap[g]? = some (.cells cur 26 (0, 0))) (ht : cur.toList.take (es.length * 4) = hcs es) : Sort.HoldsK Hit.cells 4 w g 0 es.toArray := by
  unfold Sort.HoldsK
  rw [flatK_hcs]
  intro j hj
  have hj' : j < (hcs es).length := by simpa using hj
  refine ⟨?_, by simp [World.frozen?, hb]⟩
  have hl := hcs_length es
  have h1 : (cur.toList.take (es.length * 4))[j]? = (hcs es)[j]? := by rw [ht]
  rw [List.getElem?_take_of_lt (by omega)] at h1
  simp only [World.cell?, hb, Nat.zero_add]
  simp only [Option.isSome_none, Bool.false_eq_true, if_false]
  rw [← Array.getElem?_toList, h1, List.getElem?_eq_getElem hj']
  simp [hj']
theorem heap_sortK {w : World} {g n : Nat} {os : Array Obj} {cur : Array Value} {e : TypeId} {fr : Nat × Nat} (d : Array Value) (hb : w.heap[g]? = some (.cells cur e fr)) :
    (Sort.grow (Sort.putRow id (Sort.ahead w n) g 0 d) os).heap[g]? = some (.cells (Sort.putCells id 0 d cur) e fr) := by
  have hg : g < w.heap.size := (Array.getElem?_eq_some_iff.1 hb).1
  rw [Sort.heap_grow_old _ _ (by simpa using hg)]
  simp [Sort.putRow, Sort.mapBlock, Sort.ahead, Array.getElem?_modify, hb, Sort.onCells]
theorem grownBy_sortK {w : World} {g n : Nat} {os : Array Obj} (d : Array Value) : w.grownBy (Sort.grow (Sort.putRow id (Sort.ahead w n) g 0 d) os) (some g) := by
  refine ⟨rfl, rfl, rfl, by simp, fun k hk hne => ?_⟩
  rw [Sort.heap_grow_old _ _ (by simpa using hk)]
  have : g ≠ k := fun e => hne (by rw [e])
  simp [Sort.putRow, Sort.mapBlock, Sort.ahead, Array.getElem?_modify, this]
theorem take_putK (cur : Array Value) (ts : List Value) (h : ts.length ≤ cur.size) : (Sort.putCells id 0 ts.toArray cur).toList.take ts.length = ts := by
  apply List.ext_getElem?
  intro j
  by_cases hj : j < ts.length
  · rw [List.getElem?_take_of_lt hj, Array.getElem?_toList]
    simp [Sort.putCells, hj, show j < cur.size by omega]
  · rw [List.getElem?_take_eq_none (by omega), List.getElem?_eq_none (by omega)]
/-- hits in order -/
def sortH (es : List Hit) : List Hit := es.mergeSort fun x y => !lessH y x
theorem sortH_perm (es : List Hit) : (sortH es).Perm es := List.mergeSort_perm _ _
theorem sortH_length (es : List Hit) : (sortH es).length = es.length := (sortH_perm es).length_eq
theorem sort24 (B : Nat) (v : Value) (es : List Hit) (w : World) (hown : OHs w B v es) (hl : es.length ≤ 1000000) (hB : B ≤ w.heap.size) :
    Calls Try.prog 24 #[v, .func (.func 23) #[] #[]] w fun e w' => e = .returned (.tuple #[]) ∧ OHs w' B v (sortH es) ∧ Below B w w' := by
  rcases hown.2 with ⟨rfl, h0⟩ | ⟨g, cap, cur, rfl, hBg, hh, hcap, hmax, hsz, htk⟩
  · obtain rfl : es = [] := List.eq_nil_of_length_eq_zero h0
    have h := AnyF.slices_SortFunc_none sortHit none 0 (.func (.func 23) #[] #[]) w
    change Calls Try.prog 24 _ _ _ at h
    refine h.mono fun e w' ⟨he, hw⟩ => ?_
    subst hw
    exact ⟨he, by rw [show sortH [] = [] by simp [sortH]]; exact hown, (Below.refl _ _)⟩
  · have hg : g < w.heap.size := (Array.getElem?_eq_some_iff.1 hh).1
    have eg : ∀ args w, (callFunc 23 args).run Try.prog w = .ok (.enter 23 args) w := enters_of Try.func23 (by kernel_rfl) rfl
    have h := AnyQ.slices_SortFunc_total sortHit 4 (fun w => by kernel_rfl) (fun w => by kernel_rfl) Hit.cells (fun _ => rfl) (fun x u hu => by simp [Hit.cells] at hu; rcases hu with rfl | rfl | rfl | rfl <;> rfl) cmpH swo 23 #[] g 0 cap es.toArray w eg
      (fun m os dk _ x y => order23 x y _) (holds_hits hh htk) hg (by simp; omega) (fun x y h1 h2 => lt_total h1 h2)
    change Calls Try.prog 24 _ _ _ at h
    rw [show es.toArray.size = es.length by simp] at h
    refine h.mono fun e w' ⟨he, n, os, hw⟩ => ?_
    have hw' : w' = Sort.grow (Sort.putRow id (Sort.ahead w n) g 0 (hcs (sortH es)).toArray) os := by
      rw [hw]
      unfold sortWorldK Sort.putRowK
      rw [show (es.toArray.toList.mergeSort fun x y => !(ltOf cmpH) y x) = sortH es from rfl, flatK_hcs]
    clear hw h
    subst hw'
    refine ⟨he, ?_, ?_⟩
    · refine ⟨by rw [hcs_length], .inr ⟨g, cap, _, by rw [sortH_length], hBg, heap_sortK _ hh, by rw [sortH_length]; exact hcap, hmax, by simp [Sort.putCells, hsz], ?_⟩⟩
      have h1 : (hcs (sortH es)).length = (sortH es).length * 4 := hcs_length _
      have h2 := take_putK cur (hcs (sortH es)) (by rw [h1, sortH_length, hsz]; exact Nat.mul_le_mul_right 4 hcap)
      rw [h1] at h2
      exact h2
    · exact (Below.refl B w).grown (grownBy_sortK _) hB (fun k hk => by cases hk; exact hBg)
end Go.Proofs.Ytjpgcfcacfhmiaa
