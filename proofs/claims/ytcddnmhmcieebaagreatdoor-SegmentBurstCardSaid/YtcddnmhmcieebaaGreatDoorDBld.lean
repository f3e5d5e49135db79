/- Dawg: the states along the last word, in memory. -/
import Derived.Test.YtcddnmhmcieebaaGreatDoorY4
import Derived.Test.YtcddnmhmcieebaaGreatDoorDLawP
import Derived.Test.YtcddnmhmcieebaaGreatDoorY5
namespace Go.Proofs.YtcddnmhmcieebaaGreatDoor
open Go.RowKit Go.Maps
set_option linter.unusedSimpArgs false
set_option linter.unusedVariables false
set_option linter.unnecessarySimpa false
namespace Dw
theorem own_take {w : World} {base n cap size b : Nat} {e : TypeId} {xs : List Value} (h : w.ownsRow base e size (.slice (some ⟨b, 0, none⟩) (n + 1) cap) (n + 1) xs) : w.ownsRow base e size (.slice (some ⟨b, 0, none⟩) n cap) n (xs.take (n * size)) := by
  rcases h.2 with ⟨h', _⟩ | ⟨b', cap', cur, h', hb, hg, hnc, hcm, hcs, htake⟩
  · simp at h'
  · simp only [Value.slice.injEq, Option.some.injEq, Addr.mk.injEq, and_true, true_and] at h'
    obtain ⟨rfl, rfl⟩ := h'
    have hl : n * size ≤ (n + 1) * size := Nat.mul_le_mul_right _ (by omega)
    refine ⟨by rw [List.length_take, h.1]; omega, .inr ⟨b, cap, cur, rfl, hb, hg, by omega, hcm, hcs, ?_⟩⟩
    rw [← htake, List.take_take, Nat.min_eq_left hl]
/-- two rows of different kinds lie in different blocks -/
theorem own_ne {w : World} {base base' n n' size size' : Nat} {e e' : TypeId} {v v' : Value} {xs xs' : List Value} (h : w.ownsRow base e size v n xs) (h' : w.ownsRow base' e' size' v' n' xs') (he : e ≠ e') {b : Nat} (hv : v.ownBlock = some b) : v'.ownBlock ≠ some b := by
  intro hv'
  rcases h.2 with ⟨rfl, _⟩ | ⟨g, cap, cur, rfl, _, h3, _⟩
  · cases hv
  rcases h'.2 with ⟨rfl, _⟩ | ⟨g', cap', cur', rfl, _, h3', _⟩
  · cases hv'
  injection hv with hv; injection hv' with hv'
  subst hv; subst hv'
  rw [h3] at h3'
  injection h3' with h3'
  injection h3' with _ h4
  exact he h4
def WCells (w : World) (base : Nat) (own : Nat → Nat) (cells : List Value) (W : List Open) : Prop := ∀ (i : Nat) (o : Open), W[i]? = some o → ∃ av, cells[i * 4]? = some av ∧ cells[i * 4 + 1]? = some (.bool o.st.final) ∧
  cells[i * 4 + 2]? = some (.int .u64 o.st.out) ∧ cells[i * 4 + 3]? = some (.int .u8 o.by_) ∧ OA w base av o.st.arcs ∧ ∀ k, av.ownBlock = some k → own k = 6 + i
/-- the builder: so many states more stand in the way's row than are told of -/
structure Bld (w : World) (base : Nat) (own : Nat → Nat) (g : Nat) (sv : Value) (mb : Nat) (ss : List State) (wv : Value) (j : Nat) (way : List Open) : Prop where
  reg : Reg w base own g 123 [wv] sv mb ss
  row : ∃ cells, w.ownsRow base 126 4 wv (way.length + j) cells ∧ (∀ k, wv.ownBlock = some k → own k = 5) ∧ WCells w base own cells way.reverse
section
variable {w w' : World} {base g mb j : Nat} {own own' : Nat → Nat} {sv wv : Value} {ss : List State} {way : List Open} {S : Nat → Prop}
theorem Bld.but (h : Bld w base own g sv mb ss wv j way) (hb : But S w w') (hS : ∀ k, S k → own k = 0 ∨ 6 + way.length ≤ own k) : Bld w' base own g sv mb ss wv j way := by
  obtain ⟨cells, h1, h2, h3⟩ := h.row
  refine ⟨h.reg.but hb (fun k hk => by have := hS k hk; omega), cells, own_but h1 hb (fun k hk hs => by have := hS k hs; have := h2 k hk; omega), h2, fun i o hi => ?_⟩
  obtain ⟨av, h4, h5, h6, h7, h8, h9⟩ := h3 i o hi
  have hil := (List.getElem?_eq_some_iff.1 hi).1
  rw [List.length_reverse] at hil
  exact ⟨av, h4, h5, h6, h7, own_but h8 hb (fun k hk hs => by have := hS k hs; have := h9 k hk; omega), h9⟩
theorem Bld.later (h : Bld w base own g sv mb ss wv j way) (hb : Below w.heap.size w w') : Bld w' base own g sv mb ss wv j way := h.but (But.of (fun _ => False) hb) (fun _ hf => hf.elim)
theorem Bld.told (h : Bld w base own g sv mb ss wv j way) (hlo : ∀ k, k < base → own' k = 4) (hk : ∀ k, k < w.heap.size → 1 ≤ own k → own k < 6 + way.length → own' k = own k) : Bld w base own' g sv mb ss wv j way := by
  obtain ⟨cells, h1, h2, h3⟩ := h.row
  refine ⟨h.reg.told hlo (fun k hlt h4 h5 => hk k hlt h4 (by omega)), cells, h1, fun k hk' => ?_, fun i o hi => ?_⟩
  · have := h2 k hk'; rw [hk k (h1.lt k hk').2 (by omega) (by omega)]; exact this
  · obtain ⟨av, h4, h5, h6, h7, h8, h9⟩ := h3 i o hi
    have hil := (List.getElem?_eq_some_iff.1 hi).1
    rw [List.length_reverse] at hil
    exact ⟨av, h4, h5, h6, h7, h8, fun k hk' => by have := h9 k hk'; rw [hk k (h8.lt k hk').2 (by omega) (by omega)]; exact this⟩
theorem Bld.forget {o : Open} (h : Bld w base own g sv mb ss wv j (o :: way)) : Bld w base own g sv mb ss wv (j + 1) way := by
  obtain ⟨cells, h1, h2, h3⟩ := h.row
  refine ⟨h.reg, cells, by rw [show way.length + (j + 1) = (o :: way).length + j by simp; omega]; exact h1, h2, fun i x hi => h3 i x ?_⟩
  rw [List.reverse_cons, List.getElem?_append_left (List.getElem?_eq_some_iff.1 hi).1]
  exact hi
/-- the last state of the way -/
theorem Bld.top {o : Open} (h : Bld w base own g sv mb ss wv 0 (o :: way)) : ∃ wb c av, wv = .slice (some ⟨wb, 0, none⟩) (way.length + 1) c ∧ way.length + 1 ≤ c ∧ own wb = 5 ∧ w.cell? ⟨wb, way.length * 4, none⟩ = some av ∧ w.cell? ⟨wb, way.length * 4 + 1, none⟩ = some (.bool o.st.final) ∧
    w.cell? ⟨wb, way.length * 4 + 2, none⟩ = some (.int .u64 o.st.out) ∧ w.cell? ⟨wb, way.length * 4 + 3, none⟩ = some (.int .u8 o.by_) ∧ OA w base av o.st.arcs ∧ ∀ k, av.ownBlock = some k → own k = 6 + way.length := by
  obtain ⟨cells, h1, h2, h3⟩ := h.row
  rcases h1.2 with ⟨_, h0⟩ | ⟨wb, c, cur, rfl, _, hh, hc, _⟩
  · simp at h0
  · simp only [List.length_cons, Nat.add_zero] at h1 hc
    obtain ⟨av, h4, h5, h6, h7, h8, h9⟩ := h3 way.length o (by rw [List.reverse_cons, List.getElem?_append_right (by simp)]; simp)
    have e : ∀ i, i < 4 → w.cell? ⟨wb, way.length * 4 + i, none⟩ = cells[way.length * 4 + i]? := fun i hi => h1.cellAt _ (by omega)
    refine ⟨wb, c, av, rfl, hc, h2 wb rfl, ?_, ?_, ?_, ?_, h8, h9⟩
    · rw [show way.length * 4 = way.length * 4 + 0 from rfl, e 0 (by omega)]; exact h4
    · rw [e 1 (by omega)]; exact h5
    · rw [e 2 (by omega)]; exact h6
    · rw [e 3 (by omega)]; exact h7
theorem Reg.set2 {t : TypeId} (h : Reg w base own g t [wv] sv mb ss) (u : Value) : Reg (w.setCell ⟨g, 2, none⟩ u) base own g t [u] sv mb ss := by
  obtain ⟨cells, h1, h2, h3⟩ := h.row
  have hb : But (fun k => k = g) w (w.setCell ⟨g, 2, none⟩ u) := But.setCell (S := fun k => k = g) rfl _
  have hog := h.og
  refine ⟨h.lo, ?_, h.og, h.om, map_but h.map hb (fun e => h.mb_ne e.symm), ⟨cells, own_but h1 hb (fun k hk e => by subst e; have := h2 _ hk; omega), h2, fun i s hi => ?_⟩, h.nodup, h.good⟩
  · rw [set_block h.box u]; rfl
  · obtain ⟨av, h4, h5, h6, h7⟩ := h3 i s hi
    exact ⟨av, h4, h5, h6, h7.but hb (fun k hk e => by subst e; omega)⟩
/-- the way is cut -/
theorem Bld.cut {wb n c : Nat} (h : Bld w base own g sv mb ss (.slice (some ⟨wb, 0, none⟩) n c) 1 way) (hn : n = way.length + 1) : Bld (w.setCell ⟨g, 2, none⟩ (.slice (some ⟨wb, 0, none⟩) way.length c)) base own g sv mb ss (.slice (some ⟨wb, 0, none⟩) way.length c) 0 way := by
  subst hn
  obtain ⟨cells, h1, h2, h3⟩ := h.row
  have hb : But (fun k => k = g) w (w.setCell ⟨g, 2, none⟩ (.slice (some ⟨wb, 0, none⟩) way.length c)) := But.setCell (S := fun k => k = g) rfl _
  have hog := h.reg.og
  refine ⟨h.reg.set2 _, _, own_but (own_take h1) hb (fun k hk e => by subst e; have := h2 _ hk; omega), h2, fun i o hi => ?_⟩
  obtain ⟨av, h4, h5, h6, h7, h8, h9⟩ := h3 i o hi
  have hil := (List.getElem?_eq_some_iff.1 hi).1
  rw [List.length_reverse] at hil
  exact ⟨av, by rw [List.getElem?_take_of_lt (by omega)]; exact h4, by rw [List.getElem?_take_of_lt (by omega)]; exact h5, by rw [List.getElem?_take_of_lt (by omega)]; exact h6, by rw [List.getElem?_take_of_lt (by omega)]; exact h7,
    own_but h8 hb (fun k hk e => by subst e; have := h9 _ hk; omega), h9⟩
/-- the last state told of again -/
theorem Bld.recall {wb n c : Nat} {o : Open} {av : Value} {cells : List Value} (hreg : Reg w base own g 123 [.slice (some ⟨wb, 0, none⟩) n c] sv mb ss) (hn : n = way.length + 1) (hrow : w.ownsRow base 126 4 (.slice (some ⟨wb, 0, none⟩) n c) n cells) (hwb : own wb = 5) (hW : WCells w base own cells way.reverse)
    (c0 : cells[way.length * 4]? = some av) (c1 : cells[way.length * 4 + 1]? = some (.bool o.st.final)) (c2 : cells[way.length * 4 + 2]? = some (.int .u64 o.st.out)) (c3 : cells[way.length * 4 + 3]? = some (.int .u8 o.by_))
    (hoa : OA w base av o.st.arcs) (hav : ∀ k, av.ownBlock = some k → own k = 6 + way.length) : Bld w base own g sv mb ss (.slice (some ⟨wb, 0, none⟩) n c) 0 (o :: way) := by
  subst hn
  refine ⟨hreg, cells, hrow, fun k hk => by injection hk with hk; subst hk; exact hwb, fun i x hi => ?_⟩
  by_cases hlt : i < way.length
  · exact hW i x (by rw [List.reverse_cons, List.getElem?_append_left (by simpa using hlt)] at hi; exact hi)
  · rw [List.reverse_cons, List.getElem?_append_right (by simpa using hlt)] at hi
    have hi0 : i - way.reverse.length = 0 := by
      have := (List.getElem?_eq_some_iff.1 hi).1
      simp at this ⊢
      omega
    rw [hi0] at hi
    injection hi with hi
    subst hi
    have hie : i = way.length := by simp at hi0 hlt; omega
    subst hie
    exact ⟨av, c0, c1, c2, c3, hoa, hav⟩
/-- a row of another kind gets its kind -/
theorem Reg.tell {t e' : TypeId} {xs : List Value} {v : Value} {n x size' : Nat} {cs : List Value} (h : Reg w base own g t xs sv mb ss) (hv : w.ownsRow base e' size' v n cs) (he : (46 : TypeId) ≠ e') (hk : ∀ b, v.ownBlock = some b → own b = 0 ∨ own b = 2 ∨ 5 ≤ own b) :
    Reg w base (fun b => if v.ownBlock = some b then x else own b) g t xs sv mb ss := by
  obtain ⟨cells, h1, h2, h3⟩ := h.row
  have e : ∀ b, v.ownBlock ≠ some b → (if v.ownBlock = some b then x else own b) = own b := fun b hb => if_neg hb
  refine ⟨fun k hk' => ?_, h.box, ?_, ?_, h.map, ⟨cells, h1, fun k hk' => ?_, fun i s hi => ?_⟩, h.nodup, h.good⟩
  · rw [e k (fun h4 => by have := (hv.lt k h4).1; omega)]; exact h.lo k hk'
  · show (if v.ownBlock = some g then x else own g) = 1; rw [e g (fun h4 => by have := hk g h4; have := h.og; omega)]; exact h.og
  · show (if v.ownBlock = some mb then x else own mb) = 3; rw [e mb (fun h4 => by have := hk mb h4; have := h.om; omega)]; exact h.om
  · show (if v.ownBlock = some k then x else own k) = 2; rw [e k (own_ne h1 hv he hk')]; exact h2 k hk'
  · obtain ⟨av, h4, h5, h6, h7⟩ := h3 i s hi
    exact ⟨av, h4, h5, h6, h7.more (fun k _ hk4 => by show (if v.ownBlock = some k then x else own k) = 4; rw [e k (fun h8 => by have := hk k h8; omega)]; exact hk4)⟩
theorem Bld.cell2 (h : Bld w base own g sv mb ss wv j way) : w.cell? ⟨g, 2, none⟩ = some wv := by rw [cell_of_row _ _ 2 _ 123 (0, 0) h.reg.box]; rfl
end
theorem Bld.closed {w2 w3 : World} {base g mb : Nat} {own4 ownF : Nat → Nat} {svr svF avu v : Value} {ssr ss2 : List State} {wb c : Nat} {up : Open} {rest : List Open} {a : Arc} {cells : List Value}
    (h4 : Bld w2 base own4 g svr mb ssr (.slice (some ⟨wb, 0, none⟩) (rest.length + 1) c) 0 (up :: rest)) (hA1 : ∀ k, k < w2.heap.size → ownF k = own4 k) (hA2 : ∀ k, w2.heap.size ≤ k → ownF k = 0 ∨ ownF k = 2)
    (hreg : Reg w3 base ownF g 123 [.slice (some ⟨wb, 0, none⟩) (rest.length + 1) c] svF mb ss2) (hv : w3.ownsRow base 71 3 v (up.st.arcs.length + 1) (acs up.st.arcs ++ a.cells))
    (hvb : v.ownBlock = avu.ownBlock ∨ ∃ k, v.ownBlock = some k ∧ w2.heap.size ≤ k) (havu : ∀ k, avu.ownBlock = some k → own4 k = 6 + rest.length ∧ k < w2.heap.size)
    (hrow2 : w2.ownsRow base 126 4 (.slice (some ⟨wb, 0, none⟩) (rest.length + 1) c) (rest.length + 1) cells) (hwb : own4 wb = 5) (hW : WCells w2 base own4 cells (up :: rest).reverse)
    (hrow3 : w3.ownsRow base 126 4 (.slice (some ⟨wb, 0, none⟩) (rest.length + 1) c) (rest.length + 1) (cells.set (rest.length * 4) v)) (hbt : But (fun k => (own4 k = 1 ∨ own4 k = 2 ∨ own4 k = 3) ∨ avu.ownBlock = some k ∨ k = wb) w2 w3) :
    Bld w3 base (fun b => if v.ownBlock = some b then 6 + rest.length else ownF b) g svF mb ss2 (.slice (some ⟨wb, 0, none⟩) (rest.length + 1) c) 0 (⟨⟨up.st.final, up.st.out, up.st.arcs ++ [a]⟩, up.by_⟩ :: rest) := by
  have hcl := hrow2.1
  have hwlt : wb < w2.heap.size := (hrow2.lt wb rfl).2
  have hvk : ∀ b, v.ownBlock = some b → (b < w2.heap.size ∧ own4 b = 6 + rest.length) ∨ w2.heap.size ≤ b := fun b hb => by
    rcases hvb with h | ⟨k, h, hk⟩
    · rw [hb] at h; have := havu b h.symm; exact .inl ⟨this.2, this.1⟩
    · rw [hb] at h; injection h with h; subst h; exact .inr hk
  have hne : ∀ b, b < w2.heap.size → own4 b ≠ 6 + rest.length → (if v.ownBlock = some b then 6 + rest.length else ownF b) = own4 b := fun b hb hn => by
    rw [if_neg (fun h => by rcases hvk b h with h | h; exact hn h.2; omega)]
    exact hA1 b hb
  refine Bld.recall (av := v) (hreg.tell hv (by decide) (fun b hb => ?_)) rfl hrow3 ?_ (fun i o hi => ?_) ?_ ?_ ?_ ?_ ?_ (fun k hk => if_pos hk)
  · rcases hvk b hb with h | h
    · rw [hA1 b h.1]; omega
    · have := hA2 b h; omega
  · rw [hne wb hwlt (by omega)]; exact hwb
  · have hil := (List.getElem?_eq_some_iff.1 hi).1
    rw [List.length_reverse] at hil
    obtain ⟨av, h1, h2, h3, h5, h6, h7⟩ := hW i o (by rw [List.reverse_cons, List.getElem?_append_left (by simpa using hil)]; exact hi)
    refine ⟨av, ?_, ?_, ?_, ?_, own_but h6 hbt (fun k hk hs => ?_), fun k hk => ?_⟩
    · rw [List.getElem?_set_ne (by omega)]; exact h1
    · rw [List.getElem?_set_ne (by omega)]; exact h2
    · rw [List.getElem?_set_ne (by omega)]; exact h3
    · rw [List.getElem?_set_ne (by omega)]; exact h5
    · have h8 := h7 k hk
      rcases hs with hs | hs | rfl
      · omega
      · have := (havu k hs).1; omega
      · omega
    · have h8 := h7 k hk
      rw [hne k (h6.lt k hk).2 (by omega)]; exact h8
  all_goals (obtain ⟨av, h1, h2, h3, h5, h6, h7⟩ := hW rest.length up (by rw [List.reverse_cons, List.getElem?_append_right (by simp)]; simp))
  · rw [List.getElem?_set_self (by omega)]
  · rw [List.getElem?_set_ne (by omega)]; exact h2
  · rw [List.getElem?_set_ne (by omega)]; exact h3
  · rw [List.getElem?_set_ne (by omega)]; exact h5
  · show w3.ownsRow base 71 3 v (up.st.arcs ++ [a]).length (acs (up.st.arcs ++ [a]))
    rw [List.length_append, acs_append]
    simpa [acs] using hv
/-- one state more is opened -/
theorem Bld.opened {w2 w3 : World} {base g mb x : Nat} {own : Nat → Nat} {sv wv v : Value} {ss : List State} {way : List Open} {cells : List Value}
    (h : Bld w2 base own g sv mb ss wv 0 way) (hrow2 : w2.ownsRow base 126 4 wv way.length cells) (hwb : ∀ k, wv.ownBlock = some k → own k = 5) (hW : WCells w2 base own cells way.reverse)
    (hge : ∀ k, w2.heap.size ≤ k → own k = 0) (hbox : w3.heap[g]? = some (.cells (sv :: .map (some mb) :: [v]).toArray 123 (0, 0))) (hbt : But (fun k => wv.ownBlock = some k ∨ k = g) w2 w3)
    (hv : w3.ownsRow base 126 4 v (way.length + 1) (cells ++ [.slice none 0 0, .bool false, .int .u64 0, .int .u8 x])) (hvb : v.ownBlock = wv.ownBlock ∨ ∃ k, v.ownBlock = some k ∧ w2.heap.size ≤ k) :
    Bld w3 base (fun b => if v.ownBlock = some b then 5 else own b) g sv mb ss v 0 (⟨zeroS, x⟩ :: way) := by
  have hcl := hrow2.1
  have hog := h.reg.og
  obtain ⟨sc, h1, h2, h3⟩ := h.reg.row
  have hreg : Reg w3 base own g 123 [v] sv mb ss := by
    refine ⟨h.reg.lo, hbox, h.reg.og, h.reg.om, map_but h.reg.map hbt (fun hs => ?_), ⟨sc, own_but h1 hbt (fun k hk hs => ?_), h2, fun i s hi => ?_⟩, h.reg.nodup, h.reg.good⟩
    · have := h.reg.om
      rcases hs with hs | hs
      · have := hwb mb hs; omega
      · exact h.reg.mb_ne hs.symm
    · have := h2 k hk
      rcases hs with hs | rfl
      · have := hwb k hs; omega
      · omega
    · obtain ⟨av, h4, h5, h6, h7⟩ := h3 i s hi
      refine ⟨av, h4, h5, h6, h7.but hbt (fun k hk hs => ?_)⟩
      rcases hs with hs | rfl
      · have := hwb k hs; omega
      · omega
  have hvk : ∀ b, v.ownBlock = some b → own b = 0 ∨ own b = 5 := fun b hb => by
    rcases hvb with h8 | ⟨k, h8, hk⟩
    · rw [hb] at h8; exact .inr (hwb b h8.symm)
    · rw [hb] at h8; injection h8 with h8; subst h8; exact .inl (hge b hk)
  have hne : ∀ b, 6 ≤ own b → (if v.ownBlock = some b then 5 else own b) = own b := fun b hb => if_neg (fun h8 => by have := hvk b h8; omega)
  refine ⟨hreg.tell hv (by decide) (fun b hb => by have := hvk b hb; omega), _, by simpa using hv, fun k hk => if_pos hk, fun i o hi => ?_⟩
  by_cases hlt : i < way.length
  · rw [List.reverse_cons, List.getElem?_append_left (by simpa using hlt)] at hi
    obtain ⟨av, h4, h5, h6, h7, h8, h9⟩ := hW i o hi
    refine ⟨av, ?_, ?_, ?_, ?_, own_but h8 hbt (fun k hk hs => ?_), fun k hk => ?_⟩
    · rw [List.getElem?_append_left (by omega)]; exact h4
    · rw [List.getElem?_append_left (by omega)]; exact h5
    · rw [List.getElem?_append_left (by omega)]; exact h6
    · rw [List.getElem?_append_left (by omega)]; exact h7
    · have := h9 k hk
      rcases hs with hs | rfl
      · have := hwb k hs; omega
      · omega
    · have := h9 k hk
      show (if v.ownBlock = some k then 5 else own k) = 6 + i
      rw [hne k (by omega)]; exact this
  · rw [List.reverse_cons, List.getElem?_append_right (by simpa using hlt)] at hi
    have hi0 : i - way.reverse.length = 0 := by
      have := (List.getElem?_eq_some_iff.1 hi).1
      simp at this ⊢
      omega
    rw [hi0] at hi
    injection hi with hi
    subst hi
    have hie : i = way.length := by simp at hi0 hlt; omega
    subst hie
    refine ⟨.slice none 0 0, ?_, ?_, ?_, ?_, OA.nil_ _ _, fun k hk => by cases hk⟩
    · rw [List.getElem?_append_right (by omega), hcl, Nat.sub_self]; rfl
    · rw [List.getElem?_append_right (by omega), hcl, show way.length * 4 + 1 - way.length * 4 = 1 by omega]; rfl
    · rw [List.getElem?_append_right (by omega), hcl, show way.length * 4 + 2 - way.length * 4 = 2 by omega]; rfl
    · rw [List.getElem?_append_right (by omega), hcl, show way.length * 4 + 3 - way.length * 4 = 3 by omega]; rfl
/-- the last state of the way gets its value -/
theorem Bld.marked {w : World} {base g mb wb n c x : Nat} {own : Nat → Nat} {sv : Value} {ss : List State} {o : Open} {way : List Open} (h : Bld w base own g sv mb ss (.slice (some ⟨wb, 0, none⟩) n c) 0 (o :: way)) (hn : n = way.length + 1) :
    Bld ((w.setCell ⟨wb, way.length * 4 + 1, none⟩ (.bool true)).setCell ⟨wb, way.length * 4 + 2, none⟩ (.int .u64 x)) base own g sv mb ss (.slice (some ⟨wb, 0, none⟩) n c) 0 (⟨⟨true, x, o.st.arcs⟩, o.by_⟩ :: way) := by
  subst hn
  obtain ⟨cells, h1, h2, h3⟩ := h.row
  have hwb := h2 wb rfl
  have hb : But (fun k => k = wb) w ((w.setCell ⟨wb, way.length * 4 + 1, none⟩ (.bool true)).setCell ⟨wb, way.length * 4 + 2, none⟩ (.int .u64 x)) := (But.setCell (S := fun k => k = wb) rfl _).trans (But.setCell (S := fun k => k = wb) rfl _)
  simp only [List.length_cons, Nat.add_zero] at h1
  have hr := ((h1.stored (way.length * 4 + 1) (.bool true)).1.stored (way.length * 4 + 2) (.int .u64 x)).1
  have hcl := h1.1
  refine Bld.recall (cells := (cells.set (way.length * 4 + 1) (.bool true)).set (way.length * 4 + 2) (.int .u64 x)) (av := (h3 way.length o (by rw [List.reverse_cons, List.getElem?_append_right (by simp)]; simp)).choose) (h.reg.but hb (fun k hk => by subst hk; omega)) rfl hr hwb (fun i p hi => ?_) ?_ ?_ ?_ ?_ ?_ ?_
  · have hil := (List.getElem?_eq_some_iff.1 hi).1
    rw [List.length_reverse] at hil
    obtain ⟨av, h4, h5, h6, h7, h8, h9⟩ := h3 i p (by rw [List.reverse_cons, List.getElem?_append_left (by simpa using hil)]; exact hi)
    refine ⟨av, ?_, ?_, ?_, ?_, own_but h8 hb (fun k hk hs => by subst hs; have := h9 _ hk; omega), h9⟩
    · rw [List.getElem?_set_ne (by omega), List.getElem?_set_ne (by omega)]; exact h4
    · rw [List.getElem?_set_ne (by omega), List.getElem?_set_ne (by omega)]; exact h5
    · rw [List.getElem?_set_ne (by omega), List.getElem?_set_ne (by omega)]; exact h6
    · rw [List.getElem?_set_ne (by omega), List.getElem?_set_ne (by omega)]; exact h7
  all_goals (have hch := (h3 way.length o (by rw [List.reverse_cons, List.getElem?_append_right (by simp)]; simp)).choose_spec; obtain ⟨h4, h5, h6, h7, h8, h9⟩ := hch)
  · rw [List.getElem?_set_ne (by omega), List.getElem?_set_ne (by omega)]; exact h4
  · rw [List.getElem?_set_ne (by omega), List.getElem?_set_self (by omega)]
  · rw [List.getElem?_set_self (by simp; omega)]
  · rw [List.getElem?_set_ne (by omega), List.getElem?_set_ne (by omega)]; exact h7
  · exact own_but h8 hb (fun k hk hs => by subst hs; have := h9 _ hk; omega)
  · exact h9
/-- a state of the way is as it may be -/
structure okO (N : Nat) (o : Open) : Prop where
  ok : okS o.st
  to : ∀ a ∈ o.st.arcs, 0 ≤ a.to
  few : o.st.arcs.length ≤ N
  by_ : o.by_ < 256
structure Bnd (N M : Nat) (ss : List State) (way : List Open) : Prop where
  tail : ∀ o ∈ way.tail, okO N o
  head : ∀ o, way.head? = some o → okO (N + 1) o
  size : ss.length + way.length ≤ M
theorem okO.more {N N' : Nat} {o : Open} (h : okO N o) (hn : N ≤ N') : okO N' o := ⟨h.ok, h.to, Nat.le_trans h.few hn, h.by_⟩
theorem less_ok {N n : Nat} {o : Open} (h : okO N o) (hN : N ≤ 256) : okK (less o.st n) := by
  refine ⟨⟨?_, by simp [less]; exact h.ok.2.1, fun a ha => ?_⟩, fun a ha => ?_, by simp [less]; have := h.few; omega⟩
  · simp only [less]
    have := h.ok.1
    split <;> omega
  · simp only [less, List.mem_map] at ha
    obtain ⟨x, hx, rfl⟩ := ha
    have := h.ok.2.2 x hx
    exact ⟨this.1, by have := this.2.1; simp only; omega, this.2.2⟩
  · simp only [less, List.mem_map] at ha
    obtain ⟨x, hx, rfl⟩ := ha
    exact h.to x hx
theorem finish_length (ss : List State) (s : State) : (finish ss s).1.length ≤ ss.length + 1 ∧ (finish ss s).2 ≤ ss.length := by
  by_cases h : s ∈ ss
  · obtain ⟨i, _, h2, h3⟩ := finish_found h
    rw [h3]; simp only; omega
  · rw [finish_new h]; simp
theorem Bnd.close1 {N M : Nat} {ss : List State} {o up : Open} {rest : List Open} (h : Bnd N M ss (o :: up :: rest)) (hM : M ≤ 1000000) (hN : N ≤ 200) : Bnd N M (close1 ss up o).1 ((close1 ss up o).2 :: rest) := by
  have ho := h.head o rfl
  have hu := h.tail up (List.mem_cons_self ..)
  have hf := finish_length ss (less o.st (leastOf o.st))
  have hs := h.size
  refine ⟨fun x hx => h.tail x (List.mem_cons_of_mem _ hx), fun x hx => ?_, ?_⟩
  · injection hx with hx
    subst hx
    refine ⟨⟨hu.ok.1, ?_, fun a ha => ?_⟩, fun a ha => ?_, ?_, hu.by_⟩
    · simp only [Dw.close1, List.length_append, List.length_cons, List.length_nil]; have := hu.few; omega
    · simp only [Dw.close1] at ha
      rcases List.mem_append.1 ha with ha | ha
      · exact hu.ok.2.2 a ha
      · simp at ha
        subst ha
        refine ⟨ho.by_, leastOf_lt ho.ok, by simp only; omega, ?_⟩
        simp only [List.length_cons] at hs ⊢
        omega
    · simp only [Dw.close1] at ha
      rcases List.mem_append.1 ha with ha | ha
      · exact hu.to a ha
      · simp at ha
        subst ha
        simp
    · simp only [Dw.close1, List.length_append, List.length_cons, List.length_nil]; have := hu.few; omega
  · simp only [Dw.close1, List.length_cons] at hs ⊢
    omega
theorem close_step1 {ss : List State} {o up : Open} {rest : List Open} {d : Nat} (h : d ≤ rest.length) : close ss (o :: up :: rest) d = close (close1 ss up o).1 ((close1 ss up o).2 :: rest) d := by
  unfold close
  simp only [List.length_cons]
  rw [show rest.length + 1 + 1 - (d + 1) = (rest.length + 1 - (d + 1)) + 1 by omega]
  rfl
theorem close_none {ss : List State} {way : List Open} {d : Nat} (h : way.length ≤ d + 1) : close ss way d = (ss, way) := by
  unfold close
  rw [show way.length - (d + 1) = 0 by omega, closeN_zero]
theorem Bnd.closeN {N M : Nat} (hM : M ≤ 1000000) (hN : N ≤ 200) : ∀ (n : Nat) (ss : List State) (way : List Open), Bnd N M ss way → Bnd N M (closeN n ss way).1 (closeN n ss way).2
  | 0, ss, way, h => by rw [closeN_zero]; exact h
  | n + 1, ss, [], h => by rw [closeN_short _ _ _ (by simp)]; exact h
  | n + 1, ss, [o], h => by rw [closeN_short _ _ _ (by simp)]; exact h
  | n + 1, ss, o :: up :: way, h => Bnd.closeN hM hN n _ _ (h.close1 hM hN)
/-- all states of the way alike -/
structure BndU (N M : Nat) (ss : List State) (way : List Open) : Prop where
  all : ∀ o ∈ way, okO N o
  size : ss.length + way.length ≤ M
theorem BndU.bnd {N M : Nat} {ss : List State} {way : List Open} (h : BndU N M ss way) : Bnd N M ss way :=
  ⟨fun o ho => h.all o (List.mem_of_mem_tail ho), fun o ho => (h.all o (List.mem_of_mem_head? ho)).more (by omega), h.size⟩
theorem Bnd.all {N M : Nat} {ss : List State} {way : List Open} (h : Bnd N M ss way) : BndU (N + 1) M ss way := by
  refine ⟨fun o ho => ?_, h.size⟩
  cases way with
  | nil => cases ho
  | cons x way =>
    rcases List.mem_cons.1 ho with rfl | ho
    · exact h.head _ rfl
    · exact (h.tail o ho).more (by omega)
theorem zero_okO (x : Nat) (hx : x < 256) : okO 0 ⟨zeroS, x⟩ := ⟨⟨by simp [zeroS], by simp [zeroS], by simp [zeroS]⟩, by simp [zeroS], by simp [zeroS], hx⟩
theorem BndU.opens {N : Nat} {ss : List State} : ∀ (l : List Nat) (way : List Open) (M : Nat), (∀ x ∈ l, x < 256) → BndU N M ss way → BndU N (M + l.length) ss (opens way l)
  | [], way, M, _, h => h
  | x :: l, way, M, hl, h => by
    have := BndU.opens (N := N) (ss := ss) l (⟨zeroS, x⟩ :: way) (M + 1) (fun y hy => hl y (List.mem_cons_of_mem _ hy)) ⟨fun o ho => by
      rcases List.mem_cons.1 ho with rfl | ho
      · exact (zero_okO x (hl x (List.mem_cons_self ..))).more (by omega)
      · exact h.all o ho, by have := h.size; simp only [List.length_cons]; omega⟩
    rw [List.length_cons, show M + (l.length + 1) = M + 1 + l.length by omega]
    exact this
theorem BndU.mark {N M v : Nat} {ss : List State} {way : List Open} (h : BndU N M ss way) (hv : v < 18446744073709551616) : BndU N M ss (mark v way) := by
  refine ⟨fun o ho => ?_, by rw [mark_length]; exact h.size⟩
  cases way with
  | nil => cases ho
  | cons x way =>
    rcases List.mem_cons.1 ho with rfl | ho
    · have := h.all x (List.mem_cons_self ..)
      exact ⟨⟨hv, this.ok.2⟩, this.to, this.few, this.by_⟩
    · exact h.all o (List.mem_cons_of_mem _ ho)
theorem BndU.add {N M : Nat} {ss : List State} {way : List Open} {last : List Nat} {e : Wv} (h : BndU N M ss way) (hM : M ≤ 1000000) (hN : N ≤ 200) (he : ∀ x ∈ e.1, x < 256) (hv : e.2 < 18446744073709551616) :
    BndU (N + 1) (M + e.1.length) (add (ss, way) last e).1 (add (ss, way) last e).2 := by
  have h1 := (Bnd.closeN hM hN (way.length - (shared last e.1 + 1)) ss way h.bnd).all
  have h2 := BndU.opens (e.1.drop (shared last e.1)) _ _ (fun x hx => he x (List.mem_of_mem_drop hx)) h1
  have h3 := h2.mark hv
  refine ⟨h3.all, ?_⟩
  have := h3.size
  rw [List.length_drop] at this
  show _ ≤ M + e.1.length
  unfold Dw.add
  simp only [close] at *
  omega
end Dw
end Go.Proofs.YtcddnmhmcieebaaGreatDoor
