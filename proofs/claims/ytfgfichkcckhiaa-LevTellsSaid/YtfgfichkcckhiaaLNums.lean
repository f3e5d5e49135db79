/- Lev: rows of numbers, as dist makes them. -/
import Derived.Test.YtfgfichkcckhiaaLTable
import Derived.Laws.MakeOwn
namespace Go.Proofs.Ytfgfichkcckhiaa
open Go.RowKit
set_option linter.unusedSimpArgs false
set_option linter.unusedVariables false
namespace Lv
theorem make58 (n : Nat) (hn : n ≤ 1000) (w : World) : (Instr.makeSlice 58 (.int .i64 (n : Int)) (.int .i64 (n : Int))).run Try.prog w = .ok (.slice (some ⟨w.heap.size, 0, none⟩) n n) (w.alloc (.cells (madeCells #[.int .i64 0] n) 3)) := by
  obtain ⟨i0, hi, hz0, hz1, hz2⟩ := info_parts info3
  have hr := run_make (P := Try.prog) (w := w) 58 3 i0 _ Try.underlying58 hi hz0 .i64 .i64 (n : Int) (n : Int) (by omega) (by omega) (by rw [hz2]; omega) (by omega)
  simp only [Int.toNat_natCast, hz1, Nat.mul_one] at hr
  exact hr
/-- a slice reads as so many numbers -/
def Rd (w : World) (v : Value) (n : Nat) (r : Nat → Nat) : Prop := ∃ g c, v = .slice (some ⟨g, 0, none⟩) n c ∧ ∀ i, i < n → w.cell? ⟨g, i, none⟩ = some (.int .i64 (r i : Nat))
theorem Rd.later {w w' : World} {v : Value} {n : Nat} {r : Nat → Nat} (h : Rd w v n r) (hb : Below w.heap.size w w') : Rd w' v n r := by
  obtain ⟨g, c, h1, h2⟩ := h
  exact ⟨g, c, h1, fun i hi => cell_later hb (h2 i hi)⟩
theorem Rd.congr {w : World} {v : Value} {n : Nat} {r s : Nat → Nat} (h : Rd w v n r) (hrs : ∀ i, i < n → r i = s i) : Rd w v n s := by
  obtain ⟨g, c, h1, h2⟩ := h
  exact ⟨g, c, h1, fun i hi => by rw [← hrs i hi]; exact h2 i hi⟩
/-- a fresh row of which the first numbers are laid -/
def Upto (w : World) (g n i : Nat) : Prop := ∃ cs, w.heap[g]? = some (.cells cs 3 (0, 0)) ∧ cs.size = n ∧ (∀ j, j < i → cs[j]? = some (.int .i64 (j : Nat))) ∧ ∀ j, i ≤ j → j < n → cs[j]? = some (.int .i64 0)
theorem Upto.start (w : World) (n : Nat) : Upto (w.alloc (.cells (madeCells #[.int .i64 0] n) 3)) w.heap.size n 0 :=
  ⟨_, heap_alloc_new w _, size_madeCells _ _, fun j hj => absurd hj (Nat.not_lt_zero _), fun j _ hj => by
    rw [← Array.getElem?_toList, toList_madeCells_one, List.getElem?_replicate, if_pos hj]⟩
theorem Upto.cell {w : World} {g n i : Nat} (h : Upto w g n i) (hi : i < n) : w.cell? ⟨g, i, none⟩ = some (.int .i64 0) ∧ w.frozen? ⟨g, i, none⟩ = false := by
  obtain ⟨cs, h1, h2, h3, h4⟩ := h
  exact ⟨by rw [cell_of_row w g i cs 3 (0, 0) h1]; exact h4 i (Nat.le_refl _) hi, by simp [World.frozen?, h1]⟩
theorem Upto.put {w : World} {g n i : Nat} (h : Upto w g n i) (hi : i < n) : Upto (w.setCell ⟨g, i, none⟩ (.int .i64 (i : Nat))) g n (i + 1) := by
  obtain ⟨cs, h1, h2, h3, h4⟩ := h
  refine ⟨cs.setIfInBounds i (.int .i64 (i : Nat)), by simp [World.setCell, Array.getElem?_modify, h1], by simpa using h2, fun j hj => ?_, fun j hj hjn => ?_⟩
  · by_cases hij : i = j
    · subst hij; simp [h2, hi]
    · rw [Array.getElem?_setIfInBounds_ne hij]; exact h3 j (by omega)
  · rw [Array.getElem?_setIfInBounds_ne (by omega)]; exact h4 j (by omega) hjn
theorem Upto.rd {w : World} {g n c : Nat} (h : Upto w g n n) : Rd w (.slice (some ⟨g, 0, none⟩) n c) n (fun i => i) := by
  obtain ⟨cs, h1, h2, h3, h4⟩ := h
  exact ⟨g, c, rfl, fun i hi => by rw [cell_of_row w g i cs 3 (0, 0) h1]; exact h3 i hi⟩
theorem fold_step {x : Nat} {l : List Nat} {i u : Nat} (h : l[i]? = some u) : (l.take (i + 1)).foldl min x = min ((l.take i).foldl min x) u := by
  rw [List.take_add_one, h]; simp [List.foldl_append]
theorem two_cells (w : World) (y z : Nat) : ∀ (i u : Nat), [y, z][i]? = some u → (w.alloc (.cells #[.int .i64 (y : Int), .int .i64 (z : Int)] 3)).cell? ⟨w.heap.size, i, none⟩ = some (.int .i64 (u : Int)) := fun i u h => by
  rw [cell_of_row _ _ i _ 3 (0, 0) (heap_alloc_new w _)]
  match i, h with
  | 0, h => injection h with h; subst h; rfl
  | 1, h => injection h with h; subst h; rfl
/-- the first numbers of a row behind one byte more -/
def nxs (q : ByteArray) (c : Nat) (r : Nat → Nat) (n : Nat) : List Nat := (List.range n).map (nx q c r)
theorem nxs_length (q : ByteArray) (c : Nat) (r : Nat → Nat) (n : Nat) : (nxs q c r n).length = n := by simp [nxs]
theorem nxs_succ (q : ByteArray) (c : Nat) (r : Nat → Nat) (n : Nat) : nxs q c r (n + 1) = nxs q c r n ++ [nx q c r n] := by simp [nxs, List.range_succ]
theorem nxs_one (q : ByteArray) (c : Nat) (r : Nat → Nat) : nxs q c r 1 = [r 0 + 1] := rfl
theorem nxs_get {q : ByteArray} {c : Nat} {r : Nat → Nat} {n i : Nat} (h : i < n) : (nxs q c r n)[i]? = some (nx q c r i) := by simp [nxs, h]
theorem nx_s (q : ByteArray) (c : Nat) (r : Nat → Nat) (m : Nat) : nx q c r (m + 1) = if at_ q m = c then r m else 1 + min (min (r m) (r (m + 1))) (nx q c r m) := rfl
theorem nx_le {q : ByteArray} {c : Nat} {r : Nat → Nat} {N : Nat} (h : ∀ i, r i ≤ N) : ∀ i, nx q c r i ≤ N + 1
  | 0 => by rw [nx]; have := h 0; omega
  | i + 1 => by
    rw [nx]
    have := h i; have := h (i + 1)
    split <;> omega
theorem R_le (q t : ByteArray) (n : Nat) : ∀ j i, i ≤ n → R q t j i ≤ n + j
  | 0, i, h => by rw [R_0]; omega
  | j + 1, i, h => by have := (R_next q t j i).1; have := R_le q t n j i h; omega
/-- the cells of a row that is owned -/
theorem OI.rd {w : World} {base : Nat} {v : Value} {q : ByteArray} {c n : Nat} {r : Nat → Nat} (h : OI w base v (nxs q c r n)) (h0 : 0 < n) : Rd w v n (nx q c r) := by
  rcases OI.form h with ⟨_, h2⟩ | ⟨g, cap, h1, h2, h3, h4, h5⟩
  · have := nxs_length q c r n; rw [h2] at this; simp at this; omega
  · rw [nxs_length] at h1
    exact ⟨g, cap, h1, fun i hi => h5 i _ (nxs_get hi)⟩
theorem OI.one (w : World) (x : Nat) : OI (w.alloc (.cells #[.int .i64 (x : Int)] 3)) w.heap.size (.slice (some ⟨w.heap.size, 0, none⟩) 1 1) [x] :=
  ⟨by simp, .inr ⟨w.heap.size, 1, _, rfl, Nat.le_refl _, heap_alloc_new w _, by simp, by unfold maxLen; omega, by simp, by simp⟩⟩
/-- append of one number, at an operation -/
theorem wp_app3 {o : Oper} {a : Act} {w : World} {K : Act → World → Prop} {Q : Exit → Act → World → Prop} (s y : Operand) (ho : o.op = .call { callee := .builtin .append, args := #[s, y], argTypes := #[58, 58] }) (hty : o.type = 58)
    (base : Nat) (v : Value) (l : List Nat) (x : Nat) (hs : a.eval s = v) (hown : OI w base v l) (b : Nat) (hx : a.eval y = .slice (some ⟨b, 0, none⟩) 1 1) (hcell : w.cell? ⟨b, 0, none⟩ = some (.int .i64 (x : Int))) (hl : l.length ≤ 1000000) (hbase : base ≤ w.heap.size)
    (h : ∀ v' w', OI w' base v' (l ++ [x]) → w.grownBy w' v.ownBlock → Below base w w' → K (a.put o.dst v') w') : Oper.wp Try.prog o a w K Q := by
  obtain ⟨i0, hi, hz0, hz1, hz2⟩ := info_parts info3
  obtain ⟨v', w', h1, h2, h3, h4⟩ := run_append_own (P := Try.prog) w base 58 58 3 i0 (.int .i64 0) 1 8 Try.underlying58 hi hz0 hz1 hz2 rfl (by decide) v l.length _ hown ⟨b, 0, none⟩ 1 1 [.int .i64 (x : Int)] rfl (by
    intro j u hj
    match j, hj with
    | 0, hj => simp at hj; subst hj; simpa [Addr.add] using hcell) (by intro u hu; simp at hu; subst hu; rfl) (by unfold maxLen; omega) (by omega) (by omega)
  unfold Oper.wp execOp
  simp only [ho, resolve, invoke, builtin, Sem.run_bind, Sem.run_pure, Result.andThen_ok, List.map_toArray, List.map_cons, List.map_nil, hs, hx, hty, h1]
  exact h v' w' (by show w'.ownsRow _ _ _ _ _ _; simpa using h2) h3 ((Below.refl base w).grown h3 hbase (fun k hk => (hown.lt k hk).1))
/-- the block of an owned row is of its type -/
theorem OI.other {w : World} {base : Nat} {v vn : Value} {l : List Nat} {k : Nat} (h : OI w base v l) (hk : w.heap[k]? = some (.cells #[vn] 58 (0, 0))) : v.ownBlock ≠ some k := by
  intro e
  rcases h.2 with ⟨h1, _⟩ | ⟨g, cap, cur, h1, _, h3, _⟩
  · rw [h1] at e; cases e
  · rw [h1] at e
    injection e with e
    subst e
    rw [hk] at h3
    injection h3 with h3
    injection h3 with _ h4
    cases h4
theorem OI.slice {w : World} {base : Nat} {v : Value} {l : List Nat} (h : OI w base v l) : ∃ A n c, v = .slice A n c := by
  rcases OI.form h with ⟨h1, _⟩ | ⟨g, cap, h1, _⟩
  · exact ⟨_, _, _, h1⟩
  · exact ⟨_, _, _, h1⟩
/-- a box that holds a row's slice -/
def Bx (w : World) (k : Nat) (v : Value) : Prop := w.heap[k]? = some (.cells #[v] 58 (0, 0))
theorem Bx.cell {w : World} {k : Nat} {v : Value} (h : Bx w k v) : w.cell? ⟨k, 0, none⟩ = some v ∧ w.frozen? ⟨k, 0, none⟩ = false :=
  ⟨cell_of_row _ _ 0 _ 58 (0, 0) h, by simp [World.frozen?, show w.heap[k]? = _ from h]⟩
theorem Bx.later {w w' : World} {k : Nat} {v : Value} (h : Bx w k v) (hb : Below w.heap.size w w') : Bx w' k v := (hb.block k (Array.getElem?_eq_some_iff.1 h).1).trans h
theorem Bx.grown {w w' : World} {k : Nat} {v : Value} {r : Option Nat} (h : Bx w k v) (hg : w.grownBy w' r) (hr : r ≠ some k) : Bx w' k v := (hg.block k (Array.getElem?_eq_some_iff.1 h).1 (fun e => hr e.symm)).trans h
theorem Bx.put {w : World} {k : Nat} {v u : Value} (h : Bx w k v) : Bx (w.setCell ⟨k, 0, none⟩ u) k u := by
  unfold Bx at h ⊢
  simp [World.setCell, Array.getElem?_modify, h]
theorem OI.put {w : World} {base : Nat} {v vn u : Value} {l : List Nat} {k : Nat} (h : OI w base v l) (hk : Bx w k vn) : OI (w.setCell ⟨k, 0, none⟩ u) base v l := by
  refine ⟨h.1, ?_⟩
  rcases h.2 with h1 | ⟨g, cap, cur, h1, h2, h3, h4⟩
  · exact .inl h1
  · refine .inr ⟨g, cap, cur, h1, h2, ?_, h4⟩
    rw [Below.heap_setCell _ _ _ _ (fun e => ?_)]
    · exact h3
    · have e : g = k := e
      subst e
      rw [show w.heap[g]? = _ from hk] at h3
      injection h3 with h3
      injection h3 with _ h4
      cases h4
/-- what the append of a number has left -/
def PApp (W1 : World) (g0 t7 : Nat) (vn : Value) (l : List Nat) : Stab.Pr := fun v w2 => OI w2 g0 v l ∧ Bx w2 t7 vn ∧ Below g0 W1 w2
theorem PApp.stable (W1 : World) (g0 t7 : Nat) (vn : Value) (l : List Nat) (hg : g0 ≤ W1.heap.size) : Stab.Stable (PApp W1 g0 t7 vn l) := fun v w w' hb ⟨h1, h2, h3⟩ => ⟨own_later h1 hb, h2.later hb, h3.trans (hb.mono (Nat.le_trans hg h3.size))⟩
def PPut (W1 : World) (g0 t7 : Nat) (l : List Nat) : Stab.Pr := fun _ w2 => ∃ v, OI w2 g0 v l ∧ Bx w2 t7 v ∧ Below g0 W1 w2
theorem PPut.stable (W1 : World) (g0 t7 : Nat) (l : List Nat) (hg : g0 ≤ W1.heap.size) : Stab.Stable (PPut W1 g0 t7 l) := fun _ w w' hb ⟨v, h1, h2, h3⟩ => ⟨v, own_later h1 hb, h2.later hb, h3.trans (hb.mono (Nat.le_trans hg h3.size))⟩
def POne (x : Nat) : Stab.Pr := fun v w => ∃ b, v = .slice (some ⟨b, 0, none⟩) 1 1 ∧ w.cell? ⟨b, 0, none⟩ = some (.int .i64 (x : Int))
theorem POne.stable (x : Nat) : Stab.Stable (POne x) := fun v w w' hb ⟨b, h1, h2⟩ => ⟨b, h1, cell_later hb h2⟩
theorem one_cell (w : World) (x : Nat) : (w.alloc (.cells #[.int .i64 (x : Int)] 3)).cell? ⟨w.heap.size, 0, none⟩ = some (.int .i64 (x : Int)) := cell_of_row _ _ 0 _ 3 (0, 0) (heap_alloc_new w _)
theorem cell_lt0 {w : World} {p : Addr} {v : Value} (h : w.cell? p = some v) : p.block < w.heap.size := by
  unfold World.cell? at h
  rcases Nat.lt_or_ge p.block w.heap.size with hlt | hge
  · exact hlt
  · rw [Array.getElem?_eq_none hge] at h; cases h
theorem old_cell {w w' : World} {B : Nat} {p : Addr} {v : Value} (hb : Below B w w') (h : w.cell? p = some v) (hp : p.block < B) : w'.cell? p = some v := (hb.cell hp).trans h
end Lv
end Go.Proofs.Ytfgfichkcckhiaa
