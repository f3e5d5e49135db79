/- append of a text to a row of bytes of the call's own; a writer (bytes that are laid). -/
import Derived.Test.YtdkbgbdgmihlmaaGreatDoorQB
import Derived.Test.YtdkbgbdgmihlmaaGreatDoorPVary
import Derived.Lib.AppendStr
namespace Go.Proofs.YtdkbgbdgmihlmaaGreatDoor
open Go.RowKit
set_option linter.unusedSimpArgs false
set_option linter.unusedVariables false
set_option linter.unnecessarySimpa false
namespace Dw
theorem strCells_wl (s : ByteArray) : Lib.strCells s = bcs (wl s) := by
  unfold Lib.strCells bcs wl
  rw [List.map_map]
  rfl
theorem app_str_at {w w' : World} {base n : Nat} {v v' : Value} {xs : List Value} {s : ByteArray} {i : TypeInfo} {ty : TypeId} (hi : Tryz.prog.info? 5 = some i) (hz : i.zero = some (.int .u8 0)) (hsize : i.size = 1) (hby : i.bytes = 1)
    (hown : w.ownsRow base 5 1 v n xs) (hn : n + s.size ≤ 1000000000) (hr : (Builtin.append_ #[23, 9] ty #[v, .string s]).run Tryz.prog w = .ok v' w') (h0 : v = .slice none 0 0 → s.size = 0 → v' = .slice none 0 0) : v'.ownBlock = v.ownBlock ∨ v'.ownBlock = some w.heap.size := by
  have hxl : xs.length = n := by simpa using hown.1
  rcases hown.2 with ⟨rfl, rfl⟩ | ⟨g, cap, cur, rfl, hbg, hg, hnc, hcm, hcs, htake⟩
  · by_cases hm : s.size = 0
    · rw [h0 rfl hm]; exact .inl rfl
    · have hr2 := run_append_nil_string (P := Tryz.prog) w 23 9 ty 5 i (.int .u8 0) Tryz.underlying23 Tryz.underlying9 hi hz s (by omega) (by omega) (by rw [hby]; omega)
      rw [hr2] at hr
      injection hr with h1 h2
      rw [← h1]
      exact .inr rfl
  · by_cases hroom : n + s.size ≤ cap
    · have hr2 := Lib.run_append_room_string (P := Tryz.prog) w 23 9 ty 5 i Tryz.underlying23 Tryz.underlying9 hi hsize g n cap cur hg s hroom (by omega)
      rw [hr2] at hr
      injection hr with h1 h2
      rw [← h1]
      exact .inl rfl
    · have holds : ∀ j u, xs[j]? = some u → w.cell? ((⟨g, 0, none⟩ : Addr).add j) = some u := hown.cells (g := g) rfl
      have hr2 := Lib.run_append_grow_string (P := Tryz.prog) w 23 9 ty 5 i (.int .u8 0) Tryz.underlying23 Tryz.underlying9 hi hz ⟨g, 0, none⟩ n cap xs (by rw [hsize]; simpa using hxl) holds s (by omega) (by omega) (by rw [hby]; exact growslice_fits (by omega) (by omega))
      rw [hr2] at hr
      injection hr with h1 h2
      rw [← h1]
      exact .inr rfl
theorem wp_appstr {o : Oper} {a : Act} {w : World} {K : Act → World → Prop} {Q : Exit → Act → World → Prop} (sl x : Operand) (ho : o.op = .call { callee := .builtin .append, args := #[sl, x], argTypes := #[23, 9] })
    (base : Nat) (v : Value) (l : List Nat) (hs : a.eval sl = v) (hown : OB w base v l) (s : ByteArray) (hx : a.eval x = .string s) (hn : l.length + s.size ≤ 1000000000) (hbase : base ≤ w.heap.size)
    (h : ∀ v' w', OB w' base v' (l ++ wl s) → w.grownBy w' v.ownBlock → (v'.ownBlock = v.ownBlock ∨ v'.ownBlock = some w.heap.size) → K (a.put o.dst v') w') : Oper.wp Tryz.prog o a w K Q := by
  obtain ⟨i0, hi, hz0, hz1, hz2⟩ := info_parts info_u8
  obtain ⟨v', w', hr, h2, h3, h4⟩ := Lib.run_append_own_string (P := Tryz.prog) w base 23 9 o.type 5 i0 Tryz.underlying23 Tryz.underlying9 hi hz0 hz1 hz2 v l.length (bcs l) hown s (by unfold maxLen; omega) (by omega) hbase
  have hat := app_str_at hi hz0 hz1 hz2 hown hn hr (fun e1 e2 => h4.2 ⟨e1, e2⟩)
  unfold Oper.wp execOp
  simp only [ho, resolve, invoke, builtin, Sem.run_bind, Sem.run_pure, Result.andThen_ok, List.map_toArray, List.map_cons, List.map_nil, hs, hx, hr]
  refine h v' w' ?_ h3 hat
  unfold OB
  rw [bcs_append, List.length_append, wl_length, ← strCells_wl]
  exact h2
/-! a writer: the box g holds the bytes' row bv, and other cells -/
def LW (w : World) (base g : Nat) (rest : List Value) (t : TypeId) (bv : Value) (l : List Nat) : Prop := w.heap[g]? = some (.cells (bv :: rest).toArray t (0, 0)) ∧ OB w base bv l ∧ bv.ownBlock ≠ some g
/-- what a writer's step turns -/
def LF (w : World) (g : Nat) (bv : Value) (w1 : World) (bv1 : Value) : Prop := But (fun k => k = g ∨ bv.ownBlock = some k) w w1 ∧ (bv1.ownBlock = bv.ownBlock ∨ ∃ k, bv1.ownBlock = some k ∧ w.heap.size ≤ k)
theorem LF.refl (w : World) (g : Nat) (bv : Value) : LF w g bv w bv := ⟨But.refl _ _, .inl rfl⟩
theorem LF.of_below {w w1 : World} (g : Nat) (bv : Value) (h : Below w.heap.size w w1) : LF w g bv w1 bv := ⟨But.of _ h, .inl rfl⟩
theorem LF.trans {w w1 w2 : World} {g : Nat} {bv b1 b2 : Value} (h : LF w g bv w1 b1) (k : LF w1 g b1 w2 b2) : LF w g bv w2 b2 := by
  refine ⟨⟨k.1.os.trans h.1.os, k.1.tape.trans h.1.tape, k.1.output.trans h.1.output, Nat.le_trans h.1.size k.1.size, fun i hi hn => ?_⟩, ?_⟩
  · have h1 := h.1.block i hi hn
    have h2 := k.1.block i (Nat.lt_of_lt_of_le hi h.1.size) (fun e => by
      rcases e with e | e
      · exact hn (.inl e)
      · rcases h.2 with h3 | ⟨q, h3, h4⟩
        · exact hn (.inr (by rw [← h3]; exact e))
        · rw [h3] at e; injection e with e; omega)
    exact h2.trans h1
  · rcases k.2 with h3 | ⟨q, h3, h4⟩
    · rcases h.2 with h5 | ⟨q, h5, h6⟩
      · exact .inl (h3.trans h5)
      · exact .inr ⟨q, h3.trans h5, h6⟩
    · exact .inr ⟨q, h3, Nat.le_trans h.1.size h4⟩
theorem LF.cell {w w1 : World} {g : Nat} {bv b1 : Value} (h : LF w g bv w1 b1) {p : Addr} {v : Value} (hc : w.cell? p = some v) (hg : p.block ≠ g) (ho : bv.ownBlock ≠ some p.block) : w1.cell? p = some v :=
  h.1.cell hc (fun e => e.elim hg ho)
theorem LF.heap {w w1 : World} {g k : Nat} {bv b1 : Value} (h : LF w g bv w1 b1) {o : Obj} (hc : w.heap[k]? = some o) (hg : k ≠ g) (ho : bv.ownBlock ≠ some k) : w1.heap[k]? = some o :=
  h.1.heap hc (fun e => e.elim hg ho)
/-- a block that is none of the writer's stays so -/
theorem LF.off {w w1 : World} {g k : Nat} {bv b1 : Value} (h : LF w g bv w1 b1) (hk : k < w.heap.size) (ho : bv.ownBlock ≠ some k) : b1.ownBlock ≠ some k := by
  rcases h.2 with h3 | ⟨q, h3, h4⟩
  · rw [h3]; exact ho
  · rw [h3]; intro e; injection e with e; omega
theorem LF.below {w w1 : World} {g base : Nat} {bv b1 : Value} (h : LF w g bv w1 b1) (hb : base ≤ w.heap.size) (hg : base ≤ g) (ho : ∀ k, bv.ownBlock = some k → base ≤ k) : Below base w w1 :=
  ⟨h.1.os, h.1.tape, h.1.output, h.1.size, fun k hk => h.1.block k (by omega) (fun e => by
    rcases e with e | e
    · omega
    · have := ho k e; omega)⟩
theorem LW.lo {w : World} {base g : Nat} {rest : List Value} {t : TypeId} {bv : Value} {l : List Nat} (h : LW w base g rest t bv l) : ∀ k, bv.ownBlock = some k → base ≤ k := fun k hk => (World.ownsRow.lt h.2.1 k hk).1
theorem LW.later {w w1 : World} {base g : Nat} {rest : List Value} {t : TypeId} {bv : Value} {l : List Nat} (h : LW w base g rest t bv l) (hb : Below w.heap.size w w1) : LW w1 base g rest t bv l := ⟨(hb.block g (heap_lt h.1)).trans h.1, own_later h.2.1 hb, h.2.2⟩
/-- the row grows, the box bears it -/
theorem LW.step {w w1 w4 : World} {base g : Nat} {rest : List Value} {t : TypeId} {bv v4 : Value} {l l4 : List Nat} (h : LW w base g rest t bv l) (hb1 : Below w.heap.size w w1) (hown : OB w4 base v4 l4) (hg : w1.grownBy w4 bv.ownBlock) (hat : v4.ownBlock = bv.ownBlock ∨ v4.ownBlock = some w1.heap.size) (hz : w.heap.size ≤ w1.heap.size) :
    LW (w4.setCell ⟨g, 0, none⟩ v4) base g rest t v4 l4 ∧ LF w g bv (w4.setCell ⟨g, 0, none⟩ v4) v4 := by
  have h1 := heap_lt h.1
  have hx1 := (hb1.block g h1).trans h.1
  have hx4 : w4.heap[g]? = some (.cells (bv :: rest).toArray t (0, 0)) := (hg.block g (heap_lt hx1) (fun e => h.2.2 e.symm)).trans hx1
  have hne : v4.ownBlock ≠ some g := by
    rcases hat with e | e
    · rw [e]; exact h.2.2
    · rw [e]; intro e2; injection e2 with e2; omega
  refine ⟨⟨?_, own_but hown (But.setCell (S := fun k => k = g) rfl _) (fun k hk e => by subst e; exact hne hk), hne⟩, ?_, ?_⟩
  · have := set_block (i := 0) hx4 v4
    rw [this]
    simp
  · have hb : But (fun k => k = g ∨ bv.ownBlock = some k) w w4 := (But.of _ hb1).trans ((But.grown (S := fun k => k = g ∨ bv.ownBlock = some k) hg (fun k hk => .inr hk)))
    exact hb.trans (But.setCell (.inl rfl) _)
  · rcases hat with e | e
    · exact .inl e
    · exact .inr ⟨_, e, hz⟩
end Dw
end Go.Proofs.YtdkbgbdgmihlmaaGreatDoor
