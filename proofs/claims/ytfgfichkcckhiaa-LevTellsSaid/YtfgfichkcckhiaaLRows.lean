/- Lev: rows of bytes and of numbers that a call owns. -/
import Derived.Test.YtfgfichkcckhiaaLRange
import Derived.Test.YtfgfichkcckhiaaLBuild
import Derived.RangeFuncBox
namespace Go.Proofs.Ytfgfichkcckhiaa
open Go.RowKit
set_option linter.unusedSimpArgs false
set_option linter.unusedVariables false
namespace Lv
/-- a row of bytes, of numbers, of the call's own -/
abbrev OB (w : World) (base : Nat) (v : Value) (l : List Nat) : Prop := w.ownsRow base 5 1 v l.length (l.map fun (x : Nat) => Value.int .u8 (x : Int))
abbrev OI (w : World) (base : Nat) (v : Value) (l : List Nat) : Prop := w.ownsRow base 3 1 v l.length (l.map fun (x : Nat) => Value.int .i64 (x : Int))
theorem info3 : (Try.prog.info? 3).map (fun i => (i.zero, i.size, i.bytes)) = some (some (.int .i64 0), 1, 8) := by kernel_rfl
theorem one_new (W : World) (x : Value) (t : TypeId) : ∀ j u, [x][j]? = some u → (W.alloc (.cells #[x] t)).cell? ((⟨W.heap.size, 0, none⟩ : Addr).add j) = some u := by
  intro j u hj
  match j, hj with
  | 0, hj =>
    simp at hj; subst hj
    simp [Addr.add]
/-- append of one byte, of one number: what it comes to -/
theorem run_app8 (W : World) (base : Nat) (v : Value) (l : List Nat) (x : Nat) (h : OB W base v l) (hl : l.length ≤ 1000000) (hb : base ≤ W.heap.size) :
    ∃ v' w', (Builtin.append_ #[38, 38] 38 #[v, .slice (some ⟨W.heap.size, 0, none⟩) 1 1]).run Try.prog (W.alloc (.cells #[.int .u8 (x : Int)] 5)) = .ok v' w' ∧ OB w' base v' (l ++ [x]) ∧ (W.alloc (.cells #[.int .u8 (x : Int)] 5)).grownBy w' v.ownBlock ∧ Below base W w' := by
  obtain ⟨i0, hi, hz0, hz1, hz2⟩ := info_parts info5
  obtain ⟨v', w', h1, h2, h3, h4⟩ := run_append_own (P := Try.prog) (W.alloc (.cells #[.int .u8 (x : Int)] 5)) base 38 38 5 i0 (.int .u8 0) 1 1 Try.underlying38 hi hz0 hz1 hz2 rfl (by decide) v l.length _ (h.alloc _) ⟨W.heap.size, 0, none⟩ 1 1 [.int .u8 (x : Int)] rfl (one_new W _ 5) (by intro u hu; simp at hu; subst hu; rfl) (by unfold maxLen; omega) (by omega) (by simp; omega)
  exact ⟨v', w', h1, by show w'.ownsRow _ _ _ _ _ _; simpa using h2, h3, ((Below.refl base W).alloc hb _).grown h3 (by simp; omega) (fun k hk => (h.lt k hk).1)⟩
theorem run_app3 (W : World) (base : Nat) (v : Value) (l : List Nat) (x : Nat) (h : OI W base v l) (hl : l.length ≤ 1000000) (hb : base ≤ W.heap.size) :
    ∃ v' w', (Builtin.append_ #[58, 58] 58 #[v, .slice (some ⟨W.heap.size, 0, none⟩) 1 1]).run Try.prog (W.alloc (.cells #[.int .i64 (x : Int)] 3)) = .ok v' w' ∧ OI w' base v' (l ++ [x]) ∧ (W.alloc (.cells #[.int .i64 (x : Int)] 3)).grownBy w' v.ownBlock ∧ Below base W w' := by
  obtain ⟨i0, hi, hz0, hz1, hz2⟩ := info_parts info3
  obtain ⟨v', w', h1, h2, h3, h4⟩ := run_append_own (P := Try.prog) (W.alloc (.cells #[.int .i64 (x : Int)] 3)) base 58 58 3 i0 (.int .i64 0) 1 8 Try.underlying58 hi hz0 hz1 hz2 rfl (by decide) v l.length _ (h.alloc _) ⟨W.heap.size, 0, none⟩ 1 1 [.int .i64 (x : Int)] rfl (one_new W _ 3) (by intro u hu; simp at hu; subst hu; rfl) (by unfold maxLen; omega) (by omega) (by simp; omega)
  exact ⟨v', w', h1, by show w'.ownsRow _ _ _ _ _ _; simpa using h2, h3, ((Below.refl base W).alloc hb _).grown h3 (by simp; omega) (fun k hk => (h.lt k hk).1)⟩
/-- the same at an operation of a plain region -/
theorem wpList_app8 {ops : Array Oper} {rest : List Oper} {o : Oper} {a : Act} {Q : Exit → Act → World → Prop} {W : World} {x : Nat}
    (hgd : o.guard = none) (s y : Operand) (ho : o.op = .call { callee := .builtin .append, args := #[s, y], argTypes := #[38, 38] }) (hty : o.type = 38)
    (base : Nat) (v : Value) (l : List Nat) (hs : a.eval s = v) (hown : OB W base v l) (g : Nat) (hx : a.eval y = .slice (some ⟨g, 0, none⟩) 1 1) (hgW : g = W.heap.size)
    (hl : l.length ≤ 1000000) (hbase : base ≤ W.heap.size)
    (h : ∀ v' w', OB w' base v' (l ++ [x]) → (W.alloc (.cells #[.int .u8 (x : Int)] 5)).grownBy w' v.ownBlock → Below base W w' → wpList Try.prog ops Q rest (a.put o.dst v') w') :
    wpList Try.prog ops Q (o :: rest) a (W.alloc (.cells #[.int .u8 (x : Int)] 5)) := by
  subst hgW
  obtain ⟨v', w', h1, h2, h3, h4⟩ := run_app8 W base v l x hown hl hbase
  refine wpList_plain hgd fun K hK => ?_
  unfold Oper.wp execOp
  simp only [ho, resolve, invoke, builtin, Sem.run_bind, Sem.run_pure, Result.andThen_ok, List.map_toArray, List.map_cons, List.map_nil, hs, hx, hty, h1]
  exact hK _ _ (h v' w' h2 h3 h4)
theorem wpList_app3 {ops : Array Oper} {rest : List Oper} {o : Oper} {a : Act} {Q : Exit → Act → World → Prop} {W : World} {x : Nat}
    (hgd : o.guard = none) (s y : Operand) (ho : o.op = .call { callee := .builtin .append, args := #[s, y], argTypes := #[58, 58] }) (hty : o.type = 58)
    (base : Nat) (v : Value) (l : List Nat) (hs : a.eval s = v) (hown : OI W base v l) (g : Nat) (hx : a.eval y = .slice (some ⟨g, 0, none⟩) 1 1) (hgW : g = W.heap.size)
    (hl : l.length ≤ 1000000) (hbase : base ≤ W.heap.size)
    (h : ∀ v' w', OI w' base v' (l ++ [x]) → (W.alloc (.cells #[.int .i64 (x : Int)] 3)).grownBy w' v.ownBlock → Below base W w' → wpList Try.prog ops Q rest (a.put o.dst v') w') :
    wpList Try.prog ops Q (o :: rest) a (W.alloc (.cells #[.int .i64 (x : Int)] 3)) := by
  subst hgW
  obtain ⟨v', w', h1, h2, h3, h4⟩ := run_app3 W base v l x hown hl hbase
  refine wpList_plain hgd fun K hK => ?_
  unfold Oper.wp execOp
  simp only [ho, resolve, invoke, builtin, Sem.run_bind, Sem.run_pure, Result.andThen_ok, List.map_toArray, List.map_cons, List.map_nil, hs, hx, hty, h1]
  exact hK _ _ (h v' w' h2 h3 h4)
/-- the cells of such a row -/
theorem OB.form {w : World} {base : Nat} {v : Value} {l : List Nat} (h : OB w base v l) : (v = .slice none 0 0 ∧ l = []) ∨ ∃ g cap, v = .slice (some ⟨g, 0, none⟩) l.length cap ∧ base ≤ g ∧ g < w.heap.size ∧ l.length ≤ cap ∧ ∀ (i x : Nat), l[i]? = some x → w.cell? ⟨g, i, none⟩ = some (.int .u8 (x : Int)) := by
  rcases h.2 with ⟨h1, h2⟩ | ⟨g, cap, cur, h1, h2, h3, h4, h5, h6, h7⟩
  · exact .inl ⟨h1, List.eq_nil_of_length_eq_zero h2⟩
  · refine .inr ⟨g, cap, h1, h2, (Array.getElem?_eq_some_iff.1 h3).1, h4, fun i x hi => ?_⟩
    rw [cell_of_row w g i cur 5 (0, 0) h3]
    have hil := (List.getElem?_eq_some_iff.1 hi).1
    have h8 : (cur.toList.take (l.length * 1))[i]? = (l.map fun (x : Nat) => Value.int .u8 (x : Int))[i]? := by rw [h7]
    rw [List.getElem?_take_of_lt (by omega)] at h8
    simpa [hi] using h8
theorem OI.form {w : World} {base : Nat} {v : Value} {l : List Nat} (h : OI w base v l) : (v = .slice none 0 0 ∧ l = []) ∨ ∃ g cap, v = .slice (some ⟨g, 0, none⟩) l.length cap ∧ base ≤ g ∧ g < w.heap.size ∧ l.length ≤ cap ∧ ∀ (i x : Nat), l[i]? = some x → w.cell? ⟨g, i, none⟩ = some (.int .i64 (x : Int)) := by
  rcases h.2 with ⟨h1, h2⟩ | ⟨g, cap, cur, h1, h2, h3, h4, h5, h6, h7⟩
  · exact .inl ⟨h1, List.eq_nil_of_length_eq_zero h2⟩
  · refine .inr ⟨g, cap, h1, h2, (Array.getElem?_eq_some_iff.1 h3).1, h4, fun i x hi => ?_⟩
    rw [cell_of_row w g i cur 3 (0, 0) h3]
    have hil := (List.getElem?_eq_some_iff.1 hi).1
    have h8 : (cur.toList.take (l.length * 1))[i]? = (l.map fun (x : Nat) => Value.int .i64 (x : Int))[i]? := by rw [h7]
    rw [List.getElem?_take_of_lt (by omega)] at h8
    simpa [hi] using h8
/-- such a row stays, when what is new comes -/
theorem own_later {w w' : World} {base n : Nat} {e : TypeId} {v : Value} {xs : List Value} (h : w.ownsRow base e 1 v n xs) (hb : Below w.heap.size w w') : w'.ownsRow base e 1 v n xs := by
  refine ⟨h.1, ?_⟩
  rcases h.2 with h1 | ⟨g, cap, cur, h1, h2, h3, h4⟩
  · exact .inl h1
  · exact .inr ⟨g, cap, cur, h1, h2, (hb.block g (Array.getElem?_eq_some_iff.1 h3).1).trans h3, h4⟩
theorem own_less {w : World} {base base' n : Nat} {e : TypeId} {v : Value} {xs : List Value} (h : w.ownsRow base e 1 v n xs) (hb : base' ≤ base) : w.ownsRow base' e 1 v n xs := by
  refine ⟨h.1, ?_⟩
  rcases h.2 with h1 | ⟨g, cap, cur, h1, h2, h3⟩
  · exact .inl h1
  · exact .inr ⟨g, cap, cur, h1, Nat.le_trans hb h2, h3⟩
end Lv
end Go.Proofs.Ytfgfichkcckhiaa
