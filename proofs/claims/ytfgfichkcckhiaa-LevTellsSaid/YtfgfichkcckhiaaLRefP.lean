/- Lev: the document's automaton, in plain terms. -/
import Derived.Test.YtfgfichkcckhiaaLNums
import Derived.Test.YtfgfichkcckhiaaLConv
namespace Go.Proofs.Ytfgfichkcckhiaa
open Go.RowKit
set_option linter.unusedSimpArgs false
set_option linter.unusedVariables false
namespace Lv
theorem auto_cells (w : World) (q : ByteArray) (k : Nat) (W0 : World) (h : w.alloc (.cells #[.string q, .int .i64 k] 31) = W0) :
    W0.cell? ⟨w.heap.size, 0, none⟩ = some (.string q) ∧ W0.cell? ⟨w.heap.size, 1, none⟩ = some (.int .i64 k) ∧ Below w.heap.size w W0 := by
  subst h
  exact ⟨cell_of_row _ _ 0 _ 31 (0, 0) (heap_alloc_new w _), cell_of_row _ _ 1 _ 31 (0, 0) (heap_alloc_new w _), (Below.refl _ _).alloc (Nat.le_refl _) _⟩
theorem okS_high {q : ByteArray} {k i : Nat} {S : ByteArray} (hi : i < S.size) (h : k + 1 < at_ S i) : okS q k S = false := by
  cases hb : okS q k S with
  | false => rfl
  | true => have := okS_le hb i hi; omega
theorem canS_at {q : ByteArray} {k i : Nat} {S : ByteArray} (hok : okS q k S = true) (hi : i < S.size) (h : at_ S i ≤ k) : canS q k S = true := by
  rw [canS, hok, Bool.true_and]; exact decide_eq_true ⟨i, hi, h⟩
theorem canS_none {q : ByteArray} {k : Nat} {S : ByteArray} (h : ∀ i, i < S.size → k < at_ S i) : canS q k S = false := by
  rw [canS, Bool.and_eq_false_iff]
  exact .inr (decide_eq_false (fun ⟨i, h1, h2⟩ => by have := h i h1; omega))
theorem canS_bad {q : ByteArray} {k : Nat} {S : ByteArray} (h : okS q k S = false) : canS q k S = false := by rw [canS, h, Bool.false_and]
theorem okS_empty {q : ByteArray} {k : Nat} : okS q k ⟨#[]⟩ = false := okS_no (by show (0 : Nat) ≠ _; omega)
/-- a row's numbers, capped, as bytes -/
def caps_ (r : Nat → Nat) (k n : Nat) : List Nat := (List.range n).map fun i => min (r i) (k + 1)
theorem caps_length (r : Nat → Nat) (k n : Nat) : (caps_ r k n).length = n := by simp [caps_]
theorem caps_succ (r : Nat → Nat) (k n : Nat) : caps_ r k (n + 1) = caps_ r k n ++ [min (r n) (k + 1)] := by simp [caps_, List.range_succ]
theorem caps_row {r : Nat → Nat} {f : Nat → Nat → Nat} {k n : Nat} (h : ∀ i, i < n → min (r i) (k + 1) = cel f k i) : strOf (caps_ r k n) = bs (row f k n) := by
  unfold strOf bs row caps_
  rw [List.map_map]
  congr 2
  refine List.map_congr_left fun i hi => ?_
  show UInt8.ofNat (min (r i) (k + 1)) = _
  rw [h i (List.mem_range.1 hi)]
/-- the document's row behind a byte, not capped -/
def un (q S : ByteArray) (b : Nat) : Nat → Nat
  | 0 => at_ S 0 + 1
  | m + 1 => min (min (at_ S m + if at_ q m = b then 0 else 1) (at_ S (m + 1) + 1)) (un q S b m + 1)
theorem un_s (q S : ByteArray) (b m : Nat) : un q S b (m + 1) = min (min (at_ S m + if at_ q m = b then 0 else 1) (at_ S (m + 1) + 1)) (un q S b m + 1) := rfl
theorem un_cel (q S : ByteArray) (b k : Nat) : ∀ i, min (un q S b i) (k + 1) = cel (num q S b) k i
  | 0 => rfl
  | i + 1 => by
    have ih := un_cel q S b k i
    show _ = min (num q S b (i + 1) (cel (num q S b) k i)) (k + 1)
    rw [← ih, un_s, num]
    omega
theorem un_le (q S : ByteArray) (b : Nat) : ∀ i, un q S b i ≤ 257
  | 0 => by have := at_lt S 0; rw [un]; omega
  | i + 1 => by have := at_lt S (i + 1); rw [un_s]; omega
def uns (q S : ByteArray) (b n : Nat) : List Nat := (List.range n).map (un q S b)
theorem uns_length (q S : ByteArray) (b n : Nat) : (uns q S b n).length = n := by simp [uns]
theorem uns_succ (q S : ByteArray) (b n : Nat) : uns q S b (n + 1) = uns q S b n ++ [un q S b n] := by simp [uns, List.range_succ]
theorem uns_get {q S : ByteArray} {b n i : Nat} (h : i < n) : (uns q S b n)[i]? = some (un q S b i) := by simp [uns, h]
/-- a row of numbers that is owned reads as a function -/
theorem OI.reads {w : World} {base : Nat} {v : Value} {l : List Nat} {r : Nat → Nat} (h : OI w base v l) (h0 : 0 < l.length) (hl : ∀ i, i < l.length → l[i]? = some (r i)) : Rd w v l.length r := by
  rcases OI.form h with ⟨_, h2⟩ | ⟨g, cap, h1, h2, h3, h4, h5⟩
  · rw [h2] at h0; cases h0
  · exact ⟨g, cap, h1, fun i hi => h5 i _ (hl i hi)⟩
theorem OI.at_ {w : World} {base : Nat} {v : Value} {l : List Nat} (h : OI w base v l) : ∃ A c, v = .slice A l.length c ∧ ∀ (i x : Nat), l[i]? = some x → ∃ g, A = some ⟨g, 0, none⟩ ∧ w.cell? ⟨g, i, none⟩ = some (.int .i64 (x : Int)) := by
  rcases OI.form h with ⟨h1, h2⟩ | ⟨g, c, h1, _, _, _, h5⟩
  · exact ⟨none, 0, by rw [h1, h2]; rfl, fun i x hi => by rw [h2] at hi; cases hi⟩
  · exact ⟨_, c, h1, fun i x hi => ⟨g, rfl, h5 i x hi⟩⟩
theorem wp_app8 {o : Oper} {a : Act} {w : World} {K : Act → World → Prop} {Q : Exit → Act → World → Prop} (s y : Operand) (ho : o.op = .call { callee := .builtin .append, args := #[s, y], argTypes := #[38, 38] }) (hty : o.type = 38)
    (base : Nat) (v : Value) (l : List Nat) (x : Nat) (hs : a.eval s = v) (hown : OB w base v l) (b : Nat) (hx : a.eval y = .slice (some ⟨b, 0, none⟩) 1 1) (hcell : w.cell? ⟨b, 0, none⟩ = some (.int .u8 (x : Int))) (hl : l.length ≤ 1000000) (hbase : base ≤ w.heap.size)
    (h : ∀ v' w', OB w' base v' (l ++ [x]) → w.grownBy w' v.ownBlock → Below base w w' → K (a.put o.dst v') w') : Oper.wp Try.prog o a w K Q := by
  obtain ⟨i0, hi, hz0, hz1, hz2⟩ := info_parts info5
  obtain ⟨v', w', h1, h2, h3, h4⟩ := run_append_own (P := Try.prog) w base 38 38 5 i0 (.int .u8 0) 1 1 Try.underlying38 hi hz0 hz1 hz2 rfl (by decide) v l.length _ hown ⟨b, 0, none⟩ 1 1 [.int .u8 (x : Int)] rfl (by
    intro j u hj
    match j, hj with
    | 0, hj => simp at hj; subst hj; simpa [Addr.add] using hcell) (by intro u hu; simp at hu; subst hu; rfl) (by unfold maxLen; omega) (by omega) (by omega)
  unfold Oper.wp execOp
  simp only [ho, resolve, invoke, builtin, Sem.run_bind, Sem.run_pure, Result.andThen_ok, List.map_toArray, List.map_cons, List.map_nil, hs, hx, hty, h1]
  exact h v' w' (by show w'.ownsRow _ _ _ _ _ _; simpa using h2) h3 ((Below.refl base w).grown h3 hbase (fun k hk => (hown.lt k hk).1))
def POne8 (x : Nat) : Stab.Pr := fun v w => ∃ b, v = .slice (some ⟨b, 0, none⟩) 1 1 ∧ w.cell? ⟨b, 0, none⟩ = some (.int .u8 (x : Int))
theorem POne8.stable (x : Nat) : Stab.Stable (POne8 x) := fun v w w' hb ⟨b, h1, h2⟩ => ⟨b, h1, cell_later hb h2⟩
theorem one_cell8 (w : World) (x : Nat) : (w.alloc (.cells #[.int .u8 (x : Int)] 5)).cell? ⟨w.heap.size, 0, none⟩ = some (.int .u8 (x : Int)) := cell_of_row _ _ 0 _ 5 (0, 0) (heap_alloc_new w _)
/-- what the append of a byte, of a number has left -/
def PB (W1 : World) (base : Nat) (l : List Nat) : Stab.Pr := fun v w2 => OB w2 base v l ∧ Below base W1 w2
theorem PB.stable (W1 : World) (base : Nat) (l : List Nat) (hg : base ≤ W1.heap.size) : Stab.Stable (PB W1 base l) := fun v w w' hb ⟨h1, h3⟩ => ⟨own_later h1 hb, h3.trans (hb.mono (Nat.le_trans hg h3.size))⟩
def PI (W1 : World) (base : Nat) (l : List Nat) : Stab.Pr := fun v w2 => OI w2 base v l ∧ Below base W1 w2
theorem PI.stable (W1 : World) (base : Nat) (l : List Nat) (hg : base ≤ W1.heap.size) : Stab.Stable (PI W1 base l) := fun v w w' hb ⟨h1, h3⟩ => ⟨own_later h1 hb, h3.trans (hb.mono (Nat.le_trans hg h3.size))⟩
theorem OB.nil (w : World) (base : Nat) : OB w base (.slice none 0 0) [] := World.ownsRow_nil _ _ _ _
theorem OI.nil (w : World) (base : Nat) : OI w base (.slice none 0 0) [] := World.ownsRow_nil _ _ _ _
theorem OB.slice {w : World} {base : Nat} {v : Value} {l : List Nat} (h : OB w base v l) : ∃ A n c, v = .slice A n c := by
  rcases OB.form h with ⟨h1, _⟩ | ⟨g, cap, h1, _⟩
  · exact ⟨_, _, _, h1⟩
  · exact ⟨_, _, _, h1⟩
end Lv
end Go.Proofs.Ytfgfichkcckhiaa
