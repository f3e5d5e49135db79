/- Lev: rows of rows, as the document's table makes them of an empty text; more plain laws. -/
import Derived.Test.YtfgfichkcckhiaaLRef1
import Derived.Laws.Cover1
namespace Go.Proofs.Ytfgfichkcckhiaa
open Go.RowKit
set_option linter.unusedSimpArgs false
set_option linter.unusedVariables false
namespace Lv
theorem info58 : (Try.prog.info? 58).map (fun i => (i.zero, i.size, i.bytes)) = some (some (.slice none 0 0), 1, 24) := by kernel_rfl
theorem make1 (w : World) : (Instr.makeSlice 58 (.int .i64 1) (.int .i64 1)).run Try.prog w = .ok (.slice (some ⟨w.heap.size, 0, none⟩) 1 1) (w.alloc (.cells #[.int .i64 0] 3)) := by
  have h := make58 1 (by omega) w
  rw [show madeCells #[Value.int .i64 0] 1 = #[Value.int .i64 0] from Array.ext' (by rw [toList_madeCells_one]; rfl)] at h
  exact h
/-- a row of rows of one number each -/
def OT (w : World) (base : Nat) (v : Value) (n : Nat) : Prop := ∃ rows : List Value, w.ownsRow base 58 1 v n rows ∧ ∀ j, j < n → ∃ g c, rows[j]? = some (.slice (some ⟨g, 0, none⟩) 1 c) ∧ ∃ cs, w.heap[g]? = some (.cells cs 3 (0, 0)) ∧ cs[0]? = some (.int .i64 (j : Nat))
theorem OT.nil (w : World) (base : Nat) : OT w base (.slice none 0 0) 0 := ⟨[], World.ownsRow_nil _ _ _ _, fun j hj => absurd hj (Nat.not_lt_zero j)⟩
theorem OT.later {w w' : World} {base n : Nat} {v : Value} (h : OT w base v n) (hb : Below w.heap.size w w') : OT w' base v n := by
  obtain ⟨rows, h1, h2⟩ := h
  refine ⟨rows, own_later h1 hb, fun j hj => ?_⟩
  obtain ⟨g, c, h3, cs, h4, h5⟩ := h2 j hj
  exact ⟨g, c, h3, cs, (hb.block g (Array.getElem?_eq_some_iff.1 h4).1).trans h4, h5⟩
theorem own58_other {w : World} {base n : Nat} {v : Value} {xs : List Value} {g : Nat} {cs : Array Value} (h : w.ownsRow base 58 1 v n xs) (hg : w.heap[g]? = some (.cells cs 3 (0, 0))) : v.ownBlock ≠ some g := by
  intro e
  rcases h.2 with ⟨h1, _⟩ | ⟨k, cap, cur, h1, _, h3, _⟩
  · rw [h1] at e; cases e
  · rw [h1] at e
    injection e with e
    subst e
    rw [hg] at h3
    injection h3 with h3
    injection h3 with _ h4
    cases h4
theorem wp_appT {o : Oper} {a : Act} {w : World} {K : Act → World → Prop} {Q : Exit → Act → World → Prop} (s y : Operand) (ho : o.op = .call { callee := .builtin .append, args := #[s, y], argTypes := #[109, 109] }) (hty : o.type = 109)
    (base : Nat) (v : Value) (n g c : Nat) (cs : Array Value) (hs : a.eval s = v) (hown : OT w base v n) (b : Nat) (hx : a.eval y = .slice (some ⟨b, 0, none⟩) 1 1) (hcell : w.cell? ⟨b, 0, none⟩ = some (.slice (some ⟨g, 0, none⟩) 1 c))
    (hg : w.heap[g]? = some (.cells cs 3 (0, 0))) (hc : cs[0]? = some (.int .i64 (n : Nat))) (hl : n ≤ 1000000) (hbase : base ≤ w.heap.size)
    (h : ∀ v' w', OT w' base v' (n + 1) → Below base w w' → K (a.put o.dst v') w') : Oper.wp Try.prog o a w K Q := by
  obtain ⟨i0, hi, hz0, hz1, hz2⟩ := info_parts info58
  obtain ⟨rows, ho1, ho2⟩ := hown
  have hrl : rows.length = n := by have := ho1.1; omega
  obtain ⟨v', w', h1, h2, h3, h4⟩ := run_append_own (P := Try.prog) w base 109 109 58 i0 (.slice none 0 0) 1 24 Try.underlying109 hi hz0 hz1 hz2 rfl (by decide) v n _ ho1 ⟨b, 0, none⟩ 1 1 [.slice (some ⟨g, 0, none⟩) 1 c] rfl (by
    intro j u hj
    match j, hj with
    | 0, hj => simp at hj; subst hj; simpa [Addr.add] using hcell) (by intro u hu; simp at hu; subst hu; rfl) (by unfold maxLen; omega) (by omega) (by omega)
  unfold Oper.wp execOp
  simp only [ho, resolve, invoke, builtin, Sem.run_bind, Sem.run_pure, Result.andThen_ok, List.map_toArray, List.map_cons, List.map_nil, hs, hx, hty, h1]
  have hb : Below base w w' := (Below.refl base w).grown h3 hbase (fun k hk => (ho1.lt k hk).1)
  refine h v' w' ⟨_, h2, fun j hj => ?_⟩ hb
  have keep : ∀ (g : Nat) (cs : Array Value), w.heap[g]? = some (.cells cs 3 (0, 0)) → w'.heap[g]? = some (.cells cs 3 (0, 0)) := fun g cs hg => (h3.block g (Array.getElem?_eq_some_iff.1 hg).1 (fun e => own58_other ho1 hg e.symm)).trans hg
  by_cases hjn : j < n
  · obtain ⟨g', c', h5, cs', h6, h7⟩ := ho2 j hjn
    exact ⟨g', c', by rw [List.getElem?_append_left (by omega)]; exact h5, cs', keep _ _ h6, h7⟩
  · obtain rfl : j = n := by omega
    exact ⟨g, c, by rw [List.getElem?_append_right (by omega), hrl]; simp, cs, keep _ _ hg, hc⟩
theorem OT.at_ {w : World} {base n : Nat} {v : Value} (h : OT w base v n) (h0 : 0 < n) : ∃ b c, v = .slice (some ⟨b, 0, none⟩) n c ∧ ∀ j, j < n → ∃ g d, w.cell? ⟨b, j, none⟩ = some (.slice (some ⟨g, 0, none⟩) 1 d) ∧ w.cell? ⟨g, 0, none⟩ = some (.int .i64 (j : Nat)) := by
  obtain ⟨rows, h1, h2⟩ := h
  rcases h1.2 with ⟨_, h3⟩ | ⟨b, cap, cur, h3, h4, h5, h6, h7, h8, h9⟩
  · omega
  · refine ⟨b, cap, h3, fun j hj => ?_⟩
    obtain ⟨g, d, h10, cs, h11, h12⟩ := h2 j hj
    refine ⟨g, d, ?_, by rw [cell_of_row w g 0 cs 3 (0, 0) h11]; exact h12⟩
    rw [cell_of_row w b j cur 58 (0, 0) h5]
    have h13 : (cur.toList.take (n * 1))[j]? = rows[j]? := by rw [h9]
    rw [List.getElem?_take_of_lt (by omega), h10] at h13
    simpa using h13
theorem range_snoc (n : Nat) : List.range (n + 1) = List.range n ++ [n] := List.range_succ
theorem start_caps (q : ByteArray) (k : Nat) : strOf (caps_ (fun i => i) k (q.size + 1)) = startS q k := caps_row fun i _ => by cases i <;> rfl
theorem step_caps (q S : ByteArray) (k b : Nat) (hok : okS q k S = true) : strOf (caps_ (un q S b) k (q.size + 1)) = stepS q k S b := by
  rw [stepS, if_pos hok]
  exact caps_row fun i _ => un_cel q S b k i
theorem step_bad {q S : ByteArray} {k b : Nat} (hok : okS q k S = false) : stepS q k S b = ⟨#[]⟩ := by rw [stepS, hok]; rfl
/-- the byte is among the first so many -/
def inp (q : ByteArray) (b : Nat) : Nat → Bool
  | 0 => false
  | n + 1 => inp q b n || at_ q n == b
theorem inp_iff (q : ByteArray) (b : Nat) : ∀ n, inp q b n = true ↔ ∃ j, j < n ∧ at_ q j = b
  | 0 => by simp [inp]
  | n + 1 => by
    rw [inp, Bool.or_eq_true, inp_iff q b n, beq_iff_eq]
    constructor
    · rintro (⟨j, h1, h2⟩ | h)
      · exact ⟨j, by omega, h2⟩
      · exact ⟨n, Nat.lt_succ_self n, h⟩
    · rintro ⟨j, h1, h2⟩
      rcases Nat.lt_or_ge j n with h3 | h3
      · exact .inl ⟨j, h3, h2⟩
      · obtain rfl : j = n := by omega
        exact .inr h2
theorem inp_all (q : ByteArray) (b : Nat) : inp q b q.size = inQ q b := by
  rw [Bool.eq_iff_iff, inp_iff, inQ_iff]
theorem away_first {q : ByteArray} {k b : Nat} {S : ByteArray} (hb : b < 256) (h : inQ q b = false) (hall : ∀ c, c < b → inQ q c = true) : stepS q k S b = awayS q k S := by rw [awayS, outB_some hb h hall]
theorem all_in {q : ByteArray} (hq : q.size ≤ 255) : ¬ ∀ c, c < 256 → inQ q c = true := fun h => by
  obtain ⟨b, h1, h2⟩ := some_out hq
  rw [h b h1] at h2; cases h2
theorem in_more {q : ByteArray} {b : Nat} (h : ∀ c, c < b → inQ q c = true) (hb : inQ q b = true) : ∀ c, c < b + 1 → inQ q c = true := fun c hc => by
  rcases Nat.lt_or_ge c b with h3 | h3
  · exact h c h3
  · obtain rfl : c = b := by omega
    exact hb
/-- what Bytes tells of the first so many bytes -/
def told (q : ByteArray) (k : Nat) (S : ByteArray) (n : Nat) : List Nat := (List.range n).filter fun b => inQ q b && decide (stepS q k S b ≠ awayS q k S)
theorem told_yes {q : ByteArray} {k b : Nat} {S : ByteArray} (h1 : inQ q b = true) (h2 : stepS q k S b ≠ awayS q k S) : told q k S (b + 1) = told q k S b ++ [b] := by
  simp [told, List.range_succ, List.filter_append, h1, h2]
theorem told_not {q : ByteArray} {k b : Nat} {S : ByteArray} (h : inQ q b = false) : told q k S (b + 1) = told q k S b := by
  simp [told, List.range_succ, List.filter_append, h]
theorem told_same {q : ByteArray} {k b : Nat} {S : ByteArray} (h : stepS q k S b = awayS q k S) : told q k S (b + 1) = told q k S b := by
  simp [told, List.range_succ, List.filter_append, h]
theorem told_all {q : ByteArray} {k : Nat} {S : ByteArray} (hok : okS q k S = true) : told q k S 256 = bytesS q k S := by rw [bytesS, if_pos hok]; rfl
theorem told_length (q : ByteArray) (k : Nat) (S : ByteArray) (n : Nat) : (told q k S n).length ≤ n := Nat.le_trans (List.length_filter_le _ _) (by simp)
theorem away_bad {q : ByteArray} {k : Nat} {S : ByteArray} (hok : okS q k S = false) : awayS q k S = ⟨#[]⟩ := by
  unfold awayS
  split
  · exact step_bad hok
  · rfl
theorem more_eq (q : ByteArray) (k : Nat) (S : ByteArray) : canS q k (awayS q k S) = moreS q k S := by
  cases hok : okS q k S with
  | true => rw [moreS, hok, Bool.true_and]
  | false => rw [moreS, hok, away_bad hok, canS_bad okS_empty]; rfl
theorem min3 {x y z n : Int} (h : min (min x y) z = n) (W : World) : (Builtin.min_ #[3, 3, 3] 3 #[.int .i64 x, .int .i64 y, .int .i64 z]).run Try.prog W = .ok (.int .i64 n) W := by
  rw [run_min_int3]
  congr 2
  subst h
  (repeat' split) <;> omega
end Lv
end Go.Proofs.Ytfgfichkcckhiaa
