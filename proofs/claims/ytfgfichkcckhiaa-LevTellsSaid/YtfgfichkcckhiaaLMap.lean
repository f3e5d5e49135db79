/- Lev: the map of a state's ways, and what Bytes tells, in plain terms. -/
import Derived.Test.YtfgfichkcckhiaaLSorted
namespace Go.Proofs.Ytfgfichkcckhiaa
open Go.RowKit Go.Maps
set_option linter.unusedSimpArgs false
set_option linter.unusedVariables false
namespace Lv
theorem bytes_beq (a b : ByteArray) : (a.toList == b.toList) = decide (a = b) := by
  rw [ByteArray.toList_eq, ByteArray.toList_eq]
  by_cases h : a = b
  · subst h; simp
  · rw [decide_eq_false h]
    refine beq_false_of_ne fun h2 => h (ByteArray.ext (Array.ext' h2))
/-- the map behind the first bytes of q -/
def Dq (q : ByteArray) (k : Nat) (S : ByteArray) : Nat → DataW Unit
  | 0 => .map []
  | m + 1 => (Dq q k S m).put (.int .u8 (at_ q m : Int)) (.lit (.string (stepS q k S (at_ q m)).data.toList))
theorem Dq_isMap (q : ByteArray) (k : Nat) (S : ByteArray) (m : Nat) : IsMap (Dq q k S m) := by
  induction m with
  | zero => exact ⟨[], rfl⟩
  | succ m ih => exact IsMap.put ih _ _
theorem key_u8 (x : Int) : WideAt.IsKeyLit (Lit.int .u8 x) := trivial
theorem Dq_has (q : ByteArray) (k : Nat) (S : ByteArray) (x : Int) (m : Nat) : has (Dq q k S m) (.int .u8 x) = decide (∃ i, i < m ∧ (at_ q i : Int) = x) := by
  induction m with
  | zero => rw [decide_eq_false (by rintro ⟨i, h, _⟩; omega)]; rfl
  | succ m ih =>
    simp only [Dq]
    by_cases hx : (at_ q m : Int) = x
    · subst hx
      rw [has_put_same (Dq_isMap q k S m) (key_u8 _), decide_eq_true ⟨m, by omega, rfl⟩]
    · rw [has_put_other (by intro h; injection h with _ h; exact hx h.symm), ih]
      refine decide_eq_decide.2 ⟨fun ⟨i, h1, h2⟩ => ⟨i, by omega, h2⟩, fun ⟨i, h1, h2⟩ => ⟨i, ?_, h2⟩⟩
      rcases Nat.lt_or_ge i m with h | h
      · exact h
      · obtain rfl : i = m := by omega
        exact absurd h2 hx
theorem Dq_at (q : ByteArray) (k : Nat) (S : ByteArray) (x : Nat) (z : DataW Unit) (m : Nat) (h : ∃ i, i < m ∧ at_ q i = x) : (Dq q k S m).atKey (.int .u8 (x : Int)) z = .lit (.string (stepS q k S x).data.toList) := by
  induction m with
  | zero => obtain ⟨i, h, _⟩ := h; omega
  | succ m ih =>
    simp only [Dq]
    by_cases hx : at_ q m = x
    · subst hx
      exact atKey_put_same (Dq_isMap q k S m) (key_u8 _) _ _
    · rw [atKey_put_other (by intro h; injection h with _ h; exact hx (by omega))]
      refine ih ?_
      obtain ⟨i, h1, h2⟩ := h
      refine ⟨i, ?_, h2⟩
      rcases Nat.lt_or_ge i m with h | h
      · exact h
      · obtain rfl : i = m := by omega
        exact absurd h2 hx
theorem stepS_size (q : ByteArray) (k : Nat) (S : ByteArray) (b : Nat) : (stepS q k S b).size ≤ q.size + 1 := by
  unfold stepS
  split
  · rw [bs_size, row_length]; exact Nat.le_refl _
  · exact Nat.zero_le _
theorem key_read (x : Nat) (hx : x < 256) : keyOf Try.prog 5 (.int .u8 (x : Int)) = some (.int .u8 (x : Int)) := by
  have h5 := Try.underlying5
  have hw : (Lit.int .u8 (x : Int)).wf = true := by simp [Lit.wf, IntKind.min, IntKind.max, IntKind.bits, IntKind.signed]; omega
  simp [keyOf, h5, mapKey, hw]
theorem val_read (s : ByteArray) (hs : s.size ≤ 1000) : plainElem (H := Unit) Try.prog 32 (.string s) = some (.lit (.string s.data.toList), []) :=
  plainElem_string Try.underlying32 (by unfold maxLen; omega)
section
variable {w : World} {b n m : Nat} {q S : ByteArray} {k : Nat}
theorem zero32 (w : World) : (zeroValue 32).run Try.prog w = .ok (.string ⟨#[]⟩) w := Try.zeroValue32 w
theorem look_in (h : w.ownsMap Try.prog 5 (plainElem Try.prog 32) b n (Dq q k S m)) {x : Nat} (hx : x < 256) (hi : ∃ i, i < m ∧ at_ q i = x) :
    (Instr.lookup 67 (.map (some b)) (.int .u8 (x : Int)) true).run Try.prog w = .ok (.tuple #[.string (stepS q k S x), .bool true]) w := by
  obtain ⟨v, ps, h1, h2⟩ := h.look_ok (int_keyed Try.underlying5) Try.underlying67 (zero32 w) (val_read ⟨#[]⟩ (by decide)) (key_read x hx)
  rw [Dq_at q k S x _ m hi] at h2
  obtain ⟨s, rfl, h3, _⟩ := plainElem_string_inv Try.underlying32 h2
  rw [h1, Dq_has, decide_eq_true (by obtain ⟨i, h4, h5⟩ := hi; exact ⟨i, h4, by omega⟩)]
  have h4 : s = stepS q k S x := by
    simp at h3
    exact ByteArray.ext h3.1.symm
  rw [h4]
theorem look_out (h : w.ownsMap Try.prog 5 (plainElem Try.prog 32) b n (Dq q k S m)) {x : Nat} (hx : x < 256) (hi : ¬ ∃ i, i < m ∧ at_ q i = x) :
    ∃ v, (Instr.lookup 67 (.map (some b)) (.int .u8 (x : Int)) true).run Try.prog w = .ok (.tuple #[.string v, .bool false]) w := by
  obtain ⟨v, ps, h1, h2⟩ := h.look_ok (int_keyed Try.underlying5) Try.underlying67 (zero32 w) (val_read ⟨#[]⟩ (by decide)) (key_read x hx)
  obtain ⟨s, rfl, h3, _⟩ := plainElem_string_inv Try.underlying32 h2
  exact ⟨s, by rw [h1, Dq_has, decide_eq_false (by rintro ⟨i, h4, h5⟩; exact hi ⟨i, h4, by omega⟩)]⟩
theorem look_one (h : w.ownsMap Try.prog 5 (plainElem Try.prog 32) b n (Dq q k S m)) {x : Nat} (hx : x < 256) (hi : ∃ i, i < m ∧ at_ q i = x) :
    (Instr.lookup 67 (.map (some b)) (.int .u8 (x : Int)) false).run Try.prog w = .ok (.string (stepS q k S x)) w := by
  obtain ⟨v, ps, h1, h2⟩ := h.lookup (int_keyed Try.underlying5) Try.underlying67 (zero32 w) (val_read ⟨#[]⟩ (by decide)) (key_read x hx)
  rw [Dq_at q k S x _ m hi] at h2
  obtain ⟨s, rfl, h3, _⟩ := plainElem_string_inv Try.underlying32 h2
  have h4 : s = stepS q k S x := by
    simp at h3
    exact ByteArray.ext h3.1.symm
  rw [h1, h4]
theorem store_one (h : w.ownsMap Try.prog 5 (plainElem Try.prog 32) b n (Dq q k S m)) (hn : n < 1000) (hq : q.size ≤ 255) :
    ∃ w', (Instr.mapUpdate 67 (.map (some b)) (.int .u8 (at_ q m : Int)) (.string (stepS q k S (at_ q m)))).run Try.prog w = .ok () w' ∧ w'.ownsMap Try.prog 5 (plainElem Try.prog 32) b (n + 1) (Dq q k S (m + 1)) ∧ w.grownBy w' (some b) :=
  h.update (int_keyed Try.underlying5) Try.underlying67 (by unfold maxLen; omega) (key_read _ (at_lt q m)) (val_read _ (by have := stepS_size q k S (at_ q m); omega))
theorem map_later {w' : World} (h : w.ownsMap Try.prog 5 (plainElem Try.prog 32) b n (Dq q k S m)) (hb : Below w.heap.size w w') : w'.ownsMap Try.prog 5 (plainElem Try.prog 32) b n (Dq q k S m) :=
  h.kept (row := none) ⟨hb.os, hb.tape, hb.output, hb.size, fun i hi _ => hb.block i hi⟩ (by simp)
end
/-! what Bytes tells -/
theorem inQ_iff (q : ByteArray) (b : Nat) : inQ q b = true ↔ ∃ i, i < q.size ∧ at_ q i = b := by simp [inQ]
theorem inQ_lt {q : ByteArray} {b : Nat} (h : inQ q b = true) : b < 256 := by
  obtain ⟨i, _, rfl⟩ := (inQ_iff q b).1 h
  exact at_lt q i
theorem outB_some {q : ByteArray} {b : Nat} (hb : b < 256) (h : inQ q b = false) (hall : ∀ c, c < b → inQ q c = true) : outB q = some b := by
  unfold outB
  rw [List.find?_eq_some_iff_getElem]
  refine ⟨by simp [h], b, by simpa using hb, by simp, fun j hj => ?_⟩
  simp [hall j hj]
theorem outB_none {q : ByteArray} (hall : ∀ c, c < 256 → inQ q c = true) : outB q = none := by
  unfold outB
  rw [List.find?_eq_none]
  intro x hx
  simp [hall x (by simpa using hx)]
theorem rising_eq {l m : List Int} (hl : l.Pairwise (· < ·)) (hm : m.Pairwise (· < ·)) (h : ∀ x, x ∈ l ↔ x ∈ m) : l = m := by
  have nl : l.Nodup := hl.imp (fun h => Int.ne_of_lt h)
  have nm : m.Nodup := hm.imp (fun h => Int.ne_of_lt h)
  refine List.Perm.eq_of_pairwise (le := fun a b => a < b) (fun a b _ _ h1 h2 => by omega) hl hm ((List.perm_ext_iff_of_nodup nl nm).2 h)
theorem bytes_eq {q S : ByteArray} {k : Nat} {ys : List Int} (hok : okS q k S = true) (hk : KeysOf (Dq q k S q.size) ys) (hr : ys.Pairwise (· < ·)) :
    ys.filter (fun x => decide (stepS q k S x.toNat ≠ awayS q k S)) = (bytesS q k S).map (fun (b : Nat) => (b : Int)) := by
  rw [bytesS, if_pos hok]
  refine rising_eq (hr.filter _) ?_ fun x => ?_
  · rw [List.pairwise_map]
    refine (List.Pairwise.filter _ (List.pairwise_lt_range (n := 256))).imp (fun h => by omega)
  · rw [List.mem_filter, hk.2 x, Dq_has, List.mem_map]
    constructor
    · rintro ⟨h1, h2⟩
      obtain ⟨i, h3, h4⟩ := of_decide_eq_true h1
      subst h4
      refine ⟨at_ q i, ?_, rfl⟩
      rw [List.mem_filter]
      refine ⟨by simpa using at_lt q i, ?_⟩
      rw [(inQ_iff q _).2 ⟨i, h3, rfl⟩, Bool.true_and]
      simpa using h2
    · rintro ⟨b, h1, rfl⟩
      rw [List.mem_filter, Bool.and_eq_true] at h1
      obtain ⟨i, h3, h4⟩ := (inQ_iff q b).1 h1.2.1
      exact ⟨decide_eq_true ⟨i, h3, by omega⟩, by simpa using h1.2.2⟩
end Lv
end Go.Proofs.Ytfgfichkcckhiaa
