/- Lev: the table of distances, and what automata's states have of it. -/
import Derived.Test.YtfgfichkcckhiaaLLaws
namespace Go.Proofs.Ytfgfichkcckhiaa
set_option linter.unusedSimpArgs false
set_option linter.unusedVariables false
namespace Lv
/-- a row behind one byte more -/
def nx (q : ByteArray) (c : Nat) (r : Nat → Nat) : Nat → Nat
  | 0 => r 0 + 1
  | m + 1 => if at_ q m = c then r m else 1 + min (min (r m) (r (m + 1))) (nx q c r m)
/-- the row behind so many bytes of a text -/
def R (q t : ByteArray) : Nat → Nat → Nat
  | 0 => fun i => i
  | j + 1 => nx q (at_ t j) (R q t j)
theorem R_0 (q t : ByteArray) (i : Nat) : R q t 0 i = i := rfl
theorem R_s0 (q t : ByteArray) (j : Nat) : R q t (j + 1) 0 = R q t j 0 + 1 := rfl
theorem R_ss (q t : ByteArray) (j i : Nat) : R q t (j + 1) (i + 1) = if at_ q i = at_ t j then R q t j i else 1 + min (min (R q t j i) (R q t j (i + 1))) (R q t (j + 1) i) := rfl
theorem R_j0 (q t : ByteArray) : ∀ j, R q t j 0 = j
  | 0 => rfl
  | j + 1 => by rw [R_s0, R_j0 q t j]
theorem R_down {q t : ByteArray} {j : Nat} (h : ∀ i, R q t j i ≤ R q t j (i + 1) + 1 ∧ R q t j (i + 1) ≤ R q t j i + 1) : ∀ i, R q t (j + 1) i ≤ R q t j i + 1 ∧ R q t j i ≤ R q t (j + 1) i + 1
  | 0 => by rw [R_s0]; omega
  | i + 1 => by
    have h1 := h i
    have h2 := R_down h i
    rw [R_ss]
    split <;> omega
theorem R_near (q t : ByteArray) : ∀ j i, R q t j i ≤ R q t j (i + 1) + 1 ∧ R q t j (i + 1) ≤ R q t j i + 1
  | 0, i => by simp only [R_0]; omega
  | j + 1, i => by
    have h := R_near q t j
    have h1 := h i
    have h2 := R_down h i
    rw [R_ss]
    split <;> omega
theorem R_next (q t : ByteArray) (j i : Nat) : R q t (j + 1) i ≤ R q t j i + 1 ∧ R q t j i ≤ R q t (j + 1) i + 1 := R_down (R_near q t j) i
theorem R_sym (q t : ByteArray) : ∀ j i, R q t j i = R t q i j
  | 0, i => (R_j0 t q i).symm
  | j + 1, 0 => R_j0 q t (j + 1)
  | j + 1, i + 1 => by
    rw [R_ss, R_ss, R_sym q t j i, R_sym q t j (i + 1), R_sym q t (j + 1) i]
    by_cases h : at_ q i = at_ t j
    · rw [if_pos h, if_pos h.symm]
    · rw [if_neg h, if_neg (fun e => h e.symm)]; omega
theorem R_least (q t : ByteArray) (i : Nat) : ∀ j, i ≤ R q t j i + j
  | 0 => by rw [R_0]; omega
  | j + 1 => by have := R_least q t i j; have := (R_next q t j i).2; omega
/-- a state's numbers are those of the table, capped -/
theorem state_R {q t : ByteArray} {k : Nat} (hk : k ≤ 3) : ∀ j i, i ≤ q.size → at_ (readN q k (startS q k) t j) i = min (R q t j i) (k + 1)
  | 0, i, hi => at_start hk hi
  | j + 1, i, hi => by
    have hok := readN_ok (T := t) (start_ok (q := q) hk) hk j
    show at_ (stepS q k (readN q k (startS q k) t j) (at_ t j)) i = _
    induction i with
    | zero => rw [step_0 hok hk, state_R hk j 0 hi, R_s0]; omega
    | succ m ih =>
      have h1 := R_near q t j m
      have h2 := R_next q t j m
      have h3 := R_near q t (j + 1) m
      rw [step_s hok hk (by omega), ih (by omega), state_R hk j m (by omega), state_R hk j (m + 1) hi]
      rw [R_ss] at h3 ⊢
      split <;> (rename_i hc; simp only [hc, if_true, if_false] at h3 ⊢; omega)
/-- the distance of both texts -/
def dst (q t : ByteArray) : Nat := R q t t.size q.size
theorem dst_sym (q t : ByteArray) : dst q t = dst t q := R_sym q t _ _
theorem read_is {q t : ByteArray} {k : Nat} (hk : k ≤ 3) (j : Nat) : isS q k (readN q k (startS q k) t j) = decide (R q t j q.size ≤ k) := by
  rw [is_eq (readN_ok (start_ok hk) hk j), state_R hk j _ (Nat.le_refl _)]
  refine decide_eq_decide.2 ?_
  omega
theorem read_dist {q t : ByteArray} {k : Nat} (hk : k ≤ 3) (j : Nat) : distS q k (readN q k (startS q k) t j) = if R q t j q.size ≤ k then R q t j q.size else 0 := by
  rw [distS, read_is hk j, state_R hk j _ (Nat.le_refl _)]
  by_cases h : R q t j q.size ≤ k
  · rw [decide_eq_true h, if_pos rfl, if_pos h]; omega
  · rw [decide_eq_false h, if_neg h]; rfl
theorem is_can {q : ByteArray} {k : Nat} {S : ByteArray} (h : isS q k S = true) : canS q k S = true := by
  rw [isS, Bool.and_eq_true, decide_eq_true_iff] at h
  rw [canS, h.1, Bool.true_and]
  exact decide_eq_true ⟨q.size, by rw [okS_size h.1]; omega, h.2⟩
/-- a row behind a text's first bytes is the row behind these bytes -/
theorem nx_congr {q : ByteArray} {c : Nat} {r s : Nat → Nat} (h : ∀ i, r i = s i) (i : Nat) : nx q c r i = nx q c s i := by
  have : r = s := funext h
  rw [this]
theorem R_congr {q t u : ByteArray} : ∀ {j : Nat}, (∀ i, i < j → at_ t i = at_ u i) → ∀ i, R q t j i = R q u j i
  | 0, _, _ => rfl
  | j + 1, h, i => by
    show nx q (at_ t j) (R q t j) i = nx q (at_ u j) (R q u j) i
    rw [h j (Nat.lt_succ_self _)]
    exact nx_congr (R_congr fun i hi => h i (by omega)) i
theorem at_take {t : ByteArray} {n i : Nat} (hn : n ≤ t.size) (hi : i < n) : at_ (t.extract 0 n) i = at_ t i := by
  have h1 : i < (t.extract 0 n).size := by rw [ByteArray.size_extract]; omega
  rw [at_get h1, at_get (by omega)]
  congr 1
  simp [ByteArray.getElem_eq_getElem_data, ByteArray.data_extract]
theorem dst_take {q t : ByteArray} {n : Nat} (hn : n ≤ t.size) : dst q (t.extract 0 n) = R q t n q.size := by
  rw [dst, show (t.extract 0 n).size = n by rw [ByteArray.size_extract]; omega]
  exact R_congr (fun i hi => at_take hn hi) _
theorem dst_all {q t : ByteArray} : dst q t = R q t t.size q.size := rfl
/-- numbers beside each other -/
theorem state_near {q t : ByteArray} {k : Nat} (hk : k ≤ 3) {j i : Nat} (hi : i + 1 ≤ q.size) :
    at_ (readN q k (startS q k) t j) (i + 1) ≤ at_ (readN q k (startS q k) t j) i + 1 ∧ at_ (readN q k (startS q k) t j) i ≤ at_ (readN q k (startS q k) t j) (i + 1) + 1 ∧ at_ (readN q k (startS q k) t j) (i + 1) ≤ k + 1 := by
  rw [state_R hk j _ hi, state_R hk j i (by omega)]
  have := R_near q t j i
  omega
/-- two bounds, state by state -/
theorem caps {q : ByteArray} {k m : Nat} (hkm : k ≤ m) (hm : m ≤ 3) (t : ByteArray) : ∀ j i, i ≤ q.size → at_ (readN q k (startS q k) t j) i = min (at_ (readN q m (startS q m) t j) i) (k + 1) := by
  intro j i hi
  rw [state_R (by omega) j i hi, state_R hm j i hi]
  omega
theorem can_R {q t : ByteArray} {k : Nat} (hk : k ≤ 3) (j : Nat) : canS q k (readN q k (startS q k) t j) = true ↔ ∃ i, i ≤ q.size ∧ R q t j i ≤ k := by
  have hok := readN_ok (T := t) (start_ok (q := q) hk) hk j
  rw [canS, hok, Bool.true_and, decide_eq_true_iff, okS_size hok]
  constructor
  · rintro ⟨i, h1, h2⟩
    rw [state_R hk j i (by omega)] at h2
    exact ⟨i, by omega, by omega⟩
  · rintro ⟨i, h1, h2⟩
    exact ⟨i, by omega, by rw [state_R hk j i h1]; omega⟩
end Lv
end Go.Proofs.Ytfgfichkcckhiaa
