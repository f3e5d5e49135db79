/- Lev: laws of states, in plain terms. -/
import Derived.Test.YtfgfichkcckhiaaLBytes
namespace Go.Proofs.Ytfgfichkcckhiaa
set_option linter.unusedSimpArgs false
set_option linter.unusedVariables false
namespace Lv
theorem at_start {q : ByteArray} {k i : Nat} (hk : k ≤ 3) (hi : i ≤ q.size) : at_ (startS q k) i = min i (k + 1) := by
  unfold startS
  rw [at_row _ _ _ _ (by omega) hk]
  cases i <;> rfl
theorem start_size (q : ByteArray) (k : Nat) : (startS q k).size = q.size + 1 := by rw [startS, bs_size, row_length]
theorem okS_of {q : ByteArray} {k : Nat} {S : ByteArray} (h1 : S.size = q.size + 1) (h2 : ∀ i, i < S.size → at_ S i ≤ k + 1) : okS q k S = true := by
  rw [okS, decide_eq_true h1, decide_eq_true h2]; rfl
theorem start_ok {q : ByteArray} {k : Nat} (hk : k ≤ 3) : okS q k (startS q k) = true :=
  okS_of (start_size q k) fun i hi => by rw [start_size] at hi; rw [at_start hk (by omega)]; omega
theorem step_size {q : ByteArray} {k : Nat} {S : ByteArray} {b : Nat} (h : okS q k S = true) : (stepS q k S b).size = q.size + 1 := by rw [stepS, if_pos h, bs_size, row_length]
theorem at_step {q : ByteArray} {k : Nat} {S : ByteArray} {b i : Nat} (h : okS q k S = true) (hk : k ≤ 3) (hi : i ≤ q.size) : at_ (stepS q k S b) i = cel (num q S b) k i := by
  rw [stepS, if_pos h, at_row _ _ _ _ (by omega) hk]
theorem step_ok {q : ByteArray} {k : Nat} {S : ByteArray} {b : Nat} (h : okS q k S = true) (hk : k ≤ 3) : okS q k (stepS q k S b) = true :=
  okS_of (step_size h) fun i hi => by rw [step_size h] at hi; rw [at_step h hk (by omega)]; exact cel_le _ _ _
theorem readN_ok {q : ByteArray} {k : Nat} {S T : ByteArray} (h : okS q k S = true) (hk : k ≤ 3) : ∀ n, okS q k (readN q k S T n) = true
  | 0 => h
  | n + 1 => step_ok (readN_ok h hk n) hk
theorem readS_ok {q : ByteArray} {k : Nat} {S T : ByteArray} (h : okS q k S = true) (hk : k ≤ 3) : okS q k (readS q k S T) = true := readN_ok h hk _
theorem step_0 {q : ByteArray} {k : Nat} {S : ByteArray} {b : Nat} (h : okS q k S = true) (hk : k ≤ 3) : at_ (stepS q k S b) 0 = min (at_ S 0 + 1) (k + 1) := by rw [at_step h hk (Nat.zero_le _)]; rfl
theorem step_s {q : ByteArray} {k : Nat} {S : ByteArray} {b m : Nat} (h : okS q k S = true) (hk : k ≤ 3) (hm : m < q.size) :
    at_ (stepS q k S b) (m + 1) = min (min (min (at_ S m + if at_ q m = b then 0 else 1) (at_ (stepS q k S b) m + 1)) (at_ S (m + 1) + 1)) (k + 1) := by
  rw [at_step h hk (by omega), at_step h hk (by omega)]
  rfl
/-! what can't -/
theorem can_false {q : ByteArray} {k : Nat} {S : ByteArray} (h : okS q k S = true) : canS q k S = false ↔ ∀ i, i ≤ q.size → k < at_ S i := by
  rw [canS, h, Bool.true_and]
  constructor
  · intro h2 i hi
    rcases Nat.lt_or_ge k (at_ S i) with h3 | h3
    · exact h3
    · exact absurd ⟨i, by rw [okS_size h]; omega, h3⟩ (of_decide_eq_false h2)
  · intro h2
    refine decide_eq_false ?_
    rintro ⟨i, h3, h4⟩
    rw [okS_size h] at h3
    have := h2 i (by omega)
    omega
theorem is_eq {q : ByteArray} {k : Nat} {S : ByteArray} (h : okS q k S = true) : isS q k S = decide (at_ S q.size ≤ k) := by rw [isS, h, Bool.true_and]
theorem dead_step {q : ByteArray} {k : Nat} {S : ByteArray} {b : Nat} (h : okS q k S = true) (hk : k ≤ 3) (hd : canS q k S = false) : canS q k (stepS q k S b) = false := by
  rw [can_false (step_ok h hk)]
  have hd := (can_false h).1 hd
  intro i
  induction i with
  | zero => intro _; rw [step_0 h hk]; have := hd 0 (Nat.zero_le _); omega
  | succ m ih =>
    intro hm
    rw [step_s h hk (by omega)]
    have := ih (by omega); have := hd m (by omega); have := hd (m + 1) hm
    split <;> omega
theorem dead_is {q : ByteArray} {k : Nat} {S : ByteArray} (h : okS q k S = true) (hd : canS q k S = false) : isS q k S = false := by
  rw [is_eq h]
  have := (can_false h).1 hd q.size (Nat.le_refl _)
  exact decide_eq_false (by omega)
/-! what is left of q leads to a distance -/
theorem at_extract {q : ByteArray} {n j : Nat} (hj : n + j < q.size) : at_ (q.extract n q.size) j = at_ q (n + j) := by
  have h1 : j < (q.extract n q.size).size := by rw [ByteArray.size_extract]; omega
  rw [at_get h1, at_get hj]
  congr 1
  simp [ByteArray.getElem_eq_getElem_data, ByteArray.data_extract]
theorem way_read {q : ByteArray} {k : Nat} {S : ByteArray} {n : Nat} (h : okS q k S = true) (hk : k ≤ 3) (hn : n ≤ q.size) : ∀ j, n + j ≤ q.size → at_ (readN q k S (q.extract n q.size) j) (n + j) ≤ at_ S n
  | 0, _ => Nat.le_refl _
  | j + 1, hj => by
    have ih := way_read h hk hn j (by omega)
    show at_ (stepS q k (readN q k S (q.extract n q.size) j) (at_ (q.extract n q.size) j)) (n + j + 1) ≤ _
    rw [step_s (readN_ok h hk j) hk (by omega), at_extract (by omega), if_pos rfl]
    omega
theorem way_is {q : ByteArray} {k : Nat} {S : ByteArray} {n : Nat} (h : okS q k S = true) (hk : k ≤ 3) (hn : n ≤ q.size) (hs : at_ S n ≤ k) :
    isS q k (readS q k S (q.extract n q.size)) = true ∧ distS q k (readS q k S (q.extract n q.size)) ≤ at_ S n := by
  have hsz : (q.extract n q.size).size = q.size - n := by rw [ByteArray.size_extract]; omega
  have h1 := way_read h hk hn (q.size - n) (by omega)
  rw [show n + (q.size - n) = q.size by omega] at h1
  have h2 : isS q k (readS q k S (q.extract n q.size)) = true := by
    rw [readS, hsz, is_eq (readN_ok h hk _)]
    exact decide_eq_true (by omega)
  refine ⟨h2, ?_⟩
  rw [distS, if_pos h2, readS, hsz]
  exact h1
/-! two bounds -/
theorem cap_step {q : ByteArray} {k m : Nat} {S T : ByteArray} {b : Nat} (hkm : k ≤ m) (hm : m ≤ 3) (hS : okS q k S = true) (hT : okS q m T = true) (h : ∀ i, i ≤ q.size → at_ S i = min (at_ T i) (k + 1)) :
    ∀ i, i ≤ q.size → at_ (stepS q k S b) i = min (at_ (stepS q m T b) i) (k + 1) := by
  intro i
  induction i with
  | zero => intro _; rw [step_0 hS (by omega), step_0 hT hm, h 0 (Nat.zero_le _)]; omega
  | succ j ih =>
    intro hj
    rw [step_s hS (by omega) (by omega), step_s hT hm (by omega), ih (by omega), h j (by omega), h (j + 1) hj]
    split <;> omega
/-! bytes that a text has not -/
theorem cel_congr {f g : Nat → Nat → Nat} {k n : Nat} (h : ∀ i last, i ≤ n → f i last = g i last) : ∀ i, i ≤ n → cel f k i = cel g k i
  | 0, _ => by rw [cel, cel, h 0 0 (Nat.zero_le _)]
  | i + 1, hi => by rw [cel, cel, cel_congr h i (by omega), h (i + 1) _ hi]
theorem step_out {q : ByteArray} {k : Nat} {S : ByteArray} {b c : Nat} (hb : inQ q b = false) (hc : inQ q c = false) : stepS q k S b = stepS q k S c := by
  unfold stepS
  split
  · congr 1
    unfold row
    refine List.map_congr_left fun i hi => ?_
    rw [cel_congr (n := q.size) (fun j last hj => ?_) i (by have := List.mem_range.1 hi; omega)]
    cases j with
    | zero => rfl
    | succ m =>
      have no : ∀ d, inQ q d = false → at_ q m ≠ d := fun d hd e => by
        have h9 := (inQ_iff q d).2 ⟨m, by omega, e⟩
        rw [hd] at h9; cases h9
      simp only [num, if_neg (no b hb), if_neg (no c hc)]
  · rfl
theorem away_out {q : ByteArray} {k : Nat} {S : ByteArray} {b : Nat} (hb : b < 256) (h : inQ q b = false) : stepS q k S b = awayS q k S := by
  unfold awayS
  cases ho : outB q with
  | none =>
    rw [outB, List.find?_eq_none] at ho
    have := ho b (by simpa using hb)
    simp [h] at this
  | some c =>
    have hc : inQ q c = false := by
      have := List.find?_some ho
      simpa using this
    exact step_out h hc
theorem bytesS_mem {q : ByteArray} {k : Nat} {S : ByteArray} {b : Nat} (hok : okS q k S = true) : b ∈ bytesS q k S ↔ b < 256 ∧ inQ q b = true ∧ stepS q k S b ≠ awayS q k S := by
  rw [bytesS, if_pos hok, List.mem_filter, List.mem_range, Bool.and_eq_true, decide_eq_true_iff]
theorem bytesS_rising (q : ByteArray) (k : Nat) (S : ByteArray) : (bytesS q k S).Pairwise (· < ·) := by
  unfold bytesS
  split
  · exact List.Pairwise.filter _ List.pairwise_lt_range
  · exact List.Pairwise.nil
theorem bytesS_length (q : ByteArray) (k : Nat) (S : ByteArray) : (bytesS q k S).length ≤ 256 := by
  unfold bytesS
  split
  · exact Nat.le_trans (List.length_filter_le _ _) (by simp)
  · exact Nat.zero_le _
theorem not_told {q : ByteArray} {k : Nat} {S : ByteArray} {b : Nat} (hok : okS q k S = true) (hb : b < 256) (h : b ∉ bytesS q k S) : stepS q k S b = awayS q k S := by
  cases hq : inQ q b with
  | false => exact away_out hb hq
  | true =>
    by_cases he : stepS q k S b = awayS q k S
    · exact he
    · exact absurd ((bytesS_mem hok).2 ⟨hb, hq, he⟩) h
theorem range_sub {n : Nat} {l : List Nat} (h : ∀ b, b < n → b ∈ l) : n ≤ l.length := by
  have h1 : (List.range n).length ≤ l.length := (List.nodup_range (n := n)).length_le_of_subset (fun x hx => h x (List.mem_range.1 hx))
  simpa using h1
/-- of so few bytes some byte is not -/
theorem some_out {q : ByteArray} (hq : q.size ≤ 255) : ∃ b, b < 256 ∧ inQ q b = false := by
  apply Classical.byContradiction
  intro hn
  have hall : ∀ b, b < 256 → b ∈ (List.range q.size).map (at_ q) := fun b hb => by
    cases h : inQ q b with
    | false => exact absurd ⟨b, hb, h⟩ hn
    | true =>
      obtain ⟨i, h1, h2⟩ := (inQ_iff q b).1 h
      exact List.mem_map.2 ⟨i, List.mem_range.2 h1, h2⟩
  have := range_sub hall
  simp at this
  omega
end Lv
end Go.Proofs.Ytfgfichkcckhiaa
