/- Lev: which runes of a text are so high, or so low: strings.ContainsFunc at the two predicates of lev. -/
import Derived.Test.YtfgfichkcckhiaaLRow
import Derived.Laws.RangeAny
import Derived.Shelf.GgClosure.StringsRunes
namespace Go.Proofs.Ytfgfichkcckhiaa
open Go.RowKit Go.Shelf
set_option linter.unusedSimpArgs false
set_option linter.unusedVariables false
namespace Lv
theorem idx_from (p : Nat → Bool) (s : ByteArray) (hp : ∀ i, i < s.size → 128 ≤ at_ s i → p (Utf8.decode s i).1 = p (at_ s i) ∧ (p (at_ s i) = true ∨ ∀ j, j < s.size → at_ s j < 128)) :
    ∀ f pos, s.size ≤ pos + f → (0 ≤ Lib.idxFuncFrom p true s f pos ↔ ∃ i, pos ≤ i ∧ i < s.size ∧ p (at_ s i) = true)
  | 0, pos, h => by
    simp only [Lib.idxFuncFrom]
    constructor
    · intro h; omega
    · rintro ⟨i, h1, h2, _⟩; omega
  | f + 1, pos, h => by
    simp only [Lib.idxFuncFrom]
    by_cases hps : pos < s.size
    · rw [if_pos hps]
      rcases Nat.lt_or_ge (at_ s pos) 128 with ha | ha
      · rw [show Utf8.decode s pos = (at_ s pos, 1) by rw [decode_ascii s pos hps (by rw [← at_get hps]; exact ha), at_get hps]]
        by_cases hpp : p (at_ s pos) = true
        · rw [if_pos hpp]
          exact ⟨fun _ => ⟨pos, Nat.le_refl _, hps, hpp⟩, fun _ => by omega⟩
        · rw [if_neg hpp, idx_from p s hp f (pos + 1) (by omega)]
          constructor
          · rintro ⟨i, h1, h2, h3⟩; exact ⟨i, by omega, h2, h3⟩
          · rintro ⟨i, h1, h2, h3⟩
            refine ⟨i, ?_, h2, h3⟩
            rcases Nat.lt_or_ge pos i with h4 | h4
            · exact h4
            · obtain rfl : i = pos := by omega
              exact absurd h3 hpp
      · obtain ⟨h1, h2⟩ := hp pos hps ha
        rcases h2 with h2 | h2
        · rw [if_pos (h1.trans h2)]
          exact ⟨fun _ => ⟨pos, Nat.le_refl _, hps, h2⟩, fun _ => by omega⟩
        · exact absurd (h2 pos hps) (by omega)
    · rw [if_neg hps]
      constructor
      · intro h; omega
      · rintro ⟨i, h1, h2, _⟩; omega
theorem idx_high (K : Nat) (hK : K < 128) (s : ByteArray) : decide (0 ≤ Lib.idxFunc (fun r => decide (K < r)) true s) = decide (∃ i, i < s.size ∧ K < at_ s i) := by
  have h := idx_from (fun r => decide (K < r)) s (fun i hi ha => by
    have h1 := (decode_high s i hi (by rw [← at_get hi]; exact ha)).1
    exact ⟨by rw [decide_eq_true (by omega), decide_eq_true (by omega)], .inl (decide_eq_true (by omega))⟩) s.size 0 (by omega)
  refine decide_eq_decide.2 ⟨fun hx => ?_, fun hx => ?_⟩
  · obtain ⟨i, _, h2, h3⟩ := h.1 hx
    exact ⟨i, h2, of_decide_eq_true h3⟩
  · obtain ⟨i, h2, h3⟩ := hx
    exact h.2 ⟨i, Nat.zero_le _, h2, decide_eq_true h3⟩
theorem idx_low (K : Nat) (s : ByteArray) (hs : ∀ i, i < s.size → at_ s i < 128) : decide (0 ≤ Lib.idxFunc (fun r => decide (r ≤ K)) true s) = decide (∃ i, i < s.size ∧ at_ s i ≤ K) := by
  have h := idx_from (fun r => decide (r ≤ K)) s (fun i hi ha => by have := hs i hi; omega) s.size 0 (by omega)
  refine decide_eq_decide.2 ⟨fun hx => ?_, fun hx => ?_⟩
  · obtain ⟨i, _, h2, h3⟩ := h.1 hx
    exact ⟨i, h2, of_decide_eq_true h3⟩
  · obtain ⟨i, h2, h3⟩ := hx
    exact h.2 ⟨i, Nat.zero_le _, h2, decide_eq_true h3⟩
/-- is$1 over all runes -/
theorem high37 (W : World) (ga g : Nat) (q : ByteArray) (k : Nat) (S : ByteArray) (h3 : W.cell? ⟨ga, 0, none⟩ = some (.pointer (some ⟨g, 0, none⟩))) (hA : At W g q k) :
    Calls Try.prog 37 #[.string S, .func (.func 52) #[] #[.pointer (some ⟨ga, 0, none⟩)]] W fun e w' => e = .returned (.bool (decide (∃ i, i < S.size ∧ k + 1 < at_ S i))) ∧ Below W.heap.size W w' := by
  have hk := hA.hk
  refine (Try.strings_ContainsFunc_runes 52 #[.pointer (some ⟨ga, 0, none⟩)] (enters_of Try.func52 (by kernel_rfl) rfl) (fun r => decide (k + 1 < r)) S W (fun W1 x hx hb => ?_)).mono ?_
  · refine (is52 W1 ga g q k x (cell_later hb h3) (hA.later hb) (by omega) (by omega)).mono ?_
    rintro e w1 ⟨rfl, rfl⟩
    refine ⟨?_, 0, rfl⟩
    congr 2
    exact decide_eq_decide.2 (by omega)
  · rintro e w' ⟨rfl, hb⟩
    exact ⟨by rw [idx_high _ (by omega)], hb⟩
set_option maxHeartbeats 2000000 in
set_option maxRecDepth 1000000 in
theorem low66 (w : World) (g : Nat) (q : ByteArray) (k : Nat) (s : ByteArray) (hA : At w g q k) :
    Calls Try.prog 66 #[.string s, .func (.func 38) #[.pointer (some ⟨g, 0, none⟩)] #[], .bool true] w fun e w' => e = .returned (.int .i64 (Lib.idxFunc (fun r => decide (r ≤ k)) true s)) ∧ Below w.heap.size w w' := by
  go_enter Try.func66, Try.ntmps66
  go_wp2
  go_loopg [] s.size (fun gf wx => ∃ pos : Nat, wx.heap[w.heap.size]? = some (.stringIter s pos) ∧ Below w.heap.size w wx ∧ Lib.idxFuncFrom (fun r => decide (r ≤ k)) true s gf pos = Lib.idxFunc (fun r => decide (r ≤ k)) true s ∧ s.size ≤ pos + gf)
  case atStart => exact ⟨0, World.iter_heap w s 0, (Below.refl _ w).alloc (Nat.le_refl _) _, rfl, by omega⟩
  case round =>
    obtain ⟨pos, hit, hbw, hleft, hfu⟩ := hrel
    by_cases hps : pos < s.size
    · obtain ⟨g', rfl⟩ : ∃ g', gk = g' + 1 := ⟨gk - 1, by omega⟩
      have hnx : ∀ ty, (Instr.next (.pointer (some ⟨w.heap.size, 0, none⟩)) true ty).run Try.prog wr = _ := fun ty => Lib.run_next_any_at wr w.heap.size s pos ty hit hps
      have hwd := Lib.width_pos s pos
      have hmx : (Utf8.decode s pos).1 ≤ 2147483647 := decode_le s pos
      obtain ⟨R, hR⟩ : ∃ R, (Utf8.decode s pos).1 = R := ⟨_, rfl⟩
      obtain ⟨K, hK⟩ : ∃ K, (Utf8.decode s pos).2 = K := ⟨_, rfl⟩
      simp only [Lib.idxFuncFrom, hps, if_true, hR, hK] at hleft
      rw [hR, hK] at hnx
      rw [hR] at hmx
      rw [hK] at hwd
      have hit2 := Lib.iterAt_heap wr w.heap.size s pos (pos + K) hit
      have hbw2 := Lib.below_iterAt hbw (k := w.heap.size) (Nat.le_refl _) s (pos + K)
      obtain ⟨W, hWd⟩ : ∃ W, wr.iterAt w.heap.size s (pos + K) = W := ⟨_, rfl⟩
      rw [hWd] at hnx hit2 hbw2
      have cS := within38 W g q k (R : Int) (hA.later hbw2) (by omega) (by omega)
      by_cases hsp : R ≤ k
      · have e1 : decide ((R : Int) ≤ (k : Int)) = true := decide_eq_true (by omega)
        rw [e1] at cS
        rw [if_pos (decide_eq_true hsp)] at hleft
        go_wp2_with (go_at_call 38; refine cS.mono ?_; rintro e W' ⟨rfl, rfl⟩)
        go_ret
        exact ⟨by rw [← hleft] <;> rfl, hbw2⟩
      · have e1 : decide ((R : Int) ≤ (k : Int)) = false := decide_eq_false (by omega)
        rw [e1] at cS
        rw [if_neg (by simpa using hsp)] at hleft
        go_wp2_with (go_at_call 38; refine cS.mono ?_; rintro e W' ⟨rfl, rfl⟩)
        go_roundg g'
        case measure => omega
        case rel => exact ⟨pos + K, hit2, hbw2, hleft, by omega⟩
    · have hnx : ∀ ty, (Instr.next (.pointer (some ⟨w.heap.size, 0, none⟩)) true ty).run Try.prog wr = _ := fun ty => Lib.run_next_end_at wr w.heap.size s pos ty hit hps
      rw [Lib.idxFuncFrom_end _ true s gk pos hps] at hleft
      go_wp2
      go_ret
      exact ⟨by rw [← hleft] <;> rfl, hbw⟩
/-- within over all runes of a text whose bytes are low -/
theorem low37 (w : World) (g : Nat) (q : ByteArray) (k : Nat) (s : ByteArray) (hA : At w g q k) (hs : ∀ i, i < s.size → at_ s i < 128) :
    Calls Try.prog 37 #[.string s, .func (.func 38) #[.pointer (some ⟨g, 0, none⟩)] #[]] w fun e w' => e = .returned (.bool (decide (∃ i, i < s.size ∧ at_ s i ≤ k))) ∧ Below w.heap.size w w' := by
  rw [← idx_low k s hs]
  go_enter Try.func37, Try.ntmps37
  have c53 : Calls Try.prog 53 #[.string s, .func (.func 38) #[.pointer (some ⟨g, 0, none⟩)] #[]] w fun e w' => e = .returned (.int .i64 (Lib.idxFunc (fun r => decide (r ≤ k)) true s)) ∧ Below w.heap.size w w' := by
    go_enter Try.func53, Try.ntmps53
    go_wp2_with (go_at_call 66; refine (low66 w g q k s hA).mono ?_; rintro e W' ⟨rfl, hb⟩)
    go_ret
    exact ⟨rfl, hb⟩
  go_wp2_with (go_at_call 53; refine c53.mono ?_; rintro e W' ⟨rfl, hb⟩)
  go_ret
  exact ⟨rfl, hb⟩
end Lv
end Go.Proofs.Ytfgfichkcckhiaa
