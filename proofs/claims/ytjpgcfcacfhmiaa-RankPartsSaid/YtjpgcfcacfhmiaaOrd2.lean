/- The document's comparison of hits, and lists that are alike; how often a hit is in a list. -/
import Derived.Test.YtjpgcfcacfhmiaaOrd
namespace Go.Proofs.Ytjpgcfcacfhmiaa
open Go.RowKit
set_option linter.unusedSimpArgs false
set_option linter.unusedVariables false
set_option linter.unnecessarySimpa false
theorem cI_neg (x y : Int) : cI x y < 0 ↔ x < y := by
  unfold cI
  split
  · simp_all
  · split <;> simp_all
theorem cI_zero (x y : Int) : cI x y = 0 ↔ x = y := by
  unfold cI
  split
  · simp; omega
  · split
    · simp; omega
    · simp; omega
theorem cW_neg (a b : List UInt8) : cW a b < 0 ↔ bl a b = true := by
  unfold cW
  split
  · simp_all
  · split <;> simp_all
theorem cW_zero (a b : List UInt8) : cW a b = 0 ↔ a = b := by
  unfold cW
  split
  · rename_i h
    exact ⟨fun h0 => absurd h0 (by omega), fun h0 => absurd h0 (bl_ne h)⟩
  · split <;> simp_all
theorem firstL_cons (c : Int) (l : List Int) : firstL (c :: l) = if c ≠ 0 then c else firstL l := rfl
/-- what the document says -/
def refLess (a b : Hit) : Bool :=
  if a.dist ≠ b.dist then decide (a.dist < b.dist)
  else if a.weight ≠ b.weight then decide (b.weight < a.weight)
  else if a.word.toList ≠ b.word.toList then bl a.word.toList b.word.toList
  else !a.gone && b.gone
theorem cmp_dist {a b : Hit} (h : a.dist ≠ b.dist) : cmpH a b = cI a.dist b.dist := by
  unfold cmpH; rw [firstL_cons, if_pos (by rw [Ne, cI_zero]; exact h)]
theorem cmp_weight {a b : Hit} (h1 : a.dist = b.dist) (h : a.weight ≠ b.weight) : cmpH a b = cI b.weight a.weight := by
  unfold cmpH; rw [firstL_cons, if_neg (by rw [(cI_zero _ _).2 h1]; simp), firstL_cons, if_pos (by rw [Ne, cI_zero]; exact fun e => h e.symm)]
theorem cmp_word {a b : Hit} (h1 : a.dist = b.dist) (h2 : a.weight = b.weight) (h : a.word.toList ≠ b.word.toList) : cmpH a b = cW a.word.toList b.word.toList := by
  unfold cmpH; rw [firstL_cons, if_neg (by rw [(cI_zero _ _).2 h1]; simp), firstL_cons, if_neg (by rw [(cI_zero _ _).2 h2.symm]; simp), firstL_cons, if_pos (by rw [Ne, cW_zero]; exact h)]
theorem cmp_gone {a b : Hit} (h1 : a.dist = b.dist) (h2 : a.weight = b.weight) (h3 : a.word.toList = b.word.toList) : cmpH a b = cI (bitI a.gone) (bitI b.gone) := by
  unfold cmpH; rw [firstL_cons, if_neg (by rw [(cI_zero _ _).2 h1]; simp), firstL_cons, if_neg (by rw [(cI_zero _ _).2 h2.symm]; simp), firstL_cons, if_neg (by rw [(cW_zero _ _).2 h3]; simp), firstL_cons]
  split
  · rfl
  · rename_i h
    have : cI (bitI a.gone) (bitI b.gone) = 0 := by simpa using h
    rw [this]; rfl
theorem less_ref (a b : Hit) : lessH a b = refLess a b := by
  unfold lessH refLess
  by_cases h1 : a.dist = b.dist
  · rw [if_neg (by simpa using h1)]
    by_cases h2 : a.weight = b.weight
    · rw [if_neg (by simpa using h2)]
      by_cases h3 : a.word.toList = b.word.toList
      · rw [if_neg (by simpa using h3), cmp_gone h1 h2 h3]
        cases a.gone <;> cases b.gone <;> rfl
      · rw [if_pos h3, cmp_word h1 h2 h3, Bool.eq_iff_iff, decide_eq_true_iff, cW_neg]
    · rw [if_pos h2, cmp_weight h1 h2, decide_eq_decide, cI_neg]
  · rw [if_pos h1, cmp_dist h1, decide_eq_decide, cI_neg]
set_option maxHeartbeats 2000000 in
theorem refLess19 (a b : Hit) (w : World) : Calls Try.prog 19 #[a.agg, b.agg] w fun e w' => e = .returned (.bool (lessH a b)) ∧ Below w.heap.size w w' := by
  rw [less_ref]
  obtain ⟨aw, at_, ag, ad⟩ := a
  obtain ⟨bw, bt, bg, bd⟩ := b
  simp only [Hit.agg, refLess]
  have hb : Below w.heap.size w ((w.alloc (.cells #[.string aw, .int .u32 at_, .bool ag, .int .i64 ad] 26)).alloc (.cells #[.string bw, .int .u32 bt, .bool bg, .int .i64 bd] 26)) := ((Below.refl _ _).alloc (Nat.le_refl _) _).alloc (by simp) _
  by_cases h1 : ad = bd
  · subst h1
    by_cases h2 : at_ = bt
    · subst h2
      by_cases h3 : aw.toList = bw.toList
      · have h3' : (aw.toList == bw.toList) = true := by simpa using h3
        cases ag
        all_goals
          go_enter Try.func19, Try.ntmps19
          go_wp2
          go_ret
          exact ⟨by simp, hb⟩
      · have h3' : (aw.toList == bw.toList) = false := by simpa using h3
        go_enter Try.func19, Try.ntmps19
        go_wp2
        go_ret
        exact ⟨by simp [h3], hb⟩
    · go_enter Try.func19, Try.ntmps19
      go_wp2
      go_ret
      exact ⟨by simp [h2], hb⟩
  · go_enter Try.func19, Try.ntmps19
    go_wp2
    go_ret
    exact ⟨by simp [h1], hb⟩
end Go.Proofs.Ytjpgcfcacfhmiaa
