/- Dawg: laws of the mirror. -/
import Derived.Test.YtgjfhedgdbbinaaDoorDMirror
namespace Go.Proofs.YtgjfhedgdbbinaaDoor
set_option linter.unusedSimpArgs false
set_option linter.unusedVariables false
namespace Dw
theorem closeN_short (n : Nat) (ss : List State) (way : List Open) (h : way.length ≤ 1) : closeN n ss way = (ss, way) := by
  cases n with
  | zero => simp [closeN]
  | succ n =>
    match way, h with
    | [], _ => rfl
    | [o], _ => rfl
theorem closeN_zero (ss : List State) (way : List Open) : closeN 0 ss way = (ss, way) := by cases way <;> rfl
theorem closeN_add (m n : Nat) : ∀ (ss : List State) (way : List Open), closeN (m + n) ss way = closeN n (closeN m ss way).1 (closeN m ss way).2 := by
  induction m with
  | zero => intro ss way; rw [Nat.zero_add, closeN_zero]
  | succ m ih =>
    intro ss way
    match way with
    | [] => rw [closeN_short (m + 1) _ _ (Nat.zero_le _), closeN_short (m + 1 + n) _ _ (Nat.zero_le _), closeN_short n _ _ (Nat.zero_le _)]
    | [o] => rw [closeN_short (m + 1) _ _ (Nat.le_refl _), closeN_short (m + 1 + n) _ _ (Nat.le_refl _), closeN_short n _ _ (Nat.le_refl _)]
    | o :: up :: way =>
      rw [show m + 1 + n = (m + n) + 1 by omega]
      show closeN (m + n) (close1 ss up o).1 ((close1 ss up o).2 :: way) = _
      rw [ih]
      rfl
theorem closeN_length (n : Nat) : ∀ (ss : List State) (way : List Open), n < way.length → (closeN n ss way).2.length = way.length - n := by
  induction n with
  | zero => intro ss way h; rw [closeN_zero]; rfl
  | succ n ih =>
    intro ss way h
    match way, h with
    | [o], h => simp at h
    | o :: up :: way, h =>
      show (closeN n (close1 ss up o).1 ((close1 ss up o).2 :: way)).2.length = _
      rw [ih _ _ (by simp at h ⊢; omega)]
      simp
theorem close_length (ss : List State) (way : List Open) (d : Nat) (h : d < way.length) : (close ss way d).2.length = d + 1 := by
  unfold close
  rw [closeN_length _ _ _ (by omega)]
  omega
/-- closed to b, then to a: closed to a -/
theorem close_close (ss : List State) (way : List Open) {a b : Nat} (hab : a ≤ b) (hb : b < way.length) : close (close ss way b).1 (close ss way b).2 a = close ss way a := by
  have hl := close_length ss way b hb
  unfold close at hl ⊢
  rw [hl, ← closeN_add]
  congr 1
  omega
theorem shared_self (a : List Nat) : shared a a = a.length := by
  induction a with
  | nil => rfl
  | cons x a ih => simp [shared, ih]
theorem shared_le (a b : List Nat) : shared a b ≤ b.length := by
  induction a generalizing b with
  | nil => simp [shared]
  | cons x a ih =>
    cases b with
    | nil => simp [shared]
    | cons y b =>
      simp only [shared]
      split
      · have := ih b; simp; omega
      · omega
theorem opens_length (way : List Open) (w : List Nat) : (opens way w).length = way.length + w.length := by
  induction w generalizing way with
  | nil => rfl
  | cons b w ih => rw [opens, ih]; simp; omega
theorem mark_length (v : Nat) (way : List Open) : (mark v way).length = way.length := by cases way <;> rfl
theorem adds_append (x : List State × List Open) (last : List Nat) (a b : List Wv) : adds x last (a ++ b) = adds (adds x last a) ((a.getLast?.map Prod.fst).getD last) b := by
  induction a generalizing x last with
  | nil => rfl
  | cons e a ih =>
    rw [List.cons_append, adds, ih, adds]
    congr 1
    cases a with
    | nil => rfl
    | cons f a =>
      rw [List.getLast?_cons_cons]
      obtain ⟨y, hy⟩ : ∃ y, (f :: a).getLast? = some y := ⟨_, List.getLast?_eq_some_getLast (by simp)⟩
      rw [hy]; rfl
end Dw
end Go.Proofs.YtgjfhedgdbbinaaDoor
