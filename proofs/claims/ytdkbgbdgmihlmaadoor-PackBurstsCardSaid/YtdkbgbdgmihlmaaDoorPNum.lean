/- Numbers as bytes, texts as rows of numbers. -/
import Derived.Test.YtdkbgbdgmihlmaaDoorPBase
import Derived.Laws.BytesArg
import Derived.Lib.BitFns
import Derived.Lib.ItoaNum
namespace Go.Proofs.YtdkbgbdgmihlmaaDoor
open Go.RowKit
set_option linter.unusedSimpArgs false
set_option linter.unusedVariables false
set_option linter.unnecessarySimpa false
namespace Dw
def M64 : Nat := 18446744073709551616
/-- bytes as a text -/
def bl (l : List Nat) : ByteArray := strOfNums (l.map fun (x : Nat) => (x : Int))
def Small (l : List Nat) : Prop := ∀ x ∈ l, x < 256
theorem wl_bl {l : List Nat} (h : Small l) : wl (bl l) = l := by
  unfold wl bl
  rw [strOfNums_data, List.map_map, List.map_map]
  refine (List.map_congr_left fun x hx => ?_).trans (List.map_id _)
  have := h x hx
  simp
  omega
theorem wl_append (a b : ByteArray) : wl (a ++ b) = wl a ++ wl b := by
  unfold wl
  rw [← List.map_append, ByteArray.data_append, Array.toList_append]
theorem bl_wl (s : ByteArray) : bl (wl s) = s := wl_inj (wl_bl (wl_lt s))
theorem bl_inj {a b : List Nat} (ha : Small a) (hb : Small b) (h : bl a = bl b) : a = b := by rw [← wl_bl ha, ← wl_bl hb, h]
theorem bl_append (a b : List Nat) : bl (a ++ b) = bl a ++ bl b := by
  refine ByteArray.ext (Array.ext' ?_)
  rw [ByteArray.data_append, Array.toList_append]
  unfold bl
  rw [strOfNums_data, strOfNums_data, strOfNums_data, List.map_append, List.map_append]
theorem bl_nil : bl [] = ⟨#[]⟩ := rfl
theorem bl_size (l : List Nat) : (bl l).size = l.length := by unfold bl; rw [strOfNums_size, List.length_map]
theorem Small.append {a b : List Nat} (ha : Small a) (hb : Small b) : Small (a ++ b) := fun x hx => by
  rcases List.mem_append.1 hx with h | h
  · exact ha x h
  · exact hb x h
theorem Small.nil : Small [] := by simp [Small]
theorem Small.cons {x : Nat} {l : List Nat} (hx : x < 256) (hl : Small l) : Small (x :: l) := fun y hy => by
  rcases List.mem_cons.1 hy with rfl | h
  · exact hx
  · exact hl y h
/-! numbers -/
def lenB (n : Nat) : Nat := (Lib.bitLen n + 7) / 8
def leB : Nat → Nat → List Nat
  | 0, _ => []
  | m + 1, n => n % 256 :: leB m (n / 256)
def numB (n : Nat) : List Nat := if n < 248 then [n] else (247 + lenB n) :: leB (lenB n) n
theorem leB_length : ∀ (m n : Nat), (leB m n).length = m
  | 0, _ => rfl
  | m + 1, n => by simp [leB, leB_length m]
theorem leB_small : ∀ (m n : Nat), Small (leB m n)
  | 0, _ => by simp [Small, leB]
  | m + 1, n => Small.cons (Nat.mod_lt _ (by omega)) (leB_small m _)
theorem leB_snoc : ∀ (m n : Nat), leB (m + 1) n = leB m n ++ [n / 256 ^ m % 256]
  | 0, n => by simp [leB]
  | m + 1, n => by
    rw [leB, leB_snoc m (n / 256)]
    simp only [leB, List.cons_append]
    rw [Nat.div_div_eq_div_mul, Nat.pow_succ, Nat.mul_comm]
def ofLe : List Nat → Nat
  | [] => 0
  | x :: l => x + 256 * ofLe l
theorem ofLe_leB : ∀ (m n : Nat), n < 256 ^ m → ofLe (leB m n) = n
  | 0, n, h => by simp [leB, ofLe] at *; omega
  | m + 1, n, h => by
    rw [leB, ofLe, ofLe_leB m (n / 256) (by rw [Nat.pow_succ] at h; exact Nat.div_lt_of_lt_mul (by rw [Nat.mul_comm]; exact h))]
    omega
theorem leB_ofLe : ∀ (l : List Nat), Small l → leB l.length (ofLe l) = l
  | [], _ => rfl
  | x :: l, h => by
    have hx := h x (List.mem_cons_self ..)
    have hl : Small l := fun y hy => h y (List.mem_cons_of_mem _ hy)
    rw [List.length_cons, leB, ofLe]
    have e1 : (x + 256 * ofLe l) % 256 = x := by omega
    have e2 : (x + 256 * ofLe l) / 256 = ofLe l := by omega
    rw [e1, e2, leB_ofLe l hl]
theorem ofLe_lt : ∀ (l : List Nat), Small l → ofLe l < 256 ^ l.length
  | [], _ => by simp [ofLe]
  | x :: l, h => by
    have hx := h x (List.mem_cons_self ..)
    have hl := ofLe_lt l (fun y hy => h y (List.mem_cons_of_mem _ hy))
    rw [List.length_cons, ofLe, Nat.pow_succ]
    omega
theorem ofLe_snoc : ∀ (l : List Nat) (x : Nat), ofLe (l ++ [x]) = ofLe l + 256 ^ l.length * x
  | [], x => by simp [ofLe]
  | y :: l, x => by
    rw [List.cons_append, ofLe, ofLe_snoc l x, ofLe, List.length_cons, Nat.pow_succ, Nat.mul_add, ← Nat.add_assoc, ← Nat.mul_assoc, Nat.mul_comm 256 (256 ^ l.length)]
theorem pow256 (m : Nat) : 256 ^ m = 2 ^ (8 * m) := by rw [show (256 : Nat) = 2 ^ 8 from rfl, ← Nat.pow_mul]
theorem lenB_bounds {n : Nat} (h0 : 0 < n) (h : n < M64) : 1 ≤ lenB n ∧ lenB n ≤ 8 ∧ 256 ^ (lenB n - 1) ≤ n ∧ n < 256 ^ lenB n := by
  obtain ⟨h1, h2, h3⟩ := Lib.bitLenAux_bounds 64 n h (by omega)
  have e : Lib.bitLenAux 64 n = Lib.bitLen n := rfl
  rw [e] at h1 h2 h3
  have h64 : Lib.bitLen n ≤ 64 := by
    rcases Nat.lt_or_ge 64 (Lib.bitLen n) with h5 | h5
    · have h6 : 2 ^ 64 ≤ 2 ^ (Lib.bitLen n - 1) := Nat.pow_le_pow_right (by omega) (by omega)
      have h7 : M64 = 2 ^ 64 := rfl
      omega
    · exact h5
  unfold lenB
  refine ⟨by omega, by omega, ?_, ?_⟩
  · rw [pow256]
    exact Nat.le_trans (Nat.pow_le_pow_right (by omega) (by omega)) h2
  · rw [pow256]
    exact Nat.lt_of_lt_of_le h3 (Nat.pow_le_pow_right (by omega) (by omega))
theorem lenB_uniq {n k : Nat} (h : n < M64) (hk : 1 ≤ k) (h1 : 256 ^ (k - 1) ≤ n) (h2 : n < 256 ^ k) : lenB n = k := by
  have h0 : 0 < n := Nat.lt_of_lt_of_le (Nat.pow_pos (by omega)) h1
  obtain ⟨b1, b2, b3, b4⟩ := lenB_bounds h0 h
  rcases Nat.lt_trichotomy (lenB n) k with hl | hl | hl
  · have : 256 ^ lenB n ≤ 256 ^ (k - 1) := Nat.pow_le_pow_right (by omega) (by omega)
    omega
  · exact hl
  · have : 256 ^ k ≤ 256 ^ (lenB n - 1) := Nat.pow_le_pow_right (by omega) (by omega)
    omega
theorem numB_small {n : Nat} (h : n < M64) : Small (numB n) := by
  unfold numB
  split
  · exact Small.cons (by omega) Small.nil
  · obtain ⟨_, b2, _⟩ := lenB_bounds (show 0 < n by omega) h
    exact Small.cons (by omega) (leB_small _ _)
theorem numB_length (n : Nat) : (numB n).length = if n < 248 then 1 else 1 + lenB n := by
  unfold numB
  split
  · rfl
  · rw [List.length_cons, leB_length]; omega
theorem numB_le {n : Nat} (h : n < M64) : 1 ≤ (numB n).length ∧ (numB n).length ≤ 9 := by
  rw [numB_length]
  split
  · omega
  · obtain ⟨b1, b2, _⟩ := lenB_bounds (show 0 < n by omega) h
    omega
/-- a number read at a place: the number, the place behind it, a code -/
def getN (s : List Nat) (i : Nat) : Nat × Nat × Nat :=
  match s[i]? with
  | none => (0, i, 3)
  | some c => if c < 248 then (c, i + 1, 0) else
    if s.length - i ≤ c - 247 then (0, i, 3) else
    if (numB (ofLe ((s.drop (i + 1)).take (c - 247)))).length = 1 + (c - 247) then (ofLe ((s.drop (i + 1)).take (c - 247)), i + 1 + (c - 247), 0) else (0, i, 5)
theorem getN_num {n : Nat} (h : n < M64) (p r : List Nat) : getN (p ++ numB n ++ r) p.length = (n, p.length + (numB n).length, 0) := by
  unfold getN
  by_cases hn : n < 248
  · have e : numB n = [n] := by unfold numB; rw [if_pos hn]
    rw [e]
    simp [hn]
  · have e : numB n = (247 + lenB n) :: leB (lenB n) n := by unfold numB; rw [if_neg hn]
    obtain ⟨b1, b2, b3, b4⟩ := lenB_bounds (show 0 < n by omega) h
    have hl := leB_length (lenB n) n
    have h1 : (p ++ numB n ++ r)[p.length]? = some (247 + lenB n) := by rw [e]; simp
    have h2 : ((p ++ numB n ++ r).drop (p.length + 1)).take (lenB n) = leB (lenB n) n := by
      rw [e, show p ++ (247 + lenB n) :: leB (lenB n) n ++ r = (p ++ [247 + lenB n]) ++ (leB (lenB n) n ++ r) by simp, show p.length + 1 = (p ++ [247 + lenB n]).length by simp, List.drop_left, List.take_append_of_le_length (by omega), List.take_of_length_le (by omega)]
    rw [h1]
    simp only
    rw [if_neg (by omega), show 247 + lenB n - 247 = lenB n by omega, h2, ofLe_leB _ _ b4, numB_length, if_neg hn, if_neg (by
      rw [e]; simp; omega), if_pos rfl, show p.length + 1 + lenB n = p.length + (1 + lenB n) by omega]
theorem getN_canon {s : List Nat} (hs : Small s) {i n j : Nat} (h : getN s i = (n, j, 0)) : n < M64 ∧ s.drop i = numB n ++ s.drop j ∧ j = i + (numB n).length := by
  unfold getN at h
  split at h
  · simp at h
  · rename_i c hc
    have hlt := (List.getElem?_eq_some_iff.1 hc).1
    have hc8 := hs c (List.mem_of_getElem? hc)
    have hdr : s.drop i = c :: s.drop (i + 1) := drop_at hc
    split at h
    · rename_i h8
      simp only [Prod.mk.injEq] at h
      obtain ⟨rfl, rfl, _⟩ := h
      have e : numB c = [c] := by unfold numB; rw [if_pos h8]
      exact ⟨by unfold M64; omega, by rw [e, hdr]; rfl, by rw [e]; rfl⟩
    · rename_i h8
      split at h
      · simp at h
      · rename_i hlen
        split at h
        · rename_i hnb
          simp only [Prod.mk.injEq] at h
          obtain ⟨hn, rfl, _⟩ := h
          have hsm : Small ((s.drop (i + 1)).take (c - 247)) := fun x hx => hs x (List.mem_of_mem_drop (List.mem_of_mem_take hx))
          have hln : ((s.drop (i + 1)).take (c - 247)).length = c - 247 := by simp; omega
          have h7 : leB ((s.drop (i + 1)).take (c - 247)).length (ofLe ((s.drop (i + 1)).take (c - 247))) = (s.drop (i + 1)).take (c - 247) := leB_ofLe _ hsm
          rw [hln, hn] at h7
          have hb := ofLe_lt _ hsm
          rw [hn, hln] at hb
          rw [hn] at hnb
          have h64 : n < M64 := by
            have : 256 ^ (c - 247) ≤ 256 ^ 8 := Nat.pow_le_pow_right (by omega) (by omega)
            have e : M64 = 256 ^ 8 := rfl
            omega
          rw [numB_length] at hnb
          have h9 : ¬ n < 248 := fun h9 => by rw [if_pos h9] at hnb; omega
          rw [if_neg h9] at hnb
          have e : numB n = c :: (s.drop (i + 1)).take (c - 247) := by
            unfold numB
            rw [if_neg h9, show lenB n = c - 247 by omega, h7, show 247 + (c - 247) = c by omega]
          refine ⟨h64, ?_, ?_⟩
          · rw [e, hdr, List.cons_append, show i + 1 + (c - 247) = (c - 247) + (i + 1) by omega]
            refine congrArg (c :: ·) ?_
            conv => lhs; rw [← List.take_append_drop (c - 247) (s.drop (i + 1))]
            rw [List.drop_drop, show i + 1 + (c - 247) = (c - 247) + (i + 1) by omega]
          · rw [e, List.length_cons, hln]; omega
        · simp at h
end Dw
end Go.Proofs.YtdkbgbdgmihlmaaDoor
