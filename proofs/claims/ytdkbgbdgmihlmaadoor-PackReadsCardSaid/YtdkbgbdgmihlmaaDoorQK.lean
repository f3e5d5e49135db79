/- Pack: the sum of bytes, bit by bit and by halves of bytes: one and the same; it is linear, so that it tells each short burst. -/
import Derived.Laws.BitsAllLaws
namespace Go.Proofs.YtdkbgbdgmihlmaaDoor
set_option linter.unusedSimpArgs false
set_option linter.unusedVariables false
set_option linter.unnecessarySimpa false
namespace Crc
def poly : Nat := 0xEDB88320
/-- one bit further, nothing coming -/
def L (n : Nat) : Nat := if n % 2 = 1 then (n / 2) ^^^ poly else n / 2
/-- one bit further, a bit coming -/
def bit (n b : Nat) : Nat := if n % 2 = b then n / 2 else (n / 2) ^^^ poly
def byte (n c : Nat) : Nat := bit (bit (bit (bit (bit (bit (bit (bit n (c % 2)) (c / 2 % 2)) (c / 4 % 2)) (c / 8 % 2)) (c / 16 % 2)) (c / 32 % 2)) (c / 64 % 2)) (c / 128 % 2)
def T (x : Nat) : Nat := L (L (L (L x)))
/-- half a byte further -/
def nib (n h : Nat) : Nat := (n / 16) ^^^ T ((n % 16) ^^^ h)
theorem xor_mod2 (a b : Nat) : (a ^^^ b) % 2 = (a % 2 + b % 2) % 2 := by
  have h := Nat.xor_mod_two_pow (a := a) (b := b) (n := 1)
  rw [show (2:Nat)^1 = 2 from rfl] at h
  rw [h]
  rcases Nat.mod_two_eq_zero_or_one a with ha | ha <;> rcases Nat.mod_two_eq_zero_or_one b with hb | hb <;> simp [ha, hb]
theorem L_xor (a b : Nat) : L (a ^^^ b) = L a ^^^ L b := by
  unfold L
  have h1 := xor_mod2 a b
  have h2 : (a ^^^ b) / 2 = a / 2 ^^^ b / 2 := Nat.xor_div_two
  rw [h1, h2]
  rcases Nat.mod_two_eq_zero_or_one a with ha | ha <;> rcases Nat.mod_two_eq_zero_or_one b with hb | hb <;> simp [ha, hb]
  · rw [Nat.xor_assoc]
  · rw [Nat.xor_assoc, Nat.xor_assoc, Nat.xor_comm poly]
  · rw [Nat.xor_assoc, ← Nat.xor_assoc poly, Nat.xor_comm poly (b / 2), Nat.xor_assoc, Nat.xor_self, Nat.xor_zero]
theorem L_zero : L 0 = 0 := rfl
theorem bit_L (n b : Nat) (hb : b < 2) : bit n b = L (n ^^^ b) := by
  unfold bit L
  have h2 : (n ^^^ b) / 2 = n / 2 := by rw [Nat.xor_div_two, show b / 2 = 0 by omega, Nat.xor_zero]
  have h1 := xor_mod2 n b
  rw [h1, h2]
  rcases Nat.mod_two_eq_zero_or_one n with ha | ha <;> rcases (show b = 0 ∨ b = 1 by omega) with rfl | rfl <;> simp [ha]
theorem L_double (x : Nat) : L (2 * x) = x := by unfold L; simp
theorem L_16 (x : Nat) : L (L (L (L (16 * x)))) = x := by
  rw [show 16 * x = 2 * (2 * (2 * (2 * x))) by omega, L_double, L_double, L_double, L_double]
theorem xor_parts (n : Nat) : n = (16 * (n / 16)) ^^^ (n % 16) := by
  refine Nat.eq_of_testBit_eq fun i => ?_
  rw [Nat.testBit_xor, show (16 : Nat) * (n / 16) = 2 ^ 4 * (n / 2 ^ 4) from rfl, show n % 16 = n % 2 ^ 4 from rfl, Nat.testBit_two_pow_mul, Nat.testBit_div_two_pow, Nat.testBit_mod_two_pow]
  by_cases h : i < 4
  · have h' : ¬ i ≥ 4 := by omega
    simp [h, h']
  · have h' : i ≥ 4 := by omega
    simp [h, h', show i - 4 + 4 = i by omega]
/-- four bits, one by one or at once -/
theorem nib_bits (n h : Nat) (hh : h < 16) : bit (bit (bit (bit n (h % 2)) (h / 2 % 2)) (h / 4 % 2)) (h / 8 % 2) = nib n h := by
  have b0 : h % 2 < 2 := by omega
  have b1 : h / 2 % 2 < 2 := by omega
  have b2 : h / 4 % 2 < 2 := by omega
  have b3 : h / 8 % 2 < 2 := by omega
  rw [bit_L _ _ b0, bit_L _ _ b1, bit_L _ _ b2, bit_L _ _ b3]
  unfold nib T
  conv => lhs; rw [xor_parts n]
  simp only [L_xor]
  rw [L_16]
  have hs : ∀ h, h < 16 → L (L (L (L (h % 2)))) ^^^ (L (L (L (h / 2 % 2))) ^^^ (L (L (h / 4 % 2)) ^^^ L (h / 8 % 2))) = L (L (L (L h))) := by decide
  have hs' := hs h hh
  rw [← hs']
  simp only [Nat.xor_assoc]
theorem nib_lt (n h : Nat) (hn : n < 4294967296) (hh : h < 16) : nib n h < 4294967296 := by
  have ht : ∀ x, x < 16 → T x < 4294967296 := by decide
  have hx : (n % 16) ^^^ h < 2 ^ 4 := Nat.xor_lt_two_pow (by omega) (by omega)
  exact Nat.xor_lt_two_pow (n := 32) (by omega) (ht _ (by omega))
theorem byte_nib (n c : Nat) (hc : c < 256) : byte n c = nib (nib n (c % 16)) (c / 16) := by
  rw [← nib_bits _ _ (show c % 16 < 16 by omega), ← nib_bits _ _ (show c / 16 < 16 by omega)]
  unfold byte
  rw [show c % 16 % 2 = c % 2 by omega, show c % 16 / 2 % 2 = c / 2 % 2 by omega, show c % 16 / 4 % 2 = c / 4 % 2 by omega, show c % 16 / 8 % 2 = c / 8 % 2 by omega,
    show c / 16 / 2 % 2 = c / 32 % 2 by omega, show c / 16 / 4 % 2 = c / 64 % 2 by omega, show c / 16 / 8 % 2 = c / 128 % 2 by omega]
theorem byte_lt (n c : Nat) (hn : n < 4294967296) (hc : c < 256) : byte n c < 4294967296 := by
  rw [byte_nib n c hc]
  exact nib_lt _ _ (nib_lt _ _ hn (by omega)) (by omega)
/-- the sum of bytes behind one -/
def run (n : Nat) (l : List Nat) : Nat := l.foldl byte n
theorem run_lt (l : List Nat) : (∀ x ∈ l, x < 256) → ∀ n, n < 4294967296 → run n l < 4294967296 := by
  induction l with
  | nil => exact fun _ n h => h
  | cons c l ih => exact fun hs n h => ih (fun x hx => hs x (List.mem_cons_of_mem _ hx)) _ (byte_lt _ _ h (hs c (List.mem_cons_self ..)))
def sum (l : List Nat) : Nat := 4294967295 - run 4294967295 l
theorem sum_lt (l : List Nat) : sum l < 4294967296 := by unfold sum; omega
/-- four bytes, the lowest first -/
def four (n : Nat) : List Nat := [n % 256, n / 256 % 256, n / 65536 % 256, n / 16777216 % 256]
def seal' (l : List Nat) : List Nat := l ++ four (sum l)
/-- what is under a seal, if it is one -/
def opened (l : List Nat) : Option (List Nat) := if 4 ≤ l.length ∧ seal' (l.take (l.length - 4)) = l then some (l.take (l.length - 4)) else none
theorem seal_length (l : List Nat) : (seal' l).length = l.length + 4 := by simp [seal', four]
theorem opened_seal (l : List Nat) : opened (seal' l) = some l := by
  unfold opened
  have h : (seal' l).take ((seal' l).length - 4) = l := by rw [seal_length]; simp [seal']
  rw [h, if_pos ⟨by rw [seal_length]; omega, rfl⟩]
theorem opened_some {l b : List Nat} (h : opened l = some b) : l = seal' b := by
  unfold opened at h
  split at h
  · rename_i hc
    injection h with h
    rw [← h]; exact hc.2.symm
  · cases h
end Crc
end Go.Proofs.YtdkbgbdgmihlmaaDoor

namespace Go.Proofs.YtdkbgbdgmihlmaaDoor
set_option linter.unusedSimpArgs false
set_option linter.unusedVariables false
set_option linter.unnecessarySimpa false
namespace Crc
/-- L so many times -/
def Lk : Nat → Nat → Nat
  | 0, x => x
  | k + 1, x => Lk k (L x)
theorem Lk_xor : ∀ (k a b : Nat), Lk k (a ^^^ b) = Lk k a ^^^ Lk k b
  | 0, a, b => rfl
  | k + 1, a, b => by rw [Lk, Lk, Lk, L_xor, Lk_xor k]
theorem Lk_zero : ∀ k, Lk k 0 = 0
  | 0 => rfl
  | k + 1 => by rw [Lk, L_zero, Lk_zero k]
theorem Lk_pow : ∀ (k x : Nat), Lk k (2 ^ k * x) = x
  | 0, x => by simp [Lk]
  | k + 1, x => by rw [Lk, show 2 ^ (k + 1) * x = 2 * (2 ^ k * x) by rw [Nat.pow_succ, Nat.mul_comm (2 ^ k) 2, Nat.mul_assoc], L_double, Lk_pow k]
theorem Lk_add : ∀ (j k x : Nat), Lk (j + k) x = Lk k (Lk j x)
  | 0, k, x => by simp [Lk]
  | j + 1, k, x => by rw [show j + 1 + k = (j + k) + 1 by omega, Lk, Lk, Lk_add j k]
theorem L_lt {x : Nat} (h : x < 4294967296) : L x < 4294967296 := by
  unfold L
  split
  · exact Nat.xor_lt_two_pow (n := 32) (by omega) (by decide)
  · omega
theorem L_ne {x : Nat} (h : x < 4294967296) (h0 : x ≠ 0) : L x ≠ 0 := by
  unfold L
  split
  · intro e
    have h1 : (x / 2 ^^^ poly).testBit 31 = false := by rw [e]; simp
    rw [Nat.testBit_xor, Nat.testBit_lt_two_pow (show x / 2 < 2 ^ 31 by omega)] at h1
    exact absurd h1 (by decide)
  · omega
theorem Lk_ne : ∀ (k : Nat) {x : Nat}, x < 4294967296 → x ≠ 0 → Lk k x ≠ 0
  | 0, _, _, h0 => h0
  | k + 1, _, h, h0 => Lk_ne k (L_lt h) (L_ne h h0)
/-- bits as a number -/
def val : List Nat → Nat
  | [] => 0
  | b :: l => b + 2 * val l
theorem fold_val : ∀ (l : List Nat) (d : Nat), (∀ b ∈ l, b < 2) → l.foldl bit d = Lk l.length (d ^^^ val l)
  | [], d, _ => by simp [Lk, val]
  | b :: l, d, h => by
    have hb := h b (List.mem_cons_self ..)
    rw [List.foldl_cons, fold_val l _ (fun x hx => h x (List.mem_cons_of_mem _ hx)), List.length_cons, Lk, val, bit_L _ _ hb]
    have e : b + 2 * val l = b ^^^ (2 * val l) := by
      rcases (show b = 0 ∨ b = 1 by omega) with rfl | rfl
      · simp
      · refine Nat.eq_of_testBit_eq fun i => ?_
        rw [Nat.testBit_xor]
        cases i with
        | zero => simp
        | succ i =>
          rw [Nat.testBit_succ, Nat.testBit_succ, Nat.testBit_succ, show (1 + 2 * val l) / 2 = val l by omega, show (1 : Nat) / 2 = 0 by rfl, show 2 * val l / 2 = val l by omega]
          simp
    rw [e, ← Nat.xor_assoc, L_xor (d ^^^ b) (2 * val l), L_double]
theorem val_lt : ∀ (l : List Nat), (∀ b ∈ l, b < 2) → val l < 2 ^ l.length
  | [], _ => by simp [val]
  | b :: l, h => by
    have h1 := val_lt l fun x hx => h x (List.mem_cons_of_mem _ hx)
    have h2 := h b (List.mem_cons_self ..)
    rw [val, List.length_cons, Nat.pow_succ]
    omega
theorem val_append : ∀ (a b : List Nat), val (a ++ b) = val a + 2 ^ a.length * val b
  | [], b => by simp [val]
  | x :: a, b => by
    rw [List.cons_append, val, val, val_append a b, List.length_cons, Nat.pow_succ, Nat.mul_add, ← Nat.mul_assoc, Nat.mul_comm 2 (2 ^ a.length), Nat.add_assoc]
theorem val_zeros : ∀ (l : List Nat), (∀ b ∈ l, b = 0) → val l = 0
  | [], _ => rfl
  | b :: l, h => by rw [val, val_zeros l fun x hx => h x (List.mem_cons_of_mem _ hx), h b (List.mem_cons_self ..)]
theorem zeros_val : ∀ (l : List Nat), val l = 0 → ∀ b ∈ l, b = 0
  | [], _, _, hb => by cases hb
  | x :: l, h, b, hb => by
    rw [val] at h
    rcases List.mem_cons.1 hb with rfl | hb
    · omega
    · exact zeros_val l (by omega) b hb
/-- bits that are all 0 but for 32 neighbours leave something, if any is 1 -/
theorem burst_bits {l : List Nat} (h : ∀ b ∈ l, b < 2) (p : Nat) (hp : ∀ i b, l[i]? = some b → i < p ∨ p + 32 ≤ i → b = 0) (h0 : l.foldl bit 0 = 0) : ∀ b ∈ l, b = 0 := by
  rw [fold_val l 0 h, Nat.zero_xor] at h0
  rcases Nat.lt_or_ge l.length p with hl | hl
  · intro b hb
    obtain ⟨i, hi⟩ := List.mem_iff_getElem?.1 hb
    exact hp i b hi (.inl (by have := (List.getElem?_eq_some_iff.1 hi).1; omega))
  · have e1 : val (l.take p) = 0 := val_zeros _ fun b hb => by
      obtain ⟨i, hi⟩ := List.mem_iff_getElem?.1 hb
      rw [List.getElem?_take] at hi
      split at hi
      · exact hp i b hi (.inl (by assumption))
      · cases hi
    have e2 : val ((l.drop p).drop 32) = 0 := val_zeros _ fun b hb => by
      obtain ⟨i, hi⟩ := List.mem_iff_getElem?.1 hb
      rw [List.drop_drop, List.getElem?_drop] at hi
      exact hp _ b hi (.inr (by omega))
    have e3 : val (l.drop p) < 4294967296 := by
      have h5 : l.drop p = (l.drop p).take 32 ++ (l.drop p).drop 32 := (List.take_append_drop ..).symm
      rw [h5, val_append, e2, Nat.mul_zero, Nat.add_zero]
      refine Nat.lt_of_lt_of_le (val_lt _ fun b hb => h b (List.mem_of_mem_drop (List.mem_of_mem_take hb))) ?_
      exact Nat.le_trans (Nat.pow_le_pow_right (by omega) (by rw [List.length_take]; exact Nat.min_le_left ..)) (Nat.le_refl (2 ^ 32))
    have e4 : val l = 2 ^ p * val (l.drop p) := by
      conv => lhs; rw [← List.take_append_drop p l]
      rw [val_append, e1, Nat.zero_add, List.length_take, Nat.min_eq_left hl]
    have e5 : val (l.drop p) = 0 := by
      refine Classical.byContradiction fun hne => ?_
      rw [e4, show l.length = p + (l.length - p) by omega, Lk_add, Lk_pow] at h0
      exact Lk_ne _ e3 hne h0
    exact zeros_val l (by rw [e4, e5, Nat.mul_zero])
/-- a byte's bits, the lowest first -/
def bits8 (c : Nat) : List Nat := [c % 2, c / 2 % 2, c / 4 % 2, c / 8 % 2, c / 16 % 2, c / 32 % 2, c / 64 % 2, c / 128 % 2]
def bitsOf (l : List Nat) : List Nat := l.flatMap bits8
theorem bitsOf_length (l : List Nat) : (bitsOf l).length = 8 * l.length := by
  induction l with
  | nil => rfl
  | cons c l ih => simp only [bitsOf, List.flatMap_cons, List.length_append, List.length_cons] at ih ⊢; rw [ih]; simp [bits8]; omega
theorem bitsOf_lt {l : List Nat} : ∀ b ∈ bitsOf l, b < 2 := fun b hb => by
  obtain ⟨c, _, h⟩ := List.mem_flatMap.1 hb
  simp [bits8] at h
  omega
theorem run_bits (l : List Nat) : ∀ n, run n l = (bitsOf l).foldl bit n := by
  induction l with
  | nil => exact fun _ => rfl
  | cons c l ih =>
    intro n
    have e : run n (c :: l) = run (byte n c) l := rfl
    rw [e, ih]
    simp only [bitsOf, List.flatMap_cons, List.foldl_append]
    rfl
theorem fold_xor : ∀ (a b : List Nat) (n m : Nat), a.length = b.length → (∀ x ∈ a, x < 2) → (∀ x ∈ b, x < 2) → a.foldl bit n ^^^ b.foldl bit m = (List.zipWith (· ^^^ ·) a b).foldl bit (n ^^^ m)
  | [], [], n, m, _, _, _ => rfl
  | x :: a, y :: b, n, m, hl, ha, hb => by
    have hx := ha x (List.mem_cons_self ..)
    have hy := hb y (List.mem_cons_self ..)
    rw [List.foldl_cons, List.foldl_cons, fold_xor a b _ _ (by simpa using hl) (fun z hz => ha z (List.mem_cons_of_mem _ hz)) (fun z hz => hb z (List.mem_cons_of_mem _ hz)), List.zipWith_cons_cons, List.foldl_cons]
    congr 1
    have hxy : x ^^^ y < 2 := Nat.xor_lt_two_pow (n := 1) (by omega) (by omega)
    rw [bit_L _ _ hx, bit_L _ _ hy, bit_L _ _ hxy, ← L_xor]
    congr 1
    simp only [Nat.xor_assoc]
    congr 1
    rw [← Nat.xor_assoc x m y, Nat.xor_comm x m, Nat.xor_assoc]
  | [], _ :: _, _, _, hl, _, _ => by simp at hl
  | _ :: _, [], _, _, hl, _, _ => by simp at hl
theorem four_bits (n : Nat) (h : n < 4294967296) : val (bitsOf (four n)) = n := by
  simp only [bitsOf, four, bits8, List.flatMap_cons, List.flatMap_nil, List.append_nil, List.cons_append, List.nil_append, val]
  omega
/-- over its own seal each text comes to the same -/
theorem run_seal {l : List Nat} (h : ∀ x ∈ l, x < 256) : run 4294967295 (seal' l) = Lk 32 4294967295 := by
  have h1 : run 4294967295 (seal' l) = run (run 4294967295 l) (four (sum l)) := by unfold run seal'; rw [List.foldl_append]
  have hr := run_lt l h 4294967295 (by omega)
  rw [h1, run_bits, fold_val _ _ bitsOf_lt, bitsOf_length, four_bits _ (sum_lt l)]
  have e : run 4294967295 l ^^^ sum l = 4294967295 := by
    unfold sum
    generalize run 4294967295 l = n at hr
    refine Nat.eq_of_testBit_eq fun i => ?_
    have h9 := Nat.testBit_two_pow_sub_succ (n := 32) (x := n) hr i
    have h8 := Nat.testBit_two_pow_sub_one 32 i
    rw [show (2 : Nat) ^ 32 - (n + 1) = 4294967295 - n by omega] at h9
    rw [show (2 : Nat) ^ 32 - 1 = 4294967295 by rfl] at h8
    rw [Nat.testBit_xor, h9, h8]
    by_cases hi : i < 32
    · simp [hi]
    · have h7 : n.testBit i = false := Nat.testBit_lt_two_pow (Nat.lt_of_lt_of_le hr (show 2 ^ 32 ≤ 2 ^ i from Nat.pow_le_pow_right (by omega) (by omega)))
      simp [hi, h7]
  rw [e]
  rfl
def bitAt (l : List Nat) (i : Nat) : Nat := l.getD (i / 8) 0 / 2 ^ (i % 8) % 2
theorem bitsOf_at : ∀ (l : List Nat) (i : Nat), i < 8 * l.length → (bitsOf l)[i]? = some (bitAt l i)
  | [], i, h => by simp at h
  | c :: l, i, h => by
    simp only [bitsOf, List.flatMap_cons]
    rcases Nat.lt_or_ge i 8 with h8 | h8
    · rw [List.getElem?_append_left (by simpa [bits8] using h8)]
      unfold bitAt
      rw [show i / 8 = 0 by omega, show i % 8 = i by omega]
      rcases (show i = 0 ∨ i = 1 ∨ i = 2 ∨ i = 3 ∨ i = 4 ∨ i = 5 ∨ i = 6 ∨ i = 7 by omega) with rfl | rfl | rfl | rfl | rfl | rfl | rfl | rfl <;> simp [bits8]
    · rw [List.getElem?_append_right (by simpa [bits8] using h8)]
      have ih := bitsOf_at l (i - 8) (by simp only [List.length_cons] at h; omega)
      simp only [bitsOf] at ih
      rw [show (bits8 c).length = 8 from rfl, ih]
      unfold bitAt
      rw [show i / 8 = (i - 8) / 8 + 1 by omega, show i % 8 = (i - 8) % 8 by omega]
      simp
theorem bits8_inj {a b : Nat} (ha : a < 256) (hb : b < 256) (h : bits8 a = bits8 b) : a = b := by
  simp [bits8] at h
  omega
theorem bitsOf_inj : ∀ {a b : List Nat}, (∀ x ∈ a, x < 256) → (∀ x ∈ b, x < 256) → bitsOf a = bitsOf b → a = b
  | [], [], _, _, _ => rfl
  | [], y :: b, _, _, h => by simp [bitsOf, bits8] at h
  | x :: a, [], _, _, h => by simp [bitsOf, bits8] at h
  | x :: a, y :: b, ha, hb, h => by
    simp only [bitsOf, List.flatMap_cons] at h
    have h1 := List.append_inj h rfl
    rw [bits8_inj (ha x (List.mem_cons_self ..)) (hb y (List.mem_cons_self ..)) h1.1, bitsOf_inj (fun z hz => ha z (List.mem_cons_of_mem _ hz)) (fun z hz => hb z (List.mem_cons_of_mem _ hz)) h1.2]
/-- two sealed texts of one length that part just within 32 neighbouring bits are one -/
theorem burst {a b : List Nat} (ha : ∀ x ∈ seal' a, x < 256) (hb : ∀ x ∈ seal' b, x < 256) (hl : (seal' a).length = (seal' b).length) (p : Nat) (h : ∀ i, i < 8 * (seal' a).length → i < p ∨ p + 32 ≤ i → bitAt (seal' a) i = bitAt (seal' b) i) : seal' a = seal' b := by
  have ra := run_seal (l := a) fun x hx => ha x (List.mem_append_left _ hx)
  have rb := run_seal (l := b) fun x hx => hb x (List.mem_append_left _ hx)
  generalize seal' a = A at *
  generalize seal' b = B at *
  have hlen : (bitsOf A).length = (bitsOf B).length := by rw [bitsOf_length, bitsOf_length, hl]
  have hx := fold_xor (bitsOf A) (bitsOf B) 4294967295 4294967295 hlen bitsOf_lt bitsOf_lt
  rw [← run_bits, ← run_bits, ra, rb, Nat.xor_self, Nat.xor_self] at hx
  have hz := burst_bits (l := List.zipWith (· ^^^ ·) (bitsOf A) (bitsOf B)) (fun c hc => by
    obtain ⟨i, hi⟩ := List.mem_iff_getElem?.1 hc
    rw [List.getElem?_zipWith] at hi
    cases h1 : (bitsOf A)[i]? with
    | none => simp [h1] at hi
    | some x =>
      cases h2 : (bitsOf B)[i]? with
      | none => simp [h1, h2] at hi
      | some y =>
        simp [h1, h2] at hi
        subst hi
        exact Nat.xor_lt_two_pow (n := 1) (bitsOf_lt x (List.mem_of_getElem? h1)) (bitsOf_lt y (List.mem_of_getElem? h2))) p (fun i c hi hp => by
    have hlt := (List.getElem?_eq_some_iff.1 hi).1
    rw [List.length_zipWith, bitsOf_length, bitsOf_length, hl, Nat.min_self] at hlt
    rw [List.getElem?_zipWith, bitsOf_at A i (by omega), bitsOf_at B i hlt, h i (by omega) hp] at hi
    simp at hi
    exact hi.symm) hx.symm
  refine bitsOf_inj ha hb (List.ext_getElem? fun i => ?_)
  rcases Nat.lt_or_ge i (bitsOf A).length with hi | hi
  · have h2 : i < (bitsOf B).length := by omega
    have h3 : (List.zipWith (· ^^^ ·) (bitsOf A) (bitsOf B))[i]? = some ((bitsOf A)[i] ^^^ (bitsOf B)[i]) := by
      rw [List.getElem?_zipWith, List.getElem?_eq_getElem hi, List.getElem?_eq_getElem h2]
    have h4 := hz _ (List.mem_of_getElem? h3)
    have h5 : (bitsOf A)[i] = (bitsOf B)[i] := by
      have h6 := congrArg (fun z => z ^^^ (bitsOf B)[i]) h4
      simpa [Nat.xor_assoc, Nat.xor_self] using h6
    rw [List.getElem?_eq_getElem hi, List.getElem?_eq_getElem h2, h5]
  · rw [List.getElem?_eq_none hi, List.getElem?_eq_none (by omega)]
end Crc
end Go.Proofs.YtdkbgbdgmihlmaaDoor
