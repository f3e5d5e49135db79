/- Pack: the sum of bytes, bit by bit and by halves of bytes: one and the same; it is linear, so that it tells each short burst. -/
import Derived.Laws.BitsAllLaws
namespace Go.Proofs.YtdkbgbdgmihlmaaGreatDoor
set_option linter.unusedSimpArgs false
set_option linter.unusedVariables false
set_option linter.unnecessarySimpa false
namespace Crc
def poly : Nat := 0xEDB88320
/-- one bit further, nothing coming -/
def L (n : Nat) : Nat := if n % 2 = 1 then (n / 2) ^^^ poly else n / 2
/-- one bit further, a bit coming -/
def bit (n b : Nat) : Nat := if n % 2 = b then n / 2 else (n / 2) ^^^ poly
def byte (n c : Nat) : Nat := bit (bit (bit (bit (bit (bit (bit (bit n (c % 2)) (c / 2 % 2)) (c / 4 % 2)) (c / 8 % 2)) (c / 16 % 2)) (c / 32 % 2)) (c / 64 % 2)) (c / 128 % 2)
def T (x : Nat) : Nat := L (L (L (L x)))
/-- half a byte further -/
def nib (n h : Nat) : Nat := (n / 16) ^^^ T ((n % 16) ^^^ h)
theorem xor_mod2 (a b : Nat) : (a ^^^ b) % 2 = (a % 2 + b % 2) % 2 := by
  have h := Nat.xor_mod_two_pow (a := a) (b := b) (n := 1)
  rw [show (2:Nat)^1 = 2 from rfl] at h
  rw [h]
  rcases Nat.mod_two_eq_zero_or_one a with ha | ha <;> rcases Nat.mod_two_eq_zero_or_one b with hb | hb <;> simp [ha, hb]
theorem L_xor (a b : Nat) : L (a ^^^ b) = L a ^^^ L b := by
  unfold L
  have h1 := xor_mod2 a b
  have h2 : (a ^^^ b) / 2 = a / 2 ^^^ b / 2 := Nat.xor_div_two
  rw [h1, h2]
  rcases Nat.mod_two_eq_zero_or_one a with ha | ha <;> rcases Nat.mod_two_eq_zero_or_one b with hb | hb <;> simp [ha, hb]
  · rw [Nat.xor_assoc]
  · rw [Nat.xor_assoc, Nat.xor_assoc, Nat.xor_comm poly]
  · rw [Nat.xor_assoc, ← Nat.xor_assoc poly, Nat.xor_comm poly (b / 2), Nat.xor_assoc, Nat.xor_self, Nat.xor_zero]
theorem bit_L (n b : Nat) (hb : b < 2) : bit n b = L (n ^^^ b) := by
  unfold bit L
  have h2 : (n ^^^ b) / 2 = n / 2 := by rw [Nat.xor_div_two, show b / 2 = 0 by omega, Nat.xor_zero]
  have h1 := xor_mod2 n b
  rw [h1, h2]
  rcases Nat.mod_two_eq_zero_or_one n with ha | ha <;> rcases (show b = 0 ∨ b = 1 by omega) with rfl | rfl <;> simp [ha]
theorem L_double (x : Nat) : L (2 * x) = x := by unfold L; simp
theorem L_16 (x : Nat) : L (L (L (L (16 * x)))) = x := by
  rw [show 16 * x = 2 * (2 * (2 * (2 * x))) by omega, L_double, L_double, L_double, L_double]
theorem xor_parts (n : Nat) : n = (16 * (n / 16)) ^^^ (n % 16) := by
  refine Nat.eq_of_testBit_eq fun i => ?_
  rw [Nat.testBit_xor, show (16 : Nat) * (n / 16) = 2 ^ 4 * (n / 2 ^ 4) from rfl, show n % 16 = n % 2 ^ 4 from rfl, Nat.testBit_two_pow_mul, Nat.testBit_div_two_pow, Nat.testBit_mod_two_pow]
  by_cases h : i < 4
  · have h' : ¬ i ≥ 4 := by omega
    simp [h, h']
  · have h' : i ≥ 4 := by omega
    simp [h, h', show i - 4 + 4 = i by omega]
/-- four bits, one by one or at once -/
theorem nib_bits (n h : Nat) (hh : h < 16) : bit (bit (bit (bit n (h % 2)) (h / 2 % 2)) (h / 4 % 2)) (h / 8 % 2) = nib n h := by
  have b0 : h % 2 < 2 := by omega
  have b1 : h / 2 % 2 < 2 := by omega
  have b2 : h / 4 % 2 < 2 := by omega
  have b3 : h / 8 % 2 < 2 := by omega
  rw [bit_L _ _ b0, bit_L _ _ b1, bit_L _ _ b2, bit_L _ _ b3]
  unfold nib T
  conv => lhs; rw [xor_parts n]
  simp only [L_xor]
  rw [L_16]
  have hs : ∀ h, h < 16 → L (L (L (L (h % 2)))) ^^^ (L (L (L (h / 2 % 2))) ^^^ (L (L (h / 4 % 2)) ^^^ L (h / 8 % 2))) = L (L (L (L h))) := by decide
  have hs' := hs h hh
  rw [← hs']
  simp only [Nat.xor_assoc]
theorem nib_lt (n h : Nat) (hn : n < 4294967296) (hh : h < 16) : nib n h < 4294967296 := by
  have ht : ∀ x, x < 16 → T x < 4294967296 := by decide
  have hx : (n % 16) ^^^ h < 2 ^ 4 := Nat.xor_lt_two_pow (by omega) (by omega)
  exact Nat.xor_lt_two_pow (n := 32) (by omega) (ht _ (by omega))
theorem byte_nib (n c : Nat) (hc : c < 256) : byte n c = nib (nib n (c % 16)) (c / 16) := by
  rw [← nib_bits _ _ (show c % 16 < 16 by omega), ← nib_bits _ _ (show c / 16 < 16 by omega)]
  unfold byte
  rw [show c % 16 % 2 = c % 2 by omega, show c % 16 / 2 % 2 = c / 2 % 2 by omega, show c % 16 / 4 % 2 = c / 4 % 2 by omega, show c % 16 / 8 % 2 = c / 8 % 2 by omega,
    show c / 16 / 2 % 2 = c / 32 % 2 by omega, show c / 16 / 4 % 2 = c / 64 % 2 by omega, show c / 16 / 8 % 2 = c / 128 % 2 by omega]
/-- the sum of bytes behind one -/
def run (n : Nat) (l : List Nat) : Nat := l.foldl byte n
def sum (l : List Nat) : Nat := 4294967295 - run 4294967295 l
theorem sum_lt (l : List Nat) : sum l < 4294967296 := by unfold sum; omega
/-- four bytes, the lowest first -/
def four (n : Nat) : List Nat := [n % 256, n / 256 % 256, n / 65536 % 256, n / 16777216 % 256]
def seal' (l : List Nat) : List Nat := l ++ four (sum l)
/-- what is under a seal, if it is one -/
def opened (l : List Nat) : Option (List Nat) := if 4 ≤ l.length ∧ seal' (l.take (l.length - 4)) = l then some (l.take (l.length - 4)) else none
theorem seal_length (l : List Nat) : (seal' l).length = l.length + 4 := by simp [seal', four]
theorem opened_seal (l : List Nat) : opened (seal' l) = some l := by
  unfold opened
  have h : (seal' l).take ((seal' l).length - 4) = l := by rw [seal_length]; simp [seal']
  rw [h, if_pos ⟨by rw [seal_length]; omega, rfl⟩]
theorem opened_some {l b : List Nat} (h : opened l = some b) : l = seal' b := by
  unfold opened at h
  split at h
  · rename_i hc
    injection h with h
    rw [← h]; exact hc.2.symm
  · cases h
end Crc
end Go.Proofs.YtdkbgbdgmihlmaaGreatDoor
