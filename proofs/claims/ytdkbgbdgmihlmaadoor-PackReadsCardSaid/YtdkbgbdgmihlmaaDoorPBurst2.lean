/- Bits that are turned within 32 neighbours are told; bytes that are cut, or longer, are no transducer's. -/
import Derived.Test.YtdkbgbdgmihlmaaDoorQK
import Derived.Test.YtdkbgbdgmihlmaaDoorPFormF
namespace Go.Proofs.YtdkbgbdgmihlmaaDoor
open Go.RowKit
set_option linter.unusedSimpArgs false
set_option linter.unusedVariables false
set_option linter.unnecessarySimpa false
namespace Dw
/-- a bit turned -/
def flipB (l : List Nat) (p : Nat) : List Nat := l.set (p / 8) (l.getD (p / 8) 0 ^^^ 2 ^ (p % 8))
/-- the bits of a pattern turned, from p on, k of them looked at -/
def turnL (l : List Nat) (p pat : Nat) : Nat → List Nat
  | 0 => l
  | k + 1 => if pat / 2 ^ k % 2 = 1 ∧ p + k < 8 * l.length then flipB (turnL l p pat k) (p + k) else turnL l p pat k
theorem flipB_length (l : List Nat) (p : Nat) : (flipB l p).length = l.length := by simp [flipB]
theorem turnL_length (l : List Nat) (p pat : Nat) : ∀ k, (turnL l p pat k).length = l.length
  | 0 => rfl
  | k + 1 => by
    unfold turnL
    split
    · rw [flipB_length, turnL_length l p pat k]
    · exact turnL_length l p pat k
theorem xor_bit_lt {x b : Nat} (hx : x < 256) (hb : b < 8) : x ^^^ 2 ^ b < 256 := by
  have h2 : (2 : Nat) ^ b < 2 ^ 8 := Nat.pow_lt_pow_right (by omega) hb
  exact Nat.xor_lt_two_pow (n := 8) (by omega) h2
theorem flipB_small {l : List Nat} (h : Small l) (p : Nat) : Small (flipB l p) := fun x hx => by
  unfold flipB at hx
  rcases List.mem_or_eq_of_mem_set hx with h1 | h1
  · exact h x h1
  · subst h1
    refine xor_bit_lt ?_ (Nat.mod_lt _ (by omega))
    rw [List.getD_eq_getElem?_getD]
    cases h9 : l[p / 8]? with
    | none => simp
    | some y => exact h y (List.mem_of_getElem? h9)
theorem turnL_small {l : List Nat} (h : Small l) (p pat : Nat) : ∀ k, Small (turnL l p pat k)
  | 0 => h
  | k + 1 => by
    unfold turnL
    split
    · exact flipB_small (turnL_small h p pat k) _
    · exact turnL_small h p pat k
theorem xor_bit_other {x a b : Nat} (h : a ≠ b) : (x ^^^ 2 ^ b) / 2 ^ a % 2 = x / 2 ^ a % 2 := by
  have h1 : (x ^^^ 2 ^ b).testBit a = x.testBit a := by
    rw [Nat.testBit_xor, Nat.testBit_two_pow_of_ne (fun e => h e.symm)]
    simp
  rw [Nat.testBit_eq_decide_div_mod_eq, Nat.testBit_eq_decide_div_mod_eq] at h1
  have h2 := decide_eq_decide.1 h1
  omega
theorem bitAt_flip {l : List Nat} {p i : Nat} (h : i ≠ p) : Crc.bitAt (flipB l p) i = Crc.bitAt l i := by
  unfold Crc.bitAt flipB
  by_cases h8 : i / 8 = p / 8
  · rw [h8, List.getD_eq_getElem?_getD, List.getD_eq_getElem?_getD]
    rcases Nat.lt_or_ge (p / 8) l.length with hl | hl
    · rw [List.getElem?_set_self hl, Option.getD_some]
      exact xor_bit_other (by omega)
    · rw [List.getElem?_eq_none (by simpa using hl), List.getElem?_eq_none hl]
  · rw [List.getD_eq_getElem?_getD, List.getElem?_set_ne (fun e => h8 e.symm), List.getD_eq_getElem?_getD]
theorem bitAt_turn (l : List Nat) (p pat : Nat) : ∀ (k i : Nat), i < p ∨ p + k ≤ i → Crc.bitAt (turnL l p pat k) i = Crc.bitAt l i
  | 0, i, _ => rfl
  | k + 1, i, h => by
    unfold turnL
    split
    · rw [bitAt_flip (by omega)]; exact bitAt_turn l p pat k i (by omega)
    · exact bitAt_turn l p pat k i (by omega)
/-- of sealed bytes with turned bits: they are the same, or no seal is there -/
theorem turn_told {b : List Nat} (hb : Small (Crc.seal' b)) (p pat : Nat) (h : turnL (Crc.seal' b) p pat 32 ≠ Crc.seal' b) : Crc.opened (turnL (Crc.seal' b) p pat 32) = none := by
  cases ho : Crc.opened (turnL (Crc.seal' b) p pat 32) with
  | none => rfl
  | some c =>
    exfalso
    have h1 := Crc.opened_some ho
    have hs := turnL_small hb p pat 32
    rw [h1] at hs h
    refine h (Crc.burst hs hb (by rw [← h1, turnL_length]) p fun i hi hp => ?_)
    rw [← h1]
    exact bitAt_turn _ p pat 32 i hp
theorem pGet_none {s : ByteArray} (h : Crc.opened (wl s) = none) : pGet s = .error (16, 0) := by
  unfold pGet
  rw [h]
  rfl
theorem pAll_more {s : ByteArray} {en init : Nat} {ss : List State} (hen : en ≤ 100000) (hok : ∀ s ∈ ss, okS s) (h0 : 0 < ss.length) (hm : mayL 0 ss = true) (hl : ss.length ≤ 1000000) (hi : init < M64) {post : List Nat} (hp : post ≠ []) (h : wl s = bodyB en init ss ++ post) : pAll s = .error (4, (bodyB en init ss).length) := by
  have hlen : (bodyB en init ss).length = (([67, 83, 1] : List Nat) ++ numB en ++ numB ss.length ++ statesB 0 ss).length + (numB init).length := by
    unfold bodyB
    rw [numsB_two, numsB_one]
    simp
    omega
  rw [hlen]
  unfold bodyB at h
  rw [numsB_two, numsB_one] at h
  unfold pAll
  rw [pMagic_put (post := numB en ++ numB ss.length ++ statesB 0 ss ++ numB init ++ post) (by rw [h]; simp)]
  simp only
  rw [show (3 : Nat) = ([67, 83, 1] : List Nat).length from rfl, pNum_put (pre := ([67, 83, 1] : List Nat)) (n := en) (post := numB ss.length ++ statesB 0 ss ++ numB init ++ post) (by rw [h]; simp) (by unfold M64; omega) (by omega) (by omega)]
  simp only
  rw [show ([67, 83, 1] : List Nat).length + (numB en).length = (([67, 83, 1] : List Nat) ++ numB en).length by simp; omega, pNum_put (n := ss.length) (post := statesB 0 ss ++ numB init ++ post) (by rw [h]; simp) (by unfold M64; omega) (by omega) (by omega)]
  simp only
  rw [show (([67, 83, 1] : List Nat) ++ numB en).length + (numB ss.length).length = (([67, 83, 1] : List Nat) ++ numB en ++ numB ss.length).length by simp; omega, pStates_put ss [] 0 (([67, 83, 1] : List Nat) ++ numB en ++ numB ss.length) (numB init ++ post) (by omega) (by rw [h]; simp) fun k st hk => by rw [Nat.zero_add]; exact mayL_stIn hok hm hk]
  simp only
  rw [show (([67, 83, 1] : List Nat) ++ numB en ++ numB ss.length).length + (statesB 0 ss).length = (([67, 83, 1] : List Nat) ++ numB en ++ numB ss.length ++ statesB 0 ss).length by simp; omega, pNum_put (n := init) (post := post) (by rw [h]; simp) hi (by omega) (by unfold M64 at hi; omega)]
  simp only
  have hsz := congrArg List.length h
  rw [wl_length] at hsz
  have hpl : 0 < post.length := by
    cases post with
    | nil => exact absurd rfl hp
    | cons _ _ => simp
  rw [if_pos (by rw [hsz]; simp; omega)]
theorem pAll_cut {q : ByteArray} {en init : Nat} {ss : List State} (hen : en ≤ 100000) (hok : ∀ s ∈ ss, okS s) (h0 : 0 < ss.length) (hm : mayL 0 ss = true) (hl : ss.length ≤ 1000000) (hi : init < M64) {m : Nat} (hq : wl q = (bodyB en init ss).take m) (hlt : m < (bodyB en init ss).length) (hsm : Small (bodyB en init ss)) (hsz : q.size ≤ 1000000) : ∃ b, pAll q = .error b := by
  cases hp : pAll q with
  | error b => exact ⟨b, rfl⟩
  | ok r =>
    exfalso
    obtain ⟨en', init', ss'⟩ := r
    obtain ⟨k1, k2, k3, k4, k5, k6, k7⟩ := pAll_back (by omega) hp
    have hb : wl (bl (bodyB en init ss)) = bodyB en init ss := wl_bl hsm
    have h1 := pAll_put hen hok h0 hm hl hi hb
    have h2 : bodyB en init ss = bodyB en' init' ss' ++ (bodyB en init ss).drop m := by
      rw [← k1, hq, List.take_append_drop]
    have h3 := pAll_more (s := bl (bodyB en init ss)) k2 k4 k3 k5 (by omega) k6 (post := (bodyB en init ss).drop m) (by
      intro e
      have := congrArg List.length e
      rw [List.length_drop, List.length_nil] at this
      omega) (by rw [hb]; exact h2)
    rw [h1] at h3
    cases h3
end Dw
end Go.Proofs.YtdkbgbdgmihlmaaDoor
