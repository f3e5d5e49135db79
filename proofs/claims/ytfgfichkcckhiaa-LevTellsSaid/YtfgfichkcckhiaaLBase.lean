/- Lev: what an automaton reads as, and what its functions compute, in plain terms. -/
import Derived.Test.YtfgfichkcckhiaaProg
import Derived.Test.YtfgfichkcckhiaaStage
import Derived.WalkKit
import Derived.WalkSpells
import Derived.Deep.OwnRows
import Derived.Laws.OwnMore
import Derived.Deep.RegionHeld3
namespace Go.Proofs.Ytfgfichkcckhiaa
open Go.RowKit
set_option linter.unusedSimpArgs false
set_option linter.unusedVariables false
namespace Lv
/-- the byte at a place -/
def at_ (s : ByteArray) (i : Nat) : Nat := if h : i < s.size then s[i].toNat else 0
theorem at_get {s : ByteArray} {i : Nat} (h : i < s.size) : at_ s i = s[i].toNat := by simp [at_, h]
theorem at_lt (s : ByteArray) (i : Nat) : at_ s i < 256 := by
  unfold at_
  split
  · rename_i h
    exact (s[i]).toNat_lt
  · omega
/-- of at most so many bytes -/
def few (s : ByteArray) (n : Nat) : ByteArray := s.extract 0 (min s.size n)
/-- a place of the next row, by the one ahead -/
def num (Q S : ByteArray) (b : Nat) : Nat → Nat → Nat
  | 0, _ => at_ S 0 + 1
  | m + 1, last => min (min (at_ S m + if at_ Q m = b then 0 else 1) (last + 1)) (at_ S (m + 1) + 1)
/-- a row's places, each by the one ahead, capped -/
def cel (f : Nat → Nat → Nat) (k : Nat) : Nat → Nat
  | 0 => min (f 0 0) (k + 1)
  | n + 1 => min (f (n + 1) (cel f k n)) (k + 1)
theorem cel_le (f : Nat → Nat → Nat) (k n : Nat) : cel f k n ≤ k + 1 := by cases n <;> simp only [cel] <;> omega
/-- the first places, as bytes -/
def row (f : Nat → Nat → Nat) (k n : Nat) : List UInt8 := (List.range n).map fun i => UInt8.ofNat (cel f k i)
def bs (l : List UInt8) : ByteArray := ⟨l.toArray⟩
theorem bs_size (l : List UInt8) : (bs l).size = l.length := by simp [bs, ByteArray.size]
theorem row_length (f : Nat → Nat → Nat) (k n : Nat) : (row f k n).length = n := by simp [row]
theorem row_succ (f : Nat → Nat → Nat) (k n : Nat) : row f k (n + 1) = row f k n ++ [UInt8.ofNat (cel f k n)] := by simp [row, List.range_succ]
theorem at_bs (l : List UInt8) (i : Nat) (x : UInt8) (h : l[i]? = some x) : at_ (bs l) i = x.toNat := by
  have hi := (List.getElem?_eq_some_iff.1 h).1
  rw [at_get (by rw [bs_size]; exact hi)]
  have h2 := (List.getElem?_eq_some_iff.1 h).2
  have h3 : (bs l)[i]'(by rw [bs_size]; exact hi) = l[i] := by simp [bs, ByteArray.getElem_eq_getElem_data]
  rw [h3, h2]
theorem at_row (f : Nat → Nat → Nat) (k n i : Nat) (hi : i < n) (hk : k ≤ 3) : at_ (bs (row f k n)) i = cel f k i := by
  rw [at_bs _ i (UInt8.ofNat (cel f k i)) (by simp [row, hi])]
  have := cel_le f k i
  simp only [UInt8.toNat_ofNat']
  omega
/-- what the row's last number is ahead of a place -/
def lastOf (f : Nat → Nat → Nat) (k : Nat) : Nat → Nat
  | 0 => 0
  | n + 1 => cel f k n
theorem cel_last (f : Nat → Nat → Nat) (k n : Nat) : cel f k n = min (f n (lastOf f k n)) (k + 1) := by cases n <;> rfl
theorem lastOf_le (f : Nat → Nat → Nat) (k n : Nat) : lastOf f k n ≤ k + 1 := by
  cases n with
  | zero => exact Nat.zero_le _
  | succ n => exact cel_le f k n
/-- a state's form -/
def okS (Q : ByteArray) (k : Nat) (S : ByteArray) : Bool := decide (S.size = Q.size + 1) && decide (∀ i, i < S.size → at_ S i ≤ k + 1)
/-- a row's places, as they are -/
def idx (n _last : Nat) : Nat := n
def startS (Q : ByteArray) (k : Nat) : ByteArray := bs (row idx k (Q.size + 1))
def stepS (Q : ByteArray) (k : Nat) (S : ByteArray) (b : Nat) : ByteArray := if okS Q k S then bs (row (num Q S b) k (Q.size + 1)) else ⟨#[]⟩
/-- behind the first bytes of a text -/
def readN (Q : ByteArray) (k : Nat) (S T : ByteArray) : Nat → ByteArray
  | 0 => S
  | n + 1 => stepS Q k (readN Q k S T n) (at_ T n)
def readS (Q : ByteArray) (k : Nat) (S T : ByteArray) : ByteArray := readN Q k S T T.size
def isS (Q : ByteArray) (k : Nat) (S : ByteArray) : Bool := okS Q k S && decide (at_ S Q.size ≤ k)
def distS (Q : ByteArray) (k : Nat) (S : ByteArray) : Nat := if isS Q k S then at_ S Q.size else 0
def canS (Q : ByteArray) (k : Nat) (S : ByteArray) : Bool := okS Q k S && decide (∃ i, i < S.size ∧ at_ S i ≤ k)
/-- the byte is in the text -/
def inQ (Q : ByteArray) (b : Nat) : Bool := decide (∃ i, i < Q.size ∧ at_ Q i = b)
/-- the first byte that is not in the text -/
def outB (Q : ByteArray) : Option Nat := (List.range 256).find? fun b => !inQ Q b
def awayS (Q : ByteArray) (k : Nat) (S : ByteArray) : ByteArray := match outB Q with
  | some b => stepS Q k S b
  | none => ⟨#[]⟩
def bytesS (Q : ByteArray) (k : Nat) (S : ByteArray) : List Nat := if okS Q k S then (List.range 256).filter fun b => inQ Q b && decide (stepS Q k S b ≠ awayS Q k S) else []
def moreS (Q : ByteArray) (k : Nat) (S : ByteArray) : Bool := okS Q k S && canS Q k (awayS Q k S)
/-- an automaton in the heap -/
structure At (w : World) (g : Nat) (q : ByteArray) (k : Nat) : Prop where
  c0 : w.cell? ⟨g, 0, none⟩ = some (.string q)
  c1 : w.cell? ⟨g, 1, none⟩ = some (.int .i64 k)
  hq : q.size ≤ 255
  hk : k ≤ 3
theorem At.later {w w' : World} {g : Nat} {q : ByteArray} {k : Nat} (h : At w g q k) (hb : Below w.heap.size w w') : At w' g q k :=
  ⟨cell_later hb h.c0, cell_later hb h.c1, h.hq, h.hk⟩
theorem At.drew {w : World} {g : Nat} {q : ByteArray} {k : Nat} (h : At w g q k) : At w.drew g q k := ⟨h.c0, h.c1, h.hq, h.hk⟩
end Lv
end Go.Proofs.Ytfgfichkcckhiaa
