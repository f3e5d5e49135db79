/- Dawg: there are ars many states ars kinds of what words go on with; a word's value by the states. -/
import Derived.Test.YtcddnmhmcieebaaGreatDoorY10
import Derived.Test.YtcddnmhmcieebaaGreatDoorY9
import Derived.Test.YtcddnmhmcieebaaGreatDoorY1
import Derived.Laws.BytesArg
import Derived.Lib.BitFns
import Derived.Lib.ItoaNum
import Derived.Deep.WholeRow
import Derived.Laws.IdiomStrings
import Derived.ArgAppend
import Derived.Laws.BitsAllLaws
import Derived.Test.YtcddnmhmcieebaaGreatDoorShelf
import Derived.Test.YtcddnmhmcieebaaGreatDoorTools
import Derived.Laws.CopyOwn
namespace Go.Proofs.YtcddnmhmcieebaaGreatDoor
set_option maxHeartbeats 4000000
set_option maxRecDepth 100000
set_option linter.unusedSimpArgs false
set_option linter.unusedVariables false
set_option linter.unnecessarySimpa false
namespace Dw
def sub (l : List Wv) (p : List Nat) : List Wv := (l.filter fun e => p.isPrefixOf e.1).map fun e => (e.1.drop p.length, e.2)
section
variable {f : Nat} (IHB : ∀ (l : List Wv) (ss SS : List State) (m : Nat), AllLt f l -> l ≠ [] -> Rise l -> Inv ss -> AllLt (m + 1) l -> (K f ss l).1 <+: SS -> ∀ k, ss.length <= k -> k < (K f ss l).1.length -> ∃ e ∈ l, ∃ p, p <+: e.1 /\ wds SS m k = rel (sub l p))
 (IHA : ∀ (l : List Wv) (ss SS : List State) (m : Nat), AllLt f l -> l ≠ [] -> Rise l -> Inv ss -> AllLt (m + 1) l -> (K f ss l).1 <+: SS -> ∀ e ∈ l, ∀ p, p <+: e.1 -> ∃ k, k < SS.length /\ wds SS m k = rel (sub l p))
include IHB IHA
end
instance : DecidableEq Ent := fun a b => decidable_of_iff (a.word = b.word /\ a.weight = b.weight /\ a.gone = b.gone) (by cases a; cases b; simp)
def M64 : Nat := 18446744073709551616
def bl (l : List Nat) : ByteArray := strOfNums (l.map fun (x : Nat) => (x : Int))
theorem append_assoc (a b c : ByteArray) : a ++ b ++ c = a ++ (b ++ c) := by
 refine ByteArray.ext (Array.ext' ?_)
 simp [ByteArray.data_append]
def ofE (s : ByteArray) (v : Nat) : Ent := if 4294967296 < v then ⟨⟨#[]⟩, 0, false⟩ else if v = 0 then ⟨s, 0, true⟩ else ⟨s, ((v - 1 : Nat) : Int), false⟩
def ofB (v : Nat) : Bool := !decide (4294967296 < v)
open Go.RowKit
def Small (l : List Nat) : Prop := ∀ x ∈ l, x < 256
theorem wl_bl {l : List Nat} (h : Small l) : wl (bl l) = l := by
 unfold wl bl
 rw [strOfNums_data, List.map_map, List.map_map]
 refine (List.map_congr_left fun x hx => ?_).trans (List.map_id _)
 have := h x hx
 simp
 omega
theorem bl_wl (s : ByteArray) : bl (wl s) = s := wl_inj (wl_bl (wl_lt s))
theorem bl_size (l : List Nat) : (bl l).size = l.length := by unfold bl; rw [strOfNums_size, List.length_map]
theorem Small.append {a b : List Nat} (ha : Small a) (hb : Small b) : Small (a ++ b) := fun x hx => by
 rcases List.mem_append.1 hx with h | h
 ·exact ha x h
 ·exact hb x h
theorem Small.nil : Small [] := by simp [Small]
theorem Small.cons {x : Nat} {l : List Nat} (hx : x < 256) (hl : Small l) : Small (x :: l) := fun y hy => by
 rcases List.mem_cons.1 hy with rfl | h
 ·exact hx
 ·exact hl y h
/-! numbers -/
def lenB (n : Nat) : Nat := (Lib.bitLen n + 7) / 8
def leB : Nat -> Nat -> List Nat
 | 0, _ => []
 | m + 1, n => n % 256 :: leB m (n / 256)
def numB (n : Nat) : List Nat := if n < 248 then [n] else (247 + lenB n) :: leB (lenB n) n
theorem leB_length : ∀ (m n : Nat), (leB m n).length = m
 | 0, _ => rfl
 | m + 1, n => by simp [leB, leB_length m]
theorem leB_small : ∀ (m n : Nat), Small (leB m n)
 | 0, _ => by simp [Small, leB]
 | m + 1, n => Small.cons (Nat.mod_lt _ (by omega)) (leB_small m _)
theorem leB_snoc : ∀ (m n : Nat), leB (m + 1) n = leB m n ++ [n / 256 ^ m % 256]
 | 0, n => by simp [leB]
 | m + 1, n => by
  rw [leB, leB_snoc m (n / 256)]
  simp only [leB, List.cons_append]
  rw [Nat.div_div_eq_div_mul, Nat.pow_succ, Nat.mul_comm]
def ofLe : List Nat -> Nat
 | [] => 0
 | x :: l => x + 256 * ofLe l
theorem ofLe_leB : ∀ (m n : Nat), n < 256 ^ m -> ofLe (leB m n) = n
 | 0, n, h => by simp [leB, ofLe] at *; omega
 | m + 1, n, h => by
  rw [leB, ofLe, ofLe_leB m (n / 256) (by rw [Nat.pow_succ] at h; exact Nat.div_lt_of_lt_mul (by rw [Nat.mul_comm]; exact h))]
  omega
theorem leB_ofLe : ∀ (l : List Nat), Small l -> leB l.length (ofLe l) = l
 | [], _ => rfl
 | x :: l, h => by
  have hx := h x (List.mem_cons_self ..)
  have hl : Small l := fun y hy => h y (List.mem_cons_of_mem _ hy)
  rw [List.length_cons, leB, ofLe]
  have e1 : (x + 256 * ofLe l) % 256 = x := by omega
  have e2 : (x + 256 * ofLe l) / 256 = ofLe l := by omega
  rw [e1, e2, leB_ofLe l hl]
theorem ofLe_lt : ∀ (l : List Nat), Small l -> ofLe l < 256 ^ l.length
 | [], _ => by simp [ofLe]
 | x :: l, h => by
  have hx := h x (List.mem_cons_self ..)
  have hl := ofLe_lt l (fun y hy => h y (List.mem_cons_of_mem _ hy))
  rw [List.length_cons, ofLe, Nat.pow_succ]
  omega
theorem ofLe_snoc : ∀ (l : List Nat) (x : Nat), ofLe (l ++ [x]) = ofLe l + 256 ^ l.length * x
 | [], x => by simp [ofLe]
 | y :: l, x => by
  rw [List.cons_append, ofLe, ofLe_snoc l x, ofLe, List.length_cons, Nat.pow_succ, Nat.mul_add, <- Nat.add_assoc, <- Nat.mul_assoc, Nat.mul_comm 256 (256 ^ l.length)]
theorem pow256 (m : Nat) : 256 ^ m = 2 ^ (8 * m) := by rw [show (256 : Nat) = 2 ^ 8 from rfl, <- Nat.pow_mul]
theorem lenB_bounds {n : Nat} (h0 : 0 < n) (h : n < M64) : 1 <= lenB n /\ lenB n <= 8 /\ 256 ^ (lenB n - 1) <= n /\ n < 256 ^ lenB n := by
 obtain ⟨h1, h2, h3⟩ := Lib.bitLenAux_bounds 64 n h (by omega)
 have e : Lib.bitLenAux 64 n = Lib.bitLen n := rfl
 rw [e] at h1 h2 h3
 have h64 : Lib.bitLen n <= 64 := by
  rcases Nat.lt_or_ge 64 (Lib.bitLen n) with h5 | h5
  ·have h6 : 2 ^ 64 <= 2 ^ (Lib.bitLen n - 1) := Nat.pow_le_pow_right (by omega) (by omega)
   have h7 : M64 = 2 ^ 64 := rfl
   omega
  ·exact h5
 unfold lenB
 refine ⟨by omega, by omega, ?_, ?_⟩
 ·rw [pow256]
  exact Nat.le_trans (Nat.pow_le_pow_right (by omega) (by omega)) h2
 ·rw [pow256]
  exact Nat.lt_of_lt_of_le h3 (Nat.pow_le_pow_right (by omega) (by omega))
theorem numB_small {n : Nat} (h : n < M64) : Small (numB n) := by
 unfold numB
 split
 ·exact Small.cons (by omega) Small.nil
 ·obtain ⟨_, b2, _⟩ := lenB_bounds (show 0 < n by omega) h
  exact Small.cons (by omega) (leB_small _ _)
theorem numB_length (n : Nat) : (numB n).length = if n < 248 then 1 else 1 + lenB n := by
 unfold numB
 split
 ·rfl
 ·rw [List.length_cons, leB_length]; omega
theorem numB_le {n : Nat} (h : n < M64) : 1 <= (numB n).length /\ (numB n).length <= 9 := by
 rw [numB_length]
 split
 ·omega
 ·obtain ⟨b1, b2, _⟩ := lenB_bounds (show 0 < n by omega) h
  omega
def getN (s : List Nat) (i : Nat) : Nat × Nat × Nat :=
 match s[i]? with
 | none => (0, i, 3)
 | some c => if c < 248 then (c, i + 1, 0) else
  if s.length - i <= c - 247 then (0, i, 3) else
  if (numB (ofLe ((s.drop (i + 1)).take (c - 247)))).length = 1 + (c - 247) then (ofLe ((s.drop (i + 1)).take (c - 247)), i + 1 + (c - 247), 0) else (0, i, 5)
theorem getN_num {n : Nat} (h : n < M64) (p r : List Nat) : getN (p ++ numB n ++ r) p.length = (n, p.length + (numB n).length, 0) := by
 unfold getN
 by_cases hn : n < 248
 ·have e : numB n = [n] := by unfold numB; rw [if_pos hn]
  rw [e]
  simp [hn]
 ·have e : numB n = (247 + lenB n) :: leB (lenB n) n := by unfold numB; rw [if_neg hn]
  obtain ⟨b1, b2, b3, b4⟩ := lenB_bounds (show 0 < n by omega) h
  have hl := leB_length (lenB n) n
  have h1 : (p ++ numB n ++ r)[p.length]? = some (247 + lenB n) := by rw [e]; simp
  have h2 : ((p ++ numB n ++ r).drop (p.length + 1)).take (lenB n) = leB (lenB n) n := by
   rw [e, show p ++ (247 + lenB n) :: leB (lenB n) n ++ r = (p ++ [247 + lenB n]) ++ (leB (lenB n) n ++ r) by simp, show p.length + 1 = (p ++ [247 + lenB n]).length by simp, List.drop_left, List.take_append_of_le_length (by omega), List.take_of_length_le (by omega)]
  rw [h1]
  simp only
  rw [if_neg (by omega), show 247 + lenB n - 247 = lenB n by omega, h2, ofLe_leB _ _ b4, numB_length, if_neg hn, if_neg (by
   rw [e]; simp; omega), if_pos rfl, show p.length + 1 + lenB n = p.length + (1 + lenB n) by omega]
theorem getN_canon {s : List Nat} (hs : Small s) {i n j : Nat} (h : getN s i = (n, j, 0)) : n < M64 /\ s.drop i = numB n ++ s.drop j /\ j = i + (numB n).length := by
 unfold getN at h
 split at h
 ·simp at h
 ·rename_i c hc
  have hlt := (List.getElem?_eq_some_iff.1 hc).1
  have hc8 := hs c (List.mem_of_getElem? hc)
  have hdr : s.drop i = c :: s.drop (i + 1) := drop_at hc
  split at h
  ·rename_i h8
   simp only [Prod.mk.injEq] at h
   obtain ⟨rfl, rfl, _⟩ := h
   have e : numB c = [c] := by unfold numB; rw [if_pos h8]
   exact ⟨by unfold M64; omega, by rw [e, hdr]; rfl, by rw [e]; rfl⟩
  ·rename_i h8
   split at h
   ·simp at h
   ·rename_i hlen
    split at h
    ·rename_i hnb
     simp only [Prod.mk.injEq] at h
     obtain ⟨hn, rfl, _⟩ := h
     have hsm : Small ((s.drop (i + 1)).take (c - 247)) := fun x hx => hs x (List.mem_of_mem_drop (List.mem_of_mem_take hx))
     have hln : ((s.drop (i + 1)).take (c - 247)).length = c - 247 := by simp; omega
     have h7 : leB ((s.drop (i + 1)).take (c - 247)).length (ofLe ((s.drop (i + 1)).take (c - 247))) = (s.drop (i + 1)).take (c - 247) := leB_ofLe _ hsm
     rw [hln, hn] at h7
     have hb := ofLe_lt _ hsm
     rw [hn, hln] at hb
     rw [hn] at hnb
     have h64 : n < M64 := by
      have : 256 ^ (c - 247) <= 256 ^ 8 := Nat.pow_le_pow_right (by omega) (by omega)
      have e : M64 = 256 ^ 8 := rfl
      omega
     rw [numB_length] at hnb
     have h9 : ¬ n < 248 := fun h9 => by rw [if_pos h9] at hnb; omega
     rw [if_neg h9] at hnb
     have e : numB n = c :: (s.drop (i + 1)).take (c - 247) := by
      unfold numB
      rw [if_neg h9, show lenB n = c - 247 by omega, h7, show 247 + (c - 247) = c by omega]
     refine ⟨h64, ?_, ?_⟩
     ·rw [e, hdr, List.cons_append, show i + 1 + (c - 247) = (c - 247) + (i + 1) by omega]
      refine congrArg (c :: ·) ?_
      conv => lhs; rw [<- List.take_append_drop (c - 247) (s.drop (i + 1))]
      rw [List.drop_drop, show i + 1 + (c - 247) = (c - 247) + (i + 1) by omega]
     ·rw [e, List.length_cons, hln]; omega
    ·simp at h
open Go.RowKit
def bcs (l : List Nat) : List Value := l.map fun (x : Nat) => Value.int .u8 x
theorem bcs_length (l : List Nat) : (bcs l).length = l.length := by simp [bcs]
theorem bcs_append (a b : List Nat) : bcs (a ++ b) = bcs a ++ bcs b := by simp [bcs]
theorem bcs_one (l : List Nat) : ∀ u ∈ bcs l, u.oneCell' = true := fun u hu => by
 obtain ⟨x, _, rfl⟩ := List.mem_map.1 hu
 rfl
abbrev OB (w : World) (base : Nat) (v : Value) (l : List Nat) : Prop := w.ownsRow base 5 1 v l.length (bcs l)
theorem OB.nil_ (w : World) (base : Nat) : OB w base (.slice none 0 0) [] := World.ownsRow_nil _ _ _ _
theorem info_u8 : (Tryz.prog.info? 5).map (fun i => (i.zero, i.size, i.bytes)) = some (some (.int .u8 0), 1, 1) := by kernel_rfl
theorem OB.cell {w : World} {base n c : Nat} {A : Option Addr} {l : List Nat} (h : OB w base (.slice A n c) l) {i x : Nat} (hi : l[i]? = some x) : ∃ b, A = some ⟨b, 0, none⟩ /\ base <= b /\ b < w.heap.size /\ w.cell? ⟨b, i, none⟩ = some (.int .u8 x) := by
 have hlt := (List.getElem?_eq_some_iff.1 hi).1
 have h0 := h
 rcases h.2 with ⟨hv, h9⟩ | ⟨g, cap, cur, hv, hg, hh, hc, _⟩
 ·omega
 ·injection hv with h1 h2 h3
  subst h1; subst h2; subst h3
  refine ⟨g, rfl, hg, heap_lt hh, ?_⟩
  rw [World.ownsRow.cellAt (show w.ownsRow base _ 1 _ l.length (bcs l) from h0) i (by rw [Nat.mul_one]; exact hlt)]
  unfold bcs
  rw [List.getElem?_map, hi]
  rfl
theorem OB.conv {w : World} {base : Nat} {v : Value} {l : List Nat} (h : OB w base v l) : (convert 31 9 v).run Tryz.prog w = .ok (.string (bl l)) w := by
 rcases h.2 with ⟨rfl, h0⟩ | ⟨g, cap, cur, rfl, hg, hh, hc, _⟩
 ·obtain rfl : l = [] := List.eq_nil_of_length_eq_zero h0
  exact run_convert_bytes_nil (P := Tryz.prog) w 31 5 Tryz.underlying31 Tryz.underlying5 0 0 9 Tryz.underlying9
 ·refine run_convert_bytes_arg (P := Tryz.prog) w 31 5 Tryz.underlying31 Tryz.underlying5 g 0 l.length cap (l.map fun (x : Nat) => (x : Int)) (by simp) (fun i hi => ?_) 9 Tryz.underlying9
  obtain ⟨b, e, _, _, hcell⟩ := OB.cell h (List.getElem?_eq_getElem hi)
  injection e with e
  injection e with e
  subst e
  rw [Nat.zero_add, hcell]
  simp [hi]
def RN (w : World) (B : Nat) (v : Value) (l : List Nat) : Prop := ∃ (A : Option Addr) (c : Nat), v = .slice A l.length c /\ (0 < l.length -> ∃ b off, A = some ⟨b, off, none⟩ /\ b < B /\ ∀ (i x : Nat), l[i]? = some x -> w.cell? ⟨b, off + i, none⟩ = some (.int .u64 x))
theorem RN.below {w w' : World} {B : Nat} {v : Value} {l : List Nat} (h : RN w B v l) (hb : Below B w w') : RN w' B v l := by
 obtain ⟨A, c, h1, h2⟩ := h
 refine ⟨A, c, h1, fun h0 => ?_⟩
 obtain ⟨b, off, h4, h5, h6⟩ := h2 h0
 exact ⟨b, off, h4, h5, fun i x hi => old_cell hb (h6 i x hi) h5⟩
theorem RN.more {w : World} {B B' : Nat} {v : Value} {l : List Nat} (h : RN w B v l) (hB : B <= B') : RN w B' v l := by
 obtain ⟨A, c, h1, h2⟩ := h
 refine ⟨A, c, h1, fun h0 => ?_⟩
 obtain ⟨b, off, h4, h5, h6⟩ := h2 h0
 exact ⟨b, off, h4, by omega, h6⟩
theorem RN.form {w : World} {B : Nat} {v : Value} {l : List Nat} (h : RN w B v l) : ∃ (A : Option Addr) (c : Nat), v = .slice A l.length c := by
 obtain ⟨A, c, h1, _⟩ := h
 exact ⟨A, c, h1⟩
theorem RN.at_ {w : World} {B : Nat} {A : Option Addr} {n c : Nat} {l : List Nat} (h : RN w B (.slice A n c) l) {i x : Nat} (hi : l[i]? = some x) : ∃ b off, A = some ⟨b, off, none⟩ /\ b < B /\ w.cell? ⟨b, off + i, none⟩ = some (.int .u64 x) := by
 obtain ⟨A', c', h1, h3⟩ := h
 injection h1 with h1
 have h0 := (List.getElem?_eq_some_iff.1 hi).1
 obtain ⟨b, off, h4, h5, h6⟩ := h3 (by omega)
 exact ⟨b, off, h1.trans h4, h5, h6 i x hi⟩
def numsB (l : List Nat) : List Nat := l.flatMap numB
theorem numsB_take {l : List Nat} {i x : Nat} (h : l[i]? = some x) : numsB (l.take (i + 1)) = numsB (l.take i) ++ numB x := by
 unfold numsB
 rw [List.take_add_one, h]
 simp
open Go.RowKit
def OM (w : World) (base : Nat) (v : Value) (l : List Nat) : Prop :=
 ∃ g cap cur, v = .slice (some ⟨g, 0, none⟩) l.length cap /\ base <= g /\ w.heap[g]? = some (.cells cur 5 (cap, cap + 1)) /\ l.length <= cap /\ cap <= maxLen /\ cur.size = cap /\ cur.toList.take l.length = bcs l
def OX (w : World) (base : Nat) (v : Value) (l : List Nat) : Prop := OB w base v l \/ OM w base v l
section
variable {w w' : World} {base : Nat} {v : Value} {l : List Nat}
theorem OM.later (h : OM w base v l) (hb : Below w.heap.size w w') : OM w' base v l := by
 obtain ⟨g, cap, cur, h1, h2, h3, h4⟩ := h
 exact ⟨g, cap, cur, h1, h2, (hb.block g (heap_lt h3)).trans h3, h4⟩
theorem OX.later (h : OX w base v l) (hb : Below w.heap.size w w') : OX w' base v l := h.imp (fun h => own_later h hb) (fun h => h.later hb)
theorem OM.cell (h : OM w base v l) {i x : Nat} (hi : l[i]? = some x) : ∃ b cap, v = .slice (some ⟨b, 0, none⟩) l.length cap /\ base <= b /\ b < w.heap.size /\ w.cell? ⟨b, i, none⟩ = some (.int .u8 x) /\ w.frozen? ⟨b, i, none⟩ = false := by
 obtain ⟨g, cap, cur, h1, h2, h3, h4, h5, h6, h7⟩ := h
 have hlt := (List.getElem?_eq_some_iff.1 hi).1
 refine ⟨g, cap, h1, h2, heap_lt h3, ?_, ?_⟩
 ·rw [cell_of_row _ _ _ _ _ _ h3]
  have : (cur.toList.take l.length)[i]? = (bcs l)[i]? := by rw [h7]
  rw [List.getElem?_take, if_pos hlt] at this
  unfold bcs at this
  rw [List.getElem?_map, hi] at this
  simpa using this
 ·simp [World.frozen?, h3]
  omega
theorem OX.cell (h : OX w base v l) {i x : Nat} (hi : l[i]? = some x) : ∃ b cap, v = .slice (some ⟨b, 0, none⟩) l.length cap /\ base <= b /\ b < w.heap.size /\ w.cell? ⟨b, i, none⟩ = some (.int .u8 x) := by
 rcases h with h | h
 ·obtain ⟨A, c, hv, _⟩ := row_form h
  subst hv
  obtain ⟨b, rfl, h2, h3, h4⟩ := OB.cell h hi
  exact ⟨b, c, rfl, h2, h3, h4⟩
 ·obtain ⟨b, cap, h1, h2, h3, h4, _⟩ := h.cell hi
  exact ⟨b, cap, h1, h2, h3, h4⟩
theorem OX.form (h : OX w base v l) : ∃ (A : Option Addr) (c : Nat), v = .slice A l.length c := by
 rcases h with h | ⟨g, cap, cur, h1, _⟩
 ·obtain ⟨A, c, hv, _⟩ := row_form h
  exact ⟨A, c, hv⟩
 ·exact ⟨_, _, h1⟩
theorem OX.lt (h : OX w base v l) : ∀ k, v.ownBlock = some k -> base <= k /\ k < w.heap.size := fun k hk => by
 rcases h with h | ⟨g, cap, cur, rfl, h2, h3, _⟩
 ·exact World.ownsRow.lt h k hk
 ·injection hk with hk
  have hk : g = k := hk
  subst hk
  exact ⟨h2, heap_lt h3⟩
theorem OX.conv (h : OX w base v l) : (convert 31 9 v).run Tryz.prog w = .ok (.string (bl l)) w := by
 rcases h with h | h
 ·exact OB.conv h
 ·obtain ⟨g, cap, cur, rfl, h2, h3, h4, h5, h6, h7⟩ := h
  refine run_convert_bytes_arg (P := Tryz.prog) w 31 5 Tryz.underlying31 Tryz.underlying5 g 0 l.length cap (l.map fun (x : Nat) => (x : Int)) (by simp) (fun i hi => ?_) 9 Tryz.underlying9
  obtain ⟨b, cap2, e, _, _, hc, _⟩ := OM.cell ⟨g, cap, cur, rfl, h2, h3, h4, h5, h6, h7⟩ (List.getElem?_eq_getElem hi)
  injection e with e
  injection e with e
  injection e with e
  subst e
  rw [Nat.zero_add, hc]
  simp [hi]
end
theorem conv_text (w : World) (s : ByteArray) (hs : s.size <= maxLen) : ∃ v w', (convert 9 31 (.string s)).run Tryz.prog w = .ok v w' /\ OM w' w.heap.size v (wl s) /\ Below w.heap.size w w' := by
 have hr := run_bytes_of_string (P := Tryz.prog) w 9 31 5 s Tryz.underlying9 Tryz.underlying31 Tryz.underlying5
 have hge := grownCap_ge w s.size 0 5
 have hsz : (bytesRow s (grownCap w s.size 0 5)).size = grownCap w s.size 0 5 := by
  unfold bytesRow
  rw [Array.size_append, Array.size_map, Array.size_replicate]
  show s.size + _ = _
  omega
 rw [hsz] at hr
 refine ⟨_, _, hr, ⟨w.heap.size, grownCap w s.size 0 5, bytesRow s (grownCap w s.size 0 5), by rw [wl_length], Nat.le_refl _, heap_alloc_new w.drew _, by rw [wl_length]; exact hge, grownCap_le_maxLen _ _ _ _ hs, hsz, ?_⟩, ?_⟩
 ·unfold bytesRow bcs wl
  rw [Array.toList_append, Array.toList_map, List.take_append_of_le_length (by simp), List.take_of_length_le (by simp), List.map_map]
  rfl
 ·have h1 : Below w.heap.size w w.drew := ⟨rfl, rfl, rfl, Nat.le_refl _, fun _ _ => rfl⟩
  exact h1.trans ((Below.refl w.heap.size w.drew).alloc (Nat.le_refl w.heap.size) _)
theorem wp_appx {o : Oper} {a : Act} {w : World} {K : Act -> World -> Prop} {Q : Exit -> Act -> World -> Prop} (s y : Operand) (ho : o.op = .call { callee := .builtin .append, args := #[s, y], argTypes := #[31, 31] })
  (base : Nat) (v : Value) (l : List Nat) (hs : a.eval s = v) (hown : OX w base v l) (b x : Nat) (hx : a.eval y = .slice (some ⟨b, 0, none⟩) 1 1) (hc : w.cell? ⟨b, 0, none⟩ = some (.int .u8 x)) (hn : l.length <= 1000000000) (hbase : base <= w.heap.size)
  (h : ∀ v' w', OX w' base v' (l ++ [x]) -> w.grownBy w' v.ownBlock -> K (a.put o.dst v') w') : Oper.wp Tryz.prog o a w K Q := by
 have hnews : ∀ j u, ([Value.int .u8 x] : List Value)[j]? = some u -> w.cell? ⟨b, j, none⟩ = some u := fun j u hu => by
  cases j with
  | zero => injection hu with hu; rw [<- hu]; exact hc
  | succ j => simp at hu
 rcases hown with hown | hown
 ·refine wp_app s y 31 ho 5 _ 1 1 Tryz.underlying31 info_u8 rfl (by decide) (by decide) base v l.length _ hs hown b [.int .u8 x] hx rfl hnews (by intro u hu; simp at hu; subst hu; rfl) hn hbase (fun v' w' h1 h2 _ => h v' w' (.inl ?_) h2)
  unfold OB
  rw [bcs_append, List.length_append]
  exact h1
 ·obtain ⟨g, cap, cur, rfl, h2, h3, h4, h5, h6, h7⟩ := hown
  obtain ⟨i0, hi, hz0, hz1, hz2⟩ := info_parts info_u8
  have hone : ∀ u ∈ ([Value.int .u8 x] : List Value), u.oneCell' = true := by intro u hu; simp at hu; subst hu; rfl
  rcases Nat.lt_or_ge l.length cap with hlt | hge
  ·have hr := run_append_room_cells (P := Tryz.prog) w 31 o.type 5 i0 Tryz.underlying31 hi g 0 l.length cap ⟨b, 0, none⟩ 1 1 [.int .u8 x] (by rw [hz1]; rfl) (fun j u hu => by rw [Addr.add_lit, Nat.zero_add]; exact hnews j u hu) hone (by omega)
    (fun j hj => by
     have : j = 0 := by simpa using hj
     subst this
     rw [hz1, cell_of_row _ _ _ _ _ _ h3, Array.getElem?_eq_getElem (by omega)]
     rfl)
    (fun j hj => by
     have : j = 0 := by simpa using hj
     subst this
     rw [hz1]
     simp [World.frozen?, h3]
     omega)
   rw [hz1] at hr
   unfold Oper.wp execOp
   simp only [ho, resolve, invoke, builtin, Sem.run_bind, Sem.run_pure, Result.andThen_ok, List.map_toArray, List.map_cons, List.map_nil, hs, hx, hr]
   have hw : w.setCells g (0 + l.length * 1) [.int .u8 x] = w.setCell ⟨g, l.length, none⟩ (.int .u8 x) := by rw [Nat.zero_add, Nat.mul_one]; rfl
   rw [hw]
   refine h _ _ (.inr ⟨g, cap, cur.setIfInBounds l.length (.int .u8 x), by rw [List.length_append]; rfl, h2, ?_, by rw [List.length_append]; exact hlt, h5, by rw [Array.size_setIfInBounds]; exact h6, ?_⟩) ⟨rfl, rfl, rfl, by simp [World.setCell], fun k hk hne => ?_⟩
   ·exact set_block h3 _
   ·rw [Array.toList_setIfInBounds, List.length_append, bcs_append, List.length_cons, List.length_nil, Nat.zero_add]
    rw [List.take_add_one, List.take_set_of_le (Nat.le_refl _), h7, List.getElem?_set_self (by simp [h6, hlt])]
    rfl
   ·exact Below.heap_setCell _ _ _ _ (fun e => hne (by rw [e]; rfl))
  ·have hcap : l.length = cap := by omega
   obtain ⟨v', w', r1, r2, r3⟩ := run_append_arg_grows (P := Tryz.prog) w 31 o.type 5 i0 _ 1 1 Tryz.underlying31 hi hz0 hz1 hz2 rfl (by decide) ⟨g, 0, none⟩ l.length cap (bcs l) (by rw [bcs_length, Nat.mul_one]) (fun j u hj => by
     rw [Addr.add_lit, Nat.zero_add, cell_of_row _ _ _ _ _ _ h3]
     have hjl : j < l.length := by have := (List.getElem?_eq_some_iff.1 hj).1; rwa [bcs_length] at this
     rw [<- h7, List.getElem?_take, if_pos hjl] at hj
     simpa using hj) ⟨b, 0, none⟩ 1 1 [.int .u8 x] rfl (fun j u hu => by rw [Addr.add_lit, Nat.zero_add]; exact hnews j u hu) (by omega) (by unfold maxLen; omega) (by omega)
   unfold Oper.wp execOp
   simp only [ho, resolve, invoke, builtin, Sem.run_bind, Sem.run_pure, Result.andThen_ok, List.map_toArray, List.map_cons, List.map_nil, hs, hx, r1]
   refine h v' w' (.inl ?_) ⟨r3.os, r3.tape, r3.output, r3.size, fun k hk _ => r3.block k hk (by simp)⟩
   unfold OB
   rw [bcs_append, List.length_append]
   exact own_less r2 hbase
end Dw
namespace Crc
def poly : Nat := 0xEDB88320
def L (n : Nat) : Nat := if n % 2 = 1 then (n / 2) ^^^ poly else n / 2
def bit (n b : Nat) : Nat := if n % 2 = b then n / 2 else (n / 2) ^^^ poly
def byte (n c : Nat) : Nat := bit (bit (bit (bit (bit (bit (bit (bit n (c % 2)) (c / 2 % 2)) (c / 4 % 2)) (c / 8 % 2)) (c / 16 % 2)) (c / 32 % 2)) (c / 64 % 2)) (c / 128 % 2)
def T (x : Nat) : Nat := L (L (L (L x)))
def nib (n h : Nat) : Nat := (n / 16) ^^^ T ((n % 16) ^^^ h)
theorem xor_mod2 (a b : Nat) : (a ^^^ b) % 2 = (a % 2 + b % 2) % 2 := by
 have h := Nat.xor_mod_two_pow (a := a) (b := b) (n := 1)
 rw [show (2:Nat)^1 = 2 from rfl] at h
 rw [h]
 rcases Nat.mod_two_eq_zero_or_one a with ha | ha <;> rcases Nat.mod_two_eq_zero_or_one b with hb | hb <;> simp [ha, hb]
theorem L_xor (a b : Nat) : L (a ^^^ b) = L a ^^^ L b := by
 unfold L
 have h1 := xor_mod2 a b
 have h2 : (a ^^^ b) / 2 = a / 2 ^^^ b / 2 := Nat.xor_div_two
 rw [h1, h2]
 rcases Nat.mod_two_eq_zero_or_one a with ha | ha <;> rcases Nat.mod_two_eq_zero_or_one b with hb | hb <;> simp [ha, hb]
 ·rw [Nat.xor_assoc]
 ·rw [Nat.xor_assoc, Nat.xor_assoc, Nat.xor_comm poly]
 ·rw [Nat.xor_assoc, <- Nat.xor_assoc poly, Nat.xor_comm poly (b / 2), Nat.xor_assoc, Nat.xor_self, Nat.xor_zero]
theorem bit_L (n b : Nat) (hb : b < 2) : bit n b = L (n ^^^ b) := by
 unfold bit L
 have h2 : (n ^^^ b) / 2 = n / 2 := by rw [Nat.xor_div_two, show b / 2 = 0 by omega, Nat.xor_zero]
 have h1 := xor_mod2 n b
 rw [h1, h2]
 rcases Nat.mod_two_eq_zero_or_one n with ha | ha <;> rcases (show b = 0 \/ b = 1 by omega) with rfl | rfl <;> simp [ha]
theorem L_double (x : Nat) : L (2 * x) = x := by unfold L; simp
theorem L_16 (x : Nat) : L (L (L (L (16 * x)))) = x := by
 rw [show 16 * x = 2 * (2 * (2 * (2 * x))) by omega, L_double, L_double, L_double, L_double]
theorem xor_parts (n : Nat) : n = (16 * (n / 16)) ^^^ (n % 16) := by
 refine Nat.eq_of_testBit_eq fun i => ?_
 rw [Nat.testBit_xor, show (16 : Nat) * (n / 16) = 2 ^ 4 * (n / 2 ^ 4) from rfl, show n % 16 = n % 2 ^ 4 from rfl, Nat.testBit_two_pow_mul, Nat.testBit_div_two_pow, Nat.testBit_mod_two_pow]
 by_cases h : i < 4
 ·have h' : ¬ i ≥ 4 := by omega
  simp [h, h']
 ·have h' : i ≥ 4 := by omega
  simp [h, h', show i - 4 + 4 = i by omega]
theorem nib_bits (n h : Nat) (hh : h < 16) : bit (bit (bit (bit n (h % 2)) (h / 2 % 2)) (h / 4 % 2)) (h / 8 % 2) = nib n h := by
 have b0 : h % 2 < 2 := by omega
 have b1 : h / 2 % 2 < 2 := by omega
 have b2 : h / 4 % 2 < 2 := by omega
 have b3 : h / 8 % 2 < 2 := by omega
 rw [bit_L _ _ b0, bit_L _ _ b1, bit_L _ _ b2, bit_L _ _ b3]
 unfold nib T
 conv => lhs; rw [xor_parts n]
 simp only [L_xor]
 rw [L_16]
 have hs : ∀ h, h < 16 -> L (L (L (L (h % 2)))) ^^^ (L (L (L (h / 2 % 2))) ^^^ (L (L (h / 4 % 2)) ^^^ L (h / 8 % 2))) = L (L (L (L h))) := by decide
 have hs' := hs h hh
 rw [<- hs']
 simp only [Nat.xor_assoc]
theorem nib_lt (n h : Nat) (hn : n < 4294967296) (hh : h < 16) : nib n h < 4294967296 := by
 have ht : ∀ x, x < 16 -> T x < 4294967296 := by decide
 have hx : (n % 16) ^^^ h < 2 ^ 4 := Nat.xor_lt_two_pow (by omega) (by omega)
 exact Nat.xor_lt_two_pow (n := 32) (by omega) (ht _ (by omega))
theorem byte_nib (n c : Nat) (hc : c < 256) : byte n c = nib (nib n (c % 16)) (c / 16) := by
 rw [<- nib_bits _ _ (show c % 16 < 16 by omega), <- nib_bits _ _ (show c / 16 < 16 by omega)]
 unfold byte
 rw [show c % 16 % 2 = c % 2 by omega, show c % 16 / 2 % 2 = c / 2 % 2 by omega, show c % 16 / 4 % 2 = c / 4 % 2 by omega, show c % 16 / 8 % 2 = c / 8 % 2 by omega,
  show c / 16 / 2 % 2 = c / 32 % 2 by omega, show c / 16 / 4 % 2 = c / 64 % 2 by omega, show c / 16 / 8 % 2 = c / 128 % 2 by omega]
theorem byte_lt (n c : Nat) (hn : n < 4294967296) (hc : c < 256) : byte n c < 4294967296 := by
 rw [byte_nib n c hc]
 exact nib_lt _ _ (nib_lt _ _ hn (by omega)) (by omega)
def run (n : Nat) (l : List Nat) : Nat := l.foldl byte n
theorem run_lt (l : List Nat) : (∀ x ∈ l, x < 256) -> ∀ n, n < 4294967296 -> run n l < 4294967296 := by
 induction l with
 | nil => exact fun _ n h => h
 | cons c l ih => exact fun hs n h => ih (fun x hx => hs x (List.mem_cons_of_mem _ hx)) _ (byte_lt _ _ h (hs c (List.mem_cons_self ..)))
def sum (l : List Nat) : Nat := 4294967295 - run 4294967295 l
theorem sum_lt (l : List Nat) : sum l < 4294967296 := by unfold sum; omega
def four (n : Nat) : List Nat := [n % 256, n / 256 % 256, n / 65536 % 256, n / 16777216 % 256]
def seal' (l : List Nat) : List Nat := l ++ four (sum l)
def opened (l : List Nat) : Option (List Nat) := if 4 <= l.length /\ seal' (l.take (l.length - 4)) = l then some (l.take (l.length - 4)) else none
theorem seal_length (l : List Nat) : (seal' l).length = l.length + 4 := by simp [seal', four]
theorem opened_seal (l : List Nat) : opened (seal' l) = some l := by
 unfold opened
 have h : (seal' l).take ((seal' l).length - 4) = l := by rw [seal_length]; simp [seal']
 rw [h, if_pos ⟨by rw [seal_length]; omega, rfl⟩]
theorem opened_some {l b : List Nat} (h : opened l = some b) : l = seal' b := by
 unfold opened at h
 split at h
 ·rename_i hc
  injection h with h
  rw [<- h]; exact hc.2.symm
 ·cases h
end Crc
open Go.RowKit
namespace Dw
def lcs (l : List Nat) (k : Nat) : List Value := l.map (fun (x : Nat) => Value.int .u8 x) ++ [.int .i64 k]
def numP (n : Nat) : List Nat := numB n ++ List.replicate (9 - (numB n).length) 0
theorem numP_length {n : Nat} (h : n < M64) : (numP n).length = 9 := by
 have := numB_le h
 unfold numP
 rw [List.length_append, List.length_replicate]
 omega
theorem lcs_size {l : List Nat} {k : Nat} (h : l.length = 9) : (lcs l k).toArray.size = 10 := by
 rw [List.size_toArray]
 unfold lcs
 rw [List.length_append, List.length_map, h]
 rfl
theorem lcs_one (l : List Nat) (k : Nat) : (lcs l k).toArray.all (·.oneCell') = true := by
 rw [Array.all_eq_true_iff_forall_mem]
 intro v hv
 have hv : v ∈ lcs l k := by simpa using hv
 rcases List.mem_append.1 hv with hv | hv
 ·obtain ⟨x, _, rfl⟩ := List.mem_map.1 hv
  rfl
 ·simp at hv; subst hv; rfl
theorem lcs_at {w : World} {g i k x : Nat} {l : List Nat} {t : TypeId} (h : w.heap[g]? = some (.cells (lcs l k).toArray t (0, 0))) (hi : l[i]? = some x) : w.cell? ⟨g, i, none⟩ = some (.int .u8 x) := by
 have hl := (List.getElem?_eq_some_iff.1 hi).1
 rw [cell_of_row _ _ i _ t (0, 0) h]
 unfold lcs
 simp only [List.getElem?_toArray]
 rw [List.getElem?_append_left (by simpa using hl), List.getElem?_map, hi]
 rfl
theorem lcs_last {w : World} {g k : Nat} {l : List Nat} {t : TypeId} (h : w.heap[g]? = some (.cells (lcs l k).toArray t (0, 0))) (hl : l.length = 9) : w.cell? ⟨g, 9, none⟩ = some (.int .i64 k) := by
 rw [cell_of_row _ _ 9 _ t (0, 0) h]
 unfold lcs
 simp only [List.getElem?_toArray]
 rw [List.getElem?_append_right (by simp [hl])]
 simp [hl]
theorem lcs_set {l : List Nat} {k i x : Nat} (hi : i < l.length) : (lcs l k).toArray.setIfInBounds i (.int .u8 (x : Int)) = (lcs (l.set i x) k).toArray := by
 unfold lcs
 rw [List.setIfInBounds_toArray, List.set_append_left _ _ (by simpa using hi), List.map_set]
theorem lcs_setlast {l : List Nat} {k j : Nat} (hl : l.length = 9) : (lcs l k).toArray.setIfInBounds 9 (.int .i64 (j : Int)) = (lcs l j).toArray := by
 unfold lcs
 rw [List.setIfInBounds_toArray, List.set_append_right _ _ (by simp [hl])]
 simp [hl]
theorem lay_lit {n : Nat} (h : n < 248) : lcs (numP n) (numB n).length = [.int .u8 n, .int .u8 0, .int .u8 0, .int .u8 0, .int .u8 0, .int .u8 0, .int .u8 0, .int .u8 0, .int .u8 0, .int .i64 1] := by
 have e : numB n = [n] := by unfold numB; rw [if_pos h]
 unfold numP
 rw [e]
 rfl
theorem lay_next {n m i : Nat} (h : i < m) (hm : m <= 8) : ((247 + m) :: (leB i n ++ List.replicate (8 - i) 0))[1 + i]? = some 0 := by
 rw [Nat.add_comm 1 i, List.getElem?_cons_succ, List.getElem?_append_right (by rw [leB_length]; omega), leB_length, Nat.sub_self, List.getElem?_replicate, if_pos (by omega)]
theorem lay_step {n m i : Nat} (h : i < m) (hm : m <= 8) : ((247 + m) :: (leB i n ++ List.replicate (8 - i) 0)).set (1 + i) (n / 256 ^ i % 256) = (247 + m) :: (leB (i + 1) n ++ List.replicate (8 - (i + 1)) 0) := by
 rw [Nat.add_comm 1 i, List.set_cons_succ, List.set_append_right _ _ (by rw [leB_length]; omega), leB_length, Nat.sub_self, leB_snoc, List.append_assoc, show 8 - i = (8 - (i + 1)) + 1 by omega, List.replicate_succ]
 rfl
theorem lay_full {n i : Nat} (h : lenB n = i) (hn : 248 <= n) : lcs ((247 + i) :: (leB i n ++ List.replicate (8 - i) 0)) (1 + i) = lcs (numP n) (numB n).length := by
 have e : numB n = (247 + i) :: leB i n := by unfold numB; rw [if_neg (by omega), h]
 unfold numP
 rw [e, List.length_cons, leB_length, show 9 - (i + 1) = 8 - i by omega, Nat.add_comm 1 i]
 rfl
theorem shr_cut {n i : Nat} : (n : Int) / 2 ^ (8 * (i : Int)).toNat = ((n / 256 ^ i : Nat) : Int) := by
 rw [show (8 * (i : Int)).toNat = 8 * i by omega, show (2 : Int) ^ (8 * i) = ((256 ^ i : Nat) : Int) by rw [pow256]; norm_cast]
 rfl
theorem wrap8 {n : Nat} : IntKind.u8.wrap (n : Int) = ((n % 256 : Nat) : Int) := by rw [IntKind.wrap_u8]; omega
theorem len_div {n m : Nat} (h : (Lib.bitLen n + 7) / 8 = m) : ((Lib.bitLen n : Int) + 8 - 1).tdiv 8 = (m : Int) := by
 rw [Int.tdiv_eq_ediv_of_nonneg (by omega)]
 omega
theorem lay_small (w : World) (n : Nat) (hn : n < 248) : Calls Tryz.prog 101 #[.int .u64 n] w fun e w1 => e = .returned (.agg (lcs (numP n) (numB n).length).toArray) /\ Below w.heap.size w w1 := by
 refine Zn1 41 Tryz.func101 fun fr hf s0 => ?_
 have q0 : decide ((n : Int) < 248) = true := decide_eq_true (by omega)
 refine Ze fun _ hK1 => ?_
 refine Zr [] hf ?_
 refine Zq2 0 2 hf ?_
 clear hf s0; intro fr1 hf sS
 obtain ⟨W0, hW0⟩ : ∃ x, w.alloc (.cells #[.int .u8 0, .int .u8 0, .int .u8 0, .int .u8 0, .int .u8 0, .int .u8 0, .int .u8 0, .int .u8 0, .int .u8 0, .int .i64 0] 184) = x := ⟨_, rfl⟩
 try rw [hW0]
 have hx0 : W0.heap[w.heap.size]? = some (.cells (lcs (List.replicate 9 0) 0).toArray 184 (0, 0)) := by rw [<- hW0, heap_get, if_pos rfl]; rfl
 have hb0 : Below w.heap.size w W0 := by rw [<- hW0]; exact (Below.refl _ _).alloc (Nat.le_refl _) _
 clear hW0
 refine Zs hK1 fun _ hK2 => ?_
 refine Ze fun _ hK3 => ?_
 refine Zr [5] hf ?_
 refine Zq3 0 2 6 hf ?_
 clear hf sS; intro fr1 hf sS
 refine Zx hK3 ?_
 refine Fact.cond_t sS.2.2 ?_
 clear q0
 have f0 := frozen_of (i := 0) hx0; have f9 := frozen_of (i := 9) hx0
 have z0 := lcs_at (i := 0) (x := 0) hx0 (by simp)
 have z9 := lcs_last hx0 (by simp)
 refine Ze fun _ hK4 => rg ?_
 have bB := hf.B5 7 8 9 10 11
 refine Za ?_
 refine fp fun K Z => ?_
 go_simp
 rw [Fact.wrap_u8 (by omega) (by omega)]
 apply Z.out; clear Z K
 refine Za ?_
 refine Zi ?_
 iterate 3 refine Za ?_
 refine Fact.nil (Zq1 2 hf ?_)
 clear hf sS bB; intro fr1 hf s2
 have hx1 := set_block (i := 9) (set_block (i := 0) hx0 (.int .u8 n)) (.int .i64 1)
 have hb1 := (hb0.setCell (p := ⟨w.heap.size, 0, none⟩) (Nat.le_refl _) (.int .u8 n)).setCell (p := ⟨w.heap.size, 9, none⟩) (Nat.le_refl _) (.int .i64 1)
 rw [show ((lcs (List.replicate 9 0) 0).toArray.setIfInBounds 0 (.int .u8 n)).setIfInBounds 9 (.int .i64 1) = (lcs (numP n) (numB n).length).toArray by rw [lay_lit hn]; rfl] at hx1
 obtain ⟨W1, hW1⟩ : ∃ x, (W0.setCell ⟨w.heap.size, 0, none⟩ (.int .u8 n)).setCell ⟨w.heap.size, 9, none⟩ (.int .i64 1) = x := ⟨_, rfl⟩
 rw [hW1] at hx1 hb1
 rw [hW1]
 have hnl := numP_length (n := n) (by unfold M64; omega)
 clear hW1 z0 z9 f0 f9 hx0 hb0
 refine Zt hK4 fun _ hK5 => ?_
 have bB := hf.b 12
 refine ⟨?_⟩
 refine wpList_load_row rfl 184 _ rfl w.heap.size (Fact.eval_tmp s2) 184 _ (0, 0) _ hx1 Tryz.underlying184 rfl (by rw [lcs_size hnl]; kernel_rfl) ?_
 refine Fact.L.out ?_
 clear bB
 refine Fact.reL (n := 41) (by simp only [Fact.G, hf.size]) hf.defers (fun fr1 hf1 hT => ?_)
 have hKp := Fact.h2 hT 2 12
 simp (decide := true) only [Fact.G, hf.size, reduceIte, s2] at hKp
 replace hf := hf1; clear hT hf1 s2
 obtain ⟨s2, s12⟩ := hKp
 refine ⟨?_⟩
 refine wpList_plain rfl fun KL hKL => ?_
 refine wp_store_row 184 _ _ rfl w.heap.size _ (Fact.eval_tmp s2) (Fact.eval_tmp s12) 184 _ hx1 (by rw [lcs_size hnl]; kernel_rfl) rfl (lcs_one _ _) (hKL _ _ ?_)
 refine Fact.L.out ?_
 refine Fact.nil (Zq1 2 hf ?_)
 clear hf s2 s12; intro fr1 hf s2
 rw [setRow_self _ _ _ 184 (0, 0) hx1]
 refine Zx hK5 ?_
 refine Zret ?_
 refine ret_c rfl hf s2 hx1 Tryz.underlying184 rfl (by rw [lcs_size hnl]; kernel_rfl) ⟨?_, hb1⟩
 rfl
theorem lay_big (w : World) (n : Nat) (hn : 248 <= n) (hn64 : n < M64) : Calls Tryz.prog 101 #[.int .u64 n] w fun e w1 => e = .returned (.agg (lcs (numP n) (numB n).length).toArray) /\ Below w.heap.size w w1 := by
 refine Zn1 41 Tryz.func101 fun fr hf s0 => ?_
 have q0 : decide ((n : Int) < 248) = false := decide_eq_false (by omega)
 refine Ze fun _ hK1 => ?_
 refine Zr [] hf ?_
 refine Zq2 0 2 hf ?_
 clear hf s0; intro fr1 hf sS
 obtain ⟨W0, hW0⟩ : ∃ x, w.alloc (.cells #[.int .u8 0, .int .u8 0, .int .u8 0, .int .u8 0, .int .u8 0, .int .u8 0, .int .u8 0, .int .u8 0, .int .u8 0, .int .i64 0] 184) = x := ⟨_, rfl⟩
 try rw [hW0]
 have hx0 : W0.heap[w.heap.size]? = some (.cells (lcs (List.replicate 9 0) 0).toArray 184 (0, 0)) := by rw [<- hW0, heap_get, if_pos rfl]; rfl
 have hb0 : Below w.heap.size w W0 := by rw [<- hW0]; exact (Below.refl _ _).alloc (Nat.le_refl _) _
 clear hW0
 refine Zs hK1 fun _ hK2 => ?_
 refine Ze fun _ hK3 => ?_
 refine Zr [5] hf ?_
 refine Zq3 0 2 6 hf ?_
 clear hf sS; intro fr1 hf sS
 refine Zx hK3 ?_
 refine Fact.cond_f sS.2.2 ?_
 clear q0
 obtain ⟨hm1, hm8, -, -⟩ := lenB_bounds (show 0 < n by omega) hn64
 obtain ⟨m, hm⟩ : ∃ m, lenB n = m := ⟨_, rfl⟩
 rw [hm] at hm1 hm8
 have hml : (Lib.bitLen n + 7) / 8 = m := hm
 have HM := Lib.hid hm; clear hm
 have f0 := frozen_of (i := 0) hx0
 have z0 := lcs_at (i := 0) (x := 0) hx0 (by simp)
 refine wp_skip ?_
 refine Zt hK2 fun _ hK4 => ?_
 have bB := hf.B5 13 14 15 16 17
 refine Za ?_
 refine fp fun K Z => ?_
 go_simp
 go_at_call 138; refine (Tryz.bits_Len64 (n : Int) W0 (by omega) (by unfold M64 at hn64; omega)).mono ?_; rintro e w1 ⟨rfl, hww⟩
 subst w1
 rw [Int.toNat_natCast]
 try dsimp only
 apply Z.out; clear Z K
 iterate 2 refine Zb ?_
 refine fp fun K Z => ?_
 go_simp
 rw [len_div hml, Fact.wrap_i64 (by omega) (by omega)]
 clear hml
 apply Z.out; clear Z K
 refine Za ?_
 refine Fact.nil (Zq3 0 2 3 hf ?_)
 clear hf sS bB; intro fr1 hf sS
 refine Zt hK4 fun _ hK5 => ?_
 have bB := hf.B5 18 19 20 21 22
 refine Za ?_
 refine fp fun K Z => ?_
 go_simp
 try simp (disch := omega) only [Fact.W]
 rw [show (247 : Int) + (m : Int) = ((247 + m : Nat) : Int) by omega]
 apply Z.out; clear Z K
 refine fp fun K Z => ?_
 go_simp
 rw [Fact.wrap_u8 (by omega) (by omega)]
 apply Z.out; clear Z K
 refine Za ?_
 refine Zi ?_
 refine Za ?_
 refine Fact.nil (Zq3 0 2 3 hf ?_)
 clear hf sS bB; intro fr1 hf sS
 rw [show (247 : Int) + (m : Int) = ((247 + m : Nat) : Int) by omega]
 have hx1 := set_block (i := 0) hx0 (.int .u8 ((247 + m : Nat) : Int))
 have hb1 := hb0.setCell (p := ⟨w.heap.size, 0, none⟩) (Nat.le_refl _) (.int .u8 ((247 + m : Nat) : Int))
 rw [lcs_set (by simp)] at hx1
 obtain ⟨W1, hW1⟩ : ∃ x, W0.setCell ⟨w.heap.size, 0, none⟩ (.int .u8 ((247 + m : Nat) : Int)) = x := ⟨_, rfl⟩
 rw [hW1] at hx1 hb1
 try rw [hW1]
 replace hx1 : W1.heap[w.heap.size]? = some (.cells (lcs ((247 + m) :: (leB 0 n ++ List.replicate (8 - 0) 0)) 0).toArray 184 (0, 0)) := hx1
 clear hW1 z0 f0 hx0 hb0
 refine Zs hK5 fun _ hK6 => ?_
 refine Ze fun _ hK7 => ?_
 refine Zr [] hf ?_
 refine Zq5 0 2 3 23 24 hf ?_
 clear hf sS; intro fr1 hf sS
 refine Zx hK7 ?_
 refine wp_block ?_
 refine wp_loop_ghost (fun gk fr wr => ∃ (i : Nat), gk = m - i /\ i <= m /\ Fact.Fr 41 fr /\ fr.tmps[0]? = some (.int .u64 n) /\ fr.tmps[2]? = some (.pointer (some ⟨w.heap.size, 0, none⟩)) /\ fr.tmps[3]? = some (.int .i64 m) /\ fr.tmps[23]? = some (.int .i64 m) /\ fr.tmps[24]? = some (.int .i64 i) /\ wr.heap[w.heap.size]? = some (.cells (lcs ((247 + m) :: (leB i n ++ List.replicate (8 - i) 0)) 0).toArray 184 (0, 0)) /\ Below w.heap.size w wr) (m) ?_ ?_
 . (
 obtain ⟨s0, s2, s3, s23, s24⟩ := sS
 exact ⟨0, rfl, Nat.zero_le _, hf, s0, s2, s3, s23, s24, hx1, hb1⟩)
 . (
 clear hf sS
 clear hx1 hb1
 rintro gk fr wr ⟨i, hk, hi, hf, s0, s2, s3, s23, s24, hx, hb⟩
 have HK := Lib.hid hk; clear hk
 refine Ze fun _ hK8 => ?_
 refine Zr [] hf ?_
 refine Zq6 0 2 3 23 24 25 hf ?_
 clear hf s0 s2 s3 s23 s24; intro fr1 hf sS
 refine Zs hK8 fun _ hK9 => ?_
 refine Fact.cond_s sS.2.2.2.2.2 (fun hq => ?_) (fun hq => ?_)
 . (
 have hlt : i < m := by have h9 := of_decide_eq_true hq; omega
 clear hq
 have f1 := frozen_of (i := 1 + i) hx
 have z1 := lcs_at (i := 1 + i) (x := 0) hx (lay_next hlt hm8)
 obtain ⟨d, hd⟩ : ∃ d, n / 256 ^ i = d := ⟨_, rfl⟩
 obtain ⟨x8, hx8⟩ : ∃ x8, d % 256 = x8 := ⟨_, rfl⟩
 have HD := Lib.hid hd; have HX8 := Lib.hid hx8; clear hd hx8
 refine wp_skip ?_
 refine Zs hK9 fun _ hK10 => ?_
 refine wp_block ?_
 refine Ze fun _ hK11 => ?_
 refine Zr [26] hf ?_
 refine Zq6 0 2 3 4 23 24 hf ?_
 clear hf sS; intro fr1 hf sS
 refine Zx hK11 ?_
 refine rg ?_
 have bB := hf.B9 27 28 29 30 31 32 33 34 35
 refine Za ?_
 refine fp fun K Z => ?_
 go_simp
 try simp (disch := omega) only [Fact.W]
 rw [show (1 : Int) + (i : Int) = ((1 + i : Nat) : Int) by omega]
 apply Z.out; clear Z K
 iterate 2 refine Za ?_
 refine Zb ?_
 refine fp fun K Z => ?_
 go_simp
 rw [shr_cut, HD.out]
 apply Z.out; clear Z K
 refine fp fun K Z => ?_
 go_simp
 rw [wrap8, HX8.out]
 apply Z.out; clear Z K
 refine Za ?_
 refine fp fun K Z => ?_
 go_simp
 try rw [if_pos (by omega)]
 rw [show ((1 : Int) + (i : Int)).toNat = 1 + i by omega]
 apply Z.out; clear Z K
 refine Za ?_
 refine Fact.nil (Zq5 0 2 3 23 24 hf ?_)
 clear hf sS bB; intro fr1 hf sS
 try rw [show (1 : Int) + (i : Int) = ((1 + i : Nat) : Int) by omega]
 have hx2 := set_block (i := 1 + i) hx (.int .u8 (x8 : Int))
 have hb2 := hb.setCell (p := ⟨w.heap.size, 1 + i, none⟩) (Nat.le_refl _) (.int .u8 (x8 : Int))
 rw [lcs_set (by simp [leB_length]; omega)] at hx2
 have hst := lay_step (n := n) hlt hm8
 rw [HD.out, HX8.out] at hst
 rw [hst] at hx2
 obtain ⟨W2, hW2⟩ : ∃ x, wr.setCell ⟨w.heap.size, 1 + i, none⟩ (.int .u8 (x8 : Int)) = x := ⟨_, rfl⟩
 rw [hW2] at hx2 hb2
 try rw [hW2]
 clear hW2 hst z1 f1 hx hb
 refine Fact.block_normal ?_
 refine Zx hK10 ?_
 refine Zr [36] hf ?_
 refine Zq5 0 2 3 23 24 hf ?_
 clear hf sS; intro fr1 hf sS
 refine Fact.then_normal ?_
 obtain ⟨s0, s2, s3, s23, s24⟩ := sS
 exact ⟨_, by have := HK.out; omega, i + 1, rfl, by omega, hf, s0, s2, s3, s23, by rw [s24]; rfl, hx2, hb2⟩)
 . (
 have hie : i = m := by have h9 := of_decide_eq_false hq; omega
 subst hie
 clear hq
 have hl9 : ((247 + i) :: (leB i n ++ List.replicate (8 - i) 0)).length = 9 := by simp [leB_length]; omega
 have z9 := lcs_last hx hl9
 have f9 := frozen_of (i := 9) hx
 refine Zo ?_
 refine Zt hK6 fun _ hK12 => ?_
 have bB := hf.B3 37 38 39
 refine Za ?_
 refine fp fun K Z => ?_
 go_simp
 try simp (disch := omega) only [Fact.W]
 rw [show (1 : Int) + (i : Int) = ((1 + i : Nat) : Int) by omega]
 apply Z.out; clear Z K
 iterate 2 refine Za ?_
 refine Fact.nil (Zq1 2 hf ?_)
 clear hf sS bB; intro fr1 hf s2
 try rw [show (1 : Int) + (i : Int) = ((1 + i : Nat) : Int) by omega]
 have hx2 := set_block (i := 9) hx (.int .i64 ((1 + i : Nat) : Int))
 have hb2 := hb.setCell (p := ⟨w.heap.size, 9, none⟩) (Nat.le_refl _) (.int .i64 ((1 + i : Nat) : Int))
 rw [lcs_setlast hl9] at hx2
 rw [lay_full HM.out hn] at hx2
 obtain ⟨W2, hW2⟩ : ∃ x, wr.setCell ⟨w.heap.size, 9, none⟩ (.int .i64 ((1 + i : Nat) : Int)) = x := ⟨_, rfl⟩
 rw [hW2] at hx2 hb2
 try rw [hW2]
 have hnl := numP_length (n := n) hn64
 clear hW2 z9 f9 hx hb
 refine Zt hK12 fun _ hK13 => ?_
 have bB := hf.b 40
 refine ⟨?_⟩
 refine wpList_load_row rfl 184 _ rfl w.heap.size (Fact.eval_tmp s2) 184 _ (0, 0) _ hx2 Tryz.underlying184 rfl (by rw [lcs_size hnl]; kernel_rfl) ?_
 refine Fact.L.out ?_
 clear bB
 refine Fact.reL (n := 41) (by simp only [Fact.G, hf.size]) hf.defers (fun fr1 hf1 hT => ?_)
 have hKp := Fact.h2 hT 2 40
 simp (decide := true) only [Fact.G, hf.size, reduceIte, s2] at hKp
 replace hf := hf1; clear hT hf1 s2
 obtain ⟨s2, s40⟩ := hKp
 refine ⟨?_⟩
 refine wpList_plain rfl fun KL hKL => ?_
 refine wp_store_row 184 _ _ rfl w.heap.size _ (Fact.eval_tmp s2) (Fact.eval_tmp s40) 184 _ hx2 (by rw [lcs_size hnl]; kernel_rfl) rfl (lcs_one _ _) (hKL _ _ ?_)
 refine Fact.L.out ?_
 refine Fact.nil (Zq1 2 hf ?_)
 clear hf s2 s40; intro fr1 hf s2
 rw [setRow_self _ _ _ 184 (0, 0) hx2]
 refine Zx hK13 ?_
 refine Zret ?_
 refine ret_c rfl hf s2 hx2 Tryz.underlying184 rfl (by rw [lcs_size hnl]; kernel_rfl) ⟨?_, hb2⟩
 rfl))
open Go.RowKit
theorem tab_at {x : Nat} (h : x < 16) : (#[.int .u32 0, .int .u32 498536548, .int .u32 997073096, .int .u32 651767980, .int .u32 1994146192, .int .u32 1802195444, .int .u32 1303535960, .int .u32 1342533948, .int .u32 3988292384, .int .u32 4027552580, .int .u32 3604390888, .int .u32 3412177804, .int .u32 2607071920, .int .u32 2262029012, .int .u32 2685067896, .int .u32 3183342108] : Array Value)[x]? = some (.int .u32 (Crc.T x : Nat)) := by
 rcases x with _ | _ | _ | _ | _ | _ | _ | _ | _ | _ | _ | _ | _ | _ | _ | _ | x <;> first | rfl | omega
theorem tab_cell {w : World} {g x : Nat} {t : TypeId} (h : w.heap[g]? = some (.cells #[.int .u32 0, .int .u32 498536548, .int .u32 997073096, .int .u32 651767980, .int .u32 1994146192, .int .u32 1802195444, .int .u32 1303535960, .int .u32 1342533948, .int .u32 3988292384, .int .u32 4027552580, .int .u32 3604390888, .int .u32 3412177804, .int .u32 2607071920, .int .u32 2262029012, .int .u32 2685067896, .int .u32 3183342108] t (0, 0))) (hx : x < 16) : w.cell? ⟨g, x, none⟩ = some (.int .u32 (Crc.T x : Nat)) := by
 rw [cell_of_row _ _ _ _ _ _ h, tab_at hx]
theorem tab_lt {x : Nat} (h : x < 16) : Crc.T x < 4294967296 := (by decide : ∀ x, x < 16 -> Crc.T x < 4294967296) x h
theorem and15 (m : Nat) : m % 256 &&& 15 = m % 16 := by
 rw [show (15 : Nat) = 2 ^ 4 - 1 from rfl, Nat.and_two_pow_sub_one_eq_mod]
 omega
theorem steps75 (w : World)  : Calls Tryz.prog 139 #[] w fun e w1 => e = .returned (.agg #[.int .u32 0, .int .u32 498536548, .int .u32 997073096, .int .u32 651767980, .int .u32 1994146192, .int .u32 1802195444, .int .u32 1303535960, .int .u32 1342533948, .int .u32 3988292384, .int .u32 4027552580, .int .u32 3604390888, .int .u32 3412177804, .int .u32 2607071920, .int .u32 2262029012, .int .u32 2685067896, .int .u32 3183342108]) /\ Below w.heap.size w w1 := by
 refine Zn0 2 Tryz.func139 fun fr hf => ?_
 refine Ze fun _ hK1 => ?_
 refine Zr [] hf ?_
 refine Zq1 0 hf ?_
 clear hf; intro fr1 hf s0
 obtain ⟨W0, hW0⟩ : ∃ x, w.alloc (.cells #[.int .u32 0, .int .u32 0, .int .u32 0, .int .u32 0, .int .u32 0, .int .u32 0, .int .u32 0, .int .u32 0, .int .u32 0, .int .u32 0, .int .u32 0, .int .u32 0, .int .u32 0, .int .u32 0, .int .u32 0, .int .u32 0] 222) = x := ⟨_, rfl⟩
 try rw [hW0]
 have hx0 : W0.heap[w.heap.size]? = some (.cells #[.int .u32 0, .int .u32 0, .int .u32 0, .int .u32 0, .int .u32 0, .int .u32 0, .int .u32 0, .int .u32 0, .int .u32 0, .int .u32 0, .int .u32 0, .int .u32 0, .int .u32 0, .int .u32 0, .int .u32 0, .int .u32 0] 222 (0, 0)) := by rw [<- hW0]; exact heap_alloc_new w _
 have hb0 : Below w.heap.size w W0 := by rw [<- hW0]; exact (Below.refl _ _).alloc (Nat.le_refl _) _
 clear hW0
 refine Zt hK1 fun _ hK2 => ?_
 have bB := hf.b 1
 refine Za ?_
 clear bB
 refine Fact.reL (n := 2) (by simp only [Fact.G, hf.size]) hf.defers (fun fr1 hf1 hT => ?_)
 have hKp := Fact.h2 hT 0 1
 simp (decide := true) only [Fact.G, hf.size, reduceIte, s0] at hKp
 replace hf := hf1; clear hT hf1 s0
 obtain ⟨s0, s1⟩ := hKp
 refine ⟨?_⟩
 refine wpList_plain rfl fun KL hKL => ?_
 refine wp_store_row 222 _ _ rfl w.heap.size _ (Fact.eval_tmp s0) (Fact.eval_tmp s1) 222 _ hx0 (by kernel_rfl) rfl (by kernel_rfl) (hKL _ _ ?_)
 refine Fact.L.out ?_
 refine Fact.nil (Zq1 0 hf ?_)
 clear hf s0 s1; intro fr1 hf s0
 have hx1 := setRow_heap W0 w.heap.size _ #[.int .u32 0, .int .u32 498536548, .int .u32 997073096, .int .u32 651767980, .int .u32 1994146192, .int .u32 1802195444, .int .u32 1303535960, .int .u32 1342533948, .int .u32 3988292384, .int .u32 4027552580, .int .u32 3604390888, .int .u32 3412177804, .int .u32 2607071920, .int .u32 2262029012, .int .u32 2685067896, .int .u32 3183342108] 222 (0, 0) hx0
 have hb1 := below_setRow hb0 (Nat.le_refl _) #[.int .u32 0, .int .u32 498536548, .int .u32 997073096, .int .u32 651767980, .int .u32 1994146192, .int .u32 1802195444, .int .u32 1303535960, .int .u32 1342533948, .int .u32 3988292384, .int .u32 4027552580, .int .u32 3604390888, .int .u32 3412177804, .int .u32 2607071920, .int .u32 2262029012, .int .u32 2685067896, .int .u32 3183342108]
 refine Zx hK2 ?_
 refine Zret ?_
 refine ret_c rfl hf s0 hx1 Tryz.underlying222 rfl (by kernel_rfl) ⟨rfl, hb1⟩
theorem by76 (w : World) (n : Nat) (hn : n < 4294967296) (hs : List Nat) (hlen : hs.length <= 1000000) (b c : Nat) (hc : ∀ (i x : Nat), hs[i]? = some x -> w.cell? ⟨b, i, none⟩ = some (.int .u8 x)) (hsm : ∀ x ∈ hs, x < 16) : Calls Tryz.prog 140 #[.agg #[.int .u32 0, .int .u32 498536548, .int .u32 997073096, .int .u32 651767980, .int .u32 1994146192, .int .u32 1802195444, .int .u32 1303535960, .int .u32 1342533948, .int .u32 3988292384, .int .u32 4027552580, .int .u32 3604390888, .int .u32 3412177804, .int .u32 2607071920, .int .u32 2262029012, .int .u32 2685067896, .int .u32 3183342108], .int .u32 n, .slice (some ⟨b, 0, none⟩) hs.length c] w fun e w1 => e = .returned (.int .u32 (hs.foldl Crc.nib n : Nat)) /\ Below w.heap.size w w1 := by
 refine Zn3 27 Tryz.func140 fun fr hf s0 s1 s2 => ?_
 refine Ze fun _ hK1 => ?_
 refine Zr [] hf ?_
 refine Zq3 1 2 3 hf ?_
 clear hf s0 s1 s2; intro fr1 hf sS
 obtain ⟨W0, hW0⟩ : ∃ x, w.alloc (.cells #[.int .u32 0, .int .u32 498536548, .int .u32 997073096, .int .u32 651767980, .int .u32 1994146192, .int .u32 1802195444, .int .u32 1303535960, .int .u32 1342533948, .int .u32 3988292384, .int .u32 4027552580, .int .u32 3604390888, .int .u32 3412177804, .int .u32 2607071920, .int .u32 2262029012, .int .u32 2685067896, .int .u32 3183342108] 222) = x := ⟨_, rfl⟩
 try rw [hW0]
 have hx0 : W0.heap[w.heap.size]? = some (.cells #[.int .u32 0, .int .u32 498536548, .int .u32 997073096, .int .u32 651767980, .int .u32 1994146192, .int .u32 1802195444, .int .u32 1303535960, .int .u32 1342533948, .int .u32 3988292384, .int .u32 4027552580, .int .u32 3604390888, .int .u32 3412177804, .int .u32 2607071920, .int .u32 2262029012, .int .u32 2685067896, .int .u32 3183342108] 222 (0, 0)) := by rw [<- hW0]; exact heap_alloc_new w _
 have hb0 : Below w.heap.size w W0 := by rw [<- hW0]; exact (Below.refl _ _).alloc (Nat.le_refl _) _
 have hrow : ∀ (i x : Nat), hs[i]? = some x -> W0.cell? ⟨b, i, none⟩ = some (.int .u8 x) := fun i x hx => cL hb0 (hc i x hx)
 have HROW := Lib.hid hrow; have HS := Lib.hid hsm
 clear hW0 hrow hc hsm
 refine Zs hK1 fun _ hK2 => ?_
 refine Ze fun _ hK3 => ?_
 refine Zr [9] hf ?_
 refine Zq5 1 3 9 10 11 hf ?_
 clear hf sS; intro fr1 hf sS
 refine Zx hK3 ?_
 refine wp_block ?_
 refine wp_loop_ghost (fun gk fr wr => ∃ (i m : Nat), gk = hs.length - i /\ i <= hs.length /\ Fact.Fr 27 fr /\ fr.tmps[1]? = some (.int .u32 m) /\ fr.tmps[3]? = some (.pointer (some ⟨w.heap.size, 0, none⟩)) /\ fr.tmps[9]? = some (.slice (some ⟨b, 0, none⟩) hs.length c) /\ fr.tmps[10]? = some (.int .i64 hs.length) /\ fr.tmps[11]? = some (.int .i64 i) /\ m = (hs.take i).foldl Crc.nib n /\ m < 4294967296 /\ wr = W0) (hs.length) ?_ ?_
 . (
 obtain ⟨s1, s3, s9, s10, s11⟩ := sS
 exact ⟨0, n, rfl, Nat.zero_le _, hf, s1, s3, s9, s10, s11, rfl, hn, rfl⟩)
 . (
 clear hf sS
 rintro gk fr wr ⟨i, m, hk, hi, hf, s1, s3, s9, s10, s11, hm, hm32, hwr⟩
 subst wr
 have HK := Lib.hid hk; have HM := Lib.hid hm; clear hk hm
 refine Ze fun _ hK4 => ?_
 refine Zr [] hf ?_
 refine Zq6 1 3 9 10 11 12 hf ?_
 clear hf s1 s3 s9 s10 s11; intro fr1 hf sS
 refine Zs hK4 fun _ hK5 => ?_
 refine Fact.cond_s sS.2.2.2.2.2 (fun hq => ?_) (fun hq => ?_)
 . (
 have hlt : i < hs.length := by have h9 := of_decide_eq_true hq; omega
 clear hq
 obtain ⟨h, hih⟩ : ∃ h, hs[i]? = some h := ⟨_, List.getElem?_eq_getElem hlt⟩
 have c0 := HROW.out i h hih
 have hh16 := HS.out h (List.mem_of_getElem? hih)
 have hst : (hs.take (i + 1)).foldl Crc.nib n = Crc.nib m h := by rw [List.take_add_one, hih, Option.toList_some, List.foldl_append, <- HM.out]; rfl
 obtain ⟨m2, hm2⟩ : ∃ x, Crc.nib m h = x := ⟨_, rfl⟩
 rw [hm2] at hst
 have hm232 : m2 < 4294967296 := by rw [<- hm2]; exact Crc.nib_lt _ _ hm32 hh16
 obtain ⟨x, hx⟩ : ∃ x, m % 16 ^^^ h = x := ⟨_, rfl⟩
 have hx16 : x < 16 := by rw [<- hx]; exact Nat.xor_lt_two_pow (n := 4) (by omega) hh16
 have z0 := tab_cell hx0 hx16
 obtain ⟨tx, htx⟩ : ∃ t, Crc.T x = t := ⟨_, rfl⟩
 have htx32 : tx < 4294967296 := by rw [<- htx]; exact tab_lt hx16
 rw [htx] at z0
 obtain ⟨q16, hq16⟩ : ∃ q, m / 16 = q := ⟨_, rfl⟩
 have hnib : q16 ^^^ tx = m2 := by rw [<- hm2, <- htx, <- hx, <- hq16]; rfl
 obtain ⟨r256, hr256⟩ : ∃ r, m % 256 = r := ⟨_, rfl⟩
 obtain ⟨r16, hr16⟩ : ∃ r, m % 16 = r := ⟨_, rfl⟩
 have hand : r256 &&& 15 = r16 := by rw [<- hr256, <- hr16]; exact and15 m
 rw [hr16] at hx
 have hr2 : r256 < 256 := by omega
 have hr1 : r16 < 16 := by omega
 have HST := Lib.hid hst; have HX := Lib.hid hx; have HQ := Lib.hid hq16; have HNIB := Lib.hid hnib; have HR := Lib.hid hr256; have HAND := Lib.hid hand; clear hst hx hq16 hnib hr256 hr16 hand hm2 htx hih
 refine wp_skip ?_
 refine Zs hK5 fun _ hK6 => ?_
 refine wp_block ?_
 refine Ze fun _ hK7 => ?_
 refine Zr [13, 14] hf ?_
 refine Zq6 1 3 8 9 10 11 hf ?_
 clear hf sS; intro fr1 hf sS
 refine Zx hK7 ?_
 refine rg ?_
 have bB := hf.B10 15 16 17 18 19 20 21 22 23 24
 refine Za ?_
 refine fp fun K Z => ?_
 go_simp
 rw [show (m : Int) / 16 = ((m / 16 : Nat) : Int) by omega, HQ.out]
 apply Z.out; clear Z K
 refine Za ?_
 refine fp fun K Z => ?_
 go_simp
 rw [wrap8, HR.out]
 apply Z.out; clear Z K
 refine fp fun K Z => ?_
 go_simp
 rw [show (15 : Int) = ((15 : Nat) : Int) from rfl, u8_and_nat r256 15 hr2 (by decide), HAND.out]
 apply Z.out; clear Z K
 refine Za ?_
 refine fp fun K Z => ?_
 go_simp
 rw [u8_xor_nat r16 h (by omega) (by omega), HX.out]
 apply Z.out; clear Z K
 refine Zi ?_
 refine Za ?_
 refine fp fun K Z => ?_
 go_simp
 rw [u32_xor_nat q16 tx (by have := HQ.out; omega) htx32, HNIB.out]
 apply Z.out; clear Z K
 refine Za ?_
 refine Fact.nil (Zq5 1 3 9 10 11 hf ?_)
 clear hf sS bB; intro fr1 hf sS
 refine Fact.block_normal ?_
 refine Zx hK6 ?_
 refine Zr [25] hf ?_
 refine Zq5 1 3 9 10 11 hf ?_
 clear hf sS; intro fr1 hf sS
 refine Fact.then_normal ?_
 obtain ⟨s1, s3, s9, s10, s11⟩ := sS
 exact ⟨_, by have := HK.out; omega, i + 1, m2, rfl, by omega, hf, s1, s3, s9, s10, by rw [s11]; rfl, HST.out.symm, hm232, rfl⟩)
 . (
 have hie : i = hs.length := by have h9 := of_decide_eq_false hq; omega
 have hme : m = hs.foldl Crc.nib n := by have h9 := HM.out; rwa [hie, List.take_length] at h9
 have HME := Lib.hid hme; clear hme hie hq
 refine Zo ?_
 refine Zs hK2 fun _ hK8 => ?_
 refine Zr [26] hf ?_
 refine Zq1 6 hf ?_
 clear hf sS; intro fr1 hf s6
 refine Zx hK8 ?_
 refine Zret ?_
 exact Fact.ret1 rfl hf s6 ⟨by rw [HME.out], hb0⟩))
end Dw
end Go.Proofs.YtcddnmhmcieebaaGreatDoor
