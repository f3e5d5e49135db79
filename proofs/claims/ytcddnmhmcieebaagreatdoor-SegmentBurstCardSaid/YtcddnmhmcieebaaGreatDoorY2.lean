/- strings.Builder at this seat: WriteByte. -/
import Derived.Test.YtcddnmhmcieebaaGreatDoorShelf
import Derived.Test.YtcddnmhmcieebaaGreatDoorY1
import Derived.Lib.AppendStr
import Derived.Lib.OthersKept
import Derived.Lib.UnsafeStr
import Derived.Laws.Externs
import Derived.Laws.IdiomCopy
import Derived.Laws.BitsLemmas
import Derived.WalkSmall
import Derived.Laws.BytesArg
import Derived.Test.YtcddnmhmcieebaaGreatDoorTools
namespace Go.Proofs.YtcddnmhmcieebaaGreatDoor
open Go.RowKit
set_option linter.unusedSimpArgs false
set_option linter.unusedVariables false
namespace Dw
theorem size115 : (Tryz.prog.info? 111).map (·.size) = some 2 := by kernel_rfl
theorem info5 : (Tryz.prog.info? 5).map (fun i => (i.zero, i.size, i.bytes)) = some (some (.int .u8 0), 1, 1) := by kernel_rfl
theorem own_kind {w : World} {B : Nat} {e : TypeId} {v : Value} {n : Nat} {xs : List Value} (h : w.ownsRow B e 1 v n xs) : ∀ g, v.ownBlock = some g → ∃ c fz, w.heap[g]? = some (.cells c e fz) := by
  intro g hg
  rcases h.2 with ⟨rfl, _⟩ | ⟨g', cap, cur, rfl, _, hgg, _⟩
  · simp [Value.ownBlock] at hg
  · simp [Value.ownBlock] at hg
    subst hg
    exact ⟨cur, _, hgg⟩
theorem others_below {w w' : World} (e : TypeId) (b : Option Nat) (h : Below w.heap.size w w') : Lib.OthersKept e b w w' := fun k o hk _ _ => (h.block k (Array.getElem?_eq_some_iff.1 hk).1).trans hk
set_option maxHeartbeats 1000000 in
set_option maxRecDepth 100000 in
theorem check_used (b : Nat) (w : World) (h0 : w.cell? ⟨b, 0, none⟩ = some (.pointer (some ⟨b, 0, none⟩))) :
    Calls Tryz.prog 85 #[.pointer (some ⟨b, 0, none⟩)] w fun e w' => e = .returned (.tuple #[]) ∧ w' = w := by
  obtain ⟨j, hj, _⟩ := Option.map_eq_some_iff.1 size115
  go_enter Tryz.func85, Tryz.ntmps85
  go_wp2
  rw [Lib.run_neq_ptr_same w _ Tryz.underlying109 hj]
  go_wp2
  go_end0
  exact ⟨rfl, rfl⟩
set_option maxHeartbeats 1000000 in
set_option maxRecDepth 100000 in
theorem check_fresh (b : Nat) (w : World) (h0 : w.cell? ⟨b, 0, none⟩ = some (.pointer none)) (hsh : w.shape? b = some (111, 2)) (hfz : w.frozen? ⟨b, 0, none⟩ = false) :
    Calls Tryz.prog 85 #[.pointer (some ⟨b, 0, none⟩)] w fun e w' => e = .returned (.tuple #[]) ∧ w' = w.setCell ⟨b, 0, none⟩ (.pointer (some ⟨b, 0, none⟩)) := by
  obtain ⟨j, hj, hjs⟩ := Option.map_eq_some_iff.1 size115
  go_enter Tryz.func85, Tryz.ntmps85
  go_wp2
  rw [Lib.run_to_unsafe w ⟨b, 0, none⟩ Tryz.underlying109 Tryz.underlying211 hj (by rw [hjs]; decide) hsh (Nat.zero_lt_succ 1)]
  simp only [Result.andThen]
  rw [Oper.upon_value]
  go_wp2
  rw [run_callFunc_extern Tryz.func129 (by kernel_rfl) (by kernel_rfl) (by kernel_rfl) (e := Extern.AbiNoEscape.same) (by kernel_rfl)]
  rw [Lib.run_noEscape]
  simp only [Result.andThen]
  rw [Oper.upon_value]
  go_wp2
  rw [Lib.run_from_unsafe w ⟨b, 0, none⟩ Tryz.underlying211 Tryz.underlying109 hj hsh (by kernel_rfl)]
  simp only [Result.andThen]
  rw [Oper.upon_value]
  go_wp2
  go_end0
  exact ⟨rfl, rfl⟩
theorem check_any (B b : Nat) (bs : List Value) (w : World) (h : Lib.IsBuilder 111 5 B b bs w) :
    Calls Tryz.prog 85 #[.pointer (some ⟨b, 0, none⟩)] w fun e w' => e = .returned (.tuple #[]) ∧ (Lib.BuilderAt 111 5 B b (.pointer (some ⟨b, 0, none⟩)) bs w' ∧ Below B w w' ∧ Lib.OthersKept 5 (some b) w w') := by
  rcases h with h | h
  · refine (check_fresh b w h.cell0 h.shape h.frozen0).mono ?_
    rintro e w' ⟨rfl, rfl⟩
    exact ⟨rfl, h.used _, (Below.refl B w).setCell (p := ⟨b, 0, none⟩) h.1 _, (Lib.OthersKept.refl _ _ w).setCell ⟨b, 0, none⟩ rfl _⟩
  · refine (check_used b w h.cell0).mono ?_
    rintro e w' ⟨rfl, rfl⟩
    exact ⟨rfl, h, Below.refl B _, Lib.OthersKept.refl _ _ _⟩
set_option maxHeartbeats 2000000 in
set_option maxRecDepth 100000 in
theorem write_any (B b : Nat) (bs : List Value) (c : Int) (w : World) (h : Lib.IsBuilder 111 5 B b bs w) (hlen : bs.length + 1 ≤ 140737488355328) (hBw : B ≤ w.heap.size) :
    Calls Tryz.prog 136 #[.pointer (some ⟨b, 0, none⟩), .int .u8 c] w fun e w' => e = .returned .nilIface ∧ (Lib.BuilderAt 111 5 B b (.pointer (some ⟨b, 0, none⟩)) (bs ++ [.int .u8 c]) w' ∧ Below B w w' ∧ Lib.OthersKept 5 (some b) w w') := by
  obtain ⟨i0, hi, hz0, hz1, hz2⟩ := info_parts info5
  go_enter Tryz.func136, Tryz.ntmps136
  go_wp2_with (go_at_call 85; refine (check_any B b bs _ h).mono ?_)
  rintro e w1 ⟨rfl, h1, hb1, hk1⟩
  have hlt : b < w1.heap.size := h1.lt
  obtain ⟨hB, v, hbk, hown, hne⟩ := h1
  have c0 : w1.cell? ⟨b, 0, none⟩ = some (.pointer (some ⟨b, 0, none⟩)) := by rw [Lib.cell_of_heap hbk]; rfl
  have c1 : w1.cell? ⟨b, 1, none⟩ = some v := by rw [Lib.cell_of_heap hbk]; rfl
  go_wp2_with (at_builtin; refine wpList_append_own _ rfl _ _ 31 rfl B 5 i0 (.int .u8 0) 1 1 Tryz.underlying31 hi hz0 hz1 hz2 rfl (by decide) _ _ _ rfl (hown.alloc _) ⟨w1.heap.size, 0, none⟩ 1 1 [.int .u8 c] rfl rfl ?c1 ?c2 ?c3 ?c4 ?c5 ?_)
  case c1 =>
    intro j u hj
    match j, hj with
    | 0, hj => simp at hj; subst hj; simp [Addr.add]
  case c2 => intro u hu; simp at hu; subst hu; rfl
  case c3 => unfold maxLen; omega
  case c4 => omega
  case c5 => have := hb1.size; simp; omega
  intro v' w2 hown' hgrow _
  have hb2 : w2.heap[b]? = some (.cells #[.pointer (some ⟨b, 0, none⟩), v] 111 (0, 0)) := by
    rw [hgrow.block b (by simp; omega) (fun e => hne e.symm), Lib.alloc_old w1 _ b hlt]
    exact hbk
  have d0 : w2.cell? ⟨b, 0, none⟩ = some (.pointer (some ⟨b, 0, none⟩)) := by rw [Lib.cell_of_heap hb2]; rfl
  have d1 : w2.cell? ⟨b, 1, none⟩ = some v := by rw [Lib.cell_of_heap hb2]; rfl
  have f1 : w2.frozen? ⟨b, 1, none⟩ = false := Lib.frozen_of_heap hb2 1
  obtain ⟨g, cap, rfl⟩ : ∃ g cap, v' = .slice (some ⟨g, 0, none⟩) (bs.length + 1) cap := by
    rcases hown'.2 with ⟨_, h0⟩ | ⟨g, cap, cur, hv, _⟩
    · omega
    · exact ⟨g, cap, hv⟩
  go_wp2
  go_ret
  refine ⟨rfl, ?_, ?_, ((hk1.alloc _).grown hgrow (own_kind (hown.alloc _))).setCell ⟨b, 1, none⟩ rfl _⟩
  · exact Lib.BuilderAt.put (T := 111) (e := 5) hB hb2 (bs' := bs ++ [.int .u8 c]) (by simpa using hown') (by decide)
  · exact ((hb1.alloc (by have := hb1.size; omega) _).grown hgrow (by have := hb1.size; simp; omega) (fun k hk => (hown.lt k hk).1)).setCell (p := ⟨b, 1, none⟩) hB _
set_option maxHeartbeats 2000000 in
set_option maxRecDepth 100000 in
theorem writeS_any (B b : Nat) (bs : List Value) (s : ByteArray) (w : World) (h : Lib.IsBuilder 111 5 B b bs w) (hlen : bs.length + s.size ≤ 140737488355328) (hBw : B ≤ w.heap.size) :
    Calls Tryz.prog 47 #[.pointer (some ⟨b, 0, none⟩), .string s] w fun e w' => e = .returned (.tuple #[.int .i64 s.size, .nilIface]) ∧ (Lib.BuilderAt 111 5 B b (.pointer (some ⟨b, 0, none⟩)) (bs ++ Lib.strCells s) w' ∧ Below B w w' ∧ Lib.OthersKept 5 (some b) w w') := by
  obtain ⟨i0, hi, hz0, hz1, hz2⟩ := info_parts info5
  go_enter Tryz.func47, Tryz.ntmps47
  go_wp2_with (go_at_call 85; refine (check_any B b bs _ h).mono ?_)
  rintro e w1 ⟨rfl, h1, hb1, hk1⟩
  have hlt : b < w1.heap.size := h1.lt
  obtain ⟨hB, v, hbk, hown, hne⟩ := h1
  have c0 : w1.cell? ⟨b, 0, none⟩ = some (.pointer (some ⟨b, 0, none⟩)) := by rw [Lib.cell_of_heap hbk]; rfl
  have c1 : w1.cell? ⟨b, 1, none⟩ = some v := by rw [Lib.cell_of_heap hbk]; rfl
  go_wp2_with (at_builtin; refine Lib.wpList_append_own_string _ rfl _ _ 31 9 rfl B 5 i0 Tryz.underlying31 Tryz.underlying9 hi hz0 hz1 hz2 _ _ _ rfl hown s rfl ?c3 ?c4 ?c5 ?_)
  case c3 => unfold maxLen; omega
  case c4 => omega
  case c5 => have := hb1.size; omega
  intro v' w2 hown' hgrow _
  have hb2 : w2.heap[b]? = some (.cells #[.pointer (some ⟨b, 0, none⟩), v] 111 (0, 0)) := by
    rw [hgrow.block b hlt (fun e => hne e.symm)]
    exact hbk
  have d0 : w2.cell? ⟨b, 0, none⟩ = some (.pointer (some ⟨b, 0, none⟩)) := by rw [Lib.cell_of_heap hb2]; rfl
  have d1 : w2.cell? ⟨b, 1, none⟩ = some v := by rw [Lib.cell_of_heap hb2]; rfl
  have f1 : w2.frozen? ⟨b, 1, none⟩ = false := Lib.frozen_of_heap hb2 1
  obtain ⟨ao, n', cap, rfl⟩ : ∃ ao n' cap, v' = .slice ao n' cap := by
    rcases hown'.2 with ⟨hv, _⟩ | ⟨g, cap, cur, hv, _⟩
    · exact ⟨_, _, _, hv⟩
    · exact ⟨_, _, _, hv⟩
  go_wp2
  go_ret2
  refine ⟨rfl, ?_, ?_, (hk1.grown hgrow (own_kind hown)).setCell ⟨b, 1, none⟩ rfl _⟩
  · exact Lib.BuilderAt.put (T := 111) (e := 5) hB hb2 (bs' := bs ++ Lib.strCells s) (by simpa [Lib.strCells_length] using hown') (by decide)
  · exact (hb1.grown hgrow (by have := hb1.size; omega) (fun k hk => (hown.lt k hk).1)).setCell (p := ⟨b, 1, none⟩) hB _
/-- a fresh builder -/
theorem fresh (w : World) : Lib.IsBuilder 111 5 w.heap.size w.heap.size [] (w.alloc (.cells #[.pointer none, .slice none 0 0] 111)) :=
  .inl ⟨Nat.le_refl _, .slice none 0 0, heap_alloc_new w _, World.ownsRow_nil _ _ _ _, by simp [Value.ownBlock]⟩
theorem build_later {B b : Nat} {l : List Value} {w w' : World} (h : Lib.IsBuilder 111 5 B b l w) (hb : Below w.heap.size w w') : Lib.IsBuilder 111 5 B b l w' := by
  have go : ∀ p, Lib.BuilderAt 111 5 B b p l w → Lib.BuilderAt 111 5 B b p l w' := by
    rintro p ⟨hB, v, hbk, hown, hne⟩
    refine ⟨hB, v, (hb.block b (Array.getElem?_eq_some_iff.1 hbk).1).trans hbk, ⟨hown.1, ?_⟩, hne⟩
    rcases hown.2 with h | ⟨g, cap, cur, h1, h2, h3, h4⟩
    · exact .inl h
    · exact .inr ⟨g, cap, cur, h1, h2, (hb.block g (Array.getElem?_eq_some_iff.1 h3).1).trans h3, h4⟩
  exact h.elim (fun x => .inl (go _ x)) (fun x => .inr (go _ x))
end Dw
end Go.Proofs.YtcddnmhmcieebaaGreatDoor

namespace Go.Proofs.YtcddnmhmcieebaaGreatDoor
open Go.RowKit
set_option linter.unusedSimpArgs false
set_option linter.unusedVariables false
set_option linter.unnecessarySimpa false
namespace Dw

def dg (d : Nat) : Nat := if d < 10 then 48 + d else 87 + d
/-- a number's digits at base 36 -/
def dig (n : Nat) : List Nat := if h : n < 36 then [dg n] else dig (n / 36) ++ [dg (n % 36)]
termination_by n
def strOf (l : List Nat) : ByteArray := ⟨(l.map UInt8.ofNat).toArray⟩
def bs (l : List Nat) : List UInt8 := l.map UInt8.ofNat
def num (n : Nat) : List Nat := dig n ++ [32]
theorem byteCells_length (l : List Nat) : (Lib.byteCells (bs l)).length = l.length := by simp [Lib.byteCells, bs]
theorem strOf_size (l : List Nat) : (strOf l).size = l.length := by simp [strOf, ByteArray.size]
theorem dig_len : ∀ (k n : Nat), n < 36 ^ (k + 1) → (dig n).length ≤ k + 1
  | 0, n, h => by rw [dig, dif_pos (by simpa using h)]; simp
  | k + 1, n, h => by
    rw [dig]
    split
    · simp
    · have h2 : n / 36 < 36 ^ (k + 1) := by
        rw [Nat.div_lt_iff_lt_mul (by omega)]
        rw [Nat.pow_succ] at h
        exact h
      have := dig_len k (n / 36) h2
      simp
      omega
theorem dig_length (u : Nat) (hu : u < 18446744073709551616) : (dig u).length ≤ 13 := dig_len 12 u (by
  have : (36 : Nat) ^ (12 + 1) = 170581728179578208256 := by decide
  omega)
theorem num_length (u : Nat) (hu : u < 18446744073709551616) : (num u).length ≤ 14 := by have := dig_length u hu; simp [num]; omega
theorem num_cells (l : List Nat) (u : Nat) : Lib.byteCells (bs l) ++ Lib.strCells (strOf (dig u)) ++ [.int .u8 32] = Lib.byteCells (bs (l ++ num u)) := by
  simp [Lib.byteCells, bs, Lib.strCells, strOf, num]
/-- the last places of the array hold these digits -/
structure Digs (w : World) (p i : Nat) (tl : List Nat) : Prop where
  size : i + tl.length = 65
  cells : ∃ cs : Array Value, w.heap[p]? = some (.cells cs 255 (0, 0)) ∧ cs.size = 65 ∧ ∀ (j x : Nat), tl[j]? = some x → cs[i + j]? = some (.int .u8 (x : Int))
theorem Digs.start (w : World) : Digs (w.alloc (.cells Tryz.zeroCells255 255)) w.heap.size 65 [] :=
  ⟨rfl, _, heap_alloc_new w _, by kernel_rfl, fun j x h => by simp at h⟩
theorem Digs.frozen {w : World} {p i : Nat} {tl : List Nat} (h : Digs w p i tl) : ∀ j : Nat, w.frozen? ⟨p, j, none⟩ = false := by
  obtain ⟨cs, h1, _⟩ := h.cells
  exact fun j => frozen_of h1
theorem Digs.cell {w : World} {p i : Nat} {tl : List Nat} (h : Digs w p i tl) {j x : Nat} (hx : tl[j]? = some x) : w.cell? ⟨p, i + j, none⟩ = some (.int .u8 (x : Int)) := by
  obtain ⟨cs, h1, h2, h3⟩ := h.cells
  rw [cell_of_row _ _ (i + j) _ 255 (0, 0) h1]
  exact h3 j x hx
theorem Digs.any {w : World} {p i : Nat} {tl : List Nat} (h : Digs w p i tl) {j : Nat} (hj : j < 65) : ∃ v, w.cell? ⟨p, j, none⟩ = some v := by
  obtain ⟨cs, h1, h2, h3⟩ := h.cells
  exact ⟨cs[j], by rw [cell_of_row _ _ j _ 255 (0, 0) h1]; simp [h2, hj]⟩
theorem Digs.put {w : World} {p i : Nat} {tl : List Nat} (h : Digs w p i tl) (x : Nat) (hi : 0 < i) : Digs (w.setCell ⟨p, i - 1, none⟩ (.int .u8 (x : Int))) p (i - 1) (x :: tl) := by
  obtain ⟨cs, h1, h2, h3⟩ := h.cells
  have hs := h.size
  refine ⟨by simp only [List.length_cons]; omega, _, set_block h1 _, by simpa using h2, fun j y hy => ?_⟩
  cases j with
  | zero =>
    simp at hy
    subst hy
    rw [Nat.add_zero, Array.getElem?_setIfInBounds_self_of_lt (by omega)]
  | succ j =>
    have := h3 j y (by simpa using hy)
    rw [Array.getElem?_setIfInBounds_ne (by omega), ← this]
    congr 1
    omega
theorem dig_room {u v n : Nat} (h : v * 36 ^ n ≤ u) (hu : u < 18446744073709551616) (hv : 1 ≤ v) : n ≤ 12 := by
  rcases Nat.lt_or_ge n 13 with h2 | h2
  · omega
  · have h3 := Nat.pow_le_pow_right (show 0 < 36 by omega) h2
    have h4 : 36 ^ n ≤ v * 36 ^ n := Nat.le_mul_of_pos_left _ hv
    have h5 : (36 : Nat) ^ 13 = 170581728179578208256 := by decide
    omega
theorem dig_index : ∀ d : Nat, ∀ h : d < (⟨#[48, 49, 50, 51, 52, 53, 54, 55, 56, 57, 97, 98, 99, 100, 101, 102, 103, 104, 105, 106, 107, 108, 109, 110, 111, 112, 113, 114, 115, 116, 117, 118, 119, 120, 121, 122]⟩ : ByteArray).size,
    ((⟨#[48, 49, 50, 51, 52, 53, 54, 55, 56, 57, 97, 98, 99, 100, 101, 102, 103, 104, 105, 106, 107, 108, 109, 110, 111, 112, 113, 114, 115, 116, 117, 118, 119, 120, 121, 122]⟩ : ByteArray)[d]'h).toNat = dg d := by
  intro d h
  have h36 : d < 36 := h
  have key : ∀ x : Fin 36, ((#[48, 49, 50, 51, 52, 53, 54, 55, 56, 57, 97, 98, 99, 100, 101, 102, 103, 104, 105, 106, 107, 108, 109, 110, 111, 112, 113, 114, 115, 116, 117, 118, 119, 120, 121, 122] : Array UInt8)[x.val]'(x.isLt)).toNat = dg x.val := by decide
  exact key ⟨d, h36⟩
theorem dig_step {u v q d : Nat} {tl : List Nat} (h : dig u = dig v ++ tl) (hv : 36 ≤ v) (hq : v / 36 = q) (hd : v - 36 * q = d) : dig u = dig q ++ dg d :: tl := by
  rw [h, dig, dif_neg (by omega), hq, show v % 36 = d by omega]
  simp
theorem room_step {u v q : Nat} {tl : List Nat} (x : Nat) (h : v * 36 ^ tl.length ≤ u) (hq : 36 * q ≤ v) : q * 36 ^ (x :: tl).length ≤ u := by
  refine Nat.le_trans ?_ h
  rw [List.length_cons, Nat.pow_succ, Nat.mul_comm _ 36, ← Nat.mul_assoc, Nat.mul_comm q 36]
  exact Nat.mul_le_mul_right _ hq
theorem slice136 (w : World) (p i : Nat) (hi : i < 65) : (Instr.sliceAt 255 (.pointer (some ⟨p, 0, none⟩)) (some (.int .i64 (i : Int))) none none).run Tryz.prog w = .ok (.slice (some ⟨p, i, none⟩) (65 - i) (65 - i)) w := by
  have hl : Tryz.prog.arrayLen 255 = 65 := by kernel_rfl
  have h := run_sliceAt_array_l (P := Tryz.prog) w 255 ⟨p, 0, none⟩ (by kernel_rfl) .i64 (i : Int) (by omega) (by rw [hl]; omega)
  rw [hl] at h
  rw [h]
  have he : Tryz.prog.elem 255 = 5 := by kernel_rfl
  rw [he, Tryz.sizeOf5]
  simp only [Result.andThen, slicedAt, Int.toNat_natCast, Nat.mul_one]
  rw [if_neg (by omega)]
  have ha : (⟨p, 0, none⟩ : Addr).add i = ⟨p, i, none⟩ := by unfold Addr.add; split <;> simp_all
  rw [ha]
theorem Digs.conv {w : World} {p i : Nat} {tl : List Nat} (h : Digs w p i tl) (m c : Nat) (hm : m = tl.length) : (convert 31 9 (.slice (some ⟨p, i, none⟩) m c)).run Tryz.prog w = .ok (.string (strOf tl)) w := by
  subst hm
  have := run_convert_bytes_arg (P := Tryz.prog) w 31 5 Tryz.underlying31 Tryz.underlying5 p i tl.length c (tl.map fun (x : Nat) => (x : Int)) (by simp) (fun j hj => by
    rw [h.cell (List.getElem?_eq_getElem hj)]
    simp [hj]) 9 Tryz.underlying9
  rw [this]
  simp [strOfNums, strOf, Function.comp_def]
set_option maxHeartbeats 4000000 in
set_option maxRecDepth 100000 in
theorem pow72  (w : World) : Calls Tryz.prog 172 #[.int .i64 36] w fun e w1 => e = .returned (.bool false) ∧ w = w1 := by
 refine Zn1 8 Tryz.func172 fun fr hf s0 => ?_
 refine Ze fun _ hK1 => ?_
 refine Zr [] hf ?_
 refine Zq1 0 hf ?_
 clear hf s0; intro fr1 hf s0
 refine Zs hK1 fun _ hK2 => ?_
 refine Zr [3, 4, 5, 6, 7] hf ?_
 refine Zq1 2 hf ?_
 clear hf s0; intro fr1 hf s2
 refine Zx hK2 ?_
 refine Zret ?_
 exact Fact.ret1 rfl hf s2 ⟨rfl, rfl⟩
set_option maxHeartbeats 4000000 in
set_option maxRecDepth 100000 in
theorem bits68 (u : Nat) (hu : u < 18446744073709551616) (w : World) : Calls Tryz.prog 166 #[.slice none 0 0, .int .u64 u, .int .i64 36, .bool false, .bool false] w fun e w1 => e = .returned (.tuple #[.slice none 0 0, .string (strOf (dig u))]) ∧ Below w.heap.size w w1 := by
 refine Zn5 102 Tryz.func166 fun fr hf s0 s1 s2 s3 s4 => ?_
 refine Ze fun _ hK1 => ?_
 refine Zr [] hf ?_
 refine Zq7 0 1 2 3 4 10 11 hf ?_
 clear hf s0 s1 s2 s3 s4; intro fr1 hf sS
 refine Zs hK1 fun _ hK2 => ?_
 refine Ze fun _ hK3 => ?_
 refine Zr [19, 20, 21, 22, 23, 24, 25, 26, 27] hf ?_
 refine Zq8 0 1 2 3 4 10 11 28 hf ?_
 clear hf sS; intro fr1 hf sS
 refine Zx hK3 ?_
 refine Fact.cond_f sS.2.2.2.2.2.2.2 ?_
 refine wp_skip ?_
 refine Zs hK2 fun _ hK4 => ?_
 refine Zr [] hf ?_
 refine Zq8 0 1 2 3 4 10 11 12 hf ?_
 clear hf sS; intro fr1 hf sS
 obtain ⟨W0, hW0⟩ : ∃ W0, w.alloc (.cells Tryz.zeroCells255 255) = W0 := ⟨_, rfl⟩
 rw [hW0]
 have hb0 : Below w.heap.size w W0 := by rw [← hW0]; exact (Below.refl _ _).alloc (Nat.le_refl _) _
 have hd0 : Digs W0 w.heap.size 65 [] := by rw [← hW0]; exact Digs.start w
 clear hW0
 refine Zs hK4 fun _ hK5 => ?_
 refine Zr [] hf ?_
 refine Zq9 0 1 2 3 4 10 11 12 13 hf ?_
 clear hf sS; intro fr1 hf sS
 refine Zs hK5 fun _ hK6 => ?_
 refine Ze fun _ hK7 => ?_
 refine Zr [] hf ?_
 refine Zq10 0 1 2 3 4 10 11 12 13 30 hf ?_
 clear hf sS; intro fr1 hf sS
 refine Zx hK7 ?_
 refine Fact.cond_f sS.2.2.2.2.2.2.2.2.2 ?_
 refine wp_skip ?_
 refine Zs hK6 fun _ hK8 => ?_
 refine Ze fun _ hK9 => rg ?_
 have bB := hf.b 33
 refine Za ?_
 refine fp fun K Z => ?_
 go_simp
 go_at_call 172; refine (pow72 W0).mono ?_; rintro e w2 ⟨rfl, rfl⟩
 try dsimp only
 apply Z.out; clear Z K
 refine Fact.nil (Zq10 0 1 2 3 4 10 11 12 13 34 hf ?_)
 clear hf sS bB; intro fr1 hf sS
 refine Zx hK9 ?_
 refine Fact.cond_f sS.2.2.2.2.2.2.2.2.2 ?_
 refine Ze fun _ hK10 => ?_
 refine Zr [64, 65] hf ?_
 refine Zq9 0 1 3 4 10 11 12 13 17 hf ?_
 clear hf sS; intro fr1 hf sS
 refine Zs hK10 fun _ hK11 => ?_
 refine wp_block ?_
 refine wp_loop_ghost (fun gk fr wr => ∃ (i v : Nat) (tl : List Nat), gk = v ∧ Fact.Fr 102 fr ∧ fr.tmps[3]? = some (.bool false) ∧ fr.tmps[4]? = some (.bool false) ∧ fr.tmps[10]? = some (.slice none 0 0) ∧ fr.tmps[12]? = some (.pointer (some ⟨w.heap.size, 0, none⟩)) ∧ fr.tmps[17]? = some (.int .u64 36) ∧ fr.tmps[1]? = some (.int .u64 v) ∧ fr.tmps[13]? = some (.int .i64 i) ∧ Digs wr w.heap.size i tl ∧ dig u = dig v ++ tl ∧ v * 36 ^ tl.length ≤ u ∧ tl.length ≤ 12 ∧ Below w.heap.size w wr) (u) ?_ ?_
 · (
 obtain ⟨s0, s1, s3, s4, s10, s11, s12, s13, s17⟩ := sS
 exact ⟨65, u, [], rfl, hf, s3, s4, s10, s12, s17, s1, s13, hd0, by simp, by simp, by simp, hb0⟩)
 · (
 clear hf sS
 rintro gk fr wr ⟨i, v, tl, hk, hf, s3, s4, s10, s12, s17, s1, s13, hd, hdig, hle, h12, hb⟩
 have HK := Lib.hid hk; have HD := Lib.hid hdig; have HL := Lib.hid hle; have hsz := Lib.hid hd.size
 have hi64 : i ≤ 65 := by have := hd.size; omega
 have hfz := hd.frozen
 clear hk hdig hle
 refine Ze fun _ hK12 => ?_
 refine Ze fun _ hK13 => ?_
 refine Zr [66, 67] hf ?_
 refine Zq8 1 3 4 10 12 13 17 68 hf ?_
 clear hf s1 s3 s4 s10 s12 s13 s17; intro fr1 hf sS
 refine Zx hK13 ?_
 refine Fact.cond_s sS.2.2.2.2.2.2.2 (fun hq => ?_) (fun hq => ?_)
 · (
 have hv36 : 36 ≤ v := by have h9 := of_decide_eq_true hq; omega
 have hv64 : v < 18446744073709551616 := by have := Nat.le_mul_of_pos_right v (Nat.pow_pos (n := tl.length) (show 0 < 36 by omega)); have := HL.out; omega
 have hi1 : 40 ≤ i := by have := hsz.out; omega
 have hdv : ((v : Int).tdiv 36) = ((v / 36 : Nat) : Int) := by rfl
 obtain ⟨q, hq2⟩ : ∃ q, v / 36 = q := ⟨_, rfl⟩
 have hqv : 36 * q ≤ v ∧ v < 36 * q + 36 := by omega
 rw [hq2] at hdv
 have HQ := Lib.hid hq2; clear hq2
 obtain ⟨d, hdd⟩ : ∃ d, v - 36 * q = d := ⟨_, rfl⟩
 have hd36 : d < 36 := by omega
 have hdi : (v : Int) - (q : Int) * 36 = (d : Int) := by omega
 have HDD := Lib.hid hdd; have HDI := Lib.hid hdi; clear hdd hdi
 have hst := hd.put (dg d) (by omega)
 obtain ⟨vx, hvx⟩ := hd.any (j := i - 1) (by omega)
 have hii : (i : Int) - 1 = ((i - 1 : Nat) : Int) := by omega
 refine wp_skip ?_
 refine Zx hK12 ?_
 refine wp_block ?_
 refine Ze fun _ hK14 => rg ?_
 have bB := hf.B2 69 70
 refine Za ?_
 refine fp fun K Z => ?_
 go_simp
 try simp (disch := omega) only [Fact.W]
 try rw [hii]
 apply Z.out; clear Z K
 refine Za ?_
 refine Fact.nil (Zq7 1 3 4 10 12 13 17 hf ?_)
 clear hf sS bB; intro fr1 hf sS
 refine Zt hK14 fun _ hK15 => ?_
 have bB := hf.B3 71 72 73
 iterate 2 refine Za ?_
 refine fp fun K Z => ?_
 go_simp
 try rw [hdv]
 try simp (disch := omega) only [Fact.wrap_u64]
 apply Z.out; clear Z K
 refine Za ?_
 refine Fact.nil (Zq8 1 3 4 10 12 13 17 18 hf ?_)
 clear hf sS bB; intro fr1 hf sS
 refine Zt hK15 fun _ hK16 => ?_
 have bB := hf.B8 74 75 76 77 78 79 80 81
 iterate 4 refine Za ?_
 refine Zb ?_
 refine fp fun K Z => ?_
 go_simp
 try simp (disch := omega) only [Fact.W]
 rw [HDI.out]
 apply Z.out; clear Z K
 refine fp fun K Z => ?_
 go_simp
 rw [dif_pos (by omega)]
 rw [dig_index d hd36]
 apply Z.out; clear Z K
 refine Zi ?_
 refine Za ?_
 refine Fact.nil (Zq7 3 4 10 12 13 17 18 hf ?_)
 clear hf sS bB; intro fr1 hf sS
 refine Zx hK16 ?_
 refine Zr [82] hf ?_
 refine Zq7 1 3 4 10 12 13 17 hf ?_
 clear hf sS; intro fr1 hf sS
 refine Fact.block_normal ?_
 refine Fact.then_normal ?_
 have hrs := room_step (dg d) HL.out hqv.1
 obtain ⟨s1, s3, s4, s10, s12, s13, s17⟩ := sS
 exact ⟨_, by have := HK.out; omega, i - 1, q, dg d :: tl, rfl, hf, s3, s4, s10, s12, s17, s1, s13, hst, dig_step HD.out hv36 HQ.out HDD.out, hrs, dig_room hrs hu (by omega), hb.setCell (Nat.le_refl _) _⟩)
 · (
 have hv36 : v < 36 := by have h9 := of_decide_eq_false hq; omega
 have hi1 : 40 ≤ i := by have := hsz.out; omega
 have hii : (i : Int) - 1 = ((i - 1 : Nat) : Int) := by omega
 have hst := hd.put (dg v) (by omega)
 obtain ⟨vx, hvx⟩ := hd.any (j := i - 1) (by omega)
 refine Zo ?_
 refine Zt hK11 fun _ hK17 => ?_
 have bB := hf.B2 83 84
 refine Za ?_
 refine fp fun K Z => ?_
 go_simp
 try simp (disch := omega) only [Fact.W]
 try rw [hii]
 apply Z.out; clear Z K
 refine Za ?_
 refine Fact.nil (Zq6 1 3 4 10 12 13 hf ?_)
 clear hf sS bB; intro fr1 hf sS
 refine Zx hK17 ?_
 refine rg ?_
 have bB := hf.B4 85 86 87 88
 iterate 2 refine Za ?_
 refine fp fun K Z => ?_
 go_simp
 rw [dif_pos (by omega)]
 rw [dig_index v hv36]
 apply Z.out; clear Z K
 refine Zi ?_
 refine Za ?_
 refine Fact.nil (Zq5 3 4 10 12 13 hf ?_)
 clear hf sS bB; intro fr1 hf sS
 refine Zs hK8 fun _ hK18 => ?_
 refine Ze fun _ hK19 => ?_
 refine Zr [] hf ?_
 refine Zq5 4 10 12 13 89 hf ?_
 clear hf sS; intro fr1 hf sS
 refine Zx hK19 ?_
 refine Fact.cond_f sS.2.2.2.2 ?_
 refine wp_skip ?_
 refine Zs hK18 fun _ hK20 => ?_
 refine Ze fun _ hK21 => ?_
 refine Zr [] hf ?_
 refine Zq4 10 12 13 94 hf ?_
 clear hf sS; intro fr1 hf sS
 refine Zx hK21 ?_
 refine Fact.cond_f sS.2.2.2 ?_
 refine wp_skip ?_
 refine Zt hK20 fun _ hK22 => ?_
 have bB := hf.B3 99 100 101
 refine Za ?_
 refine fp fun K Z => ?_
 go_simp
 rw [slice136 _ _ _ (by omega)]
 apply Z.out; clear Z K
 refine fp fun K Z => ?_
 go_simp
 rw [hst.conv _ _ (by simp only [List.length_cons]; have := hsz.out; omega)]
 apply Z.out; clear Z K
 refine Za ?_
 refine Fact.nil (Zq2 10 11 hf ?_)
 clear hf sS bB; intro fr1 hf sS
 refine Zx hK22 ?_
 refine Zret ?_
 have hdg : dig u = dg v :: tl := by rw [HD.out, dig, dif_pos hv36]; rfl
 exact Fact.ret2 rfl hf sS.1 sS.2 ⟨by rw [hdg], hb.setCell (Nat.le_refl _) _⟩))
set_option maxHeartbeats 4000000 in
set_option maxRecDepth 100000 in
theorem fmt63 (u : Nat) (hu : u < 18446744073709551616) (w : World) : Calls Tryz.prog 155 #[.int .u64 u, .int .i64 36] w fun e w1 => e = .returned (.string (strOf (dig u))) ∧ Below w.heap.size w w1 := by
 refine Zn2 32 Tryz.func155 fun fr hf s0 s1 => ?_
 refine Ze fun _ hK1 => ?_
 refine Zr [] hf ?_
 refine Zq2 0 1 hf ?_
 clear hf s0 s1; intro fr1 hf sS
 refine Zs hK1 fun _ hK2 => ?_
 refine Ze fun _ hK3 => ?_
 refine Zr [9] hf ?_
 refine Zq3 0 1 10 hf ?_
 clear hf sS; intro fr1 hf sS
 refine Zx hK3 ?_
 refine Fact.cond_f sS.2.2 ?_
 refine wp_skip ?_
 refine Zt hK2 fun _ hK4 => ?_
 have bB := hf.B6 26 27 28 25 29 30
 iterate 2 refine Za ?_
 refine fp fun K Z => ?_
 go_simp
 go_at_call 166; refine (bits68 u hu w).mono ?_; rintro e w1 ⟨rfl, hb⟩
 try dsimp only
 apply Z.out; clear Z K
 iterate 5 refine Za ?_
 refine Fact.nil (Zq1 8 hf ?_)
 clear hf sS bB; intro fr1 hf s8
 refine Zs hK4 fun _ hK5 => ?_
 refine Zr [31] hf ?_
 refine Zq1 4 hf ?_
 clear hf s8; intro fr1 hf s4
 refine Zx hK5 ?_
 refine Zret ?_
 exact Fact.ret1 rfl hf s4 ⟨rfl, hb⟩
set_option maxHeartbeats 4000000 in
set_option maxRecDepth 100000 in
theorem fmt57 (u : Nat) (hu : u < 18446744073709551616) (w : World) : Calls Tryz.prog 135 #[.int .u64 u, .int .i64 36] w fun e w1 => e = .returned (.string (strOf (dig u))) ∧ Below w.heap.size w w1 := by
 refine Zn2 8 Tryz.func135 fun fr hf s0 s1 => ?_
 refine Ze fun _ hK1 => ?_
 refine Zr [] hf ?_
 refine Zq2 0 1 hf ?_
 clear hf s0 s1; intro fr1 hf sS
 refine Zt hK1 fun _ hK2 => ?_
 have bB := hf.B3 5 6 7
 iterate 2 refine Za ?_
 refine fp fun K Z => ?_
 go_simp
 go_at_call 155; refine (fmt63 u hu w).mono ?_; rintro e w1 ⟨rfl, hb⟩
 try dsimp only
 apply Z.out; clear Z K
 refine Za ?_
 refine Fact.nil (Zq1 4 hf ?_)
 clear hf sS bB; intro fr1 hf s4
 refine Zx hK2 ?_
 refine Zret ?_
 exact Fact.ret1 rfl hf s4 ⟨rfl, hb⟩
set_option maxHeartbeats 4000000 in
set_option maxRecDepth 100000 in
theorem num55 (w : World) (B b : Nat) (l : List Nat) (u : Nat) (hu : u < 18446744073709551616) (hB : Lib.IsBuilder 111 5 B b (Lib.byteCells (bs l)) w) (hBw : B ≤ w.heap.size) (hl : l.length ≤ 1000000) : Calls Tryz.prog 134 #[.int .u64 u, .pointer (some ⟨b, 0, none⟩)] w fun e w1 => e = .returned (.tuple #[]) ∧ Lib.IsBuilder 111 5 B b (Lib.byteCells (bs (l ++ num u))) w1 ∧ Below B w w1 ∧ Lib.OthersKept 5 (some b) w w1 := by
 refine Zn2 7 Tryz.func134 fun fr hf s0 s1 => ?_
 refine Ze fun _ hK1 => rg ?_
 have bB := hf.B2 3 4
 refine Za ?_
 refine fp fun K Z => ?_
 go_simp
 go_at_call 135; refine (fmt57 u hu w).mono ?_; rintro e w1 ⟨rfl, hb1⟩
 have hB1 := build_later hB hb1
 try dsimp only
 apply Z.out; clear Z K
 refine fp fun K Z => ?_
 go_simp
 go_at_call 47; refine (writeS_any B b _ (strOf (dig u)) w1 hB1 (by rw [byteCells_length, strOf_size]; have := dig_length u hu; omega) (by have := hb1.size; omega)).mono ?_; rintro e w2 ⟨rfl, hB2, hb2, hk2⟩
 try dsimp only
 apply Z.out; clear Z K
 refine Fact.nil (Zq1 1 hf ?_)
 clear hf s0 s1 bB; intro fr1 hf s1
 refine Zx hK1 ?_
 refine rg ?_
 refine fp fun K Z => ?_
 go_simp
 go_at_call 136; refine (write_any B b _ 32 w2 (.inr hB2) (by rw [List.length_append, byteCells_length, Lib.strCells_length, strOf_size]; have := dig_length u hu; omega) (by have := hb1.size; have := hb2.size; omega)).mono ?_; rintro e w3 ⟨rfl, hB3, hb3, hk3⟩
 try dsimp only
 apply Z.out; clear Z K
 refine Fact.nil (Zq0 hf ?_)
 clear hf s1; intro fr1 hf
 refine Fact.end0 rfl hf ⟨rfl, .inr ?_, ((hb1.mono hBw).trans hb2).trans hb3, ((others_below _ _ hb1).trans hk2).trans hk3⟩
 rw [num_cells] at hB3
 exact hB3
end Dw
end Go.Proofs.YtcddnmhmcieebaaGreatDoor
