/- Dawg: numbers as text, at base 36. -/
import Derived.Test.YtgjfhedgdbbinaaDoorDBuild
import Derived.WalkSmall
import Derived.Laws.BytesArg
import Derived.Test.YtgjfhedgdbbinaaDoorTools
namespace Go.Proofs.YtgjfhedgdbbinaaDoor
open Go.RowKit
set_option linter.unusedSimpArgs false
set_option linter.unusedVariables false
set_option linter.unnecessarySimpa false
namespace Dw

def dg (d : Nat) : Nat := if d < 10 then 48 + d else 87 + d
/-- a number's digits at base 36 -/
def dig (n : Nat) : List Nat := if h : n < 36 then [dg n] else dig (n / 36) ++ [dg (n % 36)]
termination_by n
def strOf (l : List Nat) : ByteArray := ⟨(l.map UInt8.ofNat).toArray⟩
def bs (l : List Nat) : List UInt8 := l.map UInt8.ofNat
def num (n : Nat) : List Nat := dig n ++ [32]
theorem byteCells_length (l : List Nat) : (Lib.byteCells (bs l)).length = l.length := by simp [Lib.byteCells, bs]
theorem strOf_size (l : List Nat) : (strOf l).size = l.length := by simp [strOf, ByteArray.size]
theorem dig_len : ∀ (k n : Nat), n < 36 ^ (k + 1) → (dig n).length ≤ k + 1
  | 0, n, h => by rw [dig, dif_pos (by simpa using h)]; simp
  | k + 1, n, h => by
    rw [dig]
    split
    · simp
    · have h2 : n / 36 < 36 ^ (k + 1) := by
        rw [Nat.div_lt_iff_lt_mul (by omega)]
        rw [Nat.pow_succ] at h
        exact h
      have := dig_len k (n / 36) h2
      simp
      omega
theorem dig_length (u : Nat) (hu : u < 18446744073709551616) : (dig u).length ≤ 13 := dig_len 12 u (by
  have : (36 : Nat) ^ (12 + 1) = 170581728179578208256 := by decide
  omega)
theorem num_length (u : Nat) (hu : u < 18446744073709551616) : (num u).length ≤ 14 := by have := dig_length u hu; simp [num]; omega
theorem num_cells (l : List Nat) (u : Nat) : Lib.byteCells (bs l) ++ Lib.strCells (strOf (dig u)) ++ [.int .u8 32] = Lib.byteCells (bs (l ++ num u)) := by
  simp [Lib.byteCells, bs, Lib.strCells, strOf, num]
/-- the last places of the array hold these digits -/
structure Digs (w : World) (p i : Nat) (tl : List Nat) : Prop where
  size : i + tl.length = 65
  cells : ∃ cs : Array Value, w.heap[p]? = some (.cells cs 136 (0, 0)) ∧ cs.size = 65 ∧ ∀ (j x : Nat), tl[j]? = some x → cs[i + j]? = some (.int .u8 (x : Int))
theorem Digs.start (w : World) : Digs (w.alloc (.cells Tryd.zeroCells136 136)) w.heap.size 65 [] :=
  ⟨rfl, _, heap_alloc_new w _, by kernel_rfl, fun j x h => by simp at h⟩
theorem Digs.frozen {w : World} {p i : Nat} {tl : List Nat} (h : Digs w p i tl) : ∀ j : Nat, w.frozen? ⟨p, j, none⟩ = false := by
  obtain ⟨cs, h1, _⟩ := h.cells
  exact fun j => frozen_of h1
theorem Digs.cell {w : World} {p i : Nat} {tl : List Nat} (h : Digs w p i tl) {j x : Nat} (hx : tl[j]? = some x) : w.cell? ⟨p, i + j, none⟩ = some (.int .u8 (x : Int)) := by
  obtain ⟨cs, h1, h2, h3⟩ := h.cells
  rw [cell_of_row _ _ (i + j) _ 136 (0, 0) h1]
  exact h3 j x hx
theorem Digs.any {w : World} {p i : Nat} {tl : List Nat} (h : Digs w p i tl) {j : Nat} (hj : j < 65) : ∃ v, w.cell? ⟨p, j, none⟩ = some v := by
  obtain ⟨cs, h1, h2, h3⟩ := h.cells
  exact ⟨cs[j], by rw [cell_of_row _ _ j _ 136 (0, 0) h1]; simp [h2, hj]⟩
theorem Digs.put {w : World} {p i : Nat} {tl : List Nat} (h : Digs w p i tl) (x : Nat) (hi : 0 < i) : Digs (w.setCell ⟨p, i - 1, none⟩ (.int .u8 (x : Int))) p (i - 1) (x :: tl) := by
  obtain ⟨cs, h1, h2, h3⟩ := h.cells
  have hs := h.size
  refine ⟨by simp only [List.length_cons]; omega, _, set_block h1 _, by simpa using h2, fun j y hy => ?_⟩
  cases j with
  | zero =>
    simp at hy
    subst hy
    rw [Nat.add_zero, Array.getElem?_setIfInBounds_self_of_lt (by omega)]
  | succ j =>
    have := h3 j y (by simpa using hy)
    rw [Array.getElem?_setIfInBounds_ne (by omega), ← this]
    congr 1
    omega
theorem dig_room {u v n : Nat} (h : v * 36 ^ n ≤ u) (hu : u < 18446744073709551616) (hv : 1 ≤ v) : n ≤ 12 := by
  rcases Nat.lt_or_ge n 13 with h2 | h2
  · omega
  · have h3 := Nat.pow_le_pow_right (show 0 < 36 by omega) h2
    have h4 : 36 ^ n ≤ v * 36 ^ n := Nat.le_mul_of_pos_left _ hv
    have h5 : (36 : Nat) ^ 13 = 170581728179578208256 := by decide
    omega
theorem dig_index : ∀ d : Nat, ∀ h : d < (⟨#[48, 49, 50, 51, 52, 53, 54, 55, 56, 57, 97, 98, 99, 100, 101, 102, 103, 104, 105, 106, 107, 108, 109, 110, 111, 112, 113, 114, 115, 116, 117, 118, 119, 120, 121, 122]⟩ : ByteArray).size,
    ((⟨#[48, 49, 50, 51, 52, 53, 54, 55, 56, 57, 97, 98, 99, 100, 101, 102, 103, 104, 105, 106, 107, 108, 109, 110, 111, 112, 113, 114, 115, 116, 117, 118, 119, 120, 121, 122]⟩ : ByteArray)[d]'h).toNat = dg d := by
  intro d h
  have h36 : d < 36 := h
  have key : ∀ x : Fin 36, ((#[48, 49, 50, 51, 52, 53, 54, 55, 56, 57, 97, 98, 99, 100, 101, 102, 103, 104, 105, 106, 107, 108, 109, 110, 111, 112, 113, 114, 115, 116, 117, 118, 119, 120, 121, 122] : Array UInt8)[x.val]'(x.isLt)).toNat = dg x.val := by decide
  exact key ⟨d, h36⟩
theorem dig_step {u v q d : Nat} {tl : List Nat} (h : dig u = dig v ++ tl) (hv : 36 ≤ v) (hq : v / 36 = q) (hd : v - 36 * q = d) : dig u = dig q ++ dg d :: tl := by
  rw [h, dig, dif_neg (by omega), hq, show v % 36 = d by omega]
  simp
theorem room_step {u v q : Nat} {tl : List Nat} (x : Nat) (h : v * 36 ^ tl.length ≤ u) (hq : 36 * q ≤ v) : q * 36 ^ (x :: tl).length ≤ u := by
  refine Nat.le_trans ?_ h
  rw [List.length_cons, Nat.pow_succ, Nat.mul_comm _ 36, ← Nat.mul_assoc, Nat.mul_comm q 36]
  exact Nat.mul_le_mul_right _ hq
theorem slice136 (w : World) (p i : Nat) (hi : i < 65) : (Instr.sliceAt 136 (.pointer (some ⟨p, 0, none⟩)) (some (.int .i64 (i : Int))) none none).run Tryd.prog w = .ok (.slice (some ⟨p, i, none⟩) (65 - i) (65 - i)) w := by
  have hl : Tryd.prog.arrayLen 136 = 65 := by kernel_rfl
  have h := run_sliceAt_array_l (P := Tryd.prog) w 136 ⟨p, 0, none⟩ (by kernel_rfl) .i64 (i : Int) (by omega) (by rw [hl]; omega)
  rw [hl] at h
  rw [h]
  have he : Tryd.prog.elem 136 = 5 := by kernel_rfl
  rw [he, Tryd.sizeOf5]
  simp only [Result.andThen, slicedAt, Int.toNat_natCast, Nat.mul_one]
  rw [if_neg (by omega)]
  have ha : (⟨p, 0, none⟩ : Addr).add i = ⟨p, i, none⟩ := by unfold Addr.add; split <;> simp_all
  rw [ha]
theorem Digs.conv {w : World} {p i : Nat} {tl : List Nat} (h : Digs w p i tl) (m c : Nat) (hm : m = tl.length) : (convert 23 9 (.slice (some ⟨p, i, none⟩) m c)).run Tryd.prog w = .ok (.string (strOf tl)) w := by
  subst hm
  have := run_convert_bytes_arg (P := Tryd.prog) w 23 5 Tryd.underlying23 Tryd.underlying5 p i tl.length c (tl.map fun (x : Nat) => (x : Int)) (by simp) (fun j hj => by
    rw [h.cell (List.getElem?_eq_getElem hj)]
    simp [hj]) 9 Tryd.underlying9
  rw [this]
  simp [strOfNums, strOf, Function.comp_def]
set_option maxHeartbeats 4000000 in
set_option maxRecDepth 100000 in
theorem pow72  (w : World) : Calls Tryd.prog 72 #[.int .i64 36] w fun e w1 => e = .returned (.bool false) ∧ w = w1 := by
 refine calls_of_wp Tryd.func72 rfl ?_
 refine Fact.en 8 fun fr hf hT => ?_
 have s0 := hT 0 _ rfl
 clear hT
 refine Fact.sq fun K1 hK1 => ?_
 refine rg ?_
 refine fp fun K Z => ?_
 go_simp
 apply Z.out; clear Z K
 refine Fact.z hf fun fr1 hf1 hT => ?_
 have hKp := hT 0
 simp (decide := true) only [Fact.G, reduceIte, s0] at hKp
 replace hf := hf1; clear hT hf1 s0
 have s0 := hKp; clear hKp
 refine nx (hK1 _ _ ?_)
 refine Fact.sq fun K2 hK2 => ?_
 refine rg ?_
 have b3 := hf.b 3
 have b4 := hf.b 4
 have b5 := hf.b 5
 have b6 := hf.b 6
 have b7 := hf.b 7
 refine fp fun K Z => ?_
 go_simp
 apply Z.out; clear Z K
 refine fp fun K Z => ?_
 go_simp
 apply Z.out; clear Z K
 refine fp fun K Z => ?_
 go_simp
 try simp (disch := omega) only [Fact.W]
 apply Z.out; clear Z K
 refine fp fun K Z => ?_
 go_simp
 apply Z.out; clear Z K
 refine fp fun K Z => ?_
 go_simp
 apply Z.out; clear Z K
 refine fp fun K Z => ?_
 go_simp
 apply Z.out; clear Z K
 refine Fact.z hf fun fr1 hf1 hT => ?_
 have hKp := hT 2
 simp (decide := true) only [Fact.G, hf.size, reduceIte] at hKp
 replace hf := hf1; clear hT hf1 s0 b3 b4 b5 b6 b7
 have s2 := hKp; clear hKp
 refine nx (hK2 _ _ ?_)
 refine wp_ret ?_
 exact Fact.ret1 rfl hf s2 ⟨rfl, rfl⟩
set_option maxHeartbeats 4000000 in
set_option maxRecDepth 100000 in
theorem bits68 (u : Nat) (hu : u < 18446744073709551616) (w : World) : Calls Tryd.prog 68 #[.slice none 0 0, .int .u64 u, .int .i64 36, .bool false, .bool false] w fun e w1 => e = .returned (.tuple #[.slice none 0 0, .string (strOf (dig u))]) ∧ Below w.heap.size w w1 := by
 refine calls_of_wp Tryd.func68 rfl ?_
 refine Fact.en 102 fun fr hf hT => ?_
 have s0 := hT 0 _ rfl
 have s1 := hT 1 _ rfl
 have s2 := hT 2 _ rfl
 have s3 := hT 3 _ rfl
 have s4 := hT 4 _ rfl
 clear hT
 refine Fact.sq fun K1 hK1 => ?_
 refine rg ?_
 refine fp fun K Z => ?_
 go_simp
 apply Z.out; clear Z K
 refine fp fun K Z => ?_
 go_simp
 apply Z.out; clear Z K
 refine Fact.z hf fun fr1 hf1 hT => ?_
 have hKp : _ ∧ _ ∧ _ ∧ _ ∧ _ ∧ _ ∧ _ := ⟨hT 0, hT 1, hT 2, hT 3, hT 4, hT 10, hT 11⟩
 simp (decide := true) only [Fact.G, hf.size, reduceIte, s0, s1, s2, s3, s4] at hKp
 replace hf := hf1; clear hT hf1 s0 s1 s2 s3 s4
 obtain ⟨s0, s1, s2, s3, s4, s10, s11⟩ := hKp
 refine nx (hK1 _ _ ?_)
 refine Fact.sq fun K2 hK2 => ?_
 refine Fact.sq fun K3 hK3 => ?_
 refine rg ?_
 have b19 := hf.b 19
 have b20 := hf.b 20
 have b21 := hf.b 21
 have b22 := hf.b 22
 have b23 := hf.b 23
 have b24 := hf.b 24
 have b25 := hf.b 25
 have b26 := hf.b 26
 have b27 := hf.b 27
 refine fp fun K Z => ?_
 go_simp
 apply Z.out; clear Z K
 refine fp fun K Z => ?_
 go_simp
 apply Z.out; clear Z K
 refine fp fun K Z => ?_
 go_simp
 apply Z.out; clear Z K
 refine og 2 21 false ?_ fun K Z => ?_
 · (
 simp (decide := true) only [Fact.G, reduceIte, hf.size])
 go_simp
 apply Z.out; clear Z K
 refine og 2 21 false ?_ fun K Z => ?_
 · (
 simp (decide := true) only [Fact.G, reduceIte, hf.size])
 go_simp
 apply Z.out; clear Z K
 refine fp fun K Z => ?_
 go_simp
 apply Z.out; clear Z K
 refine fp fun K Z => ?_
 go_simp
 apply Z.out; clear Z K
 refine og 6 25 false ?_ fun K Z => ?_
 · (
 simp (decide := true) only [Fact.G, reduceIte, hf.size])
 go_simp
 apply Z.out; clear Z K
 refine og 6 25 false ?_ fun K Z => ?_
 · (
 simp (decide := true) only [Fact.G, reduceIte, hf.size])
 go_simp
 apply Z.out; clear Z K
 refine fp fun K Z => ?_
 go_simp
 apply Z.out; clear Z K
 refine Fact.z hf fun fr1 hf1 hT => ?_
 have hKp : _ ∧ _ ∧ _ ∧ _ ∧ _ ∧ _ ∧ _ ∧ _ := ⟨hT 0, hT 1, hT 2, hT 3, hT 4, hT 10, hT 11, hT 28⟩
 simp (decide := true) only [Fact.G, hf.size, reduceIte, s0, s1, s2, s3, s4, s10, s11] at hKp
 replace hf := hf1; clear hT hf1 s0 s1 s2 s3 s4 s10 s11 b19 b20 b21 b22 b23 b24 b25 b26 b27
 obtain ⟨s0, s1, s2, s3, s4, s10, s11, s28⟩ := hKp
 refine nx (hK3 _ _ ?_)
 refine Fact.cond_f s28 ?_
 refine wp_skip ?_
 refine nx (hK2 _ _ ?_)
 refine Fact.sq fun K4 hK4 => ?_
 refine rg ?_
 refine fp fun K Z => ?_
 go_simp
 apply Z.out; clear Z K
 refine Fact.z hf fun fr1 hf1 hT => ?_
 have hKp : _ ∧ _ ∧ _ ∧ _ ∧ _ ∧ _ ∧ _ ∧ _ := ⟨hT 0, hT 1, hT 2, hT 3, hT 4, hT 10, hT 11, hT 12⟩
 simp (decide := true) only [Fact.G, hf.size, reduceIte, s0, s1, s2, s3, s4, s10, s11] at hKp
 replace hf := hf1; clear hT hf1 s0 s1 s2 s3 s4 s10 s11 s28
 obtain ⟨s0, s1, s2, s3, s4, s10, s11, s12⟩ := hKp
 obtain ⟨W0, hW0⟩ : ∃ W0, w.alloc (.cells Tryd.zeroCells136 136) = W0 := ⟨_, rfl⟩
 rw [hW0]
 have hb0 : Below w.heap.size w W0 := by rw [← hW0]; exact (Below.refl _ _).alloc (Nat.le_refl _) _
 have hd0 : Digs W0 w.heap.size 65 [] := by rw [← hW0]; exact Digs.start w
 clear hW0
 refine nx (hK4 _ _ ?_)
 refine Fact.sq fun K5 hK5 => ?_
 refine rg ?_
 refine fp fun K Z => ?_
 go_simp
 apply Z.out; clear Z K
 refine Fact.z hf fun fr1 hf1 hT => ?_
 have hKp : _ ∧ _ ∧ _ ∧ _ ∧ _ ∧ _ ∧ _ ∧ _ ∧ _ := ⟨hT 0, hT 1, hT 2, hT 3, hT 4, hT 10, hT 11, hT 12, hT 13⟩
 simp (decide := true) only [Fact.G, hf.size, reduceIte, s0, s1, s2, s3, s4, s10, s11, s12] at hKp
 replace hf := hf1; clear hT hf1 s0 s1 s2 s3 s4 s10 s11 s12
 obtain ⟨s0, s1, s2, s3, s4, s10, s11, s12, s13⟩ := hKp
 refine nx (hK5 _ _ ?_)
 refine Fact.sq fun K6 hK6 => ?_
 refine Fact.sq fun K7 hK7 => ?_
 refine rg ?_
 refine fp fun K Z => ?_
 go_simp
 apply Z.out; clear Z K
 refine Fact.z hf fun fr1 hf1 hT => ?_
 have hKp : _ ∧ _ ∧ _ ∧ _ ∧ _ ∧ _ ∧ _ ∧ _ ∧ _ ∧ _ := ⟨hT 0, hT 1, hT 2, hT 3, hT 4, hT 10, hT 11, hT 12, hT 13, hT 30⟩
 simp (decide := true) only [Fact.G, hf.size, reduceIte, s0, s1, s2, s3, s4, s10, s11, s12, s13] at hKp
 replace hf := hf1; clear hT hf1 s0 s1 s2 s3 s4 s10 s11 s12 s13
 obtain ⟨s0, s1, s2, s3, s4, s10, s11, s12, s13, s30⟩ := hKp
 refine nx (hK7 _ _ ?_)
 refine Fact.cond_f s30 ?_
 refine wp_skip ?_
 refine nx (hK6 _ _ ?_)
 refine Fact.sq fun K8 hK8 => ?_
 refine Fact.sq fun K9 hK9 => ?_
 refine rg ?_
 have b33 := hf.b 33
 refine fp fun K Z => ?_
 go_simp
 apply Z.out; clear Z K
 refine fp fun K Z => ?_
 go_simp
 go_at_call 72; refine (pow72 W0).mono ?_; rintro e w2 ⟨rfl, rfl⟩
 try dsimp only
 apply Z.out; clear Z K
 refine Fact.z hf fun fr1 hf1 hT => ?_
 have hKp : _ ∧ _ ∧ _ ∧ _ ∧ _ ∧ _ ∧ _ ∧ _ ∧ _ ∧ _ := ⟨hT 0, hT 1, hT 2, hT 3, hT 4, hT 10, hT 11, hT 12, hT 13, hT 34⟩
 simp (decide := true) only [Fact.G, hf.size, reduceIte, s0, s1, s2, s3, s4, s10, s11, s12, s13] at hKp
 replace hf := hf1; clear hT hf1 s0 s1 s2 s3 s4 s10 s11 s12 s13 s30 b33
 obtain ⟨s0, s1, s2, s3, s4, s10, s11, s12, s13, s34⟩ := hKp
 refine nx (hK9 _ _ ?_)
 refine Fact.cond_f s34 ?_
 refine Fact.sq fun K10 hK10 => ?_
 refine rg ?_
 have b64 := hf.b 64
 have b65 := hf.b 65
 refine fp fun K Z => ?_
 go_simp
 apply Z.out; clear Z K
 refine fp fun K Z => ?_
 go_simp
 apply Z.out; clear Z K
 refine fp fun K Z => ?_
 go_simp
 apply Z.out; clear Z K
 refine Fact.z hf fun fr1 hf1 hT => ?_
 have hKp : _ ∧ _ ∧ _ ∧ _ ∧ _ ∧ _ ∧ _ ∧ _ ∧ _ := ⟨hT 0, hT 1, hT 3, hT 4, hT 10, hT 11, hT 12, hT 13, hT 17⟩
 simp (decide := true) only [Fact.G, hf.size, reduceIte, s0, s1, s3, s4, s10, s11, s12, s13] at hKp
 replace hf := hf1; clear hT hf1 s0 s1 s2 s3 s4 s10 s11 s12 s13 s34 b64 b65
 obtain ⟨s0, s1, s3, s4, s10, s11, s12, s13, s17⟩ := hKp
 refine nx (hK10 _ _ ?_)
 refine Fact.sq fun K11 hK11 => ?_
 refine wp_block ?_
 refine wp_loop_ghost (fun gk fr wr => ∃ (i v : Nat) (tl : List Nat), gk = v ∧ Fact.Fr 102 fr ∧ fr.tmps[3]? = some (.bool false) ∧ fr.tmps[4]? = some (.bool false) ∧ fr.tmps[10]? = some (.slice none 0 0) ∧ fr.tmps[12]? = some (.pointer (some ⟨w.heap.size, 0, none⟩)) ∧ fr.tmps[17]? = some (.int .u64 36) ∧ fr.tmps[1]? = some (.int .u64 v) ∧ fr.tmps[13]? = some (.int .i64 i) ∧ Digs wr w.heap.size i tl ∧ dig u = dig v ++ tl ∧ v * 36 ^ tl.length ≤ u ∧ tl.length ≤ 12 ∧ Below w.heap.size w wr) (u) ?_ ?_
 · (
 exact ⟨65, u, [], rfl, hf, s3, s4, s10, s12, s17, s1, s13, hd0, by simp, by simp, by simp, hb0⟩)
 · (
 clear hf s0 s1 s3 s4 s10 s11 s12 s13 s17
 rintro gk fr wr ⟨i, v, tl, hk, hf, s3, s4, s10, s12, s17, s1, s13, hd, hdig, hle, h12, hb⟩
 have HK := Lib.hid hk; have HD := Lib.hid hdig; have HL := Lib.hid hle; have hsz := Lib.hid hd.size
 have hi64 : i ≤ 65 := by have := hd.size; omega
 have hfz := hd.frozen
 clear hk hdig hle
 refine Fact.sq fun K12 hK12 => ?_
 refine Fact.sq fun K13 hK13 => ?_
 refine rg ?_
 have b66 := hf.b 66
 have b67 := hf.b 67
 refine fp fun K Z => ?_
 go_simp
 apply Z.out; clear Z K
 refine fp fun K Z => ?_
 go_simp
 apply Z.out; clear Z K
 refine fp fun K Z => ?_
 go_simp
 apply Z.out; clear Z K
 refine Fact.z hf fun fr1 hf1 hT => ?_
 have hKp : _ ∧ _ ∧ _ ∧ _ ∧ _ ∧ _ ∧ _ ∧ _ := ⟨hT 1, hT 3, hT 4, hT 10, hT 12, hT 13, hT 17, hT 68⟩
 simp (decide := true) only [Fact.G, hf.size, reduceIte, s1, s3, s4, s10, s12, s13, s17] at hKp
 replace hf := hf1; clear hT hf1 s1 s3 s4 s10 s12 s13 s17 b66 b67
 obtain ⟨s1, s3, s4, s10, s12, s13, s17, s68⟩ := hKp
 refine nx (hK13 _ _ ?_)
 refine Fact.cond_s s68 (fun hq => ?_) (fun hq => ?_)
 · (
 have hv36 : 36 ≤ v := by have h9 := of_decide_eq_true hq; omega
 have hv64 : v < 18446744073709551616 := by have := Nat.le_mul_of_pos_right v (Nat.pow_pos (n := tl.length) (show 0 < 36 by omega)); have := HL.out; omega
 have hi1 : 40 ≤ i := by have := hsz.out; omega
 have hdv : ((v : Int).tdiv 36) = ((v / 36 : Nat) : Int) := by rfl
 obtain ⟨q, hq2⟩ : ∃ q, v / 36 = q := ⟨_, rfl⟩
 have hqv : 36 * q ≤ v ∧ v < 36 * q + 36 := by omega
 rw [hq2] at hdv
 have HQ := Lib.hid hq2; clear hq2
 obtain ⟨d, hdd⟩ : ∃ d, v - 36 * q = d := ⟨_, rfl⟩
 have hd36 : d < 36 := by omega
 have hdi : (v : Int) - (q : Int) * 36 = (d : Int) := by omega
 have HDD := Lib.hid hdd; have HDI := Lib.hid hdi; clear hdd hdi
 have hst := hd.put (dg d) (by omega)
 obtain ⟨vx, hvx⟩ := hd.any (j := i - 1) (by omega)
 have hii : (i : Int) - 1 = ((i - 1 : Nat) : Int) := by omega
 refine wp_skip ?_
 refine nx (hK12 _ _ ?_)
 refine wp_block ?_
 refine Fact.sq fun K14 hK14 => ?_
 refine rg ?_
 have b69 := hf.b 69
 have b70 := hf.b 70
 refine fp fun K Z => ?_
 go_simp
 apply Z.out; clear Z K
 refine fp fun K Z => ?_
 go_simp
 try simp (disch := omega) only [Fact.W]
 try rw [hii]
 apply Z.out; clear Z K
 refine fp fun K Z => ?_
 go_simp
 apply Z.out; clear Z K
 refine Fact.z hf fun fr1 hf1 hT => ?_
 have hKp : _ ∧ _ ∧ _ ∧ _ ∧ _ ∧ _ ∧ _ := ⟨hT 1, hT 3, hT 4, hT 10, hT 12, hT 13, hT 17⟩
 simp (decide := true) only [Fact.G, hf.size, reduceIte, s1, s3, s4, s10, s12, s17] at hKp
 replace hf := hf1; clear hT hf1 s1 s3 s4 s10 s12 s13 s17 s68 b69 b70
 obtain ⟨s1, s3, s4, s10, s12, s13, s17⟩ := hKp
 refine nx (hK14 _ _ ?_)
 refine Fact.sq fun K15 hK15 => ?_
 refine rg ?_
 have b71 := hf.b 71
 have b72 := hf.b 72
 have b73 := hf.b 73
 refine fp fun K Z => ?_
 go_simp
 apply Z.out; clear Z K
 refine fp fun K Z => ?_
 go_simp
 apply Z.out; clear Z K
 refine fp fun K Z => ?_
 go_simp
 try rw [hdv]
 try simp (disch := omega) only [Fact.wrap_u64]
 apply Z.out; clear Z K
 refine fp fun K Z => ?_
 go_simp
 apply Z.out; clear Z K
 refine Fact.z hf fun fr1 hf1 hT => ?_
 have hKp : _ ∧ _ ∧ _ ∧ _ ∧ _ ∧ _ ∧ _ ∧ _ := ⟨hT 1, hT 3, hT 4, hT 10, hT 12, hT 13, hT 17, hT 18⟩
 simp (decide := true) only [Fact.G, hf.size, reduceIte, s1, s3, s4, s10, s12, s13, s17] at hKp
 replace hf := hf1; clear hT hf1 s1 s3 s4 s10 s12 s13 s17 b71 b72 b73
 obtain ⟨s1, s3, s4, s10, s12, s13, s17, s18⟩ := hKp
 refine nx (hK15 _ _ ?_)
 refine Fact.sq fun K16 hK16 => ?_
 refine rg ?_
 have b74 := hf.b 74
 have b75 := hf.b 75
 have b76 := hf.b 76
 have b77 := hf.b 77
 have b78 := hf.b 78
 have b79 := hf.b 79
 have b80 := hf.b 80
 have b81 := hf.b 81
 refine fp fun K Z => ?_
 go_simp
 apply Z.out; clear Z K
 refine fp fun K Z => ?_
 go_simp
 apply Z.out; clear Z K
 refine fp fun K Z => ?_
 go_simp
 apply Z.out; clear Z K
 refine fp fun K Z => ?_
 go_simp
 apply Z.out; clear Z K
 refine fp fun K Z => ?_
 go_simp
 try simp (disch := omega) only [Fact.W]
 apply Z.out; clear Z K
 refine fp fun K Z => ?_
 go_simp
 try simp (disch := omega) only [Fact.W]
 rw [HDI.out]
 apply Z.out; clear Z K
 refine fp fun K Z => ?_
 go_simp
 rw [dif_pos (by omega)]
 rw [dig_index d hd36]
 apply Z.out; clear Z K
 refine fp fun K Z => ?_
 go_simp
 try rw [if_pos (by omega)]
 apply Z.out; clear Z K
 refine fp fun K Z => ?_
 go_simp
 apply Z.out; clear Z K
 refine Fact.z hf fun fr1 hf1 hT => ?_
 have hKp : _ ∧ _ ∧ _ ∧ _ ∧ _ ∧ _ ∧ _ := ⟨hT 3, hT 4, hT 10, hT 12, hT 13, hT 17, hT 18⟩
 simp (decide := true) only [Fact.G, reduceIte, s3, s4, s10, s12, s13, s17, s18] at hKp
 replace hf := hf1; clear hT hf1 s1 s3 s4 s10 s12 s13 s17 s18 b74 b75 b76 b77 b78 b79 b80 b81
 obtain ⟨s3, s4, s10, s12, s13, s17, s18⟩ := hKp
 refine nx (hK16 _ _ ?_)
 refine rg ?_
 have b82 := hf.b 82
 refine fp fun K Z => ?_
 go_simp
 apply Z.out; clear Z K
 refine fp fun K Z => ?_
 go_simp
 apply Z.out; clear Z K
 refine Fact.z hf fun fr1 hf1 hT => ?_
 have hKp : _ ∧ _ ∧ _ ∧ _ ∧ _ ∧ _ ∧ _ := ⟨hT 1, hT 3, hT 4, hT 10, hT 12, hT 13, hT 17⟩
 simp (decide := true) only [Fact.G, hf.size, reduceIte, s3, s4, s10, s12, s13, s17] at hKp
 replace hf := hf1; clear hT hf1 s3 s4 s10 s12 s13 s17 s18 b82
 obtain ⟨s1, s3, s4, s10, s12, s13, s17⟩ := hKp
 refine Fact.block_normal ?_
 refine Fact.then_normal ?_
 have hrs := room_step (dg d) HL.out hqv.1
 exact ⟨_, by have := HK.out; omega, i - 1, q, dg d :: tl, rfl, hf, s3, s4, s10, s12, s17, s1, s13, hst, dig_step HD.out hv36 HQ.out HDD.out, hrs, dig_room hrs hu (by omega), hb.setCell (Nat.le_refl _) _⟩)
 · (
 have hv36 : v < 36 := by have h9 := of_decide_eq_false hq; omega
 have hi1 : 40 ≤ i := by have := hsz.out; omega
 have hii : (i : Int) - 1 = ((i - 1 : Nat) : Int) := by omega
 have hst := hd.put (dg v) (by omega)
 obtain ⟨vx, hvx⟩ := hd.any (j := i - 1) (by omega)
 refine wp_exit ?_
 refine Fact.then_exit ?_
 refine Fact.then_exit ?_
 refine Fact.block_exit ?_
 refine nx (hK11 _ _ ?_)
 refine Fact.sq fun K17 hK17 => ?_
 refine rg ?_
 have b83 := hf.b 83
 have b84 := hf.b 84
 refine fp fun K Z => ?_
 go_simp
 apply Z.out; clear Z K
 refine fp fun K Z => ?_
 go_simp
 try simp (disch := omega) only [Fact.W]
 try rw [hii]
 apply Z.out; clear Z K
 refine fp fun K Z => ?_
 go_simp
 apply Z.out; clear Z K
 refine Fact.z hf fun fr1 hf1 hT => ?_
 have hKp : _ ∧ _ ∧ _ ∧ _ ∧ _ ∧ _ := ⟨hT 1, hT 3, hT 4, hT 10, hT 12, hT 13⟩
 simp (decide := true) only [Fact.G, hf.size, reduceIte, s1, s3, s4, s10, s12] at hKp
 replace hf := hf1; clear hT hf1 s1 s3 s4 s10 s12 s13 s17 s68 b83 b84
 obtain ⟨s1, s3, s4, s10, s12, s13⟩ := hKp
 refine nx (hK17 _ _ ?_)
 refine rg ?_
 have b85 := hf.b 85
 have b86 := hf.b 86
 have b87 := hf.b 87
 have b88 := hf.b 88
 refine fp fun K Z => ?_
 go_simp
 apply Z.out; clear Z K
 refine fp fun K Z => ?_
 go_simp
 apply Z.out; clear Z K
 refine fp fun K Z => ?_
 go_simp
 rw [dif_pos (by omega)]
 rw [dig_index v hv36]
 apply Z.out; clear Z K
 refine fp fun K Z => ?_
 go_simp
 try rw [if_pos (by omega)]
 apply Z.out; clear Z K
 refine fp fun K Z => ?_
 go_simp
 apply Z.out; clear Z K
 refine Fact.z hf fun fr1 hf1 hT => ?_
 have hKp : _ ∧ _ ∧ _ ∧ _ ∧ _ := ⟨hT 3, hT 4, hT 10, hT 12, hT 13⟩
 simp (decide := true) only [Fact.G, reduceIte, s3, s4, s10, s12, s13] at hKp
 replace hf := hf1; clear hT hf1 s1 s3 s4 s10 s12 s13 b85 b86 b87 b88
 obtain ⟨s3, s4, s10, s12, s13⟩ := hKp
 refine nx (hK8 _ _ ?_)
 refine Fact.sq fun K18 hK18 => ?_
 refine Fact.sq fun K19 hK19 => ?_
 refine rg ?_
 refine fp fun K Z => ?_
 go_simp
 apply Z.out; clear Z K
 refine Fact.z hf fun fr1 hf1 hT => ?_
 have hKp : _ ∧ _ ∧ _ ∧ _ ∧ _ := ⟨hT 4, hT 10, hT 12, hT 13, hT 89⟩
 simp (decide := true) only [Fact.G, hf.size, reduceIte, s4, s10, s12, s13] at hKp
 replace hf := hf1; clear hT hf1 s3 s4 s10 s12 s13
 obtain ⟨s4, s10, s12, s13, s89⟩ := hKp
 refine nx (hK19 _ _ ?_)
 refine Fact.cond_f s89 ?_
 refine wp_skip ?_
 refine nx (hK18 _ _ ?_)
 refine Fact.sq fun K20 hK20 => ?_
 refine Fact.sq fun K21 hK21 => ?_
 refine rg ?_
 refine fp fun K Z => ?_
 go_simp
 apply Z.out; clear Z K
 refine Fact.z hf fun fr1 hf1 hT => ?_
 have hKp : _ ∧ _ ∧ _ ∧ _ := ⟨hT 10, hT 12, hT 13, hT 94⟩
 simp (decide := true) only [Fact.G, hf.size, reduceIte, s10, s12, s13] at hKp
 replace hf := hf1; clear hT hf1 s4 s10 s12 s13 s89
 obtain ⟨s10, s12, s13, s94⟩ := hKp
 refine nx (hK21 _ _ ?_)
 refine Fact.cond_f s94 ?_
 refine wp_skip ?_
 refine nx (hK20 _ _ ?_)
 refine Fact.sq fun K22 hK22 => ?_
 refine rg ?_
 have b99 := hf.b 99
 have b100 := hf.b 100
 have b101 := hf.b 101
 refine fp fun K Z => ?_
 go_simp
 apply Z.out; clear Z K
 refine fp fun K Z => ?_
 go_simp
 rw [slice136 _ _ _ (by omega)]
 apply Z.out; clear Z K
 refine fp fun K Z => ?_
 go_simp
 rw [hst.conv _ _ (by simp only [List.length_cons]; have := hsz.out; omega)]
 apply Z.out; clear Z K
 refine fp fun K Z => ?_
 go_simp
 apply Z.out; clear Z K
 refine Fact.z hf fun fr1 hf1 hT => ?_
 have hKp : _ ∧ _ := ⟨hT 10, hT 11⟩
 simp (decide := true) only [Fact.G, hf.size, reduceIte, s10] at hKp
 replace hf := hf1; clear hT hf1 s10 s12 s13 s94 b99 b100 b101
 obtain ⟨s10, s11⟩ := hKp
 refine nx (hK22 _ _ ?_)
 refine wp_ret ?_
 have hdg : dig u = dg v :: tl := by rw [HD.out, dig, dif_pos hv36]; rfl
 exact Fact.ret2 rfl hf s10 s11 ⟨by rw [hdg], hb.setCell (Nat.le_refl _) _⟩))
set_option maxHeartbeats 4000000 in
set_option maxRecDepth 100000 in
theorem fmt63 (u : Nat) (hu : u < 18446744073709551616) (w : World) : Calls Tryd.prog 63 #[.int .u64 u, .int .i64 36] w fun e w1 => e = .returned (.string (strOf (dig u))) ∧ Below w.heap.size w w1 := by
 refine calls_of_wp Tryd.func63 rfl ?_
 refine Fact.en 32 fun fr hf hT => ?_
 have s0 := hT 0 _ rfl
 have s1 := hT 1 _ rfl
 clear hT
 refine Fact.sq fun K1 hK1 => ?_
 refine rg ?_
 refine fp fun K Z => ?_
 go_simp
 apply Z.out; clear Z K
 refine Fact.z hf fun fr1 hf1 hT => ?_
 have hKp : _ ∧ _ := ⟨hT 0, hT 1⟩
 simp (decide := true) only [Fact.G, reduceIte, s0, s1] at hKp
 replace hf := hf1; clear hT hf1 s0 s1
 obtain ⟨s0, s1⟩ := hKp
 refine nx (hK1 _ _ ?_)
 refine Fact.sq fun K2 hK2 => ?_
 refine Fact.sq fun K3 hK3 => ?_
 refine rg ?_
 have b9 := hf.b 9
 refine fp fun K Z => ?_
 go_simp
 apply Z.out; clear Z K
 refine fp fun K Z => ?_
 go_simp
 apply Z.out; clear Z K
 refine Fact.z hf fun fr1 hf1 hT => ?_
 have hKp : _ ∧ _ ∧ _ := ⟨hT 0, hT 1, hT 10⟩
 simp (decide := true) only [Fact.G, hf.size, reduceIte, s0, s1] at hKp
 replace hf := hf1; clear hT hf1 s0 s1 b9
 obtain ⟨s0, s1, s10⟩ := hKp
 refine nx (hK3 _ _ ?_)
 refine Fact.cond_f s10 ?_
 refine wp_skip ?_
 refine nx (hK2 _ _ ?_)
 refine Fact.sq fun K4 hK4 => ?_
 refine rg ?_
 have b26 := hf.b 26
 have b27 := hf.b 27
 have b28 := hf.b 28
 have b25 := hf.b 25
 have b29 := hf.b 29
 have b30 := hf.b 30
 refine fp fun K Z => ?_
 go_simp
 apply Z.out; clear Z K
 refine fp fun K Z => ?_
 go_simp
 apply Z.out; clear Z K
 refine fp fun K Z => ?_
 go_simp
 go_at_call 68; refine (bits68 u hu w).mono ?_; rintro e w1 ⟨rfl, hb⟩
 try dsimp only
 apply Z.out; clear Z K
 refine fp fun K Z => ?_
 go_simp
 apply Z.out; clear Z K
 refine fp fun K Z => ?_
 go_simp
 apply Z.out; clear Z K
 refine fp fun K Z => ?_
 go_simp
 apply Z.out; clear Z K
 refine fp fun K Z => ?_
 go_simp
 apply Z.out; clear Z K
 refine fp fun K Z => ?_
 go_simp
 apply Z.out; clear Z K
 refine Fact.z hf fun fr1 hf1 hT => ?_
 have hKp := hT 8
 simp (decide := true) only [Fact.G, hf.size, reduceIte] at hKp
 replace hf := hf1; clear hT hf1 s0 s1 s10 b26 b27 b28 b25 b29 b30
 have s8 := hKp; clear hKp
 refine nx (hK4 _ _ ?_)
 refine Fact.sq fun K5 hK5 => ?_
 refine rg ?_
 have b31 := hf.b 31
 refine fp fun K Z => ?_
 go_simp
 apply Z.out; clear Z K
 refine fp fun K Z => ?_
 go_simp
 apply Z.out; clear Z K
 refine Fact.z hf fun fr1 hf1 hT => ?_
 have hKp := hT 4
 simp (decide := true) only [Fact.G, hf.size, reduceIte] at hKp
 replace hf := hf1; clear hT hf1 s8 b31
 have s4 := hKp; clear hKp
 refine nx (hK5 _ _ ?_)
 refine wp_ret ?_
 exact Fact.ret1 rfl hf s4 ⟨rfl, hb⟩
set_option maxHeartbeats 4000000 in
set_option maxRecDepth 100000 in
theorem fmt57 (u : Nat) (hu : u < 18446744073709551616) (w : World) : Calls Tryd.prog 57 #[.int .u64 u, .int .i64 36] w fun e w1 => e = .returned (.string (strOf (dig u))) ∧ Below w.heap.size w w1 := by
 refine calls_of_wp Tryd.func57 rfl ?_
 refine Fact.en 8 fun fr hf hT => ?_
 have s0 := hT 0 _ rfl
 have s1 := hT 1 _ rfl
 clear hT
 refine Fact.sq fun K1 hK1 => ?_
 refine rg ?_
 refine fp fun K Z => ?_
 go_simp
 apply Z.out; clear Z K
 refine Fact.z hf fun fr1 hf1 hT => ?_
 have hKp : _ ∧ _ := ⟨hT 0, hT 1⟩
 simp (decide := true) only [Fact.G, reduceIte, s0, s1] at hKp
 replace hf := hf1; clear hT hf1 s0 s1
 obtain ⟨s0, s1⟩ := hKp
 refine nx (hK1 _ _ ?_)
 refine Fact.sq fun K2 hK2 => ?_
 refine rg ?_
 have b5 := hf.b 5
 have b6 := hf.b 6
 have b7 := hf.b 7
 refine fp fun K Z => ?_
 go_simp
 apply Z.out; clear Z K
 refine fp fun K Z => ?_
 go_simp
 apply Z.out; clear Z K
 refine fp fun K Z => ?_
 go_simp
 go_at_call 63; refine (fmt63 u hu w).mono ?_; rintro e w1 ⟨rfl, hb⟩
 try dsimp only
 apply Z.out; clear Z K
 refine fp fun K Z => ?_
 go_simp
 apply Z.out; clear Z K
 refine Fact.z hf fun fr1 hf1 hT => ?_
 have hKp := hT 4
 simp (decide := true) only [Fact.G, hf.size, reduceIte] at hKp
 replace hf := hf1; clear hT hf1 s0 s1 b5 b6 b7
 have s4 := hKp; clear hKp
 refine nx (hK2 _ _ ?_)
 refine wp_ret ?_
 exact Fact.ret1 rfl hf s4 ⟨rfl, hb⟩
set_option maxHeartbeats 4000000 in
set_option maxRecDepth 100000 in
theorem num55 (w : World) (B b : Nat) (l : List Nat) (u : Nat) (hu : u < 18446744073709551616) (hB : Lib.IsBuilder 115 5 B b (Lib.byteCells (bs l)) w) (hBw : B ≤ w.heap.size) (hl : l.length ≤ 1000000) : Calls Tryd.prog 55 #[.int .u64 u, .pointer (some ⟨b, 0, none⟩)] w fun e w1 => e = .returned (.tuple #[]) ∧ Lib.IsBuilder 115 5 B b (Lib.byteCells (bs (l ++ num u))) w1 ∧ Below B w w1 ∧ Lib.OthersKept 5 (some b) w w1 := by
 refine calls_of_wp Tryd.func55 rfl ?_
 refine Fact.en 7 fun fr hf hT => ?_
 have s0 := hT 0 _ rfl
 have s1 := hT 1 _ rfl
 clear hT
 refine Fact.sq fun K1 hK1 => ?_
 refine rg ?_
 have b3 := hf.b 3
 have b4 := hf.b 4
 refine fp fun K Z => ?_
 go_simp
 apply Z.out; clear Z K
 refine fp fun K Z => ?_
 go_simp
 go_at_call 57; refine (fmt57 u hu w).mono ?_; rintro e w1 ⟨rfl, hb1⟩
 have hB1 := build_later hB hb1
 try dsimp only
 apply Z.out; clear Z K
 refine fp fun K Z => ?_
 go_simp
 go_at_call 56; refine (writeS_any B b _ (strOf (dig u)) w1 hB1 (by rw [byteCells_length, strOf_size]; have := dig_length u hu; omega) (by have := hb1.size; omega)).mono ?_; rintro e w2 ⟨rfl, hB2, hb2, hk2⟩
 try dsimp only
 apply Z.out; clear Z K
 refine Fact.z hf fun fr1 hf1 hT => ?_
 have hKp := hT 1
 simp (decide := true) only [Fact.G, reduceIte, s1] at hKp
 replace hf := hf1; clear hT hf1 s0 s1 b3 b4
 have s1 := hKp; clear hKp
 refine nx (hK1 _ _ ?_)
 refine rg ?_
 refine fp fun K Z => ?_
 go_simp
 go_at_call 58; refine (write_any B b _ 32 w2 (.inr hB2) (by rw [List.length_append, byteCells_length, Lib.strCells_length, strOf_size]; have := dig_length u hu; omega) (by have := hb1.size; have := hb2.size; omega)).mono ?_; rintro e w3 ⟨rfl, hB3, hb3, hk3⟩
 try dsimp only
 apply Z.out; clear Z K
 refine Fact.z hf fun fr1 hf1 hT => ?_
 replace hf := hf1; clear hT hf1 s1
 refine Fact.end0 rfl hf ⟨rfl, .inr ?_, ((hb1.mono hBw).trans hb2).trans hb3, ((others_below _ _ hb1).trans hk2).trans hk3⟩
 rw [num_cells] at hB3
 exact hB3
end Dw
end Go.Proofs.YtgjfhedgdbbinaaDoor
