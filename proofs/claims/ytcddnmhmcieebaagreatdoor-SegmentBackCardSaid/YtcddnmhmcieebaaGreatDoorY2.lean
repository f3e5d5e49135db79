/- Dawg: numbers as text, at base 36. -/
import Derived.Test.YtcddnmhmcieebaaGreatDoorY1
import Derived.WalkSmall
import Derived.Laws.BytesArg
import Derived.Test.YtcddnmhmcieebaaGreatDoorTools
import Derived.Maps.OwnSet
import Derived.Maps.Views
import Derived.StringKeys
namespace Go.Proofs.YtcddnmhmcieebaaGreatDoor
set_option maxHeartbeats 4000000
set_option maxRecDepth 100000
open Go.RowKit
set_option linter.unusedSimpArgs false
set_option linter.unusedVariables false
set_option linter.unnecessarySimpa false
namespace Dw
def dg (d : Nat) : Nat := if d < 10 then 48 + d else 87 + d
def dig (n : Nat) : List Nat := if h : n < 36 then [dg n] else dig (n / 36) ++ [dg (n % 36)]
termination_by n
def strOf (l : List Nat) : ByteArray := ⟨(l.map UInt8.ofNat).toArray⟩
def bs (l : List Nat) : List UInt8 := l.map UInt8.ofNat
def num (n : Nat) : List Nat := dig n ++ [32]
theorem byteCells_length (l : List Nat) : (Lib.byteCells (bs l)).length = l.length := by simp [Lib.byteCells, bs]
theorem strOf_size (l : List Nat) : (strOf l).size = l.length := by simp [strOf, ByteArray.size]
theorem dig_len : ∀ (k n : Nat), n < 36 ^ (k + 1) -> (dig n).length <= k + 1
 | 0, n, h => by rw [dig, dif_pos (by simpa using h)]; simp
 | k + 1, n, h => by
  rw [dig]
  split
  ·simp
  ·have h2 : n / 36 < 36 ^ (k + 1) := by
    rw [Nat.div_lt_iff_lt_mul (by omega)]
    rw [Nat.pow_succ] at h
    exact h
   have := dig_len k (n / 36) h2
   simp
   omega
theorem dig_length (u : Nat) (hu : u < 18446744073709551616) : (dig u).length <= 13 := dig_len 12 u (by
 have : (36 : Nat) ^ (12 + 1) = 170581728179578208256 := by decide
 omega)
theorem num_length (u : Nat) (hu : u < 18446744073709551616) : (num u).length <= 14 := by have := dig_length u hu; simp [num]; omega
theorem num_cells (l : List Nat) (u : Nat) : Lib.byteCells (bs l) ++ Lib.strCells (strOf (dig u)) ++ [.int .u8 32] = Lib.byteCells (bs (l ++ num u)) := by
 simp [Lib.byteCells, bs, Lib.strCells, strOf, num]
structure Digs (w : World) (p i : Nat) (tl : List Nat) : Prop where
 size : i + tl.length = 65
 cells : ∃ cs : Array Value, w.heap[p]? = some (.cells cs 255 (0, 0)) /\ cs.size = 65 /\ ∀ (j x : Nat), tl[j]? = some x -> cs[i + j]? = some (.int .u8 (x : Int))
theorem Digs.start (w : World) : Digs (w.alloc (.cells Tryz.zeroCells255 255)) w.heap.size 65 [] :=
 ⟨rfl, _, heap_alloc_new w _, by kernel_rfl, fun j x h => by simp at h⟩
theorem Digs.frozen {w : World} {p i : Nat} {tl : List Nat} (h : Digs w p i tl) : ∀ j : Nat, w.frozen? ⟨p, j, none⟩ = false := by
 obtain ⟨cs, h1, _⟩ := h.cells
 exact fun j => frozen_of h1
theorem Digs.cell {w : World} {p i : Nat} {tl : List Nat} (h : Digs w p i tl) {j x : Nat} (hx : tl[j]? = some x) : w.cell? ⟨p, i + j, none⟩ = some (.int .u8 (x : Int)) := by
 obtain ⟨cs, h1, h2, h3⟩ := h.cells
 rw [cell_of_row _ _ (i + j) _ 255 (0, 0) h1]
 exact h3 j x hx
theorem Digs.any {w : World} {p i : Nat} {tl : List Nat} (h : Digs w p i tl) {j : Nat} (hj : j < 65) : ∃ v, w.cell? ⟨p, j, none⟩ = some v := by
 obtain ⟨cs, h1, h2, h3⟩ := h.cells
 exact ⟨cs[j], by rw [cell_of_row _ _ j _ 255 (0, 0) h1]; simp [h2, hj]⟩
theorem Digs.put {w : World} {p i : Nat} {tl : List Nat} (h : Digs w p i tl) (x : Nat) (hi : 0 < i) : Digs (w.setCell ⟨p, i - 1, none⟩ (.int .u8 (x : Int))) p (i - 1) (x :: tl) := by
 obtain ⟨cs, h1, h2, h3⟩ := h.cells
 have hs := h.size
 refine ⟨by simp only [List.length_cons]; omega, _, set_block h1 _, by simpa using h2, fun j y hy => ?_⟩
 cases j with
 | zero =>
  simp at hy
  subst hy
  rw [Nat.add_zero, Array.getElem?_setIfInBounds_self_of_lt (by omega)]
 | succ j =>
  have := h3 j y (by simpa using hy)
  rw [Array.getElem?_setIfInBounds_ne (by omega), <- this]
  congr 1
  omega
theorem dig_room {u v n : Nat} (h : v * 36 ^ n <= u) (hu : u < 18446744073709551616) (hv : 1 <= v) : n <= 12 := by
 rcases Nat.lt_or_ge n 13 with h2 | h2
 ·omega
 ·have h3 := Nat.pow_le_pow_right (show 0 < 36 by omega) h2
  have h4 : 36 ^ n <= v * 36 ^ n := Nat.le_mul_of_pos_left _ hv
  have h5 : (36 : Nat) ^ 13 = 170581728179578208256 := by decide
  omega
theorem dig_index : ∀ d : Nat, ∀ h : d < (⟨#[48, 49, 50, 51, 52, 53, 54, 55, 56, 57, 97, 98, 99, 100, 101, 102, 103, 104, 105, 106, 107, 108, 109, 110, 111, 112, 113, 114, 115, 116, 117, 118, 119, 120, 121, 122]⟩ : ByteArray).size,
  ((⟨#[48, 49, 50, 51, 52, 53, 54, 55, 56, 57, 97, 98, 99, 100, 101, 102, 103, 104, 105, 106, 107, 108, 109, 110, 111, 112, 113, 114, 115, 116, 117, 118, 119, 120, 121, 122]⟩ : ByteArray)[d]'h).toNat = dg d := by
 intro d h
 have h36 : d < 36 := h
 have key : ∀ x : Fin 36, ((#[48, 49, 50, 51, 52, 53, 54, 55, 56, 57, 97, 98, 99, 100, 101, 102, 103, 104, 105, 106, 107, 108, 109, 110, 111, 112, 113, 114, 115, 116, 117, 118, 119, 120, 121, 122] : Array UInt8)[x.val]'(x.isLt)).toNat = dg x.val := by decide
 exact key ⟨d, h36⟩
theorem dig_step {u v q d : Nat} {tl : List Nat} (h : dig u = dig v ++ tl) (hv : 36 <= v) (hq : v / 36 = q) (hd : v - 36 * q = d) : dig u = dig q ++ dg d :: tl := by
 rw [h, dig, dif_neg (by omega), hq, show v % 36 = d by omega]
 simp
theorem room_step {u v q : Nat} {tl : List Nat} (x : Nat) (h : v * 36 ^ tl.length <= u) (hq : 36 * q <= v) : q * 36 ^ (x :: tl).length <= u := by
 refine Nat.le_trans ?_ h
 rw [List.length_cons, Nat.pow_succ, Nat.mul_comm _ 36, <- Nat.mul_assoc, Nat.mul_comm q 36]
 exact Nat.mul_le_mul_right _ hq
theorem slice136 (w : World) (p i : Nat) (hi : i < 65) : (Instr.sliceAt 255 (.pointer (some ⟨p, 0, none⟩)) (some (.int .i64 (i : Int))) none none).run Tryz.prog w = .ok (.slice (some ⟨p, i, none⟩) (65 - i) (65 - i)) w := by
 have hl : Tryz.prog.arrayLen 255 = 65 := by kernel_rfl
 have h := run_sliceAt_array_l (P := Tryz.prog) w 255 ⟨p, 0, none⟩ (by kernel_rfl) .i64 (i : Int) (by omega) (by rw [hl]; omega)
 rw [hl] at h
 rw [h]
 have he : Tryz.prog.elem 255 = 5 := by kernel_rfl
 rw [he, Tryz.sizeOf5]
 simp only [Result.andThen, slicedAt, Int.toNat_natCast, Nat.mul_one]
 rw [if_neg (by omega)]
 have ha : (⟨p, 0, none⟩ : Addr).add i = ⟨p, i, none⟩ := by unfold Addr.add; split <;> simp_all
 rw [ha]
theorem Digs.conv {w : World} {p i : Nat} {tl : List Nat} (h : Digs w p i tl) (m c : Nat) (hm : m = tl.length) : (convert 31 9 (.slice (some ⟨p, i, none⟩) m c)).run Tryz.prog w = .ok (.string (strOf tl)) w := by
 subst hm
 have := run_convert_bytes_arg (P := Tryz.prog) w 31 5 Tryz.underlying31 Tryz.underlying5 p i tl.length c (tl.map fun (x : Nat) => (x : Int)) (by simp) (fun j hj => by
  rw [h.cell (gE1 hj)]
  simp [hj]) 9 Tryz.underlying9
 rw [this]
 simp [strOfNums, strOf, Function.comp_def]
theorem pow72  (w : World) : Calls Tryz.prog 172 #[.int .i64 36] w fun e w1 => e = .returned (.bool false) /\ w = w1 := by
 refine Zn1 8 Tryz.func172 fun fr hf s0 => ?_
 refine Ze fun _ hK1 => Zr [] hf ?_
 refine Zq1 0 hf ?_
 clear hf s0; intro fr1 hf s0
 refine Zs hK1 fun _ hK2 => Zr [3, 4, 5, 6, 7] hf ?_
 refine Zq1 2 hf ?_
 clear hf s0; intro fr1 hf s2
 refine Zx hK2 (Zret ?_)
 exact Fact.ret1 rfl hf s2 ⟨rfl, rfl⟩
theorem bits68 (u : Nat) (hu : u < 18446744073709551616) (w : World) : Calls Tryz.prog 166 #[.slice none 0 0, .int .u64 u, .int .i64 36, .bool false, .bool false] w fun e w1 => e = .returned (.tuple #[.slice none 0 0, .string (strOf (dig u))]) /\ Below w.heap.size w w1 := by
 refine Zn5 102 Tryz.func166 fun fr hf s0 s1 s2 s3 s4 => ?_
 refine Ze fun _ hK1 => Zr [] hf ?_
 refine Zq7 0 1 2 3 4 10 11 hf ?_
 clear hf s0 s1 s2 s3 s4; intro fr1 hf sS
 refine Zs hK1 fun _ hK2 => Ze fun _ hK3 => Zr [19, 20, 21, 22, 23, 24, 25, 26, 27] hf ?_
 refine Zq8 0 1 2 3 4 10 11 28 hf ?_
 clear hf sS; intro fr1 hf sS
 refine Zx hK3 (Fact.cond_f sS.2.2.2.2.2.2.2 ?_)
 refine wp_skip (Zs hK2 fun _ hK4 => Zr [] hf ?_)
 refine Zq8 0 1 2 3 4 10 11 12 hf ?_
 clear hf sS; intro fr1 hf sS
 generalize hW0 : w.alloc (.cells Tryz.zeroCells255 255) = W0
 have hb0 : Below w.heap.size w W0 := by rw [<- hW0]; exact (Below.refl _ _).alloc (Nat.le_refl _) _
 have hd0 : Digs W0 w.heap.size 65 [] := by rw [<- hW0]; exact Digs.start w
 clear hW0
 refine Zs hK4 fun _ hK5 => Zr [] hf ?_
 refine Zq9 0 1 2 3 4 10 11 12 13 hf ?_
 clear hf sS; intro fr1 hf sS
 refine Zs hK5 fun _ hK6 => Ze fun _ hK7 => Zr [] hf ?_
 refine Zq10 0 1 2 3 4 10 11 12 13 30 hf ?_
 clear hf sS; intro fr1 hf sS
 refine Zx hK7 (Fact.cond_f sS.2.2.2.2.2.2.2.2.2 ?_)
 refine wp_skip (Zs hK6 fun _ hK8 => Ze fun _ hK9 => rg ?_)
 have bB := hf.b 33
 refine Zy ?_
 refine Zc (pow72 W0) ?_; rintro e w2 ⟨rfl, rfl⟩
 refine Zv ?_
 refine Fact.nil (Zq10 0 1 2 3 4 10 11 12 13 34 hf ?_)
 clear hf sS bB; intro fr1 hf sS
 refine Zx hK9 (Fact.cond_f sS.2.2.2.2.2.2.2.2.2 ?_)
 refine Ze fun _ hK10 => Zr [64, 65] hf ?_
 refine Zq9 0 1 3 4 10 11 12 13 17 hf ?_
 clear hf sS; intro fr1 hf sS
 refine Zs hK10 fun _ hK11 => wp_block (wp_loop_ghost (fun gk fr wr => ∃ (i v : Nat) (tl : List Nat), gk = v /\ Fact.Fr 102 fr /\ fr.tmps[3]? = some (.bool false) /\ fr.tmps[4]? = some (.bool false) /\ fr.tmps[10]? = some (.slice none 0 0) /\ fr.tmps[12]? = some (.pointer (some ⟨w.heap.size, 0, none⟩)) /\ fr.tmps[17]? = some (.int .u64 36) /\ fr.tmps[1]? = some (.int .u64 v) /\ fr.tmps[13]? = some (.int .i64 i) /\ Digs wr w.heap.size i tl /\ dig u = dig v ++ tl /\ v * 36 ^ tl.length <= u /\ tl.length <= 12 /\ Below w.heap.size w wr) (u) ?_ ?_)
 . (
 obtain ⟨s0, s1, s3, s4, s10, s11, s12, s13, s17⟩ := sS
 exact ⟨65, u, [], rfl, hf, s3, s4, s10, s12, s17, s1, s13, hd0, by simp, by simp, by simp, hb0⟩)
 . (
 clear hf sS
 rintro gk fr wr ⟨i, v, tl, hk, hf, s3, s4, s10, s12, s17, s1, s13, hd, hdig, hle, h12, hb⟩
 have HK := Lib.hid hk; have HD := Lib.hid hdig; have HL := Lib.hid hle; have hsz := Lib.hid hd.size
 have hi64 : i <= 65 := by have := hd.size; omega
 have hfz := hd.frozen
 clear hk hdig hle
 refine Ze fun _ hK12 => Ze fun _ hK13 => Zr [66, 67] hf ?_
 refine Zq8 1 3 4 10 12 13 17 68 hf ?_
 clear hf s1 s3 s4 s10 s12 s13 s17; intro fr1 hf sS
 refine Zx hK13 (Fact.cond_s sS.2.2.2.2.2.2.2 (fun hq => ?_) (fun hq => ?_))
 . (
 have hv36 : 36 <= v := by have h9 := of_decide_eq_true hq; omega
 have hv64 : v < 18446744073709551616 := by have := Nat.le_mul_of_pos_right v (Nat.pow_pos (n := tl.length) (show 0 < 36 by omega)); have := HL.out; omega
 have hi1 : 40 <= i := by have := hsz.out; omega
 have hdv : ((v : Int).tdiv 36) = ((v / 36 : Nat) : Int) := by rfl
 obtain ⟨q, hq2⟩ : ∃ q, v / 36 = q := ⟨_, rfl⟩
 have hqv : 36 * q <= v /\ v < 36 * q + 36 := by omega
 rw [hq2] at hdv
 have HQ := Lib.hid hq2; clear hq2
 obtain ⟨d, hdd⟩ : ∃ d, v - 36 * q = d := ⟨_, rfl⟩
 have hd36 : d < 36 := by omega
 have hdi : (v : Int) - (q : Int) * 36 = (d : Int) := by omega
 have HDD := Lib.hid hdd; have HDI := Lib.hid hdi; clear hdd hdi
 have hst := hd.put (dg d) (by omega)
 obtain ⟨vx, hvx⟩ := hd.any (j := i - 1) (by omega)
 have hii : (i : Int) - 1 = ((i - 1 : Nat) : Int) := by omega
 refine wp_skip (Zx hK12 (wp_block (Ze fun _ hK14 => rg ?_)))
 have bB := hf.B2 69 70
 refine Zy ?_
 refine fp fun K Z => ?_
 go_simp
 try simp (disch := omega) only [Fact.W]
 try rw [hii]
 apply Z.out; clear Z K
 refine Zy ?_
 refine Fact.nil (Zq7 1 3 4 10 12 13 17 hf ?_)
 clear hf sS bB; intro fr1 hf sS
 refine Zt hK14 fun _ hK15 => ?_
 have bB := hf.B3 71 72 73
 iterate 2 refine Zy ?_
 refine fp fun K Z => ?_
 go_simp
 try rw [hdv]
 try simp (disch := omega) only [Fact.wrap_u64]
 apply Z.out; clear Z K
 refine Zy ?_
 refine Fact.nil (Zq8 1 3 4 10 12 13 17 18 hf ?_)
 clear hf sS bB; intro fr1 hf sS
 refine Zt hK15 fun _ hK16 => ?_
 have bB := hf.B8 74 75 76 77 78 79 80 81
 iterate 5 refine Zy ?_
 refine fp fun K Z => ?_
 go_simp
 try simp (disch := omega) only [Fact.W]
 rw [HDI.out]
 apply Z.out; clear Z K
 refine fp fun K Z => ?_
 go_simp
 rw [dif_pos (by omega)]
 rw [dig_index d hd36]
 apply Z.out; clear Z K
 iterate 2 refine Zy ?_
 refine Fact.nil (Zq7 3 4 10 12 13 17 18 hf ?_)
 clear hf sS bB; intro fr1 hf sS
 refine Zx hK16 (Zr [82] hf ?_)
 refine Zq7 1 3 4 10 12 13 17 hf ?_
 clear hf sS; intro fr1 hf sS
 refine Fact.block_normal (Fact.then_normal ?_)
 have hrs := room_step (dg d) HL.out hqv.1
 obtain ⟨s1, s3, s4, s10, s12, s13, s17⟩ := sS
 exact ⟨_, by have := HK.out; omega, i - 1, q, dg d :: tl, rfl, hf, s3, s4, s10, s12, s17, s1, s13, hst, dig_step HD.out hv36 HQ.out HDD.out, hrs, dig_room hrs hu (by omega), hb.setCell (Nat.le_refl _) _⟩)
 . (
 have hv36 : v < 36 := by have h9 := of_decide_eq_false hq; omega
 have hi1 : 40 <= i := by have := hsz.out; omega
 have hii : (i : Int) - 1 = ((i - 1 : Nat) : Int) := by omega
 have hst := hd.put (dg v) (by omega)
 obtain ⟨vx, hvx⟩ := hd.any (j := i - 1) (by omega)
 refine Zo ?_
 refine Zt hK11 fun _ hK17 => ?_
 have bB := hf.B2 83 84
 refine Zy ?_
 refine fp fun K Z => ?_
 go_simp
 try simp (disch := omega) only [Fact.W]
 try rw [hii]
 apply Z.out; clear Z K
 refine Zy ?_
 refine Fact.nil (Zq6 1 3 4 10 12 13 hf ?_)
 clear hf sS bB; intro fr1 hf sS
 refine Zx hK17 (rg ?_)
 have bB := hf.B4 85 86 87 88
 iterate 2 refine Zy ?_
 refine fp fun K Z => ?_
 go_simp
 rw [dif_pos (by omega)]
 rw [dig_index v hv36]
 apply Z.out; clear Z K
 iterate 2 refine Zy ?_
 refine Fact.nil (Zq5 3 4 10 12 13 hf ?_)
 clear hf sS bB; intro fr1 hf sS
 refine Zs hK8 fun _ hK18 => Ze fun _ hK19 => Zr [] hf ?_
 refine Zq5 4 10 12 13 89 hf ?_
 clear hf sS; intro fr1 hf sS
 refine Zx hK19 (Fact.cond_f sS.2.2.2.2 ?_)
 refine wp_skip (Zs hK18 fun _ hK20 => Ze fun _ hK21 => Zr [] hf ?_)
 refine Zq4 10 12 13 94 hf ?_
 clear hf sS; intro fr1 hf sS
 refine Zx hK21 (Fact.cond_f sS.2.2.2 ?_)
 refine wp_skip (Zt hK20 fun _ hK22 => ?_)
 have bB := hf.B3 99 100 101
 refine Zy ?_
 refine fp fun K Z => ?_
 go_simp
 rw [slice136 _ _ _ (by omega)]
 apply Z.out; clear Z K
 refine fp fun K Z => ?_
 go_simp
 rw [hst.conv _ _ (by simp only [List.length_cons]; have := hsz.out; omega)]
 apply Z.out; clear Z K
 refine Zy ?_
 refine Fact.nil (Zq2 10 11 hf ?_)
 clear hf sS bB; intro fr1 hf sS
 refine Zx hK22 (Zret ?_)
 have hdg : dig u = dg v :: tl := by rw [HD.out, dig, dif_pos hv36]; rfl
 exact Fact.ret2 rfl hf sS.1 sS.2 ⟨by rw [hdg], hb.setCell (Nat.le_refl _) _⟩))
theorem fmt63 (u : Nat) (hu : u < 18446744073709551616) (w : World) : Calls Tryz.prog 155 #[.int .u64 u, .int .i64 36] w fun e w1 => e = .returned (.string (strOf (dig u))) /\ Below w.heap.size w w1 := by
 refine Zn2 32 Tryz.func155 fun fr hf s0 s1 => ?_
 refine Ze fun _ hK1 => Zr [] hf ?_
 refine Zq2 0 1 hf ?_
 clear hf s0 s1; intro fr1 hf sS
 refine Zs hK1 fun _ hK2 => Ze fun _ hK3 => Zr [9] hf ?_
 refine Zq3 0 1 10 hf ?_
 clear hf sS; intro fr1 hf sS
 refine Zx hK3 (Fact.cond_f sS.2.2 ?_)
 refine wp_skip (Zt hK2 fun _ hK4 => ?_)
 have bB := hf.B6 26 27 28 25 29 30
 iterate 2 refine Zy ?_
 refine Zc (bits68 u hu w) ?_; rintro e w1 ⟨rfl, hb⟩
 refine Zv ?_
 iterate 5 refine Zy ?_
 refine Fact.nil (Zq1 8 hf ?_)
 clear hf sS bB; intro fr1 hf s8
 refine Zs hK4 fun _ hK5 => Zr [31] hf ?_
 refine Zq1 4 hf ?_
 clear hf s8; intro fr1 hf s4
 refine Zx hK5 (Zret ?_)
 exact Fact.ret1 rfl hf s4 ⟨rfl, hb⟩
theorem fmt57 (u : Nat) (hu : u < 18446744073709551616) (w : World) : Calls Tryz.prog 135 #[.int .u64 u, .int .i64 36] w fun e w1 => e = .returned (.string (strOf (dig u))) /\ Below w.heap.size w w1 := by
 refine Zn2 8 Tryz.func135 fun fr hf s0 s1 => ?_
 refine Ze fun _ hK1 => Zr [] hf ?_
 refine Zq2 0 1 hf ?_
 clear hf s0 s1; intro fr1 hf sS
 refine Zt hK1 fun _ hK2 => ?_
 have bB := hf.B3 5 6 7
 iterate 2 refine Zy ?_
 refine Zc (fmt63 u hu w) ?_; rintro e w1 ⟨rfl, hb⟩
 refine Zv ?_
 refine Zy ?_
 refine Fact.nil (Zq1 4 hf ?_)
 clear hf sS bB; intro fr1 hf s4
 refine Zx hK2 (Zret ?_)
 exact Fact.ret1 rfl hf s4 ⟨rfl, hb⟩
theorem num55 (w : World) (B b : Nat) (l : List Nat) (u : Nat) (hu : u < 18446744073709551616) (hB : Lib.IsBuilder 111 5 B b (Lib.byteCells (bs l)) w) (hBw : B <= w.heap.size) (hl : l.length <= 1000000) : Calls Tryz.prog 134 #[.int .u64 u, .pointer (some ⟨b, 0, none⟩)] w fun e w1 => e = .returned (.tuple #[]) /\ Lib.IsBuilder 111 5 B b (Lib.byteCells (bs (l ++ num u))) w1 /\ Below B w w1 /\ Lib.OthersKept 5 (some b) w w1 := by
 refine Zn2 7 Tryz.func134 fun fr hf s0 s1 => ?_
 refine Ze fun _ hK1 => rg ?_
 have bB := hf.B2 3 4
 refine Zy ?_
 refine Zc (fmt57 u hu w) ?_; rintro e w1 ⟨rfl, hb1⟩
 have hB1 := build_later hB hb1
 refine Zv ?_
 refine Zc (writeS_any B b _ (strOf (dig u)) w1 hB1 (by rw [byteCells_length, strOf_size]; have := dig_length u hu; omega) (by have := hb1.size; omega)) ?_; rintro e w2 ⟨rfl, hB2, hb2, hk2⟩
 refine Zv ?_
 refine Fact.nil (Zq1 1 hf ?_)
 clear hf s0 s1 bB; intro fr1 hf s1
 refine Zx hK1 (rg ?_)
 refine Zc (write_any B b _ 32 w2 (.inr hB2) (by rw [List.length_append, byteCells_length, Lib.strCells_length, strOf_size]; have := dig_length u hu; omega) (by have := hb1.size; have := hb2.size; omega)) ?_; rintro e w3 ⟨rfl, hB3, hb3, hk3⟩
 refine Zv ?_
 refine Fact.nil (Zq0 hf ?_)
 clear hf s1; intro fr1 hf
 refine Fact.end0 rfl hf ⟨rfl, .inr ?_, ((hb1.mono hBw).trans hb2).trans hb3, ((others_below _ _ hb1).trans hk2).trans hk3⟩
 rw [num_cells] at hB3
 exact hB3
def keyN (s : State) (i : Nat) : List Nat := (if s.final then [33] else []) ++ num s.out ++ (s.arcs.take i).flatMap fun a => num a.byte ++ num a.out ++ num a.to.toNat
def keyL (s : State) : List Nat := keyN s s.arcs.length
theorem keyN_zero (s : State) : keyN s 0 = (if s.final then [33] else []) ++ num s.out := by simp [keyN]
theorem keyN_succ {s : State} {i : Nat} {a : Arc} (h : s.arcs[i]? = some a) : keyN s (i + 1) = keyN s i ++ num a.byte ++ num a.out ++ num a.to.toNat := by
 have ht : s.arcs.take (i + 1) = s.arcs.take i ++ [a] := by rw [List.take_add_one, h]; rfl
 simp [keyN, ht]
theorem keyN_room {s : State} {i n : Nat} (hos : okS s) (hal : s.arcs.length <= 256) (hi : i <= s.arcs.length) (hn : n <= 28) : (keyN s i).length + n <= 1000000 := by
 have h1 : ∀ l : List Arc, (∀ a ∈ l, okA a) -> (l.flatMap fun a => num a.byte ++ num a.out ++ num a.to.toNat).length <= l.length * 42 := by
  intro l
  induction l with
  | nil => simp
  | cons a l ih =>
   intro h
   have h2 := h a (List.mem_cons_self ..)
   have h3 := num_length a.byte (by have := h2.1; omega)
   have h4 := num_length a.out h2.2.1
   have h5 := num_length a.to.toNat (by have := h2.2.2.2; omega)
   have h6 := ih (fun x hx => h x (List.mem_cons_of_mem _ hx))
   simp only [List.flatMap_cons, List.length_append, List.length_cons]
   omega
 have h2 := h1 (s.arcs.take i) (fun a ha => hos.2.2 a (List.mem_of_mem_take ha))
 have h3 := num_length s.out hos.1
 have h4 : (s.arcs.take i).length <= 256 := by simp; omega
 have h5 : (if s.final then [33] else ([] : List Nat)).length <= 1 := by split <;> simp
 unfold keyN
 simp only [List.length_append] at h2 |-
 omega
theorem others_at {w w' : World} {b k : Nat} {cs : Array Value} {t : TypeId} {fr : Nat × Nat} (hk : Lib.OthersKept 5 (some b) w w') (h : w.heap[k]? = some (.cells cs t fr)) (ht : t ≠ 5) (hb : k ≠ b) : w'.heap[k]? = some (.cells cs t fr) :=
 hk k _ h (fun e => hb (by injection e)) (fun c fz e => ht (by injection e))
theorem key49 (w : World) (s : State) (B : Nat -> Prop) (av : Value) (hra : RA w B av s.arcs) (hos : okS s) (hto0 : ∀ a ∈ s.arcs, 0 <= a.to) (hal : s.arcs.length <= 256) : Calls Tryz.prog 92 #[sval av s] w fun e w1 => e = .returned (.string (strOf (keyL s))) /\ Below w.heap.size w w1 := by
 refine Zn1 38 Tryz.func92 fun fr hf s0 => ?_
 have ha := hra
 obtain ⟨A, cc, rfl, hcc⟩ := ha.form
 have hos1 := hos.1
 have HT := Lib.hid hto0; clear hto0
 simp only [sval] at s0
 refine Ze fun _ hK1 => Zr [] hf ?_
 refine Zq1 1 hf ?_
 clear hf s0; intro fr1 hf s1
 generalize hW0 : w.alloc (.cells #[.slice A s.arcs.length cc, .bool s.final, .int .u64 s.out] 46) = W0
 obtain ⟨hb0, c0, c1, c2, -, hz0_⟩ := box3 hW0
 clear hW0
 have hz0 : w.heap.size < W0.heap.size := by rw [hz0_]; exact Nat.lt_succ_self _
 clear hz0_
 have ha0 := ha.later hb0
 refine Zs hK1 fun _ hK2 => Zr [] hf ?_
 refine Zq2 1 3 hf ?_
 clear hf s1; intro fr1 hf sS
 generalize hW1 : W0.alloc (.cells #[.pointer none, .slice none 0 0] 111) = W1
 have hB0 := fresh W0; rw [hW1] at hB0
 have hb1 : Below W0.heap.size W0 W1 := by rw [<- hW1]; exact (Below.refl _ _).alloc (Nat.le_refl _) _
 have hlt1 : W0.heap.size <= W1.heap.size := hb1.size
 clear hW1
 replace c0 := cL hb1 c0; replace c1 := cL hb1 c1; replace c2 := cL hb1 c2; have ha1 := ha0.later hb1
 have hbB : Below W0.heap.size W0 W1 := hb1
 refine Zs hK2 fun _ hK3 => Zr [7] hf ?_
 refine Zq3 1 3 4 hf ?_
 clear hf sS; intro fr1 hf sS
 refine Zs hK3 fun _ hK4 => Ze fun _ hK5 => Zr [8] hf ?_
 refine Zq4 1 3 4 9 hf ?_
 clear hf sS; intro fr1 hf sS
 refine Zx hK5 ?_
 rcases hfin : s.final with _ | _
 . (
 obtain ⟨s1, s3, s4, s9⟩ := sS
 try rw [hfin] at s9
 refine Fact.cond_f s9 ?_
 obtain ⟨w2, hw2⟩ : ∃ w2, w2 = W1 := ⟨_, rfl⟩
 have hI2 : Lib.IsBuilder 111 5 W0.heap.size W0.heap.size (Lib.byteCells (bs (if s.final then [33] else []))) w2 := by rw [hfin, hw2]; exact hB0
 have hb2 : Below W0.heap.size W1 w2 := by rw [hw2]; exact Below.refl _ _
 try rw [<- hw2]
 clear hw2
 refine wp_skip (Zs hK4 fun _ hK6 => ?_)
 have d0 := old_cell hb2 c0 (show w.heap.size < W0.heap.size by omega); have d2 := old_cell hb2 c2 (show w.heap.size < W0.heap.size by omega)
 refine rg ?_
 have bB := hf.B3 11 12 13
 iterate 3 refine Zy ?_
 refine Zc (num55 w2 W0.heap.size W0.heap.size _ s.out hos1 hI2 (by have := hb2.size; omega) (by split <;> simp)) ?_; rintro e w3 ⟨rfl, hI3, hb3, -⟩
 refine Zv ?_
 refine Fact.nil (Zq3 1 3 4 hf ?_)
 clear hf s1 s3 s4 s9 bB; intro fr1 hf sS
 have d3 := old_cell hb3 d0 (show w.heap.size < W0.heap.size by omega)
 have hbW := (hbB.trans hb2).trans hb3
 refine Zs hK6 fun _ hK7 => Ze fun _ hK8 => Zr [15, 16] hf ?_
 refine Zq5 3 4 16 17 18 hf ?_
 clear hf sS; intro fr1 hf sS
 refine Zx hK8 (wp_block ?_)
 clear d0 d2 d3 c0 c1 c2
 refine wp_loop_ghost (fun gk fr wr => ∃ (i : Nat), gk = s.arcs.length - i /\ i <= s.arcs.length /\ Fact.Fr 38 fr /\ fr.tmps[3]? = some (.pointer (some ⟨W0.heap.size, 0, none⟩)) /\ fr.tmps[4]? = some (.func (.func 134) #[] #[.pointer (some ⟨W0.heap.size, 0, none⟩)]) /\ fr.tmps[16]? = some (.slice A s.arcs.length cc) /\ fr.tmps[17]? = some (.int .i64 s.arcs.length) /\ fr.tmps[18]? = some (.int .i64 i) /\ Lib.IsBuilder 111 5 W0.heap.size W0.heap.size (Lib.byteCells (bs (keyN s i))) wr /\ Below W0.heap.size W0 wr) (s.arcs.length) ?_ ?_
 . (
 obtain ⟨s3, s4, s16, s17, s18⟩ := sS
 exact ⟨0, rfl, Nat.zero_le _, hf, s3, s4, s16, s17, s18, by rw [keyN_zero]; exact hI3, hbW⟩)
 . (
 clear hf sS
 rintro gk fr wr ⟨i, hk, hi, hf, s3, s4, s16, s17, s18, hI, hb⟩
 have HK := Lib.hid hk; clear hk
 refine Ze fun _ hK9 => Zr [] hf ?_
 refine Zq6 3 4 16 17 18 19 hf ?_
 clear hf s3 s4 s16 s17 s18; intro fr1 hf sS
 refine Zs hK9 fun _ hK10 => Fact.cond_s sS.2.2.2.2.2 (fun hq => ?_) (fun hq => ?_)
 . (
 have hlt2 : i < s.arcs.length := by have h9 := of_decide_eq_true hq; omega
 obtain ⟨a, hia⟩ : ∃ a, s.arcs[i]? = some a := ⟨_, gE1 hlt2⟩
 obtain ⟨b, off, rfl, hbl, e0, e1, e2⟩ := (ha0.later hb).at' hia
 have haa := hos.2.2 a (gM1 hia)
 have hto := HT.out a (gM1 hia)
 have HIA := Lib.hid hia; clear hia
 have ha64 := haa.2.1; have hab := haa.1; have hat := haa.2.2.2
 obtain ⟨t, ht⟩ : ∃ t : Nat, a.to = (t : Int) := ⟨a.to.toNat, by omega⟩
 have ht2 : a.to.toNat = t := by omega
 rw [ht] at e2
 have HTT := Lib.hid ht2
 rw [ht] at hat
 clear ht ht2 hto haa
 refine wp_skip (Zs hK10 fun _ hK11 => wp_block (Ze fun _ hK12 => Zr [20, 21, 6] hf ?_))
 refine Zq6 3 4 6 16 17 18 hf ?_
 clear hf sS; intro fr1 hf sS
 generalize hW5 : wr.alloc (.cells #[.int .u8 a.byte, .int .u64 a.out, .int .i64 t] 71) = W5
 obtain ⟨hb5, f0, -, -, hp5, hz5_⟩ := box3 hW5
 clear hW5
 have hz5 : wr.heap.size < W5.heap.size := by rw [hz5_]; exact Nat.lt_succ_self _
 clear hz5_
 clear e0 e1 e2 hbl
 have hI5 := build_later hI hb5
 have hWr := hb.size
 have hpb : wr.heap.size ≠ W0.heap.size := by have := hI.elim (fun x => x.lt) (fun x => x.lt); omega
 refine Zt hK12 fun _ hK13 => ?_
 have bB := hf.B4 22 23 24 25
 iterate 3 refine Zy ?_
 refine fp fun K Z => ?_
 go_simp
 try simp (disch := omega) only [Fact.wrap_u64]
 apply Z.out; clear Z K
 refine Zc (num55 W5 W0.heap.size W0.heap.size _ a.byte (by omega) hI5 (by omega) (keyN_room hos hal (Nat.le_of_lt hlt2) (Nat.zero_le _))) ?_; rintro e w6 ⟨rfl, hI6, hb6, hk6⟩
 refine Zv ?_
 refine Fact.nil (Zq6 3 4 6 16 17 18 hf ?_)
 clear hf sS bB; intro fr1 hf sS
 have hp6 := others_at hk6 hp5 (by decide) hpb
 have g1 := cR1 1 hp6
 simp at g1
 clear f0 hp5
 refine Zt hK13 fun _ hK14 => ?_
 have bB := hf.B3 27 28 29
 iterate 3 refine Zy ?_
 refine Zc (num55 w6 W0.heap.size W0.heap.size _ a.out ha64 hI6 (by have := hb6.size; omega) (by rw [List.length_append]; exact keyN_room hos hal (Nat.le_of_lt hlt2) (by have := num_length a.byte (by omega); omega))) ?_; rintro e w7 ⟨rfl, hI7, hb7, hk7⟩
 refine Zv ?_
 refine Fact.nil (Zq6 3 4 6 16 17 18 hf ?_)
 clear hf sS bB; intro fr1 hf sS
 have hp7 := others_at hk7 hp6 (by decide) hpb
 have g2 := cR1 2 hp7
 simp at g2
 clear g1 hp6
 refine Zx hK14 (rg ?_)
 have bB := hf.B4 31 32 33 34
 iterate 3 refine Zy ?_
 refine fp fun K Z => ?_
 go_simp
 try simp (disch := omega) only [Fact.wrap_u64]
 apply Z.out; clear Z K
 refine Zc (num55 w7 W0.heap.size W0.heap.size _ t (by omega) hI7 (by have := hb6.size; have := hb7.size; omega) (by rw [List.length_append, List.length_append, Nat.add_assoc]; exact keyN_room hos hal (Nat.le_of_lt hlt2) (by have := num_length a.byte (by omega); have := num_length a.out ha64; omega))) ?_; rintro e w8 ⟨rfl, hI8, hb8, hk8⟩
 refine Zv ?_
 refine Fact.nil (Zq5 3 4 16 17 18 hf ?_)
 clear hf sS bB; intro fr1 hf sS
 refine Fact.block_normal (Zx hK11 (Zr [36] hf ?_))
 refine Zq5 3 4 16 17 18 hf ?_
 clear hf sS; intro fr1 hf sS
 refine Fact.then_normal ?_
 obtain ⟨s3, s4, s16, s17, s18⟩ := sS
 exact ⟨_, by have := HK.out; omega, i + 1, rfl, by omega, hf, s3, s4, s16, s17, by rw [s18]; rfl, by rw [keyN_succ HIA.out, HTT.out]; exact hI8, (((hb.trans (hb5.mono hb.size)).trans hb6).trans hb7).trans hb8⟩)
 . (
 have hie : i = s.arcs.length := by have h9 := of_decide_eq_false hq; omega
 subst hie
 refine Zo ?_
 refine Zt hK7 fun _ hK15 => ?_
 have bB := hf.b 37
 refine Zc (Tryz.Builder_String_any W0.heap.size W0.heap.size _ wr hI hb.size) ?_; rintro e w9 ⟨rfl, hb9⟩
 refine Zv ?_
 refine Zy ?_
 refine Fact.nil (Zq1 2 hf ?_)
 clear hf sS bB; intro fr1 hf s2
 refine Zx hK15 (Zret ?_)
 exact Fact.ret1 rfl hf s2 ⟨rfl, (hb0.trans (hb.mono hb0.size)).trans (hb9.mono hb0.size)⟩)))
 . (
 obtain ⟨s1, s3, s4, s9⟩ := sS
 try rw [hfin] at s9
 refine Fact.cond_t s9 ?_
 refine rg ?_
 refine Zc (write_any W0.heap.size W0.heap.size (Lib.byteCells (bs [])) 33 W1 hB0 (by simp [bs, Lib.byteCells]) hlt1) ?_; rintro e w2 ⟨rfl, hB2, hb2, -⟩
 have hI2 : Lib.IsBuilder 111 5 W0.heap.size W0.heap.size (Lib.byteCells (bs (if s.final then [33] else []))) w2 := by rw [hfin]; exact .inr hB2
 refine Zv ?_
 refine Fact.nil (Zq3 1 3 4 hf ?_)
 clear hf s1 s3 s4 s9; intro fr1 hf sS
 refine Zs hK4 fun _ hK16 => ?_
 have d0 := old_cell hb2 c0 (show w.heap.size < W0.heap.size by omega); have d2 := old_cell hb2 c2 (show w.heap.size < W0.heap.size by omega)
 refine rg ?_
 have bB := hf.B3 11 12 13
 iterate 3 refine Zy ?_
 refine Zc (num55 w2 W0.heap.size W0.heap.size _ s.out hos1 hI2 (by have := hb2.size; omega) (by split <;> simp)) ?_; rintro e w3 ⟨rfl, hI3, hb3, -⟩
 refine Zv ?_
 refine Fact.nil (Zq3 1 3 4 hf ?_)
 clear hf sS bB; intro fr1 hf sS
 have d3 := old_cell hb3 d0 (show w.heap.size < W0.heap.size by omega)
 have hbW := (hbB.trans hb2).trans hb3
 refine Zs hK16 fun _ hK17 => Ze fun _ hK18 => Zr [15, 16] hf ?_
 refine Zq5 3 4 16 17 18 hf ?_
 clear hf sS; intro fr1 hf sS
 refine Zx hK18 (wp_block ?_)
 clear d0 d2 d3 c0 c1 c2
 refine wp_loop_ghost (fun gk fr wr => ∃ (i : Nat), gk = s.arcs.length - i /\ i <= s.arcs.length /\ Fact.Fr 38 fr /\ fr.tmps[3]? = some (.pointer (some ⟨W0.heap.size, 0, none⟩)) /\ fr.tmps[4]? = some (.func (.func 134) #[] #[.pointer (some ⟨W0.heap.size, 0, none⟩)]) /\ fr.tmps[16]? = some (.slice A s.arcs.length cc) /\ fr.tmps[17]? = some (.int .i64 s.arcs.length) /\ fr.tmps[18]? = some (.int .i64 i) /\ Lib.IsBuilder 111 5 W0.heap.size W0.heap.size (Lib.byteCells (bs (keyN s i))) wr /\ Below W0.heap.size W0 wr) (s.arcs.length) ?_ ?_
 . (
 obtain ⟨s3, s4, s16, s17, s18⟩ := sS
 exact ⟨0, rfl, Nat.zero_le _, hf, s3, s4, s16, s17, s18, by rw [keyN_zero]; exact hI3, hbW⟩)
 . (
 clear hf sS
 rintro gk fr wr ⟨i, hk, hi, hf, s3, s4, s16, s17, s18, hI, hb⟩
 have HK := Lib.hid hk; clear hk
 refine Ze fun _ hK19 => Zr [] hf ?_
 refine Zq6 3 4 16 17 18 19 hf ?_
 clear hf s3 s4 s16 s17 s18; intro fr1 hf sS
 refine Zs hK19 fun _ hK20 => Fact.cond_s sS.2.2.2.2.2 (fun hq => ?_) (fun hq => ?_)
 . (
 have hlt2 : i < s.arcs.length := by have h9 := of_decide_eq_true hq; omega
 obtain ⟨a, hia⟩ : ∃ a, s.arcs[i]? = some a := ⟨_, gE1 hlt2⟩
 obtain ⟨b, off, rfl, hbl, e0, e1, e2⟩ := (ha0.later hb).at' hia
 have haa := hos.2.2 a (gM1 hia)
 have hto := HT.out a (gM1 hia)
 have HIA := Lib.hid hia; clear hia
 have ha64 := haa.2.1; have hab := haa.1; have hat := haa.2.2.2
 obtain ⟨t, ht⟩ : ∃ t : Nat, a.to = (t : Int) := ⟨a.to.toNat, by omega⟩
 have ht2 : a.to.toNat = t := by omega
 rw [ht] at e2
 have HTT := Lib.hid ht2
 rw [ht] at hat
 clear ht ht2 hto haa
 refine wp_skip (Zs hK20 fun _ hK21 => wp_block (Ze fun _ hK22 => Zr [20, 21, 6] hf ?_))
 refine Zq6 3 4 6 16 17 18 hf ?_
 clear hf sS; intro fr1 hf sS
 generalize hW5 : wr.alloc (.cells #[.int .u8 a.byte, .int .u64 a.out, .int .i64 t] 71) = W5
 obtain ⟨hb5, f0, -, -, hp5, hz5_⟩ := box3 hW5
 clear hW5
 have hz5 : wr.heap.size < W5.heap.size := by rw [hz5_]; exact Nat.lt_succ_self _
 clear hz5_
 clear e0 e1 e2 hbl
 have hI5 := build_later hI hb5
 have hWr := hb.size
 have hpb : wr.heap.size ≠ W0.heap.size := by have := hI.elim (fun x => x.lt) (fun x => x.lt); omega
 refine Zt hK22 fun _ hK23 => ?_
 have bB := hf.B4 22 23 24 25
 iterate 3 refine Zy ?_
 refine fp fun K Z => ?_
 go_simp
 try simp (disch := omega) only [Fact.wrap_u64]
 apply Z.out; clear Z K
 refine Zc (num55 W5 W0.heap.size W0.heap.size _ a.byte (by omega) hI5 (by omega) (keyN_room hos hal (Nat.le_of_lt hlt2) (Nat.zero_le _))) ?_; rintro e w6 ⟨rfl, hI6, hb6, hk6⟩
 refine Zv ?_
 refine Fact.nil (Zq6 3 4 6 16 17 18 hf ?_)
 clear hf sS bB; intro fr1 hf sS
 have hp6 := others_at hk6 hp5 (by decide) hpb
 have g1 := cR1 1 hp6
 simp at g1
 clear f0 hp5
 refine Zt hK23 fun _ hK24 => ?_
 have bB := hf.B3 27 28 29
 iterate 3 refine Zy ?_
 refine Zc (num55 w6 W0.heap.size W0.heap.size _ a.out ha64 hI6 (by have := hb6.size; omega) (by rw [List.length_append]; exact keyN_room hos hal (Nat.le_of_lt hlt2) (by have := num_length a.byte (by omega); omega))) ?_; rintro e w7 ⟨rfl, hI7, hb7, hk7⟩
 refine Zv ?_
 refine Fact.nil (Zq6 3 4 6 16 17 18 hf ?_)
 clear hf sS bB; intro fr1 hf sS
 have hp7 := others_at hk7 hp6 (by decide) hpb
 have g2 := cR1 2 hp7
 simp at g2
 clear g1 hp6
 refine Zx hK24 (rg ?_)
 have bB := hf.B4 31 32 33 34
 iterate 3 refine Zy ?_
 refine fp fun K Z => ?_
 go_simp
 try simp (disch := omega) only [Fact.wrap_u64]
 apply Z.out; clear Z K
 refine Zc (num55 w7 W0.heap.size W0.heap.size _ t (by omega) hI7 (by have := hb6.size; have := hb7.size; omega) (by rw [List.length_append, List.length_append, Nat.add_assoc]; exact keyN_room hos hal (Nat.le_of_lt hlt2) (by have := num_length a.byte (by omega); have := num_length a.out ha64; omega))) ?_; rintro e w8 ⟨rfl, hI8, hb8, hk8⟩
 refine Zv ?_
 refine Fact.nil (Zq5 3 4 16 17 18 hf ?_)
 clear hf sS bB; intro fr1 hf sS
 refine Fact.block_normal (Zx hK21 (Zr [36] hf ?_))
 refine Zq5 3 4 16 17 18 hf ?_
 clear hf sS; intro fr1 hf sS
 refine Fact.then_normal ?_
 obtain ⟨s3, s4, s16, s17, s18⟩ := sS
 exact ⟨_, by have := HK.out; omega, i + 1, rfl, by omega, hf, s3, s4, s16, s17, by rw [s18]; rfl, by rw [keyN_succ HIA.out, HTT.out]; exact hI8, (((hb.trans (hb5.mono hb.size)).trans hb6).trans hb7).trans hb8⟩)
 . (
 have hie : i = s.arcs.length := by have h9 := of_decide_eq_false hq; omega
 subst hie
 refine Zo ?_
 refine Zt hK17 fun _ hK25 => ?_
 have bB := hf.b 37
 refine Zc (Tryz.Builder_String_any W0.heap.size W0.heap.size _ wr hI hb.size) ?_; rintro e w9 ⟨rfl, hb9⟩
 refine Zv ?_
 refine Zy ?_
 refine Fact.nil (Zq1 2 hf ?_)
 clear hf sS bB; intro fr1 hf s2
 refine Zx hK25 (Zret ?_)
 exact Fact.ret1 rfl hf s2 ⟨rfl, (hb0.trans (hb.mono hb0.size)).trans (hb9.mono hb0.size)⟩)))
open Go.RowKit Go.Maps
/-! no two states have one key -/
theorem dg_mem (d : Nat) (h : d < 36) : dg d ≠ 32 /\ dg d ≠ 33 /\ dg d < 256 := by unfold dg; split <;> omega
theorem dg_inj {a b : Nat} (ha : a < 36) (hb : b < 36) (h : dg a = dg b) : a = b := by unfold dg at h; split at h <;> split at h <;> omega
theorem dig_mem : ∀ (n : Nat), ∀ x ∈ dig n, x ≠ 32 /\ x ≠ 33 /\ x < 256 := by
 intro n
 induction n using Nat.strongRecOn with
 | _ n ih =>
  intro x hx
  rw [dig] at hx
  split at hx
  ·simp at hx; subst hx; exact dg_mem n (by assumption)
  ·rcases List.mem_append.1 hx with h | h
   ·exact ih (n / 36) (by omega) x h
   ·simp at h; subst h; exact dg_mem _ (by omega)
theorem dig_ne (n : Nat) : dig n ≠ [] := by rw [dig]; split <;> simp
theorem dig_inj : ∀ a b : Nat, dig a = dig b -> a = b := by
 intro a
 induction a using Nat.strongRecOn with
 | _ a ih =>
  intro b h
  rw [dig.eq_def a, dig.eq_def b] at h
  split at h <;> split at h
  ·injection h with h; exact dg_inj (by assumption) (by assumption) h
  ·have h1 := congrArg List.length h
   have h2 := List.length_pos_iff.2 (dig_ne (b / 36))
   simp only [List.length_append, List.length_cons, List.length_nil] at h1; omega
  ·have h1 := congrArg List.length h
   have h2 := List.length_pos_iff.2 (dig_ne (a / 36))
   simp only [List.length_append, List.length_cons, List.length_nil] at h1; omega
  ·obtain ⟨h1, h2⟩ := List.append_inj' h rfl
   have h3 := ih (a / 36) (by omega) _ h1
   injection h2 with h2
   have h4 := dg_inj (by omega) (by omega) h2
   omega
theorem split_at {a b x y : List Nat} (ha : ∀ u ∈ a, u ≠ 32) (hb : ∀ u ∈ b, u ≠ 32) (h : a ++ 32 :: x = b ++ 32 :: y) : a = b /\ x = y := by
 induction a generalizing b with
 | nil =>
  cases b with
  | nil => simpa using h
  | cons u b => simp at h; exact absurd h.1.symm (hb u (List.mem_cons_self ..))
 | cons v a ih =>
  cases b with
  | nil => simp at h; exact absurd h.1 (ha v (List.mem_cons_self ..))
  | cons u b =>
   simp only [List.cons_append, List.cons.injEq] at h
   obtain ⟨h1, h2⟩ := ih (fun z hz => ha z (List.mem_cons_of_mem _ hz)) (fun z hz => hb z (List.mem_cons_of_mem _ hz)) h.2
   exact ⟨by rw [h.1, h1], h2⟩
theorem num_inj {a b : Nat} {x y : List Nat} (h : num a ++ x = num b ++ y) : a = b /\ x = y := by
 unfold num at h
 rw [List.append_assoc, List.append_assoc] at h
 obtain ⟨h1, h2⟩ := split_at (fun u hu => (dig_mem a u hu).1) (fun u hu => (dig_mem b u hu).1) h
 exact ⟨dig_inj a b h1, h2⟩
theorem num_ne (n : Nat) : ∃ c l, num n = c :: l /\ c ≠ 33 := by
 obtain ⟨c, l, h⟩ := List.exists_cons_of_ne_nil (dig_ne n)
 refine ⟨c, l ++ [32], by simp [num, h], (dig_mem n c (by rw [h]; exact List.mem_cons_self ..)).2.1⟩
def arcsKey (l : List Arc) : List Nat := l.flatMap fun a => num a.byte ++ num a.out ++ num a.to.toNat
theorem arcsKey_inj : ∀ (a b : List Arc), (∀ x ∈ a, 0 <= x.to) -> (∀ x ∈ b, 0 <= x.to) -> arcsKey a = arcsKey b -> a = b
 | [], [], _, _, _ => rfl
 | [], b :: l2, _, _, h => by
  obtain ⟨c, l, h1, _⟩ := num_ne b.byte
  simp [arcsKey, h1] at h
 | a :: l1, [], _, _, h => by
  obtain ⟨c, l, h1, _⟩ := num_ne a.byte
  simp [arcsKey, h1] at h
 | a :: l1, b :: l2, ha, hb, h => by
  have e : ∀ (x : Arc) (xs : List Arc), arcsKey (x :: xs) = num x.byte ++ (num x.out ++ (num x.to.toNat ++ arcsKey xs)) := fun x xs => by simp [arcsKey]
  rw [e, e] at h
  obtain ⟨h1, h⟩ := num_inj h
  obtain ⟨h2, h⟩ := num_inj h
  obtain ⟨h3, h⟩ := num_inj h
  have h4 := arcsKey_inj l1 l2 (fun x hx => ha x (List.mem_cons_of_mem _ hx)) (fun x hx => hb x (List.mem_cons_of_mem _ hx)) h
  have h5 := ha a (List.mem_cons_self ..)
  have h6 := hb b (List.mem_cons_self ..)
  obtain ⟨ab, ao, at_⟩ := a
  obtain ⟨bb, bo, bt⟩ := b
  simp only at h1 h2 h3 h5 h6
  subst h1; subst h2; subst h4
  have : at_ = bt := by omega
  rw [this]
structure okK (s : State) : Prop where
 ok : okS s
 to : ∀ a ∈ s.arcs, 0 <= a.to
 few : s.arcs.length <= 256
theorem keyL_eq (s : State) : keyL s = (if s.final then [33] else []) ++ (num s.out ++ arcsKey s.arcs) := by simp [keyL, keyN, arcsKey]
theorem keyL_inj {a b : State} (ha : okK a) (hb : okK b) (h : keyL a = keyL b) : a = b := by
 rw [keyL_eq, keyL_eq] at h
 have key : ∀ x y : State, okK x -> okK y -> x.final = y.final -> num x.out ++ arcsKey x.arcs = num y.out ++ arcsKey y.arcs -> x = y := fun x y hx hy h0 h => by
  obtain ⟨h1, h2⟩ := num_inj h
  have h3 := arcsKey_inj _ _ hx.to hy.to h2
  obtain ⟨xf, xo, xa⟩ := x
  obtain ⟨yf, yo, ya⟩ := y
  simp only at h0 h1 h3
  rw [h0, h1, h3]
 cases hfa : a.final <;> cases hfb : b.final <;> rw [hfa, hfb] at h
 ·exact key a b ha hb (by rw [hfa, hfb]) (by simpa using h)
 ·obtain ⟨c, l, h1, h2⟩ := num_ne a.out
  simp [h1] at h
  exact absurd h.1 h2
 ·obtain ⟨c, l, h1, h2⟩ := num_ne b.out
  simp [h1] at h
  exact absurd h.1.symm h2
 ·exact key a b ha hb (by rw [hfa, hfb]) (by simpa using h)
theorem num_lt (n : Nat) : ∀ x ∈ num n, x < 256 := fun x hx => by
 rcases List.mem_append.1 hx with h | h
 ·exact (dig_mem n x h).2.2
 ·simp at h; omega
theorem keyL_lt (s : State) : ∀ x ∈ keyL s, x < 256 := by
 rw [keyL_eq]
 intro x hx
 rcases List.mem_append.1 hx with h | h
 ·split at h
  ·simp at h; omega
  ·cases h
 ·rcases List.mem_append.1 h with h | h
  ·exact num_lt _ x h
  ·obtain ⟨a, _, h⟩ := List.mem_flatMap.1 h
   rcases List.mem_append.1 h with h | h
   ·rcases List.mem_append.1 h with h | h
    ·exact num_lt _ x h
    ·exact num_lt _ x h
   ·exact num_lt _ x h
theorem bs_inj {a b : List Nat} (ha : ∀ x ∈ a, x < 256) (hb : ∀ x ∈ b, x < 256) (h : bs a = bs b) : a = b := by
 have e : ∀ l : List Nat, (∀ x ∈ l, x < 256) -> (bs l).map UInt8.toNat = l := fun l hl => by
  unfold bs
  rw [List.map_map]
  exact (List.map_congr_left fun x hx => by simp; exact hl x hx).trans (List.map_id l)
 rw [<- e a ha, <- e b hb, h]
theorem key_inj {a b : State} (ha : okK a) (hb : okK b) : bs (keyL a) = bs (keyL b) ↔ a = b :=
 ⟨fun h => keyL_inj ha hb (bs_inj (keyL_lt a) (keyL_lt b) h), fun h => by rw [h]⟩
/-! the map of keys -/
def Dm (ss : List State) : Nat -> DataW Unit
 | 0 => .map []
 | m + 1 => (Dm ss m).put (.string (bs (keyL (ss.getD m zeroS)))) (.lit (.int .i64 (m : Int)))
theorem Dm_isMap (ss : List State) (m : Nat) : IsMap (Dm ss m) := by
 induction m with
 | zero => exact ⟨[], rfl⟩
 | succ m ih => exact IsMap.put ih _ _
theorem Dm_append (ss : List State) (s : State) (m : Nat) (h : m <= ss.length) : Dm (ss ++ [s]) m = Dm ss m := by
 induction m with
 | zero => rfl
 | succ m ih =>
  simp only [Dm]
  rw [ih (by omega)]
  have : (ss ++ [s]).getD m zeroS = ss.getD m zeroS := by
   simp only [List.getD_eq_getElem?_getD]
   rw [List.getElem?_append_left (by omega)]
  rw [this]
theorem Dm_snoc (ss : List State) (s : State) : Dm (ss ++ [s]) (ss ++ [s]).length = (Dm ss ss.length).put (.string (bs (keyL s))) (.lit (.int .i64 (ss.length : Int))) := by
 rw [List.length_append]
 show (Dm (ss ++ [s]) ss.length).put _ _ = _
 rw [Dm_append _ _ _ (Nat.le_refl _)]
 simp
theorem key_str (x : List UInt8) : WideAt.IsKeyLit (Lit.string x) := trivial
theorem Dm_has {ss : List State} {s : State} (hs : okK s) (hg : ∀ x ∈ ss, okK x) : ∀ m, m <= ss.length -> has (Dm ss m) (.string (bs (keyL s))) = decide (s ∈ ss.take m)
 | 0, _ => by simp [Dm, has]
 | m + 1, hm => by
  have hlt : m < ss.length := by omega
  have hget : ss.getD m zeroS = ss[m] := by simp [List.getD_eq_getElem?_getD, hlt]
  simp only [Dm]
  rw [hget, List.take_add_one, gE1 hlt]
  by_cases hx : ss[m] = s
  ·rw [hx, has_put_same (Dm_isMap ss m) (key_str _)]
   simp
  ·rw [has_put_other (by intro h; injection h with h; exact hx ((key_inj hs (hg _ (List.getElem_mem hlt))).1 h).symm), Dm_has hs hg m (by omega)]
   refine decide_eq_decide.2 ⟨fun h => List.mem_append_left _ h, fun h => (List.mem_append.1 h).elim id (fun h => ?_)⟩
   simp at h
   exact absurd h.symm hx
theorem Dm_at {ss : List State} {s : State} (hs : okK s) (hg : ∀ x ∈ ss, okK x) (hn : ss.Nodup) (z : DataW Unit) {i : Nat} (hi : ss[i]? = some s) : ∀ m, m <= ss.length -> i < m -> (Dm ss m).atKey (.string (bs (keyL s))) z = .lit (.int .i64 (i : Int))
 | 0, _, h => by omega
 | m + 1, hm, h => by
  have hlt : m < ss.length := by omega
  have hget : ss.getD m zeroS = ss[m] := by simp [List.getD_eq_getElem?_getD, hlt]
  simp only [Dm]
  rw [hget]
  by_cases hmi : m = i
  ·subst hmi
   have : ss[m] = s := (gS1 hi).2
   rw [this]
   exact atKey_put_same (Dm_isMap ss m) (key_str _) _ _
  ·have hne : ss[m] ≠ s := fun e => False.elim (by
    obtain ⟨hil, hie⟩ := gS1 hi
    rcases Nat.lt_or_gt_of_ne hmi with hl | hl
    ·exact absurd (e.trans hie.symm) (List.pairwise_iff_getElem.1 hn m i hlt hil hl)
    ·exact absurd (hie.trans e.symm) (List.pairwise_iff_getElem.1 hn i m hil hlt hl))
   rw [atKey_put_other (by intro h; injection h with h; exact hne ((key_inj hs (hg _ (List.getElem_mem hlt))).1 h).symm)]
   exact Dm_at hs hg hn z hi m (by omega) (by omega)
theorem key_read (l : List Nat) (h : l.length <= 1000000) : keyOf Tryz.prog 9 (.string (strOf l)) = some (.string (bs l)) := by
 have := WideMaps.keyOf_string_mk (P := Tryz.prog) (k := 9) Tryz.underlying9 (s := strOf l) (by rw [strOf_size]; unfold maxLen; omega)
 rw [this]
 rfl
theorem val_read (n : Nat) (h : n <= 1000000) : plainElem (H := Unit) Tryz.prog 3 (.int .i64 (n : Int)) = some (.lit (.int .i64 (n : Int)), []) :=
 plainElem_int Tryz.underlying3 (by simp [Lit.wf, IntKind.min, IntKind.max, IntKind.bits, IntKind.signed]; omega)
theorem keyL_length {s : State} (h : okK s) : (keyL s).length <= 1000000 := by
 have := keyN_room (n := 0) h.ok h.few (Nat.le_refl _) (by omega)
 simpa [keyL] using this
theorem finish_found {ss : List State} {s : State} (h : s ∈ ss) : ∃ i, ss[i]? = some s /\ i < ss.length /\ finish ss s = (ss, i) := by
 unfold finish
 cases hf : ss.findIdx? (. = s) with
 | none =>
  rw [List.findIdx?_eq_none_iff] at hf
  simpa using hf s h
 | some i =>
  rw [List.findIdx?_eq_some_iff_getElem] at hf
  obtain ⟨h1, h2, _⟩ := hf
  refine ⟨i, ?_, h1, rfl⟩
  rw [gE1 h1]
  simpa using h2
theorem finish_new {ss : List State} {s : State} (h : s ∉ ss) : finish ss s = (ss ++ [s], ss.length) := by
 unfold finish
 have : ss.findIdx? (. = s) = none := by
  rw [List.findIdx?_eq_none_iff]
  intro x hx
  simp
  rintro rfl
  exact h hx
 rw [this]
section
variable {w : World} {b n : Nat} {ss : List State}
theorem zero3 (w : World) : (zeroValue 3).run Tryz.prog w = .ok (.int .i64 0) w := Tryz.zeroValue3 w
theorem look_in (h : w.ownsMap Tryz.prog 9 (plainElem Tryz.prog 3) b n (Dm ss ss.length)) {s : State} (hs : okK s) (hg : ∀ x ∈ ss, okK x) (hn : ss.Nodup) {i : Nat} (hi : ss[i]? = some s) :
  (Instr.lookup 118 (.map (some b)) (.string (strOf (keyL s))) true).run Tryz.prog w = .ok (.tuple #[.int .i64 (i : Int), .bool true]) w := by
 obtain ⟨v, ps, h1, h2⟩ := h.look_ok (string_keyed Tryz.underlying9) Tryz.underlying118 (zero3 w) (val_read 0 (by omega)) (key_read _ (keyL_length hs))
 have hil := (gS1 hi).1
 rw [Dm_at hs hg hn _ hi _ (Nat.le_refl _) hil] at h2
 obtain ⟨c, rfl, h3, _⟩ := plainElem_int_inv Tryz.underlying3 h2
 rw [h1, Dm_has hs hg _ (Nat.le_refl _), List.take_length, decide_eq_true (gM1 hi)]
 have h4 : c = (i : Int) := by simp at h3; exact h3.1.symm
 rw [h4]
theorem look_out (h : w.ownsMap Tryz.prog 9 (plainElem Tryz.prog 3) b n (Dm ss ss.length)) {s : State} (hs : okK s) (hg : ∀ x ∈ ss, okK x) (hi : s ∉ ss) :
  ∃ c, (Instr.lookup 118 (.map (some b)) (.string (strOf (keyL s))) true).run Tryz.prog w = .ok (.tuple #[.int .i64 c, .bool false]) w := by
 obtain ⟨v, ps, h1, h2⟩ := h.look_ok (string_keyed Tryz.underlying9) Tryz.underlying118 (zero3 w) (val_read 0 (by omega)) (key_read _ (keyL_length hs))
 obtain ⟨c, rfl, _⟩ := plainElem_int_inv Tryz.underlying3 h2
 refine ⟨c, ?_⟩
 rw [h1, Dm_has hs hg _ (Nat.le_refl _), List.take_length, decide_eq_false hi]
end
/-! the registry in memory: what each block is (own): 0 garbage, 1 the box, 2 the states' row, 3 the map, 4 arcs that stay, 5 the way's row, 6 + i the arcs of the way's i-th state -/
structure Reg (w : World) (base : Nat) (own : Nat -> Nat) (g : Nat) (t : TypeId) (xs : List Value) (sv : Value) (mb : Nat) (ss : List State) : Prop where
 lo : ∀ k, k < base -> own k = 4
 box : w.heap[g]? = some (.cells (sv :: .map (some mb) :: xs).toArray t (0, 0))
 og : own g = 1
 om : own mb = 3
 map : w.ownsMap Tryz.prog 9 (plainElem Tryz.prog 3) mb ss.length (Dm ss ss.length)
 row : ∃ cells, w.ownsRow base 46 3 sv ss.length cells /\ (∀ k, sv.ownBlock = some k -> own k = 2) /\ ∀ (i : Nat) (s : State), ss[i]? = some s ->
  ∃ av, cells[i * 3]? = some av /\ cells[i * 3 + 1]? = some (.bool s.final) /\ cells[i * 3 + 2]? = some (.int .u64 s.out) /\ RA w (fun k => own k = 4) av s.arcs
 nodup : ss.Nodup
 good : ∀ s ∈ ss, okK s
section
variable {w w' : World} {base g mb : Nat} {own own' : Nat -> Nat} {t : TypeId} {xs : List Value} {sv : Value} {ss : List State} {S : Nat -> Prop}
theorem map_but {H : Type} {P : Program} {k : TypeId} {R : Value -> Option (DataW H × List MemPlace)} {b n : Nat} {D : DataW H} (h : w.ownsMap P k R b n D) (hb : But S w w') (hn : ¬ S b) : w'.ownsMap P k R b n D := by
 obtain ⟨es, clock, h1, F, hs, hD⟩ := h
 exact ⟨es, clock, hb.heap h1 hn, F, hs, hD⟩
theorem Reg.but (h : Reg w base own g t xs sv mb ss) (hb : But S w w') (hS : ∀ k, S k -> own k = 0 \/ 5 <= own k) : Reg w' base own g t xs sv mb ss := by
 obtain ⟨cells, h1, h2, h3⟩ := h.row
 refine ⟨h.lo, hb.heap h.box (fun hs => ?_), h.og, h.om, map_but h.map hb (fun hs => ?_), ⟨cells, own_but h1 hb (fun k hk hs => ?_), h2, fun i s hi => ?_⟩, h.nodup, h.good⟩
 ·have := hS g hs; have := h.og; omega
 ·have := hS mb hs; have := h.om; omega
 ·have := hS k hs; have := h2 k hk; omega
 ·obtain ⟨av, h4, h5, h6, h7⟩ := h3 i s hi
  exact ⟨av, h4, h5, h6, h7.but hb (fun k hk hs => by have := hS k hs; omega)⟩
theorem Reg.later (h : Reg w base own g t xs sv mb ss) (hb : Below w.heap.size w w') : Reg w' base own g t xs sv mb ss := h.but (But.of (fun _ => False) hb) (fun _ hf => hf.elim)
theorem Reg.told (h : Reg w base own g t xs sv mb ss) (hlo : ∀ k, k < base -> own' k = 4) (hk : ∀ k, k < w.heap.size -> 1 <= own k -> own k <= 4 -> own' k = own k) : Reg w base own' g t xs sv mb ss := by
 obtain ⟨cells, h1, h2, h3⟩ := h.row
 refine ⟨hlo, h.box, ?_, ?_, h.map, ⟨cells, h1, fun k hk' => ?_, fun i s hi => ?_⟩, h.nodup, h.good⟩
 ·rw [hk g (heap_lt h.box) (by rw [h.og]; omega) (by rw [h.og]; omega)]; exact h.og
 ·rw [hk mb h.map.lt (by rw [h.om]; omega) (by rw [h.om]; omega)]; exact h.om
 ·have := h2 k hk'; rw [hk k (h1.lt k hk').2 (by omega) (by omega)]; exact this
 ·obtain ⟨av, h4, h5, h6, h7⟩ := h3 i s hi
  exact ⟨av, h4, h5, h6, h7.more (fun k hlt hk4 => by rw [hk k hlt (by omega) (by omega)]; exact hk4)⟩
theorem Reg.cell0 (h : Reg w base own g t xs sv mb ss) : w.cell? ⟨g, 0, none⟩ = some sv := by rw [cell_of_row _ _ 0 _ t (0, 0) h.box]; rfl
theorem Reg.cell1 (h : Reg w base own g t xs sv mb ss) : w.cell? ⟨g, 1, none⟩ = some (.map (some mb)) := by rw [cell_of_row _ _ 1 _ t (0, 0) h.box]; rfl
theorem Reg.frozen (h : Reg w base own g t xs sv mb ss) (i : Nat) : w.frozen? ⟨g, i, none⟩ = false := frozen_of h.box
theorem Reg.form (h : Reg w base own g t xs sv mb ss) : ∃ A c, sv = .slice A ss.length c /\ ss.length <= c := by
 obtain ⟨cells, h1, _⟩ := h.row
 rcases h1.2 with ⟨rfl, h0⟩ | ⟨b, cap, cur, rfl, _, _, hc, _⟩
 ·exact ⟨none, 0, by rw [h0], by omega⟩
 ·exact ⟨_, _, rfl, hc⟩
theorem Reg.base_le (h : Reg w base own g t xs sv mb ss) : base <= w.heap.size := by
 have h1 := heap_lt h.box
 rcases Nat.lt_or_ge g base with h2 | h2
 ·have := h.lo g h2; have := h.og; omega
 ·omega
theorem Reg.mb_ne (h : Reg w base own g t xs sv mb ss) : g ≠ mb := fun e => by have h1 := h.og; have h2 := h.om; rw [e] at h1; omega
def Cells (w : World) (own : Nat -> Nat) (cells : List Value) (ss : List State) : Prop := ∀ (i : Nat) (s : State), ss[i]? = some s ->
  ∃ av, cells[i * 3]? = some av /\ cells[i * 3 + 1]? = some (.bool s.final) /\ cells[i * 3 + 2]? = some (.int .u64 s.out) /\ RA w (fun k => own k = 4) av s.arcs
theorem Reg.snoc {w4 w5 : World} {s : State} {av sv' : Value} {cells : List Value} (h : Reg w base own g t xs sv mb ss) (hg4 : w.grownBy w4 (some mb))
  (hM4 : w4.ownsMap Tryz.prog 9 (plainElem Tryz.prog 3) mb (ss.length + 1) ((Dm ss ss.length).put (.string (bs (keyL s))) (.lit (.int .i64 (ss.length : Int))))) (hb5 : But (fun k => own k = 1 \/ own k = 2) w4 w5)
  (hcl : cells.length = ss.length * 3) (hcells : Cells w own cells ss) (hrow : w5.ownsRow base 46 3 sv' (ss.length + 1) (cells ++ [av, .bool s.final, .int .u64 s.out])) (hown : ∀ k, sv'.ownBlock = some k -> own k = 2)
  (hbox : w5.heap[g]? = some (.cells (sv' :: .map (some mb) :: xs).toArray t (0, 0))) (hra : RA w (fun k => own k = 4) av s.arcs) (hok : okK s) (hnew : s ∉ ss) : Reg w5 base own g t xs sv' mb (ss ++ [s]) := by
 have hom := h.om
 have hb4 : But (fun k => k = mb) w w4 := But.grown hg4 (fun k hk => by injection hk with hk; exact hk.symm)
 have hra5 : ∀ {v : Value} {l : List Arc}, RA w (fun k => own k = 4) v l -> RA w5 (fun k => own k = 4) v l := fun hr =>
  (hr.but hb4 (fun k hk e => by subst e; omega)).but hb5 (fun k hk e => by omega)
 refine ⟨h.lo, hbox, h.og, h.om, ?_, ⟨_, by rw [List.length_append]; exact hrow, hown, fun i x hi => ?_⟩, ?_, fun x hx => ?_⟩
 ·rw [Dm_snoc, List.length_append]
  exact map_but hM4 hb5 (fun e => by omega)
 ·by_cases hlt : i < ss.length
  ·rw [List.getElem?_append_left hlt] at hi
   obtain ⟨av', h4, h5, h6, h7⟩ := hcells i x hi
   exact ⟨av', by rw [List.getElem?_append_left (by omega)]; exact h4, by rw [List.getElem?_append_left (by omega)]; exact h5, by rw [List.getElem?_append_left (by omega)]; exact h6, hra5 h7⟩
  ·rw [List.getElem?_append_right (by omega)] at hi
   have hi0 : i - ss.length = 0 := by
    have := (gS1 hi).1
    simp at this
    omega
   rw [hi0] at hi
   injection hi with hi
   subst hi
   have hie : i = ss.length := by omega
   subst hie
   refine ⟨av, ?_, ?_, ?_, hra5 hra⟩
   ·rw [List.getElem?_append_right (by omega), hcl, Nat.sub_self]; rfl
   ·rw [List.getElem?_append_right (by omega), hcl, show ss.length * 3 + 1 - ss.length * 3 = 1 by omega]; rfl
   ·rw [List.getElem?_append_right (by omega), hcl, show ss.length * 3 + 2 - ss.length * 3 = 2 by omega]; rfl
 ·rw [List.nodup_append]
  refine ⟨h.nodup, by simp, fun a ha b hb => ?_⟩
  simp at hb
  subst hb
  rintro rfl
  exact hnew ha
 ·rcases List.mem_append.1 hx with hx | hx
  ·exact h.good x hx
  ·simp at hx; subst hx; exact hok
end
theorem info_stateD : (Tryz.prog.info? 46).map (fun i => (i.zero, i.size, i.bytes)) = some (some (.agg #[.slice none 0 0, .bool false, .int .u64 0]), 3, 40) := by kernel_rfl
theorem info_arcD : (Tryz.prog.info? 71).map (fun i => (i.zero, i.size, i.bytes)) = some (some (.agg #[.int .u8 0, .int .u64 0, .int .i64 0]), 3, 24) := by kernel_rfl
theorem info_openD : (Tryz.prog.info? 126).map (fun i => (i.zero, i.size, i.bytes)) = some (some (.agg #[.slice none 0 0, .bool false, .int .u64 0, .int .u8 0]), 4, 48) := by kernel_rfl
end Dw
end Go.Proofs.YtcddnmhmcieebaaGreatDoor
