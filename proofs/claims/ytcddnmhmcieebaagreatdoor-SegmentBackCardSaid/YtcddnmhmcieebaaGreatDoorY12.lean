/- Pack: the sum of bytes, bit by bit and by halves of bytes: one and the same; it is linear, so that it tells each short burst. -/
import Derived.Laws.BitsAllLaws
import Derived.Test.YtcddnmhmcieebaaGreatDoorY11
import Derived.Test.YtcddnmhmcieebaaGreatDoorY1
import Derived.Test.YtcddnmhmcieebaaGreatDoorShelf
import Derived.Test.YtcddnmhmcieebaaGreatDoorTools
import Derived.Laws.CopyOwn
namespace Go.Proofs.YtcddnmhmcieebaaGreatDoor
set_option maxHeartbeats 4000000
set_option maxRecDepth 100000
set_option linter.unusedSimpArgs false
set_option linter.unusedVariables false
set_option linter.unnecessarySimpa false
namespace Crc
def poly : Nat := 0xEDB88320
def L (n : Nat) : Nat := if n % 2 = 1 then (n / 2) ^^^ poly else n / 2
def bit (n b : Nat) : Nat := if n % 2 = b then n / 2 else (n / 2) ^^^ poly
def byte (n c : Nat) : Nat := bit (bit (bit (bit (bit (bit (bit (bit n (c % 2)) (c / 2 % 2)) (c / 4 % 2)) (c / 8 % 2)) (c / 16 % 2)) (c / 32 % 2)) (c / 64 % 2)) (c / 128 % 2)
def T (x : Nat) : Nat := L (L (L (L x)))
def nib (n h : Nat) : Nat := (n / 16) ^^^ T ((n % 16) ^^^ h)
theorem xor_mod2 (a b : Nat) : (a ^^^ b) % 2 = (a % 2 + b % 2) % 2 := by
 have h := Nat.xor_mod_two_pow (a := a) (b := b) (n := 1)
 rw [show (2:Nat)^1 = 2 from rfl] at h
 rw [h]
 rcases Nat.mod_two_eq_zero_or_one a with ha | ha <;> rcases Nat.mod_two_eq_zero_or_one b with hb | hb <;> simp [ha, hb]
theorem L_xor (a b : Nat) : L (a ^^^ b) = L a ^^^ L b := by
 unfold L
 have h1 := xor_mod2 a b
 have h2 : (a ^^^ b) / 2 = a / 2 ^^^ b / 2 := Nat.xor_div_two
 rw [h1, h2]
 rcases Nat.mod_two_eq_zero_or_one a with ha | ha <;> rcases Nat.mod_two_eq_zero_or_one b with hb | hb <;> simp [ha, hb]
 ·rw [Nat.xor_assoc]
 ·rw [Nat.xor_assoc, Nat.xor_assoc, Nat.xor_comm poly]
 ·rw [Nat.xor_assoc, <- Nat.xor_assoc poly, Nat.xor_comm poly (b / 2), Nat.xor_assoc, Nat.xor_self, Nat.xor_zero]
theorem bit_L (n b : Nat) (hb : b < 2) : bit n b = L (n ^^^ b) := by
 unfold bit L
 have h2 : (n ^^^ b) / 2 = n / 2 := by rw [Nat.xor_div_two, show b / 2 = 0 by omega, Nat.xor_zero]
 have h1 := xor_mod2 n b
 rw [h1, h2]
 rcases Nat.mod_two_eq_zero_or_one n with ha | ha <;> rcases (show b = 0 \/ b = 1 by omega) with rfl | rfl <;> simp [ha]
theorem L_double (x : Nat) : L (2 * x) = x := by unfold L; simp
theorem L_16 (x : Nat) : L (L (L (L (16 * x)))) = x := by
 rw [show 16 * x = 2 * (2 * (2 * (2 * x))) by omega, L_double, L_double, L_double, L_double]
theorem xor_parts (n : Nat) : n = (16 * (n / 16)) ^^^ (n % 16) := by
 refine Nat.eq_of_testBit_eq fun i => ?_
 rw [Nat.testBit_xor, show (16 : Nat) * (n / 16) = 2 ^ 4 * (n / 2 ^ 4) from rfl, show n % 16 = n % 2 ^ 4 from rfl, Nat.testBit_two_pow_mul, Nat.testBit_div_two_pow, Nat.testBit_mod_two_pow]
 by_cases h : i < 4
 ·have h' : ¬ i ≥ 4 := by omega
  simp [h, h']
 ·have h' : i ≥ 4 := by omega
  simp [h, h', show i - 4 + 4 = i by omega]
theorem nib_bits (n h : Nat) (hh : h < 16) : bit (bit (bit (bit n (h % 2)) (h / 2 % 2)) (h / 4 % 2)) (h / 8 % 2) = nib n h := by
 have b0 : h % 2 < 2 := by omega
 have b1 : h / 2 % 2 < 2 := by omega
 have b2 : h / 4 % 2 < 2 := by omega
 have b3 : h / 8 % 2 < 2 := by omega
 rw [bit_L _ _ b0, bit_L _ _ b1, bit_L _ _ b2, bit_L _ _ b3]
 unfold nib T
 conv => lhs; rw [xor_parts n]
 simp only [L_xor]
 rw [L_16]
 have hs : ∀ h, h < 16 -> L (L (L (L (h % 2)))) ^^^ (L (L (L (h / 2 % 2))) ^^^ (L (L (h / 4 % 2)) ^^^ L (h / 8 % 2))) = L (L (L (L h))) := by decide
 have hs' := hs h hh
 rw [<- hs']
 simp only [Nat.xor_assoc]
theorem nib_lt (n h : Nat) (hn : n < 4294967296) (hh : h < 16) : nib n h < 4294967296 := by
 have ht : ∀ x, x < 16 -> T x < 4294967296 := by decide
 have hx : (n % 16) ^^^ h < 2 ^ 4 := Nat.xor_lt_two_pow (by omega) (by omega)
 exact Nat.xor_lt_two_pow (n := 32) (by omega) (ht _ (by omega))
theorem byte_nib (n c : Nat) (hc : c < 256) : byte n c = nib (nib n (c % 16)) (c / 16) := by
 rw [<- nib_bits _ _ (show c % 16 < 16 by omega), <- nib_bits _ _ (show c / 16 < 16 by omega)]
 unfold byte
 rw [show c % 16 % 2 = c % 2 by omega, show c % 16 / 2 % 2 = c / 2 % 2 by omega, show c % 16 / 4 % 2 = c / 4 % 2 by omega, show c % 16 / 8 % 2 = c / 8 % 2 by omega,
  show c / 16 / 2 % 2 = c / 32 % 2 by omega, show c / 16 / 4 % 2 = c / 64 % 2 by omega, show c / 16 / 8 % 2 = c / 128 % 2 by omega]
theorem byte_lt (n c : Nat) (hn : n < 4294967296) (hc : c < 256) : byte n c < 4294967296 := by
 rw [byte_nib n c hc]
 exact nib_lt _ _ (nib_lt _ _ hn (by omega)) (by omega)
def run (n : Nat) (l : List Nat) : Nat := l.foldl byte n
theorem run_lt (l : List Nat) : (∀ x ∈ l, x < 256) -> ∀ n, n < 4294967296 -> run n l < 4294967296 := by
 induction l with
 | nil => exact fun _ n h => h
 | cons c l ih => exact fun hs n h => ih (fun x hx => hs x (List.mem_cons_of_mem _ hx)) _ (byte_lt _ _ h (hs c (List.mem_cons_self ..)))
def sum (l : List Nat) : Nat := 4294967295 - run 4294967295 l
theorem sum_lt (l : List Nat) : sum l < 4294967296 := by unfold sum; omega
def four (n : Nat) : List Nat := [n % 256, n / 256 % 256, n / 65536 % 256, n / 16777216 % 256]
def seal' (l : List Nat) : List Nat := l ++ four (sum l)
def opened (l : List Nat) : Option (List Nat) := if 4 <= l.length /\ seal' (l.take (l.length - 4)) = l then some (l.take (l.length - 4)) else none
theorem seal_length (l : List Nat) : (seal' l).length = l.length + 4 := by simp [seal', four]
theorem opened_seal (l : List Nat) : opened (seal' l) = some l := by
 unfold opened
 have h : (seal' l).take ((seal' l).length - 4) = l := by rw [seal_length]; simp [seal']
 rw [h, if_pos ⟨by rw [seal_length]; omega, rfl⟩]
theorem opened_some {l b : List Nat} (h : opened l = some b) : l = seal' b := by
 unfold opened at h
 split at h
 ·rename_i hc
  injection h with h
  rw [<- h]; exact hc.2.symm
 ·cases h
end Crc
open Go.RowKit
namespace Dw
def lcs (l : List Nat) (k : Nat) : List Value := l.map (fun (x : Nat) => Value.int .u8 x) ++ [.int .i64 k]
def numP (n : Nat) : List Nat := numB n ++ List.replicate (9 - (numB n).length) 0
theorem numP_length {n : Nat} (h : n < M64) : (numP n).length = 9 := by
 have := numB_le h
 unfold numP
 rw [List.length_append, List.length_replicate]
 omega
theorem lcs_size {l : List Nat} {k : Nat} (h : l.length = 9) : (lcs l k).toArray.size = 10 := by
 rw [List.size_toArray]
 unfold lcs
 rw [List.length_append, List.length_map, h]
 rfl
theorem lcs_one (l : List Nat) (k : Nat) : (lcs l k).toArray.all (·.oneCell') = true := by
 rw [Array.all_eq_true_iff_forall_mem]
 intro v hv
 have hv : v ∈ lcs l k := by simpa using hv
 rcases List.mem_append.1 hv with hv | hv
 ·obtain ⟨x, _, rfl⟩ := List.mem_map.1 hv
  rfl
 ·simp at hv; subst hv; rfl
theorem lcs_at {w : World} {g i k x : Nat} {l : List Nat} {t : TypeId} (h : w.heap[g]? = some (.cells (lcs l k).toArray t (0, 0))) (hi : l[i]? = some x) : w.cell? ⟨g, i, none⟩ = some (.int .u8 x) := by
 have hl := (gS1 hi).1
 rw [cell_of_row _ _ i _ t (0, 0) h]
 unfold lcs
 simp only [List.getElem?_toArray]
 rw [List.getElem?_append_left (by simpa using hl), List.getElem?_map, hi]
 rfl
theorem lcs_last {w : World} {g k : Nat} {l : List Nat} {t : TypeId} (h : w.heap[g]? = some (.cells (lcs l k).toArray t (0, 0))) (hl : l.length = 9) : w.cell? ⟨g, 9, none⟩ = some (.int .i64 k) := by
 rw [cell_of_row _ _ 9 _ t (0, 0) h]
 unfold lcs
 simp only [List.getElem?_toArray]
 rw [List.getElem?_append_right (by simp [hl])]
 simp [hl]
theorem lcs_set {l : List Nat} {k i x : Nat} (hi : i < l.length) : (lcs l k).toArray.setIfInBounds i (.int .u8 (x : Int)) = (lcs (l.set i x) k).toArray := by
 unfold lcs
 rw [List.setIfInBounds_toArray, List.set_append_left _ _ (by simpa using hi), List.map_set]
theorem lcs_setlast {l : List Nat} {k j : Nat} (hl : l.length = 9) : (lcs l k).toArray.setIfInBounds 9 (.int .i64 (j : Int)) = (lcs l j).toArray := by
 unfold lcs
 rw [List.setIfInBounds_toArray, List.set_append_right _ _ (by simp [hl])]
 simp [hl]
theorem lay_lit {n : Nat} (h : n < 248) : lcs (numP n) (numB n).length = [.int .u8 n, .int .u8 0, .int .u8 0, .int .u8 0, .int .u8 0, .int .u8 0, .int .u8 0, .int .u8 0, .int .u8 0, .int .i64 1] := by
 have e : numB n = [n] := by unfold numB; rw [if_pos h]
 unfold numP
 rw [e]
 rfl
theorem lay_next {n m i : Nat} (h : i < m) (hm : m <= 8) : ((247 + m) :: (leB i n ++ List.replicate (8 - i) 0))[1 + i]? = some 0 := by
 rw [Nat.add_comm 1 i, List.getElem?_cons_succ, List.getElem?_append_right (by rw [leB_length]; omega), leB_length, Nat.sub_self, List.getElem?_replicate, if_pos (by omega)]
theorem lay_step {n m i : Nat} (h : i < m) (hm : m <= 8) : ((247 + m) :: (leB i n ++ List.replicate (8 - i) 0)).set (1 + i) (n / 256 ^ i % 256) = (247 + m) :: (leB (i + 1) n ++ List.replicate (8 - (i + 1)) 0) := by
 rw [Nat.add_comm 1 i, List.set_cons_succ, List.set_append_right _ _ (by rw [leB_length]; omega), leB_length, Nat.sub_self, leB_snoc, List.append_assoc, show 8 - i = (8 - (i + 1)) + 1 by omega, List.replicate_succ]
 rfl
theorem lay_full {n i : Nat} (h : lenB n = i) (hn : 248 <= n) : lcs ((247 + i) :: (leB i n ++ List.replicate (8 - i) 0)) (1 + i) = lcs (numP n) (numB n).length := by
 have e : numB n = (247 + i) :: leB i n := by unfold numB; rw [if_neg (by omega), h]
 unfold numP
 rw [e, List.length_cons, leB_length, show 9 - (i + 1) = 8 - i by omega, Nat.add_comm 1 i]
 rfl
theorem shr_cut {n i : Nat} : (n : Int) / 2 ^ (8 * (i : Int)).toNat = ((n / 256 ^ i : Nat) : Int) := by
 rw [show (8 * (i : Int)).toNat = 8 * i by omega, show (2 : Int) ^ (8 * i) = ((256 ^ i : Nat) : Int) by rw [pow256]; norm_cast]
 rfl
theorem wrap8 {n : Nat} : IntKind.u8.wrap (n : Int) = ((n % 256 : Nat) : Int) := by rw [IntKind.wrap_u8]; omega
theorem len_div {n m : Nat} (h : (Lib.bitLen n + 7) / 8 = m) : ((Lib.bitLen n : Int) + 8 - 1).tdiv 8 = (m : Int) := by
 rw [Int.tdiv_eq_ediv_of_nonneg (by omega)]
 omega
theorem lay_small (w : World) (n : Nat) (hn : n < 248) : Calls Tryz.prog 101 #[.int .u64 n] w fun e w1 => e = .returned (.agg (lcs (numP n) (numB n).length).toArray) /\ Below w.heap.size w w1 := by
 refine Zn1 41 Tryz.func101 fun fr hf s0 => ?_
 have q0 : decide ((n : Int) < 248) = true := decide_eq_true (by omega)
 refine Ze fun _ hK1 => Zr [] hf ?_
 refine Zq2 0 2 hf ?_
 clear hf s0; intro fr1 hf sS
 generalize hW0 : w.alloc (.cells #[.int .u8 0, .int .u8 0, .int .u8 0, .int .u8 0, .int .u8 0, .int .u8 0, .int .u8 0, .int .u8 0, .int .u8 0, .int .i64 0] 184) = W0
 have hx0 : W0.heap[w.heap.size]? = some (.cells (lcs (List.replicate 9 0) 0).toArray 184 (0, 0)) := by rw [<- hW0, heap_get, if_pos rfl]; rfl
 have hb0 : Below w.heap.size w W0 := by rw [<- hW0]; exact (Below.refl _ _).alloc (Nat.le_refl _) _
 clear hW0
 refine Zs hK1 fun _ hK2 => Ze fun _ hK3 => Zr [5] hf ?_
 refine Zq3 0 2 6 hf ?_
 clear hf sS; intro fr1 hf sS
 refine Zx hK3 (Fact.cond_t sS.2.2 ?_)
 clear q0
 have f0 := frozen_of (i := 0) hx0; have f9 := frozen_of (i := 9) hx0
 have z0 := lcs_at (i := 0) (x := 0) hx0 (by simp)
 have z9 := lcs_last hx0 (by simp)
 refine Ze fun _ hK4 => rg ?_
 have bB := hf.B5 7 8 9 10 11
 refine Zy ?_
 refine fp fun K Z => ?_
 go_simp
 rw [Fact.wrap_u8 (by omega) (by omega)]
 apply Z.out; clear Z K
 iterate 5 refine Zy ?_
 refine Fact.nil (Zq1 2 hf ?_)
 clear hf sS bB; intro fr1 hf s2
 have hx1 := set_block (i := 9) (set_block (i := 0) hx0 (.int .u8 n)) (.int .i64 1)
 have hb1 := (hb0.setCell (p := ⟨w.heap.size, 0, none⟩) (Nat.le_refl _) (.int .u8 n)).setCell (p := ⟨w.heap.size, 9, none⟩) (Nat.le_refl _) (.int .i64 1)
 rw [show ((lcs (List.replicate 9 0) 0).toArray.setIfInBounds 0 (.int .u8 n)).setIfInBounds 9 (.int .i64 1) = (lcs (numP n) (numB n).length).toArray by rw [lay_lit hn]; rfl] at hx1
 obtain ⟨W1, hW1⟩ : ∃ x, (W0.setCell ⟨w.heap.size, 0, none⟩ (.int .u8 n)).setCell ⟨w.heap.size, 9, none⟩ (.int .i64 1) = x := ⟨_, rfl⟩
 rw [hW1] at hx1 hb1
 rw [hW1]
 have hnl := numP_length (n := n) (by unfold M64; omega)
 clear hW1 z0 z9 f0 f9 hx0 hb0
 refine Zt hK4 fun _ hK5 => ?_
 have bB := hf.b 12
 refine ⟨?_⟩
 refine wpList_load_row rfl 184 _ rfl w.heap.size (Fact.eval_tmp s2) 184 _ (0, 0) _ hx1 Tryz.underlying184 rfl (by rw [lcs_size hnl]; kernel_rfl) ?_
 refine Fact.L.out ?_
 clear bB
 refine Fact.reL (n := 41) (by simp only [Fact.G, hf.size]) hf.defers (fun fr1 hf1 hT => ?_)
 have hKp := Fact.h2 hT 2 12
 simp (decide := true) only [Fact.G, hf.size, reduceIte, s2] at hKp
 replace hf := hf1; clear hT hf1 s2
 obtain ⟨s2, s12⟩ := hKp
 refine ⟨?_⟩
 refine wpList_plain rfl fun KL hKL => ?_
 refine wp_store_row 184 _ _ rfl w.heap.size _ (Fact.eval_tmp s2) (Fact.eval_tmp s12) 184 _ hx1 (by rw [lcs_size hnl]; kernel_rfl) rfl (lcs_one _ _) (hKL _ _ ?_)
 refine Fact.L.out ?_
 refine Fact.nil (Zq1 2 hf ?_)
 clear hf s2 s12; intro fr1 hf s2
 rw [setRow_self _ _ _ 184 (0, 0) hx1]
 refine Zx hK5 (Zret ?_)
 refine ret_c rfl hf s2 hx1 Tryz.underlying184 rfl (by rw [lcs_size hnl]; kernel_rfl) ⟨?_, hb1⟩
 rfl
theorem lay_big (w : World) (n : Nat) (hn : 248 <= n) (hn64 : n < M64) : Calls Tryz.prog 101 #[.int .u64 n] w fun e w1 => e = .returned (.agg (lcs (numP n) (numB n).length).toArray) /\ Below w.heap.size w w1 := by
 refine Zn1 41 Tryz.func101 fun fr hf s0 => ?_
 have q0 : decide ((n : Int) < 248) = false := decide_eq_false (by omega)
 refine Ze fun _ hK1 => Zr [] hf ?_
 refine Zq2 0 2 hf ?_
 clear hf s0; intro fr1 hf sS
 generalize hW0 : w.alloc (.cells #[.int .u8 0, .int .u8 0, .int .u8 0, .int .u8 0, .int .u8 0, .int .u8 0, .int .u8 0, .int .u8 0, .int .u8 0, .int .i64 0] 184) = W0
 have hx0 : W0.heap[w.heap.size]? = some (.cells (lcs (List.replicate 9 0) 0).toArray 184 (0, 0)) := by rw [<- hW0, heap_get, if_pos rfl]; rfl
 have hb0 : Below w.heap.size w W0 := by rw [<- hW0]; exact (Below.refl _ _).alloc (Nat.le_refl _) _
 clear hW0
 refine Zs hK1 fun _ hK2 => Ze fun _ hK3 => Zr [5] hf ?_
 refine Zq3 0 2 6 hf ?_
 clear hf sS; intro fr1 hf sS
 refine Zx hK3 (Fact.cond_f sS.2.2 ?_)
 clear q0
 obtain ⟨hm1, hm8, -, -⟩ := lenB_bounds (show 0 < n by omega) hn64
 obtain ⟨m, hm⟩ : ∃ m, lenB n = m := ⟨_, rfl⟩
 rw [hm] at hm1 hm8
 have hml : (Lib.bitLen n + 7) / 8 = m := hm
 have HM := Lib.hid hm; clear hm
 have f0 := frozen_of (i := 0) hx0
 have z0 := lcs_at (i := 0) (x := 0) hx0 (by simp)
 refine wp_skip (Zt hK2 fun _ hK4 => ?_)
 have bB := hf.B5 13 14 15 16 17
 refine Zy ?_
 refine Zc (Tryz.bits_Len64 (n : Int) W0 (by omega) (by unfold M64 at hn64; omega)) ?_; rintro e w1 ⟨rfl, hww⟩
 subst w1
 rw [Int.toNat_natCast]
 refine Zv ?_
 iterate 2 refine Zy ?_
 refine fp fun K Z => ?_
 go_simp
 rw [len_div hml, Fact.wrap_i64 (by omega) (by omega)]
 clear hml
 apply Z.out; clear Z K
 refine Zy ?_
 refine Fact.nil (Zq3 0 2 3 hf ?_)
 clear hf sS bB; intro fr1 hf sS
 refine Zt hK4 fun _ hK5 => ?_
 have bB := hf.B5 18 19 20 21 22
 refine Zy ?_
 refine fp fun K Z => ?_
 go_simp
 try simp (disch := omega) only [Fact.W]
 rw [show (247 : Int) + (m : Int) = ((247 + m : Nat) : Int) by omega]
 apply Z.out; clear Z K
 refine fp fun K Z => ?_
 go_simp
 rw [Fact.wrap_u8 (by omega) (by omega)]
 apply Z.out; clear Z K
 iterate 3 refine Zy ?_
 refine Fact.nil (Zq3 0 2 3 hf ?_)
 clear hf sS bB; intro fr1 hf sS
 rw [show (247 : Int) + (m : Int) = ((247 + m : Nat) : Int) by omega]
 have hx1 := set_block (i := 0) hx0 (.int .u8 ((247 + m : Nat) : Int))
 have hb1 := hb0.setCell (p := ⟨w.heap.size, 0, none⟩) (Nat.le_refl _) (.int .u8 ((247 + m : Nat) : Int))
 rw [lcs_set (by simp)] at hx1
 obtain ⟨W1, hW1⟩ : ∃ x, W0.setCell ⟨w.heap.size, 0, none⟩ (.int .u8 ((247 + m : Nat) : Int)) = x := ⟨_, rfl⟩
 rw [hW1] at hx1 hb1
 try rw [hW1]
 replace hx1 : W1.heap[w.heap.size]? = some (.cells (lcs ((247 + m) :: (leB 0 n ++ List.replicate (8 - 0) 0)) 0).toArray 184 (0, 0)) := hx1
 clear hW1 z0 f0 hx0 hb0
 refine Zs hK5 fun _ hK6 => Ze fun _ hK7 => Zr [] hf ?_
 refine Zq5 0 2 3 23 24 hf ?_
 clear hf sS; intro fr1 hf sS
 refine Zx hK7 (wp_block (wp_loop_ghost (fun gk fr wr => ∃ (i : Nat), gk = m - i /\ i <= m /\ Fact.Fr 41 fr /\ fr.tmps[0]? = some (.int .u64 n) /\ fr.tmps[2]? = some (.pointer (some ⟨w.heap.size, 0, none⟩)) /\ fr.tmps[3]? = some (.int .i64 m) /\ fr.tmps[23]? = some (.int .i64 m) /\ fr.tmps[24]? = some (.int .i64 i) /\ wr.heap[w.heap.size]? = some (.cells (lcs ((247 + m) :: (leB i n ++ List.replicate (8 - i) 0)) 0).toArray 184 (0, 0)) /\ Below w.heap.size w wr) (m) ?_ ?_))
 . (
 obtain ⟨s0, s2, s3, s23, s24⟩ := sS
 exact ⟨0, rfl, Nat.zero_le _, hf, s0, s2, s3, s23, s24, hx1, hb1⟩)
 . (
 clear hf sS
 clear hx1 hb1
 rintro gk fr wr ⟨i, hk, hi, hf, s0, s2, s3, s23, s24, hx, hb⟩
 have HK := Lib.hid hk; clear hk
 refine Ze fun _ hK8 => Zr [] hf ?_
 refine Zq6 0 2 3 23 24 25 hf ?_
 clear hf s0 s2 s3 s23 s24; intro fr1 hf sS
 refine Zs hK8 fun _ hK9 => Fact.cond_s sS.2.2.2.2.2 (fun hq => ?_) (fun hq => ?_)
 . (
 have hlt : i < m := by have h9 := of_decide_eq_true hq; omega
 clear hq
 have f1 := frozen_of (i := 1 + i) hx
 have z1 := lcs_at (i := 1 + i) (x := 0) hx (lay_next hlt hm8)
 obtain ⟨d, hd⟩ : ∃ d, n / 256 ^ i = d := ⟨_, rfl⟩
 obtain ⟨x8, hx8⟩ : ∃ x8, d % 256 = x8 := ⟨_, rfl⟩
 have HD := Lib.hid hd; have HX8 := Lib.hid hx8; clear hd hx8
 refine wp_skip (Zs hK9 fun _ hK10 => wp_block (Ze fun _ hK11 => Zr [26] hf ?_))
 refine Zq6 0 2 3 4 23 24 hf ?_
 clear hf sS; intro fr1 hf sS
 refine Zx hK11 (rg ?_)
 have bB := hf.B9 27 28 29 30 31 32 33 34 35
 refine Zy ?_
 refine fp fun K Z => ?_
 go_simp
 try simp (disch := omega) only [Fact.W]
 rw [show (1 : Int) + (i : Int) = ((1 + i : Nat) : Int) by omega]
 apply Z.out; clear Z K
 iterate 3 refine Zy ?_
 refine fp fun K Z => ?_
 go_simp
 rw [shr_cut, HD.out]
 apply Z.out; clear Z K
 refine fp fun K Z => ?_
 go_simp
 rw [wrap8, HX8.out]
 apply Z.out; clear Z K
 refine Zy ?_
 refine fp fun K Z => ?_
 go_simp
 try rw [if_pos (by omega)]
 rw [show ((1 : Int) + (i : Int)).toNat = 1 + i by omega]
 apply Z.out; clear Z K
 refine Zy ?_
 refine Fact.nil (Zq5 0 2 3 23 24 hf ?_)
 clear hf sS bB; intro fr1 hf sS
 try rw [show (1 : Int) + (i : Int) = ((1 + i : Nat) : Int) by omega]
 have hx2 := set_block (i := 1 + i) hx (.int .u8 (x8 : Int))
 have hb2 := hb.setCell (p := ⟨w.heap.size, 1 + i, none⟩) (Nat.le_refl _) (.int .u8 (x8 : Int))
 rw [lcs_set (by simp [leB_length]; omega)] at hx2
 have hst := lay_step (n := n) hlt hm8
 rw [HD.out, HX8.out] at hst
 rw [hst] at hx2
 obtain ⟨W2, hW2⟩ : ∃ x, wr.setCell ⟨w.heap.size, 1 + i, none⟩ (.int .u8 (x8 : Int)) = x := ⟨_, rfl⟩
 rw [hW2] at hx2 hb2
 try rw [hW2]
 clear hW2 hst z1 f1 hx hb
 refine Fact.block_normal (Zx hK10 (Zr [36] hf ?_))
 refine Zq5 0 2 3 23 24 hf ?_
 clear hf sS; intro fr1 hf sS
 refine Fact.then_normal ?_
 obtain ⟨s0, s2, s3, s23, s24⟩ := sS
 exact ⟨_, by have := HK.out; omega, i + 1, rfl, by omega, hf, s0, s2, s3, s23, by rw [s24]; rfl, hx2, hb2⟩)
 . (
 have hie : i = m := by have h9 := of_decide_eq_false hq; omega
 subst hie
 clear hq
 have hl9 : ((247 + i) :: (leB i n ++ List.replicate (8 - i) 0)).length = 9 := by simp [leB_length]; omega
 have z9 := lcs_last hx hl9
 have f9 := frozen_of (i := 9) hx
 refine Zo ?_
 refine Zt hK6 fun _ hK12 => ?_
 have bB := hf.B3 37 38 39
 refine Zy ?_
 refine fp fun K Z => ?_
 go_simp
 try simp (disch := omega) only [Fact.W]
 rw [show (1 : Int) + (i : Int) = ((1 + i : Nat) : Int) by omega]
 apply Z.out; clear Z K
 iterate 2 refine Zy ?_
 refine Fact.nil (Zq1 2 hf ?_)
 clear hf sS bB; intro fr1 hf s2
 try rw [show (1 : Int) + (i : Int) = ((1 + i : Nat) : Int) by omega]
 have hx2 := set_block (i := 9) hx (.int .i64 ((1 + i : Nat) : Int))
 have hb2 := hb.setCell (p := ⟨w.heap.size, 9, none⟩) (Nat.le_refl _) (.int .i64 ((1 + i : Nat) : Int))
 rw [lcs_setlast hl9] at hx2
 rw [lay_full HM.out hn] at hx2
 obtain ⟨W2, hW2⟩ : ∃ x, wr.setCell ⟨w.heap.size, 9, none⟩ (.int .i64 ((1 + i : Nat) : Int)) = x := ⟨_, rfl⟩
 rw [hW2] at hx2 hb2
 try rw [hW2]
 have hnl := numP_length (n := n) hn64
 clear hW2 z9 f9 hx hb
 refine Zt hK12 fun _ hK13 => ?_
 have bB := hf.b 40
 refine ⟨?_⟩
 refine wpList_load_row rfl 184 _ rfl w.heap.size (Fact.eval_tmp s2) 184 _ (0, 0) _ hx2 Tryz.underlying184 rfl (by rw [lcs_size hnl]; kernel_rfl) ?_
 refine Fact.L.out ?_
 clear bB
 refine Fact.reL (n := 41) (by simp only [Fact.G, hf.size]) hf.defers (fun fr1 hf1 hT => ?_)
 have hKp := Fact.h2 hT 2 40
 simp (decide := true) only [Fact.G, hf.size, reduceIte, s2] at hKp
 replace hf := hf1; clear hT hf1 s2
 obtain ⟨s2, s40⟩ := hKp
 refine ⟨?_⟩
 refine wpList_plain rfl fun KL hKL => ?_
 refine wp_store_row 184 _ _ rfl w.heap.size _ (Fact.eval_tmp s2) (Fact.eval_tmp s40) 184 _ hx2 (by rw [lcs_size hnl]; kernel_rfl) rfl (lcs_one _ _) (hKL _ _ ?_)
 refine Fact.L.out ?_
 refine Fact.nil (Zq1 2 hf ?_)
 clear hf s2 s40; intro fr1 hf s2
 rw [setRow_self _ _ _ 184 (0, 0) hx2]
 refine Zx hK13 (Zret ?_)
 refine ret_c rfl hf s2 hx2 Tryz.underlying184 rfl (by rw [lcs_size hnl]; kernel_rfl) ⟨?_, hb2⟩
 rfl))
open Go.RowKit
theorem tab_at {x : Nat} (h : x < 16) : (#[.int .u32 0, .int .u32 498536548, .int .u32 997073096, .int .u32 651767980, .int .u32 1994146192, .int .u32 1802195444, .int .u32 1303535960, .int .u32 1342533948, .int .u32 3988292384, .int .u32 4027552580, .int .u32 3604390888, .int .u32 3412177804, .int .u32 2607071920, .int .u32 2262029012, .int .u32 2685067896, .int .u32 3183342108] : Array Value)[x]? = some (.int .u32 (Crc.T x : Nat)) := by
 rcases x with _ | _ | _ | _ | _ | _ | _ | _ | _ | _ | _ | _ | _ | _ | _ | _ | x <;> first | rfl | omega
theorem tab_cell {w : World} {g x : Nat} {t : TypeId} (h : w.heap[g]? = some (.cells #[.int .u32 0, .int .u32 498536548, .int .u32 997073096, .int .u32 651767980, .int .u32 1994146192, .int .u32 1802195444, .int .u32 1303535960, .int .u32 1342533948, .int .u32 3988292384, .int .u32 4027552580, .int .u32 3604390888, .int .u32 3412177804, .int .u32 2607071920, .int .u32 2262029012, .int .u32 2685067896, .int .u32 3183342108] t (0, 0))) (hx : x < 16) : w.cell? ⟨g, x, none⟩ = some (.int .u32 (Crc.T x : Nat)) := by
 rw [cell_of_row _ _ _ _ _ _ h, tab_at hx]
theorem tab_lt {x : Nat} (h : x < 16) : Crc.T x < 4294967296 := (by decide : ∀ x, x < 16 -> Crc.T x < 4294967296) x h
theorem and15 (m : Nat) : m % 256 &&& 15 = m % 16 := by
 rw [show (15 : Nat) = 2 ^ 4 - 1 from rfl, Nat.and_two_pow_sub_one_eq_mod]
 omega
theorem steps75 (w : World)  : Calls Tryz.prog 139 #[] w fun e w1 => e = .returned (.agg #[.int .u32 0, .int .u32 498536548, .int .u32 997073096, .int .u32 651767980, .int .u32 1994146192, .int .u32 1802195444, .int .u32 1303535960, .int .u32 1342533948, .int .u32 3988292384, .int .u32 4027552580, .int .u32 3604390888, .int .u32 3412177804, .int .u32 2607071920, .int .u32 2262029012, .int .u32 2685067896, .int .u32 3183342108]) /\ Below w.heap.size w w1 := by
 refine Zn0 2 Tryz.func139 fun fr hf => ?_
 refine Ze fun _ hK1 => Zr [] hf ?_
 refine Zq1 0 hf ?_
 clear hf; intro fr1 hf s0
 generalize hW0 : w.alloc (.cells #[.int .u32 0, .int .u32 0, .int .u32 0, .int .u32 0, .int .u32 0, .int .u32 0, .int .u32 0, .int .u32 0, .int .u32 0, .int .u32 0, .int .u32 0, .int .u32 0, .int .u32 0, .int .u32 0, .int .u32 0, .int .u32 0] 222) = W0
 have hx0 : W0.heap[w.heap.size]? = some (.cells #[.int .u32 0, .int .u32 0, .int .u32 0, .int .u32 0, .int .u32 0, .int .u32 0, .int .u32 0, .int .u32 0, .int .u32 0, .int .u32 0, .int .u32 0, .int .u32 0, .int .u32 0, .int .u32 0, .int .u32 0, .int .u32 0] 222 (0, 0)) := by rw [<- hW0]; exact heap_alloc_new w _
 have hb0 : Below w.heap.size w W0 := by rw [<- hW0]; exact (Below.refl _ _).alloc (Nat.le_refl _) _
 clear hW0
 refine Zt hK1 fun _ hK2 => ?_
 have bB := hf.b 1
 refine Zy ?_
 clear bB
 refine Fact.reL (n := 2) (by simp only [Fact.G, hf.size]) hf.defers (fun fr1 hf1 hT => ?_)
 have hKp := Fact.h2 hT 0 1
 simp (decide := true) only [Fact.G, hf.size, reduceIte, s0] at hKp
 replace hf := hf1; clear hT hf1 s0
 obtain ⟨s0, s1⟩ := hKp
 refine ⟨?_⟩
 refine wpList_plain rfl fun KL hKL => ?_
 refine wp_store_row 222 _ _ rfl w.heap.size _ (Fact.eval_tmp s0) (Fact.eval_tmp s1) 222 _ hx0 (by kernel_rfl) rfl (by kernel_rfl) (hKL _ _ ?_)
 refine Fact.L.out ?_
 refine Fact.nil (Zq1 0 hf ?_)
 clear hf s0 s1; intro fr1 hf s0
 have hx1 := setRow_heap W0 w.heap.size _ #[.int .u32 0, .int .u32 498536548, .int .u32 997073096, .int .u32 651767980, .int .u32 1994146192, .int .u32 1802195444, .int .u32 1303535960, .int .u32 1342533948, .int .u32 3988292384, .int .u32 4027552580, .int .u32 3604390888, .int .u32 3412177804, .int .u32 2607071920, .int .u32 2262029012, .int .u32 2685067896, .int .u32 3183342108] 222 (0, 0) hx0
 have hb1 := below_setRow hb0 (Nat.le_refl _) #[.int .u32 0, .int .u32 498536548, .int .u32 997073096, .int .u32 651767980, .int .u32 1994146192, .int .u32 1802195444, .int .u32 1303535960, .int .u32 1342533948, .int .u32 3988292384, .int .u32 4027552580, .int .u32 3604390888, .int .u32 3412177804, .int .u32 2607071920, .int .u32 2262029012, .int .u32 2685067896, .int .u32 3183342108]
 refine Zx hK2 (Zret ?_)
 refine ret_c rfl hf s0 hx1 Tryz.underlying222 rfl (by kernel_rfl) ⟨rfl, hb1⟩
theorem by76 (w : World) (n : Nat) (hn : n < 4294967296) (hs : List Nat) (hlen : hs.length <= 1000000) (b c : Nat) (hc : ∀ (i x : Nat), hs[i]? = some x -> w.cell? ⟨b, i, none⟩ = some (.int .u8 x)) (hsm : ∀ x ∈ hs, x < 16) : Calls Tryz.prog 140 #[.agg #[.int .u32 0, .int .u32 498536548, .int .u32 997073096, .int .u32 651767980, .int .u32 1994146192, .int .u32 1802195444, .int .u32 1303535960, .int .u32 1342533948, .int .u32 3988292384, .int .u32 4027552580, .int .u32 3604390888, .int .u32 3412177804, .int .u32 2607071920, .int .u32 2262029012, .int .u32 2685067896, .int .u32 3183342108], .int .u32 n, .slice (some ⟨b, 0, none⟩) hs.length c] w fun e w1 => e = .returned (.int .u32 (hs.foldl Crc.nib n : Nat)) /\ Below w.heap.size w w1 := by
 refine Zn3 27 Tryz.func140 fun fr hf s0 s1 s2 => ?_
 refine Ze fun _ hK1 => Zr [] hf ?_
 refine Zq3 1 2 3 hf ?_
 clear hf s0 s1 s2; intro fr1 hf sS
 generalize hW0 : w.alloc (.cells #[.int .u32 0, .int .u32 498536548, .int .u32 997073096, .int .u32 651767980, .int .u32 1994146192, .int .u32 1802195444, .int .u32 1303535960, .int .u32 1342533948, .int .u32 3988292384, .int .u32 4027552580, .int .u32 3604390888, .int .u32 3412177804, .int .u32 2607071920, .int .u32 2262029012, .int .u32 2685067896, .int .u32 3183342108] 222) = W0
 have hx0 : W0.heap[w.heap.size]? = some (.cells #[.int .u32 0, .int .u32 498536548, .int .u32 997073096, .int .u32 651767980, .int .u32 1994146192, .int .u32 1802195444, .int .u32 1303535960, .int .u32 1342533948, .int .u32 3988292384, .int .u32 4027552580, .int .u32 3604390888, .int .u32 3412177804, .int .u32 2607071920, .int .u32 2262029012, .int .u32 2685067896, .int .u32 3183342108] 222 (0, 0)) := by rw [<- hW0]; exact heap_alloc_new w _
 have hb0 : Below w.heap.size w W0 := by rw [<- hW0]; exact (Below.refl _ _).alloc (Nat.le_refl _) _
 have hrow : ∀ (i x : Nat), hs[i]? = some x -> W0.cell? ⟨b, i, none⟩ = some (.int .u8 x) := fun i x hx => cL hb0 (hc i x hx)
 have HROW := Lib.hid hrow; have HS := Lib.hid hsm
 clear hW0 hrow hc hsm
 refine Zs hK1 fun _ hK2 => Ze fun _ hK3 => Zr [9] hf ?_
 refine Zq5 1 3 9 10 11 hf ?_
 clear hf sS; intro fr1 hf sS
 refine Zx hK3 (wp_block (wp_loop_ghost (fun gk fr wr => ∃ (i m : Nat), gk = hs.length - i /\ i <= hs.length /\ Fact.Fr 27 fr /\ fr.tmps[1]? = some (.int .u32 m) /\ fr.tmps[3]? = some (.pointer (some ⟨w.heap.size, 0, none⟩)) /\ fr.tmps[9]? = some (.slice (some ⟨b, 0, none⟩) hs.length c) /\ fr.tmps[10]? = some (.int .i64 hs.length) /\ fr.tmps[11]? = some (.int .i64 i) /\ m = (hs.take i).foldl Crc.nib n /\ m < 4294967296 /\ wr = W0) (hs.length) ?_ ?_))
 . (
 obtain ⟨s1, s3, s9, s10, s11⟩ := sS
 exact ⟨0, n, rfl, Nat.zero_le _, hf, s1, s3, s9, s10, s11, rfl, hn, rfl⟩)
 . (
 clear hf sS
 rintro gk fr wr ⟨i, m, hk, hi, hf, s1, s3, s9, s10, s11, hm, hm32, hwr⟩
 subst wr
 have HK := Lib.hid hk; have HM := Lib.hid hm; clear hk hm
 refine Ze fun _ hK4 => Zr [] hf ?_
 refine Zq6 1 3 9 10 11 12 hf ?_
 clear hf s1 s3 s9 s10 s11; intro fr1 hf sS
 refine Zs hK4 fun _ hK5 => Fact.cond_s sS.2.2.2.2.2 (fun hq => ?_) (fun hq => ?_)
 . (
 have hlt : i < hs.length := by have h9 := of_decide_eq_true hq; omega
 clear hq
 obtain ⟨h, hih⟩ : ∃ h, hs[i]? = some h := ⟨_, gE1 hlt⟩
 have c0 := HROW.out i h hih
 have hh16 := HS.out h (gM1 hih)
 have hst : (hs.take (i + 1)).foldl Crc.nib n = Crc.nib m h := by rw [List.take_add_one, hih, Option.toList_some, List.foldl_append, <- HM.out]; rfl
 obtain ⟨m2, hm2⟩ : ∃ x, Crc.nib m h = x := ⟨_, rfl⟩
 rw [hm2] at hst
 have hm232 : m2 < 4294967296 := by rw [<- hm2]; exact Crc.nib_lt _ _ hm32 hh16
 obtain ⟨x, hx⟩ : ∃ x, m % 16 ^^^ h = x := ⟨_, rfl⟩
 have hx16 : x < 16 := by rw [<- hx]; exact Nat.xor_lt_two_pow (n := 4) (by omega) hh16
 have z0 := tab_cell hx0 hx16
 obtain ⟨tx, htx⟩ : ∃ t, Crc.T x = t := ⟨_, rfl⟩
 have htx32 : tx < 4294967296 := by rw [<- htx]; exact tab_lt hx16
 rw [htx] at z0
 obtain ⟨q16, hq16⟩ : ∃ q, m / 16 = q := ⟨_, rfl⟩
 have hnib : q16 ^^^ tx = m2 := by rw [<- hm2, <- htx, <- hx, <- hq16]; rfl
 obtain ⟨r256, hr256⟩ : ∃ r, m % 256 = r := ⟨_, rfl⟩
 obtain ⟨r16, hr16⟩ : ∃ r, m % 16 = r := ⟨_, rfl⟩
 have hand : r256 &&& 15 = r16 := by rw [<- hr256, <- hr16]; exact and15 m
 rw [hr16] at hx
 have hr2 : r256 < 256 := by omega
 have hr1 : r16 < 16 := by omega
 have HST := Lib.hid hst; have HX := Lib.hid hx; have HQ := Lib.hid hq16; have HNIB := Lib.hid hnib; have HR := Lib.hid hr256; have HAND := Lib.hid hand; clear hst hx hq16 hnib hr256 hr16 hand hm2 htx hih
 refine wp_skip (Zs hK5 fun _ hK6 => wp_block (Ze fun _ hK7 => Zr [13, 14] hf ?_))
 refine Zq6 1 3 8 9 10 11 hf ?_
 clear hf sS; intro fr1 hf sS
 refine Zx hK7 (rg ?_)
 have bB := hf.B10 15 16 17 18 19 20 21 22 23 24
 refine Zy ?_
 refine fp fun K Z => ?_
 go_simp
 rw [show (m : Int) / 16 = ((m / 16 : Nat) : Int) by omega, HQ.out]
 apply Z.out; clear Z K
 refine Zy ?_
 refine fp fun K Z => ?_
 go_simp
 rw [wrap8, HR.out]
 apply Z.out; clear Z K
 refine fp fun K Z => ?_
 go_simp
 rw [show (15 : Int) = ((15 : Nat) : Int) from rfl, u8_and_nat r256 15 hr2 (by decide), HAND.out]
 apply Z.out; clear Z K
 refine Zy ?_
 refine fp fun K Z => ?_
 go_simp
 rw [u8_xor_nat r16 h (by omega) (by omega), HX.out]
 apply Z.out; clear Z K
 iterate 2 refine Zy ?_
 refine fp fun K Z => ?_
 go_simp
 rw [u32_xor_nat q16 tx (by have := HQ.out; omega) htx32, HNIB.out]
 apply Z.out; clear Z K
 refine Zy ?_
 refine Fact.nil (Zq5 1 3 9 10 11 hf ?_)
 clear hf sS bB; intro fr1 hf sS
 refine Fact.block_normal (Zx hK6 (Zr [25] hf ?_))
 refine Zq5 1 3 9 10 11 hf ?_
 clear hf sS; intro fr1 hf sS
 refine Fact.then_normal ?_
 obtain ⟨s1, s3, s9, s10, s11⟩ := sS
 exact ⟨_, by have := HK.out; omega, i + 1, m2, rfl, by omega, hf, s1, s3, s9, s10, by rw [s11]; rfl, HST.out.symm, hm232, rfl⟩)
 . (
 have hie : i = hs.length := by have h9 := of_decide_eq_false hq; omega
 have hme : m = hs.foldl Crc.nib n := by have h9 := HM.out; rwa [hie, List.take_length] at h9
 have HME := Lib.hid hme; clear hme hie hq
 refine Zo ?_
 refine Zs hK2 fun _ hK8 => Zr [26] hf ?_
 refine Zq1 6 hf ?_
 clear hf sS; intro fr1 hf s6
 refine Zx hK8 (Zret ?_)
 exact Fact.ret1 rfl hf s6 ⟨by rw [HME.out], hb0⟩))
open Go.RowKit
theorem xor_ones {n : Nat} (h : n < 4294967296) : 4294967295 ^^^ n = 4294967295 - n := by
 have h1 : (BitVec.allOnes 32 ^^^ BitVec.ofNat 32 n).toNat = 4294967295 ^^^ n := by
  rw [BitVec.toNat_xor, BitVec.toNat_allOnes, BitVec.toNat_ofNat, Nat.mod_eq_of_lt h]
 have h2 : (~~~ (BitVec.ofNat 32 n)).toNat = 4294967295 - n := by
  rw [BitVec.toNat_not, BitVec.toNat_ofNat, Nat.mod_eq_of_lt h]
 rw [<- h1, <- h2, BitVec.allOnes_xor]
theorem not32 {n : Nat} (h : n < 4294967296) : bits .xor .u32 (if IntKind.u32.signed = true then -1 else IntKind.u32.max) (n : Int) = ((4294967295 - n : Nat) : Int) := by
 have e : (if IntKind.u32.signed = true then (-1 : Int) else IntKind.u32.max) = ((4294967295 : Nat) : Int) := rfl
 rw [e, u32_xor_nat 4294967295 n (by decide) h, xor_ones h]
def PB2 (x y : Nat) : Stab.Pr := fun v w => ∃ b, v = .slice (some ⟨b, 0, none⟩) 2 2 /\ ∀ (i q : Nat), ([x, y] : List Nat)[i]? = some q -> w.cell? ⟨b, i, none⟩ = some (.int .u8 q)
theorem PB2.stable (x y : Nat) : Stab.Stable (PB2 x y) := fun v w w' hb ⟨b, h1, h2⟩ => ⟨b, h1, fun i q h => cL hb (h2 i q h)⟩
theorem PB2.new (w : World) (x y : Nat) (t : TypeId) : PB2 x y (.slice (some ⟨w.heap.size, 0, none⟩) 2 2) (w.alloc (.cells #[.int .u8 x, .int .u8 y] t)) := ⟨_, rfl, fun i q h => by
 rw [cell_of_row _ _ i _ t (0, 0) (heap_alloc_new w _)]
 rcases i with _ | _ | i
 ·injection h with h; rw [<- h]; rfl
 ·injection h with h; rw [<- h]; rfl
 ·simp at h⟩
theorem more53 (w : World) (n : Nat) (hn : n < 4294967296) (s : ByteArray) (hsz : s.size <= 1000000000) : Calls Tryz.prog 102 #[.int .u32 n, .string s] w fun e w1 => e = .returned (.int .u32 (4294967295 - Crc.run (4294967295 - n) (wl s) : Nat)) /\ Below w.heap.size w w1 := by
 refine Zn2 31 Tryz.func102 fun fr hf s0 s1 => ?_
 have hat2 : ∀ (i : Nat) (h : i < s.size), s[i].toNat = at_ s i := fun i h => (at_get h).symm
 refine Ze fun _ hK1 => Zr [] hf ?_
 refine Zq2 0 1 hf ?_
 clear hf s0 s1; intro fr1 hf sS
 refine Zt hK1 fun _ hK2 => ?_
 have bB := hf.B2 8 5
 refine Zc (steps75 w) ?_; rintro e W0 ⟨rfl, hb0⟩
 refine Zv ?_
 refine Zy ?_
 obtain ⟨s0, s1⟩ := sS
 clear bB
 refine Fact.reL (n := 31) (by simp only [Fact.G, hf.size]) hf.defers (fun fr1 hf1 hT => ?_)
 have hKp := Fact.h4 hT 0 1 5 8
 simp (decide := true) only [Fact.G, hf.size, reduceIte, s0, s1] at hKp
 replace hf := hf1; clear hT hf1 s0 s1
 obtain ⟨s0, s1, s5, s8⟩ := hKp
 refine ⟨?_⟩
 refine wpList_plain rfl fun KL hKL => ?_
 refine wp_store_row 222 _ _ rfl W0.heap.size _ (Fact.eval_tmp s5) (Fact.eval_tmp s8) 222 _ (heap_alloc_new W0 _) (by kernel_rfl) rfl (by kernel_rfl) (hKL _ _ ?_)
 rw [World.setRow_alloc_new]
 refine Fact.L.out ?_
 refine Fact.nil (Zq3 0 1 5 hf ?_)
 clear hf s0 s1 s5 s8; intro fr1 hf sS
 generalize hW1 : W0.alloc (.cells #[.int .u32 0, .int .u32 498536548, .int .u32 997073096, .int .u32 651767980, .int .u32 1994146192, .int .u32 1802195444, .int .u32 1303535960, .int .u32 1342533948, .int .u32 3988292384, .int .u32 4027552580, .int .u32 3604390888, .int .u32 3412177804, .int .u32 2607071920, .int .u32 2262029012, .int .u32 2685067896, .int .u32 3183342108] 222) = W1
 have hx1 : W1.heap[W0.heap.size]? = some (.cells #[.int .u32 0, .int .u32 498536548, .int .u32 997073096, .int .u32 651767980, .int .u32 1994146192, .int .u32 1802195444, .int .u32 1303535960, .int .u32 1342533948, .int .u32 3988292384, .int .u32 4027552580, .int .u32 3604390888, .int .u32 3412177804, .int .u32 2607071920, .int .u32 2262029012, .int .u32 2685067896, .int .u32 3183342108] 222 (0, 0)) := by rw [<- hW1]; exact heap_alloc_new W0 _
 have hb1 : Below w.heap.size w W1 := hb0.trans (by rw [<- hW1]; exact (Below.refl _ _).alloc hb0.size _)
 have HX1 := Lib.hid hx1; clear hW1 hb0 hx1
 refine Zt hK2 fun _ hK3 => ?_
 have bB := hf.B2 9 10
 refine Zy ?_
 refine fp fun K Z => ?_
 go_simp
 rw [not32 hn]
 apply Z.out; clear Z K
 refine Zy ?_
 refine Fact.nil (Zq3 1 5 6 hf ?_)
 clear hf sS bB; intro fr1 hf sS
 refine Zs hK3 fun _ hK4 => Ze fun _ hK5 => Zr [11] hf ?_
 refine Zq5 1 5 6 12 13 hf ?_
 clear hf sS; intro fr1 hf sS
 refine Zx hK5 (wp_block (wp_loop_ghost (fun gk fr wr => ∃ (i m : Nat), gk = s.size - i /\ i <= s.size /\ Fact.Fr 31 fr /\ fr.tmps[1]? = some (.string s) /\ fr.tmps[5]? = some (.pointer (some ⟨W0.heap.size, 0, none⟩)) /\ fr.tmps[6]? = some (.int .u32 m) /\ fr.tmps[12]? = some (.int .i64 s.size) /\ fr.tmps[13]? = some (.int .i64 i) /\ m = Crc.run (4294967295 - n) ((wl s).take i) /\ m < 4294967296 /\ Below W1.heap.size W1 wr) (s.size) ?_ ?_))
 . (
 obtain ⟨s1, s5, s6, s12, s13⟩ := sS
 exact ⟨0, _, rfl, Nat.zero_le _, hf, s1, s5, s6, s12, s13, rfl, by omega, Below.refl _ _⟩)
 . (
 clear hf sS
 rintro gk fr wr ⟨i, m, hk, hi, hf, s1, s5, s6, s12, s13, hm, hm32, hb⟩
 have HK := Lib.hid hk; have HM := Lib.hid hm; clear hk hm
 refine Ze fun _ hK6 => Zr [] hf ?_
 refine Zq6 1 5 6 12 13 14 hf ?_
 clear hf s1 s5 s6 s12 s13; intro fr1 hf sS
 refine Zs hK6 fun _ hK7 => Fact.cond_s sS.2.2.2.2.2 (fun hq => ?_) (fun hq => ?_)
 . (
 have hlt : i < s.size := by have h9 := of_decide_eq_true hq; omega
 clear hq
 obtain ⟨c, hc⟩ : ∃ c, at_ s i = c := ⟨_, rfl⟩
 have hc8 : c < 256 := by rw [<- hc]; exact at_lt s i
 have hst : Crc.run (4294967295 - n) ((wl s).take (i + 1)) = Crc.nib (Crc.nib m (c % 16)) (c / 16) := by rw [List.take_add_one, wl_at hlt, Option.toList_some, hc]; unfold Crc.run at *; rw [List.foldl_append, <- HM.out]; exact Crc.byte_nib m c hc8
 obtain ⟨m2, hm2⟩ : ∃ x, Crc.nib (Crc.nib m (c % 16)) (c / 16) = x := ⟨_, rfl⟩
 rw [hm2] at hst
 have hm232 : m2 < 4294967296 := by rw [<- hm2]; exact Crc.nib_lt _ _ (Crc.nib_lt _ _ hm32 (by omega)) (by omega)
 obtain ⟨x, hx⟩ : ∃ x, c % 16 = x := ⟨_, rfl⟩
 obtain ⟨y, hy⟩ : ∃ y, c / 16 = y := ⟨_, rfl⟩
 have hxy : x < 16 /\ y < 16 := by omega
 have hfold : ([x, y] : List Nat).foldl Crc.nib m = m2 := by rw [<- hm2, hx, hy]; rfl
 have hand : c &&& 15 = x := by rw [<- hx, <- and15, Nat.mod_eq_of_lt hc8]
 have hsm : ∀ q ∈ ([x, y] : List Nat), q < 16 := by intro q hq; simp at hq; rcases hq with rfl | rfl <;> omega
 have HC := Lib.hid hc; have HX := Lib.hid hx; have HY := Lib.hid hy; have HF := Lib.hid hfold; have HA := Lib.hid hand; have HSM := Lib.hid hsm; have HST := Lib.hid hst; clear hc hx hy hfold hand hsm hst hm2
 have hxr := (hb.block _ (heap_lt HX1.out)).trans HX1.out
 have HXR := Lib.hid hxr; clear hxr
 refine wp_skip (Zs hK7 fun _ hK8 => wp_block (Ze fun _ hK9 => Zr [15] hf ?_))
 refine Zq6 1 5 6 7 12 13 hf ?_
 clear hf sS; intro fr1 hf sS
 refine Zx hK9 ?_
 obtain ⟨s1, s5, s6, s7, s12, s13⟩ := sS
 refine Stab.tb 31 fun hok => ?_
 apply Stab.tq 0 _ hf hok
 . (
 intro fr1 w1 hh hd hk K Z
 have s5 := Stab.O hh s5
 clear hd
 exact wp_load_row 222 _ rfl W0.heap.size (Fact.eval_tmp s5) 222 _ (0, 0) _ ((hh.ext.block _ (heap_lt HXR.out)).trans HXR.out) Tryz.underlying222 rfl (by kernel_rfl) (Z.out _ rfl _ _ (Below.refl _ _) rfl))
 refine Stab.mvP (k := 1) (j := 12) s6 hf.size hok.out rfl rfl rfl (.inl rfl) [] (by kernel_rfl) (by kernel_rfl) ?_
 refine Stab.mO 2 s1 hf hok ?_
 refine Stab.mO 3 s7 hf hok ?_
 apply Stab.tq 4 _ hf hok
 . (
 intro fr1 w1 hh hd hk K Z
 have s18 := Stab.v 2 1 hd hk []
 have s19 := Stab.v 3 0 hd hk []
 clear hd
 go_simp
 try rw [HC.out]
 exact Stab.k Z)
 apply Stab.tq 5 _ hf hok
 . (
 intro fr1 w1 hh hd hk K Z
 have s20 := Stab.v 4 0 hd hk []
 clear hd
 go_simp
 rw [show (15 : Int) = ((15 : Nat) : Int) from rfl, u8_and_nat c 15 hc8 (by decide), HA.out]
 exact Stab.k Z)
 refine Stab.mO 6 s1 hf hok ?_
 refine Stab.mO 7 s7 hf hok ?_
 apply Stab.tq 8 _ hf hok
 . (
 intro fr1 w1 hh hd hk K Z
 have s22 := Stab.v 6 1 hd hk []
 have s23 := Stab.v 7 0 hd hk []
 clear hd
 go_simp
 try rw [HC.out]
 exact Stab.k Z)
 apply Stab.tq 9 _ hf hok
 . (
 intro fr1 w1 hh hd hk K Z
 have s24 := Stab.v 8 0 hd hk []
 clear hd
 go_simp
 rw [show (c : Int) / 16 = ((c / 16 : Nat) : Int) by omega, HY.out]
 exact Stab.k Z)
 refine Stab.todo_op (k := 10) (n := 31) (PB2 x y) hf.size hok.out rfl (PB2.stable x y) ?_ ?_
 . (
 intro fr1 w1 hh hd hk K Z
 refine Stab.pl ?_
 have s21 := Stab.v 5 4 hd hk []
 have s25 := Stab.v 9 0 hd hk []
 clear hd
 go_simp
 exact Z.out _ rfl _ _ ((Below.refl _ _).alloc (Nat.le_refl _) _) (PB2.new _ _ _ _))
 apply Stab.tq 11 _ hf hok
 . (
 intro fr1 w1 hh hd hk K Z
 have s16 := Stab.v 0 10 hd hk []
 have s17 := Stab.v 1 9 hd hk []
 obtain ⟨x26, s26, hp26⟩ := Stab.use (j := 10) (m := 0) hd hk rfl [] (by kernel_rfl) rfl rfl rfl
 obtain ⟨b26, rfl, hc26⟩ := hp26
 clear hd
 go_simp
 go_at_call 140; refine (by76 w1 m hm32 [x, y] (by simp) b26 2 hc26 HSM.out).mono ?_; rintro e w2 ⟨rfl, hb⟩
 rw [HF.out]
 exact Z.out _ rfl _ _ hb rfl)
 refine Stab.mN 12 11 0 hf hok [] ?_
 refine Stab.E hf hok (fun _ _ h g => ad (Stab.O h s1) (ad (Stab.O h s5) (ad (Stab.f 12 0 g) (ad (Stab.O h s12) (Stab.O h s13))))) ?_
 clear hf hok s1 s5 s6 s7 s12 s13; intro fr1 w1 hf hx sS
 refine Fact.block_normal (Zx hK8 (Zr [28] hf ?_))
 refine Zq5 1 5 6 12 13 hf ?_
 clear hf sS; intro fr1 hf sS
 refine Fact.then_normal ?_
 obtain ⟨s1, s5, s6, s12, s13⟩ := sS
 exact ⟨_, by have := HK.out; omega, i + 1, m2, rfl, by omega, hf, s1, s5, s6, s12, by rw [s13]; rfl, HST.out.symm, hm232, hb.trans (hx.mono hb.size)⟩)
 . (
 have hie : i = s.size := by have h9 := of_decide_eq_false hq; omega
 have hme : m = Crc.run (4294967295 - n) (wl s) := by have h9 := HM.out; rwa [hie, List.take_of_length_le (by rw [wl_length]; omega)] at h9
 have HME := Lib.hid hme; clear hme hie hq
 refine Zo ?_
 refine Zt hK4 fun _ hK10 => ?_
 have bB := hf.B2 29 30
 refine Zy ?_
 refine fp fun K Z => ?_
 go_simp
 rw [not32 hm32]
 apply Z.out; clear Z K
 refine Zy ?_
 refine Fact.nil (Zq1 4 hf ?_)
 clear hf sS bB; intro fr1 hf s4
 refine Zx hK10 (Zret ?_)
 exact Fact.ret1 rfl hf s4 ⟨by rw [HME.out], hb1.trans (hb.mono hb1.size)⟩))
theorem sum36 (w : World) (s : ByteArray) (hsz : s.size <= 1000000000) : Calls Tryz.prog 63 #[.string s] w fun e w1 => e = .returned (.int .u32 (Crc.sum (wl s) : Nat)) /\ Below w.heap.size w w1 := by
 refine Zn1 5 Tryz.func63 fun fr hf s0 => ?_
 refine Ze fun _ hK1 => Zr [] hf ?_
 refine Zq1 0 hf ?_
 clear hf s0; intro fr1 hf s0
 refine Zt hK1 fun _ hK2 => ?_
 have bB := hf.B2 3 4
 refine Zy ?_
 refine Zc (more53 w 0 (by decide) s hsz) ?_; rintro e w1 ⟨rfl, hb1⟩
 refine Zv ?_
 refine Zy ?_
 refine Fact.nil (Zq1 2 hf ?_)
 clear hf s0 bB; intro fr1 hf s2
 refine Zx hK2 (Zret ?_)
 exact Fact.ret1 rfl hf s2 ⟨rfl, hb1⟩
open Go.RowKit
theorem wp_conv {o : Oper} {a : Act} {w : World} {K : Act -> World -> Prop} {Q : Exit -> Act -> World -> Prop} (x : Operand) (s : ByteArray) (ho : o.op = .convert 9 31 x) (hx : a.eval x = .string s) (hs : s.size <= maxLen)
  (h : ∀ v w', OM w' w.heap.size v (wl s) -> Below w.heap.size w w' -> K (a.put o.dst v) w') : Oper.wp Tryz.prog o a w K Q := by
 obtain ⟨v, w', hr, hom, hb⟩ := conv_text w s hs
 unfold Oper.wp execOp
 simp only [ho, hx, Sem.run_bind, hr, Result.andThen_ok, Sem.run_pure]
 exact h v w' hom hb
theorem four_step {n i : Nat} (h : i < 4) : (Crc.four n).take (i + 1) = (Crc.four n).take i ++ [n / 256 ^ i % 256] := by
 rcases i with _ | _ | _ | _ | i <;> first | rfl | omega | (simp [Crc.four])
theorem wl_extract (s : ByteArray) (i j : Nat) : wl (s.extract i j) = ((wl s).take j).drop i := by
 unfold wl
 rw [ByteArray.data_extract, Array.toList_extract, <- List.map_take, <- List.map_drop, List.drop_take]
theorem cut_bl {s : ByteArray} {n : Nat} : s.extract 0 n = bl ((wl s).take n) := by
 refine wl_inj ?_
 rw [wl_extract, wl_bl (fun x hx => wl_lt _ x (List.mem_of_mem_take hx)), List.drop_zero]
theorem str_eq9 {a b : ByteArray} (h : (!(a.toList == b.toList)) = false) : a = b := by
 have h1 : a.toList = b.toList := by simpa using h
 refine wl_inj ?_
 unfold wl
 rw [<- ByteArray.toList_eq, <- ByteArray.toList_eq, h1]
theorem four_small (n : Nat) : Small (Crc.four n) := by
 intro x hx
 simp [Crc.four] at hx
 rcases hx with rfl | rfl | rfl | rfl <;> omega
theorem seal_small {l : List Nat} (h : Small l) : Small (Crc.seal' l) := h.append (four_small _)
def openR : Option (List Nat) -> ByteArray × Bool
 | none => (⟨#[]⟩, false)
 | some l => (bl l, true)
theorem open_short {l : List Nat} (h : l.length < 4) : Crc.opened l = none := by
 unfold Crc.opened
 rw [if_neg (by omega)]
theorem open_not {l : List Nat} {m : Nat} (h : l.length = m + 4) (hn : ¬ Crc.seal' (l.take m) = l) : Crc.opened l = none := by
 unfold Crc.opened
 rw [h, Nat.add_sub_cancel, if_neg (fun h => hn h.2)]
theorem open_yes {l : List Nat} {m : Nat} (h : l.length = m + 4) (hn : Crc.seal' (l.take m) = l) : Crc.opened l = some (l.take m) := by
 unfold Crc.opened
 rw [h, Nat.add_sub_cancel, if_pos ⟨by omega, hn⟩]
theorem seal17 (w : World) (s : ByteArray) (hsz9 : s.size <= 900000000) : Calls Tryz.prog 37 #[.string s] w fun e w1 => e = .returned (.string (bl (Crc.seal' (wl s)))) /\ Below w.heap.size w w1 := by
 have hsz : s.size <= 1000000000 := by omega
 refine Zn1 24 Tryz.func37 fun fr hf s0 => ?_
 refine Ze fun _ hK1 => Zr [] hf ?_
 refine Zq1 0 hf ?_
 clear hf s0; intro fr1 hf s0
 refine Zt hK1 fun _ hK2 => ?_
 have bB := hf.B2 6 7
 refine Zy ?_
 clear bB
 refine Fact.reL (n := 24) (by simp only [Fact.G, hf.size]) hf.defers (fun fr1 hf1 hT => ?_)
 have hKp := Fact.h2 hT 0 6
 simp (decide := true) only [Fact.G, hf.size, reduceIte, s0] at hKp
 replace hf := hf1; clear hT hf1 s0
 obtain ⟨s0, s6⟩ := hKp
 have bB := hf.b 7
 refine ⟨?_⟩
 refine wpList_plain rfl fun KL hKL => ?_
 refine wp_conv _ s rfl (Fact.eval_tmp s6) (by unfold maxLen; omega) (fun v1 w1 hom1 hb1 => hKL _ _ ?_)
 refine Fact.L.out ?_
 refine Zy ?_
 refine Fact.nil (Zq2 0 3 hf ?_)
 clear hf s0 s6 bB; intro fr1 hf sS
 have hox1 : OX w1 w.heap.size v1 (wl s) := .inr hom1
 clear hom1
 refine Zt hK2 fun _ hK3 => ?_
 have bB := hf.B2 8 9
 refine Zy ?_
 refine Zc (sum36 w1 s hsz) ?_; rintro e w2 ⟨rfl, hb2⟩
 have hox2 := hox1.later hb2
 have hb02 := hb1.trans (hb2.mono hb1.size)
 obtain ⟨n, hn⟩ : ∃ n, Crc.sum (wl s) = n := ⟨_, rfl⟩
 have hn32 : n < 4294967296 := by rw [<- hn]; exact Crc.sum_lt _
 rw [hn]
 have HN := Lib.hid hn; clear hn
 refine Zv ?_
 refine Zy ?_
 refine Fact.nil (Zq2 3 4 hf ?_)
 clear hf sS bB; intro fr1 hf sS
 refine Zs hK3 fun _ hK4 => Ze fun _ hK5 => Zr [] hf ?_
 refine Zq3 3 4 10 hf ?_
 clear hf sS; intro fr1 hf sS
 refine Zx hK5 (wp_block (wp_loop_ghost (fun gk fr wr => ∃ (i : Nat) (V : Value), gk = 4 - i /\ i <= 4 /\ Fact.Fr 24 fr /\ fr.tmps[3]? = some V /\ fr.tmps[4]? = some (.int .u32 n) /\ fr.tmps[10]? = some (.int .i64 i) /\ OX wr w.heap.size V (wl s ++ (Crc.four n).take i) /\ Below w.heap.size w wr) (4) ?_ ?_))
 . (
 obtain ⟨s3, s4, s10⟩ := sS
 exact ⟨0, _, rfl, by omega, hf, s3, s4, s10, by rw [List.take_zero, List.append_nil]; exact hox2, hb02⟩)
 . (
 clear hf sS
 rintro gk fr wr ⟨i, V, hk, hi, hf, s3, s4, s10, hox, hb⟩
 have HK := Lib.hid hk; clear hk
 refine Ze fun _ hK6 => Zr [] hf ?_
 refine Zq4 3 4 10 11 hf ?_
 clear hf s3 s4 s10; intro fr1 hf sS
 refine Zs hK6 fun _ hK7 => Fact.cond_s sS.2.2.2 (fun hq => ?_) (fun hq => ?_)
 . (
 have hlt : i < 4 := by have h9 := of_decide_eq_true hq; omega
 clear hq
 obtain ⟨d, hd⟩ : ∃ d, n / 256 ^ i = d := ⟨_, rfl⟩
 obtain ⟨x8, hx8⟩ : ∃ x, d % 256 = x := ⟨_, rfl⟩
 have hst : (Crc.four n).take (i + 1) = (Crc.four n).take i ++ [x8] := by rw [<- hx8, <- hd]; exact four_step hlt
 have HD := Lib.hid hd; have HX := Lib.hid hx8; have HST := Lib.hid hst; clear hd hx8 hst
 have hl9 : (wl s ++ (Crc.four n).take i).length <= 1000000000 := by rw [List.length_append, wl_length, List.length_take]; omega
 refine wp_skip (Zs hK7 fun _ hK8 => wp_block (Ze fun _ hK9 => Zr [12] hf ?_))
 refine Zq4 3 4 5 10 hf ?_
 clear hf sS; intro fr1 hf sS
 refine Zx hK9 (rg ?_)
 have bB := hf.B8 13 14 15 16 17 18 19 20
 iterate 4 refine Zy ?_
 refine fp fun K Z => ?_
 go_simp
 rw [shr_cut, HD.out]
 apply Z.out; clear Z K
 refine fp fun K Z => ?_
 go_simp
 rw [wrap8, HX.out]
 apply Z.out; clear Z K
 refine Zy ?_
 obtain ⟨s3, s4, s5, s10⟩ := sS
 clear bB
 refine Fact.reL (n := 24) (by simp only [Fact.G, hf.size]) hf.defers (fun fr1 hf1 hT => ?_)
 have hKp := Fact.h5 hT 3 4 10 13 19
 simp (decide := true) only [Fact.G, hf.size, reduceIte, s3, s4, s10] at hKp
 replace hf := hf1; clear hT hf1 s3 s4 s5 s10
 obtain ⟨s3, s4, s10, s13, s19⟩ := hKp
 have bB := hf.b 20
 refine ⟨?_⟩
 refine wpList_plain rfl fun KL hKL => ?_
 refine wp_appx _ _ rfl w.heap.size V _ (Fact.eval_tmp s13) (hox.later ((Below.refl _ _).alloc (Nat.le_refl _) _)) wr.heap.size x8 (Fact.eval_tmp s19) (by rw [cR1 0 (heap_alloc_new wr _)]; rfl) hl9 (by have := hb.size; simp; omega) (fun v8 w8 hox8 hg8 => hKL _ _ ?_)
 refine Fact.L.out ?_
 refine Zy ?_
 refine Fact.nil (Zq3 3 4 10 hf ?_)
 clear hf s3 s4 s10 s13 s19 bB; intro fr1 hf sS
 have hb8 := (hb.alloc hb.size _).grown hg8 (by have := hb.size; simp; omega) (fun kk hkk => (hox.lt kk hkk).1)
 rw [List.append_assoc, <- HST.out] at hox8
 refine Fact.block_normal (Zx hK8 (Zr [21] hf ?_))
 refine Zq3 3 4 10 hf ?_
 clear hf sS; intro fr1 hf sS
 refine Fact.then_normal ?_
 obtain ⟨s3, s4, s10⟩ := sS
 exact ⟨_, by have := HK.out; omega, i + 1, v8, rfl, by omega, hf, s3, s4, by rw [s10]; rfl, hox8, hb8⟩)
 . (
 have hie : i = 4 := by have h9 := of_decide_eq_false hq; omega
 subst hie
 rw [show (Crc.four n).take 4 = Crc.four n from rfl] at hox
 have hcv := OX.conv hox
 have hres : wl s ++ Crc.four n = Crc.seal' (wl s) := by unfold Crc.seal'; rw [HN.out]
 rw [hres] at hcv
 clear hq hres
 refine Zo ?_
 refine Zs hK4 fun _ hK10 => Zr [22, 23] hf ?_
 refine Zq1 2 hf ?_
 clear hf sS; intro fr1 hf s2
 refine Zx hK10 (Zret ?_)
 exact Fact.ret1 rfl hf s2 ⟨rfl, hb⟩))
theorem open32 (w : World) (s : ByteArray) (hsz : s.size <= 900000000) : Calls Tryz.prog 31 #[.string s] w fun e w1 => e = .returned (.tuple #[.string (openR (Crc.opened (wl s))).1, .bool (openR (Crc.opened (wl s))).2]) /\ Below w.heap.size w w1 := by
 refine Zn1 21 Tryz.func31 fun fr hf s0 => ?_
 refine Ze fun _ hK1 => Zr [] hf ?_
 refine Zq1 0 hf ?_
 clear hf s0; intro fr1 hf s0
 refine Zx hK1 ?_
 rcases Nat.lt_or_ge s.size 4 with h4 | h4
 . (
 have q1 : decide ((s.size : Int) - 4 < 0) = true := decide_eq_true (by omega)
 refine Ze fun _ hK2 => Zr [5, 6, 7] hf ?_
 refine Zq2 0 4 hf ?_
 clear hf s0; intro fr1 hf sS
 refine Zs hK2 fun _ hK3 => Ze fun _ hK4 => rg ?_
 have bB := hf.B9 8 9 10 11 12 13 14 15 16
 iterate 3 refine Zy ?_
 refine Zk ?_ (hv := by simp (decide := true) only [Fact.G, reduceIte, hf.size, Fact.N, q1, Fact.N])
 refine Zk ?_ (hv := by simp (decide := true) only [Fact.G, reduceIte, hf.size, Fact.N, q1, Fact.N])
 refine Zk ?_ (hv := by simp (decide := true) only [Fact.G, reduceIte, hf.size, Fact.N, q1, Fact.N])
 refine Zk ?_ (hv := by simp (decide := true) only [Fact.G, reduceIte, hf.size, Fact.N, q1, Fact.N])
 refine Zk ?_ (hv := by simp (decide := true) only [Fact.G, reduceIte, hf.size, Fact.N, q1, Fact.N])
 refine Zk ?_ (hv := by simp (decide := true) only [Fact.G, reduceIte, hf.size, Fact.N, q1, Fact.N])
 refine Zy ?_
 refine Fact.nil (Zq3 0 4 17 hf ?_)
 clear hf sS bB; intro fr1 hf sS
 refine Zx hK4 (Fact.cond_t sS.2.2 ?_)
 refine Ze fun _ hK5 => Zr [] hf ?_
 refine Zq2 2 3 hf ?_
 clear hf sS; intro fr1 hf sS
 refine Zx hK5 (Zret ?_)
 refine Fact.ret2 rfl hf sS.1 sS.2 ⟨?_, Below.refl _ _⟩
 rw [open_short (by rw [wl_length]; exact h4)]
 rfl)
 . (
 obtain ⟨m, hm⟩ : ∃ m, s.size = m + 4 := ⟨s.size - 4, by omega⟩
 have hml : (s.size : Int) - 4 = (m : Int) := by omega
 have q1 : decide ((m : Int) < 0) = false := decide_eq_false (by omega)
 have hbl : s.extract 0 m = bl ((wl s).take m) := cut_bl
 obtain ⟨p, hp⟩ : ∃ p, bl ((wl s).take m) = p := ⟨_, rfl⟩
 have hpw : wl p = (wl s).take m := by rw [<- hp]; exact wl_bl (fun x hx => wl_lt s x (List.mem_of_mem_take hx))
 have hpz : p.size <= 900000000 := by rw [<- wl_length p, hpw, List.length_take]; omega
 have HML := Lib.hid hml; have HM := Lib.hid hm; have HBL := Lib.hid (hbl.trans hp); have HPW := Lib.hid hpw; clear hml hbl hp hpw hm
 refine Ze fun _ hK6 => rg ?_
 have bB := hf.B3 5 6 7
 iterate 2 refine Zy ?_
 refine fp fun K Z => ?_
 go_simp
 try simp (disch := omega) only [Fact.W]
 try simp (disch := omega) only [Fact.W]
 rw [HML.out]
 apply Z.out; clear Z K
 refine Zy ?_
 refine Fact.nil (Zq2 0 4 hf ?_)
 clear hf s0 bB; intro fr1 hf sS
 refine Zs hK6 fun _ hK7 => Ze fun _ hK8 => rg ?_
 have bB := hf.B9 8 9 10 11 12 13 14 15 16
 iterate 3 refine Zy ?_
 refine Zg ?_ (hv := by simp (decide := true) only [Fact.G, reduceIte, hf.size, q1, Fact.N])
 refine Zg ?_ (hv := by simp (decide := true) only [Fact.G, reduceIte, hf.size, q1, Fact.N])
 refine og 2 10 false ?_ fun K Z => ?_
 . (
 simp (decide := true) only [Fact.G, reduceIte, hf.size, q1, Fact.N])
 go_simp
 try rw [if_pos (by have := HM.out; omega)]
 try rw [Oper.upon_value]
 rw [HBL.out]
 apply Z.out; clear Z K
 refine og 2 10 false ?_ fun K Z => ?_
 . (
 simp (decide := true) only [Fact.G, reduceIte, hf.size, q1, Fact.N])
 go_simp
 go_at_call 37; refine (seal17 w p hpz).mono ?_; rintro e w1 ⟨rfl, hb1⟩
 rw [HPW.out]
 generalize hq9 : bl (Crc.seal' ((wl s).take m)) = q
 have HQ := Lib.hid hq9; clear hq9
 try dsimp only
 apply Z.out; clear Z K
 refine Zg ?_ (hv := by simp (decide := true) only [Fact.G, reduceIte, hf.size, q1, Fact.N])
 refine Zg ?_ (hv := by simp (decide := true) only [Fact.G, reduceIte, hf.size, q1, Fact.N])
 refine Zy ?_
 refine Fact.nil (Zq3 0 4 17 hf ?_)
 clear hf sS bB; intro fr1 hf sS
 refine Zx hK8 (Fact.cond_s sS.2.2 (fun hq => ?_) (fun hq => ?_))
 . (
 have hne : ¬ (Crc.seal' ((wl s).take m) = wl s) := fun e => by have h9 := HQ.out; rw [e, bl_wl] at h9; rw [h9] at hq; simp at hq
 have HNE := Lib.hid hne; clear hne hq
 refine Ze fun _ hK9 => Zr [] hf ?_
 refine Zq2 2 3 hf ?_
 clear hf sS; intro fr1 hf sS
 refine Zx hK9 (Zret ?_)
 refine Fact.ret2 rfl hf sS.1 sS.2 ⟨?_, hb1⟩
 rw [open_not (m := m) (by rw [wl_length]; exact HM.out) HNE.out]
 rfl)
 . (
 have heq : Crc.seal' ((wl s).take m) = wl s := by have h8 : q = s := str_eq9 hq; have h9 := HQ.out; rw [h8] at h9; have h7 := congrArg wl h9; rw [wl_bl (seal_small (fun x hx => wl_lt s x (List.mem_of_mem_take hx)))] at h7; exact h7
 have HEQ := Lib.hid heq; clear heq hq
 refine wp_skip (Zt hK7 fun _ hK10 => ?_)
 have bB := hf.B3 18 19 20
 iterate 2 refine Zy ?_
 refine fp fun K Z => ?_
 go_simp
 try rw [if_pos (by have := HM.out; omega)]
 try rw [Oper.upon_value]
 rw [HBL.out]
 apply Z.out; clear Z K
 iterate 2 refine Zy ?_
 refine Fact.nil (Zq2 2 3 hf ?_)
 clear hf sS bB; intro fr1 hf sS
 refine Zx hK10 (Zret ?_)
 refine Fact.ret2 rfl hf sS.1 sS.2 ⟨?_, hb1⟩
 rw [open_yes (m := m) (by rw [wl_length]; exact HM.out) HEQ.out]
 simp only [openR]
 rw [<- HPW.out, bl_wl]))
end Dw
end Go.Proofs.YtcddnmhmcieebaaGreatDoor
