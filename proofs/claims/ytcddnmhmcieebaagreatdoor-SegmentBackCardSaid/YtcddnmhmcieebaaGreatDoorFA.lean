/- fst: sums. -/
import Derived.Test.YtcddnmhmcieebaaGreatDoorY9
import Derived.Test.YtcddnmhmcieebaaGreatDoorY11
import Derived.Test.YtcddnmhmcieebaaGreatDoorY17
import Derived.Test.YtcddnmhmcieebaaGreatDoorY14
import Derived.Laws.Externs
import Derived.WalkSmall
import Derived.Test.YtcddnmhmcieebaaGreatDoorTools
namespace Go.Proofs.YtcddnmhmcieebaaGreatDoor
set_option maxHeartbeats 4000000
set_option maxRecDepth 100000
open Go.RowKit
set_option linter.unusedSimpArgs false
set_option linter.unusedVariables false
set_option linter.unnecessarySimpa false
namespace Dw
theorem two_boxesT {w W : World} {a b : Array Value} {t u : TypeId} (h : (w.alloc (.cells a t)).alloc (.cells b u) = W) : Below w.heap.size w W /\ W.heap[w.heap.size]? = some (.cells a t (0, 0)) /\ W.heap[w.heap.size + 1]? = some (.cells b u (0, 0)) := by
 subst h
 refine ⟨((Below.refl _ w).alloc (Nat.le_refl _) _).alloc (by simp) _, ?_, ?_⟩
 ·rw [heap_get, if_neg (by simp), heap_get, if_pos rfl]
 ·rw [heap_get, if_pos (by simp)]
theorem boxes3T {w W : World} {a b c : Array Value} {t u v : TypeId} (h : ((w.alloc (.cells a t)).alloc (.cells b u)).alloc (.cells c v) = W) : Below w.heap.size w W /\ W.heap[w.heap.size]? = some (.cells a t (0, 0)) /\ W.heap[w.heap.size + 1]? = some (.cells b u (0, 0)) /\ W.heap[w.heap.size + 1 + 1]? = some (.cells c v (0, 0)) := by
 subst h
 refine ⟨(((Below.refl _ _).alloc (Nat.le_refl _) _).alloc (by simp) _).alloc (by simp; omega) _, ?_, ?_, ?_⟩
 ·rw [heap_get, if_neg (by simp; omega), heap_get, if_neg (by simp), heap_get, if_pos rfl]
 ·rw [heap_get, if_neg (by simp), heap_get, if_pos (by simp)]
 ·rw [heap_get, if_pos (by simp)]
structure Most where
 n : Nat
 fits : Bool
 any : Bool
def Most.val (m : Most) : Value := .agg #[.int .u64 m.n, .bool m.fits, .bool m.any]
def Most.or (m x : Most) : Most := if x.any then (if m.any then ⟨max m.n x.n, m.fits && x.fits, true⟩ else x) else m
def lngW (x c : Int) : Int := if c < 0 then x else max x (c + 1)
theorem add64_run {n k sm cr : Nat} (hs : (n + k) % M64 = sm) (hc : (n + k) / M64 = cr) (w : World) : (callFunc 142 #[.int .u64 n, .int .u64 k, .int .u64 0]).run Tryz.prog w = .ok (.value (.tuple #[.int .u64 sm, .int .u64 cr])) w := by
 rw [run_callFunc_extern Tryz.func142 (by kernel_rfl) (by kernel_rfl) (by kernel_rfl) (e := add64Entry) (by kernel_rfl), run_add64 _ _ _ (by omega) (by omega) (by omega) (by omega)]
 unfold M64 at *
 rw [show ((n : Int) + (k : Int) + 0) % 18446744073709551616 = (sm : Int) by omega, show ((n : Int) + (k : Int) + 0) / 18446744073709551616 = (cr : Int) by omega]
 rfl
theorem carry_eq {n k : Nat} (hn : n < M64) (hk : k < M64) : ((((n + k) / M64 : Nat) : Int) == 0) = decide (n + k < M64) := by
 unfold M64 at *
 by_cases h : n + k < 18446744073709551616
 ·rw [decide_eq_true h, show (n + k) / 18446744073709551616 = 0 by omega]; rfl
 ·rw [decide_eq_false h, show (n + k) / 18446744073709551616 = 1 by omega]; rfl
theorem and_t (w : World) (n k : Nat) (hn : n < M64) (hk : k < M64) : Calls Tryz.prog 113 #[.agg #[.int .u64 n, .bool true], .int .u64 k] w fun e w1 => e = .returned (.agg #[.int .u64 ((n + k) % M64 : Nat), .bool (true && decide (n + k < M64))]) /\ Below w.heap.size w w1 := by
 refine Zn2 22 Tryz.func113 fun fr hf s0 s1 => ?_
 obtain ⟨sm, hsm⟩ : ∃ x, (n + k) % M64 = x := ⟨_, rfl⟩
 obtain ⟨cr, hcr⟩ : ∃ x, (n + k) / M64 = x := ⟨_, rfl⟩
 obtain ⟨d, hd⟩ : ∃ x, decide (n + k < M64) = x := ⟨_, rfl⟩
 have h64 := fun w => add64_run hsm hcr w
 have q1 : (((cr : Nat) : Int) == 0) = d := by rw [<- hcr, <- hd]; exact carry_eq hn hk
 rw [hsm, hd]
 clear hsm hcr hd
 refine Ze fun _ hK1 => Zr [] hf ?_
 refine Zq3 1 2 4 hf ?_
 clear hf s0 s1; intro fr1 hf sS
 obtain ⟨W0, hW0⟩ : ∃ x, (w.alloc (.cells #[.int .u64 n, .bool true] 190)).alloc (.cells #[.int .u64 0, .bool false] 190) = x := ⟨_, rfl⟩
 obtain ⟨s1, s2, s4⟩ := sS
 try simp only [World.size_alloc] at s4
 try rw [hW0]
 obtain ⟨hb0, hp0, hp1⟩ := two_boxesT hW0
 clear hW0
 have c0 := cR1 0 hp0; have c1 := cR1 1 hp0; have i0 := cR1 0 hp1; have i1 := cR1 1 hp1; have fi0 := frozen_of (i := 0) hp1; have fi1 := frozen_of (i := 1) hp1
 simp at c0 c1 i0 i1
 refine Zt hK1 fun _ hK2 => ?_
 have bB := hf.B7 8 9 10 11 7 12 13
 iterate 3 refine Zy ?_
 refine fp fun K Z => ?_
 go_simp
 apply Z.out; clear Z K
 iterate 5 refine Zy ?_
 refine Fact.nil (Zq4 2 4 5 6 hf ?_)
 clear hf s1 s2 s4 bB; intro fr1 hf sS
 refine Zs hK2 fun _ hK3 => ?_
 have qs := q1
 refine Zr [14, 15, 16, 17, 18, 19, 20, 21] hf ?_
 refine Zq1 4 hf ?_
 clear hf sS qs; intro fr1 hf s4
 refine Zx hK3 (Zret ?_)
 exact ret_c rfl hf s4 (set_block (set_block hp1 _) _) Tryz.underlying190 rfl (by kernel_rfl) ⟨by simp, (hb0.setCell (p := ⟨w.heap.size + 1, 0, none⟩) (Nat.le_succ _) _).setCell (p := ⟨w.heap.size + 1, 1, none⟩) (Nat.le_succ _) _⟩
theorem and_f (w : World) (n k : Nat) (hn : n < M64) (hk : k < M64) : Calls Tryz.prog 113 #[.agg #[.int .u64 n, .bool false], .int .u64 k] w fun e w1 => e = .returned (.agg #[.int .u64 ((n + k) % M64 : Nat), .bool (false && decide (n + k < M64))]) /\ Below w.heap.size w w1 := by
 refine Zn2 22 Tryz.func113 fun fr hf s0 s1 => ?_
 obtain ⟨sm, hsm⟩ : ∃ x, (n + k) % M64 = x := ⟨_, rfl⟩
 obtain ⟨cr, hcr⟩ : ∃ x, (n + k) / M64 = x := ⟨_, rfl⟩
 obtain ⟨d, hd⟩ : ∃ x, decide (n + k < M64) = x := ⟨_, rfl⟩
 have h64 := fun w => add64_run hsm hcr w
 have q1 : (((cr : Nat) : Int) == 0) = d := by rw [<- hcr, <- hd]; exact carry_eq hn hk
 rw [hsm, hd]
 clear hsm hcr hd
 refine Ze fun _ hK1 => Zr [] hf ?_
 refine Zq3 1 2 4 hf ?_
 clear hf s0 s1; intro fr1 hf sS
 obtain ⟨W0, hW0⟩ : ∃ x, (w.alloc (.cells #[.int .u64 n, .bool false] 190)).alloc (.cells #[.int .u64 0, .bool false] 190) = x := ⟨_, rfl⟩
 obtain ⟨s1, s2, s4⟩ := sS
 try simp only [World.size_alloc] at s4
 try rw [hW0]
 obtain ⟨hb0, hp0, hp1⟩ := two_boxesT hW0
 clear hW0
 have c0 := cR1 0 hp0; have c1 := cR1 1 hp0; have i0 := cR1 0 hp1; have i1 := cR1 1 hp1; have fi0 := frozen_of (i := 0) hp1; have fi1 := frozen_of (i := 1) hp1
 simp at c0 c1 i0 i1
 refine Zt hK1 fun _ hK2 => ?_
 have bB := hf.B7 8 9 10 11 7 12 13
 iterate 3 refine Zy ?_
 refine fp fun K Z => ?_
 go_simp
 apply Z.out; clear Z K
 iterate 5 refine Zy ?_
 refine Fact.nil (Zq4 2 4 5 6 hf ?_)
 clear hf s1 s2 s4 bB; intro fr1 hf sS
 refine Zs hK2 fun _ hK3 => ?_
 have qs := q1
 refine Zr [14, 15, 16, 17, 18, 19, 20, 21] hf ?_
 refine Zq1 4 hf ?_
 clear hf sS qs; intro fr1 hf s4
 refine Zx hK3 (Zret ?_)
 exact ret_c rfl hf s4 (set_block (set_block hp1 _) _) Tryz.underlying190 rfl (by kernel_rfl) ⟨by simp, (hb0.setCell (p := ⟨w.heap.size + 1, 0, none⟩) (Nat.le_succ _) _).setCell (p := ⟨w.heap.size + 1, 1, none⟩) (Nat.le_succ _) _⟩
theorem and113 (w : World) (n k : Nat) (b : Bool) (hn : n < M64) (hk : k < M64) : Calls Tryz.prog 113 #[.agg #[.int .u64 n, .bool b], .int .u64 k] w fun e w1 => e = .returned (.agg #[.int .u64 ((n + k) % M64 : Nat), .bool (b && decide (n + k < M64))]) /\ Below w.heap.size w w1 := by
 cases b with
 | true => exact and_t w n k hn hk
 | false => exact and_f w n k hn hk
theorem or_m (w : World) (n k : Nat) (fm fx am : Bool) : Calls Tryz.prog 114 #[.agg #[.int .u64 n, .bool fm, .bool am], .agg #[.int .u64 k, .bool fx, .bool false]] w fun e w1 => e = .returned (.agg #[.int .u64 n, .bool fm, .bool am]) /\ Below w.heap.size w w1 := by
 refine Zn2 32 Tryz.func114 fun fr hf s0 s1 => ?_
 refine Ze fun _ hK1 => Zr [] hf ?_
 refine Zq3 2 3 4 hf ?_
 clear hf s0 s1; intro fr1 hf sS
 obtain ⟨W0, hW0⟩ : ∃ x, ((w.alloc (.cells #[.int .u64 n, .bool fm, .bool am] 192)).alloc (.cells #[.int .u64 k, .bool fx, .bool false] 192)).alloc (.cells #[.int .u64 0, .bool false, .bool false] 192) = x := ⟨_, rfl⟩
 obtain ⟨s2, s3, s4⟩ := sS
 try simp only [World.size_alloc] at s2 s3 s4
 try rw [hW0]
 obtain ⟨hb0, hp0, hp1, hp2⟩ := boxes3T hW0
 clear hW0
 have c0 := cR1 0 hp0
 have c1 := cR1 1 hp0
 have c2 := cR1 2 hp0
 have d0 := cR1 0 hp1
 have d1 := cR1 1 hp1
 have d2 := cR1 2 hp1
 have r0 := cR1 0 hp2
 have r1 := cR1 1 hp2
 have r2 := cR1 2 hp2
 have f0 := frozen_of (i := 0) hp2; have f1 := frozen_of (i := 1) hp2; have f2 := frozen_of (i := 2) hp2
 simp at c0 c1 c2 d0 d1 d2 r0 r1 r2
 refine Zs hK1 fun _ hK2 => wp_block (Ze fun _ hK3 => Zr [6, 7, 8] hf ?_)
 refine Zq4 2 3 4 5 hf ?_
 clear hf s2 s3 s4; intro fr1 hf sS
 refine Zx hK3 (Fact.cond_t sS.2.2.2 ?_)
 refine Ze fun _ hK4 => Zr [9] hf ?_
 refine Zq1 4 hf ?_
 clear hf sS; intro fr1 hf s4
 refine Zx hK4 (Zret ?_)
 exact ret_c rfl hf s4 (set_block (set_block (set_block hp2 _) _) _) Tryz.underlying192 rfl (by kernel_rfl) ⟨by simp, ((hb0.setCell (p := ⟨w.heap.size + 1 + 1, 0, none⟩) (by simp only; omega) _).setCell (p := ⟨w.heap.size + 1 + 1, 1, none⟩) (by simp only; omega) _).setCell (p := ⟨w.heap.size + 1 + 1, 2, none⟩) (by simp only; omega) _⟩
theorem or_x (w : World) (n k : Nat) (fm fx am : Bool) : Calls Tryz.prog 114 #[.agg #[.int .u64 n, .bool fm, .bool false], .agg #[.int .u64 k, .bool fx, .bool true]] w fun e w1 => e = .returned (.agg #[.int .u64 k, .bool fx, .bool true]) /\ Below w.heap.size w w1 := by
 refine Zn2 32 Tryz.func114 fun fr hf s0 s1 => ?_
 refine Ze fun _ hK1 => Zr [] hf ?_
 refine Zq3 2 3 4 hf ?_
 clear hf s0 s1; intro fr1 hf sS
 obtain ⟨W0, hW0⟩ : ∃ x, ((w.alloc (.cells #[.int .u64 n, .bool fm, .bool false] 192)).alloc (.cells #[.int .u64 k, .bool fx, .bool true] 192)).alloc (.cells #[.int .u64 0, .bool false, .bool false] 192) = x := ⟨_, rfl⟩
 obtain ⟨s2, s3, s4⟩ := sS
 try simp only [World.size_alloc] at s2 s3 s4
 try rw [hW0]
 obtain ⟨hb0, hp0, hp1, hp2⟩ := boxes3T hW0
 clear hW0
 have c0 := cR1 0 hp0
 have c1 := cR1 1 hp0
 have c2 := cR1 2 hp0
 have d0 := cR1 0 hp1
 have d1 := cR1 1 hp1
 have d2 := cR1 2 hp1
 have r0 := cR1 0 hp2
 have r1 := cR1 1 hp2
 have r2 := cR1 2 hp2
 have f0 := frozen_of (i := 0) hp2; have f1 := frozen_of (i := 1) hp2; have f2 := frozen_of (i := 2) hp2
 simp at c0 c1 c2 d0 d1 d2 r0 r1 r2
 refine Zs hK1 fun _ hK2 => wp_block (Ze fun _ hK3 => Zr [6, 7, 8] hf ?_)
 refine Zq4 2 3 4 5 hf ?_
 clear hf s2 s3 s4; intro fr1 hf sS
 refine Zx hK3 (Fact.cond_f sS.2.2.2 ?_)
 refine Ze fun _ hK4 => Zr [11, 12, 13] hf ?_
 refine Zq4 2 3 4 10 hf ?_
 clear hf sS; intro fr1 hf sS
 refine Zx hK4 (Fact.cond_t sS.2.2.2 ?_)
 refine Ze fun _ hK5 => Zr [14] hf ?_
 refine Zq1 4 hf ?_
 clear hf sS; intro fr1 hf s4
 refine Zx hK5 (Zret ?_)
 exact ret_c rfl hf s4 (set_block (set_block (set_block hp2 _) _) _) Tryz.underlying192 rfl (by kernel_rfl) ⟨by simp, ((hb0.setCell (p := ⟨w.heap.size + 1 + 1, 0, none⟩) (by simp only; omega) _).setCell (p := ⟨w.heap.size + 1 + 1, 1, none⟩) (by simp only; omega) _).setCell (p := ⟨w.heap.size + 1 + 1, 2, none⟩) (by simp only; omega) _⟩
theorem or_b (w : World) (n k : Nat) (fm fx am : Bool) : Calls Tryz.prog 114 #[.agg #[.int .u64 n, .bool fm, .bool true], .agg #[.int .u64 k, .bool fx, .bool true]] w fun e w1 => e = .returned (.agg #[.int .u64 ((max n k : Nat) : Int), .bool (fm && fx), .bool true]) /\ Below w.heap.size w w1 := by
 refine Zn2 32 Tryz.func114 fun fr hf s0 s1 => ?_
 refine Ze fun _ hK1 => Zr [] hf ?_
 refine Zq3 2 3 4 hf ?_
 clear hf s0 s1; intro fr1 hf sS
 obtain ⟨W0, hW0⟩ : ∃ x, ((w.alloc (.cells #[.int .u64 n, .bool fm, .bool true] 192)).alloc (.cells #[.int .u64 k, .bool fx, .bool true] 192)).alloc (.cells #[.int .u64 0, .bool false, .bool false] 192) = x := ⟨_, rfl⟩
 obtain ⟨s2, s3, s4⟩ := sS
 try simp only [World.size_alloc] at s2 s3 s4
 try rw [hW0]
 obtain ⟨hb0, hp0, hp1, hp2⟩ := boxes3T hW0
 clear hW0
 have c0 := cR1 0 hp0
 have c1 := cR1 1 hp0
 have c2 := cR1 2 hp0
 have d0 := cR1 0 hp1
 have d1 := cR1 1 hp1
 have d2 := cR1 2 hp1
 have r0 := cR1 0 hp2
 have r1 := cR1 1 hp2
 have r2 := cR1 2 hp2
 have f0 := frozen_of (i := 0) hp2; have f1 := frozen_of (i := 1) hp2; have f2 := frozen_of (i := 2) hp2
 simp at c0 c1 c2 d0 d1 d2 r0 r1 r2
 refine Zs hK1 fun _ hK2 => wp_block (Ze fun _ hK3 => Zr [6, 7, 8] hf ?_)
 refine Zq4 2 3 4 5 hf ?_
 clear hf s2 s3 s4; intro fr1 hf sS
 refine Zx hK3 (Fact.cond_f sS.2.2.2 ?_)
 refine Ze fun _ hK4 => Zr [11, 12, 13] hf ?_
 refine Zq4 2 3 4 10 hf ?_
 clear hf sS; intro fr1 hf sS
 refine Zx hK4 (Fact.cond_f sS.2.2.2 ?_)
 refine wp_skip (Fact.block_normal (Zx hK2 ?_))
 rcases hfm : fm with _ | _
 . (
 refine Ze fun _ hK5 => rg ?_
 have bB := And.intro (hf.B10 15 16 17 18 19 20 21 22 23 24) (hf.B7 25 26 27 28 29 30 31)
 iterate 6 refine Zy ?_
 refine fp fun K Z => ?_
 go_simp
 apply Z.out; clear Z K
 iterate 11 refine Zy ?_
 refine Fact.nil (Zq1 4 hf ?_)
 clear hf sS bB; intro fr1 hf s4
 refine Zx hK5 (Zret ?_)
 exact ret_c rfl hf s4 (set_block (set_block (set_block hp2 _) _) _) Tryz.underlying192 rfl (by kernel_rfl) ⟨by simp; omega, ((hb0.setCell (p := ⟨w.heap.size + 1 + 1, 0, none⟩) (by simp only; omega) _).setCell (p := ⟨w.heap.size + 1 + 1, 1, none⟩) (by simp only; omega) _).setCell (p := ⟨w.heap.size + 1 + 1, 2, none⟩) (by simp only; omega) _⟩)
 . (
 refine Ze fun _ hK6 => rg ?_
 have bB := And.intro (hf.B10 15 16 17 18 19 20 21 22 23 24) (hf.B7 25 26 27 28 29 30 31)
 iterate 6 refine Zy ?_
 refine fp fun K Z => ?_
 go_simp
 apply Z.out; clear Z K
 iterate 11 refine Zy ?_
 refine Fact.nil (Zq1 4 hf ?_)
 clear hf sS bB; intro fr1 hf s4
 refine Zx hK6 (Zret ?_)
 exact ret_c rfl hf s4 (set_block (set_block (set_block hp2 _) _) _) Tryz.underlying192 rfl (by kernel_rfl) ⟨by simp; omega, ((hb0.setCell (p := ⟨w.heap.size + 1 + 1, 0, none⟩) (by simp only; omega) _).setCell (p := ⟨w.heap.size + 1 + 1, 1, none⟩) (by simp only; omega) _).setCell (p := ⟨w.heap.size + 1 + 1, 2, none⟩) (by simp only; omega) _⟩)
theorem or114 (w : World) (m x : Most) : Calls Tryz.prog 114 #[m.val, x.val] w fun e w1 => e = .returned (m.or x).val /\ Below w.heap.size w w1 := by
 obtain ⟨n, fm, am⟩ := m
 obtain ⟨k, fx, ax⟩ := x
 cases ax with
 | false => exact or_m w n k fm fx am
 | true => cases am with
  | false => exact or_x w n k fm fx true
  | true => exact or_b w n k fm fx true
theorem is_t (w : World) (n : Nat) : Calls Tryz.prog 115 #[.agg #[.int .u64 n, .bool true]] w fun e w1 => e = .returned (.bool (true && decide (n <= 4294967296))) /\ Below w.heap.size w w1 := by
 refine Zn1 10 Tryz.func115 fun fr hf s0 => ?_
 refine Ze fun _ hK1 => Zr [] hf ?_
 refine Zq1 1 hf ?_
 clear hf s0; intro fr1 hf s1
 generalize hW0 : w.alloc (.cells #[.int .u64 n, .bool true] 190) = W0
 obtain ⟨hb0, c0, c1, -, -⟩ := box2 hW0
 clear hW0
 refine Zs hK1 fun _ hK2 => Zr [3, 4, 5, 6, 7, 8, 9] hf ?_
 refine Zq1 2 hf ?_
 clear hf s1; intro fr1 hf s2
 refine Zx hK2 (Zret ?_)
 exact Fact.ret1 rfl hf s2 ⟨by rw [Bool.true_and]; congr 2; exact decide_eq_decide.2 (by omega), hb0⟩
theorem is_f (w : World) (n : Nat) : Calls Tryz.prog 115 #[.agg #[.int .u64 n, .bool false]] w fun e w1 => e = .returned (.bool (false && decide (n <= 4294967296))) /\ Below w.heap.size w w1 := by
 refine Zn1 10 Tryz.func115 fun fr hf s0 => ?_
 refine Ze fun _ hK1 => Zr [] hf ?_
 refine Zq1 1 hf ?_
 clear hf s0; intro fr1 hf s1
 generalize hW0 : w.alloc (.cells #[.int .u64 n, .bool false] 190) = W0
 obtain ⟨hb0, c0, c1, -, -⟩ := box2 hW0
 clear hW0
 refine Zs hK1 fun _ hK2 => Zr [3, 4, 5, 6, 7, 8, 9] hf ?_
 refine Zq1 2 hf ?_
 clear hf s1; intro fr1 hf s2
 refine Zx hK2 (Zret ?_)
 exact Fact.ret1 rfl hf s2 ⟨by simp, hb0⟩
theorem is115 (w : World) (n : Nat) (b : Bool) : Calls Tryz.prog 115 #[.agg #[.int .u64 n, .bool b]] w fun e w1 => e = .returned (.bool (b && decide (n <= 4294967296))) /\ Below w.heap.size w w1 := by
 cases b with
 | true => exact is_t w n
 | false => exact is_f w n
theorem root149 (w : World) (sv : Value) (init : Nat) (ss : List State) (hrs : RS w sv ss) (hlen : ss.length <= 1000000000) : Calls Tryz.prog 149 #[.agg #[sv, .int .u64 init]] w fun e w1 => e = .returned (.int .i64 ((ss.length : Int) - 1)) /\ Below w.heap.size w w1 := by
 refine Zn1 7 Tryz.func149 fun fr hf s0 => ?_
 obtain ⟨A, cc, rfl, hcc⟩ := hrs.form
 refine Ze fun _ hK1 => Zr [] hf ?_
 refine Zq1 1 hf ?_
 clear hf s0; intro fr1 hf s1
 generalize hW0 : w.alloc (.cells #[.slice A ss.length cc, .int .u64 init] 38) = W0
 obtain ⟨hb0, c0, c1, -, -⟩ := box2 hW0
 clear hW0
 refine Zs hK1 fun _ hK2 => Zr [3, 4, 5, 6] hf ?_
 refine Zq1 2 hf ?_
 clear hf s1; intro fr1 hf s2
 refine Zx hK2 (Zret ?_)
 exact Fact.ret1 rfl hf s2 ⟨rfl, hb0⟩
theorem less153 (w : World) (a b : ByteArray) : Calls Tryz.prog 153 #[.string a, .string b] w fun e w1 => e = .returned (.bool (lexlt (wl a) (wl b))) /\ w = w1 := by
 refine Zn2 8 Tryz.func153 fun fr hf s0 s1 => ?_
 refine Ze fun _ hK1 => Zr [] hf ?_
 refine Zq2 0 1 hf ?_
 clear hf s0 s1; intro fr1 hf sS
 refine Zs hK1 fun _ hK2 => Zr [5, 6, 7] hf ?_
 refine Zq1 4 hf ?_
 clear hf sS; intro fr1 hf s4
 refine Zx hK2 (Zret ?_)
 exact Fact.ret1 rfl hf s4 ⟨by rw [<- less_eq], rfl⟩
theorem cnt1t (w : World) (av : Value) (out : Nat) (hav : ∃ A n c, av = .slice A n c) : Calls Tryz.prog 106 #[.agg #[av, .bool true, .int .u64 out]] w fun e w1 => e = .returned (.int .i64 (1)) /\ Below w.heap.size w w1 := by
 refine Zn1 5 Tryz.func106 fun fr hf s0 => ?_
 obtain ⟨A, n, c, rfl⟩ := hav
 refine Ze fun _ hK1 => Zr [] hf ?_
 refine Zq1 1 hf ?_
 clear hf s0; intro fr1 hf s1
 generalize hW0 : w.alloc (.cells #[.slice A n c, .bool true, .int .u64 out] 46) = W0
 obtain ⟨hb0, c0, c1, c2, -, -⟩ := box3 hW0
 clear hW0
 refine Zs hK1 fun _ hK2 => Ze fun _ hK3 => Zr [3] hf ?_
 refine Zq1 4 hf ?_
 clear hf s1; intro fr1 hf s4
 refine Zx hK3 (Fact.cond_t s4 ?_)
 refine Ze fun _ hK4 => Zr [] hf ?_
 refine Zq1 2 hf ?_
 clear hf s4; intro fr1 hf s2
 refine Zx hK4 (Zret ?_)
 exact Fact.ret1 rfl hf s2 ⟨rfl, hb0⟩
theorem cnt1f (w : World) (av : Value) (out : Nat) (hav : ∃ A n c, av = .slice A n c) : Calls Tryz.prog 106 #[.agg #[av, .bool false, .int .u64 out]] w fun e w1 => e = .returned (.int .i64 (0)) /\ Below w.heap.size w w1 := by
 refine Zn1 5 Tryz.func106 fun fr hf s0 => ?_
 obtain ⟨A, n, c, rfl⟩ := hav
 refine Ze fun _ hK1 => Zr [] hf ?_
 refine Zq1 1 hf ?_
 clear hf s0; intro fr1 hf s1
 generalize hW0 : w.alloc (.cells #[.slice A n c, .bool false, .int .u64 out] 46) = W0
 obtain ⟨hb0, c0, c1, c2, -, -⟩ := box3 hW0
 clear hW0
 refine Zs hK1 fun _ hK2 => Ze fun _ hK3 => Zr [3] hf ?_
 refine Zq1 4 hf ?_
 clear hf s1; intro fr1 hf s4
 refine Zx hK3 (Fact.cond_f s4 ?_)
 refine wp_skip (Zs hK2 fun _ hK4 => Zr [] hf ?_)
 refine Zq1 2 hf ?_
 clear hf s4; intro fr1 hf s2
 refine Zx hK4 (Zret ?_)
 exact Fact.ret1 rfl hf s2 ⟨rfl, hb0⟩
theorem lng1t (w : World) (av : Value) (out : Nat) (hav : ∃ A n c, av = .slice A n c) : Calls Tryz.prog 108 #[.agg #[av, .bool true, .int .u64 out]] w fun e w1 => e = .returned (.int .i64 (0)) /\ Below w.heap.size w w1 := by
 refine Zn1 5 Tryz.func108 fun fr hf s0 => ?_
 obtain ⟨A, n, c, rfl⟩ := hav
 refine Ze fun _ hK1 => Zr [] hf ?_
 refine Zq1 1 hf ?_
 clear hf s0; intro fr1 hf s1
 generalize hW0 : w.alloc (.cells #[.slice A n c, .bool true, .int .u64 out] 46) = W0
 obtain ⟨hb0, c0, c1, c2, -, -⟩ := box3 hW0
 clear hW0
 refine Zs hK1 fun _ hK2 => Ze fun _ hK3 => Zr [3] hf ?_
 refine Zq1 4 hf ?_
 clear hf s1; intro fr1 hf s4
 refine Zx hK3 (Fact.cond_t s4 ?_)
 refine Ze fun _ hK4 => Zr [] hf ?_
 refine Zq1 2 hf ?_
 clear hf s4; intro fr1 hf s2
 refine Zx hK4 (Zret ?_)
 exact Fact.ret1 rfl hf s2 ⟨rfl, hb0⟩
theorem lng1f (w : World) (av : Value) (out : Nat) (hav : ∃ A n c, av = .slice A n c) : Calls Tryz.prog 108 #[.agg #[av, .bool false, .int .u64 out]] w fun e w1 => e = .returned (.int .i64 (-1)) /\ Below w.heap.size w w1 := by
 refine Zn1 5 Tryz.func108 fun fr hf s0 => ?_
 obtain ⟨A, n, c, rfl⟩ := hav
 refine Ze fun _ hK1 => Zr [] hf ?_
 refine Zq1 1 hf ?_
 clear hf s0; intro fr1 hf s1
 generalize hW0 : w.alloc (.cells #[.slice A n c, .bool false, .int .u64 out] 46) = W0
 obtain ⟨hb0, c0, c1, c2, -, -⟩ := box3 hW0
 clear hW0
 refine Zs hK1 fun _ hK2 => Ze fun _ hK3 => Zr [3] hf ?_
 refine Zq1 4 hf ?_
 clear hf s1; intro fr1 hf s4
 refine Zx hK3 (Fact.cond_f s4 ?_)
 refine wp_skip (Zs hK2 fun _ hK4 => Zr [] hf ?_)
 refine Zq1 2 hf ?_
 clear hf s4; intro fr1 hf s2
 refine Zx hK4 (Zret ?_)
 exact Fact.ret1 rfl hf s2 ⟨rfl, hb0⟩
theorem grt1 (w : World) (av : Value) (fin : Bool) (out : Nat) (hav : ∃ A n c, av = .slice A n c) : Calls Tryz.prog 111 #[.agg #[av, .bool fin, .int .u64 out]] w fun e w1 => e = .returned (Most.val ⟨out, true, fin⟩) /\ Below w.heap.size w w1 := by
 refine Zn1 9 Tryz.func111 fun fr hf s0 => ?_
 obtain ⟨A, n, c, rfl⟩ := hav
 refine Ze fun _ hK1 => Zr [] hf ?_
 refine Zq2 1 2 hf ?_
 clear hf s0; intro fr1 hf sS
 obtain ⟨W0, hW0⟩ : ∃ x, (w.alloc (.cells #[.slice A n c, .bool fin, .int .u64 out] 46)).alloc (.cells #[.int .u64 0, .bool false, .bool false] 192) = x := ⟨_, rfl⟩
 obtain ⟨s1, s2⟩ := sS
 try simp only [World.size_alloc] at s2
 try rw [hW0]
 obtain ⟨hb0, hp0, hp1⟩ := two_boxesT hW0
 clear hW0
 have c0 := cR1 0 hp0
 have c1 := cR1 1 hp0
 have c2 := cR1 2 hp0
 have r0 := cR1 0 hp1
 have r1 := cR1 1 hp1
 have r2 := cR1 2 hp1
 have f0 := frozen_of (i := 0) hp1; have f1 := frozen_of (i := 1) hp1; have f2 := frozen_of (i := 2) hp1
 simp at c0 c1 c2 r0 r1 r2
 refine Zs hK1 fun _ hK2 => Zr [3, 4, 5, 6, 7, 8] hf ?_
 refine Zq1 2 hf ?_
 clear hf s1 s2; intro fr1 hf s2
 refine Zx hK2 (Zret ?_)
 exact ret_c rfl hf s2 (set_block (set_block (set_block hp1 _) _) _) Tryz.underlying192 rfl (by kernel_rfl) ⟨by simp [Most.val], ((hb0.setCell (p := ⟨w.heap.size + 1, 0, none⟩) (by simp only; omega) _).setCell (p := ⟨w.heap.size + 1, 1, none⟩) (by simp only; omega) _).setCell (p := ⟨w.heap.size + 1, 2, none⟩) (by simp only; omega) _⟩
theorem cnt2 (w : World) (x c : Nat) (ov : Value) (hx : x <= 100001) (hc : c <= 100001) : Calls Tryz.prog 107 #[.int .i64 x, .int .i64 c, ov] w fun e w1 => e = .returned (.int .i64 (min (x + c) 100001 : Nat)) /\ w = w1 := by
 refine Zn3 11 Tryz.func107 fun fr hf s0 s1 s2 => ?_
 refine Ze fun _ hK1 => Zr [] hf ?_
 refine Zq2 0 1 hf ?_
 clear hf s0 s1 s2; intro fr1 hf sS
 refine Zt hK1 fun _ hK2 => ?_
 have bB := hf.B4 7 8 9 10
 iterate 2 refine Zy ?_
 refine fp fun K Z => ?_
 go_simp
 try simp (disch := omega) only [Fact.W]
 try rw [Fact.wrap_i64 (by omega) (by omega)]
 apply Z.out; clear Z K
 iterate 2 refine Zy ?_
 refine Fact.nil (Zq1 6 hf ?_)
 clear hf sS bB; intro fr1 hf s6
 refine Zx hK2 (Zret ?_)
 exact Fact.ret1 rfl hf s6 ⟨by congr 2; omega, rfl⟩
theorem lng2n (w : World) (x c : Int) (ov : Value) (hx : -1 <= x /\ x <= 1000000000) (hc : -1 <= c /\ c <= 1000000000) (hn : c < 0) : Calls Tryz.prog 109 #[.int .i64 x, .int .i64 c, ov] w fun e w1 => e = .returned (.int .i64 (lngW x c)) /\ w = w1 := by
 refine Zn3 14 Tryz.func109 fun fr hf s0 s1 s2 => ?_
 have q1 : decide (c < 0) = true := decide_eq_true hn
 clear hn
 refine Ze fun _ hK1 => Zr [] hf ?_
 refine Zq2 0 1 hf ?_
 clear hf s0 s1 s2; intro fr1 hf sS
 refine Zs hK1 fun _ hK2 => Ze fun _ hK3 => Zr [7] hf ?_
 refine Zq3 0 1 8 hf ?_
 clear hf sS; intro fr1 hf sS
 refine Zx hK3 (Fact.cond_t sS.2.2 ?_)
 refine Ze fun _ hK4 => Zr [9] hf ?_
 refine Zq1 6 hf ?_
 clear hf sS; intro fr1 hf s6
 refine Zx hK4 (Zret ?_)
 exact Fact.ret1 rfl hf s6 ⟨by simp only [lngW]; rw [if_pos (of_decide_eq_true q1)], rfl⟩
theorem lng2p (w : World) (x c : Int) (ov : Value) (hx : -1 <= x /\ x <= 1000000000) (hc : -1 <= c /\ c <= 1000000000) (hn : 0 <= c) : Calls Tryz.prog 109 #[.int .i64 x, .int .i64 c, ov] w fun e w1 => e = .returned (.int .i64 (lngW x c)) /\ w = w1 := by
 refine Zn3 14 Tryz.func109 fun fr hf s0 s1 s2 => ?_
 have q1 : decide (c < 0) = false := decide_eq_false (by omega)
 skip
 refine Ze fun _ hK1 => Zr [] hf ?_
 refine Zq2 0 1 hf ?_
 clear hf s0 s1 s2; intro fr1 hf sS
 refine Zs hK1 fun _ hK2 => Ze fun _ hK3 => Zr [7] hf ?_
 refine Zq3 0 1 8 hf ?_
 clear hf sS; intro fr1 hf sS
 refine Zx hK3 (Fact.cond_f sS.2.2 ?_)
 refine wp_skip (Zt hK2 fun _ hK4 => ?_)
 have bB := hf.B4 10 11 12 13
 iterate 2 refine Zy ?_
 refine fp fun K Z => ?_
 go_simp
 try simp (disch := omega) only [Fact.W]
 try rw [Fact.wrap_i64 (by omega) (by omega)]
 apply Z.out; clear Z K
 iterate 2 refine Zy ?_
 refine Fact.nil (Zq1 6 hf ?_)
 clear hf sS bB; intro fr1 hf s6
 refine Zx hK4 (Zret ?_)
 exact Fact.ret1 rfl hf s6 ⟨by simp only [lngW]; rw [if_neg (of_decide_eq_false q1)], rfl⟩
theorem grt2 (w : World) (n k ov : Nat) (fm fx am ax : Bool) (hk : k < M64) (ho : ov < M64) : Calls Tryz.prog 112 #[.agg #[.int .u64 n, .bool fm, .bool am], .agg #[.int .u64 k, .bool fx, .bool ax], .int .u64 ov] w fun e w1 => e = .returned (Most.or ⟨n, fm, am⟩ ⟨(k + ov) % M64, fx && decide (k + ov < M64), ax⟩).val /\ Below w.heap.size w w1 := by
 refine Zn3 15 Tryz.func112 fun fr hf s0 s1 s2 => ?_
 refine Ze fun _ hK1 => Zr [] hf ?_
 refine Zq4 2 3 4 6 hf ?_
 clear hf s0 s1 s2; intro fr1 hf sS
 obtain ⟨W0, hW0⟩ : ∃ x, ((w.alloc (.cells #[.int .u64 n, .bool fm, .bool am] 192)).alloc (.cells #[.int .u64 k, .bool fx, .bool ax] 192)).alloc (.cells #[.int .u64 0, .bool false, .bool false] 192) = x := ⟨_, rfl⟩
 obtain ⟨s2, s3, s4, s6⟩ := sS
 try simp only [World.size_alloc] at s3 s4 s6
 try rw [hW0]
 obtain ⟨hb0, hp0, hp1, hp2⟩ := boxes3T hW0
 clear hW0
 obtain ⟨cq, hcq⟩ : ∃ x, w.heap.size + 1 = x := ⟨_, rfl⟩
 rw [hcq] at hp1 s4
 have HCQ := Lib.hid hcq; clear hcq
 have c0 := cR1 0 hp0
 have c1 := cR1 1 hp0
 have c2 := cR1 2 hp0
 have d0 := cR1 0 hp1
 have d1 := cR1 1 hp1
 have d2 := cR1 2 hp1
 simp at c0 c1 c2 d0 d1 d2
 refine Zt hK1 fun _ hK2 => ?_
 have bB := hf.B5 7 8 9 10 11
 iterate 3 refine Zy ?_
 refine Zc (and113 W0 k ov fx hk ho) ?_; rintro e w1 ⟨rfl, hb1⟩
 obtain ⟨sm, hsm⟩ : ∃ x, (k + ov) % M64 = x := ⟨_, rfl⟩
 obtain ⟨sf, hsf⟩ : ∃ x, (fx && decide (k + ov < M64)) = x := ⟨_, rfl⟩
 rw [hsm, hsf]
 have HSM := Lib.hid hsm; have HSF := Lib.hid hsf; clear hsm hsf
 replace hp1 := (hb1.block _ (heap_lt hp1)).trans hp1; replace hp2 := (hb1.block _ (heap_lt hp2)).trans hp2
 replace c0 := cL hb1 c0; replace c1 := cL hb1 c1; replace c2 := cL hb1 c2; replace d0 := cL hb1 d0; replace d1 := cL hb1 d1; replace d2 := cL hb1 d2
 have hbt := hb0.trans (hb1.mono hb0.size)
 have f0 := frozen_of (i := 0) hp1; have f1 := frozen_of (i := 1) hp1
 refine Zv ?_
 iterate 2 refine Zy ?_
 refine Fact.nil (Zq3 3 4 6 hf ?_)
 clear hf s2 s3 s4 s6 bB; intro fr1 hf sS
 generalize hW2 : (w1.setCell ⟨cq, 0, none⟩ (.int .u64 sm)).setCell ⟨cq, 1, none⟩ (.bool sf) = W2
 have hbS : But (fun q => q = cq) w1 W2 := by rw [<- hW2]; exact (But.setCell (S := fun q => q = cq) (p := ⟨cq, 0, none⟩) rfl _).trans (But.setCell (S := fun q => q = cq) (p := ⟨cq, 1, none⟩) rfl _)
 have hp1b : W2.heap[cq]? = some (.cells #[.int .u64 sm, .bool sf, .bool ax] 192 (0, 0)) := by rw [<- hW2]; exact (set_block (set_block hp1 _) _).trans (by simp)
 replace c0 := hbS.cell c0 (by have := HCQ.out; simp only; omega); replace c1 := hbS.cell c1 (by have := HCQ.out; simp only; omega); replace c2 := hbS.cell c2 (by have := HCQ.out; simp only; omega)
 replace hp2 := hbS.heap hp2 (by have := HCQ.out; omega)
 replace hbt := hbt.trans (hbS.below hbt.size (fun q h => by have h : q = cq := h; have := HCQ.out; omega))
 have e0 := cR1 0 hp1b; have e1 := cR1 1 hp1b; have e2 := cR1 2 hp1b
 simp at e0 e1 e2
 clear d0 d1 d2 f0 f1 hp1 hW2
 refine Zt hK2 fun _ hK3 => ?_
 have bB := hf.B3 12 13 14
 iterate 2 refine Zy ?_
 refine Zc (or114 W2 ⟨n, fm, am⟩ ⟨sm, sf, ax⟩) ?_; rintro e w3 ⟨rfl, hb3⟩
 obtain ⟨⟨rn, rf_, ra⟩, hr⟩ : ∃ x, Most.or ⟨n, fm, am⟩ ⟨sm, sf, ax⟩ = x := ⟨_, rfl⟩
 rw [hr]
 have HR := Lib.hid hr; clear hr
 simp only [Most.val]
 replace hp2 := (hb3.block _ (heap_lt hp2)).trans hp2
 replace hbt := hbt.trans (hb3.mono hbt.size)
 have r0 := cR1 0 hp2
 have r1 := cR1 1 hp2
 have r2 := cR1 2 hp2
 have f0 := frozen_of (i := 0) hp2; have f1 := frozen_of (i := 1) hp2; have f2 := frozen_of (i := 2) hp2
 simp at r0 r1 r2
 refine Zv ?_
 refine Zy ?_
 refine Fact.nil (Zq1 6 hf ?_)
 clear hf sS bB; intro fr1 hf s6
 refine Zx hK3 (Zret ?_)
 exact ret_c rfl hf s6 (set_block (set_block (set_block hp2 _) _) _) Tryz.underlying192 rfl (by kernel_rfl) ⟨by rw [HSM.out, HSF.out, HR.out]; simp [Most.val], ((hbt.setCell (p := ⟨w.heap.size + 1 + 1, 0, none⟩) (by simp only; omega) _).setCell (p := ⟨w.heap.size + 1 + 1, 1, none⟩) (by simp only; omega) _).setCell (p := ⟨w.heap.size + 1 + 1, 2, none⟩) (by simp only; omega) _⟩
theorem of_z (w : World) (s : ByteArray) (v : Nat) (hv : v < 18446744073709551616) (hc : v = 0) : Calls Tryz.prog 127 #[.string s, .int .u64 v] w fun e w1 => e = .returned (.tuple #[eval (ofE s v), .bool (ofB v)]) /\ Below w.heap.size w w1 := by
 refine Zn2 21 Tryz.func127 fun fr hf s0 s1 => ?_
 have q0 : ((v : Int) == 0) = true := beq_iff_eq.2 (by omega)
 have HOE := Lib.hid (show ofE s v = ⟨s, 0, true⟩ by unfold ofE; rw [if_neg (by omega), if_pos (by omega)]); have HOB := Lib.hid (show ofB v = true by unfold ofB; simp; omega)
 refine Ze fun _ hK1 => Zr [] hf ?_
 refine Zq3 0 1 4 hf ?_
 clear hf s0 s1; intro fr1 hf sS
 generalize hW0 : w.alloc (.cells #[.string ⟨#[]⟩, .int .u32 0, .bool false] 64) = W0
 obtain ⟨hb0, r0, r1, r2, hp0, -⟩ := box3 hW0
 clear hW0
 have f0 := frozen_of (i := 0) hp0; have f1 := frozen_of (i := 1) hp0; have f2 := frozen_of (i := 2) hp0
 refine Zs hK1 fun _ hK2 => wp_block (Ze fun _ hK3 => Zr [7, 8] hf ?_)
 refine Zq4 0 1 4 6 hf ?_
 clear hf sS; intro fr1 hf sS
 refine Zx hK3 (Fact.cond_t sS.2.2.2 ?_)
 refine Ze fun _ hK4 => Zr [9, 10] hf ?_
 refine Zq2 4 5 hf ?_
 clear hf sS; intro fr1 hf sS
 refine Zx hK4 (Zret ?_)
 refine ret_ct rfl hf sS.1 sS.2 (set_block (set_block (set_block hp0 _) _) _) Tryz.underlying64 rfl (by kernel_rfl) ⟨by rw [HOE.out, HOB.out]; simp [eval], ((hb0.setCell (p := ⟨w.heap.size, 0, none⟩) (Nat.le_refl _) _).setCell (p := ⟨w.heap.size, 1, none⟩) (Nat.le_refl _) _).setCell (p := ⟨w.heap.size, 2, none⟩) (Nat.le_refl _) _⟩
theorem of_g (w : World) (s : ByteArray) (v : Nat) (hv : v < 18446744073709551616) (hc : 4294967296 < v) : Calls Tryz.prog 127 #[.string s, .int .u64 v] w fun e w1 => e = .returned (.tuple #[eval (ofE s v), .bool (ofB v)]) /\ Below w.heap.size w w1 := by
 refine Zn2 21 Tryz.func127 fun fr hf s0 s1 => ?_
 have q0 : ((v : Int) == 0) = false := beq_eq_false_iff_ne.2 (by omega)
 have HOE := Lib.hid (show ofE s v = ⟨⟨#[]⟩, 0, false⟩ by unfold ofE; rw [if_pos (by omega)]); have HOB := Lib.hid (show ofB v = false by unfold ofB; simp; omega)
 refine Ze fun _ hK1 => Zr [] hf ?_
 refine Zq3 0 1 4 hf ?_
 clear hf s0 s1; intro fr1 hf sS
 generalize hW0 : w.alloc (.cells #[.string ⟨#[]⟩, .int .u32 0, .bool false] 64) = W0
 obtain ⟨hb0, r0, r1, r2, hp0, -⟩ := box3 hW0
 clear hW0
 have f0 := frozen_of (i := 0) hp0; have f1 := frozen_of (i := 1) hp0; have f2 := frozen_of (i := 2) hp0
 refine Zs hK1 fun _ hK2 => wp_block (Ze fun _ hK3 => Zr [7, 8] hf ?_)
 refine Zq4 0 1 4 6 hf ?_
 clear hf sS; intro fr1 hf sS
 refine Zx hK3 (Fact.cond_f sS.2.2.2 ?_)
 obtain ⟨u, hu⟩ : ∃ u : Nat, v = u + 1 := ⟨v - 1, by omega⟩
 subst hu
 have hw1 : IntKind.u64.wrap (((u + 1 : Nat) : Int) - 1) = (u : Int) := by rw [Fact.wrap_u64 (by omega) (by omega)]; omega
 have q2 : decide ((4294967295 : Int) < (u : Int)) = true := decide_eq_true (by omega)
 skip
 refine Ze fun _ hK4 => rg ?_
 have bB := hf.B3 12 13 14
 refine Zy ?_
 refine fp fun K Z => ?_
 go_simp
 try simp (disch := omega) only [Fact.W]
 try rw [hw1]
 apply Z.out; clear Z K
 iterate 2 refine Zy ?_
 refine Fact.nil (Zq4 0 1 4 11 hf ?_)
 clear hf sS bB; intro fr1 hf sS
 refine Zx hK4 (Fact.cond_t sS.2.2.2 ?_)
 refine Ze fun _ hK5 => Zr [15] hf ?_
 refine Zq2 4 5 hf ?_
 clear hf sS; intro fr1 hf sS
 refine Zx hK5 (Zret ?_)
 refine ret_ct rfl hf sS.1 sS.2 (set_block (set_block (set_block hp0 _) _) _) Tryz.underlying64 rfl (by kernel_rfl) ⟨by rw [HOE.out, HOB.out]; simp [eval], ((hb0.setCell (p := ⟨w.heap.size, 0, none⟩) (Nat.le_refl _) _).setCell (p := ⟨w.heap.size, 1, none⟩) (Nat.le_refl _) _).setCell (p := ⟨w.heap.size, 2, none⟩) (Nat.le_refl _) _⟩
theorem of_n (w : World) (s : ByteArray) (v : Nat) (hv : v < 18446744073709551616) (hc : 0 < v /\ v <= 4294967296) : Calls Tryz.prog 127 #[.string s, .int .u64 v] w fun e w1 => e = .returned (.tuple #[eval (ofE s v), .bool (ofB v)]) /\ Below w.heap.size w w1 := by
 refine Zn2 21 Tryz.func127 fun fr hf s0 s1 => ?_
 have q0 : ((v : Int) == 0) = false := beq_eq_false_iff_ne.2 (by omega)
 have HOE := Lib.hid (show ofE s v = ⟨s, ((v - 1 : Nat) : Int), false⟩ by unfold ofE; rw [if_neg (by omega), if_neg (by omega)]); have HOB := Lib.hid (show ofB v = true by unfold ofB; simp; omega)
 refine Ze fun _ hK1 => Zr [] hf ?_
 refine Zq3 0 1 4 hf ?_
 clear hf s0 s1; intro fr1 hf sS
 generalize hW0 : w.alloc (.cells #[.string ⟨#[]⟩, .int .u32 0, .bool false] 64) = W0
 obtain ⟨hb0, r0, r1, r2, hp0, -⟩ := box3 hW0
 clear hW0
 have f0 := frozen_of (i := 0) hp0; have f1 := frozen_of (i := 1) hp0; have f2 := frozen_of (i := 2) hp0
 refine Zs hK1 fun _ hK2 => wp_block (Ze fun _ hK3 => Zr [7, 8] hf ?_)
 refine Zq4 0 1 4 6 hf ?_
 clear hf sS; intro fr1 hf sS
 refine Zx hK3 (Fact.cond_f sS.2.2.2 ?_)
 obtain ⟨u, hu⟩ : ∃ u : Nat, v = u + 1 := ⟨v - 1, by omega⟩
 subst hu
 have hw1 : IntKind.u64.wrap (((u + 1 : Nat) : Int) - 1) = (u : Int) := by rw [Fact.wrap_u64 (by omega) (by omega)]; omega
 have q2 : decide ((4294967295 : Int) < (u : Int)) = false := decide_eq_false (by omega)
 simp only [Nat.add_sub_cancel] at HOE
 refine Ze fun _ hK4 => rg ?_
 have bB := hf.B3 12 13 14
 refine Zy ?_
 refine fp fun K Z => ?_
 go_simp
 try simp (disch := omega) only [Fact.W]
 try rw [hw1]
 apply Z.out; clear Z K
 iterate 2 refine Zy ?_
 refine Fact.nil (Zq4 0 1 4 11 hf ?_)
 clear hf sS bB; intro fr1 hf sS
 refine Zx hK4 (Fact.cond_f sS.2.2.2 ?_)
 refine wp_skip (Fact.block_normal (Zt hK2 fun _ hK5 => ?_))
 have bB := hf.B5 16 17 18 19 20
 iterate 2 refine Zy ?_
 refine fp fun K Z => ?_
 go_simp
 try simp (disch := omega) only [Fact.W]
 try rw [hw1]
 apply Z.out; clear Z K
 refine fp fun K Z => ?_
 go_simp
 try rw [show IntKind.u32.wrap (u : Int) = (u : Int) from Fact.wrap_u32 (by omega) (by omega)]
 apply Z.out; clear Z K
 iterate 3 refine Zy ?_
 refine Fact.nil (Zq2 4 5 hf ?_)
 clear hf sS bB; intro fr1 hf sS
 refine Zx hK5 (Zret ?_)
 refine ret_ct rfl hf sS.1 sS.2 (set_block (set_block (set_block hp0 _) _) _) Tryz.underlying64 rfl (by kernel_rfl) ⟨by rw [HOE.out, HOB.out]; simp [eval], ((hb0.setCell (p := ⟨w.heap.size, 0, none⟩) (Nat.le_refl _) _).setCell (p := ⟨w.heap.size, 1, none⟩) (Nat.le_refl _) _).setCell (p := ⟨w.heap.size, 2, none⟩) (Nat.le_refl _) _⟩
theorem of127 (w : World) (s : ByteArray) (v : Nat) (hv : v < 18446744073709551616) : Calls Tryz.prog 127 #[.string s, .int .u64 v] w fun e w1 => e = .returned (.tuple #[eval (ofE s v), .bool (ofB v)]) /\ Below w.heap.size w w1 := by
 rcases Nat.eq_zero_or_pos v with h | h
 ·exact of_z w s v hv h
 ·rcases Nat.lt_or_ge 4294967296 v with h2 | h2
  ·exact of_g w s v hv h2
  ·exact of_n w s v hv ⟨h, h2⟩
end Dw
end Go.Proofs.YtcddnmhmcieebaaGreatDoor
