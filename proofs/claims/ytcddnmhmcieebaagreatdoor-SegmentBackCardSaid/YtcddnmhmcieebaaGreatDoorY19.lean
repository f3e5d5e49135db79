/- slices.Sort of bytes that rise. -/
import Derived.Test.YtcddnmhmcieebaaGreatDoorY18
import Derived.Test.YtcddnmhmcieebaaGreatDoorTools
import Derived.Test.YtcddnmhmcieebaaGreatDoorY11
import Derived.RangeFuncNested
import Derived.RangeFuncBound
import Derived.RangeFuncCalls
import Derived.RangeFuncLeaves
import Derived.Shelf.Abstract
import Derived.OwnWalkIn
import Derived.TacticsInMore
import Derived.OrdersIn
import Derived.Shelf.RegionOpen
import Derived.LoopNIn
import Derived.LoopIn
import Derived.Maps.AppendAt
import Derived.Sort.LoopGhostIn
import Derived.Sort.CutIn
import Derived.Deep.LoopGhost
import Derived.Deep.RegionHeld3
namespace Go.Proofs.YtcddnmhmcieebaaGreatDoor
set_option maxHeartbeats 4000000
set_option maxRecDepth 100000
open Go.RowKit
set_option linter.unusedSimpArgs false
set_option linter.unusedVariables false
set_option linter.unnecessarySimpa false
namespace Dw
theorem pivb (w : World) (g n c : Nat) (l : List Nat) (hl : l.length = n) (hn : n <= 1000000) (hr : RB w g l) (hs : Hid (RiseB l)) (hk : 8 <= n) : Calls Tryz.prog 181 #[.slice (some ⟨g, 0, none⟩) n c, .int .i64 0, .int .i64 n] w fun e w1 => (∃ p : Int, e = .returned (.tuple #[.int .i64 p, .int .i64 1])) /\ Below w.heap.size w w1 := by
 rcases Nat.lt_or_ge n 50 with h | h
 ·exact piv_small w g n c l hl hn hr hs ⟨hk, h⟩
 ·exact piv_big w g n c l hl hn hr hs h
theorem bitLen_pos {n : Nat} (h : 0 < n) : (Lib.bitLen (n : Int).toNat : Int) ≠ 0 := by
 rw [Int.toNat_natCast]
 show ((Lib.bitLenAux (63 + 1) n : Nat) : Int) ≠ 0
 rw [Lib.bitLenAux]
 split <;> omega
theorem pinb (w : World) (g n c : Nat) (l : List Nat) (hl : l.length = n) (hn : n <= 1000000) (hr : RB w g l) (hs : Hid (RiseB l)) (h1n : 1 <= n) : Calls Tryz.prog 183 #[.slice (some ⟨g, 0, none⟩) n c, .int .i64 0, .int .i64 n] w fun e w1 => e = .returned (.bool true) /\ Below w.heap.size w w1 := by
 refine Zn3 133 Tryz.func183 fun fr hf s0 s1 s2 => ?_
 refine Ze fun _ hK1 => Zr [] hf ?_
 refine Zq3 0 1 2 hf ?_
 clear hf s0 s1 s2; intro fr1 hf sS
 refine Zt hK1 fun _ hK2 => ?_
 have bB := hf.B2 11 12
 refine Zy ?_
 refine fp fun K Z => ?_
 go_simp
 try simp (disch := omega) only [Fact.W]
 try rw [show IntKind.i64.wrap ((0 : Int) + 1) = 1 by decide]
 apply Z.out; clear Z K
 refine Zy ?_
 refine Fact.nil (Zq4 0 1 2 7 hf ?_)
 clear hf sS bB; intro fr1 hf sS
 refine Zs hK2 fun _ hK3 => Ze fun _ hK4 => Zr [] hf ?_
 refine Zq5 0 1 2 7 8 hf ?_
 clear hf sS; intro fr1 hf sS
 refine Zx hK4 (wp_block (wp_loop_ghost (fun gk fr wr => Fact.Fr 133 fr /\ fr.tmps[0]? = some (.slice (some ⟨g, 0, none⟩) n c) /\ fr.tmps[1]? = some (.int .i64 0) /\ fr.tmps[2]? = some (.int .i64 n) /\ fr.tmps[7]? = some (.int .i64 1) /\ fr.tmps[8]? = some (.int .i64 0) /\ wr = w) (0) ?_ ?_))
 . (
 obtain ⟨s0, s1, s2, s7, s8⟩ := sS
 exact ⟨hf, s0, s1, s2, s7, s8, rfl⟩)
 . (
 clear hf sS
 rintro gk fr wr ⟨hf, s0, s1, s2, s7, s8, hwr⟩
 subst hwr
 refine Ze fun _ hK5 => Ze fun _ hK6 => Zr [13] hf ?_
 refine Zq6 0 1 2 7 8 14 hf ?_
 clear hf s0 s1 s2 s7 s8; intro fr1 hf sS
 refine Zx hK6 (Fact.cond_t sS.2.2.2.2.2 ?_)
 refine wp_skip (Zs hK5 fun _ hK7 => wp_block (Ze fun _ hK8 => wp_block (wp_loop_ghost (fun gk2 fr w2 => ∃ (i : Nat), gk2 = n - i /\ 1 <= i /\ i <= n /\ Fact.Fr 133 fr /\ fr.tmps[0]? = some (.slice (some ⟨g, 0, none⟩) n c) /\ fr.tmps[1]? = some (.int .i64 0) /\ fr.tmps[2]? = some (.int .i64 n) /\ fr.tmps[7]? = some (.int .i64 i) /\ fr.tmps[8]? = some (.int .i64 0) /\ Below wr.heap.size wr w2) (n - 1) ?_ ?_)))
 . (
 obtain ⟨s0, s1, s2, s7, s8, s14⟩ := sS
 exact ⟨1, rfl, Nat.le_refl _, h1n, hf, s0, s1, s2, s7, s8, Below.refl _ _⟩)
 . (
 clear hf sS
 rintro gk2 fr w2 ⟨i, hk2, hi1, hin, hf, s0, s1, s2, s7, s8, hb⟩
 have HK := Lib.hid hk2; clear hk2
 rcases Nat.lt_or_ge i n with hlt | hge
 . (
 obtain ⟨p, hp⟩ : ∃ p, i = p + 1 := ⟨i - 1, by omega⟩
 have hrr := hr.later hb
 obtain ⟨xi, hxi⟩ : ∃ x, l[p]? = some x := ⟨_, gE1 (by omega)⟩
 obtain ⟨xj, hxj⟩ : ∃ x, l[p + 1]? = some x := ⟨_, gE1 (by omega)⟩
 have ci := hrr _ _ hxi; have cj := hrr _ _ hxj
 have hij := hs.out _ _ _ _ (by omega) hxi hxj
 clear hxi hxj
 have HIJ := Lib.hid hij; clear hij
 have e4 : IntKind.i64.wrap ((i : Int) - 1) = (p : Int) := by rw [Fact.wrap_i64 (by omega) (by omega)]; omega
 rw [<- hp] at cj
 have HP := Lib.hid hp; clear hp hrr
 have q1 : decide (i < n) = true := decide_eq_true hlt
 have q5 : decide ((i : Int) < (n : Int)) = true := decide_eq_true (by omega)
 refine Ze fun _ hK9 => Ze fun _ hK10 => Stab.tb 133 fun hok => ?_
 refine Stab.mO 0 s7 hf hok ?_
 refine Stab.mO 1 s2 hf hok ?_
 refine Stab.T 2 hf hok (fun _ _ h d => ad (Stab.vd 0 1 d []) (Stab.vd 1 0 d [])) ?_
 refine Stab.mN 3 2 0 hf hok [] ?_
 refine Stab.Tg 4 hf hok (fun _ _ h d => Stab.vd 3 0 d []) (fun _ _ h d => Stab.O h s0) ?_
 refine Stab.Tg 5 hf hok (fun _ _ h d => Stab.vd 3 1 d []) (fun _ _ h d => Stab.O h s7) ?_
 refine Stab.Tg 6 hf hok (fun _ _ h d => Stab.vd 3 2 d []) (fun _ _ h d => ad (Stab.vd 4 1 d []) (Stab.vd 5 0 d [])) ?_
 apply Stab.tr 7 _ hf hok
 . (
 intro fr1 w1 hh hd hk K Z
 have s20 := Stab.v 3 3 hd hk []
 refine Stab.g s20 ?_
 have s23 := Stab.v 6 0 hd hk []
 clear hd
 replace ci := cL hh.ext ci
 replace cj := cL hh.ext cj
 go_simp
 try rw [if_pos (by have := HP.out; omega)]
 exact Stab.k Z)
 refine Stab.Tg 8 hf hok (fun _ _ h d => Stab.vd 3 4 d []) (fun _ _ h d => Stab.O h s0) ?_
 refine Stab.Tg 9 hf hok (fun _ _ h d => Stab.vd 3 5 d []) (fun _ _ h d => Stab.O h s7) ?_
 apply Stab.tr 10 _ hf hok
 . (
 intro fr1 w1 hh hd hk K Z
 have s20 := Stab.v 3 6 hd hk []
 refine Stab.g s20 ?_
 have s26 := Stab.v 9 0 hd hk []
 clear hd
 go_simp
 try simp (disch := omega) only [Fact.W]
 try rw [e4]
 exact Stab.k Z)
 apply Stab.tr 11 _ hf hok
 . (
 intro fr1 w1 hh hd hk K Z
 have s20 := Stab.v 3 7 hd hk []
 refine Stab.g s20 ?_
 have s25 := Stab.v 8 2 hd hk []
 have s27 := Stab.v 10 0 hd hk []
 clear hd
 go_simp
 try rw [if_pos (by have := HP.out; omega)]
 exact Stab.k Z)
 refine Stab.Tg 12 hf hok (fun _ _ h d => Stab.vd 3 8 d []) (fun _ _ h d => ad (Stab.vd 11 0 d []) (ad (cL h.ext ci) (cL h.ext cj))) ?_
 apply Stab.tr 13 _ hf hok
 . (
 intro fr1 w1 hh hd hk K Z
 have s20 := Stab.v 3 9 hd hk []
 refine Stab.g s20 ?_
 have s24 := Stab.v 7 5 hd hk []
 have s29 := Stab.v 12 0 hd hk []
 clear hd
 replace ci := cL hh.ext ci
 replace cj := cL hh.ext cj
 go_simp
 go_at_call 184; refine (bless w1 xj xi).mono ?_; rintro e w2 ⟨rfl, rfl⟩
 rw [decide_eq_false (show ¬ xj < xi by have := HIJ.out; omega)]
 exact Stab.k Z)
 refine Stab.Tg 14 hf hok (fun _ _ h d => Stab.vd 3 10 d []) (fun _ _ h d => Stab.vd 13 0 d []) ?_
 refine Stab.T 15 hf hok (fun _ _ h d => ad (Stab.vd 3 11 d []) (Stab.vd 14 0 d [])) ?_
 refine Stab.E hf hok (fun _ _ h g => ad (Stab.O h s0) (ad (Stab.O h s1) (ad (Stab.O h s2) (ad (Stab.O h s7) (ad (Stab.O h s8) (Stab.f 15 0 g)))))) ?_
 clear hf hok s0 s1 s2 s7 s8; intro fr1 w1 hf hx sS
 replace ci := cL hx ci
 replace cj := cL hx cj
 refine Zx hK10 (Fact.cond_t sS.2.2.2.2.2 ?_)
 clear q1 q5 e4
 refine wp_skip (Zx hK9 (wp_block (Zr [33, 34] hf ?_)))
 refine Zq5 0 1 2 7 8 hf ?_
 clear hf sS; intro fr1 hf sS
 refine Fact.block_normal (Fact.then_normal ?_)
 obtain ⟨s0, s1, s2, s7, s8⟩ := sS
 exact ⟨_, by have := HK.out; omega, i + 1, rfl, by omega, by omega, hf, s0, s1, s2, by rw [s7]; rfl, s8, hb.trans (hx.mono hb.size)⟩)
 . (
 have hie : i = n := by omega
 have q1 : decide (i < n) = false := decide_eq_false (by omega)
 have q5 : decide ((i : Int) < (n : Int)) = false := decide_eq_false (by omega)
 refine Ze fun _ hK11 => Ze fun _ hK12 => Stab.tb 133 fun hok => ?_
 refine Stab.mO 0 s7 hf hok ?_
 refine Stab.mO 1 s2 hf hok ?_
 refine Stab.T 2 hf hok (fun _ _ h d => ad (Stab.vd 0 1 d []) (Stab.vd 1 0 d [])) ?_
 refine Stab.mN 3 2 0 hf hok [] ?_
 refine Stab.Tk 4 hf hok (fun _ _ h d => Stab.vd 3 0 d []) ?_
 refine Stab.Tk 5 hf hok (fun _ _ h d => Stab.vd 3 1 d []) ?_
 refine Stab.Tk 6 hf hok (fun _ _ h d => Stab.vd 3 2 d []) ?_
 apply Stab.tr 7 _ hf hok
 . (
 intro fr1 w1 hh hd hk K Z
 have s20 := Stab.v 3 3 hd hk []
 refine Stab.sk s20 ?_
 exact Stab.k Z)
 refine Stab.Tk 8 hf hok (fun _ _ h d => Stab.vd 3 4 d []) ?_
 refine Stab.Tk 9 hf hok (fun _ _ h d => Stab.vd 3 5 d []) ?_
 apply Stab.tr 10 _ hf hok
 . (
 intro fr1 w1 hh hd hk K Z
 have s20 := Stab.v 3 6 hd hk []
 refine Stab.sk s20 ?_
 exact Stab.k Z)
 apply Stab.tr 11 _ hf hok
 . (
 intro fr1 w1 hh hd hk K Z
 have s20 := Stab.v 3 7 hd hk []
 refine Stab.sk s20 ?_
 exact Stab.k Z)
 refine Stab.Tk 12 hf hok (fun _ _ h d => Stab.vd 3 8 d []) ?_
 apply Stab.tr 13 _ hf hok
 . (
 intro fr1 w1 hh hd hk K Z
 have s20 := Stab.v 3 9 hd hk []
 refine Stab.sk s20 ?_
 exact Stab.k Z)
 refine Stab.Tk 14 hf hok (fun _ _ h d => Stab.vd 3 10 d []) ?_
 refine Stab.T 15 hf hok (fun _ _ h d => ad (Stab.vd 3 11 d []) (Stab.vd 14 0 d [])) ?_
 refine Stab.E hf hok (fun _ _ h g => ad (Stab.O h s0) (ad (Stab.O h s1) (ad (Stab.O h s2) (ad (Stab.O h s7) (ad (Stab.O h s8) (Stab.f 15 0 g)))))) ?_
 clear hf hok s0 s1 s2 s7 s8; intro fr1 w1 hf hx sS
 refine Zx hK12 (Fact.cond_f sS.2.2.2.2.2 ?_)
 clear q1 q5
 subst hie
 refine Zo ?_
 refine Zs hK8 fun _ hK13 => Ze fun _ hK14 => Zr [35, 36] hf ?_
 refine Zq6 0 1 2 7 8 37 hf ?_
 clear hf sS; intro fr1 hf sS
 refine Zx hK14 (Fact.cond_t sS.2.2.2.2.2 ?_)
 refine Ze fun _ hK15 => Zr [] hf ?_
 refine Zq1 6 hf ?_
 clear hf sS; intro fr1 hf s6
 refine Zx hK15 (Zret ?_)
 exact Fact.ret1 rfl hf s6 ⟨rfl, hb.trans (hx.mono hb.size)⟩)))
theorem pdq_few (w : World) (A : Option Addr) (g n c : Nat) (l : List Nat) (hl : l.length = n) (hn : n <= 1000000) (hr : RB w g l) (hs : Hid (RiseB l)) (hA : 0 < n -> A = some ⟨g, 0, none⟩) (lim : Int) (hk : n <= 12) : Calls Tryz.prog 174 #[.slice A n c, .int .i64 0, .int .i64 n, .int .i64 lim] w fun e w1 => e = .returned (.tuple #[]) /\ Below w.heap.size w w1 := by
 refine Zn4 134 Tryz.func174 fun fr hf s0 s1 s2 s3 => ?_
 have z0 : IntKind.i64.wrap ((n : Int) - 0) = (n : Int) := by rw [Fact.wrap_i64 (by omega) (by omega)]; omega
 refine Ze fun _ hK1 => Zr [] hf ?_
 refine Zq5 0 1 2 3 8 hf ?_
 clear hf s0 s1 s2 s3; intro fr1 hf sS
 refine Zs hK1 fun _ hK2 => Zr [] hf ?_
 refine Zq6 0 1 2 3 8 9 hf ?_
 clear hf sS; intro fr1 hf sS
 refine Zx hK2 (wp_block (wp_loop_ghost (fun gk fr wr => Fact.Fr 134 fr /\ fr.tmps[0]? = some (.slice A n c) /\ fr.tmps[1]? = some (.int .i64 0) /\ fr.tmps[2]? = some (.int .i64 n) /\ fr.tmps[3]? = some (.int .i64 lim) /\ fr.tmps[8]? = some (.bool true) /\ fr.tmps[9]? = some (.bool true) /\ wr = w) (0) ?_ ?_))
 . (
 obtain ⟨s0, s1, s2, s3, s8, s9⟩ := sS
 exact ⟨hf, s0, s1, s2, s3, s8, s9, rfl⟩)
 . (
 clear hf sS
 rintro gk fr wr ⟨hf, s0, s1, s2, s3, s8, s9, hwr⟩
 subst hwr
 have q1 : decide ((n : Int) <= 12) = true := decide_eq_true (by omega)
 have q2 : decide (n <= 12) = true := decide_eq_true (by omega)
 refine wp_block (Ze fun _ hK3 => rg ?_)
 have bB := hf.B3 19 20 21
 iterate 2 refine Zy ?_
 refine fp fun K Z => ?_
 go_simp
 try simp (disch := omega) only [Fact.W]
 try rw [z0]
 apply Z.out; clear Z K
 refine Zy ?_
 refine Fact.nil (Zq7 0 1 2 3 8 9 10 hf ?_)
 clear hf s0 s1 s2 s3 s8 s9 bB; intro fr1 hf sS
 refine Zs hK3 fun _ hK4 => Ze fun _ hK5 => Zr [22] hf ?_
 refine Zq8 0 1 2 3 8 9 10 23 hf ?_
 clear hf sS; intro fr1 hf sS
 refine Zx hK5 (Fact.cond_t sS.2.2.2.2.2.2.2 ?_)
 refine Ze fun _ hK6 => rg ?_
 have bB := hf.B3 24 25 26
 iterate 3 refine Zy ?_
 refine fp fun K Z => ?_
 go_simp
 go_at_call 178; refine (insb wr A g n c l hl hn hr hs hA).mono ?_; rintro e w1 ⟨rfl, hb1⟩
 try dsimp only
 apply Z.out; clear Z K
 refine Fact.nil (Zq0 hf ?_)
 clear hf sS bB; intro fr1 hf
 refine Zx hK6 (Zret ?_)
 exact Fact.ret0 rfl hf ⟨rfl, hb1⟩)
theorem pdq_many (w : World) (A : Option Addr) (g n c : Nat) (l : List Nat) (hl : l.length = n) (hn : n <= 1000000) (hr : RB w g l) (hs : Hid (RiseB l)) (hA : 0 < n -> A = some ⟨g, 0, none⟩) (lim : Int) (hk : 12 < n) (hlim : lim ≠ 0) : Calls Tryz.prog 174 #[.slice A n c, .int .i64 0, .int .i64 n, .int .i64 lim] w fun e w1 => e = .returned (.tuple #[]) /\ Below w.heap.size w w1 := by
 refine Zn4 134 Tryz.func174 fun fr hf s0 s1 s2 s3 => ?_
 have z0 : IntKind.i64.wrap ((n : Int) - 0) = (n : Int) := by rw [Fact.wrap_i64 (by omega) (by omega)]; omega
 refine Ze fun _ hK1 => Zr [] hf ?_
 refine Zq5 0 1 2 3 8 hf ?_
 clear hf s0 s1 s2 s3; intro fr1 hf sS
 refine Zs hK1 fun _ hK2 => Zr [] hf ?_
 refine Zq6 0 1 2 3 8 9 hf ?_
 clear hf sS; intro fr1 hf sS
 refine Zx hK2 (wp_block (wp_loop_ghost (fun gk fr wr => Fact.Fr 134 fr /\ fr.tmps[0]? = some (.slice A n c) /\ fr.tmps[1]? = some (.int .i64 0) /\ fr.tmps[2]? = some (.int .i64 n) /\ fr.tmps[3]? = some (.int .i64 lim) /\ fr.tmps[8]? = some (.bool true) /\ fr.tmps[9]? = some (.bool true) /\ wr = w) (0) ?_ ?_))
 . (
 obtain ⟨s0, s1, s2, s3, s8, s9⟩ := sS
 exact ⟨hf, s0, s1, s2, s3, s8, s9, rfl⟩)
 . (
 clear hf sS
 rintro gk fr wr ⟨hf, s0, s1, s2, s3, s8, s9, hwr⟩
 subst hwr
 have q1 : decide ((n : Int) <= 12) = false := decide_eq_false (by omega)
 have q2 : decide (n <= 12) = false := decide_eq_false (by omega)
 refine wp_block (Ze fun _ hK3 => rg ?_)
 have bB := hf.B3 19 20 21
 iterate 2 refine Zy ?_
 refine fp fun K Z => ?_
 go_simp
 try simp (disch := omega) only [Fact.W]
 try rw [z0]
 apply Z.out; clear Z K
 refine Zy ?_
 refine Fact.nil (Zq7 0 1 2 3 8 9 10 hf ?_)
 clear hf s0 s1 s2 s3 s8 s9 bB; intro fr1 hf sS
 refine Zs hK3 fun _ hK4 => Ze fun _ hK5 => Zr [22] hf ?_
 refine Zq8 0 1 2 3 8 9 10 23 hf ?_
 clear hf sS; intro fr1 hf sS
 refine Zx hK5 (Fact.cond_f sS.2.2.2.2.2.2.2 ?_)
 have q3 : ((lim : Int) == 0) = false := beq_eq_false_iff_ne.2 hlim
 refine wp_skip (Zs hK4 fun _ hK6 => Ze fun _ hK7 => Zr [28] hf ?_)
 refine Zq8 0 1 2 3 8 9 10 29 hf ?_
 clear hf sS; intro fr1 hf sS
 refine Zx hK7 (Fact.cond_f sS.2.2.2.2.2.2.2 ?_)
 clear q1 q2 q3
 obtain rfl := hA (by omega)
 refine wp_skip (Zs hK6 fun _ hK8 => Ze fun _ hK9 => Zr [34] hf ?_)
 refine Zq8 0 1 2 3 8 9 10 35 hf ?_
 clear hf sS; intro fr1 hf sS
 refine Zx hK9 (Fact.cond_f sS.2.2.2.2.2.2.2 ?_)
 refine wp_skip (Zt hK8 fun _ hK10 => ?_)
 have bB := hf.B7 43 44 45 46 42 47 48
 iterate 3 refine Zy ?_
 refine Zc (pivb wr g n c l hl hn hr hs (by omega)) ?_; rintro e w1 ⟨⟨pv, rfl⟩, hb1⟩
 have hr1 := hr.later hb1
 refine Zv ?_
 iterate 5 refine Zy ?_
 refine Fact.nil (Zq9 0 1 2 3 8 9 10 11 12 hf ?_)
 clear hf sS bB; intro fr1 hf sS
 refine Zs hK10 fun _ hK11 => Ze fun _ hK12 => Zr [49] hf ?_
 refine Zq10 0 1 2 3 8 9 10 11 12 50 hf ?_
 clear hf sS; intro fr1 hf sS
 refine Zx hK12 (Fact.cond_f sS.2.2.2.2.2.2.2.2.2 ?_)
 refine wp_skip (Zs hK11 fun _ hK13 => Ze fun _ hK14 => Zr [61, 62, 63, 64, 65, 66, 67] hf ?_)
 refine Zq9 0 1 2 3 8 9 10 11 68 hf ?_
 clear hf sS; intro fr1 hf sS
 refine Zx hK14 (Fact.cond_t sS.2.2.2.2.2.2.2.2 ?_)
 refine Ze fun _ hK15 => rg ?_
 have bB := hf.B3 69 70 71
 iterate 3 refine Zy ?_
 refine Zc (pinb w1 g n c l hl hn hr1 hs (by omega)) ?_; rintro e w2 ⟨rfl, hb2⟩
 refine Zv ?_
 refine Fact.nil (Zq9 0 1 2 3 8 9 10 11 72 hf ?_)
 clear hf sS bB; intro fr1 hf sS
 refine Zx hK15 (Fact.cond_t sS.2.2.2.2.2.2.2.2 ?_)
 refine Zret ?_
 exact Fact.ret0 rfl hf ⟨rfl, hb1.trans (hb2.mono hb1.size)⟩)
theorem pdqb (w : World) (A : Option Addr) (g n c : Nat) (l : List Nat) (hl : l.length = n) (hn : n <= 1000000) (hr : RB w g l) (hs : Hid (RiseB l)) (hA : 0 < n -> A = some ⟨g, 0, none⟩) (lim : Int) (hlim : 12 < n -> lim ≠ 0) : Calls Tryz.prog 174 #[.slice A n c, .int .i64 0, .int .i64 n, .int .i64 lim] w fun e w1 => e = .returned (.tuple #[]) /\ Below w.heap.size w w1 := by
 rcases Nat.lt_or_ge 12 n with h | h
 ·exact pdq_many w A g n c l hl hn hr hs hA lim h (hlim h)
 ·exact pdq_few w A g n c l hl hn hr hs hA lim h
theorem sortb (w : World) (A : Option Addr) (g n c : Nat) (l : List Nat) (hl : l.length = n) (hn : n <= 1000000) (hr : RB w g l) (hs : Hid (RiseB l)) (hA : 0 < n -> A = some ⟨g, 0, none⟩) : Calls Tryz.prog 167 #[.slice A n c] w fun e w1 => e = .returned (.tuple #[]) /\ Below w.heap.size w w1 := by
 refine Zn1 11 Tryz.func167 fun fr hf s0 => ?_
 refine Ze fun _ hK1 => Zr [3, 4] hf ?_
 refine Zq2 0 2 hf ?_
 clear hf s0; intro fr1 hf sS
 refine Zx hK1 (rg ?_)
 have bB := hf.B5 5 6 7 8 9
 iterate 3 refine Zy ?_
 refine fp fun K Z => ?_
 go_simp
 try rw [Fact.wrap_u64 (by omega) (by omega)]
 apply Z.out; clear Z K
 refine Zc ((Tryz.bits_Len (n : Int) w (by omega) (by omega))) ?_; rintro e w1 ⟨rfl, hw1⟩
 subst w1
 generalize hlim : Lib.bitLen (n : Int).toNat = lim
 have HL := Lib.hid hlim; clear hlim
 refine Zv ?_
 refine Zc (pdqb w A g n c l hl hn hr hs hA lim (fun h => by rw [<- HL.out]; exact bitLen_pos (by omega))) ?_; rintro e w2 ⟨rfl, hb2⟩
 refine Zv ?_
 refine Fact.nil (Zq0 hf ?_)
 clear hf sS bB; intro fr1 hf
 exact Fact.end0 rfl hf ⟨rfl, hb2⟩
theorem compb_f (w : World) (A : Option Addr) (g n c : Nat) (l : List Nat) (hl : l.length = n) (hn : n <= 1000000) (hr : RB w g l) (hs : Hid (RiseB l)) (hA : 0 < n -> A = some ⟨g, 0, none⟩) (hk : n < 2) : Calls Tryz.prog 168 #[.slice A n c] w fun e w1 => e = .returned (.slice A n c) /\ Below w.heap.size w w1 := by
 refine Zn1 61 Tryz.func168 fun fr hf s0 => ?_
 have q1 : decide ((n : Int) < 2) = true := decide_eq_true (by omega)
 have q2 : decide (n < 2) = true := decide_eq_true (by omega)
 refine Ze fun _ hK1 => Zr [] hf ?_
 refine Zq1 0 hf ?_
 clear hf s0; intro fr1 hf s0
 refine Zs hK1 fun _ hK2 => Ze fun _ hK3 => Zr [6, 7] hf ?_
 refine Zq2 0 8 hf ?_
 clear hf s0; intro fr1 hf sS
 refine Zx hK3 (Fact.cond_t sS.2 ?_)
 refine Ze fun _ hK4 => Zr [9] hf ?_
 refine Zq1 2 hf ?_
 clear hf sS; intro fr1 hf s2
 refine Zx hK4 (Zret ?_)
 exact Fact.ret1 rfl hf s2 ⟨rfl, Below.refl _ _⟩
theorem compb_m (w : World) (A : Option Addr) (g n c : Nat) (l : List Nat) (hl : l.length = n) (hn : n <= 1000000) (hr : RB w g l) (hs : Hid (RiseB l)) (hA : 0 < n -> A = some ⟨g, 0, none⟩) (hk : 2 <= n) : Calls Tryz.prog 168 #[.slice A n c] w fun e w1 => e = .returned (.slice A n c) /\ Below w.heap.size w w1 := by
 refine Zn1 61 Tryz.func168 fun fr hf s0 => ?_
 have q1 : decide ((n : Int) < 2) = false := decide_eq_false (by omega)
 have q2 : decide (n < 2) = false := decide_eq_false (by omega)
 refine Ze fun _ hK1 => Zr [] hf ?_
 refine Zq1 0 hf ?_
 clear hf s0; intro fr1 hf s0
 refine Zs hK1 fun _ hK2 => Ze fun _ hK3 => Zr [6, 7] hf ?_
 refine Zq2 0 8 hf ?_
 clear hf s0; intro fr1 hf sS
 refine Zx hK3 (Fact.cond_f sS.2 ?_)
 clear q1 q2
 obtain rfl := hA (by omega)
 refine wp_skip (Zs hK2 fun _ hK4 => Ze fun _ hK5 => Zr [] hf ?_)
 refine Zq2 0 3 hf ?_
 clear hf sS; intro fr1 hf sS
 refine Zx hK5 (wp_block (wp_loop_ghost (fun gk fr wr => ∃ (i : Nat), gk = n - i /\ 1 <= i /\ i <= n /\ Fact.Fr 61 fr /\ fr.tmps[0]? = some (.slice (some ⟨g, 0, none⟩) n c) /\ fr.tmps[3]? = some (.int .i64 i) /\ Below w.heap.size w wr) (n - 1) ?_ ?_))
 . (
 exact ⟨1, rfl, Nat.le_refl _, by omega, hf, sS.1, sS.2, Below.refl _ _⟩)
 . (
 clear hf sS
 rintro gk fr wr ⟨i, hk, hi1, hin, hf, s0, s3, hb⟩
 have HK := Lib.hid hk; clear hk
 refine Ze fun _ hK6 => Ze fun _ hK7 => Zr [10, 11, 12] hf ?_
 refine Zq3 0 3 13 hf ?_
 clear hf s0 s3; intro fr1 hf sS
 refine Zx hK7 (Fact.cond_s sS.2.2 (fun hq => ?_) (fun hq => ?_))
 . (
 have hlt : i < n := by have h9 := of_decide_eq_true hq; omega
 clear hq
 obtain ⟨p, hp⟩ : ∃ p, i = p + 1 := ⟨i - 1, by omega⟩
 have hrr := hr.later hb
 obtain ⟨xi, hxi⟩ : ∃ x, l[p]? = some x := ⟨_, gE1 (by omega)⟩
 obtain ⟨xj, hxj⟩ : ∃ x, l[p + 1]? = some x := ⟨_, gE1 (by omega)⟩
 have ci := hrr _ _ hxi; have cj := hrr _ _ hxj
 have hij := hs.out _ _ _ _ (by omega) hxi hxj
 clear hxi hxj
 have HIJ := Lib.hid hij; clear hij
 have e4 : IntKind.i64.wrap ((i : Int) - 1) = (p : Int) := by rw [Fact.wrap_i64 (by omega) (by omega)]; omega
 rw [<- hp] at cj
 have HP := Lib.hid hp; clear hp hrr
 have q3 : (((xj : Nat) : Int) == ((xi : Nat) : Int)) = false := beq_eq_false_iff_ne.2 (by have := HIJ.out; omega)
 refine wp_skip (Zs hK6 fun _ hK8 => wp_block (Ze fun _ hK9 => ?_))
 obtain ⟨s0, s3, s13⟩ := sS
 refine Stab.tb 61 fun hok => ?_
 refine Stab.mO 0 s0 hf hok ?_
 refine Stab.mO 1 s3 hf hok ?_
 apply Stab.tq 2 _ hf hok
 . (
 intro fr1 w1 hh hd hk K Z
 have s16 := Stab.v 0 1 hd hk []
 have s17 := Stab.v 1 0 hd hk []
 clear hd
 go_simp
 try rw [if_pos (by have := HP.out; omega)]
 exact Stab.k Z)
 refine Stab.T 3 hf hok (fun _ _ h d => ad (Stab.vd 2 0 d []) (ad (cL h.ext ci) (cL h.ext cj))) ?_
 refine Stab.mO 4 s0 hf hok ?_
 refine Stab.mO 5 s3 hf hok ?_
 apply Stab.tq 6 _ hf hok
 . (
 intro fr1 w1 hh hd hk K Z
 have s21 := Stab.v 5 0 hd hk []
 clear hd
 go_simp
 try simp (disch := omega) only [Fact.W]
 try rw [e4]
 exact Stab.k Z)
 apply Stab.tq 7 _ hf hok
 . (
 intro fr1 w1 hh hd hk K Z
 have s20 := Stab.v 4 2 hd hk []
 have s22 := Stab.v 6 0 hd hk []
 clear hd
 go_simp
 try rw [if_pos (by have := HP.out; omega)]
 exact Stab.k Z)
 refine Stab.T 8 hf hok (fun _ _ h d => ad (Stab.vd 7 0 d []) (ad (cL h.ext ci) (cL h.ext cj))) ?_
 apply Stab.tq 9 _ hf hok
 . (
 intro fr1 w1 hh hd hk K Z
 have s19 := Stab.v 3 5 hd hk []
 have s24 := Stab.v 8 0 hd hk []
 clear hd
 go_simp
 try rw [q3]
 exact Stab.k Z)
 refine Stab.E hf hok (fun _ _ h g => ad (Stab.O h s0) (ad (Stab.O h s3) (Stab.f 9 0 g))) ?_
 clear hf hok s0 s3 s13; intro fr1 w1 hf hx sS
 replace ci := cL hx ci
 replace cj := cL hx cj
 refine Zx hK9 (Fact.cond_f sS.2.2 ?_)
 clear q3 e4
 refine wp_skip (Fact.block_normal (Zx hK8 (Zr [14, 15] hf ?_)))
 refine Zq2 0 3 hf ?_
 clear hf sS; intro fr1 hf sS
 refine Fact.then_normal ?_
 exact ⟨_, by have := HK.out; omega, i + 1, rfl, by omega, by omega, hf, sS.1, by rw [sS.2]; rfl, hb.trans (hx.mono hb.size)⟩)
 . (
 clear hq
 refine Zo ?_
 refine Zs hK4 fun _ hK10 => Zr [60] hf ?_
 refine Zq1 2 hf ?_
 clear hf sS; intro fr1 hf s2
 refine Zx hK10 (Zret ?_)
 exact Fact.ret1 rfl hf s2 ⟨rfl, hb⟩))
theorem compb (w : World) (A : Option Addr) (g n c : Nat) (l : List Nat) (hl : l.length = n) (hn : n <= 1000000) (hr : RB w g l) (hs : Hid (RiseB l)) (hA : 0 < n -> A = some ⟨g, 0, none⟩) : Calls Tryz.prog 168 #[.slice A n c] w fun e w1 => e = .returned (.slice A n c) /\ Below w.heap.size w w1 := by
 rcases Nat.lt_or_ge n 2 with h | h
 ·exact compb_f w A g n c l hl hn hr hs hA h
 ·exact compb_m w A g n c l hl hn hr hs hA h
theorem okArcs_to {i : Nat} {last : Int} : ∀ {l : List Arc}, okArcs i last l = true -> ∀ {a : Arc}, a ∈ l -> 0 <= a.to /\ a.to < (i : Int) := fun h a ha => formed_ahead0 _ i last h a ha
theorem okArcs_gt {i : Nat} : ∀ (l : List Arc) (last : Int), okArcs i last l = true -> ∀ a ∈ l, last < (a.byte : Int)
 | [], _, _, a, ha => by cases ha
 | x :: l, last, h, a, ha => by
  simp only [okArcs, Bool.and_eq_true, decide_eq_true_eq] at h
  rcases List.mem_cons.1 ha with rfl | ha
  ·exact h.1.2
  ·have := okArcs_gt l _ h.2 a ha
   omega
theorem okArcs_rise {i : Nat} : ∀ (l : List Arc) (last : Int), okArcs i last l = true -> (l.map Arc.byte).Pairwise (. < ·)
 | [], _, _ => List.Pairwise.nil
 | x :: l, last, h => by
  simp only [okArcs, Bool.and_eq_true, decide_eq_true_eq] at h
  rw [List.map_cons, List.pairwise_cons]
  refine ⟨fun y hy => ?_, okArcs_rise l _ h.2⟩
  obtain ⟨a, ha, rfl⟩ := List.mem_map.1 hy
  have := okArcs_gt l _ h.2 a ha
  omega
theorem rise_bytes {i : Nat} {l : List Arc} (h : okArcs i (-1) l = true) : Hid (RiseB (l.map Arc.byte)) := by
 have hp := okArcs_rise l (-1) h
 refine Lib.hid fun i j x y hij hx hy => ?_
 obtain ⟨h1, rfl⟩ := gS1 hx
 obtain ⟨h2, rfl⟩ := gS1 hy
 exact List.pairwise_iff_getElem.1 hp i j h1 h2 hij
theorem OB.later9 {w w' : World} {base : Nat} {v : Value} {l : List Nat} (h : OB w base v l) (hb : Below w.heap.size w w') : OB w' base v l := own_later h hb
theorem OB.rb {w : World} {base : Nat} {v : Value} {l : List Nat} (h : OB w base v l) : ∃ (g : Nat) (A : Option Addr) (c : Nat), v = .slice A l.length c /\ (0 < l.length -> A = some ⟨g, 0, none⟩) /\ RB w g l := by
 obtain ⟨A, c, rfl, _⟩ := row_form h
 rcases Nat.eq_zero_or_pos l.length with h0 | h0
 ·exact ⟨0, A, c, rfl, fun h => by omega, fun i x hx => by have := (gS1 hx).1; omega⟩
 ·obtain ⟨x, hx⟩ : ∃ x, l[0]? = some x := ⟨_, gE1 h0⟩
  obtain ⟨b, hA, _⟩ := OB.cell h hx
  refine ⟨b, A, c, rfl, fun _ => hA, fun i y hy => ?_⟩
  obtain ⟨b', hA', h2⟩ := OB.cell h hy
  rw [hA] at hA'
  injection hA' with hA'
  injection hA' with hA'
  subst hA'
  exact h2.2.2
theorem bytes157 (w : World) (sv : Value) (init : Nat) (ss : List State) (hrs : RS w sv ss) (k : Nat) (st : State) (hk : ss[k]? = some st) (hmax : ss.length <= 1000000000) (hok : okArcs k (-1) st.arcs = true) (hlen : st.arcs.length <= 1000000) : Calls Tryz.prog 157 #[.agg #[sv, .int .u64 init], .int .i64 k] w fun e w1 => ∃ v1, e = .returned v1 /\ OB w1 w.heap.size v1 (st.arcs.map Arc.byte) /\ Below w.heap.size w w1 := by
 refine Zn2 46 Tryz.func157 fun fr hf s0 s1 => ?_
 obtain ⟨A, cc, rfl, hcc⟩ := hrs.form
 have hlt := (gS1 hk).1
 have HOK := Lib.hid hok; clear hok
 have q1 : decide ((k : Int) < 0) = false := decide_eq_false (by omega)
 have q2 : decide (ss.length <= k) = false := decide_eq_false (by omega)
 refine Ze fun _ hK1 => Zr [] hf ?_
 refine Zq3 1 2 4 hf ?_
 clear hf s0 s1; intro fr1 hf sS
 generalize hW0 : w.alloc (.cells #[.slice A ss.length cc, .int .u64 init] 38) = W0
 obtain ⟨hb0, c0, c1, -, -⟩ := box2 hW0
 clear hW0
 have hr0 := hrs.later hb0
 clear hrs
 obtain ⟨bb, off, av, hA0, hat⟩ := hr0.at_ hk
 subst hA0
 have d0 := hat.c0
 have hra := hat.arcs
 obtain ⟨A2, c2, hav, hc2⟩ := hra.form
 subst hav
 clear hat hr0
 refine Zs hK1 fun _ hK2 => Ze fun _ hK3 => ?_
 have qs := And.intro q1 q2
 refine Zr [7, 8, 9, 10, 11, 12, 13, 14] hf ?_
 refine Zq4 1 2 4 15 hf ?_
 clear hf sS qs; intro fr1 hf sS
 refine Zx hK3 (Fact.cond_f sS.2.2.2 ?_)
 clear q1 q2
 refine wp_skip (Zs hK2 fun _ hK4 => Ze fun _ hK5 => Zr [16, 17, 18, 19, 20, 21] hf ?_)
 refine Zq5 1 4 21 22 23 hf ?_
 clear hf sS; intro fr1 hf sS
 refine Zx hK5 (wp_block (wp_loop_ghost (fun gk fr wr => ∃ (i : Nat) (V : Value), gk = st.arcs.length - i /\ i <= st.arcs.length /\ Fact.Fr 46 fr /\ fr.tmps[1]? = some (.int .i64 k) /\ fr.tmps[4]? = some V /\ fr.tmps[21]? = some (.slice A2 st.arcs.length c2) /\ fr.tmps[22]? = some (.int .i64 st.arcs.length) /\ fr.tmps[23]? = some (.int .i64 i) /\ OB wr W0.heap.size V ((st.arcs.take i).map Arc.byte) /\ Below W0.heap.size W0 wr) (st.arcs.length) ?_ ?_))
 . (
 obtain ⟨s1, s4, s21, s22, s23⟩ := sS
 exact ⟨0, _, rfl, Nat.zero_le _, hf, s1, s4, s21, s22, s23, OB.nil_ _ _, Below.refl _ _⟩)
 . (
 clear hf sS
 clear c0 c1 d0
 rintro gk fr wr ⟨i, V, hk9, hi, hf, s1, s4, s21, s22, s23, how, hb⟩
 have HK := Lib.hid hk9; clear hk9
 have hbw := hb0.trans (hb.mono hb0.size)
 refine Ze fun _ hK6 => Zr [] hf ?_
 refine Zq6 1 4 21 22 23 24 hf ?_
 clear hf s1 s4 s21 s22 s23; intro fr1 hf sS
 refine Zs hK6 fun _ hK7 => Fact.cond_s sS.2.2.2.2.2 (fun hq => ?_) (fun hq => ?_)
 . (
 have hlti : i < st.arcs.length := by have h9 := of_decide_eq_true hq; omega
 clear hq
 obtain ⟨a, hia⟩ : ∃ a, st.arcs[i]? = some a := ⟨_, gE1 hlti⟩
 obtain ⟨b3, off3, hA3, hbl, y0, y1, y2⟩ := (hra.later hb).at' hia
 subst hA3
 have hto := okArcs_to HOK.out (gM1 hia)
 have hst : (st.arcs.take (i + 1)).map Arc.byte = (st.arcs.take i).map Arc.byte ++ [a.byte] := by rw [List.take_add_one, hia]; simp
 obtain ⟨xs, hxs⟩ : ∃ x, (st.arcs.take i).map Arc.byte = x := ⟨_, rfl⟩
 have hxl : xs.length = i := by rw [<- hxs]; simp; omega
 rw [hxs] at how hst
 have HST := Lib.hid hst; have HXL := Lib.hid hxl; clear hst hxs hxl hia
 obtain ⟨Av, cv, hV, hcv⟩ := row_form how
 subst hV
 refine wp_skip (Zs hK7 fun _ hK8 => wp_block (Ze fun _ hK9 => Zr [25, 26, 6] hf ?_))
 refine Zq6 1 4 6 21 22 23 hf ?_
 clear hf sS; intro fr1 hf sS
 generalize hW5 : wr.alloc (.cells #[.int .u8 a.byte, .int .u64 a.out, .int .i64 a.to] 71) = W5
 obtain ⟨hb5, z0, z1, z2, -, -⟩ := box3 hW5
 clear hW5
 clear y0 y1 y2 hbl
 have how5 := own_later how hb5
 have hbw5 := hbw.trans (hb5.mono hbw.size)
 refine Zx hK9 ?_
 have q1 : decide (0 <= a.to) = true := decide_eq_true hto.1
 have q2 : decide (a.to < (k : Int)) = true := decide_eq_true hto.2
 refine Ze fun _ hK10 => ?_
 have qs := And.intro q1 q2
 refine Zr [27, 28, 29, 30, 31, 32, 33, 34] hf ?_
 refine Zq7 1 4 6 21 22 23 35 hf ?_
 clear hf sS qs; intro fr1 hf sS
 refine Zx hK10 (Fact.cond_t sS.2.2.2.2.2.2 ?_)
 clear q1 q2
 refine rg ?_
 have bB := hf.B5 36 37 38 39 40
 iterate 4 refine Zy ?_
 obtain ⟨s1, s4, s6, s21, s22, s23, s35⟩ := sS
 clear bB
 refine Fact.reL (n := 46) (by simp only [Fact.G, hf.size]) hf.defers (fun fr1 hf1 hT => ?_)
 have hKp := Fact.h7 hT 1 4 21 22 23 36 39
 simp (decide := true) only [Fact.G, hf.size, reduceIte, s1, s4, s21, s22, s23] at hKp
 replace hf := hf1; clear hT hf1 s1 s4 s6 s21 s22 s23 s35
 obtain ⟨s1, s4, s21, s22, s23, s36, s39⟩ := hKp
 have bB := hf.b 40
 refine ⟨?_⟩
 refine wpList_plain rfl fun K5 hK5 => ?_
 refine wp_app _ _ 31 rfl 5 _ 1 1 Tryz.underlying31 info_u8 rfl (by decide) (by decide) W0.heap.size (.slice Av xs.length cv) xs.length _ (Fact.eval_tmp s36) (how5.alloc _) W5.heap.size [.int .u8 a.byte] (Fact.eval_tmp s39) rfl (lit_new W5 _ _) (by intro u hu; simp at hu; subst hu; rfl) (by have := HXL.out; omega) (by have := hb.size; have := hb5.size; simp; omega) (fun v5 w5 hr5 hg5 hat5 => hK5 _ _ ?_)
 refine Fact.L.out ?_
 refine Zy ?_
 refine Fact.nil (Zq5 1 4 21 22 23 hf ?_)
 clear hf s1 s4 s21 s22 s23 s36 s39 bB; intro fr1 hf sS
 have hb7 := ((hb.trans (hb5.mono hb.size)).alloc (Nat.le_trans hb.size hb5.size) _).grown hg5 (Nat.le_trans (Nat.le_trans hb.size hb5.size) (by simp)) (fun kk hkk => (how5.lt kk hkk).1)
 have hown : OB w5 W0.heap.size v5 (xs ++ [a.byte]) := by unfold OB; rw [bcs_append, List.length_append]; exact hr5
 refine Fact.block_normal (Zx hK8 (Zr [41] hf ?_))
 refine Zq5 1 4 21 22 23 hf ?_
 clear hf sS; intro fr1 hf sS
 refine Fact.then_normal ?_
 obtain ⟨s1, s4, s21, s22, s23⟩ := sS
 exact ⟨_, by have := HK.out; omega, i + 1, v5, rfl, by omega, hf, s1, s4, s21, s22, by rw [s23]; rfl, by rw [HST.out]; exact hown, hb7⟩)
 . (
 have hie : i = st.arcs.length := by have h9 := of_decide_eq_false hq; omega
 rw [hie, List.take_length] at how
 clear hq hie HK hi
 obtain ⟨bl9, hbl9⟩ : ∃ x, st.arcs.map Arc.byte = x := ⟨_, rfl⟩
 have hlen9 : bl9.length = st.arcs.length := by rw [<- hbl9, List.length_map]
 have hrise := rise_bytes (HOK.out)
 rw [hbl9] at how hrise
 have HB9 := Lib.hid hbl9; clear hbl9
 obtain ⟨g9, A9, c9, hv9, hA9, hrb9⟩ := how.rb
 subst hv9
 have HL9 := Lib.hid hlen9; clear hlen9
 have HA9 := Lib.hid hA9; clear hA9
 refine Zo ?_
 refine Zt hK4 fun _ hK11 => ?_
 have bB := hf.b 42
 refine Zy ?_
 refine Zc (sortb wr A9 g9 bl9.length c9 bl9 rfl (by have := HL9.out; omega) hrb9 hrise HA9.out) ?_; rintro e w2 ⟨rfl, hb2⟩
 have hrb2 := hrb9.later hb2
 replace how := how.later9 hb2
 clear hrb9
 refine Zv ?_
 refine Fact.nil (Zq1 4 hf ?_)
 clear hf sS bB; intro fr1 hf s4
 refine Zt hK11 fun _ hK12 => ?_
 have bB := hf.B2 44 45
 refine Zy ?_
 refine Zc (compb w2 A9 g9 bl9.length c9 bl9 rfl (by have := HL9.out; omega) hrb2 hrise HA9.out) ?_; rintro e w3 ⟨rfl, hb3⟩
 replace how := how.later9 hb3
 refine Zv ?_
 refine Zy ?_
 refine Fact.nil (Zq1 4 hf ?_)
 clear hf s4 bB; intro fr1 hf s4
 refine Zx hK12 (Zret ?_)
 exact Fact.ret1 rfl hf s4 ⟨_, rfl, by rw [HB9.out]; exact own_less how hb0.size, (hbw.trans (hb2.mono hbw.size)).trans (hb3.mono (Nat.le_trans hbw.size hb2.size))⟩))
end Dw
namespace Inr
section
variable {P : Program} {n l : Nat} {Q : Exit -> Act -> World -> Prop}
def Fe (r : Option Nat) : Fence := match r with
 | none => Fence.wide
 | some l => Fence.wide.inRound l
theorem rows_in {r : Option Nat} {row : String} {args : Array Value} {w : World} {R : Value -> World -> Prop} (h : Rows P row args w R) : RowsIn (Fe r) n P row args w R := by
 intro c cs _
 obtain ⟨v, w', hr, s⟩ := h c cs
 cases r with
 | none => exact ⟨v, w', hr, stepsIn_wide.2 s⟩
 | some l => exact ⟨v, w', hr, stepsIn_wide.2 s⟩
theorem calls_in {r : Option Nat} {f : FuncId} {args : Array Value} {w : World} {R : Ending -> World -> Prop} (h : Calls P f args w R) : CallsIn (Fe r) n P f args w R := by
 cases r with
 | none => exact callsIn_wide.2 h
 | some l => exact (callsIn_wide.2 h).inRound l
theorem fe_depth (r : Option Nat) : (Fe r).depth = none := by cases r <;> rfl
theorem fe_fn (r : Option Nat) (f : FuncId) : (Fe r).fn f := by cases r <;> exact trivial
theorem sem_in (r : Option Nat) (ρ : Operand -> Value) {o : Oper} (hd : ∀ c, o.op ≠ .defer c) : o.semAt (Fe r).round ρ = execOp ρ o := by
 cases r with
 | none => rfl
 | some l => exact Oper.semAt_some l ρ o hd
theorem op_in {r : Option Nat} {o : Oper} {a : Act} {w : World} {K : Act -> World -> Prop} (hd : ∀ c, o.op ≠ .defer c) (h : o.wp P a w K Q) : o.wpIn (Fe r) n P a w K Q := by
 refine ⟨fun f _ => fe_fn r f, ?_⟩
 rw [sem_in r _ hd]
 unfold Oper.wp at h
 generalize (execOp a.eval o).run P w = res at h
 have h1 : (Fe r).depth.isSome = true -> 1 <= n := fun h => by rw [fe_depth] at h; cases h
 cases res with
 | ok x w' => cases x <;> first | exact h | exact ⟨h1, calls_in h⟩ | exact ⟨h1, rows_in h⟩ | exact h.elim
 | halt x w' => cases x <;> exact h
def noDefer (ops : List Oper) : Bool := ops.all fun o => match o.op with
 | .defer _ => false
 | _ => true
theorem nd_of {ops : List Oper} (h : noDefer ops = true) {o : Oper} (ho : o ∈ ops) : ∀ c, o.op ≠ .defer c := fun c hc => by
 have := List.all_eq_true.1 h o ho
 rw [hc] at this
 cases this
theorem any_in {r : Option Nat} {ops : Array Oper} (hQ : ¬ LetsOut Q) (hd : ∀ (i : Nat) (o : Oper), ops[i]? = some o -> ∀ c, o.op ≠ .defer c) : ∀ (fuel : Nat) (listed : Array Bool) (a : Act) (w : World), wpAny P .any ops Q fuel listed a w -> wpAnyIn (Fe r) n P .any ops Q fuel listed a w
 | 0, _, _, _, h => h
 | fuel + 1, listed, a, w, h => by
  refine ⟨h.1, fun i hi => ?_⟩
  have h2 := h.2 i hi
  unfold wpOp at h2
  unfold wpOpIn
  cases ho : ops[i]? with
  | none => rw [ho] at h2; exact any_in hQ hd fuel _ _ _ h2
  | some o =>
   rw [ho] at h2
   simp only at h2 |-
   split at h2
   ·rename_i hw
    rw [if_pos hw]
    rcases h2 with h2 | h2
    ·exact op_in (hd i o ho) (Oper.wp_mono (fun a w => any_in hQ hd fuel _ a w) h2)
    ·exact absurd h2.2 hQ
   ·rename_i hw
    rw [if_neg hw]
    exact ⟨fun f _ => fe_fn r f, any_in hQ hd fuel _ _ _ h2⟩
theorem drawn {r : Option Nat} {id : Nat} {l : List Oper} {a : Act} {w : World} (hQ : ¬ LetsOut Q) (h : Stab.TodoE P id l.toArray Q a w []) (hd : noDefer l = true := by rfl) : (Code.region id l.toArray true).wpIn (Fe r) n P Q a w :=
 wpIn_region_any (Stab.todo_good h).1 (any_in hQ (fun i o ho => nd_of hd (gM1 (by simpa using ho))) _ _ _ _ (Stab.todo_good h).2)
theorem drawnB {r : Option Nat} {id k : Nat} {l : List Oper} {a : Act} {w : World} (hQ : ¬ LetsOut Q) (hok : Stab.OkOps l.toArray k) (h : Hid (Stab.OkOps l.toArray k) -> Stab.TodoE P id l.toArray Q a w []) (hd : noDefer l = true := by rfl) : (Code.region id l.toArray true).wpIn (Fe r) n P Q a w := drawn hQ (h (Lib.hid hok)) hd
structure LI (r : Option Nat) (n : Nat) (P : Program) (ops : Array Oper) (Q : Exit -> Act -> World -> Prop) (rest : List Oper) (a : Act) (w : World) : Prop where
 out : wpListIn (Fe r) n P ops Q rest a w
variable {r : Option Nat} {ops : Array Oper} {rest : List Oper} {o : Oper} {a : Act} {w : World}
theorem rgI {id : Nat} {l : List Oper} (h : LI r n P l.toArray Q l a w) : (Code.region id l.toArray false).wpIn (Fe r) n P Q a w := wpIn_region_lit h.out
theorem rgW {id : Nat} {l : List Oper} (n : Nat) (h : LI none n P l.toArray Q l a w) : (Code.region id l.toArray false).wp P Q a w := (wpIn_wide (n := n)).1 (rgI (r := none) h)
theorem nilI (h : Q .normal a w) : LI r n P ops Q [] a w := ⟨wpListIn_nil h⟩
theorem fpI (h : ∀ K : Act -> World -> Prop, Hid (∀ a w, LI r n P ops Q rest a w -> K a w) -> o.wp P a w K Q) (hg : o.guard = none := by rfl) (hd : noDefer [o] = true := by rfl) : LI r n P ops Q (o :: rest) a w :=
 ⟨wpListIn_plain hg fun K hK => op_in (nd_of hd (List.mem_singleton.2 rfl)) (h K (Lib.hid fun a w hl => hK a w hl.out))⟩
theorem yieldI {lp : Nat} {vals : Array Value} {R : Ending -> World -> Prop} (hy : YieldAt (Fe r) (n - 1) P lp vals w R) (hs : (execOp a.eval o).run P w = (Instr.yield lp vals).run P w)
  (hR : ∀ e w', R e w' -> ∃ v, e = .returned v /\ LI r n P ops Q rest (a.put o.dst v) w') (hg : o.guard = none := by rfl) (hd : noDefer [o] = true := by rfl) : LI r n P ops Q (o :: rest) a w := by
 obtain ⟨fn, tmps, asg, body, h1, h2⟩ := hy
 refine ⟨wpListIn_plain hg fun K hK => ⟨fun f _ => fe_fn r f, ?_⟩⟩
 rw [sem_in r _ (nd_of hd (List.mem_singleton.2 rfl)), hs, h1]
 refine ⟨fun h => (by rw [fe_depth] at h; cases h), RoundIn.mono h2 fun e w' hr => ?_⟩
 obtain ⟨v, rfl, h⟩ := hR e w' hr
 exact hK _ _ h.out
end
end Inr
def Stays (C : Obj -> Prop) (B : Nat) (I : World -> Prop) : Prop :=
 ∀ W W' row, I W -> W.grownBy W' row -> (∀ r, row = some r -> B <= r /\ ∃ o : Obj, W.heap[r]? = some o /\ C o) -> I W'
theorem Stays.and {C : Obj -> Prop} {B : Nat} {I J : World -> Prop} (h : Stays C B I) (k : Stays C B J) : Stays C B (fun W => I W /\ J W) :=
 fun W W' row hs hg hr => ⟨h W W' row hs.1 hg hr, k W W' row hs.2 hg hr⟩
theorem Stays.pure (C : Obj -> Prop) (B : Nat) (p : Prop) : Stays C B (fun _ => p) := fun _ _ _ hs _ _ => hs
theorem Stays.ex {β : Type} {C : Obj -> Prop} {B : Nat} {I : β -> World -> Prop} (h : ∀ b, Stays C B (I b)) : Stays C B (fun W => ∃ b, I b W) :=
 fun W W' row ⟨b, hs⟩ hg hr => ⟨b, h b W W' row hs hg hr⟩
theorem Stays.below {C : Obj -> Prop} {n₀ B : Nat} {w₀ : World} (hn : n₀ <= w₀.heap.size) (hB : n₀ <= B) : Stays C B (fun W => Below n₀ w₀ W) :=
 fun _ _ _ hs hg hr => hs.grown hg (Nat.le_trans hn hs.size) (fun k e => Nat.le_trans hB (hr k e).1)
theorem Stays.block {C : Obj -> Prop} {B k : Nat} {o : Obj} (h : k < B \/ ¬ C o) : Stays C B (fun W => W.heap[k]? = some o) := by
 intro W W' row hs hg hr
 refine (hg.block k (Array.getElem?_eq_some_iff.1 hs).1 (fun e => ?_)).trans hs
 obtain ⟨hB, o', ho', hc⟩ := hr k e.symm
 rw [hs] at ho'
 cases ho'
 rcases h with h | h
 ·omega
 ·exact h hc
theorem Stays.own {C : Obj -> Prop} {B base : Nat} {e : TypeId} {size n : Nat} {v : Value} {xs : List Value} (hC : ∀ cur, ¬ C (.cells cur e (0, 0))) :
  Stays C B (fun W => W.ownsRow base e size v n xs) := by
 intro W W' row hs hg hr
 refine hs.kept hg ?_
 rcases hs.2 with ⟨rfl, _⟩ | ⟨g, cap, cur, rfl, _, hgb, _⟩
 ·exact .inl rfl
 ·refine .inr (fun he => ?_)
  obtain ⟨_, o, ho, hc⟩ := hr g he.symm
  rw [hgb] at ho
  cases ho
  exact hC _ hc
theorem Stays.alloc {C : Obj -> Prop} {B : Nat} {I : World -> Prop} (h : Stays C B I) {W : World} (hs : I W) (o : Obj) : I (W.alloc o) :=
 h W _ none hs (World.grownBy_alloc W o none) (fun _ e => by cases e)
theorem Stays.put {C : Obj -> Prop} {B : Nat} {I : World -> Prop} (h : Stays C B I) {W : World} (hs : I W) {l : Nat} {o : Obj} (o' : Obj) (hl : W.heap[l]? = some o) (hB : B <= l) (hc : C o) : I (W.putObj l o') :=
 h W _ (some l) hs (grownBy_putObj' W l o') (fun r e => by cases e; exact ⟨hB, o, hl, hc⟩)
def Iter {α : Type} (n : Nat) (P : Program) (C : Obj -> Prop) (g : Nat) (lb : Array Value) (encs : α -> Array Value) (Kp : World -> World -> Prop) (S Sp : List α -> Prop) (Nx : List α -> α -> Prop) (w : World) : Prop :=
 ∀ (l : Nat) (J Jx : List α -> World -> Prop) (W : World), Below w.heap.size w W -> w.heap.size + 2 <= W.heap.size -> (∀ s, Stays C W.heap.size (J s)) -> (∀ s, Stays C W.heap.size (Jx s)) ->
  (∀ pre x W1, J pre W1 -> Nx pre x -> YieldAt Fence.wide (n - 1) P l (encs x) W1 fun e W' =>
   (e = .returned (.bool true) /\ J (pre ++ [x]) W' /\ Kp W1 W') \/ (e = .returned (.bool false) /\ Jx (pre ++ [x]) W' /\ Kp W1 W')) ->
  J [] W ->
  CallsIn Fence.wide n P g (#[.func (.yield l) #[] #[]] ++ lb) W fun e W' => (∃ v, e = .returned v) /\ ((∃ xs, S xs /\ J xs W') \/ (∃ pre, Sp pre /\ Jx pre W'))
def postR {α : Type} (B : Nat) (Kp : World -> World -> Prop) (I : List α -> World -> Prop) (Ix : Code -> List α -> World -> Prop) (xs : List α) (W : World) : Exit -> Act -> World -> Prop
 | .normal, _, W' => KeepsFrom B W W' /\ Kp W W' /\ I xs W'
 | .ret, _, W' => KeepsFrom B W W' /\ Kp W W' /\ Ix .ret xs W'
 | .exit id, _, W' => KeepsFrom B W W' /\ Kp W W' /\ Ix (.exit id) xs W'
 | .goto t, _, W' => KeepsFrom B W W' /\ Kp W W' /\ Ix (.goto t) xs W'
 | .panic _, _, _ => False
 | .outgrown, _, _ => False
def Beside (C : Obj -> Prop) (o : Obj) : Prop := o.isCells = false \/ C o
section
variable {n : Nat} {P : Program}
theorem wpIn_range {α : Type} {g : Operand} {ps : Array Tmp} {assign body : Code} {Q : Exit -> Act -> World -> Prop} {a : Act} {w : World} {C : Obj -> Prop}
    {gf : Nat} {lb : Array Value} (hg : a.eval g = .func (.func gf) #[] lb) (eg : ∀ args w, (callFunc gf args).run P w = .ok (.enter gf args) w)
    {encs : α -> Array Value} {Kp : World -> World -> Prop} {S Sp : List α -> Prop} {Nx : List α -> α -> Prop} {w0 : World} (hseq : Iter (n - 1) P C gf lb encs Kp S Sp Nx w0)
    (hKt : ∀ {A B C : World}, Kp A B -> Kp B C -> Kp A C)
    (hKb : ∀ (W : World) (o o' : Obj), W.heap[w.heap.size + 1]? = some o -> o.isCells = false -> o.isWalk = false -> Kp W (W.putObj (w.heap.size + 1) o'))
    (hb0 : Below w0.heap.size w0 w) (hps : ∀ x, (encs x).size = ps.size)
    (I : List α -> World -> Prop) (Ix : Code -> List α -> World -> Prop) (hI : ∀ s, Stays (Beside C) w.heap.size (I s)) (hIx : ∀ c s, Stays (Beside C) w.heap.size (Ix c s)) (h0 : I [] w)
    (Ax : α -> Act -> World -> Prop) (hAx : ∀ x a', Stays (Beside C) w.heap.size (Ax x a'))
    (hassign : ∀ (l : Nat) (pre : List α) (x : α) (W : World) (K : Act -> World -> Prop), I pre W -> (∀ a' W', KeepsFrom w.heap.size W W' -> Kp W W' -> I pre W' -> Ax x a' W' -> K a' W') ->
      assign.wpIn (Fence.wide.inRound l) (n - 1 - 1) P (Exit.then K (fun _ _ _ => False)) { tmps := (ps.zip (encs x)).foldl (fun t (p, v) => t.setIfInBounds p v) a.tmps, defers := [] } W)
    (hbody : ∀ (l : Nat) (pre : List α) (x : α) (a' : Act) (W : World), w.heap.size <= l -> (∃ r, W.heap[l]? = some (.loop r)) -> I pre W -> Ax x a' W -> Nx pre x ->
      body.wpIn (Fence.wide.inRound l) (n - 1 - 1) P (postR w.heap.size Kp I Ix (pre ++ [x]) W) a' W)
    (hdone : ∀ (D : Nat) (xs : List α) (W : World), w.heap.size <= D -> S xs -> I xs W -> W.heap[D]? = some (.deferred (some [])) -> Q .normal { a with defers := { target := .collected D, args := #[] } :: a.defers } W)
    (hstop : ∀ (D : Nat) (c : Code) (pre : List α) (W : World), w.heap.size <= D -> Sp pre -> Ix c pre W -> W.heap[D]? = some (.deferred (some [])) -> c.wpIn Fence.wide n P Q { a with defers := { target := .collected D, args := #[] } :: a.defers } W) :
    (Code.rangeFunc g ps assign body).wpIn Fence.wide n P Q a w := by
  refine wpIn_rangeFunc ?_
  intro fn hfn
  let rc : LoopState -> Option Code -> Loop := fun st pe => { state := st, pending := pe, fn := fn, tmps := a.tmps, params := ps, assign := assign, body := body, defers := w.heap.size }
  let W1 : World := (w.alloc (.deferred (some []))).alloc (.loop (rc .ready none))
  have hs1 : W1.heap.size = w.heap.size + 2 := by simp [W1]
  have hL1 : W1.heap[w.heap.size + 1]? = some (.loop (rc .ready none)) := by
    have := World.alloc_heap_new (w.alloc (.deferred (some []))) (.loop (rc .ready none))
    rwa [World.size_alloc] at this
  have hD1 : W1.heap[w.heap.size]? = some (.deferred (some [])) := (Below.heap_alloc _ _ _ (by simp)).trans (World.alloc_heap_new w _)
  have hI1 : I [] W1 := (hI []).alloc ((hI []).alloc h0 _) _
  have hb1 : Below w0.heap.size w0 W1 := hb0.trans ((((Below.refl _ w).alloc (Nat.le_refl _) _).alloc (by simp) _).mono hb0.size)
  refine ⟨w.heap.size + 1, [{ target := .collected w.heap.size, args := #[] }], W1, { target := .fn (.func gf) lb, args := #[.func (.yield (w.heap.size + 1)) #[] #[]] }, W1, gf,
    #[.func (.yield (w.heap.size + 1)) #[] #[]] ++ lb, W1, ?_, ?_, ?_, ?_, ?_, ?_⟩
  . exact run_enterLoop_outer _ _ _ _ _
  . simp only [resolve, hg]; simp [go_sem]
  . intro f' _; trivial
  . simp [invoke, go_sem, eg]
  . intro h; simp [Fence.wide] at h
  . -- the invariant that the iterator bears: the loop's own, and the two blocks of book-keeping
    have toB : ∀ {A : World} {row : Option Nat}, (∀ r, row = some r -> W1.heap.size <= r /\ ∃ o : Obj, A.heap[r]? = some o /\ C o) -> (∀ r, row = some r -> w.heap.size <= r /\ ∃ o : Obj, A.heap[r]? = some o /\ Beside C o) :=
      fun h r e => ⟨by have := (h r e).1; omega, by obtain ⟨o, ho, hc⟩ := (h r e).2; exact ⟨o, ho, .inr hc⟩⟩
    have bk : ∀ st pe, Stays C W1.heap.size (fun W => W.heap[w.heap.size + 1]? = some (.loop (rc st pe)) /\ W.heap[w.heap.size]? = some (.deferred (some []))) := fun st pe =>
      Stays.and (Stays.block (.inl (by omega))) (Stays.block (.inl (by omega)))
    refine (hseq (w.heap.size + 1)
      (fun pre W => I pre W /\ (W.heap[w.heap.size + 1]? = some (.loop (rc .ready none)) /\ W.heap[w.heap.size]? = some (.deferred (some []))))
      (fun pre W => ∃ c, Ix c pre W /\ (W.heap[w.heap.size + 1]? = some (.loop (rc .done (some c))) /\ W.heap[w.heap.size]? = some (.deferred (some []))))
      W1 hb1 (by have := hb0.size; omega)
      (fun s => Stays.and (fun A B row hs hg' hr => hI s A B row hs hg' (toB hr)) (bk _ _))
      (fun s => Stays.ex fun c => Stays.and (fun A B row hs hg' hr => hIx c s A B row hs hg' (toB hr)) (bk _ _))
      ?_ ⟨hI1, hL1, hD1⟩).mono ?_
    . rintro pre x W ⟨hi, hl, hk⟩ hlen
      have hy := run_yield (P := P) (args := encs x) hl (hps x)
      refine ⟨fn, _, assign, body, hy, roundIn_of_wpIn hfn (hassign _ pre x W _ hi ?_)⟩
      intro a' Wa hkf hkp hia hax
      have hla := hkf.same _ _ (by omega) hl rfl
      have hka := hkf.same _ _ (Nat.le_refl _) hk rfl
      have hlta : w.heap.size + 1 < Wa.heap.size := (Array.getElem?_eq_some_iff.1 hla).1
      refine ⟨_, run_beginRound hla rfl, ?_⟩
      have hl2 : (Wa.putObj (w.heap.size + 1) (.loop (rc .busy none))).heap[w.heap.size + 1]? = some (.loop (rc .busy none)) := World.putObj_heap_same hlta
      have hk2 : (Wa.putObj (w.heap.size + 1) (.loop (rc .busy none))).heap[w.heap.size]? = some (.deferred (some [])) := (World.putObj_heap_other (by omega)).trans hka
      have hw2 : Kp Wa (Wa.putObj (w.heap.size + 1) (.loop (rc .busy none))) := hKb _ _ _ hla rfl rfl
      refine wpIn_mono (hbody _ pre x a' _ (by omega) ⟨_, hl2⟩ ((hI pre).put hia _ hla (by omega) (.inl rfl)) ((hAx x a').put hax _ hla (by omega) (.inl rfl)) hlen) ?_
      have fin : ∀ (jump : Option Code) (W3 : World), KeepsFrom w.heap.size (Wa.putObj (w.heap.size + 1) (.loop (rc .busy none))) W3 ->
          (Instr.endRound (w.heap.size + 1) jump).run P W3 = .ok (.bool jump.isNone) (W3.putObj (w.heap.size + 1) (.loop (rc (if jump.isNone then .ready else .done) jump))) /\
          W3.heap[w.heap.size + 1]? = some (.loop (rc .busy none)) /\
          (W3.putObj (w.heap.size + 1) (.loop (rc (if jump.isNone then .ready else .done) jump))).heap[w.heap.size + 1]? = some (.loop (rc (if jump.isNone then .ready else .done) jump)) /\
          (W3.putObj (w.heap.size + 1) (.loop (rc (if jump.isNone then .ready else .done) jump))).heap[w.heap.size]? = some (.deferred (some [])) := fun jump W3 hk3 => by
        have hl3 := hk3.same _ _ (by omega) hl2 rfl
        exact ⟨run_endRound (P := P) jump hl3, hl3, World.putObj_heap_same (Array.getElem?_eq_some_iff.1 hl3).1, (World.putObj_heap_other (by omega)).trans (hk3.same _ _ (Nat.le_refl _) hk2 rfl)⟩
      have out : ∀ (c : Code) (W3 : World), KeepsFrom w.heap.size (Wa.putObj (w.heap.size + 1) (.loop (rc .busy none))) W3 -> Kp (Wa.putObj (w.heap.size + 1) (.loop (rc .busy none))) W3 -> Ix c (pre ++ [x]) W3 ->
          ∃ v w', (Instr.endRound (w.heap.size + 1) (some c)).run P W3 = .ok v w' /\
            ((Ending.returned v = .returned (.bool true) /\ (I (pre ++ [x]) w' /\ (w'.heap[w.heap.size + 1]? = some (.loop (rc .ready none)) /\ w'.heap[w.heap.size]? = some (.deferred (some [])))) /\ Kp W w') \/
             (Ending.returned v = .returned (.bool false) /\ (∃ c, Ix c (pre ++ [x]) w' /\ (w'.heap[w.heap.size + 1]? = some (.loop (rc .done (some c))) /\ w'.heap[w.heap.size]? = some (.deferred (some [])))) /\ Kp W w')) := by
        intro c W3 hk3 hkp3 hi3
        obtain ⟨hr, hl3, hl4, hk4⟩ := fin (some c) W3 hk3
        exact ⟨_, _, hr, .inr ⟨rfl, ⟨c, (hIx c _).put hi3 _ hl3 (by omega) (.inl rfl), hl4, hk4⟩, hKt hkp (hKt (hKt hw2 hkp3) (hKb _ _ _ hl3 rfl rfl))⟩⟩
      intro e a3 W3 hp
      cases e with
      | normal =>
        obtain ⟨hk3, hkp3, hi3⟩ := hp
        obtain ⟨hr, hl3, hl4, hk4⟩ := fin none W3 hk3
        exact ⟨_, _, hr, .inl ⟨rfl, ⟨(hI _).put hi3 _ hl3 (by omega) (.inl rfl), hl4, hk4⟩, hKt hkp (hKt (hKt hw2 hkp3) (hKb _ _ _ hl3 rfl rfl))⟩⟩
      | ret => exact out _ _ hp.1 hp.2.1 hp.2.2
      | exit id => exact out _ _ hp.1 hp.2.1 hp.2.2
      | goto t => exact out _ _ hp.1 hp.2.1 hp.2.2
      | panic ch => exact hp.elim
      | outgrown => exact hp.elim
    . rintro e W2 ⟨⟨v, rfl⟩, (⟨xs, hS, hi, hl, hk⟩ | ⟨pre, hSp, c, hi, hl, hk⟩)⟩
      . exact ⟨none, _, run_endLoop (P := P) hl (by simp [rc]), hdone _ xs _ (Nat.le_refl _) hS ((hI xs).put hi _ hl (by omega) (.inl rfl)) ((World.putObj_heap_other (by omega)).trans hk)⟩
      . exact ⟨some c, _, run_endLoop (P := P) hl (by simp [rc]), hstop _ c pre _ (Nat.le_refl _) hSp ((hIx c pre).put hi _ hl (by omega) (.inl rfl)) ((World.putObj_heap_other (by omega)).trans hk)⟩
end
end Go.Proofs.YtcddnmhmcieebaaGreatDoor
