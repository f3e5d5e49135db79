/- pack: what reads. -/
import Derived.Test.YtcddnmhmcieebaaGreatDoorY13
import Derived.Test.YtcddnmhmcieebaaGreatDoorTools
namespace Go.Proofs.YtcddnmhmcieebaaGreatDoor
set_option maxHeartbeats 4000000
set_option maxRecDepth 100000
open Go.RowKit
set_option linter.unusedSimpArgs false
set_option linter.unusedVariables false
set_option linter.unnecessarySimpa false
namespace Dw
def RD (w : World) (g : Nat) (s : ByteArray) (i : Nat) : Prop := w.heap[g]? = some (.cells #[.string s, .int .i64 i] 84 (0, 0))
theorem RD.c0 {w : World} {g : Nat} {s : ByteArray} {i : Nat} (h : RD w g s i) : w.cell? ⟨g, 0, none⟩ = some (.string s) := by rw [cell_of_row _ _ 0 _ _ (0, 0) h]; rfl
theorem RD.c1 {w : World} {g : Nat} {s : ByteArray} {i : Nat} (h : RD w g s i) : w.cell? ⟨g, 1, none⟩ = some (.int .i64 i) := by rw [cell_of_row _ _ 1 _ _ (0, 0) h]; rfl
theorem RD.later {w w1 : World} {g : Nat} {s : ByteArray} {i : Nat} (h : RD w g s i) (hb : Below w.heap.size w w1) : RD w1 g s i := (hb.block g (heap_lt h)).trans h
def charN (s : ByteArray) (i : Nat) : Nat × Nat × Nat := if i = s.size then (0, i, 3) else (at_ s i, i + 1, 0)
theorem charN_end {s : ByteArray} {i : Nat} (h : i = s.size) : charN s i = (0, i, 3) := by unfold charN; rw [if_pos h]
theorem charN_at {s : ByteArray} {i : Nat} (h : i < s.size) : charN s i = (at_ s i, i + 1, 0) := by unfold charN; rw [if_neg (by omega)]
def rangeN (lo hi n : Nat) : Nat := if n < lo \/ hi < n then 17 else 0
theorem range_cases (n lo hi : Nat) : n < lo \/ (lo <= n /\ hi < n) \/ (lo <= n /\ n <= hi) := by omega
def magicAt (k : Nat) : Nat := [67, 83, 1].getD k 0
theorem magic_at {k : Nat} (h : k < 3) : at_ ⟨#[67, 83, 1]⟩ k = magicAt k := by
 rcases k with _ | _ | _ | k <;> first | rfl | omega
def kindN (k x : Nat) : Nat := if x = magicAt k then 0 else 6
theorem char69 (w : World) (c g : Nat) (s : ByteArray) (i : Nat) (hc : w.cell? ⟨c, 0, none⟩ = some (.pointer (some ⟨g, 0, none⟩))) (hr : RD w g s i) (hi : i <= s.size) (hsz : s.size <= 1000000000) : Calls Tryz.prog 95 #[.pointer (some ⟨c, 0, none⟩)] w fun e w1 => e = .returned (.tuple #[.int .u8 (charN s i).1, .int .i64 (charN s i).2.1, .int .i64 (charN s i).2.2]) /\ Below w.heap.size w w1 := by
 refine Zn1 32 Tryz.func95 fun fr hf s0 => ?_
 have g0 := hr.c0; have g1 := hr.c1
 clear hr
 refine Ze fun _ hK1 => ?_
 refine Zr [] hf ?_
 refine Zq1 0 hf ?_
 clear hf s0; intro fr1 hf s0
 refine Zs hK1 fun _ hK2 => ?_
 refine Ze fun _ hK3 => ?_
 refine Stab.tb 32 fun hok => ?_
 refine Stab.T 0 hf hok (fun _ _ h d => ad (Stab.O h s0) (ad (cL h.ext hc) (ad (cL h.ext g0) (cL h.ext g1)))) ?_
 refine Stab.T 1 hf hok (fun _ _ h d => Stab.vd 0 0 d []) ?_
 refine Stab.T 2 hf hok (fun _ _ h d => Stab.vd 1 0 d []) ?_
 refine Stab.T 3 hf hok (fun _ _ h d => ad (Stab.vd 2 0 d []) (ad (cL h.ext hc) (ad (cL h.ext g0) (cL h.ext g1)))) ?_
 refine Stab.T 4 hf hok (fun _ _ h d => ad (Stab.O h s0) (ad (cL h.ext hc) (ad (cL h.ext g0) (cL h.ext g1)))) ?_
 refine Stab.T 5 hf hok (fun _ _ h d => Stab.vd 4 0 d []) ?_
 refine Stab.T 6 hf hok (fun _ _ h d => Stab.vd 5 0 d []) ?_
 refine Stab.T 7 hf hok (fun _ _ h d => ad (Stab.vd 6 0 d []) (ad (cL h.ext hc) (ad (cL h.ext g0) (cL h.ext g1)))) ?_
 refine Stab.T 8 hf hok (fun _ _ h d => ad (Stab.vd 7 0 d []) (ad (cL h.ext hc) (ad (cL h.ext g0) (cL h.ext g1)))) ?_
 refine Stab.T 9 hf hok (fun _ _ h d => ad (Stab.vd 3 5 d []) (Stab.vd 8 0 d [])) ?_
 refine Stab.E hf hok (fun _ _ h g => ad (Stab.O h s0) (Stab.f 9 0 g)) ?_
 clear hf hok s0; intro fr1 w1 hf hx sS
 replace hc := cL hx hc
 replace g0 := cL hx g0
 replace g1 := cL hx g1
 refine Zx hK3 ?_
 refine Fact.cond_s sS.2 (fun hq => ?_) (fun hq => ?_)
 . (
 have hie : i = s.size := by have := beq_iff_eq.1 hq; omega
 have HIE := Lib.hid hie; clear hie hq
 have hbx := hx; clear hx
 refine Ze fun _ hK4 => ?_
 obtain ⟨s0, s13⟩ := sS
 refine Stab.tb 32 fun hok => ?_
 refine Stab.T 0 hf hok (fun _ _ h d => ad (Stab.O h s0) (ad (cL h.ext hc) (ad (cL h.ext g0) (cL h.ext g1)))) ?_
 refine Stab.T 1 hf hok (fun _ _ h d => Stab.vd 0 0 d []) ?_
 refine Stab.T 2 hf hok (fun _ _ h d => Stab.vd 1 0 d []) ?_
 refine Stab.T 3 hf hok (fun _ _ h d => ad (Stab.vd 2 0 d []) (ad (cL h.ext hc) (ad (cL h.ext g0) (cL h.ext g1)))) ?_
 refine Stab.T 4 hf hok (fun _ _ h d => trivial) ?_
 refine Stab.mN 5 3 1 hf hok [] ?_
 refine Stab.T 6 hf hok (fun _ _ h d => trivial) ?_
 refine Stab.E hf hok (fun _ _ h g => ad (Stab.f 4 2 g) (ad (Stab.f 5 1 g) (Stab.f 6 0 g))) ?_
 clear hf hok s0 s13; intro fr1 w1 hf hx sS
 replace hc := cL hx hc
 replace g0 := cL hx g0
 replace g1 := cL hx g1
 refine Zx hK4 ?_
 refine Zret ?_
 obtain ⟨s1, s2, s3⟩ := sS
 refine Fact.ret3 rfl hf s1 s2 s3 ⟨?_, hbx.trans (hx.mono hbx.size)⟩
 rw [charN_end HIE.out]
 rfl)
 . (
 have hlt : i < s.size := by have := beq_eq_false_iff_ne.1 hq; omega
 clear hq
 have hbx := hx; clear hx
 refine wp_skip ?_
 refine Zs hK2 fun _ hK5 => ?_
 obtain ⟨s0, s13⟩ := sS
 refine Stab.tb 32 fun hok => ?_
 refine Stab.T 0 hf hok (fun _ _ h d => ad (Stab.O h s0) (ad (cL h.ext hc) (ad (cL h.ext g0) (cL h.ext g1)))) ?_
 refine Stab.T 1 hf hok (fun _ _ h d => Stab.vd 0 0 d []) ?_
 refine Stab.T 2 hf hok (fun _ _ h d => Stab.vd 1 0 d []) ?_
 refine Stab.T 3 hf hok (fun _ _ h d => ad (Stab.vd 2 0 d []) (ad (cL h.ext hc) (ad (cL h.ext g0) (cL h.ext g1)))) ?_
 refine Stab.T 4 hf hok (fun _ _ h d => ad (Stab.O h s0) (ad (cL h.ext hc) (ad (cL h.ext g0) (cL h.ext g1)))) ?_
 refine Stab.T 5 hf hok (fun _ _ h d => Stab.vd 4 0 d []) ?_
 refine Stab.T 6 hf hok (fun _ _ h d => Stab.vd 5 0 d []) ?_
 refine Stab.T 7 hf hok (fun _ _ h d => ad (Stab.vd 6 0 d []) (ad (cL h.ext hc) (ad (cL h.ext g0) (cL h.ext g1)))) ?_
 apply Stab.tq 8 _ hf hok
 . (
 intro fr1 w1 hh hd hk K Z
 have s21 := Stab.v 3 4 hd hk []
 have s25 := Stab.v 7 0 hd hk []
 clear hd
 replace hc := cL hh.ext hc
 replace g0 := cL hh.ext g0
 replace g1 := cL hh.ext g1
 go_simp
 try rw [dif_pos (by omega)]
 exact Stab.k Z)
 refine Stab.T 9 hf hok (fun _ _ h d => ad (Stab.O h s0) (ad (cL h.ext hc) (ad (cL h.ext g0) (cL h.ext g1)))) ?_
 refine Stab.T 10 hf hok (fun _ _ h d => Stab.vd 9 0 d []) ?_
 refine Stab.T 11 hf hok (fun _ _ h d => Stab.vd 10 0 d []) ?_
 refine Stab.T 12 hf hok (fun _ _ h d => ad (Stab.vd 11 0 d []) (ad (cL h.ext hc) (ad (cL h.ext g0) (cL h.ext g1)))) ?_
 refine Stab.Tb 13 hf hok (fun _ _ h d => Stab.vd 12 0 d []) ?_
 refine Stab.mN 14 8 5 hf hok [] ?_
 refine Stab.mN 15 13 1 hf hok [] ?_
 refine Stab.T 16 hf hok (fun _ _ h d => trivial) ?_
 refine Stab.E hf hok (fun _ _ h g => ad (Stab.f 14 2 g) (ad (Stab.f 15 1 g) (Stab.f 16 0 g))) ?_
 clear hf hok s0 s13; intro fr1 w1 hf hx sS
 replace hc := cL hx hc
 replace g0 := cL hx g0
 replace g1 := cL hx g1
 refine Zx hK5 ?_
 refine Zret ?_
 obtain ⟨s1, s2, s3⟩ := sS
 refine Fact.ret3 rfl hf s1 s2 s3 ⟨?_, hbx.trans (hx.mono hbx.size)⟩
 rw [charN_at hlt]
 simp [at_get hlt])
theorem num71 (w : World) (c g : Nat) (s : ByteArray) (i : Nat) (hc : w.cell? ⟨c, 0, none⟩ = some (.pointer (some ⟨g, 0, none⟩))) (hr : RD w g s i) (hi : i <= s.size) (hsz : s.size <= 1000000000) : Calls Tryz.prog 97 #[.pointer (some ⟨c, 0, none⟩)] w fun e w1 => e = .returned (.tuple #[.int .u64 (getN (wl s) i).1, .int .i64 (getN (wl s) i).2.1, .int .i64 (getN (wl s) i).2.2]) /\ Below w.heap.size w w1 := by
 refine Zn1 16 Tryz.func97 fun fr hf s0 => ?_
 have g0 := hr.c0; have g1 := hr.c1
 clear hr
 refine Ze fun _ hK1 => ?_
 refine Zr [] hf ?_
 refine Zq1 0 hf ?_
 clear hf s0; intro fr1 hf s0
 refine Zs hK1 fun _ hK2 => ?_
 refine Stab.tb 16 fun hok => ?_
 refine Stab.T 0 hf hok (fun _ _ h d => ad (Stab.O h s0) (ad (cL h.ext hc) (ad (cL h.ext g0) (cL h.ext g1)))) ?_
 refine Stab.T 1 hf hok (fun _ _ h d => Stab.vd 0 0 d []) ?_
 refine Stab.T 2 hf hok (fun _ _ h d => Stab.vd 1 0 d []) ?_
 refine Stab.T 3 hf hok (fun _ _ h d => ad (Stab.vd 2 0 d []) (ad (cL h.ext hc) (ad (cL h.ext g0) (cL h.ext g1)))) ?_
 refine Stab.T 4 hf hok (fun _ _ h d => ad (Stab.O h s0) (ad (cL h.ext hc) (ad (cL h.ext g0) (cL h.ext g1)))) ?_
 refine Stab.T 5 hf hok (fun _ _ h d => Stab.vd 4 0 d []) ?_
 refine Stab.T 6 hf hok (fun _ _ h d => Stab.vd 5 0 d []) ?_
 refine Stab.T 7 hf hok (fun _ _ h d => ad (Stab.vd 6 0 d []) (ad (cL h.ext hc) (ad (cL h.ext g0) (cL h.ext g1)))) ?_
 apply Stab.tq 8 _ hf hok
 . (
 intro fr1 w1 hh hd hk K Z
 have s7 := Stab.v 3 4 hd hk []
 have s11 := Stab.v 7 0 hd hk []
 clear hd
 replace hc := cL hh.ext hc
 replace g0 := cL hh.ext g0
 replace g1 := cL hh.ext g1
 go_simp
 go_at_call 98; refine (get72 _ s i hi hsz).mono ?_; rintro e w2 ⟨rfl, hb2⟩
 exact Z.out _ rfl _ _ hb2 rfl)
 refine Stab.T 9 hf hok (fun _ _ h d => Stab.vd 8 0 d []) ?_
 refine Stab.T 10 hf hok (fun _ _ h d => Stab.vd 8 1 d []) ?_
 refine Stab.T 11 hf hok (fun _ _ h d => Stab.vd 8 2 d []) ?_
 refine Stab.mN 12 9 2 hf hok [] ?_
 refine Stab.mN 13 10 2 hf hok [] ?_
 refine Stab.mN 14 11 2 hf hok [] ?_
 refine Stab.E hf hok (fun _ _ h g => ad (Stab.f 12 2 g) (ad (Stab.f 13 1 g) (Stab.f 14 0 g))) ?_
 clear hf hok s0; intro fr1 w1 hf hx sS
 replace hc := cL hx hc
 replace g0 := cL hx g0
 replace g1 := cL hx g1
 refine Zx hK2 ?_
 refine Zret ?_
 obtain ⟨s1, s2, s3⟩ := sS
 exact Fact.ret3 rfl hf s1 s2 s3 ⟨rfl, hx⟩
theorem num73 (w : World) (n lo hi p q : Nat) (hp : w.cell? ⟨p, 0, none⟩ = some (.int .u64 lo)) (hq : w.cell? ⟨q, 0, none⟩ = some (.int .u64 hi)) : Calls Tryz.prog 99 #[.int .u64 n, .pointer (some ⟨p, 0, none⟩), .pointer (some ⟨q, 0, none⟩)] w fun e w1 => e = .returned (.int .i64 (rangeN lo hi n : Nat)) /\ Below w.heap.size w w1 := by
 refine Zn3 13 Tryz.func99 fun fr hf s0 s1 s2 => ?_
 rcases range_cases n lo hi with hcs | hcs | hcs
 . (
 have q1 : decide (n < lo) = true := decide_eq_true (by omega)
 have HC := Lib.hid hcs; clear hcs
 refine Ze fun _ hK1 => ?_
 refine Zr [] hf ?_
 refine Zq3 0 1 2 hf ?_
 clear hf s0 s1 s2; intro fr1 hf sS
 refine Zs hK1 fun _ hK2 => ?_
 refine Ze fun _ hK3 => rg ?_
 have bB := hf.B7 5 6 7 8 9 10 11
 iterate 4 refine Za ?_
 refine Zk ?_ (hv := by simp (decide := true) only [Fact.G, reduceIte, hf.size, Fact.N, q1])
 refine Zk ?_ (hv := by simp (decide := true) only [Fact.G, reduceIte, hf.size, Fact.N, q1])
 refine Zk ?_ (hv := by simp (decide := true) only [Fact.G, reduceIte, hf.size, Fact.N, q1])
 refine Za ?_
 refine Fact.nil (Zq1 12 hf ?_)
 clear hf sS bB; intro fr1 hf s12
 refine Zx hK3 ?_
 refine Fact.cond_t s12 ?_
 refine Ze fun _ hK4 => ?_
 refine Zr [] hf ?_
 refine Zq1 4 hf ?_
 clear hf s12; intro fr1 hf s4
 refine Zx hK4 ?_
 refine Zret ?_
 refine Fact.ret1 rfl hf s4 ⟨?_, Below.refl _ _⟩
 have := HC.out
 rw [rangeN, if_pos (by omega)]
 rfl)
 . (
 have q1 : decide (n < lo) = false := decide_eq_false (by omega)
 have q2 : decide (hi < n) = true := decide_eq_true (by omega)
 have HC := Lib.hid hcs; clear hcs
 refine Ze fun _ hK5 => ?_
 refine Zr [] hf ?_
 refine Zq3 0 1 2 hf ?_
 clear hf s0 s1 s2; intro fr1 hf sS
 refine Zs hK5 fun _ hK6 => ?_
 refine Ze fun _ hK7 => rg ?_
 have bB := hf.B7 5 6 7 8 9 10 11
 iterate 4 refine Za ?_
 refine Zg ?_ (hv := by simp (decide := true) only [Fact.G, reduceIte, hf.size, q1, q2])
 refine Zg ?_ (hv := by simp (decide := true) only [Fact.G, reduceIte, hf.size, q1, q2])
 refine Zg ?_ (hv := by simp (decide := true) only [Fact.G, reduceIte, hf.size, q1, q2])
 refine Za ?_
 refine Fact.nil (Zq1 12 hf ?_)
 clear hf sS bB; intro fr1 hf s12
 refine Zx hK7 ?_
 refine Fact.cond_t s12 ?_
 refine Ze fun _ hK8 => ?_
 refine Zr [] hf ?_
 refine Zq1 4 hf ?_
 clear hf s12; intro fr1 hf s4
 refine Zx hK8 ?_
 refine Zret ?_
 refine Fact.ret1 rfl hf s4 ⟨?_, Below.refl _ _⟩
 have := HC.out
 rw [rangeN, if_pos (by omega)]
 rfl)
 . (
 have q1 : decide (n < lo) = false := decide_eq_false (by omega)
 have q2 : decide (hi < n) = false := decide_eq_false (by omega)
 have HC := Lib.hid hcs; clear hcs
 refine Ze fun _ hK9 => ?_
 refine Zr [] hf ?_
 refine Zq3 0 1 2 hf ?_
 clear hf s0 s1 s2; intro fr1 hf sS
 refine Zs hK9 fun _ hK10 => ?_
 refine Ze fun _ hK11 => rg ?_
 have bB := hf.B7 5 6 7 8 9 10 11
 iterate 4 refine Za ?_
 refine Zg ?_ (hv := by simp (decide := true) only [Fact.G, reduceIte, hf.size, q1, q2])
 refine Zg ?_ (hv := by simp (decide := true) only [Fact.G, reduceIte, hf.size, q1, q2])
 refine Zg ?_ (hv := by simp (decide := true) only [Fact.G, reduceIte, hf.size, q1, q2])
 refine Za ?_
 refine Fact.nil (Zq1 12 hf ?_)
 clear hf sS bB; intro fr1 hf s12
 refine Zx hK11 ?_
 refine Fact.cond_f s12 ?_
 refine wp_skip ?_
 refine Zs hK10 fun _ hK12 => ?_
 refine Zr [] hf ?_
 refine Zq1 4 hf ?_
 clear hf s12; intro fr1 hf s4
 refine Zx hK12 ?_
 refine Zret ?_
 refine Fact.ret1 rfl hf s4 ⟨?_, Below.refl _ _⟩
 have := HC.out
 rw [rangeN, if_neg (by omega)]
 rfl)
theorem state74 (w : World) (x : Nat) : Calls Tryz.prog 100 #[.int .u8 x] w fun e w1 => e = .returned (.int .i64 ((0 : Nat) : Int)) /\ Below w.heap.size w w1 := by
 refine Zn1 3 Tryz.func100 fun fr hf s0 => ?_
 refine Ze fun _ hK1 => ?_
 refine Zr [] hf ?_
 refine Zq0 hf ?_
 clear hf s0; intro fr1 hf
 refine Zs hK1 fun _ hK2 => ?_
 refine Zr [] hf ?_
 refine Zq1 2 hf ?_
 clear hf; intro fr1 hf s2
 refine Zx hK2 ?_
 refine Zret ?_
 exact Fact.ret1 rfl hf s2 ⟨rfl, Below.refl _ _⟩
theorem all50 (w : World) (x k p : Nat) (hk : k < 3) (hp : w.cell? ⟨p, 0, none⟩ = some (.int .i64 k)) : Calls Tryz.prog 58 #[.int .u8 x, .pointer (some ⟨p, 0, none⟩)] w fun e w1 => e = .returned (.int .i64 (kindN k x : Nat)) /\ Below w.heap.size w w1 := by
 refine Zn2 8 Tryz.func58 fun fr hf s0 s1 => ?_
 obtain ⟨m, hm⟩ : ∃ x, magicAt k = x := ⟨_, rfl⟩
 have hat : ∀ h : k < (ByteArray.mk #[67, 83, 1]).size, ((ByteArray.mk #[67, 83, 1])[k]'h).toNat = m := fun h => by rw [<- hm, <- magic_at hk, at_get h]
 have HM := Lib.hid hm; clear hm
 refine Ze fun _ hK1 => ?_
 refine Zr [] hf ?_
 refine Zq2 0 1 hf ?_
 clear hf s0 s1; intro fr1 hf sS
 refine Zs hK1 fun _ hK2 => ?_
 refine Ze fun _ hK3 => rg ?_
 have bB := hf.B3 4 5 6
 iterate 2 refine Za ?_
 refine fp fun K Z => ?_
 go_simp
 rw [if_pos (by omega)]
 apply Z.out; clear Z K
 refine Za ?_
 refine Fact.nil (Zq1 7 hf ?_)
 clear hf sS bB; intro fr1 hf s7
 refine Zx hK3 ?_
 refine Fact.cond_s s7 (fun hq => ?_) (fun hq => ?_)
 . (
 refine Ze fun _ hK4 => ?_
 refine Zr [] hf ?_
 refine Zq1 3 hf ?_
 clear hf s7; intro fr1 hf s3
 refine Zx hK4 ?_
 refine Zret ?_
 refine Fact.ret1 rfl hf s3 ⟨?_, Below.refl _ _⟩
 unfold kindN
 rw [HM.out, if_neg (by intro e; subst e; simp at hq)]
 rfl)
 . (
 refine wp_skip ?_
 refine Zs hK2 fun _ hK5 => ?_
 refine Zr [] hf ?_
 refine Zq1 3 hf ?_
 clear hf s7; intro fr1 hf s3
 refine Zx hK5 ?_
 refine Zret ?_
 refine Fact.ret1 rfl hf s3 ⟨?_, Below.refl _ _⟩
 unfold kindN
 rw [HM.out, if_pos (by have := (by simpa using hq : (x : Int) = m); omega)]
 rfl)
theorem Pan.via {w w1 w2 : World} {e : Ending} {c a : Int} (hb : Below w.heap.size w w2) (h : Pan w2 w1 e c a) : Pan w w1 e c a := by
 obtain ⟨q, h1, h2, h3, h4⟩ := h
 exact ⟨q, h1, Nat.le_trans hb.size h2, h3, hb.trans (h4.mono hb.size)⟩
def ThR (w w1 : World) (e : Ending) (k : IntKind) (r : Nat × Nat × Nat) (c2 i g : Nat) (s : ByteArray) : Prop :=
 if r.2.2 ≠ 0 then Pan w w1 e r.2.2 i else if c2 ≠ 0 then Pan w w1 e c2 i else e = .returned (.int k r.1) /\ RD w1 g s r.2.1 /\ But (fun k => k = g) w w1
theorem ThR.one {w w1 : World} {e : Ending} {k : IntKind} {x ny c1 c2 i g : Nat} {s : ByteArray} (hc : c1 ≠ 0) (h : Pan w w1 e c1 i) : ThR w w1 e k (x, ny, c1) c2 i g s := by
 unfold ThR
 rw [if_pos hc]
 exact h
theorem ThR.two {w w1 : World} {e : Ending} {k : IntKind} {x ny c2 i g : Nat} {s : ByteArray} (hc : c2 ≠ 0) (h : Pan w w1 e c2 i) : ThR w w1 e k (x, ny, 0) c2 i g s := by
 unfold ThR
 rw [if_neg (by simp), if_pos hc]
 exact h
theorem ThR.ok {w w1 : World} {k : IntKind} {x ny i g : Nat} {s : ByteArray} (h : RD w1 g s ny) (hb : But (fun k => k = g) w w1) : ThR w w1 (.returned (.int k x)) k (x, ny, 0) 0 i g s := by
 unfold ThR
 rw [if_neg (by simp), if_neg (by simp)]
 exact ⟨rfl, h, hb⟩
theorem thing68 (w : World) (c g : Nat) (s : ByteArray) (i : Nat) (hc : w.cell? ⟨c, 0, none⟩ = some (.pointer (some ⟨g, 0, none⟩))) (hr : RD w g s i) (hi : i <= s.size) (hsz : s.size <= 1000000000) (fq : FuncId) (capq : Array Value) (c2 : Nat) (hcf : ∀ (xs : Array Value) (w1 : World), (callFunc fq xs).run Tryz.prog w1 = .ok (.enter fq xs) w1) (hq9 : ∀ w1, Below w.heap.size w w1 -> (charN s i).2.2 = 0 -> Calls Tryz.prog fq (#[.int .u8 (charN s i).1] ++ capq) w1 fun e w2 => e = .returned (.int .i64 c2) /\ Below w1.heap.size w1 w2) : Calls Tryz.prog 94 #[.pointer (some ⟨g, 0, none⟩), .func (.func 95) #[] #[.pointer (some ⟨c, 0, none⟩)], .func (.func fq) #[] capq] w fun e w1 => ThR w w1 e .u8 (charN s i) c2 i g s := by
 refine Zn3 40 Tryz.func94 fun fr hf s0 s1 s2 => ?_
 obtain ⟨⟨x, ny, c1⟩, hrr⟩ : ∃ r, charN s i = r := ⟨_, rfl⟩
 rw [hrr] at hq9 |-
 have g1 := hr.c1
 have hgl := heap_lt hr
 refine Ze fun _ hK1 => ?_
 refine Zr [] hf ?_
 refine Zq3 0 1 2 hf ?_
 clear hf s0 s1 s2; intro fr1 hf sS
 refine Zt hK1 fun _ hK2 => ?_
 have bB := hf.B6 11 12 10 13 14 15
 refine Za ?_
 refine fp fun K Z => ?_
 go_simp
 go_at_call 95; refine (char69 w c g s i hc hr hi hsz).mono ?_; rintro e w2 ⟨rfl, hb2⟩
 rw [hrr]
 try dsimp only
 apply Z.out; clear Z K
 iterate 7 refine Za ?_
 refine Fact.nil (Zq5 0 2 7 8 9 hf ?_)
 clear hf sS bB; intro fr1 hf sS
 have g2 := cL hb2 g1
 have hr2 := hr.later hb2
 clear hr g1 hc
 refine Zs hK2 fun _ hK3 => ?_
 refine Ze fun _ hK4 => ?_
 refine Zr [16] hf ?_
 refine Zq6 0 2 7 8 9 17 hf ?_
 clear hf sS; intro fr1 hf sS
 refine Zx hK4 ?_
 refine Fact.cond_s sS.2.2.2.2.2 (fun h1 => ?_) (fun h1 => ?_)
 . (
 have hne : c1 ≠ 0 := by simpa using h1
 clear h1
 refine rg ?_
 have bB := hf.B5 18 19 20 21 22
 iterate 5 refine Za ?_
 refine fp fun K Z => ?_
 go_simp
 go_at_call 32; refine (bad33 w2 c1 i).mono ?_; rintro e w3 ⟨q, rfl, hq1, hq2, hq3⟩
 try dsimp only
 refine pan9 hf.defers (ThR.one hne (Pan.via hb2 ⟨q, rfl, hq1, hq2, hq3⟩)))
 . (
 have hz : c1 = 0 := by simpa using h1
 clear h1
 subst hz
 refine wp_skip ?_
 refine Zs hK3 fun _ hK5 => ?_
 refine Ze fun _ hK6 => rg ?_
 have bB := hf.B3 24 25 26
 iterate 2 refine Za ?_
 refine fp fun K Z => ?_
 go_simp
 try rw [hcf]
 refine (hq9 w2 hb2 rfl).mono ?_
 rintro e w3 ⟨rfl, hb3⟩
 try dsimp only
 apply Z.out; clear Z K
 refine Za ?_
 refine Fact.nil (Zq4 0 7 8 9 hf ?_)
 clear hf sS bB; intro fr1 hf sS
 have g3 := cL hb3 g2
 have hr3 := hr2.later hb3
 have hb23 := hb2.trans (hb3.mono hb2.size)
 clear hr2 g2
 refine Zs hK6 fun _ hK7 => ?_
 refine Zr [27] hf ?_
 refine Zq5 0 7 8 9 28 hf ?_
 clear hf sS; intro fr1 hf sS
 refine Zx hK7 ?_
 refine Fact.cond_s sS.2.2.2.2 (fun h2 => ?_) (fun h2 => ?_)
 . (
 have hne : c2 ≠ 0 := by simpa using h2
 clear h2
 refine rg ?_
 have bB := hf.B5 29 30 31 32 33
 iterate 5 refine Za ?_
 refine fp fun K Z => ?_
 go_simp
 go_at_call 32; refine (bad33 w3 c2 i).mono ?_; rintro e w4 ⟨q, rfl, hq1, hq2, hq3⟩
 try dsimp only
 refine pan9 hf.defers (ThR.two hne (Pan.via hb23 ⟨q, rfl, hq1, hq2, hq3⟩)))
 . (
 have hz : c2 = 0 := by simpa using h2
 clear h2
 subst hz
 have fz := frozen_of (i := 1) hr3
 refine wp_skip ?_
 refine Zs hK5 fun _ hK8 => ?_
 refine Zr [35, 36, 37, 38] hf ?_
 refine Zq1 7 hf ?_
 clear hf sS; intro fr1 hf s7
 have hr4 : RD (w3.setCell ⟨g, 1, none⟩ (.int .i64 ny)) g s ny := (set_block (i := 1) hr3 _).trans (by simp)
 have hbt : But (fun k => k = g) w (w3.setCell ⟨g, 1, none⟩ (.int .i64 ny)) := (But.of _ hb23).trans (But.setCell (S := fun k => k = g) rfl _)
 refine Zs hK8 fun _ hK9 => ?_
 refine Zr [39] hf ?_
 refine Zq1 6 hf ?_
 clear hf s7; intro fr1 hf s6
 refine Zx hK9 ?_
 refine Zret ?_
 exact Fact.ret1 rfl hf s6 (ThR.ok hr4 hbt)))
theorem thing70 (w : World) (c g : Nat) (s : ByteArray) (i : Nat) (hc : w.cell? ⟨c, 0, none⟩ = some (.pointer (some ⟨g, 0, none⟩))) (hr : RD w g s i) (hi : i <= s.size) (hsz : s.size <= 1000000000) (fq : FuncId) (capq : Array Value) (c2 : Nat) (hcf : ∀ (xs : Array Value) (w1 : World), (callFunc fq xs).run Tryz.prog w1 = .ok (.enter fq xs) w1) (hq9 : ∀ w1, Below w.heap.size w w1 -> (getN (wl s) i).2.2 = 0 -> Calls Tryz.prog fq (#[.int .u64 (getN (wl s) i).1] ++ capq) w1 fun e w2 => e = .returned (.int .i64 c2) /\ Below w1.heap.size w1 w2) : Calls Tryz.prog 96 #[.pointer (some ⟨g, 0, none⟩), .func (.func 97) #[] #[.pointer (some ⟨c, 0, none⟩)], .func (.func fq) #[] capq] w fun e w1 => ThR w w1 e .u64 (getN (wl s) i) c2 i g s := by
 refine Zn3 40 Tryz.func96 fun fr hf s0 s1 s2 => ?_
 obtain ⟨⟨x, ny, c1⟩, hrr⟩ : ∃ r, getN (wl s) i = r := ⟨_, rfl⟩
 rw [hrr] at hq9 |-
 have g1 := hr.c1
 have hgl := heap_lt hr
 refine Ze fun _ hK1 => ?_
 refine Zr [] hf ?_
 refine Zq3 0 1 2 hf ?_
 clear hf s0 s1 s2; intro fr1 hf sS
 refine Zt hK1 fun _ hK2 => ?_
 have bB := hf.B6 11 12 10 13 14 15
 refine Za ?_
 refine fp fun K Z => ?_
 go_simp
 go_at_call 97; refine (num71 w c g s i hc hr hi hsz).mono ?_; rintro e w2 ⟨rfl, hb2⟩
 rw [hrr]
 try dsimp only
 apply Z.out; clear Z K
 iterate 7 refine Za ?_
 refine Fact.nil (Zq5 0 2 7 8 9 hf ?_)
 clear hf sS bB; intro fr1 hf sS
 have g2 := cL hb2 g1
 have hr2 := hr.later hb2
 clear hr g1 hc
 refine Zs hK2 fun _ hK3 => ?_
 refine Ze fun _ hK4 => ?_
 refine Zr [16] hf ?_
 refine Zq6 0 2 7 8 9 17 hf ?_
 clear hf sS; intro fr1 hf sS
 refine Zx hK4 ?_
 refine Fact.cond_s sS.2.2.2.2.2 (fun h1 => ?_) (fun h1 => ?_)
 . (
 have hne : c1 ≠ 0 := by simpa using h1
 clear h1
 refine rg ?_
 have bB := hf.B5 18 19 20 21 22
 iterate 5 refine Za ?_
 refine fp fun K Z => ?_
 go_simp
 go_at_call 32; refine (bad33 w2 c1 i).mono ?_; rintro e w3 ⟨q, rfl, hq1, hq2, hq3⟩
 try dsimp only
 refine pan9 hf.defers (ThR.one hne (Pan.via hb2 ⟨q, rfl, hq1, hq2, hq3⟩)))
 . (
 have hz : c1 = 0 := by simpa using h1
 clear h1
 subst hz
 refine wp_skip ?_
 refine Zs hK3 fun _ hK5 => ?_
 refine Ze fun _ hK6 => rg ?_
 have bB := hf.B3 24 25 26
 iterate 2 refine Za ?_
 refine fp fun K Z => ?_
 go_simp
 try rw [hcf]
 refine (hq9 w2 hb2 rfl).mono ?_
 rintro e w3 ⟨rfl, hb3⟩
 try dsimp only
 apply Z.out; clear Z K
 refine Za ?_
 refine Fact.nil (Zq4 0 7 8 9 hf ?_)
 clear hf sS bB; intro fr1 hf sS
 have g3 := cL hb3 g2
 have hr3 := hr2.later hb3
 have hb23 := hb2.trans (hb3.mono hb2.size)
 clear hr2 g2
 refine Zs hK6 fun _ hK7 => ?_
 refine Zr [27] hf ?_
 refine Zq5 0 7 8 9 28 hf ?_
 clear hf sS; intro fr1 hf sS
 refine Zx hK7 ?_
 refine Fact.cond_s sS.2.2.2.2 (fun h2 => ?_) (fun h2 => ?_)
 . (
 have hne : c2 ≠ 0 := by simpa using h2
 clear h2
 refine rg ?_
 have bB := hf.B5 29 30 31 32 33
 iterate 5 refine Za ?_
 refine fp fun K Z => ?_
 go_simp
 go_at_call 32; refine (bad33 w3 c2 i).mono ?_; rintro e w4 ⟨q, rfl, hq1, hq2, hq3⟩
 try dsimp only
 refine pan9 hf.defers (ThR.two hne (Pan.via hb23 ⟨q, rfl, hq1, hq2, hq3⟩)))
 . (
 have hz : c2 = 0 := by simpa using h2
 clear h2
 subst hz
 have fz := frozen_of (i := 1) hr3
 refine wp_skip ?_
 refine Zs hK5 fun _ hK8 => ?_
 refine Zr [35, 36, 37, 38] hf ?_
 refine Zq1 7 hf ?_
 clear hf sS; intro fr1 hf s7
 have hr4 : RD (w3.setCell ⟨g, 1, none⟩ (.int .i64 ny)) g s ny := (set_block (i := 1) hr3 _).trans (by simp)
 have hbt : But (fun k => k = g) w (w3.setCell ⟨g, 1, none⟩ (.int .i64 ny)) := (But.of _ hb23).trans (But.setCell (S := fun k => k = g) rfl _)
 refine Zs hK8 fun _ hK9 => ?_
 refine Zr [39] hf ?_
 refine Zq1 6 hf ?_
 clear hf s7; intro fr1 hf s6
 refine Zx hK9 ?_
 refine Zret ?_
 exact Fact.ret1 rfl hf s6 (ThR.ok hr4 hbt)))
theorem call_enter {P : Program} {f : FuncId} {fn : Func} {c : Code} (hf : P.funcs[f]? = some fn) (hn : (fn.name == "runtime.NumGoroutine") = false) (hb : fn.body = some c) (xs : Array Value) (w1 : World) : (callFunc f xs).run P w1 = .ok (.enter f xs) w1 := by
 have hn2 : ¬ fn.name = "runtime.NumGoroutine" := by simpa using hn
 simp [callFunc, program, Sem.run, hf, hn2, hb]
theorem call73 (xs : Array Value) (w1 : World) : (callFunc 99 xs).run Tryz.prog w1 = .ok (.enter 99 xs) w1 := call_enter Tryz.func99 (by kernel_rfl) rfl xs w1
theorem call74 (xs : Array Value) (w1 : World) : (callFunc 100 xs).run Tryz.prog w1 = .ok (.enter 100 xs) w1 := call_enter Tryz.func100 (by kernel_rfl) rfl xs w1
theorem call50 (xs : Array Value) (w1 : World) : (callFunc 58 xs).run Tryz.prog w1 = .ok (.enter 58 xs) w1 := call_enter Tryz.func58 (by kernel_rfl) rfl xs w1
theorem app12 (a b c : Value) : (#[a] ++ #[b, c] : Array Value) = #[a, b, c] := rfl
theorem app11 (a b : Value) : (#[a] ++ #[b] : Array Value) = #[a, b] := rfl
theorem app10 (a : Value) : (#[a] ++ #[] : Array Value) = #[a] := rfl
theorem ThR.good {w w1 : World} {e : Ending} {k : IntKind} {r : Nat × Nat × Nat} {c2 i g : Nat} {s : ByteArray} (h : ThR w w1 e k r c2 i g s) (hg : r.2.2 = 0 /\ c2 = 0) : e = .returned (.int k r.1) /\ RD w1 g s r.2.1 /\ But (fun k => k = g) w w1 := by
 unfold ThR at h
 rw [if_neg (by simp [hg.1]), if_neg (by simp [hg.2])] at h
 exact h
theorem ThR.bad {w w1 : World} {e : Ending} {k : IntKind} {r : Nat × Nat × Nat} {c2 i g : Nat} {s : ByteArray} (h : ThR w w1 e k r c2 i g s) (hg : ¬ (r.2.2 = 0 /\ c2 = 0)) : Pan w w1 e (if r.2.2 ≠ 0 then r.2.2 else c2 : Nat) i := by
 unfold ThR at h
 split at h
 ·rename_i h1; rw [if_pos h1]; exact h
 ·rename_i h1
  rw [if_neg h1]
  rw [if_pos (by intro e; exact hg ⟨by simpa using h1, e⟩)] at h
  exact h
theorem ThR.back {w w0 w1 : World} {e : Ending} {k : IntKind} {r : Nat × Nat × Nat} {c2 i g : Nat} {s : ByteArray} (hb : Below w.heap.size w w0) (h : ThR w0 w1 e k r c2 i g s) : ThR w w1 e k r c2 i g s := by
 unfold ThR at h |-
 split
 ·rename_i h1; rw [if_pos h1] at h; exact Pan.via hb h
 ·rename_i h1
  rw [if_neg h1] at h
  split
  ·rename_i h2; rw [if_pos h2] at h; exact Pan.via hb h
  ·rename_i h2
   rw [if_neg h2] at h
   exact ⟨h.1, h.2.1, (But.of _ hb).trans h.2.2⟩
theorem char49 (w : World) (g : Nat) (s : ByteArray) (i : Nat) (hr : RD w g s i) (hi : i <= s.size) (hsz : s.size <= 1000000000) (fq : FuncId) (capq : Array Value) (c2 : Nat) (hcf : ∀ (xs : Array Value) (w1 : World), (callFunc fq xs).run Tryz.prog w1 = .ok (.enter fq xs) w1) (hq9 : ∀ w1, Below w.heap.size w w1 -> (charN s i).2.2 = 0 -> Calls Tryz.prog fq (#[.int .u8 (charN s i).1] ++ capq) w1 fun e w2 => e = .returned (.int .i64 c2) /\ Below w1.heap.size w1 w2) : Calls Tryz.prog 57 #[.pointer (some ⟨g, 0, none⟩), .func (.func fq) #[] capq] w fun e w1 => ThR w w1 e .u8 (charN s i) c2 i g s := by
 refine Zn2 9 Tryz.func57 fun fr hf s0 s1 => ?_
 by_cases hbd : (charN s i).2.2 = 0 /\ c2 = 0
 . (
 refine Ze fun _ hK1 => ?_
 refine Zr [] hf ?_
 refine Zq2 1 2 hf ?_
 clear hf s0 s1; intro fr1 hf sS
 obtain ⟨W0, hW0⟩ : ∃ W0, w.alloc (.cells #[.pointer (some ⟨g, 0, none⟩)] 82) = W0 := ⟨_, rfl⟩
 try rw [hW0]
 obtain ⟨hb0, c0, -, -⟩ := box1 hW0
 clear hW0
 have hr0 := hr.later hb0
 refine Zt hK1 fun _ hK2 => ?_
 have bB := hf.B4 5 6 7 8
 iterate 3 refine Za ?_
 refine fp fun K Z => ?_
 go_simp
 go_at_call 94; refine (thing68 W0 w.heap.size g s i c0 hr0 hi hsz fq capq c2 hcf (fun w1 h1 h2 => hq9 w1 (hb0.trans (h1.mono hb0.size)) h2)).mono ?_; rintro e w1 hth
 obtain ⟨rfl, h2, h3⟩ := hth.good hbd
 try dsimp only
 apply Z.out; clear Z K
 refine Za ?_
 refine Fact.nil (Zq1 4 hf ?_)
 clear hf sS bB; intro fr1 hf s4
 refine Zx hK2 ?_
 refine Zret ?_
 exact Fact.ret1 rfl hf s4 (ThR.back hb0 hth))
 . (
 refine Ze fun _ hK3 => ?_
 refine Zr [] hf ?_
 refine Zq2 1 2 hf ?_
 clear hf s0 s1; intro fr1 hf sS
 obtain ⟨W0, hW0⟩ : ∃ W0, w.alloc (.cells #[.pointer (some ⟨g, 0, none⟩)] 82) = W0 := ⟨_, rfl⟩
 try rw [hW0]
 obtain ⟨hb0, c0, -, -⟩ := box1 hW0
 clear hW0
 have hr0 := hr.later hb0
 refine Zt hK3 fun _ hK4 => ?_
 have bB := hf.B4 5 6 7 8
 iterate 3 refine Za ?_
 refine fp fun K Z => ?_
 go_simp
 go_at_call 94; refine (thing68 W0 w.heap.size g s i c0 hr0 hi hsz fq capq c2 hcf (fun w1 h1 h2 => hq9 w1 (hb0.trans (h1.mono hb0.size)) h2)).mono ?_; rintro e w1 hth
 obtain ⟨q, rfl, h2, h3, h4⟩ := hth.bad hbd
 try dsimp only
 try dsimp only
 exact pan9 hf.defers (ThR.back hb0 hth))
theorem num51 (w : World) (g : Nat) (s : ByteArray) (i : Nat) (hr : RD w g s i) (hi : i <= s.size) (hsz : s.size <= 1000000000) (lo hi9 : Nat) : Calls Tryz.prog 59 #[.pointer (some ⟨g, 0, none⟩), .int .u64 lo, .int .u64 hi9] w fun e w1 => ThR w w1 e .u64 (getN (wl s) i) (rangeN lo hi9 (getN (wl s) i).1) i g s := by
 refine Zn3 11 Tryz.func59 fun fr hf s0 s1 s2 => ?_
 generalize hc2 : rangeN lo hi9 (getN (wl s) i).1 = c2
 have HC2 := Lib.hid hc2; clear hc2
 by_cases hbd : (getN (wl s) i).2.2 = 0 /\ c2 = 0
 . (
 refine Ze fun _ hK1 => ?_
 refine Zr [] hf ?_
 refine Zq3 3 4 5 hf ?_
 clear hf s0 s1 s2; intro fr1 hf sS
 obtain ⟨W0, hW0⟩ : ∃ x, w.alloc (.cells #[.pointer (some ⟨g, 0, none⟩)] 82) = x := ⟨_, rfl⟩
 try rw [hW0]
 obtain ⟨hba, c0, -, hza⟩ := box1 hW0
 clear hW0
 obtain ⟨s3, s4, s5⟩ := sS
 rw [<- hza] at s4 s5
 clear hza
 obtain ⟨W1, hW1⟩ : ∃ x, W0.alloc (.cells #[.int .u64 lo] 35) = x := ⟨_, rfl⟩
 try rw [hW1]
 obtain ⟨hbb, c1, -, hzb⟩ := box1 hW1
 clear hW1
 rw [<- hzb] at s5
 clear hzb
 obtain ⟨W2, hW2⟩ : ∃ x, W1.alloc (.cells #[.int .u64 hi9] 35) = x := ⟨_, rfl⟩
 try rw [hW2]
 obtain ⟨hbc, d2, -, -⟩ := box1 hW2
 clear hW2
 replace c1 := cL hbc c1
 replace c0 := cL hbc (cL hbb c0)
 have hb0 := (hba.trans (hbb.mono hba.size)).trans (hbc.mono (Nat.le_trans hba.size hbb.size))
 have hr0 := hr.later hb0
 refine Zt hK1 fun _ hK2 => ?_
 have bB := hf.B4 7 8 9 10
 iterate 3 refine Za ?_
 refine fp fun K Z => ?_
 go_simp
 go_at_call 96; refine (thing70 W2 w.heap.size g s i c0 hr0 hi hsz 99 #[.pointer (some ⟨W0.heap.size, 0, none⟩), .pointer (some ⟨W1.heap.size, 0, none⟩)] c2 call73 (fun w1 h1 _ => by rw [app12, <- HC2.out]; exact num73 w1 _ lo hi9 _ _ (cL h1 c1) (cL h1 d2))).mono ?_; rintro e w1 hth
 obtain ⟨rfl, h2, h3⟩ := hth.good hbd
 try dsimp only
 apply Z.out; clear Z K
 refine Za ?_
 refine Fact.nil (Zq1 6 hf ?_)
 clear hf s3 s4 s5 bB; intro fr1 hf s6
 refine Zx hK2 ?_
 refine Zret ?_
 exact Fact.ret1 rfl hf s6 (ThR.back hb0 hth))
 . (
 refine Ze fun _ hK3 => ?_
 refine Zr [] hf ?_
 refine Zq3 3 4 5 hf ?_
 clear hf s0 s1 s2; intro fr1 hf sS
 obtain ⟨W0, hW0⟩ : ∃ x, w.alloc (.cells #[.pointer (some ⟨g, 0, none⟩)] 82) = x := ⟨_, rfl⟩
 try rw [hW0]
 obtain ⟨hba, c0, -, hza⟩ := box1 hW0
 clear hW0
 obtain ⟨s3, s4, s5⟩ := sS
 rw [<- hza] at s4 s5
 clear hza
 obtain ⟨W1, hW1⟩ : ∃ x, W0.alloc (.cells #[.int .u64 lo] 35) = x := ⟨_, rfl⟩
 try rw [hW1]
 obtain ⟨hbb, c1, -, hzb⟩ := box1 hW1
 clear hW1
 rw [<- hzb] at s5
 clear hzb
 obtain ⟨W2, hW2⟩ : ∃ x, W1.alloc (.cells #[.int .u64 hi9] 35) = x := ⟨_, rfl⟩
 try rw [hW2]
 obtain ⟨hbc, d2, -, -⟩ := box1 hW2
 clear hW2
 replace c1 := cL hbc c1
 replace c0 := cL hbc (cL hbb c0)
 have hb0 := (hba.trans (hbb.mono hba.size)).trans (hbc.mono (Nat.le_trans hba.size hbb.size))
 have hr0 := hr.later hb0
 refine Zt hK3 fun _ hK4 => ?_
 have bB := hf.B4 7 8 9 10
 iterate 3 refine Za ?_
 refine fp fun K Z => ?_
 go_simp
 go_at_call 96; refine (thing70 W2 w.heap.size g s i c0 hr0 hi hsz 99 #[.pointer (some ⟨W0.heap.size, 0, none⟩), .pointer (some ⟨W1.heap.size, 0, none⟩)] c2 call73 (fun w1 h1 _ => by rw [app12, <- HC2.out]; exact num73 w1 _ lo hi9 _ _ (cL h1 c1) (cL h1 d2))).mono ?_; rintro e w1 hth
 obtain ⟨q, rfl, h2, h3, h4⟩ := hth.bad hbd
 try dsimp only
 try dsimp only
 exact pan9 hf.defers (ThR.back hb0 hth))
abbrev Bad := Nat × Nat
def stepN (r : Nat × Nat × Nat) (c2 i : Nat) : Except Bad (Nat × Nat) := if r.2.2 ≠ 0 then .error (r.2.2, i) else if c2 ≠ 0 then .error (c2, i) else .ok (r.1, r.2.1)
def pNum (s : ByteArray) (lo hi i : Nat) : Except Bad (Nat × Nat) := stepN (getN (wl s) i) (rangeN lo hi (getN (wl s) i).1) i
def pChar (s : ByteArray) (i : Nat) : Except Bad (Nat × Nat) := stepN (charN s i) 0 i
def pMag (s : ByteArray) (k i : Nat) : Except Bad (Nat × Nat) := stepN (charN s i) (kindN k (charN s i).1) i
def pArcs (s : ByteArray) (i : Nat) : Nat -> Nat -> List Arc -> Except Bad (List Arc × Nat)
 | 0, p, acc => .ok (acc, p)
 | k + 1, p, acc => match pChar s p with
  | .error b => .error b
  | .ok (c, p1) => match pNum s 0 18446744073709551615 p1 with
   | .error b => .error b
   | .ok (o, p2) => match pNum s 1 i p2 with
    | .error b => .error b
    | .ok (d, p3) => pArcs s i k p3 (acc ++ [⟨c, o, ((i - d : Nat) : Int)⟩])
def pOut (s : ByteArray) (n p : Nat) : Except Bad (Nat × Nat) := if n % 2 = 1 then pNum s 0 18446744073709551615 p else .ok (0, p)
def pMk (n o : Nat) : Except Bad (List Arc × Nat) -> Except Bad (State × Nat)
 | .error b => .error b
 | .ok (l, p) => .ok ({ arcs := l, final := decide (n % 2 = 1), out := o }, p)
def pState (s : ByteArray) (i p : Nat) : Except Bad (State × Nat) := match pNum s 0 513 p with
 | .error b => .error b
 | .ok (n, p1) => match pOut s n p1 with
  | .error b => .error b
  | .ok (o, p2) => pMk n o (pArcs s i (n / 2) p2 [])
def pStates (s : ByteArray) : Nat -> Nat -> Nat -> List State -> Except Bad (List State × Nat)
 | 0, _, p, acc => .ok (acc, p)
 | k + 1, i, p, acc => match pState s i p with
  | .error b => .error b
  | .ok (st, p1) => pStates s k (i + 1) p1 (acc ++ [st])
def pMagic (s : ByteArray) : Nat -> Nat -> Nat -> Except Bad Nat
 | 0, _, p => .ok p
 | m + 1, k, p => match pMag s k p with
  | .error b => .error b
  | .ok (_, p1) => pMagic s m (k + 1) p1
def pAll (s : ByteArray) : Except Bad (Nat × Nat × List State) := match pMagic s 3 0 0 with
 | .error b => .error b
 | .ok p => match pNum s 0 100000 p with
  | .error b => .error b
  | .ok (en, p1) => match pNum s 1 18446744073709551615 p1 with
   | .error b => .error b
   | .ok (n, p2) => match pStates s n 0 p2 [] with
    | .error b => .error b
    | .ok (ss, p3) => match pNum s 0 18446744073709551615 p3 with
     | .error b => .error b
     | .ok (init, p4) => if p4 < s.size then .error (4, p4) else .ok (en, init, ss)
def PanG (w w1 : World) (e : Ending) (g : Nat) (b : Bad) : Prop := ∃ q, e = .panicked [{ v := .iface 77 (.pointer (some ⟨q, 0, none⟩)), recovered := false }] /\ w.heap.size <= q /\ w1.heap[q]? = some (.cells #[.int .i64 b.1, .int .i64 b.2] 134 (0, 0)) /\ But (fun k => k = g) w w1
theorem Pan.g {w w1 : World} {e : Ending} {g c a : Nat} (h : Pan w w1 e c a) : PanG w w1 e g (c, a) := by
 obtain ⟨q, h1, h2, h3, h4⟩ := h
 exact ⟨q, h1, h2, h3, But.of _ h4⟩
theorem PanG.via {w w1 w2 : World} {e : Ending} {g : Nat} {b : Bad} (hb : But (fun k => k = g \/ w.heap.size <= k) w w2) (h : PanG w2 w1 e g b) : PanG w w1 e g b := by
 obtain ⟨q, h1, h2, h3, h4⟩ := h
 exact ⟨q, h1, Nat.le_trans hb.size h2, h3, (hb.trans (h4.mono (fun k _ hk => .inl hk))).mono (fun k hk h => h.elim id (fun h => by omega))⟩
def ResR (w w1 : World) (e : Ending) (k : IntKind) (g : Nat) (s : ByteArray) : Except Bad (Nat × Nat) -> Prop
 | .error b => PanG w w1 e g b
 | .ok (x, j) => e = .returned (.int k x) /\ RD w1 g s j /\ But (fun k => k = g) w w1
theorem ThR.res {w w1 : World} {e : Ending} {k : IntKind} {r : Nat × Nat × Nat} {c2 i g : Nat} {s : ByteArray} (h : ThR w w1 e k r c2 i g s) : ResR w w1 e k g s (stepN r c2 i) := by
 unfold ThR at h
 unfold stepN
 split at h
 ·rename_i h1; rw [if_pos h1]; exact Pan.g h
 ·rename_i h1
  rw [if_neg h1]
  split at h
  ·rename_i h2; rw [if_pos h2]; exact Pan.g h
  ·rename_i h2; rw [if_neg h2]; exact h
theorem num51' (w : World) (g : Nat) (s : ByteArray) (i : Nat) (hr : RD w g s i) (hi : i <= s.size) (hsz : s.size <= 1000000000) (lo hi9 : Nat) : Calls Tryz.prog 59 #[.pointer (some ⟨g, 0, none⟩), .int .u64 lo, .int .u64 hi9] w fun e w1 => ResR w w1 e .u64 g s (pNum s lo hi9 i) :=
 (num51 w g s i hr hi hsz lo hi9).mono fun e w1 h => h.res
theorem char49' (w : World) (g : Nat) (s : ByteArray) (i : Nat) (hr : RD w g s i) (hi : i <= s.size) (hsz : s.size <= 1000000000) : Calls Tryz.prog 57 #[.pointer (some ⟨g, 0, none⟩), .func (.func 100) #[] #[]] w fun e w1 => ResR w w1 e .u8 g s (pChar s i) :=
 (char49 w g s i hr hi hsz 100 #[] 0 call74 (fun w1 _ _ => by rw [app10]; exact state74 w1 _)).mono fun e w1 h => h.res
theorem mag49 (w : World) (g : Nat) (s : ByteArray) (i : Nat) (hr : RD w g s i) (hi : i <= s.size) (hsz : s.size <= 1000000000) (k p : Nat) (hk : k < 3) (hp : w.cell? ⟨p, 0, none⟩ = some (.int .i64 k)) : Calls Tryz.prog 57 #[.pointer (some ⟨g, 0, none⟩), .func (.func 58) #[] #[.pointer (some ⟨p, 0, none⟩)]] w fun e w1 => ResR w w1 e .u8 g s (pMag s k i) :=
 (char49 w g s i hr hi hsz 58 #[.pointer (some ⟨p, 0, none⟩)] _ call50 (fun w1 hb _ => by rw [app11]; exact all50 w1 _ k p hk (cL hb hp))).mono fun e w1 h => h.res
/-! where readings end -/
theorem getN_ok {s : List Nat} (hs : Small s) {i n j : Nat} (h : getN s i = (n, j, 0)) : i < j /\ j <= s.length /\ n < M64 := by
 obtain ⟨h1, h2, h3⟩ := getN_canon hs h
 have h4 := (numB_le h1).1
 have h5 := congrArg List.length h2
 rw [List.length_append, List.length_drop, List.length_drop] at h5
 omega
theorem pNum_ok {s : ByteArray} {lo hi i n j : Nat} (h : pNum s lo hi i = .ok (n, j)) : i < j /\ j <= s.size /\ n < M64 /\ lo <= n /\ n <= hi /\ getN (wl s) i = (n, j, 0) := by
 unfold pNum stepN at h
 split at h
 ·cases h
 ·rename_i h1
  split at h
  ·cases h
  ·rename_i h2
   injection h with h
   injection h with h3 h4
   have hg : getN (wl s) i = (n, j, 0) := by
    obtain ⟨a, b, c⟩ : ∃ x, getN (wl s) i = x := ⟨_, rfl⟩
    rw [<- h3, <- h4]
    exact Prod.ext rfl (Prod.ext rfl (by simpa using h1))
   have h5 := getN_ok (wl_lt s) hg
   rw [wl_length] at h5
   have h6 : ¬ (n < lo \/ hi < n) := by
    intro h7
    apply h2
    unfold rangeN
    rw [h3, if_pos h7]
    decide
   exact ⟨h5.1, h5.2.1, h5.2.2, by omega, by omega, hg⟩
theorem pChar_ok {s : ByteArray} {i x j : Nat} (hi : i <= s.size) (h : pChar s i = .ok (x, j)) : j = i + 1 /\ j <= s.size /\ x < 256 /\ (wl s)[i]? = some x := by
 unfold pChar stepN charN at h
 by_cases h2 : i = s.size
 ·rw [if_pos h2] at h; simp at h
 ·rw [if_neg h2] at h
  simp at h
  refine ⟨h.2.symm, by omega, by rw [<- h.1]; exact at_lt s i, by rw [<- h.1]; exact wl_at (by omega)⟩
end Dw
end Go.Proofs.YtcddnmhmcieebaaGreatDoor
