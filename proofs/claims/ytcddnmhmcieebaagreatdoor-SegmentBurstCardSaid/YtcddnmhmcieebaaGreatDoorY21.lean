/- slices.Sort of bytes that rise: pivot, insertion. -/
import Derived.Test.YtcddnmhmcieebaaGreatDoorY20
import Derived.Test.YtcddnmhmcieebaaGreatDoorTools
namespace Go.Proofs.YtcddnmhmcieebaaGreatDoor
open Go.RowKit
set_option linter.unusedSimpArgs false
set_option linter.unusedVariables false
set_option linter.unnecessarySimpa false
namespace Dw
set_option maxHeartbeats 4000000 in
set_option maxRecDepth 100000 in
theorem piv_small (w : World) (g n c : Nat) (l : List Nat) (hl : l.length = n) (hn : n ≤ 1000000) (hr : RB w g l) (hs : Hid (RiseB l)) (hk : 8 ≤ n ∧ n < 50) : Calls Tryz.prog 181 #[.slice (some ⟨g, 0, none⟩) n c, .int .i64 0, .int .i64 n] w fun e w1 => (∃ p : Int, e = .returned (.tuple #[.int .i64 p, .int .i64 1])) ∧ Below w.heap.size w w1 := by
 refine Zn3 57 Tryz.func181 fun fr hf s0 s1 s2 => ?_
 obtain ⟨m, hm⟩ : ∃ m, n / 4 = m := ⟨_, rfl⟩
 have hq : ((n : Nat) : Int).tdiv 4 = (m : Int) := by rw [← hm]; rfl
 have e1 : IntKind.i64.wrap ((m : Int) * 1) = (m : Int) := by rw [Fact.wrap_i64 (by omega) (by omega)]; omega
 have e2 : IntKind.i64.wrap ((m : Int) * 2) = ((m * 2 : Nat) : Int) := by rw [Fact.wrap_i64 (by omega) (by omega)]; omega
 have e3 : IntKind.i64.wrap ((m : Int) * 3) = ((m * 3 : Nat) : Int) := by rw [Fact.wrap_i64 (by omega) (by omega)]; omega
 have HM := Lib.hid hm; clear hm
 obtain ⟨m2, hm2⟩ : ∃ x, m * 2 = x := ⟨_, rfl⟩
 obtain ⟨m3, hm3⟩ : ∃ x, m * 3 = x := ⟨_, rfl⟩
 rw [hm2] at e2; rw [hm3] at e3
 have HM2 := Lib.hid hm2; have HM3 := Lib.hid hm3; clear hm2 hm3
 have z0 : IntKind.i64.wrap ((n : Int) - 0) = (n : Int) := by rw [Fact.wrap_i64 (by omega) (by omega)]; omega
 have fm : IntKind.i64.wrap (m : Int) = (m : Int) := Fact.wrap_i64 (by have := HM.out; have := HM2.out; have := HM3.out; omega) (by have := HM.out; have := HM2.out; have := HM3.out; omega)
 have fm2 : IntKind.i64.wrap (m2 : Int) = (m2 : Int) := Fact.wrap_i64 (by have := HM.out; have := HM2.out; have := HM3.out; omega) (by have := HM.out; have := HM2.out; have := HM3.out; omega)
 have fm3 : IntKind.i64.wrap (m3 : Int) = (m3 : Int) := Fact.wrap_i64 (by have := HM.out; have := HM2.out; have := HM3.out; omega) (by have := HM.out; have := HM2.out; have := HM3.out; omega)
 refine Ze fun _ hK1 => ?_
 refine Zr [] hf ?_
 refine Zq3 0 1 2 hf ?_
 clear hf s0 s1 s2; intro fr1 hf sS
 refine Zt hK1 fun _ hK2 => ?_
 have bB := hf.B3 13 14 15
 iterate 2 refine Za ?_
 refine fp fun K Z => ?_
 go_simp
 try simp (disch := omega) only [Fact.W]
 try rw [z0]
 apply Z.out; clear Z K
 refine Za ?_
 refine Fact.nil (Zq3 0 1 8 hf ?_)
 clear hf sS bB; intro fr1 hf sS
 refine Zs hK2 fun _ hK3 => ?_
 refine Zr [] hf ?_
 refine Zq4 0 1 8 9 hf ?_
 clear hf sS; intro fr1 hf sS
 obtain ⟨W2, hW2⟩ : ∃ x, w.alloc (.cells #[.int .i64 0] 3) = x := ⟨_, rfl⟩
 try rw [hW2]
 obtain ⟨hb2, sw0, -, -⟩ := box1 hW2
 clear hW2
 have hr2 := hr.later hb2
 clear hr
 refine Zt hK3 fun _ hK4 => ?_
 have bB := hf.B5 16 17 18 19 20
 iterate 2 refine Za ?_
 refine fp fun K Z => ?_
 go_simp
 try simp only [fm]
 apply Z.out; clear Z K
 refine fp fun K Z => ?_
 go_simp
 try simp (disch := omega) only [Fact.W]
 try simp only [e2, e3, fm, fm2, fm3]
 apply Z.out; clear Z K
 refine fp fun K Z => ?_
 go_simp
 try simp (disch := omega) only [Fact.W]
 try simp only [fm, fm2, fm3]
 apply Z.out; clear Z K
 refine Za ?_
 refine Fact.nil (Zq5 0 1 8 9 10 hf ?_)
 clear hf sS bB; intro fr1 hf sS
 refine Zt hK4 fun _ hK5 => ?_
 have bB := hf.B5 21 22 23 24 25
 iterate 2 refine Za ?_
 refine fp fun K Z => ?_
 go_simp
 try simp only [fm]
 apply Z.out; clear Z K
 refine fp fun K Z => ?_
 go_simp
 try simp (disch := omega) only [Fact.W]
 try simp only [e2, e3, fm, fm2, fm3]
 apply Z.out; clear Z K
 refine fp fun K Z => ?_
 go_simp
 try simp (disch := omega) only [Fact.W]
 try simp only [fm, fm2, fm3]
 apply Z.out; clear Z K
 refine Za ?_
 refine Fact.nil (Zq6 0 1 8 9 10 11 hf ?_)
 clear hf sS bB; intro fr1 hf sS
 refine Zt hK5 fun _ hK6 => ?_
 have bB := hf.B5 26 27 28 29 30
 iterate 2 refine Za ?_
 refine fp fun K Z => ?_
 go_simp
 try simp only [fm]
 apply Z.out; clear Z K
 refine fp fun K Z => ?_
 go_simp
 try simp (disch := omega) only [Fact.W]
 try simp only [e2, e3, fm, fm2, fm3]
 apply Z.out; clear Z K
 refine fp fun K Z => ?_
 go_simp
 try simp (disch := omega) only [Fact.W]
 try simp only [fm, fm2, fm3]
 apply Z.out; clear Z K
 refine Za ?_
 refine Fact.nil (Zq6 0 8 9 10 11 12 hf ?_)
 clear hf sS bB; intro fr1 hf sS
 refine Zx hK6 ?_
 clear hq e1 e2 e3 z0 fm fm2 fm3
 have q1 : decide ((8 : Int) ≤ (n : Int)) = true := decide_eq_true (by omega)
 have q2 : decide ((50 : Int) ≤ (n : Int)) = false := decide_eq_false (by omega)
 refine Ze fun _ hK7 => ?_
 refine Ze fun _ hK8 => ?_
 refine Zr [31] hf ?_
 refine Zq7 0 8 9 10 11 12 32 hf ?_
 clear hf sS; intro fr1 hf sS
 refine Zx hK8 ?_
 refine Fact.cond_t sS.2.2.2.2.2.2 ?_
 refine Ze fun _ hK9 => ?_
 refine Ze fun _ hK10 => ?_
 refine Zr [33] hf ?_
 refine Zq6 0 9 10 11 12 34 hf ?_
 clear hf sS; intro fr1 hf sS
 refine Zx hK10 ?_
 refine Fact.cond_f sS.2.2.2.2.2 ?_
 clear q1 q2
 refine wp_skip ?_
 refine Zx hK9 ?_
 refine rg ?_
 have bB := hf.B5 44 45 46 47 48
 iterate 4 refine Za ?_
 refine fp fun K Z => ?_
 go_simp
 go_at_call 192; refine (medb W2 g n c l hl hn hr2 hs m m2 m3 (by have := HM.out; have := HM2.out; have := HM3.out; omega) (by have := HM.out; have := HM2.out; have := HM3.out; omega) (by have := HM.out; have := HM2.out; have := HM3.out; omega) _).mono ?_; rintro e v11 ⟨rfl, hbv11⟩
 replace sw0 := cL hbv11 sw0
 replace hr2 := hr2.later hbv11
 replace hb2 := hb2.trans (hbv11.mono hb2.size)
 try dsimp only
 apply Z.out; clear Z K
 refine Za ?_
 refine Fact.nil (Zq2 9 11 hf ?_)
 clear hf sS bB; intro fr1 hf sS
 refine Zs hK7 fun _ hK11 => ?_
 refine Zr [] hf ?_
 refine Zq2 11 49 hf ?_
 clear hf sS; intro fr1 hf sS
 refine Zx hK11 ?_
 refine wp_block ?_
 refine Ze fun _ hK12 => ?_
 refine Zr [52] hf ?_
 refine Zq3 11 49 51 hf ?_
 clear hf sS; intro fr1 hf sS
 refine Zx hK12 ?_
 refine Fact.cond_t sS.2.2 ?_
 refine Ze fun _ hK13 => ?_
 refine Zr [53] hf ?_
 refine Zq2 6 7 hf ?_
 clear hf sS; intro fr1 hf sS
 refine Zx hK13 ?_
 refine Zret ?_
 exact Fact.ret2 rfl hf sS.1 sS.2 ⟨⟨_, rfl⟩, hb2⟩
set_option maxHeartbeats 4000000 in
set_option maxRecDepth 100000 in
theorem piv_big (w : World) (g n c : Nat) (l : List Nat) (hl : l.length = n) (hn : n ≤ 1000000) (hr : RB w g l) (hs : Hid (RiseB l)) (hk : 50 ≤ n) : Calls Tryz.prog 181 #[.slice (some ⟨g, 0, none⟩) n c, .int .i64 0, .int .i64 n] w fun e w1 => (∃ p : Int, e = .returned (.tuple #[.int .i64 p, .int .i64 1])) ∧ Below w.heap.size w w1 := by
 refine Zn3 57 Tryz.func181 fun fr hf s0 s1 s2 => ?_
 obtain ⟨m, hm⟩ : ∃ m, n / 4 = m := ⟨_, rfl⟩
 have hq : ((n : Nat) : Int).tdiv 4 = (m : Int) := by rw [← hm]; rfl
 have e1 : IntKind.i64.wrap ((m : Int) * 1) = (m : Int) := by rw [Fact.wrap_i64 (by omega) (by omega)]; omega
 have e2 : IntKind.i64.wrap ((m : Int) * 2) = ((m * 2 : Nat) : Int) := by rw [Fact.wrap_i64 (by omega) (by omega)]; omega
 have e3 : IntKind.i64.wrap ((m : Int) * 3) = ((m * 3 : Nat) : Int) := by rw [Fact.wrap_i64 (by omega) (by omega)]; omega
 have HM := Lib.hid hm; clear hm
 obtain ⟨m2, hm2⟩ : ∃ x, m * 2 = x := ⟨_, rfl⟩
 obtain ⟨m3, hm3⟩ : ∃ x, m * 3 = x := ⟨_, rfl⟩
 rw [hm2] at e2; rw [hm3] at e3
 have HM2 := Lib.hid hm2; have HM3 := Lib.hid hm3; clear hm2 hm3
 have z0 : IntKind.i64.wrap ((n : Int) - 0) = (n : Int) := by rw [Fact.wrap_i64 (by omega) (by omega)]; omega
 have fm : IntKind.i64.wrap (m : Int) = (m : Int) := Fact.wrap_i64 (by have := HM.out; have := HM2.out; have := HM3.out; omega) (by have := HM.out; have := HM2.out; have := HM3.out; omega)
 have fm2 : IntKind.i64.wrap (m2 : Int) = (m2 : Int) := Fact.wrap_i64 (by have := HM.out; have := HM2.out; have := HM3.out; omega) (by have := HM.out; have := HM2.out; have := HM3.out; omega)
 have fm3 : IntKind.i64.wrap (m3 : Int) = (m3 : Int) := Fact.wrap_i64 (by have := HM.out; have := HM2.out; have := HM3.out; omega) (by have := HM.out; have := HM2.out; have := HM3.out; omega)
 refine Ze fun _ hK1 => ?_
 refine Zr [] hf ?_
 refine Zq3 0 1 2 hf ?_
 clear hf s0 s1 s2; intro fr1 hf sS
 refine Zt hK1 fun _ hK2 => ?_
 have bB := hf.B3 13 14 15
 iterate 2 refine Za ?_
 refine fp fun K Z => ?_
 go_simp
 try simp (disch := omega) only [Fact.W]
 try rw [z0]
 apply Z.out; clear Z K
 refine Za ?_
 refine Fact.nil (Zq3 0 1 8 hf ?_)
 clear hf sS bB; intro fr1 hf sS
 refine Zs hK2 fun _ hK3 => ?_
 refine Zr [] hf ?_
 refine Zq4 0 1 8 9 hf ?_
 clear hf sS; intro fr1 hf sS
 obtain ⟨W2, hW2⟩ : ∃ x, w.alloc (.cells #[.int .i64 0] 3) = x := ⟨_, rfl⟩
 try rw [hW2]
 obtain ⟨hb2, sw0, -, -⟩ := box1 hW2
 clear hW2
 have hr2 := hr.later hb2
 clear hr
 refine Zt hK3 fun _ hK4 => ?_
 have bB := hf.B5 16 17 18 19 20
 iterate 2 refine Za ?_
 refine fp fun K Z => ?_
 go_simp
 try simp only [fm]
 apply Z.out; clear Z K
 refine fp fun K Z => ?_
 go_simp
 try simp (disch := omega) only [Fact.W]
 try simp only [e2, e3, fm, fm2, fm3]
 apply Z.out; clear Z K
 refine fp fun K Z => ?_
 go_simp
 try simp (disch := omega) only [Fact.W]
 try simp only [fm, fm2, fm3]
 apply Z.out; clear Z K
 refine Za ?_
 refine Fact.nil (Zq5 0 1 8 9 10 hf ?_)
 clear hf sS bB; intro fr1 hf sS
 refine Zt hK4 fun _ hK5 => ?_
 have bB := hf.B5 21 22 23 24 25
 iterate 2 refine Za ?_
 refine fp fun K Z => ?_
 go_simp
 try simp only [fm]
 apply Z.out; clear Z K
 refine fp fun K Z => ?_
 go_simp
 try simp (disch := omega) only [Fact.W]
 try simp only [e2, e3, fm, fm2, fm3]
 apply Z.out; clear Z K
 refine fp fun K Z => ?_
 go_simp
 try simp (disch := omega) only [Fact.W]
 try simp only [fm, fm2, fm3]
 apply Z.out; clear Z K
 refine Za ?_
 refine Fact.nil (Zq6 0 1 8 9 10 11 hf ?_)
 clear hf sS bB; intro fr1 hf sS
 refine Zt hK5 fun _ hK6 => ?_
 have bB := hf.B5 26 27 28 29 30
 iterate 2 refine Za ?_
 refine fp fun K Z => ?_
 go_simp
 try simp only [fm]
 apply Z.out; clear Z K
 refine fp fun K Z => ?_
 go_simp
 try simp (disch := omega) only [Fact.W]
 try simp only [e2, e3, fm, fm2, fm3]
 apply Z.out; clear Z K
 refine fp fun K Z => ?_
 go_simp
 try simp (disch := omega) only [Fact.W]
 try simp only [fm, fm2, fm3]
 apply Z.out; clear Z K
 refine Za ?_
 refine Fact.nil (Zq6 0 8 9 10 11 12 hf ?_)
 clear hf sS bB; intro fr1 hf sS
 refine Zx hK6 ?_
 clear hq e1 e2 e3 z0 fm fm2 fm3
 have q1 : decide ((8 : Int) ≤ (n : Int)) = true := decide_eq_true (by omega)
 have q2 : decide ((50 : Int) ≤ (n : Int)) = true := decide_eq_true (by omega)
 refine Ze fun _ hK7 => ?_
 refine Ze fun _ hK8 => ?_
 refine Zr [31] hf ?_
 refine Zq7 0 8 9 10 11 12 32 hf ?_
 clear hf sS; intro fr1 hf sS
 refine Zx hK8 ?_
 refine Fact.cond_t sS.2.2.2.2.2.2 ?_
 refine Ze fun _ hK9 => ?_
 refine Ze fun _ hK10 => ?_
 refine Zr [33] hf ?_
 refine Zq6 0 9 10 11 12 34 hf ?_
 clear hf sS; intro fr1 hf sS
 refine Zx hK10 ?_
 refine Fact.cond_t sS.2.2.2.2.2 ?_
 clear q1 q2
 obtain ⟨k1, hk1⟩ : ∃ k, m = k + 1 := ⟨m - 1, by have := HM.out; have := HM2.out; have := HM3.out; omega⟩
 obtain ⟨k2, hk2⟩ : ∃ k, m2 = k + 1 := ⟨m2 - 1, by have := HM.out; have := HM2.out; have := HM3.out; omega⟩
 obtain ⟨k3, hk3⟩ : ∃ k, m3 = k + 1 := ⟨m3 - 1, by have := HM.out; have := HM2.out; have := HM3.out; omega⟩
 obtain ⟨s0, s9, s10, s11, s12, s34⟩ := sS
 rw [hk1] at s10 HM HM2 HM3; rw [hk2] at s11 HM2; rw [hk3] at s12 HM3
 clear hk1 hk2 hk3
 refine Ze fun _ hK11 => rg ?_
 have bB := hf.B3 35 36 37
 iterate 2 refine Za ?_
 refine fp fun K Z => ?_
 go_simp
 go_at_call 191; refine (medadj W2 g n c l hl hn hr2 hs k1 (by have := HM.out; have := HM2.out; have := HM3.out; omega) _).mono ?_; rintro e v8 ⟨rfl, hbv8⟩
 replace sw0 := cL hbv8 sw0
 replace hr2 := hr2.later hbv8
 replace hb2 := hb2.trans (hbv8.mono hb2.size)
 try dsimp only
 apply Z.out; clear Z K
 refine Za ?_
 refine Fact.nil (Zq5 0 9 10 11 12 hf ?_)
 clear hf s0 s9 s10 s11 s12 s34 bB; intro fr1 hf sS
 refine Zt hK11 fun _ hK12 => ?_
 have bB := hf.B3 38 39 40
 iterate 2 refine Za ?_
 refine fp fun K Z => ?_
 go_simp
 go_at_call 191; refine (medadj v8 g n c l hl hn hr2 hs k2 (by have := HM.out; have := HM2.out; have := HM3.out; omega) _).mono ?_; rintro e v9 ⟨rfl, hbv9⟩
 replace sw0 := cL hbv9 sw0
 replace hr2 := hr2.later hbv9
 replace hb2 := hb2.trans (hbv9.mono hb2.size)
 try dsimp only
 apply Z.out; clear Z K
 refine Za ?_
 refine Fact.nil (Zq5 0 9 10 11 12 hf ?_)
 clear hf sS bB; intro fr1 hf sS
 refine Zx hK12 ?_
 refine rg ?_
 have bB := hf.B3 41 42 43
 iterate 2 refine Za ?_
 refine fp fun K Z => ?_
 go_simp
 go_at_call 191; refine (medadj v9 g n c l hl hn hr2 hs k3 (by have := HM.out; have := HM2.out; have := HM3.out; omega) _).mono ?_; rintro e v10 ⟨rfl, hbv10⟩
 replace sw0 := cL hbv10 sw0
 replace hr2 := hr2.later hbv10
 replace hb2 := hb2.trans (hbv10.mono hb2.size)
 try dsimp only
 apply Z.out; clear Z K
 refine Za ?_
 refine Fact.nil (Zq5 0 9 10 11 12 hf ?_)
 clear hf sS bB; intro fr1 hf sS
 refine Zx hK9 ?_
 refine rg ?_
 have bB := hf.B5 44 45 46 47 48
 iterate 4 refine Za ?_
 refine fp fun K Z => ?_
 go_simp
 go_at_call 192; refine (medb v10 g n c l hl hn hr2 hs (k1 + 1) (k2 + 1) (k3 + 1) (by have := HM.out; have := HM2.out; have := HM3.out; omega) (by have := HM.out; have := HM2.out; have := HM3.out; omega) (by have := HM.out; have := HM2.out; have := HM3.out; omega) _).mono ?_; rintro e v11 ⟨rfl, hbv11⟩
 replace sw0 := cL hbv11 sw0
 replace hr2 := hr2.later hbv11
 replace hb2 := hb2.trans (hbv11.mono hb2.size)
 try dsimp only
 apply Z.out; clear Z K
 refine Za ?_
 refine Fact.nil (Zq2 9 11 hf ?_)
 clear hf sS bB; intro fr1 hf sS
 refine Zs hK7 fun _ hK13 => ?_
 refine Zr [] hf ?_
 refine Zq2 11 49 hf ?_
 clear hf sS; intro fr1 hf sS
 refine Zx hK13 ?_
 refine wp_block ?_
 refine Ze fun _ hK14 => ?_
 refine Zr [52] hf ?_
 refine Zq3 11 49 51 hf ?_
 clear hf sS; intro fr1 hf sS
 refine Zx hK14 ?_
 refine Fact.cond_t sS.2.2 ?_
 refine Ze fun _ hK15 => ?_
 refine Zr [53] hf ?_
 refine Zq2 6 7 hf ?_
 clear hf sS; intro fr1 hf sS
 refine Zx hK15 ?_
 refine Zret ?_
 exact Fact.ret2 rfl hf sS.1 sS.2 ⟨⟨_, rfl⟩, hb2⟩
set_option maxHeartbeats 4000000 in
set_option maxRecDepth 100000 in
theorem insb (w : World) (A : Option Addr) (g n c : Nat) (l : List Nat) (hl : l.length = n) (hn : n ≤ 1000000) (hr : RB w g l) (hs : Hid (RiseB l)) (hA : 0 < n → A = some ⟨g, 0, none⟩) : Calls Tryz.prog 178 #[.slice A n c, .int .i64 0, .int .i64 n] w fun e w1 => e = .returned (.tuple #[]) ∧ Below w.heap.size w w1 := by
 refine Zn3 49 Tryz.func178 fun fr hf s0 s1 s2 => ?_
 have e1 : IntKind.i64.wrap ((0 : Int) + 1) = 1 := by decide
 refine Ze fun _ hK1 => rg ?_
 have bB := hf.B2 8 9
 refine Za ?_
 refine fp fun K Z => ?_
 go_simp
 try simp (disch := omega) only [Fact.W]
 try rw [e1]
 apply Z.out; clear Z K
 refine Za ?_
 refine Fact.nil (Zq4 0 1 2 6 hf ?_)
 clear hf s0 s1 s2 bB; intro fr1 hf sS
 refine Zx hK1 ?_
 refine wp_block ?_
 refine wp_loop_ghost (fun gk fr wr => ∃ (i : Nat), gk = n - i ∧ 1 ≤ i ∧ (i ≤ n ∨ i = 1) ∧ Fact.Fr 49 fr ∧ fr.tmps[0]? = some (.slice A n c) ∧ fr.tmps[1]? = some (.int .i64 0) ∧ fr.tmps[2]? = some (.int .i64 n) ∧ fr.tmps[6]? = some (.int .i64 i) ∧ Below w.heap.size w wr) (n - 1) ?_ ?_
 · (
 obtain ⟨s0, s1, s2, s6⟩ := sS
 exact ⟨1, rfl, Nat.le_refl _, .inr rfl, hf, s0, s1, s2, s6, Below.refl _ _⟩)
 · (
 clear hf sS
 skip
 rintro gk fr wr ⟨i, hk, hi1, hin, hf, s0, s1, s2, s6, hb⟩
 have HK := Lib.hid hk; have HIN := Lib.hid hin; clear hk hin
 refine Ze fun _ hK2 => ?_
 refine Ze fun _ hK3 => ?_
 refine Zr [10, 11] hf ?_
 refine Zq5 0 1 2 6 12 hf ?_
 clear hf s0 s1 s2 s6; intro fr1 hf sS
 refine Zx hK3 ?_
 refine Fact.cond_s sS.2.2.2.2 (fun hq => ?_) (fun hq => ?_)
 · (
 have hlt : i < n := by have h9 := of_decide_eq_true hq; omega
 clear hq
 obtain rfl := hA (by omega)
 have hrr := hr.later hb
 refine wp_skip ?_
 refine Zs hK2 fun _ hK4 => ?_
 refine wp_block ?_
 refine Ze fun _ hK5 => ?_
 refine Zr [15] hf ?_
 refine Zq5 0 1 2 6 7 hf ?_
 clear hf sS; intro fr1 hf sS
 refine Zx hK5 ?_
 refine wp_block ?_
 refine wp_loop_ghost (fun gk2 fr w2 => Fact.Fr 49 fr ∧ fr.tmps[0]? = some (.slice (some ⟨g, 0, none⟩) n c) ∧ fr.tmps[1]? = some (.int .i64 0) ∧ fr.tmps[2]? = some (.int .i64 n) ∧ fr.tmps[6]? = some (.int .i64 i) ∧ fr.tmps[7]? = some (.int .i64 i) ∧ w2 = wr) (0) ?_ ?_
 · (
 obtain ⟨s0, s1, s2, s6, s7⟩ := sS
 exact ⟨hf, s0, s1, s2, s6, s7, rfl⟩)
 · (
 clear hf sS
 rintro gk2 fr w2 ⟨hf, s0, s1, s2, s6, s7, hw2⟩
 subst hw2
 obtain ⟨p, hp⟩ : ∃ p, i = p + 1 := ⟨i - 1, by omega⟩
 obtain ⟨xi, hxi⟩ : ∃ x, l[p]? = some x := ⟨_, List.getElem?_eq_getElem (by omega)⟩
 obtain ⟨xj, hxj⟩ : ∃ x, l[p + 1]? = some x := ⟨_, List.getElem?_eq_getElem (by omega)⟩
 have ci := hrr _ _ hxi; have cj := hrr _ _ hxj
 have hij := hs.out _ _ _ _ (by omega) hxi hxj
 clear hxi hxj
 have HIJ := Lib.hid hij; clear hij
 have e4 : IntKind.i64.wrap ((i : Int) - 1) = (p : Int) := by rw [Fact.wrap_i64 (by omega) (by omega)]; omega
 rw [← hp] at cj
 have HP := Lib.hid hp; clear hp
 have q1 : decide ((0 : Int) < (i : Int)) = true := decide_eq_true (by omega)
 have q5 : decide (0 < i) = true := decide_eq_true (by omega)
 refine Ze fun _ hK6 => ?_
 refine Ze fun _ hK7 => ?_
 refine Stab.tb 49 fun hok => ?_
 refine Stab.mO 0 s7 hf hok ?_
 refine Stab.mO 1 s1 hf hok ?_
 refine Stab.T 2 hf hok (fun _ _ h d => ad (Stab.vd 0 1 d []) (Stab.vd 1 0 d [])) ?_
 refine Stab.mN 3 2 0 hf hok [] ?_
 apply Stab.tr 4 _ hf hok
 · (
 intro fr1 w1 hh hd hk K Z
 have s19 := Stab.v 3 0 hd hk []
 refine Stab.g s19 ?_
 have s0 := Stab.O hh s0
 clear hd
 go_simp
 exact Stab.k Z)
 apply Stab.tr 5 _ hf hok
 · (
 intro fr1 w1 hh hd hk K Z
 have s19 := Stab.v 3 1 hd hk []
 refine Stab.g s19 ?_
 have s7 := Stab.O hh s7
 clear hd
 go_simp
 exact Stab.k Z)
 apply Stab.tr 6 _ hf hok
 · (
 intro fr1 w1 hh hd hk K Z
 have s19 := Stab.v 3 2 hd hk []
 refine Stab.g s19 ?_
 have s20 := Stab.v 4 1 hd hk []
 have s21 := Stab.v 5 0 hd hk []
 clear hd
 go_simp
 try rw [if_pos (by have := HP.out; omega)]
 exact Stab.k Z)
 apply Stab.tr 7 _ hf hok
 · (
 intro fr1 w1 hh hd hk K Z
 have s19 := Stab.v 3 3 hd hk []
 refine Stab.g s19 ?_
 have s22 := Stab.v 6 0 hd hk []
 clear hd
 replace ci := cL hh.ext ci
 replace cj := cL hh.ext cj
 go_simp
 exact Stab.k Z)
 apply Stab.tr 8 _ hf hok
 · (
 intro fr1 w1 hh hd hk K Z
 have s19 := Stab.v 3 4 hd hk []
 refine Stab.g s19 ?_
 have s0 := Stab.O hh s0
 clear hd
 go_simp
 exact Stab.k Z)
 apply Stab.tr 9 _ hf hok
 · (
 intro fr1 w1 hh hd hk K Z
 have s19 := Stab.v 3 5 hd hk []
 refine Stab.g s19 ?_
 have s7 := Stab.O hh s7
 clear hd
 go_simp
 exact Stab.k Z)
 apply Stab.tr 10 _ hf hok
 · (
 intro fr1 w1 hh hd hk K Z
 have s19 := Stab.v 3 6 hd hk []
 refine Stab.g s19 ?_
 have s25 := Stab.v 9 0 hd hk []
 clear hd
 go_simp
 try simp (disch := omega) only [Fact.W]
 try rw [e4]
 exact Stab.k Z)
 apply Stab.tr 11 _ hf hok
 · (
 intro fr1 w1 hh hd hk K Z
 have s19 := Stab.v 3 7 hd hk []
 refine Stab.g s19 ?_
 have s24 := Stab.v 8 2 hd hk []
 have s26 := Stab.v 10 0 hd hk []
 clear hd
 go_simp
 try rw [if_pos (by have := HP.out; omega)]
 exact Stab.k Z)
 apply Stab.tr 12 _ hf hok
 · (
 intro fr1 w1 hh hd hk K Z
 have s19 := Stab.v 3 8 hd hk []
 refine Stab.g s19 ?_
 have s27 := Stab.v 11 0 hd hk []
 clear hd
 replace ci := cL hh.ext ci
 replace cj := cL hh.ext cj
 go_simp
 exact Stab.k Z)
 apply Stab.tr 13 _ hf hok
 · (
 intro fr1 w1 hh hd hk K Z
 have s19 := Stab.v 3 9 hd hk []
 refine Stab.g s19 ?_
 have s23 := Stab.v 7 5 hd hk []
 have s28 := Stab.v 12 0 hd hk []
 clear hd
 replace ci := cL hh.ext ci
 replace cj := cL hh.ext cj
 go_simp
 go_at_call 184; refine (bless w1 xj xi).mono ?_; rintro e w2 ⟨rfl, rfl⟩
 rw [decide_eq_false (show ¬ xj < xi by have := HIJ.out; omega)]
 exact Stab.k Z)
 refine Stab.T 14 hf hok (fun _ _ h d => ad (Stab.vd 3 10 d []) (Stab.vd 13 0 d [])) ?_
 refine Stab.E hf hok (fun _ _ h g => ad (Stab.O h s0) (ad (Stab.O h s1) (ad (Stab.O h s2) (ad (Stab.O h s6) (ad (Stab.O h s7) (Stab.f 14 0 g)))))) ?_
 clear hf hok s0 s1 s2 s6 s7; intro fr1 w1 hf hx sS
 replace ci := cL hx ci
 replace cj := cL hx cj
 refine Zx hK7 ?_
 refine Fact.cond_f sS.2.2.2.2.2 ?_
 clear q1 q5 e4
 refine Zo ?_
 refine Fact.block_normal ?_
 refine Zx hK4 ?_
 refine Zr [13, 14] hf ?_
 refine Zq4 0 1 2 6 hf ?_
 clear hf sS; intro fr1 hf sS
 refine Fact.then_normal ?_
 obtain ⟨s0, s1, s2, s6⟩ := sS
 exact ⟨_, by have := HK.out; omega, i + 1, rfl, by omega, .inl (by omega), hf, s0, s1, s2, by rw [s6]; rfl, hb.trans (hx.mono hb.size)⟩))
 · (
 clear hq
 refine Zo ?_
 exact Fact.end0 rfl hf ⟨rfl, hb⟩))
end Dw
end Go.Proofs.YtcddnmhmcieebaaGreatDoor

namespace Go.Proofs.YtcddnmhmcieebaaGreatDoor
open Go.RowKit
set_option linter.unusedSimpArgs false
set_option linter.unusedVariables false
set_option linter.unnecessarySimpa false
namespace Dw
theorem pivb (w : World) (g n c : Nat) (l : List Nat) (hl : l.length = n) (hn : n ≤ 1000000) (hr : RB w g l) (hs : Hid (RiseB l)) (hk : 8 ≤ n) : Calls Tryz.prog 181 #[.slice (some ⟨g, 0, none⟩) n c, .int .i64 0, .int .i64 n] w fun e w1 => (∃ p : Int, e = .returned (.tuple #[.int .i64 p, .int .i64 1])) ∧ Below w.heap.size w w1 := by
  rcases Nat.lt_or_ge n 50 with h | h
  · exact piv_small w g n c l hl hn hr hs ⟨hk, h⟩
  · exact piv_big w g n c l hl hn hr hs h
theorem bitLen_pos {n : Nat} (h : 0 < n) : (Lib.bitLen (n : Int).toNat : Int) ≠ 0 := by
  rw [Int.toNat_natCast]
  show ((Lib.bitLenAux (63 + 1) n : Nat) : Int) ≠ 0
  rw [Lib.bitLenAux]
  split <;> omega
set_option maxHeartbeats 4000000 in
set_option maxRecDepth 100000 in
theorem pinb (w : World) (g n c : Nat) (l : List Nat) (hl : l.length = n) (hn : n ≤ 1000000) (hr : RB w g l) (hs : Hid (RiseB l)) (h1n : 1 ≤ n) : Calls Tryz.prog 183 #[.slice (some ⟨g, 0, none⟩) n c, .int .i64 0, .int .i64 n] w fun e w1 => e = .returned (.bool true) ∧ Below w.heap.size w w1 := by
 refine Zn3 133 Tryz.func183 fun fr hf s0 s1 s2 => ?_
 refine Ze fun _ hK1 => ?_
 refine Zr [] hf ?_
 refine Zq3 0 1 2 hf ?_
 clear hf s0 s1 s2; intro fr1 hf sS
 refine Zt hK1 fun _ hK2 => ?_
 have bB := hf.B2 11 12
 refine Za ?_
 refine fp fun K Z => ?_
 go_simp
 try simp (disch := omega) only [Fact.W]
 try rw [show IntKind.i64.wrap ((0 : Int) + 1) = 1 by decide]
 apply Z.out; clear Z K
 refine Za ?_
 refine Fact.nil (Zq4 0 1 2 7 hf ?_)
 clear hf sS bB; intro fr1 hf sS
 refine Zs hK2 fun _ hK3 => ?_
 refine Ze fun _ hK4 => ?_
 refine Zr [] hf ?_
 refine Zq5 0 1 2 7 8 hf ?_
 clear hf sS; intro fr1 hf sS
 refine Zx hK4 ?_
 refine wp_block ?_
 refine wp_loop_ghost (fun gk fr wr => Fact.Fr 133 fr ∧ fr.tmps[0]? = some (.slice (some ⟨g, 0, none⟩) n c) ∧ fr.tmps[1]? = some (.int .i64 0) ∧ fr.tmps[2]? = some (.int .i64 n) ∧ fr.tmps[7]? = some (.int .i64 1) ∧ fr.tmps[8]? = some (.int .i64 0) ∧ wr = w) (0) ?_ ?_
 · (
 obtain ⟨s0, s1, s2, s7, s8⟩ := sS
 exact ⟨hf, s0, s1, s2, s7, s8, rfl⟩)
 · (
 clear hf sS
 rintro gk fr wr ⟨hf, s0, s1, s2, s7, s8, hwr⟩
 subst hwr
 refine Ze fun _ hK5 => ?_
 refine Ze fun _ hK6 => ?_
 refine Zr [13] hf ?_
 refine Zq6 0 1 2 7 8 14 hf ?_
 clear hf s0 s1 s2 s7 s8; intro fr1 hf sS
 refine Zx hK6 ?_
 refine Fact.cond_t sS.2.2.2.2.2 ?_
 refine wp_skip ?_
 refine Zs hK5 fun _ hK7 => ?_
 refine wp_block ?_
 refine Ze fun _ hK8 => ?_
 refine wp_block ?_
 refine wp_loop_ghost (fun gk2 fr w2 => ∃ (i : Nat), gk2 = n - i ∧ 1 ≤ i ∧ i ≤ n ∧ Fact.Fr 133 fr ∧ fr.tmps[0]? = some (.slice (some ⟨g, 0, none⟩) n c) ∧ fr.tmps[1]? = some (.int .i64 0) ∧ fr.tmps[2]? = some (.int .i64 n) ∧ fr.tmps[7]? = some (.int .i64 i) ∧ fr.tmps[8]? = some (.int .i64 0) ∧ Below wr.heap.size wr w2) (n - 1) ?_ ?_
 · (
 obtain ⟨s0, s1, s2, s7, s8, s14⟩ := sS
 exact ⟨1, rfl, Nat.le_refl _, h1n, hf, s0, s1, s2, s7, s8, Below.refl _ _⟩)
 · (
 clear hf sS
 rintro gk2 fr w2 ⟨i, hk2, hi1, hin, hf, s0, s1, s2, s7, s8, hb⟩
 have HK := Lib.hid hk2; clear hk2
 rcases Nat.lt_or_ge i n with hlt | hge
 · (
 obtain ⟨p, hp⟩ : ∃ p, i = p + 1 := ⟨i - 1, by omega⟩
 have hrr := hr.later hb
 obtain ⟨xi, hxi⟩ : ∃ x, l[p]? = some x := ⟨_, List.getElem?_eq_getElem (by omega)⟩
 obtain ⟨xj, hxj⟩ : ∃ x, l[p + 1]? = some x := ⟨_, List.getElem?_eq_getElem (by omega)⟩
 have ci := hrr _ _ hxi; have cj := hrr _ _ hxj
 have hij := hs.out _ _ _ _ (by omega) hxi hxj
 clear hxi hxj
 have HIJ := Lib.hid hij; clear hij
 have e4 : IntKind.i64.wrap ((i : Int) - 1) = (p : Int) := by rw [Fact.wrap_i64 (by omega) (by omega)]; omega
 rw [← hp] at cj
 have HP := Lib.hid hp; clear hp hrr
 have q1 : decide (i < n) = true := decide_eq_true hlt
 have q5 : decide ((i : Int) < (n : Int)) = true := decide_eq_true (by omega)
 refine Ze fun _ hK9 => ?_
 refine Ze fun _ hK10 => ?_
 refine Stab.tb 133 fun hok => ?_
 refine Stab.mO 0 s7 hf hok ?_
 refine Stab.mO 1 s2 hf hok ?_
 refine Stab.T 2 hf hok (fun _ _ h d => ad (Stab.vd 0 1 d []) (Stab.vd 1 0 d [])) ?_
 refine Stab.mN 3 2 0 hf hok [] ?_
 apply Stab.tr 4 _ hf hok
 · (
 intro fr1 w1 hh hd hk K Z
 have s20 := Stab.v 3 0 hd hk []
 refine Stab.g s20 ?_
 have s0 := Stab.O hh s0
 clear hd
 go_simp
 exact Stab.k Z)
 apply Stab.tr 5 _ hf hok
 · (
 intro fr1 w1 hh hd hk K Z
 have s20 := Stab.v 3 1 hd hk []
 refine Stab.g s20 ?_
 have s7 := Stab.O hh s7
 clear hd
 go_simp
 exact Stab.k Z)
 apply Stab.tr 6 _ hf hok
 · (
 intro fr1 w1 hh hd hk K Z
 have s20 := Stab.v 3 2 hd hk []
 refine Stab.g s20 ?_
 have s21 := Stab.v 4 1 hd hk []
 have s22 := Stab.v 5 0 hd hk []
 clear hd
 go_simp
 try rw [if_pos (by omega)]
 exact Stab.k Z)
 apply Stab.tr 7 _ hf hok
 · (
 intro fr1 w1 hh hd hk K Z
 have s20 := Stab.v 3 3 hd hk []
 refine Stab.g s20 ?_
 have s23 := Stab.v 6 0 hd hk []
 clear hd
 replace ci := cL hh.ext ci
 replace cj := cL hh.ext cj
 go_simp
 try rw [if_pos (by have := HP.out; omega)]
 exact Stab.k Z)
 apply Stab.tr 8 _ hf hok
 · (
 intro fr1 w1 hh hd hk K Z
 have s20 := Stab.v 3 4 hd hk []
 refine Stab.g s20 ?_
 have s0 := Stab.O hh s0
 clear hd
 go_simp
 exact Stab.k Z)
 apply Stab.tr 9 _ hf hok
 · (
 intro fr1 w1 hh hd hk K Z
 have s20 := Stab.v 3 5 hd hk []
 refine Stab.g s20 ?_
 have s7 := Stab.O hh s7
 clear hd
 go_simp
 exact Stab.k Z)
 apply Stab.tr 10 _ hf hok
 · (
 intro fr1 w1 hh hd hk K Z
 have s20 := Stab.v 3 6 hd hk []
 refine Stab.g s20 ?_
 have s26 := Stab.v 9 0 hd hk []
 clear hd
 go_simp
 try simp (disch := omega) only [Fact.W]
 try rw [e4]
 exact Stab.k Z)
 apply Stab.tr 11 _ hf hok
 · (
 intro fr1 w1 hh hd hk K Z
 have s20 := Stab.v 3 7 hd hk []
 refine Stab.g s20 ?_
 have s25 := Stab.v 8 2 hd hk []
 have s27 := Stab.v 10 0 hd hk []
 clear hd
 go_simp
 try rw [if_pos (by have := HP.out; omega)]
 exact Stab.k Z)
 apply Stab.tr 12 _ hf hok
 · (
 intro fr1 w1 hh hd hk K Z
 have s20 := Stab.v 3 8 hd hk []
 refine Stab.g s20 ?_
 have s28 := Stab.v 11 0 hd hk []
 clear hd
 replace ci := cL hh.ext ci
 replace cj := cL hh.ext cj
 go_simp
 exact Stab.k Z)
 apply Stab.tr 13 _ hf hok
 · (
 intro fr1 w1 hh hd hk K Z
 have s20 := Stab.v 3 9 hd hk []
 refine Stab.g s20 ?_
 have s24 := Stab.v 7 5 hd hk []
 have s29 := Stab.v 12 0 hd hk []
 clear hd
 replace ci := cL hh.ext ci
 replace cj := cL hh.ext cj
 go_simp
 go_at_call 184; refine (bless w1 xj xi).mono ?_; rintro e w2 ⟨rfl, rfl⟩
 rw [decide_eq_false (show ¬ xj < xi by have := HIJ.out; omega)]
 exact Stab.k Z)
 apply Stab.tr 14 _ hf hok
 · (
 intro fr1 w1 hh hd hk K Z
 have s20 := Stab.v 3 10 hd hk []
 refine Stab.g s20 ?_
 have s30 := Stab.v 13 0 hd hk []
 clear hd
 go_simp
 exact Stab.k Z)
 refine Stab.T 15 hf hok (fun _ _ h d => ad (Stab.vd 3 11 d []) (Stab.vd 14 0 d [])) ?_
 refine Stab.E hf hok (fun _ _ h g => ad (Stab.O h s0) (ad (Stab.O h s1) (ad (Stab.O h s2) (ad (Stab.O h s7) (ad (Stab.O h s8) (Stab.f 15 0 g)))))) ?_
 clear hf hok s0 s1 s2 s7 s8; intro fr1 w1 hf hx sS
 replace ci := cL hx ci
 replace cj := cL hx cj
 refine Zx hK10 ?_
 refine Fact.cond_t sS.2.2.2.2.2 ?_
 clear q1 q5 e4
 refine wp_skip ?_
 refine Zx hK9 ?_
 refine wp_block ?_
 refine Zr [33, 34] hf ?_
 refine Zq5 0 1 2 7 8 hf ?_
 clear hf sS; intro fr1 hf sS
 refine Fact.block_normal ?_
 refine Fact.then_normal ?_
 obtain ⟨s0, s1, s2, s7, s8⟩ := sS
 exact ⟨_, by have := HK.out; omega, i + 1, rfl, by omega, by omega, hf, s0, s1, s2, by rw [s7]; rfl, s8, hb.trans (hx.mono hb.size)⟩)
 · (
 have hie : i = n := by omega
 have q1 : decide (i < n) = false := decide_eq_false (by omega)
 have q5 : decide ((i : Int) < (n : Int)) = false := decide_eq_false (by omega)
 refine Ze fun _ hK11 => ?_
 refine Ze fun _ hK12 => ?_
 refine Stab.tb 133 fun hok => ?_
 refine Stab.mO 0 s7 hf hok ?_
 refine Stab.mO 1 s2 hf hok ?_
 refine Stab.T 2 hf hok (fun _ _ h d => ad (Stab.vd 0 1 d []) (Stab.vd 1 0 d [])) ?_
 refine Stab.mN 3 2 0 hf hok [] ?_
 apply Stab.tr 4 _ hf hok
 · (
 intro fr1 w1 hh hd hk K Z
 have s20 := Stab.v 3 0 hd hk []
 refine Stab.sk s20 ?_
 exact Stab.k Z)
 apply Stab.tr 5 _ hf hok
 · (
 intro fr1 w1 hh hd hk K Z
 have s20 := Stab.v 3 1 hd hk []
 refine Stab.sk s20 ?_
 exact Stab.k Z)
 apply Stab.tr 6 _ hf hok
 · (
 intro fr1 w1 hh hd hk K Z
 have s20 := Stab.v 3 2 hd hk []
 refine Stab.sk s20 ?_
 exact Stab.k Z)
 apply Stab.tr 7 _ hf hok
 · (
 intro fr1 w1 hh hd hk K Z
 have s20 := Stab.v 3 3 hd hk []
 refine Stab.sk s20 ?_
 exact Stab.k Z)
 apply Stab.tr 8 _ hf hok
 · (
 intro fr1 w1 hh hd hk K Z
 have s20 := Stab.v 3 4 hd hk []
 refine Stab.sk s20 ?_
 exact Stab.k Z)
 apply Stab.tr 9 _ hf hok
 · (
 intro fr1 w1 hh hd hk K Z
 have s20 := Stab.v 3 5 hd hk []
 refine Stab.sk s20 ?_
 exact Stab.k Z)
 apply Stab.tr 10 _ hf hok
 · (
 intro fr1 w1 hh hd hk K Z
 have s20 := Stab.v 3 6 hd hk []
 refine Stab.sk s20 ?_
 exact Stab.k Z)
 apply Stab.tr 11 _ hf hok
 · (
 intro fr1 w1 hh hd hk K Z
 have s20 := Stab.v 3 7 hd hk []
 refine Stab.sk s20 ?_
 exact Stab.k Z)
 apply Stab.tr 12 _ hf hok
 · (
 intro fr1 w1 hh hd hk K Z
 have s20 := Stab.v 3 8 hd hk []
 refine Stab.sk s20 ?_
 exact Stab.k Z)
 apply Stab.tr 13 _ hf hok
 · (
 intro fr1 w1 hh hd hk K Z
 have s20 := Stab.v 3 9 hd hk []
 refine Stab.sk s20 ?_
 exact Stab.k Z)
 apply Stab.tr 14 _ hf hok
 · (
 intro fr1 w1 hh hd hk K Z
 have s20 := Stab.v 3 10 hd hk []
 refine Stab.sk s20 ?_
 exact Stab.k Z)
 refine Stab.T 15 hf hok (fun _ _ h d => ad (Stab.vd 3 11 d []) (Stab.vd 14 0 d [])) ?_
 refine Stab.E hf hok (fun _ _ h g => ad (Stab.O h s0) (ad (Stab.O h s1) (ad (Stab.O h s2) (ad (Stab.O h s7) (ad (Stab.O h s8) (Stab.f 15 0 g)))))) ?_
 clear hf hok s0 s1 s2 s7 s8; intro fr1 w1 hf hx sS
 refine Zx hK12 ?_
 refine Fact.cond_f sS.2.2.2.2.2 ?_
 clear q1 q5
 subst hie
 refine Zo ?_
 refine Zs hK8 fun _ hK13 => ?_
 refine Ze fun _ hK14 => ?_
 refine Zr [35, 36] hf ?_
 refine Zq6 0 1 2 7 8 37 hf ?_
 clear hf sS; intro fr1 hf sS
 refine Zx hK14 ?_
 refine Fact.cond_t sS.2.2.2.2.2 ?_
 refine Ze fun _ hK15 => ?_
 refine Zr [] hf ?_
 refine Zq1 6 hf ?_
 clear hf sS; intro fr1 hf s6
 refine Zx hK15 ?_
 refine Zret ?_
 exact Fact.ret1 rfl hf s6 ⟨rfl, hb.trans (hx.mono hb.size)⟩)))
set_option maxHeartbeats 4000000 in
set_option maxRecDepth 100000 in
theorem pdq_few (w : World) (A : Option Addr) (g n c : Nat) (l : List Nat) (hl : l.length = n) (hn : n ≤ 1000000) (hr : RB w g l) (hs : Hid (RiseB l)) (hA : 0 < n → A = some ⟨g, 0, none⟩) (lim : Int) (hk : n ≤ 12) : Calls Tryz.prog 174 #[.slice A n c, .int .i64 0, .int .i64 n, .int .i64 lim] w fun e w1 => e = .returned (.tuple #[]) ∧ Below w.heap.size w w1 := by
 refine Zn4 134 Tryz.func174 fun fr hf s0 s1 s2 s3 => ?_
 have z0 : IntKind.i64.wrap ((n : Int) - 0) = (n : Int) := by rw [Fact.wrap_i64 (by omega) (by omega)]; omega
 refine Ze fun _ hK1 => ?_
 refine Zr [] hf ?_
 refine Zq5 0 1 2 3 8 hf ?_
 clear hf s0 s1 s2 s3; intro fr1 hf sS
 refine Zs hK1 fun _ hK2 => ?_
 refine Zr [] hf ?_
 refine Zq6 0 1 2 3 8 9 hf ?_
 clear hf sS; intro fr1 hf sS
 refine Zx hK2 ?_
 refine wp_block ?_
 refine wp_loop_ghost (fun gk fr wr => Fact.Fr 134 fr ∧ fr.tmps[0]? = some (.slice A n c) ∧ fr.tmps[1]? = some (.int .i64 0) ∧ fr.tmps[2]? = some (.int .i64 n) ∧ fr.tmps[3]? = some (.int .i64 lim) ∧ fr.tmps[8]? = some (.bool true) ∧ fr.tmps[9]? = some (.bool true) ∧ wr = w) (0) ?_ ?_
 · (
 obtain ⟨s0, s1, s2, s3, s8, s9⟩ := sS
 exact ⟨hf, s0, s1, s2, s3, s8, s9, rfl⟩)
 · (
 clear hf sS
 rintro gk fr wr ⟨hf, s0, s1, s2, s3, s8, s9, hwr⟩
 subst hwr
 have q1 : decide ((n : Int) ≤ 12) = true := decide_eq_true (by omega)
 have q2 : decide (n ≤ 12) = true := decide_eq_true (by omega)
 refine wp_block ?_
 refine Ze fun _ hK3 => rg ?_
 have bB := hf.B3 19 20 21
 iterate 2 refine Za ?_
 refine fp fun K Z => ?_
 go_simp
 try simp (disch := omega) only [Fact.W]
 try rw [z0]
 apply Z.out; clear Z K
 refine Za ?_
 refine Fact.nil (Zq7 0 1 2 3 8 9 10 hf ?_)
 clear hf s0 s1 s2 s3 s8 s9 bB; intro fr1 hf sS
 refine Zs hK3 fun _ hK4 => ?_
 refine Ze fun _ hK5 => ?_
 refine Zr [22] hf ?_
 refine Zq8 0 1 2 3 8 9 10 23 hf ?_
 clear hf sS; intro fr1 hf sS
 refine Zx hK5 ?_
 refine Fact.cond_t sS.2.2.2.2.2.2.2 ?_
 refine Ze fun _ hK6 => rg ?_
 have bB := hf.B3 24 25 26
 iterate 3 refine Za ?_
 refine fp fun K Z => ?_
 go_simp
 go_at_call 178; refine (insb wr A g n c l hl hn hr hs hA).mono ?_; rintro e w1 ⟨rfl, hb1⟩
 try dsimp only
 apply Z.out; clear Z K
 refine Fact.nil (Zq0 hf ?_)
 clear hf sS bB; intro fr1 hf
 refine Zx hK6 ?_
 refine Zret ?_
 exact Fact.ret0 rfl hf ⟨rfl, hb1⟩)
set_option maxHeartbeats 4000000 in
set_option maxRecDepth 100000 in
theorem pdq_many (w : World) (A : Option Addr) (g n c : Nat) (l : List Nat) (hl : l.length = n) (hn : n ≤ 1000000) (hr : RB w g l) (hs : Hid (RiseB l)) (hA : 0 < n → A = some ⟨g, 0, none⟩) (lim : Int) (hk : 12 < n) (hlim : lim ≠ 0) : Calls Tryz.prog 174 #[.slice A n c, .int .i64 0, .int .i64 n, .int .i64 lim] w fun e w1 => e = .returned (.tuple #[]) ∧ Below w.heap.size w w1 := by
 refine Zn4 134 Tryz.func174 fun fr hf s0 s1 s2 s3 => ?_
 have z0 : IntKind.i64.wrap ((n : Int) - 0) = (n : Int) := by rw [Fact.wrap_i64 (by omega) (by omega)]; omega
 refine Ze fun _ hK1 => ?_
 refine Zr [] hf ?_
 refine Zq5 0 1 2 3 8 hf ?_
 clear hf s0 s1 s2 s3; intro fr1 hf sS
 refine Zs hK1 fun _ hK2 => ?_
 refine Zr [] hf ?_
 refine Zq6 0 1 2 3 8 9 hf ?_
 clear hf sS; intro fr1 hf sS
 refine Zx hK2 ?_
 refine wp_block ?_
 refine wp_loop_ghost (fun gk fr wr => Fact.Fr 134 fr ∧ fr.tmps[0]? = some (.slice A n c) ∧ fr.tmps[1]? = some (.int .i64 0) ∧ fr.tmps[2]? = some (.int .i64 n) ∧ fr.tmps[3]? = some (.int .i64 lim) ∧ fr.tmps[8]? = some (.bool true) ∧ fr.tmps[9]? = some (.bool true) ∧ wr = w) (0) ?_ ?_
 · (
 obtain ⟨s0, s1, s2, s3, s8, s9⟩ := sS
 exact ⟨hf, s0, s1, s2, s3, s8, s9, rfl⟩)
 · (
 clear hf sS
 rintro gk fr wr ⟨hf, s0, s1, s2, s3, s8, s9, hwr⟩
 subst hwr
 have q1 : decide ((n : Int) ≤ 12) = false := decide_eq_false (by omega)
 have q2 : decide (n ≤ 12) = false := decide_eq_false (by omega)
 refine wp_block ?_
 refine Ze fun _ hK3 => rg ?_
 have bB := hf.B3 19 20 21
 iterate 2 refine Za ?_
 refine fp fun K Z => ?_
 go_simp
 try simp (disch := omega) only [Fact.W]
 try rw [z0]
 apply Z.out; clear Z K
 refine Za ?_
 refine Fact.nil (Zq7 0 1 2 3 8 9 10 hf ?_)
 clear hf s0 s1 s2 s3 s8 s9 bB; intro fr1 hf sS
 refine Zs hK3 fun _ hK4 => ?_
 refine Ze fun _ hK5 => ?_
 refine Zr [22] hf ?_
 refine Zq8 0 1 2 3 8 9 10 23 hf ?_
 clear hf sS; intro fr1 hf sS
 refine Zx hK5 ?_
 refine Fact.cond_f sS.2.2.2.2.2.2.2 ?_
 have q3 : ((lim : Int) == 0) = false := beq_eq_false_iff_ne.2 hlim
 refine wp_skip ?_
 refine Zs hK4 fun _ hK6 => ?_
 refine Ze fun _ hK7 => ?_
 refine Zr [28] hf ?_
 refine Zq8 0 1 2 3 8 9 10 29 hf ?_
 clear hf sS; intro fr1 hf sS
 refine Zx hK7 ?_
 refine Fact.cond_f sS.2.2.2.2.2.2.2 ?_
 clear q1 q2 q3
 obtain rfl := hA (by omega)
 refine wp_skip ?_
 refine Zs hK6 fun _ hK8 => ?_
 refine Ze fun _ hK9 => ?_
 refine Zr [34] hf ?_
 refine Zq8 0 1 2 3 8 9 10 35 hf ?_
 clear hf sS; intro fr1 hf sS
 refine Zx hK9 ?_
 refine Fact.cond_f sS.2.2.2.2.2.2.2 ?_
 refine wp_skip ?_
 refine Zt hK8 fun _ hK10 => ?_
 have bB := hf.B7 43 44 45 46 42 47 48
 iterate 3 refine Za ?_
 refine fp fun K Z => ?_
 go_simp
 go_at_call 181; refine (pivb wr g n c l hl hn hr hs (by omega)).mono ?_; rintro e w1 ⟨⟨pv, rfl⟩, hb1⟩
 have hr1 := hr.later hb1
 try dsimp only
 apply Z.out; clear Z K
 iterate 5 refine Za ?_
 refine Fact.nil (Zq9 0 1 2 3 8 9 10 11 12 hf ?_)
 clear hf sS bB; intro fr1 hf sS
 refine Zs hK10 fun _ hK11 => ?_
 refine Ze fun _ hK12 => ?_
 refine Zr [49] hf ?_
 refine Zq10 0 1 2 3 8 9 10 11 12 50 hf ?_
 clear hf sS; intro fr1 hf sS
 refine Zx hK12 ?_
 refine Fact.cond_f sS.2.2.2.2.2.2.2.2.2 ?_
 refine wp_skip ?_
 refine Zs hK11 fun _ hK13 => ?_
 refine Ze fun _ hK14 => ?_
 refine Zr [61, 62, 63, 64, 65, 66, 67] hf ?_
 refine Zq9 0 1 2 3 8 9 10 11 68 hf ?_
 clear hf sS; intro fr1 hf sS
 refine Zx hK14 ?_
 refine Fact.cond_t sS.2.2.2.2.2.2.2.2 ?_
 refine Ze fun _ hK15 => rg ?_
 have bB := hf.B3 69 70 71
 iterate 3 refine Za ?_
 refine fp fun K Z => ?_
 go_simp
 go_at_call 183; refine (pinb w1 g n c l hl hn hr1 hs (by omega)).mono ?_; rintro e w2 ⟨rfl, hb2⟩
 try dsimp only
 apply Z.out; clear Z K
 refine Fact.nil (Zq9 0 1 2 3 8 9 10 11 72 hf ?_)
 clear hf sS bB; intro fr1 hf sS
 refine Zx hK15 ?_
 refine Fact.cond_t sS.2.2.2.2.2.2.2.2 ?_
 refine Zret ?_
 exact Fact.ret0 rfl hf ⟨rfl, hb1.trans (hb2.mono hb1.size)⟩)
theorem pdqb (w : World) (A : Option Addr) (g n c : Nat) (l : List Nat) (hl : l.length = n) (hn : n ≤ 1000000) (hr : RB w g l) (hs : Hid (RiseB l)) (hA : 0 < n → A = some ⟨g, 0, none⟩) (lim : Int) (hlim : 12 < n → lim ≠ 0) : Calls Tryz.prog 174 #[.slice A n c, .int .i64 0, .int .i64 n, .int .i64 lim] w fun e w1 => e = .returned (.tuple #[]) ∧ Below w.heap.size w w1 := by
  rcases Nat.lt_or_ge 12 n with h | h
  · exact pdq_many w A g n c l hl hn hr hs hA lim h (hlim h)
  · exact pdq_few w A g n c l hl hn hr hs hA lim h

set_option maxHeartbeats 4000000 in
set_option maxRecDepth 100000 in
theorem sortb (w : World) (A : Option Addr) (g n c : Nat) (l : List Nat) (hl : l.length = n) (hn : n ≤ 1000000) (hr : RB w g l) (hs : Hid (RiseB l)) (hA : 0 < n → A = some ⟨g, 0, none⟩) : Calls Tryz.prog 167 #[.slice A n c] w fun e w1 => e = .returned (.tuple #[]) ∧ Below w.heap.size w w1 := by
 refine Zn1 11 Tryz.func167 fun fr hf s0 => ?_
 refine Ze fun _ hK1 => ?_
 refine Zr [3, 4] hf ?_
 refine Zq2 0 2 hf ?_
 clear hf s0; intro fr1 hf sS
 refine Zx hK1 ?_
 refine rg ?_
 have bB := hf.B5 5 6 7 8 9
 iterate 3 refine Za ?_
 refine fp fun K Z => ?_
 go_simp
 try rw [Fact.wrap_u64 (by omega) (by omega)]
 apply Z.out; clear Z K
 refine fp fun K Z => ?_
 go_simp
 go_at_call 175; refine ((Tryz.bits_Len (n : Int) w (by omega) (by omega))).mono ?_; rintro e w1 ⟨rfl, hw1⟩
 subst w1
 obtain ⟨lim, hlim⟩ : ∃ x, Lib.bitLen (n : Int).toNat = x := ⟨_, rfl⟩
 rw [hlim]
 have HL := Lib.hid hlim; clear hlim
 try dsimp only
 apply Z.out; clear Z K
 refine fp fun K Z => ?_
 go_simp
 go_at_call 174; refine (pdqb w A g n c l hl hn hr hs hA lim (fun h => by rw [← HL.out]; exact bitLen_pos (by omega))).mono ?_; rintro e w2 ⟨rfl, hb2⟩
 try dsimp only
 apply Z.out; clear Z K
 refine Fact.nil (Zq0 hf ?_)
 clear hf sS bB; intro fr1 hf
 exact Fact.end0 rfl hf ⟨rfl, hb2⟩
end Dw
end Go.Proofs.YtcddnmhmcieebaaGreatDoor
