/- pack: bad. -/
import Derived.Test.YtdkbgbdgmihlmaaGreatDoorPPut
import Derived.WalkSmall
import Derived.Test.YtdkbgbdgmihlmaaGreatDoorTools
import Derived.Test.YtdkbgbdgmihlmaaGreatDoorPGet
namespace Go.Proofs.YtdkbgbdgmihlmaaGreatDoor
open Go.RowKit
set_option linter.unusedSimpArgs false
set_option linter.unusedVariables false
set_option linter.unnecessarySimpa false
namespace Dw

/-- a panic with a fault at a fresh place -/
def Pan (w w1 : World) (e : Ending) (code at_ : Int) : Prop := ∃ q, e = .panicked [{ v := .iface 89 (.pointer (some ⟨q, 0, none⟩)), recovered := false }] ∧ w.heap.size ≤ q ∧ w1.heap[q]? = some (.cells #[.int .i64 code, .int .i64 at_] 64 (0, 0)) ∧ Below w.heap.size w w1
theorem pan9 {P : Program} {fn : Func} {R : Ending → World → Prop} {c : List PanicEntry} {a : Act} {w : World} (hd : a.defers = []) (hR : R (.panicked c) w) : bodyPost P fn R (.panic c) a w := ⟨hd, hR⟩
set_option maxHeartbeats 4000000 in
set_option maxRecDepth 100000 in
theorem bad33 (w : World) (code at_ : Int) : Calls Tryz.prog 31 #[.int .i64 code, .int .i64 at_] w fun e w1 => Pan w w1 e code at_ := by
 refine calls_of_wp Tryz.func31 rfl ?_
 refine Fact.en 9 fun fr hf hT => ?_
 have s0 := hT 0 _ rfl
 have s1 := hT 1 _ rfl
 clear hT
 refine rg ?_
 have b4 := hf.b 4
 have b5 := hf.b 5
 have b6 := hf.b 6
 have b7 := hf.b 7
 have b8 := hf.b 8
 iterate 5 (refine fp fun K Z => ?_; go_simp; apply Z.out; clear Z K)
 refine fp fun K Z => ?_
 go_simp
 refine pan9 hf.defers ?_
 exact ⟨w.heap.size, rfl, Nat.le_refl _, heap_alloc_new w _, (Below.refl _ _).alloc (Nat.le_refl _) _⟩
end Dw
end Go.Proofs.YtdkbgbdgmihlmaaGreatDoor

namespace Go.Proofs.YtdkbgbdgmihlmaaGreatDoor
open Go.RowKit
set_option linter.unusedSimpArgs false
set_option linter.unusedVariables false
set_option linter.unnecessarySimpa false
namespace Dw

/-- what is read, and where -/
def RD (w : World) (g : Nat) (s : ByteArray) (i : Nat) : Prop := w.heap[g]? = some (.cells #[.string s, .int .i64 i] 96 (0, 0))
theorem RD.c0 {w : World} {g : Nat} {s : ByteArray} {i : Nat} (h : RD w g s i) : w.cell? ⟨g, 0, none⟩ = some (.string s) := by rw [cell_of_row _ _ 0 _ _ (0, 0) h]; rfl
theorem RD.c1 {w : World} {g : Nat} {s : ByteArray} {i : Nat} (h : RD w g s i) : w.cell? ⟨g, 1, none⟩ = some (.int .i64 i) := by rw [cell_of_row _ _ 1 _ _ (0, 0) h]; rfl
theorem RD.later {w w1 : World} {g : Nat} {s : ByteArray} {i : Nat} (h : RD w g s i) (hb : Below w.heap.size w w1) : RD w1 g s i := (hb.block g (heap_lt h)).trans h
/-- a byte read at a place -/
def charN (s : ByteArray) (i : Nat) : Nat × Nat × Nat := if i = s.size then (0, i, 3) else (at_ s i, i + 1, 0)
theorem charN_end {s : ByteArray} {i : Nat} (h : i = s.size) : charN s i = (0, i, 3) := by unfold charN; rw [if_pos h]
theorem charN_at {s : ByteArray} {i : Nat} (h : i < s.size) : charN s i = (at_ s i, i + 1, 0) := by unfold charN; rw [if_neg (by omega)]
def rangeN (lo hi n : Nat) : Nat := if n < lo ∨ hi < n then 17 else 0
theorem range_cases (n lo hi : Nat) : n < lo ∨ (lo ≤ n ∧ hi < n) ∨ (lo ≤ n ∧ n ≤ hi) := by omega
def magicAt (k : Nat) : Nat := [67, 83, 1].getD k 0
theorem magic_at {k : Nat} (h : k < 3) : at_ ⟨#[67, 83, 1]⟩ k = magicAt k := by
  rcases k with _ | _ | _ | k <;> first | rfl | omega
def kindN (k x : Nat) : Nat := if x = magicAt k then 0 else 6
set_option maxHeartbeats 4000000 in
set_option maxRecDepth 100000 in
theorem char69 (w : World) (c g : Nat) (s : ByteArray) (i : Nat) (hc : w.cell? ⟨c, 0, none⟩ = some (.pointer (some ⟨g, 0, none⟩))) (hr : RD w g s i) (hi : i ≤ s.size) (hsz : s.size ≤ 1000000000) : Calls Tryz.prog 68 #[.pointer (some ⟨c, 0, none⟩)] w fun e w1 => e = .returned (.tuple #[.int .u8 (charN s i).1, .int .i64 (charN s i).2.1, .int .i64 (charN s i).2.2]) ∧ Below w.heap.size w w1 := by
 refine calls_of_wp Tryz.func68 rfl ?_
 refine Fact.en 32 fun fr hf hT => ?_
 have s0 := hT 0 _ rfl
 clear hT
 have g0 := hr.c0; have g1 := hr.c1
 clear hr
 refine Fact.sq fun K1 hK1 => ?_
 refine rg ?_
 iterate 3 (refine fp fun K Z => ?_; go_simp; apply Z.out; clear Z K)
 refine Fact.z hf fun fr1 hf1 hT => ?_
 have hKp := hT 0
 simp (decide := true) only [Fact.G, reduceIte, s0] at hKp
 replace hf := hf1; clear hT hf1 s0
 have s0 := hKp; clear hKp
 refine nx (hK1 _ _ ?_)
 refine Fact.sq fun K2 hK2 => ?_
 refine Fact.sq fun K3 hK3 => ?_
 refine Stab.tb 32 fun hok => ?_
 apply Stab.tq 0 _ hf hok
 · (
 intro fr1 w1 hh hd hk K Z
 have s0 := Stab.O hh s0
 clear hd
 replace hc := cL hh.ext hc
 replace g0 := cL hh.ext g0
 replace g1 := cL hh.ext g1
 go_simp
 exact Stab.k Z)
 apply Stab.tq 1 _ hf hok
 · (
 intro fr1 w1 hh hd hk K Z
 have s4 := Stab.v 0 0 hd hk []
 clear hd
 go_simp
 exact Stab.k Z)
 apply Stab.tq 2 _ hf hok
 · (
 intro fr1 w1 hh hd hk K Z
 have s5 := Stab.v 1 0 hd hk []
 clear hd
 go_simp
 exact Stab.k Z)
 apply Stab.tq 3 _ hf hok
 · (
 intro fr1 w1 hh hd hk K Z
 have s6 := Stab.v 2 0 hd hk []
 clear hd
 replace hc := cL hh.ext hc
 replace g0 := cL hh.ext g0
 replace g1 := cL hh.ext g1
 go_simp
 exact Stab.k Z)
 apply Stab.tq 4 _ hf hok
 · (
 intro fr1 w1 hh hd hk K Z
 have s0 := Stab.O hh s0
 clear hd
 replace hc := cL hh.ext hc
 replace g0 := cL hh.ext g0
 replace g1 := cL hh.ext g1
 go_simp
 exact Stab.k Z)
 apply Stab.tq 5 _ hf hok
 · (
 intro fr1 w1 hh hd hk K Z
 have s8 := Stab.v 4 0 hd hk []
 clear hd
 go_simp
 exact Stab.k Z)
 apply Stab.tq 6 _ hf hok
 · (
 intro fr1 w1 hh hd hk K Z
 have s9 := Stab.v 5 0 hd hk []
 clear hd
 go_simp
 exact Stab.k Z)
 apply Stab.tq 7 _ hf hok
 · (
 intro fr1 w1 hh hd hk K Z
 have s10 := Stab.v 6 0 hd hk []
 clear hd
 replace hc := cL hh.ext hc
 replace g0 := cL hh.ext g0
 replace g1 := cL hh.ext g1
 go_simp
 exact Stab.k Z)
 apply Stab.tq 8 _ hf hok
 · (
 intro fr1 w1 hh hd hk K Z
 have s11 := Stab.v 7 0 hd hk []
 clear hd
 replace hc := cL hh.ext hc
 replace g0 := cL hh.ext g0
 replace g1 := cL hh.ext g1
 go_simp
 exact Stab.k Z)
 apply Stab.tq 9 _ hf hok
 · (
 intro fr1 w1 hh hd hk K Z
 have s7 := Stab.v 3 5 hd hk []
 have s12 := Stab.v 8 0 hd hk []
 clear hd
 go_simp
 exact Stab.k Z)
 refine Stab.tf hf hok fun fr1 w1 hh hg => ?_
 replace s0 := Stab.O hh s0
 have s13 := Stab.f 9 0 hg
 have hf1 := hh.fr hf
 have hx := hh.ext
 replace hc := cL hx hc
 replace g0 := cL hx g0
 replace g1 := cL hx g1
 clear hg hh hf hok
 have hf := hf1; clear hf1
 refine nx (hK3 _ _ ?_)
 refine Fact.cond_s s13 (fun hq => ?_) (fun hq => ?_)
 · (
 have hie : i = s.size := by have := beq_iff_eq.1 hq; omega
 have HIE := Lib.hid hie; clear hie hq
 have hbx := hx; clear hx
 refine Fact.sq fun K4 hK4 => ?_
 refine Stab.tb 32 fun hok => ?_
 apply Stab.tq 0 _ hf hok
 · (
 intro fr1 w1 hh hd hk K Z
 have s0 := Stab.O hh s0
 clear hd
 replace hc := cL hh.ext hc
 replace g0 := cL hh.ext g0
 replace g1 := cL hh.ext g1
 go_simp
 exact Stab.k Z)
 apply Stab.tq 1 _ hf hok
 · (
 intro fr1 w1 hh hd hk K Z
 have s14 := Stab.v 0 0 hd hk []
 clear hd
 go_simp
 exact Stab.k Z)
 apply Stab.tq 2 _ hf hok
 · (
 intro fr1 w1 hh hd hk K Z
 have s15 := Stab.v 1 0 hd hk []
 clear hd
 go_simp
 exact Stab.k Z)
 apply Stab.tq 3 _ hf hok
 · (
 intro fr1 w1 hh hd hk K Z
 have s16 := Stab.v 2 0 hd hk []
 clear hd
 replace hc := cL hh.ext hc
 replace g0 := cL hh.ext g0
 replace g1 := cL hh.ext g1
 go_simp
 exact Stab.k Z)
 apply Stab.tq 4 _ hf hok
 · (
 intro fr1 w1 hh hd hk K Z
 clear hd
 go_simp
 exact Stab.k Z)
 refine Stab.mN 5 3 1 hf hok [] ?_
 apply Stab.tq 6 _ hf hok
 · (
 intro fr1 w1 hh hd hk K Z
 clear hd
 go_simp
 exact Stab.k Z)
 refine Stab.tf hf hok fun fr1 w1 hh hg => ?_
 have s1 := Stab.f 4 2 hg
 have s2 := Stab.f 5 1 hg
 have s3 := Stab.f 6 0 hg
 have hf1 := hh.fr hf
 have hx := hh.ext
 replace hc := cL hx hc
 replace g0 := cL hx g0
 replace g1 := cL hx g1
 clear hg hh hf hok s0 s13
 have hf := hf1; clear hf1
 refine nx (hK4 _ _ ?_)
 refine wp_ret ?_
 refine Fact.then_ret ?_
 refine Fact.ret3 rfl hf s1 s2 s3 ⟨?_, hbx.trans (hx.mono hbx.size)⟩
 rw [charN_end HIE.out]
 rfl)
 · (
 have hlt : i < s.size := by have := beq_eq_false_iff_ne.1 hq; omega
 clear hq
 have hbx := hx; clear hx
 refine wp_skip ?_
 refine nx (hK2 _ _ ?_)
 refine Fact.sq fun K5 hK5 => ?_
 refine Stab.tb 32 fun hok => ?_
 apply Stab.tq 0 _ hf hok
 · (
 intro fr1 w1 hh hd hk K Z
 have s0 := Stab.O hh s0
 clear hd
 replace hc := cL hh.ext hc
 replace g0 := cL hh.ext g0
 replace g1 := cL hh.ext g1
 go_simp
 exact Stab.k Z)
 apply Stab.tq 1 _ hf hok
 · (
 intro fr1 w1 hh hd hk K Z
 have s18 := Stab.v 0 0 hd hk []
 clear hd
 go_simp
 exact Stab.k Z)
 apply Stab.tq 2 _ hf hok
 · (
 intro fr1 w1 hh hd hk K Z
 have s19 := Stab.v 1 0 hd hk []
 clear hd
 go_simp
 exact Stab.k Z)
 apply Stab.tq 3 _ hf hok
 · (
 intro fr1 w1 hh hd hk K Z
 have s20 := Stab.v 2 0 hd hk []
 clear hd
 replace hc := cL hh.ext hc
 replace g0 := cL hh.ext g0
 replace g1 := cL hh.ext g1
 go_simp
 exact Stab.k Z)
 apply Stab.tq 4 _ hf hok
 · (
 intro fr1 w1 hh hd hk K Z
 have s0 := Stab.O hh s0
 clear hd
 replace hc := cL hh.ext hc
 replace g0 := cL hh.ext g0
 replace g1 := cL hh.ext g1
 go_simp
 exact Stab.k Z)
 apply Stab.tq 5 _ hf hok
 · (
 intro fr1 w1 hh hd hk K Z
 have s22 := Stab.v 4 0 hd hk []
 clear hd
 go_simp
 exact Stab.k Z)
 apply Stab.tq 6 _ hf hok
 · (
 intro fr1 w1 hh hd hk K Z
 have s23 := Stab.v 5 0 hd hk []
 clear hd
 go_simp
 exact Stab.k Z)
 apply Stab.tq 7 _ hf hok
 · (
 intro fr1 w1 hh hd hk K Z
 have s24 := Stab.v 6 0 hd hk []
 clear hd
 replace hc := cL hh.ext hc
 replace g0 := cL hh.ext g0
 replace g1 := cL hh.ext g1
 go_simp
 exact Stab.k Z)
 apply Stab.tq 8 _ hf hok
 · (
 intro fr1 w1 hh hd hk K Z
 have s21 := Stab.v 3 4 hd hk []
 have s25 := Stab.v 7 0 hd hk []
 clear hd
 replace hc := cL hh.ext hc
 replace g0 := cL hh.ext g0
 replace g1 := cL hh.ext g1
 go_simp
 try rw [dif_pos (by omega)]
 exact Stab.k Z)
 apply Stab.tq 9 _ hf hok
 · (
 intro fr1 w1 hh hd hk K Z
 have s0 := Stab.O hh s0
 clear hd
 replace hc := cL hh.ext hc
 replace g0 := cL hh.ext g0
 replace g1 := cL hh.ext g1
 go_simp
 exact Stab.k Z)
 apply Stab.tq 10 _ hf hok
 · (
 intro fr1 w1 hh hd hk K Z
 have s27 := Stab.v 9 0 hd hk []
 clear hd
 go_simp
 exact Stab.k Z)
 apply Stab.tq 11 _ hf hok
 · (
 intro fr1 w1 hh hd hk K Z
 have s28 := Stab.v 10 0 hd hk []
 clear hd
 go_simp
 exact Stab.k Z)
 apply Stab.tq 12 _ hf hok
 · (
 intro fr1 w1 hh hd hk K Z
 have s29 := Stab.v 11 0 hd hk []
 clear hd
 replace hc := cL hh.ext hc
 replace g0 := cL hh.ext g0
 replace g1 := cL hh.ext g1
 go_simp
 exact Stab.k Z)
 apply Stab.tq 13 _ hf hok
 · (
 intro fr1 w1 hh hd hk K Z
 have s30 := Stab.v 12 0 hd hk []
 clear hd
 go_simp
 try simp (disch := omega) only [Fact.W]
 exact Stab.k Z)
 refine Stab.mN 14 8 5 hf hok [] ?_
 refine Stab.mN 15 13 1 hf hok [] ?_
 apply Stab.tq 16 _ hf hok
 · (
 intro fr1 w1 hh hd hk K Z
 clear hd
 go_simp
 exact Stab.k Z)
 refine Stab.tf hf hok fun fr1 w1 hh hg => ?_
 have s1 := Stab.f 14 2 hg
 have s2 := Stab.f 15 1 hg
 have s3 := Stab.f 16 0 hg
 have hf1 := hh.fr hf
 have hx := hh.ext
 replace hc := cL hx hc
 replace g0 := cL hx g0
 replace g1 := cL hx g1
 clear hg hh hf hok s0 s13
 have hf := hf1; clear hf1
 refine nx (hK5 _ _ ?_)
 refine wp_ret ?_
 refine Fact.ret3 rfl hf s1 s2 s3 ⟨?_, hbx.trans (hx.mono hbx.size)⟩
 rw [charN_at hlt]
 simp [at_get hlt])
set_option maxHeartbeats 4000000 in
set_option maxRecDepth 100000 in
theorem num71 (w : World) (c g : Nat) (s : ByteArray) (i : Nat) (hc : w.cell? ⟨c, 0, none⟩ = some (.pointer (some ⟨g, 0, none⟩))) (hr : RD w g s i) (hi : i ≤ s.size) (hsz : s.size ≤ 1000000000) : Calls Tryz.prog 70 #[.pointer (some ⟨c, 0, none⟩)] w fun e w1 => e = .returned (.tuple #[.int .u64 (getN (wl s) i).1, .int .i64 (getN (wl s) i).2.1, .int .i64 (getN (wl s) i).2.2]) ∧ Below w.heap.size w w1 := by
 refine calls_of_wp Tryz.func70 rfl ?_
 refine Fact.en 16 fun fr hf hT => ?_
 have s0 := hT 0 _ rfl
 clear hT
 have g0 := hr.c0; have g1 := hr.c1
 clear hr
 refine Fact.sq fun K1 hK1 => ?_
 refine rg ?_
 iterate 3 (refine fp fun K Z => ?_; go_simp; apply Z.out; clear Z K)
 refine Fact.z hf fun fr1 hf1 hT => ?_
 have hKp := hT 0
 simp (decide := true) only [Fact.G, reduceIte, s0] at hKp
 replace hf := hf1; clear hT hf1 s0
 have s0 := hKp; clear hKp
 refine nx (hK1 _ _ ?_)
 refine Fact.sq fun K2 hK2 => ?_
 refine Stab.tb 16 fun hok => ?_
 apply Stab.tq 0 _ hf hok
 · (
 intro fr1 w1 hh hd hk K Z
 have s0 := Stab.O hh s0
 clear hd
 replace hc := cL hh.ext hc
 replace g0 := cL hh.ext g0
 replace g1 := cL hh.ext g1
 go_simp
 exact Stab.k Z)
 apply Stab.tq 1 _ hf hok
 · (
 intro fr1 w1 hh hd hk K Z
 have s4 := Stab.v 0 0 hd hk []
 clear hd
 go_simp
 exact Stab.k Z)
 apply Stab.tq 2 _ hf hok
 · (
 intro fr1 w1 hh hd hk K Z
 have s5 := Stab.v 1 0 hd hk []
 clear hd
 go_simp
 exact Stab.k Z)
 apply Stab.tq 3 _ hf hok
 · (
 intro fr1 w1 hh hd hk K Z
 have s6 := Stab.v 2 0 hd hk []
 clear hd
 replace hc := cL hh.ext hc
 replace g0 := cL hh.ext g0
 replace g1 := cL hh.ext g1
 go_simp
 exact Stab.k Z)
 apply Stab.tq 4 _ hf hok
 · (
 intro fr1 w1 hh hd hk K Z
 have s0 := Stab.O hh s0
 clear hd
 replace hc := cL hh.ext hc
 replace g0 := cL hh.ext g0
 replace g1 := cL hh.ext g1
 go_simp
 exact Stab.k Z)
 apply Stab.tq 5 _ hf hok
 · (
 intro fr1 w1 hh hd hk K Z
 have s8 := Stab.v 4 0 hd hk []
 clear hd
 go_simp
 exact Stab.k Z)
 apply Stab.tq 6 _ hf hok
 · (
 intro fr1 w1 hh hd hk K Z
 have s9 := Stab.v 5 0 hd hk []
 clear hd
 go_simp
 exact Stab.k Z)
 apply Stab.tq 7 _ hf hok
 · (
 intro fr1 w1 hh hd hk K Z
 have s10 := Stab.v 6 0 hd hk []
 clear hd
 replace hc := cL hh.ext hc
 replace g0 := cL hh.ext g0
 replace g1 := cL hh.ext g1
 go_simp
 exact Stab.k Z)
 apply Stab.tq 8 _ hf hok
 · (
 intro fr1 w1 hh hd hk K Z
 have s7 := Stab.v 3 4 hd hk []
 have s11 := Stab.v 7 0 hd hk []
 clear hd
 replace hc := cL hh.ext hc
 replace g0 := cL hh.ext g0
 replace g1 := cL hh.ext g1
 go_simp
 go_at_call 71; refine (get72 _ s i hi hsz).mono ?_; rintro e w2 ⟨rfl, hb2⟩
 exact Z.out _ rfl _ _ hb2 rfl)
 apply Stab.tq 9 _ hf hok
 · (
 intro fr1 w1 hh hd hk K Z
 have s12 := Stab.v 8 0 hd hk []
 clear hd
 go_simp
 exact Stab.k Z)
 apply Stab.tq 10 _ hf hok
 · (
 intro fr1 w1 hh hd hk K Z
 have s12 := Stab.v 8 1 hd hk []
 clear hd
 go_simp
 exact Stab.k Z)
 apply Stab.tq 11 _ hf hok
 · (
 intro fr1 w1 hh hd hk K Z
 have s12 := Stab.v 8 2 hd hk []
 clear hd
 go_simp
 exact Stab.k Z)
 refine Stab.mN 12 9 2 hf hok [] ?_
 refine Stab.mN 13 10 2 hf hok [] ?_
 refine Stab.mN 14 11 2 hf hok [] ?_
 refine Stab.tf hf hok fun fr1 w1 hh hg => ?_
 have s1 := Stab.f 12 2 hg
 have s2 := Stab.f 13 1 hg
 have s3 := Stab.f 14 0 hg
 have hf1 := hh.fr hf
 have hx := hh.ext
 replace hc := cL hx hc
 replace g0 := cL hx g0
 replace g1 := cL hx g1
 clear hg hh hf hok s0
 have hf := hf1; clear hf1
 refine nx (hK2 _ _ ?_)
 refine wp_ret ?_
 exact Fact.ret3 rfl hf s1 s2 s3 ⟨rfl, hx⟩
set_option maxHeartbeats 4000000 in
set_option maxRecDepth 100000 in
theorem num73 (w : World) (n lo hi p q : Nat) (hp : w.cell? ⟨p, 0, none⟩ = some (.int .u64 lo)) (hq : w.cell? ⟨q, 0, none⟩ = some (.int .u64 hi)) : Calls Tryz.prog 72 #[.int .u64 n, .pointer (some ⟨p, 0, none⟩), .pointer (some ⟨q, 0, none⟩)] w fun e w1 => e = .returned (.int .i64 (rangeN lo hi n : Nat)) ∧ Below w.heap.size w w1 := by
 refine calls_of_wp Tryz.func72 rfl ?_
 refine Fact.en 13 fun fr hf hT => ?_
 have s0 := hT 0 _ rfl
 have s1 := hT 1 _ rfl
 have s2 := hT 2 _ rfl
 clear hT
 rcases range_cases n lo hi with hcs | hcs | hcs
 · (
 have q1 : decide (n < lo) = true := decide_eq_true (by omega)
 have HC := Lib.hid hcs; clear hcs
 refine Fact.sq fun K1 hK1 => ?_
 refine rg ?_
 refine fp fun K Z => ?_
 go_simp
 apply Z.out; clear Z K
 refine Fact.z hf fun fr1 hf1 hT => ?_
 have hKp : _ ∧ _ ∧ _ := ⟨hT 0, hT 1, hT 2⟩
 simp (decide := true) only [Fact.G, reduceIte, s0, s1, s2] at hKp
 replace hf := hf1; clear hT hf1 s0 s1 s2
 obtain ⟨s0, s1, s2⟩ := hKp
 refine nx (hK1 _ _ ?_)
 refine Fact.sq fun K2 hK2 => ?_
 refine Fact.sq fun K3 hK3 => ?_
 refine rg ?_
 have b5 := hf.b 5
 have b6 := hf.b 6
 have b7 := hf.b 7
 have b8 := hf.b 8
 have b9 := hf.b 9
 have b10 := hf.b 10
 have b11 := hf.b 11
 iterate 4 (refine fp fun K Z => ?_; go_simp; apply Z.out; clear Z K)
 refine sk 3 8 false ?_ ?_
 · (
 simp (decide := true) only [Fact.G, reduceIte, hf.size, q1, Fact.N])
 refine sk 3 8 false ?_ ?_
 · (
 simp (decide := true) only [Fact.G, reduceIte, hf.size, q1, Fact.N])
 refine sk 3 8 false ?_ ?_
 · (
 simp (decide := true) only [Fact.G, reduceIte, hf.size, q1, Fact.N])
 refine fp fun K Z => ?_
 go_simp
 apply Z.out; clear Z K
 refine Fact.z hf fun fr1 hf1 hT => ?_
 have hKp := hT 12
 simp (decide := true) only [Fact.G, hf.size, reduceIte] at hKp
 replace hf := hf1; clear hT hf1 s0 s1 s2 b5 b6 b7 b8 b9 b10 b11
 have s12 := hKp; clear hKp
 refine nx (hK3 _ _ ?_)
 refine Fact.cond_t s12 ?_
 refine Fact.sq fun K4 hK4 => ?_
 refine rg ?_
 refine fp fun K Z => ?_
 go_simp
 apply Z.out; clear Z K
 refine Fact.z hf fun fr1 hf1 hT => ?_
 have hKp := hT 4
 simp (decide := true) only [Fact.G, hf.size, reduceIte] at hKp
 replace hf := hf1; clear hT hf1 s12
 have s4 := hKp; clear hKp
 refine nx (hK4 _ _ ?_)
 refine wp_ret ?_
 refine Fact.then_ret ?_
 refine Fact.ret1 rfl hf s4 ⟨?_, Below.refl _ _⟩
 have := HC.out
 rw [rangeN, if_pos (by omega)]
 rfl)
 · (
 have q1 : decide (n < lo) = false := decide_eq_false (by omega)
 have q2 : decide (hi < n) = true := decide_eq_true (by omega)
 have HC := Lib.hid hcs; clear hcs
 refine Fact.sq fun K5 hK5 => ?_
 refine rg ?_
 refine fp fun K Z => ?_
 go_simp
 apply Z.out; clear Z K
 refine Fact.z hf fun fr1 hf1 hT => ?_
 have hKp : _ ∧ _ ∧ _ := ⟨hT 0, hT 1, hT 2⟩
 simp (decide := true) only [Fact.G, reduceIte, s0, s1, s2] at hKp
 replace hf := hf1; clear hT hf1 s0 s1 s2
 obtain ⟨s0, s1, s2⟩ := hKp
 refine nx (hK5 _ _ ?_)
 refine Fact.sq fun K6 hK6 => ?_
 refine Fact.sq fun K7 hK7 => ?_
 refine rg ?_
 have b5 := hf.b 5
 have b6 := hf.b 6
 have b7 := hf.b 7
 have b8 := hf.b 8
 have b9 := hf.b 9
 have b10 := hf.b 10
 have b11 := hf.b 11
 iterate 4 (refine fp fun K Z => ?_; go_simp; apply Z.out; clear Z K)
 refine og 3 8 false ?_ fun K Z => ?_
 · (
 simp (decide := true) only [Fact.G, reduceIte, hf.size, q1, q2])
 go_simp
 apply Z.out; clear Z K
 refine og 3 8 false ?_ fun K Z => ?_
 · (
 simp (decide := true) only [Fact.G, reduceIte, hf.size, q1, q2])
 go_simp
 apply Z.out; clear Z K
 refine og 3 8 false ?_ fun K Z => ?_
 · (
 simp (decide := true) only [Fact.G, reduceIte, hf.size, q1, q2])
 go_simp
 apply Z.out; clear Z K
 refine fp fun K Z => ?_
 go_simp
 apply Z.out; clear Z K
 refine Fact.z hf fun fr1 hf1 hT => ?_
 have hKp := hT 12
 simp (decide := true) only [Fact.G, hf.size, reduceIte] at hKp
 replace hf := hf1; clear hT hf1 s0 s1 s2 b5 b6 b7 b8 b9 b10 b11
 have s12 := hKp; clear hKp
 refine nx (hK7 _ _ ?_)
 refine Fact.cond_t s12 ?_
 refine Fact.sq fun K8 hK8 => ?_
 refine rg ?_
 refine fp fun K Z => ?_
 go_simp
 apply Z.out; clear Z K
 refine Fact.z hf fun fr1 hf1 hT => ?_
 have hKp := hT 4
 simp (decide := true) only [Fact.G, hf.size, reduceIte] at hKp
 replace hf := hf1; clear hT hf1 s12
 have s4 := hKp; clear hKp
 refine nx (hK8 _ _ ?_)
 refine wp_ret ?_
 refine Fact.then_ret ?_
 refine Fact.ret1 rfl hf s4 ⟨?_, Below.refl _ _⟩
 have := HC.out
 rw [rangeN, if_pos (by omega)]
 rfl)
 · (
 have q1 : decide (n < lo) = false := decide_eq_false (by omega)
 have q2 : decide (hi < n) = false := decide_eq_false (by omega)
 have HC := Lib.hid hcs; clear hcs
 refine Fact.sq fun K9 hK9 => ?_
 refine rg ?_
 refine fp fun K Z => ?_
 go_simp
 apply Z.out; clear Z K
 refine Fact.z hf fun fr1 hf1 hT => ?_
 have hKp : _ ∧ _ ∧ _ := ⟨hT 0, hT 1, hT 2⟩
 simp (decide := true) only [Fact.G, reduceIte, s0, s1, s2] at hKp
 replace hf := hf1; clear hT hf1 s0 s1 s2
 obtain ⟨s0, s1, s2⟩ := hKp
 refine nx (hK9 _ _ ?_)
 refine Fact.sq fun K10 hK10 => ?_
 refine Fact.sq fun K11 hK11 => ?_
 refine rg ?_
 have b5 := hf.b 5
 have b6 := hf.b 6
 have b7 := hf.b 7
 have b8 := hf.b 8
 have b9 := hf.b 9
 have b10 := hf.b 10
 have b11 := hf.b 11
 iterate 4 (refine fp fun K Z => ?_; go_simp; apply Z.out; clear Z K)
 refine og 3 8 false ?_ fun K Z => ?_
 · (
 simp (decide := true) only [Fact.G, reduceIte, hf.size, q1, q2])
 go_simp
 apply Z.out; clear Z K
 refine og 3 8 false ?_ fun K Z => ?_
 · (
 simp (decide := true) only [Fact.G, reduceIte, hf.size, q1, q2])
 go_simp
 apply Z.out; clear Z K
 refine og 3 8 false ?_ fun K Z => ?_
 · (
 simp (decide := true) only [Fact.G, reduceIte, hf.size, q1, q2])
 go_simp
 apply Z.out; clear Z K
 refine fp fun K Z => ?_
 go_simp
 apply Z.out; clear Z K
 refine Fact.z hf fun fr1 hf1 hT => ?_
 have hKp := hT 12
 simp (decide := true) only [Fact.G, hf.size, reduceIte] at hKp
 replace hf := hf1; clear hT hf1 s0 s1 s2 b5 b6 b7 b8 b9 b10 b11
 have s12 := hKp; clear hKp
 refine nx (hK11 _ _ ?_)
 refine Fact.cond_f s12 ?_
 refine wp_skip ?_
 refine nx (hK10 _ _ ?_)
 refine Fact.sq fun K12 hK12 => ?_
 refine rg ?_
 refine fp fun K Z => ?_
 go_simp
 apply Z.out; clear Z K
 refine Fact.z hf fun fr1 hf1 hT => ?_
 have hKp := hT 4
 simp (decide := true) only [Fact.G, hf.size, reduceIte] at hKp
 replace hf := hf1; clear hT hf1 s12
 have s4 := hKp; clear hKp
 refine nx (hK12 _ _ ?_)
 refine wp_ret ?_
 refine Fact.ret1 rfl hf s4 ⟨?_, Below.refl _ _⟩
 have := HC.out
 rw [rangeN, if_neg (by omega)]
 rfl)
set_option maxHeartbeats 4000000 in
set_option maxRecDepth 100000 in
theorem state74 (w : World) (x : Nat) : Calls Tryz.prog 73 #[.int .u8 x] w fun e w1 => e = .returned (.int .i64 ((0 : Nat) : Int)) ∧ Below w.heap.size w w1 := by
 refine calls_of_wp Tryz.func73 rfl ?_
 refine Fact.en 3 fun fr hf hT => ?_
 have s0 := hT 0 _ rfl
 clear hT
 refine Fact.sq fun K1 hK1 => ?_
 refine rg ?_
 refine fp fun K Z => ?_
 go_simp
 apply Z.out; clear Z K
 refine Fact.z hf fun fr1 hf1 hT => ?_
 replace hf := hf1; clear hT hf1 s0
 refine nx (hK1 _ _ ?_)
 refine Fact.sq fun K2 hK2 => ?_
 refine rg ?_
 refine fp fun K Z => ?_
 go_simp
 apply Z.out; clear Z K
 refine Fact.z hf fun fr1 hf1 hT => ?_
 have hKp := hT 2
 simp (decide := true) only [Fact.G, hf.size, reduceIte] at hKp
 replace hf := hf1; clear hT hf1
 have s2 := hKp; clear hKp
 refine nx (hK2 _ _ ?_)
 refine wp_ret ?_
 exact Fact.ret1 rfl hf s2 ⟨rfl, Below.refl _ _⟩
set_option maxHeartbeats 4000000 in
set_option maxRecDepth 100000 in
theorem all50 (w : World) (x k p : Nat) (hk : k < 3) (hp : w.cell? ⟨p, 0, none⟩ = some (.int .i64 k)) : Calls Tryz.prog 48 #[.int .u8 x, .pointer (some ⟨p, 0, none⟩)] w fun e w1 => e = .returned (.int .i64 (kindN k x : Nat)) ∧ Below w.heap.size w w1 := by
 refine calls_of_wp Tryz.func48 rfl ?_
 refine Fact.en 8 fun fr hf hT => ?_
 have s0 := hT 0 _ rfl
 have s1 := hT 1 _ rfl
 clear hT
 obtain ⟨m, hm⟩ : ∃ x, magicAt k = x := ⟨_, rfl⟩
 have hat : ∀ h : k < (ByteArray.mk #[67, 83, 1]).size, ((ByteArray.mk #[67, 83, 1])[k]'h).toNat = m := fun h => by rw [← hm, ← magic_at hk, at_get h]
 have HM := Lib.hid hm; clear hm
 refine Fact.sq fun K1 hK1 => ?_
 refine rg ?_
 refine fp fun K Z => ?_
 go_simp
 apply Z.out; clear Z K
 refine Fact.z hf fun fr1 hf1 hT => ?_
 have hKp : _ ∧ _ := ⟨hT 0, hT 1⟩
 simp (decide := true) only [Fact.G, reduceIte, s0, s1] at hKp
 replace hf := hf1; clear hT hf1 s0 s1
 obtain ⟨s0, s1⟩ := hKp
 refine nx (hK1 _ _ ?_)
 refine Fact.sq fun K2 hK2 => ?_
 refine Fact.sq fun K3 hK3 => ?_
 refine rg ?_
 have b4 := hf.b 4
 have b5 := hf.b 5
 have b6 := hf.b 6
 iterate 2 (refine fp fun K Z => ?_; go_simp; apply Z.out; clear Z K)
 refine fp fun K Z => ?_
 go_simp
 rw [if_pos (by omega)]
 apply Z.out; clear Z K
 refine fp fun K Z => ?_
 go_simp
 apply Z.out; clear Z K
 refine Fact.z hf fun fr1 hf1 hT => ?_
 have hKp := hT 7
 simp (decide := true) only [Fact.G, hf.size, reduceIte] at hKp
 replace hf := hf1; clear hT hf1 s0 s1 b4 b5 b6
 have s7 := hKp; clear hKp
 refine nx (hK3 _ _ ?_)
 refine Fact.cond_s s7 (fun hq => ?_) (fun hq => ?_)
 · (
 refine Fact.sq fun K4 hK4 => ?_
 refine rg ?_
 refine fp fun K Z => ?_
 go_simp
 apply Z.out; clear Z K
 refine Fact.z hf fun fr1 hf1 hT => ?_
 have hKp := hT 3
 simp (decide := true) only [Fact.G, hf.size, reduceIte] at hKp
 replace hf := hf1; clear hT hf1 s7
 have s3 := hKp; clear hKp
 refine nx (hK4 _ _ ?_)
 refine wp_ret ?_
 refine Fact.then_ret ?_
 refine Fact.ret1 rfl hf s3 ⟨?_, Below.refl _ _⟩
 unfold kindN
 rw [HM.out, if_neg (by intro e; subst e; simp at hq)]
 rfl)
 · (
 refine wp_skip ?_
 refine nx (hK2 _ _ ?_)
 refine Fact.sq fun K5 hK5 => ?_
 refine rg ?_
 refine fp fun K Z => ?_
 go_simp
 apply Z.out; clear Z K
 refine Fact.z hf fun fr1 hf1 hT => ?_
 have hKp := hT 3
 simp (decide := true) only [Fact.G, hf.size, reduceIte] at hKp
 replace hf := hf1; clear hT hf1 s7
 have s3 := hKp; clear hKp
 refine nx (hK5 _ _ ?_)
 refine wp_ret ?_
 refine Fact.ret1 rfl hf s3 ⟨?_, Below.refl _ _⟩
 unfold kindN
 rw [HM.out, if_pos (by have := (by simpa using hq : (x : Int) = m); omega)]
 rfl)
end Dw
end Go.Proofs.YtdkbgbdgmihlmaaGreatDoor
