/- pack: thing. -/
import Derived.Test.YtdkbgbdgmihlmaaGreatDoorQC
import Derived.Test.YtdkbgbdgmihlmaaGreatDoorTools
namespace Go.Proofs.YtdkbgbdgmihlmaaGreatDoor
open Go.RowKit
set_option linter.unusedSimpArgs false
set_option linter.unusedVariables false
set_option linter.unnecessarySimpa false
namespace Dw

theorem Pan.via {w w1 w2 : World} {e : Ending} {c a : Int} (hb : Below w.heap.size w w2) (h : Pan w2 w1 e c a) : Pan w w1 e c a := by
  obtain ⟨q, h1, h2, h3, h4⟩ := h
  exact ⟨q, h1, Nat.le_trans hb.size h2, h3, hb.trans (h4.mono hb.size)⟩
/-- what a reading of one thing ends in -/
def ThR (w w1 : World) (e : Ending) (k : IntKind) (r : Nat × Nat × Nat) (c2 i g : Nat) (s : ByteArray) : Prop :=
  if r.2.2 ≠ 0 then Pan w w1 e r.2.2 i else if c2 ≠ 0 then Pan w w1 e c2 i else e = .returned (.int k r.1) ∧ RD w1 g s r.2.1 ∧ But (fun k => k = g) w w1
theorem ThR.one {w w1 : World} {e : Ending} {k : IntKind} {x ny c1 c2 i g : Nat} {s : ByteArray} (hc : c1 ≠ 0) (h : Pan w w1 e c1 i) : ThR w w1 e k (x, ny, c1) c2 i g s := by
  unfold ThR
  rw [if_pos hc]
  exact h
theorem ThR.two {w w1 : World} {e : Ending} {k : IntKind} {x ny c2 i g : Nat} {s : ByteArray} (hc : c2 ≠ 0) (h : Pan w w1 e c2 i) : ThR w w1 e k (x, ny, 0) c2 i g s := by
  unfold ThR
  rw [if_neg (by simp), if_pos hc]
  exact h
theorem ThR.ok {w w1 : World} {k : IntKind} {x ny i g : Nat} {s : ByteArray} (h : RD w1 g s ny) (hb : But (fun k => k = g) w w1) : ThR w w1 (.returned (.int k x)) k (x, ny, 0) 0 i g s := by
  unfold ThR
  rw [if_neg (by simp), if_neg (by simp)]
  exact ⟨rfl, h, hb⟩
set_option maxHeartbeats 4000000 in
set_option maxRecDepth 100000 in
theorem thing68 (w : World) (c g : Nat) (s : ByteArray) (i : Nat) (hc : w.cell? ⟨c, 0, none⟩ = some (.pointer (some ⟨g, 0, none⟩))) (hr : RD w g s i) (hi : i ≤ s.size) (hsz : s.size ≤ 1000000000) (fq : FuncId) (capq : Array Value) (c2 : Nat) (hcf : ∀ (xs : Array Value) (w1 : World), (callFunc fq xs).run Tryz.prog w1 = .ok (.enter fq xs) w1) (hq9 : ∀ w1, Below w.heap.size w w1 → (charN s i).2.2 = 0 → Calls Tryz.prog fq (#[.int .u8 (charN s i).1] ++ capq) w1 fun e w2 => e = .returned (.int .i64 c2) ∧ Below w1.heap.size w1 w2) : Calls Tryz.prog 67 #[.pointer (some ⟨g, 0, none⟩), .func (.func 68) #[] #[.pointer (some ⟨c, 0, none⟩)], .func (.func fq) #[] capq] w fun e w1 => ThR w w1 e .u8 (charN s i) c2 i g s := by
 refine calls_of_wp Tryz.func67 rfl ?_
 refine Fact.en 40 fun fr hf hT => ?_
 have s0 := hT 0 _ rfl
 have s1 := hT 1 _ rfl
 have s2 := hT 2 _ rfl
 clear hT
 obtain ⟨⟨x, ny, c1⟩, hrr⟩ : ∃ r, charN s i = r := ⟨_, rfl⟩
 rw [hrr] at hq9 ⊢
 have g1 := hr.c1
 have hgl := heap_lt hr
 refine Fact.sq fun K1 hK1 => ?_
 refine rg ?_
 refine fp fun K Z => ?_
 go_simp
 apply Z.out; clear Z K
 refine Fact.z hf fun fr1 hf1 hT => ?_
 have hKp : _ ∧ _ ∧ _ := ⟨hT 0, hT 1, hT 2⟩
 simp (decide := true) only [Fact.G, reduceIte, s0, s1, s2] at hKp
 replace hf := hf1; clear hT hf1 s0 s1 s2
 obtain ⟨s0, s1, s2⟩ := hKp
 refine nx (hK1 _ _ ?_)
 refine Fact.sq fun K2 hK2 => ?_
 refine rg ?_
 have b11 := hf.b 11
 have b12 := hf.b 12
 have b10 := hf.b 10
 have b13 := hf.b 13
 have b14 := hf.b 14
 have b15 := hf.b 15
 refine fp fun K Z => ?_
 go_simp
 apply Z.out; clear Z K
 refine fp fun K Z => ?_
 go_simp
 go_at_call 68; refine (char69 w c g s i hc hr hi hsz).mono ?_; rintro e w2 ⟨rfl, hb2⟩
 rw [hrr]
 try dsimp only
 apply Z.out; clear Z K
 iterate 7 (refine fp fun K Z => ?_; go_simp; apply Z.out; clear Z K)
 refine Fact.z hf fun fr1 hf1 hT => ?_
 have hKp : _ ∧ _ ∧ _ ∧ _ ∧ _ := ⟨hT 0, hT 2, hT 7, hT 8, hT 9⟩
 simp (decide := true) only [Fact.G, hf.size, reduceIte, s0, s2] at hKp
 replace hf := hf1; clear hT hf1 s0 s1 s2 b11 b12 b10 b13 b14 b15
 obtain ⟨s0, s2, s7, s8, s9⟩ := hKp
 have g2 := cL hb2 g1
 have hr2 := hr.later hb2
 clear hr g1 hc
 refine nx (hK2 _ _ ?_)
 refine Fact.sq fun K3 hK3 => ?_
 refine Fact.sq fun K4 hK4 => ?_
 refine rg ?_
 have b16 := hf.b 16
 iterate 2 (refine fp fun K Z => ?_; go_simp; apply Z.out; clear Z K)
 refine Fact.z hf fun fr1 hf1 hT => ?_
 have hKp : _ ∧ _ ∧ _ ∧ _ ∧ _ ∧ _ := ⟨hT 0, hT 2, hT 7, hT 8, hT 9, hT 17⟩
 simp (decide := true) only [Fact.G, hf.size, reduceIte, s0, s2, s7, s8, s9] at hKp
 replace hf := hf1; clear hT hf1 s0 s2 s7 s8 s9 b16
 obtain ⟨s0, s2, s7, s8, s9, s17⟩ := hKp
 refine nx (hK4 _ _ ?_)
 refine Fact.cond_s s17 (fun h1 => ?_) (fun h1 => ?_)
 · (
 have hne : c1 ≠ 0 := by simpa using h1
 clear h1
 refine rg ?_
 have b18 := hf.b 18
 have b19 := hf.b 19
 have b20 := hf.b 20
 have b21 := hf.b 21
 have b22 := hf.b 22
 iterate 5 (refine fp fun K Z => ?_; go_simp; apply Z.out; clear Z K)
 refine fp fun K Z => ?_
 go_simp
 go_at_call 31; refine (bad33 w2 c1 i).mono ?_; rintro e w3 ⟨q, rfl, hq1, hq2, hq3⟩
 try dsimp only
 refine pan9 hf.defers (ThR.one hne (Pan.via hb2 ⟨q, rfl, hq1, hq2, hq3⟩)))
 · (
 have hz : c1 = 0 := by simpa using h1
 clear h1
 subst hz
 refine wp_skip ?_
 refine nx (hK3 _ _ ?_)
 refine Fact.sq fun K5 hK5 => ?_
 refine Fact.sq fun K6 hK6 => ?_
 refine rg ?_
 have b24 := hf.b 24
 have b25 := hf.b 25
 have b26 := hf.b 26
 iterate 2 (refine fp fun K Z => ?_; go_simp; apply Z.out; clear Z K)
 refine fp fun K Z => ?_
 go_simp
 try rw [hcf]
 refine (hq9 w2 hb2 rfl).mono ?_
 rintro e w3 ⟨rfl, hb3⟩
 try dsimp only
 apply Z.out; clear Z K
 refine fp fun K Z => ?_
 go_simp
 apply Z.out; clear Z K
 refine Fact.z hf fun fr1 hf1 hT => ?_
 have hKp : _ ∧ _ ∧ _ ∧ _ := ⟨hT 0, hT 7, hT 8, hT 9⟩
 simp (decide := true) only [Fact.G, hf.size, reduceIte, s0, s7, s8] at hKp
 replace hf := hf1; clear hT hf1 s0 s2 s7 s8 s9 s17 b24 b25 b26
 obtain ⟨s0, s7, s8, s9⟩ := hKp
 have g3 := cL hb3 g2
 have hr3 := hr2.later hb3
 have hb23 := hb2.trans (hb3.mono hb2.size)
 clear hr2 g2
 refine nx (hK6 _ _ ?_)
 refine Fact.sq fun K7 hK7 => ?_
 refine rg ?_
 have b27 := hf.b 27
 iterate 2 (refine fp fun K Z => ?_; go_simp; apply Z.out; clear Z K)
 refine Fact.z hf fun fr1 hf1 hT => ?_
 have hKp : _ ∧ _ ∧ _ ∧ _ ∧ _ := ⟨hT 0, hT 7, hT 8, hT 9, hT 28⟩
 simp (decide := true) only [Fact.G, hf.size, reduceIte, s0, s7, s8, s9] at hKp
 replace hf := hf1; clear hT hf1 s0 s7 s8 s9 b27
 obtain ⟨s0, s7, s8, s9, s28⟩ := hKp
 refine nx (hK7 _ _ ?_)
 refine Fact.cond_s s28 (fun h2 => ?_) (fun h2 => ?_)
 · (
 have hne : c2 ≠ 0 := by simpa using h2
 clear h2
 refine rg ?_
 have b29 := hf.b 29
 have b30 := hf.b 30
 have b31 := hf.b 31
 have b32 := hf.b 32
 have b33 := hf.b 33
 iterate 5 (refine fp fun K Z => ?_; go_simp; apply Z.out; clear Z K)
 refine fp fun K Z => ?_
 go_simp
 go_at_call 31; refine (bad33 w3 c2 i).mono ?_; rintro e w4 ⟨q, rfl, hq1, hq2, hq3⟩
 try dsimp only
 refine pan9 hf.defers (ThR.two hne (Pan.via hb23 ⟨q, rfl, hq1, hq2, hq3⟩)))
 · (
 have hz : c2 = 0 := by simpa using h2
 clear h2
 subst hz
 have fz := frozen_of (i := 1) hr3
 refine wp_skip ?_
 refine nx (hK5 _ _ ?_)
 refine Fact.sq fun K8 hK8 => ?_
 refine rg ?_
 have b35 := hf.b 35
 have b36 := hf.b 36
 have b37 := hf.b 37
 have b38 := hf.b 38
 iterate 5 (refine fp fun K Z => ?_; go_simp; apply Z.out; clear Z K)
 refine Fact.z hf fun fr1 hf1 hT => ?_
 have hKp := hT 7
 simp (decide := true) only [Fact.G, reduceIte, s7] at hKp
 replace hf := hf1; clear hT hf1 s0 s7 s8 s9 s28 b35 b36 b37 b38
 have s7 := hKp; clear hKp
 have hr4 : RD (w3.setCell ⟨g, 1, none⟩ (.int .i64 ny)) g s ny := (set_block (i := 1) hr3 _).trans (by simp)
 have hbt : But (fun k => k = g) w (w3.setCell ⟨g, 1, none⟩ (.int .i64 ny)) := (But.of _ hb23).trans (But.setCell (S := fun k => k = g) rfl _)
 refine nx (hK8 _ _ ?_)
 refine Fact.sq fun K9 hK9 => ?_
 refine rg ?_
 have b39 := hf.b 39
 iterate 2 (refine fp fun K Z => ?_; go_simp; apply Z.out; clear Z K)
 refine Fact.z hf fun fr1 hf1 hT => ?_
 have hKp := hT 6
 simp (decide := true) only [Fact.G, hf.size, reduceIte] at hKp
 replace hf := hf1; clear hT hf1 s7 b39
 have s6 := hKp; clear hKp
 refine nx (hK9 _ _ ?_)
 refine wp_ret ?_
 exact Fact.ret1 rfl hf s6 (ThR.ok hr4 hbt)))
set_option maxHeartbeats 4000000 in
set_option maxRecDepth 100000 in
theorem thing70 (w : World) (c g : Nat) (s : ByteArray) (i : Nat) (hc : w.cell? ⟨c, 0, none⟩ = some (.pointer (some ⟨g, 0, none⟩))) (hr : RD w g s i) (hi : i ≤ s.size) (hsz : s.size ≤ 1000000000) (fq : FuncId) (capq : Array Value) (c2 : Nat) (hcf : ∀ (xs : Array Value) (w1 : World), (callFunc fq xs).run Tryz.prog w1 = .ok (.enter fq xs) w1) (hq9 : ∀ w1, Below w.heap.size w w1 → (getN (wl s) i).2.2 = 0 → Calls Tryz.prog fq (#[.int .u64 (getN (wl s) i).1] ++ capq) w1 fun e w2 => e = .returned (.int .i64 c2) ∧ Below w1.heap.size w1 w2) : Calls Tryz.prog 69 #[.pointer (some ⟨g, 0, none⟩), .func (.func 70) #[] #[.pointer (some ⟨c, 0, none⟩)], .func (.func fq) #[] capq] w fun e w1 => ThR w w1 e .u64 (getN (wl s) i) c2 i g s := by
 refine calls_of_wp Tryz.func69 rfl ?_
 refine Fact.en 40 fun fr hf hT => ?_
 have s0 := hT 0 _ rfl
 have s1 := hT 1 _ rfl
 have s2 := hT 2 _ rfl
 clear hT
 obtain ⟨⟨x, ny, c1⟩, hrr⟩ : ∃ r, getN (wl s) i = r := ⟨_, rfl⟩
 rw [hrr] at hq9 ⊢
 have g1 := hr.c1
 have hgl := heap_lt hr
 refine Fact.sq fun K1 hK1 => ?_
 refine rg ?_
 refine fp fun K Z => ?_
 go_simp
 apply Z.out; clear Z K
 refine Fact.z hf fun fr1 hf1 hT => ?_
 have hKp : _ ∧ _ ∧ _ := ⟨hT 0, hT 1, hT 2⟩
 simp (decide := true) only [Fact.G, reduceIte, s0, s1, s2] at hKp
 replace hf := hf1; clear hT hf1 s0 s1 s2
 obtain ⟨s0, s1, s2⟩ := hKp
 refine nx (hK1 _ _ ?_)
 refine Fact.sq fun K2 hK2 => ?_
 refine rg ?_
 have b11 := hf.b 11
 have b12 := hf.b 12
 have b10 := hf.b 10
 have b13 := hf.b 13
 have b14 := hf.b 14
 have b15 := hf.b 15
 refine fp fun K Z => ?_
 go_simp
 apply Z.out; clear Z K
 refine fp fun K Z => ?_
 go_simp
 go_at_call 70; refine (num71 w c g s i hc hr hi hsz).mono ?_; rintro e w2 ⟨rfl, hb2⟩
 rw [hrr]
 try dsimp only
 apply Z.out; clear Z K
 iterate 7 (refine fp fun K Z => ?_; go_simp; apply Z.out; clear Z K)
 refine Fact.z hf fun fr1 hf1 hT => ?_
 have hKp : _ ∧ _ ∧ _ ∧ _ ∧ _ := ⟨hT 0, hT 2, hT 7, hT 8, hT 9⟩
 simp (decide := true) only [Fact.G, hf.size, reduceIte, s0, s2] at hKp
 replace hf := hf1; clear hT hf1 s0 s1 s2 b11 b12 b10 b13 b14 b15
 obtain ⟨s0, s2, s7, s8, s9⟩ := hKp
 have g2 := cL hb2 g1
 have hr2 := hr.later hb2
 clear hr g1 hc
 refine nx (hK2 _ _ ?_)
 refine Fact.sq fun K3 hK3 => ?_
 refine Fact.sq fun K4 hK4 => ?_
 refine rg ?_
 have b16 := hf.b 16
 iterate 2 (refine fp fun K Z => ?_; go_simp; apply Z.out; clear Z K)
 refine Fact.z hf fun fr1 hf1 hT => ?_
 have hKp : _ ∧ _ ∧ _ ∧ _ ∧ _ ∧ _ := ⟨hT 0, hT 2, hT 7, hT 8, hT 9, hT 17⟩
 simp (decide := true) only [Fact.G, hf.size, reduceIte, s0, s2, s7, s8, s9] at hKp
 replace hf := hf1; clear hT hf1 s0 s2 s7 s8 s9 b16
 obtain ⟨s0, s2, s7, s8, s9, s17⟩ := hKp
 refine nx (hK4 _ _ ?_)
 refine Fact.cond_s s17 (fun h1 => ?_) (fun h1 => ?_)
 · (
 have hne : c1 ≠ 0 := by simpa using h1
 clear h1
 refine rg ?_
 have b18 := hf.b 18
 have b19 := hf.b 19
 have b20 := hf.b 20
 have b21 := hf.b 21
 have b22 := hf.b 22
 iterate 5 (refine fp fun K Z => ?_; go_simp; apply Z.out; clear Z K)
 refine fp fun K Z => ?_
 go_simp
 go_at_call 31; refine (bad33 w2 c1 i).mono ?_; rintro e w3 ⟨q, rfl, hq1, hq2, hq3⟩
 try dsimp only
 refine pan9 hf.defers (ThR.one hne (Pan.via hb2 ⟨q, rfl, hq1, hq2, hq3⟩)))
 · (
 have hz : c1 = 0 := by simpa using h1
 clear h1
 subst hz
 refine wp_skip ?_
 refine nx (hK3 _ _ ?_)
 refine Fact.sq fun K5 hK5 => ?_
 refine Fact.sq fun K6 hK6 => ?_
 refine rg ?_
 have b24 := hf.b 24
 have b25 := hf.b 25
 have b26 := hf.b 26
 iterate 2 (refine fp fun K Z => ?_; go_simp; apply Z.out; clear Z K)
 refine fp fun K Z => ?_
 go_simp
 try rw [hcf]
 refine (hq9 w2 hb2 rfl).mono ?_
 rintro e w3 ⟨rfl, hb3⟩
 try dsimp only
 apply Z.out; clear Z K
 refine fp fun K Z => ?_
 go_simp
 apply Z.out; clear Z K
 refine Fact.z hf fun fr1 hf1 hT => ?_
 have hKp : _ ∧ _ ∧ _ ∧ _ := ⟨hT 0, hT 7, hT 8, hT 9⟩
 simp (decide := true) only [Fact.G, hf.size, reduceIte, s0, s7, s8] at hKp
 replace hf := hf1; clear hT hf1 s0 s2 s7 s8 s9 s17 b24 b25 b26
 obtain ⟨s0, s7, s8, s9⟩ := hKp
 have g3 := cL hb3 g2
 have hr3 := hr2.later hb3
 have hb23 := hb2.trans (hb3.mono hb2.size)
 clear hr2 g2
 refine nx (hK6 _ _ ?_)
 refine Fact.sq fun K7 hK7 => ?_
 refine rg ?_
 have b27 := hf.b 27
 iterate 2 (refine fp fun K Z => ?_; go_simp; apply Z.out; clear Z K)
 refine Fact.z hf fun fr1 hf1 hT => ?_
 have hKp : _ ∧ _ ∧ _ ∧ _ ∧ _ := ⟨hT 0, hT 7, hT 8, hT 9, hT 28⟩
 simp (decide := true) only [Fact.G, hf.size, reduceIte, s0, s7, s8, s9] at hKp
 replace hf := hf1; clear hT hf1 s0 s7 s8 s9 b27
 obtain ⟨s0, s7, s8, s9, s28⟩ := hKp
 refine nx (hK7 _ _ ?_)
 refine Fact.cond_s s28 (fun h2 => ?_) (fun h2 => ?_)
 · (
 have hne : c2 ≠ 0 := by simpa using h2
 clear h2
 refine rg ?_
 have b29 := hf.b 29
 have b30 := hf.b 30
 have b31 := hf.b 31
 have b32 := hf.b 32
 have b33 := hf.b 33
 iterate 5 (refine fp fun K Z => ?_; go_simp; apply Z.out; clear Z K)
 refine fp fun K Z => ?_
 go_simp
 go_at_call 31; refine (bad33 w3 c2 i).mono ?_; rintro e w4 ⟨q, rfl, hq1, hq2, hq3⟩
 try dsimp only
 refine pan9 hf.defers (ThR.two hne (Pan.via hb23 ⟨q, rfl, hq1, hq2, hq3⟩)))
 · (
 have hz : c2 = 0 := by simpa using h2
 clear h2
 subst hz
 have fz := frozen_of (i := 1) hr3
 refine wp_skip ?_
 refine nx (hK5 _ _ ?_)
 refine Fact.sq fun K8 hK8 => ?_
 refine rg ?_
 have b35 := hf.b 35
 have b36 := hf.b 36
 have b37 := hf.b 37
 have b38 := hf.b 38
 iterate 5 (refine fp fun K Z => ?_; go_simp; apply Z.out; clear Z K)
 refine Fact.z hf fun fr1 hf1 hT => ?_
 have hKp := hT 7
 simp (decide := true) only [Fact.G, reduceIte, s7] at hKp
 replace hf := hf1; clear hT hf1 s0 s7 s8 s9 s28 b35 b36 b37 b38
 have s7 := hKp; clear hKp
 have hr4 : RD (w3.setCell ⟨g, 1, none⟩ (.int .i64 ny)) g s ny := (set_block (i := 1) hr3 _).trans (by simp)
 have hbt : But (fun k => k = g) w (w3.setCell ⟨g, 1, none⟩ (.int .i64 ny)) := (But.of _ hb23).trans (But.setCell (S := fun k => k = g) rfl _)
 refine nx (hK8 _ _ ?_)
 refine Fact.sq fun K9 hK9 => ?_
 refine rg ?_
 have b39 := hf.b 39
 iterate 2 (refine fp fun K Z => ?_; go_simp; apply Z.out; clear Z K)
 refine Fact.z hf fun fr1 hf1 hT => ?_
 have hKp := hT 6
 simp (decide := true) only [Fact.G, hf.size, reduceIte] at hKp
 replace hf := hf1; clear hT hf1 s7 b39
 have s6 := hKp; clear hKp
 refine nx (hK9 _ _ ?_)
 refine wp_ret ?_
 exact Fact.ret1 rfl hf s6 (ThR.ok hr4 hbt)))
end Dw
end Go.Proofs.YtdkbgbdgmihlmaaGreatDoor

namespace Go.Proofs.YtdkbgbdgmihlmaaGreatDoor
open Go.RowKit
set_option linter.unusedSimpArgs false
set_option linter.unusedVariables false
set_option linter.unnecessarySimpa false
namespace Dw

theorem call_enter {P : Program} {f : FuncId} {fn : Func} {c : Code} (hf : P.funcs[f]? = some fn) (hn : (fn.name == "runtime.NumGoroutine") = false) (hb : fn.body = some c) (xs : Array Value) (w1 : World) : (callFunc f xs).run P w1 = .ok (.enter f xs) w1 := by
  have hn2 : ¬ fn.name = "runtime.NumGoroutine" := by simpa using hn
  simp [callFunc, program, Sem.run, hf, hn2, hb]
theorem call73 (xs : Array Value) (w1 : World) : (callFunc 72 xs).run Tryz.prog w1 = .ok (.enter 72 xs) w1 := call_enter Tryz.func72 (by kernel_rfl) rfl xs w1
theorem call74 (xs : Array Value) (w1 : World) : (callFunc 73 xs).run Tryz.prog w1 = .ok (.enter 73 xs) w1 := call_enter Tryz.func73 (by kernel_rfl) rfl xs w1
theorem call50 (xs : Array Value) (w1 : World) : (callFunc 48 xs).run Tryz.prog w1 = .ok (.enter 48 xs) w1 := call_enter Tryz.func48 (by kernel_rfl) rfl xs w1
theorem app12 (a b c : Value) : (#[a] ++ #[b, c] : Array Value) = #[a, b, c] := rfl
theorem app11 (a b : Value) : (#[a] ++ #[b] : Array Value) = #[a, b] := rfl
theorem app10 (a : Value) : (#[a] ++ #[] : Array Value) = #[a] := rfl
theorem ThR.good {w w1 : World} {e : Ending} {k : IntKind} {r : Nat × Nat × Nat} {c2 i g : Nat} {s : ByteArray} (h : ThR w w1 e k r c2 i g s) (hg : r.2.2 = 0 ∧ c2 = 0) : e = .returned (.int k r.1) ∧ RD w1 g s r.2.1 ∧ But (fun k => k = g) w w1 := by
  unfold ThR at h
  rw [if_neg (by simp [hg.1]), if_neg (by simp [hg.2])] at h
  exact h
theorem ThR.bad {w w1 : World} {e : Ending} {k : IntKind} {r : Nat × Nat × Nat} {c2 i g : Nat} {s : ByteArray} (h : ThR w w1 e k r c2 i g s) (hg : ¬ (r.2.2 = 0 ∧ c2 = 0)) : Pan w w1 e (if r.2.2 ≠ 0 then r.2.2 else c2 : Nat) i := by
  unfold ThR at h
  split at h
  · rename_i h1; rw [if_pos h1]; exact h
  · rename_i h1
    rw [if_neg h1]
    rw [if_pos (by intro e; exact hg ⟨by simpa using h1, e⟩)] at h
    exact h
theorem ThR.back {w w0 w1 : World} {e : Ending} {k : IntKind} {r : Nat × Nat × Nat} {c2 i g : Nat} {s : ByteArray} (hb : Below w.heap.size w w0) (h : ThR w0 w1 e k r c2 i g s) : ThR w w1 e k r c2 i g s := by
  unfold ThR at h ⊢
  split
  · rename_i h1; rw [if_pos h1] at h; exact Pan.via hb h
  · rename_i h1
    rw [if_neg h1] at h
    split
    · rename_i h2; rw [if_pos h2] at h; exact Pan.via hb h
    · rename_i h2
      rw [if_neg h2] at h
      exact ⟨h.1, h.2.1, (But.of _ hb).trans h.2.2⟩
set_option maxHeartbeats 4000000 in
set_option maxRecDepth 100000 in
theorem char49 (w : World) (g : Nat) (s : ByteArray) (i : Nat) (hr : RD w g s i) (hi : i ≤ s.size) (hsz : s.size ≤ 1000000000) (fq : FuncId) (capq : Array Value) (c2 : Nat) (hcf : ∀ (xs : Array Value) (w1 : World), (callFunc fq xs).run Tryz.prog w1 = .ok (.enter fq xs) w1) (hq9 : ∀ w1, Below w.heap.size w w1 → (charN s i).2.2 = 0 → Calls Tryz.prog fq (#[.int .u8 (charN s i).1] ++ capq) w1 fun e w2 => e = .returned (.int .i64 c2) ∧ Below w1.heap.size w1 w2) : Calls Tryz.prog 47 #[.pointer (some ⟨g, 0, none⟩), .func (.func fq) #[] capq] w fun e w1 => ThR w w1 e .u8 (charN s i) c2 i g s := by
 refine calls_of_wp Tryz.func47 rfl ?_
 refine Fact.en 9 fun fr hf hT => ?_
 have s0 := hT 0 _ rfl
 have s1 := hT 1 _ rfl
 clear hT
 by_cases hbd : (charN s i).2.2 = 0 ∧ c2 = 0
 · (
 refine Fact.sq fun K1 hK1 => ?_
 refine rg ?_
 iterate 2 (refine fp fun K Z => ?_; go_simp; apply Z.out; clear Z K)
 refine Fact.z hf fun fr1 hf1 hT => ?_
 have hKp : _ ∧ _ := ⟨hT 1, hT 2⟩
 simp (decide := true) only [Fact.G, hf.size, reduceIte, s1] at hKp
 replace hf := hf1; clear hT hf1 s0 s1
 obtain ⟨s1, s2⟩ := hKp
 obtain ⟨W0, hW0⟩ : ∃ W0, w.alloc (.cells #[.pointer (some ⟨g, 0, none⟩)] 94) = W0 := ⟨_, rfl⟩
 try rw [hW0]
 obtain ⟨hb0, c0, -, -⟩ := box1 hW0
 clear hW0
 have hr0 := hr.later hb0
 refine nx (hK1 _ _ ?_)
 refine Fact.sq fun K2 hK2 => ?_
 refine rg ?_
 have b5 := hf.b 5
 have b6 := hf.b 6
 have b7 := hf.b 7
 have b8 := hf.b 8
 iterate 3 (refine fp fun K Z => ?_; go_simp; apply Z.out; clear Z K)
 refine fp fun K Z => ?_
 go_simp
 go_at_call 67; refine (thing68 W0 w.heap.size g s i c0 hr0 hi hsz fq capq c2 hcf (fun w1 h1 h2 => hq9 w1 (hb0.trans (h1.mono hb0.size)) h2)).mono ?_; rintro e w1 hth
 obtain ⟨rfl, h2, h3⟩ := hth.good hbd
 try dsimp only
 apply Z.out; clear Z K
 refine fp fun K Z => ?_
 go_simp
 apply Z.out; clear Z K
 refine Fact.z hf fun fr1 hf1 hT => ?_
 have hKp := hT 4
 simp (decide := true) only [Fact.G, hf.size, reduceIte] at hKp
 replace hf := hf1; clear hT hf1 s1 s2 b5 b6 b7 b8
 have s4 := hKp; clear hKp
 refine nx (hK2 _ _ ?_)
 refine wp_ret ?_
 exact Fact.ret1 rfl hf s4 (ThR.back hb0 hth))
 · (
 refine Fact.sq fun K3 hK3 => ?_
 refine rg ?_
 iterate 2 (refine fp fun K Z => ?_; go_simp; apply Z.out; clear Z K)
 refine Fact.z hf fun fr1 hf1 hT => ?_
 have hKp : _ ∧ _ := ⟨hT 1, hT 2⟩
 simp (decide := true) only [Fact.G, hf.size, reduceIte, s1] at hKp
 replace hf := hf1; clear hT hf1 s0 s1
 obtain ⟨s1, s2⟩ := hKp
 obtain ⟨W0, hW0⟩ : ∃ W0, w.alloc (.cells #[.pointer (some ⟨g, 0, none⟩)] 94) = W0 := ⟨_, rfl⟩
 try rw [hW0]
 obtain ⟨hb0, c0, -, -⟩ := box1 hW0
 clear hW0
 have hr0 := hr.later hb0
 refine nx (hK3 _ _ ?_)
 refine Fact.sq fun K4 hK4 => ?_
 refine rg ?_
 have b5 := hf.b 5
 have b6 := hf.b 6
 have b7 := hf.b 7
 have b8 := hf.b 8
 iterate 3 (refine fp fun K Z => ?_; go_simp; apply Z.out; clear Z K)
 refine fp fun K Z => ?_
 go_simp
 go_at_call 67; refine (thing68 W0 w.heap.size g s i c0 hr0 hi hsz fq capq c2 hcf (fun w1 h1 h2 => hq9 w1 (hb0.trans (h1.mono hb0.size)) h2)).mono ?_; rintro e w1 hth
 obtain ⟨q, rfl, h2, h3, h4⟩ := hth.bad hbd
 try dsimp only
 try dsimp only
 exact pan9 hf.defers (ThR.back hb0 hth))
set_option maxHeartbeats 4000000 in
set_option maxRecDepth 100000 in
theorem num51 (w : World) (g : Nat) (s : ByteArray) (i : Nat) (hr : RD w g s i) (hi : i ≤ s.size) (hsz : s.size ≤ 1000000000) (lo hi9 : Nat) : Calls Tryz.prog 49 #[.pointer (some ⟨g, 0, none⟩), .int .u64 lo, .int .u64 hi9] w fun e w1 => ThR w w1 e .u64 (getN (wl s) i) (rangeN lo hi9 (getN (wl s) i).1) i g s := by
 refine calls_of_wp Tryz.func49 rfl ?_
 refine Fact.en 11 fun fr hf hT => ?_
 have s0 := hT 0 _ rfl
 have s1 := hT 1 _ rfl
 have s2 := hT 2 _ rfl
 clear hT
 obtain ⟨c2, hc2⟩ : ∃ x, rangeN lo hi9 (getN (wl s) i).1 = x := ⟨_, rfl⟩
 rw [hc2]
 have HC2 := Lib.hid hc2; clear hc2
 by_cases hbd : (getN (wl s) i).2.2 = 0 ∧ c2 = 0
 · (
 refine Fact.sq fun K1 hK1 => ?_
 refine rg ?_
 iterate 4 (refine fp fun K Z => ?_; go_simp; apply Z.out; clear Z K)
 refine Fact.z hf fun fr1 hf1 hT => ?_
 have hKp : _ ∧ _ ∧ _ := ⟨hT 3, hT 4, hT 5⟩
 simp (decide := true) only [Fact.G, hf.size, reduceIte] at hKp
 replace hf := hf1; clear hT hf1 s0 s1 s2
 obtain ⟨s3, s4, s5⟩ := hKp
 obtain ⟨W0, hW0⟩ : ∃ x, w.alloc (.cells #[.pointer (some ⟨g, 0, none⟩)] 94) = x := ⟨_, rfl⟩
 try rw [hW0]
 obtain ⟨hba, c0, -, hza⟩ := box1 hW0
 clear hW0
 rw [← hza] at s4 s5
 clear hza
 obtain ⟨W1, hW1⟩ : ∃ x, W0.alloc (.cells #[.int .u64 lo] 31) = x := ⟨_, rfl⟩
 try rw [hW1]
 obtain ⟨hbb, c1, -, hzb⟩ := box1 hW1
 clear hW1
 rw [← hzb] at s5
 clear hzb
 obtain ⟨W2, hW2⟩ : ∃ x, W1.alloc (.cells #[.int .u64 hi9] 31) = x := ⟨_, rfl⟩
 try rw [hW2]
 obtain ⟨hbc, d2, -, -⟩ := box1 hW2
 clear hW2
 replace c1 := cL hbc c1
 replace c0 := cL hbc (cL hbb c0)
 have hb0 := (hba.trans (hbb.mono hba.size)).trans (hbc.mono (Nat.le_trans hba.size hbb.size))
 have hr0 := hr.later hb0
 refine nx (hK1 _ _ ?_)
 refine Fact.sq fun K2 hK2 => ?_
 refine rg ?_
 have b7 := hf.b 7
 have b8 := hf.b 8
 have b9 := hf.b 9
 have b10 := hf.b 10
 iterate 3 (refine fp fun K Z => ?_; go_simp; apply Z.out; clear Z K)
 refine fp fun K Z => ?_
 go_simp
 go_at_call 69; refine (thing70 W2 w.heap.size g s i c0 hr0 hi hsz 72 #[.pointer (some ⟨W0.heap.size, 0, none⟩), .pointer (some ⟨W1.heap.size, 0, none⟩)] c2 call73 (fun w1 h1 _ => by rw [app12, ← HC2.out]; exact num73 w1 _ lo hi9 _ _ (cL h1 c1) (cL h1 d2))).mono ?_; rintro e w1 hth
 obtain ⟨rfl, h2, h3⟩ := hth.good hbd
 try dsimp only
 apply Z.out; clear Z K
 refine fp fun K Z => ?_
 go_simp
 apply Z.out; clear Z K
 refine Fact.z hf fun fr1 hf1 hT => ?_
 have hKp := hT 6
 simp (decide := true) only [Fact.G, hf.size, reduceIte] at hKp
 replace hf := hf1; clear hT hf1 s3 s4 s5 b7 b8 b9 b10
 have s6 := hKp; clear hKp
 refine nx (hK2 _ _ ?_)
 refine wp_ret ?_
 exact Fact.ret1 rfl hf s6 (ThR.back hb0 hth))
 · (
 refine Fact.sq fun K3 hK3 => ?_
 refine rg ?_
 iterate 4 (refine fp fun K Z => ?_; go_simp; apply Z.out; clear Z K)
 refine Fact.z hf fun fr1 hf1 hT => ?_
 have hKp : _ ∧ _ ∧ _ := ⟨hT 3, hT 4, hT 5⟩
 simp (decide := true) only [Fact.G, hf.size, reduceIte] at hKp
 replace hf := hf1; clear hT hf1 s0 s1 s2
 obtain ⟨s3, s4, s5⟩ := hKp
 obtain ⟨W0, hW0⟩ : ∃ x, w.alloc (.cells #[.pointer (some ⟨g, 0, none⟩)] 94) = x := ⟨_, rfl⟩
 try rw [hW0]
 obtain ⟨hba, c0, -, hza⟩ := box1 hW0
 clear hW0
 rw [← hza] at s4 s5
 clear hza
 obtain ⟨W1, hW1⟩ : ∃ x, W0.alloc (.cells #[.int .u64 lo] 31) = x := ⟨_, rfl⟩
 try rw [hW1]
 obtain ⟨hbb, c1, -, hzb⟩ := box1 hW1
 clear hW1
 rw [← hzb] at s5
 clear hzb
 obtain ⟨W2, hW2⟩ : ∃ x, W1.alloc (.cells #[.int .u64 hi9] 31) = x := ⟨_, rfl⟩
 try rw [hW2]
 obtain ⟨hbc, d2, -, -⟩ := box1 hW2
 clear hW2
 replace c1 := cL hbc c1
 replace c0 := cL hbc (cL hbb c0)
 have hb0 := (hba.trans (hbb.mono hba.size)).trans (hbc.mono (Nat.le_trans hba.size hbb.size))
 have hr0 := hr.later hb0
 refine nx (hK3 _ _ ?_)
 refine Fact.sq fun K4 hK4 => ?_
 refine rg ?_
 have b7 := hf.b 7
 have b8 := hf.b 8
 have b9 := hf.b 9
 have b10 := hf.b 10
 iterate 3 (refine fp fun K Z => ?_; go_simp; apply Z.out; clear Z K)
 refine fp fun K Z => ?_
 go_simp
 go_at_call 69; refine (thing70 W2 w.heap.size g s i c0 hr0 hi hsz 72 #[.pointer (some ⟨W0.heap.size, 0, none⟩), .pointer (some ⟨W1.heap.size, 0, none⟩)] c2 call73 (fun w1 h1 _ => by rw [app12, ← HC2.out]; exact num73 w1 _ lo hi9 _ _ (cL h1 c1) (cL h1 d2))).mono ?_; rintro e w1 hth
 obtain ⟨q, rfl, h2, h3, h4⟩ := hth.bad hbd
 try dsimp only
 try dsimp only
 exact pan9 hf.defers (ThR.back hb0 hth))
end Dw
end Go.Proofs.YtdkbgbdgmihlmaaGreatDoor

namespace Go.Proofs.YtdkbgbdgmihlmaaGreatDoor
open Go.RowKit
set_option linter.unusedSimpArgs false
set_option linter.unusedVariables false
set_option linter.unnecessarySimpa false
namespace Dw

abbrev Bad := Nat × Nat
def stepN (r : Nat × Nat × Nat) (c2 i : Nat) : Except Bad (Nat × Nat) := if r.2.2 ≠ 0 then .error (r.2.2, i) else if c2 ≠ 0 then .error (c2, i) else .ok (r.1, r.2.1)
def pNum (s : ByteArray) (lo hi i : Nat) : Except Bad (Nat × Nat) := stepN (getN (wl s) i) (rangeN lo hi (getN (wl s) i).1) i
def pChar (s : ByteArray) (i : Nat) : Except Bad (Nat × Nat) := stepN (charN s i) 0 i
def pMag (s : ByteArray) (k i : Nat) : Except Bad (Nat × Nat) := stepN (charN s i) (kindN k (charN s i).1) i
/-- arcs -/
def pArcs (s : ByteArray) (i : Nat) : Nat → Nat → List Arc → Except Bad (List Arc × Nat)
  | 0, p, acc => .ok (acc, p)
  | k + 1, p, acc => match pChar s p with
    | .error b => .error b
    | .ok (c, p1) => match pNum s 0 18446744073709551615 p1 with
      | .error b => .error b
      | .ok (o, p2) => match pNum s 1 i p2 with
        | .error b => .error b
        | .ok (d, p3) => pArcs s i k p3 (acc ++ [⟨c, o, ((i - d : Nat) : Int)⟩])
def pOut (s : ByteArray) (n p : Nat) : Except Bad (Nat × Nat) := if n % 2 = 1 then pNum s 0 18446744073709551615 p else .ok (0, p)
def pMk (n o : Nat) : Except Bad (List Arc × Nat) → Except Bad (State × Nat)
  | .error b => .error b
  | .ok (l, p) => .ok ({ arcs := l, final := decide (n % 2 = 1), out := o }, p)
def pState (s : ByteArray) (i p : Nat) : Except Bad (State × Nat) := match pNum s 0 513 p with
  | .error b => .error b
  | .ok (n, p1) => match pOut s n p1 with
    | .error b => .error b
    | .ok (o, p2) => pMk n o (pArcs s i (n / 2) p2 [])
/-- states, from the i-th on -/
def pStates (s : ByteArray) : Nat → Nat → Nat → List State → Except Bad (List State × Nat)
  | 0, _, p, acc => .ok (acc, p)
  | k + 1, i, p, acc => match pState s i p with
    | .error b => .error b
    | .ok (st, p1) => pStates s k (i + 1) p1 (acc ++ [st])
def pMagic (s : ByteArray) : Nat → Nat → Nat → Except Bad Nat
  | 0, _, p => .ok p
  | m + 1, k, p => match pMag s k p with
    | .error b => .error b
    | .ok (_, p1) => pMagic s m (k + 1) p1
def pAll (s : ByteArray) : Except Bad (Nat × Nat × List State) := match pMagic s 3 0 0 with
  | .error b => .error b
  | .ok p => match pNum s 0 100000 p with
    | .error b => .error b
    | .ok (en, p1) => match pNum s 1 18446744073709551615 p1 with
      | .error b => .error b
      | .ok (n, p2) => match pStates s n 0 p2 [] with
        | .error b => .error b
        | .ok (ss, p3) => match pNum s 0 18446744073709551615 p3 with
          | .error b => .error b
          | .ok (init, p4) => if p4 < s.size then .error (4, p4) else .ok (en, init, ss)
/-- a panic behind which only block g was turned -/
def PanG (w w1 : World) (e : Ending) (g : Nat) (b : Bad) : Prop := ∃ q, e = .panicked [{ v := .iface 89 (.pointer (some ⟨q, 0, none⟩)), recovered := false }] ∧ w.heap.size ≤ q ∧ w1.heap[q]? = some (.cells #[.int .i64 b.1, .int .i64 b.2] 64 (0, 0)) ∧ But (fun k => k = g) w w1
theorem Pan.g {w w1 : World} {e : Ending} {g c a : Nat} (h : Pan w w1 e c a) : PanG w w1 e g (c, a) := by
  obtain ⟨q, h1, h2, h3, h4⟩ := h
  exact ⟨q, h1, h2, h3, But.of _ h4⟩
theorem PanG.via {w w1 w2 : World} {e : Ending} {g : Nat} {b : Bad} (hb : But (fun k => k = g ∨ w.heap.size ≤ k) w w2) (h : PanG w2 w1 e g b) : PanG w w1 e g b := by
  obtain ⟨q, h1, h2, h3, h4⟩ := h
  exact ⟨q, h1, Nat.le_trans hb.size h2, h3, (hb.trans (h4.mono (fun k _ hk => .inl hk))).mono (fun k hk h => h.elim id (fun h => by omega))⟩
/-- what one reading ends in -/
def ResR (w w1 : World) (e : Ending) (k : IntKind) (g : Nat) (s : ByteArray) : Except Bad (Nat × Nat) → Prop
  | .error b => PanG w w1 e g b
  | .ok (x, j) => e = .returned (.int k x) ∧ RD w1 g s j ∧ But (fun k => k = g) w w1
theorem ThR.res {w w1 : World} {e : Ending} {k : IntKind} {r : Nat × Nat × Nat} {c2 i g : Nat} {s : ByteArray} (h : ThR w w1 e k r c2 i g s) : ResR w w1 e k g s (stepN r c2 i) := by
  unfold ThR at h
  unfold stepN
  split at h
  · rename_i h1; rw [if_pos h1]; exact Pan.g h
  · rename_i h1
    rw [if_neg h1]
    split at h
    · rename_i h2; rw [if_pos h2]; exact Pan.g h
    · rename_i h2; rw [if_neg h2]; exact h
theorem num51' (w : World) (g : Nat) (s : ByteArray) (i : Nat) (hr : RD w g s i) (hi : i ≤ s.size) (hsz : s.size ≤ 1000000000) (lo hi9 : Nat) : Calls Tryz.prog 49 #[.pointer (some ⟨g, 0, none⟩), .int .u64 lo, .int .u64 hi9] w fun e w1 => ResR w w1 e .u64 g s (pNum s lo hi9 i) :=
  (num51 w g s i hr hi hsz lo hi9).mono fun e w1 h => h.res
theorem char49' (w : World) (g : Nat) (s : ByteArray) (i : Nat) (hr : RD w g s i) (hi : i ≤ s.size) (hsz : s.size ≤ 1000000000) : Calls Tryz.prog 47 #[.pointer (some ⟨g, 0, none⟩), .func (.func 73) #[] #[]] w fun e w1 => ResR w w1 e .u8 g s (pChar s i) :=
  (char49 w g s i hr hi hsz 73 #[] 0 call74 (fun w1 _ _ => by rw [app10]; exact state74 w1 _)).mono fun e w1 h => h.res
theorem mag49 (w : World) (g : Nat) (s : ByteArray) (i : Nat) (hr : RD w g s i) (hi : i ≤ s.size) (hsz : s.size ≤ 1000000000) (k p : Nat) (hk : k < 3) (hp : w.cell? ⟨p, 0, none⟩ = some (.int .i64 k)) : Calls Tryz.prog 47 #[.pointer (some ⟨g, 0, none⟩), .func (.func 48) #[] #[.pointer (some ⟨p, 0, none⟩)]] w fun e w1 => ResR w w1 e .u8 g s (pMag s k i) :=
  (char49 w g s i hr hi hsz 48 #[.pointer (some ⟨p, 0, none⟩)] _ call50 (fun w1 hb _ => by rw [app11]; exact all50 w1 _ k p hk (cL hb hp))).mono fun e w1 h => h.res
/-! where readings end -/
theorem getN_ok {s : List Nat} (hs : Small s) {i n j : Nat} (h : getN s i = (n, j, 0)) : i < j ∧ j ≤ s.length ∧ n < M64 := by
  obtain ⟨h1, h2, h3⟩ := getN_canon hs h
  have h4 := (numB_le h1).1
  have h5 := congrArg List.length h2
  rw [List.length_append, List.length_drop, List.length_drop] at h5
  omega
theorem pNum_ok {s : ByteArray} {lo hi i n j : Nat} (h : pNum s lo hi i = .ok (n, j)) : i < j ∧ j ≤ s.size ∧ n < M64 ∧ lo ≤ n ∧ n ≤ hi ∧ getN (wl s) i = (n, j, 0) := by
  unfold pNum stepN at h
  split at h
  · cases h
  · rename_i h1
    split at h
    · cases h
    · rename_i h2
      injection h with h
      injection h with h3 h4
      have hg : getN (wl s) i = (n, j, 0) := by
        obtain ⟨a, b, c⟩ : ∃ x, getN (wl s) i = x := ⟨_, rfl⟩
        rw [← h3, ← h4]
        exact Prod.ext rfl (Prod.ext rfl (by simpa using h1))
      have h5 := getN_ok (wl_lt s) hg
      rw [wl_length] at h5
      have h6 : ¬ (n < lo ∨ hi < n) := by
        intro h7
        apply h2
        unfold rangeN
        rw [h3, if_pos h7]
        decide
      exact ⟨h5.1, h5.2.1, h5.2.2, by omega, by omega, hg⟩
theorem pChar_ok {s : ByteArray} {i x j : Nat} (hi : i ≤ s.size) (h : pChar s i = .ok (x, j)) : j = i + 1 ∧ j ≤ s.size ∧ x < 256 ∧ (wl s)[i]? = some x := by
  unfold pChar stepN charN at h
  by_cases h2 : i = s.size
  · rw [if_pos h2] at h; simp at h
  · rw [if_neg h2] at h
    simp at h
    refine ⟨h.2.symm, by omega, by rw [← h.1]; exact at_lt s i, by rw [← h.1]; exact wl_at (by omega)⟩

end Dw
end Go.Proofs.YtdkbgbdgmihlmaaGreatDoor
