/- pack: thing. -/
import Derived.Test.YtdkbgbdgmihlmaaDoorPRd
import Derived.Test.YtdkbgbdgmihlmaaDoorTools
namespace Go.Proofs.YtdkbgbdgmihlmaaDoor
open Go.RowKit
set_option linter.unusedSimpArgs false
set_option linter.unusedVariables false
set_option linter.unnecessarySimpa false
namespace Dw

theorem Pan.via {w w1 w2 : World} {e : Ending} {c a : Int} (hb : Below w.heap.size w w2) (h : Pan w2 w1 e c a) : Pan w w1 e c a := by
  obtain ⟨q, h1, h2, h3, h4⟩ := h
  exact ⟨q, h1, Nat.le_trans hb.size h2, h3, hb.trans (h4.mono hb.size)⟩
/-- what a reading of one thing ends in -/
def ThR (w w1 : World) (e : Ending) (k : IntKind) (r : Nat × Nat × Nat) (c2 i g : Nat) (s : ByteArray) : Prop :=
  if r.2.2 ≠ 0 then Pan w w1 e r.2.2 i else if c2 ≠ 0 then Pan w w1 e c2 i else e = .returned (.int k r.1) ∧ RD w1 g s r.2.1 ∧ But (fun k => k = g) w w1
theorem ThR.one {w w1 : World} {e : Ending} {k : IntKind} {x ny c1 c2 i g : Nat} {s : ByteArray} (hc : c1 ≠ 0) (h : Pan w w1 e c1 i) : ThR w w1 e k (x, ny, c1) c2 i g s := by
  unfold ThR
  rw [if_pos hc]
  exact h
theorem ThR.two {w w1 : World} {e : Ending} {k : IntKind} {x ny c2 i g : Nat} {s : ByteArray} (hc : c2 ≠ 0) (h : Pan w w1 e c2 i) : ThR w w1 e k (x, ny, 0) c2 i g s := by
  unfold ThR
  rw [if_neg (by simp), if_pos hc]
  exact h
theorem ThR.ok {w w1 : World} {k : IntKind} {x ny i g : Nat} {s : ByteArray} (h : RD w1 g s ny) (hb : But (fun k => k = g) w w1) : ThR w w1 (.returned (.int k x)) k (x, ny, 0) 0 i g s := by
  unfold ThR
  rw [if_neg (by simp), if_neg (by simp)]
  exact ⟨rfl, h, hb⟩
set_option maxHeartbeats 4000000 in
set_option maxRecDepth 100000 in
theorem thing68 (w : World) (c g : Nat) (s : ByteArray) (i : Nat) (hc : w.cell? ⟨c, 0, none⟩ = some (.pointer (some ⟨g, 0, none⟩))) (hr : RD w g s i) (hi : i ≤ s.size) (hsz : s.size ≤ 1000000000) (fq : FuncId) (capq : Array Value) (c2 : Nat) (hcf : ∀ (xs : Array Value) (w1 : World), (callFunc fq xs).run Tryd.prog w1 = .ok (.enter fq xs) w1) (hq9 : ∀ w1, Below w.heap.size w w1 → (charN s i).2.2 = 0 → Calls Tryd.prog fq (#[.int .u8 (charN s i).1] ++ capq) w1 fun e w2 => e = .returned (.int .i64 c2) ∧ Below w1.heap.size w1 w2) : Calls Tryd.prog 68 #[.pointer (some ⟨g, 0, none⟩), .func (.func 69) #[] #[.pointer (some ⟨c, 0, none⟩)], .func (.func fq) #[] capq] w fun e w1 => ThR w w1 e .u8 (charN s i) c2 i g s := by
 refine calls_of_wp Tryd.func68 rfl ?_
 refine Fact.en 40 fun fr hf hT => ?_
 have s0 := hT 0 _ rfl
 have s1 := hT 1 _ rfl
 have s2 := hT 2 _ rfl
 clear hT
 obtain ⟨⟨x, ny, c1⟩, hrr⟩ : ∃ r, charN s i = r := ⟨_, rfl⟩
 rw [hrr] at hq9 ⊢
 have g1 := hr.c1
 have hgl := heap_lt hr
 refine Fact.sq fun K1 hK1 => ?_
 refine rg ?_
 refine fp fun K Z => ?_
 go_simp
 apply Z.out; clear Z K
 refine Fact.z hf fun fr1 hf1 hT => ?_
 have hKp : _ ∧ _ ∧ _ := ⟨hT 0, hT 1, hT 2⟩
 simp (decide := true) only [Fact.G, reduceIte, s0, s1, s2] at hKp
 replace hf := hf1; clear hT hf1 s0 s1 s2
 obtain ⟨s0, s1, s2⟩ := hKp
 refine nx (hK1 _ _ ?_)
 refine Fact.sq fun K2 hK2 => ?_
 refine rg ?_
 have b11 := hf.b 11
 have b12 := hf.b 12
 have b10 := hf.b 10
 have b13 := hf.b 13
 have b14 := hf.b 14
 have b15 := hf.b 15
 refine fp fun K Z => ?_
 go_simp
 apply Z.out; clear Z K
 refine fp fun K Z => ?_
 go_simp
 go_at_call 69; refine (char69 w c g s i hc hr hi hsz).mono ?_; rintro e w2 ⟨rfl, hb2⟩
 rw [hrr]
 try dsimp only
 apply Z.out; clear Z K
 refine fp fun K Z => ?_
 go_simp
 apply Z.out; clear Z K
 refine fp fun K Z => ?_
 go_simp
 apply Z.out; clear Z K
 refine fp fun K Z => ?_
 go_simp
 apply Z.out; clear Z K
 refine fp fun K Z => ?_
 go_simp
 apply Z.out; clear Z K
 refine fp fun K Z => ?_
 go_simp
 apply Z.out; clear Z K
 refine fp fun K Z => ?_
 go_simp
 apply Z.out; clear Z K
 refine fp fun K Z => ?_
 go_simp
 apply Z.out; clear Z K
 refine Fact.z hf fun fr1 hf1 hT => ?_
 have hKp : _ ∧ _ ∧ _ ∧ _ ∧ _ := ⟨hT 0, hT 2, hT 7, hT 8, hT 9⟩
 simp (decide := true) only [Fact.G, hf.size, reduceIte, s0, s2] at hKp
 replace hf := hf1; clear hT hf1 s0 s1 s2 b11 b12 b10 b13 b14 b15
 obtain ⟨s0, s2, s7, s8, s9⟩ := hKp
 have g2 := cL hb2 g1
 have hr2 := hr.later hb2
 clear hr g1 hc
 refine nx (hK2 _ _ ?_)
 refine Fact.sq fun K3 hK3 => ?_
 refine Fact.sq fun K4 hK4 => ?_
 refine rg ?_
 have b16 := hf.b 16
 refine fp fun K Z => ?_
 go_simp
 apply Z.out; clear Z K
 refine fp fun K Z => ?_
 go_simp
 apply Z.out; clear Z K
 refine Fact.z hf fun fr1 hf1 hT => ?_
 have hKp : _ ∧ _ ∧ _ ∧ _ ∧ _ ∧ _ := ⟨hT 0, hT 2, hT 7, hT 8, hT 9, hT 17⟩
 simp (decide := true) only [Fact.G, hf.size, reduceIte, s0, s2, s7, s8, s9] at hKp
 replace hf := hf1; clear hT hf1 s0 s2 s7 s8 s9 b16
 obtain ⟨s0, s2, s7, s8, s9, s17⟩ := hKp
 refine nx (hK4 _ _ ?_)
 refine Fact.cond_s s17 (fun h1 => ?_) (fun h1 => ?_)
 · (
 have hne : c1 ≠ 0 := by simpa using h1
 clear h1
 refine rg ?_
 have b18 := hf.b 18
 have b19 := hf.b 19
 have b20 := hf.b 20
 have b21 := hf.b 21
 have b22 := hf.b 22
 refine fp fun K Z => ?_
 go_simp
 apply Z.out; clear Z K
 refine fp fun K Z => ?_
 go_simp
 apply Z.out; clear Z K
 refine fp fun K Z => ?_
 go_simp
 apply Z.out; clear Z K
 refine fp fun K Z => ?_
 go_simp
 apply Z.out; clear Z K
 refine fp fun K Z => ?_
 go_simp
 apply Z.out; clear Z K
 refine fp fun K Z => ?_
 go_simp
 go_at_call 33; refine (bad33 w2 c1 i).mono ?_; rintro e w3 ⟨q, rfl, hq1, hq2, hq3⟩
 try dsimp only
 refine pan9 hf.defers (ThR.one hne (Pan.via hb2 ⟨q, rfl, hq1, hq2, hq3⟩)))
 · (
 have hz : c1 = 0 := by simpa using h1
 clear h1
 subst hz
 refine wp_skip ?_
 refine nx (hK3 _ _ ?_)
 refine Fact.sq fun K5 hK5 => ?_
 refine Fact.sq fun K6 hK6 => ?_
 refine rg ?_
 have b24 := hf.b 24
 have b25 := hf.b 25
 have b26 := hf.b 26
 refine fp fun K Z => ?_
 go_simp
 apply Z.out; clear Z K
 refine fp fun K Z => ?_
 go_simp
 apply Z.out; clear Z K
 refine fp fun K Z => ?_
 go_simp
 try rw [hcf]
 refine (hq9 w2 hb2 rfl).mono ?_
 rintro e w3 ⟨rfl, hb3⟩
 try dsimp only
 apply Z.out; clear Z K
 refine fp fun K Z => ?_
 go_simp
 apply Z.out; clear Z K
 refine Fact.z hf fun fr1 hf1 hT => ?_
 have hKp : _ ∧ _ ∧ _ ∧ _ := ⟨hT 0, hT 7, hT 8, hT 9⟩
 simp (decide := true) only [Fact.G, hf.size, reduceIte, s0, s7, s8] at hKp
 replace hf := hf1; clear hT hf1 s0 s2 s7 s8 s9 s17 b24 b25 b26
 obtain ⟨s0, s7, s8, s9⟩ := hKp
 have g3 := cL hb3 g2
 have hr3 := hr2.later hb3
 have hb23 := hb2.trans (hb3.mono hb2.size)
 clear hr2 g2
 refine nx (hK6 _ _ ?_)
 refine Fact.sq fun K7 hK7 => ?_
 refine rg ?_
 have b27 := hf.b 27
 refine fp fun K Z => ?_
 go_simp
 apply Z.out; clear Z K
 refine fp fun K Z => ?_
 go_simp
 apply Z.out; clear Z K
 refine Fact.z hf fun fr1 hf1 hT => ?_
 have hKp : _ ∧ _ ∧ _ ∧ _ ∧ _ := ⟨hT 0, hT 7, hT 8, hT 9, hT 28⟩
 simp (decide := true) only [Fact.G, hf.size, reduceIte, s0, s7, s8, s9] at hKp
 replace hf := hf1; clear hT hf1 s0 s7 s8 s9 b27
 obtain ⟨s0, s7, s8, s9, s28⟩ := hKp
 refine nx (hK7 _ _ ?_)
 refine Fact.cond_s s28 (fun h2 => ?_) (fun h2 => ?_)
 · (
 have hne : c2 ≠ 0 := by simpa using h2
 clear h2
 refine rg ?_
 have b29 := hf.b 29
 have b30 := hf.b 30
 have b31 := hf.b 31
 have b32 := hf.b 32
 have b33 := hf.b 33
 refine fp fun K Z => ?_
 go_simp
 apply Z.out; clear Z K
 refine fp fun K Z => ?_
 go_simp
 apply Z.out; clear Z K
 refine fp fun K Z => ?_
 go_simp
 apply Z.out; clear Z K
 refine fp fun K Z => ?_
 go_simp
 apply Z.out; clear Z K
 refine fp fun K Z => ?_
 go_simp
 apply Z.out; clear Z K
 refine fp fun K Z => ?_
 go_simp
 go_at_call 33; refine (bad33 w3 c2 i).mono ?_; rintro e w4 ⟨q, rfl, hq1, hq2, hq3⟩
 try dsimp only
 refine pan9 hf.defers (ThR.two hne (Pan.via hb23 ⟨q, rfl, hq1, hq2, hq3⟩)))
 · (
 have hz : c2 = 0 := by simpa using h2
 clear h2
 subst hz
 have fz := frozen_of (i := 1) hr3
 refine wp_skip ?_
 refine nx (hK5 _ _ ?_)
 refine Fact.sq fun K8 hK8 => ?_
 refine rg ?_
 have b35 := hf.b 35
 have b36 := hf.b 36
 have b37 := hf.b 37
 have b38 := hf.b 38
 refine fp fun K Z => ?_
 go_simp
 apply Z.out; clear Z K
 refine fp fun K Z => ?_
 go_simp
 apply Z.out; clear Z K
 refine fp fun K Z => ?_
 go_simp
 apply Z.out; clear Z K
 refine fp fun K Z => ?_
 go_simp
 apply Z.out; clear Z K
 refine fp fun K Z => ?_
 go_simp
 apply Z.out; clear Z K
 refine Fact.z hf fun fr1 hf1 hT => ?_
 have hKp := hT 7
 simp (decide := true) only [Fact.G, reduceIte, s7] at hKp
 replace hf := hf1; clear hT hf1 s0 s7 s8 s9 s28 b35 b36 b37 b38
 have s7 := hKp; clear hKp
 have hr4 : RD (w3.setCell ⟨g, 1, none⟩ (.int .i64 ny)) g s ny := (set_block (i := 1) hr3 _).trans (by simp)
 have hbt : But (fun k => k = g) w (w3.setCell ⟨g, 1, none⟩ (.int .i64 ny)) := (But.of _ hb23).trans (But.setCell (S := fun k => k = g) rfl _)
 refine nx (hK8 _ _ ?_)
 refine Fact.sq fun K9 hK9 => ?_
 refine rg ?_
 have b39 := hf.b 39
 refine fp fun K Z => ?_
 go_simp
 apply Z.out; clear Z K
 refine fp fun K Z => ?_
 go_simp
 apply Z.out; clear Z K
 refine Fact.z hf fun fr1 hf1 hT => ?_
 have hKp := hT 6
 simp (decide := true) only [Fact.G, hf.size, reduceIte] at hKp
 replace hf := hf1; clear hT hf1 s7 b39
 have s6 := hKp; clear hKp
 refine nx (hK9 _ _ ?_)
 refine wp_ret ?_
 exact Fact.ret1 rfl hf s6 (ThR.ok hr4 hbt)))
set_option maxHeartbeats 4000000 in
set_option maxRecDepth 100000 in
theorem thing70 (w : World) (c g : Nat) (s : ByteArray) (i : Nat) (hc : w.cell? ⟨c, 0, none⟩ = some (.pointer (some ⟨g, 0, none⟩))) (hr : RD w g s i) (hi : i ≤ s.size) (hsz : s.size ≤ 1000000000) (fq : FuncId) (capq : Array Value) (c2 : Nat) (hcf : ∀ (xs : Array Value) (w1 : World), (callFunc fq xs).run Tryd.prog w1 = .ok (.enter fq xs) w1) (hq9 : ∀ w1, Below w.heap.size w w1 → (getN (wl s) i).2.2 = 0 → Calls Tryd.prog fq (#[.int .u64 (getN (wl s) i).1] ++ capq) w1 fun e w2 => e = .returned (.int .i64 c2) ∧ Below w1.heap.size w1 w2) : Calls Tryd.prog 70 #[.pointer (some ⟨g, 0, none⟩), .func (.func 71) #[] #[.pointer (some ⟨c, 0, none⟩)], .func (.func fq) #[] capq] w fun e w1 => ThR w w1 e .u64 (getN (wl s) i) c2 i g s := by
 refine calls_of_wp Tryd.func70 rfl ?_
 refine Fact.en 40 fun fr hf hT => ?_
 have s0 := hT 0 _ rfl
 have s1 := hT 1 _ rfl
 have s2 := hT 2 _ rfl
 clear hT
 obtain ⟨⟨x, ny, c1⟩, hrr⟩ : ∃ r, getN (wl s) i = r := ⟨_, rfl⟩
 rw [hrr] at hq9 ⊢
 have g1 := hr.c1
 have hgl := heap_lt hr
 refine Fact.sq fun K1 hK1 => ?_
 refine rg ?_
 refine fp fun K Z => ?_
 go_simp
 apply Z.out; clear Z K
 refine Fact.z hf fun fr1 hf1 hT => ?_
 have hKp : _ ∧ _ ∧ _ := ⟨hT 0, hT 1, hT 2⟩
 simp (decide := true) only [Fact.G, reduceIte, s0, s1, s2] at hKp
 replace hf := hf1; clear hT hf1 s0 s1 s2
 obtain ⟨s0, s1, s2⟩ := hKp
 refine nx (hK1 _ _ ?_)
 refine Fact.sq fun K2 hK2 => ?_
 refine rg ?_
 have b11 := hf.b 11
 have b12 := hf.b 12
 have b10 := hf.b 10
 have b13 := hf.b 13
 have b14 := hf.b 14
 have b15 := hf.b 15
 refine fp fun K Z => ?_
 go_simp
 apply Z.out; clear Z K
 refine fp fun K Z => ?_
 go_simp
 go_at_call 71; refine (num71 w c g s i hc hr hi hsz).mono ?_; rintro e w2 ⟨rfl, hb2⟩
 rw [hrr]
 try dsimp only
 apply Z.out; clear Z K
 refine fp fun K Z => ?_
 go_simp
 apply Z.out; clear Z K
 refine fp fun K Z => ?_
 go_simp
 apply Z.out; clear Z K
 refine fp fun K Z => ?_
 go_simp
 apply Z.out; clear Z K
 refine fp fun K Z => ?_
 go_simp
 apply Z.out; clear Z K
 refine fp fun K Z => ?_
 go_simp
 apply Z.out; clear Z K
 refine fp fun K Z => ?_
 go_simp
 apply Z.out; clear Z K
 refine fp fun K Z => ?_
 go_simp
 apply Z.out; clear Z K
 refine Fact.z hf fun fr1 hf1 hT => ?_
 have hKp : _ ∧ _ ∧ _ ∧ _ ∧ _ := ⟨hT 0, hT 2, hT 7, hT 8, hT 9⟩
 simp (decide := true) only [Fact.G, hf.size, reduceIte, s0, s2] at hKp
 replace hf := hf1; clear hT hf1 s0 s1 s2 b11 b12 b10 b13 b14 b15
 obtain ⟨s0, s2, s7, s8, s9⟩ := hKp
 have g2 := cL hb2 g1
 have hr2 := hr.later hb2
 clear hr g1 hc
 refine nx (hK2 _ _ ?_)
 refine Fact.sq fun K3 hK3 => ?_
 refine Fact.sq fun K4 hK4 => ?_
 refine rg ?_
 have b16 := hf.b 16
 refine fp fun K Z => ?_
 go_simp
 apply Z.out; clear Z K
 refine fp fun K Z => ?_
 go_simp
 apply Z.out; clear Z K
 refine Fact.z hf fun fr1 hf1 hT => ?_
 have hKp : _ ∧ _ ∧ _ ∧ _ ∧ _ ∧ _ := ⟨hT 0, hT 2, hT 7, hT 8, hT 9, hT 17⟩
 simp (decide := true) only [Fact.G, hf.size, reduceIte, s0, s2, s7, s8, s9] at hKp
 replace hf := hf1; clear hT hf1 s0 s2 s7 s8 s9 b16
 obtain ⟨s0, s2, s7, s8, s9, s17⟩ := hKp
 refine nx (hK4 _ _ ?_)
 refine Fact.cond_s s17 (fun h1 => ?_) (fun h1 => ?_)
 · (
 have hne : c1 ≠ 0 := by simpa using h1
 clear h1
 refine rg ?_
 have b18 := hf.b 18
 have b19 := hf.b 19
 have b20 := hf.b 20
 have b21 := hf.b 21
 have b22 := hf.b 22
 refine fp fun K Z => ?_
 go_simp
 apply Z.out; clear Z K
 refine fp fun K Z => ?_
 go_simp
 apply Z.out; clear Z K
 refine fp fun K Z => ?_
 go_simp
 apply Z.out; clear Z K
 refine fp fun K Z => ?_
 go_simp
 apply Z.out; clear Z K
 refine fp fun K Z => ?_
 go_simp
 apply Z.out; clear Z K
 refine fp fun K Z => ?_
 go_simp
 go_at_call 33; refine (bad33 w2 c1 i).mono ?_; rintro e w3 ⟨q, rfl, hq1, hq2, hq3⟩
 try dsimp only
 refine pan9 hf.defers (ThR.one hne (Pan.via hb2 ⟨q, rfl, hq1, hq2, hq3⟩)))
 · (
 have hz : c1 = 0 := by simpa using h1
 clear h1
 subst hz
 refine wp_skip ?_
 refine nx (hK3 _ _ ?_)
 refine Fact.sq fun K5 hK5 => ?_
 refine Fact.sq fun K6 hK6 => ?_
 refine rg ?_
 have b24 := hf.b 24
 have b25 := hf.b 25
 have b26 := hf.b 26
 refine fp fun K Z => ?_
 go_simp
 apply Z.out; clear Z K
 refine fp fun K Z => ?_
 go_simp
 apply Z.out; clear Z K
 refine fp fun K Z => ?_
 go_simp
 try rw [hcf]
 refine (hq9 w2 hb2 rfl).mono ?_
 rintro e w3 ⟨rfl, hb3⟩
 try dsimp only
 apply Z.out; clear Z K
 refine fp fun K Z => ?_
 go_simp
 apply Z.out; clear Z K
 refine Fact.z hf fun fr1 hf1 hT => ?_
 have hKp : _ ∧ _ ∧ _ ∧ _ := ⟨hT 0, hT 7, hT 8, hT 9⟩
 simp (decide := true) only [Fact.G, hf.size, reduceIte, s0, s7, s8] at hKp
 replace hf := hf1; clear hT hf1 s0 s2 s7 s8 s9 s17 b24 b25 b26
 obtain ⟨s0, s7, s8, s9⟩ := hKp
 have g3 := cL hb3 g2
 have hr3 := hr2.later hb3
 have hb23 := hb2.trans (hb3.mono hb2.size)
 clear hr2 g2
 refine nx (hK6 _ _ ?_)
 refine Fact.sq fun K7 hK7 => ?_
 refine rg ?_
 have b27 := hf.b 27
 refine fp fun K Z => ?_
 go_simp
 apply Z.out; clear Z K
 refine fp fun K Z => ?_
 go_simp
 apply Z.out; clear Z K
 refine Fact.z hf fun fr1 hf1 hT => ?_
 have hKp : _ ∧ _ ∧ _ ∧ _ ∧ _ := ⟨hT 0, hT 7, hT 8, hT 9, hT 28⟩
 simp (decide := true) only [Fact.G, hf.size, reduceIte, s0, s7, s8, s9] at hKp
 replace hf := hf1; clear hT hf1 s0 s7 s8 s9 b27
 obtain ⟨s0, s7, s8, s9, s28⟩ := hKp
 refine nx (hK7 _ _ ?_)
 refine Fact.cond_s s28 (fun h2 => ?_) (fun h2 => ?_)
 · (
 have hne : c2 ≠ 0 := by simpa using h2
 clear h2
 refine rg ?_
 have b29 := hf.b 29
 have b30 := hf.b 30
 have b31 := hf.b 31
 have b32 := hf.b 32
 have b33 := hf.b 33
 refine fp fun K Z => ?_
 go_simp
 apply Z.out; clear Z K
 refine fp fun K Z => ?_
 go_simp
 apply Z.out; clear Z K
 refine fp fun K Z => ?_
 go_simp
 apply Z.out; clear Z K
 refine fp fun K Z => ?_
 go_simp
 apply Z.out; clear Z K
 refine fp fun K Z => ?_
 go_simp
 apply Z.out; clear Z K
 refine fp fun K Z => ?_
 go_simp
 go_at_call 33; refine (bad33 w3 c2 i).mono ?_; rintro e w4 ⟨q, rfl, hq1, hq2, hq3⟩
 try dsimp only
 refine pan9 hf.defers (ThR.two hne (Pan.via hb23 ⟨q, rfl, hq1, hq2, hq3⟩)))
 · (
 have hz : c2 = 0 := by simpa using h2
 clear h2
 subst hz
 have fz := frozen_of (i := 1) hr3
 refine wp_skip ?_
 refine nx (hK5 _ _ ?_)
 refine Fact.sq fun K8 hK8 => ?_
 refine rg ?_
 have b35 := hf.b 35
 have b36 := hf.b 36
 have b37 := hf.b 37
 have b38 := hf.b 38
 refine fp fun K Z => ?_
 go_simp
 apply Z.out; clear Z K
 refine fp fun K Z => ?_
 go_simp
 apply Z.out; clear Z K
 refine fp fun K Z => ?_
 go_simp
 apply Z.out; clear Z K
 refine fp fun K Z => ?_
 go_simp
 apply Z.out; clear Z K
 refine fp fun K Z => ?_
 go_simp
 apply Z.out; clear Z K
 refine Fact.z hf fun fr1 hf1 hT => ?_
 have hKp := hT 7
 simp (decide := true) only [Fact.G, reduceIte, s7] at hKp
 replace hf := hf1; clear hT hf1 s0 s7 s8 s9 s28 b35 b36 b37 b38
 have s7 := hKp; clear hKp
 have hr4 : RD (w3.setCell ⟨g, 1, none⟩ (.int .i64 ny)) g s ny := (set_block (i := 1) hr3 _).trans (by simp)
 have hbt : But (fun k => k = g) w (w3.setCell ⟨g, 1, none⟩ (.int .i64 ny)) := (But.of _ hb23).trans (But.setCell (S := fun k => k = g) rfl _)
 refine nx (hK8 _ _ ?_)
 refine Fact.sq fun K9 hK9 => ?_
 refine rg ?_
 have b39 := hf.b 39
 refine fp fun K Z => ?_
 go_simp
 apply Z.out; clear Z K
 refine fp fun K Z => ?_
 go_simp
 apply Z.out; clear Z K
 refine Fact.z hf fun fr1 hf1 hT => ?_
 have hKp := hT 6
 simp (decide := true) only [Fact.G, hf.size, reduceIte] at hKp
 replace hf := hf1; clear hT hf1 s7 b39
 have s6 := hKp; clear hKp
 refine nx (hK9 _ _ ?_)
 refine wp_ret ?_
 exact Fact.ret1 rfl hf s6 (ThR.ok hr4 hbt)))
end Dw
end Go.Proofs.YtdkbgbdgmihlmaaDoor
