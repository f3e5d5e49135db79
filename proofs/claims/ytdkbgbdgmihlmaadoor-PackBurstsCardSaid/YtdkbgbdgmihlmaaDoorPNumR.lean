/- pack: char, num. -/
import Derived.Test.YtdkbgbdgmihlmaaDoorPThing
import Derived.Test.YtdkbgbdgmihlmaaDoorTools
namespace Go.Proofs.YtdkbgbdgmihlmaaDoor
open Go.RowKit
set_option linter.unusedSimpArgs false
set_option linter.unusedVariables false
set_option linter.unnecessarySimpa false
namespace Dw

theorem call_enter {P : Program} {f : FuncId} {fn : Func} {c : Code} (hf : P.funcs[f]? = some fn) (hn : (fn.name == "runtime.NumGoroutine") = false) (hb : fn.body = some c) (xs : Array Value) (w1 : World) : (callFunc f xs).run P w1 = .ok (.enter f xs) w1 := by
  have hn2 : ¬ fn.name = "runtime.NumGoroutine" := by simpa using hn
  simp [callFunc, program, Sem.run, hf, hn2, hb]
theorem call73 (xs : Array Value) (w1 : World) : (callFunc 73 xs).run Tryd.prog w1 = .ok (.enter 73 xs) w1 := call_enter Tryd.func73 (by kernel_rfl) rfl xs w1
theorem call74 (xs : Array Value) (w1 : World) : (callFunc 74 xs).run Tryd.prog w1 = .ok (.enter 74 xs) w1 := call_enter Tryd.func74 (by kernel_rfl) rfl xs w1
theorem call50 (xs : Array Value) (w1 : World) : (callFunc 50 xs).run Tryd.prog w1 = .ok (.enter 50 xs) w1 := call_enter Tryd.func50 (by kernel_rfl) rfl xs w1
theorem app12 (a b c : Value) : (#[a] ++ #[b, c] : Array Value) = #[a, b, c] := rfl
theorem app11 (a b : Value) : (#[a] ++ #[b] : Array Value) = #[a, b] := rfl
theorem app10 (a : Value) : (#[a] ++ #[] : Array Value) = #[a] := rfl
theorem ThR.good {w w1 : World} {e : Ending} {k : IntKind} {r : Nat × Nat × Nat} {c2 i g : Nat} {s : ByteArray} (h : ThR w w1 e k r c2 i g s) (hg : r.2.2 = 0 ∧ c2 = 0) : e = .returned (.int k r.1) ∧ RD w1 g s r.2.1 ∧ But (fun k => k = g) w w1 := by
  unfold ThR at h
  rw [if_neg (by simp [hg.1]), if_neg (by simp [hg.2])] at h
  exact h
theorem ThR.bad {w w1 : World} {e : Ending} {k : IntKind} {r : Nat × Nat × Nat} {c2 i g : Nat} {s : ByteArray} (h : ThR w w1 e k r c2 i g s) (hg : ¬ (r.2.2 = 0 ∧ c2 = 0)) : Pan w w1 e (if r.2.2 ≠ 0 then r.2.2 else c2 : Nat) i := by
  unfold ThR at h
  split at h
  · rename_i h1; rw [if_pos h1]; exact h
  · rename_i h1
    rw [if_neg h1]
    rw [if_pos (by intro e; exact hg ⟨by simpa using h1, e⟩)] at h
    exact h
theorem ThR.back {w w0 w1 : World} {e : Ending} {k : IntKind} {r : Nat × Nat × Nat} {c2 i g : Nat} {s : ByteArray} (hb : Below w.heap.size w w0) (h : ThR w0 w1 e k r c2 i g s) : ThR w w1 e k r c2 i g s := by
  unfold ThR at h ⊢
  split
  · rename_i h1; rw [if_pos h1] at h; exact Pan.via hb h
  · rename_i h1
    rw [if_neg h1] at h
    split
    · rename_i h2; rw [if_pos h2] at h; exact Pan.via hb h
    · rename_i h2
      rw [if_neg h2] at h
      exact ⟨h.1, h.2.1, (But.of _ hb).trans h.2.2⟩
set_option maxHeartbeats 4000000 in
set_option maxRecDepth 100000 in
theorem char49 (w : World) (g : Nat) (s : ByteArray) (i : Nat) (hr : RD w g s i) (hi : i ≤ s.size) (hsz : s.size ≤ 1000000000) (fq : FuncId) (capq : Array Value) (c2 : Nat) (hcf : ∀ (xs : Array Value) (w1 : World), (callFunc fq xs).run Tryd.prog w1 = .ok (.enter fq xs) w1) (hq9 : ∀ w1, Below w.heap.size w w1 → (charN s i).2.2 = 0 → Calls Tryd.prog fq (#[.int .u8 (charN s i).1] ++ capq) w1 fun e w2 => e = .returned (.int .i64 c2) ∧ Below w1.heap.size w1 w2) : Calls Tryd.prog 49 #[.pointer (some ⟨g, 0, none⟩), .func (.func fq) #[] capq] w fun e w1 => ThR w w1 e .u8 (charN s i) c2 i g s := by
 refine calls_of_wp Tryd.func49 rfl ?_
 refine Fact.en 9 fun fr hf hT => ?_
 have s0 := hT 0 _ rfl
 have s1 := hT 1 _ rfl
 clear hT
 by_cases hbd : (charN s i).2.2 = 0 ∧ c2 = 0
 · (
 refine Fact.sq fun K1 hK1 => ?_
 refine rg ?_
 refine fp fun K Z => ?_
 go_simp
 apply Z.out; clear Z K
 refine fp fun K Z => ?_
 go_simp
 apply Z.out; clear Z K
 refine Fact.z hf fun fr1 hf1 hT => ?_
 have hKp : _ ∧ _ := ⟨hT 1, hT 2⟩
 simp (decide := true) only [Fact.G, hf.size, reduceIte, s1] at hKp
 replace hf := hf1; clear hT hf1 s0 s1
 obtain ⟨s1, s2⟩ := hKp
 obtain ⟨W0, hW0⟩ : ∃ W0, w.alloc (.cells #[.pointer (some ⟨g, 0, none⟩)] 85) = W0 := ⟨_, rfl⟩
 try rw [hW0]
 obtain ⟨hb0, c0, -, -⟩ := box1 hW0
 clear hW0
 have hr0 := hr.later hb0
 refine nx (hK1 _ _ ?_)
 refine Fact.sq fun K2 hK2 => ?_
 refine rg ?_
 have b5 := hf.b 5
 have b6 := hf.b 6
 have b7 := hf.b 7
 have b8 := hf.b 8
 refine fp fun K Z => ?_
 go_simp
 apply Z.out; clear Z K
 refine fp fun K Z => ?_
 go_simp
 apply Z.out; clear Z K
 refine fp fun K Z => ?_
 go_simp
 apply Z.out; clear Z K
 refine fp fun K Z => ?_
 go_simp
 go_at_call 68; refine (thing68 W0 w.heap.size g s i c0 hr0 hi hsz fq capq c2 hcf (fun w1 h1 h2 => hq9 w1 (hb0.trans (h1.mono hb0.size)) h2)).mono ?_; rintro e w1 hth
 obtain ⟨rfl, h2, h3⟩ := hth.good hbd
 try dsimp only
 apply Z.out; clear Z K
 refine fp fun K Z => ?_
 go_simp
 apply Z.out; clear Z K
 refine Fact.z hf fun fr1 hf1 hT => ?_
 have hKp := hT 4
 simp (decide := true) only [Fact.G, hf.size, reduceIte] at hKp
 replace hf := hf1; clear hT hf1 s1 s2 b5 b6 b7 b8
 have s4 := hKp; clear hKp
 refine nx (hK2 _ _ ?_)
 refine wp_ret ?_
 exact Fact.ret1 rfl hf s4 (ThR.back hb0 hth))
 · (
 refine Fact.sq fun K3 hK3 => ?_
 refine rg ?_
 refine fp fun K Z => ?_
 go_simp
 apply Z.out; clear Z K
 refine fp fun K Z => ?_
 go_simp
 apply Z.out; clear Z K
 refine Fact.z hf fun fr1 hf1 hT => ?_
 have hKp : _ ∧ _ := ⟨hT 1, hT 2⟩
 simp (decide := true) only [Fact.G, hf.size, reduceIte, s1] at hKp
 replace hf := hf1; clear hT hf1 s0 s1
 obtain ⟨s1, s2⟩ := hKp
 obtain ⟨W0, hW0⟩ : ∃ W0, w.alloc (.cells #[.pointer (some ⟨g, 0, none⟩)] 85) = W0 := ⟨_, rfl⟩
 try rw [hW0]
 obtain ⟨hb0, c0, -, -⟩ := box1 hW0
 clear hW0
 have hr0 := hr.later hb0
 refine nx (hK3 _ _ ?_)
 refine Fact.sq fun K4 hK4 => ?_
 refine rg ?_
 have b5 := hf.b 5
 have b6 := hf.b 6
 have b7 := hf.b 7
 have b8 := hf.b 8
 refine fp fun K Z => ?_
 go_simp
 apply Z.out; clear Z K
 refine fp fun K Z => ?_
 go_simp
 apply Z.out; clear Z K
 refine fp fun K Z => ?_
 go_simp
 apply Z.out; clear Z K
 refine fp fun K Z => ?_
 go_simp
 go_at_call 68; refine (thing68 W0 w.heap.size g s i c0 hr0 hi hsz fq capq c2 hcf (fun w1 h1 h2 => hq9 w1 (hb0.trans (h1.mono hb0.size)) h2)).mono ?_; rintro e w1 hth
 obtain ⟨q, rfl, h2, h3, h4⟩ := hth.bad hbd
 try dsimp only
 try dsimp only
 exact pan9 hf.defers (ThR.back hb0 hth))
set_option maxHeartbeats 4000000 in
set_option maxRecDepth 100000 in
theorem num51 (w : World) (g : Nat) (s : ByteArray) (i : Nat) (hr : RD w g s i) (hi : i ≤ s.size) (hsz : s.size ≤ 1000000000) (lo hi9 : Nat) : Calls Tryd.prog 51 #[.pointer (some ⟨g, 0, none⟩), .int .u64 lo, .int .u64 hi9] w fun e w1 => ThR w w1 e .u64 (getN (wl s) i) (rangeN lo hi9 (getN (wl s) i).1) i g s := by
 refine calls_of_wp Tryd.func51 rfl ?_
 refine Fact.en 11 fun fr hf hT => ?_
 have s0 := hT 0 _ rfl
 have s1 := hT 1 _ rfl
 have s2 := hT 2 _ rfl
 clear hT
 obtain ⟨c2, hc2⟩ : ∃ x, rangeN lo hi9 (getN (wl s) i).1 = x := ⟨_, rfl⟩
 rw [hc2]
 have HC2 := Lib.hid hc2; clear hc2
 by_cases hbd : (getN (wl s) i).2.2 = 0 ∧ c2 = 0
 · (
 refine Fact.sq fun K1 hK1 => ?_
 refine rg ?_
 refine fp fun K Z => ?_
 go_simp
 apply Z.out; clear Z K
 refine fp fun K Z => ?_
 go_simp
 apply Z.out; clear Z K
 refine fp fun K Z => ?_
 go_simp
 apply Z.out; clear Z K
 refine fp fun K Z => ?_
 go_simp
 apply Z.out; clear Z K
 refine Fact.z hf fun fr1 hf1 hT => ?_
 have hKp : _ ∧ _ ∧ _ := ⟨hT 3, hT 4, hT 5⟩
 simp (decide := true) only [Fact.G, hf.size, reduceIte] at hKp
 replace hf := hf1; clear hT hf1 s0 s1 s2
 obtain ⟨s3, s4, s5⟩ := hKp
 obtain ⟨W0, hW0⟩ : ∃ x, w.alloc (.cells #[.pointer (some ⟨g, 0, none⟩)] 85) = x := ⟨_, rfl⟩
 try rw [hW0]
 obtain ⟨hba, c0, -, hza⟩ := box1 hW0
 clear hW0
 rw [← hza] at s4 s5
 clear hza
 obtain ⟨W1, hW1⟩ : ∃ x, W0.alloc (.cells #[.int .u64 lo] 23) = x := ⟨_, rfl⟩
 try rw [hW1]
 obtain ⟨hbb, c1, -, hzb⟩ := box1 hW1
 clear hW1
 rw [← hzb] at s5
 clear hzb
 obtain ⟨W2, hW2⟩ : ∃ x, W1.alloc (.cells #[.int .u64 hi9] 23) = x := ⟨_, rfl⟩
 try rw [hW2]
 obtain ⟨hbc, d2, -, -⟩ := box1 hW2
 clear hW2
 replace c1 := cL hbc c1
 replace c0 := cL hbc (cL hbb c0)
 have hb0 := (hba.trans (hbb.mono hba.size)).trans (hbc.mono (Nat.le_trans hba.size hbb.size))
 have hr0 := hr.later hb0
 refine nx (hK1 _ _ ?_)
 refine Fact.sq fun K2 hK2 => ?_
 refine rg ?_
 have b7 := hf.b 7
 have b8 := hf.b 8
 have b9 := hf.b 9
 have b10 := hf.b 10
 refine fp fun K Z => ?_
 go_simp
 apply Z.out; clear Z K
 refine fp fun K Z => ?_
 go_simp
 apply Z.out; clear Z K
 refine fp fun K Z => ?_
 go_simp
 apply Z.out; clear Z K
 refine fp fun K Z => ?_
 go_simp
 go_at_call 70; refine (thing70 W2 w.heap.size g s i c0 hr0 hi hsz 73 #[.pointer (some ⟨W0.heap.size, 0, none⟩), .pointer (some ⟨W1.heap.size, 0, none⟩)] c2 call73 (fun w1 h1 _ => by rw [app12, ← HC2.out]; exact num73 w1 _ lo hi9 _ _ (cL h1 c1) (cL h1 d2))).mono ?_; rintro e w1 hth
 obtain ⟨rfl, h2, h3⟩ := hth.good hbd
 try dsimp only
 apply Z.out; clear Z K
 refine fp fun K Z => ?_
 go_simp
 apply Z.out; clear Z K
 refine Fact.z hf fun fr1 hf1 hT => ?_
 have hKp := hT 6
 simp (decide := true) only [Fact.G, hf.size, reduceIte] at hKp
 replace hf := hf1; clear hT hf1 s3 s4 s5 b7 b8 b9 b10
 have s6 := hKp; clear hKp
 refine nx (hK2 _ _ ?_)
 refine wp_ret ?_
 exact Fact.ret1 rfl hf s6 (ThR.back hb0 hth))
 · (
 refine Fact.sq fun K3 hK3 => ?_
 refine rg ?_
 refine fp fun K Z => ?_
 go_simp
 apply Z.out; clear Z K
 refine fp fun K Z => ?_
 go_simp
 apply Z.out; clear Z K
 refine fp fun K Z => ?_
 go_simp
 apply Z.out; clear Z K
 refine fp fun K Z => ?_
 go_simp
 apply Z.out; clear Z K
 refine Fact.z hf fun fr1 hf1 hT => ?_
 have hKp : _ ∧ _ ∧ _ := ⟨hT 3, hT 4, hT 5⟩
 simp (decide := true) only [Fact.G, hf.size, reduceIte] at hKp
 replace hf := hf1; clear hT hf1 s0 s1 s2
 obtain ⟨s3, s4, s5⟩ := hKp
 obtain ⟨W0, hW0⟩ : ∃ x, w.alloc (.cells #[.pointer (some ⟨g, 0, none⟩)] 85) = x := ⟨_, rfl⟩
 try rw [hW0]
 obtain ⟨hba, c0, -, hza⟩ := box1 hW0
 clear hW0
 rw [← hza] at s4 s5
 clear hza
 obtain ⟨W1, hW1⟩ : ∃ x, W0.alloc (.cells #[.int .u64 lo] 23) = x := ⟨_, rfl⟩
 try rw [hW1]
 obtain ⟨hbb, c1, -, hzb⟩ := box1 hW1
 clear hW1
 rw [← hzb] at s5
 clear hzb
 obtain ⟨W2, hW2⟩ : ∃ x, W1.alloc (.cells #[.int .u64 hi9] 23) = x := ⟨_, rfl⟩
 try rw [hW2]
 obtain ⟨hbc, d2, -, -⟩ := box1 hW2
 clear hW2
 replace c1 := cL hbc c1
 replace c0 := cL hbc (cL hbb c0)
 have hb0 := (hba.trans (hbb.mono hba.size)).trans (hbc.mono (Nat.le_trans hba.size hbb.size))
 have hr0 := hr.later hb0
 refine nx (hK3 _ _ ?_)
 refine Fact.sq fun K4 hK4 => ?_
 refine rg ?_
 have b7 := hf.b 7
 have b8 := hf.b 8
 have b9 := hf.b 9
 have b10 := hf.b 10
 refine fp fun K Z => ?_
 go_simp
 apply Z.out; clear Z K
 refine fp fun K Z => ?_
 go_simp
 apply Z.out; clear Z K
 refine fp fun K Z => ?_
 go_simp
 apply Z.out; clear Z K
 refine fp fun K Z => ?_
 go_simp
 go_at_call 70; refine (thing70 W2 w.heap.size g s i c0 hr0 hi hsz 73 #[.pointer (some ⟨W0.heap.size, 0, none⟩), .pointer (some ⟨W1.heap.size, 0, none⟩)] c2 call73 (fun w1 h1 _ => by rw [app12, ← HC2.out]; exact num73 w1 _ lo hi9 _ _ (cL h1 c1) (cL h1 d2))).mono ?_; rintro e w1 hth
 obtain ⟨q, rfl, h2, h3, h4⟩ := hth.bad hbd
 try dsimp only
 try dsimp only
 exact pan9 hf.defers (ThR.back hb0 hth))
end Dw
end Go.Proofs.YtdkbgbdgmihlmaaDoor
