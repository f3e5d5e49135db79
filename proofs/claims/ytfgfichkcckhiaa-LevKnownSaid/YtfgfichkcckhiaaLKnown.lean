/- Lev: LevKnown. -/
import Derived.Test.YtfgfichkcckhiaaLConv
import Derived.Test.YtfgfichkcckhiaaLBound
import Derived.Test.YtfgfichkcckhiaaShelf3
namespace Go.Proofs.Ytfgfichkcckhiaa
open Go.RowKit
set_option linter.unusedSimpArgs false
set_option linter.unusedVariables false
set_option linter.unnecessarySimpa false
namespace Lv
def PTx (l : List ByteArray) : Stab.Pr := fun v w => ∃ b, v = .slice (some ⟨b, 0, none⟩) l.length l.length ∧ ∀ (i : Nat) (s : ByteArray), l[i]? = some s → w.cell? ⟨b, i, none⟩ = some (.string s)
theorem PTx.stable (l : List ByteArray) : Stab.Stable (PTx l) := fun v w w' hb ⟨b, h1, h2⟩ => ⟨b, h1, fun i s h => cell_later hb (h2 i s h)⟩
theorem long_at : ∀ i, i < 255 → at_ (⟨(Lib.repeatL (⟨#[97]⟩ : ByteArray).data.toList 255).toArray⟩ : ByteArray) i = 97 := by
  have h : (List.range 255).all (fun i => at_ (⟨(Lib.repeatL (⟨#[97]⟩ : ByteArray).data.toList 255).toArray⟩ : ByteArray) i == 97) = true := by kernel_rfl
  intro i hi
  simpa using List.all_eq_true.1 h i (List.mem_range.2 hi)
theorem same_R {q t : ByteArray} (hq : ∀ i, i < q.size → at_ q i = 97) (ht : ∀ j, j < t.size → at_ t j = 97) : ∀ j i, j ≤ t.size → i ≤ q.size → R q t j i = (i - j) + (j - i)
  | 0, i, _, _ => by rw [R_0]; omega
  | j + 1, 0, _, _ => by rw [R_j0]; omega
  | j + 1, i + 1, h1, h2 => by rw [R_ss, if_pos (by rw [hq i (by omega), ht j (by omega)]), same_R hq ht j i (by omega) (by omega)]; omega
theorem same_read {q t : ByteArray} {k : Nat} (hq : ∀ i, i < q.size → at_ q i = 97) (ht : ∀ j, j < t.size → at_ t j = 97) (hk : k ≤ 3) :
    isS q k (readS q k (startS q k) t) = decide ((q.size - t.size) + (t.size - q.size) ≤ k) ∧ distS q k (readS q k (startS q k) t) = if (q.size - t.size) + (t.size - q.size) ≤ k then (q.size - t.size) + (t.size - q.size) else 0 := by
  have h := same_R hq ht t.size q.size (Nat.le_refl _) (Nat.le_refl _)
  rw [readS, read_is hk, read_dist hk, h]
  exact ⟨rfl, rfl⟩
theorem EqK1 : startS (⟨#[]⟩ : ByteArray) 2 = (⟨#[0]⟩ : ByteArray) := by kernel_rfl
theorem EqK2 : readL (⟨#[]⟩ : ByteArray) 2 (⟨#[0]⟩ : ByteArray) [(⟨#[120]⟩ : ByteArray), (⟨#[]⟩ : ByteArray), (⟨#[121]⟩ : ByteArray)] = (⟨#[2]⟩ : ByteArray) := by kernel_rfl
theorem EqK3 : (distS (⟨#[]⟩ : ByteArray) 2 (⟨#[2]⟩ : ByteArray), isS (⟨#[]⟩ : ByteArray) 2 (⟨#[2]⟩ : ByteArray)) = (2, true) := by kernel_rfl
theorem EqK4 : readL (⟨#[]⟩ : ByteArray) 2 (⟨#[0]⟩ : ByteArray) [(⟨#[120, 121, 122]⟩ : ByteArray)] = (⟨#[3]⟩ : ByteArray) := by kernel_rfl
theorem EqK5 : (distS (⟨#[]⟩ : ByteArray) 2 (⟨#[3]⟩ : ByteArray), isS (⟨#[]⟩ : ByteArray) 2 (⟨#[3]⟩ : ByteArray)) = (0, false) := by kernel_rfl
theorem EqK6 : startS (⟨#[113]⟩ : ByteArray) 0 = (⟨#[0, 1]⟩ : ByteArray) := by kernel_rfl
theorem EqK7 : readL (⟨#[113]⟩ : ByteArray) 0 (⟨#[0, 1]⟩ : ByteArray) [(⟨#[114]⟩ : ByteArray)] = (⟨#[1, 1]⟩ : ByteArray) := by kernel_rfl
theorem EqK8 : (distS (⟨#[113]⟩ : ByteArray) 0 (⟨#[1, 1]⟩ : ByteArray), isS (⟨#[113]⟩ : ByteArray) 0 (⟨#[1, 1]⟩ : ByteArray)) = (0, false) := by kernel_rfl
theorem EqK9 : (bytesS (⟨#[]⟩ : ByteArray) 2 (⟨#[0]⟩ : ByteArray), moreS (⟨#[]⟩ : ByteArray) 2 (⟨#[0]⟩ : ByteArray)) = ([], true) := by kernel_rfl
theorem EqK10 : (distS (⟨#[]⟩ : ByteArray) 2 (⟨#[0, 0]⟩ : ByteArray), isS (⟨#[]⟩ : ByteArray) 2 (⟨#[0, 0]⟩ : ByteArray)) = (0, false) := by kernel_rfl
theorem EqK11 : (distS (⟨#[]⟩ : ByteArray) 2 (⟨#[4]⟩ : ByteArray), isS (⟨#[]⟩ : ByteArray) 2 (⟨#[4]⟩ : ByteArray)) = (0, false) := by kernel_rfl
theorem EqK12 : stepS (⟨#[]⟩ : ByteArray) 2 (⟨#[4]⟩ : ByteArray) 120 = (⟨#[]⟩ : ByteArray) := by kernel_rfl
theorem EqK13 : stepS (⟨#[]⟩ : ByteArray) 2 (⟨#[]⟩ : ByteArray) 120 = (⟨#[]⟩ : ByteArray) := by kernel_rfl
theorem EqK14 : canS (⟨#[]⟩ : ByteArray) 2 (⟨#[4]⟩ : ByteArray) = false := by kernel_rfl
theorem EqK15 : canS (⟨#[]⟩ : ByteArray) 2 (⟨#[]⟩ : ByteArray) = false := by kernel_rfl
set_option maxHeartbeats 4000000 in
set_option maxRecDepth 100000 in
theorem known8  (w : World) : Calls Try.prog 8 #[] w fun e w1 => e = .returned (.bool true) ∧ Below w.heap.size w w1 := by
 refine calls_of_wp Try.func8 rfl ?_
 refine Fact.enter (n := 255) (by kernel_rfl) (fun fr hf hT => ?_)
 clear hT
 refine wp_seq_k (fun K1 hK1 => ?_)
 refine Fact.region ?_
 refine Fact.p rfl fun K hK => ?_
 go_simp
 refine hK.out _ _ ?_; clear hK K
 refine Fact.nil ?_
 refine Fact.reQ (n := 255) (by simp only [Fact.G, hf.size]) hf.defers (fun fr1 hf1 hT => ?_)
 have hKp := hT 0
 simp only [Fact.G, Nat.reduceEqDiff, Nat.reduceLT, reduceIte, hf.size] at hKp
 clear hT hf 
 have s0 := hKp; clear hKp
 have hf := hf1; clear hf1
 refine Fact.then_normal ?_
 refine hK1 _ _ ?_
 refine wp_seq_k (fun K2 hK2 => ?_)
 refine wp_seq_k (fun K3 hK3 => ?_)
 refine Fact.region ?_
 have b28 := hf.l 28 rfl
 have b29 := hf.l 29 rfl
 have b30 := hf.l 30 rfl
 have cc := works20 w
 refine Fact.p rfl fun K hK => ?_
 go_simp
 go_at_call 20; refine (cc).mono ?_; rintro e w1 ⟨rfl, h1⟩
 clear cc
 have hbw1 := h1
 dsimp only
 refine hK.out _ _ ?_; clear hK K
 refine Fact.p rfl fun K hK => ?_
 go_simp
 refine hK.out _ _ ?_; clear hK K
 refine Fact.p rfl fun K hK => ?_
 go_simp
 refine hK.out _ _ ?_; clear hK K
 refine Fact.p rfl fun K hK => ?_
 go_simp
 refine hK.out _ _ ?_; clear hK K
 refine Fact.nil ?_
 refine Fact.reQ (n := 255) (by simp only [Fact.G, hf.size]) hf.defers (fun fr1 hf1 hT => ?_)
 have hKp : _ ∧ _ := ⟨hT 0, hT 31⟩
 simp only [Fact.G, Nat.reduceEqDiff, Nat.reduceLT, reduceIte, hf.size, s0] at hKp
 clear hT hf s0 b28 b29 b30
 obtain ⟨s0, s31⟩ := hKp
 have hf := hf1; clear hf1
 refine Fact.then_normal ?_
 refine hK3 _ _ ?_
 refine Fact.cond_f s31 ?_
 refine wp_skip ?_
 refine Fact.then_normal ?_
 refine hK2 _ _ ?_
 refine wp_seq_k (fun K4 hK4 => ?_)
 refine Fact.region ?_
 refine Fact.p rfl fun K hK => ?_
 go_simp
 refine hK.out _ _ ?_; clear hK K
 refine Fact.nil ?_
 refine Fact.reQ (n := 255) (by simp only [Fact.G, hf.size]) hf.defers (fun fr1 hf1 hT => ?_)
 have hKp : _ ∧ _ := ⟨hT 0, hT 1⟩
 simp only [Fact.G, Nat.reduceEqDiff, Nat.reduceLT, reduceIte, hf.size, s0] at hKp
 clear hT hf s0 s31
 obtain ⟨s0, s1⟩ := hKp
 have hf := hf1; clear hf1
 refine Fact.then_normal ?_
 refine hK4 _ _ ?_
 refine wp_seq_k (fun K5 hK5 => ?_)
 refine Fact.region ?_
 have b32 := hf.l 32 rfl
 have cc := Try.strings_Repeat (⟨#[97]⟩ : ByteArray) 255 w1 (by omega) (by decide)
 refine Fact.p rfl fun K hK => ?_
 go_simp
 go_at_call 26; refine (cc).mono ?_; rintro e w2 ⟨rfl, h2⟩
 clear cc
 have hbw2 := hbw1.trans (h2.mono hbw1.size)
 dsimp only
 refine hK.out _ _ ?_; clear hK K
 refine Fact.p rfl fun K hK => ?_
 go_simp
 refine hK.out _ _ ?_; clear hK K
 refine Fact.nil ?_
 refine Fact.reQ (n := 255) (by simp only [Fact.G, hf.size]) hf.defers (fun fr1 hf1 hT => ?_)
 have hKp : _ ∧ _ ∧ _ := ⟨hT 0, hT 1, hT 2⟩
 simp only [Fact.G, Nat.reduceEqDiff, Nat.reduceLT, reduceIte, hf.size, s0, s1] at hKp
 clear hT hf s0 s1 b32
 obtain ⟨s0, s1, s2⟩ := hKp
 have hf := hf1; clear hf1
 refine Fact.then_normal ?_
 refine hK5 _ _ ?_
 obtain ⟨long, hlong⟩ : ∃ x : ByteArray, (⟨(Lib.repeatL (⟨#[97]⟩ : ByteArray).data.toList 255).toArray⟩ : ByteArray) = x := ⟨_, rfl⟩
 try rw [hlong] at s2
 have hsz : long.size = 255 := by rw [← hlong]; kernel_rfl
 have hat : ∀ i, i < 255 → at_ long i = 97 := by rw [← hlong]; exact long_at
 have HAT := Lib.hid hat
 clear hlong hat
 refine wp_seq_k (fun K6 hK6 => ?_)
 refine Fact.region ?_
 have b33 := hf.l 33 rfl
 have b34 := hf.l 34 rfl
 have b35 := hf.l 35 rfl
 have cc := new10 (⟨#[]⟩ : ByteArray) 2 (by decide) (by decide) w2
 refine Fact.p rfl fun K hK => ?_
 go_simp
 go_at_call 10; refine (cc).mono ?_; rintro e w3 ⟨g, rfl, hAg0, hg0, h3⟩
 clear cc
 have hbw3 := hbw2.trans (h3.mono hbw2.size)
 dsimp only
 refine hK.out _ _ ?_; clear hK K
 refine Fact.p rfl fun K hK => ?_
 go_simp
 refine hK.out _ _ ?_; clear hK K
 have cc := new10 long 3 (by omega) (by decide) w3
 refine Fact.p rfl fun K hK => ?_
 go_simp
 go_at_call 10; refine (cc).mono ?_; rintro e w4 ⟨u, rfl, hAu0, hu0, h4⟩
 clear cc
 have hbw4 := hbw3.trans (h4.mono hbw3.size)
 have hAgw4 := hAg0.later h4
 dsimp only
 refine hK.out _ _ ?_; clear hK K
 refine Fact.p rfl fun K hK => ?_
 go_simp
 refine hK.out _ _ ?_; clear hK K
 refine Fact.p rfl fun K hK => ?_
 go_simp
 refine hK.out _ _ ?_; clear hK K
 refine Fact.nil ?_
 refine Fact.reQ (n := 255) (by simp only [Fact.G, hf.size]) hf.defers (fun fr1 hf1 hT => ?_)
 have hKp : _ ∧ _ ∧ _ ∧ _ ∧ _ := ⟨hT 0, hT 1, hT 2, hT 3, hT 4⟩
 simp only [Fact.G, Nat.reduceEqDiff, Nat.reduceLT, reduceIte, hf.size, s0, s1, s2] at hKp
 clear hT hf s0 s1 s2 b33 b34 b35
 obtain ⟨s0, s1, s2, s3, s4⟩ := hKp
 have hf := hf1; clear hf1
 refine Fact.then_normal ?_
 refine hK6 _ _ ?_
 have HBIG := Lib.hid (show 255 < (long ++ (⟨#[97]⟩ : ByteArray)).size by rw [ByteArray.size_append, hsz]; exact Nat.lt_succ_self 255)
 have hadd : ∀ W : World, (Op.stringOp .add long (⟨#[97]⟩ : ByteArray)).run Try.prog W = .ok (.string (long ++ (⟨#[97]⟩ : ByteArray))) W := fun W => run_string_add_sum W long _ (by rw [hsz]; decide)
 have hal := HAT.out
 have hd0 := same_read (q := long) (t := long) (k := 3) (fun i hi => hal i (by omega)) (fun i hi => hal i (by omega)) (by omega)
 have hd3 := same_read (q := long) (t := long.extract 0 252) (k := 3) (fun i hi => hal i (by omega)) (fun i hi => by rw [ByteArray.size_extract] at hi; rw [at_take (by omega) (by omega)]; exact hal i (by omega)) (by omega)
 have hd4 := same_read (q := long) (t := long.extract 0 251) (k := 3) (fun i hi => hal i (by omega)) (fun i hi => by rw [ByteArray.size_extract] at hi; rw [at_take (by omega) (by omega)]; exact hal i (by omega)) (by omega)
 have z3 : (long.extract 0 252).size = 252 := by rw [ByteArray.size_extract]; omega
 have z4 : (long.extract 0 251).size = 251 := by rw [ByteArray.size_extract]; omega
 rw [hsz] at hd0; rw [z3, hsz] at hd3; rw [z4, hsz] at hd4
 obtain ⟨i0, d0⟩ := hd0; obtain ⟨i3, d3⟩ := hd3; obtain ⟨i4, d4⟩ := hd4
 have I0 := Lib.hid i0; have I3 := Lib.hid i3; have I4 := Lib.hid i4; have D0 := Lib.hid d0; have D3 := Lib.hid d3; have D4 := Lib.hid d4
 clear i0 i3 i4 d0 d3 d4 hal z3 z4
 refine wp_seq_k (fun K7 hK7 => ?_)
 refine wp_seq_k (fun K8 hK8 => ?_)
 refine Fact.region ?_
 have b36 := hf.l 36 rfl
 have b37 := hf.l 37 rfl
 have b38 := hf.l 38 rfl
 have b39 := hf.l 39 rfl
 have b40 := hf.l 40 rfl
 have b41 := hf.l 41 rfl
 have b42 := hf.l 42 rfl
 have b43 := hf.l 43 rfl
 have b44 := hf.l 44 rfl
 have b45 := hf.l 45 rfl
 have b46 := hf.l 46 rfl
 have b47 := hf.l 47 rfl
 have b48 := hf.l 48 rfl
 have b49 := hf.l 49 rfl
 have b50 := hf.l 50 rfl
 have b51 := hf.l 51 rfl
 have b52 := hf.l 52 rfl
 have b53 := hf.l 53 rfl
 have b54 := hf.l 54 rfl
 refine Fact.p rfl fun K hK => ?_
 go_simp
 refine hK.out _ _ ?_; clear hK K
 refine Fact.p rfl fun K hK => ?_
 go_simp
 refine hK.out _ _ ?_; clear hK K
 refine Fact.p rfl fun K hK => ?_
 go_simp
 refine hK.out _ _ ?_; clear hK K
 refine Fact.op_guard (g := 2) (d := 38) (b := false) rfl rfl rfl ?_ (fun K hK => ?_)
 ·
  simp only [Fact.G, Nat.reduceEqDiff, Nat.reduceLT, reduceIte, hf.size, Bool.not_true, Bool.not_false]
 go_simp
 refine hK.out _ _ ?_; clear hK K
 refine Fact.op_guard (g := 2) (d := 38) (b := false) rfl rfl rfl ?_ (fun K hK => ?_)
 ·
  simp only [Fact.G, Nat.reduceEqDiff, Nat.reduceLT, reduceIte, hf.size, Bool.not_true, Bool.not_false]
 go_simp
 refine hK.out _ _ ?_; clear hK K
 refine Fact.p rfl fun K hK => ?_
 go_simp
 refine hK.out _ _ ?_; clear hK K
 refine Fact.p rfl fun K hK => ?_
 go_simp
 refine hK.out _ _ ?_; clear hK K
 refine Fact.op_guard (g := 6) (d := 42) (b := false) rfl rfl rfl ?_ (fun K hK => ?_)
 ·
  simp only [Fact.G, Nat.reduceEqDiff, Nat.reduceLT, reduceIte, hf.size, Bool.not_true, Bool.not_false]
 go_simp
 refine hK.out _ _ ?_; clear hK K
 refine Fact.op_guard (g := 6) (d := 42) (b := false) rfl rfl rfl ?_ (fun K hK => ?_)
 ·
  simp only [Fact.G, Nat.reduceEqDiff, Nat.reduceLT, reduceIte, hf.size, Bool.not_true, Bool.not_false]
 go_simp
 try simp (disch := omega) only [Fact.wrap_i64, Fact.wrap_u8, Fact.wrap_u32, Fact.wrap_u64]
 refine hK.out _ _ ?_; clear hK K
 refine Fact.op_guard (g := 6) (d := 42) (b := false) rfl rfl rfl ?_ (fun K hK => ?_)
 ·
  simp only [Fact.G, Nat.reduceEqDiff, Nat.reduceLT, reduceIte, hf.size, Bool.not_true, Bool.not_false]
 go_simp
 go_at_call 10; refine (new10n0 (long ++ (⟨#[97]⟩ : ByteArray)) 3 HBIG.out w4).mono ?_; rintro e w4b ⟨rfl, rfl⟩
 dsimp only
 refine hK.out _ _ ?_; clear hK K
 refine Fact.op_guard (g := 6) (d := 42) (b := false) rfl rfl rfl ?_ (fun K hK => ?_)
 ·
  simp only [Fact.G, Nat.reduceEqDiff, Nat.reduceLT, reduceIte, hf.size, Bool.not_true, Bool.not_false]
 go_simp
 refine hK.out _ _ ?_; clear hK K
 refine Fact.p rfl fun K hK => ?_
 go_simp
 refine hK.out _ _ ?_; clear hK K
 refine Fact.p rfl fun K hK => ?_
 go_simp
 refine hK.out _ _ ?_; clear hK K
 refine Fact.op_guard (g := 12) (d := 48) (b := false) rfl rfl rfl ?_ (fun K hK => ?_)
 ·
  simp only [Fact.G, Nat.reduceEqDiff, Nat.reduceLT, reduceIte, hf.size, Bool.not_true, Bool.not_false]
 go_simp
 go_at_call 10; refine (new10n2 (⟨#[97]⟩ : ByteArray) 4 (by decide) (by decide) w4).mono ?_; rintro e w4c ⟨rfl, rfl⟩
 dsimp only
 refine hK.out _ _ ?_; clear hK K
 refine Fact.op_guard (g := 12) (d := 48) (b := false) rfl rfl rfl ?_ (fun K hK => ?_)
 ·
  simp only [Fact.G, Nat.reduceEqDiff, Nat.reduceLT, reduceIte, hf.size, Bool.not_true, Bool.not_false]
 go_simp
 refine hK.out _ _ ?_; clear hK K
 refine Fact.p rfl fun K hK => ?_
 go_simp
 refine hK.out _ _ ?_; clear hK K
 refine Fact.p rfl fun K hK => ?_
 go_simp
 refine hK.out _ _ ?_; clear hK K
 refine Fact.op_guard (g := 16) (d := 52) (b := false) rfl rfl rfl ?_ (fun K hK => ?_)
 ·
  simp only [Fact.G, Nat.reduceEqDiff, Nat.reduceLT, reduceIte, hf.size, Bool.not_true, Bool.not_false]
 go_simp
 go_at_call 10; refine (new10n1 (⟨#[97]⟩ : ByteArray) (-1) (by decide) (by decide) w4).mono ?_; rintro e w4d ⟨rfl, rfl⟩
 dsimp only
 refine hK.out _ _ ?_; clear hK K
 refine Fact.op_guard (g := 16) (d := 52) (b := false) rfl rfl rfl ?_ (fun K hK => ?_)
 ·
  simp only [Fact.G, Nat.reduceEqDiff, Nat.reduceLT, reduceIte, hf.size, Bool.not_true, Bool.not_false]
 go_simp
 refine hK.out _ _ ?_; clear hK K
 refine Fact.p rfl fun K hK => ?_
 go_simp
 refine hK.out _ _ ?_; clear hK K
 refine Fact.nil ?_
 refine Fact.reQ (n := 255) (by simp only [Fact.G, hf.size]) hf.defers (fun fr1 hf1 hT => ?_)
 have hKp : _ ∧ _ ∧ _ ∧ _ ∧ _ ∧ _ := ⟨hT 0, hT 1, hT 2, hT 3, hT 4, hT 55⟩
 simp only [Fact.G, Nat.reduceEqDiff, Nat.reduceLT, reduceIte, hf.size, s0, s1, s2, s3, s4] at hKp
 clear hT hf s0 s1 s2 s3 s4 b36 b37 b38 b39 b40 b41 b42 b43 b44 b45 b46 b47 b48 b49 b50 b51 b52 b53 b54
 obtain ⟨s0, s1, s2, s3, s4, s55⟩ := hKp
 have hf := hf1; clear hf1
 refine Fact.then_normal ?_
 refine hK8 _ _ ?_
 refine Fact.cond_f s55 ?_
 refine wp_skip ?_
 refine Fact.then_normal ?_
 refine hK7 _ _ ?_
 refine wp_seq_k (fun K9 hK9 => ?_)
 refine Fact.region ?_
 have b57 := hf.l 57 rfl
 have b58 := hf.l 58 rfl
 have b59 := hf.l 59 rfl
 have b60 := hf.l 60 rfl
 have b61 := hf.l 61 rfl
 have b62 := hf.l 62 rfl
 have b63 := hf.l 63 rfl
 have b56 := hf.l 56 rfl
 have b64 := hf.l 64 rfl
 have b65 := hf.l 65 rfl
 refine Fact.p rfl fun K hK => ?_
 go_simp
 refine hK.out _ _ ?_; clear hK K
 refine Fact.p rfl fun K hK => ?_
 go_simp
 refine hK.out _ _ ?_; clear hK K
 refine Fact.p rfl fun K hK => ?_
 go_simp
 refine hK.out _ _ ?_; clear hK K
 have cc := start13 w4 g (⟨#[]⟩ : ByteArray) 2 hAgw4
 rw [EqK1] at cc
 refine Fact.p rfl fun K hK => ?_
 go_simp
 go_at_call 13; refine (cc).mono ?_; rintro e w5 ⟨rfl, h5⟩
 clear cc
 have hbw5 := hbw4.trans (h5.mono hbw4.size)
 have hAgw5 := hAgw4.later h5
 have hAuw5 := hAu0.later h5
 dsimp only
 refine hK.out _ _ ?_; clear hK K
 refine Fact.p rfl fun K hK => ?_
 go_simp
 refine hK.out _ _ ?_; clear hK K
 have hx6 : Below w5.heap.size w5 (w5.alloc (.cells #[.string (⟨#[120]⟩ : ByteArray), .string (⟨#[]⟩ : ByteArray), .string (⟨#[121]⟩ : ByteArray)] 9)) := (Below.refl _ _).alloc (Nat.le_refl _) _
 have ht6 := txt_new w5 [(⟨#[120]⟩ : ByteArray), (⟨#[]⟩ : ByteArray), (⟨#[121]⟩ : ByteArray)]
 have hbx6 := hbw5.trans (hx6.mono hbw5.size)
 have hAgx6 := hAgw5.later hx6
 have hAux6 := hAuw5.later hx6
 have cc := read18 (w5.alloc (.cells #[.string (⟨#[120]⟩ : ByteArray), .string (⟨#[]⟩ : ByteArray), .string (⟨#[121]⟩ : ByteArray)] 9)) g (⟨#[]⟩ : ByteArray) 2 hAgx6 (⟨#[0]⟩ : ByteArray) w5.heap.size 3 [(⟨#[120]⟩ : ByteArray), (⟨#[]⟩ : ByteArray), (⟨#[121]⟩ : ByteArray)] ht6 (txt_small (by decide)) (by decide)
 rw [EqK2] at cc
 refine Fact.p rfl fun K hK => ?_
 go_simp
 go_at_call 18; refine (cc).mono ?_; rintro e w7 ⟨rfl, h7⟩
 clear cc
 have hbw7 := hbx6.trans (h7.mono hbx6.size)
 have hAgw7 := hAgx6.later h7
 have hAuw7 := hAux6.later h7
 dsimp only
 refine hK.out _ _ ?_; clear hK K
 have cc := dist22 w7 g (⟨#[]⟩ : ByteArray) 2 hAgw7 (⟨#[2]⟩ : ByteArray)
 have ce := EqK3
 injection ce with ce1 ce2
 rw [ce1, ce2] at cc
 clear ce1 ce2
 refine Fact.p rfl fun K hK => ?_
 go_simp
 go_at_call 22; refine (cc).mono ?_; rintro e w8 ⟨rfl, h8⟩
 clear cc
 have hbw8 := hbw7.trans (h8.mono hbw7.size)
 have hAgw8 := hAgw7.later h8
 have hAuw8 := hAuw7.later h8
 dsimp only
 refine hK.out _ _ ?_; clear hK K
 refine Fact.p rfl fun K hK => ?_
 go_simp
 refine hK.out _ _ ?_; clear hK K
 refine Fact.p rfl fun K hK => ?_
 go_simp
 refine hK.out _ _ ?_; clear hK K
 refine Fact.p rfl fun K hK => ?_
 go_simp
 refine hK.out _ _ ?_; clear hK K
 refine Fact.p rfl fun K hK => ?_
 go_simp
 refine hK.out _ _ ?_; clear hK K
 refine Fact.p rfl fun K hK => ?_
 go_simp
 refine hK.out _ _ ?_; clear hK K
 refine Fact.nil ?_
 refine Fact.reQ (n := 255) (by simp only [Fact.G, hf.size]) hf.defers (fun fr1 hf1 hT => ?_)
 have hKp : _ ∧ _ ∧ _ ∧ _ ∧ _ ∧ _ ∧ _ := ⟨hT 0, hT 1, hT 2, hT 3, hT 4, hT 5, hT 6⟩
 simp only [Fact.G, Nat.reduceEqDiff, Nat.reduceLT, reduceIte, hf.size, s0, s1, s2, s3, s4] at hKp
 clear hT hf s0 s1 s2 s3 s4 s55 b57 b58 b59 b60 b61 b62 b63 b56 b64 b65
 obtain ⟨s0, s1, s2, s3, s4, s5, s6⟩ := hKp
 have hf := hf1; clear hf1
 refine Fact.then_normal ?_
 refine hK9 _ _ ?_
 refine wp_seq_k (fun K10 hK10 => ?_)
 refine Fact.region ?_
 have b67 := hf.l 67 rfl
 have b68 := hf.l 68 rfl
 have b69 := hf.l 69 rfl
 have b70 := hf.l 70 rfl
 have b71 := hf.l 71 rfl
 have b72 := hf.l 72 rfl
 have b73 := hf.l 73 rfl
 have b66 := hf.l 66 rfl
 have b74 := hf.l 74 rfl
 have b75 := hf.l 75 rfl
 refine Fact.p rfl fun K hK => ?_
 go_simp
 refine hK.out _ _ ?_; clear hK K
 refine Fact.p rfl fun K hK => ?_
 go_simp
 refine hK.out _ _ ?_; clear hK K
 refine Fact.p rfl fun K hK => ?_
 go_simp
 refine hK.out _ _ ?_; clear hK K
 have cc := start13 w8 g (⟨#[]⟩ : ByteArray) 2 hAgw8
 rw [EqK1] at cc
 refine Fact.p rfl fun K hK => ?_
 go_simp
 go_at_call 13; refine (cc).mono ?_; rintro e w9 ⟨rfl, h9⟩
 clear cc
 have hbw9 := hbw8.trans (h9.mono hbw8.size)
 have hAgw9 := hAgw8.later h9
 have hAuw9 := hAuw8.later h9
 dsimp only
 refine hK.out _ _ ?_; clear hK K
 refine Fact.p rfl fun K hK => ?_
 go_simp
 refine hK.out _ _ ?_; clear hK K
 have hx10 : Below w9.heap.size w9 (w9.alloc (.cells #[.string (⟨#[120, 121, 122]⟩ : ByteArray)] 9)) := (Below.refl _ _).alloc (Nat.le_refl _) _
 have ht10 := txt_new w9 [(⟨#[120, 121, 122]⟩ : ByteArray)]
 have hbx10 := hbw9.trans (hx10.mono hbw9.size)
 have hAgx10 := hAgw9.later hx10
 have hAux10 := hAuw9.later hx10
 have cc := read18 (w9.alloc (.cells #[.string (⟨#[120, 121, 122]⟩ : ByteArray)] 9)) g (⟨#[]⟩ : ByteArray) 2 hAgx10 (⟨#[0]⟩ : ByteArray) w9.heap.size 1 [(⟨#[120, 121, 122]⟩ : ByteArray)] ht10 (txt_small (by decide)) (by decide)
 rw [EqK4] at cc
 refine Fact.p rfl fun K hK => ?_
 go_simp
 go_at_call 18; refine (cc).mono ?_; rintro e w11 ⟨rfl, h11⟩
 clear cc
 have hbw11 := hbx10.trans (h11.mono hbx10.size)
 have hAgw11 := hAgx10.later h11
 have hAuw11 := hAux10.later h11
 dsimp only
 refine hK.out _ _ ?_; clear hK K
 have cc := dist22 w11 g (⟨#[]⟩ : ByteArray) 2 hAgw11 (⟨#[3]⟩ : ByteArray)
 have ce := EqK5
 injection ce with ce1 ce2
 rw [ce1, ce2] at cc
 clear ce1 ce2
 refine Fact.p rfl fun K hK => ?_
 go_simp
 go_at_call 22; refine (cc).mono ?_; rintro e w12 ⟨rfl, h12⟩
 clear cc
 have hbw12 := hbw11.trans (h12.mono hbw11.size)
 have hAgw12 := hAgw11.later h12
 have hAuw12 := hAuw11.later h12
 dsimp only
 refine hK.out _ _ ?_; clear hK K
 refine Fact.p rfl fun K hK => ?_
 go_simp
 refine hK.out _ _ ?_; clear hK K
 refine Fact.p rfl fun K hK => ?_
 go_simp
 refine hK.out _ _ ?_; clear hK K
 refine Fact.p rfl fun K hK => ?_
 go_simp
 refine hK.out _ _ ?_; clear hK K
 refine Fact.p rfl fun K hK => ?_
 go_simp
 refine hK.out _ _ ?_; clear hK K
 refine Fact.p rfl fun K hK => ?_
 go_simp
 refine hK.out _ _ ?_; clear hK K
 refine Fact.nil ?_
 refine Fact.reQ (n := 255) (by simp only [Fact.G, hf.size]) hf.defers (fun fr1 hf1 hT => ?_)
 have hKp : _ ∧ _ ∧ _ ∧ _ ∧ _ ∧ _ ∧ _ ∧ _ := ⟨hT 0, hT 1, hT 2, hT 3, hT 4, hT 5, hT 6, hT 8⟩
 simp only [Fact.G, Nat.reduceEqDiff, Nat.reduceLT, reduceIte, hf.size, s0, s1, s2, s3, s4, s5, s6] at hKp
 clear hT hf s0 s1 s2 s3 s4 s5 s6 b67 b68 b69 b70 b71 b72 b73 b66 b74 b75
 obtain ⟨s0, s1, s2, s3, s4, s5, s6, s8⟩ := hKp
 have hf := hf1; clear hf1
 refine Fact.then_normal ?_
 refine hK10 _ _ ?_
 refine wp_seq_k (fun K11 hK11 => ?_)
 refine Fact.region ?_
 have b77 := hf.l 77 rfl
 have b78 := hf.l 78 rfl
 have b79 := hf.l 79 rfl
 have b80 := hf.l 80 rfl
 have b81 := hf.l 81 rfl
 have b82 := hf.l 82 rfl
 have b83 := hf.l 83 rfl
 have b84 := hf.l 84 rfl
 have b76 := hf.l 76 rfl
 have b85 := hf.l 85 rfl
 have b86 := hf.l 86 rfl
 refine Fact.p rfl fun K hK => ?_
 go_simp
 refine hK.out _ _ ?_; clear hK K
 refine Fact.p rfl fun K hK => ?_
 go_simp
 refine hK.out _ _ ?_; clear hK K
 refine Fact.p rfl fun K hK => ?_
 go_simp
 refine hK.out _ _ ?_; clear hK K
 have cc := start13 w12 u long 3 hAuw12
 refine Fact.p rfl fun K hK => ?_
 go_simp
 go_at_call 13; refine (cc).mono ?_; rintro e w13 ⟨rfl, h13⟩
 clear cc
 have hbw13 := hbw12.trans (h13.mono hbw12.size)
 have hAgw13 := hAgw12.later h13
 have hAuw13 := hAuw12.later h13
 dsimp only
 refine hK.out _ _ ?_; clear hK K
 refine Fact.p rfl fun K hK => ?_
 go_simp
 refine hK.out _ _ ?_; clear hK K
 refine Fact.p rfl fun K hK => ?_
 go_simp
 refine hK.out _ _ ?_; clear hK K
 have hx14 : Below w13.heap.size w13 (w13.alloc (.cells #[.string long] 9)) := (Below.refl _ _).alloc (Nat.le_refl _) _
 have ht14 := txt_new w13 [long]
 have hbx14 := hbw13.trans (hx14.mono hbw13.size)
 have hAgx14 := hAgw13.later hx14
 have hAux14 := hAuw13.later hx14
 have cc := read18 (w13.alloc (.cells #[.string long] 9)) u long 3 hAux14 (startS long 3) w13.heap.size 1 [long] ht14 (fun i s hi => by have := List.mem_of_getElem? hi; simp at this; subst this; omega) (by simp)
 rw [readL_one] at cc
 refine Fact.p rfl fun K hK => ?_
 go_simp
 go_at_call 18; refine (cc).mono ?_; rintro e w15 ⟨rfl, h15⟩
 clear cc
 have hbw15 := hbx14.trans (h15.mono hbx14.size)
 have hAgw15 := hAgx14.later h15
 have hAuw15 := hAux14.later h15
 dsimp only
 refine hK.out _ _ ?_; clear hK K
 have cc := dist22 w15 u long 3 hAuw15 (readS long 3 (startS long 3) long)
 rw [D0.out, I0.out] at cc
 refine Fact.p rfl fun K hK => ?_
 go_simp
 go_at_call 22; refine (cc).mono ?_; rintro e w16 ⟨rfl, h16⟩
 clear cc
 have hbw16 := hbw15.trans (h16.mono hbw15.size)
 have hAgw16 := hAgw15.later h16
 have hAuw16 := hAuw15.later h16
 dsimp only
 refine hK.out _ _ ?_; clear hK K
 refine Fact.p rfl fun K hK => ?_
 go_simp
 refine hK.out _ _ ?_; clear hK K
 refine Fact.p rfl fun K hK => ?_
 go_simp
 refine hK.out _ _ ?_; clear hK K
 refine Fact.p rfl fun K hK => ?_
 go_simp
 refine hK.out _ _ ?_; clear hK K
 refine Fact.p rfl fun K hK => ?_
 go_simp
 refine hK.out _ _ ?_; clear hK K
 refine Fact.p rfl fun K hK => ?_
 go_simp
 refine hK.out _ _ ?_; clear hK K
 refine Fact.nil ?_
 refine Fact.reQ (n := 255) (by simp only [Fact.G, hf.size]) hf.defers (fun fr1 hf1 hT => ?_)
 have hKp : _ ∧ _ ∧ _ ∧ _ ∧ _ ∧ _ ∧ _ ∧ _ ∧ _ ∧ _ := ⟨hT 0, hT 1, hT 2, hT 3, hT 4, hT 5, hT 6, hT 8, hT 9, hT 10⟩
 simp only [Fact.G, Nat.reduceEqDiff, Nat.reduceLT, reduceIte, hf.size, s0, s1, s2, s3, s4, s5, s6, s8] at hKp
 clear hT hf s0 s1 s2 s3 s4 s5 s6 s8 b77 b78 b79 b80 b81 b82 b83 b84 b76 b85 b86
 obtain ⟨s0, s1, s2, s3, s4, s5, s6, s8, s9, s10⟩ := hKp
 have hf := hf1; clear hf1
 refine Fact.then_normal ?_
 refine hK11 _ _ ?_
 refine wp_seq_k (fun K12 hK12 => ?_)
 refine Stab.todo_begin (n := 255) (Stab.OkOps.of (by kernel_rfl)) (fun hok => ?_)
 refine Stab.mvO (k := 0) s4 hf.size hok.out rfl rfl rfl (.inl rfl) (by kernel_rfl) ?_
 refine Stab.mvO (k := 1) s4 hf.size hok.out rfl rfl rfl (.inl rfl) (by kernel_rfl) ?_
 refine Stab.mvO (k := 2) s4 hf.size hok.out rfl rfl rfl (.inl rfl) (by kernel_rfl) ?_
 apply Stab.t 3 _ hf.size hok.out rfl
 ·
  intro fr1 w1 hh hd hk K hK
  refine Stab.op_plain (o := _) rfl rfl ?_
  have s90 := Stab.u 2 0 hd hk rfl [] (by kernel_rfl) rfl rfl rfl
  clear hd
  go_simp
  go_at_call 13; refine (start13 w1 u long 3 (hAuw16.later hh.ext)).mono ?_; rintro e w2 ⟨rfl, hb⟩
  exact hK.out _ rfl _ _ hb rfl
 refine Stab.mvO (k := 4) s2 hf.size hok.out rfl rfl rfl (.inl rfl) (by kernel_rfl) ?_
 apply Stab.t 5 _ hf.size hok.out rfl
 ·
  intro fr1 w1 hh hd hk K hK
  refine Stab.op_plain (o := _) rfl rfl ?_
  have s92 := Stab.u 4 0 hd hk rfl [] (by kernel_rfl) rfl rfl rfl
  clear hd
  go_simp
  try rw [if_pos (by omega)]
  exact hK.out _ rfl _ _ (Below.refl _ _) rfl
 refine Stab.todo_op (k := 6) (n := 255) (PTx [long.extract 0 252]) hf.size hok.out rfl (PTx.stable _) ?_ ?_
 ·
  intro fr1 w1 hh hd hk K hK
  refine Stab.op_plain (o := _) rfl rfl ?_
  have s93 := Stab.u 5 0 hd hk rfl [] (by kernel_rfl) rfl rfl rfl
  clear hd
  go_simp
  exact hK.out _ rfl _ _ ((Below.refl _ _).alloc (Nat.le_refl _) _) ⟨_, rfl, txt_new _ _⟩
 apply Stab.t 7 _ hf.size hok.out rfl
 ·
  intro fr1 w1 hh hd hk K hK
  refine Stab.op_plain (o := _) rfl rfl ?_
  have s89 := Stab.u 1 5 hd hk rfl [] (by kernel_rfl) rfl rfl rfl
  have s91 := Stab.u 3 3 hd hk rfl [] (by kernel_rfl) rfl rfl rfl
  obtain ⟨x94, s94, hp94⟩ := Stab.use (j := 6) (m := 0) hd hk rfl [] (by kernel_rfl) rfl rfl rfl
  obtain ⟨b94, rfl, hc94⟩ := hp94
  clear hd
  go_simp
  go_at_call 18; refine (read18 w1 u long 3 (hAuw16.later hh.ext) (startS long 3) b94 1 [long.extract 0 252] hc94 (fun i s hi => by have := List.mem_of_getElem? hi; simp at this; subst this; rw [ByteArray.size_extract]; omega) (by simp)).mono ?_; rintro e w2 ⟨rfl, hb⟩
  rw [readL_one]
  exact hK.out _ rfl _ _ hb rfl
 apply Stab.t 8 _ hf.size hok.out rfl
 ·
  intro fr1 w1 hh hd hk K hK
  refine Stab.op_plain (o := _) rfl rfl ?_
  have s88 := Stab.u 0 7 hd hk rfl [] (by kernel_rfl) rfl rfl rfl
  have s95 := Stab.u 7 0 hd hk rfl [] (by kernel_rfl) rfl rfl rfl
  clear hd
  go_simp
  go_at_call 22; refine (dist22 w1 u long 3 (hAuw16.later hh.ext) (readS long 3 (startS long 3) (long.extract 0 252))).mono ?_; rintro e w2 ⟨rfl, hb⟩
  rw [D3.out, I3.out]
  exact hK.out _ rfl _ _ hb rfl
 refine Stab.mvN (k := 9) (j := 8) (m := 0) hf.size hok.out rfl rfl rfl (.inl rfl) rfl [] (by kernel_rfl) rfl rfl rfl ?_
 apply Stab.t 10 _ hf.size hok.out rfl
 ·
  intro fr1 w1 hh hd hk K hK
  refine Stab.op_plain (o := _) rfl rfl ?_
  have s87 := Stab.u 9 0 hd hk rfl [] (by kernel_rfl) rfl rfl rfl
  clear hd
  go_simp
  exact hK.out _ rfl _ _ (Below.refl _ _) rfl
 apply Stab.t 11 _ hf.size hok.out rfl
 ·
  intro fr1 w1 hh hd hk K hK
  refine Stab.op_plain (o := _) rfl rfl ?_
  have s87 := Stab.u 9 1 hd hk rfl [] (by kernel_rfl) rfl rfl rfl
  clear hd
  go_simp
  exact hK.out _ rfl _ _ (Below.refl _ _) rfl
 refine Stab.mvN (k := 12) (j := 10) (m := 1) hf.size hok.out rfl rfl rfl (.inr rfl) rfl [] (by kernel_rfl) rfl rfl rfl ?_
 refine Stab.mvN (k := 13) (j := 11) (m := 1) hf.size hok.out rfl rfl rfl (.inr rfl) rfl [] (by kernel_rfl) rfl rfl rfl ?_
 refine Stab.todo_facts (n := 255) (by kernel_rfl) hf.size hok.out rfl (fun fr1 w1 hh hg => ?_)
 replace s0 := Stab.o hh (by kernel_rfl) s0
 replace s1 := Stab.o hh (by kernel_rfl) s1
 replace s2 := Stab.o hh (by kernel_rfl) s2
 replace s3 := Stab.o hh (by kernel_rfl) s3
 replace s4 := Stab.o hh (by kernel_rfl) s4
 replace s5 := Stab.o hh (by kernel_rfl) s5
 replace s6 := Stab.o hh (by kernel_rfl) s6
 replace s8 := Stab.o hh (by kernel_rfl) s8
 replace s9 := Stab.o hh (by kernel_rfl) s9
 replace s10 := Stab.o hh (by kernel_rfl) s10
 have s11 := Stab.e 12 1 hg rfl rfl rfl rfl
 have s12 := Stab.e 13 0 hg rfl rfl rfl rfl
 have hf1 : Fact.Fr 255 fr1 := ⟨hh.size.trans hf.size, hh.defers.trans hf.defers⟩
 have hx := hh.ext
 clear hg hh hf hok 
 have hf := hf1; clear hf1
 have hbw1 := hbw16.trans (hx.mono hbw16.size)
 have hAgw1 := hAgw16.later hx
 have hAuw1 := hAuw16.later hx
 clear hx
 have SK := trivial
 refine Fact.then_normal ?_
 refine hK12 _ _ ?_
 refine wp_seq_k (fun K13 hK13 => ?_)
 refine Stab.todo_begin (n := 255) (Stab.OkOps.of (by kernel_rfl)) (fun hok => ?_)
 refine Stab.mvO (k := 0) s4 hf.size hok.out rfl rfl rfl (.inl rfl) (by kernel_rfl) ?_
 refine Stab.mvO (k := 1) s4 hf.size hok.out rfl rfl rfl (.inl rfl) (by kernel_rfl) ?_
 refine Stab.mvO (k := 2) s4 hf.size hok.out rfl rfl rfl (.inl rfl) (by kernel_rfl) ?_
 apply Stab.t 3 _ hf.size hok.out rfl
 ·
  intro fr1 w1 hh hd hk K hK
  refine Stab.op_plain (o := _) rfl rfl ?_
  have s102 := Stab.u 2 0 hd hk rfl [] (by kernel_rfl) rfl rfl rfl
  clear hd
  go_simp
  go_at_call 13; refine (start13 w1 u long 3 (hAuw1.later hh.ext)).mono ?_; rintro e w2 ⟨rfl, hb⟩
  exact hK.out _ rfl _ _ hb rfl
 refine Stab.mvO (k := 4) s2 hf.size hok.out rfl rfl rfl (.inl rfl) (by kernel_rfl) ?_
 apply Stab.t 5 _ hf.size hok.out rfl
 ·
  intro fr1 w1 hh hd hk K hK
  refine Stab.op_plain (o := _) rfl rfl ?_
  have s104 := Stab.u 4 0 hd hk rfl [] (by kernel_rfl) rfl rfl rfl
  clear hd
  go_simp
  try rw [if_pos (by omega)]
  exact hK.out _ rfl _ _ (Below.refl _ _) rfl
 refine Stab.todo_op (k := 6) (n := 255) (PTx [long.extract 0 251]) hf.size hok.out rfl (PTx.stable _) ?_ ?_
 ·
  intro fr1 w1 hh hd hk K hK
  refine Stab.op_plain (o := _) rfl rfl ?_
  have s105 := Stab.u 5 0 hd hk rfl [] (by kernel_rfl) rfl rfl rfl
  clear hd
  go_simp
  exact hK.out _ rfl _ _ ((Below.refl _ _).alloc (Nat.le_refl _) _) ⟨_, rfl, txt_new _ _⟩
 apply Stab.t 7 _ hf.size hok.out rfl
 ·
  intro fr1 w1 hh hd hk K hK
  refine Stab.op_plain (o := _) rfl rfl ?_
  have s101 := Stab.u 1 5 hd hk rfl [] (by kernel_rfl) rfl rfl rfl
  have s103 := Stab.u 3 3 hd hk rfl [] (by kernel_rfl) rfl rfl rfl
  obtain ⟨x106, s106, hp106⟩ := Stab.use (j := 6) (m := 0) hd hk rfl [] (by kernel_rfl) rfl rfl rfl
  obtain ⟨b106, rfl, hc106⟩ := hp106
  clear hd
  go_simp
  go_at_call 18; refine (read18 w1 u long 3 (hAuw1.later hh.ext) (startS long 3) b106 1 [long.extract 0 251] hc106 (fun i s hi => by have := List.mem_of_getElem? hi; simp at this; subst this; rw [ByteArray.size_extract]; omega) (by simp)).mono ?_; rintro e w2 ⟨rfl, hb⟩
  rw [readL_one]
  exact hK.out _ rfl _ _ hb rfl
 apply Stab.t 8 _ hf.size hok.out rfl
 ·
  intro fr1 w1 hh hd hk K hK
  refine Stab.op_plain (o := _) rfl rfl ?_
  have s100 := Stab.u 0 7 hd hk rfl [] (by kernel_rfl) rfl rfl rfl
  have s107 := Stab.u 7 0 hd hk rfl [] (by kernel_rfl) rfl rfl rfl
  clear hd
  go_simp
  go_at_call 22; refine (dist22 w1 u long 3 (hAuw1.later hh.ext) (readS long 3 (startS long 3) (long.extract 0 251))).mono ?_; rintro e w2 ⟨rfl, hb⟩
  rw [D4.out, I4.out]
  exact hK.out _ rfl _ _ hb rfl
 refine Stab.mvN (k := 9) (j := 8) (m := 0) hf.size hok.out rfl rfl rfl (.inl rfl) rfl [] (by kernel_rfl) rfl rfl rfl ?_
 apply Stab.t 10 _ hf.size hok.out rfl
 ·
  intro fr1 w1 hh hd hk K hK
  refine Stab.op_plain (o := _) rfl rfl ?_
  have s99 := Stab.u 9 0 hd hk rfl [] (by kernel_rfl) rfl rfl rfl
  clear hd
  go_simp
  exact hK.out _ rfl _ _ (Below.refl _ _) rfl
 apply Stab.t 11 _ hf.size hok.out rfl
 ·
  intro fr1 w1 hh hd hk K hK
  refine Stab.op_plain (o := _) rfl rfl ?_
  have s99 := Stab.u 9 1 hd hk rfl [] (by kernel_rfl) rfl rfl rfl
  clear hd
  go_simp
  exact hK.out _ rfl _ _ (Below.refl _ _) rfl
 refine Stab.mvN (k := 12) (j := 10) (m := 1) hf.size hok.out rfl rfl rfl (.inr rfl) rfl [] (by kernel_rfl) rfl rfl rfl ?_
 refine Stab.mvN (k := 13) (j := 11) (m := 1) hf.size hok.out rfl rfl rfl (.inr rfl) rfl [] (by kernel_rfl) rfl rfl rfl ?_
 refine Stab.todo_facts (n := 255) (by kernel_rfl) hf.size hok.out rfl (fun fr1 w1 hh hg => ?_)
 replace s0 := Stab.o hh (by kernel_rfl) s0
 replace s1 := Stab.o hh (by kernel_rfl) s1
 replace s3 := Stab.o hh (by kernel_rfl) s3
 replace s5 := Stab.o hh (by kernel_rfl) s5
 replace s6 := Stab.o hh (by kernel_rfl) s6
 replace s8 := Stab.o hh (by kernel_rfl) s8
 replace s9 := Stab.o hh (by kernel_rfl) s9
 replace s10 := Stab.o hh (by kernel_rfl) s10
 replace s11 := Stab.o hh (by kernel_rfl) s11
 replace s12 := Stab.o hh (by kernel_rfl) s12
 have s14 := Stab.e 13 0 hg rfl rfl rfl rfl
 have hf1 : Fact.Fr 255 fr1 := ⟨hh.size.trans hf.size, hh.defers.trans hf.defers⟩
 have hx := hh.ext
 clear hg hh hf hok s2 s4
 have hf := hf1; clear hf1
 have hbw1 := hbw1.trans (hx.mono hbw1.size)
 have hAgw1 := hAgw1.later hx
 have hAuw1 := hAuw1.later hx
 clear hx
 have SK := trivial
 refine Fact.then_normal ?_
 refine hK13 _ _ ?_
 refine wp_seq_k (fun K14 hK14 => ?_)
 refine Fact.region ?_
 have b111 := hf.l 111 rfl
 have cc := new10 (⟨#[113]⟩ : ByteArray) 0 (by decide) (by decide) w1
 refine Fact.p rfl fun K hK => ?_
 go_simp
 go_at_call 10; refine (cc).mono ?_; rintro e w17 ⟨x, rfl, hAx0, hg9, h17⟩
 clear cc
 have hbw17 := hbw1.trans (h17.mono hbw1.size)
 have hAgw17 := hAgw1.later h17
 have hAuw17 := hAuw1.later h17
 dsimp only
 refine hK.out _ _ ?_; clear hK K
 refine Fact.p rfl fun K hK => ?_
 go_simp
 refine hK.out _ _ ?_; clear hK K
 refine Fact.nil ?_
 refine Fact.reQ (n := 255) (by simp only [Fact.G, hf.size]) hf.defers (fun fr1 hf1 hT => ?_)
 have hKp : _ ∧ _ ∧ _ ∧ _ ∧ _ ∧ _ ∧ _ ∧ _ ∧ _ ∧ _ ∧ _ ∧ _ := ⟨hT 0, hT 1, hT 3, hT 5, hT 6, hT 8, hT 9, hT 10, hT 11, hT 12, hT 14, hT 15⟩
 simp only [Fact.G, Nat.reduceEqDiff, Nat.reduceLT, reduceIte, hf.size, s0, s1, s3, s5, s6, s8, s9, s10, s11, s12, s14] at hKp
 clear hT hf s0 s1 s3 s5 s6 s8 s9 s10 s11 s12 s14 b111
 obtain ⟨s0, s1, s3, s5, s6, s8, s9, s10, s11, s12, s14, s15⟩ := hKp
 have hf := hf1; clear hf1
 refine Fact.then_normal ?_
 refine hK14 _ _ ?_
 refine wp_seq_k (fun K15 hK15 => ?_)
 refine Fact.region ?_
 have b113 := hf.l 113 rfl
 have b114 := hf.l 114 rfl
 have b115 := hf.l 115 rfl
 have b116 := hf.l 116 rfl
 have b117 := hf.l 117 rfl
 have b118 := hf.l 118 rfl
 have b119 := hf.l 119 rfl
 have b112 := hf.l 112 rfl
 have b120 := hf.l 120 rfl
 have b121 := hf.l 121 rfl
 refine Fact.p rfl fun K hK => ?_
 go_simp
 refine hK.out _ _ ?_; clear hK K
 refine Fact.p rfl fun K hK => ?_
 go_simp
 refine hK.out _ _ ?_; clear hK K
 refine Fact.p rfl fun K hK => ?_
 go_simp
 refine hK.out _ _ ?_; clear hK K
 have cc := start13 w17 x (⟨#[113]⟩ : ByteArray) 0 hAx0
 rw [EqK6] at cc
 refine Fact.p rfl fun K hK => ?_
 go_simp
 go_at_call 13; refine (cc).mono ?_; rintro e w18 ⟨rfl, h18⟩
 clear cc
 have hbw18 := hbw17.trans (h18.mono hbw17.size)
 have hAgw18 := hAgw17.later h18
 have hAuw18 := hAuw17.later h18
 have hAxw18 := hAx0.later h18
 dsimp only
 refine hK.out _ _ ?_; clear hK K
 refine Fact.p rfl fun K hK => ?_
 go_simp
 refine hK.out _ _ ?_; clear hK K
 have hx19 : Below w18.heap.size w18 (w18.alloc (.cells #[.string (⟨#[114]⟩ : ByteArray)] 9)) := (Below.refl _ _).alloc (Nat.le_refl _) _
 have ht19 := txt_new w18 [(⟨#[114]⟩ : ByteArray)]
 have hbx19 := hbw18.trans (hx19.mono hbw18.size)
 have hAgx19 := hAgw18.later hx19
 have hAux19 := hAuw18.later hx19
 have hAxx19 := hAxw18.later hx19
 have cc := read18 (w18.alloc (.cells #[.string (⟨#[114]⟩ : ByteArray)] 9)) x (⟨#[113]⟩ : ByteArray) 0 hAxx19 (⟨#[0, 1]⟩ : ByteArray) w18.heap.size 1 [(⟨#[114]⟩ : ByteArray)] ht19 (txt_small (by decide)) (by decide)
 rw [EqK7] at cc
 refine Fact.p rfl fun K hK => ?_
 go_simp
 go_at_call 18; refine (cc).mono ?_; rintro e w20 ⟨rfl, h20⟩
 clear cc
 have hbw20 := hbx19.trans (h20.mono hbx19.size)
 have hAgw20 := hAgx19.later h20
 have hAuw20 := hAux19.later h20
 have hAxw20 := hAxx19.later h20
 dsimp only
 refine hK.out _ _ ?_; clear hK K
 have cc := dist22 w20 x (⟨#[113]⟩ : ByteArray) 0 hAxw20 (⟨#[1, 1]⟩ : ByteArray)
 have ce := EqK8
 injection ce with ce1 ce2
 rw [ce1, ce2] at cc
 clear ce1 ce2
 refine Fact.p rfl fun K hK => ?_
 go_simp
 go_at_call 22; refine (cc).mono ?_; rintro e w21 ⟨rfl, h21⟩
 clear cc
 have hbw21 := hbw20.trans (h21.mono hbw20.size)
 have hAgw21 := hAgw20.later h21
 have hAuw21 := hAuw20.later h21
 have hAxw21 := hAxw20.later h21
 dsimp only
 refine hK.out _ _ ?_; clear hK K
 refine Fact.p rfl fun K hK => ?_
 go_simp
 refine hK.out _ _ ?_; clear hK K
 refine Fact.p rfl fun K hK => ?_
 go_simp
 refine hK.out _ _ ?_; clear hK K
 refine Fact.p rfl fun K hK => ?_
 go_simp
 refine hK.out _ _ ?_; clear hK K
 refine Fact.p rfl fun K hK => ?_
 go_simp
 refine hK.out _ _ ?_; clear hK K
 refine Fact.p rfl fun K hK => ?_
 go_simp
 refine hK.out _ _ ?_; clear hK K
 refine Fact.nil ?_
 refine Fact.reQ (n := 255) (by simp only [Fact.G, hf.size]) hf.defers (fun fr1 hf1 hT => ?_)
 have hKp : _ ∧ _ ∧ _ ∧ _ ∧ _ ∧ _ ∧ _ ∧ _ ∧ _ ∧ _ ∧ _ ∧ _ := ⟨hT 0, hT 1, hT 3, hT 5, hT 6, hT 8, hT 9, hT 10, hT 11, hT 12, hT 14, hT 17⟩
 simp only [Fact.G, Nat.reduceEqDiff, Nat.reduceLT, reduceIte, hf.size, s0, s1, s3, s5, s6, s8, s9, s10, s11, s12, s14] at hKp
 clear hT hf s0 s1 s3 s5 s6 s8 s9 s10 s11 s12 s14 s15 b113 b114 b115 b116 b117 b118 b119 b112 b120 b121
 obtain ⟨s0, s1, s3, s5, s6, s8, s9, s10, s11, s12, s14, s17⟩ := hKp
 have hf := hf1; clear hf1
 refine Fact.then_normal ?_
 refine hK15 _ _ ?_
 refine wp_seq_k (fun K16 hK16 => ?_)
 refine Fact.region ?_
 have b123 := hf.l 123 rfl
 have b124 := hf.l 124 rfl
 have b125 := hf.l 125 rfl
 have b126 := hf.l 126 rfl
 have b122 := hf.l 122 rfl
 have b127 := hf.l 127 rfl
 have b128 := hf.l 128 rfl
 refine Fact.p rfl fun K hK => ?_
 go_simp
 refine hK.out _ _ ?_; clear hK K
 refine Fact.p rfl fun K hK => ?_
 go_simp
 refine hK.out _ _ ?_; clear hK K
 have cc := start13 w21 g (⟨#[]⟩ : ByteArray) 2 hAgw21
 rw [EqK1] at cc
 refine Fact.p rfl fun K hK => ?_
 go_simp
 go_at_call 13; refine (cc).mono ?_; rintro e w22 ⟨rfl, h22⟩
 clear cc
 have hbw22 := hbw21.trans (h22.mono hbw21.size)
 have hAgw22 := hAgw21.later h22
 have hAuw22 := hAuw21.later h22
 have hAxw22 := hAxw21.later h22
 dsimp only
 refine hK.out _ _ ?_; clear hK K
 have cc := bytes24 w22 g (⟨#[]⟩ : ByteArray) 2 hAgw22 (⟨#[0]⟩ : ByteArray)
 have ce := EqK9
 injection ce with ce1 ce2
 rw [ce1, ce2] at cc
 clear ce1 ce2
 refine Fact.p rfl fun K hK => ?_
 go_simp
 go_at_call 24; refine (cc).mono ?_; rintro e w23 ⟨v9, rfl, hv9, h23⟩
 clear cc
 have hbw23 := hbw22.trans (h23.mono hbw22.size)
 have hAgw23 := hAgw22.later h23
 have hAuw23 := hAuw22.later h23
 have hAxw23 := hAxw22.later h23
 obtain ⟨A9, c9, rfl, -⟩ := OB.row hv9
 clear hv9
 dsimp only
 refine hK.out _ _ ?_; clear hK K
 refine Fact.p rfl fun K hK => ?_
 go_simp
 refine hK.out _ _ ?_; clear hK K
 refine Fact.p rfl fun K hK => ?_
 go_simp
 refine hK.out _ _ ?_; clear hK K
 refine Fact.p rfl fun K hK => ?_
 go_simp
 refine hK.out _ _ ?_; clear hK K
 refine Fact.p rfl fun K hK => ?_
 go_simp
 refine hK.out _ _ ?_; clear hK K
 refine Fact.p rfl fun K hK => ?_
 go_simp
 refine hK.out _ _ ?_; clear hK K
 refine Fact.nil ?_
 refine Fact.reQ (n := 255) (by simp only [Fact.G, hf.size]) hf.defers (fun fr1 hf1 hT => ?_)
 have hKp : _ ∧ _ ∧ _ ∧ _ ∧ _ ∧ _ ∧ _ ∧ _ ∧ _ ∧ _ ∧ _ ∧ _ ∧ _ ∧ _ := ⟨hT 0, hT 1, hT 3, hT 5, hT 6, hT 8, hT 9, hT 10, hT 11, hT 12, hT 14, hT 17, hT 18, hT 19⟩
 simp only [Fact.G, Nat.reduceEqDiff, Nat.reduceLT, reduceIte, hf.size, s0, s1, s3, s5, s6, s8, s9, s10, s11, s12, s14, s17] at hKp
 clear hT hf s0 s1 s3 s5 s6 s8 s9 s10 s11 s12 s14 s17 b123 b124 b125 b126 b122 b127 b128
 obtain ⟨s0, s1, s3, s5, s6, s8, s9, s10, s11, s12, s14, s17, s18, s19⟩ := hKp
 have hf := hf1; clear hf1
 refine Fact.then_normal ?_
 refine hK16 _ _ ?_
 refine wp_seq_k (fun K17 hK17 => ?_)
 refine Fact.region ?_
 have b130 := hf.l 130 rfl
 have b131 := hf.l 131 rfl
 have b129 := hf.l 129 rfl
 have b132 := hf.l 132 rfl
 have b133 := hf.l 133 rfl
 refine Fact.p rfl fun K hK => ?_
 go_simp
 refine hK.out _ _ ?_; clear hK K
 have cc := dist22 w23 g (⟨#[]⟩ : ByteArray) 2 hAgw23 (⟨#[0, 0]⟩ : ByteArray)
 have ce := EqK10
 injection ce with ce1 ce2
 rw [ce1, ce2] at cc
 clear ce1 ce2
 refine Fact.p rfl fun K hK => ?_
 go_simp
 go_at_call 22; refine (cc).mono ?_; rintro e w24 ⟨rfl, h24⟩
 clear cc
 have hbw24 := hbw23.trans (h24.mono hbw23.size)
 have hAgw24 := hAgw23.later h24
 have hAuw24 := hAuw23.later h24
 have hAxw24 := hAxw23.later h24
 dsimp only
 refine hK.out _ _ ?_; clear hK K
 refine Fact.p rfl fun K hK => ?_
 go_simp
 refine hK.out _ _ ?_; clear hK K
 refine Fact.p rfl fun K hK => ?_
 go_simp
 refine hK.out _ _ ?_; clear hK K
 refine Fact.p rfl fun K hK => ?_
 go_simp
 refine hK.out _ _ ?_; clear hK K
 refine Fact.p rfl fun K hK => ?_
 go_simp
 refine hK.out _ _ ?_; clear hK K
 refine Fact.p rfl fun K hK => ?_
 go_simp
 refine hK.out _ _ ?_; clear hK K
 refine Fact.nil ?_
 refine Fact.reQ (n := 255) (by simp only [Fact.G, hf.size]) hf.defers (fun fr1 hf1 hT => ?_)
 have hKp : _ ∧ _ ∧ _ ∧ _ ∧ _ ∧ _ ∧ _ ∧ _ ∧ _ ∧ _ ∧ _ ∧ _ ∧ _ ∧ _ ∧ _ := ⟨hT 0, hT 1, hT 3, hT 5, hT 6, hT 8, hT 9, hT 10, hT 11, hT 12, hT 14, hT 17, hT 18, hT 19, hT 21⟩
 simp only [Fact.G, Nat.reduceEqDiff, Nat.reduceLT, reduceIte, hf.size, s0, s1, s3, s5, s6, s8, s9, s10, s11, s12, s14, s17, s18, s19] at hKp
 clear hT hf s0 s1 s3 s5 s6 s8 s9 s10 s11 s12 s14 s17 s18 s19 b130 b131 b129 b132 b133
 obtain ⟨s0, s1, s3, s5, s6, s8, s9, s10, s11, s12, s14, s17, s18, s19, s21⟩ := hKp
 have hf := hf1; clear hf1
 refine Fact.then_normal ?_
 refine hK17 _ _ ?_
 refine wp_seq_k (fun K18 hK18 => ?_)
 refine Fact.region ?_
 have b135 := hf.l 135 rfl
 have b136 := hf.l 136 rfl
 have b134 := hf.l 134 rfl
 have b137 := hf.l 137 rfl
 have b138 := hf.l 138 rfl
 refine Fact.p rfl fun K hK => ?_
 go_simp
 refine hK.out _ _ ?_; clear hK K
 have cc := dist22 w24 g (⟨#[]⟩ : ByteArray) 2 hAgw24 (⟨#[4]⟩ : ByteArray)
 have ce := EqK11
 injection ce with ce1 ce2
 rw [ce1, ce2] at cc
 clear ce1 ce2
 refine Fact.p rfl fun K hK => ?_
 go_simp
 go_at_call 22; refine (cc).mono ?_; rintro e w25 ⟨rfl, h25⟩
 clear cc
 have hbw25 := hbw24.trans (h25.mono hbw24.size)
 have hAgw25 := hAgw24.later h25
 have hAuw25 := hAuw24.later h25
 have hAxw25 := hAxw24.later h25
 dsimp only
 refine hK.out _ _ ?_; clear hK K
 refine Fact.p rfl fun K hK => ?_
 go_simp
 refine hK.out _ _ ?_; clear hK K
 refine Fact.p rfl fun K hK => ?_
 go_simp
 refine hK.out _ _ ?_; clear hK K
 refine Fact.p rfl fun K hK => ?_
 go_simp
 refine hK.out _ _ ?_; clear hK K
 refine Fact.p rfl fun K hK => ?_
 go_simp
 refine hK.out _ _ ?_; clear hK K
 refine Fact.p rfl fun K hK => ?_
 go_simp
 refine hK.out _ _ ?_; clear hK K
 refine Fact.nil ?_
 refine Fact.reQ (n := 255) (by simp only [Fact.G, hf.size]) hf.defers (fun fr1 hf1 hT => ?_)
 have hKp : _ ∧ _ ∧ _ ∧ _ ∧ _ ∧ _ ∧ _ ∧ _ ∧ _ ∧ _ ∧ _ ∧ _ ∧ _ ∧ _ ∧ _ ∧ _ := ⟨hT 0, hT 1, hT 3, hT 5, hT 6, hT 8, hT 9, hT 10, hT 11, hT 12, hT 14, hT 17, hT 18, hT 19, hT 21, hT 23⟩
 simp only [Fact.G, Nat.reduceEqDiff, Nat.reduceLT, reduceIte, hf.size, s0, s1, s3, s5, s6, s8, s9, s10, s11, s12, s14, s17, s18, s19, s21] at hKp
 clear hT hf s0 s1 s3 s5 s6 s8 s9 s10 s11 s12 s14 s17 s18 s19 s21 b135 b136 b134 b137 b138
 obtain ⟨s0, s1, s3, s5, s6, s8, s9, s10, s11, s12, s14, s17, s18, s19, s21, s23⟩ := hKp
 have hf := hf1; clear hf1
 refine Fact.then_normal ?_
 refine hK18 _ _ ?_
 refine wp_seq_k (fun K19 hK19 => ?_)
 refine Fact.region ?_
 have b140 := hf.l 140 rfl
 have b141 := hf.l 141 rfl
 have b139 := hf.l 139 rfl
 have b142 := hf.l 142 rfl
 have b143 := hf.l 143 rfl
 refine Fact.p rfl fun K hK => ?_
 go_simp
 refine hK.out _ _ ?_; clear hK K
 have cc := dist22n (⟨#[]⟩ : ByteArray) w25
 refine Fact.p rfl fun K hK => ?_
 go_simp
 go_at_call 22; refine (cc).mono ?_; rintro e w26 ⟨rfl, h26⟩
 clear cc
 have hbw26 := hbw25.trans (h26.mono hbw25.size)
 have hAgw26 := hAgw25.later h26
 have hAuw26 := hAuw25.later h26
 have hAxw26 := hAxw25.later h26
 dsimp only
 refine hK.out _ _ ?_; clear hK K
 refine Fact.p rfl fun K hK => ?_
 go_simp
 refine hK.out _ _ ?_; clear hK K
 refine Fact.p rfl fun K hK => ?_
 go_simp
 refine hK.out _ _ ?_; clear hK K
 refine Fact.p rfl fun K hK => ?_
 go_simp
 refine hK.out _ _ ?_; clear hK K
 refine Fact.p rfl fun K hK => ?_
 go_simp
 refine hK.out _ _ ?_; clear hK K
 refine Fact.p rfl fun K hK => ?_
 go_simp
 refine hK.out _ _ ?_; clear hK K
 refine Fact.nil ?_
 refine Fact.reQ (n := 255) (by simp only [Fact.G, hf.size]) hf.defers (fun fr1 hf1 hT => ?_)
 have hKp : _ ∧ _ ∧ _ ∧ _ ∧ _ ∧ _ ∧ _ ∧ _ ∧ _ ∧ _ ∧ _ ∧ _ ∧ _ ∧ _ ∧ _ ∧ _ ∧ _ := ⟨hT 0, hT 1, hT 3, hT 5, hT 6, hT 8, hT 9, hT 10, hT 11, hT 12, hT 14, hT 17, hT 18, hT 19, hT 21, hT 23, hT 25⟩
 simp only [Fact.G, Nat.reduceEqDiff, Nat.reduceLT, reduceIte, hf.size, s0, s1, s3, s5, s6, s8, s9, s10, s11, s12, s14, s17, s18, s19, s21, s23] at hKp
 clear hT hf s0 s1 s3 s5 s6 s8 s9 s10 s11 s12 s14 s17 s18 s19 s21 s23 b140 b141 b139 b142 b143
 obtain ⟨s0, s1, s3, s5, s6, s8, s9, s10, s11, s12, s14, s17, s18, s19, s21, s23, s25⟩ := hKp
 have hf := hf1; clear hf1
 refine Fact.then_normal ?_
 refine hK19 _ _ ?_
 refine wp_seq_k (fun K20 hK20 => ?_)
 refine Fact.region ?_
 have b145 := hf.l 145 rfl
 have b146 := hf.l 146 rfl
 have b144 := hf.l 144 rfl
 have b147 := hf.l 147 rfl
 have b148 := hf.l 148 rfl
 refine Fact.p rfl fun K hK => ?_
 go_simp
 refine hK.out _ _ ?_; clear hK K
 have cc := bytes24n (⟨#[]⟩ : ByteArray) w26
 refine Fact.p rfl fun K hK => ?_
 go_simp
 go_at_call 24; refine (cc).mono ?_; rintro e w27 ⟨rfl, h27⟩
 clear cc
 have hbw27 := hbw26.trans (h27.mono hbw26.size)
 have hAgw27 := hAgw26.later h27
 have hAuw27 := hAuw26.later h27
 have hAxw27 := hAxw26.later h27
 dsimp only
 refine hK.out _ _ ?_; clear hK K
 refine Fact.p rfl fun K hK => ?_
 go_simp
 refine hK.out _ _ ?_; clear hK K
 refine Fact.p rfl fun K hK => ?_
 go_simp
 refine hK.out _ _ ?_; clear hK K
 refine Fact.p rfl fun K hK => ?_
 go_simp
 refine hK.out _ _ ?_; clear hK K
 refine Fact.p rfl fun K hK => ?_
 go_simp
 refine hK.out _ _ ?_; clear hK K
 refine Fact.p rfl fun K hK => ?_
 go_simp
 refine hK.out _ _ ?_; clear hK K
 refine Fact.nil ?_
 refine Fact.reQ (n := 255) (by simp only [Fact.G, hf.size]) hf.defers (fun fr1 hf1 hT => ?_)
 have hKp : _ ∧ _ ∧ _ ∧ _ ∧ _ ∧ _ ∧ _ ∧ _ ∧ _ ∧ _ ∧ _ ∧ _ ∧ _ ∧ _ ∧ _ ∧ _ ∧ _ ∧ _ ∧ _ := ⟨hT 0, hT 1, hT 3, hT 5, hT 6, hT 8, hT 9, hT 10, hT 11, hT 12, hT 14, hT 17, hT 18, hT 19, hT 21, hT 23, hT 25, hT 26, hT 27⟩
 simp only [Fact.G, Nat.reduceEqDiff, Nat.reduceLT, reduceIte, hf.size, s0, s1, s3, s5, s6, s8, s9, s10, s11, s12, s14, s17, s18, s19, s21, s23, s25] at hKp
 clear hT hf s0 s1 s3 s5 s6 s8 s9 s10 s11 s12 s14 s17 s18 s19 s21 s23 s25 b145 b146 b144 b147 b148
 obtain ⟨s0, s1, s3, s5, s6, s8, s9, s10, s11, s12, s14, s17, s18, s19, s21, s23, s25, s26, s27⟩ := hKp
 have hf := hf1; clear hf1
 refine Fact.then_normal ?_
 refine hK20 _ _ ?_
 refine wp_seq_k (fun K21 hK21 => ?_)
 refine Fact.region ?_
 have b149 := hf.l 149 rfl
 have b150 := hf.l 150 rfl
 have b151 := hf.l 151 rfl
 have b152 := hf.l 152 rfl
 have b153 := hf.l 153 rfl
 have b154 := hf.l 154 rfl
 have b155 := hf.l 155 rfl
 have b156 := hf.l 156 rfl
 have b157 := hf.l 157 rfl
 have b158 := hf.l 158 rfl
 have b159 := hf.l 159 rfl
 have b160 := hf.l 160 rfl
 have b161 := hf.l 161 rfl
 have b162 := hf.l 162 rfl
 have b163 := hf.l 163 rfl
 have b164 := hf.l 164 rfl
 have b165 := hf.l 165 rfl
 have b166 := hf.l 166 rfl
 have b167 := hf.l 167 rfl
 have b168 := hf.l 168 rfl
 have b169 := hf.l 169 rfl
 have b170 := hf.l 170 rfl
 have b171 := hf.l 171 rfl
 have b172 := hf.l 172 rfl
 have b173 := hf.l 173 rfl
 have b174 := hf.l 174 rfl
 have b175 := hf.l 175 rfl
 have b176 := hf.l 176 rfl
 have b177 := hf.l 177 rfl
 have b178 := hf.l 178 rfl
 have b179 := hf.l 179 rfl
 have b180 := hf.l 180 rfl
 have b181 := hf.l 181 rfl
 have b182 := hf.l 182 rfl
 have b183 := hf.l 183 rfl
 have b184 := hf.l 184 rfl
 have b185 := hf.l 185 rfl
 have b186 := hf.l 186 rfl
 have b187 := hf.l 187 rfl
 have b188 := hf.l 188 rfl
 have b189 := hf.l 189 rfl
 have b190 := hf.l 190 rfl
 have b191 := hf.l 191 rfl
 have b192 := hf.l 192 rfl
 have b193 := hf.l 193 rfl
 have b194 := hf.l 194 rfl
 have b195 := hf.l 195 rfl
 have b196 := hf.l 196 rfl
 have b197 := hf.l 197 rfl
 have b198 := hf.l 198 rfl
 have b199 := hf.l 199 rfl
 have b200 := hf.l 200 rfl
 have b201 := hf.l 201 rfl
 have b202 := hf.l 202 rfl
 have b203 := hf.l 203 rfl
 have b204 := hf.l 204 rfl
 have b205 := hf.l 205 rfl
 have b206 := hf.l 206 rfl
 have b207 := hf.l 207 rfl
 have b208 := hf.l 208 rfl
 have b209 := hf.l 209 rfl
 have b210 := hf.l 210 rfl
 have b211 := hf.l 211 rfl
 have b212 := hf.l 212 rfl
 have b213 := hf.l 213 rfl
 have b214 := hf.l 214 rfl
 have b215 := hf.l 215 rfl
 have b216 := hf.l 216 rfl
 have b217 := hf.l 217 rfl
 have b218 := hf.l 218 rfl
 have b219 := hf.l 219 rfl
 have b220 := hf.l 220 rfl
 have b221 := hf.l 221 rfl
 have b222 := hf.l 222 rfl
 have b223 := hf.l 223 rfl
 have b224 := hf.l 224 rfl
 have b225 := hf.l 225 rfl
 have b226 := hf.l 226 rfl
 have b227 := hf.l 227 rfl
 have b228 := hf.l 228 rfl
 have b229 := hf.l 229 rfl
 have b230 := hf.l 230 rfl
 have b231 := hf.l 231 rfl
 have b232 := hf.l 232 rfl
 have b233 := hf.l 233 rfl
 have b234 := hf.l 234 rfl
 have b235 := hf.l 235 rfl
 have b236 := hf.l 236 rfl
 have b237 := hf.l 237 rfl
 have b238 := hf.l 238 rfl
 have b239 := hf.l 239 rfl
 have b240 := hf.l 240 rfl
 have b241 := hf.l 241 rfl
 have b242 := hf.l 242 rfl
 have b243 := hf.l 243 rfl
 have b244 := hf.l 244 rfl
 have b245 := hf.l 245 rfl
 have b246 := hf.l 246 rfl
 have b247 := hf.l 247 rfl
 have b248 := hf.l 248 rfl
 have b249 := hf.l 249 rfl
 have b250 := hf.l 250 rfl
 have b251 := hf.l 251 rfl
 have b252 := hf.l 252 rfl
 have b253 := hf.l 253 rfl
 have b254 := hf.l 254 rfl
 refine Fact.p rfl fun K hK => ?_
 go_simp
 refine hK.out _ _ ?_; clear hK K
 refine Fact.p rfl fun K hK => ?_
 go_simp
 refine hK.out _ _ ?_; clear hK K
 refine Fact.op_guard (g := 1) (d := 150) (b := true) rfl rfl rfl ?_ (fun K hK => ?_)
 ·
  simp only [Fact.G, Nat.reduceEqDiff, Nat.reduceLT, reduceIte, hf.size, Bool.not_true, Bool.not_false]
 go_simp
 refine hK.out _ _ ?_; clear hK K
 refine Fact.op_guard (g := 1) (d := 150) (b := true) rfl rfl rfl ?_ (fun K hK => ?_)
 ·
  simp only [Fact.G, Nat.reduceEqDiff, Nat.reduceLT, reduceIte, hf.size, Bool.not_true, Bool.not_false]
 go_simp
 refine hK.out _ _ ?_; clear hK K
 refine Fact.p rfl fun K hK => ?_
 go_simp
 refine hK.out _ _ ?_; clear hK K
 refine Fact.p rfl fun K hK => ?_
 go_simp
 refine hK.out _ _ ?_; clear hK K
 refine Fact.op_guard (g := 5) (d := 154) (b := true) rfl rfl rfl ?_ (fun K hK => ?_)
 ·
  simp only [Fact.G, Nat.reduceEqDiff, Nat.reduceLT, reduceIte, hf.size, Bool.not_true, Bool.not_false]
 go_simp
 refine hK.out _ _ ?_; clear hK K
 refine Fact.op_guard (g := 5) (d := 154) (b := true) rfl rfl rfl ?_ (fun K hK => ?_)
 ·
  simp only [Fact.G, Nat.reduceEqDiff, Nat.reduceLT, reduceIte, hf.size, Bool.not_true, Bool.not_false]
 go_simp
 refine hK.out _ _ ?_; clear hK K
 refine Fact.p rfl fun K hK => ?_
 go_simp
 refine hK.out _ _ ?_; clear hK K
 refine Fact.p rfl fun K hK => ?_
 go_simp
 refine hK.out _ _ ?_; clear hK K
 refine Fact.op_guard (g := 9) (d := 158) (b := true) rfl rfl rfl ?_ (fun K hK => ?_)
 ·
  simp only [Fact.G, Nat.reduceEqDiff, Nat.reduceLT, reduceIte, hf.size, Bool.not_true, Bool.not_false]
 go_simp
 refine hK.out _ _ ?_; clear hK K
 refine Fact.p rfl fun K hK => ?_
 go_simp
 refine hK.out _ _ ?_; clear hK K
 refine Fact.p rfl fun K hK => ?_
 go_simp
 refine hK.out _ _ ?_; clear hK K
 refine Fact.op_guard (g := 12) (d := 161) (b := true) rfl rfl rfl ?_ (fun K hK => ?_)
 ·
  simp only [Fact.G, Nat.reduceEqDiff, Nat.reduceLT, reduceIte, hf.size, Bool.not_true, Bool.not_false]
 go_simp
 refine hK.out _ _ ?_; clear hK K
 refine Fact.op_guard (g := 12) (d := 161) (b := true) rfl rfl rfl ?_ (fun K hK => ?_)
 ·
  simp only [Fact.G, Nat.reduceEqDiff, Nat.reduceLT, reduceIte, hf.size, Bool.not_true, Bool.not_false]
 go_simp
 refine hK.out _ _ ?_; clear hK K
 refine Fact.p rfl fun K hK => ?_
 go_simp
 refine hK.out _ _ ?_; clear hK K
 refine Fact.p rfl fun K hK => ?_
 go_simp
 refine hK.out _ _ ?_; clear hK K
 refine Fact.op_guard (g := 16) (d := 165) (b := true) rfl rfl rfl ?_ (fun K hK => ?_)
 ·
  simp only [Fact.G, Nat.reduceEqDiff, Nat.reduceLT, reduceIte, hf.size, Bool.not_true, Bool.not_false]
 go_simp
 refine hK.out _ _ ?_; clear hK K
 refine Fact.p rfl fun K hK => ?_
 go_simp
 refine hK.out _ _ ?_; clear hK K
 refine Fact.p rfl fun K hK => ?_
 go_simp
 refine hK.out _ _ ?_; clear hK K
 refine Fact.op_guard (g := 19) (d := 168) (b := true) rfl rfl rfl ?_ (fun K hK => ?_)
 ·
  simp only [Fact.G, Nat.reduceEqDiff, Nat.reduceLT, reduceIte, hf.size, Bool.not_true, Bool.not_false]
 go_simp
 refine hK.out _ _ ?_; clear hK K
 refine Fact.op_guard (g := 19) (d := 168) (b := true) rfl rfl rfl ?_ (fun K hK => ?_)
 ·
  simp only [Fact.G, Nat.reduceEqDiff, Nat.reduceLT, reduceIte, hf.size, Bool.not_true, Bool.not_false]
 go_simp
 refine hK.out _ _ ?_; clear hK K
 refine Fact.p rfl fun K hK => ?_
 go_simp
 refine hK.out _ _ ?_; clear hK K
 refine Fact.p rfl fun K hK => ?_
 go_simp
 refine hK.out _ _ ?_; clear hK K
 refine Fact.op_guard (g := 23) (d := 172) (b := true) rfl rfl rfl ?_ (fun K hK => ?_)
 ·
  simp only [Fact.G, Nat.reduceEqDiff, Nat.reduceLT, reduceIte, hf.size, Bool.not_true, Bool.not_false]
 go_simp
 refine hK.out _ _ ?_; clear hK K
 refine Fact.op_guard (g := 23) (d := 172) (b := true) rfl rfl rfl ?_ (fun K hK => ?_)
 ·
  simp only [Fact.G, Nat.reduceEqDiff, Nat.reduceLT, reduceIte, hf.size, Bool.not_true, Bool.not_false]
 go_simp
 refine hK.out _ _ ?_; clear hK K
 refine Fact.p rfl fun K hK => ?_
 go_simp
 refine hK.out _ _ ?_; clear hK K
 refine Fact.p rfl fun K hK => ?_
 go_simp
 refine hK.out _ _ ?_; clear hK K
 refine Fact.op_guard (g := 27) (d := 176) (b := true) rfl rfl rfl ?_ (fun K hK => ?_)
 ·
  simp only [Fact.G, Nat.reduceEqDiff, Nat.reduceLT, reduceIte, hf.size, Bool.not_true, Bool.not_false]
 go_simp
 refine hK.out _ _ ?_; clear hK K
 refine Fact.op_guard (g := 27) (d := 176) (b := true) rfl rfl rfl ?_ (fun K hK => ?_)
 ·
  simp only [Fact.G, Nat.reduceEqDiff, Nat.reduceLT, reduceIte, hf.size, Bool.not_true, Bool.not_false]
 go_simp
 refine hK.out _ _ ?_; clear hK K
 refine Fact.p rfl fun K hK => ?_
 go_simp
 refine hK.out _ _ ?_; clear hK K
 refine Fact.p rfl fun K hK => ?_
 go_simp
 refine hK.out _ _ ?_; clear hK K
 refine Fact.op_guard (g := 31) (d := 180) (b := true) rfl rfl rfl ?_ (fun K hK => ?_)
 ·
  simp only [Fact.G, Nat.reduceEqDiff, Nat.reduceLT, reduceIte, hf.size, Bool.not_true, Bool.not_false]
 go_simp
 refine hK.out _ _ ?_; clear hK K
 refine Fact.op_guard (g := 31) (d := 180) (b := true) rfl rfl rfl ?_ (fun K hK => ?_)
 ·
  simp only [Fact.G, Nat.reduceEqDiff, Nat.reduceLT, reduceIte, hf.size, Bool.not_true, Bool.not_false]
 go_simp
 refine hK.out _ _ ?_; clear hK K
 refine Fact.op_guard (g := 31) (d := 180) (b := true) rfl rfl rfl ?_ (fun K hK => ?_)
 ·
  simp only [Fact.G, Nat.reduceEqDiff, Nat.reduceLT, reduceIte, hf.size, Bool.not_true, Bool.not_false]
 go_simp
 refine hK.out _ _ ?_; clear hK K
 refine Fact.p rfl fun K hK => ?_
 go_simp
 refine hK.out _ _ ?_; clear hK K
 refine Fact.p rfl fun K hK => ?_
 go_simp
 refine hK.out _ _ ?_; clear hK K
 refine Fact.op_guard (g := 36) (d := 185) (b := true) rfl rfl rfl ?_ (fun K hK => ?_)
 ·
  simp only [Fact.G, Nat.reduceEqDiff, Nat.reduceLT, reduceIte, hf.size, Bool.not_true, Bool.not_false]
 go_simp
 refine hK.out _ _ ?_; clear hK K
 refine Fact.p rfl fun K hK => ?_
 go_simp
 refine hK.out _ _ ?_; clear hK K
 refine Fact.p rfl fun K hK => ?_
 go_simp
 refine hK.out _ _ ?_; clear hK K
 refine Fact.op_guard (g := 39) (d := 188) (b := true) rfl rfl rfl ?_ (fun K hK => ?_)
 ·
  simp only [Fact.G, Nat.reduceEqDiff, Nat.reduceLT, reduceIte, hf.size, Bool.not_true, Bool.not_false]
 go_simp
 refine hK.out _ _ ?_; clear hK K
 refine Fact.op_guard (g := 39) (d := 188) (b := true) rfl rfl rfl ?_ (fun K hK => ?_)
 ·
  simp only [Fact.G, Nat.reduceEqDiff, Nat.reduceLT, reduceIte, hf.size, Bool.not_true, Bool.not_false]
 go_simp
 refine hK.out _ _ ?_; clear hK K
 refine Fact.p rfl fun K hK => ?_
 go_simp
 refine hK.out _ _ ?_; clear hK K
 refine Fact.p rfl fun K hK => ?_
 go_simp
 refine hK.out _ _ ?_; clear hK K
 refine Fact.op_guard (g := 43) (d := 192) (b := true) rfl rfl rfl ?_ (fun K hK => ?_)
 ·
  simp only [Fact.G, Nat.reduceEqDiff, Nat.reduceLT, reduceIte, hf.size, Bool.not_true, Bool.not_false]
 go_simp
 refine hK.out _ _ ?_; clear hK K
 refine Fact.op_guard (g := 43) (d := 192) (b := true) rfl rfl rfl ?_ (fun K hK => ?_)
 ·
  simp only [Fact.G, Nat.reduceEqDiff, Nat.reduceLT, reduceIte, hf.size, Bool.not_true, Bool.not_false]
 go_simp
 refine hK.out _ _ ?_; clear hK K
 refine Fact.p rfl fun K hK => ?_
 go_simp
 refine hK.out _ _ ?_; clear hK K
 refine Fact.p rfl fun K hK => ?_
 go_simp
 refine hK.out _ _ ?_; clear hK K
 refine Fact.op_guard (g := 47) (d := 196) (b := true) rfl rfl rfl ?_ (fun K hK => ?_)
 ·
  simp only [Fact.G, Nat.reduceEqDiff, Nat.reduceLT, reduceIte, hf.size, Bool.not_true, Bool.not_false]
 go_simp
 refine hK.out _ _ ?_; clear hK K
 have cc := step16 w27 g (⟨#[]⟩ : ByteArray) 2 hAgw27 (⟨#[4]⟩ : ByteArray) 120
 rw [EqK12] at cc
 refine Fact.op_guard (g := 47) (d := 196) (b := true) rfl rfl rfl ?_ (fun K hK => ?_)
 ·
  simp only [Fact.G, Nat.reduceEqDiff, Nat.reduceLT, reduceIte, hf.size, Bool.not_true, Bool.not_false]
 go_simp
 go_at_call 16; refine (cc).mono ?_; rintro e w28 ⟨rfl, h28⟩
 clear cc
 have hbw28 := hbw27.trans (h28.mono hbw27.size)
 have hAgw28 := hAgw27.later h28
 have hAuw28 := hAuw27.later h28
 have hAxw28 := hAxw27.later h28
 dsimp only
 refine hK.out _ _ ?_; clear hK K
 refine Fact.op_guard (g := 47) (d := 196) (b := true) rfl rfl rfl ?_ (fun K hK => ?_)
 ·
  simp only [Fact.G, Nat.reduceEqDiff, Nat.reduceLT, reduceIte, hf.size, Bool.not_true, Bool.not_false]
 go_simp
 refine hK.out _ _ ?_; clear hK K
 refine Fact.p rfl fun K hK => ?_
 go_simp
 refine hK.out _ _ ?_; clear hK K
 refine Fact.p rfl fun K hK => ?_
 go_simp
 refine hK.out _ _ ?_; clear hK K
 refine Fact.op_guard (g := 52) (d := 201) (b := true) rfl rfl rfl ?_ (fun K hK => ?_)
 ·
  simp only [Fact.G, Nat.reduceEqDiff, Nat.reduceLT, reduceIte, hf.size, Bool.not_true, Bool.not_false]
 go_simp
 refine hK.out _ _ ?_; clear hK K
 have cc := step16 w28 g (⟨#[]⟩ : ByteArray) 2 hAgw28 (⟨#[]⟩ : ByteArray) 120
 rw [EqK13] at cc
 refine Fact.op_guard (g := 52) (d := 201) (b := true) rfl rfl rfl ?_ (fun K hK => ?_)
 ·
  simp only [Fact.G, Nat.reduceEqDiff, Nat.reduceLT, reduceIte, hf.size, Bool.not_true, Bool.not_false]
 go_simp
 go_at_call 16; refine (cc).mono ?_; rintro e w29 ⟨rfl, h29⟩
 clear cc
 have hbw29 := hbw28.trans (h29.mono hbw28.size)
 have hAgw29 := hAgw28.later h29
 have hAuw29 := hAuw28.later h29
 have hAxw29 := hAxw28.later h29
 dsimp only
 refine hK.out _ _ ?_; clear hK K
 refine Fact.op_guard (g := 52) (d := 201) (b := true) rfl rfl rfl ?_ (fun K hK => ?_)
 ·
  simp only [Fact.G, Nat.reduceEqDiff, Nat.reduceLT, reduceIte, hf.size, Bool.not_true, Bool.not_false]
 go_simp
 refine hK.out _ _ ?_; clear hK K
 refine Fact.p rfl fun K hK => ?_
 go_simp
 refine hK.out _ _ ?_; clear hK K
 refine Fact.p rfl fun K hK => ?_
 go_simp
 refine hK.out _ _ ?_; clear hK K
 refine Fact.op_guard (g := 57) (d := 206) (b := true) rfl rfl rfl ?_ (fun K hK => ?_)
 ·
  simp only [Fact.G, Nat.reduceEqDiff, Nat.reduceLT, reduceIte, hf.size, Bool.not_true, Bool.not_false]
 go_simp
 refine hK.out _ _ ?_; clear hK K
 have cc := can21 w29 g (⟨#[]⟩ : ByteArray) 2 hAgw29 (⟨#[4]⟩ : ByteArray)
 rw [EqK14] at cc
 refine Fact.op_guard (g := 57) (d := 206) (b := true) rfl rfl rfl ?_ (fun K hK => ?_)
 ·
  simp only [Fact.G, Nat.reduceEqDiff, Nat.reduceLT, reduceIte, hf.size, Bool.not_true, Bool.not_false]
 go_simp
 go_at_call 21; refine (cc).mono ?_; rintro e w30 ⟨rfl, h30⟩
 clear cc
 have hbw30 := hbw29.trans (h30.mono hbw29.size)
 have hAgw30 := hAgw29.later h30
 have hAuw30 := hAuw29.later h30
 have hAxw30 := hAxw29.later h30
 dsimp only
 refine hK.out _ _ ?_; clear hK K
 refine Fact.op_guard (g := 57) (d := 206) (b := true) rfl rfl rfl ?_ (fun K hK => ?_)
 ·
  simp only [Fact.G, Nat.reduceEqDiff, Nat.reduceLT, reduceIte, hf.size, Bool.not_true, Bool.not_false]
 go_simp
 refine hK.out _ _ ?_; clear hK K
 refine Fact.p rfl fun K hK => ?_
 go_simp
 refine hK.out _ _ ?_; clear hK K
 refine Fact.p rfl fun K hK => ?_
 go_simp
 refine hK.out _ _ ?_; clear hK K
 refine Fact.op_guard (g := 62) (d := 211) (b := true) rfl rfl rfl ?_ (fun K hK => ?_)
 ·
  simp only [Fact.G, Nat.reduceEqDiff, Nat.reduceLT, reduceIte, hf.size, Bool.not_true, Bool.not_false]
 go_simp
 refine hK.out _ _ ?_; clear hK K
 have cc := can21 w30 g (⟨#[]⟩ : ByteArray) 2 hAgw30 (⟨#[]⟩ : ByteArray)
 rw [EqK15] at cc
 refine Fact.op_guard (g := 62) (d := 211) (b := true) rfl rfl rfl ?_ (fun K hK => ?_)
 ·
  simp only [Fact.G, Nat.reduceEqDiff, Nat.reduceLT, reduceIte, hf.size, Bool.not_true, Bool.not_false]
 go_simp
 go_at_call 21; refine (cc).mono ?_; rintro e w31 ⟨rfl, h31⟩
 clear cc
 have hbw31 := hbw30.trans (h31.mono hbw30.size)
 have hAgw31 := hAgw30.later h31
 have hAuw31 := hAuw30.later h31
 have hAxw31 := hAxw30.later h31
 dsimp only
 refine hK.out _ _ ?_; clear hK K
 refine Fact.op_guard (g := 62) (d := 211) (b := true) rfl rfl rfl ?_ (fun K hK => ?_)
 ·
  simp only [Fact.G, Nat.reduceEqDiff, Nat.reduceLT, reduceIte, hf.size, Bool.not_true, Bool.not_false]
 go_simp
 refine hK.out _ _ ?_; clear hK K
 refine Fact.p rfl fun K hK => ?_
 go_simp
 refine hK.out _ _ ?_; clear hK K
 refine Fact.p rfl fun K hK => ?_
 go_simp
 refine hK.out _ _ ?_; clear hK K
 refine Fact.op_guard (g := 67) (d := 216) (b := true) rfl rfl rfl ?_ (fun K hK => ?_)
 ·
  simp only [Fact.G, Nat.reduceEqDiff, Nat.reduceLT, reduceIte, hf.size, Bool.not_true, Bool.not_false]
 go_simp
 refine hK.out _ _ ?_; clear hK K
 refine Fact.op_guard (g := 67) (d := 216) (b := true) rfl rfl rfl ?_ (fun K hK => ?_)
 ·
  simp only [Fact.G, Nat.reduceEqDiff, Nat.reduceLT, reduceIte, hf.size, Bool.not_true, Bool.not_false]
 go_simp
 go_at_call 13; refine (start13n w31).mono ?_; rintro e wz ⟨rfl, rfl⟩
 dsimp only
 refine hK.out _ _ ?_; clear hK K
 refine Fact.op_guard (g := 67) (d := 216) (b := true) rfl rfl rfl ?_ (fun K hK => ?_)
 ·
  simp only [Fact.G, Nat.reduceEqDiff, Nat.reduceLT, reduceIte, hf.size, Bool.not_true, Bool.not_false]
 go_simp
 refine hK.out _ _ ?_; clear hK K
 refine Fact.p rfl fun K hK => ?_
 go_simp
 refine hK.out _ _ ?_; clear hK K
 refine Fact.p rfl fun K hK => ?_
 go_simp
 refine hK.out _ _ ?_; clear hK K
 refine Fact.op_guard (g := 72) (d := 221) (b := true) rfl rfl rfl ?_ (fun K hK => ?_)
 ·
  simp only [Fact.G, Nat.reduceEqDiff, Nat.reduceLT, reduceIte, hf.size, Bool.not_true, Bool.not_false]
 go_simp
 refine hK.out _ _ ?_; clear hK K
 have cc := step16n (⟨#[]⟩ : ByteArray) 97 w31
 refine Fact.op_guard (g := 72) (d := 221) (b := true) rfl rfl rfl ?_ (fun K hK => ?_)
 ·
  simp only [Fact.G, Nat.reduceEqDiff, Nat.reduceLT, reduceIte, hf.size, Bool.not_true, Bool.not_false]
 go_simp
 go_at_call 16; refine (cc).mono ?_; rintro e w32 ⟨rfl, h32⟩
 clear cc
 have hbw32 := hbw31.trans (h32.mono hbw31.size)
 have hAgw32 := hAgw31.later h32
 have hAuw32 := hAuw31.later h32
 have hAxw32 := hAxw31.later h32
 dsimp only
 refine hK.out _ _ ?_; clear hK K
 refine Fact.op_guard (g := 72) (d := 221) (b := true) rfl rfl rfl ?_ (fun K hK => ?_)
 ·
  simp only [Fact.G, Nat.reduceEqDiff, Nat.reduceLT, reduceIte, hf.size, Bool.not_true, Bool.not_false]
 go_simp
 refine hK.out _ _ ?_; clear hK K
 refine Fact.p rfl fun K hK => ?_
 go_simp
 refine hK.out _ _ ?_; clear hK K
 refine Fact.p rfl fun K hK => ?_
 go_simp
 refine hK.out _ _ ?_; clear hK K
 refine Fact.op_guard (g := 77) (d := 226) (b := true) rfl rfl rfl ?_ (fun K hK => ?_)
 ·
  simp only [Fact.G, Nat.reduceEqDiff, Nat.reduceLT, reduceIte, hf.size, Bool.not_true, Bool.not_false]
 go_simp
 refine hK.out _ _ ?_; clear hK K
 refine Fact.op_guard (g := 77) (d := 226) (b := true) rfl rfl rfl ?_ (fun K hK => ?_)
 ·
  simp only [Fact.G, Nat.reduceEqDiff, Nat.reduceLT, reduceIte, hf.size, Bool.not_true, Bool.not_false]
 go_simp
 refine hK.out _ _ ?_; clear hK K
 have hx33 : Below w32.heap.size w32 (w32.alloc (.cells #[.string (⟨#[97]⟩ : ByteArray)] 9)) := (Below.refl _ _).alloc (Nat.le_refl _) _
 have ht33 := txt_new w32 [(⟨#[97]⟩ : ByteArray)]
 have hbx33 := hbw32.trans (hx33.mono hbw32.size)
 have hAgx33 := hAgw32.later hx33
 have hAux33 := hAuw32.later hx33
 have hAxx33 := hAxw32.later hx33
 have cc := read18n (w32.alloc (.cells #[.string (⟨#[97]⟩ : ByteArray)] 9)) (⟨#[]⟩ : ByteArray) w32.heap.size 1 [(⟨#[97]⟩ : ByteArray)] ht33 (txt_small (by decide)) (by decide)
 refine Fact.op_guard (g := 77) (d := 226) (b := true) rfl rfl rfl ?_ (fun K hK => ?_)
 ·
  simp only [Fact.G, Nat.reduceEqDiff, Nat.reduceLT, reduceIte, hf.size, Bool.not_true, Bool.not_false]
 go_simp
 go_at_call 18; refine (cc).mono ?_; rintro e w34 ⟨rfl, h34⟩
 clear cc
 have hbw34 := hbx33.trans (h34.mono hbx33.size)
 have hAgw34 := hAgx33.later h34
 have hAuw34 := hAux33.later h34
 have hAxw34 := hAxx33.later h34
 dsimp only
 refine hK.out _ _ ?_; clear hK K
 refine Fact.op_guard (g := 77) (d := 226) (b := true) rfl rfl rfl ?_ (fun K hK => ?_)
 ·
  simp only [Fact.G, Nat.reduceEqDiff, Nat.reduceLT, reduceIte, hf.size, Bool.not_true, Bool.not_false]
 go_simp
 refine hK.out _ _ ?_; clear hK K
 refine Fact.p rfl fun K hK => ?_
 go_simp
 refine hK.out _ _ ?_; clear hK K
 refine Fact.p rfl fun K hK => ?_
 go_simp
 refine hK.out _ _ ?_; clear hK K
 refine Fact.op_guard (g := 83) (d := 232) (b := true) rfl rfl rfl ?_ (fun K hK => ?_)
 ·
  simp only [Fact.G, Nat.reduceEqDiff, Nat.reduceLT, reduceIte, hf.size, Bool.not_true, Bool.not_false]
 go_simp
 refine hK.out _ _ ?_; clear hK K
 refine Fact.op_guard (g := 83) (d := 232) (b := true) rfl rfl rfl ?_ (fun K hK => ?_)
 ·
  simp only [Fact.G, Nat.reduceEqDiff, Nat.reduceLT, reduceIte, hf.size, Bool.not_true, Bool.not_false]
 go_simp
 refine hK.out _ _ ?_; clear hK K
 refine Fact.p rfl fun K hK => ?_
 go_simp
 refine hK.out _ _ ?_; clear hK K
 refine Fact.p rfl fun K hK => ?_
 go_simp
 refine hK.out _ _ ?_; clear hK K
 refine Fact.op_guard (g := 87) (d := 236) (b := true) rfl rfl rfl ?_ (fun K hK => ?_)
 ·
  simp only [Fact.G, Nat.reduceEqDiff, Nat.reduceLT, reduceIte, hf.size, Bool.not_true, Bool.not_false]
 go_simp
 refine hK.out _ _ ?_; clear hK K
 have cc := can21n (⟨#[]⟩ : ByteArray) w34
 refine Fact.op_guard (g := 87) (d := 236) (b := true) rfl rfl rfl ?_ (fun K hK => ?_)
 ·
  simp only [Fact.G, Nat.reduceEqDiff, Nat.reduceLT, reduceIte, hf.size, Bool.not_true, Bool.not_false]
 go_simp
 go_at_call 21; refine (cc).mono ?_; rintro e w35 ⟨rfl, h35⟩
 clear cc
 have hbw35 := hbw34.trans (h35.mono hbw34.size)
 have hAgw35 := hAgw34.later h35
 have hAuw35 := hAuw34.later h35
 have hAxw35 := hAxw34.later h35
 dsimp only
 refine hK.out _ _ ?_; clear hK K
 refine Fact.op_guard (g := 87) (d := 236) (b := true) rfl rfl rfl ?_ (fun K hK => ?_)
 ·
  simp only [Fact.G, Nat.reduceEqDiff, Nat.reduceLT, reduceIte, hf.size, Bool.not_true, Bool.not_false]
 go_simp
 refine hK.out _ _ ?_; clear hK K
 refine Fact.p rfl fun K hK => ?_
 go_simp
 refine hK.out _ _ ?_; clear hK K
 refine Fact.p rfl fun K hK => ?_
 go_simp
 refine hK.out _ _ ?_; clear hK K
 refine Fact.op_guard (g := 92) (d := 241) (b := true) rfl rfl rfl ?_ (fun K hK => ?_)
 ·
  simp only [Fact.G, Nat.reduceEqDiff, Nat.reduceLT, reduceIte, hf.size, Bool.not_true, Bool.not_false]
 go_simp
 refine hK.out _ _ ?_; clear hK K
 refine Fact.op_guard (g := 92) (d := 241) (b := true) rfl rfl rfl ?_ (fun K hK => ?_)
 ·
  simp only [Fact.G, Nat.reduceEqDiff, Nat.reduceLT, reduceIte, hf.size, Bool.not_true, Bool.not_false]
 go_simp
 refine hK.out _ _ ?_; clear hK K
 refine Fact.op_guard (g := 92) (d := 241) (b := true) rfl rfl rfl ?_ (fun K hK => ?_)
 ·
  simp only [Fact.G, Nat.reduceEqDiff, Nat.reduceLT, reduceIte, hf.size, Bool.not_true, Bool.not_false]
 go_simp
 refine hK.out _ _ ?_; clear hK K
 refine Fact.p rfl fun K hK => ?_
 go_simp
 refine hK.out _ _ ?_; clear hK K
 refine Fact.p rfl fun K hK => ?_
 go_simp
 refine hK.out _ _ ?_; clear hK K
 refine Fact.op_guard (g := 97) (d := 246) (b := true) rfl rfl rfl ?_ (fun K hK => ?_)
 ·
  simp only [Fact.G, Nat.reduceEqDiff, Nat.reduceLT, reduceIte, hf.size, Bool.not_true, Bool.not_false]
 go_simp
 refine hK.out _ _ ?_; clear hK K
 refine Fact.op_guard (g := 97) (d := 246) (b := true) rfl rfl rfl ?_ (fun K hK => ?_)
 ·
  simp only [Fact.G, Nat.reduceEqDiff, Nat.reduceLT, reduceIte, hf.size, Bool.not_true, Bool.not_false]
 go_simp
 refine hK.out _ _ ?_; clear hK K
 refine Fact.p rfl fun K hK => ?_
 go_simp
 refine hK.out _ _ ?_; clear hK K
 refine Fact.p rfl fun K hK => ?_
 go_simp
 refine hK.out _ _ ?_; clear hK K
 refine Fact.op_guard (g := 101) (d := 250) (b := true) rfl rfl rfl ?_ (fun K hK => ?_)
 ·
  simp only [Fact.G, Nat.reduceEqDiff, Nat.reduceLT, reduceIte, hf.size, Bool.not_true, Bool.not_false]
 go_simp
 refine hK.out _ _ ?_; clear hK K
 have cc := start13 w35 g (⟨#[]⟩ : ByteArray) 2 hAgw35
 rw [EqK1] at cc
 refine Fact.op_guard (g := 101) (d := 250) (b := true) rfl rfl rfl ?_ (fun K hK => ?_)
 ·
  simp only [Fact.G, Nat.reduceEqDiff, Nat.reduceLT, reduceIte, hf.size, Bool.not_true, Bool.not_false]
 go_simp
 go_at_call 13; refine (cc).mono ?_; rintro e w36 ⟨rfl, h36⟩
 clear cc
 have hbw36 := hbw35.trans (h36.mono hbw35.size)
 have hAgw36 := hAgw35.later h36
 have hAuw36 := hAuw35.later h36
 have hAxw36 := hAxw35.later h36
 dsimp only
 refine hK.out _ _ ?_; clear hK K
 refine Fact.op_guard (g := 101) (d := 250) (b := true) rfl rfl rfl ?_ (fun K hK => ?_)
 ·
  simp only [Fact.G, Nat.reduceEqDiff, Nat.reduceLT, reduceIte, hf.size, Bool.not_true, Bool.not_false]
 go_simp
 refine hK.out _ _ ?_; clear hK K
 refine Fact.p rfl fun K hK => ?_
 go_simp
 refine hK.out _ _ ?_; clear hK K
 refine Fact.p rfl fun K hK => ?_
 go_simp
 refine hK.out _ _ ?_; clear hK K
 refine Fact.nil ?_
 refine Fact.reQ (n := 255) (by simp only [Fact.G, hf.size]) hf.defers (fun fr1 hf1 hT => ?_)
 have hKp := hT 0
 simp only [Fact.G, Nat.reduceEqDiff, Nat.reduceLT, reduceIte, hf.size] at hKp
 clear hT hf s0 s1 s3 s5 s6 s8 s9 s10 s11 s12 s14 s17 s18 s19 s21 s23 s25 s26 s27 b149 b150 b151 b152 b153 b154 b155 b156 b157 b158 b159 b160 b161 b162 b163 b164 b165 b166 b167 b168 b169 b170 b171 b172 b173 b174 b175 b176 b177 b178 b179 b180 b181 b182 b183 b184 b185 b186 b187 b188 b189 b190 b191 b192 b193 b194 b195 b196 b197 b198 b199 b200 b201 b202 b203 b204 b205 b206 b207 b208 b209 b210 b211 b212 b213 b214 b215 b216 b217 b218 b219 b220 b221 b222 b223 b224 b225 b226 b227 b228 b229 b230 b231 b232 b233 b234 b235 b236 b237 b238 b239 b240 b241 b242 b243 b244 b245 b246 b247 b248 b249 b250 b251 b252 b253 b254
 have s0 := hKp; clear hKp
 have hf := hf1; clear hf1
 refine Fact.then_normal ?_
 refine hK21 _ _ ?_
 refine wp_ret ?_
 exact Fact.ret1 rfl hf s0 ⟨rfl, hbw36⟩
end Lv
end Go.Proofs.Ytfgfichkcckhiaa
