/- Dawg: words in order, words as they may be. -/
import Derived.Test.YtcddnmhmcieebaaGreatDoorY1
import Derived.Test.YtcddnmhmcieebaaGreatDoorDLawP
import Derived.Test.YtcddnmhmcieebaaGreatDoorTools
import Derived.WalkSmall
import Derived.Test.YtcddnmhmcieebaaGreatDoorDAdd
import Derived.Laws.ResultCell
import Derived.Laws.MakeOwn
namespace Go.Proofs.YtcddnmhmcieebaaGreatDoor
open Go.RowKit
set_option linter.unusedSimpArgs false
set_option linter.unusedVariables false
set_option linter.unnecessarySimpa false
namespace Dw

theorem less_list : ∀ (a b : List UInt8), Op.bytesLess a b = lexlt (a.map UInt8.toNat) (b.map UInt8.toNat)
  | a, [] => by cases a <;> simp [Op.bytesLess, lexlt]
  | [], b :: l => by simp [Op.bytesLess, lexlt]
  | a :: x, b :: y => by
    simp only [Op.bytesLess, List.map_cons, lexlt]
    rw [less_list x y]
    congr 1
    · congr 1
      by_cases h : a = b
      · subst h; simp
      · have : a.toNat ≠ b.toNat := fun e => h (UInt8.toNat_inj.1 e)
        simp [h, this]
theorem less_eq (a b : ByteArray) : Op.bytesLess a.toList b.toList = lexlt (wl a) (wl b) := by
  rw [ByteArray.toList_eq, ByteArray.toList_eq, less_list]
  rfl
/-- a word as it may be -/
def okW (s : ByteArray) : Bool := !s.toList.isEmpty && decide (s.size ≤ 255)
set_option maxHeartbeats 4000000 in
set_option maxRecDepth 100000 in
theorem nan61 (s : ByteArray) (w : World) : Calls Tryz.prog 154 #[.string s] w fun e w1 => e = .returned (.bool false) ∧ w = w1 := by
 refine Zn1 6 Tryz.func154 fun fr hf s0 => ?_
 refine Ze fun _ hK1 => ?_
 refine Zr [] hf ?_
 refine Zq1 0 hf ?_
 clear hf s0; intro fr1 hf s0
 refine Zs hK1 fun _ hK2 => ?_
 refine Zr [3, 4, 5] hf ?_
 refine Zq1 2 hf ?_
 clear hf s0; intro fr1 hf s2
 refine Zx hK2 ?_
 refine Zret ?_
 exact Fact.ret1 rfl hf s2 ⟨rfl, rfl⟩
set_option maxHeartbeats 4000000 in
set_option maxRecDepth 100000 in
theorem cmp54lt (a b : ByteArray) (h1 : Op.bytesLess a.toList b.toList = true) (w : World) : Calls Tryz.prog 133 #[.string a, .string b] w fun e w1 => e = .returned (.int .i64 (-1)) ∧ w = w1 := by
 refine Zn2 20 Tryz.func133 fun fr hf s0 s1 => ?_
 have r1 := h1
 have r2 := trivial
 refine Ze fun _ hK1 => ?_
 refine Zr [] hf ?_
 refine Zq2 0 1 hf ?_
 clear hf s0 s1; intro fr1 hf sS
 refine Zt hK1 fun _ hK2 => ?_
 have bB := hf.B2 7 8
 refine Za ?_
 refine fp fun K Z => ?_
 go_simp
 go_at_call 154; refine (nan61 a w).mono ?_; rintro e w1 ⟨rfl, rfl⟩
 try dsimp only
 apply Z.out; clear Z K
 refine Za ?_
 refine Fact.nil (Zq3 0 1 5 hf ?_)
 clear hf sS bB; intro fr1 hf sS
 refine Zt hK2 fun _ hK3 => ?_
 have bB := hf.B2 9 10
 refine Za ?_
 refine fp fun K Z => ?_
 go_simp
 go_at_call 154; refine (nan61 b w).mono ?_; rintro e w2 ⟨rfl, rfl⟩
 try dsimp only
 apply Z.out; clear Z K
 refine Za ?_
 refine Fact.nil (Zq4 0 1 5 6 hf ?_)
 clear hf sS bB; intro fr1 hf sS
 refine Zs hK3 fun _ hK4 => ?_
 refine Ze fun _ hK5 => ?_
 refine Zr [] hf ?_
 refine Zq4 0 1 6 11 hf ?_
 clear hf sS; intro fr1 hf sS
 refine Zx hK5 ?_
 refine Fact.cond_f sS.2.2.2 ?_
 refine wp_skip ?_
 refine Zs hK4 fun _ hK6 => ?_
 refine Ze fun _ hK7 => ?_
 refine Zr [] hf ?_
 refine Zq3 0 1 13 hf ?_
 clear hf sS; intro fr1 hf sS
 refine Zx hK7 ?_
 refine Fact.cond_f sS.2.2 ?_
 refine wp_skip ?_
 refine Zs hK6 fun _ hK8 => ?_
 refine Ze fun _ hK9 => ?_
 refine Zr [14, 15] hf ?_
 refine Zq3 0 1 16 hf ?_
 clear hf sS; intro fr1 hf sS
 refine Zx hK9 ?_
 refine Fact.cond_t sS.2.2 ?_
 refine Ze fun _ hK10 => ?_
 refine Zr [] hf ?_
 refine Zq1 4 hf ?_
 clear hf sS; intro fr1 hf s4
 refine Zx hK10 ?_
 refine Zret ?_
 exact Fact.ret1 rfl hf s4 ⟨rfl, rfl⟩
set_option maxHeartbeats 4000000 in
set_option maxRecDepth 100000 in
theorem cmp54gt (a b : ByteArray) (h1 : Op.bytesLess a.toList b.toList = false) (h2 : (a.toList == b.toList) = false) (w : World) : Calls Tryz.prog 133 #[.string a, .string b] w fun e w1 => e = .returned (.int .i64 (1)) ∧ w = w1 := by
 refine Zn2 20 Tryz.func133 fun fr hf s0 s1 => ?_
 have r1 := h1
 have r2 := h2
 refine Ze fun _ hK1 => ?_
 refine Zr [] hf ?_
 refine Zq2 0 1 hf ?_
 clear hf s0 s1; intro fr1 hf sS
 refine Zt hK1 fun _ hK2 => ?_
 have bB := hf.B2 7 8
 refine Za ?_
 refine fp fun K Z => ?_
 go_simp
 go_at_call 154; refine (nan61 a w).mono ?_; rintro e w1 ⟨rfl, rfl⟩
 try dsimp only
 apply Z.out; clear Z K
 refine Za ?_
 refine Fact.nil (Zq3 0 1 5 hf ?_)
 clear hf sS bB; intro fr1 hf sS
 refine Zt hK2 fun _ hK3 => ?_
 have bB := hf.B2 9 10
 refine Za ?_
 refine fp fun K Z => ?_
 go_simp
 go_at_call 154; refine (nan61 b w).mono ?_; rintro e w2 ⟨rfl, rfl⟩
 try dsimp only
 apply Z.out; clear Z K
 refine Za ?_
 refine Fact.nil (Zq4 0 1 5 6 hf ?_)
 clear hf sS bB; intro fr1 hf sS
 refine Zs hK3 fun _ hK4 => ?_
 refine Ze fun _ hK5 => ?_
 refine Zr [] hf ?_
 refine Zq4 0 1 6 11 hf ?_
 clear hf sS; intro fr1 hf sS
 refine Zx hK5 ?_
 refine Fact.cond_f sS.2.2.2 ?_
 refine wp_skip ?_
 refine Zs hK4 fun _ hK6 => ?_
 refine Ze fun _ hK7 => ?_
 refine Zr [] hf ?_
 refine Zq3 0 1 13 hf ?_
 clear hf sS; intro fr1 hf sS
 refine Zx hK7 ?_
 refine Fact.cond_f sS.2.2 ?_
 refine wp_skip ?_
 refine Zs hK6 fun _ hK8 => ?_
 refine Ze fun _ hK9 => ?_
 refine Zr [14, 15] hf ?_
 refine Zq3 0 1 16 hf ?_
 clear hf sS; intro fr1 hf sS
 refine Zx hK9 ?_
 refine Fact.cond_f sS.2.2 ?_
 refine wp_skip ?_
 refine Zs hK8 fun _ hK10 => ?_
 refine Ze fun _ hK11 => ?_
 refine Zr [17, 18] hf ?_
 refine Zq1 19 hf ?_
 clear hf sS; intro fr1 hf s19
 refine Zx hK11 ?_
 rw [r1, r2] at s19
 simp only [Bool.or_self, Bool.false_or, Bool.not_false, Bool.not_true] at s19
 refine Fact.cond_t s19 ?_
 refine Ze fun _ hK12 => ?_
 refine Zr [] hf ?_
 refine Zq1 4 hf ?_
 clear hf s19; intro fr1 hf s4
 refine Zx hK12 ?_
 refine Zret ?_
 exact Fact.ret1 rfl hf s4 ⟨rfl, rfl⟩
set_option maxHeartbeats 4000000 in
set_option maxRecDepth 100000 in
theorem cmp54eq (a b : ByteArray) (h1 : Op.bytesLess a.toList b.toList = false) (h2 : (a.toList == b.toList) = true) (w : World) : Calls Tryz.prog 133 #[.string a, .string b] w fun e w1 => e = .returned (.int .i64 (0)) ∧ w = w1 := by
 refine Zn2 20 Tryz.func133 fun fr hf s0 s1 => ?_
 have r1 := h1
 have r2 := h2
 refine Ze fun _ hK1 => ?_
 refine Zr [] hf ?_
 refine Zq2 0 1 hf ?_
 clear hf s0 s1; intro fr1 hf sS
 refine Zt hK1 fun _ hK2 => ?_
 have bB := hf.B2 7 8
 refine Za ?_
 refine fp fun K Z => ?_
 go_simp
 go_at_call 154; refine (nan61 a w).mono ?_; rintro e w1 ⟨rfl, rfl⟩
 try dsimp only
 apply Z.out; clear Z K
 refine Za ?_
 refine Fact.nil (Zq3 0 1 5 hf ?_)
 clear hf sS bB; intro fr1 hf sS
 refine Zt hK2 fun _ hK3 => ?_
 have bB := hf.B2 9 10
 refine Za ?_
 refine fp fun K Z => ?_
 go_simp
 go_at_call 154; refine (nan61 b w).mono ?_; rintro e w2 ⟨rfl, rfl⟩
 try dsimp only
 apply Z.out; clear Z K
 refine Za ?_
 refine Fact.nil (Zq4 0 1 5 6 hf ?_)
 clear hf sS bB; intro fr1 hf sS
 refine Zs hK3 fun _ hK4 => ?_
 refine Ze fun _ hK5 => ?_
 refine Zr [] hf ?_
 refine Zq4 0 1 6 11 hf ?_
 clear hf sS; intro fr1 hf sS
 refine Zx hK5 ?_
 refine Fact.cond_f sS.2.2.2 ?_
 refine wp_skip ?_
 refine Zs hK4 fun _ hK6 => ?_
 refine Ze fun _ hK7 => ?_
 refine Zr [] hf ?_
 refine Zq3 0 1 13 hf ?_
 clear hf sS; intro fr1 hf sS
 refine Zx hK7 ?_
 refine Fact.cond_f sS.2.2 ?_
 refine wp_skip ?_
 refine Zs hK6 fun _ hK8 => ?_
 refine Ze fun _ hK9 => ?_
 refine Zr [14, 15] hf ?_
 refine Zq3 0 1 16 hf ?_
 clear hf sS; intro fr1 hf sS
 refine Zx hK9 ?_
 refine Fact.cond_f sS.2.2 ?_
 refine wp_skip ?_
 refine Zs hK8 fun _ hK10 => ?_
 refine Ze fun _ hK11 => ?_
 refine Zr [17, 18] hf ?_
 refine Zq1 19 hf ?_
 clear hf sS; intro fr1 hf s19
 refine Zx hK11 ?_
 rw [r1, r2] at s19
 simp only [Bool.or_self, Bool.false_or, Bool.not_false, Bool.not_true] at s19
 refine Fact.cond_f s19 ?_
 refine wp_skip ?_
 refine Zs hK10 fun _ hK12 => ?_
 refine Zr [] hf ?_
 refine Zq1 4 hf ?_
 clear hf s19; intro fr1 hf s4
 refine Zx hK12 ?_
 refine Zret ?_
 exact Fact.ret1 rfl hf s4 ⟨rfl, rfl⟩
def cmpS (a b : ByteArray) : Int := if lexlt (wl a) (wl b) then -1 else if (a.toList == b.toList) = true then 0 else 1
theorem cmp54 (a b : ByteArray) (w : World) : Calls Tryz.prog 133 #[.string a, .string b] w fun e w1 => e = .returned (.int .i64 (cmpS a b)) ∧ w = w1 := by
  unfold cmpS
  rw [← less_eq]
  cases h1 : Op.bytesLess a.toList b.toList with
  | true => exact cmp54lt a b h1 w
  | false =>
    cases h2 : (a.toList == b.toList) with
    | true => exact cmp54eq a b h1 h2 w
    | false => exact cmp54gt a b h1 h2 w

set_option maxHeartbeats 4000000 in
set_option maxRecDepth 100000 in
theorem by46 (e : Ent) (b : ByteArray) (w : World) : Calls Tryz.prog 88 #[eval e, .string b] w fun e1 w1 => e1 = .returned (.int .i64 (cmpS e.word b)) ∧ Below w.heap.size w w1 := by
 refine Zn2 9 Tryz.func88 fun fr hf s0 s1 => ?_
 simp only [eval] at s0
 refine Ze fun _ hK1 => ?_
 refine Zr [] hf ?_
 refine Zq2 1 2 hf ?_
 clear hf s0 s1; intro fr1 hf sS
 refine Zt hK1 fun _ hK2 => ?_
 have bB := hf.B4 5 6 7 8
 iterate 3 refine Za ?_
 refine fp fun K Z => ?_
 go_simp
 go_at_call 133; refine (cmp54 e.word b (w.alloc (.cells #[.string e.word, .int .u32 e.weight, .bool e.gone] 64))).mono ?_; rintro e w2 ⟨rfl, rfl⟩
 try dsimp only
 apply Z.out; clear Z K
 refine Za ?_
 refine Fact.nil (Zq1 4 hf ?_)
 clear hf sS bB; intro fr1 hf s4
 refine Zx hK2 ?_
 refine Zret ?_
 exact Fact.ret1 rfl hf s4 ⟨rfl, (Below.refl _ _).alloc (Nat.le_refl _) _⟩
set_option maxHeartbeats 4000000 in
set_option maxRecDepth 100000 in
theorem chk52e (s : ByteArray) (h1 : s.toList.isEmpty = true) (w : World) : Calls Tryz.prog 131 #[.string s] w fun e w1 => e = .returned (.bool (okW s)) ∧ w = w1 := by
 refine Zn1 10 Tryz.func131 fun fr hf s0 => ?_
 have q1 := h1
 refine Ze fun _ hK1 => ?_
 refine Zr [] hf ?_
 refine Zq1 0 hf ?_
 clear hf s0; intro fr1 hf s0
 refine Zt hK1 fun _ hK2 => ?_
 have bB := hf.B7 3 4 5 6 7 8 9
 iterate 3 refine Za ?_
 refine Zk ?_ (hv := by simp (decide := true) only [Fact.G, reduceIte, hf.size, Fact.N, q1, Fact.N])
 refine Zk ?_ (hv := by simp (decide := true) only [Fact.G, reduceIte, hf.size, Fact.N, q1, Fact.N])
 refine Zk ?_ (hv := by simp (decide := true) only [Fact.G, reduceIte, hf.size, Fact.N, q1, Fact.N])
 iterate 2 refine Za ?_
 refine Fact.nil (Zq1 2 hf ?_)
 clear hf s0 bB; intro fr1 hf s2
 refine Zx hK2 ?_
 refine Zret ?_
 exact Fact.ret1 rfl hf s2 ⟨by simp [okW, h1], rfl⟩
set_option maxHeartbeats 4000000 in
set_option maxRecDepth 100000 in
theorem chk52n (s : ByteArray) (h1 : s.toList.isEmpty = false) (w : World) : Calls Tryz.prog 131 #[.string s] w fun e w1 => e = .returned (.bool (okW s)) ∧ w = w1 := by
 refine Zn1 10 Tryz.func131 fun fr hf s0 => ?_
 have q1 := h1
 refine Ze fun _ hK1 => ?_
 refine Zr [] hf ?_
 refine Zq1 0 hf ?_
 clear hf s0; intro fr1 hf s0
 refine Zt hK1 fun _ hK2 => ?_
 have bB := hf.B7 3 4 5 6 7 8 9
 iterate 3 refine Za ?_
 refine Zg ?_ (hv := by simp (decide := true) only [Fact.G, reduceIte, hf.size, q1, Fact.N])
 refine Zg ?_ (hv := by simp (decide := true) only [Fact.G, reduceIte, hf.size, q1, Fact.N])
 refine Zg ?_ (hv := by simp (decide := true) only [Fact.G, reduceIte, hf.size, q1, Fact.N])
 iterate 2 refine Za ?_
 refine Fact.nil (Zq1 2 hf ?_)
 clear hf s0 bB; intro fr1 hf s2
 refine Zx hK2 ?_
 refine Zret ?_
 exact Fact.ret1 rfl hf s2 ⟨by simp [okW, h1]; try omega, rfl⟩
theorem chk52 (s : ByteArray) (w : World) : Calls Tryz.prog 131 #[.string s] w fun e w1 => e = .returned (.bool (okW s)) ∧ w = w1 := by
  cases h : s.toList.isEmpty with
  | true => exact chk52e s h w
  | false => exact chk52n s h w

end Dw
end Go.Proofs.YtcddnmhmcieebaaGreatDoor

namespace Go.Proofs.YtcddnmhmcieebaaGreatDoor
open Go.RowKit
set_option linter.unusedSimpArgs false
set_option linter.unusedVariables false
set_option linter.unnecessarySimpa false
namespace Dw

/-- of words one behind the other: 7 for what is none, 15 for what does not rise -/
def chkL : Option (List Nat) → List Ent → Nat
  | _, [] => 0
  | p, e :: l => if okW e.word then (if (match p with | none => true | some q => lexlt q (wl e.word)) then chkL (some (wl e.word)) l else 15) else 7
def chkN (es : List Ent) : Nat := chkL none es
def prevW (es : List Ent) : Nat → Option (List Nat)
  | 0 => none
  | i + 1 => es[i]?.map fun e => wl e.word
theorem chk_step {es : List Ent} {i : Nat} {e : Ent} (h : es[i]? = some e) : chkL (prevW es i) (es.drop i) = if okW e.word then (if (match prevW es i with | none => true | some q => lexlt q (wl e.word)) then chkL (some (wl e.word)) (es.drop (i + 1)) else 15) else 7 := by
  obtain ⟨h1, h2⟩ := List.getElem?_eq_some_iff.1 h
  rw [List.drop_eq_getElem_cons h1, h2]
  rfl
theorem prev_zero {es : List Ent} {i : Nat} (h : i = 0) : prevW es i = none := by rw [h]; rfl
theorem prev_succ {es : List Ent} {i : Nat} {p : Ent} (h : 0 < i) (hp : es[i - 1]? = some p) : prevW es i = some (wl p.word) := by
  obtain ⟨j, rfl⟩ : ∃ j, i = j + 1 := ⟨i - 1, by omega⟩
  have : es[j]? = some p := hp
  simp [prevW, this]
theorem prevW_succ {es : List Ent} {i : Nat} {e : Ent} (h : es[i]? = some e) : prevW es (i + 1) = some (wl e.word) := by simp [prevW, h]
theorem cmp_ge {a b : ByteArray} (h : decide (0 ≤ cmpS a b) = true) : lexlt (wl a) (wl b) = false := by
  have h := of_decide_eq_true h
  unfold cmpS at h
  cases hl : lexlt (wl a) (wl b) with
  | false => rfl
  | true => rw [hl] at h; simp at h
theorem cmp_lt {a b : ByteArray} (h : decide (0 ≤ cmpS a b) = false) : lexlt (wl a) (wl b) = true := by
  have h := of_decide_eq_false h
  unfold cmpS at h
  cases hl : lexlt (wl a) (wl b) with
  | true => rfl
  | false => rw [hl] at h; simp at h; split at h <;> omega
set_option maxHeartbeats 4000000 in
set_option maxRecDepth 100000 in
theorem all53 (w : World) (s : ByteArray) (b : Nat) (c0 : w.cell? ⟨b, 0, none⟩ = some (.string s)) : Calls Tryz.prog 132 #[.func (.func 131) #[] #[], .slice (some ⟨b, 0, none⟩) 1 1] w fun e w1 => e = .returned (.bool (okW s)) ∧ w = w1 := by
 refine Zn2 18 Tryz.func132 fun fr hf s0 s1 => ?_
 refine Ze fun _ hK1 => ?_
 refine Zr [] hf ?_
 refine Zq2 0 1 hf ?_
 clear hf s0 s1; intro fr1 hf sS
 refine Zs hK1 fun _ hK2 => ?_
 refine Ze fun _ hK3 => ?_
 refine Zr [7] hf ?_
 refine Zq4 0 7 8 9 hf ?_
 clear hf sS; intro fr1 hf sS
 refine Zx hK3 ?_
 refine wp_block ?_
 refine wp_loop_ghost (fun gk fr wr => ∃ (i : Nat), gk = 1 - i ∧ i ≤ 1 ∧ (0 < i → okW s = true) ∧ Fact.Fr 18 fr ∧ fr.tmps[0]? = some (.func (.func 131) #[] #[]) ∧ fr.tmps[7]? = some (.slice (some ⟨b, 0, none⟩) 1 1) ∧ fr.tmps[8]? = some (.int .i64 1) ∧ fr.tmps[9]? = some (.int .i64 i) ∧ wr = w) (1) ?_ ?_
 · (
 obtain ⟨s0, s7, s8, s9⟩ := sS
 exact ⟨0, rfl, by omega, by omega, hf, s0, s7, s8, s9, rfl⟩)
 · (
 clear hf sS
 rintro gk fr wr ⟨i, hk, hi, hok, hf, s0, s7, s8, s9, hwr⟩
 subst hwr
 have HK := Lib.hid hk; have HO := Lib.hid hok; clear hk hok
 refine Ze fun _ hK4 => ?_
 refine Zr [] hf ?_
 refine Zq5 0 7 8 9 10 hf ?_
 clear hf s0 s7 s8 s9; intro fr1 hf sS
 refine Zs hK4 fun _ hK5 => ?_
 refine Fact.cond_s sS.2.2.2.2 (fun hq => ?_) (fun hq => ?_)
 · (
 have hi0 : i = 0 := by have h9 := of_decide_eq_true hq; omega
 subst hi0
 refine wp_skip ?_
 refine Zs hK5 fun _ hK6 => ?_
 refine wp_block ?_
 refine Ze fun _ hK7 => rg ?_
 have bB := hf.B2 11 12
 refine fp fun K Z => ?_
 go_simp
 try rw [if_pos (by omega)]
 try simp
 apply Z.out; clear Z K
 iterate 2 refine Za ?_
 refine Fact.nil (Zq5 0 6 7 8 9 hf ?_)
 clear hf sS bB; intro fr1 hf sS
 refine Zt hK7 fun _ hK8 => ?_
 have bB := hf.B3 13 14 15
 iterate 2 refine Za ?_
 refine fp fun K Z => ?_
 go_simp
 go_at_call 131; refine (chk52 s wr).mono ?_; rintro e w2 ⟨rfl, rfl⟩
 try dsimp only
 apply Z.out; clear Z K
 refine Za ?_
 refine Fact.nil (Zq5 0 7 8 9 16 hf ?_)
 clear hf sS bB; intro fr1 hf sS
 refine Zx hK8 ?_
 refine Fact.cond_s sS.2.2.2.2 (fun hq2 => ?_) (fun hq2 => ?_)
 · (
 refine Ze fun _ hK9 => ?_
 refine Zr [] hf ?_
 refine Zq1 4 hf ?_
 clear hf sS; intro fr1 hf s4
 refine Zx hK9 ?_
 refine Zret ?_
 exact Fact.ret1 rfl hf s4 ⟨by simp at hq2; rw [hq2], rfl⟩)
 · (
 refine wp_skip ?_
 refine Fact.block_normal ?_
 refine Zx hK6 ?_
 refine Zr [17] hf ?_
 refine Zq4 0 7 8 9 hf ?_
 clear hf sS; intro fr1 hf sS
 refine Fact.then_normal ?_
 obtain ⟨s0, s7, s8, s9⟩ := sS
 exact ⟨_, by have := HK.out; omega, 1, rfl, by omega, fun _ => by simpa using hq2, hf, s0, s7, s8, by rw [s9]; rfl, rfl⟩))
 · (
 have hi1 : 0 < i := by have h9 := of_decide_eq_false hq; omega
 refine Zo ?_
 refine Zs hK2 fun _ hK10 => ?_
 refine Zr [] hf ?_
 refine Zq1 4 hf ?_
 clear hf sS; intro fr1 hf s4
 refine Zx hK10 ?_
 refine Zret ?_
 exact Fact.ret1 rfl hf s4 ⟨by rw [HO.out hi1], rfl⟩))
set_option maxHeartbeats 4000000 in
set_option maxRecDepth 100000 in
theorem wchk45t (w : World) (s : ByteArray) (b : Nat) (c0 : w.cell? ⟨b, 0, none⟩ = some (.string s)) (hh : okW s = true) : Calls Tryz.prog 87 #[.slice (some ⟨b, 0, none⟩) 1 1] w fun e w1 => e = .returned (.int .i64 (if okW s then 0 else 7)) ∧ w = w1 := by
 refine Zn1 8 Tryz.func87 fun fr hf s0 => ?_
 have HH := Lib.hid hh; clear hh
 refine Ze fun _ hK1 => ?_
 refine Zr [] hf ?_
 refine Zq1 0 hf ?_
 clear hf s0; intro fr1 hf s0
 refine Zs hK1 fun _ hK2 => ?_
 refine Zr [] hf ?_
 refine Zq2 0 3 hf ?_
 clear hf s0; intro fr1 hf sS
 refine Zs hK2 fun _ hK3 => ?_
 refine Ze fun _ hK4 => rg ?_
 have bB := hf.B3 4 5 6
 iterate 2 refine Za ?_
 refine fp fun K Z => ?_
 go_simp
 go_at_call 132; refine (all53 w s b c0).mono ?_; rintro e w2 ⟨rfl, rfl⟩
 rw [HH.out]
 try dsimp only
 apply Z.out; clear Z K
 refine Za ?_
 refine Fact.nil (Zq1 7 hf ?_)
 clear hf sS bB; intro fr1 hf s7
 refine Zx hK4 ?_
 refine Fact.cond_f s7 ?_
 refine wp_skip ?_
 refine Zs hK3 fun _ hK5 => ?_
 refine Zr [] hf ?_
 refine Zq1 2 hf ?_
 clear hf s7; intro fr1 hf s2
 refine Zx hK5 ?_
 refine Zret ?_
 exact Fact.ret1 rfl hf s2 ⟨by rw [HH.out]; rfl, rfl⟩
set_option maxHeartbeats 4000000 in
set_option maxRecDepth 100000 in
theorem wchk45f (w : World) (s : ByteArray) (b : Nat) (c0 : w.cell? ⟨b, 0, none⟩ = some (.string s)) (hh : okW s = false) : Calls Tryz.prog 87 #[.slice (some ⟨b, 0, none⟩) 1 1] w fun e w1 => e = .returned (.int .i64 (if okW s then 0 else 7)) ∧ w = w1 := by
 refine Zn1 8 Tryz.func87 fun fr hf s0 => ?_
 have HH := Lib.hid hh; clear hh
 refine Ze fun _ hK1 => ?_
 refine Zr [] hf ?_
 refine Zq1 0 hf ?_
 clear hf s0; intro fr1 hf s0
 refine Zs hK1 fun _ hK2 => ?_
 refine Zr [] hf ?_
 refine Zq2 0 3 hf ?_
 clear hf s0; intro fr1 hf sS
 refine Zs hK2 fun _ hK3 => ?_
 refine Ze fun _ hK4 => rg ?_
 have bB := hf.B3 4 5 6
 iterate 2 refine Za ?_
 refine fp fun K Z => ?_
 go_simp
 go_at_call 132; refine (all53 w s b c0).mono ?_; rintro e w2 ⟨rfl, rfl⟩
 rw [HH.out]
 try dsimp only
 apply Z.out; clear Z K
 refine Za ?_
 refine Fact.nil (Zq1 7 hf ?_)
 clear hf sS bB; intro fr1 hf s7
 refine Zx hK4 ?_
 refine Fact.cond_t s7 ?_
 refine Ze fun _ hK5 => ?_
 refine Zr [] hf ?_
 refine Zq1 2 hf ?_
 clear hf s7; intro fr1 hf s2
 refine Zx hK5 ?_
 refine Zret ?_
 exact Fact.ret1 rfl hf s2 ⟨by rw [HH.out]; rfl, rfl⟩
theorem wchk45 (w : World) (s : ByteArray) (b : Nat) (c0 : w.cell? ⟨b, 0, none⟩ = some (.string s)) : Calls Tryz.prog 87 #[.slice (some ⟨b, 0, none⟩) 1 1] w fun e w1 => e = .returned (.int .i64 (if okW s then 0 else 7)) ∧ w = w1 := by
  cases h : okW s with
  | true => have := wchk45t w s b c0 h; rw [h] at this; exact this
  | false => have := wchk45f w s b c0 h; rw [h] at this; exact this

set_option maxHeartbeats 4000000 in
set_option maxRecDepth 100000 in
theorem echk27 (w : World) (es : List Ent) (B : Nat) (v : Value) (hB : B ≤ w.heap.size) (hre : RE w B v es) (hlen : es.length ≤ 1000000) : Calls Tryz.prog 50 #[v] w fun e w1 => ∃ n : Int, e = .returned (.tuple #[.int .i64 n, .int .i64 (chkN es : Nat)]) ∧ Below w.heap.size w w1 := by
 refine Zn1 37 Tryz.func50 fun fr hf s0 => ?_
 have hre0 := hre.any
 obtain ⟨A, cc, rfl, hcc⟩ := hre.form
 clear hre
 refine Ze fun _ hK1 => ?_
 refine Zr [] hf ?_
 refine Zq3 0 2 3 hf ?_
 clear hf s0; intro fr1 hf sS
 refine Zx hK1 ?_
 refine wp_scope_straight ?_
 refine Ze fun _ hK2 => ?_
 refine Zr [] hf ?_
 refine Zq3 0 2 3 hf ?_
 clear hf sS; intro fr1 hf sS
 refine Zs hK2 fun _ hK3 => ?_
 refine wp_label ?_
 refine Zs hK3 fun _ hK4 => ?_
 refine Ze fun _ hK5 => ?_
 refine Zr [6] hf ?_
 refine Zq6 0 2 3 6 7 8 hf ?_
 clear hf sS; intro fr1 hf sS
 refine Zx hK5 ?_
 refine wp_block ?_
 refine wp_loop_ghost (fun gk fr wr => ∃ (i : Nat), gk = es.length - i ∧ i ≤ es.length ∧ Fact.Fr 37 fr ∧ fr.tmps[0]? = some (.slice A es.length cc) ∧ fr.tmps[2]? = some (.int .i64 (-1)) ∧ fr.tmps[3]? = some (.int .i64 0) ∧ fr.tmps[6]? = some (.slice A es.length cc) ∧ fr.tmps[7]? = some (.int .i64 es.length) ∧ fr.tmps[8]? = some (.int .i64 i) ∧ chkN es = chkL (prevW es i) (es.drop i) ∧ Below w.heap.size w wr) (es.length) ?_ ?_
 · (
 obtain ⟨s0, s2, s3, s6, s7, s8⟩ := sS
 exact ⟨0, rfl, Nat.zero_le _, hf, s0, s2, s3, s6, s7, s8, rfl, Below.refl _ _⟩)
 · (
 clear hf sS
 rintro gk fr wr ⟨i, hk, hi, hf, s0, s2, s3, s6, s7, s8, hch, hb⟩
 have HK := Lib.hid hk; have HC := Lib.hid hch; clear hk hch
 refine Ze fun _ hK6 => ?_
 refine Zr [] hf ?_
 refine Zq7 0 2 3 6 7 8 9 hf ?_
 clear hf s0 s2 s3 s6 s7 s8; intro fr1 hf sS
 refine Zs hK6 fun _ hK7 => ?_
 refine Fact.cond_s sS.2.2.2.2.2.2 (fun hq => ?_) (fun hq => ?_)
 · (
 have hlt : i < es.length := by have h9 := of_decide_eq_true hq; omega
 have HQ := Lib.hid hq; clear hq
 obtain ⟨e, hie⟩ : ∃ e, es[i]? = some e := ⟨_, List.getElem?_eq_getElem hlt⟩
 obtain ⟨b, off, rfl, hbB, hbl, d0, d1, d2⟩ := (hre0.below hb).at_ hie
 have HE := Lib.hid hie; clear hie
 refine wp_skip ?_
 refine Zs hK7 fun _ hK8 => ?_
 refine wp_block ?_
 refine Ze fun _ hK9 => ?_
 refine Zr [10, 11, 12, 5] hf ?_
 refine Zq8 0 2 3 4 5 6 7 8 hf ?_
 clear hf sS; intro fr1 hf sS
 obtain ⟨W0, hW0⟩ : ∃ W0, wr.alloc (.cells #[.string e.word, .int .u32 e.weight, .bool e.gone] 64) = W0 := ⟨_, rfl⟩
 try rw [hW0]
 obtain ⟨hb2, x0, -, -, hp0, -⟩ := box3 hW0
 clear hW0
 clear d0 d1 d2 hbl
 refine Zs hK9 fun _ hK10 => ?_
 refine wp_block ?_
 refine Ze fun _ hK11 => rg ?_
 have bB := hf.B5 14 15 16 17 18
 iterate 3 refine Za ?_
 refine fp fun K Z => ?_
 go_simp
 go_at_call 87; refine (wchk45 (W0.alloc (.cells #[.string e.word] 9)) e.word W0.heap.size (cell_of_row _ _ 0 _ 9 (0, 0) (heap_alloc_new W0 _))).mono ?_; rintro e w5 ⟨rfl, rfl⟩
 try dsimp only
 apply Z.out; clear Z K
 iterate 2 refine Za ?_
 refine Fact.nil (Zq9 0 2 3 4 5 6 7 8 13 hf ?_)
 clear hf sS bB; intro fr1 hf sS
 have hb5 : Below W0.heap.size W0 (W0.alloc (.cells #[.string e.word] 9)) := (Below.refl _ _).alloc (Nat.le_refl _) _
 obtain ⟨W5, hW5⟩ : ∃ W5, W0.alloc (.cells #[.string e.word] 9) = W5 := ⟨_, rfl⟩
 rw [hW5] at hb5
 try rw [hW5]
 clear hW5
 have x5 := cL hb5 x0
 have hbW := hb.trans ((hb2.trans (hb5.mono hb2.size)).mono hb.size)
 refine Zx hK11 ?_
 have hst := chk_step HE.out
 have HST := Lib.hid hst; clear hst
 rcases hok : okW e.word with _ | _
 · (
 have H1 := Lib.hid hok; clear hok
 have hs13 : fr1.tmps[13]? = some (.bool true) := by rw [sS.2.2.2.2.2.2.2.2, H1.out]; rfl
 obtain ⟨s0, s2, s3, s4, s5, s6, s7, s8, s13⟩ := sS
 clear s13
 have s13 := hs13; clear hs13
 refine Fact.cond_t s13 ?_
 refine Zr [] hf ?_
 refine Zq2 3 4 hf ?_
 clear hf s0 s2 s3 s4 s5 s6 s7 s8 s13; intro fr1 hf sS
 refine Fact.block_normal ?_
 refine Zs hK10 fun _ hK12 => ?_
 refine Zr [33] hf ?_
 refine Zq2 2 3 hf ?_
 clear hf sS; intro fr1 hf sS
 refine Zx hK12 ?_
 refine Zo ?_
 refine Zs hK4 fun _ hK13 => ?_
 refine Zr [35, 36] hf ?_
 refine Zq2 2 3 hf ?_
 clear hf sS; intro fr1 hf sS
 refine Zx hK13 ?_
 refine Zret ?_
 exact Fact.ret2 rfl hf sS.1 sS.2 ⟨i, by rw [HC.out, HST.out, H1.out]; rfl, hbW⟩)
 · (
 rcases Nat.eq_zero_or_pos i with hi0 | hi0
 · (
 have H1 := Lib.hid hok; clear hok
 have hs13 : fr1.tmps[13]? = some (.bool false) := by rw [sS.2.2.2.2.2.2.2.2, H1.out]; rfl
 obtain ⟨s0, s2, s3, s4, s5, s6, s7, s8, s13⟩ := sS
 clear s13
 have s13 := hs13; clear hs13
 refine Fact.cond_f s13 ?_
 have HI0 := Lib.hid hi0
 have q1 : decide (0 < i) = false := decide_eq_false (by omega)
 clear hi0
 refine Ze fun _ hK14 => ?_
 refine Stab.tb 37 fun hok => ?_
 refine Stab.mO 0 s4 hf hok ?_
 refine Stab.T 1 hf hok (fun _ _ h d => Stab.vd 0 0 d []) ?_
 refine Stab.mN 2 1 0 hf hok [] ?_
 apply Stab.tr 3 _ hf hok
 · (
 intro fr1 w1 hh hd hk K Z
 have s22 := Stab.v 2 0 hd hk []
 refine Stab.sk s22 ?_
 exact Stab.k Z)
 apply Stab.tr 4 _ hf hok
 · (
 intro fr1 w1 hh hd hk K Z
 have s22 := Stab.v 2 1 hd hk []
 refine Stab.sk s22 ?_
 exact Stab.k Z)
 apply Stab.tr 5 _ hf hok
 · (
 intro fr1 w1 hh hd hk K Z
 have s22 := Stab.v 2 2 hd hk []
 refine Stab.sk s22 ?_
 exact Stab.k Z)
 apply Stab.tr 6 _ hf hok
 · (
 intro fr1 w1 hh hd hk K Z
 have s22 := Stab.v 2 3 hd hk []
 refine Stab.sk s22 ?_
 exact Stab.k Z)
 apply Stab.tr 7 _ hf hok
 · (
 intro fr1 w1 hh hd hk K Z
 have s22 := Stab.v 2 4 hd hk []
 refine Stab.sk s22 ?_
 exact Stab.k Z)
 apply Stab.tr 8 _ hf hok
 · (
 intro fr1 w1 hh hd hk K Z
 have s22 := Stab.v 2 5 hd hk []
 refine Stab.sk s22 ?_
 exact Stab.k Z)
 apply Stab.tr 9 _ hf hok
 · (
 intro fr1 w1 hh hd hk K Z
 have s22 := Stab.v 2 6 hd hk []
 refine Stab.sk s22 ?_
 exact Stab.k Z)
 apply Stab.tr 10 _ hf hok
 · (
 intro fr1 w1 hh hd hk K Z
 have s22 := Stab.v 2 7 hd hk []
 refine Stab.sk s22 ?_
 exact Stab.k Z)
 apply Stab.tr 11 _ hf hok
 · (
 intro fr1 w1 hh hd hk K Z
 have s22 := Stab.v 2 8 hd hk []
 refine Stab.sk s22 ?_
 exact Stab.k Z)
 refine Stab.T 12 hf hok (fun _ _ h d => ad (Stab.vd 2 9 d []) (Stab.vd 11 0 d [])) ?_
 refine Stab.mN 13 12 0 hf hok [] ?_
 refine Stab.E hf hok (fun _ _ h g => ad (Stab.O h s0) (ad (Stab.O h s2) (ad (Stab.O h s3) (ad (Stab.O h s4) (ad (Stab.O h s6) (ad (Stab.O h s7) (ad (Stab.O h s8) (Stab.f 13 0 g)))))))) ?_
 clear hf hok s0 s2 s3 s4 s5 s6 s7 s8 s13; intro fr1 w1 hf hx sS
 refine Zx hK14 ?_
 refine Fact.cond_f sS.2.2.2.2.2.2.2 ?_
 have hfin : chkN es = chkL (some (wl e.word)) (es.drop (i + 1)) := by rw [HC.out, HST.out, H1.out, prev_zero HI0.out]; rfl
 have HF := Lib.hid hfin; clear hfin
 have hbz := hbW.trans (hx.mono hbW.size)
 refine Zo ?_
 refine Zx hK8 ?_
 refine Zr [34] hf ?_
 refine Zq6 0 2 3 6 7 8 hf ?_
 clear hf sS; intro fr1 hf sS
 refine Fact.then_normal ?_
 obtain ⟨s0, s2, s3, s6, s7, s8⟩ := sS
 exact ⟨_, by have := HK.out; omega, i + 1, rfl, by omega, hf, s0, s2, s3, s6, s7, by rw [s8]; rfl, by rw [HF.out, prevW_succ HE.out], hbz⟩)
 · (
 have H1 := Lib.hid hok; clear hok
 have hs13 : fr1.tmps[13]? = some (.bool false) := by rw [sS.2.2.2.2.2.2.2.2, H1.out]; rfl
 obtain ⟨s0, s2, s3, s4, s5, s6, s7, s8, s13⟩ := sS
 clear s13
 have s13 := hs13; clear hs13
 refine Fact.cond_f s13 ?_
 have q1 : decide (0 < i) = true := decide_eq_true hi0
 obtain ⟨p, hip⟩ : ∃ p, es[i - 1]? = some p := ⟨_, List.getElem?_eq_getElem (by omega)⟩
 obtain ⟨b2, off2, he2, hbB2, hbl2, y0, y1, y2⟩ := (hre0.below hbW).at_ hip
 injection he2 with he2
 injection he2 with he2 he3
 subst he2; subst he3
 have HP := Lib.hid hip; clear hip
 have hi1 : (i : Int) - 1 = ((i - 1 : Nat) : Int) := by omega
 refine Ze fun _ hK15 => ?_
 refine Stab.tb 37 fun hok => ?_
 refine Stab.mO 0 s4 hf hok ?_
 refine Stab.T 1 hf hok (fun _ _ h d => Stab.vd 0 0 d []) ?_
 refine Stab.mN 2 1 0 hf hok [] ?_
 apply Stab.tr 3 _ hf hok
 · (
 intro fr1 w1 hh hd hk K Z
 have s22 := Stab.v 2 0 hd hk []
 refine Stab.g s22 ?_
 have s0 := Stab.O hh s0
 clear hd
 go_simp
 exact Stab.k Z)
 apply Stab.tr 4 _ hf hok
 · (
 intro fr1 w1 hh hd hk K Z
 have s22 := Stab.v 2 1 hd hk []
 refine Stab.g s22 ?_
 have s4 := Stab.O hh s4
 clear hd
 go_simp
 exact Stab.k Z)
 apply Stab.tr 5 _ hf hok
 · (
 intro fr1 w1 hh hd hk K Z
 have s22 := Stab.v 2 2 hd hk []
 refine Stab.g s22 ?_
 have s24 := Stab.v 4 0 hd hk []
 clear hd
 go_simp
 try simp (disch := omega) only [Fact.W]
 try rw [hi1]
 exact Stab.k Z)
 apply Stab.tr 6 _ hf hok
 · (
 intro fr1 w1 hh hd hk K Z
 have s22 := Stab.v 2 3 hd hk []
 refine Stab.g s22 ?_
 have s23 := Stab.v 3 2 hd hk []
 have s25 := Stab.v 5 0 hd hk []
 clear hd
 go_simp
 try rw [if_pos (by omega)]
 exact Stab.k Z)
 apply Stab.tr 7 _ hf hok
 · (
 intro fr1 w1 hh hd hk K Z
 have s22 := Stab.v 2 4 hd hk []
 refine Stab.g s22 ?_
 have s26 := Stab.v 6 0 hd hk []
 clear hd
 replace x5 := cL hh.ext x5
 replace y0 := cL hh.ext y0
 replace y1 := cL hh.ext y1
 replace y2 := cL hh.ext y2
 go_simp
 exact Stab.k Z)
 apply Stab.tr 8 _ hf hok
 · (
 intro fr1 w1 hh hd hk K Z
 have s22 := Stab.v 2 5 hd hk []
 refine Stab.g s22 ?_
 have s5 := Stab.O hh s5
 clear hd
 go_simp
 exact Stab.k Z)
 apply Stab.tr 9 _ hf hok
 · (
 intro fr1 w1 hh hd hk K Z
 have s22 := Stab.v 2 6 hd hk []
 refine Stab.g s22 ?_
 have s28 := Stab.v 8 0 hd hk []
 clear hd
 replace x5 := cL hh.ext x5
 replace y0 := cL hh.ext y0
 replace y1 := cL hh.ext y1
 replace y2 := cL hh.ext y2
 go_simp
 exact Stab.k Z)
 apply Stab.tr 10 _ hf hok
 · (
 intro fr1 w1 hh hd hk K Z
 have s22 := Stab.v 2 7 hd hk []
 refine Stab.g s22 ?_
 have s27 := Stab.v 7 2 hd hk []
 have s29 := Stab.v 9 0 hd hk []
 clear hd
 replace x5 := cL hh.ext x5
 replace y0 := cL hh.ext y0
 replace y1 := cL hh.ext y1
 replace y2 := cL hh.ext y2
 go_simp
 go_at_call 88; refine (by46 p e.word w1).mono ?_; rintro e w2 ⟨rfl, hb⟩
 exact Z.out _ rfl _ _ hb rfl)
 apply Stab.tr 11 _ hf hok
 · (
 intro fr1 w1 hh hd hk K Z
 have s22 := Stab.v 2 8 hd hk []
 refine Stab.g s22 ?_
 have s30 := Stab.v 10 0 hd hk []
 clear hd
 go_simp
 exact Stab.k Z)
 refine Stab.T 12 hf hok (fun _ _ h d => ad (Stab.vd 2 9 d []) (Stab.vd 11 0 d [])) ?_
 refine Stab.mN 13 12 0 hf hok [] ?_
 refine Stab.E hf hok (fun _ _ h g => ad (Stab.O h s0) (ad (Stab.O h s2) (ad (Stab.O h s3) (ad (Stab.O h s4) (ad (Stab.O h s6) (ad (Stab.O h s7) (ad (Stab.O h s8) (Stab.f 13 0 g)))))))) ?_
 clear hf hok s0 s2 s3 s4 s5 s6 s7 s8 s13; intro fr1 w1 hf hx sS
 replace x5 := cL hx x5
 replace y0 := cL hx y0
 replace y1 := cL hx y1
 replace y2 := cL hx y2
 refine Zx hK15 ?_
 refine Fact.cond_s sS.2.2.2.2.2.2.2 (fun hq2 => ?_) (fun hq2 => ?_)
 · (
 have HQ2 := Lib.hid hq2; clear hq2
 have hbz := hbW.trans (hx.mono hbW.size)
 refine Zr [] hf ?_
 refine Zq2 3 4 hf ?_
 clear hf sS; intro fr1 hf sS
 refine Fact.block_normal ?_
 refine Zs hK10 fun _ hK16 => ?_
 refine Zr [33] hf ?_
 refine Zq2 2 3 hf ?_
 clear hf sS; intro fr1 hf sS
 refine Zx hK16 ?_
 refine Zo ?_
 refine Zs hK4 fun _ hK17 => ?_
 refine Zr [35, 36] hf ?_
 refine Zq2 2 3 hf ?_
 clear hf sS; intro fr1 hf sS
 refine Zx hK17 ?_
 refine Zret ?_
 exact Fact.ret2 rfl hf sS.1 sS.2 ⟨i, by rw [HC.out, HST.out, H1.out, prev_succ hi0 HP.out]; simp only [cmp_ge HQ2.out, if_true, Bool.false_eq_true, if_false]; rfl, hbz⟩)
 · (
 have HQ2 := Lib.hid hq2; clear hq2
 have hbz := hbW.trans (hx.mono hbW.size)
 have hfin : chkN es = chkL (some (wl e.word)) (es.drop (i + 1)) := by rw [HC.out, HST.out, H1.out, prev_succ hi0 HP.out]; simp only [cmp_lt HQ2.out, if_true]
 have HF := Lib.hid hfin; clear hfin
 refine Zo ?_
 refine Zx hK8 ?_
 refine Zr [34] hf ?_
 refine Zq6 0 2 3 6 7 8 hf ?_
 clear hf sS; intro fr1 hf sS
 refine Fact.then_normal ?_
 obtain ⟨s0, s2, s3, s6, s7, s8⟩ := sS
 exact ⟨_, by have := HK.out; omega, i + 1, rfl, by omega, hf, s0, s2, s3, s6, s7, by rw [s8]; rfl, by rw [HF.out, prevW_succ HE.out], hbz⟩))))
 · (
 have hie : i = es.length := by have h9 := of_decide_eq_false hq; omega
 have HIE := Lib.hid hie; clear hie hq
 refine Zo ?_
 refine Zs hK4 fun _ hK18 => ?_
 refine Zr [35, 36] hf ?_
 refine Zq2 2 3 hf ?_
 clear hf sS; intro fr1 hf sS
 refine Zx hK18 ?_
 refine Zret ?_
 exact Fact.ret2 rfl hf sS.1 sS.2 ⟨-1, by rw [HC.out, List.drop_eq_nil_of_le (by have := HIE.out; omega)]; rfl, hb⟩))
end Dw
end Go.Proofs.YtcddnmhmcieebaaGreatDoor

namespace Go.Proofs.YtcddnmhmcieebaaGreatDoor
open Go.RowKit Go.Maps
set_option linter.unusedSimpArgs false
set_option linter.unusedVariables false
set_option linter.unnecessarySimpa false
namespace Dw
theorem make73 (w : World) : (Instr.makeSlice 121 (.int .i64 1) (.int .i64 1)).run Tryz.prog w = .ok (.slice (some ⟨w.heap.size, 0, none⟩) 1 1) (w.alloc (.cells #[.slice none 0 0, .bool false, .int .u64 0, .int .u8 0] 126)) := by
  obtain ⟨i0, hi, hz0, hz1, hz2⟩ := info_parts info_openD
  have hr := run_make (P := Tryz.prog) (w := w) 121 126 i0 _ Tryz.underlying121 hi hz0 .i64 .i64 1 1 (by omega) (by omega) (by rw [hz2]; omega) (by omega)
  have hc : madeCells (Value.agg #[.slice none 0 0, .bool false, .int .u64 0, .int .u8 0]).cells (Int.toNat 1 * 4) = #[.slice none 0 0, .bool false, .int .u64 0, .int .u8 0] := by kernel_rfl
  rw [hz1, hc] at hr
  exact hr
def ownS (base k0 : Nat) (k : Nat) : Nat := if k < base then 4 else if k = k0 then 3 else if k = k0 + 1 then 5 else if k = k0 + 2 then 1 else 0
theorem Bld.start (w0 : World) (base : Nat) (hb : base ≤ w0.heap.size) {W : World}
    (hW : ((w0.alloc (.map #[] 0)).alloc (.cells #[.slice none 0 0, .bool false, .int .u64 0, .int .u8 0] 126)).alloc (.cells #[.slice none 0 0, .map (some w0.heap.size), .slice (some ⟨w0.heap.size + 1, 0, none⟩) 1 1] 123) = W) :
    Bld W base (ownS base w0.heap.size) (w0.heap.size + 2) (.slice none 0 0) w0.heap.size [] (.slice (some ⟨w0.heap.size + 1, 0, none⟩) 1 1) 0 [⟨zeroS, 0⟩] ∧ Below w0.heap.size w0 W := by
  have hbb : Below w0.heap.size w0 W := by rw [← hW]; exact (((Below.refl _ _).alloc (Nat.le_refl _) _).alloc (by simp) _).alloc (by simp; omega) _
  have h1 := World.ownsMap_made w0 Tryz.prog 9 (plainElem (H := Unit) Tryz.prog 3)
  have hm := h1.alloc (.cells #[.slice none 0 0, .bool false, .int .u64 0, .int .u8 0] 126)
  have hm2 := hm.alloc (.cells #[.slice none 0 0, .map (some w0.heap.size), .slice (some ⟨w0.heap.size + 1, 0, none⟩) 1 1] 123)
  rw [hW] at hm2
  have hr := World.ownsRow_lit (base := base) (e := 126) (size := 4) (w0.alloc (.map #[] 0)) #[.slice none 0 0, .bool false, .int .u64 0, .int .u8 0] 1 (by simp; omega) (by unfold maxLen; omega) rfl
  have hr2 := hr.alloc (.cells #[.slice none 0 0, .map (some w0.heap.size), .slice (some ⟨w0.heap.size + 1, 0, none⟩) 1 1] 123)
  rw [hW] at hr2
  have hs1 : (w0.alloc (.map #[] 0)).heap.size = w0.heap.size + 1 := by simp
  rw [hs1] at hr2
  have hbx : W.heap[w0.heap.size + 2]? = some (.cells #[.slice none 0 0, .map (some w0.heap.size), .slice (some ⟨w0.heap.size + 1, 0, none⟩) 1 1] 123 (0, 0)) := by
    have := heap_alloc_new ((w0.alloc (.map #[] 0)).alloc (.cells #[.slice none 0 0, .bool false, .int .u64 0, .int .u8 0] 126)) (.cells #[.slice none 0 0, .map (some w0.heap.size), .slice (some ⟨w0.heap.size + 1, 0, none⟩) 1 1] 123)
    rw [hW] at this
    rw [← this]
    simp
  have o1 : ∀ k, k < base → ownS base w0.heap.size k = 4 := fun k hk => if_pos hk
  have o2 : ownS base w0.heap.size w0.heap.size = 3 := by unfold ownS; rw [if_neg (by omega), if_pos rfl]
  have o3 : ownS base w0.heap.size (w0.heap.size + 1) = 5 := by unfold ownS; rw [if_neg (by omega), if_neg (by omega), if_pos rfl]
  have o4 : ownS base w0.heap.size (w0.heap.size + 2) = 1 := by unfold ownS; rw [if_neg (by omega), if_neg (by omega), if_neg (by omega), if_pos rfl]
  refine ⟨⟨⟨o1, hbx, o4, o2, hm2, ⟨[], World.ownsRow_nil _ _ _ _, (fun k hk => by cases hk), fun i s hi => by simp at hi⟩, List.Pairwise.nil, by simp⟩, _, hr2, fun k hk => ?_, fun i o hi => ?_⟩, hbb⟩
  · injection hk with hk; subst hk; exact o3
  · match i, hi with
    | 0, hi =>
      injection hi with hi
      subst hi
      exact ⟨.slice none 0 0, rfl, rfl, rfl, rfl, OA.nil_ _ _, fun k hk => by cases hk⟩
theorem Reg.rs {w : World} {base g mb : Nat} {own : Nat → Nat} {t : TypeId} {xs : List Value} {sv : Value} {ss : List State} (h : Reg w base own g t xs sv mb ss) : RS w sv ss := by
  obtain ⟨cells, h1, h2, h3⟩ := h.row
  rcases h1.2 with ⟨rfl, h0⟩ | ⟨b, cap, cur, rfl, _, _, hc, _⟩
  · have : ss = [] := List.eq_nil_of_length_eq_zero h0
    subst this
    exact RS.nil_ w
  · refine ⟨_, _, rfl, hc, fun _ => ⟨b, 0, rfl, fun i s hi => ?_⟩⟩
    obtain ⟨av, h4, h5, h6, h7⟩ := h3 i s hi
    have hil := (List.getElem?_eq_some_iff.1 hi).1
    refine ⟨av, ?_, ?_, ?_, h7.more (fun _ _ _ => trivial)⟩
    · rw [Nat.zero_add, h1.cellAt _ (by omega)]; exact h4
    · rw [Nat.zero_add, h1.cellAt _ (by omega)]; exact h5
    · rw [Nat.zero_add, h1.cellAt _ (by omega)]; exact h6
theorem chk_all : ∀ (es : List Ent) (p : Option (List Nat)), chkL p es = 0 → (∀ e ∈ es, okW e.word = true) ∧ Rise (es.map wvE) ∧ ∀ q, p = some q → ∀ e ∈ es, lexlt q (wl e.word) = true
  | [], p, _ => ⟨by simp, List.Pairwise.nil, by simp⟩
  | e :: es, p, h => by
    simp only [chkL] at h
    cases hw : okW e.word with
    | false => rw [hw] at h; simp at h
    | true =>
      rw [hw] at h
      simp only [if_true] at h
      have hl : chkL (some (wl e.word)) es = 0 := by
        cases p with
        | none => exact h
        | some q =>
          by_cases hc : lexlt q (wl e.word) = true
          · simpa [hc] using h
          · simp [hc] at h
      obtain ⟨h1, h2, h3⟩ := chk_all es _ hl
      refine ⟨fun x hx => ?_, ?_, fun q hq x hx => ?_⟩
      · rcases List.mem_cons.1 hx with rfl | hx
        · exact hw
        · exact h1 x hx
      · rw [List.map_cons]
        refine List.pairwise_cons.2 ⟨fun y hy => ?_, h2⟩
        obtain ⟨x, hx, rfl⟩ := List.mem_map.1 hy
        exact h3 _ rfl x hx
      · subst hq
        have hq2 : lexlt q (wl e.word) = true := by
          by_cases h9 : lexlt q (wl e.word) = true
          · exact h9
          · simp [h9] at h
        rcases List.mem_cons.1 hx with rfl | hx
        · exact hq2
        · exact lexlt_trans _ _ _ hq2 (h3 _ rfl x hx)
theorem okW_size {s : ByteArray} (h : okW s = true) : s.size ≤ 255 := by
  unfold okW at h
  simp at h
  omega
/-- the last of the words ahead -/
def lastW (es : List Ent) (i : Nat) : ByteArray := match i with
  | 0 => ⟨#[]⟩
  | i + 1 => (es[i]?.map Ent.word).getD ⟨#[]⟩
theorem adds_step {es : List Ent} {i : Nat} {e : Ent} (h : es[i]? = some e) (x : List State × List Open) : adds x [] ((es.take (i + 1)).map wvE) = add (adds x [] ((es.take i).map wvE)) (wl (lastW es i)) (wvE e) := by
  have ht : es.take (i + 1) = es.take i ++ [e] := by rw [List.take_add_one, h]; rfl
  rw [ht, List.map_append, adds_append]
  show add _ _ _ = _
  congr 1
  cases i with
  | zero => rfl
  | succ i =>
    have hl : i < es.length := by have := (List.getElem?_eq_some_iff.1 h).1; omega
    have ht2 : es.take (i + 1) = es.take i ++ [es[i]] := by rw [List.take_add_one, List.getElem?_eq_getElem hl]; rfl
    rw [ht2, List.map_append, List.map_cons, List.map_nil, List.getLast?_concat]
    simp [lastW, hl, wvE]
theorem add_ne (ss : List State) (way : List Open) (last : List Nat) (e : Wv) (h : way ≠ []) : (add (ss, way) last e).2 ≠ [] := by
  have h1 := close_ne ss way (shared last e.1) h
  intro h2
  have h3 := congrArg List.length h2
  unfold add at h3
  simp only [mark_length, opens_length, List.length_nil] at h3
  exact h1 (List.eq_nil_of_length_eq_zero (by omega))
theorem close_zero (ss : List State) (way : List Open) (h : way ≠ []) : ∃ o, (close ss way 0).2 = [o] := by
  have := close_length ss way 0 (List.length_pos_iff.2 h)
  match hc : (close ss way 0).2, this with
  | [o], _ => exact ⟨o, rfl⟩
theorem own_anew {w : World} {base g mb j : Nat} {own : Nat → Nat} {sv wv : Value} {ss : List State} {way : List Open} (h : Bld w base own g sv mb ss wv j way) :
    ∃ own0 : Nat → Nat, (∀ k, w.heap.size ≤ k → own0 k = 0) ∧ (∀ k, k < w.heap.size → own0 k = own k) ∧ Bld w base own0 g sv mb ss wv j way := by
  have hb := h.reg.base_le
  have h0lt : ∀ k, k < w.heap.size → (if k < w.heap.size then own k else 0) = own k := fun k hk => if_pos hk
  exact ⟨fun k => if k < w.heap.size then own k else 0, fun k hk => if_neg (by omega), h0lt, h.told (fun k hk => by rw [h0lt k (by omega)]; exact h.reg.lo k hk) (fun k hk _ _ => h0lt k hk)⟩
theorem But.lo {w w' : World} {own : Nat → Nat} {base : Nat} (h : But (fun k => own k ≠ 0 ∧ own k ≠ 4) w w') (hb : base ≤ w.heap.size) (hlo : ∀ k, k < base → own k = 4) : Below base w w' :=
  ⟨h.os, h.tape, h.output, h.size, fun k hk => h.block k (by omega) (fun h4 => h4.2 (hlo k hk))⟩
end Dw
end Go.Proofs.YtcddnmhmcieebaaGreatDoor
