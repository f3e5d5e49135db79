/- PackSmall: plain lemmas. -/
import Derived.Test.YtdkbgbdgmihlmaaGreatDoorDVWalk
import Derived.Test.YtdkbgbdgmihlmaaGreatDoorQR
import Derived.Test.YtdkbgbdgmihlmaaGreatDoorPWorks
import Derived.Test.YtdkbgbdgmihlmaaGreatDoorQJ
namespace Go.Proofs.YtdkbgbdgmihlmaaGreatDoor
open Go.RowKit
set_option linter.unusedSimpArgs false
set_option linter.unusedVariables false
set_option linter.unnecessarySimpa false
namespace Dw
theorem okTo_arcs (i : Nat) : ∀ (l : List Arc) (last : Int), okArcs i last l = true → okTo i l = true
  | [], _, _ => rfl
  | a :: l, last, h => by
    simp only [okArcs, Bool.and_eq_true] at h
    simp only [okTo, Bool.and_eq_true]
    exact ⟨⟨h.1.1.1, h.1.1.2⟩, okTo_arcs i l _ h.2⟩
theorem mayL_formed : ∀ (ss : List State) (i : Nat), formedL i ss = true → (∀ s ∈ ss, s.arcs.length ≤ 256) → mayL i ss = true
  | [], _, _, _ => rfl
  | s :: ss, i, h, hf => by
    simp only [formedL, Bool.and_eq_true] at h
    simp only [mayL, Bool.and_eq_true]
    exact ⟨⟨⟨decide_eq_true (hf s (List.mem_cons_self ..)), h.1.1⟩, okTo_arcs i _ _ h.1.2⟩, mayL_formed ss (i + 1) h.2 (fun x hx => hf x (List.mem_cons_of_mem _ hx))⟩
theorem mayF_right {n init : Nat} {ss : List State} (hn : n ≤ 100000) (h : rightF ss init = true) (hf : ∀ s ∈ ss, s.arcs.length ≤ 256) : mayF n ss = true := by
  unfold rightF at h
  simp only [Bool.and_eq_true] at h
  have h1 := h.1
  unfold formedF at h1
  simp only [Bool.and_eq_true] at h1
  unfold mayF
  simp only [Bool.and_eq_true]
  exact ⟨⟨⟨decide_eq_true (by omega), decide_eq_true (by omega)⟩, h1.2⟩, mayL_formed ss 0 h1.1 hf⟩
theorem put_codeS {n : Int} {i : Nat} {f : List State} (h : mayF n f = true) : (putR n i f).2 = 0 := by unfold putR; rw [if_pos h]
theorem put_mid {n : Nat} {i : Nat} {f : List State} (h1 : ∀ s ∈ f, okS s) (h2 : f.length ≤ 10000) (hn : n ≤ 100000) (hm : mayF n f = true) (hi : i < 18446744073709551616) : (bl (putR n i f).1).size ≤ 900000000 := by
  have h := (may_out hm).2.2.2
  have h3 := statesB_len f 0 h1 h (by omega)
  have h5 := (numB_le (n := n) (by unfold M64; omega)).2
  have h6 := (numB_le (n := f.length) (by unfold M64; omega)).2
  have h7 := (numB_le (n := i) hi).2
  rw [bl_size]
  unfold putR
  rw [if_pos hm, Crc.seal_length]
  unfold bodyB
  rw [numsB_two, numsB_one]
  simp only [List.length_append, List.length_cons, List.length_nil, Int.toNat_natCast]
  omega
theorem lexlt_irr : ∀ l : List Nat, lexlt l l = false
  | [] => rfl
  | x :: l => by simp [lexlt, lexlt_irr l]
theorem find_own : ∀ {es : List Ent}, RiseE es → ∀ {i : Nat} {e : Ent}, es[i]? = some e → findE es e.word = some e
  | [], _, i, e, h => by simp at h
  | x :: es, hr, i, e, h => by
    unfold findE
    rw [List.find?_cons]
    cases i with
    | zero =>
      simp at h
      subst h
      simp
    | succ i =>
      have h2 : es[i]? = some e := by simpa using h
      have h3 := (List.pairwise_cons.1 hr).1 e (List.mem_of_getElem? h2)
      have hne : x.word ≠ e.word := fun he => by rw [he, lexlt_irr] at h3; cases h3
      simp only [hne, decide_false]
      exact find_own (List.pairwise_cons.1 hr).2 h2
/-! words that end alike -/
def manyW (k j : Nat) : Ent := ⟨bl [97 + k, 97 + j, 122], 0, false⟩
def manyE : List Ent := (List.range 100).map fun n => manyW (n / 10) (n % 10)
theorem many_at {k j : Nat} (hk : k < 10) (hj : j < 10) : manyE[10 * k + j]? = some (manyW k j) := by
  unfold manyE
  rw [List.getElem?_map, List.getElem?_range (by omega), Option.map_some, show (10 * k + j) / 10 = k by omega, show (10 * k + j) % 10 = j by omega]
theorem many_take {k j : Nat} (hk : k < 10) (hj : j < 10) : manyE.take (10 * k + j + 1) = manyE.take (10 * k + j) ++ [manyW k j] := by
  rw [List.take_add_one, many_at hk hj]; rfl
theorem many_length : manyE.length = 100 := by unfold manyE; simp
def manyA (to : Int) : List Arc := (List.range 10).map fun n => ⟨97 + n, 0, to⟩
def manyS : List State := [⟨true, 0, []⟩, ⟨false, 0, [⟨122, 0, 0⟩]⟩, ⟨false, 0, manyA 1⟩, ⟨false, 0, manyA 2⟩]
set_option maxRecDepth 1000000 in
set_option maxHeartbeats 4000000 in
theorem many_build : buildF manyE = ⟨manyS, 1⟩ := by kernel_rfl
theorem many_ok : ∀ e ∈ manyE, okE e := fun e he => by
  obtain ⟨n, _, rfl⟩ := List.mem_map.1 he
  exact ⟨by show (0 : Int) ≤ 0; omega, by show (0 : Int) < 4294967296; omega⟩
set_option maxRecDepth 1000000 in
theorem many_size : (putR 100 1 manyS).1.length = 78 := by kernel_rfl
theorem many_arcs : arcCount manyS = 21 := by kernel_rfl
end Dw
end Go.Proofs.YtdkbgbdgmihlmaaGreatDoor
