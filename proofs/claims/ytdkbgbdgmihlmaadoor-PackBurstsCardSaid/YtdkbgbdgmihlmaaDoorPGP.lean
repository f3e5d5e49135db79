/- Get behind Put. -/
import Derived.Test.YtdkbgbdgmihlmaaDoorPFails
import Derived.Test.YtdkbgbdgmihlmaaDoorPLit
namespace Go.Proofs.YtdkbgbdgmihlmaaDoor
open Go.RowKit
set_option linter.unusedSimpArgs false
set_option linter.unusedVariables false
set_option linter.unnecessarySimpa false
namespace Dw
theorem bodyB_small' {en init : Nat} {ss : List State} (hok : ∀ s ∈ ss, okS s) (hm : mayL 0 ss = true) (hl : ss.length ≤ 100000) (hen : en ≤ 100000) (hi : init < M64) : Small (bodyB en init ss) := bodyB_small hok hm hl hen hi
theorem pGet_body {en init : Nat} {ss : List State} (hen : en ≤ 100000) (hok : ∀ s ∈ ss, okS s) (h0 : 0 < ss.length) (hm : mayL 0 ss = true) (hl : ss.length ≤ 100000) (hi : init < M64) : pGet (bl (Crc.seal' (bodyB en init ss))) = .ok (en, init, ss) := by
  have hs := bodyB_small' hok hm hl hen hi
  have h1 := pGet_seal (bl (bodyB en init ss))
  rw [wl_bl hs] at h1
  rw [h1]
  exact pAll_put hen hok h0 hm (by omega) hi (wl_bl hs)
theorem pGet_put {en : Int} {init : Nat} {ss : List State} (h : mayF en ss = true) (hok : ∀ s ∈ ss, okS s) (hl : ss.length ≤ 100000) (hi : init < M64) : pGet (bl (putR en init ss).1) = .ok (en.toNat, init, ss) := by
  obtain ⟨h1, h2, h3, h4⟩ := may_out h
  unfold putR
  rw [if_pos h]
  exact pGet_body (by omega) hok h3 h4 hl hi
theorem putR_bad {en : Int} {init : Nat} {ss : List State} (h : mayF en ss = false) : putR en init ss = ([], 2) := by unfold putR; rw [if_neg (by rw [h]; simp)]
theorem pGet_back {y : ByteArray} (hsz : y.size ≤ 900000000) {en init : Nat} {ss : List State} (h : pGet y = .ok (en, init, ss)) : mayF (en : Int) ss = true ∧ (∀ s ∈ ss, okS s) ∧ init < M64 ∧ ss.length ≤ y.size ∧ y = bl (putR (en : Int) init ss).1 := by
  unfold pGet at h
  cases ho : Crc.opened (wl y) with
  | none => rw [ho] at h; simp [openR] at h
  | some b =>
    have h1 := Crc.opened_some ho
    have hsm : Small b := fun x hx => wl_lt y x (by rw [h1]; exact List.mem_append_left _ hx)
    have hlen := congrArg List.length h1
    rw [wl_length, Crc.seal_length] at hlen
    rw [ho] at h
    have h2 : pAll (bl b) = .ok (en, init, ss) := by simpa [openR] using h
    have h3 := pAll_back (by rw [bl_size]; omega) h2
    rw [wl_bl hsm, bl_size] at h3
    have hm : mayF (en : Int) ss = true := by
      unfold mayF
      rw [decide_eq_true (show (0 : Int) ≤ en by omega), decide_eq_true (show (en : Int) ≤ 100000 by have := h3.2.1; omega), decide_eq_true h3.2.2.1, h3.2.2.2.2.1]
      rfl
    refine ⟨hm, h3.2.2.2.1, h3.2.2.2.2.2.1, by have := h3.2.2.2.2.2.2; omega, ?_⟩
    unfold putR
    rw [if_pos hm, Int.toNat_natCast, ← h3.1, ← h1, bl_wl]
end Dw
end Go.Proofs.YtdkbgbdgmihlmaaDoor
