/- The document's reading, in plain terms: up to the first fault; it is the parser's. -/
import Derived.Test.YtdkbgbdgmihlmaaDoorQN
import Derived.Test.YtdkbgbdgmihlmaaDoorPFormed
import Derived.Test.YtdkbgbdgmihlmaaDoorPBackW
import Derived.Test.YtdkbgbdgmihlmaaDoorQE
import Derived.Test.YtdkbgbdgmihlmaaDoorQM
namespace Go.Proofs.YtdkbgbdgmihlmaaDoor
open Go.RowKit
set_option linter.unusedSimpArgs false
set_option linter.unusedVariables false
set_option linter.unnecessarySimpa false
namespace Dw
def MX64 : Nat := 18446744073709551615
def stepMag (s : ByteArray) (k : Nat) (st : Except Bad Nat) : Except Bad Nat := match sChar s st with
  | (.ok j, c) => if c = magicAt k then .ok j else .error (6, k)
  | (.error b, _) => .error b
def sMag (s : ByteArray) : Nat → Nat → Except Bad Nat → Except Bad Nat
  | 0, _, st => st
  | m + 1, k, st => sMag s m (k + 1) (stepMag s k st)
def arcS (s : ByteArray) (i : Nat) (st : Except Bad Nat) : Except Bad Nat × Arc :=
  ((sNum s 1 i (sNum s 0 18446744073709551615 (sChar s st).1).1).1, ⟨(sChar s st).2, (sNum s 0 18446744073709551615 (sChar s st).1).2, ((i - (sNum s 1 i (sNum s 0 18446744073709551615 (sChar s st).1).1).2 : Nat) : Int)⟩)
def sArcs (s : ByteArray) (i : Nat) : Nat → Except Bad Nat → List Arc → Except Bad Nat × List Arc
  | 0, st, acc => (st, acc)
  | _ + 1, .error b, acc => (.error b, acc)
  | k + 1, .ok p, acc => sArcs s i k (arcS s i (.ok p)).1 (acc ++ [(arcS s i (.ok p)).2])
def sOut (s : ByteArray) (h : Nat) (st : Except Bad Nat) : Except Bad Nat × Nat := if h % 2 = 1 then sNum s 0 18446744073709551615 st else (st, 0)
def sState (s : ByteArray) (i : Nat) (st : Except Bad Nat) : Except Bad Nat × State :=
  ((sArcs s i ((sNum s 0 513 st).2 / 2) (sOut s (sNum s 0 513 st).2 (sNum s 0 513 st).1).1 []).1, ⟨decide ((sNum s 0 513 st).2 % 2 = 1), (sOut s (sNum s 0 513 st).2 (sNum s 0 513 st).1).2, (sArcs s i ((sNum s 0 513 st).2 / 2) (sOut s (sNum s 0 513 st).2 (sNum s 0 513 st).1).1 []).2⟩)
def sStates (s : ByteArray) : Nat → Nat → Except Bad Nat → List State → Except Bad Nat × List State
  | 0, _, st, acc => (st, acc)
  | _ + 1, _, .error b, acc => (.error b, acc)
  | k + 1, i, .ok p, acc => sStates s k (i + 1) (sState s i (.ok p)).1 (acc ++ [(sState s i (.ok p)).2])
def sEnd (s : ByteArray) (en : Nat) (init : Nat) (ss : List State) : Except Bad Nat → Except Bad (Nat × Nat × List State)
  | .error b => .error b
  | .ok p => if p < s.size then .error (4, p) else .ok (en, init, ss)
def sAll (s : ByteArray) : Except Bad (Nat × Nat × List State) :=
  sEnd s (sNum s 0 100000 (sMag s 3 0 (.ok 0))).2
    (sNum s 0 18446744073709551615 (sStates s (sNum s 1 18446744073709551615 (sNum s 0 100000 (sMag s 3 0 (.ok 0))).1).2 0 (sNum s 1 18446744073709551615 (sNum s 0 100000 (sMag s 3 0 (.ok 0))).1).1 []).1).2
    (sStates s (sNum s 1 18446744073709551615 (sNum s 0 100000 (sMag s 3 0 (.ok 0))).1).2 0 (sNum s 1 18446744073709551615 (sNum s 0 100000 (sMag s 3 0 (.ok 0))).1).1 []).2
    (sNum s 0 18446744073709551615 (sStates s (sNum s 1 18446744073709551615 (sNum s 0 100000 (sMag s 3 0 (.ok 0))).1).2 0 (sNum s 1 18446744073709551615 (sNum s 0 100000 (sMag s 3 0 (.ok 0))).1).1 []).1).1
/-! what is wrong stays -/
theorem sNum_e (s : ByteArray) (lo hi : Nat) (b : Bad) : sNum s lo hi (.error b) = (.error b, 0) := rfl
theorem sChar_e (s : ByteArray) (b : Bad) : sChar s (.error b) = (.error b, 0) := rfl
theorem stepMag_e (s : ByteArray) (k : Nat) (b : Bad) : stepMag s k (.error b) = .error b := rfl
theorem sMag_e (s : ByteArray) (b : Bad) : ∀ (m k : Nat), sMag s m k (.error b) = .error b
  | 0, _ => rfl
  | m + 1, k => by rw [sMag, stepMag_e, sMag_e s b m]
theorem arcS_e (s : ByteArray) (i : Nat) (b : Bad) : (arcS s i (.error b)).1 = .error b := rfl
theorem sArcs_e (s : ByteArray) (i : Nat) (b : Bad) (acc : List Arc) : ∀ k, sArcs s i k (.error b) acc = (.error b, acc)
  | 0 => rfl
  | k + 1 => rfl
theorem sStates_e (s : ByteArray) (b : Bad) (acc : List State) : ∀ k i, sStates s k i (.error b) acc = (.error b, acc)
  | 0, _ => rfl
  | k + 1, _ => rfl
/-- of a reading: where it ends, with what -/
def Rel {α : Type} (st : Except Bad Nat) (v : α) : Except Bad (α × Nat) → Prop
  | .error b => st = .error b
  | .ok (x, j) => st = .ok j ∧ v = x
theorem rel_num (s : ByteArray) (lo hi p : Nat) : Rel (sNum s lo hi (.ok p)).1 (sNum s lo hi (.ok p)).2 (pNum s lo hi p) := by
  cases h : pNum s lo hi p with
  | error b => rw [sNum_err h]; rfl
  | ok x => obtain ⟨n, j⟩ := x; rw [sNum_ok h]; exact ⟨rfl, rfl⟩
theorem rel_char (s : ByteArray) (p : Nat) : Rel (sChar s (.ok p)).1 (sChar s (.ok p)).2 (pChar s p) := by
  cases h : pChar s p with
  | error b => rw [sChar_err h]; rfl
  | ok x => obtain ⟨n, j⟩ := x; rw [sChar_ok h]; exact ⟨rfl, rfl⟩
theorem rel_arcs (s : ByteArray) (i : Nat) : ∀ (k p : Nat) (acc : List Arc), Rel (sArcs s i k (.ok p) acc).1 (sArcs s i k (.ok p) acc).2 (pArcs s i k p acc)
  | 0, p, acc => ⟨rfl, rfl⟩
  | k + 1, p, acc => by
    simp only [pArcs, sArcs]
    have h1 := rel_char s p
    cases hc : pChar s p with
    | error b =>
      rw [hc] at h1
      have h1 : (sChar s (.ok p)).1 = .error b := h1
      simp only [arcS, h1, sNum_e, sArcs_e]
      rfl
    | ok x =>
      obtain ⟨c, p1⟩ := x
      rw [hc] at h1
      have h2 := rel_num s 0 18446744073709551615 p1
      simp only
      cases ho : pNum s 0 18446744073709551615 p1 with
      | error b =>
        rw [ho] at h2
        have h2 : (sNum s 0 18446744073709551615 (.ok p1)).1 = .error b := h2
        simp only [arcS, h1.1, h2, sNum_e, sArcs_e]
        rfl
      | ok x =>
        obtain ⟨o, p2⟩ := x
        rw [ho] at h2
        have h3 := rel_num s 1 i p2
        simp only
        cases hd : pNum s 1 i p2 with
        | error b =>
          rw [hd] at h3
          have h3 : (sNum s 1 i (.ok p2)).1 = .error b := h3
          simp only [arcS, h1.1, h2.1, h3, sArcs_e]
          rfl
        | ok x =>
          obtain ⟨d, p3⟩ := x
          rw [hd] at h3
          simp only [arcS, h1.1, h1.2, h2.1, h2.2, h3.1, h3.2]
          exact rel_arcs s i k p3 _
theorem rel_out (s : ByteArray) (h p : Nat) : Rel (sOut s h (.ok p)).1 (sOut s h (.ok p)).2 (pOut s h p) := by
  unfold sOut pOut
  split
  · exact rel_num s _ _ p
  · exact ⟨rfl, rfl⟩
theorem rel_state (s : ByteArray) (i p : Nat) : Rel (sState s i (.ok p)).1 (sState s i (.ok p)).2 (pState s i p) := by
  unfold pState sState
  have h1 := rel_num s 0 513 p
  cases hn : pNum s 0 513 p with
  | error b =>
    rw [hn] at h1
    have e1 : (sNum s 0 513 (.ok p)).1 = .error b := h1
    have e2 : (sNum s 0 513 (.ok p)).2 = 0 := by rw [sNum_err hn]
    simp only [e1, e2]
    rfl
  | ok x =>
    obtain ⟨n, p1⟩ := x
    rw [hn] at h1
    simp only [h1.1, h1.2]
    have h2 := rel_out s n p1
    cases ho : pOut s n p1 with
    | error b =>
      rw [ho] at h2
      have h2 : (sOut s n (.ok p1)).1 = .error b := h2
      simp only [h2, sArcs_e]
      rfl
    | ok x =>
      obtain ⟨o, p2⟩ := x
      rw [ho] at h2
      simp only [h2.1, h2.2]
      have h3 := rel_arcs s i (n / 2) p2 []
      cases ha : pArcs s i (n / 2) p2 [] with
      | error b =>
        rw [ha] at h3
        exact h3
      | ok x =>
        obtain ⟨l, p3⟩ := x
        rw [ha] at h3
        simp only [pMk]
        exact ⟨h3.1, by rw [h3.2]⟩
theorem rel_states (s : ByteArray) : ∀ (k i p : Nat) (acc : List State), Rel (sStates s k i (.ok p) acc).1 (sStates s k i (.ok p) acc).2 (pStates s k i p acc)
  | 0, i, p, acc => ⟨rfl, rfl⟩
  | k + 1, i, p, acc => by
    simp only [pStates, sStates]
    have h1 := rel_state s i p
    cases hs : pState s i p with
    | error b =>
      rw [hs] at h1
      have h1 : (sState s i (.ok p)).1 = .error b := h1
      simp only [h1, sStates_e]
      rfl
    | ok x =>
      obtain ⟨st, p1⟩ := x
      rw [hs] at h1
      simp only [h1.1, h1.2]
      exact rel_states s k (i + 1) p1 _
theorem step_mag (s : ByteArray) (k : Nat) : stepMag s k (.ok k) = match pMag s k k with | .error b => .error b | .ok (_, j) => .ok j := by
  unfold stepMag pMag
  have h1 := rel_char s k
  unfold pChar at h1
  unfold stepN at h1 ⊢
  unfold kindN
  by_cases hc : (charN s k).2.2 ≠ 0
  · rw [if_pos hc] at h1
    have h1 : (sChar s (.ok k)).1 = .error ((charN s k).2.2, k) := h1
    rw [if_pos hc]
    cases hs : sChar s (.ok k) with
    | mk a b => rw [hs] at h1; simp only at h1; subst h1; rfl
  · rw [if_neg hc] at h1
    simp only [ne_eq, not_true_eq_false, if_false] at h1
    rw [if_neg hc]
    cases hs : sChar s (.ok k) with
    | mk a b =>
      rw [hs] at h1
      obtain ⟨h2, h3⟩ := h1
      simp only at h2 h3
      subst h2
      simp only [h3]
      by_cases hm : (charN s k).1 = magicAt k
      · rw [if_pos hm]; simp [hm]
      · rw [if_neg hm]; simp [hm]
theorem pMag_next {s : ByteArray} {k x j : Nat} (h : pMag s k k = .ok (x, j)) : j = k + 1 := by
  unfold pMag stepN charN at h
  by_cases h2 : k = s.size
  · rw [if_pos h2] at h; simp at h
  · rw [if_neg h2] at h
    simp only [ne_eq, not_true_eq_false, if_false] at h
    split at h
    · cases h
    · injection h with h
      injection h with h4 h5
      exact h5.symm
theorem mag_is (s : ByteArray) : ∀ (m k : Nat), sMag s m k (.ok k) = match pMagic s m k k with | .error b => .error b | .ok p => .ok p
  | 0, k => rfl
  | m + 1, k => by
    simp only [sMag, pMagic, step_mag]
    cases hp : pMag s k k with
    | error b => simp only [sMag_e]
    | ok x =>
      obtain ⟨c, j⟩ := x
      have := pMag_next hp
      subst this
      simp only
      exact mag_is s m (k + 1)
theorem sAll_is (s : ByteArray) : sAll s = pAll s := by
  unfold sAll pAll
  have h0 := mag_is s 3 0
  cases hm : pMagic s 3 0 0 with
  | error b =>
    rw [hm] at h0
    simp only [h0, sNum_e, sStates_e]
    rfl
  | ok p =>
    rw [hm] at h0
    simp only [h0]
    have h1 := rel_num s 0 100000 p
    cases he : pNum s 0 100000 p with
    | error b =>
      rw [he] at h1
      have h1 : (sNum s 0 100000 (.ok p)).1 = .error b := h1
      simp only [h1, sNum_e, sStates_e]
      rfl
    | ok x =>
      obtain ⟨en, p1⟩ := x
      rw [he] at h1
      simp only [h1.1, h1.2]
      have h2 := rel_num s 1 18446744073709551615 p1
      cases hn : pNum s 1 18446744073709551615 p1 with
      | error b =>
        rw [hn] at h2
        have h2 : (sNum s 1 18446744073709551615 (.ok p1)).1 = .error b := h2
        simp only [h2, sNum_e, sStates_e]
        rfl
      | ok x =>
        obtain ⟨n, p2⟩ := x
        rw [hn] at h2
        simp only [h2.1, h2.2]
        have h3 := rel_states s n 0 p2 []
        cases hs : pStates s n 0 p2 [] with
        | error b =>
          rw [hs] at h3
          have h3 : (sStates s n 0 (.ok p2) []).1 = .error b := h3
          simp only [h3, sNum_e]
          rfl
        | ok x =>
          obtain ⟨ss, p3⟩ := x
          rw [hs] at h3
          simp only [h3.1, h3.2]
          have h4 := rel_num s 0 18446744073709551615 p3
          cases hi : pNum s 0 18446744073709551615 p3 with
          | error b =>
            rw [hi] at h4
            have h4 : (sNum s 0 18446744073709551615 (.ok p3)).1 = .error b := h4
            simp only [h4]
            rfl
          | ok x =>
            obtain ⟨init, p4⟩ := x
            rw [hi] at h4
            simp only [h4.1, h4.2]
            rfl
/-! bounds -/
theorem sNum_le (s : ByteArray) (lo hi : Nat) (st : Except Bad Nat) : (sNum s lo hi st).2 ≤ hi ∧ (sNum s lo hi st).2 < 18446744073709551616 := by
  cases st with
  | error b => exact ⟨Nat.zero_le _, by rw [sNum_e]; simp⟩
  | ok p =>
    cases h : pNum s lo hi p with
    | error b => rw [sNum_err h]; simp
    | ok x =>
      obtain ⟨n, j⟩ := x
      rw [sNum_ok h]
      have := pNum_ok h
      have h2 := this.2.2.1
      unfold M64 at h2
      exact ⟨this.2.2.2.2.1, h2⟩
theorem sChar_le {s : ByteArray} {st : Except Bad Nat} (h : ∀ p, st = .ok p → p ≤ s.size) : (sChar s st).2 < 256 := by
  cases st with
  | error b => rw [sChar_e]; simp
  | ok p =>
    cases h1 : pChar s p with
    | error b => rw [sChar_err h1]; simp
    | ok x =>
      obtain ⟨n, j⟩ := x
      rw [sChar_ok h1]
      exact (pChar_ok (h p rfl) h1).2.2.1
theorem sState_more {s : ByteArray} {i p p' : Nat} (hi : i ≤ 1000000000) (h : (sState s i (.ok p)).1 = .ok p') : p < p' ∧ p' ≤ s.size := by
  have h1 := rel_state s i p
  cases hs : pState s i p with
  | error b =>
    rw [hs] at h1
    rw [show (sState s i (.ok p)).1 = .error b from h1] at h
    cases h
  | ok x =>
    obtain ⟨st, j⟩ := x
    rw [hs] at h1
    rw [h1.1] at h
    injection h with h
    subst h
    have := pState_ok hi hs
    exact ⟨this.1, this.2.1⟩
end Dw
end Go.Proofs.YtdkbgbdgmihlmaaDoor

namespace Go.Proofs.YtdkbgbdgmihlmaaDoor
open Go.RowKit
set_option linter.unusedSimpArgs false
set_option linter.unusedVariables false
set_option linter.unnecessarySimpa false
namespace Dw
theorem two_boxesT {w W : World} {a b : Array Value} {t u : TypeId} (h : (w.alloc (.cells a t)).alloc (.cells b u) = W) : Below w.heap.size w W ∧ W.heap[w.heap.size]? = some (.cells a t (0, 0)) ∧ W.heap[w.heap.size + 1]? = some (.cells b u (0, 0)) := by
  subst h
  refine ⟨((Below.refl _ w).alloc (Nat.le_refl _) _).alloc (by simp) _, ?_, ?_⟩
  · rw [heap_get, if_neg (by simp), heap_get, if_pos rfl]
  · rw [heap_get, if_pos (by simp)]
theorem IN.but {w w' : World} {g : Nat} {s : ByteArray} {st : Except Bad Nat} {S : Nat → Prop} (h : IN w g s st) (hb : But S w w') (hn : ¬ S g) : IN w' g s st := by
  cases st with
  | ok i => exact ⟨hb.heap h.1 hn, h.2⟩
  | error b => obtain ⟨h0, i, hi, hg⟩ := h; exact ⟨h0, i, hi, hb.heap hg hn⟩
theorem IN.later {w w' : World} {g : Nat} {s : ByteArray} {st : Except Bad Nat} (h : IN w g s st) (hb : Below w.heap.size w w') : IN w' g s st := h.but (But.of (fun _ => False) hb) (fun h => h)
theorem IN.lt {w : World} {g : Nat} {s : ByteArray} {st : Except Bad Nat} (h : IN w g s st) : g < w.heap.size := by
  cases st with
  | ok i => exact heap_lt h.1
  | error b => obtain ⟨h0, i, hi, hg⟩ := h; exact heap_lt hg
def codeOf : Except Bad Nat → Nat
  | .ok _ => 0
  | .error b => b.1
def placeOf : Except Bad Nat → Nat
  | .ok _ => 0
  | .error b => b.2
theorem IN.cells {w : World} {g : Nat} {s : ByteArray} {st : Except Bad Nat} (h : IN w g s st) : ∃ i, i ≤ s.size ∧ (∀ p, st = .ok p → i = p) ∧ w.heap[g]? = some (.cells (INC s i (codeOf st) (placeOf st)) 101 (0, 0)) := by
  cases st with
  | ok i => exact ⟨i, h.2, (fun p hp => by injection hp), h.1⟩
  | error b => obtain ⟨h0, i, hi, hg⟩ := h; exact ⟨i, hi, (fun p hp => by cases hp), hg⟩
theorem IN.code {w : World} {g : Nat} {s : ByteArray} {st : Except Bad Nat} (h : IN w g s st) : w.cell? ⟨g, 2, none⟩ = some (.int .i64 (codeOf st)) ∧ w.cell? ⟨g, 3, none⟩ = some (.int .i64 (placeOf st)) := by
  obtain ⟨i, _, _, hg⟩ := h.cells
  have c2 := cell_of_row _ _ 2 _ 101 (0, 0) hg
  have c3 := cell_of_row _ _ 3 _ 101 (0, 0) hg
  simp [INC] at c2 c3
  exact ⟨c2, c3⟩
theorem IN.err {w : World} {g : Nat} {s : ByteArray} {b : Bad} (h : IN w g s (.error b)) : b.1 ≠ 0 := h.1
def sFail (b : Bad) : Except Bad Nat → Except Bad Nat
  | .ok _ => .error b
  | .error a => .error a
theorem sFail_err (b : Bad) (st : Except Bad Nat) : ∃ a, sFail b st = .error a := by
  cases st <;> exact ⟨_, rfl⟩
theorem rfail9 (w : World) (g : Nat) (s : ByteArray) (st : Except Bad Nat) (h : IN w g s st) (c a : Nat) (hc : c ≠ 0) : Calls Tryd.prog 45 #[.pointer (some ⟨g, 0, none⟩), .int .i64 c, .int .i64 a] w fun e w1 => e = .returned (.tuple #[]) ∧ IN w1 g s (sFail (c, a) st) ∧ But (fun k => k = g) w w1 := by
  cases st with
  | ok i =>
    refine (rfail w g s i c a h.1).mono ?_
    rintro e w1 ⟨rfl, h1, h2⟩
    exact ⟨rfl, ⟨hc, i, h.2, h1⟩, h2⟩
  | error b =>
    obtain ⟨h0, i, hi, hg⟩ := h
    refine (rfail_no w g s i b.1 b.2 c a h0 hg).mono ?_
    rintro e w1 ⟨rfl, h1⟩
    subst w1
    exact ⟨rfl, ⟨h0, i, hi, hg⟩, But.refl _ _⟩
theorem rnumL (w : World) (g : Nat) (s : ByteArray) (st st' : Except Bad Nat) (n : Nat) (h : IN w g s st) (hsz : s.size ≤ 1000000000) (lo hi : Nat) (he : sNum s lo hi st = (st', n)) : Calls Tryd.prog 46 #[.pointer (some ⟨g, 0, none⟩), .int .u64 lo, .int .u64 hi] w fun e w1 => e = .returned (.int .u64 n) ∧ IN w1 g s st' ∧ But (fun k => k = g) w w1 := by
  have := rnum w g s st h hsz lo hi
  rw [he] at this
  exact this
theorem rcharL (w : World) (g : Nat) (s : ByteArray) (st st' : Except Bad Nat) (n : Nat) (h : IN w g s st) (hsz : s.size ≤ 1000000000) (he : sChar s st = (st', n)) : Calls Tryd.prog 44 #[.pointer (some ⟨g, 0, none⟩)] w fun e w1 => e = .returned (.int .u8 n) ∧ IN w1 g s st' ∧ But (fun k => k = g) w w1 := by
  have := rchar w g s st h hsz
  rw [he] at this
  exact this
theorem ropenL (w : World) (s : ByteArray) (hsz : s.size ≤ 900000000) {b : ByteArray} {is : Bool} (he : openR (Crc.opened (wl s)) = (b, is)) : Calls Tryd.prog 10 #[.string s] w fun e w1 => e = .returned (.tuple #[.string b, .bool is]) ∧ Below w.heap.size w w1 := by
  have := ropen w s hsz
  rw [he] at this
  exact this
theorem open_le {s : ByteArray} {b : ByteArray} {is : Bool} (he : openR (Crc.opened (wl s)) = (b, is)) : b.size ≤ s.size := by
  have h9 := congrArg (fun x => x.1.size) he
  simp only at h9
  rw [← h9]
  cases hop : Crc.opened (wl s) with
  | none => exact Nat.zero_le _
  | some l =>
    have h8 := congrArg List.length (Crc.opened_some hop)
    rw [Crc.seal_length, wl_length] at h8
    simp only [openR, bl_size]
    omega
theorem stepMag_alt {s : ByteArray} {k c : Nat} {st st' : Except Bad Nat} (h : sChar s st = (st', c)) : stepMag s k st = if c = magicAt k then st' else sFail (6, k) st' := by
  unfold stepMag
  rw [h]
  cases st' with
  | ok j => rfl
  | error b => simp [sFail]
theorem sMag_next {s : ByteArray} {k m c : Nat} {st st' : Except Bad Nat} (h : sChar s st = (st', c)) : sMag s (m + 1) k st = sMag s m (k + 1) (if c = magicAt k then st' else sFail (6, k) st') := by
  rw [sMag, stepMag_alt h]
theorem arcS_eq {s : ByteArray} {i c o d : Nat} {st s1 s2 s3 : Except Bad Nat} (h1 : sChar s st = (s1, c)) (h2 : sNum s 0 18446744073709551615 s1 = (s2, o)) (h3 : sNum s 1 i s2 = (s3, d)) : arcS s i st = (s3, ⟨c, o, ((i - d : Nat) : Int)⟩) := by
  unfold arcS
  simp only [h1, h2, h3]
theorem sState_eq {s : ByteArray} {i h o : Nat} {l : List Arc} {st s1 s2 s3 : Except Bad Nat} (h1 : sNum s 0 513 st = (s1, h)) (h2 : sOut s h s1 = (s2, o)) (h3 : sArcs s i (h / 2) s2 [] = (s3, l)) : sState s i st = (s3, ⟨decide (h % 2 = 1), o, l⟩) := by
  unfold sState
  simp only [h1, h2, h3]
theorem sAll_eq {s : ByteArray} {en n init : Nat} {l : List State} {s0 s1 s2 s3 s4 : Except Bad Nat} (h0 : sMag s 3 0 (.ok 0) = s0) (h1 : sNum s 0 100000 s0 = (s1, en)) (h2 : sNum s 1 18446744073709551615 s1 = (s2, n)) (h3 : sStates s n 0 s2 [] = (s3, l)) (h4 : sNum s 0 18446744073709551615 s3 = (s4, init)) : pAll s = sEnd s en init l s4 := by
  rw [← sAll_is]
  unfold sAll
  simp only [h0, h1, h2, h3, h4]
/-- what ref15.Get answers -/
def GotR (w w1 : World) (e : Ending) : Except Bad (Nat × Nat × List State) → Prop
  | .error b => e = .returned (.tuple #[.int .i64 0, .agg #[.slice none 0 0, .int .u64 0], .agg #[.int .i64 b.1, .int .i64 b.2]]) ∧ b.1 ≠ 0 ∧ Below w.heap.size w w1
  | .ok (en, init, ss) => ∃ sv, e = .returned (.tuple #[.int .i64 en, .agg #[sv, .int .u64 init], .agg #[.int .i64 0, .int .i64 0]]) ∧ RS w1 sv ss ∧ Below w.heap.size w w1
theorem pGet_sum {s : ByteArray} {b : ByteArray} (he : openR (Crc.opened (wl s)) = (b, false)) : pGet s = .error (16, 0) := by unfold pGet; rw [he]; rfl
theorem pGet_bodyO {s : ByteArray} {b : ByteArray} (he : openR (Crc.opened (wl s)) = (b, true)) : pGet s = pAll b := by unfold pGet; rw [he]; rfl
theorem ret_tcc {P : Program} {fn : Func} {R : Ending → World → Prop} {n p q u g g2 : Nat} {ty ty2 t t2 : TypeId} {a : Act} {w : World} {x : Value} {cs cs2 : Array Value} {fr fr2 : Nat × Nat} {d d2 : TypeDesc} (h : fn.results = #[.tmp u, .cell p ty, .cell q ty2]) (hf : Fact.Fr n a)
    (su : a.tmps[u]? = some x) (sp : a.tmps[p]? = some (.pointer (some ⟨g, 0, none⟩))) (sq : a.tmps[q]? = some (.pointer (some ⟨g2, 0, none⟩))) (hg : w.heap[g]? = some (.cells cs t fr)) (hg2 : w.heap[g2]? = some (.cells cs2 t2 fr2)) (hu : P.underlying ty = some d) (hd : (match d with | .struct _ | .array _ _ => true | _ => false) = true) (hu2 : P.underlying ty2 = some d2) (hd2 : (match d2 with | .struct _ | .array _ _ => true | _ => false) = true)
    (hi : (P.info? ty).map (·.size) = some cs.size) (hi2 : (P.info? ty2).map (·.size) = some cs2.size) (hR : R (.returned (.tuple #[x, .agg cs, .agg cs2])) w) : bodyPost P fn R .ret a w := by
  refine bodyPost_ret (v := .tuple #[x, .agg cs, .agg cs2]) ?_ hf.defers hR
  have hp' : a.tmps[p]?.getD undef = .pointer (some ⟨g, 0, none⟩) := by simp [sp]
  have hq' : a.tmps[q]?.getD undef = .pointer (some ⟨g2, 0, none⟩) := by simp [sq]
  simp [results, h, Sem.run_bind, hp', hq', asAddr, run_loadVar_row w g t ty cs fr d hg hu hd hi, run_loadVar_row w g2 t2 ty2 cs2 fr2 d2 hg2 hu2 hd2 hi2, Result.andThen, su]
end Dw
end Go.Proofs.YtdkbgbdgmihlmaaDoor
