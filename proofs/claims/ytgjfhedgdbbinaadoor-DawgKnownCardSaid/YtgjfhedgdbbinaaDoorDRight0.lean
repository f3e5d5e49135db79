/- Dawg: what is right, in plain terms, as the code asks it. -/
import Derived.Test.YtgjfhedgdbbinaaDoorDMirror
namespace Go.Proofs.YtgjfhedgdbbinaaDoor
set_option linter.unusedSimpArgs false
set_option linter.unusedVariables false
namespace Dw
def okArcs (i : Nat) : Int → List Arc → Bool
  | _, [] => true
  | last, a :: l => decide (0 ≤ a.to) && decide (a.to < (i : Int)) && decide (last < (a.byte : Int)) && okArcs i (a.byte : Int) l
def formedL : Nat → List State → Bool
  | _, [] => true
  | i, s :: l => (s.final || decide (s.out = 0)) && okArcs i (-1) s.arcs && formedL (i + 1) l
def formedF (ss : List State) : Bool := formedL 0 ss && decide (0 < ss.length)
theorem drop_get {α : Type} {l : List α} {i : Nat} {x : α} (h : l[i]? = some x) : l.drop i = x :: l.drop (i + 1) := by
  obtain ⟨h1, h2⟩ := List.getElem?_eq_some_iff.1 h
  rw [List.drop_eq_getElem_cons h1, h2]
theorem formedL_step {ss : List State} {i : Nat} {s : State} (h : ss[i]? = some s) : formedL i (ss.drop i) = ((s.final || decide (s.out = 0)) && okArcs i (-1) s.arcs && formedL (i + 1) (ss.drop (i + 1))) := by rw [drop_get h]; rfl
theorem okArcs_step {l : List Arc} {i k : Nat} {last : Int} {a : Arc} (h : l[k]? = some a) : okArcs i last (l.drop k) = (decide (0 ≤ a.to) && decide (a.to < (i : Int)) && decide (last < (a.byte : Int)) && okArcs i (a.byte : Int) (l.drop (k + 1))) := by rw [drop_get h]; rfl
def arcCount (ss : List State) : Nat := (ss.map fun s => s.arcs.length).sum
theorem arcCount_step {ss : List State} {i : Nat} {s : State} (h : ss[i]? = some s) : arcCount (ss.take (i + 1)) = arcCount (ss.take i) + s.arcs.length := by
  rw [List.take_add_one, h]
  simp [arcCount]
/-! the walk from the root -/
def wArcs (rec : Nat → Nat → Option Nat) : List Arc → Nat → Option Nat
  | [], left => some left
  | a :: l, left => if (left : Int) ≤ a.to then (match rec a.to.toNat left with | none => none | some x => wArcs rec l x) else wArcs rec l left
def arcsOf (ss : List State) (s : Nat) : List Arc := (ss[s]?.map State.arcs).getD []
def leave (s : Nat) : Option Nat → Option Nat
  | none => none
  | some l => if s = l then some (l + 1) else none
def wlk : Nat → List State → Nat → Nat → Option Nat
  | 0, _, _, _ => none
  | f + 1, ss, s, left => leave s (wArcs (wlk f ss) (arcsOf ss s) left)
def resume (ss : List State) (s k left : Nat) : Option Nat := leave s (wArcs (wlk s ss) ((arcsOf ss s).drop k) left)
/-- the way, the last one first -/
def contW (ss : List State) : List (Nat × Nat) → Nat → Bool
  | [], left => decide (left = ss.length)
  | (s, k) :: rest, left => match resume ss s k left with
    | none => false
    | some l => contW ss rest l
/-- arcs go to states ahead -/
def Ahead (ss : List State) : Prop := ∀ (s : Nat), ∀ a ∈ arcsOf ss s, 0 ≤ a.to ∧ a.to < (s : Int)
theorem wArcs_congr {r r' : Nat → Nat → Option Nat} : ∀ (l : List Arc) (left : Nat), (∀ a ∈ l, ∀ x, r a.to.toNat x = r' a.to.toNat x) → wArcs r l left = wArcs r' l left
  | [], _, _ => rfl
  | a :: l, left, h => by
    have h1 := h a (List.mem_cons_self ..)
    have ih := fun x => wArcs_congr l x (fun b hb => h b (List.mem_cons_of_mem _ hb))
    simp only [wArcs]
    rw [h1 left, ih left]
    split
    · cases r' a.to.toNat left with
      | none => rfl
      | some x => exact ih x
    · rfl
theorem wlk_fuel {ss : List State} (hA : Ahead ss) : ∀ (s f f' : Nat), s < f → s < f' → ∀ left, wlk f ss s left = wlk f' ss s left := by
  intro s
  induction s using Nat.strongRecOn with
  | _ s ih =>
    intro f f' h h' left
    obtain ⟨g, rfl⟩ : ∃ g, f = g + 1 := ⟨f - 1, by omega⟩
    obtain ⟨g', rfl⟩ : ∃ g', f' = g' + 1 := ⟨f' - 1, by omega⟩
    simp only [wlk]
    rw [wArcs_congr (arcsOf ss s) left (fun a ha x => by
      have := hA s a ha
      exact ih a.to.toNat (by omega) g g' (by omega) (by omega) x)]
theorem wlk_resume {ss : List State} (hA : Ahead ss) {s t left : Nat} (h : t < s) : wlk s ss t left = resume ss t 0 left := by
  rw [wlk_fuel hA t s (t + 1) h (by omega)]
  rfl
theorem cont_push {ss : List State} (hA : Ahead ss) {s k left : Nat} {rest : List (Nat × Nat)} {a : Arc} (h : (arcsOf ss s)[k]? = some a) (hl : (left : Int) ≤ a.to) : contW ss ((s, k) :: rest) left = contW ss ((a.to.toNat, 0) :: (s, k + 1) :: rest) left := by
  have ha := hA s a (List.mem_of_getElem? h)
  simp only [contW, resume]
  rw [drop_get h]
  simp only [wArcs, hl, if_true]
  rw [wlk_resume hA (by omega)]
  cases hr : resume ss a.to.toNat 0 left with
  | none => simp [leave, resume] at hr ⊢; rw [hr]
  | some x => simp only [resume] at hr ⊢; rw [hr]
theorem cont_next {ss : List State} {s k left : Nat} {rest : List (Nat × Nat)} {a : Arc} (h : (arcsOf ss s)[k]? = some a) (hl : ¬ (left : Int) ≤ a.to) : contW ss ((s, k) :: rest) left = contW ss ((s, k + 1) :: rest) left := by
  simp only [contW, resume]
  rw [drop_get h]
  simp only [wArcs, hl, if_false]
theorem cont_end {ss : List State} {s k left : Nat} {rest : List (Nat × Nat)} (h : (arcsOf ss s).length ≤ k) : contW ss ((s, k) :: rest) left = if s = left then contW ss rest (left + 1) else false := by
  simp only [contW, resume]
  rw [List.drop_eq_nil_of_le h]
  simp only [wArcs, leave]
  by_cases hs : s = left
  · simp [hs]
  · simp [hs]
def orderedF (ss : List State) : Bool := contW ss [(ss.length - 1, 0)] 0
def goodS (ss : List State) (i : Nat) (s : State) : Bool := !(!s.final && decide (s.arcs.length = 0)) && decide (leastOf s = 0) && decide (s ∉ ss.take i)
def allGood (ss : List State) : Nat → List State → Bool
  | _, [] => true
  | i, s :: l => goodS ss i s && allGood ss (i + 1) l
theorem allGood_step {ss : List State} {i : Nat} {s : State} (h : ss[i]? = some s) : allGood ss i (ss.drop i) = (goodS ss i s && allGood ss (i + 1) (ss.drop (i + 1))) := by rw [drop_get h]; rfl
def rightF (ss : List State) (init : Nat) : Bool :=
  formedF ss && (match ss.getLast? with
    | none => false
    | some root => if !root.final && decide (root.arcs.length = 0) then decide (ss.length = 1) && decide (init = 0) else orderedF ss && allGood ss 0 ss)
end Dw
end Go.Proofs.YtgjfhedgdbbinaaDoor
