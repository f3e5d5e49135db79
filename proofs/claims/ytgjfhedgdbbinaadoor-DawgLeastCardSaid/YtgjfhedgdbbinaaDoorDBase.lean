/- Dawg: what states, arcs, and the states along the last word read as in memory. -/
import Derived.Test.YtgjfhedgdbbinaaDoorProg
import Derived.Test.YtgjfhedgdbbinaaDoorTools
import Derived.Test.YtgjfhedgdbbinaaDoorDLaw
import Derived.WalkKit
import Derived.WalkSpells
import Derived.Deep.OwnRows
import Derived.Laws.OwnMore
import Derived.Deep.RegionHeld3
import Derived.Maps.AppendAt
namespace Go.Proofs.YtgjfhedgdbbinaaDoor
open Go.RowKit
set_option linter.unusedSimpArgs false
set_option linter.unusedVariables false
set_option linter.unnecessarySimpa false
theorem cell_lt0 {w : World} {p : Addr} {v : Value} (h : w.cell? p = some v) : p.block < w.heap.size := by
  unfold World.cell? at h
  rcases Nat.lt_or_ge p.block w.heap.size with hlt | hge
  · exact hlt
  · rw [Array.getElem?_eq_none hge] at h; cases h
theorem But.cell {S : Nat → Prop} {w w' : World} (hb : But S w w') {p : Addr} {v : Value} (h : w.cell? p = some v) (hn : ¬ S p.block) : w'.cell? p = some v :=
  (World.cell?_of_block (hb.block p.block (cell_lt0 h) hn)).trans h
theorem But.heap {S : Nat → Prop} {w w' : World} (hb : But S w w') {k : Nat} {o : Obj} (h : w.heap[k]? = some o) (hn : ¬ S k) : w'.heap[k]? = some o :=
  (hb.block k (Array.getElem?_eq_some_iff.1 h).1 hn).trans h
theorem heap_lt {w : World} {k : Nat} {o : Obj} (h : w.heap[k]? = some o) : k < w.heap.size := (Array.getElem?_eq_some_iff.1 h).1
theorem But.setCell {S : Nat → Prop} {w : World} {p : Addr} (hp : S p.block) (u : Value) : But S w (w.setCell p u) :=
  ⟨rfl, rfl, rfl, by simp [World.setCell], fun k hk hn => Below.heap_setCell _ _ _ _ (fun e => hn (e ▸ hp))⟩
theorem But.alloc {S : Nat → Prop} (w : World) (o : Obj) : But S w (w.alloc o) := But.of S ((Below.refl _ w).alloc (Nat.le_refl _) o)
theorem But.grown {S : Nat → Prop} {w w' : World} {row : Option Nat} (hg : w.grownBy w' row) (hr : ∀ k, row = some k → S k) : But S w w' :=
  ⟨hg.os, hg.tape, hg.output, hg.size, fun k hk hn => hg.block k hk (fun e => hn (hr k e.symm))⟩
theorem But.below {S : Nat → Prop} {w w' : World} {B : Nat} (h : But S w w') (hB : B ≤ w.heap.size) (hS : ∀ k, S k → B ≤ k) : Below B w w' :=
  ⟨h.os, h.tape, h.output, h.size, fun k hk => h.block k (by omega) (fun hs => by have := hS k hs; omega)⟩
theorem But.grownBy {S : Nat → Prop} {w w' : World} (h : But S w w') (hS : ∀ k, k < w.heap.size → ¬ S k) : w.grownBy w' none := ⟨h.os, h.tape, h.output, h.size, fun k hk _ => h.block k hk (hS k hk)⟩
namespace Dw
/-! general -/
theorem cL {w w' : World} (hb : Below w.heap.size w w') {p : Addr} {v : Value} (h : w.cell? p = some v) : w'.cell? p = some v := (hb.cell (cell_lt0 h)).trans h
theorem frozen_later {w w' : World} (hb : Below w.heap.size w w') {p : Addr} {v : Value} (h : w.cell? p = some v) (hf : w.frozen? p = false) : w'.frozen? p = false := (hb.frozen (cell_lt0 h)).trans hf
theorem old_cell {w w' : World} {B : Nat} {p : Addr} {v : Value} (hb : Below B w w') (h : w.cell? p = some v) (hp : p.block < B) : w'.cell? p = some v := (hb.cell hp).trans h
/-- what lies below a number, where all that may turn lies from it on -/
theorem set_block {w : World} {g i : Nat} {t : TypeId} {cs : Array Value} {fr : Nat × Nat} (h : w.heap[g]? = some (.cells cs t fr)) (u : Value) : (w.setCell ⟨g, i, none⟩ u).heap[g]? = some (.cells (cs.setIfInBounds i u) t fr) := by
  simp [World.setCell, Array.getElem?_modify, h]
theorem frozen_of {w : World} {g i : Nat} {t : TypeId} {cs : Array Value} (h : w.heap[g]? = some (.cells cs t (0, 0))) : w.frozen? ⟨g, i, none⟩ = false := by simp [World.frozen?, h]
theorem heap_get {w : World} (o : Obj) (k : Nat) : (w.alloc o).heap[k]? = if k = w.heap.size then some o else w.heap[k]? := by
  show (w.heap.push o)[k]? = _
  rw [Array.getElem?_push]
/-- an owned row, where other blocks turn -/
theorem own_but {S : Nat → Prop} {w w' : World} {base n size : Nat} {e : TypeId} {v : Value} {xs : List Value} (h : w.ownsRow base e size v n xs) (hb : But S w w') (hn : ∀ k, v.ownBlock = some k → ¬ S k) : w'.ownsRow base e size v n xs := by
  refine ⟨h.1, ?_⟩
  rcases h.2 with h1 | ⟨g, cap, cur, rfl, h2, h3, h4⟩
  · exact .inl h1
  · exact .inr ⟨g, cap, cur, rfl, h2, hb.heap h3 (hn g rfl), h4⟩
theorem own_later {w w' : World} {base n size : Nat} {e : TypeId} {v : Value} {xs : List Value} (h : w.ownsRow base e size v n xs) (hb : Below w.heap.size w w') : w'.ownsRow base e size v n xs :=
  own_but h (But.of (fun _ => False) hb) (fun _ _ hf => hf)
theorem own_less {w : World} {base base' n size : Nat} {e : TypeId} {v : Value} {xs : List Value} (h : w.ownsRow base e size v n xs) (hb : base' ≤ base) : w.ownsRow base' e size v n xs := by
  refine ⟨h.1, ?_⟩
  rcases h.2 with h1 | ⟨g, cap, cur, h1, h2, h3⟩
  · exact .inl h1
  · exact .inr ⟨g, cap, cur, h1, by omega, h3⟩
/-! fresh boxes -/
theorem box3 {w W : World} {x y z : Value} {t : TypeId} (h : w.alloc (.cells #[x, y, z] t) = W) : Below w.heap.size w W ∧ W.cell? ⟨w.heap.size, 0, none⟩ = some x ∧ W.cell? ⟨w.heap.size, 1, none⟩ = some y ∧ W.cell? ⟨w.heap.size, 2, none⟩ = some z ∧
    W.heap[w.heap.size]? = some (.cells #[x, y, z] t (0, 0)) ∧ W.heap.size = w.heap.size + 1 := by
  subst h
  have hh := heap_alloc_new w (.cells #[x, y, z] t)
  exact ⟨(Below.refl _ _).alloc (Nat.le_refl _) _, cell_of_row _ _ 0 _ t (0, 0) hh, cell_of_row _ _ 1 _ t (0, 0) hh, cell_of_row _ _ 2 _ t (0, 0) hh, hh, by simp⟩
theorem box4 {w W : World} {x y z u : Value} {t : TypeId} (h : w.alloc (.cells #[x, y, z, u] t) = W) : Below w.heap.size w W ∧ W.cell? ⟨w.heap.size, 0, none⟩ = some x ∧ W.cell? ⟨w.heap.size, 1, none⟩ = some y ∧ W.cell? ⟨w.heap.size, 2, none⟩ = some z ∧ W.cell? ⟨w.heap.size, 3, none⟩ = some u ∧
    W.heap[w.heap.size]? = some (.cells #[x, y, z, u] t (0, 0)) ∧ W.heap.size = w.heap.size + 1 := by
  subst h
  have hh := heap_alloc_new w (.cells #[x, y, z, u] t)
  exact ⟨(Below.refl _ _).alloc (Nat.le_refl _) _, cell_of_row _ _ 0 _ t (0, 0) hh, cell_of_row _ _ 1 _ t (0, 0) hh, cell_of_row _ _ 2 _ t (0, 0) hh, cell_of_row _ _ 3 _ t (0, 0) hh, hh, by simp⟩
theorem box2 {w W : World} {x y : Value} {t : TypeId} (h : w.alloc (.cells #[x, y] t) = W) : Below w.heap.size w W ∧ W.cell? ⟨w.heap.size, 0, none⟩ = some x ∧ W.cell? ⟨w.heap.size, 1, none⟩ = some y ∧
    W.heap[w.heap.size]? = some (.cells #[x, y] t (0, 0)) ∧ W.heap.size = w.heap.size + 1 := by
  subst h
  have hh := heap_alloc_new w (.cells #[x, y] t)
  exact ⟨(Below.refl _ _).alloc (Nat.le_refl _) _, cell_of_row _ _ 0 _ t (0, 0) hh, cell_of_row _ _ 1 _ t (0, 0) hh, hh, by simp⟩
theorem box1 {w W : World} {x : Value} {t : TypeId} (h : w.alloc (.cells #[x] t) = W) : Below w.heap.size w W ∧ W.cell? ⟨w.heap.size, 0, none⟩ = some x ∧
    W.heap[w.heap.size]? = some (.cells #[x] t (0, 0)) ∧ W.heap.size = w.heap.size + 1 := by
  subst h
  have hh := heap_alloc_new w (.cells #[x] t)
  exact ⟨(Below.refl _ _).alloc (Nat.le_refl _) _, cell_of_row _ _ 0 _ t (0, 0) hh, hh, by simp⟩
/-! arcs -/
def Arc.cells (a : Arc) : List Value := [.int .u8 a.byte, .int .u64 a.out, .int .i64 a.to]
def acs (l : List Arc) : List Value := l.flatMap Arc.cells
theorem acs_length (l : List Arc) : (acs l).length = l.length * 3 := by
  induction l with
  | nil => rfl
  | cons e l ih => simp only [acs, List.flatMap_cons, List.length_append, List.length_cons] at ih ⊢; rw [ih]; simp [Arc.cells]; omega
theorem acs_get (l : List Arc) (i j : Nat) (hi : i < l.length) (hj : j < 3) : (acs l)[i * 3 + j]? = (l[i]).cells[j]? := by
  induction l generalizing i with
  | nil => simp at hi
  | cons e l ih =>
    simp only [acs, List.flatMap_cons]
    cases i with
    | zero => rw [List.getElem?_append_left (by simp [Arc.cells]; omega)]; simp
    | succ i =>
      rw [List.getElem?_append_right (by simp [Arc.cells]; omega)]
      have := ih i (by simpa using hi)
      simp only [acs] at this
      simp only [List.getElem_cons_succ]
      rw [← this]; congr 1; simp [Arc.cells]; omega
theorem acs_append (a b : List Arc) : acs (a ++ b) = acs a ++ acs b := by simp [acs]
theorem acs_one (l : List Arc) : ∀ u ∈ acs l, u.oneCell' = true := by
  intro u hu
  simp only [acs, List.mem_flatMap] at hu
  obtain ⟨e, _, hu⟩ := hu
  simp [Arc.cells] at hu
  rcases hu with rfl | rfl | rfl <;> rfl
/-- the slice value reads as arcs, in a block of B -/
def RA (w : World) (B : Nat → Prop) (v : Value) (l : List Arc) : Prop :=
  ∃ (A : Option Addr) (c : Nat), v = .slice A l.length c ∧ l.length ≤ c ∧ (0 < l.length → ∃ b off, A = some ⟨b, off, none⟩ ∧ B b ∧ ∀ j u, (acs l)[j]? = some u → w.cell? ⟨b, off + j, none⟩ = some u)
section
variable {w w' : World} {S B B' : Nat → Prop} {v : Value} {l : List Arc}
theorem RA.but (h : RA w B v l) (hb : But S w w') (hn : ∀ k, B k → ¬ S k) : RA w' B v l := by
  obtain ⟨A, c, h1, h2, h3⟩ := h
  refine ⟨A, c, h1, h2, fun h0 => ?_⟩
  obtain ⟨b, off, h4, h5, h6⟩ := h3 h0
  exact ⟨b, off, h4, h5, fun j u hu => hb.cell (h6 j u hu) (hn b h5)⟩
theorem RA.later (h : RA w B v l) (hb : Below w.heap.size w w') : RA w' B v l := h.but (But.of (fun _ => False) hb) (fun _ _ hf => hf)
theorem RA.more (h : RA w B v l) (hB : ∀ k, k < w.heap.size → B k → B' k) : RA w B' v l := by
  obtain ⟨A, c, h1, h2, h3⟩ := h
  refine ⟨A, c, h1, h2, fun h0 => ?_⟩
  obtain ⟨b, off, h4, h5, h6⟩ := h3 h0
  have hlt : b < w.heap.size := cell_lt0 (h6 0 _ (List.getElem?_eq_getElem (by rw [acs_length]; omega)))
  exact ⟨b, off, h4, hB b hlt h5, h6⟩
theorem RA.nil_ : RA w B (.slice none 0 0) [] := ⟨none, 0, rfl, by simp, fun h => absurd h (by simp)⟩
theorem RA.form (h : RA w B v l) : ∃ (A : Option Addr) (c : Nat), v = .slice A l.length c ∧ l.length ≤ c := by
  obtain ⟨A, c, h1, h2, _⟩ := h
  exact ⟨A, c, h1, h2⟩
theorem RA.at_ {A : Option Addr} {n c : Nat} (h : RA w B (.slice A n c) l) {i : Nat} (hi : i < l.length) : ∃ b off, A = some ⟨b, off, none⟩ ∧ b < w.heap.size ∧ w.cell? ⟨b, off + i * 3, none⟩ = some (.int .u8 (l[i]).byte) ∧
    w.cell? ⟨b, off + i * 3 + 1, none⟩ = some (.int .u64 (l[i]).out) ∧ w.cell? ⟨b, off + i * 3 + 2, none⟩ = some (.int .i64 (l[i]).to) := by
  obtain ⟨A, c, h1, h2, h3⟩ := h
  injection h1 with h1
  obtain ⟨b, off, h4, h5, h6⟩ := h3 (by omega)
  have k : ∀ j, j < 3 → ∀ u, (l[i]).cells[j]? = some u → w.cell? ⟨b, off + (i * 3 + j), none⟩ = some u := fun j hj u hu => h6 _ _ (by rw [acs_get l i j hi hj]; exact hu)
  refine ⟨b, off, h1.trans h4, ?_, k 0 (by omega) _ rfl, k 1 (by omega) _ rfl, k 2 (by omega) _ rfl⟩
  exact cell_lt0 (k 0 (by omega) _ rfl)
theorem RA.at' {A : Option Addr} {n c : Nat} (h : RA w B (.slice A n c) l) {i : Nat} {a : Arc} (hi : l[i]? = some a) : ∃ b off, A = some ⟨b, off, none⟩ ∧ b < w.heap.size ∧ w.cell? ⟨b, off + i * 3, none⟩ = some (.int .u8 a.byte) ∧
    w.cell? ⟨b, off + i * 3 + 1, none⟩ = some (.int .u64 a.out) ∧ w.cell? ⟨b, off + i * 3 + 2, none⟩ = some (.int .i64 a.to) := by
  obtain ⟨hlt, rfl⟩ := List.getElem?_eq_some_iff.1 hi
  exact h.at_ hlt
end
/-- arcs that the call owns -/
abbrev OA (w : World) (base : Nat) (v : Value) (l : List Arc) : Prop := w.ownsRow base 63 3 v l.length (acs l)
theorem OA.ra {w : World} {base : Nat} {v : Value} {l : List Arc} {B : Nat → Prop} (h : OA w base v l) (hB : ∀ k, v.ownBlock = some k → B k) : RA w B v l := by
  rcases h.2 with ⟨rfl, h0⟩ | ⟨g, cap, cur, rfl, _, hh, hc, _⟩
  · obtain rfl : l = [] := List.eq_nil_of_length_eq_zero h0
    exact RA.nil_
  · refine ⟨_, _, rfl, hc, fun _ => ⟨g, 0, rfl, hB g rfl, fun j u hu => ?_⟩⟩
    have := h.cellAt j (by rw [← acs_length]; exact (List.getElem?_eq_some_iff.1 hu).1)
    rw [Nat.zero_add, this, hu]
theorem OA.nil_ (w : World) (base : Nat) : OA w base (.slice none 0 0) [] := World.ownsRow_nil _ _ _ _
theorem OA.own {w : World} {base : Nat} {v : Value} {l : List Arc} (h : OA w base v l) (h0 : 0 < l.length) : ∃ b c, v = .slice (some ⟨b, 0, none⟩) l.length c ∧ base ≤ b ∧ b < w.heap.size := by
  rcases h.2 with ⟨_, h1⟩ | ⟨g, cap, cur, rfl, h2, h3, _⟩
  · omega
  · exact ⟨g, cap, rfl, h2, heap_lt h3⟩
theorem OA.cell {w : World} {base b c n : Nat} {l : List Arc} (h : OA w base (.slice (some ⟨b, 0, none⟩) n c) l) {i : Nat} {a : Arc} (hi : l[i]? = some a) : w.cell? ⟨b, i * 3, none⟩ = some (.int .u8 a.byte) ∧ w.cell? ⟨b, i * 3 + 1, none⟩ = some (.int .u64 a.out) ∧ w.cell? ⟨b, i * 3 + 2, none⟩ = some (.int .i64 a.to) := by
  have h2 := OA.ra (B := fun _ => True) h (fun _ _ => trivial)
  obtain ⟨b', off, e, _, h3, h4, h5⟩ := h2.at' hi
  injection e with e
  injection e with e1 e2
  subst e1
  subst e2
  rw [Nat.zero_add] at h3 h4 h5
  exact ⟨h3, h4, h5⟩
/-- an arc's out is turned -/
theorem OA.out {w : World} {base b c n : Nat} {l : List Arc} (h : OA w base (.slice (some ⟨b, 0, none⟩) n c) l) {i : Nat} {a : Arc} (hi : l[i]? = some a) (hn : n = l.length) (x : Nat) :
    OA (w.setCell ⟨b, i * 3 + 1, none⟩ (.int .u64 x)) base (.slice (some ⟨b, 0, none⟩) n c) (l.set i ⟨a.byte, x, a.to⟩) := by
  subst hn
  have h1 := (h.stored (i * 3 + 1) (.int .u64 x)).1
  have hlt := (List.getElem?_eq_some_iff.1 hi).1
  have hc : acs (l.set i ⟨a.byte, x, a.to⟩) = (acs l).set (i * 3 + 1) (.int .u64 x) := by
    refine List.ext_getElem? fun t => ?_
    by_cases ht : t < l.length * 3
    · have e1 := acs_get (l.set i ⟨a.byte, x, a.to⟩) (t / 3) (t % 3) (by simp; omega) (by omega)
      rw [show t / 3 * 3 + t % 3 = t by omega] at e1
      have e0 := acs_get l (t / 3) (t % 3) (by omega) (by omega)
      rw [show t / 3 * 3 + t % 3 = t by omega] at e0
      rw [e1, List.getElem?_set, e0]
      by_cases hti : t / 3 = i
      · have h3 : t = i * 3 ∨ t = i * 3 + 1 ∨ t = i * 3 + 2 := by omega
        have hg : (l.set i ⟨a.byte, x, a.to⟩)[t / 3]'(by simp; omega) = ⟨a.byte, x, a.to⟩ := by simp [hti]
        have hg2 : l[t / 3]'(by omega) = a := by
          have := (List.getElem?_eq_some_iff.1 hi).2
          simp only [hti]; exact this
        rw [hg, hg2]
        rcases h3 with e | e | e
        · subst e; rw [show i * 3 % 3 = 0 by omega, if_neg (by omega)]; rfl
        · subst e; rw [show (i * 3 + 1) % 3 = 1 by omega, if_pos rfl, if_pos (by rw [acs_length]; omega)]; rfl
        · subst e; rw [show (i * 3 + 2) % 3 = 2 by omega, if_neg (by omega)]; rfl
      · have hg : (l.set i ⟨a.byte, x, a.to⟩)[t / 3]'(by simp; omega) = l[t / 3]'(by omega) := by rw [List.getElem_set_ne (fun e => hti e.symm)]
        rw [hg, if_neg (by omega)]
    · rw [List.getElem?_eq_none (by rw [acs_length]; simp; omega), List.getElem?_eq_none (by rw [List.length_set, acs_length]; omega)]
  unfold OA
  rw [hc, List.length_set]
  exact h1
/-! a state at an address -/
structure SAt (w : World) (B : Nat → Prop) (g o : Nat) (av : Value) (s : State) : Prop where
  c0 : w.cell? ⟨g, o, none⟩ = some av
  c1 : w.cell? ⟨g, o + 1, none⟩ = some (.bool s.final)
  c2 : w.cell? ⟨g, o + 2, none⟩ = some (.int .u64 s.out)
  arcs : RA w B av s.arcs
theorem SAt.later {w w' : World} {B : Nat → Prop} {g o : Nat} {av : Value} {s : State} (h : SAt w B g o av s) (hb : Below w.heap.size w w') : SAt w' B g o av s :=
  ⟨cL hb h.c0, cL hb h.c1, cL hb h.c2, h.arcs.later hb⟩
/-- bounds -/
def okA (a : Arc) : Prop := a.byte < 256 ∧ a.out < 18446744073709551616 ∧ -9223372036854775808 ≤ a.to ∧ a.to < 9223372036854775808
def okS (s : State) : Prop := s.out < 18446744073709551616 ∧ s.arcs.length < 4611686018427387904 ∧ ∀ a ∈ s.arcs, okA a
/-- a state's value -/
def sval (av : Value) (s : State) : Value := .agg #[av, .bool s.final, .int .u64 s.out]
end Dw
end Go.Proofs.YtgjfhedgdbbinaaDoor
