/- states as they may be read. -/
import Derived.Test.YtdkbgbdgmihlmaaGreatDoorPBase
namespace Go.Proofs.YtdkbgbdgmihlmaaGreatDoor
open Go.RowKit
set_option linter.unusedSimpArgs false
set_option linter.unusedVariables false
set_option linter.unnecessarySimpa false
namespace Dw
/-- states, as they may be read -/
def RS (w : World) (sv : Value) (ss : List State) : Prop := ∃ (A : Option Addr) (c : Nat), sv = .slice A ss.length c ∧ ss.length ≤ c ∧ (0 < ss.length → ∃ b off, A = some ⟨b, off, none⟩ ∧ ∀ (i : Nat) (s : State), ss[i]? = some s → ∃ av, SAt w (fun _ => True) b (off + i * 3) av s)
theorem RS.later {w w' : World} {sv : Value} {ss : List State} (h : RS w sv ss) (hb : Below w.heap.size w w') : RS w' sv ss := by
  obtain ⟨A, c, h1, h2, h3⟩ := h
  refine ⟨A, c, h1, h2, fun h0 => ?_⟩
  obtain ⟨b, off, h4, h5⟩ := h3 h0
  exact ⟨b, off, h4, fun i s hi => by obtain ⟨av, h6⟩ := h5 i s hi; exact ⟨av, h6.later hb⟩⟩
theorem RS.form {w : World} {sv : Value} {ss : List State} (h : RS w sv ss) : ∃ (A : Option Addr) (c : Nat), sv = .slice A ss.length c ∧ ss.length ≤ c := by
  obtain ⟨A, c, h1, h2, _⟩ := h
  exact ⟨A, c, h1, h2⟩
theorem RS.at_ {w : World} {A : Option Addr} {n c : Nat} {ss : List State} (h : RS w (.slice A n c) ss) {i : Nat} {s : State} (hi : ss[i]? = some s) : ∃ b off av, A = some ⟨b, off, none⟩ ∧ SAt w (fun _ => True) b (off + i * 3) av s := by
  obtain ⟨A', c', h1, h2, h3⟩ := h
  injection h1 with h1
  have h0 := (List.getElem?_eq_some_iff.1 hi).1
  obtain ⟨b, off, h4, h5⟩ := h3 (by omega)
  obtain ⟨av, h6⟩ := h5 i s hi
  exact ⟨b, off, av, h1.trans h4, h6⟩
theorem RS.nil_ (w : World) : RS w (.slice none 0 0) [] := ⟨none, 0, rfl, by simp, fun h => by simp at h⟩
/-- states as they may be read, all blocks below N -/
def RSN (w : World) (N : Nat) (sv : Value) (ss : List State) : Prop := ∃ (A : Option Addr) (c : Nat), sv = .slice A ss.length c ∧ ss.length ≤ c ∧ (0 < ss.length → ∃ b off, A = some ⟨b, off, none⟩ ∧ b < N ∧ ∀ (i : Nat) (s : State), ss[i]? = some s → ∃ av, SAt w (fun k => k < N) b (off + i * 3) av s)
theorem RS.n {w : World} {sv : Value} {ss : List State} (h : RS w sv ss) : RSN w w.heap.size sv ss := by
  obtain ⟨A, c, h1, h2, h3⟩ := h
  refine ⟨A, c, h1, h2, fun h0 => ?_⟩
  obtain ⟨b, off, h4, h5⟩ := h3 h0
  obtain ⟨av0, h6⟩ := h5 0 _ (List.getElem?_eq_getElem h0)
  refine ⟨b, off, h4, cell_lt0 h6.c0, fun i s hi => ?_⟩
  obtain ⟨av, h7⟩ := h5 i s hi
  exact ⟨av, h7.c0, h7.c1, h7.c2, h7.arcs.more (fun k hk _ => hk)⟩
theorem below_but {N : Nat} {w w' : World} (hb : Below N w w') : But (fun k => N ≤ k) w w' := ⟨hb.os, hb.tape, hb.output, hb.size, fun i _ hn => hb.block i (by omega)⟩
theorem SAt.below {w w' : World} {N g o : Nat} {av : Value} {s : State} (h : SAt w (fun k => k < N) g o av s) (hg : g < N) (hb : Below N w w') : SAt w' (fun k => k < N) g o av s :=
  ⟨(hb.cell hg).trans h.c0, (hb.cell hg).trans h.c1, (hb.cell hg).trans h.c2, h.arcs.but (below_but hb) (fun k h1 h2 => by omega)⟩
theorem RSN.below {w w' : World} {N : Nat} {sv : Value} {ss : List State} (h : RSN w N sv ss) (hb : Below N w w') : RSN w' N sv ss := by
  obtain ⟨A, c, h1, h2, h3⟩ := h
  refine ⟨A, c, h1, h2, fun h0 => ?_⟩
  obtain ⟨b, off, h4, h5, h6⟩ := h3 h0
  exact ⟨b, off, h4, h5, fun i s hi => by obtain ⟨av, h7⟩ := h6 i s hi; exact ⟨av, h7.below h5 hb⟩⟩
theorem RSN.form {w : World} {N : Nat} {sv : Value} {ss : List State} (h : RSN w N sv ss) : ∃ (A : Option Addr) (c : Nat), sv = .slice A ss.length c ∧ ss.length ≤ c := by
  obtain ⟨A, c, h1, h2, _⟩ := h
  exact ⟨A, c, h1, h2⟩
theorem RSN.at_ {w : World} {A : Option Addr} {N n c : Nat} {ss : List State} (h : RSN w N (.slice A n c) ss) {i : Nat} {s : State} (hi : ss[i]? = some s) : ∃ b off av, A = some ⟨b, off, none⟩ ∧ b < N ∧ SAt w (fun k => k < N) b (off + i * 3) av s := by
  obtain ⟨A', c', h1, h2, h3⟩ := h
  injection h1 with h1
  have h0 := (List.getElem?_eq_some_iff.1 hi).1
  obtain ⟨b, off, h4, h5, h6⟩ := h3 (by omega)
  obtain ⟨av, h7⟩ := h6 i s hi
  exact ⟨b, off, av, h1.trans h4, h5, h7⟩
def arcCount (ss : List State) : Nat := (ss.map fun s => s.arcs.length).sum
theorem arcCount_step {ss : List State} {i : Nat} {s : State} (h : ss[i]? = some s) : arcCount (ss.take (i + 1)) = arcCount (ss.take i) + s.arcs.length := by
  rw [List.take_add_one, h]
  simp [arcCount]
theorem arcCount_le {ss : List State} (h : ∀ s ∈ ss, s.arcs.length ≤ 1000) (i : Nat) : arcCount (ss.take i) ≤ 1000 * ss.length := by
  have key : ∀ l : List State, (∀ s ∈ l, s.arcs.length ≤ 1000) → arcCount l ≤ 1000 * l.length := fun l => by
    induction l with
    | nil => intro _; simp [arcCount]
    | cons s l ih =>
      intro hl
      have h1 := hl s (List.mem_cons_self ..)
      have h2 := ih fun x hx => hl x (List.mem_cons_of_mem _ hx)
      simp only [arcCount, List.map_cons, List.sum_cons, List.length_cons] at h2 ⊢
      omega
  have := key (ss.take i) (fun s hs => h s (List.mem_of_mem_take hs))
  have h2 : (ss.take i).length ≤ ss.length := by simp; omega
  omega
end Dw
end Go.Proofs.YtdkbgbdgmihlmaaGreatDoor
