/- Rows of lists of hits: what they read as, those that the call owns, literal ones. -/
import Derived.Test.YtjpgcfcacfhmiaaTop
namespace Go.Proofs.Ytjpgcfcacfhmiaa
open Go.RowKit
set_option linter.unusedSimpArgs false
set_option linter.unusedVariables false
set_option linter.unnecessarySimpa false
/-! ### Lists of lists in memory -/
/-- cell i of a row is a slice that reads as R[i], below B -/
def RowsOf (w : World) (B g off : Nat) (R : List (List Hit)) : Prop :=
  ∀ (i : Nat) (l : List Hit), R[i]? = some l → ∃ A c, w.cell? ⟨g, off + i, none⟩ = some (.slice A l.length c) ∧ l.length ≤ c ∧ RHs w B A l
def RLs (w : World) (B : Nat) (A : Option Addr) (L : List (List Hit)) : Prop := 0 < L.length → ∃ b off, A = some ⟨b, off, none⟩ ∧ b < B ∧ RowsOf w B b off L
theorem RowsOf.keep {w w' : World} {B g off : Nat} {R : List (List Hit)} (h : RowsOf w B g off R) (hb : Below B w w') (hg : ∀ i, w'.cell? ⟨g, i, none⟩ = w.cell? ⟨g, i, none⟩) : RowsOf w' B g off R := by
  intro i l hi
  obtain ⟨A, c, h1, h2, h3⟩ := h i l hi
  exact ⟨A, c, (hg _).trans h1, h2, h3.below hb⟩
theorem RLs.below {w w' : World} {B : Nat} {A : Option Addr} {L : List (List Hit)} (h : RLs w B A L) (hb : Below B w w') : RLs w' B A L := by
  intro h0
  obtain ⟨b, off, e, hlt, hr⟩ := h h0
  exact ⟨b, off, e, hlt, hr.keep hb (fun i => hb.cell (p := ⟨b, i, none⟩) hlt)⟩

theorem RLs.more {w : World} {B B' : Nat} {A : Option Addr} {L : List (List Hit)} (h : RLs w B A L) (hB : B ≤ B') : RLs w B' A L := by
  intro h0
  obtain ⟨b, off, e, hlt, hr⟩ := h h0
  exact ⟨b, off, e, by omega, fun i l hi => by obtain ⟨A, c, h1, h2, h3⟩ := hr i l hi; exact ⟨A, c, h1, h2, h3.more hB⟩⟩

def Shaped (A : Option Addr) (n c : Nat) : Prop := (A = none ∧ n = 0 ∧ c = 0) ∨ ∃ b off, A = some ⟨b, off, none⟩
/-- a row of slices that the call itself owns; each reads as a list -/
def OLs (w : World) (B : Nat) (v : Value) (L : List (List Hit)) : Prop :=
  ∃ cells : List Value, w.ownsRow B 30 1 v L.length cells ∧ ∀ (i : Nat) (l : List Hit), L[i]? = some l → ∃ (A : Option Addr) (c : Nat), cells[i]? = some (Value.slice A l.length c) ∧ l.length ≤ c ∧ RHs w w.heap.size A l
theorem RHs.any {w : World} {B : Nat} {A : Option Addr} {es : List Hit} (h : RHs w B A es) : RHs w w.heap.size A es :=
  ⟨⟨h.rd.1, fun h0 => by
    obtain ⟨b, off, e, _, hc⟩ := h.rd.2 h0
    obtain ⟨cs, t, fr, hh, _⟩ := h.ty h0 b off e
    exact ⟨b, off, e, (Array.getElem?_eq_some_iff.1 hh).1, hc⟩⟩, h.ty⟩
/-- a row of another kind turns: the list reads as it did -/
theorem RHs.grown {w w' : World} {A : Option Addr} {es : List Hit} {base size n : Nat} {e : TypeId} {v : Value} {xs : List Value} (h : RHs w w.heap.size A es) (hown : w.ownsRow base e size v n xs) (hg : w.grownBy w' v.ownBlock) (he : e = 30) :
    RHs w' w'.heap.size A es := by
  have key : ∀ (b : Nat) (cs : Array Value) (t : TypeId) (fr : Nat × Nat), w.heap[b]? = some (Obj.cells cs t fr) → t ≠ 30 → w'.heap[b]? = w.heap[b]? := fun b cs t fr hb ht => by
    refine hg.block b (Array.getElem?_eq_some_iff.1 hb).1 (fun hk => ?_)
    rcases hown.2 with ⟨rfl, _⟩ | ⟨g, cap, cur, rfl, _, hgb, _⟩
    · simp [Value.ownBlock] at hk
    · simp [Value.ownBlock] at hk
      subst hk
      rw [hgb] at hb
      injection hb with hb
      injection hb with _ hb
      exact ht (hb.symm.trans he)
  refine ⟨⟨h.rd.1, fun h0 => ?_⟩, fun h0 b off e1 => ?_⟩
  · obtain ⟨b, off, e1, hlt, hc⟩ := h.rd.2 h0
    obtain ⟨cs, t, fr, hh, ht⟩ := h.ty h0 b off e1
    exact ⟨b, off, e1, Nat.lt_of_lt_of_le hlt hg.size, fun j u hu => (World.cell?_of_block (key b cs t fr hh ht)).trans (hc j u hu)⟩
  · obtain ⟨cs, t, fr, hh, ht⟩ := h.ty h0 b off e1
    exact ⟨cs, t, fr, (key b cs t fr hh ht).trans hh, ht⟩
theorem OLs.nil_ (w : World) (B : Nat) : OLs w B (.slice none 0 0) [] := ⟨[], World.ownsRow_nil _ _ _ _, fun i l h => by simp at h⟩
theorem OLs.below {w w' : World} {B : Nat} {v : Value} {L : List (List Hit)} (h : OLs w B v L) (hb : Below w.heap.size w w') : OLs w' B v L := by
  obtain ⟨cells, h1, h2⟩ := h
  exact ⟨cells, own_below h1 hb, fun i l hi => by obtain ⟨A, c, h3, h4, h5⟩ := h2 i l hi; exact ⟨A, c, h3, h4, (h5.below hb).any⟩⟩
theorem OLs.form {w : World} {B : Nat} {v : Value} {L : List (List Hit)} (h : OLs w B v L) : ∃ A c, v = .slice A L.length c ∧ L.length ≤ c ∧ RLs w w.heap.size A L ∧ Shaped A L.length c := by
  obtain ⟨cells, h1, h2⟩ := h
  rcases h1.2 with ⟨rfl, h0⟩ | ⟨g, cap, cur, rfl, hB, hh, hc, _⟩
  · obtain rfl : L = [] := List.eq_nil_of_length_eq_zero h0
    exact ⟨none, 0, rfl, by simp, fun h => absurd h (by simp), .inl ⟨rfl, rfl, rfl⟩⟩
  · refine ⟨_, _, rfl, hc, fun _ => ⟨g, 0, rfl, (Array.getElem?_eq_some_iff.1 hh).1, fun i l hi => ?_⟩, .inr ⟨_, _, rfl⟩⟩
    obtain ⟨A, c, h3, h4, h5⟩ := h2 i l hi
    refine ⟨A, c, ?_, h4, h5⟩
    have := h1.cellAt i (by have := (List.getElem?_eq_some_iff.1 hi).1; omega)
    rw [Nat.zero_add, this, h3]

theorem wpList_append_list {ops : Array Oper} {rest : List Oper} {o : Oper} {a : Act} {Q : Exit → Act → World → Prop} {W : World} {A : Option Addr} {n c : Nat}
    (hgd : o.guard = none) (s x : Operand) (ho : o.op = .call { callee := .builtin .append, args := #[s, x], argTypes := #[46, 46] })
    (base : Nat) (v : Value) (L : List (List Hit)) (l : List Hit) (hs : a.eval s = v) (hown : OLs W base v L) (g : Nat) (hx : a.eval x = .slice (some ⟨g, 0, none⟩) 1 1) (hgW : g = W.heap.size)
    (hn : n = l.length) (hl : RHs W W.heap.size A l) (hc : l.length ≤ c) (hL : L.length ≤ 1000000000) (hbase : base ≤ W.heap.size)
    (h : ∀ v' w', OLs w' base v' (L ++ [l]) → Below base W w' → wpList Try.prog ops Q rest (a.put o.dst v') w') :
    wpList Try.prog ops Q (o :: rest) a (W.alloc (.cells #[.slice A n c] 30)) := by
  obtain ⟨i0, hi, hz0, hz1, hz2⟩ := info_parts (show (Try.prog.info? 30).map (fun i => (i.zero, i.size, i.bytes)) = some (some (.slice none 0 0), 1, 24) by kernel_rfl)
  subst hgW
  subst hn
  obtain ⟨cells, h1, h2⟩ := hown
  refine wpList_append_own _ hgd s x 46 ho base 30 i0 _ 1 24 Try.underlying46 hi hz0 hz1 hz2 rfl (by decide) v L.length cells hs (h1.alloc _) ⟨W.heap.size, 0, none⟩ 1 1 [.slice A l.length c] hx rfl ?_ ?_ ?_ ?_ (by simp; omega) ?_
  · exact cell_one_new _ _ _
  · intro u hu; simp at hu; subst hu; rfl
  · unfold maxLen; omega
  · omega
  · intro v' w' ho' hg' _
    have hba : Below W.heap.size W (W.alloc (.cells #[.slice A l.length c] 30)) := (Below.refl _ W).alloc (Nat.le_refl _) _
    refine h v' w' ⟨cells ++ [.slice A l.length c], by simpa using ho', fun i l' hi' => ?_⟩ (((Below.refl base W).alloc hbase _).grown hg' (by simp; omega) (fun k hk => (h1.lt k hk).1))
    have hcl : cells.length = L.length := by have := h1.1; omega
    by_cases hlt : i < L.length
    · rw [List.getElem?_append_left hlt] at hi'
      obtain ⟨A', c', h3, h4, h5⟩ := h2 i l' hi'
      exact ⟨A', c', by rw [List.getElem?_append_left (by omega)]; exact h3, h4, ((h5.below hba).any).grown (h1.alloc _) hg' (by decide)⟩
    · have : i = L.length := by have := (List.getElem?_eq_some_iff.1 hi').1; simp at this; omega
      subst this
      simp at hi'
      subst hi'
      exact ⟨A, c, by rw [← hcl]; simp, hc, ((hl.below hba).any).grown (h1.alloc _) hg' (by decide)⟩

/-- a result that is a row of lists -/
def RetLs (w : World) (L : List (List Hit)) (e : Ending) (w' : World) : Prop :=
  ∃ A c, e = .returned (.slice A L.length c) ∧ L.length ≤ c ∧ RLs w' w'.heap.size A L ∧ Shaped A L.length c ∧ Below w.heap.size w w'
theorem ret_ls {w wr : World} {B : Nat} {v : Value} {L : List (List Hit)} (h : OLs wr B v L) (hb : Below w.heap.size w wr) : RetLs w L (.returned v) wr := by
  obtain ⟨A, c, rfl, hc, hR, hS⟩ := h.form
  exact ⟨A, c, rfl, hc, hR, hS, hb⟩

theorem RHs.new (W : World) (es : List Hit) (cs : Array Value) (hc : cs = (hcs es).toArray) : RHs (W.alloc (.cells cs 26)) (W.heap.size + 1) (some ⟨W.heap.size, 0, none⟩) es := by
  subst hc
  refine ⟨⟨hcs_length es, fun _ => ⟨W.heap.size, 0, rfl, by omega, fun j u hu => ?_⟩⟩, fun _ b off e => ?_⟩
  · rw [cell_of_row _ _ (0 + j) _ 26 (0, 0) (heap_alloc_new W _)]; simpa using hu
  · injection e with e; injection e with e; subst e; exact ⟨_, _, _, heap_alloc_new W _, by decide⟩
theorem RLs.new (W : World) (L : List (List Hit)) (cs : Array Value) (hc : ∀ (i : Nat) (l : List Hit), L[i]? = some l → ∃ A c, cs[i]? = some (.slice A l.length c) ∧ l.length ≤ c ∧ RHs W W.heap.size A l) :
    RLs (W.alloc (.cells cs 30)) (W.heap.size + 1) (some ⟨W.heap.size, 0, none⟩) L := by
  intro _
  refine ⟨W.heap.size, 0, rfl, by omega, fun i l hi => ?_⟩
  obtain ⟨A, c, h1, h2, h3⟩ := hc i l hi
  refine ⟨A, c, ?_, h2, (h3.alloc (Nat.le_refl _) _).more (by omega)⟩
  rw [cell_of_row _ _ (0 + i) _ 30 (0, 0) (heap_alloc_new W _)]; simpa using h1
theorem RLs.one (W : World) {A : Option Addr} {l : List Hit} {n c : Nat} (hn : n = l.length) (hc : n ≤ c) (h : RHs W W.heap.size A l) : RLs (W.alloc (.cells #[.slice A n c] 30)) (W.alloc (.cells #[.slice A n c] 30)).heap.size (some ⟨W.heap.size, 0, none⟩) [l] := by
  subst hn
  refine (RLs.new W [l] _ (fun i l' hi => ?_)).more (by simp)
  match i, hi with
  | 0, hi => injection hi with hi; subst hi; exact ⟨A, c, rfl, hc, h⟩
  | n + 1, hi => simp at hi
theorem RHs.up {W : World} {A : Option Addr} {es : List Hit} (h : RHs W W.heap.size A es) (o : Obj) : RHs (W.alloc o) (W.alloc o).heap.size A es := (h.alloc (Nat.le_refl _) _).more (by simp)
theorem RHs.lit {W : World} {es : List Hit} {cs : Array Value} (hc : cs = (hcs es).toArray) : RHs (W.alloc (.cells cs 26)) (W.alloc (.cells cs 26)).heap.size (some ⟨W.heap.size, 0, none⟩) es := (RHs.new W es cs hc).more (by simp)
theorem RHs.later {W w2 : World} {A : Option Addr} {es : List Hit} (h : RHs W W.heap.size A es) (hb : Below W.heap.size W w2) : RHs w2 w2.heap.size A es := (h.below hb).any
end Go.Proofs.Ytjpgcfcacfhmiaa
