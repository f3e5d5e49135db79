/- One law for a loop over an iterator that may keep a state of its own in cells of one kind (C): the iterator's contract, and the loop's. No condition. -/
import Derived.Test.YtfgfichkcckhiaaLBase
import Derived.RangeFuncNested
import Derived.RangeFuncBound
import Derived.RangeFuncCalls
import Derived.RangeFuncLeaves
import Derived.Shelf.Abstract
import Derived.Shelf.RegionOpen
import Derived.OwnWalkIn
import Derived.TacticsInMore
import Derived.LoopNIn
import Derived.LoopIn
import Derived.Maps.AppendAt
import Derived.Sort.LoopGhostIn
import Derived.Sort.CutIn
import Derived.Deep.LoopGhost
import Derived.Deep.RegionHeld3
namespace Go.Proofs.Ytfgfichkcckhiaa
open Go.RowKit
namespace Lv

/-- I stays when new blocks come, and when a block at or beyond B that is of kind C turns. -/
def Stays (C : Obj → Prop) (B : Nat) (I : World → Prop) : Prop :=
  ∀ W W' row, I W → W.grownBy W' row → (∀ r, row = some r → B ≤ r ∧ ∃ o : Obj, W.heap[r]? = some o ∧ C o) → I W'

theorem Stays.and {C : Obj → Prop} {B : Nat} {I J : World → Prop} (h : Stays C B I) (k : Stays C B J) : Stays C B (fun W => I W ∧ J W) :=
  fun W W' row hs hg hr => ⟨h W W' row hs.1 hg hr, k W W' row hs.2 hg hr⟩
theorem Stays.pure (C : Obj → Prop) (B : Nat) (p : Prop) : Stays C B (fun _ => p) := fun _ _ _ hs _ _ => hs
theorem Stays.ex {β : Type} {C : Obj → Prop} {B : Nat} {I : β → World → Prop} (h : ∀ b, Stays C B (I b)) : Stays C B (fun W => ∃ b, I b W) :=
  fun W W' row ⟨b, hs⟩ hg hr => ⟨b, h b W W' row hs hg hr⟩
theorem Stays.below {C : Obj → Prop} {n₀ B : Nat} {w₀ : World} (hn : n₀ ≤ w₀.heap.size) (hB : n₀ ≤ B) : Stays C B (fun W => Below n₀ w₀ W) :=
  fun _ _ _ hs hg hr => hs.grown hg (Nat.le_trans hn hs.size) (fun k e => Nat.le_trans hB (hr k e).1)
theorem Stays.block {C : Obj → Prop} {B k : Nat} {o : Obj} (h : k < B ∨ ¬ C o) : Stays C B (fun W => W.heap[k]? = some o) := by
  intro W W' row hs hg hr
  refine (hg.block k (Array.getElem?_eq_some_iff.1 hs).1 (fun e => ?_)).trans hs
  obtain ⟨hB, o', ho', hc⟩ := hr k e.symm
  rw [hs] at ho'
  cases ho'
  rcases h with h | h
  · omega
  · exact h hc
theorem Stays.own {C : Obj → Prop} {B base : Nat} {e : TypeId} {size n : Nat} {v : Value} {xs : List Value} (hC : ∀ cur, ¬ C (.cells cur e (0, 0))) :
    Stays C B (fun W => W.ownsRow base e size v n xs) := by
  intro W W' row hs hg hr
  refine hs.kept hg ?_
  rcases hs.2 with ⟨rfl, _⟩ | ⟨g, cap, cur, rfl, _, hgb, _⟩
  · exact .inl rfl
  · refine .inr (fun he => ?_)
    obtain ⟨_, o, ho, hc⟩ := hr g he.symm
    rw [hgb] at ho
    cases ho
    exact hC _ hc
theorem Stays.alloc {C : Obj → Prop} {B : Nat} {I : World → Prop} (h : Stays C B I) {W : World} (hs : I W) (o : Obj) : I (W.alloc o) :=
  h W _ none hs (World.grownBy_alloc W o none) (fun _ e => by cases e)
theorem Stays.put {C : Obj → Prop} {B : Nat} {I : World → Prop} (h : Stays C B I) {W : World} (hs : I W) {l : Nat} {o : Obj} (o' : Obj) (hl : W.heap[l]? = some o) (hB : B ≤ l) (hc : C o) : I (W.putObj l o') :=
  h W _ (some l) hs (grownBy_putObj' W l o') (fun r e => by cases e; exact ⟨hB, o, hl, hc⟩)

/-- THE ITERATOR's CONTRACT: it tells the elements one behind the other; what it turns meanwhile is of kind C, or new. -/
def Iter {α : Type} (n : Nat) (P : Program) (C : Obj → Prop) (g : Nat) (lb : Array Value) (encs : α → Array Value) (Kp : World → World → Prop) (S Sp : List α → Prop) (N : Nat) (w : World) : Prop :=
  ∀ (l : Nat) (J Jx : List α → World → Prop) (W : World), Below w.heap.size w W → (∀ s, Stays C W.heap.size (J s)) → (∀ s, Stays C W.heap.size (Jx s)) →
    (∀ pre x W1, J pre W1 → pre.length < N → YieldAt Fence.wide (n - 1) P l (encs x) W1 fun e W' =>
      (e = .returned (.bool true) ∧ J (pre ++ [x]) W' ∧ Kp W1 W') ∨ (e = .returned (.bool false) ∧ Jx (pre ++ [x]) W')) →
    J [] W →
    CallsIn Fence.wide n P g (#[.func (.yield l) #[] #[]] ++ lb) W fun e W' => (∃ v, e = .returned v) ∧ ((∃ xs, S xs ∧ J xs W') ∨ (∃ pre, Sp pre ∧ Jx pre W'))

/-- kinds that a loop's invariant must bear besides: what is no cells -/
def Beside (C : Obj → Prop) (o : Obj) : Prop := o.isCells = false ∨ C o

section
variable {n : Nat} {P : Program}
theorem wpIn_range {α : Type} {g : Operand} {ps : Array Tmp} {assign body : Code} {Q : Exit → Act → World → Prop} {a : Act} {w : World} {C : Obj → Prop}
    {gf : Nat} {lb : Array Value} (hg : a.eval g = .func (.func gf) #[] lb) (eg : ∀ args w, (callFunc gf args).run P w = .ok (.enter gf args) w)
    {encs : α → Array Value} {Kp : World → World → Prop} {S Sp : List α → Prop} {N : Nat} {w0 : World} (hseq : Iter (n - 1) P C gf lb encs Kp S Sp N w0)
    (hKt : ∀ {A B C : World}, Kp A B → Kp B C → Kp A C)
    (hKb : ∀ (W : World) (l : Nat) (o o' : Obj), w.heap.size ≤ l → W.heap[l]? = some o → o.isCells = false → o.isWalk = false → Kp W (W.putObj l o'))
    (hb0 : Below w0.heap.size w0 w) (hps : ∀ x, (encs x).size = ps.size)
    (I : List α → World → Prop) (Ix : Code → List α → World → Prop) (hI : ∀ s, Stays (Beside C) w.heap.size (I s)) (hIx : ∀ c s, Stays (Beside C) w.heap.size (Ix c s)) (h0 : I [] w)
    (Ax : α → Act → World → Prop) (hAx : ∀ x a', Stays (Beside C) w.heap.size (Ax x a'))
    (hassign : ∀ (l : Nat) (pre : List α) (x : α) (W : World) (K : Act → World → Prop), I pre W → (∀ a' W', KeepsFrom w.heap.size W W' → Kp W W' → I pre W' → Ax x a' W' → K a' W') →
      assign.wpIn (Fence.wide.inRound l) (n - 1 - 1) P (Exit.then K (fun _ _ _ => False)) { tmps := (ps.zip (encs x)).foldl (fun t (p, v) => t.setIfInBounds p v) a.tmps, defers := [] } W)
    (hbody : ∀ (l : Nat) (pre : List α) (x : α) (a' : Act) (W : World), w.heap.size ≤ l → (∃ r, W.heap[l]? = some (.loop r)) → I pre W → Ax x a' W → pre.length < N →
      body.wpIn (Fence.wide.inRound l) (n - 1 - 1) P (ownPostG w.heap.size Kp I Ix (pre ++ [x]) W) a' W)
    (hdone : ∀ (D : Nat) (xs : List α) (W : World), w.heap.size ≤ D → S xs → I xs W → W.heap[D]? = some (.deferred (some [])) → Q .normal { a with defers := { target := .collected D, args := #[] } :: a.defers } W)
    (hstop : ∀ (D : Nat) (c : Code) (pre : List α) (W : World), w.heap.size ≤ D → Sp pre → Ix c pre W → W.heap[D]? = some (.deferred (some [])) → c.wpIn Fence.wide n P Q { a with defers := { target := .collected D, args := #[] } :: a.defers } W)
    (hCl : ∀ r, ¬ C (.loop r)) (hCd : ∀ d, ¬ C (.deferred d)) :
    (Code.rangeFunc g ps assign body).wpIn Fence.wide n P Q a w := by
  refine wpIn_rangeFunc ?_
  intro fn hfn
  let rc : LoopState → Option Code → Loop := fun st pe => { state := st, pending := pe, fn := fn, tmps := a.tmps, params := ps, assign := assign, body := body, defers := w.heap.size }
  let W1 : World := (w.alloc (.deferred (some []))).alloc (.loop (rc .ready none))
  have hs1 : W1.heap.size = w.heap.size + 2 := by simp [W1]
  have hL1 : W1.heap[w.heap.size + 1]? = some (.loop (rc .ready none)) := by
    have := World.alloc_heap_new (w.alloc (.deferred (some []))) (.loop (rc .ready none))
    rwa [World.size_alloc] at this
  have hD1 : W1.heap[w.heap.size]? = some (.deferred (some [])) := (Below.heap_alloc _ _ _ (by simp)).trans (World.alloc_heap_new w _)
  have hI1 : I [] W1 := (hI []).alloc ((hI []).alloc h0 _) _
  have hb1 : Below w0.heap.size w0 W1 := hb0.trans ((((Below.refl _ w).alloc (Nat.le_refl _) _).alloc (by simp) _).mono hb0.size)
  refine ⟨w.heap.size + 1, [{ target := .collected w.heap.size, args := #[] }], W1, { target := .fn (.func gf) lb, args := #[.func (.yield (w.heap.size + 1)) #[] #[]] }, W1, gf,
    #[.func (.yield (w.heap.size + 1)) #[] #[]] ++ lb, W1, ?_, ?_, ?_, ?_, ?_, ?_⟩
  · exact run_enterLoop_outer _ _ _ _ _
  · simp only [resolve, hg]; simp [go_sem]
  · intro f' _; trivial
  · simp [invoke, go_sem, eg]
  · intro h; simp [Fence.wide] at h
  · -- the invariant that the iterator bears: the loop's own, and the two blocks of book-keeping
    have toB : ∀ {A : World} {row : Option Nat}, (∀ r, row = some r → W1.heap.size ≤ r ∧ ∃ o : Obj, A.heap[r]? = some o ∧ C o) → (∀ r, row = some r → w.heap.size ≤ r ∧ ∃ o : Obj, A.heap[r]? = some o ∧ Beside C o) :=
      fun h r e => ⟨by have := (h r e).1; omega, by obtain ⟨o, ho, hc⟩ := (h r e).2; exact ⟨o, ho, .inr hc⟩⟩
    have bk : ∀ st pe, Stays C W1.heap.size (fun W => W.heap[w.heap.size + 1]? = some (.loop (rc st pe)) ∧ W.heap[w.heap.size]? = some (.deferred (some []))) := fun st pe =>
      Stays.and (Stays.block (.inr (hCl _))) (Stays.block (.inr (hCd _)))
    refine (hseq (w.heap.size + 1)
      (fun pre W => I pre W ∧ (W.heap[w.heap.size + 1]? = some (.loop (rc .ready none)) ∧ W.heap[w.heap.size]? = some (.deferred (some []))))
      (fun pre W => ∃ c, Ix c pre W ∧ (W.heap[w.heap.size + 1]? = some (.loop (rc .done (some c))) ∧ W.heap[w.heap.size]? = some (.deferred (some []))))
      W1 hb1
      (fun s => Stays.and (fun A B row hs hg' hr => hI s A B row hs hg' (toB hr)) (bk _ _))
      (fun s => Stays.ex fun c => Stays.and (fun A B row hs hg' hr => hIx c s A B row hs hg' (toB hr)) (bk _ _))
      ?_ ⟨hI1, hL1, hD1⟩).mono ?_
    · rintro pre x W ⟨hi, hl, hk⟩ hlen
      have hy := run_yield (P := P) (args := encs x) hl (hps x)
      refine ⟨fn, _, assign, body, hy, roundIn_of_wpIn hfn (hassign _ pre x W _ hi ?_)⟩
      intro a' Wa hkf hkp hia hax
      have hla := hkf.same _ _ (by omega) hl rfl
      have hka := hkf.same _ _ (Nat.le_refl _) hk rfl
      have hlta : w.heap.size + 1 < Wa.heap.size := (Array.getElem?_eq_some_iff.1 hla).1
      refine ⟨_, run_beginRound hla rfl, ?_⟩
      have hl2 : (Wa.putObj (w.heap.size + 1) (.loop (rc .busy none))).heap[w.heap.size + 1]? = some (.loop (rc .busy none)) := World.putObj_heap_same hlta
      have hk2 : (Wa.putObj (w.heap.size + 1) (.loop (rc .busy none))).heap[w.heap.size]? = some (.deferred (some [])) := (World.putObj_heap_other (by omega)).trans hka
      have hw2 : Kp Wa (Wa.putObj (w.heap.size + 1) (.loop (rc .busy none))) := hKb _ _ _ _ (by omega) hla rfl rfl
      refine wpIn_mono (hbody _ pre x a' _ (by omega) ⟨_, hl2⟩ ((hI pre).put hia _ hla (by omega) (.inl rfl)) ((hAx x a').put hax _ hla (by omega) (.inl rfl)) hlen) ?_
      have fin : ∀ (jump : Option Code) (W3 : World), KeepsFrom w.heap.size (Wa.putObj (w.heap.size + 1) (.loop (rc .busy none))) W3 →
          (Instr.endRound (w.heap.size + 1) jump).run P W3 = .ok (.bool jump.isNone) (W3.putObj (w.heap.size + 1) (.loop (rc (if jump.isNone then .ready else .done) jump))) ∧
          W3.heap[w.heap.size + 1]? = some (.loop (rc .busy none)) ∧
          (W3.putObj (w.heap.size + 1) (.loop (rc (if jump.isNone then .ready else .done) jump))).heap[w.heap.size + 1]? = some (.loop (rc (if jump.isNone then .ready else .done) jump)) ∧
          (W3.putObj (w.heap.size + 1) (.loop (rc (if jump.isNone then .ready else .done) jump))).heap[w.heap.size]? = some (.deferred (some [])) := fun jump W3 hk3 => by
        have hl3 := hk3.same _ _ (by omega) hl2 rfl
        exact ⟨run_endRound (P := P) jump hl3, hl3, World.putObj_heap_same (Array.getElem?_eq_some_iff.1 hl3).1, (World.putObj_heap_other (by omega)).trans (hk3.same _ _ (Nat.le_refl _) hk2 rfl)⟩
      have out : ∀ (c : Code) (W3 : World), KeepsFrom w.heap.size (Wa.putObj (w.heap.size + 1) (.loop (rc .busy none))) W3 → Ix c (pre ++ [x]) W3 →
          ∃ v w', (Instr.endRound (w.heap.size + 1) (some c)).run P W3 = .ok v w' ∧
            ((Ending.returned v = .returned (.bool true) ∧ (I (pre ++ [x]) w' ∧ (w'.heap[w.heap.size + 1]? = some (.loop (rc .ready none)) ∧ w'.heap[w.heap.size]? = some (.deferred (some [])))) ∧ Kp W w') ∨
             (Ending.returned v = .returned (.bool false) ∧ ∃ c, Ix c (pre ++ [x]) w' ∧ (w'.heap[w.heap.size + 1]? = some (.loop (rc .done (some c))) ∧ w'.heap[w.heap.size]? = some (.deferred (some []))))) := by
        intro c W3 hk3 hi3
        obtain ⟨hr, hl3, hl4, hk4⟩ := fin (some c) W3 hk3
        exact ⟨_, _, hr, .inr ⟨rfl, c, (hIx c _).put hi3 _ hl3 (by omega) (.inl rfl), hl4, hk4⟩⟩
      intro e a3 W3 hp
      cases e with
      | normal =>
        obtain ⟨hk3, hkp3, hi3⟩ := hp
        obtain ⟨hr, hl3, hl4, hk4⟩ := fin none W3 hk3
        exact ⟨_, _, hr, .inl ⟨rfl, ⟨(hI _).put hi3 _ hl3 (by omega) (.inl rfl), hl4, hk4⟩, hKt hkp (hKt (hKt hw2 hkp3) (hKb _ _ _ _ (by omega) hl3 rfl rfl))⟩⟩
      | ret => exact out _ _ hp.1 hp.2
      | exit id => exact out _ _ hp.1 hp.2
      | goto t => exact out _ _ hp.1 hp.2
      | panic ch => exact hp.elim
      | outgrown => exact hp.elim
    · rintro e W2 ⟨⟨v, rfl⟩, (⟨xs, hS, hi, hl, hk⟩ | ⟨pre, hSp, c, hi, hl, hk⟩)⟩
      · exact ⟨none, _, run_endLoop (P := P) hl (by simp [rc]), hdone _ xs _ (Nat.le_refl _) hS ((hI xs).put hi _ hl (by omega) (.inl rfl)) ((World.putObj_heap_other (by omega)).trans hk)⟩
      · exact ⟨some c, _, run_endLoop (P := P) hl (by simp [rc]), hstop _ c pre _ (Nat.le_refl _) hSp ((hIx c pre).put hi _ hl (by omega) (.inl rfl)) ((World.putObj_heap_other (by omega)).trans hk)⟩
end
end Lv
end Go.Proofs.Ytfgfichkcckhiaa
