/- The chapter's examples: what the program answers at them. -/
import Derived.Test.YtjpgcfcacfhmiaaJoin
import Derived.Test.YtjpgcfcacfhmiaaHits
namespace Go.Proofs.Ytjpgcfcacfhmiaa
open Go.RowKit
set_option linter.unusedSimpArgs false
set_option linter.unusedVariables false
set_option linter.unnecessarySimpa false
def xA : Hit := ⟨⟨#[97]⟩, 5, false, 1⟩
def xB : Hit := ⟨⟨#[98]⟩, 5, false, 1⟩
def xC : Hit := ⟨⟨#[99]⟩, 9, false, 1⟩
def xD : Hit := ⟨⟨#[100]⟩, 1, false, 0⟩
theorem ltAA : lessH xA xA = false := lt_irrefl _
theorem ltBB : lessH xB xB = false := lt_irrefl _
theorem ltAB : lessH xA xB = true := by rw [less_ref]; simp only [refLess, xA, xB, ByteArray.toList_eq]; decide
theorem ltBA : lessH xB xA = false := by rw [less_ref]; simp only [refLess, xA, xB, ByteArray.toList_eq]; decide
theorem ltCA : lessH xC xA = true := by rw [less_ref]; simp only [refLess, xA, xC, ByteArray.toList_eq]; decide
theorem ltCB : lessH xC xB = true := by rw [less_ref]; simp only [refLess, xC, xB, ByteArray.toList_eq]; decide
theorem ltDA : lessH xD xA = true := by rw [less_ref]; simp only [refLess, xA, xD, ByteArray.toList_eq]; decide
theorem ltDB : lessH xD xB = true := by rw [less_ref]; simp only [refLess, xD, xB, ByteArray.toList_eq]; decide
theorem ltDC : lessH xD xC = true := by rw [less_ref]; simp only [refLess, xD, xC, ByteArray.toList_eq]; decide
def exX : List Hit := [xB, xA, xC, xD]
def exS : List Hit := [xD, xC, xA, xB]
theorem exS_sorted : Sorted exS := by
  unfold Sorted exS
  refine List.pairwise_cons.2 ⟨?_, List.pairwise_cons.2 ⟨?_, List.pairwise_cons.2 ⟨?_, List.pairwise_singleton _ _⟩⟩⟩
  all_goals
    intro a ha
    simp only [List.mem_cons, List.not_mem_nil, or_false] at ha
  · rcases ha with rfl | rfl | rfl
    · exact le_of_lt ltDC
    · exact le_of_lt ltDA
    · exact le_of_lt ltDB
  · rcases ha with rfl | rfl
    · exact le_of_lt ltCA
    · exact le_of_lt ltCB
  · subst ha; exact le_of_lt ltAB
theorem sort_eq_of {a b : List Hit} (hp : a.Perm b) (hs : Sorted b) : sortH a = b := (sortH_congr hp).trans (sortH_self hs)
theorem exX_sort : sortH exX = exS := sort_eq_of (show exX.Perm exS from (List.reverse_perm exX).symm) exS_sorted
theorem exX_rank : exX.countP (lessH · xA) = 2 := by
  simp only [exX, List.countP_cons, List.countP_nil, ltAA, ltBA, ltCA, ltDA]; rfl
theorem exL_flat : ([[xD, xB], [xC, xA]] : List (List Hit)).flatten.Perm exX := by
  refine List.Perm.trans ?_ (List.reverse_perm exX)
  exact List.Perm.cons _ ((List.Perm.swap _ _ _).trans (List.Perm.cons _ (List.Perm.swap _ _ _)))
theorem exJ : topH 3 ([[xD, xB], [xC, xA]] : List (List Hit)).flatten = [xD, xC, xA] := by
  unfold topH; rw [sortH_congr exL_flat, exX_sort]; rfl
theorem exL_sorted : ∀ l ∈ ([[xD, xB], [xC, xA]] : List (List Hit)), Sorted l := by
  intro l hl
  simp only [List.mem_cons, List.not_mem_nil, or_false] at hl
  rcases hl with rfl | rfl
  · exact List.pairwise_cons.2 ⟨by intro a ha; simp at ha; subst ha; exact le_of_lt ltDB, List.pairwise_singleton _ _⟩
  · exact List.pairwise_cons.2 ⟨by intro a ha; simp at ha; subst ha; exact le_of_lt ltCA, List.pairwise_singleton _ _⟩
theorem sort_ex {A : Option Addr} {c : Nat} {w : World} (h : RHs w w.heap.size A exX) : Calls Try.prog 11 #[.slice A 4 c] w fun e w' => ∃ A' c', e = .returned (.slice A' 4 c') ∧ RHs w' w'.heap.size A' exS ∧ Below w.heap.size w w' := by
  refine (sort11 exX A c w (by decide) h).mono ?_
  rintro e w2 ⟨A', c', rfl, _, hr, hb⟩
  rw [exX_sort] at hr ⊢
  exact ⟨A', c', rfl, hr, hb⟩
theorem top_ex2 {A : Option Addr} {c : Nat} {w : World} (h : RHs w w.heap.size A exX) : Calls Try.prog 15 #[.int .i64 2, .slice A 4 c] w fun e w' => ∃ A' c', e = .returned (.tuple #[.slice A' 2 c', .int .i64 0]) ∧ RHs w' w'.heap.size A' [xD, xC] ∧ Below w.heap.size w w' := by
  refine (top15 2 exX A c w (by decide) h).mono ?_
  rintro e w2 ⟨A', c', rfl, _, hr, hb⟩
  have e1 : topH 2 exX = [xD, xC] := by unfold topH; rw [exX_sort]; rfl
  rw [e1] at hr ⊢
  exact ⟨A', c', rfl, hr, hb⟩
theorem top_ex0 {A : Option Addr} {c : Nat} {w : World} (h : RHs w w.heap.size A exX) : Calls Try.prog 15 #[.int .i64 0, .slice A 4 c] w fun e w' => ∃ A' c', e = .returned (.tuple #[.slice A' 0 c', .int .i64 0]) ∧ Below w.heap.size w w' := by
  refine (top15 0 exX A c w (by decide) h).mono ?_
  rintro e w2 ⟨A', c', rfl, _, hr, hb⟩
  exact ⟨A', c', rfl, hb⟩
theorem top_ex1 {A : Option Addr} {c : Nat} {w : World} (h : RHs w w.heap.size A [xB]) : Calls Try.prog 15 #[.int .i64 (-1), .slice A 1 c] w fun e w' => ∃ A' c', e = .returned (.tuple #[.slice A' 0 c', .int .i64 2]) ∧ Below w.heap.size w w' := by
  refine (top15 (-1) [xB] A c w (by decide) h).mono ?_
  rintro e w2 ⟨A', c', rfl, _, hr, hb⟩
  exact ⟨A', c', rfl, hb⟩
theorem rank_ex {A : Option Addr} {c : Nat} {w : World} (h : RHs w w.heap.size A exX) : Calls Try.prog 17 #[.slice A 4 c, xA.agg] w fun e w' => e = .returned (.int .i64 2) ∧ Below w.heap.size w w' := by
  refine (rank17 exX A c xA w (by decide) h).mono ?_
  rintro e w2 ⟨rfl, hb⟩
  rw [exX_rank]
  exact ⟨rfl, hb⟩
theorem join_ex {A : Option Addr} {c : Nat} {w : World} (h : RLs w w.heap.size A [[xD, xB], [xC, xA]]) : Calls Try.prog 20 #[.int .i64 3, .slice A 2 c] w fun e w' => ∃ A' c', e = .returned (.slice A' 3 c') ∧ RHs w' w'.heap.size A' [xD, xC, xA] ∧ Below w.heap.size w w' := by
  refine (join20 3 [[xD, xB], [xC, xA]] A c w (by decide) (by decide) exL_sorted h).mono ?_
  rintro e w2 ⟨A', c', rfl, _, hr, hb⟩
  rw [exJ] at hr ⊢
  exact ⟨A', c', rfl, hr, hb⟩
theorem same_lit {w2 : World} {A B : Option Addr} {n c d : Nat} (es : List Hit) (h : RHs w2 w2.heap.size A es) (h' : RHs w2 w2.heap.size B es) (hn : n = es.length) (hl : n ≤ 1000000) :
    Calls Try.prog 13 #[.slice A n c, .slice B n d] w2 fun e w' => e = .returned (.bool true) ∧ Below w2.heap.size w2 w' := by
  subst hn
  exact same13 es A _ c _ _ hl h h'
theorem keepL {w0 w1 w2 : World} (hB : Below w0.heap.size w0 w1) (hbk : Below w1.heap.size w1 w2) : Below w0.heap.size w0 w2 := hB.trans (hbk.mono hB.size)
theorem heap_get (w : World) (o : Obj) (k : Nat) : (w.alloc o).heap[k]? = if k = w.heap.size then some o else w.heap[k]? := by
  by_cases h : k = w.heap.size
  · subst h; rw [if_pos rfl]; exact heap_alloc_new w o
  · rw [if_neg h]
    rcases Nat.lt_or_ge k w.heap.size with hlt | hge
    · exact Below.heap_alloc _ _ _ hlt
    · rw [Array.getElem?_eq_none hge, Array.getElem?_eq_none (by rw [World.size_alloc]; omega)]
/-- a literal's block -/
theorem RHs.ofB {W : World} {es : List Hit} {g : Nat} (hh : W.heap[g]? = some (.cells (hcs es).toArray 26 (0, 0))) : RHs W W.heap.size (some ⟨g, 0, none⟩) es := by
  refine ⟨⟨hcs_length es, fun _ => ⟨g, 0, rfl, (Array.getElem?_eq_some_iff.1 hh).1, fun j u hu => ?_⟩⟩, fun _ b off e => ?_⟩
  · rw [cell_of_row _ _ (0 + j) _ 26 (0, 0) hh]; simpa using hu
  · injection e with e; injection e with e; subst e; exact ⟨_, _, _, hh, by decide⟩
theorem RHs.ofLB {W w2 : World} {es : List Hit} {g : Nat} (hb : Below W.heap.size W w2) (hh : W.heap[g]? = some (.cells (hcs es).toArray 26 (0, 0))) : RHs w2 w2.heap.size (some ⟨g, 0, none⟩) es :=
  ((RHs.ofB hh).below hb).any
/-- a row of two literals -/
theorem RLs.ofB {W : World} {l1 l2 : List Hit} {n1 n2 g1 g2 g3 : Nat} (h1 : W.heap[g1]? = some (.cells (hcs l1).toArray 26 (0, 0))) (h2 : W.heap[g2]? = some (.cells (hcs l2).toArray 26 (0, 0)))
    (h3 : W.heap[g3]? = some (.cells #[.slice (some ⟨g1, 0, none⟩) n1 n1, .slice (some ⟨g2, 0, none⟩) n2 n2] 30 (0, 0))) (e1 : n1 = l1.length) (e2 : n2 = l2.length) : RLs W W.heap.size (some ⟨g3, 0, none⟩) [l1, l2] := by
  subst e1; subst e2
  refine fun _ => ⟨g3, 0, rfl, (Array.getElem?_eq_some_iff.1 h3).1, fun i l hi => ?_⟩
  match i, hi with
  | 0, hi => injection hi with hi; subst hi; exact ⟨_, _, cell_of_row _ _ 0 _ 30 (0, 0) h3, Nat.le_refl _, RHs.ofB h1⟩
  | 1, hi => injection hi with hi; subst hi; exact ⟨_, _, cell_of_row _ _ 1 _ 30 (0, 0) h3, Nat.le_refl _, RHs.ofB h2⟩
  | n + 2, hi => simp at hi
/-- a row that was there, and one block laid behind it -/
theorem RHs.upAt {W W1 : World} {A : Option Addr} {es : List Hit} {o : Obj} (h : RHs W W.heap.size A es) (hh : W1.heap = (W.alloc o).heap) : RHs W1 W1.heap.size A es := by
  have := (h.up o).keep (w' := W1) (fun b _ => by rw [hh])
  rwa [← hh] at this
end Go.Proofs.Ytjpgcfcacfhmiaa
