/- Plain law: what is left of ranked lists, and the first of it. -/
import Derived.Test.YtjpgcfcacfhmiaaJoin1
namespace Go.Proofs.Ytjpgcfcacfhmiaa
open Go.RowKit
set_option linter.unusedSimpArgs false
set_option linter.unusedVariables false
set_option linter.unnecessarySimpa false
def rests : List (List Hit) → List Nat → List Hit
  | l :: L, p :: ps => l.drop p ++ rests L ps
  | _, _ => []
theorem rests_zero (L : List (List Hit)) : rests L (List.replicate L.length 0) = L.flatten := by
  induction L with
  | nil => rfl
  | cons l L ih => simp only [List.length_cons, List.replicate_succ, rests, List.drop_zero, ih, List.flatten_cons]
theorem hd_cons_zero (l : List Hit) (L : List (List Hit)) (p : Nat) (ps : List Nat) : hd (l :: L) (p :: ps) 0 = l[p]? := rfl
theorem hd_cons_succ (l : List Hit) (L : List (List Hit)) (p : Nat) (ps : List Nat) (k : Nat) : hd (l :: L) (p :: ps) (k + 1) = hd L ps k := rfl
theorem drop_hd {l : List Hit} {p : Nat} {x : Hit} (h : l[p]? = some x) : l.drop p = x :: l.drop (p + 1) := by
  obtain ⟨hp, he⟩ := List.getElem?_eq_some_iff.1 h
  rw [← he]
  exact List.drop_eq_getElem_cons hp
theorem rests_step {L : List (List Hit)} {ps : List Nat} {n : Nat} {x : Hit} (hl : ps.length = L.length) (hn : n < L.length) (h : hd L ps n = some x) : (rests L ps).Perm (x :: rests L (ps.set n (ps.getD n 0 + 1))) := by
  induction L generalizing ps n with
  | nil => simp at hn
  | cons l L ih =>
    cases ps with
    | nil => simp at hl
    | cons p ps =>
      cases n with
      | zero =>
        rw [hd_cons_zero] at h
        simp only [List.set_cons_zero, rests, List.getD_cons_zero]
        rw [drop_hd h]
        exact List.Perm.refl _
      | succ n =>
        rw [hd_cons_succ] at h
        simp only [List.set_cons_succ, rests, List.getD_cons_succ]
        have := ih (by simpa using hl) (by simpa using hn) h
        exact (List.Perm.append_left _ this).trans List.perm_middle
theorem mem_rests {L : List (List Hit)} {ps : List Nat} {y : Hit} (h : y ∈ rests L ps) : ∃ k, k < L.length ∧ y ∈ (L.getD k []).drop (ps.getD k 0) := by
  induction L generalizing ps with
  | nil => simp [rests] at h
  | cons l L ih =>
    cases ps with
    | nil => simp [rests] at h
    | cons p ps =>
      simp only [rests, List.mem_append] at h
      rcases h with h | h
      · exact ⟨0, by simp, h⟩
      · obtain ⟨k, hk, hy⟩ := ih h
        exact ⟨k + 1, by simpa using hk, hy⟩
theorem rests_none {L : List (List Hit)} {ps : List Nat} (h : ∀ k, k < L.length → hd L ps k = none) : rests L ps = [] := by
  cases hr : rests L ps with
  | nil => rfl
  | cons y t =>
    obtain ⟨k, hk, hy⟩ := mem_rests (y := y) (L := L) (ps := ps) (by rw [hr]; simp)
    have := List.getElem?_eq_none_iff.1 (h k hk)
    rw [List.drop_of_length_le this] at hy
    cases hy
theorem best_le {L : List (List Hit)} {ps : List Nat} {x : Hit} (hs : ∀ l ∈ L, Sorted l) (h : ∀ k y, k < L.length → hd L ps k = some y → lessH y x = false) {y : Hit} (hy : y ∈ rests L ps) : le x y = true := by
  obtain ⟨k, hk, hm⟩ := mem_rests hy
  have hsk : Sorted (L.getD k []) := by
    have e : L.getD k [] = L[k] := by simp [hk]
    rw [e]
    exact hs _ (List.getElem_mem hk)
  have hsd : Sorted ((L.getD k []).drop (ps.getD k 0)) := hsk.sublist (List.drop_sublist _ _)
  cases hz : hd L ps k with
  | none =>
    have := List.getElem?_eq_none_iff.1 hz
    rw [List.drop_of_length_le this] at hm
    cases hm
  | some z =>
    rw [drop_hd hz] at hsd hm
    have h1 : le x z = true := by unfold le; rw [h k z hk hz]; rfl
    rcases List.mem_cons.1 hm with e | hm
    · rw [e]; exact h1
    · exact le_trans' h1 ((List.pairwise_cons.1 hsd).1 y hm)
theorem join_step {L : List (List Hit)} {ps : List Nat} {n : Nat} {x : Hit} {J all : List Hit} (hs : ∀ l ∈ L, Sorted l) (hl : ps.length = L.length) (hn : n < L.length) (hx : hd L ps n = some x) (h : ∀ k y, k < L.length → hd L ps k = some y → lessH y x = false)
    (hJ : J ++ sortH (rests L ps) = all) : (J ++ [x]) ++ sortH (rests L (ps.set n (ps.getD n 0 + 1))) = all := by
  have hp := rests_step hl hn hx
  have e : sortH (rests L ps) = x :: sortH (rests L (ps.set n (ps.getD n 0 + 1))) := by
    refine sorted_ext (sorted_sortH _) ?_ ((sortH_perm _).trans (hp.trans (List.Perm.cons x (sortH_perm _).symm)))
    refine List.pairwise_cons.2 ⟨fun y hy => best_le hs h ?_, sorted_sortH _⟩
    exact hp.symm.subset (List.mem_cons_of_mem _ ((sortH_perm _).subset hy))
  rw [← hJ, e]
  simp
theorem join_end {n : Int} {L : List (List Hit)} {ps : List Nat} {J : List Hit} (hJ : J ++ sortH (rests L ps) = sortH L.flatten) (h : J.length ≤ n.toNat) (he : ¬ (J.length : Int) < n ∨ ∀ k, k < L.length → hd L ps k = none) : J = topH n L.flatten := by
  unfold topH
  rcases he with he | he
  · rw [← hJ, List.take_left' (by omega)]
  · rw [rests_none he, show sortH [] = [] by simp [sortH], List.append_nil] at hJ
    rw [← hJ, List.take_of_length_le h]
theorem join_len {L : List (List Hit)} {ps : List Nat} {J : List Hit} (hJ : J ++ sortH (rests L ps) = sortH L.flatten) : J.length ≤ L.flatten.length := by
  have := congrArg List.length hJ
  rw [sortH_length, List.length_append] at this
  omega
end Go.Proofs.Ytjpgcfcacfhmiaa
