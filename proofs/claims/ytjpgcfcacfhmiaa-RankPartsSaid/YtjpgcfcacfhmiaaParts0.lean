/- Laws for RankParts: where a hit stands among hits that are all unlike; the first ones of parts. -/
import Derived.Test.YtjpgcfcacfhmiaaRTop
namespace Go.Proofs.Ytjpgcfcacfhmiaa
open Go.RowKit
set_option linter.unusedSimpArgs false
set_option linter.unusedVariables false
set_option linter.unnecessarySimpa false
set_option linter.unusedSimpArgs false
set_option linter.unusedVariables false
theorem count_mem {l : List Hit} (hn : l.Nodup) (x : Hit) : (x ∈ l → l.countP (eqH · x) = 1) ∧ (x ∉ l → l.countP (eqH · x) = 0) := by
  induction l with
  | nil => exact ⟨(fun h => absurd h (by simp)), fun _ => rfl⟩
  | cons y l ih =>
    obtain ⟨h1, h2⟩ := List.nodup_cons.1 hn
    obtain ⟨i1, i2⟩ := ih h2
    by_cases e : y = x
    · subst e
      have h0 := i2 h1
      refine ⟨fun _ => ?_, fun h => absurd (by simp) h⟩
      have hcc : (y :: l).countP (eqH · y) = l.countP (eqH · y) + 1 := List.countP_cons_of_pos (p := (eqH · y)) (eqH_iff.2 rfl)
      rw [hcc, h0]
    · have hne : ¬ eqH y x = true := fun h => e (eqH_iff.1 h)
      have hcc : (y :: l).countP (eqH · x) = l.countP (eqH · x) := List.countP_cons_of_neg (p := (eqH · x)) hne
      rw [hcc]
      refine ⟨fun h => i1 ?_, fun h => i2 fun hm => h (by simp [hm])⟩
      rcases List.mem_cons.1 h with h | h
      · exact absurd h.symm e
      · exact h
theorem lt_of_le_ne {a b : Hit} (h : le a b = true) (hne : a ≠ b) : lessH a b = true := by
  cases hc : lessH a b with
  | true => rfl
  | false =>
    have : lessH b a = false := by unfold le at h; simpa using h
    exact absurd (lt_total hc this) hne
theorem pos_count {S : List Hit} (hs : Sorted S) (hn : S.Nodup) {p : Nat} (hp : p < S.length) : S.countP (lessH · S[p]) = p := by
  have e : S = S.take p ++ S[p] :: S.drop (p + 1) := by
    rw [← List.drop_eq_getElem_cons hp]; exact (List.take_append_drop p S).symm
  obtain ⟨x, hx⟩ : ∃ x, S[p] = x := ⟨_, rfl⟩
  rw [hx] at e ⊢
  have hs' : Sorted (S.take p ++ x :: S.drop (p + 1)) := e ▸ hs
  have hn' : (S.take p ++ x :: S.drop (p + 1)).Nodup := e ▸ hn
  obtain ⟨hs1, hs2, hs3⟩ := List.pairwise_append.1 hs'
  obtain ⟨hn1, hn2, hn3⟩ := List.nodup_append.1 hn'
  have h1 : (S.take p).countP (lessH · x) = p := by
    rw [List.countP_eq_length.2 (fun y hy => lt_of_le_ne (hs3 y hy x (by simp)) (fun e => hn3 y hy x (by simp) e)), List.length_take]
    omega
  have h2 : (S.drop (p + 1)).countP (lessH · x) = 0 := by
    refine List.countP_eq_zero.2 fun y hy => ?_
    have := (List.pairwise_cons.1 hs2).1 y hy
    unfold le at this
    simpa using this
  conv => lhs; rw [e]
  rw [List.countP_append, List.countP_cons_of_neg (by rw [lt_irrefl]; decide), h1, h2]; rfl
theorem rank_top {own : List Hit} (hn : own.Nodup) {x : Hit} (hx : x ∈ own) (n : Nat) : (own.countP (lessH · x) < n) ↔ ((topH (n : Int) own).countP (eqH · x) = 1) := by
  have hpm := sortH_perm own
  have hnS : (sortH own).Nodup := hpm.nodup_iff.2 hn
  have hxS : x ∈ sortH own := hpm.mem_iff.2 hx
  obtain ⟨p, hp, rfl⟩ := List.mem_iff_getElem.1 hxS
  rw [← hpm.countP_eq, pos_count (sorted_sortH own) hnS hp]
  unfold topH
  rw [Int.toNat_natCast]
  have hnT : ((sortH own).take n).Nodup := hnS.sublist (List.take_sublist _ _)
  obtain ⟨c1, c2⟩ := count_mem hnT (sortH own)[p]
  constructor
  · intro h
    exact c1 (List.mem_iff_getElem.2 ⟨p, by simp; omega, by simp⟩)
  · intro h
    rcases Nat.lt_or_ge p n with hlt | hge
    · exact hlt
    · have : (sortH own)[p] ∉ (sortH own).take n := fun hm => by
        obtain ⟨q, hq, e⟩ := List.mem_iff_getElem.1 hm
        rw [List.length_take] at hq
        rw [List.getElem_take] at e
        have := (List.nodup_iff_pairwise_ne.1 hnS)
        have hqp : q < p := by omega
        exact (List.pairwise_iff_getElem.1 this) q p (by omega) hp hqp e
      rw [c2 this] at h
      cases h
theorem top_congr {a b : List Hit} (n : Int) (h : a.Perm b) : topH n a = topH n b := by unfold topH; rw [sortH_congr h]
/-- the first ones of three parts' first ones are the first ones of all -/
theorem top_parts (n : Nat) (a b c : List Hit) : topH (n : Int) (topH n a ++ topH n b ++ topH n c) = topH n (a ++ b ++ c) := by
  unfold topH
  rw [Int.toNat_natCast]
  have h1 := take_part n ((sortH a).take n ++ (sortH b).take n) c
  rw [h1]
  have p1 : (((sortH a).take n ++ (sortH b).take n) ++ c).Perm ((c ++ (sortH a).take n) ++ (sortH b).take n) := by
    rw [List.append_assoc, List.append_assoc]
    exact (List.perm_append_comm (l₁ := (sortH a).take n) (l₂ := (sortH b).take n ++ c)).trans ((List.perm_append_comm (l₁ := (sortH b).take n) (l₂ := c)).append_right _ |>.trans (by rw [List.append_assoc]; exact List.Perm.append_left c List.perm_append_comm))
  rw [sortH_congr p1, take_part n (c ++ (sortH a).take n) b]
  have p2 : ((c ++ (sortH a).take n) ++ b).Perm ((c ++ b) ++ (sortH a).take n) := by
    rw [List.append_assoc, List.append_assoc]
    exact List.Perm.append_left c List.perm_append_comm
  rw [sortH_congr p2, take_part n (c ++ b) a]
  have p3 : ((c ++ b) ++ a).Perm (a ++ b ++ c) := by
    refine List.perm_append_comm.trans ?_
    rw [List.append_assoc]
    exact List.Perm.append_left a List.perm_append_comm
  rw [sortH_congr p3]
end Go.Proofs.Ytjpgcfcacfhmiaa
