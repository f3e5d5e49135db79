/- Plain laws: lists of hits in order; the first ones of all are the first ones of parts. -/
import Derived.Test.YtjpgcfcacfhmiaaSort
namespace Go.Proofs.Ytjpgcfcacfhmiaa
open Go.RowKit
set_option linter.unusedSimpArgs false
set_option linter.unusedVariables false
set_option linter.unnecessarySimpa false
/-- x may stand ahead of y -/
def le (x y : Hit) : Bool := !lessH y x
theorem le_trans' {a b c : Hit} (h : le a b = true) (k : le b c = true) : le a c = true := by
  unfold le at *
  simp only [Bool.not_eq_true'] at *
  exact lt_ntrans k h
theorem le_total' (a b : Hit) : (le a b || le b a) = true := by
  unfold le
  cases h : lessH b a with
  | false => rfl
  | true =>
    cases k : lessH a b with
    | false => rfl
    | true => have := lt_trans h k; rw [lt_irrefl] at this; cases this
theorem le_anti {a b : Hit} (h : le a b = true) (k : le b a = true) : a = b := by
  unfold le at *
  simp only [Bool.not_eq_true'] at *
  exact lt_total k h
theorem le_refl' (a : Hit) : le a a = true := by unfold le; rw [lt_irrefl]; rfl
theorem le_of_lt {a b : Hit} (h : lessH a b = true) : le a b = true := by
  unfold le
  cases k : lessH b a with
  | false => rfl
  | true => have := lt_trans h k; rw [lt_irrefl] at this; cases this
def Sorted (l : List Hit) : Prop := l.Pairwise fun x y => le x y = true
theorem sortH_eq (l : List Hit) : sortH l = l.mergeSort le := rfl
theorem sorted_sortH (l : List Hit) : Sorted (sortH l) := by
  rw [sortH_eq]
  exact List.pairwise_mergeSort (le := le) (fun _ _ _ => le_trans') le_total' l
/-- two lists in order with the same hits are one -/
theorem sorted_ext {a b : List Hit} (ha : Sorted a) (hb : Sorted b) (h : a.Perm b) : a = b := by
  induction a generalizing b with
  | nil => exact (List.Perm.nil_eq h)
  | cons x a ih =>
    cases b with
    | nil => exact absurd h.symm (by simp)
    | cons y b =>
      have hxy : x = y := by
        have h1 : x ∈ y :: b := h.subset (List.mem_cons_self ..)
        have h2 : y ∈ x :: a := h.symm.subset (List.mem_cons_self ..)
        rcases List.mem_cons.1 h1 with e | h1
        · exact e
        · rcases List.mem_cons.1 h2 with e | h2
          · exact e.symm
          · exact le_anti (List.rel_of_pairwise_cons ha h2) (List.rel_of_pairwise_cons hb h1)
      subst hxy
      congr 1
      exact ih (List.Pairwise.of_cons ha) (List.Pairwise.of_cons hb) ((List.perm_cons x).1 h)
theorem sortH_congr {a b : List Hit} (h : a.Perm b) : sortH a = sortH b :=
  sorted_ext (sorted_sortH a) (sorted_sortH b) ((sortH_perm a).trans (h.trans (sortH_perm b).symm))
theorem sortH_self {a : List Hit} (h : Sorted a) : sortH a = a := sorted_ext (sorted_sortH a) h (sortH_perm a)
/-- one hit put into a list in order, behind those that may stand ahead of it -/
def insH (x : Hit) (l : List Hit) : List Hit := l.takeWhile (le · x) ++ x :: l.dropWhile (le · x)
theorem insH_perm (x : Hit) (l : List Hit) : (insH x l).Perm (x :: l) := by
  unfold insH
  refine (List.perm_middle).trans ?_
  rw [List.takeWhile_append_dropWhile]
theorem dropWhile_lt {x : Hit} {l : List Hit} (hs : Sorted l) : ∀ y ∈ l.dropWhile (le · x), le x y = true := by
  induction l with
  | nil => intro y hy; cases hy
  | cons z l ih =>
    intro y hy
    rw [List.dropWhile_cons] at hy
    split at hy
    · exact ih (List.Pairwise.of_cons hs) y hy
    · rename_i hz
      have hxz : le x z = true := by
        have := le_total' x z
        cases h : le x z with
        | true => rfl
        | false => rw [h] at this; simp at this; exact absurd this hz
      rcases List.mem_cons.1 hy with rfl | hy
      · exact hxz
      · exact le_trans' hxz (List.rel_of_pairwise_cons hs hy)
theorem takeWhile_le {x : Hit} {l : List Hit} : ∀ y ∈ l.takeWhile (le · x), le y x = true := by
  intro y hy
  have := List.all_takeWhile (p := fun y => le y x) (l := l)
  exact (List.all_eq_true.1 this) y hy
theorem insH_sorted {x : Hit} {l : List Hit} (hs : Sorted l) : Sorted (insH x l) := by
  unfold insH Sorted
  rw [List.pairwise_append, List.pairwise_cons]
  refine ⟨hs.sublist (List.takeWhile_sublist _), ⟨fun y hy => dropWhile_lt hs y hy, hs.sublist (List.dropWhile_sublist _)⟩, fun a ha b hb => ?_⟩
  have h1 := takeWhile_le a ha
  rcases List.mem_cons.1 hb with rfl | hb
  · exact h1
  · exact le_trans' h1 (dropWhile_lt hs b hb)
theorem sortH_cons (x : Hit) (l : List Hit) : sortH (x :: l) = insH x (sortH l) :=
  sorted_ext (sorted_sortH _) (insH_sorted (sorted_sortH l)) ((sortH_perm _).trans (((List.perm_cons x).2 (sortH_perm l).symm).trans (insH_perm x _).symm))
theorem sortH_snoc (l : List Hit) (x : Hit) : sortH (l ++ [x]) = insH x (sortH l) := by
  rw [← sortH_cons]
  exact sortH_congr (List.perm_append_singleton x l)
theorem dropWhile_not {x : Hit} {l : List Hit} (hs : Sorted l) : ∀ y ∈ l.dropWhile (le · x), le y x = false := by
  induction l with
  | nil => intro y hy; cases hy
  | cons z l ih =>
    intro y hy
    rw [List.dropWhile_cons] at hy
    split at hy
    · exact ih (List.Pairwise.of_cons hs) y hy
    · rename_i hz
      have hz' : le z x = false := by simpa using hz
      rcases List.mem_cons.1 hy with rfl | hy
      · exact hz'
      · cases hyx : le y x with
        | false => rfl
        | true => rw [le_trans' (List.rel_of_pairwise_cons hs hy) hyx] at hz'; cases hz'
theorem count_le {x : Hit} {l : List Hit} (hs : Sorted l) : l.countP (le · x) = (l.takeWhile (le · x)).length := by
  have h1 : l.countP (le · x) = (l.takeWhile (le · x)).countP (le · x) + (l.dropWhile (le · x)).countP (le · x) := by
    rw [← List.countP_append, List.takeWhile_append_dropWhile]
  have h2 : (l.takeWhile (le · x)).countP (le · x) = (l.takeWhile (le · x)).length := List.countP_eq_length.2 fun y hy => takeWhile_le y hy
  have h3 : (l.dropWhile (le · x)).countP (le · x) = 0 := List.countP_eq_zero.2 fun y hy => by
    have := dropWhile_not hs y hy
    simpa using this
  omega
/-- what has n ones that may stand ahead of it changes nothing of the first n -/
theorem take_ins {n : Nat} {x : Hit} {l : List Hit} (hs : Sorted l) (h : n ≤ l.countP (le · x)) : (insH x l).take n = l.take n := by
  rw [count_le hs] at h
  unfold insH
  rw [List.take_append_of_le_length h]
  conv => rhs; rw [← List.takeWhile_append_dropWhile (p := (le · x)) (l := l)]
  rw [List.take_append_of_le_length h]
/-- the first n of all are the first n of some and of the first n of the others -/
theorem take_part (n : Nat) (a b : List Hit) : (sortH (a ++ (sortH b).take n)).take n = (sortH (a ++ b)).take n := by
  have h0 : sortH (a ++ b) = sortH ((a ++ (sortH b).take n) ++ (sortH b).drop n) := by
    refine sortH_congr ?_
    rw [List.append_assoc, List.take_append_drop]
    exact List.Perm.append_left a (sortH_perm b).symm
  rw [h0]
  have hmem : ∀ d ∈ (sortH b).drop n, n ≤ ((sortH b).take n).countP (le · d) := fun d hd => by
    have hlen : n < (sortH b).length := by
      rcases Nat.lt_or_ge n (sortH b).length with h | h
      · exact h
      · rw [List.drop_eq_nil_of_le h] at hd; cases hd
    have hs := sorted_sortH b
    rw [← List.take_append_drop n (sortH b)] at hs
    have h2 := (List.pairwise_append.1 hs).2.2
    have h1 : ((sortH b).take n).countP (le · d) = ((sortH b).take n).length := List.countP_eq_length.2 fun y hy => h2 y hy d hd
    rw [h1, List.length_take]; omega
  generalize (sortH b).take n = T at *
  have key : ∀ (D c : List Hit), (∀ d ∈ D, n ≤ T.countP (le · d)) → T.Sublist c → (sortH (c ++ D)).take n = (sortH c).take n := fun D => by
    induction D with
    | nil => intro c _ _; rw [List.append_nil]
    | cons d D ih =>
      intro c hD hc
      have e : sortH (c ++ d :: D) = sortH ((c ++ [d]) ++ D) := by rw [List.append_assoc]; rfl
      rw [e, ih (c ++ [d]) (fun x hx => hD x (List.mem_cons_of_mem _ hx)) (hc.trans (List.sublist_append_left _ _)), sortH_snoc]
      refine take_ins (sorted_sortH c) ?_
      have h1 := hD d (List.mem_cons_self ..)
      have h2 := List.Sublist.countP_le (p := (le · d)) hc
      have h3 := (sortH_perm c).countP_eq (le · d)
      omega
  exact (key _ _ hmem (List.sublist_append_right a T)).symm
end Go.Proofs.Ytjpgcfcacfhmiaa
