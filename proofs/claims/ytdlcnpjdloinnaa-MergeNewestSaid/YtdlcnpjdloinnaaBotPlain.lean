/- Plain laws for the parts of lists that are told together. -/
import Derived.Test.YtdlcnpjdloinnaaRow
namespace Go.Proofs.Ytdlcnpjdloinnaa
open Go.RowKit
theorem or_filter {o q : Option Ent} (p : Ent → Bool) : (o.or ((q.filter p).or none)).filter p = (o.or q).filter p := by
  cases o with
  | some x => rfl
  | none =>
    cases q with
    | none => rfl
    | some y => by_cases h : p y = true <;> simp [Option.filter, h]
theorem fst_nil (k : List UInt8) : fst [] k = none := rfl
theorem rises_mem_append {a b : List (List Ent)} (ha : ∀ l ∈ a, Rises l) (hb : ∀ l ∈ b, Rises l) : ∀ l ∈ a ++ b, Rises l := fun l hl => (List.mem_append.1 hl).elim (ha l) (hb l)
theorem rises_take {L : List (List Ent)} (h : ∀ l ∈ L, Rises l) (n : Nat) : ∀ l ∈ L.take n, Rises l := fun l hl => h l (List.mem_of_mem_take hl)
theorem rises_drop {L : List (List Ent)} (h : ∀ l ∈ L, Rises l) (n : Nat) : ∀ l ∈ L.drop n, Rises l := fun l hl => h l (List.mem_of_mem_drop hl)
theorem rises_sing {l : List Ent} (h : Rises l) : ∀ x ∈ [l], Rises x := fun x hx => by simp at hx; subst hx; exact h
theorem bottom_parts {L : List (List Ent)} (hs : ∀ l ∈ L, Rises l) (n : Nat) : liveE (togE (L.take n ++ [liveE (togE (L.drop n))])) = liveE (togE L) := by
  have h1 := rises_take hs n
  have h2 := rises_drop hs n
  have h3 := rises_live (rises_tog h2)
  have h4 := rises_mem_append h1 (rises_sing h3)
  refine rises_ext (rises_live (rises_tog h4)) (rises_live (rises_tog hs)) fun k => ?_
  rw [findE_live (rises_tog h4), findE_live (rises_tog hs), findE_tog h4, findE_tog hs, fst_append, fst_cons, findE_live (rises_tog h2), findE_tog h2, fst_nil, or_filter, ← fst_append, List.take_append_drop]
theorem fst_sing {l : List Ent} (k : List UInt8) : fst [l] k = findE l k := by rw [fst_cons, fst_nil]; cases findE l k <;> rfl
theorem parts_same {L : List (List Ent)} (hs : ∀ l ∈ L, Rises l) {a b : Nat} (hab : a ≤ b) : togE ((L.take a ++ [togE ((L.take b).drop a)]) ++ L.drop b) = togE L := by
  have h0 := rises_drop (rises_take hs b) a
  refine tog_ext (rises_mem_append (rises_mem_append (rises_take hs a) (rises_sing (rises_tog h0))) (rises_drop hs b)) hs fun k => ?_
  rw [fst_append, fst_append, fst_sing, findE_tog h0, ← fst_append, ← fst_append]
  congr 1
  have e : L.take a = (L.take b).take a := by rw [List.take_take, Nat.min_eq_left hab]
  rw [e, List.take_append_drop, List.take_append_drop]
theorem twice_same {L : List (List Ent)} (hs : ∀ l ∈ L, Rises l) (b : Nat) : togE (L ++ L.take b) = togE L := by
  refine tog_ext (rises_mem_append hs (rises_take hs b)) hs fun k => ?_
  rw [fst_append]
  have e : fst L k = (fst (L.take b) k).or (fst (L.drop b) k) := by rw [← fst_append, List.take_append_drop]
  rw [e]
  cases fst (L.take b) k <;> cases fst (L.drop b) k <;> rfl
theorem empty_same {L : List (List Ent)} (hs : ∀ l ∈ L, Rises l) : togE ([] :: L) = togE L :=
  tog_ext (fun l hl => (List.mem_cons.1 hl).elim (fun h => h ▸ List.Pairwise.nil) (hs l)) hs fun k => by rw [fst_cons]; rfl
theorem whole_same {l : List Ent} (hs : Rises l) : togE [l] = l := tog_eq (rises_sing hs) hs fun k => fst_sing k
theorem live_at {m : List Ent} {j : Nat} (hj : j < m.length) (h : (m[j]).gone = false) : ∃ hk : (liveE (m.take j)).length < (liveE m).length, (liveE m)[(liveE (m.take j)).length] = m[j] := by
  have e : liveE m = liveE (m.take j) ++ (m[j] :: liveE (m.drop (j + 1))) := by
    have e1 : m = m.take j ++ (m[j] :: m.drop (j + 1)) := by rw [← List.drop_eq_getElem_cons hj, List.take_append_drop]
    have e2 : liveE m = liveE (m.take j ++ (m[j] :: m.drop (j + 1))) := congrArg liveE e1
    rw [e2]
    unfold liveE
    rw [List.filter_append, List.filter_cons_of_pos (by rw [h]; rfl)]
  have hk : (liveE (m.take j)).length < (liveE m).length := by rw [e]; simp
  refine ⟨hk, ?_⟩
  have := List.getElem_of_eq e hk
  rw [this, List.getElem_append_right (Nat.le_refl _)]
  simp
theorem live_take {m : List Ent} {j : Nat} (hj : j < m.length) : (liveE (m.take (j + 1))).length = (liveE (m.take j)).length + (if (m[j]).gone = false then 1 else 0) := by
  rw [List.take_succ_eq_append_getElem hj]
  unfold liveE
  rw [List.filter_append, List.length_append]
  by_cases h : (m[j]).gone = false
  · rw [if_pos h, List.filter_cons_of_pos (by rw [h]; rfl)]; rfl
  · rw [if_neg h, List.filter_cons_of_neg (by simpa using h)]; rfl
theorem live_len (m : List Ent) (j : Nat) : (liveE (m.take j)).length ≤ j := Nat.le_trans (List.length_filter_le _ _) (by simp; omega)
theorem listsOf_rises (D : List (List Dra)) : ∀ l ∈ listsOf D, Rises l := by
  intro l hl
  obtain ⟨ds, _, rfl⟩ := List.mem_map.1 hl
  exact rises_list ds
theorem listsOf_len (D : List (List Dra)) : ∀ l ∈ listsOf D, l.length ≤ 20 := by
  intro l hl
  obtain ⟨ds, _, rfl⟩ := List.mem_map.1 hl
  exact length_list ds
theorem listsOf_six (D : List (List Dra)) : (listsOf D).length ≤ 6 := by simp [listsOf]; omega
theorem total_le {L : List (List Ent)} {n : Nat} (h : ∀ l ∈ L, l.length ≤ n) : total L ≤ L.length * n := by
  induction L with
  | nil => simp [total]
  | cons l L ih =>
    have h1 := h l (List.mem_cons_self ..)
    have h2 := ih fun x hx => h x (List.mem_cons_of_mem _ hx)
    simp only [total, List.map_cons, List.sum_cons, List.length_cons, Nat.succ_mul] at h2 ⊢
    omega
theorem total_lists (D : List (List Dra)) : total (listsOf D) ≤ 120 := by
  have h1 := total_le (listsOf_len D)
  have h2 := listsOf_six D
  omega
theorem RDLs.below {w w' : World} {B : Nat} {A : Option Addr} {D : List (List Dra)} (h : RDLs w B A D) (hb : Below B w w') : RDLs w' B A D := by
  intro h0
  obtain ⟨b, off, e, hlt, hc⟩ := h h0
  refine ⟨b, off, e, hlt, fun i ds hi => ?_⟩
  obtain ⟨Ai, ci, h1, h2, h3⟩ := hc i ds hi
  exact ⟨Ai, ci, ((bcell hb).1 _ _ hlt).trans h1, h2.below hb, h3⟩
theorem RDLs.more {w : World} {B B' : Nat} {A : Option Addr} {D : List (List Dra)} (h : RDLs w B A D) (hB : B ≤ B') : RDLs w B' A D := by
  intro h0
  obtain ⟨b, off, e, hlt, hc⟩ := h h0
  refine ⟨b, off, e, by omega, fun i ds hi => ?_⟩
  obtain ⟨Ai, ci, h1, h2, h3⟩ := hc i ds hi
  exact ⟨Ai, ci, h1, h2.more hB, h3⟩
end Go.Proofs.Ytdlcnpjdloinnaa
