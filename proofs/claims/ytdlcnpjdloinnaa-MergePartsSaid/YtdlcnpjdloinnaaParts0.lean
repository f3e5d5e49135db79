/- What the walk of MergeParts leans on: rows of lists that are put together anew. -/
import Derived.Test.YtdlcnpjdloinnaaBot
namespace Go.Proofs.Ytdlcnpjdloinnaa
open Go.RowKit
theorem lists_big (L : List (List Ent)) (A : Option Addr) (c : Nat) (w : World) (es : List Ent) (hb : Hid (Big L)) {N : Nat} (hN : L.length = N) (he : togE L = es) (hL : RLs w w.heap.size A L) :
    Calls Try.prog 11 #[.slice A N c] w (RetEs w es) := by
  subst hN
  subst he
  exact lists_any A c L w hb.1 hb.2.1 (by have := hb.2.2; omega) hL
theorem big_mid {Y Z X : List (List Ent)} (h1 : Y.length ≤ 6) (h2 : ∀ l ∈ Y, l.length ≤ 20) (h3 : total Z ≤ 120) (h4 : X.length ≤ 6) (h5 : ∀ l ∈ X, l.length ≤ 20) : Hid (Big ((Y ++ [togE Z]) ++ X)) := by
  have h6 : (togE Z).length ≤ 120 := Nat.le_trans (togE_length Z) h3
  have h7 := total_le h2
  have h8 := total_le h5
  refine ⟨by simp; omega, fun l hl => ?_, ?_⟩
  · rcases List.mem_append.1 hl with h | h
    · rcases List.mem_append.1 h with h | h
      · have := h2 l h; omega
      · simp at h; subst h; omega
    · have := h5 l h; omega
  · rw [total_append, total_append]
    have : total [togE Z] = (togE Z).length := by simp [total]
    omega
theorem big_two {Y X : List (List Ent)} (h1 : Y.length ≤ 7) (h2 : ∀ l ∈ Y, l.length ≤ 20) (h4 : X.length ≤ 7) (h5 : ∀ l ∈ X, l.length ≤ 20) : Hid (Big (Y ++ X)) := by
  have h7 := total_le h2
  have h8 := total_le h5
  refine ⟨by simp; omega, fun l hl => ?_, ?_⟩
  · rcases List.mem_append.1 hl with h | h
    · have := h2 l h; omega
    · have := h5 l h; omega
  · rw [total_append]; omega
theorem big_one {Y : List (List Ent)} (h1 : Y.length ≤ 7) (h2 : ∀ l ∈ Y, l.length ≤ 20) : Hid (Big Y) := by
  have h7 := total_le h2
  exact ⟨by omega, fun l hl => by have := h2 l hl; omega, by omega⟩
theorem big_whole {l : List Ent} (h : l.length ≤ 120) : Hid (Big [l]) := by
  refine ⟨by simp, fun x hx => by simp at hx; subst hx; omega, by simp [total]; omega⟩
theorem RLs.grown {w w' : World} {A : Option Addr} {L : List (List Ent)} {base n : Nat} {v : Value} {xs : List Value} (h : RLs w w.heap.size A L) (hown : w.ownsRow base 26 1 v n xs) (hg : w.grownBy w' v.ownBlock)
    (hne : ∀ b off, A = some ⟨b, off, none⟩ → some b ≠ v.ownBlock) : RLs w' w'.heap.size A L := by
  intro h0
  obtain ⟨b, off, e, hlt, hr⟩ := h h0
  refine ⟨b, off, e, Nat.lt_of_lt_of_le hlt hg.size, fun i l hi => ?_⟩
  obtain ⟨Ai, ci, h1, h2, h3⟩ := hr i l hi
  exact ⟨Ai, ci, (hg.cell_far ⟨b, off + i, none⟩ hlt (hne b off e)).trans h1, h2, h3.grown hown hg (by decide)⟩
theorem OLs.one_nil (W : World) (B : Nat) (hB : B ≤ W.heap.size) : OLs (W.alloc (.cells #[.slice none 0 0] 26)) B (.slice (some ⟨W.heap.size, 0, none⟩) 1 1) [[]] :=
  ⟨[.slice none 0 0], ⟨rfl, .inr ⟨W.heap.size, 1, #[.slice none 0 0], rfl, hB, heap_alloc_new W _, Nat.le_refl _, by decide, rfl, rfl⟩⟩, fun i l h => by
    match i, h with
    | 0, h => injection h with h; subst h; exact ⟨none, 0, rfl, Nat.le_refl _, REs.nil_⟩
    | i + 1, h => simp at h⟩
theorem one_after {W : World} {o : Obj} {A : Option Addr} {l : List Ent} {n c : Nat} (hn : n = l.length) (hc : n ≤ c) (h : REs W W.heap.size A l) :
    RLs ((W.alloc o).alloc (.cells #[.slice A n c] 26)).drew ((W.alloc o).alloc (.cells #[.slice A n c] 26)).drew.heap.size (some ⟨W.heap.size + 1, 0, none⟩) [l] := by
  have h1 := RLs.one (W.alloc o) hn hc (h.up o)
  have e : (W.alloc o).heap.size = W.heap.size + 1 := by simp
  rw [← e]
  exact (h1.below (Below.refl _ _).drew).more (by simp)
theorem one_before {W : World} {o : Obj} {A : Option Addr} {l : List Ent} {n c : Nat} (hn : n = l.length) (hc : n ≤ c) (h : REs W W.heap.size A l) :
    RLs ((W.alloc (.cells #[.slice A n c] 26)).alloc o).drew ((W.alloc (.cells #[.slice A n c] 26)).alloc o).drew.heap.size (some ⟨W.heap.size, 0, none⟩) [l] := by
  have h1 := RLs.one W hn hc h
  exact ((h1.below ((Below.refl _ _).alloc (Nat.le_refl _) o)).below ((Below.refl _ _).drew)).more (by simp)
theorem fresh_after {W : World} {o : Obj} : OLs ((W.alloc o).alloc (.cells #[] 26)).drew W.heap.size (.slice (some ⟨W.heap.size + 1, 0, none⟩) 0 0) [] := by
  have h1 := (OLs.fresh (W.alloc o) W.heap.size (by simp)).below (Below.refl _ _).drew
  have e : (W.alloc o).heap.size = W.heap.size + 1 := by simp
  rw [← e]
  exact h1
theorem apart {i j : Nat} (h : i ≠ j) : ∀ b off, (some (⟨i, 0, none⟩ : Addr)) = some ⟨b, off, none⟩ → some b ≠ (Value.slice (some ⟨j, 0, none⟩) 0 0).ownBlock := by
  intro b off e
  injection e with e
  injection e with e _
  subst e
  intro k
  simp [Value.ownBlock] at k
  exact h k
/-- at a step of a drawn region: the row turns, another row of lists beside it reads as it did -/
theorem step_append_beside {w : World} {ops : Array Oper} {o : Oper} {a : Act} {K : Act → World → Prop} {Q : Exit → Act → World → Prop} {E : Prop} (hgd : o.guard = none) (s x : Operand)
    (ho : o.op = .call { callee := .builtin .append, args := #[s, x], argTypes := #[24, 24] }) (B : Nat) (v : Value) (L1 L2 : List (List Ent)) (hs : a.eval s = v) (hown : OLs w B v L1) (A : Option Addr) (m c : Nat)
    (hx : a.eval x = .slice A m c) (hm : m = L2.length) (hR : RLs w w.heap.size A L2) (hl : L1.length + L2.length ≤ 1000000) (hB : B ≤ w.heap.size)
    (A' : Option Addr) (L' : List (List Ent)) (hR' : RLs w w.heap.size A' L') (hne : ∀ b off, A' = some ⟨b, off, none⟩ → some b ≠ v.ownBlock)
    (h : ∀ v' w', OLs w' B v' (L1 ++ L2) → Below B w w' → RLs w' w'.heap.size A' L' → K (a.put o.dst v') w') : if Region.wanted o (yielded ops a.tmps) = true then Oper.wp Try.prog o a w K Q else E := by
  have hw : Region.wanted o (yielded ops a.tmps) = true := by simp [Region.wanted, hgd]
  rw [if_pos hw]
  subst hm
  obtain ⟨i0, hi, hz0, hz1, hz2⟩ := info_parts info26
  obtain ⟨cells, h1, h2⟩ := hown
  obtain ⟨v', w', hr, h3, h4⟩ := run_append_reads (P := Try.prog) (w := w) B 24 o.type 26 i0 _ 1 24 Try.underlying24 hi hz0 hz1 hz2 rfl (by decide) v L1.length cells h1 w.heap.size A L2.length c _ hR.reads (cellsOf_one hR)
    (by unfold maxLen; omega) (by omega) hB
  have hcl : cells.length = L1.length := by have := h1.1; omega
  unfold Oper.wp execOp
  simp only [ho, resolve, invoke, builtin, Sem.run_bind, Sem.run_pure, Result.andThen_ok, List.map_toArray, List.map_cons, List.map_nil, hs, hx, hr]
  refine h v' w' ⟨_, by rw [List.length_append]; exact h3, fun i l hi' => ?_⟩ ((Below.refl _ _).grown h4 hB (fun k hk => (h1.lt k hk).1)) (hR'.grown h1 h4 hne)
  by_cases hlt : i < L1.length
  · rw [List.getElem?_append_left hlt] at hi'
    obtain ⟨A', c', k1, k2, k3⟩ := h2 i l hi'
    exact ⟨A', c', by rw [List.getElem?_append_left (by omega)]; exact k1, k2, k3.grown h1 h4 (by decide)⟩
  · rw [List.getElem?_append_right (by omega)] at hi'
    obtain ⟨A', c', k1, k2, k3⟩ := cellsOf_get hR hi'
    exact ⟨A', c', by rw [List.getElem?_append_right (by omega), hcl]; exact k1, k2, k3.grown h1 h4 (by decide)⟩
end Go.Proofs.Ytdlcnpjdloinnaa
