/- The law of 'append' for rows of lists: a whole row of lists goes onto a row that the call itself owns. -/
import Derived.Test.YtdlcnpjdloinnaaTold
namespace Go.Proofs.Ytdlcnpjdloinnaa
open Go.RowKit
theorem run_append_reads {P : Program} {w : World} (base : Nat) (t ty e : TypeId) (i : TypeInfo) (z : Value) (size bytes : Nat) (ht : P.underlying t = some (.slice e)) (hi : P.info? e = some i) (hz : i.zero = some z)
    (hsize : i.size = size) (hby : i.bytes = bytes) (hzs : z.cells.size = size) (hsz : 0 < size)
    (v : Value) (n : Nat) (xs : List Value) (hown : w.ownsRow base e size v n xs)
    (B : Nat) (A : Option Addr) (m c : Nat) (news : List Value) (hr : Reads w B size A m news) (h1 : ∀ u ∈ news, u.oneCell' = true)
    (h63 : n + m ≤ maxLen) (hbytes : (n + m) * bytes ≤ 140737488355328) (hbase : base ≤ w.heap.size) :
    ∃ v' w', (Builtin.append_ #[t, t] ty #[v, .slice A m c]).run P w = .ok v' w' ∧ w'.ownsRow base e size v' (n + m) (xs ++ news) ∧ w.grownBy w' v.ownBlock := by
  rcases Nat.eq_zero_or_pos m with h0 | h0
  · subst h0
    have hn : news = [] := List.eq_nil_of_length_eq_zero (by simpa using hr.1)
    subst hn
    rcases A with _ | ad
    · exact ⟨v, w, run_append_nil (P := P) (w := w) base t ty e i size ht hi v n xs hown c, by simpa using hown, World.grownBy.refl w _⟩
    · obtain ⟨v', w', hr', h2, h3, _⟩ := run_append_own_at (P := P) w base t ty e i z size bytes ht hi hz hsize hby hzs hsz v n xs hown ad 0 c [] (by simp) (by simp) (by simp) h63 hbytes hbase
      exact ⟨v', w', hr', h2, h3⟩
  · obtain ⟨b, off, rfl, _, hc⟩ := hr.2 h0
    obtain ⟨v', w', hr', h2, h3, _⟩ := run_append_own_at (P := P) w base t ty e i z size bytes ht hi hz hsize hby hzs hsz v n xs hown ⟨b, off, none⟩ m c news hr.1 (fun j u hu => by rw [add_row]; exact hc j u hu) h1 h63 hbytes hbase
    exact ⟨v', w', hr', h2, h3⟩
theorem RLs.reads {w : World} {B : Nat} {A : Option Addr} {L : List (List Ent)} (h : RLs w B A L) : Reads w B 1 A L.length (cellsOf w A L.length) := by
  refine ⟨by simp [cellsOf_length], fun h0 => ?_⟩
  obtain ⟨b, off, rfl, hlt, hr⟩ := h h0
  refine ⟨b, off, rfl, hlt, fun j u hu => ?_⟩
  obtain ⟨ad, e, hc⟩ := cellsOf_at h hu
  injection e with e
  subst e
  rwa [add_row] at hc
theorem run_append_rows {w : World} (ty : TypeId) (B : Nat) (v : Value) (L1 L2 : List (List Ent)) (hown : OLs w B v L1) (A : Option Addr) (c : Nat) (hR : RLs w w.heap.size A L2)
    (hl : L1.length + L2.length ≤ 1000000) (hB : B ≤ w.heap.size) :
    ∃ v' w', (Builtin.append_ #[24, 24] ty #[v, .slice A L2.length c]).run Try.prog w = .ok v' w' ∧ OLs w' B v' (L1 ++ L2) ∧ Below B w w' := by
  obtain ⟨i0, hi, hz0, hz1, hz2⟩ := info_parts info26
  obtain ⟨cells, h1, h2⟩ := hown
  obtain ⟨v', w', hr, h3, h4⟩ := run_append_reads (P := Try.prog) (w := w) B 24 ty 26 i0 _ 1 24 Try.underlying24 hi hz0 hz1 hz2 rfl (by decide) v L1.length cells h1 w.heap.size A L2.length c _ hR.reads (cellsOf_one hR)
    (by unfold maxLen; omega) (by omega) hB
  have hcl : cells.length = L1.length := by have := h1.1; omega
  refine ⟨v', w', hr, ⟨_, by rw [List.length_append]; exact h3, fun i l hi' => ?_⟩, (Below.refl _ _).grown h4 hB (fun k hk => (h1.lt k hk).1)⟩
  by_cases hlt : i < L1.length
  · rw [List.getElem?_append_left hlt] at hi'
    obtain ⟨A', c', k1, k2, k3⟩ := h2 i l hi'
    exact ⟨A', c', by rw [List.getElem?_append_left (by omega)]; exact k1, k2, k3.grown h1 h4 (by decide)⟩
  · rw [List.getElem?_append_right (by omega)] at hi'
    obtain ⟨A', c', k1, k2, k3⟩ := cellsOf_get hR hi'
    exact ⟨A', c', by rw [List.getElem?_append_right (by omega), hcl]; exact k1, k2, k3.grown h1 h4 (by decide)⟩
theorem wp_append_rows {w : World} {o : Oper} {a : Act} {K : Act → World → Prop} {Q : Exit → Act → World → Prop} (s x : Operand)
    (ho : o.op = .call { callee := .builtin .append, args := #[s, x], argTypes := #[24, 24] }) (B : Nat) (v : Value) (L1 L2 : List (List Ent)) (hs : a.eval s = v) (hown : OLs w B v L1) (A : Option Addr) (m c : Nat)
    (hx : a.eval x = .slice A m c) (hm : m = L2.length) (hR : RLs w w.heap.size A L2) (hl : L1.length + L2.length ≤ 1000000) (hB : B ≤ w.heap.size)
    (h : ∀ v' w', OLs w' B v' (L1 ++ L2) → Below B w w' → K (a.put o.dst v') w') : o.wp Try.prog a w K Q := by
  subst hm
  obtain ⟨v', w', hr, h1, h2⟩ := run_append_rows o.type B v L1 L2 hown A c hR hl hB
  unfold Oper.wp execOp
  simp only [ho, resolve, invoke, builtin, Sem.run_bind, Sem.run_pure, Result.andThen_ok, List.map_toArray, List.map_cons, List.map_nil, hs, hx, hr]
  exact h v' w' h1 h2
theorem wpList_append_rows {w : World} {ops : Array Oper} {rest : List Oper} {o : Oper} {a : Act} {Q : Exit → Act → World → Prop} (hgd : o.guard = none) (s x : Operand)
    (ho : o.op = .call { callee := .builtin .append, args := #[s, x], argTypes := #[24, 24] }) (B : Nat) (v : Value) (L1 L2 : List (List Ent)) (hs : a.eval s = v) (hown : OLs w B v L1) (A : Option Addr) (m c : Nat)
    (hx : a.eval x = .slice A m c) (hm : m = L2.length) (hR : RLs w w.heap.size A L2) (hl : L1.length + L2.length ≤ 1000000) (hB : B ≤ w.heap.size)
    (h : ∀ v' w', OLs w' B v' (L1 ++ L2) → Below B w w' → wpList Try.prog ops Q rest (a.put o.dst v') w') : wpList Try.prog ops Q (o :: rest) a w :=
  wpList_plain hgd fun _ hK => wp_append_rows s x ho B v L1 L2 hs hown A m c hx hm hR hl hB fun v' w' h1 h2 => hK _ _ (h v' w' h1 h2)
theorem step_append_rows {w : World} {ops : Array Oper} {o : Oper} {a : Act} {K : Act → World → Prop} {Q : Exit → Act → World → Prop} {E : Prop} (hgd : o.guard = none) (s x : Operand)
    (ho : o.op = .call { callee := .builtin .append, args := #[s, x], argTypes := #[24, 24] }) (B : Nat) (v : Value) (L1 L2 : List (List Ent)) (hs : a.eval s = v) (hown : OLs w B v L1) (A : Option Addr) (m c : Nat)
    (hx : a.eval x = .slice A m c) (hm : m = L2.length) (hR : RLs w w.heap.size A L2) (hl : L1.length + L2.length ≤ 1000000) (hB : B ≤ w.heap.size)
    (h : ∀ v' w', OLs w' B v' (L1 ++ L2) → Below B w w' → K (a.put o.dst v') w') : if Region.wanted o (yielded ops a.tmps) = true then Oper.wp Try.prog o a w K Q else E := by
  have hw : Region.wanted o (yielded ops a.tmps) = true := by simp [Region.wanted, hgd]
  rw [if_pos hw]
  exact wp_append_rows s x ho B v L1 L2 hs hown A m c hx hm hR hl hB h
theorem REs.new (W : World) (es : List Ent) (cs : Array Value) (hc : cs = (ecs es).toArray) : REs (W.alloc (.cells cs 31)) (W.heap.size + 1) (some ⟨W.heap.size, 0, none⟩) es := by
  subst hc
  refine ⟨⟨ecs_length es, fun _ => ⟨W.heap.size, 0, rfl, by omega, fun j u hu => ?_⟩⟩, fun _ b off e => ?_⟩
  · rw [cell_of_row _ _ (0 + j) _ 31 (0, 0) (heap_alloc_new W _)]; simpa using hu
  · injection e with e; injection e with e; subst e; exact ⟨_, _, heap_alloc_new W _⟩
theorem RLs.new (W : World) (L : List (List Ent)) (cs : Array Value) (hc : ∀ (i : Nat) (l : List Ent), L[i]? = some l → ∃ A c, cs[i]? = some (.slice A l.length c) ∧ l.length ≤ c ∧ REs W W.heap.size A l) :
    RLs (W.alloc (.cells cs 26)) (W.heap.size + 1) (some ⟨W.heap.size, 0, none⟩) L := by
  intro _
  refine ⟨W.heap.size, 0, rfl, by omega, fun i l hi => ?_⟩
  obtain ⟨A, c, h1, h2, h3⟩ := hc i l hi
  refine ⟨A, c, ?_, h2, (h3.alloc (Nat.le_refl _) _).more (by omega)⟩
  rw [cell_of_row _ _ (0 + i) _ 26 (0, 0) (heap_alloc_new W _)]; simpa using h1
theorem RLs.any {w : World} {A : Option Addr} {L : List (List Ent)} {B : Nat} (h : RLs w B A L) (hB : B ≤ w.heap.size) : RLs w w.heap.size A L := h.more hB
theorem RLs.take {w : World} {B : Nat} {A : Option Addr} {L : List (List Ent)} (h : RLs w B A L) (n : Nat) : RLs w B A (L.take n) := by
  intro h0
  obtain ⟨b, off, e, hlt, hr⟩ := h (by simp at h0; omega)
  refine ⟨b, off, e, hlt, fun i l hi => hr i l ?_⟩
  rw [List.getElem?_take] at hi
  split at hi
  · exact hi
  · cases hi
theorem RLs.drop {w : World} {B b off : Nat} {L : List (List Ent)} (h : RLs w B (some ⟨b, off, none⟩) L) (n : Nat) : RLs w B (some ⟨b, off + n, none⟩) (L.drop n) := by
  intro h0
  obtain ⟨b', off', e, hlt, hr⟩ := h (by simp at h0; omega)
  injection e with e
  injection e with e1 e2
  subst e1; subst e2
  refine ⟨b, off + n, rfl, hlt, fun i l hi => ?_⟩
  rw [List.getElem?_drop] at hi
  obtain ⟨A, c, h1, h2, h3⟩ := hr (n + i) l hi
  exact ⟨A, c, by rw [Nat.add_assoc]; exact h1, h2, h3⟩
/-- an empty row that was just made -/
theorem OLs.fresh (W : World) (B : Nat) (hB : B ≤ W.heap.size) : OLs (W.alloc (.cells #[] 26)) B (.slice (some ⟨W.heap.size, 0, none⟩) 0 0) [] :=
  ⟨[], ⟨rfl, .inr ⟨W.heap.size, 0, #[], rfl, hB, heap_alloc_new W _, Nat.le_refl _, by decide, rfl, rfl⟩⟩, fun i l h => by simp at h⟩
theorem OLs.up {W : World} {B : Nat} {v : Value} {L : List (List Ent)} (h : OLs W B v L) (o : Obj) : OLs (W.alloc o) B v L := h.below ((Below.refl _ _).alloc (Nat.le_refl _) o)
/-- a row of one list that was just made -/
theorem RLs.one (W : World) {A : Option Addr} {l : List Ent} {n c : Nat} (hn : n = l.length) (hc : n ≤ c) (h : REs W W.heap.size A l) : RLs (W.alloc (.cells #[.slice A n c] 26)) (W.alloc (.cells #[.slice A n c] 26)).heap.size (some ⟨W.heap.size, 0, none⟩) [l] := by
  subst hn
  refine (RLs.new W [l] _ (fun i l' hi => ?_)).more (by simp)
  match i, hi with
  | 0, hi => injection hi with hi; subst hi; exact ⟨A, c, rfl, hc, h⟩
  | n + 1, hi => simp at hi
end Go.Proofs.Ytdlcnpjdloinnaa
