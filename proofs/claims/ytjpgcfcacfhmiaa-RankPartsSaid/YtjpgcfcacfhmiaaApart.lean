/- Rows that lie apart: what an append onto one of them leaves of the others. -/
import Derived.Test.YtjpgcfcacfhmiaaLists
import Derived.Maps.AppendAt
namespace Go.Proofs.Ytjpgcfcacfhmiaa
open Go.RowKit
set_option linter.unusedSimpArgs false
set_option linter.unusedVariables false
set_option linter.unnecessarySimpa false
set_option maxRecDepth 100000 in
/-- append of a whole list of hits onto a row of the call's own, and where the row then lies -/
theorem wpList_append_hits_at {ops : Array Oper} {rest : List Oper} {o : Oper} {a : Act} {Q : Exit → Act → World → Prop} {w : World}
    (hgd : o.guard = none) (s x : Operand) (ho : o.op = .call { callee := .builtin .append, args := #[s, x], argTypes := #[30, 30] })
    (base : Nat) (v : Value) (es news : List Hit) (hs : a.eval s = v) (hown : OHs w base v es) (A : Option Addr) (m c : Nat) (hx : a.eval x = .slice A m c) (hm : m = news.length) (hr : RHs w w.heap.size A news)
    (hl : es.length + news.length ≤ 1000000000) (hbase : base ≤ w.heap.size)
    (h : ∀ v' w', OHs w' base v' (es ++ news) → w.grownBy w' v.ownBlock → Below base w w' → (v'.ownBlock = v.ownBlock ∨ v'.ownBlock = some w.heap.size) → wpList Try.prog ops Q rest (a.put o.dst v') w') : wpList Try.prog ops Q (o :: rest) a w := by
  obtain ⟨i0, hi, hz0, hz1, hz2⟩ := info_parts info26
  subst hm
  have fin : ∀ v' w', w'.ownsRow base 26 4 v' (es.length + news.length) (hcs es ++ hcs news) → w.grownBy w' v.ownBlock → (v'.ownBlock = v.ownBlock ∨ v'.ownBlock = some w.heap.size) → wpList Try.prog ops Q rest (a.put o.dst v') w' := fun v' w' h1 h2 h3 => by
    refine h v' w' ?_ h2 ((Below.refl _ _).grown h2 hbase (fun k hk => (hown.lt k hk).1)) h3
    unfold OHs
    rw [hcs_append, List.length_append]
    exact h1
  cases A with
  | none =>
    have hn : news = [] := by
      rcases Nat.eq_zero_or_pos news.length with h0 | h0
      · exact List.eq_nil_of_length_eq_zero h0
      · obtain ⟨b, off, e, _⟩ := hr.rd.2 h0; cases e
    subst hn
    refine wpList_plain hgd fun K hK => ?_
    have hrun := run_append_nil (P := Try.prog) (w := w) base 30 o.type 26 i0 4 Try.underlying30 hi v es.length (hcs es) hown c
    unfold Oper.wp
    simp [execOp, ho, resolve, invoke, builtin, hs, hx, hrun, Result.andThen]
    exact hK _ _ (fin v w (by rw [show hcs ([] : List Hit) = [] from rfl, List.append_nil, List.length_nil, Nat.add_zero]; exact hown) (World.grownBy.refl w _) (.inl rfl))
  | some ad =>
    refine wpList_append_own_at (w := w) hgd s x 30 ho base 26 i0 _ 4 32 Try.underlying30 hi hz0 hz1 hz2 rfl (by decide) v es.length (hcs es) hs hown ad news.length c (hcs news) hx (hcs_length _) ?_ (hcs_one news) (by unfold maxLen; omega) (by omega) hbase ?_
    · intro j u hu
      have hp : 0 < news.length := by have := (List.getElem?_eq_some_iff.1 hu).1; rw [hcs_length] at this; omega
      obtain ⟨b, off, e, _, hc⟩ := hr.rd.2 hp
      injection e with e
      subst e
      have ha : (⟨b, off, none⟩ : Addr).add j = ⟨b, off + j, none⟩ := by unfold Addr.add; split <;> simp_all
      rw [ha]; exact hc j u hu
    · intro v' w' h1 h2 _ h4
      exact fin v' w' h1 h2 h4
/-- a row of its own is left as it was where another row grows -/
theorem own_apart {w w' : World} {B : Nat} {v u : Value} {es : List Hit} (h : OHs w B v es) (hg : w.grownBy w' u.ownBlock) (hu : ∀ k, v.ownBlock = some k → u.ownBlock ≠ some k) : OHs w' B v es := by
  refine ⟨h.1, ?_⟩
  rcases h.2 with ⟨h1, h2⟩ | ⟨g, cap, cur, rfl, h2, hh, h3⟩
  · exact .inl ⟨h1, h2⟩
  · have e := hg.block g (Array.getElem?_eq_some_iff.1 hh).1 (fun e => hu g rfl e.symm)
    exact .inr ⟨g, cap, cur, rfl, h2, e.trans hh, h3⟩
theorem RHs.at_block {w w' : World} {A : Option Addr} {es : List Hit} (h : RHs w w.heap.size A es) (hs : w.heap.size ≤ w'.heap.size) (hk : 0 < es.length → ∀ b off, A = some ⟨b, off, none⟩ → b < w.heap.size → w'.heap[b]? = w.heap[b]?) : RHs w' w'.heap.size A es := by
  refine ⟨⟨h.rd.1, fun h0 => ?_⟩, fun h0 b off e => ?_⟩
  · obtain ⟨b, off, e, hb, hc⟩ := h.rd.2 h0
    exact ⟨b, off, e, Nat.lt_of_lt_of_le hb hs, fun j u hu => (World.cell?_of_block (hk h0 b off e hb)).trans (hc j u hu)⟩
  · obtain ⟨cs, t, fr, hh, ht⟩ := h.ty h0 b off e
    exact ⟨cs, t, fr, (hk h0 b off e (Array.getElem?_eq_some_iff.1 hh).1).trans hh, ht⟩
/-- what the address reads lies in another block than k -/
def Off (A : Option Addr) (l : List Hit) (k : Option Nat) : Prop := 0 < l.length → ∀ b off, A = some ⟨b, off, none⟩ → some b ≠ k
/-- a row of slices that the call itself owns; each reads as a list, none in block k -/
def OLsA (w : World) (B : Nat) (v : Value) (L : List (List Hit)) (k : Option Nat) : Prop :=
  ∃ cells : List Value, w.ownsRow B 30 1 v L.length cells ∧ ∀ (i : Nat) (l : List Hit), L[i]? = some l → ∃ (A : Option Addr) (c : Nat), cells[i]? = some (Value.slice A l.length c) ∧ l.length ≤ c ∧ RHs w w.heap.size A l ∧ Off A l k
theorem OLsA.ols {w : World} {B : Nat} {v : Value} {L : List (List Hit)} {k : Option Nat} (h : OLsA w B v L k) : OLs w B v L := by
  obtain ⟨cells, h1, h2⟩ := h
  exact ⟨cells, h1, fun i l hi => by obtain ⟨A, c, a, b, d, _⟩ := h2 i l hi; exact ⟨A, c, a, b, d⟩⟩
theorem OLsA.nil_ (w : World) (B : Nat) (k : Option Nat) : OLsA w B (.slice none 0 0) [] k := ⟨[], World.ownsRow_nil _ _ _ _, fun i l h => by simp at h⟩
theorem OLsA.below {w w' : World} {B : Nat} {v : Value} {L : List (List Hit)} {k : Option Nat} (h : OLsA w B v L k) (hb : Below w.heap.size w w') : OLsA w' B v L k := by
  obtain ⟨cells, h1, h2⟩ := h
  exact ⟨cells, own_below h1 hb, fun i l hi => by obtain ⟨A, c, a, b, d, e⟩ := h2 i l hi; exact ⟨A, c, a, b, (d.below hb).any, e⟩⟩
/-- a row of hits grows that lies apart -/
theorem OLsA.grown26 {w w' : World} {B B' : Nat} {v u u' : Value} {L : List (List Hit)} {es : List Hit} (h : OLsA w B v L u.ownBlock) (hu : OHs w B' u es) (hg : w.grownBy w' u.ownBlock) (hat : u'.ownBlock = u.ownBlock ∨ u'.ownBlock = some w.heap.size) : OLsA w' B v L u'.ownBlock := by
  obtain ⟨cells, h1, h2⟩ := h
  refine ⟨cells, ⟨h1.1, ?_⟩, fun i l hi => ?_⟩
  · rcases h1.2 with ⟨e1, e2⟩ | ⟨g, cap, cur, rfl, e2, hh, e3⟩
    · exact .inl ⟨e1, e2⟩
    · refine .inr ⟨g, cap, cur, rfl, e2, (hg.block g (Array.getElem?_eq_some_iff.1 hh).1 (fun e => ?_)).trans hh, e3⟩
      rcases hu.2 with ⟨rfl, _⟩ | ⟨g2, cap2, cur2, rfl, _, hh2, _⟩
      · simp [Value.ownBlock] at e
      · simp [Value.ownBlock] at e
        subst e
        rw [hh] at hh2
        injection hh2 with hh2
        injection hh2 with _ hh2
        exact absurd hh2 (by decide)
  · obtain ⟨A, c, a, b, d, e⟩ := h2 i l hi
    refine ⟨A, c, a, b, d.at_block hg.size (fun h0 bb off e1 hb => hg.block bb hb (e h0 bb off e1)), fun h0 bb off e1 => ?_⟩
    rcases hat with hat | hat
    · rw [hat]; exact e h0 bb off e1
    · rw [hat]
      intro e2
      injection e2 with e2
      subst e2
      obtain ⟨b', off', e3, hb', _⟩ := d.rd.2 h0
      rw [e1] at e3
      injection e3 with e3
      injection e3 with e3
      omega
/-- one more list -/
theorem wpList_append_list_A {ops : Array Oper} {rest : List Oper} {o : Oper} {a : Act} {Q : Exit → Act → World → Prop} {W : World} {A : Option Addr} {n c : Nat}
    (hgd : o.guard = none) (s x : Operand) (ho : o.op = .call { callee := .builtin .append, args := #[s, x], argTypes := #[46, 46] })
    (base : Nat) (v : Value) (L : List (List Hit)) (l : List Hit) (k : Option Nat) (hs : a.eval s = v) (hown : OLsA W base v L k) (g : Nat) (hx : a.eval x = .slice (some ⟨g, 0, none⟩) 1 1) (hgW : g = W.heap.size)
    (hn : n = l.length) (hl : RHs W W.heap.size A l) (hoff : Off A l k) (hc : l.length ≤ c) (hL : L.length ≤ 1000000000) (hbase : base ≤ W.heap.size)
    (h : ∀ v' w', OLsA w' base v' (L ++ [l]) k → (∀ B' u es, OHs W B' u es → OHs w' B' u es) → Below base W w' → wpList Try.prog ops Q rest (a.put o.dst v') w') :
    wpList Try.prog ops Q (o :: rest) a (W.alloc (.cells #[.slice A n c] 30)) := by
  obtain ⟨i0, hi, hz0, hz1, hz2⟩ := info_parts (show (Try.prog.info? 30).map (fun i => (i.zero, i.size, i.bytes)) = some (some (.slice none 0 0), 1, 24) by kernel_rfl)
  subst hgW
  subst hn
  obtain ⟨cells, h1, h2⟩ := hown
  refine wpList_append_own _ hgd s x 46 ho base 30 i0 _ 1 24 Try.underlying46 hi hz0 hz1 hz2 rfl (by decide) v L.length cells hs (h1.alloc _) ⟨W.heap.size, 0, none⟩ 1 1 [.slice A l.length c] hx rfl ?_ ?_ ?_ ?_ (by simp; omega) ?_
  · exact cell_one_new _ _ _
  · intro u hu; simp at hu; subst hu; rfl
  · unfold maxLen; omega
  · omega
  · intro v' w' ho' hg' _
    have hba : Below W.heap.size W (W.alloc (.cells #[.slice A l.length c] 30)) := (Below.refl _ W).alloc (Nat.le_refl _) _
    refine h v' w' ⟨cells ++ [.slice A l.length c], by simpa using ho', fun i l' hi' => ?_⟩ (fun B' u es hu => ?_) (((Below.refl base W).alloc hbase _).grown hg' (by simp; omega) (fun k hk => (h1.lt k hk).1))
    · have hcl : cells.length = L.length := by have := h1.1; omega
      by_cases hlt : i < L.length
      · rw [List.getElem?_append_left hlt] at hi'
        obtain ⟨A', c', h3, h4, h5, h6⟩ := h2 i l' hi'
        exact ⟨A', c', by rw [List.getElem?_append_left (by omega)]; exact h3, h4, ((h5.below hba).any).grown (h1.alloc _) hg' (by decide), h6⟩
      · have : i = L.length := by have := (List.getElem?_eq_some_iff.1 hi').1; simp at this; omega
        subst this
        simp at hi'
        subst hi'
        exact ⟨A, c, by rw [← hcl]; simp, hc, ((hl.below hba).any).grown (h1.alloc _) hg' (by decide), hoff⟩
    · have hu2 := own_below hu hba
      refine ⟨hu2.1, ?_⟩
      rcases hu2.2 with ⟨e1, e2⟩ | ⟨gu, cap, cur, rfl, e2, hh, e3⟩
      · exact .inl ⟨e1, e2⟩
      · refine .inr ⟨gu, cap, cur, rfl, e2, (hg'.block gu (Array.getElem?_eq_some_iff.1 hh).1 (fun e => ?_)).trans hh, e3⟩
        rcases (h1.alloc (.cells #[.slice A l.length c] 30)).2 with ⟨rfl, _⟩ | ⟨g2, cap2, cur2, rfl, _, hh2, _⟩
        · simp [Value.ownBlock] at e
        · simp [Value.ownBlock] at e
          subst e
          rw [hh] at hh2
          injection hh2 with hh2
          injection hh2 with _ hh2
          exact absurd hh2 (by decide)
/-- what was made behind the world at hand lies apart from what was there -/
theorem off_new {w w' : World} {A : Option Addr} {c B : Nat} {l es : List Hit} {u : Value} (h : OHs w' w.heap.size (.slice A l.length c) l) (hu : OHs w B u es) : Off A l u.ownBlock := by
  intro h0 b off e hk
  rcases h.2 with ⟨_, e0⟩ | ⟨g, cap, cur, hv, hg, _⟩
  · omega
  · injection hv with hv
    subst hv
    injection e with e
    injection e with e
    have := (hu.lt b hk.symm).2
    omega
/-- at a step of a drawn region: a literal list, laid in a block of its own, is appended -/
theorem step_append_blk {ops : Array Oper} {o : Oper} {a : Act} {K : Act → World → Prop} {Q : Exit → Act → World → Prop} {E : Prop} {W : World}
    (hgd : o.guard = none) (s x : Operand) (ho : o.op = .call { callee := .builtin .append, args := #[s, x], argTypes := #[30, 30] })
    (base : Nat) (v : Value) (es news : List Hit) (hs : a.eval s = v) (hown : OHs W base v es) (g n : Nat) (hx : a.eval x = .slice (some ⟨g, 0, none⟩) n n) (hn : n = news.length)
    (hc : W.heap[g]? = some (.cells (hcs news).toArray 26 (0, 0))) (hl : es.length + news.length ≤ 1000000000) (hbase : base ≤ W.heap.size)
    (h : ∀ v' w', OHs w' base v' (es ++ news) → W.grownBy w' v.ownBlock → Below base W w' → K (a.put o.dst v') w') :
    if Region.wanted o (yielded ops a.tmps) = true then Oper.wp Try.prog o a W K Q else E := by
  have hw : Region.wanted o (yielded ops a.tmps) = true := by simp [Region.wanted, hgd]
  rw [if_pos hw]
  subst hn
  obtain ⟨i0, hi, hz0, hz1, hz2⟩ := info_parts info26
  refine wp_append_own W s x 30 ho base 26 i0 _ 4 32 Try.underlying30 hi hz0 hz1 hz2 rfl (by decide) v es.length (hcs es) hs hown ⟨g, 0, none⟩ news.length news.length (hcs news) hx (hcs_length _) ?_ (hcs_one news) ?_ ?_ hbase ?_
  · intro j u hu
    have ha : (⟨g, 0, none⟩ : Addr).add j = ⟨g, j, none⟩ := by unfold Addr.add; split <;> simp_all
    rw [ha, cell_of_row _ _ j _ 26 (0, 0) hc]
    simpa using hu
  · unfold maxLen; omega
  · omega
  · intro v' w' ho' hg' _
    refine h v' w' ?_ hg' ((Below.refl base W).grown hg' hbase (fun k hk => (hown.lt k hk).1))
    unfold OHs; rw [hcs_append, List.length_append]; exact ho'
end Go.Proofs.Ytjpgcfcacfhmiaa
