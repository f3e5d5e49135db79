/- A row of bytes out of a text: it bears a mark behind its last cell. -/
import Derived.Test.YtdkbgbdgmihlmaaDoorPRow
import Derived.Laws.IdiomStrings
import Derived.ArgAppend
namespace Go.Proofs.YtdkbgbdgmihlmaaDoor
open Go.RowKit
set_option linter.unusedSimpArgs false
set_option linter.unusedVariables false
set_option linter.unnecessarySimpa false
namespace Dw
/-- a row of the call's own, out of a text -/
def OM (w : World) (base : Nat) (v : Value) (l : List Nat) : Prop :=
  ∃ g cap cur, v = .slice (some ⟨g, 0, none⟩) l.length cap ∧ base ≤ g ∧ w.heap[g]? = some (.cells cur 5 (cap, cap + 1)) ∧ l.length ≤ cap ∧ cap ≤ maxLen ∧ cur.size = cap ∧ cur.toList.take l.length = bcs l
/-- of either kind -/
def OX (w : World) (base : Nat) (v : Value) (l : List Nat) : Prop := OB w base v l ∨ OM w base v l
section
variable {w w' : World} {base : Nat} {v : Value} {l : List Nat}
theorem OM.later (h : OM w base v l) (hb : Below w.heap.size w w') : OM w' base v l := by
  obtain ⟨g, cap, cur, h1, h2, h3, h4⟩ := h
  exact ⟨g, cap, cur, h1, h2, (hb.block g (heap_lt h3)).trans h3, h4⟩
theorem OX.later (h : OX w base v l) (hb : Below w.heap.size w w') : OX w' base v l := h.imp (fun h => own_later h hb) (fun h => h.later hb)
theorem OM.cell (h : OM w base v l) {i x : Nat} (hi : l[i]? = some x) : ∃ b cap, v = .slice (some ⟨b, 0, none⟩) l.length cap ∧ base ≤ b ∧ b < w.heap.size ∧ w.cell? ⟨b, i, none⟩ = some (.int .u8 x) ∧ w.frozen? ⟨b, i, none⟩ = false := by
  obtain ⟨g, cap, cur, h1, h2, h3, h4, h5, h6, h7⟩ := h
  have hlt := (List.getElem?_eq_some_iff.1 hi).1
  refine ⟨g, cap, h1, h2, heap_lt h3, ?_, ?_⟩
  · rw [cell_of_row _ _ _ _ _ _ h3]
    have : (cur.toList.take l.length)[i]? = (bcs l)[i]? := by rw [h7]
    rw [List.getElem?_take, if_pos hlt] at this
    unfold bcs at this
    rw [List.getElem?_map, hi] at this
    simpa using this
  · simp [World.frozen?, h3]
    omega
theorem OX.cell (h : OX w base v l) {i x : Nat} (hi : l[i]? = some x) : ∃ b cap, v = .slice (some ⟨b, 0, none⟩) l.length cap ∧ base ≤ b ∧ b < w.heap.size ∧ w.cell? ⟨b, i, none⟩ = some (.int .u8 x) := by
  rcases h with h | h
  · obtain ⟨A, c, hv, _⟩ := row_form h
    subst hv
    obtain ⟨b, rfl, h2, h3, h4⟩ := OB.cell h hi
    exact ⟨b, c, rfl, h2, h3, h4⟩
  · obtain ⟨b, cap, h1, h2, h3, h4, _⟩ := h.cell hi
    exact ⟨b, cap, h1, h2, h3, h4⟩
theorem OX.form (h : OX w base v l) : ∃ (A : Option Addr) (c : Nat), v = .slice A l.length c := by
  rcases h with h | ⟨g, cap, cur, h1, _⟩
  · obtain ⟨A, c, hv, _⟩ := row_form h
    exact ⟨A, c, hv⟩
  · exact ⟨_, _, h1⟩
theorem OX.lt (h : OX w base v l) : ∀ k, v.ownBlock = some k → base ≤ k ∧ k < w.heap.size := fun k hk => by
  rcases h with h | ⟨g, cap, cur, rfl, h2, h3, _⟩
  · exact World.ownsRow.lt h k hk
  · injection hk with hk
    have hk : g = k := hk
    subst hk
    exact ⟨h2, heap_lt h3⟩
theorem OX.conv (h : OX w base v l) : (convert 35 9 v).run Tryd.prog w = .ok (.string (bl l)) w := by
  rcases h with h | h
  · exact OB.conv h
  · obtain ⟨g, cap, cur, rfl, h2, h3, h4, h5, h6, h7⟩ := h
    refine run_convert_bytes_arg (P := Tryd.prog) w 35 5 Tryd.underlying35 Tryd.underlying5 g 0 l.length cap (l.map fun (x : Nat) => (x : Int)) (by simp) (fun i hi => ?_) 9 Tryd.underlying9
    obtain ⟨b, cap2, e, _, _, hc, _⟩ := OM.cell ⟨g, cap, cur, rfl, h2, h3, h4, h5, h6, h7⟩ (List.getElem?_eq_getElem hi)
    injection e with e
    injection e with e
    injection e with e
    subst e
    rw [Nat.zero_add, hc]
    simp [hi]
end
/-- a text as a row of bytes -/
theorem conv_text (w : World) (s : ByteArray) (hs : s.size ≤ maxLen) : ∃ v w', (convert 9 35 (.string s)).run Tryd.prog w = .ok v w' ∧ OM w' w.heap.size v (wl s) ∧ Below w.heap.size w w' := by
  have hr := run_bytes_of_string (P := Tryd.prog) w 9 35 5 s Tryd.underlying9 Tryd.underlying35 Tryd.underlying5
  have hge := grownCap_ge w s.size 0 5
  have hsz : (bytesRow s (grownCap w s.size 0 5)).size = grownCap w s.size 0 5 := by
    unfold bytesRow
    rw [Array.size_append, Array.size_map, Array.size_replicate]
    show s.size + _ = _
    omega
  rw [hsz] at hr
  refine ⟨_, _, hr, ⟨w.heap.size, grownCap w s.size 0 5, bytesRow s (grownCap w s.size 0 5), by rw [wl_length], Nat.le_refl _, heap_alloc_new w.drew _, by rw [wl_length]; exact hge, grownCap_le_maxLen _ _ _ _ hs, hsz, ?_⟩, ?_⟩
  · unfold bytesRow bcs wl
    rw [Array.toList_append, Array.toList_map, List.take_append_of_le_length (by simp), List.take_of_length_le (by simp), List.map_map]
    rfl
  · have h1 : Below w.heap.size w w.drew := ⟨rfl, rfl, rfl, Nat.le_refl _, fun _ _ => rfl⟩
    exact h1.trans ((Below.refl w.heap.size w.drew).alloc (Nat.le_refl w.heap.size) _)
/-- append of one byte -/
theorem wp_appx {o : Oper} {a : Act} {w : World} {K : Act → World → Prop} {Q : Exit → Act → World → Prop} (s y : Operand) (ho : o.op = .call { callee := .builtin .append, args := #[s, y], argTypes := #[35, 35] })
    (base : Nat) (v : Value) (l : List Nat) (hs : a.eval s = v) (hown : OX w base v l) (b x : Nat) (hx : a.eval y = .slice (some ⟨b, 0, none⟩) 1 1) (hc : w.cell? ⟨b, 0, none⟩ = some (.int .u8 x)) (hn : l.length ≤ 1000000000) (hbase : base ≤ w.heap.size)
    (h : ∀ v' w', OX w' base v' (l ++ [x]) → w.grownBy w' v.ownBlock → K (a.put o.dst v') w') : Oper.wp Tryd.prog o a w K Q := by
  have hnews : ∀ j u, ([Value.int .u8 x] : List Value)[j]? = some u → w.cell? ⟨b, j, none⟩ = some u := fun j u hu => by
    cases j with
    | zero => injection hu with hu; rw [← hu]; exact hc
    | succ j => simp at hu
  rcases hown with hown | hown
  · refine wp_app s y 35 ho 5 _ 1 1 Tryd.underlying35 info_u8 rfl (by decide) (by decide) base v l.length _ hs hown b [.int .u8 x] hx rfl hnews (by intro u hu; simp at hu; subst hu; rfl) hn hbase (fun v' w' h1 h2 _ => h v' w' (.inl ?_) h2)
    unfold OB
    rw [bcs_append, List.length_append]
    exact h1
  · obtain ⟨g, cap, cur, rfl, h2, h3, h4, h5, h6, h7⟩ := hown
    obtain ⟨i0, hi, hz0, hz1, hz2⟩ := info_parts info_u8
    have hone : ∀ u ∈ ([Value.int .u8 x] : List Value), u.oneCell' = true := by intro u hu; simp at hu; subst hu; rfl
    rcases Nat.lt_or_ge l.length cap with hlt | hge
    · have hr := run_append_room_cells (P := Tryd.prog) w 35 o.type 5 i0 Tryd.underlying35 hi g 0 l.length cap ⟨b, 0, none⟩ 1 1 [.int .u8 x] (by rw [hz1]; rfl) (fun j u hu => by rw [Addr.add_lit, Nat.zero_add]; exact hnews j u hu) hone (by omega)
        (fun j hj => by
          have : j = 0 := by simpa using hj
          subst this
          rw [hz1, cell_of_row _ _ _ _ _ _ h3, Array.getElem?_eq_getElem (by omega)]
          rfl)
        (fun j hj => by
          have : j = 0 := by simpa using hj
          subst this
          rw [hz1]
          simp [World.frozen?, h3]
          omega)
      rw [hz1] at hr
      unfold Oper.wp execOp
      simp only [ho, resolve, invoke, builtin, Sem.run_bind, Sem.run_pure, Result.andThen_ok, List.map_toArray, List.map_cons, List.map_nil, hs, hx, hr]
      have hw : w.setCells g (0 + l.length * 1) [.int .u8 x] = w.setCell ⟨g, l.length, none⟩ (.int .u8 x) := by rw [Nat.zero_add, Nat.mul_one]; rfl
      rw [hw]
      refine h _ _ (.inr ⟨g, cap, cur.setIfInBounds l.length (.int .u8 x), by rw [List.length_append]; rfl, h2, ?_, by rw [List.length_append]; exact hlt, h5, by rw [Array.size_setIfInBounds]; exact h6, ?_⟩) ⟨rfl, rfl, rfl, by simp [World.setCell], fun k hk hne => ?_⟩
      · exact set_block h3 _
      · rw [Array.toList_setIfInBounds, List.length_append, bcs_append, List.length_cons, List.length_nil, Nat.zero_add]
        rw [List.take_add_one, List.take_set_of_le (Nat.le_refl _), h7, List.getElem?_set_self (by simp [h6, hlt])]
        rfl
      · exact Below.heap_setCell _ _ _ _ (fun e => hne (by rw [e]; rfl))
    · have hcap : l.length = cap := by omega
      obtain ⟨v', w', r1, r2, r3⟩ := run_append_arg_grows (P := Tryd.prog) w 35 o.type 5 i0 _ 1 1 Tryd.underlying35 hi hz0 hz1 hz2 rfl (by decide) ⟨g, 0, none⟩ l.length cap (bcs l) (by rw [bcs_length, Nat.mul_one]) (fun j u hj => by
          rw [Addr.add_lit, Nat.zero_add, cell_of_row _ _ _ _ _ _ h3]
          have hjl : j < l.length := by have := (List.getElem?_eq_some_iff.1 hj).1; rwa [bcs_length] at this
          rw [← h7, List.getElem?_take, if_pos hjl] at hj
          simpa using hj) ⟨b, 0, none⟩ 1 1 [.int .u8 x] rfl (fun j u hu => by rw [Addr.add_lit, Nat.zero_add]; exact hnews j u hu) (by omega) (by unfold maxLen; omega) (by omega)
      unfold Oper.wp execOp
      simp only [ho, resolve, invoke, builtin, Sem.run_bind, Sem.run_pure, Result.andThen_ok, List.map_toArray, List.map_cons, List.map_nil, hs, hx, r1]
      refine h v' w' (.inl ?_) ⟨r3.os, r3.tape, r3.output, r3.size, fun k hk _ => r3.block k hk (by simp)⟩
      unfold OB
      rw [bcs_append, List.length_append]
      exact own_less r2 hbase
end Dw
end Go.Proofs.YtdkbgbdgmihlmaaDoor
