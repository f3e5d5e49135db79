/- Contracts: lists of lists that are made (the law's lists, rows that are put together), and what the reference makes of them. -/
import Derived.Test.YtdlcnpjdloinnaaDraft
namespace Go.Proofs.Ytdlcnpjdloinnaa
open Go.RowKit

/-- a row of slices that the call itself owns; each reads as a list -/
def OLs (w : World) (B : Nat) (v : Value) (L : List (List Ent)) : Prop :=
  ∃ cells : List Value, w.ownsRow B 26 1 v L.length cells ∧ ∀ (i : Nat) (l : List Ent), L[i]? = some l → ∃ (A : Option Addr) (c : Nat), cells[i]? = some (Value.slice A l.length c) ∧ l.length ≤ c ∧ REs w w.heap.size A l
theorem REs.any {w : World} {B : Nat} {A : Option Addr} {es : List Ent} (h : REs w B A es) : REs w w.heap.size A es :=
  ⟨⟨h.rd.1, fun h0 => by
    obtain ⟨b, off, e, _, hc⟩ := h.rd.2 h0
    obtain ⟨cs, fr, hh⟩ := h.ty h0 b off e
    exact ⟨b, off, e, (Array.getElem?_eq_some_iff.1 hh).1, hc⟩⟩, h.ty⟩
/-- a row of another kind turns: the list reads as it did -/
theorem REs.grown {w w' : World} {A : Option Addr} {es : List Ent} {base size n : Nat} {e : TypeId} {v : Value} {xs : List Value} (h : REs w w.heap.size A es) (hown : w.ownsRow base e size v n xs) (hg : w.grownBy w' v.ownBlock) (he : e ≠ 31) :
    REs w' w'.heap.size A es := by
  have key : ∀ (b : Nat) (cs : Array Value) (fr : Nat × Nat), w.heap[b]? = some (Obj.cells cs 31 fr) → w'.heap[b]? = w.heap[b]? := fun b cs fr hb => by
    refine hg.block b (Array.getElem?_eq_some_iff.1 hb).1 (fun hk => ?_)
    rcases hown.2 with ⟨rfl, _⟩ | ⟨g, cap, cur, rfl, _, hgb, _⟩
    · simp [Value.ownBlock] at hk
    · simp [Value.ownBlock] at hk
      subst hk
      rw [hgb] at hb
      injection hb with hb
      injection hb with _ hb
      exact he hb
  refine ⟨⟨h.rd.1, fun h0 => ?_⟩, fun h0 b off e1 => ?_⟩
  · obtain ⟨b, off, e1, hlt, hc⟩ := h.rd.2 h0
    obtain ⟨cs, fr, hh⟩ := h.ty h0 b off e1
    exact ⟨b, off, e1, Nat.lt_of_lt_of_le hlt hg.size, fun j u hu => (World.cell?_of_block (key b cs fr hh)).trans (hc j u hu)⟩
  · obtain ⟨cs, fr, hh⟩ := h.ty h0 b off e1
    exact ⟨cs, fr, (key b cs fr hh).trans hh⟩
theorem OLs.nil_ (w : World) (B : Nat) : OLs w B (.slice none 0 0) [] := ⟨[], World.ownsRow_nil _ _ _ _, fun i l h => by simp at h⟩
theorem OLs.below {w w' : World} {B : Nat} {v : Value} {L : List (List Ent)} (h : OLs w B v L) (hb : Below w.heap.size w w') : OLs w' B v L := by
  obtain ⟨cells, h1, h2⟩ := h
  exact ⟨cells, own_below h1 hb, fun i l hi => by obtain ⟨A, c, h3, h4, h5⟩ := h2 i l hi; exact ⟨A, c, h3, h4, (h5.below hb).any⟩⟩
def Shaped (A : Option Addr) (n c : Nat) : Prop := (A = none ∧ n = 0 ∧ c = 0) ∨ ∃ b off, A = some ⟨b, off, none⟩
theorem OLs.form {w : World} {B : Nat} {v : Value} {L : List (List Ent)} (h : OLs w B v L) : ∃ A c, v = .slice A L.length c ∧ L.length ≤ c ∧ RLs w w.heap.size A L ∧ Shaped A L.length c := by
  obtain ⟨cells, h1, h2⟩ := h
  rcases h1.2 with ⟨rfl, h0⟩ | ⟨g, cap, cur, rfl, hB, hh, hc, _⟩
  · obtain rfl : L = [] := List.eq_nil_of_length_eq_zero h0
    exact ⟨none, 0, rfl, by simp, fun h => absurd h (by simp), .inl ⟨rfl, rfl, rfl⟩⟩
  · refine ⟨_, _, rfl, hc, fun _ => ⟨g, 0, rfl, (Array.getElem?_eq_some_iff.1 hh).1, fun i l hi => ?_⟩, .inr ⟨_, _, rfl⟩⟩
    obtain ⟨A, c, h3, h4, h5⟩ := h2 i l hi
    refine ⟨A, c, ?_, h4, h5⟩
    have := h1.cellAt i (by have := (List.getElem?_eq_some_iff.1 hi).1; omega)
    rw [Nat.zero_add, this, h3]

theorem wpList_append_list {ops : Array Oper} {rest : List Oper} {o : Oper} {a : Act} {Q : Exit → Act → World → Prop} {W : World} {A : Option Addr} {n c : Nat}
    (hgd : o.guard = none) (s x : Operand) (ho : o.op = .call { callee := .builtin .append, args := #[s, x], argTypes := #[24, 24] })
    (base : Nat) (v : Value) (L : List (List Ent)) (l : List Ent) (hs : a.eval s = v) (hown : OLs W base v L) (g : Nat) (hx : a.eval x = .slice (some ⟨g, 0, none⟩) 1 1) (hgW : g = W.heap.size)
    (hn : n = l.length) (hl : REs W W.heap.size A l) (hc : l.length ≤ c) (hL : L.length ≤ 1000000000) (hbase : base ≤ W.heap.size)
    (h : ∀ v' w', OLs w' base v' (L ++ [l]) → Below base W w' → wpList Try.prog ops Q rest (a.put o.dst v') w') :
    wpList Try.prog ops Q (o :: rest) a (W.alloc (.cells #[.slice A n c] 26)) := by
  obtain ⟨i0, hi, hz0, hz1, hz2⟩ := info_parts (show (Try.prog.info? 26).map (fun i => (i.zero, i.size, i.bytes)) = some (some (.slice none 0 0), 1, 24) by kernel_rfl)
  subst hgW
  subst hn
  obtain ⟨cells, h1, h2⟩ := hown
  refine wpList_append_own _ hgd s x 24 ho base 26 i0 _ 1 24 Try.underlying24 hi hz0 hz1 hz2 rfl (by decide) v L.length cells hs (h1.alloc _) ⟨W.heap.size, 0, none⟩ 1 1 [.slice A l.length c] hx rfl ?_ ?_ ?_ ?_ (by simp; omega) ?_
  · exact cell_one_new _ _ _
  · intro u hu; simp at hu; subst hu; rfl
  · unfold maxLen; omega
  · omega
  · intro v' w' ho' hg' _
    have hba : Below W.heap.size W (W.alloc (.cells #[.slice A l.length c] 26)) := (Below.refl _ W).alloc (Nat.le_refl _) _
    refine h v' w' ⟨cells ++ [.slice A l.length c], by simpa using ho', fun i l' hi' => ?_⟩ (((Below.refl base W).alloc hbase _).grown hg' (by simp; omega) (fun k hk => (h1.lt k hk).1))
    have hcl : cells.length = L.length := by have := h1.1; omega
    by_cases hlt : i < L.length
    · rw [List.getElem?_append_left hlt] at hi'
      obtain ⟨A', c', h3, h4, h5⟩ := h2 i l' hi'
      exact ⟨A', c', by rw [List.getElem?_append_left (by omega)]; exact h3, h4, ((h5.below hba).any).grown (h1.alloc _) hg' (by decide)⟩
    · have : i = L.length := by have := (List.getElem?_eq_some_iff.1 hi').1; simp at this; omega
      subst this
      simp at hi'
      subst hi'
      exact ⟨A, c, by rw [← hcl]; simp, hc, ((hl.below hba).any).grown (h1.alloc _) hg' (by decide)⟩

/-- a result that is a row of lists -/
def RetLs (w : World) (L : List (List Ent)) (e : Ending) (w' : World) : Prop :=
  ∃ A c, e = .returned (.slice A L.length c) ∧ L.length ≤ c ∧ RLs w' w'.heap.size A L ∧ Shaped A L.length c ∧ Below w.heap.size w w'
theorem ret_ls {w wr : World} {B : Nat} {v : Value} {L : List (List Ent)} (h : OLs wr B v L) (hb : Below w.heap.size w wr) : RetLs w L (.returned v) wr := by
  obtain ⟨A, c, rfl, hc, hR, hS⟩ := h.form
  exact ⟨A, c, rfl, hc, hR, hS, hb⟩

/-! ### lists of the law -/
def RDLs (w : World) (B : Nat) (A : Option Addr) (D : List (List Dra)) : Prop :=
  0 < D.length → ∃ b off, A = some ⟨b, off, none⟩ ∧ b < B ∧ ∀ (i : Nat) (ds : List Dra), D[i]? = some ds → ∃ Ai ci, w.cell? ⟨b, off + i, none⟩ = some (.slice Ai ds.length ci) ∧ RDs w B Ai ds ∧ ds.length ≤ 9223372036854775807
theorem RDs.below {w w' : World} {B : Nat} {A : Option Addr} {ds : List Dra} (h : RDs w B A ds) (hb : Below B w w') : RDs w' B A ds := by
  intro h0
  obtain ⟨b, off, e, hlt, hc⟩ := h h0
  refine ⟨b, off, e, hlt, fun i d hi => ?_⟩
  obtain ⟨Ai, ci, h1, h2, h3, h4, h5⟩ := hc i d hi
  have k := (bcell hb).1
  exact ⟨Ai, ci, (k _ _ hlt).trans h1, (k _ _ hlt).trans h2, (k _ _ hlt).trans h3, h4.below hb, h5⟩
theorem RDs.more {w : World} {B B' : Nat} {A : Option Addr} {ds : List Dra} (h : RDs w B A ds) (hb : B ≤ B') : RDs w B' A ds := by
  intro h0
  obtain ⟨b, off, e, hlt, hc⟩ := h h0
  exact ⟨b, off, e, by omega, fun i d hi => by obtain ⟨Ai, ci, h1, h2, h3, h4, h5⟩ := hc i d hi; exact ⟨Ai, ci, h1, h2, h3, h4.more hb, h5⟩⟩
def listsOf (D : List (List Dra)) : List (List Ent) := (D.take 6).map listOf
set_option maxHeartbeats 1000000 in
theorem lists10_any (D : List (List Dra)) (A : Option Addr) (c : Nat) (w : World) (hl : D.length ≤ 9223372036854775807) (h : RDLs w w.heap.size A D) :
    Calls Try.prog 10 #[.slice A D.length c] w (RetLs w (listsOf D)) := by
  go_enter Try.func10, Try.ntmps10
  go_wp2
  go_loopg [3, 4] 6 (fun k v i wr => ∃ j : Nat, k = 6 - j ∧ j ≤ D.length ∧ j ≤ 6 ∧ i = .int .i64 j ∧ OLs wr w.heap.size v ((D.take j).map listOf) ∧ Below w.heap.size w wr)
  case atStart => exact ⟨0, rfl, Nat.zero_le _, Nat.zero_le _, rfl, OLs.nil_ _ _, Below.refl _ _⟩
  case round =>
    obtain ⟨j, hk, hj, hjm, rfl, hown, hb⟩ := hrel
    have HK := Lib.hid hk
    clear hk
    have hsz := hb.size
    by_cases hlt : j < D.length
    · by_cases hlm : j < 6
      · obtain ⟨b, off, rfl, hlb, hcs⟩ := h (by omega)
        obtain ⟨Ai, ci, h0, hds, hdl⟩ := hcs j D[j] (List.getElem?_eq_getElem hlt)
        have h0' := ((bcell hb).1 _ _ hlb).trans h0
        have hst : (D.take (j + 1)).map listOf = (D.take j).map listOf ++ [listOf D[j]] := by rw [List.take_succ_eq_append_getElem hlt, List.map_append]; rfl
        have HS := Lib.hid hst
        have hal : ((D.take j).map listOf).length ≤ 1000000000 := by simp; omega
        clear hst h0
        go_wp2_with (first
          | (go_at_call 26; refine (list_any D[j] Ai ci wr hdl ((hds.below hb).more hsz)).mono ?_; rintro e w1 ⟨A1, c1, rfl, hc1, hr1, hb1⟩; have hsz1 := hb1.size)
          | (at_builtin; refine wpList_append_list rfl (.tmp 15) (.tmp 21) rfl w.heap.size _ _ (listOf D[j]) rfl (hown.below hb1) _ rfl (by simp) rfl hr1 hc1 hal (by omega) ?_; intro v' w' hown' hb'))
        go_roundg (6 - (j + 1))
        case rel => exact ⟨j + 1, rfl, by omega, by omega, by go_num, by rw [HS.out]; exact hown', hb.trans ((hb1.mono hsz).trans hb')⟩
        case measure => rw [HK.out]; omega
      · go_wp2
        go_ret
        have e : listsOf D = (D.take j).map listOf := by unfold listsOf; rw [show j = 6 by omega]
        rw [e]
        exact ret_ls hown hb
    · go_wp2
      go_ret
      have e : listsOf D = (D.take j).map listOf := by unfold listsOf; rw [List.take_of_length_le (by omega), List.take_of_length_le (by omega)]
      rw [e]
      exact ret_ls hown hb
end Go.Proofs.Ytdlcnpjdloinnaa
