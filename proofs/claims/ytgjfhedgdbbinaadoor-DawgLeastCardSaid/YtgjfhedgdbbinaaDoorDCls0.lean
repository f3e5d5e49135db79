/- Dawg: rows of words, rows of lists of entries; all beginnings, all kinds, step by step. -/
import Derived.Test.YtgjfhedgdbbinaaDoorDBehind
namespace Go.Proofs.YtgjfhedgdbbinaaDoor
open Go.RowKit
set_option linter.unusedSimpArgs false
set_option linter.unusedVariables false
set_option linter.unnecessarySimpa false
namespace Dw
theorem info_str : (Tryd.prog.info? 9).map (fun i => (i.zero, i.size, i.bytes)) = some (some (.string ⟨#[]⟩), 1, 16) := by kernel_rfl
theorem info_list : (Tryd.prog.info? 28).map (fun i => (i.zero, i.size, i.bytes)) = some (some (.slice none 0 0), 1, 24) := by kernel_rfl
/-- a row of words that the call owns -/
def OS (w : World) (base : Nat) (v : Value) (hs : List ByteArray) : Prop := w.ownsRow base 9 1 v hs.length (hs.map Value.string)
theorem OS.nil_ (w : World) (base : Nat) : OS w base (.slice none 0 0) [] := World.ownsRow_nil _ _ _ _
theorem OS.below {w w' : World} {base : Nat} {v : Value} {hs : List ByteArray} (h : OS w base v hs) (hb : Below w.heap.size w w') : OS w' base v hs := own_later h hb
theorem OS.at_ {w : World} {base : Nat} {A : Option Addr} {n c : Nat} {hs : List ByteArray} (h : OS w base (.slice A n c) hs) {i : Nat} {s : ByteArray} (hi : hs[i]? = some s) : ∃ b, A = some ⟨b, 0, none⟩ ∧ w.cell? ⟨b, i, none⟩ = some (.string s) := by
  have hlt := (List.getElem?_eq_some_iff.1 hi).1
  have h0 := h
  rcases h.2 with ⟨hv, h9⟩ | ⟨g, cap, cur, hv, _, hh, hc, _⟩
  · omega
  · injection hv with h1 h2 h3
    subst h1; subst h2; subst h3
    refine ⟨g, rfl, ?_⟩
    have := World.ownsRow.cellAt (show w.ownsRow base _ 1 _ hs.length (hs.map Value.string) from h0) i (by rw [Nat.mul_one]; exact hlt)
    rw [this, List.getElem?_map, hi]
    rfl
/-! beginnings -/
def headsN (s : ByteArray) (n : Nat) : List ByteArray := (List.range n).map fun n => bl ((wl s).take n)
theorem headsN_zero (s : ByteArray) : headsN s 0 = [] := rfl
theorem headsN_length (s : ByteArray) (n : Nat) : (headsN s n).length = n := by simp [headsN]
theorem headsN_step (H : List ByteArray) (s : ByteArray) (n : Nat) : H ++ headsN s (n + 1) = (H ++ headsN s n) ++ [bl ((wl s).take n)] := by
  unfold headsN
  rw [List.range_succ, List.map_append, List.append_assoc]
  rfl
theorem heads_step {es : List Ent} {i : Nat} {q : Ent} (h : es[i]? = some q) : headsE (es.take (i + 1)) = headsE (es.take i) ++ headsN q.word (q.word.size + 1) := by
  unfold headsE headsN
  rw [List.take_add_one, h]
  simp
theorem heads_len0 : ∀ (es : List Ent), (∀ e ∈ es, e.word.size ≤ 255) → (headsE es).length ≤ 256 * es.length
  | [], _ => by simp [headsE]
  | e :: es, h => by
    have h1 := heads_len0 es (fun x hx => h x (List.mem_cons_of_mem _ hx))
    have h2 := h e (List.mem_cons_self ..)
    have h3 : headsE (e :: es) = headsN e.word (e.word.size + 1) ++ headsE es := by simp [headsE, headsN]
    rw [h3, List.length_append, headsN_length, List.length_cons]
    omega
theorem heads_length {es : List Ent} {i : Nat} (h : ∀ e ∈ es, e.word.size ≤ 255) (hi : es.length ≤ 100) : (headsE (es.take i)).length ≤ 25600 := by
  have h1 := heads_len0 (es.take i) (fun e he => h e (List.mem_of_mem_take he))
  have h2 : (es.take i).length ≤ es.length := by simp; omega
  omega
theorem cut_bl {s : ByteArray} {n : Nat} : s.extract 0 n = bl ((wl s).take n) := by
  refine wl_inj ?_
  rw [wl_extract, wl_bl (fun x hx => wl_lt _ x (List.mem_of_mem_take hx)), List.drop_zero]
/-! a list of entries, off a block -/
def RL (w : World) (nb : Option Nat) (v : Value) (es : List Ent) : Prop :=
  ∃ (A : Option Addr) (c : Nat), v = .slice A es.length c ∧ es.length ≤ c ∧ (0 < es.length → ∃ b off, A = some ⟨b, off, none⟩ ∧ nb ≠ some b ∧ ∀ j u, (ecs es)[j]? = some u → w.cell? ⟨b, off + j, none⟩ = some u)
section
variable {w w' : World} {nb : Option Nat} {v : Value} {es : List Ent}
theorem RL.form (h : RL w nb v es) : ∃ (A : Option Addr) (c : Nat), v = .slice A es.length c := by
  obtain ⟨A, c, h1, _⟩ := h
  exact ⟨A, c, h1⟩
theorem RL.later (h : RL w nb v es) (hb : Below w.heap.size w w') : RL w' nb v es := by
  obtain ⟨A, c, h1, h2, h3⟩ := h
  refine ⟨A, c, h1, h2, fun h0 => ?_⟩
  obtain ⟨b, off, h4, h5, h6⟩ := h3 h0
  exact ⟨b, off, h4, h5, fun j u hu => cL hb (h6 j u hu)⟩
theorem RL.re (h : RL w nb v es) : RE w w.heap.size v es := by
  obtain ⟨A, c, h1, h2, h3⟩ := h
  refine ⟨A, c, h1, h2, fun h0 => ?_⟩
  obtain ⟨b, off, h4, h5, h6⟩ := h3 h0
  exact ⟨b, off, h4, cell_lt0 (h6 0 _ (List.getElem?_eq_getElem (by rw [ecs_length]; omega))), h6⟩
theorem RL.grown {ob : Option Nat} (h : RL w ob v es) (hg : w.grownBy w' ob) (hn : nb = ob ∨ nb = some w.heap.size) : RL w' nb v es := by
  obtain ⟨A, c, h1, h2, h3⟩ := h
  refine ⟨A, c, h1, h2, fun h0 => ?_⟩
  obtain ⟨b, off, h4, h5, h6⟩ := h3 h0
  have hlt := cell_lt0 (h6 0 _ (List.getElem?_eq_getElem (by rw [ecs_length]; omega)))
  refine ⟨b, off, h4, ?_, fun j u hu => ?_⟩
  · rcases hn with rfl | rfl
    · exact h5
    · intro e; injection e with e; simp only at hlt; omega
  · have := hg.block b hlt (fun e => h5 (by rw [e]))
    exact (World.cell?_of_block this).trans (h6 j u hu)
theorem OE.rl {base : Nat} (h : OE w base v es) (hn : ∀ k, nb = some k → k < base) : RL w nb v es := by
  rcases h.2 with ⟨rfl, h0⟩ | ⟨g, cap, cur, rfl, hl, hh, hc, _⟩
  · obtain rfl : es = [] := List.eq_nil_of_length_eq_zero h0
    exact ⟨none, 0, rfl, by simp, fun h => absurd h (by simp)⟩
  · refine ⟨_, _, rfl, hc, fun _ => ⟨g, 0, rfl, fun e => ?_, fun j u hu => ?_⟩⟩
    · have := hn g e
      have h2 := (World.ownsRow.lt h g rfl).1
      omega
    · have := World.ownsRow.cellAt h j (by rw [← ecs_length]; exact (List.getElem?_eq_some_iff.1 hu).1)
      rw [Nat.zero_add, this, hu]
end
/-- a row of lists that the call owns -/
def KR (w : World) (base : Nat) (kv : Value) (ks : List (List Ent)) : Prop := ∃ vs : List Value, vs.length = ks.length ∧ w.ownsRow base 28 1 kv ks.length vs ∧ ∀ (i : Nat) (v : Value) (es : List Ent), vs[i]? = some v → ks[i]? = some es → RL w kv.ownBlock v es
section
variable {w w' : World} {base : Nat} {kv : Value} {ks : List (List Ent)}
theorem KR.nil_ (w : World) (base : Nat) : KR w base (.slice none 0 0) [] := ⟨[], rfl, World.ownsRow_nil _ _ _ _, fun i v es h => by simp at h⟩
theorem KR.later (h : KR w base kv ks) (hb : Below w.heap.size w w') : KR w' base kv ks := by
  obtain ⟨vs, h1, h2, h3⟩ := h
  exact ⟨vs, h1, own_later h2 hb, fun i v es hv he => (h3 i v es hv he).later hb⟩
theorem KR.form (h : KR w base kv ks) : ∃ (A : Option Addr) (c : Nat), kv = .slice A ks.length c := by
  obtain ⟨vs, _, h2, _⟩ := h
  obtain ⟨A, c, h3, _⟩ := row_form h2
  exact ⟨A, c, h3⟩
theorem KR.lt (h : KR w base kv ks) : ∀ k, kv.ownBlock = some k → k < w.heap.size := fun k hk => by
  obtain ⟨vs, _, h2, _⟩ := h
  exact (World.ownsRow.lt h2 k hk).2
theorem KR.at_ {A : Option Addr} {n c : Nat} (h : KR w base (.slice A n c) ks) {i : Nat} {es : List Ent} (hi : ks[i]? = some es) : ∃ b v, A = some ⟨b, 0, none⟩ ∧ w.cell? ⟨b, i, none⟩ = some v ∧ RL w (Value.slice A n c).ownBlock v es := by
  obtain ⟨vs, h1, h2, h3⟩ := h
  have hlt := (List.getElem?_eq_some_iff.1 hi).1
  obtain ⟨v, hv⟩ : ∃ v, vs[i]? = some v := ⟨_, List.getElem?_eq_getElem (by omega)⟩
  have h0 := h2
  rcases h2.2 with ⟨e, h9⟩ | ⟨g, cap, cur, e, _, hh, hc, _⟩
  · omega
  · injection e with e1 e2 e3
    subst e1; subst e2; subst e3
    have := World.ownsRow.cellAt h0 i (by rw [Nat.mul_one]; exact hlt)
    exact ⟨g, v, rfl, by rw [this, hv], h3 i v es hv hi⟩
theorem KR.snoc {w9 : World} {v v9 : Value} {es : List Ent} {o : Obj} {vs : List Value} (h : vs.length = ks.length ∧ w.ownsRow base 28 1 kv ks.length vs ∧ ∀ (i : Nat) (v : Value) (es : List Ent), vs[i]? = some v → ks[i]? = some es → RL w kv.ownBlock v es) (hr : RL w kv.ownBlock v es)
    (h9 : w9.ownsRow base 28 1 v9 (ks.length + 1) (vs ++ [v])) (hg : (w.alloc o).grownBy w9 kv.ownBlock) (hat : v9.ownBlock = kv.ownBlock ∨ v9.ownBlock = some (w.alloc o).heap.size) : KR w9 base v9 (ks ++ [es]) := by
  obtain ⟨h1, h2, h3⟩ := h
  have ha : Below w.heap.size w (w.alloc o) := (Below.refl _ _).alloc (Nat.le_refl _) _
  refine ⟨vs ++ [v], by simp [h1], by rw [List.length_append]; exact h9, fun i x l hx hl => ?_⟩
  rcases Nat.lt_or_ge i vs.length with hi | hi
  · rw [List.getElem?_append_left hi] at hx
    rw [List.getElem?_append_left (by omega)] at hl
    exact ((h3 i x l hx hl).later ha).grown hg hat
  · rw [List.getElem?_append_right hi] at hx
    rw [List.getElem?_append_right (by omega)] at hl
    have e1 : i - vs.length = 0 := by
      have := (List.getElem?_eq_some_iff.1 hx).1
      simp at this
      omega
    have e2 : i - ks.length = 0 := by omega
    rw [e1] at hx
    rw [e2] at hl
    simp at hx hl
    subst hx; subst hl
    exact (hr.later ha).grown hg hat
end
/-! kinds -/
theorem kindsF_snoc {α : Type} [DecidableEq α] (l : List α) (r : α) : kindsF [] (l ++ [r]) = if r ∈ kindsF [] l then kindsF [] l else kindsF [] l ++ [r] := by
  unfold kindsF
  rw [List.foldl_append]
  rfl
theorem kinds_step {es : List Ent} {hs : List ByteArray} {j : Nat} {h : ByteArray} (hj : hs[j]? = some h) :
    kindsF [] ((hs.take (j + 1)).map (behE es)) = if behE es h ∈ kindsF [] ((hs.take j).map (behE es)) then kindsF [] ((hs.take j).map (behE es)) else kindsF [] ((hs.take j).map (behE es)) ++ [behE es h] := by
  rw [List.take_add_one, hj, Option.toList_some, List.map_append, List.map_cons, List.map_nil, kindsF_snoc]
  by_cases hm : behE es h ∈ kindsF [] ((hs.take j).map (behE es))
  · rw [if_pos hm, if_pos hm]
  · rw [if_neg hm, if_neg hm]
theorem kindsF_len {α : Type} [DecidableEq α] : ∀ (l ks : List α), (kindsF ks l).length ≤ ks.length + l.length
  | [], ks => by simp [kindsF]
  | r :: l, ks => by
    have h9 : kindsF ks (r :: l) = kindsF (if r ∈ ks then ks else ks ++ [r]) l := rfl
    rw [h9]
    have := kindsF_len l (if r ∈ ks then ks else ks ++ [r])
    split at this <;> (simp at this ⊢; split <;> simp_all <;> omega)
theorem kinds_len {es : List Ent} {hs : List ByteArray} (j : Nat) : (kindsF [] ((hs.take j).map (behE es))).length ≤ hs.length := by
  have := kindsF_len ((hs.take j).map (behE es)) []
  rw [List.length_map, List.length_take, List.length_nil] at this
  omega
theorem behE_length (es : List Ent) (h : ByteArray) : (behE es h).length ≤ es.length := by
  unfold behE headB
  rw [List.length_map]
  exact List.length_filter_le _ _
theorem kinds_small {es : List Ent} {hs : List ByteArray} {j : Nat} (h : es.length ≤ 1000) : ∀ l ∈ kindsF [] ((hs.take j).map (behE es)), l.length ≤ 1000 := fun l hl => by
  rcases (kinds_ok ((hs.take j).map (behE es)) [] List.nodup_nil).2 l |>.1 hl with h1 | h1
  · cases h1
  · obtain ⟨p, _, rfl⟩ := List.mem_map.1 h1
    have := behE_length es p
    omega
theorem mem_take_step {rest x : List Ent} {ks : List (List Ent)} {k : Nat} (h : ks[k]? = some x) : decide (rest ∈ ks.take (k + 1)) = (decide (rest ∈ ks.take k) || decide (x = rest)) := by
  rw [List.take_add_one, h, Option.toList_some]
  by_cases h1 : rest ∈ ks.take k
  · rw [decide_eq_true h1, decide_eq_true (List.mem_append_left _ h1)]; rfl
  · rw [decide_eq_false h1, Bool.false_or]
    by_cases h2 : x = rest
    · rw [decide_eq_true h2, decide_eq_true (by rw [h2]; simp)]
    · rw [decide_eq_false h2, decide_eq_false]
      intro h3
      rcases List.mem_append.1 h3 with h3 | h3
      · exact h1 h3
      · simp at h3; exact h2 h3.symm
end Dw
end Go.Proofs.YtgjfhedgdbbinaaDoor
