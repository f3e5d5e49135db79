/- A map of entries by their words, as a list that rises; where a told word comes from. -/
import Derived.Test.YtdlcnpjdloinnaaBot
import Derived.Test.YtdlcnpjdloinnaaHPlain
import Derived.Maps.OwnSet
namespace Go.Proofs.Ytdlcnpjdloinnaa
open Go.RowKit Go.ChangeMaps
open Go.Maps (Keyed)

/-! ### how an entry reads in a map -/
def entD (e : Ent) : DataW Unit := .agg [.lit (.string e.word.data.toList), .lit (.int .u32 e.weight), .lit (.bool e.gone)]
def entElem (v : Value) : Option (DataW Unit × List MemPlace) :=
  match v with
  | .agg cs => match cs.toList with
    | [.string s, .int .u32 w, .bool g] => some (entD ⟨s, w, g⟩, [])
    | _ => none
  | _ => none
theorem entElem_mk (e : Ent) : entElem e.agg = some (entD e, []) := rfl
theorem entD_inj {a b : Ent} (h : entD a = entD b) : a = b := by
  unfold entD at h
  injection h with h
  injection h with h1 h
  injection h with h2 h
  injection h with h3 h
  injection h1 with h1
  injection h1 with h1
  injection h2 with h2
  injection h2 with _ h2
  injection h3 with h3
  injection h3 with h3
  cases a
  cases b
  simp only [Ent.mk.injEq]
  exact ⟨ByteArray.ext (Array.ext' h1), h2, h3⟩
theorem entElem_inv {v : Value} {e : Ent} {ps : List MemPlace} (h : entElem v = some (entD e, ps)) : v = e.agg := by
  unfold entElem at h
  split at h
  · rename_i cs
    split at h
    · rename_i s w g hcs
      injection h with h
      injection h with h _
      have := entD_inj h
      subst this
      show Value.agg cs = Value.agg _
      congr 1
      exact Array.ext' hcs
    · cases h
  · cases h
abbrev keyL (e : Ent) : Lit := .string e.word.data.toList
def mapD (es : List Ent) : DataW Unit := .map (es.map fun e => (keyL e, entD e))

/-! ### the map's datum as a list that rises -/
theorem before_bl (a b : List UInt8) : bytesBefore a b = bl a b := by
  induction a generalizing b with
  | nil => cases b <;> rfl
  | cons x a ih =>
    cases b with
    | nil => rfl
    | cons y b => simp only [bytesBefore, bl, Op.bytesLess, ih]
theorem before_key (a b : Ent) : (keyL a).before (keyL b) = bl a.key b.key := by
  show bytesBefore _ _ = _
  rw [before_bl, Ent.key, Ent.key, ByteArray.toList_eq, ByteArray.toList_eq]
theorem same_key (a b : Ent) : (keyL a).sameKey (keyL b) = decide (a.key = b.key) := by
  show (a.word.data.toList == b.word.data.toList) = _
  rw [Ent.key, Ent.key, ByteArray.toList_eq, ByteArray.toList_eq]
  by_cases h : a.word.data.toList = b.word.data.toList
  · rw [h]; simp
  · rw [decide_eq_false h]; exact beq_eq_false_iff_ne.2 h
theorem insert_map (x : Ent) (es : List Ent) : DataW.insert (keyL x, entD x) (es.map fun e => (keyL e, entD e)) = (es.takeWhile (fun e => !bl x.key e.key) ++ x :: es.dropWhile (fun e => !bl x.key e.key)).map fun e => (keyL e, entD e) := by
  induction es with
  | nil => rfl
  | cons e es ih =>
    simp only [List.map_cons, DataW.insert, before_key, List.takeWhile_cons, List.dropWhile_cons]
    cases h : bl x.key e.key with
    | true => simp
    | false => simp only [Bool.not_false, Bool.false_eq_true, if_false, if_true, List.cons_append, List.map_cons]; rw [ih]
theorem put_map {es : List Ent} (hs : Rises es) {x : Ent} (hx : bareE x = x) : (mapD es).put (keyL x) (entD x) = mapD (oneE es x) := by
  show DataW.map (DataW.insert (keyL x, entD x) (List.filter (fun p => !p.1.sameKey (keyL x)) (es.map fun e => (keyL e, entD e)))) = mapD _
  unfold mapD
  have h1 : (es.map fun e => (keyL e, entD e)).filter (fun p => !p.1.sameKey (keyL x)) = (es.filter fun e => !decide (e.key = x.key)).map fun e => (keyL e, entD e) := by
    rw [List.filter_map]
    congr 1
    exact List.filter_congr fun e _ => by show (!(keyL e).sameKey (keyL x)) = _; rw [same_key]
  rw [h1, insert_map]
  congr 1
  congr 1
  unfold oneE
  rw [hx]
  clear h1 hx
  induction es with
  | nil => rfl
  | cons e es ih =>
    have hs' := List.Pairwise.of_cons hs
    have hr := fun y hy => List.rel_of_pairwise_cons hs (a' := y) hy
    rcases bl_tri e.key x.key with h | h | h
    · have hne := bl_ne h
      have hlt : ltE e x = true := h
      have hgt : gtE e x = false := by
        cases h3 : gtE e x with
        | false => rfl
        | true => have := bl_asymm (gtE_iff.1 h3); rw [h] at this; cases this
      rw [List.filter_cons_of_pos (by simpa using hne), List.takeWhile_cons, List.dropWhile_cons, List.takeWhile_cons, hlt, List.filter_cons_of_neg (by rw [hgt]; decide)]
      rw [bl_asymm h]
      simp only [Bool.not_false, if_true, List.cons_append]
      rw [ih hs']
    · have hall : ∀ y ∈ es, bl x.key y.key = true := fun y hy => h ▸ hr y hy
      have hlt : ltE e x = false := by rw [ltE_iff, h]; exact bl_irrefl _
      have hgt : gtE e x = false := by
        cases h3 : gtE e x with
        | false => rfl
        | true => have := gtE_iff.1 h3; rw [h, bl_irrefl] at this; cases this
      rw [List.filter_cons_of_neg (by simp [h]), List.takeWhile_cons, hlt, List.filter_cons_of_neg (by rw [hgt]; decide)]
      have h2 : es.filter (fun e => !decide (e.key = x.key)) = es := List.filter_eq_self.2 fun y hy => by simpa using (bl_ne (hall y hy)).symm
      have h3 : es.filter (gtE · x) = es := List.filter_eq_self.2 fun y hy => gtE_iff.2 (hall y hy)
      rw [h2, h3]
      cases es with
      | nil => rfl
      | cons y es => simp [hall y (by simp)]
    · have hall : ∀ y ∈ es, bl x.key y.key = true := fun y hy => bl_trans h (hr y hy)
      have hlt : ltE e x = false := by rw [ltE_iff]; exact bl_asymm h
      have hgt : gtE e x = true := gtE_iff.2 h
      have h2 : es.filter (fun e => !decide (e.key = x.key)) = es := List.filter_eq_self.2 fun y hy => by simpa using (bl_ne (hall y hy)).symm
      have h3 : es.filter (gtE · x) = es := List.filter_eq_self.2 fun y hy => gtE_iff.2 (hall y hy)
      rw [List.filter_cons_of_pos (by simpa using (bl_ne h).symm), List.filter_cons_of_pos (p := (gtE · x)) (by simp [hgt]), h2, h3]
      simp only [List.takeWhile_cons, List.dropWhile_cons, h, hlt, Bool.not_true, Bool.false_eq_true, if_false, List.nil_append]
theorem find_map {es : List Ent} (hs : Rises es) {x : Ent} (hx : x ∈ es) : (es.map fun e => (keyL e, entD e)).find? (fun p => p.1.sameKey (keyL x)) = some (keyL x, entD x) := by
  induction es with
  | nil => cases hx
  | cons e es ih =>
    rw [List.map_cons, List.find?_cons]
    show (match (keyL e).sameKey (keyL x) with | true => _ | false => _) = _
    rw [same_key]
    rcases List.mem_cons.1 hx with rfl | hx
    · simp
    · have := bl_ne (List.rel_of_pairwise_cons hs hx)
      rw [decide_eq_false this]
      exact ih (List.Pairwise.of_cons hs) hx
theorem atKey_map {es : List Ent} (hs : Rises es) {x : Ent} (hx : x ∈ es) (z : DataW Unit) : (mapD es).atKey (keyL x) z = entD x := by
  unfold mapD DataW.atKey
  simp only [find_map hs hx]
theorem has_map {es : List Ent} (hs : Rises es) {x : Ent} (hx : x ∈ es) : Maps.has (mapD es) (keyL x) = true := by
  cases h : Maps.has (mapD es) (keyL x) with
  | true => rfl
  | false =>
    have h1 := Maps.atKey_of_not_has h (entD ⟨x.word, x.weight + 1, x.gone⟩)
    rw [atKey_map hs hx] at h1
    have := congrArg Ent.weight (entD_inj h1)
    simp only at this
    omega
theorem size_map (es : List Ent) : Maps.size (mapD es) = es.length := by simp [Maps.size, mapD]

/-! ### at the operation, for the walk -/
theorem keyed9 : Keyed Try.prog 9 := Maps.string_keyed Try.underlying9
theorem zero31 (w : World) : (zeroValue 31).run Try.prog w = .ok zeroEnt.agg w := by kernel_rfl
theorem key_of {e : Ent} (h : e.word.size ≤ 9) : keyOf Try.prog 9 (.string e.word) = some (keyL e) := WideMaps.keyOf_string_mk Try.underlying9 (by unfold maxLen; omega)
theorem store_ent {w : World} {b n : Nat} {es : List Ent} (h : w.ownsMap Try.prog 9 entElem b n (mapD es)) (hs : Rises es) {x : Ent} (hx : bareE x = x) (hw : x.word.size ≤ 9) (hn : n ≤ 1000000) :
    ∃ w', (Instr.mapUpdate 28 (.map (some b)) (.string x.word) x.agg).run Try.prog w = .ok () w' ∧ w'.ownsMap Try.prog 9 entElem b (n + 1) (mapD (oneE es x)) ∧ w.grownBy w' (some b) := by
  obtain ⟨w', h1, h2, h3⟩ := h.update keyed9 Try.underlying28 (by unfold maxLen; omega) (key_of hw) (entElem_mk x)
  rw [put_map hs hx] at h2
  exact ⟨w', h1, h2, h3⟩
theorem wpList_lookup_ent (w : World) {ops : Array Oper} {rest : List Oper} {o : Oper} {a : Act} {Q : Exit → Act → World → Prop} (hg : o.guard = none) (m x : Operand) (hop : o.op = Op.lookup 28 m x true) (b n : Nat) (es : List Ent) (e : Ent)
    (hm : a.eval m = .map (some b)) (hown : w.ownsMap Try.prog 9 entElem b n (mapD es)) (hs : Rises es) (he : e ∈ es) (hx : a.eval x = .string e.word) (hw : e.word.size ≤ 9)
    (hK : wpList Try.prog ops Q rest (a.put o.dst (.tuple #[e.agg, .bool true])) w) : wpList Try.prog ops Q (o :: rest) a w :=
  wpList_lookup_own_ok w hg m x 28 hop 9 31 keyed9 Try.underlying28 entElem (zero31 w) (entD zeroEnt) [] (entElem_mk _) b n (mapD es) hm hown _ (keyL e) hx (key_of hw) (fun v ps hv => by
    rw [atKey_map hs he] at hv
    rw [entElem_inv hv, has_map hs he]
    exact hK)
theorem wpList_len_ent (w : World) {ops : Array Oper} {rest : List Oper} {o : Oper} {a : Act} {Q : Exit → Act → World → Prop} (hg : o.guard = none) (m : Operand) (hop : o.op = Op.call { callee := Callee.builtin Builtin.len, args := #[m], argTypes := #[28] }) (b n : Nat) (es : List Ent)
    (hm : a.eval m = .map (some b)) (hown : w.ownsMap Try.prog 9 entElem b n (mapD es)) (hK : wpList Try.prog ops Q rest (a.put o.dst (.int .i64 es.length)) w) : wpList Try.prog ops Q (o :: rest) a w :=
  wpList_len_own w hg m 28 hop 9 31 Try.underlying28 entElem b n (mapD es) hm hown (by rw [size_map]; exact hK)

/-! ### where a told word comes from -/
theorem fst_from {L : List (List Ent)} {k : List UInt8} {g : Ent} (h : fst L k = some g) : ∃ (n : Nat) (l : List Ent), L[n]? = some l ∧ findE l k = some g ∧ ∀ (i : Nat), i < n → ∀ l', L[i]? = some l' → findE l' k = none := by
  induction L with
  | nil => simp [fst] at h
  | cons l L ih =>
    rw [fst_cons] at h
    cases hl : findE l k with
    | some x =>
      rw [hl] at h
      simp at h
      subst h
      exact ⟨0, l, rfl, hl, fun i hi => absurd hi (by omega)⟩
    | none =>
      rw [hl] at h
      simp at h
      obtain ⟨n, l', h1, h2, h3⟩ := ih h
      refine ⟨n + 1, l', by simpa using h1, h2, fun i hi l2 hl2 => ?_⟩
      cases i with
      | zero => simp at hl2; subst hl2; exact hl
      | succ i => exact h3 i (by omega) l2 (by simpa using hl2)
theorem told_from {L : List (List Ent)} (hs : ∀ l ∈ L, Rises l) {g : Ent} (hg : g ∈ togE L) : ∃ (n : Nat) (hn : n < L.length), sourceE L g.word.toList = some n ∧ findE L[n] g.word.toList = some g := by
  have h2 : findE (togE L) g.key = some g := findE_mem (rises_tog hs) hg
  rw [findE_tog hs] at h2
  obtain ⟨n, l, h3, h4, h5⟩ := fst_from h2
  obtain ⟨hn, rfl⟩ := List.getElem?_eq_some_iff.1 h3
  exact ⟨n, hn, src_some h5 h3 h4, h4⟩
theorem with_snoc (es l : List Ent) (x : Ent) : withE es (l ++ [x]) = oneE (withE es l) x := by simp [withE]
end Go.Proofs.Ytdlcnpjdloinnaa
