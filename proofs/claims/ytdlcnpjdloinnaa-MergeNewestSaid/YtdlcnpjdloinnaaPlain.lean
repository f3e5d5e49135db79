/- Words in order; lists of entries that rise: plain lemmas, no program in sight. -/
import Derived.Test.YtdlcnpjdloinnaaTog
namespace Go.Proofs.Ytdlcnpjdloinnaa
open Go.RowKit

/-! ### bytes in order -/
abbrev bl (a b : List UInt8) : Bool := Op.bytesLess a b
theorem bl_irrefl (a : List UInt8) : bl a a = false := by
  induction a with
  | nil => rfl
  | cons x a ih => simp [bl, Op.bytesLess] at ih ⊢; exact ih
theorem u8_lt_irrefl (a : UInt8) : ¬ a < a := by simp
theorem u8_tri (a b : UInt8) : a < b ∨ a = b ∨ b < a := by
  rcases Nat.lt_trichotomy a.toNat b.toNat with h | h | h
  · exact .inl (UInt8.lt_iff_toNat_lt.2 h)
  · exact .inr (.inl (UInt8.toNat_inj.1 h))
  · exact .inr (.inr (UInt8.lt_iff_toNat_lt.2 h))
theorem bl_cons (x y : UInt8) (a b : List UInt8) : bl (x :: a) (y :: b) = true ↔ x < y ∨ (x = y ∧ bl a b = true) := by simp [bl, Op.bytesLess]
theorem bl_trans {a b c : List UInt8} (h : bl a b = true) (k : bl b c = true) : bl a c = true := by
  induction a generalizing b c with
  | nil =>
    cases c with
    | nil => cases b <;> simp [bl, Op.bytesLess] at k
    | cons z c => rfl
  | cons x a ih =>
    cases b with
    | nil => simp [bl, Op.bytesLess] at h
    | cons y b =>
      cases c with
      | nil => simp [bl, Op.bytesLess] at k
      | cons z c =>
        rw [bl_cons] at h k ⊢
        rcases h with h | ⟨rfl, h⟩
        · rcases k with k | ⟨rfl, k⟩
          · left; rw [UInt8.lt_iff_toNat_lt] at *; omega
          · exact .inl h
        · rcases k with k | ⟨rfl, k⟩
          · exact .inl k
          · exact .inr ⟨rfl, ih h k⟩
theorem bl_tri (a b : List UInt8) : bl a b = true ∨ a = b ∨ bl b a = true := by
  induction a generalizing b with
  | nil => cases b with
    | nil => exact .inr (.inl rfl)
    | cons y b => exact .inl rfl
  | cons x a ih => cases b with
    | nil => exact .inr (.inr rfl)
    | cons y b =>
      rw [bl_cons, bl_cons]
      rcases u8_tri x y with h | rfl | h
      · exact .inl (.inl h)
      · rcases ih b with h | rfl | h
        · exact .inl (.inr ⟨rfl, h⟩)
        · exact .inr (.inl rfl)
        · exact .inr (.inr (.inr ⟨rfl, h⟩))
      · exact .inr (.inr (.inl h))
theorem bl_asymm {a b : List UInt8} (h : bl a b = true) : bl b a = false := by
  cases hb : bl b a with
  | false => rfl
  | true => have := bl_trans h hb; rw [bl_irrefl] at this; cases this
theorem bl_ne {a b : List UInt8} (h : bl a b = true) : a ≠ b := by rintro rfl; rw [bl_irrefl] at h; cases h
theorem bl_false {a b : List UInt8} (h : bl a b = false) : a = b ∨ bl b a = true := by
  rcases bl_tri a b with k | k | k
  · rw [k] at h; cases h
  · exact .inl k
  · exact .inr k

/-! ### lists that rise -/
abbrev Ent.key (e : Ent) : List UInt8 := e.word.toList
def Rises (es : List Ent) : Prop := es.Pairwise fun a b => bl a.key b.key = true
theorem findE_none {es : List Ent} {k : List UInt8} (h : ∀ e ∈ es, e.key ≠ k) : findE es k = none := by
  induction es with
  | nil => rfl
  | cons e es ih =>
    have h1 : (e.word.toList == k) = false := by simpa using h e (by simp)
    simp only [findE, h1]
    exact ih fun x hx => h x (by simp [hx])
theorem findE_some {es : List Ent} {k : List UInt8} {e : Ent} (h : findE es k = some e) : e ∈ es ∧ e.key = k := by
  induction es with
  | nil => simp [findE] at h
  | cons x es ih =>
    simp only [findE] at h
    split at h
    · rename_i hx; injection h with h; subst h; exact ⟨by simp, by simpa using hx⟩
    · obtain ⟨h1, h2⟩ := ih h; exact ⟨by simp [h1], h2⟩
theorem findE_append (a b : List Ent) (k : List UInt8) : findE (a ++ b) k = (findE a k).or (findE b k) := by
  induction a with
  | nil => simp [findE]
  | cons e a ih =>
    simp only [List.cons_append, findE]
    split
    · simp
    · exact ih
theorem findE_cons (e : Ent) (es : List Ent) (k : List UInt8) : findE (e :: es) k = if e.key = k then some e else findE es k := by
  simp only [findE]; congr 1; simp
theorem findE_mem {es : List Ent} (hs : Rises es) {e : Ent} (he : e ∈ es) : findE es e.key = some e := by
  induction es with
  | nil => cases he
  | cons x es ih =>
    rw [findE_cons]
    cases he with
    | head => simp
    | tail _ he =>
      have hx := List.rel_of_pairwise_cons hs he
      rw [if_neg (bl_ne hx)]
      exact ih (List.Pairwise.of_cons hs) he
theorem rises_ext {a b : List Ent} (ha : Rises a) (hb : Rises b) (h : ∀ k, findE a k = findE b k) : a = b := by
  induction a generalizing b with
  | nil =>
    cases b with
    | nil => rfl
    | cons y b => have := h y.key; rw [findE_mem hb (by simp)] at this; simp [findE] at this
  | cons x a ih =>
    cases b with
    | nil => have := h x.key; rw [findE_mem ha (by simp)] at this; simp [findE] at this
    | cons y b =>
      have h1 : findE (y :: b) x.key = some x := by rw [← h, findE_mem ha (by simp)]
      have h2 : findE (x :: a) y.key = some y := by rw [h, findE_mem hb (by simp)]
      have hxy : x = y := by
        rcases List.mem_cons.1 (findE_some h1).1 with e | hx
        · exact e
        · rcases List.mem_cons.1 (findE_some h2).1 with e | hy
          · exact e.symm
          · have k1 := List.rel_of_pairwise_cons hb hx
            have k2 := List.rel_of_pairwise_cons ha hy
            have := bl_trans k1 k2
            rw [bl_irrefl] at this; cases this
      subst hxy
      congr 1
      refine ih (List.Pairwise.of_cons ha) (List.Pairwise.of_cons hb) fun k => ?_
      by_cases hk : x.key = k
      · subst hk
        rw [findE_none fun e he => (bl_ne (List.rel_of_pairwise_cons ha he)).symm, findE_none fun e he => (bl_ne (List.rel_of_pairwise_cons hb he)).symm]
      · have := h k
        rwa [findE_cons, findE_cons, if_neg hk, if_neg hk] at this

/-! ### one entry put into a list -/
theorem ltE_iff (a b : Ent) : ltE a b = bl a.key b.key := rfl
theorem gtE_iff {a b : Ent} : gtE a b = true ↔ bl b.key a.key = true := by
  unfold gtE
  constructor
  · intro h
    simp only [Bool.and_eq_true, Bool.not_eq_true'] at h
    rcases bl_tri a.key b.key with k | k | k
    · have h1 := h.1; rw [show Op.bytesLess a.word.toList b.word.toList = true from k] at h1; cases h1
    · have h2 := h.2; rw [show a.word.toList = b.word.toList from k] at h2; simp at h2
    · exact k
  · intro h
    have h1 := bl_asymm h
    have h2 := bl_ne h
    simp only [Bool.and_eq_true, Bool.not_eq_true']
    exact ⟨h1, by simpa using h2.symm⟩
theorem takeWhile_lt_mem {es : List Ent} {x e : Ent} (h : e ∈ es.takeWhile (ltE · x)) : bl e.key x.key = true := by
  have := List.all_takeWhile (p := fun y => ltE y x) (l := es)
  exact (List.all_eq_true.1 this) e h
theorem rises_sublist {a b : List Ent} (h : a.Sublist b) (hb : Rises b) : Rises a := List.Pairwise.sublist h hb
theorem rises_one {es : List Ent} (hs : Rises es) (x : Ent) : Rises (oneE es x) := by
  unfold oneE Rises
  rw [List.pairwise_append, List.pairwise_cons]
  refine ⟨rises_sublist (List.takeWhile_sublist _) hs, ⟨fun e he => ?_, rises_sublist List.filter_sublist hs⟩, fun a ha e he => ?_⟩
  · exact gtE_iff.1 (List.mem_filter.1 he).2
  · have h1 := takeWhile_lt_mem ha
    rcases List.mem_cons.1 he with rfl | he
    · exact h1
    · exact bl_trans h1 (gtE_iff.1 (List.mem_filter.1 he).2)
theorem takeWhile_filter {es : List Ent} (hs : Rises es) (x : Ent) : es.takeWhile (ltE · x) = es.filter (ltE · x) := by
  induction es with
  | nil => rfl
  | cons e es ih =>
    rw [List.takeWhile_cons, List.filter_cons]
    cases he : ltE e x with
    | true => simp only [if_true]; rw [ih (List.Pairwise.of_cons hs)]
    | false =>
      simp only [Bool.false_eq_true, if_false]
      symm
      rw [List.filter_eq_nil_iff]
      intro y hy hyx
      have h1 := List.rel_of_pairwise_cons hs hy
      have h2 := bl_trans h1 (show bl y.key x.key = true from hyx)
      rw [show bl e.key x.key = false from he] at h2; cases h2
theorem length_one {es : List Ent} (hs : Rises es) (x : Ent) : (oneE es x).length ≤ es.length + 1 := by
  unfold oneE
  rw [takeWhile_filter hs]
  simp only [List.length_append, List.length_cons]
  have : (es.filter (ltE · x)).length + (es.filter (gtE · x)).length ≤ es.length := by
    clear hs
    induction es with
    | nil => simp
    | cons e es ih =>
      simp only [List.filter_cons, List.length_cons]
      cases h1 : ltE e x with
      | true =>
        have h2 : gtE e x = false := by
          cases h3 : gtE e x with
          | false => rfl
          | true => have := bl_asymm (gtE_iff.1 h3); rw [show bl e.key x.key = true from h1] at this; cases this
        simp only [h2, if_true, List.length_cons, Bool.false_eq_true, if_false]; omega
      | false => simp only [Bool.false_eq_true, if_false]; split <;> (try simp only [List.length_cons]) <;> omega
  omega
theorem findE_one {es : List Ent} (hs : Rises es) (x : Ent) (k : List UInt8) : findE (oneE es x) k = if x.key = k then some (bareE x) else findE es k := by
  by_cases hk : x.key = k
  · subst hk
    rw [if_pos rfl]
    exact findE_mem (e := bareE x) (rises_one hs x) (by simp [oneE])
  · rw [if_neg hk]
    unfold oneE
    rw [findE_append, findE_cons, if_neg (show (bareE x).key ≠ k from hk), takeWhile_filter hs]
    induction es with
    | nil => rfl
    | cons e es ih =>
      have hs' := List.Pairwise.of_cons hs
      specialize ih hs'
      rw [findE_cons]
      by_cases he : e.key = k
      · subst he
        rw [if_pos rfl, List.filter_cons, List.filter_cons]
        rcases bl_tri e.key x.key with h | h | h
        · rw [show ltE e x = true from h]; simp [findE_cons]
        · exact absurd h.symm hk
        · rw [show ltE e x = false from bl_asymm h, gtE_iff.2 h]
          simp only [Bool.false_eq_true, if_false, if_true, findE_cons]
          rw [findE_none (es := es.filter (ltE · x))]
          · rfl
          · intro y hy hye
            have h1 := (List.mem_filter.1 hy)
            have h2 := List.rel_of_pairwise_cons hs h1.1
            rw [show e.key = y.key from hye.symm] at h2
            rw [bl_irrefl] at h2; cases h2
      · rw [if_neg he, ← ih, List.filter_cons, List.filter_cons]
        have aux : ∀ (b : Bool) (l : List Ent), findE (if b = true then e :: l else l) k = findE l k := by
          intro b l; cases b
          · rfl
          · simp [findE_cons, he]
        rw [aux, aux]

/-! ### With -/
theorem rises_with {es : List Ent} (hs : Rises es) (more : List Ent) : Rises (withE es more) := by
  unfold withE
  induction more generalizing es with
  | nil => exact hs
  | cons x more ih => exact ih (rises_one hs x)
theorem length_with {es : List Ent} (hs : Rises es) (more : List Ent) : (withE es more).length ≤ es.length + more.length := by
  unfold withE
  induction more generalizing es with
  | nil => simp
  | cons x more ih => have h1 := ih (rises_one hs x); have h2 := length_one hs x; simp only [List.foldl_cons, List.length_cons]; omega
theorem findE_with {es : List Ent} (hs : Rises es) {more : List Ent} (hm : Rises more) (k : List UInt8) : findE (withE es more) k = ((findE more k).map bareE).or (findE es k) := by
  unfold withE
  induction more generalizing es with
  | nil => simp [findE]
  | cons x more ih =>
    simp only [List.foldl_cons]
    rw [ih (rises_one hs x) (List.Pairwise.of_cons hm), findE_one hs, findE_cons]
    by_cases hk : x.key = k
    · subst hk
      rw [if_pos rfl, if_pos rfl, findE_none fun e he => (bl_ne (List.rel_of_pairwise_cons hm he)).symm]
      rfl
    · rw [if_neg hk, if_neg hk]

/-! ### Live -/
def liveE (es : List Ent) : List Ent := es.filter fun e => !e.gone
theorem rises_live {es : List Ent} (hs : Rises es) : Rises (liveE es) := rises_sublist List.filter_sublist hs
theorem findE_live {es : List Ent} (hs : Rises es) (k : List UInt8) : findE (liveE es) k = (findE es k).filter fun e => !e.gone := by
  unfold liveE
  induction es with
  | nil => rfl
  | cons e es ih =>
    have hs' := List.Pairwise.of_cons hs
    rw [findE_cons, List.filter_cons]
    by_cases hk : e.key = k
    · subst hk
      rw [if_pos rfl]
      have h0 : findE (es.filter fun e => !e.gone) e.key = none := findE_none fun y hy => (bl_ne (List.rel_of_pairwise_cons hs (List.mem_filter.1 hy).1)).symm
      cases hg : e.gone with
      | true => simp [h0, hg, Option.filter]
      | false => simp [findE_cons, hg, Option.filter]
    · rw [if_neg hk, ← ih hs']
      split
      · rw [findE_cons, if_neg hk]
      · rfl
end Go.Proofs.Ytdlcnpjdloinnaa
