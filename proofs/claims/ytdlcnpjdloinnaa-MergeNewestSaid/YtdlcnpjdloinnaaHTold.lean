/- Plain laws: lists of hits that rise, told together, and looked up. -/
import Derived.Test.YtdlcnpjdloinnaaTold
import Derived.Test.YtdlcnpjdloinnaaHGath
namespace Go.Proofs.Ytdlcnpjdloinnaa.H
open Go.RowKit

def findE : List Hit → List UInt8 → Option Hit
  | [], _ => none
  | e :: es, k => if e.word.toList == k then some e else findE es k
theorem ltE_iff (a b : Hit) : ltE a b = bl a.key b.key := rfl
/-! ### lists that rise -/
def Rises (es : List Hit) : Prop := es.Pairwise fun a b => bl a.key b.key = true
theorem findE_none {es : List Hit} {k : List UInt8} (h : ∀ e ∈ es, e.key ≠ k) : findE es k = none := by
  induction es with
  | nil => rfl
  | cons e es ih =>
    have h1 : (e.word.toList == k) = false := by simpa using h e (by simp)
    simp only [findE, h1]
    exact ih fun x hx => h x (by simp [hx])
theorem findE_some {es : List Hit} {k : List UInt8} {e : Hit} (h : findE es k = some e) : e ∈ es ∧ e.key = k := by
  induction es with
  | nil => simp [findE] at h
  | cons x es ih =>
    simp only [findE] at h
    split at h
    · rename_i hx; injection h with h; subst h; exact ⟨by simp, by simpa using hx⟩
    · obtain ⟨h1, h2⟩ := ih h; exact ⟨by simp [h1], h2⟩
theorem findE_append (a b : List Hit) (k : List UInt8) : findE (a ++ b) k = (findE a k).or (findE b k) := by
  induction a with
  | nil => simp [findE]
  | cons e a ih =>
    simp only [List.cons_append, findE]
    split
    · simp
    · exact ih
theorem findE_cons (e : Hit) (es : List Hit) (k : List UInt8) : findE (e :: es) k = if e.key = k then some e else findE es k := by
  simp only [findE]; congr 1; simp
theorem findE_mem {es : List Hit} (hs : Rises es) {e : Hit} (he : e ∈ es) : findE es e.key = some e := by
  induction es with
  | nil => cases he
  | cons x es ih =>
    rw [findE_cons]
    cases he with
    | head => simp
    | tail _ he =>
      have hx := List.rel_of_pairwise_cons hs he
      rw [if_neg (bl_ne hx)]
      exact ih (List.Pairwise.of_cons hs) he
theorem rises_ext {a b : List Hit} (ha : Rises a) (hb : Rises b) (h : ∀ k, findE a k = findE b k) : a = b := by
  induction a generalizing b with
  | nil =>
    cases b with
    | nil => rfl
    | cons y b => have := h y.key; rw [findE_mem hb (by simp)] at this; simp [findE] at this
  | cons x a ih =>
    cases b with
    | nil => have := h x.key; rw [findE_mem ha (by simp)] at this; simp [findE] at this
    | cons y b =>
      have h1 : findE (y :: b) x.key = some x := by rw [← h, findE_mem ha (by simp)]
      have h2 : findE (x :: a) y.key = some y := by rw [h, findE_mem hb (by simp)]
      have hxy : x = y := by
        rcases List.mem_cons.1 (findE_some h1).1 with e | hx
        · exact e
        · rcases List.mem_cons.1 (findE_some h2).1 with e | hy
          · exact e.symm
          · have k1 := List.rel_of_pairwise_cons hb hx
            have k2 := List.rel_of_pairwise_cons ha hy
            have := bl_trans k1 k2
            rw [bl_irrefl] at this; cases this
      subst hxy
      congr 1
      refine ih (List.Pairwise.of_cons ha) (List.Pairwise.of_cons hb) fun k => ?_
      by_cases hk : x.key = k
      · subst hk
        rw [findE_none fun e he => (bl_ne (List.rel_of_pairwise_cons ha he)).symm, findE_none fun e he => (bl_ne (List.rel_of_pairwise_cons hb he)).symm]
      · have := h k
        rwa [findE_cons, findE_cons, if_neg hk, if_neg hk] at this

theorem rises_sublist {a b : List Hit} (h : a.Sublist b) (hb : Rises b) : Rises a := List.Pairwise.sublist h hb
theorem rises_live {es : List Hit} (hs : Rises es) : Rises (liveH es) := rises_sublist List.filter_sublist hs
theorem findE_live {es : List Hit} (hs : Rises es) (k : List UInt8) : findE (liveH es) k = (findE es k).filter fun e => !e.gone := by
  unfold liveH
  induction es with
  | nil => rfl
  | cons e es ih =>
    have hs' := List.Pairwise.of_cons hs
    rw [findE_cons, List.filter_cons]
    by_cases hk : e.key = k
    · subst hk
      rw [if_pos rfl]
      have h0 : findE (es.filter fun e => !e.gone) e.key = none := findE_none fun y hy => (bl_ne (List.rel_of_pairwise_cons hs (List.mem_filter.1 hy).1)).symm
      cases hg : e.gone with
      | true => simp [h0, hg, Option.filter]
      | false => simp [findE_cons, hg, Option.filter]
    · rw [if_neg hk, ← ih hs']
      split
      · rw [findE_cons, if_neg hk]
      · rfl
theorem pick_none {R : List (List Hit)} {j : Nat} (h : pickTo R j = none) {i : Nat} (hi : i < j) {l : List Hit} (hl : R[i]? = some l) : l = [] := by
  induction j generalizing i l with
  | zero => omega
  | succ j ih =>
    simp only [pickTo, better] at h
    split at h
    · split at h
      · cases h
      · split at h
        · split at h <;> cases h
        · cases h
    · rename_i hne
      by_cases e : i = j
      · subst e
        cases l with
        | nil => rfl
        | cons x t => exact absurd hl (hne x t)
      · exact ih h (by omega) hl
theorem pick_min {R : List (List Hit)} {j f : Nat} (h : pickTo R j = some f) {e : Hit} {t : List Hit} (he : R[f]? = some (e :: t)) :
    (∀ i e' t', i < j → R[i]? = some (e' :: t') → bl e'.key e.key = false) ∧ (∀ i e' t', i < f → R[i]? = some (e' :: t') → bl e.key e'.key = true) := by
  induction j generalizing f e t with
  | zero => simp [pickTo] at h
  | succ j ih =>
    simp only [pickTo, better] at h
    split at h
    · rename_i x tx hx
      split at h
      · rename_i hn
        injection h with h; subst h
        rw [hx] at he; injection he with he; injection he with he1 he2; subst he1
        refine ⟨fun i e' t' hi hi' => ?_, fun i e' t' hi hi' => ?_⟩
        · by_cases e0 : i = j
          · subst e0; rw [hx] at hi'; injection hi' with hi'; injection hi' with h1 h2; subst h1; exact bl_irrefl _
          · have := pick_none hn (show i < j by omega) hi'; cases this
        · have := pick_none hn hi hi'; cases this
      · rename_i f' hf'
        obtain ⟨hlt, y, ty, hy⟩ := pickTo_some hf'
        obtain ⟨k1, k2⟩ := ih hf' hy
        rw [hy] at h
        simp only at h
        split at h
        · rename_i hl
          injection h with h; subst h
          rw [hx] at he; injection he with he; injection he with he1 he2; subst he1
          have hxy : bl x.key y.key = true := hl
          have hall : ∀ i e' t', i < j → R[i]? = some (e' :: t') → bl x.key e'.key = true := fun i e' t' hi hi' => by
            rcases bl_false (k1 i e' t' hi hi') with h1 | h1
            · rw [h1]; exact hxy
            · exact bl_trans hxy h1
          refine ⟨fun i e' t' hi hi' => ?_, fun i e' t' hi hi' => hall i e' t' hi hi'⟩
          by_cases e0 : i = j
          · subst e0; rw [hx] at hi'; injection hi' with hi'; injection hi' with h1 h2; subst h1; exact bl_irrefl _
          · exact bl_asymm (hall i e' t' (by omega) hi')
        · rename_i hl
          injection h with h; subst h
          rw [hy] at he; injection he with he; injection he with he1 he2; subst he1
          refine ⟨fun i e' t' hi hi' => ?_, fun i e' t' hi hi' => k2 i e' t' hi hi'⟩
          by_cases e0 : i = j
          · subst e0; rw [hx] at hi'; injection hi' with hi'; injection hi' with h1 h2; subst h1
            simpa [ltE_iff] using hl
          · exact k1 i e' t' (by omega) hi'
    · rename_i hne
      obtain ⟨k1, k2⟩ := ih h he
      refine ⟨fun i e' t' hi hi' => ?_, k2⟩
      by_cases e0 : i = j
      · subst e0; exact absurd hi' (hne e' t')
      · exact k1 i e' t' (by omega) hi'

/-- the entry of the first list that has the word -/
def fst (L : List (List Hit)) (k : List UInt8) : Option Hit := L.findSome? (findE · k)
theorem fst_cons (l : List Hit) (L : List (List Hit)) (k : List UInt8) : fst (l :: L) k = (findE l k).or (fst L k) := by
  unfold fst; rw [List.findSome?_cons]; cases findE l k <;> rfl
theorem fst_append (a b : List (List Hit)) (k : List UInt8) : fst (a ++ b) k = (fst a k).or (fst b k) := by
  induction a with
  | nil => simp [fst]
  | cons l a ih => rw [List.cons_append, fst_cons, fst_cons, ih, Option.or_assoc]
theorem fst_at {R : List (List Hit)} {f : Nat} {l : List Hit} {k : List UInt8} {x : Hit} (hf : R[f]? = some l) (hx : findE l k = some x) (hn : ∀ i l', i < f → R[i]? = some l' → findE l' k = none) : fst R k = some x := by
  induction R generalizing f with
  | nil => simp at hf
  | cons l0 R ih =>
    rw [fst_cons]
    cases f with
    | zero => simp at hf; subst hf; rw [hx]; rfl
    | succ f =>
      rw [hn 0 l0 (by omega) rfl, ih (f := f) (by simpa using hf) (fun i l' hi hl' => hn (i + 1) l' (by omega) (by simpa using hl'))]; rfl
theorem findE_drop {w k : List UInt8} (h : k ≠ w) (l : List Hit) : findE (dropHead w l) k = findE l k := by
  cases l with
  | nil => rfl
  | cons e t =>
    simp only [dropHead]
    split
    · rename_i hk
      rw [findE_cons, if_neg]
      intro h1; exact h (h1.symm.trans (by simpa [Hit.key] using hk))
    · rfl
theorem fst_drop {w k : List UInt8} (h : k ≠ w) (R : List (List Hit)) : fst (R.map (dropHead w)) k = fst R k := by
  induction R with
  | nil => rfl
  | cons l R ih => rw [List.map_cons, fst_cons, fst_cons, ih, findE_drop h]
theorem drop_sub (w : List UInt8) (l : List Hit) : (dropHead w l).Sublist l := by
  cases l with
  | nil => exact List.Sublist.refl _
  | cons e t => simp only [dropHead]; split; exact List.sublist_cons_self _ _; exact List.Sublist.refl _
theorem tog_mem {n : Nat} {R : List (List Hit)} {x : Hit} (hx : x ∈ tog n R) : ∃ l ∈ R, x ∈ l := by
  induction n generalizing R with
  | zero => simp [tog] at hx
  | succ n ih =>
    cases hp : pickTo R R.length with
    | none => rw [tog_none hp] at hx; cases hx
    | some f =>
      obtain ⟨_, e, t, he⟩ := pickTo_some hp
      simp only [tog, hp, headAt, Option.bind_some, he, List.head?_cons] at hx
      rcases List.mem_cons.1 hx with rfl | hx
      · exact ⟨_, List.mem_of_getElem? he, List.mem_cons_self ..⟩
      · obtain ⟨l, hl, hxl⟩ := ih hx
        obtain ⟨l0, h0, rfl⟩ := List.mem_map.1 hl
        exact ⟨l0, h0, (drop_sub _ _).subset hxl⟩
theorem above_head {e : Hit} {l : List Hit} (hs : Rises l) (hh : ∀ x t, l = x :: t → bl e.key x.key = true) : ∀ x ∈ l, bl e.key x.key = true := by
  intro x hx
  cases l with
  | nil => cases hx
  | cons y t =>
    have h1 := hh y t rfl
    rcases List.mem_cons.1 hx with rfl | hx
    · exact h1
    · exact bl_trans h1 (List.rel_of_pairwise_cons hs hx)
theorem mem_total {R : List (List Hit)} {l : List Hit} (h : l ∈ R) : l.length ≤ total R := by
  induction R with
  | nil => cases h
  | cons a R ih =>
    simp only [total, List.map_cons, List.sum_cons] at ih ⊢
    rcases List.mem_cons.1 h with rfl | h
    · omega
    · have := ih h; omega
theorem tog_law {n : Nat} {R : List (List Hit)} (hn : total R ≤ n) (hs : ∀ l ∈ R, Rises l) : Rises (tog n R) ∧ ∀ k, findE (tog n R) k = fst R k := by
  induction n generalizing R with
  | zero =>
    refine ⟨List.Pairwise.nil, fun k => ?_⟩
    have hz : fst R k = none := by
      unfold fst
      rw [List.findSome?_eq_none_iff]
      intro l hl
      have h2 := mem_total hl
      have : l = [] := List.eq_nil_of_length_eq_zero (by omega)
      subst this; rfl
    rw [hz]; rfl
  | succ n ih =>
    cases hp : pickTo R R.length with
    | none =>
      rw [tog_none hp]
      refine ⟨List.Pairwise.nil, fun k => ?_⟩
      have hz : fst R k = none := by
        unfold fst
        rw [List.findSome?_eq_none_iff]
        intro l hl
        obtain ⟨i, hi, rfl⟩ := List.getElem_of_mem hl
        rw [pick_none hp hi (List.getElem?_eq_getElem hi)]; rfl
      rw [hz]; rfl
    | some f =>
      obtain ⟨hfl, e, t, he⟩ := pickTo_some hp
      obtain ⟨k1, k2⟩ := pick_min hp he
      have hlt := total_drop_lt he (show (e.word.toList == e.word.toList) = true by simp)
      obtain ⟨i1, i2⟩ := ih (R := R.map (dropHead e.word.toList)) (by omega) (fun l hl => by
        obtain ⟨l0, h0, rfl⟩ := List.mem_map.1 hl
        exact rises_sublist (drop_sub _ _) (hs l0 h0))
      have hst : tog (n + 1) R = e :: tog n (R.map (dropHead e.word.toList)) := by simp [tog, hp, headAt, he]
      rw [hst]
      refine ⟨List.pairwise_cons.2 ⟨fun x hx => ?_, i1⟩, fun k => ?_⟩
      · obtain ⟨l, hl, hxl⟩ := tog_mem hx
        obtain ⟨l0, h0, rfl⟩ := List.mem_map.1 hl
        obtain ⟨i, hi, rfl⟩ := List.getElem_of_mem h0
        refine above_head (rises_sublist (drop_sub _ _) (hs _ h0)) (fun y ty hy => ?_) x hxl
        cases hR : R[i] with
        | nil => rw [hR] at hy; cases hy
        | cons z tz =>
          have hR' : R[i]? = some (z :: tz) := by rw [List.getElem?_eq_getElem hi, hR]
          have hz := k1 i z tz hi hR'
          have hrz := hs _ h0
          rw [hR] at hy hrz
          simp only [dropHead] at hy
          split at hy
          · rename_i hzw
            have hzw' : z.key = e.key := by simpa [Hit.key] using hzw
            subst hy
            rw [← hzw']
            exact List.rel_of_pairwise_cons hrz (List.mem_cons_self ..)
          · rename_i hzw
            injection hy with hy1 hy2
            subst hy1
            rcases bl_false hz with h3 | h3
            · exact absurd (by simpa [Hit.key] using h3) hzw
            · exact h3
      · rw [findE_cons]
        by_cases hk : e.key = k
        · rw [if_pos hk]; subst hk
          symm
          refine fst_at he (by rw [findE_cons, if_pos rfl]) (fun i l' hi hl' => findE_none fun y hy hyk => ?_)
          have hb := above_head (e := e) (hs l' (List.mem_of_getElem? hl')) (fun z tz hz => k2 i z tz hi (by rw [hl', hz])) y hy
          exact bl_ne hb hyk.symm
        · rw [if_neg hk, i2 k, fst_drop (fun h => hk h.symm)]
theorem rises_tog {R : List (List Hit)} (hs : ∀ l ∈ R, Rises l) : Rises (togE R) := (tog_law (Nat.le_refl _) hs).1
theorem findE_tog {R : List (List Hit)} (hs : ∀ l ∈ R, Rises l) (k : List UInt8) : findE (togE R) k = fst R k := (tog_law (Nat.le_refl _) hs).2 k
theorem tog_ext {R S : List (List Hit)} (hr : ∀ l ∈ R, Rises l) (hs : ∀ l ∈ S, Rises l) (h : ∀ k, fst R k = fst S k) : togE R = togE S :=
  rises_ext (rises_tog hr) (rises_tog hs) fun k => by rw [findE_tog hr, findE_tog hs, h]
theorem tog_eq {R : List (List Hit)} {es : List Hit} (hr : ∀ l ∈ R, Rises l) (hs : Rises es) (h : ∀ k, fst R k = findE es k) : togE R = es :=
  rises_ext (rises_tog hr) hs fun k => by rw [findE_tog hr, h]
end Go.Proofs.Ytdlcnpjdloinnaa.H
