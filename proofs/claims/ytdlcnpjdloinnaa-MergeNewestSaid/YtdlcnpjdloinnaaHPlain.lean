/- Plain laws: lists of hits and their entries, told together; what is found up to a bound. -/
import Derived.Test.YtdlcnpjdloinnaaHMake
import Derived.Test.YtdlcnpjdloinnaaBotPlain
namespace Go.Proofs.Ytdlcnpjdloinnaa.H
open Go.RowKit

/-! ### the entries of hits, told together -/
section
variable (g : Hit → Ent)
theorem get_map (R : List (List Hit)) (i : Nat) : (R.map (List.map g))[i]? = (R[i]?).map (List.map g) := List.getElem?_map
theorem pick_map (hg : ∀ h, (g h).word = h.word) (R : List (List Hit)) (j : Nat) : Ytdlcnpjdloinnaa.pickTo (R.map (List.map g)) j = pickTo R j := by
  induction j with
  | zero => rfl
  | succ j ih =>
    simp only [Ytdlcnpjdloinnaa.pickTo, pickTo, Ytdlcnpjdloinnaa.better, better, ih, get_map]
    cases hj : R[j]? with
    | none => rfl
    | some l =>
      cases l with
      | nil => rfl
      | cons e t =>
        simp only [Option.map_some, List.map_cons]
        cases hp : pickTo R j with
        | none => rfl
        | some f =>
          simp only
          cases hf : R[f]? with
          | none => rfl
          | some l' =>
            cases l' with
            | nil => rfl
            | cons e' t' =>
              simp only [Option.map_some, List.map_cons, Ytdlcnpjdloinnaa.ltE, ltE, hg]
              rfl
theorem drop_map (hg : ∀ h, (g h).word = h.word) (w : List UInt8) (l : List Hit) : Ytdlcnpjdloinnaa.dropHead w (l.map g) = (dropHead w l).map g := by
  cases l with
  | nil => rfl
  | cons e t =>
    simp only [List.map_cons, Ytdlcnpjdloinnaa.dropHead, dropHead, hg]
    split <;> simp
theorem tog_map (hg : ∀ h, (g h).word = h.word) (n : Nat) (R : List (List Hit)) : Ytdlcnpjdloinnaa.tog n (R.map (List.map g)) = (tog n R).map g := by
  induction n generalizing R with
  | zero => rfl
  | succ n ih =>
    simp only [Ytdlcnpjdloinnaa.tog, tog, List.length_map, pick_map g hg]
    cases hp : pickTo R R.length with
    | none => rfl
    | some f =>
      simp only [Option.bind_some, Ytdlcnpjdloinnaa.headAt, headAt, get_map]
      cases hf : R[f]? with
      | none => rfl
      | some l =>
        cases l with
        | nil => rfl
        | cons e t =>
          simp only [Option.map_some, List.map_cons, Option.bind_some, List.head?_cons, hg]
          congr 1
          rw [← ih]
          congr 1
          rw [List.map_map, List.map_map]
          exact List.map_congr_left fun l _ => drop_map g hg _ l
theorem total_map (R : List (List Hit)) : Ytdlcnpjdloinnaa.total (R.map (List.map g)) = total R := by
  simp only [Ytdlcnpjdloinnaa.total, total, List.map_map]
  congr 1
  exact List.map_congr_left fun l _ => by simp
theorem togE_map (hg : ∀ h, (g h).word = h.word) (R : List (List Hit)) : Ytdlcnpjdloinnaa.togE (R.map (List.map g)) = (togE R).map g := by
  unfold Ytdlcnpjdloinnaa.togE togE
  rw [total_map, tog_map g hg]
end
theorem ent_hit (b : Int) (e : Ent) : (hitOf b e).ent = e := rfl
theorem ents_hits (b : Int) (l : List Ent) : (hitsOf b l).map Hit.ent = l := by
  unfold hitsOf
  rw [List.map_map]
  exact (List.map_congr_left fun e _ => ent_hit b e).trans (List.map_id' l)
theorem live_ents (l : List Hit) : liveE (l.map Hit.ent) = (liveH l).map Hit.ent := by
  unfold liveE liveH
  rw [List.filter_map]; rfl
theorem mem_tog {R : List (List Hit)} {x : Hit} (h : x ∈ togE R) : ∃ l ∈ R, x ∈ l := tog_mem h
/-- hits of entries, by one number: told together they are the hits of the entries told together -/
theorem tog_hits (b : Int) (L : List (List Ent)) : togE (L.map (hitsOf b)) = hitsOf b (Ytdlcnpjdloinnaa.togE L) := by
  have h1 : (L.map (hitsOf b)).map (List.map Hit.ent) = L := by
    rw [List.map_map]
    exact (List.map_congr_left fun l _ => ents_hits b l).trans (List.map_id' L)
  have h2 := togE_map Hit.ent (fun _ => rfl) (L.map (hitsOf b))
  rw [h1] at h2
  rw [h2]
  unfold hitsOf
  rw [List.map_map]
  have h3 : ∀ x ∈ togE (L.map (hitsOf b)), (hitOf b ∘ Hit.ent) x = x := fun x hx => by
    obtain ⟨l, hl, hxl⟩ := mem_tog hx
    obtain ⟨l0, _, rfl⟩ := List.mem_map.1 hl
    obtain ⟨e, _, rfl⟩ := List.mem_map.1 hxl
    rfl
  exact ((List.map_congr_left h3).trans (List.map_id' _)).symm

/-! ### what hangs on the word alone -/
def Worded (p : Ent → Bool) : Prop := ∀ a b : Ent, a.key = b.key → p a = p b
theorem key_word {a b : Ent} (h : a.key = b.key) : a.word = b.word := by
  have h1 : a.word.data.toList = b.word.data.toList := by rw [← ByteArray.toList_eq, ← ByteArray.toList_eq]; exact h
  exact ByteArray.ext (Array.ext' h1)
theorem findE_filter {p : Ent → Bool} (hp : Worded p) (l : List Ent) (k : List UInt8) : Ytdlcnpjdloinnaa.findE (l.filter p) k = (Ytdlcnpjdloinnaa.findE l k).filter p := by
  induction l with
  | nil => rfl
  | cons e l ih =>
    rw [List.filter_cons, Ytdlcnpjdloinnaa.findE_cons]
    by_cases hk : e.key = k
    · rw [if_pos hk]
      cases hpe : p e with
      | true => rw [if_pos rfl, Ytdlcnpjdloinnaa.findE_cons, if_pos hk]; simp [Option.filter, hpe]
      | false =>
        rw [if_neg (by decide), ih]
        simp only [Option.filter, hpe]
        cases hf : Ytdlcnpjdloinnaa.findE l k with
        | none => rfl
        | some x =>
          have := Ytdlcnpjdloinnaa.findE_some hf
          simp [(hp x e (this.2.trans hk.symm)).trans hpe]
    · rw [if_neg hk, ← ih]
      split
      · rw [Ytdlcnpjdloinnaa.findE_cons, if_neg hk]
      · rfl
theorem fst_key {L : List (List Ent)} {k : List UInt8} {x : Ent} (h : Ytdlcnpjdloinnaa.fst L k = some x) : x.key = k := by
  unfold Ytdlcnpjdloinnaa.fst at h
  obtain ⟨l, _, h⟩ := List.exists_of_findSome?_eq_some h
  exact (Ytdlcnpjdloinnaa.findE_some h).2
theorem fst_filter {p : Ent → Bool} (hp : Worded p) (L : List (List Ent)) (k : List UInt8) : Ytdlcnpjdloinnaa.fst (L.map (List.filter p)) k = (Ytdlcnpjdloinnaa.fst L k).filter p := by
  induction L with
  | nil => rfl
  | cons l L ih =>
    rw [List.map_cons, Ytdlcnpjdloinnaa.fst_cons, Ytdlcnpjdloinnaa.fst_cons, ih, findE_filter hp]
    cases h1 : Ytdlcnpjdloinnaa.findE l k with
    | none => rfl
    | some x =>
      have hx := (Ytdlcnpjdloinnaa.findE_some h1).2
      cases hpx : p x with
      | true => simp [Option.filter, hpx]
      | false =>
        cases h2 : Ytdlcnpjdloinnaa.fst L k with
        | none => simp [Option.filter, hpx]
        | some y => simp [Option.filter, hpx, hp y x ((fst_key h2).trans hx.symm)]
theorem tog_filter {p : Ent → Bool} (hp : Worded p) {L : List (List Ent)} (hs : ∀ l ∈ L, Ytdlcnpjdloinnaa.Rises l) : Ytdlcnpjdloinnaa.togE (L.map (List.filter p)) = (Ytdlcnpjdloinnaa.togE L).filter p := by
  refine Ytdlcnpjdloinnaa.tog_eq (fun l hl => ?_) (Ytdlcnpjdloinnaa.rises_sublist List.filter_sublist (Ytdlcnpjdloinnaa.rises_tog hs)) fun k => ?_
  · obtain ⟨l0, h0, rfl⟩ := List.mem_map.1 hl
    exact Ytdlcnpjdloinnaa.rises_sublist List.filter_sublist (hs l0 h0)
  · rw [fst_filter hp, findE_filter hp, Ytdlcnpjdloinnaa.findE_tog hs]
theorem near_hits (b most : Int) (l : List Ent) : nearH most (hitsOf b l) = hitsOf b (l.filter fun e => decide (hitD b e.word ≤ most)) := by
  unfold nearH hitsOf
  rw [List.filter_map]; rfl
theorem live_hits (b : Int) (l : List Ent) : liveH (hitsOf b l) = hitsOf b (liveE l) := by
  unfold liveH liveE hitsOf
  rw [List.filter_map]; rfl
theorem finds_law (b most : Int) {L : List (List Ent)} (hs : ∀ l ∈ L, Ytdlcnpjdloinnaa.Rises l) : liveH (togE (L.map fun l => nearH most (hitsOf b l))) = nearH most (hitsOf b (liveE (Ytdlcnpjdloinnaa.togE L))) := by
  have hp : Worded fun e => decide (hitD b e.word ≤ most) := fun x y h => by show decide _ = decide _; rw [key_word h]
  have h1 : (L.map fun l => nearH most (hitsOf b l)) = (L.map (List.filter fun e => decide (hitD b e.word ≤ most))).map (hitsOf b) := by
    rw [List.map_map]
    exact List.map_congr_left fun l _ => near_hits b most l
  rw [h1, tog_hits, tog_filter hp hs, live_hits, near_hits]
  unfold liveE
  rw [List.filter_filter, List.filter_filter]
  congr 1
  exact List.filter_congr fun x _ => Bool.and_comm _ _
/-! ### lists of drafts: no long words, and bare entries -/
theorem one_mem {es : List Ent} {x e : Ent} (h : e ∈ oneE es x) : e ∈ es ∨ e = bareE x := by
  unfold oneE at h
  rcases List.mem_append.1 h with h | h
  · exact .inl ((List.takeWhile_sublist _).subset h)
  · rcases List.mem_cons.1 h with h | h
    · exact .inr h
    · exact .inl (List.filter_sublist.subset h)
theorem with_mem {es more : List Ent} {e : Ent} (h : e ∈ withE es more) : e ∈ es ∨ ∃ x ∈ more, e = bareE x := by
  unfold withE at h
  induction more generalizing es with
  | nil => exact .inl h
  | cons x more ih =>
    rcases ih h with h1 | ⟨y, hy, h1⟩
    · rcases one_mem h1 with h2 | h2
      · exact .inl h2
      · exact .inr ⟨x, List.mem_cons_self .., h2⟩
    · exact .inr ⟨y, List.mem_cons_of_mem _ hy, h1⟩
theorem list_mem {ds : List Dra} {e : Ent} (h : e ∈ listOf ds) : ∃ d : Dra, e = bareE d.ent := by
  rcases with_mem h with h | ⟨x, hx, rfl⟩
  · cases h
  · obtain ⟨d, _, rfl⟩ := List.mem_map.1 hx
    exact ⟨d, rfl⟩
theorem dword_size (l : List Int) : (dword l).size ≤ 9 := by
  unfold dword
  split
  · decide
  · rw [dbody_size]; simp; omega
theorem bare_bare (e : Ent) : bareE (bareE e) = bareE e := by
  unfold bareE bareW
  cases e.gone <;> rfl
theorem listsOf_words (D : List (List Dra)) : ∀ l ∈ listsOf D, ∀ e ∈ l, e.word.size ≤ 9 := by
  intro l hl e he
  obtain ⟨ds, _, rfl⟩ := List.mem_map.1 hl
  obtain ⟨d, rfl⟩ := list_mem he
  exact dword_size _
theorem listsOf_bare (D : List (List Dra)) : ∀ l ∈ listsOf D, Bare l := by
  intro l hl e he
  obtain ⟨ds, _, rfl⟩ := List.mem_map.1 hl
  obtain ⟨d, rfl⟩ := list_mem he
  exact bare_bare _
theorem tog_words {L : List (List Ent)} {n : Nat} (h : ∀ l ∈ L, ∀ e ∈ l, e.word.size ≤ n) : ∀ e ∈ Ytdlcnpjdloinnaa.togE L, e.word.size ≤ n := by
  intro e he
  obtain ⟨l, hl, hel⟩ := Ytdlcnpjdloinnaa.tog_mem he
  exact h l hl e hel
end Go.Proofs.Ytdlcnpjdloinnaa.H
