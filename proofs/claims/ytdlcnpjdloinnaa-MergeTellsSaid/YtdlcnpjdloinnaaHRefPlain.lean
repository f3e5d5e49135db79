/- Plain laws: the document's answer for hits is what merge.Hits gives. -/
import Derived.Test.YtdlcnpjdloinnaaHPlain
namespace Go.Proofs.Ytdlcnpjdloinnaa.H
open Go.RowKit
abbrev ents (L : List (List Hit)) : List (List Ent) := L.map (List.map Hit.ent)
theorem find_ent (l : List Hit) (k : List UInt8) : Ytdlcnpjdloinnaa.findE (l.map Hit.ent) k = (findE l k).map Hit.ent := by
  induction l with
  | nil => rfl
  | cons h l ih =>
    rw [List.map_cons, Ytdlcnpjdloinnaa.findE_cons, findE_cons, ih]
    show (if h.key = k then _ else _) = _
    split <;> rfl
theorem rises_ent {l : List Hit} (h : Rises l) : Ytdlcnpjdloinnaa.Rises (l.map Hit.ent) := List.Pairwise.map _ (fun _ _ h => h) h
theorem rises_ents {L : List (List Hit)} (h : ∀ l ∈ L, Rises l) : ∀ l ∈ ents L, Ytdlcnpjdloinnaa.Rises l := fun l hl => by
  obtain ⟨l0, h0, rfl⟩ := List.mem_map.1 hl
  exact rises_ent (h l0 h0)
theorem fst_some {L : List (List Hit)} {k : List UInt8} {g : Hit} (h : fst L k = some g) : ∃ (n : Nat) (l : List Hit), L[n]? = some l ∧ findE l k = some g ∧ ∀ (i : Nat), i < n → ∀ l', L[i]? = some l' → findE l' k = none := by
  induction L with
  | nil => simp [fst] at h
  | cons l L ih =>
    rw [fst_cons] at h
    cases hl : findE l k with
    | some x =>
      rw [hl] at h
      simp at h
      subst h
      exact ⟨0, l, rfl, hl, fun i hi => absurd hi (by omega)⟩
    | none =>
      rw [hl] at h
      simp at h
      obtain ⟨n, l', h1, h2, h3⟩ := ih h
      refine ⟨n + 1, l', by simpa using h1, h2, fun i hi l2 hl2 => ?_⟩
      cases i with
      | zero => simp at hl2; subst hl2; exact hl
      | succ i => exact h3 i (by omega) l2 (by simpa using hl2)
theorem filter_key {l : List Hit} (hs : Rises l) {g : Hit} (hg : g ∈ l) : l.filter (fun h => h.word.toList == g.word.toList) = [g] := by
  induction l with
  | nil => cases hg
  | cons x l ih =>
    have hs' := List.Pairwise.of_cons hs
    rcases List.mem_cons.1 hg with rfl | hg
    · rw [List.filter_cons_of_pos (by simp)]
      congr 1
      rw [List.filter_eq_nil_iff]
      intro y hy hyk
      have h1 := List.rel_of_pairwise_cons hs hy
      exact bl_ne h1 (by simpa using hyk : y.word.toList = g.word.toList).symm
    · have h1 := List.rel_of_pairwise_cons hs hg
      rw [List.filter_cons_of_neg (by simpa using bl_ne h1)]
      exact ih hs' hg
theorem source_of {L : List (List Hit)} (hs : ∀ l ∈ L, Rises l) {g : Hit} (hg : g ∈ liveH (togE L)) :
    ∃ (n : Nat) (hn : n < L.length), sourceE (ents L) g.word.toList = some n ∧ (L[n]).filter (fun h => h.word.toList == g.word.toList) = [g] := by
  have h1 : g ∈ togE L := List.filter_sublist.subset hg
  have h2 : findE (togE L) g.key = some g := findE_mem (rises_tog hs) h1
  rw [findE_tog hs] at h2
  obtain ⟨n, l, h3, h4, h5⟩ := fst_some h2
  obtain ⟨hn, rfl⟩ := List.getElem?_eq_some_iff.1 h3
  refine ⟨n, hn, ?_, filter_key (hs _ (List.getElem_mem hn)) (findE_some h4).1⟩
  refine src_some (l := (L[n]).map Hit.ent) (x := g.ent) (fun i hi l' hl' => ?_) (by simp [ents, hn]) (by rw [find_ent]; show (findE L[n] g.key).map _ = _; rw [h4]; rfl)
  simp only [ents, List.getElem?_map] at hl'
  cases hi' : L[i]? with
  | none => rw [hi'] at hl'; cases hl'
  | some l0 =>
    rw [hi'] at hl'
    injection hl' with hl'
    subst hl'
    rw [find_ent]
    show (findE l0 g.key).map _ = _
    rw [h5 i hi l0 hi']; rfl
theorem ref_live {L : List (List Hit)} (hs : ∀ l ∈ L, Rises l) (hb : ∀ l ∈ ents L, Bare l) : liveE (refE (ents L)) = (liveH (togE L)).map Hit.ent := by
  rw [← tog_ref (rises_ents hs) hb, togE_map Hit.ent (fun _ => rfl), live_ents]
end Go.Proofs.Ytdlcnpjdloinnaa.H
