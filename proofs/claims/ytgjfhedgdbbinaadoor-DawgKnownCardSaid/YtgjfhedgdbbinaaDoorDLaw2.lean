/- Dawg: what the way along the words makes is, state by state, what the tree of all words is. -/
import Derived.Test.YtgjfhedgdbbinaaDoorDLaw
namespace Go.Proofs.YtgjfhedgdbbinaaDoor
set_option linter.unusedSimpArgs false
set_option linter.unusedVariables false
namespace Dw
/-! rising lists of words, and their groups by the next byte -/
def lexlt : List Nat → List Nat → Bool
  | [], _ :: _ => true
  | _, [] => false
  | x :: a, y :: b => decide (x < y) || (decide (x = y) && lexlt a b)
def Rise (l : List Wv) : Prop := l.Pairwise fun a b => lexlt a.1 b.1 = true
def groups : List Wv → List (Nat × List Wv)
  | [] => []
  | ([], _) :: l => groups l
  | (b :: w, v) :: l => match groups l with
    | [] => [(b, [(w, v)])]
    | (b', g) :: gs => if b = b' then (b, (w, v) :: g) :: gs else (b, [(w, v)]) :: (b', g) :: gs
def pre (p : List Nat) (e : Wv) : Wv := (p ++ e.1, e.2)
def flat (gs : List (Nat × List Wv)) : List Wv := gs.flatMap fun x => x.2.map (pre [x.1])
structure Grp (l : List Wv) (gs : List (Nat × List Wv)) : Prop where
  flat : l = flat gs
  some_ : ∀ x, x ∈ gs → x.2 ≠ [] ∧ Rise x.2
  rise : gs.Pairwise fun a b => a.1 < b.1
theorem lexlt_cons {x y : Nat} {a b : List Nat} : lexlt (x :: a) (y :: b) = true ↔ x < y ∨ (x = y ∧ lexlt a b = true) := by simp [lexlt]
theorem lexlt_nil (a : List Nat) : lexlt a [] = false := by cases a <;> rfl
theorem lexlt_trans : ∀ (a b c : List Nat), lexlt a b = true → lexlt b c = true → lexlt a c = true
  | _, [], _, h1, _ => by rw [lexlt_nil] at h1; cases h1
  | _, _ :: _, [], _, h2 => by rw [lexlt_nil] at h2; cases h2
  | [], y :: b, z :: c, _, _ => rfl
  | x :: a, y :: b, z :: c, h1, h2 => by
    rw [lexlt_cons] at h1 h2 ⊢
    rcases h1 with h1 | ⟨rfl, h1⟩
    · rcases h2 with h2 | ⟨rfl, h2⟩
      · exact .inl (by omega)
      · exact .inl h1
    · rcases h2 with h2 | ⟨rfl, h2⟩
      · exact .inl h2
      · exact .inr ⟨rfl, lexlt_trans a b c h1 h2⟩
theorem Rise.tail {e : Wv} {l : List Wv} (h : Rise (e :: l)) : Rise l := (List.pairwise_cons.1 h).2
theorem Rise.head {e : Wv} {l : List Wv} (h : Rise (e :: l)) : ∀ x ∈ l, lexlt e.1 x.1 = true := (List.pairwise_cons.1 h).1
theorem Rise.nonempty {e : Wv} {l : List Wv} (h : Rise (e :: l)) : ∀ x ∈ l, x.1 ≠ [] := fun x hx h0 => by
  have := h.head x hx
  rw [h0, lexlt_nil] at this
  cases this
theorem groups_grp : ∀ {l : List Wv}, Rise l → (∀ x ∈ l, x.1 ≠ []) → Grp l (groups l)
  | [], _, _ => ⟨rfl, (fun x hx => by cases hx), List.Pairwise.nil⟩
  | ([], v) :: l, _, hn => absurd rfl (hn _ (List.mem_cons_self ..))
  | (b :: w, v) :: l, hr, hn => by
    have ih := groups_grp hr.tail (fun x hx => hn x (List.mem_cons_of_mem _ hx))
    have hd := hr.head
    simp only [groups]
    cases hg : groups l with
    | nil =>
      rw [hg] at ih
      have hl : l = [] := ih.flat
      subst hl
      exact ⟨rfl, fun x hx => by simp at hx; subst hx; exact ⟨by simp, by simp [Rise]⟩, by simp⟩
    | cons x gs =>
      obtain ⟨b', g⟩ := x
      rw [hg] at ih
      have hs := ih.some_ (b', g) (List.mem_cons_self ..)
      obtain ⟨⟨w', v'⟩, g', rfl⟩ : ∃ e g', g = e :: g' := List.exists_cons_of_ne_nil hs.1
      have hfl := ih.flat
      simp only [flat, List.flatMap_cons, List.map_cons, List.cons_append] at hfl
      have hlt := hd (pre [b'] (w', v')) (by rw [hfl]; exact List.mem_cons_self ..)
      have hlt2 : lexlt (b :: w) (b' :: w') = true := hlt
      rw [lexlt_cons] at hlt2
      have hri := List.pairwise_cons.1 ih.rise
      by_cases hb : b = b'
      · subst hb
        simp only [if_true]
        refine ⟨?_, fun x hx => ?_, List.pairwise_cons.2 ⟨fun y hy => hri.1 y hy, hri.2⟩⟩
        · rw [hfl]; simp [flat, pre]
        · rcases List.mem_cons.1 hx with rfl | hx
          · refine ⟨by simp, List.pairwise_cons.2 ⟨fun y hy => ?_, hs.2⟩⟩
            have h2 := hd (pre [b] y) (by
              rw [ih.flat]
              simp only [flat, List.flatMap_cons]
              exact List.mem_append_left _ (List.mem_map_of_mem hy))
            have h3 : lexlt (b :: w) (b :: y.1) = true := h2
            rw [lexlt_cons] at h3
            rcases h3 with h3 | h3
            · omega
            · exact h3.2
          · exact ih.some_ x (List.mem_cons_of_mem _ hx)
      · have hlt3 : b < b' := by rcases hlt2 with h | h; exact h; exact absurd h.1 hb
        simp only [hb, if_false]
        refine ⟨?_, fun x hx => ?_, List.pairwise_cons.2 ⟨fun y hy => ?_, ih.rise⟩⟩
        · rw [ih.flat]; simp [flat, pre]
        · rcases List.mem_cons.1 hx with rfl | hx
          · exact ⟨by simp, by simp [Rise]⟩
          · exact ih.some_ x hx
        · rcases List.mem_cons.1 hy with rfl | hy
          · exact hlt3
          · have := hri.1 y hy
            simp only at this ⊢
            omega
/-! the tree of all words, state by state -/
def finOf : List Wv → Bool × Nat
  | ([], v) :: _ => (true, v)
  | _ => (false, 0)
def arcsN (rec : List State → List Wv → List State × State) : List State → List Arc → List (Nat × List Wv) → List State × List Arc
  | ss, as, [] => (ss, as)
  | ss, as, (b, g) :: gs =>
    let r := rec ss g
    let q := finish r.1 (less r.2 (leastOf r.2))
    arcsN rec q.1 (as ++ [⟨b, leastOf r.2, (q.2 : Int)⟩]) gs
def N : Nat → List State → List Wv → List State × State
  | 0, ss, _ => (ss, zeroS)
  | f + 1, ss, l =>
    let r := arcsN (N f) ss [] (groups l)
    (r.1, ⟨(finOf l).1, (finOf l).2, r.2⟩)
theorem shared_pre (p a : List Nat) : shared p (p ++ a) = p.length := by
  induction p with
  | nil => cases a <;> rfl
  | cons x p ih => simp [shared, ih]
theorem shared_ne (p : List Nat) {b b' : Nat} (w w' : List Nat) (h : b ≠ b') : shared (p ++ b :: w) (p ++ b' :: w') = p.length := by
  induction p with
  | nil => simp [shared, h]
  | cons x p ih => simp [shared, ih]
theorem close_same (ss : List State) (way : List Open) (d : Nat) (h : way.length ≤ d + 1) : close ss way d = (ss, way) := by
  unfold close
  rw [show way.length - (d + 1) = 0 by omega, closeN_zero]
/-- an entry that goes on with another byte, behind a way that closes to a depth -/
theorem add_fork {ss ss1 : List State} {way : List Open} {last p : List Nat} {b : Nat} {st : State} {by_ : Nat} {rest : List Open} (hr : rest.length = p.length)
    (hc : close ss way p.length = (ss1, ⟨st, by_⟩ :: rest)) (e : Wv) (hs : shared last (p ++ b :: e.1) = p.length) :
    add (ss, way) last (pre p (pre [b] e)) = add (ss1, ⟨zeroS, b⟩ :: ⟨st, by_⟩ :: rest) (p ++ [b]) (pre (p ++ [b]) e) := by
  have e1 : pre p (pre [b] e) = (p ++ b :: e.1, e.2) := rfl
  have e2 : pre (p ++ [b]) e = (p ++ b :: e.1, e.2) := by simp [pre]
  have e3 : shared (p ++ [b]) (p ++ b :: e.1) = p.length + 1 := by
    have := shared_pre (p ++ [b]) e.1
    simpa using this
  rw [e1, e2]
  unfold add
  simp only [hs, e3]
  rw [hc, close_same _ _ (p.length + 1) (by simp [hr])]
  simp only [List.drop_left]
  rw [show p ++ b :: e.1 = (p ++ [b]) ++ e.1 by simp, show p.length + 1 = (p ++ [b]).length by simp, List.drop_left]
  rfl
theorem adds_cons (x : List State × List Open) (last : List Nat) (e : Wv) (l : List Wv) : adds x last (e :: l) = adds (add x last e) e.1 l := rfl
theorem close_len (x : List State × List Open) (last : List Nat) (e : Wv) (h : shared last e.1 < x.2.length) : (add x last e).2.length = e.1.length + 1 := by
  unfold add
  simp only [mark_length, opens_length]
  rw [close_length _ _ _ h, List.length_drop]
  have := shared_le last e.1
  omega
theorem shared_le' (a b : List Nat) : shared a b ≤ a.length := by
  induction a generalizing b with
  | nil => simp [shared]
  | cons x a ih =>
    cases b with
    | nil => simp [shared]
    | cons y b =>
      simp only [shared]
      split
      · have := ih b; simp; omega
      · omega
/-- the way is as long as the last word, and one more -/
theorem adds_len : ∀ (l : List Wv) (x : List State × List Open) (last : List Nat), x.2.length = last.length + 1 → (adds x last l).2.length = ((l.getLast?.map Prod.fst).getD last).length + 1
  | [], x, last, h => h
  | [e], x, last, h => by
    have := shared_le' last e.1
    exact close_len x last e (by omega)
  | e :: e' :: l, x, last, h => by
    have := shared_le' last e.1
    rw [adds_cons, adds_len (e' :: l) _ e.1 (close_len x last e (by omega)), List.getLast?_cons_cons]
    obtain ⟨y, hy⟩ : ∃ y, (e' :: l).getLast? = some y := ⟨_, List.getLast?_eq_some_getLast (by simp)⟩
    rw [hy]; rfl
def AllLt (f : Nat) (l : List Wv) : Prop := ∀ e ∈ l, e.1.length < f
theorem close_step {ss : List State} {way : List Open} {d : Nat} {ss1 : List State} {o up : Open} {rest : List Open} (hr : rest.length = d) (hlt : d + 1 < way.length)
    (h : close ss way (d + 1) = (ss1, o :: up :: rest)) : close ss way d = ((close1 ss1 up o).1, (close1 ss1 up o).2 :: rest) := by
  rw [← close_close ss way (Nat.le_succ d) hlt, h]
  unfold close
  rw [show (o :: up :: rest).length - (d + 1) = 1 by simp [hr]]
  show closeN 0 (close1 ss1 up o).1 ((close1 ss1 up o).2 :: rest) = _
  rw [closeN_zero]
section
variable {f : Nat} (IH : ∀ (l : List Wv) (ss : List State) (p : List Nat) (top : Open) (rest : List Open), AllLt f l → l ≠ [] → Rise l → rest.length = p.length → top.st = zeroS →
    close (adds (ss, top :: rest) p (l.map (pre p))).1 (adds (ss, top :: rest) p (l.map (pre p))).2 p.length = ((N f ss l).1, ⟨(N f ss l).2, top.by_⟩ :: rest))
include IH
theorem adds_groups : ∀ (gs : List (Nat × List Wv)) (ss : List State) (way : List Open) (last p : List Nat) (ss1 : List State) (st : State) (by_ : Nat) (rest : List Open), rest.length = p.length →
    way.length = last.length + 1 → p.length < way.length → close ss way p.length = (ss1, ⟨st, by_⟩ :: rest) → (∀ x ∈ gs, ∀ w, shared last (p ++ x.1 :: w) = p.length) →
    (∀ x ∈ gs, x.2 ≠ [] ∧ Rise x.2 ∧ AllLt f x.2) → (gs.Pairwise fun a b => a.1 < b.1) →
    close (adds (ss, way) last ((flat gs).map (pre p))).1 (adds (ss, way) last ((flat gs).map (pre p))).2 p.length =
      ((arcsN (N f) ss1 st.arcs gs).1, ⟨⟨st.final, st.out, (arcsN (N f) ss1 st.arcs gs).2⟩, by_⟩ :: rest)
  | [], ss, way, last, p, ss1, st, by_, rest, hr, hw, hp, hc, hs, hg, hri => by
    show close ss way p.length = _
    rw [hc]
    rfl
  | (b, g) :: gs, ss, way, last, p, ss1, st, by_, rest, hr, hw, hp, hc, hs, hg, hri => by
    obtain ⟨hg0, hg1, hg2⟩ := hg (b, g) (List.mem_cons_self ..)
    obtain ⟨e, g', rfl⟩ : ∃ e g', g = e :: g' := List.exists_cons_of_ne_nil hg0
    have hfl : (flat ((b, e :: g') :: gs)).map (pre p) = ((e :: g').map (pre (p ++ [b]))) ++ (flat gs).map (pre p) := by
      simp [flat, pre, List.map_append, List.map_map, Function.comp_def]
    have hfirst : adds (ss, way) last ((e :: g').map (pre (p ++ [b]))) = adds (ss1, ⟨zeroS, b⟩ :: ⟨st, by_⟩ :: rest) (p ++ [b]) ((e :: g').map (pre (p ++ [b]))) := by
      rw [List.map_cons, adds_cons, adds_cons, ← add_fork hr hc e (hs (b, e :: g') (List.mem_cons_self ..) e.1)]
      rw [show pre p (pre [b] e) = pre (p ++ [b]) e by simp [pre]]
    have ih := IH (e :: g') ss1 (p ++ [b]) ⟨zeroS, b⟩ (⟨st, by_⟩ :: rest) hg2 hg0 hg1 (by simp [hr]) rfl
    rw [← hfirst] at ih
    have hlast : ∃ y : Wv, y ∈ (e :: g') ∧ (((e :: g').map (pre (p ++ [b]))).getLast?.map Prod.fst).getD last = p ++ b :: y.1 := by
      refine ⟨(e :: g').getLast (by simp), List.getLast_mem _, ?_⟩
      rw [List.getLast?_map, List.getLast?_eq_some_getLast (by simp)]
      simp [pre]
    obtain ⟨y, hy, hlast⟩ := hlast
    have hlen := adds_len ((e :: g').map (pre (p ++ [b]))) (ss, way) last hw
    rw [hlast] at hlen
    rw [hfl, adds_append, hlast]
    rw [show (p ++ [b]).length = p.length + 1 by simp] at ih
    have hst := close_step hr (by rw [hlen]; simp) ih
    have hri2 := List.pairwise_cons.1 hri
    have := adds_groups gs _ _ (p ++ b :: y.1) p _ _ _ rest hr hlen (by rw [hlen]; simp; omega) hst (fun x hx w => shared_ne p _ _ (by have := hri2.1 x hx; simp only at this; omega))
      (fun x hx => hg x (List.mem_cons_of_mem _ hx)) hri2.2
    exact this
end
theorem groups_nil (v : Nat) (l : List Wv) : groups (([], v) :: l) = groups l := rfl
theorem mem_flat {gs : List (Nat × List Wv)} {x : Nat × List Wv} {e : Wv} (hx : x ∈ gs) (he : e ∈ x.2) : pre [x.1] e ∈ flat gs := by
  unfold flat
  exact List.mem_flatMap.2 ⟨x, hx, List.mem_map_of_mem he⟩
theorem adds_N : ∀ (f : Nat) (l : List Wv) (ss : List State) (p : List Nat) (top : Open) (rest : List Open), AllLt f l → l ≠ [] → Rise l → rest.length = p.length → top.st = zeroS →
    close (adds (ss, top :: rest) p (l.map (pre p))).1 (adds (ss, top :: rest) p (l.map (pre p))).2 p.length = ((N f ss l).1, ⟨(N f ss l).2, top.by_⟩ :: rest)
  | 0, e :: l, ss, p, top, rest, hl, _, _, _, _ => absurd (hl e (List.mem_cons_self ..)) (by omega)
  | 0, [], ss, p, top, rest, hl, hn, _, _, _ => absurd rfl hn
  | f + 1, l, ss, p, top, rest, hl, hn, hri, hr, ht => by
    have hgrp : ∀ (m : List Wv), Rise m → (∀ x ∈ m, x.1 ≠ []) → AllLt (f + 1) m → Grp m (groups m) ∧ ∀ x ∈ groups m, x.2 ≠ [] ∧ Rise x.2 ∧ AllLt f x.2 := fun m h1 h2 h3 => by
      have hG := groups_grp h1 h2
      refine ⟨hG, fun x hx => ⟨(hG.some_ x hx).1, (hG.some_ x hx).2, fun e he => ?_⟩⟩
      have := h3 (pre [x.1] e) (by rw [hG.flat]; exact mem_flat hx he)
      simp [pre] at this
      omega
    obtain ⟨e, l, rfl⟩ := List.exists_cons_of_ne_nil hn
    obtain ⟨w, v⟩ := e
    obtain ⟨st0, by0⟩ := top
    simp only at ht
    subst ht
    cases w with
    | nil =>
      have hG := hgrp l hri.tail hri.nonempty (fun e he => hl e (List.mem_cons_of_mem _ he))
      rw [List.map_cons, adds_cons]
      have ha : add (ss, ⟨zeroS, by0⟩ :: rest) p (pre p ([], v)) = (ss, ⟨⟨true, v, []⟩, by0⟩ :: rest) := by
        unfold add
        simp only [pre, List.append_nil, shared_self, List.drop_length]
        rw [close_same _ _ _ (by simp [hr])]
        rfl
      rw [ha, show (pre p ([], v)).1 = p by simp [pre]]
      have hb := adds_groups (adds_N f) (groups l) ss (⟨⟨true, v, []⟩, by0⟩ :: rest) p p ss ⟨true, v, []⟩ by0 rest hr (by simp [hr]) (by simp [hr]) (close_same _ _ _ (by simp [hr])) (fun x _ w => shared_pre p _) hG.2 hG.1.rise
      rw [← hG.1.flat] at hb
      rw [hb]
      simp only [N, groups_nil, finOf]
    | cons b w =>
      have hne : ∀ x ∈ (b :: w, v) :: l, x.1 ≠ [] := fun x hx => by
        rcases List.mem_cons.1 hx with rfl | hx
        · simp
        · exact hri.nonempty x hx
      have hG := hgrp _ hri hne hl
      have hb := adds_groups (adds_N f) (groups ((b :: w, v) :: l)) ss (⟨zeroS, by0⟩ :: rest) p p ss zeroS by0 rest hr (by simp [hr]) (by simp [hr]) (close_same _ _ _ (by simp [hr])) (fun x _ w => shared_pre p _) hG.2 hG.1.rise
      rw [← hG.1.flat] at hb
      rw [hb]
      rfl
end Dw
end Go.Proofs.YtgjfhedgdbbinaaDoor
