/- Dawg: laws of the mirror. -/
import Derived.Test.YtcddnmhmcieebaaGreatDoorY1
import Derived.Test.YtcddnmhmcieebaaGreatDoorY3
namespace Go.Proofs.YtcddnmhmcieebaaGreatDoor
set_option linter.unusedSimpArgs false
set_option linter.unusedVariables false
namespace Dw
theorem closeN_short (n : Nat) (ss : List State) (way : List Open) (h : way.length <= 1) : closeN n ss way = (ss, way) := by
 cases n with
 | zero => simp [closeN]
 | succ n =>
  match way, h with
  | [], _ => rfl
  | [o], _ => rfl
theorem closeN_zero (ss : List State) (way : List Open) : closeN 0 ss way = (ss, way) := by cases way <;> rfl
theorem closeN_add (m n : Nat) : ∀ (ss : List State) (way : List Open), closeN (m + n) ss way = closeN n (closeN m ss way).1 (closeN m ss way).2 := by
 induction m with
 | zero => intro ss way; rw [Nat.zero_add, closeN_zero]
 | succ m ih =>
  intro ss way
  match way with
  | [] => rw [closeN_short (m + 1) _ _ (Nat.zero_le _), closeN_short (m + 1 + n) _ _ (Nat.zero_le _), closeN_short n _ _ (Nat.zero_le _)]
  | [o] => rw [closeN_short (m + 1) _ _ (Nat.le_refl _), closeN_short (m + 1 + n) _ _ (Nat.le_refl _), closeN_short n _ _ (Nat.le_refl _)]
  | o :: up :: way =>
   rw [show m + 1 + n = (m + n) + 1 by omega]
   show closeN (m + n) (close1 ss up o).1 ((close1 ss up o).2 :: way) = _
   rw [ih]
   rfl
theorem closeN_length (n : Nat) : ∀ (ss : List State) (way : List Open), n < way.length -> (closeN n ss way).2.length = way.length - n := by
 induction n with
 | zero => intro ss way h; rw [closeN_zero]; rfl
 | succ n ih =>
  intro ss way h
  match way, h with
  | [o], h => simp at h
  | o :: up :: way, h =>
   show (closeN n (close1 ss up o).1 ((close1 ss up o).2 :: way)).2.length = _
   rw [ih _ _ (by simp at h |-; omega)]
   simp
theorem close_length (ss : List State) (way : List Open) (d : Nat) (h : d < way.length) : (close ss way d).2.length = d + 1 := by
 unfold close
 rw [closeN_length _ _ _ (by omega)]
 omega
theorem close_close (ss : List State) (way : List Open) {a b : Nat} (hab : a <= b) (hb : b < way.length) : close (close ss way b).1 (close ss way b).2 a = close ss way a := by
 have hl := close_length ss way b hb
 unfold close at hl |-
 rw [hl, <- closeN_add]
 congr 1
 omega
theorem shared_self (a : List Nat) : shared a a = a.length := by
 induction a with
 | nil => rfl
 | cons x a ih => simp [shared, ih]
theorem shared_le (a b : List Nat) : shared a b <= b.length := by
 induction a generalizing b with
 | nil => simp [shared]
 | cons x a ih =>
  cases b with
  | nil => simp [shared]
  | cons y b =>
   simp only [shared]
   split
   ·have := ih b; simp; omega
   ·omega
theorem opens_length (way : List Open) (w : List Nat) : (opens way w).length = way.length + w.length := by
 induction w generalizing way with
 | nil => rfl
 | cons b w ih => rw [opens, ih]; simp; omega
theorem mark_length (v : Nat) (way : List Open) : (mark v way).length = way.length := by cases way <;> rfl
theorem adds_append (x : List State × List Open) (last : List Nat) (a b : List Wv) : adds x last (a ++ b) = adds (adds x last a) ((a.getLast?.map Prod.fst).getD last) b := by
 induction a generalizing x last with
 | nil => rfl
 | cons e a ih =>
  rw [List.cons_append, adds, ih, adds]
  congr 1
  cases a with
  | nil => rfl
  | cons f a =>
   rw [List.getLast?_cons_cons]
   obtain ⟨y, hy⟩ : ∃ y, (f :: a).getLast? = some y := ⟨_, List.getLast?_eq_some_getLast (by simp)⟩
   rw [hy]; rfl
/-! rising lists of words, and their groups by the next byte -/
def lexlt : List Nat -> List Nat -> Bool
 | [], _ :: _ => true
 | _, [] => false
 | x :: a, y :: b => decide (x < y) || (decide (x = y) && lexlt a b)
def Rise (l : List Wv) : Prop := l.Pairwise fun a b => lexlt a.1 b.1 = true
def groups : List Wv -> List (Nat × List Wv)
 | [] => []
 | ([], _) :: l => groups l
 | (b :: w, v) :: l => match groups l with
  | [] => [(b, [(w, v)])]
  | (b', g) :: gs => if b = b' then (b, (w, v) :: g) :: gs else (b, [(w, v)]) :: (b', g) :: gs
def pre (p : List Nat) (e : Wv) : Wv := (p ++ e.1, e.2)
def flat (gs : List (Nat × List Wv)) : List Wv := gs.flatMap fun x => x.2.map (pre [x.1])
structure Grp (l : List Wv) (gs : List (Nat × List Wv)) : Prop where
 flat : l = flat gs
 some_ : ∀ x, x ∈ gs -> x.2 ≠ [] /\ Rise x.2
 rise : gs.Pairwise fun a b => a.1 < b.1
theorem lexlt_cons {x y : Nat} {a b : List Nat} : lexlt (x :: a) (y :: b) = true ↔ x < y \/ (x = y /\ lexlt a b = true) := by simp [lexlt]
theorem lexlt_nil (a : List Nat) : lexlt a [] = false := by cases a <;> rfl
theorem lexlt_trans : ∀ (a b c : List Nat), lexlt a b = true -> lexlt b c = true -> lexlt a c = true
 | _, [], _, h1, _ => by rw [lexlt_nil] at h1; cases h1
 | _, _ :: _, [], _, h2 => by rw [lexlt_nil] at h2; cases h2
 | [], y :: b, z :: c, _, _ => rfl
 | x :: a, y :: b, z :: c, h1, h2 => by
  rw [lexlt_cons] at h1 h2 |-
  rcases h1 with h1 | ⟨rfl, h1⟩
  ·rcases h2 with h2 | ⟨rfl, h2⟩
   ·exact .inl (by omega)
   ·exact .inl h1
  ·rcases h2 with h2 | ⟨rfl, h2⟩
   ·exact .inl h2
   ·exact .inr ⟨rfl, lexlt_trans a b c h1 h2⟩
theorem Rise.tail {e : Wv} {l : List Wv} (h : Rise (e :: l)) : Rise l := (List.pairwise_cons.1 h).2
theorem Rise.head {e : Wv} {l : List Wv} (h : Rise (e :: l)) : ∀ x ∈ l, lexlt e.1 x.1 = true := (List.pairwise_cons.1 h).1
theorem Rise.nonempty {e : Wv} {l : List Wv} (h : Rise (e :: l)) : ∀ x ∈ l, x.1 ≠ [] := fun x hx h0 => by
 have := h.head x hx
 rw [h0, lexlt_nil] at this
 cases this
theorem groups_grp : ∀ {l : List Wv}, Rise l -> (∀ x ∈ l, x.1 ≠ []) -> Grp l (groups l)
 | [], _, _ => ⟨rfl, (fun x hx => by cases hx), List.Pairwise.nil⟩
 | ([], v) :: l, _, hn => absurd rfl (hn _ (List.mem_cons_self ..))
 | (b :: w, v) :: l, hr, hn => by
  have ih := groups_grp hr.tail (fun x hx => hn x (List.mem_cons_of_mem _ hx))
  have hd := hr.head
  simp only [groups]
  cases hg : groups l with
  | nil =>
   rw [hg] at ih
   have hl : l = [] := ih.flat
   subst hl
   exact ⟨rfl, fun x hx => by simp at hx; subst hx; exact ⟨by simp, by simp [Rise]⟩, by simp⟩
  | cons x gs =>
   obtain ⟨b', g⟩ := x
   rw [hg] at ih
   have hs := ih.some_ (b', g) (List.mem_cons_self ..)
   obtain ⟨⟨w', v'⟩, g', rfl⟩ : ∃ e g', g = e :: g' := List.exists_cons_of_ne_nil hs.1
   have hfl := ih.flat
   simp only [flat, List.flatMap_cons, List.map_cons, List.cons_append] at hfl
   have hlt := hd (pre [b'] (w', v')) (by rw [hfl]; exact List.mem_cons_self ..)
   have hlt2 : lexlt (b :: w) (b' :: w') = true := hlt
   rw [lexlt_cons] at hlt2
   have hri := List.pairwise_cons.1 ih.rise
   by_cases hb : b = b'
   ·subst hb
    simp only [if_true]
    refine ⟨?_, fun x hx => ?_, List.pairwise_cons.2 ⟨fun y hy => hri.1 y hy, hri.2⟩⟩
    ·rw [hfl]; simp [flat, pre]
    ·rcases List.mem_cons.1 hx with rfl | hx
     ·refine ⟨by simp, List.pairwise_cons.2 ⟨fun y hy => ?_, hs.2⟩⟩
      have h2 := hd (pre [b] y) (by
       rw [ih.flat]
       simp only [flat, List.flatMap_cons]
       exact List.mem_append_left _ (List.mem_map_of_mem hy))
      have h3 : lexlt (b :: w) (b :: y.1) = true := h2
      rw [lexlt_cons] at h3
      rcases h3 with h3 | h3
      ·omega
      ·exact h3.2
     ·exact ih.some_ x (List.mem_cons_of_mem _ hx)
   ·have hlt3 : b < b' := by rcases hlt2 with h | h; exact h; exact absurd h.1 hb
    simp only [hb, if_false]
    refine ⟨?_, fun x hx => ?_, List.pairwise_cons.2 ⟨fun y hy => ?_, ih.rise⟩⟩
    ·rw [ih.flat]; simp [flat, pre]
    ·rcases List.mem_cons.1 hx with rfl | hx
     ·exact ⟨by simp, by simp [Rise]⟩
     ·exact ih.some_ x hx
    ·rcases List.mem_cons.1 hy with rfl | hy
     ·exact hlt3
     ·have := hri.1 y hy
      simp only at this |-
      omega
/-! the tree of all words, state by state -/
def finOf : List Wv -> Bool × Nat
 | ([], v) :: _ => (true, v)
 | _ => (false, 0)
def arcsN (rec : List State -> List Wv -> List State × State) : List State -> List Arc -> List (Nat × List Wv) -> List State × List Arc
 | ss, ars, [] => (ss, ars)
 | ss, ars, (b, g) :: gs =>
  let r := rec ss g
  let q := finish r.1 (less r.2 (leastOf r.2))
  arcsN rec q.1 (ars ++ [⟨b, leastOf r.2, (q.2 : Int)⟩]) gs
def N : Nat -> List State -> List Wv -> List State × State
 | 0, ss, _ => (ss, zeroS)
 | f + 1, ss, l =>
  let r := arcsN (N f) ss [] (groups l)
  (r.1, ⟨(finOf l).1, (finOf l).2, r.2⟩)
theorem shared_pre (p a : List Nat) : shared p (p ++ a) = p.length := by
 induction p with
 | nil => cases a <;> rfl
 | cons x p ih => simp [shared, ih]
theorem shared_ne (p : List Nat) {b b' : Nat} (w w' : List Nat) (h : b ≠ b') : shared (p ++ b :: w) (p ++ b' :: w') = p.length := by
 induction p with
 | nil => simp [shared, h]
 | cons x p ih => simp [shared, ih]
theorem close_same (ss : List State) (way : List Open) (d : Nat) (h : way.length <= d + 1) : close ss way d = (ss, way) := by
 unfold close
 rw [show way.length - (d + 1) = 0 by omega, closeN_zero]
theorem add_fork {ss ss1 : List State} {way : List Open} {last p : List Nat} {b : Nat} {st : State} {by_ : Nat} {rest : List Open} (hr : rest.length = p.length)
  (hc : close ss way p.length = (ss1, ⟨st, by_⟩ :: rest)) (e : Wv) (hs : shared last (p ++ b :: e.1) = p.length) :
  add (ss, way) last (pre p (pre [b] e)) = add (ss1, ⟨zeroS, b⟩ :: ⟨st, by_⟩ :: rest) (p ++ [b]) (pre (p ++ [b]) e) := by
 have e1 : pre p (pre [b] e) = (p ++ b :: e.1, e.2) := rfl
 have e2 : pre (p ++ [b]) e = (p ++ b :: e.1, e.2) := by simp [pre]
 have e3 : shared (p ++ [b]) (p ++ b :: e.1) = p.length + 1 := by
  have := shared_pre (p ++ [b]) e.1
  simpa using this
 rw [e1, e2]
 unfold add
 simp only [hs, e3]
 rw [hc, close_same _ _ (p.length + 1) (by simp [hr])]
 simp only [List.drop_left]
 rw [show p ++ b :: e.1 = (p ++ [b]) ++ e.1 by simp, show p.length + 1 = (p ++ [b]).length by simp, List.drop_left]
 rfl
theorem adds_cons (x : List State × List Open) (last : List Nat) (e : Wv) (l : List Wv) : adds x last (e :: l) = adds (add x last e) e.1 l := rfl
theorem close_len (x : List State × List Open) (last : List Nat) (e : Wv) (h : shared last e.1 < x.2.length) : (add x last e).2.length = e.1.length + 1 := by
 unfold add
 simp only [mark_length, opens_length]
 rw [close_length _ _ _ h, List.length_drop]
 have := shared_le last e.1
 omega
theorem shared_le' (a b : List Nat) : shared a b <= a.length := by
 induction a generalizing b with
 | nil => simp [shared]
 | cons x a ih =>
  cases b with
  | nil => simp [shared]
  | cons y b =>
   simp only [shared]
   split
   ·have := ih b; simp; omega
   ·omega
theorem adds_len : ∀ (l : List Wv) (x : List State × List Open) (last : List Nat), x.2.length = last.length + 1 -> (adds x last l).2.length = ((l.getLast?.map Prod.fst).getD last).length + 1
 | [], x, last, h => h
 | [e], x, last, h => by
  have := shared_le' last e.1
  exact close_len x last e (by omega)
 | e :: e' :: l, x, last, h => by
  have := shared_le' last e.1
  rw [adds_cons, adds_len (e' :: l) _ e.1 (close_len x last e (by omega)), List.getLast?_cons_cons]
  obtain ⟨y, hy⟩ : ∃ y, (e' :: l).getLast? = some y := ⟨_, List.getLast?_eq_some_getLast (by simp)⟩
  rw [hy]; rfl
def AllLt (f : Nat) (l : List Wv) : Prop := ∀ e ∈ l, e.1.length < f
theorem close_step {ss : List State} {way : List Open} {d : Nat} {ss1 : List State} {o up : Open} {rest : List Open} (hr : rest.length = d) (hlt : d + 1 < way.length)
  (h : close ss way (d + 1) = (ss1, o :: up :: rest)) : close ss way d = ((close1 ss1 up o).1, (close1 ss1 up o).2 :: rest) := by
 rw [<- close_close ss way (Nat.le_succ d) hlt, h]
 unfold close
 rw [show (o :: up :: rest).length - (d + 1) = 1 by simp [hr]]
 show closeN 0 (close1 ss1 up o).1 ((close1 ss1 up o).2 :: rest) = _
 rw [closeN_zero]
section
variable {f : Nat} (IH : ∀ (l : List Wv) (ss : List State) (p : List Nat) (top : Open) (rest : List Open), AllLt f l -> l ≠ [] -> Rise l -> rest.length = p.length -> top.st = zeroS ->
  close (adds (ss, top :: rest) p (l.map (pre p))).1 (adds (ss, top :: rest) p (l.map (pre p))).2 p.length = ((N f ss l).1, ⟨(N f ss l).2, top.by_⟩ :: rest))
include IH
theorem adds_groups : ∀ (gs : List (Nat × List Wv)) (ss : List State) (way : List Open) (last p : List Nat) (ss1 : List State) (st : State) (by_ : Nat) (rest : List Open), rest.length = p.length ->
  way.length = last.length + 1 -> p.length < way.length -> close ss way p.length = (ss1, ⟨st, by_⟩ :: rest) -> (∀ x ∈ gs, ∀ w, shared last (p ++ x.1 :: w) = p.length) ->
  (∀ x ∈ gs, x.2 ≠ [] /\ Rise x.2 /\ AllLt f x.2) -> (gs.Pairwise fun a b => a.1 < b.1) ->
  close (adds (ss, way) last ((flat gs).map (pre p))).1 (adds (ss, way) last ((flat gs).map (pre p))).2 p.length =
   ((arcsN (N f) ss1 st.arcs gs).1, ⟨⟨st.final, st.out, (arcsN (N f) ss1 st.arcs gs).2⟩, by_⟩ :: rest)
 | [], ss, way, last, p, ss1, st, by_, rest, hr, hw, hp, hc, hs, hg, hri => by
  show close ss way p.length = _
  rw [hc]
  rfl
 | (b, g) :: gs, ss, way, last, p, ss1, st, by_, rest, hr, hw, hp, hc, hs, hg, hri => by
  obtain ⟨hg0, hg1, hg2⟩ := hg (b, g) (List.mem_cons_self ..)
  obtain ⟨e, g', rfl⟩ : ∃ e g', g = e :: g' := List.exists_cons_of_ne_nil hg0
  have hfl : (flat ((b, e :: g') :: gs)).map (pre p) = ((e :: g').map (pre (p ++ [b]))) ++ (flat gs).map (pre p) := by
   simp [flat, pre, List.map_append, List.map_map, Function.comp_def]
  have hfirst : adds (ss, way) last ((e :: g').map (pre (p ++ [b]))) = adds (ss1, ⟨zeroS, b⟩ :: ⟨st, by_⟩ :: rest) (p ++ [b]) ((e :: g').map (pre (p ++ [b]))) := by
   rw [List.map_cons, adds_cons, adds_cons, <- add_fork hr hc e (hs (b, e :: g') (List.mem_cons_self ..) e.1)]
   rw [show pre p (pre [b] e) = pre (p ++ [b]) e by simp [pre]]
  have ih := IH (e :: g') ss1 (p ++ [b]) ⟨zeroS, b⟩ (⟨st, by_⟩ :: rest) hg2 hg0 hg1 (by simp [hr]) rfl
  rw [<- hfirst] at ih
  have hlast : ∃ y : Wv, y ∈ (e :: g') /\ (((e :: g').map (pre (p ++ [b]))).getLast?.map Prod.fst).getD last = p ++ b :: y.1 := by
   refine ⟨(e :: g').getLast (by simp), List.getLast_mem _, ?_⟩
   rw [List.getLast?_map, List.getLast?_eq_some_getLast (by simp)]
   simp [pre]
  obtain ⟨y, hy, hlast⟩ := hlast
  have hlen := adds_len ((e :: g').map (pre (p ++ [b]))) (ss, way) last hw
  rw [hlast] at hlen
  rw [hfl, adds_append, hlast]
  rw [show (p ++ [b]).length = p.length + 1 by simp] at ih
  have hst := close_step hr (by rw [hlen]; simp) ih
  have hri2 := List.pairwise_cons.1 hri
  have := adds_groups gs _ _ (p ++ b :: y.1) p _ _ _ rest hr hlen (by rw [hlen]; simp; omega) hst (fun x hx w => shared_ne p _ _ (by have := hri2.1 x hx; simp only at this; omega))
   (fun x hx => hg x (List.mem_cons_of_mem _ hx)) hri2.2
  exact this
end
theorem groups_nil (v : Nat) (l : List Wv) : groups (([], v) :: l) = groups l := rfl
theorem mem_flat {gs : List (Nat × List Wv)} {x : Nat × List Wv} {e : Wv} (hx : x ∈ gs) (he : e ∈ x.2) : pre [x.1] e ∈ flat gs := by
 unfold flat
 exact List.mem_flatMap.2 ⟨x, hx, List.mem_map_of_mem he⟩
theorem adds_N : ∀ (f : Nat) (l : List Wv) (ss : List State) (p : List Nat) (top : Open) (rest : List Open), AllLt f l -> l ≠ [] -> Rise l -> rest.length = p.length -> top.st = zeroS ->
  close (adds (ss, top :: rest) p (l.map (pre p))).1 (adds (ss, top :: rest) p (l.map (pre p))).2 p.length = ((N f ss l).1, ⟨(N f ss l).2, top.by_⟩ :: rest)
 | 0, e :: l, ss, p, top, rest, hl, _, _, _, _ => absurd (hl e (List.mem_cons_self ..)) (by omega)
 | 0, [], ss, p, top, rest, hl, hn, _, _, _ => absurd rfl hn
 | f + 1, l, ss, p, top, rest, hl, hn, hri, hr, ht => by
  have hgrp : ∀ (m : List Wv), Rise m -> (∀ x ∈ m, x.1 ≠ []) -> AllLt (f + 1) m -> Grp m (groups m) /\ ∀ x ∈ groups m, x.2 ≠ [] /\ Rise x.2 /\ AllLt f x.2 := fun m h1 h2 h3 => by
   have hG := groups_grp h1 h2
   refine ⟨hG, fun x hx => ⟨(hG.some_ x hx).1, (hG.some_ x hx).2, fun e he => ?_⟩⟩
   have := h3 (pre [x.1] e) (by rw [hG.flat]; exact mem_flat hx he)
   simp [pre] at this
   omega
  obtain ⟨e, l, rfl⟩ := List.exists_cons_of_ne_nil hn
  obtain ⟨w, v⟩ := e
  obtain ⟨st0, by0⟩ := top
  simp only at ht
  subst ht
  cases w with
  | nil =>
   have hG := hgrp l hri.tail hri.nonempty (fun e he => hl e (List.mem_cons_of_mem _ he))
   rw [List.map_cons, adds_cons]
   have ha : add (ss, ⟨zeroS, by0⟩ :: rest) p (pre p ([], v)) = (ss, ⟨⟨true, v, []⟩, by0⟩ :: rest) := by
    unfold add
    simp only [pre, List.append_nil, shared_self, List.drop_length]
    rw [close_same _ _ _ (by simp [hr])]
    rfl
   rw [ha, show (pre p ([], v)).1 = p by simp [pre]]
   have hb := adds_groups (adds_N f) (groups l) ss (⟨⟨true, v, []⟩, by0⟩ :: rest) p p ss ⟨true, v, []⟩ by0 rest hr (by simp [hr]) (by simp [hr]) (close_same _ _ _ (by simp [hr])) (fun x _ w => shared_pre p _) hG.2 hG.1.rise
   rw [<- hG.1.flat] at hb
   rw [hb]
   simp only [N, groups_nil, finOf]
  | cons b w =>
   have hne : ∀ x ∈ (b :: w, v) :: l, x.1 ≠ [] := fun x hx => by
    rcases List.mem_cons.1 hx with rfl | hx
    ·simp
    ·exact hri.nonempty x hx
   have hG := hgrp _ hri hne hl
   have hb := adds_groups (adds_N f) (groups ((b :: w, v) :: l)) ss (⟨zeroS, by0⟩ :: rest) p p ss zeroS by0 rest hr (by simp [hr]) (by simp [hr]) (close_same _ _ _ (by simp [hr])) (fun x _ w => shared_pre p _) hG.2 hG.1.rise
   rw [<- hG.1.flat] at hb
   rw [hb]
   rfl
/-! the least of values -/
def Least (m : Nat) (vs : List Nat) : Prop := m ∈ vs /\ ∀ v ∈ vs, m <= v
theorem Least.uniq {m n : Nat} {vs : List Nat} (h : Least m vs) (k : Least n vs) : m = n := Nat.le_antisymm (h.2 n k.1) (k.2 m h.1)
theorem foldl_min (l : List Nat) : ∀ x, Least (l.foldl min x) (x :: l) := by
 induction l with
 | nil => intro x; exact ⟨by simp, by simp⟩
 | cons y l ih =>
  intro x
  obtain ⟨h1, h2⟩ := ih (min x y)
  rw [List.foldl_cons]
  refine ⟨?_, fun v hv => ?_⟩
  ·rcases List.mem_cons.1 h1 with h | h
   ·rw [h]
    rcases Nat.le_total x y with h3 | h3
    ·rw [Nat.min_eq_left h3]; simp
    ·rw [Nat.min_eq_right h3]; simp
   ·simp [h]
  ·have h3 := h2 (min x y) (by simp)
   rcases List.mem_cons.1 hv with rfl | hv
   ·omega
   ·rcases List.mem_cons.1 hv with rfl | hv
    ·omega
    ·exact h2 v (by simp [hv])
theorem leastV_least {l : List Wv} (h : l ≠ []) : Least (leastV l) (l.map Prod.snd) := by
 obtain ⟨e, l, rfl⟩ := List.exists_cons_of_ne_nil h
 have := foldl_min (l.map Prod.snd) e.2
 rw [List.foldl_map] at this
 exact this
def outsOf (s : State) : List Nat := (if s.final then [s.out] else []) ++ s.arcs.map Arc.out
theorem leastOf_least {s : State} (h : outsOf s ≠ []) : Least (leastOf s) (outsOf s) := by
 unfold leastOf
 show Least (match outsOf s with | [] => s.out | x :: l => l.foldl min x) (outsOf s)
 obtain ⟨x, l, hx⟩ := List.exists_cons_of_ne_nil h
 rw [hx]
 exact foldl_min l x
theorem arcsN_append (rec : List State -> List Wv -> List State × State) : ∀ (gs : List (Nat × List Wv)) (ss : List State) (ars : List Arc), ∃ bs, (arcsN rec ss ars gs).2 = ars ++ bs /\ bs.length = gs.length /\
  (∀ P : Nat -> Nat -> List Wv -> Prop, (∀ x ∈ gs, ∀ ss, P x.1 (leastOf (rec ss x.2).2) x.2) -> ∀ (i : Nat) (x : Nat × List Wv) (a : Arc), gs[i]? = some x -> bs[i]? = some a -> a.byte = x.1 /\ P x.1 a.out x.2)
 | [], ss, ars => ⟨[], by simp [arcsN], rfl, fun P h i x a h1 h2 => by simp at h1⟩
 | (b, g) :: gs, ss, ars => by
  obtain ⟨bs, h1, h2, h3⟩ := arcsN_append rec gs (finish (rec ss g).1 (less (rec ss g).2 (leastOf (rec ss g).2))).1 (ars ++ [⟨b, leastOf (rec ss g).2, ((finish (rec ss g).1 (less (rec ss g).2 (leastOf (rec ss g).2))).2 : Int)⟩])
  refine ⟨⟨b, leastOf (rec ss g).2, ((finish (rec ss g).1 (less (rec ss g).2 (leastOf (rec ss g).2))).2 : Int)⟩ :: bs, ?_, by simp [h2], fun P hP i x a hx ha => ?_⟩
  ·show (arcsN rec _ _ gs).2 = _
   rw [h1]; simp
  ·cases i with
   | zero => simp at hx ha; subst hx; subst ha; exact ⟨rfl, hP _ (List.mem_cons_self ..) ss⟩
   | succ i => exact h3 P (fun y hy => hP y (List.mem_cons_of_mem _ hy)) i x a (by simpa using hx) (by simpa using ha)
theorem groups_ne {l : List Wv} (h : ∀ x ∈ l, x.1 ≠ []) (hn : l ≠ []) : groups l ≠ [] := by
 obtain ⟨⟨w, v⟩, l, rfl⟩ := List.exists_cons_of_ne_nil hn
 cases w with
 | nil => exact absurd rfl (h _ (List.mem_cons_self ..))
 | cons b w =>
  simp only [groups]
  split
  ·simp
  ·split <;> simp
theorem parts {l : List Wv} (hr : Rise l) : ∃ m, l = (if (finOf l).1 then [([], (finOf l).2)] else []) ++ m /\ groups l = groups m /\ Grp m (groups m) /\ ((finOf l).1 = false -> (finOf l).2 = 0) /\ (∀ x ∈ m, x.1 ≠ []) /\ (l ≠ [] -> (finOf l).1 = false -> groups m ≠ []) := by
 cases l with
 | nil => exact ⟨[], rfl, rfl, groups_grp List.Pairwise.nil (by simp), fun _ => rfl, by simp, fun h => absurd rfl h⟩
 | cons e l =>
  obtain ⟨w, v⟩ := e
  cases w with
  | nil => exact ⟨l, rfl, rfl, groups_grp hr.tail hr.nonempty, (fun h => by cases h), hr.nonempty, (fun _ h => by cases h)⟩
  | cons b w =>
   have hne : ∀ x ∈ (b :: w, v) :: l, x.1 ≠ [] := fun x hx => by
    rcases List.mem_cons.1 hx with rfl | hx
    ·simp
    ·exact hr.nonempty x hx
   exact ⟨(b :: w, v) :: l, rfl, rfl, groups_grp hr hne, fun _ => rfl, hne, fun h _ => groups_ne hne h⟩
theorem AllLt.group {f : Nat} {l m : List Wv} {gs : List (Nat × List Wv)} (h : AllLt (f + 1) l) (hm : ∀ e ∈ m, e ∈ l) (hG : Grp m gs) : ∀ x ∈ gs, AllLt f x.2 := fun x hx e he => by
 have := h (pre [x.1] e) (hm _ (by rw [hG.flat]; exact mem_flat hx he))
 simp [pre] at this
 omega
theorem values_flat (gs : List (Nat × List Wv)) : (flat gs).map Prod.snd = gs.flatMap fun x => x.2.map Prod.snd := by
 simp [flat, List.map_flatMap, List.map_map, Function.comp_def, pre]
theorem least_parts {fin : Bool} {v : Nat} {gs : List (Nat × List Wv)} (hn : ∀ x ∈ gs, x.2 ≠ []) (m : Nat) (h : Least m ((if fin then [v] else []) ++ gs.map fun x => leastV x.2)) :
  Least m ((if fin then [v] else []) ++ gs.flatMap fun x => x.2.map Prod.snd) := by
 refine ⟨?_, fun u hu => ?_⟩
 ·rcases List.mem_append.1 h.1 with h1 | h1
  ·exact List.mem_append_left _ h1
  ·obtain ⟨x, hx, rfl⟩ := List.mem_map.1 h1
   exact List.mem_append_right _ (List.mem_flatMap.2 ⟨x, hx, (leastV_least (hn x hx)).1⟩)
 ·rcases List.mem_append.1 hu with h1 | h1
  ·exact h.2 u (List.mem_append_left _ h1)
  ·obtain ⟨x, hx, hux⟩ := List.mem_flatMap.1 h1
   exact Nat.le_trans (h.2 _ (List.mem_append_right _ (List.mem_map_of_mem hx))) ((leastV_least (hn x hx)).2 u hux)
theorem least_N : ∀ (f : Nat) (l : List Wv) (ss : List State), AllLt f l -> l ≠ [] -> Rise l -> leastOf (N f ss l).2 = leastV l
 | 0, [], ss, hl, hn, hr => absurd rfl hn
 | 0, e :: l, ss, hl, hn, hr => absurd (hl e (List.mem_cons_self ..)) (by omega)
 | f + 1, l, ss, hl, hn, hr => by
  obtain ⟨m, hlm, hgm, hG, hf0, hne, hgn⟩ := parts hr
  have hmem : ∀ e ∈ m, e ∈ l := fun e he => by rw [hlm]; exact List.mem_append_right _ he
  have hAll := hl.group hmem hG
  obtain ⟨bs, h1, h2, h3⟩ := arcsN_append (N f) (groups m) ss []
  have h4 := h3 (fun b n g => n = leastV g) (fun x hx ss => least_N f x.2 ss (hAll x hx) (hG.some_ x hx).1 (hG.some_ x hx).2)
  have hbs : bs.map Arc.out = (groups m).map fun x => leastV x.2 := by
   refine List.ext_getElem (by simp [h2]) fun i hi1 hi2 => ?_
   simp at hi1 hi2
   have := h4 i (groups m)[i] bs[i] (by simp [hi2]) (by simp [hi1])
   simp [this.2]
  have houts : outsOf (N (f + 1) ss l).2 = (if (finOf l).1 then [(finOf l).2] else []) ++ (groups m).map fun x => leastV x.2 := by
   simp only [outsOf, N, hgm, h1, List.nil_append, hbs]
  have hne2 : outsOf (N (f + 1) ss l).2 ≠ [] := by
   rw [houts]
   cases hfin : (finOf l).1 with
   | true => simp
   | false =>
    have := hgn hn hfin
    simp [this]
  have hL := leastOf_least hne2
  rw [houts] at hL
  have hL2 := least_parts (fun x hx => (hG.some_ x hx).1) _ hL
  rw [<- values_flat, <- hG.flat] at hL2
  have hv : l.map Prod.snd = (if (finOf l).1 then [(finOf l).2] else []) ++ m.map Prod.snd := by
   rw [hlm, List.map_append, <- hlm]
   cases (finOf l).1 <;> rfl
  rw [<- hv] at hL2
  exact hL2.uniq (leastV_least hn)
/-! the document's way -/
section
variable {f : Nat} (IH : ∀ (l : List Wv) (ss : List State) (p : List Nat) (le : Nat), AllLt f l -> l ≠ [] -> Rise l -> refS f ss (l.map (pre p)) p.length le = finish (N f ss l).1 (less (N f ss l).2 le))
include IH
end
def okArcs (i : Nat) : Int -> List Arc -> Bool
 | _, [] => true
 | last, a :: l => decide (0 <= a.to) && decide (a.to < (i : Int)) && decide (last < (a.byte : Int)) && okArcs i (a.byte : Int) l
def formedL : Nat -> List State -> Bool
 | _, [] => true
 | i, s :: l => (s.final || decide (s.out = 0)) && okArcs i (-1) s.arcs && formedL (i + 1) l
def formedF (ss : List State) : Bool := formedL 0 ss && decide (0 < ss.length)
theorem formedL_step {ss : List State} {i : Nat} {s : State} (h : ss[i]? = some s) : formedL i (ss.drop i) = ((s.final || decide (s.out = 0)) && okArcs i (-1) s.arcs && formedL (i + 1) (ss.drop (i + 1))) := by rw [drop_get h]; rfl
theorem okArcs_step {l : List Arc} {i k : Nat} {last : Int} {a : Arc} (h : l[k]? = some a) : okArcs i last (l.drop k) = (decide (0 <= a.to) && decide (a.to < (i : Int)) && decide (last < (a.byte : Int)) && okArcs i (a.byte : Int) (l.drop (k + 1))) := by rw [drop_get h]; rfl
/-! the walk from the root -/
def wArcs (rec : Nat -> Nat -> Option Nat) : List Arc -> Nat -> Option Nat
 | [], left => some left
 | a :: l, left => if (left : Int) <= a.to then (match rec a.to.toNat left with | none => none | some x => wArcs rec l x) else wArcs rec l left
def arcsOf (ss : List State) (s : Nat) : List Arc := (ss[s]?.map State.arcs).getD []
def leave (s : Nat) : Option Nat -> Option Nat
 | none => none
 | some l => if s = l then some (l + 1) else none
def wlk : Nat -> List State -> Nat -> Nat -> Option Nat
 | 0, _, _, _ => none
 | f + 1, ss, s, left => leave s (wArcs (wlk f ss) (arcsOf ss s) left)
def resume (ss : List State) (s k left : Nat) : Option Nat := leave s (wArcs (wlk s ss) ((arcsOf ss s).drop k) left)
def contW (ss : List State) : List (Nat × Nat) -> Nat -> Bool
 | [], left => decide (left = ss.length)
 | (s, k) :: rest, left => match resume ss s k left with
  | none => false
  | some l => contW ss rest l
def Ahead (ss : List State) : Prop := ∀ (s : Nat), ∀ a ∈ arcsOf ss s, 0 <= a.to /\ a.to < (s : Int)
theorem wArcs_congr {r r' : Nat -> Nat -> Option Nat} : ∀ (l : List Arc) (left : Nat), (∀ a ∈ l, ∀ x, r a.to.toNat x = r' a.to.toNat x) -> wArcs r l left = wArcs r' l left
 | [], _, _ => rfl
 | a :: l, left, h => by
  have h1 := h a (List.mem_cons_self ..)
  have ih := fun x => wArcs_congr l x (fun b hb => h b (List.mem_cons_of_mem _ hb))
  simp only [wArcs]
  rw [h1 left, ih left]
  split
  ·cases r' a.to.toNat left with
   | none => rfl
   | some x => exact ih x
  ·rfl
theorem wlk_fuel {ss : List State} (hA : Ahead ss) : ∀ (s f f' : Nat), s < f -> s < f' -> ∀ left, wlk f ss s left = wlk f' ss s left := by
 intro s
 induction s using Nat.strongRecOn with
 | _ s ih =>
  intro f f' h h' left
  obtain ⟨g, rfl⟩ : ∃ g, f = g + 1 := ⟨f - 1, by omega⟩
  obtain ⟨g', rfl⟩ : ∃ g', f' = g' + 1 := ⟨f' - 1, by omega⟩
  simp only [wlk]
  rw [wArcs_congr (arcsOf ss s) left (fun a ha x => by
   have := hA s a ha
   exact ih a.to.toNat (by omega) g g' (by omega) (by omega) x)]
theorem wlk_resume {ss : List State} (hA : Ahead ss) {s t left : Nat} (h : t < s) : wlk s ss t left = resume ss t 0 left := by
 rw [wlk_fuel hA t s (t + 1) h (by omega)]
 rfl
theorem cont_push {ss : List State} (hA : Ahead ss) {s k left : Nat} {rest : List (Nat × Nat)} {a : Arc} (h : (arcsOf ss s)[k]? = some a) (hl : (left : Int) <= a.to) : contW ss ((s, k) :: rest) left = contW ss ((a.to.toNat, 0) :: (s, k + 1) :: rest) left := by
 have ha := hA s a (gM1 h)
 simp only [contW, resume]
 rw [drop_get h]
 simp only [wArcs, hl, if_true]
 rw [wlk_resume hA (by omega)]
 cases hr : resume ss a.to.toNat 0 left with
 | none => simp [leave, resume] at hr |-; rw [hr]
 | some x => simp only [resume] at hr |-; rw [hr]
theorem cont_next {ss : List State} {s k left : Nat} {rest : List (Nat × Nat)} {a : Arc} (h : (arcsOf ss s)[k]? = some a) (hl : ¬ (left : Int) <= a.to) : contW ss ((s, k) :: rest) left = contW ss ((s, k + 1) :: rest) left := by
 simp only [contW, resume]
 rw [drop_get h]
 simp only [wArcs, hl, if_false]
theorem cont_end {ss : List State} {s k left : Nat} {rest : List (Nat × Nat)} (h : (arcsOf ss s).length <= k) : contW ss ((s, k) :: rest) left = if s = left then contW ss rest (left + 1) else false := by
 simp only [contW, resume]
 rw [List.drop_eq_nil_of_le h]
 simp only [wArcs, leave]
 by_cases hs : s = left
 ·simp [hs]
 ·simp [hs]
def orderedF (ss : List State) : Bool := contW ss [(ss.length - 1, 0)] 0
def goodS (ss : List State) (i : Nat) (s : State) : Bool := !(!s.final && decide (s.arcs.length = 0)) && decide (leastOf s = 0) && decide (s ∉ ss.take i)
def allGood (ss : List State) : Nat -> List State -> Bool
 | _, [] => true
 | i, s :: l => goodS ss i s && allGood ss (i + 1) l
theorem allGood_step {ss : List State} {i : Nat} {s : State} (h : ss[i]? = some s) : allGood ss i (ss.drop i) = (goodS ss i s && allGood ss (i + 1) (ss.drop (i + 1))) := by rw [drop_get h]; rfl
def rightF (ss : List State) (init : Nat) : Bool :=
 formedF ss && (match ss.getLast? with
  | none => false
  | some root => if !root.final && decide (root.arcs.length = 0) then decide (ss.length = 1) && decide (init = 0) else orderedF ss && allGood ss 0 ss)
def BadO (out : List Nat) : Prop := ∃ i x : Nat, out[i]? = some x /\ x ≠ i
theorem BadO.more {a b : List Nat} (h : BadO a) (hp : a <+: b) : BadO b := by
 obtain ⟨i, x, h1, h2⟩ := h
 obtain ⟨c, rfl⟩ := hp
 exact ⟨i, x, by rw [List.getElem?_append_left (gS1 h1).1]; exact h1, h2⟩
theorem formed_ahead0 : ∀ (l : List Arc) (i : Nat) (last : Int), okArcs i last l = true -> ∀ a ∈ l, 0 <= a.to /\ a.to < (i : Int)
 | [], _, _, _ => by simp
 | a :: l, i, last, h => by
  simp only [okArcs, Bool.and_eq_true, decide_eq_true_eq] at h
  intro x hx
  rcases List.mem_cons.1 hx with rfl | hx
  ·exact ⟨h.1.1.1, h.1.1.2⟩
  ·exact formed_ahead0 l i _ h.2 x hx
theorem formedL_at0 : ∀ (l : List State) (i : Nat), formedL i l = true -> ∀ (j : Nat) (s : State), l[j]? = some s -> okArcs (i + j) (-1) s.arcs = true
 | [], _, _, j, s, hj => by simp at hj
 | x :: l, i, h, j, s, hj => by
  simp only [formedL, Bool.and_eq_true] at h
  cases j with
  | zero => injection hj with hj; subst hj; exact h.1.2
  | succ j => rw [show i + (j + 1) = (i + 1) + j by omega]; exact formedL_at0 l (i + 1) h.2 j s hj
theorem formed_Ahead {ss : List State} (h : formedF ss = true) : Ahead ss /\ 0 < ss.length := by
 unfold formedF at h
 rw [Bool.and_eq_true] at h
 refine ⟨fun s a ha => ?_, of_decide_eq_true h.2⟩
 unfold arcsOf at ha
 cases hs : ss[s]? with
 | none => rw [hs] at ha; simp at ha
 | some st =>
  rw [hs] at ha
  have := formedL_at0 ss 0 h.1 s st hs
  rw [Nat.zero_add] at this
  exact formed_ahead0 _ _ _ this a (by simpa using ha)
theorem finish_in {ss : List State} {s : State} (h : s ∈ ss) : ∃ i, ss[i]? = some s /\ i < ss.length /\ finish ss s = (ss, i) := by
 unfold finish
 cases hf : ss.findIdx? (. = s) with
 | none =>
  rw [List.findIdx?_eq_none_iff] at hf
  have := hf s h
  simp at this
 | some i =>
  obtain ⟨h1, h2, _⟩ := List.findIdx?_eq_some_iff_getElem.1 hf
  have h2 : ss[i] = s := by simpa using h2
  exact ⟨i, by rw [gE1 h1, h2], h1, rfl⟩
theorem finish_out {ss : List State} {s : State} (h : s ∉ ss) : finish ss s = (ss ++ [s], ss.length) := by
 unfold finish
 have : ss.findIdx? (. = s) = none := by
  rw [List.findIdx?_eq_none_iff]
  intro x hx
  simp only [decide_eq_false_iff_not]
  rintro rfl
  exact h hx
 rw [this]
structure Good (i : Nat) (s : State) : Prop where
 arcs : okArcs i (-1) s.arcs = true
 out : s.final = false -> s.out = 0
 some_ : s.final = true \/ s.arcs ≠ []
 zero : leastOf s = 0
structure Inv (ss : List State) : Prop where
 nodup : ss.Nodup
 good : ∀ (i : Nat) (s : State), ss[i]? = some s -> Good i s
def K (f : Nat) (ss : List State) (l : List Wv) : List State × Nat := finish (N f ss l).1 (less (N f ss l).2 (leastOf (N f ss l).2))
structure KOk (ss ss' : List State) (k : Nat) : Prop where
 pre : ss <+: ss'
 lt : k < ss'.length
 old : k < ss.length -> ss' = ss
 new : ss.length <= k -> ss'.length = k + 1
 walk : ss.length <= k -> ∀ SS, ss' <+: SS -> Ahead SS -> ∀ f, k < f -> wlk f SS k ss.length = some ss'.length
theorem wArcs_to {r : Nat -> Nat -> Option Nat} (g : Arc -> Arc) (hg : ∀ a, (g a).to = a.to) : ∀ (l : List Arc) (left : Nat), wArcs r (l.map g) left = wArcs r l left
 | [], _ => rfl
 | a :: l, left => by
  simp only [List.map_cons, wArcs, hg]
  split
  ·split
   ·rfl
   ·exact wArcs_to g hg l _
  ·exact wArcs_to g hg l _
theorem okArcs_map {i : Nat} (g : Arc -> Arc) (hg : ∀ a, (g a).to = a.to) (hb : ∀ a, (g a).byte = a.byte) : ∀ (l : List Arc) (last : Int), okArcs i last (l.map g) = okArcs i last l
 | [], _ => rfl
 | a :: l, last => by simp only [List.map_cons, okArcs, hg, hb, okArcs_map g hg hb l]
theorem less_arcs (s : State) (n : Nat) : (less s n).arcs = s.arcs.map fun a => ⟨a.byte, a.out - n, a.to⟩ := rfl
theorem outs_less (s : State) (n : Nat) : outsOf (less s n) = (outsOf s).map (. - n) := by
 unfold outsOf less
 cases s.final <;> simp [Function.comp_def]
theorem least_pushed {s : State} (h : outsOf s ≠ []) : leastOf (less s (leastOf s)) = 0 := by
 have h2 : outsOf (less s (leastOf s)) ≠ [] := by rw [outs_less]; simpa using h
 have h3 := leastOf_least h2
 have h4 := leastOf_least h
 have h5 := h3.2 0 (by rw [outs_less, List.mem_map]; exact ⟨_, h4.1, Nat.sub_self _⟩)
 omega
theorem Inv.nil_ : Inv [] := ⟨List.nodup_nil, fun i s h => by simp at h⟩
theorem Inv.formed {ss : List State} (h : Inv ss) (h0 : 0 < ss.length) : formedF ss = true := by
 have key : ∀ (l : List State) (i : Nat), (∀ (j : Nat) (s : State), l[j]? = some s -> Good (i + j) s) -> formedL i l = true := by
  intro l
  induction l with
  | nil => intro i _; rfl
  | cons s l ih =>
   intro i hg
   have hs := hg 0 s rfl
   simp only [formedL, Bool.and_eq_true, Bool.or_eq_true, decide_eq_true_eq]
   refine ⟨⟨?_, hs.arcs⟩, ih (i + 1) (fun j t ht => by have := hg (j + 1) t (by simpa using ht); rwa [show i + (j + 1) = i + 1 + j by omega] at this)⟩
   cases hf : s.final with
   | true => exact .inl rfl
   | false => exact .inr (hs.out hf)
 unfold formedF
 rw [key ss 0 (fun j s hs => by rw [Nat.zero_add]; exact h.good j s hs), decide_eq_true h0]
 rfl
theorem Inv.all {ss : List State} (h : Inv ss) : allGood ss 0 ss = true := by
 have key : ∀ (n i : Nat), i + n = ss.length -> allGood ss i (ss.drop i) = true := by
  intro n
  induction n with
  | zero => intro i hi; rw [List.drop_eq_nil_of_le (by omega)]; rfl
  | succ n ih =>
   intro i hi
   obtain ⟨s, hs⟩ : ∃ s, ss[i]? = some s := ⟨_, gE1 (by omega)⟩
   rw [allGood_step hs, ih (i + 1) (by omega), Bool.and_true]
   have hg := h.good i s hs
   unfold goodS
   have hnot : s ∉ ss.take i := fun hm => by
    obtain ⟨j, hj⟩ := List.mem_iff_getElem?.1 hm
    have hlt : j < i := by have := (gS1 hj).1; simp at this; omega
    have hj2 : ss[j]? = some s := by rw [List.getElem?_take] at hj; rwa [if_pos hlt] at hj
    have := (List.getElem?_inj (i := j) (j := i) (by have := (gS1 hj2).1; omega) h.nodup).1 (hj2.trans hs.symm)
    omega
   rw [decide_eq_true hg.zero, decide_eq_true hnot]
   rcases hg.some_ with h1 | h1
   ·rw [h1]; rfl
   ·have : s.arcs.length ≠ 0 := fun e => h1 (List.eq_nil_of_length_eq_zero e)
    rw [decide_eq_false this]; cases s.final <;> rfl
 exact key ss.length 0 (by omega)
theorem arcsOf_pre {ss SS : List State} (h : ss <+: SS) {k : Nat} {s : State} (hk : ss[k]? = some s) : arcsOf SS k = s.arcs := by
 obtain ⟨r, rfl⟩ := h
 unfold arcsOf
 rw [List.getElem?_append_left (gS1 hk).1, hk]
 rfl
structure AOk (ss ss' : List State) (news : List Arc) : Prop where
 pre : ss <+: ss'
 inv : Inv ss'
 to : ∀ a ∈ news, 0 <= a.to /\ a.to < (ss'.length : Int)
 last : ss' ≠ ss -> ∃ a ∈ news, a.to = (ss'.length : Int) - 1
 walk : ∀ SS, ss' <+: SS -> Ahead SS -> ∀ f, ss'.length <= f -> wArcs (wlk f SS) news ss.length = some ss'.length
theorem arcs_ok (f : Nat) (ih : ∀ (l : List Wv) (ss : List State), AllLt f l -> l ≠ [] -> Rise l -> Inv ss -> Inv (K f ss l).1 /\ KOk ss (K f ss l).1 (K f ss l).2) :
  ∀ (gs : List (Nat × List Wv)) (ss : List State) (ars : List Arc), (∀ x ∈ gs, x.2 ≠ [] /\ Rise x.2 /\ AllLt f x.2) -> Inv ss -> ∃ news, (arcsN (N f) ss ars gs).2 = ars ++ news /\ news.map Arc.byte = gs.map Prod.fst /\ AOk ss (arcsN (N f) ss ars gs).1 news
 | [], ss, ars, _, hi => ⟨[], by simp [arcsN], rfl, ⟨List.prefix_refl _, hi, by simp, fun h => absurd rfl h, fun SS _ _ f' _ => rfl⟩⟩
 | (b, g) :: gs, ss, ars, hg, hi => by
  obtain ⟨g1, g2, g3⟩ := hg (b, g) (List.mem_cons_self ..)
  obtain ⟨i1, hk⟩ := ih g ss g3 g1 g2 hi
  obtain ⟨news, e1, e2, hA⟩ := arcs_ok f ih gs (K f ss g).1 (ars ++ [⟨b, leastOf (N f ss g).2, ((K f ss g).2 : Int)⟩]) (fun x hx => hg x (List.mem_cons_of_mem _ hx)) i1
  refine ⟨⟨b, leastOf (N f ss g).2, ((K f ss g).2 : Int)⟩ :: news, ?_, ?_, ?_⟩
  ·have h9 : (arcsN (N f) ss ars ((b, g) :: gs)).2 = (arcsN (N f) (K f ss g).1 (ars ++ [⟨b, leastOf (N f ss g).2, ((K f ss g).2 : Int)⟩]) gs).2 := rfl
   rw [h9, e1]; simp
  ·simp [e2]
  ·have h9 : (arcsN (N f) ss ars ((b, g) :: gs)).1 = (arcsN (N f) (K f ss g).1 (ars ++ [⟨b, leastOf (N f ss g).2, ((K f ss g).2 : Int)⟩]) gs).1 := rfl
   rw [h9]
   obtain ⟨ss', hss'⟩ : ∃ x, (arcsN (N f) (K f ss g).1 (ars ++ [⟨b, leastOf (N f ss g).2, ((K f ss g).2 : Int)⟩]) gs).1 = x := ⟨_, rfl⟩
   rw [hss'] at hA |-
   have hle := hA.pre.length_le
   refine ⟨hk.pre.trans hA.pre, hA.inv, fun a ha => ?_, fun hne => ?_, fun SS hS hAh f' hf' => ?_⟩
   ·rcases List.mem_cons.1 ha with rfl | ha
    ·have := hk.lt
     exact ⟨by simp only; omega, by simp only; omega⟩
    ·exact hA.to a ha
   ·by_cases h1 : ss' = (K f ss g).1
    ·refine ⟨_, List.mem_cons_self .., ?_⟩
     have h2 : ss.length <= (K f ss g).2 := by
      rcases Nat.lt_or_ge (K f ss g).2 ss.length with h3 | h3
      ·exact absurd (h1.trans (hk.old h3)) hne
      ·exact h3
     have := hk.new h2
     rw [h1]
     simp only
     omega
    ·obtain ⟨a, ha, he⟩ := hA.last h1
     exact ⟨a, List.mem_cons_of_mem _ ha, he⟩
   ·simp only [wArcs]
    have hw := hA.walk SS hS hAh f' hf'
    by_cases hto : (ss.length : Int) <= ((K f ss g).2 : Int)
    ·rw [if_pos hto]
     have h2 : ss.length <= (K f ss g).2 := by omega
     have h3 := hk.walk h2 SS (hA.pre.trans hS) hAh f' (by have := hk.lt; omega)
     simp only [Int.toNat_natCast]
     rw [h3]
     exact hw
    ·rw [if_neg hto]
     rw [hk.old (by omega)] at hw
     exact hw
theorem bytes_rise : ∀ (l : List Arc) (i : Nat) (last : Int), (l.map Arc.byte).Pairwise (. < ·) -> (∀ a ∈ l, 0 <= a.to /\ a.to < (i : Int)) -> (∀ a ∈ l, last < (a.byte : Int)) -> okArcs i last l = true
 | [], _, _, _, _, _ => rfl
 | a :: l, i, last, hp, ht, hl => by
  simp only [List.map_cons, List.pairwise_cons] at hp
  have h1 := ht a (List.mem_cons_self ..)
  have h2 := hl a (List.mem_cons_self ..)
  simp only [okArcs, decide_eq_true h1.1, decide_eq_true h1.2, decide_eq_true h2, Bool.true_and]
  exact bytes_rise l i _ hp.2 (fun b hb => ht b (List.mem_cons_of_mem _ hb)) (fun b hb => by have := hp.1 b.byte (List.mem_map.2 ⟨b, hb, rfl⟩); omega)
theorem K_ok : ∀ (f : Nat) (l : List Wv) (ss : List State), AllLt f l -> l ≠ [] -> Rise l -> Inv ss -> Inv (K f ss l).1 /\ KOk ss (K f ss l).1 (K f ss l).2
 | 0, [], ss, _, hn, _, _ => absurd rfl hn
 | 0, e :: l, ss, hl, _, _, _ => absurd (hl e (List.mem_cons_self ..)) (by omega)
 | f + 1, l, ss, hl, hn, hr, hi => by
  obtain ⟨m, p1, p2, p3, p4, p5, p6⟩ := parts hr
  have hm : ∀ e ∈ m, e ∈ l := fun e he => by rw [p1]; exact List.mem_append_right _ he
  have hall := hl.group hm p3
  obtain ⟨news, e1, e2, hA⟩ := arcs_ok f (K_ok f) (groups l) ss [] (fun x hx => by rw [p2] at hx; exact ⟨(p3.some_ x hx).1, (p3.some_ x hx).2, hall x hx⟩) hi
  obtain ⟨ss1, hss1⟩ : ∃ x, (arcsN (N f) ss [] (groups l)).1 = x := ⟨_, rfl⟩
  rw [hss1] at hA
  have hN1 : (N (f + 1) ss l).1 = ss1 := hss1
  have hN2 : (N (f + 1) ss l).2 = ⟨(finOf l).1, (finOf l).2, news⟩ := by show (⟨_, _, (arcsN (N f) ss [] (groups l)).2⟩ : State) = _; rw [e1]; rfl
  have hK : K (f + 1) ss l = finish ss1 (less ⟨(finOf l).1, (finOf l).2, news⟩ (leastOf ⟨(finOf l).1, (finOf l).2, news⟩)) := by unfold K; rw [hN1, hN2]
  have hsome : (finOf l).1 = true \/ news ≠ [] := by
   cases hf : (finOf l).1 with
   | true => exact .inl rfl
   | false =>
    refine .inr fun h0 => ?_
    rw [h0] at e2
    have h9 := p6 hn hf
    rw [<- p2] at h9
    exact h9 (by simpa using e2.symm)
  have houts : outsOf ⟨(finOf l).1, (finOf l).2, news⟩ ≠ [] := by
   unfold outsOf
   rcases hsome with h | h
   ·simp [h]
   ·intro h2
    have := (List.append_eq_nil_iff.1 h2).2
    exact h (by simpa using this)
  obtain ⟨s', hs'⟩ : ∃ x, less ⟨(finOf l).1, (finOf l).2, news⟩ (leastOf ⟨(finOf l).1, (finOf l).2, news⟩) = x := ⟨_, rfl⟩
  have hgood : Good ss1.length s' := by
   rw [<- hs']
   refine ⟨?_, fun hf => ?_, ?_, least_pushed houts⟩
   ·rw [less_arcs, okArcs_map (fun a => ⟨a.byte, a.out - leastOf ⟨(finOf l).1, (finOf l).2, news⟩, a.to⟩) (fun _ => rfl) (fun _ => rfl)]
    refine bytes_rise _ _ _ ?_ hA.to (fun a _ => by omega)
    rw [e2, p2, List.pairwise_map]
    exact p3.rise
   ·have hf : (finOf l).1 = false := hf
    show (if (finOf l).1 then (finOf l).2 - _ else (finOf l).2) = 0
    rw [hf, if_neg (by simp)]
    exact p4 hf
   ·rcases hsome with h | h
    ·exact .inl h
    ·exact .inr (by rw [less_arcs]; simpa using h)
  have harcs : s'.arcs = news.map fun a => ⟨a.byte, a.out - leastOf ⟨(finOf l).1, (finOf l).2, news⟩, a.to⟩ := by rw [<- hs', less_arcs]
  rw [hK, hs']
  by_cases hin : s' ∈ ss1
  ·obtain ⟨k, hk1, hk2, hk3⟩ := finish_in hin
   rw [hk3]
   have heq : ss1 = ss := by
    refine Classical.byContradiction fun hne => ?_
    obtain ⟨a, ha, hto⟩ := hA.last hne
    have hg := hA.inv.good k s' hk1
    have h9 := formed_ahead0 _ _ _ hg.arcs ⟨a.byte, a.out - leastOf ⟨(finOf l).1, (finOf l).2, news⟩, a.to⟩ (by rw [harcs]; exact List.mem_map.2 ⟨a, ha, rfl⟩)
    simp only at h9
    omega
   exact ⟨hA.inv, hA.pre, hk2, fun _ => heq, fun h => by rw [heq] at hk2; omega, fun h => by rw [heq] at hk2; omega⟩
  ·rw [finish_out hin]
   have hinv : Inv (ss1 ++ [s']) := by
    refine ⟨List.nodup_append.2 ⟨hA.inv.nodup, by simp, fun a ha b hb => by simp at hb; subst hb; exact fun e => hin (e ▸ ha)⟩, fun i s hs => ?_⟩
    rcases Nat.lt_or_ge i ss1.length with h | h
    ·rw [List.getElem?_append_left h] at hs
     exact hA.inv.good i s hs
    ·rw [List.getElem?_append_right h] at hs
     have h0 : i - ss1.length = 0 := by
      rcases Nat.eq_zero_or_pos (i - ss1.length) with h2 | h2
      ·exact h2
      ·rw [List.getElem?_eq_none (by simp; omega)] at hs; cases hs
     rw [h0] at hs
     injection hs with hs
     subst hs
     rw [show i = ss1.length by omega]
     exact hgood
   have hle := hA.pre.length_le
   refine ⟨hinv, hA.pre.trans (List.prefix_append _ _), by simp, fun h => by simp only at h; omega, fun _ => by simp, fun _ SS hS hAh f' hf' => ?_⟩
   obtain ⟨g, rfl⟩ : ∃ g, f' = g + 1 := ⟨f' - 1, by omega⟩
   simp only at hf' |-
   simp only [wlk]
   rw [arcsOf_pre hS (k := ss1.length) (s := s') (by rw [List.getElem?_append_right (Nat.le_refl _)]; simp), harcs, wArcs_to (fun a => ⟨a.byte, a.out - leastOf ⟨(finOf l).1, (finOf l).2, news⟩, a.to⟩) (fun _ => rfl), hA.walk SS ((List.prefix_append _ _).trans hS) hAh g (by omega)]
   simp [leave]
theorem build_K {l : List Wv} (hl : AllLt 256 l) (hn : l ≠ []) (hr : Rise l) : build l = ⟨(K 256 [] l).1, leastV l⟩ := by
 obtain ⟨e, l, rfl⟩ := List.exists_cons_of_ne_nil hn
 have hp : (e :: l).map (pre []) = e :: l := (List.map_congr_left fun x _ => by simp [pre]).trans (List.map_id _)
 have hb := adds_N 256 (e :: l) [] [] ⟨zeroS, 0⟩ [] hl (by simp) hr rfl rfl
 rw [hp] at hb
 have hn := least_N 256 (e :: l) [] hl (by simp) hr
 unfold build K
 have h0 : ([] : List Nat).length = 0 := rfl
 rw [h0] at hb
 simp only [hb, List.headD_cons, hn]
theorem build_right {l : List Wv} (hl : AllLt 256 l) (hr : Rise l) : rightF (build l).states (build l).init = true := by
 by_cases hn : l = []
 ·subst hn; decide
 ·rw [build_K hl hn hr]
  obtain ⟨hI, hK⟩ := K_ok 256 l [] hl hn hr Inv.nil_
  obtain ⟨ss, hss⟩ : ∃ x, (K 256 [] l).1 = x := ⟨_, rfl⟩
  obtain ⟨k, hk⟩ : ∃ x, (K 256 [] l).2 = x := ⟨_, rfl⟩
  rw [hss, hk] at hK
  rw [hss] at hI |-
  have h0 : 0 < ss.length := by have := hK.lt; omega
  have hlen := hK.new (Nat.zero_le _)
  have hfm := hI.formed h0
  obtain ⟨hA, _⟩ := formed_Ahead hfm
  obtain ⟨root, hroot⟩ : ∃ r, ss[ss.length - 1]? = some r := ⟨_, gE1 (by omega)⟩
  have hg := hI.good _ _ hroot
  have hw := hK.walk (Nat.zero_le _) ss (List.prefix_refl _) hA (k + 1) (by omega)
  have hord : orderedF ss = true := by
   unfold orderedF
   rw [show ss.length - 1 = k by omega]
   simp only [contW]
   have hres : resume ss k 0 0 = some ss.length := by
    have : resume ss k 0 0 = wlk (k + 1) ss k 0 := rfl
    rw [this]; exact hw
   rw [hres]
   simp
  unfold rightF
  rw [hfm, List.getLast?_eq_getElem?, hroot, hord, hI.all]
  have hne : (!root.final && decide (root.arcs.length = 0)) = false := by
   rcases hg.some_ with h | h
   ·rw [h]; rfl
   ·have : root.arcs.length ≠ 0 := fun e => h (List.eq_nil_of_length_eq_zero e)
    rw [decide_eq_false this]; cases root.final <;> rfl
  simp only [hne, Bool.true_and]
  rfl
end Dw
end Go.Proofs.YtcddnmhmcieebaaGreatDoor
