/- Dawg: laws of the mirror. -/
import Derived.Test.YtcddnmhmcieebaaGreatDoorY1
import Derived.Test.YtcddnmhmcieebaaGreatDoorY3
import Derived.WalkSmall
import Derived.Test.YtcddnmhmcieebaaGreatDoorTools
namespace Go.Proofs.YtcddnmhmcieebaaGreatDoor
set_option maxHeartbeats 4000000
set_option maxRecDepth 100000
set_option linter.unusedSimpArgs false
set_option linter.unusedVariables false
namespace Dw
theorem closeN_short (n : Nat) (ss : List State) (way : List Open) (h : way.length <= 1) : closeN n ss way = (ss, way) := by
 cases n with
 | zero => simp [closeN]
 | succ n =>
  match way, h with
  | [], _ => rfl
  | [o], _ => rfl
theorem closeN_zero (ss : List State) (way : List Open) : closeN 0 ss way = (ss, way) := by cases way <;> rfl
theorem closeN_length (n : Nat) : ∀ (ss : List State) (way : List Open), n < way.length -> (closeN n ss way).2.length = way.length - n := by
 induction n with
 | zero => intro ss way h; rw [closeN_zero]; rfl
 | succ n ih =>
  intro ss way h
  match way, h with
  | [o], h => simp at h
  | o :: up :: way, h =>
   show (closeN n (close1 ss up o).1 ((close1 ss up o).2 :: way)).2.length = _
   rw [ih _ _ (by simp at h |-; omega)]
   simp
theorem close_length (ss : List State) (way : List Open) (d : Nat) (h : d < way.length) : (close ss way d).2.length = d + 1 := by
 unfold close
 rw [closeN_length _ _ _ (by omega)]
 omega
theorem shared_le (a b : List Nat) : shared a b <= b.length := by
 induction a generalizing b with
 | nil => simp [shared]
 | cons x a ih =>
  cases b with
  | nil => simp [shared]
  | cons y b =>
   simp only [shared]
   split
   ·have := ih b; simp; omega
   ·omega
theorem opens_length (way : List Open) (w : List Nat) : (opens way w).length = way.length + w.length := by
 induction w generalizing way with
 | nil => rfl
 | cons b w ih => rw [opens, ih]; simp; omega
theorem mark_length (v : Nat) (way : List Open) : (mark v way).length = way.length := by cases way <;> rfl
theorem adds_append (x : List State × List Open) (last : List Nat) (a b : List Wv) : adds x last (a ++ b) = adds (adds x last a) ((a.getLast?.map Prod.fst).getD last) b := by
 induction a generalizing x last with
 | nil => rfl
 | cons e a ih =>
  rw [List.cons_append, adds, ih, adds]
  congr 1
  cases a with
  | nil => rfl
  | cons f a =>
   rw [List.getLast?_cons_cons]
   obtain ⟨y, hy⟩ : ∃ y, (f :: a).getLast? = some y := ⟨_, List.getLast?_eq_some_getLast (by simp)⟩
   rw [hy]; rfl
/-! rising lists of words, and their groups by the next byte -/
def lexlt : List Nat -> List Nat -> Bool
 | [], _ :: _ => true
 | _, [] => false
 | x :: a, y :: b => decide (x < y) || (decide (x = y) && lexlt a b)
def Rise (l : List Wv) : Prop := l.Pairwise fun a b => lexlt a.1 b.1 = true
def groups : List Wv -> List (Nat × List Wv)
 | [] => []
 | ([], _) :: l => groups l
 | (b :: w, v) :: l => match groups l with
  | [] => [(b, [(w, v)])]
  | (b', g) :: gs => if b = b' then (b, (w, v) :: g) :: gs else (b, [(w, v)]) :: (b', g) :: gs
def pre (p : List Nat) (e : Wv) : Wv := (p ++ e.1, e.2)
def flat (gs : List (Nat × List Wv)) : List Wv := gs.flatMap fun x => x.2.map (pre [x.1])
structure Grp (l : List Wv) (gs : List (Nat × List Wv)) : Prop where
 flat : l = flat gs
 some_ : ∀ x, x ∈ gs -> x.2 ≠ [] /\ Rise x.2
 rise : gs.Pairwise fun a b => a.1 < b.1
theorem lexlt_cons {x y : Nat} {a b : List Nat} : lexlt (x :: a) (y :: b) = true ↔ x < y \/ (x = y /\ lexlt a b = true) := by simp [lexlt]
theorem lexlt_nil (a : List Nat) : lexlt a [] = false := by cases a <;> rfl
theorem lexlt_trans : ∀ (a b c : List Nat), lexlt a b = true -> lexlt b c = true -> lexlt a c = true
 | _, [], _, h1, _ => by rw [lexlt_nil] at h1; cases h1
 | _, _ :: _, [], _, h2 => by rw [lexlt_nil] at h2; cases h2
 | [], y :: b, z :: c, _, _ => rfl
 | x :: a, y :: b, z :: c, h1, h2 => by
  rw [lexlt_cons] at h1 h2 |-
  rcases h1 with h1 | ⟨rfl, h1⟩
  ·rcases h2 with h2 | ⟨rfl, h2⟩
   ·exact .inl (by omega)
   ·exact .inl h1
  ·rcases h2 with h2 | ⟨rfl, h2⟩
   ·exact .inl h2
   ·exact .inr ⟨rfl, lexlt_trans a b c h1 h2⟩
theorem Rise.tail {e : Wv} {l : List Wv} (h : Rise (e :: l)) : Rise l := (List.pairwise_cons.1 h).2
theorem Rise.head {e : Wv} {l : List Wv} (h : Rise (e :: l)) : ∀ x ∈ l, lexlt e.1 x.1 = true := (List.pairwise_cons.1 h).1
theorem Rise.nonempty {e : Wv} {l : List Wv} (h : Rise (e :: l)) : ∀ x ∈ l, x.1 ≠ [] := fun x hx h0 => by
 have := h.head x hx
 rw [h0, lexlt_nil] at this
 cases this
theorem groups_grp : ∀ {l : List Wv}, Rise l -> (∀ x ∈ l, x.1 ≠ []) -> Grp l (groups l)
 | [], _, _ => ⟨rfl, (fun x hx => by cases hx), List.Pairwise.nil⟩
 | ([], v) :: l, _, hn => absurd rfl (hn _ (List.mem_cons_self ..))
 | (b :: w, v) :: l, hr, hn => by
  have ih := groups_grp hr.tail (fun x hx => hn x (List.mem_cons_of_mem _ hx))
  have hd := hr.head
  simp only [groups]
  cases hg : groups l with
  | nil =>
   rw [hg] at ih
   have hl : l = [] := ih.flat
   subst hl
   exact ⟨rfl, fun x hx => by simp at hx; subst hx; exact ⟨by simp, by simp [Rise]⟩, by simp⟩
  | cons x gs =>
   obtain ⟨b', g⟩ := x
   rw [hg] at ih
   have hs := ih.some_ (b', g) (List.mem_cons_self ..)
   obtain ⟨⟨w', v'⟩, g', rfl⟩ : ∃ e g', g = e :: g' := List.exists_cons_of_ne_nil hs.1
   have hfl := ih.flat
   simp only [flat, List.flatMap_cons, List.map_cons, List.cons_append] at hfl
   have hlt := hd (pre [b'] (w', v')) (by rw [hfl]; exact List.mem_cons_self ..)
   have hlt2 : lexlt (b :: w) (b' :: w') = true := hlt
   rw [lexlt_cons] at hlt2
   have hri := List.pairwise_cons.1 ih.rise
   by_cases hb : b = b'
   ·subst hb
    simp only [if_true]
    refine ⟨?_, fun x hx => ?_, List.pairwise_cons.2 ⟨fun y hy => hri.1 y hy, hri.2⟩⟩
    ·rw [hfl]; simp [flat, pre]
    ·rcases List.mem_cons.1 hx with rfl | hx
     ·refine ⟨by simp, List.pairwise_cons.2 ⟨fun y hy => ?_, hs.2⟩⟩
      have h2 := hd (pre [b] y) (by
       rw [ih.flat]
       simp only [flat, List.flatMap_cons]
       exact List.mem_append_left _ (List.mem_map_of_mem hy))
      have h3 : lexlt (b :: w) (b :: y.1) = true := h2
      rw [lexlt_cons] at h3
      rcases h3 with h3 | h3
      ·omega
      ·exact h3.2
     ·exact ih.some_ x (List.mem_cons_of_mem _ hx)
   ·have hlt3 : b < b' := by rcases hlt2 with h | h; exact h; exact absurd h.1 hb
    simp only [hb, if_false]
    refine ⟨?_, fun x hx => ?_, List.pairwise_cons.2 ⟨fun y hy => ?_, ih.rise⟩⟩
    ·rw [ih.flat]; simp [flat, pre]
    ·rcases List.mem_cons.1 hx with rfl | hx
     ·exact ⟨by simp, by simp [Rise]⟩
     ·exact ih.some_ x hx
    ·rcases List.mem_cons.1 hy with rfl | hy
     ·exact hlt3
     ·have := hri.1 y hy
      simp only at this |-
      omega
/-! the tree of all words, state by state -/
def finOf : List Wv -> Bool × Nat
 | ([], v) :: _ => (true, v)
 | _ => (false, 0)
def arcsN (rec : List State -> List Wv -> List State × State) : List State -> List Arc -> List (Nat × List Wv) -> List State × List Arc
 | ss, ars, [] => (ss, ars)
 | ss, ars, (b, g) :: gs =>
  let r := rec ss g
  let q := finish r.1 (less r.2 (leastOf r.2))
  arcsN rec q.1 (ars ++ [⟨b, leastOf r.2, (q.2 : Int)⟩]) gs
def N : Nat -> List State -> List Wv -> List State × State
 | 0, ss, _ => (ss, zeroS)
 | f + 1, ss, l =>
  let r := arcsN (N f) ss [] (groups l)
  (r.1, ⟨(finOf l).1, (finOf l).2, r.2⟩)
def AllLt (f : Nat) (l : List Wv) : Prop := ∀ e ∈ l, e.1.length < f
section
variable {f : Nat} (IH : ∀ (l : List Wv) (ss : List State) (p : List Nat) (top : Open) (rest : List Open), AllLt f l -> l ≠ [] -> Rise l -> rest.length = p.length -> top.st = zeroS ->
  close (adds (ss, top :: rest) p (l.map (pre p))).1 (adds (ss, top :: rest) p (l.map (pre p))).2 p.length = ((N f ss l).1, ⟨(N f ss l).2, top.by_⟩ :: rest))
include IH
end
/-! the least of values -/
theorem groups_ne {l : List Wv} (h : ∀ x ∈ l, x.1 ≠ []) (hn : l ≠ []) : groups l ≠ [] := by
 obtain ⟨⟨w, v⟩, l, rfl⟩ := List.exists_cons_of_ne_nil hn
 cases w with
 | nil => exact absurd rfl (h _ (List.mem_cons_self ..))
 | cons b w =>
  simp only [groups]
  split
  ·simp
  ·split <;> simp
theorem parts {l : List Wv} (hr : Rise l) : ∃ m, l = (if (finOf l).1 then [([], (finOf l).2)] else []) ++ m /\ groups l = groups m /\ Grp m (groups m) /\ ((finOf l).1 = false -> (finOf l).2 = 0) /\ (∀ x ∈ m, x.1 ≠ []) /\ (l ≠ [] -> (finOf l).1 = false -> groups m ≠ []) := by
 cases l with
 | nil => exact ⟨[], rfl, rfl, groups_grp List.Pairwise.nil (by simp), fun _ => rfl, by simp, fun h => absurd rfl h⟩
 | cons e l =>
  obtain ⟨w, v⟩ := e
  cases w with
  | nil => exact ⟨l, rfl, rfl, groups_grp hr.tail hr.nonempty, (fun h => by cases h), hr.nonempty, (fun _ h => by cases h)⟩
  | cons b w =>
   have hne : ∀ x ∈ (b :: w, v) :: l, x.1 ≠ [] := fun x hx => by
    rcases List.mem_cons.1 hx with rfl | hx
    ·simp
    ·exact hr.nonempty x hx
   exact ⟨(b :: w, v) :: l, rfl, rfl, groups_grp hr hne, fun _ => rfl, hne, fun h _ => groups_ne hne h⟩
section
variable {f : Nat} (IH : ∀ (l : List Wv) (ss : List State) (p : List Nat) (le : Nat), AllLt f l -> l ≠ [] -> Rise l -> refS f ss (l.map (pre p)) p.length le = finish (N f ss l).1 (less (N f ss l).2 le))
include IH
end
def okArcs (i : Nat) : Int -> List Arc -> Bool
 | _, [] => true
 | last, a :: l => decide (0 <= a.to) && decide (a.to < (i : Int)) && decide (last < (a.byte : Int)) && okArcs i (a.byte : Int) l
def formedL : Nat -> List State -> Bool
 | _, [] => true
 | i, s :: l => (s.final || decide (s.out = 0)) && okArcs i (-1) s.arcs && formedL (i + 1) l
def formedF (ss : List State) : Bool := formedL 0 ss && decide (0 < ss.length)
theorem formedL_step {ss : List State} {i : Nat} {s : State} (h : ss[i]? = some s) : formedL i (ss.drop i) = ((s.final || decide (s.out = 0)) && okArcs i (-1) s.arcs && formedL (i + 1) (ss.drop (i + 1))) := by rw [drop_get h]; rfl
theorem okArcs_step {l : List Arc} {i k : Nat} {last : Int} {a : Arc} (h : l[k]? = some a) : okArcs i last (l.drop k) = (decide (0 <= a.to) && decide (a.to < (i : Int)) && decide (last < (a.byte : Int)) && okArcs i (a.byte : Int) (l.drop (k + 1))) := by rw [drop_get h]; rfl
/-! the walk from the root -/
def wArcs (rec : Nat -> Nat -> Option Nat) : List Arc -> Nat -> Option Nat
 | [], left => some left
 | a :: l, left => if (left : Int) <= a.to then (match rec a.to.toNat left with | none => none | some x => wArcs rec l x) else wArcs rec l left
def arcsOf (ss : List State) (s : Nat) : List Arc := (ss[s]?.map State.arcs).getD []
def leave (s : Nat) : Option Nat -> Option Nat
 | none => none
 | some l => if s = l then some (l + 1) else none
def wlk : Nat -> List State -> Nat -> Nat -> Option Nat
 | 0, _, _, _ => none
 | f + 1, ss, s, left => leave s (wArcs (wlk f ss) (arcsOf ss s) left)
def resume (ss : List State) (s k left : Nat) : Option Nat := leave s (wArcs (wlk s ss) ((arcsOf ss s).drop k) left)
def contW (ss : List State) : List (Nat × Nat) -> Nat -> Bool
 | [], left => decide (left = ss.length)
 | (s, k) :: rest, left => match resume ss s k left with
  | none => false
  | some l => contW ss rest l
def Ahead (ss : List State) : Prop := ∀ (s : Nat), ∀ a ∈ arcsOf ss s, 0 <= a.to /\ a.to < (s : Int)
theorem wArcs_congr {r r' : Nat -> Nat -> Option Nat} : ∀ (l : List Arc) (left : Nat), (∀ a ∈ l, ∀ x, r a.to.toNat x = r' a.to.toNat x) -> wArcs r l left = wArcs r' l left
 | [], _, _ => rfl
 | a :: l, left, h => by
  have h1 := h a (List.mem_cons_self ..)
  have ih := fun x => wArcs_congr l x (fun b hb => h b (List.mem_cons_of_mem _ hb))
  simp only [wArcs]
  rw [h1 left, ih left]
  split
  ·cases r' a.to.toNat left with
   | none => rfl
   | some x => exact ih x
  ·rfl
theorem wlk_fuel {ss : List State} (hA : Ahead ss) : ∀ (s f f' : Nat), s < f -> s < f' -> ∀ left, wlk f ss s left = wlk f' ss s left := by
 intro s
 induction s using Nat.strongRecOn with
 | _ s ih =>
  intro f f' h h' left
  obtain ⟨g, rfl⟩ : ∃ g, f = g + 1 := ⟨f - 1, by omega⟩
  obtain ⟨g', rfl⟩ : ∃ g', f' = g' + 1 := ⟨f' - 1, by omega⟩
  simp only [wlk]
  rw [wArcs_congr (arcsOf ss s) left (fun a ha x => by
   have := hA s a ha
   exact ih a.to.toNat (by omega) g g' (by omega) (by omega) x)]
theorem wlk_resume {ss : List State} (hA : Ahead ss) {s t left : Nat} (h : t < s) : wlk s ss t left = resume ss t 0 left := by
 rw [wlk_fuel hA t s (t + 1) h (by omega)]
 rfl
theorem cont_push {ss : List State} (hA : Ahead ss) {s k left : Nat} {rest : List (Nat × Nat)} {a : Arc} (h : (arcsOf ss s)[k]? = some a) (hl : (left : Int) <= a.to) : contW ss ((s, k) :: rest) left = contW ss ((a.to.toNat, 0) :: (s, k + 1) :: rest) left := by
 have ha := hA s a (List.mem_of_getElem? h)
 simp only [contW, resume]
 rw [drop_get h]
 simp only [wArcs, hl, if_true]
 rw [wlk_resume hA (by omega)]
 cases hr : resume ss a.to.toNat 0 left with
 | none => simp [leave, resume] at hr |-; rw [hr]
 | some x => simp only [resume] at hr |-; rw [hr]
theorem cont_next {ss : List State} {s k left : Nat} {rest : List (Nat × Nat)} {a : Arc} (h : (arcsOf ss s)[k]? = some a) (hl : ¬ (left : Int) <= a.to) : contW ss ((s, k) :: rest) left = contW ss ((s, k + 1) :: rest) left := by
 simp only [contW, resume]
 rw [drop_get h]
 simp only [wArcs, hl, if_false]
theorem cont_end {ss : List State} {s k left : Nat} {rest : List (Nat × Nat)} (h : (arcsOf ss s).length <= k) : contW ss ((s, k) :: rest) left = if s = left then contW ss rest (left + 1) else false := by
 simp only [contW, resume]
 rw [List.drop_eq_nil_of_le h]
 simp only [wArcs, leave]
 by_cases hs : s = left
 ·simp [hs]
 ·simp [hs]
def orderedF (ss : List State) : Bool := contW ss [(ss.length - 1, 0)] 0
def goodS (ss : List State) (i : Nat) (s : State) : Bool := !(!s.final && decide (s.arcs.length = 0)) && decide (leastOf s = 0) && decide (s ∉ ss.take i)
def allGood (ss : List State) : Nat -> List State -> Bool
 | _, [] => true
 | i, s :: l => goodS ss i s && allGood ss (i + 1) l
theorem allGood_step {ss : List State} {i : Nat} {s : State} (h : ss[i]? = some s) : allGood ss i (ss.drop i) = (goodS ss i s && allGood ss (i + 1) (ss.drop (i + 1))) := by rw [drop_get h]; rfl
def rightF (ss : List State) (init : Nat) : Bool :=
 formedF ss && (match ss.getLast? with
  | none => false
  | some root => if !root.final && decide (root.arcs.length = 0) then decide (ss.length = 1) && decide (init = 0) else orderedF ss && allGood ss 0 ss)
def BadO (out : List Nat) : Prop := ∃ i x : Nat, out[i]? = some x /\ x ≠ i
theorem BadO.more {a b : List Nat} (h : BadO a) (hp : a <+: b) : BadO b := by
 obtain ⟨i, x, h1, h2⟩ := h
 obtain ⟨c, rfl⟩ := hp
 exact ⟨i, x, by rw [List.getElem?_append_left (List.getElem?_eq_some_iff.1 h1).1]; exact h1, h2⟩
theorem formed_ahead0 : ∀ (l : List Arc) (i : Nat) (last : Int), okArcs i last l = true -> ∀ a ∈ l, 0 <= a.to /\ a.to < (i : Int)
 | [], _, _, _ => by simp
 | a :: l, i, last, h => by
  simp only [okArcs, Bool.and_eq_true, decide_eq_true_eq] at h
  intro x hx
  rcases List.mem_cons.1 hx with rfl | hx
  ·exact ⟨h.1.1.1, h.1.1.2⟩
  ·exact formed_ahead0 l i _ h.2 x hx
structure Good (i : Nat) (s : State) : Prop where
 arcs : okArcs i (-1) s.arcs = true
 out : s.final = false -> s.out = 0
 some_ : s.final = true \/ s.arcs ≠ []
 zero : leastOf s = 0
structure Inv (ss : List State) : Prop where
 nodup : ss.Nodup
 good : ∀ (i : Nat) (s : State), ss[i]? = some s -> Good i s
def K (f : Nat) (ss : List State) (l : List Wv) : List State × Nat := finish (N f ss l).1 (less (N f ss l).2 (leastOf (N f ss l).2))
theorem Inv.nil_ : Inv [] := ⟨List.nodup_nil, fun i s h => by simp at h⟩
theorem Inv.formed {ss : List State} (h : Inv ss) (h0 : 0 < ss.length) : formedF ss = true := by
 have key : ∀ (l : List State) (i : Nat), (∀ (j : Nat) (s : State), l[j]? = some s -> Good (i + j) s) -> formedL i l = true := by
  intro l
  induction l with
  | nil => intro i _; rfl
  | cons s l ih =>
   intro i hg
   have hs := hg 0 s rfl
   simp only [formedL, Bool.and_eq_true, Bool.or_eq_true, decide_eq_true_eq]
   refine ⟨⟨?_, hs.arcs⟩, ih (i + 1) (fun j t ht => by have := hg (j + 1) t (by simpa using ht); rwa [show i + (j + 1) = i + 1 + j by omega] at this)⟩
   cases hf : s.final with
   | true => exact .inl rfl
   | false => exact .inr (hs.out hf)
 unfold formedF
 rw [key ss 0 (fun j s hs => by rw [Nat.zero_add]; exact h.good j s hs), decide_eq_true h0]
 rfl
theorem Inv.all {ss : List State} (h : Inv ss) : allGood ss 0 ss = true := by
 have key : ∀ (n i : Nat), i + n = ss.length -> allGood ss i (ss.drop i) = true := by
  intro n
  induction n with
  | zero => intro i hi; rw [List.drop_eq_nil_of_le (by omega)]; rfl
  | succ n ih =>
   intro i hi
   obtain ⟨s, hs⟩ : ∃ s, ss[i]? = some s := ⟨_, List.getElem?_eq_getElem (by omega)⟩
   rw [allGood_step hs, ih (i + 1) (by omega), Bool.and_true]
   have hg := h.good i s hs
   unfold goodS
   have hnot : s ∉ ss.take i := fun hm => by
    obtain ⟨j, hj⟩ := List.mem_iff_getElem?.1 hm
    have hlt : j < i := by have := (List.getElem?_eq_some_iff.1 hj).1; simp at this; omega
    have hj2 : ss[j]? = some s := by rw [List.getElem?_take] at hj; rwa [if_pos hlt] at hj
    have := (List.getElem?_inj (i := j) (j := i) (by have := (List.getElem?_eq_some_iff.1 hj2).1; omega) h.nodup).1 (hj2.trans hs.symm)
    omega
   rw [decide_eq_true hg.zero, decide_eq_true hnot]
   rcases hg.some_ with h1 | h1
   ·rw [h1]; rfl
   ·have : s.arcs.length ≠ 0 := fun e => h1 (List.eq_nil_of_length_eq_zero e)
    rw [decide_eq_false this]; cases s.final <;> rfl
 exact key ss.length 0 (by omega)
open Go.RowKit
def takeS (s : State) (i : Nat) : State := ⟨s.final, s.out, s.arcs.take i⟩
theorem least_zero (s : State) : leastOf (takeS s 0) = s.out := by
 unfold leastOf takeS
 cases s.final <;> simp
theorem least_all (s : State) : leastOf (takeS s s.arcs.length) = leastOf s := by
 unfold takeS
 rw [List.take_length]
theorem least_step {s : State} {i : Nat} {a : Arc} (h : s.arcs[i]? = some a) : leastOf (takeS s (i + 1)) = if (!(s.final || decide (0 < i)) || decide (a.out < leastOf (takeS s i))) = true then a.out else leastOf (takeS s i) := by
 have hlt := (List.getElem?_eq_some_iff.1 h).1
 have ht : s.arcs.take (i + 1) = s.arcs.take i ++ [a] := by rw [List.take_add_one, h]; rfl
 have fold : ∀ (x : Nat) (l : List Nat), (l ++ [a.out]).foldl min x = if a.out < l.foldl min x then a.out else l.foldl min x := fun x l => by
  rw [List.foldl_append]
  simp only [List.foldl_cons, List.foldl_nil]
  by_cases hlt2 : a.out < l.foldl min x
  ·rw [if_pos hlt2, Nat.min_eq_right (by omega)]
  ·rw [if_neg hlt2, Nat.min_eq_left (by omega)]
 unfold leastOf takeS
 simp only [ht, List.map_append, List.map_cons, List.map_nil]
 cases hf : s.final with
 | true =>
  simp only [if_true, List.singleton_append, List.cons_append, Bool.true_or, Bool.not_true, Bool.false_or, decide_eq_true_eq]
  exact fold _ _
 | false =>
  simp only [Bool.false_eq_true, if_false, List.nil_append, Bool.false_or]
  cases i with
  | zero => simp
  | succ i =>
   obtain ⟨y, l, hl⟩ : ∃ y l, (s.arcs.take (i + 1)).map Arc.out = y :: l := by
    cases hl : (s.arcs.take (i + 1)).map Arc.out with
    | nil => have := congrArg List.length hl; simp only [List.length_map, List.length_take, List.length_nil] at this; omega
    | cons y l => exact ⟨y, l, rfl⟩
   rw [hl]
   simp only [List.cons_append, Nat.zero_lt_succ, decide_true, Bool.not_true, Bool.false_or, decide_eq_true_eq]
   exact fold _ _
theorem least34 (w : World) (g o : Nat) (s : State) (B : Nat -> Prop) (av : Value) (hs : SAt w B g o av s) (hos : okS s) : Calls Tryz.prog 90 #[.pointer (some ⟨g, o, none⟩)] w fun e w1 => e = .returned (.int .u64 (leastOf s)) /\ Below w.heap.size w w1 := by
 refine Zn1 39 Tryz.func90 fun fr hf s0 => ?_
 have c1 := hs.c1
 have c2 := hs.c2
 have c0 := hs.c0
 have ha := hs.arcs
 obtain ⟨A, cc, rfl, hcc⟩ := ha.form
 have hlen := hos.2.1
 have hoo := hos.2.2
 clear hs
 refine Ze fun _ hK1 => ?_
 refine Zr [] hf ?_
 refine Zq1 0 hf ?_
 clear hf s0; intro fr1 hf s0
 refine Zs hK1 fun _ hK2 => ?_
 refine Stab.tb 39 fun hok => ?_
 refine Stab.mO 0 s0 hf hok ?_
 refine Stab.T 1 hf hok (fun _ _ h d => Stab.vd 0 0 d []) ?_
 refine Stab.T 2 hf hok (fun _ _ h d => Stab.vd 1 0 d []) ?_
 refine Stab.T 3 hf hok (fun _ _ h d => Stab.vd 2 0 d []) ?_
 refine Stab.T 4 hf hok (fun _ _ h d => ad (Stab.vd 3 0 d []) (ad (cL h.ext c0) (ad (cL h.ext c1) (ad (cL h.ext c2) (ha.later h.ext))))) ?_
 refine Stab.mO 5 s0 hf hok ?_
 refine Stab.T 6 hf hok (fun _ _ h d => Stab.vd 5 0 d []) ?_
 refine Stab.T 7 hf hok (fun _ _ h d => Stab.vd 6 0 d []) ?_
 refine Stab.T 8 hf hok (fun _ _ h d => Stab.vd 7 0 d []) ?_
 refine Stab.T 9 hf hok (fun _ _ h d => ad (Stab.vd 8 0 d []) (ad (cL h.ext c0) (ad (cL h.ext c1) (ad (cL h.ext c2) (ha.later h.ext))))) ?_
 refine Stab.mN 10 4 5 hf hok [] ?_
 refine Stab.mN 11 9 1 hf hok [] ?_
 refine Stab.E hf hok (fun _ _ h g => ad (Stab.O h s0) (ad (Stab.f 10 1 g) (Stab.f 11 0 g))) ?_
 clear hf hok s0; intro fr1 w1 hf hx sS
 replace c0 := cL hx c0
 replace c1 := cL hx c1
 replace c2 := cL hx c2
 replace ha := ha.later hx
 refine Zs hK2 fun _ hK3 => ?_
 refine Ze fun _ hK4 => ?_
 refine Zr [17, 18, 19, 20, 21] hf ?_
 refine Zq5 3 4 21 22 23 hf ?_
 clear hf sS; intro fr1 hf sS
 refine Zx hK4 ?_
 refine wp_block ?_
 clear c1 c2
 refine wp_loop_ghost (fun gk fr wr => ∃ (i : Nat), gk = s.arcs.length - i /\ i <= s.arcs.length /\ Fact.Fr 39 fr /\ fr.tmps[3]? = some (.int .u64 (leastOf (takeS s i))) /\ fr.tmps[4]? = some (.bool (s.final || decide (0 < i))) /\ fr.tmps[21]? = some (.slice A s.arcs.length cc) /\ fr.tmps[22]? = some (.int .i64 s.arcs.length) /\ fr.tmps[23]? = some (.int .i64 i) /\ Below w1.heap.size w1 wr) (s.arcs.length) ?_ ?_
 . (
 obtain ⟨s3, s4, s21, s22, s23⟩ := sS
 exact ⟨0, rfl, Nat.zero_le _, hf, by rw [s3, least_zero], by rw [s4]; simp, s21, s22, s23, Below.refl _ _⟩)
 . (
 clear hf sS
 rintro gk fr wr ⟨i, hk, hi, hf, s3, s4, s21, s22, s23, hb⟩
 have HK := Lib.hid hk; clear hk
 refine Ze fun _ hK5 => ?_
 refine Zr [] hf ?_
 refine Zq6 3 4 21 22 23 24 hf ?_
 clear hf s3 s4 s21 s22 s23; intro fr1 hf sS
 refine Zs hK5 fun _ hK6 => ?_
 refine Fact.cond_s sS.2.2.2.2.2 (fun hq => ?_) (fun hq => ?_)
 . (
 have hlt : i < s.arcs.length := by have h9 := of_decide_eq_true hq; omega
 obtain ⟨a, hia⟩ : ∃ a, s.arcs[i]? = some a := ⟨_, List.getElem?_eq_getElem hlt⟩
 obtain ⟨b, off, rfl, hbl, d0, d1, d2⟩ := (ha.later hb).at' hia
 have hst := least_step hia
 have HS := Lib.hid hst
 have HA := Lib.hid hia
 clear hst hia
 refine wp_skip ?_
 refine Zs hK6 fun _ hK7 => ?_
 refine wp_block ?_
 refine Ze fun _ hK8 => ?_
 refine Zr [25, 26, 6] hf ?_
 refine Zq6 3 4 6 21 22 23 hf ?_
 clear hf sS; intro fr1 hf sS
 clear d0 d1 d2 hbl
 obtain ⟨W0, hW0⟩ : ∃ W0, wr.alloc (.cells #[.int .u8 a.byte, .int .u64 a.out, .int .i64 a.to] 71) = W0 := ⟨_, rfl⟩
 try rw [hW0]
 obtain ⟨hb2, -, x1, -, -, -⟩ := box3 hW0
 clear hW0
 refine Zx hK8 ?_
 rcases hany : (s.final || decide (0 < i)) with _ | _
 . (
 obtain ⟨s3, s4, s6, s21, s22, s23⟩ := sS
 try rw [hany] at s4
 refine Ze fun _ hK9 => rg ?_
 have bB := hf.B7 27 28 29 30 31 32 33
 iterate 3 refine Za ?_
 refine Zk ?_ (hv := by simp (decide := true) only [Fact.G, reduceIte, hf.size, Fact.N, hany, Fact.N])
 refine Zk ?_ (hv := by simp (decide := true) only [Fact.G, reduceIte, hf.size, Fact.N, hany, Fact.N])
 refine Zk ?_ (hv := by simp (decide := true) only [Fact.G, reduceIte, hf.size, Fact.N, hany, Fact.N])
 refine Zk ?_ (hv := by simp (decide := true) only [Fact.G, reduceIte, hf.size, Fact.N, hany, Fact.N])
 refine Za ?_
 refine Fact.nil (Zq7 3 4 6 21 22 23 34 hf ?_)
 clear hf s3 s4 s6 s21 s22 s23 bB; intro fr1 hf sS
 refine Zx hK9 ?_
 refine Fact.cond_s sS.2.2.2.2.2.2 (fun hq2 => ?_) (fun hq2 => ?_)
 . (
 have hs2 := HS.out
 rw [hany] at hs2
 try simp only [Bool.not_true, Bool.not_false, Bool.false_or, Bool.true_or, if_true] at hs2
 have HS2 := Lib.hid hs2
 clear hs2
 refine Zr [35, 36] hf ?_
 refine Zq5 3 4 21 22 23 hf ?_
 clear hf sS; intro fr1 hf sS
 refine Fact.block_normal ?_
 refine Zx hK7 ?_
 refine Zr [37] hf ?_
 refine Zq5 3 4 21 22 23 hf ?_
 clear hf sS; intro fr1 hf sS
 refine Fact.then_normal ?_
 obtain ⟨s3, s4, s21, s22, s23⟩ := sS
 exact ⟨_, by have := HK.out; omega, i + 1, rfl, by omega, hf, by rw [s3, HS2.out], by rw [s4]; simp, s21, s22, by rw [s23]; rfl, hb.trans (hb2.mono hb.size)⟩)
 . (
 have hs2 := HS.out
 rw [hany] at hs2
 try simp only [Bool.not_true, Bool.not_false, Bool.false_or, Bool.true_or, if_true] at hs2
 simp at hq2))
 . (
 obtain ⟨s3, s4, s6, s21, s22, s23⟩ := sS
 try rw [hany] at s4
 refine Ze fun _ hK10 => rg ?_
 have bB := hf.B7 27 28 29 30 31 32 33
 iterate 3 refine Za ?_
 refine Zg ?_ (hv := by simp (decide := true) only [Fact.G, reduceIte, hf.size, hany, Fact.N])
 refine Zg ?_ (hv := by simp (decide := true) only [Fact.G, reduceIte, hf.size, hany, Fact.N])
 refine Zg ?_ (hv := by simp (decide := true) only [Fact.G, reduceIte, hf.size, hany, Fact.N])
 refine Zg ?_ (hv := by simp (decide := true) only [Fact.G, reduceIte, hf.size, hany, Fact.N])
 refine Za ?_
 refine Fact.nil (Zq7 3 4 6 21 22 23 34 hf ?_)
 clear hf s3 s4 s6 s21 s22 s23 bB; intro fr1 hf sS
 refine Zx hK10 ?_
 refine Fact.cond_s sS.2.2.2.2.2.2 (fun hq2 => ?_) (fun hq2 => ?_)
 . (
 have hs2 := HS.out
 rw [hany] at hs2
 try simp only [Bool.not_true, Bool.not_false, Bool.false_or, Bool.true_or, if_true] at hs2
 rw [hq2] at hs2
 try simp only [Bool.false_eq_true, if_false, if_true] at hs2
 have HS2 := Lib.hid hs2
 clear hs2
 refine Zr [35, 36] hf ?_
 refine Zq5 3 4 21 22 23 hf ?_
 clear hf sS; intro fr1 hf sS
 refine Fact.block_normal ?_
 refine Zx hK7 ?_
 refine Zr [37] hf ?_
 refine Zq5 3 4 21 22 23 hf ?_
 clear hf sS; intro fr1 hf sS
 refine Fact.then_normal ?_
 obtain ⟨s3, s4, s21, s22, s23⟩ := sS
 exact ⟨_, by have := HK.out; omega, i + 1, rfl, by omega, hf, by rw [s3, HS2.out], by rw [s4]; simp, s21, s22, by rw [s23]; rfl, hb.trans (hb2.mono hb.size)⟩)
 . (
 have hs2 := HS.out
 rw [hany] at hs2
 try simp only [Bool.not_true, Bool.not_false, Bool.false_or, Bool.true_or, if_true] at hs2
 rw [hq2] at hs2
 try simp only [Bool.false_eq_true, if_false, if_true] at hs2
 have HS2 := Lib.hid hs2
 clear hs2
 refine wp_skip ?_
 refine Fact.block_normal ?_
 refine Zx hK7 ?_
 refine Zr [37] hf ?_
 refine Zq5 3 4 21 22 23 hf ?_
 clear hf sS; intro fr1 hf sS
 refine Fact.then_normal ?_
 obtain ⟨s3, s4, s21, s22, s23⟩ := sS
 exact ⟨_, by have := HK.out; omega, i + 1, rfl, by omega, hf, by rw [s3, HS2.out], by rw [s4]; simp, s21, s22, by rw [s23]; rfl, hb.trans (hb2.mono hb.size)⟩)))
 . (
 have hie : i = s.arcs.length := by have h9 := of_decide_eq_false hq; omega
 subst hie
 refine Zo ?_
 refine Zs hK3 fun _ hK11 => ?_
 refine Zr [38] hf ?_
 refine Zq1 2 hf ?_
 clear hf sS; intro fr1 hf s2
 refine Zx hK11 ?_
 refine Zret ?_
 exact Fact.ret1 rfl hf s2 ⟨by rw [least_all], hx.trans (hb.mono hx.size)⟩))
open Go.RowKit
def lessTo (l : List Arc) (n i : Nat) : List Arc := (l.take i).map (fun a => ⟨a.byte, a.out - n, a.to⟩) ++ l.drop i
theorem lessTo_zero (l : List Arc) (n : Nat) : lessTo l n 0 = l := by simp [lessTo]
theorem lessTo_all (l : List Arc) (n : Nat) : lessTo l n l.length = l.map (fun a => ⟨a.byte, a.out - n, a.to⟩) := by simp [lessTo]
theorem lessTo_length (l : List Arc) (n i : Nat) : (lessTo l n i).length = l.length := by simp [lessTo]; omega
theorem lessTo_at {l : List Arc} {n i : Nat} {a : Arc} (h : l[i]? = some a) : (lessTo l n i)[i]? = some a := by
 have hlt := (List.getElem?_eq_some_iff.1 h).1
 unfold lessTo
 rw [List.getElem?_append_right (by simp; omega)]
 simp
 rw [<- h]
 congr 1
 omega
theorem lessTo_succ {l : List Arc} {n i : Nat} {a : Arc} (h : l[i]? = some a) : lessTo l n (i + 1) = (lessTo l n i).set i ⟨a.byte, a.out - n, a.to⟩ := by
 have hlt := (List.getElem?_eq_some_iff.1 h).1
 unfold lessTo
 have h1 : l.take (i + 1) = l.take i ++ [a] := by rw [List.take_add_one, h]; rfl
 have h2 : l.drop i = a :: l.drop (i + 1) := by
  rw [List.drop_eq_getElem_cons hlt, (List.getElem?_eq_some_iff.1 h).2]
 rw [h1, h2, List.map_append, List.append_assoc, List.set_append_right _ _ (by simp; omega)]
 have h3 : i - ((l.take i).map (fun a : Arc => (⟨a.byte, a.out - n, a.to⟩ : Arc))).length = 0 := by simp; omega
 rw [h3]
 rfl
def outsOf' (s : State) : List Nat := (if s.final then [s.out] else []) ++ s.arcs.map Arc.out
theorem leastOf_cases (s : State) : (outsOf' s = [] /\ leastOf s = s.out) \/ ∃ x l, outsOf' s = x :: l /\ leastOf s = l.foldl min x := by
 unfold leastOf outsOf'
 cases h : (if s.final then [s.out] else []) ++ s.arcs.map Arc.out with
 | nil => exact .inl ⟨rfl, rfl⟩
 | cons x l => exact .inr ⟨x, l, rfl, rfl⟩
theorem foldl_le (l : List Nat) : ∀ x v, v ∈ x :: l -> l.foldl min x <= v := by
 induction l with
 | nil => intro x v h; simp at h; simp [h]
 | cons y l ih =>
  intro x v h
  rw [List.foldl_cons]
  rcases List.mem_cons.1 h with rfl | h
  ·exact Nat.le_trans (ih (min v y) _ (List.mem_cons_self ..)) (Nat.min_le_left _ _)
  ·rcases List.mem_cons.1 h with rfl | h
   ·exact Nat.le_trans (ih (min x v) _ (List.mem_cons_self ..)) (Nat.min_le_right _ _)
   ·exact ih _ v (List.mem_cons_of_mem _ h)
theorem leastOf_le {s : State} {v : Nat} (h : v ∈ outsOf' s) : leastOf s <= v := by
 rcases leastOf_cases s with ⟨h1, _⟩ | ⟨x, l, h1, h2⟩
 ·rw [h1] at h; cases h
 ·rw [h2]; rw [h1] at h; exact foldl_le l x v h
theorem leastOf_arc {s : State} {n i : Nat} {a : Arc} (hn : leastOf s = n) (h : s.arcs[i]? = some a) : n <= a.out := by
 rw [<- hn]
 exact leastOf_le (List.mem_append_right _ (List.mem_map_of_mem (List.mem_of_getElem? h)))
theorem leastOf_out {s : State} {n : Nat} (hn : leastOf s = n) (h : s.final = true) : n <= s.out := by
 rw [<- hn]
 refine leastOf_le (List.mem_append_left _ ?_)
 simp [h]
theorem foldl_lt (N : Nat) (l : List Nat) : ∀ x, x < N -> (∀ v ∈ l, v < N) -> l.foldl min x < N := by
 induction l with
 | nil => intro x h _; exact h
 | cons y l ih => intro x h h2; rw [List.foldl_cons]; exact ih _ (by omega) (fun v hv => h2 v (List.mem_cons_of_mem _ hv))
theorem leastOf_lt {s : State} (h : okS s) : leastOf s < 18446744073709551616 := by
 rcases leastOf_cases s with ⟨_, h2⟩ | ⟨x, l, h1, h2⟩
 ·rw [h2]; exact h.1
 ·have hall : ∀ v ∈ x :: l, v < 18446744073709551616 := fun v hv => by
   rw [<- h1] at hv
   rcases List.mem_append.1 hv with hv | hv
   ·split at hv
    ·simp at hv; subst hv; exact h.1
    ·cases hv
   ·obtain ⟨a, ha, rfl⟩ := List.mem_map.1 hv
    exact (h.2.2 a ha).2.1
  rw [h2]
  exact foldl_lt _ l x (hall x (List.mem_cons_self ..)) (fun v hv => hall v (List.mem_cons_of_mem _ hv))
theorem OA.other {w : World} {base g : Nat} {v : Value} {l : List Arc} {cs : Array Value} (h : OA w base v l) (hk : w.heap[g]? = some (.cells cs 126 (0, 0))) : ∀ k, v.ownBlock = some k -> k ≠ g := by
 rintro k hv rfl
 rcases h.2 with ⟨rfl, _⟩ | ⟨g, cap, cur, rfl, _, h3, _⟩
 ·cases hv
 ·injection hv with hv
  subst hv
  rw [hk] at h3
  injection h3 with h3
  injection h3 with _ h4
  cases h4
theorem push48 (w : World) (b i p : Nat) (x n : Nat) (hx : x < 18446744073709551616) (hn : n <= x) (cq : w.cell? ⟨b, i, none⟩ = some (.int .u64 x)) (fq : w.frozen? ⟨b, i, none⟩ = false) (cp : w.cell? ⟨p, 0, none⟩ = some (.int .u64 n)) : Calls Tryz.prog 91 #[.pointer (some ⟨b, i, none⟩), .pointer (some ⟨p, 0, none⟩)] w fun e w1 => e = .returned (.tuple #[]) /\ ∃ w0, Below w.heap.size w w0 /\ w1 = w0.setCell ⟨b, i, none⟩ (.int .u64 (x - n : Nat)) := by
 refine Zn2 9 Tryz.func91 fun fr hf s0 s1 => ?_
 have cq0 := cq
 refine Stab.tb 9 fun hok => ?_
 refine Stab.mO 0 s0 hf hok ?_
 refine Stab.T 1 hf hok (fun _ _ h d => Stab.vd 0 0 d []) ?_
 refine Stab.T 2 hf hok (fun _ _ h d => ad (Stab.vd 1 0 d []) (ad (cL h.ext cq) (cL h.ext cp))) ?_
 refine Stab.T 3 hf hok (fun _ _ h d => ad (Stab.O h s1) (ad (cL h.ext cq) (cL h.ext cp))) ?_
 apply Stab.tq 4 _ hf hok
 . (
 intro fr1 w1 hh hd hk K Z
 have s5 := Stab.v 2 1 hd hk []
 have s6 := Stab.v 3 0 hd hk []
 clear hd
 go_simp
 try simp (disch := omega) only [Fact.W]
 rw [show (x : Int) - (n : Int) = ((x - n : Nat) : Int) by omega]
 exact Stab.k Z)
 refine Stab.T 5 hf hok (fun _ _ h d => Stab.vd 0 4 d []) ?_
 refine Tail.todo_tail (n := 9) (m := 6) (ws := []) (by kernel_rfl) hf.size hok.out rfl rfl (by kernel_rfl) (fun fr1 w1 hh hg => ?_)
 have s7 := Tail.got_is 4 1 hg rfl rfl rfl rfl rfl
 have s8 := Tail.got_is 5 0 hg rfl rfl rfl rfl rfl
 have hf1 := hh.fr hf
 have hx := hh.ext
 replace cq := cL hx cq
 replace cp := cL hx cp
 clear hg hh hf hok s0 s1
 have hf := hf1; clear hf1
 have fq2 := frozen_later hx cq0 fq
 refine Tail.seq_op rfl rfl (fun K Z => ?_)
 go_simp
 apply Z.out; clear Z K
 refine Tail.seq_nil rfl ?_
 refine Zq0 hf ?_
 clear hf s7 s8; intro fr1 hf
 exact Fact.end0 rfl hf ⟨rfl, _, hx, rfl⟩
theorem push30 (w : World) (g by_ base : Nat) (s : State) (av : Value) (hos : okS s) (hbx : w.heap[g]? = some (.cells #[av, .bool s.final, .int .u64 s.out, .int .u8 by_] 126 (0, 0))) (hoa : OA w base av s.arcs) : Calls Tryz.prog 53 #[.pointer (some ⟨g, 0, none⟩)] w fun e w1 => e = .returned (.int .u64 (leastOf s)) /\ w1.heap[g]? = some (.cells #[av, .bool s.final, .int .u64 (less s (leastOf s)).out, .int .u8 by_] 126 (0, 0)) /\ OA w1 base av (less s (leastOf s)).arcs /\ But (fun k => k = g \/ av.ownBlock = some k) w w1 := by
 refine Zn1 41 Tryz.func53 fun fr hf s0 => ?_
 have c0 := cell_of_row _ _ 0 _ 126 (0, 0) hbx
 have c1 := cell_of_row _ _ 1 _ 126 (0, 0) hbx
 have c2 := cell_of_row _ _ 2 _ 126 (0, 0) hbx
 simp at c0 c1 c2
 have hlt := heap_lt hbx
 have hlen := hos.2.1
 have hsa : SAt w (fun _ => True) g 0 av s := ⟨c0, c1, c2, hoa.ra fun _ _ => trivial⟩
 have hne := OA.other hoa hbx
 clear c0 c1 c2
 obtain ⟨n, hn⟩ : ∃ n, leastOf s = n := ⟨_, rfl⟩
 have HN := Lib.hid hn
 have hn64 := leastOf_lt hos
 rw [hn] at hn64
 refine Ze fun _ hK1 => ?_
 refine Zr [] hf ?_
 refine Zq1 0 hf ?_
 clear hf s0; intro fr1 hf s0
 refine Zt hK1 fun _ hK2 => ?_
 have bB := hf.B3 6 7 3
 refine Za ?_
 refine fp fun K Z => ?_
 go_simp
 go_at_call 90; refine (least34 w g 0 s _ av hsa hos).mono ?_; rintro e w1 ⟨rfl, hb1⟩
 rw [hn]
 try dsimp only
 apply Z.out; clear Z K
 iterate 2 refine Za ?_
 refine Fact.nil (Zq2 0 3 hf ?_)
 clear hf s0 bB; intro fr1 hf sS
 obtain ⟨W0, hW0⟩ : ∃ W0, w1.alloc (.cells #[.int .u64 n] 35) = W0 := ⟨_, rfl⟩
 try rw [hW0]
 obtain ⟨hb2, xp, -, hsz_⟩ := box1 hW0
 clear hW0
 have hsz : w1.heap.size < W0.heap.size := by rw [hsz_]; exact Nat.lt_succ_self _
 clear hsz_
 have hb0 := hb1.trans (hb2.mono hb1.size)
 have hbx0 := (hb0.block g hlt).trans hbx
 have hoa0 := own_later hoa hb0
 have hgp : g ≠ w1.heap.size := by have := hb1.size; omega
 have hw1 := hb1.size
 have c1 := cell_of_row _ _ 1 _ 126 (0, 0) hbx0
 simp at c1
 clear hb1 hb2 hn
 refine Zs hK2 fun _ hK3 => ?_
 refine Zr [8] hf ?_
 refine Zq3 0 3 4 hf ?_
 clear hf sS; intro fr1 hf sS
 refine Zs hK3 fun _ hK4 => ?_
 refine Ze fun _ hK5 => ?_
 refine Zr [9, 10, 11, 12] hf ?_
 refine Zq4 0 3 4 13 hf ?_
 clear hf sS; intro fr1 hf sS
 refine Zx hK5 ?_
 rcases hfin : s.final with _ | _
 . (
 obtain ⟨s0, s3, s4, s13⟩ := sS
 try rw [hfin] at s13
 refine Fact.cond_f s13 ?_
 refine wp_skip ?_
 refine Zx hK4 ?_
 have hbx1 := hbx0
 have hbt : But (fun k => k = g \/ av.ownBlock = some k) w W0 := But.of _ hb0
 have hoa1 := hoa0
 have xp1 := xp
 clear hbx0 hoa0 xp
 obtain ⟨W1, rfl⟩ : ∃ W1, W0 = W1 := ⟨_, rfl⟩
 have o0 : ∃ so : Nat, so = (if s.final then s.out - n else s.out) := ⟨_, rfl⟩
 obtain ⟨so, hso⟩ := o0
 rw [hfin] at hso hbx1
 simp only [if_true, Bool.false_eq_true, if_false] at hso
 rw [<- hso] at hbx1
 have c0 := cell_of_row _ _ 0 _ 126 (0, 0) hbx1
 simp at c0
 obtain ⟨A, cc, rfl, hcc⟩ := (OA.ra (B := fun _ => True) hoa1 fun _ _ => trivial).form
 have HSO := Lib.hid hso; clear hso c1
 refine Ze fun _ hK6 => ?_
 refine Ze fun _ hK7 => ?_
 refine Zr [20, 21, 22, 23, 24] hf ?_
 refine Zq5 0 3 4 25 26 hf ?_
 clear hf s0 s3 s4 s13; intro fr1 hf sS
 refine Zx hK7 ?_
 refine wp_block ?_
 refine wp_loop_ghost (fun gk fr wr => ∃ (i : Nat), gk = s.arcs.length - i /\ i <= s.arcs.length /\ Fact.Fr 41 fr /\ fr.tmps[0]? = some (.pointer (some ⟨g, 0, none⟩)) /\ fr.tmps[3]? = some (.pointer (some ⟨w1.heap.size, 0, none⟩)) /\ fr.tmps[4]? = some (.func (.func 91) #[] #[.pointer (some ⟨w1.heap.size, 0, none⟩)]) /\ fr.tmps[25]? = some (.int .i64 s.arcs.length) /\ fr.tmps[26]? = some (.int .i64 i) /\ OA wr base (.slice A s.arcs.length cc) (lessTo s.arcs n i) /\ wr.heap[g]? = some (.cells #[.slice A s.arcs.length cc, .bool false, .int .u64 so, .int .u8 by_] 126 (0, 0)) /\ wr.cell? ⟨w1.heap.size, 0, none⟩ = some (.int .u64 n) /\ But (fun k => k = g \/ (.slice A s.arcs.length cc : Value).ownBlock = some k) w wr) (s.arcs.length) ?_ ?_
 . (
 obtain ⟨s0, s3, s4, s25, s26⟩ := sS
 exact ⟨0, rfl, Nat.zero_le _, hf, s0, s3, s4, s25, s26, by rw [lessTo_zero]; exact hoa1, hbx1, xp1, hbt⟩)
 . (
 clear hf sS
 rintro gk fr wr ⟨i, hk, hi, hf, s0, s3, s4, s25, s26, hoi, hbi, xpi, hbti⟩
 have HK := Lib.hid hk; clear hk
 clear hoa1 hbx1 xp1 hbt c0
 refine Ze fun _ hK8 => ?_
 refine Zr [] hf ?_
 refine Zq6 0 3 4 25 26 27 hf ?_
 clear hf s0 s3 s4 s25 s26; intro fr1 hf sS
 refine Zs hK8 fun _ hK9 => ?_
 refine Fact.cond_s sS.2.2.2.2.2 (fun hq => ?_) (fun hq => ?_)
 . (
 have hlt2 : i < s.arcs.length := by have h9 := of_decide_eq_true hq; omega
 obtain ⟨a, hia⟩ : ∃ a, s.arcs[i]? = some a := ⟨_, List.getElem?_eq_getElem hlt2⟩
 have hll := lessTo_length s.arcs n i
 have hia2 := lessTo_at (n := n) hia
 obtain ⟨b, c3, hv3, _, hbw⟩ := OA.own hoi (by omega)
 rw [hll] at hv3
 injection hv3 with hv3
 subst hv3
 have hla := leastOf_arc HN.out hia
 have haa := (hos.2.2 a (List.mem_of_getElem? hia)).2.1
 have c0 := cell_of_row _ _ 0 _ 126 (0, 0) hbi
 simp at c0
 have d1 := (OA.cell hoi hia2).2.1
 have HIA := Lib.hid hia; have HIA2 := Lib.hid hia2; clear hia hia2
 have hfz : wr.frozen? ⟨b, i * 3 + 1, none⟩ = false := by have h5 := hoi; unfold OA at h5; rw [hll] at h5; exact h5.frozenAt _
 refine wp_skip ?_
 refine Zs hK9 fun _ hK10 => ?_
 refine wp_block ?_
 refine Ze fun _ hK11 => ?_
 refine Zr [28] hf ?_
 refine Zq6 0 3 4 5 25 26 hf ?_
 clear hf sS; intro fr1 hf sS
 refine Zx hK11 ?_
 refine rg ?_
 have bB := hf.B9 29 30 31 32 33 34 35 36 37
 iterate 7 refine Za ?_
 refine fp fun K Z => ?_
 go_simp
 try rw [if_pos (by omega)]
 apply Z.out; clear Z K
 refine Za ?_
 refine fp fun K Z => ?_
 go_simp
 go_at_call 91; refine (push48 wr b (i * 3 + 1) w1.heap.size a.out n haa hla d1 hfz xpi).mono ?_; rintro e w6 ⟨rfl, w7, hb7, rfl⟩
 try dsimp only
 apply Z.out; clear Z K
 refine Fact.nil (Zq5 0 3 4 25 26 hf ?_)
 clear hf sS bB; intro fr1 hf sS
 refine Fact.block_normal ?_
 refine Zx hK10 ?_
 refine Zr [39] hf ?_
 refine Zq5 0 3 4 25 26 hf ?_
 clear hf sS; intro fr1 hf sS
 refine Fact.then_normal ?_
 have hbS := But.setCell (S := fun k => k = b) (w := w7) (p := ⟨b, i * 3 + 1, none⟩) rfl (.int .u64 (a.out - n : Nat))
 have hbg : ¬ (g = b) := fun e => hne b rfl (e.symm)
 obtain ⟨s0, s3, s4, s25, s26⟩ := sS
 refine ⟨_, by have := HK.out; omega, i + 1, rfl, by omega, hf, s0, s3, s4, s25, by rw [s26]; rfl, ?_, hbS.heap ((hb7.block g (heap_lt hbi)).trans hbi) hbg, hbS.cell (cL hb7 xpi) (fun e => ?_), (hbti.trans (But.of _ hb7)).trans (But.setCell (.inr rfl) _)⟩
 . (
 rw [lessTo_succ HIA.out]; exact OA.out (own_later hoi hb7) HIA2.out (by omega) _)
 . (
 have e : w1.heap.size = b := e; have h5 := (hoa.lt b rfl).2; omega))
 . (
 have hie : i = s.arcs.length := by have h9 := of_decide_eq_false hq; omega
 subst hie
 rw [lessTo_all] at hoi
 refine Zo ?_
 refine Zs hK6 fun _ hK12 => ?_
 refine Zr [40] hf ?_
 refine Zq1 2 hf ?_
 clear hf sS; intro fr1 hf s2
 refine Zx hK12 ?_
 refine Zret ?_
 have hno := HSO.out
 subst hno
 have hnn := HN.out
 subst hnn
 refine Fact.ret1 rfl hf s2 ⟨rfl, ?_, ?_, hbti⟩
 . (
 rw [hbi]; simp [less, hfin])
 . (
 simpa [less, hfin] using hoi))))
 . (
 obtain ⟨s0, s3, s4, s13⟩ := sS
 try rw [hfin] at s13
 refine Fact.cond_t s13 ?_
 have c2 := cell_of_row _ _ 2 _ 126 (0, 0) hbx0
 simp at c2
 have hno := leastOf_out HN.out hfin
 refine rg ?_
 have bB := hf.B5 14 15 16 17 18
 iterate 5 refine Za ?_
 refine fp fun K Z => ?_
 go_simp
 go_at_call 91; refine (push48 W0 g 2 w1.heap.size s.out n hos.1 hno c2 (frozen_of hbx0) xp).mono ?_; rintro e w5 ⟨rfl, w4, hb4, rfl⟩
 try dsimp only
 apply Z.out; clear Z K
 refine Fact.nil (Zq3 0 3 4 hf ?_)
 clear hf s0 s3 s4 s13 bB; intro fr1 hf sS
 refine Zx hK4 ?_
 have hbx1 := set_block (i := 2) ((hb4.block g (heap_lt hbx0)).trans hbx0) (.int .u64 (s.out - n : Nat))
 simp at hbx1
 have hbt : But (fun k => k = g \/ av.ownBlock = some k) w (w4.setCell ⟨g, 2, none⟩ (.int .u64 (s.out - n : Nat))) := (But.of _ (hb0.trans (hb4.mono hb0.size))).trans (But.setCell (.inl rfl) _)
 have hoa1 : OA (w4.setCell ⟨g, 2, none⟩ (.int .u64 (s.out - n : Nat))) base av s.arcs := own_but (own_later hoa0 hb4) (But.setCell (S := fun k => k = g) rfl _) (fun k hk e => hne k hk e)
 have xp1 : (w4.setCell ⟨g, 2, none⟩ (.int .u64 (s.out - n : Nat))).cell? ⟨w1.heap.size, 0, none⟩ = some (.int .u64 n) := (But.setCell (S := fun k => k = g) rfl _).cell (cL hb4 xp) (fun e => hgp e.symm)
 obtain ⟨W1, hW1⟩ : ∃ W1, w4.setCell ⟨g, 2, none⟩ (.int .u64 (s.out - n : Nat)) = W1 := ⟨_, rfl⟩
 rw [hW1] at hbx1 hbt hoa1 xp1
 try rw [hW1]
 clear hW1 hbx0 hoa0 xp hb4 c2
 have o0 : ∃ so : Nat, so = (if s.final then s.out - n else s.out) := ⟨_, rfl⟩
 obtain ⟨so, hso⟩ := o0
 rw [hfin] at hso hbx1
 simp only [if_true, Bool.false_eq_true, if_false] at hso
 rw [<- hso] at hbx1
 have c0 := cell_of_row _ _ 0 _ 126 (0, 0) hbx1
 simp at c0
 obtain ⟨A, cc, rfl, hcc⟩ := (OA.ra (B := fun _ => True) hoa1 fun _ _ => trivial).form
 have HSO := Lib.hid hso; clear hso c1
 refine Ze fun _ hK13 => ?_
 refine Ze fun _ hK14 => ?_
 refine Zr [20, 21, 22, 23, 24] hf ?_
 refine Zq5 0 3 4 25 26 hf ?_
 clear hf sS; intro fr1 hf sS
 refine Zx hK14 ?_
 refine wp_block ?_
 refine wp_loop_ghost (fun gk fr wr => ∃ (i : Nat), gk = s.arcs.length - i /\ i <= s.arcs.length /\ Fact.Fr 41 fr /\ fr.tmps[0]? = some (.pointer (some ⟨g, 0, none⟩)) /\ fr.tmps[3]? = some (.pointer (some ⟨w1.heap.size, 0, none⟩)) /\ fr.tmps[4]? = some (.func (.func 91) #[] #[.pointer (some ⟨w1.heap.size, 0, none⟩)]) /\ fr.tmps[25]? = some (.int .i64 s.arcs.length) /\ fr.tmps[26]? = some (.int .i64 i) /\ OA wr base (.slice A s.arcs.length cc) (lessTo s.arcs n i) /\ wr.heap[g]? = some (.cells #[.slice A s.arcs.length cc, .bool true, .int .u64 so, .int .u8 by_] 126 (0, 0)) /\ wr.cell? ⟨w1.heap.size, 0, none⟩ = some (.int .u64 n) /\ But (fun k => k = g \/ (.slice A s.arcs.length cc : Value).ownBlock = some k) w wr) (s.arcs.length) ?_ ?_
 . (
 obtain ⟨s0, s3, s4, s25, s26⟩ := sS
 exact ⟨0, rfl, Nat.zero_le _, hf, s0, s3, s4, s25, s26, by rw [lessTo_zero]; exact hoa1, hbx1, xp1, hbt⟩)
 . (
 clear hf sS
 rintro gk fr wr ⟨i, hk, hi, hf, s0, s3, s4, s25, s26, hoi, hbi, xpi, hbti⟩
 have HK := Lib.hid hk; clear hk
 clear hoa1 hbx1 xp1 hbt c0
 refine Ze fun _ hK15 => ?_
 refine Zr [] hf ?_
 refine Zq6 0 3 4 25 26 27 hf ?_
 clear hf s0 s3 s4 s25 s26; intro fr1 hf sS
 refine Zs hK15 fun _ hK16 => ?_
 refine Fact.cond_s sS.2.2.2.2.2 (fun hq => ?_) (fun hq => ?_)
 . (
 have hlt2 : i < s.arcs.length := by have h9 := of_decide_eq_true hq; omega
 obtain ⟨a, hia⟩ : ∃ a, s.arcs[i]? = some a := ⟨_, List.getElem?_eq_getElem hlt2⟩
 have hll := lessTo_length s.arcs n i
 have hia2 := lessTo_at (n := n) hia
 obtain ⟨b, c3, hv3, _, hbw⟩ := OA.own hoi (by omega)
 rw [hll] at hv3
 injection hv3 with hv3
 subst hv3
 have hla := leastOf_arc HN.out hia
 have haa := (hos.2.2 a (List.mem_of_getElem? hia)).2.1
 have c0 := cell_of_row _ _ 0 _ 126 (0, 0) hbi
 simp at c0
 have d1 := (OA.cell hoi hia2).2.1
 have HIA := Lib.hid hia; have HIA2 := Lib.hid hia2; clear hia hia2
 have hfz : wr.frozen? ⟨b, i * 3 + 1, none⟩ = false := by have h5 := hoi; unfold OA at h5; rw [hll] at h5; exact h5.frozenAt _
 refine wp_skip ?_
 refine Zs hK16 fun _ hK17 => ?_
 refine wp_block ?_
 refine Ze fun _ hK18 => ?_
 refine Zr [28] hf ?_
 refine Zq6 0 3 4 5 25 26 hf ?_
 clear hf sS; intro fr1 hf sS
 refine Zx hK18 ?_
 refine rg ?_
 have bB := hf.B9 29 30 31 32 33 34 35 36 37
 iterate 7 refine Za ?_
 refine fp fun K Z => ?_
 go_simp
 try rw [if_pos (by omega)]
 apply Z.out; clear Z K
 refine Za ?_
 refine fp fun K Z => ?_
 go_simp
 go_at_call 91; refine (push48 wr b (i * 3 + 1) w1.heap.size a.out n haa hla d1 hfz xpi).mono ?_; rintro e w6 ⟨rfl, w7, hb7, rfl⟩
 try dsimp only
 apply Z.out; clear Z K
 refine Fact.nil (Zq5 0 3 4 25 26 hf ?_)
 clear hf sS bB; intro fr1 hf sS
 refine Fact.block_normal ?_
 refine Zx hK17 ?_
 refine Zr [39] hf ?_
 refine Zq5 0 3 4 25 26 hf ?_
 clear hf sS; intro fr1 hf sS
 refine Fact.then_normal ?_
 have hbS := But.setCell (S := fun k => k = b) (w := w7) (p := ⟨b, i * 3 + 1, none⟩) rfl (.int .u64 (a.out - n : Nat))
 have hbg : ¬ (g = b) := fun e => hne b rfl (e.symm)
 obtain ⟨s0, s3, s4, s25, s26⟩ := sS
 refine ⟨_, by have := HK.out; omega, i + 1, rfl, by omega, hf, s0, s3, s4, s25, by rw [s26]; rfl, ?_, hbS.heap ((hb7.block g (heap_lt hbi)).trans hbi) hbg, hbS.cell (cL hb7 xpi) (fun e => ?_), (hbti.trans (But.of _ hb7)).trans (But.setCell (.inr rfl) _)⟩
 . (
 rw [lessTo_succ HIA.out]; exact OA.out (own_later hoi hb7) HIA2.out (by omega) _)
 . (
 have e : w1.heap.size = b := e; have h5 := (hoa.lt b rfl).2; omega))
 . (
 have hie : i = s.arcs.length := by have h9 := of_decide_eq_false hq; omega
 subst hie
 rw [lessTo_all] at hoi
 refine Zo ?_
 refine Zs hK13 fun _ hK19 => ?_
 refine Zr [40] hf ?_
 refine Zq1 2 hf ?_
 clear hf sS; intro fr1 hf s2
 refine Zx hK19 ?_
 refine Zret ?_
 have hno := HSO.out
 subst hno
 have hnn := HN.out
 subst hnn
 refine Fact.ret1 rfl hf s2 ⟨rfl, ?_, ?_, hbti⟩
 . (
 rw [hbi]; simp [less, hfin])
 . (
 simpa [less, hfin] using hoi))))
end Dw
end Go.Proofs.YtcddnmhmcieebaaGreatDoor
