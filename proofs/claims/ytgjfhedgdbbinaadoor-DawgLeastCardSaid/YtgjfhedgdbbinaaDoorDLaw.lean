/- Dawg: the code's way, in plain Lean: states, the registry, the states along the last word. -/
import Derived.Below
namespace Go.Proofs.YtgjfhedgdbbinaaDoor
set_option linter.unusedSimpArgs false
set_option linter.unusedVariables false
namespace Dw
structure Arc where
  byte : Nat
  out : Nat
  to : Int
instance : DecidableEq Arc := fun a b => decidable_of_iff (a.byte = b.byte ∧ a.out = b.out ∧ a.to = b.to) (by cases a; cases b; simp)
structure State where
  final : Bool
  out : Nat
  arcs : List Arc
instance : DecidableEq State := fun a b => decidable_of_iff (a.final = b.final ∧ a.out = b.out ∧ a.arcs = b.arcs) (by cases a; cases b; simp)
def zeroS : State := ⟨false, 0, []⟩
/-- a state that is being made, and the byte by which it was come to -/
structure Open where
  st : State
  by_ : Nat
/-- a word's bytes, its value -/
abbrev Wv := List Nat × Nat
/-- the number of a state, made if there is none like it -/
def finish (ss : List State) (s : State) : List State × Nat :=
  match ss.findIdx? (· = s) with
  | some i => (ss, i)
  | none => (ss ++ [s], ss.length)
/-- the least of a state's outs -/
def leastOf (s : State) : Nat :=
  match (if s.final then [s.out] else []) ++ s.arcs.map Arc.out with
  | [] => s.out
  | x :: l => l.foldl min x
/-- the outs less a number -/
def less (s : State) (n : Nat) : State := ⟨s.final, if s.final then s.out - n else s.out, s.arcs.map fun a => ⟨a.byte, a.out - n, a.to⟩⟩
/-- one state finished: the last one of the way, and the one ahead of it has an arc more -/
def close1 (ss : List State) (up o : Open) : List State × Open :=
  let n := leastOf o.st
  let r := finish ss (less o.st n)
  (r.1, ⟨⟨up.st.final, up.st.out, up.st.arcs ++ [⟨o.by_, n, (r.2 : Int)⟩]⟩, up.by_⟩)
/-- so many finished, the last one first -/
def closeN : Nat → List State → List Open → List State × List Open
  | n + 1, ss, o :: up :: way => closeN n (close1 ss up o).1 ((close1 ss up o).2 :: way)
  | _, ss, way => (ss, way)
/-- the way, the last one first, closed to a depth -/
def close (ss : List State) (way : List Open) (depth : Nat) : List State × List Open := closeN (way.length - (depth + 1)) ss way
def shared : List Nat → List Nat → Nat
  | x :: a, y :: b => if x = y then shared a b + 1 else 0
  | _, _ => 0
def opens (way : List Open) : List Nat → List Open
  | [] => way
  | b :: w => opens (⟨zeroS, b⟩ :: way) w
def mark (v : Nat) : List Open → List Open
  | o :: way => ⟨⟨true, v, o.st.arcs⟩, o.by_⟩ :: way
  | [] => []
/-- an entry comes -/
def add (x : List State × List Open) (last : List Nat) (e : Wv) : List State × List Open :=
  let d := shared last e.1
  let r := close x.1 x.2 d
  (r.1, mark e.2 (opens r.2 (e.1.drop d)))
def adds (x : List State × List Open) : List Nat → List Wv → List State × List Open
  | _, [] => x
  | last, e :: l => adds (add x last e) e.1 l
structure Fst where
  states : List State
  init : Nat
def build (l : List Wv) : Fst :=
  let x := adds ([], [⟨zeroS, 0⟩]) [] l
  let r := close x.1 x.2 0
  let root := (r.2.headD ⟨zeroS, 0⟩).st
  let n := leastOf root
  ⟨(finish r.1 (less root n)).1, n⟩
/-! the document's -/
def leastV : List Wv → Nat
  | [] => 0
  | e :: l => l.foldl (fun n x => min n x.2) e.2
/-- of entries that begin alike, up to a depth, less what was put ahead: so deep at most -/
def refS : Nat → List State → List Wv → Nat → Nat → List State × Nat
  | 0, ss, _, _, _ => (ss, 0)
  | f + 1, ss, l, depth, le =>
    let x := (List.range l.length).foldl (fun (x : List State × List Arc) i =>
      match (l.getD i ([], 0)).1[depth]? with
      | none => x
      | some b => if (x.2.getLast?.map Arc.byte) = some b then x else
        let own := (l.drop i).filter fun e => decide (e.1[depth]? = some b)
        let n := leastV own
        let r := refS f x.1 own (depth + 1) n
        (r.1, x.2 ++ [⟨b, n - le, (r.2 : Int)⟩])) (ss, [])
    let fo := l.foldl (fun (y : Bool × Nat) e => if e.1.length = depth then (true, e.2 - le) else y) (false, 0)
    finish x.1 ⟨fo.1, fo.2, x.2⟩
def refBuild (l : List Wv) : Fst := match l with
  | [] => ⟨[zeroS], 0⟩
  | l => ⟨(refS 256 [] l 0 (leastV l)).1, leastV l⟩
end Dw
end Go.Proofs.YtgjfhedgdbbinaaDoor

/- Dawg: what is right, in plain terms, as the code asks it. -/
namespace Go.Proofs.YtgjfhedgdbbinaaDoor
set_option linter.unusedSimpArgs false
set_option linter.unusedVariables false
namespace Dw
def okArcs (i : Nat) : Int → List Arc → Bool
  | _, [] => true
  | last, a :: l => decide (0 ≤ a.to) && decide (a.to < (i : Int)) && decide (last < (a.byte : Int)) && okArcs i (a.byte : Int) l
def formedL : Nat → List State → Bool
  | _, [] => true
  | i, s :: l => (s.final || decide (s.out = 0)) && okArcs i (-1) s.arcs && formedL (i + 1) l
def formedF (ss : List State) : Bool := formedL 0 ss && decide (0 < ss.length)
theorem drop_get {α : Type} {l : List α} {i : Nat} {x : α} (h : l[i]? = some x) : l.drop i = x :: l.drop (i + 1) := by
  obtain ⟨h1, h2⟩ := List.getElem?_eq_some_iff.1 h
  rw [List.drop_eq_getElem_cons h1, h2]
theorem formedL_step {ss : List State} {i : Nat} {s : State} (h : ss[i]? = some s) : formedL i (ss.drop i) = ((s.final || decide (s.out = 0)) && okArcs i (-1) s.arcs && formedL (i + 1) (ss.drop (i + 1))) := by rw [drop_get h]; rfl
theorem okArcs_step {l : List Arc} {i k : Nat} {last : Int} {a : Arc} (h : l[k]? = some a) : okArcs i last (l.drop k) = (decide (0 ≤ a.to) && decide (a.to < (i : Int)) && decide (last < (a.byte : Int)) && okArcs i (a.byte : Int) (l.drop (k + 1))) := by rw [drop_get h]; rfl
def arcCount (ss : List State) : Nat := (ss.map fun s => s.arcs.length).sum
theorem arcCount_step {ss : List State} {i : Nat} {s : State} (h : ss[i]? = some s) : arcCount (ss.take (i + 1)) = arcCount (ss.take i) + s.arcs.length := by
  rw [List.take_add_one, h]
  simp [arcCount]
/-! the walk from the root -/
def wArcs (rec : Nat → Nat → Option Nat) : List Arc → Nat → Option Nat
  | [], left => some left
  | a :: l, left => if (left : Int) ≤ a.to then (match rec a.to.toNat left with | none => none | some x => wArcs rec l x) else wArcs rec l left
def arcsOf (ss : List State) (s : Nat) : List Arc := (ss[s]?.map State.arcs).getD []
def leave (s : Nat) : Option Nat → Option Nat
  | none => none
  | some l => if s = l then some (l + 1) else none
def wlk : Nat → List State → Nat → Nat → Option Nat
  | 0, _, _, _ => none
  | f + 1, ss, s, left => leave s (wArcs (wlk f ss) (arcsOf ss s) left)
def resume (ss : List State) (s k left : Nat) : Option Nat := leave s (wArcs (wlk s ss) ((arcsOf ss s).drop k) left)
/-- the way, the last one first -/
def contW (ss : List State) : List (Nat × Nat) → Nat → Bool
  | [], left => decide (left = ss.length)
  | (s, k) :: rest, left => match resume ss s k left with
    | none => false
    | some l => contW ss rest l
/-- arcs go to states ahead -/
def Ahead (ss : List State) : Prop := ∀ (s : Nat), ∀ a ∈ arcsOf ss s, 0 ≤ a.to ∧ a.to < (s : Int)
theorem wArcs_congr {r r' : Nat → Nat → Option Nat} : ∀ (l : List Arc) (left : Nat), (∀ a ∈ l, ∀ x, r a.to.toNat x = r' a.to.toNat x) → wArcs r l left = wArcs r' l left
  | [], _, _ => rfl
  | a :: l, left, h => by
    have h1 := h a (List.mem_cons_self ..)
    have ih := fun x => wArcs_congr l x (fun b hb => h b (List.mem_cons_of_mem _ hb))
    simp only [wArcs]
    rw [h1 left, ih left]
    split
    · cases r' a.to.toNat left with
      | none => rfl
      | some x => exact ih x
    · rfl
theorem wlk_fuel {ss : List State} (hA : Ahead ss) : ∀ (s f f' : Nat), s < f → s < f' → ∀ left, wlk f ss s left = wlk f' ss s left := by
  intro s
  induction s using Nat.strongRecOn with
  | _ s ih =>
    intro f f' h h' left
    obtain ⟨g, rfl⟩ : ∃ g, f = g + 1 := ⟨f - 1, by omega⟩
    obtain ⟨g', rfl⟩ : ∃ g', f' = g' + 1 := ⟨f' - 1, by omega⟩
    simp only [wlk]
    rw [wArcs_congr (arcsOf ss s) left (fun a ha x => by
      have := hA s a ha
      exact ih a.to.toNat (by omega) g g' (by omega) (by omega) x)]
theorem wlk_resume {ss : List State} (hA : Ahead ss) {s t left : Nat} (h : t < s) : wlk s ss t left = resume ss t 0 left := by
  rw [wlk_fuel hA t s (t + 1) h (by omega)]
  rfl
theorem cont_push {ss : List State} (hA : Ahead ss) {s k left : Nat} {rest : List (Nat × Nat)} {a : Arc} (h : (arcsOf ss s)[k]? = some a) (hl : (left : Int) ≤ a.to) : contW ss ((s, k) :: rest) left = contW ss ((a.to.toNat, 0) :: (s, k + 1) :: rest) left := by
  have ha := hA s a (List.mem_of_getElem? h)
  simp only [contW, resume]
  rw [drop_get h]
  simp only [wArcs, hl, if_true]
  rw [wlk_resume hA (by omega)]
  cases hr : resume ss a.to.toNat 0 left with
  | none => simp [leave, resume] at hr ⊢; rw [hr]
  | some x => simp only [resume] at hr ⊢; rw [hr]
theorem cont_next {ss : List State} {s k left : Nat} {rest : List (Nat × Nat)} {a : Arc} (h : (arcsOf ss s)[k]? = some a) (hl : ¬ (left : Int) ≤ a.to) : contW ss ((s, k) :: rest) left = contW ss ((s, k + 1) :: rest) left := by
  simp only [contW, resume]
  rw [drop_get h]
  simp only [wArcs, hl, if_false]
theorem cont_end {ss : List State} {s k left : Nat} {rest : List (Nat × Nat)} (h : (arcsOf ss s).length ≤ k) : contW ss ((s, k) :: rest) left = if s = left then contW ss rest (left + 1) else false := by
  simp only [contW, resume]
  rw [List.drop_eq_nil_of_le h]
  simp only [wArcs, leave]
  by_cases hs : s = left
  · simp [hs]
  · simp [hs]
def orderedF (ss : List State) : Bool := contW ss [(ss.length - 1, 0)] 0
def goodS (ss : List State) (i : Nat) (s : State) : Bool := !(!s.final && decide (s.arcs.length = 0)) && decide (leastOf s = 0) && decide (s ∉ ss.take i)
def allGood (ss : List State) : Nat → List State → Bool
  | _, [] => true
  | i, s :: l => goodS ss i s && allGood ss (i + 1) l
theorem allGood_step {ss : List State} {i : Nat} {s : State} (h : ss[i]? = some s) : allGood ss i (ss.drop i) = (goodS ss i s && allGood ss (i + 1) (ss.drop (i + 1))) := by rw [drop_get h]; rfl
def rightF (ss : List State) (init : Nat) : Bool :=
  formedF ss && (match ss.getLast? with
    | none => false
    | some root => if !root.final && decide (root.arcs.length = 0) then decide (ss.length = 1) && decide (init = 0) else orderedF ss && allGood ss 0 ss)
end Dw
end Go.Proofs.YtgjfhedgdbbinaaDoor

/- Dawg: laws of the mirror. -/
namespace Go.Proofs.YtgjfhedgdbbinaaDoor
set_option linter.unusedSimpArgs false
set_option linter.unusedVariables false
namespace Dw
theorem closeN_short (n : Nat) (ss : List State) (way : List Open) (h : way.length ≤ 1) : closeN n ss way = (ss, way) := by
  cases n with
  | zero => simp [closeN]
  | succ n =>
    match way, h with
    | [], _ => rfl
    | [o], _ => rfl
theorem closeN_zero (ss : List State) (way : List Open) : closeN 0 ss way = (ss, way) := by cases way <;> rfl
theorem closeN_add (m n : Nat) : ∀ (ss : List State) (way : List Open), closeN (m + n) ss way = closeN n (closeN m ss way).1 (closeN m ss way).2 := by
  induction m with
  | zero => intro ss way; rw [Nat.zero_add, closeN_zero]
  | succ m ih =>
    intro ss way
    match way with
    | [] => rw [closeN_short (m + 1) _ _ (Nat.zero_le _), closeN_short (m + 1 + n) _ _ (Nat.zero_le _), closeN_short n _ _ (Nat.zero_le _)]
    | [o] => rw [closeN_short (m + 1) _ _ (Nat.le_refl _), closeN_short (m + 1 + n) _ _ (Nat.le_refl _), closeN_short n _ _ (Nat.le_refl _)]
    | o :: up :: way =>
      rw [show m + 1 + n = (m + n) + 1 by omega]
      show closeN (m + n) (close1 ss up o).1 ((close1 ss up o).2 :: way) = _
      rw [ih]
      rfl
theorem closeN_length (n : Nat) : ∀ (ss : List State) (way : List Open), n < way.length → (closeN n ss way).2.length = way.length - n := by
  induction n with
  | zero => intro ss way h; rw [closeN_zero]; rfl
  | succ n ih =>
    intro ss way h
    match way, h with
    | [o], h => simp at h
    | o :: up :: way, h =>
      show (closeN n (close1 ss up o).1 ((close1 ss up o).2 :: way)).2.length = _
      rw [ih _ _ (by simp at h ⊢; omega)]
      simp
theorem close_length (ss : List State) (way : List Open) (d : Nat) (h : d < way.length) : (close ss way d).2.length = d + 1 := by
  unfold close
  rw [closeN_length _ _ _ (by omega)]
  omega
/-- closed to b, then to a: closed to a -/
theorem close_close (ss : List State) (way : List Open) {a b : Nat} (hab : a ≤ b) (hb : b < way.length) : close (close ss way b).1 (close ss way b).2 a = close ss way a := by
  have hl := close_length ss way b hb
  unfold close at hl ⊢
  rw [hl, ← closeN_add]
  congr 1
  omega
theorem shared_self (a : List Nat) : shared a a = a.length := by
  induction a with
  | nil => rfl
  | cons x a ih => simp [shared, ih]
theorem shared_le (a b : List Nat) : shared a b ≤ b.length := by
  induction a generalizing b with
  | nil => simp [shared]
  | cons x a ih =>
    cases b with
    | nil => simp [shared]
    | cons y b =>
      simp only [shared]
      split
      · have := ih b; simp; omega
      · omega
theorem opens_length (way : List Open) (w : List Nat) : (opens way w).length = way.length + w.length := by
  induction w generalizing way with
  | nil => rfl
  | cons b w ih => rw [opens, ih]; simp; omega
theorem mark_length (v : Nat) (way : List Open) : (mark v way).length = way.length := by cases way <;> rfl
theorem adds_append (x : List State × List Open) (last : List Nat) (a b : List Wv) : adds x last (a ++ b) = adds (adds x last a) ((a.getLast?.map Prod.fst).getD last) b := by
  induction a generalizing x last with
  | nil => rfl
  | cons e a ih =>
    rw [List.cons_append, adds, ih, adds]
    congr 1
    cases a with
    | nil => rfl
    | cons f a =>
      rw [List.getLast?_cons_cons]
      obtain ⟨y, hy⟩ : ∃ y, (f :: a).getLast? = some y := ⟨_, List.getLast?_eq_some_getLast (by simp)⟩
      rw [hy]; rfl
end Dw
end Go.Proofs.YtgjfhedgdbbinaaDoor

/- Dawg: what the way along the words makes is, state by state, what the tree of all words is. -/
namespace Go.Proofs.YtgjfhedgdbbinaaDoor
set_option linter.unusedSimpArgs false
set_option linter.unusedVariables false
namespace Dw
/-! rising lists of words, and their groups by the next byte -/
def lexlt : List Nat → List Nat → Bool
  | [], _ :: _ => true
  | _, [] => false
  | x :: a, y :: b => decide (x < y) || (decide (x = y) && lexlt a b)
def Rise (l : List Wv) : Prop := l.Pairwise fun a b => lexlt a.1 b.1 = true
def groups : List Wv → List (Nat × List Wv)
  | [] => []
  | ([], _) :: l => groups l
  | (b :: w, v) :: l => match groups l with
    | [] => [(b, [(w, v)])]
    | (b', g) :: gs => if b = b' then (b, (w, v) :: g) :: gs else (b, [(w, v)]) :: (b', g) :: gs
def pre (p : List Nat) (e : Wv) : Wv := (p ++ e.1, e.2)
def flat (gs : List (Nat × List Wv)) : List Wv := gs.flatMap fun x => x.2.map (pre [x.1])
structure Grp (l : List Wv) (gs : List (Nat × List Wv)) : Prop where
  flat : l = flat gs
  some_ : ∀ x, x ∈ gs → x.2 ≠ [] ∧ Rise x.2
  rise : gs.Pairwise fun a b => a.1 < b.1
theorem lexlt_cons {x y : Nat} {a b : List Nat} : lexlt (x :: a) (y :: b) = true ↔ x < y ∨ (x = y ∧ lexlt a b = true) := by simp [lexlt]
theorem lexlt_nil (a : List Nat) : lexlt a [] = false := by cases a <;> rfl
theorem lexlt_trans : ∀ (a b c : List Nat), lexlt a b = true → lexlt b c = true → lexlt a c = true
  | _, [], _, h1, _ => by rw [lexlt_nil] at h1; cases h1
  | _, _ :: _, [], _, h2 => by rw [lexlt_nil] at h2; cases h2
  | [], y :: b, z :: c, _, _ => rfl
  | x :: a, y :: b, z :: c, h1, h2 => by
    rw [lexlt_cons] at h1 h2 ⊢
    rcases h1 with h1 | ⟨rfl, h1⟩
    · rcases h2 with h2 | ⟨rfl, h2⟩
      · exact .inl (by omega)
      · exact .inl h1
    · rcases h2 with h2 | ⟨rfl, h2⟩
      · exact .inl h2
      · exact .inr ⟨rfl, lexlt_trans a b c h1 h2⟩
theorem Rise.tail {e : Wv} {l : List Wv} (h : Rise (e :: l)) : Rise l := (List.pairwise_cons.1 h).2
theorem Rise.head {e : Wv} {l : List Wv} (h : Rise (e :: l)) : ∀ x ∈ l, lexlt e.1 x.1 = true := (List.pairwise_cons.1 h).1
theorem Rise.nonempty {e : Wv} {l : List Wv} (h : Rise (e :: l)) : ∀ x ∈ l, x.1 ≠ [] := fun x hx h0 => by
  have := h.head x hx
  rw [h0, lexlt_nil] at this
  cases this
theorem groups_grp : ∀ {l : List Wv}, Rise l → (∀ x ∈ l, x.1 ≠ []) → Grp l (groups l)
  | [], _, _ => ⟨rfl, (fun x hx => by cases hx), List.Pairwise.nil⟩
  | ([], v) :: l, _, hn => absurd rfl (hn _ (List.mem_cons_self ..))
  | (b :: w, v) :: l, hr, hn => by
    have ih := groups_grp hr.tail (fun x hx => hn x (List.mem_cons_of_mem _ hx))
    have hd := hr.head
    simp only [groups]
    cases hg : groups l with
    | nil =>
      rw [hg] at ih
      have hl : l = [] := ih.flat
      subst hl
      exact ⟨rfl, fun x hx => by simp at hx; subst hx; exact ⟨by simp, by simp [Rise]⟩, by simp⟩
    | cons x gs =>
      obtain ⟨b', g⟩ := x
      rw [hg] at ih
      have hs := ih.some_ (b', g) (List.mem_cons_self ..)
      obtain ⟨⟨w', v'⟩, g', rfl⟩ : ∃ e g', g = e :: g' := List.exists_cons_of_ne_nil hs.1
      have hfl := ih.flat
      simp only [flat, List.flatMap_cons, List.map_cons, List.cons_append] at hfl
      have hlt := hd (pre [b'] (w', v')) (by rw [hfl]; exact List.mem_cons_self ..)
      have hlt2 : lexlt (b :: w) (b' :: w') = true := hlt
      rw [lexlt_cons] at hlt2
      have hri := List.pairwise_cons.1 ih.rise
      by_cases hb : b = b'
      · subst hb
        simp only [if_true]
        refine ⟨?_, fun x hx => ?_, List.pairwise_cons.2 ⟨fun y hy => hri.1 y hy, hri.2⟩⟩
        · rw [hfl]; simp [flat, pre]
        · rcases List.mem_cons.1 hx with rfl | hx
          · refine ⟨by simp, List.pairwise_cons.2 ⟨fun y hy => ?_, hs.2⟩⟩
            have h2 := hd (pre [b] y) (by
              rw [ih.flat]
              simp only [flat, List.flatMap_cons]
              exact List.mem_append_left _ (List.mem_map_of_mem hy))
            have h3 : lexlt (b :: w) (b :: y.1) = true := h2
            rw [lexlt_cons] at h3
            rcases h3 with h3 | h3
            · omega
            · exact h3.2
          · exact ih.some_ x (List.mem_cons_of_mem _ hx)
      · have hlt3 : b < b' := by rcases hlt2 with h | h; exact h; exact absurd h.1 hb
        simp only [hb, if_false]
        refine ⟨?_, fun x hx => ?_, List.pairwise_cons.2 ⟨fun y hy => ?_, ih.rise⟩⟩
        · rw [ih.flat]; simp [flat, pre]
        · rcases List.mem_cons.1 hx with rfl | hx
          · exact ⟨by simp, by simp [Rise]⟩
          · exact ih.some_ x hx
        · rcases List.mem_cons.1 hy with rfl | hy
          · exact hlt3
          · have := hri.1 y hy
            simp only at this ⊢
            omega
/-! the tree of all words, state by state -/
def finOf : List Wv → Bool × Nat
  | ([], v) :: _ => (true, v)
  | _ => (false, 0)
def arcsN (rec : List State → List Wv → List State × State) : List State → List Arc → List (Nat × List Wv) → List State × List Arc
  | ss, as, [] => (ss, as)
  | ss, as, (b, g) :: gs =>
    let r := rec ss g
    let q := finish r.1 (less r.2 (leastOf r.2))
    arcsN rec q.1 (as ++ [⟨b, leastOf r.2, (q.2 : Int)⟩]) gs
def N : Nat → List State → List Wv → List State × State
  | 0, ss, _ => (ss, zeroS)
  | f + 1, ss, l =>
    let r := arcsN (N f) ss [] (groups l)
    (r.1, ⟨(finOf l).1, (finOf l).2, r.2⟩)
theorem shared_pre (p a : List Nat) : shared p (p ++ a) = p.length := by
  induction p with
  | nil => cases a <;> rfl
  | cons x p ih => simp [shared, ih]
theorem shared_ne (p : List Nat) {b b' : Nat} (w w' : List Nat) (h : b ≠ b') : shared (p ++ b :: w) (p ++ b' :: w') = p.length := by
  induction p with
  | nil => simp [shared, h]
  | cons x p ih => simp [shared, ih]
theorem close_same (ss : List State) (way : List Open) (d : Nat) (h : way.length ≤ d + 1) : close ss way d = (ss, way) := by
  unfold close
  rw [show way.length - (d + 1) = 0 by omega, closeN_zero]
/-- an entry that goes on with another byte, behind a way that closes to a depth -/
theorem add_fork {ss ss1 : List State} {way : List Open} {last p : List Nat} {b : Nat} {st : State} {by_ : Nat} {rest : List Open} (hr : rest.length = p.length)
    (hc : close ss way p.length = (ss1, ⟨st, by_⟩ :: rest)) (e : Wv) (hs : shared last (p ++ b :: e.1) = p.length) :
    add (ss, way) last (pre p (pre [b] e)) = add (ss1, ⟨zeroS, b⟩ :: ⟨st, by_⟩ :: rest) (p ++ [b]) (pre (p ++ [b]) e) := by
  have e1 : pre p (pre [b] e) = (p ++ b :: e.1, e.2) := rfl
  have e2 : pre (p ++ [b]) e = (p ++ b :: e.1, e.2) := by simp [pre]
  have e3 : shared (p ++ [b]) (p ++ b :: e.1) = p.length + 1 := by
    have := shared_pre (p ++ [b]) e.1
    simpa using this
  rw [e1, e2]
  unfold add
  simp only [hs, e3]
  rw [hc, close_same _ _ (p.length + 1) (by simp [hr])]
  simp only [List.drop_left]
  rw [show p ++ b :: e.1 = (p ++ [b]) ++ e.1 by simp, show p.length + 1 = (p ++ [b]).length by simp, List.drop_left]
  rfl
theorem adds_cons (x : List State × List Open) (last : List Nat) (e : Wv) (l : List Wv) : adds x last (e :: l) = adds (add x last e) e.1 l := rfl
theorem close_len (x : List State × List Open) (last : List Nat) (e : Wv) (h : shared last e.1 < x.2.length) : (add x last e).2.length = e.1.length + 1 := by
  unfold add
  simp only [mark_length, opens_length]
  rw [close_length _ _ _ h, List.length_drop]
  have := shared_le last e.1
  omega
theorem shared_le' (a b : List Nat) : shared a b ≤ a.length := by
  induction a generalizing b with
  | nil => simp [shared]
  | cons x a ih =>
    cases b with
    | nil => simp [shared]
    | cons y b =>
      simp only [shared]
      split
      · have := ih b; simp; omega
      · omega
/-- the way is as long as the last word, and one more -/
theorem adds_len : ∀ (l : List Wv) (x : List State × List Open) (last : List Nat), x.2.length = last.length + 1 → (adds x last l).2.length = ((l.getLast?.map Prod.fst).getD last).length + 1
  | [], x, last, h => h
  | [e], x, last, h => by
    have := shared_le' last e.1
    exact close_len x last e (by omega)
  | e :: e' :: l, x, last, h => by
    have := shared_le' last e.1
    rw [adds_cons, adds_len (e' :: l) _ e.1 (close_len x last e (by omega)), List.getLast?_cons_cons]
    obtain ⟨y, hy⟩ : ∃ y, (e' :: l).getLast? = some y := ⟨_, List.getLast?_eq_some_getLast (by simp)⟩
    rw [hy]; rfl
def AllLt (f : Nat) (l : List Wv) : Prop := ∀ e ∈ l, e.1.length < f
theorem close_step {ss : List State} {way : List Open} {d : Nat} {ss1 : List State} {o up : Open} {rest : List Open} (hr : rest.length = d) (hlt : d + 1 < way.length)
    (h : close ss way (d + 1) = (ss1, o :: up :: rest)) : close ss way d = ((close1 ss1 up o).1, (close1 ss1 up o).2 :: rest) := by
  rw [← close_close ss way (Nat.le_succ d) hlt, h]
  unfold close
  rw [show (o :: up :: rest).length - (d + 1) = 1 by simp [hr]]
  show closeN 0 (close1 ss1 up o).1 ((close1 ss1 up o).2 :: rest) = _
  rw [closeN_zero]
section
variable {f : Nat} (IH : ∀ (l : List Wv) (ss : List State) (p : List Nat) (top : Open) (rest : List Open), AllLt f l → l ≠ [] → Rise l → rest.length = p.length → top.st = zeroS →
    close (adds (ss, top :: rest) p (l.map (pre p))).1 (adds (ss, top :: rest) p (l.map (pre p))).2 p.length = ((N f ss l).1, ⟨(N f ss l).2, top.by_⟩ :: rest))
include IH
theorem adds_groups : ∀ (gs : List (Nat × List Wv)) (ss : List State) (way : List Open) (last p : List Nat) (ss1 : List State) (st : State) (by_ : Nat) (rest : List Open), rest.length = p.length →
    way.length = last.length + 1 → p.length < way.length → close ss way p.length = (ss1, ⟨st, by_⟩ :: rest) → (∀ x ∈ gs, ∀ w, shared last (p ++ x.1 :: w) = p.length) →
    (∀ x ∈ gs, x.2 ≠ [] ∧ Rise x.2 ∧ AllLt f x.2) → (gs.Pairwise fun a b => a.1 < b.1) →
    close (adds (ss, way) last ((flat gs).map (pre p))).1 (adds (ss, way) last ((flat gs).map (pre p))).2 p.length =
      ((arcsN (N f) ss1 st.arcs gs).1, ⟨⟨st.final, st.out, (arcsN (N f) ss1 st.arcs gs).2⟩, by_⟩ :: rest)
  | [], ss, way, last, p, ss1, st, by_, rest, hr, hw, hp, hc, hs, hg, hri => by
    show close ss way p.length = _
    rw [hc]
    rfl
  | (b, g) :: gs, ss, way, last, p, ss1, st, by_, rest, hr, hw, hp, hc, hs, hg, hri => by
    obtain ⟨hg0, hg1, hg2⟩ := hg (b, g) (List.mem_cons_self ..)
    obtain ⟨e, g', rfl⟩ : ∃ e g', g = e :: g' := List.exists_cons_of_ne_nil hg0
    have hfl : (flat ((b, e :: g') :: gs)).map (pre p) = ((e :: g').map (pre (p ++ [b]))) ++ (flat gs).map (pre p) := by
      simp [flat, pre, List.map_append, List.map_map, Function.comp_def]
    have hfirst : adds (ss, way) last ((e :: g').map (pre (p ++ [b]))) = adds (ss1, ⟨zeroS, b⟩ :: ⟨st, by_⟩ :: rest) (p ++ [b]) ((e :: g').map (pre (p ++ [b]))) := by
      rw [List.map_cons, adds_cons, adds_cons, ← add_fork hr hc e (hs (b, e :: g') (List.mem_cons_self ..) e.1)]
      rw [show pre p (pre [b] e) = pre (p ++ [b]) e by simp [pre]]
    have ih := IH (e :: g') ss1 (p ++ [b]) ⟨zeroS, b⟩ (⟨st, by_⟩ :: rest) hg2 hg0 hg1 (by simp [hr]) rfl
    rw [← hfirst] at ih
    have hlast : ∃ y : Wv, y ∈ (e :: g') ∧ (((e :: g').map (pre (p ++ [b]))).getLast?.map Prod.fst).getD last = p ++ b :: y.1 := by
      refine ⟨(e :: g').getLast (by simp), List.getLast_mem _, ?_⟩
      rw [List.getLast?_map, List.getLast?_eq_some_getLast (by simp)]
      simp [pre]
    obtain ⟨y, hy, hlast⟩ := hlast
    have hlen := adds_len ((e :: g').map (pre (p ++ [b]))) (ss, way) last hw
    rw [hlast] at hlen
    rw [hfl, adds_append, hlast]
    rw [show (p ++ [b]).length = p.length + 1 by simp] at ih
    have hst := close_step hr (by rw [hlen]; simp) ih
    have hri2 := List.pairwise_cons.1 hri
    have := adds_groups gs _ _ (p ++ b :: y.1) p _ _ _ rest hr hlen (by rw [hlen]; simp; omega) hst (fun x hx w => shared_ne p _ _ (by have := hri2.1 x hx; simp only at this; omega))
      (fun x hx => hg x (List.mem_cons_of_mem _ hx)) hri2.2
    exact this
end
theorem groups_nil (v : Nat) (l : List Wv) : groups (([], v) :: l) = groups l := rfl
theorem mem_flat {gs : List (Nat × List Wv)} {x : Nat × List Wv} {e : Wv} (hx : x ∈ gs) (he : e ∈ x.2) : pre [x.1] e ∈ flat gs := by
  unfold flat
  exact List.mem_flatMap.2 ⟨x, hx, List.mem_map_of_mem he⟩
theorem adds_N : ∀ (f : Nat) (l : List Wv) (ss : List State) (p : List Nat) (top : Open) (rest : List Open), AllLt f l → l ≠ [] → Rise l → rest.length = p.length → top.st = zeroS →
    close (adds (ss, top :: rest) p (l.map (pre p))).1 (adds (ss, top :: rest) p (l.map (pre p))).2 p.length = ((N f ss l).1, ⟨(N f ss l).2, top.by_⟩ :: rest)
  | 0, e :: l, ss, p, top, rest, hl, _, _, _, _ => absurd (hl e (List.mem_cons_self ..)) (by omega)
  | 0, [], ss, p, top, rest, hl, hn, _, _, _ => absurd rfl hn
  | f + 1, l, ss, p, top, rest, hl, hn, hri, hr, ht => by
    have hgrp : ∀ (m : List Wv), Rise m → (∀ x ∈ m, x.1 ≠ []) → AllLt (f + 1) m → Grp m (groups m) ∧ ∀ x ∈ groups m, x.2 ≠ [] ∧ Rise x.2 ∧ AllLt f x.2 := fun m h1 h2 h3 => by
      have hG := groups_grp h1 h2
      refine ⟨hG, fun x hx => ⟨(hG.some_ x hx).1, (hG.some_ x hx).2, fun e he => ?_⟩⟩
      have := h3 (pre [x.1] e) (by rw [hG.flat]; exact mem_flat hx he)
      simp [pre] at this
      omega
    obtain ⟨e, l, rfl⟩ := List.exists_cons_of_ne_nil hn
    obtain ⟨w, v⟩ := e
    obtain ⟨st0, by0⟩ := top
    simp only at ht
    subst ht
    cases w with
    | nil =>
      have hG := hgrp l hri.tail hri.nonempty (fun e he => hl e (List.mem_cons_of_mem _ he))
      rw [List.map_cons, adds_cons]
      have ha : add (ss, ⟨zeroS, by0⟩ :: rest) p (pre p ([], v)) = (ss, ⟨⟨true, v, []⟩, by0⟩ :: rest) := by
        unfold add
        simp only [pre, List.append_nil, shared_self, List.drop_length]
        rw [close_same _ _ _ (by simp [hr])]
        rfl
      rw [ha, show (pre p ([], v)).1 = p by simp [pre]]
      have hb := adds_groups (adds_N f) (groups l) ss (⟨⟨true, v, []⟩, by0⟩ :: rest) p p ss ⟨true, v, []⟩ by0 rest hr (by simp [hr]) (by simp [hr]) (close_same _ _ _ (by simp [hr])) (fun x _ w => shared_pre p _) hG.2 hG.1.rise
      rw [← hG.1.flat] at hb
      rw [hb]
      simp only [N, groups_nil, finOf]
    | cons b w =>
      have hne : ∀ x ∈ (b :: w, v) :: l, x.1 ≠ [] := fun x hx => by
        rcases List.mem_cons.1 hx with rfl | hx
        · simp
        · exact hri.nonempty x hx
      have hG := hgrp _ hri hne hl
      have hb := adds_groups (adds_N f) (groups ((b :: w, v) :: l)) ss (⟨zeroS, by0⟩ :: rest) p p ss zeroS by0 rest hr (by simp [hr]) (by simp [hr]) (close_same _ _ _ (by simp [hr])) (fun x _ w => shared_pre p _) hG.2 hG.1.rise
      rw [← hG.1.flat] at hb
      rw [hb]
      rfl
end Dw
end Go.Proofs.YtgjfhedgdbbinaaDoor

/- Dawg: what the code makes is what the document says. -/
namespace Go.Proofs.YtgjfhedgdbbinaaDoor
set_option linter.unusedSimpArgs false
set_option linter.unusedVariables false
set_option linter.unnecessarySimpa false
namespace Dw
/-! the least of values -/
def Least (m : Nat) (vs : List Nat) : Prop := m ∈ vs ∧ ∀ v ∈ vs, m ≤ v
theorem Least.uniq {m n : Nat} {vs : List Nat} (h : Least m vs) (k : Least n vs) : m = n := Nat.le_antisymm (h.2 n k.1) (k.2 m h.1)
theorem foldl_min (l : List Nat) : ∀ x, Least (l.foldl min x) (x :: l) := by
  induction l with
  | nil => intro x; exact ⟨by simp, by simp⟩
  | cons y l ih =>
    intro x
    obtain ⟨h1, h2⟩ := ih (min x y)
    rw [List.foldl_cons]
    refine ⟨?_, fun v hv => ?_⟩
    · rcases List.mem_cons.1 h1 with h | h
      · rw [h]
        rcases Nat.le_total x y with h3 | h3
        · rw [Nat.min_eq_left h3]; simp
        · rw [Nat.min_eq_right h3]; simp
      · simp [h]
    · have h3 := h2 (min x y) (by simp)
      rcases List.mem_cons.1 hv with rfl | hv
      · omega
      · rcases List.mem_cons.1 hv with rfl | hv
        · omega
        · exact h2 v (by simp [hv])
theorem leastV_least {l : List Wv} (h : l ≠ []) : Least (leastV l) (l.map Prod.snd) := by
  obtain ⟨e, l, rfl⟩ := List.exists_cons_of_ne_nil h
  have := foldl_min (l.map Prod.snd) e.2
  rw [List.foldl_map] at this
  exact this
def outsOf (s : State) : List Nat := (if s.final then [s.out] else []) ++ s.arcs.map Arc.out
theorem leastOf_least {s : State} (h : outsOf s ≠ []) : Least (leastOf s) (outsOf s) := by
  unfold leastOf
  show Least (match outsOf s with | [] => s.out | x :: l => l.foldl min x) (outsOf s)
  obtain ⟨x, l, hx⟩ := List.exists_cons_of_ne_nil h
  rw [hx]
  exact foldl_min l x
theorem leastOf_none {s : State} (h : outsOf s = []) : leastOf s = s.out := by
  unfold leastOf
  show (match outsOf s with | [] => s.out | x :: l => l.foldl min x) = s.out
  rw [h]
theorem arcsN_append (rec : List State → List Wv → List State × State) : ∀ (gs : List (Nat × List Wv)) (ss : List State) (as : List Arc), ∃ bs, (arcsN rec ss as gs).2 = as ++ bs ∧ bs.length = gs.length ∧
    (∀ P : Nat → Nat → List Wv → Prop, (∀ x ∈ gs, ∀ ss, P x.1 (leastOf (rec ss x.2).2) x.2) → ∀ (i : Nat) (x : Nat × List Wv) (a : Arc), gs[i]? = some x → bs[i]? = some a → a.byte = x.1 ∧ P x.1 a.out x.2)
  | [], ss, as => ⟨[], by simp [arcsN], rfl, fun P h i x a h1 h2 => by simp at h1⟩
  | (b, g) :: gs, ss, as => by
    obtain ⟨bs, h1, h2, h3⟩ := arcsN_append rec gs (finish (rec ss g).1 (less (rec ss g).2 (leastOf (rec ss g).2))).1 (as ++ [⟨b, leastOf (rec ss g).2, ((finish (rec ss g).1 (less (rec ss g).2 (leastOf (rec ss g).2))).2 : Int)⟩])
    refine ⟨⟨b, leastOf (rec ss g).2, ((finish (rec ss g).1 (less (rec ss g).2 (leastOf (rec ss g).2))).2 : Int)⟩ :: bs, ?_, by simp [h2], fun P hP i x a hx ha => ?_⟩
    · show (arcsN rec _ _ gs).2 = _
      rw [h1]; simp
    · cases i with
      | zero => simp at hx ha; subst hx; subst ha; exact ⟨rfl, hP _ (List.mem_cons_self ..) ss⟩
      | succ i => exact h3 P (fun y hy => hP y (List.mem_cons_of_mem _ hy)) i x a (by simpa using hx) (by simpa using ha)
theorem groups_ne {l : List Wv} (h : ∀ x ∈ l, x.1 ≠ []) (hn : l ≠ []) : groups l ≠ [] := by
  obtain ⟨⟨w, v⟩, l, rfl⟩ := List.exists_cons_of_ne_nil hn
  cases w with
  | nil => exact absurd rfl (h _ (List.mem_cons_self ..))
  | cons b w =>
    simp only [groups]
    split
    · simp
    · split <;> simp
/-- a rising list: its own entry, if any, and the groups of the rest -/
theorem parts {l : List Wv} (hr : Rise l) : ∃ m, l = (if (finOf l).1 then [([], (finOf l).2)] else []) ++ m ∧ groups l = groups m ∧ Grp m (groups m) ∧ ((finOf l).1 = false → (finOf l).2 = 0) ∧ (∀ x ∈ m, x.1 ≠ []) ∧ (l ≠ [] → (finOf l).1 = false → groups m ≠ []) := by
  cases l with
  | nil => exact ⟨[], rfl, rfl, groups_grp List.Pairwise.nil (by simp), fun _ => rfl, by simp, fun h => absurd rfl h⟩
  | cons e l =>
    obtain ⟨w, v⟩ := e
    cases w with
    | nil => exact ⟨l, rfl, rfl, groups_grp hr.tail hr.nonempty, (fun h => by cases h), hr.nonempty, (fun _ h => by cases h)⟩
    | cons b w =>
      have hne : ∀ x ∈ (b :: w, v) :: l, x.1 ≠ [] := fun x hx => by
        rcases List.mem_cons.1 hx with rfl | hx
        · simp
        · exact hr.nonempty x hx
      exact ⟨(b :: w, v) :: l, rfl, rfl, groups_grp hr hne, fun _ => rfl, hne, fun h _ => groups_ne hne h⟩
theorem AllLt.group {f : Nat} {l m : List Wv} {gs : List (Nat × List Wv)} (h : AllLt (f + 1) l) (hm : ∀ e ∈ m, e ∈ l) (hG : Grp m gs) : ∀ x ∈ gs, AllLt f x.2 := fun x hx e he => by
  have := h (pre [x.1] e) (hm _ (by rw [hG.flat]; exact mem_flat hx he))
  simp [pre] at this
  omega
theorem values_flat (gs : List (Nat × List Wv)) : (flat gs).map Prod.snd = gs.flatMap fun x => x.2.map Prod.snd := by
  simp [flat, List.map_flatMap, List.map_map, Function.comp_def, pre]
theorem least_parts {fin : Bool} {v : Nat} {gs : List (Nat × List Wv)} (hn : ∀ x ∈ gs, x.2 ≠ []) (m : Nat) (h : Least m ((if fin then [v] else []) ++ gs.map fun x => leastV x.2)) :
    Least m ((if fin then [v] else []) ++ gs.flatMap fun x => x.2.map Prod.snd) := by
  refine ⟨?_, fun u hu => ?_⟩
  · rcases List.mem_append.1 h.1 with h1 | h1
    · exact List.mem_append_left _ h1
    · obtain ⟨x, hx, rfl⟩ := List.mem_map.1 h1
      exact List.mem_append_right _ (List.mem_flatMap.2 ⟨x, hx, (leastV_least (hn x hx)).1⟩)
  · rcases List.mem_append.1 hu with h1 | h1
    · exact h.2 u (List.mem_append_left _ h1)
    · obtain ⟨x, hx, hux⟩ := List.mem_flatMap.1 h1
      exact Nat.le_trans (h.2 _ (List.mem_append_right _ (List.mem_map_of_mem hx))) ((leastV_least (hn x hx)).2 u hux)
theorem least_N : ∀ (f : Nat) (l : List Wv) (ss : List State), AllLt f l → l ≠ [] → Rise l → leastOf (N f ss l).2 = leastV l
  | 0, [], ss, hl, hn, hr => absurd rfl hn
  | 0, e :: l, ss, hl, hn, hr => absurd (hl e (List.mem_cons_self ..)) (by omega)
  | f + 1, l, ss, hl, hn, hr => by
    obtain ⟨m, hlm, hgm, hG, hf0, hne, hgn⟩ := parts hr
    have hmem : ∀ e ∈ m, e ∈ l := fun e he => by rw [hlm]; exact List.mem_append_right _ he
    have hAll := hl.group hmem hG
    obtain ⟨bs, h1, h2, h3⟩ := arcsN_append (N f) (groups m) ss []
    have h4 := h3 (fun b n g => n = leastV g) (fun x hx ss => least_N f x.2 ss (hAll x hx) (hG.some_ x hx).1 (hG.some_ x hx).2)
    have hbs : bs.map Arc.out = (groups m).map fun x => leastV x.2 := by
      refine List.ext_getElem (by simp [h2]) fun i hi1 hi2 => ?_
      simp at hi1 hi2
      have := h4 i (groups m)[i] bs[i] (by simp [hi2]) (by simp [hi1])
      simp [this.2]
    have houts : outsOf (N (f + 1) ss l).2 = (if (finOf l).1 then [(finOf l).2] else []) ++ (groups m).map fun x => leastV x.2 := by
      simp only [outsOf, N, hgm, h1, List.nil_append, hbs]
    have hne2 : outsOf (N (f + 1) ss l).2 ≠ [] := by
      rw [houts]
      cases hfin : (finOf l).1 with
      | true => simp
      | false =>
        have := hgn hn hfin
        simp [this]
    have hL := leastOf_least hne2
    rw [houts] at hL
    have hL2 := least_parts (fun x hx => (hG.some_ x hx).1) _ hL
    rw [← values_flat, ← hG.flat] at hL2
    have hv : l.map Prod.snd = (if (finOf l).1 then [(finOf l).2] else []) ++ m.map Prod.snd := by
      rw [hlm, List.map_append, ← hlm]
      cases (finOf l).1 <;> rfl
    rw [← hv] at hL2
    exact hL2.uniq (leastV_least hn)
/-! the document's way -/
def goS {α β : Type} (F : α → List β → α) : α → List β → α
  | x, [] => x
  | x, e :: l => goS F (F x (e :: l)) l
theorem goS_range {α β : Type} (F : α → List β → α) (l : List β) (x : α) : (List.range l.length).foldl (fun x i => F x (l.drop i)) x = goS F x l := by
  induction l generalizing x with
  | nil => rfl
  | cons e l ih =>
    rw [List.length_cons, List.range_succ_eq_map, List.foldl_cons, List.foldl_map, goS]
    exact ih _
theorem goS_append {α β : Type} (F : α → List β → α) (a b : List β) (x : α) : goS F x (a ++ b) = goS F (goS (fun y s => F y (s ++ b)) x a) b := by
  induction a generalizing x with
  | nil => rfl
  | cons e a ih => simp only [List.cons_append, goS, ih]
theorem goS_id {α β : Type} (F : α → List β → α) (a : List β) (x : α) (h : ∀ e ∈ a, ∀ s, F x (e :: s) = x) : goS F x a = x := by
  induction a with
  | nil => rfl
  | cons e a ih => rw [goS, h e (List.mem_cons_self ..)]; exact ih fun e' he' => h e' (List.mem_cons_of_mem _ he')
def lessA (n : Nat) (a : Arc) : Arc := ⟨a.byte, a.out - n, a.to⟩
/-- the step of the document's loop, by what is left of the list -/
def refF (f depth le : Nat) (x : List State × List Arc) (s : List Wv) : List State × List Arc :=
  match (s.headD ([], 0)).1[depth]? with
  | none => x
  | some b => if (x.2.getLast?.map Arc.byte) = some b then x else
    let own := s.filter fun e => decide (e.1[depth]? = some b)
    let n := leastV own
    let r := refS f x.1 own (depth + 1) n
    (r.1, x.2 ++ [⟨b, n - le, (r.2 : Int)⟩])
theorem refF_at {f depth le : Nat} {x : List State × List Arc} {s : List Wv} {b : Nat} (h : (s.headD ([], 0)).1[depth]? = some b) : refF f depth le x s = if (x.2.getLast?.map Arc.byte) = some b then x else
    ((refS f x.1 (s.filter fun e => decide (e.1[depth]? = some b)) (depth + 1) (leastV (s.filter fun e => decide (e.1[depth]? = some b)))).1,
      x.2 ++ [⟨b, leastV (s.filter fun e => decide (e.1[depth]? = some b)) - le, ((refS f x.1 (s.filter fun e => decide (e.1[depth]? = some b)) (depth + 1) (leastV (s.filter fun e => decide (e.1[depth]? = some b)))).2 : Int)⟩]) := by
  unfold refF
  rw [h]
theorem refS_succ (f : Nat) (ss : List State) (l : List Wv) (depth le : Nat) :
    refS (f + 1) ss l depth le = finish (goS (refF f depth le) (ss, []) l).1 ⟨(l.foldl (fun (y : Bool × Nat) e => if e.1.length = depth then (true, e.2 - le) else y) (false, 0)).1,
      (l.foldl (fun (y : Bool × Nat) e => if e.1.length = depth then (true, e.2 - le) else y) (false, 0)).2, (goS (refF f depth le) (ss, []) l).2⟩ := by
  have h : ∀ x : List State × List Arc, (List.range l.length).foldl (fun (x : List State × List Arc) i =>
      match (l.getD i ([], 0)).1[depth]? with
      | none => x
      | some b => if (x.2.getLast?.map Arc.byte) = some b then x else
        let own := (l.drop i).filter fun e => decide (e.1[depth]? = some b)
        let n := leastV own
        let r := refS f x.1 own (depth + 1) n
        (r.1, x.2 ++ [⟨b, n - le, (r.2 : Int)⟩])) x = goS (refF f depth le) x l := fun x => by
    rw [← goS_range]
    congr 1
    funext x i
    unfold refF
    rw [List.headD_eq_head?_getD, List.head?_drop, List.getD_eq_getElem?_getD]
  exact congrArg (fun (x : List State × List Arc) => finish x.1 ⟨(l.foldl (fun (y : Bool × Nat) e => if e.1.length = depth then (true, e.2 - le) else y) (false, 0)).1,
      (l.foldl (fun (y : Bool × Nat) e => if e.1.length = depth then (true, e.2 - le) else y) (false, 0)).2, x.2⟩) (h (ss, []))
theorem at_pre (p : List Nat) (e : Wv) : (pre p e).1[p.length]? = e.1.head? := by
  simp only [pre]
  rw [List.getElem?_append_right (Nat.le_refl _), Nat.sub_self, List.head?_eq_getElem?]
section
variable {f : Nat} (IH : ∀ (l : List Wv) (ss : List State) (p : List Nat) (le : Nat), AllLt f l → l ≠ [] → Rise l → refS f ss (l.map (pre p)) p.length le = finish (N f ss l).1 (less (N f ss l).2 le))
include IH
theorem ref_groups : ∀ (gs : List (Nat × List Wv)) (ss : List State) (as : List Arc) (p : List Nat) (le : Nat), (∀ x ∈ gs, x.2 ≠ [] ∧ Rise x.2 ∧ AllLt f x.2) → (gs.Pairwise fun a b => a.1 < b.1) →
    (∀ a b, as.getLast? = some a → b ∈ gs → a.byte < b.1) →
    goS (refF f p.length le) (ss, as.map (lessA le)) ((flat gs).map (pre p)) = ((arcsN (N f) ss as gs).1, (arcsN (N f) ss as gs).2.map (lessA le))
  | [], ss, as, p, le, hg, hri, hb => rfl
  | (b, g) :: gs, ss, as, p, le, hg, hri, hb => by
    obtain ⟨hg0, hg1, hg2⟩ := hg (b, g) (List.mem_cons_self ..)
    obtain ⟨e, g', rfl⟩ : ∃ e g', g = e :: g' := List.exists_cons_of_ne_nil hg0
    have hri2 := List.pairwise_cons.1 hri
    have hfl : (flat ((b, e :: g') :: gs)).map (pre p) = pre (p ++ [b]) e :: (g'.map (pre (p ++ [b])) ++ (flat gs).map (pre p)) := by
      simp [flat, pre, List.map_append, List.map_map, Function.comp_def]
    have hat : ∀ y : Wv, (pre (p ++ [b]) y).1[p.length]? = some b := fun y => by
      have := at_pre p (pre [b] y)
      simp [pre] at this ⊢
    have hstep : refF f p.length le ((ss, as.map (lessA le)) : List State × List Arc) ((flat ((b, e :: g') :: gs)).map (pre p)) =
        ((finish (N f ss (e :: g')).1 (less (N f ss (e :: g')).2 (leastOf (N f ss (e :: g')).2))).1,
          (as ++ [(⟨b, leastOf (N f ss (e :: g')).2, ((finish (N f ss (e :: g')).1 (less (N f ss (e :: g')).2 (leastOf (N f ss (e :: g')).2))).2 : Int)⟩ : Arc)]).map (lessA le)) := by
      have hown : ((flat ((b, e :: g') :: gs)).map (pre p)).filter (fun y => decide (y.1[p.length]? = some b)) = (e :: g').map (pre (p ++ [b])) := by
        rw [hfl, ← List.cons_append, ← List.map_cons (f := pre (p ++ [b])), List.filter_append]
        have h1 : ((e :: g').map (pre (p ++ [b]))).filter (fun y => decide (y.1[p.length]? = some b)) = (e :: g').map (pre (p ++ [b])) := by
          rw [List.filter_eq_self]
          intro y hy
          obtain ⟨z, hz, rfl⟩ := List.mem_map.1 hy
          simp [hat z]
        have h2 : ((flat gs).map (pre p)).filter (fun y => decide (y.1[p.length]? = some b)) = [] := by
          rw [List.filter_eq_nil_iff]
          intro y hy
          obtain ⟨z, hz, rfl⟩ := List.mem_map.1 hy
          unfold flat at hz
          obtain ⟨x, hx, hzx⟩ := List.mem_flatMap.1 hz
          obtain ⟨u, hu, rfl⟩ := List.mem_map.1 hzx
          rw [at_pre]
          have := hri2.1 x hx
          simp only at this
          simp [pre]
          omega
        rw [h1, h2, List.append_nil]
      rw [refF_at (b := b) (by rw [hfl]; exact hat e), hown]
      rw [if_neg]
      · have hlv : leastV ((e :: g').map (pre (p ++ [b]))) = leastV (e :: g') := by
          simp only [List.map_cons, leastV]
          rw [List.foldl_map]
          rfl
        have ih := IH (e :: g') ss (p ++ [b]) (leastV (e :: g')) hg2 hg0 hg1
        rw [show (p ++ [b]).length = p.length + 1 by simp] at ih
        rw [hlv, ih, least_N f (e :: g') ss hg2 hg0 hg1]
        simp [lessA]
      · rw [List.getLast?_map]
        intro h
        cases hl : as.getLast? with
        | none => simp [hl] at h
        | some a =>
          have := hb a (b, e :: g') hl (List.mem_cons_self ..)
          simp [hl, lessA] at h
          simp only at this
          omega
    rw [hfl] at hstep ⊢
    rw [goS, hstep, goS_append]
    rw [goS_id (fun y s => refF f p.length le y (s ++ (flat gs).map (pre p))) (g'.map (pre (p ++ [b])))]
    · refine ref_groups gs _ _ p le (fun x hx => hg x (List.mem_cons_of_mem _ hx)) hri2.2 (fun a x ha hx => ?_)
      rw [List.getLast?_concat] at ha
      injection ha with ha
      rw [← ha]
      exact hri2.1 x hx
    · intro y hy s
      obtain ⟨z, hz, rfl⟩ := List.mem_map.1 hy
      rw [refF_at (b := b) (by exact hat z), if_pos (by simp [lessA])]
end
theorem foldl_fin (m : List Wv) (d le : Nat) (h : ∀ e ∈ m, e.1.length ≠ d) (y : Bool × Nat) : m.foldl (fun (y : Bool × Nat) e => if e.1.length = d then (true, e.2 - le) else y) y = y := by
  induction m with
  | nil => rfl
  | cons e m ih => rw [List.foldl_cons, if_neg (h e (List.mem_cons_self ..))]; exact ih fun x hx => h x (List.mem_cons_of_mem _ hx)
theorem ref_N : ∀ (f : Nat) (l : List Wv) (ss : List State) (p : List Nat) (le : Nat), AllLt f l → l ≠ [] → Rise l → refS f ss (l.map (pre p)) p.length le = finish (N f ss l).1 (less (N f ss l).2 le)
  | 0, [], ss, p, le, hl, hn, hr => absurd rfl hn
  | 0, e :: l, ss, p, le, hl, hn, hr => absurd (hl e (List.mem_cons_self ..)) (by omega)
  | f + 1, l, ss, p, le, hl, hn, hr => by
    obtain ⟨m, hlm, hgm, hG, hf0, hne, hgn⟩ := parts hr
    have hmem : ∀ e ∈ m, e ∈ l := fun e he => by rw [hlm]; exact List.mem_append_right _ he
    have hAll := hl.group hmem hG
    have hg := ref_groups (ref_N f) (groups m) ss [] p le (fun x hx => ⟨(hG.some_ x hx).1, (hG.some_ x hx).2, hAll x hx⟩) hG.rise (by simp)
    rw [← hG.flat] at hg
    have hdm : ∀ e ∈ m.map (pre p), e.1.length ≠ p.length := fun e he => by
      obtain ⟨x, hx, rfl⟩ := List.mem_map.1 he
      have := hne x hx
      simp [pre, this]
    rw [refS_succ]
    have hx : goS (refF f p.length le) (ss, []) (l.map (pre p)) = ((arcsN (N f) ss [] (groups m)).1, (arcsN (N f) ss [] (groups m)).2.map (lessA le)) := by
      rw [hlm]
      cases (finOf l).1 with
      | false => exact hg
      | true =>
        show goS (refF f p.length le) (refF f p.length le (ss, []) _) (m.map (pre p)) = _
        have : refF f p.length le (ss, []) (pre p ([], (finOf l).2) :: m.map (pre p)) = (ss, []) := by
          unfold refF
          simp only [List.headD_cons, at_pre]
          rfl
        exact (congrArg (fun x => goS (refF f p.length le) x (m.map (pre p))) this).trans hg
    have hfo : (l.map (pre p)).foldl (fun (y : Bool × Nat) e => if e.1.length = p.length then (true, e.2 - le) else y) (false, 0) = ((finOf l).1, if (finOf l).1 then (finOf l).2 - le else (finOf l).2) := by
      have := hf0
      generalize hfl : finOf l = fl at *
      obtain ⟨fin, v⟩ := fl
      rw [hlm]
      cases fin with
      | false =>
        simp only [Bool.false_eq_true, if_false, List.nil_append]
        rw [foldl_fin _ _ _ hdm]
        rw [show v = 0 from this rfl]
      | true =>
        simp only [if_true, List.singleton_append, List.map_cons, List.foldl_cons]
        rw [if_pos (by simp [pre]), foldl_fin _ _ _ hdm]
        rfl
    rw [hx, hfo]
    simp only [N, hgm]
    congr 1
theorem build_ref {l : List Wv} (hl : AllLt 256 l) (hr : Rise l) : build l = refBuild l := by
  cases l with
  | nil => rfl
  | cons e l =>
    have hp : (e :: l).map (pre []) = e :: l := (List.map_congr_left fun x _ => by simp [pre]).trans (List.map_id _)
    have hb := adds_N 256 (e :: l) [] [] ⟨zeroS, 0⟩ [] hl (by simp) hr rfl rfl
    rw [hp] at hb
    have hn := least_N 256 (e :: l) [] hl (by simp) hr
    have hf := ref_N 256 (e :: l) [] [] (leastV (e :: l)) hl (by simp) hr
    rw [hp] at hf
    unfold build refBuild
    have h0 : ([] : List Nat).length = 0 := rfl
    rw [h0] at hb hf
    simp only [hb, hf, List.headD_cons, hn]
end Dw
end Go.Proofs.YtgjfhedgdbbinaaDoor

/- Dawg: the document's word on what is right, in plain terms, and that it is the code's. -/
namespace Go.Proofs.YtgjfhedgdbbinaaDoor
set_option linter.unusedSimpArgs false
set_option linter.unusedVariables false
namespace Dw
/-- the states in the order in which they are left at last: so deep at most -/
def endsL (ss : List State) : Nat → Nat → List Nat → List Nat
  | 0, _, out => out
  | f + 1, s, out => if s ∈ out then out else (arcsOf ss s).foldl (fun o a => endsL ss f a.to.toNat o) out ++ [s]
def zeroOf (s : State) : Bool := (s.final && decide (s.out = 0)) || s.arcs.any fun a => decide (a.out = 0)
def refGood (ss : List State) (order : List Nat) (i : Nat) (s : State) : Bool := decide (order[i]? = some i) && !(!s.final && decide (s.arcs.length = 0)) && zeroOf s && decide (s ∉ ss.take i)
def refAll (ss : List State) (order : List Nat) : Nat → List State → Bool
  | _, [] => true
  | i, s :: l => refGood ss order i s && refAll ss order (i + 1) l
theorem refAll_step {ss : List State} {order : List Nat} {i : Nat} {s : State} (h : ss[i]? = some s) : refAll ss order i (ss.drop i) = (refGood ss order i s && refAll ss order (i + 1) (ss.drop (i + 1))) := by rw [drop_get h]; rfl
def refRight (ss : List State) (init : Nat) : Bool :=
  formedF ss && (match ss.getLast? with
    | none => false
    | some root => if !root.final && decide (root.arcs.length = 0) then decide (ss.length = 1) && decide (init = 0)
      else decide ((endsL ss ss.length (ss.length - 1) []).length = ss.length) && refAll ss (endsL ss ss.length (ss.length - 1) []) 0 ss)
/-! the order -/
theorem fold_congr {α β : Type} {f g : α → β → α} : ∀ (l : List β) (x : α), (∀ b ∈ l, ∀ y, f y b = g y b) → l.foldl f x = l.foldl g x
  | [], _, _ => rfl
  | b :: l, x, h => by
    simp only [List.foldl_cons]
    rw [h b (List.mem_cons_self ..)]
    exact fold_congr l _ (fun c hc => h c (List.mem_cons_of_mem _ hc))
theorem endsL_fuel {ss : List State} (hA : Ahead ss) : ∀ (s f f' : Nat), s < f → s < f' → ∀ out, endsL ss f s out = endsL ss f' s out := by
  intro s
  induction s using Nat.strongRecOn with
  | _ s ih =>
    intro f f' h h' out
    obtain ⟨g, rfl⟩ : ∃ g, f = g + 1 := ⟨f - 1, by omega⟩
    obtain ⟨g', rfl⟩ : ∃ g', f' = g' + 1 := ⟨f' - 1, by omega⟩
    simp only [endsL]
    rw [fold_congr (arcsOf ss s) out (fun a ha y => by
      have := hA s a ha
      exact ih a.to.toNat (by omega) g g' (by omega) (by omega) y)]
def BadO (out : List Nat) : Prop := ∃ i x : Nat, out[i]? = some x ∧ x ≠ i
theorem BadO.more {a b : List Nat} (h : BadO a) (hp : a <+: b) : BadO b := by
  obtain ⟨i, x, h1, h2⟩ := h
  obtain ⟨c, rfl⟩ := hp
  exact ⟨i, x, by rw [List.getElem?_append_left (List.getElem?_eq_some_iff.1 h1).1]; exact h1, h2⟩
theorem fold_pre {β : Type} (f : List Nat → β → List Nat) (hf : ∀ o b, o <+: f o b) : ∀ (l : List β) (o : List Nat), o <+: l.foldl f o
  | [], o => List.prefix_refl o
  | b :: l, o => (hf o b).trans (fold_pre f hf l _)
theorem endsL_pre (ss : List State) : ∀ (f s : Nat) (out : List Nat), out <+: endsL ss f s out
  | 0, _, out => List.prefix_refl out
  | f + 1, s, out => by
    simp only [endsL]
    split
    · exact List.prefix_refl out
    · exact (fold_pre _ (fun o (a : Arc) => endsL_pre ss f a.to.toNat o) _ out).trans (List.prefix_append _ _)
theorem endsL_known {ss : List State} {f s : Nat} {out : List Nat} (h : s ∈ out) : endsL ss f s out = out := by
  cases f with
  | zero => rfl
  | succ f => simp only [endsL]; rw [if_pos h]
theorem arcs_ends {ss : List State} {f : Nat} (ih : ∀ (s left : Nat), left ≤ s → (∀ l, wlk f ss s left = some l → endsL ss f s (List.range left) = List.range l ∧ left ≤ l) ∧ (wlk f ss s left = none → f ≤ s ∨ BadO (endsL ss f s (List.range left)))) (b : Nat) (hb : b ≤ f) :
    ∀ (l : List Arc) (left : Nat), (∀ a ∈ l, 0 ≤ a.to ∧ a.to < (b : Int)) → (∀ x, wArcs (wlk f ss) l left = some x → l.foldl (fun o a => endsL ss f a.to.toNat o) (List.range left) = List.range x ∧ left ≤ x) ∧ (wArcs (wlk f ss) l left = none → BadO (l.foldl (fun o a => endsL ss f a.to.toNat o) (List.range left)))
  | [], left, _ => ⟨fun x hx => by simp only [wArcs, Option.some.injEq] at hx; subst hx; exact ⟨rfl, Nat.le_refl _⟩, fun hx => by simp [wArcs] at hx⟩
  | a :: l, left, h => by
    have ha := h a (List.mem_cons_self ..)
    have hl := fun x (hx : x ∈ l) => h x (List.mem_cons_of_mem _ hx)
    simp only [wArcs, List.foldl_cons]
    by_cases hto : (left : Int) ≤ a.to
    · rw [if_pos hto]
      obtain ⟨i1, i2⟩ := ih a.to.toNat left (by omega)
      cases hw : wlk f ss a.to.toNat left with
      | none =>
        refine ⟨fun x hx => by simp at hx, fun _ => ?_⟩
        rcases i2 hw with h9 | h9
        · omega
        · exact h9.more (fold_pre _ (fun o a => endsL_pre ss f a.to.toNat o) l _)
      | some y =>
        obtain ⟨j1, j2⟩ := i1 y hw
        obtain ⟨k1, k2⟩ := arcs_ends ih b hb l y hl
        rw [j1]
        exact ⟨fun x hx => ⟨(k1 x hx).1, Nat.le_trans j2 (k1 x hx).2⟩, k2⟩
    · rw [if_neg hto, endsL_known (List.mem_range.2 (by omega))]
      exact arcs_ends ih b hb l left hl
theorem wlk_ends {ss : List State} (hA : Ahead ss) : ∀ (f s left : Nat), left ≤ s → (∀ l, wlk f ss s left = some l → endsL ss f s (List.range left) = List.range l ∧ left ≤ l) ∧ (wlk f ss s left = none → f ≤ s ∨ BadO (endsL ss f s (List.range left)))
  | 0, s, left, _ => ⟨fun l hl => by simp [wlk] at hl, fun _ => .inl (Nat.zero_le _)⟩
  | f + 1, s, left, hs => by
    by_cases hf : f + 1 ≤ s
    · refine ⟨fun l hl => ?_, fun _ => .inl hf⟩
      have key := arcs_ends (wlk_ends hA f)
      -- the depth is never too small where an answer comes
      have hd : ∀ (g t lf r : Nat), wlk g ss t lf = some r → t < g → wlk (t + 1) ss t lf = some r := fun g t lf r h1 h2 => by rw [wlk_fuel hA t (t + 1) g (by omega) h2]; exact h1
      have gen : ∀ (g t lf r : Nat), lf ≤ t → wlk g ss t lf = some r → endsL ss g t (List.range lf) = List.range r ∧ lf ≤ r := by
        intro g
        induction g with
        | zero => intro t lf r _ h; simp [wlk] at h
        | succ g ih =>
          intro t lf r hlt h
          have arcs : ∀ (l : List Arc) (left x : Nat), (∀ a ∈ l, 0 ≤ a.to) → wArcs (wlk g ss) l left = some x → l.foldl (fun o a => endsL ss g a.to.toNat o) (List.range left) = List.range x ∧ left ≤ x := by
            intro l
            induction l with
            | nil => intro left x _ hx; simp only [wArcs, Option.some.injEq] at hx; subst hx; exact ⟨rfl, Nat.le_refl _⟩
            | cons a l ihl =>
              intro left x hpos hx
              have ha := hpos a (List.mem_cons_self ..)
              simp only [wArcs, List.foldl_cons] at hx ⊢
              by_cases hto : (left : Int) ≤ a.to
              · rw [if_pos hto] at hx
                cases hw : wlk g ss a.to.toNat left with
                | none => rw [hw] at hx; simp at hx
                | some y =>
                  rw [hw] at hx
                  obtain ⟨j1, j2⟩ := ih a.to.toNat left y (by omega) hw
                  obtain ⟨k1, k2⟩ := ihl y x (fun b hb => hpos b (List.mem_cons_of_mem _ hb)) hx
                  rw [j1]
                  exact ⟨k1, Nat.le_trans j2 k2⟩
              · rw [if_neg hto] at hx
                rw [endsL_known (List.mem_range.2 (by omega))]
                exact ihl left x (fun b hb => hpos b (List.mem_cons_of_mem _ hb)) hx
          simp only [wlk, leave] at h
          cases hw : wArcs (wlk g ss) (arcsOf ss t) lf with
          | none => rw [hw] at h; simp at h
          | some x =>
            rw [hw] at h
            obtain ⟨k1, k2⟩ := arcs _ _ _ (fun a ha => (hA t a ha).1) hw
            by_cases htx : t = x
            · simp only [htx, if_true, Option.some.injEq] at h
              subst h
              simp only [endsL]
              rw [if_neg (by rw [List.mem_range]; omega), k1, htx, List.range_succ]
              exact ⟨rfl, by omega⟩
            · simp [htx] at h
      exact gen (f + 1) s left l hs hl
    · have key := arcs_ends (wlk_ends hA f) s (by omega) (arcsOf ss s) left (fun a ha => hA s a ha)
      have hnot : s ∉ List.range left := by rw [List.mem_range]; omega
      simp only [wlk, endsL, if_neg hnot]
      cases hw : wArcs (wlk f ss) (arcsOf ss s) left with
      | none => exact ⟨fun l hl => by simp [leave] at hl, fun _ => .inr ((key.2 hw).more (List.prefix_append _ _))⟩
      | some x =>
        obtain ⟨k1, k2⟩ := key.1 x hw
        rw [k1]
        by_cases hsx : s = x
        · refine ⟨fun l hl => ?_, fun h => by simp [leave, hsx] at h⟩
          simp only [leave, hsx, if_true, Option.some.injEq] at hl
          subst hl
          rw [hsx, List.range_succ]
          exact ⟨rfl, by omega⟩
        · refine ⟨fun l hl => by simp [leave, hsx] at hl, fun _ => .inr ⟨x, s, ?_, hsx⟩⟩
          rw [List.getElem?_append_right (by simp)]
          simp
theorem ordered_iff {ss : List State} (hA : Ahead ss) (h0 : 0 < ss.length) : (orderedF ss = true → endsL ss ss.length (ss.length - 1) [] = List.range ss.length) ∧ (orderedF ss = false → BadO (endsL ss ss.length (ss.length - 1) [])) := by
  have hr : resume ss (ss.length - 1) 0 0 = wlk ss.length ss (ss.length - 1) 0 := by
    obtain ⟨n, hn⟩ : ∃ n, ss.length = n + 1 := ⟨ss.length - 1, by omega⟩
    rw [hn]
    rfl
  have h := wlk_ends hA ss.length (ss.length - 1) 0 (Nat.zero_le _)
  have hl : ∀ x, wlk ss.length ss (ss.length - 1) 0 = some x → x = ss.length := fun x hx => by
    obtain ⟨n, hn⟩ : ∃ n, ss.length = n + 1 := ⟨ss.length - 1, by omega⟩
    rw [hn] at hx
    simp only [Nat.add_sub_cancel, wlk, leave] at hx
    cases hw : wArcs (wlk n ss) (arcsOf ss n) 0 with
    | none => rw [hw] at hx; simp at hx
    | some y =>
      rw [hw] at hx
      by_cases hny : n = y
      · simp [hny] at hx; omega
      · simp [hny] at hx
  unfold orderedF
  simp only [contW, hr]
  cases hw : wlk ss.length ss (ss.length - 1) 0 with
  | none =>
    refine ⟨fun h9 => by simp at h9, fun _ => ?_⟩
    rcases h.2 hw with h9 | h9
    · omega
    · exact h9
  | some x =>
    have hx := hl x hw
    refine ⟨fun _ => ?_, fun h9 => by simp [hx] at h9⟩
    have h9 := (h.1 x hw).1
    rw [hx] at h9
    exact h9
/-! the states -/
theorem foldl_min_zero : ∀ (l : List Nat) (x : Nat), l.foldl min x = 0 ↔ x = 0 ∨ ∃ y ∈ l, y = 0
  | [], x => by simp
  | y :: l, x => by
    simp only [List.foldl_cons, foldl_min_zero l, List.mem_cons]
    constructor
    · rintro (h | ⟨z, hz, rfl⟩)
      · rcases Nat.le_total x y with h1 | h1
        · rw [Nat.min_eq_left h1] at h; exact .inl h
        · rw [Nat.min_eq_right h1] at h; exact .inr ⟨y, .inl rfl, h⟩
      · exact .inr ⟨0, .inr hz, rfl⟩
    · rintro (h | ⟨z, hz | hz, rfl⟩)
      · left; omega
      · left; omega
      · exact .inr ⟨0, hz, rfl⟩
theorem zero_least {s : State} (h : s.final = true ∨ s.arcs.length ≠ 0) : zeroOf s = decide (leastOf s = 0) := by
  have hb : ∀ {a b : Bool}, (a = true ↔ b = true) → a = b := fun {a b} h => by cases a <;> cases b <;> simp_all
  refine hb ?_
  rw [decide_eq_true_iff]
  unfold zeroOf leastOf
  simp only [Bool.or_eq_true, Bool.and_eq_true, decide_eq_true_eq, List.any_eq_true]
  cases hf : s.final with
  | true =>
    simp only [if_true, List.singleton_append, foldl_min_zero, true_and, List.mem_map]
    constructor
    · rintro (h | ⟨a, ha, h⟩)
      · exact .inl h
      · exact .inr ⟨0, ⟨a, ha, h⟩, rfl⟩
    · rintro (h | ⟨_, ⟨a, ha, rfl⟩, h⟩)
      · exact .inl h
      · exact .inr ⟨a, ha, h⟩
  | false =>
    cases hl : s.arcs with
    | nil => rw [hf, hl] at h; simp at h
    | cons a l =>
      simp only [Bool.false_eq_true, if_false, List.map_cons, List.nil_append, foldl_min_zero, false_and, false_or, List.mem_cons, List.mem_map]
      constructor
      · rintro ⟨b, rfl | hb, h⟩
        · exact .inl h
        · exact .inr ⟨0, ⟨b, hb, h⟩, rfl⟩
      · rintro (h | ⟨_, ⟨b, hb, rfl⟩, h⟩)
        · exact ⟨a, .inl rfl, h⟩
        · exact ⟨b, .inr hb, h⟩
theorem good_ref {ss : List State} {order : List Nat} {i : Nat} {s : State} (h : order[i]? = some i) : refGood ss order i s = goodS ss i s := by
  unfold refGood goodS
  rw [decide_eq_true h, Bool.true_and]
  by_cases he : s.final = true ∨ s.arcs.length ≠ 0
  · rw [zero_least he]
  · have h1 : s.final = false := by cases hf : s.final with | true => exact absurd (.inl hf) he | false => rfl
    have h2 : s.arcs.length = 0 := by rcases Nat.eq_zero_or_pos s.arcs.length with h3 | h3; exact h3; exact absurd (.inr (by omega)) he
    rw [h1, decide_eq_true h2]
    rfl
theorem all_ref {ss : List State} {order : List Nat} : ∀ (l : List State) (i : Nat), (∀ j, i ≤ j → j < i + l.length → order[j]? = some j) → refAll ss order i l = allGood ss i l
  | [], _, _ => rfl
  | s :: l, i, h => by
    simp only [refAll, allGood]
    rw [good_ref (h i (Nat.le_refl _) (by simp)), all_ref l (i + 1) (fun j h1 h2 => h j (by omega) (by simp only [List.length_cons]; omega))]
theorem all_bad {ss : List State} {order : List Nat} : ∀ (l : List State) (i k : Nat), i ≤ k → k < i + l.length → order[k]? ≠ some k → refAll ss order i l = false
  | [], i, k, h1, h2, _ => by simp at h2; omega
  | s :: l, i, k, h1, h2, h3 => by
    simp only [refAll]
    rcases Nat.eq_or_lt_of_le h1 with h4 | h4
    · subst h4
      unfold refGood
      rw [decide_eq_false h3]
      rfl
    · rw [all_bad l (i + 1) k (by omega) (by simp only [List.length_cons] at h2; omega) h3, Bool.and_false]
theorem formed_ahead0 : ∀ (l : List Arc) (i : Nat) (last : Int), okArcs i last l = true → ∀ a ∈ l, 0 ≤ a.to ∧ a.to < (i : Int)
  | [], _, _, _ => by simp
  | a :: l, i, last, h => by
    simp only [okArcs, Bool.and_eq_true, decide_eq_true_eq] at h
    intro x hx
    rcases List.mem_cons.1 hx with rfl | hx
    · exact ⟨h.1.1.1, h.1.1.2⟩
    · exact formed_ahead0 l i _ h.2 x hx
theorem formedL_at0 : ∀ (l : List State) (i : Nat), formedL i l = true → ∀ (j : Nat) (s : State), l[j]? = some s → okArcs (i + j) (-1) s.arcs = true
  | [], _, _, j, s, hj => by simp at hj
  | x :: l, i, h, j, s, hj => by
    simp only [formedL, Bool.and_eq_true] at h
    cases j with
    | zero => injection hj with hj; subst hj; exact h.1.2
    | succ j => rw [show i + (j + 1) = (i + 1) + j by omega]; exact formedL_at0 l (i + 1) h.2 j s hj
theorem formed_Ahead {ss : List State} (h : formedF ss = true) : Ahead ss ∧ 0 < ss.length := by
  unfold formedF at h
  rw [Bool.and_eq_true] at h
  refine ⟨fun s a ha => ?_, of_decide_eq_true h.2⟩
  unfold arcsOf at ha
  cases hs : ss[s]? with
  | none => rw [hs] at ha; simp at ha
  | some st =>
    rw [hs] at ha
    have := formedL_at0 ss 0 h.1 s st hs
    rw [Nat.zero_add] at this
    exact formed_ahead0 _ _ _ this a (by simpa using ha)
theorem right_ref (ss : List State) (init : Nat) : rightF ss init = refRight ss init := by
  unfold rightF refRight
  cases hfm : formedF ss with
  | false => rfl
  | true =>
    obtain ⟨hA, h0⟩ := formed_Ahead hfm
    simp only [Bool.true_and]
    cases hr : ss.getLast? with
    | none => rfl
    | some root =>
      simp only
      split
      · rfl
      · obtain ⟨o1, o2⟩ := ordered_iff hA h0
        cases ho : orderedF ss with
        | true =>
          rw [o1 ho, List.length_range, decide_eq_true rfl, Bool.true_and, Bool.true_and]
          exact (all_ref ss 0 (fun j _ hj => by rw [List.getElem?_range (by omega)])).symm
        | false =>
          rw [Bool.false_and]
          obtain ⟨i, x, h1, h2⟩ := o2 ho
          by_cases hlen : (endsL ss ss.length (ss.length - 1) []).length = ss.length
          · rw [all_bad ss 0 i (Nat.zero_le _) (by have := (List.getElem?_eq_some_iff.1 h1).1; omega) (by rw [h1]; intro e; injection e with e; exact h2 e), Bool.and_false]
          · rw [decide_eq_false hlen, Bool.false_and]
end Dw
end Go.Proofs.YtgjfhedgdbbinaaDoor

/- Dawg: what is built is right: the states are told apart, pushed, and stand in the order of the walk. -/
namespace Go.Proofs.YtgjfhedgdbbinaaDoor
set_option linter.unusedSimpArgs false
set_option linter.unusedVariables false
set_option linter.unnecessarySimpa false
namespace Dw
theorem finish_in {ss : List State} {s : State} (h : s ∈ ss) : ∃ i, ss[i]? = some s ∧ i < ss.length ∧ finish ss s = (ss, i) := by
  unfold finish
  cases hf : ss.findIdx? (· = s) with
  | none =>
    rw [List.findIdx?_eq_none_iff] at hf
    have := hf s h
    simp at this
  | some i =>
    obtain ⟨h1, h2, _⟩ := List.findIdx?_eq_some_iff_getElem.1 hf
    have h2 : ss[i] = s := by simpa using h2
    exact ⟨i, by rw [List.getElem?_eq_getElem h1, h2], h1, rfl⟩
theorem finish_out {ss : List State} {s : State} (h : s ∉ ss) : finish ss s = (ss ++ [s], ss.length) := by
  unfold finish
  have : ss.findIdx? (· = s) = none := by
    rw [List.findIdx?_eq_none_iff]
    intro x hx
    simp only [decide_eq_false_iff_not]
    rintro rfl
    exact h hx
  rw [this]
/-- a state as it is made: at its place -/
structure Good (i : Nat) (s : State) : Prop where
  arcs : okArcs i (-1) s.arcs = true
  out : s.final = false → s.out = 0
  some_ : s.final = true ∨ s.arcs ≠ []
  zero : leastOf s = 0
structure Inv (ss : List State) : Prop where
  nodup : ss.Nodup
  good : ∀ (i : Nat) (s : State), ss[i]? = some s → Good i s
/-- the number of a list's state -/
def K (f : Nat) (ss : List State) (l : List Wv) : List State × Nat := finish (N f ss l).1 (less (N f ss l).2 (leastOf (N f ss l).2))
structure KOk (ss ss' : List State) (k : Nat) : Prop where
  pre : ss <+: ss'
  lt : k < ss'.length
  old : k < ss.length → ss' = ss
  new : ss.length ≤ k → ss'.length = k + 1
  walk : ss.length ≤ k → ∀ SS, ss' <+: SS → Ahead SS → ∀ f, k < f → wlk f SS k ss.length = some ss'.length
theorem wArcs_to {r : Nat → Nat → Option Nat} (g : Arc → Arc) (hg : ∀ a, (g a).to = a.to) : ∀ (l : List Arc) (left : Nat), wArcs r (l.map g) left = wArcs r l left
  | [], _ => rfl
  | a :: l, left => by
    simp only [List.map_cons, wArcs, hg]
    split
    · split
      · rfl
      · exact wArcs_to g hg l _
    · exact wArcs_to g hg l _
theorem wArcs_append {r : Nat → Nat → Option Nat} : ∀ (a b : List Arc) (left x : Nat), wArcs r a left = some x → wArcs r (a ++ b) left = wArcs r b x
  | [], b, left, x, h => by simp only [wArcs, Option.some.injEq] at h; subst h; rfl
  | c :: a, b, left, x, h => by
    simp only [List.cons_append, wArcs] at h ⊢
    split
    · rename_i hle
      rw [if_pos hle] at h
      cases hr : r c.to.toNat left with
      | none => rw [hr] at h; simp at h
      | some y => rw [hr] at h; exact wArcs_append a b y x h
    · rename_i hle
      rw [if_neg hle] at h
      exact wArcs_append a b left x h
theorem okArcs_mono {i j : Nat} (hij : i ≤ j) : ∀ (l : List Arc) (last : Int), okArcs i last l = true → okArcs j last l = true
  | [], _, _ => rfl
  | a :: l, last, h => by
    simp only [okArcs, Bool.and_eq_true, decide_eq_true_eq] at h ⊢
    exact ⟨⟨⟨h.1.1.1, by omega⟩, h.1.2⟩, okArcs_mono hij l _ h.2⟩
theorem okArcs_map {i : Nat} (g : Arc → Arc) (hg : ∀ a, (g a).to = a.to) (hb : ∀ a, (g a).byte = a.byte) : ∀ (l : List Arc) (last : Int), okArcs i last (l.map g) = okArcs i last l
  | [], _ => rfl
  | a :: l, last => by simp only [List.map_cons, okArcs, hg, hb, okArcs_map g hg hb l]
theorem okArcs_snoc {i : Nat} (a : Arc) (h1 : 0 ≤ a.to) (h2 : a.to < (i : Int)) : ∀ (l : List Arc) (last : Int), okArcs i last l = true → last < (a.byte : Int) → (∀ b ∈ l, b.byte < a.byte) → okArcs i last (l ++ [a]) = true
  | [], last, _, hl, _ => by simp [okArcs, h1, h2, hl]
  | b :: l, last, h, hl, hb => by
    simp only [List.cons_append, okArcs, Bool.and_eq_true, decide_eq_true_eq] at h ⊢
    refine ⟨h.1, okArcs_snoc a h1 h2 l _ h.2 ?_ (fun c hc => hb c (List.mem_cons_of_mem _ hc))⟩
    have := hb b (List.mem_cons_self ..)
    omega
theorem less_arcs (s : State) (n : Nat) : (less s n).arcs = s.arcs.map fun a => ⟨a.byte, a.out - n, a.to⟩ := rfl
theorem outs_less (s : State) (n : Nat) : outsOf (less s n) = (outsOf s).map (· - n) := by
  unfold outsOf less
  cases s.final <;> simp [Function.comp_def]
theorem least_pushed {s : State} (h : outsOf s ≠ []) : leastOf (less s (leastOf s)) = 0 := by
  have h2 : outsOf (less s (leastOf s)) ≠ [] := by rw [outs_less]; simpa using h
  have h3 := leastOf_least h2
  have h4 := leastOf_least h
  have h5 := h3.2 0 (by rw [outs_less, List.mem_map]; exact ⟨_, h4.1, Nat.sub_self _⟩)
  omega
theorem Inv.nil_ : Inv [] := ⟨List.nodup_nil, fun i s h => by simp at h⟩
theorem Inv.formed {ss : List State} (h : Inv ss) (h0 : 0 < ss.length) : formedF ss = true := by
  have key : ∀ (l : List State) (i : Nat), (∀ (j : Nat) (s : State), l[j]? = some s → Good (i + j) s) → formedL i l = true := by
    intro l
    induction l with
    | nil => intro i _; rfl
    | cons s l ih =>
      intro i hg
      have hs := hg 0 s rfl
      simp only [formedL, Bool.and_eq_true, Bool.or_eq_true, decide_eq_true_eq]
      refine ⟨⟨?_, hs.arcs⟩, ih (i + 1) (fun j t ht => by have := hg (j + 1) t (by simpa using ht); rwa [show i + (j + 1) = i + 1 + j by omega] at this)⟩
      cases hf : s.final with
      | true => exact .inl rfl
      | false => exact .inr (hs.out hf)
  unfold formedF
  rw [key ss 0 (fun j s hs => by rw [Nat.zero_add]; exact h.good j s hs), decide_eq_true h0]
  rfl
theorem Inv.all {ss : List State} (h : Inv ss) : allGood ss 0 ss = true := by
  have key : ∀ (n i : Nat), i + n = ss.length → allGood ss i (ss.drop i) = true := by
    intro n
    induction n with
    | zero => intro i hi; rw [List.drop_eq_nil_of_le (by omega)]; rfl
    | succ n ih =>
      intro i hi
      obtain ⟨s, hs⟩ : ∃ s, ss[i]? = some s := ⟨_, List.getElem?_eq_getElem (by omega)⟩
      rw [allGood_step hs, ih (i + 1) (by omega), Bool.and_true]
      have hg := h.good i s hs
      unfold goodS
      have hnot : s ∉ ss.take i := fun hm => by
        obtain ⟨j, hj⟩ := List.mem_iff_getElem?.1 hm
        have hlt : j < i := by have := (List.getElem?_eq_some_iff.1 hj).1; simp at this; omega
        have hj2 : ss[j]? = some s := by rw [List.getElem?_take] at hj; rwa [if_pos hlt] at hj
        have := (List.getElem?_inj (i := j) (j := i) (by have := (List.getElem?_eq_some_iff.1 hj2).1; omega) h.nodup).1 (hj2.trans hs.symm)
        omega
      rw [decide_eq_true hg.zero, decide_eq_true hnot]
      rcases hg.some_ with h1 | h1
      · rw [h1]; rfl
      · have : s.arcs.length ≠ 0 := fun e => h1 (List.eq_nil_of_length_eq_zero e)
        rw [decide_eq_false this]; cases s.final <;> rfl
  exact key ss.length 0 (by omega)
theorem arcsOf_pre {ss SS : List State} (h : ss <+: SS) {k : Nat} {s : State} (hk : ss[k]? = some s) : arcsOf SS k = s.arcs := by
  obtain ⟨r, rfl⟩ := h
  unfold arcsOf
  rw [List.getElem?_append_left (List.getElem?_eq_some_iff.1 hk).1, hk]
  rfl
/-- the arcs that are made of groups -/
structure AOk (ss ss' : List State) (news : List Arc) : Prop where
  pre : ss <+: ss'
  inv : Inv ss'
  to : ∀ a ∈ news, 0 ≤ a.to ∧ a.to < (ss'.length : Int)
  last : ss' ≠ ss → ∃ a ∈ news, a.to = (ss'.length : Int) - 1
  walk : ∀ SS, ss' <+: SS → Ahead SS → ∀ f, ss'.length ≤ f → wArcs (wlk f SS) news ss.length = some ss'.length
theorem arcs_ok (f : Nat) (ih : ∀ (l : List Wv) (ss : List State), AllLt f l → l ≠ [] → Rise l → Inv ss → Inv (K f ss l).1 ∧ KOk ss (K f ss l).1 (K f ss l).2) :
    ∀ (gs : List (Nat × List Wv)) (ss : List State) (as : List Arc), (∀ x ∈ gs, x.2 ≠ [] ∧ Rise x.2 ∧ AllLt f x.2) → Inv ss → ∃ news, (arcsN (N f) ss as gs).2 = as ++ news ∧ news.map Arc.byte = gs.map Prod.fst ∧ AOk ss (arcsN (N f) ss as gs).1 news
  | [], ss, as, _, hi => ⟨[], by simp [arcsN], rfl, ⟨List.prefix_refl _, hi, by simp, fun h => absurd rfl h, fun SS _ _ f' _ => rfl⟩⟩
  | (b, g) :: gs, ss, as, hg, hi => by
    obtain ⟨g1, g2, g3⟩ := hg (b, g) (List.mem_cons_self ..)
    obtain ⟨i1, hk⟩ := ih g ss g3 g1 g2 hi
    obtain ⟨news, e1, e2, hA⟩ := arcs_ok f ih gs (K f ss g).1 (as ++ [⟨b, leastOf (N f ss g).2, ((K f ss g).2 : Int)⟩]) (fun x hx => hg x (List.mem_cons_of_mem _ hx)) i1
    refine ⟨⟨b, leastOf (N f ss g).2, ((K f ss g).2 : Int)⟩ :: news, ?_, ?_, ?_⟩
    · have h9 : (arcsN (N f) ss as ((b, g) :: gs)).2 = (arcsN (N f) (K f ss g).1 (as ++ [⟨b, leastOf (N f ss g).2, ((K f ss g).2 : Int)⟩]) gs).2 := rfl
      rw [h9, e1]; simp
    · simp [e2]
    · have h9 : (arcsN (N f) ss as ((b, g) :: gs)).1 = (arcsN (N f) (K f ss g).1 (as ++ [⟨b, leastOf (N f ss g).2, ((K f ss g).2 : Int)⟩]) gs).1 := rfl
      rw [h9]
      obtain ⟨ss', hss'⟩ : ∃ x, (arcsN (N f) (K f ss g).1 (as ++ [⟨b, leastOf (N f ss g).2, ((K f ss g).2 : Int)⟩]) gs).1 = x := ⟨_, rfl⟩
      rw [hss'] at hA ⊢
      have hle := hA.pre.length_le
      refine ⟨hk.pre.trans hA.pre, hA.inv, fun a ha => ?_, fun hne => ?_, fun SS hS hAh f' hf' => ?_⟩
      · rcases List.mem_cons.1 ha with rfl | ha
        · have := hk.lt
          exact ⟨by simp only; omega, by simp only; omega⟩
        · exact hA.to a ha
      · by_cases h1 : ss' = (K f ss g).1
        · refine ⟨_, List.mem_cons_self .., ?_⟩
          have h2 : ss.length ≤ (K f ss g).2 := by
            rcases Nat.lt_or_ge (K f ss g).2 ss.length with h3 | h3
            · exact absurd (h1.trans (hk.old h3)) hne
            · exact h3
          have := hk.new h2
          rw [h1]
          simp only
          omega
        · obtain ⟨a, ha, he⟩ := hA.last h1
          exact ⟨a, List.mem_cons_of_mem _ ha, he⟩
      · simp only [wArcs]
        have hw := hA.walk SS hS hAh f' hf'
        by_cases hto : (ss.length : Int) ≤ ((K f ss g).2 : Int)
        · rw [if_pos hto]
          have h2 : ss.length ≤ (K f ss g).2 := by omega
          have h3 := hk.walk h2 SS (hA.pre.trans hS) hAh f' (by have := hk.lt; omega)
          simp only [Int.toNat_natCast]
          rw [h3]
          exact hw
        · rw [if_neg hto]
          rw [hk.old (by omega)] at hw
          exact hw
theorem bytes_rise : ∀ (l : List Arc) (i : Nat) (last : Int), (l.map Arc.byte).Pairwise (· < ·) → (∀ a ∈ l, 0 ≤ a.to ∧ a.to < (i : Int)) → (∀ a ∈ l, last < (a.byte : Int)) → okArcs i last l = true
  | [], _, _, _, _, _ => rfl
  | a :: l, i, last, hp, ht, hl => by
    simp only [List.map_cons, List.pairwise_cons] at hp
    have h1 := ht a (List.mem_cons_self ..)
    have h2 := hl a (List.mem_cons_self ..)
    simp only [okArcs, decide_eq_true h1.1, decide_eq_true h1.2, decide_eq_true h2, Bool.true_and]
    exact bytes_rise l i _ hp.2 (fun b hb => ht b (List.mem_cons_of_mem _ hb)) (fun b hb => by have := hp.1 b.byte (List.mem_map.2 ⟨b, hb, rfl⟩); omega)
theorem K_ok : ∀ (f : Nat) (l : List Wv) (ss : List State), AllLt f l → l ≠ [] → Rise l → Inv ss → Inv (K f ss l).1 ∧ KOk ss (K f ss l).1 (K f ss l).2
  | 0, [], ss, _, hn, _, _ => absurd rfl hn
  | 0, e :: l, ss, hl, _, _, _ => absurd (hl e (List.mem_cons_self ..)) (by omega)
  | f + 1, l, ss, hl, hn, hr, hi => by
    obtain ⟨m, p1, p2, p3, p4, p5, p6⟩ := parts hr
    have hm : ∀ e ∈ m, e ∈ l := fun e he => by rw [p1]; exact List.mem_append_right _ he
    have hall := hl.group hm p3
    obtain ⟨news, e1, e2, hA⟩ := arcs_ok f (K_ok f) (groups l) ss [] (fun x hx => by rw [p2] at hx; exact ⟨(p3.some_ x hx).1, (p3.some_ x hx).2, hall x hx⟩) hi
    obtain ⟨ss1, hss1⟩ : ∃ x, (arcsN (N f) ss [] (groups l)).1 = x := ⟨_, rfl⟩
    rw [hss1] at hA
    have hN1 : (N (f + 1) ss l).1 = ss1 := hss1
    have hN2 : (N (f + 1) ss l).2 = ⟨(finOf l).1, (finOf l).2, news⟩ := by show (⟨_, _, (arcsN (N f) ss [] (groups l)).2⟩ : State) = _; rw [e1]; rfl
    have hK : K (f + 1) ss l = finish ss1 (less ⟨(finOf l).1, (finOf l).2, news⟩ (leastOf ⟨(finOf l).1, (finOf l).2, news⟩)) := by unfold K; rw [hN1, hN2]
    have hsome : (finOf l).1 = true ∨ news ≠ [] := by
      cases hf : (finOf l).1 with
      | true => exact .inl rfl
      | false =>
        refine .inr fun h0 => ?_
        rw [h0] at e2
        have h9 := p6 hn hf
        rw [← p2] at h9
        exact h9 (by simpa using e2.symm)
    have houts : outsOf ⟨(finOf l).1, (finOf l).2, news⟩ ≠ [] := by
      unfold outsOf
      rcases hsome with h | h
      · simp [h]
      · intro h2
        have := (List.append_eq_nil_iff.1 h2).2
        exact h (by simpa using this)
    obtain ⟨s', hs'⟩ : ∃ x, less ⟨(finOf l).1, (finOf l).2, news⟩ (leastOf ⟨(finOf l).1, (finOf l).2, news⟩) = x := ⟨_, rfl⟩
    have hgood : Good ss1.length s' := by
      rw [← hs']
      refine ⟨?_, fun hf => ?_, ?_, least_pushed houts⟩
      · rw [less_arcs, okArcs_map (fun a => ⟨a.byte, a.out - leastOf ⟨(finOf l).1, (finOf l).2, news⟩, a.to⟩) (fun _ => rfl) (fun _ => rfl)]
        refine bytes_rise _ _ _ ?_ hA.to (fun a _ => by omega)
        rw [e2, p2, List.pairwise_map]
        exact p3.rise
      · have hf : (finOf l).1 = false := hf
        show (if (finOf l).1 then (finOf l).2 - _ else (finOf l).2) = 0
        rw [hf, if_neg (by simp)]
        exact p4 hf
      · rcases hsome with h | h
        · exact .inl h
        · exact .inr (by rw [less_arcs]; simpa using h)
    have harcs : s'.arcs = news.map fun a => ⟨a.byte, a.out - leastOf ⟨(finOf l).1, (finOf l).2, news⟩, a.to⟩ := by rw [← hs', less_arcs]
    rw [hK, hs']
    by_cases hin : s' ∈ ss1
    · obtain ⟨k, hk1, hk2, hk3⟩ := finish_in hin
      rw [hk3]
      have heq : ss1 = ss := by
        refine Classical.byContradiction fun hne => ?_
        obtain ⟨a, ha, hto⟩ := hA.last hne
        have hg := hA.inv.good k s' hk1
        have h9 := formed_ahead0 _ _ _ hg.arcs ⟨a.byte, a.out - leastOf ⟨(finOf l).1, (finOf l).2, news⟩, a.to⟩ (by rw [harcs]; exact List.mem_map.2 ⟨a, ha, rfl⟩)
        simp only at h9
        omega
      exact ⟨hA.inv, hA.pre, hk2, fun _ => heq, fun h => by rw [heq] at hk2; omega, fun h => by rw [heq] at hk2; omega⟩
    · rw [finish_out hin]
      have hinv : Inv (ss1 ++ [s']) := by
        refine ⟨List.nodup_append.2 ⟨hA.inv.nodup, by simp, fun a ha b hb => by simp at hb; subst hb; exact fun e => hin (e ▸ ha)⟩, fun i s hs => ?_⟩
        rcases Nat.lt_or_ge i ss1.length with h | h
        · rw [List.getElem?_append_left h] at hs
          exact hA.inv.good i s hs
        · rw [List.getElem?_append_right h] at hs
          have h0 : i - ss1.length = 0 := by
            rcases Nat.eq_zero_or_pos (i - ss1.length) with h2 | h2
            · exact h2
            · rw [List.getElem?_eq_none (by simp; omega)] at hs; cases hs
          rw [h0] at hs
          injection hs with hs
          subst hs
          rw [show i = ss1.length by omega]
          exact hgood
      have hle := hA.pre.length_le
      refine ⟨hinv, hA.pre.trans (List.prefix_append _ _), by simp, fun h => by simp only at h; omega, fun _ => by simp, fun _ SS hS hAh f' hf' => ?_⟩
      obtain ⟨g, rfl⟩ : ∃ g, f' = g + 1 := ⟨f' - 1, by omega⟩
      simp only at hf' ⊢
      simp only [wlk]
      rw [arcsOf_pre hS (k := ss1.length) (s := s') (by rw [List.getElem?_append_right (Nat.le_refl _)]; simp), harcs, wArcs_to (fun a => ⟨a.byte, a.out - leastOf ⟨(finOf l).1, (finOf l).2, news⟩, a.to⟩) (fun _ => rfl), hA.walk SS ((List.prefix_append _ _).trans hS) hAh g (by omega)]
      simp [leave]
theorem build_K {l : List Wv} (hl : AllLt 256 l) (hn : l ≠ []) (hr : Rise l) : build l = ⟨(K 256 [] l).1, leastV l⟩ := by
  obtain ⟨e, l, rfl⟩ := List.exists_cons_of_ne_nil hn
  have hp : (e :: l).map (pre []) = e :: l := (List.map_congr_left fun x _ => by simp [pre]).trans (List.map_id _)
  have hb := adds_N 256 (e :: l) [] [] ⟨zeroS, 0⟩ [] hl (by simp) hr rfl rfl
  rw [hp] at hb
  have hn := least_N 256 (e :: l) [] hl (by simp) hr
  unfold build K
  have h0 : ([] : List Nat).length = 0 := rfl
  rw [h0] at hb
  simp only [hb, List.headD_cons, hn]
theorem build_right {l : List Wv} (hl : AllLt 256 l) (hr : Rise l) : rightF (build l).states (build l).init = true := by
  by_cases hn : l = []
  · subst hn; decide
  · rw [build_K hl hn hr]
    obtain ⟨hI, hK⟩ := K_ok 256 l [] hl hn hr Inv.nil_
    obtain ⟨ss, hss⟩ : ∃ x, (K 256 [] l).1 = x := ⟨_, rfl⟩
    obtain ⟨k, hk⟩ : ∃ x, (K 256 [] l).2 = x := ⟨_, rfl⟩
    rw [hss, hk] at hK
    rw [hss] at hI ⊢
    have h0 : 0 < ss.length := by have := hK.lt; omega
    have hlen := hK.new (Nat.zero_le _)
    have hfm := hI.formed h0
    obtain ⟨hA, _⟩ := formed_Ahead hfm
    obtain ⟨root, hroot⟩ : ∃ r, ss[ss.length - 1]? = some r := ⟨_, List.getElem?_eq_getElem (by omega)⟩
    have hg := hI.good _ _ hroot
    have hw := hK.walk (Nat.zero_le _) ss (List.prefix_refl _) hA (k + 1) (by omega)
    have hord : orderedF ss = true := by
      unfold orderedF
      rw [show ss.length - 1 = k by omega]
      simp only [contW]
      have hres : resume ss k 0 0 = some ss.length := by
        have : resume ss k 0 0 = wlk (k + 1) ss k 0 := rfl
        rw [this]; exact hw
      rw [hres]
      simp
    unfold rightF
    rw [hfm, List.getLast?_eq_getElem?, hroot, hord, hI.all]
    have hne : (!root.final && decide (root.arcs.length = 0)) = false := by
      rcases hg.some_ with h | h
      · rw [h]; rfl
      · have : root.arcs.length ≠ 0 := fun e => h (List.eq_nil_of_length_eq_zero e)
        rw [decide_eq_false this]; cases root.final <;> rfl
    simp only [hne, Bool.true_and]
    rfl
end Dw
end Go.Proofs.YtgjfhedgdbbinaaDoor
