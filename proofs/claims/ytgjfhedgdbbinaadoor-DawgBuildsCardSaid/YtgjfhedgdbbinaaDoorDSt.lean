/- Dawg: the document's state of a list of entries, step by step. -/
import Derived.Test.YtgjfhedgdbbinaaDoorDNumb
import Derived.Test.YtgjfhedgdbbinaaDoorDR1
namespace Go.Proofs.YtgjfhedgdbbinaaDoor
open Go.RowKit
set_option linter.unusedSimpArgs false
set_option linter.unusedVariables false
set_option linter.unnecessarySimpa false
namespace Dw
/-! the document's loop, step by step -/
def refI (f : Nat) (L : List Wv) (depth le : Nat) (x : List State × List Arc) (i : Nat) : List State × List Arc :=
  match (L.getD i ([], 0)).1[depth]? with
  | none => x
  | some b => if (x.2.getLast?.map Arc.byte) = some b then x else
    let own := (L.drop i).filter fun e => decide (e.1[depth]? = some b)
    let n := leastV own
    let r := refS f x.1 own (depth + 1) n
    (r.1, x.2 ++ [⟨b, n - le, (r.2 : Int)⟩])
def refX (f : Nat) (ss : List State) (L : List Wv) (depth le i : Nat) : List State × List Arc := (List.range i).foldl (refI f L depth le) (ss, [])
def refFo (L : List Wv) (depth le : Nat) : Bool × Nat := L.foldl (fun y e => if e.1.length = depth then (true, e.2 - le) else y) (false, 0)
theorem refS_X (f : Nat) (ss : List State) (L : List Wv) (depth le : Nat) : refS (f + 1) ss L depth le = finish (refX f ss L depth le L.length).1 ⟨(refFo L depth le).1, (refFo L depth le).2, (refX f ss L depth le L.length).2⟩ := rfl
theorem refX_succ (f : Nat) (ss : List State) (L : List Wv) (depth le i : Nat) : refX f ss L depth le (i + 1) = refI f L depth le (refX f ss L depth le i) i := by simp [refX, List.range_succ, List.foldl_append]
theorem refI_none {f : Nat} {L : List Wv} {depth le i : Nat} {x : List State × List Arc} {e : Wv} (h : L[i]? = some e) (he : e.1.length = depth) : refI f L depth le x i = x := by
  unfold refI
  rw [List.getD_eq_getElem?_getD, h, Option.getD_some, List.getElem?_eq_none (by omega)]
theorem refI_same {f : Nat} {L : List Wv} {depth le i b : Nat} {x : List State × List Arc} {e : Wv} (h : L[i]? = some e) (he : e.1[depth]? = some b) (hl : x.2.getLast?.map Arc.byte = some b) : refI f L depth le x i = x := by
  unfold refI
  rw [List.getD_eq_getElem?_getD, h, Option.getD_some, he]
  simp only [hl, if_true]
theorem refI_new {f : Nat} {L own : List Wv} {depth le i b n : Nat} {x : List State × List Arc} {e : Wv} (h : L[i]? = some e) (he : e.1[depth]? = some b) (hl : x.2.getLast?.map Arc.byte ≠ some b)
    (ho : (L.drop i).filter (fun e => decide (e.1[depth]? = some b)) = own) (hn : leastV own = n) :
    refI f L depth le x i = ((refS f x.1 own (depth + 1) n).1, x.2 ++ [⟨b, n - le, ((refS f x.1 own (depth + 1) n).2 : Int)⟩]) := by
  unfold refI
  rw [List.getD_eq_getElem?_getD, h, Option.getD_some, he]
  simp only [hl, if_false, ho, hn]
theorem finish_len (ss : List State) (s : State) : ss.length ≤ (finish ss s).1.length := by
  unfold finish
  split <;> simp
theorem refS_len : ∀ (f : Nat) (ss : List State) (L : List Wv) (depth le : Nat), ss.length ≤ (refS f ss L depth le).1.length
  | 0, ss, L, depth, le => Nat.le_refl _
  | f + 1, ss, L, depth, le => by
    have key : ∀ (l : List Nat) (x : List State × List Arc), x.1.length ≤ (l.foldl (refI f L depth le) x).1.length := by
      intro l
      induction l with
      | nil => intro x; exact Nat.le_refl _
      | cons i l ih =>
        intro x
        refine Nat.le_trans ?_ (ih _)
        unfold refI
        split
        · exact Nat.le_refl _
        · split
          · exact Nat.le_refl _
          · exact refS_len f _ _ _ _
    rw [refS_X]
    exact Nat.le_trans (key _ (ss, [])) (finish_len _ _)
theorem refI_len (f : Nat) (L : List Wv) (depth le i : Nat) (x : List State × List Arc) : x.1.length ≤ (refI f L depth le x i).1.length := by
  unfold refI
  split
  · exact Nat.le_refl _
  · split
    · exact Nat.le_refl _
    · exact refS_len f _ _ _ _
theorem refX_len (f : Nat) (ss : List State) (L : List Wv) (depth le i : Nat) : ∀ j, i ≤ j → (refX f ss L depth le i).1.length ≤ (refX f ss L depth le j).1.length := by
  intro j hj
  induction j with
  | zero => obtain rfl : i = 0 := by omega
            exact Nat.le_refl _
  | succ j ih =>
    rcases Nat.lt_or_ge i (j + 1) with h | h
    · rw [refX_succ]
      exact Nat.le_trans (ih (by omega)) (refI_len _ _ _ _ _ _)
    · obtain rfl : i = j + 1 := by omega
      exact Nat.le_refl _
theorem refX_arcs (f : Nat) (ss : List State) (L : List Wv) (depth le i : Nat) : (refX f ss L depth le i).2.length ≤ i := by
  induction i with
  | zero => simp [refX]
  | succ i ih =>
    rw [refX_succ]
    unfold refI
    split
    · omega
    · split
      · omega
      · simp only [List.length_append, List.length_cons, List.length_nil]; omega
/-- no state has very many arcs -/
def Few (M : Nat) (ss : List State) : Prop := ∀ s ∈ ss, s.arcs.length ≤ M
theorem finish_few {M : Nat} {ss : List State} {s : State} (h : Few M ss) (hs : s.arcs.length ≤ M) : Few M (finish ss s).1 := by
  unfold finish
  split
  · exact h
  · intro x hx
    rcases List.mem_append.1 hx with hx | hx
    · exact h x hx
    · simp at hx; subst hx; exact hs
theorem refS_few {M : Nat} : ∀ (f : Nat) (ss : List State) (L : List Wv) (depth le : Nat), Few M ss → L.length ≤ M → Few M (refS f ss L depth le).1
  | 0, ss, L, depth, le, h, _ => h
  | f + 1, ss, L, depth, le, h, hl => by
    rw [refS_X]
    refine finish_few ?_ (Nat.le_trans (refX_arcs f ss L depth le L.length) hl)
    have key : ∀ (l : List Nat) (x : List State × List Arc), Few M x.1 → Few M (l.foldl (refI f L depth le) x).1 := by
      intro l
      induction l with
      | nil => intro x hx; exact hx
      | cons i l ih =>
        intro x hx
        refine ih _ ?_
        unfold refI
        split
        · exact hx
        · split
          · exact hx
          · refine refS_few f _ _ _ _ hx (Nat.le_trans (List.length_filter_le _ _) ?_)
            simp; omega
    exact key _ (ss, []) h
theorem refX_few {M : Nat} (f : Nat) {ss : List State} {L : List Wv} (depth le i : Nat) (h : Few M ss) (hl : L.length ≤ M) : Few M (refX f ss L depth le i).1 := by
  induction i with
  | zero => exact h
  | succ i ih =>
    rw [refX_succ]
    unfold refI
    split
    · exact ih
    · split
      · exact ih
      · refine refS_few f _ _ _ _ ih (Nat.le_trans (List.length_filter_le _ _) ?_)
        simp; omega
theorem leastV_le {l : List Wv} {e : Wv} (h : e ∈ l) : leastV l ≤ e.2 := (leastV_least (List.ne_nil_of_mem h)).2 e.2 (List.mem_map_of_mem h)
theorem leastV_mem {l : List Wv} (h : l ≠ []) : ∃ e ∈ l, leastV l = e.2 := by
  obtain ⟨e, he, h2⟩ := List.mem_map.1 (leastV_least h).1
  exact ⟨e, he, h2.symm⟩
theorem foStep {es : List Ent} {i : Nat} {e : Ent} (depth le : Nat) (h : es[i]? = some e) :
    refFo ((es.take (i + 1)).map wvE) depth le = if e.word.size = depth then (true, valE e - le) else refFo ((es.take i).map wvE) depth le := by
  rw [List.take_add_one, h]
  simp only [Option.toList_some, List.map_append, List.map_cons, List.map_nil, refFo, List.foldl_append, List.foldl_cons, List.foldl_nil]
  rw [show (wvE e).1.length = e.word.size from wl_length e.word]
  rfl
/-! the entries that go on with a byte -/
def nextE (depth b : Nat) (e : Ent) : Bool := decide ((wl e.word)[depth]? = some b)
def ownE (es : List Ent) (i depth b k : Nat) : List Ent := ((es.take k).drop i).filter (nextE depth b)
theorem ownE_start (es : List Ent) (i depth b : Nat) : ownE es i depth b i = [] := by
  unfold ownE
  rw [List.drop_eq_nil_of_le (by simp; omega)]
  rfl
theorem ownE_step {es : List Ent} {i k : Nat} {q : Ent} (depth b : Nat) (h : es[k]? = some q) (hik : i ≤ k) : ownE es i depth b (k + 1) = ownE es i depth b k ++ if nextE depth b q = true then [q] else [] := by
  unfold ownE
  have hk := (List.getElem?_eq_some_iff.1 h).1
  rw [List.take_add_one, h, Option.toList_some, List.drop_append_of_le_length (by simp; omega), List.filter_append]
  congr 1
  simp only [List.filter_cons, List.filter_nil]
theorem ownE_full (es : List Ent) (i depth b : Nat) : (ownE es i depth b es.length).map wvE = ((es.map wvE).drop i).filter (fun e => decide (e.1[depth]? = some b)) := by
  unfold ownE
  rw [List.take_length, ← List.map_drop, List.filter_map]
  rfl
theorem ownE_sub {es : List Ent} {i depth b k : Nat} : ∀ e ∈ ownE es i depth b k, e ∈ es ∧ (wl e.word)[depth]? = some b := fun e he => by
  unfold ownE at he
  obtain ⟨h1, h2⟩ := List.mem_filter.1 he
  exact ⟨List.mem_of_mem_take (List.mem_of_mem_drop h1), of_decide_eq_true h2⟩
theorem ownE_length (es : List Ent) (i depth b k : Nat) : (ownE es i depth b k).length ≤ es.length := by
  unfold ownE
  refine Nat.le_trans (List.length_filter_le _ _) ?_
  simp; omega
theorem ownE_mem {es : List Ent} {i depth b : Nat} {e : Ent} (h : es[i]? = some e) (hb : (wl e.word)[depth]? = some b) : e ∈ ownE es i depth b es.length := by
  unfold ownE
  rw [List.take_length]
  refine List.mem_filter.2 ⟨?_, decide_eq_true hb⟩
  rw [drop_get h]
  exact List.mem_cons_self ..
theorem next_at {e : Ent} {depth b : Nat} (h : depth < e.word.size) : nextE depth b e = decide (at_ e.word depth = b) := by
  unfold nextE
  rw [wl_at h]
  simp
theorem next_no {e : Ent} {depth b : Nat} (h : e.word.size ≤ depth) : nextE depth b e = false := by
  unfold nextE
  rw [List.getElem?_eq_none (by rw [wl_length]; exact h)]
  simp
/-! memory -/
theorem RE.later {w w' : World} {B : Nat} {v : Value} {es : List Ent} (h : RE w B v es) (hb : Below w.heap.size w w') : RE w' B v es := by
  obtain ⟨A, c, h1, h2, h3⟩ := h
  refine ⟨A, c, h1, h2, fun h0 => ?_⟩
  obtain ⟨b, off, h4, h5, h6⟩ := h3 h0
  exact ⟨b, off, h4, h5, fun j u hu => cL hb (h6 j u hu)⟩
theorem RE.apart {w w' : World} {S : Nat → Prop} {B : Nat} {v : Value} {es : List Ent} (h : RE w B v es) (hb : But S w w') (hn : ∀ k, v.ownBlock = some k → ¬ S k) : RE w' B v es := by
  obtain ⟨A, c, rfl, h2, h3⟩ := h
  refine ⟨A, c, rfl, h2, fun h0 => ?_⟩
  obtain ⟨b, off, rfl, h5, h6⟩ := h3 h0
  exact ⟨b, off, rfl, h5, fun j u hu => hb.cell (h6 j u hu) (hn b rfl)⟩
theorem But.join {S T : Nat → Prop} {a b c : World} (h : But S a b) (k : But T b c) (hT : ∀ x, x < a.heap.size → T x → S x) : But S a c :=
  ⟨k.os.trans h.os, k.tape.trans h.tape, k.output.trans h.output, Nat.le_trans h.size k.size, fun x hx hn => (k.block x (Nat.lt_of_lt_of_le hx h.size) (fun ht => hn (hT x hx ht))).trans (h.block x hx hn)⟩
/-- the maker, come of one with row v and blocks B; what is new lies from n on -/
def Made (base g : Nat) (v : Value) (B : Nat → Prop) (n : Nat) (ss : List State) (w : World) : Prop :=
  ∃ v' B', MS w base g v' B' ss ∧ (∀ k, B' k → k < w.heap.size ∧ (B k ∨ n ≤ k)) ∧ (v'.ownBlock = v.ownBlock ∨ ∃ k, v'.ownBlock = some k ∧ n ≤ k)
theorem Made.later {base g n : Nat} {v : Value} {B : Nat → Prop} {ss : List State} : ∀ w w' : World, Below w.heap.size w w' → Made base g v B n ss w → Made base g v B n ss w' :=
  fun w w' hb ⟨v', B', h1, h2, h3⟩ => ⟨v', B', h1.later hb, fun k hk => ⟨Nat.lt_of_lt_of_le (h2 k hk).1 hb.size, (h2 k hk).2⟩, h3⟩
theorem Made.mono {base g n n' : Nat} {v : Value} {B : Nat → Prop} {ss : List State} {w : World} (h : Made base g v B n ss w) (hn : n' ≤ n) : Made base g v B n' ss w := by
  obtain ⟨v', B', h1, h2, h3⟩ := h
  exact ⟨v', B', h1, fun k hk => ⟨(h2 k hk).1, (h2 k hk).2.imp id (fun h => by omega)⟩, h3.imp id (fun ⟨k, h4, h5⟩ => ⟨k, h4, by omega⟩)⟩
/-- the maker, and the row of the arcs of the state that is made -/
def Lq (bx base g : Nat) (v : Value) (B : Nat → Prop) (x : List State × List Arc) (av : Value) (w : World) : Prop :=
  ∃ v' B', MS w base g v' B' x.1 ∧ (∀ k, B' k → k < w.heap.size ∧ ((B k ∧ k < bx) ∨ bx < k)) ∧ ((v'.ownBlock = v.ownBlock) ∨ ∃ k, v'.ownBlock = some k ∧ bx < k) ∧ OA w bx av x.2 ∧
    ∀ k, av.ownBlock = some k → bx < k ∧ ¬ B' k ∧ v'.ownBlock ≠ some k
theorem Lq.later {bx base g : Nat} {v : Value} {B : Nat → Prop} {x : List State × List Arc} : Stab.Stable (Lq bx base g v B x) :=
  fun av w w' hb ⟨v', B', h1, h2, h3, h4, h5⟩ => ⟨v', B', h1.later hb, fun k hk => ⟨Nat.lt_of_lt_of_le (h2 k hk).1 hb.size, (h2 k hk).2⟩, h3, own_later h4 hb, h5⟩
def bxCells (av : Value) (y : Bool × Nat) : Obj := .cells #[av, .bool y.1, .int .u64 y.2] 61 (0, 0)
def Lp (bx base g : Nat) (v : Value) (B : Nat → Prop) (y : Bool × Nat) (x : List State × List Arc) (w : World) : Prop := ∃ av, Lq bx base g v B x av w ∧ w.heap[bx]? = some (bxCells av y)
theorem Lp.later {bx base g : Nat} {v : Value} {B : Nat → Prop} {y : Bool × Nat} {x : List State × List Arc} {w w' : World} (hb : Below w.heap.size w w') (h : Lp bx base g v B y x w) : Lp bx base g v B y x w' := by
  obtain ⟨av, h1, h2⟩ := h
  exact ⟨av, Lq.later av w w' hb h1, (hb.block bx (heap_lt h2)).trans h2⟩
/-- an arc comes behind -/
theorem Lq.app {bx base g n : Nat} {v v2 av v' : Value} {B B2 : Nat → Prop} {ss : List State} {al : List Arc} {a : Arc} {w w2 : World} (hm : Made base g v2 B2 n ss w) (hnb : bx < n)
    (hB2 : ∀ k, B2 k → ((B k ∧ k < bx) ∨ bx < k)) (hv2 : (v2.ownBlock = v.ownBlock) ∨ ∃ k, v2.ownBlock = some k ∧ bx < k) (hav : ∀ k, av.ownBlock = some k → bx < k ∧ ¬ B2 k ∧ v2.ownBlock ≠ some k ∧ k < n) (hgb : g < bx)
    (hrow : w2.ownsRow bx 63 3 v' (al.length + 1) (acs al ++ a.cells)) (hg : w.grownBy w2 av.ownBlock) (hat : v'.ownBlock = av.ownBlock ∨ v'.ownBlock = some w.heap.size) (hnw : n ≤ w.heap.size) : Lq bx base g v B (ss, al ++ [a]) v' w2 := by
  obtain ⟨vv, BB, h1, h2, h3⟩ := hm
  have hbut : But (fun k => av.ownBlock = some k) w w2 := But.grown hg (fun k hk => hk)
  have hnB : ∀ k, av.ownBlock = some k → ¬ BB k ∧ vv.ownBlock ≠ some k := fun k hk => by
    obtain ⟨k1, k2, k3, k4⟩ := hav k hk
    refine ⟨fun h => ?_, fun h => ?_⟩
    · rcases (h2 k h).2 with h | h
      · exact k2 h
      · omega
    · rcases h3 with h4 | ⟨k', h4, h5⟩
      · exact k3 (h4.symm.trans h)
      · rw [h] at h4; injection h4 with h4; omega
  refine ⟨vv, BB, h1.but hbut (fun h => by have := hav g h; omega) (fun k hk h => (hnB k h).2 hk) (fun k hk h => (hnB k h).1 hk), fun k hk => ⟨Nat.lt_of_lt_of_le (h2 k hk).1 hbut.size, ?_⟩, ?_, ?_, fun k hk => ?_⟩
  · rcases (h2 k hk).2 with h | h
    · exact hB2 k h
    · exact .inr (by omega)
  · rcases h3 with h | ⟨k, h, h4⟩
    · rw [h]; exact hv2
    · exact .inr ⟨k, h, by omega⟩
  · unfold OA
    rw [acs_append, List.length_append]
    have : acs [a] = a.cells := by simp [acs]
    rw [this]
    exact hrow
  · rcases hat with h | h
    · rw [h] at hk
      have := hav k hk
      have := hnB k hk
      exact ⟨by omega, this.1, this.2⟩
    · rw [h] at hk
      injection hk with hk
      subst hk
      refine ⟨by omega, fun h => ?_, fun h => ?_⟩
      · have := (h2 _ h).1; omega
      · have := (h1.blk h).2; omega
theorem Lq.but {S : Nat → Prop} {bx base g : Nat} {v av : Value} {B : Nat → Prop} {x : List State × List Arc} {w w' : World} (h : Lq bx base g v B x av w) (hb : But S w w') (hS : ∀ k, S k → k = bx) (hgb : g < bx) (hvb : ∀ k, v.ownBlock = some k → k < bx) : Lq bx base g v B x av w' := by
  obtain ⟨v', B', h1, h2, h3, h4, h5⟩ := h
  refine ⟨v', B', h1.but hb (fun h => by have := hS _ h; omega) (fun k hk h => ?_) (fun k hk h => ?_), fun k hk => ⟨Nat.lt_of_lt_of_le (h2 k hk).1 hb.size, (h2 k hk).2⟩, h3, own_but h4 hb (fun k hk h => ?_), h5⟩
  · have := hS k h
    rcases h3 with h6 | ⟨k', h6, h7⟩
    · rw [h6] at hk; have := hvb k hk; omega
    · rw [h6] at hk; injection hk with hk; omega
  · have := hS k h
    have := (h2 k hk).2
    omega
  · have := hS k h
    have := (h5 k hk).1
    omega
end Dw
end Go.Proofs.YtgjfhedgdbbinaaDoor
