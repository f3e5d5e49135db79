/- Dawg: a copied row of states, each with arcs of its own. -/
import Derived.Test.YtgjfhedgdbbinaaDoorDFew
import Derived.ArgAppend
namespace Go.Proofs.YtgjfhedgdbbinaaDoor
open Go.RowKit
set_option linter.unusedSimpArgs false
set_option linter.unusedVariables false
set_option linter.unnecessarySimpa false
namespace Dw
def sc (x : Value × State) : List Value := [x.1, .bool x.2.final, .int .u64 x.2.out]
theorem scs_set {l : List (Value × State)} {j q : Nat} {x x' : Value × State} {u : Value} (hj : l[j]? = some x) (hq : q < 3) (hx : sc x' = (sc x).set q u) : scs (l.set j x') = (scs l).set (j * 3 + q) u := by
  obtain ⟨hlt, hxj⟩ := List.getElem?_eq_some_iff.1 hj
  refine List.ext_getElem? fun t => ?_
  by_cases ht : t < l.length * 3
  · have e1 := scs_get (l.set j x') (t / 3) (t % 3) (by simp; omega) (by omega)
    rw [show t / 3 * 3 + t % 3 = t by omega] at e1
    have e0 := scs_get l (t / 3) (t % 3) (by omega) (by omega)
    rw [show t / 3 * 3 + t % 3 = t by omega] at e0
    rw [e1, List.getElem?_set, e0]
    by_cases htj : t / 3 = j
    · have hg : (l.set j x')[t / 3]'(by simp; omega) = x' := by simp [htj]
      have hg2 : l[t / 3]'(by omega) = x := by simp only [htj]; exact hxj
      rw [hg, hg2]
      show (sc x')[t % 3]? = _
      rw [hx, List.getElem?_set]
      have hl : (sc x).length = 3 := rfl
      by_cases h2 : q = t % 3
      · have e1 : q < (sc x).length := by rw [hl]; omega
        have e2 : j * 3 + q = t := by omega
        have e3 : j * 3 + q < (scs l).length := by rw [scs_length]; omega
        rw [if_pos h2, if_pos e1, if_pos e2, if_pos e3]
      · rw [if_neg h2, if_neg (by omega)]; rfl
    · have hg : (l.set j x')[t / 3]'(by simp; omega) = l[t / 3]'(by omega) := by rw [List.getElem_set_ne (fun e => htj e.symm)]
      rw [hg, if_neg (by omega)]
  · rw [List.getElem?_eq_none (by rw [scs_length]; simp; omega), List.getElem?_eq_none (by rw [List.length_set, scs_length]; omega)]
theorem scs_same {l : List (Value × State)} {j : Nat} {x x' : Value × State} (hj : l[j]? = some x) (hx : sc x' = sc x) : scs (l.set j x') = scs l := by
  have hx1 : x'.1 = x.1 := by simp [sc] at hx; exact hx.1
  have h := scs_set (q := 0) (u := x'.1) hj (by omega) (x' := x') (by rw [hx, hx1]; rfl)
  obtain ⟨hlt, hxj⟩ := List.getElem?_eq_some_iff.1 hj
  rw [h]
  have e0 := scs_get l j 0 hlt (by omega)
  rw [Nat.add_zero] at e0
  rw [hxj] at e0
  have hlt3 : j * 3 + 0 < (scs l).length := by rw [scs_length]; omega
  refine List.ext_getElem? fun t => ?_
  rw [List.getElem?_set]
  by_cases ht : j * 3 + 0 = t
  · rw [if_pos ht, if_pos hlt3, ← ht, Nat.add_zero, e0, hx1]; rfl
  · rw [if_neg ht]
theorem set_at {α : Type} {l : List α} {j i : Nat} {x' y : α} (h : (l.set j x')[i]? = some y) : (i = j ∧ y = x') ∨ (i ≠ j ∧ l[i]? = some y) := by
  by_cases hij : i = j
  · subst hij
    rw [List.getElem?_set_self' ] at h
    cases hl : l[i]? with
    | none => rw [hl] at h; simp at h
    | some z => rw [hl] at h; simp at h; exact .inl ⟨rfl, h.symm⟩
  · rw [List.getElem?_set_ne (fun e => hij e.symm)] at h
    exact .inr ⟨hij, h⟩
/-- the row; all arcs, but those of state j, lie in blocks of C, not in the row's block -/
structure TJ (w : World) (base : Nat) (C : Nat → Prop) (v : Value) (l : List (Value × State)) (j : Nat) : Prop where
  row : w.ownsRow base 61 3 v l.length (scs l)
  arcs : ∀ (i : Nat) (y : Value × State), i ≠ j → l[i]? = some y → RA w (fun k => v.ownBlock ≠ some k ∧ C k) y.1 y.2.arcs
structure TR (w : World) (base : Nat) (v : Value) (l : List (Value × State)) : Prop where
  row : w.ownsRow base 61 3 v l.length (scs l)
  arcs : ∀ x ∈ l, OA w base x.1 x.2.arcs
  apart : l.Pairwise fun x y => ∀ k, x.1.ownBlock = some k → y.1.ownBlock ≠ some k
  vap : ∀ x ∈ l, ∀ k, x.1.ownBlock = some k → v.ownBlock ≠ some k
section
variable {w w' : World} {base : Nat} {S : Nat → Prop} {v : Value} {l : List (Value × State)}
theorem TR.but (h : TR w base v l) (hb : But S w w') (hv : ∀ k, v.ownBlock = some k → ¬ S k) (hx : ∀ x ∈ l, ∀ k, x.1.ownBlock = some k → ¬ S k) : TR w' base v l :=
  ⟨own_but h.row hb hv, fun x h1 => own_but (h.arcs x h1) hb (hx x h1), h.apart, h.vap⟩
theorem TR.later (h : TR w base v l) (hb : Below w.heap.size w w') : TR w' base v l := h.but (But.of (fun _ => False) hb) (fun _ _ h => h) (fun _ _ _ _ h => h)
theorem TR.ra (h : TR w base v l) : ∀ x ∈ l, RA w (fun k => v.ownBlock ≠ some k) x.1 x.2.arcs := fun x hx => OA.ra (h.arcs x hx) (fun k hk => h.vap x hx k hk)
theorem TR.sr (h : TR w base v l) : SR w base (fun k => v.ownBlock ≠ some k) v l := ⟨h.row, h.ra⟩
theorem TR.diff (h : TR w base v l) {i j : Nat} {x y : Value × State} (hi : l[i]? = some x) (hj : l[j]? = some y) (hij : i ≠ j) : ∀ k, x.1.ownBlock = some k → y.1.ownBlock ≠ some k := by
  have hp := List.pairwise_iff_getElem.1 h.apart
  obtain ⟨h1, e1⟩ := List.getElem?_eq_some_iff.1 hi
  obtain ⟨h2, e2⟩ := List.getElem?_eq_some_iff.1 hj
  intro k hk hk2
  rcases Nat.lt_or_ge i j with h3 | h3
  · have := hp i j h1 h2 h3 k (by rw [e1]; exact hk)
    rw [e2] at this; exact this hk2
  · have := hp j i h2 h1 (by omega) k (by rw [e2]; exact hk2)
    rw [e1] at this; exact this hk
theorem TR.tj {C : Nat → Prop} (h : TR w base v l) {j : Nat} {x : Value × State} (hj : l[j]? = some x) (hC : ∀ x ∈ l, ∀ k, x.1.ownBlock = some k → C k) (hb : But (fun k => x.1.ownBlock = some k) w w') : TJ w' base C v l j :=
  ⟨own_but h.row hb (fun k hk hk2 => h.vap x (List.mem_of_getElem? hj) k hk2 hk), fun i y hij hi => (OA.ra (B := fun k => y.1.ownBlock = some k) (h.arcs y (List.mem_of_getElem? hi)) (fun k hk => hk)).but hb (fun k hk hk2 => h.diff hi hj hij k hk hk2) |>.more (fun k _ hk => ⟨h.vap y (List.mem_of_getElem? hi) k hk, hC y (List.mem_of_getElem? hi) k hk⟩)⟩
theorem TR.others {C : Nat → Prop} (h : TR w base v l) (hC : ∀ x ∈ l, ∀ k, x.1.ownBlock = some k → C k) (hb : But (fun k => v.ownBlock = some k) w w') : ∀ y ∈ l, RA w' C y.1 y.2.arcs := fun y hy =>
  ((OA.ra (B := fun k => y.1.ownBlock = some k) (h.arcs y hy) (fun k hk => hk)).but hb (fun k hk hk2 => h.vap y hy k hk hk2)).more (fun k _ hk => hC y hy k hk)
theorem TJ.later {C : Nat → Prop} {j : Nat} (h : TJ w base C v l j) (hb : Below w.heap.size w w') : TJ w' base C v l j := ⟨own_later h.row hb, fun i y hij hi => (h.arcs i y hij hi).later hb⟩
/-- the row as it stands, the arcs of state j anew -/
theorem TJ.sr {C : Nat → Prop} {j : Nat} {x x' : Value × State} (h : TJ w base C v l j) (hj : l[j]? = some x) (hx : sc x' = sc x) (hr : RA w C x'.1 x'.2.arcs) : SR w base C v (l.set j x') := by
  refine ⟨by rw [List.length_set, scs_same hj hx]; exact h.row, fun y hy => ?_⟩
  obtain ⟨i, hi⟩ := List.mem_iff_getElem?.1 hy
  rcases set_at hi with ⟨_, rfl⟩ | ⟨hij, hi2⟩
  · exact hr
  · exact (h.arcs i y hij hi2).more (fun _ _ h => h.2)
/-- a cell of state j is turned -/
theorem TJ.store {C : Nat → Prop} {g c n j q : Nat} {u : Value} {x x' : Value × State} (h : TJ w base C (.slice (some ⟨g, 0, none⟩) n c) l j) (hn : n = l.length) (hj : l[j]? = some x) (hq : q < 3) (hx : sc x' = (sc x).set q u)
    (hr : RA w (fun k => k ≠ g ∧ C k) x'.1 x'.2.arcs) : SR (w.setCell ⟨g, j * 3 + q, none⟩ u) base C (.slice (some ⟨g, 0, none⟩) n c) (l.set j x') := by
  subst hn
  have hb : But (fun k => k = g) w (w.setCell ⟨g, j * 3 + q, none⟩ u) := But.setCell (S := fun k => k = g) rfl u
  refine ⟨?_, fun y hy => ?_⟩
  · rw [List.length_set, scs_set hj hq hx]
    exact (h.row.stored (j * 3 + q) u).1
  · obtain ⟨i, hi⟩ := List.mem_iff_getElem?.1 hy
    rcases set_at hi with ⟨_, rfl⟩ | ⟨hij, hi2⟩
    · exact (hr.but hb (fun k hk h => hk.1 h)).more (fun _ _ h => h.2)
    · exact ((h.arcs i y hij hi2).but hb (fun k hk h => hk.1 (by subst h; rfl))).more (fun _ _ h => h.2)
end
/-- an arc's cell is turned -/
def ac (a : Arc) : List Value := a.cells
theorem acs_set {l : List Arc} {j q : Nat} {a a' : Arc} {u : Value} (hj : l[j]? = some a) (hq : q < 3) (hx : a'.cells = a.cells.set q u) : acs (l.set j a') = (acs l).set (j * 3 + q) u := by
  obtain ⟨hlt, haj⟩ := List.getElem?_eq_some_iff.1 hj
  refine List.ext_getElem? fun t => ?_
  by_cases ht : t < l.length * 3
  · have e1 := acs_get (l.set j a') (t / 3) (t % 3) (by simp; omega) (by omega)
    rw [show t / 3 * 3 + t % 3 = t by omega] at e1
    have e0 := acs_get l (t / 3) (t % 3) (by omega) (by omega)
    rw [show t / 3 * 3 + t % 3 = t by omega] at e0
    rw [e1, List.getElem?_set, e0]
    by_cases htj : t / 3 = j
    · have hg : (l.set j a')[t / 3]'(by simp; omega) = a' := by simp [htj]
      have hg2 : l[t / 3]'(by omega) = a := by simp only [htj]; exact haj
      rw [hg, hg2, hx, List.getElem?_set]
      have hl : a.cells.length = 3 := rfl
      by_cases h2 : q = t % 3
      · have e1 : q < a.cells.length := by rw [hl]; omega
        have e2 : j * 3 + q = t := by omega
        have e3 : j * 3 + q < (acs l).length := by rw [acs_length]; omega
        rw [if_pos h2, if_pos e1, if_pos e2, if_pos e3]
      · rw [if_neg h2, if_neg (by omega)]
    · have hg : (l.set j a')[t / 3]'(by simp; omega) = l[t / 3]'(by omega) := by rw [List.getElem_set_ne (fun e => htj e.symm)]
      rw [hg, if_neg (by omega)]
  · rw [List.getElem?_eq_none (by rw [acs_length]; simp; omega), List.getElem?_eq_none (by rw [List.length_set, acs_length]; omega)]
theorem OA.store {w : World} {base b c n : Nat} {l : List Arc} (h : OA w base (.slice (some ⟨b, 0, none⟩) n c) l) {j q : Nat} {a a' : Arc} {u : Value} (hj : l[j]? = some a) (hn : n = l.length) (hq : q < 3) (hx : a'.cells = a.cells.set q u) :
    OA (w.setCell ⟨b, j * 3 + q, none⟩ u) base (.slice (some ⟨b, 0, none⟩) n c) (l.set j a') := by
  subst hn
  unfold OA
  rw [acs_set hj hq hx, List.length_set]
  exact (h.stored (j * 3 + q) u).1
theorem RA.news {w : World} {B : Nat → Prop} {A : Option Addr} {n c : Nat} {l : List Arc} (h : RA w B (.slice A n c) l) : 0 < n → ∃ b off, A = some ⟨b, off, none⟩ ∧ ∀ j u, (acs l)[j]? = some u → w.cell? ⟨b, off + j, none⟩ = some u := fun h0 => by
  obtain ⟨A', c', h1, h2, h3⟩ := h
  injection h1 with h1 h4 h5
  subst h4
  obtain ⟨b, off, h6, _, h7⟩ := h3 h0
  exact ⟨b, off, h1.trans h6, h7⟩
/-- what is turned, is as it may be -/
def Fin_ (w : World) (v : Value) (C : Nat → Prop) (N M : Nat) : Prop := ∃ base l, SR w base C v l ∧ (∀ k, v.ownBlock = some k → C k) ∧ l.length ≤ N ∧ ∀ x ∈ l, okS x.2 ∧ x.2.arcs.length ≤ M
theorem Fin_.but {w w' : World} {v : Value} {C S : Nat → Prop} {N M : Nat} (h : Fin_ w v C N M) (hb : But S w w') (hS : ∀ k, C k → ¬ S k) : Fin_ w' v C N M := by
  obtain ⟨base, l, h1, h2, h3⟩ := h
  exact ⟨base, l, h1.but hb (fun k hk => hS k (h2 k hk)) hS, h2, h3⟩
theorem Fin_.rs {w : World} {v : Value} {C : Nat → Prop} {N M : Nat} (h : Fin_ w v C N M) : ∃ ss, RS w v ss ∧ ss.length ≤ N ∧ ∀ s ∈ ss, okS s ∧ s.arcs.length ≤ M := by
  obtain ⟨base, l, h1, _, h3, h4⟩ := h
  exact ⟨_, h1.rs, by rw [List.length_map]; exact h3, fun s hs => by obtain ⟨x, hx, rfl⟩ := List.mem_map.1 hs; exact h4 x hx⟩
theorem Fin_.form {w : World} {v : Value} {C : Nat → Prop} {N M : Nat} (h : Fin_ w v C N M) : ∃ A n c, v = .slice A n c := by
  obtain ⟨base, l, h1, _⟩ := h
  obtain ⟨A, c, h5, _⟩ := h1.form
  exact ⟨A, _, c, h5⟩
theorem Fin_.set {w : World} {base : Nat} {v : Value} {C : Nat → Prop} {l : List (Value × State)} {j N M : Nat} {x' : Value × State} (h : SR w base C v (l.set j x')) (hv : ∀ k, v.ownBlock = some k → C k) (hl : l.length ≤ N) (hm : ∀ x ∈ l, okS x.2 ∧ x.2.arcs.length ≤ M) (hx : okS x'.2 ∧ x'.2.arcs.length ≤ M + 1) : Fin_ w v C (N + 1) (M + 1) :=
  ⟨base, _, h, hv, by rw [List.length_set]; omega, fun y hy => by
    obtain ⟨i, hi⟩ := List.mem_iff_getElem?.1 hy
    rcases set_at hi with ⟨_, rfl⟩ | ⟨_, hi2⟩
    · exact hx
    · have := hm y (List.mem_of_getElem? hi2); exact ⟨this.1, by omega⟩⟩
theorem i64_rng (x : Int) : ∃ z : Int, IntKind.i64.wrap x = z ∧ -9223372036854775808 ≤ z ∧ z < 9223372036854775808 := by
  have h : IntKind.i64.wrap x = if true && decide (x % 18446744073709551616 ≥ 9223372036854775808) then x % 18446744073709551616 - 18446744073709551616 else x % 18446744073709551616 := rfl
  refine ⟨_, rfl, ?_⟩
  rw [h]
  by_cases h2 : x % 18446744073709551616 ≥ 9223372036854775808
  · rw [decide_eq_true h2]; simp only [Bool.and_self, if_true]; omega
  · rw [decide_eq_false h2]; simp only [Bool.and_false, Bool.false_eq_true, if_false]; omega
theorem u64_nat (x : Int) : ∃ n : Nat, IntKind.u64.wrap x = (n : Int) ∧ n < 18446744073709551616 := by
  have h : IntKind.u64.wrap x = x % 18446744073709551616 := rfl
  refine ⟨(x % 18446744073709551616).toNat, ?_, ?_⟩ <;> omega
theorem u8_nat (x : Int) : ∃ n : Nat, IntKind.u8.wrap x = (n : Int) ∧ n < 256 := by
  have h : IntKind.u8.wrap x = x % 256 := rfl
  refine ⟨(x % 256).toNat, ?_, ?_⟩ <;> omega
def PAr (base : Nat) (C : Nat → Prop) (v : Value) (l : List (Value × State)) (j g : Nat) (a : Arc) (al : List Arc) : Stab.Pr := fun v5 w => OA w base v5 (al ++ [a]) ∧ TJ w base C v l j ∧ ∀ k, v5.ownBlock = some k → C k ∧ k ≠ g
theorem PAr.stable (base : Nat) (C : Nat → Prop) (v : Value) (l : List (Value × State)) (j g : Nat) (a : Arc) (al : List Arc) : Stab.Stable (PAr base C v l j g a al) := fun v5 w w' hb h => ⟨own_later h.1 hb, h.2.1.later hb, h.2.2⟩
theorem PAr.form {base : Nat} {C : Nat → Prop} {v v5 : Value} {l : List (Value × State)} {j g : Nat} {a : Arc} {al : List Arc} {w : World} (h : PAr base C v l j g a al v5 w) : ∃ A c, v5 = .slice A (al.length + 1) c := by
  obtain ⟨A, c, h1, _⟩ := row_form h.1
  exact ⟨A, c, by rw [h1, List.length_append]; rfl⟩
theorem PAr.fin {base : Nat} {C : Nat → Prop} {g n c j N M : Nat} {v5 : Value} {l : List (Value × State)} {a : Arc} {x : Value × State} {w : World} (h : PAr base C (.slice (some ⟨g, 0, none⟩) n c) l j g a x.2.arcs v5 w) (hn : n = l.length) (hj : l[j]? = some x)
    (hv : ∀ k, (.slice (some ⟨g, 0, none⟩) n c : Value).ownBlock = some k → C k) (hl : l.length ≤ N) (hm : ∀ y ∈ l, okS y.2 ∧ y.2.arcs.length ≤ M) (hM : M ≤ 1000) (ha : okA a) : Fin_ (w.setCell ⟨g, j * 3, none⟩ v5) (.slice (some ⟨g, 0, none⟩) n c) C (N + 1) (M + 1) := by
  obtain ⟨h1, h2, h3⟩ := h
  have hx := hm x (List.mem_of_getElem? hj)
  refine Fin_.set (x' := (v5, ⟨x.2.final, x.2.out, x.2.arcs ++ [a]⟩)) (h2.store (u := v5) (q := 0) hn hj (by omega) (by simp [sc]) (OA.ra h1 (fun k hk => ⟨(h3 k hk).2, (h3 k hk).1⟩))) hv hl hm ⟨⟨hx.1.1, ?_, fun b hb => ?_⟩, ?_⟩
  · show (x.2.arcs ++ [a]).length < _
    rw [List.length_append]; have := hx.2; simp only [List.length_cons, List.length_nil]; omega
  · rcases List.mem_append.1 hb with h4 | h4
    · exact hx.1.2.2 b h4
    · simp at h4; subst h4; exact ha
  · show (x.2.arcs ++ [a]).length ≤ _
    rw [List.length_append]; have := hx.2; simp only [List.length_cons, List.length_nil]; omega
theorem arc_fin {w : World} {base g n c j N M b nb cb kk q : Nat} {C : Nat → Prop} {l : List (Value × State)} {x : Value × State} {a a' : Arc} {u : Value} (htr : TR w base (.slice (some ⟨g, 0, none⟩) n c) l) (hj : l[j]? = some x) (hxv : x.1 = .slice (some ⟨b, 0, none⟩) nb cb) (hnb : nb = x.2.arcs.length) (hk : x.2.arcs[kk]? = some a) (hq : q < 3) (ha : a'.cells = a.cells.set q u) (hok : okA a')
    (hC : ∀ y ∈ l, ∀ k, y.1.ownBlock = some k → C k) (hv : ∀ k, (.slice (some ⟨g, 0, none⟩) n c : Value).ownBlock = some k → C k) (hl : l.length ≤ N) (hm : ∀ y ∈ l, okS y.2 ∧ y.2.arcs.length ≤ M) : Fin_ (w.setCell ⟨b, kk * 3 + q, none⟩ u) (.slice (some ⟨g, 0, none⟩) n c) C (N + 1) (M + 1) := by
  have hxm := List.mem_of_getElem? hj
  have hx := hm x hxm
  have hb : But (fun k => x.1.ownBlock = some k) w (w.setCell ⟨b, kk * 3 + q, none⟩ u) := But.setCell (S := fun k => x.1.ownBlock = some k) (by rw [hxv]; rfl) u
  have htj := htr.tj hj hC hb
  have ho := htr.arcs x hxm
  rw [hxv] at ho
  have ho2 := ho.store (u := u) hk hnb hq ha
  refine Fin_.set (x' := (x.1, ⟨x.2.final, x.2.out, x.2.arcs.set kk a'⟩)) (htj.sr hj rfl ?_) hv hl hm ⟨⟨hx.1.1, ?_, fun d hd => ?_⟩, ?_⟩
  · show RA _ C x.1 (x.2.arcs.set kk a')
    rw [hxv]
    exact OA.ra ho2 (fun k hk => hC x hxm k (by rw [hxv]; exact hk))
  · show (x.2.arcs.set kk a').length < _
    rw [List.length_set]; exact hx.1.2.1
  · obtain ⟨i, hi⟩ := List.mem_iff_getElem?.1 hd
    rcases set_at hi with ⟨_, rfl⟩ | ⟨_, hi2⟩
    · exact hok
    · exact hx.1.2.2 d (List.mem_of_getElem? hi2)
  · show (x.2.arcs.set kk a').length ≤ _
    rw [List.length_set]; omega
theorem run_full_none {P : Program} {w : World} (t ty e : TypeId) (i : TypeInfo) (ht : P.underlying t = some (.slice e)) (hi : P.info? e = some i) (b off n c : Nat) : (Builtin.append_ #[t, t] ty #[.slice (some ⟨b, off, none⟩) n n, .slice none 0 c]).run P w = .ok (.slice (some ⟨b, off, none⟩) n n) w := by
  simp [Builtin.append_, run_underlying ht, sizeOf, typeInfo, hi, Builtin.lenOf, Builtin.firstCells, storeCells]
theorem wp_app_full {o : Oper} {a : Act} {w : World} {K : Act → World → Prop} {Q : Exit → Act → World → Prop} (s y : Operand) (t : TypeId) (ho : o.op = .call { callee := .builtin .append, args := #[s, y], argTypes := #[t, t] })
    (e : TypeId) (z : Value) (size bytes : Nat) (ht : Tryd.prog.underlying t = some (.slice e)) (hinfo : (Tryd.prog.info? e).map (fun i => (i.zero, i.size, i.bytes)) = some (some z, size, bytes)) (hzs : z.cells.size = size) (hsz : 0 < size) (hby : bytes ≤ 100)
    (b off n : Nat) (olds : List Value) (hs : a.eval s = .slice (some ⟨b, off, none⟩) n n) (hlo : olds.length = n * size) (holds : ∀ j u, olds[j]? = some u → w.cell? ⟨b, off + j, none⟩ = some u)
    (A : Option Addr) (m c : Nat) (news : List Value) (hx : a.eval y = .slice A m c) (hl : news.length = m * size) (hc : 0 < m → ∃ b off, A = some ⟨b, off, none⟩ ∧ ∀ j u, news[j]? = some u → w.cell? ⟨b, off + j, none⟩ = some u) (h1 : ∀ u ∈ news, u.oneCell' = true) (hn : n + m ≤ 1000000000)
    (h0 : m = 0 → K (a.put o.dst (.slice (some ⟨b, off, none⟩) n n)) w) (h : ∀ v' w', w'.ownsRow w.heap.size e size v' (n + m) (olds ++ news) → w.grownBy w' none → K (a.put o.dst v') w') : Oper.wp Tryd.prog o a w K Q := by
  obtain ⟨i0, hi, hz0, hz1, hz2⟩ := info_parts hinfo
  rcases Nat.eq_zero_or_pos m with hm | hm
  · subst hm
    obtain rfl : news = [] := List.eq_nil_of_length_eq_zero (by simpa using hl)
    have hr : (Builtin.append_ #[t, t] o.type #[.slice (some ⟨b, off, none⟩) n n, .slice A 0 c]).run Tryd.prog w = .ok (.slice (some ⟨b, off, none⟩) n n) w := by
      cases A with
      | none => exact run_full_none t o.type e i0 ht hi b off n c
      | some p =>
        have := run_append_room_cells (P := Tryd.prog) w t o.type e i0 ht hi b off n n p 0 c [] (by simp) (fun j u h => by simp at h) (fun u h => by cases h) (by omega) (fun j h => by simp at h) (fun j h => by simp at h)
        simpa [World.setCells] using this
    unfold Oper.wp execOp
    simp only [ho, resolve, invoke, builtin, Sem.run_bind, Sem.run_pure, Result.andThen_ok, List.map_toArray, List.map_cons, List.map_nil, hs, hx, hr]
    exact h0 rfl
  · obtain ⟨b2, off2, rfl, hc2⟩ := hc hm
    obtain ⟨v', w', r1, r2, r3⟩ := run_append_arg_grows (P := Tryd.prog) w t o.type e i0 z size bytes ht hi hz0 hz1 hz2 hzs hsz ⟨b, off, none⟩ n n olds hlo (fun j u hj => by rw [Addr.add_lit]; exact holds j u hj) ⟨b2, off2, none⟩ m c news hl (fun j u hj => by rw [Addr.add_lit]; exact hc2 j u hj) (by omega) (by unfold maxLen; omega) (by have : (n + m) * bytes ≤ (n + m) * 100 := Nat.mul_le_mul_left _ hby; omega)
    unfold Oper.wp execOp
    simp only [ho, resolve, invoke, builtin, Sem.run_bind, Sem.run_pure, Result.andThen_ok, List.map_toArray, List.map_cons, List.map_nil, hs, hx, r1]
    exact h v' w' r2 r3
def PRa (B : Nat → Prop) (al : List Arc) : Stab.Pr := fun v w => RA w B v al
theorem PRa.stable (B : Nat → Prop) (al : List Arc) : Stab.Stable (PRa B al) := fun v w w' hb h => RA.later h hb
theorem PRa.form {B : Nat → Prop} {al : List Arc} {v : Value} {w : World} (h : PRa B al v w) : ∃ A n c, v = .slice A n c := by
  obtain ⟨A, c, h1, _⟩ := RA.form h
  exact ⟨A, _, c, h1⟩
theorem RA.cut {w : World} {B : Nat → Prop} {A : Option Addr} {n c : Nat} {l : List Arc} (h : RA w B (.slice A n c) l) (m : Nat) (hm : m ≤ n) : RA w B (.slice A m m) (l.take m) := by
  obtain ⟨A2, c2, h1, h2, h3⟩ := h.take m hm
  injection h1 with h1 h4 h5
  subst h1
  exact ⟨A, m, by rw [← h4], by omega, h3⟩
theorem PRa.fin {base : Nat} {C : Nat → Prop} {g n c j N M : Nat} {v5 : Value} {l : List (Value × State)} {al : List Arc} {x : Value × State} {w : World} (h : PRa (fun k => k ≠ g ∧ C k) al v5 w) (h2 : TJ w base C (.slice (some ⟨g, 0, none⟩) n c) l j) (hn : n = l.length) (hj : l[j]? = some x)
    (hv : ∀ k, (.slice (some ⟨g, 0, none⟩) n c : Value).ownBlock = some k → C k) (hl : l.length ≤ N) (hm : ∀ y ∈ l, okS y.2 ∧ y.2.arcs.length ≤ M) (hM : M ≤ 1000) (hal : al.length ≤ M + 1) (ha : ∀ a ∈ al, okA a) : Fin_ (w.setCell ⟨g, j * 3, none⟩ v5) (.slice (some ⟨g, 0, none⟩) n c) C (N + 1) (M + 1) := by
  have hx := hm x (List.mem_of_getElem? hj)
  exact Fin_.set (x' := (v5, ⟨x.2.final, x.2.out, al⟩)) (h2.store (u := v5) (q := 0) hn hj (by omega) (by simp [sc]) h) hv hl hm ⟨⟨hx.1.1, by show al.length < _; omega, ha⟩, hal⟩
theorem acs_take {l : List Arc} {j j2 : Nat} {u : Value} (h : (acs (l.take j))[j2]? = some u) : (acs l)[j2]? = some u := by
  have hs : acs l = acs (l.take j) ++ acs (l.drop j) := by rw [← acs_append, List.take_append_drop]
  rw [hs, List.getElem?_append_left (List.getElem?_eq_some_iff.1 h).1]
  exact h
theorem acs_drop {l : List Arc} {j j2 : Nat} {u : Value} (hj : j ≤ l.length) (h : (acs (l.drop j))[j2]? = some u) : (acs l)[j * 3 + j2]? = some u := by
  have hs : acs l = acs (l.take j) ++ acs (l.drop j) := by rw [← acs_append, List.take_append_drop]
  have hl : (acs (l.take j)).length = j * 3 := by rw [acs_length, List.length_take, Nat.min_eq_left hj]
  rw [hs, List.getElem?_append_right (by omega), hl, Nat.add_sub_cancel_left]
  exact h
def PSl (w0 : World) (base n : Nat) (xs : List Value) : Stab.Pr := fun v w => w.ownsRow base 61 3 v n xs ∧ ∀ k, v.ownBlock = some k → w0.heap.size ≤ k
theorem PSl.stable (w0 : World) (base n : Nat) (xs : List Value) : Stab.Stable (PSl w0 base n xs) := fun v w w' hb h => ⟨own_later h.1 hb, h.2⟩
theorem scs_take {l : List (Value × State)} {j j2 : Nat} {u : Value} (h : (scs (l.take j))[j2]? = some u) : (scs l)[j2]? = some u := by
  have hs : scs l = scs (l.take j) ++ scs (l.drop j) := by rw [← scs_append, List.take_append_drop]
  rw [hs, List.getElem?_append_left (List.getElem?_eq_some_iff.1 h).1]
  exact h
theorem scs_mem_take {l : List (Value × State)} {j : Nat} {u : Value} (h : u ∈ scs (l.take j)) : u ∈ scs l := by
  have hs : scs l = scs (l.take j) ++ scs (l.drop j) := by rw [← scs_append, List.take_append_drop]
  rw [hs]; exact List.mem_append_left _ h
theorem scs_mem_drop {l : List (Value × State)} {j : Nat} {u : Value} (h : u ∈ scs (l.drop j)) : u ∈ scs l := by
  have hs : scs l = scs (l.take j) ++ scs (l.drop j) := by rw [← scs_append, List.take_append_drop]
  rw [hs]; exact List.mem_append_right _ h
theorem scs_drop {l : List (Value × State)} {j j2 : Nat} {u : Value} (hj : j ≤ l.length) (h : (scs (l.drop j))[j2]? = some u) : (scs l)[j * 3 + j2]? = some u := by
  have hs : scs l = scs (l.take j) ++ scs (l.drop j) := by rw [← scs_append, List.take_append_drop]
  have hl : (scs (l.take j)).length = j * 3 := by rw [scs_length, List.length_take, Nat.min_eq_left hj]
  rw [hs, List.getElem?_append_right (by omega), hl, Nat.add_sub_cancel_left]
  exact h
theorem scs_one {w : World} {l : List (Value × State)} {B : Nat → Prop} (h : ∀ x ∈ l, RA w B x.1 x.2.arcs) : ∀ u ∈ scs l, u.oneCell' = true := by
  intro u hu
  simp only [scs, List.mem_flatMap] at hu
  obtain ⟨x, hx, hu⟩ := hu
  obtain ⟨A, c, hv, _⟩ := (h x hx).form
  simp at hu
  rcases hu with rfl | rfl | rfl
  · rw [hv]; rfl
  · rfl
  · rfl
end Dw
end Go.Proofs.YtgjfhedgdbbinaaDoor
