/- As Tail, where some of the operations ahead lay fresh blocks, which are told apart. -/
import Derived.Test.YtdkbgbdgmihlmaaDoorTools
namespace Go.Proofs.YtdkbgbdgmihlmaaDoor
open Go.RowKit
set_option linter.unusedSimpArgs false
set_option linter.unusedVariables false
set_option linter.unnecessarySimpa false
namespace TailA
open Stab (Pr Here Deps Got OkOps Dep isPath)
open Tail (Seq chain1 chain_dep seq_any TL)
section
variable {P : Program} {Q : Exit → Act → World → Prop} {l : List Oper} {a0 : Act} {w0 : World} {ps : List Pr}
abbrev ptr (g : Nat) : Value := .pointer (some ⟨g, 0, none⟩)
/-- operation i lays a fresh block, and its pointer into slot d -/
structure Fresh (P : Program) (Q : Exit → Act → World → Prop) (l : List Oper) (i d : Nat) (ob : Obj) (p : Pr) : Prop where
  dst : ∃ o, l[i]? = some o ∧ o.dst = some d
  step : ∀ (a : Act) (w : World) (K : Act → World → Prop), K (a.put (some d) (ptr w.heap.size)) (w.alloc ob) → wpOp P l.toArray Q i K a w
  holds : ∀ w : World, p (ptr w.heap.size) (w.alloc ob)
/-- what is laid is there, and apart -/
def Parts (N : Nat) (al : List (Nat × Nat × Obj)) (C : Nat → Prop) (a : Act) (w : World) : Prop :=
  (∀ x ∈ al, C x.1 → ∃ g, a.tmps[x.2.1]? = some (ptr g) ∧ g < w.heap.size ∧ N ≤ g) ∧ ∀ x ∈ al, ∀ y ∈ al, x.1 ≠ y.1 → C x.1 → C y.1 → ∀ g g', a.tmps[x.2.1]? = some (ptr g) → a.tmps[y.2.1]? = some (ptr g') → g ≠ g'
theorem parts_old {N : Nat} {al : List (Nat × Nat × Obj)} {C C' : Nat → Prop} {a : Act} {w w' : World} {d : Option Nat} {v : Value} (h : Parts N al C a w) (hsz : w.heap.size ≤ w'.heap.size) (hC : ∀ x ∈ al, C' x.1 → C x.1) (hd : ∀ x ∈ al, C' x.1 → d ≠ some x.2.1) : Parts N al C' (a.put d v) w' := by
  refine ⟨fun x hx hc => ?_, fun x hx y hy hne hcx hcy g g' hg hg' => ?_⟩
  · obtain ⟨g, h1, h2, h3⟩ := h.1 x hx (hC x hx hc)
    exact ⟨g, by rw [Stab.put_get_ne _ _ _ _ (hd x hx hc)]; exact h1, by omega, h3⟩
  · rw [Stab.put_get_ne _ _ _ _ (hd x hx hcx)] at hg
    rw [Stab.put_get_ne _ _ _ _ (hd y hy hcy)] at hg'
    exact h.2 x hx y hy hne (hC x hx hcx) (hC y hy hcy) g g' hg hg'
theorem parts_new {N : Nat} {al : List (Nat × Nat × Obj)} {C : Nat → Prop} {a : Act} {w w' : World} {i d : Nat} (h : Parts N al C a w) (hN : N ≤ w.heap.size) (hsz : w'.heap.size = w.heap.size + 1) (hdl : d < a.tmps.size) (hi : ∀ x ∈ al, x.1 = i → x.2.1 = d) (hd : ∀ x ∈ al, x.1 ≠ i → x.2.1 ≠ d) : Parts N al (fun k => k = i ∨ C k) (a.put (some d) (ptr w.heap.size)) w' := by
  have hnew : (a.put (some d) (ptr w.heap.size)).tmps[d]? = some (ptr w.heap.size) := Stab.put_get _ _ _ hdl
  have hold : ∀ x ∈ al, x.1 ≠ i → (a.put (some d) (ptr w.heap.size)).tmps[x.2.1]? = a.tmps[x.2.1]? := fun x hx hne => Stab.put_get_ne _ _ _ _ (fun e => hd x hx hne (by injection e with e; exact e.symm))
  have hC : ∀ x ∈ al, x.1 ≠ i → (x.1 = i ∨ C x.1) → C x.1 := fun x hx hne hc => hc.resolve_left hne
  have hin : ∀ x ∈ al, x.1 ≠ i → (x.1 = i ∨ C x.1) → ∀ g, (a.put (some d) (ptr w.heap.size)).tmps[x.2.1]? = some (ptr g) → g < w.heap.size := by
    intro x hx hne hc g hg
    obtain ⟨g1, h1, h2, _⟩ := h.1 x hx (hC x hx hne hc)
    rw [hold x hx hne, h1] at hg
    injection hg with hg
    injection hg with hg
    injection hg with hg
    injection hg with hg
    omega
  refine ⟨fun x hx hc => ?_, fun x hx y hy hne hcx hcy g g' hg hg' => ?_⟩
  · by_cases hxi : x.1 = i
    · rw [hi x hx hxi]; exact ⟨_, hnew, by omega, hN⟩
    · obtain ⟨g, h1, h2, h3⟩ := h.1 x hx (hC x hx hxi hc)
      exact ⟨g, by rw [hold x hx hxi]; exact h1, by omega, h3⟩
  · by_cases hxi : x.1 = i
    · have hyi : y.1 ≠ i := fun e => hne (hxi.trans e.symm)
      rw [hi x hx hxi, hnew] at hg
      injection hg with hg
      injection hg with hg
      injection hg with hg
      injection hg with hg
      have := hin y hy hyi hcy g' hg'
      omega
    · by_cases hyi : y.1 = i
      · rw [hi y hy hyi, hnew] at hg'
        injection hg' with hg'
        injection hg' with hg'
        injection hg' with hg'
        injection hg' with hg'
        have := hin x hx hxi hcx g hg
        omega
      · rw [hold x hx hxi] at hg
        rw [hold y hy hyi] at hg'
        exact h.2 x hx y hy hne (hC x hx hxi hcx) (hC y hy hyi hcy) g g' hg hg'
theorem Parts.of {N : Nat} {al : List (Nat × Nat × Obj)} {C C' : Nat → Prop} {a : Act} {w : World} (h : Parts N al C a w) (hC : ∀ x ∈ al, C' x.1 → C x.1) : Parts N al C' a w :=
  ⟨fun x hx hc => h.1 x hx (hC x hx hc), fun x hx y hy hne hcx hcy => h.2 x hx y hy hne (hC x hx hcx) (hC y hy hcy)⟩
/-- what holds as long as only operations ahead of m are listed -/
theorem pre_anyA {al : List (Nat × Nat × Obj)} {m : Nat} (hal : ∀ x ∈ al, Fresh P Q l x.1 x.2.1 x.2.2 (Stab.look ps x.1)) (hml : m < l.length) (hlt : ∀ (k i : Nat), m ≤ k → k < l.length → i < k → Dep l.toArray k i) (hok : OkOps l.toArray a0.tmps.size) (hlen : ps.length = m)
    (hst : ∀ i, Stab.Stable (Stab.look ps i)) (hg : ∀ i, i < m → Stab.Step P l.toArray Q a0 w0 ps i (Stab.look ps i))
    (hfin : ∀ a w, Here l.toArray a0 w0 a w → (∀ i, i < m → Got l.toArray ps i a w) → Parts w0.heap.size al (· < m) a w → Seq P l Q (l.length - m) m a w) :
    ∀ (fuel : Nat) (listed : Array Bool) (a : Act) (w : World), listed.size = l.length → listed.toList.countP (! ·) ≤ fuel → (∀ i, m ≤ i → listed.getD i false = false) → Stab.Inv l.toArray a0 w0 ps listed a w → Parts w0.heap.size al (fun i => listed.getD i false = true) a w →
      wpAny P .any l.toArray Q fuel listed a w := by
  intro fuel
  induction fuel with
  | zero =>
    intro listed a w hls hc hm hI hpt
    exfalso
    have hpos : 0 < listed.toList.countP (! ·) := by
      rw [List.countP_pos_iff]
      have := hm m (Nat.le_refl _)
      have hms : m < listed.size := by omega
      refine ⟨listed[m], by simp, ?_⟩
      simp [hms] at this
      simp [this]
    omega
  | succ fuel ih =>
    intro listed a w hls hc hm hI hpt
    have hms : m < listed.size := by omega
    have hm0 : listed[m] = false := by have := hm m (Nat.le_refl _); simpa [hms] using this
    -- if all ahead of m are listed
    by_cases hall : ∀ i, i < m → listed.getD i false = true
    · refine seq_any hlt hok (l.length - m) m listed (fuel + 1) a w (by omega) (Nat.le_refl _) hls hc (fun i hi => ⟨fun h => ?_, hall i⟩) (fun i o hi => hI.closed i o (by simpa using hi)) (hfin a w hI.here (fun i hi => hI.got i (by simp; omega) (hall i hi)) (hpt.of fun x _ hx => hall x.1 hx))
      rcases Nat.lt_or_ge i m with h1 | h1
      · exact h1
      · rw [hm i h1] at h; cases h
    refine ⟨fun hr => ?_, fun i hi => ?_⟩
    · exfalso
      refine hall (fun i => ?_)
      induction i using Nat.strongRecOn with
      | _ i ihi =>
        intro him
        cases hl : listed.getD i false with
        | true => rfl
        | false =>
          exfalso
          have his : i < listed.size := by omega
          have hil : i < l.length := by omega
          have hmem : i ∈ Region.ready .any l.toArray listed := by
            rw [mem_ready]
            refine ⟨by simpa [his] using hl, l[i], by simp [hil], fun e he hb => ?_⟩
            have hlt := hok.back i l[i] (by simp [hil]) e he hb
            exact ihi e.on hlt (by omega)
          rw [hr] at hmem
          cases hmem
    · obtain ⟨h0, o, ho, hdeps⟩ := mem_ready.1 hi
      have hil : i < l.length := by have := (Array.getElem?_eq_some_iff.1 ho).1; simpa using this
      have hlt' : i < listed.size := by omega
      have h0' : listed[i] = false := by simpa [hlt'] using h0
      have him : i < m := by
        rcases Nat.lt_or_ge i m with h1 | h1
        · exact h1
        · exfalso
          exact hall fun x hx => Stab.dep_listed hI (hlt i x h1 hil (by omega)) (.inr hi)
      have goOn : ∀ v w', Below w.heap.size w w' → Stab.look ps i v w' → Parts w0.heap.size al (fun k => (listed.setIfInBounds i true).getD k false = true) (a.put o.dst v) w' → wpAny P .any l.toArray Q fuel (listed.setIfInBounds i true) (a.put o.dst v) w' := by
        intro v w' hb hp hpn
        refine ih _ _ _ (by simp [hls]) ?_ (fun x hx => by rw [getD_set_ne false (by omega)]; exact hm x hx) ⟨⟨hI.here.ext.trans (hb.mono hI.here.ext.size), (Stab.put_defers ..).trans hI.here.defers, (Stab.put_size ..).trans hI.here.size, fun t ht => (Stab.put_get_ne _ _ _ _ (ht i o ho)).trans (hI.here.old t ht)⟩, ?_, ?_, ?_⟩ hpn
        · have hset : (listed.setIfInBounds i true).toList = listed.toList.set i true := by simp
          have hpos : 0 < listed.toList.countP (! ·) := by
            rw [List.countP_pos_iff]
            exact ⟨listed[i], by simp, by simp [h0']⟩
          rw [hset, List.countP_set (by simpa using hlt')]
          simp only [Array.getElem_toList, h0', Bool.not_false, Bool.not_true, if_true, Bool.false_eq_true, if_false, Nat.add_zero]
          omega
        · intro k ok hk hl e he hb
          by_cases hki : i = k
          · subst hki
            rw [ho] at hk
            injection hk with hk
            subst hk
            exact getD_set_true (hdeps e he hb)
          · rw [getD_set_ne false hki] at hl
            exact getD_set_true (hI.closed k ok hk hl e he hb)
        · intro k hk hl
          by_cases hki : i = k
          · subst hki
            refine ⟨v, fun o'' d hk' hd => ?_, hp⟩
            rw [ho] at hk'
            injection hk' with hk'
            subst hk'
            rw [hd]
            exact Stab.put_get _ _ _ (by rw [hI.here.size]; exact hok.room i o d ho hd)
          · rw [getD_set_ne false hki] at hl
            obtain ⟨v', hv', hp'⟩ := hI.got k hk hl
            refine ⟨v', fun o'' d hk' hd => ?_, hst k _ _ _ hb hp'⟩
            rw [Stab.put_get_ne _ _ _ _ (fun he => hki (hok.apart i k o o'' d ho hk' he hd))]
            exact hv' o'' d hk' hd
        · intro t ht
          refine (Stab.put_get_ne _ _ _ _ (fun he => ?_)).trans (hI.keep t fun j oj hj hd => ?_)
          · have h9 := ht i o ho he
            simp [hlt'] at h9
          · have h9 := ht j oj hj hd
            by_cases hij : i = j
            · subst hij; simp [hlt'] at h9
            · rwa [getD_set_ne false hij] at h9
      have hset1 : ∀ k, k ≠ i → (listed.setIfInBounds i true).getD k false = true → listed.getD k false = true := fun k hk h => by rw [getD_set_ne false (fun e => hk e.symm)] at h; exact h
      have hdst : ∀ x ∈ al, ∀ ox : Oper, l[x.1]? = some ox → ox.dst = some x.2.1 := fun x hx ox hox => by
        obtain ⟨o1, h1, h2⟩ := (hal x hx).dst
        rw [hox] at h1; injection h1 with h1; rw [h1]; exact h2
      by_cases hx : ∃ x ∈ al, x.1 = i
      · obtain ⟨x, hx, rfl⟩ := hx
        have F := hal x hx
        have hod : o.dst = some x.2.1 := hdst x hx o (by simpa using ho)
        refine F.step a w _ ?_
        have hgo := goOn (ptr w.heap.size) (w.alloc x.2.2) ((Below.refl _ w).alloc (Nat.le_refl _) _) (F.holds w) ?_
        · rw [hod] at hgo; exact hgo
        · rw [hod]
          have hN := parts_new (i := x.1) (d := x.2.1) (w' := w.alloc x.2.2) hpt hI.here.ext.size (by simp) (by rw [hI.here.size]; exact hok.room x.1 o x.2.1 ho hod) (fun y hy he => by
            have h1 := hdst y hy o (by rw [he]; simpa using ho)
            rw [hod] at h1; injection h1 with h1; exact h1.symm) (fun y hy hne e => by
            obtain ⟨oy, h1, h2⟩ := (hal y hy).dst
            exact hne (hok.apart y.1 x.1 oy o x.2.1 (by simpa using h1) ho (by rw [h2, e]) hod))
          refine hN.of fun y hy hc => ?_
          by_cases hyi : y.1 = x.1
          · exact .inl hyi
          · exact .inr (hset1 y.1 hyi hc)
      · refine hg i him a w hI.here ⟨fun j hj hjp => ?_, fun t ht => ?_⟩ _ (fun o' ho' v w' hb hp => ?_)
        · exact hI.got j (by simp; omega) (Stab.dep_listed hI hj (.inr hi))
        · refine hI.keep t fun j oj hj hd => ?_
          have h9 : listed.getD i false = false := by simp [hlt', h0']
          rcases ht j oj hj hd with rfl | hdep
          · exact h9
          · cases hl : listed.getD j false with
            | false => rfl
            | true => rw [Stab.dep_listed hI hdep (.inl hl)] at h9; cases h9
        · rw [ho] at ho'
          injection ho' with ho'
          subst ho'
          refine goOn v w' hb hp (parts_old hpt hb.size (fun y hy hc => hset1 y.1 (fun e => hx ⟨y, hy, e⟩) hc) (fun y hy hc e => ?_))
          obtain ⟨oy, h1, h2⟩ := (hal y hy).dst
          exact hx ⟨y, hy, hok.apart y.1 i oy o y.2.1 (by simpa using h1) ho h2 e⟩

theorem todo_tailA {id n m : Nat} (al : List (Nat × Nat × Obj)) (hal : ∀ x ∈ al, Fresh P Q l x.1 x.2.1 x.2.2 (Stab.look ps x.1)) {ws : List (Nat × Nat × List Nat)} (hm : P.follows .mixedOrders = true) (hn : a0.tmps.size = n) (hok : OkOps l.toArray n) (hlen : ps.length = m) (hml : Nat.blt m l.length = true) (hch : chain1 l m ws = true)
    (hfin : ∀ a w, Here l.toArray a0 w0 a w → Hid (∀ i, i < m → Got l.toArray ps i a w) → Hid (Parts w0.heap.size al (· < m) a w) → TL P l Q m a w) : (Stab.Todo P id l.toArray Q a0 w0 ps) := by
  subst hn
  intro hg
  refine wp_region_any hm ?_
  refine pre_anyA hal (Nat.le_of_ble_eq_true hml) (fun k i h1 h2 h3 => chain_dep hch h1 h2 h3) hok hlen hg.1 (fun i hi => hg.2 i (by omega)) (fun a w hh hgot hpt => (hfin a w hh hgot (Lib.hid hpt)).out) _ _ _ _ (by simp) ?_ (fun i hi => ?_) ?_ ?_
  · exact Nat.le_trans List.countP_le_length (by simp)
  · by_cases h : i < l.length
    · simp [h]
    · simp [h]
  · refine ⟨⟨⟨rfl, rfl, rfl, Nat.le_refl _, fun _ _ => rfl⟩, rfl, rfl, fun _ _ => rfl⟩, fun i o ho hl => ?_, fun i hi hl => ?_, fun _ _ => rfl⟩
    · have hi := (Array.getElem?_eq_some_iff.1 ho).1
      simp at hi
      simp [hi] at hl
    · simp at hi
      simp [hi] at hl
  · refine ⟨fun x hx hc => ?_, fun x hx y hy hne hcx hcy => ?_⟩
    · exfalso
      obtain ⟨o, h1, _⟩ := (hal x hx).dst
      have h2 := (List.getElem?_eq_some_iff.1 h1).1
      simp [h2] at hc
    · exfalso
      obtain ⟨o, h1, _⟩ := (hal x hx).dst
      have h2 := (List.getElem?_eq_some_iff.1 h1).1
      simp [h2] at hcx
/-- an operation that is an alloc -/
theorem fresh_alloc {i d : Nat} {t : TypeId} {ob : Obj} {p : Pr} {o : Oper} (ho : l[i]? = some o) (hg : o.guard = none) (hd : o.dst = some d) (hop : o.op = .alloc t) (hr : ∀ (e : Operand → Value) (w : World), (execOp e o).run P w = .ok (.value (ptr w.heap.size)) (w.alloc ob)) (hp : ∀ w : World, p (ptr w.heap.size) (w.alloc ob)) : Fresh P Q l i d ob p :=
  ⟨⟨o, ho, hd⟩, fun a w K hK => Stab.op_plain ho hg (by unfold Oper.wp; rw [hr, Oper.upon_value, hd]; exact hK), hp⟩
theorem apart2 {al : List (Nat × Nat × Obj)} {m : Nat} {a : Act} {w : World} (h : Hid (Parts w0.heap.size al (· < m) a w)) (x y : Nat × Nat × Obj) (hx : x ∈ al) (hy : y ∈ al) (hne : (x.1 == y.1) = false) (hxm : Nat.blt x.1 m = true) (hym : Nat.blt y.1 m = true) {g g' : Nat} (hg : a.tmps[x.2.1]? = some (ptr g)) (hg' : a.tmps[y.2.1]? = some (ptr g')) : g ≠ g' :=
  h.out.2 x hx y hy (by simpa using hne) (Nat.le_of_ble_eq_true hxm) (Nat.le_of_ble_eq_true hym) g g' hg hg'
theorem low {al : List (Nat × Nat × Obj)} {m : Nat} {a : Act} {w : World} (h : Hid (Parts w0.heap.size al (· < m) a w)) (x : Nat × Nat × Obj) (hx : x ∈ al) (hxm : Nat.blt x.1 m = true) {g : Nat} (hg : a.tmps[x.2.1]? = some (ptr g)) : w0.heap.size ≤ g := by
  obtain ⟨g1, h1, _, h3⟩ := h.out.1 x hx (Nat.le_of_ble_eq_true hxm)
  rw [h1] at hg
  injection hg with hg
  injection hg with hg
  injection hg with hg
  injection hg with hg
  omega
/-- a fresh box -/
def PZ (cs : Array Value) (t : TypeId) : Pr := fun v w => ∃ g, v = ptr g ∧ w.heap[g]? = some (.cells cs t (0, 0))
theorem PZ.stable (cs : Array Value) (t : TypeId) : Stab.Stable (PZ cs t) := fun v w w' hb ⟨g, h1, h2⟩ => ⟨g, h1, (hb.block g (Array.getElem?_eq_some_iff.1 h2).1).trans h2⟩
theorem PZ.mk (cs : Array Value) (t : TypeId) (w : World) : PZ cs t (ptr w.heap.size) (w.alloc (.cells cs t)) := ⟨_, rfl, heap_alloc_new w _⟩
end
end TailA
end Go.Proofs.YtdkbgbdgmihlmaaDoor
