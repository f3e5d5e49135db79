/- A drawn region whose writes come in one order: the world is known at each of its stages; every value is known by a fact that hangs on no world. -/
import Derived.Test.YtgjfhedgdbbinaaDoorFact
namespace Go.Proofs.YtgjfhedgdbbinaaDoor
open Go.RowKit
set_option linter.unusedSimpArgs false
set_option linter.unusedVariables false
set_option linter.unnecessarySimpa false
namespace Stage
open Stab (Near Way Dep OkOps put_size put_defers put_get_ne put_get near_of way_of isPath dep1)
abbrev Pv := Value → Prop
def Is (V : Value) : Pv := fun v => v = V
def look : List Pv → Nat → Pv
  | [], _ => fun _ => True
  | p :: ps, k => if k = ps.length then p else look ps k
theorem look_cons_lt {p : Pv} {ps : List Pv} {k : Nat} (h : k < ps.length) : look (p :: ps) k = look ps k := by
  simp [look, Nat.ne_of_lt h]
theorem look_cons_eq {p : Pv} {ps : List Pv} : look (p :: ps) ps.length = p := by simp [look]
theorem look_rev (ps : List Pv) (i : Nat) (p : Pv) (h : ps.reverse[i]? = some p) : look ps i = p := by
  induction ps with
  | nil => simp at h
  | cons q ps ih =>
    rw [List.reverse_cons] at h
    by_cases he : i = ps.length
    · subst he
      rw [look_cons_eq]
      rw [List.getElem?_append_right (by simp)] at h
      simpa using h
    · rcases Nat.lt_or_ge i ps.length with hlt | hge
      · rw [look_cons_lt hlt]
        rw [List.getElem?_append_left (by simpa using hlt)] at h
        exact ih h
      · rw [List.getElem?_append_right (by simpa using hge)] at h
        simp at h
        have := (List.getElem?_eq_some_iff.1 h).1
        simp at this
        omega
section
variable (P : Program) (l : List Oper) (Q : Exit → Act → World → Prop) (a0 : Act) (es : List Nat) (Wd : Nat → World → Prop)
def Got (ps : List Pv) (i : Nat) (a : Act) : Prop := ∃ v, (∀ (o : Oper) (d : Nat), l[i]? = some o → o.dst = some d → a.tmps[d]? = some v) ∧ look ps i v
structure Here (a : Act) : Prop where
  defers : a.defers = a0.defers
  size : a.tmps.size = a0.tmps.size
  old : ∀ t : Nat, (∀ (i : Nat) (o : Oper), l[i]? = some o → o.dst ≠ some t) → a.tmps[t]? = a0.tmps[t]?
/-- How an operation stands to the stages: it looks at no world; it looks at the world of a stage; it leads from a stage to the next. -/
structure Kind where
  looks : Option Nat
  leads : Bool
/-- the kind fits the edges -/
def kindOk (i : Nat) (c : Kind) : Prop :=
  match c.looks with
  | none => i ∉ es
  | some k => k ≤ es.length ∧ (∀ j e, k = j + 1 → es[j]? = some e → Dep l.toArray i e) ∧
      if c.leads then es[k]? = some i else (i ∉ es ∧ ∀ e, es[k]? = some e → Dep l.toArray e i)
def after (c : Kind) (k : Nat) : Nat := if c.leads then k + 1 else k
/-- What is to be shown of operation i. -/
def Step (ps : List Pv) (i : Nat) (c : Kind) (p : Pv) : Prop :=
  ∀ a w k, (∀ k', c.looks = some k' → k = k') → Here l a0 a → Wd k w → (∀ j, Dep l.toArray i j → j < ps.length → Got l ps j a) → ∀ K : Act → World → Prop,
    (∀ o : Oper, l[i]? = some o → ∀ v w', Wd (after c k) w' → p v → K (a.put o.dst v) w') → wpOp P l.toArray Q i K a w
def Good (ps : List Pv) (cs : List Kind) : Prop := cs.length = ps.length ∧ ∀ i, i < ps.length → ∃ c, kindOk l es i c ∧ (c.looks = none → c.leads = false) ∧ Step P l Q a0 Wd ps i c (look ps i)
structure Inv (ps : List Pv) (listed : Array Bool) (a : Act) (w : World) : Prop where
  here : Here l a0 a
  closed : ∀ (i : Nat) (o : Oper), l[i]? = some o → listed.getD i false = true → ∀ e ∈ o.after, Region.binds .any e = true → listed.getD e.on false = true
  got : ∀ i, i < l.length → listed.getD i false = true → Got l ps i a
  stage : ∃ k, k ≤ es.length ∧ (∀ j e, j < k → es[j]? = some e → listed.getD e false = true) ∧ (∀ j e, k ≤ j → es[j]? = some e → listed.getD e false = false) ∧ Wd k w
end
section
variable {P : Program} {l : List Oper} {Q : Exit → Act → World → Prop} {a0 : Act} {es : List Nat} {Wd : Nat → World → Prop} {ps : List Pv} {cs : List Kind}
theorem near_listed {listed : Array Bool} {a : Act} {w : World} (h : Inv l a0 es Wd ps listed a w) {i j : Nat} (hd : Near l.toArray i j)
    (hl : listed.getD i false = true ∨ i ∈ Region.ready .any l.toArray listed) : listed.getD j false = true := by
  obtain ⟨o, e, hi, he, hb, hj⟩ := hd
  rw [← hj]
  rcases hl with hl | hl
  · exact h.closed _ _ (by simpa using hi) hl e he hb
  · obtain ⟨_, o', ho', hall⟩ := mem_ready.1 hl
    rw [hi] at ho'
    injection ho' with ho'
    subst ho'
    exact hall e he hb
theorem dep_listed {listed : Array Bool} {a : Act} {w : World} (h : Inv l a0 es Wd ps listed a w) {i j : Nat} (hd : Dep l.toArray i j)
    (hl : listed.getD i false = true ∨ i ∈ Region.ready .any l.toArray listed) : listed.getD j false = true := by
  obtain ⟨ks, hw⟩ := hd
  induction ks generalizing i with
  | nil => exact near_listed h hw hl
  | cons k ks ih => exact ih (.inl (near_listed h hw.1 hl)) hw.2

theorem any_inv (hes : es.Nodup) (hok : OkOps l.toArray a0.tmps.size) (hlen : ps.length = l.length) (hg : Good P l Q a0 es Wd ps cs)
    (hel : ∀ e ∈ es, e < l.length)
    (hfin : ∀ a w, Here l a0 a → (∀ i, i < l.length → Got l ps i a) → Wd es.length w → Q .normal a w) :
    ∀ (fuel : Nat) (listed : Array Bool) (a : Act) (w : World), listed.size = l.length → (listed.toList.countP (! ·)) ≤ fuel → Inv l a0 es Wd ps listed a w →
      wpAny P .any l.toArray Q fuel listed a w := by
  have hall : ∀ (listed : Array Bool) (a : Act) (w : World), listed.size = l.length → Inv l a0 es Wd ps listed a w → Region.ready .any l.toArray listed = [] → Q .normal a w := by
    intro listed a w hls hI hr
    have hlisted : ∀ n i, i < n → i < l.length → listed.getD i false = true := by
      intro n
      induction n with
      | zero => intro i h; omega
      | succ n ih =>
        intro i hi his
        by_cases hin : i < n
        · exact ih i hin his
        · have hieq : i = n := by omega
          subst hieq
          cases hl : listed.getD i false with
          | true => rfl
          | false =>
            exfalso
            have hmem : i ∈ Region.ready .any l.toArray listed := by
              rw [mem_ready]
              have hlt : i < listed.size := by omega
              refine ⟨by simpa [hlt] using hl, l[i], by simp [his], fun e he hb => ?_⟩
              have hlt := hok.back i l[i] (by simp [his]) e he hb
              exact ih e.on hlt (by omega)
            rw [hr] at hmem
            cases hmem
    obtain ⟨k, hk, h1, h2, hw⟩ := hI.stage
    have hke : k = es.length := by
      rcases Nat.lt_or_ge k es.length with hlt | hge
      · have h3 := h2 k es[k] (Nat.le_refl _) (List.getElem?_eq_getElem hlt)
        have h4 := hlisted (es[k] + 1) es[k] (by omega) (hel _ (List.getElem_mem hlt))
        rw [h3] at h4
        cases h4
      · omega
    subst hke
    exact hfin a w hI.here (fun i hi => hI.got i hi (hlisted (i + 1) i (by omega) hi)) hw
  intro fuel
  induction fuel with
  | zero =>
    intro listed a w hls hc hI
    have hr : Region.ready .any l.toArray listed = [] := by
      rw [List.eq_nil_iff_forall_not_mem]
      intro i hi
      obtain ⟨h0, o, ho, _⟩ := mem_ready.1 hi
      have hlt : i < listed.size := by have := (Array.getElem?_eq_some_iff.1 ho).1; simp at this; omega
      have hpos : 0 < listed.toList.countP (! ·) := by
        rw [List.countP_pos_iff]
        refine ⟨listed[i], by simp, ?_⟩
        simp [hlt] at h0
        simp [h0]
      omega
    exact ⟨hr, hall listed a w hls hI hr⟩
  | succ fuel ih =>
    intro listed a w hls hc hI
    refine ⟨hall listed a w hls hI, fun i hi => ?_⟩
    obtain ⟨h0, o, ho, hdeps⟩ := mem_ready.1 hi
    have his : i < l.length := by have := (Array.getElem?_eq_some_iff.1 ho).1; simpa using this
    have hol : l[i]? = some o := by simpa using ho
    have hlt : i < listed.size := by omega
    have h0' : listed[i] = false := by simpa [hlt] using h0
    have h0f : listed.getD i false = false := by simpa [hlt] using h0'
    obtain ⟨c, hko, hcl, hst⟩ := hg.2 i (by omega)
    obtain ⟨k, hk, hk1, hk2, hw⟩ := hI.stage
    have hkk : ∀ k', c.looks = some k' → k = k' := by
      intro k' hc'
      unfold kindOk at hko
      simp only [hc'] at hko
      obtain ⟨hle, hdep, hrest⟩ := hko
      have hge : k' ≤ k := by
        rcases Nat.eq_zero_or_pos k' with h | h
        · omega
        · obtain ⟨j, rfl⟩ : ∃ j, k' = j + 1 := ⟨k' - 1, by omega⟩
          rcases Nat.lt_or_ge j k with hjk | hjk
          · omega
          · exfalso
            have hjl : j < es.length := by omega
            have h1 := hk2 j es[j] hjk (List.getElem?_eq_getElem hjl)
            have h2 := dep_listed hI (hdep j es[j] rfl (List.getElem?_eq_getElem hjl)) (.inr hi)
            rw [h1] at h2; cases h2
      rcases Nat.lt_or_ge k' k with hlt' | hge'
      · exfalso
        have hkl : k' < es.length := by omega
        have h1 := hk1 k' es[k'] hlt' (List.getElem?_eq_getElem hkl)
        cases hcd : c.leads with
        | true =>
          rw [hcd] at hrest
          simp only [if_true] at hrest
          rw [List.getElem?_eq_getElem hkl] at hrest
          injection hrest with hrest
          rw [hrest, h0f] at h1; cases h1
        | false =>
          rw [hcd] at hrest
          simp only [Bool.false_eq_true, if_false] at hrest
          have h2 := dep_listed hI (hrest.2 es[k'] (List.getElem?_eq_getElem hkl)) (.inl h1)
          rw [h0f] at h2; cases h2
      · omega
    refine hst a w k hkk hI.here hw (fun j hj hjp => ?_) _ (fun o' ho' v w' hw' hp => ?_)
    · exact hI.got j (by omega) (dep_listed hI hj (.inr hi))
    · rw [hol] at ho'
      injection ho' with ho'
      subst ho'
      refine ih _ _ _ (by simp [hls]) ?_ ⟨⟨(put_defers ..).trans hI.here.defers, (put_size ..).trans hI.here.size, fun t ht => (put_get_ne _ _ _ _ (ht i o hol)).trans (hI.here.old t ht)⟩, ?_, ?_, ?_⟩
      · have hset : (listed.setIfInBounds i true).toList = listed.toList.set i true := by simp
        rw [hset, List.countP_set (by simpa using hlt)]
        simp [h0']
        have : 0 < listed.toList.countP (! ·) := by
          rw [List.countP_pos_iff]
          exact ⟨listed[i], by simp, by simp [h0']⟩
        simp only [Array.countP_toList] at this hc
        omega
      · intro k2 ok hk2' hl e he hb
        by_cases hki : i = k2
        · subst hki
          rw [hol] at hk2'
          injection hk2' with hk2'
          subst hk2'
          exact getD_set_true (hdeps e he hb)
        · rw [getD_set_ne false hki] at hl
          exact getD_set_true (hI.closed k2 ok hk2' hl e he hb)
      · intro k2 hk2' hl
        by_cases hki : i = k2
        · subst hki
          refine ⟨v, fun o'' d hk' hd => ?_, hp⟩
          rw [hol] at hk'
          injection hk' with hk'
          subst hk'
          rw [hd]
          exact put_get _ _ _ (by rw [hI.here.size]; exact hok.room i o d ho hd)
        · rw [getD_set_ne false hki] at hl
          obtain ⟨v', hv', hp'⟩ := hI.got k2 hk2' hl
          refine ⟨v', fun o'' d hk' hd => ?_, hp'⟩
          rw [put_get_ne _ _ _ _ (fun he => hki (hok.apart i k2 o o'' d ho (by simpa using hk') he hd))]
          exact hv' o'' d hk' hd
      · unfold after at hw'
        cases hcd : c.leads with
        | false =>
          rw [hcd] at hw'
          simp only [Bool.false_eq_true, if_false] at hw'
          have hie : i ∉ es := by
            unfold kindOk at hko
            cases hlk : c.looks with
            | none => simpa [hlk] using hko
            | some k' => simp only [hlk, hcd] at hko; exact hko.2.2.1
          refine ⟨k, hk, fun j e hj he => getD_set_true (hk1 j e hj he), fun j e hj he => ?_, hw'⟩
          have hne : i ≠ e := fun h => hie (h ▸ List.mem_of_getElem? he)
          rw [getD_set_ne false hne]; exact hk2 j e hj he
        | true =>
          rw [hcd] at hw'
          simp only [if_true] at hw'
          have hei : es[k]? = some i := by
            unfold kindOk at hko
            cases hlk : c.looks with
            | none => have := hcl hlk; rw [hcd] at this; cases this
            | some k' =>
              have := hkk k' hlk
              subst this
              simp only [hlk, hcd, if_true] at hko
              exact hko.2.2
          have hkl : k < es.length := (List.getElem?_eq_some_iff.1 hei).1
          refine ⟨k + 1, by omega, fun j e hj he => ?_, fun j e hj he => ?_, hw'⟩
          · rcases Nat.lt_or_ge j k with h | h
            · exact getD_set_true (hk1 j e h he)
            · have : j = k := by omega
              subst this
              rw [hei] at he
              injection he with he
              subst he
              simp [hlt]
          · have hne : i ≠ e := by
              intro h
              subst h
              have hjl := (List.getElem?_eq_some_iff.1 he).1
              have e1 := (List.getElem?_eq_some_iff.1 hei).2
              have e2 := (List.getElem?_eq_some_iff.1 he).2
              exact List.pairwise_iff_getElem.1 hes k j hkl hjl (by omega) (e1.trans e2.symm)
            rw [getD_set_ne false hne]; exact hk2 j e (by omega) he

def Todo (P : Program) (id : Nat) (l : List Oper) (Q : Exit → Act → World → Prop) (a0 : Act) (w0 : World) (es : List Nat) (Wd : Nat → World → Prop) (ps : List Pv) (cs : List Kind) : Prop :=
  Good P l Q a0 es Wd ps cs → (Code.region id l.toArray true).wp P Q a0 w0
theorem begin_ {id n : Nat} {w0 : World} (es : List Nat) (Wd : Nat → World → Prop) (hok : OkOps l.toArray n) (h : Hid (OkOps l.toArray n) → Todo P id l Q a0 w0 es Wd [] []) : (Code.region id l.toArray true).wp P Q a0 w0 :=
  h (Lib.hid hok) ⟨rfl, fun i hi => absurd hi (by simp)⟩
theorem step_ {id k n : Nat} {w0 : World} (c : Kind) (p : Pv) (hn : a0.tmps.size = n) (hok : OkOps l.toArray n) (hk : ps.length = k) (hkd : kindOk l es k c) (hcl : c.looks = none → c.leads = false)
    (h : ∀ a w m, (∀ k', c.looks = some k' → m = k') → Here l a0 a → Wd m w → Hid (∀ j, Dep l.toArray k j → j < ps.length → Got l ps j a) → ps.length = k → ∀ K : Act → World → Prop,
      Hid (∀ o : Oper, l[k]? = some o → ∀ v w', Wd (after c m) w' → p v → K (a.put o.dst v) w') → wpOp P l.toArray Q k K a w)
    (rest : Todo P id l Q a0 w0 es Wd (p :: ps) (c :: cs)) : Todo P id l Q a0 w0 es Wd ps cs := by
  subst hn
  intro hg
  refine rest ⟨by simp [hg.1], fun i hi => ?_⟩
  have hgot : ∀ (a : Act), (∀ j, Dep l.toArray i j → j < (p :: ps).length → Got l (p :: ps) j a) → ∀ j, Dep l.toArray i j → j < ps.length → Got l ps j a := fun a hd j hj hjl => by
    obtain ⟨v, hv, hp⟩ := hd j hj (by simp; omega)
    exact ⟨v, hv, by rwa [look_cons_lt hjl] at hp⟩
  by_cases he : i = ps.length
  · subst he
    rw [look_cons_eq]
    refine ⟨c, hk ▸ hkd, hcl, fun a w m hm hh hw hd K hK => ?_⟩
    exact hk ▸ h a w m hm hh hw (hk ▸ hgot a hd) hk K (hk ▸ hK)
  · have hlt : i < ps.length := by simp at hi; omega
    rw [look_cons_lt hlt]
    obtain ⟨c', h1, h2, h3⟩ := hg.2 i hlt
    exact ⟨c', h1, h2, fun a w m hm hh hw hd K hK => h3 a w m hm hh hw (hgot a hd) K hK⟩
/-- how an operation stands to the stages, by a reckoning -/
def chk (l : List Oper) (es : List Nat) (i k : Nat) (leads : Bool) (p1 p2 : List Nat) : Bool :=
  (match k with
    | 0 => true
    | j + 1 => match es[j]? with
      | some e => isPath l i p1 e
      | none => false) && decide (k ≤ es.length) &&
  (if leads then decide (es[k]? = some i) else (!es.contains i && match es[k]? with
    | some e => isPath l e p2 i
    | none => true))
theorem kind_of {i k : Nat} {leads : Bool} (p1 p2 : List Nat) (h : chk l es i k leads p1 p2 = true) : kindOk l es i ⟨some k, leads⟩ := by
  simp only [chk, Bool.and_eq_true, decide_eq_true_eq] at h
  obtain ⟨⟨h1, h2⟩, h3⟩ := h
  refine ⟨h2, fun j e hj he => ?_, ?_⟩
  · subst hj
    simp only [he] at h1
    exact Stab.Dep.of p1 h1
  · cases leads with
    | true => simpa using h3
    | false =>
      simp only [Bool.false_eq_true, if_false, Bool.and_eq_true, Bool.not_eq_true', List.contains_eq_mem, decide_eq_false_iff_not] at h3
      refine ⟨h3.1, fun e he => ?_⟩
      have h4 := h3.2
      simp only [he] at h4
      exact Stab.Dep.of p2 h4
theorem kind_pure {i : Nat} (h : es.contains i = false) : kindOk l es i ⟨none, false⟩ := by
  have : i ∉ es := by simpa using h
  exact this
/-- an operation that looks at no world: a value -/
theorem todo_pure {id k n : Nat} {w0 : World} (V : Value) (hn : a0.tmps.size = n) (hok : OkOps l.toArray n) (hk : ps.length = k) (hc : es.contains k = false)
    (h : ∀ a w, Here l a0 a → Hid (∀ j, Dep l.toArray k j → j < ps.length → Got l ps j a) → ps.length = k → ∀ K : Act → World → Prop,
      Hid (∀ o : Oper, l[k]? = some o → ∀ v, v = V → K (a.put o.dst v) w) → wpOp P l.toArray Q k K a w)
    (rest : Todo P id l Q a0 w0 es Wd (Is V :: ps) (⟨none, false⟩ :: cs)) : Todo P id l Q a0 w0 es Wd ps cs :=
  step_ ⟨none, false⟩ (Is V) hn hok hk (kind_pure hc) (fun _ => rfl) (fun a w m _ hh hw hd hk K hK => h a w hh hd hk K (Lib.hid fun o ho v hv => hK.out o ho v w hw hv)) rest
/-- one that looks at the world of a stage, and leaves it -/
theorem todo_look {id k n : Nat} {w0 : World} (m : Nat) (p1 p2 : List Nat) (V : Value) (hn : a0.tmps.size = n) (hok : OkOps l.toArray n) (hk : ps.length = k) (hc : chk l es k m false p1 p2 = true)
    (h : ∀ a w, Here l a0 a → Wd m w → Hid (∀ j, Dep l.toArray k j → j < ps.length → Got l ps j a) → ps.length = k → ∀ K : Act → World → Prop,
      Hid (∀ o : Oper, l[k]? = some o → ∀ v w', Wd m w' → v = V → K (a.put o.dst v) w') → wpOp P l.toArray Q k K a w)
    (rest : Todo P id l Q a0 w0 es Wd (Is V :: ps) (⟨some m, false⟩ :: cs)) : Todo P id l Q a0 w0 es Wd ps cs :=
  step_ ⟨some m, false⟩ (Is V) hn hok hk (kind_of p1 p2 hc) (fun e => by cases e) (fun a w m' hm hh hw hd hk K hK => by
    obtain rfl := hm m rfl
    exact h a w hh hw hd hk K hK) rest
/-- one that leads from a stage to the next -/
theorem todo_lead {id k n : Nat} {w0 : World} (m : Nat) (p1 : List Nat) (p : Pv) (hn : a0.tmps.size = n) (hok : OkOps l.toArray n) (hk : ps.length = k) (hc : chk l es k m true p1 [] = true)
    (h : ∀ a w, Here l a0 a → Wd m w → Hid (∀ j, Dep l.toArray k j → j < ps.length → Got l ps j a) → ps.length = k → ∀ K : Act → World → Prop,
      Hid (∀ o : Oper, l[k]? = some o → ∀ v w', Wd (m + 1) w' → p v → K (a.put o.dst v) w') → wpOp P l.toArray Q k K a w)
    (rest : Todo P id l Q a0 w0 es Wd (p :: ps) (⟨some m, true⟩ :: cs)) : Todo P id l Q a0 w0 es Wd ps cs :=
  step_ ⟨some m, true⟩ p hn hok hk (kind_of p1 [] hc) (fun e => by cases e) (fun a w m' hm hh hw hd hk K hK => by
    obtain rfl := hm m rfl
    exact h a w hh hw hd hk K hK) rest
theorem use {k j m d : Nat} {p : Pv} {o : Oper} {a : Act} (hd : Hid (∀ j, Dep l.toArray k j → j < ps.length → Got l ps j a)) (hk : ps.length = k) (hm : j + m + 1 = k)
    (ks : List Nat) (hks : isPath l k ks j = true) (hp : ps[m]? = some p) (ho : l[j]? = some o) (hdst : o.dst = some d) : ∃ v, a.tmps[d]? = some v ∧ p v := by
  obtain ⟨v, hv, hl⟩ := hd.out j (Stab.Dep.of ks hks) (by omega)
  refine ⟨v, hv o d ho hdst, ?_⟩
  have hlt := (List.getElem?_eq_some_iff.1 hp).1
  have : look ps j = p := look_rev ps j p (by rw [List.getElem?_reverse (by omega)]; rw [← hp]; congr 1; omega)
  rwa [this] at hl
theorem use_is {k j m d : Nat} {V : Value} {o : Oper} {a : Act} (hd : Hid (∀ j, Dep l.toArray k j → j < ps.length → Got l ps j a)) (hk : ps.length = k) (hm : j + m + 1 = k)
    (ks : List Nat) (hks : isPath l k ks j = true) (hp : ps[m]? = some (Is V)) (ho : l[j]? = some o) (hdst : o.dst = some d) : a.tmps[d]? = some V := by
  obtain ⟨v, hv, hl⟩ := use hd hk hm ks hks hp ho hdst
  rw [hv, show v = V from hl]
theorem old_at {t : Nat} {x : Value} {a : Act} (hh : Here l a0 a) (hn : Stab.noDst l t = true) (hx : a0.tmps[t]? = some x) : a.tmps[t]? = some x := by
  rw [hh.old t ?_, hx]
  intro i o ho hd
  have := List.all_eq_true.1 hn o (List.mem_of_getElem? ho)
  simp [hd] at this
theorem todo_facts {id n : Nat} {w0 : World} (hm : P.follows .mixedOrders = true) (hn : a0.tmps.size = n) (hok : OkOps l.toArray n) (hlen : ps.length = l.length) (hes : es.Nodup) (hel : ∀ e ∈ es, e < l.length) (h0 : Wd 0 w0.drew)
    (hfin : ∀ a w, Here l a0 a → Hid (∀ i, i < l.length → Got l ps i a) → Wd es.length w → Q .normal a w) : Todo P id l Q a0 w0 es Wd ps cs := by
  subst hn
  intro hg
  refine wp_region_any hm ?_
  refine any_inv hes hok hlen hg hel (fun a w hh hgot hw => hfin a w hh (Lib.hid hgot) hw) _ _ _ _ (by simp) ?_ ?_
  · exact Nat.le_trans List.countP_le_length (by simp)
  · refine ⟨⟨rfl, rfl, fun _ _ => rfl⟩, fun i o ho hl => ?_, fun i hi hl => ?_, 0, Nat.zero_le _, fun j e hj => absurd hj (by omega), fun j e hj he => ?_, h0⟩
    · have hi := (List.getElem?_eq_some_iff.1 ho).1
      simp [hi] at hl
    · simp [hi] at hl
    · have := hel e (List.mem_of_getElem? he)
      simp [this]
theorem end_is {j m d : Nat} {V : Value} {o : Oper} {a : Act} (hg : Hid (∀ i, i < l.length → Got l ps i a)) (hm : j + m + 1 = ps.length)
    (hp : ps[m]? = some (Is V)) (ho : l[j]? = some o) (hdst : o.dst = some d) : a.tmps[d]? = some V := by
  obtain ⟨v, hv, hl⟩ := hg.out j (List.getElem?_eq_some_iff.1 ho).1
  have hlt := (List.getElem?_eq_some_iff.1 hp).1
  have : look ps j = Is V := look_rev ps j _ (by rw [List.getElem?_reverse (by omega)]; rw [← hp]; congr 1; omega)
  rw [this] at hl
  rw [hv o d ho hdst, show v = V from hl]
/-- a move of a slot that no operation of the region writes -/
theorem mvO {id k n u : Nat} {w0 : World} {V : Value} {o : Oper} (s : a0.tmps[u]? = some V) (hn : a0.tmps.size = n) (hok : OkOps l.toArray n) (hk : ps.length = k) (ho : l[k]? = some o) (hg : o.guard = none) (hop : o.op = .move (.tmp u) ∨ o.op = .assign (.tmp u)) (hnd : Stab.noDst l u = true) (hc : es.contains k = false)
    (rest : Todo P id l Q a0 w0 es Wd (Is V :: ps) (⟨none, false⟩ :: cs)) : Todo P id l Q a0 w0 es Wd ps cs :=
  todo_pure V hn hok hk hc (fun a w hh hd _ K hK => Stab.op_plain ho hg (by
    have hs := old_at hh hnd s
    have he : a.eval (.tmp u) = V := by simp [Act.eval, hs]
    have h2 := hK.out o ho V rfl
    rw [← he] at h2
    unfold Oper.wp execOp
    rcases hop with h | h <;> rw [h] <;> exact h2)) rest
/-- a move of a slot that an operation ahead has written -/
theorem mvN {id k n u j m : Nat} {w0 : World} {V : Value} {o oj : Oper} (hn : a0.tmps.size = n) (hok : OkOps l.toArray n) (hk : ps.length = k) (ho : l[k]? = some o) (hg : o.guard = none) (hop : o.op = .move (.tmp u) ∨ o.op = .assign (.tmp u))
    (hm : j + m + 1 = k) (ks : List Nat) (hks : isPath l k ks j = true) (hp : ps[m]? = some (Is V)) (hoj : l[j]? = some oj) (hdst : oj.dst = some u) (hc : es.contains k = false)
    (rest : Todo P id l Q a0 w0 es Wd (Is V :: ps) (⟨none, false⟩ :: cs)) : Todo P id l Q a0 w0 es Wd ps cs :=
  todo_pure V hn hok hk hc (fun a w hh hd hk K hK => Stab.op_plain ho hg (by
    have hs := use_is hd hk hm ks hks hp hoj hdst
    have he : a.eval (.tmp u) = V := by simp [Act.eval, hs]
    have h2 := hK.out o ho V rfl
    rw [← he] at h2
    unfold Oper.wp execOp
    rcases hop with h | h <;> rw [h] <;> exact h2)) rest
theorem u (j m : Nat) {k d : Nat} {V : Value} {o : Oper} {a : Act} (hd : Hid (∀ j, Dep l.toArray k j → j < ps.length → Got l ps j a)) (hk : ps.length = k) (hm : j + m + 1 = k)
    (ks : List Nat) (hks : isPath l k ks j = true) (hp : ps[m]? = some (Is V)) (ho : l[j]? = some o) (hdst : o.dst = some d) : a.tmps[d]? = some V := use_is hd hk hm ks hks hp ho hdst
theorem e (j m : Nat) {d : Nat} {V : Value} {o : Oper} {a : Act} (hg : Hid (∀ i, i < l.length → Got l ps i a)) (hm : j + m + 1 = ps.length)
    (hp : ps[m]? = some (Is V)) (ho : l[j]? = some o) (hdst : o.dst = some d) : a.tmps[d]? = some V := end_is hg hm hp ho hdst
theorem o {t : Nat} {x : Value} {a : Act} (hh : Here l a0 a) (hn : Stab.noDst l t = true) (hx : a0.tmps[t]? = some x) : a.tmps[t]? = some x := old_at hh hn hx
theorem t (k : Nat) {id n : Nat} {w0 : World} (V : Value) (hn : a0.tmps.size = n) (hok : OkOps l.toArray n) (hk : ps.length = k) (hc : es.contains k = false)
    (h : ∀ a w, Here l a0 a → Hid (∀ j, Dep l.toArray k j → j < ps.length → Got l ps j a) → ps.length = k → ∀ K : Act → World → Prop,
      Hid (∀ o : Oper, l[k]? = some o → ∀ v, v = V → K (a.put o.dst v) w) → wpOp P l.toArray Q k K a w)
    (rest : Todo P id l Q a0 w0 es Wd (Is V :: ps) (⟨none, false⟩ :: cs)) : Todo P id l Q a0 w0 es Wd ps cs := todo_pure V hn hok hk hc h rest
end
end Stage
end Go.Proofs.YtgjfhedgdbbinaaDoor
