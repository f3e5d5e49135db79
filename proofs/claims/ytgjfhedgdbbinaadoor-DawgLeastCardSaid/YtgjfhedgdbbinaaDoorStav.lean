/- As Stam, but what a store has left is told of the address that it stored to (the slot is known at the end). A drawn region of which some operations change what was there (specials), all of it within blocks of S: one fact for each operation; what a special may undo is used ahead of it alone; what lies off S may be read at any time. -/
import Derived.KernelRfl
import Derived.Test.YtgjfhedgdbbinaaDoorTools
namespace Go.Proofs.YtgjfhedgdbbinaaDoor
open Go.RowKit
open Stab (Pr Stable Is Any look look_cons_lt look_cons_eq look_ge look_rev Near Way Dep OkOps put_size put_defers put_get_ne put_get dep1 isPath near_of way_of noDst onlyDst op_plain op_guard op_skip op_skip')
set_option linter.unusedSimpArgs false
set_option linter.unusedVariables false
set_option linter.unnecessarySimpa false
namespace Stav
/-- What hangs on no world. -/
def Wl (p : Pr) : Prop := ∀ v w w', p v w → p v w'
theorem Wl.is (V : Value) : Wl (Is V) := fun _ _ _ h => h
/-- the slot that tells of an operation: its own, or a store's address -/
def tgt (o : Oper) : Option Nat := match o.dst with
  | some d => some d
  | none => match o.op with
    | .store _ (.tmp t) _ => some t
    | _ => none
theorem tgt_of {o : Oper} {d : Nat} (h : o.dst = some d) : tgt o = some d := by unfold tgt; rw [h]
section
variable (P : Program) (ops : Array Oper) (Q : Exit → Act → World → Prop) (a0 : Act) (w0 : World) (S : Nat → Nat → Prop) (es : List Nat)
/-- What operation i has left, if C. -/
def Got (ps : List Pr) (C : Prop) (i : Nat) (a : Act) (w : World) : Prop := ∃ v, (∀ (o : Oper) (d : Nat), ops[i]? = some o → tgt o = some d → a.tmps[d]? = some v) ∧ (C ∨ Wl (Stab.look ps i) → Stab.look ps i v w)
structure Here (C : Prop) (Bt : (Nat → Prop) → Prop) (a : Act) (w : World) : Prop where
  ext : C → Below w0.heap.size w0 w
  but : ∀ T : Nat → Prop, Bt T → But T w0 w
  defers : a.defers = a0.defers
  size : a.tmps.size = a0.tmps.size
  old : ∀ t : Nat, (∀ (i : Nat) (o : Oper), ops[i]? = some o → o.dst ≠ some t) → a.tmps[t]? = a0.tmps[t]?
/-- no special has come ahead of k -/
def Pure (k : Nat) : Prop := ∀ m, m ∈ es → m = k ∨ Dep ops m k
/-- which specials may have come ahead of k: they have turned blocks of T alone -/
def PureT (k : Nat) (T : Nat → Prop) : Prop := ∀ m, m ∈ es → m = k ∨ Dep ops m k ∨ ∀ b, S m b → T b
/-- of what j has left no special that comes ahead of k undoes anything -/
def Safe (k j : Nat) : Prop := ∀ m, m ∈ es → m = k ∨ m = j ∨ Dep ops m k ∨ Dep ops j m
/-- at the end -/
def Last (j : Nat) : Prop := ∀ m, m ∈ es → m = j ∨ Dep ops j m
def Deps (ps : List Pr) (i : Nat) (a : Act) (w : World) : Prop :=
  (∀ j, Dep ops i j → j < ps.length → Got ops ps (Safe ops es i j) j a w) ∧ ∀ t : Nat, (∀ (j : Nat) (o : Oper), ops[j]? = some o → o.dst = some t → j = i ∨ Dep ops j i) → a.tmps[t]? = a0.tmps[t]?
def Step (ps : List Pr) (i : Nat) (p : Pr) : Prop :=
  ∀ a w, Here ops a0 w0 (Pure ops es i) (PureT ops S es i) a w → Deps ops a0 es ps i a w → ∀ K : Act → World → Prop,
    (∀ o : Oper, ops[i]? = some o → ∀ v w', (i ∉ es → Below w.heap.size w w') → (i ∈ es → But (S i) w w') → (∀ d, o.dst = none → tgt o = some d → a.tmps[d]? = some v) → p v w' → K (a.put o.dst v) w') → wpOp P ops Q i K a w
def Good (ps : List Pr) : Prop := (∀ i, Stable (Stab.look ps i)) ∧ ∀ i, i < ps.length → Step P ops Q a0 w0 S es ps i (Stab.look ps i)
end
section
variable {P : Program} {ops : Array Oper} {Q : Exit → Act → World → Prop} {a0 : Act} {w0 : World} {S : Nat → Nat → Prop} {es : List Nat} {ps : List Pr}
structure Inv (ops : Array Oper) (a0 : Act) (w0 : World) (S : Nat → Nat → Prop) (es : List Nat) (ps : List Pr) (listed : Array Bool) (a : Act) (w : World) : Prop where
  here : Here ops a0 w0 (∀ m, m ∈ es → listed.getD m false = false) (fun T => ∀ m, m ∈ es → listed.getD m false = false ∨ ∀ b, S m b → T b) a w
  closed : ∀ (i : Nat) (o : Oper), ops[i]? = some o → listed.getD i false = true → ∀ e ∈ o.after, Region.binds .any e = true → listed.getD e.on false = true
  got : ∀ i, i < ops.size → listed.getD i false = true → Got ops ps (∀ m, m ∈ es → listed.getD m false = true → m = i ∨ Dep ops i m) i a w
  keep : ∀ t : Nat, (∀ (j : Nat) (o : Oper), ops[j]? = some o → o.dst = some t → listed.getD j false = false) → a.tmps[t]? = a0.tmps[t]?
theorem near_listed {listed : Array Bool} {a : Act} {w : World} (h : Inv ops a0 w0 S es ps listed a w) {i j : Nat} (hd : Near ops i j)
    (hl : listed.getD i false = true ∨ i ∈ Region.ready .any ops listed) : listed.getD j false = true := by
  obtain ⟨o, e, hi, he, hb, hj⟩ := hd
  rw [← hj]
  rcases hl with hl | hl
  · exact h.closed _ _ hi hl e he hb
  · obtain ⟨_, o', ho', hall⟩ := mem_ready.1 hl
    rw [hi] at ho'
    injection ho' with ho'
    subst ho'
    exact hall e he hb
theorem dep_listed {listed : Array Bool} {a : Act} {w : World} (h : Inv ops a0 w0 S es ps listed a w) {i j : Nat} (hd : Dep ops i j)
    (hl : listed.getD i false = true ∨ i ∈ Region.ready .any ops listed) : listed.getD j false = true := by
  obtain ⟨ks, hw⟩ := hd
  induction ks generalizing i with
  | nil => exact near_listed h hw hl
  | cons k ks ih => exact ih (.inl (near_listed h hw.1 hl)) hw.2

/-- a store waits for its address -/
def StOk (ops : Array Oper) : Prop := ∀ (k i d : Nat) (o o' : Oper), ops[k]? = some o → o.dst = none → tgt o = some d → ops[i]? = some o' → o'.dst = some d → Dep ops k i
theorem any_inv (hst : StOk ops) (hok : OkOps ops a0.tmps.size) (hlen : ps.length = ops.size) (hg : Good P ops Q a0 w0 S es ps)
    (hfin : ∀ a w, Here ops a0 w0 (∀ m, m ∈ es → False) (fun T => ∀ m, m ∈ es → ∀ b, S m b → T b) a w → (∀ i, i < ops.size → Got ops ps (Last ops es i) i a w) → Q .normal a w) :
    ∀ (fuel : Nat) (listed : Array Bool) (a : Act) (w : World), listed.size = ops.size → (listed.toList.countP (! ·)) ≤ fuel → Inv ops a0 w0 S es ps listed a w →
      wpAny P .any ops Q fuel listed a w := by
  have hall : ∀ (listed : Array Bool) (a : Act) (w : World), listed.size = ops.size → Inv ops a0 w0 S es ps listed a w → Region.ready .any ops listed = [] → Q .normal a w := by
    intro listed a w hls hI hr
    have hlisted : ∀ n i, i < n → i < ops.size → listed.getD i false = true := by
      intro n
      induction n with
      | zero => intro i h; omega
      | succ n ih =>
        intro i hi his
        by_cases hin : i < n
        · exact ih i hin his
        · have hieq : i = n := by omega
          subst hieq
          cases hl : listed.getD i false with
          | true => rfl
          | false =>
            exfalso
            have hmem : i ∈ Region.ready .any ops listed := by
              rw [mem_ready]
              have hlt : i < listed.size := by omega
              refine ⟨by simpa [hlt] using hl, ops[i], Array.getElem?_eq_getElem his, fun e he hb => ?_⟩
              have hlt := hok.back i ops[i] (Array.getElem?_eq_getElem his) e he hb
              exact ih e.on hlt (by omega)
            rw [hr] at hmem
            cases hmem
    refine hfin a w ⟨fun h => hI.here.ext (fun m hm => (h m hm).elim), (fun T hT => hI.here.but T (fun m hm => .inr (hT m hm))), hI.here.defers, hI.here.size, hI.here.old⟩ fun i hi => ?_
    obtain ⟨v, h1, h2⟩ := hI.got i hi (hlisted (i + 1) i (by omega) hi)
    exact ⟨v, h1, fun h => h2 (h.imp (fun hl m hm _ => hl m hm) id)⟩
  intro fuel
  induction fuel with
  | zero =>
    intro listed a w hls hc hI
    have hr : Region.ready .any ops listed = [] := by
      rw [List.eq_nil_iff_forall_not_mem]
      intro i hi
      obtain ⟨h0, o, ho, _⟩ := mem_ready.1 hi
      have hlt : i < listed.size := by have := (Array.getElem?_eq_some_iff.1 ho).1; omega
      have hpos : 0 < listed.toList.countP (! ·) := by
        rw [List.countP_pos_iff]
        refine ⟨listed[i], by simp, ?_⟩
        simp [hlt] at h0
        simp [h0]
      omega
    exact ⟨hr, hall listed a w hls hI hr⟩
  | succ fuel ih =>
    intro listed a w hls hc hI
    refine ⟨hall listed a w hls hI, fun i hi => ?_⟩
    obtain ⟨h0, o, ho, hdeps⟩ := mem_ready.1 hi
    have his : i < ops.size := (Array.getElem?_eq_some_iff.1 ho).1
    have hlt : i < listed.size := by omega
    have h0' : listed[i] = false := by simpa [hlt] using h0
    have hni : listed.getD i false = false := by simp [hlt, h0']
    have hbehind : ∀ m, Dep ops m i → listed.getD m false = false := fun m hm => by
      cases hl : listed.getD m false with
      | false => rfl
      | true => rw [dep_listed hI hm (.inl hl)] at hni; cases hni
    refine hg.2 i (by omega) a w ⟨fun h => hI.here.ext (fun m hm => by
      rcases h m hm with rfl | h3
      · exact hni
      · exact hbehind m h3), (fun T hT => hI.here.but T (fun m hm => by
      rcases hT m hm with rfl | h3 | h3
      · exact .inl hni
      · exact .inl (hbehind m h3)
      · exact .inr h3)), hI.here.defers, hI.here.size, hI.here.old⟩ ⟨fun j hj hjp => ?_, fun t ht => ?_⟩ _ (fun o' ho' v w' hb hbt htg hp => ?_)
    · obtain ⟨v, h1, h2⟩ := hI.got j (by omega) (dep_listed hI hj (.inr hi))
      refine ⟨v, h1, fun h => h2 (h.imp (fun hs m hm hml => ?_) id)⟩
      rcases hs m hm with rfl | h3 | h3 | h3
      · rw [hni] at hml; cases hml
      · exact .inl h3
      · rw [hbehind m h3] at hml; cases hml
      · exact .inr h3
    · refine hI.keep t fun j oj hj hd => ?_
      have h9 : listed.getD i false = false := by simp [hlt, h0']
      rcases ht j oj hj hd with rfl | hdep
      · exact h9
      · cases hl : listed.getD j false with
        | false => rfl
        | true => rw [dep_listed hI hdep (.inl hl)] at h9; cases h9
    · rw [ho] at ho'
      injection ho' with ho'
      subst ho'
      refine ih _ _ _ (by simp [hls]) ?_ ⟨⟨fun h => ?_, fun T hT => ?_, (put_defers ..).trans hI.here.defers, (put_size ..).trans hI.here.size, fun t ht => (put_get_ne _ _ _ _ (ht i o ho)).trans (hI.here.old t ht)⟩, ?_, ?_, ?_⟩
      · have hset : (listed.setIfInBounds i true).toList = listed.toList.set i true := by simp
        rw [hset, List.countP_set (by simpa using hlt)]
        simp [h0']
        have : 0 < listed.toList.countP (! ·) := by
          rw [List.countP_pos_iff]
          exact ⟨listed[i], by simp, by simp [h0']⟩
        simp only [Array.countP_toList] at this hc
        omega
      · have hie : i ∉ es := fun hie => by
          have := h i hie
          simp [hlt] at this
        have hx := hI.here.ext (fun m hm => by
          have := h m hm
          rwa [getD_set_ne false (fun e => hie (by rw [e]; exact hm))] at this)
        exact hx.trans ((hb hie).mono hx.size)
      · have h1 := hI.here.but T (fun m hm => by
          rcases hT m hm with h3 | h3
          · refine .inl ?_
            by_cases him : i = m
            · subst him; exact hni
            · rwa [getD_set_ne false him] at h3
          · exact .inr h3)
        refine h1.trans ?_
        by_cases hie : i ∈ es
        · rcases hT i hie with h3 | h3
          · simp [hlt] at h3
          · exact (hbt hie).mono (fun k _ hs => h3 k hs)
        · exact But.of T (hb hie)
      · intro k ok hk hl e he hb
        by_cases hki : i = k
        · subst hki
          rw [ho] at hk
          injection hk with hk
          subst hk
          exact getD_set_true (hdeps e he hb)
        · rw [getD_set_ne false hki] at hl
          exact getD_set_true (hI.closed k ok hk hl e he hb)
      · intro k hk hl
        by_cases hki : i = k
        · subst hki
          refine ⟨v, fun o'' d hk' hd => ?_, fun _ => hp⟩
          rw [ho] at hk'
          injection hk' with hk'
          subst hk'
          cases hdo : o.dst with
          | some d' =>
            have h9 := tgt_of hdo
            rw [h9] at hd
            injection hd with hd
            subst hd
            exact put_get _ _ _ (by rw [hI.here.size]; exact hok.room i o d' ho hdo)
          | none => exact htg d hdo hd
        · rw [getD_set_ne false hki] at hl
          obtain ⟨v', hv', hp'⟩ := hI.got k hk hl
          refine ⟨v', fun o'' d hk' hd => ?_, fun hc => ?_⟩
          rotate_left
          · by_cases hie : i ∈ es
            · rcases hc with hc | hc
              · rcases hc i hie (by simp [hlt]) with h3 | h3
                · exact absurd h3 hki
                · rw [dep_listed hI h3 (.inl hl)] at hni; cases hni
              · exact hc _ _ _ (hp' (.inr hc))
            · refine hg.1 k _ _ _ (hb hie) (hp' (hc.imp (fun hc m hm hml => hc m hm ?_) id))
              rw [getD_set_ne false (fun e => hie (by rw [e]; exact hm))]
              exact hml
          rw [put_get_ne _ _ _ _ (fun he => by
            cases hdo : o''.dst with
            | some d' =>
              have h9 := tgt_of hdo
              rw [h9] at hd
              injection hd with hd
              subst hd
              exact hki (hok.apart i k o o'' d' ho hk' he hdo)
            | none => rw [dep_listed hI (hst k i d o'' o hk' hdo hd ho he) (.inl hl)] at hni; cases hni)]
          exact hv' o'' d hk' hd
      · intro t ht
        refine (put_get_ne _ _ _ _ (fun he => ?_)).trans (hI.keep t fun j oj hj hd => ?_)
        · have h9 := ht i o ho he
          simp [hlt] at h9
        · have h9 := ht j oj hj hd
          by_cases hij : i = j
          · subst hij; simp [hlt] at h9
          · rwa [getD_set_ne false hij] at h9


def Todo (P : Program) (id : Nat) (ops : Array Oper) (Q : Exit → Act → World → Prop) (a0 : Act) (w0 : World) (S : Nat → Nat → Prop) (es : List Nat) (ps : List Pr) : Prop :=
  Good P ops Q a0 w0 S es ps → (Code.region id ops true).wp P Q a0 w0
theorem todo_begin {id n : Nat} {l : List Oper} (S : Nat → Nat → Prop) (es : List Nat) (hok : OkOps l.toArray n) (h : Hid (OkOps l.toArray n) → Todo P id l.toArray Q a0 w0 S es []) : (Code.region id l.toArray true).wp P Q a0 w0 :=
  h (Lib.hid hok) ⟨fun i => Stable.any, fun i hi => absurd hi (by simp)⟩
theorem todo_step {id : Nat} (p : Pr) (hs : Stable p) (h : Step P ops Q a0 w0 S es ps ps.length p) (rest : Todo P id ops Q a0 w0 S es (p :: ps)) (hok : OkOps ops a0.tmps.size) : Todo P id ops Q a0 w0 S es ps := by
  intro hg
  refine rest ⟨fun i => ?_, fun i hi a w hh hd => ?_⟩
  · by_cases he : i = ps.length
    · subst he; rw [look_cons_eq]; exact hs
    · have : Stab.look (p :: ps) i = Stab.look ps i := by simp [Stab.look, he]
      rw [this]; exact hg.1 i
  · have hgot : Deps ops a0 es ps i a w := ⟨fun j hj hjl => by
      obtain ⟨v, hv, hp⟩ := hd.1 j hj (by simp; omega)
      rw [look_cons_lt hjl] at hp
      exact ⟨v, hv, hp⟩, hd.2⟩
    by_cases he : i = ps.length
    · subst he
      rw [look_cons_eq]
      exact h a w hh hgot
    · have hlt : i < ps.length := by simp at hi; omega
      rw [look_cons_lt hlt]
      exact hg.2 i hlt a w hh hgot


/-- no special, and no store -/
def plainK (l : List Oper) (es : List Nat) (k : Nat) : Bool := !es.contains k && match l[k]? with | some o => o.dst.isSome || (tgt o).isNone | none => true
theorem plainK_es {l : List Oper} {es : List Nat} {k : Nat} (h : plainK l es k = true) : ¬ k ∈ es := by
  unfold plainK at h
  simp only [Bool.and_eq_true, Bool.not_eq_true'] at h
  have := h.1
  simpa using this
theorem plainK_op {l : List Oper} {es : List Nat} {k : Nat} (h : plainK l es k = true) {o : Oper} (ho : l[k]? = some o) {d : Nat} (h1 : o.dst = none) (h2 : tgt o = some d) : False := by
  unfold plainK at h
  rw [ho] at h
  simp [h1, h2] at h
def stOk (l : List Oper) : Bool := (List.range l.length).all fun k => match l[k]? with | none => true | some o => o.dst.isSome || match tgt o with | none => true | some d => (List.range l.length).all fun i => (match l[i]? with | some o' => o'.dst != some d | none => true) || dep1 l k i
theorem StOk.of {l : List Oper} (h : stOk l = true) : StOk l.toArray := by
  intro k i d o o' hk hd ht hi hd'
  have hk' : l[k]? = some o := by simpa using hk
  have hi' : l[i]? = some o' := by simpa using hi
  have hkl := (List.getElem?_eq_some_iff.1 hk').1
  have hil := (List.getElem?_eq_some_iff.1 hi').1
  have h1 := List.all_eq_true.1 h k (by simpa using hkl)
  rw [hk'] at h1
  simp only [hd, Option.isSome_none, Bool.false_or, ht] at h1
  have h2 := List.all_eq_true.1 h1 i (by simpa using hil)
  rw [hi'] at h2
  simp only [hd', bne_self_eq_false, Bool.false_or] at h2
  exact ⟨[], near_of h2⟩
theorem todo_op {id k n : Nat} {l : List Oper} (p : Pr) (hn : a0.tmps.size = n) (hok : OkOps l.toArray n) (hk : ps.length = k) (hs : Stable p) (hm : plainK l es k = true)
    (h : ∀ a w, Here l.toArray a0 w0 (Pure l.toArray es k) (PureT l.toArray S es k) a w → Hid (Deps l.toArray a0 es ps k a w) → ps.length = k → ∀ K : Act → World → Prop,
      Hid (∀ o : Oper, l[k]? = some o → ∀ v w', Below w.heap.size w w' → p v w' → K (a.put o.dst v) w') → wpOp P l.toArray Q k K a w)
    (rest : Todo P id l.toArray Q a0 w0 S es (p :: ps)) : Todo P id l.toArray Q a0 w0 S es ps := by
  subst hn
  refine todo_step p hs ?_ rest hok
  rw [hk]
  intro a w hh hd K hK
  exact h a w hh hd hk K (fun o ho v w' hb => hK o (by simpa using ho) v w' (fun _ => hb) (fun hi => absurd hi (plainK_es hm)) (fun d h1 h2 => (plainK_op hm (by simpa using ho) h1 h2).elim))
/-- a special -/
theorem todo_sp {id k n : Nat} {l : List Oper} (p : Pr) (hn : a0.tmps.size = n) (hok : OkOps l.toArray n) (hk : ps.length = k) (hs : Stable p) (hm : es.contains k = true)
    (h : ∀ a w, Here l.toArray a0 w0 (Pure l.toArray es k) (PureT l.toArray S es k) a w → Hid (Deps l.toArray a0 es ps k a w) → ps.length = k → ∀ K : Act → World → Prop,
      Hid (∀ o : Oper, l[k]? = some o → ∀ v w', But (S k) w w' → (∀ d, o.dst = none → tgt o = some d → a.tmps[d]? = some v) → p v w' → K (a.put o.dst v) w') → wpOp P l.toArray Q k K a w)
    (rest : Todo P id l.toArray Q a0 w0 S es (p :: ps)) : Todo P id l.toArray Q a0 w0 S es ps := by
  subst hn
  refine todo_step p hs ?_ rest hok
  rw [hk]
  intro a w hh hd K hK
  exact h a w hh hd hk K (fun o ho v w' hbt => hK o (by simpa using ho) v w' (fun hn => absurd (by simpa using hm) hn) (fun _ => hbt))
theorem todo_is {id k n : Nat} {l : List Oper} (V : Value) (hn : a0.tmps.size = n) (hok : OkOps l.toArray n) (hk : ps.length = k) (hm : plainK l es k = true)
    (h : ∀ a w, Here l.toArray a0 w0 (Pure l.toArray es k) (PureT l.toArray S es k) a w → Hid (Deps l.toArray a0 es ps k a w) → ps.length = k → ∀ K : Act → World → Prop,
      Hid (∀ o : Oper, l[k]? = some o → ∀ v w', Below w.heap.size w w' → v = V → K (a.put o.dst v) w') → wpOp P l.toArray Q k K a w)
    (rest : Todo P id l.toArray Q a0 w0 S es (Is V :: ps)) : Todo P id l.toArray Q a0 w0 S es ps :=
  todo_op (Is V) hn hok hk (Stable.is V) hm h rest
/-- a proof of 'm = k, m = j, a way from m to k, a way from j to m' for each special m -/
def chkSafe (l : List Oper) (es : List Nat) (k j : Nat) (ws : List (Nat × Bool × List Nat)) : Bool :=
  es.all fun m => m == k || m == j || ws.any fun x => x.1 == m && if x.2.1 then isPath l m x.2.2 k else isPath l j x.2.2 m
theorem Safe.of {l : List Oper} {k j : Nat} (ws : List (Nat × Bool × List Nat)) (h : chkSafe l es k j ws = true) : Safe l.toArray es k j := by
  intro m hm
  have h1 := List.all_eq_true.1 h m hm
  simp only [Bool.or_eq_true, beq_iff_eq, List.any_eq_true, Bool.and_eq_true] at h1
  rcases h1 with (h1 | h1) | ⟨x, _, h2, h3⟩
  · exact .inl h1
  · exact .inr (.inl h1)
  · by_cases hx : x.2.1 = true
    · rw [if_pos hx] at h3
      exact .inr (.inr (.inl (Dep.of _ h3)))
    · rw [if_neg hx] at h3
      exact .inr (.inr (.inr (Dep.of _ h3)))
def chkPure (l : List Oper) (es : List Nat) (k : Nat) (ws : List (Nat × List Nat)) : Bool := es.all fun m => m == k || ws.any fun x => x.1 == m && isPath l m x.2 k
theorem ext_at {l : List Oper} {k : Nat} {a : Act} {w : World} (hh : Here l.toArray a0 w0 (Pure l.toArray es k) (PureT l.toArray S es k) a w) (ws : List (Nat × List Nat)) (h : chkPure l es k ws = true) : Below w0.heap.size w0 w := by
  refine hh.ext fun m hm => ?_
  have h1 := List.all_eq_true.1 h m hm
  simp only [Bool.or_eq_true, beq_iff_eq, List.any_eq_true, Bool.and_eq_true] at h1
  rcases h1 with h1 | ⟨x, _, _, h3⟩
  · exact .inl h1
  · exact .inr (Dep.of _ h3)
def chkT (l : List Oper) (es : List Nat) (k : Nat) (sel : List Nat) (ws : List (Nat × List Nat)) : Bool := es.all fun m => m == k || sel.contains m || ws.any fun x => x.1 == m && isPath l m x.2 k
theorem but_at {l : List Oper} {k : Nat} {a : Act} {w : World} (hh : Here l.toArray a0 w0 (Pure l.toArray es k) (PureT l.toArray S es k) a w) (sel : List Nat) (ws : List (Nat × List Nat)) (h : chkT l es k sel ws = true) (T : Nat → Prop) (hT : ∀ m, m ∈ sel → ∀ b, S m b → T b) : But T w0 w := by
  refine hh.but T fun m hm => ?_
  have h1 := List.all_eq_true.1 h m hm
  simp only [Bool.or_eq_true, beq_iff_eq, List.any_eq_true, Bool.and_eq_true] at h1
  rcases h1 with (h1 | h1) | ⟨x, _, _, h3⟩
  · exact .inl h1
  · exact .inr (.inr (hT m (by simpa using h1)))
  · exact .inr (.inl (Dep.of _ h3))
def chkLast (l : List Oper) (es : List Nat) (j : Nat) (ws : List (Nat × List Nat)) : Bool := es.all fun m => m == j || ws.any fun x => x.1 == m && isPath l j x.2 m
theorem Last.of {l : List Oper} {j : Nat} (ws : List (Nat × List Nat)) (h : chkLast l es j ws = true) : Last l.toArray es j := by
  intro m hm
  have h1 := List.all_eq_true.1 h m hm
  simp only [Bool.or_eq_true, beq_iff_eq, List.any_eq_true, Bool.and_eq_true] at h1
  rcases h1 with h1 | ⟨x, _, h2, h3⟩
  · exact .inl h1
  · exact .inr (Dep.of _ h3)
theorem use {l : List Oper} {k j m d : Nat} {p : Pr} {o : Oper} {a : Act} {w : World} (hd : Hid (Deps l.toArray a0 es ps k a w)) (hk : ps.length = k) (hm : j + m + 1 = k)
    (ks : List Nat) (hks : isPath l k ks j = true) (ws : List (Nat × Bool × List Nat)) (hws : chkSafe l es k j ws = true) (hp : ps[m]? = some p) (ho : l[j]? = some o) (hdst : o.dst = some d) : ∃ v, a.tmps[d]? = some v ∧ p v w := by
  obtain ⟨v, hv, hl⟩ := hd.out.1 j (Dep.of ks hks) (by omega)
  refine ⟨v, hv o d (by simpa using ho) (tgt_of hdst), ?_⟩
  have hlt := (List.getElem?_eq_some_iff.1 hp).1
  have : Stab.look ps j = p := look_rev ps j p (by rw [List.getElem?_reverse (by omega)]; rw [← hp]; congr 1; omega)
  rw [this] at hl
  exact hl (.inl (Safe.of ws hws))
theorem use_is {l : List Oper} {k j m d : Nat} {V : Value} {o : Oper} {a : Act} {w : World} (hd : Hid (Deps l.toArray a0 es ps k a w)) (hk : ps.length = k) (hm : j + m + 1 = k)
    (ks : List Nat) (hks : isPath l k ks j = true) (hp : ps[m]? = some (Is V)) (ho : l[j]? = some o) (hdst : o.dst = some d) : a.tmps[d]? = some V := by
  obtain ⟨v, hv, hl⟩ := hd.out.1 j (Dep.of ks hks) (by omega)
  have hlt := (List.getElem?_eq_some_iff.1 hp).1
  have : Stab.look ps j = Is V := look_rev ps j _ (by rw [List.getElem?_reverse (by omega)]; rw [← hp]; congr 1; omega)
  rw [this] at hl
  rw [hv o d (by simpa using ho) (tgt_of hdst), show v = V from hl (.inr (Wl.is V))]
theorem use_fact {l : List Oper} {k j m : Nat} {p : Pr} {a : Act} {w : World} (hd : Hid (Deps l.toArray a0 es ps k a w)) (hk : ps.length = k) (hm : j + m + 1 = k)
    (ks : List Nat) (hks : isPath l k ks j = true) (ws : List (Nat × Bool × List Nat)) (hws : chkSafe l es k j ws = true) (hp : ps[m]? = some p) : ∃ v, p v w := by
  obtain ⟨v, hv, hl⟩ := hd.out.1 j (Dep.of ks hks) (by omega)
  have hlt := (List.getElem?_eq_some_iff.1 hp).1
  have : Stab.look ps j = p := look_rev ps j p (by rw [List.getElem?_reverse (by omega)]; rw [← hp]; congr 1; omega)
  rw [this] at hl
  exact ⟨v, hl (.inl (Safe.of ws hws))⟩
theorem todo_facts {id n : Nat} {l : List Oper} (hm : P.follows .mixedOrders = true) (hn : a0.tmps.size = n) (hok : OkOps l.toArray n) (hlen : ps.length = l.length)
    (hfin : ∀ a w, Here l.toArray a0 w0 (∀ m, m ∈ es → False) (fun T => ∀ m, m ∈ es → ∀ b, S m b → T b) a w → Hid (∀ i, i < l.length → Got l.toArray ps (Last l.toArray es i) i a w) → Q .normal a w) (hst : stOk l = true := by kernel_rfl) : Todo P id l.toArray Q a0 w0 S es ps := by
  subst hn
  intro hg
  refine wp_region_any hm ?_
  refine any_inv (StOk.of hst) hok (by simpa using hlen) hg (fun a w hh hgot => hfin a w hh (fun i hi => hgot i (by simpa using hi))) _ _ _ _ (by simp) ?_ ?_
  · exact Nat.le_trans List.countP_le_length (by simp)
  · refine ⟨⟨fun _ => ⟨rfl, rfl, rfl, Nat.le_refl _, fun _ _ => rfl⟩, (fun _ _ => ⟨rfl, rfl, rfl, Nat.le_refl _, fun _ _ _ => rfl⟩), rfl, rfl, fun _ _ => rfl⟩, fun i o ho hl => ?_, fun i hi hl => ?_, fun _ _ => rfl⟩
    · have hi := (Array.getElem?_eq_some_iff.1 ho).1
      simp at hi
      simp [hi] at hl
    · simp at hi
      simp [hi] at hl
theorem end_use {l : List Oper} {j m d : Nat} {p : Pr} {o : Oper} {a : Act} {w : World} (hg : Hid (∀ i, i < l.length → Got l.toArray ps (Last l.toArray es i) i a w)) (hm : j + m + 1 = ps.length)
    (ws : List (Nat × List Nat)) (hws : chkLast l es j ws = true) (hp : ps[m]? = some p) (ho : l[j]? = some o) (hdst : o.dst = some d) : ∃ v, a.tmps[d]? = some v ∧ p v w := by
  obtain ⟨v, hv, hl⟩ := hg.out j (List.getElem?_eq_some_iff.1 ho).1
  refine ⟨v, hv o d (by simpa using ho) (tgt_of hdst), ?_⟩
  have hlt := (List.getElem?_eq_some_iff.1 hp).1
  have : Stab.look ps j = p := look_rev ps j p (by rw [List.getElem?_reverse (by omega)]; rw [← hp]; congr 1; omega)
  rw [this] at hl
  exact hl (.inl (Last.of ws hws))
theorem end_store {l : List Oper} {j m d : Nat} {p : Pr} {o : Oper} {a : Act} {w : World} (hg : Hid (∀ i, i < l.length → Got l.toArray ps (Last l.toArray es i) i a w)) (hm : j + m + 1 = ps.length)
    (ws : List (Nat × List Nat)) (hws : chkLast l es j ws = true) (hp : ps[m]? = some p) (ho : l[j]? = some o) (hdst : tgt o = some d) : ∃ v, a.tmps[d]? = some v ∧ p v w := by
  obtain ⟨v, hv, hl⟩ := hg.out j (List.getElem?_eq_some_iff.1 ho).1
  refine ⟨v, hv o d (by simpa using ho) hdst, ?_⟩
  have hlt := (List.getElem?_eq_some_iff.1 hp).1
  have : Stab.look ps j = p := look_rev ps j p (by rw [List.getElem?_reverse (by omega)]; rw [← hp]; congr 1; omega)
  rw [this] at hl
  exact hl (.inl (Last.of ws hws))
theorem end_is {l : List Oper} {j m d : Nat} {V : Value} {o : Oper} {a : Act} {w : World} (hg : Hid (∀ i, i < l.length → Got l.toArray ps (Last l.toArray es i) i a w)) (hm : j + m + 1 = ps.length)
    (hp : ps[m]? = some (Is V)) (ho : l[j]? = some o) (hdst : o.dst = some d) : a.tmps[d]? = some V := by
  obtain ⟨v, hv, hl⟩ := hg.out j (List.getElem?_eq_some_iff.1 ho).1
  have hlt := (List.getElem?_eq_some_iff.1 hp).1
  have : Stab.look ps j = Is V := look_rev ps j _ (by rw [List.getElem?_reverse (by omega)]; rw [← hp]; congr 1; omega)
  rw [this] at hl
  rw [hv o d (by simpa using ho) (tgt_of hdst), show v = V from hl (.inr (Wl.is V))]
theorem end_fact {l : List Oper} {j m : Nat} {p : Pr} {a : Act} {w : World} (hg : Hid (∀ i, i < l.length → Got l.toArray ps (Last l.toArray es i) i a w)) (hm : j + m + 1 = ps.length) (hjl : j < l.length)
    (ws : List (Nat × List Nat)) (hws : chkLast l es j ws = true) (hp : ps[m]? = some p) : ∃ v, p v w := by
  obtain ⟨v, hv, hl⟩ := hg.out j hjl
  have hlt := (List.getElem?_eq_some_iff.1 hp).1
  have : Stab.look ps j = p := look_rev ps j p (by rw [List.getElem?_reverse (by omega)]; rw [← hp]; congr 1; omega)
  rw [this] at hl
  exact ⟨v, hl (.inl (Last.of ws hws))⟩
theorem old_at {l : List Oper} {t : Nat} {x : Value} {a : Act} {w : World} {C : Prop} {Bt : (Nat → Prop) → Prop} (hh : Here l.toArray a0 w0 C Bt a w) (hn : noDst l t = true) (hx : a0.tmps[t]? = some x) : a.tmps[t]? = some x := by
  rw [hh.old t ?_, hx]
  intro i o ho hd
  have hm : o ∈ l := by have : o ∈ l.toArray := Array.mem_of_getElem? ho; simpa using this
  have := List.all_eq_true.1 hn o hm
  simp [hd] at this
theorem old_dep {l : List Oper} {t k j : Nat} (ks : List Nat) {x : Value} {a : Act} {w : World} (hd : Hid (Deps l.toArray a0 es ps k a w)) (hn : onlyDst l t j = true) (hp : (j == k || isPath l j ks k) = true) (hx : a0.tmps[t]? = some x) : a.tmps[t]? = some x := by
  rw [hd.out.2 t ?_, hx]
  intro i o ho hdst
  have ho' : l[i]? = some o := by simpa using ho
  have hil := (List.getElem?_eq_some_iff.1 ho').1
  have h1 := List.all_eq_true.1 hn i (by simpa using hil)
  rw [ho'] at h1
  simp only [hdst, Bool.or_eq_true, beq_iff_eq, bne_self_eq_false, Bool.false_eq_true, or_false] at h1
  subst h1
  rcases Bool.or_eq_true _ _ |>.mp hp with h2 | h2
  · exact .inl (by simpa using h2)
  · exact .inr (Dep.of ks h2)
/-- a move of a slot that no operation of the region writes -/
theorem mvO {id k n u : Nat} {l : List Oper} {V : Value} {o : Oper} (s : a0.tmps[u]? = some V) (hn : a0.tmps.size = n) (hok : OkOps l.toArray n) (hk : ps.length = k) (hmm : plainK l es k = true) (ho : l[k]? = some o) (hg : o.guard = none) (hop : o.op = .move (.tmp u) ∨ o.op = .assign (.tmp u)) (hnd : noDst l u = true)
    (rest : Todo P id l.toArray Q a0 w0 S es (Is V :: ps)) : Todo P id l.toArray Q a0 w0 S es ps :=
  todo_is V hn hok hk hmm (fun a w hh hd _ K hK => op_plain ho hg (by
    have hs := old_at hh hnd s
    have he : a.eval (.tmp u) = V := by simp [Act.eval, hs]
    have h2 := hK.out o ho V w (Below.refl _ _) rfl
    rw [← he] at h2
    unfold Oper.wp execOp
    rcases hop with h | h <;> rw [h] <;> exact h2)) rest
/-- a move of a slot that an operation writes that waits for this one -/
theorem mvP {id k n u j : Nat} {l : List Oper} {V : Value} {o : Oper} (s : a0.tmps[u]? = some V) (hn : a0.tmps.size = n) (hok : OkOps l.toArray n) (hk : ps.length = k) (hmm : plainK l es k = true) (ho : l[k]? = some o) (hg : o.guard = none) (hop : o.op = .move (.tmp u) ∨ o.op = .assign (.tmp u)) (ks : List Nat) (hnd : onlyDst l u j = true) (hp : (j == k || isPath l j ks k) = true)
    (rest : Todo P id l.toArray Q a0 w0 S es (Is V :: ps)) : Todo P id l.toArray Q a0 w0 S es ps :=
  todo_is V hn hok hk hmm (fun a w hh hd _ K hK => op_plain ho hg (by
    have hs := old_dep ks hd hnd hp s
    have he : a.eval (.tmp u) = V := by simp [Act.eval, hs]
    have h2 := hK.out o ho V w (Below.refl _ _) rfl
    rw [← he] at h2
    unfold Oper.wp execOp
    rcases hop with h | h <;> rw [h] <;> exact h2)) rest
/-- a move of a slot that an operation ahead has written -/
theorem mvN {id k n u j m : Nat} {l : List Oper} {V : Value} {o oj : Oper} (hn : a0.tmps.size = n) (hok : OkOps l.toArray n) (hk : ps.length = k) (hmm : plainK l es k = true) (ho : l[k]? = some o) (hg : o.guard = none) (hop : o.op = .move (.tmp u) ∨ o.op = .assign (.tmp u))
    (hm : j + m + 1 = k) (ks : List Nat) (hks : isPath l k ks j = true) (hp : ps[m]? = some (Is V)) (hoj : l[j]? = some oj) (hdst : oj.dst = some u)
    (rest : Todo P id l.toArray Q a0 w0 S es (Is V :: ps)) : Todo P id l.toArray Q a0 w0 S es ps :=
  todo_is V hn hok hk hmm (fun a w hh hd hk K hK => op_plain ho hg (by
    have hs := use_is hd hk hm ks hks hp hoj hdst
    have he : a.eval (.tmp u) = V := by simp [Act.eval, hs]
    have h2 := hK.out o ho V w (Below.refl _ _) rfl
    rw [← he] at h2
    unfold Oper.wp execOp
    rcases hop with h | h <;> rw [h] <;> exact h2)) rest
theorem u (j m : Nat) {l : List Oper} {k d : Nat} {V : Value} {o : Oper} {a : Act} {w : World} (hd : Hid (Deps l.toArray a0 es ps k a w)) (hk : ps.length = k) (hm : j + m + 1 = k)
    (ks : List Nat) (hks : isPath l k ks j = true) (hp : ps[m]? = some (Is V)) (ho : l[j]? = some o) (hdst : o.dst = some d) : a.tmps[d]? = some V := use_is hd hk hm ks hks hp ho hdst
theorem e (j m : Nat) {l : List Oper} {d : Nat} {V : Value} {o : Oper} {a : Act} {w : World} (hg : Hid (∀ i, i < l.length → Got l.toArray ps (Last l.toArray es i) i a w)) (hm : j + m + 1 = ps.length)
    (hp : ps[m]? = some (Is V)) (ho : l[j]? = some o) (hdst : o.dst = some d) : a.tmps[d]? = some V := end_is hg hm hp ho hdst
theorem o {l : List Oper} {t : Nat} {x : Value} {a : Act} {w : World} {C : Prop} {Bt : (Nat → Prop) → Prop} (hh : Here l.toArray a0 w0 C Bt a w) (hn : noDst l t = true) (hx : a0.tmps[t]? = some x) : a.tmps[t]? = some x := old_at hh hn hx
theorem t (k : Nat) {id n : Nat} {l : List Oper} (V : Value) (hn : a0.tmps.size = n) (hok : OkOps l.toArray n) (hk : ps.length = k) (hm : plainK l es k = true)
    (h : ∀ a w, Here l.toArray a0 w0 (Pure l.toArray es k) (PureT l.toArray S es k) a w → Hid (Deps l.toArray a0 es ps k a w) → ps.length = k → ∀ K : Act → World → Prop,
      Hid (∀ o : Oper, l[k]? = some o → ∀ v w', Below w.heap.size w w' → v = V → K (a.put o.dst v) w') → wpOp P l.toArray Q k K a w)
    (rest : Todo P id l.toArray Q a0 w0 S es (Is V :: ps)) : Todo P id l.toArray Q a0 w0 S es ps := todo_is V hn hok hk hm h rest
theorem Here.fr {ops : Array Oper} {n : Nat} {C : Prop} {Bt : (Nat → Prop) → Prop} {a : Act} {w : World} (hh : Here ops a0 w0 C Bt a w) (hf : Fact.Fr n a0) : Fact.Fr n a := ⟨hh.size.trans hf.size, hh.defers.trans hf.defers⟩
end
end Stav
end Go.Proofs.YtgjfhedgdbbinaaDoor
