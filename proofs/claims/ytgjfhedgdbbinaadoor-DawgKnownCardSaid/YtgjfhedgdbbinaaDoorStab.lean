/- A drawn region by one fact for each operation: each operation, in whatever order they come, yields a value of which something holds that no later operation undoes; so at the end all of it holds. -/
import Derived.Below
import Derived.Orders
import Derived.Lib.Hide
namespace Go.Proofs.YtgjfhedgdbbinaaDoor
open Go.RowKit
set_option linter.unusedSimpArgs false
set_option linter.unusedVariables false
set_option linter.unnecessarySimpa false
namespace Stab
abbrev Pr := Value → World → Prop
/-- What holds of a value, and of whatever world comes later. -/
def Stable (p : Pr) : Prop := ∀ v w w', Below w.heap.size w w' → p v w → p v w'
def Is (V : Value) : Pr := fun v _ => v = V
def Any : Pr := fun _ _ => True
theorem Stable.is (V : Value) : Stable (Is V) := fun _ _ _ _ h => h
theorem Stable.any : Stable Any := fun _ _ _ _ h => h
/-- The predicates are kept with the last one first. -/
def look : List Pr → Nat → Pr
  | [], _ => Any
  | p :: ps, k => if k = ps.length then p else look ps k
theorem look_cons_lt {p : Pr} {ps : List Pr} {k : Nat} (h : k < ps.length) : look (p :: ps) k = look ps k := by
  simp [look, Nat.ne_of_lt h]
theorem look_cons_eq {p : Pr} {ps : List Pr} : look (p :: ps) ps.length = p := by simp [look]
theorem look_ge {ps : List Pr} {k : Nat} (h : ps.length ≤ k) : look ps k = Any := by
  induction ps with
  | nil => rfl
  | cons p ps ih => simp only [List.length_cons] at h; rw [look, if_neg (by omega)]; exact ih (by omega)

section
variable (P : Program) (ops : Array Oper) (Q : Exit → Act → World → Prop) (a0 : Act) (w0 : World)

def Got (ps : List Pr) (i : Nat) (a : Act) (w : World) : Prop := ∃ v, (∀ (o : Oper) (d : Nat), ops[i]? = some o → o.dst = some d → a.tmps[d]? = some v) ∧ look ps i v w
/-- The state at a step of the region. -/
structure Here (a : Act) (w : World) : Prop where
  ext : Below w0.heap.size w0 w
  defers : a.defers = a0.defers
  size : a.tmps.size = a0.tmps.size
  old : ∀ t : Nat, (∀ (i : Nat) (o : Oper), ops[i]? = some o → o.dst ≠ some t) → a.tmps[t]? = a0.tmps[t]?

/-- An operation that this one waits for. -/
def Near (i j : Nat) : Prop := ∃ (o : Oper) (e : Edge), ops[i]? = some o ∧ e ∈ o.after ∧ Region.binds .any e = true ∧ e.on = j
def Way : Nat → List Nat → Nat → Prop
  | i, [], j => Near ops i j
  | i, k :: ks, j => Near ops i k ∧ Way k ks j
/-- An operation that is listed whenever this one is ready. -/
def Dep (i j : Nat) : Prop := ∃ ks, Way ops i ks j

/-- What an operation knows: what it waits for has its value; a slot that only operations write that wait for this one is as it was. -/
def Deps (ps : List Pr) (i : Nat) (a : Act) (w : World) : Prop :=
  (∀ j, Dep ops i j → j < ps.length → Got ops ps j a w) ∧ ∀ t : Nat, (∀ (j : Nat) (o : Oper), ops[j]? = some o → o.dst = some t → j = i ∨ Dep ops j i) → a.tmps[t]? = a0.tmps[t]?
/-- What is to be shown of operation i. -/
def Step (ps : List Pr) (i : Nat) (p : Pr) : Prop :=
  ∀ a w, Here ops a0 w0 a w → Deps ops a0 ps i a w → ∀ K : Act → World → Prop,
    (∀ o : Oper, ops[i]? = some o → ∀ v w', Below w.heap.size w w' → p v w' → K (a.put o.dst v) w') → wpOp P ops Q i K a w

def Good (ps : List Pr) : Prop := (∀ i, Stable (look ps i)) ∧ ∀ i, i < ps.length → Step P ops Q a0 w0 ps i (look ps i)

/-- Edges go back; no two operations lay their values into one slot, and each slot is there. -/
def okOps (n : Nat) : Bool :=
  (List.range ops.size).all fun i => match ops[i]? with
    | none => false
    | some o => (o.after.all fun e => !Region.binds .any e || decide (e.on < i)) &&
        match o.dst with
        | none => true
        | some d => decide (d < n) && (List.range i).all fun j => match ops[j]? with | none => true | some o' => o'.dst != some d

structure OkOps (n : Nat) : Prop where
  back : ∀ (i : Nat) (o : Oper), ops[i]? = some o → ∀ e ∈ o.after, Region.binds .any e = true → e.on < i
  room : ∀ (i : Nat) (o : Oper) (d : Nat), ops[i]? = some o → o.dst = some d → d < n
  apart : ∀ (i j : Nat) (o o' : Oper) (d : Nat), ops[i]? = some o → ops[j]? = some o' → o.dst = some d → o'.dst = some d → i = j

end
theorem OkOps.of {ops : Array Oper} {n : Nat} (h : okOps ops n = true) : OkOps ops n := by
  simp only [okOps, List.all_eq_true, List.mem_range] at h
  have h' : ∀ (i : Nat) (o : Oper), ops[i]? = some o → (∀ e ∈ o.after, Region.binds .any e = true → e.on < i) ∧ ∀ d : Nat, o.dst = some d → d < n ∧ ∀ j, j < i → ∀ o' : Oper, ops[j]? = some o' → o'.dst ≠ some d := by
    intro i o ho
    have hi := h i (Array.getElem?_eq_some_iff.1 ho).1
    simp only [ho, Bool.and_eq_true] at hi
    obtain ⟨ha, hd⟩ := hi
    refine ⟨fun e he hb => ?_, fun d hdd => ?_⟩
    · have := Array.all_eq_true_iff_forall_mem.1 ha e he
      simpa [hb] using this
    · simp only [hdd, Bool.and_eq_true, decide_eq_true_eq, List.all_eq_true, List.mem_range] at hd
      refine ⟨hd.1, fun j hj o' ho' => ?_⟩
      have := hd.2 j hj
      simp only [ho'] at this
      simpa using this
  refine ⟨fun i o ho => (h' i o ho).1, fun i o d ho hd => ((h' i o ho).2 d hd).1, fun i j o o' d ho ho' hd hd' => ?_⟩
  rcases Nat.lt_trichotomy i j with hlt | heq | hlt
  · exact absurd hd (((h' j o' ho').2 d hd').2 i hlt o ho)
  · exact heq
  · exact absurd hd' (((h' i o ho).2 d hd).2 j hlt o' ho')

section
variable {P : Program} {ops : Array Oper} {Q : Exit → Act → World → Prop} {a0 : Act} {w0 : World} {ps : List Pr}

theorem put_size (a : Act) (d : Option Tmp) (v : Value) : (a.put d v).tmps.size = a.tmps.size := by cases d <;> simp [Act.put]
theorem put_defers (a : Act) (d : Option Tmp) (v : Value) : (a.put d v).defers = a.defers := by cases d <;> simp [Act.put]
theorem put_get_ne (a : Act) (d : Option Tmp) (v : Value) (t : Nat) (h : d ≠ some t) : (a.put d v).tmps[t]? = a.tmps[t]? := by
  cases d with
  | none => rfl
  | some d =>
    have : d ≠ t := fun e => h (by rw [e])
    simp [Act.put, Array.getElem?_setIfInBounds_ne this]
theorem put_get (a : Act) (d : Nat) (v : Value) (h : d < a.tmps.size) : (a.put (some d) v).tmps[d]? = some v := by
  simp [Act.put, h]

/-- What holds at each step: what is listed is closed below, and holds. -/
structure Inv (ops : Array Oper) (a0 : Act) (w0 : World) (ps : List Pr) (listed : Array Bool) (a : Act) (w : World) : Prop where
  here : Here ops a0 w0 a w
  closed : ∀ (i : Nat) (o : Oper), ops[i]? = some o → listed.getD i false = true → ∀ e ∈ o.after, Region.binds .any e = true → listed.getD e.on false = true
  got : ∀ i, i < ops.size → listed.getD i false = true → Got ops ps i a w
  keep : ∀ t : Nat, (∀ (j : Nat) (o : Oper), ops[j]? = some o → o.dst = some t → listed.getD j false = false) → a.tmps[t]? = a0.tmps[t]?

theorem near_listed {listed : Array Bool} {a : Act} {w : World} (h : Inv ops a0 w0 ps listed a w) {i j : Nat} (hd : Near ops i j)
    (hl : listed.getD i false = true ∨ i ∈ Region.ready .any ops listed) : listed.getD j false = true := by
  obtain ⟨o, e, hi, he, hb, hj⟩ := hd
  rw [← hj]
  rcases hl with hl | hl
  · exact h.closed _ _ hi hl e he hb
  · obtain ⟨_, o', ho', hall⟩ := mem_ready.1 hl
    rw [hi] at ho'
    injection ho' with ho'
    subst ho'
    exact hall e he hb
theorem dep_listed {listed : Array Bool} {a : Act} {w : World} (h : Inv ops a0 w0 ps listed a w) {i j : Nat} (hd : Dep ops i j)
    (hl : listed.getD i false = true ∨ i ∈ Region.ready .any ops listed) : listed.getD j false = true := by
  obtain ⟨ks, hw⟩ := hd
  induction ks generalizing i with
  | nil => exact near_listed h hw hl
  | cons k ks ih => exact ih (.inl (near_listed h hw.1 hl)) hw.2

theorem any_inv (hok : OkOps ops a0.tmps.size) (hlen : ps.length = ops.size) (hg : Good P ops Q a0 w0 ps)
    (hfin : ∀ a w, Here ops a0 w0 a w → (∀ i, i < ops.size → Got ops ps i a w) → Q .normal a w) :
    ∀ (fuel : Nat) (listed : Array Bool) (a : Act) (w : World), listed.size = ops.size → (listed.toList.countP (! ·)) ≤ fuel → Inv ops a0 w0 ps listed a w →
      wpAny P .any ops Q fuel listed a w := by
  have hall : ∀ (listed : Array Bool) (a : Act) (w : World), listed.size = ops.size → Inv ops a0 w0 ps listed a w → Region.ready .any ops listed = [] → Q .normal a w := by
    intro listed a w hls hI hr
    have hlisted : ∀ n i, i < n → i < ops.size → listed.getD i false = true := by
      intro n
      induction n with
      | zero => intro i h; omega
      | succ n ih =>
        intro i hi his
        by_cases hin : i < n
        · exact ih i hin his
        · have hieq : i = n := by omega
          subst hieq
          cases hl : listed.getD i false with
          | true => rfl
          | false =>
            exfalso
            have hmem : i ∈ Region.ready .any ops listed := by
              rw [mem_ready]
              have hlt : i < listed.size := by omega
              refine ⟨by simpa [hlt] using hl, ops[i], Array.getElem?_eq_getElem his, fun e he hb => ?_⟩
              have hlt := hok.back i ops[i] (Array.getElem?_eq_getElem his) e he hb
              exact ih e.on hlt (by omega)
            rw [hr] at hmem
            cases hmem
    exact hfin a w hI.here fun i hi => hI.got i hi (hlisted (i + 1) i (by omega) hi)
  intro fuel
  induction fuel with
  | zero =>
    intro listed a w hls hc hI
    have hr : Region.ready .any ops listed = [] := by
      rw [List.eq_nil_iff_forall_not_mem]
      intro i hi
      obtain ⟨h0, o, ho, _⟩ := mem_ready.1 hi
      have hlt : i < listed.size := by have := (Array.getElem?_eq_some_iff.1 ho).1; omega
      have hpos : 0 < listed.toList.countP (! ·) := by
        rw [List.countP_pos_iff]
        refine ⟨listed[i], by simp, ?_⟩
        simp [hlt] at h0
        simp [h0]
      omega
    exact ⟨hr, hall listed a w hls hI hr⟩
  | succ fuel ih =>
    intro listed a w hls hc hI
    refine ⟨hall listed a w hls hI, fun i hi => ?_⟩
    obtain ⟨h0, o, ho, hdeps⟩ := mem_ready.1 hi
    have his : i < ops.size := (Array.getElem?_eq_some_iff.1 ho).1
    have hlt : i < listed.size := by omega
    have h0' : listed[i] = false := by simpa [hlt] using h0
    refine hg.2 i (by omega) a w hI.here ⟨fun j hj hjp => ?_, fun t ht => ?_⟩ _ (fun o' ho' v w' hb hp => ?_)
    · exact hI.got j (by omega) (dep_listed hI hj (.inr hi))
    · refine hI.keep t fun j oj hj hd => ?_
      have h9 : listed.getD i false = false := by simp [hlt, h0']
      rcases ht j oj hj hd with rfl | hdep
      · exact h9
      · cases hl : listed.getD j false with
        | false => rfl
        | true => rw [dep_listed hI hdep (.inl hl)] at h9; cases h9
    · rw [ho] at ho'
      injection ho' with ho'
      subst ho'
      refine ih _ _ _ (by simp [hls]) ?_ ⟨⟨hI.here.ext.trans (hb.mono hI.here.ext.size), (put_defers ..).trans hI.here.defers, (put_size ..).trans hI.here.size, fun t ht => (put_get_ne _ _ _ _ (ht i o ho)).trans (hI.here.old t ht)⟩, ?_, ?_, ?_⟩
      · have hset : (listed.setIfInBounds i true).toList = listed.toList.set i true := by simp
        rw [hset, List.countP_set (by simpa using hlt)]
        simp [h0']
        have : 0 < listed.toList.countP (! ·) := by
          rw [List.countP_pos_iff]
          exact ⟨listed[i], by simp, by simp [h0']⟩
        simp only [Array.countP_toList] at this hc
        omega
      · intro k ok hk hl e he hb
        by_cases hki : i = k
        · subst hki
          rw [ho] at hk
          injection hk with hk
          subst hk
          exact getD_set_true (hdeps e he hb)
        · rw [getD_set_ne false hki] at hl
          exact getD_set_true (hI.closed k ok hk hl e he hb)
      · intro k hk hl
        by_cases hki : i = k
        · subst hki
          refine ⟨v, fun o'' d hk' hd => ?_, hp⟩
          rw [ho] at hk'
          injection hk' with hk'
          subst hk'
          rw [hd]
          exact put_get _ _ _ (by rw [hI.here.size]; exact hok.room i o d ho hd)
        · rw [getD_set_ne false hki] at hl
          obtain ⟨v', hv', hp'⟩ := hI.got k hk hl
          refine ⟨v', fun o'' d hk' hd => ?_, hg.1 k _ _ _ hb hp'⟩
          rw [put_get_ne _ _ _ _ (fun he => hki (hok.apart i k o o'' d ho hk' he hd))]
          exact hv' o'' d hk' hd
      · intro t ht
        refine (put_get_ne _ _ _ _ (fun he => ?_)).trans (hI.keep t fun j oj hj hd => ?_)
        · have h9 := ht i o ho he
          simp [hlt] at h9
        · have h9 := ht j oj hj hd
          by_cases hij : i = j
          · subst hij; simp [hlt] at h9
          · rwa [getD_set_ne false hij] at h9

/-- The values are laid in one by one, in the text's order. -/
def Fin (Q : Exit → Act → World → Prop) (w : World) : List Oper → List Pr → Act → Prop
  | o :: os, p :: ps, a => ∀ v, p v w → Fin Q w os ps (a.put o.dst v)
  | _, _, a => Q .normal a w

theorem fin_use {w : World} {a : Act} (hs : a.tmps.size = a0.tmps.size) (hd : a.defers = a0.defers) :
    ∀ (l : List Oper) (qs : List Pr) (cur : Act), l.length = qs.length → cur.tmps.size = a0.tmps.size → cur.defers = a0.defers →
      (∀ t : Nat, (∀ o : Oper, o ∈ l → o.dst ≠ some t) → cur.tmps[t]? = a.tmps[t]?) →
      (∀ (i : Nat) (o : Oper) (p : Pr), l[i]? = some o → qs[i]? = some p → ∃ v, (∀ d : Nat, o.dst = some d → a.tmps[d]? = some v) ∧ p v w) →
      Fin Q w l qs cur → Q .normal a w := by
  intro l
  induction l with
  | nil =>
    intro qs cur hl hsz hdf hc hv hf
    have he : cur = a := by
      obtain ⟨ct, cd⟩ := cur
      obtain ⟨at', ad⟩ := a
      simp only [Act.mk.injEq]
      refine ⟨Array.ext_getElem? fun t => ?_, by simp at hdf hd; rw [hdf, hd]⟩
      exact hc t (by simp)
    cases qs with
    | nil => rw [← he]; exact hf
    | cons q qs => simp at hl
  | cons o l ih =>
    intro qs cur hl hsz hdf hc hv hf
    cases qs with
    | nil => simp at hl
    | cons q qs =>
      obtain ⟨v, hdv, hp⟩ := hv 0 o q rfl rfl
      refine ih qs (cur.put o.dst v) (by simpa using hl) ((put_size ..).trans hsz) ((put_defers ..).trans hdf) (fun t ht => ?_) (fun i o' p ho' hp' => hv (i + 1) o' p (by simpa using ho') (by simpa using hp')) (hf v hp)
      by_cases hdt : o.dst = some t
      · have h1 := hdv t hdt
        rw [hdt, h1]
        have hlt : t < cur.tmps.size := by
          have := (Array.getElem?_eq_some_iff.1 h1).1
          omega
        exact put_get _ _ _ hlt
      · rw [put_get_ne _ _ _ _ hdt]
        exact hc t (fun o' ho' => by
          rcases List.mem_cons.1 ho' with rfl | ho'
          · exact hdt
          · exact ht o' ho')

def Todo (P : Program) (id : Nat) (ops : Array Oper) (Q : Exit → Act → World → Prop) (a0 : Act) (w0 : World) (ps : List Pr) : Prop :=
  Good P ops Q a0 w0 ps → (Code.region id ops true).wp P Q a0 w0

theorem todo_start {id : Nat} (h : Todo P id ops Q a0 w0 []) : (Code.region id ops true).wp P Q a0 w0 :=
  h ⟨fun i => Stable.any, fun i hi => absurd hi (by simp)⟩

theorem todo_begin {id n : Nat} {l : List Oper} (hok : OkOps l.toArray n) (h : Hid (OkOps l.toArray n) → Todo P id l.toArray Q a0 w0 []) : (Code.region id l.toArray true).wp P Q a0 w0 := todo_start (h (Lib.hid hok))

theorem todo_step {id : Nat} (p : Pr) (hs : Stable p) (h : Step P ops Q a0 w0 ps ps.length p) (rest : Todo P id ops Q a0 w0 (p :: ps)) (hok : OkOps ops a0.tmps.size) : Todo P id ops Q a0 w0 ps := by
  intro hg
  refine rest ⟨fun i => ?_, fun i hi a w hh hd => ?_⟩
  · by_cases he : i = ps.length
    · subst he; rw [look_cons_eq]; exact hs
    · have : look (p :: ps) i = look ps i := by simp [look, he]
      rw [this]; exact hg.1 i
  · have hgot : Deps ops a0 ps i a w := ⟨fun j hj hjl => by
      obtain ⟨v, hv, hp⟩ := hd.1 j hj (by simp; omega)
      exact ⟨v, hv, by rwa [look_cons_lt hjl] at hp⟩, hd.2⟩
    by_cases he : i = ps.length
    · subst he
      rw [look_cons_eq]
      exact h a w hh hgot
    · have hlt : i < ps.length := by simp at hi; omega
      rw [look_cons_lt hlt]
      exact hg.2 i hlt a w hh hgot

theorem look_rev (ps : List Pr) (i : Nat) (p : Pr) (h : ps.reverse[i]? = some p) : look ps i = p := by
  induction ps with
  | nil => simp at h
  | cons q ps ih =>
    rw [List.reverse_cons] at h
    by_cases he : i = ps.length
    · subst he
      rw [look_cons_eq]
      rw [List.getElem?_append_right (by simp)] at h
      simpa using h
    · rcases Nat.lt_or_ge i ps.length with hlt | hge
      · rw [look_cons_lt hlt]
        rw [List.getElem?_append_left (by simpa using hlt)] at h
        exact ih h
      · rw [List.getElem?_append_right (by simpa using hge)] at h
        simp at h
        have := (List.getElem?_eq_some_iff.1 h).1
        simp at this
        omega

theorem todo_done {id n : Nat} {l : List Oper} (hm : P.follows .mixedOrders = true) (hn : a0.tmps.size = n) (hok : OkOps l.toArray n) (hlen : ps.length = l.length)
    (hfin : ∀ w, Below w0.heap.size w0 w → Fin Q w l ps.reverse a0) : Todo P id l.toArray Q a0 w0 ps := by
  subst hn
  intro hg
  refine wp_region_any hm ?_
  refine any_inv hok (by simpa using hlen) hg (fun a w hh hgot => ?_) _ _ _ _ (by simp) ?_ ?_
  · refine fin_use hh.size hh.defers l ps.reverse a0 (by simpa using hlen.symm) rfl rfl (fun t ht => ?_) (fun i o p ho hp => ?_) (hfin w hh.ext)
    · refine (hh.old t (fun i o ho => ht o ?_)).symm
      have : o ∈ l.toArray := Array.mem_of_getElem? ho
      simpa using this
    · have his : i < l.length := (List.getElem?_eq_some_iff.1 ho).1
      obtain ⟨v, hv, hl⟩ := hgot i (by simpa using his)
      exact ⟨v, fun d hd => hv o d (by simpa using ho) hd, by rwa [look_rev ps i p hp] at hl⟩
  · exact Nat.le_trans List.countP_le_length (by simp)
  · refine ⟨⟨⟨rfl, rfl, rfl, Nat.le_refl _, fun _ _ => rfl⟩, rfl, rfl, fun _ _ => rfl⟩, fun i o ho hl => ?_, fun i hi hl => ?_, fun _ _ => rfl⟩
    · have hi := (Array.getElem?_eq_some_iff.1 ho).1
      simp at hi
      simp [hi] at hl
    · simp at hi
      simp [hi] at hl

/-! One step. -/
/-- The next operation, by its number. -/
theorem todo_op {id k n : Nat} {l : List Oper} (p : Pr) (hn : a0.tmps.size = n) (hok : OkOps l.toArray n) (hk : ps.length = k) (hs : Stable p)
    (h : ∀ a w, Here l.toArray a0 w0 a w → Hid (Deps l.toArray a0 ps k a w) → ps.length = k → ∀ K : Act → World → Prop,
      Hid (∀ o : Oper, l[k]? = some o → ∀ v w', Below w.heap.size w w' → p v w' → K (a.put o.dst v) w') → wpOp P l.toArray Q k K a w)
    (rest : Todo P id l.toArray Q a0 w0 (p :: ps)) : Todo P id l.toArray Q a0 w0 ps := by
  subst hn
  refine todo_step p hs ?_ rest hok
  rw [hk]
  intro a w hh hd K hK
  exact h a w hh hd hk K (fun o ho => hK o (by simpa using ho))
/-- A value that is computed. -/
theorem todo_is {id k n : Nat} {l : List Oper} (V : Value) (hn : a0.tmps.size = n) (hok : OkOps l.toArray n) (hk : ps.length = k)
    (h : ∀ a w, Here l.toArray a0 w0 a w → Hid (Deps l.toArray a0 ps k a w) → ps.length = k → ∀ K : Act → World → Prop,
      Hid (∀ o : Oper, l[k]? = some o → ∀ v w', Below w.heap.size w w' → v = V → K (a.put o.dst v) w') → wpOp P l.toArray Q k K a w)
    (rest : Todo P id l.toArray Q a0 w0 (Is V :: ps)) : Todo P id l.toArray Q a0 w0 ps :=
  todo_op (Is V) hn hok hk (Stable.is V) h rest

def dep1 (l : List Oper) (i j : Nat) : Bool := match l[i]? with | some o => o.after.any fun e => Region.binds .any e && e.on == j | none => false
def isPath (l : List Oper) : Nat → List Nat → Nat → Bool
  | i, [], j => dep1 l i j
  | i, k :: ks, j => dep1 l i k && isPath l k ks j
theorem near_of {l : List Oper} {i j : Nat} (h : dep1 l i j = true) : Near l.toArray i j := by
  unfold dep1 at h
  cases ho : l[i]? with
  | none => simp [ho] at h
  | some o =>
    simp only [ho, Array.any_eq_true', Bool.and_eq_true, beq_iff_eq] at h
    obtain ⟨e, he, hb, hj⟩ := h
    exact ⟨o, e, by simpa using ho, he, hb, hj⟩
theorem way_of {l : List Oper} {j : Nat} : ∀ (ks : List Nat) {i : Nat}, isPath l i ks j = true → Way l.toArray i ks j
  | [], _, h => near_of h
  | k :: ks, _, h => by
    simp only [isPath, Bool.and_eq_true] at h
    exact ⟨near_of h.1, way_of ks h.2⟩
theorem Dep.of {l : List Oper} {i j : Nat} (ks : List Nat) (h : isPath l i ks j = true) : Dep l.toArray i j := ⟨ks, way_of ks h⟩
theorem use {l : List Oper} {k j m d : Nat} {p : Pr} {o : Oper} {a : Act} {w : World} (hd : Hid (Deps l.toArray a0 ps k a w)) (hk : ps.length = k) (hm : j + m + 1 = k)
    (ks : List Nat) (hks : isPath l k ks j = true) (hp : ps[m]? = some p) (ho : l[j]? = some o) (hdst : o.dst = some d) : ∃ v, a.tmps[d]? = some v ∧ p v w := by
  obtain ⟨v, hv, hl⟩ := hd.out.1 j (Dep.of ks hks) (by omega)
  refine ⟨v, hv o d (by simpa using ho) hdst, ?_⟩
  have hlt := (List.getElem?_eq_some_iff.1 hp).1
  have : look ps j = p := look_rev ps j p (by rw [List.getElem?_reverse (by omega)]; rw [← hp]; congr 1; omega)
  rwa [this] at hl
theorem use_is {l : List Oper} {k j m d : Nat} {V : Value} {o : Oper} {a : Act} {w : World} (hd : Hid (Deps l.toArray a0 ps k a w)) (hk : ps.length = k) (hm : j + m + 1 = k)
    (ks : List Nat) (hks : isPath l k ks j = true) (hp : ps[m]? = some (Is V)) (ho : l[j]? = some o) (hdst : o.dst = some d) : a.tmps[d]? = some V := by
  obtain ⟨v, hv, hl⟩ := use hd hk hm ks hks hp ho hdst
  rw [hv, show v = V from hl]
/-- What an operation without a slot has left. -/
theorem use_fact {l : List Oper} {k j m : Nat} {p : Pr} {a : Act} {w : World} (hd : Hid (Deps l.toArray a0 ps k a w)) (hk : ps.length = k) (hm : j + m + 1 = k)
    (ks : List Nat) (hks : isPath l k ks j = true) (hp : ps[m]? = some p) : ∃ v, p v w := by
  obtain ⟨v, hv, hl⟩ := hd.out.1 j (Dep.of ks hks) (by omega)
  have hlt := (List.getElem?_eq_some_iff.1 hp).1
  have : look ps j = p := look_rev ps j p (by rw [List.getElem?_reverse (by omega)]; rw [← hp]; congr 1; omega)
  rw [this] at hl
  exact ⟨v, hl⟩
/-- The end, by what is known of each slot. -/
theorem todo_facts {id n : Nat} {l : List Oper} (hm : P.follows .mixedOrders = true) (hn : a0.tmps.size = n) (hok : OkOps l.toArray n) (hlen : ps.length = l.length)
    (hfin : ∀ a w, Here l.toArray a0 w0 a w → Hid (∀ i, i < l.length → Got l.toArray ps i a w) → Q .normal a w) : Todo P id l.toArray Q a0 w0 ps := by
  subst hn
  intro hg
  refine wp_region_any hm ?_
  refine any_inv hok (by simpa using hlen) hg (fun a w hh hgot => hfin a w hh (fun i hi => hgot i (by simpa using hi))) _ _ _ _ (by simp) ?_ ?_
  · exact Nat.le_trans List.countP_le_length (by simp)
  · refine ⟨⟨⟨rfl, rfl, rfl, Nat.le_refl _, fun _ _ => rfl⟩, rfl, rfl, fun _ _ => rfl⟩, fun i o ho hl => ?_, fun i hi hl => ?_, fun _ _ => rfl⟩
    · have hi := (Array.getElem?_eq_some_iff.1 ho).1
      simp at hi
      simp [hi] at hl
    · simp at hi
      simp [hi] at hl
theorem end_use {l : List Oper} {j m d : Nat} {p : Pr} {o : Oper} {a : Act} {w : World} (hg : Hid (∀ i, i < l.length → Got l.toArray ps i a w)) (hm : j + m + 1 = ps.length)
    (hp : ps[m]? = some p) (ho : l[j]? = some o) (hdst : o.dst = some d) : ∃ v, a.tmps[d]? = some v ∧ p v w := by
  obtain ⟨v, hv, hl⟩ := hg.out j (List.getElem?_eq_some_iff.1 ho).1
  refine ⟨v, hv o d (by simpa using ho) hdst, ?_⟩
  have hlt := (List.getElem?_eq_some_iff.1 hp).1
  have : look ps j = p := look_rev ps j p (by rw [List.getElem?_reverse (by omega)]; rw [← hp]; congr 1; omega)
  rwa [this] at hl
theorem end_is {l : List Oper} {j m d : Nat} {V : Value} {o : Oper} {a : Act} {w : World} (hg : Hid (∀ i, i < l.length → Got l.toArray ps i a w)) (hm : j + m + 1 = ps.length)
    (hp : ps[m]? = some (Is V)) (ho : l[j]? = some o) (hdst : o.dst = some d) : a.tmps[d]? = some V := by
  obtain ⟨v, hv, hl⟩ := end_use hg hm hp ho hdst
  rw [hv, show v = V from hl]
theorem end_fact {l : List Oper} {j m : Nat} {p : Pr} {a : Act} {w : World} (hg : Hid (∀ i, i < l.length → Got l.toArray ps i a w)) (hm : j + m + 1 = ps.length) (hjl : j < l.length)
    (hp : ps[m]? = some p) : ∃ v, p v w := by
  obtain ⟨v, hv, hl⟩ := hg.out j hjl
  have hlt := (List.getElem?_eq_some_iff.1 hp).1
  have : look ps j = p := look_rev ps j p (by rw [List.getElem?_reverse (by omega)]; rw [← hp]; congr 1; omega)
  rw [this] at hl
  exact ⟨v, hl⟩
def noDst (l : List Oper) (t : Nat) : Bool := l.all fun o => o.dst != some t
theorem old_at {l : List Oper} {t : Nat} {x : Value} {a : Act} {w : World} (hh : Here l.toArray a0 w0 a w) (hn : noDst l t = true) (hx : a0.tmps[t]? = some x) : a.tmps[t]? = some x := by
  rw [hh.old t ?_, hx]
  intro i o ho hd
  have hm : o ∈ l := by have : o ∈ l.toArray := Array.mem_of_getElem? ho; simpa using this
  have := List.all_eq_true.1 hn o hm
  simp [hd] at this
def onlyDst (l : List Oper) (t j : Nat) : Bool := (List.range l.length).all fun i => i == j || (match l[i]? with | some o => o.dst != some t | none => true)
/-- a slot that is written by one operation alone, which waits for this one -/
theorem old_dep {l : List Oper} {t k j : Nat} (ks : List Nat) {x : Value} {a : Act} {w : World} (hd : Hid (Deps l.toArray a0 ps k a w)) (hn : onlyDst l t j = true) (hp : (j == k || isPath l j ks k) = true) (hx : a0.tmps[t]? = some x) : a.tmps[t]? = some x := by
  rw [hd.out.2 t ?_, hx]
  intro i o ho hdst
  have ho' : l[i]? = some o := by simpa using ho
  have hil := (List.getElem?_eq_some_iff.1 ho').1
  have h1 := List.all_eq_true.1 hn i (by simpa using hil)
  rw [ho'] at h1
  simp only [hdst, Bool.or_eq_true, beq_iff_eq, bne_self_eq_false, Bool.false_eq_true, or_false] at h1
  subst h1
  rcases Bool.or_eq_true _ _ |>.mp hp with h2 | h2
  · exact .inl (by simpa using h2)
  · exact .inr (Dep.of ks h2)

theorem op_plain {l : List Oper} {i : Nat} {o : Oper} {a : Act} {w : World} {K : Act → World → Prop} (hi : l[i]? = some o) (hg : o.guard = none) (h : Oper.wp P o a w K Q) : wpOp P l.toArray Q i K a w := by
  unfold wpOp; simp only [List.getElem?_toArray, hi]
  rw [if_pos (by simp [Region.wanted, hg])]
  exact .inl h
theorem op_guard {l : List Oper} {i g d : Nat} {b : Bool} {o og : Oper} {a : Act} {w : World} {K : Act → World → Prop} (hi : l[i]? = some o) (hg : o.guard = some (g, b)) (hgo : l[g]? = some og) (hd : og.dst = some d) (hv : a.tmps[d]? = some (.bool b))
    (h : Oper.wp P o a w K Q) : wpOp P l.toArray Q i K a w := by
  unfold wpOp; simp only [List.getElem?_toArray, hi]
  rw [if_pos (by simp [Region.wanted, hg, yielded, hgo, hd, hv])]
  exact .inl h
theorem op_skip {l : List Oper} {i g d : Nat} {b : Bool} {o og : Oper} {a : Act} {w : World} {K : Act → World → Prop} (hi : l[i]? = some o) (hg : o.guard = some (g, b)) (hgo : l[g]? = some og) (hd : og.dst = some d)
    (hv : a.tmps[d]? = some (.bool (!b))) (h : K (a.put o.dst undef) w) : wpOp P l.toArray Q i K a w := by
  unfold wpOp; simp only [List.getElem?_toArray, hi]
  rw [if_neg]
  · exact h
  · cases b <;> simp [Region.wanted, hg, yielded, hgo, hd, hv]
theorem op_skip' {l : List Oper} {i g d : Nat} {b : Bool} {o og : Oper} {a : Act} {w : World} {K : Act → World → Prop} (hi : l[i]? = some o) (hg : o.guard = some (g, b)) (hgo : l[g]? = some og) (hd : og.dst = some d)
    (hv : a.tmps[d]? = some undef) (h : K (a.put o.dst undef) w) : wpOp P l.toArray Q i K a w := by
  unfold wpOp; simp only [List.getElem?_toArray, hi]
  rw [if_neg]
  · exact h
  · simp [Region.wanted, hg, yielded, hgo, hd, hv, undef]
/-- a move of a slot that no operation of the region writes -/
theorem mvO {id k n u : Nat} {l : List Oper} {V : Value} {o : Oper} (s : a0.tmps[u]? = some V) (hn : a0.tmps.size = n) (hok : OkOps l.toArray n) (hk : ps.length = k) (ho : l[k]? = some o) (hg : o.guard = none) (hop : o.op = .move (.tmp u) ∨ o.op = .assign (.tmp u)) (hnd : noDst l u = true)
    (rest : Todo P id l.toArray Q a0 w0 (Is V :: ps)) : Todo P id l.toArray Q a0 w0 ps :=
  todo_is V hn hok hk (fun a w hh hd _ K hK => op_plain ho hg (by
    have hs := old_at hh hnd s
    have he : a.eval (.tmp u) = V := by simp [Act.eval, hs]
    have h2 := hK.out o ho V w (Below.refl _ _) rfl
    rw [← he] at h2
    unfold Oper.wp execOp
    rcases hop with h | h <;> rw [h] <;> exact h2)) rest
/-- a move of a slot that an operation writes that waits for this one -/
theorem mvP {id k n u j : Nat} {l : List Oper} {V : Value} {o : Oper} (s : a0.tmps[u]? = some V) (hn : a0.tmps.size = n) (hok : OkOps l.toArray n) (hk : ps.length = k) (ho : l[k]? = some o) (hg : o.guard = none) (hop : o.op = .move (.tmp u) ∨ o.op = .assign (.tmp u)) (ks : List Nat) (hnd : onlyDst l u j = true) (hp : (j == k || isPath l j ks k) = true)
    (rest : Todo P id l.toArray Q a0 w0 (Is V :: ps)) : Todo P id l.toArray Q a0 w0 ps :=
  todo_is V hn hok hk (fun a w hh hd _ K hK => op_plain ho hg (by
    have hs := old_dep ks hd hnd hp s
    have he : a.eval (.tmp u) = V := by simp [Act.eval, hs]
    have h2 := hK.out o ho V w (Below.refl _ _) rfl
    rw [← he] at h2
    unfold Oper.wp execOp
    rcases hop with h | h <;> rw [h] <;> exact h2)) rest
/-- a move of a slot that an operation ahead has written -/
theorem mvN {id k n u j m : Nat} {l : List Oper} {V : Value} {o oj : Oper} (hn : a0.tmps.size = n) (hok : OkOps l.toArray n) (hk : ps.length = k) (ho : l[k]? = some o) (hg : o.guard = none) (hop : o.op = .move (.tmp u) ∨ o.op = .assign (.tmp u))
    (hm : j + m + 1 = k) (ks : List Nat) (hks : isPath l k ks j = true) (hp : ps[m]? = some (Is V)) (hoj : l[j]? = some oj) (hdst : oj.dst = some u)
    (rest : Todo P id l.toArray Q a0 w0 (Is V :: ps)) : Todo P id l.toArray Q a0 w0 ps :=
  todo_is V hn hok hk (fun a w hh hd hk K hK => op_plain ho hg (by
    have hs := use_is hd hk hm ks hks hp hoj hdst
    have he : a.eval (.tmp u) = V := by simp [Act.eval, hs]
    have h2 := hK.out o ho V w (Below.refl _ _) rfl
    rw [← he] at h2
    unfold Oper.wp execOp
    rcases hop with h | h <;> rw [h] <;> exact h2)) rest
theorem u (j m : Nat) {l : List Oper} {k d : Nat} {V : Value} {o : Oper} {a : Act} {w : World} (hd : Hid (Deps l.toArray a0 ps k a w)) (hk : ps.length = k) (hm : j + m + 1 = k)
    (ks : List Nat) (hks : isPath l k ks j = true) (hp : ps[m]? = some (Is V)) (ho : l[j]? = some o) (hdst : o.dst = some d) : a.tmps[d]? = some V := use_is hd hk hm ks hks hp ho hdst
theorem e (j m : Nat) {l : List Oper} {d : Nat} {V : Value} {o : Oper} {a : Act} {w : World} (hg : Hid (∀ i, i < l.length → Got l.toArray ps i a w)) (hm : j + m + 1 = ps.length)
    (hp : ps[m]? = some (Is V)) (ho : l[j]? = some o) (hdst : o.dst = some d) : a.tmps[d]? = some V := end_is hg hm hp ho hdst
theorem o {l : List Oper} {t : Nat} {x : Value} {a : Act} {w : World} (hh : Here l.toArray a0 w0 a w) (hn : noDst l t = true) (hx : a0.tmps[t]? = some x) : a.tmps[t]? = some x := old_at hh hn hx
theorem t (k : Nat) {id n : Nat} {l : List Oper} (V : Value) (hn : a0.tmps.size = n) (hok : OkOps l.toArray n) (hk : ps.length = k)
    (h : ∀ a w, Here l.toArray a0 w0 a w → Hid (Deps l.toArray a0 ps k a w) → ps.length = k → ∀ K : Act → World → Prop,
      Hid (∀ o : Oper, l[k]? = some o → ∀ v w', Below w.heap.size w w' → v = V → K (a.put o.dst v) w') → wpOp P l.toArray Q k K a w)
    (rest : Todo P id l.toArray Q a0 w0 (Is V :: ps)) : Todo P id l.toArray Q a0 w0 ps := todo_is V hn hok hk h rest
end
end Stab
end Go.Proofs.YtgjfhedgdbbinaaDoor
