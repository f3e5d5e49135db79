/- A drawn region by one fact for each operation: each operation, in whatever order they come, yields a value of which something holds that no later operation undoes; so at the end all of it holds. -/
import Derived.Below
import Derived.Orders
import Derived.Lib.Hide
import Derived.Deep.LoopGhost
import Derived.IntWalk
import Derived.Laws.Bits64
import Derived.Scope
import Derived.KernelRfl
namespace Go.Proofs.YtcddnmhmcieebaaGreatDoor
theorem cR1 {w : World} {g : Nat} {cs : Array Value} {t : TypeId} {fr : Nat × Nat} (j : Nat) (hg : w.heap[g]? = some (.cells cs t fr)) : w.cell? ⟨g, j, none⟩ = cs[j]? := Go.cell_of_row w g j cs t fr hg
theorem gE1 {α : Type} {l : List α} {i : Nat} (h : i < l.length) : l[i]? = some l[i] := List.getElem?_eq_getElem h
theorem gM1 {α : Type} {l : List α} {i : Nat} {x : α} (h : l[i]? = some x) : x ∈ l := List.mem_of_getElem? h
theorem gS1 {α : Type} {l : List α} {i : Nat} {x : α} (h : l[i]? = some x) : ∃ h : i < l.length, l[i] = x := List.getElem?_eq_some_iff.1 h
open Go.RowKit
set_option linter.unusedSimpArgs false
set_option linter.unusedVariables false
set_option linter.unnecessarySimpa false
namespace Stab
abbrev Pr := Value -> World -> Prop
/-- What holds of a value, and of whatever world comes later. -/
def Stable (p : Pr) : Prop := ∀ v w w', Below w.heap.size w w' -> p v w -> p v w'
def Is (V : Value) : Pr := fun v _ => v = V
def Any : Pr := fun _ _ => True
theorem Stable.is (V : Value) : Stable (Is V) := fun _ _ _ _ h => h
theorem Stable.any : Stable Any := fun _ _ _ _ h => h
/-- The predicates are kept with the last one first. -/
def look : List Pr -> Nat -> Pr
 | [], _ => Any
 | p :: ps, k => if k = ps.length then p else look ps k
theorem look_cons_lt {p : Pr} {ps : List Pr} {k : Nat} (h : k < ps.length) : look (p :: ps) k = look ps k := by
 simp [look, Nat.ne_of_lt h]
theorem look_cons_eq {p : Pr} {ps : List Pr} : look (p :: ps) ps.length = p := by simp [look]
theorem look_ge {ps : List Pr} {k : Nat} (h : ps.length <= k) : look ps k = Any := by
 induction ps with
 | nil => rfl
 | cons p ps ih => simp only [List.length_cons] at h; rw [look, if_neg (by omega)]; exact ih (by omega)
section
variable (P : Program) (ops : Array Oper) (Q : Exit -> Act -> World -> Prop) (a0 : Act) (w0 : World)
def Got (ps : List Pr) (i : Nat) (a : Act) (w : World) : Prop := ∃ v, (∀ (o : Oper) (d : Nat), ops[i]? = some o -> o.dst = some d -> a.tmps[d]? = some v) /\ look ps i v w
/-- The state at a step of the region. -/
structure Here (a : Act) (w : World) : Prop where
 ext : Below w0.heap.size w0 w
 defers : a.defers = a0.defers
 size : a.tmps.size = a0.tmps.size
 old : ∀ t : Nat, (∀ (i : Nat) (o : Oper), ops[i]? = some o -> o.dst ≠ some t) -> a.tmps[t]? = a0.tmps[t]?
/-- An operation that this one waits for. -/
def Near (i j : Nat) : Prop := ∃ (o : Oper) (e : Edge), ops[i]? = some o /\ e ∈ o.after /\ Region.binds .any e = true /\ e.on = j
def Way : Nat -> List Nat -> Nat -> Prop
 | i, [], j => Near ops i j
 | i, k :: ks, j => Near ops i k /\ Way k ks j
/-- An operation that is listed whenever this one is ready. -/
def Dep (i j : Nat) : Prop := ∃ ks, Way ops i ks j
/-- What an operation knows: what it waits for has its value; a slot that only operations write that wait for this one is as it was. -/
def Deps (ps : List Pr) (i : Nat) (a : Act) (w : World) : Prop :=
 (∀ j, Dep ops i j -> j < ps.length -> Got ops ps j a w) /\ ∀ t : Nat, (∀ (j : Nat) (o : Oper), ops[j]? = some o -> o.dst = some t -> j = i \/ Dep ops j i) -> a.tmps[t]? = a0.tmps[t]?
/-- What is to be shown of operation i. -/
def Step (ps : List Pr) (i : Nat) (p : Pr) : Prop :=
 ∀ a w, Here ops a0 w0 a w -> Deps ops a0 ps i a w -> ∀ K : Act -> World -> Prop,
  (∀ o : Oper, ops[i]? = some o -> ∀ v w', Below w.heap.size w w' -> p v w' -> K (a.put o.dst v) w') -> wpOp P ops Q i K a w
def Good (ps : List Pr) : Prop := (∀ i, Stable (look ps i)) /\ ∀ i, i < ps.length -> Step P ops Q a0 w0 ps i (look ps i)
/-- Edges go back; no two operations lay their values into one slot, and each slot is there. -/
def okOps (n : Nat) : Bool :=
 (List.range ops.size).all fun i => match ops[i]? with
  | none => false
  | some o => (o.after.all fun e => !Region.binds .any e || decide (e.on < i)) &&
    match o.dst with
    | none => true
    | some d => decide (d < n) && (List.range i).all fun j => match ops[j]? with | none => true | some o' => o'.dst != some d
structure OkOps (n : Nat) : Prop where
 back : ∀ (i : Nat) (o : Oper), ops[i]? = some o -> ∀ e ∈ o.after, Region.binds .any e = true -> e.on < i
 room : ∀ (i : Nat) (o : Oper) (d : Nat), ops[i]? = some o -> o.dst = some d -> d < n
 apart : ∀ (i j : Nat) (o o' : Oper) (d : Nat), ops[i]? = some o -> ops[j]? = some o' -> o.dst = some d -> o'.dst = some d -> i = j
end
theorem OkOps.of {ops : Array Oper} {n : Nat} (h : okOps ops n = true) : OkOps ops n := by
 simp only [okOps, List.all_eq_true, List.mem_range] at h
 have h' : ∀ (i : Nat) (o : Oper), ops[i]? = some o -> (∀ e ∈ o.after, Region.binds .any e = true -> e.on < i) /\ ∀ d : Nat, o.dst = some d -> d < n /\ ∀ j, j < i -> ∀ o' : Oper, ops[j]? = some o' -> o'.dst ≠ some d := by
  intro i o ho
  have hi := h i (Array.getElem?_eq_some_iff.1 ho).1
  simp only [ho, Bool.and_eq_true] at hi
  obtain ⟨ha, hd⟩ := hi
  refine ⟨fun e he hb => ?_, fun d hdd => ?_⟩
  ·have := Array.all_eq_true_iff_forall_mem.1 ha e he
   simpa [hb] using this
  ·simp only [hdd, Bool.and_eq_true, decide_eq_true_eq, List.all_eq_true, List.mem_range] at hd
   refine ⟨hd.1, fun j hj o' ho' => ?_⟩
   have := hd.2 j hj
   simp only [ho'] at this
   simpa using this
 refine ⟨fun i o ho => (h' i o ho).1, fun i o d ho hd => ((h' i o ho).2 d hd).1, fun i j o o' d ho ho' hd hd' => ?_⟩
 rcases Nat.lt_trichotomy i j with hlt | heq | hlt
 ·exact absurd hd (((h' j o' ho').2 d hd').2 i hlt o ho)
 ·exact heq
 ·exact absurd hd' (((h' i o ho).2 d hd).2 j hlt o' ho')
section
variable {P : Program} {ops : Array Oper} {Q : Exit -> Act -> World -> Prop} {a0 : Act} {w0 : World} {ps : List Pr}
theorem put_size (a : Act) (d : Option Tmp) (v : Value) : (a.put d v).tmps.size = a.tmps.size := by cases d <;> simp [Act.put]
theorem put_defers (a : Act) (d : Option Tmp) (v : Value) : (a.put d v).defers = a.defers := by cases d <;> simp [Act.put]
theorem put_get_ne (a : Act) (d : Option Tmp) (v : Value) (t : Nat) (h : d ≠ some t) : (a.put d v).tmps[t]? = a.tmps[t]? := by
 cases d with
 | none => rfl
 | some d =>
  have : d ≠ t := fun e => h (by rw [e])
  simp [Act.put, Array.getElem?_setIfInBounds_ne this]
theorem put_get (a : Act) (d : Nat) (v : Value) (h : d < a.tmps.size) : (a.put (some d) v).tmps[d]? = some v := by
 simp [Act.put, h]
/-- What holds at each step: what is listed is closed below, and holds. -/
structure Inv (ops : Array Oper) (a0 : Act) (w0 : World) (ps : List Pr) (listed : Array Bool) (a : Act) (w : World) : Prop where
 here : Here ops a0 w0 a w
 closed : ∀ (i : Nat) (o : Oper), ops[i]? = some o -> listed.getD i false = true -> ∀ e ∈ o.after, Region.binds .any e = true -> listed.getD e.on false = true
 got : ∀ i, i < ops.size -> listed.getD i false = true -> Got ops ps i a w
 keep : ∀ t : Nat, (∀ (j : Nat) (o : Oper), ops[j]? = some o -> o.dst = some t -> listed.getD j false = false) -> a.tmps[t]? = a0.tmps[t]?
theorem near_listed {listed : Array Bool} {a : Act} {w : World} (h : Inv ops a0 w0 ps listed a w) {i j : Nat} (hd : Near ops i j)
  (hl : listed.getD i false = true \/ i ∈ Region.ready .any ops listed) : listed.getD j false = true := by
 obtain ⟨o, e, hi, he, hb, hj⟩ := hd
 rw [<- hj]
 rcases hl with hl | hl
 ·exact h.closed _ _ hi hl e he hb
 ·obtain ⟨_, o', ho', hall⟩ := mem_ready.1 hl
  rw [hi] at ho'
  injection ho' with ho'
  subst ho'
  exact hall e he hb
theorem dep_listed {listed : Array Bool} {a : Act} {w : World} (h : Inv ops a0 w0 ps listed a w) {i j : Nat} (hd : Dep ops i j)
  (hl : listed.getD i false = true \/ i ∈ Region.ready .any ops listed) : listed.getD j false = true := by
 obtain ⟨ks, hw⟩ := hd
 induction ks generalizing i with
 | nil => exact near_listed h hw hl
 | cons k ks ih => exact ih (.inl (near_listed h hw.1 hl)) hw.2
theorem any_inv (hok : OkOps ops a0.tmps.size) (hlen : ps.length = ops.size) (hg : Good P ops Q a0 w0 ps)
  (hfin : ∀ a w, Here ops a0 w0 a w -> (∀ i, i < ops.size -> Got ops ps i a w) -> Q .normal a w) :
  ∀ (fuel : Nat) (listed : Array Bool) (a : Act) (w : World), listed.size = ops.size -> (listed.toList.countP (! ·)) <= fuel -> Inv ops a0 w0 ps listed a w ->
   wpAny P .any ops Q fuel listed a w := by
 have hall : ∀ (listed : Array Bool) (a : Act) (w : World), listed.size = ops.size -> Inv ops a0 w0 ps listed a w -> Region.ready .any ops listed = [] -> Q .normal a w := by
  intro listed a w hls hI hr
  have hlisted : ∀ n i, i < n -> i < ops.size -> listed.getD i false = true := by
   intro n
   induction n with
   | zero => intro i h; omega
   | succ n ih =>
    intro i hi his
    by_cases hin : i < n
    ·exact ih i hin his
    ·have hieq : i = n := by omega
     subst hieq
     cases hl : listed.getD i false with
     | true => rfl
     | false =>
      exfalso
      have hmem : i ∈ Region.ready .any ops listed := by
       rw [mem_ready]
       have hlt : i < listed.size := by omega
       refine ⟨by simpa [hlt] using hl, ops[i], Array.getElem?_eq_getElem his, fun e he hb => ?_⟩
       have hlt := hok.back i ops[i] (Array.getElem?_eq_getElem his) e he hb
       exact ih e.on hlt (by omega)
      rw [hr] at hmem
      cases hmem
  exact hfin a w hI.here fun i hi => hI.got i hi (hlisted (i + 1) i (by omega) hi)
 intro fuel
 induction fuel with
 | zero =>
  intro listed a w hls hc hI
  have hr : Region.ready .any ops listed = [] := by
   rw [List.eq_nil_iff_forall_not_mem]
   intro i hi
   obtain ⟨h0, o, ho, _⟩ := mem_ready.1 hi
   have hlt : i < listed.size := by have := (Array.getElem?_eq_some_iff.1 ho).1; omega
   have hpos : 0 < listed.toList.countP (! ·) := by
    rw [List.countP_pos_iff]
    refine ⟨listed[i], by simp, ?_⟩
    simp [hlt] at h0
    simp [h0]
   omega
  exact ⟨hr, hall listed a w hls hI hr⟩
 | succ fuel ih =>
  intro listed a w hls hc hI
  refine ⟨hall listed a w hls hI, fun i hi => ?_⟩
  obtain ⟨h0, o, ho, hdeps⟩ := mem_ready.1 hi
  have his : i < ops.size := (Array.getElem?_eq_some_iff.1 ho).1
  have hlt : i < listed.size := by omega
  have h0' : listed[i] = false := by simpa [hlt] using h0
  refine hg.2 i (by omega) a w hI.here ⟨fun j hj hjp => ?_, fun t ht => ?_⟩ _ (fun o' ho' v w' hb hp => ?_)
  ·exact hI.got j (by omega) (dep_listed hI hj (.inr hi))
  ·refine hI.keep t fun j oj hj hd => ?_
   have h9 : listed.getD i false = false := by simp [hlt, h0']
   rcases ht j oj hj hd with rfl | hdep
   ·exact h9
   ·cases hl : listed.getD j false with
    | false => rfl
    | true => rw [dep_listed hI hdep (.inl hl)] at h9; cases h9
  ·rw [ho] at ho'
   injection ho' with ho'
   subst ho'
   refine ih _ _ _ (by simp [hls]) ?_ ⟨⟨hI.here.ext.trans (hb.mono hI.here.ext.size), (put_defers ..).trans hI.here.defers, (put_size ..).trans hI.here.size, fun t ht => (put_get_ne _ _ _ _ (ht i o ho)).trans (hI.here.old t ht)⟩, ?_, ?_, ?_⟩
   ·have hset : (listed.setIfInBounds i true).toList = listed.toList.set i true := by simp
    rw [hset, List.countP_set (by simpa using hlt)]
    simp [h0']
    have : 0 < listed.toList.countP (! ·) := by
     rw [List.countP_pos_iff]
     exact ⟨listed[i], by simp, by simp [h0']⟩
    simp only [Array.countP_toList] at this hc
    omega
   ·intro k ok hk hl e he hb
    by_cases hki : i = k
    ·subst hki
     rw [ho] at hk
     injection hk with hk
     subst hk
     exact getD_set_true (hdeps e he hb)
    ·rw [getD_set_ne false hki] at hl
     exact getD_set_true (hI.closed k ok hk hl e he hb)
   ·intro k hk hl
    by_cases hki : i = k
    ·subst hki
     refine ⟨v, fun o'' d hk' hd => ?_, hp⟩
     rw [ho] at hk'
     injection hk' with hk'
     subst hk'
     rw [hd]
     exact put_get _ _ _ (by rw [hI.here.size]; exact hok.room i o d ho hd)
    ·rw [getD_set_ne false hki] at hl
     obtain ⟨v', hv', hp'⟩ := hI.got k hk hl
     refine ⟨v', fun o'' d hk' hd => ?_, hg.1 k _ _ _ hb hp'⟩
     rw [put_get_ne _ _ _ _ (fun he => hki (hok.apart i k o o'' d ho hk' he hd))]
     exact hv' o'' d hk' hd
   ·intro t ht
    refine (put_get_ne _ _ _ _ (fun he => ?_)).trans (hI.keep t fun j oj hj hd => ?_)
    ·have h9 := ht i o ho he
     simp [hlt] at h9
    ·have h9 := ht j oj hj hd
     by_cases hij : i = j
     ·subst hij; simp [hlt] at h9
     ·rwa [getD_set_ne false hij] at h9
variable {X : Prop}
/-- The values are laid in one by one, in the text's order. -/
def Fin (Q : Exit -> Act -> World -> Prop) (w : World) : List Oper -> List Pr -> Act -> Prop
 | o :: os, p :: ps, a => ∀ v, p v w -> Fin Q w os ps (a.put o.dst v)
 | _, _, a => Q .normal a w
structure Todo (X : Prop) (P : Program) (id : Nat) (ops : Array Oper) (Q : Exit -> Act -> World -> Prop) (a0 : Act) (w0 : World) (ps : List Pr) : Prop where
 out : Good P ops Q a0 w0 ps -> X
abbrev TodoE (P : Program) (id : Nat) (ops : Array Oper) (Q : Exit -> Act -> World -> Prop) (a0 : Act) (w0 : World) (ps : List Pr) : Prop :=
 Todo (P.follows .mixedOrders = true /\ wpAny P .any ops Q ops.size (Array.replicate ops.size false) a0 { w0 with drawn := w0.drawn + 1 }) P id ops Q a0 w0 ps
theorem good_nil : Good P ops Q a0 w0 [] := ⟨fun i => Stable.any, fun i hi => absurd hi (by simp)⟩
theorem todo_good {id : Nat} (h : TodoE P id ops Q a0 w0 []) : P.follows .mixedOrders = true /\ wpAny P .any ops Q ops.size (Array.replicate ops.size false) a0 { w0 with drawn := w0.drawn + 1 } :=
 h.out good_nil
theorem todo_start {id : Nat} (h : TodoE P id ops Q a0 w0 []) : (Code.region id ops true).wp P Q a0 w0 := wp_region_any (todo_good h).1 (todo_good h).2
theorem todo_begin {id n : Nat} {l : List Oper} (hok : OkOps l.toArray n) (h : Hid (OkOps l.toArray n) -> TodoE P id l.toArray Q a0 w0 []) : (Code.region id l.toArray true).wp P Q a0 w0 := todo_start (h (Lib.hid hok))
theorem todo_step {id : Nat} (p : Pr) (hs : Stable p) (h : Step P ops Q a0 w0 ps ps.length p) (rest : Todo X P id ops Q a0 w0 (p :: ps)) (hok : OkOps ops a0.tmps.size) : Todo X P id ops Q a0 w0 ps := by
 refine ⟨fun hg => ?_⟩
 refine rest.out ⟨fun i => ?_, fun i hi a w hh hd => ?_⟩
 ·by_cases he : i = ps.length
  ·subst he; rw [look_cons_eq]; exact hs
  ·have : look (p :: ps) i = look ps i := by simp [look, he]
   rw [this]; exact hg.1 i
 ·have hgot : Deps ops a0 ps i a w := ⟨fun j hj hjl => by
   obtain ⟨v, hv, hp⟩ := hd.1 j hj (by simp; omega)
   exact ⟨v, hv, by rwa [look_cons_lt hjl] at hp⟩, hd.2⟩
  by_cases he : i = ps.length
  ·subst he
   rw [look_cons_eq]
   exact h a w hh hgot
  ·have hlt : i < ps.length := by simp at hi; omega
   rw [look_cons_lt hlt]
   exact hg.2 i hlt a w hh hgot
theorem look_rev (ps : List Pr) (i : Nat) (p : Pr) (h : ps.reverse[i]? = some p) : look ps i = p := by
 induction ps with
 | nil => simp at h
 | cons q ps ih =>
  rw [List.reverse_cons] at h
  by_cases he : i = ps.length
  ·subst he
   rw [look_cons_eq]
   rw [List.getElem?_append_right (by simp)] at h
   simpa using h
  ·rcases Nat.lt_or_ge i ps.length with hlt | hge
   ·rw [look_cons_lt hlt]
    rw [List.getElem?_append_left (by simpa using hlt)] at h
    exact ih h
   ·rw [List.getElem?_append_right (by simpa using hge)] at h
    simp at h
    have := (gS1 h).1
    simp at this
    omega
/-- The next operation, by its number. -/
theorem todo_op {id k n : Nat} {l : List Oper} (p : Pr) (hn : a0.tmps.size = n) (hok : OkOps l.toArray n) (hk : ps.length = k) (hs : Stable p)
  (h : ∀ a w, Here l.toArray a0 w0 a w -> Hid (Deps l.toArray a0 ps k a w) -> ps.length = k -> ∀ K : Act -> World -> Prop,
   Hid (∀ o : Oper, l[k]? = some o -> ∀ v w', Below w.heap.size w w' -> p v w' -> K (a.put o.dst v) w') -> wpOp P l.toArray Q k K a w)
  (rest : Todo X P id l.toArray Q a0 w0 (p :: ps)) : Todo X P id l.toArray Q a0 w0 ps := by
 subst hn
 refine todo_step p hs ?_ rest hok
 rw [hk]
 intro a w hh hd K hK
 exact h a w hh hd hk K (fun o ho => hK o (by simpa using ho))
/-- A value that is computed. -/
theorem todo_is {id k n : Nat} {l : List Oper} (V : Value) (hn : a0.tmps.size = n) (hok : OkOps l.toArray n) (hk : ps.length = k)
  (h : ∀ a w, Here l.toArray a0 w0 a w -> Hid (Deps l.toArray a0 ps k a w) -> ps.length = k -> ∀ K : Act -> World -> Prop,
   Hid (∀ o : Oper, l[k]? = some o -> ∀ v w', Below w.heap.size w w' -> v = V -> K (a.put o.dst v) w') -> wpOp P l.toArray Q k K a w)
  (rest : Todo X P id l.toArray Q a0 w0 (Is V :: ps)) : Todo X P id l.toArray Q a0 w0 ps :=
 todo_op (Is V) hn hok hk (Stable.is V) h rest
def dep1 (l : List Oper) (i j : Nat) : Bool := match l[i]? with | some o => o.after.any fun e => Region.binds .any e && e.on == j | none => false
def isPath (l : List Oper) : Nat -> List Nat -> Nat -> Bool
 | i, [], j => dep1 l i j
 | i, k :: ks, j => dep1 l i k && isPath l k ks j
theorem near_of {l : List Oper} {i j : Nat} (h : dep1 l i j = true) : Near l.toArray i j := by
 unfold dep1 at h
 cases ho : l[i]? with
 | none => simp [ho] at h
 | some o =>
  simp only [ho, Array.any_eq_true', Bool.and_eq_true, beq_iff_eq] at h
  obtain ⟨e, he, hb, hj⟩ := h
  exact ⟨o, e, by simpa using ho, he, hb, hj⟩
theorem way_of {l : List Oper} {j : Nat} : ∀ (ks : List Nat) {i : Nat}, isPath l i ks j = true -> Way l.toArray i ks j
 | [], _, h => near_of h
 | k :: ks, _, h => by
  simp only [isPath, Bool.and_eq_true] at h
  exact ⟨near_of h.1, way_of ks h.2⟩
theorem Dep.of {l : List Oper} {i j : Nat} (ks : List Nat) (h : isPath l i ks j = true) : Dep l.toArray i j := ⟨ks, way_of ks h⟩
theorem use {l : List Oper} {k j m d : Nat} {p : Pr} {o : Oper} {a : Act} {w : World} (hd : Hid (Deps l.toArray a0 ps k a w)) (hk : ps.length = k) (hm : j + m + 1 = k)
  (ks : List Nat) (hks : isPath l k ks j = true) (hp : ps[m]? = some p) (ho : l[j]? = some o) (hdst : o.dst = some d) : ∃ v, a.tmps[d]? = some v /\ p v w := by
 obtain ⟨v, hv, hl⟩ := hd.out.1 j (Dep.of ks hks) (by omega)
 refine ⟨v, hv o d (by simpa using ho) hdst, ?_⟩
 have hlt := (gS1 hp).1
 have : look ps j = p := look_rev ps j p (by rw [List.getElem?_reverse (by omega)]; rw [<- hp]; congr 1; omega)
 rwa [this] at hl
theorem use_is {l : List Oper} {k j m d : Nat} {V : Value} {o : Oper} {a : Act} {w : World} (hd : Hid (Deps l.toArray a0 ps k a w)) (hk : ps.length = k) (hm : j + m + 1 = k)
  (ks : List Nat) (hks : isPath l k ks j = true) (hp : ps[m]? = some (Is V)) (ho : l[j]? = some o) (hdst : o.dst = some d) : a.tmps[d]? = some V := by
 obtain ⟨v, hv, hl⟩ := use hd hk hm ks hks hp ho hdst
 rw [hv, show v = V from hl]
/-- What an operation without a slot has left. -/
theorem use_fact {l : List Oper} {k j m : Nat} {p : Pr} {a : Act} {w : World} (hd : Hid (Deps l.toArray a0 ps k a w)) (hk : ps.length = k) (hm : j + m + 1 = k)
  (ks : List Nat) (hks : isPath l k ks j = true) (hp : ps[m]? = some p) : ∃ v, p v w := by
 obtain ⟨v, hv, hl⟩ := hd.out.1 j (Dep.of ks hks) (by omega)
 have hlt := (gS1 hp).1
 have : look ps j = p := look_rev ps j p (by rw [List.getElem?_reverse (by omega)]; rw [<- hp]; congr 1; omega)
 rw [this] at hl
 exact ⟨v, hl⟩
/-- The end, by what is known of each slot. -/
theorem todo_facts {id n : Nat} {l : List Oper} (hm : P.follows .mixedOrders = true) (hn : a0.tmps.size = n) (hok : OkOps l.toArray n) (hlen : ps.length = l.length)
  (hfin : ∀ a w, Here l.toArray a0 w0 a w -> Hid (∀ i, i < l.length -> Got l.toArray ps i a w) -> Q .normal a w) : TodoE P id l.toArray Q a0 w0 ps := by
 subst hn
 refine ⟨fun hg => ?_⟩
 refine ⟨hm, ?_⟩
 refine any_inv hok (by simpa using hlen) hg (fun a w hh hgot => hfin a w hh (fun i hi => hgot i (by simpa using hi))) _ _ _ _ (by simp) ?_ ?_
 ·exact Nat.le_trans List.countP_le_length (by simp)
 ·refine ⟨⟨⟨rfl, rfl, rfl, Nat.le_refl _, fun _ _ => rfl⟩, rfl, rfl, fun _ _ => rfl⟩, fun i o ho hl => ?_, fun i hi hl => ?_, fun _ _ => rfl⟩
  ·have hi := (Array.getElem?_eq_some_iff.1 ho).1
   simp at hi
   simp [hi] at hl
  ·simp at hi
   simp [hi] at hl
theorem end_use {l : List Oper} {j m d : Nat} {p : Pr} {o : Oper} {a : Act} {w : World} (hg : Hid (∀ i, i < l.length -> Got l.toArray ps i a w)) (hm : j + m + 1 = ps.length)
  (hp : ps[m]? = some p) (ho : l[j]? = some o) (hdst : o.dst = some d) : ∃ v, a.tmps[d]? = some v /\ p v w := by
 obtain ⟨v, hv, hl⟩ := hg.out j (gS1 ho).1
 refine ⟨v, hv o d (by simpa using ho) hdst, ?_⟩
 have hlt := (gS1 hp).1
 have : look ps j = p := look_rev ps j p (by rw [List.getElem?_reverse (by omega)]; rw [<- hp]; congr 1; omega)
 rwa [this] at hl
theorem end_is {l : List Oper} {j m d : Nat} {V : Value} {o : Oper} {a : Act} {w : World} (hg : Hid (∀ i, i < l.length -> Got l.toArray ps i a w)) (hm : j + m + 1 = ps.length)
  (hp : ps[m]? = some (Is V)) (ho : l[j]? = some o) (hdst : o.dst = some d) : a.tmps[d]? = some V := by
 obtain ⟨v, hv, hl⟩ := end_use hg hm hp ho hdst
 rw [hv, show v = V from hl]
theorem end_fact {l : List Oper} {j m : Nat} {p : Pr} {a : Act} {w : World} (hg : Hid (∀ i, i < l.length -> Got l.toArray ps i a w)) (hm : j + m + 1 = ps.length) (hjl : j < l.length)
  (hp : ps[m]? = some p) : ∃ v, p v w := by
 obtain ⟨v, hv, hl⟩ := hg.out j hjl
 have hlt := (gS1 hp).1
 have : look ps j = p := look_rev ps j p (by rw [List.getElem?_reverse (by omega)]; rw [<- hp]; congr 1; omega)
 rw [this] at hl
 exact ⟨v, hl⟩
def noDst (l : List Oper) (t : Nat) : Bool := l.all fun o => o.dst != some t
theorem old_at {l : List Oper} {t : Nat} {x : Value} {a : Act} {w : World} (hh : Here l.toArray a0 w0 a w) (hn : noDst l t = true) (hx : a0.tmps[t]? = some x) : a.tmps[t]? = some x := by
 rw [hh.old t ?_, hx]
 intro i o ho hd
 have hm : o ∈ l := by have : o ∈ l.toArray := Array.mem_of_getElem? ho; simpa using this
 have := List.all_eq_true.1 hn o hm
 simp [hd] at this
def onlyDst (l : List Oper) (t j : Nat) : Bool := (List.range l.length).all fun i => i == j || (match l[i]? with | some o => o.dst != some t | none => true)
/-- a slot that is written by one operation alone, which waits for this one -/
theorem old_dep {l : List Oper} {t k j : Nat} (ks : List Nat) {x : Value} {a : Act} {w : World} (hd : Hid (Deps l.toArray a0 ps k a w)) (hn : onlyDst l t j = true) (hp : (j == k || isPath l j ks k) = true) (hx : a0.tmps[t]? = some x) : a.tmps[t]? = some x := by
 rw [hd.out.2 t ?_, hx]
 intro i o ho hdst
 have ho' : l[i]? = some o := by simpa using ho
 have hil := (gS1 ho').1
 have h1 := List.all_eq_true.1 hn i (by simpa using hil)
 rw [ho'] at h1
 simp only [hdst, Bool.or_eq_true, beq_iff_eq, bne_self_eq_false, Bool.false_eq_true, or_false] at h1
 subst h1
 rcases Bool.or_eq_true _ _ |>.mp hp with h2 | h2
 ·exact .inl (by simpa using h2)
 ·exact .inr (Dep.of ks h2)
theorem op_plain {l : List Oper} {i : Nat} {o : Oper} {a : Act} {w : World} {K : Act -> World -> Prop} (hi : l[i]? = some o) (hg : o.guard = none) (h : Oper.wp P o a w K Q) : wpOp P l.toArray Q i K a w := by
 unfold wpOp; simp only [List.getElem?_toArray, hi]
 rw [if_pos (by simp [Region.wanted, hg])]
 exact .inl h
theorem op_guard {l : List Oper} {i g d : Nat} {b : Bool} {o og : Oper} {a : Act} {w : World} {K : Act -> World -> Prop} (hi : l[i]? = some o) (hg : o.guard = some (g, b)) (hgo : l[g]? = some og) (hd : og.dst = some d) (hv : a.tmps[d]? = some (.bool b))
  (h : Oper.wp P o a w K Q) : wpOp P l.toArray Q i K a w := by
 unfold wpOp; simp only [List.getElem?_toArray, hi]
 rw [if_pos (by simp [Region.wanted, hg, yielded, hgo, hd, hv])]
 exact .inl h
theorem op_skip {l : List Oper} {i g d : Nat} {b : Bool} {o og : Oper} {a : Act} {w : World} {K : Act -> World -> Prop} (hi : l[i]? = some o) (hg : o.guard = some (g, b)) (hgo : l[g]? = some og) (hd : og.dst = some d)
  (hv : a.tmps[d]? = some (.bool (!b))) (h : K (a.put o.dst undef) w) : wpOp P l.toArray Q i K a w := by
 unfold wpOp; simp only [List.getElem?_toArray, hi]
 rw [if_neg]
 ·exact h
 ·cases b <;> simp [Region.wanted, hg, yielded, hgo, hd, hv]
theorem op_skip' {l : List Oper} {i g d : Nat} {b : Bool} {o og : Oper} {a : Act} {w : World} {K : Act -> World -> Prop} (hi : l[i]? = some o) (hg : o.guard = some (g, b)) (hgo : l[g]? = some og) (hd : og.dst = some d)
  (hv : a.tmps[d]? = some undef) (h : K (a.put o.dst undef) w) : wpOp P l.toArray Q i K a w := by
 unfold wpOp; simp only [List.getElem?_toArray, hi]
 rw [if_neg]
 ·exact h
 ·simp [Region.wanted, hg, yielded, hgo, hd, hv, undef]
/-- a move of a slot that no operation of the region writes -/
theorem mvO {id k n u : Nat} {l : List Oper} {V : Value} {o : Oper} (s : a0.tmps[u]? = some V) (hn : a0.tmps.size = n) (hok : OkOps l.toArray n) (hk : ps.length = k) (ho : l[k]? = some o) (hg : o.guard = none) (hop : o.op = .move (.tmp u) \/ o.op = .assign (.tmp u)) (hnd : noDst l u = true)
  (rest : Todo X P id l.toArray Q a0 w0 (Is V :: ps)) : Todo X P id l.toArray Q a0 w0 ps :=
 todo_is V hn hok hk (fun a w hh hd _ K hK => op_plain ho hg (by
  have hs := old_at hh hnd s
  have he : a.eval (.tmp u) = V := by simp [Act.eval, hs]
  have h2 := hK.out o ho V w (Below.refl _ _) rfl
  rw [<- he] at h2
  unfold Oper.wp execOp
  rcases hop with h | h <;> rw [h] <;> exact h2)) rest
/-- a move of a slot that an operation writes that waits for this one -/
theorem mvP {id k n u j : Nat} {l : List Oper} {V : Value} {o : Oper} (s : a0.tmps[u]? = some V) (hn : a0.tmps.size = n) (hok : OkOps l.toArray n) (hk : ps.length = k) (ho : l[k]? = some o) (hg : o.guard = none) (hop : o.op = .move (.tmp u) \/ o.op = .assign (.tmp u)) (ks : List Nat) (hnd : onlyDst l u j = true) (hp : (j == k || isPath l j ks k) = true)
  (rest : Todo X P id l.toArray Q a0 w0 (Is V :: ps)) : Todo X P id l.toArray Q a0 w0 ps :=
 todo_is V hn hok hk (fun a w hh hd _ K hK => op_plain ho hg (by
  have hs := old_dep ks hd hnd hp s
  have he : a.eval (.tmp u) = V := by simp [Act.eval, hs]
  have h2 := hK.out o ho V w (Below.refl _ _) rfl
  rw [<- he] at h2
  unfold Oper.wp execOp
  rcases hop with h | h <;> rw [h] <;> exact h2)) rest
/-- a move of a slot that an operation ahead has written -/
theorem mvN {id k n u j m : Nat} {l : List Oper} {V : Value} {o oj : Oper} (hn : a0.tmps.size = n) (hok : OkOps l.toArray n) (hk : ps.length = k) (ho : l[k]? = some o) (hg : o.guard = none) (hop : o.op = .move (.tmp u) \/ o.op = .assign (.tmp u))
  (hm : j + m + 1 = k) (ks : List Nat) (hks : isPath l k ks j = true) (hp : ps[m]? = some (Is V)) (hoj : l[j]? = some oj) (hdst : oj.dst = some u)
  (rest : Todo X P id l.toArray Q a0 w0 (Is V :: ps)) : Todo X P id l.toArray Q a0 w0 ps :=
 todo_is V hn hok hk (fun a w hh hd hk K hK => op_plain ho hg (by
  have hs := use_is hd hk hm ks hks hp hoj hdst
  have he : a.eval (.tmp u) = V := by simp [Act.eval, hs]
  have h2 := hK.out o ho V w (Below.refl _ _) rfl
  rw [<- he] at h2
  unfold Oper.wp execOp
  rcases hop with h | h <;> rw [h] <;> exact h2)) rest
theorem u (j m : Nat) {l : List Oper} {k d : Nat} {V : Value} {o : Oper} {a : Act} {w : World} (hd : Hid (Deps l.toArray a0 ps k a w)) (hk : ps.length = k) (hm : j + m + 1 = k)
  (ks : List Nat) (hks : isPath l k ks j = true) (hp : ps[m]? = some (Is V)) (ho : l[j]? = some o) (hdst : o.dst = some d) : a.tmps[d]? = some V := use_is hd hk hm ks hks hp ho hdst
theorem e (j m : Nat) {l : List Oper} {d : Nat} {V : Value} {o : Oper} {a : Act} {w : World} (hg : Hid (∀ i, i < l.length -> Got l.toArray ps i a w)) (hm : j + m + 1 = ps.length)
  (hp : ps[m]? = some (Is V)) (ho : l[j]? = some o) (hdst : o.dst = some d) : a.tmps[d]? = some V := end_is hg hm hp ho hdst
theorem o {l : List Oper} {t : Nat} {x : Value} {a : Act} {w : World} (hh : Here l.toArray a0 w0 a w) (hn : noDst l t = true) (hx : a0.tmps[t]? = some x) : a.tmps[t]? = some x := old_at hh hn hx
theorem t (k : Nat) {id n : Nat} {l : List Oper} (V : Value) (hn : a0.tmps.size = n) (hok : OkOps l.toArray n) (hk : ps.length = k)
  (h : ∀ a w, Here l.toArray a0 w0 a w -> Hid (Deps l.toArray a0 ps k a w) -> ps.length = k -> ∀ K : Act -> World -> Prop,
   Hid (∀ o : Oper, l[k]? = some o -> ∀ v w', Below w.heap.size w w' -> v = V -> K (a.put o.dst v) w') -> wpOp P l.toArray Q k K a w)
  (rest : Todo X P id l.toArray Q a0 w0 (Is V :: ps)) : Todo X P id l.toArray Q a0 w0 ps := todo_is V hn hok hk h rest
end
end Stab
variable {ds : List Deferred}
open Go.RowKit
set_option linter.unusedSimpArgs false
set_option linter.unusedVariables false
set_option linter.unnecessarySimpa false
namespace Fact
/-- A frame of so many slots, without deferred calls. -/
structure FrD (ds : List Deferred) (n : Nat) (a : Act) : Prop where
 size : a.tmps.size = n
 defers : a.defers = ds
abbrev Fr : Nat -> Act -> Prop := FrD []
theorem FrD.lt {n t : Nat} {a : Act} (h : FrD ds n a) (ht : t < n) : t < a.tmps.size := by rw [h.size]; exact ht
theorem FrD.l {n : Nat} {a : Act} (h : FrD ds n a) (t : Nat) (ht : Nat.blt t n = true) : t < a.tmps.size := by rw [h.size]; exact Nat.le_of_ble_eq_true ht
section
variable {P : Program} {Q : Exit -> Act -> World -> Prop} {a : Act} {w : World} {n : Nat}
theorem re {A : Act} {c : Code} (hs : A.tmps.size = n) (hd : A.defers = ds) (h : ∀ a : Act, FrD ds n a -> (∀ t : Nat, a.tmps[t]? = A.tmps[t]?) -> c.wp P Q a w) : c.wp P Q A w := h A ⟨hs, hd⟩ (fun _ => rfl)
theorem reQ {A : Act} {e : Exit} (hs : A.tmps.size = n) (hd : A.defers = ds) (h : ∀ a : Act, FrD ds n a -> (∀ t : Nat, a.tmps[t]? = A.tmps[t]?) -> Q e a w) : Q e A w := h A ⟨hs, hd⟩ (fun _ => rfl)
theorem enter {l : List Value} {m : Nat} {c : Code} (hs : l.length + m = n) (h : ∀ a : Act, Fr n a -> (∀ (t : Nat) (v : Value), l[t]? = some v -> a.tmps[t]? = some v) -> c.wp P Q a w) : c.wp P Q ⟨l.toArray ++ Array.replicate m undef, []⟩ w :=
 h _ ⟨by simpa using hs, rfl⟩ (fun t v hv => by
  have hlt := (gS1 hv).1
  rw [Array.getElem?_append_left (by simpa using hlt)]
  simpa using hv)
theorem eval_tmp {t : Nat} {v : Value} (h : a.tmps[t]? = some v) : a.eval (.tmp t) = v := by simp [Act.eval, h]
theorem getD_tmp {t : Nat} {v : Value} (h : a.tmps[t]? = some v) : a.tmps.getD t undef = v := by simp [h]
theorem cond_t {t : Nat} {x y : Code} (h : a.tmps[t]? = some (.bool true)) (hx : x.wp P Q a w) : (Code.cond (.tmp t) x y).wp P Q a w := wp_cond_true (eval_tmp h) hx
theorem cond_f {t : Nat} {x y : Code} (h : a.tmps[t]? = some (.bool false)) (hy : y.wp P Q a w) : (Code.cond (.tmp t) x y).wp P Q a w := wp_cond_false (eval_tmp h) hy
theorem cond_s {t : Nat} {b : Bool} {x y : Code} (h : a.tmps[t]? = some (.bool b)) (hx : b = true -> x.wp P Q a w) (hy : b = false -> y.wp P Q a w) : (Code.cond (.tmp t) x y).wp P Q a w := wp_cond_split (eval_tmp h) hx hy
theorem then_exit {K : Act -> World -> Prop} {id : Nat} (h : Q (.exit id) a w) : Exit.then K Q (.exit id) a w := h
theorem then_ret {K : Act -> World -> Prop} (h : Q .ret a w) : Exit.then K Q .ret a w := h
theorem then_normal {K : Act -> World -> Prop} (h : K a w) : Exit.then K Q .normal a w := h
theorem block_exit {id : Nat} (h : Q .normal a w) : Exit.inBlock id Q (.exit id) a w := by simpa [Exit.inBlock] using h
theorem block_other {id id' : Nat} (hne : (id' == id) = false) (h : Q (.exit id') a w) : Exit.inBlock id Q (.exit id') a w := by
 have : id' ≠ id := by simpa using hne
 simpa [Exit.inBlock, this] using h
theorem block_normal {id : Nat} (h : Q .normal a w) : Exit.inBlock id Q .normal a w := h
theorem block_ret {id : Nat} (h : Q .ret a w) : Exit.inBlock id Q .ret a w := h
/-- Two pieces in a row, with a meeting place. -/
theorem seq_meet {x y : Code} (I : Act -> World -> Prop) (h1 : x.wp P (Exit.then I Q) a w) (h2 : ∀ a w, I a w -> y.wp P Q a w) : (Code.seq x y).wp P Q a w :=
 wp_seq (wp_mono h1 fun e a w h => by cases e <;> first | exact h2 _ _ h | exact h)
theorem ret0 {fn : Func} {R : Ending -> World -> Prop} (h : fn.results = #[]) (hf : Fr n a) (hR : R (.returned (.tuple #[])) w) : bodyPost P fn R .ret a w :=
 bodyPost_ret (results_none h _ _ _) hf.defers hR
theorem end0 {fn : Func} {R : Ending -> World -> Prop} (h : fn.results = #[]) (hf : Fr n a) (hR : R (.returned (.tuple #[])) w) : bodyPost P fn R .normal a w :=
 bodyPost_end (results_none h _ _ _) hf.defers hR
theorem ret1 {fn : Func} {R : Ending -> World -> Prop} {t : Nat} {v : Value} (h : fn.results = #[.tmp t]) (hf : Fr n a) (s : a.tmps[t]? = some v) (hR : R (.returned v) w) : bodyPost P fn R .ret a w :=
 bodyPost_ret (results_tmp h _ _ _) hf.defers (by rw [getD_tmp s]; exact hR)
theorem ret2 {fn : Func} {R : Ending -> World -> Prop} {t u : Nat} {v x : Value} (h : fn.results = #[.tmp t, .tmp u]) (hf : Fr n a) (s : a.tmps[t]? = some v) (s' : a.tmps[u]? = some x) (hR : R (.returned (.tuple #[v, x])) w) : bodyPost P fn R .ret a w :=
 bodyPost_ret (results_tmp2 h _ _ _) hf.defers (by rw [getD_tmp s, getD_tmp s']; exact hR)
theorem ret3 {fn : Func} {R : Ending -> World -> Prop} {t u r : Nat} {v x y : Value} (h : fn.results = #[.tmp t, .tmp u, .tmp r]) (hf : Fr n a) (s : a.tmps[t]? = some v) (s' : a.tmps[u]? = some x) (s'' : a.tmps[r]? = some y) (hR : R (.returned (.tuple #[v, x, y])) w) : bodyPost P fn R .ret a w := by
 refine bodyPost_ret (v := .tuple #[v, x, y]) ?_ hf.defers hR
 have h1 := getD_tmp s
 have h2 := getD_tmp s'
 have h3 := getD_tmp s''
 simp [results, h, s, s', s'']
theorem wrap_i64 {n : Int} (h1 : -9223372036854775808 <= n) (h2 : n <= 9223372036854775807) : IntKind.i64.wrap n = n := IntWalk.i64_in n ⟨h1, h2⟩
theorem wrap_u8 {n : Int} (h1 : 0 <= n) (h2 : n <= 255) : IntKind.u8.wrap n = n := IntWalk.u8_in n ⟨h1, h2⟩
theorem wrap_u32 {n : Int} (h1 : 0 <= n) (h2 : n <= 4294967295) : IntKind.u32.wrap n = n := IntWalk.u32_in n ⟨h1, h2⟩
theorem wrap_u64 {n : Int} (h1 : 0 <= n) (h2 : n <= 18446744073709551615) : IntKind.u64.wrap n = n := by rw [IntKind.wrap_u64]; omega
/-- What a chain of stores holds at a slot. -/
theorem G : (∀ {xs : Array Value} {i j : Nat} {v : Value}, (xs.setIfInBounds i v)[j]? = if i = j then if i < xs.size then some v else none else xs[j]?) /\ (∀ {xs : Array Value} {i : Nat} {v : Value}, (xs.setIfInBounds i v).size = xs.size) /\ (∀ {a : Act} {v : Value}, a.put none v = a) /\ ∀ {a : Act} {d : Nat} {v : Value}, a.put (some d) v = ⟨a.tmps.setIfInBounds d v, a.defers⟩ :=
 ⟨Array.getElem?_setIfInBounds, Array.size_setIfInBounds, rfl, rfl⟩
/-- The rest of a plain region's operations, closed against unfolding. -/
structure L (P : Program) (ops : Array Oper) (Q : Exit -> Act -> World -> Prop) (rest : List Oper) (a : Act) (w : World) : Prop where
 out : wpList P ops Q rest a w
theorem region {id : Nat} {l : List Oper} (h : L P l.toArray Q l a w) : (Code.region id l.toArray false).wp P Q a w := wp_region_lit h.out
theorem nil {ops : Array Oper} (h : Q .normal a w) : L P ops Q [] a w := ⟨wpList_nil h⟩
theorem reL {A : Act} {ops : Array Oper} {rest : List Oper} (hs : A.tmps.size = n) (hd : A.defers = ds) (h : ∀ a : Act, FrD ds n a -> (∀ t : Nat, a.tmps[t]? = A.tmps[t]?) -> L P ops Q rest a w) : L P ops Q rest A w := h A ⟨hs, hd⟩ (fun _ => rfl)
/-- One operation of a plain region. -/
theorem op_plain {ops : Array Oper} {rest : List Oper} {o : Oper} (hg : o.guard = none) (h : ∀ K : Act -> World -> Prop, Hid (∀ a w, L P ops Q rest a w -> K a w) -> o.wp P a w K Q) : L P ops Q (o :: rest) a w :=
 ⟨wpList_plain hg fun K hK => h K (Lib.hid fun a w hl => hK a w hl.out)⟩
theorem op_guard {l : List Oper} {rest : List Oper} {o og : Oper} {g d : Nat} {b : Bool} (hg : o.guard = some (g, b)) (hgo : l[g]? = some og) (hd : og.dst = some d) (hv : a.tmps[d]? = some (.bool b)) (h : ∀ K : Act -> World -> Prop, Hid (∀ a w, L P l.toArray Q rest a w -> K a w) -> o.wp P a w K Q) : L P l.toArray Q (o :: rest) a w := by
 refine ⟨wpList_step fun K hK => ?_⟩
 rw [if_pos (by simp [Region.wanted, hg, yielded, hgo, hd, hv])]
 exact h K (Lib.hid fun a w hl => hK a w hl.out)
theorem op_skip {l : List Oper} {rest : List Oper} {o og : Oper} {g d : Nat} {b : Bool} (hg : o.guard = some (g, b)) (hgo : l[g]? = some og) (hd : og.dst = some d) (hv : a.tmps[d]? = some (.bool (!b))) (h : L P l.toArray Q rest (a.put o.dst undef) w) : L P l.toArray Q (o :: rest) a w := by
 refine ⟨?_⟩
 unfold wpList
 rw [if_neg (by cases b <;> simp [Region.wanted, hg, yielded, hgo, hd, hv])]
 exact h.out
theorem op_skip' {l : List Oper} {rest : List Oper} {o og : Oper} {g d : Nat} {b : Bool} (hg : o.guard = some (g, b)) (hgo : l[g]? = some og) (hd : og.dst = some d) (hv : a.tmps[d]? = some undef) (h : L P l.toArray Q rest (a.put o.dst undef) w) : L P l.toArray Q (o :: rest) a w := by
 refine ⟨?_⟩
 unfold wpList
 rw [if_neg (by simp [Region.wanted, hg, yielded, hgo, hd, hv, undef])]
 exact h.out
theorem p {ops : Array Oper} {rest : List Oper} {o : Oper} (hg : o.guard = none) (h : ∀ K : Act -> World -> Prop, Hid (∀ a w, L P ops Q rest a w -> K a w) -> o.wp P a w K Q) : L P ops Q (o :: rest) a w := op_plain hg h
theorem nx {K : Act -> World -> Prop} (h : K a w) : Exit.then K Q .normal a w := h
theorem q {A : Act} {e : Exit} (hf : FrD ds n a) (hs : A.tmps.size = a.tmps.size) (hd : A.defers = a.defers) (h : ∀ a : Act, FrD ds n a -> (∀ t : Nat, a.tmps[t]? = A.tmps[t]?) -> Q e a w) : Q e A w := h A ⟨hs.trans hf.size, hd.trans hf.defers⟩ (fun _ => rfl)
end
end Fact
namespace Tail
open Stab (Pr Here Deps Got OkOps Dep isPath)
section
variable {P : Program} {Q : Exit -> Act -> World -> Prop} {l : List Oper} {a0 : Act} {w0 : World} {ps : List Pr}
/-- all orders, for steps of whatever kind -/
def anyG (St : Nat -> (Act -> World -> Prop) -> Act -> World -> Prop) (Qn : Act -> World -> Prop) (ops : Array Oper) : Nat -> Array Bool -> Act -> World -> Prop
 | 0, listed, a, w => Region.ready .any ops listed = [] /\ Qn a w
 | fuel + 1, listed, a, w => (Region.ready .any ops listed = [] -> Qn a w) /\ ∀ i ∈ Region.ready .any ops listed, St i (anyG St Qn ops fuel (listed.setIfInBounds i true)) a w
theorem any_eq {ops : Array Oper} : ∀ fuel, anyG (wpOp P ops Q) (Q .normal) ops fuel = wpAny P .any ops Q fuel
 | 0 => rfl
 | fuel + 1 => by funext listed a w; unfold anyG wpAny; rw [any_eq fuel]
/-- operation k, k + 1, .. in the text's order: so many -/
def SeqG (St : Nat -> (Act -> World -> Prop) -> Act -> World -> Prop) (Qn : Act -> World -> Prop) : Nat -> Nat -> Act -> World -> Prop
 | 0, _, a, w => Qn a w
 | n + 1, k, a, w => ∀ K : Act -> World -> Prop, (∀ a' w', SeqG St Qn n (k + 1) a' w' -> K a' w') -> St k K a w
abbrev Seq (P : Program) (l : List Oper) (Q : Exit -> Act -> World -> Prop) : Nat -> Nat -> Act -> World -> Prop := SeqG (wpOp P l.toArray Q) (Q .normal)
variable {St : Nat -> (Act -> World -> Prop) -> Act -> World -> Prop} {Qn : Act -> World -> Prop}
/-- from m on each operation waits for all ahead of it -/
def chain (l : List Oper) (m : Nat) : Bool := (List.range l.length).all fun k => decide (k < m) || (match l[k]? with | some o => (List.range k).all fun i => o.after.any fun e => Region.binds .any e && e.on == i | none => true)
/-- the same, of which the operation just ahead is waited for, and it for all others -/
def chain1 (l : List Oper) (m : Nat) (ws : List (Nat × Nat × List Nat)) : Bool := (List.range l.length).all fun k => decide (k < m) || ((List.range k).all fun i => Stab.dep1 l k i || ws.any fun x => x.1 == k && x.2.1 == i && isPath l k x.2.2 i)
theorem chain_dep {m : Nat} {ws : List (Nat × Nat × List Nat)} (h : chain1 l m ws = true) {k i : Nat} (hk : m <= k) (hkl : k < l.length) (hi : i < k) : Dep l.toArray k i := by
 have h1 := List.all_eq_true.1 h k (by simpa using hkl)
 simp only [Bool.or_eq_true, decide_eq_true_eq, List.all_eq_true, List.mem_range, List.any_eq_true, Bool.and_eq_true, beq_iff_eq] at h1
 rcases h1 with h1 | h1
 ·omega
 ·rcases h1 i hi with h2 | ⟨x, _, ⟨h3, h4⟩, h5⟩
  ·exact ⟨[], Stab.near_of h2⟩
  ·exact Dep.of _ h5
theorem seq_anyG {m : Nat} (hlt : ∀ (k i : Nat), m <= k -> k < l.length -> i < k -> Dep l.toArray k i) (hok : OkOps l.toArray a0.tmps.size) :
  ∀ (n j : Nat) (listed : Array Bool) (fuel : Nat) (a : Act) (w : World), n + j = l.length -> m <= j -> listed.size = l.length -> listed.toList.countP (! ·) <= fuel ->
   (∀ i, i < l.length -> (listed.getD i false = true ↔ i < j)) -> (∀ (i : Nat) (o : Oper), l[i]? = some o -> listed.getD i false = true -> ∀ e ∈ o.after, Region.binds .any e = true -> listed.getD e.on false = true) ->
   SeqG St Qn n j a w -> anyG St Qn l.toArray fuel listed a w
 | 0, j, listed, fuel, a, w, hn, hm, hls, hc, hli, hcl, hs => by
  have hr : Region.ready .any l.toArray listed = [] := by
   rw [List.eq_nil_iff_forall_not_mem]
   intro i hi
   obtain ⟨h0, o, ho, _⟩ := mem_ready.1 hi
   have hil : i < l.length := by have := (Array.getElem?_eq_some_iff.1 ho).1; simpa using this
   have := (hli i hil).2 (by omega)
   have hsz : i < listed.size := by omega
   have h1 : listed[i] = false := by simpa [hsz] using h0
   simp [hsz, h1] at this
  cases fuel with
  | zero => exact ⟨hr, hs⟩
  | succ fuel => exact ⟨fun _ => hs, (fun i hi => by rw [hr] at hi; cases hi)⟩
 | n + 1, j, listed, fuel, a, w, hn, hm, hls, hc, hli, hcl, hs => by
  have hjl : j < l.length := by omega
  have hjs : j < listed.size := by omega
  have hj0 : listed[j] = false := by
   cases hb : listed[j] with
   | false => rfl
   | true => have := (hli j hjl).1 (by simp [hjs, hb]); omega
  have hpos : 0 < listed.toList.countP (! ·) := by
   rw [List.countP_pos_iff]
   exact ⟨listed[j], by simp, by simp [hj0]⟩
  have hjr : j ∈ Region.ready .any l.toArray listed := by
   rw [mem_ready]
   refine ⟨by simp [hjs, hj0], l[j], by simp [hjl], fun e he hb => ?_⟩
   have hlt := hok.back j l[j] (by simp [hjl]) e he hb
   exact (hli e.on (by omega)).2 hlt
  cases fuel with
  | zero => omega
  | succ fuel =>
   refine ⟨(fun h => by rw [h] at hjr; cases hjr), fun i hi => ?_⟩
   obtain ⟨h0, o, ho, hdeps⟩ := mem_ready.1 hi
   have hil : i < l.length := by have := (Array.getElem?_eq_some_iff.1 ho).1; simpa using this
   have his : i < listed.size := by omega
   have hi0 : listed[i] = false := by simpa [his] using h0
   have hji : j <= i := by
    rcases Nat.lt_or_ge i j with h1 | h1
    ·have := (hli i hil).2 h1; simp [his, hi0] at this
    ·exact h1
   have hij : i = j := by
    rcases Nat.lt_or_ge j i with h1 | h1
    ·have hd := hlt i j (by omega) hil h1
     obtain ⟨ks, hw⟩ := hd
     have hl : ∀ (ks : List Nat) (i' : Nat), Stab.Way l.toArray i' ks j -> (listed.getD i' false = true \/ i' = i) -> listed.getD j false = true := by
      intro ks
      induction ks with
      | nil =>
       intro i' hw' hl'
       obtain ⟨o', e, ho', he, hb, hj'⟩ := hw'
       rw [<- hj']
       rcases hl' with hl' | rfl
       ·exact hcl i' o' (by simpa using ho') hl' e he hb
       ·rw [ho] at ho'; injection ho' with ho'; subst ho'; exact hdeps e he hb
      | cons x ks ih =>
       intro i' hw' hl'
       refine ih x hw'.2 (.inl ?_)
       obtain ⟨o', e, ho', he, hb, hj'⟩ := hw'.1
       rw [<- hj']
       rcases hl' with hl' | rfl
       ·exact hcl i' o' (by simpa using ho') hl' e he hb
       ·rw [ho] at ho'; injection ho' with ho'; subst ho'; exact hdeps e he hb
     have := hl ks i hw (.inr rfl)
     simp [hjs, hj0] at this
    ·omega
   subst hij
   refine hs _ (fun a' w' hs' => seq_anyG hlt hok n (i + 1) (listed.setIfInBounds i true) fuel a' w' (by omega) (by omega) (by simpa using hls) ?_ (fun x hx => ?_) (fun x ox hx hlx e he hb => ?_) hs')
   ·have hset : (listed.setIfInBounds i true).toList = listed.toList.set i true := by simp
    rw [hset, List.countP_set (by simpa using hjs)]
    simp only [Array.getElem_toList, hj0, Bool.not_false, Bool.not_true, if_true, Bool.false_eq_true, if_false, Nat.add_zero]
    omega
   ·by_cases hxi : i = x
    ·subst hxi
     exact ⟨fun _ => Nat.lt_succ_self _, fun _ => by simp [hjs]⟩
    ·rw [getD_set_ne false hxi, hli x hx]
     omega
   ·by_cases hxi : i = x
    ·subst hxi
     have ho2 : l.toArray[i]? = some ox := by simpa using hx
     rw [ho] at ho2; injection ho2 with ho2; subst ho2
     exact getD_set_true (hdeps e he hb)
    ·rw [getD_set_ne false hxi] at hlx
     exact getD_set_true (hcl x ox hx hlx e he hb)
theorem seq_any {m : Nat} (hlt : ∀ (k i : Nat), m <= k -> k < l.length -> i < k -> Dep l.toArray k i) (hok : OkOps l.toArray a0.tmps.size) (n j : Nat) (listed : Array Bool) (fuel : Nat) (a : Act) (w : World) (h1 : n + j = l.length) (h2 : m <= j) (h3 : listed.size = l.length) (h4 : listed.toList.countP (! ·) <= fuel)
      (h5 : ∀ i, i < l.length -> (listed.getD i false = true ↔ i < j)) (h6 : ∀ (i : Nat) (o : Oper), l[i]? = some o -> listed.getD i false = true -> ∀ e ∈ o.after, Region.binds .any e = true -> listed.getD e.on false = true)
      (h7 : Seq P l Q n j a w) : wpAny P .any l.toArray Q fuel listed a w := by
  have h := seq_anyG hlt hok n j listed fuel a w h1 h2 h3 h4 h5 h6 h7
  rwa [any_eq] at h
/-- what holds as long as only operations ahead of m are listed -/
theorem pre_anyG {m : Nat} (hml : m < l.length) (hlt : ∀ (k i : Nat), m <= k -> k < l.length -> i < k -> Dep l.toArray k i) (hok : OkOps l.toArray a0.tmps.size) (hlen : ps.length = m)
  (hst : ∀ i, Stab.Stable (Stab.look ps i)) (hg : ∀ i, i < m -> ∀ a w, Here l.toArray a0 w0 a w -> Deps l.toArray a0 ps i a w -> ∀ K : Act -> World -> Prop, (∀ o : Oper, l.toArray[i]? = some o -> ∀ v w', Below w.heap.size w w' -> Stab.look ps i v w' -> K (a.put o.dst v) w') -> St i K a w)
  (hfin : ∀ a w, Here l.toArray a0 w0 a w -> (∀ i, i < m -> Got l.toArray ps i a w) -> SeqG St Qn (l.length - m) m a w) :
  ∀ (fuel : Nat) (listed : Array Bool) (a : Act) (w : World), listed.size = l.length -> listed.toList.countP (! ·) <= fuel -> (∀ i, m <= i -> listed.getD i false = false) -> Stab.Inv l.toArray a0 w0 ps listed a w ->
   anyG St Qn l.toArray fuel listed a w := by
 intro fuel
 induction fuel with
 | zero =>
  intro listed a w hls hc hm hI
  exfalso
  have hpos : 0 < listed.toList.countP (! ·) := by
   rw [List.countP_pos_iff]
   have := hm m (Nat.le_refl _)
   have hms : m < listed.size := by omega
   refine ⟨listed[m], by simp, ?_⟩
   simp [hms] at this
   simp [this]
  omega
 | succ fuel ih =>
  intro listed a w hls hc hm hI
  have hms : m < listed.size := by omega
  have hm0 : listed[m] = false := by have := hm m (Nat.le_refl _); simpa [hms] using this
  -- if all ahead of m are listed
  by_cases hall : ∀ i, i < m -> listed.getD i false = true
  ·refine seq_anyG hlt hok (l.length - m) m listed (fuel + 1) a w (by omega) (Nat.le_refl _) hls hc (fun i hi => ⟨fun h => ?_, hall i⟩) (fun i o hi => hI.closed i o (by simpa using hi)) (hfin a w hI.here fun i hi => hI.got i (by simp; omega) (hall i hi))
   rcases Nat.lt_or_ge i m with h1 | h1
   ·exact h1
   ·rw [hm i h1] at h; cases h
  refine ⟨fun hr => ?_, fun i hi => ?_⟩
  ·exfalso
   refine hall (fun i => ?_)
   induction i using Nat.strongRecOn with
   | _ i ihi =>
    intro him
    cases hl : listed.getD i false with
    | true => rfl
    | false =>
     exfalso
     have his : i < listed.size := by omega
     have hil : i < l.length := by omega
     have hmem : i ∈ Region.ready .any l.toArray listed := by
      rw [mem_ready]
      refine ⟨by simpa [his] using hl, l[i], by simp [hil], fun e he hb => ?_⟩
      have hlt := hok.back i l[i] (by simp [hil]) e he hb
      exact ihi e.on hlt (by omega)
     rw [hr] at hmem
     cases hmem
  ·obtain ⟨h0, o, ho, hdeps⟩ := mem_ready.1 hi
   have hil : i < l.length := by have := (Array.getElem?_eq_some_iff.1 ho).1; simpa using this
   have hlt' : i < listed.size := by omega
   have h0' : listed[i] = false := by simpa [hlt'] using h0
   have him : i < m := by
    rcases Nat.lt_or_ge i m with h1 | h1
    ·exact h1
    ·exfalso
     exact hall fun x hx => Stab.dep_listed hI (hlt i x h1 hil (by omega)) (.inr hi)
   refine hg i him a w hI.here ⟨fun j hj hjp => ?_, fun t ht => ?_⟩ _ (fun o' ho' v w' hb hp => ?_)
   ·exact hI.got j (by simp; omega) (Stab.dep_listed hI hj (.inr hi))
   ·refine hI.keep t fun j oj hj hd => ?_
    have h9 : listed.getD i false = false := by simp [hlt', h0']
    rcases ht j oj hj hd with rfl | hdep
    ·exact h9
    ·cases hl : listed.getD j false with
     | false => rfl
     | true => rw [Stab.dep_listed hI hdep (.inl hl)] at h9; cases h9
   ·rw [ho] at ho'
    injection ho' with ho'
    subst ho'
    refine ih _ _ _ (by simp [hls]) ?_ (fun x hx => by rw [getD_set_ne false (by omega)]; exact hm x hx) ⟨⟨hI.here.ext.trans (hb.mono hI.here.ext.size), (Stab.put_defers ..).trans hI.here.defers, (Stab.put_size ..).trans hI.here.size, fun t ht => (Stab.put_get_ne _ _ _ _ (ht i o ho)).trans (hI.here.old t ht)⟩, ?_, ?_, ?_⟩
    ·have hset : (listed.setIfInBounds i true).toList = listed.toList.set i true := by simp
     have hpos : 0 < listed.toList.countP (! ·) := by
      rw [List.countP_pos_iff]
      exact ⟨listed[i], by simp, by simp [h0']⟩
     rw [hset, List.countP_set (by simpa using hlt')]
     simp only [Array.getElem_toList, h0', Bool.not_false, Bool.not_true, if_true, Bool.false_eq_true, if_false, Nat.add_zero]
     omega
    ·intro k ok hk hl e he hb
     by_cases hki : i = k
     ·subst hki
      rw [ho] at hk
      injection hk with hk
      subst hk
      exact getD_set_true (hdeps e he hb)
     ·rw [getD_set_ne false hki] at hl
      exact getD_set_true (hI.closed k ok hk hl e he hb)
    ·intro k hk hl
     by_cases hki : i = k
     ·subst hki
      refine ⟨v, fun o'' d hk' hd => ?_, hp⟩
      rw [ho] at hk'
      injection hk' with hk'
      subst hk'
      rw [hd]
      exact Stab.put_get _ _ _ (by rw [hI.here.size]; exact hok.room i o d ho hd)
     ·rw [getD_set_ne false hki] at hl
      obtain ⟨v', hv', hp'⟩ := hI.got k hk hl
      refine ⟨v', fun o'' d hk' hd => ?_, hst k _ _ _ hb hp'⟩
      rw [Stab.put_get_ne _ _ _ _ (fun he => hki (hok.apart i k o o'' d ho hk' he hd))]
      exact hv' o'' d hk' hd
    ·intro t ht
     refine (Stab.put_get_ne _ _ _ _ (fun he => ?_)).trans (hI.keep t fun j oj hj hd => ?_)
     ·have h9 := ht i o ho he
      simp [hlt'] at h9
     ·have h9 := ht j oj hj hd
      by_cases hij : i = j
      ·subst hij; simp [hlt'] at h9
      ·rwa [getD_set_ne false hij] at h9
/-- the tail, closed against unfolding -/
structure TL (P : Program) (l : List Oper) (Q : Exit -> Act -> World -> Prop) (k : Nat) (a : Act) (w : World) : Prop where
 out : Seq P l Q (l.length - k) k a w
theorem todo_tail {id n m : Nat} {ws : List (Nat × Nat × List Nat)} (hm : P.follows .mixedOrders = true) (hn : a0.tmps.size = n) (hok : OkOps l.toArray n) (hlen : ps.length = m) (hml : Nat.blt m l.length = true) (hch : chain1 l m ws = true)
  (hfin : ∀ a w, Here l.toArray a0 w0 a w -> Hid (∀ i, i < m -> Got l.toArray ps i a w) -> TL P l Q m a w) : (Stab.TodoE P id l.toArray Q a0 w0 ps) := by
 subst hn
 refine ⟨fun hg => ?_⟩
 refine ⟨hm, ?_⟩
 rw [<- any_eq]
 refine pre_anyG (Nat.le_of_ble_eq_true hml) (fun k i h1 h2 h3 => chain_dep hch h1 h2 h3) hok hlen hg.1 (fun i hi => hg.2 i (by omega)) (fun a w hh hgot => (hfin a w hh hgot).out) _ _ _ _ (by simp) ?_ (fun i hi => ?_) ?_
 ·exact Nat.le_trans List.countP_le_length (by simp)
 ·by_cases h : i < l.length
  ·simp [h]
  ·simp [h]
 ·refine ⟨⟨⟨rfl, rfl, rfl, Nat.le_refl _, fun _ _ => rfl⟩, rfl, rfl, fun _ _ => rfl⟩, fun i o ho hl => ?_, fun i hi hl => ?_, fun _ _ => rfl⟩
  ·have hi := (Array.getElem?_eq_some_iff.1 ho).1
   simp at hi
   simp [hi] at hl
  ·simp at hi
   simp [hi] at hl
theorem got_use {j m d k : Nat} {p : Pr} {o : Oper} {a : Act} {w : World} (hg : Hid (∀ i, i < k -> Got l.toArray ps i a w)) (hk : ps.length = k) (hm : j + m + 1 = k)
  (hp : ps[m]? = some p) (ho : l[j]? = some o) (hdst : o.dst = some d) : ∃ v, a.tmps[d]? = some v /\ p v w := by
 obtain ⟨v, hv, hl⟩ := hg.out j (by omega)
 refine ⟨v, hv o d (by simpa using ho) hdst, ?_⟩
 have : Stab.look ps j = p := Stab.look_rev ps j p (by rw [List.getElem?_reverse (by omega)]; rw [<- hp]; congr 1; omega)
 rwa [this] at hl
theorem got_is (j m : Nat) {d k : Nat} {V : Value} {o : Oper} {a : Act} {w : World} (hg : Hid (∀ i, i < k -> Got l.toArray ps i a w)) (hk : ps.length = k) (hm : j + m + 1 = k)
  (hp : ps[m]? = some (Stab.Is V)) (ho : l[j]? = some o) (hdst : o.dst = some d) : a.tmps[d]? = some V := by
 obtain ⟨v, hv, hl⟩ := got_use hg hk hm hp ho hdst
 rw [hv, show v = V from hl]
theorem old {m t : Nat} {x : Value} {a : Act} {w : World} (hg : Hid (∀ i, i < m -> Got l.toArray ps i a w)) (hh : Here l.toArray a0 w0 a w) (hn : Stab.noDst l t = true) (hx : a0.tmps[t]? = some x) : a.tmps[t]? = some x := Stab.old_at hh hn hx
theorem seq_op {k : Nat} {o : Oper} {a : Act} {w : World} (ho : l[k]? = some o) (hg : o.guard = none) (h : ∀ K : Act -> World -> Prop, Hid (∀ a w, TL P l Q (k + 1) a w -> K a w) -> o.wp P a w K Q) : TL P l Q k a w := by
 have hkl := (gS1 ho).1
 refine ⟨?_⟩
 obtain ⟨n, hn⟩ : ∃ n, l.length - k = n + 1 := ⟨l.length - k - 1, by omega⟩
 rw [hn]
 intro K hK
 exact Stab.op_plain (o := o) ho hg (h K (Lib.hid fun a w ht => hK a w (by have := ht.out; rwa [show l.length - (k + 1) = n by omega] at this)))
theorem seq_nil {k : Nat} {a : Act} {w : World} (hk : l.length = k) (h : Q .normal a w) : TL P l Q k a w := ⟨by rw [hk, Nat.sub_self]; exact h⟩
end
end Tail
open Stab (Pr Stable Is Any look look_cons_lt look_cons_eq look_ge look_rev Near Way Dep OkOps put_size put_defers put_get_ne put_get dep1 isPath near_of way_of noDst onlyDst op_plain op_guard op_skip op_skip')
/-- all blocks but those of S are as they were -/
structure But (S : Nat -> Prop) (w w' : World) : Prop where
 os : w'.os = w.os
 tape : w'.tape = w.tape
 output : w'.output = w.output
 size : w.heap.size <= w'.heap.size
 block : ∀ k, k < w.heap.size -> ¬ S k -> w'.heap[k]? = w.heap[k]?
theorem But.refl (S : Nat -> Prop) (w : World) : But S w w := ⟨rfl, rfl, rfl, Nat.le_refl _, fun _ _ _ => rfl⟩
theorem But.trans {S : Nat -> Prop} {a b c : World} (h : But S a b) (k : But S b c) : But S a c :=
 ⟨k.os.trans h.os, k.tape.trans h.tape, k.output.trans h.output, Nat.le_trans h.size k.size, fun i hi hn => (k.block i (Nat.lt_of_lt_of_le hi h.size) hn).trans (h.block i hi hn)⟩
theorem But.of {w w' : World} (S : Nat -> Prop) (h : Below w.heap.size w w') : But S w w' := ⟨h.os, h.tape, h.output, h.size, fun k hk _ => h.block k hk⟩
theorem But.mono {S T : Nat -> Prop} {w w' : World} (h : But S w w') (hst : ∀ k, k < w.heap.size -> S k -> T k) : But T w w' := ⟨h.os, h.tape, h.output, h.size, fun k hk hn => h.block k hk (fun hs => hn (hst k hk hs))⟩
namespace Stam
/-- What hangs on no world. -/
def Wl (p : Pr) : Prop := ∀ v w w', p v w -> p v w'
theorem Wl.is (V : Value) : Wl (Is V) := fun _ _ _ h => h
section
variable (P : Program) (ops : Array Oper) (Q : Exit -> Act -> World -> Prop) (a0 : Act) (w0 : World) (S : Nat -> Nat -> Prop) (es : List Nat)
/-- What operation i has left, if C. -/
def Got (ps : List Pr) (C : Prop) (i : Nat) (a : Act) (w : World) : Prop := ∃ v, (∀ (o : Oper) (d : Nat), ops[i]? = some o -> o.dst = some d -> a.tmps[d]? = some v) /\ (C \/ Wl (Stab.look ps i) -> Stab.look ps i v w)
structure Here (C : Prop) (Bt : (Nat -> Prop) -> Prop) (a : Act) (w : World) : Prop where
 ext : C -> Below w0.heap.size w0 w
 but : ∀ T : Nat -> Prop, Bt T -> But T w0 w
 defers : a.defers = a0.defers
 size : a.tmps.size = a0.tmps.size
 old : ∀ t : Nat, (∀ (i : Nat) (o : Oper), ops[i]? = some o -> o.dst ≠ some t) -> a.tmps[t]? = a0.tmps[t]?
/-- no special has come ahead of k -/
def Pure (k : Nat) : Prop := ∀ m, m ∈ es -> m = k \/ Dep ops m k
/-- which specials may have come ahead of k: they have turned blocks of T alone -/
def PureT (k : Nat) (T : Nat -> Prop) : Prop := ∀ m, m ∈ es -> m = k \/ Dep ops m k \/ ∀ b, S m b -> T b
/-- of what j has left no special that comes ahead of k undoes anything -/
def Safe (k j : Nat) : Prop := ∀ m, m ∈ es -> m = k \/ m = j \/ Dep ops m k \/ Dep ops j m
/-- at the end -/
def Last (j : Nat) : Prop := ∀ m, m ∈ es -> m = j \/ Dep ops j m
def Deps (ps : List Pr) (i : Nat) (a : Act) (w : World) : Prop :=
 (∀ j, Dep ops i j -> j < ps.length -> Got ops ps (Safe ops es i j) j a w) /\ ∀ t : Nat, (∀ (j : Nat) (o : Oper), ops[j]? = some o -> o.dst = some t -> j = i \/ Dep ops j i) -> a.tmps[t]? = a0.tmps[t]?
def Step (ps : List Pr) (i : Nat) (p : Pr) : Prop :=
 ∀ a w, Here ops a0 w0 (Pure ops es i) (PureT ops S es i) a w -> Deps ops a0 es ps i a w -> ∀ K : Act -> World -> Prop,
  (∀ o : Oper, ops[i]? = some o -> ∀ v w', (i ∉ es -> Below w.heap.size w w') -> (i ∈ es -> But (S i) w w') -> p v w' -> K (a.put o.dst v) w') -> wpOp P ops Q i K a w
def Good (ps : List Pr) : Prop := (∀ i, Stable (Stab.look ps i)) /\ ∀ i, i < ps.length -> Step P ops Q a0 w0 S es ps i (Stab.look ps i)
end
section
variable {P : Program} {ops : Array Oper} {Q : Exit -> Act -> World -> Prop} {a0 : Act} {w0 : World} {S : Nat -> Nat -> Prop} {es : List Nat} {ps : List Pr}
structure Inv (ops : Array Oper) (a0 : Act) (w0 : World) (S : Nat -> Nat -> Prop) (es : List Nat) (ps : List Pr) (listed : Array Bool) (a : Act) (w : World) : Prop where
 here : Here ops a0 w0 (∀ m, m ∈ es -> listed.getD m false = false) (fun T => ∀ m, m ∈ es -> listed.getD m false = false \/ ∀ b, S m b -> T b) a w
 closed : ∀ (i : Nat) (o : Oper), ops[i]? = some o -> listed.getD i false = true -> ∀ e ∈ o.after, Region.binds .any e = true -> listed.getD e.on false = true
 got : ∀ i, i < ops.size -> listed.getD i false = true -> Got ops ps (∀ m, m ∈ es -> listed.getD m false = true -> m = i \/ Dep ops i m) i a w
 keep : ∀ t : Nat, (∀ (j : Nat) (o : Oper), ops[j]? = some o -> o.dst = some t -> listed.getD j false = false) -> a.tmps[t]? = a0.tmps[t]?
theorem near_listed {listed : Array Bool} {a : Act} {w : World} (h : Inv ops a0 w0 S es ps listed a w) {i j : Nat} (hd : Near ops i j)
  (hl : listed.getD i false = true \/ i ∈ Region.ready .any ops listed) : listed.getD j false = true := by
 obtain ⟨o, e, hi, he, hb, hj⟩ := hd
 rw [<- hj]
 rcases hl with hl | hl
 ·exact h.closed _ _ hi hl e he hb
 ·obtain ⟨_, o', ho', hall⟩ := mem_ready.1 hl
  rw [hi] at ho'
  injection ho' with ho'
  subst ho'
  exact hall e he hb
theorem dep_listed {listed : Array Bool} {a : Act} {w : World} (h : Inv ops a0 w0 S es ps listed a w) {i j : Nat} (hd : Dep ops i j)
  (hl : listed.getD i false = true \/ i ∈ Region.ready .any ops listed) : listed.getD j false = true := by
 obtain ⟨ks, hw⟩ := hd
 induction ks generalizing i with
 | nil => exact near_listed h hw hl
 | cons k ks ih => exact ih (.inl (near_listed h hw.1 hl)) hw.2
theorem any_inv (hok : OkOps ops a0.tmps.size) (hlen : ps.length = ops.size) (hg : Good P ops Q a0 w0 S es ps)
  (hfin : ∀ a w, Here ops a0 w0 (∀ m, m ∈ es -> False) (fun T => ∀ m, m ∈ es -> ∀ b, S m b -> T b) a w -> (∀ i, i < ops.size -> Got ops ps (Last ops es i) i a w) -> Q .normal a w) :
  ∀ (fuel : Nat) (listed : Array Bool) (a : Act) (w : World), listed.size = ops.size -> (listed.toList.countP (! ·)) <= fuel -> Inv ops a0 w0 S es ps listed a w ->
   wpAny P .any ops Q fuel listed a w := by
 have hall : ∀ (listed : Array Bool) (a : Act) (w : World), listed.size = ops.size -> Inv ops a0 w0 S es ps listed a w -> Region.ready .any ops listed = [] -> Q .normal a w := by
  intro listed a w hls hI hr
  have hlisted : ∀ n i, i < n -> i < ops.size -> listed.getD i false = true := by
   intro n
   induction n with
   | zero => intro i h; omega
   | succ n ih =>
    intro i hi his
    by_cases hin : i < n
    ·exact ih i hin his
    ·have hieq : i = n := by omega
     subst hieq
     cases hl : listed.getD i false with
     | true => rfl
     | false =>
      exfalso
      have hmem : i ∈ Region.ready .any ops listed := by
       rw [mem_ready]
       have hlt : i < listed.size := by omega
       refine ⟨by simpa [hlt] using hl, ops[i], Array.getElem?_eq_getElem his, fun e he hb => ?_⟩
       have hlt := hok.back i ops[i] (Array.getElem?_eq_getElem his) e he hb
       exact ih e.on hlt (by omega)
      rw [hr] at hmem
      cases hmem
  refine hfin a w ⟨fun h => hI.here.ext (fun m hm => (h m hm).elim), (fun T hT => hI.here.but T (fun m hm => .inr (hT m hm))), hI.here.defers, hI.here.size, hI.here.old⟩ fun i hi => ?_
  obtain ⟨v, h1, h2⟩ := hI.got i hi (hlisted (i + 1) i (by omega) hi)
  exact ⟨v, h1, fun h => h2 (h.imp (fun hl m hm _ => hl m hm) id)⟩
 intro fuel
 induction fuel with
 | zero =>
  intro listed a w hls hc hI
  have hr : Region.ready .any ops listed = [] := by
   rw [List.eq_nil_iff_forall_not_mem]
   intro i hi
   obtain ⟨h0, o, ho, _⟩ := mem_ready.1 hi
   have hlt : i < listed.size := by have := (Array.getElem?_eq_some_iff.1 ho).1; omega
   have hpos : 0 < listed.toList.countP (! ·) := by
    rw [List.countP_pos_iff]
    refine ⟨listed[i], by simp, ?_⟩
    simp [hlt] at h0
    simp [h0]
   omega
  exact ⟨hr, hall listed a w hls hI hr⟩
 | succ fuel ih =>
  intro listed a w hls hc hI
  refine ⟨hall listed a w hls hI, fun i hi => ?_⟩
  obtain ⟨h0, o, ho, hdeps⟩ := mem_ready.1 hi
  have his : i < ops.size := (Array.getElem?_eq_some_iff.1 ho).1
  have hlt : i < listed.size := by omega
  have h0' : listed[i] = false := by simpa [hlt] using h0
  have hni : listed.getD i false = false := by simp [hlt, h0']
  have hbehind : ∀ m, Dep ops m i -> listed.getD m false = false := fun m hm => by
   cases hl : listed.getD m false with
   | false => rfl
   | true => rw [dep_listed hI hm (.inl hl)] at hni; cases hni
  refine hg.2 i (by omega) a w ⟨fun h => hI.here.ext (fun m hm => by
   rcases h m hm with rfl | h3
   ·exact hni
   ·exact hbehind m h3), (fun T hT => hI.here.but T (fun m hm => by
   rcases hT m hm with rfl | h3 | h3
   ·exact .inl hni
   ·exact .inl (hbehind m h3)
   ·exact .inr h3)), hI.here.defers, hI.here.size, hI.here.old⟩ ⟨fun j hj hjp => ?_, fun t ht => ?_⟩ _ (fun o' ho' v w' hb hbt hp => ?_)
  ·obtain ⟨v, h1, h2⟩ := hI.got j (by omega) (dep_listed hI hj (.inr hi))
   refine ⟨v, h1, fun h => h2 (h.imp (fun hs m hm hml => ?_) id)⟩
   rcases hs m hm with rfl | h3 | h3 | h3
   ·rw [hni] at hml; cases hml
   ·exact .inl h3
   ·rw [hbehind m h3] at hml; cases hml
   ·exact .inr h3
  ·refine hI.keep t fun j oj hj hd => ?_
   have h9 : listed.getD i false = false := by simp [hlt, h0']
   rcases ht j oj hj hd with rfl | hdep
   ·exact h9
   ·cases hl : listed.getD j false with
    | false => rfl
    | true => rw [dep_listed hI hdep (.inl hl)] at h9; cases h9
  ·rw [ho] at ho'
   injection ho' with ho'
   subst ho'
   refine ih _ _ _ (by simp [hls]) ?_ ⟨⟨fun h => ?_, fun T hT => ?_, (put_defers ..).trans hI.here.defers, (put_size ..).trans hI.here.size, fun t ht => (put_get_ne _ _ _ _ (ht i o ho)).trans (hI.here.old t ht)⟩, ?_, ?_, ?_⟩
   ·have hset : (listed.setIfInBounds i true).toList = listed.toList.set i true := by simp
    rw [hset, List.countP_set (by simpa using hlt)]
    simp [h0']
    have : 0 < listed.toList.countP (! ·) := by
     rw [List.countP_pos_iff]
     exact ⟨listed[i], by simp, by simp [h0']⟩
    simp only [Array.countP_toList] at this hc
    omega
   ·have hie : i ∉ es := fun hie => by
     have := h i hie
     simp [hlt] at this
    have hx := hI.here.ext (fun m hm => by
     have := h m hm
     rwa [getD_set_ne false (fun e => hie (by rw [e]; exact hm))] at this)
    exact hx.trans ((hb hie).mono hx.size)
   ·have h1 := hI.here.but T (fun m hm => by
     rcases hT m hm with h3 | h3
     ·refine .inl ?_
      by_cases him : i = m
      ·subst him; exact hni
      ·rwa [getD_set_ne false him] at h3
     ·exact .inr h3)
    refine h1.trans ?_
    by_cases hie : i ∈ es
    ·rcases hT i hie with h3 | h3
     ·simp [hlt] at h3
     ·exact (hbt hie).mono (fun k _ hs => h3 k hs)
    ·exact But.of T (hb hie)
   ·intro k ok hk hl e he hb
    by_cases hki : i = k
    ·subst hki
     rw [ho] at hk
     injection hk with hk
     subst hk
     exact getD_set_true (hdeps e he hb)
    ·rw [getD_set_ne false hki] at hl
     exact getD_set_true (hI.closed k ok hk hl e he hb)
   ·intro k hk hl
    by_cases hki : i = k
    ·subst hki
     refine ⟨v, fun o'' d hk' hd => ?_, fun _ => hp⟩
     rw [ho] at hk'
     injection hk' with hk'
     subst hk'
     rw [hd]
     exact put_get _ _ _ (by rw [hI.here.size]; exact hok.room i o d ho hd)
    ·rw [getD_set_ne false hki] at hl
     obtain ⟨v', hv', hp'⟩ := hI.got k hk hl
     refine ⟨v', fun o'' d hk' hd => ?_, fun hc => ?_⟩
     rotate_left
     ·by_cases hie : i ∈ es
      ·rcases hc with hc | hc
       ·rcases hc i hie (by simp [hlt]) with h3 | h3
        ·exact absurd h3 hki
        ·rw [dep_listed hI h3 (.inl hl)] at hni; cases hni
       ·exact hc _ _ _ (hp' (.inr hc))
      ·refine hg.1 k _ _ _ (hb hie) (hp' (hc.imp (fun hc m hm hml => hc m hm ?_) id))
       rw [getD_set_ne false (fun e => hie (by rw [e]; exact hm))]
       exact hml
     rw [put_get_ne _ _ _ _ (fun he => hki (hok.apart i k o o'' d ho hk' he hd))]
     exact hv' o'' d hk' hd
   ·intro t ht
    refine (put_get_ne _ _ _ _ (fun he => ?_)).trans (hI.keep t fun j oj hj hd => ?_)
    ·have h9 := ht i o ho he
     simp [hlt] at h9
    ·have h9 := ht j oj hj hd
     by_cases hij : i = j
     ·subst hij; simp [hlt] at h9
     ·rwa [getD_set_ne false hij] at h9
def Todo (P : Program) (id : Nat) (ops : Array Oper) (Q : Exit -> Act -> World -> Prop) (a0 : Act) (w0 : World) (S : Nat -> Nat -> Prop) (es : List Nat) (ps : List Pr) : Prop :=
 Good P ops Q a0 w0 S es ps -> (Code.region id ops true).wp P Q a0 w0
theorem todo_begin {id n : Nat} {l : List Oper} (S : Nat -> Nat -> Prop) (es : List Nat) (hok : OkOps l.toArray n) (h : Hid (OkOps l.toArray n) -> Todo P id l.toArray Q a0 w0 S es []) : (Code.region id l.toArray true).wp P Q a0 w0 :=
 h (Lib.hid hok) ⟨fun i => Stable.any, fun i hi => absurd hi (by simp)⟩
theorem todo_step {id : Nat} (p : Pr) (hs : Stable p) (h : Step P ops Q a0 w0 S es ps ps.length p) (rest : Todo P id ops Q a0 w0 S es (p :: ps)) (hok : OkOps ops a0.tmps.size) : Todo P id ops Q a0 w0 S es ps := by
 intro hg
 refine rest ⟨fun i => ?_, fun i hi a w hh hd => ?_⟩
 ·by_cases he : i = ps.length
  ·subst he; rw [look_cons_eq]; exact hs
  ·have : Stab.look (p :: ps) i = Stab.look ps i := by simp [Stab.look, he]
   rw [this]; exact hg.1 i
 ·have hgot : Deps ops a0 es ps i a w := ⟨fun j hj hjl => by
   obtain ⟨v, hv, hp⟩ := hd.1 j hj (by simp; omega)
   rw [look_cons_lt hjl] at hp
   exact ⟨v, hv, hp⟩, hd.2⟩
  by_cases he : i = ps.length
  ·subst he
   rw [look_cons_eq]
   exact h a w hh hgot
  ·have hlt : i < ps.length := by simp at hi; omega
   rw [look_cons_lt hlt]
   exact hg.2 i hlt a w hh hgot
theorem todo_op {id k n : Nat} {l : List Oper} (p : Pr) (hn : a0.tmps.size = n) (hok : OkOps l.toArray n) (hk : ps.length = k) (hs : Stable p) (hm : es.contains k = false)
  (h : ∀ a w, Here l.toArray a0 w0 (Pure l.toArray es k) (PureT l.toArray S es k) a w -> Hid (Deps l.toArray a0 es ps k a w) -> ps.length = k -> ∀ K : Act -> World -> Prop,
   Hid (∀ o : Oper, l[k]? = some o -> ∀ v w', Below w.heap.size w w' -> p v w' -> K (a.put o.dst v) w') -> wpOp P l.toArray Q k K a w)
  (rest : Todo P id l.toArray Q a0 w0 S es (p :: ps)) : Todo P id l.toArray Q a0 w0 S es ps := by
 subst hn
 refine todo_step p hs ?_ rest hok
 rw [hk]
 intro a w hh hd K hK
 exact h a w hh hd hk K (fun o ho v w' hb => hK o (by simpa using ho) v w' (fun _ => hb) (fun hi => absurd hi (by simpa using hm)))
/-- a special -/
theorem todo_sp {id k n : Nat} {l : List Oper} (p : Pr) (hn : a0.tmps.size = n) (hok : OkOps l.toArray n) (hk : ps.length = k) (hs : Stable p) (hm : es.contains k = true)
  (h : ∀ a w, Here l.toArray a0 w0 (Pure l.toArray es k) (PureT l.toArray S es k) a w -> Hid (Deps l.toArray a0 es ps k a w) -> ps.length = k -> ∀ K : Act -> World -> Prop,
   Hid (∀ o : Oper, l[k]? = some o -> ∀ v w', But (S k) w w' -> p v w' -> K (a.put o.dst v) w') -> wpOp P l.toArray Q k K a w)
  (rest : Todo P id l.toArray Q a0 w0 S es (p :: ps)) : Todo P id l.toArray Q a0 w0 S es ps := by
 subst hn
 refine todo_step p hs ?_ rest hok
 rw [hk]
 intro a w hh hd K hK
 exact h a w hh hd hk K (fun o ho v w' hbt => hK o (by simpa using ho) v w' (fun hn => absurd (by simpa using hm) hn) (fun _ => hbt))
theorem todo_is {id k n : Nat} {l : List Oper} (V : Value) (hn : a0.tmps.size = n) (hok : OkOps l.toArray n) (hk : ps.length = k) (hm : es.contains k = false)
  (h : ∀ a w, Here l.toArray a0 w0 (Pure l.toArray es k) (PureT l.toArray S es k) a w -> Hid (Deps l.toArray a0 es ps k a w) -> ps.length = k -> ∀ K : Act -> World -> Prop,
   Hid (∀ o : Oper, l[k]? = some o -> ∀ v w', Below w.heap.size w w' -> v = V -> K (a.put o.dst v) w') -> wpOp P l.toArray Q k K a w)
  (rest : Todo P id l.toArray Q a0 w0 S es (Is V :: ps)) : Todo P id l.toArray Q a0 w0 S es ps :=
 todo_op (Is V) hn hok hk (Stable.is V) hm h rest
/-- a proof of 'm = k, m = j, a way from m to k, a way from j to m' for each special m -/
def chkSafe (l : List Oper) (es : List Nat) (k j : Nat) (ws : List (Nat × Bool × List Nat)) : Bool :=
 es.all fun m => m == k || m == j || ws.any fun x => x.1 == m && if x.2.1 then isPath l m x.2.2 k else isPath l j x.2.2 m
theorem Safe.of {l : List Oper} {k j : Nat} (ws : List (Nat × Bool × List Nat)) (h : chkSafe l es k j ws = true) : Safe l.toArray es k j := by
 intro m hm
 have h1 := List.all_eq_true.1 h m hm
 simp only [Bool.or_eq_true, beq_iff_eq, List.any_eq_true, Bool.and_eq_true] at h1
 rcases h1 with (h1 | h1) | ⟨x, _, h2, h3⟩
 ·exact .inl h1
 ·exact .inr (.inl h1)
 ·by_cases hx : x.2.1 = true
  ·rw [if_pos hx] at h3
   exact .inr (.inr (.inl (Dep.of _ h3)))
  ·rw [if_neg hx] at h3
   exact .inr (.inr (.inr (Dep.of _ h3)))
def chkPure (l : List Oper) (es : List Nat) (k : Nat) (ws : List (Nat × List Nat)) : Bool := es.all fun m => m == k || ws.any fun x => x.1 == m && isPath l m x.2 k
theorem ext_at {l : List Oper} {k : Nat} {a : Act} {w : World} (hh : Here l.toArray a0 w0 (Pure l.toArray es k) (PureT l.toArray S es k) a w) (ws : List (Nat × List Nat)) (h : chkPure l es k ws = true) : Below w0.heap.size w0 w := by
 refine hh.ext fun m hm => ?_
 have h1 := List.all_eq_true.1 h m hm
 simp only [Bool.or_eq_true, beq_iff_eq, List.any_eq_true, Bool.and_eq_true] at h1
 rcases h1 with h1 | ⟨x, _, _, h3⟩
 ·exact .inl h1
 ·exact .inr (Dep.of _ h3)
def chkT (l : List Oper) (es : List Nat) (k : Nat) (sel : List Nat) (ws : List (Nat × List Nat)) : Bool := es.all fun m => m == k || sel.contains m || ws.any fun x => x.1 == m && isPath l m x.2 k
theorem but_at {l : List Oper} {k : Nat} {a : Act} {w : World} (hh : Here l.toArray a0 w0 (Pure l.toArray es k) (PureT l.toArray S es k) a w) (sel : List Nat) (ws : List (Nat × List Nat)) (h : chkT l es k sel ws = true) (T : Nat -> Prop) (hT : ∀ m, m ∈ sel -> ∀ b, S m b -> T b) : But T w0 w := by
 refine hh.but T fun m hm => ?_
 have h1 := List.all_eq_true.1 h m hm
 simp only [Bool.or_eq_true, beq_iff_eq, List.any_eq_true, Bool.and_eq_true] at h1
 rcases h1 with (h1 | h1) | ⟨x, _, _, h3⟩
 ·exact .inl h1
 ·exact .inr (.inr (hT m (by simpa using h1)))
 ·exact .inr (.inl (Dep.of _ h3))
def chkLast (l : List Oper) (es : List Nat) (j : Nat) (ws : List (Nat × List Nat)) : Bool := es.all fun m => m == j || ws.any fun x => x.1 == m && isPath l j x.2 m
theorem Last.of {l : List Oper} {j : Nat} (ws : List (Nat × List Nat)) (h : chkLast l es j ws = true) : Last l.toArray es j := by
 intro m hm
 have h1 := List.all_eq_true.1 h m hm
 simp only [Bool.or_eq_true, beq_iff_eq, List.any_eq_true, Bool.and_eq_true] at h1
 rcases h1 with h1 | ⟨x, _, h2, h3⟩
 ·exact .inl h1
 ·exact .inr (Dep.of _ h3)
theorem use {l : List Oper} {k j m d : Nat} {p : Pr} {o : Oper} {a : Act} {w : World} (hd : Hid (Deps l.toArray a0 es ps k a w)) (hk : ps.length = k) (hm : j + m + 1 = k)
  (ks : List Nat) (hks : isPath l k ks j = true) (ws : List (Nat × Bool × List Nat)) (hws : chkSafe l es k j ws = true) (hp : ps[m]? = some p) (ho : l[j]? = some o) (hdst : o.dst = some d) : ∃ v, a.tmps[d]? = some v /\ p v w := by
 obtain ⟨v, hv, hl⟩ := hd.out.1 j (Dep.of ks hks) (by omega)
 refine ⟨v, hv o d (by simpa using ho) hdst, ?_⟩
 have hlt := (gS1 hp).1
 have : Stab.look ps j = p := look_rev ps j p (by rw [List.getElem?_reverse (by omega)]; rw [<- hp]; congr 1; omega)
 rw [this] at hl
 exact hl (.inl (Safe.of ws hws))
theorem use_is {l : List Oper} {k j m d : Nat} {V : Value} {o : Oper} {a : Act} {w : World} (hd : Hid (Deps l.toArray a0 es ps k a w)) (hk : ps.length = k) (hm : j + m + 1 = k)
  (ks : List Nat) (hks : isPath l k ks j = true) (hp : ps[m]? = some (Is V)) (ho : l[j]? = some o) (hdst : o.dst = some d) : a.tmps[d]? = some V := by
 obtain ⟨v, hv, hl⟩ := hd.out.1 j (Dep.of ks hks) (by omega)
 have hlt := (gS1 hp).1
 have : Stab.look ps j = Is V := look_rev ps j _ (by rw [List.getElem?_reverse (by omega)]; rw [<- hp]; congr 1; omega)
 rw [this] at hl
 rw [hv o d (by simpa using ho) hdst, show v = V from hl (.inr (Wl.is V))]
theorem use_fact {l : List Oper} {k j m : Nat} {p : Pr} {a : Act} {w : World} (hd : Hid (Deps l.toArray a0 es ps k a w)) (hk : ps.length = k) (hm : j + m + 1 = k)
  (ks : List Nat) (hks : isPath l k ks j = true) (ws : List (Nat × Bool × List Nat)) (hws : chkSafe l es k j ws = true) (hp : ps[m]? = some p) : ∃ v, p v w := by
 obtain ⟨v, hv, hl⟩ := hd.out.1 j (Dep.of ks hks) (by omega)
 have hlt := (gS1 hp).1
 have : Stab.look ps j = p := look_rev ps j p (by rw [List.getElem?_reverse (by omega)]; rw [<- hp]; congr 1; omega)
 rw [this] at hl
 exact ⟨v, hl (.inl (Safe.of ws hws))⟩
theorem todo_facts {id n : Nat} {l : List Oper} (hm : P.follows .mixedOrders = true) (hn : a0.tmps.size = n) (hok : OkOps l.toArray n) (hlen : ps.length = l.length)
  (hfin : ∀ a w, Here l.toArray a0 w0 (∀ m, m ∈ es -> False) (fun T => ∀ m, m ∈ es -> ∀ b, S m b -> T b) a w -> Hid (∀ i, i < l.length -> Got l.toArray ps (Last l.toArray es i) i a w) -> Q .normal a w) : Todo P id l.toArray Q a0 w0 S es ps := by
 subst hn
 intro hg
 refine wp_region_any hm ?_
 refine any_inv hok (by simpa using hlen) hg (fun a w hh hgot => hfin a w hh (fun i hi => hgot i (by simpa using hi))) _ _ _ _ (by simp) ?_ ?_
 ·exact Nat.le_trans List.countP_le_length (by simp)
 ·refine ⟨⟨fun _ => ⟨rfl, rfl, rfl, Nat.le_refl _, fun _ _ => rfl⟩, (fun _ _ => ⟨rfl, rfl, rfl, Nat.le_refl _, fun _ _ _ => rfl⟩), rfl, rfl, fun _ _ => rfl⟩, fun i o ho hl => ?_, fun i hi hl => ?_, fun _ _ => rfl⟩
  ·have hi := (Array.getElem?_eq_some_iff.1 ho).1
   simp at hi
   simp [hi] at hl
  ·simp at hi
   simp [hi] at hl
theorem end_use {l : List Oper} {j m d : Nat} {p : Pr} {o : Oper} {a : Act} {w : World} (hg : Hid (∀ i, i < l.length -> Got l.toArray ps (Last l.toArray es i) i a w)) (hm : j + m + 1 = ps.length)
  (ws : List (Nat × List Nat)) (hws : chkLast l es j ws = true) (hp : ps[m]? = some p) (ho : l[j]? = some o) (hdst : o.dst = some d) : ∃ v, a.tmps[d]? = some v /\ p v w := by
 obtain ⟨v, hv, hl⟩ := hg.out j (gS1 ho).1
 refine ⟨v, hv o d (by simpa using ho) hdst, ?_⟩
 have hlt := (gS1 hp).1
 have : Stab.look ps j = p := look_rev ps j p (by rw [List.getElem?_reverse (by omega)]; rw [<- hp]; congr 1; omega)
 rw [this] at hl
 exact hl (.inl (Last.of ws hws))
theorem end_is {l : List Oper} {j m d : Nat} {V : Value} {o : Oper} {a : Act} {w : World} (hg : Hid (∀ i, i < l.length -> Got l.toArray ps (Last l.toArray es i) i a w)) (hm : j + m + 1 = ps.length)
  (hp : ps[m]? = some (Is V)) (ho : l[j]? = some o) (hdst : o.dst = some d) : a.tmps[d]? = some V := by
 obtain ⟨v, hv, hl⟩ := hg.out j (gS1 ho).1
 have hlt := (gS1 hp).1
 have : Stab.look ps j = Is V := look_rev ps j _ (by rw [List.getElem?_reverse (by omega)]; rw [<- hp]; congr 1; omega)
 rw [this] at hl
 rw [hv o d (by simpa using ho) hdst, show v = V from hl (.inr (Wl.is V))]
theorem end_fact {l : List Oper} {j m : Nat} {p : Pr} {a : Act} {w : World} (hg : Hid (∀ i, i < l.length -> Got l.toArray ps (Last l.toArray es i) i a w)) (hm : j + m + 1 = ps.length) (hjl : j < l.length)
  (ws : List (Nat × List Nat)) (hws : chkLast l es j ws = true) (hp : ps[m]? = some p) : ∃ v, p v w := by
 obtain ⟨v, hv, hl⟩ := hg.out j hjl
 have hlt := (gS1 hp).1
 have : Stab.look ps j = p := look_rev ps j p (by rw [List.getElem?_reverse (by omega)]; rw [<- hp]; congr 1; omega)
 rw [this] at hl
 exact ⟨v, hl (.inl (Last.of ws hws))⟩
theorem old_at {l : List Oper} {t : Nat} {x : Value} {a : Act} {w : World} {C : Prop} {Bt : (Nat -> Prop) -> Prop} (hh : Here l.toArray a0 w0 C Bt a w) (hn : noDst l t = true) (hx : a0.tmps[t]? = some x) : a.tmps[t]? = some x := by
 rw [hh.old t ?_, hx]
 intro i o ho hd
 have hm : o ∈ l := by have : o ∈ l.toArray := Array.mem_of_getElem? ho; simpa using this
 have := List.all_eq_true.1 hn o hm
 simp [hd] at this
theorem old_dep {l : List Oper} {t k j : Nat} (ks : List Nat) {x : Value} {a : Act} {w : World} (hd : Hid (Deps l.toArray a0 es ps k a w)) (hn : onlyDst l t j = true) (hp : (j == k || isPath l j ks k) = true) (hx : a0.tmps[t]? = some x) : a.tmps[t]? = some x := by
 rw [hd.out.2 t ?_, hx]
 intro i o ho hdst
 have ho' : l[i]? = some o := by simpa using ho
 have hil := (gS1 ho').1
 have h1 := List.all_eq_true.1 hn i (by simpa using hil)
 rw [ho'] at h1
 simp only [hdst, Bool.or_eq_true, beq_iff_eq, bne_self_eq_false, Bool.false_eq_true, or_false] at h1
 subst h1
 rcases Bool.or_eq_true _ _ |>.mp hp with h2 | h2
 ·exact .inl (by simpa using h2)
 ·exact .inr (Dep.of ks h2)
/-- a move of a slot that no operation of the region writes -/
theorem mvO {id k n u : Nat} {l : List Oper} {V : Value} {o : Oper} (s : a0.tmps[u]? = some V) (hn : a0.tmps.size = n) (hok : OkOps l.toArray n) (hk : ps.length = k) (hmm : es.contains k = false) (ho : l[k]? = some o) (hg : o.guard = none) (hop : o.op = .move (.tmp u) \/ o.op = .assign (.tmp u)) (hnd : noDst l u = true)
  (rest : Todo P id l.toArray Q a0 w0 S es (Is V :: ps)) : Todo P id l.toArray Q a0 w0 S es ps :=
 todo_is V hn hok hk hmm (fun a w hh hd _ K hK => op_plain ho hg (by
  have hs := old_at hh hnd s
  have he : a.eval (.tmp u) = V := by simp [Act.eval, hs]
  have h2 := hK.out o ho V w (Below.refl _ _) rfl
  rw [<- he] at h2
  unfold Oper.wp execOp
  rcases hop with h | h <;> rw [h] <;> exact h2)) rest
/-- a move of a slot that an operation writes that waits for this one -/
theorem mvP {id k n u j : Nat} {l : List Oper} {V : Value} {o : Oper} (s : a0.tmps[u]? = some V) (hn : a0.tmps.size = n) (hok : OkOps l.toArray n) (hk : ps.length = k) (hmm : es.contains k = false) (ho : l[k]? = some o) (hg : o.guard = none) (hop : o.op = .move (.tmp u) \/ o.op = .assign (.tmp u)) (ks : List Nat) (hnd : onlyDst l u j = true) (hp : (j == k || isPath l j ks k) = true)
  (rest : Todo P id l.toArray Q a0 w0 S es (Is V :: ps)) : Todo P id l.toArray Q a0 w0 S es ps :=
 todo_is V hn hok hk hmm (fun a w hh hd _ K hK => op_plain ho hg (by
  have hs := old_dep ks hd hnd hp s
  have he : a.eval (.tmp u) = V := by simp [Act.eval, hs]
  have h2 := hK.out o ho V w (Below.refl _ _) rfl
  rw [<- he] at h2
  unfold Oper.wp execOp
  rcases hop with h | h <;> rw [h] <;> exact h2)) rest
/-- a move of a slot that an operation ahead has written -/
theorem mvN {id k n u j m : Nat} {l : List Oper} {V : Value} {o oj : Oper} (hn : a0.tmps.size = n) (hok : OkOps l.toArray n) (hk : ps.length = k) (hmm : es.contains k = false) (ho : l[k]? = some o) (hg : o.guard = none) (hop : o.op = .move (.tmp u) \/ o.op = .assign (.tmp u))
  (hm : j + m + 1 = k) (ks : List Nat) (hks : isPath l k ks j = true) (hp : ps[m]? = some (Is V)) (hoj : l[j]? = some oj) (hdst : oj.dst = some u)
  (rest : Todo P id l.toArray Q a0 w0 S es (Is V :: ps)) : Todo P id l.toArray Q a0 w0 S es ps :=
 todo_is V hn hok hk hmm (fun a w hh hd hk K hK => op_plain ho hg (by
  have hs := use_is hd hk hm ks hks hp hoj hdst
  have he : a.eval (.tmp u) = V := by simp [Act.eval, hs]
  have h2 := hK.out o ho V w (Below.refl _ _) rfl
  rw [<- he] at h2
  unfold Oper.wp execOp
  rcases hop with h | h <;> rw [h] <;> exact h2)) rest
theorem u (j m : Nat) {l : List Oper} {k d : Nat} {V : Value} {o : Oper} {a : Act} {w : World} (hd : Hid (Deps l.toArray a0 es ps k a w)) (hk : ps.length = k) (hm : j + m + 1 = k)
  (ks : List Nat) (hks : isPath l k ks j = true) (hp : ps[m]? = some (Is V)) (ho : l[j]? = some o) (hdst : o.dst = some d) : a.tmps[d]? = some V := use_is hd hk hm ks hks hp ho hdst
theorem e (j m : Nat) {l : List Oper} {d : Nat} {V : Value} {o : Oper} {a : Act} {w : World} (hg : Hid (∀ i, i < l.length -> Got l.toArray ps (Last l.toArray es i) i a w)) (hm : j + m + 1 = ps.length)
  (hp : ps[m]? = some (Is V)) (ho : l[j]? = some o) (hdst : o.dst = some d) : a.tmps[d]? = some V := end_is hg hm hp ho hdst
theorem o {l : List Oper} {t : Nat} {x : Value} {a : Act} {w : World} {C : Prop} {Bt : (Nat -> Prop) -> Prop} (hh : Here l.toArray a0 w0 C Bt a w) (hn : noDst l t = true) (hx : a0.tmps[t]? = some x) : a.tmps[t]? = some x := old_at hh hn hx
theorem t (k : Nat) {id n : Nat} {l : List Oper} (V : Value) (hn : a0.tmps.size = n) (hok : OkOps l.toArray n) (hk : ps.length = k) (hm : es.contains k = false)
  (h : ∀ a w, Here l.toArray a0 w0 (Pure l.toArray es k) (PureT l.toArray S es k) a w -> Hid (Deps l.toArray a0 es ps k a w) -> ps.length = k -> ∀ K : Act -> World -> Prop,
   Hid (∀ o : Oper, l[k]? = some o -> ∀ v w', Below w.heap.size w w' -> v = V -> K (a.put o.dst v) w') -> wpOp P l.toArray Q k K a w)
  (rest : Todo P id l.toArray Q a0 w0 S es (Is V :: ps)) : Todo P id l.toArray Q a0 w0 S es ps := todo_is V hn hok hk hm h rest
end
end Stam
namespace Fact
section
variable {Q : Exit -> Act -> World -> Prop} {a : Act} {w : World}
theorem scope_e {id : Nat} (h : Q (.exit id) a w) : Exit.noGoto Q (.exit id) a w := h
theorem scope_r (h : Q .ret a w) : Exit.noGoto Q .ret a w := h
end
end Fact
variable {ds : List Deferred} {X : Prop}
open Go.RowKit
set_option linter.unusedVariables false
set_option linter.unusedSimpArgs false
namespace Fact
section
variable {P : Program} {Q : Exit -> Act -> World -> Prop} {a : Act} {w : World} {n : Nat}
/-- the end of a plain region, the frame anew -/
theorem z {A : Act} {ops : Array Oper} (hf : FrD ds n a) (h : ∀ a : Act, FrD ds n a -> (∀ t : Nat, a.tmps[t]? = A.tmps[t]?) -> Q .normal a w) (hs : A.tmps.size = a.tmps.size := by simp only [Fact.G]) (hd : A.defers = a.defers := by rfl) : L P ops Q [] A w := nil (q hf hs hd h)
theorem FrD.bs (hf : FrD ds n a) : ∀ t : Nat, t < n -> t < a.tmps.size := fun _ h => hf.lt h
end
end Fact
namespace Stab
variable {P : Program} {a0 : Act} {w0 : World} {ps : List Pr}
theorem v (j m : Nat) {l : List Oper} {k d : Nat} {V : Value} {o : Oper} {a : Act} {w : World} (hd : Hid (Deps l.toArray a0 ps k a w)) (hk : ps.length = k) (ks : List Nat) (hm : j + m + 1 = k := by rfl)
  (hks : isPath l k ks j = true := by kernel_rfl) (hp : ps[m]? = some (Is V) := by rfl) (ho : l[j]? = some o := by rfl) (hdst : o.dst = some d := by rfl) : a.tmps[d]? = some V := u j m hd hk hm ks hks hp ho hdst
theorem f (j m : Nat) {l : List Oper} {d : Nat} {V : Value} {o : Oper} {a : Act} {w : World} (hg : Hid (∀ i, i < l.length -> Got l.toArray ps i a w)) (hm : j + m + 1 = ps.length := by rfl)
  (hp : ps[m]? = some (Is V) := by rfl) (ho : l[j]? = some o := by rfl) (hdst : o.dst = some d := by rfl) : a.tmps[d]? = some V := e j m hg hm hp ho hdst
theorem tp (k : Nat) {Q : Exit -> Act -> World -> Prop} {id n : Nat} {l : List Oper} {o : Oper} (V : Value) (hn : a0.tmps.size = n) (hok : OkOps l.toArray n) (hk : ps.length = k)
  (h : ∀ a w, Here l.toArray a0 w0 a w -> Hid (Deps l.toArray a0 ps k a w) -> ps.length = k -> ∀ K : Act -> World -> Prop,
   Hid (∀ o : Oper, l[k]? = some o -> ∀ v w', Below w.heap.size w w' -> v = V -> K (a.put o.dst v) w') -> Oper.wp P o a w K Q)
  (rest : Todo X P id l.toArray Q a0 w0 (Is V :: ps)) (ho : l[k]? = some o := by rfl) (hg : o.guard = none := by rfl) : Todo X P id l.toArray Q a0 w0 ps :=
 t k V hn hok hk (fun a w h1 h2 h3 K hK => op_plain ho hg (h a w h1 h2 h3 K hK)) rest
theorem k {K : Act -> World -> Prop} {l : List Oper} {i : Nat} {a : Act} {w : World} {V : Value} {o : Oper} (hK : Hid (∀ o : Oper, l[i]? = some o -> ∀ v w', Below w.heap.size w w' -> v = V -> K (a.put o.dst v) w')) (ho : l[i]? = some o := by rfl) : K (a.put o.dst V) w := hK.out o ho V w (Below.refl _ _) rfl
end Stab
section
variable {P : Program} {Q : Exit -> Act -> World -> Prop} {a : Act} {w : World}
theorem fp {ops : Array Oper} {rest : List Oper} {o : Oper} (h : ∀ K : Act -> World -> Prop, Hid (∀ a w, Fact.L P ops Q rest a w -> K a w) -> o.wp P a w K Q) (hg : o.guard = none := by rfl) : Fact.L P ops Q (o :: rest) a w := Fact.p hg h
theorem nx {K : Act -> World -> Prop} (h : K a w) : Exit.then K Q .normal a w := h
theorem rg {id : Nat} {l : List Oper} (h : Fact.L P l.toArray Q l a w) : (Code.region id l.toArray false).wp P Q a w := Fact.region h
theorem og {l : List Oper} {rest : List Oper} {o x : Oper} (g d : Nat) (b : Bool) (hv : a.tmps[d]? = some (.bool b)) (h : ∀ K : Act -> World -> Prop, Hid (∀ a w, Fact.L P l.toArray Q rest a w -> K a w) -> o.wp P a w K Q) (hg : o.guard = some (g, b) := by rfl) (hgo : l[g]? = some x := by rfl) (hd : x.dst = some d := by rfl) : Fact.L P l.toArray Q (o :: rest) a w := Fact.op_guard hg hgo hd hv h
end
section
variable {P : Program} {Q : Exit -> Act -> World -> Prop} {a : Act} {w : World} {n : Nat}
theorem Fact.FrD.b {n : Nat} {a : Act} (h : Fact.FrD ds n a) (t : Nat) (ht : Nat.blt t n = true := by rfl) : t < a.tmps.size := h.l t ht
theorem sk {l : List Oper} {rest : List Oper} {o x : Oper} (g d : Nat) (b : Bool) (hv : a.tmps[d]? = some (.bool (!b))) (h : Fact.L P l.toArray Q rest (a.put o.dst undef) w) (hg : o.guard = some (g, b) := by rfl) (hgo : l[g]? = some x := by rfl) (hd : x.dst = some d := by rfl) : Fact.L P l.toArray Q (o :: rest) a w := Fact.op_skip hg hgo hd hv h
end
namespace Stab
section
variable {P : Program} {a0 : Act} {w0 : World} {ps : List Pr}
theorem O {l : List Oper} {t : Nat} {x : Value} {a : Act} {w : World} (hh : Here l.toArray a0 w0 a w) (hx : a0.tmps[t]? = some x) (hn : noDst l t = true := by kernel_rfl) : a.tmps[t]? = some x := old_at hh hn hx
theorem tq (k : Nat) {Q : Exit -> Act -> World -> Prop} {id n : Nat} {l : List Oper} {o : Oper} (V : Value) (hf : Fact.FrD ds n a0) (hok : Hid (OkOps l.toArray n))
  (h : ∀ a w, Here l.toArray a0 w0 a w -> Hid (Deps l.toArray a0 ps k a w) -> ps.length = k -> ∀ K : Act -> World -> Prop,
   Hid (∀ o : Oper, l[k]? = some o -> ∀ v w', Below w.heap.size w w' -> v = V -> K (a.put o.dst v) w') -> Oper.wp P o a w K Q)
  (rest : Todo X P id l.toArray Q a0 w0 (Is V :: ps)) (hk : ps.length = k := by rfl) (ho : l[k]? = some o := by rfl) (hg : o.guard = none := by rfl) : Todo X P id l.toArray Q a0 w0 ps :=
 tp k V hf.size hok.out hk h rest ho hg
theorem tr (k : Nat) {Q : Exit -> Act -> World -> Prop} {id n : Nat} {l : List Oper} (V : Value) (hf : Fact.FrD ds n a0) (hok : Hid (OkOps l.toArray n))
  (h : ∀ a w, Here l.toArray a0 w0 a w -> Hid (Deps l.toArray a0 ps k a w) -> ps.length = k -> ∀ K : Act -> World -> Prop,
   Hid (∀ o : Oper, l[k]? = some o -> ∀ v w', Below w.heap.size w w' -> v = V -> K (a.put o.dst v) w') -> wpOp P l.toArray Q k K a w)
  (rest : Todo X P id l.toArray Q a0 w0 (Is V :: ps)) (hk : ps.length = k := by rfl) : Todo X P id l.toArray Q a0 w0 ps := t k V hf.size hok.out hk h rest
theorem g {Q : Exit -> Act -> World -> Prop} {l : List Oper} {i g d : Nat} {b : Bool} {o og : Oper} {a : Act} {w : World} {K : Act -> World -> Prop} (hv : a.tmps[d]? = some (.bool b)) (h : Oper.wp P o a w K Q) (hi : l[i]? = some o := by rfl) (hg : o.guard = some (g, b) := by rfl) (hgo : l[g]? = some og := by rfl) (hd : og.dst = some d := by rfl) : wpOp P l.toArray Q i K a w := op_guard hi hg hgo hd hv h
end
end Stab
section
variable {P : Program} {a0 : Act} {w0 : World} {ps : List Stab.Pr} {Q : Exit -> Act -> World -> Prop}
open Stab (Is isPath OkOps noDst)
theorem Stab.mO (k : Nat) {id n u : Nat} {l : List Oper} {V : Value} {o : Oper} (s : a0.tmps[u]? = some V) (hf : Fact.FrD ds n a0) (hok : Hid (OkOps l.toArray n)) (rest : Stab.Todo X P id l.toArray Q a0 w0 (Is V :: ps)) (hk : ps.length = k := by rfl) (ho : l[k]? = some o := by rfl) (hg : o.guard = none := by rfl) (hop : o.op = .move (.tmp u) \/ o.op = .assign (.tmp u) := by first | exact .inl rfl | exact .inr rfl) (hnd : noDst l u = true := by kernel_rfl) : Stab.Todo X P id l.toArray Q a0 w0 ps := Stab.mvO s hf.size hok.out hk ho hg hop hnd rest
theorem Stab.mN (k j m : Nat) {id n u : Nat} {l : List Oper} {V : Value} {o oj : Oper} (hf : Fact.FrD ds n a0) (hok : Hid (OkOps l.toArray n)) (ks : List Nat) (rest : Stab.Todo X P id l.toArray Q a0 w0 (Is V :: ps)) (hk : ps.length = k := by rfl) (ho : l[k]? = some o := by rfl) (hg : o.guard = none := by rfl) (hoj : l[j]? = some oj := by rfl) (hdst : oj.dst = some u := by rfl) (hop : o.op = .move (.tmp u) \/ o.op = .assign (.tmp u) := by first | exact .inl rfl | exact .inr rfl)
  (hm : j + m + 1 = k := by rfl) (hks : isPath l k ks j = true := by kernel_rfl) (hp : ps[m]? = some (Is V) := by rfl) : Stab.Todo X P id l.toArray Q a0 w0 ps := Stab.mvN hf.size hok.out hk ho hg hop hm ks hks hp hoj hdst rest
theorem Stab.sk {l : List Oper} {i g d : Nat} {b : Bool} {o og : Oper} {a : Act} {w : World} {K : Act -> World -> Prop} (hv : a.tmps[d]? = some (.bool (!b))) (h : K (a.put o.dst undef) w) (hi : l[i]? = some o := by rfl) (hg : o.guard = some (g, b) := by rfl) (hgo : l[g]? = some og := by rfl) (hd : og.dst = some d := by rfl) : wpOp P l.toArray Q i K a w := Stab.op_skip hi hg hgo hd hv h
theorem Stab.su {l : List Oper} {i g d : Nat} {b : Bool} {o og : Oper} {a : Act} {w : World} {K : Act -> World -> Prop} (hv : a.tmps[d]? = some undef) (h : K (a.put o.dst undef) w) (hi : l[i]? = some o := by rfl) (hg : o.guard = some (g, b) := by rfl) (hgo : l[g]? = some og := by rfl) (hd : og.dst = some d := by rfl) : wpOp P l.toArray Q i K a w := Stab.op_skip' hi hg hgo hd hv h
theorem Stab.pl {l : List Oper} {i : Nat} {o : Oper} {a : Act} {w : World} {K : Act -> World -> Prop} (h : Oper.wp P o a w K Q) (hi : l[i]? = some o := by rfl) (hg : o.guard = none := by rfl) : wpOp P l.toArray Q i K a w := Stab.op_plain hi hg h
theorem Stab.Here.fr {ops : Array Oper} {n : Nat} {a : Act} {w : World} (hh : Stab.Here ops a0 w0 a w) (hf : Fact.FrD ds n a0) : Fact.FrD ds n a := ⟨hh.size.trans hf.size, hh.defers.trans hf.defers⟩
theorem Stam.Here.fr {ops : Array Oper} {n : Nat} {C : Prop} {Bt : (Nat -> Prop) -> Prop} {a : Act} {w : World} (hh : Stam.Here ops a0 w0 C Bt a w) (hf : Fact.FrD ds n a0) : Fact.FrD ds n a := ⟨hh.size.trans hf.size, hh.defers.trans hf.defers⟩
theorem Stab.tb (n : Nat) {id : Nat} {l : List Oper} (h : Hid (OkOps l.toArray n) -> Stab.TodoE P id l.toArray Q a0 w0 []) (hok : Stab.okOps l.toArray n = true := by kernel_rfl) : (Code.region id l.toArray true).wp P Q a0 w0 := Stab.todo_begin (.of hok) h
theorem Stab.tf {id n : Nat} {l : List Oper} (hf : Fact.FrD ds n a0) (hok : Hid (OkOps l.toArray n)) (hfin : ∀ a w, Stab.Here l.toArray a0 w0 a w -> Hid (∀ i, i < l.length -> Stab.Got l.toArray ps i a w) -> Q .normal a w) (hlen : ps.length = l.length := by rfl) (hm : P.follows .mixedOrders = true := by kernel_rfl) : Stab.TodoE P id l.toArray Q a0 w0 ps := Stab.todo_facts hm hf.size hok.out hlen hfin
theorem Fact.en (n : Nat) {l : List Value} {m : Nat} {c : Code} {w : World} (h : ∀ a : Act, Fact.Fr n a -> (∀ (t : Nat) (v : Value), l[t]? = some v -> a.tmps[t]? = some v) -> c.wp P Q a w) (hs : l.length + m = n := by kernel_rfl) : c.wp P Q ⟨l.toArray ++ Array.replicate m undef, []⟩ w := Fact.enter hs h
theorem Fact.W : (∀ {n : Int}, -9223372036854775808 <= n -> n <= 9223372036854775807 -> IntKind.i64.wrap n = n) /\ (∀ {n : Int}, 0 <= n -> n <= 255 -> IntKind.u8.wrap n = n) /\ (∀ {n : Int}, 0 <= n -> n <= 4294967295 -> IntKind.u32.wrap n = n) /\ ∀ {n : Int}, 0 <= n -> n <= 18446744073709551615 -> IntKind.u64.wrap n = n := ⟨Fact.wrap_i64, Fact.wrap_u8, Fact.wrap_u32, Fact.wrap_u64⟩
theorem Fact.N : (!true) = false /\ (!false) = true := ⟨rfl, rfl⟩
theorem Stam.v (j m : Nat) {es : List Nat} {l : List Oper} {k d : Nat} {V : Value} {o : Oper} {a : Act} {w : World} (hd : Hid (Stam.Deps l.toArray a0 es ps k a w)) (hk : ps.length = k) (ks : List Nat) (hm : j + m + 1 = k := by rfl) (hks : isPath l k ks j = true := by kernel_rfl) (hp : ps[m]? = some (Is V) := by rfl) (ho : l[j]? = some o := by rfl) (hdst : o.dst = some d := by rfl) : a.tmps[d]? = some V := Stam.u j m hd hk hm ks hks hp ho hdst
theorem Stam.tq (k : Nat) {S : Nat -> Nat -> Prop} {es : List Nat} {id n : Nat} {l : List Oper} (V : Value) (hf : Fact.FrD ds n a0) (hok : Hid (OkOps l.toArray n))
  (h : ∀ a w, Stam.Here l.toArray a0 w0 (Stam.Pure l.toArray es k) (Stam.PureT l.toArray S es k) a w -> Hid (Stam.Deps l.toArray a0 es ps k a w) -> ps.length = k -> ∀ K : Act -> World -> Prop,
   Hid (∀ o : Oper, l[k]? = some o -> ∀ v w', Below w.heap.size w w' -> v = V -> K (a.put o.dst v) w') -> wpOp P l.toArray Q k K a w)
  (rest : Stam.Todo P id l.toArray Q a0 w0 S es (Is V :: ps)) (hk : ps.length = k := by rfl) (hm : es.contains k = false := by kernel_rfl) : Stam.Todo P id l.toArray Q a0 w0 S es ps := Stam.t k V hf.size hok.out hk hm h rest
end
namespace Fact
theorem h2 {P : Nat -> Prop} (h : ∀ t, P t) (a b : Nat) : P a /\ P b := ⟨h a, h b⟩
theorem h3 {P : Nat -> Prop} (h : ∀ t, P t) (a b c : Nat) : P a /\ P b /\ P c := ⟨h a, h b, h c⟩
theorem h4 {P : Nat -> Prop} (h : ∀ t, P t) (a b c d : Nat) : P a /\ P b /\ P c /\ P d := ⟨h a, h b, h c, h d⟩
theorem h5 {P : Nat -> Prop} (h : ∀ t, P t) (a b c d e : Nat) : P a /\ P b /\ P c /\ P d /\ P e := ⟨h a, h b, h c, h d, h e⟩
theorem h6 {P : Nat -> Prop} (h : ∀ t, P t) (a b c d e f : Nat) : P a /\ P b /\ P c /\ P d /\ P e /\ P f := ⟨h a, h b, h c, h d, h e, h f⟩
theorem h7 {P : Nat -> Prop} (h : ∀ t, P t) (a b c d e f g : Nat) : P a /\ P b /\ P c /\ P d /\ P e /\ P f /\ P g := ⟨h a, h b, h c, h d, h e, h f, h g⟩
theorem h8 {P : Nat -> Prop} (h : ∀ t, P t) (a b c d e f g i : Nat) : P a /\ P b /\ P c /\ P d /\ P e /\ P f /\ P g /\ P i := ⟨h a, h b, h c, h d, h e, h f, h g, h i⟩
theorem h9 {P : Nat -> Prop} (h : ∀ t, P t) (a b c d e f g i j : Nat) : P a /\ P b /\ P c /\ P d /\ P e /\ P f /\ P g /\ P i /\ P j := ⟨h a, h b, h c, h d, h e, h f, h g, h i, h j⟩
theorem h10 {P : Nat -> Prop} (h : ∀ t, P t) (a b c d e f g i j k : Nat) : P a /\ P b /\ P c /\ P d /\ P e /\ P f /\ P g /\ P i /\ P j /\ P k := ⟨h a, h b, h c, h d, h e, h f, h g, h i, h j, h k⟩
theorem h12 {P : Nat -> Prop} (h : ∀ t, P t) (a b c d e f g i j k l m : Nat) : P a /\ P b /\ P c /\ P d /\ P e /\ P f /\ P g /\ P i /\ P j /\ P k /\ P l /\ P m := ⟨h a, h b, h c, h d, h e, h f, h g, h i, h j, h k, h l, h m⟩
theorem h13 {P : Nat -> Prop} (h : ∀ t, P t) (a b c d e f g i j k l m o : Nat) : P a /\ P b /\ P c /\ P d /\ P e /\ P f /\ P g /\ P i /\ P j /\ P k /\ P l /\ P m /\ P o := ⟨h a, h b, h c, h d, h e, h f, h g, h i, h j, h k, h l, h m, h o⟩
theorem FrD.B2 {n : Nat} {z : Act} (h : FrD ds n z) (a b : Nat) (hz : (Nat.blt a n && Nat.blt b n) = true := by rfl) : a < z.tmps.size /\ b < z.tmps.size := by
 simp only [Bool.and_eq_true, and_assoc] at hz
 exact ⟨h.b a hz.1, h.b b hz.2⟩
theorem FrD.B3 {n : Nat} {z : Act} (h : FrD ds n z) (a b c : Nat) (hz : (Nat.blt a n && Nat.blt b n && Nat.blt c n) = true := by rfl) : a < z.tmps.size /\ b < z.tmps.size /\ c < z.tmps.size := by
 simp only [Bool.and_eq_true, and_assoc] at hz
 exact ⟨h.b a hz.1, h.b b hz.2.1, h.b c hz.2.2⟩
theorem FrD.B4 {n : Nat} {z : Act} (h : FrD ds n z) (a b c d : Nat) (hz : (Nat.blt a n && Nat.blt b n && Nat.blt c n && Nat.blt d n) = true := by rfl) : a < z.tmps.size /\ b < z.tmps.size /\ c < z.tmps.size /\ d < z.tmps.size := by
 simp only [Bool.and_eq_true, and_assoc] at hz
 exact ⟨h.b a hz.1, h.b b hz.2.1, h.b c hz.2.2.1, h.b d hz.2.2.2⟩
theorem FrD.B5 {n : Nat} {z : Act} (h : FrD ds n z) (a b c d e : Nat) (hz : (Nat.blt a n && Nat.blt b n && Nat.blt c n && Nat.blt d n && Nat.blt e n) = true := by rfl) : a < z.tmps.size /\ b < z.tmps.size /\ c < z.tmps.size /\ d < z.tmps.size /\ e < z.tmps.size := by
 simp only [Bool.and_eq_true, and_assoc] at hz
 exact ⟨h.b a hz.1, h.b b hz.2.1, h.b c hz.2.2.1, h.b d hz.2.2.2.1, h.b e hz.2.2.2.2⟩
theorem FrD.B6 {n : Nat} {z : Act} (h : FrD ds n z) (a b c d e f : Nat) (hz : (Nat.blt a n && Nat.blt b n && Nat.blt c n && Nat.blt d n && Nat.blt e n && Nat.blt f n) = true := by rfl) : a < z.tmps.size /\ b < z.tmps.size /\ c < z.tmps.size /\ d < z.tmps.size /\ e < z.tmps.size /\ f < z.tmps.size := by
 simp only [Bool.and_eq_true, and_assoc] at hz
 exact ⟨h.b a hz.1, h.b b hz.2.1, h.b c hz.2.2.1, h.b d hz.2.2.2.1, h.b e hz.2.2.2.2.1, h.b f hz.2.2.2.2.2⟩
theorem FrD.B7 {n : Nat} {z : Act} (h : FrD ds n z) (a b c d e f g : Nat) (hz : (Nat.blt a n && Nat.blt b n && Nat.blt c n && Nat.blt d n && Nat.blt e n && Nat.blt f n && Nat.blt g n) = true := by rfl) : a < z.tmps.size /\ b < z.tmps.size /\ c < z.tmps.size /\ d < z.tmps.size /\ e < z.tmps.size /\ f < z.tmps.size /\ g < z.tmps.size := by
 simp only [Bool.and_eq_true, and_assoc] at hz
 exact ⟨h.b a hz.1, h.b b hz.2.1, h.b c hz.2.2.1, h.b d hz.2.2.2.1, h.b e hz.2.2.2.2.1, h.b f hz.2.2.2.2.2.1, h.b g hz.2.2.2.2.2.2⟩
theorem FrD.B8 {n : Nat} {z : Act} (h : FrD ds n z) (a b c d e f g i : Nat) (hz : (Nat.blt a n && Nat.blt b n && Nat.blt c n && Nat.blt d n && Nat.blt e n && Nat.blt f n && Nat.blt g n && Nat.blt i n) = true := by rfl) : a < z.tmps.size /\ b < z.tmps.size /\ c < z.tmps.size /\ d < z.tmps.size /\ e < z.tmps.size /\ f < z.tmps.size /\ g < z.tmps.size /\ i < z.tmps.size := by
 simp only [Bool.and_eq_true, and_assoc] at hz
 exact ⟨h.b a hz.1, h.b b hz.2.1, h.b c hz.2.2.1, h.b d hz.2.2.2.1, h.b e hz.2.2.2.2.1, h.b f hz.2.2.2.2.2.1, h.b g hz.2.2.2.2.2.2.1, h.b i hz.2.2.2.2.2.2.2⟩
theorem FrD.B9 {n : Nat} {z : Act} (h : FrD ds n z) (a b c d e f g i j : Nat) (hz : (Nat.blt a n && Nat.blt b n && Nat.blt c n && Nat.blt d n && Nat.blt e n && Nat.blt f n && Nat.blt g n && Nat.blt i n && Nat.blt j n) = true := by rfl) : a < z.tmps.size /\ b < z.tmps.size /\ c < z.tmps.size /\ d < z.tmps.size /\ e < z.tmps.size /\ f < z.tmps.size /\ g < z.tmps.size /\ i < z.tmps.size /\ j < z.tmps.size := by
 simp only [Bool.and_eq_true, and_assoc] at hz
 exact ⟨h.b a hz.1, h.b b hz.2.1, h.b c hz.2.2.1, h.b d hz.2.2.2.1, h.b e hz.2.2.2.2.1, h.b f hz.2.2.2.2.2.1, h.b g hz.2.2.2.2.2.2.1, h.b i hz.2.2.2.2.2.2.2.1, h.b j hz.2.2.2.2.2.2.2.2⟩
theorem FrD.B10 {n : Nat} {z : Act} (h : FrD ds n z) (a b c d e f g i j k : Nat) (hz : (Nat.blt a n && Nat.blt b n && Nat.blt c n && Nat.blt d n && Nat.blt e n && Nat.blt f n && Nat.blt g n && Nat.blt i n && Nat.blt j n && Nat.blt k n) = true := by rfl) : a < z.tmps.size /\ b < z.tmps.size /\ c < z.tmps.size /\ d < z.tmps.size /\ e < z.tmps.size /\ f < z.tmps.size /\ g < z.tmps.size /\ i < z.tmps.size /\ j < z.tmps.size /\ k < z.tmps.size := by
 simp only [Bool.and_eq_true, and_assoc] at hz
 exact ⟨h.b a hz.1, h.b b hz.2.1, h.b c hz.2.2.1, h.b d hz.2.2.2.1, h.b e hz.2.2.2.2.1, h.b f hz.2.2.2.2.2.1, h.b g hz.2.2.2.2.2.2.1, h.b i hz.2.2.2.2.2.2.2.1, h.b j hz.2.2.2.2.2.2.2.2.1, h.b k hz.2.2.2.2.2.2.2.2.2⟩
end Fact
variable {ds : List Deferred} {X : Prop}
section
variable {P : Program} {Q : Exit -> Act -> World -> Prop} {a : Act} {w : World} {n : Nat}
theorem Za {ops : Array Oper} {rest : List Oper} {o : Oper} {A : Act} {W : World} (k : Fact.L P ops Q rest A W) (hg : o.guard = none := by rfl) (h : ∀ K : Act -> World -> Prop, Hid (K A W) -> o.wp P a w K Q := by intro K Z; go_simp; exact Z.out) : Fact.L P ops Q (o :: rest) a w := Fact.p hg fun K Z => h K (Lib.hid (Z.out _ _ k))
/-- a sum, a difference, a product -/
def isAr (o : Op) : Bool := match o with
 | .binOp .add _ _ _ _ => true
 | .binOp .sub _ _ _ _ => true
 | .binOp .mul _ _ _ _ => true
 | _ => false
def isIx (o : Op) : Bool := match o with
 | .indexAddr .. => true
 | _ => false
theorem Zb {ops : Array Oper} {rest : List Oper} {o : Oper} {A : Act} {W : World} (k : Fact.L P ops Q rest A W) (hg : o.guard = none := by rfl) (ha : isAr o.op = true := by rfl) (h : ∀ K : Act -> World -> Prop, Hid (K A W) -> o.wp P a w K Q := by intro K Z; go_simp; (try simp (disch := omega) only [Fact.W]); exact Z.out) : Fact.L P ops Q (o :: rest) a w := Fact.p hg fun K Z => h K (Lib.hid (Z.out _ _ k))
theorem Zi {ops : Array Oper} {rest : List Oper} {o : Oper} {A : Act} {W : World} (k : Fact.L P ops Q rest A W) (hg : o.guard = none := by rfl) (ha : isIx o.op = true := by rfl) (h : ∀ K : Act -> World -> Prop, Hid (K A W) -> o.wp P a w K Q := by intro K Z; go_simp; (try rw [if_pos (by omega)]); exact Z.out) : Fact.L P ops Q (o :: rest) a w := Fact.p hg fun K Z => h K (Lib.hid (Z.out _ _ k))
theorem Zg {l : List Oper} {rest : List Oper} {o x : Oper} {g d : Nat} {b : Bool} {A : Act} {W : World} (k : Fact.L P l.toArray Q rest A W) (hg : o.guard = some (g, b) := by rfl) (hgo : l[g]? = some x := by rfl) (hd : x.dst = some d := by rfl) (hv : a.tmps[d]? = some (.bool b) := by first | (simp (decide := true) only [Fact.G, reduceIte, hf.size, qs, Fact.N] <;> fail) | (first | (simp (decide := true) only [Fact.G, reduceIte, hf.size, qs, Fact.N] <;> fail) | (simp (decide := true) only [Fact.G, reduceIte, hf.size, Fact.N] <;> fail))) (h : ∀ K : Act -> World -> Prop, Hid (K A W) -> o.wp P a w K Q := by intro K Z; go_simp; (try simp (disch := omega) only [Fact.W]); exact Z.out) : Fact.L P l.toArray Q (o :: rest) a w := Fact.op_guard hg hgo hd hv fun K Z => h K (Lib.hid (Z.out _ _ k))
theorem Zk {l : List Oper} {rest : List Oper} {o x : Oper} {g d : Nat} {b : Bool} (h : Fact.L P l.toArray Q rest (a.put o.dst undef) w) (hg : o.guard = some (g, b) := by rfl) (hgo : l[g]? = some x := by rfl) (hd : x.dst = some d := by rfl) (hv : a.tmps[d]? = some (.bool (!b)) := by first | (simp (decide := true) only [Fact.G, reduceIte, hf.size, qs, Fact.N] <;> fail) | (simp (decide := true) only [Fact.G, reduceIte, hf.size, Fact.N] <;> fail)) : Fact.L P l.toArray Q (o :: rest) a w := Fact.op_skip hg hgo hd hv h
theorem Zu {l : List Oper} {rest : List Oper} {o x : Oper} {g d : Nat} {b : Bool} (h : Fact.L P l.toArray Q rest (a.put o.dst undef) w) (hg : o.guard = some (g, b) := by rfl) (hgo : l[g]? = some x := by rfl) (hd : x.dst = some d := by rfl) (hv : a.tmps[d]? = some undef := by first | (simp (decide := true) only [Fact.G, reduceIte, hf.size, qs, Fact.N] <;> fail) | (simp (decide := true) only [Fact.G, reduceIte, hf.size, Fact.N] <;> fail)) : Fact.L P l.toArray Q (o :: rest) a w := Fact.op_skip' hg hgo hd hv h
/-- one step, whatever it is -/
theorem Zy {ops : Array Oper} {rest : List Oper} {o : Oper} {A : Act} {W : World} (k : Fact.L P ops Q rest A W) (h : Hid (Fact.L P ops Q rest A W) -> Fact.L P ops Q (o :: rest) a w := by intro Z; first | exact Zb Z.out | exact Zi Z.out | exact Za Z.out | exact Zg Z.out | exact Zk Z.out | exact Zu Z.out) : Fact.L P ops Q (o :: rest) a w := h (Lib.hid k)
/-- behind a call -/
def Nx (P : Program) (ops : Array Oper) (Q : Exit -> Act -> World -> Prop) (rest : List Oper) (A : Value -> Act) : Ending -> World -> Prop
 | .returned v, w => Fact.L P ops Q rest (A v) w
 | _, _ => False
theorem Zv {ops : Array Oper} {rest : List Oper} {A : Value -> Act} {v : Value} (h : Fact.L P ops Q rest (A v) w) : Nx P ops Q rest A (.returned v) w := h
theorem Nx.r {ops : Array Oper} {rest : List Oper} {A : Value -> Act} {v : Value} (h : Nx P ops Q rest A (.returned v) w) : Fact.L P ops Q rest (A v) w := h
theorem Nx.p {ops : Array Oper} {rest : List Oper} {A : Value -> Act} {c : _} (h : Nx P ops Q rest A (.panicked c) w) : False := h
theorem Nx.o {ops : Array Oper} {rest : List Oper} {A : Value -> Act} (h : Nx P ops Q rest A .outgrown w) : False := h
theorem Zc {f : FuncId} {args : Array Value} {R : Ending -> World -> Prop} {ops : Array Oper} {rest : List Oper} {o : Oper} {A : Value -> Act} (hc : Calls P f args w R) (h : ∀ e w1, R e w1 -> Nx P ops Q rest A e w1) (hg : o.guard = none := by rfl) (hw : ∀ K : Act -> World -> Prop, Hid (∀ a w, Fact.L P ops Q rest a w -> K a w) -> Hid (Calls P f args w (Nx P ops Q rest A)) -> o.wp P a w K Q := by intro K Z N; go_simp; refine N.out.mono ?_; intro e w1 hx; cases e with | returned v => exact Z.out _ _ (Nx.r hx) | panicked c => exact (Nx.p hx).elim | outgrown => exact (Nx.o hx).elim) : Fact.L P ops Q (o :: rest) a w := Fact.p hg fun K Z => hw K Z (Lib.hid (hc.mono h))
theorem Zd {f : FuncId} {args : Array Value} {R : Ending -> World -> Prop} {l : List Oper} {rest : List Oper} {o x : Oper} {g d : Nat} {b : Bool} {A : Value -> Act} (hc : Calls P f args w R) (h : ∀ e w1, R e w1 -> Nx P l.toArray Q rest A e w1) (hg : o.guard = some (g, b) := by rfl) (hgo : l[g]? = some x := by rfl) (hd : x.dst = some d := by rfl) (hv : a.tmps[d]? = some (.bool b) := by first | (simp (decide := true) only [Fact.G, reduceIte, hf.size, qs, Fact.N] <;> fail) | (simp (decide := true) only [Fact.G, reduceIte, hf.size, Fact.N] <;> fail)) (hw : ∀ K : Act -> World -> Prop, Hid (∀ a w, Fact.L P l.toArray Q rest a w -> K a w) -> Hid (Calls P f args w (Nx P l.toArray Q rest A)) -> o.wp P a w K Q := by intro K Z N; go_simp; refine N.out.mono ?_; intro e w1 hx; cases e with | returned v => exact Z.out _ _ (Nx.r hx) | panicked c => exact (Nx.p hx).elim | outgrown => exact (Nx.o hx).elim) : Fact.L P l.toArray Q (o :: rest) a w := Fact.op_guard hg hgo hd hv fun K Z => hw K Z (Lib.hid (hc.mono h))
def Bs : List Nat -> Act -> Prop
 | [], _ => True
 | t :: ts, a => t < a.tmps.size /\ Bs ts a
theorem Bs.of (hf : Fact.FrD ds n a) : ∀ (l : List Nat), (l.all fun t => Nat.blt t n) = true -> Bs l a
 | [], _ => trivial
 | t :: ts, h => by
  rw [List.all_cons, Bool.and_eq_true] at h
  exact ⟨hf.l t h.1, Bs.of hf ts h.2⟩
theorem Zx {K : Act -> World -> Prop} {R : Exit -> Act -> World -> Prop} {b : Code} (hK : ∀ a w, b.wp P R a w -> K a w) (h : b.wp P R a w) : Exit.then K Q .normal a w := hK _ _ h
theorem Zret {Z : Exit -> Act -> World -> Prop} (h : Z .ret a w) (hq : Z .ret a w -> Q .ret a w := by intro h; (repeat first | with_reducible refine Fact.then_ret ?_ | with_reducible refine Fact.block_ret ?_ | with_reducible refine Fact.scope_r ?_); exact h) : Code.ret.wp P Q a w := wp_ret (hq h)
theorem Zo {id : Nat} {Z : Exit -> Act -> World -> Prop} (h : Z .normal a w) (hq : Z .normal a w -> Q (.exit id) a w := by intro h; repeat first | with_reducible refine Fact.then_exit ?_ | with_reducible refine Fact.scope_e ?_ | with_reducible exact Fact.block_exit h | with_reducible refine Fact.block_other (by decide) ?_) : (Code.exit id).wp P Q a w := wp_exit (hq h)
theorem Ze {b c : Code} {R : Exit -> Act -> World -> Prop} (h : ∀ K : Act -> World -> Prop, (∀ a w, c.wp P R a w -> K a w) -> b.wp P (Exit.then K R) a w) : (Code.seq b c).wp P R a w := wp_seq_k h
theorem Zs {K : Act -> World -> Prop} {R : Exit -> Act -> World -> Prop} {b c : Code} (hK : ∀ a w, (Code.seq b c).wp P R a w -> K a w) (h : ∀ K : Act -> World -> Prop, (∀ a w, c.wp P R a w -> K a w) -> b.wp P (Exit.then K R) a w) : Exit.then K Q .normal a w := hK _ _ (wp_seq_k h)
theorem Zt {K : Act -> World -> Prop} {R : Exit -> Act -> World -> Prop} {id : Nat} {l : List Oper} {c : Code} (hK : ∀ a w, (Code.seq (Code.region id l.toArray false) c).wp P R a w -> K a w) (h : ∀ K : Act -> World -> Prop, (∀ a w, c.wp P R a w -> K a w) -> Fact.L P l.toArray (Exit.then K R) l a w) : Exit.then K Q .normal a w := hK _ _ (wp_seq_k fun K hK => Fact.region (h K hK))
theorem Zq0 {A : Act} {e : Exit} (hf : Fact.FrD ds n a) (h : ∀ a : Act, Fact.FrD ds n a -> Q e a w) (hs : A.tmps.size = a.tmps.size := by simp only [Fact.G]) (hd : A.defers = a.defers := by rfl) : Q e A w := Fact.q hf hs hd fun a h1 hT => h a h1
theorem Zq1 (i : Nat) {A : Act} {e : Exit} {x0 : Value} (hf : Fact.FrD ds n a) (h : ∀ a : Act, Fact.FrD ds n a -> a.tmps[i]? = some x0 -> Q e a w) (hx : A.tmps[i]? = some x0 := by (try simp (decide := true) only [Fact.G, hf.size, reduceIte]) <;> first | with_reducible rfl | with_reducible assumption | (simp only [sS]; rfl)) (hs : A.tmps.size = a.tmps.size := by simp only [Fact.G]) (hd : A.defers = a.defers := by rfl) : Q e A w := Fact.q hf hs hd fun a h1 hT => h a h1 ((hT i).trans hx)
theorem Zq2 (i j : Nat) {A : Act} {e : Exit} {x0 x1 : Value} (hf : Fact.FrD ds n a) (h : ∀ a : Act, Fact.FrD ds n a -> a.tmps[i]? = some x0 /\ a.tmps[j]? = some x1 -> Q e a w) (hx : A.tmps[i]? = some x0 /\ A.tmps[j]? = some x1 := by and_intros <;> (try simp (decide := true) only [Fact.G, hf.size, reduceIte]) <;> first | with_reducible rfl | with_reducible assumption | (simp only [sS]; rfl)) (hs : A.tmps.size = a.tmps.size := by simp only [Fact.G]) (hd : A.defers = a.defers := by rfl) : Q e A w := Fact.q hf hs hd fun a h1 hT => h a h1 ⟨(hT i).trans hx.1, (hT j).trans hx.2⟩
theorem Zq3 (i j k : Nat) {A : Act} {e : Exit} {x0 x1 x2 : Value} (hf : Fact.FrD ds n a) (h : ∀ a : Act, Fact.FrD ds n a -> a.tmps[i]? = some x0 /\ a.tmps[j]? = some x1 /\ a.tmps[k]? = some x2 -> Q e a w) (hx : A.tmps[i]? = some x0 /\ A.tmps[j]? = some x1 /\ A.tmps[k]? = some x2 := by and_intros <;> (try simp (decide := true) only [Fact.G, hf.size, reduceIte]) <;> first | with_reducible rfl | with_reducible assumption | (simp only [sS]; rfl)) (hs : A.tmps.size = a.tmps.size := by simp only [Fact.G]) (hd : A.defers = a.defers := by rfl) : Q e A w := Fact.q hf hs hd fun a h1 hT => h a h1 ⟨(hT i).trans hx.1, (hT j).trans hx.2.1, (hT k).trans hx.2.2⟩
theorem Zq4 (i j k m : Nat) {A : Act} {e : Exit} {x0 x1 x2 x3 : Value} (hf : Fact.FrD ds n a) (h : ∀ a : Act, Fact.FrD ds n a -> a.tmps[i]? = some x0 /\ a.tmps[j]? = some x1 /\ a.tmps[k]? = some x2 /\ a.tmps[m]? = some x3 -> Q e a w) (hx : A.tmps[i]? = some x0 /\ A.tmps[j]? = some x1 /\ A.tmps[k]? = some x2 /\ A.tmps[m]? = some x3 := by and_intros <;> (try simp (decide := true) only [Fact.G, hf.size, reduceIte]) <;> first | with_reducible rfl | with_reducible assumption | (simp only [sS]; rfl)) (hs : A.tmps.size = a.tmps.size := by simp only [Fact.G]) (hd : A.defers = a.defers := by rfl) : Q e A w := Fact.q hf hs hd fun a h1 hT => h a h1 ⟨(hT i).trans hx.1, (hT j).trans hx.2.1, (hT k).trans hx.2.2.1, (hT m).trans hx.2.2.2⟩
theorem Zq5 (i j k m p : Nat) {A : Act} {e : Exit} {x0 x1 x2 x3 x4 : Value} (hf : Fact.FrD ds n a) (h : ∀ a : Act, Fact.FrD ds n a -> a.tmps[i]? = some x0 /\ a.tmps[j]? = some x1 /\ a.tmps[k]? = some x2 /\ a.tmps[m]? = some x3 /\ a.tmps[p]? = some x4 -> Q e a w) (hx : A.tmps[i]? = some x0 /\ A.tmps[j]? = some x1 /\ A.tmps[k]? = some x2 /\ A.tmps[m]? = some x3 /\ A.tmps[p]? = some x4 := by and_intros <;> (try simp (decide := true) only [Fact.G, hf.size, reduceIte]) <;> first | with_reducible rfl | with_reducible assumption | (simp only [sS]; rfl)) (hs : A.tmps.size = a.tmps.size := by simp only [Fact.G]) (hd : A.defers = a.defers := by rfl) : Q e A w := Fact.q hf hs hd fun a h1 hT => h a h1 ⟨(hT i).trans hx.1, (hT j).trans hx.2.1, (hT k).trans hx.2.2.1, (hT m).trans hx.2.2.2.1, (hT p).trans hx.2.2.2.2⟩
theorem Zq6 (i j k m p q : Nat) {A : Act} {e : Exit} {x0 x1 x2 x3 x4 x5 : Value} (hf : Fact.FrD ds n a) (h : ∀ a : Act, Fact.FrD ds n a -> a.tmps[i]? = some x0 /\ a.tmps[j]? = some x1 /\ a.tmps[k]? = some x2 /\ a.tmps[m]? = some x3 /\ a.tmps[p]? = some x4 /\ a.tmps[q]? = some x5 -> Q e a w) (hx : A.tmps[i]? = some x0 /\ A.tmps[j]? = some x1 /\ A.tmps[k]? = some x2 /\ A.tmps[m]? = some x3 /\ A.tmps[p]? = some x4 /\ A.tmps[q]? = some x5 := by and_intros <;> (try simp (decide := true) only [Fact.G, hf.size, reduceIte]) <;> first | with_reducible rfl | with_reducible assumption | (simp only [sS]; rfl)) (hs : A.tmps.size = a.tmps.size := by simp only [Fact.G]) (hd : A.defers = a.defers := by rfl) : Q e A w := Fact.q hf hs hd fun a h1 hT => h a h1 ⟨(hT i).trans hx.1, (hT j).trans hx.2.1, (hT k).trans hx.2.2.1, (hT m).trans hx.2.2.2.1, (hT p).trans hx.2.2.2.2.1, (hT q).trans hx.2.2.2.2.2⟩
theorem Zq7 (i j k m p q r : Nat) {A : Act} {e : Exit} {x0 x1 x2 x3 x4 x5 x6 : Value} (hf : Fact.FrD ds n a) (h : ∀ a : Act, Fact.FrD ds n a -> a.tmps[i]? = some x0 /\ a.tmps[j]? = some x1 /\ a.tmps[k]? = some x2 /\ a.tmps[m]? = some x3 /\ a.tmps[p]? = some x4 /\ a.tmps[q]? = some x5 /\ a.tmps[r]? = some x6 -> Q e a w) (hx : A.tmps[i]? = some x0 /\ A.tmps[j]? = some x1 /\ A.tmps[k]? = some x2 /\ A.tmps[m]? = some x3 /\ A.tmps[p]? = some x4 /\ A.tmps[q]? = some x5 /\ A.tmps[r]? = some x6 := by and_intros <;> (try simp (decide := true) only [Fact.G, hf.size, reduceIte]) <;> first | with_reducible rfl | with_reducible assumption | (simp only [sS]; rfl)) (hs : A.tmps.size = a.tmps.size := by simp only [Fact.G]) (hd : A.defers = a.defers := by rfl) : Q e A w := Fact.q hf hs hd fun a h1 hT => h a h1 ⟨(hT i).trans hx.1, (hT j).trans hx.2.1, (hT k).trans hx.2.2.1, (hT m).trans hx.2.2.2.1, (hT p).trans hx.2.2.2.2.1, (hT q).trans hx.2.2.2.2.2.1, (hT r).trans hx.2.2.2.2.2.2⟩
theorem Zq8 (i j k m p q r s : Nat) {A : Act} {e : Exit} {x0 x1 x2 x3 x4 x5 x6 x7 : Value} (hf : Fact.FrD ds n a) (h : ∀ a : Act, Fact.FrD ds n a -> a.tmps[i]? = some x0 /\ a.tmps[j]? = some x1 /\ a.tmps[k]? = some x2 /\ a.tmps[m]? = some x3 /\ a.tmps[p]? = some x4 /\ a.tmps[q]? = some x5 /\ a.tmps[r]? = some x6 /\ a.tmps[s]? = some x7 -> Q e a w) (hx : A.tmps[i]? = some x0 /\ A.tmps[j]? = some x1 /\ A.tmps[k]? = some x2 /\ A.tmps[m]? = some x3 /\ A.tmps[p]? = some x4 /\ A.tmps[q]? = some x5 /\ A.tmps[r]? = some x6 /\ A.tmps[s]? = some x7 := by and_intros <;> (try simp (decide := true) only [Fact.G, hf.size, reduceIte]) <;> first | with_reducible rfl | with_reducible assumption | (simp only [sS]; rfl)) (hs : A.tmps.size = a.tmps.size := by simp only [Fact.G]) (hd : A.defers = a.defers := by rfl) : Q e A w := Fact.q hf hs hd fun a h1 hT => h a h1 ⟨(hT i).trans hx.1, (hT j).trans hx.2.1, (hT k).trans hx.2.2.1, (hT m).trans hx.2.2.2.1, (hT p).trans hx.2.2.2.2.1, (hT q).trans hx.2.2.2.2.2.1, (hT r).trans hx.2.2.2.2.2.2.1, (hT s).trans hx.2.2.2.2.2.2.2⟩
theorem Zq9 (i j k m p q r s t : Nat) {A : Act} {e : Exit} {x0 x1 x2 x3 x4 x5 x6 x7 x8 : Value} (hf : Fact.FrD ds n a) (h : ∀ a : Act, Fact.FrD ds n a -> a.tmps[i]? = some x0 /\ a.tmps[j]? = some x1 /\ a.tmps[k]? = some x2 /\ a.tmps[m]? = some x3 /\ a.tmps[p]? = some x4 /\ a.tmps[q]? = some x5 /\ a.tmps[r]? = some x6 /\ a.tmps[s]? = some x7 /\ a.tmps[t]? = some x8 -> Q e a w) (hx : A.tmps[i]? = some x0 /\ A.tmps[j]? = some x1 /\ A.tmps[k]? = some x2 /\ A.tmps[m]? = some x3 /\ A.tmps[p]? = some x4 /\ A.tmps[q]? = some x5 /\ A.tmps[r]? = some x6 /\ A.tmps[s]? = some x7 /\ A.tmps[t]? = some x8 := by and_intros <;> (try simp (decide := true) only [Fact.G, hf.size, reduceIte]) <;> first | with_reducible rfl | with_reducible assumption | (simp only [sS]; rfl)) (hs : A.tmps.size = a.tmps.size := by simp only [Fact.G]) (hd : A.defers = a.defers := by rfl) : Q e A w := Fact.q hf hs hd fun a h1 hT => h a h1 ⟨(hT i).trans hx.1, (hT j).trans hx.2.1, (hT k).trans hx.2.2.1, (hT m).trans hx.2.2.2.1, (hT p).trans hx.2.2.2.2.1, (hT q).trans hx.2.2.2.2.2.1, (hT r).trans hx.2.2.2.2.2.2.1, (hT s).trans hx.2.2.2.2.2.2.2.1, (hT t).trans hx.2.2.2.2.2.2.2.2⟩
theorem Zq10 (i j k m p q r s t u : Nat) {A : Act} {e : Exit} {x0 x1 x2 x3 x4 x5 x6 x7 x8 x9 : Value} (hf : Fact.FrD ds n a) (h : ∀ a : Act, Fact.FrD ds n a -> a.tmps[i]? = some x0 /\ a.tmps[j]? = some x1 /\ a.tmps[k]? = some x2 /\ a.tmps[m]? = some x3 /\ a.tmps[p]? = some x4 /\ a.tmps[q]? = some x5 /\ a.tmps[r]? = some x6 /\ a.tmps[s]? = some x7 /\ a.tmps[t]? = some x8 /\ a.tmps[u]? = some x9 -> Q e a w) (hx : A.tmps[i]? = some x0 /\ A.tmps[j]? = some x1 /\ A.tmps[k]? = some x2 /\ A.tmps[m]? = some x3 /\ A.tmps[p]? = some x4 /\ A.tmps[q]? = some x5 /\ A.tmps[r]? = some x6 /\ A.tmps[s]? = some x7 /\ A.tmps[t]? = some x8 /\ A.tmps[u]? = some x9 := by and_intros <;> (try simp (decide := true) only [Fact.G, hf.size, reduceIte]) <;> first | with_reducible rfl | with_reducible assumption | (simp only [sS]; rfl)) (hs : A.tmps.size = a.tmps.size := by simp only [Fact.G]) (hd : A.defers = a.defers := by rfl) : Q e A w := Fact.q hf hs hd fun a h1 hT => h a h1 ⟨(hT i).trans hx.1, (hT j).trans hx.2.1, (hT k).trans hx.2.2.1, (hT m).trans hx.2.2.2.1, (hT p).trans hx.2.2.2.2.1, (hT q).trans hx.2.2.2.2.2.1, (hT r).trans hx.2.2.2.2.2.2.1, (hT s).trans hx.2.2.2.2.2.2.2.1, (hT t).trans hx.2.2.2.2.2.2.2.2.1, (hT u).trans hx.2.2.2.2.2.2.2.2.2⟩
theorem Zq14 (i j k m p q r s t u v c d g : Nat) {A : Act} {e : Exit} {x0 x1 x2 x3 x4 x5 x6 x7 x8 x9 x10 x11 x12 x13 : Value} (hf : Fact.FrD ds n a) (h : ∀ a : Act, Fact.FrD ds n a -> a.tmps[i]? = some x0 /\ a.tmps[j]? = some x1 /\ a.tmps[k]? = some x2 /\ a.tmps[m]? = some x3 /\ a.tmps[p]? = some x4 /\ a.tmps[q]? = some x5 /\ a.tmps[r]? = some x6 /\ a.tmps[s]? = some x7 /\ a.tmps[t]? = some x8 /\ a.tmps[u]? = some x9 /\ a.tmps[v]? = some x10 /\ a.tmps[c]? = some x11 /\ a.tmps[d]? = some x12 /\ a.tmps[g]? = some x13 -> Q e a w) (hx : A.tmps[i]? = some x0 /\ A.tmps[j]? = some x1 /\ A.tmps[k]? = some x2 /\ A.tmps[m]? = some x3 /\ A.tmps[p]? = some x4 /\ A.tmps[q]? = some x5 /\ A.tmps[r]? = some x6 /\ A.tmps[s]? = some x7 /\ A.tmps[t]? = some x8 /\ A.tmps[u]? = some x9 /\ A.tmps[v]? = some x10 /\ A.tmps[c]? = some x11 /\ A.tmps[d]? = some x12 /\ A.tmps[g]? = some x13 := by and_intros <;> (try simp (decide := true) only [Fact.G, hf.size, reduceIte]) <;> first | with_reducible rfl | with_reducible assumption | (simp only [sS]; rfl)) (hs : A.tmps.size = a.tmps.size := by simp only [Fact.G]) (hd : A.defers = a.defers := by rfl) : Q e A w := Fact.q hf hs hd fun a h1 hT => h a h1 ⟨(hT i).trans hx.1, (hT j).trans hx.2.1, (hT k).trans hx.2.2.1, (hT m).trans hx.2.2.2.1, (hT p).trans hx.2.2.2.2.1, (hT q).trans hx.2.2.2.2.2.1, (hT r).trans hx.2.2.2.2.2.2.1, (hT s).trans hx.2.2.2.2.2.2.2.1, (hT t).trans hx.2.2.2.2.2.2.2.2.1, (hT u).trans hx.2.2.2.2.2.2.2.2.2.1, (hT v).trans hx.2.2.2.2.2.2.2.2.2.2.1, (hT c).trans hx.2.2.2.2.2.2.2.2.2.2.2.1, (hT d).trans hx.2.2.2.2.2.2.2.2.2.2.2.2.1, (hT g).trans hx.2.2.2.2.2.2.2.2.2.2.2.2.2⟩
theorem Zr (bs : List Nat) {A : Act} {W : World} {id : Nat} {l : List Oper} (hf : Fact.FrD ds n a) (h : Q .normal A W) (hr : ∀ Q : Exit -> Act -> World -> Prop, Hid (Q .normal A W) -> Bs bs a -> Fact.L P l.toArray Q l a w := by intro Q Z bB; simp only [Bs] at bB; (repeat first | refine Zb ?_ | refine Zi ?_ | refine Za ?_ | refine Zg ?_ | refine Zk ?_ | refine Zu ?_); exact Fact.nil Z.out) (hbs : (bs.all fun t => Nat.blt t n) = true := by rfl) : (Code.region id l.toArray false).wp P Q a w := Fact.region (hr _ (Lib.hid h) (Bs.of hf bs hbs))
theorem Zn0 (n : Nat) {f : FuncId} {fn : Func} {c : Code} {R : Ending -> World -> Prop} (hF : P.funcs[f]? = some fn) (h : ∀ a : Act, Fact.Fr n a -> c.wp P (bodyPost P fn R) a w) (hb : fn.body = some c := by rfl) (hn : Nat.beq fn.ntmps n && Nat.ble 0 n := by kernel_rfl) : Calls P f #[] w R := by
 rw [Bool.and_eq_true] at hn
 refine calls_of_wp hF hb (Fact.enter (l := []) (n := n) ?_ fun a hf hT => h a hf)
 have h1 := Nat.eq_of_beq_eq_true hn.1; have h2 := Nat.le_of_ble_eq_true hn.2; show 0 + (fn.ntmps - 0) = n; omega
theorem Zn1 (n : Nat) {f : FuncId} {fn : Func} {c : Code} {x0 : Value} {R : Ending -> World -> Prop} (hF : P.funcs[f]? = some fn) (h : ∀ a : Act, Fact.Fr n a -> a.tmps[0]? = some x0 -> c.wp P (bodyPost P fn R) a w) (hb : fn.body = some c := by rfl) (hn : Nat.beq fn.ntmps n && Nat.ble 1 n := by kernel_rfl) : Calls P f #[x0] w R := by
 rw [Bool.and_eq_true] at hn
 refine calls_of_wp hF hb (Fact.enter (l := [x0]) (n := n) ?_ fun a hf hT => h a hf (hT 0 _ rfl))
 have h1 := Nat.eq_of_beq_eq_true hn.1; have h2 := Nat.le_of_ble_eq_true hn.2; show 1 + (fn.ntmps - 1) = n; omega
theorem Zn2 (n : Nat) {f : FuncId} {fn : Func} {c : Code} {x0 x1 : Value} {R : Ending -> World -> Prop} (hF : P.funcs[f]? = some fn) (h : ∀ a : Act, Fact.Fr n a -> a.tmps[0]? = some x0 -> a.tmps[1]? = some x1 -> c.wp P (bodyPost P fn R) a w) (hb : fn.body = some c := by rfl) (hn : Nat.beq fn.ntmps n && Nat.ble 2 n := by kernel_rfl) : Calls P f #[x0, x1] w R := by
 rw [Bool.and_eq_true] at hn
 refine calls_of_wp hF hb (Fact.enter (l := [x0, x1]) (n := n) ?_ fun a hf hT => h a hf (hT 0 _ rfl) (hT 1 _ rfl))
 have h1 := Nat.eq_of_beq_eq_true hn.1; have h2 := Nat.le_of_ble_eq_true hn.2; show 2 + (fn.ntmps - 2) = n; omega
theorem Zn3 (n : Nat) {f : FuncId} {fn : Func} {c : Code} {x0 x1 x2 : Value} {R : Ending -> World -> Prop} (hF : P.funcs[f]? = some fn) (h : ∀ a : Act, Fact.Fr n a -> a.tmps[0]? = some x0 -> a.tmps[1]? = some x1 -> a.tmps[2]? = some x2 -> c.wp P (bodyPost P fn R) a w) (hb : fn.body = some c := by rfl) (hn : Nat.beq fn.ntmps n && Nat.ble 3 n := by kernel_rfl) : Calls P f #[x0, x1, x2] w R := by
 rw [Bool.and_eq_true] at hn
 refine calls_of_wp hF hb (Fact.enter (l := [x0, x1, x2]) (n := n) ?_ fun a hf hT => h a hf (hT 0 _ rfl) (hT 1 _ rfl) (hT 2 _ rfl))
 have h1 := Nat.eq_of_beq_eq_true hn.1; have h2 := Nat.le_of_ble_eq_true hn.2; show 3 + (fn.ntmps - 3) = n; omega
theorem Zn4 (n : Nat) {f : FuncId} {fn : Func} {c : Code} {x0 x1 x2 x3 : Value} {R : Ending -> World -> Prop} (hF : P.funcs[f]? = some fn) (h : ∀ a : Act, Fact.Fr n a -> a.tmps[0]? = some x0 -> a.tmps[1]? = some x1 -> a.tmps[2]? = some x2 -> a.tmps[3]? = some x3 -> c.wp P (bodyPost P fn R) a w) (hb : fn.body = some c := by rfl) (hn : Nat.beq fn.ntmps n && Nat.ble 4 n := by kernel_rfl) : Calls P f #[x0, x1, x2, x3] w R := by
 rw [Bool.and_eq_true] at hn
 refine calls_of_wp hF hb (Fact.enter (l := [x0, x1, x2, x3]) (n := n) ?_ fun a hf hT => h a hf (hT 0 _ rfl) (hT 1 _ rfl) (hT 2 _ rfl) (hT 3 _ rfl))
 have h1 := Nat.eq_of_beq_eq_true hn.1; have h2 := Nat.le_of_ble_eq_true hn.2; show 4 + (fn.ntmps - 4) = n; omega
theorem Zn5 (n : Nat) {f : FuncId} {fn : Func} {c : Code} {x0 x1 x2 x3 x4 : Value} {R : Ending -> World -> Prop} (hF : P.funcs[f]? = some fn) (h : ∀ a : Act, Fact.Fr n a -> a.tmps[0]? = some x0 -> a.tmps[1]? = some x1 -> a.tmps[2]? = some x2 -> a.tmps[3]? = some x3 -> a.tmps[4]? = some x4 -> c.wp P (bodyPost P fn R) a w) (hb : fn.body = some c := by rfl) (hn : Nat.beq fn.ntmps n && Nat.ble 5 n := by kernel_rfl) : Calls P f #[x0, x1, x2, x3, x4] w R := by
 rw [Bool.and_eq_true] at hn
 refine calls_of_wp hF hb (Fact.enter (l := [x0, x1, x2, x3, x4]) (n := n) ?_ fun a hf hT => h a hf (hT 0 _ rfl) (hT 1 _ rfl) (hT 2 _ rfl) (hT 3 _ rfl) (hT 4 _ rfl))
 have h1 := Nat.eq_of_beq_eq_true hn.1; have h2 := Nat.le_of_ble_eq_true hn.2; show 5 + (fn.ntmps - 5) = n; omega
end
theorem ad {p q : Prop} (h : p) (g : q) : p /\ q := ⟨h, g⟩
namespace Stab
section
variable {P : Program} {Q : Exit -> Act -> World -> Prop} {a0 : Act} {w0 : World} {ps : List Pr}
theorem T (k : Nat) {id n : Nat} {l : List Oper} {o : Oper} {V : Value} {F : Act -> World -> Prop} (hf : Fact.FrD ds n a0) (hok : Hid (OkOps l.toArray n)) (hF : ∀ a w, Here l.toArray a0 w0 a w -> Hid (Deps l.toArray a0 ps k a w) -> F a w) (rest : Todo X P id l.toArray Q a0 w0 (Is V :: ps)) (ho : l[k]? = some o := by rfl) (hg : o.guard = none := by rfl)
  (h : ∀ a w, F a w -> ∀ K : Act -> World -> Prop, Hid (K (a.put o.dst V) w) -> o.wp P a w K Q := by intro a w sT K Z; go_simp; exact Z.out) (hk : ps.length = k := by rfl) : Todo X P id l.toArray Q a0 w0 ps :=
 tq k V hf hok (fun a w h1 h2 h3 K hK => h a w (hF a w h1 h2) K (Lib.hid (Stab.k hK ho))) rest hk ho hg
theorem Tb (k : Nat) {id n : Nat} {l : List Oper} {o : Oper} {V : Value} {F : Act -> World -> Prop} (hf : Fact.FrD ds n a0) (hok : Hid (OkOps l.toArray n)) (hF : ∀ a w, Here l.toArray a0 w0 a w -> Hid (Deps l.toArray a0 ps k a w) -> F a w) (rest : Todo X P id l.toArray Q a0 w0 (Is V :: ps)) (ho : l[k]? = some o := by rfl) (hg : o.guard = none := by rfl)
  (h : ∀ a w, F a w -> ∀ K : Act -> World -> Prop, Hid (K (a.put o.dst V) w) -> o.wp P a w K Q := by intro a w sT K Z; go_simp; (try simp (disch := omega) only [Fact.W]); exact Z.out) (hk : ps.length = k := by rfl) : Todo X P id l.toArray Q a0 w0 ps :=
 tq k V hf hok (fun a w h1 h2 h3 K hK => h a w (hF a w h1 h2) K (Lib.hid (Stab.k hK ho))) rest hk ho hg
theorem Ti (k : Nat) {id n : Nat} {l : List Oper} {o : Oper} {V : Value} {F : Act -> World -> Prop} (hf : Fact.FrD ds n a0) (hok : Hid (OkOps l.toArray n)) (hF : ∀ a w, Here l.toArray a0 w0 a w -> Hid (Deps l.toArray a0 ps k a w) -> F a w) (rest : Todo X P id l.toArray Q a0 w0 (Is V :: ps)) (ho : l[k]? = some o := by rfl) (hg : o.guard = none := by rfl)
  (h : ∀ a w, F a w -> ∀ K : Act -> World -> Prop, Hid (K (a.put o.dst V) w) -> o.wp P a w K Q := by intro a w sT K Z; go_simp; (try rw [if_pos (by omega)]); exact Z.out) (hk : ps.length = k := by rfl) : Todo X P id l.toArray Q a0 w0 ps :=
 tq k V hf hok (fun a w h1 h2 h3 K hK => h a w (hF a w h1 h2) K (Lib.hid (Stab.k hK ho))) rest hk ho hg
theorem Tg (k : Nat) {id n : Nat} {l : List Oper} {o og : Oper} {g d : Nat} {b : Bool} {V : Value} {F : Act -> World -> Prop} (hf : Fact.FrD ds n a0) (hok : Hid (OkOps l.toArray n)) (hG : ∀ a w, Here l.toArray a0 w0 a w -> Hid (Deps l.toArray a0 ps k a w) -> a.tmps[d]? = some (.bool b)) (hF : ∀ a w, Here l.toArray a0 w0 a w -> Hid (Deps l.toArray a0 ps k a w) -> F a w) (rest : Todo X P id l.toArray Q a0 w0 (Is V :: ps)) (ho : l[k]? = some o := by rfl) (hg : o.guard = some (g, b) := by rfl) (hgo : l[g]? = some og := by rfl) (hd : og.dst = some d := by rfl)
  (h : ∀ a w, F a w -> ∀ K : Act -> World -> Prop, Hid (K (a.put o.dst V) w) -> o.wp P a w K Q := by intro a w sT K Z; go_simp; (try simp (disch := omega) only [Fact.W]); (try rw [if_pos (by omega)]); exact Z.out) (hk : ps.length = k := by rfl) : Todo X P id l.toArray Q a0 w0 ps :=
 tr k V hf hok (fun a w h1 h2 _ K hK => op_guard ho hg hgo hd (hG a w h1 h2) (h a w (hF a w h1 h2) K (Lib.hid (Stab.k hK ho)))) rest hk
theorem Tk (k : Nat) {id n : Nat} {l : List Oper} {o og : Oper} {g d : Nat} {b c : Bool} (hf : Fact.FrD ds n a0) (hok : Hid (OkOps l.toArray n)) (hG : ∀ a w, Here l.toArray a0 w0 a w -> Hid (Deps l.toArray a0 ps k a w) -> a.tmps[d]? = some (.bool c)) (rest : Todo X P id l.toArray Q a0 w0 (Is undef :: ps)) (ho : l[k]? = some o := by rfl) (hg : o.guard = some (g, b) := by rfl) (hgo : l[g]? = some og := by rfl) (hd : og.dst = some d := by rfl) (hb : c = !b := by rfl) (hk : ps.length = k := by rfl) : Todo X P id l.toArray Q a0 w0 ps :=
 tr k undef hf hok (fun a w h1 h2 _ K hK => op_skip ho hg hgo hd (hb ▸ hG a w h1 h2) (Stab.k hK ho)) rest hk
theorem E {id n : Nat} {l : List Oper} {F : Act -> World -> Prop} (hf : Fact.FrD ds n a0) (hok : Hid (OkOps l.toArray n)) (hF : ∀ a w, Here l.toArray a0 w0 a w -> Hid (∀ i, i < l.length -> Got l.toArray ps i a w) -> F a w) (h : ∀ a w, Fact.FrD ds n a -> Below w0.heap.size w0 w -> F a w -> Q .normal a w) (hlen : ps.length = l.length := by rfl) (hm : P.follows .mixedOrders = true := by kernel_rfl) : TodoE P id l.toArray Q a0 w0 ps :=
 tf hf hok (fun a w h1 h2 => h a w (h1.fr hf) h1.ext (hF a w h1 h2)) hlen hm
theorem vd (j m : Nat) {l : List Oper} {k d : Nat} {V : Value} {o : Oper} {a : Act} {w : World} (hd : Hid (Deps l.toArray a0 ps k a w)) (ks : List Nat) (hk : ps.length = k := by rfl) (hm : j + m + 1 = k := by rfl)
  (hks : isPath l k ks j = true := by kernel_rfl) (hp : ps[m]? = some (Is V) := by rfl) (ho : l[j]? = some o := by rfl) (hdst : o.dst = some d := by rfl) : a.tmps[d]? = some V := u j m hd hk hm ks hks hp ho hdst
end
end Stab
end Go.Proofs.YtcddnmhmcieebaaGreatDoor
