/- A drawn region whose last operations each wait for all ahead of them: ahead of them by one fact for each operation (Stab), they themselves in the text's order. -/
import Derived.Test.YtgjfhedgdbbinaaDoorFact
namespace Go.Proofs.YtgjfhedgdbbinaaDoor
open Go.RowKit
set_option linter.unusedSimpArgs false
set_option linter.unusedVariables false
set_option linter.unnecessarySimpa false
namespace Tail
open Stab (Pr Here Deps Got OkOps Dep isPath)
section
variable {P : Program} {Q : Exit → Act → World → Prop} {l : List Oper} {a0 : Act} {w0 : World} {ps : List Pr}
/-- operation k, k + 1, .. in the text's order: so many -/
def Seq (P : Program) (l : List Oper) (Q : Exit → Act → World → Prop) : Nat → Nat → Act → World → Prop
  | 0, _, a, w => Q .normal a w
  | n + 1, k, a, w => ∀ K : Act → World → Prop, (∀ a' w', Seq P l Q n (k + 1) a' w' → K a' w') → wpOp P l.toArray Q k K a w
/-- from m on each operation waits for all ahead of it -/
def chain (l : List Oper) (m : Nat) : Bool := (List.range l.length).all fun k => decide (k < m) || (match l[k]? with | some o => (List.range k).all fun i => o.after.any fun e => Region.binds .any e && e.on == i | none => true)
/-- the same, of which the operation just ahead is waited for, and it for all others -/
def chain1 (l : List Oper) (m : Nat) (ws : List (Nat × Nat × List Nat)) : Bool := (List.range l.length).all fun k => decide (k < m) || ((List.range k).all fun i => Stab.dep1 l k i || ws.any fun x => x.1 == k && x.2.1 == i && isPath l k x.2.2 i)
theorem chain_dep {m : Nat} {ws : List (Nat × Nat × List Nat)} (h : chain1 l m ws = true) {k i : Nat} (hk : m ≤ k) (hkl : k < l.length) (hi : i < k) : Dep l.toArray k i := by
  have h1 := List.all_eq_true.1 h k (by simpa using hkl)
  simp only [Bool.or_eq_true, decide_eq_true_eq, List.all_eq_true, List.mem_range, List.any_eq_true, Bool.and_eq_true, beq_iff_eq] at h1
  rcases h1 with h1 | h1
  · omega
  · rcases h1 i hi with h2 | ⟨x, _, ⟨h3, h4⟩, h5⟩
    · exact ⟨[], Stab.near_of h2⟩
    · exact Dep.of _ h5
theorem seq_any {m : Nat} (hlt : ∀ (k i : Nat), m ≤ k → k < l.length → i < k → Dep l.toArray k i) (hok : OkOps l.toArray a0.tmps.size) :
    ∀ (n j : Nat) (listed : Array Bool) (fuel : Nat) (a : Act) (w : World), n + j = l.length → m ≤ j → listed.size = l.length → listed.toList.countP (! ·) ≤ fuel →
      (∀ i, i < l.length → (listed.getD i false = true ↔ i < j)) → (∀ (i : Nat) (o : Oper), l[i]? = some o → listed.getD i false = true → ∀ e ∈ o.after, Region.binds .any e = true → listed.getD e.on false = true) →
      Seq P l Q n j a w → wpAny P .any l.toArray Q fuel listed a w
  | 0, j, listed, fuel, a, w, hn, hm, hls, hc, hli, hcl, hs => by
    have hr : Region.ready .any l.toArray listed = [] := by
      rw [List.eq_nil_iff_forall_not_mem]
      intro i hi
      obtain ⟨h0, o, ho, _⟩ := mem_ready.1 hi
      have hil : i < l.length := by have := (Array.getElem?_eq_some_iff.1 ho).1; simpa using this
      have := (hli i hil).2 (by omega)
      have hsz : i < listed.size := by omega
      have h1 : listed[i] = false := by simpa [hsz] using h0
      simp [hsz, h1] at this
    cases fuel with
    | zero => exact ⟨hr, hs⟩
    | succ fuel => exact ⟨fun _ => hs, (fun i hi => by rw [hr] at hi; cases hi)⟩
  | n + 1, j, listed, fuel, a, w, hn, hm, hls, hc, hli, hcl, hs => by
    have hjl : j < l.length := by omega
    have hjs : j < listed.size := by omega
    have hj0 : listed[j] = false := by
      cases hb : listed[j] with
      | false => rfl
      | true => have := (hli j hjl).1 (by simp [hjs, hb]); omega
    have hpos : 0 < listed.toList.countP (! ·) := by
      rw [List.countP_pos_iff]
      exact ⟨listed[j], by simp, by simp [hj0]⟩
    have hjr : j ∈ Region.ready .any l.toArray listed := by
      rw [mem_ready]
      refine ⟨by simp [hjs, hj0], l[j], by simp [hjl], fun e he hb => ?_⟩
      have hlt := hok.back j l[j] (by simp [hjl]) e he hb
      exact (hli e.on (by omega)).2 hlt
    cases fuel with
    | zero => omega
    | succ fuel =>
      refine ⟨(fun h => by rw [h] at hjr; cases hjr), fun i hi => ?_⟩
      obtain ⟨h0, o, ho, hdeps⟩ := mem_ready.1 hi
      have hil : i < l.length := by have := (Array.getElem?_eq_some_iff.1 ho).1; simpa using this
      have his : i < listed.size := by omega
      have hi0 : listed[i] = false := by simpa [his] using h0
      have hji : j ≤ i := by
        rcases Nat.lt_or_ge i j with h1 | h1
        · have := (hli i hil).2 h1; simp [his, hi0] at this
        · exact h1
      have hij : i = j := by
        rcases Nat.lt_or_ge j i with h1 | h1
        · have hd := hlt i j (by omega) hil h1
          obtain ⟨ks, hw⟩ := hd
          have hl : ∀ (ks : List Nat) (i' : Nat), Stab.Way l.toArray i' ks j → (listed.getD i' false = true ∨ i' = i) → listed.getD j false = true := by
            intro ks
            induction ks with
            | nil =>
              intro i' hw' hl'
              obtain ⟨o', e, ho', he, hb, hj'⟩ := hw'
              rw [← hj']
              rcases hl' with hl' | rfl
              · exact hcl i' o' (by simpa using ho') hl' e he hb
              · rw [ho] at ho'; injection ho' with ho'; subst ho'; exact hdeps e he hb
            | cons x ks ih =>
              intro i' hw' hl'
              refine ih x hw'.2 (.inl ?_)
              obtain ⟨o', e, ho', he, hb, hj'⟩ := hw'.1
              rw [← hj']
              rcases hl' with hl' | rfl
              · exact hcl i' o' (by simpa using ho') hl' e he hb
              · rw [ho] at ho'; injection ho' with ho'; subst ho'; exact hdeps e he hb
          have := hl ks i hw (.inr rfl)
          simp [hjs, hj0] at this
        · omega
      subst hij
      refine hs _ (fun a' w' hs' => seq_any hlt hok n (i + 1) (listed.setIfInBounds i true) fuel a' w' (by omega) (by omega) (by simpa using hls) ?_ (fun x hx => ?_) (fun x ox hx hlx e he hb => ?_) hs')
      · have hset : (listed.setIfInBounds i true).toList = listed.toList.set i true := by simp
        rw [hset, List.countP_set (by simpa using hjs)]
        simp only [Array.getElem_toList, hj0, Bool.not_false, Bool.not_true, if_true, Bool.false_eq_true, if_false, Nat.add_zero]
        omega
      · by_cases hxi : i = x
        · subst hxi
          exact ⟨fun _ => Nat.lt_succ_self _, fun _ => by simp [hjs]⟩
        · rw [getD_set_ne false hxi, hli x hx]
          omega
      · by_cases hxi : i = x
        · subst hxi
          have ho2 : l.toArray[i]? = some ox := by simpa using hx
          rw [ho] at ho2; injection ho2 with ho2; subst ho2
          exact getD_set_true (hdeps e he hb)
        · rw [getD_set_ne false hxi] at hlx
          exact getD_set_true (hcl x ox hx hlx e he hb)
/-- what holds as long as only operations ahead of m are listed -/
theorem pre_any {m : Nat} (hml : m < l.length) (hlt : ∀ (k i : Nat), m ≤ k → k < l.length → i < k → Dep l.toArray k i) (hok : OkOps l.toArray a0.tmps.size) (hlen : ps.length = m)
    (hst : ∀ i, Stab.Stable (Stab.look ps i)) (hg : ∀ i, i < m → Stab.Step P l.toArray Q a0 w0 ps i (Stab.look ps i))
    (hfin : ∀ a w, Here l.toArray a0 w0 a w → (∀ i, i < m → Got l.toArray ps i a w) → Seq P l Q (l.length - m) m a w) :
    ∀ (fuel : Nat) (listed : Array Bool) (a : Act) (w : World), listed.size = l.length → listed.toList.countP (! ·) ≤ fuel → (∀ i, m ≤ i → listed.getD i false = false) → Stab.Inv l.toArray a0 w0 ps listed a w →
      wpAny P .any l.toArray Q fuel listed a w := by
  intro fuel
  induction fuel with
  | zero =>
    intro listed a w hls hc hm hI
    exfalso
    have hpos : 0 < listed.toList.countP (! ·) := by
      rw [List.countP_pos_iff]
      have := hm m (Nat.le_refl _)
      have hms : m < listed.size := by omega
      refine ⟨listed[m], by simp, ?_⟩
      simp [hms] at this
      simp [this]
    omega
  | succ fuel ih =>
    intro listed a w hls hc hm hI
    have hms : m < listed.size := by omega
    have hm0 : listed[m] = false := by have := hm m (Nat.le_refl _); simpa [hms] using this
    -- if all ahead of m are listed
    by_cases hall : ∀ i, i < m → listed.getD i false = true
    · refine seq_any hlt hok (l.length - m) m listed (fuel + 1) a w (by omega) (Nat.le_refl _) hls hc (fun i hi => ⟨fun h => ?_, hall i⟩) (fun i o hi => hI.closed i o (by simpa using hi)) (hfin a w hI.here fun i hi => hI.got i (by simp; omega) (hall i hi))
      rcases Nat.lt_or_ge i m with h1 | h1
      · exact h1
      · rw [hm i h1] at h; cases h
    refine ⟨fun hr => ?_, fun i hi => ?_⟩
    · exfalso
      refine hall (fun i => ?_)
      induction i using Nat.strongRecOn with
      | _ i ihi =>
        intro him
        cases hl : listed.getD i false with
        | true => rfl
        | false =>
          exfalso
          have his : i < listed.size := by omega
          have hil : i < l.length := by omega
          have hmem : i ∈ Region.ready .any l.toArray listed := by
            rw [mem_ready]
            refine ⟨by simpa [his] using hl, l[i], by simp [hil], fun e he hb => ?_⟩
            have hlt := hok.back i l[i] (by simp [hil]) e he hb
            exact ihi e.on hlt (by omega)
          rw [hr] at hmem
          cases hmem
    · obtain ⟨h0, o, ho, hdeps⟩ := mem_ready.1 hi
      have hil : i < l.length := by have := (Array.getElem?_eq_some_iff.1 ho).1; simpa using this
      have hlt' : i < listed.size := by omega
      have h0' : listed[i] = false := by simpa [hlt'] using h0
      have him : i < m := by
        rcases Nat.lt_or_ge i m with h1 | h1
        · exact h1
        · exfalso
          exact hall fun x hx => Stab.dep_listed hI (hlt i x h1 hil (by omega)) (.inr hi)
      refine hg i him a w hI.here ⟨fun j hj hjp => ?_, fun t ht => ?_⟩ _ (fun o' ho' v w' hb hp => ?_)
      · exact hI.got j (by simp; omega) (Stab.dep_listed hI hj (.inr hi))
      · refine hI.keep t fun j oj hj hd => ?_
        have h9 : listed.getD i false = false := by simp [hlt', h0']
        rcases ht j oj hj hd with rfl | hdep
        · exact h9
        · cases hl : listed.getD j false with
          | false => rfl
          | true => rw [Stab.dep_listed hI hdep (.inl hl)] at h9; cases h9
      · rw [ho] at ho'
        injection ho' with ho'
        subst ho'
        refine ih _ _ _ (by simp [hls]) ?_ (fun x hx => by rw [getD_set_ne false (by omega)]; exact hm x hx) ⟨⟨hI.here.ext.trans (hb.mono hI.here.ext.size), (Stab.put_defers ..).trans hI.here.defers, (Stab.put_size ..).trans hI.here.size, fun t ht => (Stab.put_get_ne _ _ _ _ (ht i o ho)).trans (hI.here.old t ht)⟩, ?_, ?_, ?_⟩
        · have hset : (listed.setIfInBounds i true).toList = listed.toList.set i true := by simp
          have hpos : 0 < listed.toList.countP (! ·) := by
            rw [List.countP_pos_iff]
            exact ⟨listed[i], by simp, by simp [h0']⟩
          rw [hset, List.countP_set (by simpa using hlt')]
          simp only [Array.getElem_toList, h0', Bool.not_false, Bool.not_true, if_true, Bool.false_eq_true, if_false, Nat.add_zero]
          omega
        · intro k ok hk hl e he hb
          by_cases hki : i = k
          · subst hki
            rw [ho] at hk
            injection hk with hk
            subst hk
            exact getD_set_true (hdeps e he hb)
          · rw [getD_set_ne false hki] at hl
            exact getD_set_true (hI.closed k ok hk hl e he hb)
        · intro k hk hl
          by_cases hki : i = k
          · subst hki
            refine ⟨v, fun o'' d hk' hd => ?_, hp⟩
            rw [ho] at hk'
            injection hk' with hk'
            subst hk'
            rw [hd]
            exact Stab.put_get _ _ _ (by rw [hI.here.size]; exact hok.room i o d ho hd)
          · rw [getD_set_ne false hki] at hl
            obtain ⟨v', hv', hp'⟩ := hI.got k hk hl
            refine ⟨v', fun o'' d hk' hd => ?_, hst k _ _ _ hb hp'⟩
            rw [Stab.put_get_ne _ _ _ _ (fun he => hki (hok.apart i k o o'' d ho hk' he hd))]
            exact hv' o'' d hk' hd
        · intro t ht
          refine (Stab.put_get_ne _ _ _ _ (fun he => ?_)).trans (hI.keep t fun j oj hj hd => ?_)
          · have h9 := ht i o ho he
            simp [hlt'] at h9
          · have h9 := ht j oj hj hd
            by_cases hij : i = j
            · subst hij; simp [hlt'] at h9
            · rwa [getD_set_ne false hij] at h9
/-- the tail, closed against unfolding -/
structure TL (P : Program) (l : List Oper) (Q : Exit → Act → World → Prop) (k : Nat) (a : Act) (w : World) : Prop where
  out : Seq P l Q (l.length - k) k a w
theorem todo_tail {id n m : Nat} {ws : List (Nat × Nat × List Nat)} (hm : P.follows .mixedOrders = true) (hn : a0.tmps.size = n) (hok : OkOps l.toArray n) (hlen : ps.length = m) (hml : Nat.blt m l.length = true) (hch : chain1 l m ws = true)
    (hfin : ∀ a w, Here l.toArray a0 w0 a w → Hid (∀ i, i < m → Got l.toArray ps i a w) → TL P l Q m a w) : (Stab.Todo P id l.toArray Q a0 w0 ps) := by
  subst hn
  intro hg
  refine wp_region_any hm ?_
  refine pre_any (Nat.le_of_ble_eq_true hml) (fun k i h1 h2 h3 => chain_dep hch h1 h2 h3) hok hlen hg.1 (fun i hi => hg.2 i (by omega)) (fun a w hh hgot => (hfin a w hh hgot).out) _ _ _ _ (by simp) ?_ (fun i hi => ?_) ?_
  · exact Nat.le_trans List.countP_le_length (by simp)
  · by_cases h : i < l.length
    · simp [h]
    · simp [h]
  · refine ⟨⟨⟨rfl, rfl, rfl, Nat.le_refl _, fun _ _ => rfl⟩, rfl, rfl, fun _ _ => rfl⟩, fun i o ho hl => ?_, fun i hi hl => ?_, fun _ _ => rfl⟩
    · have hi := (Array.getElem?_eq_some_iff.1 ho).1
      simp at hi
      simp [hi] at hl
    · simp at hi
      simp [hi] at hl
theorem got_use {j m d k : Nat} {p : Pr} {o : Oper} {a : Act} {w : World} (hg : Hid (∀ i, i < k → Got l.toArray ps i a w)) (hk : ps.length = k) (hm : j + m + 1 = k)
    (hp : ps[m]? = some p) (ho : l[j]? = some o) (hdst : o.dst = some d) : ∃ v, a.tmps[d]? = some v ∧ p v w := by
  obtain ⟨v, hv, hl⟩ := hg.out j (by omega)
  refine ⟨v, hv o d (by simpa using ho) hdst, ?_⟩
  have : Stab.look ps j = p := Stab.look_rev ps j p (by rw [List.getElem?_reverse (by omega)]; rw [← hp]; congr 1; omega)
  rwa [this] at hl
theorem got_is (j m : Nat) {d k : Nat} {V : Value} {o : Oper} {a : Act} {w : World} (hg : Hid (∀ i, i < k → Got l.toArray ps i a w)) (hk : ps.length = k) (hm : j + m + 1 = k)
    (hp : ps[m]? = some (Stab.Is V)) (ho : l[j]? = some o) (hdst : o.dst = some d) : a.tmps[d]? = some V := by
  obtain ⟨v, hv, hl⟩ := got_use hg hk hm hp ho hdst
  rw [hv, show v = V from hl]
theorem old {m t : Nat} {x : Value} {a : Act} {w : World} (hg : Hid (∀ i, i < m → Got l.toArray ps i a w)) (hh : Here l.toArray a0 w0 a w) (hn : Stab.noDst l t = true) (hx : a0.tmps[t]? = some x) : a.tmps[t]? = some x := Stab.old_at hh hn hx
theorem seq_op {k : Nat} {o : Oper} {a : Act} {w : World} (ho : l[k]? = some o) (hg : o.guard = none) (h : ∀ K : Act → World → Prop, Hid (∀ a w, TL P l Q (k + 1) a w → K a w) → o.wp P a w K Q) : TL P l Q k a w := by
  have hkl := (List.getElem?_eq_some_iff.1 ho).1
  refine ⟨?_⟩
  obtain ⟨n, hn⟩ : ∃ n, l.length - k = n + 1 := ⟨l.length - k - 1, by omega⟩
  rw [hn]
  intro K hK
  exact Stab.op_plain (o := o) ho hg (h K (Lib.hid fun a w ht => hK a w (by have := ht.out; rwa [show l.length - (k + 1) = n by omega] at this)))
theorem seq_nil {k : Nat} {a : Act} {w : World} (hk : l.length = k) (h : Q .normal a w) : TL P l Q k a w := ⟨by rw [hk, Nat.sub_self]; exact h⟩
end
end Tail
end Go.Proofs.YtgjfhedgdbbinaaDoor
