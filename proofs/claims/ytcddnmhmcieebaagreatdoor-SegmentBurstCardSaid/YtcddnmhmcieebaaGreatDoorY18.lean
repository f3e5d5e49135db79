/- rows of states that a call makes; where the parser's parts end. -/
import Derived.Test.YtcddnmhmcieebaaGreatDoorY17
import Derived.Test.YtcddnmhmcieebaaGreatDoorTools
import Derived.Recover
import Derived.Tactics
import Derived.Tactics2
namespace Go.Proofs.YtcddnmhmcieebaaGreatDoor
open Go.RowKit
set_option linter.unusedSimpArgs false
set_option linter.unusedVariables false
set_option linter.unnecessarySimpa false
namespace Dw
def scs (l : List (Value × State)) : List Value := l.flatMap fun x => [x.1, .bool x.2.final, .int .u64 x.2.out]
theorem scs_get (l : List (Value × State)) (i j : Nat) (hi : i < l.length) (hj : j < 3) : (scs l)[i * 3 + j]? = ([(l[i]).1, .bool (l[i]).2.final, .int .u64 (l[i]).2.out] : List Value)[j]? := by
  induction l generalizing i with
  | nil => simp at hi
  | cons e l ih =>
    simp only [scs, List.flatMap_cons]
    cases i with
    | zero => rw [List.getElem?_append_left (by simp; omega)]; simp
    | succ i =>
      rw [List.getElem?_append_right (by simp; omega)]
      have := ih i (by simpa using hi)
      simp only [scs] at this
      simp only [List.getElem_cons_succ]
      rw [← this]; congr 1; simp; omega
theorem scs_append (a b : List (Value × State)) : scs (a ++ b) = scs a ++ scs b := by simp [scs]
/-- a row of states that the call owns; their arcs lie in blocks of B -/
structure SR (w : World) (base : Nat) (B : Nat → Prop) (v : Value) (l : List (Value × State)) : Prop where
  row : w.ownsRow base 46 3 v l.length (scs l)
  arcs : ∀ x ∈ l, RA w B x.1 x.2.arcs
section
variable {w w' : World} {base : Nat} {B S : Nat → Prop} {v : Value} {l : List (Value × State)}
theorem SR.but (h : SR w base B v l) (hb : But S w w') (hv : ∀ k, v.ownBlock = some k → ¬ S k) (hB : ∀ k, B k → ¬ S k) : SR w' base B v l := ⟨own_but h.row hb hv, fun x hx => (h.arcs x hx).but hb hB⟩
theorem SR.later (h : SR w base B v l) (hb : Below w.heap.size w w') : SR w' base B v l := h.but (But.of (fun _ => False) hb) (fun _ _ h => h) (fun _ _ h => h)
theorem SR.form (h : SR w base B v l) : ∃ (A : Option Addr) (c : Nat), v = .slice A l.length c ∧ l.length ≤ c := by
  obtain ⟨A, c, h1, h2⟩ := row_form h.row
  exact ⟨A, c, h1, h2⟩
theorem SR.cells (h : SR w base B v l) {i : Nat} {x : Value × State} (hi : l[i]? = some x) : ∃ g c, v = .slice (some ⟨g, 0, none⟩) l.length c ∧ base ≤ g ∧ SAt w B g (i * 3) x.1 x.2 := by
  have hlt := (List.getElem?_eq_some_iff.1 hi).1
  have hx := (List.getElem?_eq_some_iff.1 hi).2
  have h1 := h.row
  rcases h1.2 with ⟨_, h0⟩ | ⟨b, cap, cur, rfl, hb, hh, hc, _⟩
  · omega
  · have k : ∀ j, j < 3 → w.cell? ⟨b, i * 3 + j, none⟩ = ([x.1, .bool x.2.final, .int .u64 x.2.out] : List Value)[j]? := fun j hj => by
      rw [h1.cellAt (i * 3 + j) (by omega), scs_get l i j hlt hj, hx]
    exact ⟨b, cap, rfl, hb, ⟨k 0 (by omega), k 1 (by omega), k 2 (by omega), h.arcs x (List.mem_of_getElem? hi)⟩⟩
theorem SR.rs (h : SR w base B v l) : RS w v (l.map Prod.snd) := by
  obtain ⟨A, c, h1, h2⟩ := h.form
  refine ⟨A, c, by rw [List.length_map]; exact h1, by rw [List.length_map]; exact h2, fun h0 => ?_⟩
  rw [List.length_map] at h0
  obtain ⟨x0, hx0⟩ : ∃ x, l[0]? = some x := ⟨_, List.getElem?_eq_getElem h0⟩
  obtain ⟨g, c2, h3, _, _⟩ := h.cells hx0
  rw [h1] at h3
  injection h3 with h3
  refine ⟨g, 0, h3, fun i s hi => ?_⟩
  rw [List.getElem?_map] at hi
  obtain ⟨x, hx, rfl⟩ := Option.map_eq_some_iff.1 hi
  obtain ⟨g', c', h4, _, h5⟩ := h.cells hx
  rw [h1] at h4
  injection h4 with h4
  rw [h3] at h4
  injection h4 with h4
  injection h4 with h4
  subst h4
  rw [Nat.zero_add]
  exact ⟨x.1, ⟨h5.c0, h5.c1, h5.c2, h5.arcs.more (fun _ _ _ => trivial)⟩⟩
end
theorem SR.nil_ (w : World) (base : Nat) (B : Nat → Prop) : SR w base B (.slice none 0 0) [] := ⟨World.ownsRow_nil _ _ _ _, fun x hx => by cases hx⟩
theorem pMag_ok {s : ByteArray} {k i x j : Nat} (hi : i ≤ s.size) (h : pMag s k i = .ok (x, j)) : j = i + 1 ∧ j ≤ s.size ∧ (wl s)[i]? = some (magicAt k) := by
  unfold pMag stepN charN at h
  by_cases h2 : i = s.size
  · rw [if_pos h2] at h; simp at h
  · rw [if_neg h2] at h
    simp only [ne_eq, not_true_eq_false, if_false] at h
    split at h
    · cases h
    · rename_i h3
      injection h with h
      injection h with h4 h5
      unfold kindN at h3
      have h6 : at_ s i = magicAt k := by
        by_cases h7 : at_ s i = magicAt k
        · exact h7
        · rw [if_neg h7] at h3; simp at h3
      exact ⟨h5.symm, by omega, by rw [← h6]; exact wl_at (by omega)⟩
theorem pArcs_ok {s : ByteArray} {i : Nat} (hi9 : i ≤ 1000000000) : ∀ {k p : Nat} {acc l : List Arc} {j : Nat}, p ≤ s.size → pArcs s i k p acc = .ok (l, j) → p ≤ j ∧ j ≤ s.size ∧ l.length = acc.length + k ∧ ((∀ a ∈ acc, okA a ∧ 0 ≤ a.to ∧ a.to < (i : Int)) → ∀ a ∈ l, okA a ∧ 0 ≤ a.to ∧ a.to < (i : Int))
  | 0, p, acc, l, j, hp, h => by
    simp only [pArcs] at h
    injection h with h
    injection h with h1 h2
    subst h1; subst h2
    exact ⟨Nat.le_refl _, hp, rfl, id⟩
  | k + 1, p, acc, l, j, hp, h => by
    simp only [pArcs] at h
    split at h
    · cases h
    · rename_i c p1 hc
      have k1 := pChar_ok hp hc
      split at h
      · cases h
      · rename_i o p2 ho
        have k2 := pNum_ok ho
        split at h
        · cases h
        · rename_i d p3 hd
          have k3 := pNum_ok hd
          have ih := pArcs_ok hi9 k3.2.1 h
          refine ⟨by omega, ih.2.1, by rw [ih.2.2.1, List.length_append]; simp; omega, fun ha => ih.2.2.2 fun a hm => ?_⟩
          rcases List.mem_append.1 hm with hm | hm
          · exact ha a hm
          · simp at hm
            subst hm
            have k4 := k2.2.2.1
            unfold M64 at k4
            refine ⟨⟨k1.2.2.1, k4, ?_, ?_⟩, ?_, ?_⟩ <;> simp <;> omega
theorem pState_ok {s : ByteArray} {i p j : Nat} {st : State} (hi9 : i ≤ 1000000000) (h : pState s i p = .ok (st, j)) : p < j ∧ j ≤ s.size ∧ okS st ∧ st.arcs.length ≤ 256 ∧ (∀ a ∈ st.arcs, 0 ≤ a.to ∧ a.to < (i : Int)) ∧ (st.final = false → st.out = 0) := by
  unfold pState at h
  split at h
  · cases h
  · rename_i n p1 hn
    have k1 := pNum_ok hn
    split at h
    · cases h
    · rename_i o p2 ho
      have k2 : p1 ≤ p2 ∧ p2 ≤ s.size ∧ o < M64 ∧ (n % 2 ≠ 1 → o = 0) := by
        unfold pOut at ho
        split at ho
        · rename_i h1
          have := pNum_ok ho
          exact ⟨by omega, this.2.1, this.2.2.1, fun h => absurd h1 h⟩
        · injection ho with ho
          injection ho with h1 h2
          subst h1; subst h2
          exact ⟨Nat.le_refl _, k1.2.1, by unfold M64; omega, fun _ => rfl⟩
      cases hl : pArcs s i (n / 2) p2 [] with
      | error b => rw [hl] at h; cases h
      | ok x =>
        obtain ⟨l, p3⟩ := x
        rw [hl] at h
        simp only [pMk] at h
        injection h with h
        injection h with h1 h2
        subst h1; subst h2
        have k3 := pArcs_ok hi9 k2.2.1 hl
        have k4 := k3.2.2.2 (by simp)
        have k5 := k2.2.2.1
        have k6 := k3.2.2.1
        simp at k6
        unfold M64 at k5
        exact ⟨by omega, k3.2.1, ⟨k5, by simp; omega, fun a ha => (k4 a ha).1⟩, by simp; omega, fun a ha => (k4 a ha).2, fun hf => k2.2.2.2 (by simpa using hf)⟩
theorem RA.take {w : World} {B : Nat → Prop} {A : Option Addr} {n c : Nat} {l : List Arc} (h : RA w B (.slice A n c) l) (m : Nat) (hm : m ≤ n) : RA w B (.slice A m c) (l.take m) := by
  obtain ⟨A', c', h1, h2, h3⟩ := h
  injection h1 with h1 h4 h5
  subst h1; subst h5
  refine ⟨A, c, by rw [List.length_take, Nat.min_eq_left (by omega)], by rw [List.length_take]; omega, fun h0 => ?_⟩
  rw [List.length_take] at h0
  obtain ⟨b, off, h6, h7, h8⟩ := h3 (by omega)
  refine ⟨b, off, h6, h7, fun j u hu => h8 j u ?_⟩
  have hs : acs l = acs (l.take m) ++ acs (l.drop m) := by rw [← acs_append, List.take_append_drop]
  rw [hs, List.getElem?_append_left (List.getElem?_eq_some_iff.1 hu).1]
  exact hu
end Dw
end Go.Proofs.YtcddnmhmcieebaaGreatDoor

namespace Go.Proofs.YtcddnmhmcieebaaGreatDoor
open Go.RowKit
set_option linter.unusedSimpArgs false
set_option linter.unusedVariables false
set_option linter.unnecessarySimpa false
namespace Dw

/-- what the reading of all ends in -/
def AllR (w w1 : World) (e : Ending) (g : Nat) : Except Bad (Nat × Nat × List State) → Prop
  | .error b => PanG w w1 e g b
  | .ok (en, init, ss) => ∃ sv, e = .returned (.tuple #[.int .i64 en, .agg #[sv, .int .u64 init]]) ∧ (∀ w', But (fun k => k < w.heap.size) w1 w' → RS w' sv ss) ∧ But (fun k => k = g) w w1
theorem ret_tc {P : Program} {fn : Func} {R : Ending → World → Prop} {n p u g : Nat} {ty t : TypeId} {a : Act} {w : World} {x : Value} {cs : Array Value} {fr : Nat × Nat} {d : TypeDesc} (h : fn.results = #[.tmp u, .cell p ty]) (hf : Fact.Fr n a)
    (su : a.tmps[u]? = some x) (sp : a.tmps[p]? = some (.pointer (some ⟨g, 0, none⟩))) (hg : w.heap[g]? = some (.cells cs t fr)) (hu : P.underlying ty = some d) (hd : (match d with | .struct _ | .array _ _ => true | _ => false) = true)
    (hi : (P.info? ty).map (·.size) = some cs.size) (hR : R (.returned (.tuple #[x, .agg cs])) w) : bodyPost P fn R .ret a w := by
  refine bodyPost_ret (v := .tuple #[x, .agg cs]) ?_ hf.defers hR
  have hp' : a.tmps[p]?.getD undef = .pointer (some ⟨g, 0, none⟩) := by simp [sp]
  simp [results, h, Sem.run_bind, hp', asAddr, run_loadVar_row w g t ty cs fr d hg hu hd hi, Result.andThen, su]
theorem info_state : (Tryz.prog.info? 46).map (fun i => (i.zero, i.size, i.bytes)) = some (some (.agg #[.slice none 0 0, .bool false, .int .u64 0]), 3, 40) := by kernel_rfl
def Q4 (g : Nat) (s : ByteArray) (j : Nat) (st : State) (N : Nat) : Stab.Pr := fun x wz => ∃ A4 c4 B4, x = .agg #[.slice A4 st.arcs.length c4, .bool st.final, .int .u64 st.out] ∧ RD wz g s j ∧ OA wz B4 (.slice A4 st.arcs.length c4) st.arcs ∧ N ≤ B4
theorem Q4.stable (g : Nat) (s : ByteArray) (j : Nat) (st : State) (N : Nat) : Stab.Stable (Q4 g s j st N) := fun v w w' hb ⟨A, c, B, h1, h2, h3, h4⟩ => ⟨A, c, B, h1, h2.later hb, own_later h3 hb, h4⟩
def Q5 (g : Nat) (s : ByteArray) (j : Nat) (st : State) (N : Nat) : Stab.Pr := fun x wz => ∃ A4 c4 B4, PLit [.slice A4 st.arcs.length c4, .bool st.final, .int .u64 st.out] x wz ∧ RD wz g s j ∧ OA wz B4 (.slice A4 st.arcs.length c4) st.arcs ∧ N ≤ B4
theorem Q5.stable (g : Nat) (s : ByteArray) (j : Nat) (st : State) (N : Nat) : Stab.Stable (Q5 g s j st N) := fun v w w' hb ⟨A, c, B, h1, h2, h3, h4⟩ => ⟨A, c, B, PLit.stable _ v w w' hb h1, h2.later hb, own_later h3 hb, h4⟩
def Q6 (base g : Nat) (s : ByteArray) (j : Nat) (l : List (Value × State)) (st : State) : Stab.Pr := fun v wz => ∃ (y : Value × State) (C : Nat → Prop), SR wz base C v (l ++ [y]) ∧ y.2 = st ∧ RD wz g s j ∧ v.ownBlock ≠ some base ∧ ∀ k, C k → base < k ∧ k < wz.heap.size ∧ v.ownBlock ≠ some k
theorem Q6.stable (base g : Nat) (s : ByteArray) (j : Nat) (l : List (Value × State)) (st : State) : Stab.Stable (Q6 base g s j l st) := fun v w w' hb ⟨y, C, h1, h2, h3, h4, h5⟩ => ⟨y, C, h1.later hb, h2, h3.later hb, h4, fun k hk => ⟨(h5 k hk).1, Nat.lt_of_lt_of_le (h5 k hk).2.1 hb.size, (h5 k hk).2.2⟩⟩
theorem Q6.mk {w1 w3 : World} {base g j N B4 : Nat} {s : ByteArray} {C : Nat → Prop} {sv v3 : Value} {A4 : Option Addr} {c4 : Nat} {l : List (Value × State)} {st : State} (hsr : SR w1 base C sv l) (hsv : sv.ownBlock ≠ some base) (hC : ∀ k, C k → base < k ∧ k < N ∧ sv.ownBlock ≠ some k) (hN : N ≤ w1.heap.size) (hBN : base < N) (hr : RD w1 g s j) (hgs : sv.ownBlock ≠ some g) (hoa : OA w1 B4 (.slice A4 st.arcs.length c4) st.arcs) (hB4 : N ≤ B4) (hsvN : ∀ k, sv.ownBlock = some k → k < N) (hg3 : w1.grownBy w3 sv.ownBlock) (hr3 : w3.ownsRow base 46 3 v3 (l.length + 1) (scs l ++ [.slice A4 st.arcs.length c4, .bool st.final, .int .u64 st.out])) (hat3 : v3.ownBlock = sv.ownBlock ∨ v3.ownBlock = some w1.heap.size) : Q6 base g s j l st v3 w3 := by
  have hbg : But (fun k => sv.ownBlock = some k) w1 w3 := But.grown hg3 (fun k hk => hk)
  have hsz := hbg.size
  refine ⟨(.slice A4 st.arcs.length c4, st), fun k => C k ∨ (.slice A4 st.arcs.length c4 : Value).ownBlock = some k, ⟨?_, fun x hx => ?_⟩, rfl, hbg.heap hr hgs, ?_, fun k hk => ?_⟩
  · rw [List.length_append, scs_append]; exact hr3
  · rcases List.mem_append.1 hx with hx | hx
    · exact ((hsr.arcs x hx).but hbg (fun k hk h => (hC k hk).2.2 h)).more (fun k _ hk => .inl hk)
    · simp at hx
      subst hx
      exact ((hoa.ra (B := fun k => (.slice A4 st.arcs.length c4 : Value).ownBlock = some k) (fun k hk => hk)).but hbg (fun k hk h => by have h1 := (World.ownsRow.lt hoa k hk).1; have h2 := hsvN k h; omega)).more (fun k _ hk => .inr hk)
  · rcases hat3 with e | e
    · rw [e]; exact hsv
    · rw [e]; intro e2; injection e2 with e2; omega
  · rcases hk with hk | hk
    · have h1 := hC k hk
      refine ⟨h1.1, by omega, ?_⟩
      rcases hat3 with e | e
      · rw [e]; exact h1.2.2
      · rw [e]; intro e2; injection e2 with e2; omega
    · have h1 := World.ownsRow.lt hoa k hk
      refine ⟨by omega, by omega, ?_⟩
      rcases hat3 with e | e
      · rw [e]; intro e2; have := hsvN k e2; omega
      · rw [e]; intro e2; injection e2 with e2; omega
def Q8 (base g : Nat) (s : ByteArray) (j : Nat) (l : List (Value × State)) (st : State) (wz : World) : Prop := ∃ (v : Value) (y : Value × State) (C : Nat → Prop), wz.heap[base]? = some (.cells #[v, .int .u64 0] 38 (0, 0)) ∧ SR wz base C v (l ++ [y]) ∧ y.2 = st ∧ RD wz g s j ∧ v.ownBlock ≠ some base ∧ ∀ k, C k → base < k ∧ k < wz.heap.size ∧ v.ownBlock ≠ some k
theorem Q8.later {base g j : Nat} {s : ByteArray} {l : List (Value × State)} {st : State} {w w' : World} (hb : Below w.heap.size w w') (h : Q8 base g s j l st w) : Q8 base g s j l st w' := by
  obtain ⟨v, y, C, h0, h1, h2, h3, h4, h5⟩ := h
  exact ⟨v, y, C, (hb.block _ (heap_lt h0)).trans h0, h1.later hb, h2, h3.later hb, h4, fun k hk => ⟨(h5 k hk).1, Nat.lt_of_lt_of_le (h5 k hk).2.1 hb.size, (h5 k hk).2.2⟩⟩
theorem Q8.mk {w1 : World} {base g j : Nat} {s : ByteArray} {l : List (Value × State)} {st : State} {v0 v : Value} {y : Value × State} {C : Nat → Prop} (h0 : w1.heap[base]? = some (.cells #[v0, .int .u64 0] 38 (0, 0))) (hgb : g < base) (h1 : SR w1 base C v (l ++ [y])) (h2 : y.2 = st) (h3 : RD w1 g s j) (h4 : v.ownBlock ≠ some base) (h5 : ∀ k, C k → base < k ∧ k < w1.heap.size ∧ v.ownBlock ≠ some k) : Q8 base g s j l st (w1.setCell ⟨base, 0, none⟩ v) := by
  have hb : But (fun k => k = base) w1 (w1.setCell ⟨base, 0, none⟩ v) := But.setCell (S := fun k => k = base) rfl _
  exact ⟨v, y, C, (set_block (i := 0) h0 v).trans (by simp), h1.but hb (fun k hk e => h4 (by rw [hk, e])) (fun k hk e => by have := (h5 k hk).1; omega), h2, hb.heap h3 (by intro e; omega), h4, fun k hk => ⟨(h5 k hk).1, Nat.lt_of_lt_of_le (h5 k hk).2.1 hb.size, (h5 k hk).2.2⟩⟩
set_option maxHeartbeats 4000000 in
set_option maxRecDepth 100000 in
theorem all34 (w : World) (g : Nat) (s : ByteArray) (hr : RD w g s 0) (hsz : s.size ≤ 1000000000) : Calls Tryz.prog 33 #[.pointer (some ⟨g, 0, none⟩)] w fun e w1 => AllR w w1 e g (pAll s) := by
 refine Zn1 52 Tryz.func33 fun fr hf s0 => ?_
 obtain ⟨r, hps⟩ : ∃ r, pAll s = r := ⟨_, rfl⟩
 rw [hps]
 have HPS := Lib.hid hps; clear hps
 have hgl := heap_lt hr
 refine Ze fun _ hK1 => ?_
 refine Zr [] hf ?_
 refine Zq2 0 3 hf ?_
 clear hf s0; intro fr1 hf sS
 obtain ⟨W0, hW0⟩ : ∃ x, w.alloc (.cells #[.slice none 0 0, .int .u64 0] 38) = x := ⟨_, rfl⟩
 try rw [hW0]
 have hbz0 : Below w.heap.size w W0 := by rw [← hW0]; exact (Below.refl _ _).alloc (Nat.le_refl _) _
 have hx0 : W0.heap[w.heap.size]? = some (.cells #[.slice none 0 0, .int .u64 0] 38 (0, 0)) := by rw [← hW0]; exact heap_alloc_new w _
 clear hW0
 have hr0 := hr.later hbz0
 have hbt0 : But (fun k => k = g ∨ w.heap.size ≤ k) w W0 := But.of _ hbz0
 clear hr hbz0
 refine Zs hK1 fun _ hK2 => ?_
 refine Ze fun _ hK3 => ?_
 refine Zr [] hf ?_
 refine Zq3 0 3 7 hf ?_
 clear hf sS; intro fr1 hf sS
 refine Zx hK3 ?_
 refine wp_block ?_
 refine wp_loop_ghost (fun gk fr wr => ∃ (k : Nat), gk = 3 - k ∧ k ≤ 3 ∧ Fact.Fr 52 fr ∧ fr.tmps[0]? = some (.pointer (some ⟨g, 0, none⟩)) ∧ fr.tmps[3]? = some (.pointer (some ⟨w.heap.size, 0, none⟩)) ∧ fr.tmps[7]? = some (.int .i64 k) ∧ pMagic s 3 0 0 = pMagic s (3 - k) k k ∧ RD wr g s k ∧ k ≤ s.size ∧ wr.heap[w.heap.size]? = some (.cells #[.slice none 0 0, .int .u64 0] 38 (0, 0)) ∧ But (fun k => k = g ∨ w.heap.size ≤ k) w wr) (3) ?_ ?_
 · (
 obtain ⟨s0, s3, s7⟩ := sS
 exact ⟨0, rfl, Nat.zero_le _, hf, s0, s3, s7, rfl, hr0, Nat.zero_le _, hx0, hbt0⟩)
 · (
 clear hf sS
 rintro gk fr wr ⟨k, hk, hki, hf, s0, s3, s7, hpa, hr5, hp5, hx5, hbt5⟩
 have HK := Lib.hid hk; have HPA := Lib.hid hpa; clear hk hpa
 refine Ze fun _ hK4 => ?_
 refine Zr [] hf ?_
 refine Zq4 0 3 7 8 hf ?_
 clear hf s0 s3 s7; intro fr1 hf sS
 refine Zs hK4 fun _ hK5 => ?_
 refine Fact.cond_s sS.2.2.2 (fun hq => ?_) (fun hq => ?_)
 · (
 have hklt : k < 3 := by have h9 := of_decide_eq_true hq; omega
 clear hq
 obtain ⟨u, hu⟩ : ∃ u, 3 - k = u + 1 := ⟨3 - k - 1, by omega⟩
 have HU := Lib.hid hu; clear hu
 refine wp_skip ?_
 refine Zs hK5 fun _ hK6 => ?_
 refine wp_block ?_
 refine Ze fun _ hK7 => ?_
 refine Zr [9, 4] hf ?_
 refine Zq4 0 3 4 7 hf ?_
 clear hf sS; intro fr1 hf sS
 obtain ⟨W6, hW6⟩ : ∃ x, wr.alloc (.cells #[.int .i64 k] 3) = x := ⟨_, rfl⟩
 try rw [hW6]
 obtain ⟨hb6, c6, -, -⟩ := box1 hW6
 clear hW6
 have hr6 := hr5.later hb6
 have hx6 := (hb6.block _ (heap_lt hx5)).trans hx5
 have hbt6 : But (fun k => k = g ∨ w.heap.size ≤ k) w W6 := hbt5.trans (But.of _ hb6)
 refine Zx hK7 ?_
 rcases hpz : pMag s k k with bz | ⟨xm, j1⟩
 · (
 have HPZ := Lib.hid hpz; clear hpz
 have he : r = .error bz := by rw [← HPS.out]; unfold pAll; rw [HPA.out, HU.out]; simp only [pMagic, HPZ.out]
 subst he
 refine rg ?_
 have bB := hf.B2 10 11
 iterate 2 refine Za ?_
 refine fp fun K Z => ?_
 go_simp
 go_at_call 57; refine (mag49 W6 g s k hr6 hp5 hsz k wr.heap.size hklt c6).mono ?_; rintro e wz hres
 rw [HPZ.out] at hres
 obtain ⟨q, rfl, hz2, hz3, hz4⟩ := hres
 try dsimp only
 try dsimp only
 exact pan9 hf.defers (PanG.via hbt6 ⟨q, rfl, hz2, hz3, hz4⟩))
 · (
 have HP1 := Lib.hid hpz; clear hpz
 refine rg ?_
 have bB := hf.B2 10 11
 iterate 2 refine Za ?_
 refine fp fun K Z => ?_
 go_simp
 go_at_call 57; refine (mag49 W6 g s k hr6 hp5 hsz k wr.heap.size hklt c6).mono ?_; rintro e w7 hres
 rw [HP1.out] at hres
 obtain ⟨rfl, hr7, hb7⟩ := hres
 have hx7 := hb7.heap hx6 (by intro e; have e : w.heap.size = g := e; omega)
 have hbt7 : But (fun k => k = g ∨ w.heap.size ≤ k) w w7 := hbt6.trans (hb7.mono (fun k _ h => .inl h))
 clear hb7 hx6 hbt6 hr6
 try dsimp only
 apply Z.out; clear Z K
 refine Fact.nil (Zq3 0 3 7 hf ?_)
 clear hf sS bB; intro fr1 hf sS
 obtain ⟨hj, hjs, _⟩ := pMag_ok hp5 HP1.out
 have hpa2 : pMagic s 3 0 0 = pMagic s (3 - (k + 1)) (k + 1) (k + 1) := by rw [HPA.out, HU.out, show 3 - (k + 1) = u by have := HU.out; omega]; simp only [pMagic, HP1.out]; rw [hj]
 rw [hj] at hr7 hjs
 refine Fact.block_normal ?_
 refine Zx hK6 ?_
 refine Zr [13] hf ?_
 refine Zq3 0 3 7 hf ?_
 clear hf sS; intro fr1 hf sS
 refine Fact.then_normal ?_
 obtain ⟨s0, s3, s7⟩ := sS
 exact ⟨_, by have := HK.out; omega, k + 1, rfl, by omega, hf, s0, s3, by rw [s7]; rfl, hpa2, hr7, hjs, hx7, hbt7⟩))
 · (
 have hke : k = 3 := by have h9 := of_decide_eq_false hq; omega
 subst hke
 have hpm : pMagic s 3 0 0 = .ok 3 := HPA.out
 have HPM := Lib.hid hpm; clear hpm hq
 refine Zo ?_
 refine Zx hK2 ?_
 rcases hpz : pNum s 0 100000 3 with bz | ⟨en, p1⟩
 · (
 have HPZ := Lib.hid hpz; clear hpz
 have he : r = .error bz := by rw [← HPS.out]; unfold pAll; simp only [HPM.out, HPZ.out]
 subst he
 refine Ze fun _ hK8 => rg ?_
 have bB := hf.B3 14 15 16
 refine Za ?_
 refine fp fun K Z => ?_
 go_simp
 go_at_call 59; refine (num51' wr g s 3 hr5 hp5 hsz 0 100000).mono ?_; rintro e wz hres
 rw [HPZ.out] at hres
 obtain ⟨q, rfl, hz2, hz3, hz4⟩ := hres
 try dsimp only
 try dsimp only
 exact pan9 hf.defers (PanG.via hbt5 ⟨q, rfl, hz2, hz3, hz4⟩))
 · (
 have HP2 := Lib.hid hpz; clear hpz
 have hk8 := pNum_ok HP2.out
 have hen : en ≤ 100000 := hk8.2.2.2.2.1
 refine Ze fun _ hK9 => rg ?_
 have bB := hf.B3 14 15 16
 refine Za ?_
 refine fp fun K Z => ?_
 go_simp
 go_at_call 59; refine (num51' wr g s 3 hr5 hp5 hsz 0 100000).mono ?_; rintro e w8 hres
 rw [HP2.out] at hres
 obtain ⟨rfl, hr8, hb8⟩ := hres
 have hx8 := hb8.heap hx5 (by intro e; have e : w.heap.size = g := e; omega)
 have hbt8 : But (fun k => k = g ∨ w.heap.size ≤ k) w w8 := hbt5.trans (hb8.mono (fun k _ h => .inl h))
 clear hb8 hx5 hbt5 hr5
 try dsimp only
 apply Z.out; clear Z K
 refine fp fun K Z => ?_
 go_simp
 try rw [Fact.wrap_i64 (by omega) (by omega)]
 apply Z.out; clear Z K
 refine Za ?_
 refine Fact.nil (Zq3 0 2 3 hf ?_)
 clear hf sS bB; intro fr1 hf sS
 refine Zx hK9 ?_
 rcases hpz : pNum s 1 18446744073709551615 p1 with bz | ⟨n, p2⟩
 · (
 have HPZ := Lib.hid hpz; clear hpz
 have he : r = .error bz := by rw [← HPS.out]; unfold pAll; simp only [HPM.out, HP2.out, HPZ.out]
 subst he
 refine Ze fun _ hK10 => ?_
 refine Ze fun _ hK11 => rg ?_
 have bB := hf.B2 17 18
 refine Za ?_
 refine fp fun K Z => ?_
 go_simp
 go_at_call 59; refine (num51' w8 g s p1 hr8 hk8.2.1 hsz 1 18446744073709551615).mono ?_; rintro e wz hres
 rw [HPZ.out] at hres
 obtain ⟨q, rfl, hz2, hz3, hz4⟩ := hres
 try dsimp only
 try dsimp only
 exact pan9 hf.defers (PanG.via hbt8 ⟨q, rfl, hz2, hz3, hz4⟩))
 · (
 have HP3 := Lib.hid hpz; clear hpz
 have hk9 := pNum_ok HP3.out
 have hn64 := hk9.2.2.1
 unfold M64 at hn64
 refine Ze fun _ hK12 => ?_
 refine Ze fun _ hK13 => rg ?_
 have bB := hf.B2 17 18
 refine Za ?_
 refine fp fun K Z => ?_
 go_simp
 go_at_call 59; refine (num51' w8 g s p1 hr8 hk8.2.1 hsz 1 18446744073709551615).mono ?_; rintro e w9 hres
 rw [HP3.out] at hres
 obtain ⟨rfl, hr9, hb9⟩ := hres
 have hx9 := hb9.heap hx8 (by intro e; have e : w.heap.size = g := e; omega)
 have hbt9 : But (fun k => k = g ∨ w.heap.size ≤ k) w w9 := hbt8.trans (hb9.mono (fun k _ h => .inl h))
 clear hb9 hx8 hbt8 hr8
 try dsimp only
 apply Z.out; clear Z K
 iterate 2 refine Za ?_
 refine Fact.nil (Zq5 0 2 3 5 6 hf ?_)
 clear hf sS bB; intro fr1 hf sS
 refine Zx hK13 ?_
 refine wp_block ?_
 refine wp_loop_ghost (fun gk fr wr => ∃ (i pk : Nat) (sv : Value) (l : List (Value × State)) (C : Nat → Prop), gk = n - i ∧ i ≤ n ∧ Fact.Fr 52 fr ∧ fr.tmps[0]? = some (.pointer (some ⟨g, 0, none⟩)) ∧ fr.tmps[3]? = some (.pointer (some ⟨w.heap.size, 0, none⟩)) ∧ fr.tmps[2]? = some (.int .i64 en) ∧ fr.tmps[5]? = some (.int .u64 i) ∧ fr.tmps[6]? = some (.int .u64 n) ∧ pStates s n 0 p2 [] = pStates s (n - i) i pk (l.map Prod.snd) ∧ RD wr g s pk ∧ pk ≤ s.size ∧ i ≤ pk ∧ l.length = i ∧ wr.heap[w.heap.size]? = some (.cells #[sv, .int .u64 0] 38 (0, 0)) ∧ SR wr w.heap.size C sv l ∧ sv.ownBlock ≠ some w.heap.size ∧ (∀ k, C k → w.heap.size < k ∧ k < wr.heap.size ∧ sv.ownBlock ≠ some k) ∧ But (fun k => k = g ∨ w.heap.size ≤ k) w wr) (n) ?_ ?_
 · (
 obtain ⟨s0, s2, s3, s5, s6⟩ := sS
 exact ⟨0, p2, _, [], fun _ => False, rfl, Nat.zero_le _, hf, s0, s3, s2, s5, s6, rfl, hr9, hk9.2.1, Nat.zero_le _, rfl, hx9, SR.nil_ _ _ _, (by intro e; cases e), (fun k h => h.elim), hbt9⟩)
 · (
 clear hf sS
 rintro gk fr wr ⟨i, pk, sv, l, C, hk, hki, hf, s0, s3, s2, s5, s6, hpa, hr5, hp5, hip, hli, hx5, hsr, hsv, hC, hbt5⟩
 have HK := Lib.hid hk; have HPA := Lib.hid hpa; have HLI := Lib.hid hli; clear hk hpa hli
 refine Ze fun _ hK14 => ?_
 refine Ze fun _ hK15 => ?_
 refine Zr [19, 20] hf ?_
 refine Zq6 0 2 3 5 6 21 hf ?_
 clear hf s0 s2 s3 s5 s6; intro fr1 hf sS
 refine Zx hK15 ?_
 refine Fact.cond_s sS.2.2.2.2.2 (fun hq => ?_) (fun hq => ?_)
 · (
 have hklt : i < n := by have h9 := of_decide_eq_true hq; omega
 clear hq
 obtain ⟨u, hu⟩ : ∃ u, n - i = u + 1 := ⟨n - i - 1, by omega⟩
 have HU := Lib.hid hu; clear hu
 have e0 : wr.cell? ⟨w.heap.size, 0, none⟩ = some sv := by rw [cell_of_row _ _ 0 _ _ (0, 0) hx5]; rfl
 obtain ⟨A, cc, hsv2, _⟩ := hsr.form
 have HSV2 := Lib.hid hsv2; clear hsv2
 rcases hpz : pState s i pk with bz | ⟨st, j⟩
 · (
 have HPZ := Lib.hid hpz; clear hpz
 have he : r = .error bz := by rw [← HPS.out]; unfold pAll; simp only [HPM.out, HP2.out, HP3.out]; rw [HPA.out, HU.out]; simp only [pStates, HPZ.out]
 subst he
 refine wp_skip ?_
 refine Zs hK14 fun _ hK16 => ?_
 refine wp_block ?_
 obtain ⟨s0, s2, s3, s5, s6, s21⟩ := sS
 refine Stab.tb 52 fun hok => ?_
 refine Stab.T 0 hf hok (fun _ _ h d => Stab.O h s3) ?_
 refine Stab.T 1 hf hok (fun _ _ h d => ad (Stab.vd 0 0 d []) (cL h.ext e0)) ?_
 refine Stab.mO 2 s0 hf hok ?_
 refine Stab.mO 3 s5 hf hok ?_
 refine Stab.todo_op (k := 4) (n := 52) (fun _ _ => False) hf.size hok.out rfl (fun _ _ _ _ h => h) ?_ ?_
 · (
 intro fr1 w1 hh hd hk K Z
 refine Stab.pl ?_
 have s26 := Stab.v 2 1 hd hk []
 have s27 := Stab.v 3 0 hd hk []
 clear hd
 replace e0 := cL hh.ext e0
 go_simp
 go_at_call 60; refine (state52 w1 g s pk (hr5.later hh.ext) hp5 hsz i (by omega)).mono ?_; rintro e w2 hres
 rw [HPZ.out] at hres
 obtain ⟨q, rfl, hz2, hz3, hz4⟩ := hres
 try dsimp only
 exact pan9 (hh.defers.trans hf.defers) (PanG.via (hbt5.trans (But.of _ hh.ext)) ⟨q, rfl, hz2, hz3, hz4⟩))
 refine Stab.todo_op (k := 5) (n := 52) Stab.Any hf.size hok.out rfl Stab.Stable.any ?_ ?_
 · (
 intro fr1 w1 hh hd hk K Z
 obtain ⟨_, hpz⟩ := Stab.use_fact (j := 4) (m := 0) hd hk rfl [] (by kernel_rfl) rfl
 exact hpz.elim)
 refine Stab.todo_op (k := 6) (n := 52) Stab.Any hf.size hok.out rfl Stab.Stable.any ?_ ?_
 · (
 intro fr1 w1 hh hd hk K Z
 obtain ⟨_, hpz⟩ := Stab.use_fact (j := 4) (m := 1) hd hk rfl [] (by kernel_rfl) rfl
 exact hpz.elim)
 refine Stab.todo_op (k := 7) (n := 52) Stab.Any hf.size hok.out rfl Stab.Stable.any ?_ ?_
 · (
 intro fr1 w1 hh hd hk K Z
 obtain ⟨_, hpz⟩ := Stab.use_fact (j := 4) (m := 2) hd hk rfl [] (by kernel_rfl) rfl
 exact hpz.elim)
 refine Stab.todo_op (k := 8) (n := 52) Stab.Any hf.size hok.out rfl Stab.Stable.any ?_ ?_
 · (
 intro fr1 w1 hh hd hk K Z
 obtain ⟨_, hpz⟩ := Stab.use_fact (j := 4) (m := 3) hd hk rfl [] (by kernel_rfl) rfl
 exact hpz.elim)
 refine Stab.tf hf hok fun fr1 w1 hh hg => ?_
 obtain ⟨_, hpz⟩ := Stab.end_fact (j := 4) (m := 4) hg rfl (by decide) rfl
 exact hpz.elim)
 · (
 have HP4 := Lib.hid hpz; clear hpz
 have hk4 := pState_ok (by omega : i ≤ 1000000000) HP4.out
 have hB5 := heap_lt hx5
 have hsvN : ∀ k, sv.ownBlock = some k → w.heap.size ≤ k ∧ k < wr.heap.size := fun k hk => World.ownsRow.lt hsr.row k hk
 refine wp_skip ?_
 refine Zs hK14 fun _ hK17 => ?_
 refine wp_block ?_
 obtain ⟨s0, s2, s3, s5, s6, s21⟩ := sS
 refine Stam.todo_begin (n := 52) (fun m k => (m = 4 ∧ k = g) ∨ (m = 6 ∧ sv.ownBlock = some k) ∨ (m = 8 ∧ k = w.heap.size)) [4, 6, 8] (Stab.OkOps.of (by kernel_rfl)) (fun hok => ?_)
 apply Stam.tq 0 _ hf hok
 · (
 intro fr1 w1 hh hd hk K Z
 refine Stab.pl ?_
 have s3 := Stam.o hh (by kernel_rfl) s3
 have hbt := Stam.but_at hh [4] [(6, [1]), (8, [])] (by kernel_rfl)
 clear hd hh
 go_simp
 exact Stab.k Z)
 apply Stam.tq 1 _ hf hok
 · (
 intro fr1 w1 hh hd hk K Z
 refine Stab.pl ?_
 have s24 := Stam.v 0 0 hd hk []
 have hbt := Stam.but_at hh [4] [(6, []), (8, [])] (by kernel_rfl)
 clear hd hh
 have h4 := (hbt (fun k => k = g) (fun m hm b h => by simp at hm; subst hm; rcases h with h | h | h; exact h.2; (have := h.1; omega); (have := h.1; omega)))
 have e1 := h4.cell e0 (by intro e; have e : w.heap.size = g := e; omega)
 clear h4 hbt
 go_simp
 exact Stab.k Z)
 refine Stam.mvO (k := 2) s0 hf.size hok.out rfl (by kernel_rfl) rfl rfl (.inl rfl) (by kernel_rfl) ?_
 refine Stam.mvO (k := 3) s5 hf.size hok.out rfl (by kernel_rfl) rfl rfl (.inl rfl) (by kernel_rfl) ?_
 refine Stam.todo_sp (k := 4) (n := 52) (Q4 g s j st wr.heap.size) hf.size hok.out rfl (Q4.stable _ _ _ _ _) (by kernel_rfl) ?_ ?_
 · (
 intro fr1 w1 hh hd hk K Z
 refine Stab.pl ?_
 have s26 := Stam.v 2 1 hd hk []
 have s27 := Stam.v 3 0 hd hk []
 have hxe := Stam.ext_at hh [(6, []), (8, [])] (by kernel_rfl)
 have hbt := Stam.but_at hh [] [(6, []), (8, [])] (by kernel_rfl)
 clear hd hh
 go_simp
 go_at_call 60; refine (state52 w1 g s pk (hr5.later hxe) hp5 hsz i (by omega)).mono ?_; rintro e w2 hres
 rw [HP4.out] at hres
 obtain ⟨av, rfl, hr4, hoa4, hb4⟩ := hres
 obtain ⟨A4, c4, hv4, _⟩ := row_form hoa4
 subst hv4
 exact Z.out _ rfl _ _ (hb4.mono (fun k _ h => .inl ⟨rfl, h⟩)) ⟨_, _, _, rfl, hr4, hoa4, hxe.size⟩)
 refine Stam.todo_op (k := 5) (n := 52) (Q5 g s j st wr.heap.size) hf.size hok.out rfl (Q5.stable _ _ _ _ _) (by kernel_rfl) ?_ ?_
 · (
 intro fr1 w1 hh hd hk K Z
 refine Stab.pl ?_
 obtain ⟨x28, s28, hp28⟩ := Stam.use (j := 4) (m := 0) hd hk rfl [] (by kernel_rfl) [(6, true, []), (8, true, [])] (by kernel_rfl) rfl rfl rfl
 obtain ⟨A4, c4, B4, rfl, hr28, hoa28, hB28⟩ := hp28
 have hbt := Stam.but_at hh [4] [(6, []), (8, [])] (by kernel_rfl)
 clear hd hh
 go_simp
 exact Z.out _ rfl _ _ ((Below.refl _ _).alloc (Nat.le_refl _) _) ⟨A4, c4, B4, ⟨_, rfl, lit_new _ _ _⟩, hr28.later ((Below.refl _ _).alloc (Nat.le_refl _) _), own_later hoa28 ((Below.refl _ _).alloc (Nat.le_refl _) _), hB28⟩)
 refine Stam.todo_sp (k := 6) (n := 52) (Q6 w.heap.size g s j l st) hf.size hok.out rfl (Q6.stable _ _ _ _ _ _) (by kernel_rfl) ?_ ?_
 · (
 intro fr1 w1 hh hd hk K Z
 refine Stab.pl ?_
 have s25 := Stam.v 1 4 hd hk []
 obtain ⟨x29, s29, hp29⟩ := Stam.use (j := 5) (m := 0) hd hk rfl [] (by kernel_rfl) [(4, false, []), (8, true, [])] (by kernel_rfl) rfl rfl rfl
 obtain ⟨A4, c4, B4, ⟨b29, rfl, hc29⟩, hr29, hoa29, hB29⟩ := hp29
 have hbt := Stam.but_at hh [4] [(8, [])] (by kernel_rfl)
 clear hd hh
 have h6 := (hbt (fun k => k = g) (fun m hm b h => by simp at hm; subst hm; rcases h with h | h | h; exact h.2; (have := h.1; omega); (have := h.1; omega)))
 have hsr6 := hsr.but h6 (fun k hk e => by have e : k = g := e; have := (hsvN k hk).1; omega) (fun k hk e => by have e : k = g := e; have := (hC k hk).1; omega)
 refine wp_app _ _ 36 rfl 46 _ 3 40 Tryz.underlying36 info_state rfl (by decide) (by decide) w.heap.size sv l.length _ (Fact.eval_tmp s25) hsr6.row b29 [.slice A4 st.arcs.length c4, .bool st.final, .int .u64 st.out] (Fact.eval_tmp s29) rfl hc29 (by intro u hu; simp at hu; rcases hu with rfl | rfl | rfl <;> rfl) (by have := HLI.out; omega) (by have := hbt5.size; have := h6.size; omega) (fun v3 w3 hr3 hg3 hat3 => ?_)
 exact Z.out _ rfl _ _ (But.grown hg3 (fun k hk => .inr (.inl ⟨rfl, hk⟩))) (Q6.mk hsr6 hsv hC h6.size hB5 hr29 (fun e => by have := (hsvN g e).1; omega) hoa29 hB29 (fun k hk => (hsvN k hk).2) hg3 hr3 hat3))
 apply Stam.tq 7 _ hf hok
 · (
 intro fr1 w1 hh hd hk K Z
 refine Stab.pl ?_
 have s3 := Stam.o hh (by kernel_rfl) s3
 have hbt := Stam.but_at hh [4, 6] [(8, [])] (by kernel_rfl)
 clear hd hh
 go_simp
 exact Stab.k Z)
 refine Stam.todo_sp (k := 8) (n := 52) (fun _ wz => Q8 w.heap.size g s j l st wz) hf.size hok.out rfl (fun _ _ _ hb h => Q8.later hb h) (by kernel_rfl) ?_ ?_
 · (
 intro fr1 w1 hh hd hk K Z
 refine Stab.pl ?_
 have s31 := Stam.v 7 0 hd hk []
 obtain ⟨x30, s30, hp30⟩ := Stam.use (j := 6) (m := 1) hd hk rfl [] (by kernel_rfl) [(4, false, [])] (by kernel_rfl) rfl rfl rfl
 obtain ⟨y30, C2, hsr30, hst30, hr30, hvb30, hC30⟩ := hp30
 have hbt := Stam.but_at hh [4, 6] [] (by kernel_rfl)
 clear hd hh
 have h8 := hbt (fun k => k = g ∨ sv.ownBlock = some k) (fun m hm b h => by simp at hm; rcases h with h | h | h; exact .inl h.2; exact .inr h.2; (have := h.1; omega))
 have hx8 := h8.heap hx5 (fun h => by rcases h with h | h; omega; exact hsv h)
 have e8 : w1.cell? ⟨w.heap.size, 0, none⟩ = some sv := by rw [cell_of_row _ _ 0 _ _ (0, 0) hx8]; rfl
 have fz := frozen_of (i := 0) hx8
 clear hbt h8
 obtain ⟨A9, c9, hv9, _⟩ := hsr30.form
 rw [List.length_append, List.length_cons, List.length_nil, Nat.zero_add] at hv9
 subst hv9
 go_simp
 exact Z.out _ rfl undef _ (But.setCell (.inr (.inr ⟨rfl, rfl⟩)) _) (Q8.mk hx8 (by omega) hsr30 hst30 hr30 hvb30 hC30))
 refine Stam.todo_facts (n := 52) (by kernel_rfl) hf.size hok.out rfl (fun fr1 w1 hh hg => ?_)
 replace s0 := Stam.o hh (by kernel_rfl) s0
 replace s2 := Stam.o hh (by kernel_rfl) s2
 replace s3 := Stam.o hh (by kernel_rfl) s3
 replace s5 := Stam.o hh (by kernel_rfl) s5
 replace s6 := Stam.o hh (by kernel_rfl) s6
 obtain ⟨_, hlast⟩ := Stam.end_fact (j := 8) (m := 0) hg rfl (by decide) [(4, []), (6, [])] (by kernel_rfl) rfl
 have hf1 := hh.fr hf
 have hbt := hh.but
 clear hg hh hf hok s21
 have hf := hf1; clear hf1
 obtain ⟨v6, y6, C6, hx6, hsr6, hst6, hr6, hvb6, hC6⟩ := hlast
 replace hbt := hbt (fun k => k = g ∨ w.heap.size ≤ k) (fun m _ b h => by rcases h with h | h | h; exact .inl h.2; exact .inr (hsvN _ h.2).1; exact .inr (by rw [h.2]; exact Nat.le_refl _))
 have hbt6 : But (fun k => k = g ∨ w.heap.size ≤ k) w _ := hbt5.trans hbt
 have hpa2 : pStates s n 0 p2 [] = pStates s (n - (i + 1)) (i + 1) j ((l ++ [y6]).map Prod.snd) := by rw [HPA.out, HU.out, show n - (i + 1) = u by have := HU.out; omega, List.map_append, List.map_cons, hst6]; simp only [pStates, HP4.out]; rfl
 refine Fact.block_normal ?_
 refine Zx hK17 ?_
 refine Zr [22, 23] hf ?_
 refine Zq5 0 2 3 5 6 hf ?_
 clear hf s0 s2 s3 s5 s6; intro fr1 hf sS
 refine Fact.then_normal ?_
 obtain ⟨s0, s2, s3, s5, s6⟩ := sS
 exact ⟨_, by have := HK.out; omega, i + 1, j, v6, l ++ [y6], C6, rfl, by omega, hf, s0, s3, s2, by rw [s5]; rfl, s6, hpa2, hr6, hk4.2.1, by omega, by simp [HLI.out], hx6, hsr6, hvb6, hC6, hbt6⟩))
 · (
 have hpst : pStates s n 0 p2 [] = .ok (l.map Prod.snd, pk) := by rw [HPA.out, show n - i = 0 by have h9 := of_decide_eq_false hq; omega]; rfl
 have HPT := Lib.hid hpst; clear hpst hq
 rcases hpz : pNum s 0 18446744073709551615 pk with bz | ⟨init, p4⟩
 · (
 have HPZ := Lib.hid hpz; clear hpz
 have he : r = .error bz := by rw [← HPS.out]; unfold pAll; simp only [HPM.out, HP2.out, HP3.out, HPT.out, HPZ.out]
 subst he
 refine Zo ?_
 refine Zt hK12 fun _ hK18 => ?_
 have bB := hf.B3 32 33 34
 refine Za ?_
 refine fp fun K Z => ?_
 go_simp
 go_at_call 59; refine (num51' wr g s pk hr5 hp5 hsz 0 18446744073709551615).mono ?_; rintro e wz hres
 rw [HPZ.out] at hres
 obtain ⟨q, rfl, hz2, hz3, hz4⟩ := hres
 try dsimp only
 try dsimp only
 exact pan9 hf.defers (PanG.via hbt5 ⟨q, rfl, hz2, hz3, hz4⟩))
 · (
 have HP5 := Lib.hid hpz; clear hpz
 refine Zo ?_
 refine Zt hK12 fun _ hK19 => ?_
 have bB := hf.B3 32 33 34
 refine Za ?_
 refine fp fun K Z => ?_
 go_simp
 go_at_call 59; refine (num51' wr g s pk hr5 hp5 hsz 0 18446744073709551615).mono ?_; rintro e w9 hres
 rw [HP5.out] at hres
 obtain ⟨rfl, hr9, hb9⟩ := hres
 have hsr9 := hsr.but hb9 (fun k hk e => by have e : k = g := e; have := (World.ownsRow.lt hsr.row k hk).1; omega) (fun k hk e => by have e : k = g := e; have := (hC k hk).1; omega)
 have hx9 := hb9.heap hx5 (by intro e; have e : w.heap.size = g := e; omega)
 have hbt9 : But (fun k => k = g ∨ w.heap.size ≤ k) w w9 := hbt5.trans (hb9.mono (fun k _ h => .inl h))
 clear hb9 hx5 hbt5 hr5
 have e1 : w9.cell? ⟨w.heap.size, 1, none⟩ = some (.int .u64 0) := by rw [cell_of_row _ _ 1 _ _ (0, 0) hx9]; rfl
 have fz := frozen_of (i := 1) hx9
 try dsimp only
 apply Z.out; clear Z K
 iterate 2 refine Za ?_
 refine Fact.nil (Zq3 0 2 3 hf ?_)
 clear hf sS bB; intro fr1 hf sS
 have hk11 := pNum_ok HP5.out
 obtain ⟨W10, hW10⟩ : ∃ x, w9.setCell ⟨w.heap.size, 1, none⟩ (.int .u64 init) = x := ⟨_, rfl⟩
 try rw [hW10]
 have hbB : But (fun k => k = w.heap.size) w9 W10 := by rw [← hW10]; exact But.setCell (S := fun k => k = w.heap.size) rfl _
 have hx10 : W10.heap[w.heap.size]? = some (.cells #[sv, .int .u64 init] 38 (0, 0)) := by rw [← hW10]; exact (set_block (i := 1) hx9 _).trans (by simp)
 clear hW10
 have hr10 : RD W10 g s p4 := hbB.heap hr9 (by intro e; have e : g = w.heap.size := e; omega)
 have hsr10 := hsr9.but hbB (fun k hk e => hsv (by rw [hk, e])) (fun k hk e => by have := (hC k hk).1; omega)
 have hbt10 : But (fun k => k = g ∨ w.heap.size ≤ k) w W10 := hbt9.trans (hbB.mono (fun k _ h => .inr (by omega)))
 have g0 := hr10.c0; have g1 := hr10.c1
 clear hbB e1 fz
 refine Zs hK19 fun _ hK20 => ?_
 refine Ze fun _ hK21 => ?_
 obtain ⟨s0, s2, s3⟩ := sS
 refine Stab.tb 52 fun hok => ?_
 refine Stab.mO 0 s0 hf hok ?_
 refine Stab.T 1 hf hok (fun _ _ h d => Stab.vd 0 0 d []) ?_
 refine Stab.T 2 hf hok (fun _ _ h d => Stab.vd 1 0 d []) ?_
 refine Stab.T 3 hf hok (fun _ _ h d => ad (Stab.vd 2 0 d []) (ad (cL h.ext g0) (cL h.ext g1))) ?_
 refine Stab.mO 4 s0 hf hok ?_
 refine Stab.T 5 hf hok (fun _ _ h d => Stab.vd 4 0 d []) ?_
 refine Stab.T 6 hf hok (fun _ _ h d => Stab.vd 5 0 d []) ?_
 refine Stab.T 7 hf hok (fun _ _ h d => ad (Stab.vd 6 0 d []) (ad (cL h.ext g0) (cL h.ext g1))) ?_
 refine Stab.T 8 hf hok (fun _ _ h d => ad (Stab.vd 7 0 d []) (ad (cL h.ext g0) (cL h.ext g1))) ?_
 refine Stab.T 9 hf hok (fun _ _ h d => ad (Stab.vd 3 5 d []) (Stab.vd 8 0 d [])) ?_
 refine Stab.E hf hok (fun _ _ h g => ad (Stab.O h s0) (ad (Stab.O h s2) (ad (Stab.O h s3) (Stab.f 9 0 g)))) ?_
 clear hf hok s0 s2 s3; intro fr1 w1 hf hx sS
 replace g0 := cL hx g0
 replace g1 := cL hx g1
 have hr12 := hr10.later hx
 have hx12 := (hx.block _ (heap_lt hx10)).trans hx10
 have hsr12 := hsr10.later hx
 have hbt12 : But (fun k => k = g ∨ w.heap.size ≤ k) w w1 := hbt10.trans (But.of _ hx)
 refine Zx hK21 ?_
 refine Fact.cond_s sS.2.2.2 (fun hq => ?_) (fun hq => ?_)
 · (
 have hlt4 : p4 < s.size := by have h9 := of_decide_eq_true hq; omega
 have he : r = .error (4, p4) := by rw [← HPS.out]; unfold pAll; simp only [HPM.out, HP2.out, HP3.out, HPT.out, HP5.out]; rw [if_pos hlt4]
 subst he
 refine rg ?_
 have bB := hf.B4 45 46 47 48
 iterate 4 refine Za ?_
 refine fp fun K Z => ?_
 go_simp
 go_at_call 32; refine (bad33 w1 4 p4).mono ?_; rintro e wz hpan
 obtain ⟨q, rfl, hz2, hz3, hz4⟩ := hpan
 try dsimp only
 try dsimp only
 exact pan9 hf.defers (PanG.via hbt12 (Pan.g (c := 4) (a := p4) ⟨q, rfl, hz2, hz3, hz4⟩)))
 · (
 have hge4 : ¬ p4 < s.size := by have h9 := of_decide_eq_false hq; omega
 have he : r = .ok (en, init, l.map Prod.snd) := by rw [← HPS.out]; unfold pAll; simp only [HPM.out, HP2.out, HP3.out, HPT.out, HP5.out]; rw [if_neg hge4]
 subst he
 obtain ⟨A, cc, hsv2, _⟩ := hsr12.form
 subst hsv2
 have d0 : w1.cell? ⟨w.heap.size, 0, none⟩ = some (.slice A l.length cc) := by rw [cell_of_row _ _ 0 _ _ (0, 0) hx12]; rfl
 have d1 : w1.cell? ⟨w.heap.size, 1, none⟩ = some (.int .u64 init) := by rw [cell_of_row _ _ 1 _ _ (0, 0) hx12]; rfl
 refine wp_skip ?_
 refine Zs hK20 fun _ hK22 => ?_
 obtain ⟨s0, s2, s3, s44⟩ := sS
 refine Stab.tb 52 fun hok => ?_
 refine Stab.mvP (k := 0) (j := 2) s2 hf.size hok.out rfl rfl rfl (.inl rfl) [] (by kernel_rfl) (by kernel_rfl) ?_
 refine Stab.T 1 hf hok (fun _ _ h d => ad (Stab.O h s3) (ad (cL h.ext d0) (cL h.ext d1))) ?_
 refine Stab.mN 2 0 1 hf hok [] ?_
 refine Tail.todo_tail (n := 52) (m := 3) (ws := []) (by kernel_rfl) hf.size hok.out rfl rfl (by kernel_rfl) (fun fr1 w1 hh hg => ?_)
 clear s2; have s2 := Tail.got_is 2 0 hg rfl rfl rfl rfl rfl
 replace s3 := Stab.O hh s3
 have s51 := Tail.got_is 1 1 hg rfl rfl rfl rfl rfl
 have hf1 := hh.fr hf
 have hx := hh.ext
 replace d0 := cL hx d0
 replace d1 := cL hx d1
 clear hg hh hf hok s0 s44
 have hf := hf1; clear hf1
 have hx14 := (hx.block _ (heap_lt hx12)).trans hx12
 have f0 := frozen_of (i := 0) hx14
 have f1 := frozen_of (i := 1) hx14
 refine Tail.seq_op rfl rfl (fun K Z => ?_)
 go_simp
 apply Z.out; clear Z K
 refine Tail.seq_nil rfl ?_
 refine Zq2 2 3 hf ?_
 clear hf s2 s3 s51; intro fr1 hf sS
 refine Zx hK22 ?_
 refine Zret ?_
 have hbB := fun W : World => (But.setCell (S := fun k => k = w.heap.size) (w := W) (p := ⟨w.heap.size, 0, none⟩) rfl (.slice A l.length cc)).trans (But.setCell (S := fun k => k = w.heap.size) (p := ⟨w.heap.size, 1, none⟩) rfl (.int .u64 init))
 have hsr14 := (hsr12.later hx).but (hbB _) (fun k hk e => hsv (by rw [hk, e])) (fun k hk e => by have := (hC k hk).1; omega)
 exact ret_tc rfl hf sS.1 sS.2 (set_block (set_block hx14 _) _) Tryz.underlying38 rfl (by kernel_rfl) ⟨_, by simp, (fun wz hw => (hsr14.but hw (fun k hk h => by have := (World.ownsRow.lt hsr14.row k hk).1; omega) (fun k hk h => by have := (hC k hk).1; omega)).rs), (hbt12.trans ((But.of _ hx).trans ((hbB _).mono (fun k _ h => .inr (by omega))))).mono (fun k hk h => h.elim id (fun h => by omega))⟩))))))))
end Dw
end Go.Proofs.YtcddnmhmcieebaaGreatDoor

namespace Go.Proofs.YtcddnmhmcieebaaGreatDoor
open Go.RowKit
set_option linter.unusedSimpArgs false
set_option linter.unusedVariables false
set_option linter.unnecessarySimpa false
namespace Dw
set_option maxHeartbeats 4000000 in
set_option maxRecDepth 100000 in
theorem catch31 (a b c q : Nat) (x : Int) (sv : Value) (y : Nat) (ev : Value) (w : World) (hab : a ≠ b) (hac : a ≠ c) (hbc : b ≠ c) (h0 : w.heap[a]? = some (.cells #[.int .i64 x] 3 (0, 0))) (h1 : w.heap[b]? = some (.cells #[sv, .int .u64 y] 38 (0, 0))) (h2 : w.heap[c]? = some (.cells #[ev] 41 (0, 0))) :
    CallsD Tryz.prog 30 #[.pointer (some ⟨a, 0, none⟩), .pointer (some ⟨b, 0, none⟩), .pointer (some ⟨c, 0, none⟩)] (.panicking [{ v := .iface 77 (.pointer (some ⟨q, 0, none⟩)), recovered := false }]) w fun e u' w' =>
      e = .returned (.tuple #[]) ∧ u' = .panicking [{ v := .iface 77 (.pointer (some ⟨q, 0, none⟩)), recovered := true }] ∧ w' = (((w.setCell ⟨a, 0, none⟩ (.int .i64 0)).setCell ⟨b, 0, none⟩ (.slice none 0 0)).setCell ⟨b, 1, none⟩ (.int .u64 0)).setCell ⟨c, 0, none⟩ (.iface 77 (.pointer (some ⟨q, 0, none⟩))) := by
  refine callsD_of_wpS Tryz.func30 rfl fun c₀ cs hu => ?_
  apply wpS_seq
  apply wpS_region
  simp [wpOpsS, go_sem, recoverD, hu, Tryz.ntmps30, Exit.thenS]
  refine wpS_of_wp ?_
  have a0 : w.cell? ⟨a, 0, none⟩ = some (.int .i64 x) := by rw [cell_of_row _ _ 0 _ _ (0, 0) h0]; rfl
  have b0 : w.cell? ⟨b, 0, none⟩ = some sv := by rw [cell_of_row _ _ 0 _ _ (0, 0) h1]; rfl
  have b1 : w.cell? ⟨b, 1, none⟩ = some (.int .u64 y) := by rw [cell_of_row _ _ 1 _ _ (0, 0) h1]; rfl
  have c0' : w.cell? ⟨c, 0, none⟩ = some ev := by rw [cell_of_row _ _ 0 _ _ (0, 0) h2]; rfl
  have fa := frozen_of (i := 0) h0
  have fb := frozen_of (i := 0) h1
  have fb1 := frozen_of (i := 1) h1
  have fc := frozen_of (i := 0) h2
  have hab' := hab.symm
  have hac' := hac.symm
  have hbc' := hbc.symm
  have hta : ∀ w' : World, (Instr.typeAssert (.iface 77 (.pointer (some ⟨q, 0, none⟩))) 20 77 true).run Tryz.prog w' = .ok (.tuple #[.pointer (some ⟨q, 0, none⟩), .bool true]) w' := fun w' => by kernel_rfl
  go_wp2
  exact ⟨rfl, _, rfl, _, results_none rfl _ _ _, rfl, rfl, rfl⟩
set_option maxHeartbeats 4000000 in
set_option maxRecDepth 100000 in
theorem idle31 (p0 p1 p2 : Value) (w : World) : CallsD Tryz.prog 30 #[p0, p1, p2] .returning w fun e u' w' => e = .returned (.tuple #[]) ∧ u' = .returning ∧ w' = w := by
  refine callsD_of_wpS Tryz.func30 rfl fun c₀ cs hu => ?_
  apply wpS_seq
  apply wpS_region
  simp [wpOpsS, go_sem, recoverD, hu, Tryz.ntmps30, Exit.thenS]
  refine wpS_of_wp ?_
  have hn : ∀ w' : World, (binOp .eql 20 .nilIface .nilIface).run Tryz.prog w' = .ok (.bool true) w' := fun w' => by kernel_rfl
  go_wp2
  cases c₀
  simp_all [bodyPostS, results, Tryz.results31]
end Dw
end Go.Proofs.YtcddnmhmcieebaaGreatDoor
