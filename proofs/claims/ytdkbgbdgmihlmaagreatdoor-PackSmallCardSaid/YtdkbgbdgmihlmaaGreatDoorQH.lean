/- What is laid is read back; what is read is laid again just so. -/
import Derived.Test.YtdkbgbdgmihlmaaGreatDoorPPut
import Derived.Test.YtdkbgbdgmihlmaaGreatDoorQE
namespace Go.Proofs.YtdkbgbdgmihlmaaGreatDoor
open Go.RowKit
set_option linter.unusedSimpArgs false
set_option linter.unusedVariables false
set_option linter.unnecessarySimpa false
namespace Dw
theorem pNum_put {s : ByteArray} {pre post : List Nat} {n lo hi : Nat} (h : wl s = pre ++ numB n ++ post) (hn : n < M64) (h1 : lo ≤ n) (h2 : n ≤ hi) : pNum s lo hi pre.length = .ok (n, pre.length + (numB n).length) := by
  unfold pNum
  rw [h, getN_num hn]
  unfold stepN rangeN
  simp only
  rw [if_neg (by simp), if_neg (by rw [if_neg (by omega)]; simp)]
theorem pChar_put {s : ByteArray} {pre post : List Nat} {c : Nat} (h : wl s = pre ++ c :: post) : pChar s pre.length = .ok (c, pre.length + 1) := by
  have hl := congrArg List.length h
  rw [wl_length] at hl
  simp only [List.length_append, List.length_cons] at hl
  have ha := wl_at (s := s) (i := pre.length) (by omega)
  rw [h] at ha
  simp at ha
  have hne : ¬ pre.length = s.size := by omega
  unfold pChar stepN charN
  simp [hne, ← ha]
theorem pMag_put {s : ByteArray} {pre post : List Nat} {k : Nat} (h : wl s = pre ++ magicAt k :: post) : pMag s k pre.length = .ok (magicAt k, pre.length + 1) := by
  have hl := congrArg List.length h
  rw [wl_length] at hl
  simp only [List.length_append, List.length_cons] at hl
  have ha := wl_at (s := s) (i := pre.length) (by omega)
  rw [h] at ha
  simp at ha
  have hne : ¬ pre.length = s.size := by omega
  unfold pMag stepN charN kindN
  simp [hne, ← ha]
/-- an arc that may stand in the i-th state -/
def arcIn (i : Nat) (a : Arc) : Prop := okA a ∧ 0 ≤ a.to ∧ a.to < (i : Int)
theorem numsB_two (a b : Nat) : numsB [a, b] = numB a ++ numB b := by simp [numsB]
theorem numsB_one (a : Nat) : numsB [a] = numB a := by simp [numsB]
theorem pArcs_put {s : ByteArray} {i : Nat} (hi : i ≤ 1000000) : ∀ (l acc : List Arc) (pre post : List Nat), wl s = pre ++ arcsB i l ++ post → (∀ a ∈ l, arcIn i a) → pArcs s i l.length pre.length acc = .ok (acc ++ l, pre.length + (arcsB i l).length)
  | [], acc, pre, post, _, _ => by simp [pArcs, arcsB]
  | a :: l, acc, pre, post, h, hok => by
    obtain ⟨⟨ha, hao, _, _⟩, h0, h1⟩ := hok a (List.mem_cons_self ..)
    have hsp : arcsB i (a :: l) = a.byte :: (numB a.out ++ (numB (i - a.to.toNat) ++ arcsB i l)) := by
      simp [arcsB, arcB, numsB_two]
    rw [hsp] at h
    simp only [List.length_cons, pArcs]
    rw [pChar_put (c := a.byte) (post := numB a.out ++ (numB (i - a.to.toNat) ++ arcsB i l) ++ post) (by rw [h]; simp)]
    simp only
    rw [show pre.length + 1 = (pre ++ [a.byte]).length by simp, pNum_put (n := a.out) (post := numB (i - a.to.toNat) ++ arcsB i l ++ post) (by rw [h]; simp) (by unfold M64; omega) (by omega) (by omega)]
    simp only
    rw [show (pre ++ [a.byte]).length + (numB a.out).length = (pre ++ [a.byte] ++ numB a.out).length by simp; omega, pNum_put (n := i - a.to.toNat) (post := arcsB i l ++ post) (by rw [h]; simp) (by unfold M64; omega) (by omega) (by omega)]
    simp only
    rw [show (pre ++ [a.byte] ++ numB a.out).length + (numB (i - a.to.toNat)).length = (pre ++ [a.byte] ++ numB a.out ++ numB (i - a.to.toNat)).length by simp; omega, pArcs_put hi l _ (pre ++ [a.byte] ++ numB a.out ++ numB (i - a.to.toNat)) post (by rw [h]; simp) fun x hx => hok x (List.mem_cons_of_mem _ hx)]
    have he : (⟨a.byte, a.out, ((i - (i - a.to.toNat) : Nat) : Int)⟩ : Arc) = a := by
      have e1 : ((i - (i - a.to.toNat) : Nat) : Int) = a.to := by omega
      rw [e1]
    rw [he, hsp]
    simp
    omega
/-- a state that may stand at the i-th place -/
def stIn (i : Nat) (s : State) : Prop := okS s ∧ s.arcs.length ≤ 256 ∧ (s.final = false → s.out = 0) ∧ ∀ a ∈ s.arcs, arcIn i a
theorem pState_put {s : ByteArray} {i : Nat} {st : State} (hi : i ≤ 1000000) (h : stIn i st) (pre post : List Nat) (hw : wl s = pre ++ stB i st ++ post) : pState s i pre.length = .ok (st, pre.length + (stB i st).length) := by
  obtain ⟨⟨hout, _, _⟩, hl, hz, ha⟩ := h
  unfold stB headB at hw ⊢
  unfold pState
  cases hf : st.final with
  | true =>
    rw [hf, if_pos rfl, numsB_two] at hw
    rw [if_pos rfl, numsB_two]
    rw [pNum_put (n := 2 * st.arcs.length + 1) (post := numB st.out ++ arcsB i st.arcs ++ post) (by rw [hw]; simp) (by unfold M64; omega) (by omega) (by omega)]
    simp only
    unfold pOut
    rw [if_pos (by omega), show pre.length + (numB (2 * st.arcs.length + 1)).length = (pre ++ numB (2 * st.arcs.length + 1)).length by simp, pNum_put (n := st.out) (post := arcsB i st.arcs ++ post) (by rw [hw]; simp) (by unfold M64; omega) (by omega) (by omega)]
    simp only
    rw [show (2 * st.arcs.length + 1) / 2 = st.arcs.length by omega, show (pre ++ numB (2 * st.arcs.length + 1)).length + (numB st.out).length = (pre ++ numB (2 * st.arcs.length + 1) ++ numB st.out).length by simp; omega, pArcs_put hi st.arcs [] (pre ++ numB (2 * st.arcs.length + 1) ++ numB st.out) post (by rw [hw]; simp) ha]
    simp only [pMk, List.nil_append]
    rw [show decide ((2 * st.arcs.length + 1) % 2 = 1) = st.final by rw [hf]; exact decide_eq_true (by omega)]
    simp
    omega
  | false =>
    rw [hf, if_neg (by simp), numsB_one] at hw
    rw [if_neg (by simp), numsB_one]
    rw [pNum_put (n := 2 * st.arcs.length) (post := arcsB i st.arcs ++ post) (by rw [hw]; simp) (by unfold M64; omega) (by omega) (by omega)]
    simp only
    unfold pOut
    rw [if_neg (by omega)]
    simp only
    rw [show 2 * st.arcs.length / 2 = st.arcs.length by omega, show pre.length + (numB (2 * st.arcs.length)).length = (pre ++ numB (2 * st.arcs.length)).length by simp, pArcs_put hi st.arcs [] (pre ++ numB (2 * st.arcs.length)) post (by rw [hw]; simp) ha]
    simp only [pMk, List.nil_append]
    rw [show decide (2 * st.arcs.length % 2 = 1) = st.final by rw [hf]; exact decide_eq_false (by omega)]
    have he : ({ arcs := st.arcs, final := st.final, out := 0 } : State) = st := by rw [← hz hf]
    rw [he]
    simp
    omega
theorem pStates_put {s : ByteArray} : ∀ (l acc : List State) (i : Nat) (pre post : List Nat), i + l.length ≤ 1000000 → wl s = pre ++ statesB i l ++ post → (∀ k st, l[k]? = some st → stIn (i + k) st) → pStates s l.length i pre.length acc = .ok (acc ++ l, pre.length + (statesB i l).length)
  | [], acc, i, pre, post, _, _, _ => by simp [pStates, statesB]
  | st :: l, acc, i, pre, post, hl, h, hok => by
    simp only [List.length_cons] at hl
    simp only [statesB] at h
    simp only [List.length_cons, pStates]
    rw [pState_put (i := i) (by omega) (hok 0 st rfl) pre (statesB (i + 1) l ++ post) (by rw [h]; simp)]
    simp only
    rw [show pre.length + (stB i st).length = (pre ++ stB i st).length by simp, pStates_put l _ (i + 1) (pre ++ stB i st) post (by omega) (by rw [h]; simp) fun k x hx => by
      have h9 := hok (k + 1) x (by simpa using hx)
      rw [show i + 1 + k = i + (k + 1) by omega]
      exact h9]
    simp [statesB]
    omega
theorem pMagic_put {s : ByteArray} {post : List Nat} (h : wl s = [67, 83, 1] ++ post) : pMagic s 3 0 0 = .ok 3 := by
  simp only [pMagic]
  have h0 := pMag_put (k := 0) (pre := []) (post := [83, 1] ++ post) (s := s) (by rw [h]; rfl)
  have h1 := pMag_put (k := 0 + 1) (pre := [67]) (post := [1] ++ post) (s := s) (by rw [h]; rfl)
  have h2 := pMag_put (k := 0 + 1 + 1) (pre := [67, 83]) (post := post) (s := s) (by rw [h]; rfl)
  simp only [List.length_nil, List.length_cons] at h0 h1 h2
  simp only [h0, h1, h2]
theorem mayL_stIn {ss : List State} (hok : ∀ s ∈ ss, okS s) (hm : mayL 0 ss = true) {k : Nat} {st : State} (hk : ss[k]? = some st) : stIn k st := by
  have h1 := mayL_at hm hk
  have h2 := hok st (List.mem_of_getElem? hk)
  have h3 : mayL k (ss.drop k) = true := by
    have key : ∀ (l : List State) (i k : Nat), mayL i l = true → mayL (i + k) (l.drop k) = true := by
      intro l
      induction l with
      | nil => intro i k _; simp [mayL]
      | cons a l ih =>
        intro i k h
        cases k with
        | zero => simpa using h
        | succ k =>
          simp only [mayL, Bool.and_eq_true] at h
          have := ih (i + 1) k h.2
          simp only [List.drop_succ_cons]
          rw [show i + (k + 1) = i + 1 + k by omega]
          exact this
    have := key ss 0 k hm
    rwa [Nat.zero_add] at this
  rw [mayL_step hk] at h3
  simp only [Bool.and_eq_true, decide_eq_true_eq, Bool.or_eq_true] at h3
  refine ⟨h2, h1.1, fun hf => ?_, fun a ha => ⟨h2.2.2 a ha, by have := h1.2 a ha; simpa using this⟩⟩
  rcases h3.1.1.2 with h4 | h4
  · rw [hf] at h4; cases h4
  · exact h4
theorem pAll_put {s : ByteArray} {en init : Nat} {ss : List State} (hen : en ≤ 100000) (hok : ∀ s ∈ ss, okS s) (h0 : 0 < ss.length) (hm : mayL 0 ss = true) (hl : ss.length ≤ 1000000) (hi : init < M64) (h : wl s = bodyB en init ss) : pAll s = .ok (en, init, ss) := by
  unfold bodyB at h
  rw [numsB_two, numsB_one] at h
  unfold pAll
  rw [pMagic_put (post := numB en ++ numB ss.length ++ statesB 0 ss ++ numB init) (by rw [h]; simp)]
  simp only
  rw [show (3 : Nat) = ([67, 83, 1] : List Nat).length from rfl, pNum_put (pre := ([67, 83, 1] : List Nat)) (n := en) (post := numB ss.length ++ statesB 0 ss ++ numB init) (by rw [h]; simp) (by unfold M64; omega) (by omega) (by omega)]
  simp only
  rw [show ([67, 83, 1] : List Nat).length + (numB en).length = (([67, 83, 1] : List Nat) ++ numB en).length by simp; omega, pNum_put (n := ss.length) (post := statesB 0 ss ++ numB init) (by rw [h]; simp) (by unfold M64; omega) (by omega) (by omega)]
  simp only
  rw [show (([67, 83, 1] : List Nat) ++ numB en).length + (numB ss.length).length = (([67, 83, 1] : List Nat) ++ numB en ++ numB ss.length).length by simp; omega, pStates_put ss [] 0 (([67, 83, 1] : List Nat) ++ numB en ++ numB ss.length) (numB init) (by omega) (by rw [h]; simp) fun k st hk => by rw [Nat.zero_add]; exact mayL_stIn hok hm hk]
  simp only
  rw [show (([67, 83, 1] : List Nat) ++ numB en ++ numB ss.length).length + (statesB 0 ss).length = (([67, 83, 1] : List Nat) ++ numB en ++ numB ss.length ++ statesB 0 ss).length by simp; omega, pNum_put (n := init) (post := []) (by rw [h]; simp) hi (by omega) (by unfold M64 at hi; omega)]
  simp only
  have hsz := congrArg List.length h
  rw [wl_length] at hsz
  rw [if_neg (by rw [hsz]; simp; omega), List.nil_append]
/-! the other way round -/
end Dw
end Go.Proofs.YtdkbgbdgmihlmaaGreatDoor

namespace Go.Proofs.YtdkbgbdgmihlmaaGreatDoor
open Go.RowKit
set_option linter.unusedSimpArgs false
set_option linter.unusedVariables false
set_option linter.unnecessarySimpa false
namespace Dw
theorem lit_cells {w W : World} {A : Array Value} {t : TypeId} (h : w.alloc (.cells A t) = W) : Below w.heap.size w W ∧ (∀ j u, A.toList[j]? = some u → W.cell? ⟨w.heap.size, 0 + j, none⟩ = some u) ∧ W.heap.size = w.heap.size + 1 := by
  subst h
  refine ⟨(Below.refl _ _).alloc (Nat.le_refl _) _, fun j u hu => ?_, by simp⟩
  rw [Nat.zero_add, cell_of_row _ _ j _ t (0, 0) (heap_alloc_new w _)]
  simpa using hu
theorem RA.lit {w W : World} {A : Array Value} {t : TypeId} (h : w.alloc (.cells A t) = W) (l : List Arc) (hA : A.toList = acs l) : Below w.heap.size w W ∧ RA W (fun _ => True) (.slice (some ⟨w.heap.size, 0, none⟩) l.length l.length) l := by
  obtain ⟨h1, h2, _⟩ := lit_cells h
  exact ⟨h1, _, _, rfl, Nat.le_refl _, fun _ => ⟨_, _, rfl, trivial, fun j u hu => h2 j u (by rw [hA]; exact hu)⟩⟩
theorem RS.lit {w W : World} {A : Array Value} {t : TypeId} (h : w.alloc (.cells A t) = W) (l : List (Value × State)) (hA : A.toList = scs l) (hr : ∀ x ∈ l, RA w (fun _ => True) x.1 x.2.arcs) : Below w.heap.size w W ∧ RS W (.slice (some ⟨w.heap.size, 0, none⟩) l.length l.length) (l.map Prod.snd) := by
  obtain ⟨h1, h2, _⟩ := lit_cells h
  refine ⟨h1, some ⟨w.heap.size, 0, none⟩, l.length, by rw [List.length_map], by rw [List.length_map]; exact Nat.le_refl _, fun _ => ⟨_, _, rfl, fun i s hi => ?_⟩⟩
  rw [List.getElem?_map] at hi
  obtain ⟨x, hx, rfl⟩ := Option.map_eq_some_iff.1 hi
  obtain ⟨hlt, rfl⟩ := List.getElem?_eq_some_iff.1 hx
  have k : ∀ j, j < 3 → ∀ u, ([(l[i]).1, .bool (l[i]).2.final, .int .u64 (l[i]).2.out] : List Value)[j]? = some u → W.cell? ⟨w.heap.size, 0 + (i * 3 + j), none⟩ = some u := fun j hj u hu => h2 _ _ (by rw [hA, scs_get l i j hlt hj]; exact hu)
  exact ⟨(l[i]).1, by have := k 0 (by omega) _ rfl; simpa using this, by have := k 1 (by omega) _ rfl; simpa [Nat.add_assoc] using this, by have := k 2 (by omega) _ rfl; simpa [Nat.add_assoc] using this, (hr _ (List.getElem_mem hlt)).later h1⟩
/-- a row of transducers -/
def RF (w : World) (v : Value) (l : List Fst) : Prop := ∃ (A : Option Addr) (c : Nat), v = .slice A l.length c ∧ l.length ≤ c ∧ (0 < l.length → ∃ b off, A = some ⟨b, off, none⟩ ∧ ∀ (i : Nat) (x : Fst), l[i]? = some x → ∃ sv, w.cell? ⟨b, off + i * 2, none⟩ = some sv ∧ w.cell? ⟨b, off + i * 2 + 1, none⟩ = some (.int .u64 x.init) ∧ RS w sv x.states)
theorem RF.later {w w' : World} {v : Value} {l : List Fst} (h : RF w v l) (hb : Below w.heap.size w w') : RF w' v l := by
  obtain ⟨A, c, h1, h2, h3⟩ := h
  refine ⟨A, c, h1, h2, fun h0 => ?_⟩
  obtain ⟨b, off, h4, h5⟩ := h3 h0
  exact ⟨b, off, h4, fun i x hi => by obtain ⟨sv, h6, h7, h8⟩ := h5 i x hi; exact ⟨sv, cL hb h6, cL hb h7, h8.later hb⟩⟩
theorem RF.at_ {w : World} {A : Option Addr} {n c : Nat} {l : List Fst} (h : RF w (.slice A n c) l) {i : Nat} {x : Fst} (hi : l[i]? = some x) : ∃ b off sv, A = some ⟨b, off, none⟩ ∧ w.cell? ⟨b, off + i * 2, none⟩ = some sv ∧ w.cell? ⟨b, off + i * 2 + 1, none⟩ = some (.int .u64 x.init) ∧ RS w sv x.states := by
  obtain ⟨A', c', h1, h2, h3⟩ := h
  injection h1 with h1
  have h0 := (List.getElem?_eq_some_iff.1 hi).1
  obtain ⟨b, off, h4, h5⟩ := h3 (by omega)
  obtain ⟨sv, h6⟩ := h5 i x hi
  exact ⟨b, off, sv, h1.trans h4, h6⟩
def fcs (l : List (Value × Fst)) : List Value := l.flatMap fun x => [x.1, .int .u64 x.2.init]
theorem fcs_get (l : List (Value × Fst)) (i j : Nat) (hi : i < l.length) (hj : j < 2) : (fcs l)[i * 2 + j]? = ([(l[i]).1, .int .u64 (l[i]).2.init] : List Value)[j]? := by
  induction l generalizing i with
  | nil => simp at hi
  | cons e l ih =>
    simp only [fcs, List.flatMap_cons]
    cases i with
    | zero => rw [List.getElem?_append_left (by simp; omega)]; simp
    | succ i =>
      rw [List.getElem?_append_right (by simp; omega)]
      have := ih i (by simpa using hi)
      simp only [fcs] at this
      simp only [List.getElem_cons_succ]
      rw [← this]; congr 1; simp; omega
theorem RF.lit {w W : World} {A : Array Value} {t : TypeId} (h : w.alloc (.cells A t) = W) (l : List (Value × Fst)) (hA : A.toList = fcs l) (hr : ∀ x ∈ l, RS w x.1 x.2.states) : Below w.heap.size w W ∧ RF W (.slice (some ⟨w.heap.size, 0, none⟩) l.length l.length) (l.map Prod.snd) := by
  obtain ⟨h1, h2, _⟩ := lit_cells h
  refine ⟨h1, some ⟨w.heap.size, 0, none⟩, l.length, by rw [List.length_map], by rw [List.length_map]; exact Nat.le_refl _, fun _ => ⟨_, _, rfl, fun i s hi => ?_⟩⟩
  rw [List.getElem?_map] at hi
  obtain ⟨x, hx, rfl⟩ := Option.map_eq_some_iff.1 hi
  obtain ⟨hlt, rfl⟩ := List.getElem?_eq_some_iff.1 hx
  have k : ∀ j, j < 2 → ∀ u, ([(l[i]).1, .int .u64 (l[i]).2.init] : List Value)[j]? = some u → W.cell? ⟨w.heap.size, 0 + (i * 2 + j), none⟩ = some u := fun j hj u hu => h2 _ _ (by rw [hA, fcs_get l i j hlt hj]; exact hu)
  exact ⟨(l[i]).1, by have := k 0 (by omega) _ rfl; simpa using this, by have := k 1 (by omega) _ rfl; simpa [Nat.add_assoc] using this, (hr _ (List.getElem_mem hlt)).later h1⟩
def okAb (a : Arc) : Bool := decide (a.byte < 256) && decide (a.out < 18446744073709551616) && decide (-9223372036854775808 ≤ a.to) && decide (a.to < 9223372036854775808)
def okSb (s : State) : Bool := decide (s.out < 18446744073709551616) && decide (s.arcs.length < 1000) && s.arcs.all okAb
theorem okS_all (l : List State) (h : l.all okSb = true) : ∀ s ∈ l, okS s := by
  intro s hs
  have := List.all_eq_true.1 h s hs
  simp only [okSb, Bool.and_eq_true, decide_eq_true_eq] at this
  refine ⟨this.1.1, by have := this.1.2; omega, fun a ha => ?_⟩
  have h2 := List.all_eq_true.1 this.2 a ha
  simp only [okAb, Bool.and_eq_true, decide_eq_true_eq] at h2
  exact ⟨h2.1.1.1, h2.1.1.2, h2.1.2, h2.2⟩
theorem few_all (l : List State) (h : l.all okSb = true) : ∀ s ∈ l, s.arcs.length ≤ 1000 := by
  intro s hs
  have := List.all_eq_true.1 h s hs
  simp only [okSb, Bool.and_eq_true, decide_eq_true_eq] at this
  omega
end Dw
end Go.Proofs.YtdkbgbdgmihlmaaGreatDoor
