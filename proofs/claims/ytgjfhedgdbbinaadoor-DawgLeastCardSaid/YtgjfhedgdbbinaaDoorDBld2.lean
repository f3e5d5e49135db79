/- Dawg: a builder as it begins; a result that stands in a cell. -/
import Derived.Test.YtgjfhedgdbbinaaDoorDAdd
import Derived.Test.YtgjfhedgdbbinaaDoorDCheck
import Derived.Laws.ResultCell
import Derived.Laws.MakeOwn
namespace Go.Proofs.YtgjfhedgdbbinaaDoor
open Go.RowKit Go.Maps
set_option linter.unusedSimpArgs false
set_option linter.unusedVariables false
set_option linter.unnecessarySimpa false
namespace Dw
theorem ret_ct {P : Program} {fn : Func} {R : Ending → World → Prop} {n p u g : Nat} {ty t : TypeId} {a : Act} {w : World} {x : Value} {cs : Array Value} {fr : Nat × Nat} {d : TypeDesc} (h : fn.results = #[.cell p ty, .tmp u]) (hf : Fact.Fr n a)
    (sp : a.tmps[p]? = some (.pointer (some ⟨g, 0, none⟩))) (su : a.tmps[u]? = some x) (hg : w.heap[g]? = some (.cells cs t fr)) (hu : P.underlying ty = some d) (hd : (match d with | .struct _ | .array _ _ => true | _ => false) = true)
    (hi : (P.info? ty).map (·.size) = some cs.size) (hR : R (.returned (.tuple #[.agg cs, x])) w) : bodyPost P fn R .ret a w := by
  refine bodyPost_ret (v := .tuple #[.agg cs, x]) ?_ hf.defers hR
  rw [results_cell_tmp h]
  have hp' : a.tmps[p]?.getD undef = .pointer (some ⟨g, 0, none⟩) := by simp [sp]
  simp [hp', asAddr, run_loadVar_row w g t ty cs fr d hg hu hd hi, Result.andThen, su]
theorem make73 (w : World) : (Instr.makeSlice 73 (.int .i64 1) (.int .i64 1)).run Tryd.prog w = .ok (.slice (some ⟨w.heap.size, 0, none⟩) 1 1) (w.alloc (.cells #[.slice none 0 0, .bool false, .int .u64 0, .int .u8 0] 79)) := by
  obtain ⟨i0, hi, hz0, hz1, hz2⟩ := info_parts info79
  have hr := run_make (P := Tryd.prog) (w := w) 73 79 i0 _ Tryd.underlying73 hi hz0 .i64 .i64 1 1 (by omega) (by omega) (by rw [hz2]; omega) (by omega)
  have hc : madeCells (Value.agg #[.slice none 0 0, .bool false, .int .u64 0, .int .u8 0]).cells (Int.toNat 1 * 4) = #[.slice none 0 0, .bool false, .int .u64 0, .int .u8 0] := by kernel_rfl
  rw [hz1, hc] at hr
  exact hr
def ownS (base k0 : Nat) (k : Nat) : Nat := if k < base then 4 else if k = k0 then 3 else if k = k0 + 1 then 5 else if k = k0 + 2 then 1 else 0
theorem Bld.start (w0 : World) (base : Nat) (hb : base ≤ w0.heap.size) {W : World}
    (hW : ((w0.alloc (.map #[] 0)).alloc (.cells #[.slice none 0 0, .bool false, .int .u64 0, .int .u8 0] 79)).alloc (.cells #[.slice none 0 0, .map (some w0.heap.size), .slice (some ⟨w0.heap.size + 1, 0, none⟩) 1 1] 75) = W) :
    Bld W base (ownS base w0.heap.size) (w0.heap.size + 2) (.slice none 0 0) w0.heap.size [] (.slice (some ⟨w0.heap.size + 1, 0, none⟩) 1 1) 0 [⟨zeroS, 0⟩] ∧ Below w0.heap.size w0 W := by
  have hbb : Below w0.heap.size w0 W := by rw [← hW]; exact (((Below.refl _ _).alloc (Nat.le_refl _) _).alloc (by simp) _).alloc (by simp; omega) _
  have h1 := World.ownsMap_made w0 Tryd.prog 9 (plainElem (H := Unit) Tryd.prog 3)
  have hm := h1.alloc (.cells #[.slice none 0 0, .bool false, .int .u64 0, .int .u8 0] 79)
  have hm2 := hm.alloc (.cells #[.slice none 0 0, .map (some w0.heap.size), .slice (some ⟨w0.heap.size + 1, 0, none⟩) 1 1] 75)
  rw [hW] at hm2
  have hr := World.ownsRow_lit (base := base) (e := 79) (size := 4) (w0.alloc (.map #[] 0)) #[.slice none 0 0, .bool false, .int .u64 0, .int .u8 0] 1 (by simp; omega) (by unfold maxLen; omega) rfl
  have hr2 := hr.alloc (.cells #[.slice none 0 0, .map (some w0.heap.size), .slice (some ⟨w0.heap.size + 1, 0, none⟩) 1 1] 75)
  rw [hW] at hr2
  have hs1 : (w0.alloc (.map #[] 0)).heap.size = w0.heap.size + 1 := by simp
  rw [hs1] at hr2
  have hbx : W.heap[w0.heap.size + 2]? = some (.cells #[.slice none 0 0, .map (some w0.heap.size), .slice (some ⟨w0.heap.size + 1, 0, none⟩) 1 1] 75 (0, 0)) := by
    have := heap_alloc_new ((w0.alloc (.map #[] 0)).alloc (.cells #[.slice none 0 0, .bool false, .int .u64 0, .int .u8 0] 79)) (.cells #[.slice none 0 0, .map (some w0.heap.size), .slice (some ⟨w0.heap.size + 1, 0, none⟩) 1 1] 75)
    rw [hW] at this
    rw [← this]
    simp
  have o1 : ∀ k, k < base → ownS base w0.heap.size k = 4 := fun k hk => if_pos hk
  have o2 : ownS base w0.heap.size w0.heap.size = 3 := by unfold ownS; rw [if_neg (by omega), if_pos rfl]
  have o3 : ownS base w0.heap.size (w0.heap.size + 1) = 5 := by unfold ownS; rw [if_neg (by omega), if_neg (by omega), if_pos rfl]
  have o4 : ownS base w0.heap.size (w0.heap.size + 2) = 1 := by unfold ownS; rw [if_neg (by omega), if_neg (by omega), if_neg (by omega), if_pos rfl]
  refine ⟨⟨⟨o1, hbx, o4, o2, hm2, ⟨[], World.ownsRow_nil _ _ _ _, (fun k hk => by cases hk), fun i s hi => by simp at hi⟩, List.Pairwise.nil, by simp⟩, _, hr2, fun k hk => ?_, fun i o hi => ?_⟩, hbb⟩
  · injection hk with hk; subst hk; exact o3
  · match i, hi with
    | 0, hi =>
      injection hi with hi
      subst hi
      exact ⟨.slice none 0 0, rfl, rfl, rfl, rfl, OA.nil_ _ _, fun k hk => by cases hk⟩
/-- states, as they may be read -/
def RS (w : World) (sv : Value) (ss : List State) : Prop := ∃ (A : Option Addr) (c : Nat), sv = .slice A ss.length c ∧ ss.length ≤ c ∧ (0 < ss.length → ∃ b off, A = some ⟨b, off, none⟩ ∧ ∀ (i : Nat) (s : State), ss[i]? = some s → ∃ av, SAt w (fun _ => True) b (off + i * 3) av s)
theorem RS.later {w w' : World} {sv : Value} {ss : List State} (h : RS w sv ss) (hb : Below w.heap.size w w') : RS w' sv ss := by
  obtain ⟨A, c, h1, h2, h3⟩ := h
  refine ⟨A, c, h1, h2, fun h0 => ?_⟩
  obtain ⟨b, off, h4, h5⟩ := h3 h0
  exact ⟨b, off, h4, fun i s hi => by obtain ⟨av, h6⟩ := h5 i s hi; exact ⟨av, h6.later hb⟩⟩
theorem RS.form {w : World} {sv : Value} {ss : List State} (h : RS w sv ss) : ∃ (A : Option Addr) (c : Nat), sv = .slice A ss.length c ∧ ss.length ≤ c := by
  obtain ⟨A, c, h1, h2, _⟩ := h
  exact ⟨A, c, h1, h2⟩
theorem RS.at_ {w : World} {A : Option Addr} {n c : Nat} {ss : List State} (h : RS w (.slice A n c) ss) {i : Nat} {s : State} (hi : ss[i]? = some s) : ∃ b off av, A = some ⟨b, off, none⟩ ∧ SAt w (fun _ => True) b (off + i * 3) av s := by
  obtain ⟨A', c', h1, h2, h3⟩ := h
  injection h1 with h1
  have h0 := (List.getElem?_eq_some_iff.1 hi).1
  obtain ⟨b, off, h4, h5⟩ := h3 (by omega)
  obtain ⟨av, h6⟩ := h5 i s hi
  exact ⟨b, off, av, h1.trans h4, h6⟩
theorem RS.nil_ (w : World) : RS w (.slice none 0 0) [] := ⟨none, 0, rfl, by simp, fun h => by simp at h⟩
theorem Reg.rs {w : World} {base g mb : Nat} {own : Nat → Nat} {t : TypeId} {xs : List Value} {sv : Value} {ss : List State} (h : Reg w base own g t xs sv mb ss) : RS w sv ss := by
  obtain ⟨cells, h1, h2, h3⟩ := h.row
  rcases h1.2 with ⟨rfl, h0⟩ | ⟨b, cap, cur, rfl, _, _, hc, _⟩
  · have : ss = [] := List.eq_nil_of_length_eq_zero h0
    subst this
    exact RS.nil_ w
  · refine ⟨_, _, rfl, hc, fun _ => ⟨b, 0, rfl, fun i s hi => ?_⟩⟩
    obtain ⟨av, h4, h5, h6, h7⟩ := h3 i s hi
    have hil := (List.getElem?_eq_some_iff.1 hi).1
    refine ⟨av, ?_, ?_, ?_, h7.more (fun _ _ _ => trivial)⟩
    · rw [Nat.zero_add, h1.cellAt _ (by omega)]; exact h4
    · rw [Nat.zero_add, h1.cellAt _ (by omega)]; exact h5
    · rw [Nat.zero_add, h1.cellAt _ (by omega)]; exact h6
theorem chk_all : ∀ (es : List Ent) (p : Option (List Nat)), chkL p es = 0 → (∀ e ∈ es, okW e.word = true) ∧ Rise (es.map wvE) ∧ ∀ q, p = some q → ∀ e ∈ es, lexlt q (wl e.word) = true
  | [], p, _ => ⟨by simp, List.Pairwise.nil, by simp⟩
  | e :: es, p, h => by
    simp only [chkL] at h
    cases hw : okW e.word with
    | false => rw [hw] at h; simp at h
    | true =>
      rw [hw] at h
      simp only [if_true] at h
      have hl : chkL (some (wl e.word)) es = 0 := by
        cases p with
        | none => exact h
        | some q =>
          by_cases hc : lexlt q (wl e.word) = true
          · simpa [hc] using h
          · simp [hc] at h
      obtain ⟨h1, h2, h3⟩ := chk_all es _ hl
      refine ⟨fun x hx => ?_, ?_, fun q hq x hx => ?_⟩
      · rcases List.mem_cons.1 hx with rfl | hx
        · exact hw
        · exact h1 x hx
      · rw [List.map_cons]
        refine List.pairwise_cons.2 ⟨fun y hy => ?_, h2⟩
        obtain ⟨x, hx, rfl⟩ := List.mem_map.1 hy
        exact h3 _ rfl x hx
      · subst hq
        have hq2 : lexlt q (wl e.word) = true := by
          by_cases h9 : lexlt q (wl e.word) = true
          · exact h9
          · simp [h9] at h
        rcases List.mem_cons.1 hx with rfl | hx
        · exact hq2
        · exact lexlt_trans _ _ _ hq2 (h3 _ rfl x hx)
theorem okW_size {s : ByteArray} (h : okW s = true) : s.size ≤ 255 := by
  unfold okW at h
  simp at h
  omega
/-- the last of the words ahead -/
def lastW (es : List Ent) (i : Nat) : ByteArray := match i with
  | 0 => ⟨#[]⟩
  | i + 1 => (es[i]?.map Ent.word).getD ⟨#[]⟩
theorem adds_step {es : List Ent} {i : Nat} {e : Ent} (h : es[i]? = some e) (x : List State × List Open) : adds x [] ((es.take (i + 1)).map wvE) = add (adds x [] ((es.take i).map wvE)) (wl (lastW es i)) (wvE e) := by
  have ht : es.take (i + 1) = es.take i ++ [e] := by rw [List.take_add_one, h]; rfl
  rw [ht, List.map_append, adds_append]
  show add _ _ _ = _
  congr 1
  cases i with
  | zero => rfl
  | succ i =>
    have hl : i < es.length := by have := (List.getElem?_eq_some_iff.1 h).1; omega
    have ht2 : es.take (i + 1) = es.take i ++ [es[i]] := by rw [List.take_add_one, List.getElem?_eq_getElem hl]; rfl
    rw [ht2, List.map_append, List.map_cons, List.map_nil, List.getLast?_concat]
    simp [lastW, hl, wvE]
theorem add_ne (ss : List State) (way : List Open) (last : List Nat) (e : Wv) (h : way ≠ []) : (add (ss, way) last e).2 ≠ [] := by
  have h1 := close_ne ss way (shared last e.1) h
  intro h2
  have h3 := congrArg List.length h2
  unfold add at h3
  simp only [mark_length, opens_length, List.length_nil] at h3
  exact h1 (List.eq_nil_of_length_eq_zero (by omega))
theorem close_zero (ss : List State) (way : List Open) (h : way ≠ []) : ∃ o, (close ss way 0).2 = [o] := by
  have := close_length ss way 0 (List.length_pos_iff.2 h)
  match hc : (close ss way 0).2, this with
  | [o], _ => exact ⟨o, rfl⟩
theorem own_anew {w : World} {base g mb j : Nat} {own : Nat → Nat} {sv wv : Value} {ss : List State} {way : List Open} (h : Bld w base own g sv mb ss wv j way) :
    ∃ own0 : Nat → Nat, (∀ k, w.heap.size ≤ k → own0 k = 0) ∧ (∀ k, k < w.heap.size → own0 k = own k) ∧ Bld w base own0 g sv mb ss wv j way := by
  have hb := h.reg.base_le
  have h0lt : ∀ k, k < w.heap.size → (if k < w.heap.size then own k else 0) = own k := fun k hk => if_pos hk
  exact ⟨fun k => if k < w.heap.size then own k else 0, fun k hk => if_neg (by omega), h0lt, h.told (fun k hk => by rw [h0lt k (by omega)]; exact h.reg.lo k hk) (fun k hk _ _ => h0lt k hk)⟩
theorem But.lo {w w' : World} {own : Nat → Nat} {base : Nat} (h : But (fun k => own k ≠ 0 ∧ own k ≠ 4) w w') (hb : base ≤ w.heap.size) (hlo : ∀ k, k < base → own k = 4) : Below base w w' :=
  ⟨h.os, h.tape, h.output, h.size, fun k hk => h.block k (by omega) (fun h4 => h4.2 (hlo k hk))⟩
end Dw
end Go.Proofs.YtgjfhedgdbbinaaDoor
