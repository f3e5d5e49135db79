/- Entries, lists that are drawn (cedillaref05): what they are, how they lie. -/
import Derived.Test.YtgjfhedgdbbinaaDoorDR1
import Derived.Test.YtgjfhedgdbbinaaDoorDBld2
import Derived.Laws.BytesArg
namespace Go.Proofs.YtgjfhedgdbbinaaDoor
open Go.RowKit
set_option linter.unusedSimpArgs false
set_option linter.unusedVariables false
set_option linter.unnecessarySimpa false
namespace Dw
theorem ret_c {P : Program} {fn : Func} {R : Ending → World → Prop} {n p g : Nat} {ty t : TypeId} {a : Act} {w : World} {cs : Array Value} {fr : Nat × Nat} {d : TypeDesc} (h : fn.results = #[.cell p ty]) (hf : Fact.Fr n a)
    (sp : a.tmps[p]? = some (.pointer (some ⟨g, 0, none⟩))) (hg : w.heap[g]? = some (.cells cs t fr)) (hu : P.underlying ty = some d) (hd : (match d with | .struct _ | .array _ _ => true | _ => false) = true)
    (hi : (P.info? ty).map (·.size) = some cs.size) (hR : R (.returned (.agg cs)) w) : bodyPost P fn R .ret a w := by
  refine bodyPost_ret (v := .agg cs) ?_ hf.defers hR
  have hp' : a.tmps[p]?.getD undef = .pointer (some ⟨g, 0, none⟩) := by simp [sp]
  have h2 : (results fn a.tmps).run P w = ((asAddr (a.tmps.getD p undef)).run P w).andThen fun x w₁ => (loadVar ty x).run P w₁ := by
    simp only [results, h]
    simp [Sem.run_bind, Result.andThen]
  rw [h2]
  simp [hp', asAddr, run_loadVar_row w g t ty cs fr d hg hu hd hi, Result.andThen]
/-! bare -/
def bareE (e : Ent) : Ent := if e.gone then ⟨e.word, 0, e.gone⟩ else e
theorem bareE_ok {e : Ent} (h : okE e) : okE (bareE e) := by unfold bareE; split; exact ⟨by simp, by simp⟩; exact h
theorem bareE_word (e : Ent) : (bareE e).word = e.word := by unfold bareE; split <;> rfl
/-! drafts -/
structure Dra where
  letters : List Int
  weight : Int
  gone : Bool
def okD (d : Dra) : Prop := (∀ x ∈ d.letters, 0 ≤ x ∧ x ≤ 255) ∧ 0 ≤ d.weight ∧ d.weight < 4294967296
def dletter (x : Int) : Int := if x % 8 < 7 then 97 + x % 8 % 3 else x
def dbody (l : List Int) : ByteArray := l.foldl (fun s x => s ++ strOfNums [dletter x]) ⟨#[]⟩
def dword (l : List Int) : ByteArray := if (dbody (l.take 9)).toList = [] then ⟨#[97]⟩ else dbody (l.take 9)
def Dra.ent (d : Dra) : Ent := bareE ⟨dword d.letters, d.weight, d.gone⟩
theorem strOf1 (x : Int) : (strOfNums [x]).size = 1 := rfl
theorem dbody_snoc (l : List Int) (x : Int) : dbody (l ++ [x]) = dbody l ++ strOfNums [dletter x] := by simp [dbody]
theorem dbody_size (l : List Int) : (dbody l).size = l.length := by
  have key : ∀ (l : List Int) (s : ByteArray), (l.foldl (fun s x => s ++ strOfNums [dletter x]) s).size = s.size + l.length := by
    intro l
    induction l with
    | nil => intro s; simp
    | cons x l ih => intro s; rw [List.foldl_cons, ih, ByteArray.size_append, strOf1]; simp; omega
  have := key l ⟨#[]⟩
  rw [show (⟨#[]⟩ : ByteArray).size = 0 from rfl, Nat.zero_add] at this
  exact this
theorem toList_length (s : ByteArray) : s.toList.length = s.size := by rw [ByteArray.toList_eq, Array.length_toList]; rfl
theorem dword_size (l : List Int) : 1 ≤ (dword l).size ∧ (dword l).size ≤ 9 := by
  unfold dword
  have h1 := toList_length (dbody (l.take 9))
  have h2 := dbody_size (l.take 9)
  have h3 : (l.take 9).length ≤ 9 := by simp; omega
  split
  · decide
  · rename_i h
    refine ⟨?_, by omega⟩
    rcases Nat.eq_zero_or_pos (dbody (l.take 9)).size with h4 | h4
    · exact absurd (List.eq_nil_of_length_eq_zero (h1.trans h4)) h
    · exact h4
theorem ent_okE {d : Dra} (h : okD d) : okE d.ent := bareE_ok ⟨h.2.1, h.2.2⟩
theorem ent_okW (d : Dra) : okW d.ent.word = true := by
  unfold Dra.ent
  rw [bareE_word, okW_eq]
  have := dword_size d.letters
  rw [decide_eq_true this.1, decide_eq_true (show (dword d.letters).size ≤ 255 by omega)]
  rfl
theorem dletter_ok {x : Int} (h : 0 ≤ x ∧ x ≤ 255) : 0 ≤ dletter x ∧ dletter x ≤ 255 := by unfold dletter; split <;> omega
theorem conv1 (W : World) (y : Int) : (convert 23 9 (.slice (some ⟨W.heap.size, 0, none⟩) 1 1)).run Tryd.prog (W.alloc (.cells #[.int .u8 y] 5)) = .ok (.string (strOfNums [y])) (W.alloc (.cells #[.int .u8 y] 5)) := by
  refine run_convert_bytes_arg (P := Tryd.prog) _ 23 5 Tryd.underlying23 Tryd.underlying5 W.heap.size 0 1 1 [y] rfl (fun i hi => ?_) 9 Tryd.underlying9
  obtain rfl : i = 0 := by omega
  exact cell_of_row _ _ 0 _ 5 (0, 0) (heap_alloc_new W (.cells #[.int .u8 y] 5))
/-- a slice of bytes, below block B -/
def RU (w : World) (B : Nat) (v : Value) (l : List Int) : Prop := ∃ (A : Option Addr) (c : Nat), v = .slice A l.length c ∧ l.length ≤ 9223372036854775807 ∧ (0 < l.length → ∃ b off, A = some ⟨b, off, none⟩ ∧ b < B ∧ ∀ (i : Nat) (x : Int), l[i]? = some x → w.cell? ⟨b, off + i, none⟩ = some (.int .u8 x))
/-- a slice of drafts, below block B -/
def RD (w : World) (B : Nat) (v : Value) (ds : List Dra) : Prop := ∃ (A : Option Addr) (c : Nat), v = .slice A ds.length c ∧ ds.length ≤ 9223372036854775807 ∧ (0 < ds.length → ∃ b off, A = some ⟨b, off, none⟩ ∧ b < B ∧
  ∀ (i : Nat) (d : Dra), ds[i]? = some d → ∃ lv, w.cell? ⟨b, off + i * 3, none⟩ = some lv ∧ w.cell? ⟨b, off + i * 3 + 1, none⟩ = some (.int .u32 d.weight) ∧ w.cell? ⟨b, off + i * 3 + 2, none⟩ = some (.bool d.gone) ∧ RU w B lv d.letters)
section
variable {w w' : World} {B B' : Nat} {v : Value} {l : List Int} {ds : List Dra}
theorem RU.below (h : RU w B v l) (hb : Below B w w') : RU w' B v l := by
  obtain ⟨A, c, h1, h2, h3⟩ := h
  refine ⟨A, c, h1, h2, fun h0 => ?_⟩
  obtain ⟨b, off, h4, h5, h6⟩ := h3 h0
  exact ⟨b, off, h4, h5, fun i x hi => old_cell hb (h6 i x hi) h5⟩
theorem RU.more (h : RU w B v l) (hB : B ≤ B') : RU w B' v l := by
  obtain ⟨A, c, h1, h2, h3⟩ := h
  refine ⟨A, c, h1, h2, fun h0 => ?_⟩
  obtain ⟨b, off, h4, h5, h6⟩ := h3 h0
  exact ⟨b, off, h4, by omega, h6⟩
theorem RU.form (h : RU w B v l) : ∃ (A : Option Addr) (c : Nat), v = .slice A l.length c ∧ l.length ≤ 9223372036854775807 := by
  obtain ⟨A, c, h1, h2, _⟩ := h
  exact ⟨A, c, h1, h2⟩
theorem RU.at_ {A : Option Addr} {n c : Nat} (h : RU w B (.slice A n c) l) {i : Nat} {x : Int} (hi : l[i]? = some x) : ∃ b off, A = some ⟨b, off, none⟩ ∧ b < B ∧ w.cell? ⟨b, off + i, none⟩ = some (.int .u8 x) := by
  obtain ⟨A', c', h1, h2, h3⟩ := h
  injection h1 with h1
  have h0 := (List.getElem?_eq_some_iff.1 hi).1
  obtain ⟨b, off, h4, h5, h6⟩ := h3 (by omega)
  exact ⟨b, off, h1.trans h4, h5, h6 i x hi⟩
theorem RD.below (h : RD w B v ds) (hb : Below B w w') : RD w' B v ds := by
  obtain ⟨A, c, h1, h2, h3⟩ := h
  refine ⟨A, c, h1, h2, fun h0 => ?_⟩
  obtain ⟨b, off, h4, h5, h6⟩ := h3 h0
  refine ⟨b, off, h4, h5, fun i d hi => ?_⟩
  obtain ⟨lv, k0, k1, k2, k3⟩ := h6 i d hi
  exact ⟨lv, old_cell hb k0 h5, old_cell hb k1 h5, old_cell hb k2 h5, k3.below hb⟩
theorem RD.more (h : RD w B v ds) (hB : B ≤ B') : RD w B' v ds := by
  obtain ⟨A, c, h1, h2, h3⟩ := h
  refine ⟨A, c, h1, h2, fun h0 => ?_⟩
  obtain ⟨b, off, h4, h5, h6⟩ := h3 h0
  refine ⟨b, off, h4, by omega, fun i d hi => ?_⟩
  obtain ⟨lv, k0, k1, k2, k3⟩ := h6 i d hi
  exact ⟨lv, k0, k1, k2, k3.more hB⟩
theorem RD.form (h : RD w B v ds) : ∃ (A : Option Addr) (c : Nat), v = .slice A ds.length c ∧ ds.length ≤ 9223372036854775807 := by
  obtain ⟨A, c, h1, h2, _⟩ := h
  exact ⟨A, c, h1, h2⟩
theorem RD.at_ {A : Option Addr} {n c : Nat} (h : RD w B (.slice A n c) ds) {i : Nat} {d : Dra} (hi : ds[i]? = some d) : ∃ b off lv, A = some ⟨b, off, none⟩ ∧ b < B ∧ w.cell? ⟨b, off + i * 3, none⟩ = some lv ∧ w.cell? ⟨b, off + i * 3 + 1, none⟩ = some (.int .u32 d.weight) ∧ w.cell? ⟨b, off + i * 3 + 2, none⟩ = some (.bool d.gone) ∧ RU w B lv d.letters := by
  obtain ⟨A', c', h1, h2, h3⟩ := h
  injection h1 with h1
  have h0 := (List.getElem?_eq_some_iff.1 hi).1
  obtain ⟨b, off, h4, h5, h6⟩ := h3 (by omega)
  obtain ⟨lv, k⟩ := h6 i d hi
  exact ⟨b, off, lv, h1.trans h4, h5, k⟩
end
/-- a row of entries that the call owns -/
abbrev OE (w : World) (base : Nat) (v : Value) (es : List Ent) : Prop := w.ownsRow base 42 3 v es.length (ecs es)
theorem ecs_append (a b : List Ent) : ecs (a ++ b) = ecs a ++ ecs b := by simp [ecs]
theorem OE.nil_ (w : World) (base : Nat) : OE w base (.slice none 0 0) [] := World.ownsRow_nil _ _ _ _
theorem OE.re {w : World} {base : Nat} {v : Value} {es : List Ent} (h : OE w base v es) : RE w w.heap.size v es := by
  rcases h.2 with ⟨rfl, h0⟩ | ⟨g, cap, cur, rfl, _, hh, hc, _⟩
  · obtain rfl : es = [] := List.eq_nil_of_length_eq_zero h0
    exact ⟨none, 0, rfl, by simp, fun h => absurd h (by simp)⟩
  · refine ⟨_, _, rfl, hc, fun _ => ⟨g, 0, rfl, heap_lt hh, fun j u hu => ?_⟩⟩
    have := h.cellAt j (by rw [← ecs_length]; exact (List.getElem?_eq_some_iff.1 hu).1)
    rw [Nat.zero_add, this, hu]
theorem OE.form {w : World} {base : Nat} {v : Value} {es : List Ent} (h : OE w base v es) : ∃ (A : Option Addr) (c : Nat), v = .slice A es.length c ∧ es.length ≤ c := h.re.form
theorem info_ent : (Tryd.prog.info? 42).map (fun i => (i.zero, i.size, i.bytes)) = some (some (.agg #[.string ⟨#[]⟩, .int .u32 0, .bool false]), 3, 24) := by kernel_rfl
theorem ent_one (e : Ent) : ∀ u ∈ e.cells, u.oneCell' = true := by
  intro u hu
  simp [Ent.cells] at hu
  rcases hu with rfl | rfl | rfl <;> rfl
/-! lists -/
def oneE (l : List Ent) (e : Ent) : List Ent := l.takeWhile (fun x => lexlt (wl x.word) (wl e.word)) ++ [bareE e] ++ l.filter fun x => lexlt (wl e.word) (wl x.word)
def withE (l es : List Ent) : List Ent := es.foldl oneE l
def entsOf (ds : List Dra) (most : Nat) : List Ent := (ds.take most).map Dra.ent
def listOf (ds : List Dra) (most : Nat) : List Ent := withE [] (entsOf ds most)
theorem oneE_length (l : List Ent) (e : Ent) : (oneE l e).length ≤ 2 * l.length + 1 := by
  unfold oneE
  have h1 := (List.takeWhile_prefix (fun x : Ent => lexlt (wl x.word) (wl e.word)) (l := l)).length_le
  have h2 := List.length_filter_le (fun x : Ent => lexlt (wl e.word) (wl x.word)) l
  simp only [List.length_append, List.length_cons, List.length_nil]
  omega
end Dw
end Go.Proofs.YtgjfhedgdbbinaaDoor
