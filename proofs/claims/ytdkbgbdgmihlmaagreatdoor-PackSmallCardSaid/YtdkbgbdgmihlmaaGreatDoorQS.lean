/- Entries, lists that are drawn (cedillaref05): what they are, how they lie. -/
import Derived.Test.YtdkbgbdgmihlmaaGreatDoorPBase
import Derived.Test.YtdkbgbdgmihlmaaGreatDoorDR1
import Derived.Test.YtdkbgbdgmihlmaaGreatDoorQP
import Derived.Laws.BytesArg
import Derived.Test.YtdkbgbdgmihlmaaGreatDoorTools
import Derived.Test.YtdkbgbdgmihlmaaGreatDoorDLawP
namespace Go.Proofs.YtdkbgbdgmihlmaaGreatDoor
open Go.RowKit
set_option linter.unusedSimpArgs false
set_option linter.unusedVariables false
set_option linter.unnecessarySimpa false
namespace Dw
/-! bare -/
def bareE (e : Ent) : Ent := if e.gone then ⟨e.word, 0, e.gone⟩ else e
theorem bareE_ok {e : Ent} (h : okE e) : okE (bareE e) := by unfold bareE; split; exact ⟨by simp, by simp⟩; exact h
theorem bareE_word (e : Ent) : (bareE e).word = e.word := by unfold bareE; split <;> rfl
/-! drafts -/
structure Dra where
  letters : List Int
  weight : Int
  gone : Bool
def okD (d : Dra) : Prop := (∀ x ∈ d.letters, 0 ≤ x ∧ x ≤ 255) ∧ 0 ≤ d.weight ∧ d.weight < 4294967296
def dletter (x : Int) : Int := if x % 8 < 7 then 97 + x % 8 % 3 else x
def dbody (l : List Int) : ByteArray := l.foldl (fun s x => s ++ strOfNums [dletter x]) ⟨#[]⟩
def dword (l : List Int) : ByteArray := if (dbody (l.take 9)).toList = [] then ⟨#[97]⟩ else dbody (l.take 9)
def Dra.ent (d : Dra) : Ent := bareE ⟨dword d.letters, d.weight, d.gone⟩
theorem strOf1 (x : Int) : (strOfNums [x]).size = 1 := rfl
theorem dbody_snoc (l : List Int) (x : Int) : dbody (l ++ [x]) = dbody l ++ strOfNums [dletter x] := by simp [dbody]
theorem dbody_size (l : List Int) : (dbody l).size = l.length := by
  have key : ∀ (l : List Int) (s : ByteArray), (l.foldl (fun s x => s ++ strOfNums [dletter x]) s).size = s.size + l.length := by
    intro l
    induction l with
    | nil => intro s; simp
    | cons x l ih => intro s; rw [List.foldl_cons, ih, ByteArray.size_append, strOf1]; simp; omega
  have := key l ⟨#[]⟩
  rw [show (⟨#[]⟩ : ByteArray).size = 0 from rfl, Nat.zero_add] at this
  exact this
theorem toList_length (s : ByteArray) : s.toList.length = s.size := by rw [ByteArray.toList_eq, Array.length_toList]; rfl
theorem dword_size (l : List Int) : 1 ≤ (dword l).size ∧ (dword l).size ≤ 9 := by
  unfold dword
  have h1 := toList_length (dbody (l.take 9))
  have h2 := dbody_size (l.take 9)
  have h3 : (l.take 9).length ≤ 9 := by simp; omega
  split
  · decide
  · rename_i h
    refine ⟨?_, by omega⟩
    rcases Nat.eq_zero_or_pos (dbody (l.take 9)).size with h4 | h4
    · exact absurd (List.eq_nil_of_length_eq_zero (h1.trans h4)) h
    · exact h4
theorem ent_okE {d : Dra} (h : okD d) : okE d.ent := bareE_ok ⟨h.2.1, h.2.2⟩
theorem ent_okW (d : Dra) : okW d.ent.word = true := by
  unfold Dra.ent
  rw [bareE_word, okW_eq]
  have := dword_size d.letters
  rw [decide_eq_true this.1, decide_eq_true (show (dword d.letters).size ≤ 255 by omega)]
  rfl
theorem conv1 (W : World) (y : Int) : (convert 23 9 (.slice (some ⟨W.heap.size, 0, none⟩) 1 1)).run Tryz.prog (W.alloc (.cells #[.int .u8 y] 5)) = .ok (.string (strOfNums [y])) (W.alloc (.cells #[.int .u8 y] 5)) := by
  refine run_convert_bytes_arg (P := Tryz.prog) _ 23 5 Tryz.underlying23 Tryz.underlying5 W.heap.size 0 1 1 [y] rfl (fun i hi => ?_) 9 Tryz.underlying9
  obtain rfl : i = 0 := by omega
  exact cell_of_row _ _ 0 _ 5 (0, 0) (heap_alloc_new W (.cells #[.int .u8 y] 5))
/-- a slice of bytes, below block B -/
def RU (w : World) (B : Nat) (v : Value) (l : List Int) : Prop := ∃ (A : Option Addr) (c : Nat), v = .slice A l.length c ∧ l.length ≤ 9223372036854775807 ∧ (0 < l.length → ∃ b off, A = some ⟨b, off, none⟩ ∧ b < B ∧ ∀ (i : Nat) (x : Int), l[i]? = some x → w.cell? ⟨b, off + i, none⟩ = some (.int .u8 x))
/-- a slice of drafts, below block B -/
def RDs (w : World) (B : Nat) (v : Value) (ds : List Dra) : Prop := ∃ (A : Option Addr) (c : Nat), v = .slice A ds.length c ∧ ds.length ≤ 9223372036854775807 ∧ (0 < ds.length → ∃ b off, A = some ⟨b, off, none⟩ ∧ b < B ∧
  ∀ (i : Nat) (d : Dra), ds[i]? = some d → ∃ lv, w.cell? ⟨b, off + i * 3, none⟩ = some lv ∧ w.cell? ⟨b, off + i * 3 + 1, none⟩ = some (.int .u32 d.weight) ∧ w.cell? ⟨b, off + i * 3 + 2, none⟩ = some (.bool d.gone) ∧ RU w B lv d.letters)
section
variable {w w' : World} {B B' : Nat} {v : Value} {l : List Int} {ds : List Dra}
theorem RU.below (h : RU w B v l) (hb : Below B w w') : RU w' B v l := by
  obtain ⟨A, c, h1, h2, h3⟩ := h
  refine ⟨A, c, h1, h2, fun h0 => ?_⟩
  obtain ⟨b, off, h4, h5, h6⟩ := h3 h0
  exact ⟨b, off, h4, h5, fun i x hi => old_cell hb (h6 i x hi) h5⟩
theorem RU.more (h : RU w B v l) (hB : B ≤ B') : RU w B' v l := by
  obtain ⟨A, c, h1, h2, h3⟩ := h
  refine ⟨A, c, h1, h2, fun h0 => ?_⟩
  obtain ⟨b, off, h4, h5, h6⟩ := h3 h0
  exact ⟨b, off, h4, by omega, h6⟩
theorem RU.form (h : RU w B v l) : ∃ (A : Option Addr) (c : Nat), v = .slice A l.length c ∧ l.length ≤ 9223372036854775807 := by
  obtain ⟨A, c, h1, h2, _⟩ := h
  exact ⟨A, c, h1, h2⟩
theorem RU.at_ {A : Option Addr} {n c : Nat} (h : RU w B (.slice A n c) l) {i : Nat} {x : Int} (hi : l[i]? = some x) : ∃ b off, A = some ⟨b, off, none⟩ ∧ b < B ∧ w.cell? ⟨b, off + i, none⟩ = some (.int .u8 x) := by
  obtain ⟨A', c', h1, h2, h3⟩ := h
  injection h1 with h1
  have h0 := (List.getElem?_eq_some_iff.1 hi).1
  obtain ⟨b, off, h4, h5, h6⟩ := h3 (by omega)
  exact ⟨b, off, h1.trans h4, h5, h6 i x hi⟩
theorem RDs.below (h : RDs w B v ds) (hb : Below B w w') : RDs w' B v ds := by
  obtain ⟨A, c, h1, h2, h3⟩ := h
  refine ⟨A, c, h1, h2, fun h0 => ?_⟩
  obtain ⟨b, off, h4, h5, h6⟩ := h3 h0
  refine ⟨b, off, h4, h5, fun i d hi => ?_⟩
  obtain ⟨lv, k0, k1, k2, k3⟩ := h6 i d hi
  exact ⟨lv, old_cell hb k0 h5, old_cell hb k1 h5, old_cell hb k2 h5, k3.below hb⟩
theorem RDs.more (h : RDs w B v ds) (hB : B ≤ B') : RDs w B' v ds := by
  obtain ⟨A, c, h1, h2, h3⟩ := h
  refine ⟨A, c, h1, h2, fun h0 => ?_⟩
  obtain ⟨b, off, h4, h5, h6⟩ := h3 h0
  refine ⟨b, off, h4, by omega, fun i d hi => ?_⟩
  obtain ⟨lv, k0, k1, k2, k3⟩ := h6 i d hi
  exact ⟨lv, k0, k1, k2, k3.more hB⟩
theorem RDs.form (h : RDs w B v ds) : ∃ (A : Option Addr) (c : Nat), v = .slice A ds.length c ∧ ds.length ≤ 9223372036854775807 := by
  obtain ⟨A, c, h1, h2, _⟩ := h
  exact ⟨A, c, h1, h2⟩
theorem RDs.at_ {A : Option Addr} {n c : Nat} (h : RDs w B (.slice A n c) ds) {i : Nat} {d : Dra} (hi : ds[i]? = some d) : ∃ b off lv, A = some ⟨b, off, none⟩ ∧ b < B ∧ w.cell? ⟨b, off + i * 3, none⟩ = some lv ∧ w.cell? ⟨b, off + i * 3 + 1, none⟩ = some (.int .u32 d.weight) ∧ w.cell? ⟨b, off + i * 3 + 2, none⟩ = some (.bool d.gone) ∧ RU w B lv d.letters := by
  obtain ⟨A', c', h1, h2, h3⟩ := h
  injection h1 with h1
  have h0 := (List.getElem?_eq_some_iff.1 hi).1
  obtain ⟨b, off, h4, h5, h6⟩ := h3 (by omega)
  obtain ⟨lv, k⟩ := h6 i d hi
  exact ⟨b, off, lv, h1.trans h4, h5, k⟩
end
/-- a row of entries that the call owns -/
abbrev OE (w : World) (base : Nat) (v : Value) (es : List Ent) : Prop := w.ownsRow base 47 3 v es.length (ecs es)
theorem ecs_append (a b : List Ent) : ecs (a ++ b) = ecs a ++ ecs b := by simp [ecs]
theorem OE.nil_ (w : World) (base : Nat) : OE w base (.slice none 0 0) [] := World.ownsRow_nil _ _ _ _
theorem OE.re {w : World} {base : Nat} {v : Value} {es : List Ent} (h : OE w base v es) : RE w w.heap.size v es := by
  rcases h.2 with ⟨rfl, h0⟩ | ⟨g, cap, cur, rfl, _, hh, hc, _⟩
  · obtain rfl : es = [] := List.eq_nil_of_length_eq_zero h0
    exact ⟨none, 0, rfl, by simp, fun h => absurd h (by simp)⟩
  · refine ⟨_, _, rfl, hc, fun _ => ⟨g, 0, rfl, heap_lt hh, fun j u hu => ?_⟩⟩
    have := h.cellAt j (by rw [← ecs_length]; exact (List.getElem?_eq_some_iff.1 hu).1)
    rw [Nat.zero_add, this, hu]
theorem OE.form {w : World} {base : Nat} {v : Value} {es : List Ent} (h : OE w base v es) : ∃ (A : Option Addr) (c : Nat), v = .slice A es.length c ∧ es.length ≤ c := h.re.form
theorem info_ent : (Tryz.prog.info? 47).map (fun i => (i.zero, i.size, i.bytes)) = some (some (.agg #[.string ⟨#[]⟩, .int .u32 0, .bool false]), 3, 24) := by kernel_rfl
theorem ent_one (e : Ent) : ∀ u ∈ e.cells, u.oneCell' = true := by
  intro u hu
  simp [Ent.cells] at hu
  rcases hu with rfl | rfl | rfl <;> rfl
/-! lists -/
def oneE (l : List Ent) (e : Ent) : List Ent := l.takeWhile (fun x => lexlt (wl x.word) (wl e.word)) ++ [bareE e] ++ l.filter fun x => lexlt (wl e.word) (wl x.word)
def withE (l es : List Ent) : List Ent := es.foldl oneE l
def entsOf (ds : List Dra) (most : Nat) : List Ent := (ds.take most).map Dra.ent
def listOf (ds : List Dra) (most : Nat) : List Ent := withE [] (entsOf ds most)
end Dw
end Go.Proofs.YtdkbgbdgmihlmaaGreatDoor

namespace Go.Proofs.YtdkbgbdgmihlmaaGreatDoor
open Go.RowKit
set_option linter.unusedSimpArgs false
set_option linter.unusedVariables false
set_option linter.unnecessarySimpa false
namespace Dw

theorem two_ents {w W : World} {x y z x' y' z' : Value} {t t' : TypeId} (h : (w.alloc (.cells #[x, y, z] t)).alloc (.cells #[x', y', z'] t') = W) : Below w.heap.size w W ∧ W.cell? ⟨w.heap.size, 0, none⟩ = some x ∧ W.cell? ⟨w.heap.size, 1, none⟩ = some y ∧ W.cell? ⟨w.heap.size, 2, none⟩ = some z ∧
    W.heap[w.heap.size + 1]? = some (.cells #[x', y', z'] t' (0, 0)) ∧ W.heap[w.heap.size]? = some (.cells #[x, y, z] t (0, 0)) := by
  obtain ⟨W0, hW0⟩ : ∃ W0, w.alloc (.cells #[x, y, z] t) = W0 := ⟨_, rfl⟩
  rw [hW0] at h
  obtain ⟨h1, h2, h3, h4, h6, h5⟩ := box3 hW0
  obtain ⟨k1, k2, k3, k4, k6, k5⟩ := box3 h
  rw [h5] at k6
  exact ⟨h1.trans (k1.mono h1.size), cL k1 h2, cL k1 h3, cL k1 h4, k6, (k1.block _ (by omega)).trans h6⟩
set_option maxHeartbeats 4000000 in
set_option maxRecDepth 100000 in
theorem bare_g (w : World) (e : Ent) (hg : e.gone = true) : Calls Tryz.prog 36 #[eval e] w fun e1 w1 => e1 = .returned (eval (bareE e)) ∧ Below w.heap.size w w1 := by
 refine calls_of_wp Tryz.func36 rfl ?_
 refine Fact.en 7 fun fr hf hT => ?_
 have s0 := hT 0 _ rfl
 clear hT
 simp only [eval] at s0
 have HG := Lib.hid hg; clear hg
 refine Fact.sq fun K1 hK1 => ?_
 refine rg ?_
 iterate 2 (refine fp fun K Z => ?_; go_simp; apply Z.out; clear Z K)
 refine Fact.z hf fun fr1 hf1 hT => ?_
 have hKp : _ ∧ _ := ⟨hT 1, hT 2⟩
 simp (decide := true) only [Fact.G, hf.size, reduceIte] at hKp
 replace hf := hf1; clear hT hf1 s0
 obtain ⟨s1, s2⟩ := hKp
 obtain ⟨W1, hW1⟩ : ∃ x, (w.alloc (.cells #[.string e.word, .int .u32 e.weight, .bool e.gone] 47)).alloc (.cells #[.string ⟨#[]⟩, .int .u32 0, .bool false] 47) = x := ⟨_, rfl⟩
 rw [hW1]
 obtain ⟨hb1, x0, x1, x2, hp, hq⟩ := two_ents hW1
 try simp only [World.size_alloc] at s2
 clear hW1
 refine nx (hK1 _ _ ?_)
 refine Fact.sq fun K2 hK2 => ?_
 refine Fact.sq fun K3 hK3 => ?_
 refine rg ?_
 have b3 := hf.b 3
 iterate 2 (refine fp fun K Z => ?_; go_simp; apply Z.out; clear Z K)
 refine Fact.z hf fun fr1 hf1 hT => ?_
 have hKp : _ ∧ _ ∧ _ := ⟨hT 1, hT 2, hT 4⟩
 simp (decide := true) only [Fact.G, hf.size, reduceIte, s1, s2] at hKp
 replace hf := hf1; clear hT hf1 s1 s2 b3
 obtain ⟨s1, s2, s4⟩ := hKp
 refine nx (hK3 _ _ ?_)
 rw [HG.out] at s4
 refine Fact.cond_t s4 ?_
 have fz1 := frozen_of (i := 1) hq
 refine rg ?_
 have b5 := hf.b 5
 iterate 2 (refine fp fun K Z => ?_; go_simp; apply Z.out; clear Z K)
 refine Fact.z hf fun fr1 hf1 hT => ?_
 have hKp : _ ∧ _ := ⟨hT 1, hT 2⟩
 simp (decide := true) only [Fact.G, reduceIte, s1, s2] at hKp
 replace hf := hf1; clear hT hf1 s1 s2 s4 b5
 obtain ⟨s1, s2⟩ := hKp
 obtain ⟨W2, hW2⟩ : ∃ x, W1.setCell ⟨w.heap.size, 1, none⟩ (.int .u32 0) = x := ⟨_, rfl⟩
 rw [hW2]
 have hb2 : Below w.heap.size w W2 := by rw [← hW2]; exact hb1.setCell (p := ⟨w.heap.size, 1, none⟩) (Nat.le_refl _) _
 have hq2 := set_block (i := 1) hq (.int .u32 0)
 rw [hW2] at hq2
 have hp2 : W2.heap[w.heap.size + 1]? = some (.cells #[.string ⟨#[]⟩, .int .u32 0, .bool false] 47 (0, 0)) := by rw [← hW2]; exact (Below.heap_setCell _ _ _ _ (by simp)).trans hp
 clear hW2 hp hq x0 x1 x2 hb1
 have hp := hp2; have hb1 := hb2; clear hp2 hb2
 have x0 := cell_of_row _ _ 0 _ 47 (0, 0) hq2; have x1 := cell_of_row _ _ 1 _ 47 (0, 0) hq2; have x2 := cell_of_row _ _ 2 _ 47 (0, 0) hq2
 simp at x0 x1 x2
 refine nx (hK2 _ _ ?_)
 have fz0 := frozen_of (i := 0) hp; have fz1 := frozen_of (i := 1) hp; have fz2 := frozen_of (i := 2) hp
 have g0 := cell_of_row _ _ 0 _ 47 (0, 0) hp; have g1 := cell_of_row _ _ 1 _ 47 (0, 0) hp; have g2 := cell_of_row _ _ 2 _ 47 (0, 0) hp
 simp at g0 g1 g2
 refine Fact.sq fun K4 hK4 => ?_
 refine rg ?_
 have b6 := hf.b 6
 iterate 2 (refine fp fun K Z => ?_; go_simp; apply Z.out; clear Z K)
 refine Fact.z hf fun fr1 hf1 hT => ?_
 have hKp := hT 2
 simp (decide := true) only [Fact.G, reduceIte, s2] at hKp
 replace hf := hf1; clear hT hf1 s1 s2 b6
 have s2 := hKp; clear hKp
 refine nx (hK4 _ _ ?_)
 refine wp_ret ?_
 refine ret_c rfl hf s2 (set_block (set_block (set_block hp _) _) _) Tryz.underlying47 rfl (by kernel_rfl) ⟨?_, ((hb1.setCell (p := ⟨w.heap.size + 1, 0, none⟩) (Nat.le_succ _) _).setCell (p := ⟨w.heap.size + 1, 1, none⟩) (Nat.le_succ _) _).setCell (p := ⟨w.heap.size + 1, 2, none⟩) (Nat.le_succ _) _⟩
 rw [show bareE e = ⟨e.word, 0, e.gone⟩ from if_pos HG.out]
 rfl
set_option maxHeartbeats 4000000 in
set_option maxRecDepth 100000 in
theorem bare_n (w : World) (e : Ent) (hg : e.gone = false) : Calls Tryz.prog 36 #[eval e] w fun e1 w1 => e1 = .returned (eval (bareE e)) ∧ Below w.heap.size w w1 := by
 refine calls_of_wp Tryz.func36 rfl ?_
 refine Fact.en 7 fun fr hf hT => ?_
 have s0 := hT 0 _ rfl
 clear hT
 simp only [eval] at s0
 have HG := Lib.hid hg; clear hg
 refine Fact.sq fun K1 hK1 => ?_
 refine rg ?_
 iterate 2 (refine fp fun K Z => ?_; go_simp; apply Z.out; clear Z K)
 refine Fact.z hf fun fr1 hf1 hT => ?_
 have hKp : _ ∧ _ := ⟨hT 1, hT 2⟩
 simp (decide := true) only [Fact.G, hf.size, reduceIte] at hKp
 replace hf := hf1; clear hT hf1 s0
 obtain ⟨s1, s2⟩ := hKp
 obtain ⟨W1, hW1⟩ : ∃ x, (w.alloc (.cells #[.string e.word, .int .u32 e.weight, .bool e.gone] 47)).alloc (.cells #[.string ⟨#[]⟩, .int .u32 0, .bool false] 47) = x := ⟨_, rfl⟩
 rw [hW1]
 obtain ⟨hb1, x0, x1, x2, hp, hq⟩ := two_ents hW1
 try simp only [World.size_alloc] at s2
 clear hW1
 refine nx (hK1 _ _ ?_)
 refine Fact.sq fun K2 hK2 => ?_
 refine Fact.sq fun K3 hK3 => ?_
 refine rg ?_
 have b3 := hf.b 3
 iterate 2 (refine fp fun K Z => ?_; go_simp; apply Z.out; clear Z K)
 refine Fact.z hf fun fr1 hf1 hT => ?_
 have hKp : _ ∧ _ ∧ _ := ⟨hT 1, hT 2, hT 4⟩
 simp (decide := true) only [Fact.G, hf.size, reduceIte, s1, s2] at hKp
 replace hf := hf1; clear hT hf1 s1 s2 b3
 obtain ⟨s1, s2, s4⟩ := hKp
 refine nx (hK3 _ _ ?_)
 rw [HG.out] at s4
 refine Fact.cond_f s4 ?_
 refine wp_skip ?_
 refine nx (hK2 _ _ ?_)
 have fz0 := frozen_of (i := 0) hp; have fz1 := frozen_of (i := 1) hp; have fz2 := frozen_of (i := 2) hp
 have g0 := cell_of_row _ _ 0 _ 47 (0, 0) hp; have g1 := cell_of_row _ _ 1 _ 47 (0, 0) hp; have g2 := cell_of_row _ _ 2 _ 47 (0, 0) hp
 simp at g0 g1 g2
 refine Fact.sq fun K4 hK4 => ?_
 refine rg ?_
 have b6 := hf.b 6
 iterate 2 (refine fp fun K Z => ?_; go_simp; apply Z.out; clear Z K)
 refine Fact.z hf fun fr1 hf1 hT => ?_
 have hKp := hT 2
 simp (decide := true) only [Fact.G, reduceIte, s2] at hKp
 replace hf := hf1; clear hT hf1 s1 s2 s4 b6
 have s2 := hKp; clear hKp
 refine nx (hK4 _ _ ?_)
 refine wp_ret ?_
 refine ret_c rfl hf s2 (set_block (set_block (set_block hp _) _) _) Tryz.underlying47 rfl (by kernel_rfl) ⟨?_, ((hb1.setCell (p := ⟨w.heap.size + 1, 0, none⟩) (Nat.le_succ _) _).setCell (p := ⟨w.heap.size + 1, 1, none⟩) (Nat.le_succ _) _).setCell (p := ⟨w.heap.size + 1, 2, none⟩) (Nat.le_succ _) _⟩
 rw [show bareE e = e from if_neg (by rw [HG.out]; simp)]
 rfl
theorem bare (w : World) (e : Ent) : Calls Tryz.prog 36 #[eval e] w fun e1 w1 => e1 = .returned (eval (bareE e)) ∧ Below w.heap.size w w1 := by
  cases hg : e.gone with
  | true => exact bare_g w e hg
  | false => exact bare_n w e hg

set_option maxHeartbeats 4000000 in
set_option maxRecDepth 100000 in
theorem dentry (w : World) (d : Dra) (lv : Value) (hru : RU w w.heap.size lv d.letters) (hx : ∀ x ∈ d.letters, 0 ≤ x ∧ x ≤ 255) : Calls Tryz.prog 12 #[.agg #[lv, .int .u32 d.weight, .bool d.gone]] w fun e1 w1 => e1 = .returned (eval d.ent) ∧ Below w.heap.size w w1 := by
 refine calls_of_wp Tryz.func12 rfl ?_
 refine Fact.en 43 fun fr hf hT => ?_
 have s0 := hT 0 _ rfl
 clear hT
 have hru0 := hru
 obtain ⟨A, c, rfl, hlc⟩ := hru.form
 clear hru
 have HX := Lib.hid hx; clear hx
 have hcv := conv1
 refine Fact.sq fun K1 hK1 => ?_
 refine rg ?_
 iterate 2 (refine fp fun K Z => ?_; go_simp; apply Z.out; clear Z K)
 refine Fact.z hf fun fr1 hf1 hT => ?_
 have hKp : _ ∧ _ := ⟨hT 1, hT 2⟩
 simp (decide := true) only [Fact.G, hf.size, reduceIte] at hKp
 replace hf := hf1; clear hT hf1 s0
 obtain ⟨s1, s2⟩ := hKp
 obtain ⟨W1, hW1⟩ : ∃ x, (w.alloc (.cells #[.slice A d.letters.length c, .int .u32 d.weight, .bool d.gone] 26)).alloc (.cells #[.string ⟨#[]⟩, .int .u32 0, .bool false] 47) = x := ⟨_, rfl⟩
 rw [hW1]
 obtain ⟨hb1, x0, x1, x2, hp, -⟩ := two_ents hW1
 try simp only [World.size_alloc] at s2
 clear hW1
 have hs1 := hb1.size
 have hz1 : w.heap.size + 1 < W1.heap.size := heap_lt hp
 refine nx (hK1 _ _ ?_)
 refine Fact.sq fun K2 hK2 => ?_
 refine rg ?_
 refine fp fun K Z => ?_
 go_simp
 apply Z.out; clear Z K
 refine Fact.z hf fun fr1 hf1 hT => ?_
 have hKp : _ ∧ _ ∧ _ := ⟨hT 1, hT 2, hT 3⟩
 simp (decide := true) only [Fact.G, hf.size, reduceIte, s1, s2] at hKp
 replace hf := hf1; clear hT hf1 s1 s2
 obtain ⟨s1, s2, s3⟩ := hKp
 refine nx (hK2 _ _ ?_)
 refine Fact.sq fun K3 hK3 => ?_
 refine Fact.sq fun K4 hK4 => ?_
 refine rg ?_
 refine fp fun K Z => ?_
 go_simp
 apply Z.out; clear Z K
 refine Fact.z hf fun fr1 hf1 hT => ?_
 have hKp : _ ∧ _ ∧ _ ∧ _ := ⟨hT 1, hT 2, hT 3, hT 4⟩
 simp (decide := true) only [Fact.G, hf.size, reduceIte, s1, s2, s3] at hKp
 replace hf := hf1; clear hT hf1 s1 s2 s3
 obtain ⟨s1, s2, s3, s4⟩ := hKp
 refine nx (hK4 _ _ ?_)
 refine wp_block ?_
 refine wp_loop_ghost (fun gk fr wr => ∃ (j : Nat), gk = 9 - j ∧ j ≤ d.letters.length ∧ j ≤ 9 ∧ Fact.Fr 43 fr ∧ fr.tmps[1]? = some (.pointer (some ⟨w.heap.size, 0, none⟩)) ∧ fr.tmps[2]? = some (.pointer (some ⟨w.heap.size + 1, 0, none⟩)) ∧ fr.tmps[3]? = some (.string (dbody (d.letters.take j))) ∧ fr.tmps[4]? = some (.int .i64 j) ∧ Below W1.heap.size W1 wr) (9) ?_ ?_
 · (
 exact ⟨0, rfl, Nat.zero_le _, Nat.zero_le _, hf, s1, s2, s3, s4, Below.refl _ _⟩)
 · (
 clear hf s1 s2 s3 s4
 rintro gk fr wr ⟨j, hk, hj, hj9, hf, s1, s2, s3, s4, hb⟩
 have HK := Lib.hid hk; clear hk
 have y0 := cL hb x0
 have hbr := hb1.trans (hb.mono hs1)
 rcases Nat.lt_or_ge j d.letters.length with hlt | hge
 · (
 rcases Nat.lt_or_ge j 9 with h9 | h9
 · (
 have q1 : decide (j < d.letters.length) = true := decide_eq_true (by omega)
 have q2 : decide ((j : Int) < 9) = true := decide_eq_true (by omega)
 refine Fact.sq fun K5 hK5 => ?_
 refine Fact.sq fun K6 hK6 => ?_
 refine rg ?_
 have b6 := hf.b 6
 have b7 := hf.b 7
 have b8 := hf.b 8
 have b9 := hf.b 9
 have b10 := hf.b 10
 have b11 := hf.b 11
 have b12 := hf.b 12
 have b13 := hf.b 13
 iterate 6 (refine fp fun K Z => ?_; go_simp; apply Z.out; clear Z K)
 refine og 5 11 true ?_ fun K Z => ?_
 · (
 simp (decide := true) only [Fact.G, reduceIte, hf.size, q1, q2])
 go_simp
 apply Z.out; clear Z K
 refine og 5 11 true ?_ fun K Z => ?_
 · (
 simp (decide := true) only [Fact.G, reduceIte, hf.size, q1, q2])
 go_simp
 apply Z.out; clear Z K
 refine fp fun K Z => ?_
 go_simp
 apply Z.out; clear Z K
 refine Fact.z hf fun fr1 hf1 hT => ?_
 have hKp : _ ∧ _ ∧ _ ∧ _ ∧ _ := ⟨hT 1, hT 2, hT 3, hT 4, hT 14⟩
 simp (decide := true) only [Fact.G, hf.size, reduceIte, s1, s2, s3, s4] at hKp
 replace hf := hf1; clear hT hf1 s1 s2 s3 s4 b6 b7 b8 b9 b10 b11 b12 b13
 obtain ⟨s1, s2, s3, s4, s14⟩ := hKp
 refine nx (hK6 _ _ ?_)
 refine Fact.cond_t s14 ?_
 clear q1 q2
 obtain ⟨x, hx⟩ : ∃ x, d.letters[j]? = some x := ⟨_, List.getElem?_eq_getElem hlt⟩
 obtain ⟨b, off, rfl, hbb, z0⟩ := (hru0.below hbr).at_ hx
 have hx8 := HX.out x (List.mem_of_getElem? hx)
 have hst : dbody (d.letters.take (j + 1)) = dbody (d.letters.take j) ++ strOfNums [dletter x] := by rw [List.take_add_one, hx]; exact dbody_snoc _ _
 have hds : (dbody (d.letters.take j)).size ≤ 9 := by rw [dbody_size]; simp; omega
 have h1s : (strOfNums [dletter x]).size ≤ 1 := Nat.le_of_eq (strOf1 _)
 have HST := Lib.hid hst; clear hst hx
 refine wp_skip ?_
 refine nx (hK5 _ _ ?_)
 refine Fact.sq fun K7 hK7 => ?_
 refine wp_block ?_
 refine Fact.sq fun K8 hK8 => ?_
 refine rg ?_
 have b17 := hf.b 17
 have b18 := hf.b 18
 have b19 := hf.b 19
 have b20 := hf.b 20
 have b21 := hf.b 21
 iterate 3 (refine fp fun K Z => ?_; go_simp; apply Z.out; clear Z K)
 refine fp fun K Z => ?_
 go_simp
 try rw [if_pos (by omega)]
 apply Z.out; clear Z K
 iterate 2 (refine fp fun K Z => ?_; go_simp; apply Z.out; clear Z K)
 refine Fact.z hf fun fr1 hf1 hT => ?_
 have hKp : _ ∧ _ ∧ _ ∧ _ ∧ _ := ⟨hT 1, hT 2, hT 3, hT 4, hT 5⟩
 simp (decide := true) only [Fact.G, hf.size, reduceIte, s1, s2, s3, s4] at hKp
 replace hf := hf1; clear hT hf1 s1 s2 s3 s4 s14 b17 b18 b19 b20 b21
 obtain ⟨s1, s2, s3, s4, s5⟩ := hKp
 refine nx (hK8 _ _ ?_)
 refine Fact.sq fun K9 hK9 => ?_
 refine Fact.sq fun K10 hK10 => ?_
 refine rg ?_
 have b22 := hf.b 22
 have b23 := hf.b 23
 refine fp fun K Z => ?_
 go_simp
 apply Z.out; clear Z K
 refine fp fun K Z => ?_
 go_simp
 rw [Int.tmod_eq_emod_of_nonneg hx8.1]
 apply Z.out; clear Z K
 refine fp fun K Z => ?_
 go_simp
 apply Z.out; clear Z K
 refine Fact.z hf fun fr1 hf1 hT => ?_
 have hKp : _ ∧ _ ∧ _ ∧ _ ∧ _ ∧ _ := ⟨hT 1, hT 2, hT 3, hT 4, hT 5, hT 24⟩
 simp (decide := true) only [Fact.G, hf.size, reduceIte, s1, s2, s3, s4, s5] at hKp
 replace hf := hf1; clear hT hf1 s1 s2 s3 s4 s5 b22 b23
 obtain ⟨s1, s2, s3, s4, s5, s24⟩ := hKp
 refine nx (hK10 _ _ ?_)
 refine Fact.cond_s s24 (fun hq7 => ?_) (fun hq7 => ?_)
 · (
 have HQ := Lib.hid hq7; clear hq7
 have h7 := of_decide_eq_true HQ.out
 have hdl : dletter x = 97 + x % 8 % 3 := if_pos h7
 rw [hdl] at h1s
 have HDL := Lib.hid hdl; clear hdl
 refine rg ?_
 have b25 := hf.b 25
 have b26 := hf.b 26
 have b27 := hf.b 27
 have b28 := hf.b 28
 refine fp fun K Z => ?_
 go_simp
 apply Z.out; clear Z K
 refine fp fun K Z => ?_
 go_simp
 rw [Int.tmod_eq_emod_of_nonneg hx8.1]
 apply Z.out; clear Z K
 refine fp fun K Z => ?_
 go_simp
 rw [Int.tmod_eq_emod_of_nonneg (show 0 ≤ x % 8 by omega)]
 apply Z.out; clear Z K
 refine fp fun K Z => ?_
 go_simp
 try simp (disch := omega) only [Fact.W]
 try simp (disch := omega) only [Fact.wrap_u8]
 apply Z.out; clear Z K
 refine fp fun K Z => ?_
 go_simp
 apply Z.out; clear Z K
 refine Fact.z hf fun fr1 hf1 hT => ?_
 have hKp : _ ∧ _ ∧ _ ∧ _ ∧ _ := ⟨hT 1, hT 2, hT 3, hT 4, hT 5⟩
 simp (decide := true) only [Fact.G, hf.size, reduceIte, s1, s2, s3, s4] at hKp
 replace hf := hf1; clear hT hf1 s1 s2 s3 s4 s5 s24 b25 b26 b27 b28
 obtain ⟨s1, s2, s3, s4, s5⟩ := hKp
 refine nx (hK9 _ _ ?_)
 refine rg ?_
 have b29 := hf.b 29
 have b30 := hf.b 30
 have b31 := hf.b 31
 have b32 := hf.b 32
 have b33 := hf.b 33
 iterate 4 (refine fp fun K Z => ?_; go_simp; apply Z.out; clear Z K)
 refine fp fun K Z => ?_
 go_simp
 try simp (disch := omega) only [Fact.W]
 rw [if_neg (by omega), Oper.upon_value]
 apply Z.out; clear Z K
 refine fp fun K Z => ?_
 go_simp
 apply Z.out; clear Z K
 refine Fact.z hf fun fr1 hf1 hT => ?_
 have hKp : _ ∧ _ ∧ _ ∧ _ := ⟨hT 1, hT 2, hT 3, hT 4⟩
 simp (decide := true) only [Fact.G, hf.size, reduceIte, s1, s2, s4] at hKp
 replace hf := hf1; clear hT hf1 s1 s2 s3 s4 s5 b29 b30 b31 b32 b33
 obtain ⟨s1, s2, s3, s4⟩ := hKp
 refine Fact.block_normal ?_
 refine nx (hK7 _ _ ?_)
 refine rg ?_
 have b15 := hf.b 15
 have b16 := hf.b 16
 refine fp fun K Z => ?_
 go_simp
 apply Z.out; clear Z K
 refine fp fun K Z => ?_
 go_simp
 try simp (disch := omega) only [Fact.W]
 apply Z.out; clear Z K
 refine fp fun K Z => ?_
 go_simp
 apply Z.out; clear Z K
 refine Fact.z hf fun fr1 hf1 hT => ?_
 have hKp : _ ∧ _ ∧ _ ∧ _ := ⟨hT 1, hT 2, hT 3, hT 4⟩
 simp (decide := true) only [Fact.G, hf.size, reduceIte, s1, s2, s3] at hKp
 replace hf := hf1; clear hT hf1 s1 s2 s3 s4 b15 b16
 obtain ⟨s1, s2, s3, s4⟩ := hKp
 refine Fact.then_normal ?_
 refine ⟨9 - (j + 1), by have := HK.out; omega, j + 1, rfl, by omega, by omega, hf, s1, s2, ?_, by rw [s4]; rfl, hb.alloc hb.size _⟩
 rw [s3, HST.out, HDL.out])
 · (
 have HQ := Lib.hid hq7; clear hq7
 have h7 := of_decide_eq_false HQ.out
 have hdl : dletter x = x := if_neg h7
 rw [hdl] at h1s
 have HDL := Lib.hid hdl; clear hdl
 refine wp_skip ?_
 refine nx (hK9 _ _ ?_)
 refine rg ?_
 have b29 := hf.b 29
 have b30 := hf.b 30
 have b31 := hf.b 31
 have b32 := hf.b 32
 have b33 := hf.b 33
 iterate 4 (refine fp fun K Z => ?_; go_simp; apply Z.out; clear Z K)
 refine fp fun K Z => ?_
 go_simp
 try simp (disch := omega) only [Fact.W]
 rw [if_neg (by omega), Oper.upon_value]
 apply Z.out; clear Z K
 refine fp fun K Z => ?_
 go_simp
 apply Z.out; clear Z K
 refine Fact.z hf fun fr1 hf1 hT => ?_
 have hKp : _ ∧ _ ∧ _ ∧ _ := ⟨hT 1, hT 2, hT 3, hT 4⟩
 simp (decide := true) only [Fact.G, hf.size, reduceIte, s1, s2, s4] at hKp
 replace hf := hf1; clear hT hf1 s1 s2 s3 s4 s5 s24 b29 b30 b31 b32 b33
 obtain ⟨s1, s2, s3, s4⟩ := hKp
 refine Fact.block_normal ?_
 refine nx (hK7 _ _ ?_)
 refine rg ?_
 have b15 := hf.b 15
 have b16 := hf.b 16
 refine fp fun K Z => ?_
 go_simp
 apply Z.out; clear Z K
 refine fp fun K Z => ?_
 go_simp
 try simp (disch := omega) only [Fact.W]
 apply Z.out; clear Z K
 refine fp fun K Z => ?_
 go_simp
 apply Z.out; clear Z K
 refine Fact.z hf fun fr1 hf1 hT => ?_
 have hKp : _ ∧ _ ∧ _ ∧ _ := ⟨hT 1, hT 2, hT 3, hT 4⟩
 simp (decide := true) only [Fact.G, hf.size, reduceIte, s1, s2, s3] at hKp
 replace hf := hf1; clear hT hf1 s1 s2 s3 s4 b15 b16
 obtain ⟨s1, s2, s3, s4⟩ := hKp
 refine Fact.then_normal ?_
 refine ⟨9 - (j + 1), by have := HK.out; omega, j + 1, rfl, by omega, by omega, hf, s1, s2, ?_, by rw [s4]; rfl, hb.alloc hb.size _⟩
 rw [s3, HST.out, HDL.out]))
 · (
 have q1 : decide (j < d.letters.length) = true := decide_eq_true (by omega)
 have q2 : decide ((j : Int) < 9) = false := decide_eq_false (by omega)
 have he : d.letters.take j = d.letters.take 9 := by rw [show j = 9 by omega]
 rw [he] at s3
 clear he
 refine Fact.sq fun K11 hK11 => ?_
 refine Fact.sq fun K12 hK12 => ?_
 refine rg ?_
 have b6 := hf.b 6
 have b7 := hf.b 7
 have b8 := hf.b 8
 have b9 := hf.b 9
 have b10 := hf.b 10
 have b11 := hf.b 11
 have b12 := hf.b 12
 have b13 := hf.b 13
 iterate 6 (refine fp fun K Z => ?_; go_simp; apply Z.out; clear Z K)
 refine og 5 11 true ?_ fun K Z => ?_
 · (
 simp (decide := true) only [Fact.G, reduceIte, hf.size, q1, q2])
 go_simp
 apply Z.out; clear Z K
 refine og 5 11 true ?_ fun K Z => ?_
 · (
 simp (decide := true) only [Fact.G, reduceIte, hf.size, q1, q2])
 go_simp
 apply Z.out; clear Z K
 refine fp fun K Z => ?_
 go_simp
 apply Z.out; clear Z K
 refine Fact.z hf fun fr1 hf1 hT => ?_
 have hKp : _ ∧ _ ∧ _ ∧ _ ∧ _ := ⟨hT 1, hT 2, hT 3, hT 4, hT 14⟩
 simp (decide := true) only [Fact.G, hf.size, reduceIte, s1, s2, s3, s4] at hKp
 replace hf := hf1; clear hT hf1 s1 s2 s3 s4 b6 b7 b8 b9 b10 b11 b12 b13
 obtain ⟨s1, s2, s3, s4, s14⟩ := hKp
 refine nx (hK12 _ _ ?_)
 refine Fact.cond_f s14 ?_
 clear q1 q2
 have y1 := cL hb x1; have y2 := cL hb x2
 have hpr := (hb.block _ hz1).trans hp
 obtain ⟨S, hS⟩ : ∃ x, dbody (d.letters.take 9) = x := ⟨_, rfl⟩
 rw [hS] at s3
 have HS := Lib.hid hS; clear hS y0
 refine wp_exit ?_
 refine Fact.then_exit ?_
 refine Fact.then_exit ?_
 refine Fact.block_exit ?_
 refine nx (hK3 _ _ ?_)
 refine Fact.sq fun K13 hK13 => ?_
 refine Fact.sq fun K14 hK14 => ?_
 refine rg ?_
 have b34 := hf.b 34
 iterate 2 (refine fp fun K Z => ?_; go_simp; apply Z.out; clear Z K)
 refine Fact.z hf fun fr1 hf1 hT => ?_
 have hKp : _ ∧ _ ∧ _ ∧ _ := ⟨hT 1, hT 2, hT 3, hT 35⟩
 simp (decide := true) only [Fact.G, hf.size, reduceIte, s1, s2, s3] at hKp
 replace hf := hf1; clear hT hf1 s1 s2 s3 s4 s14 b34
 obtain ⟨s1, s2, s3, s35⟩ := hKp
 refine nx (hK14 _ _ ?_)
 refine Fact.cond_s s35 (fun hqe => ?_) (fun hqe => ?_)
 · (
 have HE := Lib.hid hqe; clear hqe
 have hwd : dword d.letters = ⟨#[97]⟩ := by unfold dword; rw [HS.out]; exact if_pos (List.isEmpty_iff.1 HE.out)
 have HW := Lib.hid hwd; clear hwd
 refine rg ?_
 refine fp fun K Z => ?_
 go_simp
 apply Z.out; clear Z K
 refine Fact.z hf fun fr1 hf1 hT => ?_
 have hKp : _ ∧ _ ∧ _ := ⟨hT 1, hT 2, hT 3⟩
 simp (decide := true) only [Fact.G, hf.size, reduceIte, s1, s2] at hKp
 replace hf := hf1; clear hT hf1 s1 s2 s3 s35
 obtain ⟨s1, s2, s3⟩ := hKp
 refine nx (hK13 _ _ ?_)
 refine Fact.sq fun K15 hK15 => ?_
 refine rg ?_
 have b36 := hf.b 36
 have b37 := hf.b 37
 have b38 := hf.b 38
 have b39 := hf.b 39
 have b40 := hf.b 40
 have b41 := hf.b 41
 have b42 := hf.b 42
 iterate 6 (refine fp fun K Z => ?_; go_simp; apply Z.out; clear Z K)
 refine fp fun K Z => ?_
 go_simp
 go_at_call 36; refine (bare wr ⟨⟨#[97]⟩, d.weight, d.gone⟩).mono ?_; rintro e w5 ⟨rfl, hb5⟩
 have hp5 := (hb5.block _ (heap_lt hpr)).trans hpr
 have g0 := cell_of_row _ _ 0 _ 47 (0, 0) hp5; have g1 := cell_of_row _ _ 1 _ 47 (0, 0) hp5; have g2 := cell_of_row _ _ 2 _ 47 (0, 0) hp5
 have fz0 := frozen_of (i := 0) hp5; have fz1 := frozen_of (i := 1) hp5; have fz2 := frozen_of (i := 2) hp5
 obtain ⟨E5, hE5⟩ : ∃ x, bareE ⟨⟨#[97]⟩, d.weight, d.gone⟩ = x := ⟨_, rfl⟩
 rw [hE5]
 have HE5 := Lib.hid hE5; clear hE5
 simp only [eval]
 simp at g0 g1 g2
 try dsimp only
 apply Z.out; clear Z K
 refine fp fun K Z => ?_
 go_simp
 apply Z.out; clear Z K
 refine Fact.z hf fun fr1 hf1 hT => ?_
 have hKp := hT 2
 simp (decide := true) only [Fact.G, reduceIte, s2] at hKp
 replace hf := hf1; clear hT hf1 s1 s2 s3 b36 b37 b38 b39 b40 b41 b42
 have s2 := hKp; clear hKp
 refine nx (hK15 _ _ ?_)
 refine wp_ret ?_
 have hbz := hbr.trans (hb5.mono hbr.size)
 refine ret_c rfl hf s2 (set_block (set_block (set_block hp5 _) _) _) Tryz.underlying47 rfl (by kernel_rfl) ⟨?_, ((hbz.setCell (p := ⟨w.heap.size + 1, 0, none⟩) (Nat.le_succ _) _).setCell (p := ⟨w.heap.size + 1, 1, none⟩) (Nat.le_succ _) _).setCell (p := ⟨w.heap.size + 1, 2, none⟩) (Nat.le_succ _) _⟩
 unfold Dra.ent; rw [HW.out, HE5.out]; rfl)
 · (
 have HE := Lib.hid hqe; clear hqe
 have hwd : dword d.letters = S := by unfold dword; rw [HS.out]; exact if_neg (fun h => by have := HE.out; rw [h] at this; cases this)
 have HW := Lib.hid hwd; clear hwd
 refine wp_skip ?_
 refine nx (hK13 _ _ ?_)
 refine Fact.sq fun K16 hK16 => ?_
 refine rg ?_
 have b36 := hf.b 36
 have b37 := hf.b 37
 have b38 := hf.b 38
 have b39 := hf.b 39
 have b40 := hf.b 40
 have b41 := hf.b 41
 have b42 := hf.b 42
 iterate 6 (refine fp fun K Z => ?_; go_simp; apply Z.out; clear Z K)
 refine fp fun K Z => ?_
 go_simp
 go_at_call 36; refine (bare wr ⟨S, d.weight, d.gone⟩).mono ?_; rintro e w5 ⟨rfl, hb5⟩
 have hp5 := (hb5.block _ (heap_lt hpr)).trans hpr
 have g0 := cell_of_row _ _ 0 _ 47 (0, 0) hp5; have g1 := cell_of_row _ _ 1 _ 47 (0, 0) hp5; have g2 := cell_of_row _ _ 2 _ 47 (0, 0) hp5
 have fz0 := frozen_of (i := 0) hp5; have fz1 := frozen_of (i := 1) hp5; have fz2 := frozen_of (i := 2) hp5
 obtain ⟨E5, hE5⟩ : ∃ x, bareE ⟨S, d.weight, d.gone⟩ = x := ⟨_, rfl⟩
 rw [hE5]
 have HE5 := Lib.hid hE5; clear hE5
 simp only [eval]
 simp at g0 g1 g2
 try dsimp only
 apply Z.out; clear Z K
 refine fp fun K Z => ?_
 go_simp
 apply Z.out; clear Z K
 refine Fact.z hf fun fr1 hf1 hT => ?_
 have hKp := hT 2
 simp (decide := true) only [Fact.G, reduceIte, s2] at hKp
 replace hf := hf1; clear hT hf1 s1 s2 s3 s35 b36 b37 b38 b39 b40 b41 b42
 have s2 := hKp; clear hKp
 refine nx (hK16 _ _ ?_)
 refine wp_ret ?_
 have hbz := hbr.trans (hb5.mono hbr.size)
 refine ret_c rfl hf s2 (set_block (set_block (set_block hp5 _) _) _) Tryz.underlying47 rfl (by kernel_rfl) ⟨?_, ((hbz.setCell (p := ⟨w.heap.size + 1, 0, none⟩) (Nat.le_succ _) _).setCell (p := ⟨w.heap.size + 1, 1, none⟩) (Nat.le_succ _) _).setCell (p := ⟨w.heap.size + 1, 2, none⟩) (Nat.le_succ _) _⟩
 unfold Dra.ent; rw [HW.out, HE5.out]; rfl)))
 · (
 have q1 : decide (j < d.letters.length) = false := decide_eq_false (by omega)
 have he : d.letters.take j = d.letters.take 9 := by rw [List.take_of_length_le (by omega), List.take_of_length_le (by omega)]
 rw [he] at s3
 clear he
 refine Fact.sq fun K17 hK17 => ?_
 refine Fact.sq fun K18 hK18 => ?_
 refine rg ?_
 have b6 := hf.b 6
 have b7 := hf.b 7
 have b8 := hf.b 8
 have b9 := hf.b 9
 have b10 := hf.b 10
 have b11 := hf.b 11
 have b12 := hf.b 12
 have b13 := hf.b 13
 iterate 6 (refine fp fun K Z => ?_; go_simp; apply Z.out; clear Z K)
 refine sk 5 11 true ?_ ?_
 · (
 simp (decide := true) only [Fact.G, reduceIte, hf.size, q1, Fact.N])
 refine sk 5 11 true ?_ ?_
 · (
 simp (decide := true) only [Fact.G, reduceIte, hf.size, q1, Fact.N])
 refine fp fun K Z => ?_
 go_simp
 apply Z.out; clear Z K
 refine Fact.z hf fun fr1 hf1 hT => ?_
 have hKp : _ ∧ _ ∧ _ ∧ _ ∧ _ := ⟨hT 1, hT 2, hT 3, hT 4, hT 14⟩
 simp (decide := true) only [Fact.G, hf.size, reduceIte, s1, s2, s3, s4] at hKp
 replace hf := hf1; clear hT hf1 s1 s2 s3 s4 b6 b7 b8 b9 b10 b11 b12 b13
 obtain ⟨s1, s2, s3, s4, s14⟩ := hKp
 refine nx (hK18 _ _ ?_)
 refine Fact.cond_f s14 ?_
 clear q1
 have y1 := cL hb x1; have y2 := cL hb x2
 have hpr := (hb.block _ hz1).trans hp
 obtain ⟨S, hS⟩ : ∃ x, dbody (d.letters.take 9) = x := ⟨_, rfl⟩
 rw [hS] at s3
 have HS := Lib.hid hS; clear hS y0
 refine wp_exit ?_
 refine Fact.then_exit ?_
 refine Fact.then_exit ?_
 refine Fact.block_exit ?_
 refine nx (hK3 _ _ ?_)
 refine Fact.sq fun K19 hK19 => ?_
 refine Fact.sq fun K20 hK20 => ?_
 refine rg ?_
 have b34 := hf.b 34
 iterate 2 (refine fp fun K Z => ?_; go_simp; apply Z.out; clear Z K)
 refine Fact.z hf fun fr1 hf1 hT => ?_
 have hKp : _ ∧ _ ∧ _ ∧ _ := ⟨hT 1, hT 2, hT 3, hT 35⟩
 simp (decide := true) only [Fact.G, hf.size, reduceIte, s1, s2, s3] at hKp
 replace hf := hf1; clear hT hf1 s1 s2 s3 s4 s14 b34
 obtain ⟨s1, s2, s3, s35⟩ := hKp
 refine nx (hK20 _ _ ?_)
 refine Fact.cond_s s35 (fun hqe => ?_) (fun hqe => ?_)
 · (
 have HE := Lib.hid hqe; clear hqe
 have hwd : dword d.letters = ⟨#[97]⟩ := by unfold dword; rw [HS.out]; exact if_pos (List.isEmpty_iff.1 HE.out)
 have HW := Lib.hid hwd; clear hwd
 refine rg ?_
 refine fp fun K Z => ?_
 go_simp
 apply Z.out; clear Z K
 refine Fact.z hf fun fr1 hf1 hT => ?_
 have hKp : _ ∧ _ ∧ _ := ⟨hT 1, hT 2, hT 3⟩
 simp (decide := true) only [Fact.G, hf.size, reduceIte, s1, s2] at hKp
 replace hf := hf1; clear hT hf1 s1 s2 s3 s35
 obtain ⟨s1, s2, s3⟩ := hKp
 refine nx (hK19 _ _ ?_)
 refine Fact.sq fun K21 hK21 => ?_
 refine rg ?_
 have b36 := hf.b 36
 have b37 := hf.b 37
 have b38 := hf.b 38
 have b39 := hf.b 39
 have b40 := hf.b 40
 have b41 := hf.b 41
 have b42 := hf.b 42
 iterate 6 (refine fp fun K Z => ?_; go_simp; apply Z.out; clear Z K)
 refine fp fun K Z => ?_
 go_simp
 go_at_call 36; refine (bare wr ⟨⟨#[97]⟩, d.weight, d.gone⟩).mono ?_; rintro e w5 ⟨rfl, hb5⟩
 have hp5 := (hb5.block _ (heap_lt hpr)).trans hpr
 have g0 := cell_of_row _ _ 0 _ 47 (0, 0) hp5; have g1 := cell_of_row _ _ 1 _ 47 (0, 0) hp5; have g2 := cell_of_row _ _ 2 _ 47 (0, 0) hp5
 have fz0 := frozen_of (i := 0) hp5; have fz1 := frozen_of (i := 1) hp5; have fz2 := frozen_of (i := 2) hp5
 obtain ⟨E5, hE5⟩ : ∃ x, bareE ⟨⟨#[97]⟩, d.weight, d.gone⟩ = x := ⟨_, rfl⟩
 rw [hE5]
 have HE5 := Lib.hid hE5; clear hE5
 simp only [eval]
 simp at g0 g1 g2
 try dsimp only
 apply Z.out; clear Z K
 refine fp fun K Z => ?_
 go_simp
 apply Z.out; clear Z K
 refine Fact.z hf fun fr1 hf1 hT => ?_
 have hKp := hT 2
 simp (decide := true) only [Fact.G, reduceIte, s2] at hKp
 replace hf := hf1; clear hT hf1 s1 s2 s3 b36 b37 b38 b39 b40 b41 b42
 have s2 := hKp; clear hKp
 refine nx (hK21 _ _ ?_)
 refine wp_ret ?_
 have hbz := hbr.trans (hb5.mono hbr.size)
 refine ret_c rfl hf s2 (set_block (set_block (set_block hp5 _) _) _) Tryz.underlying47 rfl (by kernel_rfl) ⟨?_, ((hbz.setCell (p := ⟨w.heap.size + 1, 0, none⟩) (Nat.le_succ _) _).setCell (p := ⟨w.heap.size + 1, 1, none⟩) (Nat.le_succ _) _).setCell (p := ⟨w.heap.size + 1, 2, none⟩) (Nat.le_succ _) _⟩
 unfold Dra.ent; rw [HW.out, HE5.out]; rfl)
 · (
 have HE := Lib.hid hqe; clear hqe
 have hwd : dword d.letters = S := by unfold dword; rw [HS.out]; exact if_neg (fun h => by have := HE.out; rw [h] at this; cases this)
 have HW := Lib.hid hwd; clear hwd
 refine wp_skip ?_
 refine nx (hK19 _ _ ?_)
 refine Fact.sq fun K22 hK22 => ?_
 refine rg ?_
 have b36 := hf.b 36
 have b37 := hf.b 37
 have b38 := hf.b 38
 have b39 := hf.b 39
 have b40 := hf.b 40
 have b41 := hf.b 41
 have b42 := hf.b 42
 iterate 6 (refine fp fun K Z => ?_; go_simp; apply Z.out; clear Z K)
 refine fp fun K Z => ?_
 go_simp
 go_at_call 36; refine (bare wr ⟨S, d.weight, d.gone⟩).mono ?_; rintro e w5 ⟨rfl, hb5⟩
 have hp5 := (hb5.block _ (heap_lt hpr)).trans hpr
 have g0 := cell_of_row _ _ 0 _ 47 (0, 0) hp5; have g1 := cell_of_row _ _ 1 _ 47 (0, 0) hp5; have g2 := cell_of_row _ _ 2 _ 47 (0, 0) hp5
 have fz0 := frozen_of (i := 0) hp5; have fz1 := frozen_of (i := 1) hp5; have fz2 := frozen_of (i := 2) hp5
 obtain ⟨E5, hE5⟩ : ∃ x, bareE ⟨S, d.weight, d.gone⟩ = x := ⟨_, rfl⟩
 rw [hE5]
 have HE5 := Lib.hid hE5; clear hE5
 simp only [eval]
 simp at g0 g1 g2
 try dsimp only
 apply Z.out; clear Z K
 refine fp fun K Z => ?_
 go_simp
 apply Z.out; clear Z K
 refine Fact.z hf fun fr1 hf1 hT => ?_
 have hKp := hT 2
 simp (decide := true) only [Fact.G, reduceIte, s2] at hKp
 replace hf := hf1; clear hT hf1 s1 s2 s3 s35 b36 b37 b38 b39 b40 b41 b42
 have s2 := hKp; clear hKp
 refine nx (hK22 _ _ ?_)
 refine wp_ret ?_
 have hbz := hbr.trans (hb5.mono hbr.size)
 refine ret_c rfl hf s2 (set_block (set_block (set_block hp5 _) _) _) Tryz.underlying47 rfl (by kernel_rfl) ⟨?_, ((hbz.setCell (p := ⟨w.heap.size + 1, 0, none⟩) (Nat.le_succ _) _).setCell (p := ⟨w.heap.size + 1, 1, none⟩) (Nat.le_succ _) _).setCell (p := ⟨w.heap.size + 1, 2, none⟩) (Nat.le_succ _) _⟩
 unfold Dra.ent; rw [HW.out, HE5.out]; rfl)))
end Dw
end Go.Proofs.YtdkbgbdgmihlmaaGreatDoor

namespace Go.Proofs.YtdkbgbdgmihlmaaGreatDoor
open Go.RowKit
set_option linter.unusedSimpArgs false
set_option linter.unusedVariables false
set_option linter.unnecessarySimpa false
namespace Dw
set_option maxHeartbeats 4000000 in
set_option maxRecDepth 100000 in
theorem entries (w : World) (ds : List Dra) (most : Nat) (hm : most ≤ 1000) (v : Value) (hrd : RDs w w.heap.size v ds) (hok : ∀ d ∈ ds, okD d) : Calls Tryz.prog 20 #[v, .int .i64 most] w fun e w1 => ∃ v1, e = .returned v1 ∧ OE w1 w.heap.size v1 (entsOf ds most) ∧ Below w.heap.size w w1 := by
 refine calls_of_wp Tryz.func20 rfl ?_
 refine Fact.en 27 fun fr hf hT => ?_
 have s0 := hT 0 _ rfl
 have s1 := hT 1 _ rfl
 clear hT
 have hrd0 := hrd
 obtain ⟨A, c, rfl, hlc⟩ := hrd.form
 clear hrd
 have HOK := Lib.hid hok; clear hok
 refine Fact.sq fun K1 hK1 => ?_
 refine rg ?_
 refine fp fun K Z => ?_
 go_simp
 apply Z.out; clear Z K
 refine Fact.z hf fun fr1 hf1 hT => ?_
 have hKp : _ ∧ _ := ⟨hT 0, hT 1⟩
 simp (decide := true) only [Fact.G, reduceIte, s0, s1] at hKp
 replace hf := hf1; clear hT hf1 s0 s1
 obtain ⟨s0, s1⟩ := hKp
 refine nx (hK1 _ _ ?_)
 refine Fact.sq fun K2 hK2 => ?_
 refine rg ?_
 refine fp fun K Z => ?_
 go_simp
 apply Z.out; clear Z K
 refine Fact.z hf fun fr1 hf1 hT => ?_
 have hKp : _ ∧ _ ∧ _ := ⟨hT 0, hT 1, hT 5⟩
 simp (decide := true) only [Fact.G, hf.size, reduceIte, s0, s1] at hKp
 replace hf := hf1; clear hT hf1 s0 s1
 obtain ⟨s0, s1, s5⟩ := hKp
 refine nx (hK2 _ _ ?_)
 refine Fact.sq fun K3 hK3 => ?_
 refine Fact.sq fun K4 hK4 => ?_
 refine rg ?_
 refine fp fun K Z => ?_
 go_simp
 apply Z.out; clear Z K
 refine Fact.z hf fun fr1 hf1 hT => ?_
 have hKp : _ ∧ _ ∧ _ ∧ _ := ⟨hT 0, hT 1, hT 5, hT 6⟩
 simp (decide := true) only [Fact.G, hf.size, reduceIte, s0, s1, s5] at hKp
 replace hf := hf1; clear hT hf1 s0 s1 s5
 obtain ⟨s0, s1, s5, s6⟩ := hKp
 refine nx (hK4 _ _ ?_)
 refine wp_block ?_
 refine wp_loop_ghost (fun gk fr wr => ∃ (j : Nat) (V : Value), gk = most - j ∧ j ≤ ds.length ∧ j ≤ most ∧ Fact.Fr 27 fr ∧ fr.tmps[0]? = some (.slice A ds.length c) ∧ fr.tmps[1]? = some (.int .i64 most) ∧ fr.tmps[5]? = some V ∧ fr.tmps[6]? = some (.int .i64 j) ∧ OE wr w.heap.size V ((ds.take j).map Dra.ent) ∧ Below w.heap.size w wr) (most) ?_ ?_
 · (
 exact ⟨0, _, rfl, Nat.zero_le _, Nat.zero_le _, hf, s0, s1, s5, s6, OE.nil_ _ _, Below.refl _ _⟩)
 · (
 clear hf s0 s1 s5 s6
 rintro gk fr wr ⟨j, V, hk, hj, hjm, hf, s0, s1, s5, s6, how, hb⟩
 have HK := Lib.hid hk; clear hk
 rcases Nat.lt_or_ge j ds.length with hlt | hge
 · (
 rcases Nat.lt_or_ge j most with hlm | hlm
 · (
 have q1 : decide (j < ds.length) = true := decide_eq_true hlt
 have q2 : decide (j < most) = true := decide_eq_true hlm
 refine Fact.sq fun K5 hK5 => ?_
 refine Fact.sq fun K6 hK6 => ?_
 refine rg ?_
 have b7 := hf.b 7
 have b8 := hf.b 8
 have b9 := hf.b 9
 have b10 := hf.b 10
 have b11 := hf.b 11
 have b12 := hf.b 12
 have b13 := hf.b 13
 have b14 := hf.b 14
 iterate 5 (refine fp fun K Z => ?_; go_simp; apply Z.out; clear Z K)
 refine og 4 11 true ?_ fun K Z => ?_
 · (
 simp (decide := true) only [Fact.G, reduceIte, hf.size, q1, q2])
 go_simp
 apply Z.out; clear Z K
 refine og 4 11 true ?_ fun K Z => ?_
 · (
 simp (decide := true) only [Fact.G, reduceIte, hf.size, q1, q2])
 go_simp
 apply Z.out; clear Z K
 refine og 4 11 true ?_ fun K Z => ?_
 · (
 simp (decide := true) only [Fact.G, reduceIte, hf.size, q1, q2])
 go_simp
 apply Z.out; clear Z K
 refine fp fun K Z => ?_
 go_simp
 apply Z.out; clear Z K
 refine Fact.z hf fun fr1 hf1 hT => ?_
 have hKp : _ ∧ _ ∧ _ ∧ _ ∧ _ := ⟨hT 0, hT 1, hT 5, hT 6, hT 15⟩
 simp (decide := true) only [Fact.G, hf.size, reduceIte, s0, s1, s5, s6] at hKp
 replace hf := hf1; clear hT hf1 s0 s1 s5 s6 b7 b8 b9 b10 b11 b12 b13 b14
 obtain ⟨s0, s1, s5, s6, s15⟩ := hKp
 refine nx (hK6 _ _ ?_)
 refine Fact.cond_t s15 ?_
 clear q1 q2
 obtain ⟨d, hd⟩ : ∃ d, ds[j]? = some d := ⟨_, List.getElem?_eq_getElem hlt⟩
 obtain ⟨b, off, lv, rfl, hbb, z0, z1, z2, hru⟩ := (hrd0.below hb).at_ hd
 have hokd := HOK.out d (List.mem_of_getElem? hd)
 have hst : (ds.take (j + 1)).map Dra.ent = (ds.take j).map Dra.ent ++ [d.ent] := by rw [List.take_add_one, hd]; simp
 have hln : ((ds.take j).map Dra.ent).length ≤ 1000000 := by simp; omega
 have HST := Lib.hid hst; clear hst hd
 have hss := hb.size
 obtain ⟨Ee, hEe⟩ : ∃ x, d.ent = x := ⟨_, rfl⟩
 obtain ⟨xs, hxs⟩ : ∃ x, (ds.take j).map Dra.ent = x := ⟨_, rfl⟩
 rw [hxs] at how hln
 have HEe := Lib.hid hEe; have HXS := Lib.hid hxs; clear hEe hxs
 obtain ⟨Av, cv, rfl, hcv⟩ := how.form
 refine wp_skip ?_
 refine nx (hK5 _ _ ?_)
 refine Fact.sq fun K7 hK7 => ?_
 refine wp_block ?_
 refine rg ?_
 have b18 := hf.b 18
 have b19 := hf.b 19
 have b20 := hf.b 20
 have b21 := hf.b 21
 have b22 := hf.b 22
 have b23 := hf.b 23
 have b24 := hf.b 24
 have b25 := hf.b 25
 iterate 3 (refine fp fun K Z => ?_; go_simp; apply Z.out; clear Z K)
 refine fp fun K Z => ?_
 go_simp
 try rw [if_pos (by omega)]
 apply Z.out; clear Z K
 refine fp fun K Z => ?_
 go_simp
 apply Z.out; clear Z K
 refine fp fun K Z => ?_
 go_simp
 go_at_call 12; refine (dentry wr d lv (hru.more hss) hokd.1).mono ?_; rintro e w2 ⟨rfl, hb2⟩
 rw [HEe.out]
 simp only [eval]
 have how2 := own_later how hb2
 have hbw2 := hb.trans (hb2.mono hss)
 try dsimp only
 apply Z.out; clear Z K
 refine fp fun K Z => ?_
 go_simp
 apply Z.out; clear Z K
 refine Fact.reL (n := 27) (by simp only [Fact.G, hf.size]) hf.defers (fun fr1 hf1 hT => ?_)
 have hKp : _ ∧ _ ∧ _ ∧ _ ∧ _ ∧ _ := ⟨hT 0, hT 1, hT 5, hT 6, hT 18, hT 24⟩
 simp (decide := true) only [Fact.G, hf.size, reduceIte, s0, s1, s5, s6] at hKp
 replace hf := hf1; clear hT hf1 s0 s1 s5 s6 s15 b18 b19 b20 b21 b22 b23 b24 b25
 obtain ⟨s0, s1, s5, s6, s18, s24⟩ := hKp
 have b25 := hf.b 25
 refine ⟨?_⟩
 refine wpList_plain rfl fun K5 hK5 => ?_
 refine wp_app _ _ 28 rfl 47 _ 3 24 Tryz.underlying28 info_ent rfl (by decide) (by decide) w.heap.size (.slice Av xs.length cv) xs.length _ (Fact.eval_tmp s18) (how2.alloc _) w2.heap.size Ee.cells (Fact.eval_tmp s24) rfl (lit_new w2 _ _) (ent_one Ee) (by omega) (by have := hbw2.size; simp; omega) (fun v5 w5 hr5 hg5 hat5 => hK5 _ _ ?_)
 refine Fact.L.out ?_
 refine fp fun K Z => ?_
 go_simp
 apply Z.out; clear Z K
 refine Fact.z hf fun fr1 hf1 hT => ?_
 have hKp : _ ∧ _ ∧ _ ∧ _ := ⟨hT 0, hT 1, hT 5, hT 6⟩
 simp (decide := true) only [Fact.G, hf.size, reduceIte, s0, s1, s6] at hKp
 replace hf := hf1; clear hT hf1 s0 s1 s5 s6 s18 s24 b25
 obtain ⟨s0, s1, s5, s6⟩ := hKp
 have hb5 := (hbw2.alloc hbw2.size _).grown hg5 (by have := hbw2.size; simp; omega) (fun kk hkk => (how2.lt kk hkk).1)
 have how5 : OE w5 w.heap.size v5 (xs ++ [Ee]) := by unfold OE; rw [ecs_append, List.length_append]; exact hr5
 refine Fact.block_normal ?_
 refine nx (hK7 _ _ ?_)
 refine rg ?_
 have b16 := hf.b 16
 have b17 := hf.b 17
 refine fp fun K Z => ?_
 go_simp
 apply Z.out; clear Z K
 refine fp fun K Z => ?_
 go_simp
 try simp (disch := omega) only [Fact.W]
 apply Z.out; clear Z K
 refine fp fun K Z => ?_
 go_simp
 apply Z.out; clear Z K
 refine Fact.z hf fun fr1 hf1 hT => ?_
 have hKp : _ ∧ _ ∧ _ ∧ _ := ⟨hT 0, hT 1, hT 5, hT 6⟩
 simp (decide := true) only [Fact.G, hf.size, reduceIte, s0, s1, s5] at hKp
 replace hf := hf1; clear hT hf1 s0 s1 s5 s6 b16 b17
 obtain ⟨s0, s1, s5, s6⟩ := hKp
 refine Fact.then_normal ?_
 exact ⟨_, by have := HK.out; omega, j + 1, v5, rfl, by omega, by omega, hf, s0, s1, s5, by rw [s6]; rfl, by rw [HST.out, HXS.out, HEe.out]; exact how5, hb5⟩)
 · (
 have q1 : decide (j < ds.length) = true := decide_eq_true (by omega)
 have q2 : decide (j < most) = false := decide_eq_false (by omega)
 refine Fact.sq fun K8 hK8 => ?_
 refine Fact.sq fun K9 hK9 => ?_
 refine rg ?_
 have b7 := hf.b 7
 have b8 := hf.b 8
 have b9 := hf.b 9
 have b10 := hf.b 10
 have b11 := hf.b 11
 have b12 := hf.b 12
 have b13 := hf.b 13
 have b14 := hf.b 14
 iterate 5 (refine fp fun K Z => ?_; go_simp; apply Z.out; clear Z K)
 refine og 4 11 true ?_ fun K Z => ?_
 · (
 simp (decide := true) only [Fact.G, reduceIte, hf.size, q1, q2])
 go_simp
 apply Z.out; clear Z K
 refine og 4 11 true ?_ fun K Z => ?_
 · (
 simp (decide := true) only [Fact.G, reduceIte, hf.size, q1, q2])
 go_simp
 apply Z.out; clear Z K
 refine og 4 11 true ?_ fun K Z => ?_
 · (
 simp (decide := true) only [Fact.G, reduceIte, hf.size, q1, q2])
 go_simp
 apply Z.out; clear Z K
 refine fp fun K Z => ?_
 go_simp
 apply Z.out; clear Z K
 refine Fact.z hf fun fr1 hf1 hT => ?_
 have hKp : _ ∧ _ ∧ _ ∧ _ ∧ _ := ⟨hT 0, hT 1, hT 5, hT 6, hT 15⟩
 simp (decide := true) only [Fact.G, hf.size, reduceIte, s0, s1, s5, s6] at hKp
 replace hf := hf1; clear hT hf1 s0 s1 s5 s6 b7 b8 b9 b10 b11 b12 b13 b14
 obtain ⟨s0, s1, s5, s6, s15⟩ := hKp
 refine nx (hK9 _ _ ?_)
 refine Fact.cond_f s15 ?_
 clear q1 q2
 have he : ds.take j = ds.take most := by rw [show j = most by omega]
 rw [he] at how
 clear he
 refine wp_exit ?_
 refine Fact.then_exit ?_
 refine Fact.then_exit ?_
 refine Fact.block_exit ?_
 refine nx (hK3 _ _ ?_)
 refine Fact.sq fun K10 hK10 => ?_
 refine rg ?_
 have b26 := hf.b 26
 iterate 2 (refine fp fun K Z => ?_; go_simp; apply Z.out; clear Z K)
 refine Fact.z hf fun fr1 hf1 hT => ?_
 have hKp := hT 4
 simp (decide := true) only [Fact.G, hf.size, reduceIte] at hKp
 replace hf := hf1; clear hT hf1 s0 s1 s5 s6 s15 b26
 have s4 := hKp; clear hKp
 refine nx (hK10 _ _ ?_)
 refine wp_ret ?_
 exact Fact.ret1 rfl hf s4 ⟨_, rfl, how, hb⟩))
 · (
 have q1 : decide (j < ds.length) = false := decide_eq_false (by omega)
 refine Fact.sq fun K11 hK11 => ?_
 refine Fact.sq fun K12 hK12 => ?_
 refine rg ?_
 have b7 := hf.b 7
 have b8 := hf.b 8
 have b9 := hf.b 9
 have b10 := hf.b 10
 have b11 := hf.b 11
 have b12 := hf.b 12
 have b13 := hf.b 13
 have b14 := hf.b 14
 iterate 5 (refine fp fun K Z => ?_; go_simp; apply Z.out; clear Z K)
 refine sk 4 11 true ?_ ?_
 · (
 simp (decide := true) only [Fact.G, reduceIte, hf.size, q1, Fact.N])
 refine sk 4 11 true ?_ ?_
 · (
 simp (decide := true) only [Fact.G, reduceIte, hf.size, q1, Fact.N])
 refine sk 4 11 true ?_ ?_
 · (
 simp (decide := true) only [Fact.G, reduceIte, hf.size, q1, Fact.N])
 refine fp fun K Z => ?_
 go_simp
 apply Z.out; clear Z K
 refine Fact.z hf fun fr1 hf1 hT => ?_
 have hKp : _ ∧ _ ∧ _ ∧ _ ∧ _ := ⟨hT 0, hT 1, hT 5, hT 6, hT 15⟩
 simp (decide := true) only [Fact.G, hf.size, reduceIte, s0, s1, s5, s6] at hKp
 replace hf := hf1; clear hT hf1 s0 s1 s5 s6 b7 b8 b9 b10 b11 b12 b13 b14
 obtain ⟨s0, s1, s5, s6, s15⟩ := hKp
 refine nx (hK12 _ _ ?_)
 refine Fact.cond_f s15 ?_
 clear q1
 have he : ds.take j = ds.take most := by rw [List.take_of_length_le (by omega), List.take_of_length_le (by omega)]
 rw [he] at how
 clear he
 refine wp_exit ?_
 refine Fact.then_exit ?_
 refine Fact.then_exit ?_
 refine Fact.block_exit ?_
 refine nx (hK3 _ _ ?_)
 refine Fact.sq fun K13 hK13 => ?_
 refine rg ?_
 have b26 := hf.b 26
 iterate 2 (refine fp fun K Z => ?_; go_simp; apply Z.out; clear Z K)
 refine Fact.z hf fun fr1 hf1 hT => ?_
 have hKp := hT 4
 simp (decide := true) only [Fact.G, hf.size, reduceIte] at hKp
 replace hf := hf1; clear hT hf1 s0 s1 s5 s6 s15 b26
 have s4 := hKp; clear hKp
 refine nx (hK13 _ _ ?_)
 refine wp_ret ?_
 exact Fact.ret1 rfl hf s4 ⟨_, rfl, how, hb⟩))
end Dw
end Go.Proofs.YtdkbgbdgmihlmaaGreatDoor

namespace Go.Proofs.YtdkbgbdgmihlmaaGreatDoor
open Go.RowKit
set_option linter.unusedSimpArgs false
set_option linter.unusedVariables false
set_option linter.unnecessarySimpa false
namespace Dw

theorem lex_irr : ∀ x : List Nat, lexlt x x = false
  | [] => rfl
  | a :: x => by simp [lexlt, lex_irr x]
theorem lex_asym : ∀ x y : List Nat, lexlt x y = true → lexlt y x = false
  | _, [], h => by rw [lexlt_nil] at h; cases h
  | [], _ :: _, _ => rfl
  | a :: x, b :: y, h => by
    simp only [lexlt, Bool.or_eq_true, Bool.and_eq_true, decide_eq_true_eq] at h
    simp only [lexlt, Bool.or_eq_false_iff, Bool.and_eq_false_iff, decide_eq_false_iff_not]
    rcases h with h | ⟨h1, h2⟩
    · exact ⟨by omega, .inl (by omega)⟩
    · exact ⟨by omega, .inr (lex_asym x y h2)⟩
theorem lex_tri : ∀ x y : List Nat, lexlt x y = false → x ≠ y → lexlt y x = true
  | [], [], _, h => absurd rfl h
  | [], _ :: _, h, _ => by simp [lexlt] at h
  | _ :: _, [], _, _ => by simp [lexlt]
  | a :: x, b :: y, h, hn => by
    simp only [lexlt, Bool.or_eq_false_iff, Bool.and_eq_false_iff, decide_eq_false_iff_not] at h
    simp only [lexlt, Bool.or_eq_true, Bool.and_eq_true, decide_eq_true_eq]
    by_cases hab : a = b
    · subst hab
      refine .inr ⟨rfl, lex_tri x y ?_ (fun e => hn (by rw [e]))⟩
      rcases h.2 with h2 | h2
      · exact absurd rfl h2
      · exact h2
    · exact .inl (by omega)
theorem wl_eq_iff (a b : ByteArray) : (a.toList == b.toList) = decide (wl a = wl b) := by
  have h : ∀ {x y : Bool}, (x = true ↔ y = true) → x = y := fun {x y} h => by cases x <;> cases y <;> simp_all
  refine h ?_
  rw [beq_iff_eq, decide_eq_true_iff]
  constructor
  · intro e; unfold wl; rw [← ByteArray.toList_eq, ← ByteArray.toList_eq, e]
  · intro e; rw [wl_inj e]
theorem gt_lex (a b : ByteArray) : (!(lexlt (wl a) (wl b) || a.toList == b.toList)) = lexlt (wl b) (wl a) := by
  rw [wl_eq_iff]
  cases h1 : lexlt (wl a) (wl b) with
  | true => rw [lex_asym _ _ h1]; rfl
  | false =>
    by_cases h2 : wl a = wl b
    · rw [decide_eq_true h2, h2, lex_irr]; rfl
    · rw [decide_eq_false h2, lex_tri _ _ h1 h2]; rfl
def twE (l : List Ent) (e : Ent) : List Ent := l.takeWhile fun x => lexlt (wl x.word) (wl e.word)
def gtE (e x : Ent) : Bool := lexlt (wl e.word) (wl x.word)
theorem tw_step {es : List Ent} {i : Nat} {q e : Ent} (h : es[i]? = some q) : twE (es.drop i) e = if lexlt (wl q.word) (wl e.word) = true then q :: twE (es.drop (i + 1)) e else [] := by
  rw [drop_get h]
  unfold twE
  rw [List.takeWhile_cons]
theorem filter_step {es : List Ent} {k : Nat} {q e : Ent} (h : es[k]? = some q) : twE es e ++ [bareE e] ++ (es.take (k + 1)).filter (gtE e) = twE es e ++ [bareE e] ++ ((es.take k).filter (gtE e) ++ if gtE e q = true then [q] else []) := by
  rw [List.take_add_one, h, Option.toList_some, List.filter_append]
  congr 2
  simp only [List.filter_cons, List.filter_nil]
theorem oneK_length (es : List Ent) (e : Ent) (k : Nat) : (twE es e ++ [bareE e] ++ (es.take k).filter (gtE e)).length ≤ 2 * es.length + 1 := by
  have h1 := (List.takeWhile_prefix (fun x : Ent => lexlt (wl x.word) (wl e.word)) (l := es)).length_le
  have h2 := List.length_filter_le (gtE e) (es.take k)
  have h3 : (es.take k).length ≤ es.length := by simp; omega
  simp only [List.length_append, List.length_cons, List.length_nil]
  unfold twE
  omega
set_option maxHeartbeats 4000000 in
set_option maxRecDepth 100000 in
theorem one (w : World) (es : List Ent) (B : Nat) (v : Value) (hB : B ≤ w.heap.size) (hre : RE w B v es) (hlen : es.length ≤ 100000) (e : Ent) : Calls Tryz.prog 40 #[v, eval e] w fun e1 w1 => ∃ v1, e1 = .returned v1 ∧ OE w1 w.heap.size v1 (oneE es e) ∧ Below w.heap.size w w1 := by
 refine calls_of_wp Tryz.func40 rfl ?_
 refine Fact.en 58 fun fr hf hT => ?_
 have s0 := hT 0 _ rfl
 have s1 := hT 1 _ rfl
 clear hT
 have hre0 := hre.any
 obtain ⟨A, cc, rfl, hcc⟩ := hre.form
 clear hre
 simp only [eval] at s1
 refine Fact.sq fun K1 hK1 => ?_
 refine rg ?_
 iterate 2 (refine fp fun K Z => ?_; go_simp; apply Z.out; clear Z K)
 refine Fact.z hf fun fr1 hf1 hT => ?_
 have hKp : _ ∧ _ := ⟨hT 0, hT 3⟩
 simp (decide := true) only [Fact.G, hf.size, reduceIte, s0] at hKp
 replace hf := hf1; clear hT hf1 s0 s1
 obtain ⟨s0, s3⟩ := hKp
 obtain ⟨W1, hW1⟩ : ∃ W0, w.alloc (.cells #[.string e.word, .int .u32 e.weight, .bool e.gone] 47) = W0 := ⟨_, rfl⟩
 try rw [hW1]
 obtain ⟨hb1, x0, x1, x2, -, hz1_⟩ := box3 hW1
 clear hW1
 have hz1 : w.heap.size < W1.heap.size := by rw [hz1_]; exact Nat.lt_succ_self _
 clear hz1_
 have hs1 := hb1.size
 have hre1 := (hre0.below hb1).any
 clear hre0
 refine nx (hK1 _ _ ?_)
 refine Fact.sq fun K2 hK2 => ?_
 refine rg ?_
 refine fp fun K Z => ?_
 go_simp
 apply Z.out; clear Z K
 refine Fact.z hf fun fr1 hf1 hT => ?_
 have hKp : _ ∧ _ ∧ _ := ⟨hT 0, hT 3, hT 5⟩
 simp (decide := true) only [Fact.G, hf.size, reduceIte, s0, s3] at hKp
 replace hf := hf1; clear hT hf1 s0 s3
 obtain ⟨s0, s3, s5⟩ := hKp
 refine nx (hK2 _ _ ?_)
 refine Fact.sq fun K3 hK3 => ?_
 refine Fact.sq fun K4 hK4 => ?_
 refine rg ?_
 refine fp fun K Z => ?_
 go_simp
 apply Z.out; clear Z K
 refine Fact.z hf fun fr1 hf1 hT => ?_
 have hKp : _ ∧ _ ∧ _ ∧ _ := ⟨hT 0, hT 3, hT 5, hT 6⟩
 simp (decide := true) only [Fact.G, hf.size, reduceIte, s0, s3, s5] at hKp
 replace hf := hf1; clear hT hf1 s0 s3 s5
 obtain ⟨s0, s3, s5, s6⟩ := hKp
 refine nx (hK4 _ _ ?_)
 refine wp_block ?_
 refine wp_loop_ghost (fun gk fr wr => ∃ (i : Nat) (V : Value), gk = es.length - i ∧ i ≤ es.length ∧ Fact.Fr 58 fr ∧ fr.tmps[0]? = some (.slice A es.length cc) ∧ fr.tmps[3]? = some (.pointer (some ⟨w.heap.size, 0, none⟩)) ∧ fr.tmps[5]? = some V ∧ fr.tmps[6]? = some (.int .i64 i) ∧ OE wr W1.heap.size V (es.take i) ∧ twE es e = es.take i ++ twE (es.drop i) e ∧ Below W1.heap.size W1 wr) (es.length) ?_ ?_
 · (
 exact ⟨0, _, rfl, Nat.zero_le _, hf, s0, s3, s5, s6, OE.nil_ _ _, rfl, Below.refl _ _⟩)
 · (
 clear hf s0 s3 s5 s6
 rintro gk fr wr ⟨i, V, hk, hi, hf, s0, s3, s5, s6, how, htw, hb⟩
 have HK := Lib.hid hk; have HTW := Lib.hid htw; clear hk htw
 have y0 := cL hb x0; have y1 := cL hb x1; have y2 := cL hb x2
 rcases Nat.lt_or_ge i es.length with hlt | hge
 · (
 have q1 : decide (i < es.length) = true := decide_eq_true hlt
 obtain ⟨q, hiq⟩ : ∃ q, es[i]? = some q := ⟨_, List.getElem?_eq_getElem hlt⟩
 obtain ⟨b, off, rfl, hbB, hbl, d0, d1, d2⟩ := (hre1.below hb).at_ hiq
 have hst := tw_step (e := e) hiq
 have htk : es.take (i + 1) = es.take i ++ [q] := by rw [List.take_add_one, hiq]; rfl
 have HST := Lib.hid hst; have HTK := Lib.hid htk; clear hst htk hiq
 refine Fact.sq fun K5 hK5 => ?_
 refine Fact.sq fun K6 hK6 => ?_
 refine Stab.tb 58 fun hok => ?_
 refine Stab.mO 0 s6 hf hok ?_
 refine Stab.mO 1 s0 hf hok ?_
 apply Stab.tq 2 _ hf hok
 · (
 intro fr1 w1 hh hd hk K Z
 have s9 := Stab.v 1 0 hd hk []
 clear hd
 replace d0 := cL hh.ext d0
 replace d1 := cL hh.ext d1
 replace d2 := cL hh.ext d2
 replace y0 := cL hh.ext y0
 replace y1 := cL hh.ext y1
 replace y2 := cL hh.ext y2
 replace how := own_later how hh.ext
 go_simp
 exact Stab.k Z)
 apply Stab.tq 3 _ hf hok
 · (
 intro fr1 w1 hh hd hk K Z
 have s8 := Stab.v 0 2 hd hk []
 have s10 := Stab.v 2 0 hd hk []
 clear hd
 go_simp
 exact Stab.k Z)
 refine Stab.mN 4 3 0 hf hok [] ?_
 apply Stab.tr 5 _ hf hok
 · (
 intro fr1 w1 hh hd hk K Z
 have s12 := Stab.v 4 0 hd hk []
 refine Stab.g s12 ?_
 have s0 := Stab.O hh s0
 clear hd
 go_simp
 exact Stab.k Z)
 apply Stab.tr 6 _ hf hok
 · (
 intro fr1 w1 hh hd hk K Z
 have s12 := Stab.v 4 1 hd hk []
 refine Stab.g s12 ?_
 have s6 := Stab.O hh s6
 clear hd
 go_simp
 exact Stab.k Z)
 apply Stab.tr 7 _ hf hok
 · (
 intro fr1 w1 hh hd hk K Z
 have s12 := Stab.v 4 2 hd hk []
 refine Stab.g s12 ?_
 have s13 := Stab.v 5 1 hd hk []
 have s14 := Stab.v 6 0 hd hk []
 clear hd
 go_simp
 try rw [if_pos (by omega)]
 exact Stab.k Z)
 apply Stab.tr 8 _ hf hok
 · (
 intro fr1 w1 hh hd hk K Z
 have s12 := Stab.v 4 3 hd hk []
 refine Stab.g s12 ?_
 have s15 := Stab.v 7 0 hd hk []
 clear hd
 go_simp
 exact Stab.k Z)
 apply Stab.tr 9 _ hf hok
 · (
 intro fr1 w1 hh hd hk K Z
 have s12 := Stab.v 4 4 hd hk []
 refine Stab.g s12 ?_
 have s16 := Stab.v 8 0 hd hk []
 clear hd
 replace d0 := cL hh.ext d0
 replace d1 := cL hh.ext d1
 replace d2 := cL hh.ext d2
 replace y0 := cL hh.ext y0
 replace y1 := cL hh.ext y1
 replace y2 := cL hh.ext y2
 replace how := own_later how hh.ext
 go_simp
 exact Stab.k Z)
 apply Stab.tr 10 _ hf hok
 · (
 intro fr1 w1 hh hd hk K Z
 have s12 := Stab.v 4 5 hd hk []
 refine Stab.g s12 ?_
 have s3 := Stab.O hh s3
 clear hd
 go_simp
 exact Stab.k Z)
 apply Stab.tr 11 _ hf hok
 · (
 intro fr1 w1 hh hd hk K Z
 have s12 := Stab.v 4 6 hd hk []
 refine Stab.g s12 ?_
 have s18 := Stab.v 10 0 hd hk []
 clear hd
 replace d0 := cL hh.ext d0
 replace d1 := cL hh.ext d1
 replace d2 := cL hh.ext d2
 replace y0 := cL hh.ext y0
 replace y1 := cL hh.ext y1
 replace y2 := cL hh.ext y2
 replace how := own_later how hh.ext
 go_simp
 exact Stab.k Z)
 apply Stab.tr 12 _ hf hok
 · (
 intro fr1 w1 hh hd hk K Z
 have s12 := Stab.v 4 7 hd hk []
 refine Stab.g s12 ?_
 have s17 := Stab.v 9 2 hd hk []
 have s19 := Stab.v 11 0 hd hk []
 clear hd
 go_simp
 exact Stab.k Z)
 apply Stab.tq 13 _ hf hok
 · (
 intro fr1 w1 hh hd hk K Z
 have s12 := Stab.v 4 8 hd hk []
 have s20 := Stab.v 12 0 hd hk []
 clear hd
 go_simp
 exact Stab.k Z)
 refine Stab.tf hf hok fun fr1 w1 hh hg => ?_
 replace s0 := Stab.O hh s0
 replace s3 := Stab.O hh s3
 replace s5 := Stab.O hh s5
 replace s6 := Stab.O hh s6
 have s21 := Stab.f 13 0 hg
 have hf1 := hh.fr hf
 have hx := hh.ext
 replace d0 := cL hx d0
 replace d1 := cL hx d1
 replace d2 := cL hx d2
 replace y0 := cL hx y0
 replace y1 := cL hx y1
 replace y2 := cL hx y2
 replace how := own_later how hx
 clear hg hh hf hok
 have hf := hf1; clear hf1
 refine nx (hK6 _ _ ?_)
 refine Fact.cond_s s21 (fun hql => ?_) (fun hql => ?_)
 · (
 rw [less_eq] at hql
 clear q1
 replace hb := hb.trans (hx.mono hb.size)
 have htn : twE es e = es.take (i + 1) ++ twE (es.drop (i + 1)) e := by rw [HTW.out, HST.out, hql, if_pos rfl, HTK.out, List.append_assoc]; rfl
 have HTN := Lib.hid htn; clear htn hql
 obtain ⟨xs, hxs⟩ : ∃ x, es.take i = x := ⟨_, rfl⟩
 rw [hxs] at how
 have hln : xs.length ≤ 1000000 := by rw [← hxs]; simp; omega
 have HXS := Lib.hid hxs; clear hxs
 obtain ⟨Av, cv, rfl, hcv⟩ := OE.form (es := xs) how
 have how2 := how
 refine wp_skip ?_
 refine nx (hK5 _ _ ?_)
 refine Fact.sq fun K7 hK7 => ?_
 refine wp_block ?_
 refine rg ?_
 have b24 := hf.b 24
 have b25 := hf.b 25
 have b26 := hf.b 26
 have b27 := hf.b 27
 have b28 := hf.b 28
 have b29 := hf.b 29
 have b30 := hf.b 30
 iterate 3 (refine fp fun K Z => ?_; go_simp; apply Z.out; clear Z K)
 refine fp fun K Z => ?_
 go_simp
 try rw [if_pos (by omega)]
 apply Z.out; clear Z K
 iterate 2 (refine fp fun K Z => ?_; go_simp; apply Z.out; clear Z K)
 refine Fact.reL (n := 58) (by simp only [Fact.G, hf.size]) hf.defers (fun fr1 hf1 hT => ?_)
 have hKp : _ ∧ _ ∧ _ ∧ _ ∧ _ ∧ _ := ⟨hT 0, hT 3, hT 5, hT 6, hT 24, hT 29⟩
 simp (decide := true) only [Fact.G, hf.size, reduceIte, s0, s3, s5, s6] at hKp
 replace hf := hf1; clear hT hf1 s0 s3 s5 s6 s21 b24 b25 b26 b27 b28 b29 b30
 obtain ⟨s0, s3, s5, s6, s24, s29⟩ := hKp
 have b30 := hf.b 30
 refine ⟨?_⟩
 refine wpList_plain rfl fun K5 hK5 => ?_
 refine wp_app _ _ 28 rfl 47 _ 3 24 Tryz.underlying28 info_ent rfl (by decide) (by decide) W1.heap.size (.slice Av xs.length cv) xs.length _ (Fact.eval_tmp s24) (how.alloc _) w1.heap.size q.cells (Fact.eval_tmp s29) rfl (lit_new w1 _ _) (ent_one q) (by omega) (by have := hb.size; simp; omega) (fun v5 w5 hr5 hg5 hat5 => hK5 _ _ ?_)
 refine Fact.L.out ?_
 refine fp fun K Z => ?_
 go_simp
 apply Z.out; clear Z K
 refine Fact.z hf fun fr1 hf1 hT => ?_
 have hKp : _ ∧ _ ∧ _ ∧ _ := ⟨hT 0, hT 3, hT 5, hT 6⟩
 simp (decide := true) only [Fact.G, hf.size, reduceIte, s0, s3, s6] at hKp
 replace hf := hf1; clear hT hf1 s0 s3 s5 s6 s24 s29 b30
 obtain ⟨s0, s3, s5, s6⟩ := hKp
 have hb5 := (hb.alloc hb.size _).grown hg5 (by have := hb.size; simp; omega) (fun kk hkk => (how2.lt kk hkk).1)
 have how5 : OE w5 W1.heap.size v5 (xs ++ [q]) := by unfold OE; rw [ecs_append, List.length_append]; exact hr5
 refine Fact.block_normal ?_
 refine nx (hK7 _ _ ?_)
 refine rg ?_
 have b22 := hf.b 22
 have b23 := hf.b 23
 refine fp fun K Z => ?_
 go_simp
 apply Z.out; clear Z K
 refine fp fun K Z => ?_
 go_simp
 try simp (disch := omega) only [Fact.W]
 apply Z.out; clear Z K
 refine fp fun K Z => ?_
 go_simp
 apply Z.out; clear Z K
 refine Fact.z hf fun fr1 hf1 hT => ?_
 have hKp : _ ∧ _ ∧ _ ∧ _ := ⟨hT 0, hT 3, hT 5, hT 6⟩
 simp (decide := true) only [Fact.G, hf.size, reduceIte, s0, s3, s5] at hKp
 replace hf := hf1; clear hT hf1 s0 s3 s5 s6 b22 b23
 obtain ⟨s0, s3, s5, s6⟩ := hKp
 refine Fact.then_normal ?_
 exact ⟨_, by have := HK.out; omega, i + 1, v5, rfl, by omega, hf, s0, s3, s5, by rw [s6]; rfl, by rw [HTK.out, HXS.out]; exact how5, HTN.out, hb5⟩)
 · (
 rw [less_eq] at hql
 clear q1
 replace hb := hb.trans (hx.mono hb.size)
 have htw2 : twE es e = es.take i := by rw [HTW.out, HST.out, hql, if_neg (by simp)]; exact List.append_nil _
 clear hql
 refine wp_exit ?_
 refine Fact.then_exit ?_
 refine Fact.then_exit ?_
 refine Fact.block_exit ?_
 refine nx (hK3 _ _ ?_)
 have HT2 := Lib.hid htw2; clear htw2
 obtain ⟨xs, hxs⟩ : ∃ x, es.take i = x := ⟨_, rfl⟩
 rw [hxs] at how
 have hln : xs.length ≤ 1000000 := by rw [← hxs]; simp; omega
 have HXS := Lib.hid hxs; clear hxs
 obtain ⟨Av, cv, rfl, hcv⟩ := OE.form (es := xs) how
 refine Fact.sq fun K8 hK8 => ?_
 refine rg ?_
 have b31 := hf.b 31
 have b32 := hf.b 32
 have b33 := hf.b 33
 have b34 := hf.b 34
 have b35 := hf.b 35
 iterate 2 (refine fp fun K Z => ?_; go_simp; apply Z.out; clear Z K)
 refine fp fun K Z => ?_
 go_simp
 go_at_call 36; refine (bare w1 e).mono ?_; rintro e w2 ⟨rfl, hb2⟩
 obtain ⟨Ee, hEe⟩ : ∃ x, bareE e = x := ⟨_, rfl⟩
 rw [hEe]
 have HEe := Lib.hid hEe; clear hEe
 simp only [eval]
 have how2 := own_later how hb2
 have hbx2 := hb.trans (hb2.mono hb.size)
 try dsimp only
 apply Z.out; clear Z K
 refine fp fun K Z => ?_
 go_simp
 apply Z.out; clear Z K
 refine Fact.reL (n := 58) (by simp only [Fact.G, hf.size]) hf.defers (fun fr1 hf1 hT => ?_)
 have hKp : _ ∧ _ ∧ _ ∧ _ ∧ _ := ⟨hT 0, hT 3, hT 5, hT 31, hT 34⟩
 simp (decide := true) only [Fact.G, hf.size, reduceIte, s0, s3, s5] at hKp
 replace hf := hf1; clear hT hf1 s0 s3 s5 s6 s21 b31 b32 b33 b34 b35
 obtain ⟨s0, s3, s5, s31, s34⟩ := hKp
 have b35 := hf.b 35
 refine ⟨?_⟩
 refine wpList_plain rfl fun K5 hK5 => ?_
 refine wp_app _ _ 28 rfl 47 _ 3 24 Tryz.underlying28 info_ent rfl (by decide) (by decide) W1.heap.size (.slice Av xs.length cv) xs.length _ (Fact.eval_tmp s31) (how2.alloc _) w2.heap.size Ee.cells (Fact.eval_tmp s34) rfl (lit_new w2 _ _) (ent_one Ee) (by omega) (by have := hbx2.size; simp; omega) (fun v5 w5 hr5 hg5 hat5 => hK5 _ _ ?_)
 refine Fact.L.out ?_
 refine fp fun K Z => ?_
 go_simp
 apply Z.out; clear Z K
 refine Fact.z hf fun fr1 hf1 hT => ?_
 have hKp : _ ∧ _ ∧ _ := ⟨hT 0, hT 3, hT 5⟩
 simp (decide := true) only [Fact.G, hf.size, reduceIte, s0, s3] at hKp
 replace hf := hf1; clear hT hf1 s0 s3 s5 s31 s34 b35
 obtain ⟨s0, s3, s5⟩ := hKp
 have hb5 := (hbx2.alloc hbx2.size _).grown hg5 (by have := hbx2.size; simp; omega) (fun kk hkk => (how2.lt kk hkk).1)
 have how5 : OE w5 W1.heap.size v5 (xs ++ [Ee]) := by unfold OE; rw [ecs_append, List.length_append]; exact hr5
 refine nx (hK8 _ _ ?_)
 refine Fact.sq fun K9 hK9 => ?_
 refine Fact.sq fun K10 hK10 => ?_
 refine rg ?_
 refine fp fun K Z => ?_
 go_simp
 apply Z.out; clear Z K
 refine Fact.z hf fun fr1 hf1 hT => ?_
 have hKp : _ ∧ _ ∧ _ ∧ _ := ⟨hT 0, hT 3, hT 5, hT 7⟩
 simp (decide := true) only [Fact.G, hf.size, reduceIte, s0, s3, s5] at hKp
 replace hf := hf1; clear hT hf1 s0 s3 s5
 obtain ⟨s0, s3, s5, s7⟩ := hKp
 refine nx (hK10 _ _ ?_)
 refine wp_block ?_
 refine wp_loop_ghost (fun gk2 fr wr2 => ∃ (k : Nat) (V2 : Value), gk2 = es.length - k ∧ k ≤ es.length ∧ Fact.Fr 58 fr ∧ fr.tmps[0]? = some (.slice (some ⟨b, off, none⟩) es.length cc) ∧ fr.tmps[3]? = some (.pointer (some ⟨w.heap.size, 0, none⟩)) ∧ fr.tmps[5]? = some V2 ∧ fr.tmps[7]? = some (.int .i64 k) ∧ OE wr2 W1.heap.size V2 (twE es e ++ [bareE e] ++ (es.take k).filter (gtE e)) ∧ Below W1.heap.size W1 wr2) (es.length) ?_ ?_
 · (
 exact ⟨0, v5, rfl, Nat.zero_le _, hf, s0, s3, s5, s7, by rw [HT2.out, HXS.out, HEe.out, List.take_zero, List.filter_nil, List.append_nil]; exact how5, hb5⟩)
 · (
 clear hf s0 s3 s5 s7
 rintro gk2 fr wr2 ⟨k, V2, hk2, hk2l, hf, s0, s3, s5, s7, how3, hb3⟩
 have HK2 := Lib.hid hk2; clear hk2
 have z0 := cL hb3 x0; have z1 := cL hb3 x1; have z2 := cL hb3 x2
 refine Fact.sq fun K11 hK11 => ?_
 refine Fact.sq fun K12 hK12 => ?_
 refine rg ?_
 have b36 := hf.b 36
 have b37 := hf.b 37
 have b38 := hf.b 38
 iterate 4 (refine fp fun K Z => ?_; go_simp; apply Z.out; clear Z K)
 refine Fact.z hf fun fr1 hf1 hT => ?_
 have hKp : _ ∧ _ ∧ _ ∧ _ ∧ _ := ⟨hT 0, hT 3, hT 5, hT 7, hT 39⟩
 simp (decide := true) only [Fact.G, hf.size, reduceIte, s0, s3, s5, s7] at hKp
 replace hf := hf1; clear hT hf1 s0 s3 s5 s7 b36 b37 b38
 obtain ⟨s0, s3, s5, s7, s39⟩ := hKp
 refine nx (hK12 _ _ ?_)
 refine Fact.cond_s s39 (fun hq3 => ?_) (fun hq3 => ?_)
 · (
 have hklt : k < es.length := by have h9 := of_decide_eq_true hq3; omega
 have HQ3 := Lib.hid hq3; clear hq3
 obtain ⟨q, hkq⟩ : ∃ q, es[k]? = some q := ⟨_, List.getElem?_eq_getElem hklt⟩
 obtain ⟨b2, off2, he2, hbB2, hbl2, d0, d1, d2⟩ := (hre1.below hb3).at_ hkq
 injection he2 with he2
 injection he2 with he2 he3
 subst he2; subst he3
 have hfs := filter_step (e := e) hkq
 have HFS := Lib.hid hfs; clear hfs hkq
 obtain ⟨xs3, hxs3⟩ : ∃ x, twE es e ++ [bareE e] ++ (es.take k).filter (gtE e) = x := ⟨_, rfl⟩
 have hln3 : xs3.length ≤ 1000000 := by rw [← hxs3]; have := oneK_length es e k; omega
 rw [hxs3] at how3
 have HX3 := Lib.hid hxs3; clear hxs3
 refine wp_skip ?_
 refine nx (hK11 _ _ ?_)
 refine Fact.sq fun K13 hK13 => ?_
 refine wp_block ?_
 refine Fact.sq fun K14 hK14 => ?_
 refine Stab.tb 58 fun hok => ?_
 refine Stab.mO 0 s0 hf hok ?_
 refine Stab.mO 1 s7 hf hok ?_
 apply Stab.tq 2 _ hf hok
 · (
 intro fr1 w1 hh hd hk K Z
 have s42 := Stab.v 0 1 hd hk []
 have s43 := Stab.v 1 0 hd hk []
 clear hd
 go_simp
 try rw [if_pos (by omega)]
 exact Stab.k Z)
 apply Stab.tq 3 _ hf hok
 · (
 intro fr1 w1 hh hd hk K Z
 have s44 := Stab.v 2 0 hd hk []
 clear hd
 go_simp
 exact Stab.k Z)
 apply Stab.tq 4 _ hf hok
 · (
 intro fr1 w1 hh hd hk K Z
 have s45 := Stab.v 3 0 hd hk []
 clear hd
 replace d0 := cL hh.ext d0
 replace z0 := cL hh.ext z0
 replace d1 := cL hh.ext d1
 replace d2 := cL hh.ext d2
 replace z1 := cL hh.ext z1
 replace z2 := cL hh.ext z2
 replace how3 := own_later how3 hh.ext
 go_simp
 exact Stab.k Z)
 apply Stab.tq 5 _ hf hok
 · (
 intro fr1 w1 hh hd hk K Z
 have s3 := Stab.O hh s3
 clear hd
 go_simp
 exact Stab.k Z)
 apply Stab.tq 6 _ hf hok
 · (
 intro fr1 w1 hh hd hk K Z
 have s47 := Stab.v 5 0 hd hk []
 clear hd
 replace d0 := cL hh.ext d0
 replace z0 := cL hh.ext z0
 replace d1 := cL hh.ext d1
 replace d2 := cL hh.ext d2
 replace z1 := cL hh.ext z1
 replace z2 := cL hh.ext z2
 replace how3 := own_later how3 hh.ext
 go_simp
 exact Stab.k Z)
 apply Stab.tq 7 _ hf hok
 · (
 intro fr1 w1 hh hd hk K Z
 have s46 := Stab.v 4 2 hd hk []
 have s48 := Stab.v 6 0 hd hk []
 clear hd
 go_simp
 exact Stab.k Z)
 refine Stab.tf hf hok fun fr1 w1 hh hg => ?_
 replace s0 := Stab.O hh s0
 replace s3 := Stab.O hh s3
 replace s5 := Stab.O hh s5
 replace s7 := Stab.O hh s7
 have s49 := Stab.f 7 0 hg
 have hf1 := hh.fr hf
 have hx := hh.ext
 replace d0 := cL hx d0
 replace z0 := cL hx z0
 replace d1 := cL hx d1
 replace d2 := cL hx d2
 replace z1 := cL hx z1
 replace z2 := cL hx z2
 replace how3 := own_later how3 hx
 clear hg hh hf hok s39
 have hf := hf1; clear hf1
 refine nx (hK14 _ _ ?_)
 refine Fact.cond_s s49 (fun hqg => ?_) (fun hqg => ?_)
 · (
 rw [less_eq, gt_lex] at hqg
 have hbx := hb3.trans (hx.mono hb3.size)
 have hgt : gtE e q = true := hqg
 have HGT := Lib.hid hgt; clear hgt hqg
 obtain ⟨Av3, cv3, rfl, hcv3⟩ := OE.form (es := xs3) how3
 have how2 := how3
 refine rg ?_
 have b50 := hf.b 50
 have b51 := hf.b 51
 have b52 := hf.b 52
 have b53 := hf.b 53
 have b54 := hf.b 54
 have b55 := hf.b 55
 have b56 := hf.b 56
 iterate 3 (refine fp fun K Z => ?_; go_simp; apply Z.out; clear Z K)
 refine fp fun K Z => ?_
 go_simp
 try rw [if_pos (by omega)]
 apply Z.out; clear Z K
 iterate 2 (refine fp fun K Z => ?_; go_simp; apply Z.out; clear Z K)
 refine Fact.reL (n := 58) (by simp only [Fact.G, hf.size]) hf.defers (fun fr1 hf1 hT => ?_)
 have hKp : _ ∧ _ ∧ _ ∧ _ ∧ _ ∧ _ := ⟨hT 0, hT 3, hT 5, hT 7, hT 50, hT 55⟩
 simp (decide := true) only [Fact.G, hf.size, reduceIte, s0, s3, s5, s7] at hKp
 replace hf := hf1; clear hT hf1 s0 s3 s5 s7 s49 b50 b51 b52 b53 b54 b55 b56
 obtain ⟨s0, s3, s5, s7, s50, s55⟩ := hKp
 have b56 := hf.b 56
 refine ⟨?_⟩
 refine wpList_plain rfl fun K5 hK5 => ?_
 refine wp_app _ _ 28 rfl 47 _ 3 24 Tryz.underlying28 info_ent rfl (by decide) (by decide) W1.heap.size (.slice Av3 xs3.length cv3) xs3.length _ (Fact.eval_tmp s50) (how3.alloc _) w1.heap.size q.cells (Fact.eval_tmp s55) rfl (lit_new w1 _ _) (ent_one q) (by omega) (by have := hbx.size; simp; omega) (fun v5 w5 hr5 hg5 hat5 => hK5 _ _ ?_)
 refine Fact.L.out ?_
 refine fp fun K Z => ?_
 go_simp
 apply Z.out; clear Z K
 refine Fact.z hf fun fr1 hf1 hT => ?_
 have hKp : _ ∧ _ ∧ _ ∧ _ := ⟨hT 0, hT 3, hT 5, hT 7⟩
 simp (decide := true) only [Fact.G, hf.size, reduceIte, s0, s3, s7] at hKp
 replace hf := hf1; clear hT hf1 s0 s3 s5 s7 s50 s55 b56
 obtain ⟨s0, s3, s5, s7⟩ := hKp
 have hb5 := (hbx.alloc hbx.size _).grown hg5 (by have := hbx.size; simp; omega) (fun kk hkk => (how2.lt kk hkk).1)
 have how5 : OE w5 W1.heap.size v5 (xs3 ++ [q]) := by unfold OE; rw [ecs_append, List.length_append]; exact hr5
 have hfin : twE es e ++ [bareE e] ++ (es.take (k + 1)).filter (gtE e) = xs3 ++ [q] := by rw [HFS.out, HGT.out, if_pos rfl, ← List.append_assoc, HX3.out]
 have HF := Lib.hid hfin; clear hfin
 refine Fact.block_normal ?_
 refine nx (hK13 _ _ ?_)
 refine rg ?_
 have b40 := hf.b 40
 have b41 := hf.b 41
 refine fp fun K Z => ?_
 go_simp
 apply Z.out; clear Z K
 refine fp fun K Z => ?_
 go_simp
 try simp (disch := omega) only [Fact.W]
 apply Z.out; clear Z K
 refine fp fun K Z => ?_
 go_simp
 apply Z.out; clear Z K
 refine Fact.z hf fun fr1 hf1 hT => ?_
 have hKp : _ ∧ _ ∧ _ ∧ _ := ⟨hT 0, hT 3, hT 5, hT 7⟩
 simp (decide := true) only [Fact.G, hf.size, reduceIte, s0, s3, s5] at hKp
 replace hf := hf1; clear hT hf1 s0 s3 s5 s7 b40 b41
 obtain ⟨s0, s3, s5, s7⟩ := hKp
 refine Fact.then_normal ?_
 exact ⟨_, by have := HK2.out; omega, k + 1, _, rfl, by omega, hf, s0, s3, s5, by rw [s7]; rfl, by rw [HF.out]; exact how5, hb5⟩)
 · (
 rw [less_eq, gt_lex] at hqg
 have hbx := hb3.trans (hx.mono hb3.size)
 have hgt : gtE e q = false := hqg
 have HGT := Lib.hid hgt; clear hgt hqg
 have hfin : twE es e ++ [bareE e] ++ (es.take (k + 1)).filter (gtE e) = xs3 := by rw [HFS.out, HGT.out, if_neg (by simp), List.append_nil, HX3.out]
 have HF := Lib.hid hfin; clear hfin
 have how5 := how3
 have hb5 := hbx
 refine wp_skip ?_
 refine Fact.block_normal ?_
 refine nx (hK13 _ _ ?_)
 refine rg ?_
 have b40 := hf.b 40
 have b41 := hf.b 41
 refine fp fun K Z => ?_
 go_simp
 apply Z.out; clear Z K
 refine fp fun K Z => ?_
 go_simp
 try simp (disch := omega) only [Fact.W]
 apply Z.out; clear Z K
 refine fp fun K Z => ?_
 go_simp
 apply Z.out; clear Z K
 refine Fact.z hf fun fr1 hf1 hT => ?_
 have hKp : _ ∧ _ ∧ _ ∧ _ := ⟨hT 0, hT 3, hT 5, hT 7⟩
 simp (decide := true) only [Fact.G, hf.size, reduceIte, s0, s3, s5] at hKp
 replace hf := hf1; clear hT hf1 s0 s3 s5 s7 s49 b40 b41
 obtain ⟨s0, s3, s5, s7⟩ := hKp
 refine Fact.then_normal ?_
 exact ⟨_, by have := HK2.out; omega, k + 1, _, rfl, by omega, hf, s0, s3, s5, by rw [s7]; rfl, by rw [HF.out]; exact how5, hb5⟩))
 · (
 have hke : k = es.length := by have h9 := of_decide_eq_false hq3; omega
 rw [hke, List.take_length] at how3
 clear hq3 hke
 refine wp_exit ?_
 refine Fact.then_exit ?_
 refine Fact.then_exit ?_
 refine Fact.block_exit ?_
 refine nx (hK9 _ _ ?_)
 refine Fact.sq fun K15 hK15 => ?_
 refine rg ?_
 have b57 := hf.b 57
 iterate 2 (refine fp fun K Z => ?_; go_simp; apply Z.out; clear Z K)
 refine Fact.z hf fun fr1 hf1 hT => ?_
 have hKp := hT 4
 simp (decide := true) only [Fact.G, hf.size, reduceIte] at hKp
 replace hf := hf1; clear hT hf1 s0 s3 s5 s7 s39 b57
 have s4 := hKp; clear hKp
 refine nx (hK15 _ _ ?_)
 refine wp_ret ?_
 exact Fact.ret1 rfl hf s4 ⟨_, rfl, own_less how3 hs1, hb1.trans (hb3.mono hs1)⟩))))
 · (
 have q1 : decide (i < es.length) = false := decide_eq_false (by omega)
 refine Fact.sq fun K16 hK16 => ?_
 refine Fact.sq fun K17 hK17 => ?_
 refine Stab.tb 58 fun hok => ?_
 refine Stab.mO 0 s6 hf hok ?_
 refine Stab.mO 1 s0 hf hok ?_
 apply Stab.tq 2 _ hf hok
 · (
 intro fr1 w1 hh hd hk K Z
 have s9 := Stab.v 1 0 hd hk []
 clear hd
 replace y0 := cL hh.ext y0
 replace y1 := cL hh.ext y1
 replace y2 := cL hh.ext y2
 replace how := own_later how hh.ext
 go_simp
 exact Stab.k Z)
 apply Stab.tq 3 _ hf hok
 · (
 intro fr1 w1 hh hd hk K Z
 have s8 := Stab.v 0 2 hd hk []
 have s10 := Stab.v 2 0 hd hk []
 clear hd
 go_simp
 exact Stab.k Z)
 refine Stab.mN 4 3 0 hf hok [] ?_
 apply Stab.tr 5 _ hf hok
 · (
 intro fr1 w1 hh hd hk K Z
 have s12 := Stab.v 4 0 hd hk []
 refine Stab.sk s12 ?_
 exact Stab.k Z)
 apply Stab.tr 6 _ hf hok
 · (
 intro fr1 w1 hh hd hk K Z
 have s12 := Stab.v 4 1 hd hk []
 refine Stab.sk s12 ?_
 exact Stab.k Z)
 apply Stab.tr 7 _ hf hok
 · (
 intro fr1 w1 hh hd hk K Z
 have s12 := Stab.v 4 2 hd hk []
 refine Stab.sk s12 ?_
 exact Stab.k Z)
 apply Stab.tr 8 _ hf hok
 · (
 intro fr1 w1 hh hd hk K Z
 have s12 := Stab.v 4 3 hd hk []
 refine Stab.sk s12 ?_
 exact Stab.k Z)
 apply Stab.tr 9 _ hf hok
 · (
 intro fr1 w1 hh hd hk K Z
 have s12 := Stab.v 4 4 hd hk []
 refine Stab.sk s12 ?_
 exact Stab.k Z)
 apply Stab.tr 10 _ hf hok
 · (
 intro fr1 w1 hh hd hk K Z
 have s12 := Stab.v 4 5 hd hk []
 refine Stab.sk s12 ?_
 exact Stab.k Z)
 apply Stab.tr 11 _ hf hok
 · (
 intro fr1 w1 hh hd hk K Z
 have s12 := Stab.v 4 6 hd hk []
 refine Stab.sk s12 ?_
 exact Stab.k Z)
 apply Stab.tr 12 _ hf hok
 · (
 intro fr1 w1 hh hd hk K Z
 have s12 := Stab.v 4 7 hd hk []
 refine Stab.sk s12 ?_
 exact Stab.k Z)
 apply Stab.tq 13 _ hf hok
 · (
 intro fr1 w1 hh hd hk K Z
 have s12 := Stab.v 4 8 hd hk []
 have s20 := Stab.v 12 0 hd hk []
 clear hd
 go_simp
 exact Stab.k Z)
 refine Stab.tf hf hok fun fr1 w1 hh hg => ?_
 replace s0 := Stab.O hh s0
 replace s3 := Stab.O hh s3
 replace s5 := Stab.O hh s5
 replace s6 := Stab.O hh s6
 have s21 := Stab.f 13 0 hg
 have hf1 := hh.fr hf
 have hx := hh.ext
 replace y0 := cL hx y0
 replace y1 := cL hx y1
 replace y2 := cL hx y2
 replace how := own_later how hx
 clear hg hh hf hok
 have hf := hf1; clear hf1
 refine nx (hK17 _ _ ?_)
 refine Fact.cond_f s21 ?_
 clear q1
 have htw2 : twE es e = es.take i := by rw [HTW.out, List.drop_eq_nil_of_le (by omega)]; exact List.append_nil _
 replace hb := hb.trans (hx.mono hb.size)
 refine wp_exit ?_
 refine Fact.then_exit ?_
 refine Fact.then_exit ?_
 refine Fact.block_exit ?_
 refine nx (hK3 _ _ ?_)
 have HT2 := Lib.hid htw2; clear htw2
 obtain ⟨xs, hxs⟩ : ∃ x, es.take i = x := ⟨_, rfl⟩
 rw [hxs] at how
 have hln : xs.length ≤ 1000000 := by rw [← hxs]; simp; omega
 have HXS := Lib.hid hxs; clear hxs
 obtain ⟨Av, cv, rfl, hcv⟩ := OE.form (es := xs) how
 refine Fact.sq fun K18 hK18 => ?_
 refine rg ?_
 have b31 := hf.b 31
 have b32 := hf.b 32
 have b33 := hf.b 33
 have b34 := hf.b 34
 have b35 := hf.b 35
 iterate 2 (refine fp fun K Z => ?_; go_simp; apply Z.out; clear Z K)
 refine fp fun K Z => ?_
 go_simp
 go_at_call 36; refine (bare w1 e).mono ?_; rintro e w2 ⟨rfl, hb2⟩
 obtain ⟨Ee, hEe⟩ : ∃ x, bareE e = x := ⟨_, rfl⟩
 rw [hEe]
 have HEe := Lib.hid hEe; clear hEe
 simp only [eval]
 have how2 := own_later how hb2
 have hbx2 := hb.trans (hb2.mono hb.size)
 try dsimp only
 apply Z.out; clear Z K
 refine fp fun K Z => ?_
 go_simp
 apply Z.out; clear Z K
 refine Fact.reL (n := 58) (by simp only [Fact.G, hf.size]) hf.defers (fun fr1 hf1 hT => ?_)
 have hKp : _ ∧ _ ∧ _ ∧ _ ∧ _ := ⟨hT 0, hT 3, hT 5, hT 31, hT 34⟩
 simp (decide := true) only [Fact.G, hf.size, reduceIte, s0, s3, s5] at hKp
 replace hf := hf1; clear hT hf1 s0 s3 s5 s6 s21 b31 b32 b33 b34 b35
 obtain ⟨s0, s3, s5, s31, s34⟩ := hKp
 have b35 := hf.b 35
 refine ⟨?_⟩
 refine wpList_plain rfl fun K5 hK5 => ?_
 refine wp_app _ _ 28 rfl 47 _ 3 24 Tryz.underlying28 info_ent rfl (by decide) (by decide) W1.heap.size (.slice Av xs.length cv) xs.length _ (Fact.eval_tmp s31) (how2.alloc _) w2.heap.size Ee.cells (Fact.eval_tmp s34) rfl (lit_new w2 _ _) (ent_one Ee) (by omega) (by have := hbx2.size; simp; omega) (fun v5 w5 hr5 hg5 hat5 => hK5 _ _ ?_)
 refine Fact.L.out ?_
 refine fp fun K Z => ?_
 go_simp
 apply Z.out; clear Z K
 refine Fact.z hf fun fr1 hf1 hT => ?_
 have hKp : _ ∧ _ ∧ _ := ⟨hT 0, hT 3, hT 5⟩
 simp (decide := true) only [Fact.G, hf.size, reduceIte, s0, s3] at hKp
 replace hf := hf1; clear hT hf1 s0 s3 s5 s31 s34 b35
 obtain ⟨s0, s3, s5⟩ := hKp
 have hb5 := (hbx2.alloc hbx2.size _).grown hg5 (by have := hbx2.size; simp; omega) (fun kk hkk => (how2.lt kk hkk).1)
 have how5 : OE w5 W1.heap.size v5 (xs ++ [Ee]) := by unfold OE; rw [ecs_append, List.length_append]; exact hr5
 refine nx (hK18 _ _ ?_)
 refine Fact.sq fun K19 hK19 => ?_
 refine Fact.sq fun K20 hK20 => ?_
 refine rg ?_
 refine fp fun K Z => ?_
 go_simp
 apply Z.out; clear Z K
 refine Fact.z hf fun fr1 hf1 hT => ?_
 have hKp : _ ∧ _ ∧ _ ∧ _ := ⟨hT 0, hT 3, hT 5, hT 7⟩
 simp (decide := true) only [Fact.G, hf.size, reduceIte, s0, s3, s5] at hKp
 replace hf := hf1; clear hT hf1 s0 s3 s5
 obtain ⟨s0, s3, s5, s7⟩ := hKp
 refine nx (hK20 _ _ ?_)
 refine wp_block ?_
 refine wp_loop_ghost (fun gk2 fr wr2 => ∃ (k : Nat) (V2 : Value), gk2 = es.length - k ∧ k ≤ es.length ∧ Fact.Fr 58 fr ∧ fr.tmps[0]? = some (.slice A es.length cc) ∧ fr.tmps[3]? = some (.pointer (some ⟨w.heap.size, 0, none⟩)) ∧ fr.tmps[5]? = some V2 ∧ fr.tmps[7]? = some (.int .i64 k) ∧ OE wr2 W1.heap.size V2 (twE es e ++ [bareE e] ++ (es.take k).filter (gtE e)) ∧ Below W1.heap.size W1 wr2) (es.length) ?_ ?_
 · (
 exact ⟨0, v5, rfl, Nat.zero_le _, hf, s0, s3, s5, s7, by rw [HT2.out, HXS.out, HEe.out, List.take_zero, List.filter_nil, List.append_nil]; exact how5, hb5⟩)
 · (
 clear hf s0 s3 s5 s7
 rintro gk2 fr wr2 ⟨k, V2, hk2, hk2l, hf, s0, s3, s5, s7, how3, hb3⟩
 have HK2 := Lib.hid hk2; clear hk2
 have z0 := cL hb3 x0; have z1 := cL hb3 x1; have z2 := cL hb3 x2
 refine Fact.sq fun K21 hK21 => ?_
 refine Fact.sq fun K22 hK22 => ?_
 refine rg ?_
 have b36 := hf.b 36
 have b37 := hf.b 37
 have b38 := hf.b 38
 iterate 4 (refine fp fun K Z => ?_; go_simp; apply Z.out; clear Z K)
 refine Fact.z hf fun fr1 hf1 hT => ?_
 have hKp : _ ∧ _ ∧ _ ∧ _ ∧ _ := ⟨hT 0, hT 3, hT 5, hT 7, hT 39⟩
 simp (decide := true) only [Fact.G, hf.size, reduceIte, s0, s3, s5, s7] at hKp
 replace hf := hf1; clear hT hf1 s0 s3 s5 s7 b36 b37 b38
 obtain ⟨s0, s3, s5, s7, s39⟩ := hKp
 refine nx (hK22 _ _ ?_)
 refine Fact.cond_s s39 (fun hq3 => ?_) (fun hq3 => ?_)
 · (
 have hklt : k < es.length := by have h9 := of_decide_eq_true hq3; omega
 have HQ3 := Lib.hid hq3; clear hq3
 obtain ⟨q, hkq⟩ : ∃ q, es[k]? = some q := ⟨_, List.getElem?_eq_getElem hklt⟩
 obtain ⟨b, off, rfl, hbB, hbl, d0, d1, d2⟩ := (hre1.below hb3).at_ hkq
 have hfs := filter_step (e := e) hkq
 have HFS := Lib.hid hfs; clear hfs hkq
 obtain ⟨xs3, hxs3⟩ : ∃ x, twE es e ++ [bareE e] ++ (es.take k).filter (gtE e) = x := ⟨_, rfl⟩
 have hln3 : xs3.length ≤ 1000000 := by rw [← hxs3]; have := oneK_length es e k; omega
 rw [hxs3] at how3
 have HX3 := Lib.hid hxs3; clear hxs3
 refine wp_skip ?_
 refine nx (hK21 _ _ ?_)
 refine Fact.sq fun K23 hK23 => ?_
 refine wp_block ?_
 refine Fact.sq fun K24 hK24 => ?_
 refine Stab.tb 58 fun hok => ?_
 refine Stab.mO 0 s0 hf hok ?_
 refine Stab.mO 1 s7 hf hok ?_
 apply Stab.tq 2 _ hf hok
 · (
 intro fr1 w1 hh hd hk K Z
 have s42 := Stab.v 0 1 hd hk []
 have s43 := Stab.v 1 0 hd hk []
 clear hd
 go_simp
 try rw [if_pos (by omega)]
 exact Stab.k Z)
 apply Stab.tq 3 _ hf hok
 · (
 intro fr1 w1 hh hd hk K Z
 have s44 := Stab.v 2 0 hd hk []
 clear hd
 go_simp
 exact Stab.k Z)
 apply Stab.tq 4 _ hf hok
 · (
 intro fr1 w1 hh hd hk K Z
 have s45 := Stab.v 3 0 hd hk []
 clear hd
 replace d0 := cL hh.ext d0
 replace z0 := cL hh.ext z0
 replace d1 := cL hh.ext d1
 replace d2 := cL hh.ext d2
 replace z1 := cL hh.ext z1
 replace z2 := cL hh.ext z2
 replace how3 := own_later how3 hh.ext
 go_simp
 exact Stab.k Z)
 apply Stab.tq 5 _ hf hok
 · (
 intro fr1 w1 hh hd hk K Z
 have s3 := Stab.O hh s3
 clear hd
 go_simp
 exact Stab.k Z)
 apply Stab.tq 6 _ hf hok
 · (
 intro fr1 w1 hh hd hk K Z
 have s47 := Stab.v 5 0 hd hk []
 clear hd
 replace d0 := cL hh.ext d0
 replace z0 := cL hh.ext z0
 replace d1 := cL hh.ext d1
 replace d2 := cL hh.ext d2
 replace z1 := cL hh.ext z1
 replace z2 := cL hh.ext z2
 replace how3 := own_later how3 hh.ext
 go_simp
 exact Stab.k Z)
 apply Stab.tq 7 _ hf hok
 · (
 intro fr1 w1 hh hd hk K Z
 have s46 := Stab.v 4 2 hd hk []
 have s48 := Stab.v 6 0 hd hk []
 clear hd
 go_simp
 exact Stab.k Z)
 refine Stab.tf hf hok fun fr1 w1 hh hg => ?_
 replace s0 := Stab.O hh s0
 replace s3 := Stab.O hh s3
 replace s5 := Stab.O hh s5
 replace s7 := Stab.O hh s7
 have s49 := Stab.f 7 0 hg
 have hf1 := hh.fr hf
 have hx := hh.ext
 replace d0 := cL hx d0
 replace z0 := cL hx z0
 replace d1 := cL hx d1
 replace d2 := cL hx d2
 replace z1 := cL hx z1
 replace z2 := cL hx z2
 replace how3 := own_later how3 hx
 clear hg hh hf hok s39
 have hf := hf1; clear hf1
 refine nx (hK24 _ _ ?_)
 refine Fact.cond_s s49 (fun hqg => ?_) (fun hqg => ?_)
 · (
 rw [less_eq, gt_lex] at hqg
 have hbx := hb3.trans (hx.mono hb3.size)
 have hgt : gtE e q = true := hqg
 have HGT := Lib.hid hgt; clear hgt hqg
 obtain ⟨Av3, cv3, rfl, hcv3⟩ := OE.form (es := xs3) how3
 have how2 := how3
 refine rg ?_
 have b50 := hf.b 50
 have b51 := hf.b 51
 have b52 := hf.b 52
 have b53 := hf.b 53
 have b54 := hf.b 54
 have b55 := hf.b 55
 have b56 := hf.b 56
 iterate 3 (refine fp fun K Z => ?_; go_simp; apply Z.out; clear Z K)
 refine fp fun K Z => ?_
 go_simp
 try rw [if_pos (by omega)]
 apply Z.out; clear Z K
 iterate 2 (refine fp fun K Z => ?_; go_simp; apply Z.out; clear Z K)
 refine Fact.reL (n := 58) (by simp only [Fact.G, hf.size]) hf.defers (fun fr1 hf1 hT => ?_)
 have hKp : _ ∧ _ ∧ _ ∧ _ ∧ _ ∧ _ := ⟨hT 0, hT 3, hT 5, hT 7, hT 50, hT 55⟩
 simp (decide := true) only [Fact.G, hf.size, reduceIte, s0, s3, s5, s7] at hKp
 replace hf := hf1; clear hT hf1 s0 s3 s5 s7 s49 b50 b51 b52 b53 b54 b55 b56
 obtain ⟨s0, s3, s5, s7, s50, s55⟩ := hKp
 have b56 := hf.b 56
 refine ⟨?_⟩
 refine wpList_plain rfl fun K5 hK5 => ?_
 refine wp_app _ _ 28 rfl 47 _ 3 24 Tryz.underlying28 info_ent rfl (by decide) (by decide) W1.heap.size (.slice Av3 xs3.length cv3) xs3.length _ (Fact.eval_tmp s50) (how3.alloc _) w1.heap.size q.cells (Fact.eval_tmp s55) rfl (lit_new w1 _ _) (ent_one q) (by omega) (by have := hbx.size; simp; omega) (fun v5 w5 hr5 hg5 hat5 => hK5 _ _ ?_)
 refine Fact.L.out ?_
 refine fp fun K Z => ?_
 go_simp
 apply Z.out; clear Z K
 refine Fact.z hf fun fr1 hf1 hT => ?_
 have hKp : _ ∧ _ ∧ _ ∧ _ := ⟨hT 0, hT 3, hT 5, hT 7⟩
 simp (decide := true) only [Fact.G, hf.size, reduceIte, s0, s3, s7] at hKp
 replace hf := hf1; clear hT hf1 s0 s3 s5 s7 s50 s55 b56
 obtain ⟨s0, s3, s5, s7⟩ := hKp
 have hb5 := (hbx.alloc hbx.size _).grown hg5 (by have := hbx.size; simp; omega) (fun kk hkk => (how2.lt kk hkk).1)
 have how5 : OE w5 W1.heap.size v5 (xs3 ++ [q]) := by unfold OE; rw [ecs_append, List.length_append]; exact hr5
 have hfin : twE es e ++ [bareE e] ++ (es.take (k + 1)).filter (gtE e) = xs3 ++ [q] := by rw [HFS.out, HGT.out, if_pos rfl, ← List.append_assoc, HX3.out]
 have HF := Lib.hid hfin; clear hfin
 refine Fact.block_normal ?_
 refine nx (hK23 _ _ ?_)
 refine rg ?_
 have b40 := hf.b 40
 have b41 := hf.b 41
 refine fp fun K Z => ?_
 go_simp
 apply Z.out; clear Z K
 refine fp fun K Z => ?_
 go_simp
 try simp (disch := omega) only [Fact.W]
 apply Z.out; clear Z K
 refine fp fun K Z => ?_
 go_simp
 apply Z.out; clear Z K
 refine Fact.z hf fun fr1 hf1 hT => ?_
 have hKp : _ ∧ _ ∧ _ ∧ _ := ⟨hT 0, hT 3, hT 5, hT 7⟩
 simp (decide := true) only [Fact.G, hf.size, reduceIte, s0, s3, s5] at hKp
 replace hf := hf1; clear hT hf1 s0 s3 s5 s7 b40 b41
 obtain ⟨s0, s3, s5, s7⟩ := hKp
 refine Fact.then_normal ?_
 exact ⟨_, by have := HK2.out; omega, k + 1, _, rfl, by omega, hf, s0, s3, s5, by rw [s7]; rfl, by rw [HF.out]; exact how5, hb5⟩)
 · (
 rw [less_eq, gt_lex] at hqg
 have hbx := hb3.trans (hx.mono hb3.size)
 have hgt : gtE e q = false := hqg
 have HGT := Lib.hid hgt; clear hgt hqg
 have hfin : twE es e ++ [bareE e] ++ (es.take (k + 1)).filter (gtE e) = xs3 := by rw [HFS.out, HGT.out, if_neg (by simp), List.append_nil, HX3.out]
 have HF := Lib.hid hfin; clear hfin
 have how5 := how3
 have hb5 := hbx
 refine wp_skip ?_
 refine Fact.block_normal ?_
 refine nx (hK23 _ _ ?_)
 refine rg ?_
 have b40 := hf.b 40
 have b41 := hf.b 41
 refine fp fun K Z => ?_
 go_simp
 apply Z.out; clear Z K
 refine fp fun K Z => ?_
 go_simp
 try simp (disch := omega) only [Fact.W]
 apply Z.out; clear Z K
 refine fp fun K Z => ?_
 go_simp
 apply Z.out; clear Z K
 refine Fact.z hf fun fr1 hf1 hT => ?_
 have hKp : _ ∧ _ ∧ _ ∧ _ := ⟨hT 0, hT 3, hT 5, hT 7⟩
 simp (decide := true) only [Fact.G, hf.size, reduceIte, s0, s3, s5] at hKp
 replace hf := hf1; clear hT hf1 s0 s3 s5 s7 s49 b40 b41
 obtain ⟨s0, s3, s5, s7⟩ := hKp
 refine Fact.then_normal ?_
 exact ⟨_, by have := HK2.out; omega, k + 1, _, rfl, by omega, hf, s0, s3, s5, by rw [s7]; rfl, by rw [HF.out]; exact how5, hb5⟩))
 · (
 have hke : k = es.length := by have h9 := of_decide_eq_false hq3; omega
 rw [hke, List.take_length] at how3
 clear hq3 hke
 refine wp_exit ?_
 refine Fact.then_exit ?_
 refine Fact.then_exit ?_
 refine Fact.block_exit ?_
 refine nx (hK19 _ _ ?_)
 refine Fact.sq fun K25 hK25 => ?_
 refine rg ?_
 have b57 := hf.b 57
 iterate 2 (refine fp fun K Z => ?_; go_simp; apply Z.out; clear Z K)
 refine Fact.z hf fun fr1 hf1 hT => ?_
 have hKp := hT 4
 simp (decide := true) only [Fact.G, hf.size, reduceIte] at hKp
 replace hf := hf1; clear hT hf1 s0 s3 s5 s7 s39 b57
 have s4 := hKp; clear hKp
 refine nx (hK25 _ _ ?_)
 refine wp_ret ?_
 exact Fact.ret1 rfl hf s4 ⟨_, rfl, own_less how3 hs1, hb1.trans (hb3.mono hs1)⟩))))
end Dw
end Go.Proofs.YtdkbgbdgmihlmaaGreatDoor

namespace Go.Proofs.YtdkbgbdgmihlmaaGreatDoor
set_option linter.unusedSimpArgs false
set_option linter.unusedVariables false
set_option linter.unnecessarySimpa false
namespace Dw
def RiseE (l : List Ent) : Prop := l.Pairwise fun a b => lexlt (wl a.word) (wl b.word) = true
theorem tw_all (l : List Ent) (e : Ent) : ∀ x ∈ twE l e, lexlt (wl x.word) (wl e.word) = true := by
  induction l with
  | nil => intro x hx; cases hx
  | cons y l ih =>
    intro x hx
    unfold twE at hx
    rw [List.takeWhile_cons] at hx
    split at hx
    · rename_i h
      rcases List.mem_cons.1 hx with rfl | hx
      · exact h
      · exact ih x hx
    · cases hx
theorem one_rise {l : List Ent} (h : RiseE l) (e : Ent) : RiseE (oneE l e) := by
  unfold RiseE oneE
  rw [List.pairwise_append, List.pairwise_append]
  refine ⟨⟨h.sublist (List.takeWhile_sublist _), List.pairwise_singleton _ _, fun a ha b hb => ?_⟩, h.sublist List.filter_sublist, fun a ha b hb => ?_⟩
  · simp only [List.mem_singleton] at hb
    subst hb
    rw [bareE_word]
    exact tw_all l e a ha
  · have hb := (List.mem_filter.1 hb).2
    rcases List.mem_append.1 ha with ha | ha
    · exact lexlt_trans _ _ _ (tw_all l e a ha) hb
    · simp only [List.mem_singleton] at ha
      subst ha
      rw [bareE_word]
      exact hb
theorem with_rise (es : List Ent) {l : List Ent} (h : RiseE l) : RiseE (withE l es) := by
  induction es generalizing l with
  | nil => exact h
  | cons e es ih => exact ih (one_rise h e)
/-- a rising list has at most one entry more than it had -/
theorem parts_length {l : List Ent} (h : RiseE l) (e : Ent) : (twE l e).length + (l.filter (gtE e)).length ≤ l.length := by
  induction l with
  | nil => simp [twE]
  | cons x l ih =>
    have ih := ih (List.pairwise_cons.1 h).2
    unfold twE at ih ⊢
    simp only [List.takeWhile_cons, List.filter_cons]
    cases h1 : lexlt (wl x.word) (wl e.word) with
    | true =>
      have hg : gtE e x = false := lex_asym _ _ h1
      simp only [hg, Bool.false_eq_true, if_true, if_false, List.length_cons]
      omega
    | false =>
      have h2 := List.length_filter_le (gtE e) l
      simp only [Bool.false_eq_true, if_false, List.length_nil, Nat.zero_add]
      split <;> simp only [List.length_cons] <;> omega
theorem one_length {l : List Ent} (h : RiseE l) (e : Ent) : (oneE l e).length ≤ l.length + 1 := by
  have := parts_length h e
  unfold oneE
  unfold twE gtE at this
  simp only [List.length_append, List.length_cons, List.length_nil]
  omega
theorem with_length (es : List Ent) {l : List Ent} (h : RiseE l) : (withE l es).length ≤ l.length + es.length := by
  induction es generalizing l with
  | nil => simp [withE]
  | cons e es ih =>
    have h1 := ih (one_rise h e)
    have h2 := one_length h e
    show (withE (oneE l e) es).length ≤ _
    simp only [List.length_cons]
    omega
theorem withK_length (es : List Ent) (i : Nat) : (withE [] (es.take i)).length ≤ es.length := by
  have h1 := with_length (es.take i) (l := []) List.Pairwise.nil
  have h2 : (es.take i).length ≤ es.length := by simp; omega
  simp only [List.length_nil, Nat.zero_add] at h1
  omega
theorem one_mem {l : List Ent} {e x : Ent} (h : x ∈ oneE l e) : x ∈ l ∨ x = bareE e := by
  unfold oneE at h
  rcases List.mem_append.1 h with h | h
  · rcases List.mem_append.1 h with h | h
    · exact .inl ((List.takeWhile_sublist _).subset h)
    · exact .inr (by simpa using h)
  · exact .inl (List.mem_filter.1 h).1
theorem with_mem (es : List Ent) {l : List Ent} {x : Ent} (h : x ∈ withE l es) : x ∈ l ∨ ∃ e ∈ es, x = bareE e := by
  induction es generalizing l with
  | nil => exact .inl h
  | cons e es ih =>
    rcases ih (l := oneE l e) h with h1 | ⟨y, hy, h1⟩
    · rcases one_mem h1 with h2 | h2
      · exact .inl h2
      · exact .inr ⟨e, List.mem_cons_self .., h2⟩
    · exact .inr ⟨y, List.mem_cons_of_mem _ hy, h1⟩
theorem bareE_bare (e : Ent) : bareE (bareE e) = bareE e := by
  unfold bareE
  cases h : e.gone <;> simp [h]
theorem ents_ok {ds : List Dra} {n : Nat} (h : ∀ d ∈ ds, okD d) : ∀ e ∈ entsOf ds n, okE e ∧ okW e.word = true ∧ bareE e = e := by
  intro e he
  unfold entsOf at he
  obtain ⟨d, hd, rfl⟩ := List.mem_map.1 he
  exact ⟨ent_okE (h d (List.mem_of_mem_take hd)), ent_okW d, bareE_bare _⟩
theorem ents_length (ds : List Dra) (n : Nat) : (entsOf ds n).length ≤ n := by unfold entsOf; simp; omega
/-- a list that is drawn: its entries are as they may be, it rises -/
theorem list_ok {ds : List Dra} {n : Nat} (h : ∀ d ∈ ds, okD d) : (∀ e ∈ listOf ds n, okE e ∧ okW e.word = true ∧ bareE e = e) ∧ RiseE (listOf ds n) ∧ (listOf ds n).length ≤ n := by
  refine ⟨fun e he => ?_, with_rise _ List.Pairwise.nil, ?_⟩
  · rcases with_mem _ he with h1 | ⟨x, hx, rfl⟩
    · cases h1
    · obtain ⟨h2, h3, h4⟩ := ents_ok h x hx
      rw [h4]
      exact ⟨h2, h3, h4⟩
  · have h1 := with_length (entsOf ds n) (l := []) List.Pairwise.nil
    have h2 := ents_length ds n
    simp only [List.length_nil, Nat.zero_add] at h1
    unfold listOf
    omega
theorem chk_rise : ∀ (l : List Ent) (p : Option (List Nat)), (∀ e ∈ l, okW e.word = true) → RiseE l → (∀ q, p = some q → ∀ e, l.head? = some e → lexlt q (wl e.word) = true) → chkL p l = 0
  | [], _, _, _, _ => rfl
  | e :: l, p, hw, hr, hp => by
    have hr := List.pairwise_cons.1 hr
    have ih := chk_rise l (some (wl e.word)) (fun x hx => hw x (List.mem_cons_of_mem _ hx)) hr.2 (fun q hq x hx => by injection hq with hq; subst hq; exact hr.1 x (List.mem_of_mem_head? hx))
    simp only [chkL, hw e (List.mem_cons_self ..), if_true, ih]
    cases p with
    | none => rfl
    | some q => simp only [hp q rfl e rfl, if_true]
theorem list_chk {ds : List Dra} {n : Nat} (h : ∀ d ∈ ds, okD d) : chkN (listOf ds n) = 0 :=
  chk_rise _ _ (fun e he => ((list_ok h).1 e he).2.1) (list_ok h).2.1 (fun q hq => by cases hq)
end Dw
end Go.Proofs.YtdkbgbdgmihlmaaGreatDoor

namespace Go.Proofs.YtdkbgbdgmihlmaaGreatDoor
open Go.RowKit
set_option linter.unusedSimpArgs false
set_option linter.unusedVariables false
set_option linter.unnecessarySimpa false
namespace Dw
set_option maxHeartbeats 4000000 in
set_option maxRecDepth 100000 in
theorem with_ (w : World) (es : List Ent) (B : Nat) (v : Value) (hB : B ≤ w.heap.size) (hre : RE w B v es) (hlen : es.length ≤ 1000) : Calls Tryz.prog 19 #[.slice none 0 0, v] w fun e w1 => ∃ v1, e = .returned v1 ∧ OE w1 w.heap.size v1 (withE [] es) ∧ Below w.heap.size w w1 := by
 refine calls_of_wp Tryz.func19 rfl ?_
 refine Fact.en 22 fun fr hf hT => ?_
 have s0 := hT 0 _ rfl
 have s1 := hT 1 _ rfl
 clear hT
 have hre0 := hre.any
 obtain ⟨A, cc, rfl, hcc⟩ := hre.form
 clear hre
 refine Fact.sq fun K1 hK1 => ?_
 refine rg ?_
 refine fp fun K Z => ?_
 go_simp
 apply Z.out; clear Z K
 refine Fact.z hf fun fr1 hf1 hT => ?_
 have hKp : _ ∧ _ := ⟨hT 0, hT 1⟩
 simp (decide := true) only [Fact.G, reduceIte, s0, s1] at hKp
 replace hf := hf1; clear hT hf1 s0 s1
 obtain ⟨s0, s1⟩ := hKp
 refine nx (hK1 _ _ ?_)
 refine Fact.sq fun K2 hK2 => ?_
 refine rg ?_
 have b7 := hf.b 7
 have b8 := hf.b 8
 refine fp fun K Z => ?_
 go_simp
 apply Z.out; clear Z K
 refine Fact.reL (n := 22) (by simp only [Fact.G, hf.size]) hf.defers (fun fr1 hf1 hT => ?_)
 have hKp : _ ∧ _ := ⟨hT 1, hT 7⟩
 simp (decide := true) only [Fact.G, hf.size, reduceIte, s1] at hKp
 replace hf := hf1; clear hT hf1 s0 s1 b7 b8
 obtain ⟨s1, s7⟩ := hKp
 have b8 := hf.b 8
 refine ⟨?_⟩
 refine wpList_plain rfl fun K5 hK5 => ?_
 refine wp_apps _ _ 28 rfl 47 _ 3 24 Tryz.underlying28 info_ent rfl (by decide) (by decide) w.heap.size _ 0 [] rfl (World.ownsRow_nil _ _ _ _) none 0 0 [] (Fact.eval_tmp s7) rfl (fun h => absurd h (by simp)) (by simp) (by omega) (Nat.le_refl _) (fun v5 w5 hr5 hg5 hat5 => hK5 _ _ ?_)
 refine Fact.L.out ?_
 refine fp fun K Z => ?_
 go_simp
 apply Z.out; clear Z K
 refine Fact.z hf fun fr1 hf1 hT => ?_
 have hKp : _ ∧ _ := ⟨hT 1, hT 5⟩
 simp (decide := true) only [Fact.G, hf.size, reduceIte, s1] at hKp
 replace hf := hf1; clear hT hf1 s1 s7 b8
 obtain ⟨s1, s5⟩ := hKp
 have hb5 : Below w.heap.size w w5 := (Below.refl _ w).grown hg5 (Nat.le_refl _) (fun kk hkk => by cases hkk)
 have how5 : OE w5 w.heap.size v5 [] := hr5
 refine nx (hK2 _ _ ?_)
 refine Fact.sq fun K3 hK3 => ?_
 refine Fact.sq fun K4 hK4 => ?_
 refine rg ?_
 refine fp fun K Z => ?_
 go_simp
 apply Z.out; clear Z K
 refine Fact.z hf fun fr1 hf1 hT => ?_
 have hKp : _ ∧ _ ∧ _ := ⟨hT 1, hT 5, hT 6⟩
 simp (decide := true) only [Fact.G, hf.size, reduceIte, s1, s5] at hKp
 replace hf := hf1; clear hT hf1 s1 s5
 obtain ⟨s1, s5, s6⟩ := hKp
 refine nx (hK4 _ _ ?_)
 refine wp_block ?_
 refine wp_loop_ghost (fun gk fr wr => ∃ (i : Nat) (V : Value), gk = es.length - i ∧ i ≤ es.length ∧ Fact.Fr 22 fr ∧ fr.tmps[1]? = some (.slice A es.length cc) ∧ fr.tmps[5]? = some V ∧ fr.tmps[6]? = some (.int .i64 i) ∧ OE wr w.heap.size V (withE [] (es.take i)) ∧ Below w.heap.size w wr) (es.length) ?_ ?_
 · (
 exact ⟨0, v5, rfl, Nat.zero_le _, hf, s1, s5, s6, how5, hb5⟩)
 · (
 clear hf s1 s5 s6
 rintro gk fr wr ⟨i, V, hk, hi, hf, s1, s5, s6, how, hb⟩
 have HK := Lib.hid hk; clear hk
 refine Fact.sq fun K5 hK5 => ?_
 refine Fact.sq fun K6 hK6 => ?_
 refine rg ?_
 have b9 := hf.b 9
 have b10 := hf.b 10
 have b11 := hf.b 11
 iterate 4 (refine fp fun K Z => ?_; go_simp; apply Z.out; clear Z K)
 refine Fact.z hf fun fr1 hf1 hT => ?_
 have hKp : _ ∧ _ ∧ _ ∧ _ := ⟨hT 1, hT 5, hT 6, hT 12⟩
 simp (decide := true) only [Fact.G, hf.size, reduceIte, s1, s5, s6] at hKp
 replace hf := hf1; clear hT hf1 s1 s5 s6 b9 b10 b11
 obtain ⟨s1, s5, s6, s12⟩ := hKp
 refine nx (hK6 _ _ ?_)
 refine Fact.cond_s s12 (fun hq => ?_) (fun hq => ?_)
 · (
 have hlt : i < es.length := by have h9 := of_decide_eq_true hq; omega
 have HQ := Lib.hid hq; clear hq
 obtain ⟨q, hiq⟩ : ∃ q, es[i]? = some q := ⟨_, List.getElem?_eq_getElem hlt⟩
 obtain ⟨b, off, rfl, hbB, hbl, d0, d1, d2⟩ := (hre0.below hb).at_ hiq
 have hst : withE [] (es.take (i + 1)) = oneE (withE [] (es.take i)) q := by rw [List.take_add_one, hiq]; simp [withE]
 have HST := Lib.hid hst; clear hst hiq
 obtain ⟨xs, hxs⟩ : ∃ x, withE [] (es.take i) = x := ⟨_, rfl⟩
 rw [hxs] at how
 have hln0 := withK_length es i; rw [hxs] at hln0
 have hln : xs.length ≤ 100000 := by omega
 have HXS := Lib.hid hxs; clear hxs hln0
 obtain ⟨Av, cv, rfl, hcv⟩ := OE.form (es := xs) how
 have hre1 := OE.re (es := xs) how
 refine wp_skip ?_
 refine nx (hK5 _ _ ?_)
 refine Fact.sq fun K7 hK7 => ?_
 refine wp_block ?_
 refine rg ?_
 have b15 := hf.b 15
 have b16 := hf.b 16
 have b17 := hf.b 17
 have b18 := hf.b 18
 have b19 := hf.b 19
 have b20 := hf.b 20
 iterate 3 (refine fp fun K Z => ?_; go_simp; apply Z.out; clear Z K)
 refine fp fun K Z => ?_
 go_simp
 try rw [if_pos (by omega)]
 apply Z.out; clear Z K
 refine fp fun K Z => ?_
 go_simp
 apply Z.out; clear Z K
 refine fp fun K Z => ?_
 go_simp
 go_at_call 40; refine (one wr xs _ _ (Nat.le_refl _) hre1 hln q).mono ?_; rintro e w2 ⟨v2, rfl, how2, hb2⟩
 try dsimp only
 apply Z.out; clear Z K
 refine fp fun K Z => ?_
 go_simp
 apply Z.out; clear Z K
 refine Fact.z hf fun fr1 hf1 hT => ?_
 have hKp : _ ∧ _ ∧ _ := ⟨hT 1, hT 5, hT 6⟩
 simp (decide := true) only [Fact.G, hf.size, reduceIte, s1, s6] at hKp
 replace hf := hf1; clear hT hf1 s1 s5 s6 s12 b15 b16 b17 b18 b19 b20
 obtain ⟨s1, s5, s6⟩ := hKp
 refine Fact.block_normal ?_
 refine nx (hK7 _ _ ?_)
 refine rg ?_
 have b13 := hf.b 13
 have b14 := hf.b 14
 refine fp fun K Z => ?_
 go_simp
 apply Z.out; clear Z K
 refine fp fun K Z => ?_
 go_simp
 try simp (disch := omega) only [Fact.W]
 apply Z.out; clear Z K
 refine fp fun K Z => ?_
 go_simp
 apply Z.out; clear Z K
 refine Fact.z hf fun fr1 hf1 hT => ?_
 have hKp : _ ∧ _ ∧ _ := ⟨hT 1, hT 5, hT 6⟩
 simp (decide := true) only [Fact.G, hf.size, reduceIte, s1, s5] at hKp
 replace hf := hf1; clear hT hf1 s1 s5 s6 b13 b14
 obtain ⟨s1, s5, s6⟩ := hKp
 refine Fact.then_normal ?_
 exact ⟨_, by have := HK.out; omega, i + 1, v2, rfl, by omega, hf, s1, s5, by rw [s6]; rfl, by rw [HST.out, HXS.out]; exact own_less how2 hb.size, hb.trans (hb2.mono hb.size)⟩)
 · (
 have hke : i = es.length := by have h9 := of_decide_eq_false hq; omega
 rw [hke, List.take_length] at how
 clear hq hke
 refine wp_exit ?_
 refine Fact.then_exit ?_
 refine Fact.then_exit ?_
 refine Fact.block_exit ?_
 refine nx (hK3 _ _ ?_)
 refine Fact.sq fun K8 hK8 => ?_
 refine rg ?_
 have b21 := hf.b 21
 iterate 2 (refine fp fun K Z => ?_; go_simp; apply Z.out; clear Z K)
 refine Fact.z hf fun fr1 hf1 hT => ?_
 have hKp := hT 4
 simp (decide := true) only [Fact.G, hf.size, reduceIte] at hKp
 replace hf := hf1; clear hT hf1 s1 s5 s6 s12 b21
 have s4 := hKp; clear hKp
 refine nx (hK8 _ _ ?_)
 refine wp_ret ?_
 exact Fact.ret1 rfl hf s4 ⟨_, rfl, how, hb⟩))
set_option maxHeartbeats 4000000 in
set_option maxRecDepth 100000 in
theorem list_ (w : World) (ds : List Dra) (most : Nat) (hm : most ≤ 1000) (v : Value) (hrd : RDs w w.heap.size v ds) (hok : ∀ d ∈ ds, okD d) : Calls Tryz.prog 5 #[v, .int .i64 most] w fun e w1 => ∃ v1, e = .returned v1 ∧ OE w1 w.heap.size v1 (listOf ds most) ∧ Below w.heap.size w w1 := by
 refine calls_of_wp Tryz.func5 rfl ?_
 refine Fact.en 9 fun fr hf hT => ?_
 have s0 := hT 0 _ rfl
 have s1 := hT 1 _ rfl
 clear hT
 refine Fact.sq fun K1 hK1 => ?_
 refine rg ?_
 refine fp fun K Z => ?_
 go_simp
 apply Z.out; clear Z K
 refine Fact.z hf fun fr1 hf1 hT => ?_
 have hKp : _ ∧ _ := ⟨hT 0, hT 1⟩
 simp (decide := true) only [Fact.G, reduceIte, s0, s1] at hKp
 replace hf := hf1; clear hT hf1 s0 s1
 obtain ⟨s0, s1⟩ := hKp
 refine nx (hK1 _ _ ?_)
 refine Fact.sq fun K2 hK2 => ?_
 refine rg ?_
 have b5 := hf.b 5
 have b6 := hf.b 6
 have b7 := hf.b 7
 have b8 := hf.b 8
 iterate 2 (refine fp fun K Z => ?_; go_simp; apply Z.out; clear Z K)
 refine fp fun K Z => ?_
 go_simp
 go_at_call 20; refine (entries w ds most hm v hrd hok).mono ?_; rintro e w1 ⟨v1, rfl, how1, hb1⟩
 have hre1 := OE.re how1
 have hl1 : (entsOf ds most).length ≤ 1000 := by unfold entsOf; simp; omega
 try dsimp only
 apply Z.out; clear Z K
 refine fp fun K Z => ?_
 go_simp
 go_at_call 19; refine (with_ w1 (entsOf ds most) _ v1 (Nat.le_refl _) hre1 hl1).mono ?_; rintro e w2 ⟨v2, rfl, how2, hb2⟩
 try dsimp only
 apply Z.out; clear Z K
 refine fp fun K Z => ?_
 go_simp
 apply Z.out; clear Z K
 refine Fact.z hf fun fr1 hf1 hT => ?_
 have hKp := hT 4
 simp (decide := true) only [Fact.G, hf.size, reduceIte] at hKp
 replace hf := hf1; clear hT hf1 s0 s1 b5 b6 b7 b8
 have s4 := hKp; clear hKp
 refine nx (hK2 _ _ ?_)
 refine wp_ret ?_
 exact Fact.ret1 rfl hf s4 ⟨_, rfl, own_less how2 hb1.size, hb1.trans (hb2.mono hb1.size)⟩
end Dw
end Go.Proofs.YtdkbgbdgmihlmaaGreatDoor
