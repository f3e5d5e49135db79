/- Entries, lists that are drawn (cedillaref05): what they are, how they lie. -/
import Derived.Test.YtcddnmhmcieebaaGreatDoorY1
import Derived.Test.YtcddnmhmcieebaaGreatDoorY9
import Derived.Test.YtcddnmhmcieebaaGreatDoorY7
import Derived.Laws.BytesArg
import Derived.Test.YtcddnmhmcieebaaGreatDoorTools
namespace Go.Proofs.YtcddnmhmcieebaaGreatDoor
open Go.RowKit
set_option linter.unusedSimpArgs false
set_option linter.unusedVariables false
set_option linter.unnecessarySimpa false
namespace Dw
/-! bare -/
def bareE (e : Ent) : Ent := if e.gone then ⟨e.word, 0, e.gone⟩ else e
theorem bareE_ok {e : Ent} (h : okE e) : okE (bareE e) := by unfold bareE; split; exact ⟨by simp, by simp⟩; exact h
theorem bareE_word (e : Ent) : (bareE e).word = e.word := by unfold bareE; split <;> rfl
/-! drafts -/
structure Dra where
  letters : List Int
  weight : Int
  gone : Bool
def okD (d : Dra) : Prop := (∀ x ∈ d.letters, 0 ≤ x ∧ x ≤ 255) ∧ 0 ≤ d.weight ∧ d.weight < 4294967296
def dletter (x : Int) : Int := if x % 8 < 7 then 97 + x % 8 % 3 else x
def dbody (l : List Int) : ByteArray := l.foldl (fun s x => s ++ strOfNums [dletter x]) ⟨#[]⟩
def dword (l : List Int) : ByteArray := if (dbody (l.take 9)).toList = [] then ⟨#[97]⟩ else dbody (l.take 9)
def Dra.ent (d : Dra) : Ent := bareE ⟨dword d.letters, d.weight, d.gone⟩
theorem strOf1 (x : Int) : (strOfNums [x]).size = 1 := rfl
theorem dbody_snoc (l : List Int) (x : Int) : dbody (l ++ [x]) = dbody l ++ strOfNums [dletter x] := by simp [dbody]
theorem dbody_size (l : List Int) : (dbody l).size = l.length := by
  have key : ∀ (l : List Int) (s : ByteArray), (l.foldl (fun s x => s ++ strOfNums [dletter x]) s).size = s.size + l.length := by
    intro l
    induction l with
    | nil => intro s; simp
    | cons x l ih => intro s; rw [List.foldl_cons, ih, ByteArray.size_append, strOf1]; simp; omega
  have := key l ⟨#[]⟩
  rw [show (⟨#[]⟩ : ByteArray).size = 0 from rfl, Nat.zero_add] at this
  exact this
theorem toList_length (s : ByteArray) : s.toList.length = s.size := by rw [ByteArray.toList_eq, Array.length_toList]; rfl
theorem dword_size (l : List Int) : 1 ≤ (dword l).size ∧ (dword l).size ≤ 9 := by
  unfold dword
  have h1 := toList_length (dbody (l.take 9))
  have h2 := dbody_size (l.take 9)
  have h3 : (l.take 9).length ≤ 9 := by simp; omega
  split
  · decide
  · rename_i h
    refine ⟨?_, by omega⟩
    rcases Nat.eq_zero_or_pos (dbody (l.take 9)).size with h4 | h4
    · exact absurd (List.eq_nil_of_length_eq_zero (h1.trans h4)) h
    · exact h4
theorem ent_okE {d : Dra} (h : okD d) : okE d.ent := bareE_ok ⟨h.2.1, h.2.2⟩
theorem ent_okW (d : Dra) : okW d.ent.word = true := by
  unfold Dra.ent
  rw [bareE_word, okW_eq]
  have := dword_size d.letters
  rw [decide_eq_true this.1, decide_eq_true (show (dword d.letters).size ≤ 255 by omega)]
  rfl
theorem conv1 (W : World) (y : Int) : (convert 31 9 (.slice (some ⟨W.heap.size, 0, none⟩) 1 1)).run Tryz.prog (W.alloc (.cells #[.int .u8 y] 5)) = .ok (.string (strOfNums [y])) (W.alloc (.cells #[.int .u8 y] 5)) := by
  refine run_convert_bytes_arg (P := Tryz.prog) _ 31 5 Tryz.underlying31 Tryz.underlying5 W.heap.size 0 1 1 [y] rfl (fun i hi => ?_) 9 Tryz.underlying9
  obtain rfl : i = 0 := by omega
  exact cell_of_row _ _ 0 _ 5 (0, 0) (heap_alloc_new W (.cells #[.int .u8 y] 5))
/-- a slice of bytes, below block B -/
def RU (w : World) (B : Nat) (v : Value) (l : List Int) : Prop := ∃ (A : Option Addr) (c : Nat), v = .slice A l.length c ∧ l.length ≤ 9223372036854775807 ∧ (0 < l.length → ∃ b off, A = some ⟨b, off, none⟩ ∧ b < B ∧ ∀ (i : Nat) (x : Int), l[i]? = some x → w.cell? ⟨b, off + i, none⟩ = some (.int .u8 x))
/-- a slice of drafts, below block B -/
def RDs (w : World) (B : Nat) (v : Value) (ds : List Dra) : Prop := ∃ (A : Option Addr) (c : Nat), v = .slice A ds.length c ∧ ds.length ≤ 9223372036854775807 ∧ (0 < ds.length → ∃ b off, A = some ⟨b, off, none⟩ ∧ b < B ∧
  ∀ (i : Nat) (d : Dra), ds[i]? = some d → ∃ lv, w.cell? ⟨b, off + i * 3, none⟩ = some lv ∧ w.cell? ⟨b, off + i * 3 + 1, none⟩ = some (.int .u32 d.weight) ∧ w.cell? ⟨b, off + i * 3 + 2, none⟩ = some (.bool d.gone) ∧ RU w B lv d.letters)
section
variable {w w' : World} {B B' : Nat} {v : Value} {l : List Int} {ds : List Dra}
theorem RU.below (h : RU w B v l) (hb : Below B w w') : RU w' B v l := by
  obtain ⟨A, c, h1, h2, h3⟩ := h
  refine ⟨A, c, h1, h2, fun h0 => ?_⟩
  obtain ⟨b, off, h4, h5, h6⟩ := h3 h0
  exact ⟨b, off, h4, h5, fun i x hi => old_cell hb (h6 i x hi) h5⟩
theorem RU.more (h : RU w B v l) (hB : B ≤ B') : RU w B' v l := by
  obtain ⟨A, c, h1, h2, h3⟩ := h
  refine ⟨A, c, h1, h2, fun h0 => ?_⟩
  obtain ⟨b, off, h4, h5, h6⟩ := h3 h0
  exact ⟨b, off, h4, by omega, h6⟩
theorem RU.form (h : RU w B v l) : ∃ (A : Option Addr) (c : Nat), v = .slice A l.length c ∧ l.length ≤ 9223372036854775807 := by
  obtain ⟨A, c, h1, h2, _⟩ := h
  exact ⟨A, c, h1, h2⟩
theorem RU.at_ {A : Option Addr} {n c : Nat} (h : RU w B (.slice A n c) l) {i : Nat} {x : Int} (hi : l[i]? = some x) : ∃ b off, A = some ⟨b, off, none⟩ ∧ b < B ∧ w.cell? ⟨b, off + i, none⟩ = some (.int .u8 x) := by
  obtain ⟨A', c', h1, h2, h3⟩ := h
  injection h1 with h1
  have h0 := (List.getElem?_eq_some_iff.1 hi).1
  obtain ⟨b, off, h4, h5, h6⟩ := h3 (by omega)
  exact ⟨b, off, h1.trans h4, h5, h6 i x hi⟩
theorem RDs.below (h : RDs w B v ds) (hb : Below B w w') : RDs w' B v ds := by
  obtain ⟨A, c, h1, h2, h3⟩ := h
  refine ⟨A, c, h1, h2, fun h0 => ?_⟩
  obtain ⟨b, off, h4, h5, h6⟩ := h3 h0
  refine ⟨b, off, h4, h5, fun i d hi => ?_⟩
  obtain ⟨lv, k0, k1, k2, k3⟩ := h6 i d hi
  exact ⟨lv, old_cell hb k0 h5, old_cell hb k1 h5, old_cell hb k2 h5, k3.below hb⟩
theorem RDs.more (h : RDs w B v ds) (hB : B ≤ B') : RDs w B' v ds := by
  obtain ⟨A, c, h1, h2, h3⟩ := h
  refine ⟨A, c, h1, h2, fun h0 => ?_⟩
  obtain ⟨b, off, h4, h5, h6⟩ := h3 h0
  refine ⟨b, off, h4, by omega, fun i d hi => ?_⟩
  obtain ⟨lv, k0, k1, k2, k3⟩ := h6 i d hi
  exact ⟨lv, k0, k1, k2, k3.more hB⟩
theorem RDs.form (h : RDs w B v ds) : ∃ (A : Option Addr) (c : Nat), v = .slice A ds.length c ∧ ds.length ≤ 9223372036854775807 := by
  obtain ⟨A, c, h1, h2, _⟩ := h
  exact ⟨A, c, h1, h2⟩
theorem RDs.at_ {A : Option Addr} {n c : Nat} (h : RDs w B (.slice A n c) ds) {i : Nat} {d : Dra} (hi : ds[i]? = some d) : ∃ b off lv, A = some ⟨b, off, none⟩ ∧ b < B ∧ w.cell? ⟨b, off + i * 3, none⟩ = some lv ∧ w.cell? ⟨b, off + i * 3 + 1, none⟩ = some (.int .u32 d.weight) ∧ w.cell? ⟨b, off + i * 3 + 2, none⟩ = some (.bool d.gone) ∧ RU w B lv d.letters := by
  obtain ⟨A', c', h1, h2, h3⟩ := h
  injection h1 with h1
  have h0 := (List.getElem?_eq_some_iff.1 hi).1
  obtain ⟨b, off, h4, h5, h6⟩ := h3 (by omega)
  obtain ⟨lv, k⟩ := h6 i d hi
  exact ⟨b, off, lv, h1.trans h4, h5, k⟩
end
/-- a row of entries that the call owns -/
abbrev OE (w : World) (base : Nat) (v : Value) (es : List Ent) : Prop := w.ownsRow base 64 3 v es.length (ecs es)
theorem ecs_append (a b : List Ent) : ecs (a ++ b) = ecs a ++ ecs b := by simp [ecs]
theorem OE.nil_ (w : World) (base : Nat) : OE w base (.slice none 0 0) [] := World.ownsRow_nil _ _ _ _
theorem OE.re {w : World} {base : Nat} {v : Value} {es : List Ent} (h : OE w base v es) : RE w w.heap.size v es := by
  rcases h.2 with ⟨rfl, h0⟩ | ⟨g, cap, cur, rfl, _, hh, hc, _⟩
  · obtain rfl : es = [] := List.eq_nil_of_length_eq_zero h0
    exact ⟨none, 0, rfl, by simp, fun h => absurd h (by simp)⟩
  · refine ⟨_, _, rfl, hc, fun _ => ⟨g, 0, rfl, heap_lt hh, fun j u hu => ?_⟩⟩
    have := h.cellAt j (by rw [← ecs_length]; exact (List.getElem?_eq_some_iff.1 hu).1)
    rw [Nat.zero_add, this, hu]
theorem OE.form {w : World} {base : Nat} {v : Value} {es : List Ent} (h : OE w base v es) : ∃ (A : Option Addr) (c : Nat), v = .slice A es.length c ∧ es.length ≤ c := h.re.form
theorem info_ent : (Tryz.prog.info? 64).map (fun i => (i.zero, i.size, i.bytes)) = some (some (.agg #[.string ⟨#[]⟩, .int .u32 0, .bool false]), 3, 24) := by kernel_rfl
theorem ent_one (e : Ent) : ∀ u ∈ e.cells, u.oneCell' = true := by
  intro u hu
  simp [Ent.cells] at hu
  rcases hu with rfl | rfl | rfl <;> rfl
/-! lists -/
def oneE (l : List Ent) (e : Ent) : List Ent := l.takeWhile (fun x => lexlt (wl x.word) (wl e.word)) ++ [bareE e] ++ l.filter fun x => lexlt (wl e.word) (wl x.word)
def withE (l es : List Ent) : List Ent := es.foldl oneE l
def entsOf (ds : List Dra) (most : Nat) : List Ent := (ds.take most).map Dra.ent
def listOf (ds : List Dra) (most : Nat) : List Ent := withE [] (entsOf ds most)
end Dw
end Go.Proofs.YtcddnmhmcieebaaGreatDoor

namespace Go.Proofs.YtcddnmhmcieebaaGreatDoor
open Go.RowKit
set_option linter.unusedSimpArgs false
set_option linter.unusedVariables false
set_option linter.unnecessarySimpa false
namespace Dw

theorem two_ents {w W : World} {x y z x' y' z' : Value} {t t' : TypeId} (h : (w.alloc (.cells #[x, y, z] t)).alloc (.cells #[x', y', z'] t') = W) : Below w.heap.size w W ∧ W.cell? ⟨w.heap.size, 0, none⟩ = some x ∧ W.cell? ⟨w.heap.size, 1, none⟩ = some y ∧ W.cell? ⟨w.heap.size, 2, none⟩ = some z ∧
    W.heap[w.heap.size + 1]? = some (.cells #[x', y', z'] t' (0, 0)) ∧ W.heap[w.heap.size]? = some (.cells #[x, y, z] t (0, 0)) := by
  obtain ⟨W0, hW0⟩ : ∃ W0, w.alloc (.cells #[x, y, z] t) = W0 := ⟨_, rfl⟩
  rw [hW0] at h
  obtain ⟨h1, h2, h3, h4, h6, h5⟩ := box3 hW0
  obtain ⟨k1, k2, k3, k4, k6, k5⟩ := box3 h
  rw [h5] at k6
  exact ⟨h1.trans (k1.mono h1.size), cL k1 h2, cL k1 h3, cL k1 h4, k6, (k1.block _ (by omega)).trans h6⟩
set_option maxHeartbeats 4000000 in
set_option maxRecDepth 100000 in
theorem bare_g (w : World) (e : Ent) (hg : e.gone = true) : Calls Tryz.prog 93 #[eval e] w fun e1 w1 => e1 = .returned (eval (bareE e)) ∧ Below w.heap.size w w1 := by
 refine Zn1 7 Tryz.func93 fun fr hf s0 => ?_
 simp only [eval] at s0
 have HG := Lib.hid hg; clear hg
 refine Ze fun _ hK1 => ?_
 refine Zr [] hf ?_
 refine Zq2 1 2 hf ?_
 clear hf s0; intro fr1 hf sS
 obtain ⟨W1, hW1⟩ : ∃ x, (w.alloc (.cells #[.string e.word, .int .u32 e.weight, .bool e.gone] 64)).alloc (.cells #[.string ⟨#[]⟩, .int .u32 0, .bool false] 64) = x := ⟨_, rfl⟩
 rw [hW1]
 obtain ⟨hb1, x0, x1, x2, hp, hq⟩ := two_ents hW1
 obtain ⟨s1, s2⟩ := sS
 try simp only [World.size_alloc] at s2
 clear hW1
 refine Zs hK1 fun _ hK2 => ?_
 refine Ze fun _ hK3 => ?_
 refine Zr [3] hf ?_
 refine Zq3 1 2 4 hf ?_
 clear hf s1 s2; intro fr1 hf sS
 refine Zx hK3 ?_
 obtain ⟨s1, s2, s4⟩ := sS
 rw [HG.out] at s4
 refine Fact.cond_t s4 ?_
 have fz1 := frozen_of (i := 1) hq
 refine Zr [5] hf ?_
 refine Zq2 1 2 hf ?_
 clear hf s1 s2 s4; intro fr1 hf sS
 obtain ⟨W2, hW2⟩ : ∃ x, W1.setCell ⟨w.heap.size, 1, none⟩ (.int .u32 0) = x := ⟨_, rfl⟩
 rw [hW2]
 have hb2 : Below w.heap.size w W2 := by rw [← hW2]; exact hb1.setCell (p := ⟨w.heap.size, 1, none⟩) (Nat.le_refl _) _
 have hq2 := set_block (i := 1) hq (.int .u32 0)
 rw [hW2] at hq2
 have hp2 : W2.heap[w.heap.size + 1]? = some (.cells #[.string ⟨#[]⟩, .int .u32 0, .bool false] 64 (0, 0)) := by rw [← hW2]; exact (Below.heap_setCell _ _ _ _ (by simp)).trans hp
 clear hW2 hp hq x0 x1 x2 hb1
 have hp := hp2; have hb1 := hb2; clear hp2 hb2
 have x0 := cell_of_row _ _ 0 _ 64 (0, 0) hq2; have x1 := cell_of_row _ _ 1 _ 64 (0, 0) hq2; have x2 := cell_of_row _ _ 2 _ 64 (0, 0) hq2
 simp at x0 x1 x2
 refine Zx hK2 ?_
 have fz0 := frozen_of (i := 0) hp; have fz1 := frozen_of (i := 1) hp; have fz2 := frozen_of (i := 2) hp
 have g0 := cell_of_row _ _ 0 _ 64 (0, 0) hp; have g1 := cell_of_row _ _ 1 _ 64 (0, 0) hp; have g2 := cell_of_row _ _ 2 _ 64 (0, 0) hp
 simp at g0 g1 g2
 refine Ze fun _ hK4 => ?_
 refine Zr [6] hf ?_
 refine Zq1 2 hf ?_
 clear hf sS; intro fr1 hf s2
 refine Zx hK4 ?_
 refine Zret ?_
 refine ret_c rfl hf s2 (set_block (set_block (set_block hp _) _) _) Tryz.underlying64 rfl (by kernel_rfl) ⟨?_, ((hb1.setCell (p := ⟨w.heap.size + 1, 0, none⟩) (Nat.le_succ _) _).setCell (p := ⟨w.heap.size + 1, 1, none⟩) (Nat.le_succ _) _).setCell (p := ⟨w.heap.size + 1, 2, none⟩) (Nat.le_succ _) _⟩
 rw [show bareE e = ⟨e.word, 0, e.gone⟩ from if_pos HG.out]
 rfl
set_option maxHeartbeats 4000000 in
set_option maxRecDepth 100000 in
theorem bare_n (w : World) (e : Ent) (hg : e.gone = false) : Calls Tryz.prog 93 #[eval e] w fun e1 w1 => e1 = .returned (eval (bareE e)) ∧ Below w.heap.size w w1 := by
 refine Zn1 7 Tryz.func93 fun fr hf s0 => ?_
 simp only [eval] at s0
 have HG := Lib.hid hg; clear hg
 refine Ze fun _ hK1 => ?_
 refine Zr [] hf ?_
 refine Zq2 1 2 hf ?_
 clear hf s0; intro fr1 hf sS
 obtain ⟨W1, hW1⟩ : ∃ x, (w.alloc (.cells #[.string e.word, .int .u32 e.weight, .bool e.gone] 64)).alloc (.cells #[.string ⟨#[]⟩, .int .u32 0, .bool false] 64) = x := ⟨_, rfl⟩
 rw [hW1]
 obtain ⟨hb1, x0, x1, x2, hp, hq⟩ := two_ents hW1
 obtain ⟨s1, s2⟩ := sS
 try simp only [World.size_alloc] at s2
 clear hW1
 refine Zs hK1 fun _ hK2 => ?_
 refine Ze fun _ hK3 => ?_
 refine Zr [3] hf ?_
 refine Zq3 1 2 4 hf ?_
 clear hf s1 s2; intro fr1 hf sS
 refine Zx hK3 ?_
 obtain ⟨s1, s2, s4⟩ := sS
 rw [HG.out] at s4
 refine Fact.cond_f s4 ?_
 refine wp_skip ?_
 refine Zx hK2 ?_
 have fz0 := frozen_of (i := 0) hp; have fz1 := frozen_of (i := 1) hp; have fz2 := frozen_of (i := 2) hp
 have g0 := cell_of_row _ _ 0 _ 64 (0, 0) hp; have g1 := cell_of_row _ _ 1 _ 64 (0, 0) hp; have g2 := cell_of_row _ _ 2 _ 64 (0, 0) hp
 simp at g0 g1 g2
 refine Ze fun _ hK4 => ?_
 refine Zr [6] hf ?_
 refine Zq1 2 hf ?_
 clear hf s1 s2 s4; intro fr1 hf s2
 refine Zx hK4 ?_
 refine Zret ?_
 refine ret_c rfl hf s2 (set_block (set_block (set_block hp _) _) _) Tryz.underlying64 rfl (by kernel_rfl) ⟨?_, ((hb1.setCell (p := ⟨w.heap.size + 1, 0, none⟩) (Nat.le_succ _) _).setCell (p := ⟨w.heap.size + 1, 1, none⟩) (Nat.le_succ _) _).setCell (p := ⟨w.heap.size + 1, 2, none⟩) (Nat.le_succ _) _⟩
 rw [show bareE e = e from if_neg (by rw [HG.out]; simp)]
 rfl
theorem bare (w : World) (e : Ent) : Calls Tryz.prog 93 #[eval e] w fun e1 w1 => e1 = .returned (eval (bareE e)) ∧ Below w.heap.size w w1 := by
  cases hg : e.gone with
  | true => exact bare_g w e hg
  | false => exact bare_n w e hg

set_option maxHeartbeats 4000000 in
set_option maxRecDepth 100000 in
theorem dentry (w : World) (d : Dra) (lv : Value) (hru : RU w w.heap.size lv d.letters) (hx : ∀ x ∈ d.letters, 0 ≤ x ∧ x ≤ 255) : Calls Tryz.prog 56 #[.agg #[lv, .int .u32 d.weight, .bool d.gone]] w fun e1 w1 => e1 = .returned (eval d.ent) ∧ Below w.heap.size w w1 := by
 refine Zn1 43 Tryz.func56 fun fr hf s0 => ?_
 have hru0 := hru
 obtain ⟨A, c, rfl, hlc⟩ := hru.form
 clear hru
 have HX := Lib.hid hx; clear hx
 have hcv := conv1
 refine Ze fun _ hK1 => ?_
 refine Zr [] hf ?_
 refine Zq2 1 2 hf ?_
 clear hf s0; intro fr1 hf sS
 obtain ⟨W1, hW1⟩ : ∃ x, (w.alloc (.cells #[.slice A d.letters.length c, .int .u32 d.weight, .bool d.gone] 131)).alloc (.cells #[.string ⟨#[]⟩, .int .u32 0, .bool false] 64) = x := ⟨_, rfl⟩
 rw [hW1]
 obtain ⟨hb1, x0, x1, x2, hp, -⟩ := two_ents hW1
 obtain ⟨s1, s2⟩ := sS
 try simp only [World.size_alloc] at s2
 clear hW1
 have hs1 := hb1.size
 have hz1 : w.heap.size + 1 < W1.heap.size := heap_lt hp
 refine Zs hK1 fun _ hK2 => ?_
 refine Zr [] hf ?_
 refine Zq3 1 2 3 hf ?_
 clear hf s1 s2; intro fr1 hf sS
 refine Zs hK2 fun _ hK3 => ?_
 refine Ze fun _ hK4 => ?_
 refine Zr [] hf ?_
 refine Zq4 1 2 3 4 hf ?_
 clear hf sS; intro fr1 hf sS
 refine Zx hK4 ?_
 refine wp_block ?_
 refine wp_loop_ghost (fun gk fr wr => ∃ (j : Nat), gk = 9 - j ∧ j ≤ d.letters.length ∧ j ≤ 9 ∧ Fact.Fr 43 fr ∧ fr.tmps[1]? = some (.pointer (some ⟨w.heap.size, 0, none⟩)) ∧ fr.tmps[2]? = some (.pointer (some ⟨w.heap.size + 1, 0, none⟩)) ∧ fr.tmps[3]? = some (.string (dbody (d.letters.take j))) ∧ fr.tmps[4]? = some (.int .i64 j) ∧ Below W1.heap.size W1 wr) (9) ?_ ?_
 · (
 obtain ⟨s1, s2, s3, s4⟩ := sS
 exact ⟨0, rfl, Nat.zero_le _, Nat.zero_le _, hf, s1, s2, s3, s4, Below.refl _ _⟩)
 · (
 clear hf sS
 rintro gk fr wr ⟨j, hk, hj, hj9, hf, s1, s2, s3, s4, hb⟩
 have HK := Lib.hid hk; clear hk
 have y0 := cL hb x0
 have hbr := hb1.trans (hb.mono hs1)
 rcases Nat.lt_or_ge j d.letters.length with hlt | hge
 · (
 rcases Nat.lt_or_ge j 9 with h9 | h9
 · (
 have q1 : decide (j < d.letters.length) = true := decide_eq_true (by omega)
 have q2 : decide ((j : Int) < 9) = true := decide_eq_true (by omega)
 refine Ze fun _ hK5 => ?_
 refine Ze fun _ hK6 => rg ?_
 have bB := hf.B8 6 7 8 9 10 11 12 13
 iterate 6 refine Za ?_
 refine Zg ?_ (hv := by simp (decide := true) only [Fact.G, reduceIte, hf.size, q1, q2])
 refine Zg ?_ (hv := by simp (decide := true) only [Fact.G, reduceIte, hf.size, q1, q2])
 refine Za ?_
 refine Fact.nil (Zq5 1 2 3 4 14 hf ?_)
 clear hf s1 s2 s3 s4 bB; intro fr1 hf sS
 refine Zx hK6 ?_
 refine Fact.cond_t sS.2.2.2.2 ?_
 clear q1 q2
 obtain ⟨x, hx⟩ : ∃ x, d.letters[j]? = some x := ⟨_, List.getElem?_eq_getElem hlt⟩
 obtain ⟨b, off, rfl, hbb, z0⟩ := (hru0.below hbr).at_ hx
 have hx8 := HX.out x (List.mem_of_getElem? hx)
 have hst : dbody (d.letters.take (j + 1)) = dbody (d.letters.take j) ++ strOfNums [dletter x] := by rw [List.take_add_one, hx]; exact dbody_snoc _ _
 have hds : (dbody (d.letters.take j)).size ≤ 9 := by rw [dbody_size]; simp; omega
 have h1s : (strOfNums [dletter x]).size ≤ 1 := Nat.le_of_eq (strOf1 _)
 have HST := Lib.hid hst; clear hst hx
 refine wp_skip ?_
 refine Zs hK5 fun _ hK7 => ?_
 refine wp_block ?_
 refine Ze fun _ hK8 => ?_
 refine Zr [17, 18, 19, 20, 21] hf ?_
 refine Zq5 1 2 3 4 5 hf ?_
 clear hf sS; intro fr1 hf sS
 refine Zs hK8 fun _ hK9 => ?_
 refine Ze fun _ hK10 => rg ?_
 have bB := hf.B2 22 23
 refine Za ?_
 refine fp fun K Z => ?_
 go_simp
 rw [Int.tmod_eq_emod_of_nonneg hx8.1]
 apply Z.out; clear Z K
 refine Za ?_
 refine Fact.nil (Zq6 1 2 3 4 5 24 hf ?_)
 clear hf sS bB; intro fr1 hf sS
 refine Zx hK10 ?_
 refine Fact.cond_s sS.2.2.2.2.2 (fun hq7 => ?_) (fun hq7 => ?_)
 · (
 have HQ := Lib.hid hq7; clear hq7
 have h7 := of_decide_eq_true HQ.out
 have hdl : dletter x = 97 + x % 8 % 3 := if_pos h7
 rw [hdl] at h1s
 have HDL := Lib.hid hdl; clear hdl
 refine rg ?_
 have bB := hf.B4 25 26 27 28
 refine Za ?_
 refine fp fun K Z => ?_
 go_simp
 rw [Int.tmod_eq_emod_of_nonneg hx8.1]
 apply Z.out; clear Z K
 refine fp fun K Z => ?_
 go_simp
 rw [Int.tmod_eq_emod_of_nonneg (show 0 ≤ x % 8 by omega)]
 apply Z.out; clear Z K
 refine fp fun K Z => ?_
 go_simp
 try simp (disch := omega) only [Fact.W]
 try simp (disch := omega) only [Fact.wrap_u8]
 apply Z.out; clear Z K
 refine Za ?_
 refine Fact.nil (Zq5 1 2 3 4 5 hf ?_)
 clear hf sS bB; intro fr1 hf sS
 refine Zx hK9 ?_
 refine rg ?_
 have bB := hf.B5 29 30 31 32 33
 iterate 4 refine Za ?_
 refine fp fun K Z => ?_
 go_simp
 try simp (disch := omega) only [Fact.W]
 rw [if_neg (by omega), Oper.upon_value]
 apply Z.out; clear Z K
 refine Za ?_
 refine Fact.nil (Zq4 1 2 3 4 hf ?_)
 clear hf sS bB; intro fr1 hf sS
 refine Fact.block_normal ?_
 refine Zx hK7 ?_
 refine Zr [15, 16] hf ?_
 refine Zq4 1 2 3 4 hf ?_
 clear hf sS; intro fr1 hf sS
 refine Fact.then_normal ?_
 obtain ⟨s1, s2, s3, s4⟩ := sS
 refine ⟨9 - (j + 1), by have := HK.out; omega, j + 1, rfl, by omega, by omega, hf, s1, s2, ?_, by rw [s4]; rfl, hb.alloc hb.size _⟩
 rw [s3, HST.out, HDL.out])
 · (
 have HQ := Lib.hid hq7; clear hq7
 have h7 := of_decide_eq_false HQ.out
 have hdl : dletter x = x := if_neg h7
 rw [hdl] at h1s
 have HDL := Lib.hid hdl; clear hdl
 refine wp_skip ?_
 refine Zx hK9 ?_
 refine rg ?_
 have bB := hf.B5 29 30 31 32 33
 iterate 4 refine Za ?_
 refine fp fun K Z => ?_
 go_simp
 try simp (disch := omega) only [Fact.W]
 rw [if_neg (by omega), Oper.upon_value]
 apply Z.out; clear Z K
 refine Za ?_
 refine Fact.nil (Zq4 1 2 3 4 hf ?_)
 clear hf sS bB; intro fr1 hf sS
 refine Fact.block_normal ?_
 refine Zx hK7 ?_
 refine Zr [15, 16] hf ?_
 refine Zq4 1 2 3 4 hf ?_
 clear hf sS; intro fr1 hf sS
 refine Fact.then_normal ?_
 obtain ⟨s1, s2, s3, s4⟩ := sS
 refine ⟨9 - (j + 1), by have := HK.out; omega, j + 1, rfl, by omega, by omega, hf, s1, s2, ?_, by rw [s4]; rfl, hb.alloc hb.size _⟩
 rw [s3, HST.out, HDL.out]))
 · (
 have q1 : decide (j < d.letters.length) = true := decide_eq_true (by omega)
 have q2 : decide ((j : Int) < 9) = false := decide_eq_false (by omega)
 have he : d.letters.take j = d.letters.take 9 := by rw [show j = 9 by omega]
 rw [he] at s3
 clear he
 refine Ze fun _ hK11 => ?_
 refine Ze fun _ hK12 => rg ?_
 have bB := hf.B8 6 7 8 9 10 11 12 13
 iterate 6 refine Za ?_
 refine Zg ?_ (hv := by simp (decide := true) only [Fact.G, reduceIte, hf.size, q1, q2])
 refine Zg ?_ (hv := by simp (decide := true) only [Fact.G, reduceIte, hf.size, q1, q2])
 refine Za ?_
 refine Fact.nil (Zq5 1 2 3 4 14 hf ?_)
 clear hf s1 s2 s3 s4 bB; intro fr1 hf sS
 refine Zx hK12 ?_
 refine Fact.cond_f sS.2.2.2.2 ?_
 clear q1 q2
 have y1 := cL hb x1; have y2 := cL hb x2
 have hpr := (hb.block _ hz1).trans hp
 obtain ⟨S, hS⟩ : ∃ x, dbody (d.letters.take 9) = x := ⟨_, rfl⟩
 obtain ⟨s1, s2, s3, s4, s14⟩ := sS
 rw [hS] at s3
 have HS := Lib.hid hS; clear hS y0
 refine Zo ?_
 refine Zs hK3 fun _ hK13 => ?_
 refine Ze fun _ hK14 => ?_
 refine Zr [34] hf ?_
 refine Zq4 1 2 3 35 hf ?_
 clear hf s1 s2 s3 s4 s14; intro fr1 hf sS
 refine Zx hK14 ?_
 refine Fact.cond_s sS.2.2.2 (fun hqe => ?_) (fun hqe => ?_)
 · (
 have HE := Lib.hid hqe; clear hqe
 have hwd : dword d.letters = ⟨#[97]⟩ := by unfold dword; rw [HS.out]; exact if_pos (List.isEmpty_iff.1 HE.out)
 have HW := Lib.hid hwd; clear hwd
 refine Zr [] hf ?_
 refine Zq3 1 2 3 hf ?_
 clear hf sS; intro fr1 hf sS
 refine Zt hK13 fun _ hK15 => ?_
 have bB := hf.B7 36 37 38 39 40 41 42
 iterate 6 refine Za ?_
 refine fp fun K Z => ?_
 go_simp
 go_at_call 93; refine (bare wr ⟨⟨#[97]⟩, d.weight, d.gone⟩).mono ?_; rintro e w5 ⟨rfl, hb5⟩
 have hp5 := (hb5.block _ (heap_lt hpr)).trans hpr
 have g0 := cell_of_row _ _ 0 _ 64 (0, 0) hp5; have g1 := cell_of_row _ _ 1 _ 64 (0, 0) hp5; have g2 := cell_of_row _ _ 2 _ 64 (0, 0) hp5
 have fz0 := frozen_of (i := 0) hp5; have fz1 := frozen_of (i := 1) hp5; have fz2 := frozen_of (i := 2) hp5
 obtain ⟨E5, hE5⟩ : ∃ x, bareE ⟨⟨#[97]⟩, d.weight, d.gone⟩ = x := ⟨_, rfl⟩
 rw [hE5]
 have HE5 := Lib.hid hE5; clear hE5
 simp only [eval]
 simp at g0 g1 g2
 try dsimp only
 apply Z.out; clear Z K
 refine Za ?_
 refine Fact.nil (Zq1 2 hf ?_)
 clear hf sS bB; intro fr1 hf s2
 refine Zx hK15 ?_
 refine Zret ?_
 have hbz := hbr.trans (hb5.mono hbr.size)
 refine ret_c rfl hf s2 (set_block (set_block (set_block hp5 _) _) _) Tryz.underlying64 rfl (by kernel_rfl) ⟨?_, ((hbz.setCell (p := ⟨w.heap.size + 1, 0, none⟩) (Nat.le_succ _) _).setCell (p := ⟨w.heap.size + 1, 1, none⟩) (Nat.le_succ _) _).setCell (p := ⟨w.heap.size + 1, 2, none⟩) (Nat.le_succ _) _⟩
 unfold Dra.ent; rw [HW.out, HE5.out]; rfl)
 · (
 have HE := Lib.hid hqe; clear hqe
 have hwd : dword d.letters = S := by unfold dword; rw [HS.out]; exact if_neg (fun h => by have := HE.out; rw [h] at this; cases this)
 have HW := Lib.hid hwd; clear hwd
 refine wp_skip ?_
 refine Zt hK13 fun _ hK16 => ?_
 have bB := hf.B7 36 37 38 39 40 41 42
 iterate 6 refine Za ?_
 refine fp fun K Z => ?_
 go_simp
 go_at_call 93; refine (bare wr ⟨S, d.weight, d.gone⟩).mono ?_; rintro e w5 ⟨rfl, hb5⟩
 have hp5 := (hb5.block _ (heap_lt hpr)).trans hpr
 have g0 := cell_of_row _ _ 0 _ 64 (0, 0) hp5; have g1 := cell_of_row _ _ 1 _ 64 (0, 0) hp5; have g2 := cell_of_row _ _ 2 _ 64 (0, 0) hp5
 have fz0 := frozen_of (i := 0) hp5; have fz1 := frozen_of (i := 1) hp5; have fz2 := frozen_of (i := 2) hp5
 obtain ⟨E5, hE5⟩ : ∃ x, bareE ⟨S, d.weight, d.gone⟩ = x := ⟨_, rfl⟩
 rw [hE5]
 have HE5 := Lib.hid hE5; clear hE5
 simp only [eval]
 simp at g0 g1 g2
 try dsimp only
 apply Z.out; clear Z K
 refine Za ?_
 refine Fact.nil (Zq1 2 hf ?_)
 clear hf sS bB; intro fr1 hf s2
 refine Zx hK16 ?_
 refine Zret ?_
 have hbz := hbr.trans (hb5.mono hbr.size)
 refine ret_c rfl hf s2 (set_block (set_block (set_block hp5 _) _) _) Tryz.underlying64 rfl (by kernel_rfl) ⟨?_, ((hbz.setCell (p := ⟨w.heap.size + 1, 0, none⟩) (Nat.le_succ _) _).setCell (p := ⟨w.heap.size + 1, 1, none⟩) (Nat.le_succ _) _).setCell (p := ⟨w.heap.size + 1, 2, none⟩) (Nat.le_succ _) _⟩
 unfold Dra.ent; rw [HW.out, HE5.out]; rfl)))
 · (
 have q1 : decide (j < d.letters.length) = false := decide_eq_false (by omega)
 have he : d.letters.take j = d.letters.take 9 := by rw [List.take_of_length_le (by omega), List.take_of_length_le (by omega)]
 rw [he] at s3
 clear he
 refine Ze fun _ hK17 => ?_
 refine Ze fun _ hK18 => rg ?_
 have bB := hf.B8 6 7 8 9 10 11 12 13
 iterate 6 refine Za ?_
 refine Zk ?_ (hv := by simp (decide := true) only [Fact.G, reduceIte, hf.size, Fact.N, q1])
 refine Zk ?_ (hv := by simp (decide := true) only [Fact.G, reduceIte, hf.size, Fact.N, q1])
 refine Za ?_
 refine Fact.nil (Zq5 1 2 3 4 14 hf ?_)
 clear hf s1 s2 s3 s4 bB; intro fr1 hf sS
 refine Zx hK18 ?_
 refine Fact.cond_f sS.2.2.2.2 ?_
 clear q1
 have y1 := cL hb x1; have y2 := cL hb x2
 have hpr := (hb.block _ hz1).trans hp
 obtain ⟨S, hS⟩ : ∃ x, dbody (d.letters.take 9) = x := ⟨_, rfl⟩
 obtain ⟨s1, s2, s3, s4, s14⟩ := sS
 rw [hS] at s3
 have HS := Lib.hid hS; clear hS y0
 refine Zo ?_
 refine Zs hK3 fun _ hK19 => ?_
 refine Ze fun _ hK20 => ?_
 refine Zr [34] hf ?_
 refine Zq4 1 2 3 35 hf ?_
 clear hf s1 s2 s3 s4 s14; intro fr1 hf sS
 refine Zx hK20 ?_
 refine Fact.cond_s sS.2.2.2 (fun hqe => ?_) (fun hqe => ?_)
 · (
 have HE := Lib.hid hqe; clear hqe
 have hwd : dword d.letters = ⟨#[97]⟩ := by unfold dword; rw [HS.out]; exact if_pos (List.isEmpty_iff.1 HE.out)
 have HW := Lib.hid hwd; clear hwd
 refine Zr [] hf ?_
 refine Zq3 1 2 3 hf ?_
 clear hf sS; intro fr1 hf sS
 refine Zt hK19 fun _ hK21 => ?_
 have bB := hf.B7 36 37 38 39 40 41 42
 iterate 6 refine Za ?_
 refine fp fun K Z => ?_
 go_simp
 go_at_call 93; refine (bare wr ⟨⟨#[97]⟩, d.weight, d.gone⟩).mono ?_; rintro e w5 ⟨rfl, hb5⟩
 have hp5 := (hb5.block _ (heap_lt hpr)).trans hpr
 have g0 := cell_of_row _ _ 0 _ 64 (0, 0) hp5; have g1 := cell_of_row _ _ 1 _ 64 (0, 0) hp5; have g2 := cell_of_row _ _ 2 _ 64 (0, 0) hp5
 have fz0 := frozen_of (i := 0) hp5; have fz1 := frozen_of (i := 1) hp5; have fz2 := frozen_of (i := 2) hp5
 obtain ⟨E5, hE5⟩ : ∃ x, bareE ⟨⟨#[97]⟩, d.weight, d.gone⟩ = x := ⟨_, rfl⟩
 rw [hE5]
 have HE5 := Lib.hid hE5; clear hE5
 simp only [eval]
 simp at g0 g1 g2
 try dsimp only
 apply Z.out; clear Z K
 refine Za ?_
 refine Fact.nil (Zq1 2 hf ?_)
 clear hf sS bB; intro fr1 hf s2
 refine Zx hK21 ?_
 refine Zret ?_
 have hbz := hbr.trans (hb5.mono hbr.size)
 refine ret_c rfl hf s2 (set_block (set_block (set_block hp5 _) _) _) Tryz.underlying64 rfl (by kernel_rfl) ⟨?_, ((hbz.setCell (p := ⟨w.heap.size + 1, 0, none⟩) (Nat.le_succ _) _).setCell (p := ⟨w.heap.size + 1, 1, none⟩) (Nat.le_succ _) _).setCell (p := ⟨w.heap.size + 1, 2, none⟩) (Nat.le_succ _) _⟩
 unfold Dra.ent; rw [HW.out, HE5.out]; rfl)
 · (
 have HE := Lib.hid hqe; clear hqe
 have hwd : dword d.letters = S := by unfold dword; rw [HS.out]; exact if_neg (fun h => by have := HE.out; rw [h] at this; cases this)
 have HW := Lib.hid hwd; clear hwd
 refine wp_skip ?_
 refine Zt hK19 fun _ hK22 => ?_
 have bB := hf.B7 36 37 38 39 40 41 42
 iterate 6 refine Za ?_
 refine fp fun K Z => ?_
 go_simp
 go_at_call 93; refine (bare wr ⟨S, d.weight, d.gone⟩).mono ?_; rintro e w5 ⟨rfl, hb5⟩
 have hp5 := (hb5.block _ (heap_lt hpr)).trans hpr
 have g0 := cell_of_row _ _ 0 _ 64 (0, 0) hp5; have g1 := cell_of_row _ _ 1 _ 64 (0, 0) hp5; have g2 := cell_of_row _ _ 2 _ 64 (0, 0) hp5
 have fz0 := frozen_of (i := 0) hp5; have fz1 := frozen_of (i := 1) hp5; have fz2 := frozen_of (i := 2) hp5
 obtain ⟨E5, hE5⟩ : ∃ x, bareE ⟨S, d.weight, d.gone⟩ = x := ⟨_, rfl⟩
 rw [hE5]
 have HE5 := Lib.hid hE5; clear hE5
 simp only [eval]
 simp at g0 g1 g2
 try dsimp only
 apply Z.out; clear Z K
 refine Za ?_
 refine Fact.nil (Zq1 2 hf ?_)
 clear hf sS bB; intro fr1 hf s2
 refine Zx hK22 ?_
 refine Zret ?_
 have hbz := hbr.trans (hb5.mono hbr.size)
 refine ret_c rfl hf s2 (set_block (set_block (set_block hp5 _) _) _) Tryz.underlying64 rfl (by kernel_rfl) ⟨?_, ((hbz.setCell (p := ⟨w.heap.size + 1, 0, none⟩) (Nat.le_succ _) _).setCell (p := ⟨w.heap.size + 1, 1, none⟩) (Nat.le_succ _) _).setCell (p := ⟨w.heap.size + 1, 2, none⟩) (Nat.le_succ _) _⟩
 unfold Dra.ent; rw [HW.out, HE5.out]; rfl)))
end Dw
end Go.Proofs.YtcddnmhmcieebaaGreatDoor

namespace Go.Proofs.YtcddnmhmcieebaaGreatDoor
open Go.RowKit
set_option linter.unusedSimpArgs false
set_option linter.unusedVariables false
set_option linter.unnecessarySimpa false
namespace Dw
set_option maxHeartbeats 4000000 in
set_option maxRecDepth 100000 in
theorem entries (w : World) (ds : List Dra) (most : Nat) (hm : most ≤ 1000) (v : Value) (hrd : RDs w w.heap.size v ds) (hok : ∀ d ∈ ds, okD d) : Calls Tryz.prog 29 #[v, .int .i64 most] w fun e w1 => ∃ v1, e = .returned v1 ∧ OE w1 w.heap.size v1 (entsOf ds most) ∧ Below w.heap.size w w1 := by
 refine Zn2 27 Tryz.func29 fun fr hf s0 s1 => ?_
 have hrd0 := hrd
 obtain ⟨A, c, rfl, hlc⟩ := hrd.form
 clear hrd
 have HOK := Lib.hid hok; clear hok
 refine Ze fun _ hK1 => ?_
 refine Zr [] hf ?_
 refine Zq2 0 1 hf ?_
 clear hf s0 s1; intro fr1 hf sS
 refine Zs hK1 fun _ hK2 => ?_
 refine Zr [] hf ?_
 refine Zq3 0 1 5 hf ?_
 clear hf sS; intro fr1 hf sS
 refine Zs hK2 fun _ hK3 => ?_
 refine Ze fun _ hK4 => ?_
 refine Zr [] hf ?_
 refine Zq4 0 1 5 6 hf ?_
 clear hf sS; intro fr1 hf sS
 refine Zx hK4 ?_
 refine wp_block ?_
 refine wp_loop_ghost (fun gk fr wr => ∃ (j : Nat) (V : Value), gk = most - j ∧ j ≤ ds.length ∧ j ≤ most ∧ Fact.Fr 27 fr ∧ fr.tmps[0]? = some (.slice A ds.length c) ∧ fr.tmps[1]? = some (.int .i64 most) ∧ fr.tmps[5]? = some V ∧ fr.tmps[6]? = some (.int .i64 j) ∧ OE wr w.heap.size V ((ds.take j).map Dra.ent) ∧ Below w.heap.size w wr) (most) ?_ ?_
 · (
 obtain ⟨s0, s1, s5, s6⟩ := sS
 exact ⟨0, _, rfl, Nat.zero_le _, Nat.zero_le _, hf, s0, s1, s5, s6, OE.nil_ _ _, Below.refl _ _⟩)
 · (
 clear hf sS
 rintro gk fr wr ⟨j, V, hk, hj, hjm, hf, s0, s1, s5, s6, how, hb⟩
 have HK := Lib.hid hk; clear hk
 rcases Nat.lt_or_ge j ds.length with hlt | hge
 · (
 rcases Nat.lt_or_ge j most with hlm | hlm
 · (
 have q1 : decide (j < ds.length) = true := decide_eq_true hlt
 have q2 : decide (j < most) = true := decide_eq_true hlm
 refine Ze fun _ hK5 => ?_
 refine Ze fun _ hK6 => rg ?_
 have bB := hf.B8 7 8 9 10 11 12 13 14
 iterate 5 refine Za ?_
 refine Zg ?_ (hv := by simp (decide := true) only [Fact.G, reduceIte, hf.size, q1, q2])
 refine Zg ?_ (hv := by simp (decide := true) only [Fact.G, reduceIte, hf.size, q1, q2])
 refine Zg ?_ (hv := by simp (decide := true) only [Fact.G, reduceIte, hf.size, q1, q2])
 refine Za ?_
 refine Fact.nil (Zq5 0 1 5 6 15 hf ?_)
 clear hf s0 s1 s5 s6 bB; intro fr1 hf sS
 refine Zx hK6 ?_
 refine Fact.cond_t sS.2.2.2.2 ?_
 clear q1 q2
 obtain ⟨d, hd⟩ : ∃ d, ds[j]? = some d := ⟨_, List.getElem?_eq_getElem hlt⟩
 obtain ⟨b, off, lv, rfl, hbb, z0, z1, z2, hru⟩ := (hrd0.below hb).at_ hd
 have hokd := HOK.out d (List.mem_of_getElem? hd)
 have hst : (ds.take (j + 1)).map Dra.ent = (ds.take j).map Dra.ent ++ [d.ent] := by rw [List.take_add_one, hd]; simp
 have hln : ((ds.take j).map Dra.ent).length ≤ 1000000 := by simp; omega
 have HST := Lib.hid hst; clear hst hd
 have hss := hb.size
 obtain ⟨Ee, hEe⟩ : ∃ x, d.ent = x := ⟨_, rfl⟩
 obtain ⟨xs, hxs⟩ : ∃ x, (ds.take j).map Dra.ent = x := ⟨_, rfl⟩
 rw [hxs] at how hln
 have HEe := Lib.hid hEe; have HXS := Lib.hid hxs; clear hEe hxs
 obtain ⟨Av, cv, rfl, hcv⟩ := how.form
 refine wp_skip ?_
 refine Zs hK5 fun _ hK7 => ?_
 refine wp_block ?_
 refine rg ?_
 have bB := hf.B8 18 19 20 21 22 23 24 25
 iterate 3 refine Za ?_
 refine Zi ?_
 refine Za ?_
 refine fp fun K Z => ?_
 go_simp
 go_at_call 56; refine (dentry wr d lv (hru.more hss) hokd.1).mono ?_; rintro e w2 ⟨rfl, hb2⟩
 rw [HEe.out]
 simp only [eval]
 have how2 := own_later how hb2
 have hbw2 := hb.trans (hb2.mono hss)
 try dsimp only
 apply Z.out; clear Z K
 refine Za ?_
 obtain ⟨s0, s1, s5, s6, s15⟩ := sS
 clear bB
 refine Fact.reL (n := 27) (by simp only [Fact.G, hf.size]) hf.defers (fun fr1 hf1 hT => ?_)
 have hKp := Fact.h6 hT 0 1 5 6 18 24
 simp (decide := true) only [Fact.G, hf.size, reduceIte, s0, s1, s5, s6] at hKp
 replace hf := hf1; clear hT hf1 s0 s1 s5 s6 s15
 obtain ⟨s0, s1, s5, s6, s18, s24⟩ := hKp
 have bB := hf.b 25
 refine ⟨?_⟩
 refine wpList_plain rfl fun K5 hK5 => ?_
 refine wp_app _ _ 29 rfl 64 _ 3 24 Tryz.underlying29 info_ent rfl (by decide) (by decide) w.heap.size (.slice Av xs.length cv) xs.length _ (Fact.eval_tmp s18) (how2.alloc _) w2.heap.size Ee.cells (Fact.eval_tmp s24) rfl (lit_new w2 _ _) (ent_one Ee) (by omega) (by have := hbw2.size; simp; omega) (fun v5 w5 hr5 hg5 hat5 => hK5 _ _ ?_)
 refine Fact.L.out ?_
 refine Za ?_
 refine Fact.nil (Zq4 0 1 5 6 hf ?_)
 clear hf s0 s1 s5 s6 s18 s24 bB; intro fr1 hf sS
 have hb5 := (hbw2.alloc hbw2.size _).grown hg5 (by have := hbw2.size; simp; omega) (fun kk hkk => (how2.lt kk hkk).1)
 have how5 : OE w5 w.heap.size v5 (xs ++ [Ee]) := by unfold OE; rw [ecs_append, List.length_append]; exact hr5
 refine Fact.block_normal ?_
 refine Zx hK7 ?_
 refine Zr [16, 17] hf ?_
 refine Zq4 0 1 5 6 hf ?_
 clear hf sS; intro fr1 hf sS
 refine Fact.then_normal ?_
 obtain ⟨s0, s1, s5, s6⟩ := sS
 exact ⟨_, by have := HK.out; omega, j + 1, v5, rfl, by omega, by omega, hf, s0, s1, s5, by rw [s6]; rfl, by rw [HST.out, HXS.out, HEe.out]; exact how5, hb5⟩)
 · (
 have q1 : decide (j < ds.length) = true := decide_eq_true (by omega)
 have q2 : decide (j < most) = false := decide_eq_false (by omega)
 refine Ze fun _ hK8 => ?_
 refine Ze fun _ hK9 => rg ?_
 have bB := hf.B8 7 8 9 10 11 12 13 14
 iterate 5 refine Za ?_
 refine Zg ?_ (hv := by simp (decide := true) only [Fact.G, reduceIte, hf.size, q1, q2])
 refine Zg ?_ (hv := by simp (decide := true) only [Fact.G, reduceIte, hf.size, q1, q2])
 refine Zg ?_ (hv := by simp (decide := true) only [Fact.G, reduceIte, hf.size, q1, q2])
 refine Za ?_
 refine Fact.nil (Zq5 0 1 5 6 15 hf ?_)
 clear hf s0 s1 s5 s6 bB; intro fr1 hf sS
 refine Zx hK9 ?_
 refine Fact.cond_f sS.2.2.2.2 ?_
 clear q1 q2
 have he : ds.take j = ds.take most := by rw [show j = most by omega]
 rw [he] at how
 clear he
 refine Zo ?_
 refine Zs hK3 fun _ hK10 => ?_
 refine Zr [26] hf ?_
 refine Zq1 4 hf ?_
 clear hf sS; intro fr1 hf s4
 refine Zx hK10 ?_
 refine Zret ?_
 exact Fact.ret1 rfl hf s4 ⟨_, rfl, how, hb⟩))
 · (
 have q1 : decide (j < ds.length) = false := decide_eq_false (by omega)
 refine Ze fun _ hK11 => ?_
 refine Ze fun _ hK12 => rg ?_
 have bB := hf.B8 7 8 9 10 11 12 13 14
 iterate 5 refine Za ?_
 refine Zk ?_ (hv := by simp (decide := true) only [Fact.G, reduceIte, hf.size, Fact.N, q1])
 refine Zk ?_ (hv := by simp (decide := true) only [Fact.G, reduceIte, hf.size, Fact.N, q1])
 refine Zk ?_ (hv := by simp (decide := true) only [Fact.G, reduceIte, hf.size, Fact.N, q1])
 refine Za ?_
 refine Fact.nil (Zq5 0 1 5 6 15 hf ?_)
 clear hf s0 s1 s5 s6 bB; intro fr1 hf sS
 refine Zx hK12 ?_
 refine Fact.cond_f sS.2.2.2.2 ?_
 clear q1
 have he : ds.take j = ds.take most := by rw [List.take_of_length_le (by omega), List.take_of_length_le (by omega)]
 rw [he] at how
 clear he
 refine Zo ?_
 refine Zs hK3 fun _ hK13 => ?_
 refine Zr [26] hf ?_
 refine Zq1 4 hf ?_
 clear hf sS; intro fr1 hf s4
 refine Zx hK13 ?_
 refine Zret ?_
 exact Fact.ret1 rfl hf s4 ⟨_, rfl, how, hb⟩))
end Dw
end Go.Proofs.YtcddnmhmcieebaaGreatDoor
