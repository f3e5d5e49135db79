/- Dawg: entries, words. -/
import Derived.Test.YtgjfhedgdbbinaaDoorDBase
import Derived.WalkSmall
import Derived.Test.YtgjfhedgdbbinaaDoorTools
namespace Go.Proofs.YtgjfhedgdbbinaaDoor
open Go.RowKit
set_option linter.unusedSimpArgs false
set_option linter.unusedVariables false
set_option linter.unnecessarySimpa false
namespace Dw
def at_ (s : ByteArray) (i : Nat) : Nat := if h : i < s.size then s[i].toNat else 0
theorem at_get {s : ByteArray} {i : Nat} (h : i < s.size) : at_ s i = s[i].toNat := by simp [at_, h]
theorem at_lt (s : ByteArray) (i : Nat) : at_ s i < 256 := by
  unfold at_
  split
  · rename_i h
    exact (s[i]).toNat_lt
  · omega
/-- a word's bytes, as numbers -/
def wl (s : ByteArray) : List Nat := s.data.toList.map UInt8.toNat
theorem wl_length (s : ByteArray) : (wl s).length = s.size := by unfold wl; rw [List.length_map, Array.length_toList]; rfl
theorem wl_at {s : ByteArray} {i : Nat} (h : i < s.size) : (wl s)[i]? = some (at_ s i) := by
  have h2 : i < s.data.toList.length := by rw [Array.length_toList]; exact h
  rw [at_get h]
  simp only [wl, List.getElem?_map, List.getElem?_eq_getElem h2, Option.map_some]
  rw [ByteArray.getElem_eq_getElem_data]
  simp
theorem wl_lt (s : ByteArray) : ∀ x ∈ wl s, x < 256 := by
  intro x hx
  obtain ⟨b, _, rfl⟩ := List.mem_map.1 hx
  exact b.toNat_lt
theorem wl_inj {a b : ByteArray} (h : wl a = wl b) : a = b := by
  unfold wl at h
  have : a.data.toList = b.data.toList := by
    refine (List.map_inj_right fun x y hxy => ?_).1 h
    exact UInt8.toNat_inj.1 hxy
  exact ByteArray.ext (Array.ext' this)
structure Ent where
  word : ByteArray
  weight : Int
  gone : Bool
def Ent.cells (e : Ent) : List Value := [.string e.word, .int .u32 e.weight, .bool e.gone]
def ecs (es : List Ent) : List Value := es.flatMap Ent.cells
theorem ecs_length (es : List Ent) : (ecs es).length = es.length * 3 := by
  induction es with
  | nil => rfl
  | cons e es ih => simp only [ecs, List.flatMap_cons, List.length_append, List.length_cons] at ih ⊢; rw [ih]; simp [Ent.cells]; omega
theorem ecs_get (es : List Ent) (i j : Nat) (hi : i < es.length) (hj : j < 3) : (ecs es)[i * 3 + j]? = (es[i]).cells[j]? := by
  induction es generalizing i with
  | nil => simp at hi
  | cons e es ih =>
    simp only [ecs, List.flatMap_cons]
    cases i with
    | zero => rw [List.getElem?_append_left (by simp [Ent.cells]; omega)]; simp
    | succ i =>
      rw [List.getElem?_append_right (by simp [Ent.cells]; omega)]
      have := ih i (by simpa using hi)
      simp only [ecs] at this
      simp only [List.getElem_cons_succ]
      rw [← this]; congr 1; simp [Ent.cells]; omega
/-- the slice value reads as entries, below block B -/
def RE (w : World) (B : Nat) (v : Value) (es : List Ent) : Prop :=
  ∃ (A : Option Addr) (c : Nat), v = .slice A es.length c ∧ es.length ≤ c ∧ (0 < es.length → ∃ b off, A = some ⟨b, off, none⟩ ∧ b < B ∧ ∀ j u, (ecs es)[j]? = some u → w.cell? ⟨b, off + j, none⟩ = some u)
section
variable {w w' : World} {B B' : Nat} {v : Value} {es : List Ent}
theorem RE.below (h : RE w B v es) (hb : Below B w w') : RE w' B v es := by
  obtain ⟨A, c, h1, h2, h3⟩ := h
  refine ⟨A, c, h1, h2, fun h0 => ?_⟩
  obtain ⟨b, off, h4, h5, h6⟩ := h3 h0
  exact ⟨b, off, h4, h5, fun j u hu => old_cell hb (h6 j u hu) h5⟩
theorem RE.more (h : RE w B v es) (hB : B ≤ B') : RE w B' v es := by
  obtain ⟨A, c, h1, h2, h3⟩ := h
  refine ⟨A, c, h1, h2, fun h0 => ?_⟩
  obtain ⟨b, off, h4, h5, h6⟩ := h3 h0
  exact ⟨b, off, h4, by omega, h6⟩
theorem RE.any (h : RE w B v es) : RE w w.heap.size v es := by
  obtain ⟨A, c, h1, h2, h3⟩ := h
  refine ⟨A, c, h1, h2, fun h0 => ?_⟩
  obtain ⟨b, off, h4, h5, h6⟩ := h3 h0
  exact ⟨b, off, h4, cell_lt0 (h6 0 _ (List.getElem?_eq_getElem (by rw [ecs_length]; omega))), h6⟩
theorem RE.form (h : RE w B v es) : ∃ (A : Option Addr) (c : Nat), v = .slice A es.length c ∧ es.length ≤ c := by
  obtain ⟨A, c, h1, h2, _⟩ := h
  exact ⟨A, c, h1, h2⟩
theorem RE.at_ {A : Option Addr} {n c : Nat} (h : RE w B (.slice A n c) es) {i : Nat} {e : Ent} (hi : es[i]? = some e) : ∃ b off, A = some ⟨b, off, none⟩ ∧ b < B ∧ b < w.heap.size ∧ w.cell? ⟨b, off + i * 3, none⟩ = some (.string e.word) ∧
    w.cell? ⟨b, off + i * 3 + 1, none⟩ = some (.int .u32 e.weight) ∧ w.cell? ⟨b, off + i * 3 + 2, none⟩ = some (.bool e.gone) := by
  obtain ⟨hlt, rfl⟩ := List.getElem?_eq_some_iff.1 hi
  obtain ⟨A, c, h1, h2, h3⟩ := h
  injection h1 with h1
  obtain ⟨b, off, h4, h5, h6⟩ := h3 (by omega)
  have k : ∀ j, j < 3 → ∀ u, (es[i]).cells[j]? = some u → w.cell? ⟨b, off + (i * 3 + j), none⟩ = some u := fun j hj u hu => h6 _ _ (by rw [ecs_get es i j hlt hj]; exact hu)
  exact ⟨b, off, h1.trans h4, h5, cell_lt0 (k 0 (by omega) _ rfl), k 0 (by omega) _ rfl, k 1 (by omega) _ rfl, k 2 (by omega) _ rfl⟩
end
def eval (e : Ent) : Value := .agg #[.string e.word, .int .u32 e.weight, .bool e.gone]
/-- an entry's value -/
def valE (e : Ent) : Nat := if e.gone then 0 else e.weight.toNat + 1
/-- the weight is one of 32 bits -/
def okE (e : Ent) : Prop := 0 ≤ e.weight ∧ e.weight < 4294967296
def wvE (e : Ent) : Wv := (wl e.word, valE e)
theorem valE_lt {e : Ent} (h : okE e) : valE e < 4294967297 := by unfold valE; obtain ⟨h1, h2⟩ := h; split <;> omega
/-! the beginning that two words share -/
theorem shared_nil {a b : List Nat} (h : a = [] ∨ b = []) : shared a b = 0 := by
  rcases h with rfl | rfl
  · cases b <;> rfl
  · cases a <;> rfl
theorem drop_at {l : List Nat} {i x : Nat} (h : l[i]? = some x) : l.drop i = x :: l.drop (i + 1) := by
  obtain ⟨h1, h2⟩ := List.getElem?_eq_some_iff.1 h
  rw [List.drop_eq_getElem_cons h1, h2]
theorem shared_step {a b : List Nat} {i x : Nat} (ha : a[i]? = some x) (hb : b[i]? = some x) : shared (a.drop i) (b.drop i) = shared (a.drop (i + 1)) (b.drop (i + 1)) + 1 := by
  rw [drop_at ha, drop_at hb]; simp [shared]
theorem shared_stop {a b : List Nat} {i x y : Nat} (ha : a[i]? = some x) (hb : b[i]? = some y) (h : x ≠ y) : shared (a.drop i) (b.drop i) = 0 := by
  rw [drop_at ha, drop_at hb]; simp [shared, h]
end Dw
end Go.Proofs.YtgjfhedgdbbinaaDoor

/- Dawg: an entry's value. -/
namespace Go.Proofs.YtgjfhedgdbbinaaDoor
open Go.RowKit
set_option linter.unusedSimpArgs false
set_option linter.unusedVariables false
set_option linter.unnecessarySimpa false
namespace Dw
set_option maxHeartbeats 4000000 in
set_option maxRecDepth 100000 in
theorem value47g (e : Ent) (he : okE e) (hg : e.gone = true) (w : World) : Calls Tryd.prog 47 #[eval e] w fun e1 w1 => e1 = .returned (.int .u64 (valE e : Nat)) ∧ Below w.heap.size w w1 := by
 refine calls_of_wp Tryd.func47 rfl ?_
 refine Fact.en 9 fun fr hf hT => ?_
 have s0 := hT 0 _ rfl
 clear hT
 simp only [eval] at s0
 have HG := Lib.hid hg; clear hg
 have hw1 := he.1; have hw2 := he.2
 refine Fact.sq fun K1 hK1 => ?_
 refine rg ?_
 refine fp fun K Z => ?_
 go_simp
 apply Z.out; clear Z K
 refine fp fun K Z => ?_
 go_simp
 apply Z.out; clear Z K
 refine Fact.z hf fun fr1 hf1 hT => ?_
 have hKp := hT 1
 simp (decide := true) only [Fact.G, hf.size, reduceIte] at hKp
 replace hf := hf1; clear hT hf1 s0
 have s1 := hKp; clear hKp
 obtain ⟨W0, hW0⟩ : ∃ W0, w.alloc (.cells #[.string e.word, .int .u32 e.weight, .bool e.gone] 42) = W0 := ⟨_, rfl⟩
 try rw [hW0]
 obtain ⟨hb0, -, c1, c2, -, -⟩ := box3 hW0
 clear hW0
 refine nx (hK1 _ _ ?_)
 refine Fact.sq fun K2 hK2 => ?_
 refine Fact.sq fun K3 hK3 => ?_
 refine rg ?_
 have b3 := hf.b 3
 refine fp fun K Z => ?_
 go_simp
 apply Z.out; clear Z K
 refine fp fun K Z => ?_
 go_simp
 apply Z.out; clear Z K
 refine Fact.z hf fun fr1 hf1 hT => ?_
 have hKp : _ ∧ _ := ⟨hT 1, hT 4⟩
 simp (decide := true) only [Fact.G, hf.size, reduceIte, s1] at hKp
 replace hf := hf1; clear hT hf1 s1 b3
 obtain ⟨s1, s4⟩ := hKp
 refine nx (hK3 _ _ ?_)
 rw [HG.out] at s4
 refine Fact.cond_t s4 ?_
 refine Fact.sq fun K4 hK4 => ?_
 refine rg ?_
 refine fp fun K Z => ?_
 go_simp
 apply Z.out; clear Z K
 refine Fact.z hf fun fr1 hf1 hT => ?_
 have hKp := hT 2
 simp (decide := true) only [Fact.G, hf.size, reduceIte] at hKp
 replace hf := hf1; clear hT hf1 s1 s4
 have s2 := hKp; clear hKp
 refine nx (hK4 _ _ ?_)
 refine wp_ret ?_
 refine Fact.then_ret ?_
 exact Fact.ret1 rfl hf s2 ⟨by simp [valE, HG.out], hb0⟩
set_option maxHeartbeats 4000000 in
set_option maxRecDepth 100000 in
theorem value47n (e : Ent) (he : okE e) (hg : e.gone = false) (w : World) : Calls Tryd.prog 47 #[eval e] w fun e1 w1 => e1 = .returned (.int .u64 (valE e : Nat)) ∧ Below w.heap.size w w1 := by
 refine calls_of_wp Tryd.func47 rfl ?_
 refine Fact.en 9 fun fr hf hT => ?_
 have s0 := hT 0 _ rfl
 clear hT
 simp only [eval] at s0
 have HG := Lib.hid hg; clear hg
 have hw1 := he.1; have hw2 := he.2
 refine Fact.sq fun K1 hK1 => ?_
 refine rg ?_
 refine fp fun K Z => ?_
 go_simp
 apply Z.out; clear Z K
 refine fp fun K Z => ?_
 go_simp
 apply Z.out; clear Z K
 refine Fact.z hf fun fr1 hf1 hT => ?_
 have hKp := hT 1
 simp (decide := true) only [Fact.G, hf.size, reduceIte] at hKp
 replace hf := hf1; clear hT hf1 s0
 have s1 := hKp; clear hKp
 obtain ⟨W0, hW0⟩ : ∃ W0, w.alloc (.cells #[.string e.word, .int .u32 e.weight, .bool e.gone] 42) = W0 := ⟨_, rfl⟩
 try rw [hW0]
 obtain ⟨hb0, -, c1, c2, -, -⟩ := box3 hW0
 clear hW0
 refine nx (hK1 _ _ ?_)
 refine Fact.sq fun K2 hK2 => ?_
 refine Fact.sq fun K3 hK3 => ?_
 refine rg ?_
 have b3 := hf.b 3
 refine fp fun K Z => ?_
 go_simp
 apply Z.out; clear Z K
 refine fp fun K Z => ?_
 go_simp
 apply Z.out; clear Z K
 refine Fact.z hf fun fr1 hf1 hT => ?_
 have hKp : _ ∧ _ := ⟨hT 1, hT 4⟩
 simp (decide := true) only [Fact.G, hf.size, reduceIte, s1] at hKp
 replace hf := hf1; clear hT hf1 s1 b3
 obtain ⟨s1, s4⟩ := hKp
 refine nx (hK3 _ _ ?_)
 rw [HG.out] at s4
 refine Fact.cond_f s4 ?_
 refine wp_skip ?_
 refine nx (hK2 _ _ ?_)
 refine Fact.sq fun K4 hK4 => ?_
 refine rg ?_
 have b5 := hf.b 5
 have b6 := hf.b 6
 have b7 := hf.b 7
 have b8 := hf.b 8
 refine fp fun K Z => ?_
 go_simp
 apply Z.out; clear Z K
 refine fp fun K Z => ?_
 go_simp
 apply Z.out; clear Z K
 refine fp fun K Z => ?_
 go_simp
 try simp (disch := omega) only [Fact.wrap_u64]
 apply Z.out; clear Z K
 refine fp fun K Z => ?_
 go_simp
 try simp (disch := omega) only [Fact.W]
 try simp (disch := omega) only [Fact.wrap_u64]
 rw [show e.weight + 1 = ((valE e : Nat) : Int) by simp only [valE, HG.out]; simp; omega]
 apply Z.out; clear Z K
 refine fp fun K Z => ?_
 go_simp
 apply Z.out; clear Z K
 refine Fact.z hf fun fr1 hf1 hT => ?_
 have hKp := hT 2
 simp (decide := true) only [Fact.G, hf.size, reduceIte] at hKp
 replace hf := hf1; clear hT hf1 s1 s4 b5 b6 b7 b8
 have s2 := hKp; clear hKp
 refine nx (hK4 _ _ ?_)
 refine wp_ret ?_
 exact Fact.ret1 rfl hf s2 ⟨rfl, hb0⟩
theorem value47 (e : Ent) (he : okE e) (w : World) : Calls Tryd.prog 47 #[eval e] w fun e1 w1 => e1 = .returned (.int .u64 (valE e : Nat)) ∧ Below w.heap.size w w1 := by
  cases hg : e.gone with
  | true => exact value47g e he hg w
  | false => exact value47n e he hg w

end Dw
end Go.Proofs.YtgjfhedgdbbinaaDoor
