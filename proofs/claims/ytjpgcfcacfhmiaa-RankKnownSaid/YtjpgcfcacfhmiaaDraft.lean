/- Hits that are drawn (cedillaref21's kit): some hits, no more than are asked for. -/
import Derived.Test.YtjpgcfcacfhmiaaStep
import Derived.Laws.BytesArg
namespace Go.Proofs.Ytjpgcfcacfhmiaa
open Go.RowKit
set_option linter.unusedSimpArgs false
set_option linter.unusedVariables false
set_option linter.unnecessarySimpa false
structure Ent where
  word : ByteArray
  weight : Int
  gone : Bool
def Ent.agg (e : Ent) : Value := .agg #[.string e.word, .int .u32 e.weight, .bool e.gone]
def bareW (b : Int) (c : Bool) : Int := if c = true then 0 else b
theorem bare_any (a : ByteArray) (b : Int) (c : Bool) (w : World) :
    Calls Try.prog 30 #[.agg #[.string a, .int .u32 b, .bool c]] w fun e w' => e = .returned (.agg #[.string a, .int .u32 (bareW b c), .bool c]) ∧ Below w.heap.size w w' := by
  cases c
  all_goals
    go_enter Try.func30, Try.ntmps30
    go_wp2
    exact bodyPost_ret (v := .agg #[.string a, .int .u32 (bareW b _), .bool _]) (by simp [results, Try.results30, go_sem, bareW]) rfl ⟨rfl, ((Below.refl _ _).alloc (Nat.le_refl _) _).alloc (by simp) _⟩

structure Dra where
  letters : List Int
  weight : Int
  gone : Bool
def RU (w : World) (B : Nat) (A : Option Addr) (l : List Int) : Prop := Reads w B 1 A l.length (l.map (Value.int .u8)) ∧ ∀ x ∈ l, 0 ≤ x ∧ x ≤ 255
theorem RU.at_ {w : World} {B : Nat} {A : Option Addr} {l : List Int} (h : RU w B A l) {i : Nat} (hi : i < l.length) :
    ∃ b off, A = some ⟨b, off, none⟩ ∧ b < B ∧ w.cell? ⟨b, off + i, none⟩ = some (.int .u8 l[i]) ∧ 0 ≤ l[i] ∧ l[i] ≤ 255 := by
  obtain ⟨b, off, e, hb, hc⟩ := h.1.2 (by omega)
  have hm := h.2 l[i] (List.getElem_mem hi)
  exact ⟨b, off, e, hb, hc i _ (by simp [hi]), hm.1, hm.2⟩

def dletter (x : Int) : Int := if x % 8 < 7 then 97 + x % 8 % 3 else x
def dbody (l : List Int) : ByteArray := l.foldl (fun s x => s ++ strOfNums [dletter x]) ⟨#[]⟩
def dword (l : List Int) : ByteArray := if (dbody (l.take 9)).toList = [] then ⟨#[97]⟩ else dbody (l.take 9)
def Dra.ent (d : Dra) : Ent := ⟨dword d.letters, bareW d.weight d.gone, d.gone⟩
theorem strOf1 (x : Int) : (strOfNums [x]).size = 1 := rfl
theorem dbody_snoc (l : List Int) (x : Int) : dbody (l ++ [x]) = dbody l ++ strOfNums [dletter x] := by simp [dbody]
theorem dbody_size (l : List Int) : (dbody l).size = l.length := by
  have key : ∀ (l : List Int) (s : ByteArray), (l.foldl (fun s x => s ++ strOfNums [dletter x]) s).size = s.size + l.length := by
    intro l
    induction l with
    | nil => intro s; simp
    | cons x l ih => intro s; rw [List.foldl_cons, ih, ByteArray.size_append, strOf1]; simp; omega
  have := key l ⟨#[]⟩
  rw [show (⟨#[]⟩ : ByteArray).size = 0 from rfl, Nat.zero_add] at this
  exact this
theorem conv1 (W : World) (y : Int) : (convert 49 9 (.slice (some ⟨W.heap.size, 0, none⟩) 1 1)).run Try.prog (W.alloc (.cells #[.int .u8 y] 5)) = .ok (.string (strOfNums [y])) (W.alloc (.cells #[.int .u8 y] 5)) := by
  refine run_convert_bytes_arg (P := Try.prog) _ 49 5 Try.underlying49 Try.underlying5 W.heap.size 0 1 1 [y] rfl (fun i hi => ?_) 9 Try.underlying9
  obtain rfl : i = 0 := by omega
  exact cell_of_row _ _ 0 _ 5 (0, 0) (heap_alloc_new W (.cells #[.int .u8 y] 5))

theorem below_two {w wr : World} {o o' : Obj} (h : Below (w.heap.size + 2) ((w.alloc o).alloc o') wr) : Below w.heap.size w wr :=
  (((Below.refl _ _).alloc (Nat.le_refl _) o).alloc (by simp) o').trans (h.mono (by omega))
theorem box33 {w wc : World} {a b c a' b' c' : Value} {t t' : TypeId} (hb : Below (w.heap.size + 2) ((w.alloc (.cells #[a, b, c] t)).alloc (.cells #[a', b', c'] t')) wc) :
    wc.cell? ⟨w.heap.size, 0, none⟩ = some a ∧ wc.cell? ⟨w.heap.size, 1, none⟩ = some b ∧ wc.cell? ⟨w.heap.size, 2, none⟩ = some c ∧ w.heap.size + 2 ≤ wc.heap.size ∧
      wc.heap[w.heap.size + 1]? = some (.cells #[a', b', c'] t' (0, 0)) := by
  have h1 : ((w.alloc (.cells #[a, b, c] t)).alloc (.cells #[a', b', c'] t')).heap[w.heap.size]? = some (.cells #[a, b, c] t (0, 0)) := (Below.heap_alloc _ _ _ (by simp)).trans (heap_alloc_new w _)
  have h2 : ((w.alloc (.cells #[a, b, c] t)).alloc (.cells #[a', b', c'] t')).heap[w.heap.size + 1]? = some (.cells #[a', b', c'] t' (0, 0)) := by
    have := heap_alloc_new (w.alloc (.cells #[a, b, c] t)) (.cells #[a', b', c'] t')
    rwa [World.size_alloc] at this
  have k1 := (hb.block w.heap.size (by omega)).trans h1
  have k2 := (hb.block (w.heap.size + 1) (by omega)).trans h2
  exact ⟨cell_of_row _ _ 0 _ t (0, 0) k1, cell_of_row _ _ 1 _ t (0, 0) k1, cell_of_row _ _ 2 _ t (0, 0) k1, by have := hb.size; simpa using this, k2⟩

set_option maxHeartbeats 2000000 in
theorem draftEntry_any (A : Option Addr) (c : Nat) (d : Dra) (w : World) (_hl : d.letters.length ≤ 9223372036854775807) (h : RU w w.heap.size A d.letters) :
    Calls Try.prog 22 #[.agg #[.slice A d.letters.length c, .int .u32 d.weight, .bool d.gone]] w fun e w' => e = .returned d.ent.agg ∧ Below w.heap.size w w' := by
  have hcv := conv1
  go_enter Try.func22, Try.ntmps22
  go_upto_block 0 with (fail)
  go_cut [3] (fun v wr => v = .string (dbody (d.letters.take 9)) ∧ Below (w.heap.size + 2) ((w.alloc (.cells #[.slice A d.letters.length c, .int .u32 d.weight, .bool d.gone] 54)).alloc (.cells #[.string ⟨#[]⟩, .int .u32 0, .bool false] 24)) wr)
  case first =>
    go_wp2
    go_loopg [3, 4] 9 (fun k v i wr => ∃ j : Nat, k = 9 - j ∧ j ≤ d.letters.length ∧ j ≤ 9 ∧ i = .int .i64 j ∧ v = .string (dbody (d.letters.take j)) ∧ Below (w.heap.size + 2) ((w.alloc (.cells #[.slice A d.letters.length c, .int .u32 d.weight, .bool d.gone] 54)).alloc (.cells #[.string ⟨#[]⟩, .int .u32 0, .bool false] 24)) wr)
    case atStart => exact ⟨0, rfl, Nat.zero_le _, Nat.zero_le _, rfl, rfl, Below.refl _ _⟩
    case round =>
      obtain ⟨j, hk, hj, hj9, rfl, rfl, hb⟩ := hrel
      have HK := Lib.hid hk
      clear hk
      obtain ⟨hx0, hx1, hx2, hsz, -⟩ := box33 hb
      have hds : (dbody (d.letters.take j)).size ≤ 9 := by rw [dbody_size]; simp; omega
      have h1s : ∀ x, (strOfNums [x]).size ≤ 1 := fun x => Nat.le_of_eq (strOf1 x)
      by_cases hlt : j < d.letters.length
      · by_cases h9 : j < 9
        · obtain ⟨b, off, rfl, hb0, h0, h1, h2⟩ := h.at_ hlt
          have h0' := ((bcell (below_two hb)).1 b (off + j) hb0).trans h0
          have hst : dbody (d.letters.take (j + 1)) = dbody (d.letters.take j) ++ strOfNums [dletter d.letters[j]] := by rw [List.take_succ_eq_append_getElem hlt, dbody_snoc]
          have HS := Lib.hid hst
          clear hst h0
          have q1 := h1s (97 + d.letters[j] % 8 % 3)
          have q2 := h1s d.letters[j]
          clear h1s
          go_wp2
          · have ht : d.letters[j] % 8 < 7 := by assumption
            go_roundg (9 - (j + 1))
            case rel => exact ⟨j + 1, rfl, by omega, by omega, by go_num, by rw [HS.out, show dletter d.letters[j] = 97 + d.letters[j] % 8 % 3 from if_pos ht], hb.alloc hsz _⟩
            case measure => rw [HK.out]; omega
          · have ht : ¬ d.letters[j] % 8 < 7 := by omega
            go_roundg (9 - (j + 1))
            case rel => exact ⟨j + 1, rfl, by omega, by omega, by go_num, by rw [HS.out, show dletter d.letters[j] = d.letters[j] from if_neg ht], hb.alloc hsz _⟩
            case measure => rw [HK.out]; omega
        · have he : d.letters.take j = d.letters.take 9 := by rw [show j = 9 by omega]
          have HE := Lib.hid he
          clear he
          go_wp2
          go_meet
          case rel => exact ⟨by rw [HE.out], hb⟩
      · have he : d.letters.take j = d.letters.take 9 := by rw [List.take_of_length_le (by omega), List.take_of_length_le (by omega)]
        have HE := Lib.hid he
        clear he
        go_wp2
        go_meet
        case rel => exact ⟨by rw [HE.out], hb⟩
  case rest =>
    obtain ⟨rfl, hb⟩ := hcut
    obtain ⟨hx0, hx1, hx2, hsz, hbk⟩ := box33 hb
    have hb0 := below_two hb
    go_wp2_with (go_at_call 30; refine (bare_any _ _ _ _).mono ?_; rintro e w1 ⟨rfl, hb1⟩; have hbk1 := (hb1.block _ (show w.heap.size + 1 < wc.heap.size by omega)).trans hbk; have c0 := cell_of_row _ _ 0 _ 24 (0, 0) hbk1; have c1 := cell_of_row _ _ 1 _ 24 (0, 0) hbk1; have c2 := cell_of_row _ _ 2 _ 24 (0, 0) hbk1; have hf : ∀ i, w1.frozen? ⟨w.heap.size + 1, i, none⟩ = false := (fun i => by simp [World.frozen?, hbk1]))
    · have he : (dbody (d.letters.take 9)).toList.isEmpty = true := by assumption
      have hw : dword d.letters = ⟨#[97]⟩ := by unfold dword; rw [if_pos (List.isEmpty_iff.1 he)]
      have hg := set3 (x := .string ⟨#[97]⟩) (y := .int .u32 (bareW d.weight d.gone)) (z := .bool d.gone) hbk1
      have g0 := cell_of_row _ _ 0 _ 24 (0, 0) hg
      have g1 := cell_of_row _ _ 1 _ 24 (0, 0) hg
      have g2 := cell_of_row _ _ 2 _ 24 (0, 0) hg
      exact bodyPost_ret (v := d.ent.agg) (by simp [results, Try.results22, go_sem, Ent.agg, Dra.ent, g0, g1, g2, hw]) rfl
        ⟨rfl, (((hb0.trans (hb1.mono hb0.size)).setCell (p := ⟨w.heap.size + 1, 0, none⟩) (Nat.le_succ _) _).setCell (p := ⟨w.heap.size + 1, 1, none⟩) (Nat.le_succ _) _).setCell (p := ⟨w.heap.size + 1, 2, none⟩) (Nat.le_succ _) _⟩
    · have he : (dbody (d.letters.take 9)).toList.isEmpty = false := by assumption
      have hw : dword d.letters = dbody (d.letters.take 9) := by unfold dword; rw [if_neg (fun h => by rw [h] at he; cases he)]
      have hg := set3 (x := .string (dbody (d.letters.take 9))) (y := .int .u32 (bareW d.weight d.gone)) (z := .bool d.gone) hbk1
      have g0 := cell_of_row _ _ 0 _ 24 (0, 0) hg
      have g1 := cell_of_row _ _ 1 _ 24 (0, 0) hg
      have g2 := cell_of_row _ _ 2 _ 24 (0, 0) hg
      exact bodyPost_ret (v := d.ent.agg) (by simp [results, Try.results22, go_sem, Ent.agg, Dra.ent, g0, g1, g2, hw]) rfl
        ⟨rfl, (((hb0.trans (hb1.mono hb0.size)).setCell (p := ⟨w.heap.size + 1, 0, none⟩) (Nat.le_succ _) _).setCell (p := ⟨w.heap.size + 1, 1, none⟩) (Nat.le_succ _) _).setCell (p := ⟨w.heap.size + 1, 2, none⟩) (Nat.le_succ _) _⟩

theorem RU.below {w w' : World} {B : Nat} {A : Option Addr} {l : List Int} (h : RU w B A l) (hb : Below B w w') : RU w' B A l := ⟨h.1.below hb, h.2⟩
theorem RU.more {w : World} {B B' : Nat} {A : Option Addr} {l : List Int} (h : RU w B A l) (hb : B ≤ B') : RU w B' A l := ⟨h.1.more hb, h.2⟩
/-- a draft of a hit: four cells, the first a slice of letters -/
def RDs (w : World) (B : Nat) (A : Option Addr) (ds : List (Dra × Int)) : Prop :=
  0 < ds.length → ∃ b off, A = some ⟨b, off, none⟩ ∧ b < B ∧ ∀ (i : Nat) (d : Dra × Int), ds[i]? = some d → ∃ Ai ci, w.cell? ⟨b, off + i * 4, none⟩ = some (.slice Ai d.1.letters.length ci) ∧
    w.cell? ⟨b, off + i * 4 + 1, none⟩ = some (.int .u32 d.1.weight) ∧ w.cell? ⟨b, off + i * 4 + 2, none⟩ = some (.bool d.1.gone) ∧ w.cell? ⟨b, off + i * 4 + 3, none⟩ = some (.int .u8 d.2) ∧ RU w B Ai d.1.letters ∧ d.1.letters.length ≤ 9223372036854775807
theorem RDs.at_ {w w' : World} {B : Nat} {A : Option Addr} {ds : List (Dra × Int)} (h : RDs w B A ds) (hb : Below B w w') {i : Nat} (hi : i < ds.length) :
    ∃ b off Ai ci, A = some ⟨b, off, none⟩ ∧ b < B ∧ w'.cell? ⟨b, off + i * 4, none⟩ = some (.slice Ai (ds[i]).1.letters.length ci) ∧
    w'.cell? ⟨b, off + i * 4 + 1, none⟩ = some (.int .u32 (ds[i]).1.weight) ∧ w'.cell? ⟨b, off + i * 4 + 2, none⟩ = some (.bool (ds[i]).1.gone) ∧ w'.cell? ⟨b, off + i * 4 + 3, none⟩ = some (.int .u8 (ds[i]).2) ∧ RU w' B Ai (ds[i]).1.letters ∧ (ds[i]).1.letters.length ≤ 9223372036854775807 := by
  obtain ⟨b, off, e, hlt, hc⟩ := h (by omega)
  obtain ⟨Ai, ci, h1, h2, h3, h4, h5, h6⟩ := hc i ds[i] (List.getElem?_eq_getElem hi)
  have k := (bcell hb).1
  exact ⟨b, off, Ai, ci, e, hlt, (k _ _ hlt).trans h1, (k _ _ hlt).trans h2, (k _ _ hlt).trans h3, (k _ _ hlt).trans h4, h5.below hb, h6⟩
theorem RDs.below {w w' : World} {B : Nat} {A : Option Addr} {ds : List (Dra × Int)} (h : RDs w B A ds) (hb : Below B w w') : RDs w' B A ds := fun h0 => by
  obtain ⟨b, off, e, hlt, hc⟩ := h h0
  refine ⟨b, off, e, hlt, fun i d hd => ?_⟩
  obtain ⟨Ai, ci, h1, h2, h3, h4, h5, h6⟩ := hc i d hd
  have k := (bcell hb).1
  exact ⟨Ai, ci, (k _ _ hlt).trans h1, (k _ _ hlt).trans h2, (k _ _ hlt).trans h3, (k _ _ hlt).trans h4, h5.below hb, h6⟩
theorem RDs.more {w : World} {B B' : Nat} {A : Option Addr} {ds : List (Dra × Int)} (h : RDs w B A ds) (hb : B ≤ B') : RDs w B' A ds := fun h0 => by
  obtain ⟨b, off, e, hlt, hc⟩ := h h0
  refine ⟨b, off, e, by omega, fun i d hd => ?_⟩
  obtain ⟨Ai, ci, h1, h2, h3, h4, h5, h6⟩ := hc i d hd
  exact ⟨Ai, ci, h1, h2, h3, h4, h5.more hb, h6⟩
/-- lists of drafts -/
def RDLs (w : World) (B : Nat) (A : Option Addr) (D : List (List (Dra × Int))) : Prop :=
  0 < D.length → ∃ b off, A = some ⟨b, off, none⟩ ∧ b < B ∧ ∀ (i : Nat) (d : List (Dra × Int)), D[i]? = some d → ∃ Ai ci, w.cell? ⟨b, off + i, none⟩ = some (.slice Ai d.length ci) ∧ RDs w B Ai d ∧ d.length ≤ 9223372036854775807
theorem RDLs.at_ {w w' : World} {B : Nat} {A : Option Addr} {D : List (List (Dra × Int))} (h : RDLs w B A D) (hb : Below B w w') {i : Nat} (hi : i < D.length) :
    ∃ b off Ai ci, A = some ⟨b, off, none⟩ ∧ b < B ∧ w'.cell? ⟨b, off + i, none⟩ = some (.slice Ai (D[i]).length ci) ∧ RDs w' B Ai D[i] ∧ (D[i]).length ≤ 9223372036854775807 := by
  obtain ⟨b, off, e, hlt, hc⟩ := h (by omega)
  obtain ⟨Ai, ci, h1, h2, h3⟩ := hc i D[i] (List.getElem?_eq_getElem hi)
  exact ⟨b, off, Ai, ci, e, hlt, ((bcell hb).1 _ _ hlt).trans h1, h2.below hb, h3⟩
end Go.Proofs.Ytjpgcfcacfhmiaa
