/- Contracts: entries and lists that are drawn (cedillaref05's kit, and lists of the law). For whatever drafts. -/
import Derived.Test.YtdlcnpjdloinnaaEnts
import Derived.Laws.BytesArg
namespace Go.Proofs.Ytdlcnpjdloinnaa
open Go.RowKit

structure Dra where
  letters : List Int
  weight : Int
  gone : Bool
def RU (w : World) (B : Nat) (A : Option Addr) (l : List Int) : Prop := Reads w B 1 A l.length (l.map (Value.int .u8)) ∧ ∀ x ∈ l, 0 ≤ x ∧ x ≤ 255
theorem RU.at_ {w : World} {B : Nat} {A : Option Addr} {l : List Int} (h : RU w B A l) {i : Nat} (hi : i < l.length) :
    ∃ b off, A = some ⟨b, off, none⟩ ∧ b < B ∧ w.cell? ⟨b, off + i, none⟩ = some (.int .u8 l[i]) ∧ 0 ≤ l[i] ∧ l[i] ≤ 255 := by
  obtain ⟨b, off, e, hb, hc⟩ := h.1.2 (by omega)
  have hm := h.2 l[i] (List.getElem_mem hi)
  exact ⟨b, off, e, hb, hc i _ (by simp [hi]), hm.1, hm.2⟩

def dletter (x : Int) : Int := if x % 8 < 7 then 97 + x % 8 % 3 else x
def dbody (l : List Int) : ByteArray := l.foldl (fun s x => s ++ strOfNums [dletter x]) ⟨#[]⟩
def dword (l : List Int) : ByteArray := if (dbody (l.take 9)).toList = [] then ⟨#[97]⟩ else dbody (l.take 9)
def Dra.ent (d : Dra) : Ent := ⟨dword d.letters, bareW d.weight d.gone, d.gone⟩
theorem strOf1 (x : Int) : (strOfNums [x]).size = 1 := rfl
theorem dbody_snoc (l : List Int) (x : Int) : dbody (l ++ [x]) = dbody l ++ strOfNums [dletter x] := by simp [dbody]
theorem dbody_size (l : List Int) : (dbody l).size = l.length := by
  have key : ∀ (l : List Int) (s : ByteArray), (l.foldl (fun s x => s ++ strOfNums [dletter x]) s).size = s.size + l.length := by
    intro l
    induction l with
    | nil => intro s; simp
    | cons x l ih => intro s; rw [List.foldl_cons, ih, ByteArray.size_append, strOf1]; simp; omega
  have := key l ⟨#[]⟩
  rw [show (⟨#[]⟩ : ByteArray).size = 0 from rfl, Nat.zero_add] at this
  exact this
theorem conv1 (W : World) (y : Int) : (convert 75 9 (.slice (some ⟨W.heap.size, 0, none⟩) 1 1)).run Try.prog (W.alloc (.cells #[.int .u8 y] 5)) = .ok (.string (strOfNums [y])) (W.alloc (.cells #[.int .u8 y] 5)) := by
  refine run_convert_bytes_arg (P := Try.prog) _ 75 5 Try.underlying75 Try.underlying5 W.heap.size 0 1 1 [y] rfl (fun i hi => ?_) 9 Try.underlying9
  obtain rfl : i = 0 := by omega
  exact cell_of_row _ _ 0 _ 5 (0, 0) (heap_alloc_new W (.cells #[.int .u8 y] 5))

theorem below_two {w wr : World} {o o' : Obj} (h : Below (w.heap.size + 2) ((w.alloc o).alloc o') wr) : Below w.heap.size w wr :=
  (((Below.refl _ _).alloc (Nat.le_refl _) o).alloc (by simp) o').trans (h.mono (by omega))
theorem box33 {w wc : World} {a b c a' b' c' : Value} {t t' : TypeId} (hb : Below (w.heap.size + 2) ((w.alloc (.cells #[a, b, c] t)).alloc (.cells #[a', b', c'] t')) wc) :
    wc.cell? ⟨w.heap.size, 0, none⟩ = some a ∧ wc.cell? ⟨w.heap.size, 1, none⟩ = some b ∧ wc.cell? ⟨w.heap.size, 2, none⟩ = some c ∧ w.heap.size + 2 ≤ wc.heap.size ∧
      wc.heap[w.heap.size + 1]? = some (.cells #[a', b', c'] t' (0, 0)) := by
  have h1 : ((w.alloc (.cells #[a, b, c] t)).alloc (.cells #[a', b', c'] t')).heap[w.heap.size]? = some (.cells #[a, b, c] t (0, 0)) := (Below.heap_alloc _ _ _ (by simp)).trans (heap_alloc_new w _)
  have h2 : ((w.alloc (.cells #[a, b, c] t)).alloc (.cells #[a', b', c'] t')).heap[w.heap.size + 1]? = some (.cells #[a', b', c'] t' (0, 0)) := by
    have := heap_alloc_new (w.alloc (.cells #[a, b, c] t)) (.cells #[a', b', c'] t')
    rwa [World.size_alloc] at this
  have k1 := (hb.block w.heap.size (by omega)).trans h1
  have k2 := (hb.block (w.heap.size + 1) (by omega)).trans h2
  exact ⟨cell_of_row _ _ 0 _ t (0, 0) k1, cell_of_row _ _ 1 _ t (0, 0) k1, cell_of_row _ _ 2 _ t (0, 0) k1, by have := hb.size; simpa using this, k2⟩

set_option maxHeartbeats 2000000 in
theorem draftEntry_any (A : Option Addr) (c : Nat) (d : Dra) (w : World) (_hl : d.letters.length ≤ 9223372036854775807) (h : RU w w.heap.size A d.letters) :
    Calls Try.prog 46 #[.agg #[.slice A d.letters.length c, .int .u32 d.weight, .bool d.gone]] w fun e w' => e = .returned d.ent.agg ∧ Below w.heap.size w w' := by
  have hcv := conv1
  go_enter Try.func46, Try.ntmps46
  go_upto_block 0 with (fail)
  go_cut [3] (fun v wr => v = .string (dbody (d.letters.take 9)) ∧ Below (w.heap.size + 2) ((w.alloc (.cells #[.slice A d.letters.length c, .int .u32 d.weight, .bool d.gone] 77)).alloc (.cells #[.string ⟨#[]⟩, .int .u32 0, .bool false] 31)) wr)
  case first =>
    go_wp2
    go_loopg [3, 4] 9 (fun k v i wr => ∃ j : Nat, k = 9 - j ∧ j ≤ d.letters.length ∧ j ≤ 9 ∧ i = .int .i64 j ∧ v = .string (dbody (d.letters.take j)) ∧ Below (w.heap.size + 2) ((w.alloc (.cells #[.slice A d.letters.length c, .int .u32 d.weight, .bool d.gone] 77)).alloc (.cells #[.string ⟨#[]⟩, .int .u32 0, .bool false] 31)) wr)
    case atStart => exact ⟨0, rfl, Nat.zero_le _, Nat.zero_le _, rfl, rfl, Below.refl _ _⟩
    case round =>
      obtain ⟨j, hk, hj, hj9, rfl, rfl, hb⟩ := hrel
      have HK := Lib.hid hk
      clear hk
      obtain ⟨hx0, hx1, hx2, hsz, -⟩ := box33 hb
      have hds : (dbody (d.letters.take j)).size ≤ 9 := by rw [dbody_size]; simp; omega
      have h1s : ∀ x, (strOfNums [x]).size ≤ 1 := fun x => Nat.le_of_eq (strOf1 x)
      by_cases hlt : j < d.letters.length
      · by_cases h9 : j < 9
        · obtain ⟨b, off, rfl, hb0, h0, h1, h2⟩ := h.at_ hlt
          have h0' := ((bcell (below_two hb)).1 b (off + j) hb0).trans h0
          have hst : dbody (d.letters.take (j + 1)) = dbody (d.letters.take j) ++ strOfNums [dletter d.letters[j]] := by rw [List.take_succ_eq_append_getElem hlt, dbody_snoc]
          have HS := Lib.hid hst
          clear hst h0
          have q1 := h1s (97 + d.letters[j] % 8 % 3)
          have q2 := h1s d.letters[j]
          clear h1s
          go_wp2
          · have ht : d.letters[j] % 8 < 7 := by assumption
            go_roundg (9 - (j + 1))
            case rel => exact ⟨j + 1, rfl, by omega, by omega, by go_num, by rw [HS.out, show dletter d.letters[j] = 97 + d.letters[j] % 8 % 3 from if_pos ht], hb.alloc hsz _⟩
            case measure => rw [HK.out]; omega
          · have ht : ¬ d.letters[j] % 8 < 7 := by omega
            go_roundg (9 - (j + 1))
            case rel => exact ⟨j + 1, rfl, by omega, by omega, by go_num, by rw [HS.out, show dletter d.letters[j] = d.letters[j] from if_neg ht], hb.alloc hsz _⟩
            case measure => rw [HK.out]; omega
        · have he : d.letters.take j = d.letters.take 9 := by rw [show j = 9 by omega]
          have HE := Lib.hid he
          clear he
          go_wp2
          go_meet
          case rel => exact ⟨by rw [HE.out], hb⟩
      · have he : d.letters.take j = d.letters.take 9 := by rw [List.take_of_length_le (by omega), List.take_of_length_le (by omega)]
        have HE := Lib.hid he
        clear he
        go_wp2
        go_meet
        case rel => exact ⟨by rw [HE.out], hb⟩
  case rest =>
    obtain ⟨rfl, hb⟩ := hcut
    obtain ⟨hx0, hx1, hx2, hsz, hbk⟩ := box33 hb
    have hb0 := below_two hb
    go_wp2_with (go_at_call 48; refine (bare_any _ _ _ _).mono ?_; rintro e w1 ⟨rfl, hb1⟩; have hbk1 := (hb1.block _ (show w.heap.size + 1 < wc.heap.size by omega)).trans hbk; have c0 := cell_of_row _ _ 0 _ 31 (0, 0) hbk1; have c1 := cell_of_row _ _ 1 _ 31 (0, 0) hbk1; have c2 := cell_of_row _ _ 2 _ 31 (0, 0) hbk1; have hf : ∀ i, w1.frozen? ⟨w.heap.size + 1, i, none⟩ = false := (fun i => by simp [World.frozen?, hbk1]))
    · have he : (dbody (d.letters.take 9)).toList.isEmpty = true := by assumption
      have hw : dword d.letters = ⟨#[97]⟩ := by unfold dword; rw [if_pos (List.isEmpty_iff.1 he)]
      have hg := set3 (x := .string ⟨#[97]⟩) (y := .int .u32 (bareW d.weight d.gone)) (z := .bool d.gone) hbk1
      have g0 := cell_of_row _ _ 0 _ 31 (0, 0) hg
      have g1 := cell_of_row _ _ 1 _ 31 (0, 0) hg
      have g2 := cell_of_row _ _ 2 _ 31 (0, 0) hg
      exact bodyPost_ret (v := d.ent.agg) (by simp [results, Try.results46, go_sem, Ent.agg, Dra.ent, g0, g1, g2, hw]) rfl
        ⟨rfl, (((hb0.trans (hb1.mono hb0.size)).setCell (p := ⟨w.heap.size + 1, 0, none⟩) (Nat.le_succ _) _).setCell (p := ⟨w.heap.size + 1, 1, none⟩) (Nat.le_succ _) _).setCell (p := ⟨w.heap.size + 1, 2, none⟩) (Nat.le_succ _) _⟩
    · have he : (dbody (d.letters.take 9)).toList.isEmpty = false := by assumption
      have hw : dword d.letters = dbody (d.letters.take 9) := by unfold dword; rw [if_neg (fun h => by rw [h] at he; cases he)]
      have hg := set3 (x := .string (dbody (d.letters.take 9))) (y := .int .u32 (bareW d.weight d.gone)) (z := .bool d.gone) hbk1
      have g0 := cell_of_row _ _ 0 _ 31 (0, 0) hg
      have g1 := cell_of_row _ _ 1 _ 31 (0, 0) hg
      have g2 := cell_of_row _ _ 2 _ 31 (0, 0) hg
      exact bodyPost_ret (v := d.ent.agg) (by simp [results, Try.results46, go_sem, Ent.agg, Dra.ent, g0, g1, g2, hw]) rfl
        ⟨rfl, (((hb0.trans (hb1.mono hb0.size)).setCell (p := ⟨w.heap.size + 1, 0, none⟩) (Nat.le_succ _) _).setCell (p := ⟨w.heap.size + 1, 1, none⟩) (Nat.le_succ _) _).setCell (p := ⟨w.heap.size + 1, 2, none⟩) (Nat.le_succ _) _⟩

/-! ### Entries -/
def RDs (w : World) (B : Nat) (A : Option Addr) (ds : List Dra) : Prop :=
  0 < ds.length → ∃ b off, A = some ⟨b, off, none⟩ ∧ b < B ∧ ∀ (i : Nat) (d : Dra), ds[i]? = some d → ∃ Ai ci, w.cell? ⟨b, off + i * 3, none⟩ = some (.slice Ai d.letters.length ci) ∧
    w.cell? ⟨b, off + i * 3 + 1, none⟩ = some (.int .u32 d.weight) ∧ w.cell? ⟨b, off + i * 3 + 2, none⟩ = some (.bool d.gone) ∧ RU w B Ai d.letters ∧ d.letters.length ≤ 9223372036854775807
theorem RU.below {w w' : World} {B : Nat} {A : Option Addr} {l : List Int} (h : RU w B A l) (hb : Below B w w') : RU w' B A l := ⟨h.1.below hb, h.2⟩
theorem RU.more {w : World} {B B' : Nat} {A : Option Addr} {l : List Int} (h : RU w B A l) (hb : B ≤ B') : RU w B' A l := ⟨h.1.more hb, h.2⟩
theorem RDs.at_ {w w' : World} {B : Nat} {A : Option Addr} {ds : List Dra} (h : RDs w B A ds) (hb : Below B w w') {i : Nat} (hi : i < ds.length) :
    ∃ b off Ai ci, A = some ⟨b, off, none⟩ ∧ w'.cell? ⟨b, off + i * 3, none⟩ = some (.slice Ai (ds[i]).letters.length ci) ∧
    w'.cell? ⟨b, off + i * 3 + 1, none⟩ = some (.int .u32 (ds[i]).weight) ∧ w'.cell? ⟨b, off + i * 3 + 2, none⟩ = some (.bool (ds[i]).gone) ∧ RU w' B Ai (ds[i]).letters ∧ (ds[i]).letters.length ≤ 9223372036854775807 := by
  obtain ⟨b, off, e, hlt, hc⟩ := h (by omega)
  obtain ⟨Ai, ci, h1, h2, h3, h4, h5⟩ := hc i ds[i] (List.getElem?_eq_getElem hi)
  have k := (bcell hb).1
  exact ⟨b, off, Ai, ci, e, (k _ _ hlt).trans h1, (k _ _ hlt).trans h2, (k _ _ hlt).trans h3, h4.below hb, h5⟩

def entsOf (ds : List Dra) (most : Nat) : List Ent := (ds.take most).map Dra.ent
set_option maxHeartbeats 1000000 in
theorem entries_any (ds : List Dra) (A : Option Addr) (c most : Nat) (w : World) (hl : ds.length ≤ 9223372036854775807) (hm : most ≤ 1000) (h : RDs w w.heap.size A ds) :
    Calls Try.prog 39 #[.slice A ds.length c, .int .i64 most] w (RetEs w (entsOf ds most)) := by
  go_enter Try.func39, Try.ntmps39
  go_wp2
  go_loopg [5, 6] most (fun k v i wr => ∃ j : Nat, k = most - j ∧ j ≤ ds.length ∧ j ≤ most ∧ i = .int .i64 j ∧ OEs wr w.heap.size v ((ds.take j).map Dra.ent) ∧ Below w.heap.size w wr)
  case atStart => exact ⟨0, rfl, Nat.zero_le _, Nat.zero_le _, rfl, World.ownsRow_nil _ _ _ _, Below.refl _ _⟩
  case round =>
    obtain ⟨j, hk, hj, hjm, rfl, hown, hb⟩ := hrel
    have HK := Lib.hid hk
    clear hk
    have hsz := hb.size
    by_cases hlt : j < ds.length
    · by_cases hlm : j < most
      · obtain ⟨b, off, Ai, ci, rfl, h0, h1, h2, hu, hul⟩ := h.at_ hb hlt
        have hst : (ds.take (j + 1)).map Dra.ent = (ds.take j).map Dra.ent ++ [ds[j].ent] := by rw [List.take_succ_eq_append_getElem hlt, List.map_append]; rfl
        have HS := Lib.hid hst
        have hal : ((ds.take j).map Dra.ent).length ≤ 1000000000 := by simp; omega
        clear hst
        go_wp2_with (first
          | (go_at_call 46; refine (draftEntry_any Ai ci ds[j] wr hul (hu.more hsz)).mono ?_; rintro e w1 ⟨rfl, hb1⟩; have hsz1 := hb1.size; simp only [Ent.agg])
          | (at_builtin; refine wpList_append_ent rfl (.tmp 18) (.tmp 24) rfl w.heap.size _ _ rfl (own_below hown hb1) _ rfl (by simp) (by simpa using hal) (by omega) ?_; intro v' w' hown' hg' hb'; clear hg'))
        go_roundg (most - (j + 1))
        case rel => exact ⟨j + 1, rfl, by omega, by omega, by go_num, by rw [HS.out]; exact hown', hb.trans ((hb1.mono hsz).trans hb')⟩
        case measure => rw [HK.out]; omega
      · go_wp2
        go_ret
        have e : entsOf ds most = (ds.take j).map Dra.ent := by unfold entsOf; rw [show j = most by omega]
        rw [e]
        exact ret_es hown hb
    · go_wp2
      go_ret
      have e : entsOf ds most = (ds.take j).map Dra.ent := by unfold entsOf; rw [List.take_of_length_le (by omega), List.take_of_length_le (by omega)]
      rw [e]
      exact ret_es hown hb

/-! ### List, lists -/
def listOf (ds : List Dra) : List Ent := withE [] (entsOf ds 20)
theorem entsOf_length (ds : List Dra) (n : Nat) : (entsOf ds n).length ≤ n := by simp [entsOf]; omega
theorem rises_list (ds : List Dra) : Rises (listOf ds) := rises_with List.Pairwise.nil _
theorem length_list (ds : List Dra) : (listOf ds).length ≤ 20 := by
  have h1 := length_with (es := []) List.Pairwise.nil (entsOf ds 20)
  have h2 := entsOf_length ds 20
  simp only [List.length_nil, Nat.zero_add] at h1
  exact Nat.le_trans h1 h2
set_option maxHeartbeats 1000000 in
theorem list_any (ds : List Dra) (A : Option Addr) (c : Nat) (w : World) (hl : ds.length ≤ 9223372036854775807) (h : RDs w w.heap.size A ds) :
    Calls Try.prog 26 #[.slice A ds.length c, .int .i64 20] w (RetEs w (listOf ds)) := by
  have hel := entsOf_length ds 20
  go_enter Try.func26, Try.ntmps26
  go_wp2_with (first
    | (go_at_call 39; refine (entries_any ds A c 20 w hl (by omega) h).mono ?_; rintro e w1 ⟨A1, c1, rfl, hc1, hr1, hb1⟩)
    | (go_at_call 33; refine (with_any [] (entsOf ds 20) none A1 0 c1 w1 (by simp) (by omega) List.Pairwise.nil REs.nil_ hr1).mono ?_; rintro e w2 ⟨A2, c2, rfl, hc2, hr2, hb2⟩))
  go_ret
  exact ⟨A2, c2, rfl, hc2, hr2, hb1.trans (hb2.mono hb1.size)⟩
end Go.Proofs.Ytdlcnpjdloinnaa
