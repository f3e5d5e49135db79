/- The contracts of the reference's entries (cedillaref05): what each call returns, for lists of at most a million entries. -/
import Derived.Test.YtdlcnpjdloinnaaBase
namespace Go.Proofs.Ytdlcnpjdloinnaa
open Go.RowKit

def Ent.agg (e : Ent) : Value := .agg #[.string e.word, .int .u32 e.weight, .bool e.gone]
def zeroEnt : Ent := ⟨⟨#[]⟩, 0, false⟩
def bareW (b : Int) (c : Bool) : Int := if c = true then 0 else b
def bareE (e : Ent) : Ent := ⟨e.word, bareW e.weight e.gone, e.gone⟩

theorem bare_any (a : ByteArray) (b : Int) (c : Bool) (w : World) :
    Calls Try.prog 48 #[.agg #[.string a, .int .u32 b, .bool c]] w fun e w' => e = .returned (.agg #[.string a, .int .u32 (bareW b c), .bool c]) ∧ Below w.heap.size w w' := by
  cases c
  all_goals
    go_enter Try.func48, Try.ntmps48
    go_wp2
    exact bodyPost_ret (v := .agg #[.string a, .int .u32 (bareW b _), .bool _]) (by simp [results, Try.results48, go_sem, bareW]) rfl ⟨rfl, ((Below.refl _ _).alloc (Nat.le_refl _) _).alloc (by simp) _⟩

def ltE (a b : Ent) : Bool := Op.bytesLess a.word.toList b.word.toList
def gtE (a b : Ent) : Bool := !Op.bytesLess a.word.toList b.word.toList && !(a.word.toList == b.word.toList)
def oneE (es : List Ent) (e : Ent) : List Ent := es.takeWhile (ltE · e) ++ bareE e :: es.filter (gtE · e)

theorem takeWhile_drop_hit {xs : List Ent} {p : Ent → Bool} {j : Nat} (hj : j < xs.length) (h : p xs[j] = true) : (xs.drop j).takeWhile p = xs[j] :: (xs.drop (j + 1)).takeWhile p := by
  rw [List.drop_eq_getElem_cons hj, List.takeWhile_cons, h]; rfl
theorem takeWhile_drop_miss {xs : List Ent} {p : Ent → Bool} {j : Nat} (hj : j < xs.length) (h : p xs[j] = false) : (xs.drop j).takeWhile p = [] := by
  rw [List.drop_eq_getElem_cons hj, List.takeWhile_cons, h]; rfl
theorem filter_drop_hit {xs : List Ent} {p : Ent → Bool} {j : Nat} (hj : j < xs.length) (h : p xs[j] = true) : (xs.drop j).filter p = xs[j] :: (xs.drop (j + 1)).filter p := by
  rw [List.drop_eq_getElem_cons hj, List.filter_cons, h]; rfl
theorem filter_drop_miss {xs : List Ent} {p : Ent → Bool} {j : Nat} (hj : j < xs.length) (h : p xs[j] = false) : (xs.drop j).filter p = (xs.drop (j + 1)).filter p := by
  rw [List.drop_eq_getElem_cons hj, List.filter_cons, h]; rfl

set_option maxHeartbeats 1000000 in
theorem one_any (es : List Ent) (A : Option Addr) (cap : Nat) (x : Ent) (w : World) (hl : es.length ≤ 1000000) (h : REs w w.heap.size A es) :
    Calls Try.prog 44 #[.slice A es.length cap, x.agg] w (RetEs w (oneE es x)) := by
  go_enter Try.func44, Try.ntmps44
  simp only [Ent.agg]
  go_upto_block 0 with (fail)
  go_cut [5] (fun v wr => ∃ (acc : List Ent), acc.length ≤ es.length ∧ OEs wr (w.heap.size + 1) v acc ∧ es.takeWhile (ltE · x) = acc ∧
      Below (w.heap.size + 1) (w.alloc (.cells #[.string x.word, .int .u32 x.weight, .bool x.gone] 31)) wr)
  case first =>
    go_wp2
    go_loopw [5, 6] (fun v i wr => ∃ (j : Nat) (acc : List Ent), j ≤ es.length ∧ i = .int .i64 j ∧ acc.length ≤ j ∧ OEs wr (w.heap.size + 1) v acc ∧ es.takeWhile (ltE · x) = acc ++ (es.drop j).takeWhile (ltE · x) ∧
        Below (w.heap.size + 1) (w.alloc (.cells #[.string x.word, .int .u32 x.weight, .bool x.gone] 31)) wr)
      (fun _ i _ => es.length - (intOf i).toNat)
    case atStart => exact ⟨0, [], Nat.zero_le _, rfl, Nat.le_refl _, World.ownsRow_nil _ _ _ _, rfl, Below.refl _ _⟩
    case round =>
      obtain ⟨j, acc, hj, rfl, ha, hown, hf, hb⟩ := hrel
      have HF := Lib.hid hf
      clear hf
      have hx0 : wr.cell? ⟨w.heap.size, 0, none⟩ = some (.string x.word) := (hb.cell (p := ⟨w.heap.size, 0, none⟩) (by simp)).trans (cell_of_row _ _ 0 _ 31 (0, 0) (heap_alloc_new w _))
      have hr : REs wr w.heap.size A es := (h.alloc (Nat.le_refl _) _).below (hb.mono (by omega))
      have hsz := hb.size
      simp at hsz
      by_cases hlt : j < es.length
      · obtain ⟨b, off, rfl, hb0, h0, h1, h2⟩ := hr.at_ hlt
        have hi : (j : Int) < (es.length : Int) := by omega
        go_wp2
        go_quiet (fail)
        go_wp2_with (at_builtin; refine wpList_append_ent rfl (.tmp 24) (.tmp 29) rfl (w.heap.size + 1) _ acc rfl hown _ rfl (by simp) (by omega) (by simpa using hsz) ?_; intro v' w' hown' hg' hb'; clear hg')
        · have ht : Op.bytesLess es[j].word.toList x.word.toList = true := by assumption
          go_roundw
          case rel => exact ⟨j + 1, _, by omega, by go_num, by simp; omega, hown', by rw [HF.out, takeWhile_drop_hit hlt (by exact ht)]; simp, hb.trans (below_left hb')⟩
          case measure => simp [intOf]; omega
        · have ht : Op.bytesLess es[j].word.toList x.word.toList = false := by assumption
          go_meet
          case rel => exact ⟨acc, by omega, hown, by rw [HF.out, takeWhile_drop_miss hlt (by exact ht)]; simp, below_right hb nq⟩
      · have hi : decide ((j : Int) < (es.length : Int)) = false := by simp; omega
        go_wp2
        go_quiet (fail)
        go_wp2
        go_meet
        case rel => exact ⟨acc, by omega, hown, by rw [HF.out, List.drop_eq_nil_of_le (by omega)]; simp, below_right hb _⟩
  case rest =>
    obtain ⟨acc, ha, hown, hf, hb⟩ := hcut
    have HF := Lib.hid hf
    clear hf
    obtain ⟨hx0, hx1, hx2, hsz⟩ := box3 hb
    go_wp2_with (first
      | (go_at_call 48; refine (bare_any _ _ _ _).mono ?_; rintro e w1 ⟨rfl, hb1⟩; have hsz1 := hb1.size)
      | (at_builtin; refine wpList_append_ent rfl (.tmp 31) (.tmp 34) rfl (w.heap.size + 1) _ acc rfl (own_below hown hb1) _ rfl (by simp) (by omega) (by omega) ?_; intro v2 w2 hown2 hg2 hb2; clear hg2))
    have hB2 : Below (w.heap.size + 1) (w.alloc (.cells #[.string x.word, .int .u32 x.weight, .bool x.gone] 31)) w2 := (hb.trans (hb1.mono (by omega))).trans hb2
    have HF2 : Hid (oneE es x = (acc ++ [(⟨x.word, bareW x.weight x.gone, x.gone⟩ : Ent)]) ++ (es.drop 0).filter (gtE · x)) := by
      have e := HF.out; show oneE es x = _; unfold oneE bareE; rw [e, List.drop_zero, List.append_assoc]; rfl
    have hl2 : (acc ++ [(⟨x.word, bareW x.weight x.gone, x.gone⟩ : Ent)]).length ≤ es.length + 1 := by simp; omega
    generalize (acc ++ [(⟨x.word, bareW x.weight x.gone, x.gone⟩ : Ent)]) = acc2 at *
    clear hb hb1 hb2 hown HF hx0 hx1 hx2 hsz1 hsz
    go_loopw [5, 7] (fun v i wr => ∃ (j : Nat) (acc : List Ent), j ≤ es.length ∧ i = .int .i64 j ∧ acc.length ≤ es.length + 1 + j ∧ OEs wr (w.heap.size + 1) v acc ∧ oneE es x = acc ++ (es.drop j).filter (gtE · x) ∧
        Below (w.heap.size + 1) (w.alloc (.cells #[.string x.word, .int .u32 x.weight, .bool x.gone] 31)) wr)
      (fun _ i _ => es.length - (intOf i).toNat)
    case atStart => exact ⟨0, _, Nat.zero_le _, rfl, by omega, hown2, HF2.out, hB2⟩
    case round =>
      obtain ⟨j, acc, hj, rfl, ha, hown, hf, hb⟩ := hrel
      have HF := Lib.hid hf
      clear hf
      have hr : REs wr w.heap.size A es := (h.alloc (Nat.le_refl _) _).below (hb.mono (by omega))
      obtain ⟨hx0, -, -, hsz⟩ := box3 hb
      by_cases hlt : j < es.length
      · obtain ⟨b, off, rfl, hb0, h0, h1, h2⟩ := hr.at_ hlt
        go_wp2
        go_quiet (fail)
        go_wp2_with (at_builtin; refine wpList_append_ent rfl (.tmp 50) (.tmp 55) rfl (w.heap.size + 1) _ acc rfl hown _ rfl (by simp) (by omega) (by simpa using hsz) ?_; intro v' w' hown' hg' hb'; clear hg')
        · have ht : (!Op.bytesLess es[j].word.toList x.word.toList) = true ∧ (!es[j].word.toList == x.word.toList) = true := by assumption
          have hg : gtE es[j] x = true := by unfold gtE; rw [ht.1, ht.2]; rfl
          go_roundw
          case rel => exact ⟨j + 1, _, by omega, by go_num, by simp; omega, hown', by rw [HF.out, filter_drop_hit hlt (by exact hg)]; simp, hb.trans (below_left hb')⟩
          case measure => simp [intOf]; omega
        · have ht : (!Op.bytesLess es[j].word.toList x.word.toList) = false ∨ (!es[j].word.toList == x.word.toList) = false := by assumption
          have hg : gtE es[j] x = false := by unfold gtE; rcases ht with e | e <;> rw [e] <;> simp
          go_roundw
          case rel => exact ⟨j + 1, _, by omega, by go_num, by omega, hown, by rw [HF.out, filter_drop_miss hlt (by exact hg)], below_right hb _⟩
          case measure => simp [intOf]; omega
      · go_wp2
        go_ret
        have e : oneE es x = acc := by rw [HF.out, List.drop_eq_nil_of_le (by omega)]; simp
        rw [e]
        exact ret_es hown (below_box hb)

/-! ### Find -/
def findE : List Ent → List UInt8 → Option Ent
  | [], _ => none
  | e :: l, k => if (e.word.toList == k) = true then some e else findE l k

def foundE (o : Option Ent) : Value := .tuple #[(o.getD zeroEnt).agg, .bool o.isSome]
theorem findE_drop_hit {xs : List Ent} {k : List UInt8} {j : Nat} (hj : j < xs.length) (h : (xs[j].word.toList == k) = true) : findE (xs.drop j) k = some xs[j] := by
  rw [List.drop_eq_getElem_cons hj]; simp only [findE, if_pos h]
theorem findE_drop_miss {xs : List Ent} {k : List UInt8} {j : Nat} (hj : j < xs.length) (h : (xs[j].word.toList == k) = false) : findE (xs.drop j) k = findE (xs.drop (j + 1)) k := by
  rw [List.drop_eq_getElem_cons hj]; simp only [findE, h, if_neg, Bool.false_eq_true, not_false_eq_true]

set_option maxHeartbeats 400000 in
theorem find_any (xs : List Ent) (A : Option Addr) (cap : Nat) (k : ByteArray) (w : World) (hl : xs.length ≤ 1000000000000) (h : REs w w.heap.size A xs) :
    Calls Try.prog 13 #[.slice A xs.length cap, .string k] w fun e w' => e = .returned (foundE (findE xs k.toList)) ∧ Below w.heap.size w w' := by
  go_enter Try.func13, Try.ntmps13
  go_wp2
  go_loop [6] (fun i => ∃ j : Nat, j ≤ xs.length ∧ i = .int .i64 j ∧ findE xs k.toList = findE (xs.drop j) k.toList) (fun i => xs.length - (intOf i).toNat)
  case atStart => exact ⟨0, Nat.zero_le _, rfl, rfl⟩
  case round =>
    obtain ⟨j, hj, rfl, hf⟩ := hrel
    have HF := Lib.hid hf
    clear hf
    by_cases hlt : j < xs.length
    · obtain ⟨b, off, rfl, hb, h0, h1, h2⟩ := h.at_ hlt
      go_wp2
      · have ht : (xs[j].word.toList == k.toList) = true := by assumption
        rw [HF.out, findE_drop_hit hlt ht]
        exact bodyPost_ret (v := foundE (some xs[j])) (by simp [results, Try.results13, go_sem, foundE, Ent.agg]) rfl ⟨rfl, (Below.refl _ _).alloc (Nat.le_refl _) _⟩
      · have ht : (xs[j].word.toList == k.toList) = false := by assumption
        go_round
        case rel => exact ⟨j + 1, by omega, by go_num, by rw [HF.out, findE_drop_miss hlt ht]⟩
        case measure => simp [intOf]; omega
    · go_wp2
      have : xs.drop j = [] := List.drop_eq_nil_of_le (by omega)
      rw [HF.out, this]
      exact bodyPost_ret (v := foundE none) (by simp [results, Try.results13, go_sem, foundE, Ent.agg, zeroEnt]) rfl ⟨rfl, (Below.refl _ _).alloc (Nat.le_refl _) _⟩

/-! ### With -/
def withE (es more : List Ent) : List Ent := more.foldl oneE es
theorem oneE_length (es : List Ent) (e : Ent) : (oneE es e).length ≤ 2 * es.length + 1 := by
  unfold oneE
  have h1 : (es.takeWhile (ltE · e)).length ≤ es.length := (List.takeWhile_sublist _).length_le
  have h2 := List.length_filter_le (gtE · e) es
  simp; omega
end Go.Proofs.Ytdlcnpjdloinnaa
