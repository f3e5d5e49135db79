/- Lev: rows of bytes as texts; a byte in a text. -/
import Derived.Test.YtfgfichkcckhiaaLTable
import Derived.Test.YtfgfichkcckhiaaShelf2
import Derived.Laws.BytesArg
namespace Go.Proofs.Ytfgfichkcckhiaa
open Go.RowKit
set_option linter.unusedSimpArgs false
set_option linter.unusedVariables false
namespace Lv
def strOf (l : List Nat) : ByteArray := ⟨(l.map UInt8.ofNat).toArray⟩
theorem strOf_eq (l : List Nat) : strOfNums (l.map fun (x : Nat) => (x : Int)) = strOf l := by
  simp [strOfNums, strOf, Function.comp_def]
/-- a row of bytes, however it lies -/
structure Row8 (w : World) (A : Option Addr) (l : List Nat) : Prop where
  cell : ∀ (i x : Nat), l[i]? = some x → ∃ g, A = some ⟨g, 0, none⟩ ∧ w.cell? ⟨g, i, none⟩ = some (.int .u8 (x : Int))
  nil : l = [] → A = none ∨ ∃ g, A = some ⟨g, 0, none⟩
theorem OB.row {w : World} {base : Nat} {v : Value} {l : List Nat} (h : OB w base v l) : ∃ A c, v = .slice A l.length c ∧ Row8 w A l := by
  rcases OB.form h with ⟨h1, h2⟩ | ⟨g, c, h1, _, _, _, h5⟩
  · exact ⟨none, 0, by rw [h1, h2]; rfl, ⟨(fun i x hi => by rw [h2] at hi; cases hi), fun _ => .inl rfl⟩⟩
  · exact ⟨_, c, h1, ⟨fun i x hi => ⟨g, rfl, h5 i x hi⟩, fun _ => .inr ⟨g, rfl⟩⟩⟩
theorem Row8.later {w w' : World} {A : Option Addr} {l : List Nat} (h : Row8 w A l) (hb : Below w.heap.size w w') : Row8 w' A l :=
  ⟨fun i x hi => by obtain ⟨g, h1, h2⟩ := h.cell i x hi; exact ⟨g, h1, cell_later hb h2⟩, h.nil⟩
theorem Row8.conv {w : World} {A : Option Addr} {l : List Nat} {c : Nat} (h : Row8 w A l) : (convert 38 9 (.slice A l.length c)).run Try.prog w = .ok (.string (strOf l)) w := by
  have key : ∀ g, A = some ⟨g, 0, none⟩ → (convert 38 9 (.slice A l.length c)).run Try.prog w = .ok (.string (strOf l)) w := fun g hg => by
    subst hg
    rw [← strOf_eq]
    refine run_convert_bytes_arg (P := Try.prog) w 38 5 Try.underlying38 Try.underlying5 g 0 l.length c (l.map fun (x : Nat) => (x : Int)) (by simp) (fun i hi => ?_) 9 Try.underlying9
    obtain ⟨g', h1, h2⟩ := h.cell i _ (List.getElem?_eq_getElem hi)
    injection h1 with h1
    injection h1 with h1
    subst h1
    rw [Nat.zero_add, h2]
    simp [hi]
  cases hl : l with
  | nil =>
    rcases h.nil hl with h1 | ⟨g, h1⟩
    · subst h1
      exact run_convert_bytes_nil (P := Try.prog) w 38 5 Try.underlying38 Try.underlying5 _ c 9 Try.underlying9
    · rw [← hl]; exact key g h1
  | cons x t =>
    obtain ⟨g, h1, _⟩ := h.cell 0 x (by rw [hl]; rfl)
    rw [← hl]; exact key g h1
theorem conv_one (w : World) (b : Nat) : (convert 38 9 (.slice (some ⟨w.heap.size, 0, none⟩) 1 1)).run Try.prog (w.alloc (.cells #[.int .u8 (b : Int)] 5)) = .ok (.string ⟨#[UInt8.ofNat b]⟩) (w.alloc (.cells #[.int .u8 (b : Int)] 5)) := by
  have hr : Row8 (w.alloc (.cells #[.int .u8 (b : Int)] 5)) (some ⟨w.heap.size, 0, none⟩) [b] := ⟨fun i x hi => by
    match i, hi with
    | 0, hi => injection hi with hi; subst hi; exact ⟨_, rfl, cell_of_row _ _ 0 _ 5 (0, 0) (heap_alloc_new w _)⟩, fun h => by cases h⟩
  exact hr.conv (c := 1)
theorem index_mem (c : UInt8) : ∀ l : List UInt8, 0 ≤ Lib.indexByte l c ↔ c ∈ l
  | [] => by simp [Lib.indexByte]
  | x :: l => by
    have ih := index_mem c l
    have hg := Lib.indexByte_ge l c
    simp only [Lib.indexByte, List.mem_cons]
    by_cases h : x = c
    · subst h; simp
    · rw [if_neg (by simpa using h)]
      by_cases h1 : Lib.indexByte l c = -1
      · rw [if_pos (by simpa using h1)]
        constructor
        · intro h2; omega
        · rintro (h2 | h2)
          · exact absurd h2.symm h
          · have := ih.2 h2; omega
      · rw [if_neg (by simpa using h1)]
        constructor
        · intro h2; exact .inr (ih.1 (by omega))
        · rintro (h2 | h2)
          · exact absurd h2.symm h
          · have := ih.2 h2; omega
theorem toNat_of (x : Nat) : (UInt8.ofNat x).toNat = x % 256 := UInt8.toNat_ofNat'
theorem index_row {l : List Nat} (hl : ∀ x ∈ l, x < 256) {b : Nat} (hb : b < 256) : decide (0 ≤ Lib.indexByte (strOf l).data.toList (UInt8.ofNat b)) = decide (b ∈ l) := by
  refine decide_eq_decide.2 ((index_mem _ _).trans ?_)
  show _ ∈ ((l.map UInt8.ofNat).toArray).toList ↔ _
  rw [List.toList_toArray, List.mem_map]
  constructor
  · rintro ⟨x, h1, h2⟩
    have h3 := congrArg UInt8.toNat h2
    rw [toNat_of, toNat_of] at h3
    have := hl x h1
    obtain rfl : x = b := by omega
    exact h1
  · exact fun h => ⟨b, h, rfl⟩
theorem index_text {q : ByteArray} {b : Nat} (hb : b < 256) : decide (0 ≤ Lib.indexByte q.data.toList (UInt8.ofNat b)) = inQ q b := by
  unfold inQ
  refine decide_eq_decide.2 ((index_mem _ _).trans ?_)
  rw [List.mem_iff_getElem]
  constructor
  · rintro ⟨i, h1, h2⟩
    have hi : i < q.size := by rw [Array.length_toList] at h1; exact h1
    refine ⟨i, hi, ?_⟩
    rw [at_get hi]
    have h3 := congrArg UInt8.toNat h2
    rw [toNat_of, Array.getElem_toList] at h3
    rw [ByteArray.getElem_eq_getElem_data]
    omega
  · rintro ⟨i, hi, h2⟩
    refine ⟨i, by rw [Array.length_toList]; exact hi, ?_⟩
    rw [at_get hi] at h2
    rw [Array.getElem_toList]
    apply UInt8.toNat.inj
    rw [ByteArray.getElem_eq_getElem_data] at h2
    rw [toNat_of]
    omega
theorem bytesS_lt {q : ByteArray} {k : Nat} {S : ByteArray} : ∀ x ∈ bytesS q k S, x < 256 := fun x hx => by
  unfold bytesS at hx
  split at hx
  · exact List.mem_range.1 (List.mem_filter.1 hx).1
  · cases hx
theorem rising_at {l : List Nat} (h : l.Pairwise (· < ·)) {p x y : Nat} (hx : l[p]? = some x) (hy : l[p + 1]? = some y) : x < y := by
  obtain ⟨h1, h2⟩ := List.getElem?_eq_some_iff.1 hx
  obtain ⟨h3, h4⟩ := List.getElem?_eq_some_iff.1 hy
  rw [← h2, ← h4]
  exact List.pairwise_iff_getElem.1 h p (p + 1) h1 h3 (Nat.lt_succ_self p)
theorem seen_all {q : ByteArray} {k : Nat} {S : ByteArray} (hok : okS q k S = true) (hq : q.size ≤ 255) : ¬ ∀ c, c < 256 → c ∈ bytesS q k S := fun h => by
  obtain ⟨b, h1, h2⟩ := some_out hq
  have := ((bytesS_mem hok).1 (h b h1)).2.1
  rw [h2] at this; cases this
theorem all_more {l : List Nat} {b : Nat} (h : ∀ c, c < b → c ∈ l) (hb : b ∈ l) : ∀ c, c < b + 1 → c ∈ l := fun c hc => by
  rcases Nat.lt_or_ge c b with h3 | h3
  · exact h c h3
  · obtain rfl : c = b := by omega
    exact hb
end Lv
end Go.Proofs.Ytfgfichkcckhiaa
