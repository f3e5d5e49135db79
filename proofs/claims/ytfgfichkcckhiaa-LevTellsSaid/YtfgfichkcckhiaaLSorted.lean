/- Lev: slices.Sorted of a map's keys. -/
import Derived.Test.YtfgfichkcckhiaaLColl
namespace Go.Proofs.Ytfgfichkcckhiaa
open Go.RowKit Go.Maps
set_option linter.unusedSimpArgs false
set_option linter.unusedVariables false
namespace Lv
/-- a slice of bytes reads so -/
def Reads8 (w : World) (v : Value) (l : List Int) : Prop := (v = .slice none 0 0 ∧ l = []) ∨ ∃ g c, v = .slice (some ⟨g, 0, none⟩) l.length c ∧ ∀ (i : Nat) (x : Int), l[i]? = some x → w.cell? ⟨g, i, none⟩ = some (.int .u8 x)
theorem Reads8.later {w w' : World} {v : Value} {l : List Int} (h : Reads8 w v l) (hb : Below w.heap.size w w') : Reads8 w' v l := by
  rcases h with h | ⟨g, c, h1, h2⟩
  · exact .inl h
  · exact .inr ⟨g, c, h1, fun i x hi => cell_later hb (h2 i x hi)⟩
theorem OZ.reads {w : World} {base : Nat} {v : Value} {l : List Int} (h : OZ w base v l) : Reads8 w v l := by
  rcases h.2 with ⟨h1, h2⟩ | ⟨g, cap, cur, h1, h2, h3, h4, h5, h6, h7⟩
  · exact .inl ⟨h1, List.eq_nil_of_length_eq_zero h2⟩
  · refine .inr ⟨g, cap, h1, fun i x hi => ?_⟩
    rw [cell_of_row w g i cur 5 (0, 0) h3]
    have hil := (List.getElem?_eq_some_iff.1 hi).1
    have h8 : (cur.toList.take (l.length * 1))[i]? = (l.map (Value.int .u8))[i]? := by rw [h7]
    rw [List.getElem?_take_of_lt (by omega)] at h8
    simpa [hi] using h8
theorem OZ.arr {w : World} {base g c : Nat} {l : List Int} {n : Nat} (h : OZ w base (.slice (some ⟨g, 0, none⟩) n c) l) : base ≤ g ∧ n = l.length ∧ Sb.Arr w g l := by
  rcases h.2 with ⟨h1, h2⟩ | ⟨g', cap, cur, h1, h2, h3, h4, h5, h6, h7⟩
  · cases h1
  · cases h1
    refine ⟨h2, rfl, cur, h3, fun i x hi => ?_⟩
    have hil := (List.getElem?_eq_some_iff.1 hi).1
    have h8 : (cur.toList.take (l.length * 1))[i]? = (l.map (Value.int .u8))[i]? := by rw [h7]
    rw [List.getElem?_take_of_lt (by omega)] at h8
    simpa [hi] using h8
theorem rising {ys : List Int} (h : Sb.SortedOn 0 ys.length ys) (hn : ys.Nodup) : ys.Pairwise (· < ·) := by
  rw [List.pairwise_iff_getElem]
  intro i j hi hj hij
  have h1 := h i j
  have h2 : ys[i] ≠ ys[j] := List.pairwise_iff_getElem.1 hn i j hi hj hij
  simp only [List.getD, List.getElem?_eq_getElem hi, List.getElem?_eq_getElem hj, Option.getD_some] at h1
  omega
set_option maxHeartbeats 2000000 in
theorem sorted40 (Bm b nn : Nat) (D0 : DataW Unit) {R : Value → Option (DataW Unit × List MemPlace)} (w : World) (hsz : Maps.size D0 ≤ 1000) (hm : w.cell? ⟨Bm, 0, none⟩ = some (.map (some b))) (hown : w.ownsMap Try.prog 5 R b nn D0) :
    Calls Try.prog 40 #[.func (.func 58) #[] #[.pointer (some ⟨Bm, 0, none⟩)]] w fun e w' => ∃ v ys, e = .returned v ∧ KeysOf D0 ys ∧ ys.length ≤ 1000 ∧ ys.Pairwise (· < ·) ∧ Reads8 w' v ys ∧ Below w.heap.size w w' := by
  go_enter Try.func40, Try.ntmps40
  go_wp2_with (go_at_call 56; refine (collect56 Bm b nn D0 w hsz hm hown).mono ?_; rintro e w1 ⟨v, xs, rfl, hk, hl, ho, hb⟩)
  rcases ho.2 with ⟨rfl, h0⟩ | ⟨g, cap, cur, rfl, hbg, _⟩
  · obtain rfl : xs = [] := List.eq_nil_of_length_eq_zero h0
    go_wp2_with (go_at_call 57; refine (Sb.sort_nil w1).mono ?_; rintro e w2 ⟨rfl, rfl⟩)
    go_ret
    exact ⟨_, [], rfl, hk, hl, List.Pairwise.nil, .inl ⟨rfl, rfl⟩, hb⟩
  · obtain ⟨h1, h2, ha⟩ := OZ.arr ho
    go_wp2_with (go_at_call 57; refine (Sb.sort_any xs g xs.length cap w1 rfl (by omega) ha).mono ?_; rintro e w2 ⟨rfl, ys, hp, hs, ha2, hon⟩)
    go_ret
    have hl2 := hp.length_eq
    refine ⟨_, ys, rfl, ⟨hp.nodup_iff.2 hk.1, fun x => (hp.mem_iff).trans (hk.2 x)⟩, by omega, rising (by rw [hl2]; exact hs) (hp.nodup_iff.2 hk.1),   .inr ⟨g, cap, by rw [hl2]; rfl, fun i x hi => ha2.cell hi⟩, ?_⟩
    exact hb.grown hon hb.size (fun k e => by cases e; exact hbg)
end Lv
end Go.Proofs.Ytfgfichkcckhiaa
