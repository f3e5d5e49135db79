/- Lists of hits: are two alike (Same), and those up to a bound (near). -/
import Derived.Test.YtdlcnpjdloinnaaHTold
namespace Go.Proofs.Ytdlcnpjdloinnaa.H
open Go.RowKit Go.Shelf

theorem drop_hit {p : Hit → Bool} {es : List Hit} {j : Nat} (hlt : j < es.length) (h : p es[j] = true) : (es.drop j).filter p = es[j] :: (es.drop (j + 1)).filter p := by
  rw [List.drop_eq_getElem_cons hlt, List.filter_cons_of_pos h]
theorem drop_miss {p : Hit → Bool} {es : List Hit} {j : Nat} (hlt : j < es.length) (h : p es[j] = false) : (es.drop j).filter p = (es.drop (j + 1)).filter p := by
  rw [List.drop_eq_getElem_cons hlt, List.filter_cons_of_neg (by rw [h]; decide)]
set_option maxHeartbeats 1000000 in
theorem same_any (es : List Hit) (A B : Option Addr) (c d : Nat) (w : World) (hl : es.length ≤ 1000000) (h : RHs w w.heap.size A es) (h' : RHs w w.heap.size B es) :
    Calls Try.prog 19 #[.slice A es.length c, .slice B es.length d] w fun e w' => e = .returned (.bool true) ∧ Below w.heap.size w w' := by
  have hne : ((es.length : Int) != (es.length : Int)) = false := by simp
  go_enter Try.func19, Try.ntmps19
  go_wp2
  go_loopw [5] (fun i wr => ∃ j : Nat, j ≤ es.length ∧ i = .int .i64 j ∧ Below w.heap.size w wr) (fun i _ => es.length - (intOf i).toNat)
  case atStart => exact ⟨0, Nat.zero_le _, rfl, Below.refl _ _⟩
  case round =>
    obtain ⟨j, hj, rfl, hb⟩ := hrel
    have hr : RHs wr w.heap.size A es := h.below hb
    have hr' : RHs wr w.heap.size B es := h'.below hb
    by_cases hlt : j < es.length
    · have hi : (j : Int) < (es.length : Int) := by omega
      obtain ⟨b, off, rfl, hb0, h0, h1, h2, h3⟩ := hr.at_ hlt
      obtain ⟨b', off', rfl, hb0', h0', h1', h2', h3'⟩ := hr'.at_ hlt
      go_wp2
      go_quiet (fail)
      go_wp2
      go_roundw
      case rel => exact ⟨j + 1, by omega, by go_num, below_right hb nq⟩
      case measure => simp [intOf]; omega
    · go_wp2
      go_ret
      exact ⟨rfl, hb⟩

def nearH (most : Int) (es : List Hit) : List Hit := es.filter fun e => decide (e.dist ≤ most)
set_option maxHeartbeats 1000000 in
theorem near_any (es : List Hit) (A : Option Addr) (cap : Nat) (most : Int) (w : World) (hl : es.length ≤ 1000000) (h : RHs w w.heap.size A es) :
    Calls Try.prog 23 #[.slice A es.length cap, .int .i64 most] w (RetHs w (nearH most es)) := by
  go_enter Try.func23, Try.ntmps23
  go_wp2
  go_loopg [5, 6] es.length (fun k v i wr => ∃ (j : Nat) (acc : List Hit), k = es.length - j ∧ j ≤ es.length ∧ i = .int .i64 j ∧ acc.length ≤ j ∧ OHs wr w.heap.size v acc ∧ nearH most es = acc ++ nearH most (es.drop j) ∧ Below w.heap.size w wr)
  case atStart => exact ⟨0, [], rfl, Nat.zero_le _, rfl, Nat.le_refl _, World.ownsRow_nil _ _ _ _, rfl, Below.refl _ _⟩
  case round =>
    obtain ⟨j, acc, hk, hj, rfl, ha, hown, hf, hb⟩ := hrel
    have HF := Lib.hid hf
    have HK := Lib.hid hk
    clear hf hk
    have hr : RHs wr w.heap.size A es := h.below hb
    have hsz := hb.size
    by_cases hlt : j < es.length
    · obtain ⟨b, off, rfl, hb0, h0, h1, h2, h3⟩ := hr.at_ hlt
      by_cases hd : (es[j]).dist ≤ most
      · have ht : decide ((es[j]).dist ≤ most) = true := by simpa using hd
        go_wp2_with (at_builtin; refine wpList_append_hit rfl (.tmp 20) (.tmp 25) rfl w.heap.size _ acc rfl hown _ rfl (by simp) (by omega) (by omega) ?_; intro v' w' hown' hg' hb'; clear hg')
        go_roundg (es.length - (j + 1))
        case rel => exact ⟨j + 1, _, rfl, by omega, by go_num, by simp; omega, hown', by rw [HF.out]; unfold nearH; rw [drop_hit (p := fun e : Hit => decide (e.dist ≤ most)) hlt ht]; simp, hb.trans hb'⟩
        case measure => rw [HK.out]; omega
      · have ht : decide ((es[j]).dist ≤ most) = false := by simpa using hd
        go_wp2
        go_roundg (es.length - (j + 1))
        case rel => exact ⟨j + 1, acc, rfl, by omega, by go_num, by omega, hown, by rw [HF.out]; unfold nearH; rw [drop_miss (p := fun e : Hit => decide (e.dist ≤ most)) hlt ht], hb⟩
        case measure => rw [HK.out]; omega
    · go_wp2
      go_ret
      have e : nearH most es = acc := by rw [HF.out, List.drop_eq_nil_of_le (by omega)]; simp [nearH]
      rw [e]
      exact ret_hs hown hb
end Go.Proofs.Ytdlcnpjdloinnaa.H
