/- Contracts: lists of entries, of the reference and of the program (With, Live, Same, Find). For lists of at most a million entries. -/
import Derived.Test.YtdlcnpjdloinnaaPlain
namespace Go.Proofs.Ytdlcnpjdloinnaa
open Go.RowKit

/-! ### Live -/
set_option maxHeartbeats 1000000 in
theorem refLive_any (es : List Ent) (A : Option Addr) (cap : Nat) (w : World) (hl : es.length ≤ 1000000) (h : REs w w.heap.size A es) :
    Calls Try.prog 34 #[.slice A es.length cap] w (RetEs w (liveE es)) := by
  go_enter Try.func34, Try.ntmps34
  go_wp2
  go_loopw [3, 4] (fun v i wr => ∃ (j : Nat) (acc : List Ent), j ≤ es.length ∧ i = .int .i64 j ∧ acc.length ≤ j ∧ OEs wr w.heap.size v acc ∧ liveE es = acc ++ liveE (es.drop j) ∧ Below w.heap.size w wr)
    (fun _ i _ => es.length - (intOf i).toNat)
  case atStart => exact ⟨0, [], Nat.zero_le _, rfl, Nat.le_refl _, World.ownsRow_nil _ _ _ _, rfl, Below.refl _ _⟩
  case round =>
    obtain ⟨j, acc, hj, rfl, ha, hown, hf, hb⟩ := hrel
    have HF := Lib.hid hf
    clear hf
    have hr : REs wr w.heap.size A es := h.below hb
    have hsz := hb.size
    by_cases hlt : j < es.length
    · obtain ⟨b, off, rfl, hb0, h0, h1, h2⟩ := hr.at_ hlt
      go_wp2_with (at_builtin; refine wpList_append_ent rfl (.tmp 17) (.tmp 22) rfl w.heap.size _ acc rfl hown _ rfl (by simp) (by omega) hsz ?_; intro v' w' hown' hg' hb'; clear hg')
      · have ht : (!es[j].gone) = true := by assumption
        go_roundw
        case rel => exact ⟨j + 1, _, by omega, by go_num, by simp; omega, hown', by rw [HF.out]; unfold liveE; rw [filter_drop_hit (p := fun e => !e.gone) hlt ht]; simp, hb.trans hb'⟩
        case measure => simp [intOf]; omega
      · have ht : (!es[j].gone) = false := by assumption
        go_roundw
        case rel => exact ⟨j + 1, acc, by omega, by go_num, by omega, hown, by rw [HF.out]; unfold liveE; rw [filter_drop_miss (p := fun e => !e.gone) hlt ht], hb⟩
        case measure => simp [intOf]; omega
    · go_wp2
      go_ret
      have e : liveE es = acc := by rw [HF.out, List.drop_eq_nil_of_le (by omega)]; simp [liveE]
      rw [e]
      exact ret_es hown hb

set_option maxHeartbeats 1000000 in
theorem live_any (es : List Ent) (A : Option Addr) (cap : Nat) (w : World) (hl : es.length ≤ 1000000) (h : REs w w.heap.size A es) :
    Calls Try.prog 32 #[.slice A es.length cap] w (RetEs w (liveE es)) := by
  go_enter Try.func32, Try.ntmps32
  go_wp2
  go_loopw [2, 7] (fun v i wr => ∃ (j : Nat) (acc : List Ent), j ≤ es.length ∧ i = .int .i64 j ∧ acc.length ≤ j ∧ OEs wr w.heap.size v acc ∧ liveE es = acc ++ liveE (es.drop j) ∧ Below w.heap.size w wr)
    (fun _ i _ => es.length - (intOf i).toNat)
  case atStart => exact ⟨0, [], Nat.zero_le _, rfl, Nat.le_refl _, World.ownsRow_nil _ _ _ _, rfl, Below.refl _ _⟩
  case round =>
    obtain ⟨j, acc, hj, rfl, ha, hown, hf, hb⟩ := hrel
    have HF := Lib.hid hf
    clear hf
    have hr : REs wr w.heap.size A es := h.below hb
    have hsz := hb.size
    by_cases hlt : j < es.length
    · obtain ⟨b, off, rfl, hb0, h0, h1, h2⟩ := hr.at_ hlt
      go_wp2_with (at_builtin; refine wpList_append_ent rfl (.tmp 14) (.tmp 16) rfl w.heap.size _ acc rfl (hown.alloc _) _ rfl (by simp) (by omega) (by simp; omega) ?_; intro v' w' hown' hg' hb'; clear hg')
      · have ht : (!es[j].gone) = true := by assumption
        go_roundw
        case rel => exact ⟨j + 1, _, by omega, by go_num, by simp; omega, hown', by rw [HF.out]; unfold liveE; rw [filter_drop_hit (p := fun e => !e.gone) hlt ht]; simp, (hb.alloc hsz _).trans hb'⟩
        case measure => simp [intOf]; omega
      · have ht : (!es[j].gone) = false := by assumption
        go_roundw
        case rel => exact ⟨j + 1, acc, by omega, by go_num, by omega, hown.alloc _, by rw [HF.out]; unfold liveE; rw [filter_drop_miss (p := fun e => !e.gone) hlt ht], hb.alloc hsz _⟩
        case measure => simp [intOf]; omega
    · go_wp2
      go_ret
      have e : liveE es = acc := by rw [HF.out, List.drop_eq_nil_of_le (by omega)]; simp [liveE]
      rw [e]
      exact ret_es hown hb

/-! ### Same: two lists that read alike -/
set_option maxHeartbeats 1000000 in
theorem same_any (es : List Ent) (A B : Option Addr) (c d : Nat) (w : World) (hl : es.length ≤ 1000000) (h : REs w w.heap.size A es) (h' : REs w w.heap.size B es) :
    Calls Try.prog 14 #[.slice A es.length c, .slice B es.length d] w fun e w' => e = .returned (.bool true) ∧ Below w.heap.size w w' := by
  have hne : ((es.length : Int) != (es.length : Int)) = false := by simp
  go_enter Try.func14, Try.ntmps14
  go_wp2
  go_loopw [5] (fun i wr => ∃ j : Nat, j ≤ es.length ∧ i = .int .i64 j ∧ Below w.heap.size w wr) (fun i _ => es.length - (intOf i).toNat)
  case atStart => exact ⟨0, Nat.zero_le _, rfl, Below.refl _ _⟩
  case round =>
    obtain ⟨j, hj, rfl, hb⟩ := hrel
    have hr : REs wr w.heap.size A es := h.below hb
    have hr' : REs wr w.heap.size B es := h'.below hb
    by_cases hlt : j < es.length
    · have hi : (j : Int) < (es.length : Int) := by omega
      obtain ⟨b, off, rfl, hb0, h0, h1, h2⟩ := hr.at_ hlt
      obtain ⟨b', off', rfl, hb0', h0', h1', h2'⟩ := hr'.at_ hlt
      go_wp2
      go_quiet (fail)
      go_wp2
      go_roundw
      case rel => exact ⟨j + 1, by omega, by go_num, below_right hb nq⟩
      case measure => simp [intOf]; omega
    · go_wp2
      go_ret
      exact ⟨rfl, hb⟩

/-! ### With -/
set_option maxHeartbeats 1000000 in
theorem with_any (es more : List Ent) (A B : Option Addr) (c d : Nat) (w : World) (hl : es.length ≤ 1000) (hl2 : more.length ≤ 1000) (hs : Rises es) (h : REs w w.heap.size A es) (h' : REs w w.heap.size B more) :
    Calls Try.prog 33 #[.slice A es.length c, .slice B more.length d] w (RetEs w (withE es more)) := by
  obtain ⟨i0, hi, hz0, hz1, hz2⟩ := info_parts info31
  go_enter Try.func33, Try.ntmps33
  go_wp2_with (at_builtin; refine wpList_append_reads rfl (.const (.slice none 0 0)) (.tmp 7) 26 rfl w.heap.size 31 i0 _ 3 24 Try.underlying26 hi hz0 hz1 hz2 rfl (by omega) (.slice none 0 0) 0 [] rfl (World.ownsRow_nil _ _ _ _) w.heap.size A es.length c (ecs es) rfl h.rd (ecs_one es) (by unfold maxLen; omega) (by omega) (Nat.le_refl _) ?_; intro v1 w1 hown1 hg1 hb1; clear hg1)
  have hown1' : OEs w1 w.heap.size v1 es := by simpa using hown1
  obtain ⟨A1, c1, rfl, hc1, hr1⟩ := OEs.form hown1'
  clear hown1 hown1'
  go_loopw [5, 6] (fun v i wr => ∃ (j : Nat) (acc : List Ent) (A1 : Option Addr) (c1 : Nat), j ≤ more.length ∧ i = .int .i64 j ∧ acc.length ≤ es.length + j ∧ v = .slice A1 acc.length c1 ∧ acc.length ≤ c1 ∧ REs wr wr.heap.size A1 acc ∧ Rises acc ∧
      withE es more = withE acc (more.drop j) ∧ Below w.heap.size w wr)
    (fun _ i _ => more.length - (intOf i).toNat)
  case atStart => exact ⟨0, es, A1, c1, Nat.zero_le _, rfl, Nat.le_refl _, rfl, hc1, hr1, hs, rfl, hb1⟩
  case round =>
    obtain ⟨j, acc, A2, c2, hj, rfl, ha, rfl, hc2, hr2, hs2, hf, hb⟩ := hrel
    have HF := Lib.hid hf
    clear hf hr1 hc1
    have hr : REs wr w.heap.size B more := h'.below hb
    have hsz := hb.size
    by_cases hlt : j < more.length
    · obtain ⟨b, off, rfl, hb0, h0, h1, h2⟩ := hr.at_ hlt
      go_wp2_with (go_at_call 44; refine (one_any acc A2 c2 more[j] wr (by omega) hr2).mono ?_; rintro e w3 ⟨A3, c3, rfl, hc3, hr3, hb3⟩)
      have hl1 := length_one hs2 more[j]
      go_roundw
      case rel => exact ⟨j + 1, oneE acc more[j], A3, c3, by omega, by go_num, by omega, rfl, hc3, hr3, rises_one hs2 _, by rw [HF.out, List.drop_eq_getElem_cons hlt]; rfl, hb.trans (hb3.mono hsz)⟩
      case measure => simp [intOf]; omega
    · go_wp2
      go_ret
      have e : withE es more = acc := by rw [HF.out, List.drop_eq_nil_of_le (by omega)]; rfl
      rw [e]
      exact ⟨A2, c2, rfl, hc2, hr2, hb⟩
end Go.Proofs.Ytdlcnpjdloinnaa
