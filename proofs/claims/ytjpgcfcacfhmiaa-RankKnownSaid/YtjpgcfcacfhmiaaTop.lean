/- rank.Top, walked: the first ones in order. -/
import Derived.Test.YtjpgcfcacfhmiaaPop
namespace Go.Proofs.Ytjpgcfcacfhmiaa
open Go.RowKit
set_option linter.unusedSimpArgs false
set_option linter.unusedVariables false
set_option linter.unnecessarySimpa false
theorem take_sorted {l : List Hit} (h : Sorted l) (n : Nat) : Sorted (l.take n) := h.sublist (List.take_sublist _ _)
theorem top_all {N : Nat} {T hs : List Hit} {x : Hit} {es : List Hit} (hT : T = (sortH es).take N) (hp : hs.Perm (T ++ [x])) : (sortH (es ++ [x])).take N = (sortH hs).take N := by
  have h1 := take_part N [x] es
  rw [← hT] at h1
  have e1 : sortH ([x] ++ T) = sortH hs := sortH_congr ((List.perm_append_singleton x T).symm.trans hp.symm)
  have e2 : sortH ([x] ++ es) = sortH (es ++ [x]) := sortH_congr (List.perm_append_singleton x es).symm
  rw [e1, e2] at h1
  exact h1.symm
theorem top_few {N : Nat} {hs : List Hit} (h : hs.length ≤ N) : hs.Perm ((sortH hs).take N) := by
  rw [List.take_of_length_le (by rw [sortH_length]; exact h)]
  exact (sortH_perm hs).symm
theorem top_many {N : Nat} {hs hs2 : List Hit} (h : hs.length = N + 1) (hh : Heaped hs.length hs) (hp : (hs2 ++ [gt hs 0]).Perm hs) : hs2.Perm ((sortH hs).take N) := by
  have hl : hs2.length = N := by have := hp.length_eq; simp at this; omega
  have hroot : ∀ y ∈ hs, le y (gt hs 0) = true := fun y hy => by
    obtain ⟨c, hc, rfl⟩ := List.getElem_of_mem hy
    have := heaped_root hh c hc
    rw [gt_eq hc]
    unfold le; unfold ok at this; rw [this]; rfl
  have hs' : Sorted (sortH hs2 ++ [gt hs 0]) := by
    unfold Sorted
    rw [List.pairwise_append]
    refine ⟨sorted_sortH hs2, List.pairwise_singleton _ _, fun a ha b hb => ?_⟩
    simp at hb
    subst hb
    exact hroot a (hp.subset (List.mem_append_left _ ((sortH_perm hs2).subset ha)))
  have e : sortH hs = sortH hs2 ++ [gt hs 0] := sorted_ext (sorted_sortH hs) hs' ((sortH_perm hs).trans (hp.symm.trans (List.Perm.append_right _ (sortH_perm hs2).symm)))
  rw [e, List.take_left' (by rw [sortH_length]; exact hl)]
  exact (sortH_perm hs2).symm
theorem Hp.read {w : World} {B gp : Nat} {es : List Hit} (h : Hp w B gp es) : ∃ A c, w.cell? ⟨gp, 0, none⟩ = some (.slice A es.length c) ∧ RHs w w.heap.size A es := by
  obtain ⟨_, v, hb, ho⟩ := h
  obtain ⟨A, c, rfl, _, hr⟩ := OHs.form ho
  exact ⟨A, c, hb.cell, hr⟩
theorem Hp.below {w w' : World} {B gp : Nat} {es : List Hit} (h : Hp w B gp es) (hb : Below w.heap.size w w') : Hp w' B gp es := by
  obtain ⟨h1, v, h2, h3⟩ := h
  exact ⟨h1, v, (hb.block gp h2.lt).trans h2, own_below h3 hb⟩
theorem own_more {w : World} {B B' : Nat} {v : Value} {es : List Hit} (h : OHs w B v es) (hB : B' ≤ B) : OHs w B' v es := by
  refine ⟨h.1, ?_⟩
  rcases h.2 with ⟨h1, h2⟩ | ⟨g, cap, cur, h1, h2, h3⟩
  · exact .inl ⟨h1, h2⟩
  · exact .inr ⟨g, cap, cur, h1, Nat.le_trans hB h2, h3⟩
/-- hits of the call's own, and a code -/
def RetTopO (w : World) (es : List Hit) (code : Int) (e : Ending) (w' : World) : Prop :=
  ∃ v, e = .returned (.tuple #[v, .int .i64 code]) ∧ OHs w' w.heap.size v es ∧ Below w.heap.size w w'
theorem RetTopO.ret {w w' : World} {es : List Hit} {code : Int} {e : Ending} (h : RetTopO w es code e w') : RetTop w es code e w' := by
  obtain ⟨v, rfl, h1, h2⟩ := h
  obtain ⟨A, c, rfl, h3, h4⟩ := OHs.form h1
  exact ⟨A, c, rfl, h3, h4, h2⟩
set_option maxHeartbeats 4000000 in
set_option maxRecDepth 100000 in
theorem top15o (n : Int) (es : List Hit) (A : Option Addr) (c : Nat) (w : World) (hl : es.length ≤ 90000) (h : RHs w w.heap.size A es) :
    Calls Try.prog 15 #[.int .i64 n, .slice A es.length c] w (RetTopO w (topH n es) (if n < 0 then 2 else 0)) := by
  by_cases hn : n < 0
  · have e0 : topH n es = [] := by unfold topH; rw [show n.toNat = 0 by omega]; rfl
    go_enter Try.func15, Try.ntmps15
    go_wp2
    go_ret2
    exact ⟨.slice none 0 0, rfl, World.ownsRow_nil _ _ _ _, Below.refl _ _⟩
  · have hn0 : 0 ≤ n := by omega
    have HR := Lib.hid h
    have hp0 : Hp ((w.alloc (.cells #[] 26)).alloc (.cells #[.slice (some ⟨w.heap.size, 0, none⟩) 0 0] 61)) w.heap.size (w.heap.size + 1) [] := by
      have h1 := heap_alloc_new w (.cells #[] 26)
      have h2 := heap_alloc_new (w.alloc (.cells #[] 26)) (.cells #[.slice (some ⟨w.heap.size, 0, none⟩) 0 0] 61)
      rw [World.size_alloc] at h2
      refine ⟨by omega, _, h2, ⟨rfl, .inr ⟨w.heap.size, 0, #[], rfl, Nat.le_refl _, ?_, Nat.le_refl _, by decide, rfl, rfl⟩⟩⟩
      exact (Below.heap_alloc _ _ _ (by simp)).trans h1
    have hb0 : Below w.heap.size w ((w.alloc (.cells #[] 26)).alloc (.cells #[.slice (some ⟨w.heap.size, 0, none⟩) 0 0] 61)) := ((Below.refl _ _).alloc (Nat.le_refl _) _).alloc (by simp) _
    go_enter Try.func15, Try.ntmps15
    go_wp2
    generalize (w.alloc (.cells #[] 26)).alloc (.cells #[.slice (some ⟨w.heap.size, 0, none⟩) 0 0] 61) = W at *
    generalize hgp : w.heap.size + 1 = gp at *
    clear hgp
    go_loopg [15] es.length (fun k i wr => ∃ (j : Nat) (hs : List Hit), k = es.length - j ∧ j ≤ es.length ∧ i = .int .i64 j ∧ hs.Perm ((sortH (es.take j)).take n.toNat) ∧ Heaped hs.length hs ∧ Hp wr w.heap.size gp hs ∧ Below w.heap.size w wr)
    case atStart => exact ⟨0, [], rfl, Nat.zero_le _, rfl, by simp [sortH], fun c h1 h2 => absurd h2 (by simp), hp0, hb0⟩
    case round =>
      obtain ⟨j, hs, hk, hj, rfl, hpm, hhd, hp, hb⟩ := hrel
      have HK := Lib.hid hk
      clear hk
      have hsz := hb.size
      by_cases hlt : j < es.length
      · have hi : (j : Int) < (es.length : Int) := by omega
        have hr : RHs wr w.heap.size A es := HR.out.below hb
        obtain ⟨b, off, rfl, hb0, d0, d1, d2, d3⟩ := hr.at_ hlt
        have htk : es.take (j + 1) = es.take j ++ [es[j]] := (List.take_succ_eq_append_getElem hlt)
        have hTlen : ((sortH (es.take j)).take n.toNat).length ≤ 90000 := by rw [List.length_take, sortH_length, List.length_take]; omega
        have hTn : ((sortH (es.take j)).take n.toNat).length ≤ n.toNat := by rw [List.length_take]; omega
        have hhl : hs.length ≤ 90000 := by rw [hpm.length_eq]; exact hTlen
        have hhn : hs.length ≤ n.toNat := by rw [hpm.length_eq]; exact hTn
        have HN : Hid (hs.length ≤ n.toNat) := Lib.hid hhn
        have HL : Hid (hs.length ≤ 90000) := Lib.hid hhl
        have HALL : Hid (∀ hs1 : List Hit, hs1.Perm (hs ++ [es[j]]) → (sortH (es.take (j + 1))).take n.toNat = (sortH hs1).take n.toNat) := Lib.hid fun hs1 hq => by
          rw [htk]
          exact top_all rfl (hq.trans (List.Perm.append_right _ hpm))
        clear hTlen hTn hhl hhn htk hpm
        generalize es[j] = y at *
        have hpa : Hp (wr.alloc (.cells #[.string y.word, .int .u32 y.weight, .bool y.gone, .int .i64 y.dist] 26)) w.heap.size gp hs := hp.below ((Below.refl wr.heap.size wr).alloc (Nat.le_refl _) _)
        have HB1 : Hid (Below w.heap.size w (wr.alloc (.cells #[.string y.word, .int .u32 y.weight, .bool y.gone, .int .i64 y.dist] 26))) := Lib.hid (hb.alloc hsz _)
        have hsz1 : w.heap.size ≤ (wr.alloc (.cells #[.string y.word, .int .u32 y.weight, .bool y.gone, .int .i64 y.dist] 26)).heap.size := by simp; omega
        have HPU := Lib.hid (push25 w.heap.size gp hs y _ hpa hhd (by have := HL.out; omega) hsz1)
        obtain ⟨a0, a1, a2, a3⟩ := box4_cells (heap_alloc_new wr (.cells #[.string y.word, .int .u32 y.weight, .bool y.gone, .int .i64 y.dist] 26))
        clear hpa hsz1 hp hhd
        simp only [Hit.agg] at HPU
        by_cases hgr : ((hs.length : Int) + 1) > n
        all_goals
          go_wp2_with (first
            | (go_at_call 25; refine HPU.out.mono ?_; rintro e w1 ⟨rfl, ⟨hs1, hq1, hh1, hp1⟩, hb1⟩; have hs1z := hb1.size; have hl1 : hs1.length = hs.length + 1 := (by rw [hq1.length_eq]; simp); obtain ⟨g, cap, c1, hrow, hgg, hbx⟩ := hp1.open_ (by omega); rw [hl1] at c1; have HP1 := Lib.hid hp1; have HH1 := Lib.hid hh1; have HQ1 := Lib.hid hq1; have HL1 := Lib.hid hl1; have HBB := Lib.hid hb1; clear hp1 hrow hbx hh1 hq1 hl1)
            | (go_at_call 26; refine (len26 _ _ _ _).mono ?_; rintro e w2 ⟨rfl, rfl⟩)
            | (go_at_call 27; refine (pop27 w.heap.size gp hs1 hs.length w1 HP1.out HH1.out HL1.out (by have := HL1.out; have := HL.out; omega) (by simp at hs1z; omega)).mono ?_; rintro e w3 ⟨⟨v, rfl⟩, ⟨hs2, hq2, hh2, hp2⟩, hb2⟩))
          go_roundg (es.length - (j + 1))
          case measure => rw [HK.out]; omega
        case rel =>
          refine ⟨j + 1, hs2, rfl, by omega, by go_num, ?_, hh2, hp2, (HB1.out.trans HBB.out).trans hb2⟩
          rw [HALL.out hs1 HQ1.out]
          have := HN.out
          have := HL1.out
          exact top_many (by omega) HH1.out hq2
        case rel =>
          refine ⟨j + 1, hs1, rfl, by omega, by go_num, ?_, HH1.out, HP1.out, HB1.out.trans HBB.out⟩
          rw [HALL.out hs1 HQ1.out]
          have := HN.out
          have := HL1.out
          exact top_few (by omega)
      · have e : es.take j = es := List.take_of_length_le (by omega)
        rw [e] at hpm
        have hls : hs.length ≤ 1000000 := by have := hpm.length_eq; rw [List.length_take, sortH_length] at this; omega
        have htop : sortH hs = topH n es := by
          unfold topH
          rw [sortH_congr hpm, sortH_self (take_sorted (sorted_sortH es) _)]
        obtain ⟨A2, c2, hc2, hr2⟩ := hp.read
        have HT := Lib.hid htop
        clear htop hpm e hp hhd
        go_wp2_with (go_at_call 11; refine (sort11o hs A2 c2 wr hls hr2).mono ?_; rintro e w1 ⟨v1, rfl, ho1, hb1⟩; rw [HT.out] at ho1; obtain ⟨A1, c1, rfl, hc1, hr1⟩ := OHs.form ho1)
        go_ret2
        exact ⟨_, rfl, own_more ho1 hsz, hb.trans (hb1.mono hsz)⟩
theorem top15 (n : Int) (es : List Hit) (A : Option Addr) (c : Nat) (w : World) (hl : es.length ≤ 90000) (h : RHs w w.heap.size A es) :
    Calls Try.prog 15 #[.int .i64 n, .slice A es.length c] w (RetTop w (topH n es) (if n < 0 then 2 else 0)) := (top15o n es A c w hl h).mono fun _ _ => RetTopO.ret
end Go.Proofs.Ytjpgcfcacfhmiaa
