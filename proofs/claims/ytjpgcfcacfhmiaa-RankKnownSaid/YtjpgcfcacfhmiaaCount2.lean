/- rank.Rank: how many hits are ahead of one; a hit of its parts (hit). -/
import Derived.Test.YtjpgcfcacfhmiaaCount
namespace Go.Proofs.Ytjpgcfcacfhmiaa
open Go.RowKit
set_option linter.unusedSimpArgs false
set_option linter.unusedVariables false
set_option linter.unnecessarySimpa false
set_option maxHeartbeats 2000000 in
theorem rank17 (es : List Hit) (A : Option Addr) (c : Nat) (x : Hit) (w : World) (hl : es.length ≤ 1000000) (h : RHs w w.heap.size A es) :
    Calls Try.prog 17 #[.slice A es.length c, x.agg] w fun e w' => e = .returned (.int .i64 (es.countP (lessH · x))) ∧ Below w.heap.size w w' := by
  have HO := Lib.hid fun a w => less10 a x w
  obtain ⟨xw, xt, xg, xd⟩ := x
  simp only [Hit.agg] at *
  have hx0 := heap_alloc_new w (.cells #[.string xw, .int .u32 xt, .bool xg, .int .i64 xd] 26)
  have hB := (Below.refl w.heap.size w).alloc (Nat.le_refl _) (.cells #[.string xw, .int .u32 xt, .bool xg, .int .i64 xd] 26)
  have hsB : (w.alloc (.cells #[.string xw, .int .u32 xt, .bool xg, .int .i64 xd] 26)).heap.size = w.heap.size + 1 := by simp
  obtain ⟨b0, b1, b2, b3⟩ := box4_cells hx0
  generalize hX : (⟨xw, xt, xg, xd⟩ : Hit) = X at *
  go_enter Try.func17, Try.ntmps17
  go_wp2
  generalize w.alloc (.cells #[.string xw, .int .u32 xt, .bool xg, .int .i64 xd] 26) = W at *
  go_loopg [4, 9] es.length (fun k n i wr => ∃ j : Nat, k = es.length - j ∧ j ≤ es.length ∧ i = .int .i64 j ∧ n = .int .i64 ((es.take j).countP (lessH · X)) ∧ Below (w.heap.size + 1) W wr)
  case atStart => exact ⟨0, rfl, Nat.zero_le _, rfl, rfl, Below.refl _ _⟩
  case round =>
    obtain ⟨j, hk, hj, rfl, rfl, hb⟩ := hrel
    have HK := Lib.hid hk
    clear hk
    have hszr := hb.size
    have hr : RHs wr w.heap.size A es := (h.below hB).below (hb.mono (by omega))
    by_cases hlt : j < es.length
    · have hi : (j : Int) < (es.length : Int) := by omega
      obtain ⟨b, off, rfl, hb0, d0, d1, d2, d3⟩ := hr.at_ hlt
      have hcl : (es.take j).countP (lessH · X) ≤ j := Nat.le_trans List.countP_le_length (by simp; omega)
      have k := (bcell hb).1
      have c0 := (k w.heap.size 0 (by omega)).trans b0
      have c1 := (k w.heap.size 1 (by omega)).trans b1
      have c2 := (k w.heap.size 2 (by omega)).trans b2
      have c3 := (k w.heap.size 3 (by omega)).trans b3
      have HY := Lib.hid (HO.out es[j])
      have HS : Hid ((es.take (j + 1)).countP (lessH · X) = (es.take j).countP (lessH · X) + (if lessH es[j] X = true then 1 else 0)) := Lib.hid (by
        cases hq : lessH es[j] X with
        | true => exact drop_hit (p := (lessH · X)) hlt hq
        | false => exact drop_miss (p := (lessH · X)) hlt hq)
      clear k
      generalize (es.take j).countP (lessH · X) = n0 at *
      generalize lessH es[j] X = q at *
      generalize es[j] = y at *
      have hlw : w.heap.size < wr.heap.size := by omega
      have a0 := (World.cell?_alloc_lt wr (.cells #[.string y.word, .int .u32 y.weight, .bool y.gone, .int .i64 y.dist] 26) ⟨w.heap.size, 0, none⟩ hlw).trans c0
      have a1 := (World.cell?_alloc_lt wr (.cells #[.string y.word, .int .u32 y.weight, .bool y.gone, .int .i64 y.dist] 26) ⟨w.heap.size, 1, none⟩ hlw).trans c1
      have a2 := (World.cell?_alloc_lt wr (.cells #[.string y.word, .int .u32 y.weight, .bool y.gone, .int .i64 y.dist] 26) ⟨w.heap.size, 2, none⟩ hlw).trans c2
      have a3 := (World.cell?_alloc_lt wr (.cells #[.string y.word, .int .u32 y.weight, .bool y.gone, .int .i64 y.dist] 26) ⟨w.heap.size, 3, none⟩ hlw).trans c3
      cases q
      all_goals
        go_wp2_with (first
          | (go_at_call 10; refine (HY.out _).mono ?_; rintro e w1 ⟨rfl, hb1⟩; have hs1 := hb1.size)
          | (go_at_call 28; refine (bit28 _ _).mono ?_; rintro e w2 ⟨rfl, rfl⟩; simp only [bitI, Bool.false_eq_true, if_false, if_true]))
        go_roundg (es.length - (j + 1))
        case rel => exact ⟨j + 1, rfl, by omega, by go_num, by rw [HS.out]; first | rfl | go_num, (hb.alloc (by omega) _).trans (hb1.mono (by simp; omega))⟩
        case measure => rw [HK.out]; omega
    · have e : es.take j = es := List.take_of_length_le (by omega)
      rw [e]
      go_wp2
      go_ret
      exact ⟨rfl, hB.trans (hb.mono (by omega))⟩
theorem hit21 (s : ByteArray) (wt ds : Int) (w : World) : Calls Try.prog 21 #[.string s, .int .u32 wt, .int .i64 ds] w fun e w' => e = .returned (⟨s, wt, false, ds⟩ : Hit).agg ∧ Below w.heap.size w w' := by
  go_enter Try.func21, Try.ntmps21
  go_wp2
  obtain ⟨c0, c1, c2, c3⟩ := box4_cells (heap_alloc_new w (.cells #[.string s, .int .u32 wt, .bool false, .int .i64 ds] 26))
  exact bodyPost_ret (v := (⟨s, wt, false, ds⟩ : Hit).agg) (by simp [results, Try.results21, go_sem, Hit.agg, c0, c1, c2, c3]) rfl ⟨rfl, (Below.refl _ _).alloc (Nat.le_refl _) _⟩
end Go.Proofs.Ytjpgcfcacfhmiaa
