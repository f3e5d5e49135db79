/- Lists of hits: are two alike (Same), how often a hit is there (many), how many are ahead of one (Rank), a hit of its parts (hit). -/
import Derived.Test.YtjpgcfcacfhmiaaOrd2
namespace Go.Proofs.Ytjpgcfcacfhmiaa
open Go.RowKit
set_option linter.unusedSimpArgs false
set_option linter.unusedVariables false
set_option linter.unnecessarySimpa false
theorem drop_hit {p : Hit → Bool} {es : List Hit} {j : Nat} (hlt : j < es.length) (h : p es[j] = true) : (es.take (j + 1)).countP p = (es.take j).countP p + 1 := by
  rw [List.take_succ_eq_append_getElem hlt, List.countP_append, List.countP_cons_of_pos h]; rfl
theorem drop_miss {p : Hit → Bool} {es : List Hit} {j : Nat} (hlt : j < es.length) (h : p es[j] = false) : (es.take (j + 1)).countP p = (es.take j).countP p := by
  rw [List.take_succ_eq_append_getElem hlt, List.countP_append, List.countP_cons_of_neg (by rw [h]; decide)]; rfl
def eqH (a b : Hit) : Bool := (a.word.toList == b.word.toList) && (a.weight == b.weight) && (a.gone == b.gone) && (a.dist == b.dist)
theorem eqH_iff {a b : Hit} : eqH a b = true ↔ a = b := by
  unfold eqH
  constructor
  · intro h
    simp only [Bool.and_eq_true, beq_iff_eq] at h
    obtain ⟨⟨⟨h1, h2⟩, h3⟩, h4⟩ := h
    cases a
    cases b
    simp only at h1 h2 h3 h4
    rw [ByteArray.toList_eq, ByteArray.toList_eq] at h1
    simp only [Hit.mk.injEq]
    exact ⟨ByteArray.ext (Array.ext' h1), h2, h3, h4⟩
  · rintro rfl; simp
set_option maxHeartbeats 2000000 in
theorem many12 (es : List Hit) (A : Option Addr) (c : Nat) (x : Hit) (w : World) (hl : es.length ≤ 1000000) (h : RHs w w.heap.size A es) :
    Calls Try.prog 12 #[.slice A es.length c, x.agg] w fun e w' => e = .returned (.int .i64 (es.countP (eqH · x))) ∧ Below w.heap.size w w' := by
  simp only [Hit.agg]
  have hx0 := heap_alloc_new w (.cells #[.string x.word, .int .u32 x.weight, .bool x.gone, .int .i64 x.dist] 26)
  have hB := (Below.refl w.heap.size w).alloc (Nat.le_refl _) (.cells #[.string x.word, .int .u32 x.weight, .bool x.gone, .int .i64 x.dist] 26)
  have hsB : (w.alloc (.cells #[.string x.word, .int .u32 x.weight, .bool x.gone, .int .i64 x.dist] 26)).heap.size = w.heap.size + 1 := by simp
  obtain ⟨b0, b1, b2, b3⟩ := box4_cells hx0
  go_enter Try.func12, Try.ntmps12
  go_wp2
  generalize w.alloc (.cells #[.string x.word, .int .u32 x.weight, .bool x.gone, .int .i64 x.dist] 26) = W at *
  go_loopg [5, 6] es.length (fun k n i wr => ∃ j : Nat, k = es.length - j ∧ j ≤ es.length ∧ i = .int .i64 j ∧ n = .int .i64 ((es.take j).countP (eqH · x)) ∧ Below (w.heap.size + 1) W wr)
  case atStart => exact ⟨0, rfl, Nat.zero_le _, rfl, rfl, Below.refl _ _⟩
  case round =>
    obtain ⟨j, hk, hj, rfl, rfl, hb⟩ := hrel
    have HK := Lib.hid hk
    clear hk
    have hr : RHs wr w.heap.size A es := (h.below hB).below (hb.mono (by omega))
    have k := (bcell hb).1
    have c0 := (k w.heap.size 0 (by omega)).trans b0
    have c1 := (k w.heap.size 1 (by omega)).trans b1
    have c2 := (k w.heap.size 2 (by omega)).trans b2
    have c3 := (k w.heap.size 3 (by omega)).trans b3
    clear k
    by_cases hlt : j < es.length
    · obtain ⟨b, off, rfl, hb0, d0, d1, d2, d3⟩ := hr.at_ hlt
      have hcl : (es.take j).countP (eqH · x) ≤ j := Nat.le_trans List.countP_le_length (by simp; omega)
      have hi : (j : Int) < (es.length : Int) := by omega
      by_cases hq : eqH es[j] x = true
      · have HS := Lib.hid (drop_hit (p := (eqH · x)) hlt hq)
        have he := eqH_iff.1 hq
        generalize (es.take j).countP (eqH · x) = n0 at *
        rw [he] at d0 d1 d2 d3
        clear hq he
        go_wp2
        go_quiet (fail)
        go_wp2
        go_roundg (es.length - (j + 1))
        case rel => exact ⟨j + 1, rfl, by omega, by go_num, by rw [HS.out]; go_num, below_right hb nq⟩
        case measure => rw [HK.out]; omega
      · have hqf : eqH es[j] x = false := by simpa using hq
        have HS := Lib.hid (drop_miss (p := (eqH · x)) hlt hqf)
        have hor : (es[j].word.toList == x.word.toList) = false ∨ (es[j].weight == x.weight) = false ∨ (es[j].gone == x.gone) = false ∨ (es[j].dist == x.dist) = false := by
          unfold eqH at hqf
          cases h1 : es[j].word.toList == x.word.toList <;> cases h2 : es[j].weight == x.weight <;> cases h3 : es[j].gone == x.gone <;> cases h4 : es[j].dist == x.dist <;> simp_all
        generalize (es.take j).countP (eqH · x) = n0 at *
        generalize es[j] = y at *
        clear hq hqf
        rcases hor with h1 | h1 | h1 | h1
        all_goals
          go_wp2
          go_quiet (fail)
          go_wp2
        all_goals
          go_roundg (es.length - (j + 1))
          case rel => exact ⟨j + 1, rfl, by omega, by go_num, by rw [HS.out], below_right hb nq⟩
          case measure => rw [HK.out]; omega
    · have e : es.take j = es := List.take_of_length_le (by omega)
      rw [e]
      go_wp2
      go_ret
      exact ⟨rfl, hB.trans (hb.mono (by omega))⟩
set_option maxHeartbeats 1000000 in
theorem same13 (es : List Hit) (A B : Option Addr) (c d : Nat) (w : World) (hl : es.length ≤ 1000000) (h : RHs w w.heap.size A es) (h' : RHs w w.heap.size B es) :
    Calls Try.prog 13 #[.slice A es.length c, .slice B es.length d] w fun e w' => e = .returned (.bool true) ∧ Below w.heap.size w w' := by
  have hne : ((es.length : Int) != (es.length : Int)) = false := by simp
  go_enter Try.func13, Try.ntmps13
  go_wp2
  go_loopw [5] (fun i wr => ∃ j : Nat, j ≤ es.length ∧ i = .int .i64 j ∧ Below w.heap.size w wr) (fun i _ => es.length - (intOf i).toNat)
  case atStart => exact ⟨0, Nat.zero_le _, rfl, Below.refl _ _⟩
  case round =>
    obtain ⟨j, hj, rfl, hb⟩ := hrel
    have hr : RHs wr w.heap.size A es := h.below hb
    have hr' : RHs wr w.heap.size B es := h'.below hb
    by_cases hlt : j < es.length
    · have hi : (j : Int) < (es.length : Int) := by omega
      obtain ⟨b, off, rfl, hb0, h0, h1, h2, h3⟩ := hr.at_ hlt
      obtain ⟨b', off', rfl, hb0', h0', h1', h2', h3'⟩ := hr'.at_ hlt
      go_wp2
      go_quiet (fail)
      go_wp2
      go_roundw
      case rel => exact ⟨j + 1, by omega, by go_num, below_right hb nq⟩
      case measure => simp [intOf]; omega
    · go_wp2
      go_ret
      exact ⟨rfl, hb⟩


set_option maxHeartbeats 2000000 in
theorem refRank18 (es : List Hit) (A : Option Addr) (c : Nat) (x : Hit) (w : World) (hl : es.length ≤ 1000000) (h : RHs w w.heap.size A es) :
    Calls Try.prog 18 #[.slice A es.length c, x.agg] w fun e w' => e = .returned (.int .i64 (es.countP (lessH · x))) ∧ Below w.heap.size w w' := by
  have HO := Lib.hid fun a w => refLess19 a x w
  obtain ⟨xw, xt, xg, xd⟩ := x
  simp only [Hit.agg] at *
  have hx0 := heap_alloc_new w (.cells #[.string xw, .int .u32 xt, .bool xg, .int .i64 xd] 26)
  have hB := (Below.refl w.heap.size w).alloc (Nat.le_refl _) (.cells #[.string xw, .int .u32 xt, .bool xg, .int .i64 xd] 26)
  have hsB : (w.alloc (.cells #[.string xw, .int .u32 xt, .bool xg, .int .i64 xd] 26)).heap.size = w.heap.size + 1 := by simp
  obtain ⟨b0, b1, b2, b3⟩ := box4_cells hx0
  generalize hX : (⟨xw, xt, xg, xd⟩ : Hit) = X at *
  go_enter Try.func18, Try.ntmps18
  go_wp2
  generalize w.alloc (.cells #[.string xw, .int .u32 xt, .bool xg, .int .i64 xd] 26) = W at *
  go_loopg [5, 6] es.length (fun k n i wr => ∃ j : Nat, k = es.length - j ∧ j ≤ es.length ∧ i = .int .i64 j ∧ n = .int .i64 ((es.take j).countP (lessH · X)) ∧ Below (w.heap.size + 1) W wr)
  case atStart => exact ⟨0, rfl, Nat.zero_le _, rfl, rfl, Below.refl _ _⟩
  case round =>
    obtain ⟨j, hk, hj, rfl, rfl, hb⟩ := hrel
    have HK := Lib.hid hk
    clear hk
    have hszr := hb.size
    have hr : RHs wr w.heap.size A es := (h.below hB).below (hb.mono (by omega))
    by_cases hlt : j < es.length
    · have hi : (j : Int) < (es.length : Int) := by omega
      obtain ⟨b, off, rfl, hb0, d0, d1, d2, d3⟩ := hr.at_ hlt
      have hcl : (es.take j).countP (lessH · X) ≤ j := Nat.le_trans List.countP_le_length (by simp; omega)
      have hbd : Below (w.heap.size + 1) W wr.drew := hb.drew
      have mk : ∀ w', Below wr.heap.size wr w' → (w'.cell? ⟨b, off + j * 4, none⟩ = some (.string (es[j]).word) ∧ w'.cell? ⟨b, off + j * 4 + 1, none⟩ = some (.int .u32 (es[j]).weight) ∧ w'.cell? ⟨b, off + j * 4 + 2, none⟩ = some (.bool (es[j]).gone) ∧ w'.cell? ⟨b, off + j * 4 + 3, none⟩ = some (.int .i64 (es[j]).dist) ∧ w'.cell? ⟨w.heap.size, 0, none⟩ = some (.string xw) ∧ w'.cell? ⟨w.heap.size, 1, none⟩ = some (.int .u32 xt) ∧ w'.cell? ⟨w.heap.size, 2, none⟩ = some (.bool xg) ∧ w'.cell? ⟨w.heap.size, 3, none⟩ = some (.int .i64 xd)) := fun w' hb' =>
        have k := (bcell (hb.trans (hb'.mono (by omega)))).1
        have k' := (bcell hb').1
        ⟨(k' _ _ (by omega)).trans d0, (k' _ _ (by omega)).trans d1, (k' _ _ (by omega)).trans d2, (k' _ _ (by omega)).trans d3, (k _ _ (by omega)).trans b0, (k _ _ (by omega)).trans b1, (k _ _ (by omega)).trans b2, (k _ _ (by omega)).trans b3⟩
      have MK := Lib.hid mk
      have HY := Lib.hid (HO.out es[j])
      have HS : Hid ((es.take (j + 1)).countP (lessH · X) = (es.take j).countP (lessH · X) + (if lessH es[j] X = true then 1 else 0)) := Lib.hid (by
        cases hq : lessH es[j] X with
        | true => exact drop_hit (p := (lessH · X)) hlt hq
        | false => exact drop_miss (p := (lessH · X)) hlt hq)
      clear mk d0 d1 d2 d3
      generalize (es.take j).countP (lessH · X) = n0 at *
      generalize lessH es[j] X = q at *
      generalize es[j] = y at *
      go_wp2
      go_region_held3 (fun w' => w'.cell? ⟨b, off + j * 4, none⟩ = some (.string y.word) ∧ w'.cell? ⟨b, off + j * 4 + 1, none⟩ = some (.int .u32 y.weight) ∧ w'.cell? ⟨b, off + j * 4 + 2, none⟩ = some (.bool y.gone) ∧ w'.cell? ⟨b, off + j * 4 + 3, none⟩ = some (.int .i64 y.dist) ∧ w'.cell? ⟨w.heap.size, 0, none⟩ = some (.string xw) ∧ w'.cell? ⟨w.heap.size, 1, none⟩ = some (.int .u32 xt) ∧ w'.cell? ⟨w.heap.size, 2, none⟩ = some (.bool xg) ∧ w'.cell? ⟨w.heap.size, 3, none⟩ = some (.int .i64 xd))
        (first | exact MK.out _ ((Below.refl _ _).drew) | exact MK.out _ hcum)
        (first | (go_at_call 19; refine (HY.out _).mono ?_; rintro e w1 ⟨rfl, hb1⟩; have hcum : Below wr.heap.size wr w1 := ((Below.refl wr.heap.size wr).drew).trans hb1))
      cases q
      all_goals
        go_wp2
        go_roundg (es.length - (j + 1))
        case rel => exact ⟨j + 1, rfl, by omega, by go_num, by rw [HS.out]; first | rfl | go_num, hb.trans (hcum.mono (by omega))⟩
        case measure => rw [HK.out]; omega
    · have e : es.take j = es := List.take_of_length_le (by omega)
      rw [e]
      go_wp2
      go_ret
      exact ⟨rfl, hB.trans (hb.mono (by omega))⟩
end Go.Proofs.Ytjpgcfcacfhmiaa
