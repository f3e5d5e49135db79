/- RankOrder's law, walked: the stage's theorem. -/
import Derived.Test.YtjpgcfcacfhmiaaJoins
import Derived.Test.YtjpgcfcacfhmiaaLits
import Derived.Deep.RegionLaw
import Derived.Test.YtjpgcfcacfhmiaaBox4
import Derived.Test.YtjpgcfcacfhmiaaDrawn
namespace Go.Proofs.Ytjpgcfcacfhmiaa
open Go.RowKit
set_option linter.unusedSimpArgs false
set_option linter.unusedVariables false
set_option linter.unnecessarySimpa false
theorem less10' {a b : Hit} {q : Bool} (hq : lessH a b = q) (w : World) : Calls Try.prog 10 #[.agg #[.string a.word, .int .u32 a.weight, .bool a.gone, .int .i64 a.dist], .agg #[.string b.word, .int .u32 b.weight, .bool b.gone, .int .i64 b.dist]] w fun e w' => e = .returned (.bool q) ∧ Below w.heap.size w w' := by
  subst hq
  exact less10 a b w
theorem order_cases (p q r : Hit) : (lessH p q = false ∧ lessH q p = false ∧ p = q) ∨ (lessH p q = true ∧ lessH q p = false ∧ lessH q r = false ∧ eqH p q = false) ∨
    (lessH p q = true ∧ lessH q p = false ∧ lessH q r = true ∧ lessH p r = true ∧ eqH p q = false) ∨ (lessH p q = false ∧ lessH q p = true ∧ eqH p q = false) := by
  have hne : lessH p q = true ∨ lessH q p = true → eqH p q = false := fun h => by
    cases he : eqH p q with
    | false => rfl
    | true =>
      have e := eqH_iff.1 he
      subst e
      rw [lt_irrefl] at h
      simp at h
  cases h1 : lessH p q with
  | true =>
    have h2 : lessH q p = false := by
      cases h2 : lessH q p with
      | false => rfl
      | true => have := lt_trans h1 h2; rw [lt_irrefl] at this; cases this
    cases h3 : lessH q r with
    | true => exact .inr (.inr (.inl ⟨rfl, h2, rfl, lt_trans h1 h3, hne (.inl h1)⟩))
    | false => exact .inr (.inl ⟨rfl, h2, rfl, hne (.inl h1)⟩)
  | false =>
    cases h2 : lessH q p with
    | true => exact .inr (.inr (.inr ⟨rfl, rfl, hne (.inr h2)⟩))
    | false => exact .inl ⟨rfl, rfl, lt_total h1 h2⟩
theorem many12' {es : List Hit} {A : Option Addr} {n c : Nat} {x : Hit} {cnt : Nat} {w : World} (hn : n = es.length) (hcnt : es.countP (eqH · x) = cnt) (hl : es.length ≤ 1000000) (h : RHs w w.heap.size A es) :
    Calls Try.prog 12 #[.slice A n c, .agg #[.string x.word, .int .u32 x.weight, .bool x.gone, .int .i64 x.dist]] w fun e w' => e = .returned (.int .i64 cnt) ∧ Below w.heap.size w w' := by
  subst hn
  subst hcnt
  exact many12 es A c x w hl h
theorem eq_none {p q : Hit} (hqf : eqH p q = false) : (p.word.toList == q.word.toList) = false ∨ (p.weight == q.weight) = false ∨ (p.gone == q.gone) = false ∨ (p.dist == q.dist) = false := by
  unfold eqH at hqf
  cases h1 : p.word.toList == q.word.toList <;> cases h2 : p.weight == q.weight <;> cases h3 : p.gone == q.gone <;> cases h4 : p.dist == q.dist <;> simp_all
def three (x y z : Hit) : Array Value := #[.string x.word, .int .u32 x.weight, .bool x.gone, .int .i64 x.dist, .string y.word, .int .u32 y.weight, .bool y.gone, .int .i64 y.dist, .string z.word, .int .u32 z.weight, .bool z.gone, .int .i64 z.dist]
set_option maxHeartbeats 40000000 in
set_option maxRecDepth 100000 in
theorem order3 (x y z : Hit) (ds : List (Dra × Int)) (B : Option Addr) (d : Nat) (w : World) (hd : ds.length ≤ 9223372036854775807) (h' : RDs w w.heap.size B ds) :
    Calls Try.prog 3 #[.agg #[.string x.word, .int .u32 x.weight, .bool x.gone, .int .i64 x.dist, .string y.word, .int .u32 y.weight, .bool y.gone, .int .i64 y.dist, .string z.word, .int .u32 z.weight, .bool z.gone, .int .i64 z.dist], .slice B ds.length d] w fun e w' => e = .returned (.bool true) ∧ Below w.heap.size w w' := by
  have HD := Lib.hid h'
  have HW := Lib.hid works8
  clear h'
  go_enter Try.func3, Try.ntmps3
  go_upto_region 3 with (go_at_call 8; refine (HW.out _).mono ?_; rintro e w1 ⟨rfl, hb1⟩)
  have hbw : Below w.heap.size w w1 := ((Below.refl _ _).alloc (Nat.le_refl _) _).trans (hb1.mono (by simp))
  have hbk := (hb1.block w.heap.size (by simp)).trans (heap_alloc_new w (.cells #[.string x.word, .int .u32 x.weight, .bool x.gone, .int .i64 x.dist, .string y.word, .int .u32 y.weight, .bool y.gone, .int .i64 y.dist, .string z.word, .int .u32 z.weight, .bool z.gone, .int .i64 z.dist] 27))
  have hg0 : w.heap.size < w1.heap.size := (Array.getElem?_eq_some_iff.1 hbk).1
  have hgw : w.heap.size ≤ w1.heap.size := by omega
  obtain ⟨g0, hg⟩ : ∃ g0, w.heap.size = g0 := ⟨_, rfl⟩
  have mk : ∀ w' : World, Below w1.heap.size w1 w' → (Below w1.heap.size w1 w' ∧ w'.cell? ⟨g0, 0, none⟩ = some (.string x.word) ∧ w'.cell? ⟨g0, 1, none⟩ = some (.int .u32 x.weight) ∧ w'.cell? ⟨g0, 2, none⟩ = some (.bool x.gone) ∧ w'.cell? ⟨g0, 3, none⟩ = some (.int .i64 x.dist) ∧ w'.cell? ⟨g0, 4, none⟩ = some (.string y.word) ∧ w'.cell? ⟨g0, 5, none⟩ = some (.int .u32 y.weight) ∧ w'.cell? ⟨g0, 6, none⟩ = some (.bool y.gone) ∧ w'.cell? ⟨g0, 7, none⟩ = some (.int .i64 y.dist) ∧ w'.cell? ⟨g0, 8, none⟩ = some (.string z.word) ∧ w'.cell? ⟨g0, 9, none⟩ = some (.int .u32 z.weight) ∧ w'.cell? ⟨g0, 10, none⟩ = some (.bool z.gone) ∧ w'.cell? ⟨g0, 11, none⟩ = some (.int .i64 z.dist)) := fun w' hw => by
    have hk : w'.heap[g0]? = some (.cells #[.string x.word, .int .u32 x.weight, .bool x.gone, .int .i64 x.dist, .string y.word, .int .u32 y.weight, .bool y.gone, .int .i64 y.dist, .string z.word, .int .u32 z.weight, .bool z.gone, .int .i64 z.dist] 27 (0, 0)) := (hw.block g0 (by omega)).trans (by rw [← hg]; exact hbk)
    exact ⟨hw, cell_of_row _ _ 0 _ 27 (0, 0) hk, cell_of_row _ _ 1 _ 27 (0, 0) hk, cell_of_row _ _ 2 _ 27 (0, 0) hk, cell_of_row _ _ 3 _ 27 (0, 0) hk, cell_of_row _ _ 4 _ 27 (0, 0) hk, cell_of_row _ _ 5 _ 27 (0, 0) hk, cell_of_row _ _ 6 _ 27 (0, 0) hk, cell_of_row _ _ 7 _ 27 (0, 0) hk, cell_of_row _ _ 8 _ 27 (0, 0) hk, cell_of_row _ _ 9 _ 27 (0, 0) hk, cell_of_row _ _ 10 _ 27 (0, 0) hk, cell_of_row _ _ 11 _ 27 (0, 0) hk⟩
  have MK := Lib.hid mk
  have HG := Lib.hid hg
  have hd1 : ∀ w' : World, Below w1.heap.size w1 w' → RDs w' w'.heap.size B ds := fun w' hw => (HD.out.below (hbw.trans (hw.mono hgw))).more (by have := hw.size; omega)
  have HD1 := Lib.hid hd1
  clear mk hd1 hbk hb1 HD
  go_cut [5] (fun v5 wx => ∃ own : List Hit, 3 ≤ own.length ∧ own.length ≤ 43 ∧ OHs wx w.heap.size v5 own ∧ Below w.heap.size w wx)
  case first =>
    rw [hg]
    clear hg
    go_region_held3 (fun w' : World => Below w1.heap.size w1 w' ∧ w'.cell? ⟨g0, 0, none⟩ = some (.string x.word) ∧ w'.cell? ⟨g0, 1, none⟩ = some (.int .u32 x.weight) ∧ w'.cell? ⟨g0, 2, none⟩ = some (.bool x.gone) ∧ w'.cell? ⟨g0, 3, none⟩ = some (.int .i64 x.dist) ∧ w'.cell? ⟨g0, 4, none⟩ = some (.string y.word) ∧ w'.cell? ⟨g0, 5, none⟩ = some (.int .u32 y.weight) ∧ w'.cell? ⟨g0, 6, none⟩ = some (.bool y.gone) ∧ w'.cell? ⟨g0, 7, none⟩ = some (.int .i64 y.dist) ∧ w'.cell? ⟨g0, 8, none⟩ = some (.string z.word) ∧ w'.cell? ⟨g0, 9, none⟩ = some (.int .u32 z.weight) ∧ w'.cell? ⟨g0, 10, none⟩ = some (.bool z.gone) ∧ w'.cell? ⟨g0, 11, none⟩ = some (.int .i64 z.dist))
      ((refine MK.out _ ?_; with_reducible first
        | exact hcum
        | exact (Below.refl _ _).drew
        | exact hcum.alloc hcum.size _
        | exact ((Below.refl _ _).alloc (Nat.le_refl _) _).drew))
      (first
        | (go_at_call 9; refine (hits9 ds B d 40 _ hd (by decide) (HD1.out _ (by with_reducible first | exact (Below.refl _ _).drew | exact ((Below.refl _ _).alloc (Nat.le_refl _) _).drew))).mono ?_; rintro e w2 ⟨hs, v, hsl, rfl, ho2, hb2⟩; first
            | (have hcum := keepL (by with_reducible exact ((Below.refl _ _).drew : Below w1.heap.size w1 _)) hb2; have ho3 := own_more ho2 (Nat.le_refl w1.heap.size))
            | (have hcum := keepL (by with_reducible exact (((Below.refl _ _).alloc (Nat.le_refl _) _).drew : Below w1.heap.size w1 _)) hb2; have ho3 := own_more ho2 (show w1.heap.size ≤ _ by simp)))
        | (refine step_append_blk rfl _ _ rfl w1.heap.size v hs [x, y, z] rfl (by first | exact ho3 | exact own_below ho3 ((Below.refl _ _).alloc (Nat.le_refl _) _)) _ _ rfl rfl (by first | (simp only [heap_drew, heap_get, World.size_alloc]; simp [hcs, Hit.cells, Nat.add_assoc]; done) | (refine (hb2.block _ (by simp)).trans ?_; simp only [heap_drew, heap_get, World.size_alloc]; simp [hcs, Hit.cells, Nat.add_assoc]; done)) (by simp; omega) (by have := hcum.size; (try simp); omega) ?_; intro v9 w9 hown9 hg9 hb9; first | (have hcum := hcum.trans hb9) | (have hcum := (hcum.alloc hcum.size _).trans hb9)))
    all_goals
      have hfin : ∃ own : List Hit, 3 ≤ own.length ∧ own.length ≤ 43 ∧ OHs w9 w.heap.size v9 own ∧ Below w.heap.size w w9 := ⟨hs ++ [x, y, z], by simp, by simp; omega, own_more hown9 hgw, hbw.trans (hcum.mono hgw)⟩
      have HF := Lib.hid hfin
      have hg := HG.out
      clear hfin hown9 hg9 hb9 hcum ho3 ho2 hb2
      subst hg
      go_wp2
      go_meet
      exact HF.out
  case rest =>
    obtain ⟨own, h3, h43, hown, hb⟩ := hcut
    clear HG HD1 MK hg hgw hg0 hbw
    clear w1
    obtain ⟨A5, c5, rfl, hc5, hr5⟩ := OHs.form hown
    have HR5 := Lib.hid hr5
    clear hown hr5
    have hszc := hb.size
    go_wp2
    go_loopg [6] own.length (fun k v6 wr => ∃ i : Nat, k = own.length - i ∧ i ≤ own.length ∧ v6 = .int .i64 i ∧ Below wc.heap.size wc wr)
    case atStart => exact ⟨0, rfl, Nat.zero_le _, rfl, Below.refl _ _⟩
    case round =>
      obtain ⟨i, hk, hi, rfl, hbr⟩ := hrel
      have HK := Lib.hid hk
      clear hk
      have hrr : RHs wr wr.heap.size A5 own := (HR5.out.below hbr).more hbr.size
      by_cases hlt : i < own.length
      · obtain ⟨m1, hm1⟩ : ∃ m1, (i * 7 + 1) % own.length = m1 := ⟨_, rfl⟩
        obtain ⟨m2, hm2⟩ : ∃ m2, (i * 3 + 2) % own.length = m2 := ⟨_, rfl⟩
        have hm1l : m1 < own.length := by rw [← hm1]; exact Nat.mod_lt _ (by omega)
        have hm2l : m2 < own.length := by rw [← hm2]; exact Nat.mod_lt _ (by omega)
        obtain ⟨b, off, rfl, hb0, c0, c1, c2, c3⟩ := hrr.at_ hlt
        obtain ⟨b', off', e', hb1, d0, d1, d2, d3⟩ := hrr.at_ hm1l
        injection e' with e'
        injection e' with e1 e2
        subst e1
        subst e2
        obtain ⟨b', off', e', hb2, f0, f1, f2, f3⟩ := hrr.at_ hm2l
        injection e' with e'
        injection e' with e1 e2
        subst e1
        subst e2
        have hw1 : wrap64 ((i : Int) * 7) = (i : Int) * 7 := by unfold wrap64; omega
        have hw2 : wrap64 ((i : Int) * 7 + 1) = (i : Int) * 7 + 1 := by unfold wrap64; omega
        have hw3 : wrap64 ((i : Int) * 3) = (i : Int) * 3 := by unfold wrap64; omega
        have hw4 : wrap64 ((i : Int) * 3 + 2) = (i : Int) * 3 + 2 := by unfold wrap64; omega
        have hv1 : IntKind.i64.wrap ((i : Int) * 7) = (i : Int) * 7 := IntWalk.i64_in _ (by omega)
        have hv2 : IntKind.i64.wrap ((i : Int) * 7 + 1) = (i : Int) * 7 + 1 := IntWalk.i64_in _ (by omega)
        have hv3 : IntKind.i64.wrap ((i : Int) * 3) = (i : Int) * 3 := IntWalk.i64_in _ (by omega)
        have hv4 : IntKind.i64.wrap ((i : Int) * 3 + 2) = (i : Int) * 3 + 2 := IntWalk.i64_in _ (by omega)
        have hx1 : ((i : Int) * 7 + 1).tmod (own.length : Int) = (m1 : Int) := by rw [← hm1, Int.tmod_eq_emod_of_nonneg (by omega), Int.natCast_emod, Int.natCast_add, Int.natCast_mul]; rfl
        have hx2 : ((i : Int) * 3 + 2).tmod (own.length : Int) = (m2 : Int) := by rw [← hm2, Int.tmod_eq_emod_of_nonneg (by omega), Int.natCast_emod, Int.natCast_add, Int.natCast_mul]; rfl
        have hii : (i : Int) < (own.length : Int) := by omega
        have hi0 : (0 : Int) ≤ (i : Int) := by omega
        have hmi1 : (m1 : Int) < (own.length : Int) := by omega
        have hmi10 : (0 : Int) ≤ (m1 : Int) := by omega
        have hmi2 : (m2 : Int) < (own.length : Int) := by omega
        have hmi20 : (0 : Int) ≤ (m2 : Int) := by omega
        have hl0 : own ≠ [] := fun e => by rw [e] at h3; simp at h3
        have HM1 := Lib.hid hm1
        have HM2 := Lib.hid hm2
        have HRR := Lib.hid hrr
        clear hm1 hm2 hrr
        generalize own[i] = p at *
        generalize own[m1] = q at *
        generalize own[m2] = r at *
        have mk : ∀ w' : World, Below wr.heap.size wr w' → (Below wr.heap.size wr w' ∧ w'.cell? ⟨b, off + i * 4, none⟩ = some (.string p.word) ∧ w'.cell? ⟨b, off + i * 4 + 1, none⟩ = some (.int .u32 p.weight) ∧ w'.cell? ⟨b, off + i * 4 + 2, none⟩ = some (.bool p.gone) ∧ w'.cell? ⟨b, off + i * 4 + 3, none⟩ = some (.int .i64 p.dist) ∧ w'.cell? ⟨b, off + m1 * 4, none⟩ = some (.string q.word) ∧ w'.cell? ⟨b, off + m1 * 4 + 1, none⟩ = some (.int .u32 q.weight) ∧ w'.cell? ⟨b, off + m1 * 4 + 2, none⟩ = some (.bool q.gone) ∧ w'.cell? ⟨b, off + m1 * 4 + 3, none⟩ = some (.int .i64 q.dist) ∧ w'.cell? ⟨b, off + m2 * 4, none⟩ = some (.string r.word) ∧ w'.cell? ⟨b, off + m2 * 4 + 1, none⟩ = some (.int .u32 r.weight) ∧ w'.cell? ⟨b, off + m2 * 4 + 2, none⟩ = some (.bool r.gone) ∧ w'.cell? ⟨b, off + m2 * 4 + 3, none⟩ = some (.int .i64 r.dist)) := fun w' hw => by
          have k := (bcell hw).1
          exact ⟨hw, (k _ _ hb0).trans c0, (k _ _ hb0).trans c1, (k _ _ hb0).trans c2, (k _ _ hb0).trans c3, (k _ _ hb0).trans d0, (k _ _ hb0).trans d1, (k _ _ hb0).trans d2, (k _ _ hb0).trans d3, (k _ _ hb0).trans f0, (k _ _ hb0).trans f1, (k _ _ hb0).trans f2, (k _ _ hb0).trans f3⟩
        have MK := Lib.hid mk
        clear mk
        go_upto_region 7 with (fail)
        go_cut [7, 8, 9] (fun v7 v8 v9 wx => ∃ pa pb pc : Nat, v7 = .pointer (some ⟨pa, 0, none⟩) ∧ v8 = .pointer (some ⟨pb, 0, none⟩) ∧ v9 = .pointer (some ⟨pc, 0, none⟩) ∧ B4 wx pa p ∧ B4 wx pb q ∧ B4 wx pc r ∧ Below wr.heap.size wr wx)
        case first =>
          go_region_held3 (fun w' : World => Below wr.heap.size wr w' ∧ w'.cell? ⟨b, off + i * 4, none⟩ = some (.string p.word) ∧ w'.cell? ⟨b, off + i * 4 + 1, none⟩ = some (.int .u32 p.weight) ∧ w'.cell? ⟨b, off + i * 4 + 2, none⟩ = some (.bool p.gone) ∧ w'.cell? ⟨b, off + i * 4 + 3, none⟩ = some (.int .i64 p.dist) ∧ w'.cell? ⟨b, off + m1 * 4, none⟩ = some (.string q.word) ∧ w'.cell? ⟨b, off + m1 * 4 + 1, none⟩ = some (.int .u32 q.weight) ∧ w'.cell? ⟨b, off + m1 * 4 + 2, none⟩ = some (.bool q.gone) ∧ w'.cell? ⟨b, off + m1 * 4 + 3, none⟩ = some (.int .i64 q.dist) ∧ w'.cell? ⟨b, off + m2 * 4, none⟩ = some (.string r.word) ∧ w'.cell? ⟨b, off + m2 * 4 + 1, none⟩ = some (.int .u32 r.weight) ∧ w'.cell? ⟨b, off + m2 * 4 + 2, none⟩ = some (.bool r.gone) ∧ w'.cell? ⟨b, off + m2 * 4 + 3, none⟩ = some (.int .i64 r.dist))
            ((refine MK.out _ ?_; with_reducible first
              | exact (Below.refl _ _).drew
              | exact ((Below.refl _ _).alloc (Nat.le_refl _) _).drew
              | exact (((Below.refl _ _).alloc (Nat.le_refl _) _).alloc (by simp) _).drew
              | exact ((((Below.refl _ _).alloc (Nat.le_refl _) _).alloc (by simp) _).alloc (by simp; omega) _).drew))
            (fail)
          all_goals
            go_wp2
            go_meet
            refine ⟨_, _, _, rfl, rfl, rfl, ?_, ?_, ?_, ((((Below.refl _ _).alloc (Nat.le_refl _) _).alloc (by simp) _).alloc (by simp; omega) _).drew⟩
            all_goals
              unfold B4
              simp only [heap_drew, heap_get, World.size_alloc]
              simp [Nat.add_assoc]
        case rest =>
          obtain ⟨pa, pb, pc, rfl, rfl, rfl, ba, bb, bc, hbx⟩ := hcut
          have hbcum := hbr.trans (hbx.mono hbr.size)
          have HBC := Lib.hid hbcum
          clear hbcum hbx c0 c1 c2 c3 d0 d1 d2 d3 f0 f1 f2 f3 hw1 hw2 hw3 hw4 hv1 hv2 hv3 hv4 hx1 hx2 hmi1 hmi10 hmi2 hmi20 hl0 HM1 HM2 hm1l hm2l MK HRR
          have mk2 : ∀ w' : World, Below wc.heap.size wc w' → (Below wc.heap.size wc w' ∧ w'.cell? ⟨pa, 0, none⟩ = some (.string p.word) ∧ w'.cell? ⟨pa, 1, none⟩ = some (.int .u32 p.weight) ∧ w'.cell? ⟨pa, 2, none⟩ = some (.bool p.gone) ∧ w'.cell? ⟨pa, 3, none⟩ = some (.int .i64 p.dist) ∧ w'.cell? ⟨pb, 0, none⟩ = some (.string q.word) ∧ w'.cell? ⟨pb, 1, none⟩ = some (.int .u32 q.weight) ∧ w'.cell? ⟨pb, 2, none⟩ = some (.bool q.gone) ∧ w'.cell? ⟨pb, 3, none⟩ = some (.int .i64 q.dist) ∧ w'.cell? ⟨pc, 0, none⟩ = some (.string r.word) ∧ w'.cell? ⟨pc, 1, none⟩ = some (.int .u32 r.weight) ∧ w'.cell? ⟨pc, 2, none⟩ = some (.bool r.gone) ∧ w'.cell? ⟨pc, 3, none⟩ = some (.int .i64 r.dist)) := fun w' hw => by
            obtain ⟨a0, a1, a2, a3⟩ := (ba.below hw).cells
            obtain ⟨b0, b1, b2, b3⟩ := (bb.below hw).cells
            obtain ⟨c0, c1, c2, c3⟩ := (bc.below hw).cells
            exact ⟨hw, a0, a1, a2, a3, b0, b1, b2, b3, c0, c1, c2, c3⟩
          have MK2 := Lib.hid mk2
          clear mk2 ba bb bc
          rcases order_cases p q r with ⟨h1, h2, hne⟩ | ⟨h1, h2, h3, hne⟩ | ⟨h1, h2, h3, h4, hne⟩ | ⟨h1, h2, hne⟩
          · subst hne
            have HA := Lib.hid h1
            have HB := Lib.hid h1
            clear h1 h2
            go_upto_region 8 with (fail)
            refine wp_region_held_drew (S := (fun w' : World => Below wc.heap.size wc w' ∧ w'.cell? ⟨pa, 0, none⟩ = some (.string p.word) ∧ w'.cell? ⟨pa, 1, none⟩ = some (.int .u32 p.weight) ∧ w'.cell? ⟨pa, 2, none⟩ = some (.bool p.gone) ∧ w'.cell? ⟨pa, 3, none⟩ = some (.int .i64 p.dist) ∧ w'.cell? ⟨pb, 0, none⟩ = some (.string p.word) ∧ w'.cell? ⟨pb, 1, none⟩ = some (.int .u32 p.weight) ∧ w'.cell? ⟨pb, 2, none⟩ = some (.bool p.gone) ∧ w'.cell? ⟨pb, 3, none⟩ = some (.int .i64 p.dist) ∧ w'.cell? ⟨pc, 0, none⟩ = some (.string r.word) ∧ w'.cell? ⟨pc, 1, none⟩ = some (.int .u32 r.weight) ∧ w'.cell? ⟨pc, 2, none⟩ = some (.bool r.gone) ∧ w'.cell? ⟨pc, 3, none⟩ = some (.int .i64 r.dist))) (by kernel_rfl) (MK2.out _ (Below.refl _ _).drew) (fun hHeld => ?_)
            refine take_at (i := 0) (oi := _) (v := ?_) (d := 52) rfl (by kernel_rfl) (by kernel_rfl) (by kernel_rfl) (by kernel_rfl) (fun _ _ _ h => h) (Or.inl ⟨by kernel_rfl, ?_⟩) hHeld ?_
            rotate_left
            · intro w0 hSw; (try dsimp only at hSw); go_simp <;> with_reducible rfl
            try simp only [Act.put, List.setIfInBounds_toArray, List.set_cons_zero, List.set_cons_succ]
            refine take_at (i := 1) (oi := _) (v := ?_) (d := 53) rfl (by kernel_rfl) (by kernel_rfl) (by kernel_rfl) (by kernel_rfl) (fun _ _ _ h => h) (Or.inl ⟨by kernel_rfl, ?_⟩) hHeld ?_
            rotate_left
            · intro w0 hSw; (try dsimp only at hSw); go_simp <;> with_reducible rfl
            try simp only [Act.put, List.setIfInBounds_toArray, List.set_cons_zero, List.set_cons_succ]
            refine wpAnyH_ready (rs := [2]) (by kernel_rfl) (by simp) ?_
            refine AllReadyH.cons (o := _) rfl (fun K hK => ?_) ?_
            · go_simp
              go_at_call 10; refine (less10' HA.out _).mono ?_
              rintro e w1 ⟨rfl, hb1⟩
              have hcum := keepL ((Below.refl _ _).drew : Below wc.heap.size wc _) hb1
              clear hb1
              go_wp2_with fail
              clear hHeld
              refine hK.out _ _ ?_ (fun hHeld => ?_)
              · exact MK2.out _ hcum
              clear hK K
              try simp only [Act.put, List.setIfInBounds_toArray, List.set_cons_zero, List.set_cons_succ]
              refine take_at (i := 3) (oi := _) (v := ?_) (d := 55) rfl (by kernel_rfl) (by kernel_rfl) (by kernel_rfl) (by kernel_rfl) (fun _ _ _ h => h) (Or.inl ⟨by kernel_rfl, ?_⟩) hHeld ?_
              rotate_left
              · intro w0 hSw; (try dsimp only at hSw); go_simp <;> with_reducible rfl
              try simp only [Act.put, List.setIfInBounds_toArray, List.set_cons_zero, List.set_cons_succ]
              refine take_at (i := 4) (oi := _) (v := undef) (d := 56) rfl (by kernel_rfl) (by kernel_rfl) (by kernel_rfl) (by kernel_rfl) (fun _ _ _ h => h) (Or.inr ⟨by kernel_rfl, rfl⟩) hHeld ?_
              try simp only [Act.put, List.setIfInBounds_toArray, List.set_cons_zero, List.set_cons_succ]
              refine take_at (i := 5) (oi := _) (v := undef) (d := 57) rfl (by kernel_rfl) (by kernel_rfl) (by kernel_rfl) (by kernel_rfl) (fun _ _ _ h => h) (Or.inr ⟨by kernel_rfl, rfl⟩) hHeld ?_
              try simp only [Act.put, List.setIfInBounds_toArray, List.set_cons_zero, List.set_cons_succ]
              refine take_at (i := 6) (oi := _) (v := undef) (d := 58) rfl (by kernel_rfl) (by kernel_rfl) (by kernel_rfl) (by kernel_rfl) (fun _ _ _ h => h) (Or.inr ⟨by kernel_rfl, rfl⟩) hHeld ?_
              try simp only [Act.put, List.setIfInBounds_toArray, List.set_cons_zero, List.set_cons_succ]
              refine take_at (i := 7) (oi := _) (v := ?_) (d := 59) rfl (by kernel_rfl) (by kernel_rfl) (by kernel_rfl) (by kernel_rfl) (fun _ _ _ h => h) (Or.inl ⟨by kernel_rfl, ?_⟩) hHeld ?_
              rotate_left
              · intro w0 hSw; (try dsimp only at hSw); go_simp <;> with_reducible rfl
              try simp only [Act.put, List.setIfInBounds_toArray, List.set_cons_zero, List.set_cons_succ]
              refine take_at (i := 8) (oi := _) (v := ?_) (d := 60) rfl (by kernel_rfl) (by kernel_rfl) (by kernel_rfl) (by kernel_rfl) (fun _ _ _ h => h) (Or.inl ⟨by kernel_rfl, ?_⟩) hHeld ?_
              rotate_left
              · intro w0 hSw; (try dsimp only at hSw); go_simp <;> with_reducible rfl
              try simp only [Act.put, List.setIfInBounds_toArray, List.set_cons_zero, List.set_cons_succ]
              refine take_at (i := 9) (oi := _) (v := ?_) (d := 61) rfl (by kernel_rfl) (by kernel_rfl) (by kernel_rfl) (by kernel_rfl) (fun _ _ _ h => h) (Or.inl ⟨by kernel_rfl, ?_⟩) hHeld ?_
              rotate_left
              · intro w0 hSw; (try dsimp only at hSw); go_simp <;> with_reducible rfl
              try simp only [Act.put, List.setIfInBounds_toArray, List.set_cons_zero, List.set_cons_succ]
              refine take_at (i := 10) (oi := _) (v := ?_) (d := 62) rfl (by kernel_rfl) (by kernel_rfl) (by kernel_rfl) (by kernel_rfl) (fun _ _ _ h => h) (Or.inl ⟨by kernel_rfl, ?_⟩) hHeld ?_
              rotate_left
              · intro w0 hSw; (try dsimp only at hSw); go_simp <;> with_reducible rfl
              try simp only [Act.put, List.setIfInBounds_toArray, List.set_cons_zero, List.set_cons_succ]
              refine take_at (i := 11) (oi := _) (v := ?_) (d := 63) rfl (by kernel_rfl) (by kernel_rfl) (by kernel_rfl) (by kernel_rfl) (fun _ _ _ h => h) (Or.inl ⟨by kernel_rfl, ?_⟩) hHeld ?_
              rotate_left
              · intro w0 hSw; (try dsimp only at hSw); go_simp <;> with_reducible rfl
              try simp only [Act.put, List.setIfInBounds_toArray, List.set_cons_zero, List.set_cons_succ]
              refine take_at (i := 12) (oi := _) (v := ?_) (d := 64) rfl (by kernel_rfl) (by kernel_rfl) (by kernel_rfl) (by kernel_rfl) (fun _ _ _ h => h) (Or.inl ⟨by kernel_rfl, ?_⟩) hHeld ?_
              rotate_left
              · intro w0 hSw; (try dsimp only at hSw); go_simp <;> with_reducible rfl
              try simp only [Act.put, List.setIfInBounds_toArray, List.set_cons_zero, List.set_cons_succ]
              refine take_at (i := 13) (oi := _) (v := ?_) (d := 65) rfl (by kernel_rfl) (by kernel_rfl) (by kernel_rfl) (by kernel_rfl) (fun _ _ _ h => h) (Or.inl ⟨by kernel_rfl, ?_⟩) hHeld ?_
              rotate_left
              · intro w0 hSw; (try dsimp only at hSw); go_simp <;> with_reducible rfl
              try simp only [Act.put, List.setIfInBounds_toArray, List.set_cons_zero, List.set_cons_succ]
              refine wpAnyH_ready (rs := [14]) (by kernel_rfl) (by simp) ?_
              refine AllReadyH.cons (o := _) rfl (fun K hK => ?_) ?_
              · go_simp
                go_at_call 10; refine (less10' HA.out _).mono ?_
                rintro e w2 ⟨rfl, hb2⟩
                replace hcum := keepL hcum hb2
                clear hb2
                go_wp2_with fail
                clear hHeld
                refine hK.out _ _ ?_ (fun hHeld => ?_)
                · exact MK2.out _ hcum
                clear hK K
                try simp only [Act.put, List.setIfInBounds_toArray, List.set_cons_zero, List.set_cons_succ]
                refine take_at (i := 15) (oi := _) (v := ?_) (d := 67) rfl (by kernel_rfl) (by kernel_rfl) (by kernel_rfl) (by kernel_rfl) (fun _ _ _ h => h) (Or.inl ⟨by kernel_rfl, ?_⟩) hHeld ?_
                rotate_left
                · intro w0 hSw; (try dsimp only at hSw); go_simp <;> with_reducible rfl
                try simp only [Act.put, List.setIfInBounds_toArray, List.set_cons_zero, List.set_cons_succ]
                refine take_at (i := 16) (oi := _) (v := ?_) (d := 68) rfl (by kernel_rfl) (by kernel_rfl) (by kernel_rfl) (by kernel_rfl) (fun _ _ _ h => h) (Or.inl ⟨by kernel_rfl, ?_⟩) hHeld ?_
                rotate_left
                · intro w0 hSw; (try dsimp only at hSw); go_simp <;> with_reducible rfl
                try simp only [Act.put, List.setIfInBounds_toArray, List.set_cons_zero, List.set_cons_succ]
                refine take_at (i := 17) (oi := _) (v := ?_) (d := 69) rfl (by kernel_rfl) (by kernel_rfl) (by kernel_rfl) (by kernel_rfl) (fun _ _ _ h => h) (Or.inl ⟨by kernel_rfl, ?_⟩) hHeld ?_
                rotate_left
                · intro w0 hSw; (try dsimp only at hSw); go_simp <;> with_reducible rfl
                try simp only [Act.put, List.setIfInBounds_toArray, List.set_cons_zero, List.set_cons_succ]
                refine wpAnyH_ready (rs := [18]) (by kernel_rfl) (by simp) ?_
                refine AllReadyH.cons (o := _) rfl (fun K hK => ?_) ?_
                · go_simp
                  go_at_call 10; refine (less10' HB.out _).mono ?_
                  rintro e w3 ⟨rfl, hb3⟩
                  replace hcum := keepL hcum hb3
                  clear hb3
                  go_wp2_with fail
                  clear hHeld
                  refine hK.out _ _ ?_ (fun hHeld => ?_)
                  · exact MK2.out _ hcum
                  clear hK K
                  try simp only [Act.put, List.setIfInBounds_toArray, List.set_cons_zero, List.set_cons_succ]
                  refine take_at (i := 19) (oi := _) (v := ?_) (d := 71) rfl (by kernel_rfl) (by kernel_rfl) (by kernel_rfl) (by kernel_rfl) (fun _ _ _ h => h) (Or.inl ⟨by kernel_rfl, ?_⟩) hHeld ?_
                  rotate_left
                  · intro w0 hSw; (try dsimp only at hSw); go_simp <;> with_reducible rfl
                  try simp only [Act.put, List.setIfInBounds_toArray, List.set_cons_zero, List.set_cons_succ]
                  refine take_at (i := 20) (oi := _) (v := ?_) (d := 72) rfl (by kernel_rfl) (by kernel_rfl) (by kernel_rfl) (by kernel_rfl) (fun _ _ _ h => h) (Or.inl ⟨by kernel_rfl, ?_⟩) hHeld ?_
                  rotate_left
                  · intro w0 hSw; (try dsimp only at hSw); go_simp <;> with_reducible rfl
                  try simp only [Act.put, List.setIfInBounds_toArray, List.set_cons_zero, List.set_cons_succ]
                  refine take_at (i := 21) (oi := _) (v := ?_) (d := 73) rfl (by kernel_rfl) (by kernel_rfl) (by kernel_rfl) (by kernel_rfl) (fun _ _ _ h => h) (Or.inl ⟨by kernel_rfl, ?_⟩) hHeld ?_
                  rotate_left
                  · intro w0 hSw; (try dsimp only at hSw); go_simp <;> with_reducible rfl
                  try simp only [Act.put, List.setIfInBounds_toArray, List.set_cons_zero, List.set_cons_succ]
                  refine take_at (i := 22) (oi := _) (v := ?_) (d := 74) rfl (by kernel_rfl) (by kernel_rfl) (by kernel_rfl) (by kernel_rfl) (fun _ _ _ h => h) (Or.inl ⟨by kernel_rfl, ?_⟩) hHeld ?_
                  rotate_left
                  · intro w0 hSw; (try dsimp only at hSw); go_simp <;> with_reducible rfl
                  try simp only [Act.put, List.setIfInBounds_toArray, List.set_cons_zero, List.set_cons_succ]
                  refine take_at (i := 23) (oi := _) (v := ?_) (d := 75) rfl (by kernel_rfl) (by kernel_rfl) (by kernel_rfl) (by kernel_rfl) (fun _ _ _ h => h) (Or.inl ⟨by kernel_rfl, ?_⟩) hHeld ?_
                  rotate_left
                  · intro w0 hSw; (try dsimp only at hSw); go_simp <;> with_reducible rfl
                  try simp only [Act.put, List.setIfInBounds_toArray, List.set_cons_zero, List.set_cons_succ]
                  refine take_at (i := 24) (oi := _) (v := ?_) (d := 76) rfl (by kernel_rfl) (by kernel_rfl) (by kernel_rfl) (by kernel_rfl) (fun _ _ _ h => h) (Or.inl ⟨by kernel_rfl, ?_⟩) hHeld ?_
                  rotate_left
                  · intro w0 hSw; (try dsimp only at hSw); go_simp <;> with_reducible rfl
                  try simp only [Act.put, List.setIfInBounds_toArray, List.set_cons_zero, List.set_cons_succ]
                  refine wpAnyH_ready (rs := [25]) (by kernel_rfl) (by simp) ?_
                  refine AllReadyH.cons (o := _) rfl (fun K hK => ?_) ?_
                  · go_simp
                    go_at_call 10; refine (less10' HA.out _).mono ?_
                    rintro e w4 ⟨rfl, hb4⟩
                    replace hcum := keepL hcum hb4
                    clear hb4
                    go_wp2_with fail
                    clear hHeld
                    refine hK.out _ _ ?_ (fun hHeld => ?_)
                    · exact MK2.out _ hcum
                    clear hK K
                    try simp only [Act.put, List.setIfInBounds_toArray, List.set_cons_zero, List.set_cons_succ]
                    refine take_at (i := 26) (oi := _) (v := ?_) (d := 78) rfl (by kernel_rfl) (by kernel_rfl) (by kernel_rfl) (by kernel_rfl) (fun _ _ _ h => h) (Or.inl ⟨by kernel_rfl, ?_⟩) hHeld ?_
                    rotate_left
                    · intro w0 hSw; (try dsimp only at hSw); go_simp <;> with_reducible rfl
                    try simp only [Act.put, List.setIfInBounds_toArray, List.set_cons_zero, List.set_cons_succ]
                    refine take_at (i := 27) (oi := _) (v := undef) (d := 79) rfl (by kernel_rfl) (by kernel_rfl) (by kernel_rfl) (by kernel_rfl) (fun _ _ _ h => h) (Or.inr ⟨by kernel_rfl, rfl⟩) hHeld ?_
                    try simp only [Act.put, List.setIfInBounds_toArray, List.set_cons_zero, List.set_cons_succ]
                    refine take_at (i := 28) (oi := _) (v := undef) (d := 80) rfl (by kernel_rfl) (by kernel_rfl) (by kernel_rfl) (by kernel_rfl) (fun _ _ _ h => h) (Or.inr ⟨by kernel_rfl, rfl⟩) hHeld ?_
                    try simp only [Act.put, List.setIfInBounds_toArray, List.set_cons_zero, List.set_cons_succ]
                    refine take_at (i := 29) (oi := _) (v := undef) (d := 81) rfl (by kernel_rfl) (by kernel_rfl) (by kernel_rfl) (by kernel_rfl) (fun _ _ _ h => h) (Or.inr ⟨by kernel_rfl, rfl⟩) hHeld ?_
                    try simp only [Act.put, List.setIfInBounds_toArray, List.set_cons_zero, List.set_cons_succ]
                    refine take_at (i := 30) (oi := _) (v := ?_) (d := 82) rfl (by kernel_rfl) (by kernel_rfl) (by kernel_rfl) (by kernel_rfl) (fun _ _ _ h => h) (Or.inl ⟨by kernel_rfl, ?_⟩) hHeld ?_
                    rotate_left
                    · intro w0 hSw; (try dsimp only at hSw); go_simp <;> with_reducible rfl
                    try simp only [Act.put, List.setIfInBounds_toArray, List.set_cons_zero, List.set_cons_succ]
                    refine take_at (i := 31) (oi := _) (v := ?_) (d := 83) rfl (by kernel_rfl) (by kernel_rfl) (by kernel_rfl) (by kernel_rfl) (fun _ _ _ h => h) (Or.inl ⟨by kernel_rfl, ?_⟩) hHeld ?_
                    rotate_left
                    · intro w0 hSw; (try dsimp only at hSw); go_simp <;> with_reducible rfl
                    try simp only [Act.put, List.setIfInBounds_toArray, List.set_cons_zero, List.set_cons_succ]
                    refine take_at (i := 32) (oi := _) (v := undef) (d := 84) rfl (by kernel_rfl) (by kernel_rfl) (by kernel_rfl) (by kernel_rfl) (fun _ _ _ h => h) (Or.inr ⟨by kernel_rfl, rfl⟩) hHeld ?_
                    try simp only [Act.put, List.setIfInBounds_toArray, List.set_cons_zero, List.set_cons_succ]
                    refine take_at (i := 33) (oi := _) (v := undef) (d := 85) rfl (by kernel_rfl) (by kernel_rfl) (by kernel_rfl) (by kernel_rfl) (fun _ _ _ h => h) (Or.inr ⟨by kernel_rfl, rfl⟩) hHeld ?_
                    try simp only [Act.put, List.setIfInBounds_toArray, List.set_cons_zero, List.set_cons_succ]
                    refine take_at (i := 34) (oi := _) (v := undef) (d := 86) rfl (by kernel_rfl) (by kernel_rfl) (by kernel_rfl) (by kernel_rfl) (fun _ _ _ h => h) (Or.inr ⟨by kernel_rfl, rfl⟩) hHeld ?_
                    try simp only [Act.put, List.setIfInBounds_toArray, List.set_cons_zero, List.set_cons_succ]
                    refine take_at (i := 35) (oi := _) (v := undef) (d := 87) rfl (by kernel_rfl) (by kernel_rfl) (by kernel_rfl) (by kernel_rfl) (fun _ _ _ h => h) (Or.inr ⟨by kernel_rfl, rfl⟩) hHeld ?_
                    try simp only [Act.put, List.setIfInBounds_toArray, List.set_cons_zero, List.set_cons_succ]
                    refine take_at (i := 36) (oi := _) (v := ?_) (d := 88) rfl (by kernel_rfl) (by kernel_rfl) (by kernel_rfl) (by kernel_rfl) (fun _ _ _ h => h) (Or.inl ⟨by kernel_rfl, ?_⟩) hHeld ?_
                    rotate_left
                    · intro w0 hSw; (try dsimp only at hSw); go_simp <;> with_reducible rfl
                    try simp only [Act.put, List.setIfInBounds_toArray, List.set_cons_zero, List.set_cons_succ]
                    refine take_at (i := 37) (oi := _) (v := ?_) (d := 89) rfl (by kernel_rfl) (by kernel_rfl) (by kernel_rfl) (by kernel_rfl) (fun _ _ _ h => h) (Or.inl ⟨by kernel_rfl, ?_⟩) hHeld ?_
                    rotate_left
                    · intro w0 hSw; (try dsimp only at hSw); go_simp <;> with_reducible rfl
                    try simp only [Act.put, List.setIfInBounds_toArray, List.set_cons_zero, List.set_cons_succ]
                    refine wpAnyH_done (by kernel_rfl) ?_ _
                    have hbb := HBC.out.trans (hcum.mono HBC.out.size)
                    have HBB := Lib.hid hbb
                    clear hbb hcum hHeld
                    go_wp2
                    go_roundg (own.length - (i + 1))
                    case rel => exact ⟨i + 1, rfl, by omega, by go_num, HBB.out⟩
                    case measure => rw [HK.out]; omega
                  exact AllReadyH.nil
                exact AllReadyH.nil
              exact AllReadyH.nil
            exact AllReadyH.nil
          · have HOR := Lib.hid (eq_none hne)
            have HA := Lib.hid h1
            have HB := Lib.hid h2
            have HC := Lib.hid h3
            clear h1 h2 h3 hne
            go_upto_region 8 with (fail)
            refine wp_region_held_drew (S := (fun w' : World => Below wc.heap.size wc w' ∧ w'.cell? ⟨pa, 0, none⟩ = some (.string p.word) ∧ w'.cell? ⟨pa, 1, none⟩ = some (.int .u32 p.weight) ∧ w'.cell? ⟨pa, 2, none⟩ = some (.bool p.gone) ∧ w'.cell? ⟨pa, 3, none⟩ = some (.int .i64 p.dist) ∧ w'.cell? ⟨pb, 0, none⟩ = some (.string q.word) ∧ w'.cell? ⟨pb, 1, none⟩ = some (.int .u32 q.weight) ∧ w'.cell? ⟨pb, 2, none⟩ = some (.bool q.gone) ∧ w'.cell? ⟨pb, 3, none⟩ = some (.int .i64 q.dist) ∧ w'.cell? ⟨pc, 0, none⟩ = some (.string r.word) ∧ w'.cell? ⟨pc, 1, none⟩ = some (.int .u32 r.weight) ∧ w'.cell? ⟨pc, 2, none⟩ = some (.bool r.gone) ∧ w'.cell? ⟨pc, 3, none⟩ = some (.int .i64 r.dist))) (by kernel_rfl) (MK2.out _ (Below.refl _ _).drew) (fun hHeld => ?_)
            refine take_at (i := 0) (oi := _) (v := ?_) (d := 52) rfl (by kernel_rfl) (by kernel_rfl) (by kernel_rfl) (by kernel_rfl) (fun _ _ _ h => h) (Or.inl ⟨by kernel_rfl, ?_⟩) hHeld ?_
            rotate_left
            · intro w0 hSw; (try dsimp only at hSw); go_simp <;> with_reducible rfl
            try simp only [Act.put, List.setIfInBounds_toArray, List.set_cons_zero, List.set_cons_succ]
            refine take_at (i := 1) (oi := _) (v := ?_) (d := 53) rfl (by kernel_rfl) (by kernel_rfl) (by kernel_rfl) (by kernel_rfl) (fun _ _ _ h => h) (Or.inl ⟨by kernel_rfl, ?_⟩) hHeld ?_
            rotate_left
            · intro w0 hSw; (try dsimp only at hSw); go_simp <;> with_reducible rfl
            try simp only [Act.put, List.setIfInBounds_toArray, List.set_cons_zero, List.set_cons_succ]
            refine wpAnyH_ready (rs := [2]) (by kernel_rfl) (by simp) ?_
            refine AllReadyH.cons (o := _) rfl (fun K hK => ?_) ?_
            · go_simp
              go_at_call 10; refine (less10' HA.out _).mono ?_
              rintro e w5 ⟨rfl, hb5⟩
              have hcum := keepL ((Below.refl _ _).drew : Below wc.heap.size wc _) hb5
              clear hb5
              go_wp2_with fail
              clear hHeld
              refine hK.out _ _ ?_ (fun hHeld => ?_)
              · exact MK2.out _ hcum
              clear hK K
              try simp only [Act.put, List.setIfInBounds_toArray, List.set_cons_zero, List.set_cons_succ]
              refine take_at (i := 3) (oi := _) (v := ?_) (d := 55) rfl (by kernel_rfl) (by kernel_rfl) (by kernel_rfl) (by kernel_rfl) (fun _ _ _ h => h) (Or.inl ⟨by kernel_rfl, ?_⟩) hHeld ?_
              rotate_left
              · intro w0 hSw; (try dsimp only at hSw); go_simp <;> with_reducible rfl
              try simp only [Act.put, List.setIfInBounds_toArray, List.set_cons_zero, List.set_cons_succ]
              refine take_at (i := 4) (oi := _) (v := ?_) (d := 56) rfl (by kernel_rfl) (by kernel_rfl) (by kernel_rfl) (by kernel_rfl) (fun _ _ _ h => h) (Or.inl ⟨by kernel_rfl, ?_⟩) hHeld ?_
              rotate_left
              · intro w0 hSw; (try dsimp only at hSw); go_simp <;> with_reducible rfl
              try simp only [Act.put, List.setIfInBounds_toArray, List.set_cons_zero, List.set_cons_succ]
              refine take_at (i := 5) (oi := _) (v := ?_) (d := 57) rfl (by kernel_rfl) (by kernel_rfl) (by kernel_rfl) (by kernel_rfl) (fun _ _ _ h => h) (Or.inl ⟨by kernel_rfl, ?_⟩) hHeld ?_
              rotate_left
              · intro w0 hSw; (try dsimp only at hSw); go_simp <;> with_reducible rfl
              try simp only [Act.put, List.setIfInBounds_toArray, List.set_cons_zero, List.set_cons_succ]
              refine wpAnyH_ready (rs := [6]) (by kernel_rfl) (by simp) ?_
              refine AllReadyH.cons (o := _) rfl (fun K hK => ?_) ?_
              · go_simp
                go_at_call 10; refine (less10' HB.out _).mono ?_
                rintro e w6 ⟨rfl, hb6⟩
                replace hcum := keepL hcum hb6
                clear hb6
                go_wp2_with fail
                clear hHeld
                refine hK.out _ _ ?_ (fun hHeld => ?_)
                · exact MK2.out _ hcum
                clear hK K
                try simp only [Act.put, List.setIfInBounds_toArray, List.set_cons_zero, List.set_cons_succ]
                refine take_at (i := 7) (oi := _) (v := ?_) (d := 59) rfl (by kernel_rfl) (by kernel_rfl) (by kernel_rfl) (by kernel_rfl) (fun _ _ _ h => h) (Or.inl ⟨by kernel_rfl, ?_⟩) hHeld ?_
                rotate_left
                · intro w0 hSw; (try dsimp only at hSw); go_simp <;> with_reducible rfl
                try simp only [Act.put, List.setIfInBounds_toArray, List.set_cons_zero, List.set_cons_succ]
                refine take_at (i := 8) (oi := _) (v := ?_) (d := 60) rfl (by kernel_rfl) (by kernel_rfl) (by kernel_rfl) (by kernel_rfl) (fun _ _ _ h => h) (Or.inl ⟨by kernel_rfl, ?_⟩) hHeld ?_
                rotate_left
                · intro w0 hSw; (try dsimp only at hSw); go_simp <;> with_reducible rfl
                try simp only [Act.put, List.setIfInBounds_toArray, List.set_cons_zero, List.set_cons_succ]
                refine take_at (i := 9) (oi := _) (v := ?_) (d := 61) rfl (by kernel_rfl) (by kernel_rfl) (by kernel_rfl) (by kernel_rfl) (fun _ _ _ h => h) (Or.inl ⟨by kernel_rfl, ?_⟩) hHeld ?_
                rotate_left
                · intro w0 hSw; (try dsimp only at hSw); go_simp <;> with_reducible rfl
                try simp only [Act.put, List.setIfInBounds_toArray, List.set_cons_zero, List.set_cons_succ]
                refine take_at (i := 10) (oi := _) (v := ?_) (d := 62) rfl (by kernel_rfl) (by kernel_rfl) (by kernel_rfl) (by kernel_rfl) (fun _ _ _ h => h) (Or.inl ⟨by kernel_rfl, ?_⟩) hHeld ?_
                rotate_left
                · intro w0 hSw; (try dsimp only at hSw); go_simp <;> with_reducible rfl
                try simp only [Act.put, List.setIfInBounds_toArray, List.set_cons_zero, List.set_cons_succ]
                refine take_at (i := 11) (oi := _) (v := .bool true) (d := 63) rfl (by kernel_rfl) (by kernel_rfl) (by kernel_rfl) (by kernel_rfl) (fun _ _ _ h => h) (Or.inl ⟨by kernel_rfl, ?_⟩) hHeld ?_
                · intro w0 hSw; (try dsimp only at hSw); rcases HOR.out with h | h | h | h <;> go_simp
                try simp only [Act.put, List.setIfInBounds_toArray, List.set_cons_zero, List.set_cons_succ]
                refine take_at (i := 12) (oi := _) (v := ?_) (d := 64) rfl (by kernel_rfl) (by kernel_rfl) (by kernel_rfl) (by kernel_rfl) (fun _ _ _ h => h) (Or.inl ⟨by kernel_rfl, ?_⟩) hHeld ?_
                rotate_left
                · intro w0 hSw; (try dsimp only at hSw); go_simp <;> with_reducible rfl
                try simp only [Act.put, List.setIfInBounds_toArray, List.set_cons_zero, List.set_cons_succ]
                refine take_at (i := 13) (oi := _) (v := ?_) (d := 65) rfl (by kernel_rfl) (by kernel_rfl) (by kernel_rfl) (by kernel_rfl) (fun _ _ _ h => h) (Or.inl ⟨by kernel_rfl, ?_⟩) hHeld ?_
                rotate_left
                · intro w0 hSw; (try dsimp only at hSw); go_simp <;> with_reducible rfl
                try simp only [Act.put, List.setIfInBounds_toArray, List.set_cons_zero, List.set_cons_succ]
                refine wpAnyH_ready (rs := [14]) (by kernel_rfl) (by simp) ?_
                refine AllReadyH.cons (o := _) rfl (fun K hK => ?_) ?_
                · go_simp
                  go_at_call 10; refine (less10' HA.out _).mono ?_
                  rintro e w7 ⟨rfl, hb7⟩
                  replace hcum := keepL hcum hb7
                  clear hb7
                  go_wp2_with fail
                  clear hHeld
                  refine hK.out _ _ ?_ (fun hHeld => ?_)
                  · exact MK2.out _ hcum
                  clear hK K
                  try simp only [Act.put, List.setIfInBounds_toArray, List.set_cons_zero, List.set_cons_succ]
                  refine take_at (i := 15) (oi := _) (v := ?_) (d := 67) rfl (by kernel_rfl) (by kernel_rfl) (by kernel_rfl) (by kernel_rfl) (fun _ _ _ h => h) (Or.inl ⟨by kernel_rfl, ?_⟩) hHeld ?_
                  rotate_left
                  · intro w0 hSw; (try dsimp only at hSw); go_simp <;> with_reducible rfl
                  try simp only [Act.put, List.setIfInBounds_toArray, List.set_cons_zero, List.set_cons_succ]
                  refine take_at (i := 16) (oi := _) (v := undef) (d := 68) rfl (by kernel_rfl) (by kernel_rfl) (by kernel_rfl) (by kernel_rfl) (fun _ _ _ h => h) (Or.inr ⟨by kernel_rfl, rfl⟩) hHeld ?_
                  try simp only [Act.put, List.setIfInBounds_toArray, List.set_cons_zero, List.set_cons_succ]
                  refine take_at (i := 17) (oi := _) (v := undef) (d := 69) rfl (by kernel_rfl) (by kernel_rfl) (by kernel_rfl) (by kernel_rfl) (fun _ _ _ h => h) (Or.inr ⟨by kernel_rfl, rfl⟩) hHeld ?_
                  try simp only [Act.put, List.setIfInBounds_toArray, List.set_cons_zero, List.set_cons_succ]
                  refine take_at (i := 18) (oi := _) (v := undef) (d := 70) rfl (by kernel_rfl) (by kernel_rfl) (by kernel_rfl) (by kernel_rfl) (fun _ _ _ h => h) (Or.inr ⟨by kernel_rfl, rfl⟩) hHeld ?_
                  try simp only [Act.put, List.setIfInBounds_toArray, List.set_cons_zero, List.set_cons_succ]
                  refine take_at (i := 19) (oi := _) (v := ?_) (d := 71) rfl (by kernel_rfl) (by kernel_rfl) (by kernel_rfl) (by kernel_rfl) (fun _ _ _ h => h) (Or.inl ⟨by kernel_rfl, ?_⟩) hHeld ?_
                  rotate_left
                  · intro w0 hSw; (try dsimp only at hSw); go_simp <;> with_reducible rfl
                  try simp only [Act.put, List.setIfInBounds_toArray, List.set_cons_zero, List.set_cons_succ]
                  refine take_at (i := 20) (oi := _) (v := ?_) (d := 72) rfl (by kernel_rfl) (by kernel_rfl) (by kernel_rfl) (by kernel_rfl) (fun _ _ _ h => h) (Or.inl ⟨by kernel_rfl, ?_⟩) hHeld ?_
                  rotate_left
                  · intro w0 hSw; (try dsimp only at hSw); go_simp <;> with_reducible rfl
                  try simp only [Act.put, List.setIfInBounds_toArray, List.set_cons_zero, List.set_cons_succ]
                  refine take_at (i := 21) (oi := _) (v := ?_) (d := 73) rfl (by kernel_rfl) (by kernel_rfl) (by kernel_rfl) (by kernel_rfl) (fun _ _ _ h => h) (Or.inl ⟨by kernel_rfl, ?_⟩) hHeld ?_
                  rotate_left
                  · intro w0 hSw; (try dsimp only at hSw); go_simp <;> with_reducible rfl
                  try simp only [Act.put, List.setIfInBounds_toArray, List.set_cons_zero, List.set_cons_succ]
                  refine take_at (i := 22) (oi := _) (v := ?_) (d := 74) rfl (by kernel_rfl) (by kernel_rfl) (by kernel_rfl) (by kernel_rfl) (fun _ _ _ h => h) (Or.inl ⟨by kernel_rfl, ?_⟩) hHeld ?_
                  rotate_left
                  · intro w0 hSw; (try dsimp only at hSw); go_simp <;> with_reducible rfl
                  try simp only [Act.put, List.setIfInBounds_toArray, List.set_cons_zero, List.set_cons_succ]
                  refine take_at (i := 23) (oi := _) (v := ?_) (d := 75) rfl (by kernel_rfl) (by kernel_rfl) (by kernel_rfl) (by kernel_rfl) (fun _ _ _ h => h) (Or.inl ⟨by kernel_rfl, ?_⟩) hHeld ?_
                  rotate_left
                  · intro w0 hSw; (try dsimp only at hSw); go_simp <;> with_reducible rfl
                  try simp only [Act.put, List.setIfInBounds_toArray, List.set_cons_zero, List.set_cons_succ]
                  refine take_at (i := 24) (oi := _) (v := ?_) (d := 76) rfl (by kernel_rfl) (by kernel_rfl) (by kernel_rfl) (by kernel_rfl) (fun _ _ _ h => h) (Or.inl ⟨by kernel_rfl, ?_⟩) hHeld ?_
                  rotate_left
                  · intro w0 hSw; (try dsimp only at hSw); go_simp <;> with_reducible rfl
                  try simp only [Act.put, List.setIfInBounds_toArray, List.set_cons_zero, List.set_cons_succ]
                  refine wpAnyH_ready (rs := [25]) (by kernel_rfl) (by simp) ?_
                  refine AllReadyH.cons (o := _) rfl (fun K hK => ?_) ?_
                  · go_simp
                    go_at_call 10; refine (less10' HA.out _).mono ?_
                    rintro e w8 ⟨rfl, hb8⟩
                    replace hcum := keepL hcum hb8
                    clear hb8
                    go_wp2_with fail
                    clear hHeld
                    refine hK.out _ _ ?_ (fun hHeld => ?_)
                    · exact MK2.out _ hcum
                    clear hK K
                    try simp only [Act.put, List.setIfInBounds_toArray, List.set_cons_zero, List.set_cons_succ]
                    refine take_at (i := 26) (oi := _) (v := ?_) (d := 78) rfl (by kernel_rfl) (by kernel_rfl) (by kernel_rfl) (by kernel_rfl) (fun _ _ _ h => h) (Or.inl ⟨by kernel_rfl, ?_⟩) hHeld ?_
                    rotate_left
                    · intro w0 hSw; (try dsimp only at hSw); go_simp <;> with_reducible rfl
                    try simp only [Act.put, List.setIfInBounds_toArray, List.set_cons_zero, List.set_cons_succ]
                    refine take_at (i := 27) (oi := _) (v := ?_) (d := 79) rfl (by kernel_rfl) (by kernel_rfl) (by kernel_rfl) (by kernel_rfl) (fun _ _ _ h => h) (Or.inl ⟨by kernel_rfl, ?_⟩) hHeld ?_
                    rotate_left
                    · intro w0 hSw; (try dsimp only at hSw); go_simp <;> with_reducible rfl
                    try simp only [Act.put, List.setIfInBounds_toArray, List.set_cons_zero, List.set_cons_succ]
                    refine take_at (i := 28) (oi := _) (v := ?_) (d := 80) rfl (by kernel_rfl) (by kernel_rfl) (by kernel_rfl) (by kernel_rfl) (fun _ _ _ h => h) (Or.inl ⟨by kernel_rfl, ?_⟩) hHeld ?_
                    rotate_left
                    · intro w0 hSw; (try dsimp only at hSw); go_simp <;> with_reducible rfl
                    try simp only [Act.put, List.setIfInBounds_toArray, List.set_cons_zero, List.set_cons_succ]
                    refine wpAnyH_ready (rs := [29]) (by kernel_rfl) (by simp) ?_
                    refine AllReadyH.cons (o := _) rfl (fun K hK => ?_) ?_
                    · go_simp
                      go_at_call 10; refine (less10' HC.out _).mono ?_
                      rintro e w9 ⟨rfl, hb9⟩
                      replace hcum := keepL hcum hb9
                      clear hb9
                      go_wp2_with fail
                      clear hHeld
                      refine hK.out _ _ ?_ (fun hHeld => ?_)
                      · exact MK2.out _ hcum
                      clear hK K
                      try simp only [Act.put, List.setIfInBounds_toArray, List.set_cons_zero, List.set_cons_succ]
                      refine take_at (i := 30) (oi := _) (v := ?_) (d := 82) rfl (by kernel_rfl) (by kernel_rfl) (by kernel_rfl) (by kernel_rfl) (fun _ _ _ h => h) (Or.inl ⟨by kernel_rfl, ?_⟩) hHeld ?_
                      rotate_left
                      · intro w0 hSw; (try dsimp only at hSw); go_simp <;> with_reducible rfl
                      try simp only [Act.put, List.setIfInBounds_toArray, List.set_cons_zero, List.set_cons_succ]
                      refine take_at (i := 31) (oi := _) (v := ?_) (d := 83) rfl (by kernel_rfl) (by kernel_rfl) (by kernel_rfl) (by kernel_rfl) (fun _ _ _ h => h) (Or.inl ⟨by kernel_rfl, ?_⟩) hHeld ?_
                      rotate_left
                      · intro w0 hSw; (try dsimp only at hSw); go_simp <;> with_reducible rfl
                      try simp only [Act.put, List.setIfInBounds_toArray, List.set_cons_zero, List.set_cons_succ]
                      refine take_at (i := 32) (oi := _) (v := undef) (d := 84) rfl (by kernel_rfl) (by kernel_rfl) (by kernel_rfl) (by kernel_rfl) (fun _ _ _ h => h) (Or.inr ⟨by kernel_rfl, rfl⟩) hHeld ?_
                      try simp only [Act.put, List.setIfInBounds_toArray, List.set_cons_zero, List.set_cons_succ]
                      refine take_at (i := 33) (oi := _) (v := undef) (d := 85) rfl (by kernel_rfl) (by kernel_rfl) (by kernel_rfl) (by kernel_rfl) (fun _ _ _ h => h) (Or.inr ⟨by kernel_rfl, rfl⟩) hHeld ?_
                      try simp only [Act.put, List.setIfInBounds_toArray, List.set_cons_zero, List.set_cons_succ]
                      refine take_at (i := 34) (oi := _) (v := undef) (d := 86) rfl (by kernel_rfl) (by kernel_rfl) (by kernel_rfl) (by kernel_rfl) (fun _ _ _ h => h) (Or.inr ⟨by kernel_rfl, rfl⟩) hHeld ?_
                      try simp only [Act.put, List.setIfInBounds_toArray, List.set_cons_zero, List.set_cons_succ]
                      refine take_at (i := 35) (oi := _) (v := undef) (d := 87) rfl (by kernel_rfl) (by kernel_rfl) (by kernel_rfl) (by kernel_rfl) (fun _ _ _ h => h) (Or.inr ⟨by kernel_rfl, rfl⟩) hHeld ?_
                      try simp only [Act.put, List.setIfInBounds_toArray, List.set_cons_zero, List.set_cons_succ]
                      refine take_at (i := 36) (oi := _) (v := ?_) (d := 88) rfl (by kernel_rfl) (by kernel_rfl) (by kernel_rfl) (by kernel_rfl) (fun _ _ _ h => h) (Or.inl ⟨by kernel_rfl, ?_⟩) hHeld ?_
                      rotate_left
                      · intro w0 hSw; (try dsimp only at hSw); go_simp <;> with_reducible rfl
                      try simp only [Act.put, List.setIfInBounds_toArray, List.set_cons_zero, List.set_cons_succ]
                      refine take_at (i := 37) (oi := _) (v := ?_) (d := 89) rfl (by kernel_rfl) (by kernel_rfl) (by kernel_rfl) (by kernel_rfl) (fun _ _ _ h => h) (Or.inl ⟨by kernel_rfl, ?_⟩) hHeld ?_
                      rotate_left
                      · intro w0 hSw; (try dsimp only at hSw); go_simp <;> with_reducible rfl
                      try simp only [Act.put, List.setIfInBounds_toArray, List.set_cons_zero, List.set_cons_succ]
                      refine wpAnyH_done (by kernel_rfl) ?_ _
                      have hbb := HBC.out.trans (hcum.mono HBC.out.size)
                      have HBB := Lib.hid hbb
                      clear hbb hcum hHeld
                      go_wp2
                      go_roundg (own.length - (i + 1))
                      case rel => exact ⟨i + 1, rfl, by omega, by go_num, HBB.out⟩
                      case measure => rw [HK.out]; omega
                    exact AllReadyH.nil
                  exact AllReadyH.nil
                exact AllReadyH.nil
              exact AllReadyH.nil
            exact AllReadyH.nil
          · have HOR := Lib.hid (eq_none hne)
            have HA := Lib.hid h1
            have HB := Lib.hid h2
            have HC := Lib.hid h3
            have HE := Lib.hid h4
            clear h1 h2 h3 h4 hne
            go_upto_region 8 with (fail)
            refine wp_region_held_drew (S := (fun w' : World => Below wc.heap.size wc w' ∧ w'.cell? ⟨pa, 0, none⟩ = some (.string p.word) ∧ w'.cell? ⟨pa, 1, none⟩ = some (.int .u32 p.weight) ∧ w'.cell? ⟨pa, 2, none⟩ = some (.bool p.gone) ∧ w'.cell? ⟨pa, 3, none⟩ = some (.int .i64 p.dist) ∧ w'.cell? ⟨pb, 0, none⟩ = some (.string q.word) ∧ w'.cell? ⟨pb, 1, none⟩ = some (.int .u32 q.weight) ∧ w'.cell? ⟨pb, 2, none⟩ = some (.bool q.gone) ∧ w'.cell? ⟨pb, 3, none⟩ = some (.int .i64 q.dist) ∧ w'.cell? ⟨pc, 0, none⟩ = some (.string r.word) ∧ w'.cell? ⟨pc, 1, none⟩ = some (.int .u32 r.weight) ∧ w'.cell? ⟨pc, 2, none⟩ = some (.bool r.gone) ∧ w'.cell? ⟨pc, 3, none⟩ = some (.int .i64 r.dist))) (by kernel_rfl) (MK2.out _ (Below.refl _ _).drew) (fun hHeld => ?_)
            refine take_at (i := 0) (oi := _) (v := ?_) (d := 52) rfl (by kernel_rfl) (by kernel_rfl) (by kernel_rfl) (by kernel_rfl) (fun _ _ _ h => h) (Or.inl ⟨by kernel_rfl, ?_⟩) hHeld ?_
            rotate_left
            · intro w0 hSw; (try dsimp only at hSw); go_simp <;> with_reducible rfl
            try simp only [Act.put, List.setIfInBounds_toArray, List.set_cons_zero, List.set_cons_succ]
            refine take_at (i := 1) (oi := _) (v := ?_) (d := 53) rfl (by kernel_rfl) (by kernel_rfl) (by kernel_rfl) (by kernel_rfl) (fun _ _ _ h => h) (Or.inl ⟨by kernel_rfl, ?_⟩) hHeld ?_
            rotate_left
            · intro w0 hSw; (try dsimp only at hSw); go_simp <;> with_reducible rfl
            try simp only [Act.put, List.setIfInBounds_toArray, List.set_cons_zero, List.set_cons_succ]
            refine wpAnyH_ready (rs := [2]) (by kernel_rfl) (by simp) ?_
            refine AllReadyH.cons (o := _) rfl (fun K hK => ?_) ?_
            · go_simp
              go_at_call 10; refine (less10' HA.out _).mono ?_
              rintro e w10 ⟨rfl, hb10⟩
              have hcum := keepL ((Below.refl _ _).drew : Below wc.heap.size wc _) hb10
              clear hb10
              go_wp2_with fail
              clear hHeld
              refine hK.out _ _ ?_ (fun hHeld => ?_)
              · exact MK2.out _ hcum
              clear hK K
              try simp only [Act.put, List.setIfInBounds_toArray, List.set_cons_zero, List.set_cons_succ]
              refine take_at (i := 3) (oi := _) (v := ?_) (d := 55) rfl (by kernel_rfl) (by kernel_rfl) (by kernel_rfl) (by kernel_rfl) (fun _ _ _ h => h) (Or.inl ⟨by kernel_rfl, ?_⟩) hHeld ?_
              rotate_left
              · intro w0 hSw; (try dsimp only at hSw); go_simp <;> with_reducible rfl
              try simp only [Act.put, List.setIfInBounds_toArray, List.set_cons_zero, List.set_cons_succ]
              refine take_at (i := 4) (oi := _) (v := ?_) (d := 56) rfl (by kernel_rfl) (by kernel_rfl) (by kernel_rfl) (by kernel_rfl) (fun _ _ _ h => h) (Or.inl ⟨by kernel_rfl, ?_⟩) hHeld ?_
              rotate_left
              · intro w0 hSw; (try dsimp only at hSw); go_simp <;> with_reducible rfl
              try simp only [Act.put, List.setIfInBounds_toArray, List.set_cons_zero, List.set_cons_succ]
              refine take_at (i := 5) (oi := _) (v := ?_) (d := 57) rfl (by kernel_rfl) (by kernel_rfl) (by kernel_rfl) (by kernel_rfl) (fun _ _ _ h => h) (Or.inl ⟨by kernel_rfl, ?_⟩) hHeld ?_
              rotate_left
              · intro w0 hSw; (try dsimp only at hSw); go_simp <;> with_reducible rfl
              try simp only [Act.put, List.setIfInBounds_toArray, List.set_cons_zero, List.set_cons_succ]
              refine wpAnyH_ready (rs := [6]) (by kernel_rfl) (by simp) ?_
              refine AllReadyH.cons (o := _) rfl (fun K hK => ?_) ?_
              · go_simp
                go_at_call 10; refine (less10' HB.out _).mono ?_
                rintro e w11 ⟨rfl, hb11⟩
                replace hcum := keepL hcum hb11
                clear hb11
                go_wp2_with fail
                clear hHeld
                refine hK.out _ _ ?_ (fun hHeld => ?_)
                · exact MK2.out _ hcum
                clear hK K
                try simp only [Act.put, List.setIfInBounds_toArray, List.set_cons_zero, List.set_cons_succ]
                refine take_at (i := 7) (oi := _) (v := ?_) (d := 59) rfl (by kernel_rfl) (by kernel_rfl) (by kernel_rfl) (by kernel_rfl) (fun _ _ _ h => h) (Or.inl ⟨by kernel_rfl, ?_⟩) hHeld ?_
                rotate_left
                · intro w0 hSw; (try dsimp only at hSw); go_simp <;> with_reducible rfl
                try simp only [Act.put, List.setIfInBounds_toArray, List.set_cons_zero, List.set_cons_succ]
                refine take_at (i := 8) (oi := _) (v := ?_) (d := 60) rfl (by kernel_rfl) (by kernel_rfl) (by kernel_rfl) (by kernel_rfl) (fun _ _ _ h => h) (Or.inl ⟨by kernel_rfl, ?_⟩) hHeld ?_
                rotate_left
                · intro w0 hSw; (try dsimp only at hSw); go_simp <;> with_reducible rfl
                try simp only [Act.put, List.setIfInBounds_toArray, List.set_cons_zero, List.set_cons_succ]
                refine take_at (i := 9) (oi := _) (v := ?_) (d := 61) rfl (by kernel_rfl) (by kernel_rfl) (by kernel_rfl) (by kernel_rfl) (fun _ _ _ h => h) (Or.inl ⟨by kernel_rfl, ?_⟩) hHeld ?_
                rotate_left
                · intro w0 hSw; (try dsimp only at hSw); go_simp <;> with_reducible rfl
                try simp only [Act.put, List.setIfInBounds_toArray, List.set_cons_zero, List.set_cons_succ]
                refine take_at (i := 10) (oi := _) (v := ?_) (d := 62) rfl (by kernel_rfl) (by kernel_rfl) (by kernel_rfl) (by kernel_rfl) (fun _ _ _ h => h) (Or.inl ⟨by kernel_rfl, ?_⟩) hHeld ?_
                rotate_left
                · intro w0 hSw; (try dsimp only at hSw); go_simp <;> with_reducible rfl
                try simp only [Act.put, List.setIfInBounds_toArray, List.set_cons_zero, List.set_cons_succ]
                refine take_at (i := 11) (oi := _) (v := .bool true) (d := 63) rfl (by kernel_rfl) (by kernel_rfl) (by kernel_rfl) (by kernel_rfl) (fun _ _ _ h => h) (Or.inl ⟨by kernel_rfl, ?_⟩) hHeld ?_
                · intro w0 hSw; (try dsimp only at hSw); rcases HOR.out with h | h | h | h <;> go_simp
                try simp only [Act.put, List.setIfInBounds_toArray, List.set_cons_zero, List.set_cons_succ]
                refine take_at (i := 12) (oi := _) (v := ?_) (d := 64) rfl (by kernel_rfl) (by kernel_rfl) (by kernel_rfl) (by kernel_rfl) (fun _ _ _ h => h) (Or.inl ⟨by kernel_rfl, ?_⟩) hHeld ?_
                rotate_left
                · intro w0 hSw; (try dsimp only at hSw); go_simp <;> with_reducible rfl
                try simp only [Act.put, List.setIfInBounds_toArray, List.set_cons_zero, List.set_cons_succ]
                refine take_at (i := 13) (oi := _) (v := ?_) (d := 65) rfl (by kernel_rfl) (by kernel_rfl) (by kernel_rfl) (by kernel_rfl) (fun _ _ _ h => h) (Or.inl ⟨by kernel_rfl, ?_⟩) hHeld ?_
                rotate_left
                · intro w0 hSw; (try dsimp only at hSw); go_simp <;> with_reducible rfl
                try simp only [Act.put, List.setIfInBounds_toArray, List.set_cons_zero, List.set_cons_succ]
                refine wpAnyH_ready (rs := [14]) (by kernel_rfl) (by simp) ?_
                refine AllReadyH.cons (o := _) rfl (fun K hK => ?_) ?_
                · go_simp
                  go_at_call 10; refine (less10' HA.out _).mono ?_
                  rintro e w12 ⟨rfl, hb12⟩
                  replace hcum := keepL hcum hb12
                  clear hb12
                  go_wp2_with fail
                  clear hHeld
                  refine hK.out _ _ ?_ (fun hHeld => ?_)
                  · exact MK2.out _ hcum
                  clear hK K
                  try simp only [Act.put, List.setIfInBounds_toArray, List.set_cons_zero, List.set_cons_succ]
                  refine take_at (i := 15) (oi := _) (v := ?_) (d := 67) rfl (by kernel_rfl) (by kernel_rfl) (by kernel_rfl) (by kernel_rfl) (fun _ _ _ h => h) (Or.inl ⟨by kernel_rfl, ?_⟩) hHeld ?_
                  rotate_left
                  · intro w0 hSw; (try dsimp only at hSw); go_simp <;> with_reducible rfl
                  try simp only [Act.put, List.setIfInBounds_toArray, List.set_cons_zero, List.set_cons_succ]
                  refine take_at (i := 16) (oi := _) (v := undef) (d := 68) rfl (by kernel_rfl) (by kernel_rfl) (by kernel_rfl) (by kernel_rfl) (fun _ _ _ h => h) (Or.inr ⟨by kernel_rfl, rfl⟩) hHeld ?_
                  try simp only [Act.put, List.setIfInBounds_toArray, List.set_cons_zero, List.set_cons_succ]
                  refine take_at (i := 17) (oi := _) (v := undef) (d := 69) rfl (by kernel_rfl) (by kernel_rfl) (by kernel_rfl) (by kernel_rfl) (fun _ _ _ h => h) (Or.inr ⟨by kernel_rfl, rfl⟩) hHeld ?_
                  try simp only [Act.put, List.setIfInBounds_toArray, List.set_cons_zero, List.set_cons_succ]
                  refine take_at (i := 18) (oi := _) (v := undef) (d := 70) rfl (by kernel_rfl) (by kernel_rfl) (by kernel_rfl) (by kernel_rfl) (fun _ _ _ h => h) (Or.inr ⟨by kernel_rfl, rfl⟩) hHeld ?_
                  try simp only [Act.put, List.setIfInBounds_toArray, List.set_cons_zero, List.set_cons_succ]
                  refine take_at (i := 19) (oi := _) (v := ?_) (d := 71) rfl (by kernel_rfl) (by kernel_rfl) (by kernel_rfl) (by kernel_rfl) (fun _ _ _ h => h) (Or.inl ⟨by kernel_rfl, ?_⟩) hHeld ?_
                  rotate_left
                  · intro w0 hSw; (try dsimp only at hSw); go_simp <;> with_reducible rfl
                  try simp only [Act.put, List.setIfInBounds_toArray, List.set_cons_zero, List.set_cons_succ]
                  refine take_at (i := 20) (oi := _) (v := ?_) (d := 72) rfl (by kernel_rfl) (by kernel_rfl) (by kernel_rfl) (by kernel_rfl) (fun _ _ _ h => h) (Or.inl ⟨by kernel_rfl, ?_⟩) hHeld ?_
                  rotate_left
                  · intro w0 hSw; (try dsimp only at hSw); go_simp <;> with_reducible rfl
                  try simp only [Act.put, List.setIfInBounds_toArray, List.set_cons_zero, List.set_cons_succ]
                  refine take_at (i := 21) (oi := _) (v := ?_) (d := 73) rfl (by kernel_rfl) (by kernel_rfl) (by kernel_rfl) (by kernel_rfl) (fun _ _ _ h => h) (Or.inl ⟨by kernel_rfl, ?_⟩) hHeld ?_
                  rotate_left
                  · intro w0 hSw; (try dsimp only at hSw); go_simp <;> with_reducible rfl
                  try simp only [Act.put, List.setIfInBounds_toArray, List.set_cons_zero, List.set_cons_succ]
                  refine take_at (i := 22) (oi := _) (v := ?_) (d := 74) rfl (by kernel_rfl) (by kernel_rfl) (by kernel_rfl) (by kernel_rfl) (fun _ _ _ h => h) (Or.inl ⟨by kernel_rfl, ?_⟩) hHeld ?_
                  rotate_left
                  · intro w0 hSw; (try dsimp only at hSw); go_simp <;> with_reducible rfl
                  try simp only [Act.put, List.setIfInBounds_toArray, List.set_cons_zero, List.set_cons_succ]
                  refine take_at (i := 23) (oi := _) (v := ?_) (d := 75) rfl (by kernel_rfl) (by kernel_rfl) (by kernel_rfl) (by kernel_rfl) (fun _ _ _ h => h) (Or.inl ⟨by kernel_rfl, ?_⟩) hHeld ?_
                  rotate_left
                  · intro w0 hSw; (try dsimp only at hSw); go_simp <;> with_reducible rfl
                  try simp only [Act.put, List.setIfInBounds_toArray, List.set_cons_zero, List.set_cons_succ]
                  refine take_at (i := 24) (oi := _) (v := ?_) (d := 76) rfl (by kernel_rfl) (by kernel_rfl) (by kernel_rfl) (by kernel_rfl) (fun _ _ _ h => h) (Or.inl ⟨by kernel_rfl, ?_⟩) hHeld ?_
                  rotate_left
                  · intro w0 hSw; (try dsimp only at hSw); go_simp <;> with_reducible rfl
                  try simp only [Act.put, List.setIfInBounds_toArray, List.set_cons_zero, List.set_cons_succ]
                  refine wpAnyH_ready (rs := [25]) (by kernel_rfl) (by simp) ?_
                  refine AllReadyH.cons (o := _) rfl (fun K hK => ?_) ?_
                  · go_simp
                    go_at_call 10; refine (less10' HA.out _).mono ?_
                    rintro e w13 ⟨rfl, hb13⟩
                    replace hcum := keepL hcum hb13
                    clear hb13
                    go_wp2_with fail
                    clear hHeld
                    refine hK.out _ _ ?_ (fun hHeld => ?_)
                    · exact MK2.out _ hcum
                    clear hK K
                    try simp only [Act.put, List.setIfInBounds_toArray, List.set_cons_zero, List.set_cons_succ]
                    refine take_at (i := 26) (oi := _) (v := ?_) (d := 78) rfl (by kernel_rfl) (by kernel_rfl) (by kernel_rfl) (by kernel_rfl) (fun _ _ _ h => h) (Or.inl ⟨by kernel_rfl, ?_⟩) hHeld ?_
                    rotate_left
                    · intro w0 hSw; (try dsimp only at hSw); go_simp <;> with_reducible rfl
                    try simp only [Act.put, List.setIfInBounds_toArray, List.set_cons_zero, List.set_cons_succ]
                    refine take_at (i := 27) (oi := _) (v := ?_) (d := 79) rfl (by kernel_rfl) (by kernel_rfl) (by kernel_rfl) (by kernel_rfl) (fun _ _ _ h => h) (Or.inl ⟨by kernel_rfl, ?_⟩) hHeld ?_
                    rotate_left
                    · intro w0 hSw; (try dsimp only at hSw); go_simp <;> with_reducible rfl
                    try simp only [Act.put, List.setIfInBounds_toArray, List.set_cons_zero, List.set_cons_succ]
                    refine take_at (i := 28) (oi := _) (v := ?_) (d := 80) rfl (by kernel_rfl) (by kernel_rfl) (by kernel_rfl) (by kernel_rfl) (fun _ _ _ h => h) (Or.inl ⟨by kernel_rfl, ?_⟩) hHeld ?_
                    rotate_left
                    · intro w0 hSw; (try dsimp only at hSw); go_simp <;> with_reducible rfl
                    try simp only [Act.put, List.setIfInBounds_toArray, List.set_cons_zero, List.set_cons_succ]
                    refine wpAnyH_ready (rs := [29]) (by kernel_rfl) (by simp) ?_
                    refine AllReadyH.cons (o := _) rfl (fun K hK => ?_) ?_
                    · go_simp
                      go_at_call 10; refine (less10' HC.out _).mono ?_
                      rintro e w14 ⟨rfl, hb14⟩
                      replace hcum := keepL hcum hb14
                      clear hb14
                      go_wp2_with fail
                      clear hHeld
                      refine hK.out _ _ ?_ (fun hHeld => ?_)
                      · exact MK2.out _ hcum
                      clear hK K
                      try simp only [Act.put, List.setIfInBounds_toArray, List.set_cons_zero, List.set_cons_succ]
                      refine take_at (i := 30) (oi := _) (v := ?_) (d := 82) rfl (by kernel_rfl) (by kernel_rfl) (by kernel_rfl) (by kernel_rfl) (fun _ _ _ h => h) (Or.inl ⟨by kernel_rfl, ?_⟩) hHeld ?_
                      rotate_left
                      · intro w0 hSw; (try dsimp only at hSw); go_simp <;> with_reducible rfl
                      try simp only [Act.put, List.setIfInBounds_toArray, List.set_cons_zero, List.set_cons_succ]
                      refine take_at (i := 31) (oi := _) (v := ?_) (d := 83) rfl (by kernel_rfl) (by kernel_rfl) (by kernel_rfl) (by kernel_rfl) (fun _ _ _ h => h) (Or.inl ⟨by kernel_rfl, ?_⟩) hHeld ?_
                      rotate_left
                      · intro w0 hSw; (try dsimp only at hSw); go_simp <;> with_reducible rfl
                      try simp only [Act.put, List.setIfInBounds_toArray, List.set_cons_zero, List.set_cons_succ]
                      refine take_at (i := 32) (oi := _) (v := ?_) (d := 84) rfl (by kernel_rfl) (by kernel_rfl) (by kernel_rfl) (by kernel_rfl) (fun _ _ _ h => h) (Or.inl ⟨by kernel_rfl, ?_⟩) hHeld ?_
                      rotate_left
                      · intro w0 hSw; (try dsimp only at hSw); go_simp <;> with_reducible rfl
                      try simp only [Act.put, List.setIfInBounds_toArray, List.set_cons_zero, List.set_cons_succ]
                      refine take_at (i := 33) (oi := _) (v := ?_) (d := 85) rfl (by kernel_rfl) (by kernel_rfl) (by kernel_rfl) (by kernel_rfl) (fun _ _ _ h => h) (Or.inl ⟨by kernel_rfl, ?_⟩) hHeld ?_
                      rotate_left
                      · intro w0 hSw; (try dsimp only at hSw); go_simp <;> with_reducible rfl
                      try simp only [Act.put, List.setIfInBounds_toArray, List.set_cons_zero, List.set_cons_succ]
                      refine wpAnyH_ready (rs := [34]) (by kernel_rfl) (by simp) ?_
                      refine AllReadyH.cons (o := _) rfl (fun K hK => ?_) ?_
                      · go_simp
                        go_at_call 10; refine (less10' HE.out _).mono ?_
                        rintro e w15 ⟨rfl, hb15⟩
                        replace hcum := keepL hcum hb15
                        clear hb15
                        go_wp2_with fail
                        clear hHeld
                        refine hK.out _ _ ?_ (fun hHeld => ?_)
                        · exact MK2.out _ hcum
                        clear hK K
                        try simp only [Act.put, List.setIfInBounds_toArray, List.set_cons_zero, List.set_cons_succ]
                        refine take_at (i := 35) (oi := _) (v := ?_) (d := 87) rfl (by kernel_rfl) (by kernel_rfl) (by kernel_rfl) (by kernel_rfl) (fun _ _ _ h => h) (Or.inl ⟨by kernel_rfl, ?_⟩) hHeld ?_
                        rotate_left
                        · intro w0 hSw; (try dsimp only at hSw); go_simp <;> with_reducible rfl
                        try simp only [Act.put, List.setIfInBounds_toArray, List.set_cons_zero, List.set_cons_succ]
                        refine take_at (i := 36) (oi := _) (v := ?_) (d := 88) rfl (by kernel_rfl) (by kernel_rfl) (by kernel_rfl) (by kernel_rfl) (fun _ _ _ h => h) (Or.inl ⟨by kernel_rfl, ?_⟩) hHeld ?_
                        rotate_left
                        · intro w0 hSw; (try dsimp only at hSw); go_simp <;> with_reducible rfl
                        try simp only [Act.put, List.setIfInBounds_toArray, List.set_cons_zero, List.set_cons_succ]
                        refine take_at (i := 37) (oi := _) (v := ?_) (d := 89) rfl (by kernel_rfl) (by kernel_rfl) (by kernel_rfl) (by kernel_rfl) (fun _ _ _ h => h) (Or.inl ⟨by kernel_rfl, ?_⟩) hHeld ?_
                        rotate_left
                        · intro w0 hSw; (try dsimp only at hSw); go_simp <;> with_reducible rfl
                        try simp only [Act.put, List.setIfInBounds_toArray, List.set_cons_zero, List.set_cons_succ]
                        refine wpAnyH_done (by kernel_rfl) ?_ _
                        have hbb := HBC.out.trans (hcum.mono HBC.out.size)
                        have HBB := Lib.hid hbb
                        clear hbb hcum hHeld
                        go_wp2
                        go_roundg (own.length - (i + 1))
                        case rel => exact ⟨i + 1, rfl, by omega, by go_num, HBB.out⟩
                        case measure => rw [HK.out]; omega
                      exact AllReadyH.nil
                    exact AllReadyH.nil
                  exact AllReadyH.nil
                exact AllReadyH.nil
              exact AllReadyH.nil
            exact AllReadyH.nil
          · have HOR := Lib.hid (eq_none hne)
            have HA := Lib.hid h1
            have HB := Lib.hid h2
            clear h1 h2 hne
            go_upto_region 8 with (fail)
            refine wp_region_held_drew (S := (fun w' : World => Below wc.heap.size wc w' ∧ w'.cell? ⟨pa, 0, none⟩ = some (.string p.word) ∧ w'.cell? ⟨pa, 1, none⟩ = some (.int .u32 p.weight) ∧ w'.cell? ⟨pa, 2, none⟩ = some (.bool p.gone) ∧ w'.cell? ⟨pa, 3, none⟩ = some (.int .i64 p.dist) ∧ w'.cell? ⟨pb, 0, none⟩ = some (.string q.word) ∧ w'.cell? ⟨pb, 1, none⟩ = some (.int .u32 q.weight) ∧ w'.cell? ⟨pb, 2, none⟩ = some (.bool q.gone) ∧ w'.cell? ⟨pb, 3, none⟩ = some (.int .i64 q.dist) ∧ w'.cell? ⟨pc, 0, none⟩ = some (.string r.word) ∧ w'.cell? ⟨pc, 1, none⟩ = some (.int .u32 r.weight) ∧ w'.cell? ⟨pc, 2, none⟩ = some (.bool r.gone) ∧ w'.cell? ⟨pc, 3, none⟩ = some (.int .i64 r.dist))) (by kernel_rfl) (MK2.out _ (Below.refl _ _).drew) (fun hHeld => ?_)
            refine take_at (i := 0) (oi := _) (v := ?_) (d := 52) rfl (by kernel_rfl) (by kernel_rfl) (by kernel_rfl) (by kernel_rfl) (fun _ _ _ h => h) (Or.inl ⟨by kernel_rfl, ?_⟩) hHeld ?_
            rotate_left
            · intro w0 hSw; (try dsimp only at hSw); go_simp <;> with_reducible rfl
            try simp only [Act.put, List.setIfInBounds_toArray, List.set_cons_zero, List.set_cons_succ]
            refine take_at (i := 1) (oi := _) (v := ?_) (d := 53) rfl (by kernel_rfl) (by kernel_rfl) (by kernel_rfl) (by kernel_rfl) (fun _ _ _ h => h) (Or.inl ⟨by kernel_rfl, ?_⟩) hHeld ?_
            rotate_left
            · intro w0 hSw; (try dsimp only at hSw); go_simp <;> with_reducible rfl
            try simp only [Act.put, List.setIfInBounds_toArray, List.set_cons_zero, List.set_cons_succ]
            refine wpAnyH_ready (rs := [2]) (by kernel_rfl) (by simp) ?_
            refine AllReadyH.cons (o := _) rfl (fun K hK => ?_) ?_
            · go_simp
              go_at_call 10; refine (less10' HA.out _).mono ?_
              rintro e w16 ⟨rfl, hb16⟩
              have hcum := keepL ((Below.refl _ _).drew : Below wc.heap.size wc _) hb16
              clear hb16
              go_wp2_with fail
              clear hHeld
              refine hK.out _ _ ?_ (fun hHeld => ?_)
              · exact MK2.out _ hcum
              clear hK K
              try simp only [Act.put, List.setIfInBounds_toArray, List.set_cons_zero, List.set_cons_succ]
              refine take_at (i := 3) (oi := _) (v := ?_) (d := 55) rfl (by kernel_rfl) (by kernel_rfl) (by kernel_rfl) (by kernel_rfl) (fun _ _ _ h => h) (Or.inl ⟨by kernel_rfl, ?_⟩) hHeld ?_
              rotate_left
              · intro w0 hSw; (try dsimp only at hSw); go_simp <;> with_reducible rfl
              try simp only [Act.put, List.setIfInBounds_toArray, List.set_cons_zero, List.set_cons_succ]
              refine take_at (i := 4) (oi := _) (v := undef) (d := 56) rfl (by kernel_rfl) (by kernel_rfl) (by kernel_rfl) (by kernel_rfl) (fun _ _ _ h => h) (Or.inr ⟨by kernel_rfl, rfl⟩) hHeld ?_
              try simp only [Act.put, List.setIfInBounds_toArray, List.set_cons_zero, List.set_cons_succ]
              refine take_at (i := 5) (oi := _) (v := undef) (d := 57) rfl (by kernel_rfl) (by kernel_rfl) (by kernel_rfl) (by kernel_rfl) (fun _ _ _ h => h) (Or.inr ⟨by kernel_rfl, rfl⟩) hHeld ?_
              try simp only [Act.put, List.setIfInBounds_toArray, List.set_cons_zero, List.set_cons_succ]
              refine take_at (i := 6) (oi := _) (v := undef) (d := 58) rfl (by kernel_rfl) (by kernel_rfl) (by kernel_rfl) (by kernel_rfl) (fun _ _ _ h => h) (Or.inr ⟨by kernel_rfl, rfl⟩) hHeld ?_
              try simp only [Act.put, List.setIfInBounds_toArray, List.set_cons_zero, List.set_cons_succ]
              refine take_at (i := 7) (oi := _) (v := ?_) (d := 59) rfl (by kernel_rfl) (by kernel_rfl) (by kernel_rfl) (by kernel_rfl) (fun _ _ _ h => h) (Or.inl ⟨by kernel_rfl, ?_⟩) hHeld ?_
              rotate_left
              · intro w0 hSw; (try dsimp only at hSw); go_simp <;> with_reducible rfl
              try simp only [Act.put, List.setIfInBounds_toArray, List.set_cons_zero, List.set_cons_succ]
              refine take_at (i := 8) (oi := _) (v := ?_) (d := 60) rfl (by kernel_rfl) (by kernel_rfl) (by kernel_rfl) (by kernel_rfl) (fun _ _ _ h => h) (Or.inl ⟨by kernel_rfl, ?_⟩) hHeld ?_
              rotate_left
              · intro w0 hSw; (try dsimp only at hSw); go_simp <;> with_reducible rfl
              try simp only [Act.put, List.setIfInBounds_toArray, List.set_cons_zero, List.set_cons_succ]
              refine take_at (i := 9) (oi := _) (v := ?_) (d := 61) rfl (by kernel_rfl) (by kernel_rfl) (by kernel_rfl) (by kernel_rfl) (fun _ _ _ h => h) (Or.inl ⟨by kernel_rfl, ?_⟩) hHeld ?_
              rotate_left
              · intro w0 hSw; (try dsimp only at hSw); go_simp <;> with_reducible rfl
              try simp only [Act.put, List.setIfInBounds_toArray, List.set_cons_zero, List.set_cons_succ]
              refine take_at (i := 10) (oi := _) (v := ?_) (d := 62) rfl (by kernel_rfl) (by kernel_rfl) (by kernel_rfl) (by kernel_rfl) (fun _ _ _ h => h) (Or.inl ⟨by kernel_rfl, ?_⟩) hHeld ?_
              rotate_left
              · intro w0 hSw; (try dsimp only at hSw); go_simp <;> with_reducible rfl
              try simp only [Act.put, List.setIfInBounds_toArray, List.set_cons_zero, List.set_cons_succ]
              refine take_at (i := 11) (oi := _) (v := .bool true) (d := 63) rfl (by kernel_rfl) (by kernel_rfl) (by kernel_rfl) (by kernel_rfl) (fun _ _ _ h => h) (Or.inl ⟨by kernel_rfl, ?_⟩) hHeld ?_
              · intro w0 hSw; (try dsimp only at hSw); rcases HOR.out with h | h | h | h <;> go_simp
              try simp only [Act.put, List.setIfInBounds_toArray, List.set_cons_zero, List.set_cons_succ]
              refine take_at (i := 12) (oi := _) (v := ?_) (d := 64) rfl (by kernel_rfl) (by kernel_rfl) (by kernel_rfl) (by kernel_rfl) (fun _ _ _ h => h) (Or.inl ⟨by kernel_rfl, ?_⟩) hHeld ?_
              rotate_left
              · intro w0 hSw; (try dsimp only at hSw); go_simp <;> with_reducible rfl
              try simp only [Act.put, List.setIfInBounds_toArray, List.set_cons_zero, List.set_cons_succ]
              refine take_at (i := 13) (oi := _) (v := ?_) (d := 65) rfl (by kernel_rfl) (by kernel_rfl) (by kernel_rfl) (by kernel_rfl) (fun _ _ _ h => h) (Or.inl ⟨by kernel_rfl, ?_⟩) hHeld ?_
              rotate_left
              · intro w0 hSw; (try dsimp only at hSw); go_simp <;> with_reducible rfl
              try simp only [Act.put, List.setIfInBounds_toArray, List.set_cons_zero, List.set_cons_succ]
              refine wpAnyH_ready (rs := [14]) (by kernel_rfl) (by simp) ?_
              refine AllReadyH.cons (o := _) rfl (fun K hK => ?_) ?_
              · go_simp
                go_at_call 10; refine (less10' HA.out _).mono ?_
                rintro e w17 ⟨rfl, hb17⟩
                replace hcum := keepL hcum hb17
                clear hb17
                go_wp2_with fail
                clear hHeld
                refine hK.out _ _ ?_ (fun hHeld => ?_)
                · exact MK2.out _ hcum
                clear hK K
                try simp only [Act.put, List.setIfInBounds_toArray, List.set_cons_zero, List.set_cons_succ]
                refine take_at (i := 15) (oi := _) (v := ?_) (d := 67) rfl (by kernel_rfl) (by kernel_rfl) (by kernel_rfl) (by kernel_rfl) (fun _ _ _ h => h) (Or.inl ⟨by kernel_rfl, ?_⟩) hHeld ?_
                rotate_left
                · intro w0 hSw; (try dsimp only at hSw); go_simp <;> with_reducible rfl
                try simp only [Act.put, List.setIfInBounds_toArray, List.set_cons_zero, List.set_cons_succ]
                refine take_at (i := 16) (oi := _) (v := ?_) (d := 68) rfl (by kernel_rfl) (by kernel_rfl) (by kernel_rfl) (by kernel_rfl) (fun _ _ _ h => h) (Or.inl ⟨by kernel_rfl, ?_⟩) hHeld ?_
                rotate_left
                · intro w0 hSw; (try dsimp only at hSw); go_simp <;> with_reducible rfl
                try simp only [Act.put, List.setIfInBounds_toArray, List.set_cons_zero, List.set_cons_succ]
                refine take_at (i := 17) (oi := _) (v := ?_) (d := 69) rfl (by kernel_rfl) (by kernel_rfl) (by kernel_rfl) (by kernel_rfl) (fun _ _ _ h => h) (Or.inl ⟨by kernel_rfl, ?_⟩) hHeld ?_
                rotate_left
                · intro w0 hSw; (try dsimp only at hSw); go_simp <;> with_reducible rfl
                try simp only [Act.put, List.setIfInBounds_toArray, List.set_cons_zero, List.set_cons_succ]
                refine wpAnyH_ready (rs := [18]) (by kernel_rfl) (by simp) ?_
                refine AllReadyH.cons (o := _) rfl (fun K hK => ?_) ?_
                · go_simp
                  go_at_call 10; refine (less10' HB.out _).mono ?_
                  rintro e w18 ⟨rfl, hb18⟩
                  replace hcum := keepL hcum hb18
                  clear hb18
                  go_wp2_with fail
                  clear hHeld
                  refine hK.out _ _ ?_ (fun hHeld => ?_)
                  · exact MK2.out _ hcum
                  clear hK K
                  try simp only [Act.put, List.setIfInBounds_toArray, List.set_cons_zero, List.set_cons_succ]
                  refine take_at (i := 19) (oi := _) (v := ?_) (d := 71) rfl (by kernel_rfl) (by kernel_rfl) (by kernel_rfl) (by kernel_rfl) (fun _ _ _ h => h) (Or.inl ⟨by kernel_rfl, ?_⟩) hHeld ?_
                  rotate_left
                  · intro w0 hSw; (try dsimp only at hSw); go_simp <;> with_reducible rfl
                  try simp only [Act.put, List.setIfInBounds_toArray, List.set_cons_zero, List.set_cons_succ]
                  refine take_at (i := 20) (oi := _) (v := ?_) (d := 72) rfl (by kernel_rfl) (by kernel_rfl) (by kernel_rfl) (by kernel_rfl) (fun _ _ _ h => h) (Or.inl ⟨by kernel_rfl, ?_⟩) hHeld ?_
                  rotate_left
                  · intro w0 hSw; (try dsimp only at hSw); go_simp <;> with_reducible rfl
                  try simp only [Act.put, List.setIfInBounds_toArray, List.set_cons_zero, List.set_cons_succ]
                  refine take_at (i := 21) (oi := _) (v := ?_) (d := 73) rfl (by kernel_rfl) (by kernel_rfl) (by kernel_rfl) (by kernel_rfl) (fun _ _ _ h => h) (Or.inl ⟨by kernel_rfl, ?_⟩) hHeld ?_
                  rotate_left
                  · intro w0 hSw; (try dsimp only at hSw); go_simp <;> with_reducible rfl
                  try simp only [Act.put, List.setIfInBounds_toArray, List.set_cons_zero, List.set_cons_succ]
                  refine take_at (i := 22) (oi := _) (v := ?_) (d := 74) rfl (by kernel_rfl) (by kernel_rfl) (by kernel_rfl) (by kernel_rfl) (fun _ _ _ h => h) (Or.inl ⟨by kernel_rfl, ?_⟩) hHeld ?_
                  rotate_left
                  · intro w0 hSw; (try dsimp only at hSw); go_simp <;> with_reducible rfl
                  try simp only [Act.put, List.setIfInBounds_toArray, List.set_cons_zero, List.set_cons_succ]
                  refine take_at (i := 23) (oi := _) (v := ?_) (d := 75) rfl (by kernel_rfl) (by kernel_rfl) (by kernel_rfl) (by kernel_rfl) (fun _ _ _ h => h) (Or.inl ⟨by kernel_rfl, ?_⟩) hHeld ?_
                  rotate_left
                  · intro w0 hSw; (try dsimp only at hSw); go_simp <;> with_reducible rfl
                  try simp only [Act.put, List.setIfInBounds_toArray, List.set_cons_zero, List.set_cons_succ]
                  refine take_at (i := 24) (oi := _) (v := ?_) (d := 76) rfl (by kernel_rfl) (by kernel_rfl) (by kernel_rfl) (by kernel_rfl) (fun _ _ _ h => h) (Or.inl ⟨by kernel_rfl, ?_⟩) hHeld ?_
                  rotate_left
                  · intro w0 hSw; (try dsimp only at hSw); go_simp <;> with_reducible rfl
                  try simp only [Act.put, List.setIfInBounds_toArray, List.set_cons_zero, List.set_cons_succ]
                  refine wpAnyH_ready (rs := [25]) (by kernel_rfl) (by simp) ?_
                  refine AllReadyH.cons (o := _) rfl (fun K hK => ?_) ?_
                  · go_simp
                    go_at_call 10; refine (less10' HA.out _).mono ?_
                    rintro e w19 ⟨rfl, hb19⟩
                    replace hcum := keepL hcum hb19
                    clear hb19
                    go_wp2_with fail
                    clear hHeld
                    refine hK.out _ _ ?_ (fun hHeld => ?_)
                    · exact MK2.out _ hcum
                    clear hK K
                    try simp only [Act.put, List.setIfInBounds_toArray, List.set_cons_zero, List.set_cons_succ]
                    refine take_at (i := 26) (oi := _) (v := ?_) (d := 78) rfl (by kernel_rfl) (by kernel_rfl) (by kernel_rfl) (by kernel_rfl) (fun _ _ _ h => h) (Or.inl ⟨by kernel_rfl, ?_⟩) hHeld ?_
                    rotate_left
                    · intro w0 hSw; (try dsimp only at hSw); go_simp <;> with_reducible rfl
                    try simp only [Act.put, List.setIfInBounds_toArray, List.set_cons_zero, List.set_cons_succ]
                    refine take_at (i := 27) (oi := _) (v := undef) (d := 79) rfl (by kernel_rfl) (by kernel_rfl) (by kernel_rfl) (by kernel_rfl) (fun _ _ _ h => h) (Or.inr ⟨by kernel_rfl, rfl⟩) hHeld ?_
                    try simp only [Act.put, List.setIfInBounds_toArray, List.set_cons_zero, List.set_cons_succ]
                    refine take_at (i := 28) (oi := _) (v := undef) (d := 80) rfl (by kernel_rfl) (by kernel_rfl) (by kernel_rfl) (by kernel_rfl) (fun _ _ _ h => h) (Or.inr ⟨by kernel_rfl, rfl⟩) hHeld ?_
                    try simp only [Act.put, List.setIfInBounds_toArray, List.set_cons_zero, List.set_cons_succ]
                    refine take_at (i := 29) (oi := _) (v := undef) (d := 81) rfl (by kernel_rfl) (by kernel_rfl) (by kernel_rfl) (by kernel_rfl) (fun _ _ _ h => h) (Or.inr ⟨by kernel_rfl, rfl⟩) hHeld ?_
                    try simp only [Act.put, List.setIfInBounds_toArray, List.set_cons_zero, List.set_cons_succ]
                    refine take_at (i := 30) (oi := _) (v := ?_) (d := 82) rfl (by kernel_rfl) (by kernel_rfl) (by kernel_rfl) (by kernel_rfl) (fun _ _ _ h => h) (Or.inl ⟨by kernel_rfl, ?_⟩) hHeld ?_
                    rotate_left
                    · intro w0 hSw; (try dsimp only at hSw); go_simp <;> with_reducible rfl
                    try simp only [Act.put, List.setIfInBounds_toArray, List.set_cons_zero, List.set_cons_succ]
                    refine take_at (i := 31) (oi := _) (v := ?_) (d := 83) rfl (by kernel_rfl) (by kernel_rfl) (by kernel_rfl) (by kernel_rfl) (fun _ _ _ h => h) (Or.inl ⟨by kernel_rfl, ?_⟩) hHeld ?_
                    rotate_left
                    · intro w0 hSw; (try dsimp only at hSw); go_simp <;> with_reducible rfl
                    try simp only [Act.put, List.setIfInBounds_toArray, List.set_cons_zero, List.set_cons_succ]
                    refine take_at (i := 32) (oi := _) (v := undef) (d := 84) rfl (by kernel_rfl) (by kernel_rfl) (by kernel_rfl) (by kernel_rfl) (fun _ _ _ h => h) (Or.inr ⟨by kernel_rfl, rfl⟩) hHeld ?_
                    try simp only [Act.put, List.setIfInBounds_toArray, List.set_cons_zero, List.set_cons_succ]
                    refine take_at (i := 33) (oi := _) (v := undef) (d := 85) rfl (by kernel_rfl) (by kernel_rfl) (by kernel_rfl) (by kernel_rfl) (fun _ _ _ h => h) (Or.inr ⟨by kernel_rfl, rfl⟩) hHeld ?_
                    try simp only [Act.put, List.setIfInBounds_toArray, List.set_cons_zero, List.set_cons_succ]
                    refine take_at (i := 34) (oi := _) (v := undef) (d := 86) rfl (by kernel_rfl) (by kernel_rfl) (by kernel_rfl) (by kernel_rfl) (fun _ _ _ h => h) (Or.inr ⟨by kernel_rfl, rfl⟩) hHeld ?_
                    try simp only [Act.put, List.setIfInBounds_toArray, List.set_cons_zero, List.set_cons_succ]
                    refine take_at (i := 35) (oi := _) (v := undef) (d := 87) rfl (by kernel_rfl) (by kernel_rfl) (by kernel_rfl) (by kernel_rfl) (fun _ _ _ h => h) (Or.inr ⟨by kernel_rfl, rfl⟩) hHeld ?_
                    try simp only [Act.put, List.setIfInBounds_toArray, List.set_cons_zero, List.set_cons_succ]
                    refine take_at (i := 36) (oi := _) (v := ?_) (d := 88) rfl (by kernel_rfl) (by kernel_rfl) (by kernel_rfl) (by kernel_rfl) (fun _ _ _ h => h) (Or.inl ⟨by kernel_rfl, ?_⟩) hHeld ?_
                    rotate_left
                    · intro w0 hSw; (try dsimp only at hSw); go_simp <;> with_reducible rfl
                    try simp only [Act.put, List.setIfInBounds_toArray, List.set_cons_zero, List.set_cons_succ]
                    refine take_at (i := 37) (oi := _) (v := ?_) (d := 89) rfl (by kernel_rfl) (by kernel_rfl) (by kernel_rfl) (by kernel_rfl) (fun _ _ _ h => h) (Or.inl ⟨by kernel_rfl, ?_⟩) hHeld ?_
                    rotate_left
                    · intro w0 hSw; (try dsimp only at hSw); go_simp <;> with_reducible rfl
                    try simp only [Act.put, List.setIfInBounds_toArray, List.set_cons_zero, List.set_cons_succ]
                    refine wpAnyH_done (by kernel_rfl) ?_ _
                    have hbb := HBC.out.trans (hcum.mono HBC.out.size)
                    have HBB := Lib.hid hbb
                    clear hbb hcum hHeld
                    go_wp2
                    go_roundg (own.length - (i + 1))
                    case rel => exact ⟨i + 1, rfl, by omega, by go_num, HBB.out⟩
                    case measure => rw [HK.out]; omega
                  exact AllReadyH.nil
                exact AllReadyH.nil
              exact AllReadyH.nil
            exact AllReadyH.nil
      · have hii : ¬ (i : Int) < (own.length : Int) := by omega
        have hsl : (sortH own).length = own.length := sortH_length own
        have hst := sorted_sortH own
        have hpm := sortH_perm own
        have hcnt : ∀ y, (sortH own).countP (eqH · y) = own.countP (eqH · y) := fun y => hpm.countP_eq _
        have HSL := Lib.hid hsl
        have HST := Lib.hid hst
        have HCN := Lib.hid hcnt
        have HRR := Lib.hid hrr
        clear hsl hst hpm hcnt hrr
        go_upto_block 2 with (go_at_call 11; refine (sort11 own A5 c5 wr (by omega) HRR.out).mono ?_; rintro e w2 ⟨A2, c2, rfl, hc2, hr2, hb2⟩; rw [HSL.out])
        have hbw2 := hbr.trans (hb2.mono hbr.size)
        have hro : RHs w2 w2.heap.size A5 own := (HRR.out.below hb2).more hb2.size
        have hb2w := hb.trans (hbw2.mono hszc)
        have HR2 := Lib.hid hr2
        have HRO := Lib.hid hro
        have HBW := Lib.hid hb2w
        clear hr2 hro HRR hbr hb2 hbw2 hb2w
        obtain ⟨T, hT⟩ : ∃ T, sortH own = T := ⟨_, rfl⟩
        rw [hT] at HSL HST HCN HR2 hc2
        clear hT
        have hTl : T.length = own.length := HSL.out
        go_wp2
        go_loopg [11] own.length (fun k v11 wx => ∃ j : Nat, k = own.length - j ∧ j ≤ own.length ∧ v11 = .int .i64 j ∧ Below w2.heap.size w2 wx)
        case atStart => exact ⟨0, rfl, Nat.zero_le _, rfl, Below.refl _ _⟩
        case round =>
          obtain ⟨j, hkj, hj, rfl, hbj⟩ := hrel
          have HKJ := Lib.hid hkj
          clear hkj
          have hrT : RHs wr wr.heap.size A2 T := (HR2.out.below hbj).more hbj.size
          by_cases hjl : j < own.length
          · have hji : (j : Int) < (own.length : Int) := by omega
            have hj0 : (0 : Int) ≤ (j : Int) := by omega
            obtain ⟨b2, o2, rfl, hb20, t0, t1, t2, t3⟩ := hrT.at_ (i := j) (by omega)
            have hcT : ∀ w' : World, Below wr.heap.size wr w' → RHs w' w'.heap.size (some ⟨b2, o2, none⟩) T := fun w' hw => (hrT.below hw).more hw.size
            have hcO : ∀ w' : World, Below wr.heap.size wr w' → RHs w' w'.heap.size A5 own := fun w' hw => (((HRO.out.below hbj).more hbj.size).below hw).more hw.size
            have HCT := Lib.hid hcT
            have HCO := Lib.hid hcO
            obtain ⟨y, hy⟩ : ∃ y, T[j]'(by omega) = y := ⟨_, rfl⟩
            rw [hy] at t0 t1 t2 t3
            obtain ⟨cnt, hcnt⟩ : ∃ cnt, T.countP (eqH · y) = cnt := ⟨_, rfl⟩
            have hcnt2 : own.countP (eqH · y) = cnt := (HCN.out y).symm.trans hcnt
            have HC1 := Lib.hid hcnt
            have HC2 := Lib.hid hcnt2
            clear hcT hcO hcnt hcnt2 HR2 HRO
            rcases Nat.eq_zero_or_pos j with h0 | h0
            · subst h0
              have hl0 : (0 : Int) < (own.length : Int) := by omega
              have HHY := Lib.hid hy
              rw [Nat.zero_mul, Nat.add_zero] at t0 t1 t2 t3
              have mk : ∀ w' : World, Below wr.heap.size wr w' → (Below wr.heap.size wr w' ∧ w'.cell? ⟨b2, o2, none⟩ = some (.string y.word) ∧ w'.cell? ⟨b2, o2 + 1, none⟩ = some (.int .u32 y.weight) ∧ w'.cell? ⟨b2, o2 + 2, none⟩ = some (.bool y.gone) ∧ w'.cell? ⟨b2, o2 + 3, none⟩ = some (.int .i64 y.dist)) := fun w' hw => by
                have k := (bcell hw).1
                exact ⟨hw, (k _ _ hb20).trans t0, (k _ _ hb20).trans t1, (k _ _ hb20).trans t2, (k _ _ hb20).trans t3⟩
              have MK := Lib.hid mk
              clear mk hy hrT t0 t1 t2 t3
              go_upto_region 16 with (fail)
              refine wp_region_held_drew (S := (fun w' : World => Below wr.heap.size wr w' ∧ w'.cell? ⟨b2, o2, none⟩ = some (.string y.word) ∧ w'.cell? ⟨b2, o2 + 1, none⟩ = some (.int .u32 y.weight) ∧ w'.cell? ⟨b2, o2 + 2, none⟩ = some (.bool y.gone) ∧ w'.cell? ⟨b2, o2 + 3, none⟩ = some (.int .i64 y.dist))) (by kernel_rfl) (MK.out _ (Below.refl _ _).drew) (fun hHeld => ?_)
              refine take_at (i := 0) (oi := _) (v := ?_) (d := 103) rfl (by kernel_rfl) (by kernel_rfl) (by kernel_rfl) (by kernel_rfl) (fun _ _ _ h => h) (Or.inl ⟨by kernel_rfl, ?_⟩) hHeld ?_
              rotate_left
              · intro w0 hSw; (try dsimp only at hSw); go_simp <;> with_reducible rfl
              try simp only [Act.put, List.setIfInBounds_toArray, List.set_cons_zero, List.set_cons_succ]
              refine take_at (i := 1) (oi := _) (v := ?_) (d := 104) rfl (by kernel_rfl) (by kernel_rfl) (by kernel_rfl) (by kernel_rfl) (fun _ _ _ h => h) (Or.inl ⟨by kernel_rfl, ?_⟩) hHeld ?_
              rotate_left
              · intro w0 hSw; (try dsimp only at hSw); go_simp <;> with_reducible rfl
              try simp only [Act.put, List.setIfInBounds_toArray, List.set_cons_zero, List.set_cons_succ]
              refine take_at (i := 2) (oi := _) (v := ?_) (d := 105) rfl (by kernel_rfl) (by kernel_rfl) (by kernel_rfl) (by kernel_rfl) (fun _ _ _ h => h) (Or.inl ⟨by kernel_rfl, ?_⟩) hHeld ?_
              rotate_left
              · intro w0 hSw; (try dsimp only at hSw); go_simp <;> with_reducible rfl
              try simp only [Act.put, List.setIfInBounds_toArray, List.set_cons_zero, List.set_cons_succ]
              refine take_at (i := 3) (oi := _) (v := undef) (d := 106) rfl (by kernel_rfl) (by kernel_rfl) (by kernel_rfl) (by kernel_rfl) (fun _ _ _ h => h) (Or.inr ⟨by kernel_rfl, rfl⟩) hHeld ?_
              try simp only [Act.put, List.setIfInBounds_toArray, List.set_cons_zero, List.set_cons_succ]
              refine take_at (i := 4) (oi := _) (v := undef) (d := 107) rfl (by kernel_rfl) (by kernel_rfl) (by kernel_rfl) (by kernel_rfl) (fun _ _ _ h => h) (Or.inr ⟨by kernel_rfl, rfl⟩) hHeld ?_
              try simp only [Act.put, List.setIfInBounds_toArray, List.set_cons_zero, List.set_cons_succ]
              refine take_at (i := 5) (oi := _) (v := undef) (d := 108) rfl (by kernel_rfl) (by kernel_rfl) (by kernel_rfl) (by kernel_rfl) (fun _ _ _ h => h) (Or.inr ⟨by kernel_rfl, rfl⟩) hHeld ?_
              try simp only [Act.put, List.setIfInBounds_toArray, List.set_cons_zero, List.set_cons_succ]
              refine take_at (i := 6) (oi := _) (v := undef) (d := 109) rfl (by kernel_rfl) (by kernel_rfl) (by kernel_rfl) (by kernel_rfl) (fun _ _ _ h => h) (Or.inr ⟨by kernel_rfl, rfl⟩) hHeld ?_
              try simp only [Act.put, List.setIfInBounds_toArray, List.set_cons_zero, List.set_cons_succ]
              refine take_at (i := 7) (oi := _) (v := undef) (d := 110) rfl (by kernel_rfl) (by kernel_rfl) (by kernel_rfl) (by kernel_rfl) (fun _ _ _ h => h) (Or.inr ⟨by kernel_rfl, rfl⟩) hHeld ?_
              try simp only [Act.put, List.setIfInBounds_toArray, List.set_cons_zero, List.set_cons_succ]
              refine take_at (i := 8) (oi := _) (v := undef) (d := 111) rfl (by kernel_rfl) (by kernel_rfl) (by kernel_rfl) (by kernel_rfl) (fun _ _ _ h => h) (Or.inr ⟨by kernel_rfl, rfl⟩) hHeld ?_
              try simp only [Act.put, List.setIfInBounds_toArray, List.set_cons_zero, List.set_cons_succ]
              refine take_at (i := 9) (oi := _) (v := undef) (d := 112) rfl (by kernel_rfl) (by kernel_rfl) (by kernel_rfl) (by kernel_rfl) (fun _ _ _ h => h) (Or.inr ⟨by kernel_rfl, rfl⟩) hHeld ?_
              try simp only [Act.put, List.setIfInBounds_toArray, List.set_cons_zero, List.set_cons_succ]
              refine take_at (i := 10) (oi := _) (v := undef) (d := 113) rfl (by kernel_rfl) (by kernel_rfl) (by kernel_rfl) (by kernel_rfl) (fun _ _ _ h => h) (Or.inr ⟨by kernel_rfl, rfl⟩) hHeld ?_
              try simp only [Act.put, List.setIfInBounds_toArray, List.set_cons_zero, List.set_cons_succ]
              refine take_at (i := 11) (oi := _) (v := undef) (d := 114) rfl (by kernel_rfl) (by kernel_rfl) (by kernel_rfl) (by kernel_rfl) (fun _ _ _ h => h) (Or.inr ⟨by kernel_rfl, rfl⟩) hHeld ?_
              try simp only [Act.put, List.setIfInBounds_toArray, List.set_cons_zero, List.set_cons_succ]
              refine take_at (i := 12) (oi := _) (v := undef) (d := 115) rfl (by kernel_rfl) (by kernel_rfl) (by kernel_rfl) (by kernel_rfl) (fun _ _ _ h => h) (Or.inr ⟨by kernel_rfl, rfl⟩) hHeld ?_
              try simp only [Act.put, List.setIfInBounds_toArray, List.set_cons_zero, List.set_cons_succ]
              refine take_at (i := 13) (oi := _) (v := ?_) (d := 116) rfl (by kernel_rfl) (by kernel_rfl) (by kernel_rfl) (by kernel_rfl) (fun _ _ _ h => h) (Or.inl ⟨by kernel_rfl, ?_⟩) hHeld ?_
              rotate_left
              · intro w0 hSw; (try dsimp only at hSw); go_simp <;> with_reducible rfl
              try simp only [Act.put, List.setIfInBounds_toArray, List.set_cons_zero, List.set_cons_succ]
              refine take_at (i := 14) (oi := _) (v := ?_) (d := 117) rfl (by kernel_rfl) (by kernel_rfl) (by kernel_rfl) (by kernel_rfl) (fun _ _ _ h => h) (Or.inl ⟨by kernel_rfl, ?_⟩) hHeld ?_
              rotate_left
              · intro w0 hSw; (try dsimp only at hSw); go_simp <;> with_reducible rfl
              try simp only [Act.put, List.setIfInBounds_toArray, List.set_cons_zero, List.set_cons_succ]
              refine take_at (i := 15) (oi := _) (v := ?_) (d := 118) rfl (by kernel_rfl) (by kernel_rfl) (by kernel_rfl) (by kernel_rfl) (fun _ _ _ h => h) (Or.inl ⟨by kernel_rfl, ?_⟩) hHeld ?_
              rotate_left
              · intro w0 hSw; (try dsimp only at hSw); go_simp <;> with_reducible rfl
              try simp only [Act.put, List.setIfInBounds_toArray, List.set_cons_zero, List.set_cons_succ]
              refine take_at (i := 16) (oi := _) (v := ?_) (d := 119) rfl (by kernel_rfl) (by kernel_rfl) (by kernel_rfl) (by kernel_rfl) (fun _ _ _ h => h) (Or.inl ⟨by kernel_rfl, ?_⟩) hHeld ?_
              rotate_left
              · intro w0 hSw; (try dsimp only at hSw); go_simp <;> with_reducible rfl
              try simp only [Act.put, List.setIfInBounds_toArray, List.set_cons_zero, List.set_cons_succ]
              refine take_at (i := 17) (oi := _) (v := ?_) (d := 120) rfl (by kernel_rfl) (by kernel_rfl) (by kernel_rfl) (by kernel_rfl) (fun _ _ _ h => h) (Or.inl ⟨by kernel_rfl, ?_⟩) hHeld ?_
              rotate_left
              · intro w0 hSw; (try dsimp only at hSw); go_simp <;> with_reducible rfl
              try simp only [Act.put, List.setIfInBounds_toArray, List.set_cons_zero, List.set_cons_succ]
              refine take_at (i := 18) (oi := _) (v := ?_) (d := 121) rfl (by kernel_rfl) (by kernel_rfl) (by kernel_rfl) (by kernel_rfl) (fun _ _ _ h => h) (Or.inl ⟨by kernel_rfl, ?_⟩) hHeld ?_
              rotate_left
              · intro w0 hSw; (try dsimp only at hSw); go_simp <;> with_reducible rfl
              try simp only [Act.put, List.setIfInBounds_toArray, List.set_cons_zero, List.set_cons_succ]
              refine take_at (i := 19) (oi := _) (v := ?_) (d := 122) rfl (by kernel_rfl) (by kernel_rfl) (by kernel_rfl) (by kernel_rfl) (fun _ _ _ h => h) (Or.inl ⟨by kernel_rfl, ?_⟩) hHeld ?_
              rotate_left
              · intro w0 hSw; (try dsimp only at hSw); go_simp <;> with_reducible rfl
              try simp only [Act.put, List.setIfInBounds_toArray, List.set_cons_zero, List.set_cons_succ]
              refine take_at (i := 21) (oi := _) (v := ?_) (d := 124) rfl (by kernel_rfl) (by kernel_rfl) (by kernel_rfl) (by kernel_rfl) (fun _ _ _ h => h) (Or.inl ⟨by kernel_rfl, ?_⟩) hHeld ?_
              rotate_left
              · intro w0 hSw; (try dsimp only at hSw); go_simp <;> with_reducible rfl
              try simp only [Act.put, List.setIfInBounds_toArray, List.set_cons_zero, List.set_cons_succ]
              refine take_at (i := 22) (oi := _) (v := ?_) (d := 125) rfl (by kernel_rfl) (by kernel_rfl) (by kernel_rfl) (by kernel_rfl) (fun _ _ _ h => h) (Or.inl ⟨by kernel_rfl, ?_⟩) hHeld ?_
              rotate_left
              · intro w0 hSw; (try dsimp only at hSw); go_simp <;> with_reducible rfl
              try simp only [Act.put, List.setIfInBounds_toArray, List.set_cons_zero, List.set_cons_succ]
              refine take_at (i := 23) (oi := _) (v := ?_) (d := 126) rfl (by kernel_rfl) (by kernel_rfl) (by kernel_rfl) (by kernel_rfl) (fun _ _ _ h => h) (Or.inl ⟨by kernel_rfl, ?_⟩) hHeld ?_
              rotate_left
              · intro w0 hSw; (try dsimp only at hSw); go_simp <;> with_reducible rfl
              try simp only [Act.put, List.setIfInBounds_toArray, List.set_cons_zero, List.set_cons_succ]
              refine take_at (i := 24) (oi := _) (v := ?_) (d := 127) rfl (by kernel_rfl) (by kernel_rfl) (by kernel_rfl) (by kernel_rfl) (fun _ _ _ h => h) (Or.inl ⟨by kernel_rfl, ?_⟩) hHeld ?_
              rotate_left
              · intro w0 hSw; (try dsimp only at hSw); go_simp <;> with_reducible rfl
              try simp only [Act.put, List.setIfInBounds_toArray, List.set_cons_zero, List.set_cons_succ]
              refine take_at (i := 25) (oi := _) (v := ?_) (d := 128) rfl (by kernel_rfl) (by kernel_rfl) (by kernel_rfl) (by kernel_rfl) (fun _ _ _ h => h) (Or.inl ⟨by kernel_rfl, ?_⟩) hHeld ?_
              rotate_left
              · intro w0 hSw; (try dsimp only at hSw); go_simp <;> with_reducible rfl
              try simp only [Act.put, List.setIfInBounds_toArray, List.set_cons_zero, List.set_cons_succ]
              refine wpAnyH_ready (rs := [20]) (by kernel_rfl) (by simp) ?_
              refine AllReadyH.cons (o := _) rfl (fun K hK => ?_) ?_
              · go_simp
                go_at_call 12; refine (many12' hTl.symm HC1.out (by omega) (HCT.out _ ((Below.refl _ _).drew))).mono ?_
                rintro e w20 ⟨rfl, hb20⟩
                have hcum := keepL ((Below.refl _ _).drew : Below wr.heap.size wr _) hb20
                clear hb20
                go_wp2_with fail
                clear hHeld
                refine hK.out _ _ ?_ (fun hHeld => ?_)
                · exact MK.out _ hcum
                clear hK K
                try simp only [Act.put, List.setIfInBounds_toArray, List.set_cons_zero, List.set_cons_succ]
                refine wpAnyH_ready (rs := [26]) (by kernel_rfl) (by simp) ?_
                refine AllReadyH.cons (o := _) rfl (fun K hK => ?_) ?_
                · go_simp
                  go_at_call 12; refine (many12' rfl HC2.out (by omega) (HCO.out _ (hcum))).mono ?_
                  rintro e w21 ⟨rfl, hb21⟩
                  replace hcum := keepL hcum hb21
                  clear hb21
                  go_wp2_with fail
                  clear hHeld
                  refine hK.out _ _ ?_ (fun hHeld => ?_)
                  · exact MK.out _ hcum
                  clear hK K
                  try simp only [Act.put, List.setIfInBounds_toArray, List.set_cons_zero, List.set_cons_succ]
                  refine take_at (i := 27) (oi := _) (v := ?_) (d := 130) rfl (by kernel_rfl) (by kernel_rfl) (by kernel_rfl) (by kernel_rfl) (fun _ _ _ h => h) (Or.inl ⟨by kernel_rfl, ?_⟩) hHeld ?_
                  rotate_left
                  · intro w0 hSw; (try dsimp only at hSw); go_simp <;> with_reducible rfl
                  try simp only [Act.put, List.setIfInBounds_toArray, List.set_cons_zero, List.set_cons_succ]
                  refine take_at (i := 28) (oi := _) (v := ?_) (d := 131) rfl (by kernel_rfl) (by kernel_rfl) (by kernel_rfl) (by kernel_rfl) (fun _ _ _ h => h) (Or.inl ⟨by kernel_rfl, ?_⟩) hHeld ?_
                  rotate_left
                  · intro w0 hSw; (try dsimp only at hSw); go_simp <;> with_reducible rfl
                  try simp only [Act.put, List.setIfInBounds_toArray, List.set_cons_zero, List.set_cons_succ]
                  refine wpAnyH_done (by kernel_rfl) ?_ _
                  have hbb := hbj.trans (hcum.mono hbj.size)
                  have HBB := Lib.hid hbb
                  clear hbb hcum hHeld
                  go_wp2
                  go_roundg (own.length - (0 + 1))
                  case rel => exact ⟨0 + 1, rfl, by omega, by go_num, HBB.out⟩
                  case measure => rw [HKJ.out]; omega
                exact AllReadyH.nil
              exact AllReadyH.nil
            · obtain ⟨p, hp⟩ : ∃ p, j = p + 1 := ⟨j - 1, by omega⟩
              have hpp : (0 : Int) < (j : Int) := by omega
              have hpi : (p : Int) < (own.length : Int) := by omega
              have hpi0 : (0 : Int) ≤ (p : Int) := by omega
              have hwp : IntKind.i64.wrap ((j : Int) - 1) = (p : Int) := by rw [show (j : Int) - 1 = (p : Int) by omega]; exact IntWalk.i64_in _ (by omega)
              have hwp2 : wrap64 ((j : Int) - 1) = (p : Int) := by unfold wrap64; omega
              obtain ⟨b2', o2', e2, hb21, s0, s1, s2, s3⟩ := hrT.at_ (i := p) (by omega)
              injection e2 with e2
              injection e2 with e1 e2
              subst e1
              subst e2
              have hle : le (T[p]'(by omega)) (T[j]'(by omega)) = true := (List.pairwise_iff_getElem.1 HST.out) p j (by omega) (by omega) (by omega)
              rw [hy] at hle
              obtain ⟨z, hz⟩ : ∃ z, T[p]'(by omega) = z := ⟨_, rfl⟩
              rw [hz] at s0 s1 s2 s3 hle
              have hlt : lessH y z = false := by unfold le at hle; simpa using hle
              have HA := Lib.hid hlt
              have HP := Lib.hid hp
              have mk : ∀ w' : World, Below wr.heap.size wr w' → (Below wr.heap.size wr w' ∧ w'.cell? ⟨b2, o2 + j * 4, none⟩ = some (.string y.word) ∧ w'.cell? ⟨b2, o2 + j * 4 + 1, none⟩ = some (.int .u32 y.weight) ∧ w'.cell? ⟨b2, o2 + j * 4 + 2, none⟩ = some (.bool y.gone) ∧ w'.cell? ⟨b2, o2 + j * 4 + 3, none⟩ = some (.int .i64 y.dist) ∧ w'.cell? ⟨b2, o2 + p * 4, none⟩ = some (.string z.word) ∧ w'.cell? ⟨b2, o2 + p * 4 + 1, none⟩ = some (.int .u32 z.weight) ∧ w'.cell? ⟨b2, o2 + p * 4 + 2, none⟩ = some (.bool z.gone) ∧ w'.cell? ⟨b2, o2 + p * 4 + 3, none⟩ = some (.int .i64 z.dist)) := fun w' hw => by
                have k := (bcell hw).1
                exact ⟨hw, (k _ _ hb20).trans t0, (k _ _ hb20).trans t1, (k _ _ hb20).trans t2, (k _ _ hb20).trans t3, (k _ _ hb20).trans s0, (k _ _ hb20).trans s1, (k _ _ hb20).trans s2, (k _ _ hb20).trans s3⟩
              have MK := Lib.hid mk
              clear mk hy hz hp hle hlt hrT t0 t1 t2 t3 s0 s1 s2 s3
              go_upto_region 16 with (fail)
              refine wp_region_held_drew (S := (fun w' : World => Below wr.heap.size wr w' ∧ w'.cell? ⟨b2, o2 + j * 4, none⟩ = some (.string y.word) ∧ w'.cell? ⟨b2, o2 + j * 4 + 1, none⟩ = some (.int .u32 y.weight) ∧ w'.cell? ⟨b2, o2 + j * 4 + 2, none⟩ = some (.bool y.gone) ∧ w'.cell? ⟨b2, o2 + j * 4 + 3, none⟩ = some (.int .i64 y.dist) ∧ w'.cell? ⟨b2, o2 + p * 4, none⟩ = some (.string z.word) ∧ w'.cell? ⟨b2, o2 + p * 4 + 1, none⟩ = some (.int .u32 z.weight) ∧ w'.cell? ⟨b2, o2 + p * 4 + 2, none⟩ = some (.bool z.gone) ∧ w'.cell? ⟨b2, o2 + p * 4 + 3, none⟩ = some (.int .i64 z.dist))) (by kernel_rfl) (MK.out _ (Below.refl _ _).drew) (fun hHeld => ?_)
              refine take_at (i := 0) (oi := _) (v := ?_) (d := 103) rfl (by kernel_rfl) (by kernel_rfl) (by kernel_rfl) (by kernel_rfl) (fun _ _ _ h => h) (Or.inl ⟨by kernel_rfl, ?_⟩) hHeld ?_
              rotate_left
              · intro w0 hSw; (try dsimp only at hSw); go_simp <;> with_reducible rfl
              try simp only [Act.put, List.setIfInBounds_toArray, List.set_cons_zero, List.set_cons_succ]
              refine take_at (i := 1) (oi := _) (v := ?_) (d := 104) rfl (by kernel_rfl) (by kernel_rfl) (by kernel_rfl) (by kernel_rfl) (fun _ _ _ h => h) (Or.inl ⟨by kernel_rfl, ?_⟩) hHeld ?_
              rotate_left
              · intro w0 hSw; (try dsimp only at hSw); go_simp <;> with_reducible rfl
              try simp only [Act.put, List.setIfInBounds_toArray, List.set_cons_zero, List.set_cons_succ]
              refine take_at (i := 2) (oi := _) (v := ?_) (d := 105) rfl (by kernel_rfl) (by kernel_rfl) (by kernel_rfl) (by kernel_rfl) (fun _ _ _ h => h) (Or.inl ⟨by kernel_rfl, ?_⟩) hHeld ?_
              rotate_left
              · intro w0 hSw; (try dsimp only at hSw); go_simp <;> with_reducible rfl
              try simp only [Act.put, List.setIfInBounds_toArray, List.set_cons_zero, List.set_cons_succ]
              refine take_at (i := 3) (oi := _) (v := ?_) (d := 106) rfl (by kernel_rfl) (by kernel_rfl) (by kernel_rfl) (by kernel_rfl) (fun _ _ _ h => h) (Or.inl ⟨by kernel_rfl, ?_⟩) hHeld ?_
              rotate_left
              · intro w0 hSw; (try dsimp only at hSw); go_simp <;> with_reducible rfl
              try simp only [Act.put, List.setIfInBounds_toArray, List.set_cons_zero, List.set_cons_succ]
              refine take_at (i := 4) (oi := _) (v := ?_) (d := 107) rfl (by kernel_rfl) (by kernel_rfl) (by kernel_rfl) (by kernel_rfl) (fun _ _ _ h => h) (Or.inl ⟨by kernel_rfl, ?_⟩) hHeld ?_
              rotate_left
              · intro w0 hSw; (try dsimp only at hSw); go_simp <;> with_reducible rfl
              try simp only [Act.put, List.setIfInBounds_toArray, List.set_cons_zero, List.set_cons_succ]
              refine take_at (i := 5) (oi := _) (v := ?_) (d := 108) rfl (by kernel_rfl) (by kernel_rfl) (by kernel_rfl) (by kernel_rfl) (fun _ _ _ h => h) (Or.inl ⟨by kernel_rfl, ?_⟩) hHeld ?_
              rotate_left
              · intro w0 hSw; (try dsimp only at hSw); go_simp <;> with_reducible rfl
              try simp only [Act.put, List.setIfInBounds_toArray, List.set_cons_zero, List.set_cons_succ]
              refine take_at (i := 6) (oi := _) (v := ?_) (d := 109) rfl (by kernel_rfl) (by kernel_rfl) (by kernel_rfl) (by kernel_rfl) (fun _ _ _ h => h) (Or.inl ⟨by kernel_rfl, ?_⟩) hHeld ?_
              rotate_left
              · intro w0 hSw; (try dsimp only at hSw); go_simp <;> with_reducible rfl
              try simp only [Act.put, List.setIfInBounds_toArray, List.set_cons_zero, List.set_cons_succ]
              refine take_at (i := 7) (oi := _) (v := ?_) (d := 110) rfl (by kernel_rfl) (by kernel_rfl) (by kernel_rfl) (by kernel_rfl) (fun _ _ _ h => h) (Or.inl ⟨by kernel_rfl, ?_⟩) hHeld ?_
              rotate_left
              · intro w0 hSw; (try dsimp only at hSw); go_simp <;> with_reducible rfl
              try simp only [Act.put, List.setIfInBounds_toArray, List.set_cons_zero, List.set_cons_succ]
              refine take_at (i := 8) (oi := _) (v := ?_) (d := 111) rfl (by kernel_rfl) (by kernel_rfl) (by kernel_rfl) (by kernel_rfl) (fun _ _ _ h => h) (Or.inl ⟨by kernel_rfl, ?_⟩) hHeld ?_
              rotate_left
              · intro w0 hSw; (try dsimp only at hSw); go_simp <;> with_reducible rfl
              try simp only [Act.put, List.setIfInBounds_toArray, List.set_cons_zero, List.set_cons_succ]
              refine take_at (i := 9) (oi := _) (v := ?_) (d := 112) rfl (by kernel_rfl) (by kernel_rfl) (by kernel_rfl) (by kernel_rfl) (fun _ _ _ h => h) (Or.inl ⟨by kernel_rfl, ?_⟩) hHeld ?_
              rotate_left
              · intro w0 hSw; (try dsimp only at hSw); go_simp <;> with_reducible rfl
              try simp only [Act.put, List.setIfInBounds_toArray, List.set_cons_zero, List.set_cons_succ]
              refine take_at (i := 10) (oi := _) (v := ?_) (d := 113) rfl (by kernel_rfl) (by kernel_rfl) (by kernel_rfl) (by kernel_rfl) (fun _ _ _ h => h) (Or.inl ⟨by kernel_rfl, ?_⟩) hHeld ?_
              rotate_left
              · intro w0 hSw; (try dsimp only at hSw); go_simp <;> with_reducible rfl
              try simp only [Act.put, List.setIfInBounds_toArray, List.set_cons_zero, List.set_cons_succ]
              refine take_at (i := 11) (oi := _) (v := ?_) (d := 114) rfl (by kernel_rfl) (by kernel_rfl) (by kernel_rfl) (by kernel_rfl) (fun _ _ _ h => h) (Or.inl ⟨by kernel_rfl, ?_⟩) hHeld ?_
              rotate_left
              · intro w0 hSw; (try dsimp only at hSw); go_simp <;> with_reducible rfl
              try simp only [Act.put, List.setIfInBounds_toArray, List.set_cons_zero, List.set_cons_succ]
              refine wpAnyH_ready (rs := [12]) (by kernel_rfl) (by simp) ?_
              refine AllReadyH.cons (o := _) rfl (fun K hK => ?_) ?_
              · go_simp
                go_at_call 10; refine (less10' HA.out _).mono ?_
                rintro e w22 ⟨rfl, hb22⟩
                have hcum := keepL ((Below.refl _ _).drew : Below wr.heap.size wr _) hb22
                clear hb22
                go_wp2_with fail
                clear hHeld
                refine hK.out _ _ ?_ (fun hHeld => ?_)
                · exact MK.out _ hcum
                clear hK K
                try simp only [Act.put, List.setIfInBounds_toArray, List.set_cons_zero, List.set_cons_succ]
                refine take_at (i := 13) (oi := _) (v := ?_) (d := 116) rfl (by kernel_rfl) (by kernel_rfl) (by kernel_rfl) (by kernel_rfl) (fun _ _ _ h => h) (Or.inl ⟨by kernel_rfl, ?_⟩) hHeld ?_
                rotate_left
                · intro w0 hSw; (try dsimp only at hSw); go_simp <;> with_reducible rfl
                try simp only [Act.put, List.setIfInBounds_toArray, List.set_cons_zero, List.set_cons_succ]
                refine take_at (i := 14) (oi := _) (v := ?_) (d := 117) rfl (by kernel_rfl) (by kernel_rfl) (by kernel_rfl) (by kernel_rfl) (fun _ _ _ h => h) (Or.inl ⟨by kernel_rfl, ?_⟩) hHeld ?_
                rotate_left
                · intro w0 hSw; (try dsimp only at hSw); go_simp <;> with_reducible rfl
                try simp only [Act.put, List.setIfInBounds_toArray, List.set_cons_zero, List.set_cons_succ]
                refine take_at (i := 15) (oi := _) (v := ?_) (d := 118) rfl (by kernel_rfl) (by kernel_rfl) (by kernel_rfl) (by kernel_rfl) (fun _ _ _ h => h) (Or.inl ⟨by kernel_rfl, ?_⟩) hHeld ?_
                rotate_left
                · intro w0 hSw; (try dsimp only at hSw); go_simp <;> with_reducible rfl
                try simp only [Act.put, List.setIfInBounds_toArray, List.set_cons_zero, List.set_cons_succ]
                refine take_at (i := 16) (oi := _) (v := ?_) (d := 119) rfl (by kernel_rfl) (by kernel_rfl) (by kernel_rfl) (by kernel_rfl) (fun _ _ _ h => h) (Or.inl ⟨by kernel_rfl, ?_⟩) hHeld ?_
                rotate_left
                · intro w0 hSw; (try dsimp only at hSw); go_simp <;> with_reducible rfl
                try simp only [Act.put, List.setIfInBounds_toArray, List.set_cons_zero, List.set_cons_succ]
                refine take_at (i := 17) (oi := _) (v := ?_) (d := 120) rfl (by kernel_rfl) (by kernel_rfl) (by kernel_rfl) (by kernel_rfl) (fun _ _ _ h => h) (Or.inl ⟨by kernel_rfl, ?_⟩) hHeld ?_
                rotate_left
                · intro w0 hSw; (try dsimp only at hSw); go_simp <;> with_reducible rfl
                try simp only [Act.put, List.setIfInBounds_toArray, List.set_cons_zero, List.set_cons_succ]
                refine take_at (i := 18) (oi := _) (v := ?_) (d := 121) rfl (by kernel_rfl) (by kernel_rfl) (by kernel_rfl) (by kernel_rfl) (fun _ _ _ h => h) (Or.inl ⟨by kernel_rfl, ?_⟩) hHeld ?_
                rotate_left
                · intro w0 hSw; (try dsimp only at hSw); go_simp <;> with_reducible rfl
                try simp only [Act.put, List.setIfInBounds_toArray, List.set_cons_zero, List.set_cons_succ]
                refine take_at (i := 19) (oi := _) (v := ?_) (d := 122) rfl (by kernel_rfl) (by kernel_rfl) (by kernel_rfl) (by kernel_rfl) (fun _ _ _ h => h) (Or.inl ⟨by kernel_rfl, ?_⟩) hHeld ?_
                rotate_left
                · intro w0 hSw; (try dsimp only at hSw); go_simp <;> with_reducible rfl
                try simp only [Act.put, List.setIfInBounds_toArray, List.set_cons_zero, List.set_cons_succ]
                refine take_at (i := 21) (oi := _) (v := ?_) (d := 124) rfl (by kernel_rfl) (by kernel_rfl) (by kernel_rfl) (by kernel_rfl) (fun _ _ _ h => h) (Or.inl ⟨by kernel_rfl, ?_⟩) hHeld ?_
                rotate_left
                · intro w0 hSw; (try dsimp only at hSw); go_simp <;> with_reducible rfl
                try simp only [Act.put, List.setIfInBounds_toArray, List.set_cons_zero, List.set_cons_succ]
                refine take_at (i := 22) (oi := _) (v := ?_) (d := 125) rfl (by kernel_rfl) (by kernel_rfl) (by kernel_rfl) (by kernel_rfl) (fun _ _ _ h => h) (Or.inl ⟨by kernel_rfl, ?_⟩) hHeld ?_
                rotate_left
                · intro w0 hSw; (try dsimp only at hSw); go_simp <;> with_reducible rfl
                try simp only [Act.put, List.setIfInBounds_toArray, List.set_cons_zero, List.set_cons_succ]
                refine take_at (i := 23) (oi := _) (v := ?_) (d := 126) rfl (by kernel_rfl) (by kernel_rfl) (by kernel_rfl) (by kernel_rfl) (fun _ _ _ h => h) (Or.inl ⟨by kernel_rfl, ?_⟩) hHeld ?_
                rotate_left
                · intro w0 hSw; (try dsimp only at hSw); go_simp <;> with_reducible rfl
                try simp only [Act.put, List.setIfInBounds_toArray, List.set_cons_zero, List.set_cons_succ]
                refine take_at (i := 24) (oi := _) (v := ?_) (d := 127) rfl (by kernel_rfl) (by kernel_rfl) (by kernel_rfl) (by kernel_rfl) (fun _ _ _ h => h) (Or.inl ⟨by kernel_rfl, ?_⟩) hHeld ?_
                rotate_left
                · intro w0 hSw; (try dsimp only at hSw); go_simp <;> with_reducible rfl
                try simp only [Act.put, List.setIfInBounds_toArray, List.set_cons_zero, List.set_cons_succ]
                refine take_at (i := 25) (oi := _) (v := ?_) (d := 128) rfl (by kernel_rfl) (by kernel_rfl) (by kernel_rfl) (by kernel_rfl) (fun _ _ _ h => h) (Or.inl ⟨by kernel_rfl, ?_⟩) hHeld ?_
                rotate_left
                · intro w0 hSw; (try dsimp only at hSw); go_simp <;> with_reducible rfl
                try simp only [Act.put, List.setIfInBounds_toArray, List.set_cons_zero, List.set_cons_succ]
                refine wpAnyH_ready (rs := [20]) (by kernel_rfl) (by simp) ?_
                refine AllReadyH.cons (o := _) rfl (fun K hK => ?_) ?_
                · go_simp
                  go_at_call 12; refine (many12' hTl.symm HC1.out (by omega) (HCT.out _ (hcum))).mono ?_
                  rintro e w23 ⟨rfl, hb23⟩
                  replace hcum := keepL hcum hb23
                  clear hb23
                  go_wp2_with fail
                  clear hHeld
                  refine hK.out _ _ ?_ (fun hHeld => ?_)
                  · exact MK.out _ hcum
                  clear hK K
                  try simp only [Act.put, List.setIfInBounds_toArray, List.set_cons_zero, List.set_cons_succ]
                  refine wpAnyH_ready (rs := [26]) (by kernel_rfl) (by simp) ?_
                  refine AllReadyH.cons (o := _) rfl (fun K hK => ?_) ?_
                  · go_simp
                    go_at_call 12; refine (many12' rfl HC2.out (by omega) (HCO.out _ (hcum))).mono ?_
                    rintro e w24 ⟨rfl, hb24⟩
                    replace hcum := keepL hcum hb24
                    clear hb24
                    go_wp2_with fail
                    clear hHeld
                    refine hK.out _ _ ?_ (fun hHeld => ?_)
                    · exact MK.out _ hcum
                    clear hK K
                    try simp only [Act.put, List.setIfInBounds_toArray, List.set_cons_zero, List.set_cons_succ]
                    refine take_at (i := 27) (oi := _) (v := ?_) (d := 130) rfl (by kernel_rfl) (by kernel_rfl) (by kernel_rfl) (by kernel_rfl) (fun _ _ _ h => h) (Or.inl ⟨by kernel_rfl, ?_⟩) hHeld ?_
                    rotate_left
                    · intro w0 hSw; (try dsimp only at hSw); go_simp <;> with_reducible rfl
                    try simp only [Act.put, List.setIfInBounds_toArray, List.set_cons_zero, List.set_cons_succ]
                    refine take_at (i := 28) (oi := _) (v := ?_) (d := 131) rfl (by kernel_rfl) (by kernel_rfl) (by kernel_rfl) (by kernel_rfl) (fun _ _ _ h => h) (Or.inl ⟨by kernel_rfl, ?_⟩) hHeld ?_
                    rotate_left
                    · intro w0 hSw; (try dsimp only at hSw); go_simp <;> with_reducible rfl
                    try simp only [Act.put, List.setIfInBounds_toArray, List.set_cons_zero, List.set_cons_succ]
                    refine wpAnyH_done (by kernel_rfl) ?_ _
                    have hbb := hbj.trans (hcum.mono hbj.size)
                    have HBB := Lib.hid hbb
                    clear hbb hcum hHeld
                    go_wp2
                    go_roundg (own.length - (j + 1))
                    case rel => exact ⟨j + 1, rfl, by omega, by go_num, HBB.out⟩
                    case measure => rw [HKJ.out]; omega
                  exact AllReadyH.nil
                exact AllReadyH.nil
              exact AllReadyH.nil
          · have hjl' : ¬ (j : Int) < (own.length : Int) := by omega
            go_wp2
            go_ret
            exact ⟨rfl, HBW.out.trans (hbj.mono HBW.out.size)⟩
end Go.Proofs.Ytjpgcfcacfhmiaa
