/- rank.Join's next (Join$1): of which list the next hit is the first one. -/
import Derived.Test.YtjpgcfcacfhmiaaLists
namespace Go.Proofs.Ytjpgcfcacfhmiaa
open Go.RowKit
set_option linter.unusedSimpArgs false
set_option linter.unusedVariables false
set_option linter.unnecessarySimpa false
def hd (L : List (List Hit)) (ps : List Nat) (k : Nat) : Option Hit := (L.getD k [])[ps.getD k 0]?
def BestTo (L : List (List Hit)) (ps : List Nat) (j : Nat) (i : Int) : Prop :=
  (i = -1 ∧ ∀ k, k < j → hd L ps k = none) ∨ ∃ (n : Nat) (x : Hit), i = (n : Int) ∧ n < j ∧ hd L ps n = some x ∧ ∀ k y, k < j → hd L ps k = some y → lessH y x = false
theorem best_none {L : List (List Hit)} {ps : List Nat} {j : Nat} {i : Int} (h : BestTo L ps j i) (hn : hd L ps j = none) : BestTo L ps (j + 1) i := by
  rcases h with ⟨e, h⟩ | ⟨n, x, e, hlt, hx, h⟩
  · refine .inl ⟨e, fun k hk => ?_⟩
    by_cases hkj : k = j
    · rw [hkj]; exact hn
    · exact h k (by omega)
  · refine .inr ⟨n, x, e, by omega, hx, fun k y hk hy => ?_⟩
    by_cases hkj : k = j
    · rw [hkj, hn] at hy; cases hy
    · exact h k y (by omega) hy
theorem best_first {L : List (List Hit)} {ps : List Nat} {j : Nat} {y : Hit} (h : ∀ k, k < j → hd L ps k = none) (hy : hd L ps j = some y) : BestTo L ps (j + 1) (j : Int) :=
  .inr ⟨j, y, rfl, by omega, hy, fun k z hk hz => by
    by_cases hkj : k = j
    · rw [hkj, hy] at hz; injection hz with hz; rw [hz]; exact lt_irrefl _
    · rw [h k (by omega)] at hz; cases hz⟩
theorem best_less {L : List (List Hit)} {ps : List Nat} {j : Nat} {x y : Hit} (h : ∀ k z, k < j → hd L ps k = some z → lessH z x = false) (hy : hd L ps j = some y) (hl : lessH y x = true) : BestTo L ps (j + 1) (j : Int) :=
  .inr ⟨j, y, rfl, by omega, hy, fun k z hk hz => by
    by_cases hkj : k = j
    · rw [hkj, hy] at hz; injection hz with hz; rw [hz]; exact lt_irrefl _
    · have h1 := h k z (by omega) hz
      cases hq : lessH z y with
      | false => rfl
      | true => have := lt_trans hq hl; rw [h1] at this; cases this⟩
theorem best_not {L : List (List Hit)} {ps : List Nat} {j n : Nat} {x y : Hit} (hn : n < j) (hx : hd L ps n = some x) (h : ∀ k z, k < j → hd L ps k = some z → lessH z x = false) (hy : hd L ps j = some y) (hl : lessH y x = false) : BestTo L ps (j + 1) (n : Int) :=
  .inr ⟨n, x, rfl, by omega, hx, fun k z hk hz => by
    by_cases hkj : k = j
    · rw [hkj, hy] at hz; injection hz with hz; rw [← hz]; exact hl
    · exact h k z (by omega) hz⟩
/-- the block of the places -/
def AtRow (w : World) (g : Nat) (ps : List Nat) : Prop := w.heap[g]? = some (.cells (ps.map fun p : Nat => Value.int .i64 (p : Int)).toArray 3 (0, 0))
theorem AtRow.at_ {w : World} {g : Nat} {ps : List Nat} (h : AtRow w g ps) {i : Nat} (hi : i < ps.length) : w.cell? ⟨g, i, none⟩ = some (.int .i64 (ps.getD i 0 : Nat)) := by
  rw [cell_of_row _ _ i _ 3 (0, 0) h]
  simp [hi]
theorem RLs.at_ {w : World} {B : Nat} {A : Option Addr} {L : List (List Hit)} (h : RLs w B A L) {i : Nat} (hi : i < L.length) :
    ∃ b off Ai ci, A = some ⟨b, off, none⟩ ∧ b < B ∧ w.cell? ⟨b, off + i, none⟩ = some (.slice Ai (L.getD i []).length ci) ∧ RHs w B Ai (L.getD i []) := by
  obtain ⟨b, off, e, hb, hr⟩ := h (by omega)
  obtain ⟨Ai, ci, h1, _, h3⟩ := hr i (L.getD i []) (by simp [hi])
  exact ⟨b, off, Ai, ci, e, hb, h1, h3⟩
set_option maxHeartbeats 4000000 in
set_option maxRecDepth 100000 in
theorem next29 (L : List (List Hit)) (ps : List Nat) (A : Option Addr) (c p q g m : Nat) (w : World) (hl : L.length ≤ 1000000) (hpl : ps.length = L.length) (hm : m = L.length)
    (hp : w.cell? ⟨p, 0, none⟩ = some (.slice A L.length c)) (hq : w.cell? ⟨q, 0, none⟩ = some (.slice (some ⟨g, 0, none⟩) m m)) (hpw : p < w.heap.size) (hqw : q < w.heap.size)
    (hR : RLs w w.heap.size A L) (hA : AtRow w g ps) :
    Calls Try.prog 29 #[.pointer (some ⟨p, 0, none⟩), .pointer (some ⟨q, 0, none⟩)] w fun e w' => (∃ i : Int, e = .returned (.int .i64 i) ∧ BestTo L ps L.length i) ∧ Below w.heap.size w w' := by
  subst hm
  have hgw : g < w.heap.size := (Array.getElem?_eq_some_iff.1 hA).1
  have HA := Lib.hid hA
  have HPL := Lib.hid hpl
  clear hA hpl
  go_enter Try.func29, Try.ntmps29
  go_wp2
  go_loopg [2, 7] L.length (fun k v2 v7 wr => ∃ (j : Nat) (i : Int), k = L.length - j ∧ j ≤ L.length ∧ v7 = .int .i64 j ∧ v2 = .int .i64 i ∧ BestTo L ps j i ∧ Below w.heap.size w wr)
  case atStart => exact ⟨0, -1, rfl, Nat.zero_le _, rfl, rfl, .inl ⟨rfl, fun k hk => absurd hk (by omega)⟩, Below.refl _ _⟩
  case round =>
    obtain ⟨j, i, hk, hj, rfl, rfl, hbest, hb⟩ := hrel
    have HK := Lib.hid hk
    have HB := Lib.hid hbest
    clear hk hbest
    have k0 := (bcell hb).1
    have cp := (k0 p 0 hpw).trans hp
    have cq := (k0 q 0 hqw).trans hq
    by_cases hlt : j < L.length
    · have hji : (j : Int) < (L.length : Int) := by omega
      obtain ⟨b, off, Aj, cj, rfl, hbw, ccj, hrj⟩ := hR.at_ hlt
      have crj := (k0 b (off + j) hbw).trans ccj
      have caj := (k0 g j hgw).trans (HA.out.at_ (i := j) (by rw [HPL.out]; exact hlt))
      have hrj' := hrj.below hb
      have hdj : hd L ps j = (L.getD j [])[ps.getD j 0]? := rfl
      clear crj caj
      have cjl := (k0 b (off + j) hbw).trans ccj
      have cja := (k0 g j hgw).trans (HA.out.at_ (i := j) (by rw [HPL.out]; exact hlt))
      obtain ⟨lj, hlj⟩ : ∃ lj, L.getD j [] = lj := ⟨_, rfl⟩
      obtain ⟨pj, hpj⟩ : ∃ pj, ps.getD j 0 = pj := ⟨_, rfl⟩
      rw [hlj, hpj] at hdj
      rw [hlj] at cjl hrj'
      rw [hpj] at cja
      have HLJ := Lib.hid hlj
      have HPJ := Lib.hid hpj
      clear hlj hpj hrj ccj
      by_cases hex : pj < lj.length
      · have hexi : (pj : Int) < (lj.length : Int) := by omega
        rw [List.getElem?_eq_getElem hex] at hdj
        obtain ⟨bj, oj, rfl, hbj, d0, d1, d2, d3⟩ := hrj'.at_ hex
        have HDJ := Lib.hid hdj
        clear hdj
        generalize lj[pj] = y at *
        rcases HB.out with ⟨rfl, hnone⟩ | ⟨n, x, rfl, hnj, hx, hmin⟩
        · have HBF := Lib.hid (best_first hnone HDJ.out)
          have HNO := Lib.hid hnone
          clear k0 hnone
          go_wp2
          go_quiet (fail)
          go_wp2
          go_roundg (L.length - (j + 1))
          case rel => exact ⟨j + 1, j, rfl, by omega, by go_num, rfl, HBF.out, below_right hb _⟩
          case measure => rw [HK.out]; omega
        · have hnl : n < L.length := by omega
          have hnli : (n : Int) < (L.length : Int) := by omega
          obtain ⟨b', off', An, cn, hA', hbw', ccn, hrn⟩ := hR.at_ hnl
          injection hA' with hA'
          injection hA' with hA1 hA2
          subst hA1
          subst hA2
          have hrn' := hrn.below hb
          have cnl := (k0 b (off + n) hbw).trans ccn
          have cna := (k0 g n hgw).trans (HA.out.at_ (i := n) (by rw [HPL.out]; exact hnl))
          have hdn : hd L ps n = (L.getD n [])[ps.getD n 0]? := rfl
          rw [hx] at hdn
          obtain ⟨ln, hln⟩ : ∃ ln, L.getD n [] = ln := ⟨_, rfl⟩
          obtain ⟨pn, hpn⟩ : ∃ pn, ps.getD n 0 = pn := ⟨_, rfl⟩
          rw [hln, hpn] at hdn
          rw [hln] at cnl hrn'
          rw [hpn] at cna
          clear hln hpn hrn ccn
          have hexn : pn < ln.length := (List.getElem?_eq_some_iff.1 hdn.symm).1
          have hexni : (pn : Int) < (ln.length : Int) := by omega
          obtain ⟨bn, on, rfl, hbn, e0, e1, e2, e3⟩ := hrn'.at_ hexn
          have hxe : ln[pn] = x := (List.getElem?_eq_some_iff.1 hdn.symm).2
          rw [hxe] at e0 e1 e2 e3
          have hszr := hb.size
          have mk : ∀ w', Below wr.heap.size wr w' → (w'.cell? ⟨p, 0, none⟩ = some (.slice (some ⟨b, off, none⟩) L.length c) ∧ w'.cell? ⟨q, 0, none⟩ = some (.slice (some ⟨g, 0, none⟩) L.length L.length) ∧ w'.cell? ⟨b, off + j, none⟩ = some (.slice (some ⟨bj, oj, none⟩) lj.length cj) ∧ w'.cell? ⟨g, j, none⟩ = some (.int .i64 pj) ∧ w'.cell? ⟨b, off + n, none⟩ = some (.slice (some ⟨bn, on, none⟩) ln.length cn) ∧ w'.cell? ⟨g, n, none⟩ = some (.int .i64 pn) ∧
              w'.cell? ⟨bj, oj + pj * 4, none⟩ = some (.string y.word) ∧ w'.cell? ⟨bj, oj + pj * 4 + 1, none⟩ = some (.int .u32 y.weight) ∧ w'.cell? ⟨bj, oj + pj * 4 + 2, none⟩ = some (.bool y.gone) ∧ w'.cell? ⟨bj, oj + pj * 4 + 3, none⟩ = some (.int .i64 y.dist) ∧
              w'.cell? ⟨bn, on + pn * 4, none⟩ = some (.string x.word) ∧ w'.cell? ⟨bn, on + pn * 4 + 1, none⟩ = some (.int .u32 x.weight) ∧ w'.cell? ⟨bn, on + pn * 4 + 2, none⟩ = some (.bool x.gone) ∧ w'.cell? ⟨bn, on + pn * 4 + 3, none⟩ = some (.int .i64 x.dist)) := fun w' hb' =>
            have k := (bcell hb').1
            ⟨(k _ _ (by omega)).trans cp, (k _ _ (by omega)).trans cq, (k _ _ (by omega)).trans cjl, (k _ _ (by omega)).trans cja, (k _ _ (by omega)).trans cnl, (k _ _ (by omega)).trans cna, (k _ _ (by omega)).trans d0, (k _ _ (by omega)).trans d1, (k _ _ (by omega)).trans d2, (k _ _ (by omega)).trans d3, (k _ _ (by omega)).trans e0, (k _ _ (by omega)).trans e1, (k _ _ (by omega)).trans e2, (k _ _ (by omega)).trans e3⟩
          have MK := Lib.hid mk
          have HY := Lib.hid (fun w => less10 y x w)
          have HX := Lib.hid hx
          have HMIN := Lib.hid hmin
          have hbd : Below wr.heap.size wr wr.drew := (Below.refl _ _).drew
          clear mk k0 hx hmin hdn hxe
          generalize hqq : lessH y x = qq at *
          have HQ := Lib.hid hqq
          clear hqq
          simp only [Hit.agg] at *
          have hn0 : (0 : Int) ≤ (n : Int) := by omega
          go_wp2
          go_region_held3 (fun w' => w'.cell? ⟨p, 0, none⟩ = some (.slice (some ⟨b, off, none⟩) L.length c) ∧ w'.cell? ⟨q, 0, none⟩ = some (.slice (some ⟨g, 0, none⟩) L.length L.length) ∧ w'.cell? ⟨b, off + j, none⟩ = some (.slice (some ⟨bj, oj, none⟩) lj.length cj) ∧ w'.cell? ⟨g, j, none⟩ = some (.int .i64 pj) ∧ w'.cell? ⟨b, off + n, none⟩ = some (.slice (some ⟨bn, on, none⟩) ln.length cn) ∧ w'.cell? ⟨g, n, none⟩ = some (.int .i64 pn) ∧
              w'.cell? ⟨bj, oj + pj * 4, none⟩ = some (.string y.word) ∧ w'.cell? ⟨bj, oj + pj * 4 + 1, none⟩ = some (.int .u32 y.weight) ∧ w'.cell? ⟨bj, oj + pj * 4 + 2, none⟩ = some (.bool y.gone) ∧ w'.cell? ⟨bj, oj + pj * 4 + 3, none⟩ = some (.int .i64 y.dist) ∧
              w'.cell? ⟨bn, on + pn * 4, none⟩ = some (.string x.word) ∧ w'.cell? ⟨bn, on + pn * 4 + 1, none⟩ = some (.int .u32 x.weight) ∧ w'.cell? ⟨bn, on + pn * 4 + 2, none⟩ = some (.bool x.gone) ∧ w'.cell? ⟨bn, on + pn * 4 + 3, none⟩ = some (.int .i64 x.dist))
            (first | exact MK.out _ hbd | exact MK.out _ hcum)
            (first | (go_at_call 10; refine (HY.out _).mono ?_; rintro e w1 ⟨rfl, hb1⟩; have hcum : Below wr.heap.size wr w1 := hbd.trans hb1))
          cases qq
          · go_wp2
            all_goals try (exfalso; rename_i hcond; rcases hcond with hcond | hcond <;> first | omega | cases hcond)
            go_roundg (L.length - (j + 1))
            case rel => exact ⟨j + 1, n, rfl, by omega, by go_num, rfl, best_not hnj HX.out HMIN.out HDJ.out HQ.out, hb.trans (hcum.mono hszr)⟩
            case measure => rw [HK.out]; omega
          · go_wp2
            all_goals try (exfalso; rename_i hcond; cases hcond.2; done)
            go_roundg (L.length - (j + 1))
            case rel => exact ⟨j + 1, j, rfl, by omega, by go_num, rfl, best_less HMIN.out HDJ.out HQ.out, hb.trans (hcum.mono hszr)⟩
            case measure => rw [HK.out]; omega
      · have hexi : (lj.length : Int) ≤ (pj : Int) := by omega
        rw [List.getElem?_eq_none (by omega)] at hdj
        have HBN := Lib.hid (best_none HB.out hdj)
        clear hdj k0
        go_wp2
        go_quiet (fail)
        go_wp2
        go_roundg (L.length - (j + 1))
        case rel => exact ⟨j + 1, i, rfl, by omega, by go_num, rfl, HBN.out, below_right hb _⟩
        case measure => rw [HK.out]; omega
    · have e : j = L.length := by omega
      subst e
      clear k0
      go_wp2
      go_ret
      exact ⟨⟨i, rfl, HB.out⟩, hb⟩
end Go.Proofs.Ytjpgcfcacfhmiaa
