/- The walk of MergeKnown. -/
import Derived.Test.YtdlcnpjdloinnaaKnown0
import Derived.Deep.RegionHeld3
namespace Go.Proofs.Ytdlcnpjdloinnaa
open Go.RowKit
theorem row8 {w : World} {B g : Nat} (h : RHs w B (some ⟨g, 0, none⟩) one) : w.cell? ⟨g, 0, none⟩ = some (.string ⟨#[97]⟩) ∧ w.cell? ⟨g, 1, none⟩ = some (.int .u32 1) ∧ w.cell? ⟨g, 2, none⟩ = some (.bool false) ∧ w.cell? ⟨g, 3, none⟩ = some (.int .i64 2) := by
  obtain ⟨b, off, e, _, h0, h1, h2, h3⟩ := h.at_ (i := 0) (by decide)
  injection e with e; injection e with e1 e2; subst e1; subst e2
  exact ⟨h0, h1, h2, h3⟩
theorem row11 {w : World} {B g : Nat} (h : RHs w B (some ⟨g, 0, none⟩) two) : w.cell? ⟨g, 8, none⟩ = some (.string ⟨#[98, 98]⟩) ∧ w.cell? ⟨g, 9, none⟩ = some (.int .u32 6) ∧ w.cell? ⟨g, 10, none⟩ = some (.bool false) ∧ w.cell? ⟨g, 11, none⟩ = some (.int .i64 1) := by
  obtain ⟨b, off, e, _, h0, h1, h2, h3⟩ := h.at_ (i := 2) (by decide)
  injection e with e; injection e with e1 e2; subst e1; subst e2
  exact ⟨h0, h1, h2, h3⟩
theorem pair_12 (W : World) {A B : Option Addr} (ha : RHs W W.heap.size A one) (hb : RHs W W.heap.size B two) :
    H.RLs (W.alloc (.cells #[.slice A 2 2, .slice B 3 3] 41)) (W.alloc (.cells #[.slice A 2 2, .slice B 3 3] 41)).heap.size (some ⟨W.heap.size, 0, none⟩) [one, two] := H.RLs.pair W rfl rfl (Nat.le_refl _) (Nat.le_refl _) ha hb
theorem pair_12_after (W : World) (o : Obj) {A B : Option Addr} (ha : RHs W W.heap.size A one) (hb : RHs W W.heap.size B two) :
    H.RLs ((W.alloc o).alloc (.cells #[.slice A 2 2, .slice B 3 3] 41)) ((W.alloc o).alloc (.cells #[.slice A 2 2, .slice B 3 3] 41)).heap.size (some ⟨W.heap.size + 1, 0, none⟩) [one, two] := by
  have h := pair_12 (W.alloc o) (ha.up o) (hb.up o)
  rw [World.size_alloc W] at h
  exact h
theorem pair_21 (W : World) {A B : Option Addr} (ha : RHs W W.heap.size A two) (hb : RHs W W.heap.size B one) :
    H.RLs (W.alloc (.cells #[.slice A 3 3, .slice B 2 2] 41)) (W.alloc (.cells #[.slice A 3 3, .slice B 2 2] 41)).heap.size (some ⟨W.heap.size, 0, none⟩) [two, one] := H.RLs.pair W rfl rfl (Nat.le_refl _) (Nat.le_refl _) ha hb
set_option maxHeartbeats 8000000 in
set_option maxRecDepth 100000 in
theorem knownLaw_any (w : World) : Calls Try.prog 8 #[] w fun e w' => e = .returned (.bool true) ∧ Below w.heap.size w w' := by
  go_enter Try.func8, Try.ntmps8
  go_upto_region 5 with (go_at_call 9; refine (works_any _).mono ?_; rintro e w1 ⟨rfl, hb1⟩; have hsz1 := hb1.size)
  have o1 : RHs (w1.alloc (.cells #[.string ⟨#[97]⟩, .int .u32 1, .bool false, .int .i64 2, .string ⟨#[98]⟩, .int .u32 0, .bool true, .int .i64 1] 52)) (w1.alloc (.cells #[.string ⟨#[97]⟩, .int .u32 1, .bool false, .int .i64 2, .string ⟨#[98]⟩, .int .u32 0, .bool true, .int .i64 1] 52)).heap.size (some ⟨w1.heap.size, 0, none⟩) one := RHs.lit rfl
  have o2 : RHs ((w1.alloc (.cells #[.string ⟨#[97]⟩, .int .u32 1, .bool false, .int .i64 2, .string ⟨#[98]⟩, .int .u32 0, .bool true, .int .i64 1] 52)).alloc (.cells #[.string ⟨#[97]⟩, .int .u32 5, .bool false, .int .i64 3, .string ⟨#[98]⟩, .int .u32 5, .bool false, .int .i64 0, .string ⟨#[98, 98]⟩, .int .u32 6, .bool false, .int .i64 1] 52)) ((w1.alloc (.cells #[.string ⟨#[97]⟩, .int .u32 1, .bool false, .int .i64 2, .string ⟨#[98]⟩, .int .u32 0, .bool true, .int .i64 1] 52)).alloc (.cells #[.string ⟨#[97]⟩, .int .u32 5, .bool false, .int .i64 3, .string ⟨#[98]⟩, .int .u32 5, .bool false, .int .i64 0, .string ⟨#[98, 98]⟩, .int .u32 6, .bool false, .int .i64 1] 52)).heap.size (some ⟨(w1.alloc (.cells #[.string ⟨#[97]⟩, .int .u32 1, .bool false, .int .i64 2, .string ⟨#[98]⟩, .int .u32 0, .bool true, .int .i64 1] 52)).heap.size, 0, none⟩) two := RHs.lit rfl
  have o3 := o1.up (.cells #[.string ⟨#[97]⟩, .int .u32 5, .bool false, .int .i64 3, .string ⟨#[98]⟩, .int .u32 5, .bool false, .int .i64 0, .string ⟨#[98, 98]⟩, .int .u32 6, .bool false, .int .i64 1] 52)
  have hbB : Below w.heap.size w ((w1.alloc (.cells #[.string ⟨#[97]⟩, .int .u32 1, .bool false, .int .i64 2, .string ⟨#[98]⟩, .int .u32 0, .bool true, .int .i64 1] 52)).alloc (.cells #[.string ⟨#[97]⟩, .int .u32 5, .bool false, .int .i64 3, .string ⟨#[98]⟩, .int .u32 5, .bool false, .int .i64 0, .string ⟨#[98, 98]⟩, .int .u32 6, .bool false, .int .i64 1] 52)) := (hb1.alloc hsz1 _).alloc (by simp; omega) _
  rw [World.size_alloc w1] at o2
  generalize (w1.alloc (.cells #[.string ⟨#[97]⟩, .int .u32 1, .bool false, .int .i64 2, .string ⟨#[98]⟩, .int .u32 0, .bool true, .int .i64 1] 52)).alloc (.cells #[.string ⟨#[97]⟩, .int .u32 5, .bool false, .int .i64 3, .string ⟨#[98]⟩, .int .u32 5, .bool false, .int .i64 0, .string ⟨#[98, 98]⟩, .int .u32 6, .bool false, .int .i64 1] 52) = wB at *
  clear o1 hb1 hsz1
  generalize w1.heap.size + 1 = g2 at *
  generalize w1.heap.size = g1 at *
  have mk : ∀ w' : World, Below wB.heap.size wB w' → (Below wB.heap.size wB w' ∧ w'.cell? ⟨g1, 0, none⟩ = some (.string ⟨#[97]⟩) ∧ w'.cell? ⟨g1, 1, none⟩ = some (.int .u32 1) ∧ w'.cell? ⟨g1, 2, none⟩ = some (.bool false) ∧ w'.cell? ⟨g1, 3, none⟩ = some (.int .i64 2) ∧ w'.cell? ⟨g2, 8, none⟩ = some (.string ⟨#[98, 98]⟩) ∧ w'.cell? ⟨g2, 9, none⟩ = some (.int .u32 6) ∧ w'.cell? ⟨g2, 10, none⟩ = some (.bool false) ∧ w'.cell? ⟨g2, 11, none⟩ = some (.int .i64 1)) := fun w' hb' => by
    obtain ⟨q0, q1, q2, q3⟩ := row8 (o3.later hb')
    obtain ⟨r0, r1, r2, r3⟩ := row11 (o2.later hb')
    exact ⟨hb', q0, q1, q2, q3, r0, r1, r2, r3⟩
  have MK := Lib.hid mk
  have ho : ∀ w' : World, Below wB.heap.size wB w' → RHs w' w'.heap.size (some ⟨g1, 0, none⟩) one := fun w' hb' => o3.later hb'
  have hu : ∀ w' : World, Below wB.heap.size wB w' → RHs w' w'.heap.size (some ⟨g2, 0, none⟩) two := fun w' hb' => o2.later hb'
  have HO := Lib.hid ho
  have HT := Lib.hid hu
  have hg0 : True := trivial
  have G1 := Lib.hid hg0
  have G2 := Lib.hid hg0
  have G3 := Lib.hid hg0
  have G4 := Lib.hid hg0
  have G5 := Lib.hid hg0
  have G6 := Lib.hid hg0
  clear mk ho hu o2 o3 hg0
  have hsB := hbB.size
  go_region_held3 (fun w' => Below wB.heap.size wB w' ∧ w'.cell? ⟨g1, 0, none⟩ = some (.string ⟨#[97]⟩) ∧ w'.cell? ⟨g1, 1, none⟩ = some (.int .u32 1) ∧ w'.cell? ⟨g1, 2, none⟩ = some (.bool false) ∧ w'.cell? ⟨g1, 3, none⟩ = some (.int .i64 2) ∧ w'.cell? ⟨g2, 8, none⟩ = some (.string ⟨#[98, 98]⟩) ∧ w'.cell? ⟨g2, 9, none⟩ = some (.int .u32 6) ∧ w'.cell? ⟨g2, 10, none⟩ = some (.bool false) ∧ w'.cell? ⟨g2, 11, none⟩ = some (.int .i64 1))
    (first | exact MK.out _ hcum | exact MK.out _ (Below.refl _ _).drew | exact MK.out _ (hcum.alloc hcum.size _) | exact MK.out _ ((hcum.alloc hcum.size _).alloc (hcum.alloc hcum.size _).size _))
    (first
      | (go_at_call 11; first
          | (have _q := G1; refine (lists_none _).mono ?_; rintro e w2 ⟨A2, c2, rfl, hb2⟩; have hcum := keepL ((Below.refl _ _).drew : Below wB.heap.size wB wB.drew) hb2; clear hb2 _q G1)
          | (refine (lists_nils _).mono ?_; rintro e w3 ⟨A3, c3, rfl, hb3⟩; have hcum := keepL hcum hb3; clear hb3))
      | (go_at_call 15; first
          | (have _q := G2; refine (bottom_none _).mono ?_; rintro e w4 ⟨A4, c4, rfl, hb4⟩; have hcum := keepL hcum hb4; clear hb4 _q G2)
          | (refine (bottom_x _).mono ?_; rintro e w11 ⟨A11, c11, rfl, hb11⟩; have hcum := keepL hcum hb11; clear hb11))
      | (go_at_call 20; first
          | (have _q := G3; refine (hits_none _).mono ?_; rintro e w5 ⟨A5, c5, rfl, hb5⟩; have hcum := keepL hcum hb5; clear hb5 _q G3)
          | (have _q := G4; refine (hits_nil _).mono ?_; rintro e w6 ⟨A6, c6, rfl, hb6⟩; have hcum := keepL hcum hb6; clear hb6 _q G4)
          | (have _q := G5; refine (hits_12 _ _ _ (by with_reducible exact pair_12 _ (HO.out _ hcum) (HT.out _ hcum))).mono ?_; rintro e w7 ⟨A7, c7, rfl, hc7, hr7, hb7⟩; have hcum := keepL (hcum.alloc hcum.size _) hb7; clear _q G5)
          | (have _q := G5; refine (hits_12 _ _ _ (by with_reducible exact pair_12_after _ _ (HO.out _ hcum) (HT.out _ hcum))).mono ?_; rintro e w7 ⟨A7, c7, rfl, hc7, hr7, hb7⟩; have hlit : RHs w7 w7.heap.size (some ⟨w6.heap.size, 0, none⟩) [hA, hBB] := ((RHs.lit (W := w6) (es := [hA, hBB]) rfl).up _).later hb7; have hcum := keepL ((hcum.alloc hcum.size _).alloc (hcum.alloc hcum.size _).size _) hb7; clear _q G5)
          | (have _q := G5; refine (hits_12 _ _ _ (by with_reducible exact (pair_12 _ (HO.out _ hcum) (HT.out _ hcum)).up _)).mono ?_; rintro e w7 ⟨A7, c7, rfl, hc7, hr7, hb7⟩; have hlit : RHs w7 w7.heap.size (some ⟨w6.heap.size + 1, 0, none⟩) [hA, hBB] := (by have hx := (RHs.lit (W := w6.alloc _) (es := [hA, hBB]) rfl).later hb7; rw [World.size_alloc] at hx; exact hx); have hcum := keepL ((hcum.alloc hcum.size _).alloc (hcum.alloc hcum.size _).size _) hb7; clear _q G5)
          | (refine (hits_21 _ _ _ (by with_reducible exact pair_21 _ (HT.out _ hcum) (HO.out _ hcum))).mono ?_; rintro e w9 ⟨A9, c9, rfl, hc9, hr9, hb9⟩; have hcum := keepL (hcum.alloc hcum.size _) hb9))
      | (go_at_call 19; first
          | (have _q := G6; refine (hsame_lit [hA, hBB] (by with_reducible exact hr7) (by with_reducible exact hlit) rfl (by decide)).mono ?_; rintro e w8 ⟨rfl, hb8⟩; have hcum := keepL hcum hb8; clear _q G6)
          | (have _q := G6; refine (hsame_lit [hA, hBB] (by with_reducible exact hr7.up _) (by ((with_reducible refine RHs.lit ?_); rfl)) rfl (by decide)).mono ?_; rintro e w8 ⟨rfl, hb8⟩; have hcum := keepL (hcum.alloc hcum.size _) hb8; clear _q G6)
          | (refine (hsame_lit two (by with_reducible exact hr9) (by with_reducible exact HT.out _ hcum) rfl (by decide)).mono ?_; rintro e w10 ⟨rfl, hb10⟩; have hcum := keepL hcum hb10)))
  all_goals (go_wp2; go_ret; exact ⟨rfl, hbB.trans (hcum.mono hbB.size)⟩)
end Go.Proofs.Ytdlcnpjdloinnaa
