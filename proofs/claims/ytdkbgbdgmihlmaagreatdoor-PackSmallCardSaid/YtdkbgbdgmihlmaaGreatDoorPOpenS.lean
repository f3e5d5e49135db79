/- What comes in, opened: drafts. -/
import Derived.Test.YtdkbgbdgmihlmaaGreatDoorPSm1
import Derived.ProofKit
import Derived.Deep.Slices
import Derived.Deep.Fields
import Derived.OpenShut
namespace Go.Proofs.YtdkbgbdgmihlmaaGreatDoor
open Go.ChangeShapes Go.WideShapes Go.ChangeAt Go.RowKit Go.Deep
set_option linter.unusedSimpArgs false
set_option linter.unusedVariables false
set_option linter.unnecessarySimpa false
namespace Dw
set_option maxRecDepth 100000
theorem cells_u8 : Tryz.prog.cellsOf 5 = 1 := by kernel_rfl
theorem cells_dra : Tryz.prog.cellsOf 26 = 3 := by kernel_rfl
section
variable {H : Type} {enc : TypeId × Value → H} {W : World}
theorem open_letters {fuel : Nat} {v : Value} {x : DataW H × List MemPlace} (h : DataW.trod enc Tryz.prog W 0 (fun _ => true) true fuel 23 [v] = some x) :
    ∃ l : List Int, RU W W.heap.size v l ∧ ∀ x ∈ l, 0 ≤ x ∧ x ≤ 255 := by
  rcases open_ints Tryz.underlying23 Tryz.underlying5 cells_u8 h with ⟨hcs, -⟩ | ⟨a, len, cap, zs, hcs, _, hl, hm, hz, -, hcell, hwz⟩
  · injection hcs with hcs
    exact ⟨[], ⟨none, 0, hcs, by simp, fun h => absurd h (by simp)⟩, by simp⟩
  · injection hcs with hcs
    simp only [if_true] at hz
    have hlen : (zs.take len).length = len := by simp; omega
    refine ⟨zs.take len, ⟨some a, cap, by rw [hlen]; exact hcs, by rw [hlen]; unfold maxLen at hm; omega, fun h0 => ?_⟩, fun x hx => by have := bounds_u8 (hwz x (List.mem_of_mem_take hx)); omega⟩
    rw [hlen] at h0
    obtain ⟨ab, ao, spot⟩ := a
    have hspot : spot = none := by simpa [Addr.add] using World.cell?_spot (hcell 0 (by omega))
    subst hspot
    have h00 := cell_lt0 (hcell 0 (by omega))
    refine ⟨ab, ao, rfl, by simpa [Addr.add] using h00, fun j u hu => ?_⟩
    have hj : j < len := by have := (List.getElem?_eq_some_iff.1 hu).1; simp at this; omega
    have hcj := hcell j (by omega)
    rw [Addr.add_lit] at hcj
    have hu2 : zs[j]? = some u := by rw [List.getElem?_take, if_pos hj] at hu; exact hu
    rw [hcj]
    simp [List.getD, hu2]
theorem open_drafts {fuel : Nat} {v : Value} {x : DataW H × List MemPlace} (h : DataW.trod enc Tryz.prog W 0 (fun _ => true) true fuel 22 [v] = some x) :
    ∃ ds : List Dra, RDs W W.heap.size v ds ∧ ∀ d ∈ ds, okD d := by
  rcases open_slice Tryz.underlying22 h with ⟨hcs, -⟩ | ⟨a, len, cap, m, n, D, Pl, hcs, _, hl, hm, hmm, -, hi⟩
  · injection hcs with hcs
    exact ⟨[], ⟨none, 0, hcs, by simp, fun h => absurd h (by simp)⟩, by simp⟩
  · injection hcs with hcs
    simp only [if_true] at hmm
    subst hmm
    have key : ∀ i, i < len → ∃ d : Dra, okD d ∧ ∃ lv, W.cell? (a.add (i * 3)) = some lv ∧ W.cell? (a.add (i * 3 + 1)) = some (.int .u32 d.weight) ∧ W.cell? (a.add (i * 3 + 2)) = some (.bool d.gone) ∧ RU W W.heap.size lv d.letters := by
      intro i hil
      obtain ⟨cs', hc, ht'⟩ := hi i (by omega)
      rw [cells_dra] at hc
      obtain ⟨ys, n', hn', hy, hlen, hyl, hf⟩ := DataW.trod_struct Tryz.underlying26 ht'
      obtain ⟨_, hcl, hat⟩ := World.cells?_some hc
      match cs', hcl with
      | [u0, u1, u2], _ =>
        have k0 := hat 0 (by omega)
        have k1 := hat 1 (by omega)
        have k2 := hat 2 (by omega)
        have f0 := hf 0 _ rfl
        have f1 := hf 1 _ rfl
        have f2 := hf 2 _ rfl
        have g0 : DataW.trod enc Tryz.prog W 0 (fun _ => true) true n' 23 [u0] = ys[0]? := f0
        have g1 : DataW.trod enc Tryz.prog W 0 (fun _ => true) true n' 24 [u1] = ys[1]? := f1
        have g2 : DataW.trod enc Tryz.prog W 0 (fun _ => true) true n' 4 [u2] = ys[2]? := f2
        have y3 : ys.length = 3 := hyl
        rw [List.getElem?_eq_getElem (by omega)] at g0 g1 g2
        obtain ⟨l, hl1, hl2⟩ := open_letters g0
        obtain ⟨z, hz, -, hwz⟩ := DataW.trod_int Tryz.underlying24 g1
        obtain ⟨g, hg, -⟩ := DataW.trod_bool Tryz.underlying4 g2
        injection hz with hz
        injection hg with hg
        subst hz
        subst hg
        rw [Go.Deep.add_add] at k0 k1 k2
        exact ⟨⟨l, z, g⟩, ⟨hl2, by have := bounds_u32 hwz; show 0 ≤ z; omega, by have := bounds_u32 hwz; show z < 4294967296; omega⟩, u0, k0, k1, k2, hl1⟩
    obtain ⟨F, hF⟩ := choose_lt (α := Option Dra) (p := fun i o => ∃ d, o = some d ∧ okD d ∧ ∃ lv, W.cell? (a.add (i * 3)) = some lv ∧ W.cell? (a.add (i * 3 + 1)) = some (.int .u32 d.weight) ∧ W.cell? (a.add (i * 3 + 2)) = some (.bool d.gone) ∧ RU W W.heap.size lv d.letters)
      (fun i hi => by obtain ⟨d, hd⟩ := key i hi; exact ⟨some d, d, rfl, hd⟩)
    have hlen : ((List.range len).map fun i => (F i).getD ⟨[], 0, false⟩).length = len := by simp
    have hget : ∀ (i : Nat) (d : Dra), ((List.range len).map fun i => (F i).getD ⟨[], 0, false⟩)[i]? = some d → i < len ∧ F i = some d := fun i d hd => by
      have hil : i < len := by have := (List.getElem?_eq_some_iff.1 hd).1; simpa using this
      obtain ⟨d', e, _⟩ := hF i hil
      rw [List.getElem?_map, List.getElem?_range hil] at hd
      simp only [Option.map_some, e, Option.getD_some, Option.some.injEq] at hd
      exact ⟨hil, by rw [e, hd]⟩
    refine ⟨(List.range len).map fun i => (F i).getD ⟨[], 0, false⟩, ⟨some a, m, by rw [hlen]; exact hcs, by rw [hlen]; unfold maxLen at hm; omega, fun h0 => ?_⟩, fun d hd => ?_⟩
    · rw [hlen] at h0
      obtain ⟨ab, ao, spot⟩ := a
      obtain ⟨d0, -, -, lv0, q0, -⟩ := hF 0 h0
      have hspot : spot = none := by simpa [Addr.add] using World.cell?_spot q0
      subst hspot
      refine ⟨ab, ao, rfl, by simpa [Addr.add] using cell_lt0 q0, fun i d hd => ?_⟩
      obtain ⟨hil, hFi⟩ := hget i d hd
      obtain ⟨d', e, -, lv, k0, k1, k2, k3⟩ := hF i hil
      obtain rfl : d = d' := Option.some.inj (hFi.symm.trans e)
      rw [Addr.add_lit] at k0 k1 k2
      exact ⟨lv, k0, by rw [Nat.add_assoc]; exact k1, by rw [Nat.add_assoc]; exact k2, k3⟩
    · obtain ⟨i, hi2⟩ := List.mem_iff_getElem?.1 hd
      obtain ⟨hil, hFi⟩ := hget i d hi2
      obtain ⟨d', e, hok, -⟩ := hF i hil
      obtain rfl : d = d' := Option.some.inj (hFi.symm.trans e)
      exact hok
theorem open_draft {fuel : Nat} {u0 u1 u2 : Value} {x : DataW H × List MemPlace} (h : DataW.trod enc Tryz.prog W 0 (fun _ => true) true fuel 26 [u0, u1, u2] = some x) :
    ∃ d : Dra, u1 = .int .u32 d.weight ∧ u2 = .bool d.gone ∧ RU W W.heap.size u0 d.letters ∧ okD d := by
  obtain ⟨ys, n', hn', hy, hlen, hyl, hf⟩ := DataW.trod_struct Tryz.underlying26 h
  have g0 : DataW.trod enc Tryz.prog W 0 (fun _ => true) true n' 23 [u0] = ys[0]? := hf 0 _ rfl
  have g1 : DataW.trod enc Tryz.prog W 0 (fun _ => true) true n' 24 [u1] = ys[1]? := hf 1 _ rfl
  have g2 : DataW.trod enc Tryz.prog W 0 (fun _ => true) true n' 4 [u2] = ys[2]? := hf 2 _ rfl
  have y3 : ys.length = 3 := hyl
  rw [List.getElem?_eq_getElem (by omega)] at g0 g1 g2
  obtain ⟨l, hl1, hl2⟩ := open_letters g0
  obtain ⟨z, hz, -, hwz⟩ := DataW.trod_int Tryz.underlying24 g1
  obtain ⟨g, hg, -⟩ := DataW.trod_bool Tryz.underlying4 g2
  injection hz with hz
  injection hg with hg
  subst hz
  subst hg
  exact ⟨⟨l, z, g⟩, rfl, rfl, hl1, hl2, by have := bounds_u32 hwz; show 0 ≤ z; omega, by have := bounds_u32 hwz; show z < 4294967296; omega⟩
end
theorem three_of {cs : Array Value} (h : cs.size = 3) : ∃ a b c, cs = #[a, b, c] := by
  obtain ⟨l⟩ := cs
  match l, h with
  | [a, b, c], _ => exact ⟨a, b, c, rfl⟩
end Dw
end Go.Proofs.YtdkbgbdgmihlmaaGreatDoor
