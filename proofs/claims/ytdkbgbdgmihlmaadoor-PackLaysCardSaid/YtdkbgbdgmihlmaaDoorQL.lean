/- What comes in, opened: transducers, numbers, texts. -/
import Derived.Test.YtdkbgbdgmihlmaaDoorPFormF
import Derived.ProofKit
import Derived.Deep.Slices
import Derived.Deep.Fields
import Derived.OpenShut
import Derived.Test.YtdkbgbdgmihlmaaDoorQU
namespace Go.Proofs.YtdkbgbdgmihlmaaDoor
open Go.ChangeShapes Go.WideShapes Go.ChangeAt Go.RowKit Go.Deep
set_option linter.unusedSimpArgs false
set_option linter.unusedVariables false
set_option linter.unnecessarySimpa false
namespace Dw
set_option maxRecDepth 100000
theorem cells_arc : Tryd.prog.cellsOf 66 = 3 := by kernel_rfl
theorem cells_state : Tryd.prog.cellsOf 64 = 3 := by kernel_rfl
section
variable {H : Type} {enc : TypeId × Value → H} {W : World}
theorem open_arcs {fuel : Nat} {v : Value} {x : DataW H × List MemPlace} (h : DataW.trod enc Tryd.prog W 0 (fun _ => true) true fuel 62 [v] = some x) :
    ∃ l : List Arc, RA W (fun _ => True) v l ∧ ∀ a ∈ l, okA a := by
  rcases open_slice Tryd.underlying62 h with ⟨hcs, -⟩ | ⟨a, len, cap, m, n, D, Pl, hcs, _, hl, hm, hmm, -, hi⟩
  · injection hcs with hcs
    exact ⟨[], by rw [hcs]; exact RA.nil_, by simp⟩
  · injection hcs with hcs
    simp only [if_true] at hmm
    subst hmm
    have key : ∀ i, i < len → ∃ d : Arc, okA d ∧ W.cell? (a.add (i * 3)) = some (.int .u8 d.byte) ∧ W.cell? (a.add (i * 3 + 1)) = some (.int .u64 d.out) ∧ W.cell? (a.add (i * 3 + 2)) = some (.int .i64 d.to) := by
      intro i hil
      obtain ⟨cs', hc, ht'⟩ := hi i (by omega)
      rw [cells_arc] at hc
      obtain ⟨ys, n', hn', hy, hlen, hyl, hf⟩ := DataW.trod_struct Tryd.underlying66 ht'
      obtain ⟨_, hcl, hat⟩ := World.cells?_some hc
      match cs', hcl with
      | [u0, u1, u2], _ =>
        have k0 := hat 0 (by omega)
        have k1 := hat 1 (by omega)
        have k2 := hat 2 (by omega)
        have f0 := hf 0 _ rfl
        have f1 := hf 1 _ rfl
        have f2 := hf 2 _ rfl
        have g0 : DataW.trod enc Tryd.prog W 0 (fun _ => true) true n' 5 [u0] = ys[0]? := f0
        have g1 : DataW.trod enc Tryd.prog W 0 (fun _ => true) true n' 23 [u1] = ys[1]? := f1
        have g2 : DataW.trod enc Tryd.prog W 0 (fun _ => true) true n' 3 [u2] = ys[2]? := f2
        have y3 : ys.length = 3 := hyl
        rw [List.getElem?_eq_getElem (by omega)] at g0 g1 g2
        obtain ⟨z0, hz0, -, hw0⟩ := DataW.trod_int Tryd.underlying5 g0
        obtain ⟨z1, hz1, -, hw1⟩ := DataW.trod_int Tryd.underlying23 g1
        obtain ⟨z2, hz2, -, hw2⟩ := DataW.trod_int Tryd.underlying3 g2
        injection hz0 with hz0
        injection hz1 with hz1
        injection hz2 with hz2
        subst hz0
        subst hz1
        subst hz2
        rw [Go.Deep.add_add] at k0 k1 k2
        have b0 := bounds_u8 hw0
        have b1 := bounds_u64 hw1
        have b2 := bounds_i64 hw2
        obtain ⟨n0, rfl⟩ : ∃ n0 : Nat, z0 = (n0 : Int) := ⟨z0.toNat, by omega⟩
        obtain ⟨n1, rfl⟩ : ∃ n1 : Nat, z1 = (n1 : Int) := ⟨z1.toNat, by omega⟩
        exact ⟨⟨n0, n1, z2⟩, ⟨by simp only; omega, by simp only; omega, by simp only; omega, by simp only; omega⟩, k0, k1, k2⟩
    obtain ⟨F, hF⟩ := choose_lt (α := Option Arc) (p := fun i o => ∃ d, o = some d ∧ okA d ∧ W.cell? (a.add (i * 3)) = some (.int .u8 d.byte) ∧ W.cell? (a.add (i * 3 + 1)) = some (.int .u64 d.out) ∧ W.cell? (a.add (i * 3 + 2)) = some (.int .i64 d.to))
      (fun i hi => by obtain ⟨d, hd⟩ := key i hi; exact ⟨some d, d, rfl, hd⟩)
    have hlen : ((List.range len).map fun i => (F i).getD ⟨0, 0, 0⟩).length = len := by simp
    have hget : ∀ (i : Nat) (d : Arc), ((List.range len).map fun i => (F i).getD ⟨0, 0, 0⟩)[i]? = some d → i < len ∧ F i = some d := fun i d hd => by
      have hil : i < len := by have := (List.getElem?_eq_some_iff.1 hd).1; simpa using this
      obtain ⟨d', e, _⟩ := hF i hil
      rw [List.getElem?_map, List.getElem?_range hil] at hd
      simp only [Option.map_some, e, Option.getD_some, Option.some.injEq] at hd
      exact ⟨hil, by rw [e, hd]⟩
    refine ⟨(List.range len).map fun i => (F i).getD ⟨0, 0, 0⟩, ⟨some a, m, by rw [hlen]; exact hcs, by rw [hlen]; exact hl, fun h0 => ?_⟩, fun d hd => ?_⟩
    · rw [hlen] at h0
      obtain ⟨ab, ao, spot⟩ := a
      obtain ⟨d0, -, -, q0, -⟩ := hF 0 h0
      have hspot : spot = none := by simpa [Addr.add] using World.cell?_spot q0
      subst hspot
      refine ⟨ab, ao, rfl, trivial, fun j u hu => ?_⟩
      have hj := (List.getElem?_eq_some_iff.1 hu).1
      rw [acs_length, hlen] at hj
      obtain ⟨d, hd⟩ : ∃ d, ((List.range len).map fun i => (F i).getD ⟨0, 0, 0⟩)[j / 3]? = some d := ⟨_, List.getElem?_eq_getElem (by rw [hlen]; omega)⟩
      obtain ⟨hil, hFi⟩ := hget (j / 3) d hd
      obtain ⟨d', e, -, k0, k1, k2⟩ := hF (j / 3) hil
      obtain rfl : d = d' := Option.some.inj (hFi.symm.trans e)
      have hg := acs_get ((List.range len).map fun i => (F i).getD ⟨0, 0, 0⟩) (j / 3) (j % 3) (by rw [hlen]; omega) (by omega)
      rw [show j / 3 * 3 + j % 3 = j by omega, (List.getElem?_eq_some_iff.1 hd).2] at hg
      rw [hg] at hu
      rw [Addr.add_lit] at k0 k1 k2
      rcases (show j % 3 = 0 ∨ j % 3 = 1 ∨ j % 3 = 2 by omega) with h3 | h3 | h3
      · rw [h3] at hu
        rw [show ao + j = ao + j / 3 * 3 by omega, k0]
        exact hu
      · rw [h3] at hu
        rw [show ao + j = ao + (j / 3 * 3 + 1) by omega, k1]
        exact hu
      · rw [h3] at hu
        rw [show ao + j = ao + (j / 3 * 3 + 2) by omega, k2]
        exact hu
    · obtain ⟨i, hi2⟩ := List.mem_iff_getElem?.1 hd
      obtain ⟨hil, hFi⟩ := hget i d hi2
      obtain ⟨d', e, hok, -⟩ := hF i hil
      obtain rfl : d = d' := Option.some.inj (hFi.symm.trans e)
      exact hok
theorem open_states {fuel : Nat} {v : Value} {x : DataW H × List MemPlace} (h : DataW.trod enc Tryd.prog W 0 (fun _ => true) true fuel 22 [v] = some x) :
    ∃ ss : List State, RS W v ss ∧ ∀ s ∈ ss, okR s := by
  rcases open_slice Tryd.underlying22 h with ⟨hcs, -⟩ | ⟨a, len, cap, m, n, D, Pl, hcs, _, hl, hm, hmm, -, hi⟩
  · injection hcs with hcs
    exact ⟨[], by rw [hcs]; exact RS.nil_ W, by simp⟩
  · injection hcs with hcs
    simp only [if_true] at hmm
    subst hmm
    have key : ∀ i, i < len → ∃ s : State, okR s ∧ ∃ av, W.cell? (a.add (i * 3)) = some av ∧ W.cell? (a.add (i * 3 + 1)) = some (.bool s.final) ∧ W.cell? (a.add (i * 3 + 2)) = some (.int .u64 s.out) ∧ RA W (fun _ => True) av s.arcs := by
      intro i hil
      obtain ⟨cs', hc, ht'⟩ := hi i (by omega)
      rw [cells_state] at hc
      obtain ⟨ys, n', hn', hy, hlen, hyl, hf⟩ := DataW.trod_struct Tryd.underlying64 ht'
      obtain ⟨_, hcl, hat⟩ := World.cells?_some hc
      match cs', hcl with
      | [u0, u1, u2], _ =>
        have k0 := hat 0 (by omega)
        have k1 := hat 1 (by omega)
        have k2 := hat 2 (by omega)
        have f0 := hf 0 _ rfl
        have f1 := hf 1 _ rfl
        have f2 := hf 2 _ rfl
        have g0 : DataW.trod enc Tryd.prog W 0 (fun _ => true) true n' 62 [u0] = ys[0]? := f0
        have g1 : DataW.trod enc Tryd.prog W 0 (fun _ => true) true n' 4 [u1] = ys[1]? := f1
        have g2 : DataW.trod enc Tryd.prog W 0 (fun _ => true) true n' 23 [u2] = ys[2]? := f2
        have y3 : ys.length = 3 := hyl
        rw [List.getElem?_eq_getElem (by omega)] at g0 g1 g2
        obtain ⟨l, hl1, hl2⟩ := open_arcs g0
        obtain ⟨g, hg, -⟩ := DataW.trod_bool Tryd.underlying4 g1
        obtain ⟨z, hz, -, hwz⟩ := DataW.trod_int Tryd.underlying23 g2
        injection hz with hz
        injection hg with hg
        subst hz
        subst hg
        rw [Go.Deep.add_add] at k0 k1 k2
        have b1 := bounds_u64 hwz
        obtain ⟨n1, rfl⟩ : ∃ n1 : Nat, z = (n1 : Int) := ⟨z.toNat, by omega⟩
        exact ⟨⟨g, n1, l⟩, ⟨by simp only; omega, hl2⟩, u0, k0, k1, k2, hl1⟩
    obtain ⟨F, hF⟩ := choose_lt (α := Option State) (p := fun i o => ∃ s, o = some s ∧ okR s ∧ ∃ av, W.cell? (a.add (i * 3)) = some av ∧ W.cell? (a.add (i * 3 + 1)) = some (.bool s.final) ∧ W.cell? (a.add (i * 3 + 2)) = some (.int .u64 s.out) ∧ RA W (fun _ => True) av s.arcs)
      (fun i hi => by obtain ⟨d, hd⟩ := key i hi; exact ⟨some d, d, rfl, hd⟩)
    have hlen : ((List.range len).map fun i => (F i).getD zeroS).length = len := by simp
    have hget : ∀ (i : Nat) (d : State), ((List.range len).map fun i => (F i).getD zeroS)[i]? = some d → i < len ∧ F i = some d := fun i d hd => by
      have hil : i < len := by have := (List.getElem?_eq_some_iff.1 hd).1; simpa using this
      obtain ⟨d', e, _⟩ := hF i hil
      rw [List.getElem?_map, List.getElem?_range hil] at hd
      simp only [Option.map_some, e, Option.getD_some, Option.some.injEq] at hd
      exact ⟨hil, by rw [e, hd]⟩
    refine ⟨(List.range len).map fun i => (F i).getD zeroS, ⟨some a, m, by rw [hlen]; exact hcs, by rw [hlen]; exact hl, fun h0 => ?_⟩, fun d hd => ?_⟩
    · rw [hlen] at h0
      obtain ⟨ab, ao, spot⟩ := a
      obtain ⟨d0, -, -, av0, q0, -⟩ := hF 0 h0
      have hspot : spot = none := by simpa [Addr.add] using World.cell?_spot q0
      subst hspot
      refine ⟨ab, ao, rfl, fun i s hs => ?_⟩
      obtain ⟨hil, hFi⟩ := hget i s hs
      obtain ⟨d', e, -, av, k0, k1, k2, k3⟩ := hF i hil
      obtain rfl : s = d' := Option.some.inj (hFi.symm.trans e)
      rw [Addr.add_lit] at k0 k1 k2
      exact ⟨av, k0, by rw [Nat.add_assoc]; exact k1, by rw [Nat.add_assoc]; exact k2, k3⟩
    · obtain ⟨i, hi2⟩ := List.mem_iff_getElem?.1 hd
      obtain ⟨hil, hFi⟩ := hget i d hi2
      obtain ⟨d', e, hok, -⟩ := hF i hil
      obtain rfl : d = d' := Option.some.inj (hFi.symm.trans e)
      exact hok
theorem open_fst {fuel : Nat} {u0 u1 : Value} {x : DataW H × List MemPlace} (h : DataW.trod enc Tryd.prog W 0 (fun _ => true) true fuel 25 [u0, u1] = some x) :
    ∃ (ss : List State) (init : Nat), u1 = .int .u64 init ∧ init < 18446744073709551616 ∧ RS W u0 ss ∧ ∀ s ∈ ss, okR s := by
  obtain ⟨ys, n', hn', hy, hlen, hyl, hf⟩ := DataW.trod_struct Tryd.underlying25 h
  have f0 := hf 0 _ rfl
  have f1 := hf 1 _ rfl
  have g0 : DataW.trod enc Tryd.prog W 0 (fun _ => true) true n' 22 [u0] = ys[0]? := f0
  have g1 : DataW.trod enc Tryd.prog W 0 (fun _ => true) true n' 23 [u1] = ys[1]? := f1
  have y3 : ys.length = 2 := hyl
  rw [List.getElem?_eq_getElem (by omega)] at g0 g1
  obtain ⟨ss, h1, h2⟩ := open_states g0
  obtain ⟨z, hz, -, hwz⟩ := DataW.trod_int Tryd.underlying23 g1
  injection hz with hz
  subst hz
  have b1 := bounds_u64 hwz
  obtain ⟨n1, rfl⟩ : ∃ n1 : Nat, z = (n1 : Int) := ⟨z.toNat, by omega⟩
  exact ⟨ss, n1, rfl, by omega, h1, h2⟩
theorem two_of {cs : Array Value} (h : cs.size = 2) : ∃ a b, cs = #[a, b] := by
  obtain ⟨l⟩ := cs
  match l, h with
  | [a, b], _ => exact ⟨a, b, rfl⟩
end
end Dw
end Go.Proofs.YtdkbgbdgmihlmaaDoor

namespace Go.Proofs.YtdkbgbdgmihlmaaDoor
open Go.ChangeShapes Go.WideShapes Go.ChangeAt Go.RowKit Go.Deep
set_option linter.unusedSimpArgs false
set_option linter.unusedVariables false
set_option linter.unnecessarySimpa false
namespace Dw
set_option maxRecDepth 100000
theorem cells_u8 : Tryd.prog.cellsOf 5 = 1 := by kernel_rfl
theorem cells_dra : Tryd.prog.cellsOf 171 = 3 := by kernel_rfl
section
variable {H : Type} {enc : TypeId × Value → H} {W : World}
theorem open_letters {fuel : Nat} {v : Value} {x : DataW H × List MemPlace} (h : DataW.trod enc Tryd.prog W 0 (fun _ => true) true fuel 35 [v] = some x) :
    ∃ l : List Int, RU W W.heap.size v l ∧ ∀ x ∈ l, 0 ≤ x ∧ x ≤ 255 := by
  rcases open_ints Tryd.underlying35 Tryd.underlying5 cells_u8 h with ⟨hcs, -⟩ | ⟨a, len, cap, zs, hcs, _, hl, hm, hz, -, hcell, hwz⟩
  · injection hcs with hcs
    exact ⟨[], ⟨none, 0, hcs, by simp, fun h => absurd h (by simp)⟩, by simp⟩
  · injection hcs with hcs
    simp only [if_true] at hz
    have hlen : (zs.take len).length = len := by simp; omega
    refine ⟨zs.take len, ⟨some a, cap, by rw [hlen]; exact hcs, by rw [hlen]; unfold maxLen at hm; omega, fun h0 => ?_⟩, fun x hx => by have := bounds_u8 (hwz x (List.mem_of_mem_take hx)); omega⟩
    rw [hlen] at h0
    obtain ⟨ab, ao, spot⟩ := a
    have hspot : spot = none := by simpa [Addr.add] using World.cell?_spot (hcell 0 (by omega))
    subst hspot
    have h00 := cell_lt0 (hcell 0 (by omega))
    refine ⟨ab, ao, rfl, by simpa [Addr.add] using h00, fun j u hu => ?_⟩
    have hj : j < len := by have := (List.getElem?_eq_some_iff.1 hu).1; simp at this; omega
    have hcj := hcell j (by omega)
    rw [Addr.add_lit] at hcj
    have hu2 : zs[j]? = some u := by rw [List.getElem?_take, if_pos hj] at hu; exact hu
    rw [hcj]
    simp [List.getD, hu2]
theorem open_drafts {fuel : Nat} {v : Value} {x : DataW H × List MemPlace} (h : DataW.trod enc Tryd.prog W 0 (fun _ => true) true fuel 55 [v] = some x) :
    ∃ ds : List Dra, RDs W W.heap.size v ds ∧ ∀ d ∈ ds, okD d := by
  rcases open_slice Tryd.underlying55 h with ⟨hcs, -⟩ | ⟨a, len, cap, m, n, D, Pl, hcs, _, hl, hm, hmm, -, hi⟩
  · injection hcs with hcs
    exact ⟨[], ⟨none, 0, hcs, by simp, fun h => absurd h (by simp)⟩, by simp⟩
  · injection hcs with hcs
    simp only [if_true] at hmm
    subst hmm
    have key : ∀ i, i < len → ∃ d : Dra, okD d ∧ ∃ lv, W.cell? (a.add (i * 3)) = some lv ∧ W.cell? (a.add (i * 3 + 1)) = some (.int .u32 d.weight) ∧ W.cell? (a.add (i * 3 + 2)) = some (.bool d.gone) ∧ RU W W.heap.size lv d.letters := by
      intro i hil
      obtain ⟨cs', hc, ht'⟩ := hi i (by omega)
      rw [cells_dra] at hc
      obtain ⟨ys, n', hn', hy, hlen, hyl, hf⟩ := DataW.trod_struct Tryd.underlying171 ht'
      obtain ⟨_, hcl, hat⟩ := World.cells?_some hc
      match cs', hcl with
      | [u0, u1, u2], _ =>
        have k0 := hat 0 (by omega)
        have k1 := hat 1 (by omega)
        have k2 := hat 2 (by omega)
        have f0 := hf 0 _ rfl
        have f1 := hf 1 _ rfl
        have f2 := hf 2 _ rfl
        have g0 : DataW.trod enc Tryd.prog W 0 (fun _ => true) true n' 35 [u0] = ys[0]? := f0
        have g1 : DataW.trod enc Tryd.prog W 0 (fun _ => true) true n' 41 [u1] = ys[1]? := f1
        have g2 : DataW.trod enc Tryd.prog W 0 (fun _ => true) true n' 4 [u2] = ys[2]? := f2
        have y3 : ys.length = 3 := hyl
        rw [List.getElem?_eq_getElem (by omega)] at g0 g1 g2
        obtain ⟨l, hl1, hl2⟩ := open_letters g0
        obtain ⟨z, hz, -, hwz⟩ := DataW.trod_int Tryd.underlying41 g1
        obtain ⟨g, hg, -⟩ := DataW.trod_bool Tryd.underlying4 g2
        injection hz with hz
        injection hg with hg
        subst hz
        subst hg
        rw [Go.Deep.add_add] at k0 k1 k2
        exact ⟨⟨l, z, g⟩, ⟨hl2, by have := bounds_u32 hwz; show 0 ≤ z; omega, by have := bounds_u32 hwz; show z < 4294967296; omega⟩, u0, k0, k1, k2, hl1⟩
    obtain ⟨F, hF⟩ := choose_lt (α := Option Dra) (p := fun i o => ∃ d, o = some d ∧ okD d ∧ ∃ lv, W.cell? (a.add (i * 3)) = some lv ∧ W.cell? (a.add (i * 3 + 1)) = some (.int .u32 d.weight) ∧ W.cell? (a.add (i * 3 + 2)) = some (.bool d.gone) ∧ RU W W.heap.size lv d.letters)
      (fun i hi => by obtain ⟨d, hd⟩ := key i hi; exact ⟨some d, d, rfl, hd⟩)
    have hlen : ((List.range len).map fun i => (F i).getD ⟨[], 0, false⟩).length = len := by simp
    have hget : ∀ (i : Nat) (d : Dra), ((List.range len).map fun i => (F i).getD ⟨[], 0, false⟩)[i]? = some d → i < len ∧ F i = some d := fun i d hd => by
      have hil : i < len := by have := (List.getElem?_eq_some_iff.1 hd).1; simpa using this
      obtain ⟨d', e, _⟩ := hF i hil
      rw [List.getElem?_map, List.getElem?_range hil] at hd
      simp only [Option.map_some, e, Option.getD_some, Option.some.injEq] at hd
      exact ⟨hil, by rw [e, hd]⟩
    refine ⟨(List.range len).map fun i => (F i).getD ⟨[], 0, false⟩, ⟨some a, m, by rw [hlen]; exact hcs, by rw [hlen]; unfold maxLen at hm; omega, fun h0 => ?_⟩, fun d hd => ?_⟩
    · rw [hlen] at h0
      obtain ⟨ab, ao, spot⟩ := a
      obtain ⟨d0, -, -, lv0, q0, -⟩ := hF 0 h0
      have hspot : spot = none := by simpa [Addr.add] using World.cell?_spot q0
      subst hspot
      refine ⟨ab, ao, rfl, by simpa [Addr.add] using cell_lt0 q0, fun i d hd => ?_⟩
      obtain ⟨hil, hFi⟩ := hget i d hd
      obtain ⟨d', e, -, lv, k0, k1, k2, k3⟩ := hF i hil
      obtain rfl : d = d' := Option.some.inj (hFi.symm.trans e)
      rw [Addr.add_lit] at k0 k1 k2
      exact ⟨lv, k0, by rw [Nat.add_assoc]; exact k1, by rw [Nat.add_assoc]; exact k2, k3⟩
    · obtain ⟨i, hi2⟩ := List.mem_iff_getElem?.1 hd
      obtain ⟨hil, hFi⟩ := hget i d hi2
      obtain ⟨d', e, hok, -⟩ := hF i hil
      obtain rfl : d = d' := Option.some.inj (hFi.symm.trans e)
      exact hok
end
end Dw
end Go.Proofs.YtdkbgbdgmihlmaaDoor
