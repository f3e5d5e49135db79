/- What comes in, opened: lists of drafts, and a row of such lists. -/
import Derived.Test.YtdlcnpjdloinnaaBotPlain
import Derived.ProofKit
import Derived.Deep.Slices
import Derived.Deep.Fields
import Derived.OpenShut
namespace Go.Proofs.Ytdlcnpjdloinnaa
open Go.ChangeShapes Go.WideShapes Go.ChangeAt Go.RowKit Go.Deep
theorem cells5 : Try.prog.cellsOf 5 = 1 := by kernel_rfl
theorem cells77 : Try.prog.cellsOf 77 = 3 := by kernel_rfl
theorem cells75 : Try.prog.cellsOf 75 = 1 := by kernel_rfl
theorem cells29 : Try.prog.cellsOf 29 = 1 := by kernel_rfl
theorem cells4 : Try.prog.cellsOf 4 = 1 := by kernel_rfl
theorem cells56 : Try.prog.cellsOf 56 = 1 := by kernel_rfl
section
variable {H : Type} {enc : TypeId × Value → H} {W : World}
theorem cell_lt {w : World} {p : Addr} {v : Value} (h : w.cell? p = some v) : p.block < w.heap.size := by
  unfold World.cell? at h
  rcases Nat.lt_or_ge p.block w.heap.size with hlt | hge
  · exact hlt
  · rw [Array.getElem?_eq_none hge] at h; cases h
theorem open_letters {fuel : Nat} {v : Value} {x : DataW H × List MemPlace} (h : DataW.trod enc Try.prog W 0 (fun _ => true) true fuel 75 [v] = some x) :
    ∃ (A : Option Addr) (c : Nat) (l : List Int), v = .slice A l.length c ∧ RU W W.heap.size A l ∧ l.length ≤ 9223372036854775807 := by
  rcases open_ints Try.underlying75 Try.underlying5 cells5 h with ⟨hcs, -⟩ | ⟨a, len, cap, zs, hcs, _, hl, hm, hz, -, hcell, hwz⟩
  · injection hcs with hcs
    exact ⟨none, 0, [], hcs, ⟨Reads.none_, by simp⟩, by simp⟩
  · injection hcs with hcs
    simp only [if_true] at hz
    have hlen : (zs.take len).length = len := by simp; omega
    refine ⟨some a, cap, zs.take len, by rw [hlen]; exact hcs, ⟨⟨by simp, fun h0 => ?_⟩, fun x hx => by have := bounds_u8 (hwz x (List.mem_of_mem_take hx)); omega⟩, by rw [hlen]; unfold maxLen at hm; omega⟩
    rw [hlen] at h0
    obtain ⟨ab, ao, spot⟩ := a
    have hspot : spot = none := by simpa [Addr.add] using World.cell?_spot (hcell 0 (by omega))
    subst hspot
    have h00 := cell_lt (hcell 0 (by omega))
    refine ⟨ab, ao, rfl, by simpa [Addr.add] using h00, fun j u hu => ?_⟩
    have hj : j < len := by have := (List.getElem?_eq_some_iff.1 hu).1; simp at this; omega
    have hcj := hcell j (by omega)
    rw [Addr.add_lit] at hcj
    rw [hcj, ← hu]
    simp [hj, List.getD, show j < zs.length by omega]
theorem open_drafts {fuel : Nat} {v : Value} {x : DataW H × List MemPlace} (h : DataW.trod enc Try.prog W 0 (fun _ => true) true fuel 56 [v] = some x) :
    ∃ (A : Option Addr) (c : Nat) (ds : List Dra), v = .slice A ds.length c ∧ RDs W W.heap.size A ds ∧ ds.length ≤ 9223372036854775807 := by
  rcases open_slice Try.underlying56 h with ⟨hcs, -⟩ | ⟨a, len, cap, m, n, D, Pl, hcs, _, hl, hm, hmm, -, hi⟩
  · injection hcs with hcs
    exact ⟨none, 0, [], hcs, fun h => absurd h (by simp), by simp⟩
  · injection hcs with hcs
    simp only [if_true] at hmm
    subst hmm
    have key : ∀ i, i < len → ∃ d : Dra, ∃ Ai ci, W.cell? (a.add (i * 3)) = some (.slice Ai d.letters.length ci) ∧ W.cell? (a.add (i * 3 + 1)) = some (.int .u32 d.weight) ∧ W.cell? (a.add (i * 3 + 2)) = some (.bool d.gone) ∧ RU W W.heap.size Ai d.letters ∧ d.letters.length ≤ 9223372036854775807 := by
      intro i hil
      obtain ⟨cs', hc, ht'⟩ := hi i (by omega)
      rw [cells77] at hc
      obtain ⟨ys, n', hn', hy, hlen, hyl, hf⟩ := DataW.trod_struct Try.underlying77 ht'
      obtain ⟨_, hcl, hat⟩ := World.cells?_some hc
      match cs', hcl with
      | [u0, u1, u2], _ =>
        have k0 := hat 0 (by omega)
        have k1 := hat 1 (by omega)
        have k2 := hat 2 (by omega)
        have f0 := hf 0 _ rfl
        have f1 := hf 1 _ rfl
        have f2 := hf 2 _ rfl
        have g0 : DataW.trod enc Try.prog W 0 (fun _ => true) true n' 75 [u0] = ys[0]? := f0
        have g1 : DataW.trod enc Try.prog W 0 (fun _ => true) true n' 29 [u1] = ys[1]? := f1
        have g2 : DataW.trod enc Try.prog W 0 (fun _ => true) true n' 4 [u2] = ys[2]? := f2
        have y3 : ys.length = 3 := hyl
        rw [List.getElem?_eq_getElem (by omega)] at g0 g1 g2
        obtain ⟨Ai, ci, l, rfl, hl1, hl2⟩ := open_letters g0
        obtain ⟨z, hz, -, -⟩ := DataW.trod_int Try.underlying29 g1
        obtain ⟨g, hg, -⟩ := DataW.trod_bool Try.underlying4 g2
        injection hz with hz
        injection hg with hg
        subst hz
        subst hg
        rw [Go.Deep.add_add] at k0 k1 k2
        exact ⟨⟨l, z, g⟩, Ai, ci, k0, k1, k2, hl1, hl2⟩
    obtain ⟨F, hF⟩ := choose_lt (α := Option Dra) (p := fun i o => ∃ d, o = some d ∧ ∃ Ai ci, W.cell? (a.add (i * 3)) = some (.slice Ai d.letters.length ci) ∧ W.cell? (a.add (i * 3 + 1)) = some (.int .u32 d.weight) ∧ W.cell? (a.add (i * 3 + 2)) = some (.bool d.gone) ∧ RU W W.heap.size Ai d.letters ∧ d.letters.length ≤ 9223372036854775807)
      (fun i hi => by obtain ⟨d, hd⟩ := key i hi; exact ⟨some d, d, rfl, hd⟩)
    have hlen : ((List.range len).map fun i => (F i).getD ⟨[], 0, false⟩).length = len := by simp
    refine ⟨some a, m, (List.range len).map fun i => (F i).getD ⟨[], 0, false⟩, by rw [hlen]; exact hcs, fun h0 => ?_, by rw [hlen]; unfold maxLen at hm; omega⟩
    rw [hlen] at h0
    obtain ⟨ab, ao, spot⟩ := a
    obtain ⟨d0, -, A0, c0, q0, -⟩ := hF 0 h0
    have hspot : spot = none := by simpa [Addr.add] using World.cell?_spot q0
    subst hspot
    refine ⟨ab, ao, rfl, by simpa [Addr.add] using cell_lt q0, fun i d hd => ?_⟩
    have hil : i < len := by have := (List.getElem?_eq_some_iff.1 hd).1; simpa using this
    obtain ⟨d', e, Ai, ci, k0, k1, k2, k3, k4⟩ := hF i hil
    have : d = d' := by
      rw [List.getElem?_map, List.getElem?_range hil] at hd
      simp only [Option.map_some, e, Option.getD_some, Option.some.injEq] at hd
      exact hd.symm
    subst this
    rw [Addr.add_lit] at k0 k1 k2
    exact ⟨Ai, ci, k0, by rw [Nat.add_assoc]; exact k1, by rw [Nat.add_assoc]; exact k2, k3, k4⟩
theorem open_rows {fuel : Nat} {v : Value} {x : DataW H × List MemPlace} (h : DataW.trod enc Try.prog W 0 (fun _ => true) true fuel 22 [v] = some x) :
    ∃ (A : Option Addr) (c : Nat) (D : List (List Dra)), v = .slice A D.length c ∧ RDLs W W.heap.size A D ∧ D.length ≤ 9223372036854775807 := by
  rcases open_slice1 Try.underlying22 cells56 h with ⟨hcs, -⟩ | ⟨a, len, cap, m, n, V, D, Pl, hcs, _, hl, hm, hmm, -, hi⟩
  · injection hcs with hcs
    exact ⟨none, 0, [], hcs, fun h => absurd h (by simp), by simp⟩
  · injection hcs with hcs
    simp only [if_true] at hmm
    subst hmm
    have key : ∀ i, i < len → ∃ d : List Dra, ∃ Ai ci, W.cell? (a.add i) = some (.slice Ai d.length ci) ∧ RDs W W.heap.size Ai d ∧ d.length ≤ 9223372036854775807 := by
      intro i hil
      obtain ⟨h1, h2⟩ := hi i (by omega)
      obtain ⟨Ai, ci, ds, e, h3, h4⟩ := open_drafts h2
      exact ⟨ds, Ai, ci, by rw [h1, e], h3, h4⟩
    obtain ⟨F, hF⟩ := choose_lt (α := List Dra) (p := fun i d => ∃ Ai ci, W.cell? (a.add i) = some (.slice Ai d.length ci) ∧ RDs W W.heap.size Ai d ∧ d.length ≤ 9223372036854775807) key
    have hlen : ((List.range len).map F).length = len := by simp
    refine ⟨some a, m, (List.range len).map F, by rw [hlen]; exact hcs, fun h0 => ?_, by rw [hlen]; unfold maxLen at hm; omega⟩
    rw [hlen] at h0
    obtain ⟨ab, ao, spot⟩ := a
    obtain ⟨A0, c0, q0, -⟩ := hF 0 h0
    have hspot : spot = none := by simpa [Addr.add] using World.cell?_spot q0
    subst hspot
    refine ⟨ab, ao, rfl, by simpa [Addr.add] using cell_lt q0, fun i d hd => ?_⟩
    have hil : i < len := by have := (List.getElem?_eq_some_iff.1 hd).1; simpa using this
    obtain ⟨Ai, ci, k0, k3, k4⟩ := hF i hil
    have : d = F i := by
      rw [List.getElem?_map, List.getElem?_range hil] at hd
      simp only [Option.map_some, Option.some.injEq] at hd
      exact hd.symm
    subst this
    rw [Addr.add_lit] at k0
    exact ⟨Ai, ci, k0, k3, k4⟩
end
end Go.Proofs.Ytdlcnpjdloinnaa
