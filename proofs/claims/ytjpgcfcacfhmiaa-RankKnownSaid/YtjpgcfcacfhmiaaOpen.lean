/- What comes in, opened: drafts of hits, lists of such drafts, hits. -/
import Derived.Test.YtjpgcfcacfhmiaaDraft
import Derived.ProofKit
import Derived.Deep.Slices
import Derived.Deep.Fields
import Derived.OpenShut
namespace Go.Proofs.Ytjpgcfcacfhmiaa
open Go.ChangeShapes Go.WideShapes Go.ChangeAt Go.RowKit Go.Deep
set_option linter.unusedSimpArgs false
set_option linter.unusedVariables false
set_option linter.unnecessarySimpa false
theorem cells5 : Try.prog.cellsOf 5 = 1 := by kernel_rfl
theorem cells3 : Try.prog.cellsOf 3 = 1 := by kernel_rfl
theorem cells9 : Try.prog.cellsOf 9 = 1 := by kernel_rfl
theorem cells54 : Try.prog.cellsOf 54 = 3 := by kernel_rfl
theorem cells24 : Try.prog.cellsOf 24 = 3 := by kernel_rfl
theorem cells26 : Try.prog.cellsOf 26 = 4 := by kernel_rfl
theorem cells56 : Try.prog.cellsOf 56 = 4 := by kernel_rfl
theorem cells27 : Try.prog.cellsOf 27 = 12 := by kernel_rfl
theorem cells49 : Try.prog.cellsOf 49 = 1 := by kernel_rfl
theorem cells22 : Try.prog.cellsOf 22 = 1 := by kernel_rfl
theorem cells4 : Try.prog.cellsOf 4 = 1 := by kernel_rfl
theorem cells28 : Try.prog.cellsOf 28 = 1 := by kernel_rfl
section
variable {H : Type} {enc : TypeId × Value → H} {W : World}
theorem cell_lt {w : World} {p : Addr} {v : Value} (h : w.cell? p = some v) : p.block < w.heap.size := by
  unfold World.cell? at h
  rcases Nat.lt_or_ge p.block w.heap.size with hlt | hge
  · exact hlt
  · rw [Array.getElem?_eq_none hge] at h; cases h
theorem open_letters {fuel : Nat} {v : Value} {x : DataW H × List MemPlace} (h : DataW.trod enc Try.prog W 0 (fun _ => true) true fuel 49 [v] = some x) :
    ∃ (A : Option Addr) (c : Nat) (l : List Int), v = .slice A l.length c ∧ RU W W.heap.size A l ∧ l.length ≤ 9223372036854775807 := by
  rcases open_ints Try.underlying49 Try.underlying5 cells5 h with ⟨hcs, -⟩ | ⟨a, len, cap, zs, hcs, _, hl, hm, hz, -, hcell, hwz⟩
  · injection hcs with hcs
    exact ⟨none, 0, [], hcs, ⟨Reads.none_, by simp⟩, by simp⟩
  · injection hcs with hcs
    simp only [if_true] at hz
    have hlen : (zs.take len).length = len := by simp; omega
    refine ⟨some a, cap, zs.take len, by rw [hlen]; exact hcs, ⟨⟨by simp, fun h0 => ?_⟩, fun x hx => by have := bounds_u8 (hwz x (List.mem_of_mem_take hx)); omega⟩, by rw [hlen]; unfold maxLen at hm; omega⟩
    rw [hlen] at h0
    obtain ⟨ab, ao, spot⟩ := a
    have hspot : spot = none := by simpa [Addr.add] using World.cell?_spot (hcell 0 (by omega))
    subst hspot
    have h00 := cell_lt (hcell 0 (by omega))
    refine ⟨ab, ao, rfl, by simpa [Addr.add] using h00, fun j u hu => ?_⟩
    have hj : j < len := by have := (List.getElem?_eq_some_iff.1 hu).1; simp at this; omega
    have hcj := hcell j (by omega)
    rw [Addr.add_lit] at hcj
    rw [hcj, ← hu]
    simp [hj, List.getD, show j < zs.length by omega]
set_option maxRecDepth 100000 in
theorem open_drafts {fuel : Nat} {v : Value} {x : DataW H × List MemPlace} (h : DataW.trod enc Try.prog W 0 (fun _ => true) true fuel 28 [v] = some x) :
    ∃ (A : Option Addr) (c : Nat) (ds : List (Dra × Int)), v = .slice A ds.length c ∧ RDs W W.heap.size A ds ∧ ds.length ≤ 9223372036854775807 := by
  rcases open_slice Try.underlying28 h with ⟨hcs, -⟩ | ⟨a, len, cap, m, n, D, Pl, hcs, _, hl, hm, hmm, -, hi⟩
  · injection hcs with hcs
    exact ⟨none, 0, [], hcs, fun h => absurd h (by simp), by simp⟩
  · injection hcs with hcs
    simp only [if_true] at hmm
    subst hmm
    have key : ∀ i, i < len → ∃ d : Dra × Int, ∃ Ai ci, W.cell? (a.add (i * 4)) = some (.slice Ai d.1.letters.length ci) ∧ W.cell? (a.add (i * 4 + 1)) = some (.int .u32 d.1.weight) ∧ W.cell? (a.add (i * 4 + 2)) = some (.bool d.1.gone) ∧ W.cell? (a.add (i * 4 + 3)) = some (.int .u8 d.2) ∧ RU W W.heap.size Ai d.1.letters ∧ d.1.letters.length ≤ 9223372036854775807 := by
      intro i hil
      obtain ⟨cs', hc, ht'⟩ := hi i (by omega)
      rw [cells56] at hc
      obtain ⟨ys, n', hn', hy, hlen, hyl, hf⟩ := DataW.trod_struct Try.underlying56 ht'
      obtain ⟨_, hcl, hat⟩ := World.cells?_some hc
      match cs', hcl with
      | [u0, u1, u2, u3], _ =>
        have k0 := hat 0 (by omega)
        have k1 := hat 1 (by omega)
        have k2 := hat 2 (by omega)
        have k3 := hat 3 (by omega)
        have f0 : DataW.trod enc Try.prog W 0 (fun _ => true) true n' 54 (([u0, u1, u2, u3].drop 0).take (Try.prog.cellsOf 54)) = ys[0]? := hf 0 _ rfl
        have f3 : DataW.trod enc Try.prog W 0 (fun _ => true) true n' 5 (([u0, u1, u2, u3].drop 3).take (Try.prog.cellsOf 5)) = ys[1]? := hf 1 _ rfl
        rw [cells54] at f0
        rw [cells5] at f3
        have y2 : ys.length = 2 := hyl
        rw [List.getElem?_eq_getElem (by omega)] at f0 f3
        obtain ⟨ys', n2, -, -, -, hyl', hf'⟩ := DataW.trod_struct Try.underlying54 f0
        have g0 : DataW.trod enc Try.prog W 0 (fun _ => true) true n2 49 (([u0, u1, u2].drop 0).take (Try.prog.cellsOf 49)) = ys'[0]? := hf' 0 _ rfl
        have g1 : DataW.trod enc Try.prog W 0 (fun _ => true) true n2 22 (([u0, u1, u2].drop 1).take (Try.prog.cellsOf 22)) = ys'[1]? := hf' 1 _ rfl
        have g2 : DataW.trod enc Try.prog W 0 (fun _ => true) true n2 4 (([u0, u1, u2].drop 2).take (Try.prog.cellsOf 4)) = ys'[2]? := hf' 2 _ rfl
        rw [cells49] at g0
        rw [cells22] at g1
        rw [cells4] at g2
        have y3 : ys'.length = 3 := hyl'
        rw [List.getElem?_eq_getElem (by omega)] at g0 g1 g2
        obtain ⟨Ai, ci, l, rfl, hl1, hl2⟩ := open_letters (v := u0) g0
        obtain ⟨z, hz, -, -⟩ := DataW.trod_int Try.underlying22 g1
        obtain ⟨g, hg, -⟩ := DataW.trod_bool Try.underlying4 g2
        obtain ⟨q, hq, -, -⟩ := DataW.trod_int Try.underlying5 f3
        have hz' : u1 = .int .u32 z := by injection hz
        have hg' : u2 = .bool g := by injection hg
        have hq' : u3 = .int .u8 q := by injection hq
        subst hz'
        subst hg'
        subst hq'
        rw [Go.Deep.add_add] at k0 k1 k2 k3
        exact ⟨(⟨l, z, g⟩, q), Ai, ci, k0, k1, k2, k3, hl1, hl2⟩
    obtain ⟨F, hF⟩ := choose_lt (α := Option (Dra × Int)) (p := fun i o => ∃ d, o = some d ∧ ∃ Ai ci, W.cell? (a.add (i * 4)) = some (.slice Ai d.1.letters.length ci) ∧ W.cell? (a.add (i * 4 + 1)) = some (.int .u32 d.1.weight) ∧ W.cell? (a.add (i * 4 + 2)) = some (.bool d.1.gone) ∧ W.cell? (a.add (i * 4 + 3)) = some (.int .u8 d.2) ∧ RU W W.heap.size Ai d.1.letters ∧ d.1.letters.length ≤ 9223372036854775807)
      (fun i hi => by obtain ⟨d, hd⟩ := key i hi; exact ⟨some d, d, rfl, hd⟩)
    have hlen : ((List.range len).map fun i => (F i).getD (⟨[], 0, false⟩, 0)).length = len := by simp
    refine ⟨some a, m, (List.range len).map fun i => (F i).getD (⟨[], 0, false⟩, 0), by rw [hlen]; exact hcs, fun h0 => ?_, by rw [hlen]; unfold maxLen at hm; omega⟩
    rw [hlen] at h0
    obtain ⟨ab, ao, spot⟩ := a
    obtain ⟨d0, -, A0, c0, q0, -⟩ := hF 0 h0
    have hspot : spot = none := by simpa [Addr.add] using World.cell?_spot q0
    subst hspot
    refine ⟨ab, ao, rfl, by simpa [Addr.add] using cell_lt q0, fun i d hd => ?_⟩
    have hil : i < len := by have := (List.getElem?_eq_some_iff.1 hd).1; simpa using this
    obtain ⟨d', e, Ai, ci, k0, k1, k2, k3, k4, k5⟩ := hF i hil
    have : d = d' := by
      rw [List.getElem?_map, List.getElem?_range hil] at hd
      simp only [Option.map_some, e, Option.getD_some, Option.some.injEq] at hd
      exact hd.symm
    subst this
    rw [Addr.add_lit] at k0 k1 k2 k3
    exact ⟨Ai, ci, k0, by rw [Nat.add_assoc]; exact k1, by rw [Nat.add_assoc]; exact k2, by rw [Nat.add_assoc]; exact k3, k4, k5⟩
theorem open_rows {fuel : Nat} {v : Value} {x : DataW H × List MemPlace} (h : DataW.trod enc Try.prog W 0 (fun _ => true) true fuel 45 [v] = some x) :
    ∃ (A : Option Addr) (c : Nat) (D : List (List (Dra × Int))), v = .slice A D.length c ∧ RDLs W W.heap.size A D ∧ D.length ≤ 9223372036854775807 := by
  rcases open_slice1 Try.underlying45 cells28 h with ⟨hcs, -⟩ | ⟨a, len, cap, m, n, V, D, Pl, hcs, _, hl, hm, hmm, -, hi⟩
  · injection hcs with hcs
    exact ⟨none, 0, [], hcs, fun h => absurd h (by simp), by simp⟩
  · injection hcs with hcs
    simp only [if_true] at hmm
    subst hmm
    have key : ∀ i, i < len → ∃ d : List (Dra × Int), ∃ Ai ci, W.cell? (a.add i) = some (.slice Ai d.length ci) ∧ RDs W W.heap.size Ai d ∧ d.length ≤ 9223372036854775807 := by
      intro i hil
      obtain ⟨h1, h2⟩ := hi i (by omega)
      obtain ⟨Ai, ci, ds, e, h3, h4⟩ := open_drafts h2
      exact ⟨ds, Ai, ci, by rw [h1, e], h3, h4⟩
    obtain ⟨F, hF⟩ := choose_lt (α := List (Dra × Int)) (p := fun i d => ∃ Ai ci, W.cell? (a.add i) = some (.slice Ai d.length ci) ∧ RDs W W.heap.size Ai d ∧ d.length ≤ 9223372036854775807) key
    have hlen : ((List.range len).map F).length = len := by simp
    refine ⟨some a, m, (List.range len).map F, by rw [hlen]; exact hcs, fun h0 => ?_, by rw [hlen]; unfold maxLen at hm; omega⟩
    rw [hlen] at h0
    obtain ⟨ab, ao, spot⟩ := a
    obtain ⟨A0, c0, q0, -⟩ := hF 0 h0
    have hspot : spot = none := by simpa [Addr.add] using World.cell?_spot q0
    subst hspot
    refine ⟨ab, ao, rfl, by simpa [Addr.add] using cell_lt q0, fun i d hd => ?_⟩
    have hil : i < len := by have := (List.getElem?_eq_some_iff.1 hd).1; simpa using this
    obtain ⟨Ai, ci, k0, k3, k4⟩ := hF i hil
    have : d = F i := by
      rw [List.getElem?_map, List.getElem?_range hil] at hd
      simp only [Option.map_some, Option.some.injEq] at hd
      exact hd.symm
    subst this
    rw [Addr.add_lit] at k0
    exact ⟨Ai, ci, k0, k3, k4⟩
/-! ### Hits as they come -/
theorem row30 (count off n d : Nat) : rowAt Try.prog (sameLayout Try.prog Try.prog.depth · 26) d 30 count off n = false := by
  have hs : sameLayout Try.prog Try.prog.depth 30 26 = false := by kernel_rfl
  cases d with
  | zero => rfl
  | succ d => unfold rowAt; simp [hs, Try.underlying30]
theorem lies30 (count off n d : Nat) : liesAt Try.prog d 30 count off 26 n = false := by
  cases d with
  | zero => rfl
  | succ d => unfold liesAt; simp [row30, Try.underlying30]
set_option maxRecDepth 100000 in
theorem ok_ty {b off n c : Nat} (h : Value.okWide Try.prog W .any 0 30 (.slice (some ⟨b, off, none⟩) n c)) : ∃ cs t fr, W.heap[b]? = some (.cells cs t fr) ∧ t ≠ 30 := by
  unfold Value.okWide at h
  rw [Try.underlying30] at h
  unfold Cell.okWide at h
  simp only [Try.underlying30] at h
  unfold Cell.ok at h
  simp only [Try.underlying30] at h
  obtain ⟨_, _, _, _, row, cells, h1, h2⟩ := h
  unfold World.shape? at h1
  split at h1
  · rename_i cs t fr hh
    injection h1 with h1
    injection h1 with h1 h3
    refine ⟨cs, t, fr, hh, fun e => ?_⟩
    rw [← h1, e, lies30] at h2
    cases h2
  · cases h1
set_option maxRecDepth 100000 in
theorem open_hit {fuel : Nat} {cs : List Value} {x : DataW H × List MemPlace} (hl : cs.length = 4) (ht : DataW.trod enc Try.prog W 0 (fun _ => true) true fuel 26 cs = some x) : ∃ e : Hit, cs = e.cells := by
  obtain ⟨ys, n', hn', hy, hlen, hyl, hf⟩ := DataW.trod_struct Try.underlying26 ht
  match cs, hl with
  | [u0, u1, u2, u3], _ =>
    have f0 : DataW.trod enc Try.prog W 0 (fun _ => true) true n' 24 (([u0, u1, u2, u3].drop 0).take (Try.prog.cellsOf 24)) = ys[0]? := hf 0 _ rfl
    have f3 : DataW.trod enc Try.prog W 0 (fun _ => true) true n' 3 (([u0, u1, u2, u3].drop 3).take (Try.prog.cellsOf 3)) = ys[1]? := hf 1 _ rfl
    rw [cells24] at f0
    rw [cells3] at f3
    have y2 : ys.length = 2 := hyl
    rw [List.getElem?_eq_getElem (by omega)] at f0 f3
    obtain ⟨ys', n2, -, -, -, hyl', hf'⟩ := DataW.trod_struct Try.underlying24 f0
    have g0 : DataW.trod enc Try.prog W 0 (fun _ => true) true n2 9 (([u0, u1, u2].drop 0).take (Try.prog.cellsOf 9)) = ys'[0]? := hf' 0 _ rfl
    have g1 : DataW.trod enc Try.prog W 0 (fun _ => true) true n2 22 (([u0, u1, u2].drop 1).take (Try.prog.cellsOf 22)) = ys'[1]? := hf' 1 _ rfl
    have g2 : DataW.trod enc Try.prog W 0 (fun _ => true) true n2 4 (([u0, u1, u2].drop 2).take (Try.prog.cellsOf 4)) = ys'[2]? := hf' 2 _ rfl
    rw [cells9] at g0
    rw [cells22] at g1
    rw [cells4] at g2
    have y3 : ys'.length = 3 := hyl'
    rw [List.getElem?_eq_getElem (by omega)] at g0 g1 g2
    obtain ⟨s, hs, -, -⟩ := DataW.trod_string Try.underlying9 g0
    obtain ⟨z, hz, -, -⟩ := DataW.trod_int Try.underlying22 g1
    obtain ⟨g, hg, -⟩ := DataW.trod_bool Try.underlying4 g2
    obtain ⟨q, hq, -, -⟩ := DataW.trod_int Try.underlying3 f3
    have hs' : u0 = .string s := by injection hs
    have hz' : u1 = .int .u32 z := by injection hz
    have hg' : u2 = .bool g := by injection hg
    have hq' : u3 = .int .i64 q := by injection hq
    subst hs'
    subst hz'
    subst hg'
    subst hq'
    exact ⟨⟨s, z, g, q⟩, rfl⟩
set_option maxRecDepth 100000 in
theorem open_hits {fuel : Nat} {v : Value} {x : DataW H × List MemPlace} (hok : Value.okWide Try.prog W .any 0 30 v) (h : DataW.trod enc Try.prog W 0 (fun _ => true) true fuel 30 [v] = some x) :
    ∃ (A : Option Addr) (c : Nat) (es : List Hit), v = .slice A es.length c ∧ RHs W W.heap.size A es ∧ es.length ≤ 9223372036854775807 ∧ es.length ≤ c ∧ c ≤ 9223372036854775807 := by
  rcases open_slice Try.underlying30 h with ⟨hv, -⟩ | ⟨a, len, cap, m, n, D, Pl, hv, _, hl, hm, hmm, -, hi⟩
  · injection hv with hv
    exact ⟨none, 0, [], hv, RHs.nil_, by simp, by simp, by simp⟩
  · injection hv with hv
    simp only [if_true] at hmm
    subst hmm
    have key : ∀ i, i < len → ∃ e : Hit, ∀ j u, e.cells[j]? = some u → W.cell? ((a.add (i * 4)).add j) = some u := by
      intro i hil
      obtain ⟨cs', hc, ht'⟩ := hi i (by omega)
      rw [cells26] at hc
      obtain ⟨_, hcl, hat⟩ := World.cells?_some hc
      obtain ⟨e, rfl⟩ := open_hit hcl ht'
      exact ⟨e, fun j u hu => by rw [hat j (by have := (List.getElem?_eq_some_iff.1 hu).1; simpa [Hit.cells] using this)]; exact hu⟩
    obtain ⟨F, hF⟩ := choose_lt (α := Option Hit) (p := fun i o => ∃ e, o = some e ∧ ∀ j u, e.cells[j]? = some u → W.cell? ((a.add (i * 4)).add j) = some u)
      (fun i hi => by obtain ⟨d, hd⟩ := key i hi; exact ⟨some d, d, rfl, hd⟩)
    have hlen : ((List.range len).map fun i => (F i).getD ⟨⟨#[]⟩, 0, false, 0⟩).length = len := by simp
    generalize hE : ((List.range len).map fun i => (F i).getD ⟨⟨#[]⟩, 0, false, 0⟩) = E at hlen
    have hE2 : ∀ i (hi : i < E.length), ∀ j u, (E[i]).cells[j]? = some u → W.cell? ((a.add (i * 4)).add j) = some u := by
      intro i hi j u hu
      obtain ⟨e, h1, h2⟩ := hF i (by omega)
      have : E[i] = e := by subst hE; simp [h1]
      rw [this] at hu
      exact h2 j u hu
    refine ⟨some a, m, E, by rw [hlen]; exact hv, ⟨⟨hcs_length E, fun h0 => ?_⟩, fun h0 b off e => ?_⟩, by rw [hlen]; unfold maxLen at hm; omega, by omega, by unfold maxLen at hm; omega⟩
    · obtain ⟨ab, ao, spot⟩ := a
      have q0 := hE2 0 h0 0 _ rfl
      have hspot : spot = none := by simpa [Addr.add] using World.cell?_spot q0
      subst hspot
      refine ⟨ab, ao, rfl, by simpa [Addr.add] using cell_lt q0, fun j u hu => ?_⟩
      have hj : j < E.length * 4 := by have := (List.getElem?_eq_some_iff.1 hu).1; rwa [hcs_length] at this
      have hd : j / 4 < E.length := by omega
      have hu' : (hcs E)[j / 4 * 4 + j % 4]? = some u := by rw [show j / 4 * 4 + j % 4 = j by omega]; exact hu
      rw [hcs_get E (j / 4) (j % 4) hd (by omega)] at hu'
      have := hE2 (j / 4) hd (j % 4) u hu'
      rw [Go.Deep.add_add, Addr.add_lit] at this
      rw [show j / 4 * 4 + j % 4 = j by omega] at this
      exact this
    · injection e with e
      subst e
      rw [hv] at hok
      exact ok_ty hok
set_option maxRecDepth 100000 in
/-- an array of three hits -/
theorem open_three {fuel : Nat} {v : Value} {x : DataW H × List MemPlace} (hok : Value.okWide Try.prog W .any 0 27 v) (h : DataW.trod enc Try.prog W 0 (fun _ => true) true fuel 27 v.cells.toList = some x) :
    ∃ a b c : Hit, v = .agg #[.string a.word, .int .u32 a.weight, .bool a.gone, .int .i64 a.dist, .string b.word, .int .u32 b.weight, .bool b.gone, .int .i64 b.dist, .string c.word, .int .u32 c.weight, .bool c.gone, .int .i64 c.dist] := by
  unfold Value.okWide at hok
  rw [Try.underlying27] at hok
  obtain ⟨cs, rfl, hsz, -⟩ := hok
  rw [cells27] at hsz
  obtain ⟨ys, m, -, -, -, hyl, hf⟩ := DataW.trod_array Try.underlying27 h
  simp only [Value.cells] at hf
  have f0 := hf 0 (by omega)
  have f1 := hf 1 (by omega)
  have f2 := hf 2 (by omega)
  rw [cells26] at f0 f1 f2
  rw [List.getElem?_eq_getElem (by omega)] at f0 f1 f2
  have hl : cs.toList.length = 12 := by simpa using hsz
  obtain ⟨a, ha⟩ := open_hit (by simp; omega) f0
  obtain ⟨b, hb⟩ := open_hit (by simp; omega) f1
  obtain ⟨c, hc⟩ := open_hit (by simp; omega) f2
  refine ⟨a, b, c, ?_⟩
  congr 1
  apply Array.toList_inj.1
  have e : cs.toList = (cs.toList.take 4 ++ (cs.toList.drop 4).take 4) ++ (cs.toList.drop 8).take 4 := by
    generalize cs.toList = l at hl
    match l, hl with
    | [_, _, _, _, _, _, _, _, _, _, _, _], _ => rfl
  rw [e]
  simp only [Nat.zero_mul, List.drop_zero, Nat.one_mul] at ha hb hc
  rw [ha, hb, hc]
  rfl
end
end Go.Proofs.Ytjpgcfcacfhmiaa
