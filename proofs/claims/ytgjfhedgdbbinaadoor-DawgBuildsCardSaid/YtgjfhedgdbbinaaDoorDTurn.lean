/- Dawg: a transducer that is another one. -/
import Derived.Test.YtgjfhedgdbbinaaDoorDTR
import Derived.Test.YtgjfhedgdbbinaaDoorTools
namespace Go.Proofs.YtgjfhedgdbbinaaDoor
open Go.RowKit
set_option linter.unusedSimpArgs false
set_option linter.unusedVariables false
set_option linter.unnecessarySimpa false
namespace Dw

theorem tmod_nat {x : Int} {n : Nat} (hx : 0 ≤ x) (hn : 0 < n) : ∃ j : Nat, x.tmod (n : Int) = (j : Int) ∧ j < n := by
  obtain ⟨k, rfl⟩ : ∃ k : Nat, x = (k : Int) := ⟨x.toNat, by omega⟩
  exact ⟨k % n, by rw [← Int.ofNat_tmod], Nat.mod_lt _ hn⟩
theorem four_boxes {w W : World} {a b c d : Array Value} {t t1 t2 t3 : TypeId} (h : (((w.alloc (.cells a t)).alloc (.cells b t1)).alloc (.cells c t2)).alloc (.cells d t3) = W) : Below w.heap.size w W ∧ W.heap[w.heap.size]? = some (.cells a t (0, 0)) ∧ W.heap[w.heap.size + 1]? = some (.cells b t1 (0, 0)) ∧ W.heap[w.heap.size + 2]? = some (.cells c t2 (0, 0)) ∧ W.heap[w.heap.size + 3]? = some (.cells d t3 (0, 0)) := by
  subst h
  refine ⟨((((Below.refl _ _).alloc (Nat.le_refl _) _).alloc (by simp) _).alloc (by simp; omega) _).alloc (by simp; omega) _, ?_, ?_, ?_, ?_⟩
  · rw [heap_get, if_neg (by first | (simp; done) | (simp; omega)), heap_get, if_neg (by first | (simp; done) | (simp; omega)), heap_get, if_neg (by simp), heap_get, if_pos rfl]
  · rw [heap_get, if_neg (by first | (simp; done) | (simp; omega)), heap_get, if_neg (by simp), heap_get, if_pos (by simp)]
  · rw [heap_get, if_neg (by simp), heap_get, if_pos (by simp)]
  · rw [heap_get, if_pos (by simp)]
set_option maxHeartbeats 4000000 in
set_option maxRecDepth 100000 in
theorem turned21 (w : World) (tw ti tk tn : Int) (htw : 0 ≤ tw ∧ tw ≤ 255) (hti : 0 ≤ ti ∧ ti ≤ 255) (htk : 0 ≤ tk ∧ tk ≤ 255) (htn : -32768 ≤ tn ∧ tn ≤ 32767) (sv : Value) (init : Nat) (hinit : init < 18446744073709551616) (ss : List State) (N M : Nat) (hN : N ≤ 1000000) (hM : M ≤ 1000) (hrs : RS w sv ss) (hlen : ss.length ≤ N) (hok : ∀ s ∈ ss, okS s ∧ s.arcs.length ≤ M) : Calls Tryd.prog 21 #[.agg #[.int .u8 tw, .int .u8 ti, .int .u8 tk, .int .i16 tn], .agg #[sv, .int .u64 init]] w fun e w1 => ∃ (sv1 : Value) (init1 : Nat), e = .returned (.agg #[sv1, .int .u64 init1]) ∧ init1 < 18446744073709551616 ∧ (∃ ss1, RS w1 sv1 ss1 ∧ ss1.length ≤ N + 1 ∧ ∀ s ∈ ss1, okS s ∧ s.arcs.length ≤ M + 1) ∧ Below w.heap.size w w1 := by
 refine calls_of_wp Tryd.func21 rfl ?_
 refine Fact.en 227 fun fr hf hT => ?_
 have s0 := hT 0 _ rfl
 have s1 := hT 1 _ rfl
 clear hT
 obtain ⟨A, cc, rfl, hcc⟩ := hrs.form
 have HOK := Lib.hid hok; clear hok
 refine Fact.sq fun K1 hK1 => ?_
 refine rg ?_
 refine fp fun K Z => ?_
 go_simp
 apply Z.out; clear Z K
 refine fp fun K Z => ?_
 go_simp
 apply Z.out; clear Z K
 refine fp fun K Z => ?_
 go_simp
 apply Z.out; clear Z K
 refine Fact.z hf fun fr1 hf1 hT => ?_
 have hKp : _ ∧ _ ∧ _ := ⟨hT 2, hT 3, hT 4⟩
 simp (decide := true) only [Fact.G, hf.size, reduceIte] at hKp
 replace hf := hf1; clear hT hf1 s0 s1
 obtain ⟨s2, s3, s4⟩ := hKp
 refine nx (hK1 _ _ ?_)
 refine Fact.sq fun K2 hK2 => ?_
 refine rg ?_
 have b11 := hf.b 11
 have b12 := hf.b 12
 have b13 := hf.b 13
 have b5 := hf.b 5
 refine fp fun K Z => ?_
 go_simp
 apply Z.out; clear Z K
 refine fp fun K Z => ?_
 go_simp
 apply Z.out; clear Z K
 refine fp fun K Z => ?_
 go_simp
 apply Z.out; clear Z K
 refine fp fun K Z => ?_
 go_simp
 apply Z.out; clear Z K
 refine fp fun K Z => ?_
 go_simp
 apply Z.out; clear Z K
 refine Fact.z hf fun fr1 hf1 hT => ?_
 have hKp : _ ∧ _ ∧ _ ∧ _ := ⟨hT 2, hT 3, hT 4, hT 5⟩
 simp (decide := true) only [Fact.G, hf.size, reduceIte, s2, s3, s4] at hKp
 replace hf := hf1; clear hT hf1 s2 s3 s4 b11 b12 b13 b5
 obtain ⟨s2, s3, s4, s5⟩ := hKp
 obtain ⟨W0, hW0⟩ : ∃ x, (((w.alloc (.cells #[.int .u8 tw, .int .u8 ti, .int .u8 tk, .int .i16 tn] 52)).alloc (.cells #[.slice A ss.length cc, .int .u64 init] 33)).alloc (.cells #[.slice none 0 0, .int .u64 0] 33)).alloc (.cells #[.slice none 0 0, .int .u64 init] 33) = x := ⟨_, rfl⟩
 try simp only [World.size_alloc] at s2 s3 s4 s5
 try rw [hW0]
 obtain ⟨hb0, hp0, hp1, hp2, hp3⟩ := four_boxes hW0
 clear hW0
 refine nx (hK2 _ _ ?_)
 refine Fact.sq fun K3 hK3 => ?_
 refine Fact.sq fun K4 hK4 => ?_
 refine rg ?_
 refine fp fun K Z => ?_
 go_simp
 apply Z.out; clear Z K
 refine Fact.z hf fun fr1 hf1 hT => ?_
 have hKp : _ ∧ _ ∧ _ ∧ _ ∧ _ := ⟨hT 2, hT 3, hT 4, hT 5, hT 6⟩
 simp (decide := true) only [Fact.G, hf.size, reduceIte, s2, s3, s4, s5] at hKp
 replace hf := hf1; clear hT hf1 s2 s3 s4 s5
 obtain ⟨s2, s3, s4, s5, s6⟩ := hKp
 refine nx (hK4 _ _ ?_)
 refine wp_block ?_
 refine wp_loop_ghost (fun gk fr wr => ∃ (i : Nat) (V : Value) (l : List (Value × State)), gk = ss.length - i ∧ i ≤ ss.length ∧ Fact.Fr 227 fr ∧ fr.tmps[2]? = some (.pointer (some ⟨w.heap.size, 0, none⟩)) ∧ fr.tmps[3]? = some (.pointer (some ⟨w.heap.size + 1, 0, none⟩)) ∧ fr.tmps[4]? = some (.pointer (some ⟨w.heap.size + 2, 0, none⟩)) ∧ fr.tmps[5]? = some (.pointer (some ⟨w.heap.size + 3, 0, none⟩)) ∧ fr.tmps[6]? = some (.int .i64 i) ∧ TR wr w.heap.size V l ∧ l.map Prod.snd = ss.take i ∧ (∀ k, V.ownBlock = some k → w.heap.size + 3 < k) ∧ (∀ x ∈ l, ∀ k, x.1.ownBlock = some k → w.heap.size + 3 < k) ∧ wr.heap[w.heap.size]? = some (.cells #[.int .u8 tw, .int .u8 ti, .int .u8 tk, .int .i16 tn] 52 (0, 0)) ∧ wr.heap[w.heap.size + 1]? = some (.cells #[.slice A ss.length cc, .int .u64 init] 33 (0, 0)) ∧ wr.heap[w.heap.size + 2]? = some (.cells #[.slice none 0 0, .int .u64 0] 33 (0, 0)) ∧ wr.heap[w.heap.size + 3]? = some (.cells #[V, .int .u64 init] 33 (0, 0)) ∧ Below w.heap.size w wr) (ss.length) ?_ ?_
 · (
 exact ⟨0, _, [], rfl, Nat.zero_le _, hf, s2, s3, s4, s5, s6, ⟨World.ownsRow_nil _ _ _ _, (fun x hx => by cases hx), List.Pairwise.nil, (fun x hx => by cases hx)⟩, rfl, (fun k h => by cases h), (fun x hx => by cases hx), hp0, hp1, hp2, hp3, hb0⟩)
 · (
 clear hf s2 s3 s4 s5 s6
 rintro gk fr wr ⟨i, V, l, hk, hi, hf, s2, s3, s4, s5, s6, htr, hl, hvb, hxb, hq0, hq1, hq2, hq3, hb⟩
 have HK := Lib.hid hk; have HL := Lib.hid hl; have HVB := Lib.hid hvb; have HXB := Lib.hid hxb; clear hk hl hvb hxb
 have z0 : wr.cell? ⟨w.heap.size + 1, 0, none⟩ = some (.slice A ss.length cc) := by rw [cell_of_row _ _ 0 _ 33 (0, 0) hq1]; rfl
 have hlw : wr.heap.size > w.heap.size + 3 := heap_lt hq3
 obtain ⟨Av, cv, rfl, hcv⟩ := htr.sr.form
 have hll : l.length = i := by have h9 := congrArg List.length HL.out; rw [List.length_map, List.length_take] at h9; omega
 have HLL := Lib.hid hll; clear hll
 refine Fact.sq fun K5 hK5 => ?_
 refine Fact.sq fun K6 hK6 => ?_
 refine rg ?_
 have b14 := hf.b 14
 have b15 := hf.b 15
 have b16 := hf.b 16
 have b17 := hf.b 17
 refine fp fun K Z => ?_
 go_simp
 apply Z.out; clear Z K
 refine fp fun K Z => ?_
 go_simp
 apply Z.out; clear Z K
 refine fp fun K Z => ?_
 go_simp
 apply Z.out; clear Z K
 refine fp fun K Z => ?_
 go_simp
 apply Z.out; clear Z K
 refine fp fun K Z => ?_
 go_simp
 apply Z.out; clear Z K
 refine Fact.z hf fun fr1 hf1 hT => ?_
 have hKp : _ ∧ _ ∧ _ ∧ _ ∧ _ ∧ _ := ⟨hT 2, hT 3, hT 4, hT 5, hT 6, hT 18⟩
 simp (decide := true) only [Fact.G, hf.size, reduceIte, s2, s3, s4, s5, s6] at hKp
 replace hf := hf1; clear hT hf1 s2 s3 s4 s5 s6 b14 b15 b16 b17
 obtain ⟨s2, s3, s4, s5, s6, s18⟩ := hKp
 refine nx (hK6 _ _ ?_)
 refine Fact.cond_s s18 (fun hq => ?_) (fun hq => ?_)
 · (
 have hlt : i < ss.length := by have h9 := of_decide_eq_true hq; omega
 clear hq
 obtain ⟨s, his⟩ : ∃ s, ss[i]? = some s := ⟨_, List.getElem?_eq_getElem hlt⟩
 obtain ⟨b, off, av, hAb, hat0⟩ := hrs.at_ his
 subst hAb
 have hraB := hat0.arcs
 have hraW := hraB.but (But.of (fun _ => False) (hb.mono (Nat.le_refl _))) (fun _ _ h => h)
 have d0 := (hb.cell (cell_lt0 hat0.c0)).trans hat0.c0; have d1 := (hb.cell (cell_lt0 hat0.c1)).trans hat0.c1; have d2 := (hb.cell (cell_lt0 hat0.c2)).trans hat0.c2
 obtain ⟨A2, c2, rfl, hc2⟩ := hraB.form
 clear hat0 hraB
 have hst : ss.take (i + 1) = ss.take i ++ [s] := by rw [List.take_add_one, his]; simp
 have hsm := (HOK.out s (List.mem_of_getElem? his)).2
 have HST := Lib.hid hst; clear hst his
 have HNV := Lib.hid (show ∀ k, (.slice Av l.length cv : Value).ownBlock = some k → k < wr.heap.size from fun k hk => (htr.row.lt k hk).2)
 have HNX := Lib.hid (show ∀ x ∈ l, ∀ k, x.1.ownBlock = some k → k < wr.heap.size from fun x hx k hk => ((htr.arcs x hx).lt k hk).2)
 refine wp_skip ?_
 refine nx (hK5 _ _ ?_)
 refine Fact.sq fun K7 hK7 => ?_
 refine wp_block ?_
 refine Fact.sq fun K8 hK8 => ?_
 refine rg ?_
 have b21 := hf.b 21
 have b22 := hf.b 22
 have b23 := hf.b 23
 have b24 := hf.b 24
 have b25 := hf.b 25
 have b7 := hf.b 7
 refine fp fun K Z => ?_
 go_simp
 apply Z.out; clear Z K
 refine fp fun K Z => ?_
 go_simp
 apply Z.out; clear Z K
 refine fp fun K Z => ?_
 go_simp
 apply Z.out; clear Z K
 refine fp fun K Z => ?_
 go_simp
 try rw [if_pos (by omega)]
 apply Z.out; clear Z K
 refine fp fun K Z => ?_
 go_simp
 apply Z.out; clear Z K
 refine fp fun K Z => ?_
 go_simp
 apply Z.out; clear Z K
 refine fp fun K Z => ?_
 go_simp
 apply Z.out; clear Z K
 refine Fact.z hf fun fr1 hf1 hT => ?_
 have hKp : _ ∧ _ ∧ _ ∧ _ ∧ _ ∧ _ := ⟨hT 2, hT 3, hT 4, hT 5, hT 6, hT 7⟩
 simp (decide := true) only [Fact.G, hf.size, reduceIte, s2, s3, s4, s5, s6] at hKp
 replace hf := hf1; clear hT hf1 s2 s3 s4 s5 s6 s18 b21 b22 b23 b24 b25 b7
 obtain ⟨s2, s3, s4, s5, s6, s7⟩ := hKp
 obtain ⟨W5, hW5⟩ : ∃ W0, wr.alloc (.cells #[.slice A2 s.arcs.length c2, .bool s.final, .int .u64 s.out] 61) = W0 := ⟨_, rfl⟩
 try rw [hW5]
 obtain ⟨hb5, x0, -, -, hx5, -⟩ := box3 hW5
 clear hW5
 clear d0 d1 d2
 replace hraW := hraW.later hb5
 replace htr := htr.later hb5
 replace hq0 := (hb5.block _ (heap_lt hq0)).trans hq0; replace hq1 := (hb5.block _ (heap_lt hq1)).trans hq1; replace hq2 := (hb5.block _ (heap_lt hq2)).trans hq2; replace hq3 := (hb5.block _ (heap_lt hq3)).trans hq3
 replace hb := hb.trans (hb5.mono hb.size)
 have hz5 := hb5.size
 have hlt5 := heap_lt hx5
 have hll5 : l.length ≤ 1000000 := by have := HLL.out; omega
 have hnv : ∀ k, (.slice Av l.length cv : Value).ownBlock = some k → k < wr.heap.size := HNV.out
 have hnx : ∀ x ∈ l, ∀ k, x.1.ownBlock = some k → k < wr.heap.size := HNX.out
 refine nx (hK8 _ _ ?_)
 refine Fact.sq fun K9 hK9 => ?_
 refine rg ?_
 have b26 := hf.b 26
 have b27 := hf.b 27
 have b28 := hf.b 28
 have b29 := hf.b 29
 refine fp fun K Z => ?_
 go_simp
 apply Z.out; clear Z K
 refine fp fun K Z => ?_
 go_simp
 apply Z.out; clear Z K
 refine Fact.reL (n := 227) (by simp only [Fact.G, hf.size]) hf.defers (fun fr1 hf1 hT => ?_)
 have hKp : _ ∧ _ ∧ _ ∧ _ ∧ _ ∧ _ ∧ _ := ⟨hT 2, hT 3, hT 4, hT 5, hT 6, hT 7, hT 27⟩
 simp (decide := true) only [Fact.G, hf.size, reduceIte, s2, s3, s4, s5, s6, s7] at hKp
 replace hf := hf1; clear hT hf1 s2 s3 s4 s5 s6 s7 b26 b27 b28 b29
 obtain ⟨s2, s3, s4, s5, s6, s7, s27⟩ := hKp
 have b28 := hf.b 28
 have b29 := hf.b 29
 refine ⟨?_⟩
 refine wpList_plain rfl fun K5 hK5 => ?_
 refine wp_apps _ _ 59 rfl 63 _ 3 24 Tryd.underlying59 info63 rfl (by decide) (by decide) w.heap.size _ 0 [] rfl (World.ownsRow_nil _ _ _ _) A2 s.arcs.length c2 (acs s.arcs) (Fact.eval_tmp s27) (acs_length _) hraW.news (acs_one _) (by omega) hb.size (fun v6 w6 hr6 hg6 hat6 => hK5 _ _ ?_)
 refine Fact.L.out ?_
 have hb6 : Below W5.heap.size W5 w6 := (Below.refl _ _).grown hg6 (Nat.le_refl _) (fun k hk => by cases hk)
 have hoa6 : OA w6 w.heap.size v6 s.arcs := by unfold OA; simpa using hr6
 have hv6 : ∀ k, v6.ownBlock = some k → W5.heap.size ≤ k := fun k hk => by rcases hat6 with h | h; (rw [h] at hk; cases hk); (rw [h] at hk; injection hk with hk; omega)
 obtain ⟨A6, c6, hv6f, _⟩ := row_form hoa6
 subst hv6f
 replace htr := htr.later hb6
 replace hq0 := (But.of (fun _ => False) hb6).heap hq0 (fun h => h); replace hq1 := (But.of (fun _ => False) hb6).heap hq1 (fun h => h); replace hq2 := (But.of (fun _ => False) hb6).heap hq2 (fun h => h); replace hq3 := (But.of (fun _ => False) hb6).heap hq3 (fun h => h)
 replace hx5 := (hb6.block _ (heap_lt hx5)).trans hx5
 replace hb := hb.trans (hb6.mono hb.size)
 have x0 : w6.cell? ⟨wr.heap.size, 0, none⟩ = some (.slice A2 s.arcs.length c2) := by rw [cell_of_row _ _ 0 _ 61 (0, 0) hx5]; rfl
 have fz5 := frozen_of (i := 0) hx5
 have hz6 := hb6.size
 refine fp fun K Z => ?_
 go_simp
 apply Z.out; clear Z K
 refine fp fun K Z => ?_
 go_simp
 apply Z.out; clear Z K
 refine Fact.z hf fun fr1 hf1 hT => ?_
 have hKp : _ ∧ _ ∧ _ ∧ _ ∧ _ ∧ _ := ⟨hT 2, hT 3, hT 4, hT 5, hT 6, hT 7⟩
 simp (decide := true) only [Fact.G, reduceIte, s2, s3, s4, s5, s6, s7] at hKp
 replace hf := hf1; clear hT hf1 s2 s3 s4 s5 s6 s7 s27 b28 b29
 obtain ⟨s2, s3, s4, s5, s6, s7⟩ := hKp
 have hb7 : But (fun k => k = wr.heap.size) w6 (w6.setCell ⟨wr.heap.size, 0, none⟩ (.slice A6 s.arcs.length c6)) := But.setCell (S := fun k => k = wr.heap.size) rfl _
 have hx7 := set_block (i := 0) hx5 (.slice A6 s.arcs.length c6)
 have hbS := hb.setCell (p := ⟨wr.heap.size, 0, none⟩) (by simp only; omega) (.slice A6 s.arcs.length c6)
 obtain ⟨W7, hW7⟩ : ∃ x, w6.setCell ⟨wr.heap.size, 0, none⟩ (.slice A6 s.arcs.length c6) = x := ⟨_, rfl⟩
 rw [hW7] at hb7 hx7 hbS
 try rw [hW7]
 clear hW7 hb
 replace htr := htr.but hb7 (fun k hk h => by have := hnv k hk; omega) (fun x hx k hk h => by have := hnx x hx k hk; omega)
 have hoa7 := own_but hoa6 hb7 (fun k hk h => by have := hv6 k hk; omega)
 replace hq0 := hb7.heap hq0 (by omega); replace hq1 := hb7.heap hq1 (by omega); replace hq2 := hb7.heap hq2 (by omega); replace hq3 := hb7.heap hq3 (by omega)
 have x0 : W7.cell? ⟨wr.heap.size, 0, none⟩ = some (.slice A6 s.arcs.length c6) := by rw [cell_of_row _ _ 0 _ 61 (0, 0) hx7]; rfl
 have x1 : W7.cell? ⟨wr.heap.size, 1, none⟩ = some (.bool s.final) := by rw [cell_of_row _ _ 1 _ 61 (0, 0) hx7]; rfl
 have x2 : W7.cell? ⟨wr.heap.size, 2, none⟩ = some (.int .u64 s.out) := by rw [cell_of_row _ _ 2 _ 61 (0, 0) hx7]; rfl
 have y0 : W7.cell? ⟨w.heap.size + 3, 0, none⟩ = some (.slice Av l.length cv) := by rw [cell_of_row _ _ 0 _ 33 (0, 0) hq3]; rfl
 have hz7 := hb7.size
 have hz8 := hbS.size
 refine nx (hK9 _ _ ?_)
 refine rg ?_
 have b30 := hf.b 30
 have b31 := hf.b 31
 have b32 := hf.b 32
 have b33 := hf.b 33
 have b34 := hf.b 34
 have b35 := hf.b 35
 refine fp fun K Z => ?_
 go_simp
 apply Z.out; clear Z K
 refine fp fun K Z => ?_
 go_simp
 apply Z.out; clear Z K
 refine fp fun K Z => ?_
 go_simp
 apply Z.out; clear Z K
 refine fp fun K Z => ?_
 go_simp
 apply Z.out; clear Z K
 refine Fact.reL (n := 227) (by simp only [Fact.G, hf.size]) hf.defers (fun fr1 hf1 hT => ?_)
 have hKp : _ ∧ _ ∧ _ ∧ _ ∧ _ ∧ _ ∧ _ := ⟨hT 2, hT 3, hT 4, hT 5, hT 6, hT 31, hT 33⟩
 simp (decide := true) only [Fact.G, hf.size, reduceIte, s2, s3, s4, s5, s6] at hKp
 replace hf := hf1; clear hT hf1 s2 s3 s4 s5 s6 s7 b30 b31 b32 b33 b34 b35
 obtain ⟨s2, s3, s4, s5, s6, s31, s33⟩ := hKp
 have b34 := hf.b 34
 have b35 := hf.b 35
 refine ⟨?_⟩
 refine wpList_plain rfl fun K5 hK5 => ?_
 refine wp_app _ _ 30 rfl 61 _ 3 40 Tryd.underlying30 info61 rfl (by decide) (by decide) w.heap.size (.slice Av l.length cv) l.length _ (Fact.eval_tmp s31) (htr.row.alloc _) W7.heap.size [.slice A6 s.arcs.length c6, .bool s.final, .int .u64 s.out] (Fact.eval_tmp s33) rfl (lit_new W7 _ _) (by intro u hu; simp at hu; rcases hu with rfl | rfl | rfl <;> rfl) (by omega) (by simp; omega) (fun v9 w9 hr9 hg9 hat9 => hK5 _ _ ?_)
 refine Fact.L.out ?_
 obtain ⟨A9, c9, hv9, _⟩ := row_form hr9
 subst hv9
 have hba : But (fun k => (.slice Av l.length cv : Value).ownBlock = some k) W7 w9 := (But.alloc (S := fun k => (.slice Av l.length cv : Value).ownBlock = some k) W7 _).trans (But.grown hg9 (fun k hk => hk))
 replace hq0 := hba.heap hq0 (fun h => by have := HVB.out _ h; omega); replace hq1 := hba.heap hq1 (fun h => by have := HVB.out _ h; omega); replace hq2 := hba.heap hq2 (fun h => by have := HVB.out _ h; omega); replace hq3 := hba.heap hq3 (fun h => by have := HVB.out _ h; omega)
 have y2 : w9.cell? ⟨w.heap.size + 3, 0, none⟩ = some (.slice Av l.length cv) := by rw [cell_of_row _ _ 0 _ 33 (0, 0) hq3]; rfl
 have fz2 := frozen_of (i := 0) hq3
 have har9 : ∀ x ∈ l, OA w9 w.heap.size x.1 x.2.arcs := fun x hx => own_but (htr.arcs x hx) hba (fun k hk h => htr.vap x hx k hk h)
 have hoa9 := own_but hoa7 hba (fun k hk h => by have := hv6 k hk; have := hnv k h; omega)
 have hbA := hbS.trans (But.below hba hbS.size (fun k hk => by have := HVB.out _ hk; omega))
 have hz9 := hba.size
 refine fp fun K Z => ?_
 go_simp
 apply Z.out; clear Z K
 refine fp fun K Z => ?_
 go_simp
 apply Z.out; clear Z K
 refine Fact.z hf fun fr1 hf1 hT => ?_
 have hKp : _ ∧ _ ∧ _ ∧ _ ∧ _ := ⟨hT 2, hT 3, hT 4, hT 5, hT 6⟩
 simp (decide := true) only [Fact.G, reduceIte, s2, s3, s4, s5, s6] at hKp
 replace hf := hf1; clear hT hf1 s2 s3 s4 s5 s6 s31 s33 b34 b35
 obtain ⟨s2, s3, s4, s5, s6⟩ := hKp
 have hb10 : But (fun k => k = w.heap.size + 3) w9 (w9.setCell ⟨w.heap.size + 3, 0, none⟩ (.slice A9 (l.length + 1) c9)) := But.setCell (S := fun k => k = w.heap.size + 3) rfl _
 have hq3n := set_block (i := 0) hq3 (.slice A9 (l.length + 1) c9)
 replace hq0 := hb10.heap hq0 (by omega); replace hq1 := hb10.heap hq1 (by omega); replace hq2 := hb10.heap hq2 (by omega)
 have hb := hbA.setCell (p := ⟨w.heap.size + 3, 0, none⟩) (by simp only; omega) (.slice A9 (l.length + 1) c9)
 have hvb9 : ∀ k, (.slice A9 (l.length + 1) c9 : Value).ownBlock = some k → w.heap.size + 3 < k := fun k hk => by rcases hat9 with h | h; (rw [h] at hk; exact HVB.out k hk); (rw [h] at hk; injection hk with hk; simp at hk; omega)
 have hxb9 : ∀ x ∈ l ++ [(.slice A6 s.arcs.length c6, s)], ∀ k, x.1.ownBlock = some k → w.heap.size + 3 < k := fun x hx k hk => by rcases List.mem_append.1 hx with h | h; (exact HXB.out x h k hk); (simp at h; subst h; have := hv6 k hk; omega)
 have hap9 : ∀ x ∈ l ++ [(.slice A6 s.arcs.length c6, s)], ∀ k, x.1.ownBlock = some k → (.slice A9 (l.length + 1) c9 : Value).ownBlock ≠ some k := fun x hx k hk h9 => by rcases List.mem_append.1 hx with h | h; (rcases hat9 with h2 | h2; (rw [h2] at h9; exact htr.vap x h k hk h9); (rw [h2] at h9; injection h9 with h9; simp at h9; have := hnx x h k hk; omega)); (simp at h; subst h; have h5 := hv6 k hk; have h6 := (hoa7.lt k hk).2; rcases hat9 with h2 | h2; (rw [h2] at h9; have := hnv k h9; omega); (rw [h2] at h9; injection h9 with h9; simp at h9; omega))
 have htr9 : TR w9 w.heap.size (.slice A9 (l.length + 1) c9) (l ++ [(.slice A6 s.arcs.length c6, s)]) := ⟨by rw [List.length_append, scs_append]; exact hr9, fun x hx => by rcases List.mem_append.1 hx with h | h; (exact har9 x h); (simp at h; subst h; exact hoa9), List.pairwise_append.2 ⟨htr.apart, List.pairwise_singleton _ _, fun x hx y hy k hk h => by simp at hy; subst hy; have := hv6 k h; have := hnx x hx k hk; omega⟩, hap9⟩
 have htr10 := htr9.but hb10 (fun k hk h => by have := hvb9 k hk; omega) (fun x hx k hk h => by have := hxb9 x hx k hk; omega)
 refine Fact.block_normal ?_
 refine nx (hK7 _ _ ?_)
 refine rg ?_
 have b19 := hf.b 19
 have b20 := hf.b 20
 refine fp fun K Z => ?_
 go_simp
 apply Z.out; clear Z K
 refine fp fun K Z => ?_
 go_simp
 try simp (disch := omega) only [Fact.W]
 apply Z.out; clear Z K
 refine fp fun K Z => ?_
 go_simp
 apply Z.out; clear Z K
 refine Fact.z hf fun fr1 hf1 hT => ?_
 have hKp : _ ∧ _ ∧ _ ∧ _ ∧ _ := ⟨hT 2, hT 3, hT 4, hT 5, hT 6⟩
 simp (decide := true) only [Fact.G, hf.size, reduceIte, s2, s3, s4, s5] at hKp
 replace hf := hf1; clear hT hf1 s2 s3 s4 s5 s6 b19 b20
 obtain ⟨s2, s3, s4, s5, s6⟩ := hKp
 refine Fact.then_normal ?_
 exact ⟨_, by have := HK.out; omega, i + 1, _, _, rfl, by omega, hf, s2, s3, s4, s5, by rw [s6]; rfl, htr10, by rw [List.map_append, HL.out, HST.out]; rfl, hvb9, hxb9, hq0, hq1, hq2, hq3n, hb⟩)
 · (
 have hie : i = ss.length := by have h9 := of_decide_eq_false hq; omega
 have hls : l.map Prod.snd = ss := by have := HL.out; rwa [hie, List.take_length] at this
 have HLS := Lib.hid hls; clear hls hq HL HK hi z0
 have HLL2 := Lib.hid (show l.length = ss.length by have := HLL.out; omega)
 clear hie
 have hlm : ∀ x ∈ l, okS x.2 ∧ x.2.arcs.length ≤ M := fun x hx => HOK.out x.2 (by have h9 := List.mem_map_of_mem (f := Prod.snd) hx; rwa [HLS.out] at h9)
 have HLM := Lib.hid hlm; clear hlm
 have hlN : l.length ≤ N := by have := HLL2.out; omega
 have y0 : wr.cell? ⟨w.heap.size + 3, 0, none⟩ = some (.slice Av l.length cv) := by rw [cell_of_row _ _ 0 _ 33 (0, 0) hq3]; rfl
 refine wp_exit ?_
 refine Fact.then_exit ?_
 refine Fact.then_exit ?_
 refine Fact.block_exit ?_
 refine nx (hK3 _ _ ?_)
 refine Fact.sq fun K10 hK10 => ?_
 refine Fact.sq fun K11 hK11 => ?_
 refine rg ?_
 have b36 := hf.b 36
 have b37 := hf.b 37
 have b38 := hf.b 38
 refine fp fun K Z => ?_
 go_simp
 apply Z.out; clear Z K
 refine fp fun K Z => ?_
 go_simp
 apply Z.out; clear Z K
 refine fp fun K Z => ?_
 go_simp
 apply Z.out; clear Z K
 refine fp fun K Z => ?_
 go_simp
 apply Z.out; clear Z K
 refine Fact.z hf fun fr1 hf1 hT => ?_
 have hKp : _ ∧ _ ∧ _ ∧ _ := ⟨hT 2, hT 4, hT 5, hT 39⟩
 simp (decide := true) only [Fact.G, hf.size, reduceIte, s2, s4, s5] at hKp
 replace hf := hf1; clear hT hf1 s2 s3 s4 s5 s6 s18 b36 b37 b38
 obtain ⟨s2, s4, s5, s39⟩ := hKp
 refine nx (hK11 _ _ ?_)
 refine Fact.cond_s s39 (fun hqz => ?_) (fun hqz => ?_)
 · (
 clear y0
 have hini := hinit
 have hfin : Fin_ wr (.slice Av l.length cv) (fun k => w.heap.size + 3 < k) (N + 1) (M + 1) := ⟨w.heap.size, l, ⟨htr.row, fun x hx => OA.ra (htr.arcs x hx) (fun k hk => HXB.out x hx k hk)⟩, HVB.out, by omega, fun x hx => ⟨(HLM.out x hx).1, by have := (HLM.out x hx).2; omega⟩⟩
 obtain ⟨wq, hwq⟩ : ∃ x, wr = x := ⟨_, rfl⟩
 obtain ⟨ini, hini2⟩ : ∃ x, init = x := ⟨_, rfl⟩
 rw [hwq] at hfin hq2 hq3 hb
 rw [hini2] at hini hq3
 have HWQ := Lib.hid hwq; have HIN := Lib.hid hini2
 try rw [hwq]
 clear hwq hini2
 have u0 : wq.cell? ⟨w.heap.size + 3, 0, none⟩ = some (.slice Av l.length cv) := by rw [cell_of_row _ _ 0 _ 33 (0, 0) hq3]; rfl
 have u1 : wq.cell? ⟨w.heap.size + 3, 1, none⟩ = some (.int .u64 ini) := by rw [cell_of_row _ _ 1 _ 33 (0, 0) hq3]; rfl
 have u2 := cell_of_row _ _ 0 _ 33 (0, 0) hq2; have u3 := cell_of_row _ _ 1 _ 33 (0, 0) hq2; have fu0 := frozen_of (i := 0) hq2; have fu1 := frozen_of (i := 1) hq2
 simp at u2 u3
 refine Fact.sq fun K12 hK12 => ?_
 refine rg ?_
 have b40 := hf.b 40
 refine fp fun K Z => ?_
 go_simp
 apply Z.out; clear Z K
 refine fp fun K Z => ?_
 go_simp
 apply Z.out; clear Z K
 refine Fact.z hf fun fr1 hf1 hT => ?_
 have hKp := hT 4
 simp (decide := true) only [Fact.G, reduceIte, s4] at hKp
 replace hf := hf1; clear hT hf1 s2 s4 s5 s39 b40
 have s4 := hKp; clear hKp
 refine nx (hK12 _ _ ?_)
 refine wp_ret ?_
 refine Fact.then_ret ?_
 have hbS : But (fun k => k = w.heap.size + 2) wq _ := (But.setCell (S := fun k => k = w.heap.size + 2) (p := ⟨w.heap.size + 2, 0, none⟩) rfl (.slice Av l.length cv)).trans (But.setCell (S := fun k => k = w.heap.size + 2) (p := ⟨w.heap.size + 2, 1, none⟩) rfl (.int .u64 ini))
 have hfin2 := hfin.but hbS (fun k hk h => by have h1 : w.heap.size + 3 < k := hk; have h2 : k = w.heap.size + 2 := h; omega)
 exact ret_c rfl hf s4 (set_block (set_block hq2 _) _) Tryd.underlying33 rfl (by kernel_rfl) ⟨_, ini, rfl, hini, hfin2.rs, (hb.setCell (p := ⟨w.heap.size + 2, 0, none⟩) (by simp only; omega) _).setCell (p := ⟨w.heap.size + 2, 1, none⟩) (by simp only; omega) _⟩)
 · (
 have h0 : 0 < l.length := by have h9 := beq_eq_false_iff_ne.1 hqz; omega
 have hne : l ≠ [] := List.length_pos_iff.1 h0
 have HNE := Lib.hid hne; clear hne hqz
 obtain ⟨j, hjt, hjl⟩ := tmod_nat (x := ti) hti.1 h0
 have HJ := Lib.hid hjt; clear hjt
 obtain ⟨x, hjx⟩ : ∃ x, l[j]? = some x := ⟨_, List.getElem?_eq_getElem hjl⟩
 have hxm := HLM.out x (List.mem_of_getElem? hjx)
 obtain ⟨g, c9, hvg, hgb, hat⟩ := htr.sr.cells hjx
 injection hvg with hvg _ hvc
 subst hvg; subst hvc
 have hgn := (htr.row.lt g rfl).2
 have HVG := Lib.hid (HVB.out g rfl)
 have hoa := htr.arcs x (List.mem_of_getElem? hjx)
 obtain ⟨Ax, cx, hxv, hcx⟩ := (OA.ra (B := fun _ => True) hoa (fun _ _ => trivial)).form
 have d0 := hat.c0; have d1 := hat.c1; have d2 := hat.c2
 rw [hxv] at d0
 have HXV := Lib.hid hxv; have HJX := Lib.hid hjx; clear hxv hjx hat
 have zi : wr.cell? ⟨w.heap.size, 1, none⟩ = some (.int .u8 ti) := by rw [cell_of_row _ _ 1 _ 52 (0, 0) hq0]; rfl
 refine wp_skip ?_
 refine nx (hK10 _ _ ?_)
 refine Fact.sq fun K13 hK13 => ?_
 refine rg ?_
 have b41 := hf.b 41
 have b42 := hf.b 42
 have b43 := hf.b 43
 have b44 := hf.b 44
 have b45 := hf.b 45
 have b46 := hf.b 46
 have b47 := hf.b 47
 refine fp fun K Z => ?_
 go_simp
 apply Z.out; clear Z K
 refine fp fun K Z => ?_
 go_simp
 apply Z.out; clear Z K
 refine fp fun K Z => ?_
 go_simp
 try simp (disch := omega) only [Fact.wrap_i64]
 apply Z.out; clear Z K
 refine fp fun K Z => ?_
 go_simp
 apply Z.out; clear Z K
 refine fp fun K Z => ?_
 go_simp
 apply Z.out; clear Z K
 refine fp fun K Z => ?_
 go_simp
 apply Z.out; clear Z K
 refine fp fun K Z => ?_
 go_simp
 rw [if_neg HNE.out, HJ.out]
 rw [Oper.upon_value]
 apply Z.out; clear Z K
 refine fp fun K Z => ?_
 go_simp
 apply Z.out; clear Z K
 refine Fact.z hf fun fr1 hf1 hT => ?_
 have hKp : _ ∧ _ ∧ _ ∧ _ := ⟨hT 2, hT 4, hT 5, hT 8⟩
 simp (decide := true) only [Fact.G, hf.size, reduceIte, s2, s4, s5] at hKp
 replace hf := hf1; clear hT hf1 s2 s4 s5 s39 b41 b42 b43 b44 b45 b46 b47
 obtain ⟨s2, s4, s5, s8⟩ := hKp
 refine nx (hK13 _ _ ?_)
 refine Fact.sq fun K14 hK14 => ?_
 refine rg ?_
 have b48 := hf.b 48
 have b49 := hf.b 49
 have b50 := hf.b 50
 have b51 := hf.b 51
 refine fp fun K Z => ?_
 go_simp
 apply Z.out; clear Z K
 refine fp fun K Z => ?_
 go_simp
 apply Z.out; clear Z K
 refine fp fun K Z => ?_
 go_simp
 apply Z.out; clear Z K
 refine fp fun K Z => ?_
 go_simp
 try rw [if_pos (by omega)]
 apply Z.out; clear Z K
 refine fp fun K Z => ?_
 go_simp
 apply Z.out; clear Z K
 refine Fact.z hf fun fr1 hf1 hT => ?_
 have hKp : _ ∧ _ ∧ _ ∧ _ ∧ _ := ⟨hT 2, hT 4, hT 5, hT 8, hT 9⟩
 simp (decide := true) only [Fact.G, hf.size, reduceIte, s2, s4, s5, s8] at hKp
 replace hf := hf1; clear hT hf1 s2 s4 s5 s8 b48 b49 b50 b51
 obtain ⟨s2, s4, s5, s8, s9⟩ := hKp
 refine nx (hK14 _ _ ?_)
 refine Fact.sq fun K15 hK15 => ?_
 refine rg ?_
 refine fp fun K Z => ?_
 go_simp
 apply Z.out; clear Z K
 refine Fact.z hf fun fr1 hf1 hT => ?_
 have hKp : _ ∧ _ ∧ _ ∧ _ ∧ _ ∧ _ := ⟨hT 2, hT 4, hT 5, hT 8, hT 9, hT 10⟩
 simp (decide := true) only [Fact.G, hf.size, reduceIte, s2, s4, s5, s8, s9] at hKp
 replace hf := hf1; clear hT hf1 s2 s4 s5 s8 s9
 obtain ⟨s2, s4, s5, s8, s9, s10⟩ := hKp
 refine nx (hK15 _ _ ?_)
 refine Fact.seq_meet (fun fr wq => Fact.Fr 227 fr ∧ fr.tmps[2]? = some (.pointer (some ⟨w.heap.size, 0, none⟩)) ∧ fr.tmps[4]? = some (.pointer (some ⟨w.heap.size + 2, 0, none⟩)) ∧ fr.tmps[5]? = some (.pointer (some ⟨w.heap.size + 3, 0, none⟩)) ∧ fr.tmps[8]? = some (.int .i64 j) ∧ fr.tmps[9]? = some (.pointer (some ⟨g, j * 3, none⟩)) ∧ (∃ kk : Nat, fr.tmps[10]? = some (.int .i64 kk) ∧ (kk < x.2.arcs.length ∨ x.2.arcs.length = 0)) ∧ Below wr.heap.size wr wq) ?_ ?_
 · (
 refine Fact.sq fun K16 hK16 => ?_
 refine rg ?_
 have b52 := hf.b 52
 have b53 := hf.b 53
 have b54 := hf.b 54
 have b55 := hf.b 55
 have b56 := hf.b 56
 refine fp fun K Z => ?_
 go_simp
 apply Z.out; clear Z K
 refine fp fun K Z => ?_
 go_simp
 apply Z.out; clear Z K
 refine fp fun K Z => ?_
 go_simp
 apply Z.out; clear Z K
 refine fp fun K Z => ?_
 go_simp
 apply Z.out; clear Z K
 refine fp fun K Z => ?_
 go_simp
 apply Z.out; clear Z K
 refine fp fun K Z => ?_
 go_simp
 apply Z.out; clear Z K
 refine Fact.z hf fun fr1 hf1 hT => ?_
 have hKp : _ ∧ _ ∧ _ ∧ _ ∧ _ ∧ _ ∧ _ := ⟨hT 2, hT 4, hT 5, hT 8, hT 9, hT 10, hT 57⟩
 simp (decide := true) only [Fact.G, hf.size, reduceIte, s2, s4, s5, s8, s9, s10] at hKp
 replace hf := hf1; clear hT hf1 s2 s4 s5 s8 s9 s10 b52 b53 b54 b55 b56
 obtain ⟨s2, s4, s5, s8, s9, s10, s57⟩ := hKp
 refine nx (hK16 _ _ ?_)
 refine Fact.cond_s s57 (fun hqk => ?_) (fun hqk => ?_)
 · (
 have ha0 : 0 < x.2.arcs.length := by have h9 := of_decide_eq_true hqk; omega
 clear hqk
 obtain ⟨kk, hkt, hkl⟩ := tmod_nat (x := tk) htk.1 ha0
 have HKT := Lib.hid hkt; clear hkt
 have hne2 : x.2.arcs ≠ [] := List.length_pos_iff.1 ha0
 have HNE2 := Lib.hid hne2; clear hne2
 have zk : wr.cell? ⟨w.heap.size, 2, none⟩ = some (.int .u8 tk) := by rw [cell_of_row _ _ 2 _ 52 (0, 0) hq0]; rfl
 refine Stab.tb 227 fun hok => ?_
 apply Stab.tq 0 _ hf hok
 · (
 intro fr1 w1 hh hd hk K Z
 have s2 := Stab.O hh s2
 clear hd
 go_simp
 exact Stab.k Z)
 apply Stab.tq 1 _ hf hok
 · (
 intro fr1 w1 hh hd hk K Z
 have s58 := Stab.v 0 0 hd hk []
 clear hd
 replace zk := cL hh.ext zk
 replace d0 := cL hh.ext d0
 go_simp
 exact Stab.k Z)
 apply Stab.tq 2 _ hf hok
 · (
 intro fr1 w1 hh hd hk K Z
 have s59 := Stab.v 1 0 hd hk []
 clear hd
 go_simp
 try simp (disch := omega) only [Fact.wrap_i64]
 exact Stab.k Z)
 refine Stab.mO 3 s9 hf hok ?_
 apply Stab.tq 4 _ hf hok
 · (
 intro fr1 w1 hh hd hk K Z
 have s61 := Stab.v 3 0 hd hk []
 clear hd
 go_simp
 exact Stab.k Z)
 apply Stab.tq 5 _ hf hok
 · (
 intro fr1 w1 hh hd hk K Z
 have s62 := Stab.v 4 0 hd hk []
 clear hd
 go_simp
 exact Stab.k Z)
 apply Stab.tq 6 _ hf hok
 · (
 intro fr1 w1 hh hd hk K Z
 have s63 := Stab.v 5 0 hd hk []
 clear hd
 replace zk := cL hh.ext zk
 replace d0 := cL hh.ext d0
 go_simp
 exact Stab.k Z)
 apply Stab.tq 7 _ hf hok
 · (
 intro fr1 w1 hh hd hk K Z
 have s64 := Stab.v 6 0 hd hk []
 clear hd
 replace zk := cL hh.ext zk
 replace d0 := cL hh.ext d0
 go_simp
 exact Stab.k Z)
 apply Stab.tq 8 _ hf hok
 · (
 intro fr1 w1 hh hd hk K Z
 have s60 := Stab.v 2 5 hd hk []
 have s65 := Stab.v 7 0 hd hk []
 clear hd
 go_simp
 rw [if_neg HNE2.out, HKT.out]
 rw [Oper.upon_value]
 exact Stab.k Z)
 refine Stab.mN 9 8 0 hf hok [] ?_
 refine Stab.tf hf hok fun fr1 w1 hh hg => ?_
 replace s2 := Stab.O hh s2
 replace s4 := Stab.O hh s4
 replace s5 := Stab.O hh s5
 replace s8 := Stab.O hh s8
 replace s9 := Stab.O hh s9
 clear s10; have s10 := Stab.f 9 0 hg
 have hf1 := hh.fr hf
 have hx := hh.ext
 replace zk := cL hx zk
 replace d0 := cL hx d0
 clear hg hh hf hok s57
 have hf := hf1; clear hf1
 have hkk : kk < x.2.arcs.length ∨ x.2.arcs.length = 0 := .inl hkl
 have hbx := hx
 refine Fact.then_normal ?_
 exact ⟨hf, s2, s4, s5, s8, s9, ⟨_, s10, hkk⟩, hbx⟩)
 · (
 have hkk : 0 < x.2.arcs.length ∨ x.2.arcs.length = 0 := by omega
 have hbx := Below.refl wr.heap.size wr
 refine wp_skip ?_
 refine Fact.then_normal ?_
 exact ⟨hf, s2, s4, s5, s8, s9, ⟨_, s10, hkk⟩, hbx⟩))
 · (
 clear hf s2 s4 s5 s8 s9 s10
 rintro fr wq ⟨hf, s2, s4, s5, s8, s9, ⟨kk, s10, hkk⟩, hbx⟩
 replace htr := htr.later hbx
 replace hq0 := (hbx.block _ (heap_lt hq0)).trans hq0; replace hq1 := (hbx.block _ (heap_lt hq1)).trans hq1; replace hq2 := (hbx.block _ (heap_lt hq2)).trans hq2; replace hq3 := (hbx.block _ (heap_lt hq3)).trans hq3
 replace hb := hb.trans (hbx.mono hb.size)
 replace d0 := cL hbx d0; replace d1 := cL hbx d1; replace d2 := cL hbx d2
 replace hoa := own_later hoa hbx
 have hzq := hbx.size
 clear hbx y0 zi
 have hlw : wq.heap.size > w.heap.size + 3 := heap_lt hq3
 have y0 : wq.cell? ⟨w.heap.size + 3, 0, none⟩ = some (.slice (some ⟨g, 0, none⟩) l.length cv) := by rw [cell_of_row _ _ 0 _ 33 (0, 0) hq3]; rfl
 have y1 : wq.cell? ⟨w.heap.size + 3, 1, none⟩ = some (.int .u64 init) := by rw [cell_of_row _ _ 1 _ 33 (0, 0) hq3]; rfl
 have t0 : wq.cell? ⟨w.heap.size, 0, none⟩ = some (.int .u8 tw) := by rw [cell_of_row _ _ 0 _ 52 (0, 0) hq0]; rfl
 have t1 : wq.cell? ⟨w.heap.size, 1, none⟩ = some (.int .u8 ti) := by rw [cell_of_row _ _ 1 _ 52 (0, 0) hq0]; rfl
 have t2 : wq.cell? ⟨w.heap.size, 2, none⟩ = some (.int .u8 tk) := by rw [cell_of_row _ _ 2 _ 52 (0, 0) hq0]; rfl
 have t3 : wq.cell? ⟨w.heap.size, 3, none⟩ = some (.int .i16 tn) := by rw [cell_of_row _ _ 3 _ 52 (0, 0) hq0]; rfl
 rw [HXV.out] at hoa
 have htj := htr.tj HJX.out (C := (fun k => w.heap.size + 3 < k)) HXB.out (But.refl _ _)
 have hra : RA wq (fun k => k ≠ g ∧ w.heap.size + 3 < k) x.1 x.2.arcs := OA.ra (htr.arcs x (List.mem_of_getElem? HJX.out)) (fun k hk => ⟨fun e => htr.vap x (List.mem_of_getElem? HJX.out) k hk (by rw [e]; rfl), HXB.out x (List.mem_of_getElem? HJX.out) k hk⟩)
 have HLM2 := Lib.hid HLM.out
 have HTJ := Lib.hid htj; have HRA := Lib.hid hra; clear htj hra
 refine Fact.seq_meet (fun fr wq => Fact.Fr 227 fr ∧ fr.tmps[4]? = some (.pointer (some ⟨w.heap.size + 2, 0, none⟩)) ∧ fr.tmps[5]? = some (.pointer (some ⟨w.heap.size + 3, 0, none⟩)) ∧ ∃ (V : Value) (ini : Nat), ini < 18446744073709551616 ∧ Fin_ wq V (fun k => w.heap.size + 3 < k) (N + 1) (M + 1) ∧ wq.heap[w.heap.size + 2]? = some (.cells #[.slice none 0 0, .int .u64 0] 33 (0, 0)) ∧ wq.heap[w.heap.size + 3]? = some (.cells #[V, .int .u64 ini] 33 (0, 0)) ∧ Below w.heap.size w wq) ?_ ?_
 · (
 refine Fact.sq fun K17 hK17 => ?_
 refine rg ?_
 have b67 := hf.b 67
 have b68 := hf.b 68
 refine fp fun K Z => ?_
 go_simp
 apply Z.out; clear Z K
 refine fp fun K Z => ?_
 go_simp
 apply Z.out; clear Z K
 refine fp fun K Z => ?_
 go_simp
 apply Z.out; clear Z K
 refine Fact.z hf fun fr1 hf1 hT => ?_
 have hKp : _ ∧ _ ∧ _ ∧ _ ∧ _ ∧ _ ∧ _ := ⟨hT 2, hT 4, hT 5, hT 8, hT 9, hT 10, hT 69⟩
 simp (decide := true) only [Fact.G, hf.size, reduceIte, s2, s4, s5, s8, s9, s10] at hKp
 replace hf := hf1; clear hT hf1 s2 s4 s5 s8 s9 s10 b67 b68
 obtain ⟨s2, s4, s5, s8, s9, s10, s69⟩ := hKp
 refine nx (hK17 _ _ ?_)
 refine wp_block ?_
 refine Fact.sq fun K18 hK18 => ?_
 refine rg ?_
 have b148 := hf.b 148
 refine fp fun K Z => ?_
 go_simp
 apply Z.out; clear Z K
 refine fp fun K Z => ?_
 go_simp
 apply Z.out; clear Z K
 refine Fact.z hf fun fr1 hf1 hT => ?_
 have hKp : _ ∧ _ ∧ _ ∧ _ ∧ _ ∧ _ ∧ _ ∧ _ := ⟨hT 2, hT 4, hT 5, hT 8, hT 9, hT 10, hT 69, hT 147⟩
 simp (decide := true) only [Fact.G, hf.size, reduceIte, s2, s4, s5, s8, s9, s10, s69] at hKp
 replace hf := hf1; clear hT hf1 s2 s4 s5 s8 s9 s10 s69 b148
 obtain ⟨s2, s4, s5, s8, s9, s10, s69, s147⟩ := hKp
 refine nx (hK18 _ _ ?_)
 refine Fact.cond_s s147 (fun c0 => ?_) (fun c0 => ?_)
 · (
 clear c0
 have fz := htr.row.frozenAt (j * 3 + 1)
 refine rg ?_
 have b149 := hf.b 149
 have b150 := hf.b 150
 have b151 := hf.b 151
 have b152 := hf.b 152
 have b153 := hf.b 153
 have b154 := hf.b 154
 have b155 := hf.b 155
 have b156 := hf.b 156
 refine fp fun K Z => ?_
 go_simp
 apply Z.out; clear Z K
 refine fp fun K Z => ?_
 go_simp
 apply Z.out; clear Z K
 refine fp fun K Z => ?_
 go_simp
 apply Z.out; clear Z K
 refine fp fun K Z => ?_
 go_simp
 apply Z.out; clear Z K
 refine fp fun K Z => ?_
 go_simp
 apply Z.out; clear Z K
 refine fp fun K Z => ?_
 go_simp
 apply Z.out; clear Z K
 refine fp fun K Z => ?_
 go_simp
 apply Z.out; clear Z K
 refine fp fun K Z => ?_
 go_simp
 apply Z.out; clear Z K
 refine fp fun K Z => ?_
 go_simp
 apply Z.out; clear Z K
 refine Fact.z hf fun fr1 hf1 hT => ?_
 have hKp : _ ∧ _ := ⟨hT 4, hT 5⟩
 simp (decide := true) only [Fact.G, reduceIte, s4, s5] at hKp
 replace hf := hf1; clear hT hf1 s2 s4 s5 s8 s9 s10 s69 s147 b149 b150 b151 b152 b153 b154 b155 b156
 obtain ⟨s4, s5⟩ := hKp
 have hsr := HTJ.out.store (u := .bool (!x.2.final)) (q := 1) (x' := (x.1, ⟨!x.2.final, x.2.out, x.2.arcs⟩)) rfl HJX.out (by omega) (by simp [sc]) HRA.out
 have hfin := Fin_.set hsr (fun k hk => HVB.out k hk) hlN HLM.out (⟨⟨hxm.1.1, hxm.1.2⟩, by simp only; omega⟩)
 have hbS : But (fun k => k = g) wq (wq.setCell ⟨g, j * 3 + 1, none⟩ (.bool (!x.2.final))) := But.setCell (S := fun k => k = g) rfl _
 replace hq2 := hbS.heap hq2 (by have := HVG.out; omega); replace hq3 := hbS.heap hq3 (by have := HVG.out; omega)
 replace hb := hb.setCell (p := ⟨g, j * 3 + 1, none⟩) hgb (.bool (!x.2.final))
 have hini := hinit
 clear hsr hbS
 refine Fact.block_normal ?_
 refine Fact.then_normal ?_
 exact ⟨hf, s4, s5, _, _, hini, hfin, hq2, hq3, hb⟩)
 · (
 refine Fact.sq fun K19 hK19 => ?_
 refine rg ?_
 have b158 := hf.b 158
 refine fp fun K Z => ?_
 go_simp
 apply Z.out; clear Z K
 refine fp fun K Z => ?_
 go_simp
 apply Z.out; clear Z K
 refine Fact.z hf fun fr1 hf1 hT => ?_
 have hKp : _ ∧ _ ∧ _ ∧ _ ∧ _ ∧ _ ∧ _ ∧ _ := ⟨hT 2, hT 4, hT 5, hT 8, hT 9, hT 10, hT 69, hT 157⟩
 simp (decide := true) only [Fact.G, hf.size, reduceIte, s2, s4, s5, s8, s9, s10, s69] at hKp
 replace hf := hf1; clear hT hf1 s2 s4 s5 s8 s9 s10 s69 s147 b158
 obtain ⟨s2, s4, s5, s8, s9, s10, s69, s157⟩ := hKp
 refine nx (hK19 _ _ ?_)
 refine Fact.cond_s s157 (fun c1 => ?_) (fun c1 => ?_)
 · (
 obtain ⟨o2, ho2, hol⟩ := u64_nat ((x.2.out : Int) + IntKind.u64.wrap (IntKind.u8.wrap tn))
 have HO2 := Lib.hid ho2; clear ho2 c1 c0
 refine Stab.tb 227 fun hok => ?_
 refine Stab.mO 0 s9 hf hok ?_
 refine Stab.mO 1 s9 hf hok ?_
 apply Stab.tq 2 _ hf hok
 · (
 intro fr1 w1 hh hd hk K Z
 have s160 := Stab.v 1 0 hd hk []
 clear hd
 go_simp
 exact Stab.k Z)
 apply Stab.tq 3 _ hf hok
 · (
 intro fr1 w1 hh hd hk K Z
 have s161 := Stab.v 2 0 hd hk []
 clear hd
 go_simp
 exact Stab.k Z)
 apply Stab.tq 4 _ hf hok
 · (
 intro fr1 w1 hh hd hk K Z
 have s162 := Stab.v 3 0 hd hk []
 clear hd
 replace d2 := cL hh.ext d2
 replace t3 := cL hh.ext t3
 go_simp
 exact Stab.k Z)
 apply Stab.tq 5 _ hf hok
 · (
 intro fr1 w1 hh hd hk K Z
 have s2 := Stab.O hh s2
 clear hd
 go_simp
 exact Stab.k Z)
 apply Stab.tq 6 _ hf hok
 · (
 intro fr1 w1 hh hd hk K Z
 have s164 := Stab.v 5 0 hd hk []
 clear hd
 replace d2 := cL hh.ext d2
 replace t3 := cL hh.ext t3
 go_simp
 exact Stab.k Z)
 apply Stab.tq 7 _ hf hok
 · (
 intro fr1 w1 hh hd hk K Z
 have s165 := Stab.v 6 0 hd hk []
 clear hd
 go_simp
 exact Stab.k Z)
 apply Stab.tq 8 _ hf hok
 · (
 intro fr1 w1 hh hd hk K Z
 have s166 := Stab.v 7 0 hd hk []
 clear hd
 go_simp
 exact Stab.k Z)
 apply Stab.tq 9 _ hf hok
 · (
 intro fr1 w1 hh hd hk K Z
 have s163 := Stab.v 4 4 hd hk []
 have s167 := Stab.v 8 0 hd hk []
 clear hd
 go_simp
 try simp (disch := omega) only [Fact.W]
 rw [HO2.out]
 exact Stab.k Z)
 refine Tail.todo_tail (n := 227) (m := 10) (ws := [(12, 10, [11])]) (by kernel_rfl) hf.size hok.out rfl rfl (by kernel_rfl) (fun fr1 w1 hh hg => ?_)
 replace s4 := Stab.O hh s4
 replace s5 := Stab.O hh s5
 have s159 := Tail.got_is 0 9 hg rfl rfl rfl rfl rfl
 have s168 := Tail.got_is 9 0 hg rfl rfl rfl rfl rfl
 have hf1 := hh.fr hf
 have hx := hh.ext
 replace d2 := cL hx d2
 replace t3 := cL hx t3
 clear hg hh hf hok s2 s8 s9 s10 s69 s157
 have hf := hf1; clear hf1
 have b169 := hf.b 169
 have b170 := hf.b 170
 replace htr := htr.later hx
 replace hq2 := (hx.block _ (heap_lt hq2)).trans hq2; replace hq3 := (hx.block _ (heap_lt hq3)).trans hq3
 replace hb := hb.trans (hx.mono hb.size)
 replace hoa := own_later hoa hx
 replace HTJ := Lib.hid (htr.tj HJX.out (C := (fun k => w.heap.size + 3 < k)) HXB.out (But.refl _ _))
 replace HRA := Lib.hid (HRA.out.later hx)
 have hzx := hx.size
 have hlw1 : w1.heap.size > w.heap.size + 3 := heap_lt hq3
 have fz := htr.row.frozenAt (j * 3 + 2)
 refine Tail.seq_op rfl rfl (fun K Z => ?_)
 go_simp
 apply Z.out; clear Z K
 refine Tail.seq_op rfl rfl (fun K Z => ?_)
 go_simp
 apply Z.out; clear Z K
 refine Tail.seq_op rfl rfl (fun K Z => ?_)
 go_simp
 apply Z.out; clear Z K
 refine Tail.seq_nil rfl ?_
 refine Fact.q hf (by simp only [Fact.G]) rfl fun fr1 hf1 hT => ?_
 have hKp : _ ∧ _ := ⟨hT 4, hT 5⟩
 simp (decide := true) only [Fact.G, reduceIte, s4, s5] at hKp
 replace hf := hf1; clear hT hf1 s4 s5 s159 s168 b169 b170
 obtain ⟨s4, s5⟩ := hKp
 have hsr := HTJ.out.store (u := .int .u64 o2) (q := 2) (x' := (x.1, ⟨x.2.final, o2, x.2.arcs⟩)) rfl HJX.out (by omega) (by simp [sc]) HRA.out
 have hfin := Fin_.set hsr (fun k hk => HVB.out k hk) hlN HLM.out (⟨⟨hol, hxm.1.2⟩, by simp only; omega⟩)
 have hbS : But (fun k => k = g) w1 (w1.setCell ⟨g, j * 3 + 2, none⟩ (.int .u64 o2)) := But.setCell (S := fun k => k = g) rfl _
 replace hq2 := hbS.heap hq2 (by have := HVG.out; omega); replace hq3 := hbS.heap hq3 (by have := HVG.out; omega)
 replace hb := hb.setCell (p := ⟨g, j * 3 + 2, none⟩) hgb (.int .u64 o2)
 have hini := hinit
 clear hsr hbS
 refine Fact.block_normal ?_
 refine Fact.then_normal ?_
 exact ⟨hf, s4, s5, _, _, hini, hfin, hq2, hq3, hb⟩)
 · (
 refine Fact.sq fun K20 hK20 => ?_
 refine rg ?_
 have b172 := hf.b 172
 refine fp fun K Z => ?_
 go_simp
 apply Z.out; clear Z K
 refine fp fun K Z => ?_
 go_simp
 apply Z.out; clear Z K
 refine Fact.z hf fun fr1 hf1 hT => ?_
 have hKp : _ ∧ _ ∧ _ ∧ _ ∧ _ ∧ _ ∧ _ ∧ _ := ⟨hT 2, hT 4, hT 5, hT 8, hT 9, hT 10, hT 69, hT 171⟩
 simp (decide := true) only [Fact.G, hf.size, reduceIte, s2, s4, s5, s8, s9, s10, s69] at hKp
 replace hf := hf1; clear hT hf1 s2 s4 s5 s8 s9 s10 s69 s157 b172
 obtain ⟨s2, s4, s5, s8, s9, s10, s69, s171⟩ := hKp
 refine nx (hK20 _ _ ?_)
 refine Fact.cond_s s171 (fun c2 => ?_) (fun c2 => ?_)
 · (
 obtain ⟨o2, ho2, hol⟩ := u64_nat (IntKind.u8.wrap tn)
 have HO2 := Lib.hid ho2; clear ho2 c2 c1 c0
 have fz := frozen_of (i := 1) hq3
 refine rg ?_
 have b173 := hf.b 173
 have b174 := hf.b 174
 have b175 := hf.b 175
 have b176 := hf.b 176
 have b177 := hf.b 177
 refine fp fun K Z => ?_
 go_simp
 apply Z.out; clear Z K
 refine fp fun K Z => ?_
 go_simp
 apply Z.out; clear Z K
 refine fp fun K Z => ?_
 go_simp
 apply Z.out; clear Z K
 refine fp fun K Z => ?_
 go_simp
 rw [HO2.out]
 apply Z.out; clear Z K
 refine fp fun K Z => ?_
 go_simp
 apply Z.out; clear Z K
 refine fp fun K Z => ?_
 go_simp
 apply Z.out; clear Z K
 refine Fact.z hf fun fr1 hf1 hT => ?_
 have hKp : _ ∧ _ := ⟨hT 4, hT 5⟩
 simp (decide := true) only [Fact.G, reduceIte, s4, s5] at hKp
 replace hf := hf1; clear hT hf1 s2 s4 s5 s8 s9 s10 s69 s171 b173 b174 b175 b176 b177
 obtain ⟨s4, s5⟩ := hKp
 have hbS : But (fun k => k = w.heap.size + 3) wq (wq.setCell ⟨w.heap.size + 3, 1, none⟩ (.int .u64 o2)) := But.setCell (S := fun k => k = w.heap.size + 3) rfl _
 replace hq2 := hbS.heap hq2 (by omega)
 replace hq3 := set_block (i := 1) hq3 (.int .u64 o2)
 have hfin := (Fin_.set (HTJ.out.sr (x' := x) HJX.out rfl (HRA.out.more (fun _ _ h => h.2))) (fun k hk => HVB.out k hk) hlN HLM.out ⟨hxm.1, by omega⟩).but hbS (fun k hk h => by have h1 : w.heap.size + 3 < k := hk; have h2 : k = w.heap.size + 3 := h; omega)
 replace hb := hb.setCell (p := ⟨w.heap.size + 3, 1, none⟩) (by simp only; omega) (.int .u64 o2)
 have hini := hol
 refine Fact.block_normal ?_
 refine Fact.then_normal ?_
 exact ⟨hf, s4, s5, _, _, hini, hfin, hq2, hq3, hb⟩)
 · (
 refine Fact.sq fun K21 hK21 => ?_
 refine rg ?_
 have b179 := hf.b 179
 refine fp fun K Z => ?_
 go_simp
 apply Z.out; clear Z K
 refine fp fun K Z => ?_
 go_simp
 apply Z.out; clear Z K
 refine Fact.z hf fun fr1 hf1 hT => ?_
 have hKp : _ ∧ _ ∧ _ ∧ _ ∧ _ ∧ _ ∧ _ ∧ _ := ⟨hT 2, hT 4, hT 5, hT 8, hT 9, hT 10, hT 69, hT 178⟩
 simp (decide := true) only [Fact.G, hf.size, reduceIte, s2, s4, s5, s8, s9, s10, s69] at hKp
 replace hf := hf1; clear hT hf1 s2 s4 s5 s8 s9 s10 s69 s171 b179
 obtain ⟨s2, s4, s5, s8, s9, s10, s69, s178⟩ := hKp
 refine nx (hK21 _ _ ?_)
 refine Fact.cond_s s178 (fun c3 => ?_) (fun c3 => ?_)
 · (
 have hxc : sc x = [.slice Ax x.2.arcs.length cx, .bool x.2.final, .int .u64 x.2.out] := by unfold sc; rw [HXV.out]
 have HXC := Lib.hid hxc; clear hxc c3 c2 c1 c0
 refine Stab.tb 227 fun hok => ?_
 apply Stab.tq 0 _ hf hok
 · (
 intro fr1 w1 hh hd hk K Z
 have s5 := Stab.O hh s5
 clear hd
 go_simp
 exact Stab.k Z)
 apply Stab.tq 1 _ hf hok
 · (
 intro fr1 w1 hh hd hk K Z
 have s180 := Stab.v 0 0 hd hk []
 clear hd
 replace y0 := cL hh.ext y0
 replace d0 := cL hh.ext d0
 replace d1 := cL hh.ext d1
 replace d2 := cL hh.ext d2
 go_simp
 exact Stab.k Z)
 apply Stab.tq 2 _ hf hok
 · (
 intro fr1 w1 hh hd hk K Z
 have s5 := Stab.O hh s5
 clear hd
 go_simp
 exact Stab.k Z)
 apply Stab.tq 3 _ hf hok
 · (
 intro fr1 w1 hh hd hk K Z
 have s182 := Stab.v 2 0 hd hk []
 clear hd
 replace y0 := cL hh.ext y0
 replace d0 := cL hh.ext d0
 replace d1 := cL hh.ext d1
 replace d2 := cL hh.ext d2
 go_simp
 exact Stab.k Z)
 refine Stab.mO 4 s8 hf hok ?_
 apply Stab.tq 5 _ hf hok
 · (
 intro fr1 w1 hh hd hk K Z
 have s183 := Stab.v 3 1 hd hk []
 have s184 := Stab.v 4 0 hd hk []
 clear hd
 go_simp
 try rw [if_pos (by omega)]
 exact Stab.k Z)
 apply Stab.tq 6 _ hf hok
 · (
 intro fr1 w1 hh hd hk K Z
 have s185 := Stab.v 5 0 hd hk []
 clear hd
 replace y0 := cL hh.ext y0
 replace d0 := cL hh.ext d0
 replace d1 := cL hh.ext d1
 replace d2 := cL hh.ext d2
 go_simp
 exact Stab.k Z)
 refine Stab.todo_op (k := 7) (n := 227) (PLit [.slice Ax x.2.arcs.length cx, .bool x.2.final, .int .u64 x.2.out]) hf.size hok.out rfl (PLit.stable _) ?_ ?_
 · (
 intro fr1 w1 hh hd hk K Z
 refine Stab.pl ?_
 have s186 := Stab.v 6 0 hd hk []
 clear hd
 go_simp
 exact Z.out _ rfl _ _ ((Below.refl _ _).alloc (Nat.le_refl _) _) ⟨_, rfl, lit_new _ _ _⟩)
 refine Tail.todo_tail (n := 227) (m := 8) (ws := [(8, 0, [1]), (8, 2, [7, 6, 5, 3]), (8, 3, [7, 6, 5]), (8, 4, [7, 6, 5]), (8, 5, [7, 6]), (8, 6, [7])]) (by kernel_rfl) hf.size hok.out rfl rfl (by kernel_rfl) (fun fr1 w1 hh hg => ?_)
 replace s4 := Stab.O hh s4
 replace s5 := Stab.O hh s5
 have s181 := Tail.got_is 1 6 hg rfl rfl rfl rfl rfl
 obtain ⟨x187, s187, hp187⟩ := Tail.got_use (j := 7) (m := 0) hg rfl rfl rfl rfl rfl
 obtain ⟨b187, rfl, hc187⟩ := hp187
 have hf1 := hh.fr hf
 have hx := hh.ext
 replace y0 := cL hx y0
 replace d0 := cL hx d0
 replace d1 := cL hx d1
 replace d2 := cL hx d2
 clear hg hh hf hok s2 s8 s9 s10 s69 s178
 have hf := hf1; clear hf1
 have b188 := hf.b 188
 have b189 := hf.b 189
 replace htr := htr.later hx
 replace hq2 := (hx.block _ (heap_lt hq2)).trans hq2; replace hq3 := (hx.block _ (heap_lt hq3)).trans hq3
 replace hb := hb.trans (hx.mono hb.size)
 replace hoa := own_later hoa hx
 replace HTJ := Lib.hid (htr.tj HJX.out (C := (fun k => w.heap.size + 3 < k)) HXB.out (But.refl _ _))
 replace HRA := Lib.hid (HRA.out.later hx)
 have hzx := hx.size
 have hlw1 : w1.heap.size > w.heap.size + 3 := heap_lt hq3
 refine Tail.seq_op rfl rfl (fun K Z => ?_)
 refine wp_app _ _ 30 rfl 61 _ 3 40 Tryd.underlying30 info61 rfl (by decide) (by decide) w.heap.size (.slice (some ⟨g, 0, none⟩) l.length cv) l.length _ (Fact.eval_tmp s181) htr.row b187 [.slice Ax x.2.arcs.length cx, .bool x.2.final, .int .u64 x.2.out] (Fact.eval_tmp s187) rfl hc187 (by intro u hu; simp at hu; rcases hu with rfl | rfl | rfl <;> rfl) (by omega) hb.size (fun v9 w9 hr9 hg9 hat9 => ?_)
 apply Z.out; clear Z K
 have hba : But (fun k => (.slice (some ⟨g, 0, none⟩) l.length cv : Value).ownBlock = some k) w1 w9 := But.grown hg9 (fun k hk => hk)
 have hga : ∀ k, (.slice (some ⟨g, 0, none⟩) l.length cv : Value).ownBlock = some k → k = g := fun k hk => by injection hk with hk; exact hk.symm
 have hoth := htr.others (C := (fun k => w.heap.size + 3 < k)) HXB.out hba
 obtain ⟨A9, c9, hv9, _⟩ := row_form hr9
 subst hv9
 have hvb9 : ∀ k, (.slice A9 (l.length + 1) c9 : Value).ownBlock = some k → w.heap.size + 3 < k := fun k hk => by rcases hat9 with h | h; (rw [h] at hk; exact HVB.out k hk); (rw [h] at hk; injection hk with hk; omega)
 have hfin : Fin_ w9 (.slice A9 (l.length + 1) c9) (fun k => w.heap.size + 3 < k) (N + 1) (M + 1) := ⟨w.heap.size, l ++ [x], ⟨by rw [List.length_append, scs_append, show scs [x] = [.slice Ax x.2.arcs.length cx, .bool x.2.final, .int .u64 x.2.out] from by rw [← HXC.out]; simp [scs, sc]]; exact hr9, fun y hy => by rcases List.mem_append.1 hy with h | h; exact hoth y h; (simp at h; subst h; exact hoth _ (List.mem_of_getElem? HJX.out))⟩, hvb9, by rw [List.length_append]; simp; omega, fun y hy => by rcases List.mem_append.1 hy with h | h; (have := HLM.out y h; exact ⟨this.1, by omega⟩); (simp at h; subst h; exact ⟨hxm.1, by omega⟩)⟩
 replace hq2 := hba.heap hq2 (fun h => by have := HVB.out _ h; omega); replace hq3 := hba.heap hq3 (fun h => by have := HVB.out _ h; omega)
 replace hb := hb.trans (But.below hba hb.size (fun k hk => by have := HVB.out _ hk; omega))
 have u0 : w9.cell? ⟨w.heap.size + 3, 0, none⟩ = some (.slice (some ⟨g, 0, none⟩) l.length cv) := by rw [cell_of_row _ _ 0 _ 33 (0, 0) hq3]; rfl
 have fu := frozen_of (i := 0) hq3
 refine Tail.seq_op rfl rfl (fun K Z => ?_)
 go_simp
 apply Z.out; clear Z K
 refine Tail.seq_op rfl rfl (fun K Z => ?_)
 go_simp
 apply Z.out; clear Z K
 refine Tail.seq_nil rfl ?_
 refine Fact.q hf (by simp only [Fact.G]) rfl fun fr1 hf1 hT => ?_
 have hKp : _ ∧ _ := ⟨hT 4, hT 5⟩
 simp (decide := true) only [Fact.G, reduceIte, s4, s5] at hKp
 replace hf := hf1; clear hT hf1 s4 s5 s181 s187 b188 b189
 obtain ⟨s4, s5⟩ := hKp
 have hbT : But (fun k => k = w.heap.size + 3) w9 (w9.setCell ⟨w.heap.size + 3, 0, none⟩ (.slice A9 (l.length + 1) c9)) := But.setCell (S := fun k => k = w.heap.size + 3) rfl _
 replace hq2 := hbT.heap hq2 (by omega)
 replace hq3 := set_block (i := 0) hq3 (.slice A9 (l.length + 1) c9)
 replace hfin := hfin.but hbT (fun k hk h => by have h1 : w.heap.size + 3 < k := hk; have h2 : k = w.heap.size + 3 := h; omega)
 replace hb := hb.setCell (p := ⟨w.heap.size + 3, 0, none⟩) (by simp only; omega) (.slice A9 (l.length + 1) c9)
 have hini := hinit
 refine Fact.block_normal ?_
 refine Fact.then_normal ?_
 exact ⟨hf, s4, s5, _, _, hini, hfin, hq2, hq3, hb⟩)
 · (
 refine Fact.sq fun K22 hK22 => ?_
 refine rg ?_
 have b191 := hf.b 191
 refine fp fun K Z => ?_
 go_simp
 apply Z.out; clear Z K
 refine fp fun K Z => ?_
 go_simp
 apply Z.out; clear Z K
 refine Fact.z hf fun fr1 hf1 hT => ?_
 have hKp : _ ∧ _ ∧ _ ∧ _ ∧ _ ∧ _ ∧ _ ∧ _ := ⟨hT 2, hT 4, hT 5, hT 8, hT 9, hT 10, hT 69, hT 190⟩
 simp (decide := true) only [Fact.G, hf.size, reduceIte, s2, s4, s5, s8, s9, s10, s69] at hKp
 replace hf := hf1; clear hT hf1 s2 s4 s5 s8 s9 s10 s69 s178 b191
 obtain ⟨s2, s4, s5, s8, s9, s10, s69, s190⟩ := hKp
 refine nx (hK22 _ _ ?_)
 refine Fact.cond_s s190 (fun c4 => ?_) (fun c4 => ?_)
 · (
 clear c4 c3 c2 c1 c0
 have hnews : ∀ (wz : World), Below wq.heap.size wq wz → ∀ (j2 : Nat) (u : Value), (scs l)[j2]? = some u → wz.cell? ⟨g, j2, none⟩ = some u := fun wz hz j2 u hu => by have h9 := (own_later htr.row hz).cellAt j2 (by rw [← scs_length]; exact (List.getElem?_eq_some_iff.1 hu).1); rw [h9, hu]
 have HNEWS := Lib.hid hnews; clear hnews
 have HRA1 := Lib.hid htr.ra
 have hnx : ∀ y ∈ l, ∀ k, y.1.ownBlock = some k → k < wq.heap.size := fun y hy k hk => ((htr.arcs y hy).lt k hk).2
 have HNX := Lib.hid hnx; clear hnx
 refine Stab.tb 227 fun hok => ?_
 apply Stab.tq 0 _ hf hok
 · (
 intro fr1 w1 hh hd hk K Z
 have s5 := Stab.O hh s5
 clear hd
 go_simp
 exact Stab.k Z)
 apply Stab.tq 1 _ hf hok
 · (
 intro fr1 w1 hh hd hk K Z
 have s192 := Stab.v 0 0 hd hk []
 clear hd
 replace y0 := cL hh.ext y0
 go_simp
 exact Stab.k Z)
 refine Stab.mO 2 s8 hf hok ?_
 apply Stab.tq 3 _ hf hok
 · (
 intro fr1 w1 hh hd hk K Z
 have s193 := Stab.v 1 1 hd hk []
 have s194 := Stab.v 2 0 hd hk []
 clear hd
 go_simp
 rw [if_pos (show j ≤ cv by omega)]
 rw [Oper.upon_value]
 exact Stab.k Z)
 refine Stab.todo_op (k := 4) (n := 227) (PSl wq w.heap.size j (scs (l.take j))) hf.size hok.out rfl (PSl.stable _ _ _ _) ?_ ?_
 · (
 intro fr1 w1 hh hd hk K Z
 refine Stab.pl ?_
 have s195 := Stab.v 3 0 hd hk []
 clear hd
 replace y0 := cL hh.ext y0
 refine wp_apps _ _ 30 rfl 61 _ 3 40 Tryd.underlying30 info61 rfl (by decide) (by decide) w.heap.size _ 0 [] rfl (World.ownsRow_nil _ _ _ _) (some ⟨g, 0, none⟩) j cv (scs (l.take j)) (Fact.eval_tmp s195) (by rw [scs_length, List.length_take]; omega) (fun h0 => ⟨g, 0, rfl, fun j2 u hu => by rw [Nat.zero_add]; exact HNEWS.out w1 hh.ext j2 u (scs_take hu)⟩) (fun u hu => scs_one HRA1.out _ (scs_mem_take hu)) (by omega) (by have := hh.ext.size; have := hb.size; omega) (fun v6 w6 hr6 hg6 hat6 => ?_)
 refine Z.out _ rfl _ _ ((Below.refl _ _).grown hg6 (Nat.le_refl _) (fun k hk => by cases hk)) ⟨by simpa using hr6, fun k hk => by rcases hat6 with h | h; (rw [h] at hk; cases hk); (rw [h] at hk; injection hk with hk; have := hh.ext.size; omega)⟩)
 apply Stab.tq 5 _ hf hok
 · (
 intro fr1 w1 hh hd hk K Z
 have s5 := Stab.O hh s5
 clear hd
 go_simp
 exact Stab.k Z)
 apply Stab.tq 6 _ hf hok
 · (
 intro fr1 w1 hh hd hk K Z
 have s197 := Stab.v 5 0 hd hk []
 clear hd
 replace y0 := cL hh.ext y0
 go_simp
 exact Stab.k Z)
 refine Stab.mO 7 s8 hf hok ?_
 apply Stab.tq 8 _ hf hok
 · (
 intro fr1 w1 hh hd hk K Z
 have s199 := Stab.v 7 0 hd hk []
 clear hd
 go_simp
 try simp (disch := omega) only [Fact.W]
 rw [show ((j : Nat) : Int) + 1 = ((j + 1 : Nat) : Int) by omega]
 exact Stab.k Z)
 apply Stab.tq 9 _ hf hok
 · (
 intro fr1 w1 hh hd hk K Z
 have s198 := Stab.v 6 2 hd hk []
 have s200 := Stab.v 8 0 hd hk []
 clear hd
 go_simp
 rw [if_pos (show (0 : Int) ≤ (j : Int) + 1 ∧ (j : Int) + 1 ≤ (l.length : Int) by omega)]
 rw [Oper.upon_value]
 exact Stab.k Z)
 refine Tail.todo_tail (n := 227) (m := 10) (ws := [(10, 0, [4, 3, 1]), (10, 1, [4, 3]), (10, 2, [4, 3]), (10, 3, [4]), (10, 5, [9, 6]), (10, 6, [9]), (10, 7, [9, 8]), (10, 8, [9])]) (by kernel_rfl) hf.size hok.out rfl rfl (by kernel_rfl) (fun fr1 w1 hh hg => ?_)
 replace s4 := Stab.O hh s4
 replace s5 := Stab.O hh s5
 obtain ⟨x196, s196, hp196⟩ := Tail.got_use (j := 4) (m := 5) hg rfl rfl rfl rfl rfl
 obtain ⟨hr196, hl196⟩ := hp196
 have s201 := Tail.got_is 9 0 hg rfl rfl rfl rfl rfl
 have hf1 := hh.fr hf
 have hx := hh.ext
 replace y0 := cL hx y0
 clear hg hh hf hok s2 s8 s9 s10 s69 s190
 have hf := hf1; clear hf1
 have b202 := hf.b 202
 have b203 := hf.b 203
 replace htr := htr.later hx
 replace hq2 := (hx.block _ (heap_lt hq2)).trans hq2; replace hq3 := (hx.block _ (heap_lt hq3)).trans hq3
 replace hb := hb.trans (hx.mono hb.size)
 replace hoa := own_later hoa hx
 replace HTJ := Lib.hid (htr.tj HJX.out (C := (fun k => w.heap.size + 3 < k)) HXB.out (But.refl _ _))
 replace HRA := Lib.hid (HRA.out.later hx)
 have hzx := hx.size
 have hlw1 : w1.heap.size > w.heap.size + 3 := heap_lt hq3
 refine Tail.seq_op rfl rfl (fun K Z => ?_)
 refine wp_apps _ _ 30 rfl 61 _ 3 40 Tryd.underlying30 info61 rfl (by decide) (by decide) w.heap.size _ j (scs (l.take j)) (Fact.eval_tmp s196) hr196 _ (l.length - (j + 1)) (cv - (j + 1)) (scs (l.drop (j + 1))) (Fact.eval_tmp s201) (by rw [scs_length, List.length_drop]) (fun h0 => ⟨g, (j + 1) * 3, by rw [if_neg (by omega)], fun j2 u hu => HNEWS.out w1 hx _ u (scs_drop (by omega) hu)⟩) (fun u hu => scs_one HRA1.out _ (scs_mem_drop hu)) (by omega) hb.size (fun v9 w9 hr9 hg9 hat9 => ?_)
 apply Z.out; clear Z K
 have hba : But (fun k => x196.ownBlock = some k) w1 w9 := But.grown hg9 (fun k hk => hk)
 obtain ⟨A9, c9, hv9, _⟩ := row_form hr9
 subst hv9
 have hzz : wq.heap.size ≤ w1.heap.size := hx.size
 have hvb9 : ∀ k, (.slice A9 (j + (l.length - (j + 1))) c9 : Value).ownBlock = some k → w.heap.size + 3 < k := fun k hk => by rcases hat9 with h | h; (rw [h] at hk; have := hl196 k hk; omega); (rw [h] at hk; injection hk with hk; omega)
 have hfin : Fin_ w9 (.slice A9 (j + (l.length - (j + 1))) c9) (fun k => w.heap.size + 3 < k) (N + 1) (M + 1) := ⟨w.heap.size, l.take j ++ l.drop (j + 1), ⟨by rw [List.length_append, List.length_take, List.length_drop, Nat.min_eq_left (by omega), scs_append]; exact hr9, fun y hy => (by have hyl : y ∈ l := (by rcases List.mem_append.1 hy with h | h; exact List.mem_of_mem_take h; exact List.mem_of_mem_drop h); exact ((OA.ra (B := fun k => y.1.ownBlock = some k) (htr.arcs y hyl) (fun k hk => hk)).but hba (fun k hk h => by have h1 := HNX.out y hyl k hk; have h2 := hl196 k h; omega)).more (fun k _ hk => HXB.out y hyl k hk))⟩, hvb9, by rw [List.length_append, List.length_take, List.length_drop]; omega, fun y hy => (by have hyl : y ∈ l := (by rcases List.mem_append.1 hy with h | h; exact List.mem_of_mem_take h; exact List.mem_of_mem_drop h); have := HLM.out y hyl; exact ⟨this.1, by omega⟩)⟩
 replace hq2 := hba.heap hq2 (fun h => by have := hl196 _ h; omega); replace hq3 := hba.heap hq3 (fun h => by have := hl196 _ h; omega)
 replace hb := hb.trans (But.below hba hb.size (fun k hk => by have := hl196 _ hk; omega))
 have u0 : w9.cell? ⟨w.heap.size + 3, 0, none⟩ = some (.slice (some ⟨g, 0, none⟩) l.length cv) := by rw [cell_of_row _ _ 0 _ 33 (0, 0) hq3]; rfl
 have fu := frozen_of (i := 0) hq3
 refine Tail.seq_op rfl rfl (fun K Z => ?_)
 go_simp
 apply Z.out; clear Z K
 refine Tail.seq_op rfl rfl (fun K Z => ?_)
 go_simp
 apply Z.out; clear Z K
 refine Tail.seq_nil rfl ?_
 refine Fact.q hf (by simp only [Fact.G]) rfl fun fr1 hf1 hT => ?_
 have hKp : _ ∧ _ := ⟨hT 4, hT 5⟩
 simp (decide := true) only [Fact.G, reduceIte, s4, s5] at hKp
 replace hf := hf1; clear hT hf1 s4 s5 s196 s201 b202 b203
 obtain ⟨s4, s5⟩ := hKp
 have hbT : But (fun k => k = w.heap.size + 3) w9 (w9.setCell ⟨w.heap.size + 3, 0, none⟩ (.slice A9 (j + (l.length - (j + 1))) c9)) := But.setCell (S := fun k => k = w.heap.size + 3) rfl _
 replace hq2 := hbT.heap hq2 (by omega)
 replace hq3 := set_block (i := 0) hq3 (.slice A9 (j + (l.length - (j + 1))) c9)
 replace hfin := hfin.but hbT (fun k hk h => by have h1 : w.heap.size + 3 < k := hk; have h2 : k = w.heap.size + 3 := h; omega)
 replace hb := hb.setCell (p := ⟨w.heap.size + 3, 0, none⟩) (by simp only; omega) (.slice A9 (j + (l.length - (j + 1))) c9)
 have hini := hinit
 refine Fact.block_normal ?_
 refine Fact.then_normal ?_
 exact ⟨hf, s4, s5, _, _, hini, hfin, hq2, hq3, hb⟩)
 · (
 refine Fact.sq fun K23 hK23 => ?_
 refine rg ?_
 have b205 := hf.b 205
 refine fp fun K Z => ?_
 go_simp
 apply Z.out; clear Z K
 refine fp fun K Z => ?_
 go_simp
 apply Z.out; clear Z K
 refine Fact.z hf fun fr1 hf1 hT => ?_
 have hKp : _ ∧ _ ∧ _ ∧ _ ∧ _ ∧ _ := ⟨hT 2, hT 4, hT 5, hT 9, hT 10, hT 204⟩
 simp (decide := true) only [Fact.G, hf.size, reduceIte, s2, s4, s5, s9, s10] at hKp
 replace hf := hf1; clear hT hf1 s2 s4 s5 s8 s9 s10 s69 s190 b205
 obtain ⟨s2, s4, s5, s9, s10, s204⟩ := hKp
 refine nx (hK23 _ _ ?_)
 refine Fact.cond_s s204 (fun c5 => ?_) (fun c5 => ?_)
 · (
 clear c5 c4 c3 c2 c1 c0
 obtain ⟨o3, ho3, hol⟩ := u8_nat tn
 have HO3 := Lib.hid ho3; clear ho3
 obtain ⟨k2, hk2, hkl2⟩ := tmod_nat (x := tk) htk.1 h0
 have HK2 := Lib.hid hk2; clear hk2
 have hax : ∀ k, (.slice Ax x.2.arcs.length cx : Value).ownBlock = some k → w.heap.size + 3 < k ∧ k ≠ g := fun k hk => by rw [← HXV.out] at hk; exact ⟨HXB.out x (List.mem_of_getElem? HJX.out) k hk, fun e => htr.vap x (List.mem_of_getElem? HJX.out) k hk (by rw [e]; rfl)⟩
 have HAX := Lib.hid hax; clear hax
 refine Stam.todo_begin (n := 227) (fun m k => (m = 17 ∧ (.slice Ax x.2.arcs.length cx : Value).ownBlock = some k) ∨ (m = 20 ∧ k = g)) [17, 20] (Stab.OkOps.of (by kernel_rfl)) (fun hok => ?_)
 refine Stam.mvO (k := 0) s9 hf.size hok.out rfl (by kernel_rfl) rfl rfl (.inl rfl) (by kernel_rfl) ?_
 refine Stam.mvO (k := 1) s9 hf.size hok.out rfl (by kernel_rfl) rfl rfl (.inl rfl) (by kernel_rfl) ?_
 apply Stam.tq 2 _ hf hok
 · (
 intro fr1 w1 hh hd hk K Z
 refine Stab.pl ?_
 have s207 := Stam.v 1 0 hd hk []
 have hxe := Stam.ext_at hh [(17, [4, 3]), (20, [])] (by kernel_rfl)
 have hbt := Stam.but_at hh [] [(17, [4, 3]), (20, [])] (by kernel_rfl)
 clear hd hh
 go_simp
 exact Stab.k Z)
 apply Stam.tq 3 _ hf hok
 · (
 intro fr1 w1 hh hd hk K Z
 refine Stab.pl ?_
 have s208 := Stam.v 2 0 hd hk []
 have hxe := Stam.ext_at hh [(17, [4]), (20, [])] (by kernel_rfl)
 have hbt := Stam.but_at hh [] [(17, [4]), (20, [])] (by kernel_rfl)
 clear hd hh
 go_simp
 exact Stab.k Z)
 apply Stam.tq 4 _ hf hok
 · (
 intro fr1 w1 hh hd hk K Z
 refine Stab.pl ?_
 have s209 := Stam.v 3 0 hd hk []
 have hxe := Stam.ext_at hh [(17, []), (20, [])] (by kernel_rfl)
 have hbt := Stam.but_at hh [] [(17, []), (20, [])] (by kernel_rfl)
 clear hd hh
 have e0 := cL hxe d0
 go_simp
 exact Stab.k Z)
 apply Stam.tq 5 _ hf hok
 · (
 intro fr1 w1 hh hd hk K Z
 refine Stab.pl ?_
 have s2 := Stam.o hh (by kernel_rfl) s2
 have hxe := Stam.ext_at hh [(17, [16, 15, 7, 6]), (20, [])] (by kernel_rfl)
 have hbt := Stam.but_at hh [] [(17, [16, 15, 7, 6]), (20, [])] (by kernel_rfl)
 clear hd hh
 go_simp
 exact Stab.k Z)
 apply Stam.tq 6 _ hf hok
 · (
 intro fr1 w1 hh hd hk K Z
 refine Stab.pl ?_
 have s211 := Stam.v 5 0 hd hk []
 have hxe := Stam.ext_at hh [(17, [16, 15, 7]), (20, [])] (by kernel_rfl)
 have hbt := Stam.but_at hh [] [(17, [16, 15, 7]), (20, [])] (by kernel_rfl)
 clear hd hh
 have e3 := cL hxe t3
 go_simp
 exact Stab.k Z)
 apply Stam.tq 7 _ hf hok
 · (
 intro fr1 w1 hh hd hk K Z
 refine Stab.pl ?_
 have s212 := Stam.v 6 0 hd hk []
 have hxe := Stam.ext_at hh [(17, [16, 15]), (20, [])] (by kernel_rfl)
 have hbt := Stam.but_at hh [] [(17, [16, 15]), (20, [])] (by kernel_rfl)
 clear hd hh
 go_simp
 rw [HO3.out]
 exact Stab.k Z)
 apply Stam.tq 8 _ hf hok
 · (
 intro fr1 w1 hh hd hk K Z
 refine Stab.pl ?_
 have s2 := Stam.o hh (by kernel_rfl) s2
 have hxe := Stam.ext_at hh [(17, [16, 15, 14, 10, 9]), (20, [])] (by kernel_rfl)
 have hbt := Stam.but_at hh [] [(17, [16, 15, 14, 10, 9]), (20, [])] (by kernel_rfl)
 clear hd hh
 go_simp
 exact Stab.k Z)
 apply Stam.tq 9 _ hf hok
 · (
 intro fr1 w1 hh hd hk K Z
 refine Stab.pl ?_
 have s214 := Stam.v 8 0 hd hk []
 have hxe := Stam.ext_at hh [(17, [16, 15, 14, 10]), (20, [])] (by kernel_rfl)
 have hbt := Stam.but_at hh [] [(17, [16, 15, 14, 10]), (20, [])] (by kernel_rfl)
 clear hd hh
 have e2 := cL hxe t2
 go_simp
 exact Stab.k Z)
 apply Stam.tq 10 _ hf hok
 · (
 intro fr1 w1 hh hd hk K Z
 refine Stab.pl ?_
 have s215 := Stam.v 9 0 hd hk []
 have hxe := Stam.ext_at hh [(17, [16, 15, 14]), (20, [])] (by kernel_rfl)
 have hbt := Stam.but_at hh [] [(17, [16, 15, 14]), (20, [])] (by kernel_rfl)
 clear hd hh
 go_simp
 try simp (disch := omega) only [Fact.wrap_i64]
 exact Stab.k Z)
 apply Stam.tq 11 _ hf hok
 · (
 intro fr1 w1 hh hd hk K Z
 refine Stab.pl ?_
 have s5 := Stam.o hh (by kernel_rfl) s5
 have hxe := Stam.ext_at hh [(17, [16, 15, 14, 13, 12]), (20, [])] (by kernel_rfl)
 have hbt := Stam.but_at hh [] [(17, [16, 15, 14, 13, 12]), (20, [])] (by kernel_rfl)
 clear hd hh
 go_simp
 exact Stab.k Z)
 apply Stam.tq 12 _ hf hok
 · (
 intro fr1 w1 hh hd hk K Z
 refine Stab.pl ?_
 have s217 := Stam.v 11 0 hd hk []
 have hxe := Stam.ext_at hh [(17, [16, 15, 14, 13]), (20, [])] (by kernel_rfl)
 have hbt := Stam.but_at hh [] [(17, [16, 15, 14, 13]), (20, [])] (by kernel_rfl)
 clear hd hh
 have ey := cL hxe y0
 go_simp
 exact Stab.k Z)
 apply Stam.tq 13 _ hf hok
 · (
 intro fr1 w1 hh hd hk K Z
 refine Stab.pl ?_
 have s218 := Stam.v 12 0 hd hk []
 have hxe := Stam.ext_at hh [(17, [16, 15, 14]), (20, [])] (by kernel_rfl)
 have hbt := Stam.but_at hh [] [(17, [16, 15, 14]), (20, [])] (by kernel_rfl)
 clear hd hh
 go_simp
 exact Stab.k Z)
 apply Stam.tq 14 _ hf hok
 · (
 intro fr1 w1 hh hd hk K Z
 refine Stab.pl ?_
 have s216 := Stam.v 10 3 hd hk []
 have s219 := Stam.v 13 0 hd hk []
 have hxe := Stam.ext_at hh [(17, [16, 15]), (20, [])] (by kernel_rfl)
 have hbt := Stam.but_at hh [] [(17, [16, 15]), (20, [])] (by kernel_rfl)
 clear hd hh
 go_simp
 rw [if_neg HNE.out, HK2.out]
 rw [Oper.upon_value]
 exact Stab.k Z)
 apply Stam.tq 15 _ hf hok
 · (
 intro fr1 w1 hh hd hk K Z
 refine Stab.pl ?_
 have s213 := Stam.v 7 7 hd hk []
 have s220 := Stam.v 14 0 hd hk []
 have hxe := Stam.ext_at hh [(17, [16]), (20, [])] (by kernel_rfl)
 have hbt := Stam.but_at hh [] [(17, [16]), (20, [])] (by kernel_rfl)
 clear hd hh
 go_simp
 exact Stab.k Z)
 refine Stam.todo_op (k := 16) (n := 227) (PLit [.int .u8 o3, .int .u64 0, .int .i64 k2]) hf.size hok.out rfl (PLit.stable _) (by kernel_rfl) ?_ ?_
 · (
 intro fr1 w1 hh hd hk K Z
 refine Stab.pl ?_
 have s221 := Stam.v 15 0 hd hk []
 have hxe := Stam.ext_at hh [(17, []), (20, [])] (by kernel_rfl)
 have hbt := Stam.but_at hh [] [(17, []), (20, [])] (by kernel_rfl)
 clear hd hh
 go_simp
 exact Z.out _ rfl _ _ ((Below.refl _ _).alloc (Nat.le_refl _) _) ⟨_, rfl, lit_new _ _ _⟩)
 refine Stam.todo_sp (k := 17) (n := 227) (PAr w.heap.size (fun k => w.heap.size + 3 < k) (.slice (some ⟨g, 0, none⟩) l.length cv) l j g (⟨o3, 0, (k2 : Int)⟩ : Arc) x.2.arcs) hf.size hok.out rfl (PAr.stable _ _ _ _ _ _ _ _) (by kernel_rfl) ?_ ?_
 · (
 intro fr1 w1 hh hd hk K Z
 refine Stab.pl ?_
 have s210 := Stam.v 4 12 hd hk []
 obtain ⟨x222, s222, hp222⟩ := Stam.use (j := 16) (m := 0) hd hk rfl [] (by kernel_rfl) [(20, true, [])] (by kernel_rfl) rfl rfl rfl
 obtain ⟨b222, rfl, hc222⟩ := hp222
 have hxe := Stam.ext_at hh [(20, [])] (by kernel_rfl)
 have hbt := Stam.but_at hh [] [(20, [])] (by kernel_rfl)
 clear hd hh
 have hoa2 := own_later hoa hxe
 refine wp_app _ _ 59 rfl 63 _ 3 24 Tryd.underlying59 info63 rfl (by decide) (by decide) w.heap.size (.slice Ax x.2.arcs.length cx : Value) x.2.arcs.length (acs x.2.arcs) (Fact.eval_tmp s210) hoa2 b222 [.int .u8 o3, .int .u64 0, .int .i64 k2] (Fact.eval_tmp s222) rfl hc222 (by intro u hu; simp at hu; rcases hu with rfl | rfl | rfl <;> rfl) (by omega) (by have := hxe.size; have := hb.size; omega) (fun v5 w5 hr5 hg5 hat5 => ?_)
 have hg5b : But (fun k => (.slice Ax x.2.arcs.length cx : Value).ownBlock = some k) w1 w5 := But.grown hg5 (fun k hk => hk)
 refine Z.out _ rfl _ _ (hg5b.mono (fun k _ hk => .inl ⟨rfl, hk⟩)) ⟨?_, ?_, ?_⟩
 · (
 unfold OA; rw [List.length_append, acs_append]; exact hr5)
 · (
 exact (htr.later hxe).tj HJX.out (C := (fun k => w.heap.size + 3 < k)) HXB.out (by rw [HXV.out]; exact hg5b))
 · (
 exact fun k hk => by rcases hat5 with h | h; (rw [h] at hk; exact HAX.out k hk); (rw [h] at hk; injection hk with hk; have := hxe.size; exact ⟨by omega, by omega⟩)))
 apply Stam.tq 18 _ hf hok
 · (
 intro fr1 w1 hh hd hk K Z
 refine Stab.pl ?_
 have s206 := Stam.v 0 17 hd hk []
 have hbt := Stam.but_at hh [17] [(20, [19])] (by kernel_rfl)
 clear hd hh
 go_simp
 exact Stab.k Z)
 apply Stam.tq 19 _ hf hok
 · (
 intro fr1 w1 hh hd hk K Z
 refine Stab.pl ?_
 have s224 := Stam.v 18 0 hd hk []
 have hbt := Stam.but_at hh [17] [(20, [])] (by kernel_rfl)
 clear hd hh
 go_simp
 exact Stab.k Z)
 refine Stam.todo_sp (k := 20) (n := 227) (fun _ wz => Fin_ wz (.slice (some ⟨g, 0, none⟩) l.length cv) (fun k => w.heap.size + 3 < k) (N + 1) (M + 1)) hf.size hok.out rfl (fun _ w w2 hb h => h.but (But.of (fun _ => False) hb) (fun _ _ h => h)) (by kernel_rfl) ?_ ?_
 · (
 intro fr1 w1 hh hd hk K Z
 refine Stab.pl ?_
 have s225 := Stam.v 19 0 hd hk []
 obtain ⟨x223, s223, hp223⟩ := Stam.use (j := 17) (m := 2) hd hk rfl [] (by kernel_rfl) [] (by kernel_rfl) rfl rfl rfl
 have hl223 := hp223
 have hbt := Stam.but_at hh [17] [] (by kernel_rfl)
 clear hd hh
 have htj5 := hl223.2.1
 obtain ⟨A5, c5, hv5f⟩ := hl223.form
 subst hv5f
 have h17 := (hbt (fun k => (.slice Ax x.2.arcs.length cx : Value).ownBlock = some k) (fun m hm b h => by simp at hm; subst hm; rcases h with h | h; exact h.2; (have := h.1; omega)))
 have e0 := h17.cell d0 (fun h => (HAX.out _ h).2 rfl)
 have fz := htj5.row.frozenAt (j * 3)
 clear hbt h17 htj5
 go_simp
 exact Z.out _ rfl undef _ (But.setCell (.inr ⟨rfl, rfl⟩) _) (hl223.fin rfl HJX.out (fun k hk => HVB.out k hk) hlN HLM.out hM ⟨hol, by simp, by simp only; omega, by simp only; omega⟩))
 refine Stam.todo_facts (n := 227) (by kernel_rfl) hf.size hok.out rfl (fun fr1 w1 hh hg => ?_)
 replace s4 := Stam.o hh (by kernel_rfl) s4
 replace s5 := Stam.o hh (by kernel_rfl) s5
 obtain ⟨_, hlast⟩ := Stam.end_fact (j := 20) (m := 0) hg rfl (by decide) [(17, [])] (by kernel_rfl) rfl
 have hf1 := hh.fr hf
 have hbt := hh.but
 clear hg hh hf hok s2 s9 s10 s204
 have hf := hf1; clear hf1
 replace hbt := hbt (fun k => (.slice Ax x.2.arcs.length cx : Value).ownBlock = some k ∨ k = g) (fun m _ b h => h.imp (fun h => h.2) (fun h => h.2))
 have hfin := hlast
 have hini := hinit
 have hnb : ∀ k, k ≤ w.heap.size + 3 → ¬ ((.slice Ax x.2.arcs.length cx : Value).ownBlock = some k ∨ k = g) := fun k hk h => by rcases h with h | h; (have := (HAX.out k h).1; omega); (have := HVG.out; omega)
 replace hq2 := hbt.heap hq2 (hnb _ (by omega)); replace hq3 := hbt.heap hq3 (hnb _ (by omega))
 replace hb := hb.trans (But.below hbt hb.size (fun k hk => by rcases Nat.lt_or_ge k w.heap.size with h | h; exact absurd hk (hnb k (by omega)); exact h))
 refine Fact.block_normal ?_
 refine Fact.then_normal ?_
 exact ⟨hf, s4, s5, _, _, hini, hfin, hq2, hq3, hb⟩)
 · (
 clear c5 c4 c3 c2 c1 c0
 refine Fact.sq fun K24 hK24 => ?_
 refine Fact.sq fun K25 hK25 => ?_
 refine rg ?_
 have b70 := hf.b 70
 have b71 := hf.b 71
 have b72 := hf.b 72
 have b73 := hf.b 73
 have b74 := hf.b 74
 refine fp fun K Z => ?_
 go_simp
 apply Z.out; clear Z K
 refine fp fun K Z => ?_
 go_simp
 apply Z.out; clear Z K
 refine fp fun K Z => ?_
 go_simp
 apply Z.out; clear Z K
 refine fp fun K Z => ?_
 go_simp
 apply Z.out; clear Z K
 refine fp fun K Z => ?_
 go_simp
 apply Z.out; clear Z K
 refine fp fun K Z => ?_
 go_simp
 apply Z.out; clear Z K
 refine Fact.z hf fun fr1 hf1 hT => ?_
 have hKp : _ ∧ _ ∧ _ ∧ _ ∧ _ ∧ _ := ⟨hT 2, hT 4, hT 5, hT 9, hT 10, hT 75⟩
 simp (decide := true) only [Fact.G, hf.size, reduceIte, s2, s4, s5, s9, s10] at hKp
 replace hf := hf1; clear hT hf1 s2 s4 s5 s9 s10 s204 b70 b71 b72 b73 b74
 obtain ⟨s2, s4, s5, s9, s10, s75⟩ := hKp
 refine nx (hK25 _ _ ?_)
 refine Fact.cond_s s75 (fun hqa => ?_) (fun hqa => ?_)
 · (
 have hfin := Fin_.set (HTJ.out.sr (x' := x) HJX.out rfl (HRA.out.more (fun _ _ h => h.2))) (fun k hk => HVB.out k hk) hlN HLM.out ⟨hxm.1, by omega⟩
 have hini := hinit
 refine wp_exit ?_
 refine Fact.then_exit ?_
 refine Fact.block_exit ?_
 refine Fact.then_normal ?_
 exact ⟨hf, s4, s5, _, _, hini, hfin, hq2, hq3, hb⟩)
 · (
 have ha0 : 0 < x.2.arcs.length := by have h9 := beq_eq_false_iff_ne.1 hqa; omega
 have hkk2 : kk < x.2.arcs.length := by omega
 clear hqa hkk
 obtain ⟨ba, ca, hax, hba1, hba2⟩ := OA.own (l := x.2.arcs) hoa ha0
 injection hax with hax _ hcx9
 subst hax; subst hcx9
 obtain ⟨a, hka⟩ : ∃ a, x.2.arcs[kk]? = some a := ⟨_, List.getElem?_eq_getElem hkk2⟩
 obtain ⟨v0, v1, v2⟩ := OA.cell hoa hka
 have haa := hxm.1.2.2 a (List.mem_of_getElem? hka)
 have HKA := Lib.hid hka; clear hka
 have hbax : w.heap.size + 3 < ba ∧ ba ≠ g := by have h9 := HXV.out; exact ⟨HXB.out x (List.mem_of_getElem? HJX.out) ba (by rw [h9]; rfl), fun e => htr.vap x (List.mem_of_getElem? HJX.out) ba (by rw [h9]; rfl) (by rw [e]; rfl)⟩
 have HBA := Lib.hid hbax; clear hbax hba1
 refine wp_skip ?_
 refine nx (hK24 _ _ ?_)
 refine Fact.sq fun K26 hK26 => ?_
 refine rg ?_
 have b76 := hf.b 76
 have b77 := hf.b 77
 refine fp fun K Z => ?_
 go_simp
 apply Z.out; clear Z K
 refine fp fun K Z => ?_
 go_simp
 apply Z.out; clear Z K
 refine fp fun K Z => ?_
 go_simp
 apply Z.out; clear Z K
 refine Fact.z hf fun fr1 hf1 hT => ?_
 have hKp : _ ∧ _ ∧ _ ∧ _ ∧ _ ∧ _ := ⟨hT 2, hT 4, hT 5, hT 9, hT 10, hT 78⟩
 simp (decide := true) only [Fact.G, hf.size, reduceIte, s2, s4, s5, s9, s10] at hKp
 replace hf := hf1; clear hT hf1 s2 s4 s5 s9 s10 s75 b76 b77
 obtain ⟨s2, s4, s5, s9, s10, s78⟩ := hKp
 refine nx (hK26 _ _ ?_)
 refine wp_block ?_
 refine Fact.sq fun K27 hK27 => ?_
 refine rg ?_
 have b80 := hf.b 80
 refine fp fun K Z => ?_
 go_simp
 apply Z.out; clear Z K
 refine fp fun K Z => ?_
 go_simp
 apply Z.out; clear Z K
 refine Fact.z hf fun fr1 hf1 hT => ?_
 have hKp : _ ∧ _ ∧ _ ∧ _ ∧ _ ∧ _ ∧ _ := ⟨hT 2, hT 4, hT 5, hT 9, hT 10, hT 78, hT 79⟩
 simp (decide := true) only [Fact.G, hf.size, reduceIte, s2, s4, s5, s9, s10, s78] at hKp
 replace hf := hf1; clear hT hf1 s2 s4 s5 s9 s10 s78 b80
 obtain ⟨s2, s4, s5, s9, s10, s78, s79⟩ := hKp
 refine nx (hK27 _ _ ?_)
 refine Fact.cond_s s79 (fun c6 => ?_) (fun c6 => ?_)
 · (
 clear c6
 obtain ⟨z, hz, hz1, hz2⟩ := i64_rng (tn.tmod 9)
 have HZ := Lib.hid hz; clear hz
 refine Stab.tb 227 fun hok => ?_
 refine Stab.mO 0 s9 hf hok ?_
 apply Stab.tq 1 _ hf hok
 · (
 intro fr1 w1 hh hd hk K Z
 have s81 := Stab.v 0 0 hd hk []
 clear hd
 go_simp
 exact Stab.k Z)
 apply Stab.tq 2 _ hf hok
 · (
 intro fr1 w1 hh hd hk K Z
 have s82 := Stab.v 1 0 hd hk []
 clear hd
 go_simp
 exact Stab.k Z)
 apply Stab.tq 3 _ hf hok
 · (
 intro fr1 w1 hh hd hk K Z
 have s83 := Stab.v 2 0 hd hk []
 clear hd
 replace d0 := cL hh.ext d0
 replace t3 := cL hh.ext t3
 replace v2 := cL hh.ext v2
 go_simp
 exact Stab.k Z)
 refine Stab.mO 4 s10 hf hok ?_
 apply Stab.tq 5 _ hf hok
 · (
 intro fr1 w1 hh hd hk K Z
 have s2 := Stab.O hh s2
 clear hd
 go_simp
 exact Stab.k Z)
 apply Stab.tq 6 _ hf hok
 · (
 intro fr1 w1 hh hd hk K Z
 have s86 := Stab.v 5 0 hd hk []
 clear hd
 replace d0 := cL hh.ext d0
 replace t3 := cL hh.ext t3
 replace v2 := cL hh.ext v2
 go_simp
 exact Stab.k Z)
 apply Stab.tq 7 _ hf hok
 · (
 intro fr1 w1 hh hd hk K Z
 have s87 := Stab.v 6 0 hd hk []
 clear hd
 go_simp
 exact Stab.k Z)
 apply Stab.tq 8 _ hf hok
 · (
 intro fr1 w1 hh hd hk K Z
 have s88 := Stab.v 7 0 hd hk []
 clear hd
 go_simp
 try rw [HZ.out]
 exact Stab.k Z)
 refine Tail.todo_tail (n := 227) (m := 9) (ws := [(11, 9, [10])]) (by kernel_rfl) hf.size hok.out rfl rfl (by kernel_rfl) (fun fr1 w1 hh hg => ?_)
 replace s4 := Stab.O hh s4
 replace s5 := Stab.O hh s5
 have s84 := Tail.got_is 3 5 hg rfl rfl rfl rfl rfl
 have s85 := Tail.got_is 4 4 hg rfl rfl rfl rfl rfl
 have s89 := Tail.got_is 8 0 hg rfl rfl rfl rfl rfl
 have hf1 := hh.fr hf
 have hx := hh.ext
 replace d0 := cL hx d0
 replace t3 := cL hx t3
 replace v2 := cL hx v2
 clear hg hh hf hok s2 s9 s10 s78 s79
 have hf := hf1; clear hf1
 have b90 := hf.b 90
 have b91 := hf.b 91
 replace htr := htr.later hx
 replace hq2 := (hx.block _ (heap_lt hq2)).trans hq2; replace hq3 := (hx.block _ (heap_lt hq3)).trans hq3
 replace hb := hb.trans (hx.mono hb.size)
 replace hoa := own_later hoa hx
 replace HTJ := Lib.hid (htr.tj HJX.out (C := (fun k => w.heap.size + 3 < k)) HXB.out (But.refl _ _))
 replace HRA := Lib.hid (HRA.out.later hx)
 have hzx := hx.size
 have hlw1 : w1.heap.size > w.heap.size + 3 := heap_lt hq3
 have fz := hoa.frozenAt (kk * 3 + 2)
 refine Tail.seq_op rfl rfl (fun K Z => ?_)
 go_simp
 try rw [if_pos (by omega)]
 apply Z.out; clear Z K
 refine Tail.seq_op rfl rfl (fun K Z => ?_)
 go_simp
 apply Z.out; clear Z K
 refine Tail.seq_op rfl rfl (fun K Z => ?_)
 go_simp
 apply Z.out; clear Z K
 refine Tail.seq_nil rfl ?_
 refine Fact.q hf (by simp only [Fact.G]) rfl fun fr1 hf1 hT => ?_
 have hKp : _ ∧ _ := ⟨hT 4, hT 5⟩
 simp (decide := true) only [Fact.G, reduceIte, s4, s5] at hKp
 replace hf := hf1; clear hT hf1 s4 s5 s84 s85 s89 b90 b91
 obtain ⟨s4, s5⟩ := hKp
 have hfin := arc_fin (q := 2) (a' := ⟨a.byte, a.out, z⟩) (u := .int .i64 z) htr HJX.out HXV.out rfl HKA.out (by omega) rfl (⟨haa.1, haa.2.1, hz1, hz2⟩) (C := (fun k => w.heap.size + 3 < k)) HXB.out (fun k hk => HVB.out k hk) hlN HLM.out
 have hbS : But (fun k => k = ba) w1 (w1.setCell ⟨ba, kk * 3 + 2, none⟩ (.int .i64 z)) := But.setCell (S := fun k => k = ba) rfl _
 replace hq2 := hbS.heap hq2 (by have := HBA.out.1; omega); replace hq3 := hbS.heap hq3 (by have := HBA.out.1; omega)
 replace hb := hb.setCell (p := ⟨ba, kk * 3 + 2, none⟩) (by have := HBA.out.1; simp only; omega) (.int .i64 z)
 have hini := hinit
 clear hbS
 refine Fact.block_normal ?_
 refine Fact.block_normal ?_
 refine Fact.then_normal ?_
 exact ⟨hf, s4, s5, _, _, hini, hfin, hq2, hq3, hb⟩)
 · (
 refine Fact.sq fun K28 hK28 => ?_
 refine rg ?_
 have b93 := hf.b 93
 refine fp fun K Z => ?_
 go_simp
 apply Z.out; clear Z K
 refine fp fun K Z => ?_
 go_simp
 apply Z.out; clear Z K
 refine Fact.z hf fun fr1 hf1 hT => ?_
 have hKp : _ ∧ _ ∧ _ ∧ _ ∧ _ ∧ _ ∧ _ := ⟨hT 2, hT 4, hT 5, hT 9, hT 10, hT 78, hT 92⟩
 simp (decide := true) only [Fact.G, hf.size, reduceIte, s2, s4, s5, s9, s10, s78] at hKp
 replace hf := hf1; clear hT hf1 s2 s4 s5 s9 s10 s78 s79 b93
 obtain ⟨s2, s4, s5, s9, s10, s78, s92⟩ := hKp
 refine nx (hK28 _ _ ?_)
 refine Fact.cond_s s92 (fun c7 => ?_) (fun c7 => ?_)
 · (
 clear c7 c6
 obtain ⟨o2, ho2, hol⟩ := u64_nat ((a.out : Int) + IntKind.u64.wrap (IntKind.u8.wrap (tn.tmod 4)))
 have HO2 := Lib.hid ho2; clear ho2
 refine Stab.tb 227 fun hok => ?_
 refine Stab.mO 0 s9 hf hok ?_
 apply Stab.tq 1 _ hf hok
 · (
 intro fr1 w1 hh hd hk K Z
 have s94 := Stab.v 0 0 hd hk []
 clear hd
 go_simp
 exact Stab.k Z)
 apply Stab.tq 2 _ hf hok
 · (
 intro fr1 w1 hh hd hk K Z
 have s95 := Stab.v 1 0 hd hk []
 clear hd
 go_simp
 exact Stab.k Z)
 apply Stab.tq 3 _ hf hok
 · (
 intro fr1 w1 hh hd hk K Z
 have s96 := Stab.v 2 0 hd hk []
 clear hd
 replace d0 := cL hh.ext d0
 replace t3 := cL hh.ext t3
 replace v1 := cL hh.ext v1
 go_simp
 exact Stab.k Z)
 refine Stab.mO 4 s10 hf hok ?_
 refine Stab.mO 5 s9 hf hok ?_
 apply Stab.tq 6 _ hf hok
 · (
 intro fr1 w1 hh hd hk K Z
 have s99 := Stab.v 5 0 hd hk []
 clear hd
 go_simp
 exact Stab.k Z)
 apply Stab.tq 7 _ hf hok
 · (
 intro fr1 w1 hh hd hk K Z
 have s100 := Stab.v 6 0 hd hk []
 clear hd
 go_simp
 exact Stab.k Z)
 apply Stab.tq 8 _ hf hok
 · (
 intro fr1 w1 hh hd hk K Z
 have s101 := Stab.v 7 0 hd hk []
 clear hd
 replace d0 := cL hh.ext d0
 replace t3 := cL hh.ext t3
 replace v1 := cL hh.ext v1
 go_simp
 exact Stab.k Z)
 refine Stab.mO 9 s10 hf hok ?_
 apply Stab.tq 10 _ hf hok
 · (
 intro fr1 w1 hh hd hk K Z
 have s102 := Stab.v 8 1 hd hk []
 have s103 := Stab.v 9 0 hd hk []
 clear hd
 go_simp
 try rw [if_pos (by omega)]
 exact Stab.k Z)
 apply Stab.tq 11 _ hf hok
 · (
 intro fr1 w1 hh hd hk K Z
 have s104 := Stab.v 10 0 hd hk []
 clear hd
 go_simp
 exact Stab.k Z)
 apply Stab.tq 12 _ hf hok
 · (
 intro fr1 w1 hh hd hk K Z
 have s105 := Stab.v 11 0 hd hk []
 clear hd
 replace d0 := cL hh.ext d0
 replace t3 := cL hh.ext t3
 replace v1 := cL hh.ext v1
 go_simp
 exact Stab.k Z)
 apply Stab.tq 13 _ hf hok
 · (
 intro fr1 w1 hh hd hk K Z
 have s2 := Stab.O hh s2
 clear hd
 go_simp
 exact Stab.k Z)
 apply Stab.tq 14 _ hf hok
 · (
 intro fr1 w1 hh hd hk K Z
 have s107 := Stab.v 13 0 hd hk []
 clear hd
 replace d0 := cL hh.ext d0
 replace t3 := cL hh.ext t3
 replace v1 := cL hh.ext v1
 go_simp
 exact Stab.k Z)
 apply Stab.tq 15 _ hf hok
 · (
 intro fr1 w1 hh hd hk K Z
 have s108 := Stab.v 14 0 hd hk []
 clear hd
 go_simp
 exact Stab.k Z)
 apply Stab.tq 16 _ hf hok
 · (
 intro fr1 w1 hh hd hk K Z
 have s109 := Stab.v 15 0 hd hk []
 clear hd
 go_simp
 exact Stab.k Z)
 apply Stab.tq 17 _ hf hok
 · (
 intro fr1 w1 hh hd hk K Z
 have s110 := Stab.v 16 0 hd hk []
 clear hd
 go_simp
 exact Stab.k Z)
 apply Stab.tq 18 _ hf hok
 · (
 intro fr1 w1 hh hd hk K Z
 have s106 := Stab.v 12 5 hd hk []
 have s111 := Stab.v 17 0 hd hk []
 clear hd
 go_simp
 try simp (disch := omega) only [Fact.W]
 rw [HO2.out]
 exact Stab.k Z)
 refine Tail.todo_tail (n := 227) (m := 19) (ws := [(21, 19, [20])]) (by kernel_rfl) hf.size hok.out rfl rfl (by kernel_rfl) (fun fr1 w1 hh hg => ?_)
 replace s4 := Stab.O hh s4
 replace s5 := Stab.O hh s5
 have s97 := Tail.got_is 3 15 hg rfl rfl rfl rfl rfl
 have s98 := Tail.got_is 4 14 hg rfl rfl rfl rfl rfl
 have s112 := Tail.got_is 18 0 hg rfl rfl rfl rfl rfl
 have hf1 := hh.fr hf
 have hx := hh.ext
 replace d0 := cL hx d0
 replace t3 := cL hx t3
 replace v1 := cL hx v1
 clear hg hh hf hok s2 s9 s10 s78 s92
 have hf := hf1; clear hf1
 have b113 := hf.b 113
 have b114 := hf.b 114
 replace htr := htr.later hx
 replace hq2 := (hx.block _ (heap_lt hq2)).trans hq2; replace hq3 := (hx.block _ (heap_lt hq3)).trans hq3
 replace hb := hb.trans (hx.mono hb.size)
 replace hoa := own_later hoa hx
 replace HTJ := Lib.hid (htr.tj HJX.out (C := (fun k => w.heap.size + 3 < k)) HXB.out (But.refl _ _))
 replace HRA := Lib.hid (HRA.out.later hx)
 have hzx := hx.size
 have hlw1 : w1.heap.size > w.heap.size + 3 := heap_lt hq3
 have fz := hoa.frozenAt (kk * 3 + 1)
 refine Tail.seq_op rfl rfl (fun K Z => ?_)
 go_simp
 try rw [if_pos (by omega)]
 apply Z.out; clear Z K
 refine Tail.seq_op rfl rfl (fun K Z => ?_)
 go_simp
 apply Z.out; clear Z K
 refine Tail.seq_op rfl rfl (fun K Z => ?_)
 go_simp
 apply Z.out; clear Z K
 refine Tail.seq_nil rfl ?_
 refine Fact.q hf (by simp only [Fact.G]) rfl fun fr1 hf1 hT => ?_
 have hKp : _ ∧ _ := ⟨hT 4, hT 5⟩
 simp (decide := true) only [Fact.G, reduceIte, s4, s5] at hKp
 replace hf := hf1; clear hT hf1 s4 s5 s97 s98 s112 b113 b114
 obtain ⟨s4, s5⟩ := hKp
 have hfin := arc_fin (q := 1) (a' := ⟨a.byte, o2, a.to⟩) (u := .int .u64 o2) htr HJX.out HXV.out rfl HKA.out (by omega) rfl (⟨haa.1, hol, haa.2.2⟩) (C := (fun k => w.heap.size + 3 < k)) HXB.out (fun k hk => HVB.out k hk) hlN HLM.out
 have hbS : But (fun k => k = ba) w1 (w1.setCell ⟨ba, kk * 3 + 1, none⟩ (.int .u64 o2)) := But.setCell (S := fun k => k = ba) rfl _
 replace hq2 := hbS.heap hq2 (by have := HBA.out.1; omega); replace hq3 := hbS.heap hq3 (by have := HBA.out.1; omega)
 replace hb := hb.setCell (p := ⟨ba, kk * 3 + 1, none⟩) (by have := HBA.out.1; simp only; omega) (.int .u64 o2)
 have hini := hinit
 clear hbS
 refine Fact.block_normal ?_
 refine Fact.block_normal ?_
 refine Fact.then_normal ?_
 exact ⟨hf, s4, s5, _, _, hini, hfin, hq2, hq3, hb⟩)
 · (
 refine Fact.sq fun K29 hK29 => ?_
 refine rg ?_
 have b116 := hf.b 116
 refine fp fun K Z => ?_
 go_simp
 apply Z.out; clear Z K
 refine fp fun K Z => ?_
 go_simp
 apply Z.out; clear Z K
 refine Fact.z hf fun fr1 hf1 hT => ?_
 have hKp : _ ∧ _ ∧ _ ∧ _ ∧ _ ∧ _ ∧ _ := ⟨hT 2, hT 4, hT 5, hT 9, hT 10, hT 78, hT 115⟩
 simp (decide := true) only [Fact.G, hf.size, reduceIte, s2, s4, s5, s9, s10, s78] at hKp
 replace hf := hf1; clear hT hf1 s2 s4 s5 s9 s10 s78 s92 b116
 obtain ⟨s2, s4, s5, s9, s10, s78, s115⟩ := hKp
 refine nx (hK29 _ _ ?_)
 refine Fact.cond_s s115 (fun c8 => ?_) (fun c8 => ?_)
 · (
 clear c8 c7 c6
 obtain ⟨o3, ho3, hol⟩ := u8_nat tn
 have HO3 := Lib.hid ho3; clear ho3
 refine Stab.tb 227 fun hok => ?_
 refine Stab.mO 0 s9 hf hok ?_
 apply Stab.tq 1 _ hf hok
 · (
 intro fr1 w1 hh hd hk K Z
 have s117 := Stab.v 0 0 hd hk []
 clear hd
 go_simp
 exact Stab.k Z)
 apply Stab.tq 2 _ hf hok
 · (
 intro fr1 w1 hh hd hk K Z
 have s118 := Stab.v 1 0 hd hk []
 clear hd
 go_simp
 exact Stab.k Z)
 apply Stab.tq 3 _ hf hok
 · (
 intro fr1 w1 hh hd hk K Z
 have s119 := Stab.v 2 0 hd hk []
 clear hd
 replace d0 := cL hh.ext d0
 replace t3 := cL hh.ext t3
 replace v0 := cL hh.ext v0
 go_simp
 exact Stab.k Z)
 refine Stab.mO 4 s10 hf hok ?_
 apply Stab.tq 5 _ hf hok
 · (
 intro fr1 w1 hh hd hk K Z
 have s2 := Stab.O hh s2
 clear hd
 go_simp
 exact Stab.k Z)
 apply Stab.tq 6 _ hf hok
 · (
 intro fr1 w1 hh hd hk K Z
 have s122 := Stab.v 5 0 hd hk []
 clear hd
 replace d0 := cL hh.ext d0
 replace t3 := cL hh.ext t3
 replace v0 := cL hh.ext v0
 go_simp
 exact Stab.k Z)
 apply Stab.tq 7 _ hf hok
 · (
 intro fr1 w1 hh hd hk K Z
 have s123 := Stab.v 6 0 hd hk []
 clear hd
 go_simp
 rw [HO3.out]
 exact Stab.k Z)
 refine Tail.todo_tail (n := 227) (m := 8) (ws := [(10, 8, [9])]) (by kernel_rfl) hf.size hok.out rfl rfl (by kernel_rfl) (fun fr1 w1 hh hg => ?_)
 replace s4 := Stab.O hh s4
 replace s5 := Stab.O hh s5
 have s120 := Tail.got_is 3 4 hg rfl rfl rfl rfl rfl
 have s121 := Tail.got_is 4 3 hg rfl rfl rfl rfl rfl
 have s124 := Tail.got_is 7 0 hg rfl rfl rfl rfl rfl
 have hf1 := hh.fr hf
 have hx := hh.ext
 replace d0 := cL hx d0
 replace t3 := cL hx t3
 replace v0 := cL hx v0
 clear hg hh hf hok s2 s9 s10 s78 s115
 have hf := hf1; clear hf1
 have b125 := hf.b 125
 have b126 := hf.b 126
 replace htr := htr.later hx
 replace hq2 := (hx.block _ (heap_lt hq2)).trans hq2; replace hq3 := (hx.block _ (heap_lt hq3)).trans hq3
 replace hb := hb.trans (hx.mono hb.size)
 replace hoa := own_later hoa hx
 replace HTJ := Lib.hid (htr.tj HJX.out (C := (fun k => w.heap.size + 3 < k)) HXB.out (But.refl _ _))
 replace HRA := Lib.hid (HRA.out.later hx)
 have hzx := hx.size
 have hlw1 : w1.heap.size > w.heap.size + 3 := heap_lt hq3
 have fz := hoa.frozenAt (kk * 3)
 refine Tail.seq_op rfl rfl (fun K Z => ?_)
 go_simp
 try rw [if_pos (by omega)]
 apply Z.out; clear Z K
 refine Tail.seq_op rfl rfl (fun K Z => ?_)
 go_simp
 apply Z.out; clear Z K
 refine Tail.seq_op rfl rfl (fun K Z => ?_)
 go_simp
 apply Z.out; clear Z K
 refine Tail.seq_nil rfl ?_
 refine Fact.q hf (by simp only [Fact.G]) rfl fun fr1 hf1 hT => ?_
 have hKp : _ ∧ _ := ⟨hT 4, hT 5⟩
 simp (decide := true) only [Fact.G, reduceIte, s4, s5] at hKp
 replace hf := hf1; clear hT hf1 s4 s5 s120 s121 s124 b125 b126
 obtain ⟨s4, s5⟩ := hKp
 have hfin := arc_fin (q := 0) (a' := ⟨o3, a.out, a.to⟩) (u := .int .u8 o3) htr HJX.out HXV.out rfl HKA.out (by omega) rfl (⟨hol, haa.2⟩) (C := (fun k => w.heap.size + 3 < k)) HXB.out (fun k hk => HVB.out k hk) hlN HLM.out
 rw [Nat.add_zero] at hfin
 have hbS : But (fun k => k = ba) w1 (w1.setCell ⟨ba, kk * 3, none⟩ (.int .u8 o3)) := But.setCell (S := fun k => k = ba) rfl _
 replace hq2 := hbS.heap hq2 (by have := HBA.out.1; omega); replace hq3 := hbS.heap hq3 (by have := HBA.out.1; omega)
 replace hb := hb.setCell (p := ⟨ba, kk * 3, none⟩) (by have := HBA.out.1; simp only; omega) (.int .u8 o3)
 have hini := hinit
 clear hbS
 refine Fact.block_normal ?_
 refine Fact.block_normal ?_
 refine Fact.then_normal ?_
 exact ⟨hf, s4, s5, _, _, hini, hfin, hq2, hq3, hb⟩)
 · (
 refine Fact.sq fun K30 hK30 => ?_
 refine rg ?_
 have b128 := hf.b 128
 refine fp fun K Z => ?_
 go_simp
 apply Z.out; clear Z K
 refine fp fun K Z => ?_
 go_simp
 apply Z.out; clear Z K
 refine Fact.z hf fun fr1 hf1 hT => ?_
 have hKp : _ ∧ _ ∧ _ ∧ _ ∧ _ := ⟨hT 4, hT 5, hT 9, hT 10, hT 127⟩
 simp (decide := true) only [Fact.G, hf.size, reduceIte, s4, s5, s9, s10] at hKp
 replace hf := hf1; clear hT hf1 s2 s4 s5 s9 s10 s78 s115 b128
 obtain ⟨s4, s5, s9, s10, s127⟩ := hKp
 refine nx (hK30 _ _ ?_)
 refine Fact.cond_s s127 (fun c9 => ?_) (fun c9 => ?_)
 · (
 clear c9 c8 c7 c6
 have hal9 := hxm.2
 have hnews : ∀ (wz : World), Below wq.heap.size wq wz → ∀ (j2 : Nat) (u : Value), (acs x.2.arcs)[j2]? = some u → wz.cell? ⟨ba, j2, none⟩ = some u := fun wz hz j2 u hu => by have h9 := (own_later hoa hz).cellAt j2 (by rw [← acs_length]; exact (List.getElem?_eq_some_iff.1 hu).1); rw [h9, hu]
 have HNEWS := Lib.hid hnews; clear hnews
 have hrb : RA wq (fun k => k = ba) (.slice (some ⟨ba, 0, none⟩) x.2.arcs.length cx) x.2.arcs := OA.ra (l := x.2.arcs) hoa (fun k hk => by injection hk with hk; exact hk.symm)
 have HRB := Lib.hid hrb; clear hrb
 refine Stab.tb 227 fun hok => ?_
 refine Stab.mO 0 s9 hf hok ?_
 refine Stab.mO 1 s9 hf hok ?_
 apply Stab.tq 2 _ hf hok
 · (
 intro fr1 w1 hh hd hk K Z
 have s130 := Stab.v 1 0 hd hk []
 clear hd
 go_simp
 exact Stab.k Z)
 apply Stab.tq 3 _ hf hok
 · (
 intro fr1 w1 hh hd hk K Z
 have s131 := Stab.v 2 0 hd hk []
 clear hd
 go_simp
 exact Stab.k Z)
 apply Stab.tq 4 _ hf hok
 · (
 intro fr1 w1 hh hd hk K Z
 have s132 := Stab.v 3 0 hd hk []
 clear hd
 replace d0 := cL hh.ext d0
 go_simp
 exact Stab.k Z)
 refine Stab.mO 5 s10 hf hok ?_
 refine Stab.mO 6 s10 hf hok ?_
 apply Stab.tq 7 _ hf hok
 · (
 intro fr1 w1 hh hd hk K Z
 have s133 := Stab.v 4 2 hd hk []
 have s134 := Stab.v 5 1 hd hk []
 have s135 := Stab.v 6 0 hd hk []
 clear hd
 go_simp
 rw [if_pos (show kk ≤ cx by omega)]
 rw [Oper.upon_value]
 exact Stab.k Z)
 refine Stab.mO 8 s9 hf hok ?_
 apply Stab.tq 9 _ hf hok
 · (
 intro fr1 w1 hh hd hk K Z
 have s137 := Stab.v 8 0 hd hk []
 clear hd
 go_simp
 exact Stab.k Z)
 apply Stab.tq 10 _ hf hok
 · (
 intro fr1 w1 hh hd hk K Z
 have s138 := Stab.v 9 0 hd hk []
 clear hd
 go_simp
 exact Stab.k Z)
 apply Stab.tq 11 _ hf hok
 · (
 intro fr1 w1 hh hd hk K Z
 have s139 := Stab.v 10 0 hd hk []
 clear hd
 replace d0 := cL hh.ext d0
 go_simp
 exact Stab.k Z)
 refine Stab.mO 12 s10 hf hok ?_
 apply Stab.tq 13 _ hf hok
 · (
 intro fr1 w1 hh hd hk K Z
 have s141 := Stab.v 12 0 hd hk []
 clear hd
 go_simp
 try simp (disch := omega) only [Fact.W]
 rw [show ((kk : Nat) : Int) + 1 = ((kk + 1 : Nat) : Int) by omega]
 exact Stab.k Z)
 apply Stab.tq 14 _ hf hok
 · (
 intro fr1 w1 hh hd hk K Z
 have s140 := Stab.v 11 2 hd hk []
 have s142 := Stab.v 13 0 hd hk []
 clear hd
 go_simp
 rw [if_pos (show (0 : Int) ≤ (kk : Int) + 1 ∧ (kk : Int) + 1 ≤ (x.2.arcs.length : Int) by omega)]
 rw [Oper.upon_value]
 exact Stab.k Z)
 refine Stab.todo_op (k := 15) (n := 227) (PRa (fun k => k ≠ g ∧ w.heap.size + 3 < k) (x.2.arcs.take kk ++ x.2.arcs.drop (kk + 1))) hf.size hok.out rfl (PRa.stable _ _) ?_ ?_
 · (
 intro fr1 w1 hh hd hk K Z
 refine Stab.pl ?_
 have s136 := Stab.v 7 7 hd hk []
 have s143 := Stab.v 14 0 hd hk []
 clear hd
 replace d0 := cL hh.ext d0
 refine wp_app_full _ _ 59 rfl 63 _ 3 24 Tryd.underlying59 info63 rfl (by decide) (by decide) ba 0 kk (acs (x.2.arcs.take kk)) (Fact.eval_tmp s136) (by rw [acs_length, List.length_take]; omega) (fun j2 u hu => by rw [Nat.zero_add]; exact HNEWS.out w1 hh.ext j2 u (acs_take hu)) _ (x.2.arcs.length - (kk + 1)) (cx - (kk + 1)) (acs (x.2.arcs.drop (kk + 1))) (Fact.eval_tmp s143) (by rw [acs_length, List.length_drop]) (fun h0 => ⟨ba, (kk + 1) * 3, by rw [if_neg (by omega)], fun j2 u hu => HNEWS.out w1 hh.ext _ u (acs_drop (by omega) hu)⟩) (acs_one _) (by omega) (fun h0 => ?_) (fun v6 w6 hr6 hg6 => ?_)
 · (
 refine Z.out _ rfl _ _ (Below.refl _ _) ?_
 have h9 := ((HRB.out.later hh.ext).cut kk (by omega)).more (B' := fun k => k ≠ g ∧ w.heap.size + 3 < k) (fun k _ hk => by subst hk; exact ⟨HBA.out.2, HBA.out.1⟩)
 rw [show x.2.arcs.take kk ++ x.2.arcs.drop (kk + 1) = x.2.arcs.take kk by rw [List.drop_eq_nil_of_le (by omega), List.append_nil]]
 exact h9)
 · (
 refine Z.out _ rfl _ _ ((Below.refl _ _).grown hg6 (Nat.le_refl _) (fun k hk => by cases hk)) ?_
 have ho6 : OA w6 w1.heap.size v6 (x.2.arcs.take kk ++ x.2.arcs.drop (kk + 1)) := by unfold OA; rw [List.length_append, List.length_take, List.length_drop, Nat.min_eq_left (by omega), acs_append]; exact hr6
 exact OA.ra ho6 (fun k hk => by have h1 := (ho6.lt k hk).1; have h2 := hh.ext.size; exact ⟨by omega, by omega⟩)))
 refine Tail.todo_tail (n := 227) (m := 16) (ws := [(18, 16, [17])]) (by kernel_rfl) hf.size hok.out rfl rfl (by kernel_rfl) (fun fr1 w1 hh hg => ?_)
 replace s4 := Stab.O hh s4
 replace s5 := Stab.O hh s5
 have s129 := Tail.got_is 0 15 hg rfl rfl rfl rfl rfl
 obtain ⟨x144, s144, hp144⟩ := Tail.got_use (j := 15) (m := 0) hg rfl rfl rfl rfl rfl
 have hl144 := hp144
 have hf1 := hh.fr hf
 have hx := hh.ext
 replace d0 := cL hx d0
 clear hg hh hf hok s9 s10 s127
 have hf := hf1; clear hf1
 have b145 := hf.b 145
 have b146 := hf.b 146
 replace htr := htr.later hx
 replace hq2 := (hx.block _ (heap_lt hq2)).trans hq2; replace hq3 := (hx.block _ (heap_lt hq3)).trans hq3
 replace hb := hb.trans (hx.mono hb.size)
 replace hoa := own_later hoa hx
 replace HTJ := Lib.hid (htr.tj HJX.out (C := (fun k => w.heap.size + 3 < k)) HXB.out (But.refl _ _))
 replace HRA := Lib.hid (HRA.out.later hx)
 have hzx := hx.size
 have hlw1 : w1.heap.size > w.heap.size + 3 := heap_lt hq3
 obtain ⟨A9, n9, c9, hv9⟩ := hl144.form
 subst hv9
 have fz := htr.row.frozenAt (j * 3)
 refine Tail.seq_op rfl rfl (fun K Z => ?_)
 go_simp
 apply Z.out; clear Z K
 refine Tail.seq_op rfl rfl (fun K Z => ?_)
 go_simp
 apply Z.out; clear Z K
 refine Tail.seq_op rfl rfl (fun K Z => ?_)
 go_simp
 apply Z.out; clear Z K
 refine Tail.seq_nil rfl ?_
 refine Fact.q hf (by simp only [Fact.G]) rfl fun fr1 hf1 hT => ?_
 have hKp : _ ∧ _ := ⟨hT 4, hT 5⟩
 simp (decide := true) only [Fact.G, reduceIte, s4, s5] at hKp
 replace hf := hf1; clear hT hf1 s4 s5 s129 s144 b145 b146
 obtain ⟨s4, s5⟩ := hKp
 have hfin := hl144.fin HTJ.out rfl HJX.out (fun k hk => HVB.out k hk) hlN HLM.out hM (by simp only [List.length_append, List.length_take, List.length_drop]; omega) (fun b hb => hxm.1.2.2 b (by rcases List.mem_append.1 hb with h | h; exact List.mem_of_mem_take h; exact List.mem_of_mem_drop h))
 have hbS : But (fun k => k = g) w1 (w1.setCell ⟨g, j * 3, none⟩ (.slice A9 n9 c9)) := But.setCell (S := fun k => k = g) rfl _
 replace hq2 := hbS.heap hq2 (by have := HVG.out; omega); replace hq3 := hbS.heap hq3 (by have := HVG.out; omega)
 replace hb := hb.setCell (p := ⟨g, j * 3, none⟩) hgb (.slice A9 n9 c9)
 have hini := hinit
 refine Fact.block_normal ?_
 refine Fact.block_normal ?_
 refine Fact.then_normal ?_
 exact ⟨hf, s4, s5, _, _, hini, hfin, hq2, hq3, hb⟩)
 · (
 have hfin := Fin_.set (HTJ.out.sr (x' := x) HJX.out rfl (HRA.out.more (fun _ _ h => h.2))) (fun k hk => HVB.out k hk) hlN HLM.out ⟨hxm.1, by omega⟩
 have hini := hinit
 refine wp_skip ?_
 refine Fact.block_normal ?_
 refine Fact.block_normal ?_
 refine Fact.then_normal ?_
 exact ⟨hf, s4, s5, _, _, hini, hfin, hq2, hq3, hb⟩))))))))))))
 · (
 clear hf s2 s4 s5 s8 s9 s10
 rintro fr wq ⟨hf, s4, s5, V, ini, hini, hfin, hq2, hq3, hb⟩
 obtain ⟨Aq, nq, cq, hVq⟩ := hfin.form
 subst hVq
 have u0 : wq.cell? ⟨w.heap.size + 3, 0, none⟩ = some (.slice Aq nq cq) := by rw [cell_of_row _ _ 0 _ 33 (0, 0) hq3]; rfl
 have u1 : wq.cell? ⟨w.heap.size + 3, 1, none⟩ = some (.int .u64 ini) := by rw [cell_of_row _ _ 1 _ 33 (0, 0) hq3]; rfl
 have u2 := cell_of_row _ _ 0 _ 33 (0, 0) hq2; have u3 := cell_of_row _ _ 1 _ 33 (0, 0) hq2; have fu0 := frozen_of (i := 0) hq2; have fu1 := frozen_of (i := 1) hq2
 simp at u2 u3
 refine Fact.sq fun K31 hK31 => ?_
 refine rg ?_
 have b226 := hf.b 226
 refine fp fun K Z => ?_
 go_simp
 apply Z.out; clear Z K
 refine fp fun K Z => ?_
 go_simp
 apply Z.out; clear Z K
 refine Fact.z hf fun fr1 hf1 hT => ?_
 have hKp := hT 4
 simp (decide := true) only [Fact.G, reduceIte, s4] at hKp
 replace hf := hf1; clear hT hf1 s4 s5 b226
 have s4 := hKp; clear hKp
 refine nx (hK31 _ _ ?_)
 refine wp_ret ?_
 have hbS : But (fun k => k = w.heap.size + 2) wq _ := (But.setCell (S := fun k => k = w.heap.size + 2) (p := ⟨w.heap.size + 2, 0, none⟩) rfl (.slice Aq nq cq)).trans (But.setCell (S := fun k => k = w.heap.size + 2) (p := ⟨w.heap.size + 2, 1, none⟩) rfl (.int .u64 ini))
 have hfin2 := hfin.but hbS (fun k hk h => by have h1 : w.heap.size + 3 < k := hk; have h2 : k = w.heap.size + 2 := h; omega)
 exact ret_c rfl hf s4 (set_block (set_block hq2 _) _) Tryd.underlying33 rfl (by kernel_rfl) ⟨_, ini, rfl, hini, hfin2.rs, (hb.setCell (p := ⟨w.heap.size + 2, 0, none⟩) (by simp only; omega) _).setCell (p := ⟨w.heap.size + 2, 1, none⟩) (by simp only; omega) _⟩)))))
end Dw
end Go.Proofs.YtgjfhedgdbbinaaDoor
