/- Dawg: few states, few arcs. -/
import Derived.Test.YtdkbgbdgmihlmaaDoorPAll
import Derived.Test.YtdkbgbdgmihlmaaDoorTools
namespace Go.Proofs.YtdkbgbdgmihlmaaDoor
open Go.RowKit
set_option linter.unusedSimpArgs false
set_option linter.unusedVariables false
set_option linter.unnecessarySimpa false
namespace Dw

def cut6 (s : State) : State := ⟨s.final, s.out, s.arcs.take 6⟩
theorem take_min {s : State} {m : Nat} (h : min s.arcs.length 6 = m) : s.arcs.take 6 = s.arcs.take m := by
  subst h
  rcases Nat.le_total s.arcs.length 6 with h | h
  · rw [Nat.min_eq_left h, List.take_of_length_le h, List.take_of_length_le (Nat.le_refl _)]
  · rw [Nat.min_eq_right h]
theorem three_boxes {w W : World} {a b c : Array Value} {t : TypeId} (h : ((w.alloc (.cells a t)).alloc (.cells b t)).alloc (.cells c t) = W) : Below w.heap.size w W ∧ W.heap[w.heap.size]? = some (.cells a t (0, 0)) ∧ W.heap[w.heap.size + 1]? = some (.cells b t (0, 0)) ∧ W.heap[w.heap.size + 2]? = some (.cells c t (0, 0)) := by
  subst h
  refine ⟨(((Below.refl _ _).alloc (Nat.le_refl _) _).alloc (by simp) _).alloc (by simp; omega) _, ?_, ?_, ?_⟩
  · rw [heap_get, if_neg (by simp; omega), heap_get, if_neg (by simp), heap_get, if_pos rfl]
  · rw [heap_get, if_neg (by simp), heap_get, if_pos (by simp)]
  · rw [heap_get, if_pos (by simp)]
set_option maxHeartbeats 4000000 in
set_option maxRecDepth 100000 in
theorem few20 (w : World) (sv : Value) (init : Nat) (ss : List State) (hrs : RS w sv ss) : Calls Tryd.prog 20 #[.agg #[sv, .int .u64 init]] w fun e w1 => ∃ sv1, e = .returned (.agg #[sv1, .int .u64 init]) ∧ RS w1 sv1 ((ss.take 12).map cut6) ∧ Below w.heap.size w w1 := by
 refine calls_of_wp Tryd.func20 rfl ?_
 refine Fact.en 40 fun fr hf hT => ?_
 have s0 := hT 0 _ rfl
 clear hT
 obtain ⟨A, cc, rfl, hcc⟩ := hrs.form
 refine Fact.sq fun K1 hK1 => ?_
 refine rg ?_
 refine fp fun K Z => ?_
 go_simp
 apply Z.out; clear Z K
 refine fp fun K Z => ?_
 go_simp
 apply Z.out; clear Z K
 refine Fact.z hf fun fr1 hf1 hT => ?_
 have hKp : _ ∧ _ := ⟨hT 1, hT 2⟩
 simp (decide := true) only [Fact.G, hf.size, reduceIte] at hKp
 replace hf := hf1; clear hT hf1 s0
 obtain ⟨s1, s2⟩ := hKp
 refine nx (hK1 _ _ ?_)
 refine Fact.sq fun K2 hK2 => ?_
 refine rg ?_
 have b6 := hf.b 6
 have b7 := hf.b 7
 have b8 := hf.b 8
 have b3 := hf.b 3
 refine fp fun K Z => ?_
 go_simp
 apply Z.out; clear Z K
 refine fp fun K Z => ?_
 go_simp
 apply Z.out; clear Z K
 refine fp fun K Z => ?_
 go_simp
 apply Z.out; clear Z K
 refine fp fun K Z => ?_
 go_simp
 apply Z.out; clear Z K
 refine fp fun K Z => ?_
 go_simp
 apply Z.out; clear Z K
 refine Fact.z hf fun fr1 hf1 hT => ?_
 have hKp : _ ∧ _ ∧ _ := ⟨hT 1, hT 2, hT 3⟩
 simp (decide := true) only [Fact.G, hf.size, reduceIte, s1, s2] at hKp
 replace hf := hf1; clear hT hf1 s1 s2 b6 b7 b8 b3
 obtain ⟨s1, s2, s3⟩ := hKp
 obtain ⟨W0, hW0⟩ : ∃ x, ((w.alloc (.cells #[.slice A ss.length cc, .int .u64 init] 25)).alloc (.cells #[.slice none 0 0, .int .u64 0] 25)).alloc (.cells #[.slice none 0 0, .int .u64 init] 25) = x := ⟨_, rfl⟩
 try simp only [World.size_alloc] at s1 s2 s3
 try rw [hW0]
 obtain ⟨hb0, hp0, hp1, hp2⟩ := three_boxes hW0
 clear hW0
 refine nx (hK2 _ _ ?_)
 refine Fact.sq fun K3 hK3 => ?_
 refine Fact.sq fun K4 hK4 => ?_
 refine rg ?_
 refine fp fun K Z => ?_
 go_simp
 apply Z.out; clear Z K
 refine Fact.z hf fun fr1 hf1 hT => ?_
 have hKp : _ ∧ _ ∧ _ ∧ _ := ⟨hT 1, hT 2, hT 3, hT 4⟩
 simp (decide := true) only [Fact.G, hf.size, reduceIte, s1, s2, s3] at hKp
 replace hf := hf1; clear hT hf1 s1 s2 s3
 obtain ⟨s1, s2, s3, s4⟩ := hKp
 refine nx (hK4 _ _ ?_)
 refine wp_block ?_
 refine wp_loop_ghost (fun gk fr wr => ∃ (i : Nat) (V : Value) (l : List (Value × State)), gk = 12 - i ∧ i ≤ ss.length ∧ i ≤ 12 ∧ Fact.Fr 40 fr ∧ fr.tmps[1]? = some (.pointer (some ⟨w.heap.size, 0, none⟩)) ∧ fr.tmps[2]? = some (.pointer (some ⟨w.heap.size + 1, 0, none⟩)) ∧ fr.tmps[3]? = some (.pointer (some ⟨w.heap.size + 2, 0, none⟩)) ∧ fr.tmps[4]? = some (.int .i64 i) ∧ SR wr w.heap.size (fun k => k < w.heap.size) V l ∧ l.map Prod.snd = (ss.take i).map cut6 ∧ (∀ k, V.ownBlock = some k → w.heap.size + 2 < k) ∧ wr.heap[w.heap.size]? = some (.cells #[.slice A ss.length cc, .int .u64 init] 25 (0, 0)) ∧ wr.heap[w.heap.size + 1]? = some (.cells #[.slice none 0 0, .int .u64 0] 25 (0, 0)) ∧ wr.heap[w.heap.size + 2]? = some (.cells #[V, .int .u64 init] 25 (0, 0)) ∧ Below w.heap.size w wr) (12) ?_ ?_
 · (
 exact ⟨0, _, [], rfl, Nat.zero_le _, Nat.zero_le _, hf, s1, s2, s3, s4, SR.nil_ _ _ _, rfl, (fun k h => by cases h), hp0, hp1, hp2, hb0⟩)
 · (
 clear hf s1 s2 s3 s4
 rintro gk fr wr ⟨i, V, l, hk, hi, hi2, hf, s1, s2, s3, s4, hsr, hl, hvb, hq0, hq1, hq2, hb⟩
 have HK := Lib.hid hk; have HL := Lib.hid hl; have HVB := Lib.hid hvb; clear hk hl hvb
 have z0 : wr.cell? ⟨w.heap.size, 0, none⟩ = some (.slice A ss.length cc) := by rw [cell_of_row _ _ 0 _ 25 (0, 0) hq0]; rfl
 rcases Nat.lt_or_ge i ss.length with hlt | hge
 · (
 rcases Nat.lt_or_ge i 12 with hlm | hlm
 · (
 have q1 : decide (i < ss.length) = true := decide_eq_true hlt
 have q2 : decide ((i : Int) < 12) = true := decide_eq_true (by omega)
 refine Fact.sq fun K5 hK5 => ?_
 refine Fact.sq fun K6 hK6 => ?_
 refine rg ?_
 have b9 := hf.b 9
 have b10 := hf.b 10
 have b11 := hf.b 11
 have b12 := hf.b 12
 have b13 := hf.b 13
 have b14 := hf.b 14
 have b15 := hf.b 15
 have b16 := hf.b 16
 refine fp fun K Z => ?_
 go_simp
 apply Z.out; clear Z K
 refine fp fun K Z => ?_
 go_simp
 apply Z.out; clear Z K
 refine fp fun K Z => ?_
 go_simp
 apply Z.out; clear Z K
 refine fp fun K Z => ?_
 go_simp
 apply Z.out; clear Z K
 refine fp fun K Z => ?_
 go_simp
 apply Z.out; clear Z K
 refine fp fun K Z => ?_
 go_simp
 apply Z.out; clear Z K
 refine og 5 14 true ?_ fun K Z => ?_
 · (
 simp (decide := true) only [Fact.G, reduceIte, hf.size, q1, q2])
 go_simp
 apply Z.out; clear Z K
 refine og 5 14 true ?_ fun K Z => ?_
 · (
 simp (decide := true) only [Fact.G, reduceIte, hf.size, q1, q2])
 go_simp
 apply Z.out; clear Z K
 refine fp fun K Z => ?_
 go_simp
 apply Z.out; clear Z K
 refine Fact.z hf fun fr1 hf1 hT => ?_
 have hKp : _ ∧ _ ∧ _ ∧ _ ∧ _ := ⟨hT 1, hT 2, hT 3, hT 4, hT 17⟩
 simp (decide := true) only [Fact.G, hf.size, reduceIte, s1, s2, s3, s4] at hKp
 replace hf := hf1; clear hT hf1 s1 s2 s3 s4 b9 b10 b11 b12 b13 b14 b15 b16
 obtain ⟨s1, s2, s3, s4, s17⟩ := hKp
 refine nx (hK6 _ _ ?_)
 refine Fact.cond_t s17 ?_
 clear q1 q2
 obtain ⟨s, his⟩ : ∃ s, ss[i]? = some s := ⟨_, List.getElem?_eq_getElem hlt⟩
 obtain ⟨b, off, av, hAb, hat0⟩ := hrs.at_ his
 subst hAb
 have hraB : RA w (fun k => k < w.heap.size) av s.arcs := hat0.arcs.more (fun k hk _ => hk)
 have hra := hraB.but (But.of (fun _ => False) (hb.mono (Nat.le_refl _))) (fun _ _ h => h)
 have d0 := (hb.cell (cell_lt0 hat0.c0)).trans hat0.c0; have d1 := (hb.cell (cell_lt0 hat0.c1)).trans hat0.c1; have d2 := (hb.cell (cell_lt0 hat0.c2)).trans hat0.c2
 have hbl := cell_lt0 hat0.c0
 simp only at hbl
 obtain ⟨A2, c2, rfl, hc2⟩ := hraB.form
 clear hat0 hraB
 have hst : (ss.take (i + 1)).map cut6 = (ss.take i).map cut6 ++ [cut6 s] := by rw [List.take_add_one, his]; simp
 have HST := Lib.hid hst; clear hst his
 have hlw : wr.heap.size > w.heap.size + 2 := heap_lt hq2
 have HNB := Lib.hid (show V.ownBlock ≠ some wr.heap.size from fun h => by have := (hsr.row.lt _ h).2; omega)
 refine wp_skip ?_
 refine nx (hK5 _ _ ?_)
 refine Fact.sq fun K7 hK7 => ?_
 refine wp_block ?_
 refine Fact.sq fun K8 hK8 => ?_
 refine rg ?_
 have b20 := hf.b 20
 have b21 := hf.b 21
 have b22 := hf.b 22
 have b23 := hf.b 23
 have b24 := hf.b 24
 have b5 := hf.b 5
 refine fp fun K Z => ?_
 go_simp
 apply Z.out; clear Z K
 refine fp fun K Z => ?_
 go_simp
 apply Z.out; clear Z K
 refine fp fun K Z => ?_
 go_simp
 apply Z.out; clear Z K
 refine fp fun K Z => ?_
 go_simp
 try rw [if_pos (by omega)]
 apply Z.out; clear Z K
 refine fp fun K Z => ?_
 go_simp
 apply Z.out; clear Z K
 refine fp fun K Z => ?_
 go_simp
 apply Z.out; clear Z K
 refine fp fun K Z => ?_
 go_simp
 apply Z.out; clear Z K
 refine Fact.z hf fun fr1 hf1 hT => ?_
 have hKp : _ ∧ _ ∧ _ ∧ _ ∧ _ := ⟨hT 1, hT 2, hT 3, hT 4, hT 5⟩
 simp (decide := true) only [Fact.G, hf.size, reduceIte, s1, s2, s3, s4] at hKp
 replace hf := hf1; clear hT hf1 s1 s2 s3 s4 s17 b20 b21 b22 b23 b24 b5
 obtain ⟨s1, s2, s3, s4, s5⟩ := hKp
 obtain ⟨W5, hW5⟩ : ∃ W0, wr.alloc (.cells #[.slice A2 s.arcs.length c2, .bool s.final, .int .u64 s.out] 64) = W0 := ⟨_, rfl⟩
 try rw [hW5]
 obtain ⟨hb5, x0, x1, x2, hx5, -⟩ := box3 hW5
 clear hW5
 clear d0 d1 d2
 replace hra := hra.later hb5
 replace hsr := hsr.later hb5
 replace hq0 := (hb5.block _ (heap_lt hq0)).trans hq0; replace hq1 := (hb5.block _ (heap_lt hq1)).trans hq1; replace hq2 := (hb5.block _ (heap_lt hq2)).trans hq2
 replace hb := hb.trans (hb5.mono hb.size)
 have fz5 := frozen_of (i := 0) hx5
 obtain ⟨m, hm⟩ : ∃ m, min s.arcs.length 6 = m := ⟨_, rfl⟩
 have hms : m ≤ s.arcs.length := by omega
 have hms : m ≤ s.arcs.length := by omega
 have HM := Lib.hid hm
 have hz5 := hb5.size
 refine nx (hK8 _ _ ?_)
 refine Fact.sq fun K9 hK9 => ?_
 refine rg ?_
 have b25 := hf.b 25
 have b26 := hf.b 26
 have b27 := hf.b 27
 have b28 := hf.b 28
 have b29 := hf.b 29
 have b30 := hf.b 30
 have b31 := hf.b 31
 have b32 := hf.b 32
 refine fp fun K Z => ?_
 go_simp
 apply Z.out; clear Z K
 refine fp fun K Z => ?_
 go_simp
 apply Z.out; clear Z K
 refine fp fun K Z => ?_
 go_simp
 apply Z.out; clear Z K
 refine fp fun K Z => ?_
 go_simp
 apply Z.out; clear Z K
 refine fp fun K Z => ?_
 go_simp
 apply Z.out; clear Z K
 refine fp fun K Z => ?_
 go_simp
 rw [show min ((s.arcs.length : Nat) : Int) 6 = ((m : Nat) : Int) by have := HM.out; omega]
 apply Z.out; clear Z K
 refine fp fun K Z => ?_
 go_simp
 rw [if_pos (show m ≤ c2 by omega)]
 rw [Oper.upon_value]
 apply Z.out; clear Z K
 refine fp fun K Z => ?_
 go_simp
 apply Z.out; clear Z K
 refine fp fun K Z => ?_
 go_simp
 apply Z.out; clear Z K
 refine Fact.z hf fun fr1 hf1 hT => ?_
 have hKp : _ ∧ _ ∧ _ ∧ _ ∧ _ := ⟨hT 1, hT 2, hT 3, hT 4, hT 5⟩
 simp (decide := true) only [Fact.G, reduceIte, s1, s2, s3, s4, s5] at hKp
 replace hf := hf1; clear hT hf1 s1 s2 s3 s4 s5 b25 b26 b27 b28 b29 b30 b31 b32
 obtain ⟨s1, s2, s3, s4, s5⟩ := hKp
 have hb6 : But (fun k => k = wr.heap.size) W5 (W5.setCell ⟨wr.heap.size, 0, none⟩ (.slice A2 m c2)) := But.setCell (S := fun k => k = wr.heap.size) rfl _
 have hx6 := set_block (i := 0) hx5 (.slice A2 m c2)
 have hbS := hb.setCell (p := ⟨wr.heap.size, 0, none⟩) (by simp only; omega) (.slice A2 m c2)
 obtain ⟨W6, hW6⟩ : ∃ x, W5.setCell ⟨wr.heap.size, 0, none⟩ (.slice A2 m c2) = x := ⟨_, rfl⟩
 rw [hW6] at hb6 hx6 hbS
 try rw [hW6]
 clear hW6 hb x0
 replace hra := hra.but hb6 (fun k hk h => by omega)
 have hrt := hra.take m hms
 replace hsr := hsr.but hb6 (fun k hk h => HNB.out (by rw [hk, h])) (fun k hk h => by omega)
 replace hq0 := hb6.heap hq0 (by omega); replace hq1 := hb6.heap hq1 (by omega); replace hq2 := hb6.heap hq2 (by omega)
 have x0 : W6.cell? ⟨wr.heap.size, 0, none⟩ = some (.slice A2 m c2) := by rw [cell_of_row _ _ 0 _ 64 (0, 0) hx6]; rfl
 have x1 : W6.cell? ⟨wr.heap.size, 1, none⟩ = some (.bool s.final) := by rw [cell_of_row _ _ 1 _ 64 (0, 0) hx6]; rfl
 have x2 : W6.cell? ⟨wr.heap.size, 2, none⟩ = some (.int .u64 s.out) := by rw [cell_of_row _ _ 2 _ 64 (0, 0) hx6]; rfl
 obtain ⟨Av, cv, rfl, hcv⟩ := hsr.form
 have y0 : W6.cell? ⟨w.heap.size + 2, 0, none⟩ = some (.slice Av l.length cv) := by rw [cell_of_row _ _ 0 _ 25 (0, 0) hq2]; rfl
 have hll : l.length ≤ 12 := by have := congrArg List.length HL.out; simp at this; omega
 have hz6 := hb6.size
 refine nx (hK9 _ _ ?_)
 refine rg ?_
 have b33 := hf.b 33
 have b34 := hf.b 34
 have b35 := hf.b 35
 have b36 := hf.b 36
 have b37 := hf.b 37
 have b38 := hf.b 38
 refine fp fun K Z => ?_
 go_simp
 apply Z.out; clear Z K
 refine fp fun K Z => ?_
 go_simp
 apply Z.out; clear Z K
 refine fp fun K Z => ?_
 go_simp
 apply Z.out; clear Z K
 refine fp fun K Z => ?_
 go_simp
 apply Z.out; clear Z K
 refine Fact.reL (n := 40) (by simp only [Fact.G, hf.size]) hf.defers (fun fr1 hf1 hT => ?_)
 have hKp : _ ∧ _ ∧ _ ∧ _ ∧ _ ∧ _ := ⟨hT 1, hT 2, hT 3, hT 4, hT 34, hT 36⟩
 simp (decide := true) only [Fact.G, hf.size, reduceIte, s1, s2, s3, s4] at hKp
 replace hf := hf1; clear hT hf1 s1 s2 s3 s4 s5 b33 b34 b35 b36 b37 b38
 obtain ⟨s1, s2, s3, s4, s34, s36⟩ := hKp
 have b37 := hf.b 37
 have b38 := hf.b 38
 refine ⟨?_⟩
 refine wpList_plain rfl fun K5 hK5 => ?_
 refine wp_app _ _ 22 rfl 64 _ 3 40 Tryd.underlying22 info_state rfl (by decide) (by decide) w.heap.size (.slice Av l.length cv) l.length _ (Fact.eval_tmp s34) (hsr.row.alloc _) W6.heap.size [.slice A2 m c2, .bool s.final, .int .u64 s.out] (Fact.eval_tmp s36) rfl (lit_new W6 _ _) (by intro u hu; simp at hu; rcases hu with rfl | rfl | rfl <;> rfl) (by omega) (by have := hbS.size; simp; omega) (fun v5 w5 hr5 hg5 hat5 => hK5 _ _ ?_)
 refine Fact.L.out ?_
 obtain ⟨A5, c5, hv5, _⟩ := row_form hr5
 subst hv5
 have hba : But (fun k => (.slice Av l.length cv : Value).ownBlock = some k) W6 w5 := (But.alloc (S := fun k => (.slice Av l.length cv : Value).ownBlock = some k) W6 _).trans (But.grown hg5 (fun k hk => hk))
 replace hq0 := hba.heap hq0 (fun h => by have := HVB.out _ h; omega); replace hq1 := hba.heap hq1 (fun h => by have := HVB.out _ h; omega); replace hq2 := hba.heap hq2 (fun h => by have := HVB.out _ h; omega)
 have y2 : w5.cell? ⟨w.heap.size + 2, 0, none⟩ = some (.slice Av l.length cv) := by rw [cell_of_row _ _ 0 _ 25 (0, 0) hq2]; rfl
 have fz2 := frozen_of (i := 0) hq2
 have hsrA : ∀ x ∈ l, RA w5 (fun k => k < w.heap.size) x.1 x.2.arcs := fun x hx => (hsr.arcs x hx).but hba (fun k hk h => by have := HVB.out _ h; omega)
 have hrt5 := hrt.but hba (fun k hk h => by have := HVB.out _ h; omega)
 have hbA := hbS.trans (But.below hba hbS.size (fun k hk => by have := HVB.out _ hk; omega))
 have hz7 := hba.size
 refine fp fun K Z => ?_
 go_simp
 apply Z.out; clear Z K
 refine fp fun K Z => ?_
 go_simp
 apply Z.out; clear Z K
 refine Fact.z hf fun fr1 hf1 hT => ?_
 have hKp : _ ∧ _ ∧ _ ∧ _ := ⟨hT 1, hT 2, hT 3, hT 4⟩
 simp (decide := true) only [Fact.G, reduceIte, s1, s2, s3, s4] at hKp
 replace hf := hf1; clear hT hf1 s1 s2 s3 s4 s34 s36 b37 b38
 obtain ⟨s1, s2, s3, s4⟩ := hKp
 have hb7 : But (fun k => k = w.heap.size + 2) w5 (w5.setCell ⟨w.heap.size + 2, 0, none⟩ (.slice A5 (l.length + 1) c5)) := But.setCell (S := fun k => k = w.heap.size + 2) rfl _
 have hq2n := set_block (i := 0) hq2 (.slice A5 (l.length + 1) c5)
 replace hq0 := hb7.heap hq0 (by omega); replace hq1 := hb7.heap hq1 (by omega)
 have hb := hbA.setCell (p := ⟨w.heap.size + 2, 0, none⟩) (by simp only; omega) (.slice A5 (l.length + 1) c5)
 have hvb5 : ∀ k, (.slice A5 (l.length + 1) c5 : Value).ownBlock = some k → w.heap.size + 2 < k := fun k hk => by rcases hat5 with h | h; (rw [h] at hk; exact HVB.out k hk); (rw [h] at hk; injection hk with hk; simp at hk; omega)
 have hsr7 : SR (w5.setCell ⟨w.heap.size + 2, 0, none⟩ (.slice A5 (l.length + 1) c5)) w.heap.size (fun k => k < w.heap.size) (.slice A5 (l.length + 1) c5) (l ++ [(.slice A2 m c2, cut6 s)]) := SR.but ⟨by rw [List.length_append, scs_append]; exact hr5, fun x hx => by rcases List.mem_append.1 hx with h | h; (exact hsrA x h); (simp at h; subst h; simp only [cut6]; rw [take_min HM.out]; exact hrt5)⟩ hb7 (fun k hk h => by have := hvb5 k hk; omega) (fun k hk h => by omega)
 refine Fact.block_normal ?_
 refine nx (hK7 _ _ ?_)
 refine rg ?_
 have b18 := hf.b 18
 have b19 := hf.b 19
 refine fp fun K Z => ?_
 go_simp
 apply Z.out; clear Z K
 refine fp fun K Z => ?_
 go_simp
 try simp (disch := omega) only [Fact.W]
 apply Z.out; clear Z K
 refine fp fun K Z => ?_
 go_simp
 apply Z.out; clear Z K
 refine Fact.z hf fun fr1 hf1 hT => ?_
 have hKp : _ ∧ _ ∧ _ ∧ _ := ⟨hT 1, hT 2, hT 3, hT 4⟩
 simp (decide := true) only [Fact.G, hf.size, reduceIte, s1, s2, s3] at hKp
 replace hf := hf1; clear hT hf1 s1 s2 s3 s4 b18 b19
 obtain ⟨s1, s2, s3, s4⟩ := hKp
 refine Fact.then_normal ?_
 exact ⟨_, by have := HK.out; omega, i + 1, _, _, rfl, by omega, by omega, hf, s1, s2, s3, by rw [s4]; rfl, hsr7, by rw [List.map_append, HL.out, HST.out]; rfl, hvb5, hq0, hq1, hq2n, hb⟩)
 · (
 have q1 : decide (i < ss.length) = true := decide_eq_true (by omega)
 have q2 : decide ((i : Int) < 12) = false := decide_eq_false (by omega)
 refine Fact.sq fun K10 hK10 => ?_
 refine Fact.sq fun K11 hK11 => ?_
 refine rg ?_
 have b9 := hf.b 9
 have b10 := hf.b 10
 have b11 := hf.b 11
 have b12 := hf.b 12
 have b13 := hf.b 13
 have b14 := hf.b 14
 have b15 := hf.b 15
 have b16 := hf.b 16
 refine fp fun K Z => ?_
 go_simp
 apply Z.out; clear Z K
 refine fp fun K Z => ?_
 go_simp
 apply Z.out; clear Z K
 refine fp fun K Z => ?_
 go_simp
 apply Z.out; clear Z K
 refine fp fun K Z => ?_
 go_simp
 apply Z.out; clear Z K
 refine fp fun K Z => ?_
 go_simp
 apply Z.out; clear Z K
 refine fp fun K Z => ?_
 go_simp
 apply Z.out; clear Z K
 refine og 5 14 true ?_ fun K Z => ?_
 · (
 simp (decide := true) only [Fact.G, reduceIte, hf.size, q1, q2])
 go_simp
 apply Z.out; clear Z K
 refine og 5 14 true ?_ fun K Z => ?_
 · (
 simp (decide := true) only [Fact.G, reduceIte, hf.size, q1, q2])
 go_simp
 apply Z.out; clear Z K
 refine fp fun K Z => ?_
 go_simp
 apply Z.out; clear Z K
 refine Fact.z hf fun fr1 hf1 hT => ?_
 have hKp : _ ∧ _ ∧ _ ∧ _ ∧ _ := ⟨hT 1, hT 2, hT 3, hT 4, hT 17⟩
 simp (decide := true) only [Fact.G, hf.size, reduceIte, s1, s2, s3, s4] at hKp
 replace hf := hf1; clear hT hf1 s1 s2 s3 s4 b9 b10 b11 b12 b13 b14 b15 b16
 obtain ⟨s1, s2, s3, s4, s17⟩ := hKp
 refine nx (hK11 _ _ ?_)
 refine Fact.cond_f s17 ?_
 clear q1 q2
 have he : ss.take i = ss.take 12 := by rw [show i = 12 by omega]
 obtain ⟨Av, cv, rfl, hcv⟩ := hsr.form
 have y0 : wr.cell? ⟨w.heap.size + 2, 0, none⟩ = some (.slice Av l.length cv) := by rw [cell_of_row _ _ 0 _ 25 (0, 0) hq2]; rfl
 have y1 : wr.cell? ⟨w.heap.size + 2, 1, none⟩ = some (.int .u64 init) := by rw [cell_of_row _ _ 1 _ 25 (0, 0) hq2]; rfl
 have x0 := cell_of_row _ _ 0 _ 25 (0, 0) hq1; have x1 := cell_of_row _ _ 1 _ 25 (0, 0) hq1; have fz0 := frozen_of (i := 0) hq1; have fz1 := frozen_of (i := 1) hq1
 simp at x0 x1
 refine wp_exit ?_
 refine Fact.then_exit ?_
 refine Fact.then_exit ?_
 refine Fact.block_exit ?_
 refine nx (hK3 _ _ ?_)
 refine Fact.sq fun K12 hK12 => ?_
 refine rg ?_
 have b39 := hf.b 39
 refine fp fun K Z => ?_
 go_simp
 apply Z.out; clear Z K
 refine fp fun K Z => ?_
 go_simp
 apply Z.out; clear Z K
 refine Fact.z hf fun fr1 hf1 hT => ?_
 have hKp := hT 2
 simp (decide := true) only [Fact.G, reduceIte, s2] at hKp
 replace hf := hf1; clear hT hf1 s1 s2 s3 s4 s17 b39
 have s2 := hKp; clear hKp
 refine nx (hK12 _ _ ?_)
 refine wp_ret ?_
 have hbS : But (fun k => k = w.heap.size + 1) wr _ := (But.setCell (S := fun k => k = w.heap.size + 1) (p := ⟨w.heap.size + 1, 0, none⟩) rfl (.slice Av l.length cv)).trans (But.setCell (S := fun k => k = w.heap.size + 1) (p := ⟨w.heap.size + 1, 1, none⟩) rfl (.int .u64 init))
 have hsr2 := hsr.but hbS (fun k hk h => by have := HVB.out k hk; omega) (fun k hk h => by omega)
 have hrsl := hsr2.rs
 rw [HL.out, he] at hrsl
 exact ret_c rfl hf s2 (set_block (set_block hq1 _) _) Tryd.underlying25 rfl (by kernel_rfl) ⟨_, rfl, hrsl, (hb.setCell (p := ⟨w.heap.size + 1, 0, none⟩) (Nat.le_succ _) _).setCell (p := ⟨w.heap.size + 1, 1, none⟩) (Nat.le_succ _) _⟩))
 · (
 have q1 : decide (i < ss.length) = false := decide_eq_false (by omega)
 refine Fact.sq fun K13 hK13 => ?_
 refine Fact.sq fun K14 hK14 => ?_
 refine rg ?_
 have b9 := hf.b 9
 have b10 := hf.b 10
 have b11 := hf.b 11
 have b12 := hf.b 12
 have b13 := hf.b 13
 have b14 := hf.b 14
 have b15 := hf.b 15
 have b16 := hf.b 16
 refine fp fun K Z => ?_
 go_simp
 apply Z.out; clear Z K
 refine fp fun K Z => ?_
 go_simp
 apply Z.out; clear Z K
 refine fp fun K Z => ?_
 go_simp
 apply Z.out; clear Z K
 refine fp fun K Z => ?_
 go_simp
 apply Z.out; clear Z K
 refine fp fun K Z => ?_
 go_simp
 apply Z.out; clear Z K
 refine fp fun K Z => ?_
 go_simp
 apply Z.out; clear Z K
 refine sk 5 14 true ?_ ?_
 · (
 simp (decide := true) only [Fact.G, reduceIte, hf.size, q1, Fact.N])
 refine sk 5 14 true ?_ ?_
 · (
 simp (decide := true) only [Fact.G, reduceIte, hf.size, q1, Fact.N])
 refine fp fun K Z => ?_
 go_simp
 apply Z.out; clear Z K
 refine Fact.z hf fun fr1 hf1 hT => ?_
 have hKp : _ ∧ _ ∧ _ ∧ _ ∧ _ := ⟨hT 1, hT 2, hT 3, hT 4, hT 17⟩
 simp (decide := true) only [Fact.G, hf.size, reduceIte, s1, s2, s3, s4] at hKp
 replace hf := hf1; clear hT hf1 s1 s2 s3 s4 b9 b10 b11 b12 b13 b14 b15 b16
 obtain ⟨s1, s2, s3, s4, s17⟩ := hKp
 refine nx (hK14 _ _ ?_)
 refine Fact.cond_f s17 ?_
 clear q1
 have he : ss.take i = ss.take 12 := by rw [List.take_of_length_le (by omega), List.take_of_length_le (by omega)]
 obtain ⟨Av, cv, rfl, hcv⟩ := hsr.form
 have y0 : wr.cell? ⟨w.heap.size + 2, 0, none⟩ = some (.slice Av l.length cv) := by rw [cell_of_row _ _ 0 _ 25 (0, 0) hq2]; rfl
 have y1 : wr.cell? ⟨w.heap.size + 2, 1, none⟩ = some (.int .u64 init) := by rw [cell_of_row _ _ 1 _ 25 (0, 0) hq2]; rfl
 have x0 := cell_of_row _ _ 0 _ 25 (0, 0) hq1; have x1 := cell_of_row _ _ 1 _ 25 (0, 0) hq1; have fz0 := frozen_of (i := 0) hq1; have fz1 := frozen_of (i := 1) hq1
 simp at x0 x1
 refine wp_exit ?_
 refine Fact.then_exit ?_
 refine Fact.then_exit ?_
 refine Fact.block_exit ?_
 refine nx (hK3 _ _ ?_)
 refine Fact.sq fun K15 hK15 => ?_
 refine rg ?_
 have b39 := hf.b 39
 refine fp fun K Z => ?_
 go_simp
 apply Z.out; clear Z K
 refine fp fun K Z => ?_
 go_simp
 apply Z.out; clear Z K
 refine Fact.z hf fun fr1 hf1 hT => ?_
 have hKp := hT 2
 simp (decide := true) only [Fact.G, reduceIte, s2] at hKp
 replace hf := hf1; clear hT hf1 s1 s2 s3 s4 s17 b39
 have s2 := hKp; clear hKp
 refine nx (hK15 _ _ ?_)
 refine wp_ret ?_
 have hbS : But (fun k => k = w.heap.size + 1) wr _ := (But.setCell (S := fun k => k = w.heap.size + 1) (p := ⟨w.heap.size + 1, 0, none⟩) rfl (.slice Av l.length cv)).trans (But.setCell (S := fun k => k = w.heap.size + 1) (p := ⟨w.heap.size + 1, 1, none⟩) rfl (.int .u64 init))
 have hsr2 := hsr.but hbS (fun k hk h => by have := HVB.out k hk; omega) (fun k hk h => by omega)
 have hrsl := hsr2.rs
 rw [HL.out, he] at hrsl
 exact ret_c rfl hf s2 (set_block (set_block hq1 _) _) Tryd.underlying25 rfl (by kernel_rfl) ⟨_, rfl, hrsl, (hb.setCell (p := ⟨w.heap.size + 1, 0, none⟩) (Nat.le_succ _) _).setCell (p := ⟨w.heap.size + 1, 1, none⟩) (Nat.le_succ _) _⟩))
end Dw
end Go.Proofs.YtdkbgbdgmihlmaaDoor
