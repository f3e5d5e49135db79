/- Dawg: the document's state, walked. -/
import Derived.Test.YtgjfhedgdbbinaaDoorDSt
import Derived.Test.YtgjfhedgdbbinaaDoorDClose
import Derived.Test.YtgjfhedgdbbinaaDoorR5List
import Derived.Test.YtgjfhedgdbbinaaDoorTools
namespace Go.Proofs.YtgjfhedgdbbinaaDoor
open Go.RowKit
set_option linter.unusedSimpArgs false
set_option linter.unusedVariables false
set_option linter.unnecessarySimpa false
namespace Dw

theorem Lq.form {bx base g : Nat} {v av : Value} {B : Nat → Prop} {x : List State × List Arc} {w : World} (h : Lq bx base g v B x av w) : ∃ A c, av = .slice A x.2.length c := by
  obtain ⟨v', B', h1, h2, h3, h4, h5⟩ := h
  obtain ⟨A, c, h6, _⟩ := row_form h4
  exact ⟨A, c, h6⟩
theorem state_end {base g : Nat} {v v1 v2 av : Value} {B B1 : Nat → Prop} {ss : List State} {w wr w1 : World} (hm2 : MS w1 base g v2 (fun k => k < wr.heap.size ∧ (B1 k ∨ av.ownBlock = some k)) ss) (hb2 : But (fun k => k = g ∨ v1.ownBlock = some k) wr w1) (hv2 : v2.ownBlock = v1.ownBlock ∨ ∃ k, v2.ownBlock = some k ∧ wr.heap.size ≤ k)
    (hbt : But (fun k => k = g ∨ v.ownBlock = some k) w wr) (hB1 : ∀ k, B1 k → k < wr.heap.size ∧ ((B k ∧ k < w.heap.size) ∨ w.heap.size < k)) (hv1 : v1.ownBlock = v.ownBlock ∨ ∃ k, v1.ownBlock = some k ∧ w.heap.size < k) (hav : ∀ k, av.ownBlock = some k → w.heap.size < k ∧ ¬ B1 k ∧ v1.ownBlock ≠ some k) :
    Made base g v B w.heap.size ss w1 ∧ But (fun k => k = g ∨ v.ownBlock = some k) w w1 := by
  have hz1 := hb2.size
  have hz2 := hbt.size
  refine ⟨⟨v2, _, hm2, fun k hk => ⟨by have := hk.1; omega, ?_⟩, ?_⟩, But.join hbt hb2 (fun k hk h => ?_)⟩
  · rcases hk.2 with h | h
    · rcases (hB1 k h).2 with h2 | h2
      · exact .inl h2.1
      · exact .inr (by omega)
    · exact .inr (by have := (hav k h).1; omega)
  · rcases hv2 with h | ⟨k, h, h2⟩
    · rw [h]; exact hv1.imp id (fun ⟨k, h1, h2⟩ => ⟨k, h1, by omega⟩)
    · exact .inr ⟨k, h, by omega⟩
  · rcases h with h | h
    · exact .inl h
    · rcases hv1 with h2 | ⟨k2, h2, h3⟩
      · exact .inr (by rw [← h2]; exact h)
      · rw [h] at h2; injection h2 with h2; omega
def StateOk (f : Nat) : Prop := ∀ (w : World) (base g : Nat) (v : Value) (B : Nat → Prop) (ss : List State) (es : List Ent) (lv : Value) (d le : Nat) (hm : MS w base g v B ss) (hbase : base ≤ w.heap.size) (hre : RE w w.heap.size lv es) (hap : ∀ k, lv.ownBlock = some k → k ≠ g ∧ v.ownBlock ≠ some k) (hes : ∀ e ∈ es, okE e) (hlen : es.length ≤ 100000) (hwd : ∀ e ∈ es, d ≤ e.word.size ∧ e.word.size < f + d) (hd : d + f ≤ 100000) (hle : ∀ e ∈ es, le ≤ valE e) (hfin : (refS f ss (es.map wvE) d le).1.length ≤ 100000) (hfew : Few 100000 ss), 0 < es.length → Calls Tryd.prog 40 #[.pointer (some ⟨g, 0, none⟩), lv, .int .i64 d, .int .u64 le] w fun e w1 => e = .returned (.int .i64 ((refS f ss (es.map wvE) d le).2 : Nat)) ∧ Made base g v B w.heap.size (refS f ss (es.map wvE) d le).1 w1 ∧ But (fun k => k = g ∨ v.ownBlock = some k) w w1
set_option maxHeartbeats 4000000 in
set_option maxRecDepth 100000 in
theorem state_step (w : World) (f : Nat) (base g : Nat) (v : Value) (B : Nat → Prop) (ss : List State) (es : List Ent) (lv : Value) (d le : Nat) (ih : StateOk f) (hm : MS w base g v B ss) (hbase : base ≤ w.heap.size) (hre : RE w w.heap.size lv es) (hap : ∀ k, lv.ownBlock = some k → k ≠ g ∧ v.ownBlock ≠ some k) (hes : ∀ e ∈ es, okE e) (hlen : es.length ≤ 100000) (hwd : ∀ e ∈ es, d ≤ e.word.size ∧ e.word.size < (f + 1) + d) (hd : d + (f + 1) ≤ 100000) (hle : ∀ e ∈ es, le ≤ valE e) (hfin : (refS (f + 1) ss (es.map wvE) d le).1.length ≤ 100000) (hfew : Few 100000 ss) : Calls Tryd.prog 40 #[.pointer (some ⟨g, 0, none⟩), lv, .int .i64 d, .int .u64 le] w fun e w1 => e = .returned (.int .i64 ((refS (f + 1) ss (es.map wvE) d le).2 : Nat)) ∧ Made base g v B w.heap.size (refS (f + 1) ss (es.map wvE) d le).1 w1 ∧ But (fun k => k = g ∨ v.ownBlock = some k) w w1 := by
 refine calls_of_wp Tryd.func40 rfl ?_
 refine Fact.en 143 fun fr hf hT => ?_
 have s0 := hT 0 _ rfl
 have s1 := hT 1 _ rfl
 have s2 := hT 2 _ rfl
 have s3 := hT 3 _ rfl
 clear hT
 obtain ⟨A, cc, rfl, hcc⟩ := hre.form
 have HES := Lib.hid hes; have HWD := Lib.hid hwd; have HLE := Lib.hid hle; have HFIN := Lib.hid hfin; have HFEW := Lib.hid hfew; have HAP := Lib.hid hap; clear hes hwd hle hfin hfew hap
 have hgw := heap_lt hm.box
 have hvb : ∀ k, v.ownBlock = some k → k < w.heap.size := fun k hk => (hm.blk hk).2
 have HVB := Lib.hid hvb; clear hvb
 refine Fact.sq fun K1 hK1 => ?_
 refine rg ?_
 refine fp fun K Z => ?_
 go_simp
 apply Z.out; clear Z K
 refine Fact.z hf fun fr1 hf1 hT => ?_
 have hKp : _ ∧ _ ∧ _ ∧ _ := ⟨hT 0, hT 1, hT 2, hT 3⟩
 simp (decide := true) only [Fact.G, reduceIte, s0, s1, s2, s3] at hKp
 replace hf := hf1; clear hT hf1 s0 s1 s2 s3
 obtain ⟨s0, s1, s2, s3⟩ := hKp
 refine nx (hK1 _ _ ?_)
 refine Fact.sq fun K2 hK2 => ?_
 refine rg ?_
 refine fp fun K Z => ?_
 go_simp
 apply Z.out; clear Z K
 refine Fact.z hf fun fr1 hf1 hT => ?_
 have hKp : _ ∧ _ ∧ _ ∧ _ ∧ _ := ⟨hT 0, hT 1, hT 2, hT 3, hT 9⟩
 simp (decide := true) only [Fact.G, hf.size, reduceIte, s0, s1, s2, s3] at hKp
 replace hf := hf1; clear hT hf1 s0 s1 s2 s3
 obtain ⟨s0, s1, s2, s3, s9⟩ := hKp
 obtain ⟨W1, hW1⟩ : ∃ W0, w.alloc (.cells #[.slice none 0 0, .bool false, .int .u64 0] 61) = W0 := ⟨_, rfl⟩
 try rw [hW1]
 obtain ⟨hb1, -, -, -, hp1, -⟩ := box3 hW1
 clear hW1
 have hs1 := hb1.size
 have hz1 : w.heap.size < W1.heap.size := heap_lt hp1
 refine nx (hK2 _ _ ?_)
 refine Fact.sq fun K3 hK3 => ?_
 refine Fact.sq fun K4 hK4 => ?_
 refine rg ?_
 refine fp fun K Z => ?_
 go_simp
 apply Z.out; clear Z K
 refine Fact.z hf fun fr1 hf1 hT => ?_
 have hKp : _ ∧ _ ∧ _ ∧ _ ∧ _ ∧ _ := ⟨hT 0, hT 1, hT 2, hT 3, hT 9, hT 10⟩
 simp (decide := true) only [Fact.G, hf.size, reduceIte, s0, s1, s2, s3, s9] at hKp
 replace hf := hf1; clear hT hf1 s0 s1 s2 s3 s9
 obtain ⟨s0, s1, s2, s3, s9, s10⟩ := hKp
 refine nx (hK4 _ _ ?_)
 refine wp_block ?_
 refine wp_loop_ghost (fun gk fr wr => ∃ (i : Nat), gk = es.length - i ∧ i ≤ es.length ∧ Fact.Fr 143 fr ∧ fr.tmps[0]? = some (.pointer (some ⟨g, 0, none⟩)) ∧ fr.tmps[1]? = some (.slice A es.length cc) ∧ fr.tmps[2]? = some (.int .i64 d) ∧ fr.tmps[3]? = some (.int .u64 le) ∧ fr.tmps[9]? = some (.pointer (some ⟨w.heap.size, 0, none⟩)) ∧ fr.tmps[10]? = some (.int .i64 i) ∧ Below w.heap.size w wr ∧ wr.heap[w.heap.size]? = some (bxCells (.slice none 0 0) (refFo ((es.take i).map wvE) d le))) (es.length) ?_ ?_
 · (
 exact ⟨0, rfl, Nat.zero_le _, hf, s0, s1, s2, s3, s9, s10, hb1, hp1⟩)
 · (
 clear hf s0 s1 s2 s3 s9 s10
 rintro gk fr wr ⟨i, hk, hi, hf, s0, s1, s2, s3, s9, s10, hb, hbx⟩
 have HK := Lib.hid hk; clear hk
 refine Fact.sq fun K5 hK5 => ?_
 refine Fact.sq fun K6 hK6 => ?_
 refine rg ?_
 have b15 := hf.b 15
 have b16 := hf.b 16
 have b17 := hf.b 17
 refine fp fun K Z => ?_
 go_simp
 apply Z.out; clear Z K
 refine fp fun K Z => ?_
 go_simp
 apply Z.out; clear Z K
 refine fp fun K Z => ?_
 go_simp
 apply Z.out; clear Z K
 refine fp fun K Z => ?_
 go_simp
 apply Z.out; clear Z K
 refine Fact.z hf fun fr1 hf1 hT => ?_
 have hKp : _ ∧ _ ∧ _ ∧ _ ∧ _ ∧ _ ∧ _ := ⟨hT 0, hT 1, hT 2, hT 3, hT 9, hT 10, hT 18⟩
 simp (decide := true) only [Fact.G, hf.size, reduceIte, s0, s1, s2, s3, s9, s10] at hKp
 replace hf := hf1; clear hT hf1 s0 s1 s2 s3 s9 s10 b15 b16 b17
 obtain ⟨s0, s1, s2, s3, s9, s10, s18⟩ := hKp
 refine nx (hK6 _ _ ?_)
 refine Fact.cond_s s18 (fun hq => ?_) (fun hq => ?_)
 · (
 have hlt : i < es.length := by have h9 := of_decide_eq_true hq; omega
 have HQ := Lib.hid hq; clear hq
 obtain ⟨e, hie⟩ : ∃ e, es[i]? = some e := ⟨_, List.getElem?_eq_getElem hlt⟩
 obtain ⟨b, off, rfl, hbB, hbl, d0, d1, d2⟩ := (hre.later hb).at_ hie
 have hem := List.mem_of_getElem? hie
 have hwe := HWD.out e hem; have hoe := HES.out e hem; have hlee := HLE.out e hem; have hvl := valE_lt hoe
 have hst := foStep d le hie
 have HST := Lib.hid hst; clear hst hie hem
 have hbq : b ≠ w.heap.size := by omega
 refine wp_skip ?_
 refine nx (hK5 _ _ ?_)
 refine Fact.sq fun K7 hK7 => ?_
 refine wp_block ?_
 refine Fact.sq fun K8 hK8 => ?_
 refine rg ?_
 have b21 := hf.b 21
 have b22 := hf.b 22
 have b23 := hf.b 23
 have b24 := hf.b 24
 have b25 := hf.b 25
 have b26 := hf.b 26
 have b27 := hf.b 27
 refine fp fun K Z => ?_
 go_simp
 apply Z.out; clear Z K
 refine fp fun K Z => ?_
 go_simp
 apply Z.out; clear Z K
 refine fp fun K Z => ?_
 go_simp
 try rw [if_pos (by omega)]
 apply Z.out; clear Z K
 refine fp fun K Z => ?_
 go_simp
 apply Z.out; clear Z K
 refine fp fun K Z => ?_
 go_simp
 apply Z.out; clear Z K
 refine fp fun K Z => ?_
 go_simp
 apply Z.out; clear Z K
 refine fp fun K Z => ?_
 go_simp
 apply Z.out; clear Z K
 refine fp fun K Z => ?_
 go_simp
 apply Z.out; clear Z K
 refine Fact.z hf fun fr1 hf1 hT => ?_
 have hKp : _ ∧ _ ∧ _ ∧ _ ∧ _ ∧ _ ∧ _ := ⟨hT 0, hT 1, hT 2, hT 3, hT 9, hT 10, hT 28⟩
 simp (decide := true) only [Fact.G, hf.size, reduceIte, s0, s1, s2, s3, s9, s10] at hKp
 replace hf := hf1; clear hT hf1 s0 s1 s2 s3 s9 s10 s18 b21 b22 b23 b24 b25 b26 b27
 obtain ⟨s0, s1, s2, s3, s9, s10, s28⟩ := hKp
 refine nx (hK8 _ _ ?_)
 refine Fact.cond_s s28 (fun hq2 => ?_) (fun hq2 => ?_)
 · (
 have hsz : e.word.size = d := by have h9 := of_decide_eq_true hq2; omega
 have hy := HST.out
 rw [if_pos hsz] at hy
 have HY := Lib.hid hy; clear hy hq2
 have fz1 := frozen_of (i := 1) hbx
 have z1 : wr.cell? ⟨w.heap.size, 1, none⟩ = some (.bool (refFo ((es.take i).map wvE) d le).1) := by rw [cell_of_row _ _ 1 _ 61 (0, 0) hbx]; rfl
 refine Fact.sq fun K9 hK9 => ?_
 refine rg ?_
 have b29 := hf.b 29
 refine fp fun K Z => ?_
 go_simp
 apply Z.out; clear Z K
 refine fp fun K Z => ?_
 go_simp
 apply Z.out; clear Z K
 refine Fact.z hf fun fr1 hf1 hT => ?_
 have hKp : _ ∧ _ ∧ _ ∧ _ ∧ _ ∧ _ := ⟨hT 0, hT 1, hT 2, hT 3, hT 9, hT 10⟩
 simp (decide := true) only [Fact.G, reduceIte, s0, s1, s2, s3, s9, s10] at hKp
 replace hf := hf1; clear hT hf1 s0 s1 s2 s3 s9 s10 s28 b29
 obtain ⟨s0, s1, s2, s3, s9, s10⟩ := hKp
 have hbx6 := set_block hbx (i := 1) (.bool true)
 have hb6 := hb.setCell (p := ⟨w.heap.size, 1, none⟩) (Nat.le_refl _) (.bool true)
 obtain ⟨W6, hW6⟩ : ∃ W6, wr.setCell ⟨w.heap.size, 1, none⟩ (.bool true) = W6 := ⟨_, rfl⟩
 have hq6 : But (fun k => k = w.heap.size) wr W6 := by rw [← hW6]; exact But.setCell (S := fun k => k = w.heap.size) rfl _
 replace d0 := hq6.cell d0 hbq; replace d1 := hq6.cell d1 hbq; replace d2 := hq6.cell d2 hbq
 rw [hW6] at hbx6 hb6
 try rw [hW6]
 clear hbx hb hW6 hq6
 refine nx (hK9 _ _ ?_)
 refine rg ?_
 have b30 := hf.b 30
 have b31 := hf.b 31
 have b32 := hf.b 32
 have b33 := hf.b 33
 have b34 := hf.b 34
 have b35 := hf.b 35
 have b36 := hf.b 36
 have b37 := hf.b 37
 refine fp fun K Z => ?_
 go_simp
 apply Z.out; clear Z K
 refine fp fun K Z => ?_
 go_simp
 apply Z.out; clear Z K
 refine fp fun K Z => ?_
 go_simp
 try rw [if_pos (by omega)]
 apply Z.out; clear Z K
 refine fp fun K Z => ?_
 go_simp
 apply Z.out; clear Z K
 refine fp fun K Z => ?_
 go_simp
 go_at_call 16; refine (rvalue16 e hoe _).mono ?_; rintro e w1 ⟨rfl, hbv⟩
 replace hbx6 := (hbv.block _ (heap_lt hbx6)).trans hbx6
 replace hb6 := hb6.trans (hbv.mono hb6.size)
 have z2 : w1.cell? ⟨w.heap.size, 2, none⟩ = some (.int .u64 ((refFo ((es.take i).map wvE) d le).2 : Nat)) := by rw [cell_of_row _ _ 2 _ 61 (0, 0) hbx6]; rfl
 have fz2 := frozen_of (i := 2) hbx6
 try dsimp only
 apply Z.out; clear Z K
 refine fp fun K Z => ?_
 go_simp
 apply Z.out; clear Z K
 refine fp fun K Z => ?_
 go_simp
 try simp (disch := omega) only [Fact.W]
 rw [show ((valE e : Nat) : Int) - (le : Nat) = ((valE e - le : Nat) : Int) by omega]
 apply Z.out; clear Z K
 refine fp fun K Z => ?_
 go_simp
 apply Z.out; clear Z K
 refine fp fun K Z => ?_
 go_simp
 apply Z.out; clear Z K
 refine Fact.z hf fun fr1 hf1 hT => ?_
 have hKp : _ ∧ _ ∧ _ ∧ _ ∧ _ ∧ _ := ⟨hT 0, hT 1, hT 2, hT 3, hT 9, hT 10⟩
 simp (decide := true) only [Fact.G, reduceIte, s0, s1, s2, s3, s9, s10] at hKp
 replace hf := hf1; clear hT hf1 s0 s1 s2 s3 s9 s10 b30 b31 b32 b33 b34 b35 b36 b37
 obtain ⟨s0, s1, s2, s3, s9, s10⟩ := hKp
 have hbx := set_block hbx6 (i := 2) (.int .u64 (valE e - le : Nat))
 have hb := hb6.setCell (p := ⟨w.heap.size, 2, none⟩) (Nat.le_refl _) (.int .u64 (valE e - le : Nat))
 replace hbx : _ = some (bxCells (.slice none 0 0) (true, valE e - le)) := hbx
 rw [← HY.out] at hbx
 refine Fact.block_normal ?_
 refine nx (hK7 _ _ ?_)
 refine rg ?_
 have b19 := hf.b 19
 have b20 := hf.b 20
 refine fp fun K Z => ?_
 go_simp
 apply Z.out; clear Z K
 refine fp fun K Z => ?_
 go_simp
 try simp (disch := omega) only [Fact.W]
 apply Z.out; clear Z K
 refine fp fun K Z => ?_
 go_simp
 apply Z.out; clear Z K
 refine Fact.z hf fun fr1 hf1 hT => ?_
 have hKp : _ ∧ _ ∧ _ ∧ _ ∧ _ ∧ _ := ⟨hT 0, hT 1, hT 2, hT 3, hT 9, hT 10⟩
 simp (decide := true) only [Fact.G, hf.size, reduceIte, s0, s1, s2, s3, s9] at hKp
 replace hf := hf1; clear hT hf1 s0 s1 s2 s3 s9 s10 b19 b20
 obtain ⟨s0, s1, s2, s3, s9, s10⟩ := hKp
 refine Fact.then_normal ?_
 exact ⟨_, by have := HK.out; omega, i + 1, rfl, by omega, hf, s0, s1, s2, s3, s9, by rw [s10]; rfl, hb, hbx⟩)
 · (
 have hsz : e.word.size ≠ d := by have h9 := of_decide_eq_false hq2; omega
 have hy := HST.out
 rw [if_neg hsz] at hy
 rw [← hy] at hbx
 clear hy hq2
 refine wp_skip ?_
 refine Fact.block_normal ?_
 refine nx (hK7 _ _ ?_)
 refine rg ?_
 have b19 := hf.b 19
 have b20 := hf.b 20
 refine fp fun K Z => ?_
 go_simp
 apply Z.out; clear Z K
 refine fp fun K Z => ?_
 go_simp
 try simp (disch := omega) only [Fact.W]
 apply Z.out; clear Z K
 refine fp fun K Z => ?_
 go_simp
 apply Z.out; clear Z K
 refine Fact.z hf fun fr1 hf1 hT => ?_
 have hKp : _ ∧ _ ∧ _ ∧ _ ∧ _ ∧ _ := ⟨hT 0, hT 1, hT 2, hT 3, hT 9, hT 10⟩
 simp (decide := true) only [Fact.G, hf.size, reduceIte, s0, s1, s2, s3, s9] at hKp
 replace hf := hf1; clear hT hf1 s0 s1 s2 s3 s9 s10 s28 b19 b20
 obtain ⟨s0, s1, s2, s3, s9, s10⟩ := hKp
 refine Fact.then_normal ?_
 exact ⟨_, by have := HK.out; omega, i + 1, rfl, by omega, hf, s0, s1, s2, s3, s9, by rw [s10]; rfl, hb, hbx⟩))
 · (
 have hie : i = es.length := by have h9 := of_decide_eq_false hq; omega
 rw [hie, List.take_length] at hbx
 clear hie hq HK hi
 have hlp : Lp w.heap.size base g v B (refFo (es.map wvE) d le) (refX f ss (es.map wvE) d le 0) wr := ⟨_, ⟨v, fun k => k < w.heap.size ∧ B k, (hm.more (B' := fun k => k < w.heap.size ∧ B k) (fun k hk h => ⟨hk, h⟩) (fun h => hm.bg h.2) (fun k hk h => hm.bv k hk h.2)).later hb, fun k hk => ⟨Nat.lt_of_lt_of_le hk.1 hb.size, .inl ⟨hk.2, hk.1⟩⟩, .inl rfl, OA.nil_ _ _, fun k hk => by cases hk⟩, hbx⟩
 refine wp_exit ?_
 refine Fact.then_exit ?_
 refine Fact.then_exit ?_
 refine Fact.block_exit ?_
 refine nx (hK3 _ _ ?_)
 refine Fact.sq fun K10 hK10 => ?_
 refine Fact.sq fun K11 hK11 => ?_
 refine rg ?_
 refine fp fun K Z => ?_
 go_simp
 apply Z.out; clear Z K
 refine Fact.z hf fun fr1 hf1 hT => ?_
 have hKp : _ ∧ _ ∧ _ ∧ _ ∧ _ ∧ _ := ⟨hT 0, hT 1, hT 2, hT 3, hT 9, hT 11⟩
 simp (decide := true) only [Fact.G, hf.size, reduceIte, s0, s1, s2, s3, s9] at hKp
 replace hf := hf1; clear hT hf1 s0 s1 s2 s3 s9 s10 s18
 obtain ⟨s0, s1, s2, s3, s9, s11⟩ := hKp
 refine nx (hK11 _ _ ?_)
 refine wp_block ?_
 refine wp_loop_ghost (fun gk fr wr => ∃ (i : Nat), gk = es.length - i ∧ i ≤ es.length ∧ Fact.Fr 143 fr ∧ fr.tmps[0]? = some (.pointer (some ⟨g, 0, none⟩)) ∧ fr.tmps[1]? = some (.slice A es.length cc) ∧ fr.tmps[2]? = some (.int .i64 d) ∧ fr.tmps[3]? = some (.int .u64 le) ∧ fr.tmps[9]? = some (.pointer (some ⟨w.heap.size, 0, none⟩)) ∧ fr.tmps[11]? = some (.int .i64 i) ∧ But (fun k => k = g ∨ v.ownBlock = some k) w wr ∧ Lp w.heap.size base g v B (refFo (es.map wvE) d le) (refX f ss (es.map wvE) d le i) wr) (es.length) ?_ ?_
 · (
 exact ⟨0, rfl, Nat.zero_le _, hf, s0, s1, s2, s3, s9, s11, But.of _ hb, hlp⟩)
 · (
 clear hf s0 s1 s2 s3 s9 s11
 clear hb hlp hbx
 rintro gk fr wr ⟨i, hk, hi, hf, s0, s1, s2, s3, s9, s11, hbt, hlp⟩
 have HK := Lib.hid hk; clear hk
 have hrw : RE wr w.heap.size (.slice A es.length cc) es := hre.apart hbt (fun k hk h => by have h2 := HAP.out k hk; rcases h with h | h; exact h2.1 h; exact h2.2 h)
 refine Fact.sq fun K12 hK12 => ?_
 refine Fact.sq fun K13 hK13 => ?_
 refine rg ?_
 have b38 := hf.b 38
 have b39 := hf.b 39
 have b40 := hf.b 40
 refine fp fun K Z => ?_
 go_simp
 apply Z.out; clear Z K
 refine fp fun K Z => ?_
 go_simp
 apply Z.out; clear Z K
 refine fp fun K Z => ?_
 go_simp
 apply Z.out; clear Z K
 refine fp fun K Z => ?_
 go_simp
 apply Z.out; clear Z K
 refine Fact.z hf fun fr1 hf1 hT => ?_
 have hKp : _ ∧ _ ∧ _ ∧ _ ∧ _ ∧ _ ∧ _ := ⟨hT 0, hT 1, hT 2, hT 3, hT 9, hT 11, hT 41⟩
 simp (decide := true) only [Fact.G, hf.size, reduceIte, s0, s1, s2, s3, s9, s11] at hKp
 replace hf := hf1; clear hT hf1 s0 s1 s2 s3 s9 s11 b38 b39 b40
 obtain ⟨s0, s1, s2, s3, s9, s11, s41⟩ := hKp
 refine nx (hK13 _ _ ?_)
 refine Fact.cond_s s41 (fun hq => ?_) (fun hq => ?_)
 · (
 have hlt : i < es.length := by have h9 := of_decide_eq_true hq; omega
 have HQ := Lib.hid hq; clear hq
 obtain ⟨e, hie⟩ : ∃ e, es[i]? = some e := ⟨_, List.getElem?_eq_getElem hlt⟩
 obtain ⟨b, off, rfl, hbB, hbl, d0, d1, d2⟩ := hrw.at_ hie
 have hem := List.mem_of_getElem? hie
 have hwe := HWD.out e hem
 have hLi : (es.map wvE)[i]? = some (wvE e) := by rw [List.getElem?_map, hie]; rfl
 have HIE := Lib.hid hie; have HLI := Lib.hid hLi; clear hie hLi hem d1 d2
 have hrx := refX_succ f ss (es.map wvE) d le i
 have hal0 := refX_arcs f ss (es.map wvE) d le i
 obtain ⟨⟨sx, al⟩, hX⟩ : ∃ x, refX f ss (es.map wvE) d le i = x := ⟨_, rfl⟩
 rw [hX] at hlp hrx hal0
 have HX := Lib.hid hX; have HRX := Lib.hid hrx; clear hX hrx
 simp only at hal0
 have hlp0 := hlp
 obtain ⟨av, ⟨v1, B1, hm1, hB1, hv1, hoa, hav⟩, hbx⟩ := hlp
 simp only at hm1 hoa
 have hra := OA.ra (B := fun _ => True) hoa (fun _ _ => trivial)
 obtain ⟨Aa, ca, rfl, hca⟩ := hra.form
 have z0 : wr.cell? ⟨w.heap.size, 0, none⟩ = some (.slice Aa al.length ca) := by rw [cell_of_row _ _ 0 _ 61 (0, 0) hbx]; rfl
 have HM1 := Lib.hid hm1; have HB1 := Lib.hid hB1; have HV1 := Lib.hid hv1; have HAV := Lib.hid hav; have HOA := Lib.hid hoa; clear hm1 hB1 hv1 hav hoa
 have hat2 : ∀ (i : Nat) (h : i < e.word.size), e.word[i].toNat = at_ e.word i := fun i h => (at_get h).symm
 refine wp_skip ?_
 refine nx (hK12 _ _ ?_)
 refine Fact.sq fun K14 hK14 => ?_
 refine wp_block ?_
 refine Fact.seq_meet (fun fr wq => Fact.Fr 143 fr ∧ fr.tmps[0]? = some (.pointer (some ⟨g, 0, none⟩)) ∧ fr.tmps[1]? = some (.slice (some ⟨b, off, none⟩) es.length cc) ∧ fr.tmps[2]? = some (.int .i64 d) ∧ fr.tmps[3]? = some (.int .u64 le) ∧ fr.tmps[9]? = some (.pointer (some ⟨w.heap.size, 0, none⟩)) ∧ fr.tmps[11]? = some (.int .i64 i) ∧ Below wr.heap.size wr wq ∧ d < e.word.size ∧ (sx, al).2.getLast?.map Arc.byte ≠ some (at_ e.word d)) ?_ ?_
 · (
 by_cases hsz : e.word.size = d
 · (
 have q1 : (((e.word.size : Nat) : Int) == ((d : Nat) : Int)) = true := by simp; omega
 have hnx : refX f ss (es.map wvE) d le (i + 1) = (sx, al) := by rw [HRX.out, refI_none HLI.out (by rw [show (wvE e).1.length = e.word.size from wl_length e.word]; exact hsz)]
 have HNX := Lib.hid hnx; have HSZ := Lib.hid hsz; clear hnx hsz
 refine Fact.sq fun K15 hK15 => ?_
 refine Stab.tb 143 fun hok => ?_
 refine Stab.mO 0 s1 hf hok ?_
 refine Stab.mO 1 s11 hf hok ?_
 apply Stab.tq 2 _ hf hok
 · (
 intro fr1 w1 hh hd hk K Z
 have s44 := Stab.v 0 1 hd hk []
 have s45 := Stab.v 1 0 hd hk []
 clear hd
 go_simp
 try rw [if_pos (by omega)]
 exact Stab.k Z)
 apply Stab.tq 3 _ hf hok
 · (
 intro fr1 w1 hh hd hk K Z
 have s46 := Stab.v 2 0 hd hk []
 clear hd
 go_simp
 exact Stab.k Z)
 apply Stab.tq 4 _ hf hok
 · (
 intro fr1 w1 hh hd hk K Z
 have s47 := Stab.v 3 0 hd hk []
 clear hd
 replace z0 := cL hh.ext z0
 replace d0 := cL hh.ext d0
 go_simp
 exact Stab.k Z)
 apply Stab.tq 5 _ hf hok
 · (
 intro fr1 w1 hh hd hk K Z
 have s48 := Stab.v 4 0 hd hk []
 clear hd
 replace z0 := cL hh.ext z0
 replace d0 := cL hh.ext d0
 go_simp
 exact Stab.k Z)
 refine Stab.mO 6 s2 hf hok ?_
 apply Stab.tq 7 _ hf hok
 · (
 intro fr1 w1 hh hd hk K Z
 have s49 := Stab.v 5 1 hd hk []
 have s50 := Stab.v 6 0 hd hk []
 clear hd
 go_simp
 exact Stab.k Z)
 refine Stab.mN 8 7 0 hf hok [] ?_
 apply Stab.tr 9 _ hf hok
 · (
 intro fr1 w1 hh hd hk K Z
 have s52 := Stab.v 8 0 hd hk []
 refine Stab.sk s52 ?_
 exact Stab.k Z)
 apply Stab.tr 10 _ hf hok
 · (
 intro fr1 w1 hh hd hk K Z
 have s52 := Stab.v 8 1 hd hk []
 refine Stab.sk s52 ?_
 exact Stab.k Z)
 apply Stab.tr 11 _ hf hok
 · (
 intro fr1 w1 hh hd hk K Z
 have s52 := Stab.v 8 2 hd hk []
 refine Stab.sk s52 ?_
 exact Stab.k Z)
 apply Stab.tr 12 _ hf hok
 · (
 intro fr1 w1 hh hd hk K Z
 have s52 := Stab.v 8 3 hd hk []
 refine Stab.sk s52 ?_
 exact Stab.k Z)
 apply Stab.tr 13 _ hf hok
 · (
 intro fr1 w1 hh hd hk K Z
 have s52 := Stab.v 8 4 hd hk []
 refine Stab.sk s52 ?_
 exact Stab.k Z)
 apply Stab.tr 14 _ hf hok
 · (
 intro fr1 w1 hh hd hk K Z
 have s57 := Stab.v 13 0 hd hk []
 refine Stab.su s57 ?_
 exact Stab.k Z)
 apply Stab.tr 15 _ hf hok
 · (
 intro fr1 w1 hh hd hk K Z
 have s57 := Stab.v 13 1 hd hk []
 refine Stab.su s57 ?_
 exact Stab.k Z)
 apply Stab.tr 16 _ hf hok
 · (
 intro fr1 w1 hh hd hk K Z
 have s57 := Stab.v 13 2 hd hk []
 refine Stab.su s57 ?_
 exact Stab.k Z)
 apply Stab.tr 17 _ hf hok
 · (
 intro fr1 w1 hh hd hk K Z
 have s57 := Stab.v 13 3 hd hk []
 refine Stab.su s57 ?_
 exact Stab.k Z)
 apply Stab.tr 18 _ hf hok
 · (
 intro fr1 w1 hh hd hk K Z
 have s57 := Stab.v 13 4 hd hk []
 refine Stab.su s57 ?_
 exact Stab.k Z)
 apply Stab.tr 19 _ hf hok
 · (
 intro fr1 w1 hh hd hk K Z
 have s57 := Stab.v 13 5 hd hk []
 refine Stab.su s57 ?_
 exact Stab.k Z)
 apply Stab.tr 20 _ hf hok
 · (
 intro fr1 w1 hh hd hk K Z
 have s57 := Stab.v 13 6 hd hk []
 refine Stab.su s57 ?_
 exact Stab.k Z)
 apply Stab.tr 21 _ hf hok
 · (
 intro fr1 w1 hh hd hk K Z
 have s57 := Stab.v 13 7 hd hk []
 refine Stab.su s57 ?_
 exact Stab.k Z)
 apply Stab.tr 22 _ hf hok
 · (
 intro fr1 w1 hh hd hk K Z
 have s57 := Stab.v 13 8 hd hk []
 refine Stab.su s57 ?_
 exact Stab.k Z)
 apply Stab.tr 23 _ hf hok
 · (
 intro fr1 w1 hh hd hk K Z
 have s57 := Stab.v 13 9 hd hk []
 refine Stab.su s57 ?_
 exact Stab.k Z)
 apply Stab.tr 24 _ hf hok
 · (
 intro fr1 w1 hh hd hk K Z
 have s57 := Stab.v 13 10 hd hk []
 refine Stab.su s57 ?_
 exact Stab.k Z)
 apply Stab.tr 25 _ hf hok
 · (
 intro fr1 w1 hh hd hk K Z
 have s57 := Stab.v 13 11 hd hk []
 refine Stab.su s57 ?_
 exact Stab.k Z)
 apply Stab.tr 26 _ hf hok
 · (
 intro fr1 w1 hh hd hk K Z
 have s57 := Stab.v 13 12 hd hk []
 refine Stab.su s57 ?_
 exact Stab.k Z)
 apply Stab.tr 27 _ hf hok
 · (
 intro fr1 w1 hh hd hk K Z
 have s57 := Stab.v 13 13 hd hk []
 refine Stab.su s57 ?_
 exact Stab.k Z)
 apply Stab.tr 28 _ hf hok
 · (
 intro fr1 w1 hh hd hk K Z
 have s57 := Stab.v 13 14 hd hk []
 refine Stab.su s57 ?_
 exact Stab.k Z)
 apply Stab.tr 29 _ hf hok
 · (
 intro fr1 w1 hh hd hk K Z
 have s57 := Stab.v 13 15 hd hk []
 refine Stab.su s57 ?_
 exact Stab.k Z)
 apply Stab.tr 30 _ hf hok
 · (
 intro fr1 w1 hh hd hk K Z
 have s57 := Stab.v 13 16 hd hk []
 refine Stab.su s57 ?_
 exact Stab.k Z)
 apply Stab.tr 31 _ hf hok
 · (
 intro fr1 w1 hh hd hk K Z
 have s52 := Stab.v 8 22 hd hk []
 refine Stab.sk s52 ?_
 exact Stab.k Z)
 apply Stab.tq 32 _ hf hok
 · (
 intro fr1 w1 hh hd hk K Z
 have s52 := Stab.v 8 23 hd hk []
 have s75 := Stab.v 31 0 hd hk []
 clear hd
 go_simp
 exact Stab.k Z)
 refine Stab.tf hf hok fun fr1 w1 hh hg => ?_
 replace s0 := Stab.O hh s0
 replace s1 := Stab.O hh s1
 replace s2 := Stab.O hh s2
 replace s3 := Stab.O hh s3
 replace s9 := Stab.O hh s9
 replace s11 := Stab.O hh s11
 have s76 := Stab.f 32 0 hg
 have hf1 := hh.fr hf
 have hx := hh.ext
 replace z0 := cL hx z0
 replace d0 := cL hx d0
 clear hg hh hf hok s41
 have hf := hf1; clear hf1
 refine nx (hK15 _ _ ?_)
 refine Fact.cond_t s76 ?_
 have hlp := hlp0.later hx
 have hbtz := hbt.trans (But.of _ hx)
 rw [← HNX.out] at hlp
 refine wp_exit ?_
 refine Fact.then_exit ?_
 refine Fact.block_exit ?_
 refine nx (hK14 _ _ ?_)
 refine rg ?_
 have b42 := hf.b 42
 have b43 := hf.b 43
 refine fp fun K Z => ?_
 go_simp
 apply Z.out; clear Z K
 refine fp fun K Z => ?_
 go_simp
 try simp (disch := omega) only [Fact.W]
 apply Z.out; clear Z K
 refine fp fun K Z => ?_
 go_simp
 apply Z.out; clear Z K
 refine Fact.z hf fun fr1 hf1 hT => ?_
 have hKp : _ ∧ _ ∧ _ ∧ _ ∧ _ ∧ _ := ⟨hT 0, hT 1, hT 2, hT 3, hT 9, hT 11⟩
 simp (decide := true) only [Fact.G, hf.size, reduceIte, s0, s1, s2, s3, s9] at hKp
 replace hf := hf1; clear hT hf1 s0 s1 s2 s3 s9 s11 s76 b42 b43
 obtain ⟨s0, s1, s2, s3, s9, s11⟩ := hKp
 refine Fact.then_normal ?_
 exact ⟨_, by have := HK.out; omega, i + 1, rfl, by omega, hf, s0, s1, s2, s3, s9, by rw [s11]; rfl, hbtz, hlp⟩)
 · (
 have q1 : (((e.word.size : Nat) : Int) == ((d : Nat) : Int)) = false := by simp; omega
 have hds : d < e.word.size := by omega
 clear hsz
 have hwb : (wvE e).1[d]? = some (at_ e.word d) := wl_at hds
 have HWB := Lib.hid hwb; clear hwb
 rcases Nat.eq_zero_or_pos al.length with h0 | h0
 · (
 have q2 : decide (0 < al.length) = false := decide_eq_false (by omega)
 have hnl : (sx, al).2.getLast?.map Arc.byte ≠ some (at_ e.word d) := by obtain rfl : al = [] := List.eq_nil_of_length_eq_zero h0; simp
 have HNL := Lib.hid hnl; clear hnl
 have H0 := Lib.hid h0; clear h0
 refine Fact.sq fun K16 hK16 => ?_
 refine Stab.tb 143 fun hok => ?_
 refine Stab.mO 0 s1 hf hok ?_
 refine Stab.mO 1 s11 hf hok ?_
 apply Stab.tq 2 _ hf hok
 · (
 intro fr1 w1 hh hd hk K Z
 have s44 := Stab.v 0 1 hd hk []
 have s45 := Stab.v 1 0 hd hk []
 clear hd
 go_simp
 try rw [if_pos (by omega)]
 exact Stab.k Z)
 apply Stab.tq 3 _ hf hok
 · (
 intro fr1 w1 hh hd hk K Z
 have s46 := Stab.v 2 0 hd hk []
 clear hd
 go_simp
 exact Stab.k Z)
 apply Stab.tq 4 _ hf hok
 · (
 intro fr1 w1 hh hd hk K Z
 have s47 := Stab.v 3 0 hd hk []
 clear hd
 replace z0 := cL hh.ext z0
 replace d0 := cL hh.ext d0
 go_simp
 exact Stab.k Z)
 apply Stab.tq 5 _ hf hok
 · (
 intro fr1 w1 hh hd hk K Z
 have s48 := Stab.v 4 0 hd hk []
 clear hd
 replace z0 := cL hh.ext z0
 replace d0 := cL hh.ext d0
 go_simp
 exact Stab.k Z)
 refine Stab.mO 6 s2 hf hok ?_
 apply Stab.tq 7 _ hf hok
 · (
 intro fr1 w1 hh hd hk K Z
 have s49 := Stab.v 5 1 hd hk []
 have s50 := Stab.v 6 0 hd hk []
 clear hd
 go_simp
 exact Stab.k Z)
 refine Stab.mN 8 7 0 hf hok [] ?_
 apply Stab.tr 9 _ hf hok
 · (
 intro fr1 w1 hh hd hk K Z
 have s52 := Stab.v 8 0 hd hk []
 refine Stab.g s52 ?_
 have s9 := Stab.O hh s9
 clear hd
 go_simp
 exact Stab.k Z)
 apply Stab.tr 10 _ hf hok
 · (
 intro fr1 w1 hh hd hk K Z
 have s52 := Stab.v 8 1 hd hk []
 refine Stab.g s52 ?_
 have s53 := Stab.v 9 0 hd hk []
 clear hd
 replace z0 := cL hh.ext z0
 replace d0 := cL hh.ext d0
 go_simp
 exact Stab.k Z)
 apply Stab.tr 11 _ hf hok
 · (
 intro fr1 w1 hh hd hk K Z
 have s52 := Stab.v 8 2 hd hk []
 refine Stab.g s52 ?_
 have s54 := Stab.v 10 0 hd hk []
 clear hd
 replace z0 := cL hh.ext z0
 replace d0 := cL hh.ext d0
 go_simp
 exact Stab.k Z)
 apply Stab.tr 12 _ hf hok
 · (
 intro fr1 w1 hh hd hk K Z
 have s52 := Stab.v 8 3 hd hk []
 refine Stab.g s52 ?_
 have s55 := Stab.v 11 0 hd hk []
 clear hd
 go_simp
 exact Stab.k Z)
 apply Stab.tr 13 _ hf hok
 · (
 intro fr1 w1 hh hd hk K Z
 have s52 := Stab.v 8 4 hd hk []
 refine Stab.g s52 ?_
 have s56 := Stab.v 12 0 hd hk []
 clear hd
 go_simp
 exact Stab.k Z)
 apply Stab.tr 14 _ hf hok
 · (
 intro fr1 w1 hh hd hk K Z
 have s57 := Stab.v 13 0 hd hk []
 refine Stab.sk s57 ?_
 exact Stab.k Z)
 apply Stab.tr 15 _ hf hok
 · (
 intro fr1 w1 hh hd hk K Z
 have s57 := Stab.v 13 1 hd hk []
 refine Stab.sk s57 ?_
 exact Stab.k Z)
 apply Stab.tr 16 _ hf hok
 · (
 intro fr1 w1 hh hd hk K Z
 have s57 := Stab.v 13 2 hd hk []
 refine Stab.sk s57 ?_
 exact Stab.k Z)
 apply Stab.tr 17 _ hf hok
 · (
 intro fr1 w1 hh hd hk K Z
 have s57 := Stab.v 13 3 hd hk []
 refine Stab.sk s57 ?_
 exact Stab.k Z)
 apply Stab.tr 18 _ hf hok
 · (
 intro fr1 w1 hh hd hk K Z
 have s57 := Stab.v 13 4 hd hk []
 refine Stab.sk s57 ?_
 exact Stab.k Z)
 apply Stab.tr 19 _ hf hok
 · (
 intro fr1 w1 hh hd hk K Z
 have s57 := Stab.v 13 5 hd hk []
 refine Stab.sk s57 ?_
 exact Stab.k Z)
 apply Stab.tr 20 _ hf hok
 · (
 intro fr1 w1 hh hd hk K Z
 have s57 := Stab.v 13 6 hd hk []
 refine Stab.sk s57 ?_
 exact Stab.k Z)
 apply Stab.tr 21 _ hf hok
 · (
 intro fr1 w1 hh hd hk K Z
 have s57 := Stab.v 13 7 hd hk []
 refine Stab.sk s57 ?_
 exact Stab.k Z)
 apply Stab.tr 22 _ hf hok
 · (
 intro fr1 w1 hh hd hk K Z
 have s57 := Stab.v 13 8 hd hk []
 refine Stab.sk s57 ?_
 exact Stab.k Z)
 apply Stab.tr 23 _ hf hok
 · (
 intro fr1 w1 hh hd hk K Z
 have s57 := Stab.v 13 9 hd hk []
 refine Stab.sk s57 ?_
 exact Stab.k Z)
 apply Stab.tr 24 _ hf hok
 · (
 intro fr1 w1 hh hd hk K Z
 have s57 := Stab.v 13 10 hd hk []
 refine Stab.sk s57 ?_
 exact Stab.k Z)
 apply Stab.tr 25 _ hf hok
 · (
 intro fr1 w1 hh hd hk K Z
 have s57 := Stab.v 13 11 hd hk []
 refine Stab.sk s57 ?_
 exact Stab.k Z)
 apply Stab.tr 26 _ hf hok
 · (
 intro fr1 w1 hh hd hk K Z
 have s57 := Stab.v 13 12 hd hk []
 refine Stab.sk s57 ?_
 exact Stab.k Z)
 apply Stab.tr 27 _ hf hok
 · (
 intro fr1 w1 hh hd hk K Z
 have s57 := Stab.v 13 13 hd hk []
 refine Stab.sk s57 ?_
 exact Stab.k Z)
 apply Stab.tr 28 _ hf hok
 · (
 intro fr1 w1 hh hd hk K Z
 have s57 := Stab.v 13 14 hd hk []
 refine Stab.sk s57 ?_
 exact Stab.k Z)
 apply Stab.tr 29 _ hf hok
 · (
 intro fr1 w1 hh hd hk K Z
 have s57 := Stab.v 13 15 hd hk []
 refine Stab.sk s57 ?_
 exact Stab.k Z)
 apply Stab.tr 30 _ hf hok
 · (
 intro fr1 w1 hh hd hk K Z
 have s57 := Stab.v 13 16 hd hk []
 refine Stab.sk s57 ?_
 exact Stab.k Z)
 apply Stab.tr 31 _ hf hok
 · (
 intro fr1 w1 hh hd hk K Z
 have s52 := Stab.v 8 22 hd hk []
 refine Stab.g s52 ?_
 have s57 := Stab.v 13 17 hd hk []
 have s74 := Stab.v 30 0 hd hk []
 clear hd
 go_simp
 exact Stab.k Z)
 apply Stab.tq 32 _ hf hok
 · (
 intro fr1 w1 hh hd hk K Z
 have s52 := Stab.v 8 23 hd hk []
 have s75 := Stab.v 31 0 hd hk []
 clear hd
 go_simp
 exact Stab.k Z)
 refine Stab.tf hf hok fun fr1 w1 hh hg => ?_
 replace s0 := Stab.O hh s0
 replace s1 := Stab.O hh s1
 replace s2 := Stab.O hh s2
 replace s3 := Stab.O hh s3
 replace s9 := Stab.O hh s9
 replace s11 := Stab.O hh s11
 have s76 := Stab.f 32 0 hg
 have hf1 := hh.fr hf
 have hx := hh.ext
 replace z0 := cL hx z0
 replace d0 := cL hx d0
 clear hg hh hf hok s41
 have hf := hf1; clear hf1
 refine nx (hK16 _ _ ?_)
 refine Fact.cond_f s76 ?_
 refine wp_skip ?_
 refine Fact.then_normal ?_
 exact ⟨hf, s0, s1, s2, s3, s9, s11, hx, hds, HNL.out⟩)
 · (
 have q2 : decide (0 < al.length) = true := decide_eq_true (by omega)
 obtain ⟨la, hla⟩ : ∃ a, al[al.length - 1]? = some a := ⟨_, List.getElem?_eq_getElem (by omega)⟩
 obtain ⟨b3, off3, rfl, hb3, e0, -, -⟩ := hra.at' hla
 have hlb : (sx, al).2.getLast?.map Arc.byte = some la.byte := by show al.getLast?.map Arc.byte = _; rw [List.getLast?_eq_getElem?, hla]; rfl
 have HLB := Lib.hid hlb; clear hlb hla
 have HN1 := Lib.hid (show (al.length : Int) - 1 = ((al.length - 1 : Nat) : Int) by omega)
 by_cases hsame : la.byte = at_ e.word d
 · (
 have q3 : (((la.byte : Nat) : Int) == ((at_ e.word d : Nat) : Int)) = true := by simp; omega
 have hnx : refX f ss (es.map wvE) d le (i + 1) = (sx, al) := by rw [HRX.out, refI_same HLI.out HWB.out (by rw [HLB.out, hsame])]
 have HNX := Lib.hid hnx; have HSM := Lib.hid hsame; clear hnx hsame
 refine Fact.sq fun K17 hK17 => ?_
 refine Stab.tb 143 fun hok => ?_
 refine Stab.mO 0 s1 hf hok ?_
 refine Stab.mO 1 s11 hf hok ?_
 apply Stab.tq 2 _ hf hok
 · (
 intro fr1 w1 hh hd hk K Z
 have s44 := Stab.v 0 1 hd hk []
 have s45 := Stab.v 1 0 hd hk []
 clear hd
 go_simp
 try rw [if_pos (by omega)]
 exact Stab.k Z)
 apply Stab.tq 3 _ hf hok
 · (
 intro fr1 w1 hh hd hk K Z
 have s46 := Stab.v 2 0 hd hk []
 clear hd
 go_simp
 exact Stab.k Z)
 apply Stab.tq 4 _ hf hok
 · (
 intro fr1 w1 hh hd hk K Z
 have s47 := Stab.v 3 0 hd hk []
 clear hd
 replace z0 := cL hh.ext z0
 replace d0 := cL hh.ext d0
 replace e0 := cL hh.ext e0
 go_simp
 exact Stab.k Z)
 apply Stab.tq 5 _ hf hok
 · (
 intro fr1 w1 hh hd hk K Z
 have s48 := Stab.v 4 0 hd hk []
 clear hd
 replace z0 := cL hh.ext z0
 replace d0 := cL hh.ext d0
 replace e0 := cL hh.ext e0
 go_simp
 exact Stab.k Z)
 refine Stab.mO 6 s2 hf hok ?_
 apply Stab.tq 7 _ hf hok
 · (
 intro fr1 w1 hh hd hk K Z
 have s49 := Stab.v 5 1 hd hk []
 have s50 := Stab.v 6 0 hd hk []
 clear hd
 go_simp
 exact Stab.k Z)
 refine Stab.mN 8 7 0 hf hok [] ?_
 apply Stab.tr 9 _ hf hok
 · (
 intro fr1 w1 hh hd hk K Z
 have s52 := Stab.v 8 0 hd hk []
 refine Stab.g s52 ?_
 have s9 := Stab.O hh s9
 clear hd
 go_simp
 exact Stab.k Z)
 apply Stab.tr 10 _ hf hok
 · (
 intro fr1 w1 hh hd hk K Z
 have s52 := Stab.v 8 1 hd hk []
 refine Stab.g s52 ?_
 have s53 := Stab.v 9 0 hd hk []
 clear hd
 replace z0 := cL hh.ext z0
 replace d0 := cL hh.ext d0
 replace e0 := cL hh.ext e0
 go_simp
 exact Stab.k Z)
 apply Stab.tr 11 _ hf hok
 · (
 intro fr1 w1 hh hd hk K Z
 have s52 := Stab.v 8 2 hd hk []
 refine Stab.g s52 ?_
 have s54 := Stab.v 10 0 hd hk []
 clear hd
 replace z0 := cL hh.ext z0
 replace d0 := cL hh.ext d0
 replace e0 := cL hh.ext e0
 go_simp
 exact Stab.k Z)
 apply Stab.tr 12 _ hf hok
 · (
 intro fr1 w1 hh hd hk K Z
 have s52 := Stab.v 8 3 hd hk []
 refine Stab.g s52 ?_
 have s55 := Stab.v 11 0 hd hk []
 clear hd
 go_simp
 exact Stab.k Z)
 apply Stab.tr 13 _ hf hok
 · (
 intro fr1 w1 hh hd hk K Z
 have s52 := Stab.v 8 4 hd hk []
 refine Stab.g s52 ?_
 have s56 := Stab.v 12 0 hd hk []
 clear hd
 go_simp
 exact Stab.k Z)
 apply Stab.tr 14 _ hf hok
 · (
 intro fr1 w1 hh hd hk K Z
 have s57 := Stab.v 13 0 hd hk []
 refine Stab.g s57 ?_
 have s9 := Stab.O hh s9
 clear hd
 go_simp
 exact Stab.k Z)
 apply Stab.tr 15 _ hf hok
 · (
 intro fr1 w1 hh hd hk K Z
 have s57 := Stab.v 13 1 hd hk []
 refine Stab.g s57 ?_
 have s58 := Stab.v 14 0 hd hk []
 clear hd
 replace z0 := cL hh.ext z0
 replace d0 := cL hh.ext d0
 replace e0 := cL hh.ext e0
 go_simp
 exact Stab.k Z)
 apply Stab.tr 16 _ hf hok
 · (
 intro fr1 w1 hh hd hk K Z
 have s57 := Stab.v 13 2 hd hk []
 refine Stab.g s57 ?_
 have s9 := Stab.O hh s9
 clear hd
 go_simp
 exact Stab.k Z)
 apply Stab.tr 17 _ hf hok
 · (
 intro fr1 w1 hh hd hk K Z
 have s57 := Stab.v 13 3 hd hk []
 refine Stab.g s57 ?_
 have s60 := Stab.v 16 0 hd hk []
 clear hd
 replace z0 := cL hh.ext z0
 replace d0 := cL hh.ext d0
 replace e0 := cL hh.ext e0
 go_simp
 exact Stab.k Z)
 apply Stab.tr 18 _ hf hok
 · (
 intro fr1 w1 hh hd hk K Z
 have s57 := Stab.v 13 4 hd hk []
 refine Stab.g s57 ?_
 have s61 := Stab.v 17 0 hd hk []
 clear hd
 replace z0 := cL hh.ext z0
 replace d0 := cL hh.ext d0
 replace e0 := cL hh.ext e0
 go_simp
 exact Stab.k Z)
 apply Stab.tr 19 _ hf hok
 · (
 intro fr1 w1 hh hd hk K Z
 have s57 := Stab.v 13 5 hd hk []
 refine Stab.g s57 ?_
 have s62 := Stab.v 18 0 hd hk []
 clear hd
 go_simp
 try simp (disch := omega) only [Fact.W]
 rw [HN1.out]
 exact Stab.k Z)
 apply Stab.tr 20 _ hf hok
 · (
 intro fr1 w1 hh hd hk K Z
 have s57 := Stab.v 13 6 hd hk []
 refine Stab.g s57 ?_
 have s59 := Stab.v 15 4 hd hk []
 have s63 := Stab.v 19 0 hd hk []
 clear hd
 go_simp
 try rw [if_pos (by omega)]
 exact Stab.k Z)
 apply Stab.tr 21 _ hf hok
 · (
 intro fr1 w1 hh hd hk K Z
 have s57 := Stab.v 13 7 hd hk []
 refine Stab.g s57 ?_
 have s64 := Stab.v 20 0 hd hk []
 clear hd
 go_simp
 exact Stab.k Z)
 apply Stab.tr 22 _ hf hok
 · (
 intro fr1 w1 hh hd hk K Z
 have s57 := Stab.v 13 8 hd hk []
 refine Stab.g s57 ?_
 have s65 := Stab.v 21 0 hd hk []
 clear hd
 replace z0 := cL hh.ext z0
 replace d0 := cL hh.ext d0
 replace e0 := cL hh.ext e0
 go_simp
 exact Stab.k Z)
 apply Stab.tr 23 _ hf hok
 · (
 intro fr1 w1 hh hd hk K Z
 have s57 := Stab.v 13 9 hd hk []
 refine Stab.g s57 ?_
 have s1 := Stab.O hh s1
 clear hd
 go_simp
 exact Stab.k Z)
 apply Stab.tr 24 _ hf hok
 · (
 intro fr1 w1 hh hd hk K Z
 have s57 := Stab.v 13 10 hd hk []
 refine Stab.g s57 ?_
 have s11 := Stab.O hh s11
 clear hd
 go_simp
 exact Stab.k Z)
 apply Stab.tr 25 _ hf hok
 · (
 intro fr1 w1 hh hd hk K Z
 have s57 := Stab.v 13 11 hd hk []
 refine Stab.g s57 ?_
 have s67 := Stab.v 23 1 hd hk []
 have s68 := Stab.v 24 0 hd hk []
 clear hd
 go_simp
 try rw [if_pos (by omega)]
 exact Stab.k Z)
 apply Stab.tr 26 _ hf hok
 · (
 intro fr1 w1 hh hd hk K Z
 have s57 := Stab.v 13 12 hd hk []
 refine Stab.g s57 ?_
 have s69 := Stab.v 25 0 hd hk []
 clear hd
 go_simp
 exact Stab.k Z)
 apply Stab.tr 27 _ hf hok
 · (
 intro fr1 w1 hh hd hk K Z
 have s57 := Stab.v 13 13 hd hk []
 refine Stab.g s57 ?_
 have s70 := Stab.v 26 0 hd hk []
 clear hd
 replace z0 := cL hh.ext z0
 replace d0 := cL hh.ext d0
 replace e0 := cL hh.ext e0
 go_simp
 exact Stab.k Z)
 apply Stab.tr 28 _ hf hok
 · (
 intro fr1 w1 hh hd hk K Z
 have s57 := Stab.v 13 14 hd hk []
 refine Stab.g s57 ?_
 have s2 := Stab.O hh s2
 clear hd
 go_simp
 exact Stab.k Z)
 apply Stab.tr 29 _ hf hok
 · (
 intro fr1 w1 hh hd hk K Z
 have s57 := Stab.v 13 15 hd hk []
 refine Stab.g s57 ?_
 have s71 := Stab.v 27 1 hd hk []
 have s72 := Stab.v 28 0 hd hk []
 clear hd
 replace z0 := cL hh.ext z0
 replace d0 := cL hh.ext d0
 replace e0 := cL hh.ext e0
 go_simp
 exact Stab.k Z)
 apply Stab.tr 30 _ hf hok
 · (
 intro fr1 w1 hh hd hk K Z
 have s57 := Stab.v 13 16 hd hk []
 refine Stab.g s57 ?_
 have s66 := Stab.v 22 7 hd hk []
 have s73 := Stab.v 29 0 hd hk []
 clear hd
 go_simp
 exact Stab.k Z)
 apply Stab.tr 31 _ hf hok
 · (
 intro fr1 w1 hh hd hk K Z
 have s52 := Stab.v 8 22 hd hk []
 refine Stab.g s52 ?_
 have s57 := Stab.v 13 17 hd hk []
 have s74 := Stab.v 30 0 hd hk []
 clear hd
 go_simp
 exact Stab.k Z)
 apply Stab.tq 32 _ hf hok
 · (
 intro fr1 w1 hh hd hk K Z
 have s52 := Stab.v 8 23 hd hk []
 have s75 := Stab.v 31 0 hd hk []
 clear hd
 go_simp
 exact Stab.k Z)
 refine Stab.tf hf hok fun fr1 w1 hh hg => ?_
 replace s0 := Stab.O hh s0
 replace s1 := Stab.O hh s1
 replace s2 := Stab.O hh s2
 replace s3 := Stab.O hh s3
 replace s9 := Stab.O hh s9
 replace s11 := Stab.O hh s11
 have s76 := Stab.f 32 0 hg
 have hf1 := hh.fr hf
 have hx := hh.ext
 replace z0 := cL hx z0
 replace d0 := cL hx d0
 replace e0 := cL hx e0
 clear hg hh hf hok s41
 have hf := hf1; clear hf1
 refine nx (hK17 _ _ ?_)
 refine Fact.cond_t s76 ?_
 have hlp := hlp0.later hx
 have hbtz := hbt.trans (But.of _ hx)
 rw [← HNX.out] at hlp
 refine wp_exit ?_
 refine Fact.then_exit ?_
 refine Fact.block_exit ?_
 refine nx (hK14 _ _ ?_)
 refine rg ?_
 have b42 := hf.b 42
 have b43 := hf.b 43
 refine fp fun K Z => ?_
 go_simp
 apply Z.out; clear Z K
 refine fp fun K Z => ?_
 go_simp
 try simp (disch := omega) only [Fact.W]
 apply Z.out; clear Z K
 refine fp fun K Z => ?_
 go_simp
 apply Z.out; clear Z K
 refine Fact.z hf fun fr1 hf1 hT => ?_
 have hKp : _ ∧ _ ∧ _ ∧ _ ∧ _ ∧ _ := ⟨hT 0, hT 1, hT 2, hT 3, hT 9, hT 11⟩
 simp (decide := true) only [Fact.G, hf.size, reduceIte, s0, s1, s2, s3, s9] at hKp
 replace hf := hf1; clear hT hf1 s0 s1 s2 s3 s9 s11 s76 b42 b43
 obtain ⟨s0, s1, s2, s3, s9, s11⟩ := hKp
 refine Fact.then_normal ?_
 exact ⟨_, by have := HK.out; omega, i + 1, rfl, by omega, hf, s0, s1, s2, s3, s9, by rw [s11]; rfl, hbtz, hlp⟩)
 · (
 have q3 : (((la.byte : Nat) : Int) == ((at_ e.word d : Nat) : Int)) = false := by simp; omega
 have hnl : (sx, al).2.getLast?.map Arc.byte ≠ some (at_ e.word d) := by rw [HLB.out]; simp; exact hsame
 have HNL := Lib.hid hnl; have HSM := Lib.hid hsame; clear hnl hsame
 refine Fact.sq fun K18 hK18 => ?_
 refine Stab.tb 143 fun hok => ?_
 refine Stab.mO 0 s1 hf hok ?_
 refine Stab.mO 1 s11 hf hok ?_
 apply Stab.tq 2 _ hf hok
 · (
 intro fr1 w1 hh hd hk K Z
 have s44 := Stab.v 0 1 hd hk []
 have s45 := Stab.v 1 0 hd hk []
 clear hd
 go_simp
 try rw [if_pos (by omega)]
 exact Stab.k Z)
 apply Stab.tq 3 _ hf hok
 · (
 intro fr1 w1 hh hd hk K Z
 have s46 := Stab.v 2 0 hd hk []
 clear hd
 go_simp
 exact Stab.k Z)
 apply Stab.tq 4 _ hf hok
 · (
 intro fr1 w1 hh hd hk K Z
 have s47 := Stab.v 3 0 hd hk []
 clear hd
 replace z0 := cL hh.ext z0
 replace d0 := cL hh.ext d0
 replace e0 := cL hh.ext e0
 go_simp
 exact Stab.k Z)
 apply Stab.tq 5 _ hf hok
 · (
 intro fr1 w1 hh hd hk K Z
 have s48 := Stab.v 4 0 hd hk []
 clear hd
 replace z0 := cL hh.ext z0
 replace d0 := cL hh.ext d0
 replace e0 := cL hh.ext e0
 go_simp
 exact Stab.k Z)
 refine Stab.mO 6 s2 hf hok ?_
 apply Stab.tq 7 _ hf hok
 · (
 intro fr1 w1 hh hd hk K Z
 have s49 := Stab.v 5 1 hd hk []
 have s50 := Stab.v 6 0 hd hk []
 clear hd
 go_simp
 exact Stab.k Z)
 refine Stab.mN 8 7 0 hf hok [] ?_
 apply Stab.tr 9 _ hf hok
 · (
 intro fr1 w1 hh hd hk K Z
 have s52 := Stab.v 8 0 hd hk []
 refine Stab.g s52 ?_
 have s9 := Stab.O hh s9
 clear hd
 go_simp
 exact Stab.k Z)
 apply Stab.tr 10 _ hf hok
 · (
 intro fr1 w1 hh hd hk K Z
 have s52 := Stab.v 8 1 hd hk []
 refine Stab.g s52 ?_
 have s53 := Stab.v 9 0 hd hk []
 clear hd
 replace z0 := cL hh.ext z0
 replace d0 := cL hh.ext d0
 replace e0 := cL hh.ext e0
 go_simp
 exact Stab.k Z)
 apply Stab.tr 11 _ hf hok
 · (
 intro fr1 w1 hh hd hk K Z
 have s52 := Stab.v 8 2 hd hk []
 refine Stab.g s52 ?_
 have s54 := Stab.v 10 0 hd hk []
 clear hd
 replace z0 := cL hh.ext z0
 replace d0 := cL hh.ext d0
 replace e0 := cL hh.ext e0
 go_simp
 exact Stab.k Z)
 apply Stab.tr 12 _ hf hok
 · (
 intro fr1 w1 hh hd hk K Z
 have s52 := Stab.v 8 3 hd hk []
 refine Stab.g s52 ?_
 have s55 := Stab.v 11 0 hd hk []
 clear hd
 go_simp
 exact Stab.k Z)
 apply Stab.tr 13 _ hf hok
 · (
 intro fr1 w1 hh hd hk K Z
 have s52 := Stab.v 8 4 hd hk []
 refine Stab.g s52 ?_
 have s56 := Stab.v 12 0 hd hk []
 clear hd
 go_simp
 exact Stab.k Z)
 apply Stab.tr 14 _ hf hok
 · (
 intro fr1 w1 hh hd hk K Z
 have s57 := Stab.v 13 0 hd hk []
 refine Stab.g s57 ?_
 have s9 := Stab.O hh s9
 clear hd
 go_simp
 exact Stab.k Z)
 apply Stab.tr 15 _ hf hok
 · (
 intro fr1 w1 hh hd hk K Z
 have s57 := Stab.v 13 1 hd hk []
 refine Stab.g s57 ?_
 have s58 := Stab.v 14 0 hd hk []
 clear hd
 replace z0 := cL hh.ext z0
 replace d0 := cL hh.ext d0
 replace e0 := cL hh.ext e0
 go_simp
 exact Stab.k Z)
 apply Stab.tr 16 _ hf hok
 · (
 intro fr1 w1 hh hd hk K Z
 have s57 := Stab.v 13 2 hd hk []
 refine Stab.g s57 ?_
 have s9 := Stab.O hh s9
 clear hd
 go_simp
 exact Stab.k Z)
 apply Stab.tr 17 _ hf hok
 · (
 intro fr1 w1 hh hd hk K Z
 have s57 := Stab.v 13 3 hd hk []
 refine Stab.g s57 ?_
 have s60 := Stab.v 16 0 hd hk []
 clear hd
 replace z0 := cL hh.ext z0
 replace d0 := cL hh.ext d0
 replace e0 := cL hh.ext e0
 go_simp
 exact Stab.k Z)
 apply Stab.tr 18 _ hf hok
 · (
 intro fr1 w1 hh hd hk K Z
 have s57 := Stab.v 13 4 hd hk []
 refine Stab.g s57 ?_
 have s61 := Stab.v 17 0 hd hk []
 clear hd
 replace z0 := cL hh.ext z0
 replace d0 := cL hh.ext d0
 replace e0 := cL hh.ext e0
 go_simp
 exact Stab.k Z)
 apply Stab.tr 19 _ hf hok
 · (
 intro fr1 w1 hh hd hk K Z
 have s57 := Stab.v 13 5 hd hk []
 refine Stab.g s57 ?_
 have s62 := Stab.v 18 0 hd hk []
 clear hd
 go_simp
 try simp (disch := omega) only [Fact.W]
 rw [HN1.out]
 exact Stab.k Z)
 apply Stab.tr 20 _ hf hok
 · (
 intro fr1 w1 hh hd hk K Z
 have s57 := Stab.v 13 6 hd hk []
 refine Stab.g s57 ?_
 have s59 := Stab.v 15 4 hd hk []
 have s63 := Stab.v 19 0 hd hk []
 clear hd
 go_simp
 try rw [if_pos (by omega)]
 exact Stab.k Z)
 apply Stab.tr 21 _ hf hok
 · (
 intro fr1 w1 hh hd hk K Z
 have s57 := Stab.v 13 7 hd hk []
 refine Stab.g s57 ?_
 have s64 := Stab.v 20 0 hd hk []
 clear hd
 go_simp
 exact Stab.k Z)
 apply Stab.tr 22 _ hf hok
 · (
 intro fr1 w1 hh hd hk K Z
 have s57 := Stab.v 13 8 hd hk []
 refine Stab.g s57 ?_
 have s65 := Stab.v 21 0 hd hk []
 clear hd
 replace z0 := cL hh.ext z0
 replace d0 := cL hh.ext d0
 replace e0 := cL hh.ext e0
 go_simp
 exact Stab.k Z)
 apply Stab.tr 23 _ hf hok
 · (
 intro fr1 w1 hh hd hk K Z
 have s57 := Stab.v 13 9 hd hk []
 refine Stab.g s57 ?_
 have s1 := Stab.O hh s1
 clear hd
 go_simp
 exact Stab.k Z)
 apply Stab.tr 24 _ hf hok
 · (
 intro fr1 w1 hh hd hk K Z
 have s57 := Stab.v 13 10 hd hk []
 refine Stab.g s57 ?_
 have s11 := Stab.O hh s11
 clear hd
 go_simp
 exact Stab.k Z)
 apply Stab.tr 25 _ hf hok
 · (
 intro fr1 w1 hh hd hk K Z
 have s57 := Stab.v 13 11 hd hk []
 refine Stab.g s57 ?_
 have s67 := Stab.v 23 1 hd hk []
 have s68 := Stab.v 24 0 hd hk []
 clear hd
 go_simp
 try rw [if_pos (by omega)]
 exact Stab.k Z)
 apply Stab.tr 26 _ hf hok
 · (
 intro fr1 w1 hh hd hk K Z
 have s57 := Stab.v 13 12 hd hk []
 refine Stab.g s57 ?_
 have s69 := Stab.v 25 0 hd hk []
 clear hd
 go_simp
 exact Stab.k Z)
 apply Stab.tr 27 _ hf hok
 · (
 intro fr1 w1 hh hd hk K Z
 have s57 := Stab.v 13 13 hd hk []
 refine Stab.g s57 ?_
 have s70 := Stab.v 26 0 hd hk []
 clear hd
 replace z0 := cL hh.ext z0
 replace d0 := cL hh.ext d0
 replace e0 := cL hh.ext e0
 go_simp
 exact Stab.k Z)
 apply Stab.tr 28 _ hf hok
 · (
 intro fr1 w1 hh hd hk K Z
 have s57 := Stab.v 13 14 hd hk []
 refine Stab.g s57 ?_
 have s2 := Stab.O hh s2
 clear hd
 go_simp
 exact Stab.k Z)
 apply Stab.tr 29 _ hf hok
 · (
 intro fr1 w1 hh hd hk K Z
 have s57 := Stab.v 13 15 hd hk []
 refine Stab.g s57 ?_
 have s71 := Stab.v 27 1 hd hk []
 have s72 := Stab.v 28 0 hd hk []
 clear hd
 replace z0 := cL hh.ext z0
 replace d0 := cL hh.ext d0
 replace e0 := cL hh.ext e0
 go_simp
 exact Stab.k Z)
 apply Stab.tr 30 _ hf hok
 · (
 intro fr1 w1 hh hd hk K Z
 have s57 := Stab.v 13 16 hd hk []
 refine Stab.g s57 ?_
 have s66 := Stab.v 22 7 hd hk []
 have s73 := Stab.v 29 0 hd hk []
 clear hd
 go_simp
 exact Stab.k Z)
 apply Stab.tr 31 _ hf hok
 · (
 intro fr1 w1 hh hd hk K Z
 have s52 := Stab.v 8 22 hd hk []
 refine Stab.g s52 ?_
 have s57 := Stab.v 13 17 hd hk []
 have s74 := Stab.v 30 0 hd hk []
 clear hd
 go_simp
 exact Stab.k Z)
 apply Stab.tq 32 _ hf hok
 · (
 intro fr1 w1 hh hd hk K Z
 have s52 := Stab.v 8 23 hd hk []
 have s75 := Stab.v 31 0 hd hk []
 clear hd
 go_simp
 exact Stab.k Z)
 refine Stab.tf hf hok fun fr1 w1 hh hg => ?_
 replace s0 := Stab.O hh s0
 replace s1 := Stab.O hh s1
 replace s2 := Stab.O hh s2
 replace s3 := Stab.O hh s3
 replace s9 := Stab.O hh s9
 replace s11 := Stab.O hh s11
 have s76 := Stab.f 32 0 hg
 have hf1 := hh.fr hf
 have hx := hh.ext
 replace z0 := cL hx z0
 replace d0 := cL hx d0
 replace e0 := cL hx e0
 clear hg hh hf hok s41
 have hf := hf1; clear hf1
 refine nx (hK18 _ _ ?_)
 refine Fact.cond_f s76 ?_
 refine wp_skip ?_
 refine Fact.then_normal ?_
 exact ⟨hf, s0, s1, s2, s3, s9, s11, hx, hds, HNL.out⟩))))
 · (
 clear hf s0 s1 s2 s3 s9 s11 s41
 rintro fr w1 ⟨hf, s0, s1, s2, s3, s9, s11, hx, hds, hnl⟩
 have HNL := Lib.hid hnl; clear hnl
 have hwb : (wvE e).1[d]? = some (at_ e.word d) := wl_at hds
 have HWB := Lib.hid hwb; clear hwb
 replace z0 := cL hx z0; replace d0 := cL hx d0
 obtain ⟨Wn, rfl⟩ : ∃ x, x = w1 := ⟨_, rfl⟩
 have hbtn := hbt.trans (But.of _ hx)
 have hrn := hrw.later hx
 have hbxn := (hx.block _ (heap_lt hbx)).trans hbx
 have HMN := Lib.hid (HM1.out.later hx)
 have hoan := own_later HOA.out hx
 have HOAN := Lib.hid hoan; clear hoan
 have hszn : w.heap.size < Wn.heap.size := heap_lt hbxn
 clear hbt hrw hbx HM1 HOA hlp0 hra hx hi
 refine Fact.sq fun K19 hK19 => ?_
 refine rg ?_
 refine fp fun K Z => ?_
 go_simp
 apply Z.out; clear Z K
 refine Fact.z hf fun fr1 hf1 hT => ?_
 have hKp : _ ∧ _ ∧ _ ∧ _ ∧ _ ∧ _ ∧ _ := ⟨hT 0, hT 1, hT 2, hT 3, hT 9, hT 11, hT 12⟩
 simp (decide := true) only [Fact.G, hf.size, reduceIte, s0, s1, s2, s3, s9, s11] at hKp
 replace hf := hf1; clear hT hf1 s0 s1 s2 s3 s9 s11
 obtain ⟨s0, s1, s2, s3, s9, s11, s12⟩ := hKp
 refine nx (hK19 _ _ ?_)
 refine Fact.sq fun K20 hK20 => ?_
 refine Fact.sq fun K21 hK21 => ?_
 refine rg ?_
 have b77 := hf.b 77
 refine fp fun K Z => ?_
 go_simp
 apply Z.out; clear Z K
 refine fp fun K Z => ?_
 go_simp
 apply Z.out; clear Z K
 refine Fact.z hf fun fr1 hf1 hT => ?_
 have hKp : _ ∧ _ ∧ _ ∧ _ ∧ _ ∧ _ ∧ _ ∧ _ := ⟨hT 0, hT 1, hT 2, hT 3, hT 9, hT 11, hT 12, hT 13⟩
 simp (decide := true) only [Fact.G, hf.size, reduceIte, s0, s1, s2, s3, s9, s11, s12] at hKp
 replace hf := hf1; clear hT hf1 s0 s1 s2 s3 s9 s11 s12 b77
 obtain ⟨s0, s1, s2, s3, s9, s11, s12, s13⟩ := hKp
 refine nx (hK21 _ _ ?_)
 refine wp_block ?_
 refine wp_loop_ghost (fun gk fr wq => ∃ (j : Nat) (V : Value), gk = es.length - j ∧ i ≤ j ∧ j ≤ es.length ∧ Fact.Fr 143 fr ∧ fr.tmps[0]? = some (.pointer (some ⟨g, 0, none⟩)) ∧ fr.tmps[1]? = some (.slice (some ⟨b, off, none⟩) es.length cc) ∧ fr.tmps[2]? = some (.int .i64 d) ∧ fr.tmps[3]? = some (.int .u64 le) ∧ fr.tmps[9]? = some (.pointer (some ⟨w.heap.size, 0, none⟩)) ∧ fr.tmps[11]? = some (.int .i64 i) ∧ fr.tmps[12]? = some V ∧ fr.tmps[13]? = some (.int .i64 j) ∧ OE wq Wn.heap.size V (ownE es i d (at_ e.word d) j) ∧ Below Wn.heap.size Wn wq) (es.length - i) ?_ ?_
 · (
 exact ⟨i, _, rfl, Nat.le_refl _, Nat.le_of_lt hlt, hf, s0, s1, s2, s3, s9, s11, s12, s13, by rw [ownE_start]; exact OE.nil_ _ _, Below.refl _ _⟩)
 · (
 clear hf s0 s1 s2 s3 s9 s11 s12 s13
 rintro gk fr wq ⟨j, V, hk, hij, hj, hf, s0, s1, s2, s3, s9, s11, s12, s13, how, hb⟩
 have HKJ := Lib.hid hk; clear hk
 have hrq := (hrn.more (Nat.le_of_lt hszn)).below hb
 replace z0 := cL hb z0; replace d0 := cL hb d0
 refine Fact.sq fun K22 hK22 => ?_
 refine Fact.sq fun K23 hK23 => ?_
 refine rg ?_
 have b78 := hf.b 78
 have b79 := hf.b 79
 have b80 := hf.b 80
 refine fp fun K Z => ?_
 go_simp
 apply Z.out; clear Z K
 refine fp fun K Z => ?_
 go_simp
 apply Z.out; clear Z K
 refine fp fun K Z => ?_
 go_simp
 apply Z.out; clear Z K
 refine fp fun K Z => ?_
 go_simp
 apply Z.out; clear Z K
 refine Fact.z hf fun fr1 hf1 hT => ?_
 have hKp : _ ∧ _ ∧ _ ∧ _ ∧ _ ∧ _ ∧ _ ∧ _ ∧ _ := ⟨hT 0, hT 1, hT 2, hT 3, hT 9, hT 11, hT 12, hT 13, hT 81⟩
 simp (decide := true) only [Fact.G, hf.size, reduceIte, s0, s1, s2, s3, s9, s11, s12, s13] at hKp
 replace hf := hf1; clear hT hf1 s0 s1 s2 s3 s9 s11 s12 s13 b78 b79 b80
 obtain ⟨s0, s1, s2, s3, s9, s11, s12, s13, s81⟩ := hKp
 refine nx (hK23 _ _ ?_)
 refine Fact.cond_s s81 (fun hq => ?_) (fun hq => ?_)
 · (
 have hltj : j < es.length := by have h9 := of_decide_eq_true hq; omega
 clear hq
 obtain ⟨q, hjq⟩ : ∃ q, es[j]? = some q := ⟨_, List.getElem?_eq_getElem hltj⟩
 obtain ⟨b4, off4, he4, -, -, y0, y1, y2⟩ := hrq.at_ hjq
 injection he4 with he4
 injection he4 with he4 he5 _
 subst he4; subst he5
 have hst := ownE_step d (at_ e.word d) hjq hij
 have hwq := HWD.out q (List.mem_of_getElem? hjq)
 have hat3 : ∀ (i : Nat) (h : i < q.word.size), q.word[i].toNat = at_ q.word i := fun i h => (at_get h).symm
 have hnl := ownE_length es i d (at_ e.word d) j
 obtain ⟨xs, hxs⟩ : ∃ x, ownE es i d (at_ e.word d) j = x := ⟨_, rfl⟩
 rw [hxs] at how hst hnl
 have HXS := Lib.hid hxs; clear hxs hjq
 obtain ⟨Av, cv, rfl, hcv⟩ := OE.form (es := xs) how
 have HOW := Lib.hid how; clear how
 rcases Nat.lt_or_ge d q.word.size with hqs | hqs
 · (
 have q4 : decide (d < q.word.size) = true := decide_eq_true (by omega)
 rw [next_at hqs] at hst
 by_cases hqe : at_ q.word d = at_ e.word d
 · (
 have q5 : (((at_ q.word d : Nat) : Int) == ((at_ e.word d : Nat) : Int)) = true := by simp; omega
 rw [decide_eq_true hqe, if_pos rfl] at hst
 have HST2 := Lib.hid hst; have HQE := Lib.hid hqe; clear hst hqe
 refine wp_skip ?_
 refine nx (hK22 _ _ ?_)
 refine Fact.sq fun K24 hK24 => ?_
 refine wp_block ?_
 refine Fact.sq fun K25 hK25 => ?_
 refine Stab.tb 143 fun hok => ?_
 refine Stab.mO 0 s1 hf hok ?_
 refine Stab.mO 1 s13 hf hok ?_
 apply Stab.tq 2 _ hf hok
 · (
 intro fr1 w1 hh hd hk K Z
 have s84 := Stab.v 0 1 hd hk []
 have s85 := Stab.v 1 0 hd hk []
 clear hd
 go_simp
 try rw [if_pos (by omega)]
 exact Stab.k Z)
 apply Stab.tq 3 _ hf hok
 · (
 intro fr1 w1 hh hd hk K Z
 have s86 := Stab.v 2 0 hd hk []
 clear hd
 go_simp
 exact Stab.k Z)
 apply Stab.tq 4 _ hf hok
 · (
 intro fr1 w1 hh hd hk K Z
 have s87 := Stab.v 3 0 hd hk []
 clear hd
 replace d0 := cL hh.ext d0
 replace y0 := cL hh.ext y0
 replace y1 := cL hh.ext y1
 replace y2 := cL hh.ext y2
 go_simp
 exact Stab.k Z)
 apply Stab.tq 5 _ hf hok
 · (
 intro fr1 w1 hh hd hk K Z
 have s88 := Stab.v 4 0 hd hk []
 clear hd
 replace d0 := cL hh.ext d0
 replace y0 := cL hh.ext y0
 replace y1 := cL hh.ext y1
 replace y2 := cL hh.ext y2
 go_simp
 exact Stab.k Z)
 refine Stab.mO 6 s2 hf hok ?_
 apply Stab.tq 7 _ hf hok
 · (
 intro fr1 w1 hh hd hk K Z
 have s89 := Stab.v 5 1 hd hk []
 have s90 := Stab.v 6 0 hd hk []
 clear hd
 go_simp
 exact Stab.k Z)
 refine Stab.mN 8 7 0 hf hok [] ?_
 apply Stab.tr 9 _ hf hok
 · (
 intro fr1 w1 hh hd hk K Z
 have s92 := Stab.v 8 0 hd hk []
 refine Stab.g s92 ?_
 have s1 := Stab.O hh s1
 clear hd
 go_simp
 exact Stab.k Z)
 apply Stab.tr 10 _ hf hok
 · (
 intro fr1 w1 hh hd hk K Z
 have s92 := Stab.v 8 1 hd hk []
 refine Stab.g s92 ?_
 have s13 := Stab.O hh s13
 clear hd
 go_simp
 exact Stab.k Z)
 apply Stab.tr 11 _ hf hok
 · (
 intro fr1 w1 hh hd hk K Z
 have s92 := Stab.v 8 2 hd hk []
 refine Stab.g s92 ?_
 have s93 := Stab.v 9 1 hd hk []
 have s94 := Stab.v 10 0 hd hk []
 clear hd
 go_simp
 try rw [if_pos (by omega)]
 exact Stab.k Z)
 apply Stab.tr 12 _ hf hok
 · (
 intro fr1 w1 hh hd hk K Z
 have s92 := Stab.v 8 3 hd hk []
 refine Stab.g s92 ?_
 have s95 := Stab.v 11 0 hd hk []
 clear hd
 go_simp
 exact Stab.k Z)
 apply Stab.tr 13 _ hf hok
 · (
 intro fr1 w1 hh hd hk K Z
 have s92 := Stab.v 8 4 hd hk []
 refine Stab.g s92 ?_
 have s96 := Stab.v 12 0 hd hk []
 clear hd
 replace d0 := cL hh.ext d0
 replace y0 := cL hh.ext y0
 replace y1 := cL hh.ext y1
 replace y2 := cL hh.ext y2
 go_simp
 exact Stab.k Z)
 apply Stab.tr 14 _ hf hok
 · (
 intro fr1 w1 hh hd hk K Z
 have s92 := Stab.v 8 5 hd hk []
 refine Stab.g s92 ?_
 have s2 := Stab.O hh s2
 clear hd
 go_simp
 exact Stab.k Z)
 apply Stab.tr 15 _ hf hok
 · (
 intro fr1 w1 hh hd hk K Z
 have s92 := Stab.v 8 6 hd hk []
 refine Stab.g s92 ?_
 have s97 := Stab.v 13 1 hd hk []
 have s98 := Stab.v 14 0 hd hk []
 clear hd
 replace d0 := cL hh.ext d0
 replace y0 := cL hh.ext y0
 replace y1 := cL hh.ext y1
 replace y2 := cL hh.ext y2
 go_simp
 try rw [if_pos (by omega)]
 exact Stab.k Z)
 apply Stab.tr 16 _ hf hok
 · (
 intro fr1 w1 hh hd hk K Z
 have s92 := Stab.v 8 7 hd hk []
 refine Stab.g s92 ?_
 have s1 := Stab.O hh s1
 clear hd
 go_simp
 exact Stab.k Z)
 apply Stab.tr 17 _ hf hok
 · (
 intro fr1 w1 hh hd hk K Z
 have s92 := Stab.v 8 8 hd hk []
 refine Stab.g s92 ?_
 have s11 := Stab.O hh s11
 clear hd
 go_simp
 exact Stab.k Z)
 apply Stab.tr 18 _ hf hok
 · (
 intro fr1 w1 hh hd hk K Z
 have s92 := Stab.v 8 9 hd hk []
 refine Stab.g s92 ?_
 have s100 := Stab.v 16 1 hd hk []
 have s101 := Stab.v 17 0 hd hk []
 clear hd
 go_simp
 try rw [if_pos (by omega)]
 exact Stab.k Z)
 apply Stab.tr 19 _ hf hok
 · (
 intro fr1 w1 hh hd hk K Z
 have s92 := Stab.v 8 10 hd hk []
 refine Stab.g s92 ?_
 have s102 := Stab.v 18 0 hd hk []
 clear hd
 go_simp
 exact Stab.k Z)
 apply Stab.tr 20 _ hf hok
 · (
 intro fr1 w1 hh hd hk K Z
 have s92 := Stab.v 8 11 hd hk []
 refine Stab.g s92 ?_
 have s103 := Stab.v 19 0 hd hk []
 clear hd
 replace d0 := cL hh.ext d0
 replace y0 := cL hh.ext y0
 replace y1 := cL hh.ext y1
 replace y2 := cL hh.ext y2
 go_simp
 exact Stab.k Z)
 apply Stab.tr 21 _ hf hok
 · (
 intro fr1 w1 hh hd hk K Z
 have s92 := Stab.v 8 12 hd hk []
 refine Stab.g s92 ?_
 have s2 := Stab.O hh s2
 clear hd
 go_simp
 exact Stab.k Z)
 apply Stab.tr 22 _ hf hok
 · (
 intro fr1 w1 hh hd hk K Z
 have s92 := Stab.v 8 13 hd hk []
 refine Stab.g s92 ?_
 have s104 := Stab.v 20 1 hd hk []
 have s105 := Stab.v 21 0 hd hk []
 clear hd
 replace d0 := cL hh.ext d0
 replace y0 := cL hh.ext y0
 replace y1 := cL hh.ext y1
 replace y2 := cL hh.ext y2
 go_simp
 try rw [if_pos (by omega)]
 exact Stab.k Z)
 apply Stab.tr 23 _ hf hok
 · (
 intro fr1 w1 hh hd hk K Z
 have s92 := Stab.v 8 14 hd hk []
 refine Stab.g s92 ?_
 have s99 := Stab.v 15 7 hd hk []
 have s106 := Stab.v 22 0 hd hk []
 clear hd
 go_simp
 exact Stab.k Z)
 apply Stab.tq 24 _ hf hok
 · (
 intro fr1 w1 hh hd hk K Z
 have s92 := Stab.v 8 15 hd hk []
 have s107 := Stab.v 23 0 hd hk []
 clear hd
 go_simp
 exact Stab.k Z)
 refine Stab.tf hf hok fun fr1 w1 hh hg => ?_
 replace s0 := Stab.O hh s0
 replace s1 := Stab.O hh s1
 replace s2 := Stab.O hh s2
 replace s3 := Stab.O hh s3
 replace s9 := Stab.O hh s9
 replace s11 := Stab.O hh s11
 replace s12 := Stab.O hh s12
 replace s13 := Stab.O hh s13
 have s108 := Stab.f 24 0 hg
 have hf1 := hh.fr hf
 have hx := hh.ext
 replace d0 := cL hx d0
 replace y0 := cL hx y0
 replace y1 := cL hx y1
 replace y2 := cL hx y2
 clear hg hh hf hok s81
 have hf := hf1; clear hf1
 refine nx (hK25 _ _ ?_)
 refine Fact.cond_t s108 ?_
 have how2 := own_later HOW.out hx
 have hb2 := hb.trans (hx.mono hb.size)
 refine rg ?_
 have b109 := hf.b 109
 have b110 := hf.b 110
 have b111 := hf.b 111
 have b112 := hf.b 112
 have b113 := hf.b 113
 have b114 := hf.b 114
 have b115 := hf.b 115
 refine fp fun K Z => ?_
 go_simp
 apply Z.out; clear Z K
 refine fp fun K Z => ?_
 go_simp
 apply Z.out; clear Z K
 refine fp fun K Z => ?_
 go_simp
 apply Z.out; clear Z K
 refine fp fun K Z => ?_
 go_simp
 try rw [if_pos (by omega)]
 apply Z.out; clear Z K
 refine fp fun K Z => ?_
 go_simp
 apply Z.out; clear Z K
 refine fp fun K Z => ?_
 go_simp
 apply Z.out; clear Z K
 refine Fact.reL (n := 143) (by simp only [Fact.G, hf.size]) hf.defers (fun fr1 hf1 hT => ?_)
 have hKp : _ ∧ _ ∧ _ ∧ _ ∧ _ ∧ _ ∧ _ ∧ _ ∧ _ ∧ _ := ⟨hT 0, hT 1, hT 2, hT 3, hT 9, hT 11, hT 12, hT 13, hT 109, hT 114⟩
 simp (decide := true) only [Fact.G, hf.size, reduceIte, s0, s1, s2, s3, s9, s11, s12, s13] at hKp
 replace hf := hf1; clear hT hf1 s0 s1 s2 s3 s9 s11 s12 s13 s108 b109 b110 b111 b112 b113 b114 b115
 obtain ⟨s0, s1, s2, s3, s9, s11, s12, s13, s109, s114⟩ := hKp
 have b115 := hf.b 115
 refine ⟨?_⟩
 refine wpList_plain rfl fun K5 hK5 => ?_
 refine wp_app _ _ 28 rfl 42 _ 3 24 Tryd.underlying28 info_ent rfl (by decide) (by decide) Wn.heap.size (.slice Av xs.length cv) xs.length _ (Fact.eval_tmp s109) (how2.alloc _) w1.heap.size q.cells (Fact.eval_tmp s114) rfl (lit_new w1 _ _) (ent_one q) (by omega) (by have := hb2.size; simp; omega) (fun v5 w5 hr5 hg5 hat5 => hK5 _ _ ?_)
 refine Fact.L.out ?_
 refine fp fun K Z => ?_
 go_simp
 apply Z.out; clear Z K
 refine Fact.z hf fun fr1 hf1 hT => ?_
 have hKp : _ ∧ _ ∧ _ ∧ _ ∧ _ ∧ _ ∧ _ ∧ _ := ⟨hT 0, hT 1, hT 2, hT 3, hT 9, hT 11, hT 12, hT 13⟩
 simp (decide := true) only [Fact.G, hf.size, reduceIte, s0, s1, s2, s3, s9, s11, s13] at hKp
 replace hf := hf1; clear hT hf1 s0 s1 s2 s3 s9 s11 s12 s13 s109 s114 b115
 obtain ⟨s0, s1, s2, s3, s9, s11, s12, s13⟩ := hKp
 replace hb2 := (hb2.alloc hb2.size _).grown hg5 (by have := hb2.size; simp; omega) (fun kk hkk => (how2.lt kk hkk).1)
 have hnew : OE w5 Wn.heap.size v5 (ownE es i d (at_ e.word d) (j + 1)) := by rw [HST2.out]; unfold OE; rw [ecs_append, List.length_append]; exact hr5
 obtain ⟨V2, hV2⟩ : ∃ x, v5 = x := ⟨_, rfl⟩
 rw [hV2] at s12 hnew
 refine Fact.block_normal ?_
 refine nx (hK24 _ _ ?_)
 refine rg ?_
 have b82 := hf.b 82
 have b83 := hf.b 83
 refine fp fun K Z => ?_
 go_simp
 apply Z.out; clear Z K
 refine fp fun K Z => ?_
 go_simp
 try simp (disch := omega) only [Fact.W]
 apply Z.out; clear Z K
 refine fp fun K Z => ?_
 go_simp
 apply Z.out; clear Z K
 refine Fact.z hf fun fr1 hf1 hT => ?_
 have hKp : _ ∧ _ ∧ _ ∧ _ ∧ _ ∧ _ ∧ _ ∧ _ := ⟨hT 0, hT 1, hT 2, hT 3, hT 9, hT 11, hT 12, hT 13⟩
 simp (decide := true) only [Fact.G, hf.size, reduceIte, s0, s1, s2, s3, s9, s11, s12] at hKp
 replace hf := hf1; clear hT hf1 s0 s1 s2 s3 s9 s11 s12 s13 b82 b83
 obtain ⟨s0, s1, s2, s3, s9, s11, s12, s13⟩ := hKp
 refine Fact.then_normal ?_
 exact ⟨_, by have := HKJ.out; omega, j + 1, V2, rfl, by omega, by omega, hf, s0, s1, s2, s3, s9, s11, s12, by rw [s13]; rfl, hnew, hb2⟩)
 · (
 have q5 : (((at_ q.word d : Nat) : Int) == ((at_ e.word d : Nat) : Int)) = false := by simp; omega
 rw [decide_eq_false hqe, if_neg (by simp), List.append_nil] at hst
 have HST2 := Lib.hid hst; have HQE := Lib.hid hqe; clear hst hqe
 refine wp_skip ?_
 refine nx (hK22 _ _ ?_)
 refine Fact.sq fun K26 hK26 => ?_
 refine wp_block ?_
 refine Fact.sq fun K27 hK27 => ?_
 refine Stab.tb 143 fun hok => ?_
 refine Stab.mO 0 s1 hf hok ?_
 refine Stab.mO 1 s13 hf hok ?_
 apply Stab.tq 2 _ hf hok
 · (
 intro fr1 w1 hh hd hk K Z
 have s84 := Stab.v 0 1 hd hk []
 have s85 := Stab.v 1 0 hd hk []
 clear hd
 go_simp
 try rw [if_pos (by omega)]
 exact Stab.k Z)
 apply Stab.tq 3 _ hf hok
 · (
 intro fr1 w1 hh hd hk K Z
 have s86 := Stab.v 2 0 hd hk []
 clear hd
 go_simp
 exact Stab.k Z)
 apply Stab.tq 4 _ hf hok
 · (
 intro fr1 w1 hh hd hk K Z
 have s87 := Stab.v 3 0 hd hk []
 clear hd
 replace d0 := cL hh.ext d0
 replace y0 := cL hh.ext y0
 replace y1 := cL hh.ext y1
 replace y2 := cL hh.ext y2
 go_simp
 exact Stab.k Z)
 apply Stab.tq 5 _ hf hok
 · (
 intro fr1 w1 hh hd hk K Z
 have s88 := Stab.v 4 0 hd hk []
 clear hd
 replace d0 := cL hh.ext d0
 replace y0 := cL hh.ext y0
 replace y1 := cL hh.ext y1
 replace y2 := cL hh.ext y2
 go_simp
 exact Stab.k Z)
 refine Stab.mO 6 s2 hf hok ?_
 apply Stab.tq 7 _ hf hok
 · (
 intro fr1 w1 hh hd hk K Z
 have s89 := Stab.v 5 1 hd hk []
 have s90 := Stab.v 6 0 hd hk []
 clear hd
 go_simp
 exact Stab.k Z)
 refine Stab.mN 8 7 0 hf hok [] ?_
 apply Stab.tr 9 _ hf hok
 · (
 intro fr1 w1 hh hd hk K Z
 have s92 := Stab.v 8 0 hd hk []
 refine Stab.g s92 ?_
 have s1 := Stab.O hh s1
 clear hd
 go_simp
 exact Stab.k Z)
 apply Stab.tr 10 _ hf hok
 · (
 intro fr1 w1 hh hd hk K Z
 have s92 := Stab.v 8 1 hd hk []
 refine Stab.g s92 ?_
 have s13 := Stab.O hh s13
 clear hd
 go_simp
 exact Stab.k Z)
 apply Stab.tr 11 _ hf hok
 · (
 intro fr1 w1 hh hd hk K Z
 have s92 := Stab.v 8 2 hd hk []
 refine Stab.g s92 ?_
 have s93 := Stab.v 9 1 hd hk []
 have s94 := Stab.v 10 0 hd hk []
 clear hd
 go_simp
 try rw [if_pos (by omega)]
 exact Stab.k Z)
 apply Stab.tr 12 _ hf hok
 · (
 intro fr1 w1 hh hd hk K Z
 have s92 := Stab.v 8 3 hd hk []
 refine Stab.g s92 ?_
 have s95 := Stab.v 11 0 hd hk []
 clear hd
 go_simp
 exact Stab.k Z)
 apply Stab.tr 13 _ hf hok
 · (
 intro fr1 w1 hh hd hk K Z
 have s92 := Stab.v 8 4 hd hk []
 refine Stab.g s92 ?_
 have s96 := Stab.v 12 0 hd hk []
 clear hd
 replace d0 := cL hh.ext d0
 replace y0 := cL hh.ext y0
 replace y1 := cL hh.ext y1
 replace y2 := cL hh.ext y2
 go_simp
 exact Stab.k Z)
 apply Stab.tr 14 _ hf hok
 · (
 intro fr1 w1 hh hd hk K Z
 have s92 := Stab.v 8 5 hd hk []
 refine Stab.g s92 ?_
 have s2 := Stab.O hh s2
 clear hd
 go_simp
 exact Stab.k Z)
 apply Stab.tr 15 _ hf hok
 · (
 intro fr1 w1 hh hd hk K Z
 have s92 := Stab.v 8 6 hd hk []
 refine Stab.g s92 ?_
 have s97 := Stab.v 13 1 hd hk []
 have s98 := Stab.v 14 0 hd hk []
 clear hd
 replace d0 := cL hh.ext d0
 replace y0 := cL hh.ext y0
 replace y1 := cL hh.ext y1
 replace y2 := cL hh.ext y2
 go_simp
 try rw [if_pos (by omega)]
 exact Stab.k Z)
 apply Stab.tr 16 _ hf hok
 · (
 intro fr1 w1 hh hd hk K Z
 have s92 := Stab.v 8 7 hd hk []
 refine Stab.g s92 ?_
 have s1 := Stab.O hh s1
 clear hd
 go_simp
 exact Stab.k Z)
 apply Stab.tr 17 _ hf hok
 · (
 intro fr1 w1 hh hd hk K Z
 have s92 := Stab.v 8 8 hd hk []
 refine Stab.g s92 ?_
 have s11 := Stab.O hh s11
 clear hd
 go_simp
 exact Stab.k Z)
 apply Stab.tr 18 _ hf hok
 · (
 intro fr1 w1 hh hd hk K Z
 have s92 := Stab.v 8 9 hd hk []
 refine Stab.g s92 ?_
 have s100 := Stab.v 16 1 hd hk []
 have s101 := Stab.v 17 0 hd hk []
 clear hd
 go_simp
 try rw [if_pos (by omega)]
 exact Stab.k Z)
 apply Stab.tr 19 _ hf hok
 · (
 intro fr1 w1 hh hd hk K Z
 have s92 := Stab.v 8 10 hd hk []
 refine Stab.g s92 ?_
 have s102 := Stab.v 18 0 hd hk []
 clear hd
 go_simp
 exact Stab.k Z)
 apply Stab.tr 20 _ hf hok
 · (
 intro fr1 w1 hh hd hk K Z
 have s92 := Stab.v 8 11 hd hk []
 refine Stab.g s92 ?_
 have s103 := Stab.v 19 0 hd hk []
 clear hd
 replace d0 := cL hh.ext d0
 replace y0 := cL hh.ext y0
 replace y1 := cL hh.ext y1
 replace y2 := cL hh.ext y2
 go_simp
 exact Stab.k Z)
 apply Stab.tr 21 _ hf hok
 · (
 intro fr1 w1 hh hd hk K Z
 have s92 := Stab.v 8 12 hd hk []
 refine Stab.g s92 ?_
 have s2 := Stab.O hh s2
 clear hd
 go_simp
 exact Stab.k Z)
 apply Stab.tr 22 _ hf hok
 · (
 intro fr1 w1 hh hd hk K Z
 have s92 := Stab.v 8 13 hd hk []
 refine Stab.g s92 ?_
 have s104 := Stab.v 20 1 hd hk []
 have s105 := Stab.v 21 0 hd hk []
 clear hd
 replace d0 := cL hh.ext d0
 replace y0 := cL hh.ext y0
 replace y1 := cL hh.ext y1
 replace y2 := cL hh.ext y2
 go_simp
 try rw [if_pos (by omega)]
 exact Stab.k Z)
 apply Stab.tr 23 _ hf hok
 · (
 intro fr1 w1 hh hd hk K Z
 have s92 := Stab.v 8 14 hd hk []
 refine Stab.g s92 ?_
 have s99 := Stab.v 15 7 hd hk []
 have s106 := Stab.v 22 0 hd hk []
 clear hd
 go_simp
 exact Stab.k Z)
 apply Stab.tq 24 _ hf hok
 · (
 intro fr1 w1 hh hd hk K Z
 have s92 := Stab.v 8 15 hd hk []
 have s107 := Stab.v 23 0 hd hk []
 clear hd
 go_simp
 exact Stab.k Z)
 refine Stab.tf hf hok fun fr1 w1 hh hg => ?_
 replace s0 := Stab.O hh s0
 replace s1 := Stab.O hh s1
 replace s2 := Stab.O hh s2
 replace s3 := Stab.O hh s3
 replace s9 := Stab.O hh s9
 replace s11 := Stab.O hh s11
 replace s12 := Stab.O hh s12
 replace s13 := Stab.O hh s13
 have s108 := Stab.f 24 0 hg
 have hf1 := hh.fr hf
 have hx := hh.ext
 replace d0 := cL hx d0
 replace y0 := cL hx y0
 replace y1 := cL hx y1
 replace y2 := cL hx y2
 clear hg hh hf hok s81
 have hf := hf1; clear hf1
 refine nx (hK27 _ _ ?_)
 refine Fact.cond_f s108 ?_
 have how2 := own_later HOW.out hx
 have hb2 := hb.trans (hx.mono hb.size)
 have hnew : OE w1 Wn.heap.size (.slice Av xs.length cv) (ownE es i d (at_ e.word d) (j + 1)) := by rw [HST2.out]; exact how2
 obtain ⟨V2, hV2⟩ : ∃ x, Value.slice Av xs.length cv = x := ⟨_, rfl⟩
 rw [hV2] at s12 hnew
 refine wp_skip ?_
 refine Fact.block_normal ?_
 refine nx (hK26 _ _ ?_)
 refine rg ?_
 have b82 := hf.b 82
 have b83 := hf.b 83
 refine fp fun K Z => ?_
 go_simp
 apply Z.out; clear Z K
 refine fp fun K Z => ?_
 go_simp
 try simp (disch := omega) only [Fact.W]
 apply Z.out; clear Z K
 refine fp fun K Z => ?_
 go_simp
 apply Z.out; clear Z K
 refine Fact.z hf fun fr1 hf1 hT => ?_
 have hKp : _ ∧ _ ∧ _ ∧ _ ∧ _ ∧ _ ∧ _ ∧ _ := ⟨hT 0, hT 1, hT 2, hT 3, hT 9, hT 11, hT 12, hT 13⟩
 simp (decide := true) only [Fact.G, hf.size, reduceIte, s0, s1, s2, s3, s9, s11, s12] at hKp
 replace hf := hf1; clear hT hf1 s0 s1 s2 s3 s9 s11 s12 s13 s108 b82 b83
 obtain ⟨s0, s1, s2, s3, s9, s11, s12, s13⟩ := hKp
 refine Fact.then_normal ?_
 exact ⟨_, by have := HKJ.out; omega, j + 1, V2, rfl, by omega, by omega, hf, s0, s1, s2, s3, s9, s11, s12, by rw [s13]; rfl, hnew, hb2⟩))
 · (
 have q4 : decide (d < q.word.size) = false := decide_eq_false (by omega)
 rw [next_no hqs, if_neg (by simp), List.append_nil] at hst
 have HST2 := Lib.hid hst; clear hst
 refine wp_skip ?_
 refine nx (hK22 _ _ ?_)
 refine Fact.sq fun K28 hK28 => ?_
 refine wp_block ?_
 refine Fact.sq fun K29 hK29 => ?_
 refine Stab.tb 143 fun hok => ?_
 refine Stab.mO 0 s1 hf hok ?_
 refine Stab.mO 1 s13 hf hok ?_
 apply Stab.tq 2 _ hf hok
 · (
 intro fr1 w1 hh hd hk K Z
 have s84 := Stab.v 0 1 hd hk []
 have s85 := Stab.v 1 0 hd hk []
 clear hd
 go_simp
 try rw [if_pos (by omega)]
 exact Stab.k Z)
 apply Stab.tq 3 _ hf hok
 · (
 intro fr1 w1 hh hd hk K Z
 have s86 := Stab.v 2 0 hd hk []
 clear hd
 go_simp
 exact Stab.k Z)
 apply Stab.tq 4 _ hf hok
 · (
 intro fr1 w1 hh hd hk K Z
 have s87 := Stab.v 3 0 hd hk []
 clear hd
 replace d0 := cL hh.ext d0
 replace y0 := cL hh.ext y0
 replace y1 := cL hh.ext y1
 replace y2 := cL hh.ext y2
 go_simp
 exact Stab.k Z)
 apply Stab.tq 5 _ hf hok
 · (
 intro fr1 w1 hh hd hk K Z
 have s88 := Stab.v 4 0 hd hk []
 clear hd
 replace d0 := cL hh.ext d0
 replace y0 := cL hh.ext y0
 replace y1 := cL hh.ext y1
 replace y2 := cL hh.ext y2
 go_simp
 exact Stab.k Z)
 refine Stab.mO 6 s2 hf hok ?_
 apply Stab.tq 7 _ hf hok
 · (
 intro fr1 w1 hh hd hk K Z
 have s89 := Stab.v 5 1 hd hk []
 have s90 := Stab.v 6 0 hd hk []
 clear hd
 go_simp
 exact Stab.k Z)
 refine Stab.mN 8 7 0 hf hok [] ?_
 apply Stab.tr 9 _ hf hok
 · (
 intro fr1 w1 hh hd hk K Z
 have s92 := Stab.v 8 0 hd hk []
 refine Stab.sk s92 ?_
 exact Stab.k Z)
 apply Stab.tr 10 _ hf hok
 · (
 intro fr1 w1 hh hd hk K Z
 have s92 := Stab.v 8 1 hd hk []
 refine Stab.sk s92 ?_
 exact Stab.k Z)
 apply Stab.tr 11 _ hf hok
 · (
 intro fr1 w1 hh hd hk K Z
 have s92 := Stab.v 8 2 hd hk []
 refine Stab.sk s92 ?_
 exact Stab.k Z)
 apply Stab.tr 12 _ hf hok
 · (
 intro fr1 w1 hh hd hk K Z
 have s92 := Stab.v 8 3 hd hk []
 refine Stab.sk s92 ?_
 exact Stab.k Z)
 apply Stab.tr 13 _ hf hok
 · (
 intro fr1 w1 hh hd hk K Z
 have s92 := Stab.v 8 4 hd hk []
 refine Stab.sk s92 ?_
 exact Stab.k Z)
 apply Stab.tr 14 _ hf hok
 · (
 intro fr1 w1 hh hd hk K Z
 have s92 := Stab.v 8 5 hd hk []
 refine Stab.sk s92 ?_
 exact Stab.k Z)
 apply Stab.tr 15 _ hf hok
 · (
 intro fr1 w1 hh hd hk K Z
 have s92 := Stab.v 8 6 hd hk []
 refine Stab.sk s92 ?_
 exact Stab.k Z)
 apply Stab.tr 16 _ hf hok
 · (
 intro fr1 w1 hh hd hk K Z
 have s92 := Stab.v 8 7 hd hk []
 refine Stab.sk s92 ?_
 exact Stab.k Z)
 apply Stab.tr 17 _ hf hok
 · (
 intro fr1 w1 hh hd hk K Z
 have s92 := Stab.v 8 8 hd hk []
 refine Stab.sk s92 ?_
 exact Stab.k Z)
 apply Stab.tr 18 _ hf hok
 · (
 intro fr1 w1 hh hd hk K Z
 have s92 := Stab.v 8 9 hd hk []
 refine Stab.sk s92 ?_
 exact Stab.k Z)
 apply Stab.tr 19 _ hf hok
 · (
 intro fr1 w1 hh hd hk K Z
 have s92 := Stab.v 8 10 hd hk []
 refine Stab.sk s92 ?_
 exact Stab.k Z)
 apply Stab.tr 20 _ hf hok
 · (
 intro fr1 w1 hh hd hk K Z
 have s92 := Stab.v 8 11 hd hk []
 refine Stab.sk s92 ?_
 exact Stab.k Z)
 apply Stab.tr 21 _ hf hok
 · (
 intro fr1 w1 hh hd hk K Z
 have s92 := Stab.v 8 12 hd hk []
 refine Stab.sk s92 ?_
 exact Stab.k Z)
 apply Stab.tr 22 _ hf hok
 · (
 intro fr1 w1 hh hd hk K Z
 have s92 := Stab.v 8 13 hd hk []
 refine Stab.sk s92 ?_
 exact Stab.k Z)
 apply Stab.tr 23 _ hf hok
 · (
 intro fr1 w1 hh hd hk K Z
 have s92 := Stab.v 8 14 hd hk []
 refine Stab.sk s92 ?_
 exact Stab.k Z)
 apply Stab.tq 24 _ hf hok
 · (
 intro fr1 w1 hh hd hk K Z
 have s92 := Stab.v 8 15 hd hk []
 have s107 := Stab.v 23 0 hd hk []
 clear hd
 go_simp
 exact Stab.k Z)
 refine Stab.tf hf hok fun fr1 w1 hh hg => ?_
 replace s0 := Stab.O hh s0
 replace s1 := Stab.O hh s1
 replace s2 := Stab.O hh s2
 replace s3 := Stab.O hh s3
 replace s9 := Stab.O hh s9
 replace s11 := Stab.O hh s11
 replace s12 := Stab.O hh s12
 replace s13 := Stab.O hh s13
 have s108 := Stab.f 24 0 hg
 have hf1 := hh.fr hf
 have hx := hh.ext
 replace d0 := cL hx d0
 replace y0 := cL hx y0
 replace y1 := cL hx y1
 replace y2 := cL hx y2
 clear hg hh hf hok s81
 have hf := hf1; clear hf1
 refine nx (hK29 _ _ ?_)
 refine Fact.cond_f s108 ?_
 have how2 := own_later HOW.out hx
 have hb2 := hb.trans (hx.mono hb.size)
 have hnew : OE w1 Wn.heap.size (.slice Av xs.length cv) (ownE es i d (at_ e.word d) (j + 1)) := by rw [HST2.out]; exact how2
 obtain ⟨V2, hV2⟩ : ∃ x, Value.slice Av xs.length cv = x := ⟨_, rfl⟩
 rw [hV2] at s12 hnew
 refine wp_skip ?_
 refine Fact.block_normal ?_
 refine nx (hK28 _ _ ?_)
 refine rg ?_
 have b82 := hf.b 82
 have b83 := hf.b 83
 refine fp fun K Z => ?_
 go_simp
 apply Z.out; clear Z K
 refine fp fun K Z => ?_
 go_simp
 try simp (disch := omega) only [Fact.W]
 apply Z.out; clear Z K
 refine fp fun K Z => ?_
 go_simp
 apply Z.out; clear Z K
 refine Fact.z hf fun fr1 hf1 hT => ?_
 have hKp : _ ∧ _ ∧ _ ∧ _ ∧ _ ∧ _ ∧ _ ∧ _ := ⟨hT 0, hT 1, hT 2, hT 3, hT 9, hT 11, hT 12, hT 13⟩
 simp (decide := true) only [Fact.G, hf.size, reduceIte, s0, s1, s2, s3, s9, s11, s12] at hKp
 replace hf := hf1; clear hT hf1 s0 s1 s2 s3 s9 s11 s12 s13 s108 b82 b83
 obtain ⟨s0, s1, s2, s3, s9, s11, s12, s13⟩ := hKp
 refine Fact.then_normal ?_
 exact ⟨_, by have := HKJ.out; omega, j + 1, V2, rfl, by omega, by omega, hf, s0, s1, s2, s3, s9, s11, s12, by rw [s13]; rfl, hnew, hb2⟩))
 · (
 have hje : j = es.length := by have h9 := of_decide_eq_false hq; omega
 subst hje
 clear hq hij hj HKJ
 have hof := ownE_full es i d (at_ e.word d)
 have hsub : ∀ x ∈ ownE es i d (at_ e.word d) es.length, _ := fun x hx => ownE_sub (es := es) (i := i) (depth := d) (b := (at_ e.word d)) (k := es.length) x hx
 have hmo := ownE_mem HIE.out (show (wl e.word)[d]? = some (at_ e.word d) from HWB.out)
 have hol := ownE_length es i d (at_ e.word d) es.length
 obtain ⟨own, hown⟩ : ∃ x, ownE es i d (at_ e.word d) es.length = x := ⟨_, rfl⟩
 rw [hown] at how hof hsub hmo hol
 clear hown
 have hol2 : own.length ≤ 100000 := by omega
 have h0 : 0 < own.length := List.length_pos_of_mem hmo
 have hoes : ∀ x ∈ own, okE x := fun x hx => HES.out x (hsub x hx).1
 have hre := OE.re (es := own) how
 obtain ⟨n, hn⟩ : ∃ x, leastV (own.map wvE) = x := ⟨_, rfl⟩
 have hlen1 : le ≤ n := by obtain ⟨y, hy, hy2⟩ := leastV_mem (l := own.map wvE) (by intro h; have h9 := List.map_eq_nil_iff.1 h; rw [h9] at h0; exact absurd h0 (by simp)); obtain ⟨x, hx, rfl⟩ := List.mem_map.1 hy; rw [← hn, hy2]; exact HLE.out x (hsub x hx).1
 have hnm : ∀ x ∈ own, n ≤ valE x := fun x hx => by rw [← hn]; exact leastV_le (List.mem_map_of_mem hx)
 have hnlt : n < 18446744073709551616 := by have h1 := hnm e hmo; have h2 := valE_lt (hoes e hmo); omega
 have hnx : refX f ss (es.map wvE) d le (i + 1) = ((refS f sx (own.map wvE) (d + 1) n).1, al ++ [(⟨at_ e.word d, n - le, ((refS f sx (own.map wvE) (d + 1) n).2 : Int)⟩ : Arc)]) := by rw [HRX.out, refI_new HLI.out HWB.out HNL.out hof.symm hn]
 have hwdo : ∀ x ∈ own, d + 1 ≤ x.word.size ∧ x.word.size < f + (d + 1) := fun x hx => by have h1 := (List.getElem?_eq_some_iff.1 (hsub x hx).2).1; rw [wl_length] at h1; have h2 := HWD.out x (hsub x hx).1; omega
 have hfin1 : (refS f sx (own.map wvE) (d + 1) n).1.length ≤ 100000 := by have h1 := refX_len f ss (es.map wvE) d le (i + 1) (es.map wvE).length (by rw [List.length_map]; omega); rw [hnx] at h1; have h2 := HFIN.out; rw [refS_X] at h2; exact Nat.le_trans h1 (Nat.le_trans (finish_len _ _) h2)
 have hfew1 : Few 100000 sx := by have h1 := refX_few f (M := 100000) d le i HFEW.out (L := es.map wvE) (by rw [List.length_map]; exact hlen); rw [HX.out] at h1; exact h1
 have HNX := Lib.hid hnx; have HSUB := Lib.hid hsub; have HNM := Lib.hid hnm; have HWDO := Lib.hid hwdo; have HOES := Lib.hid hoes; have HFIN1 := Lib.hid hfin1; have HFEW1 := Lib.hid hfew1; have HN := Lib.hid hn; have H0 := Lib.hid h0; clear hnx hsub hnm hwdo hoes hfin1 hfew1 hof hmo h0 hn
 have HOW := Lib.hid how; clear how
 refine wp_exit ?_
 refine Fact.then_exit ?_
 refine Fact.then_exit ?_
 refine Fact.block_exit ?_
 refine nx (hK20 _ _ ?_)
 refine Fact.sq fun K30 hK30 => ?_
 refine rg ?_
 have b116 := hf.b 116
 have b117 := hf.b 117
 refine fp fun K Z => ?_
 go_simp
 apply Z.out; clear Z K
 refine fp fun K Z => ?_
 go_simp
 go_at_call 39; refine (least39 wq own _ V (Nat.le_refl _) hre HOES.out H0.out (by omega)).mono ?_; rintro e w5 ⟨rfl, hb5⟩
 rw [HN.out]
 try dsimp only
 apply Z.out; clear Z K
 refine fp fun K Z => ?_
 go_simp
 apply Z.out; clear Z K
 refine Fact.z hf fun fr1 hf1 hT => ?_
 have hKp : _ ∧ _ ∧ _ ∧ _ ∧ _ ∧ _ ∧ _ ∧ _ := ⟨hT 0, hT 1, hT 2, hT 3, hT 9, hT 11, hT 12, hT 14⟩
 simp (decide := true) only [Fact.G, hf.size, reduceIte, s0, s1, s2, s3, s9, s11, s12] at hKp
 replace hf := hf1; clear hT hf1 s0 s1 s2 s3 s9 s11 s12 s13 s81 b116 b117
 obtain ⟨s0, s1, s2, s3, s9, s11, s12, s14⟩ := hKp
 obtain ⟨Wa, rfl⟩ : ∃ x, x = w5 := ⟨_, rfl⟩
 have hba := hb.trans (hb5.mono hb.size)
 clear hre
 replace z0 := cL hb5 z0; replace d0 := cL hb5 d0
 have hoa := own_later HOAN.out (hba)
 have how := own_later HOW.out hb5
 have hbxa := (hba.block _ (heap_lt hbxn)).trans hbxn
 have hma := HMN.out.later hba
 have hzna : Wn.heap.size ≤ Wa.heap.size := hba.size
 have hgb : g < w.heap.size := hgw
 have hv1b : ∀ k, v1.ownBlock = some k → k < Wn.heap.size := fun k hk => (HMN.out.blk hk).2
 have hv1n : ∀ k, k < w.heap.size → v1.ownBlock = some k → v.ownBlock = some k := fun k hk h => by rcases HV1.out with h1 | ⟨k2, h1, h2⟩; (rw [← h1]; exact h); (rw [h] at h1; injection h1 with h1; omega)
 have hHBX : ¬ (w.heap.size = g ∨ v1.ownBlock = some w.heap.size) := by rintro (h | h); omega; (rcases HV1.out with h1 | ⟨k2, h1, h2⟩; (rw [h1] at h; have := HVB.out _ h; omega); (rw [h] at h1; injection h1 with h1; omega))
 have hHB : ¬ (b = g ∨ v1.ownBlock = some b) := by have h2 := HAP.out b rfl; rintro (h | h); exact h2.1 h; exact h2.2 (hv1n b hbB h)
 have hHAV : ∀ k, (.slice Aa al.length ca : Value).ownBlock = some k → w.heap.size < k ∧ ¬ B1 k ∧ v1.ownBlock ≠ some k ∧ k < Wa.heap.size := fun k hk => ⟨(HAV.out k hk).1, (HAV.out k hk).2.1, (HAV.out k hk).2.2, (hoa.lt k hk).2⟩
 have hcall : ∀ wz, Below Wa.heap.size Wa wz → Calls Tryd.prog 40 #[.pointer (some ⟨g, 0, none⟩), V, .int .i64 (d + 1 : Nat), .int .u64 n] wz fun e w1 => e = .returned (.int .i64 ((refS f sx (own.map wvE) (d + 1) n).2 : Nat)) ∧ Made base g v1 B1 wz.heap.size (refS f sx (own.map wvE) (d + 1) n).1 w1 ∧ But (fun k => k = g ∨ v1.ownBlock = some k) wz w1 := fun wz hz => ih wz base g v1 B1 sx own V (d + 1) n (hma.later hz) (by have := hz.size; omega) (OE.re (own_later how hz)) (fun k hk => by have h1 := (how.lt k hk).1; refine ⟨by omega, fun h => ?_⟩; have := hv1b k h; omega) HOES.out hol2 HWDO.out (by omega) HNM.out HFIN1.out HFEW1.out H0.out
 have HCALL := Lib.hid hcall; have HHAV := Lib.hid hHAV; have HHBX := Lib.hid hHBX; have HHB := Lib.hid hHB; have HOA2 := Lib.hid hoa; have HV1B := Lib.hid hv1b; have HV1N := Lib.hid hv1n; clear hcall hHAV hHBX hHB hoa hv1b hv1n hma how
 refine nx (hK30 _ _ ?_)
 refine Stam.todo_begin (n := 143) (fun m k => (m = 17 ∧ (k = g ∨ v1.ownBlock = some k)) ∨ (m = 20 ∧ (.slice Aa al.length ca : Value).ownBlock = some k) ∨ (m = 22 ∧ k = w.heap.size)) [17, 20, 22] (Stab.OkOps.of (by kernel_rfl)) (fun hok => ?_)
 apply Stam.tq 0 _ hf hok
 · (
 intro fr1 w1 hh hd hk K Z
 refine Stab.pl ?_
 have s9 := Stam.o hh (by kernel_rfl) s9
 have hbt := Stam.but_at hh [17] [(20, [1]), (22, [])] (by kernel_rfl)
 clear hd hh
 go_simp
 exact Stab.k Z)
 apply Stam.tq 1 _ hf hok
 · (
 intro fr1 w1 hh hd hk K Z
 refine Stab.pl ?_
 have s118 := Stam.v 0 0 hd hk []
 have hbt := Stam.but_at hh [17] [(20, []), (22, [])] (by kernel_rfl)
 clear hd hh
 have h17 := (hbt (fun k => k = g ∨ v1.ownBlock = some k) (fun m hm b h => by simp at hm; subst hm; rcases h with h | h | h; exact h.2; (have := h.1; omega); (have := h.1; omega)))
 have k0 := h17.cell z0 HHBX.out
 clear h17 hbt
 go_simp
 exact Stab.k Z)
 refine Stam.mvO (k := 2) s1 hf.size hok.out rfl (by kernel_rfl) rfl rfl (.inl rfl) (by kernel_rfl) ?_
 refine Stam.mvO (k := 3) s11 hf.size hok.out rfl (by kernel_rfl) rfl rfl (.inl rfl) (by kernel_rfl) ?_
 apply Stam.tq 4 _ hf hok
 · (
 intro fr1 w1 hh hd hk K Z
 refine Stab.pl ?_
 have s120 := Stam.v 2 1 hd hk []
 have s121 := Stam.v 3 0 hd hk []
 have hbt := Stam.but_at hh [17] [(20, [19, 18, 8, 6, 5]), (22, [])] (by kernel_rfl)
 clear hd hh
 go_simp
 try rw [if_pos (by omega)]
 exact Stab.k Z)
 apply Stam.tq 5 _ hf hok
 · (
 intro fr1 w1 hh hd hk K Z
 refine Stab.pl ?_
 have s122 := Stam.v 4 0 hd hk []
 have hbt := Stam.but_at hh [17] [(20, [19, 18, 8, 6]), (22, [])] (by kernel_rfl)
 clear hd hh
 go_simp
 exact Stab.k Z)
 apply Stam.tq 6 _ hf hok
 · (
 intro fr1 w1 hh hd hk K Z
 refine Stab.pl ?_
 have s123 := Stam.v 5 0 hd hk []
 have hbt := Stam.but_at hh [17] [(20, [19, 18, 8]), (22, [])] (by kernel_rfl)
 clear hd hh
 have h17 := (hbt (fun k => k = g ∨ v1.ownBlock = some k) (fun m hm b h => by simp at hm; subst hm; rcases h with h | h | h; exact h.2; (have := h.1; omega); (have := h.1; omega)))
 have k0 := h17.cell d0 HHB.out
 clear h17 hbt
 go_simp
 exact Stab.k Z)
 refine Stam.mvO (k := 7) s2 hf.size hok.out rfl (by kernel_rfl) rfl rfl (.inl rfl) (by kernel_rfl) ?_
 apply Stam.tq 8 _ hf hok
 · (
 intro fr1 w1 hh hd hk K Z
 refine Stab.pl ?_
 have s124 := Stam.v 6 1 hd hk []
 have s125 := Stam.v 7 0 hd hk []
 have hbt := Stam.but_at hh [17] [(20, [19, 18]), (22, [])] (by kernel_rfl)
 clear hd hh
 go_simp
 try rw [if_pos (by omega)]
 exact Stab.k Z)
 refine Stam.mvO (k := 9) s14 hf.size hok.out rfl (by kernel_rfl) rfl rfl (.inl rfl) (by kernel_rfl) ?_
 refine Stam.mvO (k := 10) s3 hf.size hok.out rfl (by kernel_rfl) rfl rfl (.inl rfl) (by kernel_rfl) ?_
 apply Stam.tq 11 _ hf hok
 · (
 intro fr1 w1 hh hd hk K Z
 refine Stab.pl ?_
 have s127 := Stam.v 9 1 hd hk []
 have s128 := Stam.v 10 0 hd hk []
 have hbt := Stam.but_at hh [17] [(20, [19, 18]), (22, [])] (by kernel_rfl)
 clear hd hh
 go_simp
 try simp (disch := omega) only [Fact.W]
 rw [show ((n : Nat) : Int) - (le : Nat) = ((n - le : Nat) : Int) by omega]
 exact Stab.k Z)
 refine Stam.mvO (k := 12) s0 hf.size hok.out rfl (by kernel_rfl) rfl rfl (.inl rfl) (by kernel_rfl) ?_
 refine Stam.mvO (k := 13) s12 hf.size hok.out rfl (by kernel_rfl) rfl rfl (.inl rfl) (by kernel_rfl) ?_
 refine Stam.mvO (k := 14) s2 hf.size hok.out rfl (by kernel_rfl) rfl rfl (.inl rfl) (by kernel_rfl) ?_
 apply Stam.tq 15 _ hf hok
 · (
 intro fr1 w1 hh hd hk K Z
 refine Stab.pl ?_
 have s132 := Stam.v 14 0 hd hk []
 have hxe := Stam.ext_at hh [(17, []), (20, [17]), (22, [])] (by kernel_rfl)
 have hbt := Stam.but_at hh [] [(17, []), (20, [17]), (22, [])] (by kernel_rfl)
 clear hd hh
 go_simp
 try simp (disch := omega) only [Fact.W]
 rw [show ((d : Nat) : Int) + 1 = ((d + 1 : Nat) : Int) by omega]
 exact Stab.k Z)
 refine Stam.mvO (k := 16) s14 hf.size hok.out rfl (by kernel_rfl) rfl rfl (.inl rfl) (by kernel_rfl) ?_
 refine Stam.todo_sp (k := 17) (n := 143) (fun x wz => x = .int .i64 ((refS f sx (own.map wvE) (d + 1) n).2 : Nat) ∧ Made base g v1 B1 Wa.heap.size (refS f sx (own.map wvE) (d + 1) n).1 wz) hf.size hok.out rfl (fun _ w w2 hb h => ⟨h.1, Made.later w w2 hb h.2⟩) (by kernel_rfl) ?_ ?_
 · (
 intro fr1 w1 hh hd hk K Z
 refine Stab.pl ?_
 have s130 := Stam.v 12 4 hd hk []
 have s131 := Stam.v 13 3 hd hk []
 have s133 := Stam.v 15 1 hd hk []
 have s134 := Stam.v 16 0 hd hk []
 have hxe := Stam.ext_at hh [(20, []), (22, [])] (by kernel_rfl)
 have hbt := Stam.but_at hh [] [(20, []), (22, [])] (by kernel_rfl)
 clear hd hh
 go_simp
 go_at_call 40; refine (HCALL.out _ hxe).mono ?_; rintro e w2 ⟨rfl, hmd, hb2⟩
 exact Z.out _ rfl _ _ (hb2.mono (fun k _ h => .inl ⟨rfl, h⟩)) ⟨rfl, hmd.mono hxe.size⟩)
 apply Stam.tq 18 _ hf hok
 · (
 intro fr1 w1 hh hd hk K Z
 refine Stab.pl ?_
 have s126 := Stam.v 8 9 hd hk []
 have s129 := Stam.v 11 6 hd hk []
 obtain ⟨x135, s135, hp135⟩ := Stam.use (j := 17) (m := 0) hd hk rfl [] (by kernel_rfl) [(20, true, [19]), (22, true, [])] (by kernel_rfl) rfl rfl rfl
 obtain ⟨rfl, hm135⟩ := hp135
 have hbt := Stam.but_at hh [17] [(20, [19]), (22, [])] (by kernel_rfl)
 clear hd hh
 go_simp
 exact Stab.k Z)
 refine Stam.todo_op (k := 19) (n := 143) (PLit [.int .u8 (at_ e.word d : Nat), .int .u64 (n - le : Nat), .int .i64 ((refS f sx (own.map wvE) (d + 1) n).2 : Nat)]) hf.size hok.out rfl (PLit.stable _) (by kernel_rfl) ?_ ?_
 · (
 intro fr1 w1 hh hd hk K Z
 refine Stab.pl ?_
 have s136 := Stam.v 18 0 hd hk []
 have hbt := Stam.but_at hh [17] [(20, []), (22, [])] (by kernel_rfl)
 clear hd hh
 go_simp
 exact Z.out _ rfl _ _ ((Below.refl _ _).alloc (Nat.le_refl _) _) ⟨_, rfl, lit_new _ _ _⟩)
 refine Stam.todo_sp (k := 20) (n := 143) (Lq w.heap.size base g v B ((refS f sx (own.map wvE) (d + 1) n).1, al ++ [(⟨at_ e.word d, n - le, ((refS f sx (own.map wvE) (d + 1) n).2 : Int)⟩ : Arc)])) hf.size hok.out rfl (Lq.later) (by kernel_rfl) ?_ ?_
 · (
 intro fr1 w1 hh hd hk K Z
 refine Stab.pl ?_
 have s119 := Stam.v 1 18 hd hk []
 obtain ⟨x137, s137, hp137⟩ := Stam.use (j := 19) (m := 0) hd hk rfl [] (by kernel_rfl) [(17, false, [18]), (22, true, [])] (by kernel_rfl) rfl rfl rfl
 obtain ⟨b137, rfl, hc137⟩ := hp137
 obtain ⟨_, hm17⟩ := Stam.use_fact (j := 17) (m := 2) hd hk rfl [] (by kernel_rfl) [(22, true, [])] (by kernel_rfl) rfl
 have hbt := Stam.but_at hh [17] [(22, [])] (by kernel_rfl)
 clear hd hh
 have h17 := (hbt (fun k => k = g ∨ v1.ownBlock = some k) (fun m hm b h => by simp at hm; subst hm; rcases h with h | h | h; exact h.2; (have := h.1; omega); (have := h.1; omega)))
 have hoa2 := own_but HOA2.out h17 (fun k hk h => by have h1 := HHAV.out k hk; rcases h with h | h; omega; exact h1.2.2.1 h)
 refine wp_app _ _ 59 rfl 63 _ 3 24 Tryd.underlying59 info63 rfl (by decide) (by decide) w.heap.size (.slice Aa al.length ca : Value) al.length (acs al) (Fact.eval_tmp s119) hoa2 b137 _ (Fact.eval_tmp s137) rfl hc137 (by intro u hu; simp at hu; rcases hu with rfl | rfl | rfl <;> rfl) (by omega) (by have := h17.size; omega) (fun v2 w2 hr3 hg3 hat3 => ?_)
 exact Z.out _ rfl _ _ (But.grown hg3 (fun k hk => .inr (.inl ⟨rfl, hk⟩))) (Lq.app hm17.2 (by omega) (fun k hk => (HB1.out k hk).2) HV1.out HHAV.out hgb hr3 hg3 hat3 h17.size))
 apply Stam.tq 21 _ hf hok
 · (
 intro fr1 w1 hh hd hk K Z
 refine Stab.pl ?_
 have s9 := Stam.o hh (by kernel_rfl) s9
 have hbt := Stam.but_at hh [17, 20] [(22, [])] (by kernel_rfl)
 clear hd hh
 go_simp
 exact Stab.k Z)
 refine Stam.todo_sp (k := 22) (n := 143) (fun _ wz => Lp w.heap.size base g v B (refFo (es.map wvE) d le) ((refS f sx (own.map wvE) (d + 1) n).1, al ++ [(⟨at_ e.word d, n - le, ((refS f sx (own.map wvE) (d + 1) n).2 : Int)⟩ : Arc)]) wz) hf.size hok.out rfl (fun _ w w2 hb h => Lp.later hb h) (by kernel_rfl) ?_ ?_
 · (
 intro fr1 w1 hh hd hk K Z
 refine Stab.pl ?_
 have s139 := Stam.v 21 0 hd hk []
 obtain ⟨x138, s138, hp138⟩ := Stam.use (j := 20) (m := 1) hd hk rfl [] (by kernel_rfl) [(17, false, [])] (by kernel_rfl) rfl rfl rfl
 have hl138 := hp138
 have hbt := Stam.but_at hh [17, 20] [] (by kernel_rfl)
 clear hd hh
 have h22 := (hbt (fun k => (k = g ∨ v1.ownBlock = some k) ∨ (.slice Aa al.length ca : Value).ownBlock = some k) (fun m hm b h => by simp at hm; rcases h with h | h | h; exact .inl h.2; exact .inr h.2; (have := h.1; omega)))
 have hbx2 := h22.heap hbxa (fun h => by rcases h with h | h; exact HHBX.out h; (have := (HHAV.out _ h).1; omega))
 have y0 : w1.cell? ⟨w.heap.size, 0, none⟩ = some (.slice Aa al.length ca : Value) := by rw [cell_of_row _ _ 0 _ 61 (0, 0) hbx2]; rfl
 have fz := frozen_of (i := 0) hbx2
 clear hbt h22
 obtain ⟨A2, c2, hv2⟩ := Lq.form hl138
 subst hv2
 go_simp
 exact Z.out _ rfl undef _ (But.setCell (.inr (.inr ⟨rfl, rfl⟩)) _) ⟨_, Lq.but hl138 (But.setCell (S := fun k => k = w.heap.size) rfl _) (fun k h => h) hgb HVB.out, (set_block (i := 0) hbx2 _).trans (by simp [bxCells])⟩)
 refine Stam.todo_facts (n := 143) (by kernel_rfl) hf.size hok.out rfl (fun fr1 w1 hh hg => ?_)
 replace s0 := Stam.o hh (by kernel_rfl) s0
 replace s1 := Stam.o hh (by kernel_rfl) s1
 replace s2 := Stam.o hh (by kernel_rfl) s2
 replace s3 := Stam.o hh (by kernel_rfl) s3
 replace s9 := Stam.o hh (by kernel_rfl) s9
 replace s11 := Stam.o hh (by kernel_rfl) s11
 obtain ⟨_, hlast⟩ := Stam.end_fact (j := 22) (m := 0) hg rfl (by decide) [(17, []), (20, [])] (by kernel_rfl) rfl
 have hf1 := hh.fr hf
 have hbt := hh.but
 clear hg hh hf hok s12 s14
 have hf := hf1; clear hf1
 replace hbt := hbt (fun k => (k = g ∨ v1.ownBlock = some k) ∨ (.slice Aa al.length ca : Value).ownBlock = some k ∨ k = w.heap.size) (fun m _ b h => by rcases h with h | h | h; exact .inl h.2; exact .inr (.inl h.2); exact .inr (.inr h.2))
 have hbtz : But (fun k => k = g ∨ v.ownBlock = some k) w w1 := But.join (hbtn.trans (But.of _ (hba.mono (Nat.le_refl _)))) hbt (fun k hk h => by rcases h with (h | h) | h | h; exact .inl h; exact .inr (HV1N.out k hk h); (have := (HHAV.out k h).1; omega); omega)
 have hlp : Lp w.heap.size base g v B (refFo (es.map wvE) d le) (refX f ss (es.map wvE) d le (i + 1)) w1 := by rw [HNX.out]; exact hlast
 refine Fact.block_normal ?_
 refine nx (hK14 _ _ ?_)
 refine rg ?_
 have b42 := hf.b 42
 have b43 := hf.b 43
 refine fp fun K Z => ?_
 go_simp
 apply Z.out; clear Z K
 refine fp fun K Z => ?_
 go_simp
 try simp (disch := omega) only [Fact.W]
 apply Z.out; clear Z K
 refine fp fun K Z => ?_
 go_simp
 apply Z.out; clear Z K
 refine Fact.z hf fun fr1 hf1 hT => ?_
 have hKp : _ ∧ _ ∧ _ ∧ _ ∧ _ ∧ _ := ⟨hT 0, hT 1, hT 2, hT 3, hT 9, hT 11⟩
 simp (decide := true) only [Fact.G, hf.size, reduceIte, s0, s1, s2, s3, s9] at hKp
 replace hf := hf1; clear hT hf1 s0 s1 s2 s3 s9 s11 b42 b43
 obtain ⟨s0, s1, s2, s3, s9, s11⟩ := hKp
 refine Fact.then_normal ?_
 exact ⟨_, by have := HK.out; omega, i + 1, rfl, by omega, hf, s0, s1, s2, s3, s9, by rw [s11]; rfl, hbtz, hlp⟩))))
 · (
 have hie : i = es.length := by have h9 := of_decide_eq_false hq; omega
 subst hie
 clear hq hi HK hrw
 have hrs := refS_X f ss (es.map wvE) d le
 have hal0 := refX_arcs f ss (es.map wvE) d le es.length
 have hfew1 := refX_few f (M := 100000) d le es.length HFEW.out (L := (es.map wvE)) (by rw [List.length_map]; exact hlen)
 rw [List.length_map] at hrs
 obtain ⟨⟨sx, al⟩, hX⟩ : ∃ x, (refX f ss (es.map wvE) d le es.length) = x := ⟨_, rfl⟩
 rw [hX] at hlp hrs hal0 hfew1
 clear hX
 obtain ⟨y, hY⟩ : ∃ x, (refFo (es.map wvE) d le) = x := ⟨_, rfl⟩
 rw [hY] at hlp hrs
 clear hY
 simp only at hrs hal0 hfew1
 obtain ⟨av, ⟨v1, B1, hm1, hB1, hv1, hoa, hav⟩, hbx⟩ := hlp
 simp only at hm1 hoa
 have z0 : wr.cell? ⟨w.heap.size, 0, none⟩ = some av := by rw [cell_of_row _ _ 0 _ 61 (0, 0) hbx]; rfl
 have z1 : wr.cell? ⟨w.heap.size, 1, none⟩ = some (.bool y.1) := by rw [cell_of_row _ _ 1 _ 61 (0, 0) hbx]; rfl
 have z2 : wr.cell? ⟨w.heap.size, 2, none⟩ = some (.int .u64 y.2) := by rw [cell_of_row _ _ 2 _ 61 (0, 0) hbx]; rfl
 have hfl : sx.length ≤ 100000 := by have h1 := HFIN.out; rw [hrs] at h1; exact Nat.le_trans (finish_len _ _) h1
 have hra : RA wr (fun k => av.ownBlock = some k) av al := OA.ra hoa (fun k hk => hk)
 have HRS := Lib.hid hrs; have HB1 := Lib.hid hB1; have HV1 := Lib.hid hv1; have HAV := Lib.hid hav; have HFEW1 := Lib.hid hfew1; clear hrs hB1 hv1 hav hfew1 hoa hbx
 refine wp_exit ?_
 refine Fact.then_exit ?_
 refine Fact.then_exit ?_
 refine Fact.block_exit ?_
 refine nx (hK10 _ _ ?_)
 refine Fact.sq fun K31 hK31 => ?_
 refine rg ?_
 have b140 := hf.b 140
 have b141 := hf.b 141
 have b142 := hf.b 142
 refine fp fun K Z => ?_
 go_simp
 apply Z.out; clear Z K
 refine fp fun K Z => ?_
 go_simp
 apply Z.out; clear Z K
 refine fp fun K Z => ?_
 go_simp
 go_at_call 51; refine (number wr base g v1 B1 (fun k => av.ownBlock = some k) sx ⟨y.1, y.2, al⟩ av hm1 (by have := hbt.size; omega) hra (fun k hk => ⟨fun h => by have := (HAV.out k hk).1; omega, (HAV.out k hk).2.2⟩) hfl (fun x hx => Nat.le_trans (HFEW1.out x hx) (by omega)) (by simp only; omega)).mono ?_; rintro e w1 ⟨rfl, v2, hm2, hb2, hv2⟩
 try dsimp only
 apply Z.out; clear Z K
 refine fp fun K Z => ?_
 go_simp
 apply Z.out; clear Z K
 refine Fact.z hf fun fr1 hf1 hT => ?_
 have hKp := hT 8
 simp (decide := true) only [Fact.G, hf.size, reduceIte] at hKp
 replace hf := hf1; clear hT hf1 s0 s1 s2 s3 s9 s11 s41 b140 b141 b142
 have s8 := hKp; clear hKp
 refine nx (hK31 _ _ ?_)
 refine wp_ret ?_
 obtain ⟨hmd, hbz⟩ := state_end hm2 hb2 hv2 hbt HB1.out HV1.out HAV.out
 exact Fact.ret1 rfl hf s8 ⟨by rw [HRS.out], by rw [HRS.out]; exact hmd, hbz⟩))))
end Dw
end Go.Proofs.YtgjfhedgdbbinaaDoor
