/- cedillaref05: Same, Find. -/
import Derived.Test.YtdkbgbdgmihlmaaGreatDoorDWal3
import Derived.Test.YtdkbgbdgmihlmaaGreatDoorTools
namespace Go.Proofs.YtdkbgbdgmihlmaaGreatDoor
open Go.RowKit
set_option linter.unusedSimpArgs false
set_option linter.unusedVariables false
set_option linter.unnecessarySimpa false
namespace Dw

theorem str_eq {a b : ByteArray} (h : (a.toList == b.toList) = true) : a = b := by
  rw [wl_eq_iff] at h
  exact wl_inj (of_decide_eq_true h)
theorem str_ne {a b : ByteArray} (h : (a.toList == b.toList) = false) : a ≠ b := by
  rw [wl_eq_iff] at h
  exact fun e => of_decide_eq_false h (by rw [e])
theorem find_at {es : List Ent} {i : Nat} {q : Ent} {s : ByteArray} (hi : es[i]? = some q) (hn : findE (es.take i) s = none) (hq : q.word = s) : findE es s = some q := by
  rw [← List.take_append_drop i es]
  unfold findE at hn ⊢
  rw [List.find?_append, hn, drop_get hi, List.find?_cons, decide_eq_true hq]
  rfl
theorem find_not {es : List Ent} {i : Nat} {q : Ent} {s : ByteArray} (hi : es[i]? = some q) (hn : findE (es.take i) s = none) (hq : q.word ≠ s) : findE (es.take (i + 1)) s = none := by
  unfold findE at hn ⊢
  rw [List.take_add_one, hi, List.find?_append, hn]
  simp [hq]
set_option maxHeartbeats 4000000 in
set_option maxRecDepth 100000 in
theorem find15 (w : World) (es : List Ent) (B : Nat) (v : Value) (hB : B ≤ w.heap.size) (hre : RE w B v es) (hlen : es.length ≤ 1000000) (s : ByteArray) : Calls Tryz.prog 13 #[v, .string s] w fun e w1 => e = .returned (.tuple #[eval ((findE es s).getD ⟨⟨#[]⟩, 0, false⟩), .bool (findE es s).isSome]) ∧ Below w.heap.size w w1 := by
 refine calls_of_wp Tryz.func13 rfl ?_
 refine Fact.en 25 fun fr hf hT => ?_
 have s0 := hT 0 _ rfl
 have s1 := hT 1 _ rfl
 clear hT
 have hre0 := hre.any
 obtain ⟨A, cc, rfl, hcc⟩ := hre.form
 clear hre
 refine Fact.sq fun K1 hK1 => ?_
 refine rg ?_
 iterate 2 (refine fp fun K Z => ?_; go_simp; apply Z.out; clear Z K)
 refine Fact.z hf fun fr1 hf1 hT => ?_
 have hKp : _ ∧ _ ∧ _ := ⟨hT 0, hT 1, hT 4⟩
 simp (decide := true) only [Fact.G, hf.size, reduceIte, s0, s1] at hKp
 replace hf := hf1; clear hT hf1 s0 s1
 obtain ⟨s0, s1, s4⟩ := hKp
 obtain ⟨W0, hW0⟩ : ∃ W0, w.alloc (.cells #[.string ⟨#[]⟩, .int .u32 0, .bool false] 47) = W0 := ⟨_, rfl⟩
 try rw [hW0]
 obtain ⟨hb0, c0, c1, c2, hx0, -⟩ := box3 hW0
 clear hW0
 clear c0 c1 c2
 replace hre0 := hre0.below hb0
 have hz0 := hb0.size
 have hx1 := heap_lt hx0
 refine nx (hK1 _ _ ?_)
 refine Fact.sq fun K2 hK2 => ?_
 refine Fact.sq fun K3 hK3 => ?_
 refine rg ?_
 refine fp fun K Z => ?_
 go_simp
 apply Z.out; clear Z K
 refine Fact.z hf fun fr1 hf1 hT => ?_
 have hKp : _ ∧ _ ∧ _ ∧ _ := ⟨hT 0, hT 1, hT 4, hT 6⟩
 simp (decide := true) only [Fact.G, hf.size, reduceIte, s0, s1, s4] at hKp
 replace hf := hf1; clear hT hf1 s0 s1 s4
 obtain ⟨s0, s1, s4, s6⟩ := hKp
 refine nx (hK3 _ _ ?_)
 refine wp_block ?_
 refine wp_loop_ghost (fun gk fr wr => ∃ (i : Nat), gk = es.length - i ∧ i ≤ es.length ∧ Fact.Fr 25 fr ∧ fr.tmps[0]? = some (.slice A es.length cc) ∧ fr.tmps[1]? = some (.string s) ∧ fr.tmps[4]? = some (.pointer (some ⟨w.heap.size, 0, none⟩)) ∧ fr.tmps[6]? = some (.int .i64 i) ∧ findE (es.take i) s = none ∧ wr = W0) (es.length) ?_ ?_
 · (
 exact ⟨0, rfl, Nat.zero_le _, hf, s0, s1, s4, s6, rfl, rfl⟩)
 · (
 clear hf s0 s1 s4 s6
 rintro gk fr wr ⟨i, hk, hi, hf, s0, s1, s4, s6, hfi, hwr⟩
 subst wr
 have HK := Lib.hid hk; have HFI := Lib.hid hfi; clear hk hfi
 refine Fact.sq fun K4 hK4 => ?_
 refine Fact.sq fun K5 hK5 => ?_
 refine rg ?_
 have b7 := hf.b 7
 have b8 := hf.b 8
 have b9 := hf.b 9
 iterate 4 (refine fp fun K Z => ?_; go_simp; apply Z.out; clear Z K)
 refine Fact.z hf fun fr1 hf1 hT => ?_
 have hKp : _ ∧ _ ∧ _ ∧ _ ∧ _ := ⟨hT 0, hT 1, hT 4, hT 6, hT 10⟩
 simp (decide := true) only [Fact.G, hf.size, reduceIte, s0, s1, s4, s6] at hKp
 replace hf := hf1; clear hT hf1 s0 s1 s4 s6 b7 b8 b9
 obtain ⟨s0, s1, s4, s6, s10⟩ := hKp
 refine nx (hK5 _ _ ?_)
 refine Fact.cond_s s10 (fun hq => ?_) (fun hq => ?_)
 · (
 have hlt : i < es.length := by have h9 := of_decide_eq_true hq; omega
 have HQ := Lib.hid hq; clear hq
 obtain ⟨q, hiq⟩ : ∃ q, es[i]? = some q := ⟨_, List.getElem?_eq_getElem hlt⟩
 obtain ⟨b, off, rfl, _, _, d0, d1, d2⟩ := hre0.at_ hiq
 have HI := Lib.hid hiq; clear hiq
 refine wp_skip ?_
 refine nx (hK4 _ _ ?_)
 refine Fact.sq fun K6 hK6 => ?_
 refine wp_block ?_
 refine Fact.sq fun K7 hK7 => ?_
 refine rg ?_
 have b13 := hf.b 13
 have b14 := hf.b 14
 have b15 := hf.b 15
 have b16 := hf.b 16
 have b17 := hf.b 17
 have b18 := hf.b 18
 iterate 2 (refine fp fun K Z => ?_; go_simp; apply Z.out; clear Z K)
 refine fp fun K Z => ?_
 go_simp
 try rw [if_pos (by omega)]
 apply Z.out; clear Z K
 iterate 4 (refine fp fun K Z => ?_; go_simp; apply Z.out; clear Z K)
 refine Fact.z hf fun fr1 hf1 hT => ?_
 have hKp : _ ∧ _ ∧ _ ∧ _ ∧ _ := ⟨hT 0, hT 1, hT 4, hT 6, hT 19⟩
 simp (decide := true) only [Fact.G, hf.size, reduceIte, s0, s1, s4, s6] at hKp
 replace hf := hf1; clear hT hf1 s0 s1 s4 s6 s10 b13 b14 b15 b16 b17 b18
 obtain ⟨s0, s1, s4, s6, s19⟩ := hKp
 refine nx (hK7 _ _ ?_)
 refine Fact.cond_s s19 (fun hq2 => ?_) (fun hq2 => ?_)
 · (
 have hqs : q.word = s := str_eq hq2
 have hfs : findE es s = some q := find_at HI.out HFI.out hqs
 have HFS := Lib.hid hfs; clear hfs hqs hq2
 have z0 := cell_of_row _ _ 0 _ 47 (0, 0) hx0; have z1 := cell_of_row _ _ 1 _ 47 (0, 0) hx0; have z2 := cell_of_row _ _ 2 _ 47 (0, 0) hx0
 simp at z0 z1 z2
 have f0 := frozen_of (i := 0) hx0; have f1 := frozen_of (i := 1) hx0; have f2 := frozen_of (i := 2) hx0
 refine Fact.sq fun K8 hK8 => ?_
 refine rg ?_
 have b20 := hf.b 20
 have b21 := hf.b 21
 have b22 := hf.b 22
 have b23 := hf.b 23
 iterate 2 (refine fp fun K Z => ?_; go_simp; apply Z.out; clear Z K)
 refine fp fun K Z => ?_
 go_simp
 try rw [if_pos (by omega)]
 apply Z.out; clear Z K
 iterate 3 (refine fp fun K Z => ?_; go_simp; apply Z.out; clear Z K)
 refine Fact.z hf fun fr1 hf1 hT => ?_
 have hKp : _ ∧ _ := ⟨hT 4, hT 5⟩
 simp (decide := true) only [Fact.G, hf.size, reduceIte, s4] at hKp
 replace hf := hf1; clear hT hf1 s0 s1 s4 s6 s19 b20 b21 b22 b23
 obtain ⟨s4, s5⟩ := hKp
 refine nx (hK8 _ _ ?_)
 refine wp_ret ?_
 refine Fact.block_ret ?_
 refine Fact.then_ret ?_
 refine Fact.then_ret ?_
 refine Fact.block_ret ?_
 refine Fact.then_ret ?_
 refine ret_ct rfl hf s4 s5 (set_block (set_block (set_block hx0 _) _) _) Tryz.underlying47 rfl (by kernel_rfl) ⟨?_, ((hb0.setCell (p := ⟨w.heap.size, 0, none⟩) (Nat.le_refl _) _).setCell (p := ⟨w.heap.size, 1, none⟩) (Nat.le_refl _) _).setCell (p := ⟨w.heap.size, 2, none⟩) (Nat.le_refl _) _⟩
 rw [HFS.out]
 rfl)
 · (
 have hfs : findE (es.take (i + 1)) s = none := find_not HI.out HFI.out (str_ne hq2)
 have HFS := Lib.hid hfs; clear hfs hq2
 refine wp_skip ?_
 refine Fact.block_normal ?_
 refine nx (hK6 _ _ ?_)
 refine rg ?_
 have b11 := hf.b 11
 have b12 := hf.b 12
 refine fp fun K Z => ?_
 go_simp
 apply Z.out; clear Z K
 refine fp fun K Z => ?_
 go_simp
 try simp (disch := omega) only [Fact.W]
 apply Z.out; clear Z K
 refine fp fun K Z => ?_
 go_simp
 apply Z.out; clear Z K
 refine Fact.z hf fun fr1 hf1 hT => ?_
 have hKp : _ ∧ _ ∧ _ ∧ _ := ⟨hT 0, hT 1, hT 4, hT 6⟩
 simp (decide := true) only [Fact.G, hf.size, reduceIte, s0, s1, s4] at hKp
 replace hf := hf1; clear hT hf1 s0 s1 s4 s6 s19 b11 b12
 obtain ⟨s0, s1, s4, s6⟩ := hKp
 refine Fact.then_normal ?_
 exact ⟨_, by have := HK.out; omega, i + 1, rfl, by omega, hf, s0, s1, s4, by rw [s6]; rfl, HFS.out, rfl⟩))
 · (
 have hie : i = es.length := by have h9 := of_decide_eq_false hq; omega
 have hfn : findE es s = none := by have h9 := HFI.out; rwa [hie, List.take_length] at h9
 have HFN := Lib.hid hfn; clear hfn hie hq
 have z0 := cell_of_row _ _ 0 _ 47 (0, 0) hx0; have z1 := cell_of_row _ _ 1 _ 47 (0, 0) hx0; have z2 := cell_of_row _ _ 2 _ 47 (0, 0) hx0
 simp at z0 z1 z2
 have f0 := frozen_of (i := 0) hx0; have f1 := frozen_of (i := 1) hx0; have f2 := frozen_of (i := 2) hx0
 refine wp_exit ?_
 refine Fact.then_exit ?_
 refine Fact.then_exit ?_
 refine Fact.block_exit ?_
 refine nx (hK2 _ _ ?_)
 refine Fact.sq fun K9 hK9 => ?_
 refine rg ?_
 have b24 := hf.b 24
 iterate 3 (refine fp fun K Z => ?_; go_simp; apply Z.out; clear Z K)
 refine Fact.z hf fun fr1 hf1 hT => ?_
 have hKp : _ ∧ _ := ⟨hT 4, hT 5⟩
 simp (decide := true) only [Fact.G, hf.size, reduceIte, s4] at hKp
 replace hf := hf1; clear hT hf1 s0 s1 s4 s6 s10 b24
 obtain ⟨s4, s5⟩ := hKp
 refine nx (hK9 _ _ ?_)
 refine wp_ret ?_
 refine ret_ct rfl hf s4 s5 (set_block (set_block (set_block hx0 _) _) _) Tryz.underlying47 rfl (by kernel_rfl) ⟨?_, ((hb0.setCell (p := ⟨w.heap.size, 0, none⟩) (Nat.le_refl _) _).setCell (p := ⟨w.heap.size, 1, none⟩) (Nat.le_refl _) _).setCell (p := ⟨w.heap.size, 2, none⟩) (Nat.le_refl _) _⟩
 rw [HFN.out]
 rfl))
end Dw
end Go.Proofs.YtdkbgbdgmihlmaaGreatDoor
