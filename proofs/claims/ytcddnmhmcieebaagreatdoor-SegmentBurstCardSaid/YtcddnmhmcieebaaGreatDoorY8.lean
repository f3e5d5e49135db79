/- Dawg: Build. -/
import Derived.Test.YtcddnmhmcieebaaGreatDoorY7
import Derived.Test.YtcddnmhmcieebaaGreatDoorTools
import Derived.Test.YtcddnmhmcieebaaGreatDoorY1
import Derived.Test.YtcddnmhmcieebaaGreatDoorDLawP
namespace Go.Proofs.YtcddnmhmcieebaaGreatDoor
open Go.RowKit
set_option linter.unusedSimpArgs false
set_option linter.unusedVariables false
set_option linter.unnecessarySimpa false
namespace Dw

open Go.Maps
def PB (W2 : World) (own4 : Nat → Nat) (base g : Nat) (wv : Value) (mb : Nat) (ss : List State) : Stab.Pr := fun _ w => ∃ ownF svF, (∀ k, k < W2.heap.size → ownF k = own4 k) ∧ Reg w base ownF g 123 [wv] svF mb ss
theorem PB.stable (W2 : World) (own4 : Nat → Nat) (base g : Nat) (wv : Value) (mb : Nat) (ss : List State) : Stab.Stable (PB W2 own4 base g wv mb ss) := fun _ w w' hb ⟨ownF, svF, h1, h3⟩ => ⟨ownF, svF, h1, h3.later hb⟩
theorem lastW_succ {es : List Ent} {i : Nat} {e : Ent} (h : es[i]? = some e) : lastW es (i + 1) = e.word := by simp [lastW, h]
theorem lastW_size {es : List Ent} (h : chkN es = 0) (i : Nat) : (lastW es i).size ≤ 1000000 := by
  cases i with
  | zero => show (⟨#[]⟩ : ByteArray).size ≤ 1000000; decide
  | succ i =>
    simp only [lastW]
    cases hi : es[i]? with
    | none => show (⟨#[]⟩ : ByteArray).size ≤ 1000000; decide
    | some e => have := okW_size ((chk_all es none h).1 e (List.mem_of_getElem? hi)); simp; omega
set_option maxHeartbeats 4000000 in
set_option maxRecDepth 100000 in
theorem build8b (w : World) (es : List Ent) (B : Nat) (v : Value) (hB : B ≤ w.heap.size) (hre : RE w B v es) (hlen : es.length ≤ 100) (hchk : chkN es ≠ 0) : Calls Tryz.prog 27 #[v] w fun e w1 => e = .returned (.tuple #[.agg #[.slice none 0 0, .int .u64 0], .int .i64 (chkN es : Nat)]) ∧ Below w.heap.size w w1 := by
 refine Zn1 61 Tryz.func27 fun fr hf s0 => ?_
 have hre0 := hre.any
 clear hre
 have HC := Lib.hid hchk; clear hchk
 refine Ze fun _ hK1 => ?_
 refine Zr [] hf ?_
 refine Zq2 0 2 hf ?_
 clear hf s0; intro fr1 hf sS
 obtain ⟨W0, hW0⟩ : ∃ W0, w.alloc (.cells #[.slice none 0 0, .int .u64 0] 38) = W0 := ⟨_, rfl⟩
 try rw [hW0]
 obtain ⟨hb0, -, -, hp0, hz0_⟩ := box2 hW0
 clear hW0
 have hz0 : w.heap.size < W0.heap.size := by rw [hz0_]; exact Nat.lt_succ_self _
 clear hz0_
 have hreW := (hre0.below hb0).any
 refine Zs hK1 fun _ hK2 => ?_
 refine Ze fun _ hK3 => rg ?_
 have bB := hf.B5 13 14 12 15 16
 refine Za ?_
 refine fp fun K Z => ?_
 go_simp
 go_at_call 50; refine (echk27 W0 es W0.heap.size v (Nat.le_refl _) hreW (by omega)).mono ?_; rintro e w1 ⟨n1, rfl, hb1⟩
 try dsimp only
 apply Z.out; clear Z K
 iterate 5 refine Za ?_
 refine Fact.nil (Zq3 0 2 5 hf ?_)
 clear hf sS bB; intro fr1 hf sS
 have hp1 := (hb1.block _ (heap_lt hp0)).trans hp0
 clear hreW hp0
 have hbw := hb0.trans (hb1.mono hb0.size)
 have hw1 : w.heap.size < w1.heap.size := by have := hb1.size; omega
 refine Zs hK3 fun _ hK4 => ?_
 refine Zr [17] hf ?_
 refine Zq4 0 2 5 18 hf ?_
 clear hf sS; intro fr1 hf sS
 refine Zx hK4 ?_
 have q18 : fr1.tmps[18]? = some (.bool true) := by rw [sS.2.2.2]; have := HC.out; simp; omega
 obtain ⟨s0, s2, s5, s18⟩ := sS
 clear s18
 have s18 := q18; clear q18
 refine Fact.cond_t s18 ?_
 have z0 := cell_of_row _ _ 0 _ 38 (0, 0) hp1; have z1 := cell_of_row _ _ 1 _ 38 (0, 0) hp1; have fz0 := frozen_of (i := 0) hp1; have fz1 := frozen_of (i := 1) hp1
 simp at z0 z1
 refine Ze fun _ hK5 => ?_
 refine Zr [19, 20] hf ?_
 refine Zq2 2 3 hf ?_
 clear hf s0 s2 s5 s18; intro fr1 hf sS
 refine Zx hK5 ?_
 refine Zret ?_
 exact ret_ct rfl hf sS.1 sS.2 (set_block (set_block hp1 _) _) Tryz.underlying38 rfl (by kernel_rfl) ⟨rfl, (hbw.setCell (p := ⟨w.heap.size, 0, none⟩) (Nat.le_refl _) _).setCell (p := ⟨w.heap.size, 1, none⟩) (Nat.le_refl _) _⟩
set_option maxHeartbeats 4000000 in
set_option maxRecDepth 100000 in
theorem build8g (w : World) (es : List Ent) (B : Nat) (v : Value) (hB : B ≤ w.heap.size) (hre : RE w B v es) (hlen : es.length ≤ 100) (hes : ∀ e ∈ es, okE e) (hchk : chkN es = 0) : Calls Tryz.prog 27 #[v] w fun e w1 => ∃ sv, e = .returned (.tuple #[.agg #[sv, .int .u64 (build (es.map wvE)).init], .int .i64 0]) ∧ RS w1 sv (build (es.map wvE)).states ∧ (∀ s ∈ (build (es.map wvE)).states, okK s) ∧ (build (es.map wvE)).states.length ≤ 2 + 255 * es.length ∧ Below w.heap.size w w1 := by
 have hmm := @run_makeMap Tryz.prog
 have hms := make73
 refine Zn1 61 Tryz.func27 fun fr hf s0 => ?_
 have hre0 := hre.any
 clear hre
 have HC := Lib.hid hchk; clear hchk
 clear hmm hms
 refine Ze fun _ hK1 => ?_
 refine Zr [] hf ?_
 refine Zq2 0 2 hf ?_
 clear hf s0; intro fr1 hf sS
 obtain ⟨W0, hW0⟩ : ∃ W0, w.alloc (.cells #[.slice none 0 0, .int .u64 0] 38) = W0 := ⟨_, rfl⟩
 try rw [hW0]
 obtain ⟨hb0, -, -, hp0, hz0_⟩ := box2 hW0
 clear hW0
 have hz0 : w.heap.size < W0.heap.size := by rw [hz0_]; exact Nat.lt_succ_self _
 clear hz0_
 have hreW := (hre0.below hb0).any
 refine Zs hK1 fun _ hK2 => ?_
 refine Ze fun _ hK3 => rg ?_
 have bB := hf.B5 13 14 12 15 16
 refine Za ?_
 refine fp fun K Z => ?_
 go_simp
 go_at_call 50; refine (echk27 W0 es W0.heap.size v (Nat.le_refl _) hreW (by omega)).mono ?_; rintro e w1 ⟨n1, rfl, hb1⟩
 rw [HC.out]
 try dsimp only
 apply Z.out; clear Z K
 iterate 5 refine Za ?_
 refine Fact.nil (Zq3 0 2 5 hf ?_)
 clear hf sS bB; intro fr1 hf sS
 have hp1 := (hb1.block _ (heap_lt hp0)).trans hp0
 clear hreW hp0
 have hbw := hb0.trans (hb1.mono hb0.size)
 have hw1 : w.heap.size < w1.heap.size := by have := hb1.size; omega
 refine Zs hK3 fun _ hK4 => ?_
 refine Zr [17] hf ?_
 refine Zq4 0 2 5 18 hf ?_
 clear hf sS; intro fr1 hf sS
 refine Zx hK4 ?_
 refine Fact.cond_f sS.2.2.2 ?_
 have hmm := @run_makeMap Tryz.prog
 have hms := make73
 skip
 refine wp_skip ?_
 refine Zs hK2 fun _ hK5 => ?_
 refine Zr [21, 22, 23, 24, 25] hf ?_
 refine Zq3 0 2 6 hf ?_
 clear hf sS; intro fr1 hf sS
 clear hmm hms
 obtain ⟨W2, hW2⟩ : ∃ W2, ((w1.alloc (.map #[] 0)).alloc (.cells #[.slice none 0 0, .bool false, .int .u64 0, .int .u8 0] 126)).alloc (.cells #[.slice none 0 0, .map (some w1.heap.size), .slice (some ⟨w1.heap.size + 1, 0, none⟩) 1 1] 123) = W2 := ⟨_, rfl⟩
 try rw [hW2]
 obtain ⟨s0, s2, s6⟩ := sS
 try simp only [World.size_alloc] at s6
 try rw [show w1.heap.size + 1 + 1 = w1.heap.size + 2 from rfl] at s6
 obtain ⟨hB2, hb2⟩ := Bld.start w1 w.heap.size (Nat.le_of_lt hw1) hW2
 have ho2 : ownS w.heap.size w1.heap.size w.heap.size = 0 := by unfold ownS; rw [if_neg (by omega), if_neg (by omega), if_neg (by omega), if_neg (by omega)]
 clear hW2
 have hp2 := (hb2.block _ (heap_lt hp1)).trans hp1
 have hbw2 := hbw.trans (hb2.mono (Nat.le_of_lt hw1))
 obtain ⟨g, hg⟩ : ∃ g, w1.heap.size + 2 = g := ⟨_, rfl⟩
 rw [hg] at s6 hB2
 obtain ⟨mb, hmb⟩ : ∃ mb, w1.heap.size = mb := ⟨_, rfl⟩
 rw [hmb] at hB2 ho2
 obtain ⟨own2, hown2⟩ : ∃ f, ownS w.heap.size mb = f := ⟨_, rfl⟩
 rw [hown2] at hB2 ho2
 obtain ⟨A, cc, rfl, hcc⟩ := hre0.form
 clear hg hown2 hmb hp1 hbw hw1 hb2
 have HO2 := Lib.hid ho2; clear ho2
 refine Zs hK5 fun _ hK6 => ?_
 refine Zr [] hf ?_
 refine Zq4 0 2 6 7 hf ?_
 clear hf s0 s2 s6; intro fr1 hf sS
 refine Zs hK6 fun _ hK7 => ?_
 refine Ze fun _ hK8 => ?_
 refine Zr [26] hf ?_
 refine Zq6 2 6 7 26 27 28 hf ?_
 clear hf sS; intro fr1 hf sS
 refine Zx hK8 ?_
 refine wp_block ?_
 have HES := Lib.hid hes; clear hes
 refine wp_loop_ghost (fun gk fr wr => ∃ (i : Nat) (ownr : Nat → Nat) (svr wvr : Value) (ssr : List State) (wayr : List Open), gk = es.length - i ∧ i ≤ es.length ∧ Fact.Fr 61 fr ∧ fr.tmps[2]? = some (.pointer (some ⟨w.heap.size, 0, none⟩)) ∧ fr.tmps[6]? = some (.pointer (some ⟨g, 0, none⟩)) ∧ fr.tmps[7]? = some (.string (lastW es i)) ∧ fr.tmps[26]? = some (.slice A es.length cc) ∧ fr.tmps[27]? = some (.int .i64 es.length) ∧ fr.tmps[28]? = some (.int .i64 i) ∧ Bld wr w.heap.size ownr g svr mb ssr wvr 0 wayr ∧ wayr ≠ [] ∧ adds ([], [⟨zeroS, 0⟩]) [] ((es.take i).map wvE) = (ssr, wayr) ∧ BndU i (1 + 255 * i) ssr wayr ∧ wr.heap[w.heap.size]? = some (.cells #[.slice none 0 0, .int .u64 0] 38 (0, 0)) ∧ ownr w.heap.size = 0 ∧ Below w.heap.size w wr) (es.length) ?_ ?_
 · (
 obtain ⟨s2, s6, s7, s26, s27, s28⟩ := sS
 exact ⟨0, own2, _, _, [], [⟨zeroS, 0⟩], rfl, Nat.zero_le _, hf, s2, s6, s7, s26, s27, s28, hB2, by simp, rfl, ⟨fun o ho => by simp at ho; subst ho; exact zero_okO 0 (by omega), by simp⟩, hp2, HO2.out, hbw2⟩)
 · (
 clear hf sS
 rintro gk fr wr ⟨i, ownr, svr, wvr, ssr, wayr, hk, hi, hf, s2, s6, s7, s26, s27, s28, hBr, hner, had, hbd, hpr, hpo, hb⟩
 have HK := Lib.hid hk; have HA := Lib.hid had; have HPO := Lib.hid hpo; clear hk had hpo hB2 hp2 hbw2
 have hre2 := hre0.below hb
 refine Ze fun _ hK9 => ?_
 refine Zr [] hf ?_
 refine Zq7 2 6 7 26 27 28 29 hf ?_
 clear hf s2 s6 s7 s26 s27 s28; intro fr1 hf sS
 refine Zs hK9 fun _ hK10 => ?_
 refine Fact.cond_s sS.2.2.2.2.2.2 (fun hq => ?_) (fun hq => ?_)
 · (
 have hlt : i < es.length := by have h9 := of_decide_eq_true hq; omega
 have HQ := Lib.hid hq; clear hq
 obtain ⟨e, hie⟩ : ∃ e, es[i]? = some e := ⟨_, List.getElem?_eq_getElem hlt⟩
 obtain ⟨b, off, rfl, hbB, hbl, d0, d1, d2⟩ := hre2.at_ hie
 have hem := List.mem_of_getElem? hie
 have hoe := HES.out e hem
 have hsz := okW_size ((chk_all es none HC.out).1 e hem)
 have HE := Lib.hid hie; clear hie hem
 obtain ⟨own3, h3ge, h3lt, hB3⟩ := own_anew hBr
 have H3 := Lib.hid h3ge; have H4 := Lib.hid h3lt; clear h3ge h3lt hBr
 have hbase := hB3.reg.base_le
 refine wp_skip ?_
 refine Zs hK10 fun _ hK11 => ?_
 refine wp_block ?_
 refine Ze fun _ hK12 => ?_
 refine Zr [30, 31, 9] hf ?_
 refine Zq7 2 6 7 9 26 27 28 hf ?_
 clear hf sS; intro fr1 hf sS
 obtain ⟨W3, hW3⟩ : ∃ W0, wr.alloc (.cells #[.string e.word, .int .u32 e.weight, .bool e.gone] 64) = W0 := ⟨_, rfl⟩
 try rw [hW3]
 obtain ⟨hb3, x0, x1, x2, hq3, hz3_⟩ := box3 hW3
 clear hW3
 have hz3 : wr.heap.size < W3.heap.size := by rw [hz3_]; exact Nat.lt_succ_self _
 clear hz3_
 clear d0 d1 d2
 have hB4 := hB3.later hb3
 have hp3 := (hb3.block _ (heap_lt hpr)).trans hpr
 clear hB3
 refine Zt hK12 fun _ hK13 => ?_
 have bB := hf.B3 32 33 34
 iterate 3 refine Za ?_
 refine fp fun K Z => ?_
 go_simp
 go_at_call 51; refine (add28 W3 (lastW es i) e hB4 hner hbd (by omega) (by omega) hoe (lastW_size HC.out i)).mono ?_; rintro e w5 ⟨rfl, own5, sv5, wv5, hB5, hk5, hb5⟩
 try dsimp only
 apply Z.out; clear Z K
 refine Fact.nil (Zq6 2 6 9 26 27 28 hf ?_)
 clear hf sS bB; intro fr1 hf sS
 have hq5 := hb5.heap hq3 (fun h => h.1 (H3.out _ (Nat.le_refl _)))
 have x5 := cell_of_row _ _ 0 _ 64 (0, 0) hq5
 simp at x5
 clear x0 x1 x2 hq3
 have hp30 : own3 w.heap.size = 0 := (H4.out _ (heap_lt hpr)).trans HPO.out
 have hp5 := hb5.heap hp3 (fun h => h.1 hp30)
 have hp50 : own5 w.heap.size = 0 := (hk5 _ (heap_lt hp3) (.inl hp30)).trans hp30
 have HP5 := Lib.hid hp50; have HP3 := Lib.hid hp30; clear hp50 hp30
 refine Zx hK13 ?_
 refine Zr [36, 37] hf ?_
 refine Zq6 2 6 7 26 27 28 hf ?_
 clear hf sS; intro fr1 hf sS
 refine Fact.block_normal ?_
 refine Zx hK11 ?_
 refine Zr [38] hf ?_
 refine Zq6 2 6 7 26 27 28 hf ?_
 clear hf sS; intro fr1 hf sS
 refine Fact.then_normal ?_
 have hbU := hbd.add (last := wl (lastW es i)) (e := wvE e) (by omega) (by omega) (wl_lt e.word) (by have := valE_lt hoe; show valE e < _; omega)
 have hlen2 : (wvE e).1.length = e.word.size := wl_length _
 rw [hlen2] at hbU
 obtain ⟨s2, s6, s7, s26, s27, s28⟩ := sS
 exact ⟨_, by have := HK.out; omega, i + 1, own5, sv5, wv5, _, _, rfl, by omega, hf, s2, s6, by rw [s7, lastW_succ HE.out], s26, s27, by rw [s28]; rfl, hB5, add_ne _ _ _ _ hner, by rw [adds_step HE.out, HA.out], ⟨hbU.all, by have := hbU.size; omega⟩, hp5, HP5.out, hb.trans ((hb3.mono hb.size).trans (But.lo hb5 (by have := hb.size; have := hb3.size; omega) hB4.reg.lo))⟩)
 · (
 have hie : i = es.length := by have h9 := of_decide_eq_false hq; omega
 have ha2 := HA.out
 rw [hie, List.take_length] at ha2
 have HA2 := Lib.hid ha2; clear ha2 hq
 have HIE := Lib.hid hie; clear hie
 refine Zo ?_
 refine Zt hK7 fun _ hK14 => ?_
 have bB := hf.b 39
 refine Za ?_
 refine fp fun K Z => ?_
 go_simp
 go_at_call 52; refine (close29 wr 0 hBr hner hbd.bnd (by omega) (by omega) (by omega)).mono ?_; rintro e w2 ⟨rfl, own3, sv3, wv3, hB3, hk3, hb3⟩
 try dsimp only
 apply Z.out; clear Z K
 refine Fact.nil (Zq2 2 6 hf ?_)
 clear hf sS bB; intro fr1 hf sS
 have hU := Bnd.closeN (by omega) (by omega) (wayr.length - (0 + 1)) ssr wayr hbd.bnd
 have hU2 : Bnd i (1 + 255 * i) (close ssr wayr 0).1 (close ssr wayr 0).2 := hU
 clear hU
 obtain ⟨o, hco⟩ := close_zero ssr wayr hner
 obtain ⟨ss3, hss3⟩ : ∃ x, (close ssr wayr 0).1 = x := ⟨_, rfl⟩
 rw [hss3, hco] at hB3 hU2
 have HS3 := Lib.hid hss3; have HCO := Lib.hid hco; clear hss3 hco
 have hp3 := hb3.heap hpr (fun h => h.1 HPO.out)
 have hp30 : own3 w.heap.size = 0 := (hk3 _ (heap_lt hpr) (.inl HPO.out)).trans HPO.out
 have hbw3 := hb.trans (But.lo hb3 hBr.reg.base_le hBr.reg.lo)
 clear hb3 hk3 hBr hpr
 obtain ⟨own0, h0ge, h0lt, hBs⟩ := own_anew hB3
 have hp00 : own0 w.heap.size = 0 := (h0lt _ (heap_lt hp3)).trans hp30
 have H0 := Lib.hid h0ge; have HP0 := Lib.hid hp00; clear h0ge h0lt hB3 hp30 hp00
 obtain ⟨wb, c, av, rfl, hcc2, hwb, d0, d1, d2, d3, hoa, hav⟩ := hBs.top
 simp only [List.length_nil, Nat.zero_mul, Nat.zero_add, Nat.add_zero] at d0 d1 d2 d3 hav
 have q2 := hBs.cell2
 have hoo := hU2.head o rfl
 have hus := hU2.size
 obtain ⟨Aa, ca, rfl, hca⟩ := (OA.ra (B := fun _ => True) hoa (fun _ _ => trivial)).form
 have HWB := Lib.hid hwb; clear hwb
 have hb3s := hbw3.size
 refine Zt hK14 fun _ hK15 => ?_
 have bB := hf.B7 41 42 43 44 45 46 10
 iterate 4 refine Za ?_
 refine fp fun K Z => ?_
 go_simp
 try rw [if_pos (by omega)]
 try simp
 apply Z.out; clear Z K
 iterate 3 refine Za ?_
 refine Fact.nil (Zq3 2 6 10 hf ?_)
 clear hf sS bB; intro fr1 hf sS
 obtain ⟨W6, hW6⟩ : ∃ W0, w2.alloc (.cells #[.slice Aa o.st.arcs.length ca, .bool o.st.final, .int .u64 o.st.out, .int .u8 o.by_] 126) = W0 := ⟨_, rfl⟩
 try rw [hW6]
 obtain ⟨hb6, -, -, -, -, hq6, hz6_⟩ := box4 hW6
 clear hW6
 have hz6 : w2.heap.size < W6.heap.size := by rw [hz6_]; exact Nat.lt_succ_self _
 clear hz6_
 have hB6 := (hBs.later hb6).forget
 have hoa6 : OA W6 w.heap.size (.slice Aa o.st.arcs.length ca) o.st.arcs := own_later hoa hb6
 have hp6 := (hb6.block _ (heap_lt hp3)).trans hp3
 clear d0 d1 d2 d3 hoa q2
 refine Zs hK15 fun _ hK16 => ?_
 obtain ⟨n, hn⟩ : ∃ n, leastOf o.st = n := ⟨_, rfl⟩
 have HN := Lib.hid hn; clear hn
 refine rg ?_
 have bB := hf.b 47
 refine fp fun K Z => ?_
 go_simp
 go_at_call 53; refine (push30 W6 w2.heap.size o.by_ w.heap.size o.st _ hoo.ok hq6 hoa6).mono ?_; rintro e w7 ⟨rfl, hq7, hoa7, hbt7⟩
 rw [HN.out] at hq7 hoa7
 rw [HN.out]
 try dsimp only
 apply Z.out; clear Z K
 refine Za ?_
 refine Fact.nil (Zq4 2 6 10 11 hf ?_)
 clear hf sS bB; intro fr1 hf sS
 have hB7 := hB6.but hbt7 (fun k hk => by rcases hk with rfl | hk; exact .inl (H0.out _ (Nat.le_refl _)); right; have := hav k hk; simp only [List.length_nil]; omega)
 have hp7 := hbt7.heap hp6 (fun h => by rcases h with h | h; (have h5 := heap_lt hp3; omega); (have := hav _ h; have := HP0.out; omega))
 have hsz7 := hbt7.size
 have hbw7 : Below w.heap.size w w7 := hbw3.trans ((hb6.mono hb3s).trans (But.below hbt7 (by omega) (fun k hk => by rcases hk with rfl | hk; exact hb3s; exact (hoa6.lt k hk).1)))
 have h4eq : ∀ k, own0 k ≠ 6 → (if (.slice Aa o.st.arcs.length ca : Value).ownBlock = some k then 4 else own0 k) = own0 k := fun k hk => if_neg (fun h => hk (hav k h))
 have hB4 := hB7.reg.told (own' := fun k => if (.slice Aa o.st.arcs.length ca : Value).ownBlock = some k then 4 else own0 k) (fun k hk => by rw [h4eq k (by have := hB7.reg.lo k hk; omega)]; exact hB7.reg.lo k hk) (fun k _ h1 h2 => h4eq k (by omega))
 have hra : RA w7 (fun k => (if (.slice Aa o.st.arcs.length ca : Value).ownBlock = some k then 4 else own0 k) = 4) (.slice Aa o.st.arcs.length ca) (less o.st n).arcs := OA.ra hoa7 (fun k hk => if_pos hk)
 obtain ⟨own4, hown4⟩ : ∃ f, (fun k => if (.slice Aa o.st.arcs.length ca : Value).ownBlock = some k then 4 else own0 k) = f := ⟨_, rfl⟩
 have hp40 : own4 w.heap.size = 0 := by rw [← hown4]; exact (h4eq _ (by have := HP0.out; omega)).trans HP0.out
 rw [hown4] at hB4
 replace hra : RA w7 (fun k => own4 k = 4) (.slice Aa o.st.arcs.length ca) (less o.st n).arcs := by rw [← hown4]; exact hra
 have HP4 := Lib.hid hp40; clear hp40 h4eq hown4 hB7 hoa7 hbt7 hp6 hB6 hoa6 hq6
 have g0 := cell_of_row _ _ 0 _ 126 (0, 0) hq7; have g1 := cell_of_row _ _ 1 _ 126 (0, 0) hq7; have g2 := cell_of_row _ _ 2 _ 126 (0, 0) hq7
 simp at g0 g1 g2
 refine Zs hK16 fun _ hK17 => ?_
 obtain ⟨s2, s6, s10, s11⟩ := sS
 refine Stam.todo_begin (n := 61) (fun _ k => own4 k = 1 ∨ own4 k = 2 ∨ own4 k = 3) [5] (Stab.OkOps.of (by kernel_rfl)) (fun hok => ?_)
 refine Stam.mvO (k := 0) s6 hf.size hok.out rfl (by kernel_rfl) rfl rfl (.inl rfl) (by kernel_rfl) ?_
 apply Stam.tq 1 _ hf hok
 · (
 intro fr1 w1 hh hd hk K Z
 refine Stab.pl ?_
 have s48 := Stam.v 0 0 hd hk []
 have hxe := Stam.ext_at hh [(5, [2])] (by kernel_rfl)
 have hbt := Stam.but_at hh [] [(5, [2])] (by kernel_rfl)
 clear hd hh
 go_simp
 exact Stab.k Z)
 apply Stam.tq 2 _ hf hok
 · (
 intro fr1 w1 hh hd hk K Z
 refine Stab.pl ?_
 have s49 := Stam.v 1 0 hd hk []
 have hxe := Stam.ext_at hh [(5, [])] (by kernel_rfl)
 have hbt := Stam.but_at hh [] [(5, [])] (by kernel_rfl)
 clear hd hh
 go_simp
 exact Stab.k Z)
 apply Stam.tq 3 _ hf hok
 · (
 intro fr1 w1 hh hd hk K Z
 refine Stab.pl ?_
 have s10 := Stam.o hh (by kernel_rfl) s10
 have hxe := Stam.ext_at hh [(5, [4])] (by kernel_rfl)
 have hbt := Stam.but_at hh [] [(5, [4])] (by kernel_rfl)
 clear hd hh
 go_simp
 exact Stab.k Z)
 apply Stam.tq 4 _ hf hok
 · (
 intro fr1 w1 hh hd hk K Z
 refine Stab.pl ?_
 have s51 := Stam.v 3 0 hd hk []
 have hxe := Stam.ext_at hh [(5, [])] (by kernel_rfl)
 have hbt := Stam.but_at hh [] [(5, [])] (by kernel_rfl)
 clear hd hh
 have f0 := cL hxe g0; have f1 := cL hxe g1; have f2 := cL hxe g2
 go_simp
 exact Stab.k Z)
 refine Stam.todo_sp (k := 5) (n := 61) (PB w7 own4 w.heap.size g (.slice (some ⟨wb, 0, none⟩) 1 c) mb (finish ss3 (less o.st n)).1) hf.size hok.out rfl (PB.stable _ _ _ _ _ _ _) (by kernel_rfl) ?_ ?_
 · (
 intro fr1 w1 hh hd hk K Z
 refine Stab.pl ?_
 have s50 := Stam.v 2 2 hd hk []
 have s52 := Stam.v 4 0 hd hk []
 have hxe := Stam.ext_at hh [] (by kernel_rfl)
 have hbt := Stam.but_at hh [] [] (by kernel_rfl)
 clear hd hh
 go_simp
 go_at_call 54; refine (finish31 w1 (hB4.later hxe) (hra.later hxe) (less_ok hoo (by omega)) (by simp only [List.length_cons, List.length_nil] at hus; omega)).mono ?_; rintro e w2 ⟨rfl, ownF, svF, hF1, hF2, hF3, hF4⟩
 exact Z.out _ rfl _ _ hF4 ⟨ownF, svF, fun k hk1 => hF1 k (by have := hxe.size; omega), hF3⟩)
 refine Stam.todo_facts (n := 61) (by kernel_rfl) hf.size hok.out rfl (fun fr1 w1 hh hg => ?_)
 replace s2 := Stam.o hh (by kernel_rfl) s2
 replace s6 := Stam.o hh (by kernel_rfl) s6
 replace s11 := Stam.o hh (by kernel_rfl) s11
 obtain ⟨_, hlast⟩ := Stam.end_fact (j := 5) (m := 0) hg rfl (by decide) [] (by kernel_rfl) rfl
 have hf1 := hh.fr hf
 have hbt := hh.but
 clear hg hh hf hok s10
 have hf := hf1; clear hf1
 obtain ⟨ownF, svF, hF1, hF3⟩ := hlast
 replace hbt := hbt (fun k => own4 k = 1 ∨ own4 k = 2 ∨ own4 k = 3) (fun m _ b h => h)
 have hp8 := hbt.heap hp7 (fun h => by have := HP4.out; have h : own4 w.heap.size = 1 ∨ own4 w.heap.size = 2 ∨ own4 w.heap.size = 3 := h; omega)
 have hpF : ownF w.heap.size = 0 := (hF1 _ (heap_lt hp7)).trans HP4.out
 obtain ⟨As, cs, hsv, hcs⟩ := hF3.form
 subst hsv
 have r0 := hF3.cell0
 have z0 := cell_of_row _ _ 0 _ 38 (0, 0) hp8; have z1 := cell_of_row _ _ 1 _ 38 (0, 0) hp8; have fz0 := frozen_of (i := 0) hp8; have fz1 := frozen_of (i := 1) hp8
 simp at z0 z1
 have hbw8 : Below w.heap.size w _ := hbw7.trans (But.below hbt (by have := hbw7.size; omega) (fun k hk => by rcases Nat.lt_or_ge k w.heap.size with h | h; (have := hB4.lo k h; omega); exact h))
 have HPF := Lib.hid hpF; clear hpF hra hB4 g0 g1 g2 hq7
 refine Zs hK17 fun _ hK18 => ?_
 refine Zr [54, 55, 56, 57, 58, 59, 60] hf ?_
 refine Zq2 2 3 hf ?_
 clear hf s2 s6 s11; intro fr1 hf sS
 refine Zx hK18 ?_
 refine Zret ?_
 have hS : ∀ k, k = w.heap.size → ownF k = 0 ∨ 5 ≤ ownF k := fun k hk => by subst hk; exact .inl HPF.out
 have hF5 := (hF3.but (But.setCell (S := fun k => k = w.heap.size) (p := ⟨w.heap.size, 0, none⟩) rfl (.slice As (finish ss3 (less o.st n)).1.length cs)) hS).but (But.setCell (S := fun k => k = w.heap.size) (p := ⟨w.heap.size, 1, none⟩) rfl (.int .u64 n)) hS
 have hbd2 : build (es.map wvE) = ⟨(finish ss3 (less o.st n)).1, n⟩ := by unfold build; rw [HA2.out]; simp only [HS3.out, HCO.out, List.headD_cons, HN.out]
 rw [hbd2]
 have hl9 : (finish ss3 (less o.st n)).1.length ≤ 2 + 255 * es.length := by have h1 := (finish_length ss3 (less o.st n)).1; have h2 := hU2.size; simp only [List.length_cons, List.length_nil] at h2; omega
 exact ret_ct rfl hf sS.1 sS.2 (set_block (set_block hp8 _) _) Tryz.underlying38 rfl (by kernel_rfl) ⟨_, rfl, hF5.rs, hF5.good, hl9, (hbw8.setCell (p := ⟨w.heap.size, 0, none⟩) (Nat.le_refl _) _).setCell (p := ⟨w.heap.size, 1, none⟩) (Nat.le_refl _) _⟩))
end Dw
end Go.Proofs.YtcddnmhmcieebaaGreatDoor

namespace Go.Proofs.YtcddnmhmcieebaaGreatDoor
open Go.RowKit
set_option linter.unusedSimpArgs false
set_option linter.unusedVariables false
set_option linter.unnecessarySimpa false
namespace Dw

theorem arc_cases (t i b l : Int) : t < 0 ∨ (0 ≤ t ∧ i ≤ t) ∨ (0 ≤ t ∧ t < i ∧ b ≤ l) ∨ (0 ≤ t ∧ t < i ∧ l < b) := by omega
set_option maxHeartbeats 4000000 in
set_option maxRecDepth 100000 in
theorem formed32 (w : World) (sv : Value) (init : Nat) (ss : List State) (hrs : RS w sv ss) (hok : ∀ s ∈ ss, okS s) (hlen : ss.length ≤ 1000000) : Calls Tryz.prog 103 #[.agg #[sv, .int .u64 init]] w fun e w1 => e = .returned (.bool (formedF ss)) ∧ Below w.heap.size w w1 := by
 refine Zn1 56 Tryz.func103 fun fr hf s0 => ?_
 obtain ⟨A, cc, rfl, hcc⟩ := hrs.form
 have HO := Lib.hid hok; clear hok
 refine Ze fun _ hK1 => ?_
 refine Zr [] hf ?_
 refine Zq1 1 hf ?_
 clear hf s0; intro fr1 hf s1
 obtain ⟨W0, hW0⟩ : ∃ W0, w.alloc (.cells #[.slice A ss.length cc, .int .u64 init] 38) = W0 := ⟨_, rfl⟩
 try rw [hW0]
 obtain ⟨hb0, c0, c1, -, -⟩ := box2 hW0
 clear hW0
 have hr0 := hrs.later hb0
 clear hrs
 refine Zs hK1 fun _ hK2 => ?_
 refine Ze fun _ hK3 => ?_
 refine Zr [8, 9] hf ?_
 refine Zq4 1 9 10 11 hf ?_
 clear hf s1; intro fr1 hf sS
 refine Zx hK3 ?_
 refine wp_block ?_
 refine wp_loop_ghost (fun gk fr wr => ∃ (i : Nat), gk = ss.length - i ∧ i ≤ ss.length ∧ Fact.Fr 56 fr ∧ fr.tmps[1]? = some (.pointer (some ⟨w.heap.size, 0, none⟩)) ∧ fr.tmps[9]? = some (.slice A ss.length cc) ∧ fr.tmps[10]? = some (.int .i64 ss.length) ∧ fr.tmps[11]? = some (.int .i64 i) ∧ formedL 0 ss = formedL i (ss.drop i) ∧ Below W0.heap.size W0 wr) (ss.length) ?_ ?_
 · (
 obtain ⟨s1, s9, s10, s11⟩ := sS
 exact ⟨0, rfl, Nat.zero_le _, hf, s1, s9, s10, s11, rfl, Below.refl _ _⟩)
 · (
 clear hf sS
 rintro gk fr wr ⟨i, hk, hi, hf, s1, s9, s10, s11, hfm, hb⟩
 have HK := Lib.hid hk; have HM := Lib.hid hfm; clear hk hfm
 refine Ze fun _ hK4 => ?_
 refine Zr [] hf ?_
 refine Zq5 1 9 10 11 12 hf ?_
 clear hf s1 s9 s10 s11; intro fr1 hf sS
 refine Zs hK4 fun _ hK5 => ?_
 refine Fact.cond_s sS.2.2.2.2 (fun hq => ?_) (fun hq => ?_)
 · (
 have hlt : i < ss.length := by have h9 := of_decide_eq_true hq; omega
 have HQ := Lib.hid hq; clear hq
 obtain ⟨s, his⟩ : ∃ s, ss[i]? = some s := ⟨_, List.getElem?_eq_getElem hlt⟩
 obtain ⟨b, off, av, rfl, hat⟩ := (hr0.later hb).at_ his
 have d0 := hat.c0; have d1 := hat.c1; have d2 := hat.c2
 have hra := hat.arcs
 obtain ⟨A2, c2, rfl, _⟩ := hat.arcs.form
 have hos := HO.out s (List.mem_of_getElem? his)
 have hst := formedL_step his
 have HS := Lib.hid his; have HST := Lib.hid hst; clear his hst hat
 have hal := hos.2.1
 refine wp_skip ?_
 refine Zs hK5 fun _ hK6 => ?_
 refine wp_block ?_
 refine Ze fun _ hK7 => ?_
 refine Zr [13, 14, 15, 4] hf ?_
 refine Zq6 1 3 4 9 10 11 hf ?_
 clear hf sS; intro fr1 hf sS
 obtain ⟨W5, hW5⟩ : ∃ W0, wr.alloc (.cells #[.slice A2 s.arcs.length c2, .bool s.final, .int .u64 s.out] 46) = W0 := ⟨_, rfl⟩
 try rw [hW5]
 obtain ⟨hb5, x0, x1, x2, -, -⟩ := box3 hW5
 clear hW5
 clear d0 d1 d2
 have hra5 := hra.later hb5
 clear hra
 have hbz0 := hb0.trans ((hb.trans (hb5.mono hb.size)).mono hb0.size)
 refine Zx hK7 ?_
 refine Fact.seq_meet (fun fr wq => Fact.Fr 56 fr ∧ fr.tmps[1]? = some (.pointer (some ⟨w.heap.size, 0, none⟩)) ∧ fr.tmps[3]? = some (.int .i64 i) ∧ fr.tmps[4]? = some (.pointer (some ⟨wr.heap.size, 0, none⟩)) ∧ fr.tmps[9]? = some (.slice (some ⟨b, off, none⟩) ss.length cc) ∧ fr.tmps[10]? = some (.int .i64 ss.length) ∧ fr.tmps[11]? = some (.int .i64 i) ∧ wq = W5 ∧ (s.final || decide (s.out = 0)) = true) ?_ ?_
 · (
 rcases hfin : s.final with _ | _
 · (
 have HFI := Lib.hid hfin; clear hfin
 have q1 := HFI.out
 refine Ze fun _ hK8 => rg ?_
 have bB := hf.B7 16 17 18 19 20 21 22
 iterate 4 refine Za ?_
 refine Zg ?_ (hv := by simp (decide := true) only [Fact.G, reduceIte, hf.size, q1, Fact.N])
 refine Zg ?_ (hv := by simp (decide := true) only [Fact.G, reduceIte, hf.size, q1, Fact.N])
 refine Zg ?_ (hv := by simp (decide := true) only [Fact.G, reduceIte, hf.size, q1, Fact.N])
 refine Za ?_
 refine Fact.nil (Zq7 1 3 4 9 10 11 23 hf ?_)
 clear hf sS bB; intro fr1 hf sS
 refine Zx hK8 ?_
 refine Fact.cond_s sS.2.2.2.2.2.2 (fun hqo => ?_) (fun hqo => ?_)
 · (
 have ho0 : s.out ≠ 0 := by simpa using hqo
 have HO0 := Lib.hid ho0; clear ho0 hqo
 have hbad : formedL 0 ss = false := by rw [HM.out, HST.out, HFI.out, decide_eq_false HO0.out]; rfl
 have HBAD := Lib.hid hbad; clear hbad
 have hbz := hbz0
 refine Ze fun _ hK9 => ?_
 refine Zr [] hf ?_
 refine Zq1 2 hf ?_
 clear hf sS; intro fr1 hf s2
 refine Zx hK9 ?_
 refine Zret ?_
 exact Fact.ret1 rfl hf s2 ⟨by rw [formedF, HBAD.out]; rfl, hbz⟩)
 · (
 have ho0 : s.out = 0 := by simpa using hqo
 have HO0 := Lib.hid ho0; clear ho0 hqo
 have hfo : (s.final || decide (s.out = 0)) = true := by rw [HFI.out, decide_eq_true HO0.out]; rfl
 have HFO := Lib.hid hfo; clear hfo
 refine wp_skip ?_
 refine Fact.then_normal ?_
 obtain ⟨s1, s3, s4, s9, s10, s11, s23⟩ := sS
 exact ⟨hf, s1, s3, s4, s9, s10, s11, rfl, (by have h9 := HFO.out; rw [HFI.out] at h9; exact h9)⟩))
 · (
 have HFI := Lib.hid hfin; clear hfin
 have q1 := HFI.out
 refine Ze fun _ hK10 => rg ?_
 have bB := hf.B7 16 17 18 19 20 21 22
 iterate 4 refine Za ?_
 refine Zk ?_ (hv := by simp (decide := true) only [Fact.G, reduceIte, hf.size, Fact.N, q1, Fact.N])
 refine Zk ?_ (hv := by simp (decide := true) only [Fact.G, reduceIte, hf.size, Fact.N, q1, Fact.N])
 refine Zk ?_ (hv := by simp (decide := true) only [Fact.G, reduceIte, hf.size, Fact.N, q1, Fact.N])
 refine Za ?_
 refine Fact.nil (Zq7 1 3 4 9 10 11 23 hf ?_)
 clear hf sS bB; intro fr1 hf sS
 refine Zx hK10 ?_
 have hfo : (s.final || decide (s.out = 0)) = true := by rw [HFI.out]; rfl
 have HFO := Lib.hid hfo; clear hfo
 refine Fact.cond_f sS.2.2.2.2.2.2 ?_
 refine wp_skip ?_
 refine Fact.then_normal ?_
 obtain ⟨s1, s3, s4, s9, s10, s11, s23⟩ := sS
 exact ⟨hf, s1, s3, s4, s9, s10, s11, rfl, (by have h9 := HFO.out; rw [HFI.out] at h9; exact h9)⟩))
 · (
 clear hf sS
 rintro fr wq ⟨hf, s1, s3, s4, s9, s10, s11, hw, hfo⟩
 subst wq
 have HFO := Lib.hid hfo; clear hfo
 refine Ze fun _ hK11 => ?_
 refine Zr [] hf ?_
 refine Zq7 1 3 4 5 9 10 11 hf ?_
 clear hf s1 s3 s4 s9 s10 s11; intro fr1 hf sS
 refine Zs hK11 fun _ hK12 => ?_
 refine Zr [24, 25] hf ?_
 refine Zq9 1 3 5 9 10 11 25 26 27 hf ?_
 clear hf sS; intro fr1 hf sS
 refine Zx hK12 ?_
 refine wp_block ?_
 refine wp_loop_ghost (fun gk2 fr wr2 => ∃ (k : Nat) (last : Int), gk2 = s.arcs.length - k ∧ k ≤ s.arcs.length ∧ Fact.Fr 56 fr ∧ fr.tmps[1]? = some (.pointer (some ⟨w.heap.size, 0, none⟩)) ∧ fr.tmps[3]? = some (.int .i64 i) ∧ fr.tmps[5]? = some (.int .i64 last) ∧ fr.tmps[9]? = some (.slice (some ⟨b, off, none⟩) ss.length cc) ∧ fr.tmps[10]? = some (.int .i64 ss.length) ∧ fr.tmps[11]? = some (.int .i64 i) ∧ fr.tmps[25]? = some (.slice A2 s.arcs.length c2) ∧ fr.tmps[26]? = some (.int .i64 s.arcs.length) ∧ fr.tmps[27]? = some (.int .i64 k) ∧ okArcs i (-1) s.arcs = okArcs i last (s.arcs.drop k) ∧ Below W5.heap.size W5 wr2) (s.arcs.length) ?_ ?_
 · (
 obtain ⟨s1, s3, s5, s9, s10, s11, s25, s26, s27⟩ := sS
 exact ⟨0, -1, rfl, Nat.zero_le _, hf, s1, s3, s5, s9, s10, s11, s25, s26, s27, rfl, Below.refl _ _⟩)
 · (
 clear hf sS
 rintro gk2 fr wr2 ⟨k, last, hk2, hki, hf, s1, s3, s5, s9, s10, s11, s25, s26, s27, hoa, hb6⟩
 have HK2 := Lib.hid hk2; have HOA := Lib.hid hoa; clear hk2 hoa
 refine Ze fun _ hK13 => ?_
 refine Zr [] hf ?_
 refine Zq10 1 3 5 9 10 11 25 26 27 28 hf ?_
 clear hf s1 s3 s5 s9 s10 s11 s25 s26 s27; intro fr1 hf sS
 refine Zs hK13 fun _ hK14 => ?_
 refine Fact.cond_s sS.2.2.2.2.2.2.2.2.2 (fun hq2 => ?_) (fun hq2 => ?_)
 · (
 have hklt : k < s.arcs.length := by have h9 := of_decide_eq_true hq2; omega
 have HQ2 := Lib.hid hq2; clear hq2
 obtain ⟨a, hka⟩ : ∃ a, s.arcs[k]? = some a := ⟨_, List.getElem?_eq_getElem hklt⟩
 obtain ⟨b3, off3, rfl, hbl, y0, y1, y2⟩ := (hra5.later hb6).at' hka
 have haa := hos.2.2 a (List.mem_of_getElem? hka)
 have hat := okArcs_step (i := i) (last := last) hka
 have HKA := Lib.hid hka; have HAT := Lib.hid hat; clear hka hat
 have hab := haa.1
 rcases arc_cases a.to (i : Int) (a.byte : Int) last with hc | hc | hc | hc
 · (
 have q2 : decide (a.to < 0) = true := decide_eq_true hc
 have HC := Lib.hid hc; clear hc
 refine wp_skip ?_
 refine Zs hK14 fun _ hK15 => ?_
 refine wp_block ?_
 refine Ze fun _ hK16 => ?_
 refine Zr [29, 30, 7] hf ?_
 refine Zq10 1 3 5 7 9 10 11 25 26 27 hf ?_
 clear hf sS; intro fr1 hf sS
 obtain ⟨W7, hW7⟩ : ∃ W0, wr2.alloc (.cells #[.int .u8 a.byte, .int .u64 a.out, .int .i64 a.to] 71) = W0 := ⟨_, rfl⟩
 try rw [hW7]
 obtain ⟨hb7, z0, -, z2, -, -⟩ := box3 hW7
 clear hW7
 clear y0 y1 y2 hbl
 have hbz := hbz0.trans ((hb6.trans (hb7.mono hb6.size)).mono hbz0.size)
 refine Zs hK16 fun _ hK17 => ?_
 refine Ze fun _ hK18 => rg ?_
 have bB := And.intro (hf.B10 31 32 33 34 35 36 37 38 39 40) (hf.B5 41 42 43 44 45)
 iterate 4 refine Za ?_
 refine Zk ?_ (hv := by simp (decide := true) only [Fact.G, reduceIte, hf.size, Fact.N, q2])
 refine Zk ?_ (hv := by simp (decide := true) only [Fact.G, reduceIte, hf.size, Fact.N, q2])
 refine Zk ?_ (hv := by simp (decide := true) only [Fact.G, reduceIte, hf.size, Fact.N, q2])
 refine Zk ?_ (hv := by simp (decide := true) only [Fact.G, reduceIte, hf.size, Fact.N, q2])
 iterate 2 refine Za ?_
 refine Zk ?_ (hv := by simp (decide := true) only [Fact.G, reduceIte, hf.size, Fact.N, q2])
 refine Zk ?_ (hv := by simp (decide := true) only [Fact.G, reduceIte, hf.size, Fact.N, q2])
 refine Zk ?_ (hv := by simp (decide := true) only [Fact.G, reduceIte, hf.size, Fact.N, q2])
 refine Zk ?_ (hv := by simp (decide := true) only [Fact.G, reduceIte, hf.size, Fact.N, q2])
 refine Zk ?_ (hv := by simp (decide := true) only [Fact.G, reduceIte, hf.size, Fact.N, q2])
 refine Za ?_
 refine Fact.nil (Zq10 1 3 7 9 10 11 25 26 27 46 hf ?_)
 clear hf sS bB; intro fr1 hf sS
 refine Zx hK18 ?_
 refine Fact.cond_t sS.2.2.2.2.2.2.2.2.2 ?_
 have hbad : formedL 0 ss = false := by rw [HM.out, HST.out, HOA.out, HAT.out]; have := HC.out; rw [decide_eq_false (show ¬ 0 ≤ a.to by omega)]; simp
 have HBAD := Lib.hid hbad; clear hbad
 refine Ze fun _ hK19 => ?_
 refine Zr [] hf ?_
 refine Zq1 2 hf ?_
 clear hf sS; intro fr1 hf s2
 refine Zx hK19 ?_
 refine Zret ?_
 exact Fact.ret1 rfl hf s2 ⟨by rw [formedF, HBAD.out]; rfl, hbz⟩)
 · (
 have q2 : decide (a.to < 0) = false := decide_eq_false (by omega)
 have q3 : decide ((i : Int) ≤ a.to) = true := decide_eq_true hc.2
 have HC := Lib.hid hc; clear hc
 refine wp_skip ?_
 refine Zs hK14 fun _ hK20 => ?_
 refine wp_block ?_
 refine Ze fun _ hK21 => ?_
 refine Zr [29, 30, 7] hf ?_
 refine Zq10 1 3 5 7 9 10 11 25 26 27 hf ?_
 clear hf sS; intro fr1 hf sS
 obtain ⟨W7, hW7⟩ : ∃ W0, wr2.alloc (.cells #[.int .u8 a.byte, .int .u64 a.out, .int .i64 a.to] 71) = W0 := ⟨_, rfl⟩
 try rw [hW7]
 obtain ⟨hb7, z0, -, z2, -, -⟩ := box3 hW7
 clear hW7
 clear y0 y1 y2 hbl
 have hbz := hbz0.trans ((hb6.trans (hb7.mono hb6.size)).mono hbz0.size)
 refine Zs hK21 fun _ hK22 => ?_
 refine Ze fun _ hK23 => rg ?_
 have bB := And.intro (hf.B10 31 32 33 34 35 36 37 38 39 40) (hf.B5 41 42 43 44 45)
 iterate 4 refine Za ?_
 refine Zg ?_ (hv := by simp (decide := true) only [Fact.G, reduceIte, hf.size, q2, q3])
 refine Zg ?_ (hv := by simp (decide := true) only [Fact.G, reduceIte, hf.size, q2, q3])
 refine Zg ?_ (hv := by simp (decide := true) only [Fact.G, reduceIte, hf.size, q2, q3])
 refine Zg ?_ (hv := by simp (decide := true) only [Fact.G, reduceIte, hf.size, q2, q3])
 iterate 2 refine Za ?_
 refine Zk ?_ (hv := by simp (decide := true) only [Fact.G, reduceIte, hf.size, Fact.N, q2, q3])
 refine Zk ?_ (hv := by simp (decide := true) only [Fact.G, reduceIte, hf.size, Fact.N, q2, q3])
 refine Zk ?_ (hv := by simp (decide := true) only [Fact.G, reduceIte, hf.size, Fact.N, q2, q3])
 refine Zk ?_ (hv := by simp (decide := true) only [Fact.G, reduceIte, hf.size, Fact.N, q2, q3])
 refine Zk ?_ (hv := by simp (decide := true) only [Fact.G, reduceIte, hf.size, Fact.N, q2, q3])
 refine Za ?_
 refine Fact.nil (Zq10 1 3 7 9 10 11 25 26 27 46 hf ?_)
 clear hf sS bB; intro fr1 hf sS
 refine Zx hK23 ?_
 refine Fact.cond_t sS.2.2.2.2.2.2.2.2.2 ?_
 have hbad : formedL 0 ss = false := by rw [HM.out, HST.out, HOA.out, HAT.out]; have := HC.out; rw [decide_eq_false (show ¬ a.to < (i : Int) by omega)]; simp
 have HBAD := Lib.hid hbad; clear hbad
 refine Ze fun _ hK24 => ?_
 refine Zr [] hf ?_
 refine Zq1 2 hf ?_
 clear hf sS; intro fr1 hf s2
 refine Zx hK24 ?_
 refine Zret ?_
 exact Fact.ret1 rfl hf s2 ⟨by rw [formedF, HBAD.out]; rfl, hbz⟩)
 · (
 have q2 : decide (a.to < 0) = false := decide_eq_false (by omega)
 have q3 : decide ((i : Int) ≤ a.to) = false := decide_eq_false (by omega)
 have q4 : decide ((a.byte : Int) ≤ last) = true := decide_eq_true hc.2.2
 have HC := Lib.hid hc; clear hc
 refine wp_skip ?_
 refine Zs hK14 fun _ hK25 => ?_
 refine wp_block ?_
 refine Ze fun _ hK26 => ?_
 refine Zr [29, 30, 7] hf ?_
 refine Zq10 1 3 5 7 9 10 11 25 26 27 hf ?_
 clear hf sS; intro fr1 hf sS
 obtain ⟨W7, hW7⟩ : ∃ W0, wr2.alloc (.cells #[.int .u8 a.byte, .int .u64 a.out, .int .i64 a.to] 71) = W0 := ⟨_, rfl⟩
 try rw [hW7]
 obtain ⟨hb7, z0, -, z2, -, -⟩ := box3 hW7
 clear hW7
 clear y0 y1 y2 hbl
 have hbz := hbz0.trans ((hb6.trans (hb7.mono hb6.size)).mono hbz0.size)
 refine Zs hK26 fun _ hK27 => ?_
 refine Ze fun _ hK28 => rg ?_
 have bB := And.intro (hf.B10 31 32 33 34 35 36 37 38 39 40) (hf.B5 41 42 43 44 45)
 iterate 4 refine Za ?_
 refine Zg ?_ (hv := by simp (decide := true) only [Fact.G, reduceIte, hf.size, q2, q3, q4])
 refine Zg ?_ (hv := by simp (decide := true) only [Fact.G, reduceIte, hf.size, q2, q3, q4])
 refine Zg ?_ (hv := by simp (decide := true) only [Fact.G, reduceIte, hf.size, q2, q3, q4])
 refine Zg ?_ (hv := by simp (decide := true) only [Fact.G, reduceIte, hf.size, q2, q3, q4])
 iterate 2 refine Za ?_
 refine Zg ?_ (hv := by simp (decide := true) only [Fact.G, reduceIte, hf.size, q2, q3, q4])
 refine Zg ?_ (hv := by simp (decide := true) only [Fact.G, reduceIte, hf.size, q2, q3, q4])
 refine og 9 40 false ?_ fun K Z => ?_
 · (
 simp (decide := true) only [Fact.G, reduceIte, hf.size, q2, q3, q4])
 go_simp
 try simp (disch := omega) only [Fact.wrap_i64]
 apply Z.out; clear Z K
 refine Zg ?_ (hv := by simp (decide := true) only [Fact.G, reduceIte, hf.size, q2, q3, q4])
 refine Zg ?_ (hv := by simp (decide := true) only [Fact.G, reduceIte, hf.size, q2, q3, q4])
 refine Za ?_
 refine Fact.nil (Zq10 1 3 7 9 10 11 25 26 27 46 hf ?_)
 clear hf sS bB; intro fr1 hf sS
 refine Zx hK28 ?_
 refine Fact.cond_t sS.2.2.2.2.2.2.2.2.2 ?_
 have hbad : formedL 0 ss = false := by rw [HM.out, HST.out, HOA.out, HAT.out]; have := HC.out; rw [decide_eq_false (show ¬ last < (a.byte : Int) by omega)]; simp
 have HBAD := Lib.hid hbad; clear hbad
 refine Ze fun _ hK29 => ?_
 refine Zr [] hf ?_
 refine Zq1 2 hf ?_
 clear hf sS; intro fr1 hf s2
 refine Zx hK29 ?_
 refine Zret ?_
 exact Fact.ret1 rfl hf s2 ⟨by rw [formedF, HBAD.out]; rfl, hbz⟩)
 · (
 have q2 : decide (a.to < 0) = false := decide_eq_false (by omega)
 have q3 : decide ((i : Int) ≤ a.to) = false := decide_eq_false (by omega)
 have q4 : decide ((a.byte : Int) ≤ last) = false := decide_eq_false (by omega)
 have HC := Lib.hid hc; clear hc
 refine wp_skip ?_
 refine Zs hK14 fun _ hK30 => ?_
 refine wp_block ?_
 refine Ze fun _ hK31 => ?_
 refine Zr [29, 30, 7] hf ?_
 refine Zq10 1 3 5 7 9 10 11 25 26 27 hf ?_
 clear hf sS; intro fr1 hf sS
 obtain ⟨W7, hW7⟩ : ∃ W0, wr2.alloc (.cells #[.int .u8 a.byte, .int .u64 a.out, .int .i64 a.to] 71) = W0 := ⟨_, rfl⟩
 try rw [hW7]
 obtain ⟨hb7, z0, -, z2, -, -⟩ := box3 hW7
 clear hW7
 clear y0 y1 y2 hbl
 have hbz := hbz0.trans ((hb6.trans (hb7.mono hb6.size)).mono hbz0.size)
 refine Zs hK31 fun _ hK32 => ?_
 refine Ze fun _ hK33 => rg ?_
 have bB := And.intro (hf.B10 31 32 33 34 35 36 37 38 39 40) (hf.B5 41 42 43 44 45)
 iterate 4 refine Za ?_
 refine Zg ?_ (hv := by simp (decide := true) only [Fact.G, reduceIte, hf.size, q2, q3, q4])
 refine Zg ?_ (hv := by simp (decide := true) only [Fact.G, reduceIte, hf.size, q2, q3, q4])
 refine Zg ?_ (hv := by simp (decide := true) only [Fact.G, reduceIte, hf.size, q2, q3, q4])
 refine Zg ?_ (hv := by simp (decide := true) only [Fact.G, reduceIte, hf.size, q2, q3, q4])
 iterate 2 refine Za ?_
 refine Zg ?_ (hv := by simp (decide := true) only [Fact.G, reduceIte, hf.size, q2, q3, q4])
 refine Zg ?_ (hv := by simp (decide := true) only [Fact.G, reduceIte, hf.size, q2, q3, q4])
 refine og 9 40 false ?_ fun K Z => ?_
 · (
 simp (decide := true) only [Fact.G, reduceIte, hf.size, q2, q3, q4])
 go_simp
 try simp (disch := omega) only [Fact.wrap_i64]
 apply Z.out; clear Z K
 refine Zg ?_ (hv := by simp (decide := true) only [Fact.G, reduceIte, hf.size, q2, q3, q4])
 refine Zg ?_ (hv := by simp (decide := true) only [Fact.G, reduceIte, hf.size, q2, q3, q4])
 refine Za ?_
 refine Fact.nil (Zq10 1 3 7 9 10 11 25 26 27 46 hf ?_)
 clear hf sS bB; intro fr1 hf sS
 refine Zx hK33 ?_
 refine Fact.cond_f sS.2.2.2.2.2.2.2.2.2 ?_
 have hoa3 : okArcs i (-1) s.arcs = okArcs i (a.byte : Int) (s.arcs.drop (k + 1)) := by rw [HOA.out, HAT.out]; have := HC.out; rw [decide_eq_true (show 0 ≤ a.to by omega), decide_eq_true (show a.to < (i : Int) by omega), decide_eq_true (show last < (a.byte : Int) by omega)]; rfl
 have HOA3 := Lib.hid hoa3; clear hoa3
 refine wp_skip ?_
 refine Zx hK32 ?_
 refine rg ?_
 have bB := hf.B3 47 48 49
 iterate 2 refine Za ?_
 refine fp fun K Z => ?_
 go_simp
 try simp (disch := omega) only [Fact.wrap_i64]
 apply Z.out; clear Z K
 refine Za ?_
 refine Fact.nil (Zq9 1 3 5 9 10 11 25 26 27 hf ?_)
 clear hf sS bB; intro fr1 hf sS
 refine Fact.block_normal ?_
 refine Zx hK30 ?_
 refine Zr [50] hf ?_
 refine Zq9 1 3 5 9 10 11 25 26 27 hf ?_
 clear hf sS; intro fr1 hf sS
 refine Fact.then_normal ?_
 obtain ⟨s1, s3, s5, s9, s10, s11, s25, s26, s27⟩ := sS
 exact ⟨_, by have := HK2.out; omega, k + 1, _, rfl, by omega, hf, s1, s3, s5, s9, s10, s11, s25, s26, by rw [s27]; rfl, HOA3.out, hb6.trans (hb7.mono hb6.size)⟩))
 · (
 have hke : k = s.arcs.length := by have h9 := of_decide_eq_false hq2; omega
 have hoa2 : okArcs i (-1) s.arcs = true := by rw [HOA.out, hke, List.drop_length]; rfl
 have HOA2 := Lib.hid hoa2; clear hoa2 hke hq2
 have hbr := hb.trans ((hb5.trans (hb6.mono hb5.size)).mono hb.size)
 refine Zo ?_
 refine Fact.block_normal ?_
 refine Zx hK6 ?_
 refine Zr [51] hf ?_
 refine Zq4 1 9 10 11 hf ?_
 clear hf sS; intro fr1 hf sS
 refine Fact.then_normal ?_
 obtain ⟨s1, s9, s10, s11⟩ := sS
 exact ⟨_, by have := HK.out; omega, i + 1, rfl, by omega, hf, s1, s9, s10, by rw [s11]; rfl, by rw [HM.out, HST.out, HFO.out, HOA2.out]; rfl, hbr⟩))))
 · (
 have hie : i = ss.length := by have h9 := of_decide_eq_false hq; omega
 have HIE := Lib.hid hie; clear hie hq
 have e0 := cL hb c0
 refine Zo ?_
 refine Zs hK2 fun _ hK34 => ?_
 refine Zr [52, 53, 54, 55] hf ?_
 refine Zq1 2 hf ?_
 clear hf sS; intro fr1 hf s2
 refine Zx hK34 ?_
 refine Zret ?_
 refine Fact.ret1 rfl hf s2 ⟨?_, hb0.trans (hb.mono hb0.size)⟩
 rw [formedF, HM.out, HIE.out, List.drop_length]
 rfl))
end Dw
end Go.Proofs.YtcddnmhmcieebaaGreatDoor
