/- classes. -/
import Derived.Test.YtgjfhedgdbbinaaDoorDBehind
import Derived.Test.YtgjfhedgdbbinaaDoorDCls0
import Derived.Test.YtgjfhedgdbbinaaDoorTools
namespace Go.Proofs.YtgjfhedgdbbinaaDoor
open Go.RowKit
set_option linter.unusedSimpArgs false
set_option linter.unusedVariables false
set_option linter.unnecessarySimpa false
namespace Dw
set_option maxHeartbeats 4000000 in
set_option maxRecDepth 100000 in
theorem classes10 (w : World) (es : List Ent) (B : Nat) (v : Value) (hB : B ≤ w.heap.size) (hre : RE w B v es) (hlen : es.length ≤ 100) (hok : ∀ e ∈ es, okE e) (hsz : ∀ e ∈ es, e.word.size ≤ 255) : Calls Tryd.prog 10 #[v] w fun e w1 => e = .returned (.int .i64 (classesE es : Nat)) ∧ Below w.heap.size w w1 := by
 refine calls_of_wp Tryd.func10 rfl ?_
 refine Fact.en 73 fun fr hf hT => ?_
 have s0 := hT 0 _ rfl
 clear hT
 have hre0 := hre.any
 obtain ⟨A, cc, rfl, hcc⟩ := hre.form
 clear hre
 have HOK := Lib.hid hok; have HSZ := Lib.hid hsz; clear hok hsz
 refine Fact.sq fun K1 hK1 => ?_
 refine rg ?_
 refine fp fun K Z => ?_
 go_simp
 apply Z.out; clear Z K
 refine Fact.z hf fun fr1 hf1 hT => ?_
 have hKp := hT 0
 simp (decide := true) only [Fact.G, reduceIte, s0] at hKp
 replace hf := hf1; clear hT hf1 s0
 have s0 := hKp; clear hKp
 refine nx (hK1 _ _ ?_)
 refine Fact.sq fun K2 hK2 => ?_
 refine rg ?_
 refine fp fun K Z => ?_
 go_simp
 apply Z.out; clear Z K
 refine Fact.z hf fun fr1 hf1 hT => ?_
 have hKp : _ ∧ _ := ⟨hT 0, hT 3⟩
 simp (decide := true) only [Fact.G, hf.size, reduceIte, s0] at hKp
 replace hf := hf1; clear hT hf1 s0
 obtain ⟨s0, s3⟩ := hKp
 refine nx (hK2 _ _ ?_)
 refine Fact.sq fun K3 hK3 => ?_
 refine rg ?_
 refine fp fun K Z => ?_
 go_simp
 apply Z.out; clear Z K
 refine Fact.z hf fun fr1 hf1 hT => ?_
 have hKp : _ ∧ _ ∧ _ := ⟨hT 0, hT 3, hT 4⟩
 simp (decide := true) only [Fact.G, hf.size, reduceIte, s0, s3] at hKp
 replace hf := hf1; clear hT hf1 s0 s3
 obtain ⟨s0, s3, s4⟩ := hKp
 refine nx (hK3 _ _ ?_)
 refine Fact.sq fun K4 hK4 => ?_
 refine Fact.sq fun K5 hK5 => ?_
 refine rg ?_
 refine fp fun K Z => ?_
 go_simp
 apply Z.out; clear Z K
 refine Fact.z hf fun fr1 hf1 hT => ?_
 have hKp : _ ∧ _ ∧ _ ∧ _ := ⟨hT 0, hT 3, hT 4, hT 5⟩
 simp (decide := true) only [Fact.G, hf.size, reduceIte, s0, s3, s4] at hKp
 replace hf := hf1; clear hT hf1 s0 s3 s4
 obtain ⟨s0, s3, s4, s5⟩ := hKp
 refine nx (hK5 _ _ ?_)
 refine wp_block ?_
 refine wp_loop_ghost (fun gk fr wr => ∃ (i : Nat) (Vh : Value), gk = es.length - i ∧ i ≤ es.length ∧ Fact.Fr 73 fr ∧ fr.tmps[0]? = some (.slice A es.length cc) ∧ fr.tmps[3]? = some (.slice none 0 0) ∧ fr.tmps[4]? = some Vh ∧ fr.tmps[5]? = some (.int .i64 i) ∧ OS wr w.heap.size Vh (headsE (es.take i)) ∧ Below w.heap.size w wr) (es.length) ?_ ?_
 · (
 exact ⟨0, _, rfl, Nat.zero_le _, hf, s0, s3, s4, s5, OS.nil_ _ _, Below.refl _ _⟩)
 · (
 clear hf s0 s3 s4 s5
 rintro gk fr wr ⟨i, Vh, hk, hi, hf, s0, s3, s4, s5, how, hb⟩
 have HK := Lib.hid hk; clear hk
 refine Fact.sq fun K6 hK6 => ?_
 refine Fact.sq fun K7 hK7 => ?_
 refine rg ?_
 have b11 := hf.b 11
 have b12 := hf.b 12
 have b13 := hf.b 13
 refine fp fun K Z => ?_
 go_simp
 apply Z.out; clear Z K
 refine fp fun K Z => ?_
 go_simp
 apply Z.out; clear Z K
 refine fp fun K Z => ?_
 go_simp
 apply Z.out; clear Z K
 refine fp fun K Z => ?_
 go_simp
 apply Z.out; clear Z K
 refine Fact.z hf fun fr1 hf1 hT => ?_
 have hKp : _ ∧ _ ∧ _ ∧ _ ∧ _ := ⟨hT 0, hT 3, hT 4, hT 5, hT 14⟩
 simp (decide := true) only [Fact.G, hf.size, reduceIte, s0, s3, s4, s5] at hKp
 replace hf := hf1; clear hT hf1 s0 s3 s4 s5 b11 b12 b13
 obtain ⟨s0, s3, s4, s5, s14⟩ := hKp
 refine nx (hK7 _ _ ?_)
 refine Fact.cond_s s14 (fun hq => ?_) (fun hq => ?_)
 · (
 have hlt : i < es.length := by have h9 := of_decide_eq_true hq; omega
 have HQ := Lib.hid hq; clear hq
 obtain ⟨q, hiq⟩ : ∃ q, es[i]? = some q := ⟨_, List.getElem?_eq_getElem hlt⟩
 obtain ⟨b, off, rfl, _, _, c0, _, _⟩ := (hre0.below hb).at_ hiq
 have hqz := HSZ.out q (List.mem_of_getElem? hiq)
 have hhl := heads_length (es := es) (i := i) HSZ.out (by omega)
 obtain ⟨H, hH⟩ : ∃ x, headsE (es.take i) = x := ⟨_, rfl⟩
 rw [hH] at how hhl
 have hst := heads_step hiq
 rw [hH] at hst
 have HST := Lib.hid hst; have HIQ := Lib.hid hiq; clear hst hH hiq
 refine wp_skip ?_
 refine nx (hK6 _ _ ?_)
 refine Fact.sq fun K8 hK8 => ?_
 refine wp_block ?_
 refine Fact.sq fun K9 hK9 => ?_
 refine rg ?_
 refine fp fun K Z => ?_
 go_simp
 apply Z.out; clear Z K
 refine Fact.z hf fun fr1 hf1 hT => ?_
 have hKp : _ ∧ _ ∧ _ ∧ _ ∧ _ := ⟨hT 0, hT 3, hT 4, hT 5, hT 6⟩
 simp (decide := true) only [Fact.G, hf.size, reduceIte, s0, s3, s4, s5] at hKp
 replace hf := hf1; clear hT hf1 s0 s3 s4 s5 s14
 obtain ⟨s0, s3, s4, s5, s6⟩ := hKp
 refine nx (hK9 _ _ ?_)
 refine wp_block ?_
 have HQE := Lib.hid (show es[i] = q by have h9 := HIQ.out; rw [List.getElem?_eq_getElem hlt] at h9; injection h9)
 refine wp_loop_ghost (fun gk2 fr wq => ∃ (n : Nat) (Vq : Value), gk2 = q.word.size + 1 - n ∧ n ≤ q.word.size + 1 ∧ Fact.Fr 73 fr ∧ fr.tmps[0]? = some (.slice (some ⟨b, off, none⟩) es.length cc) ∧ fr.tmps[3]? = some (.slice none 0 0) ∧ fr.tmps[4]? = some Vq ∧ fr.tmps[5]? = some (.int .i64 i) ∧ fr.tmps[6]? = some (.int .i64 n) ∧ OS wq w.heap.size Vq (H ++ headsN q.word n) ∧ Below w.heap.size w wq) (q.word.size + 1) ?_ ?_
 · (
 exact ⟨0, Vh, rfl, Nat.zero_le _, hf, s0, s3, s4, s5, s6, by rw [headsN_zero, List.append_nil]; exact how, hb⟩)
 · (
 clear hf s0 s3 s4 s5 s6
 clear how hb c0
 rintro gk2 fr wq ⟨n, Vq, hk2, hn, hf, s0, s3, s4, s5, s6, how, hb⟩
 have HK2 := Lib.hid hk2; clear hk2
 obtain ⟨b2, off2, hbo, _, _, c0, _, _⟩ := (hre0.below hb).at_ (List.getElem?_eq_getElem hlt)
 injection hbo with hbo; injection hbo with hb2 ho2 _; subst hb2; subst ho2
 rw [HQE.out] at c0
 refine Fact.sq fun K10 hK10 => ?_
 refine Fact.sq fun K11 hK11 => ?_
 refine rg ?_
 have b17 := hf.b 17
 have b18 := hf.b 18
 have b19 := hf.b 19
 have b20 := hf.b 20
 have b21 := hf.b 21
 have b22 := hf.b 22
 have b23 := hf.b 23
 refine fp fun K Z => ?_
 go_simp
 apply Z.out; clear Z K
 refine fp fun K Z => ?_
 go_simp
 apply Z.out; clear Z K
 refine fp fun K Z => ?_
 go_simp
 apply Z.out; clear Z K
 refine fp fun K Z => ?_
 go_simp
 try rw [if_pos (by omega)]
 apply Z.out; clear Z K
 refine fp fun K Z => ?_
 go_simp
 apply Z.out; clear Z K
 refine fp fun K Z => ?_
 go_simp
 apply Z.out; clear Z K
 refine fp fun K Z => ?_
 go_simp
 apply Z.out; clear Z K
 refine fp fun K Z => ?_
 go_simp
 apply Z.out; clear Z K
 refine Fact.z hf fun fr1 hf1 hT => ?_
 have hKp : _ ∧ _ ∧ _ ∧ _ ∧ _ ∧ _ := ⟨hT 0, hT 3, hT 4, hT 5, hT 6, hT 24⟩
 simp (decide := true) only [Fact.G, hf.size, reduceIte, s0, s3, s4, s5, s6] at hKp
 replace hf := hf1; clear hT hf1 s0 s3 s4 s5 s6 b17 b18 b19 b20 b21 b22 b23
 obtain ⟨s0, s3, s4, s5, s6, s24⟩ := hKp
 refine nx (hK11 _ _ ?_)
 refine Fact.cond_s s24 (fun hq => ?_) (fun hq => ?_)
 · (
 have hlt2 : n ≤ q.word.size := by have h9 := of_decide_eq_true hq; omega
 clear hq
 obtain ⟨P, hP⟩ : ∃ x, bl ((wl q.word).take n) = x := ⟨_, rfl⟩
 have hst2 : H ++ headsN q.word (n + 1) = (H ++ headsN q.word n) ++ [P] := by rw [← hP]; exact headsN_step _ _ _
 obtain ⟨xs, hxs⟩ : ∃ x, H ++ headsN q.word n = x := ⟨_, rfl⟩
 have hxl : xs.length ≤ 30000 := by rw [← hxs, List.length_append, headsN_length]; omega
 rw [hxs] at how hst2
 have HP := Lib.hid hP; have HST2 := Lib.hid hst2; clear hP hst2 hxs
 obtain ⟨A5, c5, hv5, _⟩ := row_form how
 subst hv5
 refine wp_skip ?_
 refine nx (hK10 _ _ ?_)
 refine Fact.sq fun K12 hK12 => ?_
 refine wp_block ?_
 refine rg ?_
 have b27 := hf.b 27
 have b28 := hf.b 28
 have b29 := hf.b 29
 have b30 := hf.b 30
 have b31 := hf.b 31
 have b32 := hf.b 32
 have b33 := hf.b 33
 have b34 := hf.b 34
 have b35 := hf.b 35
 have b36 := hf.b 36
 refine fp fun K Z => ?_
 go_simp
 apply Z.out; clear Z K
 refine fp fun K Z => ?_
 go_simp
 apply Z.out; clear Z K
 refine fp fun K Z => ?_
 go_simp
 apply Z.out; clear Z K
 refine fp fun K Z => ?_
 go_simp
 try rw [if_pos (by omega)]
 apply Z.out; clear Z K
 refine fp fun K Z => ?_
 go_simp
 apply Z.out; clear Z K
 refine fp fun K Z => ?_
 go_simp
 apply Z.out; clear Z K
 refine fp fun K Z => ?_
 go_simp
 apply Z.out; clear Z K
 refine fp fun K Z => ?_
 go_simp
 rw [cut_bl, HP.out]
 apply Z.out; clear Z K
 refine fp fun K Z => ?_
 go_simp
 apply Z.out; clear Z K
 refine Fact.reL (n := 73) (by simp only [Fact.G, hf.size]) hf.defers (fun fr1 hf1 hT => ?_)
 have hKp : _ ∧ _ ∧ _ ∧ _ ∧ _ ∧ _ ∧ _ := ⟨hT 0, hT 3, hT 4, hT 5, hT 6, hT 27, hT 35⟩
 simp (decide := true) only [Fact.G, hf.size, reduceIte, s0, s3, s4, s5, s6] at hKp
 replace hf := hf1; clear hT hf1 s0 s3 s4 s5 s6 s24 b27 b28 b29 b30 b31 b32 b33 b34 b35 b36
 obtain ⟨s0, s3, s4, s5, s6, s27, s35⟩ := hKp
 have b36 := hf.b 36
 refine ⟨?_⟩
 refine wpList_plain rfl fun K5 hK5 => ?_
 refine wp_app _ _ 83 rfl 9 _ 1 16 Tryd.underlying83 info_str rfl (by decide) (by decide) w.heap.size (.slice A5 xs.length c5) xs.length _ (Fact.eval_tmp s27) (World.ownsRow.alloc how _) wq.heap.size [.string P] (Fact.eval_tmp s35) rfl (lit_new wq _ _) (by intro u hu; simp at hu; subst hu; rfl) (by omega) (by have := hb.size; simp; omega) (fun v8 w8 hr8 hg8 hat8 => hK5 _ _ ?_)
 refine Fact.L.out ?_
 refine fp fun K Z => ?_
 go_simp
 apply Z.out; clear Z K
 refine Fact.z hf fun fr1 hf1 hT => ?_
 have hKp : _ ∧ _ ∧ _ ∧ _ ∧ _ := ⟨hT 0, hT 3, hT 4, hT 5, hT 6⟩
 simp (decide := true) only [Fact.G, hf.size, reduceIte, s0, s3, s5, s6] at hKp
 replace hf := hf1; clear hT hf1 s0 s3 s4 s5 s6 s27 s35 b36
 obtain ⟨s0, s3, s4, s5, s6⟩ := hKp
 have hb8 := (hb.alloc hb.size _).grown hg8 (by have := hb.size; simp; omega) (fun kk hkk => (World.ownsRow.lt how kk hkk).1)
 have how8 : OS w8 w.heap.size v8 (H ++ headsN q.word (n + 1)) := by rw [HST2.out]; unfold OS; rw [List.map_append, List.length_append]; exact hr8
 refine Fact.block_normal ?_
 refine nx (hK12 _ _ ?_)
 refine rg ?_
 have b25 := hf.b 25
 have b26 := hf.b 26
 refine fp fun K Z => ?_
 go_simp
 apply Z.out; clear Z K
 refine fp fun K Z => ?_
 go_simp
 try simp (disch := omega) only [Fact.W]
 apply Z.out; clear Z K
 refine fp fun K Z => ?_
 go_simp
 apply Z.out; clear Z K
 refine Fact.z hf fun fr1 hf1 hT => ?_
 have hKp : _ ∧ _ ∧ _ ∧ _ ∧ _ := ⟨hT 0, hT 3, hT 4, hT 5, hT 6⟩
 simp (decide := true) only [Fact.G, hf.size, reduceIte, s0, s3, s4, s5] at hKp
 replace hf := hf1; clear hT hf1 s0 s3 s4 s5 s6 b25 b26
 obtain ⟨s0, s3, s4, s5, s6⟩ := hKp
 refine Fact.then_normal ?_
 exact ⟨_, by have := HK2.out; omega, n + 1, v8, rfl, by omega, hf, s0, s3, s4, s5, by rw [s6]; rfl, how8, hb8⟩)
 · (
 have hne : n = q.word.size + 1 := by have h9 := of_decide_eq_false hq; omega
 rw [hne, ← HST.out] at how
 clear hq hne
 refine wp_exit ?_
 refine Fact.then_exit ?_
 refine Fact.then_exit ?_
 refine Fact.block_exit ?_
 refine Fact.block_normal ?_
 refine nx (hK8 _ _ ?_)
 refine rg ?_
 have b15 := hf.b 15
 have b16 := hf.b 16
 refine fp fun K Z => ?_
 go_simp
 apply Z.out; clear Z K
 refine fp fun K Z => ?_
 go_simp
 try simp (disch := omega) only [Fact.W]
 apply Z.out; clear Z K
 refine fp fun K Z => ?_
 go_simp
 apply Z.out; clear Z K
 refine Fact.z hf fun fr1 hf1 hT => ?_
 have hKp : _ ∧ _ ∧ _ ∧ _ := ⟨hT 0, hT 3, hT 4, hT 5⟩
 simp (decide := true) only [Fact.G, hf.size, reduceIte, s0, s3, s4] at hKp
 replace hf := hf1; clear hT hf1 s0 s3 s4 s5 s6 s24 b15 b16
 obtain ⟨s0, s3, s4, s5⟩ := hKp
 refine Fact.then_normal ?_
 exact ⟨_, by have := HK.out; omega, i + 1, _, rfl, by omega, hf, s0, s3, s4, by rw [s5]; rfl, how, hb⟩)))
 · (
 have hie : i = es.length := by have h9 := of_decide_eq_false hq; omega
 rw [hie, List.take_length] at how
 have hhl := heads_length (es := es) (i := es.length) HSZ.out (by omega)
 rw [List.take_length] at hhl
 clear hie hq
 obtain ⟨hs, hhs⟩ : ∃ x, headsE es = x := ⟨_, rfl⟩
 rw [hhs] at how hhl
 have HHS := Lib.hid hhs; clear hhs
 obtain ⟨Ah, ch, hvh, _⟩ := row_form how
 subst hvh
 have hos := how; have hbh := hb; clear how hb
 refine wp_exit ?_
 refine Fact.then_exit ?_
 refine Fact.then_exit ?_
 refine Fact.block_exit ?_
 refine nx (hK4 _ _ ?_)
 refine Fact.sq fun K13 hK13 => ?_
 refine Fact.sq fun K14 hK14 => ?_
 refine rg ?_
 refine fp fun K Z => ?_
 go_simp
 apply Z.out; clear Z K
 refine Fact.z hf fun fr1 hf1 hT => ?_
 have hKp : _ ∧ _ ∧ _ ∧ _ := ⟨hT 0, hT 3, hT 4, hT 7⟩
 simp (decide := true) only [Fact.G, hf.size, reduceIte, s0, s3, s4] at hKp
 replace hf := hf1; clear hT hf1 s0 s3 s4 s5 s14
 obtain ⟨s0, s3, s4, s7⟩ := hKp
 refine nx (hK14 _ _ ?_)
 refine wp_block ?_
 refine wp_loop_ghost (fun gk3 fr wz => ∃ (j : Nat) (kv : Value), gk3 = hs.length - j ∧ j ≤ hs.length ∧ Fact.Fr 73 fr ∧ fr.tmps[0]? = some (.slice A es.length cc) ∧ fr.tmps[3]? = some kv ∧ fr.tmps[4]? = some (.slice Ah hs.length ch) ∧ fr.tmps[7]? = some (.int .i64 j) ∧ KR wz wr.heap.size kv (kindsF [] ((hs.take j).map (behE es))) ∧ Below wr.heap.size wr wz) (hs.length) ?_ ?_
 · (
 exact ⟨0, _, rfl, Nat.zero_le _, hf, s0, s3, s4, s7, KR.nil_ _ _, Below.refl _ _⟩)
 · (
 clear hf s0 s3 s4 s7
 rintro gk3 fr wz ⟨j, kv, hk3, hj, hf, s0, s3, s4, s7, hkr, hb⟩
 have HK3 := Lib.hid hk3; clear hk3
 have hbw := hbh.trans (hb.mono hbh.size)
 refine Fact.sq fun K15 hK15 => ?_
 refine Fact.sq fun K16 hK16 => ?_
 refine rg ?_
 have b37 := hf.b 37
 have b38 := hf.b 38
 have b39 := hf.b 39
 refine fp fun K Z => ?_
 go_simp
 apply Z.out; clear Z K
 refine fp fun K Z => ?_
 go_simp
 apply Z.out; clear Z K
 refine fp fun K Z => ?_
 go_simp
 apply Z.out; clear Z K
 refine fp fun K Z => ?_
 go_simp
 apply Z.out; clear Z K
 refine Fact.z hf fun fr1 hf1 hT => ?_
 have hKp : _ ∧ _ ∧ _ ∧ _ ∧ _ := ⟨hT 0, hT 3, hT 4, hT 7, hT 40⟩
 simp (decide := true) only [Fact.G, hf.size, reduceIte, s0, s3, s4, s7] at hKp
 replace hf := hf1; clear hT hf1 s0 s3 s4 s7 b37 b38 b39
 obtain ⟨s0, s3, s4, s7, s40⟩ := hKp
 refine nx (hK16 _ _ ?_)
 refine Fact.cond_s s40 (fun hq => ?_) (fun hq => ?_)
 · (
 have hlt3 : j < hs.length := by have h9 := of_decide_eq_true hq; omega
 have HQ3 := Lib.hid hq; clear hq
 obtain ⟨h, hjh⟩ : ∃ h, hs[j]? = some h := ⟨_, List.getElem?_eq_getElem hlt3⟩
 obtain ⟨bh, rfl, e0⟩ := OS.at_ (OS.below hos hb) hjh
 have hst := kinds_step (es := es) hjh
 obtain ⟨rest, hrest⟩ : ∃ x, behE es h = x := ⟨_, rfl⟩
 have hrl : rest.length ≤ es.length := by rw [← hrest]; exact behE_length es h
 have hkl := kinds_len (es := es) (hs := hs) j
 obtain ⟨ks, hks⟩ : ∃ x, kindsF [] ((hs.take j).map (behE es)) = x := ⟨_, rfl⟩
 have hkm : ∀ l ∈ ks, l.length ≤ 1000 := by rw [← hks]; exact kinds_small (by omega)
 rw [hks] at hkr hst hkl
 rw [hrest] at hst
 have HST := Lib.hid hst; have HRS := Lib.hid hrest; have HKM := Lib.hid hkm; clear hst hrest hkm hks hjh
 refine wp_skip ?_
 refine nx (hK15 _ _ ?_)
 refine Fact.sq fun K17 hK17 => ?_
 refine wp_block ?_
 refine Fact.sq fun K18 hK18 => ?_
 refine rg ?_
 have b43 := hf.b 43
 have b44 := hf.b 44
 have b45 := hf.b 45
 have b46 := hf.b 46
 have b47 := hf.b 47
 have b48 := hf.b 48
 refine fp fun K Z => ?_
 go_simp
 apply Z.out; clear Z K
 refine fp fun K Z => ?_
 go_simp
 apply Z.out; clear Z K
 refine fp fun K Z => ?_
 go_simp
 apply Z.out; clear Z K
 refine fp fun K Z => ?_
 go_simp
 try rw [if_pos (by omega)]
 apply Z.out; clear Z K
 refine fp fun K Z => ?_
 go_simp
 apply Z.out; clear Z K
 refine fp fun K Z => ?_
 go_simp
 go_at_call 35; refine (behind35 wz es wz.heap.size _ (Nat.le_refl _) ((hre0.below hbw).more hbw.size) (by omega) HOK.out h).mono ?_; rintro e w7 ⟨v8, rfl, how8, hb8⟩
 rw [HRS.out] at how8
 try dsimp only
 apply Z.out; clear Z K
 refine fp fun K Z => ?_
 go_simp
 apply Z.out; clear Z K
 refine Fact.z hf fun fr1 hf1 hT => ?_
 have hKp : _ ∧ _ ∧ _ ∧ _ ∧ _ := ⟨hT 0, hT 3, hT 4, hT 7, hT 8⟩
 simp (decide := true) only [Fact.G, hf.size, reduceIte, s0, s3, s4, s7] at hKp
 replace hf := hf1; clear hT hf1 s0 s3 s4 s7 s40 b43 b44 b45 b46 b47 b48
 obtain ⟨s0, s3, s4, s7, s8⟩ := hKp
 have hk7 := hkr.later hb8
 have hrl7 : RL w7 kv.ownBlock v8 rest := OE.rl how8 (fun k hk => (hkr.lt k hk))
 obtain ⟨A8, c8, hv8, _⟩ := OE.form (es := rest) how8
 subst hv8
 have hb7 := hb.trans (hb8.mono hb.size)
 obtain ⟨Ak, ck, hkv⟩ := hk7.form
 subst hkv
 clear how8 hkr hb8 e0
 refine nx (hK18 _ _ ?_)
 refine Fact.sq fun K19 hK19 => ?_
 refine rg ?_
 refine fp fun K Z => ?_
 go_simp
 apply Z.out; clear Z K
 refine Fact.z hf fun fr1 hf1 hT => ?_
 have hKp : _ ∧ _ ∧ _ ∧ _ ∧ _ ∧ _ := ⟨hT 0, hT 3, hT 4, hT 7, hT 8, hT 9⟩
 simp (decide := true) only [Fact.G, hf.size, reduceIte, s0, s3, s4, s7, s8] at hKp
 replace hf := hf1; clear hT hf1 s0 s3 s4 s7 s8
 obtain ⟨s0, s3, s4, s7, s8, s9⟩ := hKp
 refine nx (hK19 _ _ ?_)
 refine Fact.sq fun K20 hK20 => ?_
 refine Fact.sq fun K21 hK21 => ?_
 refine rg ?_
 refine fp fun K Z => ?_
 go_simp
 apply Z.out; clear Z K
 refine Fact.z hf fun fr1 hf1 hT => ?_
 have hKp : _ ∧ _ ∧ _ ∧ _ ∧ _ ∧ _ ∧ _ := ⟨hT 0, hT 3, hT 4, hT 7, hT 8, hT 9, hT 10⟩
 simp (decide := true) only [Fact.G, hf.size, reduceIte, s0, s3, s4, s7, s8, s9] at hKp
 replace hf := hf1; clear hT hf1 s0 s3 s4 s7 s8 s9
 obtain ⟨s0, s3, s4, s7, s8, s9, s10⟩ := hKp
 refine nx (hK21 _ _ ?_)
 refine wp_block ?_
 refine wp_loop_ghost (fun gk4 fr wq => ∃ (k : Nat), gk4 = ks.length - k ∧ k ≤ ks.length ∧ Fact.Fr 73 fr ∧ fr.tmps[0]? = some (.slice A es.length cc) ∧ fr.tmps[3]? = some (.slice Ak ks.length ck) ∧ fr.tmps[4]? = some (.slice (some ⟨bh, 0, none⟩) hs.length ch) ∧ fr.tmps[7]? = some (.int .i64 j) ∧ fr.tmps[8]? = some (.slice A8 rest.length c8) ∧ fr.tmps[9]? = some (.bool (decide (rest ∈ ks.take k))) ∧ fr.tmps[10]? = some (.int .i64 k) ∧ Below w7.heap.size w7 wq) (ks.length) ?_ ?_
 · (
 exact ⟨0, rfl, Nat.zero_le _, hf, s0, s3, s4, s7, s8, by rw [s9]; simp, s10, Below.refl _ _⟩)
 · (
 clear hf s0 s3 s4 s7 s8 s9 s10
 rintro gk4 fr wq ⟨k, hk4, hkk, hf, s0, s3, s4, s7, s8, s9, s10, hbq⟩
 have HK4 := Lib.hid hk4; clear hk4
 have hkq := hk7.later hbq; have hrq := hrl7.later hbq
 refine Fact.sq fun K22 hK22 => ?_
 refine Fact.sq fun K23 hK23 => ?_
 refine rg ?_
 have b49 := hf.b 49
 have b50 := hf.b 50
 have b51 := hf.b 51
 refine fp fun K Z => ?_
 go_simp
 apply Z.out; clear Z K
 refine fp fun K Z => ?_
 go_simp
 apply Z.out; clear Z K
 refine fp fun K Z => ?_
 go_simp
 apply Z.out; clear Z K
 refine fp fun K Z => ?_
 go_simp
 apply Z.out; clear Z K
 refine Fact.z hf fun fr1 hf1 hT => ?_
 have hKp : _ ∧ _ ∧ _ ∧ _ ∧ _ ∧ _ ∧ _ ∧ _ := ⟨hT 0, hT 3, hT 4, hT 7, hT 8, hT 9, hT 10, hT 52⟩
 simp (decide := true) only [Fact.G, hf.size, reduceIte, s0, s3, s4, s7, s8, s9, s10] at hKp
 replace hf := hf1; clear hT hf1 s0 s3 s4 s7 s8 s9 s10 b49 b50 b51
 obtain ⟨s0, s3, s4, s7, s8, s9, s10, s52⟩ := hKp
 refine nx (hK23 _ _ ?_)
 refine Fact.cond_s s52 (fun hq => ?_) (fun hq => ?_)
 · (
 have hlt4 : k < ks.length := by have h9 := of_decide_eq_true hq; omega
 clear hq
 obtain ⟨x, hkx⟩ : ∃ x, ks[k]? = some x := ⟨_, List.getElem?_eq_getElem hlt4⟩
 have hxl := HKM.out x (List.mem_of_getElem? hkx)
 have hmem := mem_take_step (rest := rest) hkx
 have HMEM := Lib.hid hmem; clear hmem
 refine wp_skip ?_
 refine nx (hK22 _ _ ?_)
 rcases Bool.eq_false_or_eq_true (decide (rest ∈ ks.take k)) with hdk | hdk
 · (
 have hd := hdk
 rw [hdk] at s9
 have HDK := Lib.hid hdk; clear hdk hd
 refine Fact.sq fun K24 hK24 => ?_
 refine wp_block ?_
 refine rg ?_
 have b55 := hf.b 55
 have b56 := hf.b 56
 have b57 := hf.b 57
 have b58 := hf.b 58
 have b59 := hf.b 59
 have b60 := hf.b 60
 have b61 := hf.b 61
 have b62 := hf.b 62
 have b63 := hf.b 63
 refine fp fun K Z => ?_
 go_simp
 apply Z.out; clear Z K
 refine fp fun K Z => ?_
 go_simp
 apply Z.out; clear Z K
 refine sk 1 56 false ?_ ?_
 · (
 simp (decide := true) only [Fact.G, reduceIte, hf.size, Fact.N])
 refine sk 1 56 false ?_ ?_
 · (
 simp (decide := true) only [Fact.G, reduceIte, hf.size, Fact.N])
 refine sk 1 56 false ?_ ?_
 · (
 simp (decide := true) only [Fact.G, reduceIte, hf.size, Fact.N])
 refine sk 1 56 false ?_ ?_
 · (
 simp (decide := true) only [Fact.G, reduceIte, hf.size, Fact.N])
 refine sk 1 56 false ?_ ?_
 · (
 simp (decide := true) only [Fact.G, reduceIte, hf.size, Fact.N])
 refine sk 1 56 false ?_ ?_
 · (
 simp (decide := true) only [Fact.G, reduceIte, hf.size, Fact.N])
 refine fp fun K Z => ?_
 go_simp
 apply Z.out; clear Z K
 refine fp fun K Z => ?_
 go_simp
 apply Z.out; clear Z K
 refine Fact.z hf fun fr1 hf1 hT => ?_
 have hKp : _ ∧ _ ∧ _ ∧ _ ∧ _ ∧ _ ∧ _ := ⟨hT 0, hT 3, hT 4, hT 7, hT 8, hT 9, hT 10⟩
 simp (decide := true) only [Fact.G, hf.size, reduceIte, s0, s3, s4, s7, s8, s10] at hKp
 replace hf := hf1; clear hT hf1 s0 s3 s4 s7 s8 s9 s10 s52 b55 b56 b57 b58 b59 b60 b61 b62 b63
 obtain ⟨s0, s3, s4, s7, s8, s9, s10⟩ := hKp
 rw [show (Value.bool true) = .bool (decide (rest ∈ ks.take (k + 1))) by rw [HMEM.out, HDK.out, Bool.true_or]] at s9
 refine Fact.block_normal ?_
 refine nx (hK24 _ _ ?_)
 refine rg ?_
 have b53 := hf.b 53
 have b54 := hf.b 54
 refine fp fun K Z => ?_
 go_simp
 apply Z.out; clear Z K
 refine fp fun K Z => ?_
 go_simp
 try simp (disch := omega) only [Fact.W]
 apply Z.out; clear Z K
 refine fp fun K Z => ?_
 go_simp
 apply Z.out; clear Z K
 refine Fact.z hf fun fr1 hf1 hT => ?_
 have hKp : _ ∧ _ ∧ _ ∧ _ ∧ _ ∧ _ ∧ _ := ⟨hT 0, hT 3, hT 4, hT 7, hT 8, hT 9, hT 10⟩
 simp (decide := true) only [Fact.G, hf.size, reduceIte, s0, s3, s4, s7, s8, s9] at hKp
 replace hf := hf1; clear hT hf1 s0 s3 s4 s7 s8 s9 s10 b53 b54
 obtain ⟨s0, s3, s4, s7, s8, s9, s10⟩ := hKp
 refine Fact.then_normal ?_
 exact ⟨_, by have := HK4.out; omega, k + 1, rfl, by omega, hf, s0, s3, s4, s7, s8, s9, by rw [s10]; rfl, hbq⟩)
 · (
 have hd := hdk
 rw [hdk] at s9
 have HDK := Lib.hid hdk; clear hdk hd
 obtain ⟨bk, vx, rfl, e1, hrx⟩ := hkq.at_ hkx
 obtain ⟨Ax, cx, rfl⟩ := hrx.form
 have hbq2 := hbq
 refine Fact.sq fun K25 hK25 => ?_
 refine wp_block ?_
 refine rg ?_
 have b55 := hf.b 55
 have b56 := hf.b 56
 have b57 := hf.b 57
 have b58 := hf.b 58
 have b59 := hf.b 59
 have b60 := hf.b 60
 have b61 := hf.b 61
 have b62 := hf.b 62
 have b63 := hf.b 63
 refine fp fun K Z => ?_
 go_simp
 apply Z.out; clear Z K
 refine fp fun K Z => ?_
 go_simp
 apply Z.out; clear Z K
 refine og 1 56 false ?_ fun K Z => ?_
 · (
 simp (decide := true) only [Fact.G, reduceIte, hf.size, Fact.N])
 go_simp
 apply Z.out; clear Z K
 refine og 1 56 false ?_ fun K Z => ?_
 · (
 simp (decide := true) only [Fact.G, reduceIte, hf.size, Fact.N])
 go_simp
 apply Z.out; clear Z K
 refine og 1 56 false ?_ fun K Z => ?_
 · (
 simp (decide := true) only [Fact.G, reduceIte, hf.size, Fact.N])
 go_simp
 try rw [if_pos (by omega)]
 apply Z.out; clear Z K
 refine og 1 56 false ?_ fun K Z => ?_
 · (
 simp (decide := true) only [Fact.G, reduceIte, hf.size, Fact.N])
 go_simp
 apply Z.out; clear Z K
 refine og 1 56 false ?_ fun K Z => ?_
 · (
 simp (decide := true) only [Fact.G, reduceIte, hf.size, Fact.N])
 go_simp
 apply Z.out; clear Z K
 refine og 1 56 false ?_ fun K Z => ?_
 · (
 simp (decide := true) only [Fact.G, reduceIte, hf.size, Fact.N])
 go_simp
 go_at_call 11; refine (same11 wq x rest wq.heap.size wq.heap.size _ _ (Nat.le_refl _) (Nat.le_refl _) hrx.re hrq.re (by omega) (by omega)).mono ?_; rintro e w8 ⟨rfl, hb8⟩
 have hnk : decide (x = rest) = decide (rest ∈ ks.take (k + 1)) := by rw [HMEM.out, HDK.out, Bool.false_or]
 rw [hnk]
 have HNK := Lib.hid hnk; clear hnk
 try dsimp only
 apply Z.out; clear Z K
 refine fp fun K Z => ?_
 go_simp
 apply Z.out; clear Z K
 refine fp fun K Z => ?_
 go_simp
 apply Z.out; clear Z K
 refine Fact.z hf fun fr1 hf1 hT => ?_
 have hKp : _ ∧ _ ∧ _ ∧ _ ∧ _ ∧ _ ∧ _ := ⟨hT 0, hT 3, hT 4, hT 7, hT 8, hT 9, hT 10⟩
 simp (decide := true) only [Fact.G, hf.size, reduceIte, s0, s3, s4, s7, s8, s10] at hKp
 replace hf := hf1; clear hT hf1 s0 s3 s4 s7 s8 s9 s10 s52 b55 b56 b57 b58 b59 b60 b61 b62 b63
 obtain ⟨s0, s3, s4, s7, s8, s9, s10⟩ := hKp
 replace hbq := hbq.trans (hb8.mono hbq.size)
 have h10 := s9
 refine Fact.block_normal ?_
 refine nx (hK25 _ _ ?_)
 refine rg ?_
 have b53 := hf.b 53
 have b54 := hf.b 54
 refine fp fun K Z => ?_
 go_simp
 apply Z.out; clear Z K
 refine fp fun K Z => ?_
 go_simp
 try simp (disch := omega) only [Fact.W]
 apply Z.out; clear Z K
 refine fp fun K Z => ?_
 go_simp
 apply Z.out; clear Z K
 refine Fact.z hf fun fr1 hf1 hT => ?_
 have hKp : _ ∧ _ ∧ _ ∧ _ ∧ _ ∧ _ ∧ _ := ⟨hT 0, hT 3, hT 4, hT 7, hT 8, hT 9, hT 10⟩
 simp (decide := true) only [Fact.G, hf.size, reduceIte, s0, s3, s4, s7, s8, s9] at hKp
 replace hf := hf1; clear hT hf1 s0 s3 s4 s7 s8 s9 s10 b53 b54
 obtain ⟨s0, s3, s4, s7, s8, s9, s10⟩ := hKp
 refine Fact.then_normal ?_
 exact ⟨_, by have := HK4.out; omega, k + 1, rfl, by omega, hf, s0, s3, s4, s7, s8, s9, by rw [s10]; rfl, hbq⟩))
 · (
 have hke : k = ks.length := by have h9 := of_decide_eq_false hq; omega
 rw [hke, List.take_length] at s9
 clear hq hke
 by_cases hin : rest ∈ ks
 · (
 rw [decide_eq_true hin] at s9
 have hst2 := HST.out
 rw [if_pos hin] at hst2
 have HST2 := Lib.hid hst2; clear hst2 hin
 have hb9 := hb7.trans (hbq.mono hb7.size)
 have hk9 : KR wq wr.heap.size (.slice Ak ks.length ck) (kindsF [] ((hs.take (j + 1)).map (behE es))) := by rw [HST2.out]; exact hkq
 refine wp_exit ?_
 refine Fact.then_exit ?_
 refine Fact.then_exit ?_
 refine Fact.block_exit ?_
 refine nx (hK20 _ _ ?_)
 refine Fact.sq fun K26 hK26 => ?_
 refine rg ?_
 have b64 := hf.b 64
 refine fp fun K Z => ?_
 go_simp
 apply Z.out; clear Z K
 refine fp fun K Z => ?_
 go_simp
 apply Z.out; clear Z K
 refine Fact.z hf fun fr1 hf1 hT => ?_
 have hKp : _ ∧ _ ∧ _ ∧ _ ∧ _ ∧ _ := ⟨hT 0, hT 3, hT 4, hT 7, hT 8, hT 65⟩
 simp (decide := true) only [Fact.G, hf.size, reduceIte, s0, s3, s4, s7, s8] at hKp
 replace hf := hf1; clear hT hf1 s0 s3 s4 s7 s8 s9 s10 s52 b64
 obtain ⟨s0, s3, s4, s7, s8, s65⟩ := hKp
 refine nx (hK26 _ _ ?_)
 refine Fact.cond_f s65 ?_
 refine wp_skip ?_
 refine Fact.block_normal ?_
 refine nx (hK17 _ _ ?_)
 refine rg ?_
 have b41 := hf.b 41
 have b42 := hf.b 42
 refine fp fun K Z => ?_
 go_simp
 apply Z.out; clear Z K
 refine fp fun K Z => ?_
 go_simp
 try simp (disch := omega) only [Fact.W]
 apply Z.out; clear Z K
 refine fp fun K Z => ?_
 go_simp
 apply Z.out; clear Z K
 refine Fact.z hf fun fr1 hf1 hT => ?_
 have hKp : _ ∧ _ ∧ _ ∧ _ := ⟨hT 0, hT 3, hT 4, hT 7⟩
 simp (decide := true) only [Fact.G, hf.size, reduceIte, s0, s3, s4] at hKp
 replace hf := hf1; clear hT hf1 s0 s3 s4 s7 s8 s65 b41 b42
 obtain ⟨s0, s3, s4, s7⟩ := hKp
 refine Fact.then_normal ?_
 exact ⟨_, by have := HK3.out; omega, j + 1, _, rfl, by omega, hf, s0, s3, s4, by rw [s7]; rfl, hk9, hb9⟩)
 · (
 rw [decide_eq_false hin] at s9
 have hst2 := HST.out
 rw [if_neg hin] at hst2
 have HST2 := Lib.hid hst2; clear hst2 hin
 refine wp_exit ?_
 refine Fact.then_exit ?_
 refine Fact.then_exit ?_
 refine Fact.block_exit ?_
 refine nx (hK20 _ _ ?_)
 refine Fact.sq fun K27 hK27 => ?_
 refine rg ?_
 have b64 := hf.b 64
 refine fp fun K Z => ?_
 go_simp
 apply Z.out; clear Z K
 refine fp fun K Z => ?_
 go_simp
 apply Z.out; clear Z K
 refine Fact.z hf fun fr1 hf1 hT => ?_
 have hKp : _ ∧ _ ∧ _ ∧ _ ∧ _ ∧ _ := ⟨hT 0, hT 3, hT 4, hT 7, hT 8, hT 65⟩
 simp (decide := true) only [Fact.G, hf.size, reduceIte, s0, s3, s4, s7, s8] at hKp
 replace hf := hf1; clear hT hf1 s0 s3 s4 s7 s8 s9 s10 s52 b64
 obtain ⟨s0, s3, s4, s7, s8, s65⟩ := hKp
 refine nx (hK27 _ _ ?_)
 refine Fact.cond_t s65 ?_
 refine rg ?_
 have b66 := hf.b 66
 have b67 := hf.b 67
 have b68 := hf.b 68
 have b69 := hf.b 69
 refine fp fun K Z => ?_
 go_simp
 apply Z.out; clear Z K
 refine fp fun K Z => ?_
 go_simp
 apply Z.out; clear Z K
 refine fp fun K Z => ?_
 go_simp
 apply Z.out; clear Z K
 refine Fact.reL (n := 73) (by simp only [Fact.G, hf.size]) hf.defers (fun fr1 hf1 hT => ?_)
 have hKp : _ ∧ _ ∧ _ ∧ _ ∧ _ ∧ _ := ⟨hT 0, hT 3, hT 4, hT 7, hT 66, hT 68⟩
 simp (decide := true) only [Fact.G, hf.size, reduceIte, s0, s3, s4, s7] at hKp
 replace hf := hf1; clear hT hf1 s0 s3 s4 s7 s8 s65 b66 b67 b68 b69
 obtain ⟨s0, s3, s4, s7, s66, s68⟩ := hKp
 have b69 := hf.b 69
 refine ⟨?_⟩
 refine wpList_plain rfl fun K5 hK5 => ?_
 obtain ⟨vs, hvl, hvo, hva⟩ := hkq
 refine wp_app _ _ 82 rfl 28 _ 1 24 Tryd.underlying82 info_list rfl (by decide) (by decide) wr.heap.size (.slice Ak ks.length ck) ks.length vs (Fact.eval_tmp s66) (World.ownsRow.alloc hvo _) wq.heap.size [.slice A8 rest.length c8] (Fact.eval_tmp s68) rfl (lit_new wq _ _) (by intro u hu; simp at hu; subst hu; rfl) (by omega) (by have := hb7.size; have := hbq.size; simp; omega) (fun v9 w9 hr9 hg9 hat9 => hK5 _ _ ?_)
 refine Fact.L.out ?_
 refine fp fun K Z => ?_
 go_simp
 apply Z.out; clear Z K
 refine Fact.z hf fun fr1 hf1 hT => ?_
 have hKp : _ ∧ _ ∧ _ ∧ _ := ⟨hT 0, hT 3, hT 4, hT 7⟩
 simp (decide := true) only [Fact.G, hf.size, reduceIte, s0, s4, s7] at hKp
 replace hf := hf1; clear hT hf1 s0 s3 s4 s7 s66 s68 b69
 obtain ⟨s0, s3, s4, s7⟩ := hKp
 have hbz := hb7.trans (hbq.mono hb7.size)
 have hb9 := (hbz.alloc hbz.size _).grown hg9 (by have := hbz.size; simp; omega) (fun kk hkk => (World.ownsRow.lt hvo kk hkk).1)
 have hk9 : KR w9 wr.heap.size v9 (kindsF [] ((hs.take (j + 1)).map (behE es))) := by rw [HST2.out]; exact KR.snoc ⟨hvl, hvo, hva⟩ hrq hr9 hg9 hat9
 refine Fact.block_normal ?_
 refine nx (hK17 _ _ ?_)
 refine rg ?_
 have b41 := hf.b 41
 have b42 := hf.b 42
 refine fp fun K Z => ?_
 go_simp
 apply Z.out; clear Z K
 refine fp fun K Z => ?_
 go_simp
 try simp (disch := omega) only [Fact.W]
 apply Z.out; clear Z K
 refine fp fun K Z => ?_
 go_simp
 apply Z.out; clear Z K
 refine Fact.z hf fun fr1 hf1 hT => ?_
 have hKp : _ ∧ _ ∧ _ ∧ _ := ⟨hT 0, hT 3, hT 4, hT 7⟩
 simp (decide := true) only [Fact.G, hf.size, reduceIte, s0, s3, s4] at hKp
 replace hf := hf1; clear hT hf1 s0 s3 s4 s7 b41 b42
 obtain ⟨s0, s3, s4, s7⟩ := hKp
 refine Fact.then_normal ?_
 exact ⟨_, by have := HK3.out; omega, j + 1, _, rfl, by omega, hf, s0, s3, s4, by rw [s7]; rfl, hk9, hb9⟩))))
 · (
 have hje : j = hs.length := by have h9 := of_decide_eq_false hq; omega
 rw [hje, List.take_length, ← HHS.out] at hkr
 clear hq hje
 obtain ⟨Ak, ck, hkv⟩ := hkr.form
 subst hkv
 have hke : (kindsF [] ((headsE es).map (behE es))).length = (kindsE es).length := rfl
 rw [hke] at s3
 refine wp_exit ?_
 refine Fact.then_exit ?_
 refine Fact.then_exit ?_
 refine Fact.block_exit ?_
 refine nx (hK13 _ _ ?_)
 refine Fact.sq fun K28 hK28 => ?_
 refine rg ?_
 have b70 := hf.b 70
 have b71 := hf.b 71
 have b72 := hf.b 72
 refine fp fun K Z => ?_
 go_simp
 apply Z.out; clear Z K
 refine fp fun K Z => ?_
 go_simp
 apply Z.out; clear Z K
 refine fp fun K Z => ?_
 go_simp
 rw [show max (1 : Int) ((kindsE es).length : Int) = ((classesE es : Nat) : Int) by unfold classesE; omega]
 apply Z.out; clear Z K
 refine fp fun K Z => ?_
 go_simp
 apply Z.out; clear Z K
 refine Fact.z hf fun fr1 hf1 hT => ?_
 have hKp := hT 2
 simp (decide := true) only [Fact.G, hf.size, reduceIte] at hKp
 replace hf := hf1; clear hT hf1 s0 s3 s4 s7 s40 b70 b71 b72
 have s2 := hKp; clear hKp
 refine nx (hK28 _ _ ?_)
 refine wp_ret ?_
 exact Fact.ret1 rfl hf s2 ⟨rfl, hbw⟩))))
end Dw
end Go.Proofs.YtgjfhedgdbbinaaDoor
