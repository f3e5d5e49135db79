/- cedillaref05: Entries. -/
import Derived.Test.YtgjfhedgdbbinaaDoorR5Ent
import Derived.Test.YtgjfhedgdbbinaaDoorTools
namespace Go.Proofs.YtgjfhedgdbbinaaDoor
open Go.RowKit
set_option linter.unusedSimpArgs false
set_option linter.unusedVariables false
set_option linter.unnecessarySimpa false
namespace Dw
set_option maxHeartbeats 4000000 in
set_option maxRecDepth 100000 in
theorem entries (w : World) (ds : List Dra) (most : Nat) (hm : most ≤ 1000) (v : Value) (hrd : RD w w.heap.size v ds) (hok : ∀ d ∈ ds, okD d) : Calls Tryd.prog 17 #[v, .int .i64 most] w fun e w1 => ∃ v1, e = .returned v1 ∧ OE w1 w.heap.size v1 (entsOf ds most) ∧ Below w.heap.size w w1 := by
 refine calls_of_wp Tryd.func17 rfl ?_
 refine Fact.en 27 fun fr hf hT => ?_
 have s0 := hT 0 _ rfl
 have s1 := hT 1 _ rfl
 clear hT
 have hrd0 := hrd
 obtain ⟨A, c, rfl, hlc⟩ := hrd.form
 clear hrd
 have HOK := Lib.hid hok; clear hok
 refine Fact.sq fun K1 hK1 => ?_
 refine rg ?_
 refine fp fun K Z => ?_
 go_simp
 apply Z.out; clear Z K
 refine Fact.z hf fun fr1 hf1 hT => ?_
 have hKp : _ ∧ _ := ⟨hT 0, hT 1⟩
 simp (decide := true) only [Fact.G, reduceIte, s0, s1] at hKp
 replace hf := hf1; clear hT hf1 s0 s1
 obtain ⟨s0, s1⟩ := hKp
 refine nx (hK1 _ _ ?_)
 refine Fact.sq fun K2 hK2 => ?_
 refine rg ?_
 refine fp fun K Z => ?_
 go_simp
 apply Z.out; clear Z K
 refine Fact.z hf fun fr1 hf1 hT => ?_
 have hKp : _ ∧ _ ∧ _ := ⟨hT 0, hT 1, hT 5⟩
 simp (decide := true) only [Fact.G, hf.size, reduceIte, s0, s1] at hKp
 replace hf := hf1; clear hT hf1 s0 s1
 obtain ⟨s0, s1, s5⟩ := hKp
 refine nx (hK2 _ _ ?_)
 refine Fact.sq fun K3 hK3 => ?_
 refine Fact.sq fun K4 hK4 => ?_
 refine rg ?_
 refine fp fun K Z => ?_
 go_simp
 apply Z.out; clear Z K
 refine Fact.z hf fun fr1 hf1 hT => ?_
 have hKp : _ ∧ _ ∧ _ ∧ _ := ⟨hT 0, hT 1, hT 5, hT 6⟩
 simp (decide := true) only [Fact.G, hf.size, reduceIte, s0, s1, s5] at hKp
 replace hf := hf1; clear hT hf1 s0 s1 s5
 obtain ⟨s0, s1, s5, s6⟩ := hKp
 refine nx (hK4 _ _ ?_)
 refine wp_block ?_
 refine wp_loop_ghost (fun gk fr wr => ∃ (j : Nat) (V : Value), gk = most - j ∧ j ≤ ds.length ∧ j ≤ most ∧ Fact.Fr 27 fr ∧ fr.tmps[0]? = some (.slice A ds.length c) ∧ fr.tmps[1]? = some (.int .i64 most) ∧ fr.tmps[5]? = some V ∧ fr.tmps[6]? = some (.int .i64 j) ∧ OE wr w.heap.size V ((ds.take j).map Dra.ent) ∧ Below w.heap.size w wr) (most) ?_ ?_
 · (
 exact ⟨0, _, rfl, Nat.zero_le _, Nat.zero_le _, hf, s0, s1, s5, s6, OE.nil_ _ _, Below.refl _ _⟩)
 · (
 clear hf s0 s1 s5 s6
 rintro gk fr wr ⟨j, V, hk, hj, hjm, hf, s0, s1, s5, s6, how, hb⟩
 have HK := Lib.hid hk; clear hk
 rcases Nat.lt_or_ge j ds.length with hlt | hge
 · (
 rcases Nat.lt_or_ge j most with hlm | hlm
 · (
 have q1 : decide (j < ds.length) = true := decide_eq_true hlt
 have q2 : decide (j < most) = true := decide_eq_true hlm
 refine Fact.sq fun K5 hK5 => ?_
 refine Fact.sq fun K6 hK6 => ?_
 refine rg ?_
 have b7 := hf.b 7
 have b8 := hf.b 8
 have b9 := hf.b 9
 have b10 := hf.b 10
 have b11 := hf.b 11
 have b12 := hf.b 12
 have b13 := hf.b 13
 have b14 := hf.b 14
 refine fp fun K Z => ?_
 go_simp
 apply Z.out; clear Z K
 refine fp fun K Z => ?_
 go_simp
 apply Z.out; clear Z K
 refine fp fun K Z => ?_
 go_simp
 apply Z.out; clear Z K
 refine fp fun K Z => ?_
 go_simp
 apply Z.out; clear Z K
 refine fp fun K Z => ?_
 go_simp
 apply Z.out; clear Z K
 refine og 4 11 true ?_ fun K Z => ?_
 · (
 simp (decide := true) only [Fact.G, reduceIte, hf.size, q1, q2])
 go_simp
 apply Z.out; clear Z K
 refine og 4 11 true ?_ fun K Z => ?_
 · (
 simp (decide := true) only [Fact.G, reduceIte, hf.size, q1, q2])
 go_simp
 apply Z.out; clear Z K
 refine og 4 11 true ?_ fun K Z => ?_
 · (
 simp (decide := true) only [Fact.G, reduceIte, hf.size, q1, q2])
 go_simp
 apply Z.out; clear Z K
 refine fp fun K Z => ?_
 go_simp
 apply Z.out; clear Z K
 refine Fact.z hf fun fr1 hf1 hT => ?_
 have hKp : _ ∧ _ ∧ _ ∧ _ ∧ _ := ⟨hT 0, hT 1, hT 5, hT 6, hT 15⟩
 simp (decide := true) only [Fact.G, hf.size, reduceIte, s0, s1, s5, s6] at hKp
 replace hf := hf1; clear hT hf1 s0 s1 s5 s6 b7 b8 b9 b10 b11 b12 b13 b14
 obtain ⟨s0, s1, s5, s6, s15⟩ := hKp
 refine nx (hK6 _ _ ?_)
 refine Fact.cond_t s15 ?_
 clear q1 q2
 obtain ⟨d, hd⟩ : ∃ d, ds[j]? = some d := ⟨_, List.getElem?_eq_getElem hlt⟩
 obtain ⟨b, off, lv, rfl, hbb, z0, z1, z2, hru⟩ := (hrd0.below hb).at_ hd
 have hokd := HOK.out d (List.mem_of_getElem? hd)
 have hst : (ds.take (j + 1)).map Dra.ent = (ds.take j).map Dra.ent ++ [d.ent] := by rw [List.take_add_one, hd]; simp
 have hln : ((ds.take j).map Dra.ent).length ≤ 1000000 := by simp; omega
 have HST := Lib.hid hst; clear hst hd
 have hss := hb.size
 obtain ⟨Ee, hEe⟩ : ∃ x, d.ent = x := ⟨_, rfl⟩
 obtain ⟨xs, hxs⟩ : ∃ x, (ds.take j).map Dra.ent = x := ⟨_, rfl⟩
 rw [hxs] at how hln
 have HEe := Lib.hid hEe; have HXS := Lib.hid hxs; clear hEe hxs
 obtain ⟨Av, cv, rfl, hcv⟩ := how.form
 refine wp_skip ?_
 refine nx (hK5 _ _ ?_)
 refine Fact.sq fun K7 hK7 => ?_
 refine wp_block ?_
 refine rg ?_
 have b18 := hf.b 18
 have b19 := hf.b 19
 have b20 := hf.b 20
 have b21 := hf.b 21
 have b22 := hf.b 22
 have b23 := hf.b 23
 have b24 := hf.b 24
 have b25 := hf.b 25
 refine fp fun K Z => ?_
 go_simp
 apply Z.out; clear Z K
 refine fp fun K Z => ?_
 go_simp
 apply Z.out; clear Z K
 refine fp fun K Z => ?_
 go_simp
 apply Z.out; clear Z K
 refine fp fun K Z => ?_
 go_simp
 try rw [if_pos (by omega)]
 apply Z.out; clear Z K
 refine fp fun K Z => ?_
 go_simp
 apply Z.out; clear Z K
 refine fp fun K Z => ?_
 go_simp
 go_at_call 13; refine (dentry wr d lv (hru.more hss) hokd.1).mono ?_; rintro e w2 ⟨rfl, hb2⟩
 rw [HEe.out]
 simp only [eval]
 have how2 := own_later how hb2
 have hbw2 := hb.trans (hb2.mono hss)
 try dsimp only
 apply Z.out; clear Z K
 refine fp fun K Z => ?_
 go_simp
 apply Z.out; clear Z K
 refine Fact.reL (n := 27) (by simp only [Fact.G, hf.size]) hf.defers (fun fr1 hf1 hT => ?_)
 have hKp : _ ∧ _ ∧ _ ∧ _ ∧ _ ∧ _ := ⟨hT 0, hT 1, hT 5, hT 6, hT 18, hT 24⟩
 simp (decide := true) only [Fact.G, hf.size, reduceIte, s0, s1, s5, s6] at hKp
 replace hf := hf1; clear hT hf1 s0 s1 s5 s6 s15 b18 b19 b20 b21 b22 b23 b24 b25
 obtain ⟨s0, s1, s5, s6, s18, s24⟩ := hKp
 have b25 := hf.b 25
 refine ⟨?_⟩
 refine wpList_plain rfl fun K5 hK5 => ?_
 refine wp_app _ _ 28 rfl 42 _ 3 24 Tryd.underlying28 info_ent rfl (by decide) (by decide) w.heap.size (.slice Av xs.length cv) xs.length _ (Fact.eval_tmp s18) (how2.alloc _) w2.heap.size Ee.cells (Fact.eval_tmp s24) rfl (lit_new w2 _ _) (ent_one Ee) (by omega) (by have := hbw2.size; simp; omega) (fun v5 w5 hr5 hg5 hat5 => hK5 _ _ ?_)
 refine Fact.L.out ?_
 refine fp fun K Z => ?_
 go_simp
 apply Z.out; clear Z K
 refine Fact.z hf fun fr1 hf1 hT => ?_
 have hKp : _ ∧ _ ∧ _ ∧ _ := ⟨hT 0, hT 1, hT 5, hT 6⟩
 simp (decide := true) only [Fact.G, hf.size, reduceIte, s0, s1, s6] at hKp
 replace hf := hf1; clear hT hf1 s0 s1 s5 s6 s18 s24 b25
 obtain ⟨s0, s1, s5, s6⟩ := hKp
 have hb5 := (hbw2.alloc hbw2.size _).grown hg5 (by have := hbw2.size; simp; omega) (fun kk hkk => (how2.lt kk hkk).1)
 have how5 : OE w5 w.heap.size v5 (xs ++ [Ee]) := by unfold OE; rw [ecs_append, List.length_append]; exact hr5
 refine Fact.block_normal ?_
 refine nx (hK7 _ _ ?_)
 refine rg ?_
 have b16 := hf.b 16
 have b17 := hf.b 17
 refine fp fun K Z => ?_
 go_simp
 apply Z.out; clear Z K
 refine fp fun K Z => ?_
 go_simp
 try simp (disch := omega) only [Fact.W]
 apply Z.out; clear Z K
 refine fp fun K Z => ?_
 go_simp
 apply Z.out; clear Z K
 refine Fact.z hf fun fr1 hf1 hT => ?_
 have hKp : _ ∧ _ ∧ _ ∧ _ := ⟨hT 0, hT 1, hT 5, hT 6⟩
 simp (decide := true) only [Fact.G, hf.size, reduceIte, s0, s1, s5] at hKp
 replace hf := hf1; clear hT hf1 s0 s1 s5 s6 b16 b17
 obtain ⟨s0, s1, s5, s6⟩ := hKp
 refine Fact.then_normal ?_
 exact ⟨_, by have := HK.out; omega, j + 1, v5, rfl, by omega, by omega, hf, s0, s1, s5, by rw [s6]; rfl, by rw [HST.out, HXS.out, HEe.out]; exact how5, hb5⟩)
 · (
 have q1 : decide (j < ds.length) = true := decide_eq_true (by omega)
 have q2 : decide (j < most) = false := decide_eq_false (by omega)
 refine Fact.sq fun K8 hK8 => ?_
 refine Fact.sq fun K9 hK9 => ?_
 refine rg ?_
 have b7 := hf.b 7
 have b8 := hf.b 8
 have b9 := hf.b 9
 have b10 := hf.b 10
 have b11 := hf.b 11
 have b12 := hf.b 12
 have b13 := hf.b 13
 have b14 := hf.b 14
 refine fp fun K Z => ?_
 go_simp
 apply Z.out; clear Z K
 refine fp fun K Z => ?_
 go_simp
 apply Z.out; clear Z K
 refine fp fun K Z => ?_
 go_simp
 apply Z.out; clear Z K
 refine fp fun K Z => ?_
 go_simp
 apply Z.out; clear Z K
 refine fp fun K Z => ?_
 go_simp
 apply Z.out; clear Z K
 refine og 4 11 true ?_ fun K Z => ?_
 · (
 simp (decide := true) only [Fact.G, reduceIte, hf.size, q1, q2])
 go_simp
 apply Z.out; clear Z K
 refine og 4 11 true ?_ fun K Z => ?_
 · (
 simp (decide := true) only [Fact.G, reduceIte, hf.size, q1, q2])
 go_simp
 apply Z.out; clear Z K
 refine og 4 11 true ?_ fun K Z => ?_
 · (
 simp (decide := true) only [Fact.G, reduceIte, hf.size, q1, q2])
 go_simp
 apply Z.out; clear Z K
 refine fp fun K Z => ?_
 go_simp
 apply Z.out; clear Z K
 refine Fact.z hf fun fr1 hf1 hT => ?_
 have hKp : _ ∧ _ ∧ _ ∧ _ ∧ _ := ⟨hT 0, hT 1, hT 5, hT 6, hT 15⟩
 simp (decide := true) only [Fact.G, hf.size, reduceIte, s0, s1, s5, s6] at hKp
 replace hf := hf1; clear hT hf1 s0 s1 s5 s6 b7 b8 b9 b10 b11 b12 b13 b14
 obtain ⟨s0, s1, s5, s6, s15⟩ := hKp
 refine nx (hK9 _ _ ?_)
 refine Fact.cond_f s15 ?_
 clear q1 q2
 have he : ds.take j = ds.take most := by rw [show j = most by omega]
 rw [he] at how
 clear he
 refine wp_exit ?_
 refine Fact.then_exit ?_
 refine Fact.then_exit ?_
 refine Fact.block_exit ?_
 refine nx (hK3 _ _ ?_)
 refine Fact.sq fun K10 hK10 => ?_
 refine rg ?_
 have b26 := hf.b 26
 refine fp fun K Z => ?_
 go_simp
 apply Z.out; clear Z K
 refine fp fun K Z => ?_
 go_simp
 apply Z.out; clear Z K
 refine Fact.z hf fun fr1 hf1 hT => ?_
 have hKp := hT 4
 simp (decide := true) only [Fact.G, hf.size, reduceIte] at hKp
 replace hf := hf1; clear hT hf1 s0 s1 s5 s6 s15 b26
 have s4 := hKp; clear hKp
 refine nx (hK10 _ _ ?_)
 refine wp_ret ?_
 exact Fact.ret1 rfl hf s4 ⟨_, rfl, how, hb⟩))
 · (
 have q1 : decide (j < ds.length) = false := decide_eq_false (by omega)
 refine Fact.sq fun K11 hK11 => ?_
 refine Fact.sq fun K12 hK12 => ?_
 refine rg ?_
 have b7 := hf.b 7
 have b8 := hf.b 8
 have b9 := hf.b 9
 have b10 := hf.b 10
 have b11 := hf.b 11
 have b12 := hf.b 12
 have b13 := hf.b 13
 have b14 := hf.b 14
 refine fp fun K Z => ?_
 go_simp
 apply Z.out; clear Z K
 refine fp fun K Z => ?_
 go_simp
 apply Z.out; clear Z K
 refine fp fun K Z => ?_
 go_simp
 apply Z.out; clear Z K
 refine fp fun K Z => ?_
 go_simp
 apply Z.out; clear Z K
 refine fp fun K Z => ?_
 go_simp
 apply Z.out; clear Z K
 refine sk 4 11 true ?_ ?_
 · (
 simp (decide := true) only [Fact.G, reduceIte, hf.size, q1, Fact.N])
 refine sk 4 11 true ?_ ?_
 · (
 simp (decide := true) only [Fact.G, reduceIte, hf.size, q1, Fact.N])
 refine sk 4 11 true ?_ ?_
 · (
 simp (decide := true) only [Fact.G, reduceIte, hf.size, q1, Fact.N])
 refine fp fun K Z => ?_
 go_simp
 apply Z.out; clear Z K
 refine Fact.z hf fun fr1 hf1 hT => ?_
 have hKp : _ ∧ _ ∧ _ ∧ _ ∧ _ := ⟨hT 0, hT 1, hT 5, hT 6, hT 15⟩
 simp (decide := true) only [Fact.G, hf.size, reduceIte, s0, s1, s5, s6] at hKp
 replace hf := hf1; clear hT hf1 s0 s1 s5 s6 b7 b8 b9 b10 b11 b12 b13 b14
 obtain ⟨s0, s1, s5, s6, s15⟩ := hKp
 refine nx (hK12 _ _ ?_)
 refine Fact.cond_f s15 ?_
 clear q1
 have he : ds.take j = ds.take most := by rw [List.take_of_length_le (by omega), List.take_of_length_le (by omega)]
 rw [he] at how
 clear he
 refine wp_exit ?_
 refine Fact.then_exit ?_
 refine Fact.then_exit ?_
 refine Fact.block_exit ?_
 refine nx (hK3 _ _ ?_)
 refine Fact.sq fun K13 hK13 => ?_
 refine rg ?_
 have b26 := hf.b 26
 refine fp fun K Z => ?_
 go_simp
 apply Z.out; clear Z K
 refine fp fun K Z => ?_
 go_simp
 apply Z.out; clear Z K
 refine Fact.z hf fun fr1 hf1 hT => ?_
 have hKp := hT 4
 simp (decide := true) only [Fact.G, hf.size, reduceIte] at hKp
 replace hf := hf1; clear hT hf1 s0 s1 s5 s6 s15 b26
 have s4 := hKp; clear hKp
 refine nx (hK13 _ _ ?_)
 refine wp_ret ?_
 exact Fact.ret1 rfl hf s4 ⟨_, rfl, how, hb⟩))
end Dw
end Go.Proofs.YtgjfhedgdbbinaaDoor
