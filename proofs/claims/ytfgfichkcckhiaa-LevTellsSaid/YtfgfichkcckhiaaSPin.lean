/- slices.partialInsertionSortOrdered at bytes. -/
import Derived.Test.YtfgfichkcckhiaaSCmp
namespace Go.Proofs.Ytfgfichkcckhiaa
open Go.RowKit
set_option linter.unusedSimpArgs false
set_option linter.unusedVariables false
set_option linter.unnecessarySimpa false
namespace Sb
set_option maxHeartbeats 4000000 in
set_option maxRecDepth 100000 in
theorem pin_any (zs : List Int) (g n c a b : Nat) (w : World) (hn : zs.length = n) (hnl : n ≤ 400000000) (hab : a < b) (hb : b ≤ n) (hpre : a = 0 ∨ ∀ k, a ≤ k → k < b → zs.getD (a - 1) 0 ≤ zs.getD k 0) (h : Arr w g zs) : Calls Try.prog 84 #[.slice (some ⟨g, 0, none⟩) n c, .int .i64 a, .int .i64 b] w fun e w1 => ∃ (q : Bool) (ys : List Int), e = .returned (.bool q) ∧ Segm a b zs ys ∧ (q = true → SortedOn a b ys) ∧ Arr w1 g ys ∧ Only w w1 g := by
 refine calls_of_wp Try.func84 rfl ?_
 refine Fact.enter (n := 133) (by kernel_rfl) (fun fr hf hT => ?_)
 have s0 := hT 0 _ rfl
 have s1 := hT 1 _ rfl
 have s2 := hT 2 _ rfl
 clear hT
 have HN := Lib.hid hn; clear hn
 have q1 : IntKind.i64.wrap ((a : Int) + 1) = ((a + 1 : Nat) : Int) := by rw [Fact.wrap_i64 (by omega) (by omega)]; omega
 refine wp_seq_k (fun K1 hK1 => ?_)
 refine Fact.region ?_
 refine Fact.p rfl fun K hK => ?_
 go_simp
 refine hK.out _ _ ?_; clear hK K
 refine Fact.nil ?_
 refine Fact.q hf (by simp only [Fact.G]) rfl fun fr1 hf1 hT => ?_
 have hKp : _ ∧ _ ∧ _ ∧ _ := ⟨hT 0, hT 1, hT 2, hT 6⟩
 simp only [Fact.G, Nat.reduceEqDiff, Nat.reduceLT, hf.size, reduceIte, s0, s1, s2] at hKp
 clear hT hf s0 s1 s2
 obtain ⟨s0, s1, s2, s6⟩ := hKp
 have hf := hf1; clear hf1
 refine Fact.nx (hK1 _ _ ?_)
 refine wp_seq_k (fun K2 hK2 => ?_)
 refine Fact.region ?_
 have b11 := hf.l 11 rfl
 have b12 := hf.l 12 rfl
 refine Fact.p rfl fun K hK => ?_
 go_simp
 refine hK.out _ _ ?_; clear hK K
 refine Fact.p rfl fun K hK => ?_
 go_simp
 try simp (disch := omega) only [Fact.wrap_i64, Fact.wrap_u8, Fact.wrap_u32, Fact.wrap_u64]
 refine hK.out _ _ ?_; clear hK K
 refine Fact.p rfl fun K hK => ?_
 go_simp
 refine hK.out _ _ ?_; clear hK K
 refine Fact.nil ?_
 refine Fact.q hf (by simp only [Fact.G]) rfl fun fr1 hf1 hT => ?_
 have hKp : _ ∧ _ ∧ _ ∧ _ ∧ _ := ⟨hT 0, hT 1, hT 2, hT 6, hT 7⟩
 simp only [Fact.G, Nat.reduceEqDiff, Nat.reduceLT, hf.size, reduceIte, s0, s1, s2, s6] at hKp
 clear hT hf s0 s1 s2 s6 b11 b12
 obtain ⟨s0, s1, s2, s6, s7⟩ := hKp
 have hf := hf1; clear hf1
 have s7 : fr1.tmps[7]? = some (.int .i64 ((a + 1 : Nat) : Int)) := by first | exact s7 | (rw [s7]; go_num)
 clear q1
 refine Fact.nx (hK2 _ _ ?_)
 refine wp_seq_k (fun K3 hK3 => ?_)
 refine wp_seq_k (fun K4 hK4 => ?_)
 refine Fact.region ?_
 refine Fact.p rfl fun K hK => ?_
 go_simp
 refine hK.out _ _ ?_; clear hK K
 refine Fact.nil ?_
 refine Fact.q hf (by simp only [Fact.G]) rfl fun fr1 hf1 hT => ?_
 have hKp : _ ∧ _ ∧ _ ∧ _ ∧ _ ∧ _ := ⟨hT 0, hT 1, hT 2, hT 6, hT 7, hT 8⟩
 simp only [Fact.G, Nat.reduceEqDiff, Nat.reduceLT, hf.size, reduceIte, s0, s1, s2, s6, s7] at hKp
 clear hT hf s0 s1 s2 s6 s7
 obtain ⟨s0, s1, s2, s6, s7, s8⟩ := hKp
 have hf := hf1; clear hf1
 refine Fact.nx (hK4 _ _ ?_)
 refine wp_block ?_
 refine wp_loop_ghost (fun gk fr wr => ∃ (i jj : Nat) (ys : List Int), gk = 5 - jj ∧ jj ≤ 5 ∧ a < i ∧ i ≤ b ∧ Fact.Fr 133 fr ∧ fr.tmps[0]? = some (.slice (some ⟨g, 0, none⟩) n c) ∧ fr.tmps[1]? = some (.int .i64 a) ∧ fr.tmps[2]? = some (.int .i64 b) ∧ fr.tmps[7]? = some (.int .i64 i) ∧ fr.tmps[8]? = some (.int .i64 jj) ∧ Segm a b zs ys ∧ SortedOn a i ys ∧ Arr wr g ys ∧ Only w wr g) (5) ?_ ?_
 · (
 exact ⟨a + 1, 0, zs, rfl, by omega, by omega, by omega, hf, s0, s1, s2, s7, s8, Segm.refl _ _ _, SortedOn.one _ _, h, Only.refl _ _⟩)
 · (
 clear hf s0 s1 s2 s6 s7 s8
 rintro gk fr wr ⟨i0, jj, ys, hk, hjj, hai0, hib0, hf, s0, s1, s2, s7, s8, hsg, hso, ha, ho⟩
 have HK := Lib.hid hk; clear hk
 have HYL := Lib.hid (show ys.length = n by rw [hsg.len]; exact HN.out)
 by_cases h5 : jj < 5
 · (
 have h5i : (jj : Int) < 5 := by omega
 refine wp_seq_k (fun K5 hK5 => ?_)
 refine wp_seq_k (fun K6 hK6 => ?_)
 refine Fact.region ?_
 have b13 := hf.l 13 rfl
 refine Fact.p rfl fun K hK => ?_
 go_simp
 refine hK.out _ _ ?_; clear hK K
 refine Fact.p rfl fun K hK => ?_
 go_simp
 refine hK.out _ _ ?_; clear hK K
 refine Fact.nil ?_
 refine Fact.q hf (by simp only [Fact.G]) rfl fun fr1 hf1 hT => ?_
 have hKp : _ ∧ _ ∧ _ ∧ _ ∧ _ ∧ _ ∧ _ := ⟨hT 0, hT 1, hT 2, hT 7, hT 8, hT 13, hT 14⟩
 simp only [Fact.G, Nat.reduceEqDiff, Nat.reduceLT, hf.size, reduceIte, s0, s1, s2, s7, s8] at hKp
 clear hT hf s0 s1 s2 s7 s8 b13
 obtain ⟨s0, s1, s2, s7, s8, s13, s14⟩ := hKp
 have hf := hf1; clear hf1
 refine Fact.nx (hK6 _ _ ?_)
 refine Fact.cond_t s14 ?_
 refine wp_skip ?_
 refine Fact.nx (hK5 _ _ ?_)
 refine wp_seq_k (fun K7 hK7 => ?_)
 refine wp_block ?_
 refine Fact.seq_meet (fun fr w2 => ∃ i : Nat, a < i ∧ i ≤ b ∧ (i = b ∨ ys.getD i 0 < ys.getD (i - 1) 0) ∧ Fact.Fr 133 fr ∧ fr.tmps[0]? = some (.slice (some ⟨g, 0, none⟩) n c) ∧ fr.tmps[1]? = some (.int .i64 a) ∧ fr.tmps[2]? = some (.int .i64 b) ∧ fr.tmps[7]? = some (.int .i64 i) ∧ fr.tmps[8]? = some (.int .i64 jj) ∧ SortedOn a i ys ∧ Arr w2 g ys ∧ Only w w2 g) ?_ ?_
 · (
 refine wp_block ?_
 refine wp_loop_ghost (fun gk2 fr w2 => ∃ i : Nat, gk2 = b - i ∧ a < i ∧ i ≤ b ∧ Fact.Fr 133 fr ∧ fr.tmps[0]? = some (.slice (some ⟨g, 0, none⟩) n c) ∧ fr.tmps[1]? = some (.int .i64 a) ∧ fr.tmps[2]? = some (.int .i64 b) ∧ fr.tmps[7]? = some (.int .i64 i) ∧ fr.tmps[8]? = some (.int .i64 jj) ∧ SortedOn a i ys ∧ Arr w2 g ys ∧ Only w w2 g) (b - i0) ?_ ?_
 · (
 exact ⟨i0, rfl, hai0, hib0, hf, s0, s1, s2, s7, s8, hso, ha, ho⟩)
 · (
 clear hf s0 s1 s2 s7 s8 s13 s14
 clear hso ha ho
 rintro gk2 fr w2 ⟨i, hk2, hai, hib, hf, s0, s1, s2, s7, s8, hso, ha, ho⟩
 have HK2 := Lib.hid hk2; clear hk2
 by_cases hlt : i < b
 · (
 obtain ⟨q, rfl⟩ : ∃ q, i = q + 1 := ⟨i - 1, by omega⟩
 have hltI : (q : Int) + 1 < (b : Int) := by omega
 have e4 : IntKind.i64.wrap ((q : Int) + 1 + 1) = (q : Int) + 1 + 1 := Fact.wrap_i64 (by omega) (by omega)
 have n1 : IntKind.i64.wrap ((q : Int) + 1 - 1) = (q : Int) := by rw [Fact.wrap_i64 (by omega) (by omega)]; omega
 have n2 : IntKind.i64.wrap (q : Int) = (q : Int) := Fact.wrap_i64 (by omega) (by omega)
 have n3 : (q : Int) + 1 < (n : Int) := by omega
 have n4 : (0 : Int) ≤ (q : Int) + 1 := by omega
 have n5 : q < n := by omega
 obtain ⟨x, hx⟩ : ∃ v, ys[q + 1]? = some v := ⟨ys[q + 1]'(by have := HYL.out; omega), List.getElem?_eq_getElem _⟩
 have Hxd := Lib.hid (show ys.getD (q + 1) 0 = x by simp [List.getD, hx])
 have Hx := Lib.hid hx
 clear hx
 obtain ⟨y, hy⟩ : ∃ v, ys[q]? = some v := ⟨ys[q]'(by have := HYL.out; omega), List.getElem?_eq_getElem _⟩
 have Hyd := Lib.hid (show ys.getD (q) 0 = y by simp [List.getD, hy])
 have Hy := Lib.hid hy
 clear hy
 have cx := ha.cell Hx.out; have cy := ha.cell Hy.out
 by_cases hxy : x < y
 · (
 refine wp_seq_k (fun K8 hK8 => ?_)
 refine wp_seq_k (fun K9 hK9 => ?_)
 refine Stage.begin_ (n := 133) [] (fun k w1 => w1 = [w2.drew].getD k (w2.drew)) (Stab.OkOps.of (by kernel_rfl)) (fun hok => ?_)
 refine Stage.mvO (k := 0) s7 hf.size hok.out rfl rfl rfl (.inl rfl) (by kernel_rfl) (by kernel_rfl) ?_
 refine Stage.mvO (k := 1) s2 hf.size hok.out rfl rfl rfl (.inl rfl) (by kernel_rfl) (by kernel_rfl) ?_
 apply Stage.t 2 _ hf.size hok.out rfl (by kernel_rfl)
 · (
 intro fr1 w1 hh hd hk K hK
 refine Stab.op_plain (o := _) rfl rfl ?_
 have s17 := Stage.u 0 1 hd hk rfl [] (by kernel_rfl) rfl rfl rfl
 have s18 := Stage.u 1 0 hd hk rfl [] (by kernel_rfl) rfl rfl rfl
 clear hd
 go_simp
 exact hK.out _ rfl _ rfl)
 refine Stage.mvN (k := 3) (j := 2) (m := 0) hf.size hok.out rfl rfl rfl (.inl rfl) rfl [] (by kernel_rfl) rfl rfl rfl (by kernel_rfl) ?_
 apply Stage.t 4 _ hf.size hok.out rfl (by kernel_rfl)
 · (
 intro fr1 w1 hh hd hk K hK
 have s20 := Stage.u 3 0 hd hk rfl [] (by kernel_rfl) rfl rfl rfl
 refine Stab.op_guard (o := _) rfl rfl rfl rfl s20 ?_
 have s0 := Stage.o hh (by kernel_rfl) s0
 clear hd
 go_simp
 exact hK.out _ rfl _ rfl)
 apply Stage.t 5 _ hf.size hok.out rfl (by kernel_rfl)
 · (
 intro fr1 w1 hh hd hk K hK
 have s20 := Stage.u 3 1 hd hk rfl [] (by kernel_rfl) rfl rfl rfl
 refine Stab.op_guard (o := _) rfl rfl rfl rfl s20 ?_
 have s7 := Stage.o hh (by kernel_rfl) s7
 clear hd
 go_simp
 exact hK.out _ rfl _ rfl)
 apply Stage.t 6 _ hf.size hok.out rfl (by kernel_rfl)
 · (
 intro fr1 w1 hh hd hk K hK
 have s20 := Stage.u 3 2 hd hk rfl [] (by kernel_rfl) rfl rfl rfl
 refine Stab.op_guard (o := _) rfl rfl rfl rfl s20 ?_
 have s21 := Stage.u 4 1 hd hk rfl [] (by kernel_rfl) rfl rfl rfl
 have s22 := Stage.u 5 0 hd hk rfl [] (by kernel_rfl) rfl rfl rfl
 clear hd
 go_simp
 exact hK.out _ rfl _ rfl)
 apply Stage.todo_look (k := 7) (n := 133) 0 [] [] _ hf.size hok.out rfl (by kernel_rfl)
 · (
 intro fr1 w1 hh hw hd hk K hK
 replace hw : w1 = w2.drew := hw
 subst hw
 have s20 := Stage.u 3 3 hd hk rfl [] (by kernel_rfl) rfl rfl rfl
 refine Stab.op_guard (o := _) rfl rfl rfl rfl s20 ?_
 have s23 := Stage.u 6 0 hd hk rfl [] (by kernel_rfl) rfl rfl rfl
 clear hd
 go_simp
 exact hK.out _ rfl _ _ rfl rfl)
 apply Stage.t 8 _ hf.size hok.out rfl (by kernel_rfl)
 · (
 intro fr1 w1 hh hd hk K hK
 have s20 := Stage.u 3 4 hd hk rfl [] (by kernel_rfl) rfl rfl rfl
 refine Stab.op_guard (o := _) rfl rfl rfl rfl s20 ?_
 have s0 := Stage.o hh (by kernel_rfl) s0
 clear hd
 go_simp
 exact hK.out _ rfl _ rfl)
 apply Stage.t 9 _ hf.size hok.out rfl (by kernel_rfl)
 · (
 intro fr1 w1 hh hd hk K hK
 have s20 := Stage.u 3 5 hd hk rfl [] (by kernel_rfl) rfl rfl rfl
 refine Stab.op_guard (o := _) rfl rfl rfl rfl s20 ?_
 have s7 := Stage.o hh (by kernel_rfl) s7
 clear hd
 go_simp
 exact hK.out _ rfl _ rfl)
 apply Stage.t 10 _ hf.size hok.out rfl (by kernel_rfl)
 · (
 intro fr1 w1 hh hd hk K hK
 have s20 := Stage.u 3 6 hd hk rfl [] (by kernel_rfl) rfl rfl rfl
 refine Stab.op_guard (o := _) rfl rfl rfl rfl s20 ?_
 have s26 := Stage.u 9 0 hd hk rfl [] (by kernel_rfl) rfl rfl rfl
 clear hd
 go_simp
 exact hK.out _ rfl _ rfl)
 apply Stage.t 11 _ hf.size hok.out rfl (by kernel_rfl)
 · (
 intro fr1 w1 hh hd hk K hK
 have s20 := Stage.u 3 7 hd hk rfl [] (by kernel_rfl) rfl rfl rfl
 refine Stab.op_guard (o := _) rfl rfl rfl rfl s20 ?_
 have s25 := Stage.u 8 2 hd hk rfl [] (by kernel_rfl) rfl rfl rfl
 have s27 := Stage.u 10 0 hd hk rfl [] (by kernel_rfl) rfl rfl rfl
 clear hd
 go_simp
 exact hK.out _ rfl _ rfl)
 apply Stage.todo_look (k := 12) (n := 133) 0 [] [] _ hf.size hok.out rfl (by kernel_rfl)
 · (
 intro fr1 w1 hh hw hd hk K hK
 replace hw : w1 = w2.drew := hw
 subst hw
 have s20 := Stage.u 3 8 hd hk rfl [] (by kernel_rfl) rfl rfl rfl
 refine Stab.op_guard (o := _) rfl rfl rfl rfl s20 ?_
 have s28 := Stage.u 11 0 hd hk rfl [] (by kernel_rfl) rfl rfl rfl
 clear hd
 go_simp
 exact hK.out _ rfl _ _ rfl rfl)
 apply Stage.todo_look (k := 13) (n := 133) 0 [] [] _ hf.size hok.out rfl (by kernel_rfl)
 · (
 intro fr1 w1 hh hw hd hk K hK
 replace hw : w1 = w2.drew := hw
 subst hw
 have s20 := Stage.u 3 9 hd hk rfl [] (by kernel_rfl) rfl rfl rfl
 refine Stab.op_guard (o := _) rfl rfl rfl rfl s20 ?_
 have s24 := Stage.u 7 5 hd hk rfl [] (by kernel_rfl) rfl rfl rfl
 have s29 := Stage.u 12 0 hd hk rfl [] (by kernel_rfl) rfl rfl rfl
 clear hd
 go_simp
 go_at_call 85; refine (less_any _ _ _).mono ?_; rintro e w2 ⟨rfl, rfl⟩
 exact hK.out _ rfl _ _ rfl rfl)
 apply Stage.t 14 _ hf.size hok.out rfl (by kernel_rfl)
 · (
 intro fr1 w1 hh hd hk K hK
 have s20 := Stage.u 3 10 hd hk rfl [] (by kernel_rfl) rfl rfl rfl
 refine Stab.op_guard (o := _) rfl rfl rfl rfl s20 ?_
 have s30 := Stage.u 13 0 hd hk rfl [] (by kernel_rfl) rfl rfl rfl
 clear hd
 go_simp
 exact hK.out _ rfl _ rfl)
 apply Stage.t 15 _ hf.size hok.out rfl (by kernel_rfl)
 · (
 intro fr1 w1 hh hd hk K hK
 refine Stab.op_plain (o := _) rfl rfl ?_
 have s20 := Stage.u 3 11 hd hk rfl [] (by kernel_rfl) rfl rfl rfl
 have s31 := Stage.u 14 0 hd hk rfl [] (by kernel_rfl) rfl rfl rfl
 clear hd
 go_simp
 exact hK.out _ rfl _ rfl)
 refine Stage.todo_facts (n := 133) (by kernel_rfl) hf.size hok.out rfl (by decide) (by decide) rfl (fun fr1 w1 hh hg hw => ?_)
 replace hw : w1 = w2.drew := hw
 subst hw
 replace s0 := Stage.o hh (by kernel_rfl) s0
 replace s1 := Stage.o hh (by kernel_rfl) s1
 replace s2 := Stage.o hh (by kernel_rfl) s2
 replace s7 := Stage.o hh (by kernel_rfl) s7
 replace s8 := Stage.o hh (by kernel_rfl) s8
 have s17 := Stage.e 0 15 hg rfl rfl rfl rfl
 have s18 := Stage.e 1 14 hg rfl rfl rfl rfl
 have s19 := Stage.e 2 13 hg rfl rfl rfl rfl
 have s20 := Stage.e 3 12 hg rfl rfl rfl rfl
 have s21 := Stage.e 4 11 hg rfl rfl rfl rfl
 have s22 := Stage.e 5 10 hg rfl rfl rfl rfl
 have s23 := Stage.e 6 9 hg rfl rfl rfl rfl
 have s24 := Stage.e 7 8 hg rfl rfl rfl rfl
 have s25 := Stage.e 8 7 hg rfl rfl rfl rfl
 have s26 := Stage.e 9 6 hg rfl rfl rfl rfl
 have s27 := Stage.e 10 5 hg rfl rfl rfl rfl
 have s28 := Stage.e 11 4 hg rfl rfl rfl rfl
 have s29 := Stage.e 12 3 hg rfl rfl rfl rfl
 have s30 := Stage.e 13 2 hg rfl rfl rfl rfl
 have s31 := Stage.e 14 1 hg rfl rfl rfl rfl
 have s32 := Stage.e 15 0 hg rfl rfl rfl rfl
 have hf1 : Fact.Fr 133 fr1 := ⟨hh.size.trans hf.size, hh.defers.trans hf.defers⟩
 clear hg hh hf
 have hf := hf1; clear hf1
 clear hok
 have ha3 := ha.drew; have ho3 := ho.drew
 clear ha ho cx cy
 generalize w2.drew = wd at *
 refine Fact.nx (hK9 _ _ ?_)
 refine Fact.cond_f s32 ?_
 have hcl : ys.getD (q + 1) 0 < ys.getD q 0 := by rw [Hxd.out, Hyd.out]; exact hxy
 refine wp_exit ?_
 refine Fact.then_exit ?_
 refine Fact.then_exit ?_
 refine Fact.block_exit ?_
 refine Fact.then_normal ?_
 exact ⟨q + 1, hai, hib, .inr hcl, hf, s0, s1, s2, s7, s8, hso, ha3, ho3⟩)
 · (
 refine wp_seq_k (fun K10 hK10 => ?_)
 refine wp_seq_k (fun K11 hK11 => ?_)
 refine Stage.begin_ (n := 133) [] (fun k w1 => w1 = [w2.drew].getD k (w2.drew)) (Stab.OkOps.of (by kernel_rfl)) (fun hok => ?_)
 refine Stage.mvO (k := 0) s7 hf.size hok.out rfl rfl rfl (.inl rfl) (by kernel_rfl) (by kernel_rfl) ?_
 refine Stage.mvO (k := 1) s2 hf.size hok.out rfl rfl rfl (.inl rfl) (by kernel_rfl) (by kernel_rfl) ?_
 apply Stage.t 2 _ hf.size hok.out rfl (by kernel_rfl)
 · (
 intro fr1 w1 hh hd hk K hK
 refine Stab.op_plain (o := _) rfl rfl ?_
 have s17 := Stage.u 0 1 hd hk rfl [] (by kernel_rfl) rfl rfl rfl
 have s18 := Stage.u 1 0 hd hk rfl [] (by kernel_rfl) rfl rfl rfl
 clear hd
 go_simp
 exact hK.out _ rfl _ rfl)
 refine Stage.mvN (k := 3) (j := 2) (m := 0) hf.size hok.out rfl rfl rfl (.inl rfl) rfl [] (by kernel_rfl) rfl rfl rfl (by kernel_rfl) ?_
 apply Stage.t 4 _ hf.size hok.out rfl (by kernel_rfl)
 · (
 intro fr1 w1 hh hd hk K hK
 have s20 := Stage.u 3 0 hd hk rfl [] (by kernel_rfl) rfl rfl rfl
 refine Stab.op_guard (o := _) rfl rfl rfl rfl s20 ?_
 have s0 := Stage.o hh (by kernel_rfl) s0
 clear hd
 go_simp
 exact hK.out _ rfl _ rfl)
 apply Stage.t 5 _ hf.size hok.out rfl (by kernel_rfl)
 · (
 intro fr1 w1 hh hd hk K hK
 have s20 := Stage.u 3 1 hd hk rfl [] (by kernel_rfl) rfl rfl rfl
 refine Stab.op_guard (o := _) rfl rfl rfl rfl s20 ?_
 have s7 := Stage.o hh (by kernel_rfl) s7
 clear hd
 go_simp
 exact hK.out _ rfl _ rfl)
 apply Stage.t 6 _ hf.size hok.out rfl (by kernel_rfl)
 · (
 intro fr1 w1 hh hd hk K hK
 have s20 := Stage.u 3 2 hd hk rfl [] (by kernel_rfl) rfl rfl rfl
 refine Stab.op_guard (o := _) rfl rfl rfl rfl s20 ?_
 have s21 := Stage.u 4 1 hd hk rfl [] (by kernel_rfl) rfl rfl rfl
 have s22 := Stage.u 5 0 hd hk rfl [] (by kernel_rfl) rfl rfl rfl
 clear hd
 go_simp
 exact hK.out _ rfl _ rfl)
 apply Stage.todo_look (k := 7) (n := 133) 0 [] [] _ hf.size hok.out rfl (by kernel_rfl)
 · (
 intro fr1 w1 hh hw hd hk K hK
 replace hw : w1 = w2.drew := hw
 subst hw
 have s20 := Stage.u 3 3 hd hk rfl [] (by kernel_rfl) rfl rfl rfl
 refine Stab.op_guard (o := _) rfl rfl rfl rfl s20 ?_
 have s23 := Stage.u 6 0 hd hk rfl [] (by kernel_rfl) rfl rfl rfl
 clear hd
 go_simp
 exact hK.out _ rfl _ _ rfl rfl)
 apply Stage.t 8 _ hf.size hok.out rfl (by kernel_rfl)
 · (
 intro fr1 w1 hh hd hk K hK
 have s20 := Stage.u 3 4 hd hk rfl [] (by kernel_rfl) rfl rfl rfl
 refine Stab.op_guard (o := _) rfl rfl rfl rfl s20 ?_
 have s0 := Stage.o hh (by kernel_rfl) s0
 clear hd
 go_simp
 exact hK.out _ rfl _ rfl)
 apply Stage.t 9 _ hf.size hok.out rfl (by kernel_rfl)
 · (
 intro fr1 w1 hh hd hk K hK
 have s20 := Stage.u 3 5 hd hk rfl [] (by kernel_rfl) rfl rfl rfl
 refine Stab.op_guard (o := _) rfl rfl rfl rfl s20 ?_
 have s7 := Stage.o hh (by kernel_rfl) s7
 clear hd
 go_simp
 exact hK.out _ rfl _ rfl)
 apply Stage.t 10 _ hf.size hok.out rfl (by kernel_rfl)
 · (
 intro fr1 w1 hh hd hk K hK
 have s20 := Stage.u 3 6 hd hk rfl [] (by kernel_rfl) rfl rfl rfl
 refine Stab.op_guard (o := _) rfl rfl rfl rfl s20 ?_
 have s26 := Stage.u 9 0 hd hk rfl [] (by kernel_rfl) rfl rfl rfl
 clear hd
 go_simp
 exact hK.out _ rfl _ rfl)
 apply Stage.t 11 _ hf.size hok.out rfl (by kernel_rfl)
 · (
 intro fr1 w1 hh hd hk K hK
 have s20 := Stage.u 3 7 hd hk rfl [] (by kernel_rfl) rfl rfl rfl
 refine Stab.op_guard (o := _) rfl rfl rfl rfl s20 ?_
 have s25 := Stage.u 8 2 hd hk rfl [] (by kernel_rfl) rfl rfl rfl
 have s27 := Stage.u 10 0 hd hk rfl [] (by kernel_rfl) rfl rfl rfl
 clear hd
 go_simp
 exact hK.out _ rfl _ rfl)
 apply Stage.todo_look (k := 12) (n := 133) 0 [] [] _ hf.size hok.out rfl (by kernel_rfl)
 · (
 intro fr1 w1 hh hw hd hk K hK
 replace hw : w1 = w2.drew := hw
 subst hw
 have s20 := Stage.u 3 8 hd hk rfl [] (by kernel_rfl) rfl rfl rfl
 refine Stab.op_guard (o := _) rfl rfl rfl rfl s20 ?_
 have s28 := Stage.u 11 0 hd hk rfl [] (by kernel_rfl) rfl rfl rfl
 clear hd
 go_simp
 exact hK.out _ rfl _ _ rfl rfl)
 apply Stage.todo_look (k := 13) (n := 133) 0 [] [] _ hf.size hok.out rfl (by kernel_rfl)
 · (
 intro fr1 w1 hh hw hd hk K hK
 replace hw : w1 = w2.drew := hw
 subst hw
 have s20 := Stage.u 3 9 hd hk rfl [] (by kernel_rfl) rfl rfl rfl
 refine Stab.op_guard (o := _) rfl rfl rfl rfl s20 ?_
 have s24 := Stage.u 7 5 hd hk rfl [] (by kernel_rfl) rfl rfl rfl
 have s29 := Stage.u 12 0 hd hk rfl [] (by kernel_rfl) rfl rfl rfl
 clear hd
 go_simp
 go_at_call 85; refine (less_any _ _ _).mono ?_; rintro e w2 ⟨rfl, rfl⟩
 exact hK.out _ rfl _ _ rfl rfl)
 apply Stage.t 14 _ hf.size hok.out rfl (by kernel_rfl)
 · (
 intro fr1 w1 hh hd hk K hK
 have s20 := Stage.u 3 10 hd hk rfl [] (by kernel_rfl) rfl rfl rfl
 refine Stab.op_guard (o := _) rfl rfl rfl rfl s20 ?_
 have s30 := Stage.u 13 0 hd hk rfl [] (by kernel_rfl) rfl rfl rfl
 clear hd
 go_simp
 exact hK.out _ rfl _ rfl)
 apply Stage.t 15 _ hf.size hok.out rfl (by kernel_rfl)
 · (
 intro fr1 w1 hh hd hk K hK
 refine Stab.op_plain (o := _) rfl rfl ?_
 have s20 := Stage.u 3 11 hd hk rfl [] (by kernel_rfl) rfl rfl rfl
 have s31 := Stage.u 14 0 hd hk rfl [] (by kernel_rfl) rfl rfl rfl
 clear hd
 go_simp
 exact hK.out _ rfl _ rfl)
 refine Stage.todo_facts (n := 133) (by kernel_rfl) hf.size hok.out rfl (by decide) (by decide) rfl (fun fr1 w1 hh hg hw => ?_)
 replace hw : w1 = w2.drew := hw
 subst hw
 replace s0 := Stage.o hh (by kernel_rfl) s0
 replace s1 := Stage.o hh (by kernel_rfl) s1
 replace s2 := Stage.o hh (by kernel_rfl) s2
 replace s7 := Stage.o hh (by kernel_rfl) s7
 replace s8 := Stage.o hh (by kernel_rfl) s8
 have s17 := Stage.e 0 15 hg rfl rfl rfl rfl
 have s18 := Stage.e 1 14 hg rfl rfl rfl rfl
 have s19 := Stage.e 2 13 hg rfl rfl rfl rfl
 have s20 := Stage.e 3 12 hg rfl rfl rfl rfl
 have s21 := Stage.e 4 11 hg rfl rfl rfl rfl
 have s22 := Stage.e 5 10 hg rfl rfl rfl rfl
 have s23 := Stage.e 6 9 hg rfl rfl rfl rfl
 have s24 := Stage.e 7 8 hg rfl rfl rfl rfl
 have s25 := Stage.e 8 7 hg rfl rfl rfl rfl
 have s26 := Stage.e 9 6 hg rfl rfl rfl rfl
 have s27 := Stage.e 10 5 hg rfl rfl rfl rfl
 have s28 := Stage.e 11 4 hg rfl rfl rfl rfl
 have s29 := Stage.e 12 3 hg rfl rfl rfl rfl
 have s30 := Stage.e 13 2 hg rfl rfl rfl rfl
 have s31 := Stage.e 14 1 hg rfl rfl rfl rfl
 have s32 := Stage.e 15 0 hg rfl rfl rfl rfl
 have hf1 : Fact.Fr 133 fr1 := ⟨hh.size.trans hf.size, hh.defers.trans hf.defers⟩
 clear hg hh hf
 have hf := hf1; clear hf1
 clear hok
 have ha3 := ha.drew; have ho3 := ho.drew
 clear ha ho cx cy
 generalize w2.drew = wd at *
 refine Fact.nx (hK11 _ _ ?_)
 refine Fact.cond_t s32 ?_
 have hge := Lib.hid (show ys.getD q 0 ≤ ys.getD (q + 1) 0 by rw [Hxd.out, Hyd.out]; omega)
 refine wp_skip ?_
 refine Fact.nx (hK10 _ _ ?_)
 refine wp_block ?_
 refine Fact.region ?_
 have b33 := hf.l 33 rfl
 have b34 := hf.l 34 rfl
 refine Fact.p rfl fun K hK => ?_
 go_simp
 refine hK.out _ _ ?_; clear hK K
 refine Fact.p rfl fun K hK => ?_
 go_simp
 try simp (disch := omega) only [Fact.wrap_i64, Fact.wrap_u8, Fact.wrap_u32, Fact.wrap_u64]
 refine hK.out _ _ ?_; clear hK K
 refine Fact.p rfl fun K hK => ?_
 go_simp
 refine hK.out _ _ ?_; clear hK K
 refine Fact.nil ?_
 refine Fact.q hf (by simp only [Fact.G]) rfl fun fr1 hf1 hT => ?_
 have hKp : _ ∧ _ ∧ _ ∧ _ ∧ _ ∧ _ ∧ _ ∧ _ ∧ _ ∧ _ ∧ _ ∧ _ ∧ _ ∧ _ ∧ _ ∧ _ ∧ _ ∧ _ ∧ _ ∧ _ ∧ _ ∧ _ ∧ _ := ⟨hT 0, hT 1, hT 2, hT 7, hT 8, hT 17, hT 18, hT 19, hT 20, hT 21, hT 22, hT 23, hT 24, hT 25, hT 26, hT 27, hT 28, hT 29, hT 30, hT 31, hT 32, hT 33, hT 34⟩
 simp only [Fact.G, Nat.reduceEqDiff, Nat.reduceLT, hf.size, reduceIte, s0, s1, s2, s8, s17, s18, s19, s20, s21, s22, s23, s24, s25, s26, s27, s28, s29, s30, s31, s32] at hKp
 clear hT hf s0 s1 s2 s7 s8 s17 s18 s19 s20 s21 s22 s23 s24 s25 s26 s27 s28 s29 s30 s31 s32 b33 b34
 obtain ⟨s0, s1, s2, s7, s8, s17, s18, s19, s20, s21, s22, s23, s24, s25, s26, s27, s28, s29, s30, s31, s32, s33, s34⟩ := hKp
 have hf := hf1; clear hf1
 refine Fact.block_normal ?_
 refine Fact.then_normal ?_
 exact ⟨b - (q + 1 + 1), by have := HK2.out; omega, q + 1 + 1, rfl, by omega, by omega, hf, s0, s1, s2, by rw [s7]; go_num, s8, hso.snoc (by omega) hge.out, ha3, ho3⟩))
 · (
 have hltI : ¬ (i : Int) < (b : Int) := by omega
 refine wp_seq_k (fun K12 hK12 => ?_)
 refine wp_seq_k (fun K13 hK13 => ?_)
 refine Stage.begin_ (n := 133) [] (fun k w1 => w1 = [w2.drew].getD k (w2.drew)) (Stab.OkOps.of (by kernel_rfl)) (fun hok => ?_)
 refine Stage.mvO (k := 0) s7 hf.size hok.out rfl rfl rfl (.inl rfl) (by kernel_rfl) (by kernel_rfl) ?_
 refine Stage.mvO (k := 1) s2 hf.size hok.out rfl rfl rfl (.inl rfl) (by kernel_rfl) (by kernel_rfl) ?_
 apply Stage.t 2 _ hf.size hok.out rfl (by kernel_rfl)
 · (
 intro fr1 w1 hh hd hk K hK
 refine Stab.op_plain (o := _) rfl rfl ?_
 have s17 := Stage.u 0 1 hd hk rfl [] (by kernel_rfl) rfl rfl rfl
 have s18 := Stage.u 1 0 hd hk rfl [] (by kernel_rfl) rfl rfl rfl
 clear hd
 go_simp
 exact hK.out _ rfl _ rfl)
 refine Stage.mvN (k := 3) (j := 2) (m := 0) hf.size hok.out rfl rfl rfl (.inl rfl) rfl [] (by kernel_rfl) rfl rfl rfl (by kernel_rfl) ?_
 apply Stage.t 4 _ hf.size hok.out rfl (by kernel_rfl)
 · (
 intro fr1 w1 hh hd hk K hK
 have s20 := Stage.u 3 0 hd hk rfl [] (by kernel_rfl) rfl rfl rfl
 refine Stab.op_skip (o := _) rfl rfl rfl rfl s20 ?_
 exact hK.out _ rfl _ rfl)
 apply Stage.t 5 _ hf.size hok.out rfl (by kernel_rfl)
 · (
 intro fr1 w1 hh hd hk K hK
 have s20 := Stage.u 3 1 hd hk rfl [] (by kernel_rfl) rfl rfl rfl
 refine Stab.op_skip (o := _) rfl rfl rfl rfl s20 ?_
 exact hK.out _ rfl _ rfl)
 apply Stage.t 6 _ hf.size hok.out rfl (by kernel_rfl)
 · (
 intro fr1 w1 hh hd hk K hK
 have s20 := Stage.u 3 2 hd hk rfl [] (by kernel_rfl) rfl rfl rfl
 refine Stab.op_skip (o := _) rfl rfl rfl rfl s20 ?_
 exact hK.out _ rfl _ rfl)
 apply Stage.t 7 _ hf.size hok.out rfl (by kernel_rfl)
 · (
 intro fr1 w1 hh hd hk K hK
 have s20 := Stage.u 3 3 hd hk rfl [] (by kernel_rfl) rfl rfl rfl
 refine Stab.op_skip (o := _) rfl rfl rfl rfl s20 ?_
 exact hK.out _ rfl _ rfl)
 apply Stage.t 8 _ hf.size hok.out rfl (by kernel_rfl)
 · (
 intro fr1 w1 hh hd hk K hK
 have s20 := Stage.u 3 4 hd hk rfl [] (by kernel_rfl) rfl rfl rfl
 refine Stab.op_skip (o := _) rfl rfl rfl rfl s20 ?_
 exact hK.out _ rfl _ rfl)
 apply Stage.t 9 _ hf.size hok.out rfl (by kernel_rfl)
 · (
 intro fr1 w1 hh hd hk K hK
 have s20 := Stage.u 3 5 hd hk rfl [] (by kernel_rfl) rfl rfl rfl
 refine Stab.op_skip (o := _) rfl rfl rfl rfl s20 ?_
 exact hK.out _ rfl _ rfl)
 apply Stage.t 10 _ hf.size hok.out rfl (by kernel_rfl)
 · (
 intro fr1 w1 hh hd hk K hK
 have s20 := Stage.u 3 6 hd hk rfl [] (by kernel_rfl) rfl rfl rfl
 refine Stab.op_skip (o := _) rfl rfl rfl rfl s20 ?_
 exact hK.out _ rfl _ rfl)
 apply Stage.t 11 _ hf.size hok.out rfl (by kernel_rfl)
 · (
 intro fr1 w1 hh hd hk K hK
 have s20 := Stage.u 3 7 hd hk rfl [] (by kernel_rfl) rfl rfl rfl
 refine Stab.op_skip (o := _) rfl rfl rfl rfl s20 ?_
 exact hK.out _ rfl _ rfl)
 apply Stage.t 12 _ hf.size hok.out rfl (by kernel_rfl)
 · (
 intro fr1 w1 hh hd hk K hK
 have s20 := Stage.u 3 8 hd hk rfl [] (by kernel_rfl) rfl rfl rfl
 refine Stab.op_skip (o := _) rfl rfl rfl rfl s20 ?_
 exact hK.out _ rfl _ rfl)
 apply Stage.t 13 _ hf.size hok.out rfl (by kernel_rfl)
 · (
 intro fr1 w1 hh hd hk K hK
 have s20 := Stage.u 3 9 hd hk rfl [] (by kernel_rfl) rfl rfl rfl
 refine Stab.op_skip (o := _) rfl rfl rfl rfl s20 ?_
 exact hK.out _ rfl _ rfl)
 apply Stage.t 14 _ hf.size hok.out rfl (by kernel_rfl)
 · (
 intro fr1 w1 hh hd hk K hK
 have s20 := Stage.u 3 10 hd hk rfl [] (by kernel_rfl) rfl rfl rfl
 refine Stab.op_skip (o := _) rfl rfl rfl rfl s20 ?_
 exact hK.out _ rfl _ rfl)
 apply Stage.t 15 _ hf.size hok.out rfl (by kernel_rfl)
 · (
 intro fr1 w1 hh hd hk K hK
 refine Stab.op_plain (o := _) rfl rfl ?_
 have s20 := Stage.u 3 11 hd hk rfl [] (by kernel_rfl) rfl rfl rfl
 have s31 := Stage.u 14 0 hd hk rfl [] (by kernel_rfl) rfl rfl rfl
 clear hd
 go_simp
 exact hK.out _ rfl _ rfl)
 refine Stage.todo_facts (n := 133) (by kernel_rfl) hf.size hok.out rfl (by decide) (by decide) rfl (fun fr1 w1 hh hg hw => ?_)
 replace hw : w1 = w2.drew := hw
 subst hw
 replace s0 := Stage.o hh (by kernel_rfl) s0
 replace s1 := Stage.o hh (by kernel_rfl) s1
 replace s2 := Stage.o hh (by kernel_rfl) s2
 replace s7 := Stage.o hh (by kernel_rfl) s7
 replace s8 := Stage.o hh (by kernel_rfl) s8
 have s17 := Stage.e 0 15 hg rfl rfl rfl rfl
 have s18 := Stage.e 1 14 hg rfl rfl rfl rfl
 have s19 := Stage.e 2 13 hg rfl rfl rfl rfl
 have s20 := Stage.e 3 12 hg rfl rfl rfl rfl
 have s21 := Stage.e 4 11 hg rfl rfl rfl rfl
 have s22 := Stage.e 5 10 hg rfl rfl rfl rfl
 have s23 := Stage.e 6 9 hg rfl rfl rfl rfl
 have s24 := Stage.e 7 8 hg rfl rfl rfl rfl
 have s25 := Stage.e 8 7 hg rfl rfl rfl rfl
 have s26 := Stage.e 9 6 hg rfl rfl rfl rfl
 have s27 := Stage.e 10 5 hg rfl rfl rfl rfl
 have s28 := Stage.e 11 4 hg rfl rfl rfl rfl
 have s29 := Stage.e 12 3 hg rfl rfl rfl rfl
 have s30 := Stage.e 13 2 hg rfl rfl rfl rfl
 have s31 := Stage.e 14 1 hg rfl rfl rfl rfl
 have s32 := Stage.e 15 0 hg rfl rfl rfl rfl
 have hf1 : Fact.Fr 133 fr1 := ⟨hh.size.trans hf.size, hh.defers.trans hf.defers⟩
 clear hg hh hf
 have hf := hf1; clear hf1
 clear hok
 have ha3 := ha.drew; have ho3 := ho.drew
 clear ha ho
 generalize w2.drew = wd at *
 refine Fact.nx (hK13 _ _ ?_)
 refine Fact.cond_f s32 ?_
 refine wp_exit ?_
 refine Fact.then_exit ?_
 refine Fact.then_exit ?_
 refine Fact.block_exit ?_
 refine Fact.then_normal ?_
 exact ⟨i, hai, hib, .inl (by omega), hf, s0, s1, s2, s7, s8, hso, ha3, ho3⟩)))
 · (
 clear hf s0 s1 s2 s7 s8 s13 s14
 clear hso ha ho
 rintro fr w3 ⟨i, hai, hib, hlast, hf, s0, s1, s2, s7, s8, hso, ha, ho⟩
 by_cases hib2 : i = b
 · (
 subst hib2
 refine wp_seq_k (fun K14 hK14 => ?_)
 refine wp_seq_k (fun K15 hK15 => ?_)
 refine Fact.region ?_
 have b35 := hf.l 35 rfl
 have b36 := hf.l 36 rfl
 refine Fact.p rfl fun K hK => ?_
 go_simp
 refine hK.out _ _ ?_; clear hK K
 refine Fact.p rfl fun K hK => ?_
 go_simp
 refine hK.out _ _ ?_; clear hK K
 refine Fact.p rfl fun K hK => ?_
 go_simp
 refine hK.out _ _ ?_; clear hK K
 refine Fact.nil ?_
 refine Fact.q hf (by simp only [Fact.G]) rfl fun fr1 hf1 hT => ?_
 have hKp : _ ∧ _ ∧ _ ∧ _ ∧ _ ∧ _ ∧ _ ∧ _ := ⟨hT 0, hT 1, hT 2, hT 7, hT 8, hT 35, hT 36, hT 37⟩
 simp only [Fact.G, Nat.reduceEqDiff, Nat.reduceLT, hf.size, reduceIte, s0, s1, s2, s7, s8] at hKp
 clear hT hf s0 s1 s2 s7 s8 b35 b36
 obtain ⟨s0, s1, s2, s7, s8, s35, s36, s37⟩ := hKp
 have hf := hf1; clear hf1
 refine Fact.nx (hK15 _ _ ?_)
 refine Fact.cond_t s37 ?_
 refine wp_seq_k (fun K16 hK16 => ?_)
 refine Fact.region ?_
 refine Fact.p rfl fun K hK => ?_
 go_simp
 refine hK.out _ _ ?_; clear hK K
 refine Fact.nil ?_
 refine Fact.q hf (by simp only [Fact.G]) rfl fun fr1 hf1 hT => ?_
 have hKp : _ ∧ _ ∧ _ ∧ _ ∧ _ ∧ _ ∧ _ ∧ _ ∧ _ := ⟨hT 0, hT 1, hT 2, hT 6, hT 7, hT 8, hT 35, hT 36, hT 37⟩
 simp only [Fact.G, Nat.reduceEqDiff, Nat.reduceLT, hf.size, reduceIte, s0, s1, s2, s7, s8, s35, s36, s37] at hKp
 clear hT hf s0 s1 s2 s7 s8 s35 s36 s37
 obtain ⟨s0, s1, s2, s6, s7, s8, s35, s36, s37⟩ := hKp
 have hf := hf1; clear hf1
 refine Fact.nx (hK16 _ _ ?_)
 refine wp_ret ?_
 refine Fact.then_ret ?_
 refine Fact.block_ret ?_
 refine Fact.then_ret ?_
 refine Fact.then_ret ?_
 refine Fact.block_ret ?_
 refine Fact.then_ret ?_
 exact Fact.ret1 rfl hf s6 ⟨true, ys, rfl, hsg, fun _ => hso, ha, ho⟩)
 · (
 have hcl := hlast.resolve_left hib2
 have hneq : ((i : Int) == (b : Int)) = false := by simpa using (by omega : (i : Int) ≠ (b : Int))
 have hil : i < b := by omega
 obtain ⟨l, hl⟩ : ∃ m : Nat, m = b - a := ⟨_, rfl⟩
 have e5 : IntKind.i64.wrap ((b : Int) - (a : Int)) = (l : Int) := by rw [Fact.wrap_i64 (by omega) (by omega)]; omega
 have HL0 := Lib.hid hl; clear hl
 clear hlast
 refine wp_seq_k (fun K17 hK17 => ?_)
 refine wp_seq_k (fun K18 hK18 => ?_)
 refine Fact.region ?_
 have b35 := hf.l 35 rfl
 have b36 := hf.l 36 rfl
 refine Fact.p rfl fun K hK => ?_
 go_simp
 refine hK.out _ _ ?_; clear hK K
 refine Fact.p rfl fun K hK => ?_
 go_simp
 refine hK.out _ _ ?_; clear hK K
 refine Fact.p rfl fun K hK => ?_
 go_simp
 refine hK.out _ _ ?_; clear hK K
 refine Fact.nil ?_
 refine Fact.q hf (by simp only [Fact.G]) rfl fun fr1 hf1 hT => ?_
 have hKp : _ ∧ _ ∧ _ ∧ _ ∧ _ ∧ _ ∧ _ ∧ _ := ⟨hT 0, hT 1, hT 2, hT 7, hT 8, hT 35, hT 36, hT 37⟩
 simp only [Fact.G, Nat.reduceEqDiff, Nat.reduceLT, hf.size, reduceIte, s0, s1, s2, s7, s8] at hKp
 clear hT hf s0 s1 s2 s7 s8 b35 b36
 obtain ⟨s0, s1, s2, s7, s8, s35, s36, s37⟩ := hKp
 have hf := hf1; clear hf1
 refine Fact.nx (hK18 _ _ ?_)
 refine Fact.cond_f s37 ?_
 by_cases h50 : l < 50
 · (
 have h50I : (l : Int) < 50 := by omega
 refine wp_skip ?_
 refine Fact.nx (hK17 _ _ ?_)
 refine wp_seq_k (fun K19 hK19 => ?_)
 refine wp_seq_k (fun K20 hK20 => ?_)
 refine Fact.region ?_
 have b38 := hf.l 38 rfl
 have b39 := hf.l 39 rfl
 have b40 := hf.l 40 rfl
 refine Fact.p rfl fun K hK => ?_
 go_simp
 refine hK.out _ _ ?_; clear hK K
 refine Fact.p rfl fun K hK => ?_
 go_simp
 refine hK.out _ _ ?_; clear hK K
 refine Fact.p rfl fun K hK => ?_
 go_simp
 try simp (disch := omega) only [Fact.wrap_i64, Fact.wrap_u8, Fact.wrap_u32, Fact.wrap_u64]
 refine hK.out _ _ ?_; clear hK K
 refine Fact.p rfl fun K hK => ?_
 go_simp
 refine hK.out _ _ ?_; clear hK K
 refine Fact.nil ?_
 refine Fact.q hf (by simp only [Fact.G]) rfl fun fr1 hf1 hT => ?_
 have hKp : _ ∧ _ ∧ _ ∧ _ ∧ _ ∧ _ ∧ _ ∧ _ ∧ _ ∧ _ ∧ _ ∧ _ := ⟨hT 0, hT 1, hT 2, hT 7, hT 8, hT 35, hT 36, hT 37, hT 38, hT 39, hT 40, hT 41⟩
 simp only [Fact.G, Nat.reduceEqDiff, Nat.reduceLT, hf.size, reduceIte, s0, s1, s2, s7, s8, s35, s36, s37] at hKp
 clear hT hf s0 s1 s2 s7 s8 s35 s36 s37 b38 b39 b40
 obtain ⟨s0, s1, s2, s7, s8, s35, s36, s37, s38, s39, s40, s41⟩ := hKp
 have hf := hf1; clear hf1
 refine Fact.nx (hK20 _ _ ?_)
 refine Fact.cond_t s41 ?_
 refine wp_seq_k (fun K21 hK21 => ?_)
 refine Fact.region ?_
 refine Fact.p rfl fun K hK => ?_
 go_simp
 refine hK.out _ _ ?_; clear hK K
 refine Fact.nil ?_
 refine Fact.q hf (by simp only [Fact.G]) rfl fun fr1 hf1 hT => ?_
 have hKp : _ ∧ _ ∧ _ ∧ _ ∧ _ ∧ _ ∧ _ ∧ _ ∧ _ ∧ _ ∧ _ ∧ _ ∧ _ := ⟨hT 0, hT 1, hT 2, hT 6, hT 7, hT 8, hT 35, hT 36, hT 37, hT 38, hT 39, hT 40, hT 41⟩
 simp only [Fact.G, Nat.reduceEqDiff, Nat.reduceLT, hf.size, reduceIte, s0, s1, s2, s7, s8, s35, s36, s37, s38, s39, s40, s41] at hKp
 clear hT hf s0 s1 s2 s7 s8 s35 s36 s37 s38 s39 s40 s41
 obtain ⟨s0, s1, s2, s6, s7, s8, s35, s36, s37, s38, s39, s40, s41⟩ := hKp
 have hf := hf1; clear hf1
 refine Fact.nx (hK21 _ _ ?_)
 refine wp_ret ?_
 refine Fact.then_ret ?_
 refine Fact.block_ret ?_
 refine Fact.then_ret ?_
 refine Fact.then_ret ?_
 refine Fact.block_ret ?_
 refine Fact.then_ret ?_
 exact Fact.ret1 rfl hf s6 ⟨false, ys, rfl, hsg, (fun e => by cases e), ha, ho⟩)
 · (
 have h50I : ¬ (l : Int) < 50 := by omega
 refine wp_skip ?_
 refine Fact.nx (hK17 _ _ ?_)
 refine wp_seq_k (fun K22 hK22 => ?_)
 refine wp_seq_k (fun K23 hK23 => ?_)
 refine Fact.region ?_
 have b38 := hf.l 38 rfl
 have b39 := hf.l 39 rfl
 have b40 := hf.l 40 rfl
 refine Fact.p rfl fun K hK => ?_
 go_simp
 refine hK.out _ _ ?_; clear hK K
 refine Fact.p rfl fun K hK => ?_
 go_simp
 refine hK.out _ _ ?_; clear hK K
 refine Fact.p rfl fun K hK => ?_
 go_simp
 try simp (disch := omega) only [Fact.wrap_i64, Fact.wrap_u8, Fact.wrap_u32, Fact.wrap_u64]
 refine hK.out _ _ ?_; clear hK K
 refine Fact.p rfl fun K hK => ?_
 go_simp
 refine hK.out _ _ ?_; clear hK K
 refine Fact.nil ?_
 refine Fact.q hf (by simp only [Fact.G]) rfl fun fr1 hf1 hT => ?_
 have hKp : _ ∧ _ ∧ _ ∧ _ ∧ _ ∧ _ ∧ _ ∧ _ ∧ _ ∧ _ ∧ _ ∧ _ := ⟨hT 0, hT 1, hT 2, hT 7, hT 8, hT 35, hT 36, hT 37, hT 38, hT 39, hT 40, hT 41⟩
 simp only [Fact.G, Nat.reduceEqDiff, Nat.reduceLT, hf.size, reduceIte, s0, s1, s2, s7, s8, s35, s36, s37] at hKp
 clear hT hf s0 s1 s2 s7 s8 s35 s36 s37 b38 b39 b40
 obtain ⟨s0, s1, s2, s7, s8, s35, s36, s37, s38, s39, s40, s41⟩ := hKp
 have hf := hf1; clear hf1
 refine Fact.nx (hK23 _ _ ?_)
 refine Fact.cond_f s41 ?_
 obtain ⟨q, rfl⟩ : ∃ q, i = q + 1 := ⟨i - 1, by omega⟩
 have n1 : IntKind.i64.wrap ((q : Int) + 1 - 1) = (q : Int) := by rw [Fact.wrap_i64 (by omega) (by omega)]; omega
 have n2 : IntKind.i64.wrap (q : Int) = (q : Int) := Fact.wrap_i64 (by omega) (by omega)
 have n3 : (q : Int) + 1 < (n : Int) := by omega
 have n4 : (0 : Int) ≤ (q : Int) + 1 := by omega
 have n5 : q < n := by omega
 obtain ⟨x, hx⟩ : ∃ v, ys[q + 1]? = some v := ⟨ys[q + 1]'(by have := HYL.out; omega), List.getElem?_eq_getElem _⟩
 have Hxd := Lib.hid (show ys.getD (q + 1) 0 = x by simp [List.getD, hx])
 have Hx := Lib.hid hx
 clear hx
 obtain ⟨y, hy⟩ : ∃ v, ys[q]? = some v := ⟨ys[q]'(by have := HYL.out; omega), List.getElem?_eq_getElem _⟩
 have Hyd := Lib.hid (show ys.getD (q) 0 = y by simp [List.getD, hy])
 have Hy := Lib.hid hy
 clear hy
 have cx := ha.cell Hx.out; have cy := ha.cell Hy.out; have hfr := fun k => ha.frozen k
 have A1 := Lib.hid (ha.drew.set_ (q + 1) y)
 have A0 := Lib.hid (ha.set_ (q + 1) y)
 have C1 := A0.out.cell (i := q) (x := y) (set_get Hy.out)
 have F1 := A0.out.frozen (q)
 have A2 := Lib.hid (A1.out.set_ (q) x)
 have O2 := Lib.hid ((ho.drew.set_ (p := ⟨g, q + 1, none⟩) (.inl rfl) (.int .u8 y)).set_ (p := ⟨g, q, none⟩) (.inl rfl) (.int .u8 x))
 clear ho ha
 refine wp_skip ?_
 refine Fact.nx (hK22 _ _ ?_)
 refine wp_seq_k (fun K24 hK24 => ?_)
 refine Stage.begin_ (n := 133) [15, 17] (fun k w1 => w1 = [w3.drew, (w3.drew.setCell ⟨g, q + 1, none⟩ (.int .u8 y)), ((w3.drew.setCell ⟨g, q + 1, none⟩ (.int .u8 y)).setCell ⟨g, q, none⟩ (.int .u8 x))].getD k (w3.drew)) (Stab.OkOps.of (by kernel_rfl)) (fun hok => ?_)
 refine Stage.mvO (k := 0) s0 hf.size hok.out rfl rfl rfl (.inl rfl) (by kernel_rfl) (by kernel_rfl) ?_
 refine Stage.mvO (k := 1) s7 hf.size hok.out rfl rfl rfl (.inl rfl) (by kernel_rfl) (by kernel_rfl) ?_
 refine Stage.mvO (k := 2) s0 hf.size hok.out rfl rfl rfl (.inl rfl) (by kernel_rfl) (by kernel_rfl) ?_
 refine Stage.mvO (k := 3) s7 hf.size hok.out rfl rfl rfl (.inl rfl) (by kernel_rfl) (by kernel_rfl) ?_
 apply Stage.t 4 _ hf.size hok.out rfl (by kernel_rfl)
 · (
 intro fr1 w1 hh hd hk K hK
 refine Stab.op_plain (o := _) rfl rfl ?_
 have s45 := Stage.u 3 0 hd hk rfl [] (by kernel_rfl) rfl rfl rfl
 clear hd
 go_simp
 exact hK.out _ rfl _ rfl)
 refine Stage.mvO (k := 5) s0 hf.size hok.out rfl rfl rfl (.inl rfl) (by kernel_rfl) (by kernel_rfl) ?_
 refine Stage.mvO (k := 6) s7 hf.size hok.out rfl rfl rfl (.inl rfl) (by kernel_rfl) (by kernel_rfl) ?_
 apply Stage.t 7 _ hf.size hok.out rfl (by kernel_rfl)
 · (
 intro fr1 w1 hh hd hk K hK
 refine Stab.op_plain (o := _) rfl rfl ?_
 have s48 := Stage.u 6 0 hd hk rfl [] (by kernel_rfl) rfl rfl rfl
 clear hd
 go_simp
 exact hK.out _ rfl _ rfl)
 apply Stage.t 8 _ hf.size hok.out rfl (by kernel_rfl)
 · (
 intro fr1 w1 hh hd hk K hK
 refine Stab.op_plain (o := _) rfl rfl ?_
 have s47 := Stage.u 5 2 hd hk rfl [] (by kernel_rfl) rfl rfl rfl
 have s49 := Stage.u 7 0 hd hk rfl [] (by kernel_rfl) rfl rfl rfl
 clear hd
 go_simp
 exact hK.out _ rfl _ rfl)
 apply Stage.todo_look (k := 9) (n := 133) 0 [] [] _ hf.size hok.out rfl (by kernel_rfl)
 · (
 intro fr1 w1 hh hw hd hk K hK
 replace hw : w1 = w3.drew := hw
 subst hw
 refine Stab.op_plain (o := _) rfl rfl ?_
 have s50 := Stage.u 8 0 hd hk rfl [] (by kernel_rfl) rfl rfl rfl
 clear hd
 go_simp
 exact hK.out _ rfl _ _ rfl rfl)
 refine Stage.mvO (k := 10) s0 hf.size hok.out rfl rfl rfl (.inl rfl) (by kernel_rfl) (by kernel_rfl) ?_
 refine Stage.mvO (k := 11) s7 hf.size hok.out rfl rfl rfl (.inl rfl) (by kernel_rfl) (by kernel_rfl) ?_
 apply Stage.t 12 _ hf.size hok.out rfl (by kernel_rfl)
 · (
 intro fr1 w1 hh hd hk K hK
 refine Stab.op_plain (o := _) rfl rfl ?_
 have s52 := Stage.u 10 1 hd hk rfl [] (by kernel_rfl) rfl rfl rfl
 have s53 := Stage.u 11 0 hd hk rfl [] (by kernel_rfl) rfl rfl rfl
 clear hd
 go_simp
 exact hK.out _ rfl _ rfl)
 apply Stage.todo_look (k := 13) (n := 133) 0 [] [] _ hf.size hok.out rfl (by kernel_rfl)
 · (
 intro fr1 w1 hh hw hd hk K hK
 replace hw : w1 = w3.drew := hw
 subst hw
 refine Stab.op_plain (o := _) rfl rfl ?_
 have s54 := Stage.u 12 0 hd hk rfl [] (by kernel_rfl) rfl rfl rfl
 clear hd
 go_simp
 exact hK.out _ rfl _ _ rfl rfl)
 apply Stage.t 14 _ hf.size hok.out rfl (by kernel_rfl)
 · (
 intro fr1 w1 hh hd hk K hK
 refine Stab.op_plain (o := _) rfl rfl ?_
 have s42 := Stage.u 0 13 hd hk rfl [] (by kernel_rfl) rfl rfl rfl
 have s43 := Stage.u 1 12 hd hk rfl [] (by kernel_rfl) rfl rfl rfl
 clear hd
 go_simp
 exact hK.out _ rfl _ rfl)
 refine Stage.todo_lead (k := 15) (n := 133) 0 [] (fun _ => True) hf.size hok.out rfl (by kernel_rfl) ?_ ?_
 · (
 intro fr1 w1 hh hw hd hk K hK
 replace hw : w1 = w3.drew := hw
 subst hw
 refine Stab.op_plain (o := _) rfl rfl ?_
 have s56 := Stage.u 14 0 hd hk rfl [] (by kernel_rfl) rfl rfl rfl
 have s51 := Stage.u 9 5 hd hk rfl [] (by kernel_rfl) rfl rfl rfl
 clear hd
 go_simp
 exact hK.out _ rfl undef _ rfl trivial)
 apply Stage.t 16 _ hf.size hok.out rfl (by kernel_rfl)
 · (
 intro fr1 w1 hh hd hk K hK
 refine Stab.op_plain (o := _) rfl rfl ?_
 have s44 := Stage.u 2 13 hd hk rfl [] (by kernel_rfl) rfl rfl rfl
 have s46 := Stage.u 4 11 hd hk rfl [] (by kernel_rfl) rfl rfl rfl
 clear hd
 go_simp
 exact hK.out _ rfl _ rfl)
 refine Stage.todo_lead (k := 17) (n := 133) 1 [] (fun _ => True) hf.size hok.out rfl (by kernel_rfl) ?_ ?_
 · (
 intro fr1 w1 hh hw hd hk K hK
 replace hw : w1 = (w3.drew.setCell ⟨g, q + 1, none⟩ (.int .u8 y)) := hw
 subst hw
 refine Stab.op_plain (o := _) rfl rfl ?_
 have s57 := Stage.u 16 0 hd hk rfl [] (by kernel_rfl) rfl rfl rfl
 have s55 := Stage.u 13 3 hd hk rfl [] (by kernel_rfl) rfl rfl rfl
 clear hd
 go_simp
 exact hK.out _ rfl undef _ rfl trivial)
 refine Stage.todo_facts (n := 133) (by kernel_rfl) hf.size hok.out rfl (by decide) (by decide) rfl (fun fr1 w1 hh hg hw => ?_)
 replace hw : w1 = ((w3.drew.setCell ⟨g, q + 1, none⟩ (.int .u8 y)).setCell ⟨g, q, none⟩ (.int .u8 x)) := hw
 subst hw
 replace s0 := Stage.o hh (by kernel_rfl) s0
 replace s1 := Stage.o hh (by kernel_rfl) s1
 replace s2 := Stage.o hh (by kernel_rfl) s2
 replace s7 := Stage.o hh (by kernel_rfl) s7
 replace s8 := Stage.o hh (by kernel_rfl) s8
 replace s35 := Stage.o hh (by kernel_rfl) s35
 replace s36 := Stage.o hh (by kernel_rfl) s36
 replace s37 := Stage.o hh (by kernel_rfl) s37
 replace s38 := Stage.o hh (by kernel_rfl) s38
 replace s39 := Stage.o hh (by kernel_rfl) s39
 replace s40 := Stage.o hh (by kernel_rfl) s40
 replace s41 := Stage.o hh (by kernel_rfl) s41
 have s42 := Stage.e 0 17 hg rfl rfl rfl rfl
 have s43 := Stage.e 1 16 hg rfl rfl rfl rfl
 have s44 := Stage.e 2 15 hg rfl rfl rfl rfl
 have s45 := Stage.e 3 14 hg rfl rfl rfl rfl
 have s46 := Stage.e 4 13 hg rfl rfl rfl rfl
 have s47 := Stage.e 5 12 hg rfl rfl rfl rfl
 have s48 := Stage.e 6 11 hg rfl rfl rfl rfl
 have s49 := Stage.e 7 10 hg rfl rfl rfl rfl
 have s50 := Stage.e 8 9 hg rfl rfl rfl rfl
 have s51 := Stage.e 9 8 hg rfl rfl rfl rfl
 have s52 := Stage.e 10 7 hg rfl rfl rfl rfl
 have s53 := Stage.e 11 6 hg rfl rfl rfl rfl
 have s54 := Stage.e 12 5 hg rfl rfl rfl rfl
 have s55 := Stage.e 13 4 hg rfl rfl rfl rfl
 have s56 := Stage.e 14 3 hg rfl rfl rfl rfl
 have s57 := Stage.e 16 1 hg rfl rfl rfl rfl
 have hf1 : Fact.Fr 133 fr1 := ⟨hh.size.trans hf.size, hh.defers.trans hf.defers⟩
 clear hg hh hf
 have hf := hf1; clear hf1
 clear hok
 have ha3 := A2.out; rw [show (ys.set (q + 1) y).set q x = swap ys (q + 1) q by unfold swap; rw [Hxd.out, Hyd.out]] at ha3
 have ho3 := O2.out
 clear A0 A1 A2 O2 C1 F1 cx cy hfr Hx Hxd Hy Hyd
 have hnr : Near a q q (swap ys (q + 1) q) := Near.start (fun p r h1 h2 h3 => by rw [swap_at ys (q + 1) q p (by have := HYL.out; omega) (by have := HYL.out; omega), swap_at ys (q + 1) q r (by have := HYL.out; omega) (by have := HYL.out; omega), if_neg (by omega), if_neg (by omega), if_neg (by omega), if_neg (by omega)]; exact hso p r h1 h2 (by omega))
 have hsg2 := hsg.swap (i := q + 1) (j := q) (by omega) (by omega) (by omega) (by omega)
 have HY2 := Lib.hid (show (swap ys (q + 1) q).length = n by rw [swap_length]; exact HYL.out)
 clear hsg HYL hcl hso
 generalize swap ys (q + 1) q = ys at *
 generalize ((w3.drew.setCell ⟨g, q + 1, none⟩ (.int .u8 y)).setCell ⟨g, q, none⟩ (.int .u8 x)) = wu at *
 refine Fact.nx (hK24 _ _ ?_)
 have hsg := hsg2; have HYL := HY2; have ha := ha3; have ho := ho3; clear hsg2 HY2 ha3 ho3 n1 n2 n3 n4 n5 e5
 have hlow : ∀ Y : List Int, Segm a b zs Y → a = 0 ∨ ∀ k, a ≤ k → k < b → Y.getD (a - 1) 0 ≤ Y.getD k 0 := fun Y hY => by
   rcases hpre with h0 | hp
   · exact .inl h0
   · by_cases h0 : a = 0
     · exact .inl h0
     · refine .inr (fun k hk hk2 => ?_)
       rw [hY.out (by rw [HN.out]; exact hb) (k := a - 1) (.inl (by omega))]
       exact hY.all (by rw [HN.out]; exact hb) (p := fun v => zs.getD (a - 1) 0 ≤ v) hp k hk hk2
 have HLOW := Lib.hid hlow; clear hlow
 have e6 : IntKind.i64.wrap ((q : Int) + 1 - (a : Int)) = (q : Int) + 1 - (a : Int) := Fact.wrap_i64 (by omega) (by omega)
 have e6b : IntKind.i64.wrap ((q : Int) + 1 - 1) = (q : Int) := by rw [Fact.wrap_i64 (by omega) (by omega)]; omega
 have e6c : IntKind.i64.wrap (q : Int) = (q : Int) := Fact.wrap_i64 (by omega) (by omega)
 have s7 : fr1.tmps[7]? = some (.int .i64 ((q : Int) + 1)) := by first | exact s7 | (rw [s7]; go_num)
 refine Fact.seq_meet (fun fr w5 => ∃ ys : List Int, Segm a b zs ys ∧ SortedOn a (q + 1) ys ∧ Fact.Fr 133 fr ∧ fr.tmps[0]? = some (.slice (some ⟨g, 0, none⟩) n c) ∧ fr.tmps[1]? = some (.int .i64 a) ∧ fr.tmps[2]? = some (.int .i64 b) ∧ fr.tmps[7]? = some (.int .i64 ((q : Int) + 1)) ∧ fr.tmps[8]? = some (.int .i64 jj) ∧ Arr w5 g ys ∧ Only w w5 g) ?_ ?_
 · (
 refine wp_seq_k (fun K25 hK25 => ?_)
 refine Fact.region ?_
 have b58 := hf.l 58 rfl
 have b59 := hf.l 59 rfl
 have b60 := hf.l 60 rfl
 refine Fact.p rfl fun K hK => ?_
 go_simp
 refine hK.out _ _ ?_; clear hK K
 refine Fact.p rfl fun K hK => ?_
 go_simp
 refine hK.out _ _ ?_; clear hK K
 refine Fact.p rfl fun K hK => ?_
 go_simp
 try simp (disch := omega) only [Fact.wrap_i64, Fact.wrap_u8, Fact.wrap_u32, Fact.wrap_u64]
 refine hK.out _ _ ?_; clear hK K
 refine Fact.p rfl fun K hK => ?_
 go_simp
 refine hK.out _ _ ?_; clear hK K
 refine Fact.nil ?_
 refine Fact.q hf (by simp only [Fact.G]) rfl fun fr1 hf1 hT => ?_
 have hKp : _ ∧ _ ∧ _ ∧ _ ∧ _ ∧ _ ∧ _ ∧ _ ∧ _ ∧ _ ∧ _ ∧ _ ∧ _ ∧ _ ∧ _ ∧ _ ∧ _ ∧ _ ∧ _ ∧ _ ∧ _ ∧ _ ∧ _ ∧ _ ∧ _ ∧ _ ∧ _ ∧ _ ∧ _ ∧ _ ∧ _ ∧ _ := ⟨hT 0, hT 1, hT 2, hT 7, hT 8, hT 35, hT 36, hT 37, hT 38, hT 39, hT 40, hT 41, hT 42, hT 43, hT 44, hT 45, hT 46, hT 47, hT 48, hT 49, hT 50, hT 51, hT 52, hT 53, hT 54, hT 55, hT 56, hT 57, hT 58, hT 59, hT 60, hT 61⟩
 simp only [Fact.G, Nat.reduceEqDiff, Nat.reduceLT, hf.size, reduceIte, s0, s1, s2, s7, s8, s35, s36, s37, s38, s39, s40, s41, s42, s43, s44, s45, s46, s47, s48, s49, s50, s51, s52, s53, s54, s55, s56, s57] at hKp
 clear hT hf s0 s1 s2 s7 s8 s35 s36 s37 s38 s39 s40 s41 s42 s43 s44 s45 s46 s47 s48 s49 s50 s51 s52 s53 s54 s55 s56 s57 b58 b59 b60
 obtain ⟨s0, s1, s2, s7, s8, s35, s36, s37, s38, s39, s40, s41, s42, s43, s44, s45, s46, s47, s48, s49, s50, s51, s52, s53, s54, s55, s56, s57, s58, s59, s60, s61⟩ := hKp
 have hf := hf1; clear hf1
 refine Fact.nx (hK25 _ _ ?_)
 by_cases h2 : 2 ≤ q + 1 - a
 · (
 have h2I : (2 : Int) ≤ (q : Int) + 1 - (a : Int) := by omega
 try simp only [h2I, decide_true, decide_false, Bool.not_true, Bool.not_false] at s61
 refine Fact.cond_t s61 ?_
 refine wp_seq_k (fun K26 hK26 => ?_)
 refine Fact.region ?_
 have b62 := hf.l 62 rfl
 have b63 := hf.l 63 rfl
 refine Fact.p rfl fun K hK => ?_
 go_simp
 refine hK.out _ _ ?_; clear hK K
 refine Fact.p rfl fun K hK => ?_
 go_simp
 try simp (disch := omega) only [Fact.wrap_i64, Fact.wrap_u8, Fact.wrap_u32, Fact.wrap_u64]
 refine hK.out _ _ ?_; clear hK K
 refine Fact.p rfl fun K hK => ?_
 go_simp
 refine hK.out _ _ ?_; clear hK K
 refine Fact.nil ?_
 refine Fact.q hf (by simp only [Fact.G]) rfl fun fr1 hf1 hT => ?_
 have hKp : _ ∧ _ ∧ _ ∧ _ ∧ _ ∧ _ ∧ _ ∧ _ ∧ _ ∧ _ ∧ _ ∧ _ ∧ _ ∧ _ ∧ _ ∧ _ ∧ _ ∧ _ ∧ _ ∧ _ ∧ _ ∧ _ ∧ _ ∧ _ ∧ _ ∧ _ ∧ _ ∧ _ ∧ _ ∧ _ ∧ _ ∧ _ ∧ _ ∧ _ ∧ _ := ⟨hT 0, hT 1, hT 2, hT 7, hT 8, hT 9, hT 35, hT 36, hT 37, hT 38, hT 39, hT 40, hT 41, hT 42, hT 43, hT 44, hT 45, hT 46, hT 47, hT 48, hT 49, hT 50, hT 51, hT 52, hT 53, hT 54, hT 55, hT 56, hT 57, hT 58, hT 59, hT 60, hT 61, hT 62, hT 63⟩
 simp only [Fact.G, Nat.reduceEqDiff, Nat.reduceLT, hf.size, reduceIte, s0, s1, s2, s7, s8, s35, s36, s37, s38, s39, s40, s41, s42, s43, s44, s45, s46, s47, s48, s49, s50, s51, s52, s53, s54, s55, s56, s57, s58, s59, s60, s61] at hKp
 clear hT hf s0 s1 s2 s7 s8 s35 s36 s37 s38 s39 s40 s41 s42 s43 s44 s45 s46 s47 s48 s49 s50 s51 s52 s53 s54 s55 s56 s57 s58 s59 s60 s61 b62 b63
 obtain ⟨s0, s1, s2, s7, s8, s9, s35, s36, s37, s38, s39, s40, s41, s42, s43, s44, s45, s46, s47, s48, s49, s50, s51, s52, s53, s54, s55, s56, s57, s58, s59, s60, s61, s62, s63⟩ := hKp
 have hf := hf1; clear hf1
 refine Fact.nx (hK26 _ _ ?_)
 refine wp_block ?_
 refine wp_loop_ghost (fun gk4 fr w6 => ∃ (j : Nat) (ys : List Int), gk4 = j ∧ a ≤ j ∧ j ≤ q ∧ Segm a b zs ys ∧ Near a q j ys ∧ Fact.Fr 133 fr ∧ fr.tmps[0]? = some (.slice (some ⟨g, 0, none⟩) n c) ∧ fr.tmps[1]? = some (.int .i64 a) ∧ fr.tmps[2]? = some (.int .i64 b) ∧ fr.tmps[7]? = some (.int .i64 ((q : Int) + 1)) ∧ fr.tmps[8]? = some (.int .i64 jj) ∧ fr.tmps[9]? = some (.int .i64 j) ∧ Arr w6 g ys ∧ Only w w6 g) (q) ?_ ?_
 · (
 exact ⟨q, ys, rfl, by omega, Nat.le_refl _, hsg, hnr, hf, s0, s1, s2, s7, s8, s9, ha, ho⟩)
 · (
 clear hf s0 s1 s2 s7 s8 s9 s35 s36 s37 s38 s39 s40 s41 s42 s43 s44 s45 s46 s47 s48 s49 s50 s51 s52 s53 s54 s55 s56 s57 s58 s59 s60 s61 s62 s63
 clear hsg hnr ha ho HYL
 rintro gk4 fr w6 ⟨j, ys, rfl, haj, hjq, hsg, hnr, hf, s0, s1, s2, s7, s8, s9, ha, ho⟩
 have HYL := Lib.hid (show ys.length = n by rw [hsg.len]; exact HN.out)
 rcases Nat.eq_zero_or_pos gk4 with h0 | h0
 · (
 subst h0
 have hdn : SortedOn a (q + 1) ys := hnr.done haj (.inl (by omega))
 refine wp_seq_k (fun K27 hK27 => ?_)
 refine wp_seq_k (fun K28 hK28 => ?_)
 refine Fact.region ?_
 have b64 := hf.l 64 rfl
 refine Fact.p rfl fun K hK => ?_
 go_simp
 refine hK.out _ _ ?_; clear hK K
 refine Fact.p rfl fun K hK => ?_
 go_simp
 refine hK.out _ _ ?_; clear hK K
 refine Fact.nil ?_
 refine Fact.q hf (by simp only [Fact.G]) rfl fun fr1 hf1 hT => ?_
 have hKp : _ ∧ _ ∧ _ ∧ _ ∧ _ ∧ _ ∧ _ ∧ _ := ⟨hT 0, hT 1, hT 2, hT 7, hT 8, hT 9, hT 64, hT 65⟩
 simp only [Fact.G, Nat.reduceEqDiff, Nat.reduceLT, hf.size, reduceIte, s0, s1, s2, s7, s8, s9] at hKp
 clear hT hf s0 s1 s2 s7 s8 s9 b64
 obtain ⟨s0, s1, s2, s7, s8, s9, s64, s65⟩ := hKp
 have hf := hf1; clear hf1
 refine Fact.nx (hK28 _ _ ?_)
 refine Fact.cond_f s65 ?_
 refine wp_exit ?_
 refine Fact.then_exit ?_
 refine Fact.then_exit ?_
 refine Fact.block_exit ?_
 refine Fact.then_normal ?_
 exact ⟨ys, hsg, hdn, hf, s0, s1, s2, s7, s8, ha, ho⟩)
 · (
 obtain ⟨r, rfl⟩ : ∃ r, gk4 = r + 1 := ⟨gk4 - 1, by omega⟩
 have h1I : (1 : Int) ≤ (r : Int) + 1 := by omega
 clear e6b e6c
 have n1 : IntKind.i64.wrap ((r : Int) + 1 - 1) = (r : Int) := by rw [Fact.wrap_i64 (by omega) (by omega)]; omega
 have n2 : IntKind.i64.wrap (r : Int) = (r : Int) := Fact.wrap_i64 (by omega) (by omega)
 have n3 : (r : Int) + 1 < (n : Int) := by omega
 have n4 : (0 : Int) ≤ (r : Int) + 1 := by omega
 have n5 : r < n := by omega
 obtain ⟨x, hx⟩ : ∃ v, ys[r + 1]? = some v := ⟨ys[r + 1]'(by have := HYL.out; omega), List.getElem?_eq_getElem _⟩
 have Hxd := Lib.hid (show ys.getD (r + 1) 0 = x by simp [List.getD, hx])
 have Hx := Lib.hid hx
 clear hx
 obtain ⟨y, hy⟩ : ∃ v, ys[r]? = some v := ⟨ys[r]'(by have := HYL.out; omega), List.getElem?_eq_getElem _⟩
 have Hyd := Lib.hid (show ys.getD (r) 0 = y by simp [List.getD, hy])
 have Hy := Lib.hid hy
 clear hy
 refine wp_seq_k (fun K29 hK29 => ?_)
 refine wp_seq_k (fun K30 hK30 => ?_)
 refine Fact.region ?_
 have b64 := hf.l 64 rfl
 refine Fact.p rfl fun K hK => ?_
 go_simp
 refine hK.out _ _ ?_; clear hK K
 refine Fact.p rfl fun K hK => ?_
 go_simp
 refine hK.out _ _ ?_; clear hK K
 refine Fact.nil ?_
 refine Fact.q hf (by simp only [Fact.G]) rfl fun fr1 hf1 hT => ?_
 have hKp : _ ∧ _ ∧ _ ∧ _ ∧ _ ∧ _ ∧ _ ∧ _ := ⟨hT 0, hT 1, hT 2, hT 7, hT 8, hT 9, hT 64, hT 65⟩
 simp only [Fact.G, Nat.reduceEqDiff, Nat.reduceLT, hf.size, reduceIte, s0, s1, s2, s7, s8, s9] at hKp
 clear hT hf s0 s1 s2 s7 s8 s9 b64
 obtain ⟨s0, s1, s2, s7, s8, s9, s64, s65⟩ := hKp
 have hf := hf1; clear hf1
 refine Fact.nx (hK30 _ _ ?_)
 refine Fact.cond_t s65 ?_
 have cx := ha.cell Hx.out; have cy := ha.cell Hy.out
 by_cases hxy : x < y
 · (
 refine wp_skip ?_
 refine Fact.nx (hK29 _ _ ?_)
 refine wp_seq_k (fun K31 hK31 => ?_)
 refine wp_block ?_
 refine wp_seq_k (fun K32 hK32 => ?_)
 refine wp_seq_k (fun K33 hK33 => ?_)
 refine Stage.begin_ (n := 133) [] (fun k w1 => w1 = [w6.drew].getD k (w6.drew)) (Stab.OkOps.of (by kernel_rfl)) (fun hok => ?_)
 refine Stage.mvO (k := 0) s0 hf.size hok.out rfl rfl rfl (.inl rfl) (by kernel_rfl) (by kernel_rfl) ?_
 refine Stage.mvO (k := 1) s9 hf.size hok.out rfl rfl rfl (.inl rfl) (by kernel_rfl) (by kernel_rfl) ?_
 apply Stage.t 2 _ hf.size hok.out rfl (by kernel_rfl)
 · (
 intro fr1 w1 hh hd hk K hK
 refine Stab.op_plain (o := _) rfl rfl ?_
 have s68 := Stage.u 0 1 hd hk rfl [] (by kernel_rfl) rfl rfl rfl
 have s69 := Stage.u 1 0 hd hk rfl [] (by kernel_rfl) rfl rfl rfl
 clear hd
 go_simp
 exact hK.out _ rfl _ rfl)
 apply Stage.todo_look (k := 3) (n := 133) 0 [] [] _ hf.size hok.out rfl (by kernel_rfl)
 · (
 intro fr1 w1 hh hw hd hk K hK
 replace hw : w1 = w6.drew := hw
 subst hw
 refine Stab.op_plain (o := _) rfl rfl ?_
 have s70 := Stage.u 2 0 hd hk rfl [] (by kernel_rfl) rfl rfl rfl
 clear hd
 go_simp
 exact hK.out _ rfl _ _ rfl rfl)
 refine Stage.mvO (k := 4) s0 hf.size hok.out rfl rfl rfl (.inl rfl) (by kernel_rfl) (by kernel_rfl) ?_
 refine Stage.mvO (k := 5) s9 hf.size hok.out rfl rfl rfl (.inl rfl) (by kernel_rfl) (by kernel_rfl) ?_
 apply Stage.t 6 _ hf.size hok.out rfl (by kernel_rfl)
 · (
 intro fr1 w1 hh hd hk K hK
 refine Stab.op_plain (o := _) rfl rfl ?_
 have s73 := Stage.u 5 0 hd hk rfl [] (by kernel_rfl) rfl rfl rfl
 clear hd
 go_simp
 exact hK.out _ rfl _ rfl)
 apply Stage.t 7 _ hf.size hok.out rfl (by kernel_rfl)
 · (
 intro fr1 w1 hh hd hk K hK
 refine Stab.op_plain (o := _) rfl rfl ?_
 have s72 := Stage.u 4 2 hd hk rfl [] (by kernel_rfl) rfl rfl rfl
 have s74 := Stage.u 6 0 hd hk rfl [] (by kernel_rfl) rfl rfl rfl
 clear hd
 go_simp
 exact hK.out _ rfl _ rfl)
 apply Stage.todo_look (k := 8) (n := 133) 0 [] [] _ hf.size hok.out rfl (by kernel_rfl)
 · (
 intro fr1 w1 hh hw hd hk K hK
 replace hw : w1 = w6.drew := hw
 subst hw
 refine Stab.op_plain (o := _) rfl rfl ?_
 have s75 := Stage.u 7 0 hd hk rfl [] (by kernel_rfl) rfl rfl rfl
 clear hd
 go_simp
 exact hK.out _ rfl _ _ rfl rfl)
 apply Stage.todo_look (k := 9) (n := 133) 0 [] [] _ hf.size hok.out rfl (by kernel_rfl)
 · (
 intro fr1 w1 hh hw hd hk K hK
 replace hw : w1 = w6.drew := hw
 subst hw
 refine Stab.op_plain (o := _) rfl rfl ?_
 have s71 := Stage.u 3 5 hd hk rfl [] (by kernel_rfl) rfl rfl rfl
 have s76 := Stage.u 8 0 hd hk rfl [] (by kernel_rfl) rfl rfl rfl
 clear hd
 go_simp
 go_at_call 85; refine (less_any _ _ _).mono ?_; rintro e w2 ⟨rfl, rfl⟩
 exact hK.out _ rfl _ _ rfl rfl)
 apply Stage.t 10 _ hf.size hok.out rfl (by kernel_rfl)
 · (
 intro fr1 w1 hh hd hk K hK
 refine Stab.op_plain (o := _) rfl rfl ?_
 have s77 := Stage.u 9 0 hd hk rfl [] (by kernel_rfl) rfl rfl rfl
 clear hd
 go_simp
 exact hK.out _ rfl _ rfl)
 refine Stage.todo_facts (n := 133) (by kernel_rfl) hf.size hok.out rfl (by decide) (by decide) rfl (fun fr1 w1 hh hg hw => ?_)
 replace hw : w1 = w6.drew := hw
 subst hw
 replace s0 := Stage.o hh (by kernel_rfl) s0
 replace s1 := Stage.o hh (by kernel_rfl) s1
 replace s2 := Stage.o hh (by kernel_rfl) s2
 replace s7 := Stage.o hh (by kernel_rfl) s7
 replace s8 := Stage.o hh (by kernel_rfl) s8
 replace s9 := Stage.o hh (by kernel_rfl) s9
 replace s64 := Stage.o hh (by kernel_rfl) s64
 replace s65 := Stage.o hh (by kernel_rfl) s65
 have s68 := Stage.e 0 10 hg rfl rfl rfl rfl
 have s69 := Stage.e 1 9 hg rfl rfl rfl rfl
 have s70 := Stage.e 2 8 hg rfl rfl rfl rfl
 have s71 := Stage.e 3 7 hg rfl rfl rfl rfl
 have s72 := Stage.e 4 6 hg rfl rfl rfl rfl
 have s73 := Stage.e 5 5 hg rfl rfl rfl rfl
 have s74 := Stage.e 6 4 hg rfl rfl rfl rfl
 have s75 := Stage.e 7 3 hg rfl rfl rfl rfl
 have s76 := Stage.e 8 2 hg rfl rfl rfl rfl
 have s77 := Stage.e 9 1 hg rfl rfl rfl rfl
 have s78 := Stage.e 10 0 hg rfl rfl rfl rfl
 have hf1 : Fact.Fr 133 fr1 := ⟨hh.size.trans hf.size, hh.defers.trans hf.defers⟩
 clear hg hh hf
 have hf := hf1; clear hf1
 clear hok
 have ha3 := ha.drew; have ho3 := ho.drew
 clear ha ho cx cy
 generalize w6.drew = wd at *
 refine Fact.nx (hK33 _ _ ?_)
 try simp only [hxy, decide_true, decide_false, Bool.not_true, Bool.not_false] at s78
 refine Fact.cond_f s78 ?_
 have har : a ≤ r := by
   rcases HLOW.out ys hsg with h0 | hp
   · omega
   · by_cases hja : r + 1 = a
     · exfalso
       have h9 := hp (r + 1) (by omega) (by omega)
       rw [show a - 1 = r by omega, Hxd.out, Hyd.out] at h9
       omega
     · omega
 have HXY := Lib.hid hxy
 have cx := ha3.cell Hx.out; have cy := ha3.cell Hy.out; have hfr := fun k => ha3.frozen k
 have A1 := Lib.hid (ha3.drew.set_ (r + 1) y)
 have A0 := Lib.hid (ha3.set_ (r + 1) y)
 have C1 := A0.out.cell (i := r) (x := y) (set_get Hy.out)
 have F1 := A0.out.frozen (r)
 have A2 := Lib.hid (A1.out.set_ (r) x)
 have O2 := Lib.hid ((ho3.drew.set_ (p := ⟨g, r + 1, none⟩) (.inl rfl) (.int .u8 y)).set_ (p := ⟨g, r, none⟩) (.inl rfl) (.int .u8 x))
 clear ho3 ha3
 refine wp_skip ?_
 refine Fact.nx (hK32 _ _ ?_)
 refine Stage.begin_ (n := 133) [15, 17] (fun k w1 => w1 = [wd.drew, (wd.drew.setCell ⟨g, r + 1, none⟩ (.int .u8 y)), ((wd.drew.setCell ⟨g, r + 1, none⟩ (.int .u8 y)).setCell ⟨g, r, none⟩ (.int .u8 x))].getD k (wd.drew)) (Stab.OkOps.of (by kernel_rfl)) (fun hok => ?_)
 refine Stage.mvO (k := 0) s0 hf.size hok.out rfl rfl rfl (.inl rfl) (by kernel_rfl) (by kernel_rfl) ?_
 refine Stage.mvO (k := 1) s9 hf.size hok.out rfl rfl rfl (.inl rfl) (by kernel_rfl) (by kernel_rfl) ?_
 refine Stage.mvO (k := 2) s0 hf.size hok.out rfl rfl rfl (.inl rfl) (by kernel_rfl) (by kernel_rfl) ?_
 refine Stage.mvO (k := 3) s9 hf.size hok.out rfl rfl rfl (.inl rfl) (by kernel_rfl) (by kernel_rfl) ?_
 apply Stage.t 4 _ hf.size hok.out rfl (by kernel_rfl)
 · (
 intro fr1 w1 hh hd hk K hK
 refine Stab.op_plain (o := _) rfl rfl ?_
 have s82 := Stage.u 3 0 hd hk rfl [] (by kernel_rfl) rfl rfl rfl
 clear hd
 go_simp
 exact hK.out _ rfl _ rfl)
 refine Stage.mvO (k := 5) s0 hf.size hok.out rfl rfl rfl (.inl rfl) (by kernel_rfl) (by kernel_rfl) ?_
 refine Stage.mvO (k := 6) s9 hf.size hok.out rfl rfl rfl (.inl rfl) (by kernel_rfl) (by kernel_rfl) ?_
 apply Stage.t 7 _ hf.size hok.out rfl (by kernel_rfl)
 · (
 intro fr1 w1 hh hd hk K hK
 refine Stab.op_plain (o := _) rfl rfl ?_
 have s85 := Stage.u 6 0 hd hk rfl [] (by kernel_rfl) rfl rfl rfl
 clear hd
 go_simp
 exact hK.out _ rfl _ rfl)
 apply Stage.t 8 _ hf.size hok.out rfl (by kernel_rfl)
 · (
 intro fr1 w1 hh hd hk K hK
 refine Stab.op_plain (o := _) rfl rfl ?_
 have s84 := Stage.u 5 2 hd hk rfl [] (by kernel_rfl) rfl rfl rfl
 have s86 := Stage.u 7 0 hd hk rfl [] (by kernel_rfl) rfl rfl rfl
 clear hd
 go_simp
 exact hK.out _ rfl _ rfl)
 apply Stage.todo_look (k := 9) (n := 133) 0 [] [] _ hf.size hok.out rfl (by kernel_rfl)
 · (
 intro fr1 w1 hh hw hd hk K hK
 replace hw : w1 = wd.drew := hw
 subst hw
 refine Stab.op_plain (o := _) rfl rfl ?_
 have s87 := Stage.u 8 0 hd hk rfl [] (by kernel_rfl) rfl rfl rfl
 clear hd
 go_simp
 exact hK.out _ rfl _ _ rfl rfl)
 refine Stage.mvO (k := 10) s0 hf.size hok.out rfl rfl rfl (.inl rfl) (by kernel_rfl) (by kernel_rfl) ?_
 refine Stage.mvO (k := 11) s9 hf.size hok.out rfl rfl rfl (.inl rfl) (by kernel_rfl) (by kernel_rfl) ?_
 apply Stage.t 12 _ hf.size hok.out rfl (by kernel_rfl)
 · (
 intro fr1 w1 hh hd hk K hK
 refine Stab.op_plain (o := _) rfl rfl ?_
 have s89 := Stage.u 10 1 hd hk rfl [] (by kernel_rfl) rfl rfl rfl
 have s90 := Stage.u 11 0 hd hk rfl [] (by kernel_rfl) rfl rfl rfl
 clear hd
 go_simp
 exact hK.out _ rfl _ rfl)
 apply Stage.todo_look (k := 13) (n := 133) 0 [] [] _ hf.size hok.out rfl (by kernel_rfl)
 · (
 intro fr1 w1 hh hw hd hk K hK
 replace hw : w1 = wd.drew := hw
 subst hw
 refine Stab.op_plain (o := _) rfl rfl ?_
 have s91 := Stage.u 12 0 hd hk rfl [] (by kernel_rfl) rfl rfl rfl
 clear hd
 go_simp
 exact hK.out _ rfl _ _ rfl rfl)
 apply Stage.t 14 _ hf.size hok.out rfl (by kernel_rfl)
 · (
 intro fr1 w1 hh hd hk K hK
 refine Stab.op_plain (o := _) rfl rfl ?_
 have s79 := Stage.u 0 13 hd hk rfl [] (by kernel_rfl) rfl rfl rfl
 have s80 := Stage.u 1 12 hd hk rfl [] (by kernel_rfl) rfl rfl rfl
 clear hd
 go_simp
 exact hK.out _ rfl _ rfl)
 refine Stage.todo_lead (k := 15) (n := 133) 0 [] (fun _ => True) hf.size hok.out rfl (by kernel_rfl) ?_ ?_
 · (
 intro fr1 w1 hh hw hd hk K hK
 replace hw : w1 = wd.drew := hw
 subst hw
 refine Stab.op_plain (o := _) rfl rfl ?_
 have s93 := Stage.u 14 0 hd hk rfl [] (by kernel_rfl) rfl rfl rfl
 have s88 := Stage.u 9 5 hd hk rfl [] (by kernel_rfl) rfl rfl rfl
 clear hd
 go_simp
 exact hK.out _ rfl undef _ rfl trivial)
 apply Stage.t 16 _ hf.size hok.out rfl (by kernel_rfl)
 · (
 intro fr1 w1 hh hd hk K hK
 refine Stab.op_plain (o := _) rfl rfl ?_
 have s81 := Stage.u 2 13 hd hk rfl [] (by kernel_rfl) rfl rfl rfl
 have s83 := Stage.u 4 11 hd hk rfl [] (by kernel_rfl) rfl rfl rfl
 clear hd
 go_simp
 exact hK.out _ rfl _ rfl)
 refine Stage.todo_lead (k := 17) (n := 133) 1 [] (fun _ => True) hf.size hok.out rfl (by kernel_rfl) ?_ ?_
 · (
 intro fr1 w1 hh hw hd hk K hK
 replace hw : w1 = (wd.drew.setCell ⟨g, r + 1, none⟩ (.int .u8 y)) := hw
 subst hw
 refine Stab.op_plain (o := _) rfl rfl ?_
 have s94 := Stage.u 16 0 hd hk rfl [] (by kernel_rfl) rfl rfl rfl
 have s92 := Stage.u 13 3 hd hk rfl [] (by kernel_rfl) rfl rfl rfl
 clear hd
 go_simp
 exact hK.out _ rfl undef _ rfl trivial)
 refine Stage.todo_facts (n := 133) (by kernel_rfl) hf.size hok.out rfl (by decide) (by decide) rfl (fun fr1 w1 hh hg hw => ?_)
 replace hw : w1 = ((wd.drew.setCell ⟨g, r + 1, none⟩ (.int .u8 y)).setCell ⟨g, r, none⟩ (.int .u8 x)) := hw
 subst hw
 replace s0 := Stage.o hh (by kernel_rfl) s0
 replace s1 := Stage.o hh (by kernel_rfl) s1
 replace s2 := Stage.o hh (by kernel_rfl) s2
 replace s7 := Stage.o hh (by kernel_rfl) s7
 replace s8 := Stage.o hh (by kernel_rfl) s8
 replace s9 := Stage.o hh (by kernel_rfl) s9
 replace s64 := Stage.o hh (by kernel_rfl) s64
 replace s65 := Stage.o hh (by kernel_rfl) s65
 replace s68 := Stage.o hh (by kernel_rfl) s68
 replace s69 := Stage.o hh (by kernel_rfl) s69
 replace s70 := Stage.o hh (by kernel_rfl) s70
 replace s71 := Stage.o hh (by kernel_rfl) s71
 replace s72 := Stage.o hh (by kernel_rfl) s72
 replace s73 := Stage.o hh (by kernel_rfl) s73
 replace s74 := Stage.o hh (by kernel_rfl) s74
 replace s75 := Stage.o hh (by kernel_rfl) s75
 replace s76 := Stage.o hh (by kernel_rfl) s76
 replace s77 := Stage.o hh (by kernel_rfl) s77
 replace s78 := Stage.o hh (by kernel_rfl) s78
 have s79 := Stage.e 0 17 hg rfl rfl rfl rfl
 have s80 := Stage.e 1 16 hg rfl rfl rfl rfl
 have s81 := Stage.e 2 15 hg rfl rfl rfl rfl
 have s82 := Stage.e 3 14 hg rfl rfl rfl rfl
 have s83 := Stage.e 4 13 hg rfl rfl rfl rfl
 have s84 := Stage.e 5 12 hg rfl rfl rfl rfl
 have s85 := Stage.e 6 11 hg rfl rfl rfl rfl
 have s86 := Stage.e 7 10 hg rfl rfl rfl rfl
 have s87 := Stage.e 8 9 hg rfl rfl rfl rfl
 have s88 := Stage.e 9 8 hg rfl rfl rfl rfl
 have s89 := Stage.e 10 7 hg rfl rfl rfl rfl
 have s90 := Stage.e 11 6 hg rfl rfl rfl rfl
 have s91 := Stage.e 12 5 hg rfl rfl rfl rfl
 have s92 := Stage.e 13 4 hg rfl rfl rfl rfl
 have s93 := Stage.e 14 3 hg rfl rfl rfl rfl
 have s94 := Stage.e 16 1 hg rfl rfl rfl rfl
 have hf1 : Fact.Fr 133 fr1 := ⟨hh.size.trans hf.size, hh.defers.trans hf.defers⟩
 clear hg hh hf
 have hf := hf1; clear hf1
 clear hok
 have ha3 := A2.out; rw [show (ys.set (r + 1) y).set r x = swap ys (r + 1) r by unfold swap; rw [Hxd.out, Hyd.out]] at ha3
 have ho3 := O2.out
 have hlt5 := Lib.hid (show ys.getD (r + 1) 0 < ys.getD r 0 by rw [Hxd.out, Hyd.out]; exact HXY.out)
 clear A0 A1 A2 O2 C1 F1 cx cy hfr Hx Hxd Hy Hyd
 refine Fact.block_normal ?_
 refine Fact.nx (hK31 _ _ ?_)
 refine Fact.region ?_
 have b66 := hf.l 66 rfl
 have b67 := hf.l 67 rfl
 refine Fact.p rfl fun K hK => ?_
 go_simp
 refine hK.out _ _ ?_; clear hK K
 refine Fact.p rfl fun K hK => ?_
 go_simp
 try simp (disch := omega) only [Fact.wrap_i64, Fact.wrap_u8, Fact.wrap_u32, Fact.wrap_u64]
 refine hK.out _ _ ?_; clear hK K
 refine Fact.p rfl fun K hK => ?_
 go_simp
 refine hK.out _ _ ?_; clear hK K
 refine Fact.nil ?_
 refine Fact.q hf (by simp only [Fact.G]) rfl fun fr1 hf1 hT => ?_
 have hKp : _ ∧ _ ∧ _ ∧ _ ∧ _ ∧ _ ∧ _ ∧ _ ∧ _ ∧ _ ∧ _ ∧ _ ∧ _ ∧ _ ∧ _ ∧ _ ∧ _ ∧ _ ∧ _ ∧ _ ∧ _ ∧ _ ∧ _ ∧ _ ∧ _ ∧ _ ∧ _ ∧ _ ∧ _ ∧ _ ∧ _ ∧ _ ∧ _ ∧ _ ∧ _ ∧ _ ∧ _ := ⟨hT 0, hT 1, hT 2, hT 7, hT 8, hT 9, hT 64, hT 65, hT 66, hT 67, hT 68, hT 69, hT 70, hT 71, hT 72, hT 73, hT 74, hT 75, hT 76, hT 77, hT 78, hT 79, hT 80, hT 81, hT 82, hT 83, hT 84, hT 85, hT 86, hT 87, hT 88, hT 89, hT 90, hT 91, hT 92, hT 93, hT 94⟩
 simp only [Fact.G, Nat.reduceEqDiff, Nat.reduceLT, hf.size, reduceIte, s0, s1, s2, s7, s8, s64, s65, s68, s69, s70, s71, s72, s73, s74, s75, s76, s77, s78, s79, s80, s81, s82, s83, s84, s85, s86, s87, s88, s89, s90, s91, s92, s93, s94] at hKp
 clear hT hf s0 s1 s2 s7 s8 s9 s64 s65 s68 s69 s70 s71 s72 s73 s74 s75 s76 s77 s78 s79 s80 s81 s82 s83 s84 s85 s86 s87 s88 s89 s90 s91 s92 s93 s94 b66 b67
 obtain ⟨s0, s1, s2, s7, s8, s9, s64, s65, s66, s67, s68, s69, s70, s71, s72, s73, s74, s75, s76, s77, s78, s79, s80, s81, s82, s83, s84, s85, s86, s87, s88, s89, s90, s91, s92, s93, s94⟩ := hKp
 have hf := hf1; clear hf1
 refine Fact.then_normal ?_
 exact ⟨r, by omega, r, swap ys (r + 1) r, rfl, har, by omega, hsg.swap (by omega) (by omega) (by omega) (by omega), hnr.step (by have := HYL.out; omega) hjq har hlt5.out, hf, s0, s1, s2, s7, s8, s9, ha3, ho3⟩)
 · (
 refine wp_skip ?_
 refine Fact.nx (hK29 _ _ ?_)
 refine wp_seq_k (fun K34 hK34 => ?_)
 refine wp_block ?_
 refine wp_seq_k (fun K35 hK35 => ?_)
 refine wp_seq_k (fun K36 hK36 => ?_)
 refine Stage.begin_ (n := 133) [] (fun k w1 => w1 = [w6.drew].getD k (w6.drew)) (Stab.OkOps.of (by kernel_rfl)) (fun hok => ?_)
 refine Stage.mvO (k := 0) s0 hf.size hok.out rfl rfl rfl (.inl rfl) (by kernel_rfl) (by kernel_rfl) ?_
 refine Stage.mvO (k := 1) s9 hf.size hok.out rfl rfl rfl (.inl rfl) (by kernel_rfl) (by kernel_rfl) ?_
 apply Stage.t 2 _ hf.size hok.out rfl (by kernel_rfl)
 · (
 intro fr1 w1 hh hd hk K hK
 refine Stab.op_plain (o := _) rfl rfl ?_
 have s68 := Stage.u 0 1 hd hk rfl [] (by kernel_rfl) rfl rfl rfl
 have s69 := Stage.u 1 0 hd hk rfl [] (by kernel_rfl) rfl rfl rfl
 clear hd
 go_simp
 exact hK.out _ rfl _ rfl)
 apply Stage.todo_look (k := 3) (n := 133) 0 [] [] _ hf.size hok.out rfl (by kernel_rfl)
 · (
 intro fr1 w1 hh hw hd hk K hK
 replace hw : w1 = w6.drew := hw
 subst hw
 refine Stab.op_plain (o := _) rfl rfl ?_
 have s70 := Stage.u 2 0 hd hk rfl [] (by kernel_rfl) rfl rfl rfl
 clear hd
 go_simp
 exact hK.out _ rfl _ _ rfl rfl)
 refine Stage.mvO (k := 4) s0 hf.size hok.out rfl rfl rfl (.inl rfl) (by kernel_rfl) (by kernel_rfl) ?_
 refine Stage.mvO (k := 5) s9 hf.size hok.out rfl rfl rfl (.inl rfl) (by kernel_rfl) (by kernel_rfl) ?_
 apply Stage.t 6 _ hf.size hok.out rfl (by kernel_rfl)
 · (
 intro fr1 w1 hh hd hk K hK
 refine Stab.op_plain (o := _) rfl rfl ?_
 have s73 := Stage.u 5 0 hd hk rfl [] (by kernel_rfl) rfl rfl rfl
 clear hd
 go_simp
 exact hK.out _ rfl _ rfl)
 apply Stage.t 7 _ hf.size hok.out rfl (by kernel_rfl)
 · (
 intro fr1 w1 hh hd hk K hK
 refine Stab.op_plain (o := _) rfl rfl ?_
 have s72 := Stage.u 4 2 hd hk rfl [] (by kernel_rfl) rfl rfl rfl
 have s74 := Stage.u 6 0 hd hk rfl [] (by kernel_rfl) rfl rfl rfl
 clear hd
 go_simp
 exact hK.out _ rfl _ rfl)
 apply Stage.todo_look (k := 8) (n := 133) 0 [] [] _ hf.size hok.out rfl (by kernel_rfl)
 · (
 intro fr1 w1 hh hw hd hk K hK
 replace hw : w1 = w6.drew := hw
 subst hw
 refine Stab.op_plain (o := _) rfl rfl ?_
 have s75 := Stage.u 7 0 hd hk rfl [] (by kernel_rfl) rfl rfl rfl
 clear hd
 go_simp
 exact hK.out _ rfl _ _ rfl rfl)
 apply Stage.todo_look (k := 9) (n := 133) 0 [] [] _ hf.size hok.out rfl (by kernel_rfl)
 · (
 intro fr1 w1 hh hw hd hk K hK
 replace hw : w1 = w6.drew := hw
 subst hw
 refine Stab.op_plain (o := _) rfl rfl ?_
 have s71 := Stage.u 3 5 hd hk rfl [] (by kernel_rfl) rfl rfl rfl
 have s76 := Stage.u 8 0 hd hk rfl [] (by kernel_rfl) rfl rfl rfl
 clear hd
 go_simp
 go_at_call 85; refine (less_any _ _ _).mono ?_; rintro e w2 ⟨rfl, rfl⟩
 exact hK.out _ rfl _ _ rfl rfl)
 apply Stage.t 10 _ hf.size hok.out rfl (by kernel_rfl)
 · (
 intro fr1 w1 hh hd hk K hK
 refine Stab.op_plain (o := _) rfl rfl ?_
 have s77 := Stage.u 9 0 hd hk rfl [] (by kernel_rfl) rfl rfl rfl
 clear hd
 go_simp
 exact hK.out _ rfl _ rfl)
 refine Stage.todo_facts (n := 133) (by kernel_rfl) hf.size hok.out rfl (by decide) (by decide) rfl (fun fr1 w1 hh hg hw => ?_)
 replace hw : w1 = w6.drew := hw
 subst hw
 replace s0 := Stage.o hh (by kernel_rfl) s0
 replace s1 := Stage.o hh (by kernel_rfl) s1
 replace s2 := Stage.o hh (by kernel_rfl) s2
 replace s7 := Stage.o hh (by kernel_rfl) s7
 replace s8 := Stage.o hh (by kernel_rfl) s8
 replace s9 := Stage.o hh (by kernel_rfl) s9
 replace s64 := Stage.o hh (by kernel_rfl) s64
 replace s65 := Stage.o hh (by kernel_rfl) s65
 have s68 := Stage.e 0 10 hg rfl rfl rfl rfl
 have s69 := Stage.e 1 9 hg rfl rfl rfl rfl
 have s70 := Stage.e 2 8 hg rfl rfl rfl rfl
 have s71 := Stage.e 3 7 hg rfl rfl rfl rfl
 have s72 := Stage.e 4 6 hg rfl rfl rfl rfl
 have s73 := Stage.e 5 5 hg rfl rfl rfl rfl
 have s74 := Stage.e 6 4 hg rfl rfl rfl rfl
 have s75 := Stage.e 7 3 hg rfl rfl rfl rfl
 have s76 := Stage.e 8 2 hg rfl rfl rfl rfl
 have s77 := Stage.e 9 1 hg rfl rfl rfl rfl
 have s78 := Stage.e 10 0 hg rfl rfl rfl rfl
 have hf1 : Fact.Fr 133 fr1 := ⟨hh.size.trans hf.size, hh.defers.trans hf.defers⟩
 clear hg hh hf
 have hf := hf1; clear hf1
 clear hok
 have ha3 := ha.drew; have ho3 := ho.drew
 clear ha ho cx cy
 generalize w6.drew = wd at *
 refine Fact.nx (hK36 _ _ ?_)
 try simp only [hxy, decide_true, decide_false, Bool.not_true, Bool.not_false] at s78
 refine Fact.cond_t s78 ?_
 have hdn : SortedOn a (q + 1) ys := hnr.done haj (.inr (by rw [Nat.add_sub_cancel, Hxd.out, Hyd.out]; exact hxy))
 refine wp_exit ?_
 refine Fact.then_exit ?_
 refine Fact.block_other (by decide) ?_
 refine Fact.then_exit ?_
 refine Fact.then_exit ?_
 refine Fact.block_exit ?_
 refine Fact.then_normal ?_
 exact ⟨ys, hsg, hdn, hf, s0, s1, s2, s7, s8, ha3, ho3⟩))))
 · (
 have h2I : ¬ (2 : Int) ≤ (q : Int) + 1 - (a : Int) := by omega
 try simp only [h2I, decide_true, decide_false, Bool.not_true, Bool.not_false] at s61
 refine Fact.cond_f s61 ?_
 refine wp_skip ?_
 refine Fact.then_normal ?_
 exact ⟨ys, hsg, (fun p r h3 h4 h5 => by omega), hf, s0, s1, s2, s7, s8, ha, ho⟩))
 · (
 clear hf s0 s1 s2 s7 s8 s35 s36 s37 s38 s39 s40 s41 s42 s43 s44 s45 s46 s47 s48 s49 s50 s51 s52 s53 s54 s55 s56 s57
 clear hsg hnr ha ho HYL e6 e6b e6c
 rintro fr w5 ⟨ys, hsg, hso, hf, s0, s1, s2, s7, s8, ha, ho⟩
 have HYL := Lib.hid (show ys.length = n by rw [hsg.len]; exact HN.out)
 have e7 : IntKind.i64.wrap ((b : Int) - ((q : Int) + 1)) = (b : Int) - ((q : Int) + 1) := Fact.wrap_i64 (by omega) (by omega)
 have e8 : IntKind.i64.wrap ((q : Int) + 1 + 1) = ((q + 2 : Nat) : Int) := by rw [Fact.wrap_i64 (by omega) (by omega)]; omega
 refine wp_seq_k (fun K37 hK37 => ?_)
 refine Fact.region ?_
 have b95 := hf.l 95 rfl
 have b96 := hf.l 96 rfl
 have b97 := hf.l 97 rfl
 refine Fact.p rfl fun K hK => ?_
 go_simp
 refine hK.out _ _ ?_; clear hK K
 refine Fact.p rfl fun K hK => ?_
 go_simp
 refine hK.out _ _ ?_; clear hK K
 refine Fact.p rfl fun K hK => ?_
 go_simp
 try simp (disch := omega) only [Fact.wrap_i64, Fact.wrap_u8, Fact.wrap_u32, Fact.wrap_u64]
 refine hK.out _ _ ?_; clear hK K
 refine Fact.p rfl fun K hK => ?_
 go_simp
 refine hK.out _ _ ?_; clear hK K
 refine Fact.nil ?_
 refine Fact.q hf (by simp only [Fact.G]) rfl fun fr1 hf1 hT => ?_
 have hKp : _ ∧ _ ∧ _ ∧ _ ∧ _ ∧ _ ∧ _ ∧ _ ∧ _ := ⟨hT 0, hT 1, hT 2, hT 7, hT 8, hT 95, hT 96, hT 97, hT 98⟩
 simp only [Fact.G, Nat.reduceEqDiff, Nat.reduceLT, hf.size, reduceIte, s0, s1, s2, s7, s8] at hKp
 clear hT hf s0 s1 s2 s7 s8 b95 b96 b97
 obtain ⟨s0, s1, s2, s7, s8, s95, s96, s97, s98⟩ := hKp
 have hf := hf1; clear hf1
 refine Fact.nx (hK37 _ _ ?_)
 by_cases h2 : 2 ≤ b - (q + 1)
 · (
 have h2I : (2 : Int) ≤ (b : Int) - ((q : Int) + 1) := by omega
 try simp only [h2I, decide_true, decide_false, Bool.not_true, Bool.not_false] at s98
 refine Fact.cond_t s98 ?_
 refine wp_seq_k (fun K38 hK38 => ?_)
 refine Fact.region ?_
 have b99 := hf.l 99 rfl
 have b100 := hf.l 100 rfl
 refine Fact.p rfl fun K hK => ?_
 go_simp
 refine hK.out _ _ ?_; clear hK K
 refine Fact.p rfl fun K hK => ?_
 go_simp
 try simp (disch := omega) only [Fact.wrap_i64, Fact.wrap_u8, Fact.wrap_u32, Fact.wrap_u64]
 refine hK.out _ _ ?_; clear hK K
 refine Fact.p rfl fun K hK => ?_
 go_simp
 refine hK.out _ _ ?_; clear hK K
 refine Fact.nil ?_
 refine Fact.q hf (by simp only [Fact.G]) rfl fun fr1 hf1 hT => ?_
 have hKp : _ ∧ _ ∧ _ ∧ _ ∧ _ ∧ _ ∧ _ ∧ _ ∧ _ ∧ _ ∧ _ ∧ _ := ⟨hT 0, hT 1, hT 2, hT 7, hT 8, hT 10, hT 95, hT 96, hT 97, hT 98, hT 99, hT 100⟩
 simp only [Fact.G, Nat.reduceEqDiff, Nat.reduceLT, hf.size, reduceIte, s0, s1, s2, s7, s8, s95, s96, s97, s98] at hKp
 clear hT hf s0 s1 s2 s7 s8 s95 s96 s97 s98 b99 b100
 obtain ⟨s0, s1, s2, s7, s8, s10, s95, s96, s97, s98, s99, s100⟩ := hKp
 have hf := hf1; clear hf1
 refine Fact.nx (hK38 _ _ ?_)
 refine wp_block ?_
 refine wp_loop_ghost (fun gk6 fr w8 => ∃ (j : Nat) (ys : List Int), gk6 = b - j ∧ q + 1 < j ∧ j ≤ b ∧ Segm a b zs ys ∧ SortedOn a (q + 1) ys ∧ Fact.Fr 133 fr ∧ fr.tmps[0]? = some (.slice (some ⟨g, 0, none⟩) n c) ∧ fr.tmps[1]? = some (.int .i64 a) ∧ fr.tmps[2]? = some (.int .i64 b) ∧ fr.tmps[7]? = some (.int .i64 ((q : Int) + 1)) ∧ fr.tmps[8]? = some (.int .i64 jj) ∧ fr.tmps[10]? = some (.int .i64 j) ∧ Arr w8 g ys ∧ Only w w8 g) (b - (q + 2)) ?_ ?_
 · (
 exact ⟨q + 2, ys, rfl, by omega, by omega, hsg, hso, hf, s0, s1, s2, s7, s8, by (first | exact s10 | (rw [s10]; go_num)), ha, ho⟩)
 · (
 clear hf s0 s1 s2 s7 s8 s10 s95 s96 s97 s98 s99 s100
 clear hsg hso ha ho HYL e7 e8
 rintro gk6 fr w8 ⟨j, ys, hk6, hqj, hjb, hsg, hso, hf, s0, s1, s2, s7, s8, s10, ha, ho⟩
 have HK6 := Lib.hid hk6; clear hk6
 have HYL := Lib.hid (show ys.length = n by rw [hsg.len]; exact HN.out)
 obtain ⟨r, rfl⟩ : ∃ r, j = r + 1 := ⟨j - 1, by omega⟩
 by_cases hlt : r + 1 < b
 · (
 have hltI : (r : Int) + 1 < (b : Int) := by omega
 have e9 : IntKind.i64.wrap ((r : Int) + 1 + 1) = (r : Int) + 1 + 1 := Fact.wrap_i64 (by omega) (by omega)
 have n1 : IntKind.i64.wrap ((r : Int) + 1 - 1) = (r : Int) := by rw [Fact.wrap_i64 (by omega) (by omega)]; omega
 have n2 : IntKind.i64.wrap (r : Int) = (r : Int) := Fact.wrap_i64 (by omega) (by omega)
 have n3 : (r : Int) + 1 < (n : Int) := by omega
 have n4 : (0 : Int) ≤ (r : Int) + 1 := by omega
 have n5 : r < n := by omega
 obtain ⟨x, hx⟩ : ∃ v, ys[r + 1]? = some v := ⟨ys[r + 1]'(by have := HYL.out; omega), List.getElem?_eq_getElem _⟩
 have Hxd := Lib.hid (show ys.getD (r + 1) 0 = x by simp [List.getD, hx])
 have Hx := Lib.hid hx
 clear hx
 obtain ⟨y, hy⟩ : ∃ v, ys[r]? = some v := ⟨ys[r]'(by have := HYL.out; omega), List.getElem?_eq_getElem _⟩
 have Hyd := Lib.hid (show ys.getD (r) 0 = y by simp [List.getD, hy])
 have Hy := Lib.hid hy
 clear hy
 refine wp_seq_k (fun K39 hK39 => ?_)
 refine wp_seq_k (fun K40 hK40 => ?_)
 refine Fact.region ?_
 have b101 := hf.l 101 rfl
 have b102 := hf.l 102 rfl
 refine Fact.p rfl fun K hK => ?_
 go_simp
 refine hK.out _ _ ?_; clear hK K
 refine Fact.p rfl fun K hK => ?_
 go_simp
 refine hK.out _ _ ?_; clear hK K
 refine Fact.p rfl fun K hK => ?_
 go_simp
 refine hK.out _ _ ?_; clear hK K
 refine Fact.nil ?_
 refine Fact.q hf (by simp only [Fact.G]) rfl fun fr1 hf1 hT => ?_
 have hKp : _ ∧ _ ∧ _ ∧ _ ∧ _ ∧ _ ∧ _ ∧ _ ∧ _ := ⟨hT 0, hT 1, hT 2, hT 7, hT 8, hT 10, hT 101, hT 102, hT 103⟩
 simp only [Fact.G, Nat.reduceEqDiff, Nat.reduceLT, hf.size, reduceIte, s0, s1, s2, s7, s8, s10] at hKp
 clear hT hf s0 s1 s2 s7 s8 s10 b101 b102
 obtain ⟨s0, s1, s2, s7, s8, s10, s101, s102, s103⟩ := hKp
 have hf := hf1; clear hf1
 refine Fact.nx (hK40 _ _ ?_)
 refine Fact.cond_t s103 ?_
 have cx := ha.cell Hx.out; have cy := ha.cell Hy.out
 by_cases hxy : x < y
 · (
 refine wp_skip ?_
 refine Fact.nx (hK39 _ _ ?_)
 refine wp_seq_k (fun K41 hK41 => ?_)
 refine wp_block ?_
 refine wp_seq_k (fun K42 hK42 => ?_)
 refine wp_seq_k (fun K43 hK43 => ?_)
 refine Stage.begin_ (n := 133) [] (fun k w1 => w1 = [w8.drew].getD k (w8.drew)) (Stab.OkOps.of (by kernel_rfl)) (fun hok => ?_)
 refine Stage.mvO (k := 0) s0 hf.size hok.out rfl rfl rfl (.inl rfl) (by kernel_rfl) (by kernel_rfl) ?_
 refine Stage.mvO (k := 1) s10 hf.size hok.out rfl rfl rfl (.inl rfl) (by kernel_rfl) (by kernel_rfl) ?_
 apply Stage.t 2 _ hf.size hok.out rfl (by kernel_rfl)
 · (
 intro fr1 w1 hh hd hk K hK
 refine Stab.op_plain (o := _) rfl rfl ?_
 have s106 := Stage.u 0 1 hd hk rfl [] (by kernel_rfl) rfl rfl rfl
 have s107 := Stage.u 1 0 hd hk rfl [] (by kernel_rfl) rfl rfl rfl
 clear hd
 go_simp
 exact hK.out _ rfl _ rfl)
 apply Stage.todo_look (k := 3) (n := 133) 0 [] [] _ hf.size hok.out rfl (by kernel_rfl)
 · (
 intro fr1 w1 hh hw hd hk K hK
 replace hw : w1 = w8.drew := hw
 subst hw
 refine Stab.op_plain (o := _) rfl rfl ?_
 have s108 := Stage.u 2 0 hd hk rfl [] (by kernel_rfl) rfl rfl rfl
 clear hd
 go_simp
 exact hK.out _ rfl _ _ rfl rfl)
 refine Stage.mvO (k := 4) s0 hf.size hok.out rfl rfl rfl (.inl rfl) (by kernel_rfl) (by kernel_rfl) ?_
 refine Stage.mvO (k := 5) s10 hf.size hok.out rfl rfl rfl (.inl rfl) (by kernel_rfl) (by kernel_rfl) ?_
 apply Stage.t 6 _ hf.size hok.out rfl (by kernel_rfl)
 · (
 intro fr1 w1 hh hd hk K hK
 refine Stab.op_plain (o := _) rfl rfl ?_
 have s111 := Stage.u 5 0 hd hk rfl [] (by kernel_rfl) rfl rfl rfl
 clear hd
 go_simp
 exact hK.out _ rfl _ rfl)
 apply Stage.t 7 _ hf.size hok.out rfl (by kernel_rfl)
 · (
 intro fr1 w1 hh hd hk K hK
 refine Stab.op_plain (o := _) rfl rfl ?_
 have s110 := Stage.u 4 2 hd hk rfl [] (by kernel_rfl) rfl rfl rfl
 have s112 := Stage.u 6 0 hd hk rfl [] (by kernel_rfl) rfl rfl rfl
 clear hd
 go_simp
 exact hK.out _ rfl _ rfl)
 apply Stage.todo_look (k := 8) (n := 133) 0 [] [] _ hf.size hok.out rfl (by kernel_rfl)
 · (
 intro fr1 w1 hh hw hd hk K hK
 replace hw : w1 = w8.drew := hw
 subst hw
 refine Stab.op_plain (o := _) rfl rfl ?_
 have s113 := Stage.u 7 0 hd hk rfl [] (by kernel_rfl) rfl rfl rfl
 clear hd
 go_simp
 exact hK.out _ rfl _ _ rfl rfl)
 apply Stage.todo_look (k := 9) (n := 133) 0 [] [] _ hf.size hok.out rfl (by kernel_rfl)
 · (
 intro fr1 w1 hh hw hd hk K hK
 replace hw : w1 = w8.drew := hw
 subst hw
 refine Stab.op_plain (o := _) rfl rfl ?_
 have s109 := Stage.u 3 5 hd hk rfl [] (by kernel_rfl) rfl rfl rfl
 have s114 := Stage.u 8 0 hd hk rfl [] (by kernel_rfl) rfl rfl rfl
 clear hd
 go_simp
 go_at_call 85; refine (less_any _ _ _).mono ?_; rintro e w2 ⟨rfl, rfl⟩
 exact hK.out _ rfl _ _ rfl rfl)
 apply Stage.t 10 _ hf.size hok.out rfl (by kernel_rfl)
 · (
 intro fr1 w1 hh hd hk K hK
 refine Stab.op_plain (o := _) rfl rfl ?_
 have s115 := Stage.u 9 0 hd hk rfl [] (by kernel_rfl) rfl rfl rfl
 clear hd
 go_simp
 exact hK.out _ rfl _ rfl)
 refine Stage.todo_facts (n := 133) (by kernel_rfl) hf.size hok.out rfl (by decide) (by decide) rfl (fun fr1 w1 hh hg hw => ?_)
 replace hw : w1 = w8.drew := hw
 subst hw
 replace s0 := Stage.o hh (by kernel_rfl) s0
 replace s1 := Stage.o hh (by kernel_rfl) s1
 replace s2 := Stage.o hh (by kernel_rfl) s2
 replace s7 := Stage.o hh (by kernel_rfl) s7
 replace s8 := Stage.o hh (by kernel_rfl) s8
 replace s10 := Stage.o hh (by kernel_rfl) s10
 replace s101 := Stage.o hh (by kernel_rfl) s101
 replace s102 := Stage.o hh (by kernel_rfl) s102
 replace s103 := Stage.o hh (by kernel_rfl) s103
 have s106 := Stage.e 0 10 hg rfl rfl rfl rfl
 have s107 := Stage.e 1 9 hg rfl rfl rfl rfl
 have s108 := Stage.e 2 8 hg rfl rfl rfl rfl
 have s109 := Stage.e 3 7 hg rfl rfl rfl rfl
 have s110 := Stage.e 4 6 hg rfl rfl rfl rfl
 have s111 := Stage.e 5 5 hg rfl rfl rfl rfl
 have s112 := Stage.e 6 4 hg rfl rfl rfl rfl
 have s113 := Stage.e 7 3 hg rfl rfl rfl rfl
 have s114 := Stage.e 8 2 hg rfl rfl rfl rfl
 have s115 := Stage.e 9 1 hg rfl rfl rfl rfl
 have s116 := Stage.e 10 0 hg rfl rfl rfl rfl
 have hf1 : Fact.Fr 133 fr1 := ⟨hh.size.trans hf.size, hh.defers.trans hf.defers⟩
 clear hg hh hf
 have hf := hf1; clear hf1
 clear hok
 have ha3 := ha.drew; have ho3 := ho.drew
 clear ha ho cx cy
 generalize w8.drew = wd at *
 refine Fact.nx (hK43 _ _ ?_)
 try simp only [hxy, decide_true, decide_false, Bool.not_true, Bool.not_false] at s116
 refine Fact.cond_f s116 ?_
 have cx := ha3.cell Hx.out; have cy := ha3.cell Hy.out; have hfr := fun k => ha3.frozen k
 have A1 := Lib.hid (ha3.drew.set_ (r + 1) y)
 have A0 := Lib.hid (ha3.set_ (r + 1) y)
 have C1 := A0.out.cell (i := r) (x := y) (set_get Hy.out)
 have F1 := A0.out.frozen (r)
 have A2 := Lib.hid (A1.out.set_ (r) x)
 have O2 := Lib.hid ((ho3.drew.set_ (p := ⟨g, r + 1, none⟩) (.inl rfl) (.int .u8 y)).set_ (p := ⟨g, r, none⟩) (.inl rfl) (.int .u8 x))
 clear ho3 ha3
 refine wp_skip ?_
 refine Fact.nx (hK42 _ _ ?_)
 refine Stage.begin_ (n := 133) [15, 17] (fun k w1 => w1 = [wd.drew, (wd.drew.setCell ⟨g, r + 1, none⟩ (.int .u8 y)), ((wd.drew.setCell ⟨g, r + 1, none⟩ (.int .u8 y)).setCell ⟨g, r, none⟩ (.int .u8 x))].getD k (wd.drew)) (Stab.OkOps.of (by kernel_rfl)) (fun hok => ?_)
 refine Stage.mvO (k := 0) s0 hf.size hok.out rfl rfl rfl (.inl rfl) (by kernel_rfl) (by kernel_rfl) ?_
 refine Stage.mvO (k := 1) s10 hf.size hok.out rfl rfl rfl (.inl rfl) (by kernel_rfl) (by kernel_rfl) ?_
 refine Stage.mvO (k := 2) s0 hf.size hok.out rfl rfl rfl (.inl rfl) (by kernel_rfl) (by kernel_rfl) ?_
 refine Stage.mvO (k := 3) s10 hf.size hok.out rfl rfl rfl (.inl rfl) (by kernel_rfl) (by kernel_rfl) ?_
 apply Stage.t 4 _ hf.size hok.out rfl (by kernel_rfl)
 · (
 intro fr1 w1 hh hd hk K hK
 refine Stab.op_plain (o := _) rfl rfl ?_
 have s120 := Stage.u 3 0 hd hk rfl [] (by kernel_rfl) rfl rfl rfl
 clear hd
 go_simp
 exact hK.out _ rfl _ rfl)
 refine Stage.mvO (k := 5) s0 hf.size hok.out rfl rfl rfl (.inl rfl) (by kernel_rfl) (by kernel_rfl) ?_
 refine Stage.mvO (k := 6) s10 hf.size hok.out rfl rfl rfl (.inl rfl) (by kernel_rfl) (by kernel_rfl) ?_
 apply Stage.t 7 _ hf.size hok.out rfl (by kernel_rfl)
 · (
 intro fr1 w1 hh hd hk K hK
 refine Stab.op_plain (o := _) rfl rfl ?_
 have s123 := Stage.u 6 0 hd hk rfl [] (by kernel_rfl) rfl rfl rfl
 clear hd
 go_simp
 exact hK.out _ rfl _ rfl)
 apply Stage.t 8 _ hf.size hok.out rfl (by kernel_rfl)
 · (
 intro fr1 w1 hh hd hk K hK
 refine Stab.op_plain (o := _) rfl rfl ?_
 have s122 := Stage.u 5 2 hd hk rfl [] (by kernel_rfl) rfl rfl rfl
 have s124 := Stage.u 7 0 hd hk rfl [] (by kernel_rfl) rfl rfl rfl
 clear hd
 go_simp
 exact hK.out _ rfl _ rfl)
 apply Stage.todo_look (k := 9) (n := 133) 0 [] [] _ hf.size hok.out rfl (by kernel_rfl)
 · (
 intro fr1 w1 hh hw hd hk K hK
 replace hw : w1 = wd.drew := hw
 subst hw
 refine Stab.op_plain (o := _) rfl rfl ?_
 have s125 := Stage.u 8 0 hd hk rfl [] (by kernel_rfl) rfl rfl rfl
 clear hd
 go_simp
 exact hK.out _ rfl _ _ rfl rfl)
 refine Stage.mvO (k := 10) s0 hf.size hok.out rfl rfl rfl (.inl rfl) (by kernel_rfl) (by kernel_rfl) ?_
 refine Stage.mvO (k := 11) s10 hf.size hok.out rfl rfl rfl (.inl rfl) (by kernel_rfl) (by kernel_rfl) ?_
 apply Stage.t 12 _ hf.size hok.out rfl (by kernel_rfl)
 · (
 intro fr1 w1 hh hd hk K hK
 refine Stab.op_plain (o := _) rfl rfl ?_
 have s127 := Stage.u 10 1 hd hk rfl [] (by kernel_rfl) rfl rfl rfl
 have s128 := Stage.u 11 0 hd hk rfl [] (by kernel_rfl) rfl rfl rfl
 clear hd
 go_simp
 exact hK.out _ rfl _ rfl)
 apply Stage.todo_look (k := 13) (n := 133) 0 [] [] _ hf.size hok.out rfl (by kernel_rfl)
 · (
 intro fr1 w1 hh hw hd hk K hK
 replace hw : w1 = wd.drew := hw
 subst hw
 refine Stab.op_plain (o := _) rfl rfl ?_
 have s129 := Stage.u 12 0 hd hk rfl [] (by kernel_rfl) rfl rfl rfl
 clear hd
 go_simp
 exact hK.out _ rfl _ _ rfl rfl)
 apply Stage.t 14 _ hf.size hok.out rfl (by kernel_rfl)
 · (
 intro fr1 w1 hh hd hk K hK
 refine Stab.op_plain (o := _) rfl rfl ?_
 have s117 := Stage.u 0 13 hd hk rfl [] (by kernel_rfl) rfl rfl rfl
 have s118 := Stage.u 1 12 hd hk rfl [] (by kernel_rfl) rfl rfl rfl
 clear hd
 go_simp
 exact hK.out _ rfl _ rfl)
 refine Stage.todo_lead (k := 15) (n := 133) 0 [] (fun _ => True) hf.size hok.out rfl (by kernel_rfl) ?_ ?_
 · (
 intro fr1 w1 hh hw hd hk K hK
 replace hw : w1 = wd.drew := hw
 subst hw
 refine Stab.op_plain (o := _) rfl rfl ?_
 have s131 := Stage.u 14 0 hd hk rfl [] (by kernel_rfl) rfl rfl rfl
 have s126 := Stage.u 9 5 hd hk rfl [] (by kernel_rfl) rfl rfl rfl
 clear hd
 go_simp
 exact hK.out _ rfl undef _ rfl trivial)
 apply Stage.t 16 _ hf.size hok.out rfl (by kernel_rfl)
 · (
 intro fr1 w1 hh hd hk K hK
 refine Stab.op_plain (o := _) rfl rfl ?_
 have s119 := Stage.u 2 13 hd hk rfl [] (by kernel_rfl) rfl rfl rfl
 have s121 := Stage.u 4 11 hd hk rfl [] (by kernel_rfl) rfl rfl rfl
 clear hd
 go_simp
 exact hK.out _ rfl _ rfl)
 refine Stage.todo_lead (k := 17) (n := 133) 1 [] (fun _ => True) hf.size hok.out rfl (by kernel_rfl) ?_ ?_
 · (
 intro fr1 w1 hh hw hd hk K hK
 replace hw : w1 = (wd.drew.setCell ⟨g, r + 1, none⟩ (.int .u8 y)) := hw
 subst hw
 refine Stab.op_plain (o := _) rfl rfl ?_
 have s132 := Stage.u 16 0 hd hk rfl [] (by kernel_rfl) rfl rfl rfl
 have s130 := Stage.u 13 3 hd hk rfl [] (by kernel_rfl) rfl rfl rfl
 clear hd
 go_simp
 exact hK.out _ rfl undef _ rfl trivial)
 refine Stage.todo_facts (n := 133) (by kernel_rfl) hf.size hok.out rfl (by decide) (by decide) rfl (fun fr1 w1 hh hg hw => ?_)
 replace hw : w1 = ((wd.drew.setCell ⟨g, r + 1, none⟩ (.int .u8 y)).setCell ⟨g, r, none⟩ (.int .u8 x)) := hw
 subst hw
 replace s0 := Stage.o hh (by kernel_rfl) s0
 replace s1 := Stage.o hh (by kernel_rfl) s1
 replace s2 := Stage.o hh (by kernel_rfl) s2
 replace s7 := Stage.o hh (by kernel_rfl) s7
 replace s8 := Stage.o hh (by kernel_rfl) s8
 replace s10 := Stage.o hh (by kernel_rfl) s10
 replace s101 := Stage.o hh (by kernel_rfl) s101
 replace s102 := Stage.o hh (by kernel_rfl) s102
 replace s103 := Stage.o hh (by kernel_rfl) s103
 replace s106 := Stage.o hh (by kernel_rfl) s106
 replace s107 := Stage.o hh (by kernel_rfl) s107
 replace s108 := Stage.o hh (by kernel_rfl) s108
 replace s109 := Stage.o hh (by kernel_rfl) s109
 replace s110 := Stage.o hh (by kernel_rfl) s110
 replace s111 := Stage.o hh (by kernel_rfl) s111
 replace s112 := Stage.o hh (by kernel_rfl) s112
 replace s113 := Stage.o hh (by kernel_rfl) s113
 replace s114 := Stage.o hh (by kernel_rfl) s114
 replace s115 := Stage.o hh (by kernel_rfl) s115
 replace s116 := Stage.o hh (by kernel_rfl) s116
 have s117 := Stage.e 0 17 hg rfl rfl rfl rfl
 have s118 := Stage.e 1 16 hg rfl rfl rfl rfl
 have s119 := Stage.e 2 15 hg rfl rfl rfl rfl
 have s120 := Stage.e 3 14 hg rfl rfl rfl rfl
 have s121 := Stage.e 4 13 hg rfl rfl rfl rfl
 have s122 := Stage.e 5 12 hg rfl rfl rfl rfl
 have s123 := Stage.e 6 11 hg rfl rfl rfl rfl
 have s124 := Stage.e 7 10 hg rfl rfl rfl rfl
 have s125 := Stage.e 8 9 hg rfl rfl rfl rfl
 have s126 := Stage.e 9 8 hg rfl rfl rfl rfl
 have s127 := Stage.e 10 7 hg rfl rfl rfl rfl
 have s128 := Stage.e 11 6 hg rfl rfl rfl rfl
 have s129 := Stage.e 12 5 hg rfl rfl rfl rfl
 have s130 := Stage.e 13 4 hg rfl rfl rfl rfl
 have s131 := Stage.e 14 3 hg rfl rfl rfl rfl
 have s132 := Stage.e 16 1 hg rfl rfl rfl rfl
 have hf1 : Fact.Fr 133 fr1 := ⟨hh.size.trans hf.size, hh.defers.trans hf.defers⟩
 clear hg hh hf
 have hf := hf1; clear hf1
 clear hok
 have ha3 := A2.out; rw [show (ys.set (r + 1) y).set r x = swap ys (r + 1) r by unfold swap; rw [Hxd.out, Hyd.out]] at ha3
 have ho3 := O2.out
 clear A0 A1 A2 O2 C1 F1 cx cy hfr Hx Hxd Hy Hyd
 refine Fact.block_normal ?_
 refine Fact.nx (hK41 _ _ ?_)
 refine Fact.region ?_
 have b104 := hf.l 104 rfl
 have b105 := hf.l 105 rfl
 refine Fact.p rfl fun K hK => ?_
 go_simp
 refine hK.out _ _ ?_; clear hK K
 refine Fact.p rfl fun K hK => ?_
 go_simp
 try simp (disch := omega) only [Fact.wrap_i64, Fact.wrap_u8, Fact.wrap_u32, Fact.wrap_u64]
 refine hK.out _ _ ?_; clear hK K
 refine Fact.p rfl fun K hK => ?_
 go_simp
 refine hK.out _ _ ?_; clear hK K
 refine Fact.nil ?_
 refine Fact.q hf (by simp only [Fact.G]) rfl fun fr1 hf1 hT => ?_
 have hKp : _ ∧ _ ∧ _ ∧ _ ∧ _ ∧ _ ∧ _ ∧ _ ∧ _ ∧ _ ∧ _ ∧ _ ∧ _ ∧ _ ∧ _ ∧ _ ∧ _ ∧ _ ∧ _ ∧ _ ∧ _ ∧ _ ∧ _ ∧ _ ∧ _ ∧ _ ∧ _ ∧ _ ∧ _ ∧ _ ∧ _ ∧ _ ∧ _ ∧ _ ∧ _ ∧ _ ∧ _ ∧ _ := ⟨hT 0, hT 1, hT 2, hT 7, hT 8, hT 10, hT 101, hT 102, hT 103, hT 104, hT 105, hT 106, hT 107, hT 108, hT 109, hT 110, hT 111, hT 112, hT 113, hT 114, hT 115, hT 116, hT 117, hT 118, hT 119, hT 120, hT 121, hT 122, hT 123, hT 124, hT 125, hT 126, hT 127, hT 128, hT 129, hT 130, hT 131, hT 132⟩
 simp only [Fact.G, Nat.reduceEqDiff, Nat.reduceLT, hf.size, reduceIte, s0, s1, s2, s7, s8, s101, s102, s103, s106, s107, s108, s109, s110, s111, s112, s113, s114, s115, s116, s117, s118, s119, s120, s121, s122, s123, s124, s125, s126, s127, s128, s129, s130, s131, s132] at hKp
 clear hT hf s0 s1 s2 s7 s8 s10 s101 s102 s103 s106 s107 s108 s109 s110 s111 s112 s113 s114 s115 s116 s117 s118 s119 s120 s121 s122 s123 s124 s125 s126 s127 s128 s129 s130 s131 s132 b104 b105
 obtain ⟨s0, s1, s2, s7, s8, s10, s101, s102, s103, s104, s105, s106, s107, s108, s109, s110, s111, s112, s113, s114, s115, s116, s117, s118, s119, s120, s121, s122, s123, s124, s125, s126, s127, s128, s129, s130, s131, s132⟩ := hKp
 have hf := hf1; clear hf1
 refine Fact.then_normal ?_
 exact ⟨b - (r + 1 + 1), by have := HK6.out; omega, r + 1 + 1, swap ys (r + 1) r, rfl, by omega, by omega, hsg.swap (by omega) (by omega) (by omega) (by omega), hso.swap_out (by omega) (by omega) (by have := HYL.out; omega) (by have := HYL.out; omega), hf, s0, s1, s2, s7, s8, by (first | exact s10 | (rw [s10]; go_num)), ha3, ho3⟩)
 · (
 refine wp_skip ?_
 refine Fact.nx (hK39 _ _ ?_)
 refine wp_seq_k (fun K44 hK44 => ?_)
 refine wp_block ?_
 refine wp_seq_k (fun K45 hK45 => ?_)
 refine wp_seq_k (fun K46 hK46 => ?_)
 refine Stage.begin_ (n := 133) [] (fun k w1 => w1 = [w8.drew].getD k (w8.drew)) (Stab.OkOps.of (by kernel_rfl)) (fun hok => ?_)
 refine Stage.mvO (k := 0) s0 hf.size hok.out rfl rfl rfl (.inl rfl) (by kernel_rfl) (by kernel_rfl) ?_
 refine Stage.mvO (k := 1) s10 hf.size hok.out rfl rfl rfl (.inl rfl) (by kernel_rfl) (by kernel_rfl) ?_
 apply Stage.t 2 _ hf.size hok.out rfl (by kernel_rfl)
 · (
 intro fr1 w1 hh hd hk K hK
 refine Stab.op_plain (o := _) rfl rfl ?_
 have s106 := Stage.u 0 1 hd hk rfl [] (by kernel_rfl) rfl rfl rfl
 have s107 := Stage.u 1 0 hd hk rfl [] (by kernel_rfl) rfl rfl rfl
 clear hd
 go_simp
 exact hK.out _ rfl _ rfl)
 apply Stage.todo_look (k := 3) (n := 133) 0 [] [] _ hf.size hok.out rfl (by kernel_rfl)
 · (
 intro fr1 w1 hh hw hd hk K hK
 replace hw : w1 = w8.drew := hw
 subst hw
 refine Stab.op_plain (o := _) rfl rfl ?_
 have s108 := Stage.u 2 0 hd hk rfl [] (by kernel_rfl) rfl rfl rfl
 clear hd
 go_simp
 exact hK.out _ rfl _ _ rfl rfl)
 refine Stage.mvO (k := 4) s0 hf.size hok.out rfl rfl rfl (.inl rfl) (by kernel_rfl) (by kernel_rfl) ?_
 refine Stage.mvO (k := 5) s10 hf.size hok.out rfl rfl rfl (.inl rfl) (by kernel_rfl) (by kernel_rfl) ?_
 apply Stage.t 6 _ hf.size hok.out rfl (by kernel_rfl)
 · (
 intro fr1 w1 hh hd hk K hK
 refine Stab.op_plain (o := _) rfl rfl ?_
 have s111 := Stage.u 5 0 hd hk rfl [] (by kernel_rfl) rfl rfl rfl
 clear hd
 go_simp
 exact hK.out _ rfl _ rfl)
 apply Stage.t 7 _ hf.size hok.out rfl (by kernel_rfl)
 · (
 intro fr1 w1 hh hd hk K hK
 refine Stab.op_plain (o := _) rfl rfl ?_
 have s110 := Stage.u 4 2 hd hk rfl [] (by kernel_rfl) rfl rfl rfl
 have s112 := Stage.u 6 0 hd hk rfl [] (by kernel_rfl) rfl rfl rfl
 clear hd
 go_simp
 exact hK.out _ rfl _ rfl)
 apply Stage.todo_look (k := 8) (n := 133) 0 [] [] _ hf.size hok.out rfl (by kernel_rfl)
 · (
 intro fr1 w1 hh hw hd hk K hK
 replace hw : w1 = w8.drew := hw
 subst hw
 refine Stab.op_plain (o := _) rfl rfl ?_
 have s113 := Stage.u 7 0 hd hk rfl [] (by kernel_rfl) rfl rfl rfl
 clear hd
 go_simp
 exact hK.out _ rfl _ _ rfl rfl)
 apply Stage.todo_look (k := 9) (n := 133) 0 [] [] _ hf.size hok.out rfl (by kernel_rfl)
 · (
 intro fr1 w1 hh hw hd hk K hK
 replace hw : w1 = w8.drew := hw
 subst hw
 refine Stab.op_plain (o := _) rfl rfl ?_
 have s109 := Stage.u 3 5 hd hk rfl [] (by kernel_rfl) rfl rfl rfl
 have s114 := Stage.u 8 0 hd hk rfl [] (by kernel_rfl) rfl rfl rfl
 clear hd
 go_simp
 go_at_call 85; refine (less_any _ _ _).mono ?_; rintro e w2 ⟨rfl, rfl⟩
 exact hK.out _ rfl _ _ rfl rfl)
 apply Stage.t 10 _ hf.size hok.out rfl (by kernel_rfl)
 · (
 intro fr1 w1 hh hd hk K hK
 refine Stab.op_plain (o := _) rfl rfl ?_
 have s115 := Stage.u 9 0 hd hk rfl [] (by kernel_rfl) rfl rfl rfl
 clear hd
 go_simp
 exact hK.out _ rfl _ rfl)
 refine Stage.todo_facts (n := 133) (by kernel_rfl) hf.size hok.out rfl (by decide) (by decide) rfl (fun fr1 w1 hh hg hw => ?_)
 replace hw : w1 = w8.drew := hw
 subst hw
 replace s0 := Stage.o hh (by kernel_rfl) s0
 replace s1 := Stage.o hh (by kernel_rfl) s1
 replace s2 := Stage.o hh (by kernel_rfl) s2
 replace s7 := Stage.o hh (by kernel_rfl) s7
 replace s8 := Stage.o hh (by kernel_rfl) s8
 replace s10 := Stage.o hh (by kernel_rfl) s10
 replace s101 := Stage.o hh (by kernel_rfl) s101
 replace s102 := Stage.o hh (by kernel_rfl) s102
 replace s103 := Stage.o hh (by kernel_rfl) s103
 have s106 := Stage.e 0 10 hg rfl rfl rfl rfl
 have s107 := Stage.e 1 9 hg rfl rfl rfl rfl
 have s108 := Stage.e 2 8 hg rfl rfl rfl rfl
 have s109 := Stage.e 3 7 hg rfl rfl rfl rfl
 have s110 := Stage.e 4 6 hg rfl rfl rfl rfl
 have s111 := Stage.e 5 5 hg rfl rfl rfl rfl
 have s112 := Stage.e 6 4 hg rfl rfl rfl rfl
 have s113 := Stage.e 7 3 hg rfl rfl rfl rfl
 have s114 := Stage.e 8 2 hg rfl rfl rfl rfl
 have s115 := Stage.e 9 1 hg rfl rfl rfl rfl
 have s116 := Stage.e 10 0 hg rfl rfl rfl rfl
 have hf1 : Fact.Fr 133 fr1 := ⟨hh.size.trans hf.size, hh.defers.trans hf.defers⟩
 clear hg hh hf
 have hf := hf1; clear hf1
 clear hok
 have ha3 := ha.drew; have ho3 := ho.drew
 clear ha ho cx cy
 generalize w8.drew = wd at *
 refine Fact.nx (hK46 _ _ ?_)
 try simp only [hxy, decide_true, decide_false, Bool.not_true, Bool.not_false] at s116
 refine Fact.cond_t s116 ?_
 refine wp_exit ?_
 refine Fact.then_exit ?_
 refine Fact.block_other (by decide) ?_
 refine Fact.then_exit ?_
 refine Fact.then_exit ?_
 refine Fact.block_exit ?_
 refine Fact.block_normal ?_
 refine Fact.nx (hK7 _ _ ?_)
 refine Fact.region ?_
 have b15 := hf.l 15 rfl
 have b16 := hf.l 16 rfl
 refine Fact.p rfl fun K hK => ?_
 go_simp
 refine hK.out _ _ ?_; clear hK K
 refine Fact.p rfl fun K hK => ?_
 go_simp
 try simp (disch := omega) only [Fact.wrap_i64, Fact.wrap_u8, Fact.wrap_u32, Fact.wrap_u64]
 refine hK.out _ _ ?_; clear hK K
 refine Fact.p rfl fun K hK => ?_
 go_simp
 refine hK.out _ _ ?_; clear hK K
 refine Fact.nil ?_
 refine Fact.q hf (by simp only [Fact.G]) rfl fun fr1 hf1 hT => ?_
 have hKp : _ ∧ _ ∧ _ ∧ _ ∧ _ ∧ _ ∧ _ ∧ _ ∧ _ ∧ _ ∧ _ ∧ _ ∧ _ ∧ _ ∧ _ ∧ _ ∧ _ ∧ _ ∧ _ ∧ _ ∧ _ ∧ _ := ⟨hT 0, hT 1, hT 2, hT 7, hT 8, hT 10, hT 15, hT 16, hT 101, hT 102, hT 103, hT 106, hT 107, hT 108, hT 109, hT 110, hT 111, hT 112, hT 113, hT 114, hT 115, hT 116⟩
 simp only [Fact.G, Nat.reduceEqDiff, Nat.reduceLT, hf.size, reduceIte, s0, s1, s2, s7, s10, s101, s102, s103, s106, s107, s108, s109, s110, s111, s112, s113, s114, s115, s116] at hKp
 clear hT hf s0 s1 s2 s7 s8 s10 s101 s102 s103 s106 s107 s108 s109 s110 s111 s112 s113 s114 s115 s116 b15 b16
 obtain ⟨s0, s1, s2, s7, s8, s10, s15, s16, s101, s102, s103, s106, s107, s108, s109, s110, s111, s112, s113, s114, s115, s116⟩ := hKp
 have hf := hf1; clear hf1
 refine Fact.then_normal ?_
 exact ⟨5 - (jj + 1), by have := HK.out; omega, q + 1, jj + 1, ys, rfl, by omega, by omega, by omega, hf, s0, s1, s2, by (first | exact s7 | (rw [s7]; go_num)), by (first | exact s8 | (rw [s8]; go_num)), hsg, hso, ha3, ho3⟩))
 · (
 have hltI : ¬ (r : Int) + 1 < (b : Int) := by omega
 refine wp_seq_k (fun K47 hK47 => ?_)
 refine wp_seq_k (fun K48 hK48 => ?_)
 refine Fact.region ?_
 have b101 := hf.l 101 rfl
 have b102 := hf.l 102 rfl
 refine Fact.p rfl fun K hK => ?_
 go_simp
 refine hK.out _ _ ?_; clear hK K
 refine Fact.p rfl fun K hK => ?_
 go_simp
 refine hK.out _ _ ?_; clear hK K
 refine Fact.p rfl fun K hK => ?_
 go_simp
 refine hK.out _ _ ?_; clear hK K
 refine Fact.nil ?_
 refine Fact.q hf (by simp only [Fact.G]) rfl fun fr1 hf1 hT => ?_
 have hKp : _ ∧ _ ∧ _ ∧ _ ∧ _ ∧ _ ∧ _ ∧ _ ∧ _ := ⟨hT 0, hT 1, hT 2, hT 7, hT 8, hT 10, hT 101, hT 102, hT 103⟩
 simp only [Fact.G, Nat.reduceEqDiff, Nat.reduceLT, hf.size, reduceIte, s0, s1, s2, s7, s8, s10] at hKp
 clear hT hf s0 s1 s2 s7 s8 s10 b101 b102
 obtain ⟨s0, s1, s2, s7, s8, s10, s101, s102, s103⟩ := hKp
 have hf := hf1; clear hf1
 refine Fact.nx (hK48 _ _ ?_)
 refine Fact.cond_f s103 ?_
 refine wp_exit ?_
 refine Fact.then_exit ?_
 refine Fact.then_exit ?_
 refine Fact.block_exit ?_
 refine Fact.block_normal ?_
 refine Fact.nx (hK7 _ _ ?_)
 refine Fact.region ?_
 have b15 := hf.l 15 rfl
 have b16 := hf.l 16 rfl
 refine Fact.p rfl fun K hK => ?_
 go_simp
 refine hK.out _ _ ?_; clear hK K
 refine Fact.p rfl fun K hK => ?_
 go_simp
 try simp (disch := omega) only [Fact.wrap_i64, Fact.wrap_u8, Fact.wrap_u32, Fact.wrap_u64]
 refine hK.out _ _ ?_; clear hK K
 refine Fact.p rfl fun K hK => ?_
 go_simp
 refine hK.out _ _ ?_; clear hK K
 refine Fact.nil ?_
 refine Fact.q hf (by simp only [Fact.G]) rfl fun fr1 hf1 hT => ?_
 have hKp : _ ∧ _ ∧ _ ∧ _ ∧ _ ∧ _ ∧ _ ∧ _ ∧ _ ∧ _ ∧ _ := ⟨hT 0, hT 1, hT 2, hT 7, hT 8, hT 10, hT 15, hT 16, hT 101, hT 102, hT 103⟩
 simp only [Fact.G, Nat.reduceEqDiff, Nat.reduceLT, hf.size, reduceIte, s0, s1, s2, s7, s10, s101, s102, s103] at hKp
 clear hT hf s0 s1 s2 s7 s8 s10 s101 s102 s103 b15 b16
 obtain ⟨s0, s1, s2, s7, s8, s10, s15, s16, s101, s102, s103⟩ := hKp
 have hf := hf1; clear hf1
 refine Fact.then_normal ?_
 exact ⟨5 - (jj + 1), by have := HK.out; omega, q + 1, jj + 1, ys, rfl, by omega, by omega, by omega, hf, s0, s1, s2, by (first | exact s7 | (rw [s7]; go_num)), by (first | exact s8 | (rw [s8]; go_num)), hsg, hso, ha, ho⟩)))
 · (
 have h2I : ¬ (2 : Int) ≤ (b : Int) - ((q : Int) + 1) := by omega
 try simp only [h2I, decide_true, decide_false, Bool.not_true, Bool.not_false] at s98
 refine Fact.cond_f s98 ?_
 refine wp_skip ?_
 refine Fact.block_normal ?_
 refine Fact.nx (hK7 _ _ ?_)
 refine Fact.region ?_
 have b15 := hf.l 15 rfl
 have b16 := hf.l 16 rfl
 refine Fact.p rfl fun K hK => ?_
 go_simp
 refine hK.out _ _ ?_; clear hK K
 refine Fact.p rfl fun K hK => ?_
 go_simp
 try simp (disch := omega) only [Fact.wrap_i64, Fact.wrap_u8, Fact.wrap_u32, Fact.wrap_u64]
 refine hK.out _ _ ?_; clear hK K
 refine Fact.p rfl fun K hK => ?_
 go_simp
 refine hK.out _ _ ?_; clear hK K
 refine Fact.nil ?_
 refine Fact.q hf (by simp only [Fact.G]) rfl fun fr1 hf1 hT => ?_
 have hKp : _ ∧ _ ∧ _ ∧ _ ∧ _ ∧ _ ∧ _ ∧ _ ∧ _ ∧ _ ∧ _ := ⟨hT 0, hT 1, hT 2, hT 7, hT 8, hT 15, hT 16, hT 95, hT 96, hT 97, hT 98⟩
 simp only [Fact.G, Nat.reduceEqDiff, Nat.reduceLT, hf.size, reduceIte, s0, s1, s2, s7, s95, s96, s97, s98] at hKp
 clear hT hf s0 s1 s2 s7 s8 s95 s96 s97 s98 b15 b16
 obtain ⟨s0, s1, s2, s7, s8, s15, s16, s95, s96, s97, s98⟩ := hKp
 have hf := hf1; clear hf1
 refine Fact.then_normal ?_
 exact ⟨5 - (jj + 1), by have := HK.out; omega, q + 1, jj + 1, ys, rfl, by omega, by omega, by omega, hf, s0, s1, s2, by (first | exact s7 | (rw [s7]; go_num)), by (first | exact s8 | (rw [s8]; go_num)), hsg, hso, ha, ho⟩))))))
 · (
 have h5i : ¬ (jj : Int) < 5 := by omega
 refine wp_seq_k (fun K49 hK49 => ?_)
 refine wp_seq_k (fun K50 hK50 => ?_)
 refine Fact.region ?_
 have b13 := hf.l 13 rfl
 refine Fact.p rfl fun K hK => ?_
 go_simp
 refine hK.out _ _ ?_; clear hK K
 refine Fact.p rfl fun K hK => ?_
 go_simp
 refine hK.out _ _ ?_; clear hK K
 refine Fact.nil ?_
 refine Fact.q hf (by simp only [Fact.G]) rfl fun fr1 hf1 hT => ?_
 have hKp : _ ∧ _ ∧ _ ∧ _ ∧ _ ∧ _ ∧ _ := ⟨hT 0, hT 1, hT 2, hT 7, hT 8, hT 13, hT 14⟩
 simp only [Fact.G, Nat.reduceEqDiff, Nat.reduceLT, hf.size, reduceIte, s0, s1, s2, s7, s8] at hKp
 clear hT hf s0 s1 s2 s7 s8 b13
 obtain ⟨s0, s1, s2, s7, s8, s13, s14⟩ := hKp
 have hf := hf1; clear hf1
 refine Fact.nx (hK50 _ _ ?_)
 refine Fact.cond_f s14 ?_
 refine wp_exit ?_
 refine Fact.then_exit ?_
 refine Fact.then_exit ?_
 refine Fact.block_exit ?_
 refine Fact.nx (hK3 _ _ ?_)
 refine wp_seq_k (fun K51 hK51 => ?_)
 refine Fact.region ?_
 refine Fact.p rfl fun K hK => ?_
 go_simp
 refine hK.out _ _ ?_; clear hK K
 refine Fact.nil ?_
 refine Fact.q hf (by simp only [Fact.G]) rfl fun fr1 hf1 hT => ?_
 have hKp := hT 6
 simp only [Fact.G, Nat.reduceEqDiff, Nat.reduceLT, hf.size, reduceIte] at hKp
 clear hT hf s0 s1 s2 s7 s8 s13 s14
 have s6 := hKp; clear hKp
 have hf := hf1; clear hf1
 refine Fact.nx (hK51 _ _ ?_)
 refine wp_ret ?_
 exact Fact.ret1 rfl hf s6 ⟨false, ys, rfl, hsg, (fun e => by cases e), ha, ho⟩))
end Sb
end Go.Proofs.Ytfgfichkcckhiaa
