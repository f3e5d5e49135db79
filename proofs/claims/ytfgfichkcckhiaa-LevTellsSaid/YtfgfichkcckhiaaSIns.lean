/- slices.insertionSortOrdered at bytes: a stretch is sorted. -/
import Derived.Test.YtfgfichkcckhiaaSCmp
namespace Go.Proofs.Ytfgfichkcckhiaa
open Go.RowKit
set_option linter.unusedSimpArgs false
set_option linter.unusedVariables false
set_option linter.unnecessarySimpa false
namespace Sb
set_option maxHeartbeats 4000000 in
set_option maxRecDepth 100000 in
theorem ins_any (zs : List Int) (g n c a b : Nat) (w : World) (hn : zs.length = n) (hnl : n ≤ 1000000000) (hab : a ≤ b) (hb : b ≤ n) (h : Arr w g zs) : Calls Try.prog 79 #[.slice (some ⟨g, 0, none⟩) n c, .int .i64 a, .int .i64 b] w fun e w1 => e = .returned (.tuple #[]) ∧ ∃ ys, Segm a b zs ys ∧ SortedOn a b ys ∧ Arr w1 g ys ∧ Only w w1 g := by
 refine calls_of_wp Try.func79 rfl ?_
 refine Fact.enter (n := 49) (by kernel_rfl) (fun fr hf hT => ?_)
 have s0 := hT 0 _ rfl
 have s1 := hT 1 _ rfl
 have s2 := hT 2 _ rfl
 clear hT
 have w1 : IntKind.i64.wrap ((a : Int) + 1) = ((a + 1 : Nat) : Int) := by rw [Fact.wrap_i64 (by omega) (by omega)]; omega
 refine wp_seq_k (fun K1 hK1 => ?_)
 refine Fact.region ?_
 have b8 := hf.l 8 rfl
 have b9 := hf.l 9 rfl
 refine Fact.p rfl fun K hK => ?_
 go_simp
 refine hK.out _ _ ?_; clear hK K
 refine Fact.p rfl fun K hK => ?_
 go_simp
 try simp (disch := omega) only [Fact.wrap_i64, Fact.wrap_u8, Fact.wrap_u32, Fact.wrap_u64]
 refine hK.out _ _ ?_; clear hK K
 refine Fact.p rfl fun K hK => ?_
 go_simp
 refine hK.out _ _ ?_; clear hK K
 refine Fact.nil ?_
 refine Fact.q hf (by simp only [Fact.G]) rfl fun fr1 hf1 hT => ?_
 have hKp : _ ∧ _ ∧ _ ∧ _ := ⟨hT 0, hT 1, hT 2, hT 6⟩
 simp only [Fact.G, Nat.reduceEqDiff, Nat.reduceLT, hf.size, reduceIte, s0, s1, s2] at hKp
 clear hT hf s0 s1 s2 b8 b9
 obtain ⟨s0, s1, s2, s6⟩ := hKp
 have hf := hf1; clear hf1
 refine Fact.nx (hK1 _ _ ?_)
 refine wp_block ?_
 clear w1
 refine wp_loop_ghost (fun gk fr wr => ∃ (i : Nat) (ys : List Int), gk = b + 1 - i ∧ a + 1 ≤ i ∧ (i ≤ b ∨ i = a + 1) ∧ Fact.Fr 49 fr ∧ fr.tmps[0]? = some (.slice (some ⟨g, 0, none⟩) n c) ∧ fr.tmps[1]? = some (.int .i64 a) ∧ fr.tmps[2]? = some (.int .i64 b) ∧ fr.tmps[6]? = some (.int .i64 i) ∧ Segm a b zs ys ∧ SortedOn a i ys ∧ Arr wr g ys ∧ Only w wr g) (b + 1 - (a + 1)) ?_ ?_
 · (
 exact ⟨a + 1, zs, rfl, Nat.le_refl _, .inr rfl, hf, s0, s1, s2, s6, Segm.refl _ _ _, SortedOn.one _ _, h, Only.refl _ _⟩)
 · (
 clear hf s0 s1 s2 s6
 rintro gk fr wr ⟨i, ys, hk, hai, hib, hf, s0, s1, s2, s6, hsg, hso, ha, ho⟩
 have HK := Lib.hid hk; clear hk
 have hyl : ys.length = zs.length := hsg.len
 have HYL := Lib.hid hyl; clear hyl
 by_cases hlt : i < b
 · (
 have hii : (i : Int) < (b : Int) := by omega
 refine wp_seq_k (fun K2 hK2 => ?_)
 refine wp_seq_k (fun K3 hK3 => ?_)
 refine Fact.region ?_
 have b10 := hf.l 10 rfl
 have b11 := hf.l 11 rfl
 refine Fact.p rfl fun K hK => ?_
 go_simp
 refine hK.out _ _ ?_; clear hK K
 refine Fact.p rfl fun K hK => ?_
 go_simp
 refine hK.out _ _ ?_; clear hK K
 refine Fact.p rfl fun K hK => ?_
 go_simp
 refine hK.out _ _ ?_; clear hK K
 refine Fact.nil ?_
 refine Fact.q hf (by simp only [Fact.G]) rfl fun fr1 hf1 hT => ?_
 have hKp : _ ∧ _ ∧ _ ∧ _ ∧ _ ∧ _ ∧ _ := ⟨hT 0, hT 1, hT 2, hT 6, hT 10, hT 11, hT 12⟩
 simp only [Fact.G, Nat.reduceEqDiff, Nat.reduceLT, hf.size, reduceIte, s0, s1, s2, s6] at hKp
 clear hT hf s0 s1 s2 s6 b10 b11
 obtain ⟨s0, s1, s2, s6, s10, s11, s12⟩ := hKp
 have hf := hf1; clear hf1
 refine Fact.nx (hK3 _ _ ?_)
 refine Fact.cond_t s12 ?_
 refine wp_skip ?_
 refine Fact.nx (hK2 _ _ ?_)
 refine wp_seq_k (fun K4 hK4 => ?_)
 refine wp_block ?_
 refine wp_seq_k (fun K5 hK5 => ?_)
 refine Fact.region ?_
 have b15 := hf.l 15 rfl
 refine Fact.p rfl fun K hK => ?_
 go_simp
 refine hK.out _ _ ?_; clear hK K
 refine Fact.p rfl fun K hK => ?_
 go_simp
 refine hK.out _ _ ?_; clear hK K
 refine Fact.nil ?_
 refine Fact.q hf (by simp only [Fact.G]) rfl fun fr1 hf1 hT => ?_
 have hKp : _ ∧ _ ∧ _ ∧ _ ∧ _ ∧ _ ∧ _ ∧ _ ∧ _ := ⟨hT 0, hT 1, hT 2, hT 6, hT 7, hT 10, hT 11, hT 12, hT 15⟩
 simp only [Fact.G, Nat.reduceEqDiff, Nat.reduceLT, hf.size, reduceIte, s0, s1, s2, s6, s10, s11, s12] at hKp
 clear hT hf s0 s1 s2 s6 s10 s11 s12 b15
 obtain ⟨s0, s1, s2, s6, s7, s10, s11, s12, s15⟩ := hKp
 have hf := hf1; clear hf1
 refine Fact.nx (hK5 _ _ ?_)
 refine wp_block ?_
 refine wp_loop_ghost (fun gk2 fr wr2 => ∃ (j : Nat) (zs2 : List Int), gk2 = j ∧ a ≤ j ∧ j ≤ i ∧ Fact.Fr 49 fr ∧ fr.tmps[0]? = some (.slice (some ⟨g, 0, none⟩) n c) ∧ fr.tmps[1]? = some (.int .i64 a) ∧ fr.tmps[2]? = some (.int .i64 b) ∧ fr.tmps[6]? = some (.int .i64 i) ∧ fr.tmps[7]? = some (.int .i64 j) ∧ Segm a b zs zs2 ∧ Near a i j zs2 ∧ Arr wr2 g zs2 ∧ Only w wr2 g) (i) ?_ ?_
 · (
 exact ⟨i, ys, rfl, by omega, Nat.le_refl _, hf, s0, s1, s2, s6, s7, hsg, Near.start hso, ha, ho⟩)
 · (
 clear hf s0 s1 s2 s6 s7 s10 s11 s12 s15
 rintro gk2 fr wr2 ⟨j, zs2, rfl, haj, hji, hf, s0, s1, s2, s6, s7, hsg2, hnr, ha2, ho2⟩
 have hl2 : zs2.length = zs.length := hsg2.len
 have HL2 := Lib.hid hl2; clear hl2
 rcases Nat.lt_or_ge a gk2 with haj2 | haj2
 · (
 obtain ⟨q, rfl⟩ : ∃ q, gk2 = q + 1 := ⟨gk2 - 1, by omega⟩
 have hgt : (a : Int) < (q : Int) + 1 := by omega
 have hj0 : (q : Int) + 1 < (n : Int) := by omega
 have hj1 : (0 : Int) ≤ (q : Int) + 1 := by omega
 have hq0 : q < n := by omega
 obtain ⟨x, hx⟩ : ∃ x, zs2[q + 1]? = some x := ⟨zs2[q + 1]'(by have := HL2.out; omega), List.getElem?_eq_getElem _⟩
 obtain ⟨y, hy⟩ : ∃ y, zs2[q]? = some y := ⟨zs2[q]'(by have := HL2.out; omega), List.getElem?_eq_getElem _⟩
 have cx := ha2.cell hx
 have cy := ha2.cell hy
 have hxd : zs2.getD (q + 1) 0 = x := by simp [List.getD, hx]
 have hyd : zs2.getD q 0 = y := by simp [List.getD, hy]
 have HX := Lib.hid hxd; have HY := Lib.hid hyd; have HX0 := Lib.hid hx; have HY0 := Lib.hid hy; clear hx hy hxd hyd
 have e2 : IntKind.i64.wrap ((q : Int) + 1 - 1) = (q : Int) := by rw [Fact.wrap_i64 (by omega) (by omega)]; omega
 have e3 : IntKind.i64.wrap (q : Int) = (q : Int) := Fact.wrap_i64 (by omega) (by omega)
 have hfr := fun k => ha2.frozen k
 by_cases hxy : x < y
 · (
 refine wp_seq_k (fun K6 hK6 => ?_)
 refine wp_seq_k (fun K7 hK7 => ?_)
 refine Stage.begin_ (n := 49) [] (fun k w1 => w1 = [wr2.drew].getD k (wr2.drew)) (Stab.OkOps.of (by kernel_rfl)) (fun hok => ?_)
 refine Stage.mvO (k := 0) s7 hf.size hok.out rfl rfl rfl (.inl rfl) (by kernel_rfl) (by kernel_rfl) ?_
 refine Stage.mvO (k := 1) s1 hf.size hok.out rfl rfl rfl (.inl rfl) (by kernel_rfl) (by kernel_rfl) ?_
 apply Stage.t 2 _ hf.size hok.out rfl (by kernel_rfl)
 · (
 intro fr1 w1 hh hd hk K hK
 refine Stab.op_plain (o := _) rfl rfl ?_
 have s16 := Stage.u 0 1 hd hk rfl [] (by kernel_rfl) rfl rfl rfl
 have s17 := Stage.u 1 0 hd hk rfl [] (by kernel_rfl) rfl rfl rfl
 clear hd
 go_simp
 exact hK.out _ rfl _ rfl)
 refine Stage.mvN (k := 3) (j := 2) (m := 0) hf.size hok.out rfl rfl rfl (.inl rfl) rfl [] (by kernel_rfl) rfl rfl rfl (by kernel_rfl) ?_
 apply Stage.t 4 _ hf.size hok.out rfl (by kernel_rfl)
 · (
 intro fr1 w1 hh hd hk K hK
 have s19 := Stage.u 3 0 hd hk rfl [] (by kernel_rfl) rfl rfl rfl
 refine Stab.op_guard (o := _) rfl rfl rfl rfl s19 ?_
 have s0 := Stage.o hh (by kernel_rfl) s0
 clear hd
 go_simp
 exact hK.out _ rfl _ rfl)
 apply Stage.t 5 _ hf.size hok.out rfl (by kernel_rfl)
 · (
 intro fr1 w1 hh hd hk K hK
 have s19 := Stage.u 3 1 hd hk rfl [] (by kernel_rfl) rfl rfl rfl
 refine Stab.op_guard (o := _) rfl rfl rfl rfl s19 ?_
 have s7 := Stage.o hh (by kernel_rfl) s7
 clear hd
 go_simp
 exact hK.out _ rfl _ rfl)
 apply Stage.t 6 _ hf.size hok.out rfl (by kernel_rfl)
 · (
 intro fr1 w1 hh hd hk K hK
 have s19 := Stage.u 3 2 hd hk rfl [] (by kernel_rfl) rfl rfl rfl
 refine Stab.op_guard (o := _) rfl rfl rfl rfl s19 ?_
 have s20 := Stage.u 4 1 hd hk rfl [] (by kernel_rfl) rfl rfl rfl
 have s21 := Stage.u 5 0 hd hk rfl [] (by kernel_rfl) rfl rfl rfl
 clear hd
 go_simp
 exact hK.out _ rfl _ rfl)
 apply Stage.todo_look (k := 7) (n := 49) 0 [] [] _ hf.size hok.out rfl (by kernel_rfl)
 · (
 intro fr1 w1 hh hw hd hk K hK
 replace hw : w1 = wr2.drew := hw
 subst hw
 have s19 := Stage.u 3 3 hd hk rfl [] (by kernel_rfl) rfl rfl rfl
 refine Stab.op_guard (o := _) rfl rfl rfl rfl s19 ?_
 have s22 := Stage.u 6 0 hd hk rfl [] (by kernel_rfl) rfl rfl rfl
 clear hd
 go_simp
 exact hK.out _ rfl _ _ rfl rfl)
 apply Stage.t 8 _ hf.size hok.out rfl (by kernel_rfl)
 · (
 intro fr1 w1 hh hd hk K hK
 have s19 := Stage.u 3 4 hd hk rfl [] (by kernel_rfl) rfl rfl rfl
 refine Stab.op_guard (o := _) rfl rfl rfl rfl s19 ?_
 have s0 := Stage.o hh (by kernel_rfl) s0
 clear hd
 go_simp
 exact hK.out _ rfl _ rfl)
 apply Stage.t 9 _ hf.size hok.out rfl (by kernel_rfl)
 · (
 intro fr1 w1 hh hd hk K hK
 have s19 := Stage.u 3 5 hd hk rfl [] (by kernel_rfl) rfl rfl rfl
 refine Stab.op_guard (o := _) rfl rfl rfl rfl s19 ?_
 have s7 := Stage.o hh (by kernel_rfl) s7
 clear hd
 go_simp
 exact hK.out _ rfl _ rfl)
 apply Stage.t 10 _ hf.size hok.out rfl (by kernel_rfl)
 · (
 intro fr1 w1 hh hd hk K hK
 have s19 := Stage.u 3 6 hd hk rfl [] (by kernel_rfl) rfl rfl rfl
 refine Stab.op_guard (o := _) rfl rfl rfl rfl s19 ?_
 have s25 := Stage.u 9 0 hd hk rfl [] (by kernel_rfl) rfl rfl rfl
 clear hd
 go_simp
 exact hK.out _ rfl _ rfl)
 apply Stage.t 11 _ hf.size hok.out rfl (by kernel_rfl)
 · (
 intro fr1 w1 hh hd hk K hK
 have s19 := Stage.u 3 7 hd hk rfl [] (by kernel_rfl) rfl rfl rfl
 refine Stab.op_guard (o := _) rfl rfl rfl rfl s19 ?_
 have s24 := Stage.u 8 2 hd hk rfl [] (by kernel_rfl) rfl rfl rfl
 have s26 := Stage.u 10 0 hd hk rfl [] (by kernel_rfl) rfl rfl rfl
 clear hd
 go_simp
 exact hK.out _ rfl _ rfl)
 apply Stage.todo_look (k := 12) (n := 49) 0 [] [] _ hf.size hok.out rfl (by kernel_rfl)
 · (
 intro fr1 w1 hh hw hd hk K hK
 replace hw : w1 = wr2.drew := hw
 subst hw
 have s19 := Stage.u 3 8 hd hk rfl [] (by kernel_rfl) rfl rfl rfl
 refine Stab.op_guard (o := _) rfl rfl rfl rfl s19 ?_
 have s27 := Stage.u 11 0 hd hk rfl [] (by kernel_rfl) rfl rfl rfl
 clear hd
 go_simp
 exact hK.out _ rfl _ _ rfl rfl)
 apply Stage.todo_look (k := 13) (n := 49) 0 [] [] _ hf.size hok.out rfl (by kernel_rfl)
 · (
 intro fr1 w1 hh hw hd hk K hK
 replace hw : w1 = wr2.drew := hw
 subst hw
 have s19 := Stage.u 3 9 hd hk rfl [] (by kernel_rfl) rfl rfl rfl
 refine Stab.op_guard (o := _) rfl rfl rfl rfl s19 ?_
 have s23 := Stage.u 7 5 hd hk rfl [] (by kernel_rfl) rfl rfl rfl
 have s28 := Stage.u 12 0 hd hk rfl [] (by kernel_rfl) rfl rfl rfl
 clear hd
 go_simp
 go_at_call 85; refine (less_any _ _ _).mono ?_; rintro e w2 ⟨rfl, rfl⟩
 exact hK.out _ rfl _ _ rfl rfl)
 apply Stage.t 14 _ hf.size hok.out rfl (by kernel_rfl)
 · (
 intro fr1 w1 hh hd hk K hK
 refine Stab.op_plain (o := _) rfl rfl ?_
 have s19 := Stage.u 3 10 hd hk rfl [] (by kernel_rfl) rfl rfl rfl
 have s29 := Stage.u 13 0 hd hk rfl [] (by kernel_rfl) rfl rfl rfl
 clear hd
 go_simp
 exact hK.out _ rfl _ rfl)
 refine Stage.todo_facts (n := 49) (by kernel_rfl) hf.size hok.out rfl (by decide) (by decide) rfl (fun fr1 w1 hh hg hw => ?_)
 replace hw : w1 = wr2.drew := hw
 subst hw
 replace s0 := Stage.o hh (by kernel_rfl) s0
 replace s1 := Stage.o hh (by kernel_rfl) s1
 replace s2 := Stage.o hh (by kernel_rfl) s2
 replace s6 := Stage.o hh (by kernel_rfl) s6
 replace s7 := Stage.o hh (by kernel_rfl) s7
 have s16 := Stage.e 0 14 hg rfl rfl rfl rfl
 have s17 := Stage.e 1 13 hg rfl rfl rfl rfl
 have s18 := Stage.e 2 12 hg rfl rfl rfl rfl
 have s19 := Stage.e 3 11 hg rfl rfl rfl rfl
 have s20 := Stage.e 4 10 hg rfl rfl rfl rfl
 have s21 := Stage.e 5 9 hg rfl rfl rfl rfl
 have s22 := Stage.e 6 8 hg rfl rfl rfl rfl
 have s23 := Stage.e 7 7 hg rfl rfl rfl rfl
 have s24 := Stage.e 8 6 hg rfl rfl rfl rfl
 have s25 := Stage.e 9 5 hg rfl rfl rfl rfl
 have s26 := Stage.e 10 4 hg rfl rfl rfl rfl
 have s27 := Stage.e 11 3 hg rfl rfl rfl rfl
 have s28 := Stage.e 12 2 hg rfl rfl rfl rfl
 have s29 := Stage.e 13 1 hg rfl rfl rfl rfl
 have s30 := Stage.e 14 0 hg rfl rfl rfl rfl
 have hf1 : Fact.Fr 49 fr1 := ⟨hh.size.trans hf.size, hh.defers.trans hf.defers⟩
 clear hg hh hf
 have hf := hf1; clear hf1
 clear hok
 have ha3 := ha2.drew; have ho3 := ho2.drew
 clear ha2 ho2 cx cy hfr
 generalize wr2.drew = wd at *
 refine Fact.nx (hK7 _ _ ?_)
 refine Fact.cond_t s30 ?_
 have hlt3 := hxy
 have cx := ha3.cell HX0.out; have cy := ha3.cell HY0.out; have hfr := fun k => ha3.frozen k
 have A1 := Lib.hid (ha3.drew.set_ (q + 1) y)
 have C1 := A1.out.cell (i := q) (x := y) (by rw [List.getElem?_set_ne (by omega)]; exact HY0.out)
 have F1 := A1.out.frozen q
 have A2 := Lib.hid (A1.out.set_ q x)
 have O2 := Lib.hid ((ho3.drew.set_ (p := ⟨g, q + 1, none⟩) (.inl rfl) (.int .u8 y)).set_ (p := ⟨g, q, none⟩) (.inl rfl) (.int .u8 x))
 clear ho3 ha3
 refine wp_skip ?_
 refine Fact.nx (hK6 _ _ ?_)
 refine wp_seq_k (fun K8 hK8 => ?_)
 refine wp_block ?_
 refine Stage.begin_ (n := 49) [15, 17] (fun k w1 => w1 = [wd.drew, (wd.drew.setCell ⟨g, q + 1, none⟩ (.int .u8 y)), ((wd.drew.setCell ⟨g, q + 1, none⟩ (.int .u8 y)).setCell ⟨g, q, none⟩ (.int .u8 x))].getD k (wd.drew)) (Stab.OkOps.of (by kernel_rfl)) (fun hok => ?_)
 refine Stage.mvO (k := 0) s0 hf.size hok.out rfl rfl rfl (.inl rfl) (by kernel_rfl) (by kernel_rfl) ?_
 refine Stage.mvO (k := 1) s7 hf.size hok.out rfl rfl rfl (.inl rfl) (by kernel_rfl) (by kernel_rfl) ?_
 refine Stage.mvO (k := 2) s0 hf.size hok.out rfl rfl rfl (.inl rfl) (by kernel_rfl) (by kernel_rfl) ?_
 refine Stage.mvO (k := 3) s7 hf.size hok.out rfl rfl rfl (.inl rfl) (by kernel_rfl) (by kernel_rfl) ?_
 apply Stage.t 4 _ hf.size hok.out rfl (by kernel_rfl)
 · (
 intro fr1 w1 hh hd hk K hK
 refine Stab.op_plain (o := _) rfl rfl ?_
 have s36 := Stage.u 3 0 hd hk rfl [] (by kernel_rfl) rfl rfl rfl
 clear hd
 go_simp
 exact hK.out _ rfl _ rfl)
 refine Stage.mvO (k := 5) s0 hf.size hok.out rfl rfl rfl (.inl rfl) (by kernel_rfl) (by kernel_rfl) ?_
 refine Stage.mvO (k := 6) s7 hf.size hok.out rfl rfl rfl (.inl rfl) (by kernel_rfl) (by kernel_rfl) ?_
 apply Stage.t 7 _ hf.size hok.out rfl (by kernel_rfl)
 · (
 intro fr1 w1 hh hd hk K hK
 refine Stab.op_plain (o := _) rfl rfl ?_
 have s39 := Stage.u 6 0 hd hk rfl [] (by kernel_rfl) rfl rfl rfl
 clear hd
 go_simp
 exact hK.out _ rfl _ rfl)
 apply Stage.t 8 _ hf.size hok.out rfl (by kernel_rfl)
 · (
 intro fr1 w1 hh hd hk K hK
 refine Stab.op_plain (o := _) rfl rfl ?_
 have s38 := Stage.u 5 2 hd hk rfl [] (by kernel_rfl) rfl rfl rfl
 have s40 := Stage.u 7 0 hd hk rfl [] (by kernel_rfl) rfl rfl rfl
 clear hd
 go_simp
 exact hK.out _ rfl _ rfl)
 apply Stage.todo_look (k := 9) (n := 49) 0 [] [] _ hf.size hok.out rfl (by kernel_rfl)
 · (
 intro fr1 w1 hh hw hd hk K hK
 replace hw : w1 = wd.drew := hw
 subst hw
 refine Stab.op_plain (o := _) rfl rfl ?_
 have s41 := Stage.u 8 0 hd hk rfl [] (by kernel_rfl) rfl rfl rfl
 clear hd
 go_simp
 exact hK.out _ rfl _ _ rfl rfl)
 refine Stage.mvO (k := 10) s0 hf.size hok.out rfl rfl rfl (.inl rfl) (by kernel_rfl) (by kernel_rfl) ?_
 refine Stage.mvO (k := 11) s7 hf.size hok.out rfl rfl rfl (.inl rfl) (by kernel_rfl) (by kernel_rfl) ?_
 apply Stage.t 12 _ hf.size hok.out rfl (by kernel_rfl)
 · (
 intro fr1 w1 hh hd hk K hK
 refine Stab.op_plain (o := _) rfl rfl ?_
 have s43 := Stage.u 10 1 hd hk rfl [] (by kernel_rfl) rfl rfl rfl
 have s44 := Stage.u 11 0 hd hk rfl [] (by kernel_rfl) rfl rfl rfl
 clear hd
 go_simp
 exact hK.out _ rfl _ rfl)
 apply Stage.todo_look (k := 13) (n := 49) 0 [] [] _ hf.size hok.out rfl (by kernel_rfl)
 · (
 intro fr1 w1 hh hw hd hk K hK
 replace hw : w1 = wd.drew := hw
 subst hw
 refine Stab.op_plain (o := _) rfl rfl ?_
 have s45 := Stage.u 12 0 hd hk rfl [] (by kernel_rfl) rfl rfl rfl
 clear hd
 go_simp
 exact hK.out _ rfl _ _ rfl rfl)
 apply Stage.t 14 _ hf.size hok.out rfl (by kernel_rfl)
 · (
 intro fr1 w1 hh hd hk K hK
 refine Stab.op_plain (o := _) rfl rfl ?_
 have s33 := Stage.u 0 13 hd hk rfl [] (by kernel_rfl) rfl rfl rfl
 have s34 := Stage.u 1 12 hd hk rfl [] (by kernel_rfl) rfl rfl rfl
 clear hd
 go_simp
 exact hK.out _ rfl _ rfl)
 refine Stage.todo_lead (k := 15) (n := 49) 0 [] (fun _ => True) hf.size hok.out rfl (by kernel_rfl) ?_ ?_
 · (
 intro fr1 w1 hh hw hd hk K hK
 replace hw : w1 = wd.drew := hw
 subst hw
 refine Stab.op_plain (o := _) rfl rfl ?_
 have s47 := Stage.u 14 0 hd hk rfl [] (by kernel_rfl) rfl rfl rfl
 have s42 := Stage.u 9 5 hd hk rfl [] (by kernel_rfl) rfl rfl rfl
 clear hd
 go_simp
 exact hK.out _ rfl undef _ rfl trivial)
 apply Stage.t 16 _ hf.size hok.out rfl (by kernel_rfl)
 · (
 intro fr1 w1 hh hd hk K hK
 refine Stab.op_plain (o := _) rfl rfl ?_
 have s35 := Stage.u 2 13 hd hk rfl [] (by kernel_rfl) rfl rfl rfl
 have s37 := Stage.u 4 11 hd hk rfl [] (by kernel_rfl) rfl rfl rfl
 clear hd
 go_simp
 exact hK.out _ rfl _ rfl)
 refine Stage.todo_lead (k := 17) (n := 49) 1 [] (fun _ => True) hf.size hok.out rfl (by kernel_rfl) ?_ ?_
 · (
 intro fr1 w1 hh hw hd hk K hK
 replace hw : w1 = (wd.drew.setCell ⟨g, q + 1, none⟩ (.int .u8 y)) := hw
 subst hw
 refine Stab.op_plain (o := _) rfl rfl ?_
 have s48 := Stage.u 16 0 hd hk rfl [] (by kernel_rfl) rfl rfl rfl
 have s46 := Stage.u 13 3 hd hk rfl [] (by kernel_rfl) rfl rfl rfl
 clear hd
 go_simp
 exact hK.out _ rfl undef _ rfl trivial)
 refine Stage.todo_facts (n := 49) (by kernel_rfl) hf.size hok.out rfl (by decide) (by decide) rfl (fun fr1 w1 hh hg hw => ?_)
 replace hw : w1 = ((wd.drew.setCell ⟨g, q + 1, none⟩ (.int .u8 y)).setCell ⟨g, q, none⟩ (.int .u8 x)) := hw
 subst hw
 replace s0 := Stage.o hh (by kernel_rfl) s0
 replace s1 := Stage.o hh (by kernel_rfl) s1
 replace s2 := Stage.o hh (by kernel_rfl) s2
 replace s6 := Stage.o hh (by kernel_rfl) s6
 replace s7 := Stage.o hh (by kernel_rfl) s7
 replace s16 := Stage.o hh (by kernel_rfl) s16
 replace s17 := Stage.o hh (by kernel_rfl) s17
 replace s18 := Stage.o hh (by kernel_rfl) s18
 replace s19 := Stage.o hh (by kernel_rfl) s19
 replace s20 := Stage.o hh (by kernel_rfl) s20
 replace s21 := Stage.o hh (by kernel_rfl) s21
 replace s22 := Stage.o hh (by kernel_rfl) s22
 replace s23 := Stage.o hh (by kernel_rfl) s23
 replace s24 := Stage.o hh (by kernel_rfl) s24
 replace s25 := Stage.o hh (by kernel_rfl) s25
 replace s26 := Stage.o hh (by kernel_rfl) s26
 replace s27 := Stage.o hh (by kernel_rfl) s27
 replace s28 := Stage.o hh (by kernel_rfl) s28
 replace s29 := Stage.o hh (by kernel_rfl) s29
 replace s30 := Stage.o hh (by kernel_rfl) s30
 have s33 := Stage.e 0 17 hg rfl rfl rfl rfl
 have s34 := Stage.e 1 16 hg rfl rfl rfl rfl
 have s35 := Stage.e 2 15 hg rfl rfl rfl rfl
 have s36 := Stage.e 3 14 hg rfl rfl rfl rfl
 have s37 := Stage.e 4 13 hg rfl rfl rfl rfl
 have s38 := Stage.e 5 12 hg rfl rfl rfl rfl
 have s39 := Stage.e 6 11 hg rfl rfl rfl rfl
 have s40 := Stage.e 7 10 hg rfl rfl rfl rfl
 have s41 := Stage.e 8 9 hg rfl rfl rfl rfl
 have s42 := Stage.e 9 8 hg rfl rfl rfl rfl
 have s43 := Stage.e 10 7 hg rfl rfl rfl rfl
 have s44 := Stage.e 11 6 hg rfl rfl rfl rfl
 have s45 := Stage.e 12 5 hg rfl rfl rfl rfl
 have s46 := Stage.e 13 4 hg rfl rfl rfl rfl
 have s47 := Stage.e 14 3 hg rfl rfl rfl rfl
 have s48 := Stage.e 16 1 hg rfl rfl rfl rfl
 have hf1 : Fact.Fr 49 fr1 := ⟨hh.size.trans hf.size, hh.defers.trans hf.defers⟩
 clear hg hh hf
 have hf := hf1; clear hf1
 clear hok
 refine Fact.block_normal ?_
 refine Fact.nx (hK8 _ _ ?_)
 refine Fact.region ?_
 have b31 := hf.l 31 rfl
 have b32 := hf.l 32 rfl
 refine Fact.p rfl fun K hK => ?_
 go_simp
 refine hK.out _ _ ?_; clear hK K
 refine Fact.p rfl fun K hK => ?_
 go_simp
 try simp (disch := omega) only [Fact.wrap_i64, Fact.wrap_u8, Fact.wrap_u32, Fact.wrap_u64]
 refine hK.out _ _ ?_; clear hK K
 refine Fact.p rfl fun K hK => ?_
 go_simp
 refine hK.out _ _ ?_; clear hK K
 refine Fact.nil ?_
 refine Fact.q hf (by simp only [Fact.G]) rfl fun fr1 hf1 hT => ?_
 have hKp : _ ∧ _ ∧ _ ∧ _ ∧ _ ∧ _ ∧ _ ∧ _ ∧ _ ∧ _ ∧ _ ∧ _ ∧ _ ∧ _ ∧ _ ∧ _ ∧ _ ∧ _ ∧ _ ∧ _ ∧ _ ∧ _ ∧ _ ∧ _ ∧ _ ∧ _ ∧ _ ∧ _ ∧ _ ∧ _ ∧ _ ∧ _ ∧ _ ∧ _ ∧ _ ∧ _ ∧ _ ∧ _ := ⟨hT 0, hT 1, hT 2, hT 6, hT 7, hT 16, hT 17, hT 18, hT 19, hT 20, hT 21, hT 22, hT 23, hT 24, hT 25, hT 26, hT 27, hT 28, hT 29, hT 30, hT 31, hT 32, hT 33, hT 34, hT 35, hT 36, hT 37, hT 38, hT 39, hT 40, hT 41, hT 42, hT 43, hT 44, hT 45, hT 46, hT 47, hT 48⟩
 simp only [Fact.G, Nat.reduceEqDiff, Nat.reduceLT, hf.size, reduceIte, s0, s1, s2, s6, s16, s17, s18, s19, s20, s21, s22, s23, s24, s25, s26, s27, s28, s29, s30, s33, s34, s35, s36, s37, s38, s39, s40, s41, s42, s43, s44, s45, s46, s47, s48] at hKp
 clear hT hf s0 s1 s2 s6 s7 s16 s17 s18 s19 s20 s21 s22 s23 s24 s25 s26 s27 s28 s29 s30 s33 s34 s35 s36 s37 s38 s39 s40 s41 s42 s43 s44 s45 s46 s47 s48 b31 b32
 obtain ⟨s0, s1, s2, s6, s7, s16, s17, s18, s19, s20, s21, s22, s23, s24, s25, s26, s27, s28, s29, s30, s31, s32, s33, s34, s35, s36, s37, s38, s39, s40, s41, s42, s43, s44, s45, s46, s47, s48⟩ := hKp
 have hf := hf1; clear hf1
 refine Fact.then_normal ?_
 refine ⟨q, by omega, q, swap zs2 (q + 1) q, rfl, by omega, by omega, hf, s0, s1, s2, s6, s7, hsg2.swap (by omega) (by omega) (by omega) (by omega), hnr.step (by have := HL2.out; omega) hji (by omega) (by rw [HX.out, HY.out]; exact hlt3), ?_, O2.out⟩
 unfold swap; rw [HX.out, HY.out]; exact A2.out)
 · (
 refine wp_seq_k (fun K9 hK9 => ?_)
 refine wp_seq_k (fun K10 hK10 => ?_)
 refine Stage.begin_ (n := 49) [] (fun k w1 => w1 = [wr2.drew].getD k (wr2.drew)) (Stab.OkOps.of (by kernel_rfl)) (fun hok => ?_)
 refine Stage.mvO (k := 0) s7 hf.size hok.out rfl rfl rfl (.inl rfl) (by kernel_rfl) (by kernel_rfl) ?_
 refine Stage.mvO (k := 1) s1 hf.size hok.out rfl rfl rfl (.inl rfl) (by kernel_rfl) (by kernel_rfl) ?_
 apply Stage.t 2 _ hf.size hok.out rfl (by kernel_rfl)
 · (
 intro fr1 w1 hh hd hk K hK
 refine Stab.op_plain (o := _) rfl rfl ?_
 have s16 := Stage.u 0 1 hd hk rfl [] (by kernel_rfl) rfl rfl rfl
 have s17 := Stage.u 1 0 hd hk rfl [] (by kernel_rfl) rfl rfl rfl
 clear hd
 go_simp
 exact hK.out _ rfl _ rfl)
 refine Stage.mvN (k := 3) (j := 2) (m := 0) hf.size hok.out rfl rfl rfl (.inl rfl) rfl [] (by kernel_rfl) rfl rfl rfl (by kernel_rfl) ?_
 apply Stage.t 4 _ hf.size hok.out rfl (by kernel_rfl)
 · (
 intro fr1 w1 hh hd hk K hK
 have s19 := Stage.u 3 0 hd hk rfl [] (by kernel_rfl) rfl rfl rfl
 refine Stab.op_guard (o := _) rfl rfl rfl rfl s19 ?_
 have s0 := Stage.o hh (by kernel_rfl) s0
 clear hd
 go_simp
 exact hK.out _ rfl _ rfl)
 apply Stage.t 5 _ hf.size hok.out rfl (by kernel_rfl)
 · (
 intro fr1 w1 hh hd hk K hK
 have s19 := Stage.u 3 1 hd hk rfl [] (by kernel_rfl) rfl rfl rfl
 refine Stab.op_guard (o := _) rfl rfl rfl rfl s19 ?_
 have s7 := Stage.o hh (by kernel_rfl) s7
 clear hd
 go_simp
 exact hK.out _ rfl _ rfl)
 apply Stage.t 6 _ hf.size hok.out rfl (by kernel_rfl)
 · (
 intro fr1 w1 hh hd hk K hK
 have s19 := Stage.u 3 2 hd hk rfl [] (by kernel_rfl) rfl rfl rfl
 refine Stab.op_guard (o := _) rfl rfl rfl rfl s19 ?_
 have s20 := Stage.u 4 1 hd hk rfl [] (by kernel_rfl) rfl rfl rfl
 have s21 := Stage.u 5 0 hd hk rfl [] (by kernel_rfl) rfl rfl rfl
 clear hd
 go_simp
 exact hK.out _ rfl _ rfl)
 apply Stage.todo_look (k := 7) (n := 49) 0 [] [] _ hf.size hok.out rfl (by kernel_rfl)
 · (
 intro fr1 w1 hh hw hd hk K hK
 replace hw : w1 = wr2.drew := hw
 subst hw
 have s19 := Stage.u 3 3 hd hk rfl [] (by kernel_rfl) rfl rfl rfl
 refine Stab.op_guard (o := _) rfl rfl rfl rfl s19 ?_
 have s22 := Stage.u 6 0 hd hk rfl [] (by kernel_rfl) rfl rfl rfl
 clear hd
 go_simp
 exact hK.out _ rfl _ _ rfl rfl)
 apply Stage.t 8 _ hf.size hok.out rfl (by kernel_rfl)
 · (
 intro fr1 w1 hh hd hk K hK
 have s19 := Stage.u 3 4 hd hk rfl [] (by kernel_rfl) rfl rfl rfl
 refine Stab.op_guard (o := _) rfl rfl rfl rfl s19 ?_
 have s0 := Stage.o hh (by kernel_rfl) s0
 clear hd
 go_simp
 exact hK.out _ rfl _ rfl)
 apply Stage.t 9 _ hf.size hok.out rfl (by kernel_rfl)
 · (
 intro fr1 w1 hh hd hk K hK
 have s19 := Stage.u 3 5 hd hk rfl [] (by kernel_rfl) rfl rfl rfl
 refine Stab.op_guard (o := _) rfl rfl rfl rfl s19 ?_
 have s7 := Stage.o hh (by kernel_rfl) s7
 clear hd
 go_simp
 exact hK.out _ rfl _ rfl)
 apply Stage.t 10 _ hf.size hok.out rfl (by kernel_rfl)
 · (
 intro fr1 w1 hh hd hk K hK
 have s19 := Stage.u 3 6 hd hk rfl [] (by kernel_rfl) rfl rfl rfl
 refine Stab.op_guard (o := _) rfl rfl rfl rfl s19 ?_
 have s25 := Stage.u 9 0 hd hk rfl [] (by kernel_rfl) rfl rfl rfl
 clear hd
 go_simp
 exact hK.out _ rfl _ rfl)
 apply Stage.t 11 _ hf.size hok.out rfl (by kernel_rfl)
 · (
 intro fr1 w1 hh hd hk K hK
 have s19 := Stage.u 3 7 hd hk rfl [] (by kernel_rfl) rfl rfl rfl
 refine Stab.op_guard (o := _) rfl rfl rfl rfl s19 ?_
 have s24 := Stage.u 8 2 hd hk rfl [] (by kernel_rfl) rfl rfl rfl
 have s26 := Stage.u 10 0 hd hk rfl [] (by kernel_rfl) rfl rfl rfl
 clear hd
 go_simp
 exact hK.out _ rfl _ rfl)
 apply Stage.todo_look (k := 12) (n := 49) 0 [] [] _ hf.size hok.out rfl (by kernel_rfl)
 · (
 intro fr1 w1 hh hw hd hk K hK
 replace hw : w1 = wr2.drew := hw
 subst hw
 have s19 := Stage.u 3 8 hd hk rfl [] (by kernel_rfl) rfl rfl rfl
 refine Stab.op_guard (o := _) rfl rfl rfl rfl s19 ?_
 have s27 := Stage.u 11 0 hd hk rfl [] (by kernel_rfl) rfl rfl rfl
 clear hd
 go_simp
 exact hK.out _ rfl _ _ rfl rfl)
 apply Stage.todo_look (k := 13) (n := 49) 0 [] [] _ hf.size hok.out rfl (by kernel_rfl)
 · (
 intro fr1 w1 hh hw hd hk K hK
 replace hw : w1 = wr2.drew := hw
 subst hw
 have s19 := Stage.u 3 9 hd hk rfl [] (by kernel_rfl) rfl rfl rfl
 refine Stab.op_guard (o := _) rfl rfl rfl rfl s19 ?_
 have s23 := Stage.u 7 5 hd hk rfl [] (by kernel_rfl) rfl rfl rfl
 have s28 := Stage.u 12 0 hd hk rfl [] (by kernel_rfl) rfl rfl rfl
 clear hd
 go_simp
 go_at_call 85; refine (less_any _ _ _).mono ?_; rintro e w2 ⟨rfl, rfl⟩
 exact hK.out _ rfl _ _ rfl rfl)
 apply Stage.t 14 _ hf.size hok.out rfl (by kernel_rfl)
 · (
 intro fr1 w1 hh hd hk K hK
 refine Stab.op_plain (o := _) rfl rfl ?_
 have s19 := Stage.u 3 10 hd hk rfl [] (by kernel_rfl) rfl rfl rfl
 have s29 := Stage.u 13 0 hd hk rfl [] (by kernel_rfl) rfl rfl rfl
 clear hd
 go_simp
 exact hK.out _ rfl _ rfl)
 refine Stage.todo_facts (n := 49) (by kernel_rfl) hf.size hok.out rfl (by decide) (by decide) rfl (fun fr1 w1 hh hg hw => ?_)
 replace hw : w1 = wr2.drew := hw
 subst hw
 replace s0 := Stage.o hh (by kernel_rfl) s0
 replace s1 := Stage.o hh (by kernel_rfl) s1
 replace s2 := Stage.o hh (by kernel_rfl) s2
 replace s6 := Stage.o hh (by kernel_rfl) s6
 replace s7 := Stage.o hh (by kernel_rfl) s7
 have s16 := Stage.e 0 14 hg rfl rfl rfl rfl
 have s17 := Stage.e 1 13 hg rfl rfl rfl rfl
 have s18 := Stage.e 2 12 hg rfl rfl rfl rfl
 have s19 := Stage.e 3 11 hg rfl rfl rfl rfl
 have s20 := Stage.e 4 10 hg rfl rfl rfl rfl
 have s21 := Stage.e 5 9 hg rfl rfl rfl rfl
 have s22 := Stage.e 6 8 hg rfl rfl rfl rfl
 have s23 := Stage.e 7 7 hg rfl rfl rfl rfl
 have s24 := Stage.e 8 6 hg rfl rfl rfl rfl
 have s25 := Stage.e 9 5 hg rfl rfl rfl rfl
 have s26 := Stage.e 10 4 hg rfl rfl rfl rfl
 have s27 := Stage.e 11 3 hg rfl rfl rfl rfl
 have s28 := Stage.e 12 2 hg rfl rfl rfl rfl
 have s29 := Stage.e 13 1 hg rfl rfl rfl rfl
 have s30 := Stage.e 14 0 hg rfl rfl rfl rfl
 have hf1 : Fact.Fr 49 fr1 := ⟨hh.size.trans hf.size, hh.defers.trans hf.defers⟩
 clear hg hh hf
 have hf := hf1; clear hf1
 clear hok
 have ha3 := ha2.drew; have ho3 := ho2.drew
 clear ha2 ho2 cx cy hfr
 generalize wr2.drew = wd at *
 refine Fact.nx (hK10 _ _ ?_)
 refine Fact.cond_f s30 ?_
 have hdone : SortedOn a (i + 1) zs2 := hnr.done haj (.inr (by rw [HX.out, Nat.add_sub_cancel, HY.out]; exact hxy))
 clear hnr
 refine wp_exit ?_
 refine Fact.then_exit ?_
 refine Fact.then_exit ?_
 refine Fact.block_exit ?_
 refine Fact.block_normal ?_
 refine Fact.nx (hK4 _ _ ?_)
 refine Fact.region ?_
 have b13 := hf.l 13 rfl
 have b14 := hf.l 14 rfl
 refine Fact.p rfl fun K hK => ?_
 go_simp
 refine hK.out _ _ ?_; clear hK K
 refine Fact.p rfl fun K hK => ?_
 go_simp
 try simp (disch := omega) only [Fact.wrap_i64, Fact.wrap_u8, Fact.wrap_u32, Fact.wrap_u64]
 refine hK.out _ _ ?_; clear hK K
 refine Fact.p rfl fun K hK => ?_
 go_simp
 refine hK.out _ _ ?_; clear hK K
 refine Fact.nil ?_
 refine Fact.q hf (by simp only [Fact.G]) rfl fun fr1 hf1 hT => ?_
 have hKp : _ ∧ _ ∧ _ ∧ _ ∧ _ ∧ _ ∧ _ ∧ _ ∧ _ ∧ _ ∧ _ ∧ _ ∧ _ ∧ _ ∧ _ ∧ _ ∧ _ ∧ _ ∧ _ ∧ _ ∧ _ ∧ _ := ⟨hT 0, hT 1, hT 2, hT 6, hT 7, hT 13, hT 14, hT 16, hT 17, hT 18, hT 19, hT 20, hT 21, hT 22, hT 23, hT 24, hT 25, hT 26, hT 27, hT 28, hT 29, hT 30⟩
 simp only [Fact.G, Nat.reduceEqDiff, Nat.reduceLT, hf.size, reduceIte, s0, s1, s2, s7, s16, s17, s18, s19, s20, s21, s22, s23, s24, s25, s26, s27, s28, s29, s30] at hKp
 clear hT hf s0 s1 s2 s6 s7 s16 s17 s18 s19 s20 s21 s22 s23 s24 s25 s26 s27 s28 s29 s30 b13 b14
 obtain ⟨s0, s1, s2, s6, s7, s13, s14, s16, s17, s18, s19, s20, s21, s22, s23, s24, s25, s26, s27, s28, s29, s30⟩ := hKp
 have hf := hf1; clear hf1
 refine Fact.then_normal ?_
 refine ⟨b + 1 - (i + 1), by have := HK.out; omega, i + 1, zs2, rfl, by omega, .inl (by omega), hf, s0, s1, s2, by rw [s6]; go_num, hsg2, hdone, ha3, ho3⟩))
 · (
 obtain rfl : gk2 = a := by omega
 have hgt : ¬ ((gk2 : Nat) : Int) < ((gk2 : Nat) : Int) := by omega
 have hdone : SortedOn gk2 (i + 1) zs2 := hnr.done haj (.inl rfl)
 clear hnr
 refine wp_seq_k (fun K11 hK11 => ?_)
 refine wp_seq_k (fun K12 hK12 => ?_)
 refine Stage.begin_ (n := 49) [] (fun k w1 => w1 = [wr2.drew].getD k (wr2.drew)) (Stab.OkOps.of (by kernel_rfl)) (fun hok => ?_)
 refine Stage.mvO (k := 0) s7 hf.size hok.out rfl rfl rfl (.inl rfl) (by kernel_rfl) (by kernel_rfl) ?_
 refine Stage.mvO (k := 1) s1 hf.size hok.out rfl rfl rfl (.inl rfl) (by kernel_rfl) (by kernel_rfl) ?_
 apply Stage.t 2 _ hf.size hok.out rfl (by kernel_rfl)
 · (
 intro fr1 w1 hh hd hk K hK
 refine Stab.op_plain (o := _) rfl rfl ?_
 have s16 := Stage.u 0 1 hd hk rfl [] (by kernel_rfl) rfl rfl rfl
 have s17 := Stage.u 1 0 hd hk rfl [] (by kernel_rfl) rfl rfl rfl
 clear hd
 go_simp
 exact hK.out _ rfl _ rfl)
 refine Stage.mvN (k := 3) (j := 2) (m := 0) hf.size hok.out rfl rfl rfl (.inl rfl) rfl [] (by kernel_rfl) rfl rfl rfl (by kernel_rfl) ?_
 apply Stage.t 4 _ hf.size hok.out rfl (by kernel_rfl)
 · (
 intro fr1 w1 hh hd hk K hK
 have s19 := Stage.u 3 0 hd hk rfl [] (by kernel_rfl) rfl rfl rfl
 refine Stab.op_skip (o := _) rfl rfl rfl rfl s19 ?_
 exact hK.out _ rfl _ rfl)
 apply Stage.t 5 _ hf.size hok.out rfl (by kernel_rfl)
 · (
 intro fr1 w1 hh hd hk K hK
 have s19 := Stage.u 3 1 hd hk rfl [] (by kernel_rfl) rfl rfl rfl
 refine Stab.op_skip (o := _) rfl rfl rfl rfl s19 ?_
 exact hK.out _ rfl _ rfl)
 apply Stage.t 6 _ hf.size hok.out rfl (by kernel_rfl)
 · (
 intro fr1 w1 hh hd hk K hK
 have s19 := Stage.u 3 2 hd hk rfl [] (by kernel_rfl) rfl rfl rfl
 refine Stab.op_skip (o := _) rfl rfl rfl rfl s19 ?_
 exact hK.out _ rfl _ rfl)
 apply Stage.t 7 _ hf.size hok.out rfl (by kernel_rfl)
 · (
 intro fr1 w1 hh hd hk K hK
 have s19 := Stage.u 3 3 hd hk rfl [] (by kernel_rfl) rfl rfl rfl
 refine Stab.op_skip (o := _) rfl rfl rfl rfl s19 ?_
 exact hK.out _ rfl _ rfl)
 apply Stage.t 8 _ hf.size hok.out rfl (by kernel_rfl)
 · (
 intro fr1 w1 hh hd hk K hK
 have s19 := Stage.u 3 4 hd hk rfl [] (by kernel_rfl) rfl rfl rfl
 refine Stab.op_skip (o := _) rfl rfl rfl rfl s19 ?_
 exact hK.out _ rfl _ rfl)
 apply Stage.t 9 _ hf.size hok.out rfl (by kernel_rfl)
 · (
 intro fr1 w1 hh hd hk K hK
 have s19 := Stage.u 3 5 hd hk rfl [] (by kernel_rfl) rfl rfl rfl
 refine Stab.op_skip (o := _) rfl rfl rfl rfl s19 ?_
 exact hK.out _ rfl _ rfl)
 apply Stage.t 10 _ hf.size hok.out rfl (by kernel_rfl)
 · (
 intro fr1 w1 hh hd hk K hK
 have s19 := Stage.u 3 6 hd hk rfl [] (by kernel_rfl) rfl rfl rfl
 refine Stab.op_skip (o := _) rfl rfl rfl rfl s19 ?_
 exact hK.out _ rfl _ rfl)
 apply Stage.t 11 _ hf.size hok.out rfl (by kernel_rfl)
 · (
 intro fr1 w1 hh hd hk K hK
 have s19 := Stage.u 3 7 hd hk rfl [] (by kernel_rfl) rfl rfl rfl
 refine Stab.op_skip (o := _) rfl rfl rfl rfl s19 ?_
 exact hK.out _ rfl _ rfl)
 apply Stage.t 12 _ hf.size hok.out rfl (by kernel_rfl)
 · (
 intro fr1 w1 hh hd hk K hK
 have s19 := Stage.u 3 8 hd hk rfl [] (by kernel_rfl) rfl rfl rfl
 refine Stab.op_skip (o := _) rfl rfl rfl rfl s19 ?_
 exact hK.out _ rfl _ rfl)
 apply Stage.t 13 _ hf.size hok.out rfl (by kernel_rfl)
 · (
 intro fr1 w1 hh hd hk K hK
 have s19 := Stage.u 3 9 hd hk rfl [] (by kernel_rfl) rfl rfl rfl
 refine Stab.op_skip (o := _) rfl rfl rfl rfl s19 ?_
 exact hK.out _ rfl _ rfl)
 apply Stage.t 14 _ hf.size hok.out rfl (by kernel_rfl)
 · (
 intro fr1 w1 hh hd hk K hK
 refine Stab.op_plain (o := _) rfl rfl ?_
 have s19 := Stage.u 3 10 hd hk rfl [] (by kernel_rfl) rfl rfl rfl
 have s29 := Stage.u 13 0 hd hk rfl [] (by kernel_rfl) rfl rfl rfl
 clear hd
 go_simp
 exact hK.out _ rfl _ rfl)
 refine Stage.todo_facts (n := 49) (by kernel_rfl) hf.size hok.out rfl (by decide) (by decide) rfl (fun fr1 w1 hh hg hw => ?_)
 replace hw : w1 = wr2.drew := hw
 subst hw
 replace s0 := Stage.o hh (by kernel_rfl) s0
 replace s1 := Stage.o hh (by kernel_rfl) s1
 replace s2 := Stage.o hh (by kernel_rfl) s2
 replace s6 := Stage.o hh (by kernel_rfl) s6
 replace s7 := Stage.o hh (by kernel_rfl) s7
 have s16 := Stage.e 0 14 hg rfl rfl rfl rfl
 have s17 := Stage.e 1 13 hg rfl rfl rfl rfl
 have s18 := Stage.e 2 12 hg rfl rfl rfl rfl
 have s19 := Stage.e 3 11 hg rfl rfl rfl rfl
 have s20 := Stage.e 4 10 hg rfl rfl rfl rfl
 have s21 := Stage.e 5 9 hg rfl rfl rfl rfl
 have s22 := Stage.e 6 8 hg rfl rfl rfl rfl
 have s23 := Stage.e 7 7 hg rfl rfl rfl rfl
 have s24 := Stage.e 8 6 hg rfl rfl rfl rfl
 have s25 := Stage.e 9 5 hg rfl rfl rfl rfl
 have s26 := Stage.e 10 4 hg rfl rfl rfl rfl
 have s27 := Stage.e 11 3 hg rfl rfl rfl rfl
 have s28 := Stage.e 12 2 hg rfl rfl rfl rfl
 have s29 := Stage.e 13 1 hg rfl rfl rfl rfl
 have s30 := Stage.e 14 0 hg rfl rfl rfl rfl
 have hf1 : Fact.Fr 49 fr1 := ⟨hh.size.trans hf.size, hh.defers.trans hf.defers⟩
 clear hg hh hf
 have hf := hf1; clear hf1
 clear hok
 have ha3 := ha2.drew; have ho3 := ho2.drew
 clear ha2 ho2
 generalize wr2.drew = wd at *
 refine Fact.nx (hK12 _ _ ?_)
 refine Fact.cond_f s30 ?_
 refine wp_exit ?_
 refine Fact.then_exit ?_
 refine Fact.then_exit ?_
 refine Fact.block_exit ?_
 refine Fact.block_normal ?_
 refine Fact.nx (hK4 _ _ ?_)
 refine Fact.region ?_
 have b13 := hf.l 13 rfl
 have b14 := hf.l 14 rfl
 refine Fact.p rfl fun K hK => ?_
 go_simp
 refine hK.out _ _ ?_; clear hK K
 refine Fact.p rfl fun K hK => ?_
 go_simp
 try simp (disch := omega) only [Fact.wrap_i64, Fact.wrap_u8, Fact.wrap_u32, Fact.wrap_u64]
 refine hK.out _ _ ?_; clear hK K
 refine Fact.p rfl fun K hK => ?_
 go_simp
 refine hK.out _ _ ?_; clear hK K
 refine Fact.nil ?_
 refine Fact.q hf (by simp only [Fact.G]) rfl fun fr1 hf1 hT => ?_
 have hKp : _ ∧ _ ∧ _ ∧ _ ∧ _ ∧ _ ∧ _ ∧ _ ∧ _ ∧ _ ∧ _ ∧ _ ∧ _ ∧ _ ∧ _ ∧ _ ∧ _ ∧ _ ∧ _ ∧ _ ∧ _ ∧ _ := ⟨hT 0, hT 1, hT 2, hT 6, hT 7, hT 13, hT 14, hT 16, hT 17, hT 18, hT 19, hT 20, hT 21, hT 22, hT 23, hT 24, hT 25, hT 26, hT 27, hT 28, hT 29, hT 30⟩
 simp only [Fact.G, Nat.reduceEqDiff, Nat.reduceLT, hf.size, reduceIte, s0, s1, s2, s7, s16, s17, s18, s19, s20, s21, s22, s23, s24, s25, s26, s27, s28, s29, s30] at hKp
 clear hT hf s0 s1 s2 s6 s7 s16 s17 s18 s19 s20 s21 s22 s23 s24 s25 s26 s27 s28 s29 s30 b13 b14
 obtain ⟨s0, s1, s2, s6, s7, s13, s14, s16, s17, s18, s19, s20, s21, s22, s23, s24, s25, s26, s27, s28, s29, s30⟩ := hKp
 have hf := hf1; clear hf1
 refine Fact.then_normal ?_
 refine ⟨b + 1 - (i + 1), by have := HK.out; omega, i + 1, zs2, rfl, by omega, .inl (by omega), hf, s0, s1, s2, by rw [s6]; go_num, hsg2, hdone, ha3, ho3⟩)))
 · (
 have hii : ¬ (i : Int) < (b : Int) := by omega
 refine wp_seq_k (fun K13 hK13 => ?_)
 refine wp_seq_k (fun K14 hK14 => ?_)
 refine Fact.region ?_
 have b10 := hf.l 10 rfl
 have b11 := hf.l 11 rfl
 refine Fact.p rfl fun K hK => ?_
 go_simp
 refine hK.out _ _ ?_; clear hK K
 refine Fact.p rfl fun K hK => ?_
 go_simp
 refine hK.out _ _ ?_; clear hK K
 refine Fact.p rfl fun K hK => ?_
 go_simp
 refine hK.out _ _ ?_; clear hK K
 refine Fact.nil ?_
 refine Fact.q hf (by simp only [Fact.G]) rfl fun fr1 hf1 hT => ?_
 have hKp : _ ∧ _ ∧ _ ∧ _ ∧ _ ∧ _ ∧ _ := ⟨hT 0, hT 1, hT 2, hT 6, hT 10, hT 11, hT 12⟩
 simp only [Fact.G, Nat.reduceEqDiff, Nat.reduceLT, hf.size, reduceIte, s0, s1, s2, s6] at hKp
 clear hT hf s0 s1 s2 s6 b10 b11
 obtain ⟨s0, s1, s2, s6, s10, s11, s12⟩ := hKp
 have hf := hf1; clear hf1
 refine Fact.nx (hK14 _ _ ?_)
 refine Fact.cond_f s12 ?_
 refine wp_exit ?_
 refine Fact.then_exit ?_
 refine Fact.then_exit ?_
 refine Fact.block_exit ?_
 exact Fact.end0 rfl hf ⟨rfl, ys, hsg, fun p q h1 h2 h3 => hso p q h1 h2 (by omega), ha, ho⟩))
end Sb
end Go.Proofs.Ytfgfichkcckhiaa
