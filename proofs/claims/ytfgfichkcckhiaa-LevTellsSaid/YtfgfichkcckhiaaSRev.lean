/- slices.reverseRangeOrdered at bytes. -/
import Derived.Test.YtfgfichkcckhiaaSCmp
namespace Go.Proofs.Ytfgfichkcckhiaa
open Go.RowKit
set_option linter.unusedSimpArgs false
set_option linter.unusedVariables false
set_option linter.unnecessarySimpa false
namespace Sb
set_option maxHeartbeats 4000000 in
set_option maxRecDepth 100000 in
theorem rev_any (zs : List Int) (g n c a b : Nat) (w : World) (hn : zs.length = n) (hnl : n ≤ 400000000) (hab : a ≤ b) (hb : b ≤ n) (h : Arr w g zs) : Calls Try.prog 83 #[.slice (some ⟨g, 0, none⟩) n c, .int .i64 a, .int .i64 b] w fun e w1 => e = .returned (.tuple #[]) ∧ ∃ ys, Segm a b zs ys ∧ Arr w1 g ys ∧ Only w w1 g := by
 refine calls_of_wp Try.func83 rfl ?_
 refine Fact.enter (n := 32) (by kernel_rfl) (fun fr hf hT => ?_)
 have s0 := hT 0 _ rfl
 have s1 := hT 1 _ rfl
 have s2 := hT 2 _ rfl
 clear hT
 have e1 : IntKind.i64.wrap ((b : Int) - 1) = (b : Int) - 1 := Fact.wrap_i64 (by omega) (by omega)
 refine wp_seq_k (fun K1 hK1 => ?_)
 refine Fact.region ?_
 have b8 := hf.l 8 rfl
 refine Fact.p rfl fun K hK => ?_
 go_simp
 refine hK.out _ _ ?_; clear hK K
 refine Fact.p rfl fun K hK => ?_
 go_simp
 refine hK.out _ _ ?_; clear hK K
 refine Fact.nil ?_
 refine Fact.q hf (by simp only [Fact.G]) rfl fun fr1 hf1 hT => ?_
 have hKp : _ ∧ _ ∧ _ := ⟨hT 0, hT 2, hT 6⟩
 simp only [Fact.G, Nat.reduceEqDiff, Nat.reduceLT, hf.size, reduceIte, s0, s2] at hKp
 clear hT hf s0 s1 s2 b8
 obtain ⟨s0, s2, s6⟩ := hKp
 have hf := hf1; clear hf1
 refine Fact.nx (hK1 _ _ ?_)
 refine wp_seq_k (fun K2 hK2 => ?_)
 refine Fact.region ?_
 have b9 := hf.l 9 rfl
 have b10 := hf.l 10 rfl
 refine Fact.p rfl fun K hK => ?_
 go_simp
 refine hK.out _ _ ?_; clear hK K
 refine Fact.p rfl fun K hK => ?_
 go_simp
 try simp (disch := omega) only [Fact.wrap_i64, Fact.wrap_u8, Fact.wrap_u32, Fact.wrap_u64]
 refine hK.out _ _ ?_; clear hK K
 refine Fact.p rfl fun K hK => ?_
 go_simp
 refine hK.out _ _ ?_; clear hK K
 refine Fact.nil ?_
 refine Fact.q hf (by simp only [Fact.G]) rfl fun fr1 hf1 hT => ?_
 have hKp : _ ∧ _ ∧ _ := ⟨hT 0, hT 6, hT 7⟩
 simp only [Fact.G, Nat.reduceEqDiff, Nat.reduceLT, hf.size, reduceIte, s0, s6] at hKp
 clear hT hf s0 s2 s6 b9 b10
 obtain ⟨s0, s6, s7⟩ := hKp
 have hf := hf1; clear hf1
 refine Fact.nx (hK2 _ _ ?_)
 refine wp_block ?_
 refine wp_loop_ghost (fun gk fr wr => ∃ (i m : Nat) (ys : List Int), gk = b - i ∧ a ≤ i ∧ i ≤ b ∧ m ≤ b ∧ Fact.Fr 32 fr ∧ fr.tmps[0]? = some (.slice (some ⟨g, 0, none⟩) n c) ∧ fr.tmps[6]? = some (.int .i64 i) ∧ fr.tmps[7]? = some (.int .i64 ((m : Int) - 1)) ∧ Segm a b zs ys ∧ Arr wr g ys ∧ Only w wr g) (b - a) ?_ ?_
 · (
 exact ⟨a, b, zs, rfl, Nat.le_refl _, hab, Nat.le_refl _, hf, s0, s6, by rw [s7], Segm.refl _ _ _, h, Only.refl _ _⟩)
 · (
 clear hf s0 s6 s7
 rintro gk fr wr ⟨i, m, ys, hk, hai, hib, hmb, hf, s0, s6, s7, hsg, ha, ho⟩
 have HYL := Lib.hid hsg.len
 have HK := Lib.hid hk; clear hk
 by_cases hlt : i + 1 < m
 · (
 obtain ⟨q, rfl⟩ : ∃ q, m = q + 1 := ⟨m - 1, by omega⟩
 rw [show ((q + 1 : Nat) : Int) - 1 = (q : Int) by omega] at s7
 have hiq : i < q := by omega
 have e2 : IntKind.i64.wrap ((i : Int) + 1) = (i : Int) + 1 := Fact.wrap_i64 (by omega) (by omega)
 have e3 : IntKind.i64.wrap ((q : Int) - 1) = (q : Int) - 1 := Fact.wrap_i64 (by omega) (by omega)
 have b1 : i < n := by omega
 have b2 : q < n := by omega
 obtain ⟨x, hx⟩ : ∃ v, ys[i]? = some v := ⟨ys[i]'(by have := HYL.out; omega), List.getElem?_eq_getElem _⟩
 have Hxd := Lib.hid (show ys.getD (i) 0 = x by simp [List.getD, hx])
 have Hx := Lib.hid hx
 clear hx
 obtain ⟨y, hy⟩ : ∃ v, ys[q]? = some v := ⟨ys[q]'(by have := HYL.out; omega), List.getElem?_eq_getElem _⟩
 have Hyd := Lib.hid (show ys.getD (q) 0 = y by simp [List.getD, hy])
 have Hy := Lib.hid hy
 clear hy
 refine wp_seq_k (fun K3 hK3 => ?_)
 refine wp_seq_k (fun K4 hK4 => ?_)
 refine Fact.region ?_
 have b11 := hf.l 11 rfl
 have b12 := hf.l 12 rfl
 refine Fact.p rfl fun K hK => ?_
 go_simp
 refine hK.out _ _ ?_; clear hK K
 refine Fact.p rfl fun K hK => ?_
 go_simp
 refine hK.out _ _ ?_; clear hK K
 refine Fact.p rfl fun K hK => ?_
 go_simp
 refine hK.out _ _ ?_; clear hK K
 refine Fact.nil ?_
 refine Fact.q hf (by simp only [Fact.G]) rfl fun fr1 hf1 hT => ?_
 have hKp : _ ∧ _ ∧ _ ∧ _ ∧ _ ∧ _ := ⟨hT 0, hT 6, hT 7, hT 11, hT 12, hT 13⟩
 simp only [Fact.G, Nat.reduceEqDiff, Nat.reduceLT, hf.size, reduceIte, s0, s6, s7] at hKp
 clear hT hf s0 s6 s7 b11 b12
 obtain ⟨s0, s6, s7, s11, s12, s13⟩ := hKp
 have hf := hf1; clear hf1
 refine Fact.nx (hK4 _ _ ?_)
 refine Fact.cond_t s13 ?_
 have cx := ha.cell Hx.out; have cy := ha.cell Hy.out; have hfr := fun k => ha.frozen k
 have A1 := Lib.hid (ha.drew.set_ (i) y)
 have A0 := Lib.hid (ha.set_ (i) y)
 have C1 := A0.out.cell (i := q) (x := y) (set_get Hy.out)
 have F1 := A0.out.frozen (q)
 have A2 := Lib.hid (A1.out.set_ (q) x)
 have O2 := Lib.hid ((ho.drew.set_ (p := ⟨g, i, none⟩) (.inl rfl) (.int .u8 y)).set_ (p := ⟨g, q, none⟩) (.inl rfl) (.int .u8 x))
 clear ho ha
 refine wp_skip ?_
 refine Fact.nx (hK3 _ _ ?_)
 refine wp_block ?_
 refine wp_seq_k (fun K5 hK5 => ?_)
 refine Stage.begin_ (n := 32) [13, 15] (fun k w1 => w1 = [wr.drew, (wr.drew.setCell ⟨g, i, none⟩ (.int .u8 y)), ((wr.drew.setCell ⟨g, i, none⟩ (.int .u8 y)).setCell ⟨g, q, none⟩ (.int .u8 x))].getD k (wr.drew)) (Stab.OkOps.of (by kernel_rfl)) (fun hok => ?_)
 refine Stage.mvO (k := 0) s0 hf.size hok.out rfl rfl rfl (.inl rfl) (by kernel_rfl) (by kernel_rfl) ?_
 refine Stage.mvO (k := 1) s6 hf.size hok.out rfl rfl rfl (.inl rfl) (by kernel_rfl) (by kernel_rfl) ?_
 refine Stage.mvO (k := 2) s0 hf.size hok.out rfl rfl rfl (.inl rfl) (by kernel_rfl) (by kernel_rfl) ?_
 refine Stage.mvO (k := 3) s7 hf.size hok.out rfl rfl rfl (.inl rfl) (by kernel_rfl) (by kernel_rfl) ?_
 refine Stage.mvO (k := 4) s0 hf.size hok.out rfl rfl rfl (.inl rfl) (by kernel_rfl) (by kernel_rfl) ?_
 refine Stage.mvO (k := 5) s7 hf.size hok.out rfl rfl rfl (.inl rfl) (by kernel_rfl) (by kernel_rfl) ?_
 apply Stage.t 6 _ hf.size hok.out rfl (by kernel_rfl)
 · (
 intro fr1 w1 hh hd hk K hK
 refine Stab.op_plain (o := _) rfl rfl ?_
 have s18 := Stage.u 4 1 hd hk rfl [] (by kernel_rfl) rfl rfl rfl
 have s19 := Stage.u 5 0 hd hk rfl [] (by kernel_rfl) rfl rfl rfl
 clear hd
 go_simp
 exact hK.out _ rfl _ rfl)
 apply Stage.todo_look (k := 7) (n := 32) 0 [] [] _ hf.size hok.out rfl (by kernel_rfl)
 · (
 intro fr1 w1 hh hw hd hk K hK
 replace hw : w1 = wr.drew := hw
 subst hw
 refine Stab.op_plain (o := _) rfl rfl ?_
 have s20 := Stage.u 6 0 hd hk rfl [] (by kernel_rfl) rfl rfl rfl
 clear hd
 go_simp
 exact hK.out _ rfl _ _ rfl rfl)
 refine Stage.mvO (k := 8) s0 hf.size hok.out rfl rfl rfl (.inl rfl) (by kernel_rfl) (by kernel_rfl) ?_
 refine Stage.mvO (k := 9) s6 hf.size hok.out rfl rfl rfl (.inl rfl) (by kernel_rfl) (by kernel_rfl) ?_
 apply Stage.t 10 _ hf.size hok.out rfl (by kernel_rfl)
 · (
 intro fr1 w1 hh hd hk K hK
 refine Stab.op_plain (o := _) rfl rfl ?_
 have s22 := Stage.u 8 1 hd hk rfl [] (by kernel_rfl) rfl rfl rfl
 have s23 := Stage.u 9 0 hd hk rfl [] (by kernel_rfl) rfl rfl rfl
 clear hd
 go_simp
 exact hK.out _ rfl _ rfl)
 apply Stage.todo_look (k := 11) (n := 32) 0 [] [] _ hf.size hok.out rfl (by kernel_rfl)
 · (
 intro fr1 w1 hh hw hd hk K hK
 replace hw : w1 = wr.drew := hw
 subst hw
 refine Stab.op_plain (o := _) rfl rfl ?_
 have s24 := Stage.u 10 0 hd hk rfl [] (by kernel_rfl) rfl rfl rfl
 clear hd
 go_simp
 exact hK.out _ rfl _ _ rfl rfl)
 apply Stage.t 12 _ hf.size hok.out rfl (by kernel_rfl)
 · (
 intro fr1 w1 hh hd hk K hK
 refine Stab.op_plain (o := _) rfl rfl ?_
 have s14 := Stage.u 0 11 hd hk rfl [] (by kernel_rfl) rfl rfl rfl
 have s15 := Stage.u 1 10 hd hk rfl [] (by kernel_rfl) rfl rfl rfl
 clear hd
 go_simp
 exact hK.out _ rfl _ rfl)
 refine Stage.todo_lead (k := 13) (n := 32) 0 [] (fun _ => True) hf.size hok.out rfl (by kernel_rfl) ?_ ?_
 · (
 intro fr1 w1 hh hw hd hk K hK
 replace hw : w1 = wr.drew := hw
 subst hw
 refine Stab.op_plain (o := _) rfl rfl ?_
 have s26 := Stage.u 12 0 hd hk rfl [] (by kernel_rfl) rfl rfl rfl
 have s21 := Stage.u 7 5 hd hk rfl [] (by kernel_rfl) rfl rfl rfl
 clear hd
 go_simp
 exact hK.out _ rfl undef _ rfl trivial)
 apply Stage.t 14 _ hf.size hok.out rfl (by kernel_rfl)
 · (
 intro fr1 w1 hh hd hk K hK
 refine Stab.op_plain (o := _) rfl rfl ?_
 have s16 := Stage.u 2 11 hd hk rfl [] (by kernel_rfl) rfl rfl rfl
 have s17 := Stage.u 3 10 hd hk rfl [] (by kernel_rfl) rfl rfl rfl
 clear hd
 go_simp
 exact hK.out _ rfl _ rfl)
 refine Stage.todo_lead (k := 15) (n := 32) 1 [] (fun _ => True) hf.size hok.out rfl (by kernel_rfl) ?_ ?_
 · (
 intro fr1 w1 hh hw hd hk K hK
 replace hw : w1 = (wr.drew.setCell ⟨g, i, none⟩ (.int .u8 y)) := hw
 subst hw
 refine Stab.op_plain (o := _) rfl rfl ?_
 have s27 := Stage.u 14 0 hd hk rfl [] (by kernel_rfl) rfl rfl rfl
 have s25 := Stage.u 11 3 hd hk rfl [] (by kernel_rfl) rfl rfl rfl
 clear hd
 go_simp
 exact hK.out _ rfl undef _ rfl trivial)
 refine Stage.todo_facts (n := 32) (by kernel_rfl) hf.size hok.out rfl (by decide) (by decide) rfl (fun fr1 w1 hh hg hw => ?_)
 replace hw : w1 = ((wr.drew.setCell ⟨g, i, none⟩ (.int .u8 y)).setCell ⟨g, q, none⟩ (.int .u8 x)) := hw
 subst hw
 replace s0 := Stage.o hh (by kernel_rfl) s0
 replace s6 := Stage.o hh (by kernel_rfl) s6
 replace s7 := Stage.o hh (by kernel_rfl) s7
 replace s11 := Stage.o hh (by kernel_rfl) s11
 replace s12 := Stage.o hh (by kernel_rfl) s12
 replace s13 := Stage.o hh (by kernel_rfl) s13
 have s14 := Stage.e 0 15 hg rfl rfl rfl rfl
 have s15 := Stage.e 1 14 hg rfl rfl rfl rfl
 have s16 := Stage.e 2 13 hg rfl rfl rfl rfl
 have s17 := Stage.e 3 12 hg rfl rfl rfl rfl
 have s18 := Stage.e 4 11 hg rfl rfl rfl rfl
 have s19 := Stage.e 5 10 hg rfl rfl rfl rfl
 have s20 := Stage.e 6 9 hg rfl rfl rfl rfl
 have s21 := Stage.e 7 8 hg rfl rfl rfl rfl
 have s22 := Stage.e 8 7 hg rfl rfl rfl rfl
 have s23 := Stage.e 9 6 hg rfl rfl rfl rfl
 have s24 := Stage.e 10 5 hg rfl rfl rfl rfl
 have s25 := Stage.e 11 4 hg rfl rfl rfl rfl
 have s26 := Stage.e 12 3 hg rfl rfl rfl rfl
 have s27 := Stage.e 14 1 hg rfl rfl rfl rfl
 have hf1 : Fact.Fr 32 fr1 := ⟨hh.size.trans hf.size, hh.defers.trans hf.defers⟩
 clear hg hh hf
 have hf := hf1; clear hf1
 clear hok
 have ha3 := A2.out; rw [show (ys.set i y).set q x = swap ys i q by unfold swap; rw [Hxd.out, Hyd.out]] at ha3
 have ho3 := O2.out
 clear A0 A1 A2 O2 C1 F1 cx cy hfr
 refine Fact.nx (hK5 _ _ ?_)
 refine wp_seq_k (fun K6 hK6 => ?_)
 refine Fact.region ?_
 have b28 := hf.l 28 rfl
 have b29 := hf.l 29 rfl
 refine Fact.p rfl fun K hK => ?_
 go_simp
 refine hK.out _ _ ?_; clear hK K
 refine Fact.p rfl fun K hK => ?_
 go_simp
 try simp (disch := omega) only [Fact.wrap_i64, Fact.wrap_u8, Fact.wrap_u32, Fact.wrap_u64]
 refine hK.out _ _ ?_; clear hK K
 refine Fact.p rfl fun K hK => ?_
 go_simp
 refine hK.out _ _ ?_; clear hK K
 refine Fact.nil ?_
 refine Fact.q hf (by simp only [Fact.G]) rfl fun fr1 hf1 hT => ?_
 have hKp : _ ∧ _ ∧ _ ∧ _ ∧ _ ∧ _ ∧ _ ∧ _ ∧ _ ∧ _ ∧ _ ∧ _ ∧ _ ∧ _ ∧ _ ∧ _ ∧ _ ∧ _ ∧ _ ∧ _ ∧ _ ∧ _ := ⟨hT 0, hT 6, hT 7, hT 11, hT 12, hT 13, hT 14, hT 15, hT 16, hT 17, hT 18, hT 19, hT 20, hT 21, hT 22, hT 23, hT 24, hT 25, hT 26, hT 27, hT 28, hT 29⟩
 simp only [Fact.G, Nat.reduceEqDiff, Nat.reduceLT, hf.size, reduceIte, s0, s7, s11, s12, s13, s14, s15, s16, s17, s18, s19, s20, s21, s22, s23, s24, s25, s26, s27] at hKp
 clear hT hf s0 s6 s7 s11 s12 s13 s14 s15 s16 s17 s18 s19 s20 s21 s22 s23 s24 s25 s26 s27 b28 b29
 obtain ⟨s0, s6, s7, s11, s12, s13, s14, s15, s16, s17, s18, s19, s20, s21, s22, s23, s24, s25, s26, s27, s28, s29⟩ := hKp
 have hf := hf1; clear hf1
 refine Fact.nx (hK6 _ _ ?_)
 refine Fact.region ?_
 have b30 := hf.l 30 rfl
 have b31 := hf.l 31 rfl
 refine Fact.p rfl fun K hK => ?_
 go_simp
 refine hK.out _ _ ?_; clear hK K
 refine Fact.p rfl fun K hK => ?_
 go_simp
 try simp (disch := omega) only [Fact.wrap_i64, Fact.wrap_u8, Fact.wrap_u32, Fact.wrap_u64]
 refine hK.out _ _ ?_; clear hK K
 refine Fact.p rfl fun K hK => ?_
 go_simp
 refine hK.out _ _ ?_; clear hK K
 refine Fact.nil ?_
 refine Fact.q hf (by simp only [Fact.G]) rfl fun fr1 hf1 hT => ?_
 have hKp : _ ∧ _ ∧ _ ∧ _ ∧ _ ∧ _ ∧ _ ∧ _ ∧ _ ∧ _ ∧ _ ∧ _ ∧ _ ∧ _ ∧ _ ∧ _ ∧ _ ∧ _ ∧ _ ∧ _ ∧ _ ∧ _ ∧ _ ∧ _ := ⟨hT 0, hT 6, hT 7, hT 11, hT 12, hT 13, hT 14, hT 15, hT 16, hT 17, hT 18, hT 19, hT 20, hT 21, hT 22, hT 23, hT 24, hT 25, hT 26, hT 27, hT 28, hT 29, hT 30, hT 31⟩
 simp only [Fact.G, Nat.reduceEqDiff, Nat.reduceLT, hf.size, reduceIte, s0, s6, s11, s12, s13, s14, s15, s16, s17, s18, s19, s20, s21, s22, s23, s24, s25, s26, s27, s28, s29] at hKp
 clear hT hf s0 s6 s7 s11 s12 s13 s14 s15 s16 s17 s18 s19 s20 s21 s22 s23 s24 s25 s26 s27 s28 s29 b30 b31
 obtain ⟨s0, s6, s7, s11, s12, s13, s14, s15, s16, s17, s18, s19, s20, s21, s22, s23, s24, s25, s26, s27, s28, s29, s30, s31⟩ := hKp
 have hf := hf1; clear hf1
 refine Fact.block_normal ?_
 refine Fact.then_normal ?_
 exact ⟨b - (i + 1), by have := HK.out; omega, i + 1, q, swap ys i q, rfl, by omega, by omega, by omega, hf, s0, by rw [s6]; go_num, s7, hsg.swap (by omega) (by omega) (by omega) (by omega), ha3, ho3⟩)
 · (
 have hlt : ¬ (i : Int) < (m : Int) - 1 := by omega
 refine wp_seq_k (fun K7 hK7 => ?_)
 refine wp_seq_k (fun K8 hK8 => ?_)
 refine Fact.region ?_
 have b11 := hf.l 11 rfl
 have b12 := hf.l 12 rfl
 refine Fact.p rfl fun K hK => ?_
 go_simp
 refine hK.out _ _ ?_; clear hK K
 refine Fact.p rfl fun K hK => ?_
 go_simp
 refine hK.out _ _ ?_; clear hK K
 refine Fact.p rfl fun K hK => ?_
 go_simp
 refine hK.out _ _ ?_; clear hK K
 refine Fact.nil ?_
 refine Fact.q hf (by simp only [Fact.G]) rfl fun fr1 hf1 hT => ?_
 have hKp : _ ∧ _ ∧ _ ∧ _ ∧ _ ∧ _ := ⟨hT 0, hT 6, hT 7, hT 11, hT 12, hT 13⟩
 simp only [Fact.G, Nat.reduceEqDiff, Nat.reduceLT, hf.size, reduceIte, s0, s6, s7] at hKp
 clear hT hf s0 s6 s7 b11 b12
 obtain ⟨s0, s6, s7, s11, s12, s13⟩ := hKp
 have hf := hf1; clear hf1
 refine Fact.nx (hK8 _ _ ?_)
 refine Fact.cond_f s13 ?_
 refine wp_exit ?_
 refine Fact.then_exit ?_
 refine Fact.then_exit ?_
 refine Fact.block_exit ?_
 exact Fact.end0 rfl hf ⟨rfl, ys, hsg, ha, ho⟩))
end Sb
end Go.Proofs.Ytfgfichkcckhiaa
