/- slices.partitionOrdered at bytes. -/
import Derived.Test.YtfgfichkcckhiaaSCmp
import Derived.Test.YtfgfichkcckhiaaSPart0
namespace Go.Proofs.Ytfgfichkcckhiaa
open Go.RowKit
set_option linter.unusedSimpArgs false
set_option linter.unusedVariables false
set_option linter.unnecessarySimpa false
namespace Sb
set_option maxHeartbeats 4000000 in
set_option maxRecDepth 100000 in
theorem part_any (zs : List Int) (g n c a b p : Nat) (w : World) (hn : zs.length = n) (hnl : n ≤ 400000000) (hap : a ≤ p) (hpb : p < b) (hb : b ≤ n) (h : Arr w g zs) : Calls Try.prog 87 #[.slice (some ⟨g, 0, none⟩) n c, .int .i64 a, .int .i64 b, .int .i64 p] w fun e w1 => ∃ (m : Nat) (q : Bool) (ys : List Int), e = .returned (.tuple #[.int .i64 m, .bool q]) ∧ a ≤ m ∧ m < b ∧ Segm a b zs ys ∧ (∀ k, a ≤ k → k < m → ys.getD k 0 ≤ ys.getD m 0) ∧ (∀ k, m < k → k < b → ys.getD m 0 ≤ ys.getD k 0) ∧ Arr w1 g ys ∧ Only w w1 g := by
 refine calls_of_wp Try.func87 rfl ?_
 refine Fact.enter (n := 168) (by kernel_rfl) (fun fr hf hT => ?_)
 have s0 := hT 0 _ rfl
 have s1 := hT 1 _ rfl
 have s2 := hT 2 _ rfl
 have s3 := hT 3 _ rfl
 clear hT
 have HN := Lib.hid hn
 have b1 : a < n := by omega
 have b2 : p < n := by omega
 obtain ⟨x, hx⟩ : ∃ v, zs[a]? = some v := ⟨zs[a]'(by omega), List.getElem?_eq_getElem _⟩
 have Hxd := Lib.hid (show zs.getD (a) 0 = x by simp [List.getD, hx])
 have Hx := Lib.hid hx
 clear hx
 obtain ⟨y, hy⟩ : ∃ v, zs[p]? = some v := ⟨zs[p]'(by omega), List.getElem?_eq_getElem _⟩
 have Hyd := Lib.hid (show zs.getD (p) 0 = y by simp [List.getD, hy])
 have Hy := Lib.hid hy
 clear hy
 clear hn
 have ho := Only.refl w g
 have cx := h.cell Hx.out; have cy := h.cell Hy.out; have hfr := fun k => h.frozen k
 have A1 := Lib.hid (h.drew.set_ (a) y)
 have A0 := Lib.hid (h.set_ (a) y)
 have C1 := A0.out.cell (i := p) (x := y) (set_get Hy.out)
 have F1 := A0.out.frozen (p)
 have A2 := Lib.hid (A1.out.set_ (p) x)
 have O2 := Lib.hid ((ho.drew.set_ (p := ⟨g, a, none⟩) (.inl rfl) (.int .u8 y)).set_ (p := ⟨g, p, none⟩) (.inl rfl) (.int .u8 x))
 clear ho h
 refine wp_seq_k (fun K1 hK1 => ?_)
 refine Fact.region ?_
 refine Fact.p rfl fun K hK => ?_
 go_simp
 refine hK.out _ _ ?_; clear hK K
 refine Fact.p rfl fun K hK => ?_
 go_simp
 refine hK.out _ _ ?_; clear hK K
 refine Fact.nil ?_
 refine Fact.q hf (by simp only [Fact.G]) rfl fun fr1 hf1 hT => ?_
 have hKp : _ ∧ _ ∧ _ ∧ _ ∧ _ ∧ _ := ⟨hT 0, hT 1, hT 2, hT 3, hT 8, hT 9⟩
 simp only [Fact.G, Nat.reduceEqDiff, Nat.reduceLT, hf.size, reduceIte, s0, s1, s2, s3] at hKp
 clear hT hf s0 s1 s2 s3
 obtain ⟨s0, s1, s2, s3, s8, s9⟩ := hKp
 have hf := hf1; clear hf1
 refine Fact.nx (hK1 _ _ ?_)
 refine wp_seq_k (fun K2 hK2 => ?_)
 refine Stage.begin_ (n := 168) [13, 15] (fun k w1 => w1 = [w.drew, (w.drew.setCell ⟨g, a, none⟩ (.int .u8 y)), ((w.drew.setCell ⟨g, a, none⟩ (.int .u8 y)).setCell ⟨g, p, none⟩ (.int .u8 x))].getD k (w.drew)) (Stab.OkOps.of (by kernel_rfl)) (fun hok => ?_)
 refine Stage.mvO (k := 0) s0 hf.size hok.out rfl rfl rfl (.inl rfl) (by kernel_rfl) (by kernel_rfl) ?_
 refine Stage.mvO (k := 1) s1 hf.size hok.out rfl rfl rfl (.inl rfl) (by kernel_rfl) (by kernel_rfl) ?_
 refine Stage.mvO (k := 2) s0 hf.size hok.out rfl rfl rfl (.inl rfl) (by kernel_rfl) (by kernel_rfl) ?_
 refine Stage.mvO (k := 3) s3 hf.size hok.out rfl rfl rfl (.inl rfl) (by kernel_rfl) (by kernel_rfl) ?_
 refine Stage.mvO (k := 4) s0 hf.size hok.out rfl rfl rfl (.inl rfl) (by kernel_rfl) (by kernel_rfl) ?_
 refine Stage.mvO (k := 5) s3 hf.size hok.out rfl rfl rfl (.inl rfl) (by kernel_rfl) (by kernel_rfl) ?_
 apply Stage.t 6 _ hf.size hok.out rfl (by kernel_rfl)
 · (
 intro fr1 w1 hh hd hk K hK
 refine Stab.op_plain (o := _) rfl rfl ?_
 have s16 := Stage.u 4 1 hd hk rfl [] (by kernel_rfl) rfl rfl rfl
 have s17 := Stage.u 5 0 hd hk rfl [] (by kernel_rfl) rfl rfl rfl
 clear hd
 go_simp
 exact hK.out _ rfl _ rfl)
 apply Stage.todo_look (k := 7) (n := 168) 0 [] [] _ hf.size hok.out rfl (by kernel_rfl)
 · (
 intro fr1 w1 hh hw hd hk K hK
 replace hw : w1 = w.drew := hw
 subst hw
 refine Stab.op_plain (o := _) rfl rfl ?_
 have s18 := Stage.u 6 0 hd hk rfl [] (by kernel_rfl) rfl rfl rfl
 clear hd
 go_simp
 exact hK.out _ rfl _ _ rfl rfl)
 refine Stage.mvO (k := 8) s0 hf.size hok.out rfl rfl rfl (.inl rfl) (by kernel_rfl) (by kernel_rfl) ?_
 refine Stage.mvO (k := 9) s1 hf.size hok.out rfl rfl rfl (.inl rfl) (by kernel_rfl) (by kernel_rfl) ?_
 apply Stage.t 10 _ hf.size hok.out rfl (by kernel_rfl)
 · (
 intro fr1 w1 hh hd hk K hK
 refine Stab.op_plain (o := _) rfl rfl ?_
 have s20 := Stage.u 8 1 hd hk rfl [] (by kernel_rfl) rfl rfl rfl
 have s21 := Stage.u 9 0 hd hk rfl [] (by kernel_rfl) rfl rfl rfl
 clear hd
 go_simp
 exact hK.out _ rfl _ rfl)
 apply Stage.todo_look (k := 11) (n := 168) 0 [] [] _ hf.size hok.out rfl (by kernel_rfl)
 · (
 intro fr1 w1 hh hw hd hk K hK
 replace hw : w1 = w.drew := hw
 subst hw
 refine Stab.op_plain (o := _) rfl rfl ?_
 have s22 := Stage.u 10 0 hd hk rfl [] (by kernel_rfl) rfl rfl rfl
 clear hd
 go_simp
 exact hK.out _ rfl _ _ rfl rfl)
 apply Stage.t 12 _ hf.size hok.out rfl (by kernel_rfl)
 · (
 intro fr1 w1 hh hd hk K hK
 refine Stab.op_plain (o := _) rfl rfl ?_
 have s12 := Stage.u 0 11 hd hk rfl [] (by kernel_rfl) rfl rfl rfl
 have s13 := Stage.u 1 10 hd hk rfl [] (by kernel_rfl) rfl rfl rfl
 clear hd
 go_simp
 exact hK.out _ rfl _ rfl)
 refine Stage.todo_lead (k := 13) (n := 168) 0 [] (fun _ => True) hf.size hok.out rfl (by kernel_rfl) ?_ ?_
 · (
 intro fr1 w1 hh hw hd hk K hK
 replace hw : w1 = w.drew := hw
 subst hw
 refine Stab.op_plain (o := _) rfl rfl ?_
 have s24 := Stage.u 12 0 hd hk rfl [] (by kernel_rfl) rfl rfl rfl
 have s19 := Stage.u 7 5 hd hk rfl [] (by kernel_rfl) rfl rfl rfl
 clear hd
 go_simp
 exact hK.out _ rfl undef _ rfl trivial)
 apply Stage.t 14 _ hf.size hok.out rfl (by kernel_rfl)
 · (
 intro fr1 w1 hh hd hk K hK
 refine Stab.op_plain (o := _) rfl rfl ?_
 have s14 := Stage.u 2 11 hd hk rfl [] (by kernel_rfl) rfl rfl rfl
 have s15 := Stage.u 3 10 hd hk rfl [] (by kernel_rfl) rfl rfl rfl
 clear hd
 go_simp
 exact hK.out _ rfl _ rfl)
 refine Stage.todo_lead (k := 15) (n := 168) 1 [] (fun _ => True) hf.size hok.out rfl (by kernel_rfl) ?_ ?_
 · (
 intro fr1 w1 hh hw hd hk K hK
 replace hw : w1 = (w.drew.setCell ⟨g, a, none⟩ (.int .u8 y)) := hw
 subst hw
 refine Stab.op_plain (o := _) rfl rfl ?_
 have s25 := Stage.u 14 0 hd hk rfl [] (by kernel_rfl) rfl rfl rfl
 have s23 := Stage.u 11 3 hd hk rfl [] (by kernel_rfl) rfl rfl rfl
 clear hd
 go_simp
 exact hK.out _ rfl undef _ rfl trivial)
 refine Stage.todo_facts (n := 168) (by kernel_rfl) hf.size hok.out rfl (by decide) (by decide) rfl (fun fr1 w1 hh hg hw => ?_)
 replace hw : w1 = ((w.drew.setCell ⟨g, a, none⟩ (.int .u8 y)).setCell ⟨g, p, none⟩ (.int .u8 x)) := hw
 subst hw
 replace s0 := Stage.o hh (by kernel_rfl) s0
 replace s1 := Stage.o hh (by kernel_rfl) s1
 replace s2 := Stage.o hh (by kernel_rfl) s2
 replace s8 := Stage.o hh (by kernel_rfl) s8
 replace s9 := Stage.o hh (by kernel_rfl) s9
 have hf1 : Fact.Fr 168 fr1 := ⟨hh.size.trans hf.size, hh.defers.trans hf.defers⟩
 clear hg hh hf s3
 have hf := hf1; clear hf1
 clear hok
 obtain ⟨ys, hys⟩ : ∃ ys, ys = swap zs a p := ⟨_, rfl⟩
 have ha := A2.out; rw [show (zs.set a y).set p x = ys by rw [hys]; unfold swap; rw [Hxd.out, Hyd.out]] at ha
 have ho := O2.out
 have hsg : Segm a b zs ys := hys ▸ (Segm.refl a b zs).swap (by omega) (by omega) hap hpb
 have HPV := Lib.hid Hyd.out
 have HYL := Lib.hid (show ys.length = n by rw [hsg.len]; exact HN.out)
 clear A0 A1 A2 O2 C1 F1 cx cy hfr hys Hx Hxd Hy Hyd
 generalize ((w.drew.setCell ⟨g, a, none⟩ (.int .u8 y)).setCell ⟨g, p, none⟩ (.int .u8 x)) = wq at *
 have q1 : IntKind.i64.wrap ((a : Int) + 1) = ((a + 1 : Nat) : Int) := by rw [Fact.wrap_i64 (by omega) (by omega)]; omega
 have q2 : IntKind.i64.wrap ((b : Int) - 1) = ((b - 1 : Nat) : Int) := by rw [Fact.wrap_i64 (by omega) (by omega)]; omega
 refine Fact.nx (hK2 _ _ ?_)
 refine wp_seq_k (fun K3 hK3 => ?_)
 refine Fact.region ?_
 have b26 := hf.l 26 rfl
 have b27 := hf.l 27 rfl
 have b28 := hf.l 28 rfl
 have b29 := hf.l 29 rfl
 refine Fact.p rfl fun K hK => ?_
 go_simp
 refine hK.out _ _ ?_; clear hK K
 refine Fact.p rfl fun K hK => ?_
 go_simp
 try simp (disch := omega) only [Fact.wrap_i64, Fact.wrap_u8, Fact.wrap_u32, Fact.wrap_u64]
 refine hK.out _ _ ?_; clear hK K
 refine Fact.p rfl fun K hK => ?_
 go_simp
 refine hK.out _ _ ?_; clear hK K
 refine Fact.p rfl fun K hK => ?_
 go_simp
 try simp (disch := omega) only [Fact.wrap_i64, Fact.wrap_u8, Fact.wrap_u32, Fact.wrap_u64]
 refine hK.out _ _ ?_; clear hK K
 refine Fact.p rfl fun K hK => ?_
 go_simp
 refine hK.out _ _ ?_; clear hK K
 refine Fact.p rfl fun K hK => ?_
 go_simp
 refine hK.out _ _ ?_; clear hK K
 refine Fact.nil ?_
 refine Fact.q hf (by simp only [Fact.G]) rfl fun fr1 hf1 hT => ?_
 have hKp : _ ∧ _ ∧ _ ∧ _ ∧ _ ∧ _ := ⟨hT 0, hT 1, hT 8, hT 9, hT 10, hT 11⟩
 simp only [Fact.G, Nat.reduceEqDiff, Nat.reduceLT, hf.size, reduceIte, s0, s1, s8, s9] at hKp
 clear hT hf s0 s1 s2 s8 s9 b26 b27 b28 b29
 obtain ⟨s0, s1, s8, s9, s10, s11⟩ := hKp
 have hf := hf1; clear hf1
 have s10 : fr1.tmps[10]? = some (.int .i64 ((a + 1 : Nat) : Int)) := by first | exact s10 | (rw [s10]; go_num)
 have s11 : fr1.tmps[11]? = some (.int .i64 ((b - 1 : Nat) : Int)) := by first | exact s11 | (rw [s11]; go_num)
 clear q1 q2
 have hpt : Part (fun x p => x < p) a b (a + 1) (b - 1) ys := Part.start (by omega)
 refine Fact.nx (hK3 _ _ ?_)
 have hbd : a + 1 ≤ a + 1 ∧ b - 1 ≤ b - 1 := by omega
 refine Fact.seq_meet (fun fr wqb => ∃ i j : Nat, (a + 1 ≤ i ∧ j ≤ b - 1) ∧ Part (fun x p => x < p) a b i j ys ∧ (j < i ∨ ¬ ys.getD i 0 < ys.getD a 0) ∧ Fact.Fr 168 fr ∧ fr.tmps[0]? = some (.slice (some ⟨g, 0, none⟩) n c) ∧ fr.tmps[1]? = some (.int .i64 a) ∧ fr.tmps[10]? = some (.int .i64 i) ∧ fr.tmps[11]? = some (.int .i64 j) ∧ Arr wqb g ys ∧ Only w wqb g) ?_ ?_
 · (
 refine wp_block ?_
 refine wp_loop_ghost (fun gk fr wqa => ∃ i j : Nat, gk = j + 1 - i ∧ (a + 1 ≤ i ∧ j ≤ b - 1) ∧ Part (fun x p => x < p) a b i j ys ∧ Fact.Fr 168 fr ∧ fr.tmps[0]? = some (.slice (some ⟨g, 0, none⟩) n c) ∧ fr.tmps[1]? = some (.int .i64 a) ∧ fr.tmps[10]? = some (.int .i64 i) ∧ fr.tmps[11]? = some (.int .i64 j) ∧ Arr wqa g ys ∧ Only w wqa g) (b - 1 + 1 - (a + 1)) ?_ ?_
 · (
 exact ⟨_, _, rfl, hbd, hpt, hf, s0, s1, s10, s11, ha, ho⟩)
 · (
 clear hf s0 s1 s8 s9 s10 s11
 clear hpt ha ho hbd
 rintro gk fr wqa ⟨i, j, hk, hbd, hpt, hf, s0, s1, s10, s11, ha, ho⟩
 have HK := Lib.hid hk; clear hk
 obtain ⟨hai, hij1, hjb⟩ := hpt.1
 by_cases hij : i ≤ j
 · (
 have b1 : i < n := by omega
 have b2 : j < n := by omega
 have b3 : a < n := by omega
 have e1 : IntKind.i64.wrap ((i : Int) + 1) = ((i + 1 : Nat) : Int) := by rw [Fact.wrap_i64 (by omega) (by omega)]; omega
 obtain ⟨x, hx⟩ : ∃ v, ys[i]? = some v := ⟨ys[i]'(by have := HYL.out; omega), List.getElem?_eq_getElem _⟩
 have Hxd := Lib.hid (show ys.getD (i) 0 = x by simp [List.getD, hx])
 have Hx := Lib.hid hx
 clear hx
 obtain ⟨y, hy⟩ : ∃ v, ys[a]? = some v := ⟨ys[a]'(by have := HYL.out; omega), List.getElem?_eq_getElem _⟩
 have Hyd := Lib.hid (show ys.getD (a) 0 = y by simp [List.getD, hy])
 have Hy := Lib.hid hy
 clear hy
 have cx := ha.cell Hx.out; have cy := ha.cell Hy.out
 by_cases hxy : x < y
 · (
 have hF : ys.getD (i) 0 < ys.getD a 0 := by rw [Hxd.out, Hyd.out]; exact hxy
 have HF := Lib.hid hF; clear hF
 refine wp_seq_k (fun K4 hK4 => ?_)
 refine wp_seq_k (fun K5 hK5 => ?_)
 refine Stage.begin_ (n := 168) [] (fun k w1 => w1 = [wqa.drew].getD k (wqa.drew)) (Stab.OkOps.of (by kernel_rfl)) (fun hok => ?_)
 refine Stage.mvO (k := 0) s10 hf.size hok.out rfl rfl rfl (.inl rfl) (by kernel_rfl) (by kernel_rfl) ?_
 refine Stage.mvO (k := 1) s11 hf.size hok.out rfl rfl rfl (.inl rfl) (by kernel_rfl) (by kernel_rfl) ?_
 apply Stage.t 2 _ hf.size hok.out rfl (by kernel_rfl)
 · (
 intro fr1 w1 hh hd hk K hK
 refine Stab.op_plain (o := _) rfl rfl ?_
 have s30 := Stage.u 0 1 hd hk rfl [] (by kernel_rfl) rfl rfl rfl
 have s31 := Stage.u 1 0 hd hk rfl [] (by kernel_rfl) rfl rfl rfl
 clear hd
 go_simp
 exact hK.out _ rfl _ rfl)
 refine Stage.mvN (k := 3) (j := 2) (m := 0) hf.size hok.out rfl rfl rfl (.inl rfl) rfl [] (by kernel_rfl) rfl rfl rfl (by kernel_rfl) ?_
 apply Stage.t 4 _ hf.size hok.out rfl (by kernel_rfl)
 · (
 intro fr1 w1 hh hd hk K hK
 have s33 := Stage.u 3 0 hd hk rfl [] (by kernel_rfl) rfl rfl rfl
 refine Stab.op_guard (o := _) rfl rfl rfl rfl s33 ?_
 have s0 := Stage.o hh (by kernel_rfl) s0
 clear hd
 go_simp
 exact hK.out _ rfl _ rfl)
 apply Stage.t 5 _ hf.size hok.out rfl (by kernel_rfl)
 · (
 intro fr1 w1 hh hd hk K hK
 have s33 := Stage.u 3 1 hd hk rfl [] (by kernel_rfl) rfl rfl rfl
 refine Stab.op_guard (o := _) rfl rfl rfl rfl s33 ?_
 have s10 := Stage.o hh (by kernel_rfl) s10
 clear hd
 go_simp
 exact hK.out _ rfl _ rfl)
 apply Stage.t 6 _ hf.size hok.out rfl (by kernel_rfl)
 · (
 intro fr1 w1 hh hd hk K hK
 have s33 := Stage.u 3 2 hd hk rfl [] (by kernel_rfl) rfl rfl rfl
 refine Stab.op_guard (o := _) rfl rfl rfl rfl s33 ?_
 have s34 := Stage.u 4 1 hd hk rfl [] (by kernel_rfl) rfl rfl rfl
 have s35 := Stage.u 5 0 hd hk rfl [] (by kernel_rfl) rfl rfl rfl
 clear hd
 go_simp
 exact hK.out _ rfl _ rfl)
 apply Stage.todo_look (k := 7) (n := 168) 0 [] [] _ hf.size hok.out rfl (by kernel_rfl)
 · (
 intro fr1 w1 hh hw hd hk K hK
 replace hw : w1 = wqa.drew := hw
 subst hw
 have s33 := Stage.u 3 3 hd hk rfl [] (by kernel_rfl) rfl rfl rfl
 refine Stab.op_guard (o := _) rfl rfl rfl rfl s33 ?_
 have s36 := Stage.u 6 0 hd hk rfl [] (by kernel_rfl) rfl rfl rfl
 clear hd
 go_simp
 exact hK.out _ rfl _ _ rfl rfl)
 apply Stage.t 8 _ hf.size hok.out rfl (by kernel_rfl)
 · (
 intro fr1 w1 hh hd hk K hK
 have s33 := Stage.u 3 4 hd hk rfl [] (by kernel_rfl) rfl rfl rfl
 refine Stab.op_guard (o := _) rfl rfl rfl rfl s33 ?_
 have s0 := Stage.o hh (by kernel_rfl) s0
 clear hd
 go_simp
 exact hK.out _ rfl _ rfl)
 apply Stage.t 9 _ hf.size hok.out rfl (by kernel_rfl)
 · (
 intro fr1 w1 hh hd hk K hK
 have s33 := Stage.u 3 5 hd hk rfl [] (by kernel_rfl) rfl rfl rfl
 refine Stab.op_guard (o := _) rfl rfl rfl rfl s33 ?_
 have s1 := Stage.o hh (by kernel_rfl) s1
 clear hd
 go_simp
 exact hK.out _ rfl _ rfl)
 apply Stage.t 10 _ hf.size hok.out rfl (by kernel_rfl)
 · (
 intro fr1 w1 hh hd hk K hK
 have s33 := Stage.u 3 6 hd hk rfl [] (by kernel_rfl) rfl rfl rfl
 refine Stab.op_guard (o := _) rfl rfl rfl rfl s33 ?_
 have s38 := Stage.u 8 1 hd hk rfl [] (by kernel_rfl) rfl rfl rfl
 have s39 := Stage.u 9 0 hd hk rfl [] (by kernel_rfl) rfl rfl rfl
 clear hd
 go_simp
 exact hK.out _ rfl _ rfl)
 apply Stage.todo_look (k := 11) (n := 168) 0 [] [] _ hf.size hok.out rfl (by kernel_rfl)
 · (
 intro fr1 w1 hh hw hd hk K hK
 replace hw : w1 = wqa.drew := hw
 subst hw
 have s33 := Stage.u 3 7 hd hk rfl [] (by kernel_rfl) rfl rfl rfl
 refine Stab.op_guard (o := _) rfl rfl rfl rfl s33 ?_
 have s40 := Stage.u 10 0 hd hk rfl [] (by kernel_rfl) rfl rfl rfl
 clear hd
 go_simp
 exact hK.out _ rfl _ _ rfl rfl)
 apply Stage.todo_look (k := 12) (n := 168) 0 [] [] _ hf.size hok.out rfl (by kernel_rfl)
 · (
 intro fr1 w1 hh hw hd hk K hK
 replace hw : w1 = wqa.drew := hw
 subst hw
 have s33 := Stage.u 3 8 hd hk rfl [] (by kernel_rfl) rfl rfl rfl
 refine Stab.op_guard (o := _) rfl rfl rfl rfl s33 ?_
 have s37 := Stage.u 7 4 hd hk rfl [] (by kernel_rfl) rfl rfl rfl
 have s41 := Stage.u 11 0 hd hk rfl [] (by kernel_rfl) rfl rfl rfl
 clear hd
 go_simp
 go_at_call 85; refine (less_any _ _ _).mono ?_; rintro e w2 ⟨rfl, rfl⟩
 exact hK.out _ rfl _ _ rfl rfl)
 apply Stage.t 13 _ hf.size hok.out rfl (by kernel_rfl)
 · (
 intro fr1 w1 hh hd hk K hK
 refine Stab.op_plain (o := _) rfl rfl ?_
 have s33 := Stage.u 3 9 hd hk rfl [] (by kernel_rfl) rfl rfl rfl
 have s42 := Stage.u 12 0 hd hk rfl [] (by kernel_rfl) rfl rfl rfl
 clear hd
 go_simp
 exact hK.out _ rfl _ rfl)
 refine Stage.todo_facts (n := 168) (by kernel_rfl) hf.size hok.out rfl (by decide) (by decide) rfl (fun fr1 w1 hh hg hw => ?_)
 replace hw : w1 = wqa.drew := hw
 subst hw
 replace s0 := Stage.o hh (by kernel_rfl) s0
 replace s1 := Stage.o hh (by kernel_rfl) s1
 replace s10 := Stage.o hh (by kernel_rfl) s10
 replace s11 := Stage.o hh (by kernel_rfl) s11
 have s30 := Stage.e 0 13 hg rfl rfl rfl rfl
 have s31 := Stage.e 1 12 hg rfl rfl rfl rfl
 have s32 := Stage.e 2 11 hg rfl rfl rfl rfl
 have s33 := Stage.e 3 10 hg rfl rfl rfl rfl
 have s34 := Stage.e 4 9 hg rfl rfl rfl rfl
 have s35 := Stage.e 5 8 hg rfl rfl rfl rfl
 have s36 := Stage.e 6 7 hg rfl rfl rfl rfl
 have s37 := Stage.e 7 6 hg rfl rfl rfl rfl
 have s38 := Stage.e 8 5 hg rfl rfl rfl rfl
 have s39 := Stage.e 9 4 hg rfl rfl rfl rfl
 have s40 := Stage.e 10 3 hg rfl rfl rfl rfl
 have s41 := Stage.e 11 2 hg rfl rfl rfl rfl
 have s42 := Stage.e 12 1 hg rfl rfl rfl rfl
 have s43 := Stage.e 13 0 hg rfl rfl rfl rfl
 have hf1 : Fact.Fr 168 fr1 := ⟨hh.size.trans hf.size, hh.defers.trans hf.defers⟩
 clear hg hh hf
 have hf := hf1; clear hf1
 clear hok
 have ha3 := ha.drew; have ho3 := ho.drew
 clear ha ho cx cy
 generalize wqa.drew = wd at *
 refine Fact.nx (hK5 _ _ ?_)
 refine Fact.cond_t s43 ?_
 refine wp_skip ?_
 refine Fact.nx (hK4 _ _ ?_)
 refine wp_block ?_
 refine Fact.region ?_
 have b44 := hf.l 44 rfl
 have b45 := hf.l 45 rfl
 refine Fact.p rfl fun K hK => ?_
 go_simp
 refine hK.out _ _ ?_; clear hK K
 refine Fact.p rfl fun K hK => ?_
 go_simp
 try simp (disch := omega) only [Fact.wrap_i64, Fact.wrap_u8, Fact.wrap_u32, Fact.wrap_u64]
 refine hK.out _ _ ?_; clear hK K
 refine Fact.p rfl fun K hK => ?_
 go_simp
 refine hK.out _ _ ?_; clear hK K
 refine Fact.nil ?_
 refine Fact.q hf (by simp only [Fact.G]) rfl fun fr1 hf1 hT => ?_
 have hKp : _ ∧ _ ∧ _ ∧ _ ∧ _ ∧ _ ∧ _ ∧ _ ∧ _ ∧ _ ∧ _ ∧ _ ∧ _ ∧ _ ∧ _ ∧ _ ∧ _ ∧ _ ∧ _ ∧ _ := ⟨hT 0, hT 1, hT 10, hT 11, hT 30, hT 31, hT 32, hT 33, hT 34, hT 35, hT 36, hT 37, hT 38, hT 39, hT 40, hT 41, hT 42, hT 43, hT 44, hT 45⟩
 simp only [Fact.G, Nat.reduceEqDiff, Nat.reduceLT, hf.size, reduceIte, s0, s1, s11, s30, s31, s32, s33, s34, s35, s36, s37, s38, s39, s40, s41, s42, s43] at hKp
 clear hT hf s0 s1 s10 s11 s30 s31 s32 s33 s34 s35 s36 s37 s38 s39 s40 s41 s42 s43 b44 b45
 obtain ⟨s0, s1, s10, s11, s30, s31, s32, s33, s34, s35, s36, s37, s38, s39, s40, s41, s42, s43, s44, s45⟩ := hKp
 have hf := hf1; clear hf1
 refine Fact.block_normal ?_
 refine Fact.then_normal ?_
 exact ⟨j + 1 - (i + 1), by have := HK.out; omega, i + 1, j, rfl, by omega, hpt.up hij HF.out, hf, s0, s1, s10, s11, ha3, ho3⟩)
 · (
 have hF : ¬ ys.getD (i) 0 < ys.getD a 0 := by rw [Hxd.out, Hyd.out]; exact hxy
 have HF := Lib.hid hF; clear hF
 refine wp_seq_k (fun K6 hK6 => ?_)
 refine wp_seq_k (fun K7 hK7 => ?_)
 refine Stage.begin_ (n := 168) [] (fun k w1 => w1 = [wqa.drew].getD k (wqa.drew)) (Stab.OkOps.of (by kernel_rfl)) (fun hok => ?_)
 refine Stage.mvO (k := 0) s10 hf.size hok.out rfl rfl rfl (.inl rfl) (by kernel_rfl) (by kernel_rfl) ?_
 refine Stage.mvO (k := 1) s11 hf.size hok.out rfl rfl rfl (.inl rfl) (by kernel_rfl) (by kernel_rfl) ?_
 apply Stage.t 2 _ hf.size hok.out rfl (by kernel_rfl)
 · (
 intro fr1 w1 hh hd hk K hK
 refine Stab.op_plain (o := _) rfl rfl ?_
 have s30 := Stage.u 0 1 hd hk rfl [] (by kernel_rfl) rfl rfl rfl
 have s31 := Stage.u 1 0 hd hk rfl [] (by kernel_rfl) rfl rfl rfl
 clear hd
 go_simp
 exact hK.out _ rfl _ rfl)
 refine Stage.mvN (k := 3) (j := 2) (m := 0) hf.size hok.out rfl rfl rfl (.inl rfl) rfl [] (by kernel_rfl) rfl rfl rfl (by kernel_rfl) ?_
 apply Stage.t 4 _ hf.size hok.out rfl (by kernel_rfl)
 · (
 intro fr1 w1 hh hd hk K hK
 have s33 := Stage.u 3 0 hd hk rfl [] (by kernel_rfl) rfl rfl rfl
 refine Stab.op_guard (o := _) rfl rfl rfl rfl s33 ?_
 have s0 := Stage.o hh (by kernel_rfl) s0
 clear hd
 go_simp
 exact hK.out _ rfl _ rfl)
 apply Stage.t 5 _ hf.size hok.out rfl (by kernel_rfl)
 · (
 intro fr1 w1 hh hd hk K hK
 have s33 := Stage.u 3 1 hd hk rfl [] (by kernel_rfl) rfl rfl rfl
 refine Stab.op_guard (o := _) rfl rfl rfl rfl s33 ?_
 have s10 := Stage.o hh (by kernel_rfl) s10
 clear hd
 go_simp
 exact hK.out _ rfl _ rfl)
 apply Stage.t 6 _ hf.size hok.out rfl (by kernel_rfl)
 · (
 intro fr1 w1 hh hd hk K hK
 have s33 := Stage.u 3 2 hd hk rfl [] (by kernel_rfl) rfl rfl rfl
 refine Stab.op_guard (o := _) rfl rfl rfl rfl s33 ?_
 have s34 := Stage.u 4 1 hd hk rfl [] (by kernel_rfl) rfl rfl rfl
 have s35 := Stage.u 5 0 hd hk rfl [] (by kernel_rfl) rfl rfl rfl
 clear hd
 go_simp
 exact hK.out _ rfl _ rfl)
 apply Stage.todo_look (k := 7) (n := 168) 0 [] [] _ hf.size hok.out rfl (by kernel_rfl)
 · (
 intro fr1 w1 hh hw hd hk K hK
 replace hw : w1 = wqa.drew := hw
 subst hw
 have s33 := Stage.u 3 3 hd hk rfl [] (by kernel_rfl) rfl rfl rfl
 refine Stab.op_guard (o := _) rfl rfl rfl rfl s33 ?_
 have s36 := Stage.u 6 0 hd hk rfl [] (by kernel_rfl) rfl rfl rfl
 clear hd
 go_simp
 exact hK.out _ rfl _ _ rfl rfl)
 apply Stage.t 8 _ hf.size hok.out rfl (by kernel_rfl)
 · (
 intro fr1 w1 hh hd hk K hK
 have s33 := Stage.u 3 4 hd hk rfl [] (by kernel_rfl) rfl rfl rfl
 refine Stab.op_guard (o := _) rfl rfl rfl rfl s33 ?_
 have s0 := Stage.o hh (by kernel_rfl) s0
 clear hd
 go_simp
 exact hK.out _ rfl _ rfl)
 apply Stage.t 9 _ hf.size hok.out rfl (by kernel_rfl)
 · (
 intro fr1 w1 hh hd hk K hK
 have s33 := Stage.u 3 5 hd hk rfl [] (by kernel_rfl) rfl rfl rfl
 refine Stab.op_guard (o := _) rfl rfl rfl rfl s33 ?_
 have s1 := Stage.o hh (by kernel_rfl) s1
 clear hd
 go_simp
 exact hK.out _ rfl _ rfl)
 apply Stage.t 10 _ hf.size hok.out rfl (by kernel_rfl)
 · (
 intro fr1 w1 hh hd hk K hK
 have s33 := Stage.u 3 6 hd hk rfl [] (by kernel_rfl) rfl rfl rfl
 refine Stab.op_guard (o := _) rfl rfl rfl rfl s33 ?_
 have s38 := Stage.u 8 1 hd hk rfl [] (by kernel_rfl) rfl rfl rfl
 have s39 := Stage.u 9 0 hd hk rfl [] (by kernel_rfl) rfl rfl rfl
 clear hd
 go_simp
 exact hK.out _ rfl _ rfl)
 apply Stage.todo_look (k := 11) (n := 168) 0 [] [] _ hf.size hok.out rfl (by kernel_rfl)
 · (
 intro fr1 w1 hh hw hd hk K hK
 replace hw : w1 = wqa.drew := hw
 subst hw
 have s33 := Stage.u 3 7 hd hk rfl [] (by kernel_rfl) rfl rfl rfl
 refine Stab.op_guard (o := _) rfl rfl rfl rfl s33 ?_
 have s40 := Stage.u 10 0 hd hk rfl [] (by kernel_rfl) rfl rfl rfl
 clear hd
 go_simp
 exact hK.out _ rfl _ _ rfl rfl)
 apply Stage.todo_look (k := 12) (n := 168) 0 [] [] _ hf.size hok.out rfl (by kernel_rfl)
 · (
 intro fr1 w1 hh hw hd hk K hK
 replace hw : w1 = wqa.drew := hw
 subst hw
 have s33 := Stage.u 3 8 hd hk rfl [] (by kernel_rfl) rfl rfl rfl
 refine Stab.op_guard (o := _) rfl rfl rfl rfl s33 ?_
 have s37 := Stage.u 7 4 hd hk rfl [] (by kernel_rfl) rfl rfl rfl
 have s41 := Stage.u 11 0 hd hk rfl [] (by kernel_rfl) rfl rfl rfl
 clear hd
 go_simp
 go_at_call 85; refine (less_any _ _ _).mono ?_; rintro e w2 ⟨rfl, rfl⟩
 exact hK.out _ rfl _ _ rfl rfl)
 apply Stage.t 13 _ hf.size hok.out rfl (by kernel_rfl)
 · (
 intro fr1 w1 hh hd hk K hK
 refine Stab.op_plain (o := _) rfl rfl ?_
 have s33 := Stage.u 3 9 hd hk rfl [] (by kernel_rfl) rfl rfl rfl
 have s42 := Stage.u 12 0 hd hk rfl [] (by kernel_rfl) rfl rfl rfl
 clear hd
 go_simp
 exact hK.out _ rfl _ rfl)
 refine Stage.todo_facts (n := 168) (by kernel_rfl) hf.size hok.out rfl (by decide) (by decide) rfl (fun fr1 w1 hh hg hw => ?_)
 replace hw : w1 = wqa.drew := hw
 subst hw
 replace s0 := Stage.o hh (by kernel_rfl) s0
 replace s1 := Stage.o hh (by kernel_rfl) s1
 replace s10 := Stage.o hh (by kernel_rfl) s10
 replace s11 := Stage.o hh (by kernel_rfl) s11
 have s30 := Stage.e 0 13 hg rfl rfl rfl rfl
 have s31 := Stage.e 1 12 hg rfl rfl rfl rfl
 have s32 := Stage.e 2 11 hg rfl rfl rfl rfl
 have s33 := Stage.e 3 10 hg rfl rfl rfl rfl
 have s34 := Stage.e 4 9 hg rfl rfl rfl rfl
 have s35 := Stage.e 5 8 hg rfl rfl rfl rfl
 have s36 := Stage.e 6 7 hg rfl rfl rfl rfl
 have s37 := Stage.e 7 6 hg rfl rfl rfl rfl
 have s38 := Stage.e 8 5 hg rfl rfl rfl rfl
 have s39 := Stage.e 9 4 hg rfl rfl rfl rfl
 have s40 := Stage.e 10 3 hg rfl rfl rfl rfl
 have s41 := Stage.e 11 2 hg rfl rfl rfl rfl
 have s42 := Stage.e 12 1 hg rfl rfl rfl rfl
 have s43 := Stage.e 13 0 hg rfl rfl rfl rfl
 have hf1 : Fact.Fr 168 fr1 := ⟨hh.size.trans hf.size, hh.defers.trans hf.defers⟩
 clear hg hh hf
 have hf := hf1; clear hf1
 clear hok
 have ha3 := ha.drew; have ho3 := ho.drew
 clear ha ho cx cy
 generalize wqa.drew = wd at *
 refine Fact.nx (hK7 _ _ ?_)
 refine Fact.cond_f s43 ?_
 have hstop := HF.out
 clear HF
 refine wp_exit ?_
 refine Fact.then_exit ?_
 refine Fact.then_exit ?_
 refine Fact.block_exit ?_
 refine Fact.then_normal ?_
 exact ⟨_, _, hbd, hpt, .inr hstop, hf, s0, s1, s10, s11, ha3, ho3⟩))
 · (
 have hijI : ¬ (i : Int) ≤ (j : Int) := by omega
 refine wp_seq_k (fun K8 hK8 => ?_)
 refine wp_seq_k (fun K9 hK9 => ?_)
 refine Stage.begin_ (n := 168) [] (fun k w1 => w1 = [wqa.drew].getD k (wqa.drew)) (Stab.OkOps.of (by kernel_rfl)) (fun hok => ?_)
 refine Stage.mvO (k := 0) s10 hf.size hok.out rfl rfl rfl (.inl rfl) (by kernel_rfl) (by kernel_rfl) ?_
 refine Stage.mvO (k := 1) s11 hf.size hok.out rfl rfl rfl (.inl rfl) (by kernel_rfl) (by kernel_rfl) ?_
 apply Stage.t 2 _ hf.size hok.out rfl (by kernel_rfl)
 · (
 intro fr1 w1 hh hd hk K hK
 refine Stab.op_plain (o := _) rfl rfl ?_
 have s30 := Stage.u 0 1 hd hk rfl [] (by kernel_rfl) rfl rfl rfl
 have s31 := Stage.u 1 0 hd hk rfl [] (by kernel_rfl) rfl rfl rfl
 clear hd
 go_simp
 exact hK.out _ rfl _ rfl)
 refine Stage.mvN (k := 3) (j := 2) (m := 0) hf.size hok.out rfl rfl rfl (.inl rfl) rfl [] (by kernel_rfl) rfl rfl rfl (by kernel_rfl) ?_
 apply Stage.t 4 _ hf.size hok.out rfl (by kernel_rfl)
 · (
 intro fr1 w1 hh hd hk K hK
 have s33 := Stage.u 3 0 hd hk rfl [] (by kernel_rfl) rfl rfl rfl
 refine Stab.op_skip (o := _) rfl rfl rfl rfl s33 ?_
 exact hK.out _ rfl _ rfl)
 apply Stage.t 5 _ hf.size hok.out rfl (by kernel_rfl)
 · (
 intro fr1 w1 hh hd hk K hK
 have s33 := Stage.u 3 1 hd hk rfl [] (by kernel_rfl) rfl rfl rfl
 refine Stab.op_skip (o := _) rfl rfl rfl rfl s33 ?_
 exact hK.out _ rfl _ rfl)
 apply Stage.t 6 _ hf.size hok.out rfl (by kernel_rfl)
 · (
 intro fr1 w1 hh hd hk K hK
 have s33 := Stage.u 3 2 hd hk rfl [] (by kernel_rfl) rfl rfl rfl
 refine Stab.op_skip (o := _) rfl rfl rfl rfl s33 ?_
 exact hK.out _ rfl _ rfl)
 apply Stage.t 7 _ hf.size hok.out rfl (by kernel_rfl)
 · (
 intro fr1 w1 hh hd hk K hK
 have s33 := Stage.u 3 3 hd hk rfl [] (by kernel_rfl) rfl rfl rfl
 refine Stab.op_skip (o := _) rfl rfl rfl rfl s33 ?_
 exact hK.out _ rfl _ rfl)
 apply Stage.t 8 _ hf.size hok.out rfl (by kernel_rfl)
 · (
 intro fr1 w1 hh hd hk K hK
 have s33 := Stage.u 3 4 hd hk rfl [] (by kernel_rfl) rfl rfl rfl
 refine Stab.op_skip (o := _) rfl rfl rfl rfl s33 ?_
 exact hK.out _ rfl _ rfl)
 apply Stage.t 9 _ hf.size hok.out rfl (by kernel_rfl)
 · (
 intro fr1 w1 hh hd hk K hK
 have s33 := Stage.u 3 5 hd hk rfl [] (by kernel_rfl) rfl rfl rfl
 refine Stab.op_skip (o := _) rfl rfl rfl rfl s33 ?_
 exact hK.out _ rfl _ rfl)
 apply Stage.t 10 _ hf.size hok.out rfl (by kernel_rfl)
 · (
 intro fr1 w1 hh hd hk K hK
 have s33 := Stage.u 3 6 hd hk rfl [] (by kernel_rfl) rfl rfl rfl
 refine Stab.op_skip (o := _) rfl rfl rfl rfl s33 ?_
 exact hK.out _ rfl _ rfl)
 apply Stage.t 11 _ hf.size hok.out rfl (by kernel_rfl)
 · (
 intro fr1 w1 hh hd hk K hK
 have s33 := Stage.u 3 7 hd hk rfl [] (by kernel_rfl) rfl rfl rfl
 refine Stab.op_skip (o := _) rfl rfl rfl rfl s33 ?_
 exact hK.out _ rfl _ rfl)
 apply Stage.t 12 _ hf.size hok.out rfl (by kernel_rfl)
 · (
 intro fr1 w1 hh hd hk K hK
 have s33 := Stage.u 3 8 hd hk rfl [] (by kernel_rfl) rfl rfl rfl
 refine Stab.op_skip (o := _) rfl rfl rfl rfl s33 ?_
 exact hK.out _ rfl _ rfl)
 apply Stage.t 13 _ hf.size hok.out rfl (by kernel_rfl)
 · (
 intro fr1 w1 hh hd hk K hK
 refine Stab.op_plain (o := _) rfl rfl ?_
 have s33 := Stage.u 3 9 hd hk rfl [] (by kernel_rfl) rfl rfl rfl
 have s42 := Stage.u 12 0 hd hk rfl [] (by kernel_rfl) rfl rfl rfl
 clear hd
 go_simp
 exact hK.out _ rfl _ rfl)
 refine Stage.todo_facts (n := 168) (by kernel_rfl) hf.size hok.out rfl (by decide) (by decide) rfl (fun fr1 w1 hh hg hw => ?_)
 replace hw : w1 = wqa.drew := hw
 subst hw
 replace s0 := Stage.o hh (by kernel_rfl) s0
 replace s1 := Stage.o hh (by kernel_rfl) s1
 replace s10 := Stage.o hh (by kernel_rfl) s10
 replace s11 := Stage.o hh (by kernel_rfl) s11
 have s30 := Stage.e 0 13 hg rfl rfl rfl rfl
 have s31 := Stage.e 1 12 hg rfl rfl rfl rfl
 have s32 := Stage.e 2 11 hg rfl rfl rfl rfl
 have s33 := Stage.e 3 10 hg rfl rfl rfl rfl
 have s34 := Stage.e 4 9 hg rfl rfl rfl rfl
 have s35 := Stage.e 5 8 hg rfl rfl rfl rfl
 have s36 := Stage.e 6 7 hg rfl rfl rfl rfl
 have s37 := Stage.e 7 6 hg rfl rfl rfl rfl
 have s38 := Stage.e 8 5 hg rfl rfl rfl rfl
 have s39 := Stage.e 9 4 hg rfl rfl rfl rfl
 have s40 := Stage.e 10 3 hg rfl rfl rfl rfl
 have s41 := Stage.e 11 2 hg rfl rfl rfl rfl
 have s42 := Stage.e 12 1 hg rfl rfl rfl rfl
 have s43 := Stage.e 13 0 hg rfl rfl rfl rfl
 have hf1 : Fact.Fr 168 fr1 := ⟨hh.size.trans hf.size, hh.defers.trans hf.defers⟩
 clear hg hh hf
 have hf := hf1; clear hf1
 clear hok
 have ha3 := ha.drew; have ho3 := ho.drew
 clear ha ho
 generalize wqa.drew = wd at *
 refine Fact.nx (hK9 _ _ ?_)
 refine Fact.cond_f s43 ?_
 refine wp_exit ?_
 refine Fact.then_exit ?_
 refine Fact.then_exit ?_
 refine Fact.block_exit ?_
 refine Fact.then_normal ?_
 exact ⟨_, _, hbd, hpt, .inl (by omega), hf, s0, s1, s10, s11, ha3, ho3⟩)))
 · (
 clear hf s0 s1 s8 s9 s10 s11
 clear hpt ha ho hbd
 rintro fr wqb ⟨i, j, hbd, hpt, hst, hf, s0, s1, s10, s11, ha, ho⟩
 refine Fact.seq_meet (fun fr wqd => ∃ i j : Nat, (a + 1 ≤ i ∧ j ≤ b - 1) ∧ Part (fun x p => x < p) a b i j ys ∧ (j < i ∨ (¬ ys.getD i 0 < ys.getD a 0 ∧ ys.getD j 0 < ys.getD a 0)) ∧ Fact.Fr 168 fr ∧ fr.tmps[0]? = some (.slice (some ⟨g, 0, none⟩) n c) ∧ fr.tmps[1]? = some (.int .i64 a) ∧ fr.tmps[10]? = some (.int .i64 i) ∧ fr.tmps[11]? = some (.int .i64 j) ∧ Arr wqd g ys ∧ Only w wqd g) ?_ ?_
 · (
 refine wp_block ?_
 refine wp_loop_ghost (fun gk fr wqc => ∃ i j : Nat, gk = j + 1 - i ∧ (a + 1 ≤ i ∧ j ≤ b - 1) ∧ Part (fun x p => x < p) a b i j ys ∧ (j < i ∨ ¬ ys.getD i 0 < ys.getD a 0) ∧ Fact.Fr 168 fr ∧ fr.tmps[0]? = some (.slice (some ⟨g, 0, none⟩) n c) ∧ fr.tmps[1]? = some (.int .i64 a) ∧ fr.tmps[10]? = some (.int .i64 i) ∧ fr.tmps[11]? = some (.int .i64 j) ∧ Arr wqc g ys ∧ Only w wqc g) (j + 1 - i) ?_ ?_
 · (
 exact ⟨_, _, rfl, hbd, hpt, hst, hf, s0, s1, s10, s11, ha, ho⟩)
 · (
 clear hf s0 s1 s10 s11
 clear hpt ha ho hbd hst
 rintro gk fr wqc ⟨i, j, hk, hbd, hpt, hst, hf, s0, s1, s10, s11, ha, ho⟩
 have HK := Lib.hid hk; clear hk
 obtain ⟨hai, hij1, hjb⟩ := hpt.1
 by_cases hij : i ≤ j
 · (
 have b1 : i < n := by omega
 have b2 : j < n := by omega
 have b3 : a < n := by omega
 have e1 : IntKind.i64.wrap ((i : Int) + 1) = ((i + 1 : Nat) : Int) := by rw [Fact.wrap_i64 (by omega) (by omega)]; omega
 obtain ⟨q, rfl⟩ : ∃ q, j = q + 1 := ⟨j - 1, by omega⟩
 have e2 : IntKind.i64.wrap ((q : Int) + 1 - 1) = (q : Int) := by rw [Fact.wrap_i64 (by omega) (by omega)]; omega
 have e3 : IntKind.i64.wrap (q : Int) = (q : Int) := Fact.wrap_i64 (by omega) (by omega)
 have b4 : (q : Int) + 1 < (n : Int) := by omega
 have b5 : (0 : Int) ≤ (q : Int) + 1 := by omega
 have hijI : (i : Int) ≤ (q : Int) + 1 := by omega
 obtain ⟨x, hx⟩ : ∃ v, ys[q + 1]? = some v := ⟨ys[q + 1]'(by have := HYL.out; omega), List.getElem?_eq_getElem _⟩
 have Hxd := Lib.hid (show ys.getD (q + 1) 0 = x by simp [List.getD, hx])
 have Hx := Lib.hid hx
 clear hx
 obtain ⟨y, hy⟩ : ∃ v, ys[a]? = some v := ⟨ys[a]'(by have := HYL.out; omega), List.getElem?_eq_getElem _⟩
 have Hyd := Lib.hid (show ys.getD (a) 0 = y by simp [List.getD, hy])
 have Hy := Lib.hid hy
 clear hy
 have cx := ha.cell Hx.out; have cy := ha.cell Hy.out
 by_cases hxy : x < y
 · (
 have hF : ys.getD (q + 1) 0 < ys.getD a 0 := by rw [Hxd.out, Hyd.out]; exact hxy
 have HF := Lib.hid hF; clear hF
 refine wp_seq_k (fun K10 hK10 => ?_)
 refine wp_seq_k (fun K11 hK11 => ?_)
 refine Stage.begin_ (n := 168) [] (fun k w1 => w1 = [wqc.drew].getD k (wqc.drew)) (Stab.OkOps.of (by kernel_rfl)) (fun hok => ?_)
 refine Stage.mvO (k := 0) s10 hf.size hok.out rfl rfl rfl (.inl rfl) (by kernel_rfl) (by kernel_rfl) ?_
 refine Stage.mvO (k := 1) s11 hf.size hok.out rfl rfl rfl (.inl rfl) (by kernel_rfl) (by kernel_rfl) ?_
 apply Stage.t 2 _ hf.size hok.out rfl (by kernel_rfl)
 · (
 intro fr1 w1 hh hd hk K hK
 refine Stab.op_plain (o := _) rfl rfl ?_
 have s46 := Stage.u 0 1 hd hk rfl [] (by kernel_rfl) rfl rfl rfl
 have s47 := Stage.u 1 0 hd hk rfl [] (by kernel_rfl) rfl rfl rfl
 clear hd
 go_simp
 exact hK.out _ rfl _ rfl)
 refine Stage.mvN (k := 3) (j := 2) (m := 0) hf.size hok.out rfl rfl rfl (.inl rfl) rfl [] (by kernel_rfl) rfl rfl rfl (by kernel_rfl) ?_
 apply Stage.t 4 _ hf.size hok.out rfl (by kernel_rfl)
 · (
 intro fr1 w1 hh hd hk K hK
 have s49 := Stage.u 3 0 hd hk rfl [] (by kernel_rfl) rfl rfl rfl
 refine Stab.op_guard (o := _) rfl rfl rfl rfl s49 ?_
 have s0 := Stage.o hh (by kernel_rfl) s0
 clear hd
 go_simp
 exact hK.out _ rfl _ rfl)
 apply Stage.t 5 _ hf.size hok.out rfl (by kernel_rfl)
 · (
 intro fr1 w1 hh hd hk K hK
 have s49 := Stage.u 3 1 hd hk rfl [] (by kernel_rfl) rfl rfl rfl
 refine Stab.op_guard (o := _) rfl rfl rfl rfl s49 ?_
 have s11 := Stage.o hh (by kernel_rfl) s11
 clear hd
 go_simp
 exact hK.out _ rfl _ rfl)
 apply Stage.t 6 _ hf.size hok.out rfl (by kernel_rfl)
 · (
 intro fr1 w1 hh hd hk K hK
 have s49 := Stage.u 3 2 hd hk rfl [] (by kernel_rfl) rfl rfl rfl
 refine Stab.op_guard (o := _) rfl rfl rfl rfl s49 ?_
 have s50 := Stage.u 4 1 hd hk rfl [] (by kernel_rfl) rfl rfl rfl
 have s51 := Stage.u 5 0 hd hk rfl [] (by kernel_rfl) rfl rfl rfl
 clear hd
 go_simp
 exact hK.out _ rfl _ rfl)
 apply Stage.todo_look (k := 7) (n := 168) 0 [] [] _ hf.size hok.out rfl (by kernel_rfl)
 · (
 intro fr1 w1 hh hw hd hk K hK
 replace hw : w1 = wqc.drew := hw
 subst hw
 have s49 := Stage.u 3 3 hd hk rfl [] (by kernel_rfl) rfl rfl rfl
 refine Stab.op_guard (o := _) rfl rfl rfl rfl s49 ?_
 have s52 := Stage.u 6 0 hd hk rfl [] (by kernel_rfl) rfl rfl rfl
 clear hd
 go_simp
 exact hK.out _ rfl _ _ rfl rfl)
 apply Stage.t 8 _ hf.size hok.out rfl (by kernel_rfl)
 · (
 intro fr1 w1 hh hd hk K hK
 have s49 := Stage.u 3 4 hd hk rfl [] (by kernel_rfl) rfl rfl rfl
 refine Stab.op_guard (o := _) rfl rfl rfl rfl s49 ?_
 have s0 := Stage.o hh (by kernel_rfl) s0
 clear hd
 go_simp
 exact hK.out _ rfl _ rfl)
 apply Stage.t 9 _ hf.size hok.out rfl (by kernel_rfl)
 · (
 intro fr1 w1 hh hd hk K hK
 have s49 := Stage.u 3 5 hd hk rfl [] (by kernel_rfl) rfl rfl rfl
 refine Stab.op_guard (o := _) rfl rfl rfl rfl s49 ?_
 have s1 := Stage.o hh (by kernel_rfl) s1
 clear hd
 go_simp
 exact hK.out _ rfl _ rfl)
 apply Stage.t 10 _ hf.size hok.out rfl (by kernel_rfl)
 · (
 intro fr1 w1 hh hd hk K hK
 have s49 := Stage.u 3 6 hd hk rfl [] (by kernel_rfl) rfl rfl rfl
 refine Stab.op_guard (o := _) rfl rfl rfl rfl s49 ?_
 have s54 := Stage.u 8 1 hd hk rfl [] (by kernel_rfl) rfl rfl rfl
 have s55 := Stage.u 9 0 hd hk rfl [] (by kernel_rfl) rfl rfl rfl
 clear hd
 go_simp
 exact hK.out _ rfl _ rfl)
 apply Stage.todo_look (k := 11) (n := 168) 0 [] [] _ hf.size hok.out rfl (by kernel_rfl)
 · (
 intro fr1 w1 hh hw hd hk K hK
 replace hw : w1 = wqc.drew := hw
 subst hw
 have s49 := Stage.u 3 7 hd hk rfl [] (by kernel_rfl) rfl rfl rfl
 refine Stab.op_guard (o := _) rfl rfl rfl rfl s49 ?_
 have s56 := Stage.u 10 0 hd hk rfl [] (by kernel_rfl) rfl rfl rfl
 clear hd
 go_simp
 exact hK.out _ rfl _ _ rfl rfl)
 apply Stage.todo_look (k := 12) (n := 168) 0 [] [] _ hf.size hok.out rfl (by kernel_rfl)
 · (
 intro fr1 w1 hh hw hd hk K hK
 replace hw : w1 = wqc.drew := hw
 subst hw
 have s49 := Stage.u 3 8 hd hk rfl [] (by kernel_rfl) rfl rfl rfl
 refine Stab.op_guard (o := _) rfl rfl rfl rfl s49 ?_
 have s53 := Stage.u 7 4 hd hk rfl [] (by kernel_rfl) rfl rfl rfl
 have s57 := Stage.u 11 0 hd hk rfl [] (by kernel_rfl) rfl rfl rfl
 clear hd
 go_simp
 go_at_call 85; refine (less_any _ _ _).mono ?_; rintro e w2 ⟨rfl, rfl⟩
 exact hK.out _ rfl _ _ rfl rfl)
 apply Stage.t 13 _ hf.size hok.out rfl (by kernel_rfl)
 · (
 intro fr1 w1 hh hd hk K hK
 have s49 := Stage.u 3 9 hd hk rfl [] (by kernel_rfl) rfl rfl rfl
 refine Stab.op_guard (o := _) rfl rfl rfl rfl s49 ?_
 have s58 := Stage.u 12 0 hd hk rfl [] (by kernel_rfl) rfl rfl rfl
 clear hd
 go_simp
 exact hK.out _ rfl _ rfl)
 apply Stage.t 14 _ hf.size hok.out rfl (by kernel_rfl)
 · (
 intro fr1 w1 hh hd hk K hK
 refine Stab.op_plain (o := _) rfl rfl ?_
 have s49 := Stage.u 3 10 hd hk rfl [] (by kernel_rfl) rfl rfl rfl
 have s59 := Stage.u 13 0 hd hk rfl [] (by kernel_rfl) rfl rfl rfl
 clear hd
 go_simp
 exact hK.out _ rfl _ rfl)
 refine Stage.todo_facts (n := 168) (by kernel_rfl) hf.size hok.out rfl (by decide) (by decide) rfl (fun fr1 w1 hh hg hw => ?_)
 replace hw : w1 = wqc.drew := hw
 subst hw
 replace s0 := Stage.o hh (by kernel_rfl) s0
 replace s1 := Stage.o hh (by kernel_rfl) s1
 replace s10 := Stage.o hh (by kernel_rfl) s10
 replace s11 := Stage.o hh (by kernel_rfl) s11
 have s46 := Stage.e 0 14 hg rfl rfl rfl rfl
 have s47 := Stage.e 1 13 hg rfl rfl rfl rfl
 have s48 := Stage.e 2 12 hg rfl rfl rfl rfl
 have s49 := Stage.e 3 11 hg rfl rfl rfl rfl
 have s50 := Stage.e 4 10 hg rfl rfl rfl rfl
 have s51 := Stage.e 5 9 hg rfl rfl rfl rfl
 have s52 := Stage.e 6 8 hg rfl rfl rfl rfl
 have s53 := Stage.e 7 7 hg rfl rfl rfl rfl
 have s54 := Stage.e 8 6 hg rfl rfl rfl rfl
 have s55 := Stage.e 9 5 hg rfl rfl rfl rfl
 have s56 := Stage.e 10 4 hg rfl rfl rfl rfl
 have s57 := Stage.e 11 3 hg rfl rfl rfl rfl
 have s58 := Stage.e 12 2 hg rfl rfl rfl rfl
 have s59 := Stage.e 13 1 hg rfl rfl rfl rfl
 have s60 := Stage.e 14 0 hg rfl rfl rfl rfl
 have hf1 : Fact.Fr 168 fr1 := ⟨hh.size.trans hf.size, hh.defers.trans hf.defers⟩
 clear hg hh hf
 have hf := hf1; clear hf1
 clear hok
 have ha3 := ha.drew; have ho3 := ho.drew
 clear ha ho cx cy
 generalize wqc.drew = wd at *
 refine Fact.nx (hK11 _ _ ?_)
 refine Fact.cond_f s60 ?_
 have hstop := HF.out
 clear HF
 refine wp_exit ?_
 refine Fact.then_exit ?_
 refine Fact.then_exit ?_
 refine Fact.block_exit ?_
 refine Fact.then_normal ?_
 exact ⟨_, _, hbd, hpt, .inr ⟨hst.resolve_left (by omega), hstop⟩, hf, s0, s1, s10, s11, ha3, ho3⟩)
 · (
 have hF : ¬ ys.getD (q + 1) 0 < ys.getD a 0 := by rw [Hxd.out, Hyd.out]; exact hxy
 have HF := Lib.hid hF; clear hF
 refine wp_seq_k (fun K12 hK12 => ?_)
 refine wp_seq_k (fun K13 hK13 => ?_)
 refine Stage.begin_ (n := 168) [] (fun k w1 => w1 = [wqc.drew].getD k (wqc.drew)) (Stab.OkOps.of (by kernel_rfl)) (fun hok => ?_)
 refine Stage.mvO (k := 0) s10 hf.size hok.out rfl rfl rfl (.inl rfl) (by kernel_rfl) (by kernel_rfl) ?_
 refine Stage.mvO (k := 1) s11 hf.size hok.out rfl rfl rfl (.inl rfl) (by kernel_rfl) (by kernel_rfl) ?_
 apply Stage.t 2 _ hf.size hok.out rfl (by kernel_rfl)
 · (
 intro fr1 w1 hh hd hk K hK
 refine Stab.op_plain (o := _) rfl rfl ?_
 have s46 := Stage.u 0 1 hd hk rfl [] (by kernel_rfl) rfl rfl rfl
 have s47 := Stage.u 1 0 hd hk rfl [] (by kernel_rfl) rfl rfl rfl
 clear hd
 go_simp
 exact hK.out _ rfl _ rfl)
 refine Stage.mvN (k := 3) (j := 2) (m := 0) hf.size hok.out rfl rfl rfl (.inl rfl) rfl [] (by kernel_rfl) rfl rfl rfl (by kernel_rfl) ?_
 apply Stage.t 4 _ hf.size hok.out rfl (by kernel_rfl)
 · (
 intro fr1 w1 hh hd hk K hK
 have s49 := Stage.u 3 0 hd hk rfl [] (by kernel_rfl) rfl rfl rfl
 refine Stab.op_guard (o := _) rfl rfl rfl rfl s49 ?_
 have s0 := Stage.o hh (by kernel_rfl) s0
 clear hd
 go_simp
 exact hK.out _ rfl _ rfl)
 apply Stage.t 5 _ hf.size hok.out rfl (by kernel_rfl)
 · (
 intro fr1 w1 hh hd hk K hK
 have s49 := Stage.u 3 1 hd hk rfl [] (by kernel_rfl) rfl rfl rfl
 refine Stab.op_guard (o := _) rfl rfl rfl rfl s49 ?_
 have s11 := Stage.o hh (by kernel_rfl) s11
 clear hd
 go_simp
 exact hK.out _ rfl _ rfl)
 apply Stage.t 6 _ hf.size hok.out rfl (by kernel_rfl)
 · (
 intro fr1 w1 hh hd hk K hK
 have s49 := Stage.u 3 2 hd hk rfl [] (by kernel_rfl) rfl rfl rfl
 refine Stab.op_guard (o := _) rfl rfl rfl rfl s49 ?_
 have s50 := Stage.u 4 1 hd hk rfl [] (by kernel_rfl) rfl rfl rfl
 have s51 := Stage.u 5 0 hd hk rfl [] (by kernel_rfl) rfl rfl rfl
 clear hd
 go_simp
 exact hK.out _ rfl _ rfl)
 apply Stage.todo_look (k := 7) (n := 168) 0 [] [] _ hf.size hok.out rfl (by kernel_rfl)
 · (
 intro fr1 w1 hh hw hd hk K hK
 replace hw : w1 = wqc.drew := hw
 subst hw
 have s49 := Stage.u 3 3 hd hk rfl [] (by kernel_rfl) rfl rfl rfl
 refine Stab.op_guard (o := _) rfl rfl rfl rfl s49 ?_
 have s52 := Stage.u 6 0 hd hk rfl [] (by kernel_rfl) rfl rfl rfl
 clear hd
 go_simp
 exact hK.out _ rfl _ _ rfl rfl)
 apply Stage.t 8 _ hf.size hok.out rfl (by kernel_rfl)
 · (
 intro fr1 w1 hh hd hk K hK
 have s49 := Stage.u 3 4 hd hk rfl [] (by kernel_rfl) rfl rfl rfl
 refine Stab.op_guard (o := _) rfl rfl rfl rfl s49 ?_
 have s0 := Stage.o hh (by kernel_rfl) s0
 clear hd
 go_simp
 exact hK.out _ rfl _ rfl)
 apply Stage.t 9 _ hf.size hok.out rfl (by kernel_rfl)
 · (
 intro fr1 w1 hh hd hk K hK
 have s49 := Stage.u 3 5 hd hk rfl [] (by kernel_rfl) rfl rfl rfl
 refine Stab.op_guard (o := _) rfl rfl rfl rfl s49 ?_
 have s1 := Stage.o hh (by kernel_rfl) s1
 clear hd
 go_simp
 exact hK.out _ rfl _ rfl)
 apply Stage.t 10 _ hf.size hok.out rfl (by kernel_rfl)
 · (
 intro fr1 w1 hh hd hk K hK
 have s49 := Stage.u 3 6 hd hk rfl [] (by kernel_rfl) rfl rfl rfl
 refine Stab.op_guard (o := _) rfl rfl rfl rfl s49 ?_
 have s54 := Stage.u 8 1 hd hk rfl [] (by kernel_rfl) rfl rfl rfl
 have s55 := Stage.u 9 0 hd hk rfl [] (by kernel_rfl) rfl rfl rfl
 clear hd
 go_simp
 exact hK.out _ rfl _ rfl)
 apply Stage.todo_look (k := 11) (n := 168) 0 [] [] _ hf.size hok.out rfl (by kernel_rfl)
 · (
 intro fr1 w1 hh hw hd hk K hK
 replace hw : w1 = wqc.drew := hw
 subst hw
 have s49 := Stage.u 3 7 hd hk rfl [] (by kernel_rfl) rfl rfl rfl
 refine Stab.op_guard (o := _) rfl rfl rfl rfl s49 ?_
 have s56 := Stage.u 10 0 hd hk rfl [] (by kernel_rfl) rfl rfl rfl
 clear hd
 go_simp
 exact hK.out _ rfl _ _ rfl rfl)
 apply Stage.todo_look (k := 12) (n := 168) 0 [] [] _ hf.size hok.out rfl (by kernel_rfl)
 · (
 intro fr1 w1 hh hw hd hk K hK
 replace hw : w1 = wqc.drew := hw
 subst hw
 have s49 := Stage.u 3 8 hd hk rfl [] (by kernel_rfl) rfl rfl rfl
 refine Stab.op_guard (o := _) rfl rfl rfl rfl s49 ?_
 have s53 := Stage.u 7 4 hd hk rfl [] (by kernel_rfl) rfl rfl rfl
 have s57 := Stage.u 11 0 hd hk rfl [] (by kernel_rfl) rfl rfl rfl
 clear hd
 go_simp
 go_at_call 85; refine (less_any _ _ _).mono ?_; rintro e w2 ⟨rfl, rfl⟩
 exact hK.out _ rfl _ _ rfl rfl)
 apply Stage.t 13 _ hf.size hok.out rfl (by kernel_rfl)
 · (
 intro fr1 w1 hh hd hk K hK
 have s49 := Stage.u 3 9 hd hk rfl [] (by kernel_rfl) rfl rfl rfl
 refine Stab.op_guard (o := _) rfl rfl rfl rfl s49 ?_
 have s58 := Stage.u 12 0 hd hk rfl [] (by kernel_rfl) rfl rfl rfl
 clear hd
 go_simp
 exact hK.out _ rfl _ rfl)
 apply Stage.t 14 _ hf.size hok.out rfl (by kernel_rfl)
 · (
 intro fr1 w1 hh hd hk K hK
 refine Stab.op_plain (o := _) rfl rfl ?_
 have s49 := Stage.u 3 10 hd hk rfl [] (by kernel_rfl) rfl rfl rfl
 have s59 := Stage.u 13 0 hd hk rfl [] (by kernel_rfl) rfl rfl rfl
 clear hd
 go_simp
 exact hK.out _ rfl _ rfl)
 refine Stage.todo_facts (n := 168) (by kernel_rfl) hf.size hok.out rfl (by decide) (by decide) rfl (fun fr1 w1 hh hg hw => ?_)
 replace hw : w1 = wqc.drew := hw
 subst hw
 replace s0 := Stage.o hh (by kernel_rfl) s0
 replace s1 := Stage.o hh (by kernel_rfl) s1
 replace s10 := Stage.o hh (by kernel_rfl) s10
 replace s11 := Stage.o hh (by kernel_rfl) s11
 have s46 := Stage.e 0 14 hg rfl rfl rfl rfl
 have s47 := Stage.e 1 13 hg rfl rfl rfl rfl
 have s48 := Stage.e 2 12 hg rfl rfl rfl rfl
 have s49 := Stage.e 3 11 hg rfl rfl rfl rfl
 have s50 := Stage.e 4 10 hg rfl rfl rfl rfl
 have s51 := Stage.e 5 9 hg rfl rfl rfl rfl
 have s52 := Stage.e 6 8 hg rfl rfl rfl rfl
 have s53 := Stage.e 7 7 hg rfl rfl rfl rfl
 have s54 := Stage.e 8 6 hg rfl rfl rfl rfl
 have s55 := Stage.e 9 5 hg rfl rfl rfl rfl
 have s56 := Stage.e 10 4 hg rfl rfl rfl rfl
 have s57 := Stage.e 11 3 hg rfl rfl rfl rfl
 have s58 := Stage.e 12 2 hg rfl rfl rfl rfl
 have s59 := Stage.e 13 1 hg rfl rfl rfl rfl
 have s60 := Stage.e 14 0 hg rfl rfl rfl rfl
 have hf1 : Fact.Fr 168 fr1 := ⟨hh.size.trans hf.size, hh.defers.trans hf.defers⟩
 clear hg hh hf
 have hf := hf1; clear hf1
 clear hok
 have ha3 := ha.drew; have ho3 := ho.drew
 clear ha ho cx cy
 generalize wqc.drew = wd at *
 refine Fact.nx (hK13 _ _ ?_)
 refine Fact.cond_t s60 ?_
 refine wp_skip ?_
 refine Fact.nx (hK12 _ _ ?_)
 refine wp_block ?_
 refine Fact.region ?_
 have b61 := hf.l 61 rfl
 have b62 := hf.l 62 rfl
 refine Fact.p rfl fun K hK => ?_
 go_simp
 refine hK.out _ _ ?_; clear hK K
 refine Fact.p rfl fun K hK => ?_
 go_simp
 try simp (disch := omega) only [Fact.wrap_i64, Fact.wrap_u8, Fact.wrap_u32, Fact.wrap_u64]
 refine hK.out _ _ ?_; clear hK K
 refine Fact.p rfl fun K hK => ?_
 go_simp
 refine hK.out _ _ ?_; clear hK K
 refine Fact.nil ?_
 refine Fact.q hf (by simp only [Fact.G]) rfl fun fr1 hf1 hT => ?_
 have hKp : _ ∧ _ ∧ _ ∧ _ ∧ _ ∧ _ ∧ _ ∧ _ ∧ _ ∧ _ ∧ _ ∧ _ ∧ _ ∧ _ ∧ _ ∧ _ ∧ _ ∧ _ ∧ _ ∧ _ ∧ _ := ⟨hT 0, hT 1, hT 10, hT 11, hT 46, hT 47, hT 48, hT 49, hT 50, hT 51, hT 52, hT 53, hT 54, hT 55, hT 56, hT 57, hT 58, hT 59, hT 60, hT 61, hT 62⟩
 simp only [Fact.G, Nat.reduceEqDiff, Nat.reduceLT, hf.size, reduceIte, s0, s1, s10, s46, s47, s48, s49, s50, s51, s52, s53, s54, s55, s56, s57, s58, s59, s60] at hKp
 clear hT hf s0 s1 s10 s11 s46 s47 s48 s49 s50 s51 s52 s53 s54 s55 s56 s57 s58 s59 s60 b61 b62
 obtain ⟨s0, s1, s10, s11, s46, s47, s48, s49, s50, s51, s52, s53, s54, s55, s56, s57, s58, s59, s60, s61, s62⟩ := hKp
 have hf := hf1; clear hf1
 refine Fact.block_normal ?_
 refine Fact.then_normal ?_
 exact ⟨q + 1 - i, by have := HK.out; omega, i, q, rfl, by omega, hpt.down hij HF.out, (hst.imp (fun h => by omega) id), hf, s0, s1, s10, s11, ha3, ho3⟩))
 · (
 have hijI : ¬ (i : Int) ≤ (j : Int) := by omega
 refine wp_seq_k (fun K14 hK14 => ?_)
 refine wp_seq_k (fun K15 hK15 => ?_)
 refine Stage.begin_ (n := 168) [] (fun k w1 => w1 = [wqc.drew].getD k (wqc.drew)) (Stab.OkOps.of (by kernel_rfl)) (fun hok => ?_)
 refine Stage.mvO (k := 0) s10 hf.size hok.out rfl rfl rfl (.inl rfl) (by kernel_rfl) (by kernel_rfl) ?_
 refine Stage.mvO (k := 1) s11 hf.size hok.out rfl rfl rfl (.inl rfl) (by kernel_rfl) (by kernel_rfl) ?_
 apply Stage.t 2 _ hf.size hok.out rfl (by kernel_rfl)
 · (
 intro fr1 w1 hh hd hk K hK
 refine Stab.op_plain (o := _) rfl rfl ?_
 have s46 := Stage.u 0 1 hd hk rfl [] (by kernel_rfl) rfl rfl rfl
 have s47 := Stage.u 1 0 hd hk rfl [] (by kernel_rfl) rfl rfl rfl
 clear hd
 go_simp
 exact hK.out _ rfl _ rfl)
 refine Stage.mvN (k := 3) (j := 2) (m := 0) hf.size hok.out rfl rfl rfl (.inl rfl) rfl [] (by kernel_rfl) rfl rfl rfl (by kernel_rfl) ?_
 apply Stage.t 4 _ hf.size hok.out rfl (by kernel_rfl)
 · (
 intro fr1 w1 hh hd hk K hK
 have s49 := Stage.u 3 0 hd hk rfl [] (by kernel_rfl) rfl rfl rfl
 refine Stab.op_skip (o := _) rfl rfl rfl rfl s49 ?_
 exact hK.out _ rfl _ rfl)
 apply Stage.t 5 _ hf.size hok.out rfl (by kernel_rfl)
 · (
 intro fr1 w1 hh hd hk K hK
 have s49 := Stage.u 3 1 hd hk rfl [] (by kernel_rfl) rfl rfl rfl
 refine Stab.op_skip (o := _) rfl rfl rfl rfl s49 ?_
 exact hK.out _ rfl _ rfl)
 apply Stage.t 6 _ hf.size hok.out rfl (by kernel_rfl)
 · (
 intro fr1 w1 hh hd hk K hK
 have s49 := Stage.u 3 2 hd hk rfl [] (by kernel_rfl) rfl rfl rfl
 refine Stab.op_skip (o := _) rfl rfl rfl rfl s49 ?_
 exact hK.out _ rfl _ rfl)
 apply Stage.t 7 _ hf.size hok.out rfl (by kernel_rfl)
 · (
 intro fr1 w1 hh hd hk K hK
 have s49 := Stage.u 3 3 hd hk rfl [] (by kernel_rfl) rfl rfl rfl
 refine Stab.op_skip (o := _) rfl rfl rfl rfl s49 ?_
 exact hK.out _ rfl _ rfl)
 apply Stage.t 8 _ hf.size hok.out rfl (by kernel_rfl)
 · (
 intro fr1 w1 hh hd hk K hK
 have s49 := Stage.u 3 4 hd hk rfl [] (by kernel_rfl) rfl rfl rfl
 refine Stab.op_skip (o := _) rfl rfl rfl rfl s49 ?_
 exact hK.out _ rfl _ rfl)
 apply Stage.t 9 _ hf.size hok.out rfl (by kernel_rfl)
 · (
 intro fr1 w1 hh hd hk K hK
 have s49 := Stage.u 3 5 hd hk rfl [] (by kernel_rfl) rfl rfl rfl
 refine Stab.op_skip (o := _) rfl rfl rfl rfl s49 ?_
 exact hK.out _ rfl _ rfl)
 apply Stage.t 10 _ hf.size hok.out rfl (by kernel_rfl)
 · (
 intro fr1 w1 hh hd hk K hK
 have s49 := Stage.u 3 6 hd hk rfl [] (by kernel_rfl) rfl rfl rfl
 refine Stab.op_skip (o := _) rfl rfl rfl rfl s49 ?_
 exact hK.out _ rfl _ rfl)
 apply Stage.t 11 _ hf.size hok.out rfl (by kernel_rfl)
 · (
 intro fr1 w1 hh hd hk K hK
 have s49 := Stage.u 3 7 hd hk rfl [] (by kernel_rfl) rfl rfl rfl
 refine Stab.op_skip (o := _) rfl rfl rfl rfl s49 ?_
 exact hK.out _ rfl _ rfl)
 apply Stage.t 12 _ hf.size hok.out rfl (by kernel_rfl)
 · (
 intro fr1 w1 hh hd hk K hK
 have s49 := Stage.u 3 8 hd hk rfl [] (by kernel_rfl) rfl rfl rfl
 refine Stab.op_skip (o := _) rfl rfl rfl rfl s49 ?_
 exact hK.out _ rfl _ rfl)
 apply Stage.t 13 _ hf.size hok.out rfl (by kernel_rfl)
 · (
 intro fr1 w1 hh hd hk K hK
 have s49 := Stage.u 3 9 hd hk rfl [] (by kernel_rfl) rfl rfl rfl
 refine Stab.op_skip (o := _) rfl rfl rfl rfl s49 ?_
 exact hK.out _ rfl _ rfl)
 apply Stage.t 14 _ hf.size hok.out rfl (by kernel_rfl)
 · (
 intro fr1 w1 hh hd hk K hK
 refine Stab.op_plain (o := _) rfl rfl ?_
 have s49 := Stage.u 3 10 hd hk rfl [] (by kernel_rfl) rfl rfl rfl
 have s59 := Stage.u 13 0 hd hk rfl [] (by kernel_rfl) rfl rfl rfl
 clear hd
 go_simp
 exact hK.out _ rfl _ rfl)
 refine Stage.todo_facts (n := 168) (by kernel_rfl) hf.size hok.out rfl (by decide) (by decide) rfl (fun fr1 w1 hh hg hw => ?_)
 replace hw : w1 = wqc.drew := hw
 subst hw
 replace s0 := Stage.o hh (by kernel_rfl) s0
 replace s1 := Stage.o hh (by kernel_rfl) s1
 replace s10 := Stage.o hh (by kernel_rfl) s10
 replace s11 := Stage.o hh (by kernel_rfl) s11
 have s46 := Stage.e 0 14 hg rfl rfl rfl rfl
 have s47 := Stage.e 1 13 hg rfl rfl rfl rfl
 have s48 := Stage.e 2 12 hg rfl rfl rfl rfl
 have s49 := Stage.e 3 11 hg rfl rfl rfl rfl
 have s50 := Stage.e 4 10 hg rfl rfl rfl rfl
 have s51 := Stage.e 5 9 hg rfl rfl rfl rfl
 have s52 := Stage.e 6 8 hg rfl rfl rfl rfl
 have s53 := Stage.e 7 7 hg rfl rfl rfl rfl
 have s54 := Stage.e 8 6 hg rfl rfl rfl rfl
 have s55 := Stage.e 9 5 hg rfl rfl rfl rfl
 have s56 := Stage.e 10 4 hg rfl rfl rfl rfl
 have s57 := Stage.e 11 3 hg rfl rfl rfl rfl
 have s58 := Stage.e 12 2 hg rfl rfl rfl rfl
 have s59 := Stage.e 13 1 hg rfl rfl rfl rfl
 have s60 := Stage.e 14 0 hg rfl rfl rfl rfl
 have hf1 : Fact.Fr 168 fr1 := ⟨hh.size.trans hf.size, hh.defers.trans hf.defers⟩
 clear hg hh hf
 have hf := hf1; clear hf1
 clear hok
 have ha3 := ha.drew; have ho3 := ho.drew
 clear ha ho
 generalize wqc.drew = wd at *
 refine Fact.nx (hK15 _ _ ?_)
 refine Fact.cond_f s60 ?_
 refine wp_exit ?_
 refine Fact.then_exit ?_
 refine Fact.then_exit ?_
 refine Fact.block_exit ?_
 refine Fact.then_normal ?_
 exact ⟨_, _, hbd, hpt, .inl (by omega), hf, s0, s1, s10, s11, ha3, ho3⟩)))
 · (
 clear hf s0 s1 s10 s11
 clear hpt ha ho hst hbd
 rintro fr wqd ⟨i, j, hbd, hpt, hst, hf, s0, s1, s10, s11, ha, ho⟩
 obtain ⟨hai, hij1, hjb⟩ := hpt.1
 by_cases hji : j < i
 · (
 have hjiI : (j : Int) < (i : Int) := by omega
 refine wp_seq_k (fun K16 hK16 => ?_)
 refine wp_seq_k (fun K17 hK17 => ?_)
 refine Fact.region ?_
 have b63 := hf.l 63 rfl
 have b64 := hf.l 64 rfl
 refine Fact.p rfl fun K hK => ?_
 go_simp
 refine hK.out _ _ ?_; clear hK K
 refine Fact.p rfl fun K hK => ?_
 go_simp
 refine hK.out _ _ ?_; clear hK K
 refine Fact.p rfl fun K hK => ?_
 go_simp
 refine hK.out _ _ ?_; clear hK K
 refine Fact.nil ?_
 refine Fact.q hf (by simp only [Fact.G]) rfl fun fr1 hf1 hT => ?_
 have hKp : _ ∧ _ ∧ _ ∧ _ ∧ _ := ⟨hT 0, hT 1, hT 10, hT 11, hT 65⟩
 simp only [Fact.G, Nat.reduceEqDiff, Nat.reduceLT, hf.size, reduceIte, s0, s1, s10, s11] at hKp
 clear hT hf s0 s1 s10 s11 b63 b64
 obtain ⟨s0, s1, s10, s11, s65⟩ := hKp
 have hf := hf1; clear hf1
 refine Fact.nx (hK17 _ _ ?_)
 refine Fact.cond_t s65 ?_
 have b6 : j < n := by omega
 have b7 : a < n := by omega
 obtain ⟨x, hx⟩ : ∃ v, ys[j]? = some v := ⟨ys[j]'(by have := HYL.out; omega), List.getElem?_eq_getElem _⟩
 have Hxd := Lib.hid (show ys.getD (j) 0 = x by simp [List.getD, hx])
 have Hx := Lib.hid hx
 clear hx
 obtain ⟨y, hy⟩ : ∃ v, ys[a]? = some v := ⟨ys[a]'(by have := HYL.out; omega), List.getElem?_eq_getElem _⟩
 have Hyd := Lib.hid (show ys.getD (a) 0 = y by simp [List.getD, hy])
 have Hy := Lib.hid hy
 clear hy
 have cx := ha.cell Hx.out; have cy := ha.cell Hy.out; have hfr := fun k => ha.frozen k
 have A1 := Lib.hid (ha.drew.set_ (j) y)
 have A0 := Lib.hid (ha.set_ (j) y)
 have C1 := A0.out.cell (i := a) (x := y) (set_get Hy.out)
 have F1 := A0.out.frozen (a)
 have A2 := Lib.hid (A1.out.set_ (a) x)
 have O2 := Lib.hid ((ho.drew.set_ (p := ⟨g, j, none⟩) (.inl rfl) (.int .u8 y)).set_ (p := ⟨g, a, none⟩) (.inl rfl) (.int .u8 x))
 clear ho ha
 refine wp_seq_k (fun K18 hK18 => ?_)
 refine Stage.begin_ (n := 168) [13, 15] (fun k w1 => w1 = [wqd.drew, (wqd.drew.setCell ⟨g, j, none⟩ (.int .u8 y)), ((wqd.drew.setCell ⟨g, j, none⟩ (.int .u8 y)).setCell ⟨g, a, none⟩ (.int .u8 x))].getD k (wqd.drew)) (Stab.OkOps.of (by kernel_rfl)) (fun hok => ?_)
 refine Stage.mvO (k := 0) s0 hf.size hok.out rfl rfl rfl (.inl rfl) (by kernel_rfl) (by kernel_rfl) ?_
 refine Stage.mvO (k := 1) s11 hf.size hok.out rfl rfl rfl (.inl rfl) (by kernel_rfl) (by kernel_rfl) ?_
 refine Stage.mvO (k := 2) s0 hf.size hok.out rfl rfl rfl (.inl rfl) (by kernel_rfl) (by kernel_rfl) ?_
 refine Stage.mvO (k := 3) s1 hf.size hok.out rfl rfl rfl (.inl rfl) (by kernel_rfl) (by kernel_rfl) ?_
 refine Stage.mvO (k := 4) s0 hf.size hok.out rfl rfl rfl (.inl rfl) (by kernel_rfl) (by kernel_rfl) ?_
 refine Stage.mvO (k := 5) s1 hf.size hok.out rfl rfl rfl (.inl rfl) (by kernel_rfl) (by kernel_rfl) ?_
 apply Stage.t 6 _ hf.size hok.out rfl (by kernel_rfl)
 · (
 intro fr1 w1 hh hd hk K hK
 refine Stab.op_plain (o := _) rfl rfl ?_
 have s70 := Stage.u 4 1 hd hk rfl [] (by kernel_rfl) rfl rfl rfl
 have s71 := Stage.u 5 0 hd hk rfl [] (by kernel_rfl) rfl rfl rfl
 clear hd
 go_simp
 exact hK.out _ rfl _ rfl)
 apply Stage.todo_look (k := 7) (n := 168) 0 [] [] _ hf.size hok.out rfl (by kernel_rfl)
 · (
 intro fr1 w1 hh hw hd hk K hK
 replace hw : w1 = wqd.drew := hw
 subst hw
 refine Stab.op_plain (o := _) rfl rfl ?_
 have s72 := Stage.u 6 0 hd hk rfl [] (by kernel_rfl) rfl rfl rfl
 clear hd
 go_simp
 exact hK.out _ rfl _ _ rfl rfl)
 refine Stage.mvO (k := 8) s0 hf.size hok.out rfl rfl rfl (.inl rfl) (by kernel_rfl) (by kernel_rfl) ?_
 refine Stage.mvO (k := 9) s11 hf.size hok.out rfl rfl rfl (.inl rfl) (by kernel_rfl) (by kernel_rfl) ?_
 apply Stage.t 10 _ hf.size hok.out rfl (by kernel_rfl)
 · (
 intro fr1 w1 hh hd hk K hK
 refine Stab.op_plain (o := _) rfl rfl ?_
 have s74 := Stage.u 8 1 hd hk rfl [] (by kernel_rfl) rfl rfl rfl
 have s75 := Stage.u 9 0 hd hk rfl [] (by kernel_rfl) rfl rfl rfl
 clear hd
 go_simp
 exact hK.out _ rfl _ rfl)
 apply Stage.todo_look (k := 11) (n := 168) 0 [] [] _ hf.size hok.out rfl (by kernel_rfl)
 · (
 intro fr1 w1 hh hw hd hk K hK
 replace hw : w1 = wqd.drew := hw
 subst hw
 refine Stab.op_plain (o := _) rfl rfl ?_
 have s76 := Stage.u 10 0 hd hk rfl [] (by kernel_rfl) rfl rfl rfl
 clear hd
 go_simp
 exact hK.out _ rfl _ _ rfl rfl)
 apply Stage.t 12 _ hf.size hok.out rfl (by kernel_rfl)
 · (
 intro fr1 w1 hh hd hk K hK
 refine Stab.op_plain (o := _) rfl rfl ?_
 have s66 := Stage.u 0 11 hd hk rfl [] (by kernel_rfl) rfl rfl rfl
 have s67 := Stage.u 1 10 hd hk rfl [] (by kernel_rfl) rfl rfl rfl
 clear hd
 go_simp
 exact hK.out _ rfl _ rfl)
 refine Stage.todo_lead (k := 13) (n := 168) 0 [] (fun _ => True) hf.size hok.out rfl (by kernel_rfl) ?_ ?_
 · (
 intro fr1 w1 hh hw hd hk K hK
 replace hw : w1 = wqd.drew := hw
 subst hw
 refine Stab.op_plain (o := _) rfl rfl ?_
 have s78 := Stage.u 12 0 hd hk rfl [] (by kernel_rfl) rfl rfl rfl
 have s73 := Stage.u 7 5 hd hk rfl [] (by kernel_rfl) rfl rfl rfl
 clear hd
 go_simp
 exact hK.out _ rfl undef _ rfl trivial)
 apply Stage.t 14 _ hf.size hok.out rfl (by kernel_rfl)
 · (
 intro fr1 w1 hh hd hk K hK
 refine Stab.op_plain (o := _) rfl rfl ?_
 have s68 := Stage.u 2 11 hd hk rfl [] (by kernel_rfl) rfl rfl rfl
 have s69 := Stage.u 3 10 hd hk rfl [] (by kernel_rfl) rfl rfl rfl
 clear hd
 go_simp
 exact hK.out _ rfl _ rfl)
 refine Stage.todo_lead (k := 15) (n := 168) 1 [] (fun _ => True) hf.size hok.out rfl (by kernel_rfl) ?_ ?_
 · (
 intro fr1 w1 hh hw hd hk K hK
 replace hw : w1 = (wqd.drew.setCell ⟨g, j, none⟩ (.int .u8 y)) := hw
 subst hw
 refine Stab.op_plain (o := _) rfl rfl ?_
 have s79 := Stage.u 14 0 hd hk rfl [] (by kernel_rfl) rfl rfl rfl
 have s77 := Stage.u 11 3 hd hk rfl [] (by kernel_rfl) rfl rfl rfl
 clear hd
 go_simp
 exact hK.out _ rfl undef _ rfl trivial)
 refine Stage.todo_facts (n := 168) (by kernel_rfl) hf.size hok.out rfl (by decide) (by decide) rfl (fun fr1 w1 hh hg hw => ?_)
 replace hw : w1 = ((wqd.drew.setCell ⟨g, j, none⟩ (.int .u8 y)).setCell ⟨g, a, none⟩ (.int .u8 x)) := hw
 subst hw
 replace s0 := Stage.o hh (by kernel_rfl) s0
 replace s1 := Stage.o hh (by kernel_rfl) s1
 replace s10 := Stage.o hh (by kernel_rfl) s10
 replace s11 := Stage.o hh (by kernel_rfl) s11
 have hf1 : Fact.Fr 168 fr1 := ⟨hh.size.trans hf.size, hh.defers.trans hf.defers⟩
 clear hg hh hf s65
 have hf := hf1; clear hf1
 clear hok
 have ha3 := A2.out; rw [show (ys.set j y).set a x = swap ys j a by unfold swap; rw [Hxd.out, Hyd.out]] at ha3
 have ho3 := O2.out
 clear A0 A1 A2 O2 C1 F1 cx cy hfr Hx Hxd Hy Hyd
 refine Fact.nx (hK18 _ _ ?_)
 refine wp_seq_k (fun K19 hK19 => ?_)
 refine Fact.region ?_
 have b80 := hf.l 80 rfl
 refine Fact.p rfl fun K hK => ?_
 go_simp
 refine hK.out _ _ ?_; clear hK K
 refine Fact.p rfl fun K hK => ?_
 go_simp
 refine hK.out _ _ ?_; clear hK K
 refine Fact.p rfl fun K hK => ?_
 go_simp
 refine hK.out _ _ ?_; clear hK K
 refine Fact.nil ?_
 refine Fact.q hf (by simp only [Fact.G]) rfl fun fr1 hf1 hT => ?_
 have hKp : _ ∧ _ ∧ _ ∧ _ ∧ _ ∧ _ := ⟨hT 0, hT 1, hT 8, hT 9, hT 10, hT 11⟩
 simp only [Fact.G, Nat.reduceEqDiff, Nat.reduceLT, hf.size, reduceIte, s0, s1, s10, s11] at hKp
 clear hT hf s0 s1 s10 s11 b80
 obtain ⟨s0, s1, s8, s9, s10, s11⟩ := hKp
 have hf := hf1; clear hf1
 refine Fact.nx (hK19 _ _ ?_)
 refine wp_ret ?_
 refine Fact.then_ret ?_
 have hd := hpt.done (by have := HYL.out; omega) hji (by omega)
 exact Fact.ret2 rfl hf s8 s9 ⟨j, _, swap ys j a, rfl, by omega, hjb, hsg.swap (by omega) hjb (by omega) (by omega), hd.1, hd.2, ha3, ho3⟩)
 · (
 have hjiI : ¬ (j : Int) < (i : Int) := by omega
 refine wp_seq_k (fun K20 hK20 => ?_)
 refine wp_seq_k (fun K21 hK21 => ?_)
 refine Fact.region ?_
 have b63 := hf.l 63 rfl
 have b64 := hf.l 64 rfl
 refine Fact.p rfl fun K hK => ?_
 go_simp
 refine hK.out _ _ ?_; clear hK K
 refine Fact.p rfl fun K hK => ?_
 go_simp
 refine hK.out _ _ ?_; clear hK K
 refine Fact.p rfl fun K hK => ?_
 go_simp
 refine hK.out _ _ ?_; clear hK K
 refine Fact.nil ?_
 refine Fact.q hf (by simp only [Fact.G]) rfl fun fr1 hf1 hT => ?_
 have hKp : _ ∧ _ ∧ _ ∧ _ ∧ _ := ⟨hT 0, hT 1, hT 10, hT 11, hT 65⟩
 simp only [Fact.G, Nat.reduceEqDiff, Nat.reduceLT, hf.size, reduceIte, s0, s1, s10, s11] at hKp
 clear hT hf s0 s1 s10 s11 b63 b64
 obtain ⟨s0, s1, s10, s11, s65⟩ := hKp
 have hf := hf1; clear hf1
 refine Fact.nx (hK21 _ _ ?_)
 refine Fact.cond_f s65 ?_
 have hst2 := hst.resolve_left hji
 obtain ⟨q, rfl⟩ : ∃ q, j = q + 1 := ⟨j - 1, by omega⟩
 have hps := hpt.swap (by have := HYL.out; omega) (by omega) hst2.1 hst2.2
 have e2 : IntKind.i64.wrap ((q : Int) + 1 - 1) = (q : Int) := by rw [Fact.wrap_i64 (by omega) (by omega)]; omega
 have e3 : IntKind.i64.wrap (q : Int) = (q : Int) := Fact.wrap_i64 (by omega) (by omega)
 have b4 : (q : Int) + 1 < (n : Int) := by omega
 have b5 : (0 : Int) ≤ (q : Int) + 1 := by omega
 have b6 : i < n := by omega
 have e1 : IntKind.i64.wrap ((i : Int) + 1) = (i : Int) + 1 := Fact.wrap_i64 (by omega) (by omega)
 obtain ⟨x, hx⟩ : ∃ v, ys[i]? = some v := ⟨ys[i]'(by have := HYL.out; omega), List.getElem?_eq_getElem _⟩
 have Hxd := Lib.hid (show ys.getD (i) 0 = x by simp [List.getD, hx])
 have Hx := Lib.hid hx
 clear hx
 obtain ⟨y, hy⟩ : ∃ v, ys[q + 1]? = some v := ⟨ys[q + 1]'(by have := HYL.out; omega), List.getElem?_eq_getElem _⟩
 have Hyd := Lib.hid (show ys.getD (q + 1) 0 = y by simp [List.getD, hy])
 have Hy := Lib.hid hy
 clear hy
 have cx := ha.cell Hx.out; have cy := ha.cell Hy.out; have hfr := fun k => ha.frozen k
 have A1 := Lib.hid (ha.drew.set_ (i) y)
 have A0 := Lib.hid (ha.set_ (i) y)
 have C1 := A0.out.cell (i := q + 1) (x := y) (set_get Hy.out)
 have F1 := A0.out.frozen (q + 1)
 have A2 := Lib.hid (A1.out.set_ (q + 1) x)
 have O2 := Lib.hid ((ho.drew.set_ (p := ⟨g, i, none⟩) (.inl rfl) (.int .u8 y)).set_ (p := ⟨g, q + 1, none⟩) (.inl rfl) (.int .u8 x))
 clear ho ha
 refine wp_skip ?_
 refine Fact.nx (hK20 _ _ ?_)
 refine wp_seq_k (fun K22 hK22 => ?_)
 refine Stage.begin_ (n := 168) [13, 15] (fun k w1 => w1 = [wqd.drew, (wqd.drew.setCell ⟨g, i, none⟩ (.int .u8 y)), ((wqd.drew.setCell ⟨g, i, none⟩ (.int .u8 y)).setCell ⟨g, q + 1, none⟩ (.int .u8 x))].getD k (wqd.drew)) (Stab.OkOps.of (by kernel_rfl)) (fun hok => ?_)
 refine Stage.mvO (k := 0) s0 hf.size hok.out rfl rfl rfl (.inl rfl) (by kernel_rfl) (by kernel_rfl) ?_
 refine Stage.mvO (k := 1) s10 hf.size hok.out rfl rfl rfl (.inl rfl) (by kernel_rfl) (by kernel_rfl) ?_
 refine Stage.mvO (k := 2) s0 hf.size hok.out rfl rfl rfl (.inl rfl) (by kernel_rfl) (by kernel_rfl) ?_
 refine Stage.mvO (k := 3) s11 hf.size hok.out rfl rfl rfl (.inl rfl) (by kernel_rfl) (by kernel_rfl) ?_
 refine Stage.mvO (k := 4) s0 hf.size hok.out rfl rfl rfl (.inl rfl) (by kernel_rfl) (by kernel_rfl) ?_
 refine Stage.mvO (k := 5) s11 hf.size hok.out rfl rfl rfl (.inl rfl) (by kernel_rfl) (by kernel_rfl) ?_
 apply Stage.t 6 _ hf.size hok.out rfl (by kernel_rfl)
 · (
 intro fr1 w1 hh hd hk K hK
 refine Stab.op_plain (o := _) rfl rfl ?_
 have s85 := Stage.u 4 1 hd hk rfl [] (by kernel_rfl) rfl rfl rfl
 have s86 := Stage.u 5 0 hd hk rfl [] (by kernel_rfl) rfl rfl rfl
 clear hd
 go_simp
 exact hK.out _ rfl _ rfl)
 apply Stage.todo_look (k := 7) (n := 168) 0 [] [] _ hf.size hok.out rfl (by kernel_rfl)
 · (
 intro fr1 w1 hh hw hd hk K hK
 replace hw : w1 = wqd.drew := hw
 subst hw
 refine Stab.op_plain (o := _) rfl rfl ?_
 have s87 := Stage.u 6 0 hd hk rfl [] (by kernel_rfl) rfl rfl rfl
 clear hd
 go_simp
 exact hK.out _ rfl _ _ rfl rfl)
 refine Stage.mvO (k := 8) s0 hf.size hok.out rfl rfl rfl (.inl rfl) (by kernel_rfl) (by kernel_rfl) ?_
 refine Stage.mvO (k := 9) s10 hf.size hok.out rfl rfl rfl (.inl rfl) (by kernel_rfl) (by kernel_rfl) ?_
 apply Stage.t 10 _ hf.size hok.out rfl (by kernel_rfl)
 · (
 intro fr1 w1 hh hd hk K hK
 refine Stab.op_plain (o := _) rfl rfl ?_
 have s89 := Stage.u 8 1 hd hk rfl [] (by kernel_rfl) rfl rfl rfl
 have s90 := Stage.u 9 0 hd hk rfl [] (by kernel_rfl) rfl rfl rfl
 clear hd
 go_simp
 exact hK.out _ rfl _ rfl)
 apply Stage.todo_look (k := 11) (n := 168) 0 [] [] _ hf.size hok.out rfl (by kernel_rfl)
 · (
 intro fr1 w1 hh hw hd hk K hK
 replace hw : w1 = wqd.drew := hw
 subst hw
 refine Stab.op_plain (o := _) rfl rfl ?_
 have s91 := Stage.u 10 0 hd hk rfl [] (by kernel_rfl) rfl rfl rfl
 clear hd
 go_simp
 exact hK.out _ rfl _ _ rfl rfl)
 apply Stage.t 12 _ hf.size hok.out rfl (by kernel_rfl)
 · (
 intro fr1 w1 hh hd hk K hK
 refine Stab.op_plain (o := _) rfl rfl ?_
 have s81 := Stage.u 0 11 hd hk rfl [] (by kernel_rfl) rfl rfl rfl
 have s82 := Stage.u 1 10 hd hk rfl [] (by kernel_rfl) rfl rfl rfl
 clear hd
 go_simp
 exact hK.out _ rfl _ rfl)
 refine Stage.todo_lead (k := 13) (n := 168) 0 [] (fun _ => True) hf.size hok.out rfl (by kernel_rfl) ?_ ?_
 · (
 intro fr1 w1 hh hw hd hk K hK
 replace hw : w1 = wqd.drew := hw
 subst hw
 refine Stab.op_plain (o := _) rfl rfl ?_
 have s93 := Stage.u 12 0 hd hk rfl [] (by kernel_rfl) rfl rfl rfl
 have s88 := Stage.u 7 5 hd hk rfl [] (by kernel_rfl) rfl rfl rfl
 clear hd
 go_simp
 exact hK.out _ rfl undef _ rfl trivial)
 apply Stage.t 14 _ hf.size hok.out rfl (by kernel_rfl)
 · (
 intro fr1 w1 hh hd hk K hK
 refine Stab.op_plain (o := _) rfl rfl ?_
 have s83 := Stage.u 2 11 hd hk rfl [] (by kernel_rfl) rfl rfl rfl
 have s84 := Stage.u 3 10 hd hk rfl [] (by kernel_rfl) rfl rfl rfl
 clear hd
 go_simp
 exact hK.out _ rfl _ rfl)
 refine Stage.todo_lead (k := 15) (n := 168) 1 [] (fun _ => True) hf.size hok.out rfl (by kernel_rfl) ?_ ?_
 · (
 intro fr1 w1 hh hw hd hk K hK
 replace hw : w1 = (wqd.drew.setCell ⟨g, i, none⟩ (.int .u8 y)) := hw
 subst hw
 refine Stab.op_plain (o := _) rfl rfl ?_
 have s94 := Stage.u 14 0 hd hk rfl [] (by kernel_rfl) rfl rfl rfl
 have s92 := Stage.u 11 3 hd hk rfl [] (by kernel_rfl) rfl rfl rfl
 clear hd
 go_simp
 exact hK.out _ rfl undef _ rfl trivial)
 refine Stage.todo_facts (n := 168) (by kernel_rfl) hf.size hok.out rfl (by decide) (by decide) rfl (fun fr1 w1 hh hg hw => ?_)
 replace hw : w1 = ((wqd.drew.setCell ⟨g, i, none⟩ (.int .u8 y)).setCell ⟨g, q + 1, none⟩ (.int .u8 x)) := hw
 subst hw
 replace s0 := Stage.o hh (by kernel_rfl) s0
 replace s1 := Stage.o hh (by kernel_rfl) s1
 replace s10 := Stage.o hh (by kernel_rfl) s10
 replace s11 := Stage.o hh (by kernel_rfl) s11
 have hf1 : Fact.Fr 168 fr1 := ⟨hh.size.trans hf.size, hh.defers.trans hf.defers⟩
 clear hg hh hf s65
 have hf := hf1; clear hf1
 clear hok
 have ha3 := A2.out; rw [show (ys.set i y).set (q + 1) x = swap ys i (q + 1) by unfold swap; rw [Hxd.out, Hyd.out]] at ha3
 have ho3 := O2.out
 clear A0 A1 A2 O2 C1 F1 cx cy hfr Hx Hxd Hy Hyd
 generalize ((wqd.drew.setCell ⟨g, i, none⟩ (.int .u8 y)).setCell ⟨g, q + 1, none⟩ (.int .u8 x)) = wu at *
 refine Fact.nx (hK22 _ _ ?_)
 refine wp_seq_k (fun K23 hK23 => ?_)
 refine Fact.region ?_
 have b95 := hf.l 95 rfl
 have b96 := hf.l 96 rfl
 refine Fact.p rfl fun K hK => ?_
 go_simp
 refine hK.out _ _ ?_; clear hK K
 refine Fact.p rfl fun K hK => ?_
 go_simp
 try simp (disch := omega) only [Fact.wrap_i64, Fact.wrap_u8, Fact.wrap_u32, Fact.wrap_u64]
 refine hK.out _ _ ?_; clear hK K
 refine Fact.p rfl fun K hK => ?_
 go_simp
 refine hK.out _ _ ?_; clear hK K
 refine Fact.nil ?_
 refine Fact.q hf (by simp only [Fact.G]) rfl fun fr1 hf1 hT => ?_
 have hKp : _ ∧ _ ∧ _ ∧ _ := ⟨hT 0, hT 1, hT 10, hT 11⟩
 simp only [Fact.G, Nat.reduceEqDiff, Nat.reduceLT, hf.size, reduceIte, s0, s1, s11] at hKp
 clear hT hf s0 s1 s10 s11 b95 b96
 obtain ⟨s0, s1, s10, s11⟩ := hKp
 have hf := hf1; clear hf1
 refine Fact.nx (hK23 _ _ ?_)
 refine wp_seq_k (fun K24 hK24 => ?_)
 refine Fact.region ?_
 have b97 := hf.l 97 rfl
 have b98 := hf.l 98 rfl
 refine Fact.p rfl fun K hK => ?_
 go_simp
 refine hK.out _ _ ?_; clear hK K
 refine Fact.p rfl fun K hK => ?_
 go_simp
 try simp (disch := omega) only [Fact.wrap_i64, Fact.wrap_u8, Fact.wrap_u32, Fact.wrap_u64]
 refine hK.out _ _ ?_; clear hK K
 refine Fact.p rfl fun K hK => ?_
 go_simp
 refine hK.out _ _ ?_; clear hK K
 refine Fact.nil ?_
 refine Fact.q hf (by simp only [Fact.G]) rfl fun fr1 hf1 hT => ?_
 have hKp : _ ∧ _ ∧ _ ∧ _ := ⟨hT 0, hT 1, hT 10, hT 11⟩
 simp only [Fact.G, Nat.reduceEqDiff, Nat.reduceLT, hf.size, reduceIte, s0, s1, s10] at hKp
 clear hT hf s0 s1 s10 s11 b97 b98
 obtain ⟨s0, s1, s10, s11⟩ := hKp
 have hf := hf1; clear hf1
 refine Fact.nx (hK24 _ _ ?_)
 have hsg2 := hsg.swap (i := i) (j := q + 1) (by omega) (by omega) (by omega) (by omega)
 have HY2 := Lib.hid (show (swap ys i (q + 1)).length = n by rw [swap_length]; exact HYL.out)
 have hpt2 := hps.2
 clear hsg HYL hpt hst hst2 hps hai hij1 hjb hbd
 generalize swap ys i (q + 1) = ys at *
 have hpt := hpt2; have hsg := hsg2; have HYL := HY2; have ha := ha3; have ho := ho3; clear hpt2 hsg2 HY2 ha3 ho3
 have s10 : fr1.tmps[10]? = some (.int .i64 ((i + 1 : Nat) : Int)) := by first | exact s10 | (rw [s10]; go_num)
 refine Fact.seq_meet (fun fr wz => ∃ (i j : Nat) (ys : List Int), j < i ∧ Part (fun x p => x < p) a b i j ys ∧ Segm a b zs ys ∧ Fact.Fr 168 fr ∧ fr.tmps[0]? = some (.slice (some ⟨g, 0, none⟩) n c) ∧ fr.tmps[1]? = some (.int .i64 a) ∧ fr.tmps[11]? = some (.int .i64 j) ∧ Arr wz g ys ∧ Only w wz g) ?_ ?_
 · (
 refine wp_block ?_
 refine wp_loop_ghost (fun gk fr wm => ∃ (i j : Nat) (ys : List Int), gk = j + 1 - i ∧ Part (fun x p => x < p) a b i j ys ∧ Segm a b zs ys ∧ Fact.Fr 168 fr ∧ fr.tmps[0]? = some (.slice (some ⟨g, 0, none⟩) n c) ∧ fr.tmps[1]? = some (.int .i64 a) ∧ fr.tmps[10]? = some (.int .i64 i) ∧ fr.tmps[11]? = some (.int .i64 j) ∧ Arr wm g ys ∧ Only w wm g) (q + 1 - (i + 1)) ?_ ?_
 · (
 exact ⟨_, _, _, rfl, hpt, hsg, hf, s0, s1, s10, s11, ha, ho⟩)
 · (
 clear hf s0 s1 s10 s11
 clear hpt hsg ha ho HYL
 rintro gk fr wm ⟨i0, j0, ys, hk0, hpt, hsg, hf, s0, s1, s10, s11, ha, ho⟩
 have HK0 := Lib.hid hk0; clear hk0
 have HYL := Lib.hid (show ys.length = n by rw [hsg.len]; exact HN.out)
 refine wp_block ?_
 have hbd : i0 ≤ i0 ∧ j0 ≤ j0 := by omega
 refine Fact.seq_meet (fun fr wmb => ∃ i j : Nat, (i0 ≤ i ∧ j ≤ j0) ∧ Part (fun x p => x < p) a b i j ys ∧ (j < i ∨ ¬ ys.getD i 0 < ys.getD a 0) ∧ Fact.Fr 168 fr ∧ fr.tmps[0]? = some (.slice (some ⟨g, 0, none⟩) n c) ∧ fr.tmps[1]? = some (.int .i64 a) ∧ fr.tmps[10]? = some (.int .i64 i) ∧ fr.tmps[11]? = some (.int .i64 j) ∧ Arr wmb g ys ∧ Only w wmb g) ?_ ?_
 · (
 refine wp_block ?_
 refine wp_loop_ghost (fun gk fr wma => ∃ i j : Nat, gk = j + 1 - i ∧ (i0 ≤ i ∧ j ≤ j0) ∧ Part (fun x p => x < p) a b i j ys ∧ Fact.Fr 168 fr ∧ fr.tmps[0]? = some (.slice (some ⟨g, 0, none⟩) n c) ∧ fr.tmps[1]? = some (.int .i64 a) ∧ fr.tmps[10]? = some (.int .i64 i) ∧ fr.tmps[11]? = some (.int .i64 j) ∧ Arr wma g ys ∧ Only w wma g) (j0 + 1 - i0) ?_ ?_
 · (
 exact ⟨_, _, rfl, hbd, hpt, hf, s0, s1, s10, s11, ha, ho⟩)
 · (
 clear hf s0 s1 s10 s11
 clear hpt ha ho hbd
 rintro gk fr wma ⟨i, j, hk, hbd, hpt, hf, s0, s1, s10, s11, ha, ho⟩
 have HK := Lib.hid hk; clear hk
 obtain ⟨hai, hij1, hjb⟩ := hpt.1
 by_cases hij : i ≤ j
 · (
 have b1 : i < n := by omega
 have b2 : j < n := by omega
 have b3 : a < n := by omega
 have e1 : IntKind.i64.wrap ((i : Int) + 1) = ((i + 1 : Nat) : Int) := by rw [Fact.wrap_i64 (by omega) (by omega)]; omega
 obtain ⟨x, hx⟩ : ∃ v, ys[i]? = some v := ⟨ys[i]'(by have := HYL.out; omega), List.getElem?_eq_getElem _⟩
 have Hxd := Lib.hid (show ys.getD (i) 0 = x by simp [List.getD, hx])
 have Hx := Lib.hid hx
 clear hx
 obtain ⟨y, hy⟩ : ∃ v, ys[a]? = some v := ⟨ys[a]'(by have := HYL.out; omega), List.getElem?_eq_getElem _⟩
 have Hyd := Lib.hid (show ys.getD (a) 0 = y by simp [List.getD, hy])
 have Hy := Lib.hid hy
 clear hy
 have cx := ha.cell Hx.out; have cy := ha.cell Hy.out
 by_cases hxy : x < y
 · (
 have hF : ys.getD (i) 0 < ys.getD a 0 := by rw [Hxd.out, Hyd.out]; exact hxy
 have HF := Lib.hid hF; clear hF
 refine wp_seq_k (fun K25 hK25 => ?_)
 refine wp_seq_k (fun K26 hK26 => ?_)
 refine Stage.begin_ (n := 168) [] (fun k w1 => w1 = [wma.drew].getD k (wma.drew)) (Stab.OkOps.of (by kernel_rfl)) (fun hok => ?_)
 refine Stage.mvO (k := 0) s10 hf.size hok.out rfl rfl rfl (.inl rfl) (by kernel_rfl) (by kernel_rfl) ?_
 refine Stage.mvO (k := 1) s11 hf.size hok.out rfl rfl rfl (.inl rfl) (by kernel_rfl) (by kernel_rfl) ?_
 apply Stage.t 2 _ hf.size hok.out rfl (by kernel_rfl)
 · (
 intro fr1 w1 hh hd hk K hK
 refine Stab.op_plain (o := _) rfl rfl ?_
 have s99 := Stage.u 0 1 hd hk rfl [] (by kernel_rfl) rfl rfl rfl
 have s100 := Stage.u 1 0 hd hk rfl [] (by kernel_rfl) rfl rfl rfl
 clear hd
 go_simp
 exact hK.out _ rfl _ rfl)
 refine Stage.mvN (k := 3) (j := 2) (m := 0) hf.size hok.out rfl rfl rfl (.inl rfl) rfl [] (by kernel_rfl) rfl rfl rfl (by kernel_rfl) ?_
 apply Stage.t 4 _ hf.size hok.out rfl (by kernel_rfl)
 · (
 intro fr1 w1 hh hd hk K hK
 have s102 := Stage.u 3 0 hd hk rfl [] (by kernel_rfl) rfl rfl rfl
 refine Stab.op_guard (o := _) rfl rfl rfl rfl s102 ?_
 have s0 := Stage.o hh (by kernel_rfl) s0
 clear hd
 go_simp
 exact hK.out _ rfl _ rfl)
 apply Stage.t 5 _ hf.size hok.out rfl (by kernel_rfl)
 · (
 intro fr1 w1 hh hd hk K hK
 have s102 := Stage.u 3 1 hd hk rfl [] (by kernel_rfl) rfl rfl rfl
 refine Stab.op_guard (o := _) rfl rfl rfl rfl s102 ?_
 have s10 := Stage.o hh (by kernel_rfl) s10
 clear hd
 go_simp
 exact hK.out _ rfl _ rfl)
 apply Stage.t 6 _ hf.size hok.out rfl (by kernel_rfl)
 · (
 intro fr1 w1 hh hd hk K hK
 have s102 := Stage.u 3 2 hd hk rfl [] (by kernel_rfl) rfl rfl rfl
 refine Stab.op_guard (o := _) rfl rfl rfl rfl s102 ?_
 have s103 := Stage.u 4 1 hd hk rfl [] (by kernel_rfl) rfl rfl rfl
 have s104 := Stage.u 5 0 hd hk rfl [] (by kernel_rfl) rfl rfl rfl
 clear hd
 go_simp
 exact hK.out _ rfl _ rfl)
 apply Stage.todo_look (k := 7) (n := 168) 0 [] [] _ hf.size hok.out rfl (by kernel_rfl)
 · (
 intro fr1 w1 hh hw hd hk K hK
 replace hw : w1 = wma.drew := hw
 subst hw
 have s102 := Stage.u 3 3 hd hk rfl [] (by kernel_rfl) rfl rfl rfl
 refine Stab.op_guard (o := _) rfl rfl rfl rfl s102 ?_
 have s105 := Stage.u 6 0 hd hk rfl [] (by kernel_rfl) rfl rfl rfl
 clear hd
 go_simp
 exact hK.out _ rfl _ _ rfl rfl)
 apply Stage.t 8 _ hf.size hok.out rfl (by kernel_rfl)
 · (
 intro fr1 w1 hh hd hk K hK
 have s102 := Stage.u 3 4 hd hk rfl [] (by kernel_rfl) rfl rfl rfl
 refine Stab.op_guard (o := _) rfl rfl rfl rfl s102 ?_
 have s0 := Stage.o hh (by kernel_rfl) s0
 clear hd
 go_simp
 exact hK.out _ rfl _ rfl)
 apply Stage.t 9 _ hf.size hok.out rfl (by kernel_rfl)
 · (
 intro fr1 w1 hh hd hk K hK
 have s102 := Stage.u 3 5 hd hk rfl [] (by kernel_rfl) rfl rfl rfl
 refine Stab.op_guard (o := _) rfl rfl rfl rfl s102 ?_
 have s1 := Stage.o hh (by kernel_rfl) s1
 clear hd
 go_simp
 exact hK.out _ rfl _ rfl)
 apply Stage.t 10 _ hf.size hok.out rfl (by kernel_rfl)
 · (
 intro fr1 w1 hh hd hk K hK
 have s102 := Stage.u 3 6 hd hk rfl [] (by kernel_rfl) rfl rfl rfl
 refine Stab.op_guard (o := _) rfl rfl rfl rfl s102 ?_
 have s107 := Stage.u 8 1 hd hk rfl [] (by kernel_rfl) rfl rfl rfl
 have s108 := Stage.u 9 0 hd hk rfl [] (by kernel_rfl) rfl rfl rfl
 clear hd
 go_simp
 exact hK.out _ rfl _ rfl)
 apply Stage.todo_look (k := 11) (n := 168) 0 [] [] _ hf.size hok.out rfl (by kernel_rfl)
 · (
 intro fr1 w1 hh hw hd hk K hK
 replace hw : w1 = wma.drew := hw
 subst hw
 have s102 := Stage.u 3 7 hd hk rfl [] (by kernel_rfl) rfl rfl rfl
 refine Stab.op_guard (o := _) rfl rfl rfl rfl s102 ?_
 have s109 := Stage.u 10 0 hd hk rfl [] (by kernel_rfl) rfl rfl rfl
 clear hd
 go_simp
 exact hK.out _ rfl _ _ rfl rfl)
 apply Stage.todo_look (k := 12) (n := 168) 0 [] [] _ hf.size hok.out rfl (by kernel_rfl)
 · (
 intro fr1 w1 hh hw hd hk K hK
 replace hw : w1 = wma.drew := hw
 subst hw
 have s102 := Stage.u 3 8 hd hk rfl [] (by kernel_rfl) rfl rfl rfl
 refine Stab.op_guard (o := _) rfl rfl rfl rfl s102 ?_
 have s106 := Stage.u 7 4 hd hk rfl [] (by kernel_rfl) rfl rfl rfl
 have s110 := Stage.u 11 0 hd hk rfl [] (by kernel_rfl) rfl rfl rfl
 clear hd
 go_simp
 go_at_call 85; refine (less_any _ _ _).mono ?_; rintro e w2 ⟨rfl, rfl⟩
 exact hK.out _ rfl _ _ rfl rfl)
 apply Stage.t 13 _ hf.size hok.out rfl (by kernel_rfl)
 · (
 intro fr1 w1 hh hd hk K hK
 refine Stab.op_plain (o := _) rfl rfl ?_
 have s102 := Stage.u 3 9 hd hk rfl [] (by kernel_rfl) rfl rfl rfl
 have s111 := Stage.u 12 0 hd hk rfl [] (by kernel_rfl) rfl rfl rfl
 clear hd
 go_simp
 exact hK.out _ rfl _ rfl)
 refine Stage.todo_facts (n := 168) (by kernel_rfl) hf.size hok.out rfl (by decide) (by decide) rfl (fun fr1 w1 hh hg hw => ?_)
 replace hw : w1 = wma.drew := hw
 subst hw
 replace s0 := Stage.o hh (by kernel_rfl) s0
 replace s1 := Stage.o hh (by kernel_rfl) s1
 replace s10 := Stage.o hh (by kernel_rfl) s10
 replace s11 := Stage.o hh (by kernel_rfl) s11
 have s99 := Stage.e 0 13 hg rfl rfl rfl rfl
 have s100 := Stage.e 1 12 hg rfl rfl rfl rfl
 have s101 := Stage.e 2 11 hg rfl rfl rfl rfl
 have s102 := Stage.e 3 10 hg rfl rfl rfl rfl
 have s103 := Stage.e 4 9 hg rfl rfl rfl rfl
 have s104 := Stage.e 5 8 hg rfl rfl rfl rfl
 have s105 := Stage.e 6 7 hg rfl rfl rfl rfl
 have s106 := Stage.e 7 6 hg rfl rfl rfl rfl
 have s107 := Stage.e 8 5 hg rfl rfl rfl rfl
 have s108 := Stage.e 9 4 hg rfl rfl rfl rfl
 have s109 := Stage.e 10 3 hg rfl rfl rfl rfl
 have s110 := Stage.e 11 2 hg rfl rfl rfl rfl
 have s111 := Stage.e 12 1 hg rfl rfl rfl rfl
 have s112 := Stage.e 13 0 hg rfl rfl rfl rfl
 have hf1 : Fact.Fr 168 fr1 := ⟨hh.size.trans hf.size, hh.defers.trans hf.defers⟩
 clear hg hh hf
 have hf := hf1; clear hf1
 clear hok
 have ha3 := ha.drew; have ho3 := ho.drew
 clear ha ho cx cy
 generalize wma.drew = wd at *
 refine Fact.nx (hK26 _ _ ?_)
 refine Fact.cond_t s112 ?_
 refine wp_skip ?_
 refine Fact.nx (hK25 _ _ ?_)
 refine wp_block ?_
 refine Fact.region ?_
 have b113 := hf.l 113 rfl
 have b114 := hf.l 114 rfl
 refine Fact.p rfl fun K hK => ?_
 go_simp
 refine hK.out _ _ ?_; clear hK K
 refine Fact.p rfl fun K hK => ?_
 go_simp
 try simp (disch := omega) only [Fact.wrap_i64, Fact.wrap_u8, Fact.wrap_u32, Fact.wrap_u64]
 refine hK.out _ _ ?_; clear hK K
 refine Fact.p rfl fun K hK => ?_
 go_simp
 refine hK.out _ _ ?_; clear hK K
 refine Fact.nil ?_
 refine Fact.q hf (by simp only [Fact.G]) rfl fun fr1 hf1 hT => ?_
 have hKp : _ ∧ _ ∧ _ ∧ _ ∧ _ ∧ _ ∧ _ ∧ _ ∧ _ ∧ _ ∧ _ ∧ _ ∧ _ ∧ _ ∧ _ ∧ _ ∧ _ ∧ _ ∧ _ ∧ _ := ⟨hT 0, hT 1, hT 10, hT 11, hT 99, hT 100, hT 101, hT 102, hT 103, hT 104, hT 105, hT 106, hT 107, hT 108, hT 109, hT 110, hT 111, hT 112, hT 113, hT 114⟩
 simp only [Fact.G, Nat.reduceEqDiff, Nat.reduceLT, hf.size, reduceIte, s0, s1, s11, s99, s100, s101, s102, s103, s104, s105, s106, s107, s108, s109, s110, s111, s112] at hKp
 clear hT hf s0 s1 s10 s11 s99 s100 s101 s102 s103 s104 s105 s106 s107 s108 s109 s110 s111 s112 b113 b114
 obtain ⟨s0, s1, s10, s11, s99, s100, s101, s102, s103, s104, s105, s106, s107, s108, s109, s110, s111, s112, s113, s114⟩ := hKp
 have hf := hf1; clear hf1
 refine Fact.block_normal ?_
 refine Fact.then_normal ?_
 exact ⟨j + 1 - (i + 1), by have := HK.out; omega, i + 1, j, rfl, by omega, hpt.up hij HF.out, hf, s0, s1, s10, s11, ha3, ho3⟩)
 · (
 have hF : ¬ ys.getD (i) 0 < ys.getD a 0 := by rw [Hxd.out, Hyd.out]; exact hxy
 have HF := Lib.hid hF; clear hF
 refine wp_seq_k (fun K27 hK27 => ?_)
 refine wp_seq_k (fun K28 hK28 => ?_)
 refine Stage.begin_ (n := 168) [] (fun k w1 => w1 = [wma.drew].getD k (wma.drew)) (Stab.OkOps.of (by kernel_rfl)) (fun hok => ?_)
 refine Stage.mvO (k := 0) s10 hf.size hok.out rfl rfl rfl (.inl rfl) (by kernel_rfl) (by kernel_rfl) ?_
 refine Stage.mvO (k := 1) s11 hf.size hok.out rfl rfl rfl (.inl rfl) (by kernel_rfl) (by kernel_rfl) ?_
 apply Stage.t 2 _ hf.size hok.out rfl (by kernel_rfl)
 · (
 intro fr1 w1 hh hd hk K hK
 refine Stab.op_plain (o := _) rfl rfl ?_
 have s99 := Stage.u 0 1 hd hk rfl [] (by kernel_rfl) rfl rfl rfl
 have s100 := Stage.u 1 0 hd hk rfl [] (by kernel_rfl) rfl rfl rfl
 clear hd
 go_simp
 exact hK.out _ rfl _ rfl)
 refine Stage.mvN (k := 3) (j := 2) (m := 0) hf.size hok.out rfl rfl rfl (.inl rfl) rfl [] (by kernel_rfl) rfl rfl rfl (by kernel_rfl) ?_
 apply Stage.t 4 _ hf.size hok.out rfl (by kernel_rfl)
 · (
 intro fr1 w1 hh hd hk K hK
 have s102 := Stage.u 3 0 hd hk rfl [] (by kernel_rfl) rfl rfl rfl
 refine Stab.op_guard (o := _) rfl rfl rfl rfl s102 ?_
 have s0 := Stage.o hh (by kernel_rfl) s0
 clear hd
 go_simp
 exact hK.out _ rfl _ rfl)
 apply Stage.t 5 _ hf.size hok.out rfl (by kernel_rfl)
 · (
 intro fr1 w1 hh hd hk K hK
 have s102 := Stage.u 3 1 hd hk rfl [] (by kernel_rfl) rfl rfl rfl
 refine Stab.op_guard (o := _) rfl rfl rfl rfl s102 ?_
 have s10 := Stage.o hh (by kernel_rfl) s10
 clear hd
 go_simp
 exact hK.out _ rfl _ rfl)
 apply Stage.t 6 _ hf.size hok.out rfl (by kernel_rfl)
 · (
 intro fr1 w1 hh hd hk K hK
 have s102 := Stage.u 3 2 hd hk rfl [] (by kernel_rfl) rfl rfl rfl
 refine Stab.op_guard (o := _) rfl rfl rfl rfl s102 ?_
 have s103 := Stage.u 4 1 hd hk rfl [] (by kernel_rfl) rfl rfl rfl
 have s104 := Stage.u 5 0 hd hk rfl [] (by kernel_rfl) rfl rfl rfl
 clear hd
 go_simp
 exact hK.out _ rfl _ rfl)
 apply Stage.todo_look (k := 7) (n := 168) 0 [] [] _ hf.size hok.out rfl (by kernel_rfl)
 · (
 intro fr1 w1 hh hw hd hk K hK
 replace hw : w1 = wma.drew := hw
 subst hw
 have s102 := Stage.u 3 3 hd hk rfl [] (by kernel_rfl) rfl rfl rfl
 refine Stab.op_guard (o := _) rfl rfl rfl rfl s102 ?_
 have s105 := Stage.u 6 0 hd hk rfl [] (by kernel_rfl) rfl rfl rfl
 clear hd
 go_simp
 exact hK.out _ rfl _ _ rfl rfl)
 apply Stage.t 8 _ hf.size hok.out rfl (by kernel_rfl)
 · (
 intro fr1 w1 hh hd hk K hK
 have s102 := Stage.u 3 4 hd hk rfl [] (by kernel_rfl) rfl rfl rfl
 refine Stab.op_guard (o := _) rfl rfl rfl rfl s102 ?_
 have s0 := Stage.o hh (by kernel_rfl) s0
 clear hd
 go_simp
 exact hK.out _ rfl _ rfl)
 apply Stage.t 9 _ hf.size hok.out rfl (by kernel_rfl)
 · (
 intro fr1 w1 hh hd hk K hK
 have s102 := Stage.u 3 5 hd hk rfl [] (by kernel_rfl) rfl rfl rfl
 refine Stab.op_guard (o := _) rfl rfl rfl rfl s102 ?_
 have s1 := Stage.o hh (by kernel_rfl) s1
 clear hd
 go_simp
 exact hK.out _ rfl _ rfl)
 apply Stage.t 10 _ hf.size hok.out rfl (by kernel_rfl)
 · (
 intro fr1 w1 hh hd hk K hK
 have s102 := Stage.u 3 6 hd hk rfl [] (by kernel_rfl) rfl rfl rfl
 refine Stab.op_guard (o := _) rfl rfl rfl rfl s102 ?_
 have s107 := Stage.u 8 1 hd hk rfl [] (by kernel_rfl) rfl rfl rfl
 have s108 := Stage.u 9 0 hd hk rfl [] (by kernel_rfl) rfl rfl rfl
 clear hd
 go_simp
 exact hK.out _ rfl _ rfl)
 apply Stage.todo_look (k := 11) (n := 168) 0 [] [] _ hf.size hok.out rfl (by kernel_rfl)
 · (
 intro fr1 w1 hh hw hd hk K hK
 replace hw : w1 = wma.drew := hw
 subst hw
 have s102 := Stage.u 3 7 hd hk rfl [] (by kernel_rfl) rfl rfl rfl
 refine Stab.op_guard (o := _) rfl rfl rfl rfl s102 ?_
 have s109 := Stage.u 10 0 hd hk rfl [] (by kernel_rfl) rfl rfl rfl
 clear hd
 go_simp
 exact hK.out _ rfl _ _ rfl rfl)
 apply Stage.todo_look (k := 12) (n := 168) 0 [] [] _ hf.size hok.out rfl (by kernel_rfl)
 · (
 intro fr1 w1 hh hw hd hk K hK
 replace hw : w1 = wma.drew := hw
 subst hw
 have s102 := Stage.u 3 8 hd hk rfl [] (by kernel_rfl) rfl rfl rfl
 refine Stab.op_guard (o := _) rfl rfl rfl rfl s102 ?_
 have s106 := Stage.u 7 4 hd hk rfl [] (by kernel_rfl) rfl rfl rfl
 have s110 := Stage.u 11 0 hd hk rfl [] (by kernel_rfl) rfl rfl rfl
 clear hd
 go_simp
 go_at_call 85; refine (less_any _ _ _).mono ?_; rintro e w2 ⟨rfl, rfl⟩
 exact hK.out _ rfl _ _ rfl rfl)
 apply Stage.t 13 _ hf.size hok.out rfl (by kernel_rfl)
 · (
 intro fr1 w1 hh hd hk K hK
 refine Stab.op_plain (o := _) rfl rfl ?_
 have s102 := Stage.u 3 9 hd hk rfl [] (by kernel_rfl) rfl rfl rfl
 have s111 := Stage.u 12 0 hd hk rfl [] (by kernel_rfl) rfl rfl rfl
 clear hd
 go_simp
 exact hK.out _ rfl _ rfl)
 refine Stage.todo_facts (n := 168) (by kernel_rfl) hf.size hok.out rfl (by decide) (by decide) rfl (fun fr1 w1 hh hg hw => ?_)
 replace hw : w1 = wma.drew := hw
 subst hw
 replace s0 := Stage.o hh (by kernel_rfl) s0
 replace s1 := Stage.o hh (by kernel_rfl) s1
 replace s10 := Stage.o hh (by kernel_rfl) s10
 replace s11 := Stage.o hh (by kernel_rfl) s11
 have s99 := Stage.e 0 13 hg rfl rfl rfl rfl
 have s100 := Stage.e 1 12 hg rfl rfl rfl rfl
 have s101 := Stage.e 2 11 hg rfl rfl rfl rfl
 have s102 := Stage.e 3 10 hg rfl rfl rfl rfl
 have s103 := Stage.e 4 9 hg rfl rfl rfl rfl
 have s104 := Stage.e 5 8 hg rfl rfl rfl rfl
 have s105 := Stage.e 6 7 hg rfl rfl rfl rfl
 have s106 := Stage.e 7 6 hg rfl rfl rfl rfl
 have s107 := Stage.e 8 5 hg rfl rfl rfl rfl
 have s108 := Stage.e 9 4 hg rfl rfl rfl rfl
 have s109 := Stage.e 10 3 hg rfl rfl rfl rfl
 have s110 := Stage.e 11 2 hg rfl rfl rfl rfl
 have s111 := Stage.e 12 1 hg rfl rfl rfl rfl
 have s112 := Stage.e 13 0 hg rfl rfl rfl rfl
 have hf1 : Fact.Fr 168 fr1 := ⟨hh.size.trans hf.size, hh.defers.trans hf.defers⟩
 clear hg hh hf
 have hf := hf1; clear hf1
 clear hok
 have ha3 := ha.drew; have ho3 := ho.drew
 clear ha ho cx cy
 generalize wma.drew = wd at *
 refine Fact.nx (hK28 _ _ ?_)
 refine Fact.cond_f s112 ?_
 have hstop := HF.out
 clear HF
 refine wp_exit ?_
 refine Fact.then_exit ?_
 refine Fact.then_exit ?_
 refine Fact.block_exit ?_
 refine Fact.then_normal ?_
 exact ⟨_, _, hbd, hpt, .inr hstop, hf, s0, s1, s10, s11, ha3, ho3⟩))
 · (
 have hijI : ¬ (i : Int) ≤ (j : Int) := by omega
 refine wp_seq_k (fun K29 hK29 => ?_)
 refine wp_seq_k (fun K30 hK30 => ?_)
 refine Stage.begin_ (n := 168) [] (fun k w1 => w1 = [wma.drew].getD k (wma.drew)) (Stab.OkOps.of (by kernel_rfl)) (fun hok => ?_)
 refine Stage.mvO (k := 0) s10 hf.size hok.out rfl rfl rfl (.inl rfl) (by kernel_rfl) (by kernel_rfl) ?_
 refine Stage.mvO (k := 1) s11 hf.size hok.out rfl rfl rfl (.inl rfl) (by kernel_rfl) (by kernel_rfl) ?_
 apply Stage.t 2 _ hf.size hok.out rfl (by kernel_rfl)
 · (
 intro fr1 w1 hh hd hk K hK
 refine Stab.op_plain (o := _) rfl rfl ?_
 have s99 := Stage.u 0 1 hd hk rfl [] (by kernel_rfl) rfl rfl rfl
 have s100 := Stage.u 1 0 hd hk rfl [] (by kernel_rfl) rfl rfl rfl
 clear hd
 go_simp
 exact hK.out _ rfl _ rfl)
 refine Stage.mvN (k := 3) (j := 2) (m := 0) hf.size hok.out rfl rfl rfl (.inl rfl) rfl [] (by kernel_rfl) rfl rfl rfl (by kernel_rfl) ?_
 apply Stage.t 4 _ hf.size hok.out rfl (by kernel_rfl)
 · (
 intro fr1 w1 hh hd hk K hK
 have s102 := Stage.u 3 0 hd hk rfl [] (by kernel_rfl) rfl rfl rfl
 refine Stab.op_skip (o := _) rfl rfl rfl rfl s102 ?_
 exact hK.out _ rfl _ rfl)
 apply Stage.t 5 _ hf.size hok.out rfl (by kernel_rfl)
 · (
 intro fr1 w1 hh hd hk K hK
 have s102 := Stage.u 3 1 hd hk rfl [] (by kernel_rfl) rfl rfl rfl
 refine Stab.op_skip (o := _) rfl rfl rfl rfl s102 ?_
 exact hK.out _ rfl _ rfl)
 apply Stage.t 6 _ hf.size hok.out rfl (by kernel_rfl)
 · (
 intro fr1 w1 hh hd hk K hK
 have s102 := Stage.u 3 2 hd hk rfl [] (by kernel_rfl) rfl rfl rfl
 refine Stab.op_skip (o := _) rfl rfl rfl rfl s102 ?_
 exact hK.out _ rfl _ rfl)
 apply Stage.t 7 _ hf.size hok.out rfl (by kernel_rfl)
 · (
 intro fr1 w1 hh hd hk K hK
 have s102 := Stage.u 3 3 hd hk rfl [] (by kernel_rfl) rfl rfl rfl
 refine Stab.op_skip (o := _) rfl rfl rfl rfl s102 ?_
 exact hK.out _ rfl _ rfl)
 apply Stage.t 8 _ hf.size hok.out rfl (by kernel_rfl)
 · (
 intro fr1 w1 hh hd hk K hK
 have s102 := Stage.u 3 4 hd hk rfl [] (by kernel_rfl) rfl rfl rfl
 refine Stab.op_skip (o := _) rfl rfl rfl rfl s102 ?_
 exact hK.out _ rfl _ rfl)
 apply Stage.t 9 _ hf.size hok.out rfl (by kernel_rfl)
 · (
 intro fr1 w1 hh hd hk K hK
 have s102 := Stage.u 3 5 hd hk rfl [] (by kernel_rfl) rfl rfl rfl
 refine Stab.op_skip (o := _) rfl rfl rfl rfl s102 ?_
 exact hK.out _ rfl _ rfl)
 apply Stage.t 10 _ hf.size hok.out rfl (by kernel_rfl)
 · (
 intro fr1 w1 hh hd hk K hK
 have s102 := Stage.u 3 6 hd hk rfl [] (by kernel_rfl) rfl rfl rfl
 refine Stab.op_skip (o := _) rfl rfl rfl rfl s102 ?_
 exact hK.out _ rfl _ rfl)
 apply Stage.t 11 _ hf.size hok.out rfl (by kernel_rfl)
 · (
 intro fr1 w1 hh hd hk K hK
 have s102 := Stage.u 3 7 hd hk rfl [] (by kernel_rfl) rfl rfl rfl
 refine Stab.op_skip (o := _) rfl rfl rfl rfl s102 ?_
 exact hK.out _ rfl _ rfl)
 apply Stage.t 12 _ hf.size hok.out rfl (by kernel_rfl)
 · (
 intro fr1 w1 hh hd hk K hK
 have s102 := Stage.u 3 8 hd hk rfl [] (by kernel_rfl) rfl rfl rfl
 refine Stab.op_skip (o := _) rfl rfl rfl rfl s102 ?_
 exact hK.out _ rfl _ rfl)
 apply Stage.t 13 _ hf.size hok.out rfl (by kernel_rfl)
 · (
 intro fr1 w1 hh hd hk K hK
 refine Stab.op_plain (o := _) rfl rfl ?_
 have s102 := Stage.u 3 9 hd hk rfl [] (by kernel_rfl) rfl rfl rfl
 have s111 := Stage.u 12 0 hd hk rfl [] (by kernel_rfl) rfl rfl rfl
 clear hd
 go_simp
 exact hK.out _ rfl _ rfl)
 refine Stage.todo_facts (n := 168) (by kernel_rfl) hf.size hok.out rfl (by decide) (by decide) rfl (fun fr1 w1 hh hg hw => ?_)
 replace hw : w1 = wma.drew := hw
 subst hw
 replace s0 := Stage.o hh (by kernel_rfl) s0
 replace s1 := Stage.o hh (by kernel_rfl) s1
 replace s10 := Stage.o hh (by kernel_rfl) s10
 replace s11 := Stage.o hh (by kernel_rfl) s11
 have s99 := Stage.e 0 13 hg rfl rfl rfl rfl
 have s100 := Stage.e 1 12 hg rfl rfl rfl rfl
 have s101 := Stage.e 2 11 hg rfl rfl rfl rfl
 have s102 := Stage.e 3 10 hg rfl rfl rfl rfl
 have s103 := Stage.e 4 9 hg rfl rfl rfl rfl
 have s104 := Stage.e 5 8 hg rfl rfl rfl rfl
 have s105 := Stage.e 6 7 hg rfl rfl rfl rfl
 have s106 := Stage.e 7 6 hg rfl rfl rfl rfl
 have s107 := Stage.e 8 5 hg rfl rfl rfl rfl
 have s108 := Stage.e 9 4 hg rfl rfl rfl rfl
 have s109 := Stage.e 10 3 hg rfl rfl rfl rfl
 have s110 := Stage.e 11 2 hg rfl rfl rfl rfl
 have s111 := Stage.e 12 1 hg rfl rfl rfl rfl
 have s112 := Stage.e 13 0 hg rfl rfl rfl rfl
 have hf1 : Fact.Fr 168 fr1 := ⟨hh.size.trans hf.size, hh.defers.trans hf.defers⟩
 clear hg hh hf
 have hf := hf1; clear hf1
 clear hok
 have ha3 := ha.drew; have ho3 := ho.drew
 clear ha ho
 generalize wma.drew = wd at *
 refine Fact.nx (hK30 _ _ ?_)
 refine Fact.cond_f s112 ?_
 refine wp_exit ?_
 refine Fact.then_exit ?_
 refine Fact.then_exit ?_
 refine Fact.block_exit ?_
 refine Fact.then_normal ?_
 exact ⟨_, _, hbd, hpt, .inl (by omega), hf, s0, s1, s10, s11, ha3, ho3⟩)))
 · (
 clear hf s0 s1 s10 s11
 clear hpt ha ho hbd
 rintro fr wmb ⟨i, j, hbd, hpt, hst, hf, s0, s1, s10, s11, ha, ho⟩
 refine Fact.seq_meet (fun fr wmd => ∃ i j : Nat, (i0 ≤ i ∧ j ≤ j0) ∧ Part (fun x p => x < p) a b i j ys ∧ (j < i ∨ (¬ ys.getD i 0 < ys.getD a 0 ∧ ys.getD j 0 < ys.getD a 0)) ∧ Fact.Fr 168 fr ∧ fr.tmps[0]? = some (.slice (some ⟨g, 0, none⟩) n c) ∧ fr.tmps[1]? = some (.int .i64 a) ∧ fr.tmps[10]? = some (.int .i64 i) ∧ fr.tmps[11]? = some (.int .i64 j) ∧ Arr wmd g ys ∧ Only w wmd g) ?_ ?_
 · (
 refine wp_block ?_
 refine wp_loop_ghost (fun gk fr wmc => ∃ i j : Nat, gk = j + 1 - i ∧ (i0 ≤ i ∧ j ≤ j0) ∧ Part (fun x p => x < p) a b i j ys ∧ (j < i ∨ ¬ ys.getD i 0 < ys.getD a 0) ∧ Fact.Fr 168 fr ∧ fr.tmps[0]? = some (.slice (some ⟨g, 0, none⟩) n c) ∧ fr.tmps[1]? = some (.int .i64 a) ∧ fr.tmps[10]? = some (.int .i64 i) ∧ fr.tmps[11]? = some (.int .i64 j) ∧ Arr wmc g ys ∧ Only w wmc g) (j + 1 - i) ?_ ?_
 · (
 exact ⟨_, _, rfl, hbd, hpt, hst, hf, s0, s1, s10, s11, ha, ho⟩)
 · (
 clear hf s0 s1 s10 s11
 clear hpt ha ho hbd hst
 rintro gk fr wmc ⟨i, j, hk, hbd, hpt, hst, hf, s0, s1, s10, s11, ha, ho⟩
 have HK := Lib.hid hk; clear hk
 obtain ⟨hai, hij1, hjb⟩ := hpt.1
 by_cases hij : i ≤ j
 · (
 have b1 : i < n := by omega
 have b2 : j < n := by omega
 have b3 : a < n := by omega
 have e1 : IntKind.i64.wrap ((i : Int) + 1) = ((i + 1 : Nat) : Int) := by rw [Fact.wrap_i64 (by omega) (by omega)]; omega
 obtain ⟨q, rfl⟩ : ∃ q, j = q + 1 := ⟨j - 1, by omega⟩
 have e2 : IntKind.i64.wrap ((q : Int) + 1 - 1) = (q : Int) := by rw [Fact.wrap_i64 (by omega) (by omega)]; omega
 have e3 : IntKind.i64.wrap (q : Int) = (q : Int) := Fact.wrap_i64 (by omega) (by omega)
 have b4 : (q : Int) + 1 < (n : Int) := by omega
 have b5 : (0 : Int) ≤ (q : Int) + 1 := by omega
 have hijI : (i : Int) ≤ (q : Int) + 1 := by omega
 obtain ⟨x, hx⟩ : ∃ v, ys[q + 1]? = some v := ⟨ys[q + 1]'(by have := HYL.out; omega), List.getElem?_eq_getElem _⟩
 have Hxd := Lib.hid (show ys.getD (q + 1) 0 = x by simp [List.getD, hx])
 have Hx := Lib.hid hx
 clear hx
 obtain ⟨y, hy⟩ : ∃ v, ys[a]? = some v := ⟨ys[a]'(by have := HYL.out; omega), List.getElem?_eq_getElem _⟩
 have Hyd := Lib.hid (show ys.getD (a) 0 = y by simp [List.getD, hy])
 have Hy := Lib.hid hy
 clear hy
 have cx := ha.cell Hx.out; have cy := ha.cell Hy.out
 by_cases hxy : x < y
 · (
 have hF : ys.getD (q + 1) 0 < ys.getD a 0 := by rw [Hxd.out, Hyd.out]; exact hxy
 have HF := Lib.hid hF; clear hF
 refine wp_seq_k (fun K31 hK31 => ?_)
 refine wp_seq_k (fun K32 hK32 => ?_)
 refine Stage.begin_ (n := 168) [] (fun k w1 => w1 = [wmc.drew].getD k (wmc.drew)) (Stab.OkOps.of (by kernel_rfl)) (fun hok => ?_)
 refine Stage.mvO (k := 0) s10 hf.size hok.out rfl rfl rfl (.inl rfl) (by kernel_rfl) (by kernel_rfl) ?_
 refine Stage.mvO (k := 1) s11 hf.size hok.out rfl rfl rfl (.inl rfl) (by kernel_rfl) (by kernel_rfl) ?_
 apply Stage.t 2 _ hf.size hok.out rfl (by kernel_rfl)
 · (
 intro fr1 w1 hh hd hk K hK
 refine Stab.op_plain (o := _) rfl rfl ?_
 have s115 := Stage.u 0 1 hd hk rfl [] (by kernel_rfl) rfl rfl rfl
 have s116 := Stage.u 1 0 hd hk rfl [] (by kernel_rfl) rfl rfl rfl
 clear hd
 go_simp
 exact hK.out _ rfl _ rfl)
 refine Stage.mvN (k := 3) (j := 2) (m := 0) hf.size hok.out rfl rfl rfl (.inl rfl) rfl [] (by kernel_rfl) rfl rfl rfl (by kernel_rfl) ?_
 apply Stage.t 4 _ hf.size hok.out rfl (by kernel_rfl)
 · (
 intro fr1 w1 hh hd hk K hK
 have s118 := Stage.u 3 0 hd hk rfl [] (by kernel_rfl) rfl rfl rfl
 refine Stab.op_guard (o := _) rfl rfl rfl rfl s118 ?_
 have s0 := Stage.o hh (by kernel_rfl) s0
 clear hd
 go_simp
 exact hK.out _ rfl _ rfl)
 apply Stage.t 5 _ hf.size hok.out rfl (by kernel_rfl)
 · (
 intro fr1 w1 hh hd hk K hK
 have s118 := Stage.u 3 1 hd hk rfl [] (by kernel_rfl) rfl rfl rfl
 refine Stab.op_guard (o := _) rfl rfl rfl rfl s118 ?_
 have s11 := Stage.o hh (by kernel_rfl) s11
 clear hd
 go_simp
 exact hK.out _ rfl _ rfl)
 apply Stage.t 6 _ hf.size hok.out rfl (by kernel_rfl)
 · (
 intro fr1 w1 hh hd hk K hK
 have s118 := Stage.u 3 2 hd hk rfl [] (by kernel_rfl) rfl rfl rfl
 refine Stab.op_guard (o := _) rfl rfl rfl rfl s118 ?_
 have s119 := Stage.u 4 1 hd hk rfl [] (by kernel_rfl) rfl rfl rfl
 have s120 := Stage.u 5 0 hd hk rfl [] (by kernel_rfl) rfl rfl rfl
 clear hd
 go_simp
 exact hK.out _ rfl _ rfl)
 apply Stage.todo_look (k := 7) (n := 168) 0 [] [] _ hf.size hok.out rfl (by kernel_rfl)
 · (
 intro fr1 w1 hh hw hd hk K hK
 replace hw : w1 = wmc.drew := hw
 subst hw
 have s118 := Stage.u 3 3 hd hk rfl [] (by kernel_rfl) rfl rfl rfl
 refine Stab.op_guard (o := _) rfl rfl rfl rfl s118 ?_
 have s121 := Stage.u 6 0 hd hk rfl [] (by kernel_rfl) rfl rfl rfl
 clear hd
 go_simp
 exact hK.out _ rfl _ _ rfl rfl)
 apply Stage.t 8 _ hf.size hok.out rfl (by kernel_rfl)
 · (
 intro fr1 w1 hh hd hk K hK
 have s118 := Stage.u 3 4 hd hk rfl [] (by kernel_rfl) rfl rfl rfl
 refine Stab.op_guard (o := _) rfl rfl rfl rfl s118 ?_
 have s0 := Stage.o hh (by kernel_rfl) s0
 clear hd
 go_simp
 exact hK.out _ rfl _ rfl)
 apply Stage.t 9 _ hf.size hok.out rfl (by kernel_rfl)
 · (
 intro fr1 w1 hh hd hk K hK
 have s118 := Stage.u 3 5 hd hk rfl [] (by kernel_rfl) rfl rfl rfl
 refine Stab.op_guard (o := _) rfl rfl rfl rfl s118 ?_
 have s1 := Stage.o hh (by kernel_rfl) s1
 clear hd
 go_simp
 exact hK.out _ rfl _ rfl)
 apply Stage.t 10 _ hf.size hok.out rfl (by kernel_rfl)
 · (
 intro fr1 w1 hh hd hk K hK
 have s118 := Stage.u 3 6 hd hk rfl [] (by kernel_rfl) rfl rfl rfl
 refine Stab.op_guard (o := _) rfl rfl rfl rfl s118 ?_
 have s123 := Stage.u 8 1 hd hk rfl [] (by kernel_rfl) rfl rfl rfl
 have s124 := Stage.u 9 0 hd hk rfl [] (by kernel_rfl) rfl rfl rfl
 clear hd
 go_simp
 exact hK.out _ rfl _ rfl)
 apply Stage.todo_look (k := 11) (n := 168) 0 [] [] _ hf.size hok.out rfl (by kernel_rfl)
 · (
 intro fr1 w1 hh hw hd hk K hK
 replace hw : w1 = wmc.drew := hw
 subst hw
 have s118 := Stage.u 3 7 hd hk rfl [] (by kernel_rfl) rfl rfl rfl
 refine Stab.op_guard (o := _) rfl rfl rfl rfl s118 ?_
 have s125 := Stage.u 10 0 hd hk rfl [] (by kernel_rfl) rfl rfl rfl
 clear hd
 go_simp
 exact hK.out _ rfl _ _ rfl rfl)
 apply Stage.todo_look (k := 12) (n := 168) 0 [] [] _ hf.size hok.out rfl (by kernel_rfl)
 · (
 intro fr1 w1 hh hw hd hk K hK
 replace hw : w1 = wmc.drew := hw
 subst hw
 have s118 := Stage.u 3 8 hd hk rfl [] (by kernel_rfl) rfl rfl rfl
 refine Stab.op_guard (o := _) rfl rfl rfl rfl s118 ?_
 have s122 := Stage.u 7 4 hd hk rfl [] (by kernel_rfl) rfl rfl rfl
 have s126 := Stage.u 11 0 hd hk rfl [] (by kernel_rfl) rfl rfl rfl
 clear hd
 go_simp
 go_at_call 85; refine (less_any _ _ _).mono ?_; rintro e w2 ⟨rfl, rfl⟩
 exact hK.out _ rfl _ _ rfl rfl)
 apply Stage.t 13 _ hf.size hok.out rfl (by kernel_rfl)
 · (
 intro fr1 w1 hh hd hk K hK
 have s118 := Stage.u 3 9 hd hk rfl [] (by kernel_rfl) rfl rfl rfl
 refine Stab.op_guard (o := _) rfl rfl rfl rfl s118 ?_
 have s127 := Stage.u 12 0 hd hk rfl [] (by kernel_rfl) rfl rfl rfl
 clear hd
 go_simp
 exact hK.out _ rfl _ rfl)
 apply Stage.t 14 _ hf.size hok.out rfl (by kernel_rfl)
 · (
 intro fr1 w1 hh hd hk K hK
 refine Stab.op_plain (o := _) rfl rfl ?_
 have s118 := Stage.u 3 10 hd hk rfl [] (by kernel_rfl) rfl rfl rfl
 have s128 := Stage.u 13 0 hd hk rfl [] (by kernel_rfl) rfl rfl rfl
 clear hd
 go_simp
 exact hK.out _ rfl _ rfl)
 refine Stage.todo_facts (n := 168) (by kernel_rfl) hf.size hok.out rfl (by decide) (by decide) rfl (fun fr1 w1 hh hg hw => ?_)
 replace hw : w1 = wmc.drew := hw
 subst hw
 replace s0 := Stage.o hh (by kernel_rfl) s0
 replace s1 := Stage.o hh (by kernel_rfl) s1
 replace s10 := Stage.o hh (by kernel_rfl) s10
 replace s11 := Stage.o hh (by kernel_rfl) s11
 have s115 := Stage.e 0 14 hg rfl rfl rfl rfl
 have s116 := Stage.e 1 13 hg rfl rfl rfl rfl
 have s117 := Stage.e 2 12 hg rfl rfl rfl rfl
 have s118 := Stage.e 3 11 hg rfl rfl rfl rfl
 have s119 := Stage.e 4 10 hg rfl rfl rfl rfl
 have s120 := Stage.e 5 9 hg rfl rfl rfl rfl
 have s121 := Stage.e 6 8 hg rfl rfl rfl rfl
 have s122 := Stage.e 7 7 hg rfl rfl rfl rfl
 have s123 := Stage.e 8 6 hg rfl rfl rfl rfl
 have s124 := Stage.e 9 5 hg rfl rfl rfl rfl
 have s125 := Stage.e 10 4 hg rfl rfl rfl rfl
 have s126 := Stage.e 11 3 hg rfl rfl rfl rfl
 have s127 := Stage.e 12 2 hg rfl rfl rfl rfl
 have s128 := Stage.e 13 1 hg rfl rfl rfl rfl
 have s129 := Stage.e 14 0 hg rfl rfl rfl rfl
 have hf1 : Fact.Fr 168 fr1 := ⟨hh.size.trans hf.size, hh.defers.trans hf.defers⟩
 clear hg hh hf
 have hf := hf1; clear hf1
 clear hok
 have ha3 := ha.drew; have ho3 := ho.drew
 clear ha ho cx cy
 generalize wmc.drew = wd at *
 refine Fact.nx (hK32 _ _ ?_)
 refine Fact.cond_f s129 ?_
 have hstop := HF.out
 clear HF
 refine wp_exit ?_
 refine Fact.then_exit ?_
 refine Fact.then_exit ?_
 refine Fact.block_exit ?_
 refine Fact.then_normal ?_
 exact ⟨_, _, hbd, hpt, .inr ⟨hst.resolve_left (by omega), hstop⟩, hf, s0, s1, s10, s11, ha3, ho3⟩)
 · (
 have hF : ¬ ys.getD (q + 1) 0 < ys.getD a 0 := by rw [Hxd.out, Hyd.out]; exact hxy
 have HF := Lib.hid hF; clear hF
 refine wp_seq_k (fun K33 hK33 => ?_)
 refine wp_seq_k (fun K34 hK34 => ?_)
 refine Stage.begin_ (n := 168) [] (fun k w1 => w1 = [wmc.drew].getD k (wmc.drew)) (Stab.OkOps.of (by kernel_rfl)) (fun hok => ?_)
 refine Stage.mvO (k := 0) s10 hf.size hok.out rfl rfl rfl (.inl rfl) (by kernel_rfl) (by kernel_rfl) ?_
 refine Stage.mvO (k := 1) s11 hf.size hok.out rfl rfl rfl (.inl rfl) (by kernel_rfl) (by kernel_rfl) ?_
 apply Stage.t 2 _ hf.size hok.out rfl (by kernel_rfl)
 · (
 intro fr1 w1 hh hd hk K hK
 refine Stab.op_plain (o := _) rfl rfl ?_
 have s115 := Stage.u 0 1 hd hk rfl [] (by kernel_rfl) rfl rfl rfl
 have s116 := Stage.u 1 0 hd hk rfl [] (by kernel_rfl) rfl rfl rfl
 clear hd
 go_simp
 exact hK.out _ rfl _ rfl)
 refine Stage.mvN (k := 3) (j := 2) (m := 0) hf.size hok.out rfl rfl rfl (.inl rfl) rfl [] (by kernel_rfl) rfl rfl rfl (by kernel_rfl) ?_
 apply Stage.t 4 _ hf.size hok.out rfl (by kernel_rfl)
 · (
 intro fr1 w1 hh hd hk K hK
 have s118 := Stage.u 3 0 hd hk rfl [] (by kernel_rfl) rfl rfl rfl
 refine Stab.op_guard (o := _) rfl rfl rfl rfl s118 ?_
 have s0 := Stage.o hh (by kernel_rfl) s0
 clear hd
 go_simp
 exact hK.out _ rfl _ rfl)
 apply Stage.t 5 _ hf.size hok.out rfl (by kernel_rfl)
 · (
 intro fr1 w1 hh hd hk K hK
 have s118 := Stage.u 3 1 hd hk rfl [] (by kernel_rfl) rfl rfl rfl
 refine Stab.op_guard (o := _) rfl rfl rfl rfl s118 ?_
 have s11 := Stage.o hh (by kernel_rfl) s11
 clear hd
 go_simp
 exact hK.out _ rfl _ rfl)
 apply Stage.t 6 _ hf.size hok.out rfl (by kernel_rfl)
 · (
 intro fr1 w1 hh hd hk K hK
 have s118 := Stage.u 3 2 hd hk rfl [] (by kernel_rfl) rfl rfl rfl
 refine Stab.op_guard (o := _) rfl rfl rfl rfl s118 ?_
 have s119 := Stage.u 4 1 hd hk rfl [] (by kernel_rfl) rfl rfl rfl
 have s120 := Stage.u 5 0 hd hk rfl [] (by kernel_rfl) rfl rfl rfl
 clear hd
 go_simp
 exact hK.out _ rfl _ rfl)
 apply Stage.todo_look (k := 7) (n := 168) 0 [] [] _ hf.size hok.out rfl (by kernel_rfl)
 · (
 intro fr1 w1 hh hw hd hk K hK
 replace hw : w1 = wmc.drew := hw
 subst hw
 have s118 := Stage.u 3 3 hd hk rfl [] (by kernel_rfl) rfl rfl rfl
 refine Stab.op_guard (o := _) rfl rfl rfl rfl s118 ?_
 have s121 := Stage.u 6 0 hd hk rfl [] (by kernel_rfl) rfl rfl rfl
 clear hd
 go_simp
 exact hK.out _ rfl _ _ rfl rfl)
 apply Stage.t 8 _ hf.size hok.out rfl (by kernel_rfl)
 · (
 intro fr1 w1 hh hd hk K hK
 have s118 := Stage.u 3 4 hd hk rfl [] (by kernel_rfl) rfl rfl rfl
 refine Stab.op_guard (o := _) rfl rfl rfl rfl s118 ?_
 have s0 := Stage.o hh (by kernel_rfl) s0
 clear hd
 go_simp
 exact hK.out _ rfl _ rfl)
 apply Stage.t 9 _ hf.size hok.out rfl (by kernel_rfl)
 · (
 intro fr1 w1 hh hd hk K hK
 have s118 := Stage.u 3 5 hd hk rfl [] (by kernel_rfl) rfl rfl rfl
 refine Stab.op_guard (o := _) rfl rfl rfl rfl s118 ?_
 have s1 := Stage.o hh (by kernel_rfl) s1
 clear hd
 go_simp
 exact hK.out _ rfl _ rfl)
 apply Stage.t 10 _ hf.size hok.out rfl (by kernel_rfl)
 · (
 intro fr1 w1 hh hd hk K hK
 have s118 := Stage.u 3 6 hd hk rfl [] (by kernel_rfl) rfl rfl rfl
 refine Stab.op_guard (o := _) rfl rfl rfl rfl s118 ?_
 have s123 := Stage.u 8 1 hd hk rfl [] (by kernel_rfl) rfl rfl rfl
 have s124 := Stage.u 9 0 hd hk rfl [] (by kernel_rfl) rfl rfl rfl
 clear hd
 go_simp
 exact hK.out _ rfl _ rfl)
 apply Stage.todo_look (k := 11) (n := 168) 0 [] [] _ hf.size hok.out rfl (by kernel_rfl)
 · (
 intro fr1 w1 hh hw hd hk K hK
 replace hw : w1 = wmc.drew := hw
 subst hw
 have s118 := Stage.u 3 7 hd hk rfl [] (by kernel_rfl) rfl rfl rfl
 refine Stab.op_guard (o := _) rfl rfl rfl rfl s118 ?_
 have s125 := Stage.u 10 0 hd hk rfl [] (by kernel_rfl) rfl rfl rfl
 clear hd
 go_simp
 exact hK.out _ rfl _ _ rfl rfl)
 apply Stage.todo_look (k := 12) (n := 168) 0 [] [] _ hf.size hok.out rfl (by kernel_rfl)
 · (
 intro fr1 w1 hh hw hd hk K hK
 replace hw : w1 = wmc.drew := hw
 subst hw
 have s118 := Stage.u 3 8 hd hk rfl [] (by kernel_rfl) rfl rfl rfl
 refine Stab.op_guard (o := _) rfl rfl rfl rfl s118 ?_
 have s122 := Stage.u 7 4 hd hk rfl [] (by kernel_rfl) rfl rfl rfl
 have s126 := Stage.u 11 0 hd hk rfl [] (by kernel_rfl) rfl rfl rfl
 clear hd
 go_simp
 go_at_call 85; refine (less_any _ _ _).mono ?_; rintro e w2 ⟨rfl, rfl⟩
 exact hK.out _ rfl _ _ rfl rfl)
 apply Stage.t 13 _ hf.size hok.out rfl (by kernel_rfl)
 · (
 intro fr1 w1 hh hd hk K hK
 have s118 := Stage.u 3 9 hd hk rfl [] (by kernel_rfl) rfl rfl rfl
 refine Stab.op_guard (o := _) rfl rfl rfl rfl s118 ?_
 have s127 := Stage.u 12 0 hd hk rfl [] (by kernel_rfl) rfl rfl rfl
 clear hd
 go_simp
 exact hK.out _ rfl _ rfl)
 apply Stage.t 14 _ hf.size hok.out rfl (by kernel_rfl)
 · (
 intro fr1 w1 hh hd hk K hK
 refine Stab.op_plain (o := _) rfl rfl ?_
 have s118 := Stage.u 3 10 hd hk rfl [] (by kernel_rfl) rfl rfl rfl
 have s128 := Stage.u 13 0 hd hk rfl [] (by kernel_rfl) rfl rfl rfl
 clear hd
 go_simp
 exact hK.out _ rfl _ rfl)
 refine Stage.todo_facts (n := 168) (by kernel_rfl) hf.size hok.out rfl (by decide) (by decide) rfl (fun fr1 w1 hh hg hw => ?_)
 replace hw : w1 = wmc.drew := hw
 subst hw
 replace s0 := Stage.o hh (by kernel_rfl) s0
 replace s1 := Stage.o hh (by kernel_rfl) s1
 replace s10 := Stage.o hh (by kernel_rfl) s10
 replace s11 := Stage.o hh (by kernel_rfl) s11
 have s115 := Stage.e 0 14 hg rfl rfl rfl rfl
 have s116 := Stage.e 1 13 hg rfl rfl rfl rfl
 have s117 := Stage.e 2 12 hg rfl rfl rfl rfl
 have s118 := Stage.e 3 11 hg rfl rfl rfl rfl
 have s119 := Stage.e 4 10 hg rfl rfl rfl rfl
 have s120 := Stage.e 5 9 hg rfl rfl rfl rfl
 have s121 := Stage.e 6 8 hg rfl rfl rfl rfl
 have s122 := Stage.e 7 7 hg rfl rfl rfl rfl
 have s123 := Stage.e 8 6 hg rfl rfl rfl rfl
 have s124 := Stage.e 9 5 hg rfl rfl rfl rfl
 have s125 := Stage.e 10 4 hg rfl rfl rfl rfl
 have s126 := Stage.e 11 3 hg rfl rfl rfl rfl
 have s127 := Stage.e 12 2 hg rfl rfl rfl rfl
 have s128 := Stage.e 13 1 hg rfl rfl rfl rfl
 have s129 := Stage.e 14 0 hg rfl rfl rfl rfl
 have hf1 : Fact.Fr 168 fr1 := ⟨hh.size.trans hf.size, hh.defers.trans hf.defers⟩
 clear hg hh hf
 have hf := hf1; clear hf1
 clear hok
 have ha3 := ha.drew; have ho3 := ho.drew
 clear ha ho cx cy
 generalize wmc.drew = wd at *
 refine Fact.nx (hK34 _ _ ?_)
 refine Fact.cond_t s129 ?_
 refine wp_skip ?_
 refine Fact.nx (hK33 _ _ ?_)
 refine wp_block ?_
 refine Fact.region ?_
 have b130 := hf.l 130 rfl
 have b131 := hf.l 131 rfl
 refine Fact.p rfl fun K hK => ?_
 go_simp
 refine hK.out _ _ ?_; clear hK K
 refine Fact.p rfl fun K hK => ?_
 go_simp
 try simp (disch := omega) only [Fact.wrap_i64, Fact.wrap_u8, Fact.wrap_u32, Fact.wrap_u64]
 refine hK.out _ _ ?_; clear hK K
 refine Fact.p rfl fun K hK => ?_
 go_simp
 refine hK.out _ _ ?_; clear hK K
 refine Fact.nil ?_
 refine Fact.q hf (by simp only [Fact.G]) rfl fun fr1 hf1 hT => ?_
 have hKp : _ ∧ _ ∧ _ ∧ _ ∧ _ ∧ _ ∧ _ ∧ _ ∧ _ ∧ _ ∧ _ ∧ _ ∧ _ ∧ _ ∧ _ ∧ _ ∧ _ ∧ _ ∧ _ ∧ _ ∧ _ := ⟨hT 0, hT 1, hT 10, hT 11, hT 115, hT 116, hT 117, hT 118, hT 119, hT 120, hT 121, hT 122, hT 123, hT 124, hT 125, hT 126, hT 127, hT 128, hT 129, hT 130, hT 131⟩
 simp only [Fact.G, Nat.reduceEqDiff, Nat.reduceLT, hf.size, reduceIte, s0, s1, s10, s115, s116, s117, s118, s119, s120, s121, s122, s123, s124, s125, s126, s127, s128, s129] at hKp
 clear hT hf s0 s1 s10 s11 s115 s116 s117 s118 s119 s120 s121 s122 s123 s124 s125 s126 s127 s128 s129 b130 b131
 obtain ⟨s0, s1, s10, s11, s115, s116, s117, s118, s119, s120, s121, s122, s123, s124, s125, s126, s127, s128, s129, s130, s131⟩ := hKp
 have hf := hf1; clear hf1
 refine Fact.block_normal ?_
 refine Fact.then_normal ?_
 exact ⟨q + 1 - i, by have := HK.out; omega, i, q, rfl, by omega, hpt.down hij HF.out, (hst.imp (fun h => by omega) id), hf, s0, s1, s10, s11, ha3, ho3⟩))
 · (
 have hijI : ¬ (i : Int) ≤ (j : Int) := by omega
 refine wp_seq_k (fun K35 hK35 => ?_)
 refine wp_seq_k (fun K36 hK36 => ?_)
 refine Stage.begin_ (n := 168) [] (fun k w1 => w1 = [wmc.drew].getD k (wmc.drew)) (Stab.OkOps.of (by kernel_rfl)) (fun hok => ?_)
 refine Stage.mvO (k := 0) s10 hf.size hok.out rfl rfl rfl (.inl rfl) (by kernel_rfl) (by kernel_rfl) ?_
 refine Stage.mvO (k := 1) s11 hf.size hok.out rfl rfl rfl (.inl rfl) (by kernel_rfl) (by kernel_rfl) ?_
 apply Stage.t 2 _ hf.size hok.out rfl (by kernel_rfl)
 · (
 intro fr1 w1 hh hd hk K hK
 refine Stab.op_plain (o := _) rfl rfl ?_
 have s115 := Stage.u 0 1 hd hk rfl [] (by kernel_rfl) rfl rfl rfl
 have s116 := Stage.u 1 0 hd hk rfl [] (by kernel_rfl) rfl rfl rfl
 clear hd
 go_simp
 exact hK.out _ rfl _ rfl)
 refine Stage.mvN (k := 3) (j := 2) (m := 0) hf.size hok.out rfl rfl rfl (.inl rfl) rfl [] (by kernel_rfl) rfl rfl rfl (by kernel_rfl) ?_
 apply Stage.t 4 _ hf.size hok.out rfl (by kernel_rfl)
 · (
 intro fr1 w1 hh hd hk K hK
 have s118 := Stage.u 3 0 hd hk rfl [] (by kernel_rfl) rfl rfl rfl
 refine Stab.op_skip (o := _) rfl rfl rfl rfl s118 ?_
 exact hK.out _ rfl _ rfl)
 apply Stage.t 5 _ hf.size hok.out rfl (by kernel_rfl)
 · (
 intro fr1 w1 hh hd hk K hK
 have s118 := Stage.u 3 1 hd hk rfl [] (by kernel_rfl) rfl rfl rfl
 refine Stab.op_skip (o := _) rfl rfl rfl rfl s118 ?_
 exact hK.out _ rfl _ rfl)
 apply Stage.t 6 _ hf.size hok.out rfl (by kernel_rfl)
 · (
 intro fr1 w1 hh hd hk K hK
 have s118 := Stage.u 3 2 hd hk rfl [] (by kernel_rfl) rfl rfl rfl
 refine Stab.op_skip (o := _) rfl rfl rfl rfl s118 ?_
 exact hK.out _ rfl _ rfl)
 apply Stage.t 7 _ hf.size hok.out rfl (by kernel_rfl)
 · (
 intro fr1 w1 hh hd hk K hK
 have s118 := Stage.u 3 3 hd hk rfl [] (by kernel_rfl) rfl rfl rfl
 refine Stab.op_skip (o := _) rfl rfl rfl rfl s118 ?_
 exact hK.out _ rfl _ rfl)
 apply Stage.t 8 _ hf.size hok.out rfl (by kernel_rfl)
 · (
 intro fr1 w1 hh hd hk K hK
 have s118 := Stage.u 3 4 hd hk rfl [] (by kernel_rfl) rfl rfl rfl
 refine Stab.op_skip (o := _) rfl rfl rfl rfl s118 ?_
 exact hK.out _ rfl _ rfl)
 apply Stage.t 9 _ hf.size hok.out rfl (by kernel_rfl)
 · (
 intro fr1 w1 hh hd hk K hK
 have s118 := Stage.u 3 5 hd hk rfl [] (by kernel_rfl) rfl rfl rfl
 refine Stab.op_skip (o := _) rfl rfl rfl rfl s118 ?_
 exact hK.out _ rfl _ rfl)
 apply Stage.t 10 _ hf.size hok.out rfl (by kernel_rfl)
 · (
 intro fr1 w1 hh hd hk K hK
 have s118 := Stage.u 3 6 hd hk rfl [] (by kernel_rfl) rfl rfl rfl
 refine Stab.op_skip (o := _) rfl rfl rfl rfl s118 ?_
 exact hK.out _ rfl _ rfl)
 apply Stage.t 11 _ hf.size hok.out rfl (by kernel_rfl)
 · (
 intro fr1 w1 hh hd hk K hK
 have s118 := Stage.u 3 7 hd hk rfl [] (by kernel_rfl) rfl rfl rfl
 refine Stab.op_skip (o := _) rfl rfl rfl rfl s118 ?_
 exact hK.out _ rfl _ rfl)
 apply Stage.t 12 _ hf.size hok.out rfl (by kernel_rfl)
 · (
 intro fr1 w1 hh hd hk K hK
 have s118 := Stage.u 3 8 hd hk rfl [] (by kernel_rfl) rfl rfl rfl
 refine Stab.op_skip (o := _) rfl rfl rfl rfl s118 ?_
 exact hK.out _ rfl _ rfl)
 apply Stage.t 13 _ hf.size hok.out rfl (by kernel_rfl)
 · (
 intro fr1 w1 hh hd hk K hK
 have s118 := Stage.u 3 9 hd hk rfl [] (by kernel_rfl) rfl rfl rfl
 refine Stab.op_skip (o := _) rfl rfl rfl rfl s118 ?_
 exact hK.out _ rfl _ rfl)
 apply Stage.t 14 _ hf.size hok.out rfl (by kernel_rfl)
 · (
 intro fr1 w1 hh hd hk K hK
 refine Stab.op_plain (o := _) rfl rfl ?_
 have s118 := Stage.u 3 10 hd hk rfl [] (by kernel_rfl) rfl rfl rfl
 have s128 := Stage.u 13 0 hd hk rfl [] (by kernel_rfl) rfl rfl rfl
 clear hd
 go_simp
 exact hK.out _ rfl _ rfl)
 refine Stage.todo_facts (n := 168) (by kernel_rfl) hf.size hok.out rfl (by decide) (by decide) rfl (fun fr1 w1 hh hg hw => ?_)
 replace hw : w1 = wmc.drew := hw
 subst hw
 replace s0 := Stage.o hh (by kernel_rfl) s0
 replace s1 := Stage.o hh (by kernel_rfl) s1
 replace s10 := Stage.o hh (by kernel_rfl) s10
 replace s11 := Stage.o hh (by kernel_rfl) s11
 have s115 := Stage.e 0 14 hg rfl rfl rfl rfl
 have s116 := Stage.e 1 13 hg rfl rfl rfl rfl
 have s117 := Stage.e 2 12 hg rfl rfl rfl rfl
 have s118 := Stage.e 3 11 hg rfl rfl rfl rfl
 have s119 := Stage.e 4 10 hg rfl rfl rfl rfl
 have s120 := Stage.e 5 9 hg rfl rfl rfl rfl
 have s121 := Stage.e 6 8 hg rfl rfl rfl rfl
 have s122 := Stage.e 7 7 hg rfl rfl rfl rfl
 have s123 := Stage.e 8 6 hg rfl rfl rfl rfl
 have s124 := Stage.e 9 5 hg rfl rfl rfl rfl
 have s125 := Stage.e 10 4 hg rfl rfl rfl rfl
 have s126 := Stage.e 11 3 hg rfl rfl rfl rfl
 have s127 := Stage.e 12 2 hg rfl rfl rfl rfl
 have s128 := Stage.e 13 1 hg rfl rfl rfl rfl
 have s129 := Stage.e 14 0 hg rfl rfl rfl rfl
 have hf1 : Fact.Fr 168 fr1 := ⟨hh.size.trans hf.size, hh.defers.trans hf.defers⟩
 clear hg hh hf
 have hf := hf1; clear hf1
 clear hok
 have ha3 := ha.drew; have ho3 := ho.drew
 clear ha ho
 generalize wmc.drew = wd at *
 refine Fact.nx (hK36 _ _ ?_)
 refine Fact.cond_f s129 ?_
 refine wp_exit ?_
 refine Fact.then_exit ?_
 refine Fact.then_exit ?_
 refine Fact.block_exit ?_
 refine Fact.then_normal ?_
 exact ⟨_, _, hbd, hpt, .inl (by omega), hf, s0, s1, s10, s11, ha3, ho3⟩)))
 · (
 clear hf s0 s1 s10 s11
 clear hpt ha ho hst hbd
 rintro fr wmd ⟨i, j, hbd, hpt, hst, hf, s0, s1, s10, s11, ha, ho⟩
 obtain ⟨hai, hij1, hjb⟩ := hpt.1
 by_cases hji : j < i
 · (
 have hjiI : (j : Int) < (i : Int) := by omega
 refine wp_seq_k (fun K37 hK37 => ?_)
 refine wp_seq_k (fun K38 hK38 => ?_)
 refine Fact.region ?_
 have b132 := hf.l 132 rfl
 have b133 := hf.l 133 rfl
 refine Fact.p rfl fun K hK => ?_
 go_simp
 refine hK.out _ _ ?_; clear hK K
 refine Fact.p rfl fun K hK => ?_
 go_simp
 refine hK.out _ _ ?_; clear hK K
 refine Fact.p rfl fun K hK => ?_
 go_simp
 refine hK.out _ _ ?_; clear hK K
 refine Fact.nil ?_
 refine Fact.q hf (by simp only [Fact.G]) rfl fun fr1 hf1 hT => ?_
 have hKp : _ ∧ _ ∧ _ ∧ _ ∧ _ ∧ _ ∧ _ := ⟨hT 0, hT 1, hT 10, hT 11, hT 132, hT 133, hT 134⟩
 simp only [Fact.G, Nat.reduceEqDiff, Nat.reduceLT, hf.size, reduceIte, s0, s1, s10, s11] at hKp
 clear hT hf s0 s1 s10 s11 b132 b133
 obtain ⟨s0, s1, s10, s11, s132, s133, s134⟩ := hKp
 have hf := hf1; clear hf1
 refine Fact.nx (hK38 _ _ ?_)
 refine Fact.cond_t s134 ?_
 refine wp_exit ?_
 refine Fact.then_exit ?_
 refine Fact.block_other (by decide) ?_
 refine Fact.then_exit ?_
 refine Fact.block_exit ?_
 refine Fact.then_normal ?_
 exact ⟨_, _, _, hji, hpt, hsg, hf, s0, s1, s11, ha, ho⟩)
 · (
 have hjiI : ¬ (j : Int) < (i : Int) := by omega
 refine wp_seq_k (fun K39 hK39 => ?_)
 refine wp_seq_k (fun K40 hK40 => ?_)
 refine Fact.region ?_
 have b132 := hf.l 132 rfl
 have b133 := hf.l 133 rfl
 refine Fact.p rfl fun K hK => ?_
 go_simp
 refine hK.out _ _ ?_; clear hK K
 refine Fact.p rfl fun K hK => ?_
 go_simp
 refine hK.out _ _ ?_; clear hK K
 refine Fact.p rfl fun K hK => ?_
 go_simp
 refine hK.out _ _ ?_; clear hK K
 refine Fact.nil ?_
 refine Fact.q hf (by simp only [Fact.G]) rfl fun fr1 hf1 hT => ?_
 have hKp : _ ∧ _ ∧ _ ∧ _ ∧ _ ∧ _ ∧ _ := ⟨hT 0, hT 1, hT 10, hT 11, hT 132, hT 133, hT 134⟩
 simp only [Fact.G, Nat.reduceEqDiff, Nat.reduceLT, hf.size, reduceIte, s0, s1, s10, s11] at hKp
 clear hT hf s0 s1 s10 s11 b132 b133
 obtain ⟨s0, s1, s10, s11, s132, s133, s134⟩ := hKp
 have hf := hf1; clear hf1
 refine Fact.nx (hK40 _ _ ?_)
 refine Fact.cond_f s134 ?_
 have hst2 := hst.resolve_left hji
 obtain ⟨q, rfl⟩ : ∃ q, j = q + 1 := ⟨j - 1, by omega⟩
 have hps := hpt.swap (by have := HYL.out; omega) (by omega) hst2.1 hst2.2
 have e2 : IntKind.i64.wrap ((q : Int) + 1 - 1) = (q : Int) := by rw [Fact.wrap_i64 (by omega) (by omega)]; omega
 have e3 : IntKind.i64.wrap (q : Int) = (q : Int) := Fact.wrap_i64 (by omega) (by omega)
 have b4 : (q : Int) + 1 < (n : Int) := by omega
 have b5 : (0 : Int) ≤ (q : Int) + 1 := by omega
 have b6 : i < n := by omega
 have e1 : IntKind.i64.wrap ((i : Int) + 1) = (i : Int) + 1 := Fact.wrap_i64 (by omega) (by omega)
 obtain ⟨x, hx⟩ : ∃ v, ys[i]? = some v := ⟨ys[i]'(by have := HYL.out; omega), List.getElem?_eq_getElem _⟩
 have Hxd := Lib.hid (show ys.getD (i) 0 = x by simp [List.getD, hx])
 have Hx := Lib.hid hx
 clear hx
 obtain ⟨y, hy⟩ : ∃ v, ys[q + 1]? = some v := ⟨ys[q + 1]'(by have := HYL.out; omega), List.getElem?_eq_getElem _⟩
 have Hyd := Lib.hid (show ys.getD (q + 1) 0 = y by simp [List.getD, hy])
 have Hy := Lib.hid hy
 clear hy
 have cx := ha.cell Hx.out; have cy := ha.cell Hy.out; have hfr := fun k => ha.frozen k
 have A1 := Lib.hid (ha.drew.set_ (i) y)
 have A0 := Lib.hid (ha.set_ (i) y)
 have C1 := A0.out.cell (i := q + 1) (x := y) (set_get Hy.out)
 have F1 := A0.out.frozen (q + 1)
 have A2 := Lib.hid (A1.out.set_ (q + 1) x)
 have O2 := Lib.hid ((ho.drew.set_ (p := ⟨g, i, none⟩) (.inl rfl) (.int .u8 y)).set_ (p := ⟨g, q + 1, none⟩) (.inl rfl) (.int .u8 x))
 clear ho ha
 refine wp_skip ?_
 refine Fact.nx (hK39 _ _ ?_)
 refine wp_seq_k (fun K41 hK41 => ?_)
 refine Stage.begin_ (n := 168) [13, 15] (fun k w1 => w1 = [wmd.drew, (wmd.drew.setCell ⟨g, i, none⟩ (.int .u8 y)), ((wmd.drew.setCell ⟨g, i, none⟩ (.int .u8 y)).setCell ⟨g, q + 1, none⟩ (.int .u8 x))].getD k (wmd.drew)) (Stab.OkOps.of (by kernel_rfl)) (fun hok => ?_)
 refine Stage.mvO (k := 0) s0 hf.size hok.out rfl rfl rfl (.inl rfl) (by kernel_rfl) (by kernel_rfl) ?_
 refine Stage.mvO (k := 1) s10 hf.size hok.out rfl rfl rfl (.inl rfl) (by kernel_rfl) (by kernel_rfl) ?_
 refine Stage.mvO (k := 2) s0 hf.size hok.out rfl rfl rfl (.inl rfl) (by kernel_rfl) (by kernel_rfl) ?_
 refine Stage.mvO (k := 3) s11 hf.size hok.out rfl rfl rfl (.inl rfl) (by kernel_rfl) (by kernel_rfl) ?_
 refine Stage.mvO (k := 4) s0 hf.size hok.out rfl rfl rfl (.inl rfl) (by kernel_rfl) (by kernel_rfl) ?_
 refine Stage.mvO (k := 5) s11 hf.size hok.out rfl rfl rfl (.inl rfl) (by kernel_rfl) (by kernel_rfl) ?_
 apply Stage.t 6 _ hf.size hok.out rfl (by kernel_rfl)
 · (
 intro fr1 w1 hh hd hk K hK
 refine Stab.op_plain (o := _) rfl rfl ?_
 have s139 := Stage.u 4 1 hd hk rfl [] (by kernel_rfl) rfl rfl rfl
 have s140 := Stage.u 5 0 hd hk rfl [] (by kernel_rfl) rfl rfl rfl
 clear hd
 go_simp
 exact hK.out _ rfl _ rfl)
 apply Stage.todo_look (k := 7) (n := 168) 0 [] [] _ hf.size hok.out rfl (by kernel_rfl)
 · (
 intro fr1 w1 hh hw hd hk K hK
 replace hw : w1 = wmd.drew := hw
 subst hw
 refine Stab.op_plain (o := _) rfl rfl ?_
 have s141 := Stage.u 6 0 hd hk rfl [] (by kernel_rfl) rfl rfl rfl
 clear hd
 go_simp
 exact hK.out _ rfl _ _ rfl rfl)
 refine Stage.mvO (k := 8) s0 hf.size hok.out rfl rfl rfl (.inl rfl) (by kernel_rfl) (by kernel_rfl) ?_
 refine Stage.mvO (k := 9) s10 hf.size hok.out rfl rfl rfl (.inl rfl) (by kernel_rfl) (by kernel_rfl) ?_
 apply Stage.t 10 _ hf.size hok.out rfl (by kernel_rfl)
 · (
 intro fr1 w1 hh hd hk K hK
 refine Stab.op_plain (o := _) rfl rfl ?_
 have s143 := Stage.u 8 1 hd hk rfl [] (by kernel_rfl) rfl rfl rfl
 have s144 := Stage.u 9 0 hd hk rfl [] (by kernel_rfl) rfl rfl rfl
 clear hd
 go_simp
 exact hK.out _ rfl _ rfl)
 apply Stage.todo_look (k := 11) (n := 168) 0 [] [] _ hf.size hok.out rfl (by kernel_rfl)
 · (
 intro fr1 w1 hh hw hd hk K hK
 replace hw : w1 = wmd.drew := hw
 subst hw
 refine Stab.op_plain (o := _) rfl rfl ?_
 have s145 := Stage.u 10 0 hd hk rfl [] (by kernel_rfl) rfl rfl rfl
 clear hd
 go_simp
 exact hK.out _ rfl _ _ rfl rfl)
 apply Stage.t 12 _ hf.size hok.out rfl (by kernel_rfl)
 · (
 intro fr1 w1 hh hd hk K hK
 refine Stab.op_plain (o := _) rfl rfl ?_
 have s135 := Stage.u 0 11 hd hk rfl [] (by kernel_rfl) rfl rfl rfl
 have s136 := Stage.u 1 10 hd hk rfl [] (by kernel_rfl) rfl rfl rfl
 clear hd
 go_simp
 exact hK.out _ rfl _ rfl)
 refine Stage.todo_lead (k := 13) (n := 168) 0 [] (fun _ => True) hf.size hok.out rfl (by kernel_rfl) ?_ ?_
 · (
 intro fr1 w1 hh hw hd hk K hK
 replace hw : w1 = wmd.drew := hw
 subst hw
 refine Stab.op_plain (o := _) rfl rfl ?_
 have s147 := Stage.u 12 0 hd hk rfl [] (by kernel_rfl) rfl rfl rfl
 have s142 := Stage.u 7 5 hd hk rfl [] (by kernel_rfl) rfl rfl rfl
 clear hd
 go_simp
 exact hK.out _ rfl undef _ rfl trivial)
 apply Stage.t 14 _ hf.size hok.out rfl (by kernel_rfl)
 · (
 intro fr1 w1 hh hd hk K hK
 refine Stab.op_plain (o := _) rfl rfl ?_
 have s137 := Stage.u 2 11 hd hk rfl [] (by kernel_rfl) rfl rfl rfl
 have s138 := Stage.u 3 10 hd hk rfl [] (by kernel_rfl) rfl rfl rfl
 clear hd
 go_simp
 exact hK.out _ rfl _ rfl)
 refine Stage.todo_lead (k := 15) (n := 168) 1 [] (fun _ => True) hf.size hok.out rfl (by kernel_rfl) ?_ ?_
 · (
 intro fr1 w1 hh hw hd hk K hK
 replace hw : w1 = (wmd.drew.setCell ⟨g, i, none⟩ (.int .u8 y)) := hw
 subst hw
 refine Stab.op_plain (o := _) rfl rfl ?_
 have s148 := Stage.u 14 0 hd hk rfl [] (by kernel_rfl) rfl rfl rfl
 have s146 := Stage.u 11 3 hd hk rfl [] (by kernel_rfl) rfl rfl rfl
 clear hd
 go_simp
 exact hK.out _ rfl undef _ rfl trivial)
 refine Stage.todo_facts (n := 168) (by kernel_rfl) hf.size hok.out rfl (by decide) (by decide) rfl (fun fr1 w1 hh hg hw => ?_)
 replace hw : w1 = ((wmd.drew.setCell ⟨g, i, none⟩ (.int .u8 y)).setCell ⟨g, q + 1, none⟩ (.int .u8 x)) := hw
 subst hw
 replace s0 := Stage.o hh (by kernel_rfl) s0
 replace s1 := Stage.o hh (by kernel_rfl) s1
 replace s10 := Stage.o hh (by kernel_rfl) s10
 replace s11 := Stage.o hh (by kernel_rfl) s11
 replace s132 := Stage.o hh (by kernel_rfl) s132
 replace s133 := Stage.o hh (by kernel_rfl) s133
 replace s134 := Stage.o hh (by kernel_rfl) s134
 have s135 := Stage.e 0 15 hg rfl rfl rfl rfl
 have s136 := Stage.e 1 14 hg rfl rfl rfl rfl
 have s137 := Stage.e 2 13 hg rfl rfl rfl rfl
 have s138 := Stage.e 3 12 hg rfl rfl rfl rfl
 have s139 := Stage.e 4 11 hg rfl rfl rfl rfl
 have s140 := Stage.e 5 10 hg rfl rfl rfl rfl
 have s141 := Stage.e 6 9 hg rfl rfl rfl rfl
 have s142 := Stage.e 7 8 hg rfl rfl rfl rfl
 have s143 := Stage.e 8 7 hg rfl rfl rfl rfl
 have s144 := Stage.e 9 6 hg rfl rfl rfl rfl
 have s145 := Stage.e 10 5 hg rfl rfl rfl rfl
 have s146 := Stage.e 11 4 hg rfl rfl rfl rfl
 have s147 := Stage.e 12 3 hg rfl rfl rfl rfl
 have s148 := Stage.e 14 1 hg rfl rfl rfl rfl
 have hf1 : Fact.Fr 168 fr1 := ⟨hh.size.trans hf.size, hh.defers.trans hf.defers⟩
 clear hg hh hf
 have hf := hf1; clear hf1
 clear hok
 have ha3 := A2.out; rw [show (ys.set i y).set (q + 1) x = swap ys i (q + 1) by unfold swap; rw [Hxd.out, Hyd.out]] at ha3
 have ho3 := O2.out
 clear A0 A1 A2 O2 C1 F1 cx cy hfr Hx Hxd Hy Hyd
 generalize ((wmd.drew.setCell ⟨g, i, none⟩ (.int .u8 y)).setCell ⟨g, q + 1, none⟩ (.int .u8 x)) = wu at *
 refine Fact.nx (hK41 _ _ ?_)
 refine wp_seq_k (fun K42 hK42 => ?_)
 refine Fact.region ?_
 have b149 := hf.l 149 rfl
 have b150 := hf.l 150 rfl
 refine Fact.p rfl fun K hK => ?_
 go_simp
 refine hK.out _ _ ?_; clear hK K
 refine Fact.p rfl fun K hK => ?_
 go_simp
 try simp (disch := omega) only [Fact.wrap_i64, Fact.wrap_u8, Fact.wrap_u32, Fact.wrap_u64]
 refine hK.out _ _ ?_; clear hK K
 refine Fact.p rfl fun K hK => ?_
 go_simp
 refine hK.out _ _ ?_; clear hK K
 refine Fact.nil ?_
 refine Fact.q hf (by simp only [Fact.G]) rfl fun fr1 hf1 hT => ?_
 have hKp : _ ∧ _ ∧ _ ∧ _ ∧ _ ∧ _ ∧ _ ∧ _ ∧ _ ∧ _ ∧ _ ∧ _ ∧ _ ∧ _ ∧ _ ∧ _ ∧ _ ∧ _ ∧ _ ∧ _ ∧ _ ∧ _ ∧ _ := ⟨hT 0, hT 1, hT 10, hT 11, hT 132, hT 133, hT 134, hT 135, hT 136, hT 137, hT 138, hT 139, hT 140, hT 141, hT 142, hT 143, hT 144, hT 145, hT 146, hT 147, hT 148, hT 149, hT 150⟩
 simp only [Fact.G, Nat.reduceEqDiff, Nat.reduceLT, hf.size, reduceIte, s0, s1, s11, s132, s133, s134, s135, s136, s137, s138, s139, s140, s141, s142, s143, s144, s145, s146, s147, s148] at hKp
 clear hT hf s0 s1 s10 s11 s132 s133 s134 s135 s136 s137 s138 s139 s140 s141 s142 s143 s144 s145 s146 s147 s148 b149 b150
 obtain ⟨s0, s1, s10, s11, s132, s133, s134, s135, s136, s137, s138, s139, s140, s141, s142, s143, s144, s145, s146, s147, s148, s149, s150⟩ := hKp
 have hf := hf1; clear hf1
 refine Fact.nx (hK42 _ _ ?_)
 refine Fact.region ?_
 have b151 := hf.l 151 rfl
 have b152 := hf.l 152 rfl
 refine Fact.p rfl fun K hK => ?_
 go_simp
 refine hK.out _ _ ?_; clear hK K
 refine Fact.p rfl fun K hK => ?_
 go_simp
 try simp (disch := omega) only [Fact.wrap_i64, Fact.wrap_u8, Fact.wrap_u32, Fact.wrap_u64]
 refine hK.out _ _ ?_; clear hK K
 refine Fact.p rfl fun K hK => ?_
 go_simp
 refine hK.out _ _ ?_; clear hK K
 refine Fact.nil ?_
 refine Fact.q hf (by simp only [Fact.G]) rfl fun fr1 hf1 hT => ?_
 have hKp : _ ∧ _ ∧ _ ∧ _ ∧ _ ∧ _ ∧ _ ∧ _ ∧ _ ∧ _ ∧ _ ∧ _ ∧ _ ∧ _ ∧ _ ∧ _ ∧ _ ∧ _ ∧ _ ∧ _ ∧ _ ∧ _ ∧ _ ∧ _ ∧ _ := ⟨hT 0, hT 1, hT 10, hT 11, hT 132, hT 133, hT 134, hT 135, hT 136, hT 137, hT 138, hT 139, hT 140, hT 141, hT 142, hT 143, hT 144, hT 145, hT 146, hT 147, hT 148, hT 149, hT 150, hT 151, hT 152⟩
 simp only [Fact.G, Nat.reduceEqDiff, Nat.reduceLT, hf.size, reduceIte, s0, s1, s10, s132, s133, s134, s135, s136, s137, s138, s139, s140, s141, s142, s143, s144, s145, s146, s147, s148, s149, s150] at hKp
 clear hT hf s0 s1 s10 s11 s132 s133 s134 s135 s136 s137 s138 s139 s140 s141 s142 s143 s144 s145 s146 s147 s148 s149 s150 b151 b152
 obtain ⟨s0, s1, s10, s11, s132, s133, s134, s135, s136, s137, s138, s139, s140, s141, s142, s143, s144, s145, s146, s147, s148, s149, s150, s151, s152⟩ := hKp
 have hf := hf1; clear hf1
 refine Fact.block_normal ?_
 refine Fact.then_normal ?_
 exact ⟨q + 1 - (i + 1), by have := HK0.out; omega, i + 1, q, swap ys i (q + 1), rfl, hps.2, hsg.swap (by omega) (by omega) (by omega) (by omega), hf, s0, s1, by rw [s10]; go_num, s11, ha3, ho3⟩)))))
 · (
 clear hf s0 s1 s10 s11
 clear hpt hsg ha ho HYL
 rintro fr wz ⟨i, j, ys, hji, hpt, hsg, hf, s0, s1, s11, ha, ho⟩
 obtain ⟨hai, hij1, hjb⟩ := hpt.1
 have HYL := Lib.hid (show ys.length = n by rw [hsg.len]; exact HN.out)
 have b6 : j < n := by omega
 have b7 : a < n := by omega
 obtain ⟨x, hx⟩ : ∃ v, ys[j]? = some v := ⟨ys[j]'(by have := HYL.out; omega), List.getElem?_eq_getElem _⟩
 have Hxd := Lib.hid (show ys.getD (j) 0 = x by simp [List.getD, hx])
 have Hx := Lib.hid hx
 clear hx
 obtain ⟨y, hy⟩ : ∃ v, ys[a]? = some v := ⟨ys[a]'(by have := HYL.out; omega), List.getElem?_eq_getElem _⟩
 have Hyd := Lib.hid (show ys.getD (a) 0 = y by simp [List.getD, hy])
 have Hy := Lib.hid hy
 clear hy
 have cx := ha.cell Hx.out; have cy := ha.cell Hy.out; have hfr := fun k => ha.frozen k
 have A1 := Lib.hid (ha.drew.set_ (j) y)
 have A0 := Lib.hid (ha.set_ (j) y)
 have C1 := A0.out.cell (i := a) (x := y) (set_get Hy.out)
 have F1 := A0.out.frozen (a)
 have A2 := Lib.hid (A1.out.set_ (a) x)
 have O2 := Lib.hid ((ho.drew.set_ (p := ⟨g, j, none⟩) (.inl rfl) (.int .u8 y)).set_ (p := ⟨g, a, none⟩) (.inl rfl) (.int .u8 x))
 clear ho ha
 refine wp_seq_k (fun K43 hK43 => ?_)
 refine Stage.begin_ (n := 168) [13, 15] (fun k w1 => w1 = [wz.drew, (wz.drew.setCell ⟨g, j, none⟩ (.int .u8 y)), ((wz.drew.setCell ⟨g, j, none⟩ (.int .u8 y)).setCell ⟨g, a, none⟩ (.int .u8 x))].getD k (wz.drew)) (Stab.OkOps.of (by kernel_rfl)) (fun hok => ?_)
 refine Stage.mvO (k := 0) s0 hf.size hok.out rfl rfl rfl (.inl rfl) (by kernel_rfl) (by kernel_rfl) ?_
 refine Stage.mvO (k := 1) s11 hf.size hok.out rfl rfl rfl (.inl rfl) (by kernel_rfl) (by kernel_rfl) ?_
 refine Stage.mvO (k := 2) s0 hf.size hok.out rfl rfl rfl (.inl rfl) (by kernel_rfl) (by kernel_rfl) ?_
 refine Stage.mvO (k := 3) s1 hf.size hok.out rfl rfl rfl (.inl rfl) (by kernel_rfl) (by kernel_rfl) ?_
 refine Stage.mvO (k := 4) s0 hf.size hok.out rfl rfl rfl (.inl rfl) (by kernel_rfl) (by kernel_rfl) ?_
 refine Stage.mvO (k := 5) s1 hf.size hok.out rfl rfl rfl (.inl rfl) (by kernel_rfl) (by kernel_rfl) ?_
 apply Stage.t 6 _ hf.size hok.out rfl (by kernel_rfl)
 · (
 intro fr1 w1 hh hd hk K hK
 refine Stab.op_plain (o := _) rfl rfl ?_
 have s157 := Stage.u 4 1 hd hk rfl [] (by kernel_rfl) rfl rfl rfl
 have s158 := Stage.u 5 0 hd hk rfl [] (by kernel_rfl) rfl rfl rfl
 clear hd
 go_simp
 exact hK.out _ rfl _ rfl)
 apply Stage.todo_look (k := 7) (n := 168) 0 [] [] _ hf.size hok.out rfl (by kernel_rfl)
 · (
 intro fr1 w1 hh hw hd hk K hK
 replace hw : w1 = wz.drew := hw
 subst hw
 refine Stab.op_plain (o := _) rfl rfl ?_
 have s159 := Stage.u 6 0 hd hk rfl [] (by kernel_rfl) rfl rfl rfl
 clear hd
 go_simp
 exact hK.out _ rfl _ _ rfl rfl)
 refine Stage.mvO (k := 8) s0 hf.size hok.out rfl rfl rfl (.inl rfl) (by kernel_rfl) (by kernel_rfl) ?_
 refine Stage.mvO (k := 9) s11 hf.size hok.out rfl rfl rfl (.inl rfl) (by kernel_rfl) (by kernel_rfl) ?_
 apply Stage.t 10 _ hf.size hok.out rfl (by kernel_rfl)
 · (
 intro fr1 w1 hh hd hk K hK
 refine Stab.op_plain (o := _) rfl rfl ?_
 have s161 := Stage.u 8 1 hd hk rfl [] (by kernel_rfl) rfl rfl rfl
 have s162 := Stage.u 9 0 hd hk rfl [] (by kernel_rfl) rfl rfl rfl
 clear hd
 go_simp
 exact hK.out _ rfl _ rfl)
 apply Stage.todo_look (k := 11) (n := 168) 0 [] [] _ hf.size hok.out rfl (by kernel_rfl)
 · (
 intro fr1 w1 hh hw hd hk K hK
 replace hw : w1 = wz.drew := hw
 subst hw
 refine Stab.op_plain (o := _) rfl rfl ?_
 have s163 := Stage.u 10 0 hd hk rfl [] (by kernel_rfl) rfl rfl rfl
 clear hd
 go_simp
 exact hK.out _ rfl _ _ rfl rfl)
 apply Stage.t 12 _ hf.size hok.out rfl (by kernel_rfl)
 · (
 intro fr1 w1 hh hd hk K hK
 refine Stab.op_plain (o := _) rfl rfl ?_
 have s153 := Stage.u 0 11 hd hk rfl [] (by kernel_rfl) rfl rfl rfl
 have s154 := Stage.u 1 10 hd hk rfl [] (by kernel_rfl) rfl rfl rfl
 clear hd
 go_simp
 exact hK.out _ rfl _ rfl)
 refine Stage.todo_lead (k := 13) (n := 168) 0 [] (fun _ => True) hf.size hok.out rfl (by kernel_rfl) ?_ ?_
 · (
 intro fr1 w1 hh hw hd hk K hK
 replace hw : w1 = wz.drew := hw
 subst hw
 refine Stab.op_plain (o := _) rfl rfl ?_
 have s165 := Stage.u 12 0 hd hk rfl [] (by kernel_rfl) rfl rfl rfl
 have s160 := Stage.u 7 5 hd hk rfl [] (by kernel_rfl) rfl rfl rfl
 clear hd
 go_simp
 exact hK.out _ rfl undef _ rfl trivial)
 apply Stage.t 14 _ hf.size hok.out rfl (by kernel_rfl)
 · (
 intro fr1 w1 hh hd hk K hK
 refine Stab.op_plain (o := _) rfl rfl ?_
 have s155 := Stage.u 2 11 hd hk rfl [] (by kernel_rfl) rfl rfl rfl
 have s156 := Stage.u 3 10 hd hk rfl [] (by kernel_rfl) rfl rfl rfl
 clear hd
 go_simp
 exact hK.out _ rfl _ rfl)
 refine Stage.todo_lead (k := 15) (n := 168) 1 [] (fun _ => True) hf.size hok.out rfl (by kernel_rfl) ?_ ?_
 · (
 intro fr1 w1 hh hw hd hk K hK
 replace hw : w1 = (wz.drew.setCell ⟨g, j, none⟩ (.int .u8 y)) := hw
 subst hw
 refine Stab.op_plain (o := _) rfl rfl ?_
 have s166 := Stage.u 14 0 hd hk rfl [] (by kernel_rfl) rfl rfl rfl
 have s164 := Stage.u 11 3 hd hk rfl [] (by kernel_rfl) rfl rfl rfl
 clear hd
 go_simp
 exact hK.out _ rfl undef _ rfl trivial)
 refine Stage.todo_facts (n := 168) (by kernel_rfl) hf.size hok.out rfl (by decide) (by decide) rfl (fun fr1 w1 hh hg hw => ?_)
 replace hw : w1 = ((wz.drew.setCell ⟨g, j, none⟩ (.int .u8 y)).setCell ⟨g, a, none⟩ (.int .u8 x)) := hw
 subst hw
 replace s11 := Stage.o hh (by kernel_rfl) s11
 have hf1 : Fact.Fr 168 fr1 := ⟨hh.size.trans hf.size, hh.defers.trans hf.defers⟩
 clear hg hh hf s0 s1
 have hf := hf1; clear hf1
 clear hok
 have ha3 := A2.out; rw [show (ys.set j y).set a x = swap ys j a by unfold swap; rw [Hxd.out, Hyd.out]] at ha3
 have ho3 := O2.out
 clear A0 A1 A2 O2 C1 F1 cx cy hfr Hx Hxd Hy Hyd
 refine Fact.nx (hK43 _ _ ?_)
 refine wp_seq_k (fun K44 hK44 => ?_)
 refine Fact.region ?_
 have b167 := hf.l 167 rfl
 refine Fact.p rfl fun K hK => ?_
 go_simp
 refine hK.out _ _ ?_; clear hK K
 refine Fact.p rfl fun K hK => ?_
 go_simp
 refine hK.out _ _ ?_; clear hK K
 refine Fact.p rfl fun K hK => ?_
 go_simp
 refine hK.out _ _ ?_; clear hK K
 refine Fact.nil ?_
 refine Fact.q hf (by simp only [Fact.G]) rfl fun fr1 hf1 hT => ?_
 have hKp : _ ∧ _ := ⟨hT 8, hT 9⟩
 simp only [Fact.G, Nat.reduceEqDiff, Nat.reduceLT, hf.size, reduceIte] at hKp
 clear hT hf s11 b167
 obtain ⟨s8, s9⟩ := hKp
 have hf := hf1; clear hf1
 refine Fact.nx (hK44 _ _ ?_)
 refine wp_ret ?_
 have hd := hpt.done (by have := HYL.out; omega) hji (by omega)
 exact Fact.ret2 rfl hf s8 s9 ⟨j, _, swap ys j a, rfl, by omega, hjb, hsg.swap (by omega) hjb (by omega) (by omega), hd.1, hd.2, ha3, ho3⟩))))
end Sb
end Go.Proofs.Ytfgfichkcckhiaa
