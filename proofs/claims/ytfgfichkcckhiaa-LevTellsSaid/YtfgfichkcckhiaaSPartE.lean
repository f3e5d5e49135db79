/- slices.partitionEqualOrdered at bytes. -/
import Derived.Test.YtfgfichkcckhiaaSCmp
import Derived.Test.YtfgfichkcckhiaaSPart0
import Derived.Test.YtfgfichkcckhiaaSPdq0
namespace Go.Proofs.Ytfgfichkcckhiaa
open Go.RowKit
set_option linter.unusedSimpArgs false
set_option linter.unusedVariables false
set_option linter.unnecessarySimpa false
namespace Sb
set_option maxHeartbeats 4000000 in
set_option maxRecDepth 100000 in
theorem parteq_any (zs : List Int) (g n c a b p : Nat) (w : World) (hn : zs.length = n) (hnl : n ≤ 400000000) (hap : a ≤ p) (hpb : p < b) (hb : b ≤ n) (h : Arr w g zs) : Calls Try.prog 86 #[.slice (some ⟨g, 0, none⟩) n c, .int .i64 a, .int .i64 b, .int .i64 p] w fun e w1 => ∃ (m : Nat) (ys : List Int), e = .returned (.int .i64 m) ∧ a < m ∧ m ≤ b ∧ Segm a b zs ys ∧ ys.getD a 0 = zs.getD p 0 ∧ (∀ k, a ≤ k → k < m → ys.getD k 0 ≤ ys.getD a 0) ∧ (∀ k, m ≤ k → k < b → ys.getD a 0 < ys.getD k 0) ∧ Arr w1 g ys ∧ Only w w1 g := by
 refine calls_of_wp Try.func86 rfl ?_
 refine Fact.enter (n := 84) (by kernel_rfl) (fun fr hf hT => ?_)
 have s0 := hT 0 _ rfl
 have s1 := hT 1 _ rfl
 have s2 := hT 2 _ rfl
 have s3 := hT 3 _ rfl
 clear hT
 have HN := Lib.hid hn
 have b1 : a < n := by omega
 have b2 : p < n := by omega
 obtain ⟨x, hx⟩ : ∃ v, zs[a]? = some v := ⟨zs[a]'(by omega), List.getElem?_eq_getElem _⟩
 have Hxd := Lib.hid (show zs.getD (a) 0 = x by simp [List.getD, hx])
 have Hx := Lib.hid hx
 clear hx
 obtain ⟨y, hy⟩ : ∃ v, zs[p]? = some v := ⟨zs[p]'(by omega), List.getElem?_eq_getElem _⟩
 have Hyd := Lib.hid (show zs.getD (p) 0 = y by simp [List.getD, hy])
 have Hy := Lib.hid hy
 clear hy
 clear hn
 have ho := Only.refl w g
 have cx := h.cell Hx.out; have cy := h.cell Hy.out; have hfr := fun k => h.frozen k
 have A1 := Lib.hid (h.drew.set_ (a) y)
 have A0 := Lib.hid (h.set_ (a) y)
 have C1 := A0.out.cell (i := p) (x := y) (set_get Hy.out)
 have F1 := A0.out.frozen (p)
 have A2 := Lib.hid (A1.out.set_ (p) x)
 have O2 := Lib.hid ((ho.drew.set_ (p := ⟨g, a, none⟩) (.inl rfl) (.int .u8 y)).set_ (p := ⟨g, p, none⟩) (.inl rfl) (.int .u8 x))
 clear ho h
 refine wp_seq_k (fun K1 hK1 => ?_)
 refine Fact.region ?_
 refine Fact.p rfl fun K hK => ?_
 go_simp
 refine hK.out _ _ ?_; clear hK K
 refine Fact.nil ?_
 refine Fact.q hf (by simp only [Fact.G]) rfl fun fr1 hf1 hT => ?_
 have hKp : _ ∧ _ ∧ _ ∧ _ ∧ _ := ⟨hT 0, hT 1, hT 2, hT 3, hT 8⟩
 simp only [Fact.G, Nat.reduceEqDiff, Nat.reduceLT, hf.size, reduceIte, s0, s1, s2, s3] at hKp
 clear hT hf s0 s1 s2 s3
 obtain ⟨s0, s1, s2, s3, s8⟩ := hKp
 have hf := hf1; clear hf1
 refine Fact.nx (hK1 _ _ ?_)
 refine wp_seq_k (fun K2 hK2 => ?_)
 refine Stage.begin_ (n := 84) [13, 15] (fun k w1 => w1 = [w.drew, (w.drew.setCell ⟨g, a, none⟩ (.int .u8 y)), ((w.drew.setCell ⟨g, a, none⟩ (.int .u8 y)).setCell ⟨g, p, none⟩ (.int .u8 x))].getD k (w.drew)) (Stab.OkOps.of (by kernel_rfl)) (fun hok => ?_)
 refine Stage.mvO (k := 0) s0 hf.size hok.out rfl rfl rfl (.inl rfl) (by kernel_rfl) (by kernel_rfl) ?_
 refine Stage.mvO (k := 1) s1 hf.size hok.out rfl rfl rfl (.inl rfl) (by kernel_rfl) (by kernel_rfl) ?_
 refine Stage.mvO (k := 2) s0 hf.size hok.out rfl rfl rfl (.inl rfl) (by kernel_rfl) (by kernel_rfl) ?_
 refine Stage.mvO (k := 3) s3 hf.size hok.out rfl rfl rfl (.inl rfl) (by kernel_rfl) (by kernel_rfl) ?_
 refine Stage.mvO (k := 4) s0 hf.size hok.out rfl rfl rfl (.inl rfl) (by kernel_rfl) (by kernel_rfl) ?_
 refine Stage.mvO (k := 5) s3 hf.size hok.out rfl rfl rfl (.inl rfl) (by kernel_rfl) (by kernel_rfl) ?_
 apply Stage.t 6 _ hf.size hok.out rfl (by kernel_rfl)
 · (
 intro fr1 w1 hh hd hk K hK
 refine Stab.op_plain (o := _) rfl rfl ?_
 have s15 := Stage.u 4 1 hd hk rfl [] (by kernel_rfl) rfl rfl rfl
 have s16 := Stage.u 5 0 hd hk rfl [] (by kernel_rfl) rfl rfl rfl
 clear hd
 go_simp
 exact hK.out _ rfl _ rfl)
 apply Stage.todo_look (k := 7) (n := 84) 0 [] [] _ hf.size hok.out rfl (by kernel_rfl)
 · (
 intro fr1 w1 hh hw hd hk K hK
 replace hw : w1 = w.drew := hw
 subst hw
 refine Stab.op_plain (o := _) rfl rfl ?_
 have s17 := Stage.u 6 0 hd hk rfl [] (by kernel_rfl) rfl rfl rfl
 clear hd
 go_simp
 exact hK.out _ rfl _ _ rfl rfl)
 refine Stage.mvO (k := 8) s0 hf.size hok.out rfl rfl rfl (.inl rfl) (by kernel_rfl) (by kernel_rfl) ?_
 refine Stage.mvO (k := 9) s1 hf.size hok.out rfl rfl rfl (.inl rfl) (by kernel_rfl) (by kernel_rfl) ?_
 apply Stage.t 10 _ hf.size hok.out rfl (by kernel_rfl)
 · (
 intro fr1 w1 hh hd hk K hK
 refine Stab.op_plain (o := _) rfl rfl ?_
 have s19 := Stage.u 8 1 hd hk rfl [] (by kernel_rfl) rfl rfl rfl
 have s20 := Stage.u 9 0 hd hk rfl [] (by kernel_rfl) rfl rfl rfl
 clear hd
 go_simp
 exact hK.out _ rfl _ rfl)
 apply Stage.todo_look (k := 11) (n := 84) 0 [] [] _ hf.size hok.out rfl (by kernel_rfl)
 · (
 intro fr1 w1 hh hw hd hk K hK
 replace hw : w1 = w.drew := hw
 subst hw
 refine Stab.op_plain (o := _) rfl rfl ?_
 have s21 := Stage.u 10 0 hd hk rfl [] (by kernel_rfl) rfl rfl rfl
 clear hd
 go_simp
 exact hK.out _ rfl _ _ rfl rfl)
 apply Stage.t 12 _ hf.size hok.out rfl (by kernel_rfl)
 · (
 intro fr1 w1 hh hd hk K hK
 refine Stab.op_plain (o := _) rfl rfl ?_
 have s11 := Stage.u 0 11 hd hk rfl [] (by kernel_rfl) rfl rfl rfl
 have s12 := Stage.u 1 10 hd hk rfl [] (by kernel_rfl) rfl rfl rfl
 clear hd
 go_simp
 exact hK.out _ rfl _ rfl)
 refine Stage.todo_lead (k := 13) (n := 84) 0 [] (fun _ => True) hf.size hok.out rfl (by kernel_rfl) ?_ ?_
 · (
 intro fr1 w1 hh hw hd hk K hK
 replace hw : w1 = w.drew := hw
 subst hw
 refine Stab.op_plain (o := _) rfl rfl ?_
 have s23 := Stage.u 12 0 hd hk rfl [] (by kernel_rfl) rfl rfl rfl
 have s18 := Stage.u 7 5 hd hk rfl [] (by kernel_rfl) rfl rfl rfl
 clear hd
 go_simp
 exact hK.out _ rfl undef _ rfl trivial)
 apply Stage.t 14 _ hf.size hok.out rfl (by kernel_rfl)
 · (
 intro fr1 w1 hh hd hk K hK
 refine Stab.op_plain (o := _) rfl rfl ?_
 have s13 := Stage.u 2 11 hd hk rfl [] (by kernel_rfl) rfl rfl rfl
 have s14 := Stage.u 3 10 hd hk rfl [] (by kernel_rfl) rfl rfl rfl
 clear hd
 go_simp
 exact hK.out _ rfl _ rfl)
 refine Stage.todo_lead (k := 15) (n := 84) 1 [] (fun _ => True) hf.size hok.out rfl (by kernel_rfl) ?_ ?_
 · (
 intro fr1 w1 hh hw hd hk K hK
 replace hw : w1 = (w.drew.setCell ⟨g, a, none⟩ (.int .u8 y)) := hw
 subst hw
 refine Stab.op_plain (o := _) rfl rfl ?_
 have s24 := Stage.u 14 0 hd hk rfl [] (by kernel_rfl) rfl rfl rfl
 have s22 := Stage.u 11 3 hd hk rfl [] (by kernel_rfl) rfl rfl rfl
 clear hd
 go_simp
 exact hK.out _ rfl undef _ rfl trivial)
 refine Stage.todo_facts (n := 84) (by kernel_rfl) hf.size hok.out rfl (by decide) (by decide) rfl (fun fr1 w1 hh hg hw => ?_)
 replace hw : w1 = ((w.drew.setCell ⟨g, a, none⟩ (.int .u8 y)).setCell ⟨g, p, none⟩ (.int .u8 x)) := hw
 subst hw
 replace s0 := Stage.o hh (by kernel_rfl) s0
 replace s1 := Stage.o hh (by kernel_rfl) s1
 replace s2 := Stage.o hh (by kernel_rfl) s2
 replace s8 := Stage.o hh (by kernel_rfl) s8
 have hf1 : Fact.Fr 84 fr1 := ⟨hh.size.trans hf.size, hh.defers.trans hf.defers⟩
 clear hg hh hf s3
 have hf := hf1; clear hf1
 clear hok
 obtain ⟨ys, hys⟩ : ∃ ys, ys = swap zs a p := ⟨_, rfl⟩
 have ha := A2.out; rw [show (zs.set a y).set p x = ys by rw [hys]; unfold swap; rw [Hxd.out, Hyd.out]] at ha
 have ho := O2.out
 have hsg : SegP a b zs y ys := ⟨hys ▸ (Segm.refl a b zs).swap (by omega) (by omega) hap hpb, by rw [hys, swap_at zs a p a (by have := HN.out; omega) (by have := HN.out; omega)]; by_cases e : a = p; (rw [if_pos e, e]; exact Hyd.out); (rw [if_neg e, if_pos rfl]; exact Hyd.out)⟩
 have HPV := Lib.hid Hyd.out
 have HYL := Lib.hid (show ys.length = n by rw [hsg.len]; exact HN.out)
 clear A0 A1 A2 O2 C1 F1 cx cy hfr hys Hx Hxd Hy Hyd
 generalize ((w.drew.setCell ⟨g, a, none⟩ (.int .u8 y)).setCell ⟨g, p, none⟩ (.int .u8 x)) = wq at *
 have q1 : IntKind.i64.wrap ((a : Int) + 1) = ((a + 1 : Nat) : Int) := by rw [Fact.wrap_i64 (by omega) (by omega)]; omega
 have q2 : IntKind.i64.wrap ((b : Int) - 1) = ((b - 1 : Nat) : Int) := by rw [Fact.wrap_i64 (by omega) (by omega)]; omega
 refine Fact.nx (hK2 _ _ ?_)
 refine wp_seq_k (fun K3 hK3 => ?_)
 refine Fact.region ?_
 have b25 := hf.l 25 rfl
 have b26 := hf.l 26 rfl
 have b27 := hf.l 27 rfl
 have b28 := hf.l 28 rfl
 refine Fact.p rfl fun K hK => ?_
 go_simp
 refine hK.out _ _ ?_; clear hK K
 refine Fact.p rfl fun K hK => ?_
 go_simp
 try simp (disch := omega) only [Fact.wrap_i64, Fact.wrap_u8, Fact.wrap_u32, Fact.wrap_u64]
 refine hK.out _ _ ?_; clear hK K
 refine Fact.p rfl fun K hK => ?_
 go_simp
 refine hK.out _ _ ?_; clear hK K
 refine Fact.p rfl fun K hK => ?_
 go_simp
 try simp (disch := omega) only [Fact.wrap_i64, Fact.wrap_u8, Fact.wrap_u32, Fact.wrap_u64]
 refine hK.out _ _ ?_; clear hK K
 refine Fact.p rfl fun K hK => ?_
 go_simp
 refine hK.out _ _ ?_; clear hK K
 refine Fact.p rfl fun K hK => ?_
 go_simp
 refine hK.out _ _ ?_; clear hK K
 refine Fact.nil ?_
 refine Fact.q hf (by simp only [Fact.G]) rfl fun fr1 hf1 hT => ?_
 have hKp : _ ∧ _ ∧ _ ∧ _ ∧ _ := ⟨hT 0, hT 1, hT 8, hT 9, hT 10⟩
 simp only [Fact.G, Nat.reduceEqDiff, Nat.reduceLT, hf.size, reduceIte, s0, s1, s8] at hKp
 clear hT hf s0 s1 s2 s8 b25 b26 b27 b28
 obtain ⟨s0, s1, s8, s9, s10⟩ := hKp
 have hf := hf1; clear hf1
 have s9 : fr1.tmps[9]? = some (.int .i64 ((a + 1 : Nat) : Int)) := by first | exact s9 | (rw [s9]; go_num)
 have s10 : fr1.tmps[10]? = some (.int .i64 ((b - 1 : Nat) : Int)) := by first | exact s10 | (rw [s10]; go_num)
 clear q1 q2
 have hpt : Part (fun x p => ¬ p < x) a b (a + 1) (b - 1) ys := Part.start (by omega)
 refine Fact.nx (hK3 _ _ ?_)
 refine wp_seq_k (fun K4 hK4 => ?_)
 refine wp_block ?_
 refine wp_loop_ghost (fun gk fr wm => ∃ (i j : Nat) (ys : List Int), gk = j + 1 - i ∧ Part (fun x p => ¬ p < x) a b i j ys ∧ SegP a b zs y ys ∧ Fact.Fr 84 fr ∧ fr.tmps[0]? = some (.slice (some ⟨g, 0, none⟩) n c) ∧ fr.tmps[1]? = some (.int .i64 a) ∧ fr.tmps[9]? = some (.int .i64 i) ∧ fr.tmps[10]? = some (.int .i64 j) ∧ Arr wm g ys ∧ Only w wm g) (b - 1 + 1 - (a + 1)) ?_ ?_
 · (
 exact ⟨_, _, _, rfl, hpt, hsg, hf, s0, s1, s9, s10, ha, ho⟩)
 · (
 clear hf s0 s1 s8 s9 s10
 clear hpt hsg ha ho HYL
 rintro gk fr wm ⟨i0, j0, ys, hk0, hpt, hsg, hf, s0, s1, s9, s10, ha, ho⟩
 have HK0 := Lib.hid hk0; clear hk0
 have HYL := Lib.hid (show ys.length = n by rw [hsg.len]; exact HN.out)
 refine wp_block ?_
 have hbd : i0 ≤ i0 ∧ j0 ≤ j0 := by omega
 refine Fact.seq_meet (fun fr wmb => ∃ i j : Nat, (i0 ≤ i ∧ j ≤ j0) ∧ Part (fun x p => ¬ p < x) a b i j ys ∧ (j < i ∨ ys.getD a 0 < ys.getD i 0) ∧ Fact.Fr 84 fr ∧ fr.tmps[0]? = some (.slice (some ⟨g, 0, none⟩) n c) ∧ fr.tmps[1]? = some (.int .i64 a) ∧ fr.tmps[9]? = some (.int .i64 i) ∧ fr.tmps[10]? = some (.int .i64 j) ∧ Arr wmb g ys ∧ Only w wmb g) ?_ ?_
 · (
 refine wp_block ?_
 refine wp_loop_ghost (fun gk fr wma => ∃ i j : Nat, gk = j + 1 - i ∧ (i0 ≤ i ∧ j ≤ j0) ∧ Part (fun x p => ¬ p < x) a b i j ys ∧ Fact.Fr 84 fr ∧ fr.tmps[0]? = some (.slice (some ⟨g, 0, none⟩) n c) ∧ fr.tmps[1]? = some (.int .i64 a) ∧ fr.tmps[9]? = some (.int .i64 i) ∧ fr.tmps[10]? = some (.int .i64 j) ∧ Arr wma g ys ∧ Only w wma g) (j0 + 1 - i0) ?_ ?_
 · (
 exact ⟨_, _, rfl, hbd, hpt, hf, s0, s1, s9, s10, ha, ho⟩)
 · (
 clear hf s0 s1 s9 s10
 clear hpt ha ho hbd
 rintro gk fr wma ⟨i, j, hk, hbd, hpt, hf, s0, s1, s9, s10, ha, ho⟩
 have HK := Lib.hid hk; clear hk
 obtain ⟨hai, hij1, hjb⟩ := hpt.1
 by_cases hij : i ≤ j
 · (
 have b1 : i < n := by omega
 have b2 : j < n := by omega
 have b3 : a < n := by omega
 have e1 : IntKind.i64.wrap ((i : Int) + 1) = ((i + 1 : Nat) : Int) := by rw [Fact.wrap_i64 (by omega) (by omega)]; omega
 obtain ⟨x, hx⟩ : ∃ v, ys[i]? = some v := ⟨ys[i]'(by have := HYL.out; omega), List.getElem?_eq_getElem _⟩
 have Hxd := Lib.hid (show ys.getD (i) 0 = x by simp [List.getD, hx])
 have Hx := Lib.hid hx
 clear hx
 obtain ⟨y, hy⟩ : ∃ v, ys[a]? = some v := ⟨ys[a]'(by have := HYL.out; omega), List.getElem?_eq_getElem _⟩
 have Hyd := Lib.hid (show ys.getD (a) 0 = y by simp [List.getD, hy])
 have Hy := Lib.hid hy
 clear hy
 have cx := ha.cell Hx.out; have cy := ha.cell Hy.out
 by_cases hxy : y < x
 · (
 have hF : ys.getD a 0 < ys.getD (i) 0 := by rw [Hxd.out, Hyd.out]; exact hxy
 have HF := Lib.hid hF; clear hF
 refine wp_seq_k (fun K5 hK5 => ?_)
 refine wp_seq_k (fun K6 hK6 => ?_)
 refine Stage.begin_ (n := 84) [] (fun k w1 => w1 = [wma.drew].getD k (wma.drew)) (Stab.OkOps.of (by kernel_rfl)) (fun hok => ?_)
 refine Stage.mvO (k := 0) s9 hf.size hok.out rfl rfl rfl (.inl rfl) (by kernel_rfl) (by kernel_rfl) ?_
 refine Stage.mvO (k := 1) s10 hf.size hok.out rfl rfl rfl (.inl rfl) (by kernel_rfl) (by kernel_rfl) ?_
 apply Stage.t 2 _ hf.size hok.out rfl (by kernel_rfl)
 · (
 intro fr1 w1 hh hd hk K hK
 refine Stab.op_plain (o := _) rfl rfl ?_
 have s29 := Stage.u 0 1 hd hk rfl [] (by kernel_rfl) rfl rfl rfl
 have s30 := Stage.u 1 0 hd hk rfl [] (by kernel_rfl) rfl rfl rfl
 clear hd
 go_simp
 exact hK.out _ rfl _ rfl)
 refine Stage.mvN (k := 3) (j := 2) (m := 0) hf.size hok.out rfl rfl rfl (.inl rfl) rfl [] (by kernel_rfl) rfl rfl rfl (by kernel_rfl) ?_
 apply Stage.t 4 _ hf.size hok.out rfl (by kernel_rfl)
 · (
 intro fr1 w1 hh hd hk K hK
 have s32 := Stage.u 3 0 hd hk rfl [] (by kernel_rfl) rfl rfl rfl
 refine Stab.op_guard (o := _) rfl rfl rfl rfl s32 ?_
 have s0 := Stage.o hh (by kernel_rfl) s0
 clear hd
 go_simp
 exact hK.out _ rfl _ rfl)
 apply Stage.t 5 _ hf.size hok.out rfl (by kernel_rfl)
 · (
 intro fr1 w1 hh hd hk K hK
 have s32 := Stage.u 3 1 hd hk rfl [] (by kernel_rfl) rfl rfl rfl
 refine Stab.op_guard (o := _) rfl rfl rfl rfl s32 ?_
 have s1 := Stage.o hh (by kernel_rfl) s1
 clear hd
 go_simp
 exact hK.out _ rfl _ rfl)
 apply Stage.t 6 _ hf.size hok.out rfl (by kernel_rfl)
 · (
 intro fr1 w1 hh hd hk K hK
 have s32 := Stage.u 3 2 hd hk rfl [] (by kernel_rfl) rfl rfl rfl
 refine Stab.op_guard (o := _) rfl rfl rfl rfl s32 ?_
 have s33 := Stage.u 4 1 hd hk rfl [] (by kernel_rfl) rfl rfl rfl
 have s34 := Stage.u 5 0 hd hk rfl [] (by kernel_rfl) rfl rfl rfl
 clear hd
 go_simp
 exact hK.out _ rfl _ rfl)
 apply Stage.todo_look (k := 7) (n := 84) 0 [] [] _ hf.size hok.out rfl (by kernel_rfl)
 · (
 intro fr1 w1 hh hw hd hk K hK
 replace hw : w1 = wma.drew := hw
 subst hw
 have s32 := Stage.u 3 3 hd hk rfl [] (by kernel_rfl) rfl rfl rfl
 refine Stab.op_guard (o := _) rfl rfl rfl rfl s32 ?_
 have s35 := Stage.u 6 0 hd hk rfl [] (by kernel_rfl) rfl rfl rfl
 clear hd
 go_simp
 exact hK.out _ rfl _ _ rfl rfl)
 apply Stage.t 8 _ hf.size hok.out rfl (by kernel_rfl)
 · (
 intro fr1 w1 hh hd hk K hK
 have s32 := Stage.u 3 4 hd hk rfl [] (by kernel_rfl) rfl rfl rfl
 refine Stab.op_guard (o := _) rfl rfl rfl rfl s32 ?_
 have s0 := Stage.o hh (by kernel_rfl) s0
 clear hd
 go_simp
 exact hK.out _ rfl _ rfl)
 apply Stage.t 9 _ hf.size hok.out rfl (by kernel_rfl)
 · (
 intro fr1 w1 hh hd hk K hK
 have s32 := Stage.u 3 5 hd hk rfl [] (by kernel_rfl) rfl rfl rfl
 refine Stab.op_guard (o := _) rfl rfl rfl rfl s32 ?_
 have s9 := Stage.o hh (by kernel_rfl) s9
 clear hd
 go_simp
 exact hK.out _ rfl _ rfl)
 apply Stage.t 10 _ hf.size hok.out rfl (by kernel_rfl)
 · (
 intro fr1 w1 hh hd hk K hK
 have s32 := Stage.u 3 6 hd hk rfl [] (by kernel_rfl) rfl rfl rfl
 refine Stab.op_guard (o := _) rfl rfl rfl rfl s32 ?_
 have s37 := Stage.u 8 1 hd hk rfl [] (by kernel_rfl) rfl rfl rfl
 have s38 := Stage.u 9 0 hd hk rfl [] (by kernel_rfl) rfl rfl rfl
 clear hd
 go_simp
 exact hK.out _ rfl _ rfl)
 apply Stage.todo_look (k := 11) (n := 84) 0 [] [] _ hf.size hok.out rfl (by kernel_rfl)
 · (
 intro fr1 w1 hh hw hd hk K hK
 replace hw : w1 = wma.drew := hw
 subst hw
 have s32 := Stage.u 3 7 hd hk rfl [] (by kernel_rfl) rfl rfl rfl
 refine Stab.op_guard (o := _) rfl rfl rfl rfl s32 ?_
 have s39 := Stage.u 10 0 hd hk rfl [] (by kernel_rfl) rfl rfl rfl
 clear hd
 go_simp
 exact hK.out _ rfl _ _ rfl rfl)
 apply Stage.todo_look (k := 12) (n := 84) 0 [] [] _ hf.size hok.out rfl (by kernel_rfl)
 · (
 intro fr1 w1 hh hw hd hk K hK
 replace hw : w1 = wma.drew := hw
 subst hw
 have s32 := Stage.u 3 8 hd hk rfl [] (by kernel_rfl) rfl rfl rfl
 refine Stab.op_guard (o := _) rfl rfl rfl rfl s32 ?_
 have s36 := Stage.u 7 4 hd hk rfl [] (by kernel_rfl) rfl rfl rfl
 have s40 := Stage.u 11 0 hd hk rfl [] (by kernel_rfl) rfl rfl rfl
 clear hd
 go_simp
 go_at_call 85; refine (less_any _ _ _).mono ?_; rintro e w2 ⟨rfl, rfl⟩
 exact hK.out _ rfl _ _ rfl rfl)
 apply Stage.t 13 _ hf.size hok.out rfl (by kernel_rfl)
 · (
 intro fr1 w1 hh hd hk K hK
 have s32 := Stage.u 3 9 hd hk rfl [] (by kernel_rfl) rfl rfl rfl
 refine Stab.op_guard (o := _) rfl rfl rfl rfl s32 ?_
 have s41 := Stage.u 12 0 hd hk rfl [] (by kernel_rfl) rfl rfl rfl
 clear hd
 go_simp
 exact hK.out _ rfl _ rfl)
 apply Stage.t 14 _ hf.size hok.out rfl (by kernel_rfl)
 · (
 intro fr1 w1 hh hd hk K hK
 refine Stab.op_plain (o := _) rfl rfl ?_
 have s32 := Stage.u 3 10 hd hk rfl [] (by kernel_rfl) rfl rfl rfl
 have s42 := Stage.u 13 0 hd hk rfl [] (by kernel_rfl) rfl rfl rfl
 clear hd
 go_simp
 exact hK.out _ rfl _ rfl)
 refine Stage.todo_facts (n := 84) (by kernel_rfl) hf.size hok.out rfl (by decide) (by decide) rfl (fun fr1 w1 hh hg hw => ?_)
 replace hw : w1 = wma.drew := hw
 subst hw
 replace s0 := Stage.o hh (by kernel_rfl) s0
 replace s1 := Stage.o hh (by kernel_rfl) s1
 replace s9 := Stage.o hh (by kernel_rfl) s9
 replace s10 := Stage.o hh (by kernel_rfl) s10
 have s29 := Stage.e 0 14 hg rfl rfl rfl rfl
 have s30 := Stage.e 1 13 hg rfl rfl rfl rfl
 have s31 := Stage.e 2 12 hg rfl rfl rfl rfl
 have s32 := Stage.e 3 11 hg rfl rfl rfl rfl
 have s33 := Stage.e 4 10 hg rfl rfl rfl rfl
 have s34 := Stage.e 5 9 hg rfl rfl rfl rfl
 have s35 := Stage.e 6 8 hg rfl rfl rfl rfl
 have s36 := Stage.e 7 7 hg rfl rfl rfl rfl
 have s37 := Stage.e 8 6 hg rfl rfl rfl rfl
 have s38 := Stage.e 9 5 hg rfl rfl rfl rfl
 have s39 := Stage.e 10 4 hg rfl rfl rfl rfl
 have s40 := Stage.e 11 3 hg rfl rfl rfl rfl
 have s41 := Stage.e 12 2 hg rfl rfl rfl rfl
 have s42 := Stage.e 13 1 hg rfl rfl rfl rfl
 have s43 := Stage.e 14 0 hg rfl rfl rfl rfl
 have hf1 : Fact.Fr 84 fr1 := ⟨hh.size.trans hf.size, hh.defers.trans hf.defers⟩
 clear hg hh hf
 have hf := hf1; clear hf1
 clear hok
 have ha3 := ha.drew; have ho3 := ho.drew
 clear ha ho cx cy
 generalize wma.drew = wd at *
 refine Fact.nx (hK6 _ _ ?_)
 refine Fact.cond_f s43 ?_
 have hstop := HF.out
 clear HF
 refine wp_exit ?_
 refine Fact.then_exit ?_
 refine Fact.then_exit ?_
 refine Fact.block_exit ?_
 refine Fact.then_normal ?_
 exact ⟨_, _, hbd, hpt, .inr hstop, hf, s0, s1, s9, s10, ha3, ho3⟩)
 · (
 have hF : ¬ ys.getD a 0 < ys.getD (i) 0 := by rw [Hxd.out, Hyd.out]; exact hxy
 have HF := Lib.hid hF; clear hF
 refine wp_seq_k (fun K7 hK7 => ?_)
 refine wp_seq_k (fun K8 hK8 => ?_)
 refine Stage.begin_ (n := 84) [] (fun k w1 => w1 = [wma.drew].getD k (wma.drew)) (Stab.OkOps.of (by kernel_rfl)) (fun hok => ?_)
 refine Stage.mvO (k := 0) s9 hf.size hok.out rfl rfl rfl (.inl rfl) (by kernel_rfl) (by kernel_rfl) ?_
 refine Stage.mvO (k := 1) s10 hf.size hok.out rfl rfl rfl (.inl rfl) (by kernel_rfl) (by kernel_rfl) ?_
 apply Stage.t 2 _ hf.size hok.out rfl (by kernel_rfl)
 · (
 intro fr1 w1 hh hd hk K hK
 refine Stab.op_plain (o := _) rfl rfl ?_
 have s29 := Stage.u 0 1 hd hk rfl [] (by kernel_rfl) rfl rfl rfl
 have s30 := Stage.u 1 0 hd hk rfl [] (by kernel_rfl) rfl rfl rfl
 clear hd
 go_simp
 exact hK.out _ rfl _ rfl)
 refine Stage.mvN (k := 3) (j := 2) (m := 0) hf.size hok.out rfl rfl rfl (.inl rfl) rfl [] (by kernel_rfl) rfl rfl rfl (by kernel_rfl) ?_
 apply Stage.t 4 _ hf.size hok.out rfl (by kernel_rfl)
 · (
 intro fr1 w1 hh hd hk K hK
 have s32 := Stage.u 3 0 hd hk rfl [] (by kernel_rfl) rfl rfl rfl
 refine Stab.op_guard (o := _) rfl rfl rfl rfl s32 ?_
 have s0 := Stage.o hh (by kernel_rfl) s0
 clear hd
 go_simp
 exact hK.out _ rfl _ rfl)
 apply Stage.t 5 _ hf.size hok.out rfl (by kernel_rfl)
 · (
 intro fr1 w1 hh hd hk K hK
 have s32 := Stage.u 3 1 hd hk rfl [] (by kernel_rfl) rfl rfl rfl
 refine Stab.op_guard (o := _) rfl rfl rfl rfl s32 ?_
 have s1 := Stage.o hh (by kernel_rfl) s1
 clear hd
 go_simp
 exact hK.out _ rfl _ rfl)
 apply Stage.t 6 _ hf.size hok.out rfl (by kernel_rfl)
 · (
 intro fr1 w1 hh hd hk K hK
 have s32 := Stage.u 3 2 hd hk rfl [] (by kernel_rfl) rfl rfl rfl
 refine Stab.op_guard (o := _) rfl rfl rfl rfl s32 ?_
 have s33 := Stage.u 4 1 hd hk rfl [] (by kernel_rfl) rfl rfl rfl
 have s34 := Stage.u 5 0 hd hk rfl [] (by kernel_rfl) rfl rfl rfl
 clear hd
 go_simp
 exact hK.out _ rfl _ rfl)
 apply Stage.todo_look (k := 7) (n := 84) 0 [] [] _ hf.size hok.out rfl (by kernel_rfl)
 · (
 intro fr1 w1 hh hw hd hk K hK
 replace hw : w1 = wma.drew := hw
 subst hw
 have s32 := Stage.u 3 3 hd hk rfl [] (by kernel_rfl) rfl rfl rfl
 refine Stab.op_guard (o := _) rfl rfl rfl rfl s32 ?_
 have s35 := Stage.u 6 0 hd hk rfl [] (by kernel_rfl) rfl rfl rfl
 clear hd
 go_simp
 exact hK.out _ rfl _ _ rfl rfl)
 apply Stage.t 8 _ hf.size hok.out rfl (by kernel_rfl)
 · (
 intro fr1 w1 hh hd hk K hK
 have s32 := Stage.u 3 4 hd hk rfl [] (by kernel_rfl) rfl rfl rfl
 refine Stab.op_guard (o := _) rfl rfl rfl rfl s32 ?_
 have s0 := Stage.o hh (by kernel_rfl) s0
 clear hd
 go_simp
 exact hK.out _ rfl _ rfl)
 apply Stage.t 9 _ hf.size hok.out rfl (by kernel_rfl)
 · (
 intro fr1 w1 hh hd hk K hK
 have s32 := Stage.u 3 5 hd hk rfl [] (by kernel_rfl) rfl rfl rfl
 refine Stab.op_guard (o := _) rfl rfl rfl rfl s32 ?_
 have s9 := Stage.o hh (by kernel_rfl) s9
 clear hd
 go_simp
 exact hK.out _ rfl _ rfl)
 apply Stage.t 10 _ hf.size hok.out rfl (by kernel_rfl)
 · (
 intro fr1 w1 hh hd hk K hK
 have s32 := Stage.u 3 6 hd hk rfl [] (by kernel_rfl) rfl rfl rfl
 refine Stab.op_guard (o := _) rfl rfl rfl rfl s32 ?_
 have s37 := Stage.u 8 1 hd hk rfl [] (by kernel_rfl) rfl rfl rfl
 have s38 := Stage.u 9 0 hd hk rfl [] (by kernel_rfl) rfl rfl rfl
 clear hd
 go_simp
 exact hK.out _ rfl _ rfl)
 apply Stage.todo_look (k := 11) (n := 84) 0 [] [] _ hf.size hok.out rfl (by kernel_rfl)
 · (
 intro fr1 w1 hh hw hd hk K hK
 replace hw : w1 = wma.drew := hw
 subst hw
 have s32 := Stage.u 3 7 hd hk rfl [] (by kernel_rfl) rfl rfl rfl
 refine Stab.op_guard (o := _) rfl rfl rfl rfl s32 ?_
 have s39 := Stage.u 10 0 hd hk rfl [] (by kernel_rfl) rfl rfl rfl
 clear hd
 go_simp
 exact hK.out _ rfl _ _ rfl rfl)
 apply Stage.todo_look (k := 12) (n := 84) 0 [] [] _ hf.size hok.out rfl (by kernel_rfl)
 · (
 intro fr1 w1 hh hw hd hk K hK
 replace hw : w1 = wma.drew := hw
 subst hw
 have s32 := Stage.u 3 8 hd hk rfl [] (by kernel_rfl) rfl rfl rfl
 refine Stab.op_guard (o := _) rfl rfl rfl rfl s32 ?_
 have s36 := Stage.u 7 4 hd hk rfl [] (by kernel_rfl) rfl rfl rfl
 have s40 := Stage.u 11 0 hd hk rfl [] (by kernel_rfl) rfl rfl rfl
 clear hd
 go_simp
 go_at_call 85; refine (less_any _ _ _).mono ?_; rintro e w2 ⟨rfl, rfl⟩
 exact hK.out _ rfl _ _ rfl rfl)
 apply Stage.t 13 _ hf.size hok.out rfl (by kernel_rfl)
 · (
 intro fr1 w1 hh hd hk K hK
 have s32 := Stage.u 3 9 hd hk rfl [] (by kernel_rfl) rfl rfl rfl
 refine Stab.op_guard (o := _) rfl rfl rfl rfl s32 ?_
 have s41 := Stage.u 12 0 hd hk rfl [] (by kernel_rfl) rfl rfl rfl
 clear hd
 go_simp
 exact hK.out _ rfl _ rfl)
 apply Stage.t 14 _ hf.size hok.out rfl (by kernel_rfl)
 · (
 intro fr1 w1 hh hd hk K hK
 refine Stab.op_plain (o := _) rfl rfl ?_
 have s32 := Stage.u 3 10 hd hk rfl [] (by kernel_rfl) rfl rfl rfl
 have s42 := Stage.u 13 0 hd hk rfl [] (by kernel_rfl) rfl rfl rfl
 clear hd
 go_simp
 exact hK.out _ rfl _ rfl)
 refine Stage.todo_facts (n := 84) (by kernel_rfl) hf.size hok.out rfl (by decide) (by decide) rfl (fun fr1 w1 hh hg hw => ?_)
 replace hw : w1 = wma.drew := hw
 subst hw
 replace s0 := Stage.o hh (by kernel_rfl) s0
 replace s1 := Stage.o hh (by kernel_rfl) s1
 replace s9 := Stage.o hh (by kernel_rfl) s9
 replace s10 := Stage.o hh (by kernel_rfl) s10
 have s29 := Stage.e 0 14 hg rfl rfl rfl rfl
 have s30 := Stage.e 1 13 hg rfl rfl rfl rfl
 have s31 := Stage.e 2 12 hg rfl rfl rfl rfl
 have s32 := Stage.e 3 11 hg rfl rfl rfl rfl
 have s33 := Stage.e 4 10 hg rfl rfl rfl rfl
 have s34 := Stage.e 5 9 hg rfl rfl rfl rfl
 have s35 := Stage.e 6 8 hg rfl rfl rfl rfl
 have s36 := Stage.e 7 7 hg rfl rfl rfl rfl
 have s37 := Stage.e 8 6 hg rfl rfl rfl rfl
 have s38 := Stage.e 9 5 hg rfl rfl rfl rfl
 have s39 := Stage.e 10 4 hg rfl rfl rfl rfl
 have s40 := Stage.e 11 3 hg rfl rfl rfl rfl
 have s41 := Stage.e 12 2 hg rfl rfl rfl rfl
 have s42 := Stage.e 13 1 hg rfl rfl rfl rfl
 have s43 := Stage.e 14 0 hg rfl rfl rfl rfl
 have hf1 : Fact.Fr 84 fr1 := ⟨hh.size.trans hf.size, hh.defers.trans hf.defers⟩
 clear hg hh hf
 have hf := hf1; clear hf1
 clear hok
 have ha3 := ha.drew; have ho3 := ho.drew
 clear ha ho cx cy
 generalize wma.drew = wd at *
 refine Fact.nx (hK8 _ _ ?_)
 refine Fact.cond_t s43 ?_
 refine wp_skip ?_
 refine Fact.nx (hK7 _ _ ?_)
 refine wp_block ?_
 refine Fact.region ?_
 have b44 := hf.l 44 rfl
 have b45 := hf.l 45 rfl
 refine Fact.p rfl fun K hK => ?_
 go_simp
 refine hK.out _ _ ?_; clear hK K
 refine Fact.p rfl fun K hK => ?_
 go_simp
 try simp (disch := omega) only [Fact.wrap_i64, Fact.wrap_u8, Fact.wrap_u32, Fact.wrap_u64]
 refine hK.out _ _ ?_; clear hK K
 refine Fact.p rfl fun K hK => ?_
 go_simp
 refine hK.out _ _ ?_; clear hK K
 refine Fact.nil ?_
 refine Fact.q hf (by simp only [Fact.G]) rfl fun fr1 hf1 hT => ?_
 have hKp : _ ∧ _ ∧ _ ∧ _ ∧ _ ∧ _ ∧ _ ∧ _ ∧ _ ∧ _ ∧ _ ∧ _ ∧ _ ∧ _ ∧ _ ∧ _ ∧ _ ∧ _ ∧ _ ∧ _ ∧ _ := ⟨hT 0, hT 1, hT 9, hT 10, hT 29, hT 30, hT 31, hT 32, hT 33, hT 34, hT 35, hT 36, hT 37, hT 38, hT 39, hT 40, hT 41, hT 42, hT 43, hT 44, hT 45⟩
 simp only [Fact.G, Nat.reduceEqDiff, Nat.reduceLT, hf.size, reduceIte, s0, s1, s10, s29, s30, s31, s32, s33, s34, s35, s36, s37, s38, s39, s40, s41, s42, s43] at hKp
 clear hT hf s0 s1 s9 s10 s29 s30 s31 s32 s33 s34 s35 s36 s37 s38 s39 s40 s41 s42 s43 b44 b45
 obtain ⟨s0, s1, s9, s10, s29, s30, s31, s32, s33, s34, s35, s36, s37, s38, s39, s40, s41, s42, s43, s44, s45⟩ := hKp
 have hf := hf1; clear hf1
 refine Fact.block_normal ?_
 refine Fact.then_normal ?_
 exact ⟨j + 1 - (i + 1), by have := HK.out; omega, i + 1, j, rfl, by omega, hpt.up hij HF.out, hf, s0, s1, s9, s10, ha3, ho3⟩))
 · (
 have hijI : ¬ (i : Int) ≤ (j : Int) := by omega
 refine wp_seq_k (fun K9 hK9 => ?_)
 refine wp_seq_k (fun K10 hK10 => ?_)
 refine Stage.begin_ (n := 84) [] (fun k w1 => w1 = [wma.drew].getD k (wma.drew)) (Stab.OkOps.of (by kernel_rfl)) (fun hok => ?_)
 refine Stage.mvO (k := 0) s9 hf.size hok.out rfl rfl rfl (.inl rfl) (by kernel_rfl) (by kernel_rfl) ?_
 refine Stage.mvO (k := 1) s10 hf.size hok.out rfl rfl rfl (.inl rfl) (by kernel_rfl) (by kernel_rfl) ?_
 apply Stage.t 2 _ hf.size hok.out rfl (by kernel_rfl)
 · (
 intro fr1 w1 hh hd hk K hK
 refine Stab.op_plain (o := _) rfl rfl ?_
 have s29 := Stage.u 0 1 hd hk rfl [] (by kernel_rfl) rfl rfl rfl
 have s30 := Stage.u 1 0 hd hk rfl [] (by kernel_rfl) rfl rfl rfl
 clear hd
 go_simp
 exact hK.out _ rfl _ rfl)
 refine Stage.mvN (k := 3) (j := 2) (m := 0) hf.size hok.out rfl rfl rfl (.inl rfl) rfl [] (by kernel_rfl) rfl rfl rfl (by kernel_rfl) ?_
 apply Stage.t 4 _ hf.size hok.out rfl (by kernel_rfl)
 · (
 intro fr1 w1 hh hd hk K hK
 have s32 := Stage.u 3 0 hd hk rfl [] (by kernel_rfl) rfl rfl rfl
 refine Stab.op_skip (o := _) rfl rfl rfl rfl s32 ?_
 exact hK.out _ rfl _ rfl)
 apply Stage.t 5 _ hf.size hok.out rfl (by kernel_rfl)
 · (
 intro fr1 w1 hh hd hk K hK
 have s32 := Stage.u 3 1 hd hk rfl [] (by kernel_rfl) rfl rfl rfl
 refine Stab.op_skip (o := _) rfl rfl rfl rfl s32 ?_
 exact hK.out _ rfl _ rfl)
 apply Stage.t 6 _ hf.size hok.out rfl (by kernel_rfl)
 · (
 intro fr1 w1 hh hd hk K hK
 have s32 := Stage.u 3 2 hd hk rfl [] (by kernel_rfl) rfl rfl rfl
 refine Stab.op_skip (o := _) rfl rfl rfl rfl s32 ?_
 exact hK.out _ rfl _ rfl)
 apply Stage.t 7 _ hf.size hok.out rfl (by kernel_rfl)
 · (
 intro fr1 w1 hh hd hk K hK
 have s32 := Stage.u 3 3 hd hk rfl [] (by kernel_rfl) rfl rfl rfl
 refine Stab.op_skip (o := _) rfl rfl rfl rfl s32 ?_
 exact hK.out _ rfl _ rfl)
 apply Stage.t 8 _ hf.size hok.out rfl (by kernel_rfl)
 · (
 intro fr1 w1 hh hd hk K hK
 have s32 := Stage.u 3 4 hd hk rfl [] (by kernel_rfl) rfl rfl rfl
 refine Stab.op_skip (o := _) rfl rfl rfl rfl s32 ?_
 exact hK.out _ rfl _ rfl)
 apply Stage.t 9 _ hf.size hok.out rfl (by kernel_rfl)
 · (
 intro fr1 w1 hh hd hk K hK
 have s32 := Stage.u 3 5 hd hk rfl [] (by kernel_rfl) rfl rfl rfl
 refine Stab.op_skip (o := _) rfl rfl rfl rfl s32 ?_
 exact hK.out _ rfl _ rfl)
 apply Stage.t 10 _ hf.size hok.out rfl (by kernel_rfl)
 · (
 intro fr1 w1 hh hd hk K hK
 have s32 := Stage.u 3 6 hd hk rfl [] (by kernel_rfl) rfl rfl rfl
 refine Stab.op_skip (o := _) rfl rfl rfl rfl s32 ?_
 exact hK.out _ rfl _ rfl)
 apply Stage.t 11 _ hf.size hok.out rfl (by kernel_rfl)
 · (
 intro fr1 w1 hh hd hk K hK
 have s32 := Stage.u 3 7 hd hk rfl [] (by kernel_rfl) rfl rfl rfl
 refine Stab.op_skip (o := _) rfl rfl rfl rfl s32 ?_
 exact hK.out _ rfl _ rfl)
 apply Stage.t 12 _ hf.size hok.out rfl (by kernel_rfl)
 · (
 intro fr1 w1 hh hd hk K hK
 have s32 := Stage.u 3 8 hd hk rfl [] (by kernel_rfl) rfl rfl rfl
 refine Stab.op_skip (o := _) rfl rfl rfl rfl s32 ?_
 exact hK.out _ rfl _ rfl)
 apply Stage.t 13 _ hf.size hok.out rfl (by kernel_rfl)
 · (
 intro fr1 w1 hh hd hk K hK
 have s32 := Stage.u 3 9 hd hk rfl [] (by kernel_rfl) rfl rfl rfl
 refine Stab.op_skip (o := _) rfl rfl rfl rfl s32 ?_
 exact hK.out _ rfl _ rfl)
 apply Stage.t 14 _ hf.size hok.out rfl (by kernel_rfl)
 · (
 intro fr1 w1 hh hd hk K hK
 refine Stab.op_plain (o := _) rfl rfl ?_
 have s32 := Stage.u 3 10 hd hk rfl [] (by kernel_rfl) rfl rfl rfl
 have s42 := Stage.u 13 0 hd hk rfl [] (by kernel_rfl) rfl rfl rfl
 clear hd
 go_simp
 exact hK.out _ rfl _ rfl)
 refine Stage.todo_facts (n := 84) (by kernel_rfl) hf.size hok.out rfl (by decide) (by decide) rfl (fun fr1 w1 hh hg hw => ?_)
 replace hw : w1 = wma.drew := hw
 subst hw
 replace s0 := Stage.o hh (by kernel_rfl) s0
 replace s1 := Stage.o hh (by kernel_rfl) s1
 replace s9 := Stage.o hh (by kernel_rfl) s9
 replace s10 := Stage.o hh (by kernel_rfl) s10
 have s29 := Stage.e 0 14 hg rfl rfl rfl rfl
 have s30 := Stage.e 1 13 hg rfl rfl rfl rfl
 have s31 := Stage.e 2 12 hg rfl rfl rfl rfl
 have s32 := Stage.e 3 11 hg rfl rfl rfl rfl
 have s33 := Stage.e 4 10 hg rfl rfl rfl rfl
 have s34 := Stage.e 5 9 hg rfl rfl rfl rfl
 have s35 := Stage.e 6 8 hg rfl rfl rfl rfl
 have s36 := Stage.e 7 7 hg rfl rfl rfl rfl
 have s37 := Stage.e 8 6 hg rfl rfl rfl rfl
 have s38 := Stage.e 9 5 hg rfl rfl rfl rfl
 have s39 := Stage.e 10 4 hg rfl rfl rfl rfl
 have s40 := Stage.e 11 3 hg rfl rfl rfl rfl
 have s41 := Stage.e 12 2 hg rfl rfl rfl rfl
 have s42 := Stage.e 13 1 hg rfl rfl rfl rfl
 have s43 := Stage.e 14 0 hg rfl rfl rfl rfl
 have hf1 : Fact.Fr 84 fr1 := ⟨hh.size.trans hf.size, hh.defers.trans hf.defers⟩
 clear hg hh hf
 have hf := hf1; clear hf1
 clear hok
 have ha3 := ha.drew; have ho3 := ho.drew
 clear ha ho
 generalize wma.drew = wd at *
 refine Fact.nx (hK10 _ _ ?_)
 refine Fact.cond_f s43 ?_
 refine wp_exit ?_
 refine Fact.then_exit ?_
 refine Fact.then_exit ?_
 refine Fact.block_exit ?_
 refine Fact.then_normal ?_
 exact ⟨_, _, hbd, hpt, .inl (by omega), hf, s0, s1, s9, s10, ha3, ho3⟩)))
 · (
 clear hf s0 s1 s9 s10
 clear hpt ha ho hbd
 rintro fr wmb ⟨i, j, hbd, hpt, hst, hf, s0, s1, s9, s10, ha, ho⟩
 refine Fact.seq_meet (fun fr wmd => ∃ i j : Nat, (i0 ≤ i ∧ j ≤ j0) ∧ Part (fun x p => ¬ p < x) a b i j ys ∧ (j < i ∨ (ys.getD a 0 < ys.getD i 0 ∧ ¬ ys.getD a 0 < ys.getD j 0)) ∧ Fact.Fr 84 fr ∧ fr.tmps[0]? = some (.slice (some ⟨g, 0, none⟩) n c) ∧ fr.tmps[1]? = some (.int .i64 a) ∧ fr.tmps[9]? = some (.int .i64 i) ∧ fr.tmps[10]? = some (.int .i64 j) ∧ Arr wmd g ys ∧ Only w wmd g) ?_ ?_
 · (
 refine wp_block ?_
 refine wp_loop_ghost (fun gk fr wmc => ∃ i j : Nat, gk = j + 1 - i ∧ (i0 ≤ i ∧ j ≤ j0) ∧ Part (fun x p => ¬ p < x) a b i j ys ∧ (j < i ∨ ys.getD a 0 < ys.getD i 0) ∧ Fact.Fr 84 fr ∧ fr.tmps[0]? = some (.slice (some ⟨g, 0, none⟩) n c) ∧ fr.tmps[1]? = some (.int .i64 a) ∧ fr.tmps[9]? = some (.int .i64 i) ∧ fr.tmps[10]? = some (.int .i64 j) ∧ Arr wmc g ys ∧ Only w wmc g) (j + 1 - i) ?_ ?_
 · (
 exact ⟨_, _, rfl, hbd, hpt, hst, hf, s0, s1, s9, s10, ha, ho⟩)
 · (
 clear hf s0 s1 s9 s10
 clear hpt ha ho hbd hst
 rintro gk fr wmc ⟨i, j, hk, hbd, hpt, hst, hf, s0, s1, s9, s10, ha, ho⟩
 have HK := Lib.hid hk; clear hk
 obtain ⟨hai, hij1, hjb⟩ := hpt.1
 by_cases hij : i ≤ j
 · (
 have b1 : i < n := by omega
 have b2 : j < n := by omega
 have b3 : a < n := by omega
 have e1 : IntKind.i64.wrap ((i : Int) + 1) = ((i + 1 : Nat) : Int) := by rw [Fact.wrap_i64 (by omega) (by omega)]; omega
 obtain ⟨q, rfl⟩ : ∃ q, j = q + 1 := ⟨j - 1, by omega⟩
 have e2 : IntKind.i64.wrap ((q : Int) + 1 - 1) = (q : Int) := by rw [Fact.wrap_i64 (by omega) (by omega)]; omega
 have e3 : IntKind.i64.wrap (q : Int) = (q : Int) := Fact.wrap_i64 (by omega) (by omega)
 have b4 : (q : Int) + 1 < (n : Int) := by omega
 have b5 : (0 : Int) ≤ (q : Int) + 1 := by omega
 have hijI : (i : Int) ≤ (q : Int) + 1 := by omega
 obtain ⟨x, hx⟩ : ∃ v, ys[q + 1]? = some v := ⟨ys[q + 1]'(by have := HYL.out; omega), List.getElem?_eq_getElem _⟩
 have Hxd := Lib.hid (show ys.getD (q + 1) 0 = x by simp [List.getD, hx])
 have Hx := Lib.hid hx
 clear hx
 obtain ⟨y, hy⟩ : ∃ v, ys[a]? = some v := ⟨ys[a]'(by have := HYL.out; omega), List.getElem?_eq_getElem _⟩
 have Hyd := Lib.hid (show ys.getD (a) 0 = y by simp [List.getD, hy])
 have Hy := Lib.hid hy
 clear hy
 have cx := ha.cell Hx.out; have cy := ha.cell Hy.out
 by_cases hxy : y < x
 · (
 have hF : ys.getD a 0 < ys.getD (q + 1) 0 := by rw [Hxd.out, Hyd.out]; exact hxy
 have HF := Lib.hid hF; clear hF
 refine wp_seq_k (fun K11 hK11 => ?_)
 refine wp_seq_k (fun K12 hK12 => ?_)
 refine Stage.begin_ (n := 84) [] (fun k w1 => w1 = [wmc.drew].getD k (wmc.drew)) (Stab.OkOps.of (by kernel_rfl)) (fun hok => ?_)
 refine Stage.mvO (k := 0) s9 hf.size hok.out rfl rfl rfl (.inl rfl) (by kernel_rfl) (by kernel_rfl) ?_
 refine Stage.mvO (k := 1) s10 hf.size hok.out rfl rfl rfl (.inl rfl) (by kernel_rfl) (by kernel_rfl) ?_
 apply Stage.t 2 _ hf.size hok.out rfl (by kernel_rfl)
 · (
 intro fr1 w1 hh hd hk K hK
 refine Stab.op_plain (o := _) rfl rfl ?_
 have s46 := Stage.u 0 1 hd hk rfl [] (by kernel_rfl) rfl rfl rfl
 have s47 := Stage.u 1 0 hd hk rfl [] (by kernel_rfl) rfl rfl rfl
 clear hd
 go_simp
 exact hK.out _ rfl _ rfl)
 refine Stage.mvN (k := 3) (j := 2) (m := 0) hf.size hok.out rfl rfl rfl (.inl rfl) rfl [] (by kernel_rfl) rfl rfl rfl (by kernel_rfl) ?_
 apply Stage.t 4 _ hf.size hok.out rfl (by kernel_rfl)
 · (
 intro fr1 w1 hh hd hk K hK
 have s49 := Stage.u 3 0 hd hk rfl [] (by kernel_rfl) rfl rfl rfl
 refine Stab.op_guard (o := _) rfl rfl rfl rfl s49 ?_
 have s0 := Stage.o hh (by kernel_rfl) s0
 clear hd
 go_simp
 exact hK.out _ rfl _ rfl)
 apply Stage.t 5 _ hf.size hok.out rfl (by kernel_rfl)
 · (
 intro fr1 w1 hh hd hk K hK
 have s49 := Stage.u 3 1 hd hk rfl [] (by kernel_rfl) rfl rfl rfl
 refine Stab.op_guard (o := _) rfl rfl rfl rfl s49 ?_
 have s1 := Stage.o hh (by kernel_rfl) s1
 clear hd
 go_simp
 exact hK.out _ rfl _ rfl)
 apply Stage.t 6 _ hf.size hok.out rfl (by kernel_rfl)
 · (
 intro fr1 w1 hh hd hk K hK
 have s49 := Stage.u 3 2 hd hk rfl [] (by kernel_rfl) rfl rfl rfl
 refine Stab.op_guard (o := _) rfl rfl rfl rfl s49 ?_
 have s50 := Stage.u 4 1 hd hk rfl [] (by kernel_rfl) rfl rfl rfl
 have s51 := Stage.u 5 0 hd hk rfl [] (by kernel_rfl) rfl rfl rfl
 clear hd
 go_simp
 exact hK.out _ rfl _ rfl)
 apply Stage.todo_look (k := 7) (n := 84) 0 [] [] _ hf.size hok.out rfl (by kernel_rfl)
 · (
 intro fr1 w1 hh hw hd hk K hK
 replace hw : w1 = wmc.drew := hw
 subst hw
 have s49 := Stage.u 3 3 hd hk rfl [] (by kernel_rfl) rfl rfl rfl
 refine Stab.op_guard (o := _) rfl rfl rfl rfl s49 ?_
 have s52 := Stage.u 6 0 hd hk rfl [] (by kernel_rfl) rfl rfl rfl
 clear hd
 go_simp
 exact hK.out _ rfl _ _ rfl rfl)
 apply Stage.t 8 _ hf.size hok.out rfl (by kernel_rfl)
 · (
 intro fr1 w1 hh hd hk K hK
 have s49 := Stage.u 3 4 hd hk rfl [] (by kernel_rfl) rfl rfl rfl
 refine Stab.op_guard (o := _) rfl rfl rfl rfl s49 ?_
 have s0 := Stage.o hh (by kernel_rfl) s0
 clear hd
 go_simp
 exact hK.out _ rfl _ rfl)
 apply Stage.t 9 _ hf.size hok.out rfl (by kernel_rfl)
 · (
 intro fr1 w1 hh hd hk K hK
 have s49 := Stage.u 3 5 hd hk rfl [] (by kernel_rfl) rfl rfl rfl
 refine Stab.op_guard (o := _) rfl rfl rfl rfl s49 ?_
 have s10 := Stage.o hh (by kernel_rfl) s10
 clear hd
 go_simp
 exact hK.out _ rfl _ rfl)
 apply Stage.t 10 _ hf.size hok.out rfl (by kernel_rfl)
 · (
 intro fr1 w1 hh hd hk K hK
 have s49 := Stage.u 3 6 hd hk rfl [] (by kernel_rfl) rfl rfl rfl
 refine Stab.op_guard (o := _) rfl rfl rfl rfl s49 ?_
 have s54 := Stage.u 8 1 hd hk rfl [] (by kernel_rfl) rfl rfl rfl
 have s55 := Stage.u 9 0 hd hk rfl [] (by kernel_rfl) rfl rfl rfl
 clear hd
 go_simp
 exact hK.out _ rfl _ rfl)
 apply Stage.todo_look (k := 11) (n := 84) 0 [] [] _ hf.size hok.out rfl (by kernel_rfl)
 · (
 intro fr1 w1 hh hw hd hk K hK
 replace hw : w1 = wmc.drew := hw
 subst hw
 have s49 := Stage.u 3 7 hd hk rfl [] (by kernel_rfl) rfl rfl rfl
 refine Stab.op_guard (o := _) rfl rfl rfl rfl s49 ?_
 have s56 := Stage.u 10 0 hd hk rfl [] (by kernel_rfl) rfl rfl rfl
 clear hd
 go_simp
 exact hK.out _ rfl _ _ rfl rfl)
 apply Stage.todo_look (k := 12) (n := 84) 0 [] [] _ hf.size hok.out rfl (by kernel_rfl)
 · (
 intro fr1 w1 hh hw hd hk K hK
 replace hw : w1 = wmc.drew := hw
 subst hw
 have s49 := Stage.u 3 8 hd hk rfl [] (by kernel_rfl) rfl rfl rfl
 refine Stab.op_guard (o := _) rfl rfl rfl rfl s49 ?_
 have s53 := Stage.u 7 4 hd hk rfl [] (by kernel_rfl) rfl rfl rfl
 have s57 := Stage.u 11 0 hd hk rfl [] (by kernel_rfl) rfl rfl rfl
 clear hd
 go_simp
 go_at_call 85; refine (less_any _ _ _).mono ?_; rintro e w2 ⟨rfl, rfl⟩
 exact hK.out _ rfl _ _ rfl rfl)
 apply Stage.t 13 _ hf.size hok.out rfl (by kernel_rfl)
 · (
 intro fr1 w1 hh hd hk K hK
 refine Stab.op_plain (o := _) rfl rfl ?_
 have s49 := Stage.u 3 9 hd hk rfl [] (by kernel_rfl) rfl rfl rfl
 have s58 := Stage.u 12 0 hd hk rfl [] (by kernel_rfl) rfl rfl rfl
 clear hd
 go_simp
 exact hK.out _ rfl _ rfl)
 refine Stage.todo_facts (n := 84) (by kernel_rfl) hf.size hok.out rfl (by decide) (by decide) rfl (fun fr1 w1 hh hg hw => ?_)
 replace hw : w1 = wmc.drew := hw
 subst hw
 replace s0 := Stage.o hh (by kernel_rfl) s0
 replace s1 := Stage.o hh (by kernel_rfl) s1
 replace s9 := Stage.o hh (by kernel_rfl) s9
 replace s10 := Stage.o hh (by kernel_rfl) s10
 have s46 := Stage.e 0 13 hg rfl rfl rfl rfl
 have s47 := Stage.e 1 12 hg rfl rfl rfl rfl
 have s48 := Stage.e 2 11 hg rfl rfl rfl rfl
 have s49 := Stage.e 3 10 hg rfl rfl rfl rfl
 have s50 := Stage.e 4 9 hg rfl rfl rfl rfl
 have s51 := Stage.e 5 8 hg rfl rfl rfl rfl
 have s52 := Stage.e 6 7 hg rfl rfl rfl rfl
 have s53 := Stage.e 7 6 hg rfl rfl rfl rfl
 have s54 := Stage.e 8 5 hg rfl rfl rfl rfl
 have s55 := Stage.e 9 4 hg rfl rfl rfl rfl
 have s56 := Stage.e 10 3 hg rfl rfl rfl rfl
 have s57 := Stage.e 11 2 hg rfl rfl rfl rfl
 have s58 := Stage.e 12 1 hg rfl rfl rfl rfl
 have s59 := Stage.e 13 0 hg rfl rfl rfl rfl
 have hf1 : Fact.Fr 84 fr1 := ⟨hh.size.trans hf.size, hh.defers.trans hf.defers⟩
 clear hg hh hf
 have hf := hf1; clear hf1
 clear hok
 have ha3 := ha.drew; have ho3 := ho.drew
 clear ha ho cx cy
 generalize wmc.drew = wd at *
 refine Fact.nx (hK12 _ _ ?_)
 refine Fact.cond_t s59 ?_
 refine wp_skip ?_
 refine Fact.nx (hK11 _ _ ?_)
 refine wp_block ?_
 refine Fact.region ?_
 have b60 := hf.l 60 rfl
 have b61 := hf.l 61 rfl
 refine Fact.p rfl fun K hK => ?_
 go_simp
 refine hK.out _ _ ?_; clear hK K
 refine Fact.p rfl fun K hK => ?_
 go_simp
 try simp (disch := omega) only [Fact.wrap_i64, Fact.wrap_u8, Fact.wrap_u32, Fact.wrap_u64]
 refine hK.out _ _ ?_; clear hK K
 refine Fact.p rfl fun K hK => ?_
 go_simp
 refine hK.out _ _ ?_; clear hK K
 refine Fact.nil ?_
 refine Fact.q hf (by simp only [Fact.G]) rfl fun fr1 hf1 hT => ?_
 have hKp : _ ∧ _ ∧ _ ∧ _ ∧ _ ∧ _ ∧ _ ∧ _ ∧ _ ∧ _ ∧ _ ∧ _ ∧ _ ∧ _ ∧ _ ∧ _ ∧ _ ∧ _ ∧ _ ∧ _ := ⟨hT 0, hT 1, hT 9, hT 10, hT 46, hT 47, hT 48, hT 49, hT 50, hT 51, hT 52, hT 53, hT 54, hT 55, hT 56, hT 57, hT 58, hT 59, hT 60, hT 61⟩
 simp only [Fact.G, Nat.reduceEqDiff, Nat.reduceLT, hf.size, reduceIte, s0, s1, s9, s46, s47, s48, s49, s50, s51, s52, s53, s54, s55, s56, s57, s58, s59] at hKp
 clear hT hf s0 s1 s9 s10 s46 s47 s48 s49 s50 s51 s52 s53 s54 s55 s56 s57 s58 s59 b60 b61
 obtain ⟨s0, s1, s9, s10, s46, s47, s48, s49, s50, s51, s52, s53, s54, s55, s56, s57, s58, s59, s60, s61⟩ := hKp
 have hf := hf1; clear hf1
 refine Fact.block_normal ?_
 refine Fact.then_normal ?_
 exact ⟨q + 1 - i, by have := HK.out; omega, i, q, rfl, by omega, hpt.down hij (fun h => h HF.out), (hst.imp (fun h => by omega) id), hf, s0, s1, s9, s10, ha3, ho3⟩)
 · (
 have hF : ¬ ys.getD a 0 < ys.getD (q + 1) 0 := by rw [Hxd.out, Hyd.out]; exact hxy
 have HF := Lib.hid hF; clear hF
 refine wp_seq_k (fun K13 hK13 => ?_)
 refine wp_seq_k (fun K14 hK14 => ?_)
 refine Stage.begin_ (n := 84) [] (fun k w1 => w1 = [wmc.drew].getD k (wmc.drew)) (Stab.OkOps.of (by kernel_rfl)) (fun hok => ?_)
 refine Stage.mvO (k := 0) s9 hf.size hok.out rfl rfl rfl (.inl rfl) (by kernel_rfl) (by kernel_rfl) ?_
 refine Stage.mvO (k := 1) s10 hf.size hok.out rfl rfl rfl (.inl rfl) (by kernel_rfl) (by kernel_rfl) ?_
 apply Stage.t 2 _ hf.size hok.out rfl (by kernel_rfl)
 · (
 intro fr1 w1 hh hd hk K hK
 refine Stab.op_plain (o := _) rfl rfl ?_
 have s46 := Stage.u 0 1 hd hk rfl [] (by kernel_rfl) rfl rfl rfl
 have s47 := Stage.u 1 0 hd hk rfl [] (by kernel_rfl) rfl rfl rfl
 clear hd
 go_simp
 exact hK.out _ rfl _ rfl)
 refine Stage.mvN (k := 3) (j := 2) (m := 0) hf.size hok.out rfl rfl rfl (.inl rfl) rfl [] (by kernel_rfl) rfl rfl rfl (by kernel_rfl) ?_
 apply Stage.t 4 _ hf.size hok.out rfl (by kernel_rfl)
 · (
 intro fr1 w1 hh hd hk K hK
 have s49 := Stage.u 3 0 hd hk rfl [] (by kernel_rfl) rfl rfl rfl
 refine Stab.op_guard (o := _) rfl rfl rfl rfl s49 ?_
 have s0 := Stage.o hh (by kernel_rfl) s0
 clear hd
 go_simp
 exact hK.out _ rfl _ rfl)
 apply Stage.t 5 _ hf.size hok.out rfl (by kernel_rfl)
 · (
 intro fr1 w1 hh hd hk K hK
 have s49 := Stage.u 3 1 hd hk rfl [] (by kernel_rfl) rfl rfl rfl
 refine Stab.op_guard (o := _) rfl rfl rfl rfl s49 ?_
 have s1 := Stage.o hh (by kernel_rfl) s1
 clear hd
 go_simp
 exact hK.out _ rfl _ rfl)
 apply Stage.t 6 _ hf.size hok.out rfl (by kernel_rfl)
 · (
 intro fr1 w1 hh hd hk K hK
 have s49 := Stage.u 3 2 hd hk rfl [] (by kernel_rfl) rfl rfl rfl
 refine Stab.op_guard (o := _) rfl rfl rfl rfl s49 ?_
 have s50 := Stage.u 4 1 hd hk rfl [] (by kernel_rfl) rfl rfl rfl
 have s51 := Stage.u 5 0 hd hk rfl [] (by kernel_rfl) rfl rfl rfl
 clear hd
 go_simp
 exact hK.out _ rfl _ rfl)
 apply Stage.todo_look (k := 7) (n := 84) 0 [] [] _ hf.size hok.out rfl (by kernel_rfl)
 · (
 intro fr1 w1 hh hw hd hk K hK
 replace hw : w1 = wmc.drew := hw
 subst hw
 have s49 := Stage.u 3 3 hd hk rfl [] (by kernel_rfl) rfl rfl rfl
 refine Stab.op_guard (o := _) rfl rfl rfl rfl s49 ?_
 have s52 := Stage.u 6 0 hd hk rfl [] (by kernel_rfl) rfl rfl rfl
 clear hd
 go_simp
 exact hK.out _ rfl _ _ rfl rfl)
 apply Stage.t 8 _ hf.size hok.out rfl (by kernel_rfl)
 · (
 intro fr1 w1 hh hd hk K hK
 have s49 := Stage.u 3 4 hd hk rfl [] (by kernel_rfl) rfl rfl rfl
 refine Stab.op_guard (o := _) rfl rfl rfl rfl s49 ?_
 have s0 := Stage.o hh (by kernel_rfl) s0
 clear hd
 go_simp
 exact hK.out _ rfl _ rfl)
 apply Stage.t 9 _ hf.size hok.out rfl (by kernel_rfl)
 · (
 intro fr1 w1 hh hd hk K hK
 have s49 := Stage.u 3 5 hd hk rfl [] (by kernel_rfl) rfl rfl rfl
 refine Stab.op_guard (o := _) rfl rfl rfl rfl s49 ?_
 have s10 := Stage.o hh (by kernel_rfl) s10
 clear hd
 go_simp
 exact hK.out _ rfl _ rfl)
 apply Stage.t 10 _ hf.size hok.out rfl (by kernel_rfl)
 · (
 intro fr1 w1 hh hd hk K hK
 have s49 := Stage.u 3 6 hd hk rfl [] (by kernel_rfl) rfl rfl rfl
 refine Stab.op_guard (o := _) rfl rfl rfl rfl s49 ?_
 have s54 := Stage.u 8 1 hd hk rfl [] (by kernel_rfl) rfl rfl rfl
 have s55 := Stage.u 9 0 hd hk rfl [] (by kernel_rfl) rfl rfl rfl
 clear hd
 go_simp
 exact hK.out _ rfl _ rfl)
 apply Stage.todo_look (k := 11) (n := 84) 0 [] [] _ hf.size hok.out rfl (by kernel_rfl)
 · (
 intro fr1 w1 hh hw hd hk K hK
 replace hw : w1 = wmc.drew := hw
 subst hw
 have s49 := Stage.u 3 7 hd hk rfl [] (by kernel_rfl) rfl rfl rfl
 refine Stab.op_guard (o := _) rfl rfl rfl rfl s49 ?_
 have s56 := Stage.u 10 0 hd hk rfl [] (by kernel_rfl) rfl rfl rfl
 clear hd
 go_simp
 exact hK.out _ rfl _ _ rfl rfl)
 apply Stage.todo_look (k := 12) (n := 84) 0 [] [] _ hf.size hok.out rfl (by kernel_rfl)
 · (
 intro fr1 w1 hh hw hd hk K hK
 replace hw : w1 = wmc.drew := hw
 subst hw
 have s49 := Stage.u 3 8 hd hk rfl [] (by kernel_rfl) rfl rfl rfl
 refine Stab.op_guard (o := _) rfl rfl rfl rfl s49 ?_
 have s53 := Stage.u 7 4 hd hk rfl [] (by kernel_rfl) rfl rfl rfl
 have s57 := Stage.u 11 0 hd hk rfl [] (by kernel_rfl) rfl rfl rfl
 clear hd
 go_simp
 go_at_call 85; refine (less_any _ _ _).mono ?_; rintro e w2 ⟨rfl, rfl⟩
 exact hK.out _ rfl _ _ rfl rfl)
 apply Stage.t 13 _ hf.size hok.out rfl (by kernel_rfl)
 · (
 intro fr1 w1 hh hd hk K hK
 refine Stab.op_plain (o := _) rfl rfl ?_
 have s49 := Stage.u 3 9 hd hk rfl [] (by kernel_rfl) rfl rfl rfl
 have s58 := Stage.u 12 0 hd hk rfl [] (by kernel_rfl) rfl rfl rfl
 clear hd
 go_simp
 exact hK.out _ rfl _ rfl)
 refine Stage.todo_facts (n := 84) (by kernel_rfl) hf.size hok.out rfl (by decide) (by decide) rfl (fun fr1 w1 hh hg hw => ?_)
 replace hw : w1 = wmc.drew := hw
 subst hw
 replace s0 := Stage.o hh (by kernel_rfl) s0
 replace s1 := Stage.o hh (by kernel_rfl) s1
 replace s9 := Stage.o hh (by kernel_rfl) s9
 replace s10 := Stage.o hh (by kernel_rfl) s10
 have s46 := Stage.e 0 13 hg rfl rfl rfl rfl
 have s47 := Stage.e 1 12 hg rfl rfl rfl rfl
 have s48 := Stage.e 2 11 hg rfl rfl rfl rfl
 have s49 := Stage.e 3 10 hg rfl rfl rfl rfl
 have s50 := Stage.e 4 9 hg rfl rfl rfl rfl
 have s51 := Stage.e 5 8 hg rfl rfl rfl rfl
 have s52 := Stage.e 6 7 hg rfl rfl rfl rfl
 have s53 := Stage.e 7 6 hg rfl rfl rfl rfl
 have s54 := Stage.e 8 5 hg rfl rfl rfl rfl
 have s55 := Stage.e 9 4 hg rfl rfl rfl rfl
 have s56 := Stage.e 10 3 hg rfl rfl rfl rfl
 have s57 := Stage.e 11 2 hg rfl rfl rfl rfl
 have s58 := Stage.e 12 1 hg rfl rfl rfl rfl
 have s59 := Stage.e 13 0 hg rfl rfl rfl rfl
 have hf1 : Fact.Fr 84 fr1 := ⟨hh.size.trans hf.size, hh.defers.trans hf.defers⟩
 clear hg hh hf
 have hf := hf1; clear hf1
 clear hok
 have ha3 := ha.drew; have ho3 := ho.drew
 clear ha ho cx cy
 generalize wmc.drew = wd at *
 refine Fact.nx (hK14 _ _ ?_)
 refine Fact.cond_f s59 ?_
 have hstop := HF.out
 clear HF
 refine wp_exit ?_
 refine Fact.then_exit ?_
 refine Fact.then_exit ?_
 refine Fact.block_exit ?_
 refine Fact.then_normal ?_
 exact ⟨_, _, hbd, hpt, .inr ⟨hst.resolve_left (by omega), hstop⟩, hf, s0, s1, s9, s10, ha3, ho3⟩))
 · (
 have hijI : ¬ (i : Int) ≤ (j : Int) := by omega
 refine wp_seq_k (fun K15 hK15 => ?_)
 refine wp_seq_k (fun K16 hK16 => ?_)
 refine Stage.begin_ (n := 84) [] (fun k w1 => w1 = [wmc.drew].getD k (wmc.drew)) (Stab.OkOps.of (by kernel_rfl)) (fun hok => ?_)
 refine Stage.mvO (k := 0) s9 hf.size hok.out rfl rfl rfl (.inl rfl) (by kernel_rfl) (by kernel_rfl) ?_
 refine Stage.mvO (k := 1) s10 hf.size hok.out rfl rfl rfl (.inl rfl) (by kernel_rfl) (by kernel_rfl) ?_
 apply Stage.t 2 _ hf.size hok.out rfl (by kernel_rfl)
 · (
 intro fr1 w1 hh hd hk K hK
 refine Stab.op_plain (o := _) rfl rfl ?_
 have s46 := Stage.u 0 1 hd hk rfl [] (by kernel_rfl) rfl rfl rfl
 have s47 := Stage.u 1 0 hd hk rfl [] (by kernel_rfl) rfl rfl rfl
 clear hd
 go_simp
 exact hK.out _ rfl _ rfl)
 refine Stage.mvN (k := 3) (j := 2) (m := 0) hf.size hok.out rfl rfl rfl (.inl rfl) rfl [] (by kernel_rfl) rfl rfl rfl (by kernel_rfl) ?_
 apply Stage.t 4 _ hf.size hok.out rfl (by kernel_rfl)
 · (
 intro fr1 w1 hh hd hk K hK
 have s49 := Stage.u 3 0 hd hk rfl [] (by kernel_rfl) rfl rfl rfl
 refine Stab.op_skip (o := _) rfl rfl rfl rfl s49 ?_
 exact hK.out _ rfl _ rfl)
 apply Stage.t 5 _ hf.size hok.out rfl (by kernel_rfl)
 · (
 intro fr1 w1 hh hd hk K hK
 have s49 := Stage.u 3 1 hd hk rfl [] (by kernel_rfl) rfl rfl rfl
 refine Stab.op_skip (o := _) rfl rfl rfl rfl s49 ?_
 exact hK.out _ rfl _ rfl)
 apply Stage.t 6 _ hf.size hok.out rfl (by kernel_rfl)
 · (
 intro fr1 w1 hh hd hk K hK
 have s49 := Stage.u 3 2 hd hk rfl [] (by kernel_rfl) rfl rfl rfl
 refine Stab.op_skip (o := _) rfl rfl rfl rfl s49 ?_
 exact hK.out _ rfl _ rfl)
 apply Stage.t 7 _ hf.size hok.out rfl (by kernel_rfl)
 · (
 intro fr1 w1 hh hd hk K hK
 have s49 := Stage.u 3 3 hd hk rfl [] (by kernel_rfl) rfl rfl rfl
 refine Stab.op_skip (o := _) rfl rfl rfl rfl s49 ?_
 exact hK.out _ rfl _ rfl)
 apply Stage.t 8 _ hf.size hok.out rfl (by kernel_rfl)
 · (
 intro fr1 w1 hh hd hk K hK
 have s49 := Stage.u 3 4 hd hk rfl [] (by kernel_rfl) rfl rfl rfl
 refine Stab.op_skip (o := _) rfl rfl rfl rfl s49 ?_
 exact hK.out _ rfl _ rfl)
 apply Stage.t 9 _ hf.size hok.out rfl (by kernel_rfl)
 · (
 intro fr1 w1 hh hd hk K hK
 have s49 := Stage.u 3 5 hd hk rfl [] (by kernel_rfl) rfl rfl rfl
 refine Stab.op_skip (o := _) rfl rfl rfl rfl s49 ?_
 exact hK.out _ rfl _ rfl)
 apply Stage.t 10 _ hf.size hok.out rfl (by kernel_rfl)
 · (
 intro fr1 w1 hh hd hk K hK
 have s49 := Stage.u 3 6 hd hk rfl [] (by kernel_rfl) rfl rfl rfl
 refine Stab.op_skip (o := _) rfl rfl rfl rfl s49 ?_
 exact hK.out _ rfl _ rfl)
 apply Stage.t 11 _ hf.size hok.out rfl (by kernel_rfl)
 · (
 intro fr1 w1 hh hd hk K hK
 have s49 := Stage.u 3 7 hd hk rfl [] (by kernel_rfl) rfl rfl rfl
 refine Stab.op_skip (o := _) rfl rfl rfl rfl s49 ?_
 exact hK.out _ rfl _ rfl)
 apply Stage.t 12 _ hf.size hok.out rfl (by kernel_rfl)
 · (
 intro fr1 w1 hh hd hk K hK
 have s49 := Stage.u 3 8 hd hk rfl [] (by kernel_rfl) rfl rfl rfl
 refine Stab.op_skip (o := _) rfl rfl rfl rfl s49 ?_
 exact hK.out _ rfl _ rfl)
 apply Stage.t 13 _ hf.size hok.out rfl (by kernel_rfl)
 · (
 intro fr1 w1 hh hd hk K hK
 refine Stab.op_plain (o := _) rfl rfl ?_
 have s49 := Stage.u 3 9 hd hk rfl [] (by kernel_rfl) rfl rfl rfl
 have s58 := Stage.u 12 0 hd hk rfl [] (by kernel_rfl) rfl rfl rfl
 clear hd
 go_simp
 exact hK.out _ rfl _ rfl)
 refine Stage.todo_facts (n := 84) (by kernel_rfl) hf.size hok.out rfl (by decide) (by decide) rfl (fun fr1 w1 hh hg hw => ?_)
 replace hw : w1 = wmc.drew := hw
 subst hw
 replace s0 := Stage.o hh (by kernel_rfl) s0
 replace s1 := Stage.o hh (by kernel_rfl) s1
 replace s9 := Stage.o hh (by kernel_rfl) s9
 replace s10 := Stage.o hh (by kernel_rfl) s10
 have s46 := Stage.e 0 13 hg rfl rfl rfl rfl
 have s47 := Stage.e 1 12 hg rfl rfl rfl rfl
 have s48 := Stage.e 2 11 hg rfl rfl rfl rfl
 have s49 := Stage.e 3 10 hg rfl rfl rfl rfl
 have s50 := Stage.e 4 9 hg rfl rfl rfl rfl
 have s51 := Stage.e 5 8 hg rfl rfl rfl rfl
 have s52 := Stage.e 6 7 hg rfl rfl rfl rfl
 have s53 := Stage.e 7 6 hg rfl rfl rfl rfl
 have s54 := Stage.e 8 5 hg rfl rfl rfl rfl
 have s55 := Stage.e 9 4 hg rfl rfl rfl rfl
 have s56 := Stage.e 10 3 hg rfl rfl rfl rfl
 have s57 := Stage.e 11 2 hg rfl rfl rfl rfl
 have s58 := Stage.e 12 1 hg rfl rfl rfl rfl
 have s59 := Stage.e 13 0 hg rfl rfl rfl rfl
 have hf1 : Fact.Fr 84 fr1 := ⟨hh.size.trans hf.size, hh.defers.trans hf.defers⟩
 clear hg hh hf
 have hf := hf1; clear hf1
 clear hok
 have ha3 := ha.drew; have ho3 := ho.drew
 clear ha ho
 generalize wmc.drew = wd at *
 refine Fact.nx (hK16 _ _ ?_)
 refine Fact.cond_f s59 ?_
 refine wp_exit ?_
 refine Fact.then_exit ?_
 refine Fact.then_exit ?_
 refine Fact.block_exit ?_
 refine Fact.then_normal ?_
 exact ⟨_, _, hbd, hpt, .inl (by omega), hf, s0, s1, s9, s10, ha3, ho3⟩)))
 · (
 clear hf s0 s1 s9 s10
 clear hpt ha ho hst hbd
 rintro fr wmd ⟨i, j, hbd, hpt, hst, hf, s0, s1, s9, s10, ha, ho⟩
 obtain ⟨hai, hij1, hjb⟩ := hpt.1
 by_cases hji : j < i
 · (
 have hjiI : (j : Int) < (i : Int) := by omega
 refine wp_seq_k (fun K17 hK17 => ?_)
 refine wp_seq_k (fun K18 hK18 => ?_)
 refine Fact.region ?_
 have b62 := hf.l 62 rfl
 have b63 := hf.l 63 rfl
 refine Fact.p rfl fun K hK => ?_
 go_simp
 refine hK.out _ _ ?_; clear hK K
 refine Fact.p rfl fun K hK => ?_
 go_simp
 refine hK.out _ _ ?_; clear hK K
 refine Fact.p rfl fun K hK => ?_
 go_simp
 refine hK.out _ _ ?_; clear hK K
 refine Fact.nil ?_
 refine Fact.q hf (by simp only [Fact.G]) rfl fun fr1 hf1 hT => ?_
 have hKp : _ ∧ _ ∧ _ ∧ _ ∧ _ ∧ _ ∧ _ := ⟨hT 0, hT 1, hT 9, hT 10, hT 62, hT 63, hT 64⟩
 simp only [Fact.G, Nat.reduceEqDiff, Nat.reduceLT, hf.size, reduceIte, s0, s1, s9, s10] at hKp
 clear hT hf s0 s1 s9 s10 b62 b63
 obtain ⟨s0, s1, s9, s10, s62, s63, s64⟩ := hKp
 have hf := hf1; clear hf1
 refine Fact.nx (hK18 _ _ ?_)
 refine Fact.cond_t s64 ?_
 refine wp_exit ?_
 refine Fact.then_exit ?_
 refine Fact.block_other (by decide) ?_
 refine Fact.then_exit ?_
 refine Fact.block_exit ?_
 refine Fact.nx (hK4 _ _ ?_)
 refine wp_seq_k (fun K19 hK19 => ?_)
 refine Fact.region ?_
 have b83 := hf.l 83 rfl
 refine Fact.p rfl fun K hK => ?_
 go_simp
 refine hK.out _ _ ?_; clear hK K
 refine Fact.p rfl fun K hK => ?_
 go_simp
 refine hK.out _ _ ?_; clear hK K
 refine Fact.nil ?_
 refine Fact.q hf (by simp only [Fact.G]) rfl fun fr1 hf1 hT => ?_
 have hKp := hT 8
 simp only [Fact.G, Nat.reduceEqDiff, Nat.reduceLT, hf.size, reduceIte] at hKp
 clear hT hf s0 s1 s9 s10 s62 s63 s64 b83
 have s8 := hKp; clear hKp
 have hf := hf1; clear hf1
 refine Fact.nx (hK19 _ _ ?_)
 refine wp_ret ?_
 exact Fact.ret1 rfl hf s8 ⟨i, ys, rfl, hai, by omega, hsg.seg, hsg.here.trans HPV.out.symm, fun k h1 h2 => by (rcases Nat.eq_or_lt_of_le h1 with rfl | h3; (exact Int.le_refl _); (have := hpt.2.1 k h3 h2; omega)), fun k h1 h2 => by (have := hpt.2.2 k (by omega) h2; omega), ha, ho⟩)
 · (
 have hjiI : ¬ (j : Int) < (i : Int) := by omega
 refine wp_seq_k (fun K20 hK20 => ?_)
 refine wp_seq_k (fun K21 hK21 => ?_)
 refine Fact.region ?_
 have b62 := hf.l 62 rfl
 have b63 := hf.l 63 rfl
 refine Fact.p rfl fun K hK => ?_
 go_simp
 refine hK.out _ _ ?_; clear hK K
 refine Fact.p rfl fun K hK => ?_
 go_simp
 refine hK.out _ _ ?_; clear hK K
 refine Fact.p rfl fun K hK => ?_
 go_simp
 refine hK.out _ _ ?_; clear hK K
 refine Fact.nil ?_
 refine Fact.q hf (by simp only [Fact.G]) rfl fun fr1 hf1 hT => ?_
 have hKp : _ ∧ _ ∧ _ ∧ _ ∧ _ ∧ _ ∧ _ := ⟨hT 0, hT 1, hT 9, hT 10, hT 62, hT 63, hT 64⟩
 simp only [Fact.G, Nat.reduceEqDiff, Nat.reduceLT, hf.size, reduceIte, s0, s1, s9, s10] at hKp
 clear hT hf s0 s1 s9 s10 b62 b63
 obtain ⟨s0, s1, s9, s10, s62, s63, s64⟩ := hKp
 have hf := hf1; clear hf1
 refine Fact.nx (hK21 _ _ ?_)
 refine Fact.cond_f s64 ?_
 have hst2 := hst.resolve_left hji
 obtain ⟨q, rfl⟩ : ∃ q, j = q + 1 := ⟨j - 1, by omega⟩
 have hps := hpt.swap (by have := HYL.out; omega) (by omega) (fun h => h hst2.1) hst2.2
 have e2 : IntKind.i64.wrap ((q : Int) + 1 - 1) = (q : Int) := by rw [Fact.wrap_i64 (by omega) (by omega)]; omega
 have e3 : IntKind.i64.wrap (q : Int) = (q : Int) := Fact.wrap_i64 (by omega) (by omega)
 have b4 : (q : Int) + 1 < (n : Int) := by omega
 have b5 : (0 : Int) ≤ (q : Int) + 1 := by omega
 have b6 : i < n := by omega
 have e1 : IntKind.i64.wrap ((i : Int) + 1) = (i : Int) + 1 := Fact.wrap_i64 (by omega) (by omega)
 obtain ⟨x, hx⟩ : ∃ v, ys[i]? = some v := ⟨ys[i]'(by have := HYL.out; omega), List.getElem?_eq_getElem _⟩
 have Hxd := Lib.hid (show ys.getD (i) 0 = x by simp [List.getD, hx])
 have Hx := Lib.hid hx
 clear hx
 obtain ⟨y, hy⟩ : ∃ v, ys[q + 1]? = some v := ⟨ys[q + 1]'(by have := HYL.out; omega), List.getElem?_eq_getElem _⟩
 have Hyd := Lib.hid (show ys.getD (q + 1) 0 = y by simp [List.getD, hy])
 have Hy := Lib.hid hy
 clear hy
 have cx := ha.cell Hx.out; have cy := ha.cell Hy.out; have hfr := fun k => ha.frozen k
 have A1 := Lib.hid (ha.drew.set_ (i) y)
 have A0 := Lib.hid (ha.set_ (i) y)
 have C1 := A0.out.cell (i := q + 1) (x := y) (set_get Hy.out)
 have F1 := A0.out.frozen (q + 1)
 have A2 := Lib.hid (A1.out.set_ (q + 1) x)
 have O2 := Lib.hid ((ho.drew.set_ (p := ⟨g, i, none⟩) (.inl rfl) (.int .u8 y)).set_ (p := ⟨g, q + 1, none⟩) (.inl rfl) (.int .u8 x))
 clear ho ha
 refine wp_skip ?_
 refine Fact.nx (hK20 _ _ ?_)
 refine wp_seq_k (fun K22 hK22 => ?_)
 refine Stage.begin_ (n := 84) [13, 15] (fun k w1 => w1 = [wmd.drew, (wmd.drew.setCell ⟨g, i, none⟩ (.int .u8 y)), ((wmd.drew.setCell ⟨g, i, none⟩ (.int .u8 y)).setCell ⟨g, q + 1, none⟩ (.int .u8 x))].getD k (wmd.drew)) (Stab.OkOps.of (by kernel_rfl)) (fun hok => ?_)
 refine Stage.mvO (k := 0) s0 hf.size hok.out rfl rfl rfl (.inl rfl) (by kernel_rfl) (by kernel_rfl) ?_
 refine Stage.mvO (k := 1) s9 hf.size hok.out rfl rfl rfl (.inl rfl) (by kernel_rfl) (by kernel_rfl) ?_
 refine Stage.mvO (k := 2) s0 hf.size hok.out rfl rfl rfl (.inl rfl) (by kernel_rfl) (by kernel_rfl) ?_
 refine Stage.mvO (k := 3) s10 hf.size hok.out rfl rfl rfl (.inl rfl) (by kernel_rfl) (by kernel_rfl) ?_
 refine Stage.mvO (k := 4) s0 hf.size hok.out rfl rfl rfl (.inl rfl) (by kernel_rfl) (by kernel_rfl) ?_
 refine Stage.mvO (k := 5) s10 hf.size hok.out rfl rfl rfl (.inl rfl) (by kernel_rfl) (by kernel_rfl) ?_
 apply Stage.t 6 _ hf.size hok.out rfl (by kernel_rfl)
 · (
 intro fr1 w1 hh hd hk K hK
 refine Stab.op_plain (o := _) rfl rfl ?_
 have s69 := Stage.u 4 1 hd hk rfl [] (by kernel_rfl) rfl rfl rfl
 have s70 := Stage.u 5 0 hd hk rfl [] (by kernel_rfl) rfl rfl rfl
 clear hd
 go_simp
 exact hK.out _ rfl _ rfl)
 apply Stage.todo_look (k := 7) (n := 84) 0 [] [] _ hf.size hok.out rfl (by kernel_rfl)
 · (
 intro fr1 w1 hh hw hd hk K hK
 replace hw : w1 = wmd.drew := hw
 subst hw
 refine Stab.op_plain (o := _) rfl rfl ?_
 have s71 := Stage.u 6 0 hd hk rfl [] (by kernel_rfl) rfl rfl rfl
 clear hd
 go_simp
 exact hK.out _ rfl _ _ rfl rfl)
 refine Stage.mvO (k := 8) s0 hf.size hok.out rfl rfl rfl (.inl rfl) (by kernel_rfl) (by kernel_rfl) ?_
 refine Stage.mvO (k := 9) s9 hf.size hok.out rfl rfl rfl (.inl rfl) (by kernel_rfl) (by kernel_rfl) ?_
 apply Stage.t 10 _ hf.size hok.out rfl (by kernel_rfl)
 · (
 intro fr1 w1 hh hd hk K hK
 refine Stab.op_plain (o := _) rfl rfl ?_
 have s73 := Stage.u 8 1 hd hk rfl [] (by kernel_rfl) rfl rfl rfl
 have s74 := Stage.u 9 0 hd hk rfl [] (by kernel_rfl) rfl rfl rfl
 clear hd
 go_simp
 exact hK.out _ rfl _ rfl)
 apply Stage.todo_look (k := 11) (n := 84) 0 [] [] _ hf.size hok.out rfl (by kernel_rfl)
 · (
 intro fr1 w1 hh hw hd hk K hK
 replace hw : w1 = wmd.drew := hw
 subst hw
 refine Stab.op_plain (o := _) rfl rfl ?_
 have s75 := Stage.u 10 0 hd hk rfl [] (by kernel_rfl) rfl rfl rfl
 clear hd
 go_simp
 exact hK.out _ rfl _ _ rfl rfl)
 apply Stage.t 12 _ hf.size hok.out rfl (by kernel_rfl)
 · (
 intro fr1 w1 hh hd hk K hK
 refine Stab.op_plain (o := _) rfl rfl ?_
 have s65 := Stage.u 0 11 hd hk rfl [] (by kernel_rfl) rfl rfl rfl
 have s66 := Stage.u 1 10 hd hk rfl [] (by kernel_rfl) rfl rfl rfl
 clear hd
 go_simp
 exact hK.out _ rfl _ rfl)
 refine Stage.todo_lead (k := 13) (n := 84) 0 [] (fun _ => True) hf.size hok.out rfl (by kernel_rfl) ?_ ?_
 · (
 intro fr1 w1 hh hw hd hk K hK
 replace hw : w1 = wmd.drew := hw
 subst hw
 refine Stab.op_plain (o := _) rfl rfl ?_
 have s77 := Stage.u 12 0 hd hk rfl [] (by kernel_rfl) rfl rfl rfl
 have s72 := Stage.u 7 5 hd hk rfl [] (by kernel_rfl) rfl rfl rfl
 clear hd
 go_simp
 exact hK.out _ rfl undef _ rfl trivial)
 apply Stage.t 14 _ hf.size hok.out rfl (by kernel_rfl)
 · (
 intro fr1 w1 hh hd hk K hK
 refine Stab.op_plain (o := _) rfl rfl ?_
 have s67 := Stage.u 2 11 hd hk rfl [] (by kernel_rfl) rfl rfl rfl
 have s68 := Stage.u 3 10 hd hk rfl [] (by kernel_rfl) rfl rfl rfl
 clear hd
 go_simp
 exact hK.out _ rfl _ rfl)
 refine Stage.todo_lead (k := 15) (n := 84) 1 [] (fun _ => True) hf.size hok.out rfl (by kernel_rfl) ?_ ?_
 · (
 intro fr1 w1 hh hw hd hk K hK
 replace hw : w1 = (wmd.drew.setCell ⟨g, i, none⟩ (.int .u8 y)) := hw
 subst hw
 refine Stab.op_plain (o := _) rfl rfl ?_
 have s78 := Stage.u 14 0 hd hk rfl [] (by kernel_rfl) rfl rfl rfl
 have s76 := Stage.u 11 3 hd hk rfl [] (by kernel_rfl) rfl rfl rfl
 clear hd
 go_simp
 exact hK.out _ rfl undef _ rfl trivial)
 refine Stage.todo_facts (n := 84) (by kernel_rfl) hf.size hok.out rfl (by decide) (by decide) rfl (fun fr1 w1 hh hg hw => ?_)
 replace hw : w1 = ((wmd.drew.setCell ⟨g, i, none⟩ (.int .u8 y)).setCell ⟨g, q + 1, none⟩ (.int .u8 x)) := hw
 subst hw
 replace s0 := Stage.o hh (by kernel_rfl) s0
 replace s1 := Stage.o hh (by kernel_rfl) s1
 replace s9 := Stage.o hh (by kernel_rfl) s9
 replace s10 := Stage.o hh (by kernel_rfl) s10
 replace s62 := Stage.o hh (by kernel_rfl) s62
 replace s63 := Stage.o hh (by kernel_rfl) s63
 replace s64 := Stage.o hh (by kernel_rfl) s64
 have s65 := Stage.e 0 15 hg rfl rfl rfl rfl
 have s66 := Stage.e 1 14 hg rfl rfl rfl rfl
 have s67 := Stage.e 2 13 hg rfl rfl rfl rfl
 have s68 := Stage.e 3 12 hg rfl rfl rfl rfl
 have s69 := Stage.e 4 11 hg rfl rfl rfl rfl
 have s70 := Stage.e 5 10 hg rfl rfl rfl rfl
 have s71 := Stage.e 6 9 hg rfl rfl rfl rfl
 have s72 := Stage.e 7 8 hg rfl rfl rfl rfl
 have s73 := Stage.e 8 7 hg rfl rfl rfl rfl
 have s74 := Stage.e 9 6 hg rfl rfl rfl rfl
 have s75 := Stage.e 10 5 hg rfl rfl rfl rfl
 have s76 := Stage.e 11 4 hg rfl rfl rfl rfl
 have s77 := Stage.e 12 3 hg rfl rfl rfl rfl
 have s78 := Stage.e 14 1 hg rfl rfl rfl rfl
 have hf1 : Fact.Fr 84 fr1 := ⟨hh.size.trans hf.size, hh.defers.trans hf.defers⟩
 clear hg hh hf
 have hf := hf1; clear hf1
 clear hok
 have ha3 := A2.out; rw [show (ys.set i y).set (q + 1) x = swap ys i (q + 1) by unfold swap; rw [Hxd.out, Hyd.out]] at ha3
 have ho3 := O2.out
 clear A0 A1 A2 O2 C1 F1 cx cy hfr Hx Hxd Hy Hyd
 generalize ((wmd.drew.setCell ⟨g, i, none⟩ (.int .u8 y)).setCell ⟨g, q + 1, none⟩ (.int .u8 x)) = wu at *
 refine Fact.nx (hK22 _ _ ?_)
 refine wp_seq_k (fun K23 hK23 => ?_)
 refine Fact.region ?_
 have b79 := hf.l 79 rfl
 have b80 := hf.l 80 rfl
 refine Fact.p rfl fun K hK => ?_
 go_simp
 refine hK.out _ _ ?_; clear hK K
 refine Fact.p rfl fun K hK => ?_
 go_simp
 try simp (disch := omega) only [Fact.wrap_i64, Fact.wrap_u8, Fact.wrap_u32, Fact.wrap_u64]
 refine hK.out _ _ ?_; clear hK K
 refine Fact.p rfl fun K hK => ?_
 go_simp
 refine hK.out _ _ ?_; clear hK K
 refine Fact.nil ?_
 refine Fact.q hf (by simp only [Fact.G]) rfl fun fr1 hf1 hT => ?_
 have hKp : _ ∧ _ ∧ _ ∧ _ ∧ _ ∧ _ ∧ _ ∧ _ ∧ _ ∧ _ ∧ _ ∧ _ ∧ _ ∧ _ ∧ _ ∧ _ ∧ _ ∧ _ ∧ _ ∧ _ ∧ _ ∧ _ ∧ _ := ⟨hT 0, hT 1, hT 9, hT 10, hT 62, hT 63, hT 64, hT 65, hT 66, hT 67, hT 68, hT 69, hT 70, hT 71, hT 72, hT 73, hT 74, hT 75, hT 76, hT 77, hT 78, hT 79, hT 80⟩
 simp only [Fact.G, Nat.reduceEqDiff, Nat.reduceLT, hf.size, reduceIte, s0, s1, s10, s62, s63, s64, s65, s66, s67, s68, s69, s70, s71, s72, s73, s74, s75, s76, s77, s78] at hKp
 clear hT hf s0 s1 s9 s10 s62 s63 s64 s65 s66 s67 s68 s69 s70 s71 s72 s73 s74 s75 s76 s77 s78 b79 b80
 obtain ⟨s0, s1, s9, s10, s62, s63, s64, s65, s66, s67, s68, s69, s70, s71, s72, s73, s74, s75, s76, s77, s78, s79, s80⟩ := hKp
 have hf := hf1; clear hf1
 refine Fact.nx (hK23 _ _ ?_)
 refine Fact.region ?_
 have b81 := hf.l 81 rfl
 have b82 := hf.l 82 rfl
 refine Fact.p rfl fun K hK => ?_
 go_simp
 refine hK.out _ _ ?_; clear hK K
 refine Fact.p rfl fun K hK => ?_
 go_simp
 try simp (disch := omega) only [Fact.wrap_i64, Fact.wrap_u8, Fact.wrap_u32, Fact.wrap_u64]
 refine hK.out _ _ ?_; clear hK K
 refine Fact.p rfl fun K hK => ?_
 go_simp
 refine hK.out _ _ ?_; clear hK K
 refine Fact.nil ?_
 refine Fact.q hf (by simp only [Fact.G]) rfl fun fr1 hf1 hT => ?_
 have hKp : _ ∧ _ ∧ _ ∧ _ ∧ _ ∧ _ ∧ _ ∧ _ ∧ _ ∧ _ ∧ _ ∧ _ ∧ _ ∧ _ ∧ _ ∧ _ ∧ _ ∧ _ ∧ _ ∧ _ ∧ _ ∧ _ ∧ _ ∧ _ ∧ _ := ⟨hT 0, hT 1, hT 9, hT 10, hT 62, hT 63, hT 64, hT 65, hT 66, hT 67, hT 68, hT 69, hT 70, hT 71, hT 72, hT 73, hT 74, hT 75, hT 76, hT 77, hT 78, hT 79, hT 80, hT 81, hT 82⟩
 simp only [Fact.G, Nat.reduceEqDiff, Nat.reduceLT, hf.size, reduceIte, s0, s1, s9, s62, s63, s64, s65, s66, s67, s68, s69, s70, s71, s72, s73, s74, s75, s76, s77, s78, s79, s80] at hKp
 clear hT hf s0 s1 s9 s10 s62 s63 s64 s65 s66 s67 s68 s69 s70 s71 s72 s73 s74 s75 s76 s77 s78 s79 s80 b81 b82
 obtain ⟨s0, s1, s9, s10, s62, s63, s64, s65, s66, s67, s68, s69, s70, s71, s72, s73, s74, s75, s76, s77, s78, s79, s80, s81, s82⟩ := hKp
 have hf := hf1; clear hf1
 refine Fact.block_normal ?_
 refine Fact.then_normal ?_
 exact ⟨q + 1 - (i + 1), by have := HK0.out; omega, i + 1, q, swap ys i (q + 1), rfl, hps.2, hsg.swap (by omega) (by omega) (by omega) (by omega), hf, s0, s1, by rw [s9]; go_num, s10, ha3, ho3⟩))))
end Sb
end Go.Proofs.Ytfgfichkcckhiaa
