/- slices.siftDownOrdered at bytes: a heap is mended. -/
import Derived.Test.YtfgfichkcckhiaaSCmp
import Derived.Test.YtfgfichkcckhiaaSHeap0
namespace Go.Proofs.Ytfgfichkcckhiaa
open Go.RowKit
set_option linter.unusedSimpArgs false
set_option linter.unusedVariables false
set_option linter.unnecessarySimpa false
namespace Sb
set_option maxHeartbeats 4000000 in
set_option maxRecDepth 100000 in
theorem sift_any (zs : List Int) (g n c lo hi first : Nat) (w : World) (hn : zs.length = n) (hnl : n ≤ 400000000) (hlo : lo ≤ n) (hb : first + hi ≤ n) (hhp : Heap (lo + 1) hi first zs) (h : Arr w g zs) : Calls Try.prog 92 #[.slice (some ⟨g, 0, none⟩) n c, .int .i64 lo, .int .i64 hi, .int .i64 first] w fun e w1 => e = .returned (.tuple #[]) ∧ ∃ ys, Segm (first + lo) (first + hi) zs ys ∧ Heap lo hi first ys ∧ Arr w1 g ys ∧ Only w w1 g := by
 refine calls_of_wp Try.func92 rfl ?_
 refine Fact.enter (n := 76) (by kernel_rfl) (fun fr hf hT => ?_)
 have s0 := hT 0 _ rfl
 have s1 := hT 1 _ rfl
 have s2 := hT 2 _ rfl
 have s3 := hT 3 _ rfl
 clear hT
 refine wp_seq_k (fun K1 hK1 => ?_)
 refine Fact.region ?_
 have b10 := hf.l 10 rfl
 refine Fact.p rfl fun K hK => ?_
 go_simp
 refine hK.out _ _ ?_; clear hK K
 refine Fact.p rfl fun K hK => ?_
 go_simp
 refine hK.out _ _ ?_; clear hK K
 refine Fact.nil ?_
 refine Fact.q hf (by simp only [Fact.G]) rfl fun fr1 hf1 hT => ?_
 have hKp : _ ∧ _ ∧ _ ∧ _ := ⟨hT 0, hT 2, hT 3, hT 8⟩
 simp only [Fact.G, Nat.reduceEqDiff, Nat.reduceLT, hf.size, reduceIte, s0, s2, s3] at hKp
 clear hT hf s0 s1 s2 s3 b10
 obtain ⟨s0, s2, s3, s8⟩ := hKp
 have hf := hf1; clear hf1
 refine Fact.nx (hK1 _ _ ?_)
 refine wp_block ?_
 refine wp_loop_ghost (fun gk fr wr => ∃ (r : Nat) (ys : List Int), gk = hi - r ∧ lo ≤ r ∧ r ≤ 1000000000 - 1 ∧ Fact.Fr 76 fr ∧ fr.tmps[0]? = some (.slice (some ⟨g, 0, none⟩) n c) ∧ fr.tmps[2]? = some (.int .i64 hi) ∧ fr.tmps[3]? = some (.int .i64 first) ∧ fr.tmps[8]? = some (.int .i64 r) ∧ Segm (first + lo) (first + hi) zs ys ∧ HeapBut lo hi first r ys ∧ Arr wr g ys ∧ Only w wr g) (hi - lo) ?_ ?_
 · (
 exact ⟨lo, zs, rfl, Nat.le_refl _, by omega, hf, s0, s2, s3, s8, Segm.refl _ _ _, hhp.but, h, Only.refl _ _⟩)
 · (
 clear hf s0 s2 s3 s8
 rintro gk fr wr ⟨r, ys, hk, hlr, hr0, hf, s0, s2, s3, s8, hsg, hhb, ha, ho⟩
 have HK := Lib.hid hk; clear hk
 have HYL := Lib.hid hsg.len
 rcases Nat.lt_or_ge r 1000000000 with hr9 | hr9
 · (
 have e1 : IntKind.i64.wrap (2 * (r : Int)) = 2 * (r : Int) := Fact.wrap_i64 (by omega) (by omega)
 have e2 : IntKind.i64.wrap (2 * (r : Int) + 1) = 2 * (r : Int) + 1 := Fact.wrap_i64 (by omega) (by omega)
 by_cases hch : hi ≤ 2 * r + 1
 · (
 have hci : (hi : Int) ≤ 2 * (r : Int) + 1 := by omega
 refine wp_block ?_
 refine wp_seq_k (fun K2 hK2 => ?_)
 refine Fact.region ?_
 have b11 := hf.l 11 rfl
 have b12 := hf.l 12 rfl
 have b13 := hf.l 13 rfl
 refine Fact.p rfl fun K hK => ?_
 go_simp
 refine hK.out _ _ ?_; clear hK K
 refine Fact.p rfl fun K hK => ?_
 go_simp
 try simp (disch := omega) only [Fact.wrap_i64, Fact.wrap_u8, Fact.wrap_u32, Fact.wrap_u64]
 refine hK.out _ _ ?_; clear hK K
 refine Fact.p rfl fun K hK => ?_
 go_simp
 try simp (disch := omega) only [Fact.wrap_i64, Fact.wrap_u8, Fact.wrap_u32, Fact.wrap_u64]
 refine hK.out _ _ ?_; clear hK K
 refine Fact.p rfl fun K hK => ?_
 go_simp
 refine hK.out _ _ ?_; clear hK K
 refine Fact.nil ?_
 refine Fact.q hf (by simp only [Fact.G]) rfl fun fr1 hf1 hT => ?_
 have hKp : _ ∧ _ ∧ _ ∧ _ ∧ _ ∧ _ ∧ _ ∧ _ := ⟨hT 0, hT 2, hT 3, hT 8, hT 9, hT 11, hT 12, hT 13⟩
 simp only [Fact.G, Nat.reduceEqDiff, Nat.reduceLT, hf.size, reduceIte, s0, s2, s3, s8] at hKp
 clear hT hf s0 s2 s3 s8 b11 b12 b13
 obtain ⟨s0, s2, s3, s8, s9, s11, s12, s13⟩ := hKp
 have hf := hf1; clear hf1
 refine Fact.nx (hK2 _ _ ?_)
 refine wp_seq_k (fun K3 hK3 => ?_)
 refine wp_seq_k (fun K4 hK4 => ?_)
 refine Fact.region ?_
 have b14 := hf.l 14 rfl
 have b15 := hf.l 15 rfl
 refine Fact.p rfl fun K hK => ?_
 go_simp
 refine hK.out _ _ ?_; clear hK K
 refine Fact.p rfl fun K hK => ?_
 go_simp
 refine hK.out _ _ ?_; clear hK K
 refine Fact.p rfl fun K hK => ?_
 go_simp
 refine hK.out _ _ ?_; clear hK K
 refine Fact.nil ?_
 refine Fact.q hf (by simp only [Fact.G]) rfl fun fr1 hf1 hT => ?_
 have hKp : _ ∧ _ ∧ _ ∧ _ ∧ _ ∧ _ ∧ _ ∧ _ ∧ _ ∧ _ ∧ _ := ⟨hT 0, hT 2, hT 3, hT 8, hT 9, hT 11, hT 12, hT 13, hT 14, hT 15, hT 16⟩
 simp only [Fact.G, Nat.reduceEqDiff, Nat.reduceLT, hf.size, reduceIte, s0, s2, s3, s8, s9, s11, s12, s13] at hKp
 clear hT hf s0 s2 s3 s8 s9 s11 s12 s13 b14 b15
 obtain ⟨s0, s2, s3, s8, s9, s11, s12, s13, s14, s15, s16⟩ := hKp
 have hf := hf1; clear hf1
 refine Fact.nx (hK4 _ _ ?_)
 refine Fact.cond_t s16 ?_
 refine wp_exit ?_
 refine Fact.then_exit ?_
 refine Fact.block_other (by decide) ?_
 refine Fact.then_exit ?_
 refine Fact.block_exit ?_
 exact Fact.end0 rfl hf ⟨rfl, ys, hsg, hhb.leaf hch, ha, ho⟩)
 · (
 have hci : ¬ (hi : Int) ≤ 2 * (r : Int) + 1 := by omega
 refine wp_block ?_
 refine wp_seq_k (fun K5 hK5 => ?_)
 refine Fact.region ?_
 have b11 := hf.l 11 rfl
 have b12 := hf.l 12 rfl
 have b13 := hf.l 13 rfl
 refine Fact.p rfl fun K hK => ?_
 go_simp
 refine hK.out _ _ ?_; clear hK K
 refine Fact.p rfl fun K hK => ?_
 go_simp
 try simp (disch := omega) only [Fact.wrap_i64, Fact.wrap_u8, Fact.wrap_u32, Fact.wrap_u64]
 refine hK.out _ _ ?_; clear hK K
 refine Fact.p rfl fun K hK => ?_
 go_simp
 try simp (disch := omega) only [Fact.wrap_i64, Fact.wrap_u8, Fact.wrap_u32, Fact.wrap_u64]
 refine hK.out _ _ ?_; clear hK K
 refine Fact.p rfl fun K hK => ?_
 go_simp
 refine hK.out _ _ ?_; clear hK K
 refine Fact.nil ?_
 refine Fact.q hf (by simp only [Fact.G]) rfl fun fr1 hf1 hT => ?_
 have hKp : _ ∧ _ ∧ _ ∧ _ ∧ _ ∧ _ ∧ _ ∧ _ := ⟨hT 0, hT 2, hT 3, hT 8, hT 9, hT 11, hT 12, hT 13⟩
 simp only [Fact.G, Nat.reduceEqDiff, Nat.reduceLT, hf.size, reduceIte, s0, s2, s3, s8] at hKp
 clear hT hf s0 s2 s3 s8 b11 b12 b13
 obtain ⟨s0, s2, s3, s8, s9, s11, s12, s13⟩ := hKp
 have hf := hf1; clear hf1
 refine Fact.nx (hK5 _ _ ?_)
 refine wp_seq_k (fun K6 hK6 => ?_)
 refine wp_seq_k (fun K7 hK7 => ?_)
 refine Fact.region ?_
 have b14 := hf.l 14 rfl
 have b15 := hf.l 15 rfl
 refine Fact.p rfl fun K hK => ?_
 go_simp
 refine hK.out _ _ ?_; clear hK K
 refine Fact.p rfl fun K hK => ?_
 go_simp
 refine hK.out _ _ ?_; clear hK K
 refine Fact.p rfl fun K hK => ?_
 go_simp
 refine hK.out _ _ ?_; clear hK K
 refine Fact.nil ?_
 refine Fact.q hf (by simp only [Fact.G]) rfl fun fr1 hf1 hT => ?_
 have hKp : _ ∧ _ ∧ _ ∧ _ ∧ _ ∧ _ ∧ _ ∧ _ ∧ _ ∧ _ ∧ _ := ⟨hT 0, hT 2, hT 3, hT 8, hT 9, hT 11, hT 12, hT 13, hT 14, hT 15, hT 16⟩
 simp only [Fact.G, Nat.reduceEqDiff, Nat.reduceLT, hf.size, reduceIte, s0, s2, s3, s8, s9, s11, s12, s13] at hKp
 clear hT hf s0 s2 s3 s8 s9 s11 s12 s13 b14 b15
 obtain ⟨s0, s2, s3, s8, s9, s11, s12, s13, s14, s15, s16⟩ := hKp
 have hf := hf1; clear hf1
 refine Fact.nx (hK7 _ _ ?_)
 refine Fact.cond_f s16 ?_
 refine wp_skip ?_
 refine Fact.nx (hK6 _ _ ?_)
 refine Fact.seq_meet (fun fr wr => ∃ ch : Nat, Top hi first r ch ys ∧ Fact.Fr 76 fr ∧ fr.tmps[0]? = some (.slice (some ⟨g, 0, none⟩) n c) ∧ fr.tmps[2]? = some (.int .i64 hi) ∧ fr.tmps[3]? = some (.int .i64 first) ∧ fr.tmps[8]? = some (.int .i64 r) ∧ fr.tmps[9]? = some (.int .i64 ch) ∧ Arr wr g ys ∧ Only w wr g) ?_ ?_
 · (
 have e3 : IntKind.i64.wrap (2 * (r : Int) + 1 + 1) = 2 * (r : Int) + 1 + 1 := Fact.wrap_i64 (by omega) (by omega)
 obtain ⟨m1, hm1⟩ : ∃ m : Nat, m = first + (2 * r + 1) := ⟨_, rfl⟩
 obtain ⟨m2, hm2⟩ : ∃ m : Nat, m = m1 + 1 := ⟨_, rfl⟩
 have e4 : IntKind.i64.wrap ((first : Int) + (2 * (r : Int) + 1)) = (m1 : Int) := by rw [Fact.wrap_i64 (by omega) (by omega)]; omega
 have e5 : IntKind.i64.wrap ((m1 : Int) + 1) = (m2 : Int) := by rw [Fact.wrap_i64 (by omega) (by omega)]; omega
 by_cases h2 : 2 * r + 1 + 1 < hi
 · (
 have h2i : 2 * (r : Int) + 1 + 1 < (hi : Int) := by omega
 obtain ⟨x, hx⟩ : ∃ v, ys[m1]? = some v := ⟨ys[m1]'(by have := HYL.out; omega), List.getElem?_eq_getElem _⟩
 have Hxd := Lib.hid (show ys.getD (m1) 0 = x by simp [List.getD, hx])
 have Hx := Lib.hid hx
 clear hx
 obtain ⟨y, hy⟩ : ∃ v, ys[m2]? = some v := ⟨ys[m2]'(by have := HYL.out; omega), List.getElem?_eq_getElem _⟩
 have Hyd := Lib.hid (show ys.getD (m2) 0 = y by simp [List.getD, hy])
 have Hy := Lib.hid hy
 clear hy
 have cx := ha.cell Hx.out; have cy := ha.cell Hy.out
 have b1 : m1 < n := by omega
 have b2 : m2 < n := by omega
 have HM1 := Lib.hid hm1; have HM2 := Lib.hid hm2; clear hm1 hm2
 by_cases hxy : x < y
 · (
 refine wp_seq_k (fun K8 hK8 => ?_)
 refine Stage.begin_ (n := 76) [] (fun k w1 => w1 = [wr.drew].getD k (wr.drew)) (Stab.OkOps.of (by kernel_rfl)) (fun hok => ?_)
 refine Stage.mvO (k := 0) s9 hf.size hok.out rfl rfl rfl (.inl rfl) (by kernel_rfl) (by kernel_rfl) ?_
 apply Stage.t 1 _ hf.size hok.out rfl (by kernel_rfl)
 · (
 intro fr1 w1 hh hd hk K hK
 refine Stab.op_plain (o := _) rfl rfl ?_
 have s17 := Stage.u 0 0 hd hk rfl [] (by kernel_rfl) rfl rfl rfl
 clear hd
 go_simp
 exact hK.out _ rfl _ rfl)
 refine Stage.mvO (k := 2) s2 hf.size hok.out rfl rfl rfl (.inl rfl) (by kernel_rfl) (by kernel_rfl) ?_
 apply Stage.t 3 _ hf.size hok.out rfl (by kernel_rfl)
 · (
 intro fr1 w1 hh hd hk K hK
 refine Stab.op_plain (o := _) rfl rfl ?_
 have s18 := Stage.u 1 1 hd hk rfl [] (by kernel_rfl) rfl rfl rfl
 have s19 := Stage.u 2 0 hd hk rfl [] (by kernel_rfl) rfl rfl rfl
 clear hd
 go_simp
 exact hK.out _ rfl _ rfl)
 refine Stage.mvN (k := 4) (j := 3) (m := 0) hf.size hok.out rfl rfl rfl (.inl rfl) rfl [] (by kernel_rfl) rfl rfl rfl (by kernel_rfl) ?_
 apply Stage.t 5 _ hf.size hok.out rfl (by kernel_rfl)
 · (
 intro fr1 w1 hh hd hk K hK
 have s21 := Stage.u 4 0 hd hk rfl [] (by kernel_rfl) rfl rfl rfl
 refine Stab.op_guard (o := _) rfl rfl rfl rfl s21 ?_
 have s0 := Stage.o hh (by kernel_rfl) s0
 clear hd
 go_simp
 exact hK.out _ rfl _ rfl)
 apply Stage.t 6 _ hf.size hok.out rfl (by kernel_rfl)
 · (
 intro fr1 w1 hh hd hk K hK
 have s21 := Stage.u 4 1 hd hk rfl [] (by kernel_rfl) rfl rfl rfl
 refine Stab.op_guard (o := _) rfl rfl rfl rfl s21 ?_
 have s3 := Stage.o hh (by kernel_rfl) s3
 clear hd
 go_simp
 exact hK.out _ rfl _ rfl)
 apply Stage.t 7 _ hf.size hok.out rfl (by kernel_rfl)
 · (
 intro fr1 w1 hh hd hk K hK
 have s21 := Stage.u 4 2 hd hk rfl [] (by kernel_rfl) rfl rfl rfl
 refine Stab.op_guard (o := _) rfl rfl rfl rfl s21 ?_
 have s9 := Stage.o hh (by kernel_rfl) s9
 clear hd
 go_simp
 exact hK.out _ rfl _ rfl)
 apply Stage.t 8 _ hf.size hok.out rfl (by kernel_rfl)
 · (
 intro fr1 w1 hh hd hk K hK
 have s21 := Stage.u 4 3 hd hk rfl [] (by kernel_rfl) rfl rfl rfl
 refine Stab.op_guard (o := _) rfl rfl rfl rfl s21 ?_
 have s23 := Stage.u 6 1 hd hk rfl [] (by kernel_rfl) rfl rfl rfl
 have s24 := Stage.u 7 0 hd hk rfl [] (by kernel_rfl) rfl rfl rfl
 clear hd
 go_simp
 exact hK.out _ rfl _ rfl)
 apply Stage.t 9 _ hf.size hok.out rfl (by kernel_rfl)
 · (
 intro fr1 w1 hh hd hk K hK
 have s21 := Stage.u 4 4 hd hk rfl [] (by kernel_rfl) rfl rfl rfl
 refine Stab.op_guard (o := _) rfl rfl rfl rfl s21 ?_
 have s22 := Stage.u 5 3 hd hk rfl [] (by kernel_rfl) rfl rfl rfl
 have s25 := Stage.u 8 0 hd hk rfl [] (by kernel_rfl) rfl rfl rfl
 clear hd
 go_simp
 exact hK.out _ rfl _ rfl)
 apply Stage.todo_look (k := 10) (n := 76) 0 [] [] _ hf.size hok.out rfl (by kernel_rfl)
 · (
 intro fr1 w1 hh hw hd hk K hK
 replace hw : w1 = wr.drew := hw
 subst hw
 have s21 := Stage.u 4 5 hd hk rfl [] (by kernel_rfl) rfl rfl rfl
 refine Stab.op_guard (o := _) rfl rfl rfl rfl s21 ?_
 have s26 := Stage.u 9 0 hd hk rfl [] (by kernel_rfl) rfl rfl rfl
 clear hd
 go_simp
 exact hK.out _ rfl _ _ rfl rfl)
 apply Stage.t 11 _ hf.size hok.out rfl (by kernel_rfl)
 · (
 intro fr1 w1 hh hd hk K hK
 have s21 := Stage.u 4 6 hd hk rfl [] (by kernel_rfl) rfl rfl rfl
 refine Stab.op_guard (o := _) rfl rfl rfl rfl s21 ?_
 have s0 := Stage.o hh (by kernel_rfl) s0
 clear hd
 go_simp
 exact hK.out _ rfl _ rfl)
 apply Stage.t 12 _ hf.size hok.out rfl (by kernel_rfl)
 · (
 intro fr1 w1 hh hd hk K hK
 have s21 := Stage.u 4 7 hd hk rfl [] (by kernel_rfl) rfl rfl rfl
 refine Stab.op_guard (o := _) rfl rfl rfl rfl s21 ?_
 have s3 := Stage.o hh (by kernel_rfl) s3
 clear hd
 go_simp
 exact hK.out _ rfl _ rfl)
 apply Stage.t 13 _ hf.size hok.out rfl (by kernel_rfl)
 · (
 intro fr1 w1 hh hd hk K hK
 have s21 := Stage.u 4 8 hd hk rfl [] (by kernel_rfl) rfl rfl rfl
 refine Stab.op_guard (o := _) rfl rfl rfl rfl s21 ?_
 have s9 := Stage.o hh (by kernel_rfl) s9
 clear hd
 go_simp
 exact hK.out _ rfl _ rfl)
 apply Stage.t 14 _ hf.size hok.out rfl (by kernel_rfl)
 · (
 intro fr1 w1 hh hd hk K hK
 have s21 := Stage.u 4 9 hd hk rfl [] (by kernel_rfl) rfl rfl rfl
 refine Stab.op_guard (o := _) rfl rfl rfl rfl s21 ?_
 have s29 := Stage.u 12 1 hd hk rfl [] (by kernel_rfl) rfl rfl rfl
 have s30 := Stage.u 13 0 hd hk rfl [] (by kernel_rfl) rfl rfl rfl
 clear hd
 go_simp
 exact hK.out _ rfl _ rfl)
 apply Stage.t 15 _ hf.size hok.out rfl (by kernel_rfl)
 · (
 intro fr1 w1 hh hd hk K hK
 have s21 := Stage.u 4 10 hd hk rfl [] (by kernel_rfl) rfl rfl rfl
 refine Stab.op_guard (o := _) rfl rfl rfl rfl s21 ?_
 have s31 := Stage.u 14 0 hd hk rfl [] (by kernel_rfl) rfl rfl rfl
 clear hd
 go_simp
 exact hK.out _ rfl _ rfl)
 apply Stage.t 16 _ hf.size hok.out rfl (by kernel_rfl)
 · (
 intro fr1 w1 hh hd hk K hK
 have s21 := Stage.u 4 11 hd hk rfl [] (by kernel_rfl) rfl rfl rfl
 refine Stab.op_guard (o := _) rfl rfl rfl rfl s21 ?_
 have s28 := Stage.u 11 4 hd hk rfl [] (by kernel_rfl) rfl rfl rfl
 have s32 := Stage.u 15 0 hd hk rfl [] (by kernel_rfl) rfl rfl rfl
 clear hd
 go_simp
 exact hK.out _ rfl _ rfl)
 apply Stage.todo_look (k := 17) (n := 76) 0 [] [] _ hf.size hok.out rfl (by kernel_rfl)
 · (
 intro fr1 w1 hh hw hd hk K hK
 replace hw : w1 = wr.drew := hw
 subst hw
 have s21 := Stage.u 4 12 hd hk rfl [] (by kernel_rfl) rfl rfl rfl
 refine Stab.op_guard (o := _) rfl rfl rfl rfl s21 ?_
 have s33 := Stage.u 16 0 hd hk rfl [] (by kernel_rfl) rfl rfl rfl
 clear hd
 go_simp
 exact hK.out _ rfl _ _ rfl rfl)
 apply Stage.todo_look (k := 18) (n := 76) 0 [] [] _ hf.size hok.out rfl (by kernel_rfl)
 · (
 intro fr1 w1 hh hw hd hk K hK
 replace hw : w1 = wr.drew := hw
 subst hw
 have s21 := Stage.u 4 13 hd hk rfl [] (by kernel_rfl) rfl rfl rfl
 refine Stab.op_guard (o := _) rfl rfl rfl rfl s21 ?_
 have s27 := Stage.u 10 7 hd hk rfl [] (by kernel_rfl) rfl rfl rfl
 have s34 := Stage.u 17 0 hd hk rfl [] (by kernel_rfl) rfl rfl rfl
 clear hd
 go_simp
 go_at_call 85; refine (less_any _ _ _).mono ?_; rintro e w2 ⟨rfl, rfl⟩
 exact hK.out _ rfl _ _ rfl rfl)
 apply Stage.t 19 _ hf.size hok.out rfl (by kernel_rfl)
 · (
 intro fr1 w1 hh hd hk K hK
 refine Stab.op_plain (o := _) rfl rfl ?_
 have s21 := Stage.u 4 14 hd hk rfl [] (by kernel_rfl) rfl rfl rfl
 have s35 := Stage.u 18 0 hd hk rfl [] (by kernel_rfl) rfl rfl rfl
 clear hd
 go_simp
 exact hK.out _ rfl _ rfl)
 refine Stage.todo_facts (n := 76) (by kernel_rfl) hf.size hok.out rfl (by decide) (by decide) rfl (fun fr1 w1 hh hg hw => ?_)
 replace hw : w1 = wr.drew := hw
 subst hw
 replace s0 := Stage.o hh (by kernel_rfl) s0
 replace s2 := Stage.o hh (by kernel_rfl) s2
 replace s3 := Stage.o hh (by kernel_rfl) s3
 replace s8 := Stage.o hh (by kernel_rfl) s8
 replace s9 := Stage.o hh (by kernel_rfl) s9
 replace s11 := Stage.o hh (by kernel_rfl) s11
 replace s12 := Stage.o hh (by kernel_rfl) s12
 replace s13 := Stage.o hh (by kernel_rfl) s13
 replace s14 := Stage.o hh (by kernel_rfl) s14
 replace s15 := Stage.o hh (by kernel_rfl) s15
 replace s16 := Stage.o hh (by kernel_rfl) s16
 have s17 := Stage.e 0 19 hg rfl rfl rfl rfl
 have s18 := Stage.e 1 18 hg rfl rfl rfl rfl
 have s19 := Stage.e 2 17 hg rfl rfl rfl rfl
 have s20 := Stage.e 3 16 hg rfl rfl rfl rfl
 have s21 := Stage.e 4 15 hg rfl rfl rfl rfl
 have s22 := Stage.e 5 14 hg rfl rfl rfl rfl
 have s23 := Stage.e 6 13 hg rfl rfl rfl rfl
 have s24 := Stage.e 7 12 hg rfl rfl rfl rfl
 have s25 := Stage.e 8 11 hg rfl rfl rfl rfl
 have s26 := Stage.e 9 10 hg rfl rfl rfl rfl
 have s27 := Stage.e 10 9 hg rfl rfl rfl rfl
 have s28 := Stage.e 11 8 hg rfl rfl rfl rfl
 have s29 := Stage.e 12 7 hg rfl rfl rfl rfl
 have s30 := Stage.e 13 6 hg rfl rfl rfl rfl
 have s31 := Stage.e 14 5 hg rfl rfl rfl rfl
 have s32 := Stage.e 15 4 hg rfl rfl rfl rfl
 have s33 := Stage.e 16 3 hg rfl rfl rfl rfl
 have s34 := Stage.e 17 2 hg rfl rfl rfl rfl
 have s35 := Stage.e 18 1 hg rfl rfl rfl rfl
 have s36 := Stage.e 19 0 hg rfl rfl rfl rfl
 have hf1 : Fact.Fr 76 fr1 := ⟨hh.size.trans hf.size, hh.defers.trans hf.defers⟩
 clear hg hh hf
 have hf := hf1; clear hf1
 clear hok
 have ha3 := ha.drew; have ho3 := ho.drew
 clear ha ho cx cy
 generalize wr.drew = wd at *
 refine Fact.nx (hK8 _ _ ?_)
 refine Fact.cond_t s36 ?_
 refine Fact.region ?_
 have b37 := hf.l 37 rfl
 have b38 := hf.l 38 rfl
 refine Fact.p rfl fun K hK => ?_
 go_simp
 refine hK.out _ _ ?_; clear hK K
 refine Fact.p rfl fun K hK => ?_
 go_simp
 try simp (disch := omega) only [Fact.wrap_i64, Fact.wrap_u8, Fact.wrap_u32, Fact.wrap_u64]
 refine hK.out _ _ ?_; clear hK K
 refine Fact.p rfl fun K hK => ?_
 go_simp
 refine hK.out _ _ ?_; clear hK K
 refine Fact.nil ?_
 refine Fact.q hf (by simp only [Fact.G]) rfl fun fr1 hf1 hT => ?_
 have hKp : _ ∧ _ ∧ _ ∧ _ ∧ _ ∧ _ ∧ _ ∧ _ ∧ _ ∧ _ ∧ _ ∧ _ ∧ _ ∧ _ ∧ _ ∧ _ ∧ _ ∧ _ ∧ _ ∧ _ ∧ _ ∧ _ ∧ _ ∧ _ ∧ _ ∧ _ ∧ _ ∧ _ ∧ _ ∧ _ ∧ _ ∧ _ ∧ _ := ⟨hT 0, hT 2, hT 3, hT 8, hT 9, hT 11, hT 12, hT 13, hT 14, hT 15, hT 16, hT 17, hT 18, hT 19, hT 20, hT 21, hT 22, hT 23, hT 24, hT 25, hT 26, hT 27, hT 28, hT 29, hT 30, hT 31, hT 32, hT 33, hT 34, hT 35, hT 36, hT 37, hT 38⟩
 simp only [Fact.G, Nat.reduceEqDiff, Nat.reduceLT, hf.size, reduceIte, s0, s2, s3, s8, s11, s12, s13, s14, s15, s16, s17, s18, s19, s20, s21, s22, s23, s24, s25, s26, s27, s28, s29, s30, s31, s32, s33, s34, s35, s36] at hKp
 clear hT hf s0 s2 s3 s8 s9 s11 s12 s13 s14 s15 s16 s17 s18 s19 s20 s21 s22 s23 s24 s25 s26 s27 s28 s29 s30 s31 s32 s33 s34 s35 s36 b37 b38
 obtain ⟨s0, s2, s3, s8, s9, s11, s12, s13, s14, s15, s16, s17, s18, s19, s20, s21, s22, s23, s24, s25, s26, s27, s28, s29, s30, s31, s32, s33, s34, s35, s36, s37, s38⟩ := hKp
 have hf := hf1; clear hf1
 refine Fact.then_normal ?_
 exact ⟨2 * r + 1 + 1, ⟨by omega, h2, fun k hk1 hk2 => by rcases hk1 with rfl | rfl; (rw [show first + (2 * r + 1) = m1 by have := HM1.out; omega, Hxd.out, show first + (2 * r + 1 + 1) = m2 by have := HM1.out; have := HM2.out; omega, Hyd.out]; omega); exact Int.le_refl _⟩, hf, s0, s2, s3, s8, by rw [s9]; go_num, ha3, ho3⟩)
 · (
 refine wp_seq_k (fun K9 hK9 => ?_)
 refine Stage.begin_ (n := 76) [] (fun k w1 => w1 = [wr.drew].getD k (wr.drew)) (Stab.OkOps.of (by kernel_rfl)) (fun hok => ?_)
 refine Stage.mvO (k := 0) s9 hf.size hok.out rfl rfl rfl (.inl rfl) (by kernel_rfl) (by kernel_rfl) ?_
 apply Stage.t 1 _ hf.size hok.out rfl (by kernel_rfl)
 · (
 intro fr1 w1 hh hd hk K hK
 refine Stab.op_plain (o := _) rfl rfl ?_
 have s17 := Stage.u 0 0 hd hk rfl [] (by kernel_rfl) rfl rfl rfl
 clear hd
 go_simp
 exact hK.out _ rfl _ rfl)
 refine Stage.mvO (k := 2) s2 hf.size hok.out rfl rfl rfl (.inl rfl) (by kernel_rfl) (by kernel_rfl) ?_
 apply Stage.t 3 _ hf.size hok.out rfl (by kernel_rfl)
 · (
 intro fr1 w1 hh hd hk K hK
 refine Stab.op_plain (o := _) rfl rfl ?_
 have s18 := Stage.u 1 1 hd hk rfl [] (by kernel_rfl) rfl rfl rfl
 have s19 := Stage.u 2 0 hd hk rfl [] (by kernel_rfl) rfl rfl rfl
 clear hd
 go_simp
 exact hK.out _ rfl _ rfl)
 refine Stage.mvN (k := 4) (j := 3) (m := 0) hf.size hok.out rfl rfl rfl (.inl rfl) rfl [] (by kernel_rfl) rfl rfl rfl (by kernel_rfl) ?_
 apply Stage.t 5 _ hf.size hok.out rfl (by kernel_rfl)
 · (
 intro fr1 w1 hh hd hk K hK
 have s21 := Stage.u 4 0 hd hk rfl [] (by kernel_rfl) rfl rfl rfl
 refine Stab.op_guard (o := _) rfl rfl rfl rfl s21 ?_
 have s0 := Stage.o hh (by kernel_rfl) s0
 clear hd
 go_simp
 exact hK.out _ rfl _ rfl)
 apply Stage.t 6 _ hf.size hok.out rfl (by kernel_rfl)
 · (
 intro fr1 w1 hh hd hk K hK
 have s21 := Stage.u 4 1 hd hk rfl [] (by kernel_rfl) rfl rfl rfl
 refine Stab.op_guard (o := _) rfl rfl rfl rfl s21 ?_
 have s3 := Stage.o hh (by kernel_rfl) s3
 clear hd
 go_simp
 exact hK.out _ rfl _ rfl)
 apply Stage.t 7 _ hf.size hok.out rfl (by kernel_rfl)
 · (
 intro fr1 w1 hh hd hk K hK
 have s21 := Stage.u 4 2 hd hk rfl [] (by kernel_rfl) rfl rfl rfl
 refine Stab.op_guard (o := _) rfl rfl rfl rfl s21 ?_
 have s9 := Stage.o hh (by kernel_rfl) s9
 clear hd
 go_simp
 exact hK.out _ rfl _ rfl)
 apply Stage.t 8 _ hf.size hok.out rfl (by kernel_rfl)
 · (
 intro fr1 w1 hh hd hk K hK
 have s21 := Stage.u 4 3 hd hk rfl [] (by kernel_rfl) rfl rfl rfl
 refine Stab.op_guard (o := _) rfl rfl rfl rfl s21 ?_
 have s23 := Stage.u 6 1 hd hk rfl [] (by kernel_rfl) rfl rfl rfl
 have s24 := Stage.u 7 0 hd hk rfl [] (by kernel_rfl) rfl rfl rfl
 clear hd
 go_simp
 exact hK.out _ rfl _ rfl)
 apply Stage.t 9 _ hf.size hok.out rfl (by kernel_rfl)
 · (
 intro fr1 w1 hh hd hk K hK
 have s21 := Stage.u 4 4 hd hk rfl [] (by kernel_rfl) rfl rfl rfl
 refine Stab.op_guard (o := _) rfl rfl rfl rfl s21 ?_
 have s22 := Stage.u 5 3 hd hk rfl [] (by kernel_rfl) rfl rfl rfl
 have s25 := Stage.u 8 0 hd hk rfl [] (by kernel_rfl) rfl rfl rfl
 clear hd
 go_simp
 exact hK.out _ rfl _ rfl)
 apply Stage.todo_look (k := 10) (n := 76) 0 [] [] _ hf.size hok.out rfl (by kernel_rfl)
 · (
 intro fr1 w1 hh hw hd hk K hK
 replace hw : w1 = wr.drew := hw
 subst hw
 have s21 := Stage.u 4 5 hd hk rfl [] (by kernel_rfl) rfl rfl rfl
 refine Stab.op_guard (o := _) rfl rfl rfl rfl s21 ?_
 have s26 := Stage.u 9 0 hd hk rfl [] (by kernel_rfl) rfl rfl rfl
 clear hd
 go_simp
 exact hK.out _ rfl _ _ rfl rfl)
 apply Stage.t 11 _ hf.size hok.out rfl (by kernel_rfl)
 · (
 intro fr1 w1 hh hd hk K hK
 have s21 := Stage.u 4 6 hd hk rfl [] (by kernel_rfl) rfl rfl rfl
 refine Stab.op_guard (o := _) rfl rfl rfl rfl s21 ?_
 have s0 := Stage.o hh (by kernel_rfl) s0
 clear hd
 go_simp
 exact hK.out _ rfl _ rfl)
 apply Stage.t 12 _ hf.size hok.out rfl (by kernel_rfl)
 · (
 intro fr1 w1 hh hd hk K hK
 have s21 := Stage.u 4 7 hd hk rfl [] (by kernel_rfl) rfl rfl rfl
 refine Stab.op_guard (o := _) rfl rfl rfl rfl s21 ?_
 have s3 := Stage.o hh (by kernel_rfl) s3
 clear hd
 go_simp
 exact hK.out _ rfl _ rfl)
 apply Stage.t 13 _ hf.size hok.out rfl (by kernel_rfl)
 · (
 intro fr1 w1 hh hd hk K hK
 have s21 := Stage.u 4 8 hd hk rfl [] (by kernel_rfl) rfl rfl rfl
 refine Stab.op_guard (o := _) rfl rfl rfl rfl s21 ?_
 have s9 := Stage.o hh (by kernel_rfl) s9
 clear hd
 go_simp
 exact hK.out _ rfl _ rfl)
 apply Stage.t 14 _ hf.size hok.out rfl (by kernel_rfl)
 · (
 intro fr1 w1 hh hd hk K hK
 have s21 := Stage.u 4 9 hd hk rfl [] (by kernel_rfl) rfl rfl rfl
 refine Stab.op_guard (o := _) rfl rfl rfl rfl s21 ?_
 have s29 := Stage.u 12 1 hd hk rfl [] (by kernel_rfl) rfl rfl rfl
 have s30 := Stage.u 13 0 hd hk rfl [] (by kernel_rfl) rfl rfl rfl
 clear hd
 go_simp
 exact hK.out _ rfl _ rfl)
 apply Stage.t 15 _ hf.size hok.out rfl (by kernel_rfl)
 · (
 intro fr1 w1 hh hd hk K hK
 have s21 := Stage.u 4 10 hd hk rfl [] (by kernel_rfl) rfl rfl rfl
 refine Stab.op_guard (o := _) rfl rfl rfl rfl s21 ?_
 have s31 := Stage.u 14 0 hd hk rfl [] (by kernel_rfl) rfl rfl rfl
 clear hd
 go_simp
 exact hK.out _ rfl _ rfl)
 apply Stage.t 16 _ hf.size hok.out rfl (by kernel_rfl)
 · (
 intro fr1 w1 hh hd hk K hK
 have s21 := Stage.u 4 11 hd hk rfl [] (by kernel_rfl) rfl rfl rfl
 refine Stab.op_guard (o := _) rfl rfl rfl rfl s21 ?_
 have s28 := Stage.u 11 4 hd hk rfl [] (by kernel_rfl) rfl rfl rfl
 have s32 := Stage.u 15 0 hd hk rfl [] (by kernel_rfl) rfl rfl rfl
 clear hd
 go_simp
 exact hK.out _ rfl _ rfl)
 apply Stage.todo_look (k := 17) (n := 76) 0 [] [] _ hf.size hok.out rfl (by kernel_rfl)
 · (
 intro fr1 w1 hh hw hd hk K hK
 replace hw : w1 = wr.drew := hw
 subst hw
 have s21 := Stage.u 4 12 hd hk rfl [] (by kernel_rfl) rfl rfl rfl
 refine Stab.op_guard (o := _) rfl rfl rfl rfl s21 ?_
 have s33 := Stage.u 16 0 hd hk rfl [] (by kernel_rfl) rfl rfl rfl
 clear hd
 go_simp
 exact hK.out _ rfl _ _ rfl rfl)
 apply Stage.todo_look (k := 18) (n := 76) 0 [] [] _ hf.size hok.out rfl (by kernel_rfl)
 · (
 intro fr1 w1 hh hw hd hk K hK
 replace hw : w1 = wr.drew := hw
 subst hw
 have s21 := Stage.u 4 13 hd hk rfl [] (by kernel_rfl) rfl rfl rfl
 refine Stab.op_guard (o := _) rfl rfl rfl rfl s21 ?_
 have s27 := Stage.u 10 7 hd hk rfl [] (by kernel_rfl) rfl rfl rfl
 have s34 := Stage.u 17 0 hd hk rfl [] (by kernel_rfl) rfl rfl rfl
 clear hd
 go_simp
 go_at_call 85; refine (less_any _ _ _).mono ?_; rintro e w2 ⟨rfl, rfl⟩
 exact hK.out _ rfl _ _ rfl rfl)
 apply Stage.t 19 _ hf.size hok.out rfl (by kernel_rfl)
 · (
 intro fr1 w1 hh hd hk K hK
 refine Stab.op_plain (o := _) rfl rfl ?_
 have s21 := Stage.u 4 14 hd hk rfl [] (by kernel_rfl) rfl rfl rfl
 have s35 := Stage.u 18 0 hd hk rfl [] (by kernel_rfl) rfl rfl rfl
 clear hd
 go_simp
 exact hK.out _ rfl _ rfl)
 refine Stage.todo_facts (n := 76) (by kernel_rfl) hf.size hok.out rfl (by decide) (by decide) rfl (fun fr1 w1 hh hg hw => ?_)
 replace hw : w1 = wr.drew := hw
 subst hw
 replace s0 := Stage.o hh (by kernel_rfl) s0
 replace s2 := Stage.o hh (by kernel_rfl) s2
 replace s3 := Stage.o hh (by kernel_rfl) s3
 replace s8 := Stage.o hh (by kernel_rfl) s8
 replace s9 := Stage.o hh (by kernel_rfl) s9
 replace s11 := Stage.o hh (by kernel_rfl) s11
 replace s12 := Stage.o hh (by kernel_rfl) s12
 replace s13 := Stage.o hh (by kernel_rfl) s13
 replace s14 := Stage.o hh (by kernel_rfl) s14
 replace s15 := Stage.o hh (by kernel_rfl) s15
 replace s16 := Stage.o hh (by kernel_rfl) s16
 have s17 := Stage.e 0 19 hg rfl rfl rfl rfl
 have s18 := Stage.e 1 18 hg rfl rfl rfl rfl
 have s19 := Stage.e 2 17 hg rfl rfl rfl rfl
 have s20 := Stage.e 3 16 hg rfl rfl rfl rfl
 have s21 := Stage.e 4 15 hg rfl rfl rfl rfl
 have s22 := Stage.e 5 14 hg rfl rfl rfl rfl
 have s23 := Stage.e 6 13 hg rfl rfl rfl rfl
 have s24 := Stage.e 7 12 hg rfl rfl rfl rfl
 have s25 := Stage.e 8 11 hg rfl rfl rfl rfl
 have s26 := Stage.e 9 10 hg rfl rfl rfl rfl
 have s27 := Stage.e 10 9 hg rfl rfl rfl rfl
 have s28 := Stage.e 11 8 hg rfl rfl rfl rfl
 have s29 := Stage.e 12 7 hg rfl rfl rfl rfl
 have s30 := Stage.e 13 6 hg rfl rfl rfl rfl
 have s31 := Stage.e 14 5 hg rfl rfl rfl rfl
 have s32 := Stage.e 15 4 hg rfl rfl rfl rfl
 have s33 := Stage.e 16 3 hg rfl rfl rfl rfl
 have s34 := Stage.e 17 2 hg rfl rfl rfl rfl
 have s35 := Stage.e 18 1 hg rfl rfl rfl rfl
 have s36 := Stage.e 19 0 hg rfl rfl rfl rfl
 have hf1 : Fact.Fr 76 fr1 := ⟨hh.size.trans hf.size, hh.defers.trans hf.defers⟩
 clear hg hh hf
 have hf := hf1; clear hf1
 clear hok
 have ha3 := ha.drew; have ho3 := ho.drew
 clear ha ho cx cy
 generalize wr.drew = wd at *
 refine Fact.nx (hK9 _ _ ?_)
 refine Fact.cond_f s36 ?_
 refine wp_skip ?_
 refine Fact.then_normal ?_
 exact ⟨2 * r + 1, ⟨by omega, by omega, fun k hk1 hk2 => by rcases hk1 with rfl | rfl; exact Int.le_refl _; (rw [show first + (2 * r + 1) = m1 by have := HM1.out; omega, Hxd.out, show first + (2 * r + 2) = m2 by have := HM1.out; have := HM2.out; omega, Hyd.out]; omega)⟩, hf, s0, s2, s3, s8, by rw [s9]; go_num, ha3, ho3⟩))
 · (
 have h2i : ¬ 2 * (r : Int) + 1 + 1 < (hi : Int) := by omega
 refine wp_seq_k (fun K10 hK10 => ?_)
 refine Stage.begin_ (n := 76) [] (fun k w1 => w1 = [wr.drew].getD k (wr.drew)) (Stab.OkOps.of (by kernel_rfl)) (fun hok => ?_)
 refine Stage.mvO (k := 0) s9 hf.size hok.out rfl rfl rfl (.inl rfl) (by kernel_rfl) (by kernel_rfl) ?_
 apply Stage.t 1 _ hf.size hok.out rfl (by kernel_rfl)
 · (
 intro fr1 w1 hh hd hk K hK
 refine Stab.op_plain (o := _) rfl rfl ?_
 have s17 := Stage.u 0 0 hd hk rfl [] (by kernel_rfl) rfl rfl rfl
 clear hd
 go_simp
 exact hK.out _ rfl _ rfl)
 refine Stage.mvO (k := 2) s2 hf.size hok.out rfl rfl rfl (.inl rfl) (by kernel_rfl) (by kernel_rfl) ?_
 apply Stage.t 3 _ hf.size hok.out rfl (by kernel_rfl)
 · (
 intro fr1 w1 hh hd hk K hK
 refine Stab.op_plain (o := _) rfl rfl ?_
 have s18 := Stage.u 1 1 hd hk rfl [] (by kernel_rfl) rfl rfl rfl
 have s19 := Stage.u 2 0 hd hk rfl [] (by kernel_rfl) rfl rfl rfl
 clear hd
 go_simp
 exact hK.out _ rfl _ rfl)
 refine Stage.mvN (k := 4) (j := 3) (m := 0) hf.size hok.out rfl rfl rfl (.inl rfl) rfl [] (by kernel_rfl) rfl rfl rfl (by kernel_rfl) ?_
 apply Stage.t 5 _ hf.size hok.out rfl (by kernel_rfl)
 · (
 intro fr1 w1 hh hd hk K hK
 have s21 := Stage.u 4 0 hd hk rfl [] (by kernel_rfl) rfl rfl rfl
 refine Stab.op_skip (o := _) rfl rfl rfl rfl s21 ?_
 exact hK.out _ rfl _ rfl)
 apply Stage.t 6 _ hf.size hok.out rfl (by kernel_rfl)
 · (
 intro fr1 w1 hh hd hk K hK
 have s21 := Stage.u 4 1 hd hk rfl [] (by kernel_rfl) rfl rfl rfl
 refine Stab.op_skip (o := _) rfl rfl rfl rfl s21 ?_
 exact hK.out _ rfl _ rfl)
 apply Stage.t 7 _ hf.size hok.out rfl (by kernel_rfl)
 · (
 intro fr1 w1 hh hd hk K hK
 have s21 := Stage.u 4 2 hd hk rfl [] (by kernel_rfl) rfl rfl rfl
 refine Stab.op_skip (o := _) rfl rfl rfl rfl s21 ?_
 exact hK.out _ rfl _ rfl)
 apply Stage.t 8 _ hf.size hok.out rfl (by kernel_rfl)
 · (
 intro fr1 w1 hh hd hk K hK
 have s21 := Stage.u 4 3 hd hk rfl [] (by kernel_rfl) rfl rfl rfl
 refine Stab.op_skip (o := _) rfl rfl rfl rfl s21 ?_
 exact hK.out _ rfl _ rfl)
 apply Stage.t 9 _ hf.size hok.out rfl (by kernel_rfl)
 · (
 intro fr1 w1 hh hd hk K hK
 have s21 := Stage.u 4 4 hd hk rfl [] (by kernel_rfl) rfl rfl rfl
 refine Stab.op_skip (o := _) rfl rfl rfl rfl s21 ?_
 exact hK.out _ rfl _ rfl)
 apply Stage.t 10 _ hf.size hok.out rfl (by kernel_rfl)
 · (
 intro fr1 w1 hh hd hk K hK
 have s21 := Stage.u 4 5 hd hk rfl [] (by kernel_rfl) rfl rfl rfl
 refine Stab.op_skip (o := _) rfl rfl rfl rfl s21 ?_
 exact hK.out _ rfl _ rfl)
 apply Stage.t 11 _ hf.size hok.out rfl (by kernel_rfl)
 · (
 intro fr1 w1 hh hd hk K hK
 have s21 := Stage.u 4 6 hd hk rfl [] (by kernel_rfl) rfl rfl rfl
 refine Stab.op_skip (o := _) rfl rfl rfl rfl s21 ?_
 exact hK.out _ rfl _ rfl)
 apply Stage.t 12 _ hf.size hok.out rfl (by kernel_rfl)
 · (
 intro fr1 w1 hh hd hk K hK
 have s21 := Stage.u 4 7 hd hk rfl [] (by kernel_rfl) rfl rfl rfl
 refine Stab.op_skip (o := _) rfl rfl rfl rfl s21 ?_
 exact hK.out _ rfl _ rfl)
 apply Stage.t 13 _ hf.size hok.out rfl (by kernel_rfl)
 · (
 intro fr1 w1 hh hd hk K hK
 have s21 := Stage.u 4 8 hd hk rfl [] (by kernel_rfl) rfl rfl rfl
 refine Stab.op_skip (o := _) rfl rfl rfl rfl s21 ?_
 exact hK.out _ rfl _ rfl)
 apply Stage.t 14 _ hf.size hok.out rfl (by kernel_rfl)
 · (
 intro fr1 w1 hh hd hk K hK
 have s21 := Stage.u 4 9 hd hk rfl [] (by kernel_rfl) rfl rfl rfl
 refine Stab.op_skip (o := _) rfl rfl rfl rfl s21 ?_
 exact hK.out _ rfl _ rfl)
 apply Stage.t 15 _ hf.size hok.out rfl (by kernel_rfl)
 · (
 intro fr1 w1 hh hd hk K hK
 have s21 := Stage.u 4 10 hd hk rfl [] (by kernel_rfl) rfl rfl rfl
 refine Stab.op_skip (o := _) rfl rfl rfl rfl s21 ?_
 exact hK.out _ rfl _ rfl)
 apply Stage.t 16 _ hf.size hok.out rfl (by kernel_rfl)
 · (
 intro fr1 w1 hh hd hk K hK
 have s21 := Stage.u 4 11 hd hk rfl [] (by kernel_rfl) rfl rfl rfl
 refine Stab.op_skip (o := _) rfl rfl rfl rfl s21 ?_
 exact hK.out _ rfl _ rfl)
 apply Stage.t 17 _ hf.size hok.out rfl (by kernel_rfl)
 · (
 intro fr1 w1 hh hd hk K hK
 have s21 := Stage.u 4 12 hd hk rfl [] (by kernel_rfl) rfl rfl rfl
 refine Stab.op_skip (o := _) rfl rfl rfl rfl s21 ?_
 exact hK.out _ rfl _ rfl)
 apply Stage.t 18 _ hf.size hok.out rfl (by kernel_rfl)
 · (
 intro fr1 w1 hh hd hk K hK
 have s21 := Stage.u 4 13 hd hk rfl [] (by kernel_rfl) rfl rfl rfl
 refine Stab.op_skip (o := _) rfl rfl rfl rfl s21 ?_
 exact hK.out _ rfl _ rfl)
 apply Stage.t 19 _ hf.size hok.out rfl (by kernel_rfl)
 · (
 intro fr1 w1 hh hd hk K hK
 refine Stab.op_plain (o := _) rfl rfl ?_
 have s21 := Stage.u 4 14 hd hk rfl [] (by kernel_rfl) rfl rfl rfl
 have s35 := Stage.u 18 0 hd hk rfl [] (by kernel_rfl) rfl rfl rfl
 clear hd
 go_simp
 exact hK.out _ rfl _ rfl)
 refine Stage.todo_facts (n := 76) (by kernel_rfl) hf.size hok.out rfl (by decide) (by decide) rfl (fun fr1 w1 hh hg hw => ?_)
 replace hw : w1 = wr.drew := hw
 subst hw
 replace s0 := Stage.o hh (by kernel_rfl) s0
 replace s2 := Stage.o hh (by kernel_rfl) s2
 replace s3 := Stage.o hh (by kernel_rfl) s3
 replace s8 := Stage.o hh (by kernel_rfl) s8
 replace s9 := Stage.o hh (by kernel_rfl) s9
 replace s11 := Stage.o hh (by kernel_rfl) s11
 replace s12 := Stage.o hh (by kernel_rfl) s12
 replace s13 := Stage.o hh (by kernel_rfl) s13
 replace s14 := Stage.o hh (by kernel_rfl) s14
 replace s15 := Stage.o hh (by kernel_rfl) s15
 replace s16 := Stage.o hh (by kernel_rfl) s16
 have s17 := Stage.e 0 19 hg rfl rfl rfl rfl
 have s18 := Stage.e 1 18 hg rfl rfl rfl rfl
 have s19 := Stage.e 2 17 hg rfl rfl rfl rfl
 have s20 := Stage.e 3 16 hg rfl rfl rfl rfl
 have s21 := Stage.e 4 15 hg rfl rfl rfl rfl
 have s22 := Stage.e 5 14 hg rfl rfl rfl rfl
 have s23 := Stage.e 6 13 hg rfl rfl rfl rfl
 have s24 := Stage.e 7 12 hg rfl rfl rfl rfl
 have s25 := Stage.e 8 11 hg rfl rfl rfl rfl
 have s26 := Stage.e 9 10 hg rfl rfl rfl rfl
 have s27 := Stage.e 10 9 hg rfl rfl rfl rfl
 have s28 := Stage.e 11 8 hg rfl rfl rfl rfl
 have s29 := Stage.e 12 7 hg rfl rfl rfl rfl
 have s30 := Stage.e 13 6 hg rfl rfl rfl rfl
 have s31 := Stage.e 14 5 hg rfl rfl rfl rfl
 have s32 := Stage.e 15 4 hg rfl rfl rfl rfl
 have s33 := Stage.e 16 3 hg rfl rfl rfl rfl
 have s34 := Stage.e 17 2 hg rfl rfl rfl rfl
 have s35 := Stage.e 18 1 hg rfl rfl rfl rfl
 have s36 := Stage.e 19 0 hg rfl rfl rfl rfl
 have hf1 : Fact.Fr 76 fr1 := ⟨hh.size.trans hf.size, hh.defers.trans hf.defers⟩
 clear hg hh hf
 have hf := hf1; clear hf1
 clear hok
 have ha3 := ha.drew; have ho3 := ho.drew
 clear ha ho
 generalize wr.drew = wd at *
 refine Fact.nx (hK10 _ _ ?_)
 refine Fact.cond_f s36 ?_
 refine wp_skip ?_
 refine Fact.then_normal ?_
 exact ⟨2 * r + 1, ⟨by omega, by omega, fun k hk1 hk2 => by rcases hk1 with rfl | rfl; exact Int.le_refl _; omega⟩, hf, s0, s2, s3, s8, by rw [s9]; go_num, ha3, ho3⟩))
 · (
 clear hf s0 s2 s3 s8 s9 s11 s12 s13 s14 s15 s16
 clear ha ho e1 e2 hci
 rintro fr wr3 ⟨ch, htop, hf, s0, s2, s3, s8, s9, ha, ho⟩
 have hcr : r < ch := by have := htop.1; omega
 have hchi := htop.2.1
 obtain ⟨p1, hp1⟩ : ∃ m : Nat, m = first + r := ⟨_, rfl⟩
 obtain ⟨p2, hp2⟩ : ∃ m : Nat, m = first + ch := ⟨_, rfl⟩
 have e1 : IntKind.i64.wrap ((first : Int) + (r : Int)) = (p1 : Int) := by rw [Fact.wrap_i64 (by omega) (by omega)]; omega
 have e2 : IntKind.i64.wrap ((first : Int) + (ch : Int)) = (p2 : Int) := by rw [Fact.wrap_i64 (by omega) (by omega)]; omega
 obtain ⟨x, hx⟩ : ∃ v, ys[p1]? = some v := ⟨ys[p1]'(by have := HYL.out; omega), List.getElem?_eq_getElem _⟩
 have Hxd := Lib.hid (show ys.getD (p1) 0 = x by simp [List.getD, hx])
 have Hx := Lib.hid hx
 clear hx
 obtain ⟨y, hy⟩ : ∃ v, ys[p2]? = some v := ⟨ys[p2]'(by have := HYL.out; omega), List.getElem?_eq_getElem _⟩
 have Hyd := Lib.hid (show ys.getD (p2) 0 = y by simp [List.getD, hy])
 have Hy := Lib.hid hy
 clear hy
 have cx := ha.cell Hx.out; have cy := ha.cell Hy.out
 have b1 : p1 < n := by omega
 have b2 : p2 < n := by omega
 have hne : p1 ≠ p2 := by omega
 have HP1 := Lib.hid hp1; have HP2 := Lib.hid hp2; clear hp1 hp2
 by_cases hxy : x < y
 · (
 refine wp_seq_k (fun K11 hK11 => ?_)
 refine wp_seq_k (fun K12 hK12 => ?_)
 refine Stage.begin_ (n := 76) [] (fun k w1 => w1 = [wr3.drew].getD k (wr3.drew)) (Stab.OkOps.of (by kernel_rfl)) (fun hok => ?_)
 refine Stage.mvO (k := 0) s0 hf.size hok.out rfl rfl rfl (.inl rfl) (by kernel_rfl) (by kernel_rfl) ?_
 refine Stage.mvO (k := 1) s3 hf.size hok.out rfl rfl rfl (.inl rfl) (by kernel_rfl) (by kernel_rfl) ?_
 refine Stage.mvO (k := 2) s8 hf.size hok.out rfl rfl rfl (.inl rfl) (by kernel_rfl) (by kernel_rfl) ?_
 apply Stage.t 3 _ hf.size hok.out rfl (by kernel_rfl)
 · (
 intro fr1 w1 hh hd hk K hK
 refine Stab.op_plain (o := _) rfl rfl ?_
 have s40 := Stage.u 1 1 hd hk rfl [] (by kernel_rfl) rfl rfl rfl
 have s41 := Stage.u 2 0 hd hk rfl [] (by kernel_rfl) rfl rfl rfl
 clear hd
 go_simp
 exact hK.out _ rfl _ rfl)
 apply Stage.t 4 _ hf.size hok.out rfl (by kernel_rfl)
 · (
 intro fr1 w1 hh hd hk K hK
 refine Stab.op_plain (o := _) rfl rfl ?_
 have s39 := Stage.u 0 3 hd hk rfl [] (by kernel_rfl) rfl rfl rfl
 have s42 := Stage.u 3 0 hd hk rfl [] (by kernel_rfl) rfl rfl rfl
 clear hd
 go_simp
 exact hK.out _ rfl _ rfl)
 apply Stage.todo_look (k := 5) (n := 76) 0 [] [] _ hf.size hok.out rfl (by kernel_rfl)
 · (
 intro fr1 w1 hh hw hd hk K hK
 replace hw : w1 = wr3.drew := hw
 subst hw
 refine Stab.op_plain (o := _) rfl rfl ?_
 have s43 := Stage.u 4 0 hd hk rfl [] (by kernel_rfl) rfl rfl rfl
 clear hd
 go_simp
 exact hK.out _ rfl _ _ rfl rfl)
 refine Stage.mvO (k := 6) s0 hf.size hok.out rfl rfl rfl (.inl rfl) (by kernel_rfl) (by kernel_rfl) ?_
 refine Stage.mvO (k := 7) s3 hf.size hok.out rfl rfl rfl (.inl rfl) (by kernel_rfl) (by kernel_rfl) ?_
 refine Stage.mvO (k := 8) s9 hf.size hok.out rfl rfl rfl (.inl rfl) (by kernel_rfl) (by kernel_rfl) ?_
 apply Stage.t 9 _ hf.size hok.out rfl (by kernel_rfl)
 · (
 intro fr1 w1 hh hd hk K hK
 refine Stab.op_plain (o := _) rfl rfl ?_
 have s46 := Stage.u 7 1 hd hk rfl [] (by kernel_rfl) rfl rfl rfl
 have s47 := Stage.u 8 0 hd hk rfl [] (by kernel_rfl) rfl rfl rfl
 clear hd
 go_simp
 exact hK.out _ rfl _ rfl)
 apply Stage.t 10 _ hf.size hok.out rfl (by kernel_rfl)
 · (
 intro fr1 w1 hh hd hk K hK
 refine Stab.op_plain (o := _) rfl rfl ?_
 have s45 := Stage.u 6 3 hd hk rfl [] (by kernel_rfl) rfl rfl rfl
 have s48 := Stage.u 9 0 hd hk rfl [] (by kernel_rfl) rfl rfl rfl
 clear hd
 go_simp
 exact hK.out _ rfl _ rfl)
 apply Stage.todo_look (k := 11) (n := 76) 0 [] [] _ hf.size hok.out rfl (by kernel_rfl)
 · (
 intro fr1 w1 hh hw hd hk K hK
 replace hw : w1 = wr3.drew := hw
 subst hw
 refine Stab.op_plain (o := _) rfl rfl ?_
 have s49 := Stage.u 10 0 hd hk rfl [] (by kernel_rfl) rfl rfl rfl
 clear hd
 go_simp
 exact hK.out _ rfl _ _ rfl rfl)
 apply Stage.todo_look (k := 12) (n := 76) 0 [] [] _ hf.size hok.out rfl (by kernel_rfl)
 · (
 intro fr1 w1 hh hw hd hk K hK
 replace hw : w1 = wr3.drew := hw
 subst hw
 refine Stab.op_plain (o := _) rfl rfl ?_
 have s44 := Stage.u 5 6 hd hk rfl [] (by kernel_rfl) rfl rfl rfl
 have s50 := Stage.u 11 0 hd hk rfl [] (by kernel_rfl) rfl rfl rfl
 clear hd
 go_simp
 go_at_call 85; refine (less_any _ _ _).mono ?_; rintro e w2 ⟨rfl, rfl⟩
 exact hK.out _ rfl _ _ rfl rfl)
 apply Stage.t 13 _ hf.size hok.out rfl (by kernel_rfl)
 · (
 intro fr1 w1 hh hd hk K hK
 refine Stab.op_plain (o := _) rfl rfl ?_
 have s51 := Stage.u 12 0 hd hk rfl [] (by kernel_rfl) rfl rfl rfl
 clear hd
 go_simp
 exact hK.out _ rfl _ rfl)
 refine Stage.todo_facts (n := 76) (by kernel_rfl) hf.size hok.out rfl (by decide) (by decide) rfl (fun fr1 w1 hh hg hw => ?_)
 replace hw : w1 = wr3.drew := hw
 subst hw
 replace s0 := Stage.o hh (by kernel_rfl) s0
 replace s2 := Stage.o hh (by kernel_rfl) s2
 replace s3 := Stage.o hh (by kernel_rfl) s3
 replace s8 := Stage.o hh (by kernel_rfl) s8
 replace s9 := Stage.o hh (by kernel_rfl) s9
 have s39 := Stage.e 0 13 hg rfl rfl rfl rfl
 have s40 := Stage.e 1 12 hg rfl rfl rfl rfl
 have s41 := Stage.e 2 11 hg rfl rfl rfl rfl
 have s42 := Stage.e 3 10 hg rfl rfl rfl rfl
 have s43 := Stage.e 4 9 hg rfl rfl rfl rfl
 have s44 := Stage.e 5 8 hg rfl rfl rfl rfl
 have s45 := Stage.e 6 7 hg rfl rfl rfl rfl
 have s46 := Stage.e 7 6 hg rfl rfl rfl rfl
 have s47 := Stage.e 8 5 hg rfl rfl rfl rfl
 have s48 := Stage.e 9 4 hg rfl rfl rfl rfl
 have s49 := Stage.e 10 3 hg rfl rfl rfl rfl
 have s50 := Stage.e 11 2 hg rfl rfl rfl rfl
 have s51 := Stage.e 12 1 hg rfl rfl rfl rfl
 have s52 := Stage.e 13 0 hg rfl rfl rfl rfl
 have hf1 : Fact.Fr 76 fr1 := ⟨hh.size.trans hf.size, hh.defers.trans hf.defers⟩
 clear hg hh hf
 have hf := hf1; clear hf1
 clear hok
 have ha3 := ha.drew; have ho3 := ho.drew
 clear ha ho cx cy
 generalize wr3.drew = wd at *
 refine Fact.nx (hK12 _ _ ?_)
 refine Fact.cond_f s52 ?_
 have hxy4 := Lib.hid hxy
 have cx := ha3.cell Hx.out; have cy := ha3.cell Hy.out; have hfr := fun k => ha3.frozen k
 have A1 := Lib.hid (ha3.drew.set_ (p1) y)
 have A0 := Lib.hid (ha3.set_ (p1) y)
 have C1 := A0.out.cell (i := p2) (x := y) (set_get Hy.out)
 have F1 := A0.out.frozen (p2)
 have A2 := Lib.hid (A1.out.set_ (p2) x)
 have O2 := Lib.hid ((ho3.drew.set_ (p := ⟨g, p1, none⟩) (.inl rfl) (.int .u8 y)).set_ (p := ⟨g, p2, none⟩) (.inl rfl) (.int .u8 x))
 clear ho3 ha3
 refine wp_skip ?_
 refine Fact.nx (hK11 _ _ ?_)
 refine wp_seq_k (fun K13 hK13 => ?_)
 refine Stage.begin_ (n := 76) [21, 23] (fun k w1 => w1 = [wd.drew, (wd.drew.setCell ⟨g, p1, none⟩ (.int .u8 y)), ((wd.drew.setCell ⟨g, p1, none⟩ (.int .u8 y)).setCell ⟨g, p2, none⟩ (.int .u8 x))].getD k (wd.drew)) (Stab.OkOps.of (by kernel_rfl)) (fun hok => ?_)
 refine Stage.mvO (k := 0) s0 hf.size hok.out rfl rfl rfl (.inl rfl) (by kernel_rfl) (by kernel_rfl) ?_
 refine Stage.mvO (k := 1) s3 hf.size hok.out rfl rfl rfl (.inl rfl) (by kernel_rfl) (by kernel_rfl) ?_
 refine Stage.mvO (k := 2) s8 hf.size hok.out rfl rfl rfl (.inl rfl) (by kernel_rfl) (by kernel_rfl) ?_
 apply Stage.t 3 _ hf.size hok.out rfl (by kernel_rfl)
 · (
 intro fr1 w1 hh hd hk K hK
 refine Stab.op_plain (o := _) rfl rfl ?_
 have s54 := Stage.u 1 1 hd hk rfl [] (by kernel_rfl) rfl rfl rfl
 have s55 := Stage.u 2 0 hd hk rfl [] (by kernel_rfl) rfl rfl rfl
 clear hd
 go_simp
 exact hK.out _ rfl _ rfl)
 refine Stage.mvO (k := 4) s0 hf.size hok.out rfl rfl rfl (.inl rfl) (by kernel_rfl) (by kernel_rfl) ?_
 refine Stage.mvO (k := 5) s3 hf.size hok.out rfl rfl rfl (.inl rfl) (by kernel_rfl) (by kernel_rfl) ?_
 refine Stage.mvO (k := 6) s9 hf.size hok.out rfl rfl rfl (.inl rfl) (by kernel_rfl) (by kernel_rfl) ?_
 apply Stage.t 7 _ hf.size hok.out rfl (by kernel_rfl)
 · (
 intro fr1 w1 hh hd hk K hK
 refine Stab.op_plain (o := _) rfl rfl ?_
 have s58 := Stage.u 5 1 hd hk rfl [] (by kernel_rfl) rfl rfl rfl
 have s59 := Stage.u 6 0 hd hk rfl [] (by kernel_rfl) rfl rfl rfl
 clear hd
 go_simp
 exact hK.out _ rfl _ rfl)
 refine Stage.mvO (k := 8) s0 hf.size hok.out rfl rfl rfl (.inl rfl) (by kernel_rfl) (by kernel_rfl) ?_
 refine Stage.mvO (k := 9) s3 hf.size hok.out rfl rfl rfl (.inl rfl) (by kernel_rfl) (by kernel_rfl) ?_
 refine Stage.mvO (k := 10) s9 hf.size hok.out rfl rfl rfl (.inl rfl) (by kernel_rfl) (by kernel_rfl) ?_
 apply Stage.t 11 _ hf.size hok.out rfl (by kernel_rfl)
 · (
 intro fr1 w1 hh hd hk K hK
 refine Stab.op_plain (o := _) rfl rfl ?_
 have s62 := Stage.u 9 1 hd hk rfl [] (by kernel_rfl) rfl rfl rfl
 have s63 := Stage.u 10 0 hd hk rfl [] (by kernel_rfl) rfl rfl rfl
 clear hd
 go_simp
 exact hK.out _ rfl _ rfl)
 apply Stage.t 12 _ hf.size hok.out rfl (by kernel_rfl)
 · (
 intro fr1 w1 hh hd hk K hK
 refine Stab.op_plain (o := _) rfl rfl ?_
 have s61 := Stage.u 8 3 hd hk rfl [] (by kernel_rfl) rfl rfl rfl
 have s64 := Stage.u 11 0 hd hk rfl [] (by kernel_rfl) rfl rfl rfl
 clear hd
 go_simp
 exact hK.out _ rfl _ rfl)
 apply Stage.todo_look (k := 13) (n := 76) 0 [] [] _ hf.size hok.out rfl (by kernel_rfl)
 · (
 intro fr1 w1 hh hw hd hk K hK
 replace hw : w1 = wd.drew := hw
 subst hw
 refine Stab.op_plain (o := _) rfl rfl ?_
 have s65 := Stage.u 12 0 hd hk rfl [] (by kernel_rfl) rfl rfl rfl
 clear hd
 go_simp
 exact hK.out _ rfl _ _ rfl rfl)
 refine Stage.mvO (k := 14) s0 hf.size hok.out rfl rfl rfl (.inl rfl) (by kernel_rfl) (by kernel_rfl) ?_
 refine Stage.mvO (k := 15) s3 hf.size hok.out rfl rfl rfl (.inl rfl) (by kernel_rfl) (by kernel_rfl) ?_
 refine Stage.mvO (k := 16) s8 hf.size hok.out rfl rfl rfl (.inl rfl) (by kernel_rfl) (by kernel_rfl) ?_
 apply Stage.t 17 _ hf.size hok.out rfl (by kernel_rfl)
 · (
 intro fr1 w1 hh hd hk K hK
 refine Stab.op_plain (o := _) rfl rfl ?_
 have s68 := Stage.u 15 1 hd hk rfl [] (by kernel_rfl) rfl rfl rfl
 have s69 := Stage.u 16 0 hd hk rfl [] (by kernel_rfl) rfl rfl rfl
 clear hd
 go_simp
 exact hK.out _ rfl _ rfl)
 apply Stage.t 18 _ hf.size hok.out rfl (by kernel_rfl)
 · (
 intro fr1 w1 hh hd hk K hK
 refine Stab.op_plain (o := _) rfl rfl ?_
 have s67 := Stage.u 14 3 hd hk rfl [] (by kernel_rfl) rfl rfl rfl
 have s70 := Stage.u 17 0 hd hk rfl [] (by kernel_rfl) rfl rfl rfl
 clear hd
 go_simp
 exact hK.out _ rfl _ rfl)
 apply Stage.todo_look (k := 19) (n := 76) 0 [] [] _ hf.size hok.out rfl (by kernel_rfl)
 · (
 intro fr1 w1 hh hw hd hk K hK
 replace hw : w1 = wd.drew := hw
 subst hw
 refine Stab.op_plain (o := _) rfl rfl ?_
 have s71 := Stage.u 18 0 hd hk rfl [] (by kernel_rfl) rfl rfl rfl
 clear hd
 go_simp
 exact hK.out _ rfl _ _ rfl rfl)
 apply Stage.t 20 _ hf.size hok.out rfl (by kernel_rfl)
 · (
 intro fr1 w1 hh hd hk K hK
 refine Stab.op_plain (o := _) rfl rfl ?_
 have s53 := Stage.u 0 19 hd hk rfl [] (by kernel_rfl) rfl rfl rfl
 have s56 := Stage.u 3 16 hd hk rfl [] (by kernel_rfl) rfl rfl rfl
 clear hd
 go_simp
 exact hK.out _ rfl _ rfl)
 refine Stage.todo_lead (k := 21) (n := 76) 0 [] (fun _ => True) hf.size hok.out rfl (by kernel_rfl) ?_ ?_
 · (
 intro fr1 w1 hh hw hd hk K hK
 replace hw : w1 = wd.drew := hw
 subst hw
 refine Stab.op_plain (o := _) rfl rfl ?_
 have s73 := Stage.u 20 0 hd hk rfl [] (by kernel_rfl) rfl rfl rfl
 have s66 := Stage.u 13 7 hd hk rfl [] (by kernel_rfl) rfl rfl rfl
 clear hd
 go_simp
 exact hK.out _ rfl undef _ rfl trivial)
 apply Stage.t 22 _ hf.size hok.out rfl (by kernel_rfl)
 · (
 intro fr1 w1 hh hd hk K hK
 refine Stab.op_plain (o := _) rfl rfl ?_
 have s57 := Stage.u 4 17 hd hk rfl [] (by kernel_rfl) rfl rfl rfl
 have s60 := Stage.u 7 14 hd hk rfl [] (by kernel_rfl) rfl rfl rfl
 clear hd
 go_simp
 exact hK.out _ rfl _ rfl)
 refine Stage.todo_lead (k := 23) (n := 76) 1 [] (fun _ => True) hf.size hok.out rfl (by kernel_rfl) ?_ ?_
 · (
 intro fr1 w1 hh hw hd hk K hK
 replace hw : w1 = (wd.drew.setCell ⟨g, p1, none⟩ (.int .u8 y)) := hw
 subst hw
 refine Stab.op_plain (o := _) rfl rfl ?_
 have s74 := Stage.u 22 0 hd hk rfl [] (by kernel_rfl) rfl rfl rfl
 have s72 := Stage.u 19 3 hd hk rfl [] (by kernel_rfl) rfl rfl rfl
 clear hd
 go_simp
 exact hK.out _ rfl undef _ rfl trivial)
 refine Stage.todo_facts (n := 76) (by kernel_rfl) hf.size hok.out rfl (by decide) (by decide) rfl (fun fr1 w1 hh hg hw => ?_)
 replace hw : w1 = ((wd.drew.setCell ⟨g, p1, none⟩ (.int .u8 y)).setCell ⟨g, p2, none⟩ (.int .u8 x)) := hw
 subst hw
 replace s0 := Stage.o hh (by kernel_rfl) s0
 replace s2 := Stage.o hh (by kernel_rfl) s2
 replace s3 := Stage.o hh (by kernel_rfl) s3
 replace s8 := Stage.o hh (by kernel_rfl) s8
 replace s9 := Stage.o hh (by kernel_rfl) s9
 replace s39 := Stage.o hh (by kernel_rfl) s39
 replace s40 := Stage.o hh (by kernel_rfl) s40
 replace s41 := Stage.o hh (by kernel_rfl) s41
 replace s42 := Stage.o hh (by kernel_rfl) s42
 replace s43 := Stage.o hh (by kernel_rfl) s43
 replace s44 := Stage.o hh (by kernel_rfl) s44
 replace s45 := Stage.o hh (by kernel_rfl) s45
 replace s46 := Stage.o hh (by kernel_rfl) s46
 replace s47 := Stage.o hh (by kernel_rfl) s47
 replace s48 := Stage.o hh (by kernel_rfl) s48
 replace s49 := Stage.o hh (by kernel_rfl) s49
 replace s50 := Stage.o hh (by kernel_rfl) s50
 replace s51 := Stage.o hh (by kernel_rfl) s51
 replace s52 := Stage.o hh (by kernel_rfl) s52
 have s53 := Stage.e 0 23 hg rfl rfl rfl rfl
 have s54 := Stage.e 1 22 hg rfl rfl rfl rfl
 have s55 := Stage.e 2 21 hg rfl rfl rfl rfl
 have s56 := Stage.e 3 20 hg rfl rfl rfl rfl
 have s57 := Stage.e 4 19 hg rfl rfl rfl rfl
 have s58 := Stage.e 5 18 hg rfl rfl rfl rfl
 have s59 := Stage.e 6 17 hg rfl rfl rfl rfl
 have s60 := Stage.e 7 16 hg rfl rfl rfl rfl
 have s61 := Stage.e 8 15 hg rfl rfl rfl rfl
 have s62 := Stage.e 9 14 hg rfl rfl rfl rfl
 have s63 := Stage.e 10 13 hg rfl rfl rfl rfl
 have s64 := Stage.e 11 12 hg rfl rfl rfl rfl
 have s65 := Stage.e 12 11 hg rfl rfl rfl rfl
 have s66 := Stage.e 13 10 hg rfl rfl rfl rfl
 have s67 := Stage.e 14 9 hg rfl rfl rfl rfl
 have s68 := Stage.e 15 8 hg rfl rfl rfl rfl
 have s69 := Stage.e 16 7 hg rfl rfl rfl rfl
 have s70 := Stage.e 17 6 hg rfl rfl rfl rfl
 have s71 := Stage.e 18 5 hg rfl rfl rfl rfl
 have s72 := Stage.e 19 4 hg rfl rfl rfl rfl
 have s73 := Stage.e 20 3 hg rfl rfl rfl rfl
 have s74 := Stage.e 22 1 hg rfl rfl rfl rfl
 have hf1 : Fact.Fr 76 fr1 := ⟨hh.size.trans hf.size, hh.defers.trans hf.defers⟩
 clear hg hh hf
 have hf := hf1; clear hf1
 clear hok
 refine Fact.nx (hK13 _ _ ?_)
 refine Fact.region ?_
 have b75 := hf.l 75 rfl
 refine Fact.p rfl fun K hK => ?_
 go_simp
 refine hK.out _ _ ?_; clear hK K
 refine Fact.p rfl fun K hK => ?_
 go_simp
 refine hK.out _ _ ?_; clear hK K
 refine Fact.nil ?_
 refine Fact.q hf (by simp only [Fact.G]) rfl fun fr1 hf1 hT => ?_
 have hKp : _ ∧ _ ∧ _ ∧ _ ∧ _ ∧ _ ∧ _ ∧ _ ∧ _ ∧ _ ∧ _ ∧ _ ∧ _ ∧ _ ∧ _ ∧ _ ∧ _ ∧ _ ∧ _ ∧ _ ∧ _ ∧ _ ∧ _ ∧ _ ∧ _ ∧ _ ∧ _ ∧ _ ∧ _ ∧ _ ∧ _ ∧ _ ∧ _ ∧ _ ∧ _ ∧ _ ∧ _ ∧ _ ∧ _ ∧ _ ∧ _ ∧ _ := ⟨hT 0, hT 2, hT 3, hT 8, hT 9, hT 39, hT 40, hT 41, hT 42, hT 43, hT 44, hT 45, hT 46, hT 47, hT 48, hT 49, hT 50, hT 51, hT 52, hT 53, hT 54, hT 55, hT 56, hT 57, hT 58, hT 59, hT 60, hT 61, hT 62, hT 63, hT 64, hT 65, hT 66, hT 67, hT 68, hT 69, hT 70, hT 71, hT 72, hT 73, hT 74, hT 75⟩
 simp only [Fact.G, Nat.reduceEqDiff, Nat.reduceLT, hf.size, reduceIte, s0, s2, s3, s9, s39, s40, s41, s42, s43, s44, s45, s46, s47, s48, s49, s50, s51, s52, s53, s54, s55, s56, s57, s58, s59, s60, s61, s62, s63, s64, s65, s66, s67, s68, s69, s70, s71, s72, s73, s74] at hKp
 clear hT hf s0 s2 s3 s8 s9 s39 s40 s41 s42 s43 s44 s45 s46 s47 s48 s49 s50 s51 s52 s53 s54 s55 s56 s57 s58 s59 s60 s61 s62 s63 s64 s65 s66 s67 s68 s69 s70 s71 s72 s73 s74 b75
 obtain ⟨s0, s2, s3, s8, s9, s39, s40, s41, s42, s43, s44, s45, s46, s47, s48, s49, s50, s51, s52, s53, s54, s55, s56, s57, s58, s59, s60, s61, s62, s63, s64, s65, s66, s67, s68, s69, s70, s71, s72, s73, s74, s75⟩ := hKp
 have hf := hf1; clear hf1
 refine Fact.block_normal ?_
 refine Fact.then_normal ?_
 refine ⟨hi - ch, by have := HK.out; omega, ch, swap ys p1 p2, rfl, by omega, by omega, hf, s0, s2, s3, s8, hsg.swap (by have := HP1.out; omega) (by have := HP1.out; omega) (by have := HP2.out; omega) (by have := HP2.out; omega), ?_, ?_, O2.out⟩
 · (
 rw [HP1.out, HP2.out]; exact hhb.sink htop (by have := HYL.out; omega) (by omega) hlr (by rw [← HP1.out, ← HP2.out, Hxd.out, Hyd.out]; exact hxy4.out))
 · (
 unfold swap; rw [Hxd.out, Hyd.out]; exact A2.out))
 · (
 refine wp_seq_k (fun K14 hK14 => ?_)
 refine wp_seq_k (fun K15 hK15 => ?_)
 refine Stage.begin_ (n := 76) [] (fun k w1 => w1 = [wr3.drew].getD k (wr3.drew)) (Stab.OkOps.of (by kernel_rfl)) (fun hok => ?_)
 refine Stage.mvO (k := 0) s0 hf.size hok.out rfl rfl rfl (.inl rfl) (by kernel_rfl) (by kernel_rfl) ?_
 refine Stage.mvO (k := 1) s3 hf.size hok.out rfl rfl rfl (.inl rfl) (by kernel_rfl) (by kernel_rfl) ?_
 refine Stage.mvO (k := 2) s8 hf.size hok.out rfl rfl rfl (.inl rfl) (by kernel_rfl) (by kernel_rfl) ?_
 apply Stage.t 3 _ hf.size hok.out rfl (by kernel_rfl)
 · (
 intro fr1 w1 hh hd hk K hK
 refine Stab.op_plain (o := _) rfl rfl ?_
 have s40 := Stage.u 1 1 hd hk rfl [] (by kernel_rfl) rfl rfl rfl
 have s41 := Stage.u 2 0 hd hk rfl [] (by kernel_rfl) rfl rfl rfl
 clear hd
 go_simp
 exact hK.out _ rfl _ rfl)
 apply Stage.t 4 _ hf.size hok.out rfl (by kernel_rfl)
 · (
 intro fr1 w1 hh hd hk K hK
 refine Stab.op_plain (o := _) rfl rfl ?_
 have s39 := Stage.u 0 3 hd hk rfl [] (by kernel_rfl) rfl rfl rfl
 have s42 := Stage.u 3 0 hd hk rfl [] (by kernel_rfl) rfl rfl rfl
 clear hd
 go_simp
 exact hK.out _ rfl _ rfl)
 apply Stage.todo_look (k := 5) (n := 76) 0 [] [] _ hf.size hok.out rfl (by kernel_rfl)
 · (
 intro fr1 w1 hh hw hd hk K hK
 replace hw : w1 = wr3.drew := hw
 subst hw
 refine Stab.op_plain (o := _) rfl rfl ?_
 have s43 := Stage.u 4 0 hd hk rfl [] (by kernel_rfl) rfl rfl rfl
 clear hd
 go_simp
 exact hK.out _ rfl _ _ rfl rfl)
 refine Stage.mvO (k := 6) s0 hf.size hok.out rfl rfl rfl (.inl rfl) (by kernel_rfl) (by kernel_rfl) ?_
 refine Stage.mvO (k := 7) s3 hf.size hok.out rfl rfl rfl (.inl rfl) (by kernel_rfl) (by kernel_rfl) ?_
 refine Stage.mvO (k := 8) s9 hf.size hok.out rfl rfl rfl (.inl rfl) (by kernel_rfl) (by kernel_rfl) ?_
 apply Stage.t 9 _ hf.size hok.out rfl (by kernel_rfl)
 · (
 intro fr1 w1 hh hd hk K hK
 refine Stab.op_plain (o := _) rfl rfl ?_
 have s46 := Stage.u 7 1 hd hk rfl [] (by kernel_rfl) rfl rfl rfl
 have s47 := Stage.u 8 0 hd hk rfl [] (by kernel_rfl) rfl rfl rfl
 clear hd
 go_simp
 exact hK.out _ rfl _ rfl)
 apply Stage.t 10 _ hf.size hok.out rfl (by kernel_rfl)
 · (
 intro fr1 w1 hh hd hk K hK
 refine Stab.op_plain (o := _) rfl rfl ?_
 have s45 := Stage.u 6 3 hd hk rfl [] (by kernel_rfl) rfl rfl rfl
 have s48 := Stage.u 9 0 hd hk rfl [] (by kernel_rfl) rfl rfl rfl
 clear hd
 go_simp
 exact hK.out _ rfl _ rfl)
 apply Stage.todo_look (k := 11) (n := 76) 0 [] [] _ hf.size hok.out rfl (by kernel_rfl)
 · (
 intro fr1 w1 hh hw hd hk K hK
 replace hw : w1 = wr3.drew := hw
 subst hw
 refine Stab.op_plain (o := _) rfl rfl ?_
 have s49 := Stage.u 10 0 hd hk rfl [] (by kernel_rfl) rfl rfl rfl
 clear hd
 go_simp
 exact hK.out _ rfl _ _ rfl rfl)
 apply Stage.todo_look (k := 12) (n := 76) 0 [] [] _ hf.size hok.out rfl (by kernel_rfl)
 · (
 intro fr1 w1 hh hw hd hk K hK
 replace hw : w1 = wr3.drew := hw
 subst hw
 refine Stab.op_plain (o := _) rfl rfl ?_
 have s44 := Stage.u 5 6 hd hk rfl [] (by kernel_rfl) rfl rfl rfl
 have s50 := Stage.u 11 0 hd hk rfl [] (by kernel_rfl) rfl rfl rfl
 clear hd
 go_simp
 go_at_call 85; refine (less_any _ _ _).mono ?_; rintro e w2 ⟨rfl, rfl⟩
 exact hK.out _ rfl _ _ rfl rfl)
 apply Stage.t 13 _ hf.size hok.out rfl (by kernel_rfl)
 · (
 intro fr1 w1 hh hd hk K hK
 refine Stab.op_plain (o := _) rfl rfl ?_
 have s51 := Stage.u 12 0 hd hk rfl [] (by kernel_rfl) rfl rfl rfl
 clear hd
 go_simp
 exact hK.out _ rfl _ rfl)
 refine Stage.todo_facts (n := 76) (by kernel_rfl) hf.size hok.out rfl (by decide) (by decide) rfl (fun fr1 w1 hh hg hw => ?_)
 replace hw : w1 = wr3.drew := hw
 subst hw
 replace s0 := Stage.o hh (by kernel_rfl) s0
 replace s2 := Stage.o hh (by kernel_rfl) s2
 replace s3 := Stage.o hh (by kernel_rfl) s3
 replace s8 := Stage.o hh (by kernel_rfl) s8
 replace s9 := Stage.o hh (by kernel_rfl) s9
 have s39 := Stage.e 0 13 hg rfl rfl rfl rfl
 have s40 := Stage.e 1 12 hg rfl rfl rfl rfl
 have s41 := Stage.e 2 11 hg rfl rfl rfl rfl
 have s42 := Stage.e 3 10 hg rfl rfl rfl rfl
 have s43 := Stage.e 4 9 hg rfl rfl rfl rfl
 have s44 := Stage.e 5 8 hg rfl rfl rfl rfl
 have s45 := Stage.e 6 7 hg rfl rfl rfl rfl
 have s46 := Stage.e 7 6 hg rfl rfl rfl rfl
 have s47 := Stage.e 8 5 hg rfl rfl rfl rfl
 have s48 := Stage.e 9 4 hg rfl rfl rfl rfl
 have s49 := Stage.e 10 3 hg rfl rfl rfl rfl
 have s50 := Stage.e 11 2 hg rfl rfl rfl rfl
 have s51 := Stage.e 12 1 hg rfl rfl rfl rfl
 have s52 := Stage.e 13 0 hg rfl rfl rfl rfl
 have hf1 : Fact.Fr 76 fr1 := ⟨hh.size.trans hf.size, hh.defers.trans hf.defers⟩
 clear hg hh hf
 have hf := hf1; clear hf1
 clear hok
 have ha3 := ha.drew; have ho3 := ho.drew
 clear ha ho cx cy
 generalize wr3.drew = wd at *
 refine Fact.nx (hK15 _ _ ?_)
 refine Fact.cond_t s52 ?_
 refine wp_ret ?_
 refine Fact.then_ret ?_
 refine Fact.block_ret ?_
 refine Fact.then_ret ?_
 refine Fact.block_ret ?_
 exact Fact.ret0 rfl hf ⟨rfl, ys, hsg, hhb.fits htop (by rw [← HP1.out, ← HP2.out, Hxd.out, Hyd.out]; exact hxy), ha3, ho3⟩))))
 · (
 have h9 := hr9; exact absurd hr9 (by omega)))
end Sb
end Go.Proofs.Ytfgfichkcckhiaa
