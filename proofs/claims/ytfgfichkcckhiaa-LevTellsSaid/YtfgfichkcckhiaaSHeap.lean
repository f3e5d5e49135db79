/- slices.heapSortOrdered at bytes: a stretch is sorted. -/
import Derived.Test.YtfgfichkcckhiaaSSift
namespace Go.Proofs.Ytfgfichkcckhiaa
open Go.RowKit
set_option linter.unusedSimpArgs false
set_option linter.unusedVariables false
set_option linter.unnecessarySimpa false
namespace Sb
set_option maxHeartbeats 4000000 in
set_option maxRecDepth 100000 in
theorem heap_any (zs : List Int) (g n c a b : Nat) (w : World) (hn : zs.length = n) (hnl : n ≤ 400000000) (hab : a ≤ b) (hb : b ≤ n) (h : Arr w g zs) : Calls Try.prog 80 #[.slice (some ⟨g, 0, none⟩) n c, .int .i64 a, .int .i64 b] w fun e w1 => e = .returned (.tuple #[]) ∧ ∃ ys, Segm a b zs ys ∧ SortedOn a b ys ∧ Arr w1 g ys ∧ Only w w1 g := by
 refine calls_of_wp Try.func80 rfl ?_
 refine Fact.enter (n := 56) (by kernel_rfl) (fun fr hf hT => ?_)
 have s0 := hT 0 _ rfl
 have s1 := hT 1 _ rfl
 have s2 := hT 2 _ rfl
 clear hT
 obtain ⟨hi, hhi⟩ : ∃ m : Nat, m = b - a := ⟨_, rfl⟩
 obtain ⟨i0, hi0⟩ : ∃ m : Nat, m = (hi - 1) / 2 := ⟨_, rfl⟩
 have e1 : IntKind.i64.wrap ((b : Int) - (a : Int)) = (hi : Int) := by rw [Fact.wrap_i64 (by omega) (by omega)]; omega
 have e2 : IntKind.i64.wrap ((hi : Int) - 1) = (hi : Int) - 1 := Fact.wrap_i64 (by omega) (by omega)
 have e3 : ((hi : Int) - 1).tdiv 2 = (i0 : Int) := by
   rcases Nat.eq_zero_or_pos hi with h0 | h0
   · subst h0; subst hi0; rfl
   · rw [Int.tdiv_eq_ediv_of_nonneg (by omega)]; omega
 have e4 : IntKind.i64.wrap (i0 : Int) = (i0 : Int) := Fact.wrap_i64 (by omega) (by omega)
 have HHI := Lib.hid hhi; have HI0 := Lib.hid hi0; clear hhi hi0
 refine wp_seq_k (fun K1 hK1 => ?_)
 refine Fact.region ?_
 have b11 := hf.l 11 rfl
 refine Fact.p rfl fun K hK => ?_
 go_simp
 refine hK.out _ _ ?_; clear hK K
 refine Fact.p rfl fun K hK => ?_
 go_simp
 refine hK.out _ _ ?_; clear hK K
 refine Fact.nil ?_
 refine Fact.q hf (by simp only [Fact.G]) rfl fun fr1 hf1 hT => ?_
 have hKp : _ ∧ _ ∧ _ ∧ _ := ⟨hT 0, hT 1, hT 2, hT 6⟩
 simp only [Fact.G, Nat.reduceEqDiff, Nat.reduceLT, hf.size, reduceIte, s0, s1, s2] at hKp
 clear hT hf s0 s1 s2 b11
 obtain ⟨s0, s1, s2, s6⟩ := hKp
 have hf := hf1; clear hf1
 refine Fact.nx (hK1 _ _ ?_)
 refine wp_seq_k (fun K2 hK2 => ?_)
 refine Fact.region ?_
 refine Fact.p rfl fun K hK => ?_
 go_simp
 refine hK.out _ _ ?_; clear hK K
 refine Fact.nil ?_
 refine Fact.q hf (by simp only [Fact.G]) rfl fun fr1 hf1 hT => ?_
 have hKp : _ ∧ _ ∧ _ ∧ _ ∧ _ := ⟨hT 0, hT 1, hT 2, hT 6, hT 7⟩
 simp only [Fact.G, Nat.reduceEqDiff, Nat.reduceLT, hf.size, reduceIte, s0, s1, s2, s6] at hKp
 clear hT hf s0 s1 s2 s6
 obtain ⟨s0, s1, s2, s6, s7⟩ := hKp
 have hf := hf1; clear hf1
 refine Fact.nx (hK2 _ _ ?_)
 refine wp_seq_k (fun K3 hK3 => ?_)
 refine Fact.region ?_
 have b12 := hf.l 12 rfl
 have b13 := hf.l 13 rfl
 have b14 := hf.l 14 rfl
 refine Fact.p rfl fun K hK => ?_
 go_simp
 refine hK.out _ _ ?_; clear hK K
 refine Fact.p rfl fun K hK => ?_
 go_simp
 refine hK.out _ _ ?_; clear hK K
 refine Fact.p rfl fun K hK => ?_
 go_simp
 try simp (disch := omega) only [Fact.wrap_i64, Fact.wrap_u8, Fact.wrap_u32, Fact.wrap_u64]
 refine hK.out _ _ ?_; clear hK K
 refine Fact.p rfl fun K hK => ?_
 go_simp
 refine hK.out _ _ ?_; clear hK K
 refine Fact.nil ?_
 refine Fact.q hf (by simp only [Fact.G]) rfl fun fr1 hf1 hT => ?_
 have hKp : _ ∧ _ ∧ _ ∧ _ := ⟨hT 0, hT 6, hT 7, hT 8⟩
 simp only [Fact.G, Nat.reduceEqDiff, Nat.reduceLT, hf.size, reduceIte, s0, s6, s7] at hKp
 clear hT hf s0 s1 s2 s6 s7 b12 b13 b14
 obtain ⟨s0, s6, s7, s8⟩ := hKp
 have hf := hf1; clear hf1
 refine Fact.nx (hK3 _ _ ?_)
 refine wp_seq_k (fun K4 hK4 => ?_)
 refine wp_seq_k (fun K5 hK5 => ?_)
 refine Fact.region ?_
 have b15 := hf.l 15 rfl
 have b16 := hf.l 16 rfl
 have b17 := hf.l 17 rfl
 refine Fact.p rfl fun K hK => ?_
 go_simp
 refine hK.out _ _ ?_; clear hK K
 refine Fact.p rfl fun K hK => ?_
 go_simp
 try simp (disch := omega) only [Fact.wrap_i64, Fact.wrap_u8, Fact.wrap_u32, Fact.wrap_u64]
 refine hK.out _ _ ?_; clear hK K
 refine Fact.p rfl fun K hK => ?_
 go_simp
 refine hK.out _ _ ?_; clear hK K
 refine Fact.p rfl fun K hK => ?_
 go_simp
 refine hK.out _ _ ?_; clear hK K
 refine Fact.nil ?_
 refine Fact.q hf (by simp only [Fact.G]) rfl fun fr1 hf1 hT => ?_
 have hKp : _ ∧ _ ∧ _ ∧ _ ∧ _ := ⟨hT 0, hT 6, hT 7, hT 8, hT 9⟩
 simp only [Fact.G, Nat.reduceEqDiff, Nat.reduceLT, hf.size, reduceIte, s0, s6, s7, s8] at hKp
 clear hT hf s0 s6 s7 s8 b15 b16 b17
 obtain ⟨s0, s6, s7, s8, s9⟩ := hKp
 have hf := hf1; clear hf1
 refine Fact.nx (hK5 _ _ ?_)
 refine wp_block ?_
 refine wp_loop_ghost (fun gk fr wr => ∃ (k : Nat) (ys : List Int), gk = k ∧ k ≤ i0 + 1 ∧ Fact.Fr 56 fr ∧ fr.tmps[0]? = some (.slice (some ⟨g, 0, none⟩) n c) ∧ fr.tmps[6]? = some (.int .i64 a) ∧ fr.tmps[7]? = some (.int .i64 0) ∧ fr.tmps[8]? = some (.int .i64 hi) ∧ fr.tmps[9]? = some (.int .i64 ((k : Int) - 1)) ∧ Segm a b zs ys ∧ Heap k hi a ys ∧ Arr wr g ys ∧ Only w wr g) (i0 + 1) ?_ ?_
 · (
 exact ⟨i0 + 1, zs, rfl, Nat.le_refl _, hf, s0, s6, s7, s8, by rw [s9, show ((i0 + 1 : Nat) : Int) - 1 = (i0 : Int) by omega], Segm.refl _ _ _, Heap.zero _ _ _ (by have := HI0.out; omega), h, Only.refl _ _⟩)
 · (
 clear hf s0 s6 s7 s8 s9
 rintro gk fr wr ⟨k, ys, rfl, hki, hf, s0, s6, s7, s8, s9, hsg, hhp, ha, ho⟩
 have HYL := Lib.hid hsg.len
 rcases Nat.eq_zero_or_pos gk with h0 | h0
 · (
 subst h0
 refine wp_seq_k (fun K6 hK6 => ?_)
 refine wp_seq_k (fun K7 hK7 => ?_)
 refine Fact.region ?_
 have b18 := hf.l 18 rfl
 refine Fact.p rfl fun K hK => ?_
 go_simp
 refine hK.out _ _ ?_; clear hK K
 refine Fact.p rfl fun K hK => ?_
 go_simp
 refine hK.out _ _ ?_; clear hK K
 refine Fact.nil ?_
 refine Fact.q hf (by simp only [Fact.G]) rfl fun fr1 hf1 hT => ?_
 have hKp : _ ∧ _ ∧ _ ∧ _ ∧ _ ∧ _ ∧ _ := ⟨hT 0, hT 6, hT 7, hT 8, hT 9, hT 18, hT 19⟩
 simp only [Fact.G, Nat.reduceEqDiff, Nat.reduceLT, hf.size, reduceIte, s0, s6, s7, s8, s9] at hKp
 clear hT hf s0 s6 s7 s8 s9 b18
 obtain ⟨s0, s6, s7, s8, s9, s18, s19⟩ := hKp
 have hf := hf1; clear hf1
 refine Fact.nx (hK7 _ _ ?_)
 refine Fact.cond_f s19 ?_
 refine wp_exit ?_
 refine Fact.then_exit ?_
 refine Fact.then_exit ?_
 refine Fact.block_exit ?_
 refine Fact.nx (hK4 _ _ ?_)
 refine wp_seq_k (fun K8 hK8 => ?_)
 refine Fact.region ?_
 have b27 := hf.l 27 rfl
 have b28 := hf.l 28 rfl
 refine Fact.p rfl fun K hK => ?_
 go_simp
 refine hK.out _ _ ?_; clear hK K
 refine Fact.p rfl fun K hK => ?_
 go_simp
 try simp (disch := omega) only [Fact.wrap_i64, Fact.wrap_u8, Fact.wrap_u32, Fact.wrap_u64]
 refine hK.out _ _ ?_; clear hK K
 refine Fact.p rfl fun K hK => ?_
 go_simp
 refine hK.out _ _ ?_; clear hK K
 refine Fact.nil ?_
 refine Fact.q hf (by simp only [Fact.G]) rfl fun fr1 hf1 hT => ?_
 have hKp : _ ∧ _ ∧ _ ∧ _ := ⟨hT 0, hT 6, hT 7, hT 10⟩
 simp only [Fact.G, Nat.reduceEqDiff, Nat.reduceLT, hf.size, reduceIte, s0, s6, s7] at hKp
 clear hT hf s0 s6 s7 s8 s9 s18 s19 b27 b28
 obtain ⟨s0, s6, s7, s10⟩ := hKp
 have hf := hf1; clear hf1
 refine Fact.nx (hK8 _ _ ?_)
 refine wp_block ?_
 refine wp_loop_ghost (fun gk fr wr2 => ∃ (k : Nat) (ys2 : List Int), gk = k ∧ k ≤ hi ∧ Fact.Fr 56 fr ∧ fr.tmps[0]? = some (.slice (some ⟨g, 0, none⟩) n c) ∧ fr.tmps[6]? = some (.int .i64 a) ∧ fr.tmps[7]? = some (.int .i64 0) ∧ fr.tmps[10]? = some (.int .i64 ((k : Int) - 1)) ∧ Segm a b zs ys2 ∧ Popped a k hi ys2 ∧ Arr wr2 g ys2 ∧ Only w wr2 g) (hi) ?_ ?_
 · (
 exact ⟨hi, ys, rfl, Nat.le_refl _, hf, s0, s6, s7, by (rw [s10]), hsg, Popped.start hhp, ha, ho⟩)
 · (
 clear hf s0 s6 s7 s10
 rintro gk fr wr2 ⟨k, ys2, rfl, hki, hf, s0, s6, s7, s10, hsg2, hpp, ha2, ho2⟩
 have HYL2 := Lib.hid hsg2.len
 rcases Nat.eq_zero_or_pos gk with h0 | h0
 · (
 subst h0
 refine wp_seq_k (fun K9 hK9 => ?_)
 refine wp_seq_k (fun K10 hK10 => ?_)
 refine Fact.region ?_
 have b29 := hf.l 29 rfl
 refine Fact.p rfl fun K hK => ?_
 go_simp
 refine hK.out _ _ ?_; clear hK K
 refine Fact.p rfl fun K hK => ?_
 go_simp
 refine hK.out _ _ ?_; clear hK K
 refine Fact.nil ?_
 refine Fact.q hf (by simp only [Fact.G]) rfl fun fr1 hf1 hT => ?_
 have hKp : _ ∧ _ ∧ _ ∧ _ ∧ _ ∧ _ := ⟨hT 0, hT 6, hT 7, hT 10, hT 29, hT 30⟩
 simp only [Fact.G, Nat.reduceEqDiff, Nat.reduceLT, hf.size, reduceIte, s0, s6, s7, s10] at hKp
 clear hT hf s0 s6 s7 s10 b29
 obtain ⟨s0, s6, s7, s10, s29, s30⟩ := hKp
 have hf := hf1; clear hf1
 refine Fact.nx (hK10 _ _ ?_)
 refine Fact.cond_f s30 ?_
 refine wp_exit ?_
 refine Fact.then_exit ?_
 refine Fact.then_exit ?_
 refine Fact.block_exit ?_
 exact Fact.end0 rfl hf ⟨rfl, ys2, hsg2, (show a + hi = b by have := HHI.out; omega) ▸ hpp.done, ha2, ho2⟩)
 · (
 obtain ⟨q, rfl⟩ : ∃ q, gk = q + 1 := ⟨gk - 1, by omega⟩
 rw [show ((q + 1 : Nat) : Int) - 1 = (q : Int) by omega] at s10
 have hq0 : (0 : Int) ≤ (q : Int) := by omega
 have e5 : IntKind.i64.wrap ((q : Int) - 1) = (q : Int) - 1 := Fact.wrap_i64 (by omega) (by have := HHI.out; have := HI0.out; omega)
 obtain ⟨p2, hp2⟩ : ∃ m : Nat, m = a + q := ⟨_, rfl⟩
 have e6 : IntKind.i64.wrap ((a : Int) + (q : Int)) = (p2 : Int) := by rw [Fact.wrap_i64 (by omega) (by have := HHI.out; omega)]; omega
 have b1 : a < n := by have := HHI.out; omega
 have b2 : p2 < n := by have := HHI.out; omega
 have HP2 := Lib.hid hp2; clear hp2
 obtain ⟨x, hx⟩ : ∃ v, ys2[a]? = some v := ⟨ys2[a]'(by have := HYL2.out; omega), List.getElem?_eq_getElem _⟩
 have Hxd := Lib.hid (show ys2.getD (a) 0 = x by simp [List.getD, hx])
 have Hx := Lib.hid hx
 clear hx
 obtain ⟨y, hy⟩ : ∃ v, ys2[p2]? = some v := ⟨ys2[p2]'(by have := HYL2.out; omega), List.getElem?_eq_getElem _⟩
 have Hyd := Lib.hid (show ys2.getD (p2) 0 = y by simp [List.getD, hy])
 have Hy := Lib.hid hy
 clear hy
 refine wp_seq_k (fun K11 hK11 => ?_)
 refine wp_seq_k (fun K12 hK12 => ?_)
 refine Fact.region ?_
 have b29 := hf.l 29 rfl
 refine Fact.p rfl fun K hK => ?_
 go_simp
 refine hK.out _ _ ?_; clear hK K
 refine Fact.p rfl fun K hK => ?_
 go_simp
 refine hK.out _ _ ?_; clear hK K
 refine Fact.nil ?_
 refine Fact.q hf (by simp only [Fact.G]) rfl fun fr1 hf1 hT => ?_
 have hKp : _ ∧ _ ∧ _ ∧ _ ∧ _ ∧ _ := ⟨hT 0, hT 6, hT 7, hT 10, hT 29, hT 30⟩
 simp only [Fact.G, Nat.reduceEqDiff, Nat.reduceLT, hf.size, reduceIte, s0, s6, s7, s10] at hKp
 clear hT hf s0 s6 s7 s10 b29
 obtain ⟨s0, s6, s7, s10, s29, s30⟩ := hKp
 have hf := hf1; clear hf1
 refine Fact.nx (hK12 _ _ ?_)
 refine Fact.cond_t s30 ?_
 have cx := ha2.cell Hx.out; have cy := ha2.cell Hy.out; have hfr := fun k => ha2.frozen k
 have A1 := Lib.hid (ha2.drew.set_ (a) y)
 have A0 := Lib.hid (ha2.set_ (a) y)
 have C1 := A0.out.cell (i := p2) (x := y) (set_get Hy.out)
 have F1 := A0.out.frozen (p2)
 have A2 := Lib.hid (A1.out.set_ (p2) x)
 have O2 := Lib.hid ((ho2.drew.set_ (p := ⟨g, a, none⟩) (.inl rfl) (.int .u8 y)).set_ (p := ⟨g, p2, none⟩) (.inl rfl) (.int .u8 x))
 clear ho2 ha2
 refine wp_skip ?_
 refine Fact.nx (hK11 _ _ ?_)
 refine wp_seq_k (fun K13 hK13 => ?_)
 refine wp_block ?_
 refine wp_seq_k (fun K14 hK14 => ?_)
 refine Stage.begin_ (n := 56) [17, 19] (fun k w1 => w1 = [wr2.drew, (wr2.drew.setCell ⟨g, a, none⟩ (.int .u8 y)), ((wr2.drew.setCell ⟨g, a, none⟩ (.int .u8 y)).setCell ⟨g, p2, none⟩ (.int .u8 x))].getD k (wr2.drew)) (Stab.OkOps.of (by kernel_rfl)) (fun hok => ?_)
 refine Stage.mvO (k := 0) s0 hf.size hok.out rfl rfl rfl (.inl rfl) (by kernel_rfl) (by kernel_rfl) ?_
 refine Stage.mvO (k := 1) s6 hf.size hok.out rfl rfl rfl (.inl rfl) (by kernel_rfl) (by kernel_rfl) ?_
 refine Stage.mvO (k := 2) s0 hf.size hok.out rfl rfl rfl (.inl rfl) (by kernel_rfl) (by kernel_rfl) ?_
 refine Stage.mvO (k := 3) s6 hf.size hok.out rfl rfl rfl (.inl rfl) (by kernel_rfl) (by kernel_rfl) ?_
 refine Stage.mvO (k := 4) s10 hf.size hok.out rfl rfl rfl (.inl rfl) (by kernel_rfl) (by kernel_rfl) ?_
 apply Stage.t 5 _ hf.size hok.out rfl (by kernel_rfl)
 · (
 intro fr1 w1 hh hd hk K hK
 refine Stab.op_plain (o := _) rfl rfl ?_
 have s36 := Stage.u 3 1 hd hk rfl [] (by kernel_rfl) rfl rfl rfl
 have s37 := Stage.u 4 0 hd hk rfl [] (by kernel_rfl) rfl rfl rfl
 clear hd
 go_simp
 exact hK.out _ rfl _ rfl)
 refine Stage.mvO (k := 6) s0 hf.size hok.out rfl rfl rfl (.inl rfl) (by kernel_rfl) (by kernel_rfl) ?_
 refine Stage.mvO (k := 7) s6 hf.size hok.out rfl rfl rfl (.inl rfl) (by kernel_rfl) (by kernel_rfl) ?_
 refine Stage.mvO (k := 8) s10 hf.size hok.out rfl rfl rfl (.inl rfl) (by kernel_rfl) (by kernel_rfl) ?_
 apply Stage.t 9 _ hf.size hok.out rfl (by kernel_rfl)
 · (
 intro fr1 w1 hh hd hk K hK
 refine Stab.op_plain (o := _) rfl rfl ?_
 have s40 := Stage.u 7 1 hd hk rfl [] (by kernel_rfl) rfl rfl rfl
 have s41 := Stage.u 8 0 hd hk rfl [] (by kernel_rfl) rfl rfl rfl
 clear hd
 go_simp
 exact hK.out _ rfl _ rfl)
 apply Stage.t 10 _ hf.size hok.out rfl (by kernel_rfl)
 · (
 intro fr1 w1 hh hd hk K hK
 refine Stab.op_plain (o := _) rfl rfl ?_
 have s39 := Stage.u 6 3 hd hk rfl [] (by kernel_rfl) rfl rfl rfl
 have s42 := Stage.u 9 0 hd hk rfl [] (by kernel_rfl) rfl rfl rfl
 clear hd
 go_simp
 exact hK.out _ rfl _ rfl)
 apply Stage.todo_look (k := 11) (n := 56) 0 [] [] _ hf.size hok.out rfl (by kernel_rfl)
 · (
 intro fr1 w1 hh hw hd hk K hK
 replace hw : w1 = wr2.drew := hw
 subst hw
 refine Stab.op_plain (o := _) rfl rfl ?_
 have s43 := Stage.u 10 0 hd hk rfl [] (by kernel_rfl) rfl rfl rfl
 clear hd
 go_simp
 exact hK.out _ rfl _ _ rfl rfl)
 refine Stage.mvO (k := 12) s0 hf.size hok.out rfl rfl rfl (.inl rfl) (by kernel_rfl) (by kernel_rfl) ?_
 refine Stage.mvO (k := 13) s6 hf.size hok.out rfl rfl rfl (.inl rfl) (by kernel_rfl) (by kernel_rfl) ?_
 apply Stage.t 14 _ hf.size hok.out rfl (by kernel_rfl)
 · (
 intro fr1 w1 hh hd hk K hK
 refine Stab.op_plain (o := _) rfl rfl ?_
 have s45 := Stage.u 12 1 hd hk rfl [] (by kernel_rfl) rfl rfl rfl
 have s46 := Stage.u 13 0 hd hk rfl [] (by kernel_rfl) rfl rfl rfl
 clear hd
 go_simp
 exact hK.out _ rfl _ rfl)
 apply Stage.todo_look (k := 15) (n := 56) 0 [] [] _ hf.size hok.out rfl (by kernel_rfl)
 · (
 intro fr1 w1 hh hw hd hk K hK
 replace hw : w1 = wr2.drew := hw
 subst hw
 refine Stab.op_plain (o := _) rfl rfl ?_
 have s47 := Stage.u 14 0 hd hk rfl [] (by kernel_rfl) rfl rfl rfl
 clear hd
 go_simp
 exact hK.out _ rfl _ _ rfl rfl)
 apply Stage.t 16 _ hf.size hok.out rfl (by kernel_rfl)
 · (
 intro fr1 w1 hh hd hk K hK
 refine Stab.op_plain (o := _) rfl rfl ?_
 have s33 := Stage.u 0 15 hd hk rfl [] (by kernel_rfl) rfl rfl rfl
 have s34 := Stage.u 1 14 hd hk rfl [] (by kernel_rfl) rfl rfl rfl
 clear hd
 go_simp
 exact hK.out _ rfl _ rfl)
 refine Stage.todo_lead (k := 17) (n := 56) 0 [] (fun _ => True) hf.size hok.out rfl (by kernel_rfl) ?_ ?_
 · (
 intro fr1 w1 hh hw hd hk K hK
 replace hw : w1 = wr2.drew := hw
 subst hw
 refine Stab.op_plain (o := _) rfl rfl ?_
 have s49 := Stage.u 16 0 hd hk rfl [] (by kernel_rfl) rfl rfl rfl
 have s44 := Stage.u 11 5 hd hk rfl [] (by kernel_rfl) rfl rfl rfl
 clear hd
 go_simp
 exact hK.out _ rfl undef _ rfl trivial)
 apply Stage.t 18 _ hf.size hok.out rfl (by kernel_rfl)
 · (
 intro fr1 w1 hh hd hk K hK
 refine Stab.op_plain (o := _) rfl rfl ?_
 have s35 := Stage.u 2 15 hd hk rfl [] (by kernel_rfl) rfl rfl rfl
 have s38 := Stage.u 5 12 hd hk rfl [] (by kernel_rfl) rfl rfl rfl
 clear hd
 go_simp
 exact hK.out _ rfl _ rfl)
 refine Stage.todo_lead (k := 19) (n := 56) 1 [] (fun _ => True) hf.size hok.out rfl (by kernel_rfl) ?_ ?_
 · (
 intro fr1 w1 hh hw hd hk K hK
 replace hw : w1 = (wr2.drew.setCell ⟨g, a, none⟩ (.int .u8 y)) := hw
 subst hw
 refine Stab.op_plain (o := _) rfl rfl ?_
 have s50 := Stage.u 18 0 hd hk rfl [] (by kernel_rfl) rfl rfl rfl
 have s48 := Stage.u 15 3 hd hk rfl [] (by kernel_rfl) rfl rfl rfl
 clear hd
 go_simp
 exact hK.out _ rfl undef _ rfl trivial)
 refine Stage.todo_facts (n := 56) (by kernel_rfl) hf.size hok.out rfl (by decide) (by decide) rfl (fun fr1 w1 hh hg hw => ?_)
 replace hw : w1 = ((wr2.drew.setCell ⟨g, a, none⟩ (.int .u8 y)).setCell ⟨g, p2, none⟩ (.int .u8 x)) := hw
 subst hw
 replace s0 := Stage.o hh (by kernel_rfl) s0
 replace s6 := Stage.o hh (by kernel_rfl) s6
 replace s7 := Stage.o hh (by kernel_rfl) s7
 replace s10 := Stage.o hh (by kernel_rfl) s10
 replace s29 := Stage.o hh (by kernel_rfl) s29
 replace s30 := Stage.o hh (by kernel_rfl) s30
 have s33 := Stage.e 0 19 hg rfl rfl rfl rfl
 have s34 := Stage.e 1 18 hg rfl rfl rfl rfl
 have s35 := Stage.e 2 17 hg rfl rfl rfl rfl
 have s36 := Stage.e 3 16 hg rfl rfl rfl rfl
 have s37 := Stage.e 4 15 hg rfl rfl rfl rfl
 have s38 := Stage.e 5 14 hg rfl rfl rfl rfl
 have s39 := Stage.e 6 13 hg rfl rfl rfl rfl
 have s40 := Stage.e 7 12 hg rfl rfl rfl rfl
 have s41 := Stage.e 8 11 hg rfl rfl rfl rfl
 have s42 := Stage.e 9 10 hg rfl rfl rfl rfl
 have s43 := Stage.e 10 9 hg rfl rfl rfl rfl
 have s44 := Stage.e 11 8 hg rfl rfl rfl rfl
 have s45 := Stage.e 12 7 hg rfl rfl rfl rfl
 have s46 := Stage.e 13 6 hg rfl rfl rfl rfl
 have s47 := Stage.e 14 5 hg rfl rfl rfl rfl
 have s48 := Stage.e 15 4 hg rfl rfl rfl rfl
 have s49 := Stage.e 16 3 hg rfl rfl rfl rfl
 have s50 := Stage.e 18 1 hg rfl rfl rfl rfl
 have hf1 : Fact.Fr 56 fr1 := ⟨hh.size.trans hf.size, hh.defers.trans hf.defers⟩
 clear hg hh hf
 have hf := hf1; clear hf1
 clear hok
 have ha3 := A2.out; rw [show (ys2.set a y).set p2 x = swap ys2 a p2 by unfold swap; rw [Hxd.out, Hyd.out]] at ha3
 have ho3 := O2.out
 clear A0 A1 A2 O2 C1 F1 cx cy hfr
 generalize ((wr2.drew.setCell ⟨g, a, none⟩ (.int .u8 y)).setCell ⟨g, p2, none⟩ (.int .u8 x)) = wd at *
 refine Fact.nx (hK14 _ _ ?_)
 refine Fact.region ?_
 have b51 := hf.l 51 rfl
 have b52 := hf.l 52 rfl
 have b53 := hf.l 53 rfl
 have b54 := hf.l 54 rfl
 refine Fact.p rfl fun K hK => ?_
 go_simp
 refine hK.out _ _ ?_; clear hK K
 refine Fact.p rfl fun K hK => ?_
 go_simp
 refine hK.out _ _ ?_; clear hK K
 refine Fact.p rfl fun K hK => ?_
 go_simp
 refine hK.out _ _ ?_; clear hK K
 refine Fact.p rfl fun K hK => ?_
 go_simp
 refine hK.out _ _ ?_; clear hK K
 refine Fact.p rfl fun K hK => ?_
 go_simp
 go_at_call 92; refine (sift_any (swap ys2 a p2) g n c 0 q a wd (by rw [swap_length]; have := HYL2.out; omega) hnl (by omega) (by have := HHI.out; omega) (by rw [HP2.out]; exact hpp.pre (by omega) (by have := HYL2.out; have := HHI.out; omega)) ha3).mono ?_; rintro e w4 ⟨rfl, ys4, hsg4, hh4, ha4, ho4⟩
 dsimp only
 refine hK.out _ _ ?_; clear hK K
 refine Fact.nil ?_
 refine Fact.q hf (by simp only [Fact.G]) rfl fun fr1 hf1 hT => ?_
 have hKp : _ ∧ _ ∧ _ ∧ _ ∧ _ ∧ _ ∧ _ ∧ _ ∧ _ ∧ _ ∧ _ ∧ _ ∧ _ ∧ _ ∧ _ ∧ _ ∧ _ ∧ _ ∧ _ ∧ _ ∧ _ ∧ _ ∧ _ ∧ _ ∧ _ ∧ _ ∧ _ ∧ _ := ⟨hT 0, hT 6, hT 7, hT 10, hT 29, hT 30, hT 33, hT 34, hT 35, hT 36, hT 37, hT 38, hT 39, hT 40, hT 41, hT 42, hT 43, hT 44, hT 45, hT 46, hT 47, hT 48, hT 49, hT 50, hT 51, hT 52, hT 53, hT 54⟩
 simp only [Fact.G, Nat.reduceEqDiff, Nat.reduceLT, hf.size, reduceIte, s0, s6, s7, s10, s29, s30, s33, s34, s35, s36, s37, s38, s39, s40, s41, s42, s43, s44, s45, s46, s47, s48, s49, s50] at hKp
 clear hT hf s0 s6 s7 s10 s29 s30 s33 s34 s35 s36 s37 s38 s39 s40 s41 s42 s43 s44 s45 s46 s47 s48 s49 s50 b51 b52 b53 b54
 obtain ⟨s0, s6, s7, s10, s29, s30, s33, s34, s35, s36, s37, s38, s39, s40, s41, s42, s43, s44, s45, s46, s47, s48, s49, s50, s51, s52, s53, s54⟩ := hKp
 have hf := hf1; clear hf1
 refine Fact.block_normal ?_
 refine Fact.nx (hK13 _ _ ?_)
 refine Fact.region ?_
 have b31 := hf.l 31 rfl
 have b32 := hf.l 32 rfl
 refine Fact.p rfl fun K hK => ?_
 go_simp
 refine hK.out _ _ ?_; clear hK K
 refine Fact.p rfl fun K hK => ?_
 go_simp
 try simp (disch := omega) only [Fact.wrap_i64, Fact.wrap_u8, Fact.wrap_u32, Fact.wrap_u64]
 refine hK.out _ _ ?_; clear hK K
 refine Fact.p rfl fun K hK => ?_
 go_simp
 refine hK.out _ _ ?_; clear hK K
 refine Fact.nil ?_
 refine Fact.q hf (by simp only [Fact.G]) rfl fun fr1 hf1 hT => ?_
 have hKp : _ ∧ _ ∧ _ ∧ _ ∧ _ ∧ _ ∧ _ ∧ _ ∧ _ ∧ _ ∧ _ ∧ _ ∧ _ ∧ _ ∧ _ ∧ _ ∧ _ ∧ _ ∧ _ ∧ _ ∧ _ ∧ _ ∧ _ ∧ _ ∧ _ ∧ _ ∧ _ ∧ _ ∧ _ ∧ _ := ⟨hT 0, hT 6, hT 7, hT 10, hT 29, hT 30, hT 31, hT 32, hT 33, hT 34, hT 35, hT 36, hT 37, hT 38, hT 39, hT 40, hT 41, hT 42, hT 43, hT 44, hT 45, hT 46, hT 47, hT 48, hT 49, hT 50, hT 51, hT 52, hT 53, hT 54⟩
 simp only [Fact.G, Nat.reduceEqDiff, Nat.reduceLT, hf.size, reduceIte, s0, s6, s7, s29, s30, s33, s34, s35, s36, s37, s38, s39, s40, s41, s42, s43, s44, s45, s46, s47, s48, s49, s50, s51, s52, s53, s54] at hKp
 clear hT hf s0 s6 s7 s10 s29 s30 s33 s34 s35 s36 s37 s38 s39 s40 s41 s42 s43 s44 s45 s46 s47 s48 s49 s50 s51 s52 s53 s54 b31 b32
 obtain ⟨s0, s6, s7, s10, s29, s30, s31, s32, s33, s34, s35, s36, s37, s38, s39, s40, s41, s42, s43, s44, s45, s46, s47, s48, s49, s50, s51, s52, s53, s54⟩ := hKp
 have hf := hf1; clear hf1
 refine Fact.then_normal ?_
 refine ⟨q, by omega, q, ys4, rfl, by omega, hf, s0, s6, s7, s10, (hsg2.swap (by omega) (by have := HHI.out; omega) (by have := HP2.out; omega) (by have := HP2.out; have := HHI.out; omega)).trans (hsg4.mono (by omega) (by have := HHI.out; omega)), ?_, ha4, ho3.trans ho4⟩
 rw [Nat.add_zero, HP2.out] at hsg4
 exact hpp.step (by omega) (by have := HYL2.out; have := HHI.out; omega) hsg4 hh4)))
 · (
 obtain ⟨q, rfl⟩ : ∃ q, gk = q + 1 := ⟨gk - 1, by omega⟩
 rw [show ((q + 1 : Nat) : Int) - 1 = (q : Int) by omega] at s9
 have hq0 : (0 : Int) ≤ (q : Int) := by omega
 have e5 : IntKind.i64.wrap ((q : Int) - 1) = (q : Int) - 1 := Fact.wrap_i64 (by omega) (by have := HHI.out; have := HI0.out; omega)
 refine wp_seq_k (fun K15 hK15 => ?_)
 refine wp_seq_k (fun K16 hK16 => ?_)
 refine Fact.region ?_
 have b18 := hf.l 18 rfl
 refine Fact.p rfl fun K hK => ?_
 go_simp
 refine hK.out _ _ ?_; clear hK K
 refine Fact.p rfl fun K hK => ?_
 go_simp
 refine hK.out _ _ ?_; clear hK K
 refine Fact.nil ?_
 refine Fact.q hf (by simp only [Fact.G]) rfl fun fr1 hf1 hT => ?_
 have hKp : _ ∧ _ ∧ _ ∧ _ ∧ _ ∧ _ ∧ _ := ⟨hT 0, hT 6, hT 7, hT 8, hT 9, hT 18, hT 19⟩
 simp only [Fact.G, Nat.reduceEqDiff, Nat.reduceLT, hf.size, reduceIte, s0, s6, s7, s8, s9] at hKp
 clear hT hf s0 s6 s7 s8 s9 b18
 obtain ⟨s0, s6, s7, s8, s9, s18, s19⟩ := hKp
 have hf := hf1; clear hf1
 refine Fact.nx (hK16 _ _ ?_)
 refine Fact.cond_t s19 ?_
 refine wp_skip ?_
 refine Fact.nx (hK15 _ _ ?_)
 refine wp_seq_k (fun K17 hK17 => ?_)
 refine wp_block ?_
 refine Fact.region ?_
 have b22 := hf.l 22 rfl
 have b23 := hf.l 23 rfl
 have b24 := hf.l 24 rfl
 have b25 := hf.l 25 rfl
 refine Fact.p rfl fun K hK => ?_
 go_simp
 refine hK.out _ _ ?_; clear hK K
 refine Fact.p rfl fun K hK => ?_
 go_simp
 refine hK.out _ _ ?_; clear hK K
 refine Fact.p rfl fun K hK => ?_
 go_simp
 refine hK.out _ _ ?_; clear hK K
 refine Fact.p rfl fun K hK => ?_
 go_simp
 refine hK.out _ _ ?_; clear hK K
 refine Fact.p rfl fun K hK => ?_
 go_simp
 go_at_call 92; refine (sift_any ys g n c q hi a wr (by have := HYL.out; omega) hnl (by have := HI0.out; have := HHI.out; omega) (by have := HHI.out; omega) hhp ha).mono ?_; rintro e w3 ⟨rfl, ys3, hsg3, hh3, ha3, ho3⟩
 dsimp only
 refine hK.out _ _ ?_; clear hK K
 refine Fact.nil ?_
 refine Fact.q hf (by simp only [Fact.G]) rfl fun fr1 hf1 hT => ?_
 have hKp : _ ∧ _ ∧ _ ∧ _ ∧ _ ∧ _ ∧ _ ∧ _ ∧ _ ∧ _ ∧ _ := ⟨hT 0, hT 6, hT 7, hT 8, hT 9, hT 18, hT 19, hT 22, hT 23, hT 24, hT 25⟩
 simp only [Fact.G, Nat.reduceEqDiff, Nat.reduceLT, hf.size, reduceIte, s0, s6, s7, s8, s9, s18, s19] at hKp
 clear hT hf s0 s6 s7 s8 s9 s18 s19 b22 b23 b24 b25
 obtain ⟨s0, s6, s7, s8, s9, s18, s19, s22, s23, s24, s25⟩ := hKp
 have hf := hf1; clear hf1
 refine Fact.block_normal ?_
 refine Fact.nx (hK17 _ _ ?_)
 refine Fact.region ?_
 have b20 := hf.l 20 rfl
 have b21 := hf.l 21 rfl
 refine Fact.p rfl fun K hK => ?_
 go_simp
 refine hK.out _ _ ?_; clear hK K
 refine Fact.p rfl fun K hK => ?_
 go_simp
 try simp (disch := omega) only [Fact.wrap_i64, Fact.wrap_u8, Fact.wrap_u32, Fact.wrap_u64]
 refine hK.out _ _ ?_; clear hK K
 refine Fact.p rfl fun K hK => ?_
 go_simp
 refine hK.out _ _ ?_; clear hK K
 refine Fact.nil ?_
 refine Fact.q hf (by simp only [Fact.G]) rfl fun fr1 hf1 hT => ?_
 have hKp : _ ∧ _ ∧ _ ∧ _ ∧ _ ∧ _ ∧ _ ∧ _ ∧ _ ∧ _ ∧ _ ∧ _ ∧ _ := ⟨hT 0, hT 6, hT 7, hT 8, hT 9, hT 18, hT 19, hT 20, hT 21, hT 22, hT 23, hT 24, hT 25⟩
 simp only [Fact.G, Nat.reduceEqDiff, Nat.reduceLT, hf.size, reduceIte, s0, s6, s7, s8, s18, s19, s22, s23, s24, s25] at hKp
 clear hT hf s0 s6 s7 s8 s9 s18 s19 s22 s23 s24 s25 b20 b21
 obtain ⟨s0, s6, s7, s8, s9, s18, s19, s20, s21, s22, s23, s24, s25⟩ := hKp
 have hf := hf1; clear hf1
 refine Fact.then_normal ?_
 exact ⟨q, by omega, q, ys3, rfl, by omega, hf, s0, s6, s7, s8, s9, hsg.trans (hsg3.mono (by omega) (by have := HHI.out; omega)), hh3, ha3, ho.trans ho3⟩))
end Sb
end Go.Proofs.Ytfgfichkcckhiaa
