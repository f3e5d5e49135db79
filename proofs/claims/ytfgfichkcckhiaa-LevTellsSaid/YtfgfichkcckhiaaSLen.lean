/- bits.Len, nextPowerOfTwo, xorshift.Next: within bounds. -/
import Derived.Test.YtfgfichkcckhiaaSMed
import Derived.Test.YtfgfichkcckhiaaShelf
import Derived.Sort.Walk7a
import Derived.Sort.WalkA14
import Derived.Laws.Bits64b
namespace Go.Proofs.Ytfgfichkcckhiaa
open Go.RowKit
set_option linter.unusedSimpArgs false
set_option linter.unusedVariables false
set_option linter.unnecessarySimpa false
namespace Sb
theorem len_any (n : Nat) (hn : n < 4611686018427387904) (w : World) : Calls Try.prog 71 #[.int .u64 n] w fun e w1 => ∃ k : Nat, e = .returned (.int .i64 k) ∧ k ≤ 62 ∧ k = Go.Sort.bitsLen n ∧ w = w1 := by
  have h := Try.bits_Len (n : Int) w (by omega) (by omega)
  rw [Int.toNat_natCast, bitLen_eq _ (by omega)] at h
  exact h.mono fun e w1 ⟨he, hw⟩ => ⟨_, he, (Go.Sort.bitsLen_le_iff n 62).2 (by omega), rfl, hw.symm⟩
set_option maxHeartbeats 4000000 in
set_option maxRecDepth 100000 in
theorem npt_any (n : Nat) (h1 : 0 < n) (hn : n ≤ 1000000000) (w : World) : Calls Try.prog 93 #[.int .i64 n] w fun e w1 => ∃ M : Nat, e = .returned (.int .u64 M) ∧ n < M ∧ M ≤ 2 * n ∧ w = w1 := by
 refine calls_of_wp Try.func93 rfl ?_
 refine Fact.enter (n := 7) (by kernel_rfl) (fun fr hf hT => ?_)
 have s0 := hT 0 _ rfl
 clear hT
 have e1 : IntKind.u64.wrap (n : Int) = (n : Int) := Fact.wrap_u64 (by omega) (by omega)
 refine wp_seq_k (fun K1 hK1 => ?_)
 refine Fact.region ?_
 refine Fact.p rfl fun K hK => ?_
 go_simp
 refine hK.out _ _ ?_; clear hK K
 refine Fact.nil ?_
 refine Fact.q hf (by simp only [Fact.G]) rfl fun fr1 hf1 hT => ?_
 have hKp : _ ∧ _ := ⟨hT 0, hT 2⟩
 simp only [Fact.G, Nat.reduceEqDiff, Nat.reduceLT, hf.size, reduceIte, s0] at hKp
 clear hT hf s0
 obtain ⟨s0, s2⟩ := hKp
 have hf := hf1; clear hf1
 refine Fact.nx (hK1 _ _ ?_)
 refine wp_seq_k (fun K2 hK2 => ?_)
 refine Fact.region ?_
 have b3 := hf.l 3 rfl
 have b4 := hf.l 4 rfl
 have b5 := hf.l 5 rfl
 have b6 := hf.l 6 rfl
 refine Fact.p rfl fun K hK => ?_
 go_simp
 refine hK.out _ _ ?_; clear hK K
 refine Fact.p rfl fun K hK => ?_
 go_simp
 refine hK.out _ _ ?_; clear hK K
 refine Fact.p rfl fun K hK => ?_
 go_simp
 go_at_call 71; refine (len_any n (by omega) w).mono ?_; rintro e w1 ⟨k, rfl, hk62, hk, rfl⟩
 have hw := wrap_two_pow k hk62
 obtain ⟨M, hM⟩ : ∃ M : Nat, M = 1 <<< k := ⟨_, rfl⟩
 rw [← hM] at hw
 have hk0 : (0 : Int) ≤ (k : Int) := by omega
 have HM := Lib.hid hM; have HK := Lib.hid hk; clear hM hk
 dsimp only
 refine hK.out _ _ ?_; clear hK K
 refine Fact.p rfl fun K hK => ?_
 go_simp
 try simp only [hw]
 refine hK.out _ _ ?_; clear hK K
 refine Fact.p rfl fun K hK => ?_
 go_simp
 refine hK.out _ _ ?_; clear hK K
 refine Fact.nil ?_
 refine Fact.q hf (by simp only [Fact.G]) rfl fun fr1 hf1 hT => ?_
 have hKp := hT 2
 simp only [Fact.G, Nat.reduceEqDiff, Nat.reduceLT, hf.size, reduceIte] at hKp
 clear hT hf s0 s2 b3 b4 b5 b6
 have s2 := hKp; clear hKp
 have hf := hf1; clear hf1
 refine Fact.nx (hK2 _ _ ?_)
 refine wp_ret ?_
 refine Fact.ret1 rfl hf s2 ⟨M, rfl, ?_, ?_, rfl⟩
 · (
 rw [HM.out, Nat.one_shiftLeft, HK.out]; exact Go.Sort.lt_two_pow_bitsLen n)
 · (
 rw [HM.out, Nat.one_shiftLeft, HK.out]; exact Go.Sort.two_pow_bitsLen_le h1)
/-- a cell of its own that is drawn from -/
def Rnd (w : World) (s : Nat) : Prop := ∃ (t : TypeId) (X : Nat), X < 18446744073709551616 ∧ w.heap[s]? = some (.cells #[Value.int .u64 X] t (0, 0))
theorem wrap_u64_nat (x : Nat) : IntKind.u64.wrap (x : Int) = ((x % 18446744073709551616 : Nat) : Int) := by rw [IntKind.wrap_u64]; omega
set_option maxHeartbeats 4000000 in
set_option maxRecDepth 100000 in
theorem next_any (s : Nat) (w : World) (h : Rnd w s) : Calls Try.prog 94 #[.pointer (some ⟨s, 0, none⟩)] w fun e w1 => ∃ X : Nat, e = .returned (.int .u64 X) ∧ X < 18446744073709551616 ∧ Rnd w1 s ∧ Only w w1 s := by
 refine calls_of_wp Try.func94 rfl ?_
 refine Fact.enter (n := 33) (by kernel_rfl) (fun fr hf hT => ?_)
 have s0 := hT 0 _ rfl
 clear hT
 obtain ⟨t, X, hX, hv⟩ := h
 have ho := Only.refl w s
 obtain ⟨Y1, hY1⟩ : ∃ m : Nat, m = X ^^^ (X * 8192 % 18446744073709551616) := ⟨_, rfl⟩
 have lY1 : Y1 < 18446744073709551616 := by rw [hY1]; exact Nat.xor_lt_two_pow (n := 64) (by omega) (by omega)
 have x1 : bits .xor .u64 (X : Int) (IntKind.u64.wrap ((X : Int) * 8192)) = (Y1 : Int) := by rw [IntKind.wrap_u64, show ((X : Int) * 8192 % 18446744073709551616) = ((X * 8192 % 18446744073709551616 : Nat) : Int) by omega, bits_xor_u64_nat _ _ (by omega) (by omega), hY1]
 clear hY1
 have cx := cell_of_row w s 0 _ _ _ hv; simp only [List.getElem?_toArray, List.getElem?_cons_zero] at cx
 have fx : w.frozen? ⟨s, 0, none⟩ = false := by simp [World.frozen?, hv]
 refine wp_seq_k (fun K1 hK1 => ?_)
 refine Fact.region ?_
 refine Fact.p rfl fun K hK => ?_
 go_simp
 refine hK.out _ _ ?_; clear hK K
 refine Fact.nil ?_
 refine Fact.q hf (by simp only [Fact.G]) rfl fun fr1 hf1 hT => ?_
 have hKp : _ ∧ _ := ⟨hT 0, hT 2⟩
 simp only [Fact.G, Nat.reduceEqDiff, Nat.reduceLT, hf.size, reduceIte, s0] at hKp
 clear hT hf s0
 obtain ⟨s0, s2⟩ := hKp
 have hf := hf1; clear hf1
 refine Fact.nx (hK1 _ _ ?_)
 refine wp_seq_k (fun K2 hK2 => ?_)
 refine Stage.begin_ (n := 33) [9] (fun k w1 => w1 = [w.drew, (w.drew.setCell ⟨s, 0, none⟩ (.int .u64 Y1))].getD k (w.drew)) (Stab.OkOps.of (by kernel_rfl)) (fun hok => ?_)
 refine Stage.mvO (k := 0) s0 hf.size hok.out rfl rfl rfl (.inl rfl) (by kernel_rfl) (by kernel_rfl) ?_
 apply Stage.t 1 _ hf.size hok.out rfl (by kernel_rfl)
 · (
 intro fr1 w1 hh hd hk K hK
 refine Stab.op_plain (o := _) rfl rfl ?_
 have s3 := Stage.u 0 0 hd hk rfl [] (by kernel_rfl) rfl rfl rfl
 clear hd
 go_simp
 exact hK.out _ rfl _ rfl)
 apply Stage.todo_look (k := 2) (n := 33) 0 [] [] _ hf.size hok.out rfl (by kernel_rfl)
 · (
 intro fr1 w1 hh hw hd hk K hK
 replace hw : w1 = w.drew := hw
 subst hw
 refine Stab.op_plain (o := _) rfl rfl ?_
 have s4 := Stage.u 1 0 hd hk rfl [] (by kernel_rfl) rfl rfl rfl
 clear hd
 go_simp
 exact hK.out _ rfl _ _ rfl rfl)
 refine Stage.mvO (k := 3) s0 hf.size hok.out rfl rfl rfl (.inl rfl) (by kernel_rfl) (by kernel_rfl) ?_
 apply Stage.t 4 _ hf.size hok.out rfl (by kernel_rfl)
 · (
 intro fr1 w1 hh hd hk K hK
 refine Stab.op_plain (o := _) rfl rfl ?_
 have s6 := Stage.u 3 0 hd hk rfl [] (by kernel_rfl) rfl rfl rfl
 clear hd
 go_simp
 exact hK.out _ rfl _ rfl)
 apply Stage.todo_look (k := 5) (n := 33) 0 [] [] _ hf.size hok.out rfl (by kernel_rfl)
 · (
 intro fr1 w1 hh hw hd hk K hK
 replace hw : w1 = w.drew := hw
 subst hw
 refine Stab.op_plain (o := _) rfl rfl ?_
 have s7 := Stage.u 4 0 hd hk rfl [] (by kernel_rfl) rfl rfl rfl
 clear hd
 go_simp
 exact hK.out _ rfl _ _ rfl rfl)
 apply Stage.t 6 _ hf.size hok.out rfl (by kernel_rfl)
 · (
 intro fr1 w1 hh hd hk K hK
 refine Stab.op_plain (o := _) rfl rfl ?_
 have s8 := Stage.u 5 0 hd hk rfl [] (by kernel_rfl) rfl rfl rfl
 clear hd
 go_simp
 exact hK.out _ rfl _ rfl)
 apply Stage.t 7 _ hf.size hok.out rfl (by kernel_rfl)
 · (
 intro fr1 w1 hh hd hk K hK
 refine Stab.op_plain (o := _) rfl rfl ?_
 have s5 := Stage.u 2 4 hd hk rfl [] (by kernel_rfl) rfl rfl rfl
 have s9 := Stage.u 6 0 hd hk rfl [] (by kernel_rfl) rfl rfl rfl
 clear hd
 go_simp
 exact hK.out _ rfl _ rfl)
 apply Stage.t 8 _ hf.size hok.out rfl (by kernel_rfl)
 · (
 intro fr1 w1 hh hd hk K hK
 refine Stab.op_plain (o := _) rfl rfl ?_
 have s3 := Stage.u 0 7 hd hk rfl [] (by kernel_rfl) rfl rfl rfl
 clear hd
 go_simp
 exact hK.out _ rfl _ rfl)
 refine Stage.todo_lead (k := 9) (n := 33) 0 [] (fun _ => True) hf.size hok.out rfl (by kernel_rfl) ?_ ?_
 · (
 intro fr1 w1 hh hw hd hk K hK
 replace hw : w1 = w.drew := hw
 subst hw
 refine Stab.op_plain (o := _) rfl rfl ?_
 have s11 := Stage.u 8 0 hd hk rfl [] (by kernel_rfl) rfl rfl rfl
 have s10 := Stage.u 7 1 hd hk rfl [] (by kernel_rfl) rfl rfl rfl
 clear hd
 go_simp
 exact hK.out _ rfl undef _ rfl trivial)
 refine Stage.todo_facts (n := 33) (by kernel_rfl) hf.size hok.out rfl (by decide) (by decide) rfl (fun fr1 w1 hh hg hw => ?_)
 replace hw : w1 = (w.drew.setCell ⟨s, 0, none⟩ (.int .u64 Y1)) := hw
 subst hw
 replace s0 := Stage.o hh (by kernel_rfl) s0
 replace s2 := Stage.o hh (by kernel_rfl) s2
 have hf1 : Fact.Fr 33 fr1 := ⟨hh.size.trans hf.size, hh.defers.trans hf.defers⟩
 clear hg hh hf
 have hf := hf1; clear hf1
 clear hok
 have hv := set_cell1 (w := w.drew) (u := .int .u64 Y1) hv
 have ho := ho.drew.set_ (p := ⟨s, 0, none⟩) (.inl rfl) (.int .u64 Y1)
 clear cx fx x1
 generalize (w.drew.setCell ⟨s, 0, none⟩ (.int .u64 Y1)) = w10 at *
 refine Fact.nx (hK2 _ _ ?_)
 obtain ⟨Y2, hY2⟩ : ∃ m : Nat, m = Y1 ^^^ (Y1 / 128) := ⟨_, rfl⟩
 have lY2 : Y2 < 18446744073709551616 := by rw [hY2]; exact Nat.xor_lt_two_pow (n := 64) (by omega) (by omega)
 have x2 : bits .xor .u64 (Y1 : Int) ((Y1 : Int) / 128) = (Y2 : Int) := by rw [show ((Y1 : Int) / 128) = ((Y1 / 128 : Nat) : Int) by omega, bits_xor_u64_nat _ _ (by omega) (by omega), hY2]
 clear hY2
 have cx := cell_of_row w10 s 0 _ _ _ hv; simp only [List.getElem?_toArray, List.getElem?_cons_zero] at cx
 have fx : w10.frozen? ⟨s, 0, none⟩ = false := by simp [World.frozen?, hv]
 refine wp_seq_k (fun K3 hK3 => ?_)
 refine Stage.begin_ (n := 33) [9] (fun k w1 => w1 = [w10.drew, (w10.drew.setCell ⟨s, 0, none⟩ (.int .u64 Y2))].getD k (w10.drew)) (Stab.OkOps.of (by kernel_rfl)) (fun hok => ?_)
 refine Stage.mvO (k := 0) s0 hf.size hok.out rfl rfl rfl (.inl rfl) (by kernel_rfl) (by kernel_rfl) ?_
 apply Stage.t 1 _ hf.size hok.out rfl (by kernel_rfl)
 · (
 intro fr1 w1 hh hd hk K hK
 refine Stab.op_plain (o := _) rfl rfl ?_
 have s12 := Stage.u 0 0 hd hk rfl [] (by kernel_rfl) rfl rfl rfl
 clear hd
 go_simp
 exact hK.out _ rfl _ rfl)
 apply Stage.todo_look (k := 2) (n := 33) 0 [] [] _ hf.size hok.out rfl (by kernel_rfl)
 · (
 intro fr1 w1 hh hw hd hk K hK
 replace hw : w1 = w10.drew := hw
 subst hw
 refine Stab.op_plain (o := _) rfl rfl ?_
 have s13 := Stage.u 1 0 hd hk rfl [] (by kernel_rfl) rfl rfl rfl
 clear hd
 go_simp
 exact hK.out _ rfl _ _ rfl rfl)
 refine Stage.mvO (k := 3) s0 hf.size hok.out rfl rfl rfl (.inl rfl) (by kernel_rfl) (by kernel_rfl) ?_
 apply Stage.t 4 _ hf.size hok.out rfl (by kernel_rfl)
 · (
 intro fr1 w1 hh hd hk K hK
 refine Stab.op_plain (o := _) rfl rfl ?_
 have s15 := Stage.u 3 0 hd hk rfl [] (by kernel_rfl) rfl rfl rfl
 clear hd
 go_simp
 exact hK.out _ rfl _ rfl)
 apply Stage.todo_look (k := 5) (n := 33) 0 [] [] _ hf.size hok.out rfl (by kernel_rfl)
 · (
 intro fr1 w1 hh hw hd hk K hK
 replace hw : w1 = w10.drew := hw
 subst hw
 refine Stab.op_plain (o := _) rfl rfl ?_
 have s16 := Stage.u 4 0 hd hk rfl [] (by kernel_rfl) rfl rfl rfl
 clear hd
 go_simp
 exact hK.out _ rfl _ _ rfl rfl)
 apply Stage.t 6 _ hf.size hok.out rfl (by kernel_rfl)
 · (
 intro fr1 w1 hh hd hk K hK
 refine Stab.op_plain (o := _) rfl rfl ?_
 have s17 := Stage.u 5 0 hd hk rfl [] (by kernel_rfl) rfl rfl rfl
 clear hd
 go_simp
 exact hK.out _ rfl _ rfl)
 apply Stage.t 7 _ hf.size hok.out rfl (by kernel_rfl)
 · (
 intro fr1 w1 hh hd hk K hK
 refine Stab.op_plain (o := _) rfl rfl ?_
 have s14 := Stage.u 2 4 hd hk rfl [] (by kernel_rfl) rfl rfl rfl
 have s18 := Stage.u 6 0 hd hk rfl [] (by kernel_rfl) rfl rfl rfl
 clear hd
 go_simp
 exact hK.out _ rfl _ rfl)
 apply Stage.t 8 _ hf.size hok.out rfl (by kernel_rfl)
 · (
 intro fr1 w1 hh hd hk K hK
 refine Stab.op_plain (o := _) rfl rfl ?_
 have s12 := Stage.u 0 7 hd hk rfl [] (by kernel_rfl) rfl rfl rfl
 clear hd
 go_simp
 exact hK.out _ rfl _ rfl)
 refine Stage.todo_lead (k := 9) (n := 33) 0 [] (fun _ => True) hf.size hok.out rfl (by kernel_rfl) ?_ ?_
 · (
 intro fr1 w1 hh hw hd hk K hK
 replace hw : w1 = w10.drew := hw
 subst hw
 refine Stab.op_plain (o := _) rfl rfl ?_
 have s20 := Stage.u 8 0 hd hk rfl [] (by kernel_rfl) rfl rfl rfl
 have s19 := Stage.u 7 1 hd hk rfl [] (by kernel_rfl) rfl rfl rfl
 clear hd
 go_simp
 exact hK.out _ rfl undef _ rfl trivial)
 refine Stage.todo_facts (n := 33) (by kernel_rfl) hf.size hok.out rfl (by decide) (by decide) rfl (fun fr1 w1 hh hg hw => ?_)
 replace hw : w1 = (w10.drew.setCell ⟨s, 0, none⟩ (.int .u64 Y2)) := hw
 subst hw
 replace s0 := Stage.o hh (by kernel_rfl) s0
 replace s2 := Stage.o hh (by kernel_rfl) s2
 have hf1 : Fact.Fr 33 fr1 := ⟨hh.size.trans hf.size, hh.defers.trans hf.defers⟩
 clear hg hh hf
 have hf := hf1; clear hf1
 clear hok
 have hv := set_cell1 (w := w10.drew) (u := .int .u64 Y2) hv
 have ho := ho.drew.set_ (p := ⟨s, 0, none⟩) (.inl rfl) (.int .u64 Y2)
 clear cx fx x2
 generalize (w10.drew.setCell ⟨s, 0, none⟩ (.int .u64 Y2)) = w20 at *
 refine Fact.nx (hK3 _ _ ?_)
 obtain ⟨Y3, hY3⟩ : ∃ m : Nat, m = Y2 ^^^ (Y2 * 131072 % 18446744073709551616) := ⟨_, rfl⟩
 have lY3 : Y3 < 18446744073709551616 := by rw [hY3]; exact Nat.xor_lt_two_pow (n := 64) (by omega) (by omega)
 have x3 : bits .xor .u64 (Y2 : Int) (IntKind.u64.wrap ((Y2 : Int) * 131072)) = (Y3 : Int) := by rw [IntKind.wrap_u64, show ((Y2 : Int) * 131072 % 18446744073709551616) = ((Y2 * 131072 % 18446744073709551616 : Nat) : Int) by omega, bits_xor_u64_nat _ _ (by omega) (by omega), hY3]
 clear hY3
 have cx := cell_of_row w20 s 0 _ _ _ hv; simp only [List.getElem?_toArray, List.getElem?_cons_zero] at cx
 have fx : w20.frozen? ⟨s, 0, none⟩ = false := by simp [World.frozen?, hv]
 refine wp_seq_k (fun K4 hK4 => ?_)
 refine Stage.begin_ (n := 33) [9] (fun k w1 => w1 = [w20.drew, (w20.drew.setCell ⟨s, 0, none⟩ (.int .u64 Y3))].getD k (w20.drew)) (Stab.OkOps.of (by kernel_rfl)) (fun hok => ?_)
 refine Stage.mvO (k := 0) s0 hf.size hok.out rfl rfl rfl (.inl rfl) (by kernel_rfl) (by kernel_rfl) ?_
 apply Stage.t 1 _ hf.size hok.out rfl (by kernel_rfl)
 · (
 intro fr1 w1 hh hd hk K hK
 refine Stab.op_plain (o := _) rfl rfl ?_
 have s21 := Stage.u 0 0 hd hk rfl [] (by kernel_rfl) rfl rfl rfl
 clear hd
 go_simp
 exact hK.out _ rfl _ rfl)
 apply Stage.todo_look (k := 2) (n := 33) 0 [] [] _ hf.size hok.out rfl (by kernel_rfl)
 · (
 intro fr1 w1 hh hw hd hk K hK
 replace hw : w1 = w20.drew := hw
 subst hw
 refine Stab.op_plain (o := _) rfl rfl ?_
 have s22 := Stage.u 1 0 hd hk rfl [] (by kernel_rfl) rfl rfl rfl
 clear hd
 go_simp
 exact hK.out _ rfl _ _ rfl rfl)
 refine Stage.mvO (k := 3) s0 hf.size hok.out rfl rfl rfl (.inl rfl) (by kernel_rfl) (by kernel_rfl) ?_
 apply Stage.t 4 _ hf.size hok.out rfl (by kernel_rfl)
 · (
 intro fr1 w1 hh hd hk K hK
 refine Stab.op_plain (o := _) rfl rfl ?_
 have s24 := Stage.u 3 0 hd hk rfl [] (by kernel_rfl) rfl rfl rfl
 clear hd
 go_simp
 exact hK.out _ rfl _ rfl)
 apply Stage.todo_look (k := 5) (n := 33) 0 [] [] _ hf.size hok.out rfl (by kernel_rfl)
 · (
 intro fr1 w1 hh hw hd hk K hK
 replace hw : w1 = w20.drew := hw
 subst hw
 refine Stab.op_plain (o := _) rfl rfl ?_
 have s25 := Stage.u 4 0 hd hk rfl [] (by kernel_rfl) rfl rfl rfl
 clear hd
 go_simp
 exact hK.out _ rfl _ _ rfl rfl)
 apply Stage.t 6 _ hf.size hok.out rfl (by kernel_rfl)
 · (
 intro fr1 w1 hh hd hk K hK
 refine Stab.op_plain (o := _) rfl rfl ?_
 have s26 := Stage.u 5 0 hd hk rfl [] (by kernel_rfl) rfl rfl rfl
 clear hd
 go_simp
 exact hK.out _ rfl _ rfl)
 apply Stage.t 7 _ hf.size hok.out rfl (by kernel_rfl)
 · (
 intro fr1 w1 hh hd hk K hK
 refine Stab.op_plain (o := _) rfl rfl ?_
 have s23 := Stage.u 2 4 hd hk rfl [] (by kernel_rfl) rfl rfl rfl
 have s27 := Stage.u 6 0 hd hk rfl [] (by kernel_rfl) rfl rfl rfl
 clear hd
 go_simp
 exact hK.out _ rfl _ rfl)
 apply Stage.t 8 _ hf.size hok.out rfl (by kernel_rfl)
 · (
 intro fr1 w1 hh hd hk K hK
 refine Stab.op_plain (o := _) rfl rfl ?_
 have s21 := Stage.u 0 7 hd hk rfl [] (by kernel_rfl) rfl rfl rfl
 clear hd
 go_simp
 exact hK.out _ rfl _ rfl)
 refine Stage.todo_lead (k := 9) (n := 33) 0 [] (fun _ => True) hf.size hok.out rfl (by kernel_rfl) ?_ ?_
 · (
 intro fr1 w1 hh hw hd hk K hK
 replace hw : w1 = w20.drew := hw
 subst hw
 refine Stab.op_plain (o := _) rfl rfl ?_
 have s29 := Stage.u 8 0 hd hk rfl [] (by kernel_rfl) rfl rfl rfl
 have s28 := Stage.u 7 1 hd hk rfl [] (by kernel_rfl) rfl rfl rfl
 clear hd
 go_simp
 exact hK.out _ rfl undef _ rfl trivial)
 refine Stage.todo_facts (n := 33) (by kernel_rfl) hf.size hok.out rfl (by decide) (by decide) rfl (fun fr1 w1 hh hg hw => ?_)
 replace hw : w1 = (w20.drew.setCell ⟨s, 0, none⟩ (.int .u64 Y3)) := hw
 subst hw
 replace s0 := Stage.o hh (by kernel_rfl) s0
 replace s2 := Stage.o hh (by kernel_rfl) s2
 have hf1 : Fact.Fr 33 fr1 := ⟨hh.size.trans hf.size, hh.defers.trans hf.defers⟩
 clear hg hh hf
 have hf := hf1; clear hf1
 clear hok
 have hv := set_cell1 (w := w20.drew) (u := .int .u64 Y3) hv
 have ho := ho.drew.set_ (p := ⟨s, 0, none⟩) (.inl rfl) (.int .u64 Y3)
 clear cx fx x3
 generalize (w20.drew.setCell ⟨s, 0, none⟩ (.int .u64 Y3)) = w30 at *
 refine Fact.nx (hK4 _ _ ?_)
 have cx := cell_of_row w30 s 0 _ _ _ hv; simp only [List.getElem?_toArray, List.getElem?_cons_zero] at cx
 refine wp_seq_k (fun K5 hK5 => ?_)
 refine Fact.region ?_
 have b30 := hf.l 30 rfl
 have b31 := hf.l 31 rfl
 have b32 := hf.l 32 rfl
 refine Fact.p rfl fun K hK => ?_
 go_simp
 refine hK.out _ _ ?_; clear hK K
 refine Fact.p rfl fun K hK => ?_
 go_simp
 refine hK.out _ _ ?_; clear hK K
 refine Fact.p rfl fun K hK => ?_
 go_simp
 refine hK.out _ _ ?_; clear hK K
 refine Fact.p rfl fun K hK => ?_
 go_simp
 refine hK.out _ _ ?_; clear hK K
 refine Fact.nil ?_
 refine Fact.q hf (by simp only [Fact.G]) rfl fun fr1 hf1 hT => ?_
 have hKp := hT 2
 simp only [Fact.G, Nat.reduceEqDiff, Nat.reduceLT, hf.size, reduceIte] at hKp
 clear hT hf s0 s2 b30 b31 b32
 have s2 := hKp; clear hKp
 have hf := hf1; clear hf1
 refine Fact.nx (hK5 _ _ ?_)
 refine wp_ret ?_
 exact Fact.ret1 rfl hf s2 ⟨Y3, rfl, by omega, ⟨t, Y3, by omega, hv⟩, ho⟩
end Sb
end Go.Proofs.Ytfgfichkcckhiaa
