/- pack: PackReads. -/
import Derived.Test.YtdkbgbdgmihlmaaDoorPReadsA
import Derived.Test.YtdkbgbdgmihlmaaDoorPBurstW
import Derived.Test.YtdkbgbdgmihlmaaDoorTools
namespace Go.Proofs.YtdkbgbdgmihlmaaDoor
open Go.RowKit
set_option linter.unusedSimpArgs false
set_option linter.unusedVariables false
set_option linter.unnecessarySimpa false
namespace Dw

theorem six_at {a b c d e f : ByteArray} {N k : Nat} (hk : k < 6) (ha : a.size ≤ N) (hb : b.size ≤ N) (hc : c.size ≤ N) (hd : d.size ≤ N) (he : e.size ≤ N) (hf : f.size ≤ N) : ∃ X, (∀ w, (Instr.index 36 (.agg #[.string a, .string b, .string c, .string d, .string e, .string f]) (.int .i64 (k : Int))).run Tryd.prog w = .ok (.string X) w) ∧ X.size ≤ N := by
  match k, hk with
  | 0, _ => exact ⟨a, fun w => by kernel_rfl, ha⟩
  | 1, _ => exact ⟨b, fun w => by kernel_rfl, hb⟩
  | 2, _ => exact ⟨c, fun w => by kernel_rfl, hc⟩
  | 3, _ => exact ⟨d, fun w => by kernel_rfl, hd⟩
  | 4, _ => exact ⟨e, fun w => by kernel_rfl, he⟩
  | 5, _ => exact ⟨f, fun w => by kernel_rfl, hf⟩
theorem put_len {n ia : Nat} {fa : List State} (h1 : ∀ s ∈ fa, okS s) (h2 : fa.length ≤ 12) (h4 : ∀ s ∈ fa, s.arcs.length ≤ 6) (hm : mayF n fa = true) (hn : n ≤ 100000) (hi : ia < 18446744073709551616) : (putR n ia fa).1.length ≤ 100000 := by
  have h := (may_out hm).2.2.2
  have h5 := statesB_len fa 0 h1 h (by omega)
  have h6 := (numB_le (n := n) (by unfold M64; omega)).2
  have h7 := (numB_le (n := fa.length) (by unfold M64; omega)).2
  have h8 := (numB_le (n := ia) hi).2
  have hp : (putR n ia fa).1 = Crc.seal' (bodyB n ia fa) := by unfold putR; rw [if_pos hm]; rfl
  rw [hp, Crc.seal_length]
  unfold bodyB
  rw [numsB_two, numsB_one]
  simp only [List.length_append, List.length_cons, List.length_nil]
  omega
set_option maxHeartbeats 4000000 in
set_option maxRecDepth 100000 in
theorem reads3 (w : World) (sva : Value) (ia : Nat) (ssa : List State) (hra : RS w sva ssa) (oka : ∀ s ∈ ssa, okR s) (hia : ia < 18446744073709551616) (S : ByteArray) (at_ ct bby : Nat) (hat : at_ < 65536) (hct : ct < 65536) (hby : bby < 256) (hE : ETy w) : Calls Tryd.prog 3 #[.string S, .agg #[sva, .int .u64 ia], .agg #[.int .u16 at_, .int .u16 ct, .int .u8 bby]] w fun e w1 => e = .returned (.bool true) ∧ Below w.heap.size w w1 := by
 refine calls_of_wp Tryd.func3 rfl ?_
 refine Fact.en 95 fun fr hf hT => ?_
 have s0 := hT 0 _ rfl
 have s1 := hT 1 _ rfl
 have s2 := hT 2 _ rfl
 clear hT
 have hw0 : 0 < w.heap.size := cell_lt0 (show w.cell? ⟨0, 0, none⟩ = _ from hE)
 obtain ⟨Aa, ca, rfl, hca⟩ := hra.form
 have OKA := Lib.hid oka; clear oka
 obtain ⟨fa, hfa⟩ : ∃ x, formedF ssa = x := ⟨_, rfl⟩
 have hka := formed_ok OKA.out
 have hma : mayF at_ (formedF ssa) = true := mayF_formed OKA.out (n := at_) (by omega)
 rw [hfa] at hka hma
 have HKA := Lib.hid hka; have HMA := Lib.hid hma; have HFA := Lib.hid hfa; clear hka hma hfa
 obtain ⟨SA, hSA⟩ : ∃ x, bl (putR at_ ia fa).1 = x := ⟨_, rfl⟩
 have hsa : SA.size ≤ 100000 := by rw [← hSA, bl_size]; exact put_len HKA.out.1 HKA.out.2.1 HKA.out.2.2.2.1 HMA.out (by omega) hia
 have HSA := Lib.hid hSA; clear hSA
 obtain ⟨bd, is, hop⟩ : ∃ b i, openR (Crc.opened (wl SA)) = (b, i) := ⟨_, _, rfl⟩
 have hbl := open_le hop
 have HOP := Lib.hid hop; clear hop
 obtain ⟨S1, hS1⟩ : ∃ x, S.extract 0 (min S.size 300) = x := ⟨_, rfl⟩
 have hs1 : S1.size ≤ 300 := by rw [← hS1, ByteArray.size_extract]; omega
 have HS1 := Lib.hid hS1; clear hS1
 refine Fact.sq fun K1 hK1 => ?_
 refine rg ?_
 refine fp fun K Z => ?_
 go_simp
 apply Z.out; clear Z K
 refine fp fun K Z => ?_
 go_simp
 apply Z.out; clear Z K
 refine fp fun K Z => ?_
 go_simp
 apply Z.out; clear Z K
 refine Fact.z hf fun fr1 hf1 hT => ?_
 have hKp : _ ∧ _ ∧ _ := ⟨hT 0, hT 4, hT 5⟩
 simp (decide := true) only [Fact.G, hf.size, reduceIte, s0] at hKp
 replace hf := hf1; clear hT hf1 s0 s1 s2
 obtain ⟨s0, s4, s5⟩ := hKp
 obtain ⟨W0, hW0⟩ : ∃ x, (w.alloc (.cells #[.slice Aa ssa.length ca, .int .u64 ia] 25)).alloc (.cells #[.int .u16 at_, .int .u16 ct, .int .u8 bby] 28) = x := ⟨_, rfl⟩
 try simp only [World.size_alloc] at s4 s5
 try rw [hW0]
 obtain ⟨hb0, hp4, hp5⟩ := two_boxesT hW0
 clear hW0
 have a0 := cell_of_row _ _ 0 _ 25 (0, 0) hp4; have a1 := cell_of_row _ _ 1 _ 25 (0, 0) hp4; have b0 := cell_of_row _ _ 0 _ 28 (0, 0) hp5; have b1 := cell_of_row _ _ 1 _ 28 (0, 0) hp5; have b2 := cell_of_row _ _ 2 _ 28 (0, 0) hp5
 simp at a0 a1 b0 b1 b2
 have hra0 := hra.later hb0
 clear hra hp4 hp5
 replace hE := cL hb0 hE
 have hbt := hb0
 refine nx (hK1 _ _ ?_)
 refine Fact.sq fun K2 hK2 => ?_
 refine rg ?_
 have b15 := hf.b 15
 have b16 := hf.b 16
 have b17 := hf.b 17
 have b18 := hf.b 18
 have b19 := hf.b 19
 refine fp fun K Z => ?_
 go_simp
 apply Z.out; clear Z K
 refine fp fun K Z => ?_
 go_simp
 apply Z.out; clear Z K
 refine fp fun K Z => ?_
 go_simp
 apply Z.out; clear Z K
 refine fp fun K Z => ?_
 go_simp
 try rw [show min (S.size : Int) 300 = ((min S.size 300 : Nat) : Int) by omega]
 apply Z.out; clear Z K
 refine fp fun K Z => ?_
 go_simp
 rw [if_pos (by omega), HS1.out]
 rw [Oper.upon_value]
 apply Z.out; clear Z K
 refine fp fun K Z => ?_
 go_simp
 apply Z.out; clear Z K
 refine Fact.z hf fun fr1 hf1 hT => ?_
 have hKp : _ ∧ _ ∧ _ := ⟨hT 0, hT 4, hT 5⟩
 simp (decide := true) only [Fact.G, hf.size, reduceIte, s4, s5] at hKp
 replace hf := hf1; clear hT hf1 s0 s4 s5 b15 b16 b17 b18 b19
 obtain ⟨s0, s4, s5⟩ := hKp
 refine nx (hK2 _ _ ?_)
 refine Fact.sq fun K3 hK3 => ?_
 refine Stab.tb 95 fun hok => ?_
 apply Stab.tq 0 _ hf hok
 · (
 intro fr1 w1 hh hd hk K Z
 have s5 := Stab.O hh s5
 clear hd
 go_simp
 exact Stab.k Z)
 apply Stab.tq 1 _ hf hok
 · (
 intro fr1 w1 hh hd hk K Z
 have s21 := Stab.v 0 0 hd hk []
 clear hd
 replace a0 := cL hh.ext a0
 replace a1 := cL hh.ext a1
 replace b0 := cL hh.ext b0
 replace b1 := cL hh.ext b1
 replace b2 := cL hh.ext b2
 replace hra0 := hra0.later hh.ext
 replace hE := cL hh.ext hE
 replace hbt := hbt.trans (hh.ext.mono hbt.size)
 go_simp
 exact Stab.k Z)
 apply Stab.tq 2 _ hf hok
 · (
 intro fr1 w1 hh hd hk K Z
 have s22 := Stab.v 1 0 hd hk []
 clear hd
 go_simp
 try rw [Fact.wrap_i64 (by omega) (by omega)]
 exact Stab.k Z)
 apply Stab.tq 3 _ hf hok
 · (
 intro fr1 w1 hh hd hk K Z
 have s4 := Stab.O hh s4
 clear hd
 replace a0 := cL hh.ext a0
 replace a1 := cL hh.ext a1
 replace b0 := cL hh.ext b0
 replace b1 := cL hh.ext b1
 replace b2 := cL hh.ext b2
 replace hra0 := hra0.later hh.ext
 replace hE := cL hh.ext hE
 replace hbt := hbt.trans (hh.ext.mono hbt.size)
 go_simp
 exact Stab.k Z)
 refine Stab.todo_op (k := 4) (n := 95) (PFst ia fa) hf.size hok.out rfl (PFst.stable _ _) ?_ ?_
 · (
 intro fr1 w1 hh hd hk K Z
 refine Stab.pl ?_
 have s24 := Stab.v 3 0 hd hk []
 clear hd
 replace a0 := cL hh.ext a0
 replace a1 := cL hh.ext a1
 replace b0 := cL hh.ext b0
 replace b1 := cL hh.ext b1
 replace b2 := cL hh.ext b2
 replace hra0 := hra0.later hh.ext
 replace hE := cL hh.ext hE
 replace hbt := hbt.trans (hh.ext.mono hbt.size)
 go_simp
 go_at_call 9; refine (formed9 w1 _ ia ssa hra0).mono ?_; rintro e w2 ⟨sv1, rfl, hr, hb⟩
 exact Z.out _ rfl _ _ hb ⟨_, rfl, by rw [← HFA.out]; exact hr⟩)
 apply Stab.tq 5 _ hf hok
 · (
 intro fr1 w1 hh hd hk K Z
 have s23 := Stab.v 2 2 hd hk []
 obtain ⟨x25, s25, hp25⟩ := Stab.use (j := 4) (m := 0) hd hk rfl [] (by kernel_rfl) rfl rfl rfl
 obtain ⟨V25, hv25, hr25⟩ := hp25
 subst hv25
 clear hd
 replace a0 := cL hh.ext a0
 replace a1 := cL hh.ext a1
 replace b0 := cL hh.ext b0
 replace b1 := cL hh.ext b1
 replace b2 := cL hh.ext b2
 replace hra0 := hra0.later hh.ext
 replace hE := cL hh.ext hE
 replace hbt := hbt.trans (hh.ext.mono hbt.size)
 go_simp
 go_at_call 8; refine (rput8 w1 at_ _ ia fa hr25 HKA.out.1 (by have := HKA.out.2.1; omega) (fun s hs => by have := HKA.out.2.2.2.1 s hs; omega) hia).mono ?_; rintro e w2 ⟨rfl, hb⟩
 rw [HSA.out, put_code HMA.out]
 exact Z.out _ rfl _ _ hb rfl)
 refine Stab.mN 6 5 0 hf hok [] ?_
 apply Stab.tq 7 _ hf hok
 · (
 intro fr1 w1 hh hd hk K Z
 have s20 := Stab.v 6 0 hd hk []
 clear hd
 go_simp
 exact Stab.k Z)
 apply Stab.tq 8 _ hf hok
 · (
 intro fr1 w1 hh hd hk K Z
 have s20 := Stab.v 6 1 hd hk []
 clear hd
 go_simp
 exact Stab.k Z)
 refine Stab.mN 9 7 1 hf hok [] ?_
 refine Stab.mN 10 8 1 hf hok [] ?_
 refine Stab.tf hf hok fun fr1 w1 hh hg => ?_
 replace s0 := Stab.O hh s0
 replace s5 := Stab.O hh s5
 have s7 := Stab.f 9 1 hg
 have hf1 := hh.fr hf
 have hx := hh.ext
 replace a0 := cL hx a0
 replace a1 := cL hx a1
 replace b0 := cL hx b0
 replace b1 := cL hx b1
 replace b2 := cL hx b2
 replace hra0 := hra0.later hx
 replace hE := cL hx hE
 replace hbt := hbt.trans (hx.mono hbt.size)
 clear hg hh hf hok s4
 have hf := hf1; clear hf1
 refine nx (hK3 _ _ ?_)
 clear a0 a1 hra0
 refine Fact.sq fun K4 hK4 => ?_
 refine rg ?_
 have b30 := hf.b 30
 have b31 := hf.b 31
 have b29 := hf.b 29
 have b32 := hf.b 32
 have b33 := hf.b 33
 refine fp fun K Z => ?_
 go_simp
 apply Z.out; clear Z K
 refine fp fun K Z => ?_
 go_simp
 go_at_call 10; refine (ropenL w1 SA (by omega) HOP.out).mono ?_; rintro e u3 ⟨rfl, hb3⟩
 replace b0 := cL hb3 b0
 replace b1 := cL hb3 b1
 replace b2 := cL hb3 b2
 replace hE := cL hb3 hE
 replace hbt := hbt.trans (hb3.mono hbt.size)
 try dsimp only
 apply Z.out; clear Z K
 refine fp fun K Z => ?_
 go_simp
 apply Z.out; clear Z K
 refine fp fun K Z => ?_
 go_simp
 apply Z.out; clear Z K
 refine fp fun K Z => ?_
 go_simp
 apply Z.out; clear Z K
 refine fp fun K Z => ?_
 go_simp
 apply Z.out; clear Z K
 refine fp fun K Z => ?_
 go_simp
 apply Z.out; clear Z K
 refine Fact.z hf fun fr1 hf1 hT => ?_
 have hKp : _ ∧ _ ∧ _ ∧ _ := ⟨hT 0, hT 5, hT 7, hT 9⟩
 simp (decide := true) only [Fact.G, hf.size, reduceIte, s0, s5, s7] at hKp
 replace hf := hf1; clear hT hf1 s0 s5 s7 b30 b31 b29 b32 b33
 obtain ⟨s0, s5, s7, s9⟩ := hKp
 refine nx (hK4 _ _ ?_)
 refine Fact.sq fun K5 hK5 => ?_
 refine rg ?_
 have b34 := hf.b 34
 have b35 := hf.b 35
 refine fp fun K Z => ?_
 go_simp
 apply Z.out; clear Z K
 refine Fact.reL (n := 95) (by simp only [Fact.G, hf.size]) hf.defers (fun fr1 hf1 hT => ?_)
 have hKp : _ ∧ _ ∧ _ ∧ _ ∧ _ := ⟨hT 0, hT 5, hT 7, hT 9, hT 34⟩
 simp (decide := true) only [Fact.G, hf.size, reduceIte, s0, s5, s7, s9] at hKp
 replace hf := hf1; clear hT hf1 s0 s5 s7 s9 b34 b35
 obtain ⟨s0, s5, s7, s9, s34⟩ := hKp
 have b35 := hf.b 35
 refine ⟨?_⟩
 refine wpList_plain rfl fun KL hKL => ?_
 refine wp_conv _ bd rfl (Fact.eval_tmp s34) (by unfold maxLen; omega) (fun v1 w4 hom4 hb4 => hKL _ _ ?_)
 refine Fact.L.out ?_
 refine fp fun K Z => ?_
 go_simp
 apply Z.out; clear Z K
 refine Fact.z hf fun fr1 hf1 hT => ?_
 have hKp : _ ∧ _ ∧ _ ∧ _ ∧ _ := ⟨hT 0, hT 5, hT 7, hT 9, hT 11⟩
 simp (decide := true) only [Fact.G, hf.size, reduceIte, s0, s5, s7, s9] at hKp
 replace hf := hf1; clear hT hf1 s0 s5 s7 s9 s34 b35
 obtain ⟨s0, s5, s7, s9, s11⟩ := hKp
 obtain ⟨g, cap, hv1, hwg, hom⟩ := hom4.gb
 rw [wl_length] at hv1
 subst hv1
 have hgl := hom.lt
 clear hom4
 have hug : w.heap.size + 1 < g := by have := cell_lt0 b0; simp only at this; omega
 have hwl := wl_length bd
 replace b0 := cL hb4 b0
 replace b1 := cL hb4 b1
 replace b2 := cL hb4 b2
 replace hE := cL hb4 hE
 replace hbt := hbt.trans (hb4.mono hbt.size)
 refine nx (hK5 _ _ ?_)
 refine Fact.seq_meet (fun fr wq => ∃ l : List Nat, Fact.Fr 95 fr ∧ fr.tmps[0]? = some (.string S1) ∧ fr.tmps[5]? = some (.pointer (some ⟨w.heap.size + 1, 0, none⟩)) ∧ fr.tmps[7]? = some (.string SA) ∧ fr.tmps[9]? = some (.string bd) ∧ fr.tmps[11]? = some (.slice (some ⟨g, 0, none⟩) bd.size cap) ∧ OMg wq g cap l ∧ l.length = bd.size ∧ wq.cell? ⟨w.heap.size + 1, 1, none⟩ = some (.int .u16 ct) ∧ ETy wq ∧ Below w.heap.size w wq) ?_ ?_
 · (
 refine Fact.sq fun K6 hK6 => ?_
 refine rg ?_
 have b36 := hf.b 36
 have b37 := hf.b 37
 refine fp fun K Z => ?_
 go_simp
 apply Z.out; clear Z K
 refine fp fun K Z => ?_
 go_simp
 apply Z.out; clear Z K
 refine fp fun K Z => ?_
 go_simp
 apply Z.out; clear Z K
 refine Fact.z hf fun fr1 hf1 hT => ?_
 have hKp : _ ∧ _ ∧ _ ∧ _ ∧ _ ∧ _ := ⟨hT 0, hT 5, hT 7, hT 9, hT 11, hT 38⟩
 simp (decide := true) only [Fact.G, hf.size, reduceIte, s0, s5, s7, s9, s11] at hKp
 replace hf := hf1; clear hT hf1 s0 s5 s7 s9 s11 b36 b37
 obtain ⟨s0, s5, s7, s9, s11, s38⟩ := hKp
 refine nx (hK6 _ _ ?_)
 refine Fact.cond_s s38 (fun hq => ?_) (fun hq => ?_)
 · (
 have hL : 0 < bd.size := by have h9 := of_decide_eq_true hq; omega
 have hbne : ¬ bd = ByteArray.empty := fun e => by rw [e] at hL; simp at hL
 clear hq
 obtain ⟨i8, hi8⟩ : ∃ x, at_ % bd.size = x := ⟨_, rfl⟩
 have hi8L : i8 < bd.size := by rw [← hi8]; exact Nat.mod_lt _ hL
 have HI8 := Lib.hid hi8; clear hi8
 obtain ⟨x8, hx8⟩ : ∃ x, (wl bd)[i8]? = some x := ⟨_, List.getElem?_eq_getElem (by omega)⟩
 have hx256 := wl_lt bd x8 (List.mem_of_getElem? hx8)
 obtain ⟨c8, f8⟩ := hom.cell hx8
 have HX8 := Lib.hid hx8; clear hx8
 obtain ⟨y8, hy8⟩ : ∃ x, x8 ^^^ bby = x := ⟨_, rfl⟩
 have HY8 := Lib.hid hy8; clear hy8
 refine Stab.tb 95 fun hok => ?_
 refine Stab.mO 0 s11 hf hok ?_
 apply Stab.tq 1 _ hf hok
 · (
 intro fr1 w1 hh hd hk K Z
 have s5 := Stab.O hh s5
 clear hd
 go_simp
 exact Stab.k Z)
 apply Stab.tq 2 _ hf hok
 · (
 intro fr1 w1 hh hd hk K Z
 have s40 := Stab.v 1 0 hd hk []
 clear hd
 replace c8 := cL hh.ext c8
 replace b0 := cL hh.ext b0
 replace b2 := cL hh.ext b2
 go_simp
 exact Stab.k Z)
 apply Stab.tq 3 _ hf hok
 · (
 intro fr1 w1 hh hd hk K Z
 have s41 := Stab.v 2 0 hd hk []
 clear hd
 go_simp
 try rw [Fact.wrap_i64 (by omega) (by omega)]
 exact Stab.k Z)
 refine Stab.mO 4 s11 hf hok ?_
 apply Stab.tq 5 _ hf hok
 · (
 intro fr1 w1 hh hd hk K Z
 have s43 := Stab.v 4 0 hd hk []
 clear hd
 replace c8 := cL hh.ext c8
 replace b0 := cL hh.ext b0
 replace b2 := cL hh.ext b2
 go_simp
 exact Stab.k Z)
 apply Stab.tq 6 _ hf hok
 · (
 intro fr1 w1 hh hd hk K Z
 have s42 := Stab.v 3 2 hd hk []
 have s44 := Stab.v 5 0 hd hk []
 clear hd
 go_simp
 try rw [if_neg hbne]
 rw [show ((at_ : Nat) : Int).tmod ((bd.size : Nat) : Int) = ((i8 : Nat) : Int) by rw [Int.tmod_eq_emod_of_nonneg (by omega), ← HI8.out, Int.natCast_emod]]
 try rw [Oper.upon_value]
 exact Stab.k Z)
 apply Stab.tq 7 _ hf hok
 · (
 intro fr1 w1 hh hd hk K Z
 have s39 := Stab.v 0 6 hd hk []
 have s45 := Stab.v 6 0 hd hk []
 clear hd
 go_simp
 try rw [if_pos (by omega)]
 exact Stab.k Z)
 apply Stab.tq 8 _ hf hok
 · (
 intro fr1 w1 hh hd hk K Z
 have s46 := Stab.v 7 0 hd hk []
 clear hd
 replace c8 := cL hh.ext c8
 replace b0 := cL hh.ext b0
 replace b2 := cL hh.ext b2
 go_simp
 exact Stab.k Z)
 apply Stab.tq 9 _ hf hok
 · (
 intro fr1 w1 hh hd hk K Z
 have s5 := Stab.O hh s5
 clear hd
 go_simp
 exact Stab.k Z)
 apply Stab.tq 10 _ hf hok
 · (
 intro fr1 w1 hh hd hk K Z
 have s48 := Stab.v 9 0 hd hk []
 clear hd
 replace c8 := cL hh.ext c8
 replace b0 := cL hh.ext b0
 replace b2 := cL hh.ext b2
 go_simp
 exact Stab.k Z)
 apply Stab.tq 11 _ hf hok
 · (
 intro fr1 w1 hh hd hk K Z
 have s47 := Stab.v 8 2 hd hk []
 have s49 := Stab.v 10 0 hd hk []
 clear hd
 go_simp
 rw [u8_xor_nat x8 bby hx256 hby, HY8.out]
 exact Stab.k Z)
 refine Tail.todo_tail (n := 95) (m := 12) (ws := []) (by kernel_rfl) hf.size hok.out rfl rfl (by kernel_rfl) (fun fr1 w1 hh hg => ?_)
 replace s0 := Stab.O hh s0
 replace s5 := Stab.O hh s5
 replace s7 := Stab.O hh s7
 replace s9 := Stab.O hh s9
 replace s11 := Stab.O hh s11
 have s39 := Tail.got_is 0 11 hg rfl rfl rfl rfl rfl
 have s45 := Tail.got_is 6 5 hg rfl rfl rfl rfl rfl
 have s50 := Tail.got_is 11 0 hg rfl rfl rfl rfl rfl
 have hf1 := hh.fr hf
 have hx := hh.ext
 replace c8 := cL hx c8
 replace b0 := cL hx b0
 replace b2 := cL hx b2
 clear hg hh hf hok s38
 have hf := hf1; clear hf1
 have b51 := hf.b 51
 refine Tail.seq_op rfl rfl (fun K Z => ?_)
 go_simp
 try rw [if_pos (by omega)]
 apply Z.out; clear Z K
 have f8b := ((hom.later hx).cell HX8.out).2
 refine Tail.seq_op rfl rfl (fun K Z => ?_)
 go_simp
 apply Z.out; clear Z K
 refine Tail.seq_nil rfl ?_
 refine Fact.q hf (by simp only [Fact.G]) rfl fun fr1 hf1 hT => ?_
 have hKp : _ ∧ _ ∧ _ ∧ _ ∧ _ := ⟨hT 0, hT 5, hT 7, hT 9, hT 11⟩
 simp (decide := true) only [Fact.G, reduceIte, s0, s5, s7, s9, s11] at hKp
 replace hf := hf1; clear hT hf1 s0 s5 s7 s9 s11 s39 s45 s50 b51
 obtain ⟨s0, s5, s7, s9, s11⟩ := hKp
 refine Fact.then_normal ?_
 have hset := (hom.later hx).set (i := i8) (by omega) y8
 have hbS : But (fun k => k = g) w1 (w1.setCell ⟨g, i8, none⟩ (.int .u8 y8)) := But.setCell (S := fun k => k = g) (p := ⟨g, i8, none⟩) rfl _
 exact ⟨_, hf, s0, s5, s7, s9, s11, hset, by rw [List.length_set, hwl], hbS.cell (cL hx b1) (by simp only; omega), hbS.cell (cL hx hE) (by simp only; omega), (hbt.trans (hx.mono hbt.size)).setCell (p := ⟨g, i8, none⟩) (by simp only; omega) _⟩)
 · (
 clear hq
 refine wp_skip ?_
 refine Fact.then_normal ?_
 exact ⟨wl bd, hf, s0, s5, s7, s9, s11, hom, hwl, b1, hE, hbt⟩))
 · (
 clear hf s0 s5 s7 s9 s11
 rintro fr wq ⟨l, hf, s0, s5, s7, s9, s11, homq, hlq, b1q, hEq, hbq⟩
 clear hom b0 b1 b2 hE hbt
 obtain ⟨m, hm⟩ : ∃ x, ct % (bd.size + 1) = x := ⟨_, rfl⟩
 have hmL : m ≤ bd.size := by have := Nat.mod_lt ct (show 0 < bd.size + 1 by omega); omega
 have HM := Lib.hid hm; clear hm
 obtain ⟨CT, hCT⟩ : ∃ x, bd.extract 0 m = x := ⟨_, rfl⟩
 have hct9 : CT.size ≤ 100000 := by rw [← hCT, ByteArray.size_extract]; omega
 have HCT := Lib.hid hCT; clear hCT
 have hcv := OX.conv (.inr (homq.om (Nat.le_refl g)))
 rw [hlq] at hcv
 obtain ⟨TL, hTL⟩ : ∃ x, bl l = x := ⟨_, rfl⟩
 have htl : TL.size = bd.size := by rw [← hTL, bl_size, hlq]
 rw [hTL] at hcv
 clear hTL
 refine Fact.sq fun K7 hK7 => ?_
 refine rg ?_
 have b52 := hf.b 52
 have b53 := hf.b 53
 have b54 := hf.b 54
 have b55 := hf.b 55
 have b56 := hf.b 56
 have b57 := hf.b 57
 have b58 := hf.b 58
 have b59 := hf.b 59
 have b60 := hf.b 60
 refine fp fun K Z => ?_
 go_simp
 apply Z.out; clear Z K
 refine fp fun K Z => ?_
 go_simp
 apply Z.out; clear Z K
 refine fp fun K Z => ?_
 go_simp
 apply Z.out; clear Z K
 refine fp fun K Z => ?_
 go_simp
 try rw [Fact.wrap_i64 (by omega) (by omega)]
 apply Z.out; clear Z K
 refine fp fun K Z => ?_
 go_simp
 apply Z.out; clear Z K
 refine fp fun K Z => ?_
 go_simp
 apply Z.out; clear Z K
 refine fp fun K Z => ?_
 go_simp
 try simp (disch := omega) only [Fact.W]
 try rw [Fact.wrap_i64 (by omega) (by omega)]
 apply Z.out; clear Z K
 refine fp fun K Z => ?_
 go_simp
 first | rw [if_neg (by omega)] | skip
 rw [show ((ct : Nat) : Int).tmod ((bd.size : Int) + 1) = ((m : Nat) : Int) by rw [Int.tmod_eq_emod_of_nonneg (by omega), ← HM.out, Int.natCast_emod]; rfl]
 try rw [Oper.upon_value]
 apply Z.out; clear Z K
 refine fp fun K Z => ?_
 go_simp
 try rw [if_pos (by omega)]
 rw [HCT.out]
 try rw [Oper.upon_value]
 apply Z.out; clear Z K
 refine fp fun K Z => ?_
 go_simp
 apply Z.out; clear Z K
 refine Fact.z hf fun fr1 hf1 hT => ?_
 have hKp : _ ∧ _ ∧ _ ∧ _ ∧ _ := ⟨hT 0, hT 7, hT 9, hT 11, hT 12⟩
 simp (decide := true) only [Fact.G, hf.size, reduceIte, s0, s7, s9, s11] at hKp
 replace hf := hf1; clear hT hf1 s0 s5 s7 s9 s11 b52 b53 b54 b55 b56 b57 b58 b59 b60
 obtain ⟨s0, s7, s9, s11, s12⟩ := hKp
 refine nx (hK7 _ _ ?_)
 refine Fact.sq fun K8 hK8 => ?_
 refine Fact.sq fun K9 hK9 => ?_
 refine rg ?_
 have b61 := hf.b 61
 have b62 := hf.b 62
 have b63 := hf.b 63
 have b64 := hf.b 64
 have b65 := hf.b 65
 have b66 := hf.b 66
 have b67 := hf.b 67
 have b68 := hf.b 68
 have b69 := hf.b 69
 have b70 := hf.b 70
 have b71 := hf.b 71
 have b72 := hf.b 72
 refine fp fun K Z => ?_
 go_simp
 apply Z.out; clear Z K
 refine fp fun K Z => ?_
 go_simp
 apply Z.out; clear Z K
 refine fp fun K Z => ?_
 go_simp
 try simp (disch := omega) only [Fact.W]
 try rw [if_neg (by simp [ByteArray.size_append]; omega)]
 apply Z.out; clear Z K
 refine fp fun K Z => ?_
 go_simp
 apply Z.out; clear Z K
 refine fp fun K Z => ?_
 go_simp
 apply Z.out; clear Z K
 refine fp fun K Z => ?_
 go_simp
 apply Z.out; clear Z K
 refine fp fun K Z => ?_
 go_simp
 apply Z.out; clear Z K
 refine fp fun K Z => ?_
 go_simp
 apply Z.out; clear Z K
 refine fp fun K Z => ?_
 go_simp
 try simp (disch := omega) only [Fact.W]
 try rw [if_neg (by simp [ByteArray.size_append]; omega)]
 apply Z.out; clear Z K
 refine fp fun K Z => ?_
 go_simp
 apply Z.out; clear Z K
 refine fp fun K Z => ?_
 go_simp
 apply Z.out; clear Z K
 refine fp fun K Z => ?_
 go_simp
 try simp (disch := omega) only [Fact.W]
 try rw [if_neg (by simp [ByteArray.size_append]; omega)]
 apply Z.out; clear Z K
 refine fp fun K Z => ?_
 go_simp
 apply Z.out; clear Z K
 refine fp fun K Z => ?_
 go_simp
 apply Z.out; clear Z K
 refine Fact.z hf fun fr1 hf1 hT => ?_
 have hKp : _ ∧ _ ∧ _ ∧ _ ∧ _ := ⟨hT 0, hT 7, hT 9, hT 73, hT 74⟩
 simp (decide := true) only [Fact.G, hf.size, reduceIte, s0, s7, s9] at hKp
 replace hf := hf1; clear hT hf1 s0 s7 s9 s11 s12 b61 b62 b63 b64 b65 b66 b67 b68 b69 b70 b71 b72
 obtain ⟨s0, s7, s9, s73, s74⟩ := hKp
 obtain ⟨AR, hAR⟩ : ∃ x : Array Value, #[.string S1, .string (⟨#[67, 83, 1]⟩ ++ S1), .string TL, .string CT, .string (CT ++ S1), .string (bd ++ S1)] = x := ⟨_, rfl⟩
 rw [hAR] at s73
 have hat : ∀ k : Nat, k < 6 → ∃ X, (∀ w, (Instr.index 36 (.agg AR) (.int .i64 (k : Int))).run Tryd.prog w = .ok (.string X) w) ∧ X.size ≤ 200000 := fun k hk => by subst hAR; exact six_at hk (by omega) (by rw [ByteArray.size_append]; have : (ByteArray.mk #[67, 83, 1]).size = 3 := rfl; omega) (by omega) (by omega) (by rw [ByteArray.size_append]; omega) (by rw [ByteArray.size_append]; omega)
 have HAT := Lib.hid hat; clear hat hAR hcv
 refine nx (hK9 _ _ ?_)
 refine wp_block ?_
 refine wp_loop_ghost (fun gk fr wr => ∃ (k : Nat), gk = 6 - k ∧ k ≤ 6 ∧ Fact.Fr 95 fr ∧ fr.tmps[0]? = some (.string S1) ∧ fr.tmps[7]? = some (.string SA) ∧ fr.tmps[9]? = some (.string bd) ∧ fr.tmps[73]? = some (.agg AR) ∧ fr.tmps[74]? = some (.int .i64 k) ∧ ETy wr ∧ Below w.heap.size w wr) (6) ?_ ?_
 · (
 exact ⟨0, rfl, Nat.zero_le _, hf, s0, s7, s9, s73, s74, hEq, hbq⟩)
 · (
 clear hf s0 s7 s9 s73 s74
 rintro gk fr wr ⟨k, hk, hk6, hf, s0, s7, s9, s73, s74, hE, hbt⟩
 have HK := Lib.hid hk; clear hk homq b1q hEq hbq
 refine Fact.sq fun K10 hK10 => ?_
 refine rg ?_
 refine fp fun K Z => ?_
 go_simp
 apply Z.out; clear Z K
 refine Fact.z hf fun fr1 hf1 hT => ?_
 have hKp : _ ∧ _ ∧ _ ∧ _ ∧ _ ∧ _ := ⟨hT 0, hT 7, hT 9, hT 73, hT 74, hT 75⟩
 simp (decide := true) only [Fact.G, hf.size, reduceIte, s0, s7, s9, s73, s74] at hKp
 replace hf := hf1; clear hT hf1 s0 s7 s9 s73 s74
 obtain ⟨s0, s7, s9, s73, s74, s75⟩ := hKp
 refine nx (hK10 _ _ ?_)
 refine Fact.sq fun K11 hK11 => ?_
 refine Fact.cond_s s75 (fun hq => ?_) (fun hq => ?_)
 · (
 have hlt : k < 6 := by have h9 := of_decide_eq_true hq; omega
 clear hq
 obtain ⟨X, hXk, hX9⟩ := HAT.out k hlt
 refine wp_skip ?_
 refine nx (hK11 _ _ ?_)
 refine Fact.sq fun K12 hK12 => ?_
 refine wp_block ?_
 refine Fact.sq fun K13 hK13 => ?_
 refine rg ?_
 have b76 := hf.b 76
 refine fp fun K Z => ?_
 go_simp
 skip
 apply Z.out; clear Z K
 refine fp fun K Z => ?_
 go_simp
 apply Z.out; clear Z K
 refine Fact.z hf fun fr1 hf1 hT => ?_
 have hKp : _ ∧ _ ∧ _ ∧ _ ∧ _ ∧ _ := ⟨hT 0, hT 7, hT 9, hT 14, hT 73, hT 74⟩
 simp (decide := true) only [Fact.G, hf.size, reduceIte, s0, s7, s9, s73, s74] at hKp
 replace hf := hf1; clear hT hf1 s0 s7 s9 s73 s74 s75 b76
 obtain ⟨s0, s7, s9, s14, s73, s74⟩ := hKp
 refine nx (hK13 _ _ ?_)
 refine Fact.sq fun K14 hK14 => ?_
 refine rg ?_
 have b77 := hf.b 77
 have b78 := hf.b 78
 have b79 := hf.b 79
 refine fp fun K Z => ?_
 go_simp
 apply Z.out; clear Z K
 refine fp fun K Z => ?_
 go_simp
 go_at_call 12; refine (rseal wr X (by omega)).mono ?_; rintro e y1 ⟨rfl, hby1⟩
 obtain ⟨Y, hY⟩ : ∃ x, bl (Crc.seal' (wl X)) = x := ⟨_, rfl⟩
 have hy9 : Y.size ≤ 900000000 := by rw [← hY, bl_size, Crc.seal_length, wl_length]; omega
 rw [hY]
 clear hY
 replace hE := cL hby1 hE
 replace hbt := hbt.trans (hby1.mono hbt.size)
 try dsimp only
 apply Z.out; clear Z K
 refine fp fun K Z => ?_
 go_simp
 go_at_call 11; refine (reads11 y1 Y hy9 hE).mono ?_; rintro e y2 ⟨rfl, hby2⟩
 replace hE := cL hby2 hE
 replace hbt := hbt.trans (hby2.mono hbt.size)
 try dsimp only
 apply Z.out; clear Z K
 refine fp fun K Z => ?_
 go_simp
 apply Z.out; clear Z K
 refine Fact.z hf fun fr1 hf1 hT => ?_
 have hKp : _ ∧ _ ∧ _ ∧ _ ∧ _ ∧ _ := ⟨hT 0, hT 7, hT 9, hT 73, hT 74, hT 80⟩
 simp (decide := true) only [Fact.G, hf.size, reduceIte, s0, s7, s9, s73, s74] at hKp
 replace hf := hf1; clear hT hf1 s0 s7 s9 s14 s73 s74 b77 b78 b79
 obtain ⟨s0, s7, s9, s73, s74, s80⟩ := hKp
 refine nx (hK14 _ _ ?_)
 refine Fact.cond_f s80 ?_
 refine wp_skip ?_
 refine Fact.block_normal ?_
 refine nx (hK12 _ _ ?_)
 refine rg ?_
 have b81 := hf.b 81
 refine fp fun K Z => ?_
 go_simp
 try simp (disch := omega) only [Fact.W]
 apply Z.out; clear Z K
 refine fp fun K Z => ?_
 go_simp
 apply Z.out; clear Z K
 refine Fact.z hf fun fr1 hf1 hT => ?_
 have hKp : _ ∧ _ ∧ _ ∧ _ ∧ _ := ⟨hT 0, hT 7, hT 9, hT 73, hT 74⟩
 simp (decide := true) only [Fact.G, hf.size, reduceIte, s0, s7, s9, s73] at hKp
 replace hf := hf1; clear hT hf1 s0 s7 s9 s73 s74 s80 b81
 obtain ⟨s0, s7, s9, s73, s74⟩ := hKp
 refine Fact.then_normal ?_
 exact ⟨_, by have := HK.out; omega, k + 1, rfl, by omega, hf, s0, s7, s9, s73, by rw [s74]; rfl, hE, hbt⟩)
 · (
 clear hq
 refine wp_exit ?_
 refine Fact.then_exit ?_
 refine Fact.then_exit ?_
 refine Fact.block_exit ?_
 refine nx (hK8 _ _ ?_)
 refine Fact.sq fun K15 hK15 => ?_
 refine rg ?_
 have b82 := hf.b 82
 have b83 := hf.b 83
 have b84 := hf.b 84
 have b85 := hf.b 85
 have b86 := hf.b 86
 have b87 := hf.b 87
 have b88 := hf.b 88
 have b89 := hf.b 89
 have b90 := hf.b 90
 have b91 := hf.b 91
 have b92 := hf.b 92
 have b93 := hf.b 93
 have b94 := hf.b 94
 refine fp fun K Z => ?_
 go_simp
 apply Z.out; clear Z K
 refine fp fun K Z => ?_
 go_simp
 go_at_call 11; refine (reads11 wr S1 (by omega) hE).mono ?_; rintro e x1 ⟨rfl, hbx0⟩
 replace hE := cL hbx0 hE
 replace hbt := hbt.trans (hbx0.mono hbt.size)
 try dsimp only
 apply Z.out; clear Z K
 refine fp fun K Z => ?_
 go_simp
 apply Z.out; clear Z K
 refine og 2 84 true ?_ fun K Z => ?_
 · (
 simp (decide := true) only [Fact.G, reduceIte, hf.size])
 go_simp
 apply Z.out; clear Z K
 refine og 2 84 true ?_ fun K Z => ?_
 · (
 simp (decide := true) only [Fact.G, reduceIte, hf.size])
 go_simp
 go_at_call 11; refine (reads11 x1 SA (by omega) hE).mono ?_; rintro e x2 ⟨rfl, hbx1⟩
 replace hE := cL hbx1 hE
 replace hbt := hbt.trans (hbx1.mono hbt.size)
 try dsimp only
 apply Z.out; clear Z K
 refine fp fun K Z => ?_
 go_simp
 apply Z.out; clear Z K
 refine fp fun K Z => ?_
 go_simp
 apply Z.out; clear Z K
 refine og 6 88 true ?_ fun K Z => ?_
 · (
 simp (decide := true) only [Fact.G, reduceIte, hf.size])
 go_simp
 apply Z.out; clear Z K
 refine og 6 88 true ?_ fun K Z => ?_
 · (
 simp (decide := true) only [Fact.G, reduceIte, hf.size])
 go_simp
 go_at_call 11; refine (reads11 x2 bd (by omega) hE).mono ?_; rintro e x3 ⟨rfl, hbx2⟩
 replace hE := cL hbx2 hE
 replace hbt := hbt.trans (hbx2.mono hbt.size)
 try dsimp only
 apply Z.out; clear Z K
 refine fp fun K Z => ?_
 go_simp
 apply Z.out; clear Z K
 refine fp fun K Z => ?_
 go_simp
 apply Z.out; clear Z K
 refine og 10 92 true ?_ fun K Z => ?_
 · (
 simp (decide := true) only [Fact.G, reduceIte, hf.size])
 go_simp
 go_at_call 13; refine (works13 x3 hE).mono ?_; rintro e x4 ⟨rfl, hbx4⟩
 replace hE := cL hbx4 hE
 replace hbt := hbt.trans (hbx4.mono hbt.size)
 try dsimp only
 apply Z.out; clear Z K
 refine fp fun K Z => ?_
 go_simp
 apply Z.out; clear Z K
 refine fp fun K Z => ?_
 go_simp
 apply Z.out; clear Z K
 refine Fact.z hf fun fr1 hf1 hT => ?_
 have hKp := hT 6
 simp (decide := true) only [Fact.G, hf.size, reduceIte] at hKp
 replace hf := hf1; clear hT hf1 s0 s7 s9 s73 s74 s75 b82 b83 b84 b85 b86 b87 b88 b89 b90 b91 b92 b93 b94
 have s6 := hKp; clear hKp
 refine nx (hK15 _ _ ?_)
 refine wp_ret ?_
 exact Fact.ret1 rfl hf s6 ⟨rfl, hbt⟩)))
end Dw
end Go.Proofs.YtdkbgbdgmihlmaaDoor
