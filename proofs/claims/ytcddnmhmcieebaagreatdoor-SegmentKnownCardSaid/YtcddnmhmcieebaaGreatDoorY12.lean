/- crc: More, Sum. -/
import Derived.Test.YtcddnmhmcieebaaGreatDoorY11
import Derived.Test.YtcddnmhmcieebaaGreatDoorTools
import Derived.Lib.AppendStr
namespace Go.Proofs.YtcddnmhmcieebaaGreatDoor
set_option maxHeartbeats 4000000
set_option maxRecDepth 100000
open Go.RowKit
set_option linter.unusedSimpArgs false
set_option linter.unusedVariables false
set_option linter.unnecessarySimpa false
namespace Dw
theorem xor_ones {n : Nat} (h : n < 4294967296) : 4294967295 ^^^ n = 4294967295 - n := by
 have h1 : (BitVec.allOnes 32 ^^^ BitVec.ofNat 32 n).toNat = 4294967295 ^^^ n := by
  rw [BitVec.toNat_xor, BitVec.toNat_allOnes, BitVec.toNat_ofNat, Nat.mod_eq_of_lt h]
 have h2 : (~~~ (BitVec.ofNat 32 n)).toNat = 4294967295 - n := by
  rw [BitVec.toNat_not, BitVec.toNat_ofNat, Nat.mod_eq_of_lt h]
 rw [<- h1, <- h2, BitVec.allOnes_xor]
theorem not32 {n : Nat} (h : n < 4294967296) : bits .xor .u32 (if IntKind.u32.signed = true then -1 else IntKind.u32.max) (n : Int) = ((4294967295 - n : Nat) : Int) := by
 have e : (if IntKind.u32.signed = true then (-1 : Int) else IntKind.u32.max) = ((4294967295 : Nat) : Int) := rfl
 rw [e, u32_xor_nat 4294967295 n (by decide) h, xor_ones h]
def PB2 (x y : Nat) : Stab.Pr := fun v w => ∃ b, v = .slice (some ⟨b, 0, none⟩) 2 2 /\ ∀ (i q : Nat), ([x, y] : List Nat)[i]? = some q -> w.cell? ⟨b, i, none⟩ = some (.int .u8 q)
theorem PB2.stable (x y : Nat) : Stab.Stable (PB2 x y) := fun v w w' hb ⟨b, h1, h2⟩ => ⟨b, h1, fun i q h => cL hb (h2 i q h)⟩
theorem PB2.new (w : World) (x y : Nat) (t : TypeId) : PB2 x y (.slice (some ⟨w.heap.size, 0, none⟩) 2 2) (w.alloc (.cells #[.int .u8 x, .int .u8 y] t)) := ⟨_, rfl, fun i q h => by
 rw [cell_of_row _ _ i _ t (0, 0) (heap_alloc_new w _)]
 rcases i with _ | _ | i
 ·injection h with h; rw [<- h]; rfl
 ·injection h with h; rw [<- h]; rfl
 ·simp at h⟩
theorem more53 (w : World) (n : Nat) (hn : n < 4294967296) (s : ByteArray) (hsz : s.size <= 1000000000) : Calls Tryz.prog 102 #[.int .u32 n, .string s] w fun e w1 => e = .returned (.int .u32 (4294967295 - Crc.run (4294967295 - n) (wl s) : Nat)) /\ Below w.heap.size w w1 := by
 refine Zn2 31 Tryz.func102 fun fr hf s0 s1 => ?_
 have hat2 : ∀ (i : Nat) (h : i < s.size), s[i].toNat = at_ s i := fun i h => (at_get h).symm
 refine Ze fun _ hK1 => ?_
 refine Zr [] hf ?_
 refine Zq2 0 1 hf ?_
 clear hf s0 s1; intro fr1 hf sS
 refine Zt hK1 fun _ hK2 => ?_
 have bB := hf.B2 8 5
 refine fp fun K Z => ?_
 go_simp
 go_at_call 139; refine (steps75 w).mono ?_; rintro e W0 ⟨rfl, hb0⟩
 try dsimp only
 apply Z.out; clear Z K
 refine Za ?_
 obtain ⟨s0, s1⟩ := sS
 clear bB
 refine Fact.reL (n := 31) (by simp only [Fact.G, hf.size]) hf.defers (fun fr1 hf1 hT => ?_)
 have hKp := Fact.h4 hT 0 1 5 8
 simp (decide := true) only [Fact.G, hf.size, reduceIte, s0, s1] at hKp
 replace hf := hf1; clear hT hf1 s0 s1
 obtain ⟨s0, s1, s5, s8⟩ := hKp
 refine ⟨?_⟩
 refine wpList_plain rfl fun KL hKL => ?_
 refine wp_store_row 222 _ _ rfl W0.heap.size _ (Fact.eval_tmp s5) (Fact.eval_tmp s8) 222 _ (heap_alloc_new W0 _) (by kernel_rfl) rfl (by kernel_rfl) (hKL _ _ ?_)
 rw [World.setRow_alloc_new]
 refine Fact.L.out ?_
 refine Fact.nil (Zq3 0 1 5 hf ?_)
 clear hf s0 s1 s5 s8; intro fr1 hf sS
 generalize hW1 : W0.alloc (.cells #[.int .u32 0, .int .u32 498536548, .int .u32 997073096, .int .u32 651767980, .int .u32 1994146192, .int .u32 1802195444, .int .u32 1303535960, .int .u32 1342533948, .int .u32 3988292384, .int .u32 4027552580, .int .u32 3604390888, .int .u32 3412177804, .int .u32 2607071920, .int .u32 2262029012, .int .u32 2685067896, .int .u32 3183342108] 222) = W1
 have hx1 : W1.heap[W0.heap.size]? = some (.cells #[.int .u32 0, .int .u32 498536548, .int .u32 997073096, .int .u32 651767980, .int .u32 1994146192, .int .u32 1802195444, .int .u32 1303535960, .int .u32 1342533948, .int .u32 3988292384, .int .u32 4027552580, .int .u32 3604390888, .int .u32 3412177804, .int .u32 2607071920, .int .u32 2262029012, .int .u32 2685067896, .int .u32 3183342108] 222 (0, 0)) := by rw [<- hW1]; exact heap_alloc_new W0 _
 have hb1 : Below w.heap.size w W1 := hb0.trans (by rw [<- hW1]; exact (Below.refl _ _).alloc hb0.size _)
 have HX1 := Lib.hid hx1; clear hW1 hb0 hx1
 refine Zt hK2 fun _ hK3 => ?_
 have bB := hf.B2 9 10
 refine Za ?_
 refine fp fun K Z => ?_
 go_simp
 rw [not32 hn]
 apply Z.out; clear Z K
 refine Za ?_
 refine Fact.nil (Zq3 1 5 6 hf ?_)
 clear hf sS bB; intro fr1 hf sS
 refine Zs hK3 fun _ hK4 => ?_
 refine Ze fun _ hK5 => ?_
 refine Zr [11] hf ?_
 refine Zq5 1 5 6 12 13 hf ?_
 clear hf sS; intro fr1 hf sS
 refine Zx hK5 ?_
 refine wp_block ?_
 refine wp_loop_ghost (fun gk fr wr => ∃ (i m : Nat), gk = s.size - i /\ i <= s.size /\ Fact.Fr 31 fr /\ fr.tmps[1]? = some (.string s) /\ fr.tmps[5]? = some (.pointer (some ⟨W0.heap.size, 0, none⟩)) /\ fr.tmps[6]? = some (.int .u32 m) /\ fr.tmps[12]? = some (.int .i64 s.size) /\ fr.tmps[13]? = some (.int .i64 i) /\ m = Crc.run (4294967295 - n) ((wl s).take i) /\ m < 4294967296 /\ Below W1.heap.size W1 wr) (s.size) ?_ ?_
 . (
 obtain ⟨s1, s5, s6, s12, s13⟩ := sS
 exact ⟨0, _, rfl, Nat.zero_le _, hf, s1, s5, s6, s12, s13, rfl, by omega, Below.refl _ _⟩)
 . (
 clear hf sS
 rintro gk fr wr ⟨i, m, hk, hi, hf, s1, s5, s6, s12, s13, hm, hm32, hb⟩
 have HK := Lib.hid hk; have HM := Lib.hid hm; clear hk hm
 refine Ze fun _ hK6 => ?_
 refine Zr [] hf ?_
 refine Zq6 1 5 6 12 13 14 hf ?_
 clear hf s1 s5 s6 s12 s13; intro fr1 hf sS
 refine Zs hK6 fun _ hK7 => ?_
 refine Fact.cond_s sS.2.2.2.2.2 (fun hq => ?_) (fun hq => ?_)
 . (
 have hlt : i < s.size := by have h9 := of_decide_eq_true hq; omega
 clear hq
 obtain ⟨c, hc⟩ : ∃ c, at_ s i = c := ⟨_, rfl⟩
 have hc8 : c < 256 := by rw [<- hc]; exact at_lt s i
 have hst : Crc.run (4294967295 - n) ((wl s).take (i + 1)) = Crc.nib (Crc.nib m (c % 16)) (c / 16) := by rw [List.take_add_one, wl_at hlt, Option.toList_some, hc]; unfold Crc.run at *; rw [List.foldl_append, <- HM.out]; exact Crc.byte_nib m c hc8
 obtain ⟨m2, hm2⟩ : ∃ x, Crc.nib (Crc.nib m (c % 16)) (c / 16) = x := ⟨_, rfl⟩
 rw [hm2] at hst
 have hm232 : m2 < 4294967296 := by rw [<- hm2]; exact Crc.nib_lt _ _ (Crc.nib_lt _ _ hm32 (by omega)) (by omega)
 obtain ⟨x, hx⟩ : ∃ x, c % 16 = x := ⟨_, rfl⟩
 obtain ⟨y, hy⟩ : ∃ y, c / 16 = y := ⟨_, rfl⟩
 have hxy : x < 16 /\ y < 16 := by omega
 have hfold : ([x, y] : List Nat).foldl Crc.nib m = m2 := by rw [<- hm2, hx, hy]; rfl
 have hand : c &&& 15 = x := by rw [<- hx, <- and15, Nat.mod_eq_of_lt hc8]
 have hsm : ∀ q ∈ ([x, y] : List Nat), q < 16 := by intro q hq; simp at hq; rcases hq with rfl | rfl <;> omega
 have HC := Lib.hid hc; have HX := Lib.hid hx; have HY := Lib.hid hy; have HF := Lib.hid hfold; have HA := Lib.hid hand; have HSM := Lib.hid hsm; have HST := Lib.hid hst; clear hc hx hy hfold hand hsm hst hm2
 have hxr := (hb.block _ (heap_lt HX1.out)).trans HX1.out
 have HXR := Lib.hid hxr; clear hxr
 refine wp_skip ?_
 refine Zs hK7 fun _ hK8 => ?_
 refine wp_block ?_
 refine Ze fun _ hK9 => ?_
 refine Zr [15] hf ?_
 refine Zq6 1 5 6 7 12 13 hf ?_
 clear hf sS; intro fr1 hf sS
 refine Zx hK9 ?_
 obtain ⟨s1, s5, s6, s7, s12, s13⟩ := sS
 refine Stab.tb 31 fun hok => ?_
 apply Stab.tq 0 _ hf hok
 . (
 intro fr1 w1 hh hd hk K Z
 have s5 := Stab.O hh s5
 clear hd
 exact wp_load_row 222 _ rfl W0.heap.size (Fact.eval_tmp s5) 222 _ (0, 0) _ ((hh.ext.block _ (heap_lt HXR.out)).trans HXR.out) Tryz.underlying222 rfl (by kernel_rfl) (Z.out _ rfl _ _ (Below.refl _ _) rfl))
 refine Stab.mvP (k := 1) (j := 12) s6 hf.size hok.out rfl rfl rfl (.inl rfl) [] (by kernel_rfl) (by kernel_rfl) ?_
 refine Stab.mO 2 s1 hf hok ?_
 refine Stab.mO 3 s7 hf hok ?_
 apply Stab.tq 4 _ hf hok
 . (
 intro fr1 w1 hh hd hk K Z
 have s18 := Stab.v 2 1 hd hk []
 have s19 := Stab.v 3 0 hd hk []
 clear hd
 go_simp
 try rw [HC.out]
 exact Stab.k Z)
 apply Stab.tq 5 _ hf hok
 . (
 intro fr1 w1 hh hd hk K Z
 have s20 := Stab.v 4 0 hd hk []
 clear hd
 go_simp
 rw [show (15 : Int) = ((15 : Nat) : Int) from rfl, u8_and_nat c 15 hc8 (by decide), HA.out]
 exact Stab.k Z)
 refine Stab.mO 6 s1 hf hok ?_
 refine Stab.mO 7 s7 hf hok ?_
 apply Stab.tq 8 _ hf hok
 . (
 intro fr1 w1 hh hd hk K Z
 have s22 := Stab.v 6 1 hd hk []
 have s23 := Stab.v 7 0 hd hk []
 clear hd
 go_simp
 try rw [HC.out]
 exact Stab.k Z)
 apply Stab.tq 9 _ hf hok
 . (
 intro fr1 w1 hh hd hk K Z
 have s24 := Stab.v 8 0 hd hk []
 clear hd
 go_simp
 rw [show (c : Int) / 16 = ((c / 16 : Nat) : Int) by omega, HY.out]
 exact Stab.k Z)
 refine Stab.todo_op (k := 10) (n := 31) (PB2 x y) hf.size hok.out rfl (PB2.stable x y) ?_ ?_
 . (
 intro fr1 w1 hh hd hk K Z
 refine Stab.pl ?_
 have s21 := Stab.v 5 4 hd hk []
 have s25 := Stab.v 9 0 hd hk []
 clear hd
 go_simp
 exact Z.out _ rfl _ _ ((Below.refl _ _).alloc (Nat.le_refl _) _) (PB2.new _ _ _ _))
 apply Stab.tq 11 _ hf hok
 . (
 intro fr1 w1 hh hd hk K Z
 have s16 := Stab.v 0 10 hd hk []
 have s17 := Stab.v 1 9 hd hk []
 obtain ⟨x26, s26, hp26⟩ := Stab.use (j := 10) (m := 0) hd hk rfl [] (by kernel_rfl) rfl rfl rfl
 obtain ⟨b26, rfl, hc26⟩ := hp26
 clear hd
 go_simp
 go_at_call 140; refine (by76 w1 m hm32 [x, y] (by simp) b26 2 hc26 HSM.out).mono ?_; rintro e w2 ⟨rfl, hb⟩
 rw [HF.out]
 exact Z.out _ rfl _ _ hb rfl)
 refine Stab.mN 12 11 0 hf hok [] ?_
 refine Stab.E hf hok (fun _ _ h g => ad (Stab.O h s1) (ad (Stab.O h s5) (ad (Stab.f 12 0 g) (ad (Stab.O h s12) (Stab.O h s13))))) ?_
 clear hf hok s1 s5 s6 s7 s12 s13; intro fr1 w1 hf hx sS
 refine Fact.block_normal ?_
 refine Zx hK8 ?_
 refine Zr [28] hf ?_
 refine Zq5 1 5 6 12 13 hf ?_
 clear hf sS; intro fr1 hf sS
 refine Fact.then_normal ?_
 obtain ⟨s1, s5, s6, s12, s13⟩ := sS
 exact ⟨_, by have := HK.out; omega, i + 1, m2, rfl, by omega, hf, s1, s5, s6, s12, by rw [s13]; rfl, HST.out.symm, hm232, hb.trans (hx.mono hb.size)⟩)
 . (
 have hie : i = s.size := by have h9 := of_decide_eq_false hq; omega
 have hme : m = Crc.run (4294967295 - n) (wl s) := by have h9 := HM.out; rwa [hie, List.take_of_length_le (by rw [wl_length]; omega)] at h9
 have HME := Lib.hid hme; clear hme hie hq
 refine Zo ?_
 refine Zt hK4 fun _ hK10 => ?_
 have bB := hf.B2 29 30
 refine Za ?_
 refine fp fun K Z => ?_
 go_simp
 rw [not32 hm32]
 apply Z.out; clear Z K
 refine Za ?_
 refine Fact.nil (Zq1 4 hf ?_)
 clear hf sS bB; intro fr1 hf s4
 refine Zx hK10 ?_
 refine Zret ?_
 exact Fact.ret1 rfl hf s4 ⟨by rw [HME.out], hb1.trans (hb.mono hb1.size)⟩))
theorem sum36 (w : World) (s : ByteArray) (hsz : s.size <= 1000000000) : Calls Tryz.prog 63 #[.string s] w fun e w1 => e = .returned (.int .u32 (Crc.sum (wl s) : Nat)) /\ Below w.heap.size w w1 := by
 refine Zn1 5 Tryz.func63 fun fr hf s0 => ?_
 refine Ze fun _ hK1 => ?_
 refine Zr [] hf ?_
 refine Zq1 0 hf ?_
 clear hf s0; intro fr1 hf s0
 refine Zt hK1 fun _ hK2 => ?_
 have bB := hf.B2 3 4
 refine Za ?_
 refine fp fun K Z => ?_
 go_simp
 go_at_call 102; refine (more53 w 0 (by decide) s hsz).mono ?_; rintro e w1 ⟨rfl, hb1⟩
 try dsimp only
 apply Z.out; clear Z K
 refine Za ?_
 refine Fact.nil (Zq1 2 hf ?_)
 clear hf s0 bB; intro fr1 hf s2
 refine Zx hK2 ?_
 refine Zret ?_
 exact Fact.ret1 rfl hf s2 ⟨rfl, hb1⟩
theorem wp_conv {o : Oper} {a : Act} {w : World} {K : Act -> World -> Prop} {Q : Exit -> Act -> World -> Prop} (x : Operand) (s : ByteArray) (ho : o.op = .convert 9 31 x) (hx : a.eval x = .string s) (hs : s.size <= maxLen)
  (h : ∀ v w', OM w' w.heap.size v (wl s) -> Below w.heap.size w w' -> K (a.put o.dst v) w') : Oper.wp Tryz.prog o a w K Q := by
 obtain ⟨v, w', hr, hom, hb⟩ := conv_text w s hs
 unfold Oper.wp execOp
 simp only [ho, hx, Sem.run_bind, hr, Result.andThen_ok, Sem.run_pure]
 exact h v w' hom hb
theorem four_step {n i : Nat} (h : i < 4) : (Crc.four n).take (i + 1) = (Crc.four n).take i ++ [n / 256 ^ i % 256] := by
 rcases i with _ | _ | _ | _ | i <;> first | rfl | omega | (simp [Crc.four])
theorem wl_extract (s : ByteArray) (i j : Nat) : wl (s.extract i j) = ((wl s).take j).drop i := by
 unfold wl
 rw [ByteArray.data_extract, Array.toList_extract, <- List.map_take, <- List.map_drop, List.drop_take]
theorem cut_bl {s : ByteArray} {n : Nat} : s.extract 0 n = bl ((wl s).take n) := by
 refine wl_inj ?_
 rw [wl_extract, wl_bl (fun x hx => wl_lt _ x (List.mem_of_mem_take hx)), List.drop_zero]
theorem str_eq9 {a b : ByteArray} (h : (!(a.toList == b.toList)) = false) : a = b := by
 have h1 : a.toList = b.toList := by simpa using h
 refine wl_inj ?_
 unfold wl
 rw [<- ByteArray.toList_eq, <- ByteArray.toList_eq, h1]
theorem four_small (n : Nat) : Small (Crc.four n) := by
 intro x hx
 simp [Crc.four] at hx
 rcases hx with rfl | rfl | rfl | rfl <;> omega
theorem seal_small {l : List Nat} (h : Small l) : Small (Crc.seal' l) := h.append (four_small _)
def openR : Option (List Nat) -> ByteArray × Bool
 | none => (⟨#[]⟩, false)
 | some l => (bl l, true)
theorem open_short {l : List Nat} (h : l.length < 4) : Crc.opened l = none := by
 unfold Crc.opened
 rw [if_neg (by omega)]
theorem open_not {l : List Nat} {m : Nat} (h : l.length = m + 4) (hn : ¬ Crc.seal' (l.take m) = l) : Crc.opened l = none := by
 unfold Crc.opened
 rw [h, Nat.add_sub_cancel, if_neg (fun h => hn h.2)]
theorem open_yes {l : List Nat} {m : Nat} (h : l.length = m + 4) (hn : Crc.seal' (l.take m) = l) : Crc.opened l = some (l.take m) := by
 unfold Crc.opened
 rw [h, Nat.add_sub_cancel, if_pos ⟨by omega, hn⟩]
theorem seal17 (w : World) (s : ByteArray) (hsz9 : s.size <= 900000000) : Calls Tryz.prog 37 #[.string s] w fun e w1 => e = .returned (.string (bl (Crc.seal' (wl s)))) /\ Below w.heap.size w w1 := by
 have hsz : s.size <= 1000000000 := by omega
 refine Zn1 24 Tryz.func37 fun fr hf s0 => ?_
 refine Ze fun _ hK1 => ?_
 refine Zr [] hf ?_
 refine Zq1 0 hf ?_
 clear hf s0; intro fr1 hf s0
 refine Zt hK1 fun _ hK2 => ?_
 have bB := hf.B2 6 7
 refine Za ?_
 clear bB
 refine Fact.reL (n := 24) (by simp only [Fact.G, hf.size]) hf.defers (fun fr1 hf1 hT => ?_)
 have hKp := Fact.h2 hT 0 6
 simp (decide := true) only [Fact.G, hf.size, reduceIte, s0] at hKp
 replace hf := hf1; clear hT hf1 s0
 obtain ⟨s0, s6⟩ := hKp
 have bB := hf.b 7
 refine ⟨?_⟩
 refine wpList_plain rfl fun KL hKL => ?_
 refine wp_conv _ s rfl (Fact.eval_tmp s6) (by unfold maxLen; omega) (fun v1 w1 hom1 hb1 => hKL _ _ ?_)
 refine Fact.L.out ?_
 refine Za ?_
 refine Fact.nil (Zq2 0 3 hf ?_)
 clear hf s0 s6 bB; intro fr1 hf sS
 have hox1 : OX w1 w.heap.size v1 (wl s) := .inr hom1
 clear hom1
 refine Zt hK2 fun _ hK3 => ?_
 have bB := hf.B2 8 9
 refine Za ?_
 refine fp fun K Z => ?_
 go_simp
 go_at_call 63; refine (sum36 w1 s hsz).mono ?_; rintro e w2 ⟨rfl, hb2⟩
 have hox2 := hox1.later hb2
 have hb02 := hb1.trans (hb2.mono hb1.size)
 obtain ⟨n, hn⟩ : ∃ n, Crc.sum (wl s) = n := ⟨_, rfl⟩
 have hn32 : n < 4294967296 := by rw [<- hn]; exact Crc.sum_lt _
 rw [hn]
 have HN := Lib.hid hn; clear hn
 try dsimp only
 apply Z.out; clear Z K
 refine Za ?_
 refine Fact.nil (Zq2 3 4 hf ?_)
 clear hf sS bB; intro fr1 hf sS
 refine Zs hK3 fun _ hK4 => ?_
 refine Ze fun _ hK5 => ?_
 refine Zr [] hf ?_
 refine Zq3 3 4 10 hf ?_
 clear hf sS; intro fr1 hf sS
 refine Zx hK5 ?_
 refine wp_block ?_
 refine wp_loop_ghost (fun gk fr wr => ∃ (i : Nat) (V : Value), gk = 4 - i /\ i <= 4 /\ Fact.Fr 24 fr /\ fr.tmps[3]? = some V /\ fr.tmps[4]? = some (.int .u32 n) /\ fr.tmps[10]? = some (.int .i64 i) /\ OX wr w.heap.size V (wl s ++ (Crc.four n).take i) /\ Below w.heap.size w wr) (4) ?_ ?_
 . (
 obtain ⟨s3, s4, s10⟩ := sS
 exact ⟨0, _, rfl, by omega, hf, s3, s4, s10, by rw [List.take_zero, List.append_nil]; exact hox2, hb02⟩)
 . (
 clear hf sS
 rintro gk fr wr ⟨i, V, hk, hi, hf, s3, s4, s10, hox, hb⟩
 have HK := Lib.hid hk; clear hk
 refine Ze fun _ hK6 => ?_
 refine Zr [] hf ?_
 refine Zq4 3 4 10 11 hf ?_
 clear hf s3 s4 s10; intro fr1 hf sS
 refine Zs hK6 fun _ hK7 => ?_
 refine Fact.cond_s sS.2.2.2 (fun hq => ?_) (fun hq => ?_)
 . (
 have hlt : i < 4 := by have h9 := of_decide_eq_true hq; omega
 clear hq
 obtain ⟨d, hd⟩ : ∃ d, n / 256 ^ i = d := ⟨_, rfl⟩
 obtain ⟨x8, hx8⟩ : ∃ x, d % 256 = x := ⟨_, rfl⟩
 have hst : (Crc.four n).take (i + 1) = (Crc.four n).take i ++ [x8] := by rw [<- hx8, <- hd]; exact four_step hlt
 have HD := Lib.hid hd; have HX := Lib.hid hx8; have HST := Lib.hid hst; clear hd hx8 hst
 have hl9 : (wl s ++ (Crc.four n).take i).length <= 1000000000 := by rw [List.length_append, wl_length, List.length_take]; omega
 refine wp_skip ?_
 refine Zs hK7 fun _ hK8 => ?_
 refine wp_block ?_
 refine Ze fun _ hK9 => ?_
 refine Zr [12] hf ?_
 refine Zq4 3 4 5 10 hf ?_
 clear hf sS; intro fr1 hf sS
 refine Zx hK9 ?_
 refine rg ?_
 have bB := hf.B8 13 14 15 16 17 18 19 20
 iterate 3 refine Za ?_
 refine Zb ?_
 refine fp fun K Z => ?_
 go_simp
 rw [shr_cut, HD.out]
 apply Z.out; clear Z K
 refine fp fun K Z => ?_
 go_simp
 rw [wrap8, HX.out]
 apply Z.out; clear Z K
 refine Za ?_
 obtain ⟨s3, s4, s5, s10⟩ := sS
 clear bB
 refine Fact.reL (n := 24) (by simp only [Fact.G, hf.size]) hf.defers (fun fr1 hf1 hT => ?_)
 have hKp := Fact.h5 hT 3 4 10 13 19
 simp (decide := true) only [Fact.G, hf.size, reduceIte, s3, s4, s10] at hKp
 replace hf := hf1; clear hT hf1 s3 s4 s5 s10
 obtain ⟨s3, s4, s10, s13, s19⟩ := hKp
 have bB := hf.b 20
 refine ⟨?_⟩
 refine wpList_plain rfl fun KL hKL => ?_
 refine wp_appx _ _ rfl w.heap.size V _ (Fact.eval_tmp s13) (hox.later ((Below.refl _ _).alloc (Nat.le_refl _) _)) wr.heap.size x8 (Fact.eval_tmp s19) (by rw [cell_of_row _ _ 0 _ 5 (0, 0) (heap_alloc_new wr _)]; rfl) hl9 (by have := hb.size; simp; omega) (fun v8 w8 hox8 hg8 => hKL _ _ ?_)
 refine Fact.L.out ?_
 refine Za ?_
 refine Fact.nil (Zq3 3 4 10 hf ?_)
 clear hf s3 s4 s10 s13 s19 bB; intro fr1 hf sS
 have hb8 := (hb.alloc hb.size _).grown hg8 (by have := hb.size; simp; omega) (fun kk hkk => (hox.lt kk hkk).1)
 rw [List.append_assoc, <- HST.out] at hox8
 refine Fact.block_normal ?_
 refine Zx hK8 ?_
 refine Zr [21] hf ?_
 refine Zq3 3 4 10 hf ?_
 clear hf sS; intro fr1 hf sS
 refine Fact.then_normal ?_
 obtain ⟨s3, s4, s10⟩ := sS
 exact ⟨_, by have := HK.out; omega, i + 1, v8, rfl, by omega, hf, s3, s4, by rw [s10]; rfl, hox8, hb8⟩)
 . (
 have hie : i = 4 := by have h9 := of_decide_eq_false hq; omega
 subst hie
 rw [show (Crc.four n).take 4 = Crc.four n from rfl] at hox
 have hcv := OX.conv hox
 have hres : wl s ++ Crc.four n = Crc.seal' (wl s) := by unfold Crc.seal'; rw [HN.out]
 rw [hres] at hcv
 clear hq hres
 refine Zo ?_
 refine Zs hK4 fun _ hK10 => ?_
 refine Zr [22, 23] hf ?_
 refine Zq1 2 hf ?_
 clear hf sS; intro fr1 hf s2
 refine Zx hK10 ?_
 refine Zret ?_
 exact Fact.ret1 rfl hf s2 ⟨rfl, hb⟩))
theorem open32 (w : World) (s : ByteArray) (hsz : s.size <= 900000000) : Calls Tryz.prog 31 #[.string s] w fun e w1 => e = .returned (.tuple #[.string (openR (Crc.opened (wl s))).1, .bool (openR (Crc.opened (wl s))).2]) /\ Below w.heap.size w w1 := by
 refine Zn1 21 Tryz.func31 fun fr hf s0 => ?_
 refine Ze fun _ hK1 => ?_
 refine Zr [] hf ?_
 refine Zq1 0 hf ?_
 clear hf s0; intro fr1 hf s0
 refine Zx hK1 ?_
 rcases Nat.lt_or_ge s.size 4 with h4 | h4
 . (
 have q1 : decide ((s.size : Int) - 4 < 0) = true := decide_eq_true (by omega)
 refine Ze fun _ hK2 => ?_
 refine Zr [5, 6, 7] hf ?_
 refine Zq2 0 4 hf ?_
 clear hf s0; intro fr1 hf sS
 refine Zs hK2 fun _ hK3 => ?_
 refine Ze fun _ hK4 => rg ?_
 have bB := hf.B9 8 9 10 11 12 13 14 15 16
 iterate 3 refine Za ?_
 refine Zk ?_ (hv := by simp (decide := true) only [Fact.G, reduceIte, hf.size, Fact.N, q1, Fact.N])
 refine Zk ?_ (hv := by simp (decide := true) only [Fact.G, reduceIte, hf.size, Fact.N, q1, Fact.N])
 refine Zk ?_ (hv := by simp (decide := true) only [Fact.G, reduceIte, hf.size, Fact.N, q1, Fact.N])
 refine Zk ?_ (hv := by simp (decide := true) only [Fact.G, reduceIte, hf.size, Fact.N, q1, Fact.N])
 refine Zk ?_ (hv := by simp (decide := true) only [Fact.G, reduceIte, hf.size, Fact.N, q1, Fact.N])
 refine Zk ?_ (hv := by simp (decide := true) only [Fact.G, reduceIte, hf.size, Fact.N, q1, Fact.N])
 refine Za ?_
 refine Fact.nil (Zq3 0 4 17 hf ?_)
 clear hf sS bB; intro fr1 hf sS
 refine Zx hK4 ?_
 refine Fact.cond_t sS.2.2 ?_
 refine Ze fun _ hK5 => ?_
 refine Zr [] hf ?_
 refine Zq2 2 3 hf ?_
 clear hf sS; intro fr1 hf sS
 refine Zx hK5 ?_
 refine Zret ?_
 refine Fact.ret2 rfl hf sS.1 sS.2 ⟨?_, Below.refl _ _⟩
 rw [open_short (by rw [wl_length]; exact h4)]
 rfl)
 . (
 obtain ⟨m, hm⟩ : ∃ m, s.size = m + 4 := ⟨s.size - 4, by omega⟩
 have hml : (s.size : Int) - 4 = (m : Int) := by omega
 have q1 : decide ((m : Int) < 0) = false := decide_eq_false (by omega)
 have hbl : s.extract 0 m = bl ((wl s).take m) := cut_bl
 obtain ⟨p, hp⟩ : ∃ p, bl ((wl s).take m) = p := ⟨_, rfl⟩
 have hpw : wl p = (wl s).take m := by rw [<- hp]; exact wl_bl (fun x hx => wl_lt s x (List.mem_of_mem_take hx))
 have hpz : p.size <= 900000000 := by rw [<- wl_length p, hpw, List.length_take]; omega
 have HML := Lib.hid hml; have HM := Lib.hid hm; have HBL := Lib.hid (hbl.trans hp); have HPW := Lib.hid hpw; clear hml hbl hp hpw hm
 refine Ze fun _ hK6 => rg ?_
 have bB := hf.B3 5 6 7
 iterate 2 refine Za ?_
 refine fp fun K Z => ?_
 go_simp
 try simp (disch := omega) only [Fact.W]
 try simp (disch := omega) only [Fact.W]
 rw [HML.out]
 apply Z.out; clear Z K
 refine Za ?_
 refine Fact.nil (Zq2 0 4 hf ?_)
 clear hf s0 bB; intro fr1 hf sS
 refine Zs hK6 fun _ hK7 => ?_
 refine Ze fun _ hK8 => rg ?_
 have bB := hf.B9 8 9 10 11 12 13 14 15 16
 iterate 3 refine Za ?_
 refine Zg ?_ (hv := by simp (decide := true) only [Fact.G, reduceIte, hf.size, q1, Fact.N])
 refine Zg ?_ (hv := by simp (decide := true) only [Fact.G, reduceIte, hf.size, q1, Fact.N])
 refine og 2 10 false ?_ fun K Z => ?_
 . (
 simp (decide := true) only [Fact.G, reduceIte, hf.size, q1, Fact.N])
 go_simp
 try rw [if_pos (by have := HM.out; omega)]
 try rw [Oper.upon_value]
 rw [HBL.out]
 apply Z.out; clear Z K
 refine og 2 10 false ?_ fun K Z => ?_
 . (
 simp (decide := true) only [Fact.G, reduceIte, hf.size, q1, Fact.N])
 go_simp
 go_at_call 37; refine (seal17 w p hpz).mono ?_; rintro e w1 ⟨rfl, hb1⟩
 rw [HPW.out]
 generalize hq9 : bl (Crc.seal' ((wl s).take m)) = q
 have HQ := Lib.hid hq9; clear hq9
 try dsimp only
 apply Z.out; clear Z K
 refine Zg ?_ (hv := by simp (decide := true) only [Fact.G, reduceIte, hf.size, q1, Fact.N])
 refine Zg ?_ (hv := by simp (decide := true) only [Fact.G, reduceIte, hf.size, q1, Fact.N])
 refine Za ?_
 refine Fact.nil (Zq3 0 4 17 hf ?_)
 clear hf sS bB; intro fr1 hf sS
 refine Zx hK8 ?_
 refine Fact.cond_s sS.2.2 (fun hq => ?_) (fun hq => ?_)
 . (
 have hne : ¬ (Crc.seal' ((wl s).take m) = wl s) := fun e => by have h9 := HQ.out; rw [e, bl_wl] at h9; rw [h9] at hq; simp at hq
 have HNE := Lib.hid hne; clear hne hq
 refine Ze fun _ hK9 => ?_
 refine Zr [] hf ?_
 refine Zq2 2 3 hf ?_
 clear hf sS; intro fr1 hf sS
 refine Zx hK9 ?_
 refine Zret ?_
 refine Fact.ret2 rfl hf sS.1 sS.2 ⟨?_, hb1⟩
 rw [open_not (m := m) (by rw [wl_length]; exact HM.out) HNE.out]
 rfl)
 . (
 have heq : Crc.seal' ((wl s).take m) = wl s := by have h8 : q = s := str_eq9 hq; have h9 := HQ.out; rw [h8] at h9; have h7 := congrArg wl h9; rw [wl_bl (seal_small (fun x hx => wl_lt s x (List.mem_of_mem_take hx)))] at h7; exact h7
 have HEQ := Lib.hid heq; clear heq hq
 refine wp_skip ?_
 refine Zt hK7 fun _ hK10 => ?_
 have bB := hf.B3 18 19 20
 iterate 2 refine Za ?_
 refine fp fun K Z => ?_
 go_simp
 try rw [if_pos (by have := HM.out; omega)]
 try rw [Oper.upon_value]
 rw [HBL.out]
 apply Z.out; clear Z K
 iterate 2 refine Za ?_
 refine Fact.nil (Zq2 2 3 hf ?_)
 clear hf sS bB; intro fr1 hf sS
 refine Zx hK10 ?_
 refine Zret ?_
 refine Fact.ret2 rfl hf sS.1 sS.2 ⟨?_, hb1⟩
 rw [open_yes (m := m) (by rw [wl_length]; exact HM.out) HEQ.out]
 simp only [openR]
 rw [<- HPW.out, bl_wl]))
theorem slice9 (W : World) (g k : Nat) (hk : k <= 9) : (Instr.sliceAt 182 (.pointer (some ⟨g, 0, none⟩)) none (some (.int .i64 (k : Int))) none).run Tryz.prog W = .ok (.slice (some ⟨g, 0, none⟩) k 9) W := by
 have ha : Tryz.prog.arrayLen 182 = 9 := by kernel_rfl
 have hs : ∀ W : World, (sizeOf (Tryz.prog.elem 182)).run Tryz.prog W = .ok 1 W := fun W => by kernel_rfl
 rw [run_sliceAt_array_h (P := Tryz.prog) W 182 ⟨g, 0, none⟩ (by kernel_rfl) .i64 (k : Int) (by omega) (by rw [ha]; omega), hs, ha]
 simp [slicedAt, Result.andThen, Addr.add]
theorem nine_of {l : List Nat} (h : l.length = 9) : ∃ x0 x1 x2 x3 x4 x5 x6 x7 x8, l = [x0, x1, x2, x3, x4, x5, x6, x7, x8] := by
 match l, h with
 | [x0, x1, x2, x3, x4, x5, x6, x7, x8], _ => exact ⟨x0, x1, x2, x3, x4, x5, x6, x7, x8, rfl⟩
theorem lcs_nine {x0 x1 x2 x3 x4 x5 x6 x7 x8 k : Nat} : (lcs [x0, x1, x2, x3, x4, x5, x6, x7, x8] k).toArray = #[.int .u8 x0, .int .u8 x1, .int .u8 x2, .int .u8 x3, .int .u8 x4, .int .u8 x5, .int .u8 x6, .int .u8 x7, .int .u8 x8, .int .i64 k] := rfl
theorem numP_get {n i : Nat} (h : i < (numB n).length) : (numP n)[i]? = (numB n)[i]? := by
 unfold numP
 rw [List.getElem?_append_left h]
theorem numP_cell {w : World} {g n j : Nat} {u : Value} {t : TypeId} (h : w.heap[g]? = some (.cells (lcs (numP n) (numB n).length).toArray t (0, 0))) (hu : (bcs (numB n))[j]? = some u) : w.cell? ⟨g, j, none⟩ = some u := by
 have hj : j < (numB n).length := by have := (List.getElem?_eq_some_iff.1 hu).1; rwa [bcs_length] at this
 unfold bcs at hu
 rw [List.getElem?_map, List.getElem?_eq_getElem hj] at hu
 injection hu with hu
 rw [<- hu]
 exact lcs_at h (by rw [numP_get hj, List.getElem?_eq_getElem hj])
theorem numsB_len0 : ∀ (l : List Nat), (∀ n ∈ l, n < M64) -> (numsB l).length <= 9 * l.length
 | [], _ => by simp [numsB]
 | x :: l, h => by
  have h1 := numsB_len0 l (fun n hn => h n (List.mem_cons_of_mem _ hn))
  have h2 := numB_le (h x (List.mem_cons_self ..))
  have e : numsB (x :: l) = numB x ++ numsB l := by simp [numsB]
  rw [e, List.length_append, List.length_cons]
  omega
theorem numsB_length (l : List Nat) (i : Nat) (h : ∀ n ∈ l, n < M64) : (numsB (l.take i)).length <= 9 * l.length := by
 have := numsB_len0 (l.take i) (fun n hn => h n (List.mem_of_mem_take hn))
 have h2 : (l.take i).length <= l.length := by simp; omega
 omega
theorem lay67 (n : Nat) (hn : n < M64) (w : World) : Calls Tryz.prog 101 #[.int .u64 n] w fun e w1 => e = .returned (.agg (lcs (numP n) (numB n).length).toArray) /\ Below w.heap.size w w1 := by
 rcases Nat.lt_or_ge n 248 with h | h
 ·exact lay_small w n h
 ·exact lay_big w n h hn
theorem size85 (w : World) (n : Nat) (hn : n < M64) : Calls Tryz.prog 137 #[.int .u64 n] w fun e w1 => e = .returned (.int .i64 (numB n).length) /\ Below w.heap.size w w1 := by
 refine Zn1 6 Tryz.func137 fun fr hf s0 => ?_
 refine Ze fun _ hK1 => ?_
 refine Zr [] hf ?_
 refine Zq1 0 hf ?_
 clear hf s0; intro fr1 hf s0
 refine Zt hK1 fun _ hK2 => ?_
 have bB := hf.B3 3 4 5
 refine Za ?_
 refine fp fun K Z => ?_
 go_simp
 go_at_call 101; refine (lay67 n hn w).mono ?_; rintro e w1 ⟨rfl, hb1⟩
 obtain ⟨x0, x1, x2, x3, x4, x5, x6, x7, x8, hx⟩ := nine_of (numP_length hn)
 rw [hx, lcs_nine]
 clear hx
 try dsimp only
 apply Z.out; clear Z K
 iterate 2 refine Za ?_
 refine Fact.nil (Zq1 2 hf ?_)
 clear hf s0 bB; intro fr1 hf s2
 refine Zx hK2 ?_
 refine Zret ?_
 exact Fact.ret1 rfl hf s2 ⟨rfl, hb1⟩
theorem put48 (w : World) (ns : List Nat) (v : Value) (hrn : RN w w.heap.size v ns) (hlen : ns.length <= 1000) (hsm : ∀ n ∈ ns, n < M64) : Calls Tryz.prog 62 #[v] w fun e w1 => e = .returned (.string (bl (numsB ns))) /\ Below w.heap.size w w1 := by
 refine Zn1 24 Tryz.func62 fun fr hf s0 => ?_
 have hrn0 := hrn
 obtain ⟨A, cc, rfl⟩ := hrn.form
 clear hrn
 have HSM := Lib.hid hsm; clear hsm
 refine Ze fun _ hK1 => ?_
 refine Zr [] hf ?_
 refine Zq1 0 hf ?_
 clear hf s0; intro fr1 hf s0
 refine Zs hK1 fun _ hK2 => ?_
 refine Zr [] hf ?_
 refine Zq2 0 3 hf ?_
 clear hf s0; intro fr1 hf sS
 refine Zs hK2 fun _ hK3 => ?_
 refine Ze fun _ hK4 => ?_
 refine Zr [7] hf ?_
 refine Zq4 3 7 8 9 hf ?_
 clear hf sS; intro fr1 hf sS
 refine Zx hK4 ?_
 refine wp_block ?_
 refine wp_loop_ghost (fun gk fr wr => ∃ (i : Nat) (Vb : Value), gk = ns.length - i /\ i <= ns.length /\ Fact.Fr 24 fr /\ fr.tmps[7]? = some (.slice A ns.length cc) /\ fr.tmps[8]? = some (.int .i64 ns.length) /\ fr.tmps[9]? = some (.int .i64 i) /\ fr.tmps[3]? = some Vb /\ OB wr w.heap.size Vb (numsB (ns.take i)) /\ Below w.heap.size w wr) (ns.length) ?_ ?_
 . (
 obtain ⟨s3, s7, s8, s9⟩ := sS
 exact ⟨0, _, rfl, Nat.zero_le _, hf, s7, s8, s9, s3, OB.nil_ _ _, Below.refl _ _⟩)
 . (
 clear hf sS
 rintro gk fr wr ⟨i, Vb, hk, hi, hf, s7, s8, s9, s3, how, hb⟩
 have HK := Lib.hid hk; clear hk
 refine Ze fun _ hK5 => ?_
 refine Zr [] hf ?_
 refine Zq5 3 7 8 9 10 hf ?_
 clear hf s3 s7 s8 s9; intro fr1 hf sS
 refine Zs hK5 fun _ hK6 => ?_
 refine Fact.cond_s sS.2.2.2.2 (fun hq => ?_) (fun hq => ?_)
 . (
 have hlt : i < ns.length := by have h9 := of_decide_eq_true hq; omega
 clear hq
 obtain ⟨n, hin⟩ : ∃ n, ns[i]? = some n := ⟨_, List.getElem?_eq_getElem hlt⟩
 obtain ⟨b, off, rfl, hbB, c0⟩ := (hrn0.below hb).at_ hin
 have hn := HSM.out n (List.mem_of_getElem? hin)
 have hst := numsB_take hin
 obtain ⟨xs, hxs⟩ : ∃ x, numsB (ns.take i) = x := ⟨_, rfl⟩
 have hxl : xs.length <= 9 * ns.length := by rw [<- hxs]; exact numsB_length ns i HSM.out
 rw [hxs] at how hst
 have HST := Lib.hid hst; have HXS := Lib.hid hxs; have HIN := Lib.hid hin; clear hst hxs hin
 obtain ⟨A5, c5, hv5, _⟩ := row_form how
 subst hv5
 have hnl := numP_length hn
 have hn9 := numB_le hn
 refine wp_skip ?_
 refine Zs hK6 fun _ hK7 => ?_
 refine wp_block ?_
 refine Ze fun _ hK8 => ?_
 refine Zr [11, 12] hf ?_
 refine Zq5 3 5 7 8 9 hf ?_
 clear hf sS; intro fr1 hf sS
 refine Zt hK8 fun _ hK9 => ?_
 have bB := hf.B3 13 14 6
 refine Za ?_
 refine fp fun K Z => ?_
 go_simp
 go_at_call 101; refine (lay67 n hn wr).mono ?_; rintro e w2 ⟨rfl, hb2⟩
 have how2 := own_later how hb2
 have hb02 := hb.trans (hb2.mono hb.size)
 try dsimp only
 apply Z.out; clear Z K
 refine Za ?_
 obtain ⟨s3, s5, s7, s8, s9⟩ := sS
 clear bB
 refine Fact.reL (n := 24) (by simp only [Fact.G, hf.size]) hf.defers (fun fr1 hf1 hT => ?_)
 have hKp := Fact.h6 hT 3 6 7 8 9 14
 simp (decide := true) only [Fact.G, hf.size, reduceIte, s3, s7, s8, s9] at hKp
 replace hf := hf1; clear hT hf1 s3 s5 s7 s8 s9
 obtain ⟨s3, s6, s7, s8, s9, s14⟩ := hKp
 refine ⟨?_⟩
 refine wpList_plain rfl fun KL hKL => ?_
 refine wp_store_row 184 _ _ rfl w2.heap.size _ (Fact.eval_tmp s6) (Fact.eval_tmp s14) 184 _ (heap_alloc_new w2 _) (by rw [lcs_size hnl]; kernel_rfl) (by rw [lcs_size hnl]; rfl) (lcs_one _ _) (hKL _ _ ?_)
 rw [World.setRow_alloc_new]
 refine Fact.L.out ?_
 refine Fact.nil (Zq5 3 6 7 8 9 hf ?_)
 clear hf s3 s6 s7 s8 s9 s14; intro fr1 hf sS
 generalize hW3 : w2.alloc (.cells (lcs (numP n) (numB n).length).toArray 184) = W3
 have hx3 : W3.heap[w2.heap.size]? = some (.cells (lcs (numP n) (numB n).length).toArray 184 (0, 0)) := by rw [<- hW3]; exact heap_alloc_new w2 _
 have hb3 : Below w2.heap.size w2 W3 := by rw [<- hW3]; exact (Below.refl _ _).alloc (Nat.le_refl _) _
 clear hW3
 have how3 := own_later how2 hb3
 have hb03 := hb02.trans (hb3.mono hb02.size)
 have z9 := lcs_last hx3 hnl
 have hsl := slice9 W3 w2.heap.size (numB n).length hn9.2
 refine Zx hK9 ?_
 refine rg ?_
 have bB := hf.B6 15 16 17 18 19 20
 iterate 5 refine Za ?_
 obtain ⟨s3, s6, s7, s8, s9⟩ := sS
 clear bB
 refine Fact.reL (n := 24) (by simp only [Fact.G, hf.size]) hf.defers (fun fr1 hf1 hT => ?_)
 have hKp := Fact.h6 hT 3 7 8 9 15 19
 simp (decide := true) only [Fact.G, hf.size, reduceIte, s3, s7, s8, s9] at hKp
 replace hf := hf1; clear hT hf1 s3 s6 s7 s8 s9
 obtain ⟨s3, s7, s8, s9, s15, s19⟩ := hKp
 have bB := hf.b 20
 refine ⟨?_⟩
 refine wpList_plain rfl fun KL hKL => ?_
 refine wp_apps _ _ 31 rfl 5 _ 1 1 Tryz.underlying31 info_u8 rfl (by decide) (by decide) w.heap.size (.slice A5 xs.length c5) xs.length _ (Fact.eval_tmp s15) how3 _ (numB n).length 9 (bcs (numB n)) (Fact.eval_tmp s19) (by rw [bcs_length, Nat.mul_one]) (fun _ => ⟨w2.heap.size, 0, rfl, fun j u hu => by rw [Nat.zero_add]; exact numP_cell hx3 hu⟩) (bcs_one _) (by omega) hb03.size (fun v8 w8 hr8 hg8 hat8 => hKL _ _ ?_)
 refine Fact.L.out ?_
 refine Za ?_
 refine Fact.nil (Zq4 3 7 8 9 hf ?_)
 clear hf s3 s7 s8 s9 s15 s19 bB; intro fr1 hf sS
 have hb8 := hb03.grown hg8 hb03.size (fun kk hkk => (World.ownsRow.lt how3 kk hkk).1)
 have how8 : OB w8 w.heap.size v8 (numsB (ns.take (i + 1))) := by rw [HST.out]; unfold OB; rw [bcs_append, List.length_append]; exact hr8
 refine Fact.block_normal ?_
 refine Zx hK7 ?_
 refine Zr [21] hf ?_
 refine Zq4 3 7 8 9 hf ?_
 clear hf sS; intro fr1 hf sS
 refine Fact.then_normal ?_
 obtain ⟨s3, s7, s8, s9⟩ := sS
 exact ⟨_, by have := HK.out; omega, i + 1, v8, rfl, by omega, hf, s7, s8, by rw [s9]; rfl, s3, how8, hb8⟩)
 . (
 have hie : i = ns.length := by have h9 := of_decide_eq_false hq; omega
 rw [hie, List.take_length] at how
 clear hq hie
 have hcv := OB.conv how
 refine Zo ?_
 refine Zs hK3 fun _ hK10 => ?_
 refine Zr [22, 23] hf ?_
 refine Zq1 2 hf ?_
 clear hf sS; intro fr1 hf s2
 refine Zx hK10 ?_
 refine Zret ?_
 exact Fact.ret1 rfl hf s2 ⟨rfl, hb⟩))
theorem strCells_wl (s : ByteArray) : Lib.strCells s = bcs (wl s) := by
 unfold Lib.strCells bcs wl
 rw [List.map_map]
 rfl
theorem app_str_at {w w' : World} {base n : Nat} {v v' : Value} {xs : List Value} {s : ByteArray} {i : TypeInfo} {ty : TypeId} (hi : Tryz.prog.info? 5 = some i) (hz : i.zero = some (.int .u8 0)) (hsize : i.size = 1) (hby : i.bytes = 1)
  (hown : w.ownsRow base 5 1 v n xs) (hn : n + s.size <= 1000000000) (hr : (Builtin.append_ #[31, 9] ty #[v, .string s]).run Tryz.prog w = .ok v' w') (h0 : v = .slice none 0 0 -> s.size = 0 -> v' = .slice none 0 0) : v'.ownBlock = v.ownBlock \/ v'.ownBlock = some w.heap.size := by
 have hxl : xs.length = n := by simpa using hown.1
 rcases hown.2 with ⟨rfl, rfl⟩ | ⟨g, cap, cur, rfl, hbg, hg, hnc, hcm, hcs, htake⟩
 ·by_cases hm : s.size = 0
  ·rw [h0 rfl hm]; exact .inl rfl
  ·have hr2 := run_append_nil_string (P := Tryz.prog) w 31 9 ty 5 i (.int .u8 0) Tryz.underlying31 Tryz.underlying9 hi hz s (by omega) (by omega) (by rw [hby]; omega)
   rw [hr2] at hr
   injection hr with h1 h2
   rw [<- h1]
   exact .inr rfl
 ·by_cases hroom : n + s.size <= cap
  ·have hr2 := Lib.run_append_room_string (P := Tryz.prog) w 31 9 ty 5 i Tryz.underlying31 Tryz.underlying9 hi hsize g n cap cur hg s hroom (by omega)
   rw [hr2] at hr
   injection hr with h1 h2
   rw [<- h1]
   exact .inl rfl
  ·have holds : ∀ j u, xs[j]? = some u -> w.cell? ((⟨g, 0, none⟩ : Addr).add j) = some u := hown.cells (g := g) rfl
   have hr2 := Lib.run_append_grow_string (P := Tryz.prog) w 31 9 ty 5 i (.int .u8 0) Tryz.underlying31 Tryz.underlying9 hi hz ⟨g, 0, none⟩ n cap xs (by rw [hsize]; simpa using hxl) holds s (by omega) (by omega) (by rw [hby]; exact growslice_fits (by omega) (by omega))
   rw [hr2] at hr
   injection hr with h1 h2
   rw [<- h1]
   exact .inr rfl
theorem wp_appstr {o : Oper} {a : Act} {w : World} {K : Act -> World -> Prop} {Q : Exit -> Act -> World -> Prop} (sl x : Operand) (ho : o.op = .call { callee := .builtin .append, args := #[sl, x], argTypes := #[31, 9] })
  (base : Nat) (v : Value) (l : List Nat) (hs : a.eval sl = v) (hown : OB w base v l) (s : ByteArray) (hx : a.eval x = .string s) (hn : l.length + s.size <= 1000000000) (hbase : base <= w.heap.size)
  (h : ∀ v' w', OB w' base v' (l ++ wl s) -> w.grownBy w' v.ownBlock -> (v'.ownBlock = v.ownBlock \/ v'.ownBlock = some w.heap.size) -> K (a.put o.dst v') w') : Oper.wp Tryz.prog o a w K Q := by
 obtain ⟨i0, hi, hz0, hz1, hz2⟩ := info_parts info_u8
 obtain ⟨v', w', hr, h2, h3, h4⟩ := Lib.run_append_own_string (P := Tryz.prog) w base 31 9 o.type 5 i0 Tryz.underlying31 Tryz.underlying9 hi hz0 hz1 hz2 v l.length (bcs l) hown s (by unfold maxLen; omega) (by omega) hbase
 have hat := app_str_at hi hz0 hz1 hz2 hown hn hr (fun e1 e2 => h4.2 ⟨e1, e2⟩)
 unfold Oper.wp execOp
 simp only [ho, resolve, invoke, builtin, Sem.run_bind, Sem.run_pure, Result.andThen_ok, List.map_toArray, List.map_cons, List.map_nil, hs, hx, hr]
 refine h v' w' ?_ h3 hat
 unfold OB
 rw [bcs_append, List.length_append, wl_length, <- strCells_wl]
 exact h2
/-! a writer: the box g holds the bytes' row bv, and other cells -/
def LW (w : World) (base g : Nat) (rest : List Value) (t : TypeId) (bv : Value) (l : List Nat) : Prop := w.heap[g]? = some (.cells (bv :: rest).toArray t (0, 0)) /\ OB w base bv l /\ bv.ownBlock ≠ some g
def LF (w : World) (g : Nat) (bv : Value) (w1 : World) (bv1 : Value) : Prop := But (fun k => k = g \/ bv.ownBlock = some k) w w1 /\ (bv1.ownBlock = bv.ownBlock \/ ∃ k, bv1.ownBlock = some k /\ w.heap.size <= k)
theorem LF.refl (w : World) (g : Nat) (bv : Value) : LF w g bv w bv := ⟨But.refl _ _, .inl rfl⟩
theorem LF.of_below {w w1 : World} (g : Nat) (bv : Value) (h : Below w.heap.size w w1) : LF w g bv w1 bv := ⟨But.of _ h, .inl rfl⟩
theorem LF.trans {w w1 w2 : World} {g : Nat} {bv b1 b2 : Value} (h : LF w g bv w1 b1) (k : LF w1 g b1 w2 b2) : LF w g bv w2 b2 := by
 refine ⟨⟨k.1.os.trans h.1.os, k.1.tape.trans h.1.tape, k.1.output.trans h.1.output, Nat.le_trans h.1.size k.1.size, fun i hi hn => ?_⟩, ?_⟩
 ·have h1 := h.1.block i hi hn
  have h2 := k.1.block i (Nat.lt_of_lt_of_le hi h.1.size) (fun e => by
   rcases e with e | e
   ·exact hn (.inl e)
   ·rcases h.2 with h3 | ⟨q, h3, h4⟩
    ·exact hn (.inr (by rw [<- h3]; exact e))
    ·rw [h3] at e; injection e with e; omega)
  exact h2.trans h1
 ·rcases k.2 with h3 | ⟨q, h3, h4⟩
  ·rcases h.2 with h5 | ⟨q, h5, h6⟩
   ·exact .inl (h3.trans h5)
   ·exact .inr ⟨q, h3.trans h5, h6⟩
  ·exact .inr ⟨q, h3, Nat.le_trans h.1.size h4⟩
theorem LF.cell {w w1 : World} {g : Nat} {bv b1 : Value} (h : LF w g bv w1 b1) {p : Addr} {v : Value} (hc : w.cell? p = some v) (hg : p.block ≠ g) (ho : bv.ownBlock ≠ some p.block) : w1.cell? p = some v :=
 h.1.cell hc (fun e => e.elim hg ho)
theorem LF.heap {w w1 : World} {g k : Nat} {bv b1 : Value} (h : LF w g bv w1 b1) {o : Obj} (hc : w.heap[k]? = some o) (hg : k ≠ g) (ho : bv.ownBlock ≠ some k) : w1.heap[k]? = some o :=
 h.1.heap hc (fun e => e.elim hg ho)
theorem LF.off {w w1 : World} {g k : Nat} {bv b1 : Value} (h : LF w g bv w1 b1) (hk : k < w.heap.size) (ho : bv.ownBlock ≠ some k) : b1.ownBlock ≠ some k := by
 rcases h.2 with h3 | ⟨q, h3, h4⟩
 ·rw [h3]; exact ho
 ·rw [h3]; intro e; injection e with e; omega
theorem LF.below {w w1 : World} {g base : Nat} {bv b1 : Value} (h : LF w g bv w1 b1) (hb : base <= w.heap.size) (hg : base <= g) (ho : ∀ k, bv.ownBlock = some k -> base <= k) : Below base w w1 :=
 ⟨h.1.os, h.1.tape, h.1.output, h.1.size, fun k hk => h.1.block k (by omega) (fun e => by
  rcases e with e | e
  ·omega
  ·have := ho k e; omega)⟩
theorem LW.lo {w : World} {base g : Nat} {rest : List Value} {t : TypeId} {bv : Value} {l : List Nat} (h : LW w base g rest t bv l) : ∀ k, bv.ownBlock = some k -> base <= k := fun k hk => (World.ownsRow.lt h.2.1 k hk).1
theorem LW.later {w w1 : World} {base g : Nat} {rest : List Value} {t : TypeId} {bv : Value} {l : List Nat} (h : LW w base g rest t bv l) (hb : Below w.heap.size w w1) : LW w1 base g rest t bv l := ⟨(hb.block g (heap_lt h.1)).trans h.1, own_later h.2.1 hb, h.2.2⟩
theorem LW.step {w w1 w4 : World} {base g : Nat} {rest : List Value} {t : TypeId} {bv v4 : Value} {l l4 : List Nat} (h : LW w base g rest t bv l) (hb1 : Below w.heap.size w w1) (hown : OB w4 base v4 l4) (hg : w1.grownBy w4 bv.ownBlock) (hat : v4.ownBlock = bv.ownBlock \/ v4.ownBlock = some w1.heap.size) (hz : w.heap.size <= w1.heap.size) :
  LW (w4.setCell ⟨g, 0, none⟩ v4) base g rest t v4 l4 /\ LF w g bv (w4.setCell ⟨g, 0, none⟩ v4) v4 := by
 have h1 := heap_lt h.1
 have hx1 := (hb1.block g h1).trans h.1
 have hx4 : w4.heap[g]? = some (.cells (bv :: rest).toArray t (0, 0)) := (hg.block g (heap_lt hx1) (fun e => h.2.2 e.symm)).trans hx1
 have hne : v4.ownBlock ≠ some g := by
  rcases hat with e | e
  ·rw [e]; exact h.2.2
  ·rw [e]; intro e2; injection e2 with e2; omega
 refine ⟨⟨?_, own_but hown (But.setCell (S := fun k => k = g) rfl _) (fun k hk e => by subst e; exact hne hk), hne⟩, ?_, ?_⟩
 ·have := set_block (i := 0) hx4 v4
  rw [this]
  simp
 ·have hb : But (fun k => k = g \/ bv.ownBlock = some k) w w4 := (But.of _ hb1).trans ((But.grown (S := fun k => k = g \/ bv.ownBlock = some k) hg (fun k hk => .inr hk)))
  exact hb.trans (But.setCell (.inl rfl) _)
 ·rcases hat with e | e
  ·exact .inl e
  ·exact .inr ⟨_, e, hz⟩
theorem numsB_small : ∀ {l : List Nat}, (∀ n ∈ l, n < M64) -> Small (numsB l)
 | [], _ => Small.nil
 | x :: l, h => by
  have e : numsB (x :: l) = numB x ++ numsB l := by simp [numsB]
  rw [e]
  exact (numB_small (h x (List.mem_cons_self ..))).append (numsB_small (fun n hn => h n (List.mem_cons_of_mem _ hn)))
def PRowN (w0 : World) (base g : Nat) (bv : Value) (rest : List Value) (t : TypeId) (l : List Nat) : Stab.Pr := fun v w => OB w base v l /\ (v.ownBlock = bv.ownBlock \/ ∃ k, v.ownBlock = some k /\ w0.heap.size <= k) /\ w.heap[g]? = some (.cells (bv :: rest).toArray t (0, 0))
theorem PRowN.stable (w0 : World) (base g : Nat) (bv : Value) (rest : List Value) (t : TypeId) (l : List Nat) : Stab.Stable (PRowN w0 base g bv rest t l) := fun v w w' hb ⟨h1, h2, h3⟩ => ⟨own_later h1 hb, h2, (hb.block g (heap_lt h3)).trans h3⟩
theorem PEndN.ne {w0 : World} {g : Nat} {bv v : Value} (h : v.ownBlock = bv.ownBlock \/ ∃ k, v.ownBlock = some k /\ w0.heap.size <= k) (hne : bv.ownBlock ≠ some g) (hg : g < w0.heap.size) : v.ownBlock ≠ some g := by
 rcases h with e | ⟨k, e, h2⟩
 ·rw [e]; exact hne
 ·rw [e]; intro e2; injection e2 with e2; omega
theorem PRowN.ne {w w0 : World} {base g : Nat} {bv v : Value} {rest : List Value} {t : TypeId} {l : List Nat} (h : PRowN w0 base g bv rest t l v w) (hne : bv.ownBlock ≠ some g) (hg : g < w0.heap.size) : v.ownBlock ≠ some g := PEndN.ne h.2.1 hne hg
def PEndN (w0 : World) (base g : Nat) (bv : Value) (rest : List Value) (t : TypeId) (l : List Nat) : Stab.Pr := fun _ w => ∃ v, OB w base v l /\ (v.ownBlock = bv.ownBlock \/ ∃ k, v.ownBlock = some k /\ w0.heap.size <= k) /\ w.heap[g]? = some (.cells (v :: rest).toArray t (0, 0))
theorem PEndN.stable (w0 : World) (base g : Nat) (bv : Value) (rest : List Value) (t : TypeId) (l : List Nat) : Stab.Stable (PEndN w0 base g bv rest t l) := fun _ w w' hb ⟨v, h1, h2, h3⟩ => ⟨v, own_later h1 hb, h2, (hb.block g (heap_lt h3)).trans h3⟩
theorem num29 (w : World) (base g : Nat) (rest : List Value) (t : TypeId) (bv : Value) (l : List Nat) (hlw : LW w base g rest t bv l) (hbase : base <= w.heap.size) (ns : List Nat) (v : Value) (hrn : RN w w.heap.size v ns) (hlen : ns.length <= 1000) (hsm : ∀ n ∈ ns, n < M64) (hll : l.length <= 900000000) : Calls Tryz.prog 35 #[.pointer (some ⟨g, 0, none⟩), v] w fun e w1 => e = .returned (.tuple #[]) /\ ∃ b1, LW w1 base g rest t b1 (l ++ numsB ns) /\ LF w g bv w1 b1 := by
 refine Zn2 14 Tryz.func35 fun fr hf s0 s1 => ?_
 obtain ⟨hx, how, hne⟩ := hlw
 have hlt := heap_lt hx
 have hlo := fun k hk => (World.ownsRow.lt how k hk).1
 have hgb := (heap_lt hx)
 obtain ⟨L2, hL2⟩ : ∃ x, numsB ns = x := ⟨_, rfl⟩
 have hL2s : Small L2 := by rw [<- hL2]; exact numsB_small hsm
 have hL2l : L2.length <= 9 * ns.length := by rw [<- hL2]; exact numsB_len0 ns hsm
 have HL2 := Lib.hid hL2; have HSM := Lib.hid hsm; clear hL2 hsm
 refine Stam.todo_begin (n := 14) (fun _ k => k = g \/ bv.ownBlock = some k) [7, 10] (Stab.OkOps.of (by kernel_rfl)) (fun hok => ?_)
 refine Stam.mvO (k := 0) s0 hf.size hok.out rfl (by kernel_rfl) rfl rfl (.inl rfl) (by kernel_rfl) ?_
 refine Stam.mvO (k := 1) s0 hf.size hok.out rfl (by kernel_rfl) rfl rfl (.inl rfl) (by kernel_rfl) ?_
 apply Stam.tq 2 _ hf hok
 . (
 intro fr1 w1 hh hd hk K Z
 refine Stab.pl ?_
 have s5 := Stam.v 1 0 hd hk []
 have hxe := Stam.ext_at hh [(7, [4, 3]), (10, [])] (by kernel_rfl)
 have hbt := Stam.but_at hh [] [(7, [4, 3]), (10, [])] (by kernel_rfl)
 clear hd hh
 go_simp
 exact Stab.k Z)
 apply Stam.tq 3 _ hf hok
 . (
 intro fr1 w1 hh hd hk K Z
 refine Stab.pl ?_
 have s6 := Stam.v 2 0 hd hk []
 have hxe := Stam.ext_at hh [(7, [4]), (10, [])] (by kernel_rfl)
 have hbt := Stam.but_at hh [] [(7, [4]), (10, [])] (by kernel_rfl)
 clear hd hh
 go_simp
 exact Stab.k Z)
 apply Stam.tq 4 _ hf hok
 . (
 intro fr1 w1 hh hd hk K Z
 refine Stab.pl ?_
 have s7 := Stam.v 3 0 hd hk []
 have hxe := Stam.ext_at hh [(7, []), (10, [])] (by kernel_rfl)
 have hbt := Stam.but_at hh [] [(7, []), (10, [])] (by kernel_rfl)
 clear hd hh
 have z0 := cell_of_row _ _ 0 _ t (0, 0) ((hxe.block g hlt).trans hx)
 simp at z0
 go_simp
 exact Stab.k Z)
 refine Stam.mvO (k := 5) s1 hf.size hok.out rfl (by kernel_rfl) rfl rfl (.inl rfl) (by kernel_rfl) ?_
 apply Stam.tq 6 _ hf hok
 . (
 intro fr1 w1 hh hd hk K Z
 refine Stab.pl ?_
 have s9 := Stam.v 5 0 hd hk []
 have hxe := Stam.ext_at hh [(7, []), (10, [])] (by kernel_rfl)
 have hbt := Stam.but_at hh [] [(7, []), (10, [])] (by kernel_rfl)
 clear hd hh
 go_simp
 go_at_call 62; refine (put48 w1 ns v ((hrn.below hxe).more hxe.size) hlen HSM.out).mono ?_; rintro e w2 ⟨rfl, hb⟩
 rw [HL2.out]
 exact Z.out _ rfl _ _ hb rfl)
 refine Stam.todo_sp (k := 7) (n := 14) (PRowN w base g bv rest t (l ++ L2)) hf.size hok.out rfl (PRowN.stable _ _ _ _ _ _ _) (by kernel_rfl) ?_ ?_
 . (
 intro fr1 w1 hh hd hk K Z
 refine Stab.pl ?_
 have s8 := Stam.v 4 2 hd hk []
 have s10 := Stam.v 6 0 hd hk []
 have hxe := Stam.ext_at hh [(10, [])] (by kernel_rfl)
 have hbt := Stam.but_at hh [] [(10, [])] (by kernel_rfl)
 clear hd hh
 have how2 := own_later how hxe
 have hx2 := (hxe.block g hlt).trans hx
 refine wp_appstr _ _ rfl base bv l (Fact.eval_tmp s8) how2 (bl L2) (Fact.eval_tmp s10) (by rw [bl_size]; omega) (by have := hxe.size; omega) (fun v2 w2 hr3 hg3 hat3 => ?_)
 rw [wl_bl hL2s] at hr3
 exact Z.out _ rfl _ _ (But.grown hg3 (fun k hk => .inr hk)) ⟨hr3, hat3.imp id (fun h => ⟨_, h, hxe.size⟩), (hg3.block g (heap_lt hx2) (fun e => hne e.symm)).trans hx2⟩)
 apply Stam.tq 8 _ hf hok
 . (
 intro fr1 w1 hh hd hk K Z
 refine Stab.pl ?_
 have s4 := Stam.v 0 7 hd hk []
 have hbt := Stam.but_at hh [7] [(10, [9])] (by kernel_rfl)
 clear hd hh
 go_simp
 exact Stab.k Z)
 apply Stam.tq 9 _ hf hok
 . (
 intro fr1 w1 hh hd hk K Z
 refine Stab.pl ?_
 have s12 := Stam.v 8 0 hd hk []
 have hbt := Stam.but_at hh [7] [(10, [])] (by kernel_rfl)
 clear hd hh
 go_simp
 exact Stab.k Z)
 refine Stam.todo_sp (k := 10) (n := 14) (PEndN w base g bv rest t (l ++ L2)) hf.size hok.out rfl (PEndN.stable _ _ _ _ _ _ _) (by kernel_rfl) ?_ ?_
 . (
 intro fr1 w1 hh hd hk K Z
 refine Stab.pl ?_
 have s13 := Stam.v 9 0 hd hk []
 obtain ⟨x11, s11, hp11⟩ := Stam.use (j := 7) (m := 2) hd hk rfl [] (by kernel_rfl) [] (by kernel_rfl) rfl rfl rfl
 obtain ⟨hr11, hl11, hx11⟩ := hp11
 have hbt := Stam.but_at hh [7] [] (by kernel_rfl)
 clear hd hh
 have z0 := cell_of_row _ _ 0 _ t (0, 0) hx11
 simp at z0
 have fz := frozen_of (i := 0) hx11
 obtain ⟨A2, c2, hv2, _⟩ := row_form hr11
 subst hv2
 go_simp
 refine Z.out _ rfl undef _ (But.setCell (.inl rfl) _) ⟨_, own_but hr11 (But.setCell (S := fun k => k = g) rfl _) (fun kk hkk e => by subst e; exact PRowN.ne ⟨hr11, hl11, hx11⟩ hne hlt hkk), hl11, (set_block (i := 0) hx11 _).trans (by simp)⟩)
 refine Stam.todo_facts (n := 14) (by kernel_rfl) hf.size hok.out rfl (fun fr1 w1 hh hg => ?_)
 obtain ⟨_, hlast⟩ := Stam.end_fact (j := 10) (m := 0) hg rfl (by decide) [(7, [])] (by kernel_rfl) rfl
 have hf1 := hh.fr hf
 have hbt := hh.but
 clear hg hh hf hok s0 s1
 have hf := hf1; clear hf1
 obtain ⟨v6, hr6, hl6, hx6⟩ := hlast
 replace hbt := hbt (fun k => k = g \/ bv.ownBlock = some k) (fun m _ b h => h)
 exact Fact.end0 rfl hf ⟨rfl, v6, ⟨hx6, by rw [HL2.out]; exact hr6, PEndN.ne hl6 hne hlt⟩, hbt, hl6⟩
end Dw
end Go.Proofs.YtcddnmhmcieebaaGreatDoor
