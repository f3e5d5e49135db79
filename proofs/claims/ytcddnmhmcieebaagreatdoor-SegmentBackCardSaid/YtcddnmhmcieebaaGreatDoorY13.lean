/- vary: Size, Put. -/
import Derived.Test.YtcddnmhmcieebaaGreatDoorY12
import Derived.Test.YtcddnmhmcieebaaGreatDoorY11
import Derived.Test.YtcddnmhmcieebaaGreatDoorTools
import Derived.Lib.AppendStr
import Derived.Test.YtcddnmhmcieebaaGreatDoorY3
namespace Go.Proofs.YtcddnmhmcieebaaGreatDoor
set_option maxHeartbeats 4000000
set_option maxRecDepth 100000
open Go.RowKit
set_option linter.unusedSimpArgs false
set_option linter.unusedVariables false
set_option linter.unnecessarySimpa false
namespace Dw
theorem slice9 (W : World) (g k : Nat) (hk : k <= 9) : (Instr.sliceAt 182 (.pointer (some ⟨g, 0, none⟩)) none (some (.int .i64 (k : Int))) none).run Tryz.prog W = .ok (.slice (some ⟨g, 0, none⟩) k 9) W := by
 have ha : Tryz.prog.arrayLen 182 = 9 := by kernel_rfl
 have hs : ∀ W : World, (sizeOf (Tryz.prog.elem 182)).run Tryz.prog W = .ok 1 W := fun W => by kernel_rfl
 rw [run_sliceAt_array_h (P := Tryz.prog) W 182 ⟨g, 0, none⟩ (by kernel_rfl) .i64 (k : Int) (by omega) (by rw [ha]; omega), hs, ha]
 simp [slicedAt, Result.andThen, Addr.add]
theorem nine_of {l : List Nat} (h : l.length = 9) : ∃ x0 x1 x2 x3 x4 x5 x6 x7 x8, l = [x0, x1, x2, x3, x4, x5, x6, x7, x8] := by
 match l, h with
 | [x0, x1, x2, x3, x4, x5, x6, x7, x8], _ => exact ⟨x0, x1, x2, x3, x4, x5, x6, x7, x8, rfl⟩
theorem lcs_nine {x0 x1 x2 x3 x4 x5 x6 x7 x8 k : Nat} : (lcs [x0, x1, x2, x3, x4, x5, x6, x7, x8] k).toArray = #[.int .u8 x0, .int .u8 x1, .int .u8 x2, .int .u8 x3, .int .u8 x4, .int .u8 x5, .int .u8 x6, .int .u8 x7, .int .u8 x8, .int .i64 k] := rfl
theorem numP_get {n i : Nat} (h : i < (numB n).length) : (numP n)[i]? = (numB n)[i]? := by
 unfold numP
 rw [List.getElem?_append_left h]
theorem numP_cell {w : World} {g n j : Nat} {u : Value} {t : TypeId} (h : w.heap[g]? = some (.cells (lcs (numP n) (numB n).length).toArray t (0, 0))) (hu : (bcs (numB n))[j]? = some u) : w.cell? ⟨g, j, none⟩ = some u := by
 have hj : j < (numB n).length := by have := (gS1 hu).1; rwa [bcs_length] at this
 unfold bcs at hu
 rw [List.getElem?_map, gE1 hj] at hu
 injection hu with hu
 rw [<- hu]
 exact lcs_at h (by rw [numP_get hj, gE1 hj])
theorem numsB_len0 : ∀ (l : List Nat), (∀ n ∈ l, n < M64) -> (numsB l).length <= 9 * l.length
 | [], _ => by simp [numsB]
 | x :: l, h => by
  have h1 := numsB_len0 l (fun n hn => h n (List.mem_cons_of_mem _ hn))
  have h2 := numB_le (h x (List.mem_cons_self ..))
  have e : numsB (x :: l) = numB x ++ numsB l := by simp [numsB]
  rw [e, List.length_append, List.length_cons]
  omega
theorem numsB_length (l : List Nat) (i : Nat) (h : ∀ n ∈ l, n < M64) : (numsB (l.take i)).length <= 9 * l.length := by
 have := numsB_len0 (l.take i) (fun n hn => h n (List.mem_of_mem_take hn))
 have h2 : (l.take i).length <= l.length := by simp; omega
 omega
theorem lay67 (n : Nat) (hn : n < M64) (w : World) : Calls Tryz.prog 101 #[.int .u64 n] w fun e w1 => e = .returned (.agg (lcs (numP n) (numB n).length).toArray) /\ Below w.heap.size w w1 := by
 rcases Nat.lt_or_ge n 248 with h | h
 ·exact lay_small w n h
 ·exact lay_big w n h hn
theorem size85 (w : World) (n : Nat) (hn : n < M64) : Calls Tryz.prog 137 #[.int .u64 n] w fun e w1 => e = .returned (.int .i64 (numB n).length) /\ Below w.heap.size w w1 := by
 refine Zn1 6 Tryz.func137 fun fr hf s0 => ?_
 refine Ze fun _ hK1 => Zr [] hf ?_
 refine Zq1 0 hf ?_
 clear hf s0; intro fr1 hf s0
 refine Zt hK1 fun _ hK2 => ?_
 have bB := hf.B3 3 4 5
 refine Zy ?_
 refine Zc (lay67 n hn w) ?_; rintro e w1 ⟨rfl, hb1⟩
 obtain ⟨x0, x1, x2, x3, x4, x5, x6, x7, x8, hx⟩ := nine_of (numP_length hn)
 rw [hx, lcs_nine]
 clear hx
 refine Zv ?_
 iterate 2 refine Zy ?_
 refine Fact.nil (Zq1 2 hf ?_)
 clear hf s0 bB; intro fr1 hf s2
 refine Zx hK2 (Zret ?_)
 exact Fact.ret1 rfl hf s2 ⟨rfl, hb1⟩
theorem put48 (w : World) (ns : List Nat) (v : Value) (hrn : RN w w.heap.size v ns) (hlen : ns.length <= 1000) (hsm : ∀ n ∈ ns, n < M64) : Calls Tryz.prog 62 #[v] w fun e w1 => e = .returned (.string (bl (numsB ns))) /\ Below w.heap.size w w1 := by
 refine Zn1 24 Tryz.func62 fun fr hf s0 => ?_
 have hrn0 := hrn
 obtain ⟨A, cc, rfl⟩ := hrn.form
 clear hrn
 have HSM := Lib.hid hsm; clear hsm
 refine Ze fun _ hK1 => Zr [] hf ?_
 refine Zq1 0 hf ?_
 clear hf s0; intro fr1 hf s0
 refine Zs hK1 fun _ hK2 => Zr [] hf ?_
 refine Zq2 0 3 hf ?_
 clear hf s0; intro fr1 hf sS
 refine Zs hK2 fun _ hK3 => Ze fun _ hK4 => Zr [7] hf ?_
 refine Zq4 3 7 8 9 hf ?_
 clear hf sS; intro fr1 hf sS
 refine Zx hK4 (wp_block (wp_loop_ghost (fun gk fr wr => ∃ (i : Nat) (Vb : Value), gk = ns.length - i /\ i <= ns.length /\ Fact.Fr 24 fr /\ fr.tmps[7]? = some (.slice A ns.length cc) /\ fr.tmps[8]? = some (.int .i64 ns.length) /\ fr.tmps[9]? = some (.int .i64 i) /\ fr.tmps[3]? = some Vb /\ OB wr w.heap.size Vb (numsB (ns.take i)) /\ Below w.heap.size w wr) (ns.length) ?_ ?_))
 . (
 obtain ⟨s3, s7, s8, s9⟩ := sS
 exact ⟨0, _, rfl, Nat.zero_le _, hf, s7, s8, s9, s3, OB.nil_ _ _, Below.refl _ _⟩)
 . (
 clear hf sS
 rintro gk fr wr ⟨i, Vb, hk, hi, hf, s7, s8, s9, s3, how, hb⟩
 have HK := Lib.hid hk; clear hk
 refine Ze fun _ hK5 => Zr [] hf ?_
 refine Zq5 3 7 8 9 10 hf ?_
 clear hf s3 s7 s8 s9; intro fr1 hf sS
 refine Zs hK5 fun _ hK6 => Fact.cond_s sS.2.2.2.2 (fun hq => ?_) (fun hq => ?_)
 . (
 have hlt : i < ns.length := by have h9 := of_decide_eq_true hq; omega
 clear hq
 obtain ⟨n, hin⟩ : ∃ n, ns[i]? = some n := ⟨_, gE1 hlt⟩
 obtain ⟨b, off, rfl, hbB, c0⟩ := (hrn0.below hb).at_ hin
 have hn := HSM.out n (gM1 hin)
 have hst := numsB_take hin
 obtain ⟨xs, hxs⟩ : ∃ x, numsB (ns.take i) = x := ⟨_, rfl⟩
 have hxl : xs.length <= 9 * ns.length := by rw [<- hxs]; exact numsB_length ns i HSM.out
 rw [hxs] at how hst
 have HST := Lib.hid hst; have HXS := Lib.hid hxs; have HIN := Lib.hid hin; clear hst hxs hin
 obtain ⟨A5, c5, hv5, _⟩ := row_form how
 subst hv5
 have hnl := numP_length hn
 have hn9 := numB_le hn
 refine wp_skip (Zs hK6 fun _ hK7 => wp_block (Ze fun _ hK8 => Zr [11, 12] hf ?_))
 refine Zq5 3 5 7 8 9 hf ?_
 clear hf sS; intro fr1 hf sS
 refine Zt hK8 fun _ hK9 => ?_
 have bB := hf.B3 13 14 6
 refine Zy ?_
 refine Zc (lay67 n hn wr) ?_; rintro e w2 ⟨rfl, hb2⟩
 have how2 := own_later how hb2
 have hb02 := hb.trans (hb2.mono hb.size)
 refine Zv ?_
 refine Zy ?_
 obtain ⟨s3, s5, s7, s8, s9⟩ := sS
 clear bB
 refine Fact.reL (n := 24) (by simp only [Fact.G, hf.size]) hf.defers (fun fr1 hf1 hT => ?_)
 have hKp := Fact.h6 hT 3 6 7 8 9 14
 simp (decide := true) only [Fact.G, hf.size, reduceIte, s3, s7, s8, s9] at hKp
 replace hf := hf1; clear hT hf1 s3 s5 s7 s8 s9
 obtain ⟨s3, s6, s7, s8, s9, s14⟩ := hKp
 refine ⟨?_⟩
 refine wpList_plain rfl fun KL hKL => ?_
 refine wp_store_row 184 _ _ rfl w2.heap.size _ (Fact.eval_tmp s6) (Fact.eval_tmp s14) 184 _ (heap_alloc_new w2 _) (by rw [lcs_size hnl]; kernel_rfl) (by rw [lcs_size hnl]; rfl) (lcs_one _ _) (hKL _ _ ?_)
 rw [World.setRow_alloc_new]
 refine Fact.L.out ?_
 refine Fact.nil (Zq5 3 6 7 8 9 hf ?_)
 clear hf s3 s6 s7 s8 s9 s14; intro fr1 hf sS
 generalize hW3 : w2.alloc (.cells (lcs (numP n) (numB n).length).toArray 184) = W3
 have hx3 : W3.heap[w2.heap.size]? = some (.cells (lcs (numP n) (numB n).length).toArray 184 (0, 0)) := by rw [<- hW3]; exact heap_alloc_new w2 _
 have hb3 : Below w2.heap.size w2 W3 := by rw [<- hW3]; exact (Below.refl _ _).alloc (Nat.le_refl _) _
 clear hW3
 have how3 := own_later how2 hb3
 have hb03 := hb02.trans (hb3.mono hb02.size)
 have z9 := lcs_last hx3 hnl
 have hsl := slice9 W3 w2.heap.size (numB n).length hn9.2
 refine Zx hK9 (rg ?_)
 have bB := hf.B6 15 16 17 18 19 20
 iterate 5 refine Zy ?_
 obtain ⟨s3, s6, s7, s8, s9⟩ := sS
 clear bB
 refine Fact.reL (n := 24) (by simp only [Fact.G, hf.size]) hf.defers (fun fr1 hf1 hT => ?_)
 have hKp := Fact.h6 hT 3 7 8 9 15 19
 simp (decide := true) only [Fact.G, hf.size, reduceIte, s3, s7, s8, s9] at hKp
 replace hf := hf1; clear hT hf1 s3 s6 s7 s8 s9
 obtain ⟨s3, s7, s8, s9, s15, s19⟩ := hKp
 have bB := hf.b 20
 refine ⟨?_⟩
 refine wpList_plain rfl fun KL hKL => ?_
 refine wp_apps _ _ 31 rfl 5 _ 1 1 Tryz.underlying31 info_u8 rfl (by decide) (by decide) w.heap.size (.slice A5 xs.length c5) xs.length _ (Fact.eval_tmp s15) how3 _ (numB n).length 9 (bcs (numB n)) (Fact.eval_tmp s19) (by rw [bcs_length, Nat.mul_one]) (fun _ => ⟨w2.heap.size, 0, rfl, fun j u hu => by rw [Nat.zero_add]; exact numP_cell hx3 hu⟩) (bcs_one _) (by omega) hb03.size (fun v8 w8 hr8 hg8 hat8 => hKL _ _ ?_)
 refine Fact.L.out ?_
 refine Zy ?_
 refine Fact.nil (Zq4 3 7 8 9 hf ?_)
 clear hf s3 s7 s8 s9 s15 s19 bB; intro fr1 hf sS
 have hb8 := hb03.grown hg8 hb03.size (fun kk hkk => (World.ownsRow.lt how3 kk hkk).1)
 have how8 : OB w8 w.heap.size v8 (numsB (ns.take (i + 1))) := by rw [HST.out]; unfold OB; rw [bcs_append, List.length_append]; exact hr8
 refine Fact.block_normal (Zx hK7 (Zr [21] hf ?_))
 refine Zq4 3 7 8 9 hf ?_
 clear hf sS; intro fr1 hf sS
 refine Fact.then_normal ?_
 obtain ⟨s3, s7, s8, s9⟩ := sS
 exact ⟨_, by have := HK.out; omega, i + 1, v8, rfl, by omega, hf, s7, s8, by rw [s9]; rfl, s3, how8, hb8⟩)
 . (
 have hie : i = ns.length := by have h9 := of_decide_eq_false hq; omega
 rw [hie, List.take_length] at how
 clear hq hie
 have hcv := OB.conv how
 refine Zo ?_
 refine Zs hK3 fun _ hK10 => Zr [22, 23] hf ?_
 refine Zq1 2 hf ?_
 clear hf sS; intro fr1 hf s2
 refine Zx hK10 (Zret ?_)
 exact Fact.ret1 rfl hf s2 ⟨rfl, hb⟩))
theorem strCells_wl (s : ByteArray) : Lib.strCells s = bcs (wl s) := by
 unfold Lib.strCells bcs wl
 rw [List.map_map]
 rfl
theorem app_str_at {w w' : World} {base n : Nat} {v v' : Value} {xs : List Value} {s : ByteArray} {i : TypeInfo} {ty : TypeId} (hi : Tryz.prog.info? 5 = some i) (hz : i.zero = some (.int .u8 0)) (hsize : i.size = 1) (hby : i.bytes = 1)
  (hown : w.ownsRow base 5 1 v n xs) (hn : n + s.size <= 1000000000) (hr : (Builtin.append_ #[31, 9] ty #[v, .string s]).run Tryz.prog w = .ok v' w') (h0 : v = .slice none 0 0 -> s.size = 0 -> v' = .slice none 0 0) : v'.ownBlock = v.ownBlock \/ v'.ownBlock = some w.heap.size := by
 have hxl : xs.length = n := by simpa using hown.1
 rcases hown.2 with ⟨rfl, rfl⟩ | ⟨g, cap, cur, rfl, hbg, hg, hnc, hcm, hcs, htake⟩
 ·by_cases hm : s.size = 0
  ·rw [h0 rfl hm]; exact .inl rfl
  ·have hr2 := run_append_nil_string (P := Tryz.prog) w 31 9 ty 5 i (.int .u8 0) Tryz.underlying31 Tryz.underlying9 hi hz s (by omega) (by omega) (by rw [hby]; omega)
   rw [hr2] at hr
   injection hr with h1 h2
   rw [<- h1]
   exact .inr rfl
 ·by_cases hroom : n + s.size <= cap
  ·have hr2 := Lib.run_append_room_string (P := Tryz.prog) w 31 9 ty 5 i Tryz.underlying31 Tryz.underlying9 hi hsize g n cap cur hg s hroom (by omega)
   rw [hr2] at hr
   injection hr with h1 h2
   rw [<- h1]
   exact .inl rfl
  ·have holds : ∀ j u, xs[j]? = some u -> w.cell? ((⟨g, 0, none⟩ : Addr).add j) = some u := hown.cells (g := g) rfl
   have hr2 := Lib.run_append_grow_string (P := Tryz.prog) w 31 9 ty 5 i (.int .u8 0) Tryz.underlying31 Tryz.underlying9 hi hz ⟨g, 0, none⟩ n cap xs (by rw [hsize]; simpa using hxl) holds s (by omega) (by omega) (by rw [hby]; exact growslice_fits (by omega) (by omega))
   rw [hr2] at hr
   injection hr with h1 h2
   rw [<- h1]
   exact .inr rfl
theorem wp_appstr {o : Oper} {a : Act} {w : World} {K : Act -> World -> Prop} {Q : Exit -> Act -> World -> Prop} (sl x : Operand) (ho : o.op = .call { callee := .builtin .append, args := #[sl, x], argTypes := #[31, 9] })
  (base : Nat) (v : Value) (l : List Nat) (hs : a.eval sl = v) (hown : OB w base v l) (s : ByteArray) (hx : a.eval x = .string s) (hn : l.length + s.size <= 1000000000) (hbase : base <= w.heap.size)
  (h : ∀ v' w', OB w' base v' (l ++ wl s) -> w.grownBy w' v.ownBlock -> (v'.ownBlock = v.ownBlock \/ v'.ownBlock = some w.heap.size) -> K (a.put o.dst v') w') : Oper.wp Tryz.prog o a w K Q := by
 obtain ⟨i0, hi, hz0, hz1, hz2⟩ := info_parts info_u8
 obtain ⟨v', w', hr, h2, h3, h4⟩ := Lib.run_append_own_string (P := Tryz.prog) w base 31 9 o.type 5 i0 Tryz.underlying31 Tryz.underlying9 hi hz0 hz1 hz2 v l.length (bcs l) hown s (by unfold maxLen; omega) (by omega) hbase
 have hat := app_str_at hi hz0 hz1 hz2 hown hn hr (fun e1 e2 => h4.2 ⟨e1, e2⟩)
 unfold Oper.wp execOp
 simp only [ho, resolve, invoke, builtin, Sem.run_bind, Sem.run_pure, Result.andThen_ok, List.map_toArray, List.map_cons, List.map_nil, hs, hx, hr]
 refine h v' w' ?_ h3 hat
 unfold OB
 rw [bcs_append, List.length_append, wl_length, <- strCells_wl]
 exact h2
/-! a writer: the box g holds the bytes' row bv, and other cells -/
def LW (w : World) (base g : Nat) (rest : List Value) (t : TypeId) (bv : Value) (l : List Nat) : Prop := w.heap[g]? = some (.cells (bv :: rest).toArray t (0, 0)) /\ OB w base bv l /\ bv.ownBlock ≠ some g
def LF (w : World) (g : Nat) (bv : Value) (w1 : World) (bv1 : Value) : Prop := But (fun k => k = g \/ bv.ownBlock = some k) w w1 /\ (bv1.ownBlock = bv.ownBlock \/ ∃ k, bv1.ownBlock = some k /\ w.heap.size <= k)
theorem LF.refl (w : World) (g : Nat) (bv : Value) : LF w g bv w bv := ⟨But.refl _ _, .inl rfl⟩
theorem LF.of_below {w w1 : World} (g : Nat) (bv : Value) (h : Below w.heap.size w w1) : LF w g bv w1 bv := ⟨But.of _ h, .inl rfl⟩
theorem LF.trans {w w1 w2 : World} {g : Nat} {bv b1 b2 : Value} (h : LF w g bv w1 b1) (k : LF w1 g b1 w2 b2) : LF w g bv w2 b2 := by
 refine ⟨⟨k.1.os.trans h.1.os, k.1.tape.trans h.1.tape, k.1.output.trans h.1.output, Nat.le_trans h.1.size k.1.size, fun i hi hn => ?_⟩, ?_⟩
 ·have h1 := h.1.block i hi hn
  have h2 := k.1.block i (Nat.lt_of_lt_of_le hi h.1.size) (fun e => by
   rcases e with e | e
   ·exact hn (.inl e)
   ·rcases h.2 with h3 | ⟨q, h3, h4⟩
    ·exact hn (.inr (by rw [<- h3]; exact e))
    ·rw [h3] at e; injection e with e; omega)
  exact h2.trans h1
 ·rcases k.2 with h3 | ⟨q, h3, h4⟩
  ·rcases h.2 with h5 | ⟨q, h5, h6⟩
   ·exact .inl (h3.trans h5)
   ·exact .inr ⟨q, h3.trans h5, h6⟩
  ·exact .inr ⟨q, h3, Nat.le_trans h.1.size h4⟩
theorem LF.cell {w w1 : World} {g : Nat} {bv b1 : Value} (h : LF w g bv w1 b1) {p : Addr} {v : Value} (hc : w.cell? p = some v) (hg : p.block ≠ g) (ho : bv.ownBlock ≠ some p.block) : w1.cell? p = some v :=
 h.1.cell hc (fun e => e.elim hg ho)
theorem LF.heap {w w1 : World} {g k : Nat} {bv b1 : Value} (h : LF w g bv w1 b1) {o : Obj} (hc : w.heap[k]? = some o) (hg : k ≠ g) (ho : bv.ownBlock ≠ some k) : w1.heap[k]? = some o :=
 h.1.heap hc (fun e => e.elim hg ho)
theorem LF.off {w w1 : World} {g k : Nat} {bv b1 : Value} (h : LF w g bv w1 b1) (hk : k < w.heap.size) (ho : bv.ownBlock ≠ some k) : b1.ownBlock ≠ some k := by
 rcases h.2 with h3 | ⟨q, h3, h4⟩
 ·rw [h3]; exact ho
 ·rw [h3]; intro e; injection e with e; omega
theorem LF.below {w w1 : World} {g base : Nat} {bv b1 : Value} (h : LF w g bv w1 b1) (hb : base <= w.heap.size) (hg : base <= g) (ho : ∀ k, bv.ownBlock = some k -> base <= k) : Below base w w1 :=
 ⟨h.1.os, h.1.tape, h.1.output, h.1.size, fun k hk => h.1.block k (by omega) (fun e => by
  rcases e with e | e
  ·omega
  ·have := ho k e; omega)⟩
theorem LW.lo {w : World} {base g : Nat} {rest : List Value} {t : TypeId} {bv : Value} {l : List Nat} (h : LW w base g rest t bv l) : ∀ k, bv.ownBlock = some k -> base <= k := fun k hk => (World.ownsRow.lt h.2.1 k hk).1
theorem LW.later {w w1 : World} {base g : Nat} {rest : List Value} {t : TypeId} {bv : Value} {l : List Nat} (h : LW w base g rest t bv l) (hb : Below w.heap.size w w1) : LW w1 base g rest t bv l := ⟨(hb.block g (heap_lt h.1)).trans h.1, own_later h.2.1 hb, h.2.2⟩
theorem LW.step {w w1 w4 : World} {base g : Nat} {rest : List Value} {t : TypeId} {bv v4 : Value} {l l4 : List Nat} (h : LW w base g rest t bv l) (hb1 : Below w.heap.size w w1) (hown : OB w4 base v4 l4) (hg : w1.grownBy w4 bv.ownBlock) (hat : v4.ownBlock = bv.ownBlock \/ v4.ownBlock = some w1.heap.size) (hz : w.heap.size <= w1.heap.size) :
  LW (w4.setCell ⟨g, 0, none⟩ v4) base g rest t v4 l4 /\ LF w g bv (w4.setCell ⟨g, 0, none⟩ v4) v4 := by
 have h1 := heap_lt h.1
 have hx1 := (hb1.block g h1).trans h.1
 have hx4 : w4.heap[g]? = some (.cells (bv :: rest).toArray t (0, 0)) := (hg.block g (heap_lt hx1) (fun e => h.2.2 e.symm)).trans hx1
 have hne : v4.ownBlock ≠ some g := by
  rcases hat with e | e
  ·rw [e]; exact h.2.2
  ·rw [e]; intro e2; injection e2 with e2; omega
 refine ⟨⟨?_, own_but hown (But.setCell (S := fun k => k = g) rfl _) (fun k hk e => by subst e; exact hne hk), hne⟩, ?_, ?_⟩
 ·have := set_block (i := 0) hx4 v4
  rw [this]
  simp
 ·have hb : But (fun k => k = g \/ bv.ownBlock = some k) w w4 := (But.of _ hb1).trans ((But.grown (S := fun k => k = g \/ bv.ownBlock = some k) hg (fun k hk => .inr hk)))
  exact hb.trans (But.setCell (.inl rfl) _)
 ·rcases hat with e | e
  ·exact .inl e
  ·exact .inr ⟨_, e, hz⟩
theorem numsB_small : ∀ {l : List Nat}, (∀ n ∈ l, n < M64) -> Small (numsB l)
 | [], _ => Small.nil
 | x :: l, h => by
  have e : numsB (x :: l) = numB x ++ numsB l := by simp [numsB]
  rw [e]
  exact (numB_small (h x (List.mem_cons_self ..))).append (numsB_small (fun n hn => h n (List.mem_cons_of_mem _ hn)))
def PRowN (w0 : World) (base g : Nat) (bv : Value) (rest : List Value) (t : TypeId) (l : List Nat) : Stab.Pr := fun v w => OB w base v l /\ (v.ownBlock = bv.ownBlock \/ ∃ k, v.ownBlock = some k /\ w0.heap.size <= k) /\ w.heap[g]? = some (.cells (bv :: rest).toArray t (0, 0))
theorem PRowN.stable (w0 : World) (base g : Nat) (bv : Value) (rest : List Value) (t : TypeId) (l : List Nat) : Stab.Stable (PRowN w0 base g bv rest t l) := fun v w w' hb ⟨h1, h2, h3⟩ => ⟨own_later h1 hb, h2, (hb.block g (heap_lt h3)).trans h3⟩
theorem PEndN.ne {w0 : World} {g : Nat} {bv v : Value} (h : v.ownBlock = bv.ownBlock \/ ∃ k, v.ownBlock = some k /\ w0.heap.size <= k) (hne : bv.ownBlock ≠ some g) (hg : g < w0.heap.size) : v.ownBlock ≠ some g := by
 rcases h with e | ⟨k, e, h2⟩
 ·rw [e]; exact hne
 ·rw [e]; intro e2; injection e2 with e2; omega
theorem PRowN.ne {w w0 : World} {base g : Nat} {bv v : Value} {rest : List Value} {t : TypeId} {l : List Nat} (h : PRowN w0 base g bv rest t l v w) (hne : bv.ownBlock ≠ some g) (hg : g < w0.heap.size) : v.ownBlock ≠ some g := PEndN.ne h.2.1 hne hg
def PEndN (w0 : World) (base g : Nat) (bv : Value) (rest : List Value) (t : TypeId) (l : List Nat) : Stab.Pr := fun _ w => ∃ v, OB w base v l /\ (v.ownBlock = bv.ownBlock \/ ∃ k, v.ownBlock = some k /\ w0.heap.size <= k) /\ w.heap[g]? = some (.cells (v :: rest).toArray t (0, 0))
theorem PEndN.stable (w0 : World) (base g : Nat) (bv : Value) (rest : List Value) (t : TypeId) (l : List Nat) : Stab.Stable (PEndN w0 base g bv rest t l) := fun _ w w' hb ⟨v, h1, h2, h3⟩ => ⟨v, own_later h1 hb, h2, (hb.block g (heap_lt h3)).trans h3⟩
theorem num29 (w : World) (base g : Nat) (rest : List Value) (t : TypeId) (bv : Value) (l : List Nat) (hlw : LW w base g rest t bv l) (hbase : base <= w.heap.size) (ns : List Nat) (v : Value) (hrn : RN w w.heap.size v ns) (hlen : ns.length <= 1000) (hsm : ∀ n ∈ ns, n < M64) (hll : l.length <= 900000000) : Calls Tryz.prog 35 #[.pointer (some ⟨g, 0, none⟩), v] w fun e w1 => e = .returned (.tuple #[]) /\ ∃ b1, LW w1 base g rest t b1 (l ++ numsB ns) /\ LF w g bv w1 b1 := by
 refine Zn2 14 Tryz.func35 fun fr hf s0 s1 => ?_
 obtain ⟨hx, how, hne⟩ := hlw
 have hlt := heap_lt hx
 have hlo := fun k hk => (World.ownsRow.lt how k hk).1
 have hgb := (heap_lt hx)
 obtain ⟨L2, hL2⟩ : ∃ x, numsB ns = x := ⟨_, rfl⟩
 have hL2s : Small L2 := by rw [<- hL2]; exact numsB_small hsm
 have hL2l : L2.length <= 9 * ns.length := by rw [<- hL2]; exact numsB_len0 ns hsm
 have HL2 := Lib.hid hL2; have HSM := Lib.hid hsm; clear hL2 hsm
 refine Stam.todo_begin (n := 14) (fun _ k => k = g \/ bv.ownBlock = some k) [7, 10] (Stab.OkOps.of (by kernel_rfl)) (fun hok => ?_)
 refine Stam.mvO (k := 0) s0 hf.size hok.out rfl (by kernel_rfl) rfl rfl (.inl rfl) (by kernel_rfl) ?_
 refine Stam.mvO (k := 1) s0 hf.size hok.out rfl (by kernel_rfl) rfl rfl (.inl rfl) (by kernel_rfl) ?_
 apply Stam.tq 2 _ hf hok
 . (
 intro fr1 w1 hh hd hk K Z
 refine Stab.pl ?_
 have s5 := Stam.v 1 0 hd hk []
 have hxe := Stam.ext_at hh [(7, [4, 3]), (10, [])] (by kernel_rfl)
 have hbt := Stam.but_at hh [] [(7, [4, 3]), (10, [])] (by kernel_rfl)
 clear hd hh
 go_simp
 exact Stab.k Z)
 apply Stam.tq 3 _ hf hok
 . (
 intro fr1 w1 hh hd hk K Z
 refine Stab.pl ?_
 have s6 := Stam.v 2 0 hd hk []
 have hxe := Stam.ext_at hh [(7, [4]), (10, [])] (by kernel_rfl)
 have hbt := Stam.but_at hh [] [(7, [4]), (10, [])] (by kernel_rfl)
 clear hd hh
 go_simp
 exact Stab.k Z)
 apply Stam.tq 4 _ hf hok
 . (
 intro fr1 w1 hh hd hk K Z
 refine Stab.pl ?_
 have s7 := Stam.v 3 0 hd hk []
 have hxe := Stam.ext_at hh [(7, []), (10, [])] (by kernel_rfl)
 have hbt := Stam.but_at hh [] [(7, []), (10, [])] (by kernel_rfl)
 clear hd hh
 have z0 := cell_of_row _ _ 0 _ t (0, 0) ((hxe.block g hlt).trans hx)
 simp at z0
 go_simp
 exact Stab.k Z)
 refine Stam.mvO (k := 5) s1 hf.size hok.out rfl (by kernel_rfl) rfl rfl (.inl rfl) (by kernel_rfl) ?_
 apply Stam.tq 6 _ hf hok
 . (
 intro fr1 w1 hh hd hk K Z
 refine Stab.pl ?_
 have s9 := Stam.v 5 0 hd hk []
 have hxe := Stam.ext_at hh [(7, []), (10, [])] (by kernel_rfl)
 have hbt := Stam.but_at hh [] [(7, []), (10, [])] (by kernel_rfl)
 clear hd hh
 go_simp
 go_at_call 62; refine (put48 w1 ns v ((hrn.below hxe).more hxe.size) hlen HSM.out).mono ?_; rintro e w2 ⟨rfl, hb⟩
 rw [HL2.out]
 exact Z.out _ rfl _ _ hb rfl)
 refine Stam.todo_sp (k := 7) (n := 14) (PRowN w base g bv rest t (l ++ L2)) hf.size hok.out rfl (PRowN.stable _ _ _ _ _ _ _) (by kernel_rfl) ?_ ?_
 . (
 intro fr1 w1 hh hd hk K Z
 refine Stab.pl ?_
 have s8 := Stam.v 4 2 hd hk []
 have s10 := Stam.v 6 0 hd hk []
 have hxe := Stam.ext_at hh [(10, [])] (by kernel_rfl)
 have hbt := Stam.but_at hh [] [(10, [])] (by kernel_rfl)
 clear hd hh
 have how2 := own_later how hxe
 have hx2 := (hxe.block g hlt).trans hx
 refine wp_appstr _ _ rfl base bv l (Fact.eval_tmp s8) how2 (bl L2) (Fact.eval_tmp s10) (by rw [bl_size]; omega) (by have := hxe.size; omega) (fun v2 w2 hr3 hg3 hat3 => ?_)
 rw [wl_bl hL2s] at hr3
 exact Z.out _ rfl _ _ (But.grown hg3 (fun k hk => .inr hk)) ⟨hr3, hat3.imp id (fun h => ⟨_, h, hxe.size⟩), (hg3.block g (heap_lt hx2) (fun e => hne e.symm)).trans hx2⟩)
 apply Stam.tq 8 _ hf hok
 . (
 intro fr1 w1 hh hd hk K Z
 refine Stab.pl ?_
 have s4 := Stam.v 0 7 hd hk []
 have hbt := Stam.but_at hh [7] [(10, [9])] (by kernel_rfl)
 clear hd hh
 go_simp
 exact Stab.k Z)
 apply Stam.tq 9 _ hf hok
 . (
 intro fr1 w1 hh hd hk K Z
 refine Stab.pl ?_
 have s12 := Stam.v 8 0 hd hk []
 have hbt := Stam.but_at hh [7] [(10, [])] (by kernel_rfl)
 clear hd hh
 go_simp
 exact Stab.k Z)
 refine Stam.todo_sp (k := 10) (n := 14) (PEndN w base g bv rest t (l ++ L2)) hf.size hok.out rfl (PEndN.stable _ _ _ _ _ _ _) (by kernel_rfl) ?_ ?_
 . (
 intro fr1 w1 hh hd hk K Z
 refine Stab.pl ?_
 have s13 := Stam.v 9 0 hd hk []
 obtain ⟨x11, s11, hp11⟩ := Stam.use (j := 7) (m := 2) hd hk rfl [] (by kernel_rfl) [] (by kernel_rfl) rfl rfl rfl
 obtain ⟨hr11, hl11, hx11⟩ := hp11
 have hbt := Stam.but_at hh [7] [] (by kernel_rfl)
 clear hd hh
 have z0 := cell_of_row _ _ 0 _ t (0, 0) hx11
 simp at z0
 have fz := frozen_of (i := 0) hx11
 obtain ⟨A2, c2, hv2, _⟩ := row_form hr11
 subst hv2
 go_simp
 refine Z.out _ rfl undef _ (But.setCell (.inl rfl) _) ⟨_, own_but hr11 (But.setCell (S := fun k => k = g) rfl _) (fun kk hkk e => by subst e; exact PRowN.ne ⟨hr11, hl11, hx11⟩ hne hlt hkk), hl11, (set_block (i := 0) hx11 _).trans (by simp)⟩)
 refine Stam.todo_facts (n := 14) (by kernel_rfl) hf.size hok.out rfl (fun fr1 w1 hh hg => ?_)
 obtain ⟨_, hlast⟩ := Stam.end_fact (j := 10) (m := 0) hg rfl (by decide) [(7, [])] (by kernel_rfl) rfl
 have hf1 := hh.fr hf
 have hbt := hh.but
 clear hg hh hf hok s0 s1
 have hf := hf1; clear hf1
 obtain ⟨v6, hr6, hl6, hx6⟩ := hlast
 replace hbt := hbt (fun k => k = g \/ bv.ownBlock = some k) (fun m _ b h => h)
 exact Fact.end0 rfl hf ⟨rfl, v6, ⟨hx6, by rw [HL2.out]; exact hr6, PEndN.ne hl6 hne hlt⟩, hbt, hl6⟩
def arcB (i : Nat) (a : Arc) : List Nat := a.byte :: numsB [a.out, i - a.to.toNat]
def arcsB (i : Nat) (l : List Arc) : List Nat := l.flatMap (arcB i)
def headB (s : State) : List Nat := numsB (if s.final then [2 * s.arcs.length + 1, s.out] else [2 * s.arcs.length])
def stB (i : Nat) (s : State) : List Nat := headB s ++ arcsB i s.arcs
theorem arcsB_take {l : List Arc} {i k : Nat} {a : Arc} (h : l[k]? = some a) : arcsB i (l.take (k + 1)) = arcsB i (l.take k) ++ arcB i a := by
 rw [List.take_add_one, h]
 simp [arcsB]
theorem arcB_le {i : Nat} {a : Arc} (h : okA a) (hi : i <= 1000000) : (arcB i a).length <= 19 := by
 have h1 := (numB_le (n := a.out) h.2.1).2
 have h2 := (numB_le (n := i - a.to.toNat) (by unfold M64; omega)).2
 simp [arcB, numsB]
 omega
theorem arcsB_len {i : Nat} (hi : i <= 1000000) : ∀ l : List Arc, (∀ a ∈ l, okA a) -> (arcsB i l).length <= 19 * l.length
 | [], _ => by simp [arcsB]
 | a :: l, h => by
  have h1 := arcB_le (h a (List.mem_cons_self ..)) hi
  have h2 := arcsB_len hi l (fun x hx => h x (List.mem_cons_of_mem _ hx))
  simp only [arcsB, List.flatMap_cons, List.length_append, List.length_cons] at h2 |-
  omega
theorem arcsB_le {l : List Arc} (i k : Nat) (h : ∀ a ∈ l, okA a) (hi : i <= 1000000) : (arcsB i (l.take k)).length <= 19 * l.length := by
 have h1 := arcsB_len hi (l.take k) (fun a ha => h a (List.mem_of_mem_take ha))
 have h2 : (l.take k).length <= l.length := by simp; omega
 omega
theorem headB_le {s : State} (h : s.out < 18446744073709551616) (hl : s.arcs.length <= 1000) : (headB s).length <= 18 := by
 unfold headB
 split
 ·have h1 := (numB_le (n := s.out) h).2
  have h2 := (numB_le (n := 2 * s.arcs.length + 1) (by unfold M64; omega)).2
  simp [numsB]
  omega
 ·have h2 := (numB_le (n := 2 * s.arcs.length) (by unfold M64; omega)).2
  simp [numsB]
  omega
theorem below_less {N B : Nat} {w w' : World} (h : Below B w w') (hN : N <= B) : Below N w w' := ⟨h.os, h.tape, h.output, h.size, fun i hi => h.block i (by omega)⟩
def RNs (ns : List Nat) : Stab.Pr := fun v w => RN w w.heap.size v ns
theorem RNs.stable (ns : List Nat) : Stab.Stable (RNs ns) := fun v w w' hb h => (RN.below h hb).more hb.size
theorem rn_new (w : World) (ns : List Nat) (t : TypeId) : RN (w.alloc (.cells (ns.map fun (x : Nat) => Value.int .u64 x).toArray t)) (w.alloc (.cells (ns.map fun (x : Nat) => Value.int .u64 x).toArray t)).heap.size (.slice (some ⟨w.heap.size, 0, none⟩) ns.length ns.length) ns :=
 ⟨_, _, rfl, fun _ => ⟨_, 0, rfl, by simp, fun i x hx => by
  rw [Nat.zero_add]
  exact lit_new w _ t i _ (by rw [List.getElem?_map, hx]; rfl)⟩⟩
theorem state30 (w : World) (N base g : Nat) (bv : Value) (l : List Nat) (sv : Value) (init : Nat) (ss : List State) (hlw : LW w base g [sv, .int .u64 init] 91 bv l) (hbase : base <= w.heap.size) (hgb : base <= g) (hN : N <= base) (hrs : RSN w N sv ss) (i : Nat) (s : State) (hi : ss[i]? = some s) (hok : okS s) (h256 : s.arcs.length <= 256) (hto : ∀ a ∈ s.arcs, 0 <= a.to /\ a.to < (i : Int)) (hlen : ss.length <= 1000000) (hll : l.length <= 899990000) : Calls Tryz.prog 36 #[.pointer (some ⟨g, 0, none⟩), .int .i64 i] w fun e w1 => e = .returned (.tuple #[]) /\ ∃ b1, LW w1 base g [sv, .int .u64 init] 91 b1 (l ++ stB i s) /\ LF w g bv w1 b1 := by
 refine Zn2 71 Tryz.func36 fun fr hf s0 s1 => ?_
 obtain ⟨A, cc, rfl, hcc⟩ := hrs.form
 have hgl := heap_lt hlw.1
 have c1 : w.cell? ⟨g, 1, none⟩ = some (.slice A ss.length cc) := by rw [cell_of_row _ _ 1 _ _ (0, 0) hlw.1]; rfl
 obtain ⟨b, off, av, rfl, hbN, hat⟩ := hrs.at_ hi
 have d0 := hat.c0; have d1 := hat.c1; have d2 := hat.c2
 have hra := hat.arcs
 obtain ⟨A2, c2, rfl, _⟩ := hat.arcs.form
 have hil := (gS1 hi).1
 have HI := Lib.hid hi; have HOK := Lib.hid hok; have HTO := Lib.hid hto; clear hi hat hok hto
 obtain ⟨hd, hhd⟩ : ∃ x, 2 * s.arcs.length = x := ⟨_, rfl⟩
 obtain ⟨h1, hh1⟩ : ∃ x, hd + 1 = x := ⟨_, rfl⟩
 have hdb : hd <= 512 := by omega
 have HHD := Lib.hid hhd; have HH1 := Lib.hid hh1; clear hhd hh1
 have hM : M64 = 18446744073709551616 := rfl
 refine Ze fun _ hK1 => Zr [8, 9, 10, 11, 12, 13, 14, 15, 4] hf ?_
 refine Zq3 0 1 4 hf ?_
 clear hf s0 s1; intro fr1 hf sS
 generalize hW0 : w.alloc (.cells #[.slice A2 s.arcs.length c2, .bool s.final, .int .u64 s.out] 46) = W0
 obtain ⟨hb0, x0, x1, x2, -, hz0_⟩ := box3 hW0
 clear hW0
 have hz0 : w.heap.size < W0.heap.size := by rw [hz0_]; exact Nat.lt_succ_self _
 clear hz0_
 clear d0 d1 d2 c1
 have hlw0 := hlw.later hb0
 have hoff0 : bv.ownBlock ≠ some w.heap.size := fun e => by have := (World.ownsRow.lt hlw.2.1 _ e).2; omega
 refine Zt hK1 fun _ hK2 => ?_
 have bB := hf.B5 16 17 18 19 20
 iterate 3 refine Zy ?_
 refine fp fun K Z => ?_
 go_simp
 try simp (disch := omega) only [Fact.W]
 rw [show (2 : Int) * (s.arcs.length : Int) = ((hd : Nat) : Int) by have := HHD.out; omega]
 apply Z.out; clear Z K
 refine fp fun K Z => ?_
 go_simp
 try simp (disch := omega) only [Fact.wrap_u64]
 apply Z.out; clear Z K
 refine Zy ?_
 refine Fact.nil (Zq4 0 1 4 5 hf ?_)
 clear hf sS bB; intro fr1 hf sS
 refine Zx hK2 (Fact.seq_meet (fun fr wq => ∃ b1, Fact.Fr 71 fr /\ fr.tmps[0]? = some (.pointer (some ⟨g, 0, none⟩)) /\ fr.tmps[1]? = some (.int .i64 i) /\ fr.tmps[4]? = some (.pointer (some ⟨w.heap.size, 0, none⟩)) /\ LW wq base g [.slice (some ⟨b, off, none⟩) ss.length cc, .int .u64 init] 91 b1 (l ++ headB s) /\ LF w g bv wq b1 /\ wq.cell? ⟨w.heap.size, 0, none⟩ = some (.slice A2 s.arcs.length c2)) ?_ ?_)
 . (
 rcases hfin : s.final with _ | _
 . (
 have HFI := Lib.hid hfin
 rw [hfin] at x1
 clear hfin
 refine Ze fun _ hK3 => Zr [21] hf ?_
 refine Zq5 0 1 4 5 22 hf ?_
 clear hf sS; intro fr1 hf sS
 refine Zx hK3 (Fact.cond_f sS.2.2.2.2 ?_)
 refine rg ?_
 obtain ⟨b32, b33, b34, b35, b36⟩ := hf.B5 32 33 34 35 36
 iterate 4 refine Zy ?_
 refine fp fun K Z => ?_
 go_simp
 generalize hW4 : W0.alloc (.cells #[.int .u64 (hd : Nat)] 35) = W4
 have hn36 : RN W4 W4.heap.size (.slice (some ⟨W0.heap.size, 0, none⟩) 1 1) [hd] := by rw [<- hW4]; exact rn_new W0 [hd] _
 have hx : Below W0.heap.size W0 W4 := by rw [<- hW4]; exact (Below.refl _ _).alloc (Nat.le_refl _) _
 clear hW4
 apply Z.out; clear Z K
 refine fp fun K Z => ?_
 go_simp
 go_at_call 35; refine (num29 W4 base g _ _ bv _ (hlw0.later hx) (by have := hb0.size; have := hx.size; omega) [hd] _ hn36 (by simp) (by have := HHD.out; intro x hx; simp at hx; omega) (by omega)).mono ?_; rintro e w2 ⟨rfl, b1, hl1, hf1⟩
 try dsimp only
 apply Z.out; clear Z K
 refine Fact.nil (Zq3 0 1 4 hf ?_)
 clear hf sS b32 b33 b34 b35 b36; intro fr1 hf sS
 have hf01 := (LF.of_below g bv hb0).trans ((LF.of_below g bv hx).trans hf1)
 have xa := hf1.cell (cL hx x0) (by intro e; have e : w.heap.size = g := e; omega) hoff0
 have hlh : LW w2 base g [.slice (some ⟨b, off, none⟩) ss.length cc, .int .u64 init] 91 b1 (l ++ headB s) := by have h9 := hl1; rw [<- HHD.out] at h9; unfold headB; rw [HFI.out]; exact h9
 refine Fact.then_normal ?_
 obtain ⟨s0, s1, s4⟩ := sS
 exact ⟨b1, hf, s0, s1, s4, hlh, hf01, xa⟩)
 . (
 have HFI := Lib.hid hfin
 rw [hfin] at x1
 clear hfin
 refine Ze fun _ hK4 => Zr [21] hf ?_
 refine Zq5 0 1 4 5 22 hf ?_
 clear hf sS; intro fr1 hf sS
 refine Zx hK4 (Fact.cond_t sS.2.2.2.2 ?_)
 obtain ⟨s0, s1, s4, s5, s22⟩ := sS
 refine Stab.tb 71 fun hok => ?_
 refine Stab.mO 0 s0 hf hok ?_
 refine Stab.T 1 hf hok (fun _ _ h d => Stab.vd 0 0 d []) ?_
 refine Stab.T 2 hf hok (fun _ _ h d => Stab.vd 1 0 d []) ?_
 refine Stab.mO 3 s5 hf hok ?_
 apply Stab.tq 4 _ hf hok
 . (
 intro fr1 w1 hh hd hk K Z
 have s26 := Stab.v 3 0 hd hk []
 clear hd
 go_simp
 try simp (disch := omega) only [Fact.W]
 rw [show ((hd : Nat) : Int) + 1 = ((h1 : Nat) : Int) by have := HH1.out; omega]
 exact Stab.k Z)
 refine Stab.T 5 hf hok (fun _ _ h d => Stab.O h s4) ?_
 refine Stab.T 6 hf hok (fun _ _ h d => ad (Stab.vd 5 0 d []) (cL h.ext x2)) ?_
 refine Stab.todo_op (k := 7) (n := 71) (RNs [h1, s.out]) hf.size hok.out rfl (RNs.stable _) ?_ ?_
 . (
 intro fr1 w1 hh hd hk K Z
 refine Stab.pl ?_
 have s27 := Stab.v 4 2 hd hk []
 have s29 := Stab.v 6 0 hd hk []
 clear hd
 go_simp
 exact Z.out _ rfl _ _ ((Below.refl _ _).alloc (Nat.le_refl _) _) (rn_new _ [h1, s.out] _))
 refine Tail.todo_tail (n := 71) (m := 8) (ws := [(8, 0, [2, 1]), (8, 1, [2]), (8, 3, [7, 4]), (8, 4, [7]), (8, 5, [7, 6]), (8, 6, [7])]) (by kernel_rfl) hf.size hok.out rfl rfl (by kernel_rfl) (fun fr1 w1 hh hg => ?_)
 replace s0 := Stab.O hh s0
 replace s1 := Stab.O hh s1
 replace s4 := Stab.O hh s4
 have s25 := Tail.got_is 2 5 hg rfl rfl rfl rfl rfl
 obtain ⟨x30, s30, hp30⟩ := Tail.got_use (j := 7) (m := 0) hg rfl rfl rfl rfl rfl
 have hn30 := hp30
 have hf1 := hh.fr hf
 have hx := hh.ext
 replace x2 := cL hx x2
 clear hg hh hf hok s5 s22
 have hf := hf1; clear hf1
 refine Tail.seq_op rfl rfl (fun K Z => ?_)
 go_simp
 go_at_call 35; refine (num29 _ base g _ _ bv _ (hlw0.later hx) (by have := hb0.size; have := hx.size; omega) [h1, s.out] _ hn30 (by simp) (by have := HH1.out; have := HHD.out; have := HOK.out.1; intro x hx; simp at hx; rcases hx with rfl | rfl <;> omega) (by omega)).mono ?_; rintro e w2 ⟨rfl, b1, hl1, hf1⟩
 try dsimp only
 apply Z.out; clear Z K
 refine Tail.seq_nil rfl ?_
 refine Zq3 0 1 4 hf ?_
 clear hf s0 s1 s4 s25 s30; intro fr1 hf sS
 have hf01 := (LF.of_below g bv hb0).trans ((LF.of_below g bv hx).trans hf1)
 have xa := hf1.cell (cL hx x0) (by intro e; have e : w.heap.size = g := e; omega) hoff0
 have hlh : LW w2 base g [.slice (some ⟨b, off, none⟩) ss.length cc, .int .u64 init] 91 b1 (l ++ headB s) := by have h9 := hl1; rw [<- HH1.out, <- HHD.out] at h9; unfold headB; rw [HFI.out]; exact h9
 refine Fact.then_normal ?_
 obtain ⟨s0, s1, s4⟩ := sS
 exact ⟨b1, hf, s0, s1, s4, hlh, hf01, xa⟩))
 . (
 clear hf sS
 rintro fr wq ⟨b1, hf, s0, s1, s4, hl1, hf1, x0⟩
 refine Ze fun _ hK5 => Zr [38, 39] hf ?_
 refine Zq5 0 1 39 40 41 hf ?_
 clear hf s0 s1 s4; intro fr1 hf sS
 refine Zx hK5 (wp_block (wp_loop_ghost (fun gk fr wr => ∃ (k : Nat) (b1 : Value), gk = s.arcs.length - k /\ k <= s.arcs.length /\ Fact.Fr 71 fr /\ fr.tmps[0]? = some (.pointer (some ⟨g, 0, none⟩)) /\ fr.tmps[1]? = some (.int .i64 i) /\ fr.tmps[39]? = some (.slice A2 s.arcs.length c2) /\ fr.tmps[40]? = some (.int .i64 s.arcs.length) /\ fr.tmps[41]? = some (.int .i64 k) /\ LW wr base g [.slice (some ⟨b, off, none⟩) ss.length cc, .int .u64 init] 91 b1 (l ++ headB s ++ arcsB i (s.arcs.take k)) /\ LF w g bv wr b1) (s.arcs.length) ?_ ?_))
 . (
 obtain ⟨s0, s1, s39, s40, s41⟩ := sS
 exact ⟨0, b1, rfl, Nat.zero_le _, hf, s0, s1, s39, s40, s41, by simpa [arcsB] using hl1, hf1⟩)
 . (
 clear hf sS
 rintro gk fr wr ⟨k, b1, hk, hki, hf, s0, s1, s39, s40, s41, hl1, hf1⟩
 have HK := Lib.hid hk; clear hk
 refine Ze fun _ hK6 => Zr [] hf ?_
 refine Zq6 0 1 39 40 41 42 hf ?_
 clear hf s0 s1 s39 s40 s41; intro fr1 hf sS
 refine Zs hK6 fun _ hK7 => Fact.cond_s sS.2.2.2.2.2 (fun hq => ?_) (fun hq => ?_)
 . (
 have hklt : k < s.arcs.length := by have h9 := of_decide_eq_true hq; omega
 clear hq
 obtain ⟨a, hka⟩ : ∃ a, s.arcs[k]? = some a := ⟨_, gE1 hklt⟩
 have hbl := hf1.below hbase hgb hlw.lo
 obtain ⟨b3, off3, rfl, hb3, y0, y1, y2⟩ := (hra.but (below_but (hbl.mono (Nat.le_refl _) |> fun h => below_less h hN)) (fun k h1 h2 => by omega)).at' hka
 have hao := HOK.out.2.2 a (gM1 hka)
 have hat := HTO.out a (gM1 hka)
 obtain ⟨q, hq⟩ : ∃ q : Nat, a.to = (q : Int) := ⟨a.to.toNat, by omega⟩
 rw [hq] at y2
 obtain ⟨dd, hdd⟩ : ∃ x, i - q = x := ⟨_, rfl⟩
 have hdb2 : dd <= 1000000 := by omega
 have hst := arcsB_take (i := i) hka
 have hlen : (arcsB i (s.arcs.take k)).length <= 19 * s.arcs.length := arcsB_le i k (fun x hx => HOK.out.2.2 x hx) (by omega)
 have hhl := headB_le HOK.out.1 (by omega : s.arcs.length <= 1000)
 obtain ⟨l1, hl1e⟩ : ∃ x, l ++ headB s ++ arcsB i (s.arcs.take k) = x := ⟨_, rfl⟩
 have hll1 : l1.length <= l.length + 18 + 19 * s.arcs.length := by rw [<- hl1e]; simp only [List.length_append]; omega
 rw [hl1e] at hl1
 have hte : a.to.toNat = q := by omega
 have hab := hao.1; have hao2 := hao.2.1
 have hqi : q < i := by have := hat.2; omega
 have HST := Lib.hid hst; have HL1 := Lib.hid hl1e; have HDD := Lib.hid hdd; have HTE := Lib.hid hte; clear hst hl1e hdd hte hka hao hat hlen hhl hq
 refine wp_skip (Zs hK7 fun _ hK8 => wp_block (Ze fun _ hK9 => Zr [43, 44, 7] hf ?_))
 refine Zq6 0 1 7 39 40 41 hf ?_
 clear hf sS; intro fr1 hf sS
 generalize hW7 : wr.alloc (.cells #[.int .u8 a.byte, .int .u64 a.out, .int .i64 (q : Nat)] 71) = W7
 obtain ⟨hb7, z0, z1, z2, -, hz7_⟩ := box3 hW7
 clear hW7
 have hz7 : wr.heap.size < W7.heap.size := by rw [hz7_]; exact Nat.lt_succ_self _
 clear hz7_
 clear y0 y1 y2
 have hl7 := hl1.later hb7
 have hf7 := LF.of_below g b1 hb7
 have hoff7 : b1.ownBlock ≠ some wr.heap.size := fun e => by have := (World.ownsRow.lt hl1.2.1 _ e).2; omega
 have hgr := heap_lt hl1.1
 have hxg := hl7.1
 have how7 := hl7.2.1
 have hne7 := hl7.2.2
 have hg7 := heap_lt hxg
 have hbw7 : base <= W7.heap.size := by have := hf1.1.size; have := hb7.size; omega
 refine Zs hK9 fun _ hK10 => ?_
 obtain ⟨s0, s1, s7, s39, s40, s41⟩ := sS
 refine Stam.todo_begin (n := 71) (fun _ k => k = g \/ b1.ownBlock = some k) [9, 13] (Stab.OkOps.of (by kernel_rfl)) (fun hok => ?_)
 refine Stam.mvO (k := 0) s0 hf.size hok.out rfl (by kernel_rfl) rfl rfl (.inl rfl) (by kernel_rfl) ?_
 refine Stam.mvO (k := 1) s0 hf.size hok.out rfl (by kernel_rfl) rfl rfl (.inl rfl) (by kernel_rfl) ?_
 apply Stam.tq 2 _ hf hok
 . (
 intro fr1 w1 hh hd hk K Z
 refine Stab.pl ?_
 have s46 := Stam.v 1 0 hd hk []
 have hxe := Stam.ext_at hh [(9, [5, 4, 3]), (13, [])] (by kernel_rfl)
 have hbt := Stam.but_at hh [] [(9, [5, 4, 3]), (13, [])] (by kernel_rfl)
 clear hd hh
 go_simp
 exact Stab.k Z)
 apply Stam.tq 3 _ hf hok
 . (
 intro fr1 w1 hh hd hk K Z
 refine Stab.pl ?_
 have s47 := Stam.v 2 0 hd hk []
 have hxe := Stam.ext_at hh [(9, [5, 4]), (13, [])] (by kernel_rfl)
 have hbt := Stam.but_at hh [] [(9, [5, 4]), (13, [])] (by kernel_rfl)
 clear hd hh
 go_simp
 exact Stab.k Z)
 apply Stam.tq 4 _ hf hok
 . (
 intro fr1 w1 hh hd hk K Z
 refine Stab.pl ?_
 have s48 := Stam.v 3 0 hd hk []
 have hxe := Stam.ext_at hh [(9, [5]), (13, [])] (by kernel_rfl)
 have hbt := Stam.but_at hh [] [(9, [5]), (13, [])] (by kernel_rfl)
 clear hd hh
 go_simp
 exact Stab.k Z)
 apply Stam.tq 5 _ hf hok
 . (
 intro fr1 w1 hh hd hk K Z
 refine Stab.pl ?_
 have s49 := Stam.v 4 0 hd hk []
 have hxe := Stam.ext_at hh [(9, []), (13, [])] (by kernel_rfl)
 have hbt := Stam.but_at hh [] [(9, []), (13, [])] (by kernel_rfl)
 clear hd hh
 have u0 := cR1 0 ((hxe.block g hg7).trans hxg)
 simp at u0
 go_simp
 exact Stab.k Z)
 apply Stam.tq 6 _ hf hok
 . (
 intro fr1 w1 hh hd hk K Z
 refine Stab.pl ?_
 have s7 := Stam.o hh (by kernel_rfl) s7
 have hxe := Stam.ext_at hh [(9, [8, 7]), (13, [])] (by kernel_rfl)
 have hbt := Stam.but_at hh [] [(9, [8, 7]), (13, [])] (by kernel_rfl)
 clear hd hh
 go_simp
 exact Stab.k Z)
 apply Stam.tq 7 _ hf hok
 . (
 intro fr1 w1 hh hd hk K Z
 refine Stab.pl ?_
 have s51 := Stam.v 6 0 hd hk []
 have hxe := Stam.ext_at hh [(9, [8]), (13, [])] (by kernel_rfl)
 have hbt := Stam.but_at hh [] [(9, [8]), (13, [])] (by kernel_rfl)
 clear hd hh
 have u1 := cL hxe z0
 go_simp
 exact Stab.k Z)
 refine Stam.todo_op (k := 8) (n := 71) (PLit [.int .u8 (a.byte : Nat)]) hf.size hok.out rfl (PLit.stable _) (by kernel_rfl) ?_ ?_
 . (
 intro fr1 w1 hh hd hk K Z
 refine Stab.pl ?_
 have s52 := Stam.v 7 0 hd hk []
 have hxe := Stam.ext_at hh [(9, []), (13, [])] (by kernel_rfl)
 have hbt := Stam.but_at hh [] [(9, []), (13, [])] (by kernel_rfl)
 clear hd hh
 go_simp
 exact Z.out _ rfl _ _ ((Below.refl _ _).alloc (Nat.le_refl _) _) ⟨_, rfl, lit_new _ _ _⟩)
 refine Stam.todo_sp (k := 9) (n := 71) (PRowN W7 base g b1 [.slice (some ⟨b, off, none⟩) ss.length cc, .int .u64 init] 91 (l1 ++ [a.byte])) hf.size hok.out rfl (PRowN.stable _ _ _ _ _ _ _) (by kernel_rfl) ?_ ?_
 . (
 intro fr1 w1 hh hd hk K Z
 refine Stab.pl ?_
 have s50 := Stam.v 5 3 hd hk []
 obtain ⟨x53, s53, hp53⟩ := Stam.use (j := 8) (m := 0) hd hk rfl [] (by kernel_rfl) [(13, true, [])] (by kernel_rfl) rfl rfl rfl
 obtain ⟨b53, rfl, hc53⟩ := hp53
 have hxe := Stam.ext_at hh [(13, [])] (by kernel_rfl)
 have hbt := Stam.but_at hh [] [(13, [])] (by kernel_rfl)
 clear hd hh
 have how2 := own_later how7 hxe
 have hx2 := (hxe.block g hg7).trans hxg
 refine wp_app _ _ 31 rfl 5 _ 1 1 Tryz.underlying31 info_u8 rfl (by decide) (by decide) base b1 l1.length (bcs l1) (Fact.eval_tmp s50) how2 b53 [.int .u8 (a.byte : Nat)] (Fact.eval_tmp s53) rfl hc53 (by intro u hu; simp at hu; subst hu; rfl) (by omega) (by have := hxe.size; omega) (fun v2 w2 hr3 hg3 hat3 => ?_)
 exact Z.out _ rfl _ _ (But.grown hg3 (fun k hk => .inr hk)) ⟨by unfold OB; rw [List.length_append, bcs_append]; exact hr3, hat3.imp id (fun h => ⟨_, h, hxe.size⟩), (hg3.block g (heap_lt hx2) (fun e => hne7 e.symm)).trans hx2⟩)
 apply Stam.tq 10 _ hf hok
 . (
 intro fr1 w1 hh hd hk K Z
 refine Stab.pl ?_
 have s45 := Stam.v 0 9 hd hk []
 have hbt := Stam.but_at hh [9] [(13, [12, 11])] (by kernel_rfl)
 clear hd hh
 go_simp
 exact Stab.k Z)
 apply Stam.tq 11 _ hf hok
 . (
 intro fr1 w1 hh hd hk K Z
 refine Stab.pl ?_
 have s55 := Stam.v 10 0 hd hk []
 have hbt := Stam.but_at hh [9] [(13, [12])] (by kernel_rfl)
 clear hd hh
 go_simp
 exact Stab.k Z)
 apply Stam.tq 12 _ hf hok
 . (
 intro fr1 w1 hh hd hk K Z
 refine Stab.pl ?_
 have s56 := Stam.v 11 0 hd hk []
 have hbt := Stam.but_at hh [9] [(13, [])] (by kernel_rfl)
 clear hd hh
 go_simp
 exact Stab.k Z)
 refine Stam.todo_sp (k := 13) (n := 71) (PEndN W7 base g b1 [.slice (some ⟨b, off, none⟩) ss.length cc, .int .u64 init] 91 (l1 ++ [a.byte])) hf.size hok.out rfl (PEndN.stable _ _ _ _ _ _ _) (by kernel_rfl) ?_ ?_
 . (
 intro fr1 w1 hh hd hk K Z
 refine Stab.pl ?_
 have s57 := Stam.v 12 0 hd hk []
 obtain ⟨x54, s54, hp54⟩ := Stam.use (j := 9) (m := 3) hd hk rfl [] (by kernel_rfl) [] (by kernel_rfl) rfl rfl rfl
 obtain ⟨hr54, hl54, hx54⟩ := hp54
 have hbt := Stam.but_at hh [9] [] (by kernel_rfl)
 clear hd hh
 have z00 := cR1 0 hx54
 simp at z00
 have fz := frozen_of (i := 0) hx54
 obtain ⟨A9, c9, hv9, _⟩ := row_form hr54
 subst hv9
 go_simp
 refine Z.out _ rfl undef _ (But.setCell (.inl rfl) _) ⟨_, own_but hr54 (But.setCell (S := fun k => k = g) rfl _) (fun kk hkk e => by subst e; exact PRowN.ne ⟨hr54, hl54, hx54⟩ hne7 hg7 hkk), hl54, (set_block (i := 0) hx54 _).trans (by simp)⟩)
 refine Stam.todo_facts (n := 71) (by kernel_rfl) hf.size hok.out rfl (fun fr1 w1 hh hg => ?_)
 replace s0 := Stam.o hh (by kernel_rfl) s0
 replace s1 := Stam.o hh (by kernel_rfl) s1
 replace s7 := Stam.o hh (by kernel_rfl) s7
 replace s39 := Stam.o hh (by kernel_rfl) s39
 replace s40 := Stam.o hh (by kernel_rfl) s40
 replace s41 := Stam.o hh (by kernel_rfl) s41
 obtain ⟨_, hlast⟩ := Stam.end_fact (j := 13) (m := 0) hg rfl (by decide) [(9, [])] (by kernel_rfl) rfl
 have hf1 := hh.fr hf
 have hbt := hh.but
 clear hg hh hf hok
 have hf := hf1; clear hf1
 obtain ⟨v6, hr6, hl6, hx6⟩ := hlast
 replace hbt := hbt (fun k => k = g \/ b1.ownBlock = some k) (fun m _ b h => h)
 have hl8 : LW w1 base g [.slice (some ⟨b, off, none⟩) ss.length cc, .int .u64 init] 91 v6 (l1 ++ [a.byte]) := ⟨hx6, hr6, PEndN.ne hl6 hne7 hg7⟩
 have hf8 : LF W7 g b1 w1 v6 := ⟨hbt, hl6⟩
 have u1 := hf8.cell z1 (by intro e; have e : wr.heap.size = g := e; omega) hoff7
 have u2 := hf8.cell z2 (by intro e; have e : wr.heap.size = g := e; omega) hoff7
 have hf08 := hf1.trans (hf7.trans hf8)
 clear z0 z1 z2 hx6 hr6 hl6 hbt hl7 hxg how7
 refine Zx hK10 (Stab.tb 71 fun hok => ?_)
 refine Stab.mO 0 s0 hf hok ?_
 refine Stab.T 1 hf hok (fun _ _ h d => Stab.vd 0 0 d []) ?_
 refine Stab.T 2 hf hok (fun _ _ h d => Stab.vd 1 0 d []) ?_
 refine Stab.T 3 hf hok (fun _ _ h d => Stab.O h s7) ?_
 refine Stab.T 4 hf hok (fun _ _ h d => ad (Stab.vd 3 0 d []) (ad (cL h.ext u1) (cL h.ext u2))) ?_
 refine Stab.mO 5 s1 hf hok ?_
 refine Stab.T 6 hf hok (fun _ _ h d => Stab.O h s7) ?_
 refine Stab.T 7 hf hok (fun _ _ h d => ad (Stab.vd 6 0 d []) (ad (cL h.ext u1) (cL h.ext u2))) ?_
 apply Stab.tq 8 _ hf hok
 . (
 intro fr1 w1 hh hd hk K Z
 have s63 := Stab.v 5 2 hd hk []
 have s65 := Stab.v 7 0 hd hk []
 clear hd
 go_simp
 try simp (disch := omega) only [Fact.W]
 rw [show ((i : Nat) : Int) - (q : Nat) = ((dd : Nat) : Int) by have := HDD.out; omega]
 exact Stab.k Z)
 apply Stab.tq 9 _ hf hok
 . (
 intro fr1 w1 hh hd hk K Z
 have s66 := Stab.v 8 0 hd hk []
 clear hd
 go_simp
 try simp (disch := omega) only [Fact.wrap_u64]
 exact Stab.k Z)
 refine Stab.todo_op (k := 10) (n := 71) (RNs [a.out, dd]) hf.size hok.out rfl (RNs.stable _) ?_ ?_
 . (
 intro fr1 w1 hh hd hk K Z
 refine Stab.pl ?_
 have s62 := Stab.v 4 5 hd hk []
 have s67 := Stab.v 9 0 hd hk []
 clear hd
 go_simp
 exact Z.out _ rfl _ _ ((Below.refl _ _).alloc (Nat.le_refl _) _) (rn_new _ [a.out, dd] _))
 refine Tail.todo_tail (n := 71) (m := 11) (ws := [(11, 0, [2, 1]), (11, 1, [2]), (11, 3, [10, 4]), (11, 4, [10]), (11, 5, [10, 9, 8]), (11, 6, [10, 9, 8, 7]), (11, 7, [10, 9, 8]), (11, 8, [10, 9]), (11, 9, [10])]) (by kernel_rfl) hf.size hok.out rfl rfl (by kernel_rfl) (fun fr1 w1 hh hg => ?_)
 replace s0 := Stab.O hh s0
 replace s1 := Stab.O hh s1
 replace s39 := Stab.O hh s39
 replace s40 := Stab.O hh s40
 replace s41 := Stab.O hh s41
 have s60 := Tail.got_is 2 8 hg rfl rfl rfl rfl rfl
 obtain ⟨x68, s68, hp68⟩ := Tail.got_use (j := 10) (m := 0) hg rfl rfl rfl rfl rfl
 have hn68 := hp68
 have hf1 := hh.fr hf
 have hx := hh.ext
 replace u1 := cL hx u1
 replace u2 := cL hx u2
 clear hg hh hf hok s7
 have hf := hf1; clear hf1
 refine Tail.seq_op rfl rfl (fun K Z => ?_)
 go_simp
 go_at_call 35; refine (num29 _ base g _ _ v6 _ (hl8.later hx) (by have := hf08.1.size; have := hx.size; omega) [a.out, dd] _ hn68 (by simp) (by have := HDD.out; intro x hx; simp at hx; rcases hx with rfl | rfl <;> omega) (by simp; omega)).mono ?_; rintro e w9 ⟨rfl, v9, hl9, hf9⟩
 try dsimp only
 apply Z.out; clear Z K
 refine Tail.seq_nil rfl ?_
 refine Zq5 0 1 39 40 41 hf ?_
 clear hf s0 s1 s39 s40 s41 s60 s68; intro fr1 hf sS
 have hf09 := hf08.trans ((LF.of_below g v6 hx).trans hf9)
 have hl99 : LW w9 base g [.slice (some ⟨b, off, none⟩) ss.length cc, .int .u64 init] 91 v9 (l ++ headB s ++ arcsB i (s.arcs.take (k + 1))) := by have h9 := hl9; rw [List.append_assoc, show [a.byte] ++ numsB [a.out, dd] = arcB i a by unfold arcB; rw [HTE.out, HDD.out]; rfl, <- HL1.out] at h9; rw [HST.out]; simpa [List.append_assoc] using h9
 refine Fact.block_normal (Zx hK8 (Zr [70] hf ?_))
 refine Zq5 0 1 39 40 41 hf ?_
 clear hf sS; intro fr1 hf sS
 refine Fact.then_normal ?_
 obtain ⟨s0, s1, s39, s40, s41⟩ := sS
 exact ⟨_, by have := HK.out; omega, k + 1, v9, rfl, by omega, hf, s0, s1, s39, s40, by rw [s41]; rfl, hl99, hf09⟩)
 . (
 have hke : k = s.arcs.length := by have h9 := of_decide_eq_false hq; omega
 have HKE := Lib.hid hke; clear hke hq
 refine Zo ?_
 refine Fact.end0 rfl hf ⟨rfl, b1, ?_, hf1⟩
 have h9 := hl1
 rw [HKE.out, List.take_length, List.append_assoc] at h9
 exact h9)))
end Dw
end Go.Proofs.YtcddnmhmcieebaaGreatDoor
