/- Lev: dist: Next, Of, Within. -/
import Derived.Test.YtfgfichkcckhiaaLNext
namespace Go.Proofs.Ytfgfichkcckhiaa
open Go.RowKit
set_option linter.unusedSimpArgs false
set_option linter.unusedVariables false
set_option linter.unnecessarySimpa false
namespace Lv
theorem cell_lt0 {w : World} {p : Addr} {v : Value} (h : w.cell? p = some v) : p.block < w.heap.size := by
  unfold World.cell? at h
  rcases Nat.lt_or_ge p.block w.heap.size with hlt | hge
  · exact hlt
  · rw [Array.getElem?_eq_none hge] at h; cases h
theorem old_cell {w w' : World} {B : Nat} {p : Addr} {v : Value} (hb : Below B w w') (h : w.cell? p = some v) (hp : p.block < B) : w'.cell? p = some v := (hb.cell hp).trans h
theorem next_start (W0 : World) (x : Nat) (W1 : World) (h : (W0.alloc (.cells #[.int .i64 ((x : Int) + 1)] 3)).alloc (.cells #[.slice (some ⟨W0.heap.size, 0, none⟩) 1 1] 58) = W1) :
    Below W0.heap.size W0 W1 ∧ OI W1 W0.heap.size (.slice (some ⟨W0.heap.size, 0, none⟩) 1 1) [x + 1] ∧ Bx W1 (W0.heap.size + 1) (.slice (some ⟨W0.heap.size, 0, none⟩) 1 1) ∧ W1.heap.size = W0.heap.size + 2 := by
  rw [show (x : Int) + 1 = ((x + 1 : Nat) : Int) by omega] at h
  subst h
  refine ⟨((Below.refl _ _).alloc (Nat.le_refl _) _).alloc (by simp) _, own_later (OI.one W0 (x + 1)) ((Below.refl _ _).alloc (Nat.le_refl _) _), ?_, by simp⟩
  have := heap_alloc_new (W0.alloc (.cells #[.int .i64 ((x + 1 : Nat) : Int)] 3)) (.cells #[.slice (some ⟨W0.heap.size, 0, none⟩) 1 1] 58)
  rwa [World.size_alloc] at this
set_option maxHeartbeats 4000000 in
set_option maxRecDepth 100000 in
theorem next55 (q : ByteArray) (c : Nat) (r : Nat → Nat) (v : Value) (hq0 : q.size ≤ 900) (hr9 : ∀ j, j ≤ q.size → r j ≤ 100000) (w : World) (hrd : Rd w v (q.size + 1) r) : Calls Try.prog 55 #[.string q, v, .int .u8 c] w fun e w1 => ∃ v2, e = .returned v2 ∧ Rd w1 v2 (q.size + 1) (nx q c r) ∧ Below w.heap.size w w1 := by
 refine calls_of_wp Try.func55 rfl ?_
 refine Fact.enter (n := 35) (by kernel_rfl) (fun fr hf hT => ?_)
 have s0 := hT 0 _ rfl
 have s1 := hT 1 _ rfl
 have s2 := hT 2 _ rfl
 clear hT
 obtain ⟨g, cc, rfl, hr⟩ := hrd
 obtain ⟨W0, hW0⟩ : ∃ W0, ((w.alloc (.cells #[.string q] 9)).alloc (.cells #[.slice (some ⟨g, 0, none⟩) (q.size + 1) cc] 58)).alloc (.cells #[.int .u8 c] 5) = W0 := ⟨_, rfl⟩
 have hb0 : Below w.heap.size w W0 := by rw [← hW0]; exact (((Below.refl _ _).alloc (Nat.le_refl _) _).alloc (by simp) _).alloc (by simp; omega) _
 obtain ⟨x0, x1, x2⟩ := box3 w _ _ _ 9 58 5 W0 hW0
 have HS0 := Lib.hid (show W0.heap.size = w.heap.size + 3 by rw [← hW0]; simp)
 have hr0 : ∀ j, j < q.size + 1 → W0.cell? ⟨g, j, none⟩ = some (.int .i64 (r j : Nat)) := fun j hj => cell_later hb0 (hr j hj)
 refine wp_seq_k (fun K1 hK1 => ?_)
 refine Fact.region ?_
 refine Fact.p rfl fun K hK => ?_
 go_simp
 refine hK.out _ _ ?_; clear hK K
 refine Fact.p rfl fun K hK => ?_
 go_simp
 refine hK.out _ _ ?_; clear hK K
 refine Fact.p rfl fun K hK => ?_
 go_simp
 refine hK.out _ _ ?_; clear hK K
 refine Fact.p rfl fun K hK => ?_
 go_simp
 refine hK.out _ _ ?_; clear hK K
 refine Fact.nil ?_
 refine Fact.reQ (n := 35) (by simp only [Fact.G, hf.size]) hf.defers (fun fr1 hf1 hT => ?_)
 have hKp : _ ∧ _ ∧ _ ∧ _ := ⟨hT 3, hT 4, hT 5, hT 6⟩
 simp only [Fact.G, Nat.reduceEqDiff, Nat.reduceLT, reduceIte, hf.size] at hKp
 clear hT hf s0 s1 s2
 obtain ⟨s3, s4, s5, s6⟩ := hKp
 have hf := hf1; clear hf1
 refine Fact.then_normal ?_
 refine hK1 _ _ ?_
 try rw [hW0]
 try simp only [World.size_alloc] at s4 s5
 try rw [show w.heap.size + 1 + 1 = w.heap.size + 2 from rfl] at s5
 clear hW0 hr
 refine wp_seq_k (fun K2 hK2 => ?_)
 refine wp_seq_k (fun K3 hK3 => ?_)
 refine Fact.region ?_
 have b10 := hf.l 10 rfl
 have b11 := hf.l 11 rfl
 have b12 := hf.l 12 rfl
 have b13 := hf.l 13 rfl
 have b14 := hf.l 14 rfl
 refine Fact.p rfl fun K hK => ?_
 go_simp
 refine hK.out _ _ ?_; clear hK K
 refine Fact.p rfl fun K hK => ?_
 go_simp
 refine hK.out _ _ ?_; clear hK K
 refine Fact.p rfl fun K hK => ?_
 go_simp
 refine hK.out _ _ ?_; clear hK K
 refine Fact.p rfl fun K hK => ?_
 go_simp
 refine hK.out _ _ ?_; clear hK K
 refine Fact.p rfl fun K hK => ?_
 go_simp
 try simp (disch := omega) only [Fact.wrap_i64, Fact.wrap_u8, Fact.wrap_u32, Fact.wrap_u64]
 refine hK.out _ _ ?_; clear hK K
 refine Fact.p rfl fun K hK => ?_
 go_simp
 refine hK.out _ _ ?_; clear hK K
 refine Fact.nil ?_
 refine Fact.reQ (n := 35) (by simp only [Fact.G, hf.size]) hf.defers (fun fr1 hf1 hT => ?_)
 have hKp : _ ∧ _ ∧ _ ∧ _ ∧ _ := ⟨hT 3, hT 4, hT 5, hT 6, hT 15⟩
 simp only [Fact.G, Nat.reduceEqDiff, Nat.reduceLT, reduceIte, hf.size, s3, s4, s5, s6] at hKp
 clear hT hf s3 s4 s5 s6 b10 b11 b12 b13 b14
 obtain ⟨s3, s4, s5, s6, s15⟩ := hKp
 have hf := hf1; clear hf1
 refine Fact.then_normal ?_
 refine hK3 _ _ ?_
 try simp at s15
 refine Fact.cond_f s15 ?_
 have c0 := hr0 0 (by omega)
 have h90 := hr9 0 (by omega)
 refine wp_skip ?_
 refine Fact.then_normal ?_
 refine hK2 _ _ ?_
 refine wp_seq_k (fun K4 hK4 => ?_)
 refine Fact.region ?_
 have b16 := hf.l 16 rfl
 have b17 := hf.l 17 rfl
 have b18 := hf.l 18 rfl
 have b19 := hf.l 19 rfl
 have b20 := hf.l 20 rfl
 have b7 := hf.l 7 rfl
 refine Fact.p rfl fun K hK => ?_
 go_simp
 refine hK.out _ _ ?_; clear hK K
 refine Fact.p rfl fun K hK => ?_
 go_simp
 try rw [if_pos (by omega)]
 refine hK.out _ _ ?_; clear hK K
 refine Fact.p rfl fun K hK => ?_
 go_simp
 refine hK.out _ _ ?_; clear hK K
 refine Fact.p rfl fun K hK => ?_
 go_simp
 try simp (disch := omega) only [Fact.wrap_i64, Fact.wrap_u8, Fact.wrap_u32, Fact.wrap_u64]
 refine hK.out _ _ ?_; clear hK K
 refine Fact.p rfl fun K hK => ?_
 go_simp
 refine hK.out _ _ ?_; clear hK K
 refine Fact.p rfl fun K hK => ?_
 go_simp
 refine hK.out _ _ ?_; clear hK K
 refine Fact.p rfl fun K hK => ?_
 go_simp
 refine hK.out _ _ ?_; clear hK K
 refine Fact.nil ?_
 refine Fact.reQ (n := 35) (by simp only [Fact.G, hf.size]) hf.defers (fun fr1 hf1 hT => ?_)
 have hKp : _ ∧ _ ∧ _ ∧ _ ∧ _ := ⟨hT 3, hT 4, hT 5, hT 6, hT 7⟩
 simp only [Fact.G, Nat.reduceEqDiff, Nat.reduceLT, reduceIte, hf.size, s3, s4, s5, s6] at hKp
 clear hT hf s3 s4 s5 s6 s15 b16 b17 b18 b19 b20 b7
 obtain ⟨s3, s4, s5, s6, s7⟩ := hKp
 have hf := hf1; clear hf1
 refine Fact.then_normal ?_
 refine hK4 _ _ ?_
 obtain ⟨W1, hW1⟩ : ∃ W1, (W0.alloc (.cells #[.int .i64 ((r 0 : Int) + 1)] 3)).alloc (.cells #[.slice (some ⟨W0.heap.size, 0, none⟩) 1 1] 58) = W1 := ⟨_, rfl⟩
 obtain ⟨hb1, ho1, hx1, hs1⟩ := next_start W0 (r 0) W1 hW1
 try rw [hW1]
 try simp only [World.size_alloc] at s7
 clear hW1 c0
 have v0 := old_cell hb1 x0 (by have := HS0.out; show w.heap.size + 0 < W0.heap.size; omega)
 refine wp_seq_k (fun K5 hK5 => ?_)
 refine Fact.region ?_
 have b21 := hf.l 21 rfl
 refine Fact.p rfl fun K hK => ?_
 go_simp
 refine hK.out _ _ ?_; clear hK K
 refine Fact.p rfl fun K hK => ?_
 go_simp
 refine hK.out _ _ ?_; clear hK K
 refine Fact.nil ?_
 refine Fact.reQ (n := 35) (by simp only [Fact.G, hf.size]) hf.defers (fun fr1 hf1 hT => ?_)
 have hKp : _ ∧ _ ∧ _ ∧ _ := ⟨hT 3, hT 6, hT 7, hT 8⟩
 simp only [Fact.G, Nat.reduceEqDiff, Nat.reduceLT, reduceIte, hf.size, s3, s6, s7] at hKp
 clear hT hf s3 s4 s5 s6 s7 b21
 obtain ⟨s3, s6, s7, s8⟩ := hKp
 have hf := hf1; clear hf1
 refine Fact.then_normal ?_
 refine hK5 _ _ ?_
 refine wp_seq_k (fun K6 hK6 => ?_)
 refine wp_seq_k (fun K7 hK7 => ?_)
 refine Fact.region ?_
 have b22 := hf.l 22 rfl
 refine Fact.p rfl fun K hK => ?_
 go_simp
 refine hK.out _ _ ?_; clear hK K
 refine Fact.p rfl fun K hK => ?_
 go_simp
 refine hK.out _ _ ?_; clear hK K
 refine Fact.p rfl fun K hK => ?_
 go_simp
 refine hK.out _ _ ?_; clear hK K
 refine Fact.nil ?_
 refine Fact.reQ (n := 35) (by simp only [Fact.G, hf.size]) hf.defers (fun fr1 hf1 hT => ?_)
 have hKp : _ ∧ _ ∧ _ ∧ _ ∧ _ := ⟨hT 6, hT 7, hT 8, hT 23, hT 24⟩
 simp only [Fact.G, Nat.reduceEqDiff, Nat.reduceLT, reduceIte, hf.size, s6, s7, s8] at hKp
 clear hT hf s3 s6 s7 s8 b22
 obtain ⟨s6, s7, s8, s23, s24⟩ := hKp
 have hf := hf1; clear hf1
 refine Fact.then_normal ?_
 refine hK7 _ _ ?_
 refine wp_block ?_
 clear v0
 refine wp_loop_ghost (fun gk fr wr => ∃ (i : Nat) (vn : Value), gk = q.size - i ∧ i ≤ q.size ∧ Fact.Fr 35 fr ∧ fr.tmps[7]? = some (.pointer (some ⟨W0.heap.size + 1, 0, none⟩)) ∧ fr.tmps[8]? = some (.func (.func 67) #[] #[.pointer (some ⟨w.heap.size, 0, none⟩), .pointer (some ⟨w.heap.size + 2, 0, none⟩), .pointer (some ⟨w.heap.size + 1, 0, none⟩), .pointer (some ⟨W0.heap.size + 1, 0, none⟩)]) ∧ fr.tmps[23]? = some (.int .i64 q.size) ∧ fr.tmps[24]? = some (.int .i64 i) ∧ OI wr W0.heap.size vn (nxs q c r (i + 1)) ∧ Bx wr (W0.heap.size + 1) vn ∧ Below W0.heap.size W1 wr) (q.size) ?_ ?_
 ·
  exact ⟨0, _, rfl, Nat.zero_le _, hf, s7, s8, s23, s24, by rw [nxs_one]; exact ho1, hx1, Below.refl _ _⟩
 ·
  clear hf s6 s7 s8 s23 s24
  rintro gk fr wr ⟨i, vn, hk, hi, hf, s7, s8, s23, s24, ho, hbx, hb⟩
  have HK := Lib.hid hk; clear hk
  have hbw : Below W0.heap.size W0 wr := hb1.trans hb
  have z0 := old_cell hbw x0 (by have := HS0.out; show w.heap.size + 0 < W0.heap.size; omega); have z1 := old_cell hbw x1 (by have := HS0.out; show w.heap.size + 1 < W0.heap.size; omega); have z2 := old_cell hbw x2 (by have := HS0.out; show w.heap.size + 2 < W0.heap.size; omega)
  have z3 := hbx.cell.1
  refine wp_seq_k (fun K8 hK8 => ?_)
  refine Fact.region ?_
  refine Fact.p rfl fun K hK => ?_
  go_simp
  refine hK.out _ _ ?_; clear hK K
  refine Fact.nil ?_
  refine Fact.reQ (n := 35) (by simp only [Fact.G, hf.size]) hf.defers (fun fr1 hf1 hT => ?_)
  have hKp : _ ∧ _ ∧ _ ∧ _ ∧ _ := ⟨hT 7, hT 8, hT 23, hT 24, hT 25⟩
  simp only [Fact.G, Nat.reduceEqDiff, Nat.reduceLT, reduceIte, hf.size, s7, s8, s23, s24] at hKp
  clear hT hf s7 s8 s23 s24
  obtain ⟨s7, s8, s23, s24, s25⟩ := hKp
  have hf := hf1; clear hf1
  refine Fact.then_normal ?_
  refine hK8 _ _ ?_
  refine wp_seq_k (fun K9 hK9 => ?_)
  refine Fact.cond_s s25 (fun hq => ?_) (fun hq => ?_)
  ·
   have hlt : i < q.size := by have h9 := of_decide_eq_true hq; omega
   have hlt0 : g < W0.heap.size := cell_lt0 (hr0 0 (by omega))
   have hrd0 : Rd wr (.slice (some ⟨g, 0, none⟩) (q.size + 1) cc) (q.size + 1) r := ⟨g, cc, rfl, fun j hj => old_cell hbw (hr0 j hj) hlt0⟩
   have hnd0 := OI.rd ho (Nat.succ_pos i)
   obtain ⟨N, hN⟩ : ∃ N, nx q c r (i + 1) = N := ⟨_, rfl⟩
   have hbs := hb.size
   have hbs1 := hb1.size
   refine wp_skip ?_
   refine Fact.then_normal ?_
   refine hK9 _ _ ?_
   refine wp_seq_k (fun K10 hK10 => ?_)
   refine wp_block ?_
   refine wp_seq_k (fun K11 hK11 => ?_)
   refine Fact.region ?_
   have b26 := hf.l 26 rfl
   refine Fact.p rfl fun K hK => ?_
   go_simp
   refine hK.out _ _ ?_; clear hK K
   refine Fact.p rfl fun K hK => ?_
   go_simp
   refine hK.out _ _ ?_; clear hK K
   refine Fact.nil ?_
   refine Fact.reQ (n := 35) (by simp only [Fact.G, hf.size]) hf.defers (fun fr1 hf1 hT => ?_)
   have hKp : _ ∧ _ ∧ _ ∧ _ ∧ _ ∧ _ ∧ _ := ⟨hT 7, hT 8, hT 9, hT 23, hT 24, hT 25, hT 26⟩
   simp only [Fact.G, Nat.reduceEqDiff, Nat.reduceLT, reduceIte, hf.size, s7, s8, s23, s24, s25] at hKp
   clear hT hf s7 s8 s23 s24 s25 b26
   obtain ⟨s7, s8, s9, s23, s24, s25, s26⟩ := hKp
   have hf := hf1; clear hf1
   refine Fact.then_normal ?_
   refine hK11 _ _ ?_
   refine Stam.todo_begin (n := 35) [5, 6] (Stab.OkOps.of (by kernel_rfl)) (fun hok => ?_)
   apply Stam.t 0 _ hf.size hok.out rfl (by kernel_rfl)
   ·
    intro fr1 w1 hh hd hk K hK
    refine Stab.op_plain (o := _) rfl rfl ?_
    have s7 := Stam.o hh (by kernel_rfl) s7
    have hxe := Stam.ext_at hh [(5, []), (6, [])] (by kernel_rfl)
    clear hd hh
    have u0 := cell_later hxe z3
    go_simp
    exact hK.out _ rfl _ _ (Below.refl _ _) rfl
   refine Stam.mvO (k := 1) s8 hf.size hok.out rfl (by kernel_rfl) rfl rfl (.inl rfl) (by kernel_rfl) ?_
   refine Stam.mvO (k := 2) s9 hf.size hok.out rfl (by kernel_rfl) rfl rfl (.inl rfl) (by kernel_rfl) ?_
   apply Stam.t 3 _ hf.size hok.out rfl (by kernel_rfl)
   ·
    intro fr1 w1 hh hd hk K hK
    refine Stab.op_plain (o := _) rfl rfl ?_
    have s28 := Stam.u 1 1 hd hk rfl [] (by kernel_rfl) rfl rfl rfl
    have s29 := Stam.u 2 0 hd hk rfl [] (by kernel_rfl) rfl rfl rfl
    have hxe := Stam.ext_at hh [(5, []), (6, [])] (by kernel_rfl)
    clear hd hh
    go_simp
    go_at_call 67; refine (next67 q c i w.heap.size (w.heap.size + 2) (w.heap.size + 1) (W0.heap.size + 1) r _ _ hlt hq0 hr9 w1 (cell_later hxe z0) (cell_later hxe z2) (cell_later hxe z1) (cell_later hxe z3) (hrd0.later hxe) (hnd0.later hxe) N hN).mono ?_; rintro e w2 ⟨rfl, hb⟩
    exact hK.out _ rfl _ _ hb rfl
   refine Stam.todo_op (k := 4) (n := 35) (POne N) hf.size hok.out rfl (POne.stable N) (by kernel_rfl) ?_ ?_
   ·
    intro fr1 w1 hh hd hk K hK
    refine Stab.op_plain (o := _) rfl rfl ?_
    have s30 := Stam.u 3 0 hd hk rfl [] (by kernel_rfl) rfl rfl rfl
    have hxe := Stam.ext_at hh [(5, []), (6, [])] (by kernel_rfl)
    clear hd hh
    go_simp
    exact hK.out _ rfl _ _ ((Below.refl _ _).alloc (Nat.le_refl _) _) ⟨_, rfl, one_cell _ N⟩
   refine Stam.todo_sp (k := 5) (n := 35) (PApp W1 W0.heap.size (W0.heap.size + 1) vn (nxs q c r (i + 1) ++ [N])) hf.size hok.out rfl (PApp.stable _ _ _ _ _ hbs1) (by kernel_rfl) ?_ ?_
   ·
    intro fr1 w1 hh hd hk K hK
    refine Stab.op_plain (o := _) rfl rfl ?_
    have s27 := Stam.u 0 4 hd hk rfl [] (by kernel_rfl) rfl rfl rfl
    obtain ⟨x31, s31, hp31⟩ := Stam.use (j := 4) (m := 0) hd hk rfl [] (by kernel_rfl) [(6, true, [])] (by kernel_rfl) rfl rfl rfl
    obtain ⟨b31, rfl, hc31⟩ := hp31
    have hxe := Stam.ext_at hh [(6, [])] (by kernel_rfl)
    clear hd hh
    have ho2 := own_later ho hxe
    have hbx2 := hbx.later hxe
    refine wp_app3 _ _ rfl rfl W0.heap.size vn _ N (Fact.eval_tmp s27) ho2 b31 (Fact.eval_tmp s31) hc31 (by rw [nxs_length]; omega) (by have := hxe.size; omega) (fun v2 w2 ho3 hg3 hb3 => ?_)
    exact hK.out _ rfl _ _ ⟨ho3, hbx2.grown hg3 (OI.other ho2 hbx2), (hb.trans (hxe.mono (by omega))).trans hb3⟩
   refine Stam.todo_sp (k := 6) (n := 35) (PPut W1 W0.heap.size (W0.heap.size + 1) (nxs q c r (i + 1) ++ [N])) hf.size hok.out rfl (PPut.stable _ _ _ _ hbs1) (by kernel_rfl) ?_ ?_
   ·
    intro fr1 w1 hh hd hk K hK
    refine Stab.op_plain (o := _) rfl rfl ?_
    have s7 := Stam.o hh (by kernel_rfl) s7
    obtain ⟨x32, s32, hp32⟩ := Stam.use (j := 5) (m := 0) hd hk rfl [] (by kernel_rfl) [] (by kernel_rfl) rfl rfl rfl
    obtain ⟨ho32, hbx32, hb32⟩ := hp32
    obtain ⟨A32, n32, c32, rfl⟩ := OI.slice ho32
    clear hd hh
    obtain ⟨cx, fx⟩ := hbx32.cell
    go_simp
    exact hK.out _ rfl undef _ ⟨_, ho32.put hbx32, hbx32.put, hb32.setCell (Nat.le_add_right _ 1) _⟩
   refine Stam.todo_facts (n := 35) (by kernel_rfl) hf.size hok.out rfl (fun fr1 w1 hh hg => ?_)
   replace s7 := Stam.o hh (by kernel_rfl) s7
   replace s8 := Stam.o hh (by kernel_rfl) s8
   replace s9 := Stam.o hh (by kernel_rfl) s9
   replace s23 := Stam.o hh (by kernel_rfl) s23
   replace s24 := Stam.o hh (by kernel_rfl) s24
   replace s25 := Stam.o hh (by kernel_rfl) s25
   replace s26 := Stam.o hh (by kernel_rfl) s26
   have s27 := Stam.e 0 6 hg rfl rfl rfl rfl
   have s28 := Stam.e 1 5 hg rfl rfl rfl rfl
   have s29 := Stam.e 2 4 hg rfl rfl rfl rfl
   have s30 := Stam.e 3 3 hg rfl rfl rfl rfl
   obtain ⟨_, hlast⟩ := Stam.end_fact (j := 6) (m := 0) hg rfl (by decide) [(5, [])] (by kernel_rfl) rfl
   have hf1 : Fact.Fr 35 fr1 := ⟨hh.size.trans hf.size, hh.defers.trans hf.defers⟩
   clear hg hh hf hok 
   have hf := hf1; clear hf1
   refine Fact.block_normal ?_
   refine Fact.then_normal ?_
   refine hK10 _ _ ?_
   refine Fact.region ?_
   have b33 := hf.l 33 rfl
   refine Fact.p rfl fun K hK => ?_
   go_simp
   try simp (disch := omega) only [Fact.wrap_i64, Fact.wrap_u8, Fact.wrap_u32, Fact.wrap_u64]
   refine hK.out _ _ ?_; clear hK K
   refine Fact.p rfl fun K hK => ?_
   go_simp
   refine hK.out _ _ ?_; clear hK K
   refine Fact.nil ?_
   refine Fact.reQ (n := 35) (by simp only [Fact.G, hf.size]) hf.defers (fun fr1 hf1 hT => ?_)
   have hKp : _ ∧ _ ∧ _ ∧ _ ∧ _ ∧ _ ∧ _ ∧ _ ∧ _ ∧ _ ∧ _ ∧ _ := ⟨hT 7, hT 8, hT 9, hT 23, hT 24, hT 25, hT 26, hT 27, hT 28, hT 29, hT 30, hT 33⟩
   simp only [Fact.G, Nat.reduceEqDiff, Nat.reduceLT, reduceIte, hf.size, s7, s8, s9, s23, s25, s26, s27, s28, s29, s30] at hKp
   clear hT hf s7 s8 s9 s23 s24 s25 s26 s27 s28 s29 s30 b33
   obtain ⟨s7, s8, s9, s23, s24, s25, s26, s27, s28, s29, s30, s33⟩ := hKp
   have hf := hf1; clear hf1
   refine Fact.then_normal ?_
   obtain ⟨v2, ho2, hbx2, hb2⟩ := hlast
   exact ⟨_, by have := HK.out; omega, i + 1, v2, rfl, by omega, hf, s7, s8, s23, by rw [s24]; rfl, by rw [nxs_succ, hN]; exact ho2, hbx2, hb2⟩
  ·
   have hie : i = q.size := by have h9 := of_decide_eq_false hq; omega
   refine wp_exit ?_
   refine Fact.then_exit ?_
   refine Fact.then_exit ?_
   refine Fact.block_exit ?_
   refine Fact.then_normal ?_
   refine hK6 _ _ ?_
   refine wp_seq_k (fun K12 hK12 => ?_)
   refine Fact.region ?_
   have b34 := hf.l 34 rfl
   refine Fact.p rfl fun K hK => ?_
   go_simp
   refine hK.out _ _ ?_; clear hK K
   refine Fact.p rfl fun K hK => ?_
   go_simp
   refine hK.out _ _ ?_; clear hK K
   refine Fact.nil ?_
   refine Fact.reQ (n := 35) (by simp only [Fact.G, hf.size]) hf.defers (fun fr1 hf1 hT => ?_)
   have hKp := hT 6
   simp only [Fact.G, Nat.reduceEqDiff, Nat.reduceLT, reduceIte, hf.size] at hKp
   clear hT hf s7 s8 s23 s24 s25 b34
   have s6 := hKp; clear hKp
   have hf := hf1; clear hf1
   refine Fact.then_normal ?_
   refine hK12 _ _ ?_
   refine wp_ret ?_
   subst hie
   exact Fact.ret1 rfl hf s6 ⟨_, rfl, OI.rd ho (Nat.succ_pos _), hb0.trans (hbw.mono (by have := HS0.out; omega))⟩
set_option maxHeartbeats 4000000 in
set_option maxRecDepth 100000 in
theorem of39 (q t : ByteArray) (hq0 : q.size ≤ 900) (ht0 : t.size ≤ 900) (w : World) : Calls Try.prog 39 #[.string q, .string t] w fun e w1 => e = .returned (.int .i64 (dst q t : Nat)) ∧ Below w.heap.size w w1 := by
 refine calls_of_wp Try.func39 rfl ?_
 refine Fact.enter (n := 26) (by kernel_rfl) (fun fr hf hT => ?_)
 have s0 := hT 0 _ rfl
 have s1 := hT 1 _ rfl
 clear hT
 refine wp_seq_k (fun K1 hK1 => ?_)
 refine Fact.region ?_
 refine Fact.p rfl fun K hK => ?_
 go_simp
 refine hK.out _ _ ?_; clear hK K
 refine Fact.nil ?_
 refine Fact.reQ (n := 26) (by simp only [Fact.G, hf.size]) hf.defers (fun fr1 hf1 hT => ?_)
 have hKp : _ ∧ _ ∧ _ := ⟨hT 0, hT 1, hT 4⟩
 simp only [Fact.G, Nat.reduceEqDiff, Nat.reduceLT, reduceIte, hf.size, s0, s1] at hKp
 clear hT hf s0 s1
 obtain ⟨s0, s1, s4⟩ := hKp
 have hf := hf1; clear hf1
 refine Fact.then_normal ?_
 refine hK1 _ _ ?_
 refine wp_seq_k (fun K2 hK2 => ?_)
 refine Fact.region ?_
 have b7 := hf.l 7 rfl
 have b8 := hf.l 8 rfl
 refine Fact.p rfl fun K hK => ?_
 go_simp
 refine hK.out _ _ ?_; clear hK K
 refine Fact.p rfl fun K hK => ?_
 go_simp
 go_at_call 54; refine (row54 q hq0 w).mono ?_; rintro e w1 ⟨v1, rfl, hr1, hb1⟩
 dsimp only
 refine hK.out _ _ ?_; clear hK K
 refine Fact.p rfl fun K hK => ?_
 go_simp
 refine hK.out _ _ ?_; clear hK K
 refine Fact.nil ?_
 refine Fact.reQ (n := 26) (by simp only [Fact.G, hf.size]) hf.defers (fun fr1 hf1 hT => ?_)
 have hKp : _ ∧ _ ∧ _ ∧ _ := ⟨hT 0, hT 1, hT 4, hT 5⟩
 simp only [Fact.G, Nat.reduceEqDiff, Nat.reduceLT, reduceIte, hf.size, s0, s1, s4] at hKp
 clear hT hf s0 s1 s4 b7 b8
 obtain ⟨s0, s1, s4, s5⟩ := hKp
 have hf := hf1; clear hf1
 refine Fact.then_normal ?_
 refine hK2 _ _ ?_
 refine wp_seq_k (fun K3 hK3 => ?_)
 refine wp_seq_k (fun K4 hK4 => ?_)
 refine Fact.region ?_
 have b9 := hf.l 9 rfl
 refine Fact.p rfl fun K hK => ?_
 go_simp
 refine hK.out _ _ ?_; clear hK K
 refine Fact.p rfl fun K hK => ?_
 go_simp
 refine hK.out _ _ ?_; clear hK K
 refine Fact.p rfl fun K hK => ?_
 go_simp
 refine hK.out _ _ ?_; clear hK K
 refine Fact.nil ?_
 refine Fact.reQ (n := 26) (by simp only [Fact.G, hf.size]) hf.defers (fun fr1 hf1 hT => ?_)
 have hKp : _ ∧ _ ∧ _ ∧ _ ∧ _ ∧ _ := ⟨hT 0, hT 1, hT 4, hT 5, hT 10, hT 11⟩
 simp only [Fact.G, Nat.reduceEqDiff, Nat.reduceLT, reduceIte, hf.size, s0, s1, s4, s5] at hKp
 clear hT hf s0 s1 s4 s5 b9
 obtain ⟨s0, s1, s4, s5, s10, s11⟩ := hKp
 have hf := hf1; clear hf1
 refine Fact.then_normal ?_
 refine hK4 _ _ ?_
 refine wp_block ?_
 refine wp_loop_ghost (fun gk fr wr => ∃ (j : Nat) (v : Value), gk = t.size - j ∧ j ≤ t.size ∧ Fact.Fr 26 fr ∧ fr.tmps[0]? = some (.string q) ∧ fr.tmps[1]? = some (.string t) ∧ fr.tmps[5]? = some v ∧ fr.tmps[10]? = some (.int .i64 t.size) ∧ fr.tmps[11]? = some (.int .i64 j) ∧ Rd wr v (q.size + 1) (R q t j) ∧ Below w.heap.size w wr) (t.size) ?_ ?_
 ·
  exact ⟨0, _, rfl, Nat.zero_le _, hf, s0, s1, s5, s10, s11, hr1, hb1⟩
 ·
  clear hf s0 s1 s4 s5 s10 s11
  rintro gk fr wr ⟨j, v, hk, hj, hf, s0, s1, s5, s10, s11, hr, hb⟩
  have HK := Lib.hid hk; clear hk
  refine wp_seq_k (fun K5 hK5 => ?_)
  refine Fact.region ?_
  refine Fact.p rfl fun K hK => ?_
  go_simp
  refine hK.out _ _ ?_; clear hK K
  refine Fact.nil ?_
  refine Fact.reQ (n := 26) (by simp only [Fact.G, hf.size]) hf.defers (fun fr1 hf1 hT => ?_)
  have hKp : _ ∧ _ ∧ _ ∧ _ ∧ _ ∧ _ := ⟨hT 0, hT 1, hT 5, hT 10, hT 11, hT 12⟩
  simp only [Fact.G, Nat.reduceEqDiff, Nat.reduceLT, reduceIte, hf.size, s0, s1, s5, s10, s11] at hKp
  clear hT hf s0 s1 s5 s10 s11
  obtain ⟨s0, s1, s5, s10, s11, s12⟩ := hKp
  have hf := hf1; clear hf1
  refine Fact.then_normal ?_
  refine hK5 _ _ ?_
  refine wp_seq_k (fun K6 hK6 => ?_)
  refine Fact.cond_s s12 (fun hq => ?_) (fun hq => ?_)
  ·
   have hlt : j < t.size := by have h9 := of_decide_eq_true hq; omega
   have hat3 : ∀ (j : Nat) (h : j < t.size), t[j].toNat = at_ t j := fun j h => (at_get h).symm
   refine wp_skip ?_
   refine Fact.then_normal ?_
   refine hK6 _ _ ?_
   refine wp_seq_k (fun K7 hK7 => ?_)
   refine wp_block ?_
   refine wp_seq_k (fun K8 hK8 => ?_)
   refine Fact.region ?_
   have b13 := hf.l 13 rfl
   refine Fact.p rfl fun K hK => ?_
   go_simp
   refine hK.out _ _ ?_; clear hK K
   refine Fact.p rfl fun K hK => ?_
   go_simp
   refine hK.out _ _ ?_; clear hK K
   refine Fact.nil ?_
   refine Fact.reQ (n := 26) (by simp only [Fact.G, hf.size]) hf.defers (fun fr1 hf1 hT => ?_)
   have hKp : _ ∧ _ ∧ _ ∧ _ ∧ _ ∧ _ ∧ _ ∧ _ := ⟨hT 0, hT 1, hT 5, hT 6, hT 10, hT 11, hT 12, hT 13⟩
   simp only [Fact.G, Nat.reduceEqDiff, Nat.reduceLT, reduceIte, hf.size, s0, s1, s5, s10, s11, s12] at hKp
   clear hT hf s0 s1 s5 s10 s11 s12 b13
   obtain ⟨s0, s1, s5, s6, s10, s11, s12, s13⟩ := hKp
   have hf := hf1; clear hf1
   refine Fact.then_normal ?_
   refine hK8 _ _ ?_
   refine Fact.region ?_
   have b14 := hf.l 14 rfl
   have b15 := hf.l 15 rfl
   have b16 := hf.l 16 rfl
   have b17 := hf.l 17 rfl
   have b18 := hf.l 18 rfl
   have b19 := hf.l 19 rfl
   refine Fact.p rfl fun K hK => ?_
   go_simp
   refine hK.out _ _ ?_; clear hK K
   refine Fact.p rfl fun K hK => ?_
   go_simp
   refine hK.out _ _ ?_; clear hK K
   refine Fact.p rfl fun K hK => ?_
   go_simp
   refine hK.out _ _ ?_; clear hK K
   refine Fact.p rfl fun K hK => ?_
   go_simp
   refine hK.out _ _ ?_; clear hK K
   refine Fact.p rfl fun K hK => ?_
   go_simp
   try rw [if_pos (by omega)]
   refine hK.out _ _ ?_; clear hK K
   refine Fact.p rfl fun K hK => ?_
   go_simp
   go_at_call 55; refine (next55 q (at_ t j) (R q t j) v hq0 (fun i hi => by have := R_le q t q.size j i hi; omega) wr hr).mono ?_; rintro e w2 ⟨v2, rfl, hr2, hb2⟩
   dsimp only
   refine hK.out _ _ ?_; clear hK K
   refine Fact.p rfl fun K hK => ?_
   go_simp
   refine hK.out _ _ ?_; clear hK K
   refine Fact.nil ?_
   refine Fact.reQ (n := 26) (by simp only [Fact.G, hf.size]) hf.defers (fun fr1 hf1 hT => ?_)
   have hKp : _ ∧ _ ∧ _ ∧ _ ∧ _ ∧ _ ∧ _ ∧ _ ∧ _ ∧ _ ∧ _ ∧ _ ∧ _ ∧ _ := ⟨hT 0, hT 1, hT 5, hT 6, hT 10, hT 11, hT 12, hT 13, hT 14, hT 15, hT 16, hT 17, hT 18, hT 19⟩
   simp only [Fact.G, Nat.reduceEqDiff, Nat.reduceLT, reduceIte, hf.size, s0, s1, s6, s10, s11, s12, s13] at hKp
   clear hT hf s0 s1 s5 s6 s10 s11 s12 s13 b14 b15 b16 b17 b18 b19
   obtain ⟨s0, s1, s5, s6, s10, s11, s12, s13, s14, s15, s16, s17, s18, s19⟩ := hKp
   have hf := hf1; clear hf1
   refine Fact.block_normal ?_
   refine Fact.then_normal ?_
   refine hK7 _ _ ?_
   refine Fact.region ?_
   have b20 := hf.l 20 rfl
   refine Fact.p rfl fun K hK => ?_
   go_simp
   try simp (disch := omega) only [Fact.wrap_i64, Fact.wrap_u8, Fact.wrap_u32, Fact.wrap_u64]
   refine hK.out _ _ ?_; clear hK K
   refine Fact.p rfl fun K hK => ?_
   go_simp
   refine hK.out _ _ ?_; clear hK K
   refine Fact.nil ?_
   refine Fact.reQ (n := 26) (by simp only [Fact.G, hf.size]) hf.defers (fun fr1 hf1 hT => ?_)
   have hKp : _ ∧ _ ∧ _ ∧ _ ∧ _ ∧ _ ∧ _ ∧ _ ∧ _ ∧ _ ∧ _ ∧ _ ∧ _ ∧ _ ∧ _ := ⟨hT 0, hT 1, hT 5, hT 6, hT 10, hT 11, hT 12, hT 13, hT 14, hT 15, hT 16, hT 17, hT 18, hT 19, hT 20⟩
   simp only [Fact.G, Nat.reduceEqDiff, Nat.reduceLT, reduceIte, hf.size, s0, s1, s5, s6, s10, s12, s13, s14, s15, s16, s17, s18, s19] at hKp
   clear hT hf s0 s1 s5 s6 s10 s11 s12 s13 s14 s15 s16 s17 s18 s19 b20
   obtain ⟨s0, s1, s5, s6, s10, s11, s12, s13, s14, s15, s16, s17, s18, s19, s20⟩ := hKp
   have hf := hf1; clear hf1
   refine Fact.then_normal ?_
   exact ⟨_, by have := HK.out; omega, j + 1, v2, rfl, by omega, hf, s0, s1, s5, s10, by rw [s11]; rfl, hr2, hb.trans (hb2.mono hb.size)⟩
  ·
   have hje : j = t.size := by have h9 := of_decide_eq_false hq; omega
   subst hje
   obtain ⟨g, c, rfl, hrc⟩ := hr
   have cq := hrc q.size (by omega)
   refine wp_exit ?_
   refine Fact.then_exit ?_
   refine Fact.then_exit ?_
   refine Fact.block_exit ?_
   refine Fact.then_normal ?_
   refine hK3 _ _ ?_
   refine wp_seq_k (fun K9 hK9 => ?_)
   refine Fact.region ?_
   have b21 := hf.l 21 rfl
   have b22 := hf.l 22 rfl
   have b23 := hf.l 23 rfl
   have b24 := hf.l 24 rfl
   have b25 := hf.l 25 rfl
   refine Fact.p rfl fun K hK => ?_
   go_simp
   refine hK.out _ _ ?_; clear hK K
   refine Fact.p rfl fun K hK => ?_
   go_simp
   refine hK.out _ _ ?_; clear hK K
   refine Fact.p rfl fun K hK => ?_
   go_simp
   refine hK.out _ _ ?_; clear hK K
   refine Fact.p rfl fun K hK => ?_
   go_simp
   try rw [if_pos (by omega)]
   refine hK.out _ _ ?_; clear hK K
   refine Fact.p rfl fun K hK => ?_
   go_simp
   refine hK.out _ _ ?_; clear hK K
   refine Fact.p rfl fun K hK => ?_
   go_simp
   refine hK.out _ _ ?_; clear hK K
   refine Fact.nil ?_
   refine Fact.reQ (n := 26) (by simp only [Fact.G, hf.size]) hf.defers (fun fr1 hf1 hT => ?_)
   have hKp := hT 4
   simp only [Fact.G, Nat.reduceEqDiff, Nat.reduceLT, reduceIte, hf.size] at hKp
   clear hT hf s0 s1 s5 s10 s11 s12 b21 b22 b23 b24 b25
   have s4 := hKp; clear hKp
   have hf := hf1; clear hf1
   refine Fact.then_normal ?_
   refine hK9 _ _ ?_
   refine wp_ret ?_
   exact Fact.ret1 rfl hf s4 ⟨rfl, hb⟩
set_option maxHeartbeats 4000000 in
set_option maxRecDepth 100000 in
theorem within23a (q t : ByteArray) (k : Nat) (hq0 : q.size ≤ 900) (ht0 : t.size ≤ 900) (hk :  dst q t ≤ k) (w : World) : Calls Try.prog 23 #[.string q, .string t, .int .i64 k] w fun e w1 => e = .returned (.tuple #[.int .i64 (if dst q t ≤ k then dst q t else 0 : Nat), .bool (decide (dst q t ≤ k))]) ∧ Below w.heap.size w w1 := by
 refine calls_of_wp Try.func23 rfl ?_
 refine Fact.enter (n := 16) (by kernel_rfl) (fun fr hf hT => ?_)
 have s0 := hT 0 _ rfl
 have s1 := hT 1 _ rfl
 have s2 := hT 2 _ rfl
 clear hT
 refine wp_seq_k (fun K1 hK1 => ?_)
 refine Fact.region ?_
 refine Fact.p rfl fun K hK => ?_
 go_simp
 refine hK.out _ _ ?_; clear hK K
 refine Fact.p rfl fun K hK => ?_
 go_simp
 refine hK.out _ _ ?_; clear hK K
 refine Fact.nil ?_
 refine Fact.reQ (n := 16) (by simp only [Fact.G, hf.size]) hf.defers (fun fr1 hf1 hT => ?_)
 have hKp : _ ∧ _ ∧ _ ∧ _ ∧ _ := ⟨hT 0, hT 1, hT 2, hT 6, hT 7⟩
 simp only [Fact.G, Nat.reduceEqDiff, Nat.reduceLT, reduceIte, hf.size, s0, s1, s2] at hKp
 clear hT hf s0 s1 s2
 obtain ⟨s0, s1, s2, s6, s7⟩ := hKp
 have hf := hf1; clear hf1
 refine Fact.then_normal ?_
 refine hK1 _ _ ?_
 refine wp_seq_k (fun K2 hK2 => ?_)
 refine wp_seq_k (fun K3 hK3 => ?_)
 refine Fact.region ?_
 have b9 := hf.l 9 rfl
 have b10 := hf.l 10 rfl
 have b11 := hf.l 11 rfl
 refine Fact.p rfl fun K hK => ?_
 go_simp
 refine hK.out _ _ ?_; clear hK K
 refine Fact.p rfl fun K hK => ?_
 go_simp
 refine hK.out _ _ ?_; clear hK K
 refine Fact.p rfl fun K hK => ?_
 go_simp
 go_at_call 39; refine (of39 q t hq0 ht0 w).mono ?_; rintro e w1 ⟨rfl, hb⟩
 dsimp only
 refine hK.out _ _ ?_; clear hK K
 refine Fact.p rfl fun K hK => ?_
 go_simp
 refine hK.out _ _ ?_; clear hK K
 refine Fact.nil ?_
 refine Fact.reQ (n := 16) (by simp only [Fact.G, hf.size]) hf.defers (fun fr1 hf1 hT => ?_)
 have hKp : _ ∧ _ ∧ _ ∧ _ := ⟨hT 2, hT 6, hT 7, hT 8⟩
 simp only [Fact.G, Nat.reduceEqDiff, Nat.reduceLT, reduceIte, hf.size, s2, s6, s7] at hKp
 clear hT hf s0 s1 s2 s6 s7 b9 b10 b11
 obtain ⟨s2, s6, s7, s8⟩ := hKp
 have hf := hf1; clear hf1
 refine Fact.then_normal ?_
 refine hK3 _ _ ?_
 refine wp_seq_k (fun K4 hK4 => ?_)
 refine Fact.region ?_
 have b12 := hf.l 12 rfl
 have b13 := hf.l 13 rfl
 refine Fact.p rfl fun K hK => ?_
 go_simp
 refine hK.out _ _ ?_; clear hK K
 refine Fact.p rfl fun K hK => ?_
 go_simp
 refine hK.out _ _ ?_; clear hK K
 refine Fact.p rfl fun K hK => ?_
 go_simp
 refine hK.out _ _ ?_; clear hK K
 refine Fact.nil ?_
 refine Fact.reQ (n := 16) (by simp only [Fact.G, hf.size]) hf.defers (fun fr1 hf1 hT => ?_)
 have hKp : _ ∧ _ ∧ _ ∧ _ := ⟨hT 6, hT 7, hT 8, hT 14⟩
 simp only [Fact.G, Nat.reduceEqDiff, Nat.reduceLT, reduceIte, hf.size, s6, s7, s8] at hKp
 clear hT hf s2 s6 s7 s8 b12 b13
 obtain ⟨s6, s7, s8, s14⟩ := hKp
 have hf := hf1; clear hf1
 refine Fact.then_normal ?_
 refine hK4 _ _ ?_
 have q1 : decide (dst q t ≤ k) = true := decide_eq_true (by omega)
 try simp only [q1] at s14
 refine Fact.cond_t s14 ?_
 refine wp_seq_k (fun K5 hK5 => ?_)
 refine Fact.region ?_
 have b15 := hf.l 15 rfl
 refine Fact.p rfl fun K hK => ?_
 go_simp
 refine hK.out _ _ ?_; clear hK K
 refine Fact.p rfl fun K hK => ?_
 go_simp
 refine hK.out _ _ ?_; clear hK K
 refine Fact.p rfl fun K hK => ?_
 go_simp
 refine hK.out _ _ ?_; clear hK K
 refine Fact.nil ?_
 refine Fact.reQ (n := 16) (by simp only [Fact.G, hf.size]) hf.defers (fun fr1 hf1 hT => ?_)
 have hKp : _ ∧ _ := ⟨hT 6, hT 7⟩
 simp only [Fact.G, Nat.reduceEqDiff, Nat.reduceLT, reduceIte, hf.size] at hKp
 clear hT hf s6 s7 s8 s14 b15
 obtain ⟨s6, s7⟩ := hKp
 have hf := hf1; clear hf1
 refine Fact.then_normal ?_
 refine hK5 _ _ ?_
 refine wp_ret ?_
 refine Fact.then_ret ?_
 exact Fact.ret2 rfl hf s6 s7 ⟨by rw [if_pos hk, decide_eq_true hk], hb⟩
set_option maxHeartbeats 4000000 in
set_option maxRecDepth 100000 in
theorem within23b (q t : ByteArray) (k : Nat) (hq0 : q.size ≤ 900) (ht0 : t.size ≤ 900) (hk : ¬ dst q t ≤ k) (w : World) : Calls Try.prog 23 #[.string q, .string t, .int .i64 k] w fun e w1 => e = .returned (.tuple #[.int .i64 (if dst q t ≤ k then dst q t else 0 : Nat), .bool (decide (dst q t ≤ k))]) ∧ Below w.heap.size w w1 := by
 refine calls_of_wp Try.func23 rfl ?_
 refine Fact.enter (n := 16) (by kernel_rfl) (fun fr hf hT => ?_)
 have s0 := hT 0 _ rfl
 have s1 := hT 1 _ rfl
 have s2 := hT 2 _ rfl
 clear hT
 refine wp_seq_k (fun K1 hK1 => ?_)
 refine Fact.region ?_
 refine Fact.p rfl fun K hK => ?_
 go_simp
 refine hK.out _ _ ?_; clear hK K
 refine Fact.p rfl fun K hK => ?_
 go_simp
 refine hK.out _ _ ?_; clear hK K
 refine Fact.nil ?_
 refine Fact.reQ (n := 16) (by simp only [Fact.G, hf.size]) hf.defers (fun fr1 hf1 hT => ?_)
 have hKp : _ ∧ _ ∧ _ ∧ _ ∧ _ := ⟨hT 0, hT 1, hT 2, hT 6, hT 7⟩
 simp only [Fact.G, Nat.reduceEqDiff, Nat.reduceLT, reduceIte, hf.size, s0, s1, s2] at hKp
 clear hT hf s0 s1 s2
 obtain ⟨s0, s1, s2, s6, s7⟩ := hKp
 have hf := hf1; clear hf1
 refine Fact.then_normal ?_
 refine hK1 _ _ ?_
 refine wp_seq_k (fun K2 hK2 => ?_)
 refine wp_seq_k (fun K3 hK3 => ?_)
 refine Fact.region ?_
 have b9 := hf.l 9 rfl
 have b10 := hf.l 10 rfl
 have b11 := hf.l 11 rfl
 refine Fact.p rfl fun K hK => ?_
 go_simp
 refine hK.out _ _ ?_; clear hK K
 refine Fact.p rfl fun K hK => ?_
 go_simp
 refine hK.out _ _ ?_; clear hK K
 refine Fact.p rfl fun K hK => ?_
 go_simp
 go_at_call 39; refine (of39 q t hq0 ht0 w).mono ?_; rintro e w1 ⟨rfl, hb⟩
 dsimp only
 refine hK.out _ _ ?_; clear hK K
 refine Fact.p rfl fun K hK => ?_
 go_simp
 refine hK.out _ _ ?_; clear hK K
 refine Fact.nil ?_
 refine Fact.reQ (n := 16) (by simp only [Fact.G, hf.size]) hf.defers (fun fr1 hf1 hT => ?_)
 have hKp : _ ∧ _ ∧ _ ∧ _ := ⟨hT 2, hT 6, hT 7, hT 8⟩
 simp only [Fact.G, Nat.reduceEqDiff, Nat.reduceLT, reduceIte, hf.size, s2, s6, s7] at hKp
 clear hT hf s0 s1 s2 s6 s7 b9 b10 b11
 obtain ⟨s2, s6, s7, s8⟩ := hKp
 have hf := hf1; clear hf1
 refine Fact.then_normal ?_
 refine hK3 _ _ ?_
 refine wp_seq_k (fun K4 hK4 => ?_)
 refine Fact.region ?_
 have b12 := hf.l 12 rfl
 have b13 := hf.l 13 rfl
 refine Fact.p rfl fun K hK => ?_
 go_simp
 refine hK.out _ _ ?_; clear hK K
 refine Fact.p rfl fun K hK => ?_
 go_simp
 refine hK.out _ _ ?_; clear hK K
 refine Fact.p rfl fun K hK => ?_
 go_simp
 refine hK.out _ _ ?_; clear hK K
 refine Fact.nil ?_
 refine Fact.reQ (n := 16) (by simp only [Fact.G, hf.size]) hf.defers (fun fr1 hf1 hT => ?_)
 have hKp : _ ∧ _ ∧ _ ∧ _ := ⟨hT 6, hT 7, hT 8, hT 14⟩
 simp only [Fact.G, Nat.reduceEqDiff, Nat.reduceLT, reduceIte, hf.size, s6, s7, s8] at hKp
 clear hT hf s2 s6 s7 s8 b12 b13
 obtain ⟨s6, s7, s8, s14⟩ := hKp
 have hf := hf1; clear hf1
 refine Fact.then_normal ?_
 refine hK4 _ _ ?_
 have q1 : decide (dst q t ≤ k) = false := decide_eq_false (by omega)
 try simp only [q1] at s14
 refine Fact.cond_f s14 ?_
 refine wp_skip ?_
 refine Fact.then_normal ?_
 refine hK2 _ _ ?_
 refine wp_seq_k (fun K5 hK5 => ?_)
 refine Fact.region ?_
 refine Fact.p rfl fun K hK => ?_
 go_simp
 refine hK.out _ _ ?_; clear hK K
 refine Fact.p rfl fun K hK => ?_
 go_simp
 refine hK.out _ _ ?_; clear hK K
 refine Fact.nil ?_
 refine Fact.reQ (n := 16) (by simp only [Fact.G, hf.size]) hf.defers (fun fr1 hf1 hT => ?_)
 have hKp : _ ∧ _ := ⟨hT 6, hT 7⟩
 simp only [Fact.G, Nat.reduceEqDiff, Nat.reduceLT, reduceIte, hf.size] at hKp
 clear hT hf s6 s7 s8 s14
 obtain ⟨s6, s7⟩ := hKp
 have hf := hf1; clear hf1
 refine Fact.then_normal ?_
 refine hK5 _ _ ?_
 refine wp_ret ?_
 exact Fact.ret2 rfl hf s6 s7 ⟨by rw [if_neg hk, decide_eq_false hk]; rfl, hb⟩
theorem within23 (q t : ByteArray) (k : Nat) (hq0 : q.size ≤ 900) (ht0 : t.size ≤ 900) (w : World) : Calls Try.prog 23 #[.string q, .string t, .int .i64 k] w fun e w1 => e = .returned (.tuple #[.int .i64 (if dst q t ≤ k then dst q t else 0 : Nat), .bool (decide (dst q t ≤ k))]) ∧ Below w.heap.size w w1 := by
  by_cases hk : dst q t ≤ k
  · exact within23a q t k hq0 ht0 hk w
  · exact within23b q t k hq0 ht0 hk w

end Lv
end Go.Proofs.Ytfgfichkcckhiaa
