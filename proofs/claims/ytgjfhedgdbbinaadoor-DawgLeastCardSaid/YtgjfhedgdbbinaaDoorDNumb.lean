/- Dawg: the number of a state, by the document. -/
import Derived.Test.YtgjfhedgdbbinaaDoorDMk
import Derived.Test.YtgjfhedgdbbinaaDoorDFin
import Derived.Test.YtgjfhedgdbbinaaDoorTools
namespace Go.Proofs.YtgjfhedgdbbinaaDoor
open Go.RowKit
set_option linter.unusedSimpArgs false
set_option linter.unusedVariables false
set_option linter.unnecessarySimpa false
namespace Dw

def PRowM (w4 : World) (base g : Nat) (v b : Value) (n : Nat) (cells : List Value) : Stab.Pr := fun v' w => w.ownsRow base 61 3 v' n cells ∧ (v'.ownBlock = v.ownBlock ∨ ∃ k, v'.ownBlock = some k ∧ w4.heap.size ≤ k) ∧ w.heap[g]? = some (.cells #[b] 89 (0, 0))
theorem PRowM.stable (w4 : World) (base g : Nat) (v b : Value) (n : Nat) (cells : List Value) : Stab.Stable (PRowM w4 base g v b n cells) := fun v' w w' hb ⟨h1, h2, h3⟩ => ⟨own_later h1 hb, h2, (hb.block g (heap_lt h3)).trans h3⟩
def PEndM (w4 : World) (base g : Nat) (v : Value) (n : Nat) (cells : List Value) : Stab.Pr := fun _ w => ∃ v', w.ownsRow base 61 3 v' n cells ∧ (v'.ownBlock = v.ownBlock ∨ ∃ k, v'.ownBlock = some k ∧ w4.heap.size ≤ k) ∧ w.heap[g]? = some (.cells #[v'] 89 (0, 0))
theorem PEndM.stable (w4 : World) (base g : Nat) (v : Value) (n : Nat) (cells : List Value) : Stab.Stable (PEndM w4 base g v n cells) := fun _ w w' hb ⟨v', h1, h2, h3⟩ => ⟨v', own_later h1 hb, h2, (hb.block g (heap_lt h3)).trans h3⟩
set_option maxHeartbeats 4000000 in
set_option maxRecDepth 100000 in
theorem number (w : World) (base g : Nat) (v : Value) (B Bs : Nat → Prop) (ss : List State) (s : State) (av : Value) (hm : MS w base g v B ss) (hbase : base ≤ w.heap.size) (hra : RA w Bs av s.arcs) (hbs : ∀ k, Bs k → k ≠ g ∧ v.ownBlock ≠ some k) (hlen : ss.length ≤ 100000) (hfew : ∀ x ∈ ss, x.arcs.length ≤ 4611686018427387904) (hls : s.arcs.length ≤ 4611686018427387904) : Calls Tryd.prog 51 #[.pointer (some ⟨g, 0, none⟩), sval av s] w fun e w1 => e = .returned (.int .i64 ((finish ss s).2 : Nat)) ∧ ∃ v', MS w1 base g v' (fun k => k < w.heap.size ∧ (B k ∨ Bs k)) (finish ss s).1 ∧ But (fun k => k = g ∨ v.ownBlock = some k) w w1 ∧ (v'.ownBlock = v.ownBlock ∨ ∃ k, v'.ownBlock = some k ∧ w.heap.size ≤ k) := by
 refine calls_of_wp Tryd.func51 rfl ?_
 refine Fact.en 41 fun fr hf hT => ?_
 have s0 := hT 0 _ rfl
 have s1 := hT 1 _ rfl
 clear hT
 simp only [sval] at s1
 refine Fact.sq fun K1 hK1 => ?_
 refine rg ?_
 refine fp fun K Z => ?_
 go_simp
 apply Z.out; clear Z K
 refine fp fun K Z => ?_
 go_simp
 apply Z.out; clear Z K
 refine Fact.z hf fun fr1 hf1 hT => ?_
 have hKp : _ ∧ _ := ⟨hT 0, hT 3⟩
 simp (decide := true) only [Fact.G, hf.size, reduceIte, s0] at hKp
 replace hf := hf1; clear hT hf1 s0 s1
 obtain ⟨s0, s3⟩ := hKp
 obtain ⟨W0, hW0⟩ : ∃ W0, w.alloc (.cells #[av, .bool s.final, .int .u64 s.out] 61) = W0 := ⟨_, rfl⟩
 try rw [hW0]
 obtain ⟨hb0, c0, c1, c2, -, hz0_⟩ := box3 hW0
 clear hW0
 have hz0 : w.heap.size < W0.heap.size := by rw [hz0_]; exact Nat.lt_succ_self _
 clear hz0_
 have hm0 := hm.later hb0; have hra0 := hra.later hb0
 have hs0 := hb0.size
 obtain ⟨Aa, ca, hav, -⟩ := hra.form
 have HAV := Lib.hid hav; clear hav
 have HF := Lib.hid hfew; clear hfew
 obtain ⟨cells, hrow0, hcl⟩ := hm.row
 have HCL := Lib.hid hcl; clear hcl
 refine nx (hK1 _ _ ?_)
 refine Fact.sq fun K2 hK2 => ?_
 refine Fact.sq fun K3 hK3 => ?_
 refine rg ?_
 refine fp fun K Z => ?_
 go_simp
 apply Z.out; clear Z K
 refine Fact.z hf fun fr1 hf1 hT => ?_
 have hKp : _ ∧ _ ∧ _ := ⟨hT 0, hT 3, hT 5⟩
 simp (decide := true) only [Fact.G, hf.size, reduceIte, s0, s3] at hKp
 replace hf := hf1; clear hT hf1 s0 s3
 obtain ⟨s0, s3, s5⟩ := hKp
 refine nx (hK3 _ _ ?_)
 refine wp_block ?_
 refine wp_loop_ghost (fun gk fr wr => ∃ (i : Nat), gk = ss.length - i ∧ i ≤ ss.length ∧ Fact.Fr 41 fr ∧ fr.tmps[0]? = some (.pointer (some ⟨g, 0, none⟩)) ∧ fr.tmps[3]? = some (.pointer (some ⟨w.heap.size, 0, none⟩)) ∧ fr.tmps[5]? = some (.int .i64 i) ∧ s ∉ ss.take i ∧ Below W0.heap.size W0 wr) (ss.length) ?_ ?_
 · (
 exact ⟨0, rfl, Nat.zero_le _, hf, s0, s3, s5, by simp, Below.refl _ _⟩)
 · (
 clear hf s0 s3 s5
 rintro gk fr wr ⟨i, hk, hi, hf, s0, s3, s5, hn, hb⟩
 have HK := Lib.hid hk; have HN := Lib.hid hn; clear hk hn
 have hmr := hm0.later hb
 have d0 := cL hb c0; have d1 := cL hb c1; have d2 := cL hb c2
 have hrar := hra0.later hb
 have hbr := hb0.trans (hb.mono hs0)
 have mc := hmr.cell
 have hrs := hmr.rs
 obtain ⟨Am, cm, hv, -⟩ := hmr.form
 have HV := Lib.hid hv
 rw [hv] at mc hrs
 clear hv
 refine Fact.sq fun K4 hK4 => ?_
 refine Fact.sq fun K5 hK5 => ?_
 refine rg ?_
 have b6 := hf.b 6
 have b7 := hf.b 7
 have b8 := hf.b 8
 have b9 := hf.b 9
 have b10 := hf.b 10
 have b11 := hf.b 11
 refine fp fun K Z => ?_
 go_simp
 apply Z.out; clear Z K
 refine fp fun K Z => ?_
 go_simp
 apply Z.out; clear Z K
 refine fp fun K Z => ?_
 go_simp
 apply Z.out; clear Z K
 refine fp fun K Z => ?_
 go_simp
 apply Z.out; clear Z K
 refine fp fun K Z => ?_
 go_simp
 apply Z.out; clear Z K
 refine fp fun K Z => ?_
 go_simp
 apply Z.out; clear Z K
 refine fp fun K Z => ?_
 go_simp
 apply Z.out; clear Z K
 refine Fact.z hf fun fr1 hf1 hT => ?_
 have hKp : _ ∧ _ ∧ _ ∧ _ := ⟨hT 0, hT 3, hT 5, hT 12⟩
 simp (decide := true) only [Fact.G, hf.size, reduceIte, s0, s3, s5] at hKp
 replace hf := hf1; clear hT hf1 s0 s3 s5 b6 b7 b8 b9 b10 b11
 obtain ⟨s0, s3, s5, s12⟩ := hKp
 refine nx (hK5 _ _ ?_)
 refine Fact.cond_s s12 (fun hq => ?_) (fun hq => ?_)
 · (
 have hlt : i < ss.length := by have h9 := of_decide_eq_true hq; omega
 have HQ := Lib.hid hq; clear hq
 obtain ⟨x, hix⟩ : ∃ x, ss[i]? = some x := ⟨_, List.getElem?_eq_getElem hlt⟩
 obtain ⟨b, off, xv, rfl, hat⟩ := hrs.at_ hix
 have e0 := hat.c0; have e1 := hat.c1; have e2 := hat.c2
 have hrx := hat.arcs
 have hlx := HF.out x (List.mem_of_getElem? hix)
 have hnt : x ≠ s → s ∉ ss.take (i + 1) := fun hne => by rw [List.take_add_one, hix]; simp only [Option.toList_some, List.mem_append, List.mem_singleton]; rintro (h | h); exact HN.out h; exact hne h.symm
 have HNT := Lib.hid hnt; have HX := Lib.hid hix; clear hnt hix hat
 obtain ⟨Ax, cx, rfl, -⟩ := hrx.form
 refine wp_skip ?_
 refine nx (hK4 _ _ ?_)
 refine Fact.sq fun K6 hK6 => ?_
 refine wp_block ?_
 refine Fact.sq fun K7 hK7 => ?_
 refine Stab.tb 41 fun hok => ?_
 refine Stab.mO 0 s0 hf hok ?_
 apply Stab.tq 1 _ hf hok
 · (
 intro fr1 w1 hh hd hk K Z
 have s15 := Stab.v 0 0 hd hk []
 clear hd
 go_simp
 exact Stab.k Z)
 apply Stab.tq 2 _ hf hok
 · (
 intro fr1 w1 hh hd hk K Z
 have s16 := Stab.v 1 0 hd hk []
 clear hd
 go_simp
 exact Stab.k Z)
 apply Stab.tq 3 _ hf hok
 · (
 intro fr1 w1 hh hd hk K Z
 have s17 := Stab.v 2 0 hd hk []
 clear hd
 replace mc := cL hh.ext mc
 replace d0 := cL hh.ext d0
 replace d1 := cL hh.ext d1
 replace d2 := cL hh.ext d2
 replace e0 := cL hh.ext e0
 replace e1 := cL hh.ext e1
 replace e2 := cL hh.ext e2
 replace hrx := hrx.later hh.ext
 replace hrar := hrar.later hh.ext
 replace hmr := hmr.later hh.ext
 go_simp
 exact Stab.k Z)
 refine Stab.mO 4 s5 hf hok ?_
 apply Stab.tq 5 _ hf hok
 · (
 intro fr1 w1 hh hd hk K Z
 have s18 := Stab.v 3 1 hd hk []
 have s19 := Stab.v 4 0 hd hk []
 clear hd
 go_simp
 try rw [if_pos (by omega)]
 exact Stab.k Z)
 apply Stab.tq 6 _ hf hok
 · (
 intro fr1 w1 hh hd hk K Z
 have s20 := Stab.v 5 0 hd hk []
 clear hd
 replace mc := cL hh.ext mc
 replace d0 := cL hh.ext d0
 replace d1 := cL hh.ext d1
 replace d2 := cL hh.ext d2
 replace e0 := cL hh.ext e0
 replace e1 := cL hh.ext e1
 replace e2 := cL hh.ext e2
 replace hrx := hrx.later hh.ext
 replace hrar := hrar.later hh.ext
 replace hmr := hmr.later hh.ext
 go_simp
 exact Stab.k Z)
 apply Stab.tq 7 _ hf hok
 · (
 intro fr1 w1 hh hd hk K Z
 have s3 := Stab.O hh s3
 clear hd
 replace mc := cL hh.ext mc
 replace d0 := cL hh.ext d0
 replace d1 := cL hh.ext d1
 replace d2 := cL hh.ext d2
 replace e0 := cL hh.ext e0
 replace e1 := cL hh.ext e1
 replace e2 := cL hh.ext e2
 replace hrx := hrx.later hh.ext
 replace hrar := hrar.later hh.ext
 replace hmr := hmr.later hh.ext
 go_simp
 exact Stab.k Z)
 apply Stab.tq 8 _ hf hok
 · (
 intro fr1 w1 hh hd hk K Z
 have s21 := Stab.v 6 1 hd hk []
 have s22 := Stab.v 7 0 hd hk []
 clear hd
 replace mc := cL hh.ext mc
 replace d0 := cL hh.ext d0
 replace d1 := cL hh.ext d1
 replace d2 := cL hh.ext d2
 replace e0 := cL hh.ext e0
 replace e1 := cL hh.ext e1
 replace e2 := cL hh.ext e2
 replace hrx := hrx.later hh.ext
 replace hrar := hrar.later hh.ext
 replace hmr := hmr.later hh.ext
 go_simp
 go_at_call 41; refine (alike w1 x s _ _ hrx hrar hlx hls).mono ?_; rintro e w2 ⟨rfl, hb⟩
 exact Z.out _ rfl _ _ hb rfl)
 refine Stab.tf hf hok fun fr1 w1 hh hg => ?_
 replace s0 := Stab.O hh s0
 replace s3 := Stab.O hh s3
 replace s5 := Stab.O hh s5
 have s23 := Stab.f 8 0 hg
 have hf1 := hh.fr hf
 have hx := hh.ext
 replace mc := cL hx mc
 replace d0 := cL hx d0
 replace d1 := cL hx d1
 replace d2 := cL hx d2
 replace e0 := cL hx e0
 replace e1 := cL hx e1
 replace e2 := cL hx e2
 replace hrx := hrx.later hx
 replace hrar := hrar.later hx
 replace hmr := hmr.later hx
 clear hg hh hf hok s12
 have hf := hf1; clear hf1
 refine nx (hK7 _ _ ?_)
 refine Fact.cond_s s23 (fun hq2 => ?_) (fun hq2 => ?_)
 · (
 have hbx := hbr.trans (hx.mono hbr.size)
 have hxs : x = s := of_decide_eq_true hq2
 have HXS := Lib.hid hxs; clear hxs hq2
 refine Fact.sq fun K8 hK8 => ?_
 refine rg ?_
 have b24 := hf.b 24
 refine fp fun K Z => ?_
 go_simp
 apply Z.out; clear Z K
 refine fp fun K Z => ?_
 go_simp
 apply Z.out; clear Z K
 refine Fact.z hf fun fr1 hf1 hT => ?_
 have hKp := hT 4
 simp (decide := true) only [Fact.G, hf.size, reduceIte] at hKp
 replace hf := hf1; clear hT hf1 s0 s3 s5 s23 b24
 have s4 := hKp; clear hKp
 refine nx (hK8 _ _ ?_)
 refine wp_ret ?_
 refine Fact.block_ret ?_
 refine Fact.then_ret ?_
 refine Fact.then_ret ?_
 refine Fact.block_ret ?_
 refine Fact.then_ret ?_
 have hfa : finish ss s = (ss, i) := finish_at (by rw [HX.out, HXS.out]) HN.out
 refine Fact.ret1 rfl hf s4 ⟨by rw [hfa], v, ?_, But.of _ hbx, .inl rfl⟩
 rw [hfa]
 exact (hm.more (B' := fun k => k < w.heap.size ∧ (B k ∨ Bs k)) (fun k hk h => ⟨hk, .inl h⟩) (fun h => by rcases h.2 with h | h; exact hm.bg h; exact (hbs _ h).1 rfl) (fun k hk h => by rcases h.2 with h | h; exact hm.bv k hk h; exact (hbs _ h).2 hk)).later hbx)
 · (
 have hbx := hbr.trans (hx.mono hbr.size)
 have hxs : x ≠ s := of_decide_eq_false hq2
 have hn1 := HNT.out hxs
 have HN1 := Lib.hid hn1; clear hn1 hxs hq2
 refine wp_skip ?_
 refine Fact.block_normal ?_
 refine nx (hK6 _ _ ?_)
 refine rg ?_
 have b13 := hf.b 13
 have b14 := hf.b 14
 refine fp fun K Z => ?_
 go_simp
 apply Z.out; clear Z K
 refine fp fun K Z => ?_
 go_simp
 try simp (disch := omega) only [Fact.W]
 apply Z.out; clear Z K
 refine fp fun K Z => ?_
 go_simp
 apply Z.out; clear Z K
 refine Fact.z hf fun fr1 hf1 hT => ?_
 have hKp : _ ∧ _ ∧ _ := ⟨hT 0, hT 3, hT 5⟩
 simp (decide := true) only [Fact.G, hf.size, reduceIte, s0, s3] at hKp
 replace hf := hf1; clear hT hf1 s0 s3 s5 s23 b13 b14
 obtain ⟨s0, s3, s5⟩ := hKp
 refine Fact.then_normal ?_
 exact ⟨_, by have := HK.out; omega, i + 1, rfl, by omega, hf, s0, s3, by rw [s5]; rfl, HN1.out, hb.trans (hx.mono hb.size)⟩))
 · (
 have hie : i = ss.length := by have h9 := of_decide_eq_false hq; omega
 have hnn : s ∉ ss := by have := HN.out; rwa [hie, List.take_length] at this
 have HNN := Lib.hid hnn; clear hnn hie hq
 have hbox := hmr.box
 have hrow := own_later hrow0 hbr
 have hvo : ∀ k, v.ownBlock = some k → k ≠ g := fun k hk e => hmr.vg (by rw [hk, e])
 have HVO := Lib.hid hvo; clear hvo
 have hgr := heap_lt hbox
 have hsr := hbr.size
 have hgl := heap_lt hm.box
 refine wp_exit ?_
 refine Fact.then_exit ?_
 refine Fact.then_exit ?_
 refine Fact.block_exit ?_
 refine nx (hK2 _ _ ?_)
 refine Fact.sq fun K9 hK9 => ?_
 refine Stam.todo_begin (n := 41) (fun _ k => k = g ∨ v.ownBlock = some k) [7, 10] (Stab.OkOps.of (by kernel_rfl)) (fun hok => ?_)
 refine Stam.mvO (k := 0) s0 hf.size hok.out rfl (by kernel_rfl) rfl rfl (.inl rfl) (by kernel_rfl) ?_
 refine Stam.mvO (k := 1) s0 hf.size hok.out rfl (by kernel_rfl) rfl rfl (.inl rfl) (by kernel_rfl) ?_
 apply Stam.tq 2 _ hf hok
 · (
 intro fr1 w1 hh hd hk K Z
 refine Stab.pl ?_
 have s26 := Stam.v 1 0 hd hk []
 have hxe := Stam.ext_at hh [(7, [4, 3]), (10, [])] (by kernel_rfl)
 have hbt := Stam.but_at hh [] [(7, [4, 3]), (10, [])] (by kernel_rfl)
 clear hd hh
 go_simp
 exact Stab.k Z)
 apply Stam.tq 3 _ hf hok
 · (
 intro fr1 w1 hh hd hk K Z
 refine Stab.pl ?_
 have s27 := Stam.v 2 0 hd hk []
 have hxe := Stam.ext_at hh [(7, [4]), (10, [])] (by kernel_rfl)
 have hbt := Stam.but_at hh [] [(7, [4]), (10, [])] (by kernel_rfl)
 clear hd hh
 go_simp
 exact Stab.k Z)
 apply Stam.tq 4 _ hf hok
 · (
 intro fr1 w1 hh hd hk K Z
 refine Stab.pl ?_
 have s28 := Stam.v 3 0 hd hk []
 have hxe := Stam.ext_at hh [(7, []), (10, [])] (by kernel_rfl)
 have hbt := Stam.but_at hh [] [(7, []), (10, [])] (by kernel_rfl)
 clear hd hh
 have q1 := cL hxe mc
 go_simp
 exact Stab.k Z)
 apply Stam.tq 5 _ hf hok
 · (
 intro fr1 w1 hh hd hk K Z
 refine Stab.pl ?_
 have s3 := Stam.o hh (by kernel_rfl) s3
 have hxe := Stam.ext_at hh [(7, [6]), (10, [])] (by kernel_rfl)
 have hbt := Stam.but_at hh [] [(7, [6]), (10, [])] (by kernel_rfl)
 clear hd hh
 have f0 := cL hxe d0; have f1 := cL hxe d1; have f2 := cL hxe d2
 go_simp
 exact Stab.k Z)
 refine Stam.todo_op (k := 6) (n := 41) (PLit [av, .bool s.final, .int .u64 s.out]) hf.size hok.out rfl (PLit.stable _) (by kernel_rfl) ?_ ?_
 · (
 intro fr1 w1 hh hd hk K Z
 refine Stab.pl ?_
 have s30 := Stam.v 5 0 hd hk []
 have hxe := Stam.ext_at hh [(7, []), (10, [])] (by kernel_rfl)
 have hbt := Stam.but_at hh [] [(7, []), (10, [])] (by kernel_rfl)
 clear hd hh
 go_simp
 exact Z.out _ rfl _ _ ((Below.refl _ _).alloc (Nat.le_refl _) _) ⟨_, rfl, lit_new _ _ _⟩)
 refine Stam.todo_sp (k := 7) (n := 41) (PRowM wr base g v v (ss.length + 1) (cells ++ [av, .bool s.final, .int .u64 s.out])) hf.size hok.out rfl (PRowM.stable _ _ _ _ _ _ _) (by kernel_rfl) ?_ ?_
 · (
 intro fr1 w1 hh hd hk K Z
 refine Stab.pl ?_
 have s29 := Stam.v 4 2 hd hk []
 obtain ⟨x31, s31, hp31⟩ := Stam.use (j := 6) (m := 0) hd hk rfl [] (by kernel_rfl) [(10, true, [])] (by kernel_rfl) rfl rfl rfl
 obtain ⟨b31, rfl, hc31⟩ := hp31
 have hxe := Stam.ext_at hh [(10, [])] (by kernel_rfl)
 have hbt := Stam.but_at hh [] [(10, [])] (by kernel_rfl)
 clear hd hh
 have hrow2 := own_later hrow hxe
 have hbx2 := (hxe.block g hgr).trans hbox
 refine wp_app _ _ 30 rfl 61 _ 3 40 Tryd.underlying30 info61 rfl (by decide) (by decide) base v ss.length cells (by rw [HV.out]; exact Fact.eval_tmp s29) hrow2 b31 _ (Fact.eval_tmp s31) rfl hc31 (by intro u hu; simp at hu; rcases hu with rfl | rfl | rfl <;> first | rfl | exact av_one hra0) (by omega) (by have := hxe.size; omega) (fun v2 w2 hr3 hg3 hat3 => ?_)
 exact Z.out _ rfl _ _ (But.grown hg3 (fun k hk => .inr hk)) ⟨hr3, hat3.imp id (fun h => ⟨_, h, hxe.size⟩), hg3.block g (heap_lt hbx2) (fun e => HVO.out g e.symm rfl) |>.trans hbx2⟩)
 apply Stam.tq 8 _ hf hok
 · (
 intro fr1 w1 hh hd hk K Z
 refine Stab.pl ?_
 have s25 := Stam.v 0 7 hd hk []
 have hbt := Stam.but_at hh [7] [(10, [9])] (by kernel_rfl)
 clear hd hh
 go_simp
 exact Stab.k Z)
 apply Stam.tq 9 _ hf hok
 · (
 intro fr1 w1 hh hd hk K Z
 refine Stab.pl ?_
 have s33 := Stam.v 8 0 hd hk []
 have hbt := Stam.but_at hh [7] [(10, [])] (by kernel_rfl)
 clear hd hh
 go_simp
 exact Stab.k Z)
 refine Stam.todo_sp (k := 10) (n := 41) (PEndM wr base g v (ss.length + 1) (cells ++ [av, .bool s.final, .int .u64 s.out])) hf.size hok.out rfl (PEndM.stable _ _ _ _ _ _) (by kernel_rfl) ?_ ?_
 · (
 intro fr1 w1 hh hd hk K Z
 refine Stab.pl ?_
 have s34 := Stam.v 9 0 hd hk []
 obtain ⟨x32, s32, hp32⟩ := Stam.use (j := 7) (m := 2) hd hk rfl [] (by kernel_rfl) [] (by kernel_rfl) rfl rfl rfl
 obtain ⟨hr32, hl32, hx32⟩ := hp32
 have hbt := Stam.but_at hh [7] [] (by kernel_rfl)
 clear hd hh
 have z0 := cell_of_row _ _ 0 _ 89 (0, 0) hx32
 simp at z0
 have fz := frozen_of (i := 0) hx32
 obtain ⟨A2, c2, hv2, _⟩ := row_form hr32
 subst hv2
 go_simp
 refine Z.out _ rfl undef _ (But.setCell (.inl rfl) _) ⟨_, own_but hr32 (But.setCell (S := fun k => k = g) rfl _) (fun k hkk e => ?_), hl32, ?_⟩; (subst e; rcases hl32 with h | ⟨k2, h, hk2⟩; (rw [hkk] at h; exact HVO.out _ h.symm rfl); (rw [hkk] at h; injection h with h; omega)); exact (set_block hx32 _).trans (by simp))
 refine Stam.todo_facts (n := 41) (by kernel_rfl) hf.size hok.out rfl (fun fr1 w1 hh hg => ?_)
 replace s0 := Stam.o hh (by kernel_rfl) s0
 obtain ⟨_, hlast⟩ := Stam.end_fact (j := 10) (m := 0) hg rfl (by decide) [(7, [])] (by kernel_rfl) rfl
 have hf1 := hh.fr hf
 have hbt := hh.but
 clear hg hh hf hok s3 s5 s12
 have hf := hf1; clear hf1
 obtain ⟨v6, hr6, hl6, hbx6⟩ := hlast
 replace hbt := hbt (fun k => k = g ∨ v.ownBlock = some k) (fun m _ b h => h)
 have hbw : But (fun k => k = g ∨ v.ownBlock = some k) w w1 := (But.of _ hbr).trans (hbt.mono (fun k _ h => h))
 have hv6 : v6.ownBlock = v.ownBlock ∨ ∃ k, v6.ownBlock = some k ∧ w.heap.size ≤ k := hl6.imp id (fun ⟨k, h1, h2⟩ => ⟨k, h1, by omega⟩)
 obtain ⟨A6, c6, hv6f, -⟩ := row_form hr6
 subst hv6f
 have m6 : w1.cell? ⟨g, 0, none⟩ = some (.slice A6 (ss.length + 1) c6) := by rw [cell_of_row _ _ 0 _ 89 (0, 0) hbx6]; rfl
 refine nx (hK9 _ _ ?_)
 refine Fact.sq fun K10 hK10 => ?_
 refine rg ?_
 have b35 := hf.b 35
 have b36 := hf.b 36
 have b37 := hf.b 37
 have b38 := hf.b 38
 have b39 := hf.b 39
 have b40 := hf.b 40
 refine fp fun K Z => ?_
 go_simp
 apply Z.out; clear Z K
 refine fp fun K Z => ?_
 go_simp
 apply Z.out; clear Z K
 refine fp fun K Z => ?_
 go_simp
 apply Z.out; clear Z K
 refine fp fun K Z => ?_
 go_simp
 apply Z.out; clear Z K
 refine fp fun K Z => ?_
 go_simp
 apply Z.out; clear Z K
 refine fp fun K Z => ?_
 go_simp
 try simp (disch := omega) only [Fact.W]
 try rw [show ((ss.length : Int) + 1 - 1) = (ss.length : Int) by omega]
 apply Z.out; clear Z K
 refine fp fun K Z => ?_
 go_simp
 apply Z.out; clear Z K
 refine Fact.z hf fun fr1 hf1 hT => ?_
 have hKp := hT 4
 simp (decide := true) only [Fact.G, hf.size, reduceIte] at hKp
 replace hf := hf1; clear hT hf1 s0 b35 b36 b37 b38 b39 b40
 have s4 := hKp; clear hKp
 refine nx (hK10 _ _ ?_)
 refine wp_ret ?_
 have hfo := finish_out HNN.out
 refine Fact.ret1 rfl hf s4 ⟨by rw [hfo], _, ?_, hbw, hv6⟩
 rw [hfo]
 exact hm.snoc HCL.out hrow0.1 hra hbs hbw hr6 hbx6 hv6))
end Dw
end Go.Proofs.YtgjfhedgdbbinaaDoor
