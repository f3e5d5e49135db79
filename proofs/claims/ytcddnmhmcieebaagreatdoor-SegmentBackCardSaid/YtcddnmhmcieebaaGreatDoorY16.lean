/- pack: reading.all. -/
import Derived.Test.YtcddnmhmcieebaaGreatDoorY15
import Derived.Test.YtcddnmhmcieebaaGreatDoorTools
import Derived.Recover
import Derived.Tactics
import Derived.Tactics2
import Derived.RegionTactic
namespace Go.Proofs.YtcddnmhmcieebaaGreatDoor
set_option maxHeartbeats 4000000
set_option maxRecDepth 100000
open Go.RowKit
set_option linter.unusedSimpArgs false
set_option linter.unusedVariables false
set_option linter.unnecessarySimpa false
namespace Dw
def AllR (w w1 : World) (e : Ending) (g : Nat) : Except Bad (Nat × Nat × List State) -> Prop
 | .error b => PanG w w1 e g b
 | .ok (en, init, ss) => ∃ sv, e = .returned (.tuple #[.int .i64 en, .agg #[sv, .int .u64 init]]) /\ (∀ w', But (fun k => k < w.heap.size) w1 w' -> RS w' sv ss) /\ But (fun k => k = g) w w1
theorem ret_tc {P : Program} {fn : Func} {R : Ending -> World -> Prop} {n p u g : Nat} {ty t : TypeId} {a : Act} {w : World} {x : Value} {cs : Array Value} {fr : Nat × Nat} {d : TypeDesc} (h : fn.results = #[.tmp u, .cell p ty]) (hf : Fact.Fr n a)
  (su : a.tmps[u]? = some x) (sp : a.tmps[p]? = some (.pointer (some ⟨g, 0, none⟩))) (hg : w.heap[g]? = some (.cells cs t fr)) (hu : P.underlying ty = some d) (hd : (match d with | .struct _ | .array _ _ => true | _ => false) = true)
  (hi : (P.info? ty).map (·.size) = some cs.size) (hR : R (.returned (.tuple #[x, .agg cs])) w) : bodyPost P fn R .ret a w := by
 refine bodyPost_ret (v := .tuple #[x, .agg cs]) ?_ hf.defers hR
 have hp' : a.tmps[p]?.getD undef = .pointer (some ⟨g, 0, none⟩) := by simp [sp]
 simp [results, h, Sem.run_bind, hp', asAddr, run_loadVar_row w g t ty cs fr d hg hu hd hi, Result.andThen, su]
theorem info_state : (Tryz.prog.info? 46).map (fun i => (i.zero, i.size, i.bytes)) = some (some (.agg #[.slice none 0 0, .bool false, .int .u64 0]), 3, 40) := by kernel_rfl
def Q4 (g : Nat) (s : ByteArray) (j : Nat) (st : State) (N : Nat) : Stab.Pr := fun x wz => ∃ A4 c4 B4, x = .agg #[.slice A4 st.arcs.length c4, .bool st.final, .int .u64 st.out] /\ RD wz g s j /\ OA wz B4 (.slice A4 st.arcs.length c4) st.arcs /\ N <= B4
theorem Q4.stable (g : Nat) (s : ByteArray) (j : Nat) (st : State) (N : Nat) : Stab.Stable (Q4 g s j st N) := fun v w w' hb ⟨A, c, B, h1, h2, h3, h4⟩ => ⟨A, c, B, h1, h2.later hb, own_later h3 hb, h4⟩
def Q5 (g : Nat) (s : ByteArray) (j : Nat) (st : State) (N : Nat) : Stab.Pr := fun x wz => ∃ A4 c4 B4, PLit [.slice A4 st.arcs.length c4, .bool st.final, .int .u64 st.out] x wz /\ RD wz g s j /\ OA wz B4 (.slice A4 st.arcs.length c4) st.arcs /\ N <= B4
theorem Q5.stable (g : Nat) (s : ByteArray) (j : Nat) (st : State) (N : Nat) : Stab.Stable (Q5 g s j st N) := fun v w w' hb ⟨A, c, B, h1, h2, h3, h4⟩ => ⟨A, c, B, PLit.stable _ v w w' hb h1, h2.later hb, own_later h3 hb, h4⟩
def Q6 (base g : Nat) (s : ByteArray) (j : Nat) (l : List (Value × State)) (st : State) : Stab.Pr := fun v wz => ∃ (y : Value × State) (C : Nat -> Prop), SR wz base C v (l ++ [y]) /\ y.2 = st /\ RD wz g s j /\ v.ownBlock ≠ some base /\ ∀ k, C k -> base < k /\ k < wz.heap.size /\ v.ownBlock ≠ some k
theorem Q6.stable (base g : Nat) (s : ByteArray) (j : Nat) (l : List (Value × State)) (st : State) : Stab.Stable (Q6 base g s j l st) := fun v w w' hb ⟨y, C, h1, h2, h3, h4, h5⟩ => ⟨y, C, h1.later hb, h2, h3.later hb, h4, fun k hk => ⟨(h5 k hk).1, Nat.lt_of_lt_of_le (h5 k hk).2.1 hb.size, (h5 k hk).2.2⟩⟩
theorem Q6.mk {w1 w3 : World} {base g j N B4 : Nat} {s : ByteArray} {C : Nat -> Prop} {sv v3 : Value} {A4 : Option Addr} {c4 : Nat} {l : List (Value × State)} {st : State} (hsr : SR w1 base C sv l) (hsv : sv.ownBlock ≠ some base) (hC : ∀ k, C k -> base < k /\ k < N /\ sv.ownBlock ≠ some k) (hN : N <= w1.heap.size) (hBN : base < N) (hr : RD w1 g s j) (hgs : sv.ownBlock ≠ some g) (hoa : OA w1 B4 (.slice A4 st.arcs.length c4) st.arcs) (hB4 : N <= B4) (hsvN : ∀ k, sv.ownBlock = some k -> k < N) (hg3 : w1.grownBy w3 sv.ownBlock) (hr3 : w3.ownsRow base 46 3 v3 (l.length + 1) (scs l ++ [.slice A4 st.arcs.length c4, .bool st.final, .int .u64 st.out])) (hat3 : v3.ownBlock = sv.ownBlock \/ v3.ownBlock = some w1.heap.size) : Q6 base g s j l st v3 w3 := by
 have hbg : But (fun k => sv.ownBlock = some k) w1 w3 := But.grown hg3 (fun k hk => hk)
 have hsz := hbg.size
 refine ⟨(.slice A4 st.arcs.length c4, st), fun k => C k \/ (.slice A4 st.arcs.length c4 : Value).ownBlock = some k, ⟨?_, fun x hx => ?_⟩, rfl, hbg.heap hr hgs, ?_, fun k hk => ?_⟩
 ·rw [List.length_append, scs_append]; exact hr3
 ·rcases List.mem_append.1 hx with hx | hx
  ·exact ((hsr.arcs x hx).but hbg (fun k hk h => (hC k hk).2.2 h)).more (fun k _ hk => .inl hk)
  ·simp at hx
   subst hx
   exact ((hoa.ra (B := fun k => (.slice A4 st.arcs.length c4 : Value).ownBlock = some k) (fun k hk => hk)).but hbg (fun k hk h => by have h1 := (World.ownsRow.lt hoa k hk).1; have h2 := hsvN k h; omega)).more (fun k _ hk => .inr hk)
 ·rcases hat3 with e | e
  ·rw [e]; exact hsv
  ·rw [e]; intro e2; injection e2 with e2; omega
 ·rcases hk with hk | hk
  ·have h1 := hC k hk
   refine ⟨h1.1, by omega, ?_⟩
   rcases hat3 with e | e
   ·rw [e]; exact h1.2.2
   ·rw [e]; intro e2; injection e2 with e2; omega
  ·have h1 := World.ownsRow.lt hoa k hk
   refine ⟨by omega, by omega, ?_⟩
   rcases hat3 with e | e
   ·rw [e]; intro e2; have := hsvN k e2; omega
   ·rw [e]; intro e2; injection e2 with e2; omega
def Q8 (base g : Nat) (s : ByteArray) (j : Nat) (l : List (Value × State)) (st : State) (wz : World) : Prop := ∃ (v : Value) (y : Value × State) (C : Nat -> Prop), wz.heap[base]? = some (.cells #[v, .int .u64 0] 38 (0, 0)) /\ SR wz base C v (l ++ [y]) /\ y.2 = st /\ RD wz g s j /\ v.ownBlock ≠ some base /\ ∀ k, C k -> base < k /\ k < wz.heap.size /\ v.ownBlock ≠ some k
theorem Q8.later {base g j : Nat} {s : ByteArray} {l : List (Value × State)} {st : State} {w w' : World} (hb : Below w.heap.size w w') (h : Q8 base g s j l st w) : Q8 base g s j l st w' := by
 obtain ⟨v, y, C, h0, h1, h2, h3, h4, h5⟩ := h
 exact ⟨v, y, C, (hb.block _ (heap_lt h0)).trans h0, h1.later hb, h2, h3.later hb, h4, fun k hk => ⟨(h5 k hk).1, Nat.lt_of_lt_of_le (h5 k hk).2.1 hb.size, (h5 k hk).2.2⟩⟩
theorem Q8.mk {w1 : World} {base g j : Nat} {s : ByteArray} {l : List (Value × State)} {st : State} {v0 v : Value} {y : Value × State} {C : Nat -> Prop} (h0 : w1.heap[base]? = some (.cells #[v0, .int .u64 0] 38 (0, 0))) (hgb : g < base) (h1 : SR w1 base C v (l ++ [y])) (h2 : y.2 = st) (h3 : RD w1 g s j) (h4 : v.ownBlock ≠ some base) (h5 : ∀ k, C k -> base < k /\ k < w1.heap.size /\ v.ownBlock ≠ some k) : Q8 base g s j l st (w1.setCell ⟨base, 0, none⟩ v) := by
 have hb : But (fun k => k = base) w1 (w1.setCell ⟨base, 0, none⟩ v) := But.setCell (S := fun k => k = base) rfl _
 exact ⟨v, y, C, (set_block (i := 0) h0 v).trans (by simp), h1.but hb (fun k hk e => h4 (by rw [hk, e])) (fun k hk e => by have := (h5 k hk).1; omega), h2, hb.heap h3 (by intro e; omega), h4, fun k hk => ⟨(h5 k hk).1, Nat.lt_of_lt_of_le (h5 k hk).2.1 hb.size, (h5 k hk).2.2⟩⟩
theorem all34 (w : World) (g : Nat) (s : ByteArray) (hr : RD w g s 0) (hsz : s.size <= 1000000000) : Calls Tryz.prog 33 #[.pointer (some ⟨g, 0, none⟩)] w fun e w1 => AllR w w1 e g (pAll s) := by
 refine Zn1 52 Tryz.func33 fun fr hf s0 => ?_
 generalize hps : pAll s = r
 have HPS := Lib.hid hps; clear hps
 have hgl := heap_lt hr
 refine Ze fun _ hK1 => Zr [] hf ?_
 refine Zq2 0 3 hf ?_
 clear hf s0; intro fr1 hf sS
 generalize hW0 : w.alloc (.cells #[.slice none 0 0, .int .u64 0] 38) = W0
 have hbz0 : Below w.heap.size w W0 := by rw [<- hW0]; exact (Below.refl _ _).alloc (Nat.le_refl _) _
 have hx0 : W0.heap[w.heap.size]? = some (.cells #[.slice none 0 0, .int .u64 0] 38 (0, 0)) := by rw [<- hW0]; exact heap_alloc_new w _
 clear hW0
 have hr0 := hr.later hbz0
 have hbt0 : But (fun k => k = g \/ w.heap.size <= k) w W0 := But.of _ hbz0
 clear hr hbz0
 refine Zs hK1 fun _ hK2 => Ze fun _ hK3 => Zr [] hf ?_
 refine Zq3 0 3 7 hf ?_
 clear hf sS; intro fr1 hf sS
 refine Zx hK3 (wp_block (wp_loop_ghost (fun gk fr wr => ∃ (k : Nat), gk = 3 - k /\ k <= 3 /\ Fact.Fr 52 fr /\ fr.tmps[0]? = some (.pointer (some ⟨g, 0, none⟩)) /\ fr.tmps[3]? = some (.pointer (some ⟨w.heap.size, 0, none⟩)) /\ fr.tmps[7]? = some (.int .i64 k) /\ pMagic s 3 0 0 = pMagic s (3 - k) k k /\ RD wr g s k /\ k <= s.size /\ wr.heap[w.heap.size]? = some (.cells #[.slice none 0 0, .int .u64 0] 38 (0, 0)) /\ But (fun k => k = g \/ w.heap.size <= k) w wr) (3) ?_ ?_))
 . (
 obtain ⟨s0, s3, s7⟩ := sS
 exact ⟨0, rfl, Nat.zero_le _, hf, s0, s3, s7, rfl, hr0, Nat.zero_le _, hx0, hbt0⟩)
 . (
 clear hf sS
 rintro gk fr wr ⟨k, hk, hki, hf, s0, s3, s7, hpa, hr5, hp5, hx5, hbt5⟩
 have HK := Lib.hid hk; have HPA := Lib.hid hpa; clear hk hpa
 refine Ze fun _ hK4 => Zr [] hf ?_
 refine Zq4 0 3 7 8 hf ?_
 clear hf s0 s3 s7; intro fr1 hf sS
 refine Zs hK4 fun _ hK5 => Fact.cond_s sS.2.2.2 (fun hq => ?_) (fun hq => ?_)
 . (
 have hklt : k < 3 := by have h9 := of_decide_eq_true hq; omega
 clear hq
 obtain ⟨u, hu⟩ : ∃ u, 3 - k = u + 1 := ⟨3 - k - 1, by omega⟩
 have HU := Lib.hid hu; clear hu
 refine wp_skip (Zs hK5 fun _ hK6 => wp_block (Ze fun _ hK7 => Zr [9, 4] hf ?_))
 refine Zq4 0 3 4 7 hf ?_
 clear hf sS; intro fr1 hf sS
 generalize hW6 : wr.alloc (.cells #[.int .i64 k] 3) = W6
 obtain ⟨hb6, c6, -, -⟩ := box1 hW6
 clear hW6
 have hr6 := hr5.later hb6
 have hx6 := (hb6.block _ (heap_lt hx5)).trans hx5
 have hbt6 : But (fun k => k = g \/ w.heap.size <= k) w W6 := hbt5.trans (But.of _ hb6)
 refine Zx hK7 ?_
 rcases hpz : pMag s k k with bz | ⟨xm, j1⟩
 . (
 have HPZ := Lib.hid hpz; clear hpz
 have he : r = .error bz := by rw [<- HPS.out]; unfold pAll; rw [HPA.out, HU.out]; simp only [pMagic, HPZ.out]
 subst he
 refine rg ?_
 have bB := hf.B2 10 11
 iterate 2 refine Zy ?_
 refine fp fun K Z => ?_
 go_simp
 go_at_call 57; refine (mag49 W6 g s k hr6 hp5 hsz k wr.heap.size hklt c6).mono ?_; rintro e wz hres
 rw [HPZ.out] at hres
 obtain ⟨q, rfl, hz2, hz3, hz4⟩ := hres
 try dsimp only
 try dsimp only
 exact pan9 hf.defers (PanG.via hbt6 ⟨q, rfl, hz2, hz3, hz4⟩))
 . (
 have HP1 := Lib.hid hpz; clear hpz
 refine rg ?_
 have bB := hf.B2 10 11
 iterate 2 refine Zy ?_
 refine Zc (mag49 W6 g s k hr6 hp5 hsz k wr.heap.size hklt c6) ?_; rintro e w7 hres
 rw [HP1.out] at hres
 obtain ⟨rfl, hr7, hb7⟩ := hres
 have hx7 := hb7.heap hx6 (by intro e; have e : w.heap.size = g := e; omega)
 have hbt7 : But (fun k => k = g \/ w.heap.size <= k) w w7 := hbt6.trans (hb7.mono (fun k _ h => .inl h))
 clear hb7 hx6 hbt6 hr6
 refine Zv ?_
 refine Fact.nil (Zq3 0 3 7 hf ?_)
 clear hf sS bB; intro fr1 hf sS
 obtain ⟨hj, hjs, _⟩ := pMag_ok hp5 HP1.out
 have hpa2 : pMagic s 3 0 0 = pMagic s (3 - (k + 1)) (k + 1) (k + 1) := by rw [HPA.out, HU.out, show 3 - (k + 1) = u by have := HU.out; omega]; simp only [pMagic, HP1.out]; rw [hj]
 rw [hj] at hr7 hjs
 refine Fact.block_normal (Zx hK6 (Zr [13] hf ?_))
 refine Zq3 0 3 7 hf ?_
 clear hf sS; intro fr1 hf sS
 refine Fact.then_normal ?_
 obtain ⟨s0, s3, s7⟩ := sS
 exact ⟨_, by have := HK.out; omega, k + 1, rfl, by omega, hf, s0, s3, by rw [s7]; rfl, hpa2, hr7, hjs, hx7, hbt7⟩))
 . (
 have hke : k = 3 := by have h9 := of_decide_eq_false hq; omega
 subst hke
 have hpm : pMagic s 3 0 0 = .ok 3 := HPA.out
 have HPM := Lib.hid hpm; clear hpm hq
 refine Zo ?_
 refine Zx hK2 ?_
 rcases hpz : pNum s 0 100000 3 with bz | ⟨en, p1⟩
 . (
 have HPZ := Lib.hid hpz; clear hpz
 have he : r = .error bz := by rw [<- HPS.out]; unfold pAll; simp only [HPM.out, HPZ.out]
 subst he
 refine Ze fun _ hK8 => rg ?_
 have bB := hf.B3 14 15 16
 refine Zy ?_
 refine fp fun K Z => ?_
 go_simp
 go_at_call 59; refine (num51' wr g s 3 hr5 hp5 hsz 0 100000).mono ?_; rintro e wz hres
 rw [HPZ.out] at hres
 obtain ⟨q, rfl, hz2, hz3, hz4⟩ := hres
 try dsimp only
 try dsimp only
 exact pan9 hf.defers (PanG.via hbt5 ⟨q, rfl, hz2, hz3, hz4⟩))
 . (
 have HP2 := Lib.hid hpz; clear hpz
 have hk8 := pNum_ok HP2.out
 have hen : en <= 100000 := hk8.2.2.2.2.1
 refine Ze fun _ hK9 => rg ?_
 have bB := hf.B3 14 15 16
 refine Zy ?_
 refine Zc (num51' wr g s 3 hr5 hp5 hsz 0 100000) ?_; rintro e w8 hres
 rw [HP2.out] at hres
 obtain ⟨rfl, hr8, hb8⟩ := hres
 have hx8 := hb8.heap hx5 (by intro e; have e : w.heap.size = g := e; omega)
 have hbt8 : But (fun k => k = g \/ w.heap.size <= k) w w8 := hbt5.trans (hb8.mono (fun k _ h => .inl h))
 clear hb8 hx5 hbt5 hr5
 refine Zv ?_
 refine fp fun K Z => ?_
 go_simp
 try rw [Fact.wrap_i64 (by omega) (by omega)]
 apply Z.out; clear Z K
 refine Zy ?_
 refine Fact.nil (Zq3 0 2 3 hf ?_)
 clear hf sS bB; intro fr1 hf sS
 refine Zx hK9 ?_
 rcases hpz : pNum s 1 18446744073709551615 p1 with bz | ⟨n, p2⟩
 . (
 have HPZ := Lib.hid hpz; clear hpz
 have he : r = .error bz := by rw [<- HPS.out]; unfold pAll; simp only [HPM.out, HP2.out, HPZ.out]
 subst he
 refine Ze fun _ hK10 => Ze fun _ hK11 => rg ?_
 have bB := hf.B2 17 18
 refine Zy ?_
 refine fp fun K Z => ?_
 go_simp
 go_at_call 59; refine (num51' w8 g s p1 hr8 hk8.2.1 hsz 1 18446744073709551615).mono ?_; rintro e wz hres
 rw [HPZ.out] at hres
 obtain ⟨q, rfl, hz2, hz3, hz4⟩ := hres
 try dsimp only
 try dsimp only
 exact pan9 hf.defers (PanG.via hbt8 ⟨q, rfl, hz2, hz3, hz4⟩))
 . (
 have HP3 := Lib.hid hpz; clear hpz
 have hk9 := pNum_ok HP3.out
 have hn64 := hk9.2.2.1
 unfold M64 at hn64
 refine Ze fun _ hK12 => Ze fun _ hK13 => rg ?_
 have bB := hf.B2 17 18
 refine Zy ?_
 refine Zc (num51' w8 g s p1 hr8 hk8.2.1 hsz 1 18446744073709551615) ?_; rintro e w9 hres
 rw [HP3.out] at hres
 obtain ⟨rfl, hr9, hb9⟩ := hres
 have hx9 := hb9.heap hx8 (by intro e; have e : w.heap.size = g := e; omega)
 have hbt9 : But (fun k => k = g \/ w.heap.size <= k) w w9 := hbt8.trans (hb9.mono (fun k _ h => .inl h))
 clear hb9 hx8 hbt8 hr8
 refine Zv ?_
 iterate 2 refine Zy ?_
 refine Fact.nil (Zq5 0 2 3 5 6 hf ?_)
 clear hf sS bB; intro fr1 hf sS
 refine Zx hK13 (wp_block (wp_loop_ghost (fun gk fr wr => ∃ (i pk : Nat) (sv : Value) (l : List (Value × State)) (C : Nat -> Prop), gk = n - i /\ i <= n /\ Fact.Fr 52 fr /\ fr.tmps[0]? = some (.pointer (some ⟨g, 0, none⟩)) /\ fr.tmps[3]? = some (.pointer (some ⟨w.heap.size, 0, none⟩)) /\ fr.tmps[2]? = some (.int .i64 en) /\ fr.tmps[5]? = some (.int .u64 i) /\ fr.tmps[6]? = some (.int .u64 n) /\ pStates s n 0 p2 [] = pStates s (n - i) i pk (l.map Prod.snd) /\ RD wr g s pk /\ pk <= s.size /\ i <= pk /\ l.length = i /\ wr.heap[w.heap.size]? = some (.cells #[sv, .int .u64 0] 38 (0, 0)) /\ SR wr w.heap.size C sv l /\ sv.ownBlock ≠ some w.heap.size /\ (∀ k, C k -> w.heap.size < k /\ k < wr.heap.size /\ sv.ownBlock ≠ some k) /\ But (fun k => k = g \/ w.heap.size <= k) w wr) (n) ?_ ?_))
 . (
 obtain ⟨s0, s2, s3, s5, s6⟩ := sS
 exact ⟨0, p2, _, [], fun _ => False, rfl, Nat.zero_le _, hf, s0, s3, s2, s5, s6, rfl, hr9, hk9.2.1, Nat.zero_le _, rfl, hx9, SR.nil_ _ _ _, (by intro e; cases e), (fun k h => h.elim), hbt9⟩)
 . (
 clear hf sS
 rintro gk fr wr ⟨i, pk, sv, l, C, hk, hki, hf, s0, s3, s2, s5, s6, hpa, hr5, hp5, hip, hli, hx5, hsr, hsv, hC, hbt5⟩
 have HK := Lib.hid hk; have HPA := Lib.hid hpa; have HLI := Lib.hid hli; clear hk hpa hli
 refine Ze fun _ hK14 => Ze fun _ hK15 => Zr [19, 20] hf ?_
 refine Zq6 0 2 3 5 6 21 hf ?_
 clear hf s0 s2 s3 s5 s6; intro fr1 hf sS
 refine Zx hK15 (Fact.cond_s sS.2.2.2.2.2 (fun hq => ?_) (fun hq => ?_))
 . (
 have hklt : i < n := by have h9 := of_decide_eq_true hq; omega
 clear hq
 obtain ⟨u, hu⟩ : ∃ u, n - i = u + 1 := ⟨n - i - 1, by omega⟩
 have HU := Lib.hid hu; clear hu
 have e0 : wr.cell? ⟨w.heap.size, 0, none⟩ = some sv := by rw [cell_of_row _ _ 0 _ _ (0, 0) hx5]; rfl
 obtain ⟨A, cc, hsv2, _⟩ := hsr.form
 have HSV2 := Lib.hid hsv2; clear hsv2
 rcases hpz : pState s i pk with bz | ⟨st, j⟩
 . (
 have HPZ := Lib.hid hpz; clear hpz
 have he : r = .error bz := by rw [<- HPS.out]; unfold pAll; simp only [HPM.out, HP2.out, HP3.out]; rw [HPA.out, HU.out]; simp only [pStates, HPZ.out]
 subst he
 refine wp_skip (Zs hK14 fun _ hK16 => wp_block ?_)
 obtain ⟨s0, s2, s3, s5, s6, s21⟩ := sS
 refine Stab.tb 52 fun hok => ?_
 refine Stab.T 0 hf hok (fun _ _ h d => Stab.O h s3) ?_
 refine Stab.T 1 hf hok (fun _ _ h d => ad (Stab.vd 0 0 d []) (cL h.ext e0)) ?_
 refine Stab.mO 2 s0 hf hok ?_
 refine Stab.mO 3 s5 hf hok ?_
 refine Stab.todo_op (k := 4) (n := 52) (fun _ _ => False) hf.size hok.out rfl (fun _ _ _ _ h => h) ?_ ?_
 . (
 intro fr1 w1 hh hd hk K Z
 refine Stab.pl ?_
 have s26 := Stab.v 2 1 hd hk []
 have s27 := Stab.v 3 0 hd hk []
 clear hd
 replace e0 := cL hh.ext e0
 go_simp
 go_at_call 60; refine (state52 w1 g s pk (hr5.later hh.ext) hp5 hsz i (by omega)).mono ?_; rintro e w2 hres
 rw [HPZ.out] at hres
 obtain ⟨q, rfl, hz2, hz3, hz4⟩ := hres
 try dsimp only
 exact pan9 (hh.defers.trans hf.defers) (PanG.via (hbt5.trans (But.of _ hh.ext)) ⟨q, rfl, hz2, hz3, hz4⟩))
 refine Stab.todo_op (k := 5) (n := 52) Stab.Any hf.size hok.out rfl Stab.Stable.any ?_ ?_
 . (
 intro fr1 w1 hh hd hk K Z
 obtain ⟨_, hpz⟩ := Stab.use_fact (j := 4) (m := 0) hd hk rfl [] (by kernel_rfl) rfl
 exact hpz.elim)
 refine Stab.todo_op (k := 6) (n := 52) Stab.Any hf.size hok.out rfl Stab.Stable.any ?_ ?_
 . (
 intro fr1 w1 hh hd hk K Z
 obtain ⟨_, hpz⟩ := Stab.use_fact (j := 4) (m := 1) hd hk rfl [] (by kernel_rfl) rfl
 exact hpz.elim)
 refine Stab.todo_op (k := 7) (n := 52) Stab.Any hf.size hok.out rfl Stab.Stable.any ?_ ?_
 . (
 intro fr1 w1 hh hd hk K Z
 obtain ⟨_, hpz⟩ := Stab.use_fact (j := 4) (m := 2) hd hk rfl [] (by kernel_rfl) rfl
 exact hpz.elim)
 refine Stab.todo_op (k := 8) (n := 52) Stab.Any hf.size hok.out rfl Stab.Stable.any ?_ ?_
 . (
 intro fr1 w1 hh hd hk K Z
 obtain ⟨_, hpz⟩ := Stab.use_fact (j := 4) (m := 3) hd hk rfl [] (by kernel_rfl) rfl
 exact hpz.elim)
 refine Stab.tf hf hok fun fr1 w1 hh hg => ?_
 obtain ⟨_, hpz⟩ := Stab.end_fact (j := 4) (m := 4) hg rfl (by decide) rfl
 exact hpz.elim)
 . (
 have HP4 := Lib.hid hpz; clear hpz
 have hk4 := pState_ok (by omega : i <= 1000000000) HP4.out
 have hB5 := heap_lt hx5
 have hsvN : ∀ k, sv.ownBlock = some k -> w.heap.size <= k /\ k < wr.heap.size := fun k hk => World.ownsRow.lt hsr.row k hk
 refine wp_skip (Zs hK14 fun _ hK17 => wp_block ?_)
 obtain ⟨s0, s2, s3, s5, s6, s21⟩ := sS
 refine Stam.todo_begin (n := 52) (fun m k => (m = 4 /\ k = g) \/ (m = 6 /\ sv.ownBlock = some k) \/ (m = 8 /\ k = w.heap.size)) [4, 6, 8] (Stab.OkOps.of (by kernel_rfl)) (fun hok => ?_)
 apply Stam.tq 0 _ hf hok
 . (
 intro fr1 w1 hh hd hk K Z
 refine Stab.pl ?_
 have s3 := Stam.o hh (by kernel_rfl) s3
 have hbt := Stam.but_at hh [4] [(6, [1]), (8, [])] (by kernel_rfl)
 clear hd hh
 go_simp
 exact Stab.k Z)
 apply Stam.tq 1 _ hf hok
 . (
 intro fr1 w1 hh hd hk K Z
 refine Stab.pl ?_
 have s24 := Stam.v 0 0 hd hk []
 have hbt := Stam.but_at hh [4] [(6, []), (8, [])] (by kernel_rfl)
 clear hd hh
 have h4 := (hbt (fun k => k = g) (fun m hm b h => by simp at hm; subst hm; rcases h with h | h | h; exact h.2; (have := h.1; omega); (have := h.1; omega)))
 have e1 := h4.cell e0 (by intro e; have e : w.heap.size = g := e; omega)
 clear h4 hbt
 go_simp
 exact Stab.k Z)
 refine Stam.mvO (k := 2) s0 hf.size hok.out rfl (by kernel_rfl) rfl rfl (.inl rfl) (by kernel_rfl) ?_
 refine Stam.mvO (k := 3) s5 hf.size hok.out rfl (by kernel_rfl) rfl rfl (.inl rfl) (by kernel_rfl) ?_
 refine Stam.todo_sp (k := 4) (n := 52) (Q4 g s j st wr.heap.size) hf.size hok.out rfl (Q4.stable _ _ _ _ _) (by kernel_rfl) ?_ ?_
 . (
 intro fr1 w1 hh hd hk K Z
 refine Stab.pl ?_
 have s26 := Stam.v 2 1 hd hk []
 have s27 := Stam.v 3 0 hd hk []
 have hxe := Stam.ext_at hh [(6, []), (8, [])] (by kernel_rfl)
 have hbt := Stam.but_at hh [] [(6, []), (8, [])] (by kernel_rfl)
 clear hd hh
 go_simp
 go_at_call 60; refine (state52 w1 g s pk (hr5.later hxe) hp5 hsz i (by omega)).mono ?_; rintro e w2 hres
 rw [HP4.out] at hres
 obtain ⟨av, rfl, hr4, hoa4, hb4⟩ := hres
 obtain ⟨A4, c4, hv4, _⟩ := row_form hoa4
 subst hv4
 exact Z.out _ rfl _ _ (hb4.mono (fun k _ h => .inl ⟨rfl, h⟩)) ⟨_, _, _, rfl, hr4, hoa4, hxe.size⟩)
 refine Stam.todo_op (k := 5) (n := 52) (Q5 g s j st wr.heap.size) hf.size hok.out rfl (Q5.stable _ _ _ _ _) (by kernel_rfl) ?_ ?_
 . (
 intro fr1 w1 hh hd hk K Z
 refine Stab.pl ?_
 obtain ⟨x28, s28, hp28⟩ := Stam.use (j := 4) (m := 0) hd hk rfl [] (by kernel_rfl) [(6, true, []), (8, true, [])] (by kernel_rfl) rfl rfl rfl
 obtain ⟨A4, c4, B4, rfl, hr28, hoa28, hB28⟩ := hp28
 have hbt := Stam.but_at hh [4] [(6, []), (8, [])] (by kernel_rfl)
 clear hd hh
 go_simp
 exact Z.out _ rfl _ _ ((Below.refl _ _).alloc (Nat.le_refl _) _) ⟨A4, c4, B4, ⟨_, rfl, lit_new _ _ _⟩, hr28.later ((Below.refl _ _).alloc (Nat.le_refl _) _), own_later hoa28 ((Below.refl _ _).alloc (Nat.le_refl _) _), hB28⟩)
 refine Stam.todo_sp (k := 6) (n := 52) (Q6 w.heap.size g s j l st) hf.size hok.out rfl (Q6.stable _ _ _ _ _ _) (by kernel_rfl) ?_ ?_
 . (
 intro fr1 w1 hh hd hk K Z
 refine Stab.pl ?_
 have s25 := Stam.v 1 4 hd hk []
 obtain ⟨x29, s29, hp29⟩ := Stam.use (j := 5) (m := 0) hd hk rfl [] (by kernel_rfl) [(4, false, []), (8, true, [])] (by kernel_rfl) rfl rfl rfl
 obtain ⟨A4, c4, B4, ⟨b29, rfl, hc29⟩, hr29, hoa29, hB29⟩ := hp29
 have hbt := Stam.but_at hh [4] [(8, [])] (by kernel_rfl)
 clear hd hh
 have h6 := (hbt (fun k => k = g) (fun m hm b h => by simp at hm; subst hm; rcases h with h | h | h; exact h.2; (have := h.1; omega); (have := h.1; omega)))
 have hsr6 := hsr.but h6 (fun k hk e => by have e : k = g := e; have := (hsvN k hk).1; omega) (fun k hk e => by have e : k = g := e; have := (hC k hk).1; omega)
 refine wp_app _ _ 36 rfl 46 _ 3 40 Tryz.underlying36 info_state rfl (by decide) (by decide) w.heap.size sv l.length _ (Fact.eval_tmp s25) hsr6.row b29 [.slice A4 st.arcs.length c4, .bool st.final, .int .u64 st.out] (Fact.eval_tmp s29) rfl hc29 (by intro u hu; simp at hu; rcases hu with rfl | rfl | rfl <;> rfl) (by have := HLI.out; omega) (by have := hbt5.size; have := h6.size; omega) (fun v3 w3 hr3 hg3 hat3 => ?_)
 exact Z.out _ rfl _ _ (But.grown hg3 (fun k hk => .inr (.inl ⟨rfl, hk⟩))) (Q6.mk hsr6 hsv hC h6.size hB5 hr29 (fun e => by have := (hsvN g e).1; omega) hoa29 hB29 (fun k hk => (hsvN k hk).2) hg3 hr3 hat3))
 apply Stam.tq 7 _ hf hok
 . (
 intro fr1 w1 hh hd hk K Z
 refine Stab.pl ?_
 have s3 := Stam.o hh (by kernel_rfl) s3
 have hbt := Stam.but_at hh [4, 6] [(8, [])] (by kernel_rfl)
 clear hd hh
 go_simp
 exact Stab.k Z)
 refine Stam.todo_sp (k := 8) (n := 52) (fun _ wz => Q8 w.heap.size g s j l st wz) hf.size hok.out rfl (fun _ _ _ hb h => Q8.later hb h) (by kernel_rfl) ?_ ?_
 . (
 intro fr1 w1 hh hd hk K Z
 refine Stab.pl ?_
 have s31 := Stam.v 7 0 hd hk []
 obtain ⟨x30, s30, hp30⟩ := Stam.use (j := 6) (m := 1) hd hk rfl [] (by kernel_rfl) [(4, false, [])] (by kernel_rfl) rfl rfl rfl
 obtain ⟨y30, C2, hsr30, hst30, hr30, hvb30, hC30⟩ := hp30
 have hbt := Stam.but_at hh [4, 6] [] (by kernel_rfl)
 clear hd hh
 have h8 := hbt (fun k => k = g \/ sv.ownBlock = some k) (fun m hm b h => by simp at hm; rcases h with h | h | h; exact .inl h.2; exact .inr h.2; (have := h.1; omega))
 have hx8 := h8.heap hx5 (fun h => by rcases h with h | h; omega; exact hsv h)
 have e8 : w1.cell? ⟨w.heap.size, 0, none⟩ = some sv := by rw [cell_of_row _ _ 0 _ _ (0, 0) hx8]; rfl
 have fz := frozen_of (i := 0) hx8
 clear hbt h8
 obtain ⟨A9, c9, hv9, _⟩ := hsr30.form
 rw [List.length_append, List.length_cons, List.length_nil, Nat.zero_add] at hv9
 subst hv9
 go_simp
 exact Z.out _ rfl undef _ (But.setCell (.inr (.inr ⟨rfl, rfl⟩)) _) (Q8.mk hx8 (by omega) hsr30 hst30 hr30 hvb30 hC30))
 refine Stam.todo_facts (n := 52) (by kernel_rfl) hf.size hok.out rfl (fun fr1 w1 hh hg => ?_)
 replace s0 := Stam.o hh (by kernel_rfl) s0
 replace s2 := Stam.o hh (by kernel_rfl) s2
 replace s3 := Stam.o hh (by kernel_rfl) s3
 replace s5 := Stam.o hh (by kernel_rfl) s5
 replace s6 := Stam.o hh (by kernel_rfl) s6
 obtain ⟨_, hlast⟩ := Stam.end_fact (j := 8) (m := 0) hg rfl (by decide) [(4, []), (6, [])] (by kernel_rfl) rfl
 have hf1 := hh.fr hf
 have hbt := hh.but
 clear hg hh hf hok s21
 have hf := hf1; clear hf1
 obtain ⟨v6, y6, C6, hx6, hsr6, hst6, hr6, hvb6, hC6⟩ := hlast
 replace hbt := hbt (fun k => k = g \/ w.heap.size <= k) (fun m _ b h => by rcases h with h | h | h; exact .inl h.2; exact .inr (hsvN _ h.2).1; exact .inr (by rw [h.2]; exact Nat.le_refl _))
 have hbt6 : But (fun k => k = g \/ w.heap.size <= k) w _ := hbt5.trans hbt
 have hpa2 : pStates s n 0 p2 [] = pStates s (n - (i + 1)) (i + 1) j ((l ++ [y6]).map Prod.snd) := by rw [HPA.out, HU.out, show n - (i + 1) = u by have := HU.out; omega, List.map_append, List.map_cons, hst6]; simp only [pStates, HP4.out]; rfl
 refine Fact.block_normal (Zx hK17 (Zr [22, 23] hf ?_))
 refine Zq5 0 2 3 5 6 hf ?_
 clear hf s0 s2 s3 s5 s6; intro fr1 hf sS
 refine Fact.then_normal ?_
 obtain ⟨s0, s2, s3, s5, s6⟩ := sS
 exact ⟨_, by have := HK.out; omega, i + 1, j, v6, l ++ [y6], C6, rfl, by omega, hf, s0, s3, s2, by rw [s5]; rfl, s6, hpa2, hr6, hk4.2.1, by omega, by simp [HLI.out], hx6, hsr6, hvb6, hC6, hbt6⟩))
 . (
 have hpst : pStates s n 0 p2 [] = .ok (l.map Prod.snd, pk) := by rw [HPA.out, show n - i = 0 by have h9 := of_decide_eq_false hq; omega]; rfl
 have HPT := Lib.hid hpst; clear hpst hq
 rcases hpz : pNum s 0 18446744073709551615 pk with bz | ⟨init, p4⟩
 . (
 have HPZ := Lib.hid hpz; clear hpz
 have he : r = .error bz := by rw [<- HPS.out]; unfold pAll; simp only [HPM.out, HP2.out, HP3.out, HPT.out, HPZ.out]
 subst he
 refine Zo ?_
 refine Zt hK12 fun _ hK18 => ?_
 have bB := hf.B3 32 33 34
 refine Zy ?_
 refine fp fun K Z => ?_
 go_simp
 go_at_call 59; refine (num51' wr g s pk hr5 hp5 hsz 0 18446744073709551615).mono ?_; rintro e wz hres
 rw [HPZ.out] at hres
 obtain ⟨q, rfl, hz2, hz3, hz4⟩ := hres
 try dsimp only
 try dsimp only
 exact pan9 hf.defers (PanG.via hbt5 ⟨q, rfl, hz2, hz3, hz4⟩))
 . (
 have HP5 := Lib.hid hpz; clear hpz
 refine Zo ?_
 refine Zt hK12 fun _ hK19 => ?_
 have bB := hf.B3 32 33 34
 refine Zy ?_
 refine Zc (num51' wr g s pk hr5 hp5 hsz 0 18446744073709551615) ?_; rintro e w9 hres
 rw [HP5.out] at hres
 obtain ⟨rfl, hr9, hb9⟩ := hres
 have hsr9 := hsr.but hb9 (fun k hk e => by have e : k = g := e; have := (World.ownsRow.lt hsr.row k hk).1; omega) (fun k hk e => by have e : k = g := e; have := (hC k hk).1; omega)
 have hx9 := hb9.heap hx5 (by intro e; have e : w.heap.size = g := e; omega)
 have hbt9 : But (fun k => k = g \/ w.heap.size <= k) w w9 := hbt5.trans (hb9.mono (fun k _ h => .inl h))
 clear hb9 hx5 hbt5 hr5
 have e1 : w9.cell? ⟨w.heap.size, 1, none⟩ = some (.int .u64 0) := by rw [cell_of_row _ _ 1 _ _ (0, 0) hx9]; rfl
 have fz := frozen_of (i := 1) hx9
 refine Zv ?_
 iterate 2 refine Zy ?_
 refine Fact.nil (Zq3 0 2 3 hf ?_)
 clear hf sS bB; intro fr1 hf sS
 have hk11 := pNum_ok HP5.out
 generalize hW10 : w9.setCell ⟨w.heap.size, 1, none⟩ (.int .u64 init) = W10
 have hbB : But (fun k => k = w.heap.size) w9 W10 := by rw [<- hW10]; exact But.setCell (S := fun k => k = w.heap.size) rfl _
 have hx10 : W10.heap[w.heap.size]? = some (.cells #[sv, .int .u64 init] 38 (0, 0)) := by rw [<- hW10]; exact (set_block (i := 1) hx9 _).trans (by simp)
 clear hW10
 have hr10 : RD W10 g s p4 := hbB.heap hr9 (by intro e; have e : g = w.heap.size := e; omega)
 have hsr10 := hsr9.but hbB (fun k hk e => hsv (by rw [hk, e])) (fun k hk e => by have := (hC k hk).1; omega)
 have hbt10 : But (fun k => k = g \/ w.heap.size <= k) w W10 := hbt9.trans (hbB.mono (fun k _ h => .inr (by omega)))
 have g0 := hr10.c0; have g1 := hr10.c1
 clear hbB e1 fz
 refine Zs hK19 fun _ hK20 => Ze fun _ hK21 => ?_
 obtain ⟨s0, s2, s3⟩ := sS
 refine Stab.tb 52 fun hok => ?_
 refine Stab.mO 0 s0 hf hok ?_
 refine Stab.T 1 hf hok (fun _ _ h d => Stab.vd 0 0 d []) ?_
 refine Stab.T 2 hf hok (fun _ _ h d => Stab.vd 1 0 d []) ?_
 refine Stab.T 3 hf hok (fun _ _ h d => ad (Stab.vd 2 0 d []) (ad (cL h.ext g0) (cL h.ext g1))) ?_
 refine Stab.mO 4 s0 hf hok ?_
 refine Stab.T 5 hf hok (fun _ _ h d => Stab.vd 4 0 d []) ?_
 refine Stab.T 6 hf hok (fun _ _ h d => Stab.vd 5 0 d []) ?_
 refine Stab.T 7 hf hok (fun _ _ h d => ad (Stab.vd 6 0 d []) (ad (cL h.ext g0) (cL h.ext g1))) ?_
 refine Stab.T 8 hf hok (fun _ _ h d => ad (Stab.vd 7 0 d []) (ad (cL h.ext g0) (cL h.ext g1))) ?_
 refine Stab.T 9 hf hok (fun _ _ h d => ad (Stab.vd 3 5 d []) (Stab.vd 8 0 d [])) ?_
 refine Stab.E hf hok (fun _ _ h g => ad (Stab.O h s0) (ad (Stab.O h s2) (ad (Stab.O h s3) (Stab.f 9 0 g)))) ?_
 clear hf hok s0 s2 s3; intro fr1 w1 hf hx sS
 replace g0 := cL hx g0
 replace g1 := cL hx g1
 have hr12 := hr10.later hx
 have hx12 := (hx.block _ (heap_lt hx10)).trans hx10
 have hsr12 := hsr10.later hx
 have hbt12 : But (fun k => k = g \/ w.heap.size <= k) w w1 := hbt10.trans (But.of _ hx)
 refine Zx hK21 (Fact.cond_s sS.2.2.2 (fun hq => ?_) (fun hq => ?_))
 . (
 have hlt4 : p4 < s.size := by have h9 := of_decide_eq_true hq; omega
 have he : r = .error (4, p4) := by rw [<- HPS.out]; unfold pAll; simp only [HPM.out, HP2.out, HP3.out, HPT.out, HP5.out]; rw [if_pos hlt4]
 subst he
 refine rg ?_
 have bB := hf.B4 45 46 47 48
 iterate 4 refine Zy ?_
 refine fp fun K Z => ?_
 go_simp
 go_at_call 32; refine (bad33 w1 4 p4).mono ?_; rintro e wz hpan
 obtain ⟨q, rfl, hz2, hz3, hz4⟩ := hpan
 try dsimp only
 try dsimp only
 exact pan9 hf.defers (PanG.via hbt12 (Pan.g (c := 4) (a := p4) ⟨q, rfl, hz2, hz3, hz4⟩)))
 . (
 have hge4 : ¬ p4 < s.size := by have h9 := of_decide_eq_false hq; omega
 have he : r = .ok (en, init, l.map Prod.snd) := by rw [<- HPS.out]; unfold pAll; simp only [HPM.out, HP2.out, HP3.out, HPT.out, HP5.out]; rw [if_neg hge4]
 subst he
 obtain ⟨A, cc, hsv2, _⟩ := hsr12.form
 subst hsv2
 have d0 : w1.cell? ⟨w.heap.size, 0, none⟩ = some (.slice A l.length cc) := by rw [cell_of_row _ _ 0 _ _ (0, 0) hx12]; rfl
 have d1 : w1.cell? ⟨w.heap.size, 1, none⟩ = some (.int .u64 init) := by rw [cell_of_row _ _ 1 _ _ (0, 0) hx12]; rfl
 refine wp_skip (Zs hK20 fun _ hK22 => ?_)
 obtain ⟨s0, s2, s3, s44⟩ := sS
 refine Stab.tb 52 fun hok => ?_
 refine Stab.mvP (k := 0) (j := 2) s2 hf.size hok.out rfl rfl rfl (.inl rfl) [] (by kernel_rfl) (by kernel_rfl) ?_
 refine Stab.T 1 hf hok (fun _ _ h d => ad (Stab.O h s3) (ad (cL h.ext d0) (cL h.ext d1))) ?_
 refine Stab.mN 2 0 1 hf hok [] ?_
 refine Tail.todo_tail (n := 52) (m := 3) (ws := []) (by kernel_rfl) hf.size hok.out rfl rfl (by kernel_rfl) (fun fr1 w1 hh hg => ?_)
 clear s2; have s2 := Tail.got_is 2 0 hg rfl rfl rfl rfl rfl
 replace s3 := Stab.O hh s3
 have s51 := Tail.got_is 1 1 hg rfl rfl rfl rfl rfl
 have hf1 := hh.fr hf
 have hx := hh.ext
 replace d0 := cL hx d0
 replace d1 := cL hx d1
 clear hg hh hf hok s0 s44
 have hf := hf1; clear hf1
 have hx14 := (hx.block _ (heap_lt hx12)).trans hx12
 have f0 := frozen_of (i := 0) hx14
 have f1 := frozen_of (i := 1) hx14
 refine Tail.seq_op rfl rfl (fun K Z => ?_)
 go_simp
 apply Z.out; clear Z K
 refine Tail.seq_nil rfl ?_
 refine Zq2 2 3 hf ?_
 clear hf s2 s3 s51; intro fr1 hf sS
 refine Zx hK22 (Zret ?_)
 have hbB := fun W : World => (But.setCell (S := fun k => k = w.heap.size) (w := W) (p := ⟨w.heap.size, 0, none⟩) rfl (.slice A l.length cc)).trans (But.setCell (S := fun k => k = w.heap.size) (p := ⟨w.heap.size, 1, none⟩) rfl (.int .u64 init))
 have hsr14 := (hsr12.later hx).but (hbB _) (fun k hk e => hsv (by rw [hk, e])) (fun k hk e => by have := (hC k hk).1; omega)
 exact ret_tc rfl hf sS.1 sS.2 (set_block (set_block hx14 _) _) Tryz.underlying38 rfl (by kernel_rfl) ⟨_, by simp, (fun wz hw => (hsr14.but hw (fun k hk h => by have := (World.ownsRow.lt hsr14.row k hk).1; omega) (fun k hk h => by have := (hC k hk).1; omega)).rs), (hbt12.trans ((But.of _ hx).trans ((hbB _).mono (fun k _ h => .inr (by omega))))).mono (fun k hk h => h.elim id (fun h => by omega))⟩))))))))
theorem catch31 (a b c q : Nat) (x : Int) (sv : Value) (y : Nat) (ev : Value) (w : World) (hab : a ≠ b) (hac : a ≠ c) (hbc : b ≠ c) (h0 : w.heap[a]? = some (.cells #[.int .i64 x] 3 (0, 0))) (h1 : w.heap[b]? = some (.cells #[sv, .int .u64 y] 38 (0, 0))) (h2 : w.heap[c]? = some (.cells #[ev] 41 (0, 0))) :
  CallsD Tryz.prog 30 #[.pointer (some ⟨a, 0, none⟩), .pointer (some ⟨b, 0, none⟩), .pointer (some ⟨c, 0, none⟩)] (.panicking [{ v := .iface 77 (.pointer (some ⟨q, 0, none⟩)), recovered := false }]) w fun e u' w' =>
   e = .returned (.tuple #[]) /\ u' = .panicking [{ v := .iface 77 (.pointer (some ⟨q, 0, none⟩)), recovered := true }] /\ w' = (((w.setCell ⟨a, 0, none⟩ (.int .i64 0)).setCell ⟨b, 0, none⟩ (.slice none 0 0)).setCell ⟨b, 1, none⟩ (.int .u64 0)).setCell ⟨c, 0, none⟩ (.iface 77 (.pointer (some ⟨q, 0, none⟩))) := by
 refine callsD_of_wpS Tryz.func30 rfl fun c₀ cs hu => ?_
 apply wpS_seq
 apply wpS_region
 simp [wpOpsS, go_sem, recoverD, hu, Tryz.ntmps30, Exit.thenS]
 refine wpS_of_wp ?_
 have a0 : w.cell? ⟨a, 0, none⟩ = some (.int .i64 x) := by rw [cell_of_row _ _ 0 _ _ (0, 0) h0]; rfl
 have b0 : w.cell? ⟨b, 0, none⟩ = some sv := by rw [cell_of_row _ _ 0 _ _ (0, 0) h1]; rfl
 have b1 : w.cell? ⟨b, 1, none⟩ = some (.int .u64 y) := by rw [cell_of_row _ _ 1 _ _ (0, 0) h1]; rfl
 have c0' : w.cell? ⟨c, 0, none⟩ = some ev := by rw [cell_of_row _ _ 0 _ _ (0, 0) h2]; rfl
 have fa := frozen_of (i := 0) h0
 have fb := frozen_of (i := 0) h1
 have fb1 := frozen_of (i := 1) h1
 have fc := frozen_of (i := 0) h2
 have hab' := hab.symm
 have hac' := hac.symm
 have hbc' := hbc.symm
 have hta : ∀ w' : World, (Instr.typeAssert (.iface 77 (.pointer (some ⟨q, 0, none⟩))) 20 77 true).run Tryz.prog w' = .ok (.tuple #[.pointer (some ⟨q, 0, none⟩), .bool true]) w' := fun w' => by kernel_rfl
 go_wp2
 exact ⟨rfl, _, rfl, _, results_none rfl _ _ _, rfl, rfl, rfl⟩
theorem idle31 (p0 p1 p2 : Value) (w : World) : CallsD Tryz.prog 30 #[p0, p1, p2] .returning w fun e u' w' => e = .returned (.tuple #[]) /\ u' = .returning /\ w' = w := by
 refine callsD_of_wpS Tryz.func30 rfl fun c₀ cs hu => ?_
 apply wpS_seq
 apply wpS_region
 simp [wpOpsS, go_sem, recoverD, hu, Tryz.ntmps30, Exit.thenS]
 refine wpS_of_wp ?_
 have hn : ∀ w' : World, (binOp .eql 20 .nilIface .nilIface).run Tryz.prog w' = .ok (.bool true) w' := fun w' => by kernel_rfl
 go_wp2
 cases c₀
 simp_all [bodyPostS, results, Tryz.results31]
def pGet (s : ByteArray) : Except Bad (Nat × Nat × List State) := match openR (Crc.opened (wl s)) with
 | (body, is) => if is then pAll body else .error (16, 0)
def GetR (w w1 : World) (e : Ending) : Except Bad (Nat × Nat × List State) -> Prop
 | .error b => ∃ q, e = .returned (.tuple #[.int .i64 0, .agg #[.slice none 0 0, .int .u64 0], .iface 77 (.pointer (some ⟨q, 0, none⟩))]) /\ w.heap.size <= q /\ w1.heap[q]? = some (.cells #[.int .i64 b.1, .int .i64 b.2] 134 (0, 0)) /\ Below w.heap.size w w1
 | .ok (en, init, ss) => ∃ sv, e = .returned (.tuple #[.int .i64 en, .agg #[sv, .int .u64 init], .nilIface]) /\ RS w1 sv ss /\ Below w.heap.size w w1
abbrev W15 (w : World) : World := ((w.alloc (.cells #[.int .i64 0] 3)).alloc (.cells #[.slice none 0 0, .int .u64 0] 38)).alloc (.cells #[.nilIface] 41)
theorem boxes15 {w w2 : World} (hb : Below (W15 w).heap.size (W15 w) w2) : w2.heap[w.heap.size]? = some (.cells #[.int .i64 0] 3 (0, 0)) /\ w2.heap[w.heap.size + 1]? = some (.cells #[.slice none 0 0, .int .u64 0] 38 (0, 0)) /\ w2.heap[w.heap.size + 1 + 1]? = some (.cells #[.nilIface] 41 (0, 0)) /\ Below w.heap.size w w2 /\ w.heap.size + 3 <= w2.heap.size := by
 have hsz : (W15 w).heap.size = w.heap.size + 3 := by simp [W15]
 have h0 := hb.size
 refine ⟨?_, ?_, ?_, ?_, by omega⟩
 ·rw [hb.block _ (by omega), heap_get, if_neg (by simp; omega), heap_get, if_neg (by simp), heap_get, if_pos rfl]
 ·rw [hb.block _ (by omega), heap_get, if_neg (by simp), heap_get, if_pos (by simp)]
 ·rw [hb.block _ (by omega), heap_get, if_pos (by simp)]
 ·exact (((Below.refl _ w).alloc (Nat.le_refl _) _).alloc (by simp) _ |>.alloc (by simp; omega) _).trans (hb.mono (by omega))
theorem leave15 {tmps : Array Value} {a b c : Nat} {W : World} {x : Int} {sv ev : Value} {y : Nat} {R : Ending -> World -> Prop} (t2 : tmps[2]? = some (.pointer (some ⟨a, 0, none⟩))) (t3 : tmps[3]? = some (.pointer (some ⟨b, 0, none⟩))) (t4 : tmps[4]? = some (.pointer (some ⟨c, 0, none⟩)))
  (ha : W.heap[a]? = some (.cells #[.int .i64 x] 3 (0, 0))) (hb : W.heap[b]? = some (.cells #[sv, .int .u64 y] 38 (0, 0))) (hc : W.heap[c]? = some (.cells #[ev] 41 (0, 0))) (hR : R (.returned (.tuple #[.int .i64 x, .agg #[sv, .int .u64 y], ev])) W) : Leaves Tryz.prog Tryz.f13 tmps R [] .returning W := by
 have a0 : W.cell? ⟨a, 0, none⟩ = some (.int .i64 x) := by rw [cell_of_row _ _ 0 _ _ (0, 0) ha]; rfl
 have c0 : W.cell? ⟨c, 0, none⟩ = some ev := by rw [cell_of_row _ _ 0 _ _ (0, 0) hc]; rfl
 have b0 : W.cell? ⟨b, 0, none⟩ = some sv := by rw [cell_of_row _ _ 0 _ _ (0, 0) hb]; rfl
 have b1 : W.cell? ⟨b, 1, none⟩ = some (.int .u64 y) := by rw [cell_of_row _ _ 1 _ _ (0, 0) hb]; rfl
 simp [Leaves, results, Tryz.results15, Sem.run_bind, Result.andThen, asAddr, t2, t3, t4, a0, b0, b1, c0, go_sem]
 exact hR
theorem set_other {W : World} {k blk i : Nat} {v : Value} {o : Obj} (h : W.heap[k]? = some o) (hne : k ≠ blk) : (W.setCell ⟨blk, i, none⟩ v).heap[k]? = some o := (But.setCell (S := fun k => k = blk) rfl v).heap h (fun e => hne e)
theorem caught15 {w w2 : World} {q : Nat} {bz : Bad} {tmps : Array Value} (t2 : tmps[2]? = some (.pointer (some ⟨w.heap.size, 0, none⟩))) (t3 : tmps[3]? = some (.pointer (some ⟨w.heap.size + 1, 0, none⟩))) (t4 : tmps[4]? = some (.pointer (some ⟨w.heap.size + 1 + 1, 0, none⟩))) {x : Int} {sv ev : Value} {y : Nat}
  (k0 : w2.heap[w.heap.size]? = some (.cells #[.int .i64 x] 3 (0, 0))) (k1 : w2.heap[w.heap.size + 1]? = some (.cells #[sv, .int .u64 y] 38 (0, 0))) (k2 : w2.heap[w.heap.size + 1 + 1]? = some (.cells #[ev] 41 (0, 0))) (k3 : Below w.heap.size w w2) (hq : w.heap.size + 3 <= q) (h3 : w2.heap[q]? = some (.cells #[.int .i64 bz.1, .int .i64 bz.2] 134 (0, 0))) :
  Leaves Tryz.prog Tryz.f13 tmps (fun e w1 => GetR w w1 e (.error bz)) [] .returning ((((w2.setCell ⟨w.heap.size, 0, none⟩ (.int .i64 0)).setCell ⟨w.heap.size + 1, 0, none⟩ (.slice none 0 0)).setCell ⟨w.heap.size + 1, 1, none⟩ (.int .u64 0)).setCell ⟨w.heap.size + 1 + 1, 0, none⟩ (.iface 77 (.pointer (some ⟨q, 0, none⟩)))) := by
 refine leave15 (x := 0) (sv := .slice none 0 0) (y := 0) (ev := .iface 77 (.pointer (some ⟨q, 0, none⟩))) t2 t3 t4 ?_ ?_ ?_ ⟨q, rfl, by omega, ?_, ?_⟩
 ·exact set_other (set_other (set_other ((set_block k0 _).trans (by simp)) (by omega)) (by omega)) (by omega)
 ·exact set_other ((set_block (set_block (set_other k1 (by omega)) _) _).trans (by simp)) (by omega)
 ·exact (set_block (set_other (set_other (set_other k2 (by omega)) (by omega)) (by omega)) _).trans (by simp)
 ·exact set_other (set_other (set_other (set_other h3 (by omega)) (by omega)) (by omega)) (by omega)
 ·exact (((k3.setCell (p := ⟨w.heap.size, 0, none⟩) (Nat.le_refl _) _).setCell (p := ⟨w.heap.size + 1, 0, none⟩) (by simp) _).setCell (p := ⟨w.heap.size + 1, 1, none⟩) (by simp) _).setCell (p := ⟨w.heap.size + 1 + 1, 0, none⟩) (by simp; omega) _
def st15 (w2 : World) (a : Nat) (en init : Nat) (sv : Value) : World := (((((((w2.setCell ⟨a, 0, none⟩ (.int .i64 en)).setCell ⟨a + 1, 0, none⟩ sv).setCell ⟨a + 1, 1, none⟩ (.int .u64 init)).setCell ⟨a, 0, none⟩ (.int .i64 en)).setCell ⟨a + 1, 0, none⟩ sv).setCell ⟨a + 1, 1, none⟩ (.int .u64 init)).setCell ⟨a + 1 + 1, 0, none⟩ .nilIface).drew
theorem drew_heap (W : World) : W.drew.heap = W.heap := rfl
theorem good15 {w w2 : World} {N : Nat} {tmps : Array Value} (t2 : tmps[2]? = some (.pointer (some ⟨w.heap.size, 0, none⟩))) (t3 : tmps[3]? = some (.pointer (some ⟨w.heap.size + 1, 0, none⟩))) (t4 : tmps[4]? = some (.pointer (some ⟨w.heap.size + 1 + 1, 0, none⟩))) {x : Int} {sv v0 ev : Value} {y en init : Nat} {ss : List State}
  (k0 : w2.heap[w.heap.size]? = some (.cells #[.int .i64 x] 3 (0, 0))) (k1 : w2.heap[w.heap.size + 1]? = some (.cells #[v0, .int .u64 y] 38 (0, 0))) (k2 : w2.heap[w.heap.size + 1 + 1]? = some (.cells #[ev] 41 (0, 0))) (k3 : Below w.heap.size w w2) (hrs : ∀ w', But (fun k => k < N) w2 w' -> RS w' sv ss) (hN : w.heap.size + 2 < N) :
  Leaves Tryz.prog Tryz.f13 tmps (fun e w1 => GetR w w1 e (.ok (en, init, ss))) [] .returning (st15 w2 w.heap.size en init sv) := by
 have m0 : (st15 w2 w.heap.size en init sv).heap[w.heap.size]? = some (.cells #[.int .i64 en] 3 (0, 0)) := by
  rw [st15, drew_heap]
  refine set_other (set_other (set_other ((set_block (set_other (set_other (set_block k0 _) (by omega)) (by omega)) _).trans (by simp)) (by omega)) (by omega)) (by omega)
 have m1 : (st15 w2 w.heap.size en init sv).heap[w.heap.size + 1]? = some (.cells #[sv, .int .u64 init] 38 (0, 0)) := by
  rw [st15, drew_heap]
  refine set_other ((set_block (set_block (set_other (set_block (set_block (set_other k1 (by omega)) _) _) (by omega)) _) _).trans (by simp)) (by omega)
 have m2 : (st15 w2 w.heap.size en init sv).heap[w.heap.size + 1 + 1]? = some (.cells #[.nilIface] 41 (0, 0)) := by
  rw [st15, drew_heap]
  refine (set_block (set_other (set_other (set_other (set_other (set_other (set_other k2 (by omega)) (by omega)) (by omega)) (by omega)) (by omega)) (by omega)) _).trans (by simp)
 have hbt : But (fun k => w.heap.size <= k /\ k < N) w2 (st15 w2 w.heap.size en init sv) := by
  have c : ∀ (W : World) (p : Addr) (v : Value), w.heap.size <= p.block -> p.block < N -> But (fun k => w.heap.size <= k /\ k < N) W (W.setCell p v) := fun W p v h1 h2 => But.setCell (S := fun k => w.heap.size <= k /\ k < N) ⟨h1, h2⟩ v
  have hd : ∀ W : World, But (fun k => w.heap.size <= k /\ k < N) W W.drew := fun W => ⟨rfl, rfl, rfl, Nat.le_refl _, fun _ _ _ => rfl⟩
  refine (((((((c _ _ _ ?_ ?_).trans (c _ _ _ ?_ ?_)).trans (c _ _ _ ?_ ?_)).trans (c _ _ _ ?_ ?_)).trans (c _ _ _ ?_ ?_)).trans (c _ _ _ ?_ ?_)).trans (c _ _ _ ?_ ?_)).trans (hd _) <;> simp <;> omega
 exact leave15 t2 t3 t4 m0 m1 m2 ⟨_, rfl, hrs _ (hbt.mono (fun k _ h => h.2)), k3.trans (hbt.below k3.size (fun k h => h.1))⟩
theorem get15 (w : World) (s : ByteArray) (hsz : s.size <= 900000000) : Calls Tryz.prog 13 #[.string s] w fun e w1 => GetR w w1 e (pGet s) := by
 have hmf : ∀ (fn : Fn) (first cap : Array Value) (w : World), (Instr.makeFunc fn first cap).run Tryz.prog w = .ok (.func fn first cap) w := fun _ _ _ _ => rfl
 obtain ⟨body, is, ho⟩ : ∃ b i, openR (Crc.opened (wl s)) = (b, i) := ⟨_, _, rfl⟩
 rcases is with _ | _
 ·have hp : pGet s = .error (16, 0) := by unfold pGet; rw [ho]; rfl
  rw [hp]
  go_enter_defers Tryz.func13, Tryz.ntmps13
  go_wp2_with (go_at_call 31; refine (open32 _ s hsz).mono ?_; rw [ho]; rintro e w1 ⟨rfl, hb1⟩)
  refine (bad33 _ 16 0).mono ?_
  rintro e w2 ⟨q, rfl, h2, h3, h4⟩
  dsimp only
  refine leaves_cons (f := 30) (args := #[.pointer (some ⟨w.heap.size, 0, none⟩), .pointer (some ⟨w.heap.size + 1, 0, none⟩), .pointer (some ⟨w.heap.size + 1 + 1, 0, none⟩)]) (by simp) (by simp [go_sem]) ?_
  obtain ⟨k0, k1, k2, k3, k4⟩ := boxes15 (hb1.trans (h4.mono hb1.size))
  refine (catch31 _ _ _ q 0 (.slice none 0 0) 0 .nilIface w2 (by omega) (by omega) (by omega) k0 k1 k2).mono ?_
  rintro e u' w3 ⟨rfl, rfl, rfl⟩
  have k5 := (boxes15 hb1).2.2.2.2
  exact caught15 (rfl) (rfl) (rfl) k0 k1 k2 k3 (by omega) h3
 ·have hp : pGet s = pAll body := by unfold pGet; rw [ho]; rfl
  rw [hp]
  have hbs : body.size <= 1000000000 := by
   have h9 := congrArg (fun x => x.1.size) ho
   simp only at h9
   rw [<- h9]
   cases hop : Crc.opened (wl s) with
   | none => exact Nat.zero_le _
   | some l =>
    have h8 := congrArg List.length (Crc.opened_some hop)
    rw [Crc.seal_length, wl_length] at h8
    simp only [openR, bl_size]
    omega
  cases hall : pAll body with
  | error bz =>
   go_enter_defers Tryz.func13, Tryz.ntmps13
   go_wp2_with (go_at_call 31; refine (open32 _ s hsz).mono ?_; rw [ho]; rintro e w1 ⟨rfl, hb1⟩)
   refine (all34 _ w1.heap.size body (heap_alloc_new w1 _) hbs).mono ?_
   rintro e w2 hres
   rw [hall] at hres
   obtain ⟨q, rfl, h2, h3, h4⟩ := hres
   dsimp only
   refine leaves_cons (f := 30) (args := #[.pointer (some ⟨w.heap.size, 0, none⟩), .pointer (some ⟨w.heap.size + 1, 0, none⟩), .pointer (some ⟨w.heap.size + 1 + 1, 0, none⟩)]) (by simp) (by simp [go_sem]) ?_
   have k5 := (boxes15 hb1).2.2.2.2
   have hb2 : Below w1.heap.size w1 w2 := ((Below.refl _ w1).alloc (Nat.le_refl _) _).trans (h4.below (by simp) (fun k hk => by omega))
   obtain ⟨k0, k1, k2, k3, k4⟩ := boxes15 (hb1.trans (hb2.mono hb1.size))
   refine (catch31 _ _ _ q 0 (.slice none 0 0) 0 .nilIface w2 (by omega) (by omega) (by omega) k0 k1 k2).mono ?_
   rintro e u' w3 ⟨rfl, rfl, rfl⟩
   exact caught15 rfl rfl rfl k0 k1 k2 k3 (by simp at h2; omega) h3
  | ok x =>
   obtain ⟨en, init, ss⟩ := x
   go_enter_defers Tryz.func13, Tryz.ntmps13
   go_wp2_with (go_at_call 31; refine (open32 _ s hsz).mono ?_; rw [ho]; rintro e w1 ⟨rfl, hb1⟩)
   refine (all34 _ w1.heap.size body (heap_alloc_new w1 _) hbs).mono ?_
   rintro e w2 hres
   rw [hall] at hres
   obtain ⟨sv, rfl, hrs, h4⟩ := hres
   obtain ⟨A, cc, hsv, _⟩ := (hrs _ (But.refl _ _)).form
   subst hsv
   dsimp only
   have hb2 : Below w1.heap.size w1 w2 := ((Below.refl _ w1).alloc (Nat.le_refl _) _).trans (h4.below (by simp) (fun k hk => by omega))
   obtain ⟨k0, k1, k2, k3, k4⟩ := boxes15 (hb1.trans (hb2.mono hb1.size))
   have a0 : w2.cell? ⟨w.heap.size, 0, none⟩ = some (.int .i64 0) := by rw [cell_of_row _ _ 0 _ _ (0, 0) k0]; rfl
   have b0 : w2.cell? ⟨w.heap.size + 1, 0, none⟩ = some (.slice none 0 0) := by rw [cell_of_row _ _ 0 _ _ (0, 0) k1]; rfl
   have b1 : w2.cell? ⟨w.heap.size + 1, 1, none⟩ = some (.int .u64 0) := by rw [cell_of_row _ _ 1 _ _ (0, 0) k1]; rfl
   have c0 : w2.cell? ⟨w.heap.size + 1 + 1, 0, none⟩ = some .nilIface := by rw [cell_of_row _ _ 0 _ _ (0, 0) k2]; rfl
   have fa := frozen_of (i := 0) k0
   have fb := frozen_of (i := 0) k1
   have fb1 := frozen_of (i := 1) k1
   have fc := frozen_of (i := 0) k2
   go_wp2
   go_region
   go_wp2
   refine leaves_cons (f := 30) (args := #[.pointer (some ⟨w.heap.size, 0, none⟩), .pointer (some ⟨w.heap.size + 1, 0, none⟩), .pointer (some ⟨w.heap.size + 1 + 1, 0, none⟩)]) (by simp) (by simp [go_sem]) ?_
   refine (idle31 _ _ _ _).mono ?_
   rintro e u' w3 ⟨rfl, rfl, rfl⟩
   have k5 := (boxes15 hb1).2.2.2.2
   exact good15 rfl rfl rfl k0 k1 k2 k3 hrs (by simp; omega)
end Dw
end Go.Proofs.YtcddnmhmcieebaaGreatDoor
