/- pack: reading.all. -/
import Derived.Test.YtdkbgbdgmihlmaaGreatDoorPSR
import Derived.Test.YtdkbgbdgmihlmaaGreatDoorTools
namespace Go.Proofs.YtdkbgbdgmihlmaaGreatDoor
open Go.RowKit
set_option linter.unusedSimpArgs false
set_option linter.unusedVariables false
set_option linter.unnecessarySimpa false
namespace Dw

/-- what the reading of all ends in -/
def AllR (w w1 : World) (e : Ending) (g : Nat) : Except Bad (Nat × Nat × List State) → Prop
  | .error b => PanG w w1 e g b
  | .ok (en, init, ss) => ∃ sv, e = .returned (.tuple #[.int .i64 en, .agg #[sv, .int .u64 init]]) ∧ (∀ w', But (fun k => k < w.heap.size) w1 w' → RS w' sv ss) ∧ But (fun k => k = g) w w1
theorem ret_tc {P : Program} {fn : Func} {R : Ending → World → Prop} {n p u g : Nat} {ty t : TypeId} {a : Act} {w : World} {x : Value} {cs : Array Value} {fr : Nat × Nat} {d : TypeDesc} (h : fn.results = #[.tmp u, .cell p ty]) (hf : Fact.Fr n a)
    (su : a.tmps[u]? = some x) (sp : a.tmps[p]? = some (.pointer (some ⟨g, 0, none⟩))) (hg : w.heap[g]? = some (.cells cs t fr)) (hu : P.underlying ty = some d) (hd : (match d with | .struct _ | .array _ _ => true | _ => false) = true)
    (hi : (P.info? ty).map (·.size) = some cs.size) (hR : R (.returned (.tuple #[x, .agg cs])) w) : bodyPost P fn R .ret a w := by
  refine bodyPost_ret (v := .tuple #[x, .agg cs]) ?_ hf.defers hR
  have hp' : a.tmps[p]?.getD undef = .pointer (some ⟨g, 0, none⟩) := by simp [sp]
  simp [results, h, Sem.run_bind, hp', asAddr, run_loadVar_row w g t ty cs fr d hg hu hd hi, Result.andThen, su]
theorem info_state : (Tryz.prog.info? 58).map (fun i => (i.zero, i.size, i.bytes)) = some (some (.agg #[.slice none 0 0, .bool false, .int .u64 0]), 3, 40) := by kernel_rfl
def Q4 (g : Nat) (s : ByteArray) (j : Nat) (st : State) (N : Nat) : Stab.Pr := fun x wz => ∃ A4 c4 B4, x = .agg #[.slice A4 st.arcs.length c4, .bool st.final, .int .u64 st.out] ∧ RD wz g s j ∧ OA wz B4 (.slice A4 st.arcs.length c4) st.arcs ∧ N ≤ B4
theorem Q4.stable (g : Nat) (s : ByteArray) (j : Nat) (st : State) (N : Nat) : Stab.Stable (Q4 g s j st N) := fun v w w' hb ⟨A, c, B, h1, h2, h3, h4⟩ => ⟨A, c, B, h1, h2.later hb, own_later h3 hb, h4⟩
def Q5 (g : Nat) (s : ByteArray) (j : Nat) (st : State) (N : Nat) : Stab.Pr := fun x wz => ∃ A4 c4 B4, PLit [.slice A4 st.arcs.length c4, .bool st.final, .int .u64 st.out] x wz ∧ RD wz g s j ∧ OA wz B4 (.slice A4 st.arcs.length c4) st.arcs ∧ N ≤ B4
theorem Q5.stable (g : Nat) (s : ByteArray) (j : Nat) (st : State) (N : Nat) : Stab.Stable (Q5 g s j st N) := fun v w w' hb ⟨A, c, B, h1, h2, h3, h4⟩ => ⟨A, c, B, PLit.stable _ v w w' hb h1, h2.later hb, own_later h3 hb, h4⟩
def Q6 (base g : Nat) (s : ByteArray) (j : Nat) (l : List (Value × State)) (st : State) : Stab.Pr := fun v wz => ∃ (y : Value × State) (C : Nat → Prop), SR wz base C v (l ++ [y]) ∧ y.2 = st ∧ RD wz g s j ∧ v.ownBlock ≠ some base ∧ ∀ k, C k → base < k ∧ k < wz.heap.size ∧ v.ownBlock ≠ some k
theorem Q6.stable (base g : Nat) (s : ByteArray) (j : Nat) (l : List (Value × State)) (st : State) : Stab.Stable (Q6 base g s j l st) := fun v w w' hb ⟨y, C, h1, h2, h3, h4, h5⟩ => ⟨y, C, h1.later hb, h2, h3.later hb, h4, fun k hk => ⟨(h5 k hk).1, Nat.lt_of_lt_of_le (h5 k hk).2.1 hb.size, (h5 k hk).2.2⟩⟩
theorem Q6.mk {w1 w3 : World} {base g j N B4 : Nat} {s : ByteArray} {C : Nat → Prop} {sv v3 : Value} {A4 : Option Addr} {c4 : Nat} {l : List (Value × State)} {st : State} (hsr : SR w1 base C sv l) (hsv : sv.ownBlock ≠ some base) (hC : ∀ k, C k → base < k ∧ k < N ∧ sv.ownBlock ≠ some k) (hN : N ≤ w1.heap.size) (hBN : base < N) (hr : RD w1 g s j) (hgs : sv.ownBlock ≠ some g) (hoa : OA w1 B4 (.slice A4 st.arcs.length c4) st.arcs) (hB4 : N ≤ B4) (hsvN : ∀ k, sv.ownBlock = some k → k < N) (hg3 : w1.grownBy w3 sv.ownBlock) (hr3 : w3.ownsRow base 58 3 v3 (l.length + 1) (scs l ++ [.slice A4 st.arcs.length c4, .bool st.final, .int .u64 st.out])) (hat3 : v3.ownBlock = sv.ownBlock ∨ v3.ownBlock = some w1.heap.size) : Q6 base g s j l st v3 w3 := by
  have hbg : But (fun k => sv.ownBlock = some k) w1 w3 := But.grown hg3 (fun k hk => hk)
  have hsz := hbg.size
  refine ⟨(.slice A4 st.arcs.length c4, st), fun k => C k ∨ (.slice A4 st.arcs.length c4 : Value).ownBlock = some k, ⟨?_, fun x hx => ?_⟩, rfl, hbg.heap hr hgs, ?_, fun k hk => ?_⟩
  · rw [List.length_append, scs_append]; exact hr3
  · rcases List.mem_append.1 hx with hx | hx
    · exact ((hsr.arcs x hx).but hbg (fun k hk h => (hC k hk).2.2 h)).more (fun k _ hk => .inl hk)
    · simp at hx
      subst hx
      exact ((hoa.ra (B := fun k => (.slice A4 st.arcs.length c4 : Value).ownBlock = some k) (fun k hk => hk)).but hbg (fun k hk h => by have h1 := (World.ownsRow.lt hoa k hk).1; have h2 := hsvN k h; omega)).more (fun k _ hk => .inr hk)
  · rcases hat3 with e | e
    · rw [e]; exact hsv
    · rw [e]; intro e2; injection e2 with e2; omega
  · rcases hk with hk | hk
    · have h1 := hC k hk
      refine ⟨h1.1, by omega, ?_⟩
      rcases hat3 with e | e
      · rw [e]; exact h1.2.2
      · rw [e]; intro e2; injection e2 with e2; omega
    · have h1 := World.ownsRow.lt hoa k hk
      refine ⟨by omega, by omega, ?_⟩
      rcases hat3 with e | e
      · rw [e]; intro e2; have := hsvN k e2; omega
      · rw [e]; intro e2; injection e2 with e2; omega
def Q8 (base g : Nat) (s : ByteArray) (j : Nat) (l : List (Value × State)) (st : State) (wz : World) : Prop := ∃ (v : Value) (y : Value × State) (C : Nat → Prop), wz.heap[base]? = some (.cells #[v, .int .u64 0] 33 (0, 0)) ∧ SR wz base C v (l ++ [y]) ∧ y.2 = st ∧ RD wz g s j ∧ v.ownBlock ≠ some base ∧ ∀ k, C k → base < k ∧ k < wz.heap.size ∧ v.ownBlock ≠ some k
theorem Q8.later {base g j : Nat} {s : ByteArray} {l : List (Value × State)} {st : State} {w w' : World} (hb : Below w.heap.size w w') (h : Q8 base g s j l st w) : Q8 base g s j l st w' := by
  obtain ⟨v, y, C, h0, h1, h2, h3, h4, h5⟩ := h
  exact ⟨v, y, C, (hb.block _ (heap_lt h0)).trans h0, h1.later hb, h2, h3.later hb, h4, fun k hk => ⟨(h5 k hk).1, Nat.lt_of_lt_of_le (h5 k hk).2.1 hb.size, (h5 k hk).2.2⟩⟩
theorem Q8.mk {w1 : World} {base g j : Nat} {s : ByteArray} {l : List (Value × State)} {st : State} {v0 v : Value} {y : Value × State} {C : Nat → Prop} (h0 : w1.heap[base]? = some (.cells #[v0, .int .u64 0] 33 (0, 0))) (hgb : g < base) (h1 : SR w1 base C v (l ++ [y])) (h2 : y.2 = st) (h3 : RD w1 g s j) (h4 : v.ownBlock ≠ some base) (h5 : ∀ k, C k → base < k ∧ k < w1.heap.size ∧ v.ownBlock ≠ some k) : Q8 base g s j l st (w1.setCell ⟨base, 0, none⟩ v) := by
  have hb : But (fun k => k = base) w1 (w1.setCell ⟨base, 0, none⟩ v) := But.setCell (S := fun k => k = base) rfl _
  exact ⟨v, y, C, (set_block (i := 0) h0 v).trans (by simp), h1.but hb (fun k hk e => h4 (by rw [hk, e])) (fun k hk e => by have := (h5 k hk).1; omega), h2, hb.heap h3 (by intro e; omega), h4, fun k hk => ⟨(h5 k hk).1, Nat.lt_of_lt_of_le (h5 k hk).2.1 hb.size, (h5 k hk).2.2⟩⟩
set_option maxHeartbeats 4000000 in
set_option maxRecDepth 100000 in
theorem all34 (w : World) (g : Nat) (s : ByteArray) (hr : RD w g s 0) (hsz : s.size ≤ 1000000000) : Calls Tryz.prog 32 #[.pointer (some ⟨g, 0, none⟩)] w fun e w1 => AllR w w1 e g (pAll s) := by
 refine calls_of_wp Tryz.func32 rfl ?_
 refine Fact.en 52 fun fr hf hT => ?_
 have s0 := hT 0 _ rfl
 clear hT
 obtain ⟨r, hps⟩ : ∃ r, pAll s = r := ⟨_, rfl⟩
 rw [hps]
 have HPS := Lib.hid hps; clear hps
 have hgl := heap_lt hr
 refine Fact.sq fun K1 hK1 => ?_
 refine rg ?_
 iterate 2 (refine fp fun K Z => ?_; go_simp; apply Z.out; clear Z K)
 refine Fact.z hf fun fr1 hf1 hT => ?_
 have hKp : _ ∧ _ := ⟨hT 0, hT 3⟩
 simp (decide := true) only [Fact.G, hf.size, reduceIte, s0] at hKp
 replace hf := hf1; clear hT hf1 s0
 obtain ⟨s0, s3⟩ := hKp
 obtain ⟨W0, hW0⟩ : ∃ x, w.alloc (.cells #[.slice none 0 0, .int .u64 0] 33) = x := ⟨_, rfl⟩
 try rw [hW0]
 have hbz0 : Below w.heap.size w W0 := by rw [← hW0]; exact (Below.refl _ _).alloc (Nat.le_refl _) _
 have hx0 : W0.heap[w.heap.size]? = some (.cells #[.slice none 0 0, .int .u64 0] 33 (0, 0)) := by rw [← hW0]; exact heap_alloc_new w _
 clear hW0
 have hr0 := hr.later hbz0
 have hbt0 : But (fun k => k = g ∨ w.heap.size ≤ k) w W0 := But.of _ hbz0
 clear hr hbz0
 refine nx (hK1 _ _ ?_)
 refine Fact.sq fun K2 hK2 => ?_
 refine Fact.sq fun K3 hK3 => ?_
 refine rg ?_
 refine fp fun K Z => ?_
 go_simp
 apply Z.out; clear Z K
 refine Fact.z hf fun fr1 hf1 hT => ?_
 have hKp : _ ∧ _ ∧ _ := ⟨hT 0, hT 3, hT 7⟩
 simp (decide := true) only [Fact.G, hf.size, reduceIte, s0, s3] at hKp
 replace hf := hf1; clear hT hf1 s0 s3
 obtain ⟨s0, s3, s7⟩ := hKp
 refine nx (hK3 _ _ ?_)
 refine wp_block ?_
 refine wp_loop_ghost (fun gk fr wr => ∃ (k : Nat), gk = 3 - k ∧ k ≤ 3 ∧ Fact.Fr 52 fr ∧ fr.tmps[0]? = some (.pointer (some ⟨g, 0, none⟩)) ∧ fr.tmps[3]? = some (.pointer (some ⟨w.heap.size, 0, none⟩)) ∧ fr.tmps[7]? = some (.int .i64 k) ∧ pMagic s 3 0 0 = pMagic s (3 - k) k k ∧ RD wr g s k ∧ k ≤ s.size ∧ wr.heap[w.heap.size]? = some (.cells #[.slice none 0 0, .int .u64 0] 33 (0, 0)) ∧ But (fun k => k = g ∨ w.heap.size ≤ k) w wr) (3) ?_ ?_
 · (
 exact ⟨0, rfl, Nat.zero_le _, hf, s0, s3, s7, rfl, hr0, Nat.zero_le _, hx0, hbt0⟩)
 · (
 clear hf s0 s3 s7
 rintro gk fr wr ⟨k, hk, hki, hf, s0, s3, s7, hpa, hr5, hp5, hx5, hbt5⟩
 have HK := Lib.hid hk; have HPA := Lib.hid hpa; clear hk hpa
 refine Fact.sq fun K4 hK4 => ?_
 refine rg ?_
 refine fp fun K Z => ?_
 go_simp
 apply Z.out; clear Z K
 refine Fact.z hf fun fr1 hf1 hT => ?_
 have hKp : _ ∧ _ ∧ _ ∧ _ := ⟨hT 0, hT 3, hT 7, hT 8⟩
 simp (decide := true) only [Fact.G, hf.size, reduceIte, s0, s3, s7] at hKp
 replace hf := hf1; clear hT hf1 s0 s3 s7
 obtain ⟨s0, s3, s7, s8⟩ := hKp
 refine nx (hK4 _ _ ?_)
 refine Fact.sq fun K5 hK5 => ?_
 refine Fact.cond_s s8 (fun hq => ?_) (fun hq => ?_)
 · (
 have hklt : k < 3 := by have h9 := of_decide_eq_true hq; omega
 clear hq
 obtain ⟨u, hu⟩ : ∃ u, 3 - k = u + 1 := ⟨3 - k - 1, by omega⟩
 have HU := Lib.hid hu; clear hu
 refine wp_skip ?_
 refine nx (hK5 _ _ ?_)
 refine Fact.sq fun K6 hK6 => ?_
 refine wp_block ?_
 refine Fact.sq fun K7 hK7 => ?_
 refine rg ?_
 have b9 := hf.b 9
 have b4 := hf.b 4
 iterate 3 (refine fp fun K Z => ?_; go_simp; apply Z.out; clear Z K)
 refine Fact.z hf fun fr1 hf1 hT => ?_
 have hKp : _ ∧ _ ∧ _ ∧ _ := ⟨hT 0, hT 3, hT 4, hT 7⟩
 simp (decide := true) only [Fact.G, hf.size, reduceIte, s0, s3, s7] at hKp
 replace hf := hf1; clear hT hf1 s0 s3 s7 s8 b9 b4
 obtain ⟨s0, s3, s4, s7⟩ := hKp
 obtain ⟨W6, hW6⟩ : ∃ x, wr.alloc (.cells #[.int .i64 k] 3) = x := ⟨_, rfl⟩
 try rw [hW6]
 obtain ⟨hb6, c6, -, -⟩ := box1 hW6
 clear hW6
 have hr6 := hr5.later hb6
 have hx6 := (hb6.block _ (heap_lt hx5)).trans hx5
 have hbt6 : But (fun k => k = g ∨ w.heap.size ≤ k) w W6 := hbt5.trans (But.of _ hb6)
 refine nx (hK7 _ _ ?_)
 rcases hpz : pMag s k k with bz | ⟨xm, j1⟩
 · (
 have HPZ := Lib.hid hpz; clear hpz
 have he : r = .error bz := by rw [← HPS.out]; unfold pAll; rw [HPA.out, HU.out]; simp only [pMagic, HPZ.out]
 subst he
 refine rg ?_
 have b10 := hf.b 10
 have b11 := hf.b 11
 iterate 2 (refine fp fun K Z => ?_; go_simp; apply Z.out; clear Z K)
 refine fp fun K Z => ?_
 go_simp
 go_at_call 47; refine (mag49 W6 g s k hr6 hp5 hsz k wr.heap.size hklt c6).mono ?_; rintro e wz hres
 rw [HPZ.out] at hres
 obtain ⟨q, rfl, hz2, hz3, hz4⟩ := hres
 try dsimp only
 try dsimp only
 exact pan9 hf.defers (PanG.via hbt6 ⟨q, rfl, hz2, hz3, hz4⟩))
 · (
 have HP1 := Lib.hid hpz; clear hpz
 refine rg ?_
 have b10 := hf.b 10
 have b11 := hf.b 11
 iterate 2 (refine fp fun K Z => ?_; go_simp; apply Z.out; clear Z K)
 refine fp fun K Z => ?_
 go_simp
 go_at_call 47; refine (mag49 W6 g s k hr6 hp5 hsz k wr.heap.size hklt c6).mono ?_; rintro e w7 hres
 rw [HP1.out] at hres
 obtain ⟨rfl, hr7, hb7⟩ := hres
 have hx7 := hb7.heap hx6 (by intro e; have e : w.heap.size = g := e; omega)
 have hbt7 : But (fun k => k = g ∨ w.heap.size ≤ k) w w7 := hbt6.trans (hb7.mono (fun k _ h => .inl h))
 clear hb7 hx6 hbt6 hr6
 try dsimp only
 apply Z.out; clear Z K
 refine Fact.z hf fun fr1 hf1 hT => ?_
 have hKp : _ ∧ _ ∧ _ := ⟨hT 0, hT 3, hT 7⟩
 simp (decide := true) only [Fact.G, reduceIte, s0, s3, s7] at hKp
 replace hf := hf1; clear hT hf1 s0 s3 s4 s7 b10 b11
 obtain ⟨s0, s3, s7⟩ := hKp
 obtain ⟨hj, hjs, _⟩ := pMag_ok hp5 HP1.out
 have hpa2 : pMagic s 3 0 0 = pMagic s (3 - (k + 1)) (k + 1) (k + 1) := by rw [HPA.out, HU.out, show 3 - (k + 1) = u by have := HU.out; omega]; simp only [pMagic, HP1.out]; rw [hj]
 rw [hj] at hr7 hjs
 refine Fact.block_normal ?_
 refine nx (hK6 _ _ ?_)
 refine rg ?_
 have b13 := hf.b 13
 refine fp fun K Z => ?_
 go_simp
 try simp (disch := omega) only [Fact.W]
 apply Z.out; clear Z K
 refine fp fun K Z => ?_
 go_simp
 apply Z.out; clear Z K
 refine Fact.z hf fun fr1 hf1 hT => ?_
 have hKp : _ ∧ _ ∧ _ := ⟨hT 0, hT 3, hT 7⟩
 simp (decide := true) only [Fact.G, hf.size, reduceIte, s0, s3] at hKp
 replace hf := hf1; clear hT hf1 s0 s3 s7 b13
 obtain ⟨s0, s3, s7⟩ := hKp
 refine Fact.then_normal ?_
 exact ⟨_, by have := HK.out; omega, k + 1, rfl, by omega, hf, s0, s3, by rw [s7]; rfl, hpa2, hr7, hjs, hx7, hbt7⟩))
 · (
 have hke : k = 3 := by have h9 := of_decide_eq_false hq; omega
 subst hke
 have hpm : pMagic s 3 0 0 = .ok 3 := HPA.out
 have HPM := Lib.hid hpm; clear hpm hq
 refine wp_exit ?_
 refine Fact.then_exit ?_
 refine Fact.then_exit ?_
 refine Fact.block_exit ?_
 refine nx (hK2 _ _ ?_)
 rcases hpz : pNum s 0 100000 3 with bz | ⟨en, p1⟩
 · (
 have HPZ := Lib.hid hpz; clear hpz
 have he : r = .error bz := by rw [← HPS.out]; unfold pAll; simp only [HPM.out, HPZ.out]
 subst he
 refine Fact.sq fun K8 hK8 => ?_
 refine rg ?_
 have b14 := hf.b 14
 have b15 := hf.b 15
 have b16 := hf.b 16
 refine fp fun K Z => ?_
 go_simp
 apply Z.out; clear Z K
 refine fp fun K Z => ?_
 go_simp
 go_at_call 49; refine (num51' wr g s 3 hr5 hp5 hsz 0 100000).mono ?_; rintro e wz hres
 rw [HPZ.out] at hres
 obtain ⟨q, rfl, hz2, hz3, hz4⟩ := hres
 try dsimp only
 try dsimp only
 exact pan9 hf.defers (PanG.via hbt5 ⟨q, rfl, hz2, hz3, hz4⟩))
 · (
 have HP2 := Lib.hid hpz; clear hpz
 have hk8 := pNum_ok HP2.out
 have hen : en ≤ 100000 := hk8.2.2.2.2.1
 refine Fact.sq fun K9 hK9 => ?_
 refine rg ?_
 have b14 := hf.b 14
 have b15 := hf.b 15
 have b16 := hf.b 16
 refine fp fun K Z => ?_
 go_simp
 apply Z.out; clear Z K
 refine fp fun K Z => ?_
 go_simp
 go_at_call 49; refine (num51' wr g s 3 hr5 hp5 hsz 0 100000).mono ?_; rintro e w8 hres
 rw [HP2.out] at hres
 obtain ⟨rfl, hr8, hb8⟩ := hres
 have hx8 := hb8.heap hx5 (by intro e; have e : w.heap.size = g := e; omega)
 have hbt8 : But (fun k => k = g ∨ w.heap.size ≤ k) w w8 := hbt5.trans (hb8.mono (fun k _ h => .inl h))
 clear hb8 hx5 hbt5 hr5
 try dsimp only
 apply Z.out; clear Z K
 refine fp fun K Z => ?_
 go_simp
 try rw [Fact.wrap_i64 (by omega) (by omega)]
 apply Z.out; clear Z K
 refine fp fun K Z => ?_
 go_simp
 apply Z.out; clear Z K
 refine Fact.z hf fun fr1 hf1 hT => ?_
 have hKp : _ ∧ _ ∧ _ := ⟨hT 0, hT 2, hT 3⟩
 simp (decide := true) only [Fact.G, hf.size, reduceIte, s0, s3] at hKp
 replace hf := hf1; clear hT hf1 s0 s3 s7 s8 b14 b15 b16
 obtain ⟨s0, s2, s3⟩ := hKp
 refine nx (hK9 _ _ ?_)
 rcases hpz : pNum s 1 18446744073709551615 p1 with bz | ⟨n, p2⟩
 · (
 have HPZ := Lib.hid hpz; clear hpz
 have he : r = .error bz := by rw [← HPS.out]; unfold pAll; simp only [HPM.out, HP2.out, HPZ.out]
 subst he
 refine Fact.sq fun K10 hK10 => ?_
 refine Fact.sq fun K11 hK11 => ?_
 refine rg ?_
 have b17 := hf.b 17
 have b18 := hf.b 18
 refine fp fun K Z => ?_
 go_simp
 apply Z.out; clear Z K
 refine fp fun K Z => ?_
 go_simp
 go_at_call 49; refine (num51' w8 g s p1 hr8 hk8.2.1 hsz 1 18446744073709551615).mono ?_; rintro e wz hres
 rw [HPZ.out] at hres
 obtain ⟨q, rfl, hz2, hz3, hz4⟩ := hres
 try dsimp only
 try dsimp only
 exact pan9 hf.defers (PanG.via hbt8 ⟨q, rfl, hz2, hz3, hz4⟩))
 · (
 have HP3 := Lib.hid hpz; clear hpz
 have hk9 := pNum_ok HP3.out
 have hn64 := hk9.2.2.1
 unfold M64 at hn64
 refine Fact.sq fun K12 hK12 => ?_
 refine Fact.sq fun K13 hK13 => ?_
 refine rg ?_
 have b17 := hf.b 17
 have b18 := hf.b 18
 refine fp fun K Z => ?_
 go_simp
 apply Z.out; clear Z K
 refine fp fun K Z => ?_
 go_simp
 go_at_call 49; refine (num51' w8 g s p1 hr8 hk8.2.1 hsz 1 18446744073709551615).mono ?_; rintro e w9 hres
 rw [HP3.out] at hres
 obtain ⟨rfl, hr9, hb9⟩ := hres
 have hx9 := hb9.heap hx8 (by intro e; have e : w.heap.size = g := e; omega)
 have hbt9 : But (fun k => k = g ∨ w.heap.size ≤ k) w w9 := hbt8.trans (hb9.mono (fun k _ h => .inl h))
 clear hb9 hx8 hbt8 hr8
 try dsimp only
 apply Z.out; clear Z K
 iterate 2 (refine fp fun K Z => ?_; go_simp; apply Z.out; clear Z K)
 refine Fact.z hf fun fr1 hf1 hT => ?_
 have hKp : _ ∧ _ ∧ _ ∧ _ ∧ _ := ⟨hT 0, hT 2, hT 3, hT 5, hT 6⟩
 simp (decide := true) only [Fact.G, hf.size, reduceIte, s0, s2, s3] at hKp
 replace hf := hf1; clear hT hf1 s0 s2 s3 b17 b18
 obtain ⟨s0, s2, s3, s5, s6⟩ := hKp
 refine nx (hK13 _ _ ?_)
 refine wp_block ?_
 refine wp_loop_ghost (fun gk fr wr => ∃ (i pk : Nat) (sv : Value) (l : List (Value × State)) (C : Nat → Prop), gk = n - i ∧ i ≤ n ∧ Fact.Fr 52 fr ∧ fr.tmps[0]? = some (.pointer (some ⟨g, 0, none⟩)) ∧ fr.tmps[3]? = some (.pointer (some ⟨w.heap.size, 0, none⟩)) ∧ fr.tmps[2]? = some (.int .i64 en) ∧ fr.tmps[5]? = some (.int .u64 i) ∧ fr.tmps[6]? = some (.int .u64 n) ∧ pStates s n 0 p2 [] = pStates s (n - i) i pk (l.map Prod.snd) ∧ RD wr g s pk ∧ pk ≤ s.size ∧ i ≤ pk ∧ l.length = i ∧ wr.heap[w.heap.size]? = some (.cells #[sv, .int .u64 0] 33 (0, 0)) ∧ SR wr w.heap.size C sv l ∧ sv.ownBlock ≠ some w.heap.size ∧ (∀ k, C k → w.heap.size < k ∧ k < wr.heap.size ∧ sv.ownBlock ≠ some k) ∧ But (fun k => k = g ∨ w.heap.size ≤ k) w wr) (n) ?_ ?_
 · (
 exact ⟨0, p2, _, [], fun _ => False, rfl, Nat.zero_le _, hf, s0, s3, s2, s5, s6, rfl, hr9, hk9.2.1, Nat.zero_le _, rfl, hx9, SR.nil_ _ _ _, (by intro e; cases e), (fun k h => h.elim), hbt9⟩)
 · (
 clear hf s0 s2 s3 s5 s6
 rintro gk fr wr ⟨i, pk, sv, l, C, hk, hki, hf, s0, s3, s2, s5, s6, hpa, hr5, hp5, hip, hli, hx5, hsr, hsv, hC, hbt5⟩
 have HK := Lib.hid hk; have HPA := Lib.hid hpa; have HLI := Lib.hid hli; clear hk hpa hli
 refine Fact.sq fun K14 hK14 => ?_
 refine Fact.sq fun K15 hK15 => ?_
 refine rg ?_
 have b19 := hf.b 19
 have b20 := hf.b 20
 iterate 3 (refine fp fun K Z => ?_; go_simp; apply Z.out; clear Z K)
 refine Fact.z hf fun fr1 hf1 hT => ?_
 have hKp : _ ∧ _ ∧ _ ∧ _ ∧ _ ∧ _ := ⟨hT 0, hT 2, hT 3, hT 5, hT 6, hT 21⟩
 simp (decide := true) only [Fact.G, hf.size, reduceIte, s0, s2, s3, s5, s6] at hKp
 replace hf := hf1; clear hT hf1 s0 s2 s3 s5 s6 b19 b20
 obtain ⟨s0, s2, s3, s5, s6, s21⟩ := hKp
 refine nx (hK15 _ _ ?_)
 refine Fact.cond_s s21 (fun hq => ?_) (fun hq => ?_)
 · (
 have hklt : i < n := by have h9 := of_decide_eq_true hq; omega
 clear hq
 obtain ⟨u, hu⟩ : ∃ u, n - i = u + 1 := ⟨n - i - 1, by omega⟩
 have HU := Lib.hid hu; clear hu
 have e0 : wr.cell? ⟨w.heap.size, 0, none⟩ = some sv := by rw [cell_of_row _ _ 0 _ _ (0, 0) hx5]; rfl
 obtain ⟨A, cc, hsv2, _⟩ := hsr.form
 have HSV2 := Lib.hid hsv2; clear hsv2
 rcases hpz : pState s i pk with bz | ⟨st, j⟩
 · (
 have HPZ := Lib.hid hpz; clear hpz
 have he : r = .error bz := by rw [← HPS.out]; unfold pAll; simp only [HPM.out, HP2.out, HP3.out]; rw [HPA.out, HU.out]; simp only [pStates, HPZ.out]
 subst he
 refine wp_skip ?_
 refine nx (hK14 _ _ ?_)
 refine Fact.sq fun K16 hK16 => ?_
 refine wp_block ?_
 refine Stab.tb 52 fun hok => ?_
 apply Stab.tq 0 _ hf hok
 · (
 intro fr1 w1 hh hd hk K Z
 have s3 := Stab.O hh s3
 clear hd
 go_simp
 exact Stab.k Z)
 apply Stab.tq 1 _ hf hok
 · (
 intro fr1 w1 hh hd hk K Z
 have s24 := Stab.v 0 0 hd hk []
 clear hd
 replace e0 := cL hh.ext e0
 go_simp
 exact Stab.k Z)
 refine Stab.mO 2 s0 hf hok ?_
 refine Stab.mO 3 s5 hf hok ?_
 refine Stab.todo_op (k := 4) (n := 52) (fun _ _ => False) hf.size hok.out rfl (fun _ _ _ _ h => h) ?_ ?_
 · (
 intro fr1 w1 hh hd hk K Z
 refine Stab.pl ?_
 have s26 := Stab.v 2 1 hd hk []
 have s27 := Stab.v 3 0 hd hk []
 clear hd
 replace e0 := cL hh.ext e0
 go_simp
 go_at_call 50; refine (state52 w1 g s pk (hr5.later hh.ext) hp5 hsz i (by omega)).mono ?_; rintro e w2 hres
 rw [HPZ.out] at hres
 obtain ⟨q, rfl, hz2, hz3, hz4⟩ := hres
 try dsimp only
 exact pan9 (hh.defers.trans hf.defers) (PanG.via (hbt5.trans (But.of _ hh.ext)) ⟨q, rfl, hz2, hz3, hz4⟩))
 refine Stab.todo_op (k := 5) (n := 52) Stab.Any hf.size hok.out rfl Stab.Stable.any ?_ ?_
 · (
 intro fr1 w1 hh hd hk K Z
 obtain ⟨_, hpz⟩ := Stab.use_fact (j := 4) (m := 0) hd hk rfl [] (by kernel_rfl) rfl
 exact hpz.elim)
 refine Stab.todo_op (k := 6) (n := 52) Stab.Any hf.size hok.out rfl Stab.Stable.any ?_ ?_
 · (
 intro fr1 w1 hh hd hk K Z
 obtain ⟨_, hpz⟩ := Stab.use_fact (j := 4) (m := 1) hd hk rfl [] (by kernel_rfl) rfl
 exact hpz.elim)
 refine Stab.todo_op (k := 7) (n := 52) Stab.Any hf.size hok.out rfl Stab.Stable.any ?_ ?_
 · (
 intro fr1 w1 hh hd hk K Z
 obtain ⟨_, hpz⟩ := Stab.use_fact (j := 4) (m := 2) hd hk rfl [] (by kernel_rfl) rfl
 exact hpz.elim)
 refine Stab.todo_op (k := 8) (n := 52) Stab.Any hf.size hok.out rfl Stab.Stable.any ?_ ?_
 · (
 intro fr1 w1 hh hd hk K Z
 obtain ⟨_, hpz⟩ := Stab.use_fact (j := 4) (m := 3) hd hk rfl [] (by kernel_rfl) rfl
 exact hpz.elim)
 refine Stab.tf hf hok fun fr1 w1 hh hg => ?_
 obtain ⟨_, hpz⟩ := Stab.end_fact (j := 4) (m := 4) hg rfl (by decide) rfl
 exact hpz.elim)
 · (
 have HP4 := Lib.hid hpz; clear hpz
 have hk4 := pState_ok (by omega : i ≤ 1000000000) HP4.out
 have hB5 := heap_lt hx5
 have hsvN : ∀ k, sv.ownBlock = some k → w.heap.size ≤ k ∧ k < wr.heap.size := fun k hk => World.ownsRow.lt hsr.row k hk
 refine wp_skip ?_
 refine nx (hK14 _ _ ?_)
 refine Fact.sq fun K17 hK17 => ?_
 refine wp_block ?_
 refine Stam.todo_begin (n := 52) (fun m k => (m = 4 ∧ k = g) ∨ (m = 6 ∧ sv.ownBlock = some k) ∨ (m = 8 ∧ k = w.heap.size)) [4, 6, 8] (Stab.OkOps.of (by kernel_rfl)) (fun hok => ?_)
 apply Stam.tq 0 _ hf hok
 · (
 intro fr1 w1 hh hd hk K Z
 refine Stab.pl ?_
 have s3 := Stam.o hh (by kernel_rfl) s3
 have hbt := Stam.but_at hh [4] [(6, [1]), (8, [])] (by kernel_rfl)
 clear hd hh
 go_simp
 exact Stab.k Z)
 apply Stam.tq 1 _ hf hok
 · (
 intro fr1 w1 hh hd hk K Z
 refine Stab.pl ?_
 have s24 := Stam.v 0 0 hd hk []
 have hbt := Stam.but_at hh [4] [(6, []), (8, [])] (by kernel_rfl)
 clear hd hh
 have h4 := (hbt (fun k => k = g) (fun m hm b h => by simp at hm; subst hm; rcases h with h | h | h; exact h.2; (have := h.1; omega); (have := h.1; omega)))
 have e1 := h4.cell e0 (by intro e; have e : w.heap.size = g := e; omega)
 clear h4 hbt
 go_simp
 exact Stab.k Z)
 refine Stam.mvO (k := 2) s0 hf.size hok.out rfl (by kernel_rfl) rfl rfl (.inl rfl) (by kernel_rfl) ?_
 refine Stam.mvO (k := 3) s5 hf.size hok.out rfl (by kernel_rfl) rfl rfl (.inl rfl) (by kernel_rfl) ?_
 refine Stam.todo_sp (k := 4) (n := 52) (Q4 g s j st wr.heap.size) hf.size hok.out rfl (Q4.stable _ _ _ _ _) (by kernel_rfl) ?_ ?_
 · (
 intro fr1 w1 hh hd hk K Z
 refine Stab.pl ?_
 have s26 := Stam.v 2 1 hd hk []
 have s27 := Stam.v 3 0 hd hk []
 have hxe := Stam.ext_at hh [(6, []), (8, [])] (by kernel_rfl)
 have hbt := Stam.but_at hh [] [(6, []), (8, [])] (by kernel_rfl)
 clear hd hh
 go_simp
 go_at_call 50; refine (state52 w1 g s pk (hr5.later hxe) hp5 hsz i (by omega)).mono ?_; rintro e w2 hres
 rw [HP4.out] at hres
 obtain ⟨av, rfl, hr4, hoa4, hb4⟩ := hres
 obtain ⟨A4, c4, hv4, _⟩ := row_form hoa4
 subst hv4
 exact Z.out _ rfl _ _ (hb4.mono (fun k _ h => .inl ⟨rfl, h⟩)) ⟨_, _, _, rfl, hr4, hoa4, hxe.size⟩)
 refine Stam.todo_op (k := 5) (n := 52) (Q5 g s j st wr.heap.size) hf.size hok.out rfl (Q5.stable _ _ _ _ _) (by kernel_rfl) ?_ ?_
 · (
 intro fr1 w1 hh hd hk K Z
 refine Stab.pl ?_
 obtain ⟨x28, s28, hp28⟩ := Stam.use (j := 4) (m := 0) hd hk rfl [] (by kernel_rfl) [(6, true, []), (8, true, [])] (by kernel_rfl) rfl rfl rfl
 obtain ⟨A4, c4, B4, rfl, hr28, hoa28, hB28⟩ := hp28
 have hbt := Stam.but_at hh [4] [(6, []), (8, [])] (by kernel_rfl)
 clear hd hh
 go_simp
 exact Z.out _ rfl _ _ ((Below.refl _ _).alloc (Nat.le_refl _) _) ⟨A4, c4, B4, ⟨_, rfl, lit_new _ _ _⟩, hr28.later ((Below.refl _ _).alloc (Nat.le_refl _) _), own_later hoa28 ((Below.refl _ _).alloc (Nat.le_refl _) _), hB28⟩)
 refine Stam.todo_sp (k := 6) (n := 52) (Q6 w.heap.size g s j l st) hf.size hok.out rfl (Q6.stable _ _ _ _ _ _) (by kernel_rfl) ?_ ?_
 · (
 intro fr1 w1 hh hd hk K Z
 refine Stab.pl ?_
 have s25 := Stam.v 1 4 hd hk []
 obtain ⟨x29, s29, hp29⟩ := Stam.use (j := 5) (m := 0) hd hk rfl [] (by kernel_rfl) [(4, false, []), (8, true, [])] (by kernel_rfl) rfl rfl rfl
 obtain ⟨A4, c4, B4, ⟨b29, rfl, hc29⟩, hr29, hoa29, hB29⟩ := hp29
 have hbt := Stam.but_at hh [4] [(8, [])] (by kernel_rfl)
 clear hd hh
 have h6 := (hbt (fun k => k = g) (fun m hm b h => by simp at hm; subst hm; rcases h with h | h | h; exact h.2; (have := h.1; omega); (have := h.1; omega)))
 have hsr6 := hsr.but h6 (fun k hk e => by have e : k = g := e; have := (hsvN k hk).1; omega) (fun k hk e => by have e : k = g := e; have := (hC k hk).1; omega)
 refine wp_app _ _ 30 rfl 58 _ 3 40 Tryz.underlying30 info_state rfl (by decide) (by decide) w.heap.size sv l.length _ (Fact.eval_tmp s25) hsr6.row b29 [.slice A4 st.arcs.length c4, .bool st.final, .int .u64 st.out] (Fact.eval_tmp s29) rfl hc29 (by intro u hu; simp at hu; rcases hu with rfl | rfl | rfl <;> rfl) (by have := HLI.out; omega) (by have := hbt5.size; have := h6.size; omega) (fun v3 w3 hr3 hg3 hat3 => ?_)
 exact Z.out _ rfl _ _ (But.grown hg3 (fun k hk => .inr (.inl ⟨rfl, hk⟩))) (Q6.mk hsr6 hsv hC h6.size hB5 hr29 (fun e => by have := (hsvN g e).1; omega) hoa29 hB29 (fun k hk => (hsvN k hk).2) hg3 hr3 hat3))
 apply Stam.tq 7 _ hf hok
 · (
 intro fr1 w1 hh hd hk K Z
 refine Stab.pl ?_
 have s3 := Stam.o hh (by kernel_rfl) s3
 have hbt := Stam.but_at hh [4, 6] [(8, [])] (by kernel_rfl)
 clear hd hh
 go_simp
 exact Stab.k Z)
 refine Stam.todo_sp (k := 8) (n := 52) (fun _ wz => Q8 w.heap.size g s j l st wz) hf.size hok.out rfl (fun _ _ _ hb h => Q8.later hb h) (by kernel_rfl) ?_ ?_
 · (
 intro fr1 w1 hh hd hk K Z
 refine Stab.pl ?_
 have s31 := Stam.v 7 0 hd hk []
 obtain ⟨x30, s30, hp30⟩ := Stam.use (j := 6) (m := 1) hd hk rfl [] (by kernel_rfl) [(4, false, [])] (by kernel_rfl) rfl rfl rfl
 obtain ⟨y30, C2, hsr30, hst30, hr30, hvb30, hC30⟩ := hp30
 have hbt := Stam.but_at hh [4, 6] [] (by kernel_rfl)
 clear hd hh
 have h8 := hbt (fun k => k = g ∨ sv.ownBlock = some k) (fun m hm b h => by simp at hm; rcases h with h | h | h; exact .inl h.2; exact .inr h.2; (have := h.1; omega))
 have hx8 := h8.heap hx5 (fun h => by rcases h with h | h; omega; exact hsv h)
 have e8 : w1.cell? ⟨w.heap.size, 0, none⟩ = some sv := by rw [cell_of_row _ _ 0 _ _ (0, 0) hx8]; rfl
 have fz := frozen_of (i := 0) hx8
 clear hbt h8
 obtain ⟨A9, c9, hv9, _⟩ := hsr30.form
 rw [List.length_append, List.length_cons, List.length_nil, Nat.zero_add] at hv9
 subst hv9
 go_simp
 exact Z.out _ rfl undef _ (But.setCell (.inr (.inr ⟨rfl, rfl⟩)) _) (Q8.mk hx8 (by omega) hsr30 hst30 hr30 hvb30 hC30))
 refine Stam.todo_facts (n := 52) (by kernel_rfl) hf.size hok.out rfl (fun fr1 w1 hh hg => ?_)
 replace s0 := Stam.o hh (by kernel_rfl) s0
 replace s2 := Stam.o hh (by kernel_rfl) s2
 replace s3 := Stam.o hh (by kernel_rfl) s3
 replace s5 := Stam.o hh (by kernel_rfl) s5
 replace s6 := Stam.o hh (by kernel_rfl) s6
 obtain ⟨_, hlast⟩ := Stam.end_fact (j := 8) (m := 0) hg rfl (by decide) [(4, []), (6, [])] (by kernel_rfl) rfl
 have hf1 := hh.fr hf
 have hbt := hh.but
 clear hg hh hf hok s21
 have hf := hf1; clear hf1
 obtain ⟨v6, y6, C6, hx6, hsr6, hst6, hr6, hvb6, hC6⟩ := hlast
 replace hbt := hbt (fun k => k = g ∨ w.heap.size ≤ k) (fun m _ b h => by rcases h with h | h | h; exact .inl h.2; exact .inr (hsvN _ h.2).1; exact .inr (by rw [h.2]; exact Nat.le_refl _))
 have hbt6 : But (fun k => k = g ∨ w.heap.size ≤ k) w _ := hbt5.trans hbt
 have hpa2 : pStates s n 0 p2 [] = pStates s (n - (i + 1)) (i + 1) j ((l ++ [y6]).map Prod.snd) := by rw [HPA.out, HU.out, show n - (i + 1) = u by have := HU.out; omega, List.map_append, List.map_cons, hst6]; simp only [pStates, HP4.out]; rfl
 refine Fact.block_normal ?_
 refine nx (hK17 _ _ ?_)
 refine rg ?_
 have b22 := hf.b 22
 have b23 := hf.b 23
 refine fp fun K Z => ?_
 go_simp
 apply Z.out; clear Z K
 refine fp fun K Z => ?_
 go_simp
 try simp (disch := omega) only [Fact.W]
 apply Z.out; clear Z K
 refine fp fun K Z => ?_
 go_simp
 apply Z.out; clear Z K
 refine Fact.z hf fun fr1 hf1 hT => ?_
 have hKp : _ ∧ _ ∧ _ ∧ _ ∧ _ := ⟨hT 0, hT 2, hT 3, hT 5, hT 6⟩
 simp (decide := true) only [Fact.G, hf.size, reduceIte, s0, s2, s3, s6] at hKp
 replace hf := hf1; clear hT hf1 s0 s2 s3 s5 s6 b22 b23
 obtain ⟨s0, s2, s3, s5, s6⟩ := hKp
 refine Fact.then_normal ?_
 exact ⟨_, by have := HK.out; omega, i + 1, j, v6, l ++ [y6], C6, rfl, by omega, hf, s0, s3, s2, by rw [s5]; rfl, s6, hpa2, hr6, hk4.2.1, by omega, by simp [HLI.out], hx6, hsr6, hvb6, hC6, hbt6⟩))
 · (
 have hpst : pStates s n 0 p2 [] = .ok (l.map Prod.snd, pk) := by rw [HPA.out, show n - i = 0 by have h9 := of_decide_eq_false hq; omega]; rfl
 have HPT := Lib.hid hpst; clear hpst hq
 rcases hpz : pNum s 0 18446744073709551615 pk with bz | ⟨init, p4⟩
 · (
 have HPZ := Lib.hid hpz; clear hpz
 have he : r = .error bz := by rw [← HPS.out]; unfold pAll; simp only [HPM.out, HP2.out, HP3.out, HPT.out, HPZ.out]
 subst he
 refine wp_exit ?_
 refine Fact.then_exit ?_
 refine Fact.then_exit ?_
 refine Fact.block_exit ?_
 refine nx (hK12 _ _ ?_)
 refine Fact.sq fun K18 hK18 => ?_
 refine rg ?_
 have b32 := hf.b 32
 have b33 := hf.b 33
 have b34 := hf.b 34
 refine fp fun K Z => ?_
 go_simp
 apply Z.out; clear Z K
 refine fp fun K Z => ?_
 go_simp
 go_at_call 49; refine (num51' wr g s pk hr5 hp5 hsz 0 18446744073709551615).mono ?_; rintro e wz hres
 rw [HPZ.out] at hres
 obtain ⟨q, rfl, hz2, hz3, hz4⟩ := hres
 try dsimp only
 try dsimp only
 exact pan9 hf.defers (PanG.via hbt5 ⟨q, rfl, hz2, hz3, hz4⟩))
 · (
 have HP5 := Lib.hid hpz; clear hpz
 refine wp_exit ?_
 refine Fact.then_exit ?_
 refine Fact.then_exit ?_
 refine Fact.block_exit ?_
 refine nx (hK12 _ _ ?_)
 refine Fact.sq fun K19 hK19 => ?_
 refine rg ?_
 have b32 := hf.b 32
 have b33 := hf.b 33
 have b34 := hf.b 34
 refine fp fun K Z => ?_
 go_simp
 apply Z.out; clear Z K
 refine fp fun K Z => ?_
 go_simp
 go_at_call 49; refine (num51' wr g s pk hr5 hp5 hsz 0 18446744073709551615).mono ?_; rintro e w9 hres
 rw [HP5.out] at hres
 obtain ⟨rfl, hr9, hb9⟩ := hres
 have hsr9 := hsr.but hb9 (fun k hk e => by have e : k = g := e; have := (World.ownsRow.lt hsr.row k hk).1; omega) (fun k hk e => by have e : k = g := e; have := (hC k hk).1; omega)
 have hx9 := hb9.heap hx5 (by intro e; have e : w.heap.size = g := e; omega)
 have hbt9 : But (fun k => k = g ∨ w.heap.size ≤ k) w w9 := hbt5.trans (hb9.mono (fun k _ h => .inl h))
 clear hb9 hx5 hbt5 hr5
 have e1 : w9.cell? ⟨w.heap.size, 1, none⟩ = some (.int .u64 0) := by rw [cell_of_row _ _ 1 _ _ (0, 0) hx9]; rfl
 have fz := frozen_of (i := 1) hx9
 try dsimp only
 apply Z.out; clear Z K
 iterate 2 (refine fp fun K Z => ?_; go_simp; apply Z.out; clear Z K)
 refine Fact.z hf fun fr1 hf1 hT => ?_
 have hKp : _ ∧ _ ∧ _ := ⟨hT 0, hT 2, hT 3⟩
 simp (decide := true) only [Fact.G, reduceIte, s0, s2, s3] at hKp
 replace hf := hf1; clear hT hf1 s0 s2 s3 s5 s6 s21 b32 b33 b34
 obtain ⟨s0, s2, s3⟩ := hKp
 have hk11 := pNum_ok HP5.out
 obtain ⟨W10, hW10⟩ : ∃ x, w9.setCell ⟨w.heap.size, 1, none⟩ (.int .u64 init) = x := ⟨_, rfl⟩
 try rw [hW10]
 have hbB : But (fun k => k = w.heap.size) w9 W10 := by rw [← hW10]; exact But.setCell (S := fun k => k = w.heap.size) rfl _
 have hx10 : W10.heap[w.heap.size]? = some (.cells #[sv, .int .u64 init] 33 (0, 0)) := by rw [← hW10]; exact (set_block (i := 1) hx9 _).trans (by simp)
 clear hW10
 have hr10 : RD W10 g s p4 := hbB.heap hr9 (by intro e; have e : g = w.heap.size := e; omega)
 have hsr10 := hsr9.but hbB (fun k hk e => hsv (by rw [hk, e])) (fun k hk e => by have := (hC k hk).1; omega)
 have hbt10 : But (fun k => k = g ∨ w.heap.size ≤ k) w W10 := hbt9.trans (hbB.mono (fun k _ h => .inr (by omega)))
 have g0 := hr10.c0; have g1 := hr10.c1
 clear hbB e1 fz
 refine nx (hK19 _ _ ?_)
 refine Fact.sq fun K20 hK20 => ?_
 refine Fact.sq fun K21 hK21 => ?_
 refine Stab.tb 52 fun hok => ?_
 refine Stab.mO 0 s0 hf hok ?_
 apply Stab.tq 1 _ hf hok
 · (
 intro fr1 w1 hh hd hk K Z
 have s35 := Stab.v 0 0 hd hk []
 clear hd
 go_simp
 exact Stab.k Z)
 apply Stab.tq 2 _ hf hok
 · (
 intro fr1 w1 hh hd hk K Z
 have s36 := Stab.v 1 0 hd hk []
 clear hd
 go_simp
 exact Stab.k Z)
 apply Stab.tq 3 _ hf hok
 · (
 intro fr1 w1 hh hd hk K Z
 have s37 := Stab.v 2 0 hd hk []
 clear hd
 replace g0 := cL hh.ext g0
 replace g1 := cL hh.ext g1
 go_simp
 exact Stab.k Z)
 refine Stab.mO 4 s0 hf hok ?_
 apply Stab.tq 5 _ hf hok
 · (
 intro fr1 w1 hh hd hk K Z
 have s39 := Stab.v 4 0 hd hk []
 clear hd
 go_simp
 exact Stab.k Z)
 apply Stab.tq 6 _ hf hok
 · (
 intro fr1 w1 hh hd hk K Z
 have s40 := Stab.v 5 0 hd hk []
 clear hd
 go_simp
 exact Stab.k Z)
 apply Stab.tq 7 _ hf hok
 · (
 intro fr1 w1 hh hd hk K Z
 have s41 := Stab.v 6 0 hd hk []
 clear hd
 replace g0 := cL hh.ext g0
 replace g1 := cL hh.ext g1
 go_simp
 exact Stab.k Z)
 apply Stab.tq 8 _ hf hok
 · (
 intro fr1 w1 hh hd hk K Z
 have s42 := Stab.v 7 0 hd hk []
 clear hd
 replace g0 := cL hh.ext g0
 replace g1 := cL hh.ext g1
 go_simp
 exact Stab.k Z)
 apply Stab.tq 9 _ hf hok
 · (
 intro fr1 w1 hh hd hk K Z
 have s38 := Stab.v 3 5 hd hk []
 have s43 := Stab.v 8 0 hd hk []
 clear hd
 go_simp
 exact Stab.k Z)
 refine Stab.tf hf hok fun fr1 w1 hh hg => ?_
 replace s0 := Stab.O hh s0
 replace s2 := Stab.O hh s2
 replace s3 := Stab.O hh s3
 have s44 := Stab.f 9 0 hg
 have hf1 := hh.fr hf
 have hx := hh.ext
 replace g0 := cL hx g0
 replace g1 := cL hx g1
 clear hg hh hf hok
 have hf := hf1; clear hf1
 have hr12 := hr10.later hx
 have hx12 := (hx.block _ (heap_lt hx10)).trans hx10
 have hsr12 := hsr10.later hx
 have hbt12 : But (fun k => k = g ∨ w.heap.size ≤ k) w w1 := hbt10.trans (But.of _ hx)
 refine nx (hK21 _ _ ?_)
 refine Fact.cond_s s44 (fun hq => ?_) (fun hq => ?_)
 · (
 have hlt4 : p4 < s.size := by have h9 := of_decide_eq_true hq; omega
 have he : r = .error (4, p4) := by rw [← HPS.out]; unfold pAll; simp only [HPM.out, HP2.out, HP3.out, HPT.out, HP5.out]; rw [if_pos hlt4]
 subst he
 refine rg ?_
 have b45 := hf.b 45
 have b46 := hf.b 46
 have b47 := hf.b 47
 have b48 := hf.b 48
 iterate 4 (refine fp fun K Z => ?_; go_simp; apply Z.out; clear Z K)
 refine fp fun K Z => ?_
 go_simp
 go_at_call 31; refine (bad33 w1 4 p4).mono ?_; rintro e wz hpan
 obtain ⟨q, rfl, hz2, hz3, hz4⟩ := hpan
 try dsimp only
 try dsimp only
 exact pan9 hf.defers (PanG.via hbt12 (Pan.g (c := 4) (a := p4) ⟨q, rfl, hz2, hz3, hz4⟩)))
 · (
 have hge4 : ¬ p4 < s.size := by have h9 := of_decide_eq_false hq; omega
 have he : r = .ok (en, init, l.map Prod.snd) := by rw [← HPS.out]; unfold pAll; simp only [HPM.out, HP2.out, HP3.out, HPT.out, HP5.out]; rw [if_neg hge4]
 subst he
 obtain ⟨A, cc, hsv2, _⟩ := hsr12.form
 subst hsv2
 have d0 : w1.cell? ⟨w.heap.size, 0, none⟩ = some (.slice A l.length cc) := by rw [cell_of_row _ _ 0 _ _ (0, 0) hx12]; rfl
 have d1 : w1.cell? ⟨w.heap.size, 1, none⟩ = some (.int .u64 init) := by rw [cell_of_row _ _ 1 _ _ (0, 0) hx12]; rfl
 refine wp_skip ?_
 refine nx (hK20 _ _ ?_)
 refine Fact.sq fun K22 hK22 => ?_
 refine Stab.tb 52 fun hok => ?_
 refine Stab.mvP (k := 0) (j := 2) s2 hf.size hok.out rfl rfl rfl (.inl rfl) [] (by kernel_rfl) (by kernel_rfl) ?_
 apply Stab.tq 1 _ hf hok
 · (
 intro fr1 w1 hh hd hk K Z
 have s3 := Stab.O hh s3
 clear hd
 replace d0 := cL hh.ext d0
 replace d1 := cL hh.ext d1
 go_simp
 exact Stab.k Z)
 refine Stab.mN 2 0 1 hf hok [] ?_
 refine Tail.todo_tail (n := 52) (m := 3) (ws := []) (by kernel_rfl) hf.size hok.out rfl rfl (by kernel_rfl) (fun fr1 w1 hh hg => ?_)
 clear s2; have s2 := Tail.got_is 2 0 hg rfl rfl rfl rfl rfl
 replace s3 := Stab.O hh s3
 have s51 := Tail.got_is 1 1 hg rfl rfl rfl rfl rfl
 have hf1 := hh.fr hf
 have hx := hh.ext
 replace d0 := cL hx d0
 replace d1 := cL hx d1
 clear hg hh hf hok s0 s44
 have hf := hf1; clear hf1
 have hx14 := (hx.block _ (heap_lt hx12)).trans hx12
 have f0 := frozen_of (i := 0) hx14
 have f1 := frozen_of (i := 1) hx14
 refine Tail.seq_op rfl rfl (fun K Z => ?_)
 go_simp
 apply Z.out; clear Z K
 refine Tail.seq_nil rfl ?_
 refine Fact.q hf (by simp only [Fact.G]) rfl fun fr1 hf1 hT => ?_
 have hKp : _ ∧ _ := ⟨hT 2, hT 3⟩
 simp (decide := true) only [Fact.G, reduceIte, s2, s3] at hKp
 replace hf := hf1; clear hT hf1 s2 s3 s51
 obtain ⟨s2, s3⟩ := hKp
 refine nx (hK22 _ _ ?_)
 refine wp_ret ?_
 have hbB := fun W : World => (But.setCell (S := fun k => k = w.heap.size) (w := W) (p := ⟨w.heap.size, 0, none⟩) rfl (.slice A l.length cc)).trans (But.setCell (S := fun k => k = w.heap.size) (p := ⟨w.heap.size, 1, none⟩) rfl (.int .u64 init))
 have hsr14 := (hsr12.later hx).but (hbB _) (fun k hk e => hsv (by rw [hk, e])) (fun k hk e => by have := (hC k hk).1; omega)
 exact ret_tc rfl hf s2 s3 (set_block (set_block hx14 _) _) Tryz.underlying33 rfl (by kernel_rfl) ⟨_, by simp, (fun wz hw => (hsr14.but hw (fun k hk h => by have := (World.ownsRow.lt hsr14.row k hk).1; omega) (fun k hk h => by have := (hC k hk).1; omega)).rs), (hbt12.trans ((But.of _ hx).trans ((hbB _).mono (fun k _ h => .inr (by omega))))).mono (fun k hk h => h.elim id (fun h => by omega))⟩))))))))
end Dw
end Go.Proofs.YtdkbgbdgmihlmaaGreatDoor
