/- cedillaref13: Formed. -/
import Derived.Test.YtdkbgbdgmihlmaaDoorDFew
import Derived.Test.YtdkbgbdgmihlmaaDoorDSame
import Derived.Test.YtdkbgbdgmihlmaaDoorQH
import Derived.Test.YtdkbgbdgmihlmaaDoorTools
namespace Go.Proofs.YtdkbgbdgmihlmaaDoor
open Go.RowKit
set_option linter.unusedSimpArgs false
set_option linter.unusedVariables false
set_option linter.unnecessarySimpa false
namespace Dw

theorem two_boxesH {w W : World} {a b : Array Value} {t : TypeId} (h : (w.alloc (.cells a t)).alloc (.cells b t) = W) : Below w.heap.size w W ∧ W.heap[w.heap.size]? = some (.cells a t (0, 0)) ∧ W.heap[w.heap.size + 1]? = some (.cells b t (0, 0)) := by
  subst h
  refine ⟨((Below.refl _ _).alloc (Nat.le_refl _) _).alloc (by simp) _, ?_, ?_⟩
  · rw [heap_get, if_neg (by simp), heap_get, if_pos rfl]
  · rw [heap_get, if_pos (by simp)]
theorem set2 {w : World} {g : Nat} {x y : Value} {t : TypeId} (h : w.heap[g]? = some (.cells #[x, y] t (0, 0))) (x' y' : Value) : ((w.setCell ⟨g, 0, none⟩ x').setCell ⟨g, 1, none⟩ y').heap[g]? = some (.cells #[x', y'] t (0, 0)) :=
  (set_block (i := 1) (cs := #[x', y]) (t := t) (fr := (0, 0)) ((set_block (i := 0) (cs := #[x, y]) (t := t) (fr := (0, 0)) h x').trans (by simp)) y').trans (by simp)
theorem set3c {w : World} {g : Nat} {x y z : Value} {t : TypeId} (h : w.heap[g]? = some (.cells #[x, y, z] t (0, 0))) (z' : Value) : (w.setCell ⟨g, 2, none⟩ z').heap[g]? = some (.cells #[x, y, z'] t (0, 0)) :=
  (set_block (i := 2) (cs := #[x, y, z]) (t := t) (fr := (0, 0)) h z').trans (by simp)
theorem set3a {w : World} {g : Nat} {x y z : Value} {t : TypeId} (h : w.heap[g]? = some (.cells #[x, y, z] t (0, 0))) (x' : Value) : (w.setCell ⟨g, 0, none⟩ x').heap[g]? = some (.cells #[x', y, z] t (0, 0)) :=
  (set_block (i := 0) (cs := #[x, y, z]) (t := t) (fr := (0, 0)) h x').trans (by simp)
theorem set2a {w : World} {g : Nat} {x y : Value} {t : TypeId} (h : w.heap[g]? = some (.cells #[x, y] t (0, 0))) (x' : Value) : (w.setCell ⟨g, 0, none⟩ x').heap[g]? = some (.cells #[x', y] t (0, 0)) :=
  (set_block (i := 0) (cs := #[x, y]) (t := t) (fr := (0, 0)) h x').trans (by simp)
/-- states don't lie in a block of two cells -/
theorem RS.off {w w' : World} {g : Nat} {sv : Value} {ss : List State} (h : RS w sv ss) (hg : ∀ cs t fr, w.heap[g]? = some (.cells cs t fr) → cs.size ≤ 2) (hb : But (fun k => k = g) w w') : RS w' sv ss := by
  have key : ∀ (b o : Nat) (x y z : Value), w.cell? ⟨b, o, none⟩ = some x → w.cell? ⟨b, o + 1, none⟩ = some y → w.cell? ⟨b, o + 2, none⟩ = some z → b ≠ g := by
    rintro b o x y z _ _ h3 rfl
    unfold World.cell? at h3
    cases ho : w.heap[b]? with
    | none => simp [ho] at h3
    | some ob =>
      cases ob with
      | cells cs t fr =>
        have := hg cs t fr ho
        simp only [ho] at h3
        have := (Array.getElem?_eq_some_iff.1 h3).1
        omega
      | _ => simp [ho] at h3
  obtain ⟨A, c, h1, h2, h3⟩ := h
  refine ⟨A, c, h1, h2, fun h0 => ?_⟩
  obtain ⟨b, off, h4, h5⟩ := h3 h0
  refine ⟨b, off, h4, fun i s hi => ?_⟩
  obtain ⟨av, h6⟩ := h5 i s hi
  have hbg := key _ _ _ _ _ h6.c0 h6.c1 h6.c2
  refine ⟨av, hb.cell h6.c0 hbg, hb.cell h6.c1 hbg, hb.cell h6.c2 hbg, ?_⟩
  obtain ⟨A', c', k1, k2, k3⟩ := h6.arcs
  refine ⟨A', c', k1, k2, fun k0 => ?_⟩
  obtain ⟨b', off', k4, k5, k6⟩ := k3 k0
  have hl : 2 < (acs s.arcs).length := by rw [acs_length]; omega
  have hbg' : b' ≠ g := key b' off' _ _ _ (k6 0 _ (List.getElem?_eq_getElem (by omega))) (k6 1 _ (List.getElem?_eq_getElem (by omega))) (k6 2 _ (List.getElem?_eq_getElem hl))
  exact ⟨b', off', k4, trivial, fun j u hu => hb.cell (k6 j u hu) hbg'⟩
def toF (i : Nat) (t : Int) : Int := (t % 4294967296) % (i : Int)
def arcsF (i : Nat) (l : List Arc) : List Arc := l.map fun a => ⟨a.byte, a.out, toF i a.to⟩
def formS (i : Nat) (s : State) : State := ⟨s.final, if s.final then s.out else 0, if i = 0 then [] else arcsF i s.arcs⟩
def formL : Nat → List State → List State
  | _, [] => []
  | i, s :: l => formS i s :: formL (i + 1) l
/-- what is made of any states, so that it may be laid -/
def formedF (ss : List State) : List State := if ((ss.take 12).map cut6).length = 0 then [⟨false, 0, []⟩] else formL 0 ((ss.take 12).map cut6)
theorem formL_append : ∀ (a b : List State) (i : Nat), formL i (a ++ b) = formL i a ++ formL (i + a.length) b
  | [], b, i => by simp [formL]
  | x :: a, b, i => by simp only [List.cons_append, formL, List.length_cons]; rw [formL_append a b (i + 1), show i + 1 + a.length = i + (a.length + 1) by omega]
theorem formL_take {l : List State} {i : Nat} {s : State} (h : l[i]? = some s) : formL 0 (l.take (i + 1)) = formL 0 (l.take i) ++ [formS i s] := by
  have hl := (List.getElem?_eq_some_iff.1 h).1
  rw [List.take_add_one, h, formL_append]
  simp only [Option.toList, formL, Nat.zero_add, List.length_take]
  rw [Nat.min_eq_left (by omega)]
theorem formL_length : ∀ (l : List State) (i : Nat), (formL i l).length = l.length
  | [], _ => rfl
  | x :: l, i => by simp [formL, formL_length l]
theorem cut6_le {ss fs : List State} (h : (ss.take 12).map cut6 = fs) {s : State} (hs : s ∈ fs) : s.arcs.length ≤ 6 := by
  rw [← h] at hs
  obtain ⟨x, _, rfl⟩ := List.mem_map.1 hs
  simp [cut6]
  omega
theorem fs_le {ss fs : List State} (h : (ss.take 12).map cut6 = fs) : fs.length ≤ 12 := by
  rw [← h]
  simp
  omega
theorem toF_run (i : Nat) (t : Int) : (IntKind.i64.wrap (IntKind.u32.wrap t)).tmod (i : Int) = toF i t := by
  rw [Go.IntKind.wrap_u32', Fact.wrap_i64 (by omega) (by omega), Int.tmod_eq_emod_of_nonneg (by omega)]
  rfl
theorem SR.app {w1 w3 : World} {base B4 : Nat} {C : Nat → Prop} {V v3 NV : Value} {l : List (Value × State)} {st : State} (hsr : SR w1 base C V l) (hoa : OA w1 B4 NV st.arcs) (hnv : ∀ k, NV.ownBlock = some k → V.ownBlock ≠ some k) (hCV : ∀ k, C k → V.ownBlock ≠ some k) (hg : w1.grownBy w3 V.ownBlock) (hr : w3.ownsRow base 64 3 v3 (l.length + 1) (scs l ++ [NV, .bool st.final, .int .u64 st.out])) : SR w3 base (fun k => C k ∨ NV.ownBlock = some k) v3 (l ++ [(NV, st)]) := by
  have hbg : But (fun k => V.ownBlock = some k) w1 w3 := But.grown hg (fun k hk => hk)
  refine ⟨by rw [List.length_append, scs_append]; exact hr, fun x hx => ?_⟩
  rcases List.mem_append.1 hx with hx | hx
  · exact ((hsr.arcs x hx).but hbg (fun k hk h => hCV k hk h)).more (fun k _ hk => .inl hk)
  · simp at hx
    subst hx
    exact ((hoa.ra (B := fun k => NV.ownBlock = some k) (fun k hk => hk)).but hbg (fun k hk h => hnv k hk h)).more (fun k _ hk => .inr hk)
theorem arcsF_take {i j : Nat} {l : List Arc} {a : Arc} (h : l[j]? = some a) : arcsF i (l.take (j + 1)) = arcsF i (l.take j) ++ [⟨a.byte, a.out, toF i a.to⟩] := by
  rw [List.take_add_one, h]
  simp [arcsF]
theorem formS_all {i j : Nat} {s : State} (h : j = s.arcs.length) (h0 : i = 0 → j = 0) : arcsF i (s.arcs.take j) = (formS i s).arcs := by
  unfold formS
  simp only
  split
  · rw [h0 (by assumption)]; rfl
  · rw [h, List.take_length]
theorem formS_zero {i j : Nat} {s : State} (h : i = 0) (hj : j = 0) : arcsF i (s.arcs.take j) = (formS i s).arcs := by
  unfold formS
  simp only
  rw [if_pos h, hj]
  rfl
set_option maxHeartbeats 4000000 in
set_option maxRecDepth 100000 in
theorem formed9 (w : World) (sv : Value) (init : Nat) (ss : List State) (hrs : RS w sv ss) : Calls Tryd.prog 9 #[.agg #[sv, .int .u64 init]] w fun e w1 => ∃ sv1, e = .returned (.agg #[sv1, .int .u64 init]) ∧ RS w1 sv1 (formedF ss) ∧ Below w.heap.size w w1 := by
 refine calls_of_wp Tryd.func9 rfl ?_
 refine Fact.en 87 fun fr hf hT => ?_
 have s0 := hT 0 _ rfl
 clear hT
 obtain ⟨A, cc, rfl, hcc⟩ := hrs.form
 refine Fact.sq fun K1 hK1 => ?_
 refine rg ?_
 refine fp fun K Z => ?_
 go_simp
 apply Z.out; clear Z K
 refine fp fun K Z => ?_
 go_simp
 apply Z.out; clear Z K
 refine Fact.z hf fun fr1 hf1 hT => ?_
 have hKp : _ ∧ _ := ⟨hT 1, hT 2⟩
 simp (decide := true) only [Fact.G, hf.size, reduceIte] at hKp
 replace hf := hf1; clear hT hf1 s0
 obtain ⟨s1, s2⟩ := hKp
 obtain ⟨W0, hW0⟩ : ∃ x, (w.alloc (.cells #[.slice A ss.length cc, .int .u64 init] 25)).alloc (.cells #[.slice none 0 0, .int .u64 0] 25) = x := ⟨_, rfl⟩
 try simp only [World.size_alloc] at s1 s2
 try rw [hW0]
 obtain ⟨hb0, hp0, hp1⟩ := two_boxesH hW0
 clear hW0
 have hrs0 := hrs.later hb0
 have x0 := cell_of_row _ _ 0 _ 25 (0, 0) hp0; have x1 := cell_of_row _ _ 1 _ 25 (0, 0) hp0
 simp at x0 x1
 refine nx (hK1 _ _ ?_)
 refine Fact.sq fun K2 hK2 => ?_
 refine rg ?_
 have b8 := hf.b 8
 have b9 := hf.b 9
 refine fp fun K Z => ?_
 go_simp
 apply Z.out; clear Z K
 refine fp fun K Z => ?_
 go_simp
 go_at_call 20; refine (few20 W0 _ init ss hrs0).mono ?_; rintro e w1 ⟨sv1, rfl, hr1, hb1⟩
 obtain ⟨fs, hfs⟩ : ∃ x, (ss.take 12).map cut6 = x := ⟨_, rfl⟩
 rw [hfs] at hr1
 have HFS := Lib.hid hfs; clear hfs
 obtain ⟨A1, c1, rfl, hc1⟩ := hr1.form
 have hq0 := (hb1.block _ (heap_lt hp0)).trans hp0; have hq1 := (hb1.block _ (heap_lt hp1)).trans hp1
 clear hp0 hp1 x0 x1 hrs0
 have hb01 := hb0.trans (hb1.mono hb0.size)
 clear hb0 hb1
 have x0 := cell_of_row _ _ 0 _ 25 (0, 0) hq0; have x1 := cell_of_row _ _ 1 _ 25 (0, 0) hq0; have fz := frozen_of (i := 0) hq0; have fz1 := frozen_of (i := 1) hq0
 simp at x0 x1
 try dsimp only
 apply Z.out; clear Z K
 refine fp fun K Z => ?_
 go_simp
 apply Z.out; clear Z K
 refine Fact.z hf fun fr1 hf1 hT => ?_
 have hKp : _ ∧ _ := ⟨hT 1, hT 2⟩
 simp (decide := true) only [Fact.G, reduceIte, s1, s2] at hKp
 replace hf := hf1; clear hT hf1 s1 s2 b8 b9
 obtain ⟨s1, s2⟩ := hKp
 have hbw : But (fun k => k = w.heap.size) w1 ((w1.setCell ⟨w.heap.size, 0, none⟩ (.slice A1 fs.length c1)).setCell ⟨w.heap.size, 1, none⟩ (.int .u64 init)) := (But.setCell (S := fun k => k = w.heap.size) (p := ⟨w.heap.size, 0, none⟩) rfl _).trans (But.setCell (S := fun k => k = w.heap.size) (p := ⟨w.heap.size, 1, none⟩) rfl _)
 have hz0 := set2 hq0 (.slice A1 fs.length c1) (.int .u64 init)
 have hz1 := hbw.heap hq1 (by omega)
 have hr2 := hr1.off (fun cs t fr h => by rw [hq0] at h; injection h with h; injection h with h; rw [← h]; simp) hbw
 have hb02 := hb01.setCell (p := ⟨w.heap.size, 0, none⟩) (Nat.le_refl _) (.slice A1 fs.length c1) |>.setCell (p := ⟨w.heap.size, 1, none⟩) (Nat.le_refl _) (.int .u64 init)
 obtain ⟨W2, hW2⟩ : ∃ x, (w1.setCell ⟨w.heap.size, 0, none⟩ (.slice A1 fs.length c1)).setCell ⟨w.heap.size, 1, none⟩ (.int .u64 init) = x := ⟨_, rfl⟩
 rw [hW2] at hbw hz0 hz1 hr2 hb02
 try rw [hW2]
 clear hW2 hbw hq0 hq1 hr1 hb01 fz fz1 x0 x1
 have x0 := cell_of_row _ _ 0 _ 25 (0, 0) hz0; have x1 := cell_of_row _ _ 1 _ 25 (0, 0) hz0
 simp at x0 x1
 have hrn := hr2.n
 clear hr2
 refine nx (hK2 _ _ ?_)
 refine Fact.sq fun K3 hK3 => ?_
 refine rg ?_
 have b10 := hf.b 10
 have b11 := hf.b 11
 have b12 := hf.b 12
 have b3 := hf.b 3
 refine fp fun K Z => ?_
 go_simp
 apply Z.out; clear Z K
 refine fp fun K Z => ?_
 go_simp
 apply Z.out; clear Z K
 refine fp fun K Z => ?_
 go_simp
 apply Z.out; clear Z K
 refine fp fun K Z => ?_
 go_simp
 apply Z.out; clear Z K
 refine fp fun K Z => ?_
 go_simp
 apply Z.out; clear Z K
 refine Fact.z hf fun fr1 hf1 hT => ?_
 have hKp : _ ∧ _ ∧ _ := ⟨hT 1, hT 2, hT 3⟩
 simp (decide := true) only [Fact.G, hf.size, reduceIte, s1, s2] at hKp
 replace hf := hf1; clear hT hf1 s1 s2 b10 b11 b12 b3
 obtain ⟨s1, s2, s3⟩ := hKp
 obtain ⟨g, hg⟩ : ∃ x, W2.heap.size = x := ⟨_, rfl⟩
 obtain ⟨W3, hW3⟩ : ∃ x, W2.alloc (.cells #[.slice none 0 0, .int .u64 init] 25) = x := ⟨_, rfl⟩
 try rw [hW3]
 obtain ⟨hb3, -, -, hp3, -⟩ := box2 hW3
 clear hW3
 rw [hg] at hrn hb3 hp3
 try rw [hg] at s3
 have hwg : w.heap.size + 1 < g := by rw [← hg]; exact heap_lt hz1
 have HG := Lib.hid hg; clear hg
 refine nx (hK3 _ _ ?_)
 refine Fact.sq fun K4 hK4 => ?_
 refine Fact.sq fun K5 hK5 => ?_
 refine rg ?_
 refine fp fun K Z => ?_
 go_simp
 apply Z.out; clear Z K
 refine Fact.z hf fun fr1 hf1 hT => ?_
 have hKp : _ ∧ _ ∧ _ ∧ _ := ⟨hT 1, hT 2, hT 3, hT 4⟩
 simp (decide := true) only [Fact.G, hf.size, reduceIte, s1, s2, s3] at hKp
 replace hf := hf1; clear hT hf1 s1 s2 s3
 obtain ⟨s1, s2, s3, s4⟩ := hKp
 refine nx (hK5 _ _ ?_)
 refine wp_block ?_
 refine wp_loop_ghost (fun gk fr wr => ∃ (i : Nat) (V : Value) (l : List (Value × State)) (C : Nat → Prop), gk = fs.length - i ∧ i ≤ fs.length ∧ Fact.Fr 87 fr ∧ fr.tmps[1]? = some (.pointer (some ⟨w.heap.size, 0, none⟩)) ∧ fr.tmps[2]? = some (.pointer (some ⟨w.heap.size + 1, 0, none⟩)) ∧ fr.tmps[3]? = some (.pointer (some ⟨g, 0, none⟩)) ∧ fr.tmps[4]? = some (.int .i64 i) ∧ SR wr g C V l ∧ l.map Prod.snd = formL 0 (fs.take i) ∧ (∀ k, V.ownBlock = some k → g < k) ∧ (∀ k, C k → g < k ∧ k < wr.heap.size ∧ V.ownBlock ≠ some k) ∧ wr.heap[g]? = some (.cells #[V, .int .u64 init] 25 (0, 0)) ∧ Below g W2 wr) (fs.length) ?_ ?_
 · (
 exact ⟨0, _, [], fun _ => False, rfl, Nat.zero_le _, hf, s1, s2, s3, s4, SR.nil_ _ _ _, rfl, (fun k h => by cases h), (fun k h => h.elim), hp3, hb3⟩)
 · (
 clear hf s1 s2 s3 s4
 rintro gk fr wr ⟨i, V, l, C, hk, hi, hf, s1, s2, s3, s4, hsr, hl, hvb, hC, hpg, hb⟩
 have HK := Lib.hid hk; have HL := Lib.hid hl; have HVB := Lib.hid hvb; have HC := Lib.hid hC; clear hk hl hvb hC
 have z0 := (hb.cell (p := ⟨w.heap.size, 0, none⟩) (by simp only; omega)).trans x0
 refine Fact.sq fun K6 hK6 => ?_
 refine Fact.sq fun K7 hK7 => ?_
 refine rg ?_
 have b13 := hf.b 13
 have b14 := hf.b 14
 have b15 := hf.b 15
 have b16 := hf.b 16
 refine fp fun K Z => ?_
 go_simp
 apply Z.out; clear Z K
 refine fp fun K Z => ?_
 go_simp
 apply Z.out; clear Z K
 refine fp fun K Z => ?_
 go_simp
 apply Z.out; clear Z K
 refine fp fun K Z => ?_
 go_simp
 apply Z.out; clear Z K
 refine fp fun K Z => ?_
 go_simp
 apply Z.out; clear Z K
 refine Fact.z hf fun fr1 hf1 hT => ?_
 have hKp : _ ∧ _ ∧ _ ∧ _ ∧ _ := ⟨hT 1, hT 2, hT 3, hT 4, hT 17⟩
 simp (decide := true) only [Fact.G, hf.size, reduceIte, s1, s2, s3, s4] at hKp
 replace hf := hf1; clear hT hf1 s1 s2 s3 s4 b13 b14 b15 b16
 obtain ⟨s1, s2, s3, s4, s17⟩ := hKp
 refine nx (hK7 _ _ ?_)
 refine Fact.cond_s s17 (fun hq => ?_) (fun hq => ?_)
 · (
 have hlt : i < fs.length := by have h9 := of_decide_eq_true hq; omega
 clear hq
 obtain ⟨s, his⟩ : ∃ s, fs[i]? = some s := ⟨_, List.getElem?_eq_getElem hlt⟩
 obtain ⟨b, off, av, hAb, hbg, hat⟩ := (hrn.below hb).at_ his
 subst hAb
 have d0 := hat.c0; have d1 := hat.c1; have d2 := hat.c2
 have hraG := hat.arcs
 obtain ⟨A2, c2, rfl, hc2⟩ := hraG.form
 clear hat
 have hst := formL_take his
 have HST := Lib.hid hst; have HIS := Lib.hid his; clear hst his
 obtain ⟨gs, hgs⟩ : ∃ x, wr.heap.size = x := ⟨_, rfl⟩
 have hggs : g < gs := by rw [← hgs]; exact heap_lt hpg
 obtain ⟨of, hof⟩ : ∃ x, (if s.final then s.out else 0) = x := ⟨_, rfl⟩
 have HOF := Lib.hid hof; clear hof
 refine wp_skip ?_
 refine nx (hK6 _ _ ?_)
 refine Fact.sq fun K8 hK8 => ?_
 refine wp_block ?_
 refine Fact.sq fun K9 hK9 => ?_
 refine rg ?_
 have b20 := hf.b 20
 have b21 := hf.b 21
 have b22 := hf.b 22
 have b23 := hf.b 23
 have b24 := hf.b 24
 have b25 := hf.b 25
 have b26 := hf.b 26
 have b5 := hf.b 5
 refine fp fun K Z => ?_
 go_simp
 apply Z.out; clear Z K
 refine fp fun K Z => ?_
 go_simp
 apply Z.out; clear Z K
 refine fp fun K Z => ?_
 go_simp
 apply Z.out; clear Z K
 refine fp fun K Z => ?_
 go_simp
 try rw [if_pos (by omega)]
 apply Z.out; clear Z K
 refine fp fun K Z => ?_
 go_simp
 apply Z.out; clear Z K
 refine fp fun K Z => ?_
 go_simp
 apply Z.out; clear Z K
 refine fp fun K Z => ?_
 go_simp
 apply Z.out; clear Z K
 refine fp fun K Z => ?_
 go_simp
 apply Z.out; clear Z K
 refine fp fun K Z => ?_
 go_simp
 apply Z.out; clear Z K
 refine Fact.z hf fun fr1 hf1 hT => ?_
 have hKp : _ ∧ _ ∧ _ ∧ _ ∧ _ := ⟨hT 1, hT 2, hT 3, hT 4, hT 5⟩
 simp (decide := true) only [Fact.G, hf.size, reduceIte, s1, s2, s3, s4] at hKp
 replace hf := hf1; clear hT hf1 s1 s2 s3 s4 s17 b20 b21 b22 b23 b24 b25 b26 b5
 obtain ⟨s1, s2, s3, s4, s5⟩ := hKp
 obtain ⟨W6, hW6⟩ : ∃ x, wr.alloc (.cells #[.slice none 0 0, .bool s.final, .int .u64 0] 64) = x := ⟨_, rfl⟩
 try rw [hW6]
 obtain ⟨hb6, y0, y1, y2, hp6, -⟩ := box3 hW6
 clear hW6
 rw [hgs] at hb6 y0 y1 y2 hp6
 try rw [hgs] at s5
 refine nx (hK9 _ _ ?_)
 refine Fact.seq_meet (fun fr wq => Fact.Fr 87 fr ∧ fr.tmps[1]? = some (.pointer (some ⟨w.heap.size, 0, none⟩)) ∧ fr.tmps[2]? = some (.pointer (some ⟨w.heap.size + 1, 0, none⟩)) ∧ fr.tmps[3]? = some (.pointer (some ⟨g, 0, none⟩)) ∧ fr.tmps[4]? = some (.int .i64 i) ∧ fr.tmps[5]? = some (.pointer (some ⟨gs, 0, none⟩)) ∧ wq.heap[gs]? = some (.cells #[.slice none 0 0, .bool s.final, .int .u64 of] 64 (0, 0)) ∧ Below gs wr wq) ?_ ?_
 · (
 rcases hfin : s.final with _ | _
 · (
 have HFI := Lib.hid hfin
 rw [hfin] at y1
 clear hfin
 refine Fact.sq fun K10 hK10 => ?_
 refine rg ?_
 have b27 := hf.b 27
 refine fp fun K Z => ?_
 go_simp
 apply Z.out; clear Z K
 refine fp fun K Z => ?_
 go_simp
 apply Z.out; clear Z K
 refine Fact.z hf fun fr1 hf1 hT => ?_
 have hKp : _ ∧ _ ∧ _ ∧ _ ∧ _ ∧ _ := ⟨hT 1, hT 2, hT 3, hT 4, hT 5, hT 28⟩
 simp (decide := true) only [Fact.G, hf.size, reduceIte, s1, s2, s3, s4, s5] at hKp
 replace hf := hf1; clear hT hf1 s1 s2 s3 s4 s5 b27
 obtain ⟨s1, s2, s3, s4, s5, s28⟩ := hKp
 refine nx (hK10 _ _ ?_)
 refine Fact.cond_f s28 ?_
 refine wp_skip ?_
 refine Fact.then_normal ?_
 exact ⟨hf, s1, s2, s3, s4, s5, by have h9 := hp6; rw [HFI.out] at h9; rw [show of = 0 by rw [← HOF.out, HFI.out]; rfl]; exact h9, hb6⟩)
 · (
 have HFI := Lib.hid hfin
 rw [hfin] at y1
 clear hfin
 have e0 := (hb6.cell (p := ⟨b, off + i * 3 + 2, none⟩) (by simp only; omega)).trans d2
 have e1 := (hb6.cell (p := ⟨w.heap.size, 0, none⟩) (by simp only; omega)).trans z0
 have fz2 := frozen_of (i := 2) hp6
 refine Fact.sq fun K11 hK11 => ?_
 refine rg ?_
 have b27 := hf.b 27
 refine fp fun K Z => ?_
 go_simp
 apply Z.out; clear Z K
 refine fp fun K Z => ?_
 go_simp
 apply Z.out; clear Z K
 refine Fact.z hf fun fr1 hf1 hT => ?_
 have hKp : _ ∧ _ ∧ _ ∧ _ ∧ _ ∧ _ := ⟨hT 1, hT 2, hT 3, hT 4, hT 5, hT 28⟩
 simp (decide := true) only [Fact.G, hf.size, reduceIte, s1, s2, s3, s4, s5] at hKp
 replace hf := hf1; clear hT hf1 s1 s2 s3 s4 s5 b27
 obtain ⟨s1, s2, s3, s4, s5, s28⟩ := hKp
 refine nx (hK11 _ _ ?_)
 refine Fact.cond_t s28 ?_
 refine rg ?_
 have b29 := hf.b 29
 have b30 := hf.b 30
 have b31 := hf.b 31
 have b32 := hf.b 32
 have b33 := hf.b 33
 have b34 := hf.b 34
 have b35 := hf.b 35
 refine fp fun K Z => ?_
 go_simp
 apply Z.out; clear Z K
 refine fp fun K Z => ?_
 go_simp
 apply Z.out; clear Z K
 refine fp fun K Z => ?_
 go_simp
 apply Z.out; clear Z K
 refine fp fun K Z => ?_
 go_simp
 try rw [if_pos (by omega)]
 apply Z.out; clear Z K
 refine fp fun K Z => ?_
 go_simp
 apply Z.out; clear Z K
 refine fp fun K Z => ?_
 go_simp
 apply Z.out; clear Z K
 refine fp fun K Z => ?_
 go_simp
 apply Z.out; clear Z K
 refine fp fun K Z => ?_
 go_simp
 apply Z.out; clear Z K
 refine Fact.z hf fun fr1 hf1 hT => ?_
 have hKp : _ ∧ _ ∧ _ ∧ _ ∧ _ := ⟨hT 1, hT 2, hT 3, hT 4, hT 5⟩
 simp (decide := true) only [Fact.G, reduceIte, s1, s2, s3, s4, s5] at hKp
 replace hf := hf1; clear hT hf1 s1 s2 s3 s4 s5 s28 b29 b30 b31 b32 b33 b34 b35
 obtain ⟨s1, s2, s3, s4, s5⟩ := hKp
 have hp8 := set3c hp6 (.int .u64 s.out)
 have hb8 := hb6.setCell (p := ⟨gs, 2, none⟩) (Nat.le_refl _) (.int .u64 s.out)
 have ho2 : of = s.out := by rw [← HOF.out, HFI.out]; rfl
 have HO2 := Lib.hid ho2; clear ho2
 refine Fact.then_normal ?_
 exact ⟨hf, s1, s2, s3, s4, s5, by have h9 := hp8; rw [HFI.out] at h9; rw [HO2.out]; exact h9, hb8⟩))
 · (
 clear hf s1 s2 s3 s4 s5
 rintro fr wq ⟨hf, s1, s2, s3, s4, s5, hp7, hb7⟩
 refine Fact.sq fun K12 hK12 => ?_
 refine Fact.sq fun K13 hK13 => ?_
 refine rg ?_
 refine fp fun K Z => ?_
 go_simp
 apply Z.out; clear Z K
 refine Fact.z hf fun fr1 hf1 hT => ?_
 have hKp : _ ∧ _ ∧ _ ∧ _ ∧ _ ∧ _ := ⟨hT 1, hT 2, hT 3, hT 4, hT 5, hT 6⟩
 simp (decide := true) only [Fact.G, hf.size, reduceIte, s1, s2, s3, s4, s5] at hKp
 replace hf := hf1; clear hT hf1 s1 s2 s3 s4 s5
 obtain ⟨s1, s2, s3, s4, s5, s6⟩ := hKp
 refine nx (hK13 _ _ ?_)
 refine wp_block ?_
 refine wp_loop_ghost (fun gk2 fr w2 => ∃ (j : Nat) (V2 : Value), gk2 = s.arcs.length - j ∧ j ≤ s.arcs.length ∧ (i = 0 → j = 0) ∧ Fact.Fr 87 fr ∧ fr.tmps[1]? = some (.pointer (some ⟨w.heap.size, 0, none⟩)) ∧ fr.tmps[2]? = some (.pointer (some ⟨w.heap.size + 1, 0, none⟩)) ∧ fr.tmps[3]? = some (.pointer (some ⟨g, 0, none⟩)) ∧ fr.tmps[4]? = some (.int .i64 i) ∧ fr.tmps[5]? = some (.pointer (some ⟨gs, 0, none⟩)) ∧ fr.tmps[6]? = some (.int .i64 j) ∧ OA w2 gs V2 (arcsF i (s.arcs.take j)) ∧ (∀ k, V2.ownBlock = some k → gs < k) ∧ w2.heap[gs]? = some (.cells #[V2, .bool s.final, .int .u64 of] 64 (0, 0)) ∧ Below gs wr w2) (s.arcs.length) ?_ ?_
 · (
 exact ⟨0, _, rfl, Nat.zero_le _, fun _ => rfl, hf, s1, s2, s3, s4, s5, s6, OA.nil_ _ _, (fun k h => by cases h), hp7, hb7⟩)
 · (
 clear hf s1 s2 s3 s4 s5 s6
 rintro gk2 fr w2 ⟨j, V2, hk2, hj, hi0, hf, s1, s2, s3, s4, s5, s6, hoa, hvb2, hp2, hb2⟩
 have HK2 := Lib.hid hk2; have HVB2 := Lib.hid hvb2; have HI0 := Lib.hid hi0; clear hk2 hvb2 hi0
 have e0 := (hb2.cell (p := ⟨b, off + i * 3, none⟩) (by simp only; omega)).trans d0
 have e1 := (hb2.cell (p := ⟨w.heap.size, 0, none⟩) (by simp only; omega)).trans z0
 have hra2 := hraG.but (below_but hb2) (fun k hk h => by omega)
 rcases Nat.lt_or_ge j s.arcs.length with hlj | hge
 · (
 rcases Nat.eq_zero_or_pos i with hi0 | hi0
 · (
 have HI1 := Lib.hid hi0; clear hi0
 have q1 : decide (j < s.arcs.length) = true := decide_eq_true hlj
 have q2 : decide (0 < i) = false := decide_eq_false (by have := HI1.out; omega)
 refine Fact.sq fun K14 hK14 => ?_
 refine Fact.sq fun K15 hK15 => ?_
 refine rg ?_
 have b36 := hf.b 36
 have b37 := hf.b 37
 have b38 := hf.b 38
 have b39 := hf.b 39
 have b40 := hf.b 40
 have b41 := hf.b 41
 have b42 := hf.b 42
 have b43 := hf.b 43
 have b44 := hf.b 44
 have b45 := hf.b 45
 have b46 := hf.b 46
 have b47 := hf.b 47
 refine fp fun K Z => ?_
 go_simp
 apply Z.out; clear Z K
 refine fp fun K Z => ?_
 go_simp
 apply Z.out; clear Z K
 refine fp fun K Z => ?_
 go_simp
 apply Z.out; clear Z K
 refine fp fun K Z => ?_
 go_simp
 apply Z.out; clear Z K
 refine fp fun K Z => ?_
 go_simp
 try rw [if_pos (by omega)]
 apply Z.out; clear Z K
 refine fp fun K Z => ?_
 go_simp
 apply Z.out; clear Z K
 refine fp fun K Z => ?_
 go_simp
 apply Z.out; clear Z K
 refine fp fun K Z => ?_
 go_simp
 apply Z.out; clear Z K
 refine fp fun K Z => ?_
 go_simp
 apply Z.out; clear Z K
 refine fp fun K Z => ?_
 go_simp
 apply Z.out; clear Z K
 refine og 9 45 true ?_ fun K Z => ?_
 · (
 simp (decide := true) only [Fact.G, reduceIte, hf.size, q1, q2])
 go_simp
 apply Z.out; clear Z K
 refine og 9 45 true ?_ fun K Z => ?_
 · (
 simp (decide := true) only [Fact.G, reduceIte, hf.size, q1, q2])
 go_simp
 apply Z.out; clear Z K
 refine fp fun K Z => ?_
 go_simp
 apply Z.out; clear Z K
 refine Fact.z hf fun fr1 hf1 hT => ?_
 have hKp : _ ∧ _ ∧ _ ∧ _ ∧ _ ∧ _ ∧ _ := ⟨hT 1, hT 2, hT 3, hT 4, hT 5, hT 6, hT 48⟩
 simp (decide := true) only [Fact.G, hf.size, reduceIte, s1, s2, s3, s4, s5, s6] at hKp
 replace hf := hf1; clear hT hf1 s1 s2 s3 s4 s5 s6 b36 b37 b38 b39 b40 b41 b42 b43 b44 b45 b46 b47
 obtain ⟨s1, s2, s3, s4, s5, s6, s48⟩ := hKp
 refine nx (hK15 _ _ ?_)
 refine Fact.cond_f s48 ?_
 clear q1 q2
 have hfa : arcsF i (s.arcs.take j) = (formS i s).arcs := formS_zero HI1.out (HI0.out HI1.out)
 rw [hfa] at hoa
 clear hfa
 refine wp_exit ?_
 refine Fact.then_exit ?_
 refine Fact.then_exit ?_
 refine Fact.block_exit ?_
 refine nx (hK12 _ _ ?_)
 have hsr2 := hsr.later (hgs ▸ hb2)
 obtain ⟨Av, cv, hv9, hcv⟩ := hsr2.form
 subst hv9
 have hpg2 := (hb2.block g hggs).trans hpg
 obtain ⟨A3, c3, hv3, hc3⟩ := row_form hoa
 subst hv3
 have g0 := cell_of_row _ _ 0 _ 25 (0, 0) hpg2; have h0 := cell_of_row _ _ 0 _ 64 (0, 0) hp2; have h1 := cell_of_row _ _ 1 _ 64 (0, 0) hp2; have h2 := cell_of_row _ _ 2 _ 64 (0, 0) hp2
 simp at g0 h0 h1 h2
 have hb02b := hb.trans (hb2.mono (by omega))
 have hz2 := hb02b.size
 have hlen : l.length = i := by have := congrArg List.length HL.out; rw [List.length_map, formL_length, List.length_take] at this; omega
 have hl12 : l.length ≤ 12 := by have := fs_le HFS.out; omega
 clear hlen
 have h12 := fs_le HFS.out
 have hgz : W2.heap.size ≤ w2.heap.size := hz2
 have hg2 : g ≤ w2.heap.size := by have := heap_lt hp2; omega
 refine rg ?_
 have b73 := hf.b 73
 have b74 := hf.b 74
 have b75 := hf.b 75
 have b76 := hf.b 76
 have b77 := hf.b 77
 have b78 := hf.b 78
 refine fp fun K Z => ?_
 go_simp
 apply Z.out; clear Z K
 refine fp fun K Z => ?_
 go_simp
 apply Z.out; clear Z K
 refine fp fun K Z => ?_
 go_simp
 apply Z.out; clear Z K
 refine fp fun K Z => ?_
 go_simp
 apply Z.out; clear Z K
 refine Fact.reL (n := 87) (by simp only [Fact.G, hf.size]) hf.defers (fun fr1 hf1 hT => ?_)
 have hKp : _ ∧ _ ∧ _ ∧ _ ∧ _ ∧ _ := ⟨hT 1, hT 2, hT 3, hT 4, hT 74, hT 76⟩
 simp (decide := true) only [Fact.G, hf.size, reduceIte, s1, s2, s3, s4] at hKp
 replace hf := hf1; clear hT hf1 s1 s2 s3 s4 s5 s6 s48 b73 b74 b75 b76 b77 b78
 obtain ⟨s1, s2, s3, s4, s74, s76⟩ := hKp
 have b77 := hf.b 77
 have b78 := hf.b 78
 refine ⟨?_⟩
 refine wpList_plain rfl fun K5 hK5 => ?_
 refine wp_app _ _ 22 rfl 64 _ 3 40 Tryd.underlying22 info_state rfl (by decide) (by decide) g (.slice Av l.length cv) l.length _ (Fact.eval_tmp s74) (hsr2.row.alloc _) w2.heap.size [.slice A3 (formS i s).arcs.length c3, .bool s.final, .int .u64 of] (Fact.eval_tmp s76) rfl (lit_new w2 _ _) (by intro u hu; simp at hu; rcases hu with rfl | rfl | rfl <;> rfl) (by omega) (by simp; omega) (fun v5 w5 hr5 hg5 hat5 => hK5 _ _ ?_)
 refine Fact.L.out ?_
 obtain ⟨A5, c5, hv5, _⟩ := row_form hr5
 subst hv5
 obtain ⟨Wl, hWl⟩ : ∃ x, w2.alloc (.cells #[.slice A3 (formS i s).arcs.length c3, .bool s.final, .int .u64 of] 64) = x := ⟨_, rfl⟩
 have hbl : Below w2.heap.size w2 Wl := by rw [← hWl]; exact (Below.refl _ _).alloc (Nat.le_refl _) _
 have hszl : Wl.heap.size = w2.heap.size + 1 := by rw [← hWl]; simp
 try rw [hWl] at hr5 hg5 hat5
 try simp only [List.toArray] at hg5 hat5
 try rw [hWl] at hg5 hat5
 have hsrl := hsr2.later hbl
 have hoal := own_later hoa hbl
 have hnb : ∀ k, (.slice A3 (formS i s).arcs.length c3 : Value).ownBlock = some k → gs < k ∧ k < w2.heap.size := fun k hk => ⟨HVB2.out k hk, (World.ownsRow.lt hoa k hk).2⟩
 skip
 have hsr5 := hsrl.app (st := formS i s) hoal (fun k hk h => by have h1 := hnb k hk; have h3 := (World.ownsRow.lt hsr.row k h).2; omega) (fun k hk => (HC.out k hk).2.2) hg5 (by rw [show (formS i s).out = of from HOF.out]; exact hr5)
 have hba : But (fun k => (.slice Av l.length cv : Value).ownBlock = some k) w2 w5 := (But.of _ hbl).trans (But.grown hg5 (fun k hk => hk))
 have hpg5 := hba.heap hpg2 (fun h => by have := HVB.out _ h; omega)
 have g1 := cell_of_row _ _ 0 _ 25 (0, 0) hpg5; have fz5 := frozen_of (i := 0) hpg5
 simp at g1
 have hvb5 : ∀ k, (.slice A5 (l.length + 1) c5 : Value).ownBlock = some k → g < k := fun k hk => by rcases hat5 with h | h; (rw [h] at hk; exact HVB.out k hk); (rw [h] at hk; injection hk with hk; omega)
 have hC5 : ∀ k, (C k ∨ (.slice A3 (formS i s).arcs.length c3 : Value).ownBlock = some k) → g < k ∧ k < w5.heap.size ∧ (.slice A5 (l.length + 1) c5 : Value).ownBlock ≠ some k := fun k hk => by
   have hk2 : g < k ∧ k < w2.heap.size ∧ (.slice Av l.length cv : Value).ownBlock ≠ some k := by
     rcases hk with hk | hk
     · exact ⟨(HC.out k hk).1, by have := (HC.out k hk).2.1; have := hb2.size; omega, (HC.out k hk).2.2⟩
     · exact ⟨by have := hnb k hk; omega, (hnb k hk).2, fun h => by have h1 := hnb k hk; have h3 := (World.ownsRow.lt hsr.row k h).2; omega⟩
   refine ⟨hk2.1, by have := hba.size; omega, fun h => ?_⟩
   rcases hat5 with h4 | h4
   · rw [h4] at h; exact hk2.2.2 h
   · rw [h4] at h; injection h with h; omega
 have hb025 := hb02b.trans (hba.below hg2 (fun k hk => by have := HVB.out k hk; omega))
 refine fp fun K Z => ?_
 go_simp
 apply Z.out; clear Z K
 refine fp fun K Z => ?_
 go_simp
 apply Z.out; clear Z K
 refine Fact.z hf fun fr1 hf1 hT => ?_
 have hKp : _ ∧ _ ∧ _ ∧ _ := ⟨hT 1, hT 2, hT 3, hT 4⟩
 simp (decide := true) only [Fact.G, reduceIte, s1, s2, s3, s4] at hKp
 replace hf := hf1; clear hT hf1 s1 s2 s3 s4 s74 s76 b77 b78
 obtain ⟨s1, s2, s3, s4⟩ := hKp
 have hp16 := set2a hpg5 (.slice A5 (l.length + 1) c5)
 have hb026 := hb025.setCell (p := ⟨g, 0, none⟩) (Nat.le_refl _) (.slice A5 (l.length + 1) c5)
 have hsr16 := hsr5.but (But.setCell (S := fun k => k = g) (p := ⟨g, 0, none⟩) rfl (.slice A5 (l.length + 1) c5)) (fun k hk h => by have := hvb5 k hk; omega) (fun k hk h => by have := (hC5 k hk).1; omega)
 refine Fact.block_normal ?_
 refine nx (hK8 _ _ ?_)
 refine rg ?_
 have b18 := hf.b 18
 have b19 := hf.b 19
 refine fp fun K Z => ?_
 go_simp
 apply Z.out; clear Z K
 refine fp fun K Z => ?_
 go_simp
 try simp (disch := omega) only [Fact.W]
 apply Z.out; clear Z K
 refine fp fun K Z => ?_
 go_simp
 apply Z.out; clear Z K
 refine Fact.z hf fun fr1 hf1 hT => ?_
 have hKp : _ ∧ _ ∧ _ ∧ _ := ⟨hT 1, hT 2, hT 3, hT 4⟩
 simp (decide := true) only [Fact.G, hf.size, reduceIte, s1, s2, s3] at hKp
 replace hf := hf1; clear hT hf1 s1 s2 s3 s4 b18 b19
 obtain ⟨s1, s2, s3, s4⟩ := hKp
 refine Fact.then_normal ?_
 exact ⟨_, by have := HK.out; omega, i + 1, _, _, _, rfl, by omega, hf, s1, s2, s3, by rw [s4]; rfl, hsr16, by rw [List.map_append, HL.out, HST.out]; rfl, hvb5, (fun k hk => by have h9 := hC5 k hk; exact ⟨h9.1, by simpa [World.setCell] using h9.2.1, h9.2.2⟩), hp16, hb026⟩)
 · (
 have q1 : decide (j < s.arcs.length) = true := decide_eq_true hlj
 have q2 : decide (0 < i) = true := decide_eq_true (by omega)
 refine Fact.sq fun K16 hK16 => ?_
 refine Fact.sq fun K17 hK17 => ?_
 refine rg ?_
 have b36 := hf.b 36
 have b37 := hf.b 37
 have b38 := hf.b 38
 have b39 := hf.b 39
 have b40 := hf.b 40
 have b41 := hf.b 41
 have b42 := hf.b 42
 have b43 := hf.b 43
 have b44 := hf.b 44
 have b45 := hf.b 45
 have b46 := hf.b 46
 have b47 := hf.b 47
 refine fp fun K Z => ?_
 go_simp
 apply Z.out; clear Z K
 refine fp fun K Z => ?_
 go_simp
 apply Z.out; clear Z K
 refine fp fun K Z => ?_
 go_simp
 apply Z.out; clear Z K
 refine fp fun K Z => ?_
 go_simp
 apply Z.out; clear Z K
 refine fp fun K Z => ?_
 go_simp
 try rw [if_pos (by omega)]
 apply Z.out; clear Z K
 refine fp fun K Z => ?_
 go_simp
 apply Z.out; clear Z K
 refine fp fun K Z => ?_
 go_simp
 apply Z.out; clear Z K
 refine fp fun K Z => ?_
 go_simp
 apply Z.out; clear Z K
 refine fp fun K Z => ?_
 go_simp
 apply Z.out; clear Z K
 refine fp fun K Z => ?_
 go_simp
 apply Z.out; clear Z K
 refine og 9 45 true ?_ fun K Z => ?_
 · (
 simp (decide := true) only [Fact.G, reduceIte, hf.size, q1, q2])
 go_simp
 apply Z.out; clear Z K
 refine og 9 45 true ?_ fun K Z => ?_
 · (
 simp (decide := true) only [Fact.G, reduceIte, hf.size, q1, q2])
 go_simp
 apply Z.out; clear Z K
 refine fp fun K Z => ?_
 go_simp
 apply Z.out; clear Z K
 refine Fact.z hf fun fr1 hf1 hT => ?_
 have hKp : _ ∧ _ ∧ _ ∧ _ ∧ _ ∧ _ ∧ _ := ⟨hT 1, hT 2, hT 3, hT 4, hT 5, hT 6, hT 48⟩
 simp (decide := true) only [Fact.G, hf.size, reduceIte, s1, s2, s3, s4, s5, s6] at hKp
 replace hf := hf1; clear hT hf1 s1 s2 s3 s4 s5 s6 b36 b37 b38 b39 b40 b41 b42 b43 b44 b45 b46 b47
 obtain ⟨s1, s2, s3, s4, s5, s6, s48⟩ := hKp
 refine nx (hK17 _ _ ?_)
 refine Fact.cond_t s48 ?_
 clear q1 q2
 obtain ⟨a, hja⟩ : ∃ a, s.arcs[j]? = some a := ⟨_, List.getElem?_eq_getElem hlj⟩
 obtain ⟨ab, aoff, hA2, hab, k0, k1, k2⟩ := hra2.at' hja
 subst hA2
 have hft := arcsF_take (i := i) hja
 have HFT := Lib.hid hft; clear hft hja
 obtain ⟨ga, hga⟩ : ∃ x, w2.heap.size = x := ⟨_, rfl⟩
 have hgsa : gs < ga := by rw [← hga]; exact heap_lt hp2
 refine wp_skip ?_
 refine nx (hK16 _ _ ?_)
 refine Fact.sq fun K18 hK18 => ?_
 refine wp_block ?_
 refine Fact.sq fun K19 hK19 => ?_
 refine rg ?_
 have b51 := hf.b 51
 have b52 := hf.b 52
 have b53 := hf.b 53
 have b54 := hf.b 54
 have b55 := hf.b 55
 have b56 := hf.b 56
 have b57 := hf.b 57
 have b58 := hf.b 58
 have b59 := hf.b 59
 have b7 := hf.b 7
 refine fp fun K Z => ?_
 go_simp
 apply Z.out; clear Z K
 refine fp fun K Z => ?_
 go_simp
 apply Z.out; clear Z K
 refine fp fun K Z => ?_
 go_simp
 apply Z.out; clear Z K
 refine fp fun K Z => ?_
 go_simp
 try rw [if_pos (by omega)]
 apply Z.out; clear Z K
 refine fp fun K Z => ?_
 go_simp
 apply Z.out; clear Z K
 refine fp fun K Z => ?_
 go_simp
 apply Z.out; clear Z K
 refine fp fun K Z => ?_
 go_simp
 apply Z.out; clear Z K
 refine fp fun K Z => ?_
 go_simp
 try rw [if_pos (by omega)]
 apply Z.out; clear Z K
 refine fp fun K Z => ?_
 go_simp
 apply Z.out; clear Z K
 refine fp fun K Z => ?_
 go_simp
 apply Z.out; clear Z K
 refine fp fun K Z => ?_
 go_simp
 apply Z.out; clear Z K
 refine Fact.z hf fun fr1 hf1 hT => ?_
 have hKp : _ ∧ _ ∧ _ ∧ _ ∧ _ ∧ _ ∧ _ := ⟨hT 1, hT 2, hT 3, hT 4, hT 5, hT 6, hT 7⟩
 simp (decide := true) only [Fact.G, hf.size, reduceIte, s1, s2, s3, s4, s5, s6] at hKp
 replace hf := hf1; clear hT hf1 s1 s2 s3 s4 s5 s6 s48 b51 b52 b53 b54 b55 b56 b57 b58 b59 b7
 obtain ⟨s1, s2, s3, s4, s5, s6, s7⟩ := hKp
 obtain ⟨W12, hW12⟩ : ∃ x, w2.alloc (.cells #[.int .u8 a.byte, .int .u64 a.out, .int .i64 a.to] 66) = x := ⟨_, rfl⟩
 try rw [hW12]
 obtain ⟨hb12, -, -, u2, hp12, -⟩ := box3 hW12
 clear hW12 k0 k1 k2
 rw [hga] at hb12 u2 hp12
 try rw [hga] at s7
 have fz2 := frozen_of (i := 2) hp12
 refine nx (hK19 _ _ ?_)
 refine Fact.sq fun K20 hK20 => ?_
 refine rg ?_
 have b60 := hf.b 60
 have b61 := hf.b 61
 have b62 := hf.b 62
 have b63 := hf.b 63
 have b64 := hf.b 64
 have b65 := hf.b 65
 have b66 := hf.b 66
 refine fp fun K Z => ?_
 go_simp
 apply Z.out; clear Z K
 refine fp fun K Z => ?_
 go_simp
 apply Z.out; clear Z K
 refine fp fun K Z => ?_
 go_simp
 apply Z.out; clear Z K
 refine fp fun K Z => ?_
 go_simp
 apply Z.out; clear Z K
 refine fp fun K Z => ?_
 go_simp
 apply Z.out; clear Z K
 refine fp fun K Z => ?_
 go_simp
 rw [if_neg (show ¬ i = 0 by omega), toF_run]
 rw [Oper.upon_value]
 apply Z.out; clear Z K
 refine fp fun K Z => ?_
 go_simp
 apply Z.out; clear Z K
 refine fp fun K Z => ?_
 go_simp
 apply Z.out; clear Z K
 refine Fact.z hf fun fr1 hf1 hT => ?_
 have hKp : _ ∧ _ ∧ _ ∧ _ ∧ _ ∧ _ ∧ _ := ⟨hT 1, hT 2, hT 3, hT 4, hT 5, hT 6, hT 7⟩
 simp (decide := true) only [Fact.G, reduceIte, s1, s2, s3, s4, s5, s6, s7] at hKp
 replace hf := hf1; clear hT hf1 s1 s2 s3 s4 s5 s6 s7 b60 b61 b62 b63 b64 b65 b66
 obtain ⟨s1, s2, s3, s4, s5, s6, s7⟩ := hKp
 have hp13 := set3c hp12 (.int .i64 (toF i a.to))
 have hb13 := hb12.setCell (p := ⟨ga, 2, none⟩) (Nat.le_refl _) (.int .i64 (toF i a.to))
 obtain ⟨W13, hW13⟩ : ∃ x, W12.setCell ⟨ga, 2, none⟩ (.int .i64 (toF i a.to)) = x := ⟨_, rfl⟩
 rw [hW13] at hp13 hb13
 try rw [hW13]
 clear hW13 hp12 hb12 u2 fz2
 have v0 := cell_of_row _ _ 0 _ 66 (0, 0) hp13; have v1 := cell_of_row _ _ 1 _ 66 (0, 0) hp13; have v2 := cell_of_row _ _ 2 _ 66 (0, 0) hp13
 simp at v0 v1 v2
 rw [← hga] at hb13
 have hoa13 := own_later hoa hb13
 have hp14 := (hb13.block gs (heap_lt hp2)).trans hp2
 obtain ⟨la, hla⟩ : ∃ x, arcsF i (s.arcs.take j) = x := ⟨_, rfl⟩
 have h6 := cut6_le HFS.out (List.mem_of_getElem? HIS.out)
 have hlj2 : la.length ≤ 6 := by rw [← hla]; simp [arcsF]; omega
 rw [hla] at hoa13 HFT
 obtain ⟨A3, c3, hv3, hc3⟩ := row_form hoa13
 subst hv3
 have g0 := cell_of_row _ _ 0 _ 64 (0, 0) hp14
 simp at g0
 have hb013 := hb2.trans (hb13.mono (by omega))
 have HLA := Lib.hid hla; clear hla
 have hz13 := hb013.size
 refine nx (hK20 _ _ ?_)
 refine rg ?_
 have b67 := hf.b 67
 have b68 := hf.b 68
 have b69 := hf.b 69
 have b70 := hf.b 70
 have b71 := hf.b 71
 have b72 := hf.b 72
 refine fp fun K Z => ?_
 go_simp
 apply Z.out; clear Z K
 refine fp fun K Z => ?_
 go_simp
 apply Z.out; clear Z K
 refine fp fun K Z => ?_
 go_simp
 apply Z.out; clear Z K
 refine fp fun K Z => ?_
 go_simp
 apply Z.out; clear Z K
 refine Fact.reL (n := 87) (by simp only [Fact.G, hf.size]) hf.defers (fun fr1 hf1 hT => ?_)
 have hKp : _ ∧ _ ∧ _ ∧ _ ∧ _ ∧ _ ∧ _ ∧ _ := ⟨hT 1, hT 2, hT 3, hT 4, hT 5, hT 6, hT 68, hT 70⟩
 simp (decide := true) only [Fact.G, hf.size, reduceIte, s1, s2, s3, s4, s5, s6] at hKp
 replace hf := hf1; clear hT hf1 s1 s2 s3 s4 s5 s6 s7 b67 b68 b69 b70 b71 b72
 obtain ⟨s1, s2, s3, s4, s5, s6, s68, s70⟩ := hKp
 have b71 := hf.b 71
 have b72 := hf.b 72
 refine ⟨?_⟩
 refine wpList_plain rfl fun K5 hK5 => ?_
 refine wp_app _ _ 62 rfl 66 _ 3 24 Tryd.underlying62 info_arcP rfl (by decide) (by decide) gs (.slice A3 la.length c3) la.length _ (Fact.eval_tmp s68) (hoa13.alloc _) W13.heap.size [.int .u8 a.byte, .int .u64 a.out, .int .i64 (toF i a.to)] (Fact.eval_tmp s70) rfl (lit_new W13 _ _) (by intro u hu; simp at hu; rcases hu with rfl | rfl | rfl <;> rfl) (by omega) (by simp; omega) (fun v5 w5 hr5 hg5 hat5 => hK5 _ _ ?_)
 refine Fact.L.out ?_
 obtain ⟨A5, c5, hv5, _⟩ := row_form hr5
 subst hv5
 have hba : But (fun k => (.slice A3 la.length c3 : Value).ownBlock = some k) W13 w5 := (But.alloc (S := fun k => (.slice A3 la.length c3 : Value).ownBlock = some k) W13 _).trans (But.grown hg5 (fun k hk => hk))
 have hp15 := hba.heap hp14 (fun h => by have := HVB2.out _ h; omega)
 have g1 := cell_of_row _ _ 0 _ 64 (0, 0) hp15; have fz5 := frozen_of (i := 0) hp15
 simp at g1
 have hvb5 : ∀ k, (.slice A5 (la.length + 1) c5 : Value).ownBlock = some k → gs < k := fun k hk => by rcases hat5 with h | h; (rw [h] at hk; exact HVB2.out k hk); (rw [h] at hk; injection hk with hk; simp at hk; omega)
 have hb015 := hb013.trans (hba.below (by have := heap_lt hp14; omega) (fun k hk => by have := HVB2.out k hk; omega))
 refine fp fun K Z => ?_
 go_simp
 apply Z.out; clear Z K
 refine fp fun K Z => ?_
 go_simp
 apply Z.out; clear Z K
 refine Fact.z hf fun fr1 hf1 hT => ?_
 have hKp : _ ∧ _ ∧ _ ∧ _ ∧ _ ∧ _ := ⟨hT 1, hT 2, hT 3, hT 4, hT 5, hT 6⟩
 simp (decide := true) only [Fact.G, reduceIte, s1, s2, s3, s4, s5, s6] at hKp
 replace hf := hf1; clear hT hf1 s1 s2 s3 s4 s5 s6 s68 s70 b71 b72
 obtain ⟨s1, s2, s3, s4, s5, s6⟩ := hKp
 have hp16 := set3a hp15 (.slice A5 (la.length + 1) c5)
 have hb016 := hb015.setCell (p := ⟨gs, 0, none⟩) (Nat.le_refl _) (.slice A5 (la.length + 1) c5)
 have hoa16 : OA (w5.setCell ⟨gs, 0, none⟩ (.slice A5 (la.length + 1) c5)) gs (.slice A5 (la.length + 1) c5) (arcsF i (s.arcs.take (j + 1))) := by rw [HFT.out]; unfold OA; rw [List.length_append, acs_append]; exact own_but hr5 (But.setCell (S := fun k => k = gs) rfl _) (fun k hk h => by have := hvb5 k hk; omega)
 refine Fact.block_normal ?_
 refine nx (hK18 _ _ ?_)
 refine rg ?_
 have b49 := hf.b 49
 have b50 := hf.b 50
 refine fp fun K Z => ?_
 go_simp
 apply Z.out; clear Z K
 refine fp fun K Z => ?_
 go_simp
 try simp (disch := omega) only [Fact.W]
 apply Z.out; clear Z K
 refine fp fun K Z => ?_
 go_simp
 apply Z.out; clear Z K
 refine Fact.z hf fun fr1 hf1 hT => ?_
 have hKp : _ ∧ _ ∧ _ ∧ _ ∧ _ ∧ _ := ⟨hT 1, hT 2, hT 3, hT 4, hT 5, hT 6⟩
 simp (decide := true) only [Fact.G, hf.size, reduceIte, s1, s2, s3, s4, s5] at hKp
 replace hf := hf1; clear hT hf1 s1 s2 s3 s4 s5 s6 b49 b50
 obtain ⟨s1, s2, s3, s4, s5, s6⟩ := hKp
 refine Fact.then_normal ?_
 exact ⟨_, by have := HK2.out; omega, j + 1, _, rfl, by omega, (fun h => absurd h (by omega)), hf, s1, s2, s3, s4, s5, by rw [s6]; rfl, hoa16, hvb5, hp16, hb016⟩))
 · (
 have q1 : decide (j < s.arcs.length) = false := decide_eq_false (by omega)
 refine Fact.sq fun K21 hK21 => ?_
 refine Fact.sq fun K22 hK22 => ?_
 refine rg ?_
 have b36 := hf.b 36
 have b37 := hf.b 37
 have b38 := hf.b 38
 have b39 := hf.b 39
 have b40 := hf.b 40
 have b41 := hf.b 41
 have b42 := hf.b 42
 have b43 := hf.b 43
 have b44 := hf.b 44
 have b45 := hf.b 45
 have b46 := hf.b 46
 have b47 := hf.b 47
 refine fp fun K Z => ?_
 go_simp
 apply Z.out; clear Z K
 refine fp fun K Z => ?_
 go_simp
 apply Z.out; clear Z K
 refine fp fun K Z => ?_
 go_simp
 apply Z.out; clear Z K
 refine fp fun K Z => ?_
 go_simp
 apply Z.out; clear Z K
 refine fp fun K Z => ?_
 go_simp
 try rw [if_pos (by omega)]
 apply Z.out; clear Z K
 refine fp fun K Z => ?_
 go_simp
 apply Z.out; clear Z K
 refine fp fun K Z => ?_
 go_simp
 apply Z.out; clear Z K
 refine fp fun K Z => ?_
 go_simp
 apply Z.out; clear Z K
 refine fp fun K Z => ?_
 go_simp
 apply Z.out; clear Z K
 refine fp fun K Z => ?_
 go_simp
 apply Z.out; clear Z K
 refine sk 9 45 true ?_ ?_
 · (
 simp (decide := true) only [Fact.G, reduceIte, hf.size, q1, Fact.N])
 refine sk 9 45 true ?_ ?_
 · (
 simp (decide := true) only [Fact.G, reduceIte, hf.size, q1, Fact.N])
 refine fp fun K Z => ?_
 go_simp
 apply Z.out; clear Z K
 refine Fact.z hf fun fr1 hf1 hT => ?_
 have hKp : _ ∧ _ ∧ _ ∧ _ ∧ _ ∧ _ ∧ _ := ⟨hT 1, hT 2, hT 3, hT 4, hT 5, hT 6, hT 48⟩
 simp (decide := true) only [Fact.G, hf.size, reduceIte, s1, s2, s3, s4, s5, s6] at hKp
 replace hf := hf1; clear hT hf1 s1 s2 s3 s4 s5 s6 b36 b37 b38 b39 b40 b41 b42 b43 b44 b45 b46 b47
 obtain ⟨s1, s2, s3, s4, s5, s6, s48⟩ := hKp
 refine nx (hK22 _ _ ?_)
 refine Fact.cond_f s48 ?_
 clear q1
 have hfa : arcsF i (s.arcs.take j) = (formS i s).arcs := formS_all (show j = s.arcs.length by omega) HI0.out
 rw [hfa] at hoa
 clear hfa
 refine wp_exit ?_
 refine Fact.then_exit ?_
 refine Fact.then_exit ?_
 refine Fact.block_exit ?_
 refine nx (hK12 _ _ ?_)
 have hsr2 := hsr.later (hgs ▸ hb2)
 obtain ⟨Av, cv, hv9, hcv⟩ := hsr2.form
 subst hv9
 have hpg2 := (hb2.block g hggs).trans hpg
 obtain ⟨A3, c3, hv3, hc3⟩ := row_form hoa
 subst hv3
 have g0 := cell_of_row _ _ 0 _ 25 (0, 0) hpg2; have h0 := cell_of_row _ _ 0 _ 64 (0, 0) hp2; have h1 := cell_of_row _ _ 1 _ 64 (0, 0) hp2; have h2 := cell_of_row _ _ 2 _ 64 (0, 0) hp2
 simp at g0 h0 h1 h2
 have hb02b := hb.trans (hb2.mono (by omega))
 have hz2 := hb02b.size
 have hlen : l.length = i := by have := congrArg List.length HL.out; rw [List.length_map, formL_length, List.length_take] at this; omega
 have hl12 : l.length ≤ 12 := by have := fs_le HFS.out; omega
 clear hlen
 have h12 := fs_le HFS.out
 have hgz : W2.heap.size ≤ w2.heap.size := hz2
 have hg2 : g ≤ w2.heap.size := by have := heap_lt hp2; omega
 refine rg ?_
 have b73 := hf.b 73
 have b74 := hf.b 74
 have b75 := hf.b 75
 have b76 := hf.b 76
 have b77 := hf.b 77
 have b78 := hf.b 78
 refine fp fun K Z => ?_
 go_simp
 apply Z.out; clear Z K
 refine fp fun K Z => ?_
 go_simp
 apply Z.out; clear Z K
 refine fp fun K Z => ?_
 go_simp
 apply Z.out; clear Z K
 refine fp fun K Z => ?_
 go_simp
 apply Z.out; clear Z K
 refine Fact.reL (n := 87) (by simp only [Fact.G, hf.size]) hf.defers (fun fr1 hf1 hT => ?_)
 have hKp : _ ∧ _ ∧ _ ∧ _ ∧ _ ∧ _ := ⟨hT 1, hT 2, hT 3, hT 4, hT 74, hT 76⟩
 simp (decide := true) only [Fact.G, hf.size, reduceIte, s1, s2, s3, s4] at hKp
 replace hf := hf1; clear hT hf1 s1 s2 s3 s4 s5 s6 s48 b73 b74 b75 b76 b77 b78
 obtain ⟨s1, s2, s3, s4, s74, s76⟩ := hKp
 have b77 := hf.b 77
 have b78 := hf.b 78
 refine ⟨?_⟩
 refine wpList_plain rfl fun K5 hK5 => ?_
 refine wp_app _ _ 22 rfl 64 _ 3 40 Tryd.underlying22 info_state rfl (by decide) (by decide) g (.slice Av l.length cv) l.length _ (Fact.eval_tmp s74) (hsr2.row.alloc _) w2.heap.size [.slice A3 (formS i s).arcs.length c3, .bool s.final, .int .u64 of] (Fact.eval_tmp s76) rfl (lit_new w2 _ _) (by intro u hu; simp at hu; rcases hu with rfl | rfl | rfl <;> rfl) (by omega) (by simp; omega) (fun v5 w5 hr5 hg5 hat5 => hK5 _ _ ?_)
 refine Fact.L.out ?_
 obtain ⟨A5, c5, hv5, _⟩ := row_form hr5
 subst hv5
 obtain ⟨Wl, hWl⟩ : ∃ x, w2.alloc (.cells #[.slice A3 (formS i s).arcs.length c3, .bool s.final, .int .u64 of] 64) = x := ⟨_, rfl⟩
 have hbl : Below w2.heap.size w2 Wl := by rw [← hWl]; exact (Below.refl _ _).alloc (Nat.le_refl _) _
 have hszl : Wl.heap.size = w2.heap.size + 1 := by rw [← hWl]; simp
 try rw [hWl] at hr5 hg5 hat5
 try simp only [List.toArray] at hg5 hat5
 try rw [hWl] at hg5 hat5
 have hsrl := hsr2.later hbl
 have hoal := own_later hoa hbl
 have hnb : ∀ k, (.slice A3 (formS i s).arcs.length c3 : Value).ownBlock = some k → gs < k ∧ k < w2.heap.size := fun k hk => ⟨HVB2.out k hk, (World.ownsRow.lt hoa k hk).2⟩
 skip
 have hsr5 := hsrl.app (st := formS i s) hoal (fun k hk h => by have h1 := hnb k hk; have h3 := (World.ownsRow.lt hsr.row k h).2; omega) (fun k hk => (HC.out k hk).2.2) hg5 (by rw [show (formS i s).out = of from HOF.out]; exact hr5)
 have hba : But (fun k => (.slice Av l.length cv : Value).ownBlock = some k) w2 w5 := (But.of _ hbl).trans (But.grown hg5 (fun k hk => hk))
 have hpg5 := hba.heap hpg2 (fun h => by have := HVB.out _ h; omega)
 have g1 := cell_of_row _ _ 0 _ 25 (0, 0) hpg5; have fz5 := frozen_of (i := 0) hpg5
 simp at g1
 have hvb5 : ∀ k, (.slice A5 (l.length + 1) c5 : Value).ownBlock = some k → g < k := fun k hk => by rcases hat5 with h | h; (rw [h] at hk; exact HVB.out k hk); (rw [h] at hk; injection hk with hk; omega)
 have hC5 : ∀ k, (C k ∨ (.slice A3 (formS i s).arcs.length c3 : Value).ownBlock = some k) → g < k ∧ k < w5.heap.size ∧ (.slice A5 (l.length + 1) c5 : Value).ownBlock ≠ some k := fun k hk => by
   have hk2 : g < k ∧ k < w2.heap.size ∧ (.slice Av l.length cv : Value).ownBlock ≠ some k := by
     rcases hk with hk | hk
     · exact ⟨(HC.out k hk).1, by have := (HC.out k hk).2.1; have := hb2.size; omega, (HC.out k hk).2.2⟩
     · exact ⟨by have := hnb k hk; omega, (hnb k hk).2, fun h => by have h1 := hnb k hk; have h3 := (World.ownsRow.lt hsr.row k h).2; omega⟩
   refine ⟨hk2.1, by have := hba.size; omega, fun h => ?_⟩
   rcases hat5 with h4 | h4
   · rw [h4] at h; exact hk2.2.2 h
   · rw [h4] at h; injection h with h; omega
 have hb025 := hb02b.trans (hba.below hg2 (fun k hk => by have := HVB.out k hk; omega))
 refine fp fun K Z => ?_
 go_simp
 apply Z.out; clear Z K
 refine fp fun K Z => ?_
 go_simp
 apply Z.out; clear Z K
 refine Fact.z hf fun fr1 hf1 hT => ?_
 have hKp : _ ∧ _ ∧ _ ∧ _ := ⟨hT 1, hT 2, hT 3, hT 4⟩
 simp (decide := true) only [Fact.G, reduceIte, s1, s2, s3, s4] at hKp
 replace hf := hf1; clear hT hf1 s1 s2 s3 s4 s74 s76 b77 b78
 obtain ⟨s1, s2, s3, s4⟩ := hKp
 have hp16 := set2a hpg5 (.slice A5 (l.length + 1) c5)
 have hb026 := hb025.setCell (p := ⟨g, 0, none⟩) (Nat.le_refl _) (.slice A5 (l.length + 1) c5)
 have hsr16 := hsr5.but (But.setCell (S := fun k => k = g) (p := ⟨g, 0, none⟩) rfl (.slice A5 (l.length + 1) c5)) (fun k hk h => by have := hvb5 k hk; omega) (fun k hk h => by have := (hC5 k hk).1; omega)
 refine Fact.block_normal ?_
 refine nx (hK8 _ _ ?_)
 refine rg ?_
 have b18 := hf.b 18
 have b19 := hf.b 19
 refine fp fun K Z => ?_
 go_simp
 apply Z.out; clear Z K
 refine fp fun K Z => ?_
 go_simp
 try simp (disch := omega) only [Fact.W]
 apply Z.out; clear Z K
 refine fp fun K Z => ?_
 go_simp
 apply Z.out; clear Z K
 refine Fact.z hf fun fr1 hf1 hT => ?_
 have hKp : _ ∧ _ ∧ _ ∧ _ := ⟨hT 1, hT 2, hT 3, hT 4⟩
 simp (decide := true) only [Fact.G, hf.size, reduceIte, s1, s2, s3] at hKp
 replace hf := hf1; clear hT hf1 s1 s2 s3 s4 b18 b19
 obtain ⟨s1, s2, s3, s4⟩ := hKp
 refine Fact.then_normal ?_
 exact ⟨_, by have := HK.out; omega, i + 1, _, _, _, rfl, by omega, hf, s1, s2, s3, by rw [s4]; rfl, hsr16, by rw [List.map_append, HL.out, HST.out]; rfl, hvb5, (fun k hk => by have h9 := hC5 k hk; exact ⟨h9.1, by simpa [World.setCell] using h9.2.1, h9.2.2⟩), hp16, hb026⟩))))
 · (
 have hie : i = fs.length := by have h9 := of_decide_eq_false hq; omega
 clear hq
 have hl2 := HL.out
 rw [hie, List.take_length] at hl2
 clear hie
 have hlen : l.length = fs.length := by have := congrArg List.length hl2; rw [List.length_map, formL_length] at this; exact this
 have HLEN := Lib.hid hlen; clear hlen
 obtain ⟨Av, cv, hv9, hcv⟩ := hsr.form
 subst hv9
 have g0 := cell_of_row _ _ 0 _ 25 (0, 0) hpg; have g1 := cell_of_row _ _ 1 _ 25 (0, 0) hpg
 simp at g0 g1
 have hq1 := (hb.block (w.heap.size + 1) hwg).trans hz1
 have hzb := hb.size
 have hbw2 := hb02.trans (hb.mono (by omega) : Below w.heap.size W2 wr)
 have hgw := heap_lt hpg
 refine wp_exit ?_
 refine Fact.then_exit ?_
 refine Fact.then_exit ?_
 refine Fact.block_exit ?_
 refine nx (hK4 _ _ ?_)
 refine Fact.sq fun K23 hK23 => ?_
 refine Fact.sq fun K24 hK24 => ?_
 refine rg ?_
 have b79 := hf.b 79
 have b80 := hf.b 80
 have b81 := hf.b 81
 refine fp fun K Z => ?_
 go_simp
 apply Z.out; clear Z K
 refine fp fun K Z => ?_
 go_simp
 apply Z.out; clear Z K
 refine fp fun K Z => ?_
 go_simp
 apply Z.out; clear Z K
 refine fp fun K Z => ?_
 go_simp
 apply Z.out; clear Z K
 refine Fact.z hf fun fr1 hf1 hT => ?_
 have hKp : _ ∧ _ ∧ _ := ⟨hT 2, hT 3, hT 82⟩
 simp (decide := true) only [Fact.G, hf.size, reduceIte, s2, s3] at hKp
 replace hf := hf1; clear hT hf1 s1 s2 s3 s4 s17 b79 b80 b81
 obtain ⟨s2, s3, s82⟩ := hKp
 refine nx (hK24 _ _ ?_)
 refine Fact.cond_s s82 (fun hqz => ?_) (fun hqz => ?_)
 · (
 have h0 : l.length = 0 := by have h9 := of_decide_eq_true hqz; omega
 have HZ := Lib.hid h0; clear h0 hqz
 refine rg ?_
 have b83 := hf.b 83
 have b84 := hf.b 84
 have b85 := hf.b 85
 refine fp fun K Z => ?_
 go_simp
 apply Z.out; clear Z K
 refine fp fun K Z => ?_
 go_simp
 obtain ⟨Wl, hWl⟩ : ∃ x, wr.alloc (.cells #[.slice none 0 0, .bool false, .int .u64 0] 64) = x := ⟨_, rfl⟩
 rw [hWl]
 obtain ⟨hbl, hrl⟩ := RS.lit hWl [(.slice none 0 0, ⟨false, 0, []⟩)] rfl (fun x hx => by simp at hx; subst hx; exact RA.nil_)
 clear hWl
 have hpl := (hbl.block g hgw).trans hpg
 have hql := (hbl.block _ (heap_lt hq1)).trans hq1
 have fzg := frozen_of (i := 0) hpl
 have k0 := cell_of_row _ _ 0 _ 25 (0, 0) hpl
 simp at k0
 apply Z.out; clear Z K
 refine fp fun K Z => ?_
 go_simp
 apply Z.out; clear Z K
 refine fp fun K Z => ?_
 go_simp
 apply Z.out; clear Z K
 refine Fact.z hf fun fr1 hf1 hT => ?_
 have hKp : _ ∧ _ := ⟨hT 2, hT 3⟩
 simp (decide := true) only [Fact.G, reduceIte, s2, s3] at hKp
 replace hf := hf1; clear hT hf1 s2 s3 s82 b83 b84 b85
 obtain ⟨s2, s3⟩ := hKp
 have hb17 : But (fun k => k = g) Wl (Wl.setCell ⟨g, 0, none⟩ (.slice (some ⟨wr.heap.size, 0, none⟩) 1 1)) := But.setCell (S := fun k => k = g) rfl _
 have hp17 := set2a hpl (.slice (some ⟨wr.heap.size, 0, none⟩) 1 1)
 have hq17 := hb17.heap hql (by omega)
 have hr17 := hrl.off (fun cs t fr h => by rw [hpl] at h; injection h with h; injection h with h; rw [← h]; simp) hb17
 have hbz := (hbw2.trans (hbl.mono hbw2.size)).setCell (p := ⟨g, 0, none⟩) (by simp only; omega) (.slice (some ⟨wr.heap.size, 0, none⟩) 1 1)
 have m0 := cell_of_row _ _ 0 _ 25 (0, 0) hp17; have m1 := cell_of_row _ _ 1 _ 25 (0, 0) hp17; have n0 := cell_of_row _ _ 0 _ 25 (0, 0) hq17; have n1 := cell_of_row _ _ 1 _ 25 (0, 0) hq17; have fa := frozen_of (i := 0) hq17; have fb := frozen_of (i := 1) hq17
 simp at m0 m1 n0 n1
 refine nx (hK23 _ _ ?_)
 refine Fact.sq fun K25 hK25 => ?_
 refine rg ?_
 have b86 := hf.b 86
 refine fp fun K Z => ?_
 go_simp
 apply Z.out; clear Z K
 refine fp fun K Z => ?_
 go_simp
 apply Z.out; clear Z K
 refine Fact.z hf fun fr1 hf1 hT => ?_
 have hKp := hT 2
 simp (decide := true) only [Fact.G, reduceIte, s2] at hKp
 replace hf := hf1; clear hT hf1 s2 s3 b86
 have s2 := hKp; clear hKp
 refine nx (hK25 _ _ ?_)
 refine wp_ret ?_
 have hqr := hq17
 have hbS : But (fun k => k = w.heap.size + 1) _ _ := (But.setCell (S := fun k => k = w.heap.size + 1) (w := Wl.setCell ⟨g, 0, none⟩ (.slice (some ⟨wr.heap.size, 0, none⟩) 1 1)) (p := ⟨w.heap.size + 1, 0, none⟩) rfl (.slice (some ⟨wr.heap.size, 0, none⟩) 1 1)).trans (But.setCell (S := fun k => k = w.heap.size + 1) (p := ⟨w.heap.size + 1, 1, none⟩) rfl (.int .u64 init))
 have hrsl := hr17.off (fun cs t fr h => by rw [hq17] at h; injection h with h; injection h with h; rw [← h]; simp) hbS
 rw [show ([(.slice none 0 0, (⟨false, 0, []⟩ : State))] : List (Value × State)).map Prod.snd = formedF ss by unfold formedF; rw [HFS.out, if_pos (by have := HZ.out; have := HLEN.out; omega)]; rfl] at hrsl
 exact ret_c rfl hf s2 (set2 hqr (.slice (some ⟨wr.heap.size, 0, none⟩) 1 1) (.int .u64 init)) Tryd.underlying25 rfl (by kernel_rfl) ⟨_, rfl, hrsl, (hbz.setCell (p := ⟨w.heap.size + 1, 0, none⟩) (Nat.le_succ _) _).setCell (p := ⟨w.heap.size + 1, 1, none⟩) (Nat.le_succ _) _⟩)
 · (
 have h0 : ¬ l.length = 0 := by have h9 := of_decide_eq_false hqz; omega
 have HZ := Lib.hid h0; clear h0 hqz
 have n0 := cell_of_row _ _ 0 _ 25 (0, 0) hq1; have n1 := cell_of_row _ _ 1 _ 25 (0, 0) hq1; have fa := frozen_of (i := 0) hq1; have fb := frozen_of (i := 1) hq1
 simp at n0 n1
 refine wp_skip ?_
 refine nx (hK23 _ _ ?_)
 refine Fact.sq fun K26 hK26 => ?_
 refine rg ?_
 have b86 := hf.b 86
 refine fp fun K Z => ?_
 go_simp
 apply Z.out; clear Z K
 refine fp fun K Z => ?_
 go_simp
 apply Z.out; clear Z K
 refine Fact.z hf fun fr1 hf1 hT => ?_
 have hKp := hT 2
 simp (decide := true) only [Fact.G, reduceIte, s2] at hKp
 replace hf := hf1; clear hT hf1 s2 s3 s82 b86
 have s2 := hKp; clear hKp
 refine nx (hK26 _ _ ?_)
 refine wp_ret ?_
 have hqr := hq1
 have hbS : But (fun k => k = w.heap.size + 1) _ _ := (But.setCell (S := fun k => k = w.heap.size + 1) (w := wr) (p := ⟨w.heap.size + 1, 0, none⟩) rfl (.slice Av l.length cv)).trans (But.setCell (S := fun k => k = w.heap.size + 1) (p := ⟨w.heap.size + 1, 1, none⟩) rfl (.int .u64 init))
 have hrsl := (hsr.but hbS (fun k hk h => by have := HVB.out k hk; omega) (fun k hk h => by have := (HC.out k hk).1; omega)).rs
 rw [hl2, show formL 0 fs = formedF ss by unfold formedF; rw [HFS.out, if_neg (by have := HZ.out; have := HLEN.out; omega)]] at hrsl
 exact ret_c rfl hf s2 (set2 hqr (.slice Av l.length cv) (.int .u64 init)) Tryd.underlying25 rfl (by kernel_rfl) ⟨_, rfl, hrsl, (hbw2.setCell (p := ⟨w.heap.size + 1, 0, none⟩) (Nat.le_succ _) _).setCell (p := ⟨w.heap.size + 1, 1, none⟩) (Nat.le_succ _) _⟩)))
end Dw
end Go.Proofs.YtdkbgbdgmihlmaaDoor
