/- Lists with one entry for each word: they rise, and are as they should be. -/
import Derived.Test.YtcddnmhmcieebaaGreatDoorY10
import Derived.Test.YtcddnmhmcieebaaGreatDoorY1
import Derived.Test.YtcddnmhmcieebaaGreatDoorTools
import Derived.Test.YtcddnmhmcieebaaGreatDoorDLawP
import Derived.Test.YtcddnmhmcieebaaGreatDoorY9
import Derived.Laws.BytesArg
import Derived.Lib.BitFns
import Derived.Lib.ItoaNum
import Derived.Deep.WholeRow
import Derived.Laws.IdiomStrings
import Derived.ArgAppend
namespace Go.Proofs.YtcddnmhmcieebaaGreatDoor
set_option maxHeartbeats 4000000
set_option maxRecDepth 100000
set_option linter.unusedSimpArgs false
set_option linter.unusedVariables false
set_option linter.unnecessarySimpa false
namespace Dw
def RiseE (l : List Ent) : Prop := l.Pairwise fun a b => lexlt (wl a.word) (wl b.word) = true
theorem tw_all (l : List Ent) (e : Ent) : ∀ x ∈ twE l e, lexlt (wl x.word) (wl e.word) = true := by
 induction l with
 | nil => intro x hx; cases hx
 | cons y l ih =>
  intro x hx
  unfold twE at hx
  rw [List.takeWhile_cons] at hx
  split at hx
  ·rename_i h
   rcases List.mem_cons.1 hx with rfl | hx
   ·exact h
   ·exact ih x hx
  ·cases hx
theorem one_rise {l : List Ent} (h : RiseE l) (e : Ent) : RiseE (oneE l e) := by
 unfold RiseE oneE
 rw [List.pairwise_append, List.pairwise_append]
 refine ⟨⟨h.sublist (List.takeWhile_sublist _), List.pairwise_singleton _ _, fun a ha b hb => ?_⟩, h.sublist List.filter_sublist, fun a ha b hb => ?_⟩
 ·simp only [List.mem_singleton] at hb
  subst hb
  rw [bareE_word]
  exact tw_all l e a ha
 ·have hb := (List.mem_filter.1 hb).2
  rcases List.mem_append.1 ha with ha | ha
  ·exact lexlt_trans _ _ _ (tw_all l e a ha) hb
  ·simp only [List.mem_singleton] at ha
   subst ha
   rw [bareE_word]
   exact hb
theorem with_rise (es : List Ent) {l : List Ent} (h : RiseE l) : RiseE (withE l es) := by
 induction es generalizing l with
 | nil => exact h
 | cons e es ih => exact ih (one_rise h e)
theorem parts_length {l : List Ent} (h : RiseE l) (e : Ent) : (twE l e).length + (l.filter (gtE e)).length <= l.length := by
 induction l with
 | nil => simp [twE]
 | cons x l ih =>
  have ih := ih (List.pairwise_cons.1 h).2
  unfold twE at ih |-
  simp only [List.takeWhile_cons, List.filter_cons]
  cases h1 : lexlt (wl x.word) (wl e.word) with
  | true =>
   have hg : gtE e x = false := lex_asym _ _ h1
   simp only [hg, Bool.false_eq_true, if_true, if_false, List.length_cons]
   omega
  | false =>
   have h2 := List.length_filter_le (gtE e) l
   simp only [Bool.false_eq_true, if_false, List.length_nil, Nat.zero_add]
   split <;> simp only [List.length_cons] <;> omega
theorem one_length {l : List Ent} (h : RiseE l) (e : Ent) : (oneE l e).length <= l.length + 1 := by
 have := parts_length h e
 unfold oneE
 unfold twE gtE at this
 simp only [List.length_append, List.length_cons, List.length_nil]
 omega
theorem with_length (es : List Ent) {l : List Ent} (h : RiseE l) : (withE l es).length <= l.length + es.length := by
 induction es generalizing l with
 | nil => simp [withE]
 | cons e es ih =>
  have h1 := ih (one_rise h e)
  have h2 := one_length h e
  show (withE (oneE l e) es).length <= _
  simp only [List.length_cons]
  omega
theorem withK_length (es : List Ent) (i : Nat) : (withE [] (es.take i)).length <= es.length := by
 have h1 := with_length (es.take i) (l := []) List.Pairwise.nil
 have h2 : (es.take i).length <= es.length := by simp; omega
 simp only [List.length_nil, Nat.zero_add] at h1
 omega
theorem one_mem {l : List Ent} {e x : Ent} (h : x ∈ oneE l e) : x ∈ l \/ x = bareE e := by
 unfold oneE at h
 rcases List.mem_append.1 h with h | h
 ·rcases List.mem_append.1 h with h | h
  ·exact .inl ((List.takeWhile_sublist _).subset h)
  ·exact .inr (by simpa using h)
 ·exact .inl (List.mem_filter.1 h).1
theorem with_mem (es : List Ent) {l : List Ent} {x : Ent} (h : x ∈ withE l es) : x ∈ l \/ ∃ e ∈ es, x = bareE e := by
 induction es generalizing l with
 | nil => exact .inl h
 | cons e es ih =>
  rcases ih (l := oneE l e) h with h1 | ⟨y, hy, h1⟩
  ·rcases one_mem h1 with h2 | h2
   ·exact .inl h2
   ·exact .inr ⟨e, List.mem_cons_self .., h2⟩
  ·exact .inr ⟨y, List.mem_cons_of_mem _ hy, h1⟩
theorem bareE_bare (e : Ent) : bareE (bareE e) = bareE e := by
 unfold bareE
 cases h : e.gone <;> simp [h]
theorem ents_ok {ds : List Dra} {n : Nat} (h : ∀ d ∈ ds, okD d) : ∀ e ∈ entsOf ds n, okE e /\ okW e.word = true /\ bareE e = e := by
 intro e he
 unfold entsOf at he
 obtain ⟨d, hd, rfl⟩ := List.mem_map.1 he
 exact ⟨ent_okE (h d (List.mem_of_mem_take hd)), ent_okW d, bareE_bare _⟩
theorem ents_length (ds : List Dra) (n : Nat) : (entsOf ds n).length <= n := by unfold entsOf; simp; omega
theorem list_ok {ds : List Dra} {n : Nat} (h : ∀ d ∈ ds, okD d) : (∀ e ∈ listOf ds n, okE e /\ okW e.word = true /\ bareE e = e) /\ RiseE (listOf ds n) /\ (listOf ds n).length <= n := by
 refine ⟨fun e he => ?_, with_rise _ List.Pairwise.nil, ?_⟩
 ·rcases with_mem _ he with h1 | ⟨x, hx, rfl⟩
  ·cases h1
  ·obtain ⟨h2, h3, h4⟩ := ents_ok h x hx
   rw [h4]
   exact ⟨h2, h3, h4⟩
 ·have h1 := with_length (entsOf ds n) (l := []) List.Pairwise.nil
  have h2 := ents_length ds n
  simp only [List.length_nil, Nat.zero_add] at h1
  unfold listOf
  omega
theorem chk_rise : ∀ (l : List Ent) (p : Option (List Nat)), (∀ e ∈ l, okW e.word = true) -> RiseE l -> (∀ q, p = some q -> ∀ e, l.head? = some e -> lexlt q (wl e.word) = true) -> chkL p l = 0
 | [], _, _, _, _ => rfl
 | e :: l, p, hw, hr, hp => by
  have hr := List.pairwise_cons.1 hr
  have ih := chk_rise l (some (wl e.word)) (fun x hx => hw x (List.mem_cons_of_mem _ hx)) hr.2 (fun q hq x hx => by injection hq with hq; subst hq; exact hr.1 x (List.mem_of_mem_head? hx))
  simp only [chkL, hw e (List.mem_cons_self ..), if_true, ih]
  cases p with
  | none => rfl
  | some q => simp only [hp q rfl e rfl, if_true]
open Go.RowKit
theorem with_ (w : World) (es : List Ent) (B : Nat) (v : Value) (hB : B <= w.heap.size) (hre : RE w B v es) (hlen : es.length <= 1000) : Calls Tryz.prog 28 #[.slice none 0 0, v] w fun e w1 => ∃ v1, e = .returned v1 /\ OE w1 w.heap.size v1 (withE [] es) /\ Below w.heap.size w w1 := by
 refine Zn2 22 Tryz.func28 fun fr hf s0 s1 => ?_
 have hre0 := hre.any
 obtain ⟨A, cc, rfl, hcc⟩ := hre.form
 clear hre
 refine Ze fun _ hK1 => Zr [] hf ?_
 refine Zq2 0 1 hf ?_
 clear hf s0 s1; intro fr1 hf sS
 refine Zt hK1 fun _ hK2 => ?_
 have bB := hf.B2 7 8
 refine Zy ?_
 obtain ⟨s0, s1⟩ := sS
 clear bB
 refine Fact.reL (n := 22) (by simp only [Fact.G, hf.size]) hf.defers (fun fr1 hf1 hT => ?_)
 have hKp := Fact.h2 hT 1 7
 simp (decide := true) only [Fact.G, hf.size, reduceIte, s1] at hKp
 replace hf := hf1; clear hT hf1 s0 s1
 obtain ⟨s1, s7⟩ := hKp
 have bB := hf.b 8
 refine ⟨?_⟩
 refine wpList_plain rfl fun K5 hK5 => ?_
 refine wp_apps _ _ 29 rfl 64 _ 3 24 Tryz.underlying29 info_ent rfl (by decide) (by decide) w.heap.size _ 0 [] rfl (World.ownsRow_nil _ _ _ _) none 0 0 [] (Fact.eval_tmp s7) rfl (fun h => absurd h (by simp)) (by simp) (by omega) (Nat.le_refl _) (fun v5 w5 hr5 hg5 hat5 => hK5 _ _ ?_)
 refine Fact.L.out ?_
 refine Zy ?_
 refine Fact.nil (Zq2 1 5 hf ?_)
 clear hf s1 s7 bB; intro fr1 hf sS
 have hb5 : Below w.heap.size w w5 := (Below.refl _ w).grown hg5 (Nat.le_refl _) (fun kk hkk => by cases hkk)
 have how5 : OE w5 w.heap.size v5 [] := hr5
 refine Zs hK2 fun _ hK3 => Ze fun _ hK4 => Zr [] hf ?_
 refine Zq3 1 5 6 hf ?_
 clear hf sS; intro fr1 hf sS
 refine Zx hK4 (wp_block (wp_loop_ghost (fun gk fr wr => ∃ (i : Nat) (V : Value), gk = es.length - i /\ i <= es.length /\ Fact.Fr 22 fr /\ fr.tmps[1]? = some (.slice A es.length cc) /\ fr.tmps[5]? = some V /\ fr.tmps[6]? = some (.int .i64 i) /\ OE wr w.heap.size V (withE [] (es.take i)) /\ Below w.heap.size w wr) (es.length) ?_ ?_))
 . (
 obtain ⟨s1, s5, s6⟩ := sS
 exact ⟨0, v5, rfl, Nat.zero_le _, hf, s1, s5, s6, how5, hb5⟩)
 . (
 clear hf sS
 rintro gk fr wr ⟨i, V, hk, hi, hf, s1, s5, s6, how, hb⟩
 have HK := Lib.hid hk; clear hk
 refine Ze fun _ hK5 => Ze fun _ hK6 => Zr [9, 10, 11] hf ?_
 refine Zq4 1 5 6 12 hf ?_
 clear hf s1 s5 s6; intro fr1 hf sS
 refine Zx hK6 (Fact.cond_s sS.2.2.2 (fun hq => ?_) (fun hq => ?_))
 . (
 have hlt : i < es.length := by have h9 := of_decide_eq_true hq; omega
 have HQ := Lib.hid hq; clear hq
 obtain ⟨q, hiq⟩ : ∃ q, es[i]? = some q := ⟨_, gE1 hlt⟩
 obtain ⟨b, off, rfl, hbB, hbl, d0, d1, d2⟩ := (hre0.below hb).at_ hiq
 have hst : withE [] (es.take (i + 1)) = oneE (withE [] (es.take i)) q := by rw [List.take_add_one, hiq]; simp [withE]
 have HST := Lib.hid hst; clear hst hiq
 obtain ⟨xs, hxs⟩ : ∃ x, withE [] (es.take i) = x := ⟨_, rfl⟩
 rw [hxs] at how
 have hln0 := withK_length es i; rw [hxs] at hln0
 have hln : xs.length <= 100000 := by omega
 have HXS := Lib.hid hxs; clear hxs hln0
 obtain ⟨Av, cv, rfl, hcv⟩ := OE.form (es := xs) how
 have hre1 := OE.re (es := xs) how
 refine wp_skip (Zs hK5 fun _ hK7 => wp_block (rg ?_))
 have bB := hf.B6 15 16 17 18 19 20
 iterate 5 refine Zy ?_
 refine Zc (one wr xs _ _ (Nat.le_refl _) hre1 hln q) ?_; rintro e w2 ⟨v2, rfl, how2, hb2⟩
 refine Zv ?_
 refine Zy ?_
 refine Fact.nil (Zq3 1 5 6 hf ?_)
 clear hf sS bB; intro fr1 hf sS
 refine Fact.block_normal (Zx hK7 (Zr [13, 14] hf ?_))
 refine Zq3 1 5 6 hf ?_
 clear hf sS; intro fr1 hf sS
 refine Fact.then_normal ?_
 obtain ⟨s1, s5, s6⟩ := sS
 exact ⟨_, by have := HK.out; omega, i + 1, v2, rfl, by omega, hf, s1, s5, by rw [s6]; rfl, by rw [HST.out, HXS.out]; exact own_less how2 hb.size, hb.trans (hb2.mono hb.size)⟩)
 . (
 have hke : i = es.length := by have h9 := of_decide_eq_false hq; omega
 rw [hke, List.take_length] at how
 clear hq hke
 refine Zo ?_
 refine Zs hK3 fun _ hK8 => Zr [21] hf ?_
 refine Zq1 4 hf ?_
 clear hf sS; intro fr1 hf s4
 refine Zx hK8 (Zret ?_)
 exact Fact.ret1 rfl hf s4 ⟨_, rfl, how, hb⟩))
theorem list_ (w : World) (ds : List Dra) (most : Nat) (hm : most <= 1000) (v : Value) (hrd : RDs w w.heap.size v ds) (hok : ∀ d ∈ ds, okD d) : Calls Tryz.prog 10 #[v, .int .i64 most] w fun e w1 => ∃ v1, e = .returned v1 /\ OE w1 w.heap.size v1 (listOf ds most) /\ Below w.heap.size w w1 := by
 refine Zn2 9 Tryz.func10 fun fr hf s0 s1 => ?_
 refine Ze fun _ hK1 => Zr [] hf ?_
 refine Zq2 0 1 hf ?_
 clear hf s0 s1; intro fr1 hf sS
 refine Zt hK1 fun _ hK2 => ?_
 have bB := hf.B4 5 6 7 8
 iterate 2 refine Zy ?_
 refine Zc (entries w ds most hm v hrd hok) ?_; rintro e w1 ⟨v1, rfl, how1, hb1⟩
 have hre1 := OE.re how1
 have hl1 : (entsOf ds most).length <= 1000 := by unfold entsOf; simp; omega
 refine Zv ?_
 refine Zc (with_ w1 (entsOf ds most) _ v1 (Nat.le_refl _) hre1 hl1) ?_; rintro e w2 ⟨v2, rfl, how2, hb2⟩
 refine Zv ?_
 refine Zy ?_
 refine Fact.nil (Zq1 4 hf ?_)
 clear hf sS bB; intro fr1 hf s4
 refine Zx hK2 (Zret ?_)
 exact Fact.ret1 rfl hf s4 ⟨_, rfl, own_less how2 hb1.size, hb1.trans (hb2.mono hb1.size)⟩
def shift (b o : Nat) (e : Wv) : Wv := (b :: e.1, o + e.2)
def fin1 (s : State) : List Wv := if s.final then [([], s.out)] else []
def wds (ss : List State) : Nat -> Nat -> List Wv
 | 0, k => match ss[k]? with | none => [] | some s => fin1 s
 | m + 1, k => match ss[k]? with | none => [] | some s => fin1 s ++ s.arcs.flatMap fun a => (wds ss m a.to.toNat).map (shift a.byte a.out)
def lessW (n : Nat) (e : Wv) : Wv := (e.1, e.2 - n)
def rel (l : List Wv) : List Wv := l.map (lessW (leastV l))
theorem finish_get (ss : List State) (s : State) : (finish ss s).1[(finish ss s).2]? = some s := by
 by_cases h : s ∈ ss
 ·obtain ⟨i, h1, h2, h3⟩ := finish_in h
  rw [h3]; exact h1
 ·rw [finish_out h]
  simp
theorem pre_get {ss SS : List State} (h : ss <+: SS) {k : Nat} {s : State} (hk : ss[k]? = some s) : SS[k]? = some s := by
 obtain ⟨r, rfl⟩ := h
 rw [List.getElem?_append_left (gS1 hk).1, hk]
theorem wds_at {SS : List State} {k : Nat} {s : State} (h : SS[k]? = some s) (m : Nat) : wds SS (m + 1) k = fin1 s ++ s.arcs.flatMap fun a => (wds SS m a.to.toNat).map (shift a.byte a.out) := by
 simp only [wds, h]
theorem wds_at0 {SS : List State} {k : Nat} {s : State} (h : SS[k]? = some s) (hs : s.arcs = []) : ∀ m, wds SS m k = fin1 s
 | 0 => by simp only [wds, h]
 | m + 1 => by simp [wds, h, hs]
theorem leastV_le {l : List Wv} : ∀ e ∈ l, leastV l <= e.2 := fun e he => (leastV_least (List.ne_nil_of_mem he)).2 e.2 (List.mem_map_of_mem he)
theorem AllLt.mono {f g : Nat} {l : List Wv} (h : AllLt f l) (hfg : f <= g) : AllLt g l := fun e he => Nat.lt_of_lt_of_le (h e he) hfg
section
variable {f : Nat} (IH : ∀ (l : List Wv) (ss SS : List State) (m : Nat), AllLt f l -> l ≠ [] -> Rise l -> Inv ss -> AllLt (m + 1) l -> (K f ss l).1 <+: SS -> wds SS m (K f ss l).2 = rel l)
include IH
theorem arcs_wds (SS : List State) (m le : Nat) : ∀ (gs : List (Nat × List Wv)) (ss : List State) (ars : List Arc), (∀ x ∈ gs, x.2 ≠ [] /\ Rise x.2 /\ AllLt f x.2) -> (∀ x ∈ gs, AllLt (m + 1) x.2 /\ ∀ e ∈ x.2, le <= e.2) -> Inv ss -> (arcsN (N f) ss ars gs).1 <+: SS ->
  ∃ news, (arcsN (N f) ss ars gs).2 = ars ++ news /\ (news.flatMap fun a => (wds SS m a.to.toNat).map (shift a.byte (a.out - le))) = (flat gs).map (lessW le)
 | [], ss, ars, _, _, hi, _ => ⟨[], by simp [arcsN], rfl⟩
 | (b, g) :: gs, ss, ars, hg, hm, hi, hp => by
  obtain ⟨g1, g2, g3⟩ := hg (b, g) (List.mem_cons_self ..)
  obtain ⟨i1, hk⟩ := K_ok f g ss g3 g1 g2 hi
  have h9 : arcsN (N f) ss ars ((b, g) :: gs) = arcsN (N f) (K f ss g).1 (ars ++ [⟨b, leastOf (N f ss g).2, ((K f ss g).2 : Int)⟩]) gs := rfl
  rw [h9] at hp |-
  obtain ⟨news, e1, e2⟩ := arcs_wds SS m le gs (K f ss g).1 (ars ++ [⟨b, leastOf (N f ss g).2, ((K f ss g).2 : Int)⟩]) (fun x hx => hg x (List.mem_cons_of_mem _ hx)) (fun x hx => hm x (List.mem_cons_of_mem _ hx)) i1 hp
  obtain ⟨_, _, _, hA⟩ := arcs_ok f (K_ok f) gs (K f ss g).1 (ars ++ [⟨b, leastOf (N f ss g).2, ((K f ss g).2 : Int)⟩]) (fun x hx => hg x (List.mem_cons_of_mem _ hx)) i1
  refine ⟨⟨b, leastOf (N f ss g).2, ((K f ss g).2 : Int)⟩ :: news, by rw [e1]; simp, ?_⟩
  obtain ⟨hm1, hm2⟩ := hm (b, g) (List.mem_cons_self ..)
  rw [List.flatMap_cons, e2]
  simp only [Int.toNat_natCast]
  rw [IH g ss SS m g3 g1 g2 hi hm1 (hA.pre.trans hp), least_N f g ss g3 g1 g2]
  have hfl : flat ((b, g) :: gs) = g.map (pre [b]) ++ flat gs := by simp [flat]
  rw [hfl, List.map_append]
  congr 1
  unfold rel
  rw [List.map_map, List.map_map]
  refine List.map_congr_left fun e he => ?_
  have h1 := leastV_le e he
  have h2 := leastV_least (l := g) g1
  obtain ⟨e', he', hle⟩ := List.mem_map.1 h2.1
  have h3 : le <= e'.2 := hm2 e' he'
  show (b :: e.1, _) = ([b] ++ e.1, _)
  refine Prod.ext rfl ?_
  show leastV g - le + (e.2 - leastV g) = e.2 - le
  omega
end
theorem groups_nil_of {l m : List Wv} (h : l = (if (finOf l).1 then [([], (finOf l).2)] else []) ++ m) (hm : ∀ x ∈ m, x.1 ≠ []) (hl : AllLt 1 l) : m = [] := by
 cases m with
 | nil => rfl
 | cons x m =>
  have h1 := hm x (List.mem_cons_self ..)
  have h2 := hl x (by rw [h]; exact List.mem_append_right _ (List.mem_cons_self ..))
  exact absurd (List.eq_nil_of_length_eq_zero (by omega)) h1
theorem K_wds : ∀ (f : Nat) (l : List Wv) (ss SS : List State) (m : Nat), AllLt f l -> l ≠ [] -> Rise l -> Inv ss -> AllLt (m + 1) l -> (K f ss l).1 <+: SS -> wds SS m (K f ss l).2 = rel l
 | 0, [], ss, _, _, _, hn, _, _, _, _ => absurd rfl hn
 | 0, e :: l, ss, _, _, hl, _, _, _, _, _ => absurd (hl e (List.mem_cons_self ..)) (by omega)
 | f + 1, l, ss, SS, m, hl, hn, hr, hi, hm, hp => by
  obtain ⟨r, p1, p2, p3, p4, p5, p6⟩ := parts hr
  have hmr : ∀ e ∈ r, e ∈ l := fun e he => by rw [p1]; exact List.mem_append_right _ he
  have hall := hl.group hmr p3
  have hg : ∀ x ∈ groups l, x.2 ≠ [] /\ Rise x.2 /\ AllLt f x.2 := fun x hx => by rw [p2] at hx; exact ⟨(p3.some_ x hx).1, (p3.some_ x hx).2, hall x hx⟩
  obtain ⟨_, _, _, hA⟩ := arcs_ok f (K_ok f) (groups l) ss [] hg hi
  have hK : K (f + 1) ss l = finish (arcsN (N f) ss [] (groups l)).1 (less (N (f + 1) ss l).2 (leastV l)) := by
   unfold K
   rw [least_N (f + 1) l ss hl hn hr]
   rfl
  have hpre : (arcsN (N f) ss [] (groups l)).1 <+: (K (f + 1) ss l).1 := by
   rw [hK]
   unfold finish
   split
   ·exact List.prefix_refl _
   ·exact List.prefix_append _ _
  have hget := pre_get hp (by rw [hK]; exact finish_get _ _)
  rw [<- hK] at hget
  have hmem : ∀ x ∈ groups r, ∀ e ∈ x.2, pre [x.1] e ∈ l := fun x hx e he => hmr _ (by rw [p3.flat]; exact mem_flat hx he)
  have key : ∀ e ∈ l, leastV l <= e.2 := leastV_le
  have hf1 : fin1 (less (N (f + 1) ss l).2 (leastV l)) = (if (finOf l).1 then [([], (finOf l).2)] else []).map (lessW (leastV l)) := by
   show (if (finOf l).1 then [([], if (finOf l).1 then (finOf l).2 - leastV l else (finOf l).2)] else ([] : List Wv)) = _
   cases (finOf l).1 <;> rfl
  have hrel : rel l = (if (finOf l).1 then [([], (finOf l).2)] else []).map (lessW (leastV l)) ++ r.map (lessW (leastV l)) := by
   unfold rel
   rw [<- List.map_append, <- p1]
  cases m with
  | zero =>
   have hr0 := groups_nil_of p1 p5 hm
   subst hr0
   have hg0 : groups l = [] := p2
   rw [wds_at0 hget (by show ((arcsN (N f) ss [] (groups l)).2.map _) = []; rw [hg0]; rfl), hf1, hrel]
   simp
  | succ m =>
   obtain ⟨news, e1, e2⟩ := arcs_wds (K_wds f) SS m (leastV l) (groups l) ss [] hg (fun x hx => by
    rw [p2] at hx
    refine ⟨fun e he => ?_, fun e he => ?_⟩
    ·have := hm _ (hmem x hx e he)
     simp [pre] at this
     omega
    ·exact key (pre [x.1] e) (hmem x hx e he)) hi (hpre.trans hp)
   rw [wds_at hget m, hf1, hrel]
   congr 1
   have hflat : r = flat (groups l) := by rw [p2]; exact p3.flat
   have e3 : (N (f + 1) ss l).2.arcs = news := by show (arcsN (N f) ss [] (groups l)).2 = news; rw [e1]; rfl
   rw [hflat, <- e2, less_arcs, e3, List.flatMap_map]
/-! words tell states apart -/
theorem okArcs_pos : ∀ (l : List Arc) (i : Nat) (last : Int), okArcs i last l = true -> ∀ a ∈ l, 0 <= a.to /\ a.to.toNat < i := fun l i last h a ha => by
 have := formed_ahead0 l i last h a ha
 omega
theorem flat_heads (F : Arc -> List Wv) : ∀ (l : List Arc) (i : Nat) (last : Int), okArcs i last l = true -> ∀ e ∈ l.flatMap (fun a => (F a).map (shift a.byte a.out)), ∃ b w, e.1 = b :: w /\ last < (b : Int)
 | [], _, _, _, e, he => by simp at he
 | a :: l, i, last, h, e, he => by
  simp only [okArcs, Bool.and_eq_true, decide_eq_true_eq] at h
  rcases List.mem_append.1 (by simpa [List.flatMap_cons] using he : e ∈ (F a).map (shift a.byte a.out) ++ l.flatMap (fun a => (F a).map (shift a.byte a.out))) with he | he
  ·obtain ⟨x, _, rfl⟩ := List.mem_map.1 he
   exact ⟨a.byte, x.1, rfl, h.1.2⟩
  ·obtain ⟨b, w, h1, h2⟩ := flat_heads F l i a.byte h.2 e he
   exact ⟨b, w, h1, by have := h.1.2; omega⟩
def sub (l : List Wv) (p : List Nat) : List Wv := (l.filter fun e => p.isPrefixOf e.1).map fun e => (e.1.drop p.length, e.2)
section
variable {f : Nat} (IHB : ∀ (l : List Wv) (ss SS : List State) (m : Nat), AllLt f l -> l ≠ [] -> Rise l -> Inv ss -> AllLt (m + 1) l -> (K f ss l).1 <+: SS -> ∀ k, ss.length <= k -> k < (K f ss l).1.length -> ∃ e ∈ l, ∃ p, p <+: e.1 /\ wds SS m k = rel (sub l p))
 (IHA : ∀ (l : List Wv) (ss SS : List State) (m : Nat), AllLt f l -> l ≠ [] -> Rise l -> Inv ss -> AllLt (m + 1) l -> (K f ss l).1 <+: SS -> ∀ e ∈ l, ∀ p, p <+: e.1 -> ∃ k, k < SS.length /\ wds SS m k = rel (sub l p))
include IHB IHA
end
instance : DecidableEq Ent := fun a b => decidable_of_iff (a.word = b.word /\ a.weight = b.weight /\ a.gone = b.gone) (by cases a; cases b; simp)
def M64 : Nat := 18446744073709551616
def bl (l : List Nat) : ByteArray := strOfNums (l.map fun (x : Nat) => (x : Int))
theorem wl_blE {l : List Nat} (h : ∀ x ∈ l, x < 256) : wl (bl l) = l := by
 unfold wl bl
 rw [strOfNums_data, List.map_map, List.map_map]
 refine (List.map_congr_left fun x hx => ?_).trans (List.map_id _)
 have := h x hx
 simp
 omega
theorem wl_append (a b : ByteArray) : wl (a ++ b) = wl a ++ wl b := by
 unfold wl
 rw [<- List.map_append, ByteArray.data_append, Array.toList_append]
theorem bl_wlE (s : ByteArray) : bl (wl s) = s := wl_inj (wl_blE (wl_lt s))
theorem bl_cons (b : Nat) (l : List Nat) : bl (b :: l) = strOfNums [(b : Int)] ++ bl l := by
 refine ByteArray.ext (Array.ext' ?_)
 rw [ByteArray.data_append, Array.toList_append]
 rfl
theorem append_assoc (a b c : ByteArray) : a ++ b ++ c = a ++ (b ++ c) := by
 refine ByteArray.ext (Array.ext' ?_)
 simp [ByteArray.data_append]
theorem bl_nil : bl [] = ⟨#[]⟩ := rfl
theorem empty_append (a : ByteArray) : (⟨#[]⟩ : ByteArray) ++ a = a := by
 refine ByteArray.ext (Array.ext' ?_)
 simp [ByteArray.data_append]
theorem append_empty (a : ByteArray) : a ++ (⟨#[]⟩ : ByteArray) = a := by
 refine ByteArray.ext (Array.ext' ?_)
 simp [ByteArray.data_append]
/-! Of -/
def ofE (s : ByteArray) (v : Nat) : Ent := if 4294967296 < v then ⟨⟨#[]⟩, 0, false⟩ else if v = 0 then ⟨s, 0, true⟩ else ⟨s, ((v - 1 : Nat) : Int), false⟩
def ofB (v : Nat) : Bool := !decide (4294967296 < v)
def GoodE (e : Ent) : Prop := okE e /\ bareE e = e
theorem ofE_good (s : ByteArray) (v : Nat) : GoodE (ofE s v) := by
 unfold ofE
 split
 ·exact ⟨⟨by simp, by simp⟩, rfl⟩
 ·split
  ·exact ⟨⟨by simp, by simp⟩, rfl⟩
  ·exact ⟨⟨by simp, by simp; omega⟩, rfl⟩
theorem wvE_of {s : ByteArray} {v : Nat} (h : v <= 4294967296) : wvE (ofE s v) = (wl s, v) := by
 unfold ofE wvE
 rw [if_neg (by omega)]
 by_cases h0 : v = 0
 ·subst h0; rfl
 ·rw [if_neg h0]
  simp only [valE, Bool.false_eq_true, if_false]
  refine Prod.ext rfl ?_
  simp
  omega
theorem wvE_inj {a b : Ent} (ha : GoodE a) (hb : GoodE b) (h : wvE a = wvE b) : a = b := by
 have h1 : a.word = b.word := wl_inj (congrArg Prod.fst h)
 have h2 : valE a = valE b := congrArg Prod.snd h
 obtain ⟨⟨a1, a2⟩, a3⟩ := ha
 obtain ⟨⟨b1, b2⟩, b3⟩ := hb
 cases a with | mk aw an ag =>
 cases b with | mk bw bn bg =>
 simp only [valE, bareE] at *
 subst h1
 cases ag <;> cases bg <;> simp at h2 a3 b3 |-
 ·omega
 ·rw [<- a3, <- b3]
theorem of_wvE {e : Ent} (h : GoodE e) : ofE e.word (valE e) = e := by
 have hv := valE_lt h.1
 exact wvE_inj (ofE_good _ _) h (wvE_of (by omega))
def valW (ss : List State) : Nat -> List Nat -> Option Nat
 | k, [] => match ss[k]? with | none => none | some s => if s.final then some s.out else none
 | k, b :: w => match ss[k]? with | none => none | some s => match s.arcs.find? (fun a => decide (a.byte = b)) with | none => none | some a => (valW ss a.to.toNat w).map (a.out + ·)
def lkW (l : List Wv) (w : List Nat) : Option Nat := (l.find? fun e => decide (e.1 = w)).map Prod.snd
theorem lkW_append (a b : List Wv) (w : List Nat) : lkW (a ++ b) w = (lkW a w).or (lkW b w) := by
 unfold lkW
 rw [List.find?_append]
 cases a.find? (fun e => decide (e.1 = w)) <;> rfl
theorem lkW_none {l : List Wv} {w : List Nat} (h : ∀ e ∈ l, e.1 ≠ w) : lkW l w = none := by
 unfold lkW
 rw [List.find?_eq_none.2 (fun e he => by simpa using h e he)]
 rfl
theorem lkW_shift (l : List Wv) (b o : Nat) (w : List Nat) : lkW (l.map (shift b o)) (b :: w) = (lkW l w).map (o + ·) := by
 unfold lkW
 rw [List.find?_map]
 have : ((fun e : Wv => decide (e.1 = b :: w)) ∘ shift b o) = fun e : Wv => decide (e.1 = w) := by
  funext e; simp [shift]
 rw [this]
 cases l.find? (fun e => decide (e.1 = w)) <;> rfl
theorem lkW_arcs (F : Arc -> List Wv) (b : Nat) (w : List Nat) : ∀ (l : List Arc) (i : Nat) (last : Int), okArcs i last l = true ->
  lkW (l.flatMap fun a => (F a).map (shift a.byte a.out)) (b :: w) = match l.find? (fun a => decide (a.byte = b)) with | none => none | some a => (lkW (F a) w).map (a.out + ·)
 | [], _, _, _ => rfl
 | a :: l, i, last, h => by
  have h' := h
  simp only [okArcs, Bool.and_eq_true, decide_eq_true_eq] at h'
  rw [List.flatMap_cons, lkW_append, List.find?_cons]
  by_cases hb : a.byte = b
  ·rw [decide_eq_true hb]
   simp only
   subst hb
   rw [lkW_shift, lkW_none (l := l.flatMap fun a => (F a).map (shift a.byte a.out))]
   ·cases (lkW (F a) w).map (a.out + ·) <;> rfl
   ·intro e he hw
    obtain ⟨x, u, h1, h2⟩ := flat_heads F l i a.byte h'.2 e he
    rw [h1] at hw
    injection hw with hw _
    omega
  ·rw [decide_eq_false hb]
   simp only
   rw [lkW_none (l := (F a).map (shift a.byte a.out)), Option.none_or, lkW_arcs F b w l i a.byte h'.2]
   intro e he hw
   obtain ⟨x, _, rfl⟩ := List.mem_map.1 he
   injection hw with hw _
   exact hb hw
theorem val_wds {SS : List State} (hi : Inv SS) : ∀ (w : List Nat) (m k : Nat) (s : State), w.length <= m -> SS[k]? = some s -> valW SS k w = lkW (wds SS m k) w
 | [], m, k, s, _, hs => by
  have hg := hi.good k s hs
  obtain ⟨R, h1, hR⟩ : ∃ R, wds SS m k = fin1 s ++ R /\ ∀ e ∈ R, e.1 ≠ [] := by
   cases m with
   | zero => exact ⟨[], by simp only [wds, hs, List.append_nil], by simp⟩
   | succ m => exact ⟨_, wds_at hs m, fun e he => by
     obtain ⟨b, u, h2, _⟩ := flat_heads (fun a => wds SS m a.to.toNat) s.arcs k (-1) hg.arcs e he
     rw [h2]; simp⟩
  rw [h1, lkW_append, lkW_none hR]
  simp only [valW, hs]
  unfold fin1
  cases s.final <;> rfl
 | b :: w, 0, k, s, h, _ => by simp at h
 | b :: w, m + 1, k, s, h, hs => by
  have hg := hi.good k s hs
  have hlt := (gS1 hs).1
  rw [wds_at hs, lkW_append, lkW_none (l := fin1 s), Option.none_or, lkW_arcs (fun a => wds SS m a.to.toNat) b w s.arcs k (-1) hg.arcs]
  ·simp only [valW, hs]
   cases hf : s.arcs.find? (fun a => decide (a.byte = b)) with
   | none => rfl
   | some a =>
    simp only
    have ha := List.mem_of_find?_eq_some hf
    have ht := okArcs_pos _ _ _ hg.arcs a ha
    rw [val_wds hi w m a.to.toNat SS[a.to.toNat] (by simpa using h) (gE1 (by omega))]
  ·intro e he
   unfold fin1 at he
   split at he
   ·simp at he; subst he; simp
   ·cases he
/-! behind -/
def findE (es : List Ent) (w : ByteArray) : Option Ent := es.find? fun e => decide (e.word = w)
theorem find_lk (es : List Ent) (w : ByteArray) : lkW (es.map wvE) (wl w) = (findE es w).map valE := by
 unfold lkW findE
 rw [List.find?_map]
 have : ((fun e : Wv => decide (e.1 = wl w)) ∘ wvE) = fun e : Ent => decide (e.word = w) := by
  funext e
  show decide (wl e.word = wl w) = _
  by_cases h : e.word = w
  ·rw [h]; simp
  ·rw [decide_eq_false h, decide_eq_false (fun h2 => h (wl_inj h2))]
 rw [this]
 cases es.find? (fun e => decide (e.word = w)) <;> rfl
/-! the theorem's parts -/
theorem own_lt {es : List Ent} (hok : ∀ e ∈ es, okE e /\ okW e.word = true /\ bareE e = e) (hr : RiseE es) : AllLt 256 (es.map wvE) := fun e he => by
 obtain ⟨x, hx, rfl⟩ := List.mem_map.1 he
 have := okW_size (hok x hx).2.1
 show (wl x.word).length < 256
 rw [wl_length]; omega
theorem own_rise {es : List Ent} (hok : ∀ e ∈ es, okE e /\ okW e.word = true /\ bareE e = e) (hr : RiseE es) : Rise (es.map wvE) := List.pairwise_map.2 hr
theorem own_build {es : List Ent} (hok : ∀ e ∈ es, okE e /\ okW e.word = true /\ bareE e = e) (hr : RiseE es) : buildF es = build (es.map wvE) := by
 unfold buildF
 have h0 : chkN es = 0 := chk_rise _ _ (fun e he => (hok e he).2.1) hr (fun q hq => by cases hq)
 rw [if_pos h0]
theorem own_wds {es : List Ent} (hok : ∀ e ∈ es, okE e /\ okW e.word = true /\ bareE e = e) (hr : RiseE es) (m : Nat) (hm : ∀ e ∈ es, e.word.size <= m) : wds (buildF es).states m ((buildF es).states.length - 1) = rel (es.map wvE) := by
 rw [own_build hok hr]
 by_cases hn : es = []
 ·subst hn
  show wds [zeroS] m 0 = []
  exact wds_at0 (s := zeroS) rfl rfl m
 ·have hn2 : es.map wvE ≠ [] := by simpa using hn
  rw [build_K (own_lt hok hr) hn2 (own_rise hok hr)]
  simp only
  have hk := (K_ok 256 (es.map wvE) [] (own_lt hok hr) hn2 (own_rise hok hr) Inv.nil_).2.new (Nat.zero_le _)
  rw [hk, Nat.add_sub_cancel]
  refine K_wds 256 (es.map wvE) [] _ m (own_lt hok hr) hn2 (own_rise hok hr) Inv.nil_ (fun e he => ?_) (List.prefix_refl _)
  obtain ⟨x, hx, rfl⟩ := List.mem_map.1 he
  have := hm x hx
  show (wl x.word).length < _
  rw [wl_length]; omega
theorem own_init {es : List Ent} (hok : ∀ e ∈ es, okE e /\ okW e.word = true /\ bareE e = e) (hr : RiseE es) : (buildF es).init = leastV (es.map wvE) := by
 rw [own_build hok hr]
 by_cases hn : es = []
 ·subst hn; rfl
 ·rw [build_K (own_lt hok hr) (by simpa using hn) (own_rise hok hr)]
theorem lk_rel {es : List Ent} (hok : ∀ e ∈ es, okE e /\ okW e.word = true /\ bareE e = e) (hr : RiseE es) (l : List Wv) (n : Nat) (w : List Nat) : lkW (l.map (lessW n)) w = (lkW l w).map (. - n) := by
 unfold lkW
 rw [List.find?_map]
 have : ((fun e : Wv => decide (e.1 = w)) ∘ lessW n) = fun e : Wv => decide (e.1 = w) := rfl
 rw [this]
 cases l.find? (fun e => decide (e.1 = w)) <;> rfl
open Go.RowKit
def Small (l : List Nat) : Prop := ∀ x ∈ l, x < 256
theorem wl_bl {l : List Nat} (h : Small l) : wl (bl l) = l := by
 unfold wl bl
 rw [strOfNums_data, List.map_map, List.map_map]
 refine (List.map_congr_left fun x hx => ?_).trans (List.map_id _)
 have := h x hx
 simp
 omega
theorem bl_wl (s : ByteArray) : bl (wl s) = s := wl_inj (wl_bl (wl_lt s))
theorem bl_size (l : List Nat) : (bl l).size = l.length := by unfold bl; rw [strOfNums_size, List.length_map]
theorem Small.append {a b : List Nat} (ha : Small a) (hb : Small b) : Small (a ++ b) := fun x hx => by
 rcases List.mem_append.1 hx with h | h
 ·exact ha x h
 ·exact hb x h
theorem Small.nil : Small [] := by simp [Small]
theorem Small.cons {x : Nat} {l : List Nat} (hx : x < 256) (hl : Small l) : Small (x :: l) := fun y hy => by
 rcases List.mem_cons.1 hy with rfl | h
 ·exact hx
 ·exact hl y h
/-! numbers -/
def lenB (n : Nat) : Nat := (Lib.bitLen n + 7) / 8
def leB : Nat -> Nat -> List Nat
 | 0, _ => []
 | m + 1, n => n % 256 :: leB m (n / 256)
def numB (n : Nat) : List Nat := if n < 248 then [n] else (247 + lenB n) :: leB (lenB n) n
theorem leB_length : ∀ (m n : Nat), (leB m n).length = m
 | 0, _ => rfl
 | m + 1, n => by simp [leB, leB_length m]
theorem leB_small : ∀ (m n : Nat), Small (leB m n)
 | 0, _ => by simp [Small, leB]
 | m + 1, n => Small.cons (Nat.mod_lt _ (by omega)) (leB_small m _)
theorem leB_snoc : ∀ (m n : Nat), leB (m + 1) n = leB m n ++ [n / 256 ^ m % 256]
 | 0, n => by simp [leB]
 | m + 1, n => by
  rw [leB, leB_snoc m (n / 256)]
  simp only [leB, List.cons_append]
  rw [Nat.div_div_eq_div_mul, Nat.pow_succ, Nat.mul_comm]
def ofLe : List Nat -> Nat
 | [] => 0
 | x :: l => x + 256 * ofLe l
theorem ofLe_leB : ∀ (m n : Nat), n < 256 ^ m -> ofLe (leB m n) = n
 | 0, n, h => by simp [leB, ofLe] at *; omega
 | m + 1, n, h => by
  rw [leB, ofLe, ofLe_leB m (n / 256) (by rw [Nat.pow_succ] at h; exact Nat.div_lt_of_lt_mul (by rw [Nat.mul_comm]; exact h))]
  omega
theorem leB_ofLe : ∀ (l : List Nat), Small l -> leB l.length (ofLe l) = l
 | [], _ => rfl
 | x :: l, h => by
  have hx := h x (List.mem_cons_self ..)
  have hl : Small l := fun y hy => h y (List.mem_cons_of_mem _ hy)
  rw [List.length_cons, leB, ofLe]
  have e1 : (x + 256 * ofLe l) % 256 = x := by omega
  have e2 : (x + 256 * ofLe l) / 256 = ofLe l := by omega
  rw [e1, e2, leB_ofLe l hl]
theorem ofLe_lt : ∀ (l : List Nat), Small l -> ofLe l < 256 ^ l.length
 | [], _ => by simp [ofLe]
 | x :: l, h => by
  have hx := h x (List.mem_cons_self ..)
  have hl := ofLe_lt l (fun y hy => h y (List.mem_cons_of_mem _ hy))
  rw [List.length_cons, ofLe, Nat.pow_succ]
  omega
theorem ofLe_snoc : ∀ (l : List Nat) (x : Nat), ofLe (l ++ [x]) = ofLe l + 256 ^ l.length * x
 | [], x => by simp [ofLe]
 | y :: l, x => by
  rw [List.cons_append, ofLe, ofLe_snoc l x, ofLe, List.length_cons, Nat.pow_succ, Nat.mul_add, <- Nat.add_assoc, <- Nat.mul_assoc, Nat.mul_comm 256 (256 ^ l.length)]
theorem pow256 (m : Nat) : 256 ^ m = 2 ^ (8 * m) := by rw [show (256 : Nat) = 2 ^ 8 from rfl, <- Nat.pow_mul]
theorem lenB_bounds {n : Nat} (h0 : 0 < n) (h : n < M64) : 1 <= lenB n /\ lenB n <= 8 /\ 256 ^ (lenB n - 1) <= n /\ n < 256 ^ lenB n := by
 obtain ⟨h1, h2, h3⟩ := Lib.bitLenAux_bounds 64 n h (by omega)
 have e : Lib.bitLenAux 64 n = Lib.bitLen n := rfl
 rw [e] at h1 h2 h3
 have h64 : Lib.bitLen n <= 64 := by
  rcases Nat.lt_or_ge 64 (Lib.bitLen n) with h5 | h5
  ·have h6 : 2 ^ 64 <= 2 ^ (Lib.bitLen n - 1) := Nat.pow_le_pow_right (by omega) (by omega)
   have h7 : M64 = 2 ^ 64 := rfl
   omega
  ·exact h5
 unfold lenB
 refine ⟨by omega, by omega, ?_, ?_⟩
 ·rw [pow256]
  exact Nat.le_trans (Nat.pow_le_pow_right (by omega) (by omega)) h2
 ·rw [pow256]
  exact Nat.lt_of_lt_of_le h3 (Nat.pow_le_pow_right (by omega) (by omega))
theorem numB_small {n : Nat} (h : n < M64) : Small (numB n) := by
 unfold numB
 split
 ·exact Small.cons (by omega) Small.nil
 ·obtain ⟨_, b2, _⟩ := lenB_bounds (show 0 < n by omega) h
  exact Small.cons (by omega) (leB_small _ _)
theorem numB_length (n : Nat) : (numB n).length = if n < 248 then 1 else 1 + lenB n := by
 unfold numB
 split
 ·rfl
 ·rw [List.length_cons, leB_length]; omega
theorem numB_le {n : Nat} (h : n < M64) : 1 <= (numB n).length /\ (numB n).length <= 9 := by
 rw [numB_length]
 split
 ·omega
 ·obtain ⟨b1, b2, _⟩ := lenB_bounds (show 0 < n by omega) h
  omega
def getN (s : List Nat) (i : Nat) : Nat × Nat × Nat :=
 match s[i]? with
 | none => (0, i, 3)
 | some c => if c < 248 then (c, i + 1, 0) else
  if s.length - i <= c - 247 then (0, i, 3) else
  if (numB (ofLe ((s.drop (i + 1)).take (c - 247)))).length = 1 + (c - 247) then (ofLe ((s.drop (i + 1)).take (c - 247)), i + 1 + (c - 247), 0) else (0, i, 5)
theorem getN_num {n : Nat} (h : n < M64) (p r : List Nat) : getN (p ++ numB n ++ r) p.length = (n, p.length + (numB n).length, 0) := by
 unfold getN
 by_cases hn : n < 248
 ·have e : numB n = [n] := by unfold numB; rw [if_pos hn]
  rw [e]
  simp [hn]
 ·have e : numB n = (247 + lenB n) :: leB (lenB n) n := by unfold numB; rw [if_neg hn]
  obtain ⟨b1, b2, b3, b4⟩ := lenB_bounds (show 0 < n by omega) h
  have hl := leB_length (lenB n) n
  have h1 : (p ++ numB n ++ r)[p.length]? = some (247 + lenB n) := by rw [e]; simp
  have h2 : ((p ++ numB n ++ r).drop (p.length + 1)).take (lenB n) = leB (lenB n) n := by
   rw [e, show p ++ (247 + lenB n) :: leB (lenB n) n ++ r = (p ++ [247 + lenB n]) ++ (leB (lenB n) n ++ r) by simp, show p.length + 1 = (p ++ [247 + lenB n]).length by simp, List.drop_left, List.take_append_of_le_length (by omega), List.take_of_length_le (by omega)]
  rw [h1]
  simp only
  rw [if_neg (by omega), show 247 + lenB n - 247 = lenB n by omega, h2, ofLe_leB _ _ b4, numB_length, if_neg hn, if_neg (by
   rw [e]; simp; omega), if_pos rfl, show p.length + 1 + lenB n = p.length + (1 + lenB n) by omega]
theorem getN_canon {s : List Nat} (hs : Small s) {i n j : Nat} (h : getN s i = (n, j, 0)) : n < M64 /\ s.drop i = numB n ++ s.drop j /\ j = i + (numB n).length := by
 unfold getN at h
 split at h
 ·simp at h
 ·rename_i c hc
  have hlt := (gS1 hc).1
  have hc8 := hs c (gM1 hc)
  have hdr : s.drop i = c :: s.drop (i + 1) := drop_at hc
  split at h
  ·rename_i h8
   simp only [Prod.mk.injEq] at h
   obtain ⟨rfl, rfl, _⟩ := h
   have e : numB c = [c] := by unfold numB; rw [if_pos h8]
   exact ⟨by unfold M64; omega, by rw [e, hdr]; rfl, by rw [e]; rfl⟩
  ·rename_i h8
   split at h
   ·simp at h
   ·rename_i hlen
    split at h
    ·rename_i hnb
     simp only [Prod.mk.injEq] at h
     obtain ⟨hn, rfl, _⟩ := h
     have hsm : Small ((s.drop (i + 1)).take (c - 247)) := fun x hx => hs x (List.mem_of_mem_drop (List.mem_of_mem_take hx))
     have hln : ((s.drop (i + 1)).take (c - 247)).length = c - 247 := by simp; omega
     have h7 : leB ((s.drop (i + 1)).take (c - 247)).length (ofLe ((s.drop (i + 1)).take (c - 247))) = (s.drop (i + 1)).take (c - 247) := leB_ofLe _ hsm
     rw [hln, hn] at h7
     have hb := ofLe_lt _ hsm
     rw [hn, hln] at hb
     rw [hn] at hnb
     have h64 : n < M64 := by
      have : 256 ^ (c - 247) <= 256 ^ 8 := Nat.pow_le_pow_right (by omega) (by omega)
      have e : M64 = 256 ^ 8 := rfl
      omega
     rw [numB_length] at hnb
     have h9 : ¬ n < 248 := fun h9 => by rw [if_pos h9] at hnb; omega
     rw [if_neg h9] at hnb
     have e : numB n = c :: (s.drop (i + 1)).take (c - 247) := by
      unfold numB
      rw [if_neg h9, show lenB n = c - 247 by omega, h7, show 247 + (c - 247) = c by omega]
     refine ⟨h64, ?_, ?_⟩
     ·rw [e, hdr, List.cons_append, show i + 1 + (c - 247) = (c - 247) + (i + 1) by omega]
      refine congrArg (c :: ·) ?_
      conv => lhs; rw [<- List.take_append_drop (c - 247) (s.drop (i + 1))]
      rw [List.drop_drop, show i + 1 + (c - 247) = (c - 247) + (i + 1) by omega]
     ·rw [e, List.length_cons, hln]; omega
    ·simp at h
open Go.RowKit
def bcs (l : List Nat) : List Value := l.map fun (x : Nat) => Value.int .u8 x
theorem bcs_length (l : List Nat) : (bcs l).length = l.length := by simp [bcs]
theorem bcs_append (a b : List Nat) : bcs (a ++ b) = bcs a ++ bcs b := by simp [bcs]
theorem bcs_one (l : List Nat) : ∀ u ∈ bcs l, u.oneCell' = true := fun u hu => by
 obtain ⟨x, _, rfl⟩ := List.mem_map.1 hu
 rfl
abbrev OB (w : World) (base : Nat) (v : Value) (l : List Nat) : Prop := w.ownsRow base 5 1 v l.length (bcs l)
theorem OB.nil_ (w : World) (base : Nat) : OB w base (.slice none 0 0) [] := World.ownsRow_nil _ _ _ _
theorem info_u8 : (Tryz.prog.info? 5).map (fun i => (i.zero, i.size, i.bytes)) = some (some (.int .u8 0), 1, 1) := by kernel_rfl
theorem OB.cell {w : World} {base n c : Nat} {A : Option Addr} {l : List Nat} (h : OB w base (.slice A n c) l) {i x : Nat} (hi : l[i]? = some x) : ∃ b, A = some ⟨b, 0, none⟩ /\ base <= b /\ b < w.heap.size /\ w.cell? ⟨b, i, none⟩ = some (.int .u8 x) := by
 have hlt := (gS1 hi).1
 have h0 := h
 rcases h.2 with ⟨hv, h9⟩ | ⟨g, cap, cur, hv, hg, hh, hc, _⟩
 ·omega
 ·injection hv with h1 h2 h3
  subst h1; subst h2; subst h3
  refine ⟨g, rfl, hg, heap_lt hh, ?_⟩
  rw [World.ownsRow.cellAt (show w.ownsRow base _ 1 _ l.length (bcs l) from h0) i (by rw [Nat.mul_one]; exact hlt)]
  unfold bcs
  rw [List.getElem?_map, hi]
  rfl
theorem OB.conv {w : World} {base : Nat} {v : Value} {l : List Nat} (h : OB w base v l) : (convert 31 9 v).run Tryz.prog w = .ok (.string (bl l)) w := by
 rcases h.2 with ⟨rfl, h0⟩ | ⟨g, cap, cur, rfl, hg, hh, hc, _⟩
 ·obtain rfl : l = [] := List.eq_nil_of_length_eq_zero h0
  exact run_convert_bytes_nil (P := Tryz.prog) w 31 5 Tryz.underlying31 Tryz.underlying5 0 0 9 Tryz.underlying9
 ·refine run_convert_bytes_arg (P := Tryz.prog) w 31 5 Tryz.underlying31 Tryz.underlying5 g 0 l.length cap (l.map fun (x : Nat) => (x : Int)) (by simp) (fun i hi => ?_) 9 Tryz.underlying9
  obtain ⟨b, e, _, _, hcell⟩ := OB.cell h (gE1 hi)
  injection e with e
  injection e with e
  subst e
  rw [Nat.zero_add, hcell]
  simp [hi]
def RN (w : World) (B : Nat) (v : Value) (l : List Nat) : Prop := ∃ (A : Option Addr) (c : Nat), v = .slice A l.length c /\ (0 < l.length -> ∃ b off, A = some ⟨b, off, none⟩ /\ b < B /\ ∀ (i x : Nat), l[i]? = some x -> w.cell? ⟨b, off + i, none⟩ = some (.int .u64 x))
theorem RN.below {w w' : World} {B : Nat} {v : Value} {l : List Nat} (h : RN w B v l) (hb : Below B w w') : RN w' B v l := by
 obtain ⟨A, c, h1, h2⟩ := h
 refine ⟨A, c, h1, fun h0 => ?_⟩
 obtain ⟨b, off, h4, h5, h6⟩ := h2 h0
 exact ⟨b, off, h4, h5, fun i x hi => old_cell hb (h6 i x hi) h5⟩
theorem RN.more {w : World} {B B' : Nat} {v : Value} {l : List Nat} (h : RN w B v l) (hB : B <= B') : RN w B' v l := by
 obtain ⟨A, c, h1, h2⟩ := h
 refine ⟨A, c, h1, fun h0 => ?_⟩
 obtain ⟨b, off, h4, h5, h6⟩ := h2 h0
 exact ⟨b, off, h4, by omega, h6⟩
theorem RN.form {w : World} {B : Nat} {v : Value} {l : List Nat} (h : RN w B v l) : ∃ (A : Option Addr) (c : Nat), v = .slice A l.length c := by
 obtain ⟨A, c, h1, _⟩ := h
 exact ⟨A, c, h1⟩
theorem RN.at_ {w : World} {B : Nat} {A : Option Addr} {n c : Nat} {l : List Nat} (h : RN w B (.slice A n c) l) {i x : Nat} (hi : l[i]? = some x) : ∃ b off, A = some ⟨b, off, none⟩ /\ b < B /\ w.cell? ⟨b, off + i, none⟩ = some (.int .u64 x) := by
 obtain ⟨A', c', h1, h3⟩ := h
 injection h1 with h1
 have h0 := (gS1 hi).1
 obtain ⟨b, off, h4, h5, h6⟩ := h3 (by omega)
 exact ⟨b, off, h1.trans h4, h5, h6 i x hi⟩
def numsB (l : List Nat) : List Nat := l.flatMap numB
theorem numsB_take {l : List Nat} {i x : Nat} (h : l[i]? = some x) : numsB (l.take (i + 1)) = numsB (l.take i) ++ numB x := by
 unfold numsB
 rw [List.take_add_one, h]
 simp
open Go.RowKit
def OM (w : World) (base : Nat) (v : Value) (l : List Nat) : Prop :=
 ∃ g cap cur, v = .slice (some ⟨g, 0, none⟩) l.length cap /\ base <= g /\ w.heap[g]? = some (.cells cur 5 (cap, cap + 1)) /\ l.length <= cap /\ cap <= maxLen /\ cur.size = cap /\ cur.toList.take l.length = bcs l
def OX (w : World) (base : Nat) (v : Value) (l : List Nat) : Prop := OB w base v l \/ OM w base v l
section
variable {w w' : World} {base : Nat} {v : Value} {l : List Nat}
theorem OM.later (h : OM w base v l) (hb : Below w.heap.size w w') : OM w' base v l := by
 obtain ⟨g, cap, cur, h1, h2, h3, h4⟩ := h
 exact ⟨g, cap, cur, h1, h2, (hb.block g (heap_lt h3)).trans h3, h4⟩
theorem OX.later (h : OX w base v l) (hb : Below w.heap.size w w') : OX w' base v l := h.imp (fun h => own_later h hb) (fun h => h.later hb)
theorem OM.cell (h : OM w base v l) {i x : Nat} (hi : l[i]? = some x) : ∃ b cap, v = .slice (some ⟨b, 0, none⟩) l.length cap /\ base <= b /\ b < w.heap.size /\ w.cell? ⟨b, i, none⟩ = some (.int .u8 x) /\ w.frozen? ⟨b, i, none⟩ = false := by
 obtain ⟨g, cap, cur, h1, h2, h3, h4, h5, h6, h7⟩ := h
 have hlt := (gS1 hi).1
 refine ⟨g, cap, h1, h2, heap_lt h3, ?_, ?_⟩
 ·rw [cell_of_row _ _ _ _ _ _ h3]
  have : (cur.toList.take l.length)[i]? = (bcs l)[i]? := by rw [h7]
  rw [List.getElem?_take, if_pos hlt] at this
  unfold bcs at this
  rw [List.getElem?_map, hi] at this
  simpa using this
 ·simp [World.frozen?, h3]
  omega
theorem OX.cell (h : OX w base v l) {i x : Nat} (hi : l[i]? = some x) : ∃ b cap, v = .slice (some ⟨b, 0, none⟩) l.length cap /\ base <= b /\ b < w.heap.size /\ w.cell? ⟨b, i, none⟩ = some (.int .u8 x) := by
 rcases h with h | h
 ·obtain ⟨A, c, hv, _⟩ := row_form h
  subst hv
  obtain ⟨b, rfl, h2, h3, h4⟩ := OB.cell h hi
  exact ⟨b, c, rfl, h2, h3, h4⟩
 ·obtain ⟨b, cap, h1, h2, h3, h4, _⟩ := h.cell hi
  exact ⟨b, cap, h1, h2, h3, h4⟩
theorem OX.form (h : OX w base v l) : ∃ (A : Option Addr) (c : Nat), v = .slice A l.length c := by
 rcases h with h | ⟨g, cap, cur, h1, _⟩
 ·obtain ⟨A, c, hv, _⟩ := row_form h
  exact ⟨A, c, hv⟩
 ·exact ⟨_, _, h1⟩
theorem OX.lt (h : OX w base v l) : ∀ k, v.ownBlock = some k -> base <= k /\ k < w.heap.size := fun k hk => by
 rcases h with h | ⟨g, cap, cur, rfl, h2, h3, _⟩
 ·exact World.ownsRow.lt h k hk
 ·injection hk with hk
  have hk : g = k := hk
  subst hk
  exact ⟨h2, heap_lt h3⟩
theorem OX.conv (h : OX w base v l) : (convert 31 9 v).run Tryz.prog w = .ok (.string (bl l)) w := by
 rcases h with h | h
 ·exact OB.conv h
 ·obtain ⟨g, cap, cur, rfl, h2, h3, h4, h5, h6, h7⟩ := h
  refine run_convert_bytes_arg (P := Tryz.prog) w 31 5 Tryz.underlying31 Tryz.underlying5 g 0 l.length cap (l.map fun (x : Nat) => (x : Int)) (by simp) (fun i hi => ?_) 9 Tryz.underlying9
  obtain ⟨b, cap2, e, _, _, hc, _⟩ := OM.cell ⟨g, cap, cur, rfl, h2, h3, h4, h5, h6, h7⟩ (gE1 hi)
  injection e with e
  injection e with e
  injection e with e
  subst e
  rw [Nat.zero_add, hc]
  simp [hi]
end
theorem conv_text (w : World) (s : ByteArray) (hs : s.size <= maxLen) : ∃ v w', (convert 9 31 (.string s)).run Tryz.prog w = .ok v w' /\ OM w' w.heap.size v (wl s) /\ Below w.heap.size w w' := by
 have hr := run_bytes_of_string (P := Tryz.prog) w 9 31 5 s Tryz.underlying9 Tryz.underlying31 Tryz.underlying5
 have hge := grownCap_ge w s.size 0 5
 have hsz : (bytesRow s (grownCap w s.size 0 5)).size = grownCap w s.size 0 5 := by
  unfold bytesRow
  rw [Array.size_append, Array.size_map, Array.size_replicate]
  show s.size + _ = _
  omega
 rw [hsz] at hr
 refine ⟨_, _, hr, ⟨w.heap.size, grownCap w s.size 0 5, bytesRow s (grownCap w s.size 0 5), by rw [wl_length], Nat.le_refl _, heap_alloc_new w.drew _, by rw [wl_length]; exact hge, grownCap_le_maxLen _ _ _ _ hs, hsz, ?_⟩, ?_⟩
 ·unfold bytesRow bcs wl
  rw [Array.toList_append, Array.toList_map, List.take_append_of_le_length (by simp), List.take_of_length_le (by simp), List.map_map]
  rfl
 ·have h1 : Below w.heap.size w w.drew := ⟨rfl, rfl, rfl, Nat.le_refl _, fun _ _ => rfl⟩
  exact h1.trans ((Below.refl w.heap.size w.drew).alloc (Nat.le_refl w.heap.size) _)
theorem wp_appx {o : Oper} {a : Act} {w : World} {K : Act -> World -> Prop} {Q : Exit -> Act -> World -> Prop} (s y : Operand) (ho : o.op = .call { callee := .builtin .append, args := #[s, y], argTypes := #[31, 31] })
  (base : Nat) (v : Value) (l : List Nat) (hs : a.eval s = v) (hown : OX w base v l) (b x : Nat) (hx : a.eval y = .slice (some ⟨b, 0, none⟩) 1 1) (hc : w.cell? ⟨b, 0, none⟩ = some (.int .u8 x)) (hn : l.length <= 1000000000) (hbase : base <= w.heap.size)
  (h : ∀ v' w', OX w' base v' (l ++ [x]) -> w.grownBy w' v.ownBlock -> K (a.put o.dst v') w') : Oper.wp Tryz.prog o a w K Q := by
 have hnews : ∀ j u, ([Value.int .u8 x] : List Value)[j]? = some u -> w.cell? ⟨b, j, none⟩ = some u := fun j u hu => by
  cases j with
  | zero => injection hu with hu; rw [<- hu]; exact hc
  | succ j => simp at hu
 rcases hown with hown | hown
 ·refine wp_app s y 31 ho 5 _ 1 1 Tryz.underlying31 info_u8 rfl (by decide) (by decide) base v l.length _ hs hown b [.int .u8 x] hx rfl hnews (by intro u hu; simp at hu; subst hu; rfl) hn hbase (fun v' w' h1 h2 _ => h v' w' (.inl ?_) h2)
  unfold OB
  rw [bcs_append, List.length_append]
  exact h1
 ·obtain ⟨g, cap, cur, rfl, h2, h3, h4, h5, h6, h7⟩ := hown
  obtain ⟨i0, hi, hz0, hz1, hz2⟩ := info_parts info_u8
  have hone : ∀ u ∈ ([Value.int .u8 x] : List Value), u.oneCell' = true := by intro u hu; simp at hu; subst hu; rfl
  rcases Nat.lt_or_ge l.length cap with hlt | hge
  ·have hr := run_append_room_cells (P := Tryz.prog) w 31 o.type 5 i0 Tryz.underlying31 hi g 0 l.length cap ⟨b, 0, none⟩ 1 1 [.int .u8 x] (by rw [hz1]; rfl) (fun j u hu => by rw [Addr.add_lit, Nat.zero_add]; exact hnews j u hu) hone (by omega)
    (fun j hj => by
     have : j = 0 := by simpa using hj
     subst this
     rw [hz1, cell_of_row _ _ _ _ _ _ h3, Array.getElem?_eq_getElem (by omega)]
     rfl)
    (fun j hj => by
     have : j = 0 := by simpa using hj
     subst this
     rw [hz1]
     simp [World.frozen?, h3]
     omega)
   rw [hz1] at hr
   unfold Oper.wp execOp
   simp only [ho, resolve, invoke, builtin, Sem.run_bind, Sem.run_pure, Result.andThen_ok, List.map_toArray, List.map_cons, List.map_nil, hs, hx, hr]
   have hw : w.setCells g (0 + l.length * 1) [.int .u8 x] = w.setCell ⟨g, l.length, none⟩ (.int .u8 x) := by rw [Nat.zero_add, Nat.mul_one]; rfl
   rw [hw]
   refine h _ _ (.inr ⟨g, cap, cur.setIfInBounds l.length (.int .u8 x), by rw [List.length_append]; rfl, h2, ?_, by rw [List.length_append]; exact hlt, h5, by rw [Array.size_setIfInBounds]; exact h6, ?_⟩) ⟨rfl, rfl, rfl, by simp [World.setCell], fun k hk hne => ?_⟩
   ·exact set_block h3 _
   ·rw [Array.toList_setIfInBounds, List.length_append, bcs_append, List.length_cons, List.length_nil, Nat.zero_add]
    rw [List.take_add_one, List.take_set_of_le (Nat.le_refl _), h7, List.getElem?_set_self (by simp [h6, hlt])]
    rfl
   ·exact Below.heap_setCell _ _ _ _ (fun e => hne (by rw [e]; rfl))
  ·have hcap : l.length = cap := by omega
   obtain ⟨v', w', r1, r2, r3⟩ := run_append_arg_grows (P := Tryz.prog) w 31 o.type 5 i0 _ 1 1 Tryz.underlying31 hi hz0 hz1 hz2 rfl (by decide) ⟨g, 0, none⟩ l.length cap (bcs l) (by rw [bcs_length, Nat.mul_one]) (fun j u hj => by
     rw [Addr.add_lit, Nat.zero_add, cell_of_row _ _ _ _ _ _ h3]
     have hjl : j < l.length := by have := (gS1 hj).1; rwa [bcs_length] at this
     rw [<- h7, List.getElem?_take, if_pos hjl] at hj
     simpa using hj) ⟨b, 0, none⟩ 1 1 [.int .u8 x] rfl (fun j u hu => by rw [Addr.add_lit, Nat.zero_add]; exact hnews j u hu) (by omega) (by unfold maxLen; omega) (by omega)
   unfold Oper.wp execOp
   simp only [ho, resolve, invoke, builtin, Sem.run_bind, Sem.run_pure, Result.andThen_ok, List.map_toArray, List.map_cons, List.map_nil, hs, hx, r1]
   refine h v' w' (.inl ?_) ⟨r3.os, r3.tape, r3.output, r3.size, fun k hk _ => r3.block k hk (by simp)⟩
   unfold OB
   rw [bcs_append, List.length_append]
   exact own_less r2 hbase
end Dw
end Go.Proofs.YtcddnmhmcieebaaGreatDoor
