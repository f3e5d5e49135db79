/- cedillaref05: one. -/
import Derived.Test.YtgjfhedgdbbinaaDoorR5Ents
import Derived.Test.YtgjfhedgdbbinaaDoorDLaw
import Derived.Test.YtgjfhedgdbbinaaDoorTools
namespace Go.Proofs.YtgjfhedgdbbinaaDoor
open Go.RowKit
set_option linter.unusedSimpArgs false
set_option linter.unusedVariables false
set_option linter.unnecessarySimpa false
namespace Dw

theorem lex_irr : ∀ x : List Nat, lexlt x x = false
  | [] => rfl
  | a :: x => by simp [lexlt, lex_irr x]
theorem lex_asym : ∀ x y : List Nat, lexlt x y = true → lexlt y x = false
  | _, [], h => by rw [lexlt_nil] at h; cases h
  | [], _ :: _, _ => rfl
  | a :: x, b :: y, h => by
    simp only [lexlt, Bool.or_eq_true, Bool.and_eq_true, decide_eq_true_eq] at h
    simp only [lexlt, Bool.or_eq_false_iff, Bool.and_eq_false_iff, decide_eq_false_iff_not]
    rcases h with h | ⟨h1, h2⟩
    · exact ⟨by omega, .inl (by omega)⟩
    · exact ⟨by omega, .inr (lex_asym x y h2)⟩
theorem lex_tri : ∀ x y : List Nat, lexlt x y = false → x ≠ y → lexlt y x = true
  | [], [], _, h => absurd rfl h
  | [], _ :: _, h, _ => by simp [lexlt] at h
  | _ :: _, [], _, _ => by simp [lexlt]
  | a :: x, b :: y, h, hn => by
    simp only [lexlt, Bool.or_eq_false_iff, Bool.and_eq_false_iff, decide_eq_false_iff_not] at h
    simp only [lexlt, Bool.or_eq_true, Bool.and_eq_true, decide_eq_true_eq]
    by_cases hab : a = b
    · subst hab
      refine .inr ⟨rfl, lex_tri x y ?_ (fun e => hn (by rw [e]))⟩
      rcases h.2 with h2 | h2
      · exact absurd rfl h2
      · exact h2
    · exact .inl (by omega)
theorem wl_eq_iff (a b : ByteArray) : (a.toList == b.toList) = decide (wl a = wl b) := by
  have h : ∀ {x y : Bool}, (x = true ↔ y = true) → x = y := fun {x y} h => by cases x <;> cases y <;> simp_all
  refine h ?_
  rw [beq_iff_eq, decide_eq_true_iff]
  constructor
  · intro e; unfold wl; rw [← ByteArray.toList_eq, ← ByteArray.toList_eq, e]
  · intro e; rw [wl_inj e]
theorem gt_lex (a b : ByteArray) : (!(lexlt (wl a) (wl b) || a.toList == b.toList)) = lexlt (wl b) (wl a) := by
  rw [wl_eq_iff]
  cases h1 : lexlt (wl a) (wl b) with
  | true => rw [lex_asym _ _ h1]; rfl
  | false =>
    by_cases h2 : wl a = wl b
    · rw [decide_eq_true h2, h2, lex_irr]; rfl
    · rw [decide_eq_false h2, lex_tri _ _ h1 h2]; rfl
def twE (l : List Ent) (e : Ent) : List Ent := l.takeWhile fun x => lexlt (wl x.word) (wl e.word)
def gtE (e x : Ent) : Bool := lexlt (wl e.word) (wl x.word)
theorem tw_step {es : List Ent} {i : Nat} {q e : Ent} (h : es[i]? = some q) : twE (es.drop i) e = if lexlt (wl q.word) (wl e.word) = true then q :: twE (es.drop (i + 1)) e else [] := by
  rw [drop_get h]
  unfold twE
  rw [List.takeWhile_cons]
theorem filter_step {es : List Ent} {k : Nat} {q e : Ent} (h : es[k]? = some q) : twE es e ++ [bareE e] ++ (es.take (k + 1)).filter (gtE e) = twE es e ++ [bareE e] ++ ((es.take k).filter (gtE e) ++ if gtE e q = true then [q] else []) := by
  rw [List.take_add_one, h, Option.toList_some, List.filter_append]
  congr 2
  simp only [List.filter_cons, List.filter_nil]
theorem oneK_length (es : List Ent) (e : Ent) (k : Nat) : (twE es e ++ [bareE e] ++ (es.take k).filter (gtE e)).length ≤ 2 * es.length + 1 := by
  have h1 := (List.takeWhile_prefix (fun x : Ent => lexlt (wl x.word) (wl e.word)) (l := es)).length_le
  have h2 := List.length_filter_le (gtE e) (es.take k)
  have h3 : (es.take k).length ≤ es.length := by simp; omega
  simp only [List.length_append, List.length_cons, List.length_nil]
  unfold twE
  omega
set_option maxHeartbeats 4000000 in
set_option maxRecDepth 100000 in
theorem one (w : World) (es : List Ent) (B : Nat) (v : Value) (hB : B ≤ w.heap.size) (hre : RE w B v es) (hlen : es.length ≤ 100000) (e : Ent) : Calls Tryd.prog 44 #[v, eval e] w fun e1 w1 => ∃ v1, e1 = .returned v1 ∧ OE w1 w.heap.size v1 (oneE es e) ∧ Below w.heap.size w w1 := by
 refine calls_of_wp Tryd.func44 rfl ?_
 refine Fact.en 58 fun fr hf hT => ?_
 have s0 := hT 0 _ rfl
 have s1 := hT 1 _ rfl
 clear hT
 have hre0 := hre.any
 obtain ⟨A, cc, rfl, hcc⟩ := hre.form
 clear hre
 simp only [eval] at s1
 refine Fact.sq fun K1 hK1 => ?_
 refine rg ?_
 refine fp fun K Z => ?_
 go_simp
 apply Z.out; clear Z K
 refine fp fun K Z => ?_
 go_simp
 apply Z.out; clear Z K
 refine Fact.z hf fun fr1 hf1 hT => ?_
 have hKp : _ ∧ _ := ⟨hT 0, hT 3⟩
 simp (decide := true) only [Fact.G, hf.size, reduceIte, s0] at hKp
 replace hf := hf1; clear hT hf1 s0 s1
 obtain ⟨s0, s3⟩ := hKp
 obtain ⟨W1, hW1⟩ : ∃ W0, w.alloc (.cells #[.string e.word, .int .u32 e.weight, .bool e.gone] 42) = W0 := ⟨_, rfl⟩
 try rw [hW1]
 obtain ⟨hb1, x0, x1, x2, -, hz1_⟩ := box3 hW1
 clear hW1
 have hz1 : w.heap.size < W1.heap.size := by rw [hz1_]; exact Nat.lt_succ_self _
 clear hz1_
 have hs1 := hb1.size
 have hre1 := (hre0.below hb1).any
 clear hre0
 refine nx (hK1 _ _ ?_)
 refine Fact.sq fun K2 hK2 => ?_
 refine rg ?_
 refine fp fun K Z => ?_
 go_simp
 apply Z.out; clear Z K
 refine Fact.z hf fun fr1 hf1 hT => ?_
 have hKp : _ ∧ _ ∧ _ := ⟨hT 0, hT 3, hT 5⟩
 simp (decide := true) only [Fact.G, hf.size, reduceIte, s0, s3] at hKp
 replace hf := hf1; clear hT hf1 s0 s3
 obtain ⟨s0, s3, s5⟩ := hKp
 refine nx (hK2 _ _ ?_)
 refine Fact.sq fun K3 hK3 => ?_
 refine Fact.sq fun K4 hK4 => ?_
 refine rg ?_
 refine fp fun K Z => ?_
 go_simp
 apply Z.out; clear Z K
 refine Fact.z hf fun fr1 hf1 hT => ?_
 have hKp : _ ∧ _ ∧ _ ∧ _ := ⟨hT 0, hT 3, hT 5, hT 6⟩
 simp (decide := true) only [Fact.G, hf.size, reduceIte, s0, s3, s5] at hKp
 replace hf := hf1; clear hT hf1 s0 s3 s5
 obtain ⟨s0, s3, s5, s6⟩ := hKp
 refine nx (hK4 _ _ ?_)
 refine wp_block ?_
 refine wp_loop_ghost (fun gk fr wr => ∃ (i : Nat) (V : Value), gk = es.length - i ∧ i ≤ es.length ∧ Fact.Fr 58 fr ∧ fr.tmps[0]? = some (.slice A es.length cc) ∧ fr.tmps[3]? = some (.pointer (some ⟨w.heap.size, 0, none⟩)) ∧ fr.tmps[5]? = some V ∧ fr.tmps[6]? = some (.int .i64 i) ∧ OE wr W1.heap.size V (es.take i) ∧ twE es e = es.take i ++ twE (es.drop i) e ∧ Below W1.heap.size W1 wr) (es.length) ?_ ?_
 · (
 exact ⟨0, _, rfl, Nat.zero_le _, hf, s0, s3, s5, s6, OE.nil_ _ _, rfl, Below.refl _ _⟩)
 · (
 clear hf s0 s3 s5 s6
 rintro gk fr wr ⟨i, V, hk, hi, hf, s0, s3, s5, s6, how, htw, hb⟩
 have HK := Lib.hid hk; have HTW := Lib.hid htw; clear hk htw
 have y0 := cL hb x0; have y1 := cL hb x1; have y2 := cL hb x2
 rcases Nat.lt_or_ge i es.length with hlt | hge
 · (
 have q1 : decide (i < es.length) = true := decide_eq_true hlt
 obtain ⟨q, hiq⟩ : ∃ q, es[i]? = some q := ⟨_, List.getElem?_eq_getElem hlt⟩
 obtain ⟨b, off, rfl, hbB, hbl, d0, d1, d2⟩ := (hre1.below hb).at_ hiq
 have hst := tw_step (e := e) hiq
 have htk : es.take (i + 1) = es.take i ++ [q] := by rw [List.take_add_one, hiq]; rfl
 have HST := Lib.hid hst; have HTK := Lib.hid htk; clear hst htk hiq
 refine Fact.sq fun K5 hK5 => ?_
 refine Fact.sq fun K6 hK6 => ?_
 refine Stab.tb 58 fun hok => ?_
 refine Stab.mO 0 s6 hf hok ?_
 refine Stab.mO 1 s0 hf hok ?_
 apply Stab.tq 2 _ hf hok
 · (
 intro fr1 w1 hh hd hk K Z
 have s9 := Stab.v 1 0 hd hk []
 clear hd
 replace d0 := cL hh.ext d0
 replace d1 := cL hh.ext d1
 replace d2 := cL hh.ext d2
 replace y0 := cL hh.ext y0
 replace y1 := cL hh.ext y1
 replace y2 := cL hh.ext y2
 replace how := own_later how hh.ext
 go_simp
 exact Stab.k Z)
 apply Stab.tq 3 _ hf hok
 · (
 intro fr1 w1 hh hd hk K Z
 have s8 := Stab.v 0 2 hd hk []
 have s10 := Stab.v 2 0 hd hk []
 clear hd
 go_simp
 exact Stab.k Z)
 refine Stab.mN 4 3 0 hf hok [] ?_
 apply Stab.tr 5 _ hf hok
 · (
 intro fr1 w1 hh hd hk K Z
 have s12 := Stab.v 4 0 hd hk []
 refine Stab.g s12 ?_
 have s0 := Stab.O hh s0
 clear hd
 go_simp
 exact Stab.k Z)
 apply Stab.tr 6 _ hf hok
 · (
 intro fr1 w1 hh hd hk K Z
 have s12 := Stab.v 4 1 hd hk []
 refine Stab.g s12 ?_
 have s6 := Stab.O hh s6
 clear hd
 go_simp
 exact Stab.k Z)
 apply Stab.tr 7 _ hf hok
 · (
 intro fr1 w1 hh hd hk K Z
 have s12 := Stab.v 4 2 hd hk []
 refine Stab.g s12 ?_
 have s13 := Stab.v 5 1 hd hk []
 have s14 := Stab.v 6 0 hd hk []
 clear hd
 go_simp
 try rw [if_pos (by omega)]
 exact Stab.k Z)
 apply Stab.tr 8 _ hf hok
 · (
 intro fr1 w1 hh hd hk K Z
 have s12 := Stab.v 4 3 hd hk []
 refine Stab.g s12 ?_
 have s15 := Stab.v 7 0 hd hk []
 clear hd
 go_simp
 exact Stab.k Z)
 apply Stab.tr 9 _ hf hok
 · (
 intro fr1 w1 hh hd hk K Z
 have s12 := Stab.v 4 4 hd hk []
 refine Stab.g s12 ?_
 have s16 := Stab.v 8 0 hd hk []
 clear hd
 replace d0 := cL hh.ext d0
 replace d1 := cL hh.ext d1
 replace d2 := cL hh.ext d2
 replace y0 := cL hh.ext y0
 replace y1 := cL hh.ext y1
 replace y2 := cL hh.ext y2
 replace how := own_later how hh.ext
 go_simp
 exact Stab.k Z)
 apply Stab.tr 10 _ hf hok
 · (
 intro fr1 w1 hh hd hk K Z
 have s12 := Stab.v 4 5 hd hk []
 refine Stab.g s12 ?_
 have s3 := Stab.O hh s3
 clear hd
 go_simp
 exact Stab.k Z)
 apply Stab.tr 11 _ hf hok
 · (
 intro fr1 w1 hh hd hk K Z
 have s12 := Stab.v 4 6 hd hk []
 refine Stab.g s12 ?_
 have s18 := Stab.v 10 0 hd hk []
 clear hd
 replace d0 := cL hh.ext d0
 replace d1 := cL hh.ext d1
 replace d2 := cL hh.ext d2
 replace y0 := cL hh.ext y0
 replace y1 := cL hh.ext y1
 replace y2 := cL hh.ext y2
 replace how := own_later how hh.ext
 go_simp
 exact Stab.k Z)
 apply Stab.tr 12 _ hf hok
 · (
 intro fr1 w1 hh hd hk K Z
 have s12 := Stab.v 4 7 hd hk []
 refine Stab.g s12 ?_
 have s17 := Stab.v 9 2 hd hk []
 have s19 := Stab.v 11 0 hd hk []
 clear hd
 go_simp
 exact Stab.k Z)
 apply Stab.tq 13 _ hf hok
 · (
 intro fr1 w1 hh hd hk K Z
 have s12 := Stab.v 4 8 hd hk []
 have s20 := Stab.v 12 0 hd hk []
 clear hd
 go_simp
 exact Stab.k Z)
 refine Stab.tf hf hok fun fr1 w1 hh hg => ?_
 replace s0 := Stab.O hh s0
 replace s3 := Stab.O hh s3
 replace s5 := Stab.O hh s5
 replace s6 := Stab.O hh s6
 have s21 := Stab.f 13 0 hg
 have hf1 := hh.fr hf
 have hx := hh.ext
 replace d0 := cL hx d0
 replace d1 := cL hx d1
 replace d2 := cL hx d2
 replace y0 := cL hx y0
 replace y1 := cL hx y1
 replace y2 := cL hx y2
 replace how := own_later how hx
 clear hg hh hf hok
 have hf := hf1; clear hf1
 refine nx (hK6 _ _ ?_)
 refine Fact.cond_s s21 (fun hql => ?_) (fun hql => ?_)
 · (
 rw [less_eq] at hql
 clear q1
 replace hb := hb.trans (hx.mono hb.size)
 have htn : twE es e = es.take (i + 1) ++ twE (es.drop (i + 1)) e := by rw [HTW.out, HST.out, hql, if_pos rfl, HTK.out, List.append_assoc]; rfl
 have HTN := Lib.hid htn; clear htn hql
 obtain ⟨xs, hxs⟩ : ∃ x, es.take i = x := ⟨_, rfl⟩
 rw [hxs] at how
 have hln : xs.length ≤ 1000000 := by rw [← hxs]; simp; omega
 have HXS := Lib.hid hxs; clear hxs
 obtain ⟨Av, cv, rfl, hcv⟩ := OE.form (es := xs) how
 have how2 := how
 refine wp_skip ?_
 refine nx (hK5 _ _ ?_)
 refine Fact.sq fun K7 hK7 => ?_
 refine wp_block ?_
 refine rg ?_
 have b24 := hf.b 24
 have b25 := hf.b 25
 have b26 := hf.b 26
 have b27 := hf.b 27
 have b28 := hf.b 28
 have b29 := hf.b 29
 have b30 := hf.b 30
 refine fp fun K Z => ?_
 go_simp
 apply Z.out; clear Z K
 refine fp fun K Z => ?_
 go_simp
 apply Z.out; clear Z K
 refine fp fun K Z => ?_
 go_simp
 apply Z.out; clear Z K
 refine fp fun K Z => ?_
 go_simp
 try rw [if_pos (by omega)]
 apply Z.out; clear Z K
 refine fp fun K Z => ?_
 go_simp
 apply Z.out; clear Z K
 refine fp fun K Z => ?_
 go_simp
 apply Z.out; clear Z K
 refine Fact.reL (n := 58) (by simp only [Fact.G, hf.size]) hf.defers (fun fr1 hf1 hT => ?_)
 have hKp : _ ∧ _ ∧ _ ∧ _ ∧ _ ∧ _ := ⟨hT 0, hT 3, hT 5, hT 6, hT 24, hT 29⟩
 simp (decide := true) only [Fact.G, hf.size, reduceIte, s0, s3, s5, s6] at hKp
 replace hf := hf1; clear hT hf1 s0 s3 s5 s6 s21 b24 b25 b26 b27 b28 b29 b30
 obtain ⟨s0, s3, s5, s6, s24, s29⟩ := hKp
 have b30 := hf.b 30
 refine ⟨?_⟩
 refine wpList_plain rfl fun K5 hK5 => ?_
 refine wp_app _ _ 28 rfl 42 _ 3 24 Tryd.underlying28 info_ent rfl (by decide) (by decide) W1.heap.size (.slice Av xs.length cv) xs.length _ (Fact.eval_tmp s24) (how.alloc _) w1.heap.size q.cells (Fact.eval_tmp s29) rfl (lit_new w1 _ _) (ent_one q) (by omega) (by have := hb.size; simp; omega) (fun v5 w5 hr5 hg5 hat5 => hK5 _ _ ?_)
 refine Fact.L.out ?_
 refine fp fun K Z => ?_
 go_simp
 apply Z.out; clear Z K
 refine Fact.z hf fun fr1 hf1 hT => ?_
 have hKp : _ ∧ _ ∧ _ ∧ _ := ⟨hT 0, hT 3, hT 5, hT 6⟩
 simp (decide := true) only [Fact.G, hf.size, reduceIte, s0, s3, s6] at hKp
 replace hf := hf1; clear hT hf1 s0 s3 s5 s6 s24 s29 b30
 obtain ⟨s0, s3, s5, s6⟩ := hKp
 have hb5 := (hb.alloc hb.size _).grown hg5 (by have := hb.size; simp; omega) (fun kk hkk => (how2.lt kk hkk).1)
 have how5 : OE w5 W1.heap.size v5 (xs ++ [q]) := by unfold OE; rw [ecs_append, List.length_append]; exact hr5
 refine Fact.block_normal ?_
 refine nx (hK7 _ _ ?_)
 refine rg ?_
 have b22 := hf.b 22
 have b23 := hf.b 23
 refine fp fun K Z => ?_
 go_simp
 apply Z.out; clear Z K
 refine fp fun K Z => ?_
 go_simp
 try simp (disch := omega) only [Fact.W]
 apply Z.out; clear Z K
 refine fp fun K Z => ?_
 go_simp
 apply Z.out; clear Z K
 refine Fact.z hf fun fr1 hf1 hT => ?_
 have hKp : _ ∧ _ ∧ _ ∧ _ := ⟨hT 0, hT 3, hT 5, hT 6⟩
 simp (decide := true) only [Fact.G, hf.size, reduceIte, s0, s3, s5] at hKp
 replace hf := hf1; clear hT hf1 s0 s3 s5 s6 b22 b23
 obtain ⟨s0, s3, s5, s6⟩ := hKp
 refine Fact.then_normal ?_
 exact ⟨_, by have := HK.out; omega, i + 1, v5, rfl, by omega, hf, s0, s3, s5, by rw [s6]; rfl, by rw [HTK.out, HXS.out]; exact how5, HTN.out, hb5⟩)
 · (
 rw [less_eq] at hql
 clear q1
 replace hb := hb.trans (hx.mono hb.size)
 have htw2 : twE es e = es.take i := by rw [HTW.out, HST.out, hql, if_neg (by simp)]; exact List.append_nil _
 clear hql
 refine wp_exit ?_
 refine Fact.then_exit ?_
 refine Fact.then_exit ?_
 refine Fact.block_exit ?_
 refine nx (hK3 _ _ ?_)
 have HT2 := Lib.hid htw2; clear htw2
 obtain ⟨xs, hxs⟩ : ∃ x, es.take i = x := ⟨_, rfl⟩
 rw [hxs] at how
 have hln : xs.length ≤ 1000000 := by rw [← hxs]; simp; omega
 have HXS := Lib.hid hxs; clear hxs
 obtain ⟨Av, cv, rfl, hcv⟩ := OE.form (es := xs) how
 refine Fact.sq fun K8 hK8 => ?_
 refine rg ?_
 have b31 := hf.b 31
 have b32 := hf.b 32
 have b33 := hf.b 33
 have b34 := hf.b 34
 have b35 := hf.b 35
 refine fp fun K Z => ?_
 go_simp
 apply Z.out; clear Z K
 refine fp fun K Z => ?_
 go_simp
 apply Z.out; clear Z K
 refine fp fun K Z => ?_
 go_simp
 go_at_call 37; refine (bare w1 e).mono ?_; rintro e w2 ⟨rfl, hb2⟩
 obtain ⟨Ee, hEe⟩ : ∃ x, bareE e = x := ⟨_, rfl⟩
 rw [hEe]
 have HEe := Lib.hid hEe; clear hEe
 simp only [eval]
 have how2 := own_later how hb2
 have hbx2 := hb.trans (hb2.mono hb.size)
 try dsimp only
 apply Z.out; clear Z K
 refine fp fun K Z => ?_
 go_simp
 apply Z.out; clear Z K
 refine Fact.reL (n := 58) (by simp only [Fact.G, hf.size]) hf.defers (fun fr1 hf1 hT => ?_)
 have hKp : _ ∧ _ ∧ _ ∧ _ ∧ _ := ⟨hT 0, hT 3, hT 5, hT 31, hT 34⟩
 simp (decide := true) only [Fact.G, hf.size, reduceIte, s0, s3, s5] at hKp
 replace hf := hf1; clear hT hf1 s0 s3 s5 s6 s21 b31 b32 b33 b34 b35
 obtain ⟨s0, s3, s5, s31, s34⟩ := hKp
 have b35 := hf.b 35
 refine ⟨?_⟩
 refine wpList_plain rfl fun K5 hK5 => ?_
 refine wp_app _ _ 28 rfl 42 _ 3 24 Tryd.underlying28 info_ent rfl (by decide) (by decide) W1.heap.size (.slice Av xs.length cv) xs.length _ (Fact.eval_tmp s31) (how2.alloc _) w2.heap.size Ee.cells (Fact.eval_tmp s34) rfl (lit_new w2 _ _) (ent_one Ee) (by omega) (by have := hbx2.size; simp; omega) (fun v5 w5 hr5 hg5 hat5 => hK5 _ _ ?_)
 refine Fact.L.out ?_
 refine fp fun K Z => ?_
 go_simp
 apply Z.out; clear Z K
 refine Fact.z hf fun fr1 hf1 hT => ?_
 have hKp : _ ∧ _ ∧ _ := ⟨hT 0, hT 3, hT 5⟩
 simp (decide := true) only [Fact.G, hf.size, reduceIte, s0, s3] at hKp
 replace hf := hf1; clear hT hf1 s0 s3 s5 s31 s34 b35
 obtain ⟨s0, s3, s5⟩ := hKp
 have hb5 := (hbx2.alloc hbx2.size _).grown hg5 (by have := hbx2.size; simp; omega) (fun kk hkk => (how2.lt kk hkk).1)
 have how5 : OE w5 W1.heap.size v5 (xs ++ [Ee]) := by unfold OE; rw [ecs_append, List.length_append]; exact hr5
 refine nx (hK8 _ _ ?_)
 refine Fact.sq fun K9 hK9 => ?_
 refine Fact.sq fun K10 hK10 => ?_
 refine rg ?_
 refine fp fun K Z => ?_
 go_simp
 apply Z.out; clear Z K
 refine Fact.z hf fun fr1 hf1 hT => ?_
 have hKp : _ ∧ _ ∧ _ ∧ _ := ⟨hT 0, hT 3, hT 5, hT 7⟩
 simp (decide := true) only [Fact.G, hf.size, reduceIte, s0, s3, s5] at hKp
 replace hf := hf1; clear hT hf1 s0 s3 s5
 obtain ⟨s0, s3, s5, s7⟩ := hKp
 refine nx (hK10 _ _ ?_)
 refine wp_block ?_
 refine wp_loop_ghost (fun gk2 fr wr2 => ∃ (k : Nat) (V2 : Value), gk2 = es.length - k ∧ k ≤ es.length ∧ Fact.Fr 58 fr ∧ fr.tmps[0]? = some (.slice (some ⟨b, off, none⟩) es.length cc) ∧ fr.tmps[3]? = some (.pointer (some ⟨w.heap.size, 0, none⟩)) ∧ fr.tmps[5]? = some V2 ∧ fr.tmps[7]? = some (.int .i64 k) ∧ OE wr2 W1.heap.size V2 (twE es e ++ [bareE e] ++ (es.take k).filter (gtE e)) ∧ Below W1.heap.size W1 wr2) (es.length) ?_ ?_
 · (
 exact ⟨0, v5, rfl, Nat.zero_le _, hf, s0, s3, s5, s7, by rw [HT2.out, HXS.out, HEe.out, List.take_zero, List.filter_nil, List.append_nil]; exact how5, hb5⟩)
 · (
 clear hf s0 s3 s5 s7
 rintro gk2 fr wr2 ⟨k, V2, hk2, hk2l, hf, s0, s3, s5, s7, how3, hb3⟩
 have HK2 := Lib.hid hk2; clear hk2
 have z0 := cL hb3 x0; have z1 := cL hb3 x1; have z2 := cL hb3 x2
 refine Fact.sq fun K11 hK11 => ?_
 refine Fact.sq fun K12 hK12 => ?_
 refine rg ?_
 have b36 := hf.b 36
 have b37 := hf.b 37
 have b38 := hf.b 38
 refine fp fun K Z => ?_
 go_simp
 apply Z.out; clear Z K
 refine fp fun K Z => ?_
 go_simp
 apply Z.out; clear Z K
 refine fp fun K Z => ?_
 go_simp
 apply Z.out; clear Z K
 refine fp fun K Z => ?_
 go_simp
 apply Z.out; clear Z K
 refine Fact.z hf fun fr1 hf1 hT => ?_
 have hKp : _ ∧ _ ∧ _ ∧ _ ∧ _ := ⟨hT 0, hT 3, hT 5, hT 7, hT 39⟩
 simp (decide := true) only [Fact.G, hf.size, reduceIte, s0, s3, s5, s7] at hKp
 replace hf := hf1; clear hT hf1 s0 s3 s5 s7 b36 b37 b38
 obtain ⟨s0, s3, s5, s7, s39⟩ := hKp
 refine nx (hK12 _ _ ?_)
 refine Fact.cond_s s39 (fun hq3 => ?_) (fun hq3 => ?_)
 · (
 have hklt : k < es.length := by have h9 := of_decide_eq_true hq3; omega
 have HQ3 := Lib.hid hq3; clear hq3
 obtain ⟨q, hkq⟩ : ∃ q, es[k]? = some q := ⟨_, List.getElem?_eq_getElem hklt⟩
 obtain ⟨b2, off2, he2, hbB2, hbl2, d0, d1, d2⟩ := (hre1.below hb3).at_ hkq
 injection he2 with he2
 injection he2 with he2 he3
 subst he2; subst he3
 have hfs := filter_step (e := e) hkq
 have HFS := Lib.hid hfs; clear hfs hkq
 obtain ⟨xs3, hxs3⟩ : ∃ x, twE es e ++ [bareE e] ++ (es.take k).filter (gtE e) = x := ⟨_, rfl⟩
 have hln3 : xs3.length ≤ 1000000 := by rw [← hxs3]; have := oneK_length es e k; omega
 rw [hxs3] at how3
 have HX3 := Lib.hid hxs3; clear hxs3
 refine wp_skip ?_
 refine nx (hK11 _ _ ?_)
 refine Fact.sq fun K13 hK13 => ?_
 refine wp_block ?_
 refine Fact.sq fun K14 hK14 => ?_
 refine Stab.tb 58 fun hok => ?_
 refine Stab.mO 0 s0 hf hok ?_
 refine Stab.mO 1 s7 hf hok ?_
 apply Stab.tq 2 _ hf hok
 · (
 intro fr1 w1 hh hd hk K Z
 have s42 := Stab.v 0 1 hd hk []
 have s43 := Stab.v 1 0 hd hk []
 clear hd
 go_simp
 try rw [if_pos (by omega)]
 exact Stab.k Z)
 apply Stab.tq 3 _ hf hok
 · (
 intro fr1 w1 hh hd hk K Z
 have s44 := Stab.v 2 0 hd hk []
 clear hd
 go_simp
 exact Stab.k Z)
 apply Stab.tq 4 _ hf hok
 · (
 intro fr1 w1 hh hd hk K Z
 have s45 := Stab.v 3 0 hd hk []
 clear hd
 replace d0 := cL hh.ext d0
 replace z0 := cL hh.ext z0
 replace d1 := cL hh.ext d1
 replace d2 := cL hh.ext d2
 replace z1 := cL hh.ext z1
 replace z2 := cL hh.ext z2
 replace how3 := own_later how3 hh.ext
 go_simp
 exact Stab.k Z)
 apply Stab.tq 5 _ hf hok
 · (
 intro fr1 w1 hh hd hk K Z
 have s3 := Stab.O hh s3
 clear hd
 go_simp
 exact Stab.k Z)
 apply Stab.tq 6 _ hf hok
 · (
 intro fr1 w1 hh hd hk K Z
 have s47 := Stab.v 5 0 hd hk []
 clear hd
 replace d0 := cL hh.ext d0
 replace z0 := cL hh.ext z0
 replace d1 := cL hh.ext d1
 replace d2 := cL hh.ext d2
 replace z1 := cL hh.ext z1
 replace z2 := cL hh.ext z2
 replace how3 := own_later how3 hh.ext
 go_simp
 exact Stab.k Z)
 apply Stab.tq 7 _ hf hok
 · (
 intro fr1 w1 hh hd hk K Z
 have s46 := Stab.v 4 2 hd hk []
 have s48 := Stab.v 6 0 hd hk []
 clear hd
 go_simp
 exact Stab.k Z)
 refine Stab.tf hf hok fun fr1 w1 hh hg => ?_
 replace s0 := Stab.O hh s0
 replace s3 := Stab.O hh s3
 replace s5 := Stab.O hh s5
 replace s7 := Stab.O hh s7
 have s49 := Stab.f 7 0 hg
 have hf1 := hh.fr hf
 have hx := hh.ext
 replace d0 := cL hx d0
 replace z0 := cL hx z0
 replace d1 := cL hx d1
 replace d2 := cL hx d2
 replace z1 := cL hx z1
 replace z2 := cL hx z2
 replace how3 := own_later how3 hx
 clear hg hh hf hok s39
 have hf := hf1; clear hf1
 refine nx (hK14 _ _ ?_)
 refine Fact.cond_s s49 (fun hqg => ?_) (fun hqg => ?_)
 · (
 rw [less_eq, gt_lex] at hqg
 have hbx := hb3.trans (hx.mono hb3.size)
 have hgt : gtE e q = true := hqg
 have HGT := Lib.hid hgt; clear hgt hqg
 obtain ⟨Av3, cv3, rfl, hcv3⟩ := OE.form (es := xs3) how3
 have how2 := how3
 refine rg ?_
 have b50 := hf.b 50
 have b51 := hf.b 51
 have b52 := hf.b 52
 have b53 := hf.b 53
 have b54 := hf.b 54
 have b55 := hf.b 55
 have b56 := hf.b 56
 refine fp fun K Z => ?_
 go_simp
 apply Z.out; clear Z K
 refine fp fun K Z => ?_
 go_simp
 apply Z.out; clear Z K
 refine fp fun K Z => ?_
 go_simp
 apply Z.out; clear Z K
 refine fp fun K Z => ?_
 go_simp
 try rw [if_pos (by omega)]
 apply Z.out; clear Z K
 refine fp fun K Z => ?_
 go_simp
 apply Z.out; clear Z K
 refine fp fun K Z => ?_
 go_simp
 apply Z.out; clear Z K
 refine Fact.reL (n := 58) (by simp only [Fact.G, hf.size]) hf.defers (fun fr1 hf1 hT => ?_)
 have hKp : _ ∧ _ ∧ _ ∧ _ ∧ _ ∧ _ := ⟨hT 0, hT 3, hT 5, hT 7, hT 50, hT 55⟩
 simp (decide := true) only [Fact.G, hf.size, reduceIte, s0, s3, s5, s7] at hKp
 replace hf := hf1; clear hT hf1 s0 s3 s5 s7 s49 b50 b51 b52 b53 b54 b55 b56
 obtain ⟨s0, s3, s5, s7, s50, s55⟩ := hKp
 have b56 := hf.b 56
 refine ⟨?_⟩
 refine wpList_plain rfl fun K5 hK5 => ?_
 refine wp_app _ _ 28 rfl 42 _ 3 24 Tryd.underlying28 info_ent rfl (by decide) (by decide) W1.heap.size (.slice Av3 xs3.length cv3) xs3.length _ (Fact.eval_tmp s50) (how3.alloc _) w1.heap.size q.cells (Fact.eval_tmp s55) rfl (lit_new w1 _ _) (ent_one q) (by omega) (by have := hbx.size; simp; omega) (fun v5 w5 hr5 hg5 hat5 => hK5 _ _ ?_)
 refine Fact.L.out ?_
 refine fp fun K Z => ?_
 go_simp
 apply Z.out; clear Z K
 refine Fact.z hf fun fr1 hf1 hT => ?_
 have hKp : _ ∧ _ ∧ _ ∧ _ := ⟨hT 0, hT 3, hT 5, hT 7⟩
 simp (decide := true) only [Fact.G, hf.size, reduceIte, s0, s3, s7] at hKp
 replace hf := hf1; clear hT hf1 s0 s3 s5 s7 s50 s55 b56
 obtain ⟨s0, s3, s5, s7⟩ := hKp
 have hb5 := (hbx.alloc hbx.size _).grown hg5 (by have := hbx.size; simp; omega) (fun kk hkk => (how2.lt kk hkk).1)
 have how5 : OE w5 W1.heap.size v5 (xs3 ++ [q]) := by unfold OE; rw [ecs_append, List.length_append]; exact hr5
 have hfin : twE es e ++ [bareE e] ++ (es.take (k + 1)).filter (gtE e) = xs3 ++ [q] := by rw [HFS.out, HGT.out, if_pos rfl, ← List.append_assoc, HX3.out]
 have HF := Lib.hid hfin; clear hfin
 refine Fact.block_normal ?_
 refine nx (hK13 _ _ ?_)
 refine rg ?_
 have b40 := hf.b 40
 have b41 := hf.b 41
 refine fp fun K Z => ?_
 go_simp
 apply Z.out; clear Z K
 refine fp fun K Z => ?_
 go_simp
 try simp (disch := omega) only [Fact.W]
 apply Z.out; clear Z K
 refine fp fun K Z => ?_
 go_simp
 apply Z.out; clear Z K
 refine Fact.z hf fun fr1 hf1 hT => ?_
 have hKp : _ ∧ _ ∧ _ ∧ _ := ⟨hT 0, hT 3, hT 5, hT 7⟩
 simp (decide := true) only [Fact.G, hf.size, reduceIte, s0, s3, s5] at hKp
 replace hf := hf1; clear hT hf1 s0 s3 s5 s7 b40 b41
 obtain ⟨s0, s3, s5, s7⟩ := hKp
 refine Fact.then_normal ?_
 exact ⟨_, by have := HK2.out; omega, k + 1, _, rfl, by omega, hf, s0, s3, s5, by rw [s7]; rfl, by rw [HF.out]; exact how5, hb5⟩)
 · (
 rw [less_eq, gt_lex] at hqg
 have hbx := hb3.trans (hx.mono hb3.size)
 have hgt : gtE e q = false := hqg
 have HGT := Lib.hid hgt; clear hgt hqg
 have hfin : twE es e ++ [bareE e] ++ (es.take (k + 1)).filter (gtE e) = xs3 := by rw [HFS.out, HGT.out, if_neg (by simp), List.append_nil, HX3.out]
 have HF := Lib.hid hfin; clear hfin
 have how5 := how3
 have hb5 := hbx
 refine wp_skip ?_
 refine Fact.block_normal ?_
 refine nx (hK13 _ _ ?_)
 refine rg ?_
 have b40 := hf.b 40
 have b41 := hf.b 41
 refine fp fun K Z => ?_
 go_simp
 apply Z.out; clear Z K
 refine fp fun K Z => ?_
 go_simp
 try simp (disch := omega) only [Fact.W]
 apply Z.out; clear Z K
 refine fp fun K Z => ?_
 go_simp
 apply Z.out; clear Z K
 refine Fact.z hf fun fr1 hf1 hT => ?_
 have hKp : _ ∧ _ ∧ _ ∧ _ := ⟨hT 0, hT 3, hT 5, hT 7⟩
 simp (decide := true) only [Fact.G, hf.size, reduceIte, s0, s3, s5] at hKp
 replace hf := hf1; clear hT hf1 s0 s3 s5 s7 s49 b40 b41
 obtain ⟨s0, s3, s5, s7⟩ := hKp
 refine Fact.then_normal ?_
 exact ⟨_, by have := HK2.out; omega, k + 1, _, rfl, by omega, hf, s0, s3, s5, by rw [s7]; rfl, by rw [HF.out]; exact how5, hb5⟩))
 · (
 have hke : k = es.length := by have h9 := of_decide_eq_false hq3; omega
 rw [hke, List.take_length] at how3
 clear hq3 hke
 refine wp_exit ?_
 refine Fact.then_exit ?_
 refine Fact.then_exit ?_
 refine Fact.block_exit ?_
 refine nx (hK9 _ _ ?_)
 refine Fact.sq fun K15 hK15 => ?_
 refine rg ?_
 have b57 := hf.b 57
 refine fp fun K Z => ?_
 go_simp
 apply Z.out; clear Z K
 refine fp fun K Z => ?_
 go_simp
 apply Z.out; clear Z K
 refine Fact.z hf fun fr1 hf1 hT => ?_
 have hKp := hT 4
 simp (decide := true) only [Fact.G, hf.size, reduceIte] at hKp
 replace hf := hf1; clear hT hf1 s0 s3 s5 s7 s39 b57
 have s4 := hKp; clear hKp
 refine nx (hK15 _ _ ?_)
 refine wp_ret ?_
 exact Fact.ret1 rfl hf s4 ⟨_, rfl, own_less how3 hs1, hb1.trans (hb3.mono hs1)⟩))))
 · (
 have q1 : decide (i < es.length) = false := decide_eq_false (by omega)
 refine Fact.sq fun K16 hK16 => ?_
 refine Fact.sq fun K17 hK17 => ?_
 refine Stab.tb 58 fun hok => ?_
 refine Stab.mO 0 s6 hf hok ?_
 refine Stab.mO 1 s0 hf hok ?_
 apply Stab.tq 2 _ hf hok
 · (
 intro fr1 w1 hh hd hk K Z
 have s9 := Stab.v 1 0 hd hk []
 clear hd
 replace y0 := cL hh.ext y0
 replace y1 := cL hh.ext y1
 replace y2 := cL hh.ext y2
 replace how := own_later how hh.ext
 go_simp
 exact Stab.k Z)
 apply Stab.tq 3 _ hf hok
 · (
 intro fr1 w1 hh hd hk K Z
 have s8 := Stab.v 0 2 hd hk []
 have s10 := Stab.v 2 0 hd hk []
 clear hd
 go_simp
 exact Stab.k Z)
 refine Stab.mN 4 3 0 hf hok [] ?_
 apply Stab.tr 5 _ hf hok
 · (
 intro fr1 w1 hh hd hk K Z
 have s12 := Stab.v 4 0 hd hk []
 refine Stab.sk s12 ?_
 exact Stab.k Z)
 apply Stab.tr 6 _ hf hok
 · (
 intro fr1 w1 hh hd hk K Z
 have s12 := Stab.v 4 1 hd hk []
 refine Stab.sk s12 ?_
 exact Stab.k Z)
 apply Stab.tr 7 _ hf hok
 · (
 intro fr1 w1 hh hd hk K Z
 have s12 := Stab.v 4 2 hd hk []
 refine Stab.sk s12 ?_
 exact Stab.k Z)
 apply Stab.tr 8 _ hf hok
 · (
 intro fr1 w1 hh hd hk K Z
 have s12 := Stab.v 4 3 hd hk []
 refine Stab.sk s12 ?_
 exact Stab.k Z)
 apply Stab.tr 9 _ hf hok
 · (
 intro fr1 w1 hh hd hk K Z
 have s12 := Stab.v 4 4 hd hk []
 refine Stab.sk s12 ?_
 exact Stab.k Z)
 apply Stab.tr 10 _ hf hok
 · (
 intro fr1 w1 hh hd hk K Z
 have s12 := Stab.v 4 5 hd hk []
 refine Stab.sk s12 ?_
 exact Stab.k Z)
 apply Stab.tr 11 _ hf hok
 · (
 intro fr1 w1 hh hd hk K Z
 have s12 := Stab.v 4 6 hd hk []
 refine Stab.sk s12 ?_
 exact Stab.k Z)
 apply Stab.tr 12 _ hf hok
 · (
 intro fr1 w1 hh hd hk K Z
 have s12 := Stab.v 4 7 hd hk []
 refine Stab.sk s12 ?_
 exact Stab.k Z)
 apply Stab.tq 13 _ hf hok
 · (
 intro fr1 w1 hh hd hk K Z
 have s12 := Stab.v 4 8 hd hk []
 have s20 := Stab.v 12 0 hd hk []
 clear hd
 go_simp
 exact Stab.k Z)
 refine Stab.tf hf hok fun fr1 w1 hh hg => ?_
 replace s0 := Stab.O hh s0
 replace s3 := Stab.O hh s3
 replace s5 := Stab.O hh s5
 replace s6 := Stab.O hh s6
 have s21 := Stab.f 13 0 hg
 have hf1 := hh.fr hf
 have hx := hh.ext
 replace y0 := cL hx y0
 replace y1 := cL hx y1
 replace y2 := cL hx y2
 replace how := own_later how hx
 clear hg hh hf hok
 have hf := hf1; clear hf1
 refine nx (hK17 _ _ ?_)
 refine Fact.cond_f s21 ?_
 clear q1
 have htw2 : twE es e = es.take i := by rw [HTW.out, List.drop_eq_nil_of_le (by omega)]; exact List.append_nil _
 replace hb := hb.trans (hx.mono hb.size)
 refine wp_exit ?_
 refine Fact.then_exit ?_
 refine Fact.then_exit ?_
 refine Fact.block_exit ?_
 refine nx (hK3 _ _ ?_)
 have HT2 := Lib.hid htw2; clear htw2
 obtain ⟨xs, hxs⟩ : ∃ x, es.take i = x := ⟨_, rfl⟩
 rw [hxs] at how
 have hln : xs.length ≤ 1000000 := by rw [← hxs]; simp; omega
 have HXS := Lib.hid hxs; clear hxs
 obtain ⟨Av, cv, rfl, hcv⟩ := OE.form (es := xs) how
 refine Fact.sq fun K18 hK18 => ?_
 refine rg ?_
 have b31 := hf.b 31
 have b32 := hf.b 32
 have b33 := hf.b 33
 have b34 := hf.b 34
 have b35 := hf.b 35
 refine fp fun K Z => ?_
 go_simp
 apply Z.out; clear Z K
 refine fp fun K Z => ?_
 go_simp
 apply Z.out; clear Z K
 refine fp fun K Z => ?_
 go_simp
 go_at_call 37; refine (bare w1 e).mono ?_; rintro e w2 ⟨rfl, hb2⟩
 obtain ⟨Ee, hEe⟩ : ∃ x, bareE e = x := ⟨_, rfl⟩
 rw [hEe]
 have HEe := Lib.hid hEe; clear hEe
 simp only [eval]
 have how2 := own_later how hb2
 have hbx2 := hb.trans (hb2.mono hb.size)
 try dsimp only
 apply Z.out; clear Z K
 refine fp fun K Z => ?_
 go_simp
 apply Z.out; clear Z K
 refine Fact.reL (n := 58) (by simp only [Fact.G, hf.size]) hf.defers (fun fr1 hf1 hT => ?_)
 have hKp : _ ∧ _ ∧ _ ∧ _ ∧ _ := ⟨hT 0, hT 3, hT 5, hT 31, hT 34⟩
 simp (decide := true) only [Fact.G, hf.size, reduceIte, s0, s3, s5] at hKp
 replace hf := hf1; clear hT hf1 s0 s3 s5 s6 s21 b31 b32 b33 b34 b35
 obtain ⟨s0, s3, s5, s31, s34⟩ := hKp
 have b35 := hf.b 35
 refine ⟨?_⟩
 refine wpList_plain rfl fun K5 hK5 => ?_
 refine wp_app _ _ 28 rfl 42 _ 3 24 Tryd.underlying28 info_ent rfl (by decide) (by decide) W1.heap.size (.slice Av xs.length cv) xs.length _ (Fact.eval_tmp s31) (how2.alloc _) w2.heap.size Ee.cells (Fact.eval_tmp s34) rfl (lit_new w2 _ _) (ent_one Ee) (by omega) (by have := hbx2.size; simp; omega) (fun v5 w5 hr5 hg5 hat5 => hK5 _ _ ?_)
 refine Fact.L.out ?_
 refine fp fun K Z => ?_
 go_simp
 apply Z.out; clear Z K
 refine Fact.z hf fun fr1 hf1 hT => ?_
 have hKp : _ ∧ _ ∧ _ := ⟨hT 0, hT 3, hT 5⟩
 simp (decide := true) only [Fact.G, hf.size, reduceIte, s0, s3] at hKp
 replace hf := hf1; clear hT hf1 s0 s3 s5 s31 s34 b35
 obtain ⟨s0, s3, s5⟩ := hKp
 have hb5 := (hbx2.alloc hbx2.size _).grown hg5 (by have := hbx2.size; simp; omega) (fun kk hkk => (how2.lt kk hkk).1)
 have how5 : OE w5 W1.heap.size v5 (xs ++ [Ee]) := by unfold OE; rw [ecs_append, List.length_append]; exact hr5
 refine nx (hK18 _ _ ?_)
 refine Fact.sq fun K19 hK19 => ?_
 refine Fact.sq fun K20 hK20 => ?_
 refine rg ?_
 refine fp fun K Z => ?_
 go_simp
 apply Z.out; clear Z K
 refine Fact.z hf fun fr1 hf1 hT => ?_
 have hKp : _ ∧ _ ∧ _ ∧ _ := ⟨hT 0, hT 3, hT 5, hT 7⟩
 simp (decide := true) only [Fact.G, hf.size, reduceIte, s0, s3, s5] at hKp
 replace hf := hf1; clear hT hf1 s0 s3 s5
 obtain ⟨s0, s3, s5, s7⟩ := hKp
 refine nx (hK20 _ _ ?_)
 refine wp_block ?_
 refine wp_loop_ghost (fun gk2 fr wr2 => ∃ (k : Nat) (V2 : Value), gk2 = es.length - k ∧ k ≤ es.length ∧ Fact.Fr 58 fr ∧ fr.tmps[0]? = some (.slice A es.length cc) ∧ fr.tmps[3]? = some (.pointer (some ⟨w.heap.size, 0, none⟩)) ∧ fr.tmps[5]? = some V2 ∧ fr.tmps[7]? = some (.int .i64 k) ∧ OE wr2 W1.heap.size V2 (twE es e ++ [bareE e] ++ (es.take k).filter (gtE e)) ∧ Below W1.heap.size W1 wr2) (es.length) ?_ ?_
 · (
 exact ⟨0, v5, rfl, Nat.zero_le _, hf, s0, s3, s5, s7, by rw [HT2.out, HXS.out, HEe.out, List.take_zero, List.filter_nil, List.append_nil]; exact how5, hb5⟩)
 · (
 clear hf s0 s3 s5 s7
 rintro gk2 fr wr2 ⟨k, V2, hk2, hk2l, hf, s0, s3, s5, s7, how3, hb3⟩
 have HK2 := Lib.hid hk2; clear hk2
 have z0 := cL hb3 x0; have z1 := cL hb3 x1; have z2 := cL hb3 x2
 refine Fact.sq fun K21 hK21 => ?_
 refine Fact.sq fun K22 hK22 => ?_
 refine rg ?_
 have b36 := hf.b 36
 have b37 := hf.b 37
 have b38 := hf.b 38
 refine fp fun K Z => ?_
 go_simp
 apply Z.out; clear Z K
 refine fp fun K Z => ?_
 go_simp
 apply Z.out; clear Z K
 refine fp fun K Z => ?_
 go_simp
 apply Z.out; clear Z K
 refine fp fun K Z => ?_
 go_simp
 apply Z.out; clear Z K
 refine Fact.z hf fun fr1 hf1 hT => ?_
 have hKp : _ ∧ _ ∧ _ ∧ _ ∧ _ := ⟨hT 0, hT 3, hT 5, hT 7, hT 39⟩
 simp (decide := true) only [Fact.G, hf.size, reduceIte, s0, s3, s5, s7] at hKp
 replace hf := hf1; clear hT hf1 s0 s3 s5 s7 b36 b37 b38
 obtain ⟨s0, s3, s5, s7, s39⟩ := hKp
 refine nx (hK22 _ _ ?_)
 refine Fact.cond_s s39 (fun hq3 => ?_) (fun hq3 => ?_)
 · (
 have hklt : k < es.length := by have h9 := of_decide_eq_true hq3; omega
 have HQ3 := Lib.hid hq3; clear hq3
 obtain ⟨q, hkq⟩ : ∃ q, es[k]? = some q := ⟨_, List.getElem?_eq_getElem hklt⟩
 obtain ⟨b, off, rfl, hbB, hbl, d0, d1, d2⟩ := (hre1.below hb3).at_ hkq
 have hfs := filter_step (e := e) hkq
 have HFS := Lib.hid hfs; clear hfs hkq
 obtain ⟨xs3, hxs3⟩ : ∃ x, twE es e ++ [bareE e] ++ (es.take k).filter (gtE e) = x := ⟨_, rfl⟩
 have hln3 : xs3.length ≤ 1000000 := by rw [← hxs3]; have := oneK_length es e k; omega
 rw [hxs3] at how3
 have HX3 := Lib.hid hxs3; clear hxs3
 refine wp_skip ?_
 refine nx (hK21 _ _ ?_)
 refine Fact.sq fun K23 hK23 => ?_
 refine wp_block ?_
 refine Fact.sq fun K24 hK24 => ?_
 refine Stab.tb 58 fun hok => ?_
 refine Stab.mO 0 s0 hf hok ?_
 refine Stab.mO 1 s7 hf hok ?_
 apply Stab.tq 2 _ hf hok
 · (
 intro fr1 w1 hh hd hk K Z
 have s42 := Stab.v 0 1 hd hk []
 have s43 := Stab.v 1 0 hd hk []
 clear hd
 go_simp
 try rw [if_pos (by omega)]
 exact Stab.k Z)
 apply Stab.tq 3 _ hf hok
 · (
 intro fr1 w1 hh hd hk K Z
 have s44 := Stab.v 2 0 hd hk []
 clear hd
 go_simp
 exact Stab.k Z)
 apply Stab.tq 4 _ hf hok
 · (
 intro fr1 w1 hh hd hk K Z
 have s45 := Stab.v 3 0 hd hk []
 clear hd
 replace d0 := cL hh.ext d0
 replace z0 := cL hh.ext z0
 replace d1 := cL hh.ext d1
 replace d2 := cL hh.ext d2
 replace z1 := cL hh.ext z1
 replace z2 := cL hh.ext z2
 replace how3 := own_later how3 hh.ext
 go_simp
 exact Stab.k Z)
 apply Stab.tq 5 _ hf hok
 · (
 intro fr1 w1 hh hd hk K Z
 have s3 := Stab.O hh s3
 clear hd
 go_simp
 exact Stab.k Z)
 apply Stab.tq 6 _ hf hok
 · (
 intro fr1 w1 hh hd hk K Z
 have s47 := Stab.v 5 0 hd hk []
 clear hd
 replace d0 := cL hh.ext d0
 replace z0 := cL hh.ext z0
 replace d1 := cL hh.ext d1
 replace d2 := cL hh.ext d2
 replace z1 := cL hh.ext z1
 replace z2 := cL hh.ext z2
 replace how3 := own_later how3 hh.ext
 go_simp
 exact Stab.k Z)
 apply Stab.tq 7 _ hf hok
 · (
 intro fr1 w1 hh hd hk K Z
 have s46 := Stab.v 4 2 hd hk []
 have s48 := Stab.v 6 0 hd hk []
 clear hd
 go_simp
 exact Stab.k Z)
 refine Stab.tf hf hok fun fr1 w1 hh hg => ?_
 replace s0 := Stab.O hh s0
 replace s3 := Stab.O hh s3
 replace s5 := Stab.O hh s5
 replace s7 := Stab.O hh s7
 have s49 := Stab.f 7 0 hg
 have hf1 := hh.fr hf
 have hx := hh.ext
 replace d0 := cL hx d0
 replace z0 := cL hx z0
 replace d1 := cL hx d1
 replace d2 := cL hx d2
 replace z1 := cL hx z1
 replace z2 := cL hx z2
 replace how3 := own_later how3 hx
 clear hg hh hf hok s39
 have hf := hf1; clear hf1
 refine nx (hK24 _ _ ?_)
 refine Fact.cond_s s49 (fun hqg => ?_) (fun hqg => ?_)
 · (
 rw [less_eq, gt_lex] at hqg
 have hbx := hb3.trans (hx.mono hb3.size)
 have hgt : gtE e q = true := hqg
 have HGT := Lib.hid hgt; clear hgt hqg
 obtain ⟨Av3, cv3, rfl, hcv3⟩ := OE.form (es := xs3) how3
 have how2 := how3
 refine rg ?_
 have b50 := hf.b 50
 have b51 := hf.b 51
 have b52 := hf.b 52
 have b53 := hf.b 53
 have b54 := hf.b 54
 have b55 := hf.b 55
 have b56 := hf.b 56
 refine fp fun K Z => ?_
 go_simp
 apply Z.out; clear Z K
 refine fp fun K Z => ?_
 go_simp
 apply Z.out; clear Z K
 refine fp fun K Z => ?_
 go_simp
 apply Z.out; clear Z K
 refine fp fun K Z => ?_
 go_simp
 try rw [if_pos (by omega)]
 apply Z.out; clear Z K
 refine fp fun K Z => ?_
 go_simp
 apply Z.out; clear Z K
 refine fp fun K Z => ?_
 go_simp
 apply Z.out; clear Z K
 refine Fact.reL (n := 58) (by simp only [Fact.G, hf.size]) hf.defers (fun fr1 hf1 hT => ?_)
 have hKp : _ ∧ _ ∧ _ ∧ _ ∧ _ ∧ _ := ⟨hT 0, hT 3, hT 5, hT 7, hT 50, hT 55⟩
 simp (decide := true) only [Fact.G, hf.size, reduceIte, s0, s3, s5, s7] at hKp
 replace hf := hf1; clear hT hf1 s0 s3 s5 s7 s49 b50 b51 b52 b53 b54 b55 b56
 obtain ⟨s0, s3, s5, s7, s50, s55⟩ := hKp
 have b56 := hf.b 56
 refine ⟨?_⟩
 refine wpList_plain rfl fun K5 hK5 => ?_
 refine wp_app _ _ 28 rfl 42 _ 3 24 Tryd.underlying28 info_ent rfl (by decide) (by decide) W1.heap.size (.slice Av3 xs3.length cv3) xs3.length _ (Fact.eval_tmp s50) (how3.alloc _) w1.heap.size q.cells (Fact.eval_tmp s55) rfl (lit_new w1 _ _) (ent_one q) (by omega) (by have := hbx.size; simp; omega) (fun v5 w5 hr5 hg5 hat5 => hK5 _ _ ?_)
 refine Fact.L.out ?_
 refine fp fun K Z => ?_
 go_simp
 apply Z.out; clear Z K
 refine Fact.z hf fun fr1 hf1 hT => ?_
 have hKp : _ ∧ _ ∧ _ ∧ _ := ⟨hT 0, hT 3, hT 5, hT 7⟩
 simp (decide := true) only [Fact.G, hf.size, reduceIte, s0, s3, s7] at hKp
 replace hf := hf1; clear hT hf1 s0 s3 s5 s7 s50 s55 b56
 obtain ⟨s0, s3, s5, s7⟩ := hKp
 have hb5 := (hbx.alloc hbx.size _).grown hg5 (by have := hbx.size; simp; omega) (fun kk hkk => (how2.lt kk hkk).1)
 have how5 : OE w5 W1.heap.size v5 (xs3 ++ [q]) := by unfold OE; rw [ecs_append, List.length_append]; exact hr5
 have hfin : twE es e ++ [bareE e] ++ (es.take (k + 1)).filter (gtE e) = xs3 ++ [q] := by rw [HFS.out, HGT.out, if_pos rfl, ← List.append_assoc, HX3.out]
 have HF := Lib.hid hfin; clear hfin
 refine Fact.block_normal ?_
 refine nx (hK23 _ _ ?_)
 refine rg ?_
 have b40 := hf.b 40
 have b41 := hf.b 41
 refine fp fun K Z => ?_
 go_simp
 apply Z.out; clear Z K
 refine fp fun K Z => ?_
 go_simp
 try simp (disch := omega) only [Fact.W]
 apply Z.out; clear Z K
 refine fp fun K Z => ?_
 go_simp
 apply Z.out; clear Z K
 refine Fact.z hf fun fr1 hf1 hT => ?_
 have hKp : _ ∧ _ ∧ _ ∧ _ := ⟨hT 0, hT 3, hT 5, hT 7⟩
 simp (decide := true) only [Fact.G, hf.size, reduceIte, s0, s3, s5] at hKp
 replace hf := hf1; clear hT hf1 s0 s3 s5 s7 b40 b41
 obtain ⟨s0, s3, s5, s7⟩ := hKp
 refine Fact.then_normal ?_
 exact ⟨_, by have := HK2.out; omega, k + 1, _, rfl, by omega, hf, s0, s3, s5, by rw [s7]; rfl, by rw [HF.out]; exact how5, hb5⟩)
 · (
 rw [less_eq, gt_lex] at hqg
 have hbx := hb3.trans (hx.mono hb3.size)
 have hgt : gtE e q = false := hqg
 have HGT := Lib.hid hgt; clear hgt hqg
 have hfin : twE es e ++ [bareE e] ++ (es.take (k + 1)).filter (gtE e) = xs3 := by rw [HFS.out, HGT.out, if_neg (by simp), List.append_nil, HX3.out]
 have HF := Lib.hid hfin; clear hfin
 have how5 := how3
 have hb5 := hbx
 refine wp_skip ?_
 refine Fact.block_normal ?_
 refine nx (hK23 _ _ ?_)
 refine rg ?_
 have b40 := hf.b 40
 have b41 := hf.b 41
 refine fp fun K Z => ?_
 go_simp
 apply Z.out; clear Z K
 refine fp fun K Z => ?_
 go_simp
 try simp (disch := omega) only [Fact.W]
 apply Z.out; clear Z K
 refine fp fun K Z => ?_
 go_simp
 apply Z.out; clear Z K
 refine Fact.z hf fun fr1 hf1 hT => ?_
 have hKp : _ ∧ _ ∧ _ ∧ _ := ⟨hT 0, hT 3, hT 5, hT 7⟩
 simp (decide := true) only [Fact.G, hf.size, reduceIte, s0, s3, s5] at hKp
 replace hf := hf1; clear hT hf1 s0 s3 s5 s7 s49 b40 b41
 obtain ⟨s0, s3, s5, s7⟩ := hKp
 refine Fact.then_normal ?_
 exact ⟨_, by have := HK2.out; omega, k + 1, _, rfl, by omega, hf, s0, s3, s5, by rw [s7]; rfl, by rw [HF.out]; exact how5, hb5⟩))
 · (
 have hke : k = es.length := by have h9 := of_decide_eq_false hq3; omega
 rw [hke, List.take_length] at how3
 clear hq3 hke
 refine wp_exit ?_
 refine Fact.then_exit ?_
 refine Fact.then_exit ?_
 refine Fact.block_exit ?_
 refine nx (hK19 _ _ ?_)
 refine Fact.sq fun K25 hK25 => ?_
 refine rg ?_
 have b57 := hf.b 57
 refine fp fun K Z => ?_
 go_simp
 apply Z.out; clear Z K
 refine fp fun K Z => ?_
 go_simp
 apply Z.out; clear Z K
 refine Fact.z hf fun fr1 hf1 hT => ?_
 have hKp := hT 4
 simp (decide := true) only [Fact.G, hf.size, reduceIte] at hKp
 replace hf := hf1; clear hT hf1 s0 s3 s5 s7 s39 b57
 have s4 := hKp; clear hKp
 refine nx (hK25 _ _ ?_)
 refine wp_ret ?_
 exact Fact.ret1 rfl hf s4 ⟨_, rfl, own_less how3 hs1, hb1.trans (hb3.mono hs1)⟩))))
end Dw
end Go.Proofs.YtgjfhedgdbbinaaDoor
