/- cedillaref05: one. -/
import Derived.Test.YtcddnmhmcieebaaGreatDoorY10
import Derived.Test.YtcddnmhmcieebaaGreatDoorDLawP
import Derived.Test.YtcddnmhmcieebaaGreatDoorTools
import Derived.Test.YtcddnmhmcieebaaGreatDoorY1
namespace Go.Proofs.YtcddnmhmcieebaaGreatDoor
open Go.RowKit
set_option linter.unusedSimpArgs false
set_option linter.unusedVariables false
set_option linter.unnecessarySimpa false
namespace Dw

theorem lex_irr : ∀ x : List Nat, lexlt x x = false
  | [] => rfl
  | a :: x => by simp [lexlt, lex_irr x]
theorem lex_asym : ∀ x y : List Nat, lexlt x y = true → lexlt y x = false
  | _, [], h => by rw [lexlt_nil] at h; cases h
  | [], _ :: _, _ => rfl
  | a :: x, b :: y, h => by
    simp only [lexlt, Bool.or_eq_true, Bool.and_eq_true, decide_eq_true_eq] at h
    simp only [lexlt, Bool.or_eq_false_iff, Bool.and_eq_false_iff, decide_eq_false_iff_not]
    rcases h with h | ⟨h1, h2⟩
    · exact ⟨by omega, .inl (by omega)⟩
    · exact ⟨by omega, .inr (lex_asym x y h2)⟩
theorem lex_tri : ∀ x y : List Nat, lexlt x y = false → x ≠ y → lexlt y x = true
  | [], [], _, h => absurd rfl h
  | [], _ :: _, h, _ => by simp [lexlt] at h
  | _ :: _, [], _, _ => by simp [lexlt]
  | a :: x, b :: y, h, hn => by
    simp only [lexlt, Bool.or_eq_false_iff, Bool.and_eq_false_iff, decide_eq_false_iff_not] at h
    simp only [lexlt, Bool.or_eq_true, Bool.and_eq_true, decide_eq_true_eq]
    by_cases hab : a = b
    · subst hab
      refine .inr ⟨rfl, lex_tri x y ?_ (fun e => hn (by rw [e]))⟩
      rcases h.2 with h2 | h2
      · exact absurd rfl h2
      · exact h2
    · exact .inl (by omega)
theorem wl_eq_iff (a b : ByteArray) : (a.toList == b.toList) = decide (wl a = wl b) := by
  have h : ∀ {x y : Bool}, (x = true ↔ y = true) → x = y := fun {x y} h => by cases x <;> cases y <;> simp_all
  refine h ?_
  rw [beq_iff_eq, decide_eq_true_iff]
  constructor
  · intro e; unfold wl; rw [← ByteArray.toList_eq, ← ByteArray.toList_eq, e]
  · intro e; rw [wl_inj e]
theorem gt_lex (a b : ByteArray) : (!(lexlt (wl a) (wl b) || a.toList == b.toList)) = lexlt (wl b) (wl a) := by
  rw [wl_eq_iff]
  cases h1 : lexlt (wl a) (wl b) with
  | true => rw [lex_asym _ _ h1]; rfl
  | false =>
    by_cases h2 : wl a = wl b
    · rw [decide_eq_true h2, h2, lex_irr]; rfl
    · rw [decide_eq_false h2, lex_tri _ _ h1 h2]; rfl
def twE (l : List Ent) (e : Ent) : List Ent := l.takeWhile fun x => lexlt (wl x.word) (wl e.word)
def gtE (e x : Ent) : Bool := lexlt (wl e.word) (wl x.word)
theorem tw_step {es : List Ent} {i : Nat} {q e : Ent} (h : es[i]? = some q) : twE (es.drop i) e = if lexlt (wl q.word) (wl e.word) = true then q :: twE (es.drop (i + 1)) e else [] := by
  rw [drop_get h]
  unfold twE
  rw [List.takeWhile_cons]
theorem filter_step {es : List Ent} {k : Nat} {q e : Ent} (h : es[k]? = some q) : twE es e ++ [bareE e] ++ (es.take (k + 1)).filter (gtE e) = twE es e ++ [bareE e] ++ ((es.take k).filter (gtE e) ++ if gtE e q = true then [q] else []) := by
  rw [List.take_add_one, h, Option.toList_some, List.filter_append]
  congr 2
  simp only [List.filter_cons, List.filter_nil]
theorem oneK_length (es : List Ent) (e : Ent) (k : Nat) : (twE es e ++ [bareE e] ++ (es.take k).filter (gtE e)).length ≤ 2 * es.length + 1 := by
  have h1 := (List.takeWhile_prefix (fun x : Ent => lexlt (wl x.word) (wl e.word)) (l := es)).length_le
  have h2 := List.length_filter_le (gtE e) (es.take k)
  have h3 : (es.take k).length ≤ es.length := by simp; omega
  simp only [List.length_append, List.length_cons, List.length_nil]
  unfold twE
  omega
set_option maxHeartbeats 4000000 in
set_option maxRecDepth 100000 in
theorem one (w : World) (es : List Ent) (B : Nat) (v : Value) (hB : B ≤ w.heap.size) (hre : RE w B v es) (hlen : es.length ≤ 100000) (e : Ent) : Calls Tryz.prog 55 #[v, eval e] w fun e1 w1 => ∃ v1, e1 = .returned v1 ∧ OE w1 w.heap.size v1 (oneE es e) ∧ Below w.heap.size w w1 := by
 refine Zn2 58 Tryz.func55 fun fr hf s0 s1 => ?_
 have hre0 := hre.any
 obtain ⟨A, cc, rfl, hcc⟩ := hre.form
 clear hre
 simp only [eval] at s1
 refine Ze fun _ hK1 => ?_
 refine Zr [] hf ?_
 refine Zq2 0 3 hf ?_
 clear hf s0 s1; intro fr1 hf sS
 obtain ⟨W1, hW1⟩ : ∃ W0, w.alloc (.cells #[.string e.word, .int .u32 e.weight, .bool e.gone] 64) = W0 := ⟨_, rfl⟩
 try rw [hW1]
 obtain ⟨hb1, x0, x1, x2, -, hz1_⟩ := box3 hW1
 clear hW1
 have hz1 : w.heap.size < W1.heap.size := by rw [hz1_]; exact Nat.lt_succ_self _
 clear hz1_
 have hs1 := hb1.size
 have hre1 := (hre0.below hb1).any
 clear hre0
 refine Zs hK1 fun _ hK2 => ?_
 refine Zr [] hf ?_
 refine Zq3 0 3 5 hf ?_
 clear hf sS; intro fr1 hf sS
 refine Zs hK2 fun _ hK3 => ?_
 refine Ze fun _ hK4 => ?_
 refine Zr [] hf ?_
 refine Zq4 0 3 5 6 hf ?_
 clear hf sS; intro fr1 hf sS
 refine Zx hK4 ?_
 refine wp_block ?_
 refine wp_loop_ghost (fun gk fr wr => ∃ (i : Nat) (V : Value), gk = es.length - i ∧ i ≤ es.length ∧ Fact.Fr 58 fr ∧ fr.tmps[0]? = some (.slice A es.length cc) ∧ fr.tmps[3]? = some (.pointer (some ⟨w.heap.size, 0, none⟩)) ∧ fr.tmps[5]? = some V ∧ fr.tmps[6]? = some (.int .i64 i) ∧ OE wr W1.heap.size V (es.take i) ∧ twE es e = es.take i ++ twE (es.drop i) e ∧ Below W1.heap.size W1 wr) (es.length) ?_ ?_
 · (
 obtain ⟨s0, s3, s5, s6⟩ := sS
 exact ⟨0, _, rfl, Nat.zero_le _, hf, s0, s3, s5, s6, OE.nil_ _ _, rfl, Below.refl _ _⟩)
 · (
 clear hf sS
 rintro gk fr wr ⟨i, V, hk, hi, hf, s0, s3, s5, s6, how, htw, hb⟩
 have HK := Lib.hid hk; have HTW := Lib.hid htw; clear hk htw
 have y0 := cL hb x0; have y1 := cL hb x1; have y2 := cL hb x2
 rcases Nat.lt_or_ge i es.length with hlt | hge
 · (
 have q1 : decide (i < es.length) = true := decide_eq_true hlt
 obtain ⟨q, hiq⟩ : ∃ q, es[i]? = some q := ⟨_, List.getElem?_eq_getElem hlt⟩
 obtain ⟨b, off, rfl, hbB, hbl, d0, d1, d2⟩ := (hre1.below hb).at_ hiq
 have hst := tw_step (e := e) hiq
 have htk : es.take (i + 1) = es.take i ++ [q] := by rw [List.take_add_one, hiq]; rfl
 have HST := Lib.hid hst; have HTK := Lib.hid htk; clear hst htk hiq
 refine Ze fun _ hK5 => ?_
 refine Ze fun _ hK6 => ?_
 refine Stab.tb 58 fun hok => ?_
 refine Stab.mO 0 s6 hf hok ?_
 refine Stab.mO 1 s0 hf hok ?_
 refine Stab.T 2 hf hok (fun _ _ h d => ad (Stab.vd 1 0 d []) (ad (cL h.ext d0) (ad (cL h.ext d1) (ad (cL h.ext d2) (ad (cL h.ext y0) (ad (cL h.ext y1) (ad (cL h.ext y2) (own_later how h.ext)))))))) ?_
 refine Stab.T 3 hf hok (fun _ _ h d => ad (Stab.vd 0 2 d []) (Stab.vd 2 0 d [])) ?_
 refine Stab.mN 4 3 0 hf hok [] ?_
 apply Stab.tr 5 _ hf hok
 · (
 intro fr1 w1 hh hd hk K Z
 have s12 := Stab.v 4 0 hd hk []
 refine Stab.g s12 ?_
 have s0 := Stab.O hh s0
 clear hd
 go_simp
 exact Stab.k Z)
 apply Stab.tr 6 _ hf hok
 · (
 intro fr1 w1 hh hd hk K Z
 have s12 := Stab.v 4 1 hd hk []
 refine Stab.g s12 ?_
 have s6 := Stab.O hh s6
 clear hd
 go_simp
 exact Stab.k Z)
 apply Stab.tr 7 _ hf hok
 · (
 intro fr1 w1 hh hd hk K Z
 have s12 := Stab.v 4 2 hd hk []
 refine Stab.g s12 ?_
 have s13 := Stab.v 5 1 hd hk []
 have s14 := Stab.v 6 0 hd hk []
 clear hd
 go_simp
 try rw [if_pos (by omega)]
 exact Stab.k Z)
 apply Stab.tr 8 _ hf hok
 · (
 intro fr1 w1 hh hd hk K Z
 have s12 := Stab.v 4 3 hd hk []
 refine Stab.g s12 ?_
 have s15 := Stab.v 7 0 hd hk []
 clear hd
 go_simp
 exact Stab.k Z)
 apply Stab.tr 9 _ hf hok
 · (
 intro fr1 w1 hh hd hk K Z
 have s12 := Stab.v 4 4 hd hk []
 refine Stab.g s12 ?_
 have s16 := Stab.v 8 0 hd hk []
 clear hd
 replace d0 := cL hh.ext d0
 replace d1 := cL hh.ext d1
 replace d2 := cL hh.ext d2
 replace y0 := cL hh.ext y0
 replace y1 := cL hh.ext y1
 replace y2 := cL hh.ext y2
 replace how := own_later how hh.ext
 go_simp
 exact Stab.k Z)
 apply Stab.tr 10 _ hf hok
 · (
 intro fr1 w1 hh hd hk K Z
 have s12 := Stab.v 4 5 hd hk []
 refine Stab.g s12 ?_
 have s3 := Stab.O hh s3
 clear hd
 go_simp
 exact Stab.k Z)
 apply Stab.tr 11 _ hf hok
 · (
 intro fr1 w1 hh hd hk K Z
 have s12 := Stab.v 4 6 hd hk []
 refine Stab.g s12 ?_
 have s18 := Stab.v 10 0 hd hk []
 clear hd
 replace d0 := cL hh.ext d0
 replace d1 := cL hh.ext d1
 replace d2 := cL hh.ext d2
 replace y0 := cL hh.ext y0
 replace y1 := cL hh.ext y1
 replace y2 := cL hh.ext y2
 replace how := own_later how hh.ext
 go_simp
 exact Stab.k Z)
 apply Stab.tr 12 _ hf hok
 · (
 intro fr1 w1 hh hd hk K Z
 have s12 := Stab.v 4 7 hd hk []
 refine Stab.g s12 ?_
 have s17 := Stab.v 9 2 hd hk []
 have s19 := Stab.v 11 0 hd hk []
 clear hd
 go_simp
 exact Stab.k Z)
 refine Stab.T 13 hf hok (fun _ _ h d => ad (Stab.vd 4 8 d []) (Stab.vd 12 0 d [])) ?_
 refine Stab.E hf hok (fun _ _ h g => ad (Stab.O h s0) (ad (Stab.O h s3) (ad (Stab.O h s5) (ad (Stab.O h s6) (Stab.f 13 0 g))))) ?_
 clear hf hok s0 s3 s5 s6; intro fr1 w1 hf hx sS
 replace d0 := cL hx d0
 replace d1 := cL hx d1
 replace d2 := cL hx d2
 replace y0 := cL hx y0
 replace y1 := cL hx y1
 replace y2 := cL hx y2
 replace how := own_later how hx
 refine Zx hK6 ?_
 refine Fact.cond_s sS.2.2.2.2 (fun hql => ?_) (fun hql => ?_)
 · (
 rw [less_eq] at hql
 clear q1
 replace hb := hb.trans (hx.mono hb.size)
 have htn : twE es e = es.take (i + 1) ++ twE (es.drop (i + 1)) e := by rw [HTW.out, HST.out, hql, if_pos rfl, HTK.out, List.append_assoc]; rfl
 have HTN := Lib.hid htn; clear htn hql
 obtain ⟨xs, hxs⟩ : ∃ x, es.take i = x := ⟨_, rfl⟩
 rw [hxs] at how
 have hln : xs.length ≤ 1000000 := by rw [← hxs]; simp; omega
 have HXS := Lib.hid hxs; clear hxs
 obtain ⟨Av, cv, rfl, hcv⟩ := OE.form (es := xs) how
 have how2 := how
 refine wp_skip ?_
 refine Zs hK5 fun _ hK7 => ?_
 refine wp_block ?_
 refine rg ?_
 have bB := hf.B7 24 25 26 27 28 29 30
 iterate 3 refine Za ?_
 refine Zi ?_
 iterate 2 refine Za ?_
 obtain ⟨s0, s3, s5, s6, s21⟩ := sS
 clear bB
 refine Fact.reL (n := 58) (by simp only [Fact.G, hf.size]) hf.defers (fun fr1 hf1 hT => ?_)
 have hKp := Fact.h6 hT 0 3 5 6 24 29
 simp (decide := true) only [Fact.G, hf.size, reduceIte, s0, s3, s5, s6] at hKp
 replace hf := hf1; clear hT hf1 s0 s3 s5 s6 s21
 obtain ⟨s0, s3, s5, s6, s24, s29⟩ := hKp
 have bB := hf.b 30
 refine ⟨?_⟩
 refine wpList_plain rfl fun K5 hK5 => ?_
 refine wp_app _ _ 29 rfl 64 _ 3 24 Tryz.underlying29 info_ent rfl (by decide) (by decide) W1.heap.size (.slice Av xs.length cv) xs.length _ (Fact.eval_tmp s24) (how.alloc _) w1.heap.size q.cells (Fact.eval_tmp s29) rfl (lit_new w1 _ _) (ent_one q) (by omega) (by have := hb.size; simp; omega) (fun v5 w5 hr5 hg5 hat5 => hK5 _ _ ?_)
 refine Fact.L.out ?_
 refine Za ?_
 refine Fact.nil (Zq4 0 3 5 6 hf ?_)
 clear hf s0 s3 s5 s6 s24 s29 bB; intro fr1 hf sS
 have hb5 := (hb.alloc hb.size _).grown hg5 (by have := hb.size; simp; omega) (fun kk hkk => (how2.lt kk hkk).1)
 have how5 : OE w5 W1.heap.size v5 (xs ++ [q]) := by unfold OE; rw [ecs_append, List.length_append]; exact hr5
 refine Fact.block_normal ?_
 refine Zx hK7 ?_
 refine Zr [22, 23] hf ?_
 refine Zq4 0 3 5 6 hf ?_
 clear hf sS; intro fr1 hf sS
 refine Fact.then_normal ?_
 obtain ⟨s0, s3, s5, s6⟩ := sS
 exact ⟨_, by have := HK.out; omega, i + 1, v5, rfl, by omega, hf, s0, s3, s5, by rw [s6]; rfl, by rw [HTK.out, HXS.out]; exact how5, HTN.out, hb5⟩)
 · (
 rw [less_eq] at hql
 clear q1
 replace hb := hb.trans (hx.mono hb.size)
 have htw2 : twE es e = es.take i := by rw [HTW.out, HST.out, hql, if_neg (by simp)]; exact List.append_nil _
 clear hql
 refine Zo ?_
 refine Zx hK3 ?_
 have HT2 := Lib.hid htw2; clear htw2
 obtain ⟨xs, hxs⟩ : ∃ x, es.take i = x := ⟨_, rfl⟩
 rw [hxs] at how
 have hln : xs.length ≤ 1000000 := by rw [← hxs]; simp; omega
 have HXS := Lib.hid hxs; clear hxs
 obtain ⟨Av, cv, rfl, hcv⟩ := OE.form (es := xs) how
 refine Ze fun _ hK8 => rg ?_
 have bB := hf.B5 31 32 33 34 35
 iterate 2 refine Za ?_
 refine fp fun K Z => ?_
 go_simp
 go_at_call 93; refine (bare w1 e).mono ?_; rintro e w2 ⟨rfl, hb2⟩
 obtain ⟨Ee, hEe⟩ : ∃ x, bareE e = x := ⟨_, rfl⟩
 rw [hEe]
 have HEe := Lib.hid hEe; clear hEe
 simp only [eval]
 have how2 := own_later how hb2
 have hbx2 := hb.trans (hb2.mono hb.size)
 try dsimp only
 apply Z.out; clear Z K
 refine Za ?_
 obtain ⟨s0, s3, s5, s6, s21⟩ := sS
 clear bB
 refine Fact.reL (n := 58) (by simp only [Fact.G, hf.size]) hf.defers (fun fr1 hf1 hT => ?_)
 have hKp := Fact.h5 hT 0 3 5 31 34
 simp (decide := true) only [Fact.G, hf.size, reduceIte, s0, s3, s5] at hKp
 replace hf := hf1; clear hT hf1 s0 s3 s5 s6 s21
 obtain ⟨s0, s3, s5, s31, s34⟩ := hKp
 have bB := hf.b 35
 refine ⟨?_⟩
 refine wpList_plain rfl fun K5 hK5 => ?_
 refine wp_app _ _ 29 rfl 64 _ 3 24 Tryz.underlying29 info_ent rfl (by decide) (by decide) W1.heap.size (.slice Av xs.length cv) xs.length _ (Fact.eval_tmp s31) (how2.alloc _) w2.heap.size Ee.cells (Fact.eval_tmp s34) rfl (lit_new w2 _ _) (ent_one Ee) (by omega) (by have := hbx2.size; simp; omega) (fun v5 w5 hr5 hg5 hat5 => hK5 _ _ ?_)
 refine Fact.L.out ?_
 refine Za ?_
 refine Fact.nil (Zq3 0 3 5 hf ?_)
 clear hf s0 s3 s5 s31 s34 bB; intro fr1 hf sS
 have hb5 := (hbx2.alloc hbx2.size _).grown hg5 (by have := hbx2.size; simp; omega) (fun kk hkk => (how2.lt kk hkk).1)
 have how5 : OE w5 W1.heap.size v5 (xs ++ [Ee]) := by unfold OE; rw [ecs_append, List.length_append]; exact hr5
 refine Zs hK8 fun _ hK9 => ?_
 refine Ze fun _ hK10 => ?_
 refine Zr [] hf ?_
 refine Zq4 0 3 5 7 hf ?_
 clear hf sS; intro fr1 hf sS
 refine Zx hK10 ?_
 refine wp_block ?_
 refine wp_loop_ghost (fun gk2 fr wr2 => ∃ (k : Nat) (V2 : Value), gk2 = es.length - k ∧ k ≤ es.length ∧ Fact.Fr 58 fr ∧ fr.tmps[0]? = some (.slice (some ⟨b, off, none⟩) es.length cc) ∧ fr.tmps[3]? = some (.pointer (some ⟨w.heap.size, 0, none⟩)) ∧ fr.tmps[5]? = some V2 ∧ fr.tmps[7]? = some (.int .i64 k) ∧ OE wr2 W1.heap.size V2 (twE es e ++ [bareE e] ++ (es.take k).filter (gtE e)) ∧ Below W1.heap.size W1 wr2) (es.length) ?_ ?_
 · (
 obtain ⟨s0, s3, s5, s7⟩ := sS
 exact ⟨0, v5, rfl, Nat.zero_le _, hf, s0, s3, s5, s7, by rw [HT2.out, HXS.out, HEe.out, List.take_zero, List.filter_nil, List.append_nil]; exact how5, hb5⟩)
 · (
 clear hf sS
 rintro gk2 fr wr2 ⟨k, V2, hk2, hk2l, hf, s0, s3, s5, s7, how3, hb3⟩
 have HK2 := Lib.hid hk2; clear hk2
 have z0 := cL hb3 x0; have z1 := cL hb3 x1; have z2 := cL hb3 x2
 refine Ze fun _ hK11 => ?_
 refine Ze fun _ hK12 => ?_
 refine Zr [36, 37, 38] hf ?_
 refine Zq5 0 3 5 7 39 hf ?_
 clear hf s0 s3 s5 s7; intro fr1 hf sS
 refine Zx hK12 ?_
 refine Fact.cond_s sS.2.2.2.2 (fun hq3 => ?_) (fun hq3 => ?_)
 · (
 have hklt : k < es.length := by have h9 := of_decide_eq_true hq3; omega
 have HQ3 := Lib.hid hq3; clear hq3
 obtain ⟨q, hkq⟩ : ∃ q, es[k]? = some q := ⟨_, List.getElem?_eq_getElem hklt⟩
 obtain ⟨b2, off2, he2, hbB2, hbl2, d0, d1, d2⟩ := (hre1.below hb3).at_ hkq
 injection he2 with he2
 injection he2 with he2 he3
 subst he2; subst he3
 have hfs := filter_step (e := e) hkq
 have HFS := Lib.hid hfs; clear hfs hkq
 obtain ⟨xs3, hxs3⟩ : ∃ x, twE es e ++ [bareE e] ++ (es.take k).filter (gtE e) = x := ⟨_, rfl⟩
 have hln3 : xs3.length ≤ 1000000 := by rw [← hxs3]; have := oneK_length es e k; omega
 rw [hxs3] at how3
 have HX3 := Lib.hid hxs3; clear hxs3
 refine wp_skip ?_
 refine Zs hK11 fun _ hK13 => ?_
 refine wp_block ?_
 refine Ze fun _ hK14 => ?_
 obtain ⟨s0, s3, s5, s7, s39⟩ := sS
 refine Stab.tb 58 fun hok => ?_
 refine Stab.mO 0 s0 hf hok ?_
 refine Stab.mO 1 s7 hf hok ?_
 refine Stab.Ti 2 hf hok (fun _ _ h d => ad (Stab.vd 0 1 d []) (Stab.vd 1 0 d [])) ?_
 refine Stab.T 3 hf hok (fun _ _ h d => Stab.vd 2 0 d []) ?_
 refine Stab.T 4 hf hok (fun _ _ h d => ad (Stab.vd 3 0 d []) (ad (cL h.ext d0) (ad (cL h.ext z0) (ad (cL h.ext d1) (ad (cL h.ext d2) (ad (cL h.ext z1) (ad (cL h.ext z2) (own_later how3 h.ext)))))))) ?_
 refine Stab.T 5 hf hok (fun _ _ h d => Stab.O h s3) ?_
 refine Stab.T 6 hf hok (fun _ _ h d => ad (Stab.vd 5 0 d []) (ad (cL h.ext d0) (ad (cL h.ext z0) (ad (cL h.ext d1) (ad (cL h.ext d2) (ad (cL h.ext z1) (ad (cL h.ext z2) (own_later how3 h.ext)))))))) ?_
 refine Stab.T 7 hf hok (fun _ _ h d => ad (Stab.vd 4 2 d []) (Stab.vd 6 0 d [])) ?_
 refine Stab.E hf hok (fun _ _ h g => ad (Stab.O h s0) (ad (Stab.O h s3) (ad (Stab.O h s5) (ad (Stab.O h s7) (Stab.f 7 0 g))))) ?_
 clear hf hok s0 s3 s5 s7 s39; intro fr1 w1 hf hx sS
 replace d0 := cL hx d0
 replace z0 := cL hx z0
 replace d1 := cL hx d1
 replace d2 := cL hx d2
 replace z1 := cL hx z1
 replace z2 := cL hx z2
 replace how3 := own_later how3 hx
 refine Zx hK14 ?_
 refine Fact.cond_s sS.2.2.2.2 (fun hqg => ?_) (fun hqg => ?_)
 · (
 rw [less_eq, gt_lex] at hqg
 have hbx := hb3.trans (hx.mono hb3.size)
 have hgt : gtE e q = true := hqg
 have HGT := Lib.hid hgt; clear hgt hqg
 obtain ⟨Av3, cv3, rfl, hcv3⟩ := OE.form (es := xs3) how3
 have how2 := how3
 refine rg ?_
 have bB := hf.B7 50 51 52 53 54 55 56
 iterate 3 refine Za ?_
 refine Zi ?_
 iterate 2 refine Za ?_
 obtain ⟨s0, s3, s5, s7, s49⟩ := sS
 clear bB
 refine Fact.reL (n := 58) (by simp only [Fact.G, hf.size]) hf.defers (fun fr1 hf1 hT => ?_)
 have hKp := Fact.h6 hT 0 3 5 7 50 55
 simp (decide := true) only [Fact.G, hf.size, reduceIte, s0, s3, s5, s7] at hKp
 replace hf := hf1; clear hT hf1 s0 s3 s5 s7 s49
 obtain ⟨s0, s3, s5, s7, s50, s55⟩ := hKp
 have bB := hf.b 56
 refine ⟨?_⟩
 refine wpList_plain rfl fun K5 hK5 => ?_
 refine wp_app _ _ 29 rfl 64 _ 3 24 Tryz.underlying29 info_ent rfl (by decide) (by decide) W1.heap.size (.slice Av3 xs3.length cv3) xs3.length _ (Fact.eval_tmp s50) (how3.alloc _) w1.heap.size q.cells (Fact.eval_tmp s55) rfl (lit_new w1 _ _) (ent_one q) (by omega) (by have := hbx.size; simp; omega) (fun v5 w5 hr5 hg5 hat5 => hK5 _ _ ?_)
 refine Fact.L.out ?_
 refine Za ?_
 refine Fact.nil (Zq4 0 3 5 7 hf ?_)
 clear hf s0 s3 s5 s7 s50 s55 bB; intro fr1 hf sS
 have hb5 := (hbx.alloc hbx.size _).grown hg5 (by have := hbx.size; simp; omega) (fun kk hkk => (how2.lt kk hkk).1)
 have how5 : OE w5 W1.heap.size v5 (xs3 ++ [q]) := by unfold OE; rw [ecs_append, List.length_append]; exact hr5
 have hfin : twE es e ++ [bareE e] ++ (es.take (k + 1)).filter (gtE e) = xs3 ++ [q] := by rw [HFS.out, HGT.out, if_pos rfl, ← List.append_assoc, HX3.out]
 have HF := Lib.hid hfin; clear hfin
 refine Fact.block_normal ?_
 refine Zx hK13 ?_
 refine Zr [40, 41] hf ?_
 refine Zq4 0 3 5 7 hf ?_
 clear hf sS; intro fr1 hf sS
 refine Fact.then_normal ?_
 obtain ⟨s0, s3, s5, s7⟩ := sS
 exact ⟨_, by have := HK2.out; omega, k + 1, _, rfl, by omega, hf, s0, s3, s5, by rw [s7]; rfl, by rw [HF.out]; exact how5, hb5⟩)
 · (
 rw [less_eq, gt_lex] at hqg
 have hbx := hb3.trans (hx.mono hb3.size)
 have hgt : gtE e q = false := hqg
 have HGT := Lib.hid hgt; clear hgt hqg
 have hfin : twE es e ++ [bareE e] ++ (es.take (k + 1)).filter (gtE e) = xs3 := by rw [HFS.out, HGT.out, if_neg (by simp), List.append_nil, HX3.out]
 have HF := Lib.hid hfin; clear hfin
 have how5 := how3
 have hb5 := hbx
 refine wp_skip ?_
 refine Fact.block_normal ?_
 refine Zx hK13 ?_
 refine Zr [40, 41] hf ?_
 refine Zq4 0 3 5 7 hf ?_
 clear hf sS; intro fr1 hf sS
 refine Fact.then_normal ?_
 obtain ⟨s0, s3, s5, s7⟩ := sS
 exact ⟨_, by have := HK2.out; omega, k + 1, _, rfl, by omega, hf, s0, s3, s5, by rw [s7]; rfl, by rw [HF.out]; exact how5, hb5⟩))
 · (
 have hke : k = es.length := by have h9 := of_decide_eq_false hq3; omega
 rw [hke, List.take_length] at how3
 clear hq3 hke
 refine Zo ?_
 refine Zs hK9 fun _ hK15 => ?_
 refine Zr [57] hf ?_
 refine Zq1 4 hf ?_
 clear hf sS; intro fr1 hf s4
 refine Zx hK15 ?_
 refine Zret ?_
 exact Fact.ret1 rfl hf s4 ⟨_, rfl, own_less how3 hs1, hb1.trans (hb3.mono hs1)⟩))))
 · (
 have q1 : decide (i < es.length) = false := decide_eq_false (by omega)
 refine Ze fun _ hK16 => ?_
 refine Ze fun _ hK17 => ?_
 refine Stab.tb 58 fun hok => ?_
 refine Stab.mO 0 s6 hf hok ?_
 refine Stab.mO 1 s0 hf hok ?_
 refine Stab.T 2 hf hok (fun _ _ h d => ad (Stab.vd 1 0 d []) (ad (cL h.ext y0) (ad (cL h.ext y1) (ad (cL h.ext y2) (own_later how h.ext))))) ?_
 refine Stab.T 3 hf hok (fun _ _ h d => ad (Stab.vd 0 2 d []) (Stab.vd 2 0 d [])) ?_
 refine Stab.mN 4 3 0 hf hok [] ?_
 apply Stab.tr 5 _ hf hok
 · (
 intro fr1 w1 hh hd hk K Z
 have s12 := Stab.v 4 0 hd hk []
 refine Stab.sk s12 ?_
 exact Stab.k Z)
 apply Stab.tr 6 _ hf hok
 · (
 intro fr1 w1 hh hd hk K Z
 have s12 := Stab.v 4 1 hd hk []
 refine Stab.sk s12 ?_
 exact Stab.k Z)
 apply Stab.tr 7 _ hf hok
 · (
 intro fr1 w1 hh hd hk K Z
 have s12 := Stab.v 4 2 hd hk []
 refine Stab.sk s12 ?_
 exact Stab.k Z)
 apply Stab.tr 8 _ hf hok
 · (
 intro fr1 w1 hh hd hk K Z
 have s12 := Stab.v 4 3 hd hk []
 refine Stab.sk s12 ?_
 exact Stab.k Z)
 apply Stab.tr 9 _ hf hok
 · (
 intro fr1 w1 hh hd hk K Z
 have s12 := Stab.v 4 4 hd hk []
 refine Stab.sk s12 ?_
 exact Stab.k Z)
 apply Stab.tr 10 _ hf hok
 · (
 intro fr1 w1 hh hd hk K Z
 have s12 := Stab.v 4 5 hd hk []
 refine Stab.sk s12 ?_
 exact Stab.k Z)
 apply Stab.tr 11 _ hf hok
 · (
 intro fr1 w1 hh hd hk K Z
 have s12 := Stab.v 4 6 hd hk []
 refine Stab.sk s12 ?_
 exact Stab.k Z)
 apply Stab.tr 12 _ hf hok
 · (
 intro fr1 w1 hh hd hk K Z
 have s12 := Stab.v 4 7 hd hk []
 refine Stab.sk s12 ?_
 exact Stab.k Z)
 refine Stab.T 13 hf hok (fun _ _ h d => ad (Stab.vd 4 8 d []) (Stab.vd 12 0 d [])) ?_
 refine Stab.E hf hok (fun _ _ h g => ad (Stab.O h s0) (ad (Stab.O h s3) (ad (Stab.O h s5) (ad (Stab.O h s6) (Stab.f 13 0 g))))) ?_
 clear hf hok s0 s3 s5 s6; intro fr1 w1 hf hx sS
 replace y0 := cL hx y0
 replace y1 := cL hx y1
 replace y2 := cL hx y2
 replace how := own_later how hx
 refine Zx hK17 ?_
 refine Fact.cond_f sS.2.2.2.2 ?_
 clear q1
 have htw2 : twE es e = es.take i := by rw [HTW.out, List.drop_eq_nil_of_le (by omega)]; exact List.append_nil _
 replace hb := hb.trans (hx.mono hb.size)
 refine Zo ?_
 refine Zx hK3 ?_
 have HT2 := Lib.hid htw2; clear htw2
 obtain ⟨xs, hxs⟩ : ∃ x, es.take i = x := ⟨_, rfl⟩
 rw [hxs] at how
 have hln : xs.length ≤ 1000000 := by rw [← hxs]; simp; omega
 have HXS := Lib.hid hxs; clear hxs
 obtain ⟨Av, cv, rfl, hcv⟩ := OE.form (es := xs) how
 refine Ze fun _ hK18 => rg ?_
 have bB := hf.B5 31 32 33 34 35
 iterate 2 refine Za ?_
 refine fp fun K Z => ?_
 go_simp
 go_at_call 93; refine (bare w1 e).mono ?_; rintro e w2 ⟨rfl, hb2⟩
 obtain ⟨Ee, hEe⟩ : ∃ x, bareE e = x := ⟨_, rfl⟩
 rw [hEe]
 have HEe := Lib.hid hEe; clear hEe
 simp only [eval]
 have how2 := own_later how hb2
 have hbx2 := hb.trans (hb2.mono hb.size)
 try dsimp only
 apply Z.out; clear Z K
 refine Za ?_
 obtain ⟨s0, s3, s5, s6, s21⟩ := sS
 clear bB
 refine Fact.reL (n := 58) (by simp only [Fact.G, hf.size]) hf.defers (fun fr1 hf1 hT => ?_)
 have hKp := Fact.h5 hT 0 3 5 31 34
 simp (decide := true) only [Fact.G, hf.size, reduceIte, s0, s3, s5] at hKp
 replace hf := hf1; clear hT hf1 s0 s3 s5 s6 s21
 obtain ⟨s0, s3, s5, s31, s34⟩ := hKp
 have bB := hf.b 35
 refine ⟨?_⟩
 refine wpList_plain rfl fun K5 hK5 => ?_
 refine wp_app _ _ 29 rfl 64 _ 3 24 Tryz.underlying29 info_ent rfl (by decide) (by decide) W1.heap.size (.slice Av xs.length cv) xs.length _ (Fact.eval_tmp s31) (how2.alloc _) w2.heap.size Ee.cells (Fact.eval_tmp s34) rfl (lit_new w2 _ _) (ent_one Ee) (by omega) (by have := hbx2.size; simp; omega) (fun v5 w5 hr5 hg5 hat5 => hK5 _ _ ?_)
 refine Fact.L.out ?_
 refine Za ?_
 refine Fact.nil (Zq3 0 3 5 hf ?_)
 clear hf s0 s3 s5 s31 s34 bB; intro fr1 hf sS
 have hb5 := (hbx2.alloc hbx2.size _).grown hg5 (by have := hbx2.size; simp; omega) (fun kk hkk => (how2.lt kk hkk).1)
 have how5 : OE w5 W1.heap.size v5 (xs ++ [Ee]) := by unfold OE; rw [ecs_append, List.length_append]; exact hr5
 refine Zs hK18 fun _ hK19 => ?_
 refine Ze fun _ hK20 => ?_
 refine Zr [] hf ?_
 refine Zq4 0 3 5 7 hf ?_
 clear hf sS; intro fr1 hf sS
 refine Zx hK20 ?_
 refine wp_block ?_
 refine wp_loop_ghost (fun gk2 fr wr2 => ∃ (k : Nat) (V2 : Value), gk2 = es.length - k ∧ k ≤ es.length ∧ Fact.Fr 58 fr ∧ fr.tmps[0]? = some (.slice A es.length cc) ∧ fr.tmps[3]? = some (.pointer (some ⟨w.heap.size, 0, none⟩)) ∧ fr.tmps[5]? = some V2 ∧ fr.tmps[7]? = some (.int .i64 k) ∧ OE wr2 W1.heap.size V2 (twE es e ++ [bareE e] ++ (es.take k).filter (gtE e)) ∧ Below W1.heap.size W1 wr2) (es.length) ?_ ?_
 · (
 obtain ⟨s0, s3, s5, s7⟩ := sS
 exact ⟨0, v5, rfl, Nat.zero_le _, hf, s0, s3, s5, s7, by rw [HT2.out, HXS.out, HEe.out, List.take_zero, List.filter_nil, List.append_nil]; exact how5, hb5⟩)
 · (
 clear hf sS
 rintro gk2 fr wr2 ⟨k, V2, hk2, hk2l, hf, s0, s3, s5, s7, how3, hb3⟩
 have HK2 := Lib.hid hk2; clear hk2
 have z0 := cL hb3 x0; have z1 := cL hb3 x1; have z2 := cL hb3 x2
 refine Ze fun _ hK21 => ?_
 refine Ze fun _ hK22 => ?_
 refine Zr [36, 37, 38] hf ?_
 refine Zq5 0 3 5 7 39 hf ?_
 clear hf s0 s3 s5 s7; intro fr1 hf sS
 refine Zx hK22 ?_
 refine Fact.cond_s sS.2.2.2.2 (fun hq3 => ?_) (fun hq3 => ?_)
 · (
 have hklt : k < es.length := by have h9 := of_decide_eq_true hq3; omega
 have HQ3 := Lib.hid hq3; clear hq3
 obtain ⟨q, hkq⟩ : ∃ q, es[k]? = some q := ⟨_, List.getElem?_eq_getElem hklt⟩
 obtain ⟨b, off, rfl, hbB, hbl, d0, d1, d2⟩ := (hre1.below hb3).at_ hkq
 have hfs := filter_step (e := e) hkq
 have HFS := Lib.hid hfs; clear hfs hkq
 obtain ⟨xs3, hxs3⟩ : ∃ x, twE es e ++ [bareE e] ++ (es.take k).filter (gtE e) = x := ⟨_, rfl⟩
 have hln3 : xs3.length ≤ 1000000 := by rw [← hxs3]; have := oneK_length es e k; omega
 rw [hxs3] at how3
 have HX3 := Lib.hid hxs3; clear hxs3
 refine wp_skip ?_
 refine Zs hK21 fun _ hK23 => ?_
 refine wp_block ?_
 refine Ze fun _ hK24 => ?_
 obtain ⟨s0, s3, s5, s7, s39⟩ := sS
 refine Stab.tb 58 fun hok => ?_
 refine Stab.mO 0 s0 hf hok ?_
 refine Stab.mO 1 s7 hf hok ?_
 refine Stab.Ti 2 hf hok (fun _ _ h d => ad (Stab.vd 0 1 d []) (Stab.vd 1 0 d [])) ?_
 refine Stab.T 3 hf hok (fun _ _ h d => Stab.vd 2 0 d []) ?_
 refine Stab.T 4 hf hok (fun _ _ h d => ad (Stab.vd 3 0 d []) (ad (cL h.ext d0) (ad (cL h.ext z0) (ad (cL h.ext d1) (ad (cL h.ext d2) (ad (cL h.ext z1) (ad (cL h.ext z2) (own_later how3 h.ext)))))))) ?_
 refine Stab.T 5 hf hok (fun _ _ h d => Stab.O h s3) ?_
 refine Stab.T 6 hf hok (fun _ _ h d => ad (Stab.vd 5 0 d []) (ad (cL h.ext d0) (ad (cL h.ext z0) (ad (cL h.ext d1) (ad (cL h.ext d2) (ad (cL h.ext z1) (ad (cL h.ext z2) (own_later how3 h.ext)))))))) ?_
 refine Stab.T 7 hf hok (fun _ _ h d => ad (Stab.vd 4 2 d []) (Stab.vd 6 0 d [])) ?_
 refine Stab.E hf hok (fun _ _ h g => ad (Stab.O h s0) (ad (Stab.O h s3) (ad (Stab.O h s5) (ad (Stab.O h s7) (Stab.f 7 0 g))))) ?_
 clear hf hok s0 s3 s5 s7 s39; intro fr1 w1 hf hx sS
 replace d0 := cL hx d0
 replace z0 := cL hx z0
 replace d1 := cL hx d1
 replace d2 := cL hx d2
 replace z1 := cL hx z1
 replace z2 := cL hx z2
 replace how3 := own_later how3 hx
 refine Zx hK24 ?_
 refine Fact.cond_s sS.2.2.2.2 (fun hqg => ?_) (fun hqg => ?_)
 · (
 rw [less_eq, gt_lex] at hqg
 have hbx := hb3.trans (hx.mono hb3.size)
 have hgt : gtE e q = true := hqg
 have HGT := Lib.hid hgt; clear hgt hqg
 obtain ⟨Av3, cv3, rfl, hcv3⟩ := OE.form (es := xs3) how3
 have how2 := how3
 refine rg ?_
 have bB := hf.B7 50 51 52 53 54 55 56
 iterate 3 refine Za ?_
 refine Zi ?_
 iterate 2 refine Za ?_
 obtain ⟨s0, s3, s5, s7, s49⟩ := sS
 clear bB
 refine Fact.reL (n := 58) (by simp only [Fact.G, hf.size]) hf.defers (fun fr1 hf1 hT => ?_)
 have hKp := Fact.h6 hT 0 3 5 7 50 55
 simp (decide := true) only [Fact.G, hf.size, reduceIte, s0, s3, s5, s7] at hKp
 replace hf := hf1; clear hT hf1 s0 s3 s5 s7 s49
 obtain ⟨s0, s3, s5, s7, s50, s55⟩ := hKp
 have bB := hf.b 56
 refine ⟨?_⟩
 refine wpList_plain rfl fun K5 hK5 => ?_
 refine wp_app _ _ 29 rfl 64 _ 3 24 Tryz.underlying29 info_ent rfl (by decide) (by decide) W1.heap.size (.slice Av3 xs3.length cv3) xs3.length _ (Fact.eval_tmp s50) (how3.alloc _) w1.heap.size q.cells (Fact.eval_tmp s55) rfl (lit_new w1 _ _) (ent_one q) (by omega) (by have := hbx.size; simp; omega) (fun v5 w5 hr5 hg5 hat5 => hK5 _ _ ?_)
 refine Fact.L.out ?_
 refine Za ?_
 refine Fact.nil (Zq4 0 3 5 7 hf ?_)
 clear hf s0 s3 s5 s7 s50 s55 bB; intro fr1 hf sS
 have hb5 := (hbx.alloc hbx.size _).grown hg5 (by have := hbx.size; simp; omega) (fun kk hkk => (how2.lt kk hkk).1)
 have how5 : OE w5 W1.heap.size v5 (xs3 ++ [q]) := by unfold OE; rw [ecs_append, List.length_append]; exact hr5
 have hfin : twE es e ++ [bareE e] ++ (es.take (k + 1)).filter (gtE e) = xs3 ++ [q] := by rw [HFS.out, HGT.out, if_pos rfl, ← List.append_assoc, HX3.out]
 have HF := Lib.hid hfin; clear hfin
 refine Fact.block_normal ?_
 refine Zx hK23 ?_
 refine Zr [40, 41] hf ?_
 refine Zq4 0 3 5 7 hf ?_
 clear hf sS; intro fr1 hf sS
 refine Fact.then_normal ?_
 obtain ⟨s0, s3, s5, s7⟩ := sS
 exact ⟨_, by have := HK2.out; omega, k + 1, _, rfl, by omega, hf, s0, s3, s5, by rw [s7]; rfl, by rw [HF.out]; exact how5, hb5⟩)
 · (
 rw [less_eq, gt_lex] at hqg
 have hbx := hb3.trans (hx.mono hb3.size)
 have hgt : gtE e q = false := hqg
 have HGT := Lib.hid hgt; clear hgt hqg
 have hfin : twE es e ++ [bareE e] ++ (es.take (k + 1)).filter (gtE e) = xs3 := by rw [HFS.out, HGT.out, if_neg (by simp), List.append_nil, HX3.out]
 have HF := Lib.hid hfin; clear hfin
 have how5 := how3
 have hb5 := hbx
 refine wp_skip ?_
 refine Fact.block_normal ?_
 refine Zx hK23 ?_
 refine Zr [40, 41] hf ?_
 refine Zq4 0 3 5 7 hf ?_
 clear hf sS; intro fr1 hf sS
 refine Fact.then_normal ?_
 obtain ⟨s0, s3, s5, s7⟩ := sS
 exact ⟨_, by have := HK2.out; omega, k + 1, _, rfl, by omega, hf, s0, s3, s5, by rw [s7]; rfl, by rw [HF.out]; exact how5, hb5⟩))
 · (
 have hke : k = es.length := by have h9 := of_decide_eq_false hq3; omega
 rw [hke, List.take_length] at how3
 clear hq3 hke
 refine Zo ?_
 refine Zs hK19 fun _ hK25 => ?_
 refine Zr [57] hf ?_
 refine Zq1 4 hf ?_
 clear hf sS; intro fr1 hf s4
 refine Zx hK25 ?_
 refine Zret ?_
 exact Fact.ret1 rfl hf s4 ⟨_, rfl, own_less how3 hs1, hb1.trans (hb3.mono hs1)⟩))))
end Dw
end Go.Proofs.YtcddnmhmcieebaaGreatDoor

namespace Go.Proofs.YtcddnmhmcieebaaGreatDoor
set_option linter.unusedSimpArgs false
set_option linter.unusedVariables false
set_option linter.unnecessarySimpa false
namespace Dw
def RiseE (l : List Ent) : Prop := l.Pairwise fun a b => lexlt (wl a.word) (wl b.word) = true
theorem tw_all (l : List Ent) (e : Ent) : ∀ x ∈ twE l e, lexlt (wl x.word) (wl e.word) = true := by
  induction l with
  | nil => intro x hx; cases hx
  | cons y l ih =>
    intro x hx
    unfold twE at hx
    rw [List.takeWhile_cons] at hx
    split at hx
    · rename_i h
      rcases List.mem_cons.1 hx with rfl | hx
      · exact h
      · exact ih x hx
    · cases hx
theorem one_rise {l : List Ent} (h : RiseE l) (e : Ent) : RiseE (oneE l e) := by
  unfold RiseE oneE
  rw [List.pairwise_append, List.pairwise_append]
  refine ⟨⟨h.sublist (List.takeWhile_sublist _), List.pairwise_singleton _ _, fun a ha b hb => ?_⟩, h.sublist List.filter_sublist, fun a ha b hb => ?_⟩
  · simp only [List.mem_singleton] at hb
    subst hb
    rw [bareE_word]
    exact tw_all l e a ha
  · have hb := (List.mem_filter.1 hb).2
    rcases List.mem_append.1 ha with ha | ha
    · exact lexlt_trans _ _ _ (tw_all l e a ha) hb
    · simp only [List.mem_singleton] at ha
      subst ha
      rw [bareE_word]
      exact hb
theorem with_rise (es : List Ent) {l : List Ent} (h : RiseE l) : RiseE (withE l es) := by
  induction es generalizing l with
  | nil => exact h
  | cons e es ih => exact ih (one_rise h e)
/-- a rising list has at most one entry more than it had -/
theorem parts_length {l : List Ent} (h : RiseE l) (e : Ent) : (twE l e).length + (l.filter (gtE e)).length ≤ l.length := by
  induction l with
  | nil => simp [twE]
  | cons x l ih =>
    have ih := ih (List.pairwise_cons.1 h).2
    unfold twE at ih ⊢
    simp only [List.takeWhile_cons, List.filter_cons]
    cases h1 : lexlt (wl x.word) (wl e.word) with
    | true =>
      have hg : gtE e x = false := lex_asym _ _ h1
      simp only [hg, Bool.false_eq_true, if_true, if_false, List.length_cons]
      omega
    | false =>
      have h2 := List.length_filter_le (gtE e) l
      simp only [Bool.false_eq_true, if_false, List.length_nil, Nat.zero_add]
      split <;> simp only [List.length_cons] <;> omega
theorem one_length {l : List Ent} (h : RiseE l) (e : Ent) : (oneE l e).length ≤ l.length + 1 := by
  have := parts_length h e
  unfold oneE
  unfold twE gtE at this
  simp only [List.length_append, List.length_cons, List.length_nil]
  omega
theorem with_length (es : List Ent) {l : List Ent} (h : RiseE l) : (withE l es).length ≤ l.length + es.length := by
  induction es generalizing l with
  | nil => simp [withE]
  | cons e es ih =>
    have h1 := ih (one_rise h e)
    have h2 := one_length h e
    show (withE (oneE l e) es).length ≤ _
    simp only [List.length_cons]
    omega
theorem withK_length (es : List Ent) (i : Nat) : (withE [] (es.take i)).length ≤ es.length := by
  have h1 := with_length (es.take i) (l := []) List.Pairwise.nil
  have h2 : (es.take i).length ≤ es.length := by simp; omega
  simp only [List.length_nil, Nat.zero_add] at h1
  omega
theorem one_mem {l : List Ent} {e x : Ent} (h : x ∈ oneE l e) : x ∈ l ∨ x = bareE e := by
  unfold oneE at h
  rcases List.mem_append.1 h with h | h
  · rcases List.mem_append.1 h with h | h
    · exact .inl ((List.takeWhile_sublist _).subset h)
    · exact .inr (by simpa using h)
  · exact .inl (List.mem_filter.1 h).1
theorem with_mem (es : List Ent) {l : List Ent} {x : Ent} (h : x ∈ withE l es) : x ∈ l ∨ ∃ e ∈ es, x = bareE e := by
  induction es generalizing l with
  | nil => exact .inl h
  | cons e es ih =>
    rcases ih (l := oneE l e) h with h1 | ⟨y, hy, h1⟩
    · rcases one_mem h1 with h2 | h2
      · exact .inl h2
      · exact .inr ⟨e, List.mem_cons_self .., h2⟩
    · exact .inr ⟨y, List.mem_cons_of_mem _ hy, h1⟩
theorem bareE_bare (e : Ent) : bareE (bareE e) = bareE e := by
  unfold bareE
  cases h : e.gone <;> simp [h]
theorem ents_ok {ds : List Dra} {n : Nat} (h : ∀ d ∈ ds, okD d) : ∀ e ∈ entsOf ds n, okE e ∧ okW e.word = true ∧ bareE e = e := by
  intro e he
  unfold entsOf at he
  obtain ⟨d, hd, rfl⟩ := List.mem_map.1 he
  exact ⟨ent_okE (h d (List.mem_of_mem_take hd)), ent_okW d, bareE_bare _⟩
theorem ents_length (ds : List Dra) (n : Nat) : (entsOf ds n).length ≤ n := by unfold entsOf; simp; omega
/-- a list that is drawn: its entries are as they may be, it rises -/
theorem list_ok {ds : List Dra} {n : Nat} (h : ∀ d ∈ ds, okD d) : (∀ e ∈ listOf ds n, okE e ∧ okW e.word = true ∧ bareE e = e) ∧ RiseE (listOf ds n) ∧ (listOf ds n).length ≤ n := by
  refine ⟨fun e he => ?_, with_rise _ List.Pairwise.nil, ?_⟩
  · rcases with_mem _ he with h1 | ⟨x, hx, rfl⟩
    · cases h1
    · obtain ⟨h2, h3, h4⟩ := ents_ok h x hx
      rw [h4]
      exact ⟨h2, h3, h4⟩
  · have h1 := with_length (entsOf ds n) (l := []) List.Pairwise.nil
    have h2 := ents_length ds n
    simp only [List.length_nil, Nat.zero_add] at h1
    unfold listOf
    omega
theorem chk_rise : ∀ (l : List Ent) (p : Option (List Nat)), (∀ e ∈ l, okW e.word = true) → RiseE l → (∀ q, p = some q → ∀ e, l.head? = some e → lexlt q (wl e.word) = true) → chkL p l = 0
  | [], _, _, _, _ => rfl
  | e :: l, p, hw, hr, hp => by
    have hr := List.pairwise_cons.1 hr
    have ih := chk_rise l (some (wl e.word)) (fun x hx => hw x (List.mem_cons_of_mem _ hx)) hr.2 (fun q hq x hx => by injection hq with hq; subst hq; exact hr.1 x (List.mem_of_mem_head? hx))
    simp only [chkL, hw e (List.mem_cons_self ..), if_true, ih]
    cases p with
    | none => rfl
    | some q => simp only [hp q rfl e rfl, if_true]
theorem list_chk {ds : List Dra} {n : Nat} (h : ∀ d ∈ ds, okD d) : chkN (listOf ds n) = 0 :=
  chk_rise _ _ (fun e he => ((list_ok h).1 e he).2.1) (list_ok h).2.1 (fun q hq => by cases hq)
end Dw
end Go.Proofs.YtcddnmhmcieebaaGreatDoor

namespace Go.Proofs.YtcddnmhmcieebaaGreatDoor
open Go.RowKit
set_option linter.unusedSimpArgs false
set_option linter.unusedVariables false
set_option linter.unnecessarySimpa false
namespace Dw
set_option maxHeartbeats 4000000 in
set_option maxRecDepth 100000 in
theorem with_ (w : World) (es : List Ent) (B : Nat) (v : Value) (hB : B ≤ w.heap.size) (hre : RE w B v es) (hlen : es.length ≤ 1000) : Calls Tryz.prog 28 #[.slice none 0 0, v] w fun e w1 => ∃ v1, e = .returned v1 ∧ OE w1 w.heap.size v1 (withE [] es) ∧ Below w.heap.size w w1 := by
 refine Zn2 22 Tryz.func28 fun fr hf s0 s1 => ?_
 have hre0 := hre.any
 obtain ⟨A, cc, rfl, hcc⟩ := hre.form
 clear hre
 refine Ze fun _ hK1 => ?_
 refine Zr [] hf ?_
 refine Zq2 0 1 hf ?_
 clear hf s0 s1; intro fr1 hf sS
 refine Zt hK1 fun _ hK2 => ?_
 have bB := hf.B2 7 8
 refine Za ?_
 obtain ⟨s0, s1⟩ := sS
 clear bB
 refine Fact.reL (n := 22) (by simp only [Fact.G, hf.size]) hf.defers (fun fr1 hf1 hT => ?_)
 have hKp := Fact.h2 hT 1 7
 simp (decide := true) only [Fact.G, hf.size, reduceIte, s1] at hKp
 replace hf := hf1; clear hT hf1 s0 s1
 obtain ⟨s1, s7⟩ := hKp
 have bB := hf.b 8
 refine ⟨?_⟩
 refine wpList_plain rfl fun K5 hK5 => ?_
 refine wp_apps _ _ 29 rfl 64 _ 3 24 Tryz.underlying29 info_ent rfl (by decide) (by decide) w.heap.size _ 0 [] rfl (World.ownsRow_nil _ _ _ _) none 0 0 [] (Fact.eval_tmp s7) rfl (fun h => absurd h (by simp)) (by simp) (by omega) (Nat.le_refl _) (fun v5 w5 hr5 hg5 hat5 => hK5 _ _ ?_)
 refine Fact.L.out ?_
 refine Za ?_
 refine Fact.nil (Zq2 1 5 hf ?_)
 clear hf s1 s7 bB; intro fr1 hf sS
 have hb5 : Below w.heap.size w w5 := (Below.refl _ w).grown hg5 (Nat.le_refl _) (fun kk hkk => by cases hkk)
 have how5 : OE w5 w.heap.size v5 [] := hr5
 refine Zs hK2 fun _ hK3 => ?_
 refine Ze fun _ hK4 => ?_
 refine Zr [] hf ?_
 refine Zq3 1 5 6 hf ?_
 clear hf sS; intro fr1 hf sS
 refine Zx hK4 ?_
 refine wp_block ?_
 refine wp_loop_ghost (fun gk fr wr => ∃ (i : Nat) (V : Value), gk = es.length - i ∧ i ≤ es.length ∧ Fact.Fr 22 fr ∧ fr.tmps[1]? = some (.slice A es.length cc) ∧ fr.tmps[5]? = some V ∧ fr.tmps[6]? = some (.int .i64 i) ∧ OE wr w.heap.size V (withE [] (es.take i)) ∧ Below w.heap.size w wr) (es.length) ?_ ?_
 · (
 obtain ⟨s1, s5, s6⟩ := sS
 exact ⟨0, v5, rfl, Nat.zero_le _, hf, s1, s5, s6, how5, hb5⟩)
 · (
 clear hf sS
 rintro gk fr wr ⟨i, V, hk, hi, hf, s1, s5, s6, how, hb⟩
 have HK := Lib.hid hk; clear hk
 refine Ze fun _ hK5 => ?_
 refine Ze fun _ hK6 => ?_
 refine Zr [9, 10, 11] hf ?_
 refine Zq4 1 5 6 12 hf ?_
 clear hf s1 s5 s6; intro fr1 hf sS
 refine Zx hK6 ?_
 refine Fact.cond_s sS.2.2.2 (fun hq => ?_) (fun hq => ?_)
 · (
 have hlt : i < es.length := by have h9 := of_decide_eq_true hq; omega
 have HQ := Lib.hid hq; clear hq
 obtain ⟨q, hiq⟩ : ∃ q, es[i]? = some q := ⟨_, List.getElem?_eq_getElem hlt⟩
 obtain ⟨b, off, rfl, hbB, hbl, d0, d1, d2⟩ := (hre0.below hb).at_ hiq
 have hst : withE [] (es.take (i + 1)) = oneE (withE [] (es.take i)) q := by rw [List.take_add_one, hiq]; simp [withE]
 have HST := Lib.hid hst; clear hst hiq
 obtain ⟨xs, hxs⟩ : ∃ x, withE [] (es.take i) = x := ⟨_, rfl⟩
 rw [hxs] at how
 have hln0 := withK_length es i; rw [hxs] at hln0
 have hln : xs.length ≤ 100000 := by omega
 have HXS := Lib.hid hxs; clear hxs hln0
 obtain ⟨Av, cv, rfl, hcv⟩ := OE.form (es := xs) how
 have hre1 := OE.re (es := xs) how
 refine wp_skip ?_
 refine Zs hK5 fun _ hK7 => ?_
 refine wp_block ?_
 refine rg ?_
 have bB := hf.B6 15 16 17 18 19 20
 iterate 3 refine Za ?_
 refine Zi ?_
 refine Za ?_
 refine fp fun K Z => ?_
 go_simp
 go_at_call 55; refine (one wr xs _ _ (Nat.le_refl _) hre1 hln q).mono ?_; rintro e w2 ⟨v2, rfl, how2, hb2⟩
 try dsimp only
 apply Z.out; clear Z K
 refine Za ?_
 refine Fact.nil (Zq3 1 5 6 hf ?_)
 clear hf sS bB; intro fr1 hf sS
 refine Fact.block_normal ?_
 refine Zx hK7 ?_
 refine Zr [13, 14] hf ?_
 refine Zq3 1 5 6 hf ?_
 clear hf sS; intro fr1 hf sS
 refine Fact.then_normal ?_
 obtain ⟨s1, s5, s6⟩ := sS
 exact ⟨_, by have := HK.out; omega, i + 1, v2, rfl, by omega, hf, s1, s5, by rw [s6]; rfl, by rw [HST.out, HXS.out]; exact own_less how2 hb.size, hb.trans (hb2.mono hb.size)⟩)
 · (
 have hke : i = es.length := by have h9 := of_decide_eq_false hq; omega
 rw [hke, List.take_length] at how
 clear hq hke
 refine Zo ?_
 refine Zs hK3 fun _ hK8 => ?_
 refine Zr [21] hf ?_
 refine Zq1 4 hf ?_
 clear hf sS; intro fr1 hf s4
 refine Zx hK8 ?_
 refine Zret ?_
 exact Fact.ret1 rfl hf s4 ⟨_, rfl, how, hb⟩))
set_option maxHeartbeats 4000000 in
set_option maxRecDepth 100000 in
theorem list_ (w : World) (ds : List Dra) (most : Nat) (hm : most ≤ 1000) (v : Value) (hrd : RDs w w.heap.size v ds) (hok : ∀ d ∈ ds, okD d) : Calls Tryz.prog 10 #[v, .int .i64 most] w fun e w1 => ∃ v1, e = .returned v1 ∧ OE w1 w.heap.size v1 (listOf ds most) ∧ Below w.heap.size w w1 := by
 refine Zn2 9 Tryz.func10 fun fr hf s0 s1 => ?_
 refine Ze fun _ hK1 => ?_
 refine Zr [] hf ?_
 refine Zq2 0 1 hf ?_
 clear hf s0 s1; intro fr1 hf sS
 refine Zt hK1 fun _ hK2 => ?_
 have bB := hf.B4 5 6 7 8
 iterate 2 refine Za ?_
 refine fp fun K Z => ?_
 go_simp
 go_at_call 29; refine (entries w ds most hm v hrd hok).mono ?_; rintro e w1 ⟨v1, rfl, how1, hb1⟩
 have hre1 := OE.re how1
 have hl1 : (entsOf ds most).length ≤ 1000 := by unfold entsOf; simp; omega
 try dsimp only
 apply Z.out; clear Z K
 refine fp fun K Z => ?_
 go_simp
 go_at_call 28; refine (with_ w1 (entsOf ds most) _ v1 (Nat.le_refl _) hre1 hl1).mono ?_; rintro e w2 ⟨v2, rfl, how2, hb2⟩
 try dsimp only
 apply Z.out; clear Z K
 refine Za ?_
 refine Fact.nil (Zq1 4 hf ?_)
 clear hf sS bB; intro fr1 hf s4
 refine Zx hK2 ?_
 refine Zret ?_
 exact Fact.ret1 rfl hf s4 ⟨_, rfl, own_less how2 hb1.size, hb1.trans (hb2.mono hb1.size)⟩
end Dw
end Go.Proofs.YtcddnmhmcieebaaGreatDoor

namespace Go.Proofs.YtcddnmhmcieebaaGreatDoor
set_option linter.unusedSimpArgs false
set_option linter.unusedVariables false
set_option linter.unnecessarySimpa false
namespace Dw
def shift (b o : Nat) (e : Wv) : Wv := (b :: e.1, o + e.2)
def fin1 (s : State) : List Wv := if s.final then [([], s.out)] else []
def wds (ss : List State) : Nat → Nat → List Wv
  | 0, k => match ss[k]? with | none => [] | some s => fin1 s
  | m + 1, k => match ss[k]? with | none => [] | some s => fin1 s ++ s.arcs.flatMap fun a => (wds ss m a.to.toNat).map (shift a.byte a.out)
def lessW (n : Nat) (e : Wv) : Wv := (e.1, e.2 - n)
def rel (l : List Wv) : List Wv := l.map (lessW (leastV l))
theorem leastV_le {l : List Wv} : ∀ e ∈ l, leastV l ≤ e.2 := fun e he => (leastV_least (List.ne_nil_of_mem he)).2 e.2 (List.mem_map_of_mem he)
theorem AllLt.mono {f g : Nat} {l : List Wv} (h : AllLt f l) (hfg : f ≤ g) : AllLt g l := fun e he => Nat.lt_of_lt_of_le (h e he) hfg
section
variable {f : Nat} (IH : ∀ (l : List Wv) (ss SS : List State) (m : Nat), AllLt f l → l ≠ [] → Rise l → Inv ss → AllLt (m + 1) l → (K f ss l).1 <+: SS → wds SS m (K f ss l).2 = rel l)
include IH
end
end Dw
end Go.Proofs.YtcddnmhmcieebaaGreatDoor

namespace Go.Proofs.YtcddnmhmcieebaaGreatDoor
set_option linter.unusedSimpArgs false
set_option linter.unusedVariables false
set_option linter.unnecessarySimpa false
namespace Dw
/-- what words go on with behind a beginning -/
def sub (l : List Wv) (p : List Nat) : List Wv := (l.filter fun e => p.isPrefixOf e.1).map fun e => (e.1.drop p.length, e.2)
section
variable {f : Nat} (IHB : ∀ (l : List Wv) (ss SS : List State) (m : Nat), AllLt f l → l ≠ [] → Rise l → Inv ss → AllLt (m + 1) l → (K f ss l).1 <+: SS → ∀ k, ss.length ≤ k → k < (K f ss l).1.length → ∃ e ∈ l, ∃ p, p <+: e.1 ∧ wds SS m k = rel (sub l p))
  (IHA : ∀ (l : List Wv) (ss SS : List State) (m : Nat), AllLt f l → l ≠ [] → Rise l → Inv ss → AllLt (m + 1) l → (K f ss l).1 <+: SS → ∀ e ∈ l, ∀ p, p <+: e.1 → ∃ k, k < SS.length ∧ wds SS m k = rel (sub l p))
include IHB IHA
end
end Dw
end Go.Proofs.YtcddnmhmcieebaaGreatDoor
