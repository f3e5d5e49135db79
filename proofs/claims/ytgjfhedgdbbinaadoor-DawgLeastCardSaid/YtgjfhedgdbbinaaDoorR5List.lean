/- Lists with one entry for each word: they rise, and are as they should be. -/
import Derived.Test.YtgjfhedgdbbinaaDoorR5One
import Derived.Test.YtgjfhedgdbbinaaDoorDReg
import Derived.Test.YtgjfhedgdbbinaaDoorTools
namespace Go.Proofs.YtgjfhedgdbbinaaDoor
set_option linter.unusedSimpArgs false
set_option linter.unusedVariables false
set_option linter.unnecessarySimpa false
namespace Dw
def RiseE (l : List Ent) : Prop := l.Pairwise fun a b => lexlt (wl a.word) (wl b.word) = true
theorem tw_all (l : List Ent) (e : Ent) : ∀ x ∈ twE l e, lexlt (wl x.word) (wl e.word) = true := by
  induction l with
  | nil => intro x hx; cases hx
  | cons y l ih =>
    intro x hx
    unfold twE at hx
    rw [List.takeWhile_cons] at hx
    split at hx
    · rename_i h
      rcases List.mem_cons.1 hx with rfl | hx
      · exact h
      · exact ih x hx
    · cases hx
theorem one_rise {l : List Ent} (h : RiseE l) (e : Ent) : RiseE (oneE l e) := by
  unfold RiseE oneE
  rw [List.pairwise_append, List.pairwise_append]
  refine ⟨⟨h.sublist (List.takeWhile_sublist _), List.pairwise_singleton _ _, fun a ha b hb => ?_⟩, h.sublist List.filter_sublist, fun a ha b hb => ?_⟩
  · simp only [List.mem_singleton] at hb
    subst hb
    rw [bareE_word]
    exact tw_all l e a ha
  · have hb := (List.mem_filter.1 hb).2
    rcases List.mem_append.1 ha with ha | ha
    · exact lexlt_trans _ _ _ (tw_all l e a ha) hb
    · simp only [List.mem_singleton] at ha
      subst ha
      rw [bareE_word]
      exact hb
theorem with_rise (es : List Ent) {l : List Ent} (h : RiseE l) : RiseE (withE l es) := by
  induction es generalizing l with
  | nil => exact h
  | cons e es ih => exact ih (one_rise h e)
/-- a rising list has at most one entry more than it had -/
theorem parts_length {l : List Ent} (h : RiseE l) (e : Ent) : (twE l e).length + (l.filter (gtE e)).length ≤ l.length := by
  induction l with
  | nil => simp [twE]
  | cons x l ih =>
    have ih := ih (List.pairwise_cons.1 h).2
    unfold twE at ih ⊢
    simp only [List.takeWhile_cons, List.filter_cons]
    cases h1 : lexlt (wl x.word) (wl e.word) with
    | true =>
      have hg : gtE e x = false := lex_asym _ _ h1
      simp only [hg, Bool.false_eq_true, if_true, if_false, List.length_cons]
      omega
    | false =>
      have h2 := List.length_filter_le (gtE e) l
      simp only [Bool.false_eq_true, if_false, List.length_nil, Nat.zero_add]
      split <;> simp only [List.length_cons] <;> omega
theorem one_length {l : List Ent} (h : RiseE l) (e : Ent) : (oneE l e).length ≤ l.length + 1 := by
  have := parts_length h e
  unfold oneE
  unfold twE gtE at this
  simp only [List.length_append, List.length_cons, List.length_nil]
  omega
theorem with_length (es : List Ent) {l : List Ent} (h : RiseE l) : (withE l es).length ≤ l.length + es.length := by
  induction es generalizing l with
  | nil => simp [withE]
  | cons e es ih =>
    have h1 := ih (one_rise h e)
    have h2 := one_length h e
    show (withE (oneE l e) es).length ≤ _
    simp only [List.length_cons]
    omega
theorem withK_length (es : List Ent) (i : Nat) : (withE [] (es.take i)).length ≤ es.length := by
  have h1 := with_length (es.take i) (l := []) List.Pairwise.nil
  have h2 : (es.take i).length ≤ es.length := by simp; omega
  simp only [List.length_nil, Nat.zero_add] at h1
  omega
theorem one_mem {l : List Ent} {e x : Ent} (h : x ∈ oneE l e) : x ∈ l ∨ x = bareE e := by
  unfold oneE at h
  rcases List.mem_append.1 h with h | h
  · rcases List.mem_append.1 h with h | h
    · exact .inl ((List.takeWhile_sublist _).subset h)
    · exact .inr (by simpa using h)
  · exact .inl (List.mem_filter.1 h).1
theorem with_mem (es : List Ent) {l : List Ent} {x : Ent} (h : x ∈ withE l es) : x ∈ l ∨ ∃ e ∈ es, x = bareE e := by
  induction es generalizing l with
  | nil => exact .inl h
  | cons e es ih =>
    rcases ih (l := oneE l e) h with h1 | ⟨y, hy, h1⟩
    · rcases one_mem h1 with h2 | h2
      · exact .inl h2
      · exact .inr ⟨e, List.mem_cons_self .., h2⟩
    · exact .inr ⟨y, List.mem_cons_of_mem _ hy, h1⟩
theorem bareE_bare (e : Ent) : bareE (bareE e) = bareE e := by
  unfold bareE
  cases h : e.gone <;> simp [h]
theorem ents_ok {ds : List Dra} {n : Nat} (h : ∀ d ∈ ds, okD d) : ∀ e ∈ entsOf ds n, okE e ∧ okW e.word = true ∧ bareE e = e := by
  intro e he
  unfold entsOf at he
  obtain ⟨d, hd, rfl⟩ := List.mem_map.1 he
  exact ⟨ent_okE (h d (List.mem_of_mem_take hd)), ent_okW d, bareE_bare _⟩
theorem ents_length (ds : List Dra) (n : Nat) : (entsOf ds n).length ≤ n := by unfold entsOf; simp; omega
/-- a list that is drawn: its entries are as they may be, it rises -/
theorem list_ok {ds : List Dra} {n : Nat} (h : ∀ d ∈ ds, okD d) : (∀ e ∈ listOf ds n, okE e ∧ okW e.word = true ∧ bareE e = e) ∧ RiseE (listOf ds n) ∧ (listOf ds n).length ≤ n := by
  refine ⟨fun e he => ?_, with_rise _ List.Pairwise.nil, ?_⟩
  · rcases with_mem _ he with h1 | ⟨x, hx, rfl⟩
    · cases h1
    · obtain ⟨h2, h3, h4⟩ := ents_ok h x hx
      rw [h4]
      exact ⟨h2, h3, h4⟩
  · have h1 := with_length (entsOf ds n) (l := []) List.Pairwise.nil
    have h2 := ents_length ds n
    simp only [List.length_nil, Nat.zero_add] at h1
    unfold listOf
    omega
theorem chk_rise : ∀ (l : List Ent) (p : Option (List Nat)), (∀ e ∈ l, okW e.word = true) → RiseE l → (∀ q, p = some q → ∀ e, l.head? = some e → lexlt q (wl e.word) = true) → chkL p l = 0
  | [], _, _, _, _ => rfl
  | e :: l, p, hw, hr, hp => by
    have hr := List.pairwise_cons.1 hr
    have ih := chk_rise l (some (wl e.word)) (fun x hx => hw x (List.mem_cons_of_mem _ hx)) hr.2 (fun q hq x hx => by injection hq with hq; subst hq; exact hr.1 x (List.mem_of_mem_head? hx))
    simp only [chkL, hw e (List.mem_cons_self ..), if_true, ih]
    cases p with
    | none => rfl
    | some q => simp only [hp q rfl e rfl, if_true]
theorem list_chk {ds : List Dra} {n : Nat} (h : ∀ d ∈ ds, okD d) : chkN (listOf ds n) = 0 :=
  chk_rise _ _ (fun e he => ((list_ok h).1 e he).2.1) (list_ok h).2.1 (fun q hq => by cases hq)
end Dw
end Go.Proofs.YtgjfhedgdbbinaaDoor

/- cedillaref05: With, List. -/
namespace Go.Proofs.YtgjfhedgdbbinaaDoor
open Go.RowKit
set_option linter.unusedSimpArgs false
set_option linter.unusedVariables false
set_option linter.unnecessarySimpa false
namespace Dw
set_option maxHeartbeats 4000000 in
set_option maxRecDepth 100000 in
theorem with_ (w : World) (es : List Ent) (B : Nat) (v : Value) (hB : B ≤ w.heap.size) (hre : RE w B v es) (hlen : es.length ≤ 1000) : Calls Tryd.prog 26 #[.slice none 0 0, v] w fun e w1 => ∃ v1, e = .returned v1 ∧ OE w1 w.heap.size v1 (withE [] es) ∧ Below w.heap.size w w1 := by
 refine calls_of_wp Tryd.func26 rfl ?_
 refine Fact.en 22 fun fr hf hT => ?_
 have s0 := hT 0 _ rfl
 have s1 := hT 1 _ rfl
 clear hT
 have hre0 := hre.any
 obtain ⟨A, cc, rfl, hcc⟩ := hre.form
 clear hre
 refine Fact.sq fun K1 hK1 => ?_
 refine rg ?_
 refine fp fun K Z => ?_
 go_simp
 apply Z.out; clear Z K
 refine Fact.z hf fun fr1 hf1 hT => ?_
 have hKp : _ ∧ _ := ⟨hT 0, hT 1⟩
 simp (decide := true) only [Fact.G, reduceIte, s0, s1] at hKp
 replace hf := hf1; clear hT hf1 s0 s1
 obtain ⟨s0, s1⟩ := hKp
 refine nx (hK1 _ _ ?_)
 refine Fact.sq fun K2 hK2 => ?_
 refine rg ?_
 have b7 := hf.b 7
 have b8 := hf.b 8
 refine fp fun K Z => ?_
 go_simp
 apply Z.out; clear Z K
 refine Fact.reL (n := 22) (by simp only [Fact.G, hf.size]) hf.defers (fun fr1 hf1 hT => ?_)
 have hKp : _ ∧ _ := ⟨hT 1, hT 7⟩
 simp (decide := true) only [Fact.G, hf.size, reduceIte, s1] at hKp
 replace hf := hf1; clear hT hf1 s0 s1 b7 b8
 obtain ⟨s1, s7⟩ := hKp
 have b8 := hf.b 8
 refine ⟨?_⟩
 refine wpList_plain rfl fun K5 hK5 => ?_
 refine wp_apps _ _ 28 rfl 42 _ 3 24 Tryd.underlying28 info_ent rfl (by decide) (by decide) w.heap.size _ 0 [] rfl (World.ownsRow_nil _ _ _ _) none 0 0 [] (Fact.eval_tmp s7) rfl (fun h => absurd h (by simp)) (by simp) (by omega) (Nat.le_refl _) (fun v5 w5 hr5 hg5 hat5 => hK5 _ _ ?_)
 refine Fact.L.out ?_
 refine fp fun K Z => ?_
 go_simp
 apply Z.out; clear Z K
 refine Fact.z hf fun fr1 hf1 hT => ?_
 have hKp : _ ∧ _ := ⟨hT 1, hT 5⟩
 simp (decide := true) only [Fact.G, hf.size, reduceIte, s1] at hKp
 replace hf := hf1; clear hT hf1 s1 s7 b8
 obtain ⟨s1, s5⟩ := hKp
 have hb5 : Below w.heap.size w w5 := (Below.refl _ w).grown hg5 (Nat.le_refl _) (fun kk hkk => by cases hkk)
 have how5 : OE w5 w.heap.size v5 [] := hr5
 refine nx (hK2 _ _ ?_)
 refine Fact.sq fun K3 hK3 => ?_
 refine Fact.sq fun K4 hK4 => ?_
 refine rg ?_
 refine fp fun K Z => ?_
 go_simp
 apply Z.out; clear Z K
 refine Fact.z hf fun fr1 hf1 hT => ?_
 have hKp : _ ∧ _ ∧ _ := ⟨hT 1, hT 5, hT 6⟩
 simp (decide := true) only [Fact.G, hf.size, reduceIte, s1, s5] at hKp
 replace hf := hf1; clear hT hf1 s1 s5
 obtain ⟨s1, s5, s6⟩ := hKp
 refine nx (hK4 _ _ ?_)
 refine wp_block ?_
 refine wp_loop_ghost (fun gk fr wr => ∃ (i : Nat) (V : Value), gk = es.length - i ∧ i ≤ es.length ∧ Fact.Fr 22 fr ∧ fr.tmps[1]? = some (.slice A es.length cc) ∧ fr.tmps[5]? = some V ∧ fr.tmps[6]? = some (.int .i64 i) ∧ OE wr w.heap.size V (withE [] (es.take i)) ∧ Below w.heap.size w wr) (es.length) ?_ ?_
 · (
 exact ⟨0, v5, rfl, Nat.zero_le _, hf, s1, s5, s6, how5, hb5⟩)
 · (
 clear hf s1 s5 s6
 rintro gk fr wr ⟨i, V, hk, hi, hf, s1, s5, s6, how, hb⟩
 have HK := Lib.hid hk; clear hk
 refine Fact.sq fun K5 hK5 => ?_
 refine Fact.sq fun K6 hK6 => ?_
 refine rg ?_
 have b9 := hf.b 9
 have b10 := hf.b 10
 have b11 := hf.b 11
 refine fp fun K Z => ?_
 go_simp
 apply Z.out; clear Z K
 refine fp fun K Z => ?_
 go_simp
 apply Z.out; clear Z K
 refine fp fun K Z => ?_
 go_simp
 apply Z.out; clear Z K
 refine fp fun K Z => ?_
 go_simp
 apply Z.out; clear Z K
 refine Fact.z hf fun fr1 hf1 hT => ?_
 have hKp : _ ∧ _ ∧ _ ∧ _ := ⟨hT 1, hT 5, hT 6, hT 12⟩
 simp (decide := true) only [Fact.G, hf.size, reduceIte, s1, s5, s6] at hKp
 replace hf := hf1; clear hT hf1 s1 s5 s6 b9 b10 b11
 obtain ⟨s1, s5, s6, s12⟩ := hKp
 refine nx (hK6 _ _ ?_)
 refine Fact.cond_s s12 (fun hq => ?_) (fun hq => ?_)
 · (
 have hlt : i < es.length := by have h9 := of_decide_eq_true hq; omega
 have HQ := Lib.hid hq; clear hq
 obtain ⟨q, hiq⟩ : ∃ q, es[i]? = some q := ⟨_, List.getElem?_eq_getElem hlt⟩
 obtain ⟨b, off, rfl, hbB, hbl, d0, d1, d2⟩ := (hre0.below hb).at_ hiq
 have hst : withE [] (es.take (i + 1)) = oneE (withE [] (es.take i)) q := by rw [List.take_add_one, hiq]; simp [withE]
 have HST := Lib.hid hst; clear hst hiq
 obtain ⟨xs, hxs⟩ : ∃ x, withE [] (es.take i) = x := ⟨_, rfl⟩
 rw [hxs] at how
 have hln0 := withK_length es i; rw [hxs] at hln0
 have hln : xs.length ≤ 100000 := by omega
 have HXS := Lib.hid hxs; clear hxs hln0
 obtain ⟨Av, cv, rfl, hcv⟩ := OE.form (es := xs) how
 have hre1 := OE.re (es := xs) how
 refine wp_skip ?_
 refine nx (hK5 _ _ ?_)
 refine Fact.sq fun K7 hK7 => ?_
 refine wp_block ?_
 refine rg ?_
 have b15 := hf.b 15
 have b16 := hf.b 16
 have b17 := hf.b 17
 have b18 := hf.b 18
 have b19 := hf.b 19
 have b20 := hf.b 20
 refine fp fun K Z => ?_
 go_simp
 apply Z.out; clear Z K
 refine fp fun K Z => ?_
 go_simp
 apply Z.out; clear Z K
 refine fp fun K Z => ?_
 go_simp
 apply Z.out; clear Z K
 refine fp fun K Z => ?_
 go_simp
 try rw [if_pos (by omega)]
 apply Z.out; clear Z K
 refine fp fun K Z => ?_
 go_simp
 apply Z.out; clear Z K
 refine fp fun K Z => ?_
 go_simp
 go_at_call 44; refine (one wr xs _ _ (Nat.le_refl _) hre1 hln q).mono ?_; rintro e w2 ⟨v2, rfl, how2, hb2⟩
 try dsimp only
 apply Z.out; clear Z K
 refine fp fun K Z => ?_
 go_simp
 apply Z.out; clear Z K
 refine Fact.z hf fun fr1 hf1 hT => ?_
 have hKp : _ ∧ _ ∧ _ := ⟨hT 1, hT 5, hT 6⟩
 simp (decide := true) only [Fact.G, hf.size, reduceIte, s1, s6] at hKp
 replace hf := hf1; clear hT hf1 s1 s5 s6 s12 b15 b16 b17 b18 b19 b20
 obtain ⟨s1, s5, s6⟩ := hKp
 refine Fact.block_normal ?_
 refine nx (hK7 _ _ ?_)
 refine rg ?_
 have b13 := hf.b 13
 have b14 := hf.b 14
 refine fp fun K Z => ?_
 go_simp
 apply Z.out; clear Z K
 refine fp fun K Z => ?_
 go_simp
 try simp (disch := omega) only [Fact.W]
 apply Z.out; clear Z K
 refine fp fun K Z => ?_
 go_simp
 apply Z.out; clear Z K
 refine Fact.z hf fun fr1 hf1 hT => ?_
 have hKp : _ ∧ _ ∧ _ := ⟨hT 1, hT 5, hT 6⟩
 simp (decide := true) only [Fact.G, hf.size, reduceIte, s1, s5] at hKp
 replace hf := hf1; clear hT hf1 s1 s5 s6 b13 b14
 obtain ⟨s1, s5, s6⟩ := hKp
 refine Fact.then_normal ?_
 exact ⟨_, by have := HK.out; omega, i + 1, v2, rfl, by omega, hf, s1, s5, by rw [s6]; rfl, by rw [HST.out, HXS.out]; exact own_less how2 hb.size, hb.trans (hb2.mono hb.size)⟩)
 · (
 have hke : i = es.length := by have h9 := of_decide_eq_false hq; omega
 rw [hke, List.take_length] at how
 clear hq hke
 refine wp_exit ?_
 refine Fact.then_exit ?_
 refine Fact.then_exit ?_
 refine Fact.block_exit ?_
 refine nx (hK3 _ _ ?_)
 refine Fact.sq fun K8 hK8 => ?_
 refine rg ?_
 have b21 := hf.b 21
 refine fp fun K Z => ?_
 go_simp
 apply Z.out; clear Z K
 refine fp fun K Z => ?_
 go_simp
 apply Z.out; clear Z K
 refine Fact.z hf fun fr1 hf1 hT => ?_
 have hKp := hT 4
 simp (decide := true) only [Fact.G, hf.size, reduceIte] at hKp
 replace hf := hf1; clear hT hf1 s1 s5 s6 s12 b21
 have s4 := hKp; clear hKp
 refine nx (hK8 _ _ ?_)
 refine wp_ret ?_
 exact Fact.ret1 rfl hf s4 ⟨_, rfl, how, hb⟩))
set_option maxHeartbeats 4000000 in
set_option maxRecDepth 100000 in
theorem list_ (w : World) (ds : List Dra) (most : Nat) (hm : most ≤ 1000) (v : Value) (hrd : RD w w.heap.size v ds) (hok : ∀ d ∈ ds, okD d) : Calls Tryd.prog 7 #[v, .int .i64 most] w fun e w1 => ∃ v1, e = .returned v1 ∧ OE w1 w.heap.size v1 (listOf ds most) ∧ Below w.heap.size w w1 := by
 refine calls_of_wp Tryd.func7 rfl ?_
 refine Fact.en 9 fun fr hf hT => ?_
 have s0 := hT 0 _ rfl
 have s1 := hT 1 _ rfl
 clear hT
 refine Fact.sq fun K1 hK1 => ?_
 refine rg ?_
 refine fp fun K Z => ?_
 go_simp
 apply Z.out; clear Z K
 refine Fact.z hf fun fr1 hf1 hT => ?_
 have hKp : _ ∧ _ := ⟨hT 0, hT 1⟩
 simp (decide := true) only [Fact.G, reduceIte, s0, s1] at hKp
 replace hf := hf1; clear hT hf1 s0 s1
 obtain ⟨s0, s1⟩ := hKp
 refine nx (hK1 _ _ ?_)
 refine Fact.sq fun K2 hK2 => ?_
 refine rg ?_
 have b5 := hf.b 5
 have b6 := hf.b 6
 have b7 := hf.b 7
 have b8 := hf.b 8
 refine fp fun K Z => ?_
 go_simp
 apply Z.out; clear Z K
 refine fp fun K Z => ?_
 go_simp
 apply Z.out; clear Z K
 refine fp fun K Z => ?_
 go_simp
 go_at_call 17; refine (entries w ds most hm v hrd hok).mono ?_; rintro e w1 ⟨v1, rfl, how1, hb1⟩
 have hre1 := OE.re how1
 have hl1 : (entsOf ds most).length ≤ 1000 := by unfold entsOf; simp; omega
 try dsimp only
 apply Z.out; clear Z K
 refine fp fun K Z => ?_
 go_simp
 go_at_call 26; refine (with_ w1 (entsOf ds most) _ v1 (Nat.le_refl _) hre1 hl1).mono ?_; rintro e w2 ⟨v2, rfl, how2, hb2⟩
 try dsimp only
 apply Z.out; clear Z K
 refine fp fun K Z => ?_
 go_simp
 apply Z.out; clear Z K
 refine Fact.z hf fun fr1 hf1 hT => ?_
 have hKp := hT 4
 simp (decide := true) only [Fact.G, hf.size, reduceIte] at hKp
 replace hf := hf1; clear hT hf1 s0 s1 b5 b6 b7 b8
 have s4 := hKp; clear hKp
 refine nx (hK2 _ _ ?_)
 refine wp_ret ?_
 exact Fact.ret1 rfl hf s4 ⟨_, rfl, own_less how2 hb1.size, hb1.trans (hb2.mono hb1.size)⟩
end Dw
end Go.Proofs.YtgjfhedgdbbinaaDoor
