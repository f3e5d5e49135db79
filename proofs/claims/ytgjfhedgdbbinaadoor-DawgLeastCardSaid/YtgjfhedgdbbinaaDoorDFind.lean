/- cedillaref05: Same, Find. -/
import Derived.Test.YtgjfhedgdbbinaaDoorDOf
import Derived.Test.YtgjfhedgdbbinaaDoorTools
namespace Go.Proofs.YtgjfhedgdbbinaaDoor
open Go.RowKit
set_option linter.unusedSimpArgs false
set_option linter.unusedVariables false
set_option linter.unnecessarySimpa false
namespace Dw

theorem str_eq {a b : ByteArray} (h : (a.toList == b.toList) = true) : a = b := by
  rw [wl_eq_iff] at h
  exact wl_inj (of_decide_eq_true h)
theorem str_ne {a b : ByteArray} (h : (a.toList == b.toList) = false) : a ≠ b := by
  rw [wl_eq_iff] at h
  exact fun e => of_decide_eq_false h (by rw [e])
theorem ent_neq {p q : Ent} {w1 : World} : (if p.word.toList = q.word.toList then if p.weight = q.weight then if p.gone = q.gone then (Result.ok (Next.value (Value.bool false)) w1 : Result Next) else .ok (.value (.bool true)) w1 else .ok (.value (.bool true)) w1 else .ok (.value (.bool true)) w1) = .ok (.value (.bool (decide (p ≠ q)))) w1 := by
  cases p with | mk a b c => cases q with | mk a' b' c' =>
  by_cases h1 : a = a'
  · subst h1
    by_cases h2 : b = b'
    · by_cases h3 : c = c'
      · subst h2; subst h3; simp
      · simp [h2, h3]
    · simp [h2]
  · have h5 : a.toList ≠ a'.toList := fun h => h1 (str_eq (beq_iff_eq.2 h))
    simp [h1, h5]
theorem find_at {es : List Ent} {i : Nat} {q : Ent} {s : ByteArray} (hi : es[i]? = some q) (hn : findE (es.take i) s = none) (hq : q.word = s) : findE es s = some q := by
  rw [← List.take_append_drop i es]
  unfold findE at hn ⊢
  rw [List.find?_append, hn, drop_get hi, List.find?_cons, decide_eq_true hq]
  rfl
theorem find_not {es : List Ent} {i : Nat} {q : Ent} {s : ByteArray} (hi : es[i]? = some q) (hn : findE (es.take i) s = none) (hq : q.word ≠ s) : findE (es.take (i + 1)) s = none := by
  unfold findE at hn ⊢
  rw [List.take_add_one, hi, List.find?_append, hn]
  simp [hq]
set_option maxHeartbeats 4000000 in
set_option maxRecDepth 100000 in
theorem same_len5 (w : World) (a b : List Ent) (Ba Bb : Nat) (va vb : Value) (hBa : Ba ≤ w.heap.size) (hBb : Bb ≤ w.heap.size) (ha : RE w Ba va a) (hb : RE w Bb vb b) (hla : a.length ≤ 1000000) (hlb : b.length ≤ 1000000) (h1 : ((a.length : Int) != (b.length : Int)) = true) : Calls Tryd.prog 11 #[va, vb] w fun e w1 => e = .returned (.bool false) ∧ Below w.heap.size w w1 := by
 refine calls_of_wp Tryd.func11 rfl ?_
 refine Fact.en 26 fun fr hf hT => ?_
 have s0 := hT 0 _ rfl
 have s1 := hT 1 _ rfl
 clear hT
 have ha0 := ha.any; have hb0 := hb.any
 obtain ⟨Aa, ca, rfl, hca⟩ := ha.form
 obtain ⟨Ab, cb, rfl, hcb⟩ := hb.form
 clear ha hb
 have q1 : ((a.length : Int) != (b.length : Int)) = true := h1
 refine Fact.sq fun K1 hK1 => ?_
 refine rg ?_
 refine fp fun K Z => ?_
 go_simp
 apply Z.out; clear Z K
 refine Fact.z hf fun fr1 hf1 hT => ?_
 have hKp : _ ∧ _ := ⟨hT 0, hT 1⟩
 simp (decide := true) only [Fact.G, reduceIte, s0, s1] at hKp
 replace hf := hf1; clear hT hf1 s0 s1
 obtain ⟨s0, s1⟩ := hKp
 refine nx (hK1 _ _ ?_)
 refine Fact.sq fun K2 hK2 => ?_
 refine Fact.sq fun K3 hK3 => ?_
 refine rg ?_
 have b6 := hf.b 6
 have b7 := hf.b 7
 have b8 := hf.b 8
 have b9 := hf.b 9
 refine fp fun K Z => ?_
 go_simp
 apply Z.out; clear Z K
 refine fp fun K Z => ?_
 go_simp
 apply Z.out; clear Z K
 refine fp fun K Z => ?_
 go_simp
 apply Z.out; clear Z K
 refine fp fun K Z => ?_
 go_simp
 apply Z.out; clear Z K
 refine fp fun K Z => ?_
 go_simp
 apply Z.out; clear Z K
 refine Fact.z hf fun fr1 hf1 hT => ?_
 have hKp : _ ∧ _ ∧ _ := ⟨hT 0, hT 1, hT 10⟩
 simp (decide := true) only [Fact.G, hf.size, reduceIte, s0, s1] at hKp
 replace hf := hf1; clear hT hf1 s0 s1 b6 b7 b8 b9
 obtain ⟨s0, s1, s10⟩ := hKp
 refine nx (hK3 _ _ ?_)
 refine Fact.cond_t s10 ?_
 refine Fact.sq fun K4 hK4 => ?_
 refine rg ?_
 refine fp fun K Z => ?_
 go_simp
 apply Z.out; clear Z K
 refine Fact.z hf fun fr1 hf1 hT => ?_
 have hKp := hT 4
 simp (decide := true) only [Fact.G, hf.size, reduceIte] at hKp
 replace hf := hf1; clear hT hf1 s0 s1 s10
 have s4 := hKp; clear hKp
 refine nx (hK4 _ _ ?_)
 refine wp_ret ?_
 refine Fact.then_ret ?_
 exact Fact.ret1 rfl hf s4 ⟨rfl, Below.refl _ _⟩
set_option maxHeartbeats 4000000 in
set_option maxRecDepth 100000 in
theorem same_all5 (w : World) (a b : List Ent) (Ba Bb : Nat) (va vb : Value) (hBa : Ba ≤ w.heap.size) (hBb : Bb ≤ w.heap.size) (ha : RE w Ba va a) (hb : RE w Bb vb b) (hla : a.length ≤ 1000000) (hlb : b.length ≤ 1000000) (h1 : ((a.length : Int) != (b.length : Int)) = false) : Calls Tryd.prog 11 #[va, vb] w fun e w1 => e = .returned (.bool (decide (a = b))) ∧ Below w.heap.size w w1 := by
 refine calls_of_wp Tryd.func11 rfl ?_
 refine Fact.en 26 fun fr hf hT => ?_
 have s0 := hT 0 _ rfl
 have s1 := hT 1 _ rfl
 clear hT
 have ha0 := ha.any; have hb0 := hb.any
 obtain ⟨Aa, ca, rfl, hca⟩ := ha.form
 obtain ⟨Ab, cb, rfl, hcb⟩ := hb.form
 clear ha hb
 have q1 : ((a.length : Int) != (b.length : Int)) = false := h1
 refine Fact.sq fun K1 hK1 => ?_
 refine rg ?_
 refine fp fun K Z => ?_
 go_simp
 apply Z.out; clear Z K
 refine Fact.z hf fun fr1 hf1 hT => ?_
 have hKp : _ ∧ _ := ⟨hT 0, hT 1⟩
 simp (decide := true) only [Fact.G, reduceIte, s0, s1] at hKp
 replace hf := hf1; clear hT hf1 s0 s1
 obtain ⟨s0, s1⟩ := hKp
 refine nx (hK1 _ _ ?_)
 refine Fact.sq fun K2 hK2 => ?_
 refine Fact.sq fun K3 hK3 => ?_
 refine rg ?_
 have b6 := hf.b 6
 have b7 := hf.b 7
 have b8 := hf.b 8
 have b9 := hf.b 9
 refine fp fun K Z => ?_
 go_simp
 apply Z.out; clear Z K
 refine fp fun K Z => ?_
 go_simp
 apply Z.out; clear Z K
 refine fp fun K Z => ?_
 go_simp
 apply Z.out; clear Z K
 refine fp fun K Z => ?_
 go_simp
 apply Z.out; clear Z K
 refine fp fun K Z => ?_
 go_simp
 apply Z.out; clear Z K
 refine Fact.z hf fun fr1 hf1 hT => ?_
 have hKp : _ ∧ _ ∧ _ := ⟨hT 0, hT 1, hT 10⟩
 simp (decide := true) only [Fact.G, hf.size, reduceIte, s0, s1] at hKp
 replace hf := hf1; clear hT hf1 s0 s1 b6 b7 b8 b9
 obtain ⟨s0, s1, s10⟩ := hKp
 refine nx (hK3 _ _ ?_)
 refine Fact.cond_f s10 ?_
 have hl : a.length = b.length := by have := bne_eq_false_iff_eq.1 h1; omega
 have HL := Lib.hid hl; clear hl
 clear h1 q1
 refine wp_skip ?_
 refine nx (hK2 _ _ ?_)
 refine Fact.sq fun K4 hK4 => ?_
 refine Fact.sq fun K5 hK5 => ?_
 refine rg ?_
 refine fp fun K Z => ?_
 go_simp
 apply Z.out; clear Z K
 refine Fact.z hf fun fr1 hf1 hT => ?_
 have hKp : _ ∧ _ ∧ _ := ⟨hT 0, hT 1, hT 5⟩
 simp (decide := true) only [Fact.G, hf.size, reduceIte, s0, s1] at hKp
 replace hf := hf1; clear hT hf1 s0 s1 s10
 obtain ⟨s0, s1, s5⟩ := hKp
 refine nx (hK5 _ _ ?_)
 refine wp_block ?_
 refine wp_loop_ghost (fun gk fr wr => ∃ (i : Nat), gk = a.length - i ∧ i ≤ a.length ∧ Fact.Fr 26 fr ∧ fr.tmps[0]? = some (.slice Aa a.length ca) ∧ fr.tmps[1]? = some (.slice Ab b.length cb) ∧ fr.tmps[5]? = some (.int .i64 i) ∧ a.take i = b.take i ∧ Below w.heap.size w wr) (a.length) ?_ ?_
 · (
 exact ⟨0, rfl, Nat.zero_le _, hf, s0, s1, s5, rfl, Below.refl _ _⟩)
 · (
 clear hf s0 s1 s5
 rintro gk fr wr ⟨i, hk, hi, hf, s0, s1, s5, hta, hb⟩
 have HK := Lib.hid hk; have HT := Lib.hid hta; clear hk hta
 refine Fact.sq fun K6 hK6 => ?_
 refine Fact.sq fun K7 hK7 => ?_
 refine rg ?_
 have b11 := hf.b 11
 have b12 := hf.b 12
 have b13 := hf.b 13
 refine fp fun K Z => ?_
 go_simp
 apply Z.out; clear Z K
 refine fp fun K Z => ?_
 go_simp
 apply Z.out; clear Z K
 refine fp fun K Z => ?_
 go_simp
 apply Z.out; clear Z K
 refine fp fun K Z => ?_
 go_simp
 apply Z.out; clear Z K
 refine Fact.z hf fun fr1 hf1 hT => ?_
 have hKp : _ ∧ _ ∧ _ ∧ _ := ⟨hT 0, hT 1, hT 5, hT 14⟩
 simp (decide := true) only [Fact.G, hf.size, reduceIte, s0, s1, s5] at hKp
 replace hf := hf1; clear hT hf1 s0 s1 s5 b11 b12 b13
 obtain ⟨s0, s1, s5, s14⟩ := hKp
 refine nx (hK7 _ _ ?_)
 refine Fact.cond_s s14 (fun hq => ?_) (fun hq => ?_)
 · (
 have hlt : i < a.length := by have h9 := of_decide_eq_true hq; omega
 have hltb : i < b.length := by have := HL.out; omega
 have HQ := Lib.hid hq; clear hq
 obtain ⟨p, hp⟩ : ∃ p, a[i]? = some p := ⟨_, List.getElem?_eq_getElem hlt⟩
 obtain ⟨q, hqb⟩ : ∃ q, b[i]? = some q := ⟨_, List.getElem?_eq_getElem (by have := HL.out; omega)⟩
 obtain ⟨g1, o1, rfl, _, _, d0, d1, d2⟩ := (ha0.below hb).at_ hp
 obtain ⟨g2, o2, rfl, _, _, e0, e1, e2⟩ := (hb0.below hb).at_ hqb
 have HP := Lib.hid hp; have HB := Lib.hid hqb; clear hp hqb
 refine wp_skip ?_
 refine nx (hK6 _ _ ?_)
 refine Fact.sq fun K8 hK8 => ?_
 refine wp_block ?_
 refine Fact.sq fun K9 hK9 => ?_
 refine Stab.tb 26 fun hok => ?_
 refine Stab.mO 0 s0 hf hok ?_
 refine Stab.mO 1 s5 hf hok ?_
 apply Stab.tq 2 _ hf hok
 · (
 intro fr1 w1 hh hd hk K Z
 have s17 := Stab.v 0 1 hd hk []
 have s18 := Stab.v 1 0 hd hk []
 clear hd
 go_simp
 try rw [if_pos (by omega)]
 exact Stab.k Z)
 apply Stab.tq 3 _ hf hok
 · (
 intro fr1 w1 hh hd hk K Z
 have s19 := Stab.v 2 0 hd hk []
 clear hd
 replace d0 := cL hh.ext d0
 replace d1 := cL hh.ext d1
 replace d2 := cL hh.ext d2
 replace e0 := cL hh.ext e0
 replace e1 := cL hh.ext e1
 replace e2 := cL hh.ext e2
 go_simp
 exact Stab.k Z)
 refine Stab.mO 4 s1 hf hok ?_
 refine Stab.mO 5 s5 hf hok ?_
 apply Stab.tq 6 _ hf hok
 · (
 intro fr1 w1 hh hd hk K Z
 have s21 := Stab.v 4 1 hd hk []
 have s22 := Stab.v 5 0 hd hk []
 clear hd
 go_simp
 try rw [if_pos (by omega)]
 exact Stab.k Z)
 apply Stab.tq 7 _ hf hok
 · (
 intro fr1 w1 hh hd hk K Z
 have s23 := Stab.v 6 0 hd hk []
 clear hd
 replace d0 := cL hh.ext d0
 replace d1 := cL hh.ext d1
 replace d2 := cL hh.ext d2
 replace e0 := cL hh.ext e0
 replace e1 := cL hh.ext e1
 replace e2 := cL hh.ext e2
 go_simp
 exact Stab.k Z)
 apply Stab.tq 8 _ hf hok
 · (
 intro fr1 w1 hh hd hk K Z
 have s20 := Stab.v 3 4 hd hk []
 have s24 := Stab.v 7 0 hd hk []
 clear hd
 go_simp
 rw [ent_neq]
 rw [Oper.upon_value]
 exact Stab.k Z)
 refine Stab.tf hf hok fun fr1 w1 hh hg => ?_
 replace s0 := Stab.O hh s0
 replace s1 := Stab.O hh s1
 replace s5 := Stab.O hh s5
 have s25 := Stab.f 8 0 hg
 have hf1 := hh.fr hf
 have hx := hh.ext
 replace d0 := cL hx d0
 replace d1 := cL hx d1
 replace d2 := cL hx d2
 replace e0 := cL hx e0
 replace e1 := cL hx e1
 replace e2 := cL hx e2
 clear hg hh hf hok s14
 have hf := hf1; clear hf1
 refine nx (hK9 _ _ ?_)
 refine Fact.cond_s s25 (fun hq2 => ?_) (fun hq2 => ?_)
 · (
 have HQ2 := Lib.hid hq2; clear hq2
 have hne : a ≠ b := fun e => of_decide_eq_true HQ2.out (Option.some.inj (by rw [← HP.out, ← HB.out, e]))
 have HN := Lib.hid hne; clear hne
 refine Fact.sq fun K10 hK10 => ?_
 refine rg ?_
 refine fp fun K Z => ?_
 go_simp
 apply Z.out; clear Z K
 refine Fact.z hf fun fr1 hf1 hT => ?_
 have hKp := hT 4
 simp (decide := true) only [Fact.G, hf.size, reduceIte] at hKp
 replace hf := hf1; clear hT hf1 s0 s1 s5 s25
 have s4 := hKp; clear hKp
 refine nx (hK10 _ _ ?_)
 refine wp_ret ?_
 refine Fact.block_ret ?_
 refine Fact.then_ret ?_
 refine Fact.then_ret ?_
 refine Fact.block_ret ?_
 refine Fact.then_ret ?_
 exact Fact.ret1 rfl hf s4 ⟨by rw [decide_eq_false HN.out], hb.trans (hx.mono hb.size)⟩)
 · (
 have HQ2 := Lib.hid hq2; clear hq2
 have hpq : p = q := by have := of_decide_eq_false HQ2.out; exact Classical.not_not.1 this
 have hts : a.take (i + 1) = b.take (i + 1) := by rw [List.take_add_one, List.take_add_one, HT.out, HP.out, HB.out, hpq]
 have HTS := Lib.hid hts; clear hts hpq
 refine wp_skip ?_
 refine Fact.block_normal ?_
 refine nx (hK8 _ _ ?_)
 refine rg ?_
 have b15 := hf.b 15
 have b16 := hf.b 16
 refine fp fun K Z => ?_
 go_simp
 apply Z.out; clear Z K
 refine fp fun K Z => ?_
 go_simp
 try simp (disch := omega) only [Fact.W]
 apply Z.out; clear Z K
 refine fp fun K Z => ?_
 go_simp
 apply Z.out; clear Z K
 refine Fact.z hf fun fr1 hf1 hT => ?_
 have hKp : _ ∧ _ ∧ _ := ⟨hT 0, hT 1, hT 5⟩
 simp (decide := true) only [Fact.G, hf.size, reduceIte, s0, s1] at hKp
 replace hf := hf1; clear hT hf1 s0 s1 s5 s25 b15 b16
 obtain ⟨s0, s1, s5⟩ := hKp
 refine Fact.then_normal ?_
 exact ⟨_, by have := HK.out; omega, i + 1, rfl, by omega, hf, s0, s1, by rw [s5]; rfl, HTS.out, hb.trans (hx.mono hb.size)⟩))
 · (
 have hie : i = a.length := by have h9 := of_decide_eq_false hq; omega
 have HIE := Lib.hid hie; clear hie hq
 refine wp_exit ?_
 refine Fact.then_exit ?_
 refine Fact.then_exit ?_
 refine Fact.block_exit ?_
 refine nx (hK4 _ _ ?_)
 refine Fact.sq fun K11 hK11 => ?_
 refine rg ?_
 refine fp fun K Z => ?_
 go_simp
 apply Z.out; clear Z K
 refine Fact.z hf fun fr1 hf1 hT => ?_
 have hKp := hT 4
 simp (decide := true) only [Fact.G, hf.size, reduceIte] at hKp
 replace hf := hf1; clear hT hf1 s0 s1 s5 s14
 have s4 := hKp; clear hKp
 refine nx (hK11 _ _ ?_)
 refine wp_ret ?_
 refine Fact.ret1 rfl hf s4 ⟨?_, hb⟩
 have h5 := HT.out
 rw [HIE.out] at h5
 rw [decide_eq_true (by rwa [List.take_length, HL.out, List.take_length] at h5)]))
theorem same11 (w : World) (a b : List Ent) (Ba Bb : Nat) (va vb : Value) (hBa : Ba ≤ w.heap.size) (hBb : Bb ≤ w.heap.size) (ha : RE w Ba va a) (hb : RE w Bb vb b) (hla : a.length ≤ 1000000) (hlb : b.length ≤ 1000000) : Calls Tryd.prog 11 #[va, vb] w fun e w1 => e = .returned (.bool (decide (a = b))) ∧ Below w.heap.size w w1 := by
  cases h1 : ((a.length : Int) != (b.length : Int)) with
  | false => exact same_all5 w a b Ba Bb va vb hBa hBb ha hb hla hlb h1
  | true =>
    refine (same_len5 w a b Ba Bb va vb hBa hBb ha hb hla hlb h1).mono fun e w1 h => ?_
    rw [decide_eq_false (fun h => by subst h; simp at h1)]
    exact h

set_option maxHeartbeats 4000000 in
set_option maxRecDepth 100000 in
theorem find15 (w : World) (es : List Ent) (B : Nat) (v : Value) (hB : B ≤ w.heap.size) (hre : RE w B v es) (hlen : es.length ≤ 1000000) (s : ByteArray) : Calls Tryd.prog 15 #[v, .string s] w fun e w1 => e = .returned (.tuple #[eval ((findE es s).getD ⟨⟨#[]⟩, 0, false⟩), .bool (findE es s).isSome]) ∧ Below w.heap.size w w1 := by
 refine calls_of_wp Tryd.func15 rfl ?_
 refine Fact.en 25 fun fr hf hT => ?_
 have s0 := hT 0 _ rfl
 have s1 := hT 1 _ rfl
 clear hT
 have hre0 := hre.any
 obtain ⟨A, cc, rfl, hcc⟩ := hre.form
 clear hre
 refine Fact.sq fun K1 hK1 => ?_
 refine rg ?_
 refine fp fun K Z => ?_
 go_simp
 apply Z.out; clear Z K
 refine fp fun K Z => ?_
 go_simp
 apply Z.out; clear Z K
 refine Fact.z hf fun fr1 hf1 hT => ?_
 have hKp : _ ∧ _ ∧ _ := ⟨hT 0, hT 1, hT 4⟩
 simp (decide := true) only [Fact.G, hf.size, reduceIte, s0, s1] at hKp
 replace hf := hf1; clear hT hf1 s0 s1
 obtain ⟨s0, s1, s4⟩ := hKp
 obtain ⟨W0, hW0⟩ : ∃ W0, w.alloc (.cells #[.string ⟨#[]⟩, .int .u32 0, .bool false] 42) = W0 := ⟨_, rfl⟩
 try rw [hW0]
 obtain ⟨hb0, c0, c1, c2, hx0, -⟩ := box3 hW0
 clear hW0
 clear c0 c1 c2
 replace hre0 := hre0.below hb0
 have hz0 := hb0.size
 have hx1 := heap_lt hx0
 refine nx (hK1 _ _ ?_)
 refine Fact.sq fun K2 hK2 => ?_
 refine Fact.sq fun K3 hK3 => ?_
 refine rg ?_
 refine fp fun K Z => ?_
 go_simp
 apply Z.out; clear Z K
 refine Fact.z hf fun fr1 hf1 hT => ?_
 have hKp : _ ∧ _ ∧ _ ∧ _ := ⟨hT 0, hT 1, hT 4, hT 6⟩
 simp (decide := true) only [Fact.G, hf.size, reduceIte, s0, s1, s4] at hKp
 replace hf := hf1; clear hT hf1 s0 s1 s4
 obtain ⟨s0, s1, s4, s6⟩ := hKp
 refine nx (hK3 _ _ ?_)
 refine wp_block ?_
 refine wp_loop_ghost (fun gk fr wr => ∃ (i : Nat), gk = es.length - i ∧ i ≤ es.length ∧ Fact.Fr 25 fr ∧ fr.tmps[0]? = some (.slice A es.length cc) ∧ fr.tmps[1]? = some (.string s) ∧ fr.tmps[4]? = some (.pointer (some ⟨w.heap.size, 0, none⟩)) ∧ fr.tmps[6]? = some (.int .i64 i) ∧ findE (es.take i) s = none ∧ wr = W0) (es.length) ?_ ?_
 · (
 exact ⟨0, rfl, Nat.zero_le _, hf, s0, s1, s4, s6, rfl, rfl⟩)
 · (
 clear hf s0 s1 s4 s6
 rintro gk fr wr ⟨i, hk, hi, hf, s0, s1, s4, s6, hfi, hwr⟩
 subst wr
 have HK := Lib.hid hk; have HFI := Lib.hid hfi; clear hk hfi
 refine Fact.sq fun K4 hK4 => ?_
 refine Fact.sq fun K5 hK5 => ?_
 refine rg ?_
 have b7 := hf.b 7
 have b8 := hf.b 8
 have b9 := hf.b 9
 refine fp fun K Z => ?_
 go_simp
 apply Z.out; clear Z K
 refine fp fun K Z => ?_
 go_simp
 apply Z.out; clear Z K
 refine fp fun K Z => ?_
 go_simp
 apply Z.out; clear Z K
 refine fp fun K Z => ?_
 go_simp
 apply Z.out; clear Z K
 refine Fact.z hf fun fr1 hf1 hT => ?_
 have hKp : _ ∧ _ ∧ _ ∧ _ ∧ _ := ⟨hT 0, hT 1, hT 4, hT 6, hT 10⟩
 simp (decide := true) only [Fact.G, hf.size, reduceIte, s0, s1, s4, s6] at hKp
 replace hf := hf1; clear hT hf1 s0 s1 s4 s6 b7 b8 b9
 obtain ⟨s0, s1, s4, s6, s10⟩ := hKp
 refine nx (hK5 _ _ ?_)
 refine Fact.cond_s s10 (fun hq => ?_) (fun hq => ?_)
 · (
 have hlt : i < es.length := by have h9 := of_decide_eq_true hq; omega
 have HQ := Lib.hid hq; clear hq
 obtain ⟨q, hiq⟩ : ∃ q, es[i]? = some q := ⟨_, List.getElem?_eq_getElem hlt⟩
 obtain ⟨b, off, rfl, _, _, d0, d1, d2⟩ := hre0.at_ hiq
 have HI := Lib.hid hiq; clear hiq
 refine wp_skip ?_
 refine nx (hK4 _ _ ?_)
 refine Fact.sq fun K6 hK6 => ?_
 refine wp_block ?_
 refine Fact.sq fun K7 hK7 => ?_
 refine rg ?_
 have b13 := hf.b 13
 have b14 := hf.b 14
 have b15 := hf.b 15
 have b16 := hf.b 16
 have b17 := hf.b 17
 have b18 := hf.b 18
 refine fp fun K Z => ?_
 go_simp
 apply Z.out; clear Z K
 refine fp fun K Z => ?_
 go_simp
 apply Z.out; clear Z K
 refine fp fun K Z => ?_
 go_simp
 try rw [if_pos (by omega)]
 apply Z.out; clear Z K
 refine fp fun K Z => ?_
 go_simp
 apply Z.out; clear Z K
 refine fp fun K Z => ?_
 go_simp
 apply Z.out; clear Z K
 refine fp fun K Z => ?_
 go_simp
 apply Z.out; clear Z K
 refine fp fun K Z => ?_
 go_simp
 apply Z.out; clear Z K
 refine Fact.z hf fun fr1 hf1 hT => ?_
 have hKp : _ ∧ _ ∧ _ ∧ _ ∧ _ := ⟨hT 0, hT 1, hT 4, hT 6, hT 19⟩
 simp (decide := true) only [Fact.G, hf.size, reduceIte, s0, s1, s4, s6] at hKp
 replace hf := hf1; clear hT hf1 s0 s1 s4 s6 s10 b13 b14 b15 b16 b17 b18
 obtain ⟨s0, s1, s4, s6, s19⟩ := hKp
 refine nx (hK7 _ _ ?_)
 refine Fact.cond_s s19 (fun hq2 => ?_) (fun hq2 => ?_)
 · (
 have hqs : q.word = s := str_eq hq2
 have hfs : findE es s = some q := find_at HI.out HFI.out hqs
 have HFS := Lib.hid hfs; clear hfs hqs hq2
 have z0 := cell_of_row _ _ 0 _ 42 (0, 0) hx0; have z1 := cell_of_row _ _ 1 _ 42 (0, 0) hx0; have z2 := cell_of_row _ _ 2 _ 42 (0, 0) hx0
 simp at z0 z1 z2
 have f0 := frozen_of (i := 0) hx0; have f1 := frozen_of (i := 1) hx0; have f2 := frozen_of (i := 2) hx0
 refine Fact.sq fun K8 hK8 => ?_
 refine rg ?_
 have b20 := hf.b 20
 have b21 := hf.b 21
 have b22 := hf.b 22
 have b23 := hf.b 23
 refine fp fun K Z => ?_
 go_simp
 apply Z.out; clear Z K
 refine fp fun K Z => ?_
 go_simp
 apply Z.out; clear Z K
 refine fp fun K Z => ?_
 go_simp
 try rw [if_pos (by omega)]
 apply Z.out; clear Z K
 refine fp fun K Z => ?_
 go_simp
 apply Z.out; clear Z K
 refine fp fun K Z => ?_
 go_simp
 apply Z.out; clear Z K
 refine fp fun K Z => ?_
 go_simp
 apply Z.out; clear Z K
 refine Fact.z hf fun fr1 hf1 hT => ?_
 have hKp : _ ∧ _ := ⟨hT 4, hT 5⟩
 simp (decide := true) only [Fact.G, hf.size, reduceIte, s4] at hKp
 replace hf := hf1; clear hT hf1 s0 s1 s4 s6 s19 b20 b21 b22 b23
 obtain ⟨s4, s5⟩ := hKp
 refine nx (hK8 _ _ ?_)
 refine wp_ret ?_
 refine Fact.block_ret ?_
 refine Fact.then_ret ?_
 refine Fact.then_ret ?_
 refine Fact.block_ret ?_
 refine Fact.then_ret ?_
 refine ret_ct rfl hf s4 s5 (set_block (set_block (set_block hx0 _) _) _) Tryd.underlying42 rfl (by kernel_rfl) ⟨?_, ((hb0.setCell (p := ⟨w.heap.size, 0, none⟩) (Nat.le_refl _) _).setCell (p := ⟨w.heap.size, 1, none⟩) (Nat.le_refl _) _).setCell (p := ⟨w.heap.size, 2, none⟩) (Nat.le_refl _) _⟩
 rw [HFS.out]
 rfl)
 · (
 have hfs : findE (es.take (i + 1)) s = none := find_not HI.out HFI.out (str_ne hq2)
 have HFS := Lib.hid hfs; clear hfs hq2
 refine wp_skip ?_
 refine Fact.block_normal ?_
 refine nx (hK6 _ _ ?_)
 refine rg ?_
 have b11 := hf.b 11
 have b12 := hf.b 12
 refine fp fun K Z => ?_
 go_simp
 apply Z.out; clear Z K
 refine fp fun K Z => ?_
 go_simp
 try simp (disch := omega) only [Fact.W]
 apply Z.out; clear Z K
 refine fp fun K Z => ?_
 go_simp
 apply Z.out; clear Z K
 refine Fact.z hf fun fr1 hf1 hT => ?_
 have hKp : _ ∧ _ ∧ _ ∧ _ := ⟨hT 0, hT 1, hT 4, hT 6⟩
 simp (decide := true) only [Fact.G, hf.size, reduceIte, s0, s1, s4] at hKp
 replace hf := hf1; clear hT hf1 s0 s1 s4 s6 s19 b11 b12
 obtain ⟨s0, s1, s4, s6⟩ := hKp
 refine Fact.then_normal ?_
 exact ⟨_, by have := HK.out; omega, i + 1, rfl, by omega, hf, s0, s1, s4, by rw [s6]; rfl, HFS.out, rfl⟩))
 · (
 have hie : i = es.length := by have h9 := of_decide_eq_false hq; omega
 have hfn : findE es s = none := by have h9 := HFI.out; rwa [hie, List.take_length] at h9
 have HFN := Lib.hid hfn; clear hfn hie hq
 have z0 := cell_of_row _ _ 0 _ 42 (0, 0) hx0; have z1 := cell_of_row _ _ 1 _ 42 (0, 0) hx0; have z2 := cell_of_row _ _ 2 _ 42 (0, 0) hx0
 simp at z0 z1 z2
 have f0 := frozen_of (i := 0) hx0; have f1 := frozen_of (i := 1) hx0; have f2 := frozen_of (i := 2) hx0
 refine wp_exit ?_
 refine Fact.then_exit ?_
 refine Fact.then_exit ?_
 refine Fact.block_exit ?_
 refine nx (hK2 _ _ ?_)
 refine Fact.sq fun K9 hK9 => ?_
 refine rg ?_
 have b24 := hf.b 24
 refine fp fun K Z => ?_
 go_simp
 apply Z.out; clear Z K
 refine fp fun K Z => ?_
 go_simp
 apply Z.out; clear Z K
 refine fp fun K Z => ?_
 go_simp
 apply Z.out; clear Z K
 refine Fact.z hf fun fr1 hf1 hT => ?_
 have hKp : _ ∧ _ := ⟨hT 4, hT 5⟩
 simp (decide := true) only [Fact.G, hf.size, reduceIte, s4] at hKp
 replace hf := hf1; clear hT hf1 s0 s1 s4 s6 s10 b24
 obtain ⟨s4, s5⟩ := hKp
 refine nx (hK9 _ _ ?_)
 refine wp_ret ?_
 refine ret_ct rfl hf s4 s5 (set_block (set_block (set_block hx0 _) _) _) Tryd.underlying42 rfl (by kernel_rfl) ⟨?_, ((hb0.setCell (p := ⟨w.heap.size, 0, none⟩) (Nat.le_refl _) _).setCell (p := ⟨w.heap.size, 1, none⟩) (Nat.le_refl _) _).setCell (p := ⟨w.heap.size, 2, none⟩) (Nat.le_refl _) _⟩
 rw [HFN.out]
 rfl))
end Dw
end Go.Proofs.YtgjfhedgdbbinaaDoor
