/- What is laid is read back; what is read is laid again just so. -/
import Derived.Test.YtcddnmhmcieebaaGreatDoorY14
import Derived.Test.YtcddnmhmcieebaaGreatDoorY16
namespace Go.Proofs.YtcddnmhmcieebaaGreatDoor
open Go.RowKit
set_option linter.unusedSimpArgs false
set_option linter.unusedVariables false
set_option linter.unnecessarySimpa false
namespace Dw
theorem pNum_put {s : ByteArray} {pre post : List Nat} {n lo hi : Nat} (h : wl s = pre ++ numB n ++ post) (hn : n < M64) (h1 : lo <= n) (h2 : n <= hi) : pNum s lo hi pre.length = .ok (n, pre.length + (numB n).length) := by
 unfold pNum
 rw [h, getN_num hn]
 unfold stepN rangeN
 simp only
 rw [if_neg (by simp), if_neg (by rw [if_neg (by omega)]; simp)]
theorem pChar_put {s : ByteArray} {pre post : List Nat} {c : Nat} (h : wl s = pre ++ c :: post) : pChar s pre.length = .ok (c, pre.length + 1) := by
 have hl := congrArg List.length h
 rw [wl_length] at hl
 simp only [List.length_append, List.length_cons] at hl
 have ha := wl_at (s := s) (i := pre.length) (by omega)
 rw [h] at ha
 simp at ha
 have hne : ¬ pre.length = s.size := by omega
 unfold pChar stepN charN
 simp [hne, <- ha]
theorem pMag_put {s : ByteArray} {pre post : List Nat} {k : Nat} (h : wl s = pre ++ magicAt k :: post) : pMag s k pre.length = .ok (magicAt k, pre.length + 1) := by
 have hl := congrArg List.length h
 rw [wl_length] at hl
 simp only [List.length_append, List.length_cons] at hl
 have ha := wl_at (s := s) (i := pre.length) (by omega)
 rw [h] at ha
 simp at ha
 have hne : ¬ pre.length = s.size := by omega
 unfold pMag stepN charN kindN
 simp [hne, <- ha]
def arcIn (i : Nat) (a : Arc) : Prop := okA a /\ 0 <= a.to /\ a.to < (i : Int)
theorem numsB_two (a b : Nat) : numsB [a, b] = numB a ++ numB b := by simp [numsB]
theorem numsB_one (a : Nat) : numsB [a] = numB a := by simp [numsB]
theorem pArcs_put {s : ByteArray} {i : Nat} (hi : i <= 1000000) : ∀ (l acc : List Arc) (pre post : List Nat), wl s = pre ++ arcsB i l ++ post -> (∀ a ∈ l, arcIn i a) -> pArcs s i l.length pre.length acc = .ok (acc ++ l, pre.length + (arcsB i l).length)
 | [], acc, pre, post, _, _ => by simp [pArcs, arcsB]
 | a :: l, acc, pre, post, h, hok => by
  obtain ⟨⟨ha, hao, _, _⟩, h0, h1⟩ := hok a (List.mem_cons_self ..)
  have hsp : arcsB i (a :: l) = a.byte :: (numB a.out ++ (numB (i - a.to.toNat) ++ arcsB i l)) := by
   simp [arcsB, arcB, numsB_two]
  rw [hsp] at h
  simp only [List.length_cons, pArcs]
  rw [pChar_put (c := a.byte) (post := numB a.out ++ (numB (i - a.to.toNat) ++ arcsB i l) ++ post) (by rw [h]; simp)]
  simp only
  rw [show pre.length + 1 = (pre ++ [a.byte]).length by simp, pNum_put (n := a.out) (post := numB (i - a.to.toNat) ++ arcsB i l ++ post) (by rw [h]; simp) (by unfold M64; omega) (by omega) (by omega)]
  simp only
  rw [show (pre ++ [a.byte]).length + (numB a.out).length = (pre ++ [a.byte] ++ numB a.out).length by simp; omega, pNum_put (n := i - a.to.toNat) (post := arcsB i l ++ post) (by rw [h]; simp) (by unfold M64; omega) (by omega) (by omega)]
  simp only
  rw [show (pre ++ [a.byte] ++ numB a.out).length + (numB (i - a.to.toNat)).length = (pre ++ [a.byte] ++ numB a.out ++ numB (i - a.to.toNat)).length by simp; omega, pArcs_put hi l _ (pre ++ [a.byte] ++ numB a.out ++ numB (i - a.to.toNat)) post (by rw [h]; simp) fun x hx => hok x (List.mem_cons_of_mem _ hx)]
  have he : (⟨a.byte, a.out, ((i - (i - a.to.toNat) : Nat) : Int)⟩ : Arc) = a := by
   have e1 : ((i - (i - a.to.toNat) : Nat) : Int) = a.to := by omega
   rw [e1]
  rw [he, hsp]
  simp
  omega
def stIn (i : Nat) (s : State) : Prop := okS s /\ s.arcs.length <= 256 /\ (s.final = false -> s.out = 0) /\ ∀ a ∈ s.arcs, arcIn i a
theorem pState_put {s : ByteArray} {i : Nat} {st : State} (hi : i <= 1000000) (h : stIn i st) (pre post : List Nat) (hw : wl s = pre ++ stB i st ++ post) : pState s i pre.length = .ok (st, pre.length + (stB i st).length) := by
 obtain ⟨⟨hout, _, _⟩, hl, hz, ha⟩ := h
 unfold stB headB at hw |-
 unfold pState
 cases hf : st.final with
 | true =>
  rw [hf, if_pos rfl, numsB_two] at hw
  rw [if_pos rfl, numsB_two]
  rw [pNum_put (n := 2 * st.arcs.length + 1) (post := numB st.out ++ arcsB i st.arcs ++ post) (by rw [hw]; simp) (by unfold M64; omega) (by omega) (by omega)]
  simp only
  unfold pOut
  rw [if_pos (by omega), show pre.length + (numB (2 * st.arcs.length + 1)).length = (pre ++ numB (2 * st.arcs.length + 1)).length by simp, pNum_put (n := st.out) (post := arcsB i st.arcs ++ post) (by rw [hw]; simp) (by unfold M64; omega) (by omega) (by omega)]
  simp only
  rw [show (2 * st.arcs.length + 1) / 2 = st.arcs.length by omega, show (pre ++ numB (2 * st.arcs.length + 1)).length + (numB st.out).length = (pre ++ numB (2 * st.arcs.length + 1) ++ numB st.out).length by simp; omega, pArcs_put hi st.arcs [] (pre ++ numB (2 * st.arcs.length + 1) ++ numB st.out) post (by rw [hw]; simp) ha]
  simp only [pMk, List.nil_append]
  rw [show decide ((2 * st.arcs.length + 1) % 2 = 1) = st.final by rw [hf]; exact decide_eq_true (by omega)]
  simp
  omega
 | false =>
  rw [hf, if_neg (by simp), numsB_one] at hw
  rw [if_neg (by simp), numsB_one]
  rw [pNum_put (n := 2 * st.arcs.length) (post := arcsB i st.arcs ++ post) (by rw [hw]; simp) (by unfold M64; omega) (by omega) (by omega)]
  simp only
  unfold pOut
  rw [if_neg (by omega)]
  simp only
  rw [show 2 * st.arcs.length / 2 = st.arcs.length by omega, show pre.length + (numB (2 * st.arcs.length)).length = (pre ++ numB (2 * st.arcs.length)).length by simp, pArcs_put hi st.arcs [] (pre ++ numB (2 * st.arcs.length)) post (by rw [hw]; simp) ha]
  simp only [pMk, List.nil_append]
  rw [show decide (2 * st.arcs.length % 2 = 1) = st.final by rw [hf]; exact decide_eq_false (by omega)]
  have he : ({ arcs := st.arcs, final := st.final, out := 0 } : State) = st := by rw [<- hz hf]
  rw [he]
  simp
  omega
theorem pStates_put {s : ByteArray} : ∀ (l acc : List State) (i : Nat) (pre post : List Nat), i + l.length <= 1000000 -> wl s = pre ++ statesB i l ++ post -> (∀ k st, l[k]? = some st -> stIn (i + k) st) -> pStates s l.length i pre.length acc = .ok (acc ++ l, pre.length + (statesB i l).length)
 | [], acc, i, pre, post, _, _, _ => by simp [pStates, statesB]
 | st :: l, acc, i, pre, post, hl, h, hok => by
  simp only [List.length_cons] at hl
  simp only [statesB] at h
  simp only [List.length_cons, pStates]
  rw [pState_put (i := i) (by omega) (hok 0 st rfl) pre (statesB (i + 1) l ++ post) (by rw [h]; simp)]
  simp only
  rw [show pre.length + (stB i st).length = (pre ++ stB i st).length by simp, pStates_put l _ (i + 1) (pre ++ stB i st) post (by omega) (by rw [h]; simp) fun k x hx => by
   have h9 := hok (k + 1) x (by simpa using hx)
   rw [show i + 1 + k = i + (k + 1) by omega]
   exact h9]
  simp [statesB]
  omega
theorem pMagic_put {s : ByteArray} {post : List Nat} (h : wl s = [67, 83, 1] ++ post) : pMagic s 3 0 0 = .ok 3 := by
 simp only [pMagic]
 have h0 := pMag_put (k := 0) (pre := []) (post := [83, 1] ++ post) (s := s) (by rw [h]; rfl)
 have h1 := pMag_put (k := 0 + 1) (pre := [67]) (post := [1] ++ post) (s := s) (by rw [h]; rfl)
 have h2 := pMag_put (k := 0 + 1 + 1) (pre := [67, 83]) (post := post) (s := s) (by rw [h]; rfl)
 simp only [List.length_nil, List.length_cons] at h0 h1 h2
 simp only [h0, h1, h2]
theorem mayL_stIn {ss : List State} (hok : ∀ s ∈ ss, okS s) (hm : mayL 0 ss = true) {k : Nat} {st : State} (hk : ss[k]? = some st) : stIn k st := by
 have h1 := mayL_at hm hk
 have h2 := hok st (gM1 hk)
 have h3 : mayL k (ss.drop k) = true := by
  have key : ∀ (l : List State) (i k : Nat), mayL i l = true -> mayL (i + k) (l.drop k) = true := by
   intro l
   induction l with
   | nil => intro i k _; simp [mayL]
   | cons a l ih =>
    intro i k h
    cases k with
    | zero => simpa using h
    | succ k =>
     simp only [mayL, Bool.and_eq_true] at h
     have := ih (i + 1) k h.2
     simp only [List.drop_succ_cons]
     rw [show i + (k + 1) = i + 1 + k by omega]
     exact this
  have := key ss 0 k hm
  rwa [Nat.zero_add] at this
 rw [mayL_step hk] at h3
 simp only [Bool.and_eq_true, decide_eq_true_eq, Bool.or_eq_true] at h3
 refine ⟨h2, h1.1, fun hf => ?_, fun a ha => ⟨h2.2.2 a ha, by have := h1.2 a ha; simpa using this⟩⟩
 rcases h3.1.1.2 with h4 | h4
 ·rw [hf] at h4; cases h4
 ·exact h4
theorem pAll_put {s : ByteArray} {en init : Nat} {ss : List State} (hen : en <= 100000) (hok : ∀ s ∈ ss, okS s) (h0 : 0 < ss.length) (hm : mayL 0 ss = true) (hl : ss.length <= 1000000) (hi : init < M64) (h : wl s = bodyB en init ss) : pAll s = .ok (en, init, ss) := by
 unfold bodyB at h
 rw [numsB_two, numsB_one] at h
 unfold pAll
 rw [pMagic_put (post := numB en ++ numB ss.length ++ statesB 0 ss ++ numB init) (by rw [h]; simp)]
 simp only
 rw [show (3 : Nat) = ([67, 83, 1] : List Nat).length from rfl, pNum_put (pre := ([67, 83, 1] : List Nat)) (n := en) (post := numB ss.length ++ statesB 0 ss ++ numB init) (by rw [h]; simp) (by unfold M64; omega) (by omega) (by omega)]
 simp only
 rw [show ([67, 83, 1] : List Nat).length + (numB en).length = (([67, 83, 1] : List Nat) ++ numB en).length by simp; omega, pNum_put (n := ss.length) (post := statesB 0 ss ++ numB init) (by rw [h]; simp) (by unfold M64; omega) (by omega) (by omega)]
 simp only
 rw [show (([67, 83, 1] : List Nat) ++ numB en).length + (numB ss.length).length = (([67, 83, 1] : List Nat) ++ numB en ++ numB ss.length).length by simp; omega, pStates_put ss [] 0 (([67, 83, 1] : List Nat) ++ numB en ++ numB ss.length) (numB init) (by omega) (by rw [h]; simp) fun k st hk => by rw [Nat.zero_add]; exact mayL_stIn hok hm hk]
 simp only
 rw [show (([67, 83, 1] : List Nat) ++ numB en ++ numB ss.length).length + (statesB 0 ss).length = (([67, 83, 1] : List Nat) ++ numB en ++ numB ss.length ++ statesB 0 ss).length by simp; omega, pNum_put (n := init) (post := []) (by rw [h]; simp) hi (by omega) (by unfold M64 at hi; omega)]
 simp only
 have hsz := congrArg List.length h
 rw [wl_length] at hsz
 rw [if_neg (by rw [hsz]; simp; omega), List.nil_append]
/-! the other way round -/
theorem pNum_back {s : ByteArray} {lo hi p n j : Nat} (h : pNum s lo hi p = .ok (n, j)) : n < M64 /\ lo <= n /\ n <= hi /\ (wl s).drop p = numB n ++ (wl s).drop j := by
 have h1 := pNum_ok h
 have h2 := getN_canon (wl_lt s) h1.2.2.2.2.2
 exact ⟨h2.1, h1.2.2.2.1, h1.2.2.2.2.1, h2.2.1⟩
theorem pChar_back {s : ByteArray} {p c j : Nat} (hp : p <= s.size) (h : pChar s p = .ok (c, j)) : (wl s).drop p = c :: (wl s).drop j := by
 have h1 := pChar_ok hp h
 rw [drop_at h1.2.2.2, h1.1]
theorem pArcs_back {s : ByteArray} {i : Nat} : ∀ {k p : Nat} {acc l : List Arc} {j : Nat}, p <= s.size -> pArcs s i k p acc = .ok (l, j) -> ∃ l', l = acc ++ l' /\ l'.length = k /\ p <= j /\ j <= s.size /\ (wl s).drop p = arcsB i l' ++ (wl s).drop j
 | 0, p, acc, l, j, hp, h => by
  simp only [pArcs] at h
  injection h with h
  injection h with h1 h2
  subst h1; subst h2
  exact ⟨[], by simp, rfl, Nat.le_refl _, hp, by simp [arcsB]⟩
 | k + 1, p, acc, l, j, hp, h => by
  simp only [pArcs] at h
  split at h
  ·cases h
  ·rename_i c p1 hc
   have k1 := pChar_ok hp hc
   have b1 := pChar_back hp hc
   split at h
   ·cases h
   ·rename_i o p2 ho
    have k2 := pNum_ok ho
    have b2 := pNum_back ho
    split at h
    ·cases h
    ·rename_i d p3 hd
     have k3 := pNum_ok hd
     have b3 := pNum_back hd
     obtain ⟨l', h5, h4, h7, h8, h6⟩ := pArcs_back k3.2.1 h
     refine ⟨⟨c, o, ((i - d : Nat) : Int)⟩ :: l', by rw [h5]; simp, by simp [h4], by omega, h8, ?_⟩
     rw [b1, b2.2.2.2, b3.2.2.2, h6]
     simp only [arcsB, List.flatMap_cons, arcB, numsB_two]
     rw [show i - ((i - d : Nat) : Int).toNat = d by have := b3.2.1; have := b3.2.2.1; omega]
     simp
theorem pState_back {s : ByteArray} {i p j : Nat} {st : State} (h : pState s i p = .ok (st, j)) : p < j /\ j <= s.size /\ (wl s).drop p = stB i st ++ (wl s).drop j := by
 unfold pState at h
 split at h
 ·cases h
 ·rename_i n p1 hn
  have k1 := pNum_ok hn
  have b1 := pNum_back hn
  split at h
  ·cases h
  ·rename_i o p2 ho
   cases hl : pArcs s i (n / 2) p2 [] with
   | error b => rw [hl] at h; cases h
   | ok x =>
    obtain ⟨l, p3⟩ := x
    rw [hl] at h
    simp only [pMk] at h
    injection h with h
    injection h with h1 h2
    subst h1; subst h2
    unfold pOut at ho
    unfold stB headB
    simp only
    split at ho
    ·rename_i h1
     have k2 := pNum_ok ho
     have b2 := pNum_back ho
     obtain ⟨l', h5, h3, h8, h9, h6⟩ := pArcs_back k2.2.1 hl
     rw [List.nil_append] at h5
     subst h5
     refine ⟨by omega, h9, ?_⟩
     rw [if_pos (decide_eq_true h1), numsB_two, b1.2.2.2, b2.2.2.2, h6, show 2 * l.length + 1 = n by omega]
     simp
    ·rename_i h1
     injection ho with ho
     injection ho with h7 h8
     subst h7; subst h8
     obtain ⟨l', h5, h3, h8, h9, h6⟩ := pArcs_back k1.2.1 hl
     rw [List.nil_append] at h5
     subst h5
     refine ⟨by omega, h9, ?_⟩
     rw [if_neg (by simpa using h1), numsB_one, b1.2.2.2, h6, show 2 * l.length = n by omega]
     simp
theorem pStates_len {s : ByteArray} : ∀ {k i p : Nat} {acc l : List State} {j : Nat}, p <= s.size -> pStates s k i p acc = .ok (l, j) -> p + k <= s.size
 | 0, i, p, acc, l, j, hp, h => hp
 | k + 1, i, p, acc, l, j, hp, h => by
  simp only [pStates] at h
  split at h
  ·cases h
  ·rename_i st p1 hs
   have b1 := pState_back hs
   have := pStates_len b1.2.1 h
   omega
theorem pStates_back {s : ByteArray} : ∀ {k i p : Nat} {acc l : List State} {j : Nat}, i + k <= 1000000000 -> p <= s.size -> pStates s k i p acc = .ok (l, j) -> ∃ l', l = acc ++ l' /\ l'.length = k /\ p + k <= j /\ j <= s.size /\ (wl s).drop p = statesB i l' ++ (wl s).drop j /\ ∀ m st, l'[m]? = some st -> stIn (i + m) st
 | 0, i, p, acc, l, j, _, hp, h => by
  simp only [pStates] at h
  injection h with h
  injection h with h1 h2
  subst h1; subst h2
  exact ⟨[], by simp, rfl, by omega, hp, by simp [statesB], fun m st hm => by simp at hm⟩
 | k + 1, i, p, acc, l, j, hik, hp, h => by
  simp only [pStates] at h
  split at h
  ·cases h
  ·rename_i st p1 hs
   have k1 := pState_ok (by omega) hs
   have b1 := pState_back hs
   obtain ⟨l', h5, h6, h7, h8, h9, h10⟩ := pStates_back (by omega) k1.2.1 h
   refine ⟨st :: l', by rw [h5]; simp, by simp [h6], by omega, h8, by rw [b1.2.2, h9]; simp [statesB], fun m x hm => ?_⟩
   cases m with
   | zero =>
    simp at hm
    subst hm
    exact ⟨k1.2.2.1, k1.2.2.2.1, k1.2.2.2.2.2, fun a ha => ⟨k1.2.2.1.2.2 a ha, k1.2.2.2.2.1 a ha⟩⟩
   | succ m =>
    have := h10 m x (by simpa using hm)
    rw [show i + (m + 1) = i + 1 + m by omega]
    exact this
theorem stIn_mayL : ∀ (l : List State) (i : Nat), (∀ k st, l[k]? = some st -> stIn (i + k) st) -> mayL i l = true
 | [], _, _ => rfl
 | st :: l, i, h => by
  obtain ⟨_, h1, h2, h3⟩ := h 0 st rfl
  have h4 := stIn_mayL l (i + 1) fun k x hx => by
   have h9 := h (k + 1) x (by simpa using hx)
   rw [show i + 1 + k = i + (k + 1) by omega]
   exact h9
  have key : ∀ l : List Arc, (∀ a ∈ l, arcIn (i + 0) a) -> okTo i l = true := by
   intro l
   induction l with
   | nil => intro _; rfl
   | cons a l ih =>
    intro h
    have h5 := h a (List.mem_cons_self ..)
    simp only [okTo, Bool.and_eq_true, decide_eq_true_eq]
    exact ⟨h5.2, ih fun x hx => h x (List.mem_cons_of_mem _ hx)⟩
  simp only [mayL, Bool.and_eq_true, decide_eq_true_eq, Bool.or_eq_true]
  refine ⟨⟨⟨h1, ?_⟩, key _ h3⟩, h4⟩
  cases hf : st.final with
  | true => exact .inl rfl
  | false => exact .inr (h2 hf)
theorem pMagic_back {s : ByteArray} {p : Nat} (h : pMagic s 3 0 0 = .ok p) : p = 3 /\ wl s = [67, 83, 1] ++ (wl s).drop 3 /\ 3 <= s.size := by
 simp only [pMagic] at h
 split at h
 ·cases h
 ·rename_i x0 p1 h0
  have k0 := pMag_ok (Nat.zero_le _) h0
  split at h
  ·cases h
  ·rename_i x1 p2 h1
   have k1 := pMag_ok k0.2.1 h1
   split at h
   ·cases h
   ·rename_i x2 p3 h2
    have k2 := pMag_ok k1.2.1 h2
    injection h with h
    have e1 : p1 = 1 := by omega
    have e2 : p2 = 2 := by omega
    subst e1; subst e2
    refine ⟨by omega, ?_, by omega⟩
    have d0 := drop_at k0.2.2
    have d1 := drop_at k1.2.2
    have d2 := drop_at k2.2.2
    rw [List.drop_zero] at d0
    rw [d0, d1, d2]
    rfl
theorem pAll_back {s : ByteArray} (hsz : s.size <= 900000000) {en init : Nat} {ss : List State} (h : pAll s = .ok (en, init, ss)) : wl s = bodyB en init ss /\ en <= 100000 /\ 0 < ss.length /\ (∀ st ∈ ss, okS st) /\ mayL 0 ss = true /\ init < M64 /\ ss.length <= s.size := by
 unfold pAll at h
 split at h
 ·cases h
 ·rename_i p0 hm
  obtain ⟨rfl, b0, h3⟩ := pMagic_back hm
  split at h
  ·cases h
  ·rename_i en' p1 h1
   have k1 := pNum_ok h1
   have b1 := pNum_back h1
   split at h
   ·cases h
   ·rename_i n p2 h2
    have k2 := pNum_ok h2
    have b2 := pNum_back h2
    split at h
    ·cases h
    ·rename_i ss' p3 h4
     have hn : n <= 900000000 := by
      have := pStates_len k2.2.1 h4
      omega
     obtain ⟨l', h5, h6, h7, h8, h9, h10⟩ := pStates_back (by omega) k2.2.1 h4
     rw [List.nil_append] at h5
     subst h5
     split at h
     ·cases h
     ·rename_i init' p4 hi
      have k5 := pNum_ok hi
      have b5 := pNum_back hi
      split at h
      ·cases h
      ·rename_i hend
       injection h with h
       injection h with e1 e2
       injection e2 with e2 e3
       subst e1; subst e2; subst e3
       have hd : (wl s).drop p4 = [] := List.drop_eq_nil_of_le (by rw [wl_length]; omega)
       refine ⟨?_, b1.2.2.1, by omega, fun st hst => ?_, stIn_mayL _ 0 h10, b5.1, by omega⟩
       ·unfold bodyB
        rw [numsB_two, numsB_one, b0, b1.2.2.2, b2.2.2.2, h9, b5.2.2.2, hd, h6]
        simp
       ·obtain ⟨m, hm2⟩ := List.mem_iff_getElem?.1 hst
        exact (h10 m st hm2).1
theorem openR_some (l : List Nat) : openR (some l) = (bl l, true) := rfl
theorem pGet_seal (s : ByteArray) : pGet (bl (Crc.seal' (wl s))) = pAll s := by
 have hs : Small (Crc.seal' (wl s)) := by
  intro x hx
  rcases List.mem_append.1 hx with h | h
  ·exact wl_lt s x h
  ·simp [Crc.four] at h; omega
 unfold pGet
 rw [wl_bl hs, Crc.opened_seal, openR_some, bl_wl]
 rfl
theorem lit_cells {w W : World} {A : Array Value} {t : TypeId} (h : w.alloc (.cells A t) = W) : Below w.heap.size w W /\ (∀ j u, A.toList[j]? = some u -> W.cell? ⟨w.heap.size, 0 + j, none⟩ = some u) /\ W.heap.size = w.heap.size + 1 := by
 subst h
 refine ⟨(Below.refl _ _).alloc (Nat.le_refl _) _, fun j u hu => ?_, by simp⟩
 rw [Nat.zero_add, cell_of_row _ _ j _ t (0, 0) (heap_alloc_new w _)]
 simpa using hu
theorem RA.lit {w W : World} {A : Array Value} {t : TypeId} (h : w.alloc (.cells A t) = W) (l : List Arc) (hA : A.toList = acs l) : Below w.heap.size w W /\ RA W (fun _ => True) (.slice (some ⟨w.heap.size, 0, none⟩) l.length l.length) l := by
 obtain ⟨h1, h2, _⟩ := lit_cells h
 exact ⟨h1, _, _, rfl, Nat.le_refl _, fun _ => ⟨_, _, rfl, trivial, fun j u hu => h2 j u (by rw [hA]; exact hu)⟩⟩
theorem RS.lit {w W : World} {A : Array Value} {t : TypeId} (h : w.alloc (.cells A t) = W) (l : List (Value × State)) (hA : A.toList = scs l) (hr : ∀ x ∈ l, RA w (fun _ => True) x.1 x.2.arcs) : Below w.heap.size w W /\ RS W (.slice (some ⟨w.heap.size, 0, none⟩) l.length l.length) (l.map Prod.snd) := by
 obtain ⟨h1, h2, _⟩ := lit_cells h
 refine ⟨h1, some ⟨w.heap.size, 0, none⟩, l.length, by rw [List.length_map], by rw [List.length_map]; exact Nat.le_refl _, fun _ => ⟨_, _, rfl, fun i s hi => ?_⟩⟩
 rw [List.getElem?_map] at hi
 obtain ⟨x, hx, rfl⟩ := Option.map_eq_some_iff.1 hi
 obtain ⟨hlt, rfl⟩ := gS1 hx
 have k : ∀ j, j < 3 -> ∀ u, ([(l[i]).1, .bool (l[i]).2.final, .int .u64 (l[i]).2.out] : List Value)[j]? = some u -> W.cell? ⟨w.heap.size, 0 + (i * 3 + j), none⟩ = some u := fun j hj u hu => h2 _ _ (by rw [hA, scs_get l i j hlt hj]; exact hu)
 exact ⟨(l[i]).1, by have := k 0 (by omega) _ rfl; simpa using this, by have := k 1 (by omega) _ rfl; simpa [Nat.add_assoc] using this, by have := k 2 (by omega) _ rfl; simpa [Nat.add_assoc] using this, (hr _ (List.getElem_mem hlt)).later h1⟩
def RF (w : World) (v : Value) (l : List Fst) : Prop := ∃ (A : Option Addr) (c : Nat), v = .slice A l.length c /\ l.length <= c /\ (0 < l.length -> ∃ b off, A = some ⟨b, off, none⟩ /\ ∀ (i : Nat) (x : Fst), l[i]? = some x -> ∃ sv, w.cell? ⟨b, off + i * 2, none⟩ = some sv /\ w.cell? ⟨b, off + i * 2 + 1, none⟩ = some (.int .u64 x.init) /\ RS w sv x.states)
theorem RF.later {w w' : World} {v : Value} {l : List Fst} (h : RF w v l) (hb : Below w.heap.size w w') : RF w' v l := by
 obtain ⟨A, c, h1, h2, h3⟩ := h
 refine ⟨A, c, h1, h2, fun h0 => ?_⟩
 obtain ⟨b, off, h4, h5⟩ := h3 h0
 exact ⟨b, off, h4, fun i x hi => by obtain ⟨sv, h6, h7, h8⟩ := h5 i x hi; exact ⟨sv, cL hb h6, cL hb h7, h8.later hb⟩⟩
theorem RF.at_ {w : World} {A : Option Addr} {n c : Nat} {l : List Fst} (h : RF w (.slice A n c) l) {i : Nat} {x : Fst} (hi : l[i]? = some x) : ∃ b off sv, A = some ⟨b, off, none⟩ /\ w.cell? ⟨b, off + i * 2, none⟩ = some sv /\ w.cell? ⟨b, off + i * 2 + 1, none⟩ = some (.int .u64 x.init) /\ RS w sv x.states := by
 obtain ⟨A', c', h1, h2, h3⟩ := h
 injection h1 with h1
 have h0 := (gS1 hi).1
 obtain ⟨b, off, h4, h5⟩ := h3 (by omega)
 obtain ⟨sv, h6⟩ := h5 i x hi
 exact ⟨b, off, sv, h1.trans h4, h6⟩
def fcs (l : List (Value × Fst)) : List Value := l.flatMap fun x => [x.1, .int .u64 x.2.init]
theorem fcs_get (l : List (Value × Fst)) (i j : Nat) (hi : i < l.length) (hj : j < 2) : (fcs l)[i * 2 + j]? = ([(l[i]).1, .int .u64 (l[i]).2.init] : List Value)[j]? := by
 induction l generalizing i with
 | nil => simp at hi
 | cons e l ih =>
  simp only [fcs, List.flatMap_cons]
  cases i with
  | zero => rw [List.getElem?_append_left (by simp; omega)]; simp
  | succ i =>
   rw [List.getElem?_append_right (by simp; omega)]
   have := ih i (by simpa using hi)
   simp only [fcs] at this
   simp only [List.getElem_cons_succ]
   rw [<- this]; congr 1; simp; omega
theorem RF.lit {w W : World} {A : Array Value} {t : TypeId} (h : w.alloc (.cells A t) = W) (l : List (Value × Fst)) (hA : A.toList = fcs l) (hr : ∀ x ∈ l, RS w x.1 x.2.states) : Below w.heap.size w W /\ RF W (.slice (some ⟨w.heap.size, 0, none⟩) l.length l.length) (l.map Prod.snd) := by
 obtain ⟨h1, h2, _⟩ := lit_cells h
 refine ⟨h1, some ⟨w.heap.size, 0, none⟩, l.length, by rw [List.length_map], by rw [List.length_map]; exact Nat.le_refl _, fun _ => ⟨_, _, rfl, fun i s hi => ?_⟩⟩
 rw [List.getElem?_map] at hi
 obtain ⟨x, hx, rfl⟩ := Option.map_eq_some_iff.1 hi
 obtain ⟨hlt, rfl⟩ := gS1 hx
 have k : ∀ j, j < 2 -> ∀ u, ([(l[i]).1, .int .u64 (l[i]).2.init] : List Value)[j]? = some u -> W.cell? ⟨w.heap.size, 0 + (i * 2 + j), none⟩ = some u := fun j hj u hu => h2 _ _ (by rw [hA, fcs_get l i j hlt hj]; exact hu)
 exact ⟨(l[i]).1, by have := k 0 (by omega) _ rfl; simpa using this, by have := k 1 (by omega) _ rfl; simpa [Nat.add_assoc] using this, (hr _ (List.getElem_mem hlt)).later h1⟩
def okAb (a : Arc) : Bool := decide (a.byte < 256) && decide (a.out < 18446744073709551616) && decide (-9223372036854775808 <= a.to) && decide (a.to < 9223372036854775808)
def okSb (s : State) : Bool := decide (s.out < 18446744073709551616) && decide (s.arcs.length < 1000) && s.arcs.all okAb
theorem okS_all (l : List State) (h : l.all okSb = true) : ∀ s ∈ l, okS s := by
 intro s hs
 have := List.all_eq_true.1 h s hs
 simp only [okSb, Bool.and_eq_true, decide_eq_true_eq] at this
 refine ⟨this.1.1, by have := this.1.2; omega, fun a ha => ?_⟩
 have h2 := List.all_eq_true.1 this.2 a ha
 simp only [okAb, Bool.and_eq_true, decide_eq_true_eq] at h2
 exact ⟨h2.1.1.1, h2.1.1.2, h2.1.2, h2.2⟩
theorem few_all (l : List State) (h : l.all okSb = true) : ∀ s ∈ l, s.arcs.length <= 1000 := by
 intro s hs
 have := List.all_eq_true.1 h s hs
 simp only [okSb, Bool.and_eq_true, decide_eq_true_eq] at this
 omega
theorem bodyB_small' {en init : Nat} {ss : List State} (hok : ∀ s ∈ ss, okS s) (hm : mayL 0 ss = true) (hl : ss.length <= 100000) (hen : en <= 100000) (hi : init < M64) : Small (bodyB en init ss) := bodyB_small hok hm hl hen hi
theorem pGet_body {en init : Nat} {ss : List State} (hen : en <= 100000) (hok : ∀ s ∈ ss, okS s) (h0 : 0 < ss.length) (hm : mayL 0 ss = true) (hl : ss.length <= 100000) (hi : init < M64) : pGet (bl (Crc.seal' (bodyB en init ss))) = .ok (en, init, ss) := by
 have hs := bodyB_small' hok hm hl hen hi
 have h1 := pGet_seal (bl (bodyB en init ss))
 rw [wl_bl hs] at h1
 rw [h1]
 exact pAll_put hen hok h0 hm (by omega) hi (wl_bl hs)
theorem pGet_put {en : Int} {init : Nat} {ss : List State} (h : mayF en ss = true) (hok : ∀ s ∈ ss, okS s) (hl : ss.length <= 100000) (hi : init < M64) : pGet (bl (putR en init ss).1) = .ok (en.toNat, init, ss) := by
 obtain ⟨h1, h2, h3, h4⟩ := may_out h
 unfold putR
 rw [if_pos h]
 exact pGet_body (by omega) hok h3 h4 hl hi
theorem pGet_back {y : ByteArray} (hsz : y.size <= 900000000) {en init : Nat} {ss : List State} (h : pGet y = .ok (en, init, ss)) : mayF (en : Int) ss = true /\ (∀ s ∈ ss, okS s) /\ init < M64 /\ ss.length <= y.size /\ y = bl (putR (en : Int) init ss).1 := by
 unfold pGet at h
 cases ho : Crc.opened (wl y) with
 | none => rw [ho] at h; simp [openR] at h
 | some b =>
  have h1 := Crc.opened_some ho
  have hsm : Small b := fun x hx => wl_lt y x (by rw [h1]; exact List.mem_append_left _ hx)
  have hlen := congrArg List.length h1
  rw [wl_length, Crc.seal_length] at hlen
  rw [ho] at h
  have h2 : pAll (bl b) = .ok (en, init, ss) := by simpa [openR] using h
  have h3 := pAll_back (by rw [bl_size]; omega) h2
  rw [wl_bl hsm, bl_size] at h3
  have hm : mayF (en : Int) ss = true := by
   unfold mayF
   rw [decide_eq_true (show (0 : Int) <= en by omega), decide_eq_true (show (en : Int) <= 100000 by have := h3.2.1; omega), decide_eq_true h3.2.2.1, h3.2.2.2.2.1]
   rfl
  refine ⟨hm, h3.2.2.2.1, h3.2.2.2.2.2.1, by have := h3.2.2.2.2.2.2; omega, ?_⟩
  unfold putR
  rw [if_pos hm, Int.toNat_natCast, <- h3.1, <- h1, bl_wl]
end Dw
end Go.Proofs.YtcddnmhmcieebaaGreatDoor
