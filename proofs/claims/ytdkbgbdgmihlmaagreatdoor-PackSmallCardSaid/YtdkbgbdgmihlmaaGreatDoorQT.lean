/- Dawg: the words of a state, with their values; they tell the states apart, and are what the list's words go on with. -/
import Derived.Test.YtdkbgbdgmihlmaaGreatDoorDLawP
namespace Go.Proofs.YtdkbgbdgmihlmaaGreatDoor
set_option linter.unusedSimpArgs false
set_option linter.unusedVariables false
set_option linter.unnecessarySimpa false
namespace Dw
def shift (b o : Nat) (e : Wv) : Wv := (b :: e.1, o + e.2)
def fin1 (s : State) : List Wv := if s.final then [([], s.out)] else []
def wds (ss : List State) : Nat → Nat → List Wv
  | 0, k => match ss[k]? with | none => [] | some s => fin1 s
  | m + 1, k => match ss[k]? with | none => [] | some s => fin1 s ++ s.arcs.flatMap fun a => (wds ss m a.to.toNat).map (shift a.byte a.out)
def lessW (n : Nat) (e : Wv) : Wv := (e.1, e.2 - n)
def rel (l : List Wv) : List Wv := l.map (lessW (leastV l))
theorem finish_get (ss : List State) (s : State) : (finish ss s).1[(finish ss s).2]? = some s := by
  by_cases h : s ∈ ss
  · obtain ⟨i, h1, h2, h3⟩ := finish_in h
    rw [h3]; exact h1
  · rw [finish_out h]
    simp
theorem pre_get {ss SS : List State} (h : ss <+: SS) {k : Nat} {s : State} (hk : ss[k]? = some s) : SS[k]? = some s := by
  obtain ⟨r, rfl⟩ := h
  rw [List.getElem?_append_left (List.getElem?_eq_some_iff.1 hk).1, hk]
theorem wds_at {SS : List State} {k : Nat} {s : State} (h : SS[k]? = some s) (m : Nat) : wds SS (m + 1) k = fin1 s ++ s.arcs.flatMap fun a => (wds SS m a.to.toNat).map (shift a.byte a.out) := by
  simp only [wds, h]
theorem wds_at0 {SS : List State} {k : Nat} {s : State} (h : SS[k]? = some s) (hs : s.arcs = []) : ∀ m, wds SS m k = fin1 s
  | 0 => by simp only [wds, h]
  | m + 1 => by simp [wds, h, hs]
theorem leastV_le {l : List Wv} : ∀ e ∈ l, leastV l ≤ e.2 := fun e he => (leastV_least (List.ne_nil_of_mem he)).2 e.2 (List.mem_map_of_mem he)
theorem AllLt.mono {f g : Nat} {l : List Wv} (h : AllLt f l) (hfg : f ≤ g) : AllLt g l := fun e he => Nat.lt_of_lt_of_le (h e he) hfg
section
variable {f : Nat} (IH : ∀ (l : List Wv) (ss SS : List State) (m : Nat), AllLt f l → l ≠ [] → Rise l → Inv ss → AllLt (m + 1) l → (K f ss l).1 <+: SS → wds SS m (K f ss l).2 = rel l)
include IH
theorem arcs_wds (SS : List State) (m le : Nat) : ∀ (gs : List (Nat × List Wv)) (ss : List State) (ars : List Arc), (∀ x ∈ gs, x.2 ≠ [] ∧ Rise x.2 ∧ AllLt f x.2) → (∀ x ∈ gs, AllLt (m + 1) x.2 ∧ ∀ e ∈ x.2, le ≤ e.2) → Inv ss → (arcsN (N f) ss ars gs).1 <+: SS →
    ∃ news, (arcsN (N f) ss ars gs).2 = ars ++ news ∧ (news.flatMap fun a => (wds SS m a.to.toNat).map (shift a.byte (a.out - le))) = (flat gs).map (lessW le)
  | [], ss, ars, _, _, hi, _ => ⟨[], by simp [arcsN], rfl⟩
  | (b, g) :: gs, ss, ars, hg, hm, hi, hp => by
    obtain ⟨g1, g2, g3⟩ := hg (b, g) (List.mem_cons_self ..)
    obtain ⟨i1, hk⟩ := K_ok f g ss g3 g1 g2 hi
    have h9 : arcsN (N f) ss ars ((b, g) :: gs) = arcsN (N f) (K f ss g).1 (ars ++ [⟨b, leastOf (N f ss g).2, ((K f ss g).2 : Int)⟩]) gs := rfl
    rw [h9] at hp ⊢
    obtain ⟨news, e1, e2⟩ := arcs_wds SS m le gs (K f ss g).1 (ars ++ [⟨b, leastOf (N f ss g).2, ((K f ss g).2 : Int)⟩]) (fun x hx => hg x (List.mem_cons_of_mem _ hx)) (fun x hx => hm x (List.mem_cons_of_mem _ hx)) i1 hp
    obtain ⟨_, _, _, hA⟩ := arcs_ok f (K_ok f) gs (K f ss g).1 (ars ++ [⟨b, leastOf (N f ss g).2, ((K f ss g).2 : Int)⟩]) (fun x hx => hg x (List.mem_cons_of_mem _ hx)) i1
    refine ⟨⟨b, leastOf (N f ss g).2, ((K f ss g).2 : Int)⟩ :: news, by rw [e1]; simp, ?_⟩
    obtain ⟨hm1, hm2⟩ := hm (b, g) (List.mem_cons_self ..)
    rw [List.flatMap_cons, e2]
    simp only [Int.toNat_natCast]
    rw [IH g ss SS m g3 g1 g2 hi hm1 (hA.pre.trans hp), least_N f g ss g3 g1 g2]
    have hfl : flat ((b, g) :: gs) = g.map (pre [b]) ++ flat gs := by simp [flat]
    rw [hfl, List.map_append]
    congr 1
    unfold rel
    rw [List.map_map, List.map_map]
    refine List.map_congr_left fun e he => ?_
    have h1 := leastV_le e he
    have h2 := leastV_least (l := g) g1
    obtain ⟨e', he', hle⟩ := List.mem_map.1 h2.1
    have h3 : le ≤ e'.2 := hm2 e' he'
    show (b :: e.1, _) = ([b] ++ e.1, _)
    refine Prod.ext rfl ?_
    show leastV g - le + (e.2 - leastV g) = e.2 - le
    omega
end
theorem groups_nil_of {l m : List Wv} (h : l = (if (finOf l).1 then [([], (finOf l).2)] else []) ++ m) (hm : ∀ x ∈ m, x.1 ≠ []) (hl : AllLt 1 l) : m = [] := by
  cases m with
  | nil => rfl
  | cons x m =>
    have h1 := hm x (List.mem_cons_self ..)
    have h2 := hl x (by rw [h]; exact List.mem_append_right _ (List.mem_cons_self ..))
    exact absurd (List.eq_nil_of_length_eq_zero (by omega)) h1
theorem K_wds : ∀ (f : Nat) (l : List Wv) (ss SS : List State) (m : Nat), AllLt f l → l ≠ [] → Rise l → Inv ss → AllLt (m + 1) l → (K f ss l).1 <+: SS → wds SS m (K f ss l).2 = rel l
  | 0, [], ss, _, _, _, hn, _, _, _, _ => absurd rfl hn
  | 0, e :: l, ss, _, _, hl, _, _, _, _, _ => absurd (hl e (List.mem_cons_self ..)) (by omega)
  | f + 1, l, ss, SS, m, hl, hn, hr, hi, hm, hp => by
    obtain ⟨r, p1, p2, p3, p4, p5, p6⟩ := parts hr
    have hmr : ∀ e ∈ r, e ∈ l := fun e he => by rw [p1]; exact List.mem_append_right _ he
    have hall := hl.group hmr p3
    have hg : ∀ x ∈ groups l, x.2 ≠ [] ∧ Rise x.2 ∧ AllLt f x.2 := fun x hx => by rw [p2] at hx; exact ⟨(p3.some_ x hx).1, (p3.some_ x hx).2, hall x hx⟩
    obtain ⟨_, _, _, hA⟩ := arcs_ok f (K_ok f) (groups l) ss [] hg hi
    have hK : K (f + 1) ss l = finish (arcsN (N f) ss [] (groups l)).1 (less (N (f + 1) ss l).2 (leastV l)) := by
      unfold K
      rw [least_N (f + 1) l ss hl hn hr]
      rfl
    have hpre : (arcsN (N f) ss [] (groups l)).1 <+: (K (f + 1) ss l).1 := by
      rw [hK]
      unfold finish
      split
      · exact List.prefix_refl _
      · exact List.prefix_append _ _
    have hget := pre_get hp (by rw [hK]; exact finish_get _ _)
    rw [← hK] at hget
    have hmem : ∀ x ∈ groups r, ∀ e ∈ x.2, pre [x.1] e ∈ l := fun x hx e he => hmr _ (by rw [p3.flat]; exact mem_flat hx he)
    have key : ∀ e ∈ l, leastV l ≤ e.2 := leastV_le
    have hf1 : fin1 (less (N (f + 1) ss l).2 (leastV l)) = (if (finOf l).1 then [([], (finOf l).2)] else []).map (lessW (leastV l)) := by
      show (if (finOf l).1 then [([], if (finOf l).1 then (finOf l).2 - leastV l else (finOf l).2)] else ([] : List Wv)) = _
      cases (finOf l).1 <;> rfl
    have hrel : rel l = (if (finOf l).1 then [([], (finOf l).2)] else []).map (lessW (leastV l)) ++ r.map (lessW (leastV l)) := by
      unfold rel
      rw [← List.map_append, ← p1]
    cases m with
    | zero =>
      have hr0 := groups_nil_of p1 p5 hm
      subst hr0
      have hg0 : groups l = [] := p2
      rw [wds_at0 hget (by show ((arcsN (N f) ss [] (groups l)).2.map _) = []; rw [hg0]; rfl), hf1, hrel]
      simp
    | succ m =>
      obtain ⟨news, e1, e2⟩ := arcs_wds (K_wds f) SS m (leastV l) (groups l) ss [] hg (fun x hx => by
        rw [p2] at hx
        refine ⟨fun e he => ?_, fun e he => ?_⟩
        · have := hm _ (hmem x hx e he)
          simp [pre] at this
          omega
        · exact key (pre [x.1] e) (hmem x hx e he)) hi (hpre.trans hp)
      rw [wds_at hget m, hf1, hrel]
      congr 1
      have hflat : r = flat (groups l) := by rw [p2]; exact p3.flat
      have e3 : (N (f + 1) ss l).2.arcs = news := by show (arcsN (N f) ss [] (groups l)).2 = news; rw [e1]; rfl
      rw [hflat, ← e2, less_arcs, e3, List.flatMap_map]
/-! words tell states apart -/
theorem okArcs_pos : ∀ (l : List Arc) (i : Nat) (last : Int), okArcs i last l = true → ∀ a ∈ l, 0 ≤ a.to ∧ a.to.toNat < i := fun l i last h a ha => by
  have := formed_ahead0 l i last h a ha
  omega
theorem wds_zero {SS : List State} (hi : Inv SS) : ∀ (m k : Nat) (s : State), k ≤ m → SS[k]? = some s → ∃ e ∈ wds SS m k, e.2 = 0 := by
  have hz : ∀ (k : Nat) (s : State), SS[k]? = some s → (s.final = true ∧ s.out = 0) ∨ ∃ a ∈ s.arcs, a.out = 0 := fun k s h => by
    have hg := hi.good k s h
    have ho : outsOf s ≠ [] := by
      unfold outsOf
      rcases hg.some_ with h | h
      · simp [h]
      · intro h2
        exact h (by simpa using (List.append_eq_nil_iff.1 h2).2)
    have h0 := (leastOf_least ho).1
    rw [hg.zero] at h0
    unfold outsOf at h0
    rcases List.mem_append.1 h0 with h0 | h0
    · cases hf : s.final with
      | false => rw [hf] at h0; simp at h0
      | true => rw [hf] at h0; simp at h0; exact .inl ⟨rfl, h0.symm⟩
    · obtain ⟨a, ha, h1⟩ := List.mem_map.1 h0
      exact .inr ⟨a, ha, h1⟩
  intro m
  induction m with
  | zero =>
    intro k s hk h
    obtain rfl : k = 0 := by omega
    rcases hz 0 s h with ⟨h1, h2⟩ | ⟨a, ha, _⟩
    · exact ⟨([], s.out), by simp only [wds, h, fin1, if_pos h1]; simp, h2⟩
    · have := okArcs_pos _ _ _ (hi.good 0 s h).arcs a ha
      omega
  | succ m ih =>
    intro k s hk h
    rw [wds_at h]
    rcases hz k s h with ⟨h1, h2⟩ | ⟨a, ha, h2⟩
    · exact ⟨([], s.out), by simp [fin1, h1], h2⟩
    · have h3 := okArcs_pos _ _ _ (hi.good k s h).arcs a ha
      have hlt := (List.getElem?_eq_some_iff.1 h).1
      obtain ⟨e, he, h4⟩ := ih a.to.toNat SS[a.to.toNat] (by omega) (List.getElem?_eq_getElem (by omega))
      exact ⟨shift a.byte a.out e, List.mem_append_right _ (List.mem_flatMap.2 ⟨a, ha, List.mem_map_of_mem he⟩), by show a.out + e.2 = 0; omega⟩
theorem flat_heads (F : Arc → List Wv) : ∀ (l : List Arc) (i : Nat) (last : Int), okArcs i last l = true → ∀ e ∈ l.flatMap (fun a => (F a).map (shift a.byte a.out)), ∃ b w, e.1 = b :: w ∧ last < (b : Int)
  | [], _, _, _, e, he => by simp at he
  | a :: l, i, last, h, e, he => by
    simp only [okArcs, Bool.and_eq_true, decide_eq_true_eq] at h
    rcases List.mem_append.1 (by simpa [List.flatMap_cons] using he : e ∈ (F a).map (shift a.byte a.out) ++ l.flatMap (fun a => (F a).map (shift a.byte a.out))) with he | he
    · obtain ⟨x, _, rfl⟩ := List.mem_map.1 he
      exact ⟨a.byte, x.1, rfl, h.1.2⟩
    · obtain ⟨b, w, h1, h2⟩ := flat_heads F l i a.byte h.2 e he
      exact ⟨b, w, h1, by have := h.1.2; omega⟩
theorem app_split {α : Type} (p : α → Bool) {a b c d : List α} (h : a ++ b = c ++ d) (ha : ∀ x ∈ a, p x = true) (hb : ∀ x ∈ b, p x = false) (hc : ∀ x ∈ c, p x = true) (hd : ∀ x ∈ d, p x = false) : a = c ∧ b = d := by
  have h1 := congrArg (List.filter p) h
  rw [List.filter_append, List.filter_append, List.filter_eq_self.2 ha, List.filter_eq_self.2 hc, List.filter_eq_nil_iff.2 (fun x hx => by simp [hb x hx]), List.filter_eq_nil_iff.2 (fun x hx => by simp [hd x hx]), List.append_nil, List.append_nil] at h1
  subst h1
  exact ⟨rfl, List.append_cancel_left h⟩
def headIs (b : Nat) (e : Wv) : Bool := decide (e.1.head? = some b)
theorem arcs_inj {SS : List State} (hi : Inv SS) (m : Nat) (ih : ∀ (i j : Nat) (si sj : State), i ≤ m → j ≤ m → SS[i]? = some si → SS[j]? = some sj → wds SS m i = wds SS m j → i = j) :
    ∀ (ars bs : List Arc) (i j : Nat) (la lb : Int), okArcs i la ars = true → okArcs j lb bs = true → i ≤ m + 1 → j ≤ m + 1 → i ≤ SS.length → j ≤ SS.length →
      (ars.flatMap fun a => (wds SS m a.to.toNat).map (shift a.byte a.out)) = (bs.flatMap fun a => (wds SS m a.to.toNat).map (shift a.byte a.out)) → ars = bs := by
  have hsome : ∀ (a : Arc) (i : Nat), a.to.toNat < i → i ≤ m + 1 → i ≤ SS.length → ∃ e ∈ wds SS m a.to.toNat, e.2 = 0 := fun a i h1 h2 h3 => wds_zero hi m a.to.toNat SS[a.to.toNat] (by omega) (List.getElem?_eq_getElem (by omega))
  intro ars
  induction ars with
  | nil =>
    intro bs i j la lb h1 h2 hi1 hj1 hil hjl he
    cases bs with
    | nil => rfl
    | cons b bs =>
      have ht := okArcs_pos _ _ _ h2 b (List.mem_cons_self ..)
      obtain ⟨e, hm, _⟩ := hsome b j ht.2 hj1 hjl
      rw [List.flatMap_cons] at he
      have := (List.append_eq_nil_iff.1 he.symm).1
      rw [List.map_eq_nil_iff] at this
      rw [this] at hm
      cases hm
  | cons a ars iha =>
    intro bs i j la lb h1 h2 hi1 hj1 hil hjl he
    have ht := okArcs_pos _ _ _ h1 a (List.mem_cons_self ..)
    obtain ⟨e, hm, he0⟩ := hsome a i ht.2 hi1 hil
    cases bs with
    | nil =>
      rw [List.flatMap_cons] at he
      have := (List.append_eq_nil_iff.1 he).1
      rw [List.map_eq_nil_iff] at this
      rw [this] at hm
      cases hm
    | cons b bs =>
      have htb := okArcs_pos _ _ _ h2 b (List.mem_cons_self ..)
      obtain ⟨e', hm', he0'⟩ := hsome b j htb.2 hj1 hjl
      simp only [okArcs, Bool.and_eq_true, decide_eq_true_eq] at h1 h2
      rw [List.flatMap_cons, List.flatMap_cons] at he
      have hA := flat_heads (fun a => wds SS m a.to.toNat) ars i a.byte h1.2
      have hB := flat_heads (fun a => wds SS m a.to.toNat) bs j b.byte h2.2
      have hbyte : a.byte = b.byte := by
        cases hx : (wds SS m a.to.toNat).map (shift a.byte a.out) with
        | nil => rw [List.map_eq_nil_iff] at hx; rw [hx] at hm; cases hm
        | cons x xs =>
          cases hy : (wds SS m b.to.toNat).map (shift b.byte b.out) with
          | nil => rw [List.map_eq_nil_iff] at hy; rw [hy] at hm'; cases hm'
          | cons y ys =>
            rw [hx, hy, List.cons_append, List.cons_append] at he
            injection he with he _
            obtain ⟨x1, _, hx1⟩ := List.mem_map.1 (show x ∈ (wds SS m a.to.toNat).map (shift a.byte a.out) by rw [hx]; exact List.mem_cons_self ..)
            obtain ⟨y1, _, hy1⟩ := List.mem_map.1 (show y ∈ (wds SS m b.to.toNat).map (shift b.byte b.out) by rw [hy]; exact List.mem_cons_self ..)
            rw [← hx1, ← hy1] at he
            have := congrArg (fun e : Wv => e.1.head?) he
            simpa [shift] using this
      have hne : ∀ (c : Arc) (cs : List Arc), c.byte = a.byte → (∀ e ∈ cs.flatMap (fun a => (wds SS m a.to.toNat).map (shift a.byte a.out)), ∃ b w, e.1 = b :: w ∧ (c.byte : Int) < (b : Int)) → ∀ e ∈ cs.flatMap (fun a => (wds SS m a.to.toNat).map (shift a.byte a.out)), headIs a.byte e = false := fun c cs hc h e he => by
        obtain ⟨x, w, h3, h4⟩ := h e he
        unfold headIs
        rw [h3]
        simp
        omega
      have hse : ∀ (c : Arc), c.byte = a.byte → ∀ e ∈ (wds SS m c.to.toNat).map (shift c.byte c.out), headIs a.byte e = true := fun c hc e he => by
        obtain ⟨x, _, rfl⟩ := List.mem_map.1 he
        simp [headIs, shift, hc]
      obtain ⟨hX, hR⟩ := app_split (headIs a.byte) he (hse a rfl) (hne a ars rfl hA) (hse b hbyte.symm) (hne b bs hbyte.symm hB)
      have hout : a.out = b.out := by
        have h3 : shift a.byte a.out e ∈ (wds SS m b.to.toNat).map (shift b.byte b.out) := by rw [← hX]; exact List.mem_map_of_mem hm
        have h4 : shift b.byte b.out e' ∈ (wds SS m a.to.toNat).map (shift a.byte a.out) := by rw [hX]; exact List.mem_map_of_mem hm'
        obtain ⟨x, _, hx⟩ := List.mem_map.1 h3
        obtain ⟨y, _, hy⟩ := List.mem_map.1 h4
        have hx2 : b.out + x.2 = a.out + e.2 := congrArg Prod.snd hx
        have hy2 : a.out + y.2 = b.out + e'.2 := congrArg Prod.snd hy
        omega
      have hto : a.to.toNat = b.to.toNat := by
        refine ih _ _ SS[a.to.toNat] SS[b.to.toNat] (by omega) (by omega) (List.getElem?_eq_getElem (by omega)) (List.getElem?_eq_getElem (by omega)) ?_
        rw [hbyte, hout] at hX
        refine (List.map_inj_right fun x y hxy => ?_).1 hX
        have h5 : b.byte :: x.1 = b.byte :: y.1 := congrArg Prod.fst hxy
        have h6 : b.out + x.2 = b.out + y.2 := congrArg Prod.snd hxy
        injection h5 with _ h5
        exact Prod.ext h5 (by omega)
      have hab : a = b := by
        cases a; cases b
        simp only at hbyte hout hto ht htb
        subst hbyte hout
        congr 1
        omega
      subst hab
      rw [iha bs i j a.byte a.byte h1.2 h2.2 hi1 hj1 hil hjl hR]
theorem wds_inj {SS : List State} (hi : Inv SS) : ∀ (m i j : Nat) (si sj : State), i ≤ m → j ≤ m → SS[i]? = some si → SS[j]? = some sj → wds SS m i = wds SS m j → i = j
  | 0, i, j, si, sj, h1, h2, _, _, _ => by omega
  | m + 1, i, j, si, sj, h1, h2, hsi, hsj, he => by
    have gi := hi.good i si hsi
    have gj := hi.good j sj hsj
    have hil := (List.getElem?_eq_some_iff.1 hsi).1
    have hjl := (List.getElem?_eq_some_iff.1 hsj).1
    rw [wds_at hsi, wds_at hsj] at he
    have hfin : ∀ (s : State), ∀ x ∈ fin1 s, (fun e : Wv => decide (e.1 = [])) x = true := fun s x hx => by
      unfold fin1 at hx
      split at hx
      · simp at hx; subst hx; rfl
      · cases hx
    have har : ∀ (s : State) (n : Nat), okArcs n (-1) s.arcs = true → ∀ x ∈ s.arcs.flatMap (fun a => (wds SS m a.to.toNat).map (shift a.byte a.out)), (fun e : Wv => decide (e.1 = [])) x = false := fun s n hs x hx => by
      obtain ⟨b, w, h3, _⟩ := flat_heads (fun a => wds SS m a.to.toNat) s.arcs n (-1) hs x hx
      simp [h3]
    obtain ⟨hF, hA⟩ := app_split (fun e : Wv => decide (e.1 = [])) he (hfin si) (har si i gi.arcs) (hfin sj) (har sj j gj.arcs)
    have harcs := arcs_inj hi m (wds_inj hi m) si.arcs sj.arcs i j (-1) (-1) gi.arcs gj.arcs h1 h2 (by omega) (by omega) hA
    have hs : si = sj := by
      have g1 := gi.out
      have g2 := gj.out
      cases si with | mk f1 o1 a1 =>
      cases sj with | mk f2 o2 a2 =>
      simp only [fin1] at hF harcs g1 g2
      subst harcs
      cases f1 <;> cases f2 <;> simp at hF g1 g2
      · rw [g1, g2]
      · rw [hF]
    subst hs
    exact (List.getElem?_inj hil hi.nodup).1 (hsi.trans hsj.symm)
end Dw
end Go.Proofs.YtdkbgbdgmihlmaaGreatDoor

namespace Go.Proofs.YtdkbgbdgmihlmaaGreatDoor
set_option linter.unusedSimpArgs false
set_option linter.unusedVariables false
set_option linter.unnecessarySimpa false
namespace Dw
/-- what words go on with behind a beginning -/
def sub (l : List Wv) (p : List Nat) : List Wv := (l.filter fun e => p.isPrefixOf e.1).map fun e => (e.1.drop p.length, e.2)
theorem sub_nil (l : List Wv) : sub l [] = l := by
  unfold sub
  rw [List.filter_eq_self.2 (fun e _ => by simp)]
  simp
theorem sub_append (a b : List Wv) (p : List Nat) : sub (a ++ b) p = sub a p ++ sub b p := by simp [sub]
theorem sub_none {l : List Wv} {p : List Nat} (h : ∀ e ∈ l, ¬ p <+: e.1) : sub l p = [] := by
  unfold sub
  rw [List.filter_eq_nil_iff.2 (fun e he => by rw [List.isPrefixOf_iff_prefix]; exact h e he)]
  rfl
theorem sub_pre (g : List Wv) (b : Nat) (p : List Nat) : sub (g.map (pre [b])) (b :: p) = sub g p := by
  unfold sub
  rw [List.filter_map, List.map_map]
  congr 1
  refine List.filter_congr fun e he => ?_
  simp [pre, List.isPrefixOf]
theorem sub_flat : ∀ (gs : List (Nat × List Wv)), (gs.Pairwise fun a b => a.1 < b.1) → ∀ (b : Nat) (g : List Wv) (p : List Nat), (b, g) ∈ gs → sub (flat gs) (b :: p) = sub g p
  | [], _, _, _, _, h => by cases h
  | (b', g') :: gs, hp, b, g, p, h => by
    obtain ⟨h1, h2⟩ := List.pairwise_cons.1 hp
    have hfl : flat ((b', g') :: gs) = g'.map (pre [b']) ++ flat gs := by simp [flat]
    rw [hfl, sub_append]
    rcases List.mem_cons.1 h with he | hm
    · injection he with e1 e2
      subst e1 e2
      rw [sub_pre, sub_none (l := flat gs), List.append_nil]
      intro e he hpre
      obtain ⟨x, hx, he⟩ := List.mem_flatMap.1 he
      obtain ⟨y, hy, rfl⟩ := List.mem_map.1 he
      have := h1 x hx
      obtain ⟨t, ht⟩ := hpre
      have : b = x.1 := by
        have h9 : (b :: p) ++ t = x.1 :: y.1 := ht
        injection h9
      simp only at *
      omega
    · have hlt := h1 (b, g) hm
      rw [sub_none (l := g'.map (pre [b'])), List.nil_append]
      · exact sub_flat gs h2 b g p hm
      · intro e he hpre
        obtain ⟨y, hy, rfl⟩ := List.mem_map.1 he
        obtain ⟨t, ht⟩ := hpre
        have h9 : (b :: p) ++ t = b' :: y.1 := ht
        injection h9
        simp only at hlt
        omega
theorem sub_group {l r : List Wv} {c : Bool} {v : Nat} (h : l = (if c then [([], v)] else []) ++ r) (hG : Grp r (groups r)) {b : Nat} {g : List Wv} (hg : (b, g) ∈ groups r) (p : List Nat) : sub l (b :: p) = sub g p := by
  rw [h, sub_append, sub_none, List.nil_append]
  · conv => lhs; rw [hG.flat]
    exact sub_flat _ hG.rise b g p hg
  · intro e he hp
    cases c with
    | false => cases he
    | true =>
      simp only [if_true, List.mem_singleton] at he
      subst he
      obtain ⟨t, ht⟩ := hp
      cases ht
section
variable {f : Nat} (IHB : ∀ (l : List Wv) (ss SS : List State) (m : Nat), AllLt f l → l ≠ [] → Rise l → Inv ss → AllLt (m + 1) l → (K f ss l).1 <+: SS → ∀ k, ss.length ≤ k → k < (K f ss l).1.length → ∃ e ∈ l, ∃ p, p <+: e.1 ∧ wds SS m k = rel (sub l p))
  (IHA : ∀ (l : List Wv) (ss SS : List State) (m : Nat), AllLt f l → l ≠ [] → Rise l → Inv ss → AllLt (m + 1) l → (K f ss l).1 <+: SS → ∀ e ∈ l, ∀ p, p <+: e.1 → ∃ k, k < SS.length ∧ wds SS m k = rel (sub l p))
include IHB IHA
theorem arcs_kinds (SS : List State) (m : Nat) : ∀ (gs : List (Nat × List Wv)) (ss : List State) (ars : List Arc), (∀ x ∈ gs, x.2 ≠ [] ∧ Rise x.2 ∧ AllLt f x.2) → (∀ x ∈ gs, AllLt (m + 1) x.2) → Inv ss → (arcsN (N f) ss ars gs).1 <+: SS →
    (∀ k, ss.length ≤ k → k < (arcsN (N f) ss ars gs).1.length → ∃ x ∈ gs, ∃ e ∈ x.2, ∃ p, p <+: e.1 ∧ wds SS m k = rel (sub x.2 p)) ∧ ∀ x ∈ gs, ∀ e ∈ x.2, ∀ p, p <+: e.1 → ∃ k, k < SS.length ∧ wds SS m k = rel (sub x.2 p)
  | [], ss, ars, _, _, hi, _ => ⟨fun k h1 h2 => by simp only [arcsN] at h2; omega, (fun x hx => by cases hx)⟩
  | (b, g) :: gs, ss, ars, hg, hm, hi, hp => by
    obtain ⟨g1, g2, g3⟩ := hg (b, g) (List.mem_cons_self ..)
    obtain ⟨i1, hk⟩ := K_ok f g ss g3 g1 g2 hi
    have h9 : arcsN (N f) ss ars ((b, g) :: gs) = arcsN (N f) (K f ss g).1 (ars ++ [⟨b, leastOf (N f ss g).2, ((K f ss g).2 : Int)⟩]) gs := rfl
    rw [h9] at hp ⊢
    obtain ⟨q1, q2⟩ := arcs_kinds SS m gs (K f ss g).1 (ars ++ [⟨b, leastOf (N f ss g).2, ((K f ss g).2 : Int)⟩]) (fun x hx => hg x (List.mem_cons_of_mem _ hx)) (fun x hx => hm x (List.mem_cons_of_mem _ hx)) i1 hp
    obtain ⟨_, _, _, hA⟩ := arcs_ok f (K_ok f) gs (K f ss g).1 (ars ++ [⟨b, leastOf (N f ss g).2, ((K f ss g).2 : Int)⟩]) (fun x hx => hg x (List.mem_cons_of_mem _ hx)) i1
    have hm1 := hm (b, g) (List.mem_cons_self ..)
    refine ⟨fun k h1 h2 => ?_, fun x hx e he p hpe => ?_⟩
    · rcases Nat.lt_or_ge k (K f ss g).1.length with h3 | h3
      · obtain ⟨e, he, p, hpe, hw⟩ := IHB g ss SS m g3 g1 g2 hi hm1 (hA.pre.trans hp) k h1 h3
        exact ⟨(b, g), List.mem_cons_self .., e, he, p, hpe, hw⟩
      · obtain ⟨x, hx, h4⟩ := q1 k h3 h2
        exact ⟨x, List.mem_cons_of_mem _ hx, h4⟩
    · rcases List.mem_cons.1 hx with rfl | hx
      · exact IHA g ss SS m g3 g1 g2 hi hm1 (hA.pre.trans hp) e he p hpe
      · exact q2 x hx e he p hpe
end
theorem K_kinds : ∀ (f : Nat) (l : List Wv) (ss SS : List State) (m : Nat), AllLt f l → l ≠ [] → Rise l → Inv ss → AllLt (m + 1) l → (K f ss l).1 <+: SS →
    (∀ k, ss.length ≤ k → k < (K f ss l).1.length → ∃ e ∈ l, ∃ p, p <+: e.1 ∧ wds SS m k = rel (sub l p)) ∧ ∀ e ∈ l, ∀ p, p <+: e.1 → ∃ k, k < SS.length ∧ wds SS m k = rel (sub l p)
  | 0, [], ss, _, _, _, hn, _, _, _, _ => absurd rfl hn
  | 0, e :: l, ss, _, _, hl, _, _, _, _, _ => absurd (hl e (List.mem_cons_self ..)) (by omega)
  | f + 1, l, ss, SS, m, hl, hn, hr, hi, hm, hp => by
    have hwds := K_wds (f + 1) l ss SS m hl hn hr hi hm hp
    obtain ⟨hInv, hKO⟩ := K_ok (f + 1) l ss hl hn hr hi
    obtain ⟨r, p1, p2, p3, p4, p5, p6⟩ := parts hr
    have hmr : ∀ e ∈ r, e ∈ l := fun e he => by rw [p1]; exact List.mem_append_right _ he
    have hall := hl.group hmr p3
    have hg : ∀ x ∈ groups l, x.2 ≠ [] ∧ Rise x.2 ∧ AllLt f x.2 := fun x hx => by rw [p2] at hx; exact ⟨(p3.some_ x hx).1, (p3.some_ x hx).2, hall x hx⟩
    have hmem : ∀ x ∈ groups r, ∀ e ∈ x.2, pre [x.1] e ∈ l := fun x hx e he => hmr _ (by rw [p3.flat]; exact mem_flat hx he)
    have hgm : ∀ x ∈ groups l, AllLt (m + 1) x.2 := fun x hx e he => by
      rw [p2] at hx
      have := hm _ (hmem x hx e he)
      simp [pre] at this
      omega
    have hK : K (f + 1) ss l = finish (arcsN (N f) ss [] (groups l)).1 (less (N (f + 1) ss l).2 (leastV l)) := by
      unfold K
      rw [least_N (f + 1) l ss hl hn hr]
      rfl
    have hpre : (arcsN (N f) ss [] (groups l)).1 <+: (K (f + 1) ss l).1 := by
      rw [hK]
      unfold finish
      split
      · exact List.prefix_refl _
      · exact List.prefix_append _ _
    obtain ⟨q1, q2⟩ := arcs_kinds (fun l ss SS m h1 h2 h3 h4 h5 h6 => (K_kinds f l ss SS m h1 h2 h3 h4 h5 h6).1) (fun l ss SS m h1 h2 h3 h4 h5 h6 => (K_kinds f l ss SS m h1 h2 h3 h4 h5 h6).2) SS m (groups l) ss [] hg hgm hi (hpre.trans hp)
    refine ⟨fun k h1 h2 => ?_, fun e he p hpe => ?_⟩
    · rcases Nat.lt_or_ge k (arcsN (N f) ss [] (groups l)).1.length with h3 | h3
      · obtain ⟨x, hx, e, he, p, hpe, hw⟩ := q1 k h1 h3
        rw [p2] at hx
        refine ⟨pre [x.1] e, hmem x hx e he, x.1 :: p, ?_, ?_⟩
        · obtain ⟨t, ht⟩ := hpe
          exact ⟨t, by simp [pre, ht]⟩
        · rw [hw, sub_group p1 p3 (b := x.1) (g := x.2) hx p]
      · obtain ⟨e, l', hl'⟩ := List.exists_cons_of_ne_nil hn
        refine ⟨e, by rw [hl']; exact List.mem_cons_self .., [], List.nil_prefix, ?_⟩
        rw [sub_nil]
        have hlt := hKO.lt
        have : k = (K (f + 1) ss l).2 := by
          rw [hK] at h2 ⊢
          unfold finish at h2 ⊢
          split
          · rename_i i hfi
            rw [hfi] at h2
            simp only at h2
            omega
          · rename_i hfi
            rw [hfi] at h2
            simp at h2
            simp only
            omega
        rw [this]
        exact hwds
    · cases p with
      | nil => exact ⟨(K (f + 1) ss l).2, Nat.lt_of_lt_of_le hKO.lt hp.length_le, by rw [sub_nil]; exact hwds⟩
      | cons b p =>
        have her : e ∈ r := by
          rw [p1] at he
          rcases List.mem_append.1 he with he | he
          · cases hc : (finOf l).1 with
            | false => rw [hc] at he; cases he
            | true =>
              rw [hc] at he
              simp only [if_true, List.mem_singleton] at he
              subst he
              obtain ⟨t, ht⟩ := hpe
              cases ht
          · exact he
        rw [p3.flat] at her
        obtain ⟨x, hx, he2⟩ := List.mem_flatMap.1 her
        obtain ⟨y, hy, rfl⟩ := List.mem_map.1 he2
        have hbp : b = x.1 ∧ p <+: y.1 := by
          obtain ⟨t, ht⟩ := hpe
          have h9 : b :: (p ++ t) = x.1 :: y.1 := ht
          injection h9 with h9 h10
          exact ⟨h9, t, h10⟩
        obtain ⟨rfl, hpy⟩ := hbp
        obtain ⟨k, hk, hw⟩ := q2 x (by rw [p2]; exact hx) y hy p hpy
        exact ⟨k, hk, by rw [hw, sub_group p1 p3 (b := x.1) (g := x.2) hx p]⟩
/-! counting -/
theorem nodup_le {α : Type} [DecidableEq α] : ∀ (a b : List α), a.Nodup → (∀ x ∈ a, x ∈ b) → a.length ≤ b.length
  | [], _, _, _ => Nat.zero_le _
  | x :: a, b, hn, h => by
    have hx := h x (List.mem_cons_self ..)
    obtain ⟨h1, h2⟩ := List.nodup_cons.1 hn
    have := nodup_le a (b.erase x) h2 (fun y hy => (List.mem_erase_of_ne (fun e => h1 (by rw [← e]; exact hy))).2 (h y (List.mem_cons_of_mem _ hy)))
    rw [List.length_erase_of_mem hx] at this
    have := List.length_pos_of_mem hx
    simp only [List.length_cons]
    omega
/-- each kind once -/
def kindsF {α : Type} [DecidableEq α] (ks : List α) : List α → List α := List.foldl (fun ks r => if r ∈ ks then ks else ks ++ [r]) ks
theorem kinds_ok {α : Type} [DecidableEq α] : ∀ (l ks : List α), ks.Nodup → (kindsF ks l).Nodup ∧ ∀ x, x ∈ kindsF ks l ↔ x ∈ ks ∨ x ∈ l
  | [], ks, h => ⟨h, fun x => by simp [kindsF]⟩
  | r :: l, ks, h => by
    have h9 : kindsF ks (r :: l) = kindsF (if r ∈ ks then ks else ks ++ [r]) l := rfl
    rw [h9]
    by_cases hr : r ∈ ks
    · rw [if_pos hr]
      obtain ⟨h1, h2⟩ := kinds_ok l ks h
      refine ⟨h1, fun x => ?_⟩
      rw [h2 x, List.mem_cons]
      constructor
      · rintro (h | h); exact .inl h; exact .inr (.inr h)
      · rintro (h | rfl | h); exact .inl h; exact .inl hr; exact .inr h
    · rw [if_neg hr]
      obtain ⟨h1, h2⟩ := kinds_ok l (ks ++ [r]) (by
        rw [List.nodup_append]
        refine ⟨h, by simp, fun a ha b hb => ?_⟩
        simp at hb
        subst hb
        rintro rfl
        exact hr ha)
      refine ⟨h1, fun x => ?_⟩
      rw [h2 x, List.mem_append, List.mem_singleton, List.mem_cons]
      constructor
      · rintro ((h | h) | h); exact .inl h; exact .inr (.inl h); exact .inr (.inr h)
      · rintro (h | h | h); exact .inl (.inl h); exact .inl (.inr h); exact .inr h
/-- all beginnings of all words -/
def headsL (l : List Wv) : List (List Nat) := l.flatMap fun e => (List.range (e.1.length + 1)).map fun n => e.1.take n
theorem mem_heads {l : List Wv} {p : List Nat} : p ∈ headsL l ↔ ∃ e ∈ l, p <+: e.1 := by
  unfold headsL
  rw [List.mem_flatMap]
  constructor
  · rintro ⟨e, he, hp⟩
    obtain ⟨n, _, rfl⟩ := List.mem_map.1 hp
    exact ⟨e, he, List.take_prefix _ _⟩
  · rintro ⟨e, he, hp⟩
    refine ⟨e, he, List.mem_map.2 ⟨p.length, ?_, (List.prefix_iff_eq_take.1 hp).symm⟩⟩
    have := hp.length_le
    simp
    omega
def classesL (l : List Wv) : Nat := (kindsF [] ((headsL l).map fun p => rel (sub l p))).length
theorem build_classes {l : List Wv} (hl : AllLt 256 l) (hn : l ≠ []) (hr : Rise l) : (build l).states.length = classesL l := by
  rw [build_K hl hn hr]
  simp only
  obtain ⟨SS, hSS⟩ : ∃ x, (K 256 [] l).1 = x := ⟨_, rfl⟩
  obtain ⟨hInv, hKO⟩ := K_ok 256 l [] hl hn hr Inv.nil_
  obtain ⟨m, hm⟩ : ∃ m, m = SS.length + 256 := ⟨_, rfl⟩
  have hlm : AllLt (m + 1) l := hl.mono (by omega)
  obtain ⟨q1, q2⟩ := K_kinds 256 l [] SS m hl hn hr Inv.nil_ hlm (by rw [hSS]; exact List.prefix_refl _)
  rw [hSS] at q1 hInv ⊢
  have hkn : ((List.range SS.length).map (wds SS m)).Nodup := by
    refine List.pairwise_iff_getElem.2 fun i j hi hj hij he => ?_
    simp at hi hj
    simp only [List.getElem_map, List.getElem_range] at he
    have := wds_inj hInv m i j SS[i] SS[j] (by omega) (by omega) (List.getElem?_eq_getElem hi) (List.getElem?_eq_getElem hj) he
    omega
  obtain ⟨c1, c2⟩ := kinds_ok ((headsL l).map fun p => rel (sub l p)) [] List.nodup_nil
  unfold classesL
  refine Nat.le_antisymm ?_ ?_
  · have := nodup_le _ (kindsF [] ((headsL l).map fun p => rel (sub l p))) hkn (fun x hx => by
      obtain ⟨k, hk, rfl⟩ := List.mem_map.1 hx
      obtain ⟨e, he, p, hp, hw⟩ := q1 k (Nat.zero_le _) (by simpa using hk)
      rw [c2]
      exact .inr (List.mem_map.2 ⟨p, mem_heads.2 ⟨e, he, hp⟩, hw.symm⟩))
    simpa using this
  · have := nodup_le _ ((List.range SS.length).map (wds SS m)) c1 (fun x hx => by
      rw [c2] at hx
      rcases hx with hx | hx
      · cases hx
      · obtain ⟨p, hp, rfl⟩ := List.mem_map.1 hx
        obtain ⟨e, he, hpe⟩ := mem_heads.1 hp
        obtain ⟨k, hk, hw⟩ := q2 e he p hpe
        exact List.mem_map.2 ⟨k, by simpa using hk, hw⟩)
    simpa using this
end Dw
end Go.Proofs.YtdkbgbdgmihlmaaGreatDoor
