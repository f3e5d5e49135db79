/- Dawg: there are as many states as kinds of what words go on with; a word's value by the states. -/
import Derived.Test.YtgjfhedgdbbinaaDoorDWal
namespace Go.Proofs.YtgjfhedgdbbinaaDoor
set_option linter.unusedSimpArgs false
set_option linter.unusedVariables false
set_option linter.unnecessarySimpa false
namespace Dw
/-- what words go on with behind a beginning -/
def sub (l : List Wv) (p : List Nat) : List Wv := (l.filter fun e => p.isPrefixOf e.1).map fun e => (e.1.drop p.length, e.2)
theorem sub_nil (l : List Wv) : sub l [] = l := by
  unfold sub
  rw [List.filter_eq_self.2 (fun e _ => by simp)]
  simp
theorem sub_append (a b : List Wv) (p : List Nat) : sub (a ++ b) p = sub a p ++ sub b p := by simp [sub]
theorem sub_none {l : List Wv} {p : List Nat} (h : ∀ e ∈ l, ¬ p <+: e.1) : sub l p = [] := by
  unfold sub
  rw [List.filter_eq_nil_iff.2 (fun e he => by rw [List.isPrefixOf_iff_prefix]; exact h e he)]
  rfl
theorem sub_pre (g : List Wv) (b : Nat) (p : List Nat) : sub (g.map (pre [b])) (b :: p) = sub g p := by
  unfold sub
  rw [List.filter_map, List.map_map]
  congr 1
  refine List.filter_congr fun e he => ?_
  simp [pre, List.isPrefixOf]
theorem sub_flat : ∀ (gs : List (Nat × List Wv)), (gs.Pairwise fun a b => a.1 < b.1) → ∀ (b : Nat) (g : List Wv) (p : List Nat), (b, g) ∈ gs → sub (flat gs) (b :: p) = sub g p
  | [], _, _, _, _, h => by cases h
  | (b', g') :: gs, hp, b, g, p, h => by
    obtain ⟨h1, h2⟩ := List.pairwise_cons.1 hp
    have hfl : flat ((b', g') :: gs) = g'.map (pre [b']) ++ flat gs := by simp [flat]
    rw [hfl, sub_append]
    rcases List.mem_cons.1 h with he | hm
    · injection he with e1 e2
      subst e1 e2
      rw [sub_pre, sub_none (l := flat gs), List.append_nil]
      intro e he hpre
      obtain ⟨x, hx, he⟩ := List.mem_flatMap.1 he
      obtain ⟨y, hy, rfl⟩ := List.mem_map.1 he
      have := h1 x hx
      obtain ⟨t, ht⟩ := hpre
      have : b = x.1 := by
        have h9 : (b :: p) ++ t = x.1 :: y.1 := ht
        injection h9
      simp only at *
      omega
    · have hlt := h1 (b, g) hm
      rw [sub_none (l := g'.map (pre [b'])), List.nil_append]
      · exact sub_flat gs h2 b g p hm
      · intro e he hpre
        obtain ⟨y, hy, rfl⟩ := List.mem_map.1 he
        obtain ⟨t, ht⟩ := hpre
        have h9 : (b :: p) ++ t = b' :: y.1 := ht
        injection h9
        simp only at hlt
        omega
theorem sub_group {l r : List Wv} {c : Bool} {v : Nat} (h : l = (if c then [([], v)] else []) ++ r) (hG : Grp r (groups r)) {b : Nat} {g : List Wv} (hg : (b, g) ∈ groups r) (p : List Nat) : sub l (b :: p) = sub g p := by
  rw [h, sub_append, sub_none, List.nil_append]
  · conv => lhs; rw [hG.flat]
    exact sub_flat _ hG.rise b g p hg
  · intro e he hp
    cases c with
    | false => cases he
    | true =>
      simp only [if_true, List.mem_singleton] at he
      subst he
      obtain ⟨t, ht⟩ := hp
      cases ht
section
variable {f : Nat} (IHB : ∀ (l : List Wv) (ss SS : List State) (m : Nat), AllLt f l → l ≠ [] → Rise l → Inv ss → AllLt (m + 1) l → (K f ss l).1 <+: SS → ∀ k, ss.length ≤ k → k < (K f ss l).1.length → ∃ e ∈ l, ∃ p, p <+: e.1 ∧ wds SS m k = rel (sub l p))
  (IHA : ∀ (l : List Wv) (ss SS : List State) (m : Nat), AllLt f l → l ≠ [] → Rise l → Inv ss → AllLt (m + 1) l → (K f ss l).1 <+: SS → ∀ e ∈ l, ∀ p, p <+: e.1 → ∃ k, k < SS.length ∧ wds SS m k = rel (sub l p))
include IHB IHA
theorem arcs_kinds (SS : List State) (m : Nat) : ∀ (gs : List (Nat × List Wv)) (ss : List State) (as : List Arc), (∀ x ∈ gs, x.2 ≠ [] ∧ Rise x.2 ∧ AllLt f x.2) → (∀ x ∈ gs, AllLt (m + 1) x.2) → Inv ss → (arcsN (N f) ss as gs).1 <+: SS →
    (∀ k, ss.length ≤ k → k < (arcsN (N f) ss as gs).1.length → ∃ x ∈ gs, ∃ e ∈ x.2, ∃ p, p <+: e.1 ∧ wds SS m k = rel (sub x.2 p)) ∧ ∀ x ∈ gs, ∀ e ∈ x.2, ∀ p, p <+: e.1 → ∃ k, k < SS.length ∧ wds SS m k = rel (sub x.2 p)
  | [], ss, as, _, _, hi, _ => ⟨fun k h1 h2 => by simp only [arcsN] at h2; omega, (fun x hx => by cases hx)⟩
  | (b, g) :: gs, ss, as, hg, hm, hi, hp => by
    obtain ⟨g1, g2, g3⟩ := hg (b, g) (List.mem_cons_self ..)
    obtain ⟨i1, hk⟩ := K_ok f g ss g3 g1 g2 hi
    have h9 : arcsN (N f) ss as ((b, g) :: gs) = arcsN (N f) (K f ss g).1 (as ++ [⟨b, leastOf (N f ss g).2, ((K f ss g).2 : Int)⟩]) gs := rfl
    rw [h9] at hp ⊢
    obtain ⟨q1, q2⟩ := arcs_kinds SS m gs (K f ss g).1 (as ++ [⟨b, leastOf (N f ss g).2, ((K f ss g).2 : Int)⟩]) (fun x hx => hg x (List.mem_cons_of_mem _ hx)) (fun x hx => hm x (List.mem_cons_of_mem _ hx)) i1 hp
    obtain ⟨_, _, _, hA⟩ := arcs_ok f (K_ok f) gs (K f ss g).1 (as ++ [⟨b, leastOf (N f ss g).2, ((K f ss g).2 : Int)⟩]) (fun x hx => hg x (List.mem_cons_of_mem _ hx)) i1
    have hm1 := hm (b, g) (List.mem_cons_self ..)
    refine ⟨fun k h1 h2 => ?_, fun x hx e he p hpe => ?_⟩
    · rcases Nat.lt_or_ge k (K f ss g).1.length with h3 | h3
      · obtain ⟨e, he, p, hpe, hw⟩ := IHB g ss SS m g3 g1 g2 hi hm1 (hA.pre.trans hp) k h1 h3
        exact ⟨(b, g), List.mem_cons_self .., e, he, p, hpe, hw⟩
      · obtain ⟨x, hx, h4⟩ := q1 k h3 h2
        exact ⟨x, List.mem_cons_of_mem _ hx, h4⟩
    · rcases List.mem_cons.1 hx with rfl | hx
      · exact IHA g ss SS m g3 g1 g2 hi hm1 (hA.pre.trans hp) e he p hpe
      · exact q2 x hx e he p hpe
end
theorem K_kinds : ∀ (f : Nat) (l : List Wv) (ss SS : List State) (m : Nat), AllLt f l → l ≠ [] → Rise l → Inv ss → AllLt (m + 1) l → (K f ss l).1 <+: SS →
    (∀ k, ss.length ≤ k → k < (K f ss l).1.length → ∃ e ∈ l, ∃ p, p <+: e.1 ∧ wds SS m k = rel (sub l p)) ∧ ∀ e ∈ l, ∀ p, p <+: e.1 → ∃ k, k < SS.length ∧ wds SS m k = rel (sub l p)
  | 0, [], ss, _, _, _, hn, _, _, _, _ => absurd rfl hn
  | 0, e :: l, ss, _, _, hl, _, _, _, _, _ => absurd (hl e (List.mem_cons_self ..)) (by omega)
  | f + 1, l, ss, SS, m, hl, hn, hr, hi, hm, hp => by
    have hwds := K_wds (f + 1) l ss SS m hl hn hr hi hm hp
    obtain ⟨hInv, hKO⟩ := K_ok (f + 1) l ss hl hn hr hi
    obtain ⟨r, p1, p2, p3, p4, p5, p6⟩ := parts hr
    have hmr : ∀ e ∈ r, e ∈ l := fun e he => by rw [p1]; exact List.mem_append_right _ he
    have hall := hl.group hmr p3
    have hg : ∀ x ∈ groups l, x.2 ≠ [] ∧ Rise x.2 ∧ AllLt f x.2 := fun x hx => by rw [p2] at hx; exact ⟨(p3.some_ x hx).1, (p3.some_ x hx).2, hall x hx⟩
    have hmem : ∀ x ∈ groups r, ∀ e ∈ x.2, pre [x.1] e ∈ l := fun x hx e he => hmr _ (by rw [p3.flat]; exact mem_flat hx he)
    have hgm : ∀ x ∈ groups l, AllLt (m + 1) x.2 := fun x hx e he => by
      rw [p2] at hx
      have := hm _ (hmem x hx e he)
      simp [pre] at this
      omega
    have hK : K (f + 1) ss l = finish (arcsN (N f) ss [] (groups l)).1 (less (N (f + 1) ss l).2 (leastV l)) := by
      unfold K
      rw [least_N (f + 1) l ss hl hn hr]
      rfl
    have hpre : (arcsN (N f) ss [] (groups l)).1 <+: (K (f + 1) ss l).1 := by
      rw [hK]
      unfold finish
      split
      · exact List.prefix_refl _
      · exact List.prefix_append _ _
    obtain ⟨q1, q2⟩ := arcs_kinds (fun l ss SS m h1 h2 h3 h4 h5 h6 => (K_kinds f l ss SS m h1 h2 h3 h4 h5 h6).1) (fun l ss SS m h1 h2 h3 h4 h5 h6 => (K_kinds f l ss SS m h1 h2 h3 h4 h5 h6).2) SS m (groups l) ss [] hg hgm hi (hpre.trans hp)
    refine ⟨fun k h1 h2 => ?_, fun e he p hpe => ?_⟩
    · rcases Nat.lt_or_ge k (arcsN (N f) ss [] (groups l)).1.length with h3 | h3
      · obtain ⟨x, hx, e, he, p, hpe, hw⟩ := q1 k h1 h3
        rw [p2] at hx
        refine ⟨pre [x.1] e, hmem x hx e he, x.1 :: p, ?_, ?_⟩
        · obtain ⟨t, ht⟩ := hpe
          exact ⟨t, by simp [pre, ht]⟩
        · rw [hw, sub_group p1 p3 (b := x.1) (g := x.2) hx p]
      · obtain ⟨e, l', hl'⟩ := List.exists_cons_of_ne_nil hn
        refine ⟨e, by rw [hl']; exact List.mem_cons_self .., [], List.nil_prefix, ?_⟩
        rw [sub_nil]
        have hlt := hKO.lt
        have : k = (K (f + 1) ss l).2 := by
          rw [hK] at h2 ⊢
          unfold finish at h2 ⊢
          split
          · rename_i i hfi
            rw [hfi] at h2
            simp only at h2
            omega
          · rename_i hfi
            rw [hfi] at h2
            simp at h2
            simp only
            omega
        rw [this]
        exact hwds
    · cases p with
      | nil => exact ⟨(K (f + 1) ss l).2, Nat.lt_of_lt_of_le hKO.lt hp.length_le, by rw [sub_nil]; exact hwds⟩
      | cons b p =>
        have her : e ∈ r := by
          rw [p1] at he
          rcases List.mem_append.1 he with he | he
          · cases hc : (finOf l).1 with
            | false => rw [hc] at he; cases he
            | true =>
              rw [hc] at he
              simp only [if_true, List.mem_singleton] at he
              subst he
              obtain ⟨t, ht⟩ := hpe
              cases ht
          · exact he
        rw [p3.flat] at her
        obtain ⟨x, hx, he2⟩ := List.mem_flatMap.1 her
        obtain ⟨y, hy, rfl⟩ := List.mem_map.1 he2
        have hbp : b = x.1 ∧ p <+: y.1 := by
          obtain ⟨t, ht⟩ := hpe
          have h9 : b :: (p ++ t) = x.1 :: y.1 := ht
          injection h9 with h9 h10
          exact ⟨h9, t, h10⟩
        obtain ⟨rfl, hpy⟩ := hbp
        obtain ⟨k, hk, hw⟩ := q2 x (by rw [p2]; exact hx) y hy p hpy
        exact ⟨k, hk, by rw [hw, sub_group p1 p3 (b := x.1) (g := x.2) hx p]⟩
/-! counting -/
theorem nodup_le {α : Type} [DecidableEq α] : ∀ (a b : List α), a.Nodup → (∀ x ∈ a, x ∈ b) → a.length ≤ b.length
  | [], _, _, _ => Nat.zero_le _
  | x :: a, b, hn, h => by
    have hx := h x (List.mem_cons_self ..)
    obtain ⟨h1, h2⟩ := List.nodup_cons.1 hn
    have := nodup_le a (b.erase x) h2 (fun y hy => (List.mem_erase_of_ne (fun e => h1 (by rw [← e]; exact hy))).2 (h y (List.mem_cons_of_mem _ hy)))
    rw [List.length_erase_of_mem hx] at this
    have := List.length_pos_of_mem hx
    simp only [List.length_cons]
    omega
/-- each kind once -/
def kindsF {α : Type} [DecidableEq α] (ks : List α) : List α → List α := List.foldl (fun ks r => if r ∈ ks then ks else ks ++ [r]) ks
theorem kinds_ok {α : Type} [DecidableEq α] : ∀ (l ks : List α), ks.Nodup → (kindsF ks l).Nodup ∧ ∀ x, x ∈ kindsF ks l ↔ x ∈ ks ∨ x ∈ l
  | [], ks, h => ⟨h, fun x => by simp [kindsF]⟩
  | r :: l, ks, h => by
    have h9 : kindsF ks (r :: l) = kindsF (if r ∈ ks then ks else ks ++ [r]) l := rfl
    rw [h9]
    by_cases hr : r ∈ ks
    · rw [if_pos hr]
      obtain ⟨h1, h2⟩ := kinds_ok l ks h
      refine ⟨h1, fun x => ?_⟩
      rw [h2 x, List.mem_cons]
      constructor
      · rintro (h | h); exact .inl h; exact .inr (.inr h)
      · rintro (h | rfl | h); exact .inl h; exact .inl hr; exact .inr h
    · rw [if_neg hr]
      obtain ⟨h1, h2⟩ := kinds_ok l (ks ++ [r]) (by
        rw [List.nodup_append]
        refine ⟨h, by simp, fun a ha b hb => ?_⟩
        simp at hb
        subst hb
        rintro rfl
        exact hr ha)
      refine ⟨h1, fun x => ?_⟩
      rw [h2 x, List.mem_append, List.mem_singleton, List.mem_cons]
      constructor
      · rintro ((h | h) | h); exact .inl h; exact .inr (.inl h); exact .inr (.inr h)
      · rintro (h | h | h); exact .inl (.inl h); exact .inl (.inr h); exact .inr h
/-- all beginnings of all words -/
def headsL (l : List Wv) : List (List Nat) := l.flatMap fun e => (List.range (e.1.length + 1)).map fun n => e.1.take n
theorem mem_heads {l : List Wv} {p : List Nat} : p ∈ headsL l ↔ ∃ e ∈ l, p <+: e.1 := by
  unfold headsL
  rw [List.mem_flatMap]
  constructor
  · rintro ⟨e, he, hp⟩
    obtain ⟨n, _, rfl⟩ := List.mem_map.1 hp
    exact ⟨e, he, List.take_prefix _ _⟩
  · rintro ⟨e, he, hp⟩
    refine ⟨e, he, List.mem_map.2 ⟨p.length, ?_, (List.prefix_iff_eq_take.1 hp).symm⟩⟩
    have := hp.length_le
    simp
    omega
def classesL (l : List Wv) : Nat := (kindsF [] ((headsL l).map fun p => rel (sub l p))).length
theorem build_classes {l : List Wv} (hl : AllLt 256 l) (hn : l ≠ []) (hr : Rise l) : (build l).states.length = classesL l := by
  rw [build_K hl hn hr]
  simp only
  obtain ⟨SS, hSS⟩ : ∃ x, (K 256 [] l).1 = x := ⟨_, rfl⟩
  obtain ⟨hInv, hKO⟩ := K_ok 256 l [] hl hn hr Inv.nil_
  obtain ⟨m, hm⟩ : ∃ m, m = SS.length + 256 := ⟨_, rfl⟩
  have hlm : AllLt (m + 1) l := hl.mono (by omega)
  obtain ⟨q1, q2⟩ := K_kinds 256 l [] SS m hl hn hr Inv.nil_ hlm (by rw [hSS]; exact List.prefix_refl _)
  rw [hSS] at q1 hInv ⊢
  have hkn : ((List.range SS.length).map (wds SS m)).Nodup := by
    refine List.pairwise_iff_getElem.2 fun i j hi hj hij he => ?_
    simp at hi hj
    simp only [List.getElem_map, List.getElem_range] at he
    have := wds_inj hInv m i j SS[i] SS[j] (by omega) (by omega) (List.getElem?_eq_getElem hi) (List.getElem?_eq_getElem hj) he
    omega
  obtain ⟨c1, c2⟩ := kinds_ok ((headsL l).map fun p => rel (sub l p)) [] List.nodup_nil
  unfold classesL
  refine Nat.le_antisymm ?_ ?_
  · have := nodup_le _ (kindsF [] ((headsL l).map fun p => rel (sub l p))) hkn (fun x hx => by
      obtain ⟨k, hk, rfl⟩ := List.mem_map.1 hx
      obtain ⟨e, he, p, hp, hw⟩ := q1 k (Nat.zero_le _) (by simpa using hk)
      rw [c2]
      exact .inr (List.mem_map.2 ⟨p, mem_heads.2 ⟨e, he, hp⟩, hw.symm⟩))
    simpa using this
  · have := nodup_le _ ((List.range SS.length).map (wds SS m)) c1 (fun x hx => by
      rw [c2] at hx
      rcases hx with hx | hx
      · cases hx
      · obtain ⟨p, hp, rfl⟩ := List.mem_map.1 hx
        obtain ⟨e, he, hpe⟩ := mem_heads.1 hp
        obtain ⟨k, hk, hw⟩ := q2 e he p hpe
        exact List.mem_map.2 ⟨k, by simpa using hk, hw⟩)
    simpa using this
end Dw
end Go.Proofs.YtgjfhedgdbbinaaDoor
