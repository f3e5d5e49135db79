/- segment: what the asks answer, of the words behind. -/
import Derived.Test.YtcddnmhmcieebaaGreatDoorY23
import Derived.Test.YtcddnmhmcieebaaGreatDoorY22
import Derived.Test.YtcddnmhmcieebaaGreatDoorTools
import Derived.Test.YtcddnmhmcieebaaGreatDoorY12
namespace Go.Proofs.YtcddnmhmcieebaaGreatDoor
open Go.RowKit
set_option linter.unusedSimpArgs false
set_option linter.unusedVariables false
set_option linter.unnecessarySimpa false
namespace Dw
theorem lex_ahead : ∀ (a fr x : List Nat), lexlt a (fr.take a.length) = true -> lexlt (a ++ x) fr = true
 | [], fr, x, h => by simp [lexlt_nil] at h
 | a :: l, [], x, h => by simp [lexlt_nil] at h
 | a :: l, b :: fr, x, h => by
  rw [List.length_cons, List.take_succ_cons, lexlt_cons] at h
  rw [List.cons_append, lexlt_cons]
  rcases h with h | ⟨h1, h2⟩
  ·exact .inl h
  ·exact .inr ⟨h1, lex_ahead l fr x h2⟩
theorem walk_none {ss : List State} (fr : List Nat) : ∀ (f k n : Nat) (u : ByteArray) (b : Bool), wds ss f k = [] -> walkS ss fr (f + 1) k u n b = [] := by
 intro f
 induction f with
 | zero =>
  intro k n u b h
  cases hk : ss[k]? with
  | none => rw [walkS, hk]; simp
  | some st =>
   have h1 : fin1 st = [] := by have := h; rw [wds, hk] at this; exact this
   have hf : st.final = false := by unfold fin1 at h1; split at h1; cases h1; rename_i h2; simpa using h2
   rw [walkS, hk]
   simp only [hf, Bool.false_and, Bool.false_eq_true, if_false, List.nil_append, walkS]
   split
   ·rfl
   ·simp
 | succ f ih =>
  intro k n u b h
  cases hk : ss[k]? with
  | none => rw [walkS, hk]; simp
  | some st =>
   rw [wds_at hk, List.append_eq_nil_iff] at h
   have hf : st.final = false := by have h1 := h.1; unfold fin1 at h1; split at h1; cases h1; rename_i h2; simpa using h2
   rw [walkS, hk]
   simp only [hf, Bool.false_and, Bool.false_eq_true, if_false, List.nil_append]
   split
   ·rfl
   ·rw [List.flatMap_eq_nil_iff] at h |-
    intro a ha
    exact ih _ _ _ _ (by simpa using h.2 a ha)
theorem byte_lt {ss : List State} (hok : ∀ s ∈ ss, okS s) {k : Nat} {st : State} (hk : ss[k]? = some st) {a : Arc} (ha : a ∈ st.arcs) : a.byte < 256 := ((hok _ (gM1 hk)).2.2 a ha).1
theorem walk_fin {st : State} {fr : List Nat} {n : Nat} {u : ByteArray} (h : ∀ e ∈ fin1 st, n + e.2 <= 4294967296) : ownW st fr u n true = ((fin1 st).filter fun e => !lexlt (wl u ++ e.1) fr).map fun e => (⟨u ++ bl e.1, n + e.2, true⟩ : Wd) := by
 unfold ownW fin1 at *
 cases hf : st.final
 ·simp
 ·have h1 := h ([], st.out) (by simp [hf])
  simp only [if_true, Bool.true_and, List.filter_cons, List.append_nil, List.filter_nil]
  cases hl : lexlt (wl u) fr
  ·simp only [Bool.not_false, if_true, List.map_cons, List.map_nil]
   rw [Nat.mod_eq_of_lt (by unfold M64; omega), decide_eq_true (by unfold M64; omega), bl_nil, append_empty]
  ·simp
theorem flatMap_congr9 {α β : Type} {f g : α -> List β} : ∀ {l : List α}, (∀ a ∈ l, f a = g a) -> l.flatMap f = l.flatMap g
 | [], _ => rfl
 | a :: l, h => by rw [List.flatMap_cons, List.flatMap_cons, h a (List.mem_cons_self ..), flatMap_congr9 fun x hx => h x (List.mem_cons_of_mem _ hx)]
theorem walk_wds {ss : List State} (hok : ∀ s ∈ ss, okS s) (fr : List Nat) : ∀ (f k n : Nat) (u : ByteArray), (∀ e ∈ wds ss f k, n + e.2 <= 4294967296) -> walkS ss fr (f + 1) k u n true = ((wds ss f k).filter fun e => !lexlt (wl u ++ e.1) fr).map fun e => (⟨u ++ bl e.1, n + e.2, true⟩ : Wd) := by
 intro f
 induction f with
 | zero =>
  intro k n u h
  cases hk : ss[k]? with
  | none => rw [walkS, hk, wds, hk]; simp
  | some st =>
   have h0 : wds ss 0 k = fin1 st := by rw [wds, hk]
   rw [h0] at h |-
   cases ha : lexlt (wl u) (fr.take u.size)
   ·rw [walkS_go ha hk, walk_fin h]
    have : st.arcs.flatMap (kidW ss fr 0 u n true) = [] := by rw [List.flatMap_eq_nil_iff]; intro a _; rfl
    rw [this, List.append_nil]
   ·rw [walkS_ahead ha]
    rw [List.filter_eq_nil_iff.2 (fun e _ => by rw [lex_ahead (wl u) fr e.1 (by rw [wl_length]; exact ha)]; simp)]
    rfl
 | succ f ih =>
  intro k n u h
  cases hk : ss[k]? with
  | none => rw [walkS, hk, wds, hk]; simp
  | some st =>
   cases ha : lexlt (wl u) (fr.take u.size)
   ·rw [wds_at hk] at h |-
    rw [walkS_go ha hk, walk_fin (fun e he => h e (List.mem_append_left _ he)), List.filter_append, List.map_append]
    refine congrArg (_ ++ ·) ?_
    rw [List.filter_flatMap, List.map_flatMap]
    refine flatMap_congr9 fun a ham => ?_
    have hb := byte_lt hok hk ham
    have hm : ∀ e ∈ wds ss f a.to.toNat, n + (a.out + e.2) <= 4294967296 := fun e he => h (shift a.byte a.out e) (List.mem_append_right _ (List.mem_flatMap.2 ⟨a, ham, List.mem_map_of_mem he⟩))
    unfold kidW
    by_cases hn : wds ss f a.to.toNat = []
    ·rw [walk_none fr _ _ _ _ _ hn, hn]; rfl
    ·obtain ⟨e0, he0⟩ := List.exists_mem_of_ne_nil _ hn
     have h0 := hm e0 he0
     rw [Nat.mod_eq_of_lt (by unfold M64; omega), decide_eq_true (by unfold M64; omega), Bool.and_self, ih _ _ _ (fun e he => by have := hm e he; omega), List.filter_map, List.map_map]
     have hw : wl (u ++ bl [a.byte]) = wl u ++ [a.byte] := by rw [wl_append, wl_blE (by simpa using hb)]
     have hp : ((fun e : Wv => !lexlt (wl u ++ e.1) fr) ∘ shift a.byte a.out) = fun e : Wv => !lexlt (wl (u ++ bl [a.byte]) ++ e.1) fr := by
      funext e; simp [shift, hw]
     rw [hp]
     refine List.map_congr_left fun e _ => ?_
     show (⟨u ++ bl [a.byte] ++ bl e.1, n + a.out + e.2, true⟩ : Wd) = ⟨u ++ bl (a.byte :: e.1), n + (a.out + e.2), true⟩
     rw [bl_cons, append_assoc, Nat.add_assoc]
     rfl
   ·rw [walkS_ahead ha]
    rw [List.filter_eq_nil_iff.2 (fun e _ => by rw [lex_ahead (wl u) fr e.1 (by rw [wl_length]; exact ha)]; simp)]
    rfl
theorem foundV_pre {α : Type} {z : α} {o : State -> α} {wi : α -> α -> Nat -> α} {ss : List State} {i : Nat} : ∀ (n : Nat), i + n <= ss.length -> foundV z o wi (ss.take i) <+: foundV z o wi (ss.take (i + n))
 | 0, _ => List.prefix_refl _
 | n + 1, h => by
  refine (foundV_pre n (by omega)).trans ?_
  rw [<- Nat.add_assoc, foundV_take (gE1 (by omega))]
  exact List.prefix_append _ _
theorem foundV_get {α : Type} {z : α} {o : State -> α} {wi : α -> α -> Nat -> α} {ss : List State} {i j : Nat} {st : State} (h : ss[i]? = some st) (hij : i < j) (hj : j <= ss.length) : (foundV z o wi (ss.take j))[i]? = some (foldA z wi (foundV z o wi (ss.take i)) (o st) st.arcs) := by
 have h1 := foundV_pre (z := z) (o := o) (wi := wi) (ss := ss) (i := i + 1) (j - (i + 1)) (by omega)
 rw [show i + 1 + (j - (i + 1)) = j by omega, foundV_take h] at h1
 obtain ⟨t, ht⟩ := h1
 have hl := foundV_len (z := z) (o := o) (wi := wi) (ss := ss) i (by omega)
 rw [<- ht, List.append_assoc, List.getElem?_append_right (by omega), hl, Nat.sub_self]
 rfl
theorem foldA_law {α : Type} {z : α} {wi : α -> α -> Nat -> α} {ss : List State} {m : Nat} {vs : List α} (R : List Wv -> α -> Prop) (hs : ∀ l x l2 c (a : Arc), R l x -> R l2 c -> R (l ++ l2.map (shift a.byte a.out)) (wi x c a.out)) : ∀ (al : List Arc) (l : List Wv) (x : α), R l x -> (∀ a ∈ al, R (wds ss m a.to.toNat) (vs.getD a.to.toNat z)) -> R (l ++ al.flatMap fun a => (wds ss m a.to.toNat).map (shift a.byte a.out)) (foldA z wi vs x al)
 | [], l, x, h, _ => by rw [List.flatMap_nil, List.append_nil]; exact h
 | a :: al, l, x, h, ha => by
  rw [List.flatMap_cons, <- List.append_assoc]
  exact foldA_law R hs al _ _ (hs _ _ _ _ a h (ha a (List.mem_cons_self ..))) fun b hb => ha b (List.mem_cons_of_mem _ hb)
theorem found_law {α : Type} {z : α} {o : State -> α} {wi : α -> α -> Nat -> α} {ss : List State} (hfm : ∀ (k : Nat) (st : State), ss[k]? = some st -> okArcs k (-1) st.arcs = true) (R : List Wv -> α -> Prop) (h0 : ∀ st, R (fin1 st) (o st)) (hs : ∀ l x l2 c (a : Arc), R l x -> R l2 c -> R (l ++ l2.map (shift a.byte a.out)) (wi x c a.out)) : ∀ (m k j : Nat), k <= m -> k < j -> j <= ss.length -> R (wds ss m k) ((foundV z o wi (ss.take j)).getD k z) := by
 intro m
 induction m with
 | zero =>
  intro k j hk hkj hj
  obtain rfl : k = 0 := by omega
  have hst : ss[0]? = some (ss[0]'(by omega)) := gE1 (by omega)
  rw [List.getD_eq_getElem?_getD, foundV_get hst hkj hj]
  have ha := hfm 0 _ hst
  cases hal : (ss[0]'(by omega)).arcs with
  | cons a l => rw [hal] at ha; have := okArcs_to ha (List.mem_cons_self ..); omega
  | nil => rw [wds, hst]; exact h0 _
 | succ m ih =>
  intro k j hk hkj hj
  have hst : ss[k]? = some (ss[k]'(by omega)) := gE1 (by omega)
  rw [List.getD_eq_getElem?_getD, foundV_get hst hkj hj, wds_at hst]
  have ha := hfm k _ hst
  exact foldA_law R hs _ _ _ (h0 _) fun a ham => by have := okArcs_to ha ham; exact ih _ _ (by omega) (by omega) (by omega)
theorem found_last {α : Type} {z : α} {o : State -> α} {wi : α -> α -> Nat -> α} {ss : List State} (hfm : ∀ (k : Nat) (st : State), ss[k]? = some st -> okArcs k (-1) st.arcs = true) (R : List Wv -> α -> Prop) (h0 : ∀ st, R (fin1 st) (o st)) (hs : ∀ l x l2 c (a : Arc), R l x -> R l2 c -> R (l ++ l2.map (shift a.byte a.out)) (wi x c a.out)) (m : Nat) (hm : ss.length <= m + 1) (hl : 0 < ss.length) : R (wds ss m (ss.length - 1)) ((foundV z o wi ss).getLastD z) := by
 have h := found_law (z := z) hfm R h0 hs m (ss.length - 1) ss.length (by omega) (by omega) (Nat.le_refl _)
 rw [List.take_length] at h
 rwa [List.getLastD_eq_getLast?, List.getLast?_eq_getElem?, foundV_len_all, <- List.getD_eq_getElem?_getD]
theorem cnt_law {ss : List State} (hfm : ∀ (k : Nat) (st : State), ss[k]? = some st -> okArcs k (-1) st.arcs = true) (m : Nat) (hm : ss.length <= m + 1) (hl : 0 < ss.length) : cntV ss = min ((wds ss m (ss.length - 1)).length : Int) 100001 :=
 found_last hfm (fun l x => x = min (l.length : Int) 100001) (fun st => by unfold fin1 cntO; split <;> rfl) (fun l x l2 c a h1 h2 => by subst h1; subst h2; unfold cntW; rw [List.length_append, List.length_map]; omega) m hm hl
theorem lng_law {ss : List State} (hfm : ∀ (k : Nat) (st : State), ss[k]? = some st -> okArcs k (-1) st.arcs = true) (m : Nat) (hm : ss.length <= m + 1) (hl : 0 < ss.length) : lngV ss = -1 \/ ∃ e ∈ wds ss m (ss.length - 1), lngV ss = (e.1.length : Int) :=
 found_last hfm (fun l x => x = -1 \/ ∃ e ∈ l, x = (e.1.length : Int)) (fun st => by unfold fin1 lngO; split; exact .inr ⟨_, List.mem_cons_self .., rfl⟩; exact .inl rfl) (fun l x l2 c a h1 h2 => by
  have hx : x = -1 \/ ∃ e ∈ l ++ l2.map (shift a.byte a.out), x = (e.1.length : Int) := by
   rcases h1 with h1 | ⟨e, he, h1⟩
   ·exact .inl h1
   ·exact .inr ⟨e, List.mem_append_left _ he, h1⟩
  unfold lngW
  split
  ·exact hx
  ·rcases h2 with h2 | ⟨e, he, h2⟩
   ·omega
   ·by_cases hc : x <= c + 1
    ·exact .inr ⟨_, List.mem_append_right _ (List.mem_map_of_mem he), by show max x (c + 1) = ((a.byte :: e.1).length : Int); rw [List.length_cons]; omega⟩
    ·rw [show max x (c + 1) = x by omega]; exact hx) m hm hl
theorem gt_law {ss : List State} (hfm : ∀ (k : Nat) (st : State), ss[k]? = some st -> okArcs k (-1) st.arcs = true) (m : Nat) (hm : ss.length <= m + 1) (hl : 0 < ss.length) : (∀ e ∈ wds ss m (ss.length - 1), e.2 <= 4294967296) -> ((gtV ss).any = !(wds ss m (ss.length - 1)).isEmpty) /\ ((gtV ss).any = true -> (gtV ss).fits = true /\ ∃ e ∈ wds ss m (ss.length - 1), (gtV ss).n = e.2) :=
 found_last (z := (⟨0, false, false⟩ : Most)) hfm (fun l (x : Most) => (∀ e ∈ l, e.2 <= 4294967296) -> (x.any = !l.isEmpty) /\ (x.any = true -> x.fits = true /\ ∃ e ∈ l, x.n = e.2)) (fun st _ => by unfold fin1 gtO; cases st.final <;> simp) (fun l x l2 c a h1 h2 h => by
  have k1 := h1 fun e he => h e (List.mem_append_left _ he)
  have k2 := h2 fun e he => by have := h _ (List.mem_append_right _ (List.mem_map_of_mem he)); have h3 : a.out + e.2 <= 4294967296 := this; omega
  unfold gtW Most.or
  cases hc : c.any with
  | false =>
   have hl2 : l2 = [] := by have := k2.1; rw [hc] at this; simpa using this.symm
   subst hl2
   simpa using k1
  | true =>
   obtain ⟨hf, e2, he2, hn2⟩ := k2.2 hc
   have hs : a.out + e2.2 <= 4294967296 := h _ (List.mem_append_right _ (List.mem_map_of_mem he2))
   have hmem : shift a.byte a.out e2 ∈ l ++ l2.map (shift a.byte a.out) := List.mem_append_right _ (List.mem_map_of_mem he2)
   have hem : (l ++ l2.map (shift a.byte a.out)).isEmpty = false := by rw [List.isEmpty_eq_false_iff]; exact List.ne_nil_of_mem hmem
   have h3 : (c.n + a.out) % M64 = a.out + e2.2 := by rw [hn2, Nat.mod_eq_of_lt (by unfold M64; omega)]; omega
   have h4 : decide (c.n + a.out < M64) = true := decide_eq_true (by rw [hn2]; unfold M64; omega)
   rw [hem, h3, h4, hf]
   cases hx : x.any with
   | false => exact ⟨rfl, fun _ => ⟨rfl, _, hmem, rfl⟩⟩
   | true =>
    obtain ⟨hfx, e1, he1, hn1⟩ := k1.2 hx
    refine ⟨rfl, fun _ => ⟨by simp [hfx], ?_⟩⟩
    by_cases hle : x.n <= a.out + e2.2
    ·exact ⟨_, hmem, by show max x.n (a.out + e2.2) = a.out + e2.2; omega⟩
    ·exact ⟨e1, List.mem_append_left _ he1, by show max x.n (a.out + e2.2) = e1.2; omega⟩) m hm hl
theorem wds_deep {ss : List State} (hfm : ∀ (k : Nat) (st : State), ss[k]? = some st -> okArcs k (-1) st.arcs = true) : ∀ (m k m' : Nat), k <= m -> k <= m' -> wds ss m k = wds ss m' k := by
 have h00 : ∀ m, wds ss m 0 = wds ss 0 0 := by
  intro m
  cases hk : ss[0]? with
  | none => cases m <;> rw [wds, hk] <;> rw [wds, hk]
  | some st =>
   cases ha : st.arcs with
   | nil => rw [wds_at0 hk ha m, wds_at0 hk ha 0]
   | cons a l => have h := hfm 0 st hk; rw [ha] at h; have := okArcs_to h (List.mem_cons_self ..); omega
 intro m
 induction m with
 | zero =>
  intro k m' h1 h2
  obtain rfl : k = 0 := by omega
  exact (h00 m').symm
 | succ m ih =>
  intro k m' h1 h2
  cases m' with
  | zero =>
   obtain rfl : k = 0 := by omega
   exact h00 (m + 1)
  | succ m' =>
   cases hk : ss[k]? with
   | none => rw [wds, hk, wds, hk]
   | some st =>
    rw [wds_at hk, wds_at hk]
    refine congrArg (_ ++ ·) (flatMap_congr9 fun a ha => ?_)
    have := okArcs_to (hfm k st hk) ha
    rw [ih _ m' (by omega) (by omega)]
structure OwnF (es : List Ent) : Prop where
 ok : ∀ e ∈ es, okE e /\ okW e.word = true /\ bareE e = e
 rise : RiseE es
 ne : es ≠ []
 few : es.length <= 100
 st : ∀ s ∈ (buildF es).states, okS s /\ s.arcs.length <= 256
 sl : (buildF es).states.length <= 2 + 255 * es.length
theorem OwnF.inv {es : List Ent} (h : OwnF es) : Inv (buildF es).states := by
 rw [own_build h.ok h.rise]
 have hn2 : es.map wvE ≠ [] := by simpa using h.ne
 rw [build_K (own_lt h.ok h.rise) hn2 (own_rise h.ok h.rise)]
 exact (K_ok 256 (es.map wvE) [] (own_lt h.ok h.rise) hn2 (own_rise h.ok h.rise) Inv.nil_).1
theorem OwnF.right {es : List Ent} (h : OwnF es) : rightF (buildF es).states (buildF es).init = true := by
 rw [own_build h.ok h.rise]
 exact build_right (own_lt h.ok h.rise) (own_rise h.ok h.rise)
theorem OwnF.formed {es : List Ent} (h : OwnF es) : ∀ (k : Nat) (st : State), (buildF es).states[k]? = some st -> okArcs k (-1) st.arcs = true := fun k st hk => (h.inv.good k st hk).arcs
theorem OwnF.okSt {es : List Ent} (h : OwnF es) : ∀ s ∈ (buildF es).states, okS s := fun s hs => (h.st s hs).1
theorem OwnF.pos {es : List Ent} (h : OwnF es) : 0 < (buildF es).states.length := by
 have := rightF_formed h.right
 unfold formedF at this
 simp at this
 omega
theorem OwnF.words {es : List Ent} (h : OwnF es) : wds (buildF es).states ((buildF es).states.length - 1) ((buildF es).states.length - 1) = es.map fun e => (wl e.word, valE e - leastV (es.map wvE)) := by
 rw [wds_deep h.formed _ _ ((buildF es).states.length - 1 + 255) (Nat.le_refl _) (by omega), own_wds h.ok h.rise _ (fun e he => by have := okW_size (h.ok e he).2.1; omega)]
 unfold rel
 rw [List.map_map]
 rfl
theorem OwnF.least {es : List Ent} (h : OwnF es) {e : Ent} (he : e ∈ es) : leastV (es.map wvE) <= valE e /\ valE e <= 4294967296 := ⟨leastV_le (l := es.map wvE) (wvE e) (List.mem_map_of_mem he), by have h1 := (h.ok e he).1; unfold okE at h1; unfold valE; split <;> omega⟩
theorem OwnF.sums {es : List Ent} (h : OwnF es) : ∀ e ∈ wds (buildF es).states ((buildF es).states.length - 1) ((buildF es).states.length - 1), (buildF es).init + e.2 <= 4294967296 := by
 intro e he
 rw [h.words] at he
 obtain ⟨x, hx, rfl⟩ := List.mem_map.1 he
 rw [own_init h.ok h.rise]
 have := h.least hx
 simp only
 omega
theorem entF_map {g : Ent -> Wd} : ∀ {l : List Ent}, (∀ e ∈ l, isW (g e) = true /\ ofE (g e).w (g e).n = e) -> entF (l.map g) = l
 | [], _ => rfl
 | e :: l, hl => by
  have h1 := hl e (List.mem_cons_self ..)
  have h2 := entF_map (g := g) (l := l) fun x hx => hl x (List.mem_cons_of_mem _ hx)
  unfold entF at *
  rw [List.map_cons, List.filter_cons, if_pos h1.1, List.map_cons, h1.2, h2]
theorem OwnF.walk {es : List Ent} (h : OwnF es) (fr : List Nat) : entF (walkS (buildF es).states fr (buildF es).states.length ((buildF es).states.length - 1) ⟨#[]⟩ (buildF es).init true) = es.filter fun e => !lexlt (wl e.word) fr := by
 have hp := h.pos
 have hw := walk_wds h.okSt fr ((buildF es).states.length - 1) ((buildF es).states.length - 1) (buildF es).init ⟨#[]⟩ h.sums
 rw [show (buildF es).states.length - 1 + 1 = (buildF es).states.length by omega] at hw
 rw [hw, h.words, List.filter_map, List.map_map]
 have he : ((fun e : Wv => !lexlt (wl (⟨#[]⟩ : ByteArray) ++ e.1) fr) ∘ fun e : Ent => (wl e.word, valE e - leastV (es.map wvE))) = fun e => !lexlt (wl e.word) fr := by funext e; rfl
 rw [he]
 refine entF_map fun e hm => ?_
 have hm2 := (List.mem_filter.1 hm).1
 have hl := h.least hm2
 show isW ⟨⟨#[]⟩ ++ bl (wl e.word), (buildF es).init + (valE e - leastV (es.map wvE)), true⟩ = true /\ ofE (⟨#[]⟩ ++ bl (wl e.word)) ((buildF es).init + (valE e - leastV (es.map wvE))) = e
 rw [own_init h.ok h.rise, empty_append, bl_wlE, show leastV (es.map wvE) + (valE e - leastV (es.map wvE)) = valE e by omega]
 refine ⟨?_, of_wvE ⟨(h.ok e hm2).1, (h.ok e hm2).2.2⟩⟩
 unfold isW
 simp only [Bool.true_and]
 exact decide_eq_true hl.2
theorem OwnF.from {es : List Ent} (h : OwnF es) (s : ByteArray) (n : Int) : fromV (buildF es).states (buildF es).init s n = if n < 1 then [] else (es.filter fun e => !lexlt (wl e.word) (wl s)).take n.toNat := by
 unfold fromV
 rw [h.walk]
theorem OwnF.all {es : List Ent} (h : OwnF es) : fromV (buildF es).states (buildF es).init ⟨#[]⟩ es.length = es := by
 have hl : 0 < es.length := List.length_pos_iff.2 h.ne
 rw [h.from, if_neg (by omega), Int.toNat_natCast]
 have : (es.filter fun e => !lexlt (wl e.word) (wl (⟨#[]⟩ : ByteArray))) = es := List.filter_eq_self.2 fun e _ => by
  show (!lexlt (wl e.word) []) = true
  rw [lexlt_nil]; rfl
 rw [this, List.take_length]
theorem okW_pos {s : ByteArray} (h : okW s = true) : 0 < s.size := by
 rcases Nat.eq_zero_or_pos s.size with h0 | h0
 ·have h1 : wl s = [] := List.length_eq_zero_iff.1 (by rw [wl_length]; exact h0)
  rw [show s = ⟨#[]⟩ from wl_inj h1] at h
  exact absurd h (by decide +kernel)
 ·exact h0
theorem OwnF.last {es : List Ent} (h : OwnF es) : lastS (buildF es).states = false := by
 unfold lastS
 have hp := h.pos
 rw [List.getLast?_eq_getElem?, gE1 (by omega)]
 show (buildF es).states[(buildF es).states.length - 1].final = false
 have hk : (buildF es).states[(buildF es).states.length - 1]? = some (buildF es).states[(buildF es).states.length - 1] := gE1 (by omega)
 cases hf : (buildF es).states[(buildF es).states.length - 1].final with
 | false => rfl
 | true =>
  exfalso
  have h1 : ∀ m, ([], (buildF es).states[(buildF es).states.length - 1].out) ∈ wds (buildF es).states m ((buildF es).states.length - 1) := by
   intro m
   cases m with
   | zero => rw [wds, hk]; simp [fin1, hf]
   | succ m => rw [wds_at hk]; simp [fin1, hf]
  have h2 := h1 ((buildF es).states.length - 1)
  rw [h.words] at h2
  obtain ⟨e, he, h3⟩ := List.mem_map.1 h2
  injection h3 with h3 _
  have h4 := okW_pos (h.ok e he).2.1
  have h5 := wl_length e.word
  rw [h3] at h5
  simp at h5
  omega
theorem OwnF.asks {es : List Ent} (h : OwnF es) : rightS es.length (buildF es).states (buildF es).init = true := by
 have hp := h.pos
 have hl : 0 < es.length := List.length_pos_iff.2 h.ne
 have hm : (buildF es).states.length <= (buildF es).states.length - 1 + 1 := by omega
 have hc := cnt_law h.formed _ hm hp
 rw [h.words, List.length_map] at hc
 refine rightS_all fun j hj => ?_
 match j, hj with
 | 0, _ => exact h.right
 | 1, _ =>
  show askC _ _ = true
  have := h.few
  unfold askC
  rw [hc]
  simp
  omega
 | 2, _ =>
  refine decide_eq_true ?_
  rcases lng_law h.formed _ hm hp with h1 | ⟨e, he, h1⟩
  ·omega
  ·rw [h.words] at he
   obtain ⟨x, hx, rfl⟩ := List.mem_map.1 he
   have := okW_size (h.ok x hx).2.1
   simp only at h1
   rw [wl_length] at h1
   omega
 | 3, _ => show (!lastS _) = true; rw [h.last]; rfl
 | 4, _ =>
  show gtst _ _ = true
  have hg := gt_law h.formed _ hm hp (fun e he => by have := h.sums e he; omega)
  have ha : (gtV (buildF es).states).any = true := by
   rw [hg.1, h.words]
   cases es with
   | nil => exact absurd rfl h.ne
   | cons => rfl
  obtain ⟨hf, e, he, hn⟩ := hg.2 ha
  have hs := h.sums e he
  unfold gtst
  rw [ha, hf, hn, Nat.mod_eq_of_lt (by unfold M64; omega), decide_eq_true (by unfold M64; omega), decide_eq_true (by omega)]
  rfl
 | n + 5, hj => omega
theorem may_of (n : Int) (h0 : 0 <= n /\ n <= 100000) {ss : List State} (hp : 0 < ss.length) (h1 : ∀ (k : Nat) (s : State), ss[k]? = some s -> s.arcs.length <= 256 /\ (s.final = false -> s.out = 0) /\ okArcs k (-1) s.arcs = true) : mayF n ss = true := by
 have hto : ∀ (i : Nat) (l : List Arc), (∀ a ∈ l, 0 <= a.to /\ a.to < (i : Int)) -> okTo i l = true := by
  intro i l
  induction l with
  | nil => intro _; rfl
  | cons a l ih => intro hl; have := hl a (List.mem_cons_self ..); rw [okTo, ih fun x hx => hl x (List.mem_cons_of_mem _ hx)]; simp [this]
 have hL : ∀ (l : List State) (i : Nat), (∀ (k : Nat) (s : State), l[k]? = some s -> s.arcs.length <= 256 /\ (s.final = false -> s.out = 0) /\ okArcs (i + k) (-1) s.arcs = true) -> mayL i l = true := by
  intro l
  induction l with
  | nil => intro _ _; rfl
  | cons s l ih =>
   intro i hl
   obtain ⟨k1, k2, k3⟩ := hl 0 s rfl
   rw [mayL, ih (i + 1) (fun k x hx => by have := hl (k + 1) x hx; rwa [show i + (k + 1) = i + 1 + k by omega] at this), hto i s.arcs fun a ha => okArcs_to k3 ha, decide_eq_true k1]
   cases hf : s.final
   ·simp [k2 hf]
   ·simp
 unfold mayF
 rw [decide_eq_true h0.1, decide_eq_true h0.2, decide_eq_true hp, hL ss 0 fun k s hk => by have := h1 k s hk; rwa [Nat.zero_add]]
 rfl
theorem OwnF.may {es : List Ent} (h : OwnF es) : mayF es.length (buildF es).states = true := may_of _ (by have := h.few; omega) h.pos fun k s hk => ⟨(h.st s (gM1 hk)).2, (h.inv.good k s hk).out, h.formed k s hk⟩
theorem OwnF.make {es : List Ent} (h : OwnF es) : makeV es = (bl (putR es.length (buildF es).init (buildF es).states).1, 0) := by
 have hl : 0 < es.length := List.length_pos_iff.2 h.ne
 have h0 : chkN es = 0 := chk_rise _ _ (fun e he => (h.ok e he).2.1) h.rise (fun q hq => by cases hq)
 unfold makeV
 rw [if_neg (by omega), if_neg (by rw [h0]; simp), show (putR es.length (buildF es).init (buildF es).states).2 = 0 by unfold putR; rw [if_pos h.may]]
end Dw
namespace TailA
open Stab (Pr Here Deps Got OkOps Dep isPath)
open Tail (Seq chain1 chain_dep seq_any TL)
section
variable {P : Program} {Q : Exit -> Act -> World -> Prop} {l : List Oper} {a0 : Act} {w0 : World} {ps : List Pr}
abbrev ptr (g : Nat) : Value := .pointer (some ⟨g, 0, none⟩)
structure Fresh (P : Program) (Q : Exit -> Act -> World -> Prop) (l : List Oper) (i d : Nat) (ob : Obj) (p : Pr) : Prop where
 dst : ∃ o, l[i]? = some o /\ o.dst = some d
 step : ∀ (a : Act) (w : World) (K : Act -> World -> Prop), K (a.put (some d) (ptr w.heap.size)) (w.alloc ob) -> wpOp P l.toArray Q i K a w
 holds : ∀ w : World, p (ptr w.heap.size) (w.alloc ob)
def Parts (N : Nat) (al : List (Nat × Nat × Obj)) (C : Nat -> Prop) (a : Act) (w : World) : Prop :=
 (∀ x ∈ al, C x.1 -> ∃ g, a.tmps[x.2.1]? = some (ptr g) /\ g < w.heap.size /\ N <= g) /\ ∀ x ∈ al, ∀ y ∈ al, x.1 ≠ y.1 -> C x.1 -> C y.1 -> ∀ g g', a.tmps[x.2.1]? = some (ptr g) -> a.tmps[y.2.1]? = some (ptr g') -> g ≠ g'
theorem parts_old {N : Nat} {al : List (Nat × Nat × Obj)} {C C' : Nat -> Prop} {a : Act} {w w' : World} {d : Option Nat} {v : Value} (h : Parts N al C a w) (hsz : w.heap.size <= w'.heap.size) (hC : ∀ x ∈ al, C' x.1 -> C x.1) (hd : ∀ x ∈ al, C' x.1 -> d ≠ some x.2.1) : Parts N al C' (a.put d v) w' := by
 refine ⟨fun x hx hc => ?_, fun x hx y hy hne hcx hcy g g' hg hg' => ?_⟩
 ·obtain ⟨g, h1, h2, h3⟩ := h.1 x hx (hC x hx hc)
  exact ⟨g, by rw [Stab.put_get_ne _ _ _ _ (hd x hx hc)]; exact h1, by omega, h3⟩
 ·rw [Stab.put_get_ne _ _ _ _ (hd x hx hcx)] at hg
  rw [Stab.put_get_ne _ _ _ _ (hd y hy hcy)] at hg'
  exact h.2 x hx y hy hne (hC x hx hcx) (hC y hy hcy) g g' hg hg'
theorem parts_new {N : Nat} {al : List (Nat × Nat × Obj)} {C : Nat -> Prop} {a : Act} {w w' : World} {i d : Nat} (h : Parts N al C a w) (hN : N <= w.heap.size) (hsz : w'.heap.size = w.heap.size + 1) (hdl : d < a.tmps.size) (hi : ∀ x ∈ al, x.1 = i -> x.2.1 = d) (hd : ∀ x ∈ al, x.1 ≠ i -> x.2.1 ≠ d) : Parts N al (fun k => k = i \/ C k) (a.put (some d) (ptr w.heap.size)) w' := by
 have hnew : (a.put (some d) (ptr w.heap.size)).tmps[d]? = some (ptr w.heap.size) := Stab.put_get _ _ _ hdl
 have hold : ∀ x ∈ al, x.1 ≠ i -> (a.put (some d) (ptr w.heap.size)).tmps[x.2.1]? = a.tmps[x.2.1]? := fun x hx hne => Stab.put_get_ne _ _ _ _ (fun e => hd x hx hne (by injection e with e; exact e.symm))
 have hC : ∀ x ∈ al, x.1 ≠ i -> (x.1 = i \/ C x.1) -> C x.1 := fun x hx hne hc => hc.resolve_left hne
 have hin : ∀ x ∈ al, x.1 ≠ i -> (x.1 = i \/ C x.1) -> ∀ g, (a.put (some d) (ptr w.heap.size)).tmps[x.2.1]? = some (ptr g) -> g < w.heap.size := by
  intro x hx hne hc g hg
  obtain ⟨g1, h1, h2, _⟩ := h.1 x hx (hC x hx hne hc)
  rw [hold x hx hne, h1] at hg
  injection hg with hg
  injection hg with hg
  injection hg with hg
  injection hg with hg
  omega
 refine ⟨fun x hx hc => ?_, fun x hx y hy hne hcx hcy g g' hg hg' => ?_⟩
 ·by_cases hxi : x.1 = i
  ·rw [hi x hx hxi]; exact ⟨_, hnew, by omega, hN⟩
  ·obtain ⟨g, h1, h2, h3⟩ := h.1 x hx (hC x hx hxi hc)
   exact ⟨g, by rw [hold x hx hxi]; exact h1, by omega, h3⟩
 ·by_cases hxi : x.1 = i
  ·have hyi : y.1 ≠ i := fun e => hne (hxi.trans e.symm)
   rw [hi x hx hxi, hnew] at hg
   injection hg with hg
   injection hg with hg
   injection hg with hg
   injection hg with hg
   have := hin y hy hyi hcy g' hg'
   omega
  ·by_cases hyi : y.1 = i
   ·rw [hi y hy hyi, hnew] at hg'
    injection hg' with hg'
    injection hg' with hg'
    injection hg' with hg'
    injection hg' with hg'
    have := hin x hx hxi hcx g hg
    omega
   ·rw [hold x hx hxi] at hg
    rw [hold y hy hyi] at hg'
    exact h.2 x hx y hy hne (hC x hx hxi hcx) (hC y hy hyi hcy) g g' hg hg'
theorem Parts.of {N : Nat} {al : List (Nat × Nat × Obj)} {C C' : Nat -> Prop} {a : Act} {w : World} (h : Parts N al C a w) (hC : ∀ x ∈ al, C' x.1 -> C x.1) : Parts N al C' a w :=
 ⟨fun x hx hc => h.1 x hx (hC x hx hc), fun x hx y hy hne hcx hcy => h.2 x hx y hy hne (hC x hx hcx) (hC y hy hcy)⟩
theorem pre_anyA {al : List (Nat × Nat × Obj)} {m : Nat} (hal : ∀ x ∈ al, Fresh P Q l x.1 x.2.1 x.2.2 (Stab.look ps x.1)) (hml : m < l.length) (hlt : ∀ (k i : Nat), m <= k -> k < l.length -> i < k -> Dep l.toArray k i) (hok : OkOps l.toArray a0.tmps.size) (hlen : ps.length = m)
  (hst : ∀ i, Stab.Stable (Stab.look ps i)) (hg : ∀ i, i < m -> Stab.Step P l.toArray Q a0 w0 ps i (Stab.look ps i))
  (hfin : ∀ a w, Here l.toArray a0 w0 a w -> (∀ i, i < m -> Got l.toArray ps i a w) -> Parts w0.heap.size al (. < m) a w -> Seq P l Q (l.length - m) m a w) :
  ∀ (fuel : Nat) (listed : Array Bool) (a : Act) (w : World), listed.size = l.length -> listed.toList.countP (! ·) <= fuel -> (∀ i, m <= i -> listed.getD i false = false) -> Stab.Inv l.toArray a0 w0 ps listed a w -> Parts w0.heap.size al (fun i => listed.getD i false = true) a w ->
   wpAny P .any l.toArray Q fuel listed a w := by
 intro fuel
 induction fuel with
 | zero =>
  intro listed a w hls hc hm hI hpt
  exfalso
  have hpos : 0 < listed.toList.countP (! ·) := by
   rw [List.countP_pos_iff]
   have := hm m (Nat.le_refl _)
   have hms : m < listed.size := by omega
   refine ⟨listed[m], by simp, ?_⟩
   simp [hms] at this
   simp [this]
  omega
 | succ fuel ih =>
  intro listed a w hls hc hm hI hpt
  have hms : m < listed.size := by omega
  have hm0 : listed[m] = false := by have := hm m (Nat.le_refl _); simpa [hms] using this
  -- if all ahead of m are listed
  by_cases hall : ∀ i, i < m -> listed.getD i false = true
  ·refine seq_any hlt hok (l.length - m) m listed (fuel + 1) a w (by omega) (Nat.le_refl _) hls hc (fun i hi => ⟨fun h => ?_, hall i⟩) (fun i o hi => hI.closed i o (by simpa using hi)) (hfin a w hI.here (fun i hi => hI.got i (by simp; omega) (hall i hi)) (hpt.of fun x _ hx => hall x.1 hx))
   rcases Nat.lt_or_ge i m with h1 | h1
   ·exact h1
   ·rw [hm i h1] at h; cases h
  refine ⟨fun hr => ?_, fun i hi => ?_⟩
  ·exfalso
   refine hall (fun i => ?_)
   induction i using Nat.strongRecOn with
   | _ i ihi =>
    intro him
    cases hl : listed.getD i false with
    | true => rfl
    | false =>
     exfalso
     have his : i < listed.size := by omega
     have hil : i < l.length := by omega
     have hmem : i ∈ Region.ready .any l.toArray listed := by
      rw [mem_ready]
      refine ⟨by simpa [his] using hl, l[i], by simp [hil], fun e he hb => ?_⟩
      have hlt := hok.back i l[i] (by simp [hil]) e he hb
      exact ihi e.on hlt (by omega)
     rw [hr] at hmem
     cases hmem
  ·obtain ⟨h0, o, ho, hdeps⟩ := mem_ready.1 hi
   have hil : i < l.length := by have := (Array.getElem?_eq_some_iff.1 ho).1; simpa using this
   have hlt' : i < listed.size := by omega
   have h0' : listed[i] = false := by simpa [hlt'] using h0
   have him : i < m := by
    rcases Nat.lt_or_ge i m with h1 | h1
    ·exact h1
    ·exfalso
     exact hall fun x hx => Stab.dep_listed hI (hlt i x h1 hil (by omega)) (.inr hi)
   have goOn : ∀ v w', Below w.heap.size w w' -> Stab.look ps i v w' -> Parts w0.heap.size al (fun k => (listed.setIfInBounds i true).getD k false = true) (a.put o.dst v) w' -> wpAny P .any l.toArray Q fuel (listed.setIfInBounds i true) (a.put o.dst v) w' := by
    intro v w' hb hp hpn
    refine ih _ _ _ (by simp [hls]) ?_ (fun x hx => by rw [getD_set_ne false (by omega)]; exact hm x hx) ⟨⟨hI.here.ext.trans (hb.mono hI.here.ext.size), (Stab.put_defers ..).trans hI.here.defers, (Stab.put_size ..).trans hI.here.size, fun t ht => (Stab.put_get_ne _ _ _ _ (ht i o ho)).trans (hI.here.old t ht)⟩, ?_, ?_, ?_⟩ hpn
    ·have hset : (listed.setIfInBounds i true).toList = listed.toList.set i true := by simp
     have hpos : 0 < listed.toList.countP (! ·) := by
      rw [List.countP_pos_iff]
      exact ⟨listed[i], by simp, by simp [h0']⟩
     rw [hset, List.countP_set (by simpa using hlt')]
     simp only [Array.getElem_toList, h0', Bool.not_false, Bool.not_true, if_true, Bool.false_eq_true, if_false, Nat.add_zero]
     omega
    ·intro k ok hk hl e he hb
     by_cases hki : i = k
     ·subst hki
      rw [ho] at hk
      injection hk with hk
      subst hk
      exact getD_set_true (hdeps e he hb)
     ·rw [getD_set_ne false hki] at hl
      exact getD_set_true (hI.closed k ok hk hl e he hb)
    ·intro k hk hl
     by_cases hki : i = k
     ·subst hki
      refine ⟨v, fun o'' d hk' hd => ?_, hp⟩
      rw [ho] at hk'
      injection hk' with hk'
      subst hk'
      rw [hd]
      exact Stab.put_get _ _ _ (by rw [hI.here.size]; exact hok.room i o d ho hd)
     ·rw [getD_set_ne false hki] at hl
      obtain ⟨v', hv', hp'⟩ := hI.got k hk hl
      refine ⟨v', fun o'' d hk' hd => ?_, hst k _ _ _ hb hp'⟩
      rw [Stab.put_get_ne _ _ _ _ (fun he => hki (hok.apart i k o o'' d ho hk' he hd))]
      exact hv' o'' d hk' hd
    ·intro t ht
     refine (Stab.put_get_ne _ _ _ _ (fun he => ?_)).trans (hI.keep t fun j oj hj hd => ?_)
     ·have h9 := ht i o ho he
      simp [hlt'] at h9
     ·have h9 := ht j oj hj hd
      by_cases hij : i = j
      ·subst hij; simp [hlt'] at h9
      ·rwa [getD_set_ne false hij] at h9
   have hset1 : ∀ k, k ≠ i -> (listed.setIfInBounds i true).getD k false = true -> listed.getD k false = true := fun k hk h => by rw [getD_set_ne false (fun e => hk e.symm)] at h; exact h
   have hdst : ∀ x ∈ al, ∀ ox : Oper, l[x.1]? = some ox -> ox.dst = some x.2.1 := fun x hx ox hox => by
    obtain ⟨o1, h1, h2⟩ := (hal x hx).dst
    rw [hox] at h1; injection h1 with h1; rw [h1]; exact h2
   by_cases hx : ∃ x ∈ al, x.1 = i
   ·obtain ⟨x, hx, rfl⟩ := hx
    have F := hal x hx
    have hod : o.dst = some x.2.1 := hdst x hx o (by simpa using ho)
    refine F.step a w _ ?_
    have hgo := goOn (ptr w.heap.size) (w.alloc x.2.2) ((Below.refl _ w).alloc (Nat.le_refl _) _) (F.holds w) ?_
    ·rw [hod] at hgo; exact hgo
    ·rw [hod]
     have hN := parts_new (i := x.1) (d := x.2.1) (w' := w.alloc x.2.2) hpt hI.here.ext.size (by simp) (by rw [hI.here.size]; exact hok.room x.1 o x.2.1 ho hod) (fun y hy he => by
      have h1 := hdst y hy o (by rw [he]; simpa using ho)
      rw [hod] at h1; injection h1 with h1; exact h1.symm) (fun y hy hne e => by
      obtain ⟨oy, h1, h2⟩ := (hal y hy).dst
      exact hne (hok.apart y.1 x.1 oy o x.2.1 (by simpa using h1) ho (by rw [h2, e]) hod))
     refine hN.of fun y hy hc => ?_
     by_cases hyi : y.1 = x.1
     ·exact .inl hyi
     ·exact .inr (hset1 y.1 hyi hc)
   ·refine hg i him a w hI.here ⟨fun j hj hjp => ?_, fun t ht => ?_⟩ _ (fun o' ho' v w' hb hp => ?_)
    ·exact hI.got j (by simp; omega) (Stab.dep_listed hI hj (.inr hi))
    ·refine hI.keep t fun j oj hj hd => ?_
     have h9 : listed.getD i false = false := by simp [hlt', h0']
     rcases ht j oj hj hd with rfl | hdep
     ·exact h9
     ·cases hl : listed.getD j false with
      | false => rfl
      | true => rw [Stab.dep_listed hI hdep (.inl hl)] at h9; cases h9
    ·rw [ho] at ho'
     injection ho' with ho'
     subst ho'
     refine goOn v w' hb hp (parts_old hpt hb.size (fun y hy hc => hset1 y.1 (fun e => hx ⟨y, hy, e⟩) hc) (fun y hy hc e => ?_))
     obtain ⟨oy, h1, h2⟩ := (hal y hy).dst
     exact hx ⟨y, hy, hok.apart y.1 i oy o y.2.1 (by simpa using h1) ho h2 e⟩
theorem todo_tailA {id n m : Nat} (al : List (Nat × Nat × Obj)) (hal : ∀ x ∈ al, Fresh P Q l x.1 x.2.1 x.2.2 (Stab.look ps x.1)) {ws : List (Nat × Nat × List Nat)} (hm : P.follows .mixedOrders = true) (hn : a0.tmps.size = n) (hok : OkOps l.toArray n) (hlen : ps.length = m) (hml : Nat.blt m l.length = true) (hch : chain1 l m ws = true)
  (hfin : ∀ a w, Here l.toArray a0 w0 a w -> Hid (∀ i, i < m -> Got l.toArray ps i a w) -> Hid (Parts w0.heap.size al (. < m) a w) -> TL P l Q m a w) : (Stab.TodoE P id l.toArray Q a0 w0 ps) := by
 subst hn
 refine ⟨fun hg => ?_⟩
 refine ⟨hm, ?_⟩
 refine pre_anyA hal (Nat.le_of_ble_eq_true hml) (fun k i h1 h2 h3 => chain_dep hch h1 h2 h3) hok hlen hg.1 (fun i hi => hg.2 i (by omega)) (fun a w hh hgot hpt => (hfin a w hh hgot (Lib.hid hpt)).out) _ _ _ _ (by simp) ?_ (fun i hi => ?_) ?_ ?_
 ·exact Nat.le_trans List.countP_le_length (by simp)
 ·by_cases h : i < l.length
  ·simp [h]
  ·simp [h]
 ·refine ⟨⟨⟨rfl, rfl, rfl, Nat.le_refl _, fun _ _ => rfl⟩, rfl, rfl, fun _ _ => rfl⟩, fun i o ho hl => ?_, fun i hi hl => ?_, fun _ _ => rfl⟩
  ·have hi := (Array.getElem?_eq_some_iff.1 ho).1
   simp at hi
   simp [hi] at hl
  ·simp at hi
   simp [hi] at hl
 ·refine ⟨fun x hx hc => ?_, fun x hx y hy hne hcx hcy => ?_⟩
  ·exfalso
   obtain ⟨o, h1, _⟩ := (hal x hx).dst
   have h2 := (gS1 h1).1
   simp [h2] at hc
  ·exfalso
   obtain ⟨o, h1, _⟩ := (hal x hx).dst
   have h2 := (gS1 h1).1
   simp [h2] at hcx
theorem fresh_alloc {i d : Nat} {t : TypeId} {ob : Obj} {p : Pr} {o : Oper} (ho : l[i]? = some o) (hg : o.guard = none) (hd : o.dst = some d) (hop : o.op = .alloc t) (hr : ∀ (e : Operand -> Value) (w : World), (execOp e o).run P w = .ok (.value (ptr w.heap.size)) (w.alloc ob)) (hp : ∀ w : World, p (ptr w.heap.size) (w.alloc ob)) : Fresh P Q l i d ob p :=
 ⟨⟨o, ho, hd⟩, fun a w K hK => Stab.op_plain ho hg (by unfold Oper.wp; rw [hr, Oper.upon_value, hd]; exact hK), hp⟩
theorem low {al : List (Nat × Nat × Obj)} {m : Nat} {a : Act} {w : World} (h : Hid (Parts w0.heap.size al (. < m) a w)) (x : Nat × Nat × Obj) (hx : x ∈ al) (hxm : Nat.blt x.1 m = true) {g : Nat} (hg : a.tmps[x.2.1]? = some (ptr g)) : w0.heap.size <= g := by
 obtain ⟨g1, h1, _, h3⟩ := h.out.1 x hx (Nat.le_of_ble_eq_true hxm)
 rw [h1] at hg
 injection hg with hg
 injection hg with hg
 injection hg with hg
 injection hg with hg
 omega
def PZ (cs : Array Value) (t : TypeId) : Pr := fun v w => ∃ g, v = ptr g /\ w.heap[g]? = some (.cells cs t (0, 0))
theorem PZ.stable (cs : Array Value) (t : TypeId) : Stab.Stable (PZ cs t) := fun v w w' hb ⟨g, h1, h2⟩ => ⟨g, h1, (hb.block g (Array.getElem?_eq_some_iff.1 h2).1).trans h2⟩
theorem PZ.mk (cs : Array Value) (t : TypeId) (w : World) : PZ cs t (ptr w.heap.size) (w.alloc (.cells cs t)) := ⟨_, rfl, heap_alloc_new w _⟩
end
end TailA
namespace Dw
def valG (ss : List State) : Nat -> Nat × Bool -> List Nat -> Option (Nat × Nat × Bool)
 | k, s, [] => some (k, s)
 | k, s, b :: w => match ss[k]?.bind fun st => st.arcs.find? (hitA b k) with
  | none => none
  | some a => valG ss a.to.toNat ((s.1 + a.out) % M64, s.2 && decide (s.1 + a.out < M64)) w
def valFin (ss : List State) : Option (Nat × Nat × Bool) -> Option Nat
 | none => none
 | some (k, n, f) => match ss[k]? with
  | none => none
  | some st => if st.final && (f && decide (n + st.out < M64) && decide ((n + st.out) % M64 <= 4294967296)) then some ((n + st.out) % M64) else none
def valV (init : Nat) (ss : List State) (s : ByteArray) : Option Nat := valFin ss (valG ss (ss.length - 1) (init, true) (wl s))
theorem sum_fill {w W : World} {g n n2 : Nat} {f f2 : Bool} (h : w.heap[g]? = some (.cells #[.int .u64 n2, .bool f2] 190 (0, 0))) (hW : (w.setCell ⟨g, 0, none⟩ (.int .u64 n)).setCell ⟨g, 1, none⟩ (.bool f) = W) :
  W.heap[g]? = some (.cells #[.int .u64 n, .bool f] 190 (0, 0)) /\ ∀ B, B <= g -> Below B w W := by
 subst hW
 refine ⟨(set_block (set_block h _) _).trans (by simp), fun B hB => ((Below.refl B w).setCell (p := ⟨g, 0, none⟩) hB _).setCell (p := ⟨g, 1, none⟩) hB _⟩
theorem om_form {w : World} {base : Nat} {v : Value} {l : List Nat} (h : OM w base v l) : ∃ g c, v = .slice (some ⟨g, 0, none⟩) l.length c := by
 obtain ⟨g, c, _, h, _⟩ := h
 exact ⟨g, c, h⟩
theorem OM.off {w : World} {base g i : Nat} {v u : Value} {l : List Nat} (h : OM w base v l) (hg : g < base) : OM (w.setCell ⟨g, i, none⟩ u) base v l := by
 obtain ⟨b, cap, cur, h1, h2, h3, h4⟩ := h
 exact ⟨b, cap, cur, h1, h2, (Below.heap_setCell _ _ _ _ (by simp only; omega)).trans h3, h4⟩
set_option maxHeartbeats 4000000 in
set_option maxRecDepth 100000 in
theorem value126 (w : World) (sv : Value) (init : Nat) (ss : List State) (s : ByteArray) (hrs : RS w sv ss) (hlen : ss.length <= 1000000) (hok : ∀ s ∈ ss, okS s) (hfm : ∀ (k : Nat) (st : State), ss[k]? = some st -> okArcs k (-1) st.arcs = true) (h0 : 0 < ss.length) (hin : init < M64) (hss : s.size <= 1000000000) : Calls Tryz.prog 126 #[.agg #[sv, .int .u64 init], .string s] w fun e w1 => e = .returned (.tuple #[.int .u64 ((valV init ss s).getD 0), .bool (valV init ss s).isSome]) /\ Below w.heap.size w w1 := by
 refine Zn2 64 Tryz.func126 fun fr hf s0 s1 => ?_
 have hwl : (wl s).length <= 1000000000 := by rw [wl_length]; exact hss
 obtain ⟨A, cc, rfl, hcc⟩ := hrs.form
 obtain ⟨k0, hk0⟩ : ∃ k, ss.length = k + 1 := ⟨ss.length - 1, by omega⟩
 obtain ⟨G0, hG0⟩ : ∃ x, valG ss (ss.length - 1) (init, true) (wl s) = x := ⟨_, rfl⟩
 have hG1 : valG ss k0 (init, true) (wl s) = G0 := by rw [<- hG0, hk0]; rfl
 have HV := Lib.hid (show valV init ss s = valFin ss G0 by unfold valV; rw [hG0])
 have HK0 := Lib.hid hk0; clear hk0 hG0
 refine Ze fun _ hK1 => Zr [] hf ?_
 refine Zq2 1 2 hf ?_
 clear hf s0 s1; intro fr1 hf sS
 generalize hW0 : w.alloc (.cells #[.slice A ss.length cc, .int .u64 init] 38) = W0
 obtain ⟨hb0, c0, c1, -, hw0_⟩ := box2 hW0
 clear hW0
 have hw0 : w.heap.size < W0.heap.size := by rw [hw0_]; exact Nat.lt_succ_self _
 clear hw0_
 replace hrs := hrs.later hb0
 have hrn := hrs.n
 have z0 := c0; have z1 := c1
 refine Zs hK1 fun _ hK2 => ?_
 obtain ⟨s1, s2⟩ := sS
 refine Stab.tb 64 fun hok => ?_
 refine Stab.T 0 hf hok (fun _ _ h d => ad (Stab.O h s2) (ad (cL h.ext c0) (ad (cL h.ext c1) (hrs.later h.ext)))) ?_
 apply Stab.tq 1 _ hf hok
 . (
 intro fr1 w1 hh hd hk K Z
 have s13 := Stab.v 0 0 hd hk []
 clear hd
 replace c0 := cL hh.ext c0
 replace c1 := cL hh.ext c1
 replace hrs := hrs.later hh.ext
 go_simp
 go_at_call 149; refine (root149 w1 _ init ss hrs (by omega)).mono ?_; rintro e w2 ⟨rfl, hb⟩
 exact Z.out _ rfl _ _ hb rfl)
 refine Stab.T 2 hf hok (fun _ _ h d => Stab.O h s2) ?_
 refine Stab.T 3 hf hok (fun _ _ h d => ad (Stab.vd 2 0 d []) (ad (cL h.ext c0) (ad (cL h.ext c1) (hrs.later h.ext)))) ?_
 refine Stab.T 4 hf hok (fun _ _ h d => Stab.vd 3 0 d []) ?_
 refine Stab.todo_op (k := 5) (n := 64) (TailA.PZ #[.int .u64 0, .bool false] 190) hf.size hok.out rfl (TailA.PZ.stable _ _) ?_ ?_
 . (
 intro fr1 w1 hh hd hk K Z
 refine Stab.pl ?_
 clear hd
 go_simp
 exact Z.out _ rfl _ _ ((Below.refl _ _).alloc (Nat.le_refl _) _) (TailA.PZ.mk _ _ _))
 refine Stab.mN 6 1 4 hf hok [] ?_
 refine TailA.todo_tailA (n := 64) (m := 7) (ws := []) [(5, 7, .cells #[.int .u64 0, .bool false] 190)] ?_ (by kernel_rfl) hf.size hok.out rfl rfl (by kernel_rfl) (fun fr1 w1 hh hg hpt => ?_)
 . (
 intro x hx
 simp only [List.mem_cons, List.not_mem_nil, or_false] at hx
 rcases hx with rfl <;> exact TailA.fresh_alloc rfl rfl rfl rfl (fun e w => by kernel_rfl) (fun w => TailA.PZ.mk _ _ w))
 replace s1 := Stab.O hh s1
 replace s2 := Stab.O hh s2
 have s6 := Tail.got_is 6 0 hg rfl rfl rfl rfl rfl
 obtain ⟨x7, s7, hp7⟩ := Tail.got_use (j := 5) (m := 1) hg rfl rfl rfl rfl rfl
 obtain ⟨g7, hv7, hq7⟩ := hp7
 subst hv7
 have s17 := Tail.got_is 4 2 hg rfl rfl rfl rfl rfl
 have lo7 := TailA.low hpt (5, 7, .cells #[.int .u64 0, .bool false] 190) (by simp) rfl s7
 clear hpt
 have hf1 := hh.fr hf
 have hx := hh.ext
 replace c0 := cL hx c0
 replace c1 := cL hx c1
 replace hrs := hrs.later hx
 clear hg hh hf hok
 have hf := hf1; clear hf1
 have i0 := cR1 0 hq7; have i1 := cR1 1 hq7; have fi0 := frozen_of (i := 0) hq7; have fi1 := frozen_of (i := 1) hq7
 simp at i0 i1
 refine Tail.seq_op rfl rfl (fun K Z => ?_)
 go_simp
 apply Z.out; clear Z K
 refine Tail.seq_nil rfl ?_
 refine Zq4 1 2 6 7 hf ?_
 clear hf s1 s2 s6 s7 s17; intro fr1 hf sS
 generalize hW2 : (w1.setCell ⟨g7, 0, none⟩ (.int .u64 init)).setCell ⟨g7, 1, none⟩ (.bool true) = W2
 obtain ⟨hq7, hbf⟩ := sum_fill hq7 hW2
 have hbw := hx.trans (hbf _ lo7)
 clear hbf hW2 i0 i1 fi0 fi1 hx hrs
 have e6 : (ss.length : Int) - 1 = (k0 : Int) := by have := HK0.out; omega
 obtain ⟨s1, s2, s6, s7⟩ := sS
 rw [e6] at s6
 clear e6
 have hg7 := heap_lt hq7
 refine Zs hK2 fun _ hK3 => Ze fun _ hK4 => rg ?_
 have bB := hf.B2 18 19
 refine Zy ?_
 clear bB
 refine Fact.reL (n := 64) (by simp only [Fact.G, hf.size]) hf.defers (fun fr1 hf1 hT => ?_)
 have hKp := Fact.h4 hT 2 6 7 18
 simp (decide := true) only [Fact.G, hf.size, reduceIte, s2, s6, s7] at hKp
 replace hf := hf1; clear hT hf1 s1 s2 s6 s7
 obtain ⟨s2, s6, s7, s18⟩ := hKp
 have bB := hf.b 19
 refine ⟨?_⟩
 refine wpList_plain rfl fun KL hKL => ?_
 refine wp_conv _ s rfl (Fact.eval_tmp s18) (by unfold maxLen; omega) (fun v1 w2 hom hb2 => hKL _ _ ?_)
 obtain ⟨gb, cb, rfl⟩ := om_form hom
 refine Fact.L.out ?_
 iterate 2 refine Zy ?_
 refine Fact.nil (Zq6 2 6 7 19 20 21 hf ?_)
 clear hf s2 s6 s7 s18 bB; intro fr1 hf sS
 replace hq7 := (hb2.block _ hg7).trans hq7
 replace hbw := hbw.trans (hb2.mono hbw.size)
 obtain ⟨N2, hN2⟩ : ∃ x, W2.heap.size = x := ⟨_, rfl⟩
 rw [hN2] at hom hg7
 clear hb2 hN2
 refine Zx hK4 (wp_block (wp_loop_ghost (fun gk fr wr => ∃ (i k n : Nat) (f : Bool), gk = (wl s).length - i /\ i <= (wl s).length /\ k < ss.length /\ n < M64 /\ valG ss k (n, f) ((wl s).drop i) = G0 /\ Fact.Fr 64 fr /\ fr.tmps[2]? = some (.pointer (some ⟨w.heap.size, 0, none⟩)) /\ fr.tmps[6]? = some (.int .i64 k) /\ fr.tmps[7]? = some (TailA.ptr g7) /\ fr.tmps[19]? = some (.slice (some ⟨gb, 0, none⟩) (wl s).length cb) /\ fr.tmps[20]? = some (.int .i64 (wl s).length) /\ fr.tmps[21]? = some (.int .i64 i) /\ OM wr N2 (.slice (some ⟨gb, 0, none⟩) (wl s).length cb) (wl s) /\ wr.heap[g7]? = some (.cells #[.int .u64 n, .bool f] 190 (0, 0)) /\ Below W0.heap.size W0 wr) ((wl s).length) ?_ ?_))
 . (
 obtain ⟨s2, s6, s7, s19, s20, s21⟩ := sS
 exact ⟨0, k0, init, true, rfl, Nat.zero_le _, by have := HK0.out; omega, hin, hG1, hf, s2, s6, s7, s19, s20, s21, hom, hq7, hbw⟩)
 . (
 clear hf sS
 clear hom hq7 hbw hG1
 rintro gk fr wr ⟨i, k, n, f, hk9, hi, hk, hn, hG, hf, s2, s6, s7, s19, s20, s21, hom, hq7, hbw⟩
 have HK := Lib.hid hk9; clear hk9
 refine Ze fun _ hK5 => Zr [] hf ?_
 refine Zq7 2 6 7 19 20 21 22 hf ?_
 clear hf s2 s6 s7 s19 s20 s21; intro fr1 hf sS
 refine Zs hK5 fun _ hK6 => Fact.cond_s sS.2.2.2.2.2.2 (fun hq => ?_) (fun hq => ?_)
 . (
 have hlt : i < (wl s).length := by have h9 := of_decide_eq_true hq; omega
 clear hq
 obtain ⟨b, hib⟩ : ∃ b, (wl s)[i]? = some b := ⟨_, gE1 hlt⟩
 obtain ⟨_, _, hvv, hbl, hbl2, cb0, -⟩ := hom.cell hib
 injection hvv with h1 _ h2; injection h1 with h1; injection h1 with h1; subst h1; subst h2
 have hbb : b < 256 := wl_lt s b (gM1 hib)
 have hdr := List.drop_eq_getElem_cons hlt
 have hbe : (wl s)[i] = b := (gS1 hib).2
 rw [hbe] at hdr
 rw [hdr] at hG
 obtain ⟨st, hst⟩ : ∃ x, ss[k]? = some x := ⟨_, gE1 hk⟩
 have c0w := old_cell hbw z0 hw0; have c1w := old_cell hbw z1 hw0
 have hrs := (hrn.below hbw).rs
 have hal : st.arcs.length < 4611686018427387904 := (hok _ (gM1 hst)).2.1
 clear hdr hbe hib
 refine wp_skip (Zs hK6 fun _ hK7 => wp_block (Ze fun _ hK8 => Zr [23, 24] hf ?_))
 refine Zq7 2 6 7 9 19 20 21 hf ?_
 clear hf sS; intro fr1 hf sS
 refine Zx hK8 ?_
 rcases hfd : st.arcs.find? (hitA b k) with _ | a
 . (
 refine Ze fun _ hK9 => rg ?_
 have bB := hf.B8 26 27 28 29 25 30 31 32
 iterate 3 refine Zy ?_
 refine Zc (step150 wr _ init ss hrs k b st hst (by omega) hal) ?_; rintro e w5 ⟨rfl, hb5⟩
 rw [hfd]
 simp only [stepV]
 replace hom := hom.later hb5; replace hq7 := (hb5.block _ (heap_lt hq7)).trans hq7; replace hbw := hbw.trans (hb5.mono hbw.size)
 clear hrs cb0 c0w c1w hb5
 refine Zv ?_
 iterate 7 refine Zy ?_
 refine Fact.nil (Zq8 2 7 10 11 12 19 20 21 hf ?_)
 clear hf sS bB; intro fr1 hf sS
 refine Zs hK9 fun _ hK10 => Ze fun _ hK11 => Zr [33] hf ?_
 refine Zq8 2 7 10 11 19 20 21 34 hf ?_
 clear hf sS; intro fr1 hf sS
 refine Zx hK11 (Fact.cond_t sS.2.2.2.2.2.2.2 ?_)
 have hG0 : G0 = none := by rw [<- hG]; simp only [valG, hst, Option.bind_some, hfd]
 refine Ze fun _ hK12 => Zr [] hf ?_
 refine Zq2 4 5 hf ?_
 clear hf sS; intro fr1 hf sS
 refine Zx hK12 (Zret ?_)
 exact Fact.ret2 rfl hf sS.1 sS.2 ⟨by rw [HV.out, hG0]; rfl, hb0.trans (hbw.mono hb0.size)⟩)
 . (
 have hhit : hitA b k a = true := List.find?_some hfd
 have hto : 0 <= a.to /\ a.to < (k : Int) := by unfold hitA at hhit; simp at hhit; omega
 obtain ⟨c, hc⟩ : ∃ c : Nat, a.to = (c : Int) := ⟨a.to.toNat, by omega⟩
 have hou : a.out < M64 := ((hok _ (gM1 hst)).2.2 a (List.mem_of_find?_eq_some hfd)).2.1
 have hG2 : valG ss c ((n + a.out) % M64, f && decide (n + a.out < M64)) ((wl s).drop (i + 1)) = G0 := by rw [<- hG]; simp only [valG, hst, Option.bind_some, hfd, hc, Int.toNat_natCast]
 have HC := Lib.hid hc; have hcl : c < ss.length := by omega
 clear hG hc hhit hto
 refine Ze fun _ hK13 => rg ?_
 have bB := hf.B8 26 27 28 29 25 30 31 32
 iterate 3 refine Zy ?_
 refine Zc (step150 wr _ init ss hrs k b st hst (by omega) hal) ?_; rintro e w5 ⟨rfl, hb5⟩
 rw [hfd]
 simp only [stepV]
 rw [HC.out]
 replace hom := hom.later hb5; replace hq7 := (hb5.block _ (heap_lt hq7)).trans hq7; replace hbw := hbw.trans (hb5.mono hbw.size)
 clear hrs cb0 c0w c1w hb5
 refine Zv ?_
 iterate 7 refine Zy ?_
 refine Fact.nil (Zq8 2 7 10 11 12 19 20 21 hf ?_)
 clear hf sS bB; intro fr1 hf sS
 refine Zs hK13 fun _ hK14 => Ze fun _ hK15 => Zr [33] hf ?_
 refine Zq8 2 7 10 11 19 20 21 34 hf ?_
 clear hf sS; intro fr1 hf sS
 refine Zx hK15 (Fact.cond_f sS.2.2.2.2.2.2.2 ?_)
 have y0 := cR1 0 hq7; have y1 := cR1 1 hq7; have fy0 := frozen_of (i := 0) hq7; have fy1 := frozen_of (i := 1) hq7
 simp at y0 y1
 refine wp_skip (Zx hK14 (rg ?_))
 have bB := hf.B4 35 36 37 38
 iterate 3 refine Zy ?_
 refine Zc (and113 w5 n a.out f hn hou) ?_; rintro e w8 ⟨rfl, hb8⟩
 obtain ⟨sm, hsm⟩ : ∃ x, (n + a.out) % M64 = x := ⟨_, rfl⟩
 obtain ⟨sf, hsf⟩ : ∃ x, (f && decide (n + a.out < M64)) = x := ⟨_, rfl⟩
 rw [hsm, hsf] at hG2 |-
 have hsl : sm < M64 := by rw [<- hsm]; exact Nat.mod_lt _ (by unfold M64; omega)
 clear hsm hsf
 replace hom := hom.later hb8; replace hq7 := (hb8.block _ (heap_lt hq7)).trans hq7; replace hbw := hbw.trans (hb8.mono hbw.size); replace y0 := cL hb8 y0; replace y1 := cL hb8 y1; replace fy0 := frozen_of (i := 0) hq7; replace fy1 := frozen_of (i := 1) hq7
 clear hb8
 refine Zv ?_
 iterate 2 refine Zy ?_
 refine Fact.nil (Zq6 2 6 7 19 20 21 hf ?_)
 clear hf sS bB; intro fr1 hf sS
 generalize hW9 : (w8.setCell ⟨g7, 0, none⟩ (.int .u64 sm)).setCell ⟨g7, 1, none⟩ (.bool sf) = W9
 obtain ⟨hq7, hbf⟩ := sum_fill hq7 hW9
 replace hom : OM W9 N2 (.slice (some ⟨gb, 0, none⟩) (wl s).length cb) (wl s) := by rw [<- hW9]; exact (hom.off hg7).off hg7
 replace hbw := hbw.trans (hbf _ lo7)
 clear hbf hW9 y0 y1 fy0 fy1
 refine Fact.block_normal (Zx hK7 (Zr [39] hf ?_))
 refine Zq6 2 6 7 19 20 21 hf ?_
 clear hf sS; intro fr1 hf sS
 refine Fact.then_normal ?_
 obtain ⟨s2, s6, s7, s19, s20, s21⟩ := sS
 exact ⟨_, by have := HK.out; omega, i + 1, c, sm, sf, rfl, by omega, hcl, hsl, hG2, hf, s2, s6, s7, s19, s20, by rw [s21]; rfl, hom, hq7, hbw⟩))
 . (
 have hie : i = (wl s).length := by have h9 := of_decide_eq_false hq; omega
 clear hq
 rw [hie, List.drop_length] at hG
 simp only [valG] at hG
 obtain ⟨st, hst⟩ : ∃ x, ss[k]? = some x := ⟨_, gE1 hk⟩
 have HV2 := Lib.hid (show valV init ss s = (if st.final && (f && decide (n + st.out < M64) && decide ((n + st.out) % M64 <= 4294967296)) then some ((n + st.out) % M64) else none) by rw [HV.out, <- hG]; simp only [valFin, hst])
 have hso := (hok _ (gM1 hst)).1
 have c0w := old_cell hbw z0 hw0
 have hrs := (hrn.below hbw).rs
 obtain ⟨bb, off, av, hA0, hat⟩ := hrs.at_ hst
 subst hA0
 have x1 := hat.c1; have x2 := hat.c2
 have q1 : decide ((k : Int) < 0) = false := decide_eq_false (by omega)
 clear hat hrs hG hom
 refine Zo ?_
 refine Zs hK3 fun _ hK16 => Ze fun _ hK17 => ?_
 have qs := q1
 refine Zr [40, 41, 42, 43, 44, 45, 46, 47, 48, 49] hf ?_
 refine Zq4 2 6 7 50 hf ?_
 clear hf sS qs; intro fr1 hf sS
 refine Zx hK17 (Fact.cond_s sS.2.2.2 (fun hq2 => ?_) (fun hq2 => ?_))
 . (
 have hfi : st.final = false := by simpa using hq2
 clear hq2
 refine Ze fun _ hK18 => Zr [] hf ?_
 refine Zq2 4 5 hf ?_
 clear hf sS; intro fr1 hf sS
 refine Zx hK18 (Zret ?_)
 exact Fact.ret2 rfl hf sS.1 sS.2 ⟨by rw [HV2.out, hfi]; rfl, hb0.trans (hbw.mono hb0.size)⟩)
 . (
 have hfi : st.final = true := by simpa using hq2
 clear hq2
 have y0 := cR1 0 hq7; have y1 := cR1 1 hq7
 simp at y0 y1
 obtain ⟨sm, hsm⟩ : ∃ x, (n + st.out) % M64 = x := ⟨_, rfl⟩
 obtain ⟨sf, hsf⟩ : ∃ x, (f && decide (n + st.out < M64)) = x := ⟨_, rfl⟩
 have hv2 := HV2.out
 rw [hfi, hsm, hsf, Bool.true_and] at hv2
 have HSM := Lib.hid hsm; have HSF := Lib.hid hsf; have HV3 := Lib.hid hv2; clear hsm hsf HV2 hv2
 refine wp_skip (Zs hK16 fun _ hK19 => Ze fun _ hK20 => ?_)
 obtain ⟨s2, s6, s7, s50⟩ := sS
 refine Stab.tb 64 fun hok => ?_
 refine Stab.T 0 hf hok (fun _ _ h d => ad (Stab.O h s7) (ad (cL h.ext c0w) (ad (cL h.ext x2) (ad (cL h.ext y0) (cL h.ext y1))))) ?_
 refine Stab.T 1 hf hok (fun _ _ h d => Stab.O h s2) ?_
 refine Stab.T 2 hf hok (fun _ _ h d => ad (Stab.vd 1 0 d []) (ad (cL h.ext c0w) (ad (cL h.ext x2) (ad (cL h.ext y0) (cL h.ext y1))))) ?_
 refine Stab.mO 3 s6 hf hok ?_
 refine Stab.Ti 4 hf hok (fun _ _ h d => ad (Stab.vd 2 1 d []) (Stab.vd 3 0 d [])) ?_
 refine Stab.T 5 hf hok (fun _ _ h d => Stab.vd 4 0 d []) ?_
 refine Stab.T 6 hf hok (fun _ _ h d => ad (Stab.vd 5 0 d []) (ad (cL h.ext c0w) (ad (cL h.ext x2) (ad (cL h.ext y0) (cL h.ext y1))))) ?_
 apply Stab.tq 7 _ hf hok
 . (
 intro fr1 w1 hh hd hk K Z
 have s51 := Stab.v 0 6 hd hk []
 have s57 := Stab.v 6 0 hd hk []
 clear hd
 replace c0w := cL hh.ext c0w
 replace x2 := cL hh.ext x2
 replace y0 := cL hh.ext y0
 replace y1 := cL hh.ext y1
 go_simp
 go_at_call 113; refine (and113 w1 n st.out f hn hso).mono ?_; rintro e w2 ⟨rfl, hb⟩
 rw [HSM.out, HSF.out]
 exact Z.out _ rfl _ _ hb rfl)
 refine Tail.todo_tail (n := 64) (m := 8) (ws := []) (by kernel_rfl) hf.size hok.out rfl rfl (by kernel_rfl) (fun fr1 w1 hh hg => ?_)
 replace s7 := Stab.O hh s7
 have s58 := Tail.got_is 7 0 hg rfl rfl rfl rfl rfl
 have hf1 := hh.fr hf
 have hx := hh.ext
 replace c0w := cL hx c0w
 replace x2 := cL hx x2
 replace y0 := cL hx y0
 replace y1 := cL hx y1
 clear hg hh hf hok s2 s6 s50
 have hf := hf1; clear hf1
 replace hq7 := (hx.block _ (heap_lt hq7)).trans hq7; replace hbw := hbw.trans (hx.mono hbw.size)
 have fy0 := frozen_of (i := 0) hq7; have fy1 := frozen_of (i := 1) hq7
 refine Tail.seq_op rfl rfl (fun K Z => ?_)
 go_simp
 apply Z.out; clear Z K
 refine Tail.seq_nil rfl ?_
 refine Zq1 7 hf ?_
 clear hf s7 s58; intro fr1 hf s7
 have hv2 := HV3.out; clear HV3
 generalize hW3 : (w1.setCell ⟨g7, 0, none⟩ (.int .u64 sm)).setCell ⟨g7, 1, none⟩ (.bool sf) = W3
 obtain ⟨hq7, hbf⟩ := sum_fill hq7 hW3
 replace hbw := hbw.trans (hbf _ lo7)
 clear hbf hW3 y0 y1 fy0 fy1 c0w x2
 have y0 := cR1 0 hq7; have y1 := cR1 1 hq7
 simp at y0 y1
 refine Zt hK20 fun _ hK21 => ?_
 have bB := hf.B2 59 60
 refine Zy ?_
 refine Zc (is115 W3 sm sf) ?_; rintro e w5 ⟨rfl, hb5⟩
 obtain ⟨is, hi9⟩ : ∃ x, (sf && decide (sm <= 4294967296)) = x := ⟨_, rfl⟩
 rw [hi9] at hv2 |-
 have HV2 := Lib.hid hv2
 replace hbw := hbw.trans (hb5.mono hbw.size); replace y0 := cL hb5 y0
 clear hv2 hi9 hb5
 refine Zv ?_
 refine Zy ?_
 refine Fact.nil (Zq2 7 61 hf ?_)
 clear hf s7 bB; intro fr1 hf sS
 refine Zx hK21 (Fact.cond_s sS.2 (fun hq3 => ?_) (fun hq3 => ?_))
 . (
 have his : is = false := by simpa using hq3
 clear hq3
 subst his
 refine Ze fun _ hK22 => Zr [] hf ?_
 refine Zq2 4 5 hf ?_
 clear hf sS; intro fr1 hf sS
 refine Zx hK22 (Zret ?_)
 exact Fact.ret2 rfl hf sS.1 sS.2 ⟨by rw [HV2.out]; rfl, hb0.trans (hbw.mono hb0.size)⟩)
 . (
 have his : is = true := by simpa using hq3
 clear hq3
 subst his
 refine wp_skip (Zs hK19 fun _ hK23 => Zr [62, 63] hf ?_)
 refine Zq2 4 5 hf ?_
 clear hf sS; intro fr1 hf sS
 refine Zx hK23 (Zret ?_)
 exact Fact.ret2 rfl hf sS.1 sS.2 ⟨by rw [HV2.out]; rfl, hb0.trans (hbw.mono hb0.size)⟩))))
end Dw
end Go.Proofs.YtcddnmhmcieebaaGreatDoor
