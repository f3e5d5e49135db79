/- Dawg: the words of a transducer ars entries, what goes on behind a beginning, how many kinds of that there are, a word's value. -/
import Derived.Test.YtdkbgbdgmihlmaaGreatDoorQT
import Derived.Test.YtdkbgbdgmihlmaaGreatDoorQS
import Derived.Test.YtdkbgbdgmihlmaaGreatDoorQP
namespace Go.Proofs.YtdkbgbdgmihlmaaGreatDoor
set_option linter.unusedSimpArgs false
set_option linter.unusedVariables false
set_option linter.unnecessarySimpa false
namespace Dw
instance : DecidableEq Ent := fun a b => decidable_of_iff (a.word = b.word ∧ a.weight = b.weight ∧ a.gone = b.gone) (by cases a; cases b; simp)
def M64 : Nat := 18446744073709551616
/-- bytes ars a text -/
def bl (l : List Nat) : ByteArray := strOfNums (l.map fun (x : Nat) => (x : Int))
theorem wl_blE {l : List Nat} (h : ∀ x ∈ l, x < 256) : wl (bl l) = l := by
  unfold wl bl
  rw [strOfNums_data, List.map_map, List.map_map]
  refine (List.map_congr_left fun x hx => ?_).trans (List.map_id _)
  have := h x hx
  simp
  omega
theorem append_assoc (a b c : ByteArray) : a ++ b ++ c = a ++ (b ++ c) := by
  refine ByteArray.ext (Array.ext' ?_)
  simp [ByteArray.data_append]
def ofE (s : ByteArray) (v : Nat) : Ent := if 4294967296 < v then ⟨⟨#[]⟩, 0, false⟩ else if v = 0 then ⟨s, 0, true⟩ else ⟨s, ((v - 1 : Nat) : Int), false⟩
def GoodE (e : Ent) : Prop := okE e ∧ bareE e = e
theorem ofE_good (s : ByteArray) (v : Nat) : GoodE (ofE s v) := by
  unfold ofE
  split
  · exact ⟨⟨by simp, by simp⟩, rfl⟩
  · split
    · exact ⟨⟨by simp, by simp⟩, rfl⟩
    · exact ⟨⟨by simp, by simp; omega⟩, rfl⟩
theorem wvE_of {s : ByteArray} {v : Nat} (h : v ≤ 4294967296) : wvE (ofE s v) = (wl s, v) := by
  unfold ofE wvE
  rw [if_neg (by omega)]
  by_cases h0 : v = 0
  · subst h0; rfl
  · rw [if_neg h0]
    simp only [valE, Bool.false_eq_true, if_false]
    refine Prod.ext rfl ?_
    simp
    omega
theorem wvE_inj {a b : Ent} (ha : GoodE a) (hb : GoodE b) (h : wvE a = wvE b) : a = b := by
  have h1 : a.word = b.word := wl_inj (congrArg Prod.fst h)
  have h2 : valE a = valE b := congrArg Prod.snd h
  obtain ⟨⟨a1, a2⟩, a3⟩ := ha
  obtain ⟨⟨b1, b2⟩, b3⟩ := hb
  cases a with | mk aw an ag =>
  cases b with | mk bw bn bg =>
  simp only [valE, bareE] at *
  subst h1
  cases ag <;> cases bg <;> simp at h2 a3 b3 ⊢
  · omega
  · rw [← a3, ← b3]
theorem map_wvE_inj : ∀ {a b : List Ent}, (∀ e ∈ a, GoodE e) → (∀ e ∈ b, GoodE e) → a.map wvE = b.map wvE → a = b
  | [], [], _, _, _ => rfl
  | [], _ :: _, _, _, h => by simp at h
  | _ :: _, [], _, _, h => by simp at h
  | x :: a, y :: b, ha, hb, h => by
    simp only [List.map_cons, List.cons.injEq] at h
    rw [wvE_inj (ha x (List.mem_cons_self ..)) (hb y (List.mem_cons_self ..)) h.1, map_wvE_inj (fun e he => ha e (List.mem_cons_of_mem _ he)) (fun e he => hb e (List.mem_cons_of_mem _ he)) h.2]
/-! words -/
def valW (ss : List State) : Nat → List Nat → Option Nat
  | k, [] => match ss[k]? with | none => none | some s => if s.final then some s.out else none
  | k, b :: w => match ss[k]? with | none => none | some s => match s.arcs.find? (fun a => decide (a.byte = b)) with | none => none | some a => (valW ss a.to.toNat w).map (a.out + ·)
def lkW (l : List Wv) (w : List Nat) : Option Nat := (l.find? fun e => decide (e.1 = w)).map Prod.snd
theorem lkW_append (a b : List Wv) (w : List Nat) : lkW (a ++ b) w = (lkW a w).or (lkW b w) := by
  unfold lkW
  rw [List.find?_append]
  cases a.find? (fun e => decide (e.1 = w)) <;> rfl
theorem lkW_none {l : List Wv} {w : List Nat} (h : ∀ e ∈ l, e.1 ≠ w) : lkW l w = none := by
  unfold lkW
  rw [List.find?_eq_none.2 (fun e he => by simpa using h e he)]
  rfl
theorem lkW_shift (l : List Wv) (b o : Nat) (w : List Nat) : lkW (l.map (shift b o)) (b :: w) = (lkW l w).map (o + ·) := by
  unfold lkW
  rw [List.find?_map]
  have : ((fun e : Wv => decide (e.1 = b :: w)) ∘ shift b o) = fun e : Wv => decide (e.1 = w) := by
    funext e; simp [shift]
  rw [this]
  cases l.find? (fun e => decide (e.1 = w)) <;> rfl
theorem lkW_arcs (F : Arc → List Wv) (b : Nat) (w : List Nat) : ∀ (l : List Arc) (i : Nat) (last : Int), okArcs i last l = true →
    lkW (l.flatMap fun a => (F a).map (shift a.byte a.out)) (b :: w) = match l.find? (fun a => decide (a.byte = b)) with | none => none | some a => (lkW (F a) w).map (a.out + ·)
  | [], _, _, _ => rfl
  | a :: l, i, last, h => by
    have h' := h
    simp only [okArcs, Bool.and_eq_true, decide_eq_true_eq] at h'
    rw [List.flatMap_cons, lkW_append, List.find?_cons]
    by_cases hb : a.byte = b
    · rw [decide_eq_true hb]
      simp only
      subst hb
      rw [lkW_shift, lkW_none (l := l.flatMap fun a => (F a).map (shift a.byte a.out))]
      · cases (lkW (F a) w).map (a.out + ·) <;> rfl
      · intro e he hw
        obtain ⟨x, u, h1, h2⟩ := flat_heads F l i a.byte h'.2 e he
        rw [h1] at hw
        injection hw with hw _
        omega
    · rw [decide_eq_false hb]
      simp only
      rw [lkW_none (l := (F a).map (shift a.byte a.out)), Option.none_or, lkW_arcs F b w l i a.byte h'.2]
      intro e he hw
      obtain ⟨x, _, rfl⟩ := List.mem_map.1 he
      injection hw with hw _
      exact hb hw
theorem val_wds {SS : List State} (hi : Inv SS) : ∀ (w : List Nat) (m k : Nat) (s : State), w.length ≤ m → SS[k]? = some s → valW SS k w = lkW (wds SS m k) w
  | [], m, k, s, _, hs => by
    have hg := hi.good k s hs
    obtain ⟨R, h1, hR⟩ : ∃ R, wds SS m k = fin1 s ++ R ∧ ∀ e ∈ R, e.1 ≠ [] := by
      cases m with
      | zero => exact ⟨[], by simp only [wds, hs, List.append_nil], by simp⟩
      | succ m => exact ⟨_, wds_at hs m, fun e he => by
          obtain ⟨b, u, h2, _⟩ := flat_heads (fun a => wds SS m a.to.toNat) s.arcs k (-1) hg.arcs e he
          rw [h2]; simp⟩
    rw [h1, lkW_append, lkW_none hR]
    simp only [valW, hs]
    unfold fin1
    cases s.final <;> rfl
  | b :: w, 0, k, s, h, _ => by simp at h
  | b :: w, m + 1, k, s, h, hs => by
    have hg := hi.good k s hs
    have hlt := (List.getElem?_eq_some_iff.1 hs).1
    rw [wds_at hs, lkW_append, lkW_none (l := fin1 s), Option.none_or, lkW_arcs (fun a => wds SS m a.to.toNat) b w s.arcs k (-1) hg.arcs]
    · simp only [valW, hs]
      cases hf : s.arcs.find? (fun a => decide (a.byte = b)) with
      | none => rfl
      | some a =>
        simp only
        have ha := List.mem_of_find?_eq_some hf
        have ht := okArcs_pos _ _ _ hg.arcs a ha
        rw [val_wds hi w m a.to.toNat SS[a.to.toNat] (by simpa using h) (List.getElem?_eq_getElem (by omega))]
    · intro e he
      unfold fin1 at he
      split at he
      · simp at he; subst he; simp
      · cases he
/-! behind -/
def headWB (es : List Ent) (h : ByteArray) : List Ent := es.filter fun e => (wl h).isPrefixOf (wl e.word)
def leastH (es : List Ent) (h : ByteArray) : Nat := (headWB es h).foldl (fun n e => min n (valE e)) 1099511627776
def tailB (s : ByteArray) (n : Nat) : ByteArray := bl ((wl s).drop n)
def behE (es : List Ent) (h : ByteArray) : List Ent := (headWB es h).map fun e => ofE (tailB e.word h.size) (valE e - leastH es h)
theorem foldl_min_any (l : List Ent) : ∀ (n : Nat), (∀ e ∈ l, okE e) → l ≠ [] → 4294967296 ≤ n → l.foldl (fun n e => min n (valE e)) n = leastV (l.map wvE) := by
  cases l with
  | nil => intro n _ h; exact absurd rfl h
  | cons e l =>
    intro n h _ hn
    have := valE_lt (h e (List.mem_cons_self ..))
    simp only [List.foldl_cons, List.map_cons, leastV]
    rw [List.foldl_map, Nat.min_eq_right (by omega)]
    rfl
theorem sub_map (es : List Ent) (h : ByteArray) : sub (es.map wvE) (wl h) = (headWB es h).map fun e => ((wl e.word).drop h.size, valE e) := by
  unfold sub headWB
  rw [List.filter_map, List.map_map, wl_length]
  rfl
theorem leastV_map {α : Type} (f g : α → Wv) (h : ∀ x, (f x).2 = (g x).2) : ∀ l : List α, leastV (l.map f) = leastV (l.map g)
  | [] => rfl
  | x :: l => by
    simp only [List.map_cons, leastV]
    rw [List.foldl_map, List.foldl_map, h x]
    congr 1
    funext n y
    rw [h y]
theorem beh_rel {es : List Ent} (hok : ∀ e ∈ es, okE e) (h : ByteArray) : (behE es h).map wvE = rel (sub (es.map wvE) (wl h)) := by
  rw [sub_map]
  unfold behE rel
  rw [List.map_map, List.map_map]
  by_cases hn : headWB es h = []
  · rw [hn]; rfl
  have hmem : ∀ e ∈ headWB es h, okE e := fun e he => hok e (List.mem_filter.1 he).1
  have hl : leastH es h = leastV ((headWB es h).map fun e => ((wl e.word).drop h.size, valE e)) := by
    unfold leastH
    rw [foldl_min_any _ _ hmem hn (by omega)]
    exact leastV_map wvE (fun e => ((wl e.word).drop h.size, valE e)) (fun _ => rfl) _
  rw [← hl]
  refine List.map_congr_left fun e he => ?_
  have := valE_lt (hmem e he)
  show wvE (ofE (tailB e.word h.size) (valE e - leastH es h)) = _
  rw [wvE_of (by omega)]
  unfold tailB
  rw [wl_blE (fun x hx => wl_lt _ x (List.mem_of_mem_drop hx))]
  rfl
theorem beh_good (es : List Ent) (h : ByteArray) : ∀ e ∈ behE es h, GoodE e := fun e he => by
  obtain ⟨x, _, rfl⟩ := List.mem_map.1 he
  exact ofE_good _ _
/-! classes -/
def headsE (es : List Ent) : List ByteArray := es.flatMap fun e => (List.range (e.word.size + 1)).map fun n => bl ((wl e.word).take n)
theorem heads_wl (es : List Ent) : (headsE es).map wl = headsL (es.map wvE) := by
  unfold headsE headsL
  rw [List.map_flatMap, List.flatMap_map]
  congr 1
  funext e
  rw [List.map_map]
  show _ = (List.range ((wl e.word).length + 1)).map _
  rw [wl_length]
  refine List.map_congr_left fun n _ => ?_
  exact wl_blE (fun x hx => wl_lt _ x (List.mem_of_mem_take hx))
theorem kinds_map {α β : Type} [DecidableEq α] [DecidableEq β] (g : α → β) (P : α → Prop) (hg : ∀ a b, P a → P b → g a = g b → a = b) : ∀ (l ks : List α), (∀ x ∈ l, P x) → (∀ x ∈ ks, P x) → kindsF (ks.map g) (l.map g) = (kindsF ks l).map g
  | [], ks, _, _ => rfl
  | r :: l, ks, hl, hk => by
    have hr := hl r (List.mem_cons_self ..)
    have h1 : kindsF (ks.map g) ((r :: l).map g) = kindsF (if g r ∈ ks.map g then ks.map g else ks.map g ++ [g r]) (l.map g) := rfl
    have h2 : kindsF ks (r :: l) = kindsF (if r ∈ ks then ks else ks ++ [r]) l := rfl
    rw [h1, h2]
    by_cases hm : r ∈ ks
    · rw [if_pos hm, if_pos (List.mem_map_of_mem hm)]
      exact kinds_map g P hg l ks (fun x hx => hl x (List.mem_cons_of_mem _ hx)) hk
    · have hm2 : g r ∉ ks.map g := fun h => by
        obtain ⟨x, hx, he⟩ := List.mem_map.1 h
        rw [hg x r (hk x hx) hr he] at hx
        exact hm hx
      rw [if_neg hm, if_neg hm2, ← kinds_map g P hg l (ks ++ [r]) (fun x hx => hl x (List.mem_cons_of_mem _ hx)) (fun x hx => by
        rcases List.mem_append.1 hx with hx | hx
        · exact hk x hx
        · simp at hx; subst hx; exact hr), List.map_append]
      rfl
def kindsE (es : List Ent) : List (List Ent) := kindsF [] ((headsE es).map (behE es))
theorem kinds_length {es : List Ent} (hok : ∀ e ∈ es, okE e) : (kindsE es).length = classesL (es.map wvE) := by
  have h := kinds_map (List.map wvE) (fun l => ∀ e ∈ l, GoodE e) (fun a b => map_wvE_inj) ((headsE es).map (behE es)) [] (fun x hx => by
    obtain ⟨p, _, rfl⟩ := List.mem_map.1 hx
    exact beh_good es p) (by simp)
  unfold classesL kindsE
  rw [← heads_wl, List.map_map]
  have h2 : ((headsE es).map (behE es)).map (List.map wvE) = (headsE es).map ((fun p => rel (sub (es.map wvE) p)) ∘ wl) := by
    rw [List.map_map]
    exact List.map_congr_left fun p _ => beh_rel hok p
  rw [← h2]
  have h3 := congrArg List.length h
  rw [List.length_map] at h3
  exact h3.symm
def classesE (es : List Ent) : Nat := max 1 (kindsE es).length
/-! find -/
def findE (es : List Ent) (w : ByteArray) : Option Ent := es.find? fun e => decide (e.word = w)
theorem find_lk (es : List Ent) (w : ByteArray) : lkW (es.map wvE) (wl w) = (findE es w).map valE := by
  unfold lkW findE
  rw [List.find?_map]
  have : ((fun e : Wv => decide (e.1 = wl w)) ∘ wvE) = fun e : Ent => decide (e.word = w) := by
    funext e
    show decide (wl e.word = wl w) = _
    by_cases h : e.word = w
    · rw [h]; simp
    · rw [decide_eq_false h, decide_eq_false (fun h2 => h (wl_inj h2))]
  rw [this]
  cases es.find? (fun e => decide (e.word = w)) <;> rfl
/-! the theorem's parts -/
theorem own_lt {es : List Ent} (hok : ∀ e ∈ es, okE e ∧ okW e.word = true ∧ bareE e = e) (hr : RiseE es) : AllLt 256 (es.map wvE) := fun e he => by
  obtain ⟨x, hx, rfl⟩ := List.mem_map.1 he
  have := okW_size (hok x hx).2.1
  show (wl x.word).length < 256
  rw [wl_length]; omega
theorem own_rise {es : List Ent} (hok : ∀ e ∈ es, okE e ∧ okW e.word = true ∧ bareE e = e) (hr : RiseE es) : Rise (es.map wvE) := List.pairwise_map.2 hr
theorem own_build {es : List Ent} (hok : ∀ e ∈ es, okE e ∧ okW e.word = true ∧ bareE e = e) (hr : RiseE es) : buildF es = build (es.map wvE) := by
  unfold buildF
  have h0 : chkN es = 0 := chk_rise _ _ (fun e he => (hok e he).2.1) hr (fun q hq => by cases hq)
  rw [if_pos h0]
theorem own_classes {es : List Ent} (hok : ∀ e ∈ es, okE e ∧ okW e.word = true ∧ bareE e = e) (hr : RiseE es) : (buildF es).states.length = classesE es := by
  rw [own_build hok hr]
  unfold classesE
  rw [kinds_length (fun e he => (hok e he).1)]
  by_cases hn : es = []
  · subst hn; rfl
  · have hn2 : es.map wvE ≠ [] := by simpa using hn
    have h1 := build_classes (own_lt hok hr) hn2 (own_rise hok hr)
    rw [← h1, build_K (own_lt hok hr) hn2 (own_rise hok hr)]
    have := (K_ok 256 (es.map wvE) [] (own_lt hok hr) hn2 (own_rise hok hr) Inv.nil_).2.lt
    simp only
    omega
theorem own_wds {es : List Ent} (hok : ∀ e ∈ es, okE e ∧ okW e.word = true ∧ bareE e = e) (hr : RiseE es) (m : Nat) (hm : ∀ e ∈ es, e.word.size ≤ m) : wds (buildF es).states m ((buildF es).states.length - 1) = rel (es.map wvE) := by
  rw [own_build hok hr]
  by_cases hn : es = []
  · subst hn
    show wds [zeroS] m 0 = []
    exact wds_at0 (s := zeroS) rfl rfl m
  · have hn2 : es.map wvE ≠ [] := by simpa using hn
    rw [build_K (own_lt hok hr) hn2 (own_rise hok hr)]
    simp only
    have hk := (K_ok 256 (es.map wvE) [] (own_lt hok hr) hn2 (own_rise hok hr) Inv.nil_).2.new (Nat.zero_le _)
    rw [hk, Nat.add_sub_cancel]
    refine K_wds 256 (es.map wvE) [] _ m (own_lt hok hr) hn2 (own_rise hok hr) Inv.nil_ (fun e he => ?_) (List.prefix_refl _)
    obtain ⟨x, hx, rfl⟩ := List.mem_map.1 he
    have := hm x hx
    show (wl x.word).length < _
    rw [wl_length]; omega
theorem own_init {es : List Ent} (hok : ∀ e ∈ es, okE e ∧ okW e.word = true ∧ bareE e = e) (hr : RiseE es) : (buildF es).init = leastV (es.map wvE) := by
  rw [own_build hok hr]
  by_cases hn : es = []
  · subst hn; rfl
  · rw [build_K (own_lt hok hr) (by simpa using hn) (own_rise hok hr)]
theorem lk_rel {es : List Ent} (hok : ∀ e ∈ es, okE e ∧ okW e.word = true ∧ bareE e = e) (hr : RiseE es) (l : List Wv) (n : Nat) (w : List Nat) : lkW (l.map (lessW n)) w = (lkW l w).map (· - n) := by
  unfold lkW
  rw [List.find?_map]
  have : ((fun e : Wv => decide (e.1 = w)) ∘ lessW n) = fun e : Wv => decide (e.1 = w) := rfl
  rw [this]
  cases l.find? (fun e => decide (e.1 = w)) <;> rfl
theorem own_val {es : List Ent} (hok : ∀ e ∈ es, okE e ∧ okW e.word = true ∧ bareE e = e) (hr : RiseE es) (w : ByteArray) (hw : 0 < w.size) : (valW (buildF es).states ((buildF es).states.length - 1) (wl w)).map (fun v => ((buildF es).init + v) % M64) = (findE es w).map valE := by
  have hval : valW (buildF es).states ((buildF es).states.length - 1) (wl w) = lkW (rel (es.map wvE)) (wl w) := by
    obtain ⟨m, hm⟩ : ∃ m, m = 256 + w.size := ⟨_, rfl⟩
    rw [← own_wds hok hr m (fun e he => by have := okW_size (hok e he).2.1; omega)]
    rw [own_build hok hr]
    by_cases hn : es = []
    · subst hn
      obtain ⟨b, l, hbl⟩ : ∃ b l, wl w = b :: l := by
        cases h : wl w with
        | nil => have := wl_length w; rw [h] at this; simp at this; omega
        | cons b l => exact ⟨b, l, rfl⟩
      show valW [zeroS] 0 (wl w) = lkW (wds [zeroS] m 0) (wl w)
      rw [wds_at0 (s := zeroS) rfl rfl m, hbl]
      rfl
    · have hn2 : es.map wvE ≠ [] := by simpa using hn
      rw [build_K (own_lt hok hr) hn2 (own_rise hok hr)]
      simp only
      obtain ⟨hI, hk⟩ := K_ok 256 (es.map wvE) [] (own_lt hok hr) hn2 (own_rise hok hr) Inv.nil_
      have := hk.lt
      exact val_wds hI (wl w) m _ _ (by rw [wl_length]; omega) (List.getElem?_eq_getElem (by omega))
  rw [hval]
  unfold rel
  rw [lk_rel hok hr, ← find_lk, own_init hok hr]
  cases h : lkW (es.map wvE) (wl w) with
  | none => rfl
  | some v =>
    simp only [Option.map_some]
    unfold lkW at h
    cases hf : (es.map wvE).find? (fun e => decide (e.1 = wl w)) with
    | none => rw [hf] at h; cases h
    | some e =>
      rw [hf] at h
      have h4 : e.2 = v := by injection h
      have hmem := List.mem_of_find?_eq_some hf
      have h1 := leastV_le e hmem
      obtain ⟨x, hx, rfl⟩ := List.mem_map.1 hmem
      have h2 := valE_lt (hok x hx).1
      have h3 : valE x = v := h4
      have h5 : (wvE x).2 = v := h4
      congr 1
      unfold M64
      omega
end Dw
end Go.Proofs.YtdkbgbdgmihlmaaGreatDoor
