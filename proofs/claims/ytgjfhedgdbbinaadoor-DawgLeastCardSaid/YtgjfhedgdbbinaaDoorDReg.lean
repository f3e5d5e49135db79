/- Dawg: the registry of states in memory. -/
import Derived.Test.YtgjfhedgdbbinaaDoorDKey
import Derived.Maps.OwnSet
import Derived.Maps.Views
import Derived.StringKeys
import Derived.Laws.OwnMore
namespace Go.Proofs.YtgjfhedgdbbinaaDoor
open Go.RowKit Go.Maps
set_option linter.unusedSimpArgs false
set_option linter.unusedVariables false
set_option linter.unnecessarySimpa false
namespace Dw
/-! no two states have one key -/
theorem dg_mem (d : Nat) (h : d < 36) : dg d ≠ 32 ∧ dg d ≠ 33 ∧ dg d < 256 := by unfold dg; split <;> omega
theorem dg_inj {a b : Nat} (ha : a < 36) (hb : b < 36) (h : dg a = dg b) : a = b := by unfold dg at h; split at h <;> split at h <;> omega
theorem dig_mem : ∀ (n : Nat), ∀ x ∈ dig n, x ≠ 32 ∧ x ≠ 33 ∧ x < 256 := by
  intro n
  induction n using Nat.strongRecOn with
  | _ n ih =>
    intro x hx
    rw [dig] at hx
    split at hx
    · simp at hx; subst hx; exact dg_mem n (by assumption)
    · rcases List.mem_append.1 hx with h | h
      · exact ih (n / 36) (by omega) x h
      · simp at h; subst h; exact dg_mem _ (by omega)
theorem dig_ne (n : Nat) : dig n ≠ [] := by rw [dig]; split <;> simp
theorem dig_inj : ∀ a b : Nat, dig a = dig b → a = b := by
  intro a
  induction a using Nat.strongRecOn with
  | _ a ih =>
    intro b h
    rw [dig.eq_def a, dig.eq_def b] at h
    split at h <;> split at h
    · injection h with h; exact dg_inj (by assumption) (by assumption) h
    · have h1 := congrArg List.length h
      have h2 := List.length_pos_iff.2 (dig_ne (b / 36))
      simp only [List.length_append, List.length_cons, List.length_nil] at h1; omega
    · have h1 := congrArg List.length h
      have h2 := List.length_pos_iff.2 (dig_ne (a / 36))
      simp only [List.length_append, List.length_cons, List.length_nil] at h1; omega
    · obtain ⟨h1, h2⟩ := List.append_inj' h rfl
      have h3 := ih (a / 36) (by omega) _ h1
      injection h2 with h2
      have h4 := dg_inj (by omega) (by omega) h2
      omega
theorem split_at {a b x y : List Nat} (ha : ∀ u ∈ a, u ≠ 32) (hb : ∀ u ∈ b, u ≠ 32) (h : a ++ 32 :: x = b ++ 32 :: y) : a = b ∧ x = y := by
  induction a generalizing b with
  | nil =>
    cases b with
    | nil => simpa using h
    | cons u b => simp at h; exact absurd h.1.symm (hb u (List.mem_cons_self ..))
  | cons v a ih =>
    cases b with
    | nil => simp at h; exact absurd h.1 (ha v (List.mem_cons_self ..))
    | cons u b =>
      simp only [List.cons_append, List.cons.injEq] at h
      obtain ⟨h1, h2⟩ := ih (fun z hz => ha z (List.mem_cons_of_mem _ hz)) (fun z hz => hb z (List.mem_cons_of_mem _ hz)) h.2
      exact ⟨by rw [h.1, h1], h2⟩
theorem num_inj {a b : Nat} {x y : List Nat} (h : num a ++ x = num b ++ y) : a = b ∧ x = y := by
  unfold num at h
  rw [List.append_assoc, List.append_assoc] at h
  obtain ⟨h1, h2⟩ := split_at (fun u hu => (dig_mem a u hu).1) (fun u hu => (dig_mem b u hu).1) h
  exact ⟨dig_inj a b h1, h2⟩
theorem num_ne (n : Nat) : ∃ c l, num n = c :: l ∧ c ≠ 33 := by
  obtain ⟨c, l, h⟩ := List.exists_cons_of_ne_nil (dig_ne n)
  refine ⟨c, l ++ [32], by simp [num, h], (dig_mem n c (by rw [h]; exact List.mem_cons_self ..)).2.1⟩
def arcsKey (l : List Arc) : List Nat := l.flatMap fun a => num a.byte ++ num a.out ++ num a.to.toNat
theorem arcsKey_inj : ∀ (a b : List Arc), (∀ x ∈ a, 0 ≤ x.to) → (∀ x ∈ b, 0 ≤ x.to) → arcsKey a = arcsKey b → a = b
  | [], [], _, _, _ => rfl
  | [], b :: l2, _, _, h => by
    obtain ⟨c, l, h1, _⟩ := num_ne b.byte
    simp [arcsKey, h1] at h
  | a :: l1, [], _, _, h => by
    obtain ⟨c, l, h1, _⟩ := num_ne a.byte
    simp [arcsKey, h1] at h
  | a :: l1, b :: l2, ha, hb, h => by
    have e : ∀ (x : Arc) (xs : List Arc), arcsKey (x :: xs) = num x.byte ++ (num x.out ++ (num x.to.toNat ++ arcsKey xs)) := fun x xs => by simp [arcsKey]
    rw [e, e] at h
    obtain ⟨h1, h⟩ := num_inj h
    obtain ⟨h2, h⟩ := num_inj h
    obtain ⟨h3, h⟩ := num_inj h
    have h4 := arcsKey_inj l1 l2 (fun x hx => ha x (List.mem_cons_of_mem _ hx)) (fun x hx => hb x (List.mem_cons_of_mem _ hx)) h
    have h5 := ha a (List.mem_cons_self ..)
    have h6 := hb b (List.mem_cons_self ..)
    obtain ⟨ab, ao, at_⟩ := a
    obtain ⟨bb, bo, bt⟩ := b
    simp only at h1 h2 h3 h5 h6
    subst h1; subst h2; subst h4
    have : at_ = bt := by omega
    rw [this]
/-- a state as the registry may hold it; one whose Out is 0 if it is not final -/
structure okK (s : State) : Prop where
  ok : okS s
  to : ∀ a ∈ s.arcs, 0 ≤ a.to
  few : s.arcs.length ≤ 256
theorem keyL_eq (s : State) : keyL s = (if s.final then [33] else []) ++ (num s.out ++ arcsKey s.arcs) := by simp [keyL, keyN, arcsKey]
theorem keyL_inj {a b : State} (ha : okK a) (hb : okK b) (h : keyL a = keyL b) : a = b := by
  rw [keyL_eq, keyL_eq] at h
  have key : ∀ x y : State, okK x → okK y → x.final = y.final → num x.out ++ arcsKey x.arcs = num y.out ++ arcsKey y.arcs → x = y := fun x y hx hy h0 h => by
    obtain ⟨h1, h2⟩ := num_inj h
    have h3 := arcsKey_inj _ _ hx.to hy.to h2
    obtain ⟨xf, xo, xa⟩ := x
    obtain ⟨yf, yo, ya⟩ := y
    simp only at h0 h1 h3
    rw [h0, h1, h3]
  cases hfa : a.final <;> cases hfb : b.final <;> rw [hfa, hfb] at h
  · exact key a b ha hb (by rw [hfa, hfb]) (by simpa using h)
  · obtain ⟨c, l, h1, h2⟩ := num_ne a.out
    simp [h1] at h
    exact absurd h.1 h2
  · obtain ⟨c, l, h1, h2⟩ := num_ne b.out
    simp [h1] at h
    exact absurd h.1.symm h2
  · exact key a b ha hb (by rw [hfa, hfb]) (by simpa using h)
theorem num_lt (n : Nat) : ∀ x ∈ num n, x < 256 := fun x hx => by
  rcases List.mem_append.1 hx with h | h
  · exact (dig_mem n x h).2.2
  · simp at h; omega
theorem keyL_lt (s : State) : ∀ x ∈ keyL s, x < 256 := by
  rw [keyL_eq]
  intro x hx
  rcases List.mem_append.1 hx with h | h
  · split at h
    · simp at h; omega
    · cases h
  · rcases List.mem_append.1 h with h | h
    · exact num_lt _ x h
    · obtain ⟨a, _, h⟩ := List.mem_flatMap.1 h
      rcases List.mem_append.1 h with h | h
      · rcases List.mem_append.1 h with h | h
        · exact num_lt _ x h
        · exact num_lt _ x h
      · exact num_lt _ x h
theorem bs_inj {a b : List Nat} (ha : ∀ x ∈ a, x < 256) (hb : ∀ x ∈ b, x < 256) (h : bs a = bs b) : a = b := by
  have e : ∀ l : List Nat, (∀ x ∈ l, x < 256) → (bs l).map UInt8.toNat = l := fun l hl => by
    unfold bs
    rw [List.map_map]
    exact (List.map_congr_left fun x hx => by simp; exact hl x hx).trans (List.map_id l)
  rw [← e a ha, ← e b hb, h]
theorem key_inj {a b : State} (ha : okK a) (hb : okK b) : bs (keyL a) = bs (keyL b) ↔ a = b :=
  ⟨fun h => keyL_inj ha hb (bs_inj (keyL_lt a) (keyL_lt b) h), fun h => by rw [h]⟩
/-! the map of keys -/
def Dm (ss : List State) : Nat → DataW Unit
  | 0 => .map []
  | m + 1 => (Dm ss m).put (.string (bs (keyL (ss.getD m zeroS)))) (.lit (.int .i64 (m : Int)))
theorem Dm_isMap (ss : List State) (m : Nat) : IsMap (Dm ss m) := by
  induction m with
  | zero => exact ⟨[], rfl⟩
  | succ m ih => exact IsMap.put ih _ _
theorem Dm_append (ss : List State) (s : State) (m : Nat) (h : m ≤ ss.length) : Dm (ss ++ [s]) m = Dm ss m := by
  induction m with
  | zero => rfl
  | succ m ih =>
    simp only [Dm]
    rw [ih (by omega)]
    have : (ss ++ [s]).getD m zeroS = ss.getD m zeroS := by
      simp only [List.getD_eq_getElem?_getD]
      rw [List.getElem?_append_left (by omega)]
    rw [this]
theorem Dm_snoc (ss : List State) (s : State) : Dm (ss ++ [s]) (ss ++ [s]).length = (Dm ss ss.length).put (.string (bs (keyL s))) (.lit (.int .i64 (ss.length : Int))) := by
  rw [List.length_append]
  show (Dm (ss ++ [s]) ss.length).put _ _ = _
  rw [Dm_append _ _ _ (Nat.le_refl _)]
  simp
theorem key_str (x : List UInt8) : WideAt.IsKeyLit (Lit.string x) := trivial
theorem Dm_has {ss : List State} {s : State} (hs : okK s) (hg : ∀ x ∈ ss, okK x) : ∀ m, m ≤ ss.length → has (Dm ss m) (.string (bs (keyL s))) = decide (s ∈ ss.take m)
  | 0, _ => by simp [Dm, has]
  | m + 1, hm => by
    have hlt : m < ss.length := by omega
    have hget : ss.getD m zeroS = ss[m] := by simp [List.getD_eq_getElem?_getD, hlt]
    simp only [Dm]
    rw [hget, List.take_add_one, List.getElem?_eq_getElem hlt]
    by_cases hx : ss[m] = s
    · rw [hx, has_put_same (Dm_isMap ss m) (key_str _)]
      simp
    · rw [has_put_other (by intro h; injection h with h; exact hx ((key_inj hs (hg _ (List.getElem_mem hlt))).1 h).symm), Dm_has hs hg m (by omega)]
      refine decide_eq_decide.2 ⟨fun h => List.mem_append_left _ h, fun h => (List.mem_append.1 h).elim id (fun h => ?_)⟩
      simp at h
      exact absurd h.symm hx
theorem Dm_at {ss : List State} {s : State} (hs : okK s) (hg : ∀ x ∈ ss, okK x) (hn : ss.Nodup) (z : DataW Unit) {i : Nat} (hi : ss[i]? = some s) : ∀ m, m ≤ ss.length → i < m → (Dm ss m).atKey (.string (bs (keyL s))) z = .lit (.int .i64 (i : Int))
  | 0, _, h => by omega
  | m + 1, hm, h => by
    have hlt : m < ss.length := by omega
    have hget : ss.getD m zeroS = ss[m] := by simp [List.getD_eq_getElem?_getD, hlt]
    simp only [Dm]
    rw [hget]
    by_cases hmi : m = i
    · subst hmi
      have : ss[m] = s := (List.getElem?_eq_some_iff.1 hi).2
      rw [this]
      exact atKey_put_same (Dm_isMap ss m) (key_str _) _ _
    · have hne : ss[m] ≠ s := fun e => False.elim (by
        obtain ⟨hil, hie⟩ := List.getElem?_eq_some_iff.1 hi
        rcases Nat.lt_or_gt_of_ne hmi with hl | hl
        · exact absurd (e.trans hie.symm) (List.pairwise_iff_getElem.1 hn m i hlt hil hl)
        · exact absurd (hie.trans e.symm) (List.pairwise_iff_getElem.1 hn i m hil hlt hl))
      rw [atKey_put_other (by intro h; injection h with h; exact hne ((key_inj hs (hg _ (List.getElem_mem hlt))).1 h).symm)]
      exact Dm_at hs hg hn z hi m (by omega) (by omega)
theorem key_read (l : List Nat) (h : l.length ≤ 1000000) : keyOf Tryd.prog 9 (.string (strOf l)) = some (.string (bs l)) := by
  have := WideMaps.keyOf_string_mk (P := Tryd.prog) (k := 9) Tryd.underlying9 (s := strOf l) (by rw [strOf_size]; unfold maxLen; omega)
  rw [this]
  rfl
theorem val_read (n : Nat) (h : n ≤ 1000000) : plainElem (H := Unit) Tryd.prog 3 (.int .i64 (n : Int)) = some (.lit (.int .i64 (n : Int)), []) :=
  plainElem_int Tryd.underlying3 (by simp [Lit.wf, IntKind.min, IntKind.max, IntKind.bits, IntKind.signed]; omega)
theorem keyL_length {s : State} (h : okK s) : (keyL s).length ≤ 1000000 := by
  have := keyN_room (n := 0) h.ok h.few (Nat.le_refl _) (by omega)
  simpa [keyL] using this
theorem finish_found {ss : List State} {s : State} (h : s ∈ ss) : ∃ i, ss[i]? = some s ∧ i < ss.length ∧ finish ss s = (ss, i) := by
  unfold finish
  cases hf : ss.findIdx? (· = s) with
  | none =>
    rw [List.findIdx?_eq_none_iff] at hf
    simpa using hf s h
  | some i =>
    rw [List.findIdx?_eq_some_iff_getElem] at hf
    obtain ⟨h1, h2, _⟩ := hf
    refine ⟨i, ?_, h1, rfl⟩
    rw [List.getElem?_eq_getElem h1]
    simpa using h2
theorem finish_new {ss : List State} {s : State} (h : s ∉ ss) : finish ss s = (ss ++ [s], ss.length) := by
  unfold finish
  have : ss.findIdx? (· = s) = none := by
    rw [List.findIdx?_eq_none_iff]
    intro x hx
    simp
    rintro rfl
    exact h hx
  rw [this]
section
variable {w : World} {b n : Nat} {ss : List State}
theorem zero3 (w : World) : (zeroValue 3).run Tryd.prog w = .ok (.int .i64 0) w := Tryd.zeroValue3 w
theorem look_in (h : w.ownsMap Tryd.prog 9 (plainElem Tryd.prog 3) b n (Dm ss ss.length)) {s : State} (hs : okK s) (hg : ∀ x ∈ ss, okK x) (hn : ss.Nodup) {i : Nat} (hi : ss[i]? = some s) :
    (Instr.lookup 70 (.map (some b)) (.string (strOf (keyL s))) true).run Tryd.prog w = .ok (.tuple #[.int .i64 (i : Int), .bool true]) w := by
  obtain ⟨v, ps, h1, h2⟩ := h.look_ok (string_keyed Tryd.underlying9) Tryd.underlying70 (zero3 w) (val_read 0 (by omega)) (key_read _ (keyL_length hs))
  have hil := (List.getElem?_eq_some_iff.1 hi).1
  rw [Dm_at hs hg hn _ hi _ (Nat.le_refl _) hil] at h2
  obtain ⟨c, rfl, h3, _⟩ := plainElem_int_inv Tryd.underlying3 h2
  rw [h1, Dm_has hs hg _ (Nat.le_refl _), List.take_length, decide_eq_true (List.mem_of_getElem? hi)]
  have h4 : c = (i : Int) := by simp at h3; exact h3.1.symm
  rw [h4]
theorem look_out (h : w.ownsMap Tryd.prog 9 (plainElem Tryd.prog 3) b n (Dm ss ss.length)) {s : State} (hs : okK s) (hg : ∀ x ∈ ss, okK x) (hi : s ∉ ss) :
    ∃ c, (Instr.lookup 70 (.map (some b)) (.string (strOf (keyL s))) true).run Tryd.prog w = .ok (.tuple #[.int .i64 c, .bool false]) w := by
  obtain ⟨v, ps, h1, h2⟩ := h.look_ok (string_keyed Tryd.underlying9) Tryd.underlying70 (zero3 w) (val_read 0 (by omega)) (key_read _ (keyL_length hs))
  obtain ⟨c, rfl, _⟩ := plainElem_int_inv Tryd.underlying3 h2
  refine ⟨c, ?_⟩
  rw [h1, Dm_has hs hg _ (Nat.le_refl _), List.take_length, decide_eq_false hi]
end
/-! the registry in memory: what each block is (own): 0 garbage, 1 the box, 2 the states' row, 3 the map, 4 arcs that stay, 5 the way's row, 6 + i the arcs of the way's i-th state -/
structure Reg (w : World) (base : Nat) (own : Nat → Nat) (g : Nat) (t : TypeId) (xs : List Value) (sv : Value) (mb : Nat) (ss : List State) : Prop where
  lo : ∀ k, k < base → own k = 4
  box : w.heap[g]? = some (.cells (sv :: .map (some mb) :: xs).toArray t (0, 0))
  og : own g = 1
  om : own mb = 3
  map : w.ownsMap Tryd.prog 9 (plainElem Tryd.prog 3) mb ss.length (Dm ss ss.length)
  row : ∃ cells, w.ownsRow base 61 3 sv ss.length cells ∧ (∀ k, sv.ownBlock = some k → own k = 2) ∧ ∀ (i : Nat) (s : State), ss[i]? = some s →
    ∃ av, cells[i * 3]? = some av ∧ cells[i * 3 + 1]? = some (.bool s.final) ∧ cells[i * 3 + 2]? = some (.int .u64 s.out) ∧ RA w (fun k => own k = 4) av s.arcs
  nodup : ss.Nodup
  good : ∀ s ∈ ss, okK s
section
variable {w w' : World} {base g mb : Nat} {own own' : Nat → Nat} {t : TypeId} {xs : List Value} {sv : Value} {ss : List State} {S : Nat → Prop}
theorem map_but {H : Type} {P : Program} {k : TypeId} {R : Value → Option (DataW H × List MemPlace)} {b n : Nat} {D : DataW H} (h : w.ownsMap P k R b n D) (hb : But S w w') (hn : ¬ S b) : w'.ownsMap P k R b n D := by
  obtain ⟨es, clock, h1, F, hs, hD⟩ := h
  exact ⟨es, clock, hb.heap h1 hn, F, hs, hD⟩
theorem Reg.but (h : Reg w base own g t xs sv mb ss) (hb : But S w w') (hS : ∀ k, S k → own k = 0 ∨ 5 ≤ own k) : Reg w' base own g t xs sv mb ss := by
  obtain ⟨cells, h1, h2, h3⟩ := h.row
  refine ⟨h.lo, hb.heap h.box (fun hs => ?_), h.og, h.om, map_but h.map hb (fun hs => ?_), ⟨cells, own_but h1 hb (fun k hk hs => ?_), h2, fun i s hi => ?_⟩, h.nodup, h.good⟩
  · have := hS g hs; have := h.og; omega
  · have := hS mb hs; have := h.om; omega
  · have := hS k hs; have := h2 k hk; omega
  · obtain ⟨av, h4, h5, h6, h7⟩ := h3 i s hi
    exact ⟨av, h4, h5, h6, h7.but hb (fun k hk hs => by have := hS k hs; omega)⟩
theorem Reg.later (h : Reg w base own g t xs sv mb ss) (hb : Below w.heap.size w w') : Reg w' base own g t xs sv mb ss := h.but (But.of (fun _ => False) hb) (fun _ hf => hf.elim)
/-- the blocks' kinds told anew: those that are there are as they were, or arcs that stay from now on, or garbage -/
theorem Reg.told (h : Reg w base own g t xs sv mb ss) (hlo : ∀ k, k < base → own' k = 4) (hk : ∀ k, k < w.heap.size → 1 ≤ own k → own k ≤ 4 → own' k = own k) : Reg w base own' g t xs sv mb ss := by
  obtain ⟨cells, h1, h2, h3⟩ := h.row
  refine ⟨hlo, h.box, ?_, ?_, h.map, ⟨cells, h1, fun k hk' => ?_, fun i s hi => ?_⟩, h.nodup, h.good⟩
  · rw [hk g (heap_lt h.box) (by rw [h.og]; omega) (by rw [h.og]; omega)]; exact h.og
  · rw [hk mb h.map.lt (by rw [h.om]; omega) (by rw [h.om]; omega)]; exact h.om
  · have := h2 k hk'; rw [hk k (h1.lt k hk').2 (by omega) (by omega)]; exact this
  · obtain ⟨av, h4, h5, h6, h7⟩ := h3 i s hi
    exact ⟨av, h4, h5, h6, h7.more (fun k hlt hk4 => by rw [hk k hlt (by omega) (by omega)]; exact hk4)⟩
theorem Reg.cell0 (h : Reg w base own g t xs sv mb ss) : w.cell? ⟨g, 0, none⟩ = some sv := by rw [cell_of_row _ _ 0 _ t (0, 0) h.box]; rfl
theorem Reg.cell1 (h : Reg w base own g t xs sv mb ss) : w.cell? ⟨g, 1, none⟩ = some (.map (some mb)) := by rw [cell_of_row _ _ 1 _ t (0, 0) h.box]; rfl
theorem Reg.frozen (h : Reg w base own g t xs sv mb ss) (i : Nat) : w.frozen? ⟨g, i, none⟩ = false := frozen_of h.box
theorem Reg.form (h : Reg w base own g t xs sv mb ss) : ∃ A c, sv = .slice A ss.length c ∧ ss.length ≤ c := by
  obtain ⟨cells, h1, _⟩ := h.row
  rcases h1.2 with ⟨rfl, h0⟩ | ⟨b, cap, cur, rfl, _, _, hc, _⟩
  · exact ⟨none, 0, by rw [h0], by omega⟩
  · exact ⟨_, _, rfl, hc⟩
theorem Reg.base_le (h : Reg w base own g t xs sv mb ss) : base ≤ w.heap.size := by
  have h1 := heap_lt h.box
  rcases Nat.lt_or_ge g base with h2 | h2
  · have := h.lo g h2; have := h.og; omega
  · omega
theorem Reg.mb_ne (h : Reg w base own g t xs sv mb ss) : g ≠ mb := fun e => by have h1 := h.og; have h2 := h.om; rw [e] at h1; omega
/-- what the states' row holds -/
def Cells (w : World) (own : Nat → Nat) (cells : List Value) (ss : List State) : Prop := ∀ (i : Nat) (s : State), ss[i]? = some s →
    ∃ av, cells[i * 3]? = some av ∧ cells[i * 3 + 1]? = some (.bool s.final) ∧ cells[i * 3 + 2]? = some (.int .u64 s.out) ∧ RA w (fun k => own k = 4) av s.arcs
theorem Reg.snoc {w4 w5 : World} {s : State} {av sv' : Value} {cells : List Value} (h : Reg w base own g t xs sv mb ss) (hg4 : w.grownBy w4 (some mb))
    (hM4 : w4.ownsMap Tryd.prog 9 (plainElem Tryd.prog 3) mb (ss.length + 1) ((Dm ss ss.length).put (.string (bs (keyL s))) (.lit (.int .i64 (ss.length : Int))))) (hb5 : But (fun k => own k = 1 ∨ own k = 2) w4 w5)
    (hcl : cells.length = ss.length * 3) (hcells : Cells w own cells ss) (hrow : w5.ownsRow base 61 3 sv' (ss.length + 1) (cells ++ [av, .bool s.final, .int .u64 s.out])) (hown : ∀ k, sv'.ownBlock = some k → own k = 2)
    (hbox : w5.heap[g]? = some (.cells (sv' :: .map (some mb) :: xs).toArray t (0, 0))) (hra : RA w (fun k => own k = 4) av s.arcs) (hok : okK s) (hnew : s ∉ ss) : Reg w5 base own g t xs sv' mb (ss ++ [s]) := by
  have hom := h.om
  have hb4 : But (fun k => k = mb) w w4 := But.grown hg4 (fun k hk => by injection hk with hk; exact hk.symm)
  have hra5 : ∀ {v : Value} {l : List Arc}, RA w (fun k => own k = 4) v l → RA w5 (fun k => own k = 4) v l := fun hr =>
    (hr.but hb4 (fun k hk e => by subst e; omega)).but hb5 (fun k hk e => by omega)
  refine ⟨h.lo, hbox, h.og, h.om, ?_, ⟨_, by rw [List.length_append]; exact hrow, hown, fun i x hi => ?_⟩, ?_, fun x hx => ?_⟩
  · rw [Dm_snoc, List.length_append]
    exact map_but hM4 hb5 (fun e => by omega)
  · by_cases hlt : i < ss.length
    · rw [List.getElem?_append_left hlt] at hi
      obtain ⟨av', h4, h5, h6, h7⟩ := hcells i x hi
      exact ⟨av', by rw [List.getElem?_append_left (by omega)]; exact h4, by rw [List.getElem?_append_left (by omega)]; exact h5, by rw [List.getElem?_append_left (by omega)]; exact h6, hra5 h7⟩
    · rw [List.getElem?_append_right (by omega)] at hi
      have hi0 : i - ss.length = 0 := by
        have := (List.getElem?_eq_some_iff.1 hi).1
        simp at this
        omega
      rw [hi0] at hi
      injection hi with hi
      subst hi
      have hie : i = ss.length := by omega
      subst hie
      refine ⟨av, ?_, ?_, ?_, hra5 hra⟩
      · rw [List.getElem?_append_right (by omega), hcl, Nat.sub_self]; rfl
      · rw [List.getElem?_append_right (by omega), hcl, show ss.length * 3 + 1 - ss.length * 3 = 1 by omega]; rfl
      · rw [List.getElem?_append_right (by omega), hcl, show ss.length * 3 + 2 - ss.length * 3 = 2 by omega]; rfl
  · rw [List.nodup_append]
    refine ⟨h.nodup, by simp, fun a ha b hb => ?_⟩
    simp at hb
    subst hb
    rintro rfl
    exact hnew ha
  · rcases List.mem_append.1 hx with hx | hx
    · exact h.good x hx
    · simp at hx; subst hx; exact hok
end
theorem info61 : (Tryd.prog.info? 61).map (fun i => (i.zero, i.size, i.bytes)) = some (some (.agg #[.slice none 0 0, .bool false, .int .u64 0]), 3, 40) := by kernel_rfl
theorem info63 : (Tryd.prog.info? 63).map (fun i => (i.zero, i.size, i.bytes)) = some (some (.agg #[.int .u8 0, .int .u64 0, .int .i64 0]), 3, 24) := by kernel_rfl
theorem info79 : (Tryd.prog.info? 79).map (fun i => (i.zero, i.size, i.bytes)) = some (some (.agg #[.slice none 0 0, .bool false, .int .u64 0, .int .u8 0]), 4, 48) := by kernel_rfl
/-- append of one element, at an operation; where the row lies then -/
theorem wp_app {o : Oper} {a : Act} {w : World} {K : Act → World → Prop} {Q : Exit → Act → World → Prop} (s y : Operand) (t : TypeId) (ho : o.op = .call { callee := .builtin .append, args := #[s, y], argTypes := #[t, t] })
    (e : TypeId) (z : Value) (size bytes : Nat) (ht : Tryd.prog.underlying t = some (.slice e)) (hinfo : (Tryd.prog.info? e).map (fun i => (i.zero, i.size, i.bytes)) = some (some z, size, bytes)) (hzs : z.cells.size = size) (hsz : 0 < size) (hby : bytes ≤ 100)
    (base : Nat) (v : Value) (n : Nat) (xs : List Value) (hs : a.eval s = v) (hown : w.ownsRow base e size v n xs) (b : Nat) (news : List Value) (hx : a.eval y = .slice (some ⟨b, 0, none⟩) 1 1) (hl : news.length = size)
    (hc : ∀ j u, news[j]? = some u → w.cell? ⟨b, j, none⟩ = some u) (h1 : ∀ u ∈ news, u.oneCell' = true) (hn : n ≤ 1000000000) (hbase : base ≤ w.heap.size)
    (h : ∀ v' w', w'.ownsRow base e size v' (n + 1) (xs ++ news) → w.grownBy w' v.ownBlock → (v'.ownBlock = v.ownBlock ∨ v'.ownBlock = some w.heap.size) → K (a.put o.dst v') w') : Oper.wp Tryd.prog o a w K Q := by
  obtain ⟨i0, hi, hz0, hz1, hz2⟩ := info_parts hinfo
  obtain ⟨v', w', r1, r2, r3, _, r4⟩ := run_append_own_at (P := Tryd.prog) w base t o.type e i0 z size bytes ht hi hz0 hz1 hz2 hzs hsz v n xs hown ⟨b, 0, none⟩ 1 1 news (by omega) (fun j u hu => by
    have ha : (⟨b, 0, none⟩ : Addr).add j = ⟨b, j, none⟩ := by unfold Addr.add; split <;> simp_all
    rw [ha]; exact hc j u hu) h1 (by unfold maxLen; omega) (by have : (n + 1) * bytes ≤ (n + 1) * 100 := Nat.mul_le_mul_left _ hby; omega) hbase
  unfold Oper.wp execOp
  simp only [ho, resolve, invoke, builtin, Sem.run_bind, Sem.run_pure, Result.andThen_ok, List.map_toArray, List.map_cons, List.map_nil, hs, hx, r1]
  exact h v' w' r2 r3 r4
/-- a literal slice of one element, however many cells it has -/
def PLit (news : List Value) : Stab.Pr := fun v w => ∃ b, v = .slice (some ⟨b, 0, none⟩) 1 1 ∧ ∀ (j : Nat) (u : Value), news[j]? = some u → w.cell? ⟨b, j, none⟩ = some u
theorem PLit.stable (news : List Value) : Stab.Stable (PLit news) := fun v w w' hb ⟨b, h1, h2⟩ => ⟨b, h1, fun j u hu => cL hb (h2 j u hu)⟩
theorem lit_new (w : World) (news : List Value) (t : TypeId) : ∀ (j : Nat) (u : Value), news[j]? = some u → (w.alloc (.cells news.toArray t)).cell? ⟨w.heap.size, j, none⟩ = some u := fun j u hu => by
  rw [cell_of_row _ _ j _ t (0, 0) (heap_alloc_new w _)]
  simpa using hu
end Dw
end Go.Proofs.YtgjfhedgdbbinaaDoor

/- append(own row, another row): whatever comes behind. -/
namespace Go.Proofs.YtgjfhedgdbbinaaDoor
open Go.RowKit
set_option linter.unusedSimpArgs false
set_option linter.unusedVariables false
set_option linter.unnecessarySimpa false
namespace Dw
theorem run_app_none {P : Program} {w : World} (base : Nat) (t ty e : TypeId) (i : TypeInfo) (size : Nat) (ht : P.underlying t = some (.slice e)) (hi : P.info? e = some i)
    (v : Value) (n : Nat) (xs : List Value) (hown : w.ownsRow base e size v n xs) (c : Nat) : (Builtin.append_ #[t, t] ty #[v, .slice none 0 c]).run P w = .ok v w := by
  rcases hown.2 with ⟨rfl, rfl⟩ | ⟨g, cap, cur, rfl, _, _, hnc, _⟩
  · simp [Builtin.append_, run_underlying ht, sizeOf, typeInfo, hi, Builtin.lenOf, Builtin.firstCells]
  · simp [Builtin.append_, run_underlying ht, sizeOf, typeInfo, hi, Builtin.lenOf, Builtin.firstCells, hnc, storeCells]
theorem wp_apps {o : Oper} {a : Act} {w : World} {K : Act → World → Prop} {Q : Exit → Act → World → Prop} (s y : Operand) (t : TypeId) (ho : o.op = .call { callee := .builtin .append, args := #[s, y], argTypes := #[t, t] })
    (e : TypeId) (z : Value) (size bytes : Nat) (ht : Tryd.prog.underlying t = some (.slice e)) (hinfo : (Tryd.prog.info? e).map (fun i => (i.zero, i.size, i.bytes)) = some (some z, size, bytes)) (hzs : z.cells.size = size) (hsz : 0 < size) (hby : bytes ≤ 100)
    (base : Nat) (v : Value) (n : Nat) (xs : List Value) (hs : a.eval s = v) (hown : w.ownsRow base e size v n xs) (A : Option Addr) (m c : Nat) (news : List Value) (hx : a.eval y = .slice A m c) (hl : news.length = m * size)
    (hc : 0 < m → ∃ b off, A = some ⟨b, off, none⟩ ∧ ∀ j u, news[j]? = some u → w.cell? ⟨b, off + j, none⟩ = some u) (h1 : ∀ u ∈ news, u.oneCell' = true) (hn : n + m ≤ 1000000000) (hbase : base ≤ w.heap.size)
    (h : ∀ v' w', w'.ownsRow base e size v' (n + m) (xs ++ news) → w.grownBy w' v.ownBlock → (v'.ownBlock = v.ownBlock ∨ v'.ownBlock = some w.heap.size) → K (a.put o.dst v') w') : Oper.wp Tryd.prog o a w K Q := by
  obtain ⟨i0, hi, hz0, hz1, hz2⟩ := info_parts hinfo
  cases A with
  | none =>
    have hm : m = 0 := by
      rcases Nat.eq_zero_or_pos m with h9 | h9
      · exact h9
      · obtain ⟨b, off, e9, _⟩ := hc h9; cases e9
    subst hm
    have hn0 : news = [] := List.eq_nil_of_length_eq_zero (by simpa using hl)
    subst hn0
    have hr := run_app_none (P := Tryd.prog) (w := w) base t o.type e i0 size ht hi v n xs hown c
    unfold Oper.wp execOp
    simp only [ho, resolve, invoke, builtin, Sem.run_bind, Sem.run_pure, Result.andThen_ok, List.map_toArray, List.map_cons, List.map_nil, hs, hx, hr]
    exact h v w (by rw [List.append_nil, Nat.add_zero]; exact hown) ⟨rfl, rfl, rfl, Nat.le_refl _, fun _ _ _ => rfl⟩ (.inl rfl)
  | some p =>
    obtain ⟨v', w', r1, r2, r3, _, r4⟩ := run_append_own_at (P := Tryd.prog) w base t o.type e i0 z size bytes ht hi hz0 hz1 hz2 hzs hsz v n xs hown p m c news hl (fun j u hu => by
      have h0 : 0 < m := by
        rcases Nat.eq_zero_or_pos m with h9 | h9
        · subst h9; have := (List.getElem?_eq_some_iff.1 hu).1; rw [hl] at this; omega
        · exact h9
      obtain ⟨b, off, e9, h9⟩ := hc h0
      obtain rfl := Option.some.inj e9
      have ha : (⟨b, off, none⟩ : Addr).add j = ⟨b, off + j, none⟩ := Addr.add_lit ..
      rw [ha]; exact h9 j u hu) h1 (by unfold maxLen; omega) (by have : (n + m) * bytes ≤ (n + m) * 100 := Nat.mul_le_mul_left _ hby; omega) hbase
    unfold Oper.wp execOp
    simp only [ho, resolve, invoke, builtin, Sem.run_bind, Sem.run_pure, Result.andThen_ok, List.map_toArray, List.map_cons, List.map_nil, hs, hx, r1]
    exact h v' w' r2 r3 r4
end Dw
end Go.Proofs.YtgjfhedgdbbinaaDoor
