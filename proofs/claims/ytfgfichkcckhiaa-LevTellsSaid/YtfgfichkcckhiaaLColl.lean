/- Lev: slices.Collect and slices.Sorted of a map's keys. -/
import Derived.Test.YtfgfichkcckhiaaLKeys
import Derived.Test.YtfgfichkcckhiaaSSort
import Derived.OwnWalkIn
namespace Go.Proofs.Ytfgfichkcckhiaa
open Go.RowKit Go.Maps Go.Shelf
set_option linter.unusedSimpArgs false
set_option linter.unusedVariables false
attribute [local go_sem] Oper.semAt_some
namespace Lv
/-- a row of bytes, as the sort knows it -/
abbrev OZ (w : World) (base : Nat) (v : Value) (l : List Int) : Prop := w.ownsRow base 5 1 v l.length (l.map (Value.int .u8))
theorem wpListIn_app8 {F : Fence} {n : Nat} {ops : Array Oper} {rest : List Oper} {o : Oper} {a : Act} {Q : Exit → Act → World → Prop} {W : World} {x : Int}
    (hgd : o.guard = none) (s y : Operand) (ho : o.op = .call { callee := .builtin .append, args := #[s, y], argTypes := #[38, 38] })
    (base : Nat) (v : Value) (l : List Int) (hs : a.eval s = v) (hown : OZ W base v l) (g : Nat) (hx : a.eval y = .slice (some ⟨g, 0, none⟩) 1 1) (hgW : g = W.heap.size)
    (hl : l.length ≤ 1000000) (hbase : base ≤ W.heap.size)
    (h : ∀ v' w', OZ w' base v' (l ++ [x]) → (W.alloc (.cells #[.int .u8 x] 5)).grownBy w' v.ownBlock → Below base W w' → wpListIn F n Try.prog ops Q rest (a.put o.dst v') w') :
    wpListIn F n Try.prog ops Q (o :: rest) a (W.alloc (.cells #[.int .u8 x] 5)) := by
  obtain ⟨i0, hi, hz0, hz1, hz2⟩ := info_parts info5
  subst hgW
  refine wpListIn_append_own _ hgd s y 38 ho base 5 i0 _ 1 1 Try.underlying38 hi hz0 hz1 hz2 rfl (by decide) v l.length _ hs (hown.alloc _) ⟨W.heap.size, 0, none⟩ 1 1 [.int .u8 x] hx rfl ?_ ?_ ?_ ?_ (by simp; omega) ?_
  · exact one_new W _ 5
  · intro u hu; simp at hu; subst hu; rfl
  · unfold maxLen; omega
  · omega
  · intro v' w' ho' hg' _
    refine h v' w' (by show w'.ownsRow _ _ _ _ _ _; simpa using ho') hg' (((Below.refl base W).alloc hbase _).grown hg' (by simp; omega) (fun k hk => (hown.lt k hk).1))
theorem nocell5 (cur : Array Value) : ¬ Beside CW (.cells cur 5 (0, 0)) := by
  rintro (h | h)
  · cases h
  · cases h
theorem keeps_below {W W' : World} (hb : Below W.heap.size W W') : KeepsOthers W W' := ⟨hb.size, fun k _o h _ => (hb.block k (Array.getElem?_eq_some_iff.1 h).1).trans h⟩
theorem keeps_grown {base : Nat} {W W' : World} {e : TypeId} {size k : Nat} {v : Value} {xs : List Value} (hown : W.ownsRow base e size v k xs) (hg : W.grownBy W' v.ownBlock) : KeepsOthers W W' := by
  refine KeepsOthers.of_grownBy hg (fun j o he ho => ?_)
  rcases hown.2 with ⟨rfl, _⟩ | ⟨g, cap, cur, rfl, _, hgb, _⟩
  · simp [Value.ownBlock] at he
  · simp [Value.ownBlock] at he
    subst he
    rw [hgb] at ho
    cases ho
    rfl
theorem OZ.form {w : World} {base : Nat} {v : Value} {l : List Int} (h : OZ w base v l) : ∃ A c, v = .slice A l.length c := by
  rcases h.2 with ⟨h1, h2⟩ | ⟨g, cap, cur, h1, _⟩
  · exact ⟨none, 0, by rw [h1, h2]⟩
  · exact ⟨_, _, h1⟩
/-- what the map's keys are, once each -/
def KeysOf (D0 : DataW Unit) (xs : List Int) : Prop := xs.Nodup ∧ ∀ x, x ∈ xs ↔ has D0 (.int .u8 x) = true
set_option maxRecDepth 100000 in
set_option maxHeartbeats 2000000 in
theorem append69 (Bm b nn : Nat) (D0 : DataW Unit) {R : Value → Option (DataW Unit × List MemPlace)} (w : World) (hsz : Maps.size D0 ≤ 1000) (hm : w.cell? ⟨Bm, 0, none⟩ = some (.map (some b))) (hown : w.ownsMap Try.prog 5 R b nn D0) :
    Calls Try.prog 69 #[.slice none 0 0, .func (.func 58) #[] #[.pointer (some ⟨Bm, 0, none⟩)]] w fun e w' => ∃ v xs, e = .returned v ∧ KeysOf D0 xs ∧ xs.length ≤ 1000 ∧ OZ w' w.heap.size v xs ∧ Below w.heap.size w w' := by
  refine (callsIn_wide (n := 6)).1 ?_
  refine callsIn_of_wp_marks Try.func69 rfl trivial ?_ rfl
  simp only [Try.ntmps69, List.size_toArray, List.length_cons, List.length_nil, Nat.reduceAdd, Nat.reduceSub, Array.replicate_succ, Array.replicate_zero, List.push_toArray, List.append_toArray, List.nil_append, List.cons_append]
  gi_wp2
  have bO := Boxed.new w 38 (.slice none 0 0)
  have hB0 : Below w.heap.size w (w.alloc (.cells #[.slice none 0 0] 38)) := (Below.refl _ w).alloc (Nat.le_refl _) _
  have hsz0 : (w.alloc (.cells #[.slice none 0 0] 38)).heap.size = w.heap.size + 1 := by simp
  obtain ⟨W0, hW0⟩ : ∃ W0, w.alloc (.cells #[.slice none 0 0] 38) = W0 := ⟨_, rfl⟩
  rw [hW0] at bO hB0 hsz0 ⊢
  have hm0 := cell_later hB0 hm
  have hown0 : W0.ownsMap Try.prog 5 R b nn D0 := by rw [← hW0]; exact hown.alloc _
  clear hW0
  have hit : Iter 5 Try.prog CW 58 #[.pointer (some ⟨Bm, 0, none⟩)] (fun x : Int => #[.int .u8 x]) KeepsWalks (fun xs => KeysOf D0 xs ∧ xs.length ≤ 1000) (fun _ => True) 1000 W0 := by
    intro l J Jx W hb hJ hJx hY h0
    have hlm : b < W0.heap.size := hown0.lt
    refine (keys58 5 l Bm b nn (by omega) D0 (fun s W => J s W ∧ s.length ≤ Maps.size D0) Jx W (cell_later hb hm0) (hown0.kept (row := none) ⟨hb.os, hb.tape, hb.output, hb.size, fun i hi _ => hb.block i hi⟩ (by simp)) (fun s => Stays.and (hJ s) (Stays.pure _ _ _)) (fun pre x W1 hj hlen => ?_) ⟨h0, Nat.zero_le _⟩).mono ?_
    · obtain ⟨fn, tmps, assign, body, hy, hR⟩ := hY pre x W1 hj.1 (by omega)
      refine ⟨fn, tmps, assign, body, hy, hR.mono ?_⟩
      rintro e W' (⟨rfl, h1, h2⟩ | h)
      · exact .inl ⟨rfl, ⟨h1, by simp; omega⟩, h2⟩
      · exact .inr h
    · rintro e W' ⟨hv, h⟩
      refine ⟨hv, ?_⟩
      rcases h with ⟨xs, hk, hj, hl⟩ | h
      · exact .inl ⟨xs, ⟨hk, by omega⟩, hj⟩
      · exact .inr h
  refine wpIn_range (C := CW) (gf := 58) (lb := #[.pointer (some ⟨Bm, 0, none⟩)]) rfl (enters_of Try.func58 (by kernel_rfl) rfl) hit
    (fun h k => h.trans k)
    (fun W l o o' hl ho hc hw => KeepsWalks.putObj _ ho hw)
    (Below.refl _ _) (fun _ => rfl)
    (fun pre W => (∃ v, (Boxed W w.heap.size 38 v ∧ OZ W w.heap.size v pre)) ∧ Below w.heap.size w W)
    (fun _ _ _ => False)
    (fun pre => Stays.and (Stays.ex fun v => Stays.and (Stays.block (.inl (by omega))) (Stays.own nocell5)) (Stays.below (Nat.le_refl _) (by omega)))
    (fun _ _ => Stays.pure _ _ _)
    ⟨⟨_, bO, World.ownsRow_nil _ _ _ _⟩, hB0⟩
    (fun x a' W => a' = { tmps := #[.slice none 0 0, .func (.func 58) #[] #[.pointer (some ⟨Bm, 0, none⟩)], .pointer (some ⟨w.heap.size, 0, none⟩), undef, .slice none 0 0, .int .u8 x, .func (.func 58) #[] #[.pointer (some ⟨Bm, 0, none⟩)], .int .u8 x, undef, undef, undef, undef, undef], defers := [] })
    (fun x a' => Stays.pure _ _ _)
    ?assign ?body ?done ?stop (fun r h => by cases h) (fun r h => by cases h)
  case assign =>
    rintro l pre x W K ⟨⟨v, hv, hw⟩, hB⟩ hK
    gi_wp2
    exact hK _ _ ((KeepsOthers.refl _).from _) (KeepsWalks.refl _) ⟨⟨v, hv, hw⟩, hB⟩ rfl
  case body =>
    rintro l pre x a' W hl ⟨r, hr⟩ ⟨⟨v, hv, hw⟩, hB⟩ rfl hlt
    have hcv := hv.cell
    have hsW := hB.size
    have hvlt := hv.lt
    clear hr
    gi_wp2_with (gi_at_builtin; refine wpListIn_app8 rfl (.tmp 8) (.tmp 10) rfl w.heap.size _ pre rfl hw _ rfl (by simp) (by omega) (by omega) ?_; intro v2 w2 hown2 hg2 hb2; obtain ⟨A2, c2', rfl⟩ := OZ.form hown2; have hv2 := (hv.alloc _).kept hg2 (hv.not_row (by decide) hw); have hc2 := hv2.cell; have hf2 := hv2.frozen)
    have hba : Below W.heap.size W (W.alloc (.cells #[.int .u8 x] 5)) := (Below.refl _ _).alloc (Nat.le_refl _) _
    have hl9 : (pre ++ [x]).length = pre.length + 1 := by simp
    have hown3 : OZ w2 w.heap.size (.slice A2 (pre.length + 1) c2') (pre ++ [x]) := by rw [← hl9]; exact hown2
    have hne : (Value.slice A2 (pre.length + 1) c2').ownBlock ≠ some w.heap.size := fun h => hv2.not_row (by decide) hown3 (by simpa using h.symm)
    have hko := (keeps_below hba).trans ((keeps_grown (hw.alloc _) hg2).trans (KeepsOthers.setCell w2 ⟨w.heap.size, 0, none⟩ (.slice A2 (pre.length + 1) c2')))
    refine ⟨hko.from _, hko.walks, ⟨⟨_, hv2.set _, ?_⟩, (hB.trans hb2).setCell (p := ⟨w.heap.size, 0, none⟩) (Nat.le_refl _) _⟩⟩
    exact hown3.kept (grownBy_setCell' w2 w.heap.size _) (.inr hne)
  case done =>
    rintro D ys W hD ⟨hys, hyl⟩ ⟨⟨v, hv, hw⟩, hB⟩ hK
    have hc := hv.cell
    have hf := hv.frozen
    obtain ⟨A2, c2', rfl⟩ := OZ.form hw
    gi_wp2
    refine ⟨by simp, .inl ⟨_, _, rfl, run_takeDeferred hK, ?_⟩⟩
    refine ⟨.slice A2 ys.length c2', by simp [results, Try.results69, go_sem], ?_⟩
    exact ⟨_, ys, rfl, hys, hyl, ownsRow_putObj hw _ hK rfl, hB.grown (grownBy_putObj' _ D _) hB.size (fun k e => by cases e; omega)⟩
  case stop =>
    rintro D c pre W _ _ h _
    exact h.elim
theorem keys41 (b : Nat) (w : World) : Calls Try.prog 41 #[.map (some b)] w fun e w' => e = .returned (.func (.func 58) #[] #[.pointer (some ⟨w.heap.size, 0, none⟩)]) ∧ w' = w.alloc (.cells #[.map (some b)] 67) := by
  go_enter Try.func41, Try.ntmps41
  go_wp2
  go_ret
  exact ⟨rfl, rfl⟩
theorem collect56 (Bm b nn : Nat) (D0 : DataW Unit) {R : Value → Option (DataW Unit × List MemPlace)} (w : World) (hsz : Maps.size D0 ≤ 1000) (hm : w.cell? ⟨Bm, 0, none⟩ = some (.map (some b))) (hown : w.ownsMap Try.prog 5 R b nn D0) :
    Calls Try.prog 56 #[.func (.func 58) #[] #[.pointer (some ⟨Bm, 0, none⟩)]] w fun e w' => ∃ v xs, e = .returned v ∧ KeysOf D0 xs ∧ xs.length ≤ 1000 ∧ OZ w' w.heap.size v xs ∧ Below w.heap.size w w' := by
  go_enter Try.func56, Try.ntmps56
  go_wp2_with (go_at_call 69; refine (append69 Bm b nn D0 w hsz hm hown).mono ?_; rintro e w1 ⟨v, xs, rfl, hk, hl, ho, hb⟩)
  go_ret
  exact ⟨v, xs, rfl, hk, hl, ho, hb⟩
end Lv
end Go.Proofs.Ytfgfichkcckhiaa
