/- merge.gathered and merge.Lists at entries: what they return, for lists that lie in memory. -/
import Derived.Test.YtdlcnpjdloinnaaTog2
import Derived.Test.YtdlcnpjdloinnaaEnts
namespace Go.Proofs.Ytdlcnpjdloinnaa
open Go.RowKit Go.Shelf
attribute [local go_sem] Oper.semAt_some

theorem wpListIn_append_ent {F : Fence} {n : Nat} {ops : Array Oper} {rest : List Oper} {o : Oper} {a : Act} {Q : Exit → Act → World → Prop} {W : World} {wd : ByteArray} {wt : Int} {gn : Bool}
    (hgd : o.guard = none) (s x : Operand) (ho : o.op = .call { callee := .builtin .append, args := #[s, x], argTypes := #[26, 26] })
    (base : Nat) (v : Value) (es : List Ent) (hs : a.eval s = v) (hown : OEs W base v es) (g : Nat) (hx : a.eval x = .slice (some ⟨g, 0, none⟩) 1 1) (hgW : g = W.heap.size)
    (hl : es.length ≤ 1000000000) (hbase : base ≤ W.heap.size)
    (h : ∀ v' w', OEs w' base v' (es ++ [⟨wd, wt, gn⟩]) → (W.alloc (.cells #[.string wd, .int .u32 wt, .bool gn] 31)).grownBy w' v.ownBlock → Below base W w' → wpListIn F n Try.prog ops Q rest (a.put o.dst v') w') :
    wpListIn F n Try.prog ops Q (o :: rest) a (W.alloc (.cells #[.string wd, .int .u32 wt, .bool gn] 31)) := by
  obtain ⟨i0, hi, hz0, hz1, hz2⟩ := info_parts info31
  subst hgW
  refine wpListIn_append_own _ hgd s x 26 ho base 31 i0 _ 3 24 Try.underlying26 hi hz0 hz1 hz2 rfl (by decide) v es.length (ecs es) hs (hown.alloc _) ⟨W.heap.size, 0, none⟩ 1 1 [.string wd, .int .u32 wt, .bool gn] hx rfl ?_ ?_ ?_ ?_ (by simp; omega) ?_
  · exact news_ent W wd wt gn
  · intro u hu; simp at hu; rcases hu with rfl | rfl | rfl <;> rfl
  · unfold maxLen; omega
  · omega
  · intro v' w' ho' hg' _
    refine h v' w' ?_ hg' ?_
    · have e1 : ecs [(⟨wd, wt, gn⟩ : Ent)] = [.string wd, .int .u32 wt, .bool gn] := rfl
      unfold OEs; rw [ecs_append, e1]; simpa using ho'
    · exact ((Below.refl base W).alloc hbase _).grown hg' (by simp; omega) (fun k hk => (hown.lt k hk).1)

theorem beside31 (cur : Array Value) : ¬ Beside CRow (.cells cur 31 (0, 0)) := by
  rintro (h | ⟨c, fr, h⟩)
  · cases h
  · injection h with _ h; cases h

theorem KpR.trans {C : Obj → Prop} {n₀ n₁ : Nat} {X Y Z : World} (h : KpR C n₀ n₁ X Y) (k : KpR C n₀ n₁ Y Z) : KpR C n₀ n₁ X Z :=
  ⟨h.1.trans k.1, fun r o h1 h2 h3 => k.2 r o h1 (h.2 r o h1 h2 h3) h3⟩
theorem kpr_below {C : Obj → Prop} {n₀ n₁ : Nat} {W W' : World} (hb : Below W.heap.size W W') (hn : n₀ ≤ W.heap.size) : KpR C n₀ n₁ W W' :=
  ⟨hb.mono hn, fun r _o _ h2 _ => (hb.block r (Array.getElem?_eq_some_iff.1 h2).1).trans h2⟩
theorem kpr_grown {C : Obj → Prop} {n₀ n₁ base : Nat} {W W' : World} {e : TypeId} {size k : Nat} {v : Value} {xs : List Value} (hC : ∀ cur, ¬ C (.cells cur e (0, 0))) (hown : W.ownsRow base e size v k xs) (hg : W.grownBy W' v.ownBlock)
    (hb : n₀ ≤ base) (hn : n₀ ≤ W.heap.size) : KpR C n₀ n₁ W W' := by
  refine ⟨(Below.refl _ W).grown hg hn (fun k hk => Nat.le_trans hb (hown.lt k hk).1), fun r o _ h2 h3 => ?_⟩
  refine (hg.block r (Array.getElem?_eq_some_iff.1 h2).1 (fun he => ?_)).trans h2
  rcases hown.2 with ⟨rfl, _⟩ | ⟨g, cap, cur, rfl, _, hgb, _⟩
  · simp [Value.ownBlock] at he
  · simp [Value.ownBlock] at he
    subst he
    rw [hgb] at h2
    cases h2
    exact hC _ h3
theorem kpr_set {C : Obj → Prop} {n₀ n₁ b i : Nat} {W : World} (h0 : n₀ ≤ b) (h1 : b < n₁) (u : Value) : KpR C n₀ n₁ W (W.setCell ⟨b, i, none⟩ u) :=
  ⟨(Below.refl _ W).setCell (p := ⟨b, i, none⟩) h0 u, fun r o hr h2 _ => (Below.heap_setCell W ⟨b, i, none⟩ u r (by show r ≠ b; omega)).trans h2⟩
theorem keeps_below {W W' : World} (hb : Below W.heap.size W W') : KeepsOthers W W' := ⟨hb.size, fun k _o h _ => (hb.block k (Array.getElem?_eq_some_iff.1 h).1).trans h⟩
theorem keeps_grown {base : Nat} {W W' : World} {e : TypeId} {size k : Nat} {v : Value} {xs : List Value} (hown : W.ownsRow base e size v k xs) (hg : W.grownBy W' v.ownBlock) : KeepsOthers W W' := by
  refine KeepsOthers.of_grownBy hg (fun j o he ho => ?_)
  rcases hown.2 with ⟨rfl, _⟩ | ⟨g, cap, cur, rfl, _, hgb, _⟩
  · simp [Value.ownBlock] at he
  · simp [Value.ownBlock] at he
    subst he
    rw [hgb] at ho
    cases ho
    rfl
theorem crow31 (cur : Array Value) : ¬ CRow (.cells cur 31 (0, 0)) := fun h => beside31 cur (.inr h)

set_option maxRecDepth 100000 in
set_option maxHeartbeats 2000000 in
theorem gathered_any (n g : Nat) (lb : Array Value) (eg : ∀ args w, (callFunc g args).run Try.prog w = .ok (.enter g args) w) (xs : List Ent) (w : World) (hn : 6 ≤ n) (hlen : xs.length ≤ 10000000)
    (hit : ∀ n₁ w1, n₁ ≤ w1.heap.size → w.heap.size ≤ n₁ → Below w.heap.size w w1 → Iter (n - 1) Try.prog CRow g lb (fun e : Ent => #[e.agg]) (KpR CRow w.heap.size n₁) (fun ys => ys = xs) (fun pre => pre <+: xs) xs.length w1) :
    Calls Try.prog 29 #[.func (.func g) #[] lb, .func (.func 30) #[] #[]] w (RetEs w xs) := by
  refine (callsIn_wide (n := n)).1 ?_
  refine callsIn_of_wp_marks Try.func29 rfl trivial ?_ rfl
  simp only [Try.ntmps29, List.size_toArray, List.length_cons, List.length_nil, Nat.reduceAdd, Nat.reduceSub, Array.replicate_succ, Array.replicate_zero, List.push_toArray, List.append_toArray, List.nil_append, List.cons_append]
  gi_wp2
  have bR := Boxed.new w 62 (.func (.func 30) #[] #[])
  have bO := Boxed.new (w.alloc (.cells #[.func (.func 30) #[] #[]] 62)) 26 (.slice none 0 0)
  rw [World.size_alloc] at bO
  replace bR := bR.alloc (.cells #[.slice none 0 0] 26)
  have hB0 : Below w.heap.size w ((w.alloc (.cells #[.func (.func 30) #[] #[]] 62)).alloc (.cells #[.slice none 0 0] 26)) := ((Below.refl _ w).alloc (Nat.le_refl _) _).alloc (by simp) _
  have hsz : ((w.alloc (.cells #[.func (.func 30) #[] #[]] 62)).alloc (.cells #[.slice none 0 0] 26)).heap.size = w.heap.size + 2 := by simp
  obtain ⟨W0, hW0⟩ : ∃ W0, (w.alloc (.cells #[.func (.func 30) #[] #[]] 62)).alloc (.cells #[.slice none 0 0] 26) = W0 := ⟨_, rfl⟩
  rw [hW0] at bR bO hB0 hsz ⊢
  clear hW0
  refine wpIn_range (C := CRow) (gf := g) (lb := lb) rfl eg (hit W0.heap.size W0 (Nat.le_refl _) (by omega) hB0)
    (fun h k => ⟨h.1.trans k.1, fun r o h1 h2 h3 => k.2 r o h1 (h.2 r o h1 h2 h3) h3⟩)
    (fun W l o o' hl ho hc hw => ⟨(Below.refl _ W).grown (grownBy_putObj' W l o') (by have := (Array.getElem?_eq_some_iff.1 ho).1; omega) (fun k e => by cases e; omega), fun r o2 h1 h2 h3 => by
      rw [World.putObj_heap_other (fun e => ?_)]
      · exact h2
      · subst e; rw [ho] at h2; injection h2 with h2; subst h2; obtain ⟨c, fr, rfl⟩ := h3; cases hc⟩)
    (Below.refl _ _) (fun _ => rfl)
    (fun pre W => (∃ v, (Boxed W (w.heap.size + 1) 26 v ∧ OEs W w.heap.size v pre)) ∧ (Boxed W w.heap.size 62 (.func (.func 30) #[] #[]) ∧ Below w.heap.size w W))
    (fun _ _ _ => False)
    (fun pre => Stays.and (Stays.ex fun v => Stays.and (Stays.block (.inl (by omega))) (Stays.own beside31)) (Stays.and (Stays.block (.inl (by omega))) (Stays.below (Nat.le_refl _) (by omega))))
    (fun _ _ => Stays.pure _ _ _)
    ⟨⟨_, bO, World.ownsRow_nil _ _ _ _⟩, bR, hB0⟩
    (fun x a' W => ∃ Bx, (W.heap[Bx]? = some (.cells #[.string x.word, .int .u32 x.weight, .bool x.gone] 31 (0, 0)) ∧ (W0.heap.size ≤ Bx ∧ a' = { tmps := #[.func (.func g) #[] lb, .func (.func 30) #[] #[], undef, .pointer (some ⟨w.heap.size, 0, none⟩), .pointer (some ⟨w.heap.size + 1, 0, none⟩), .pointer (some ⟨Bx, 0, none⟩), .func (.func g) #[] lb, x.agg, undef, undef, undef, undef, undef, undef, undef, undef], defers := [] })))
    (fun x a' => Stays.ex fun Bx => Stays.and (Stays.block (.inr (beside31 _))) (Stays.pure _ _ _))
    ?assign ?body ?done ?stop (fun r h => by obtain ⟨c, fr, h⟩ := h; cases h) (fun r h => by obtain ⟨c, fr, h⟩ := h; cases h)
  case assign =>
    rintro l pre x W K ⟨⟨v, hv, hown⟩, hr, hB⟩ hK
    simp only [Ent.agg]
    gi_wp2
    have hb1 : Below W.heap.size W (W.alloc (.cells #[.string x.word, .int .u32 x.weight, .bool x.gone] 31)) := (Below.refl _ W).alloc (Nat.le_refl _) _
    have hsW := hB.size
    have hlt := hr.lt
    have hlt2 := hv.lt
    exact hK _ _ ((keeps_below hb1).from _) (kpr_below hb1 hsW) ⟨⟨v, hv.alloc _, hown.alloc _⟩, hr.alloc _, hB.alloc hsW _⟩
      ⟨W.heap.size, heap_alloc_new W _, by rw [hsz]; omega, rfl⟩
  case body =>
    rintro l pre x a' W hl ⟨r, hr⟩ ⟨⟨v, hv, hown⟩, hR, hB⟩ ⟨Bx, hbx, hBx, rfl⟩ hlt
    have hcR := hR.cell
    obtain ⟨c0, c1, c2⟩ := box3_cells hbx
    have hBxlt : Bx < W.heap.size := (Array.getElem?_eq_some_iff.1 hbx).1
    have hvlt := hv.lt
    have hsW := hB.size
    have hn1 : 1 ≤ n - 1 - 1 := by omega
    have hpl : pre.length ≤ 10000000 := by omega
    clear hbx hr
    gi_wp2_with (first
      | (refine ⟨trivial, ?_⟩; gi_at_call 30; refine (CallsIn.inRound l (callsIn_wide.2 (right_any _ _ ⟨_, _, _, rfl⟩))).mono ?_; rintro e w1 ⟨rfl, hb1⟩; have hk1 := (bcell hb1).1; have d0 := (hk1 Bx 0 hBxlt).trans c0; have d1 := (hk1 Bx 1 hBxlt).trans c1; have d2 := (hk1 Bx 2 hBxlt).trans c2; have hv1 : Boxed w1 (w.heap.size + 1) 26 v := (hb1.block _ hvlt).trans hv; have hcv := hv1.cell; have hown1 := own_below hown hb1; have hsz1 := hb1.size; clear hk1)
      | (gi_at_builtin; refine wpListIn_append_ent rfl (.tmp 11) (.tmp 13) rfl w.heap.size _ pre rfl hown1 _ rfl (by simp) (by omega) (by omega) ?_; intro v2 w2 hown2 hg2 hb2; obtain ⟨A2, c2', rfl, -, -⟩ := OEs.form hown2; have hv2 := (hv1.alloc _).kept hg2 (hv1.not_row (by decide) hown1); have hc2 := hv2.cell; have hf2 := hv2.frozen))
    have hg2' : (w1.alloc (.cells #[.string x.word, .int .u32 x.weight, .bool x.gone] 31)).grownBy w2 v.ownBlock := hg2
    have hba : Below w1.heap.size w1 (w1.alloc (.cells #[.string x.word, .int .u32 x.weight, .bool x.gone] 31)) := (Below.refl _ _).alloc (Nat.le_refl _) _
    have hne : (Value.slice A2 (pre.length + 1) c2').ownBlock ≠ some (w.heap.size + 1) := fun h => hv2.not_row (by decide) hown2 (by simpa using h.symm)
    have hR1 : Boxed w1 w.heap.size 62 (.func (.func 30) #[] #[]) := (hb1.block _ (by omega)).trans hR
    have hR2 := (hR1.alloc (.cells #[.string x.word, .int .u32 x.weight, .bool x.gone] 31)).kept hg2' (hR1.not_row (by decide) hown1)
    have hB2 : Below w.heap.size w w2 := (hB.trans (hb1.mono hsW)).trans hb2
    refine ⟨((keeps_below hb1).trans ((keeps_below hba).trans ((keeps_grown (hown1.alloc _) hg2').trans (KeepsOthers.setCell _ _ _)))).from _, ?_, ⟨⟨_, hv2.set _, ?_⟩, hR2.other (by omega) _, hB2.setCell (p := ⟨w.heap.size + 1, 0, none⟩) (by show w.heap.size ≤ w.heap.size + 1; omega) _⟩⟩
    · exact (kpr_below hb1 hsW).trans ((kpr_below hba (by omega)).trans ((kpr_grown crow31 (hown1.alloc _) hg2' (Nat.le_refl _) (by simp; omega)).trans (kpr_set (by omega) (by omega) _)))
    · have h3 : OEs w2 w.heap.size (.slice A2 (pre.length + 1) c2') (pre ++ [x]) := by simpa using hown2
      exact h3.kept (grownBy_setCell' w2 (w.heap.size + 1) _) (.inr hne)
  case done =>
    rintro D ys W hD rfl ⟨⟨v, hv, hown⟩, hR, hB⟩ hK
    have hc := hv.cell
    have hf := hv.frozen
    obtain ⟨A2, c2', rfl, hcc, hrd⟩ := OEs.form hown
    gi_wp2
    have hDne : D ≠ w.heap.size + 1 := by omega
    have hK2 : (W.setCell ⟨w.heap.size + 1, 0, none⟩ (.slice A2 ys.length c2')).heap[D]? = some (.deferred (some [])) := (Below.heap_setCell _ _ _ _ hDne).trans hK
    have hv3 := hv.set (.slice A2 ys.length c2')
    have hne : (Value.slice A2 ys.length c2').ownBlock ≠ some (w.heap.size + 1) := fun h => hv.not_row (by decide) hown h.symm
    have hown3 : OEs (W.setCell ⟨w.heap.size + 1, 0, none⟩ (.slice A2 ys.length c2')) w.heap.size (.slice A2 ys.length c2') ys := hown.kept (grownBy_setCell' W (w.heap.size + 1) _) (.inr hne)
    have hB3 := hB.setCell (p := ⟨w.heap.size + 1, 0, none⟩) (by show w.heap.size ≤ w.heap.size + 1; omega) (.slice A2 ys.length c2')
    have hsW := hB3.size
    refine ⟨by simp, .inl ⟨_, _, rfl, run_takeDeferred hK2, ?_⟩⟩
    have hv4 : Boxed ((W.setCell ⟨w.heap.size + 1, 0, none⟩ (.slice A2 ys.length c2')).putObj D (.deferred none)) (w.heap.size + 1) 26 (.slice A2 ys.length c2') := (World.putObj_heap_other (Ne.symm hDne)).trans hv3
    have hc4 := hv4.cell
    refine ⟨.slice A2 ys.length c2', by simp [results, Try.results29, go_sem, hc4], ?_⟩
    exact ret_es (ownsRow_putObj hown3 _ hK2 rfl) (hB3.grown (grownBy_putObj' _ D _) (by omega) (fun k e => by cases e; omega))
  case stop =>
    rintro D c pre W _ _ h _
    exact h.elim

theorem together_any (A : Option Addr) (n c : Nat) (w : World) :
    Calls Try.prog 27 #[.func (.func 28) #[] #[], .slice A n c] w fun e w' => e = .returned (.func (.func 40) #[] #[.pointer (some ⟨w.heap.size + 1, 0, none⟩), .pointer (some ⟨w.heap.size, 0, none⟩)]) ∧
      (w.alloc (.cells #[.func (.func 28) #[] #[]] 60)).alloc (.cells #[.slice A n c] 24) = w' := by
  go_enter Try.func27, Try.ntmps27
  go_wp2
  go_ret
  exact ⟨rfl, rfl⟩

set_option maxHeartbeats 1000000 in
theorem lists_any (A : Option Addr) (c : Nat) (L : List (List Ent)) (w : World) (hlen : L.length ≤ 1000000) (hlens : ∀ l ∈ L, l.length ≤ 1000000) (htot : total L ≤ 10000000) (hL : RLs w w.heap.size A L) :
    Calls Try.prog 11 #[.slice A L.length c] w (RetEs w (togE L)) := by
  go_enter Try.func11, Try.ntmps11
  go_wp2_with (go_at_call 27; refine (together_any _ _ _ _).mono ?_; rintro e w1 ⟨rfl, hw1⟩)
  subst hw1
  have hb1 : Below w.heap.size w ((w.alloc (.cells #[.func (.func 28) #[] #[]] 60)).alloc (.cells #[.slice A L.length c] 24)) := ((Below.refl _ w).alloc (Nat.le_refl _) _).alloc (by simp) _
  have c0 : ((w.alloc (.cells #[.func (.func 28) #[] #[]] 60)).alloc (.cells #[.slice A L.length c] 24)).cell? ⟨w.heap.size, 0, none⟩ = some (.func (.func 28) #[] #[]) := ((Boxed.new w 60 _).alloc _).cell
  have c1 : ((w.alloc (.cells #[.func (.func 28) #[] #[]] 60)).alloc (.cells #[.slice A L.length c] 24)).cell? ⟨w.heap.size + 1, 0, none⟩ = some (.slice A L.length c) := by
    have := (Boxed.new (w.alloc (.cells #[.func (.func 28) #[] #[]] 60)) 24 (.slice A L.length c)).cell
    rwa [World.size_alloc] at this
  have hsz : ((w.alloc (.cells #[.func (.func 28) #[] #[]] 60)).alloc (.cells #[.slice A L.length c] 24)).heap.size = w.heap.size + 2 := by simp
  have hL1 := hL.below hb1
  generalize (w.alloc (.cells #[.func (.func 28) #[] #[]] 60)).alloc (.cells #[.slice A L.length c] 24) = w1 at *
  go_wp2_with (go_at_call 29; refine (gathered_any 8 40 #[.pointer (some ⟨w.heap.size + 1, 0, none⟩), .pointer (some ⟨w.heap.size, 0, none⟩)] (enters_of Try.func40 (by kernel_rfl) rfl) (togE L) w1 (by omega) (Nat.le_trans (togE_length L) htot) ?_).mono ?_)
  · intro n₁ wx h1 h2 h3 l J Jx W hW hJ hJx hY h0
    have hbW : Below w1.heap.size w1 W := h3.trans (hW.mono h3.size)
    exact tog_walk 6 l (w.heap.size + 1) w.heap.size w1.heap.size n₁ A c L J Jx W hY hJ h2 (by have := hW.size; omega) hlen hlens (((bcell hbW).1 _ _ (by omega)).trans c1)
      (((bcell hbW).1 _ _ (by omega)).trans c0) (by omega) (by omega) ((hL1.more (by omega)).below hbW) h0
  · rintro e w2 hret
    obtain ⟨A2, c2, rfl, hc2, hr2, hb2⟩ := hret
    go_wp2
    go_ret
    exact ⟨A2, c2, rfl, hc2, hr2, hb1.trans (hb2.mono (by omega))⟩

set_option maxHeartbeats 1000000 in
theorem bottom_any (A : Option Addr) (c : Nat) (L : List (List Ent)) (w : World) (hlen : L.length ≤ 1000000) (hlens : ∀ l ∈ L, l.length ≤ 1000000) (htot : total L ≤ 1000000) (hL : RLs w w.heap.size A L) :
    Calls Try.prog 15 #[.slice A L.length c] w (RetEs w (liveE (togE L))) := by
  have hlr := togE_length L
  go_enter Try.func15, Try.ntmps15
  go_wp2_with (first
    | (go_at_call 11; refine (lists_any A c L w hlen hlens (by omega) hL).mono ?_; rintro e w1 ⟨A1, c1, rfl, hc1, hr1, hb1⟩)
    | (go_at_call 32; refine (live_any (togE L) A1 c1 w1 (by omega) hr1).mono ?_; rintro e w2 ⟨A2, c2, rfl, hc2, hr2, hb2⟩))
  go_ret
  exact ⟨A2, c2, rfl, hc2, hr2, hb1.trans (hb2.mono hb1.size)⟩
end Go.Proofs.Ytdlcnpjdloinnaa
