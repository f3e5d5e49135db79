/- Words for memory: slices that read as lists of hits (four cells each). -/
import Derived.Test.YtdlcnpjdloinnaaGath
namespace Go.Proofs.Ytdlcnpjdloinnaa
open Go.RowKit
/-! ### Entries -/
structure Hit where
  word : ByteArray
  weight : Int
  gone : Bool
  dist : Int
def Hit.cells (e : Hit) : List Value := [.string e.word, .int .u32 e.weight, .bool e.gone, .int .i64 e.dist]
def hcs (es : List Hit) : List Value := es.flatMap Hit.cells
theorem hcs_length (es : List Hit) : (hcs es).length = es.length * 4 := by
  induction es with
  | nil => rfl
  | cons e es ih => simp only [hcs, List.flatMap_cons, List.length_append, List.length_cons] at ih ⊢; rw [ih]; simp [Hit.cells]; omega
theorem hcs_get (es : List Hit) (i j : Nat) (hi : i < es.length) (hj : j < 4) : (hcs es)[i * 4 + j]? = (es[i]).cells[j]? := by
  induction es generalizing i with
  | nil => simp at hi
  | cons e es ih =>
    simp only [hcs, List.flatMap_cons]
    cases i with
    | zero =>
      rw [List.getElem?_append_left (by simp [Hit.cells]; omega)]; simp
    | succ i =>
      rw [List.getElem?_append_right (by simp [Hit.cells]; omega)]
      have := ih i (by simpa using hi)
      simp only [hcs] at this
      simp only [List.getElem_cons_succ]
      rw [← this]; congr 1; simp [Hit.cells]; omega

/-- the slice value '.slice A es.length c' reads as es, below B, in a block of entries -/
structure RHs (w : World) (B : Nat) (A : Option Addr) (es : List Hit) : Prop where
  rd : Reads w B 4 A es.length (hcs es)
  ty : 0 < es.length → ∀ b off, A = some ⟨b, off, none⟩ → ∃ cs fr, w.heap[b]? = some (.cells cs 52 fr)
section
variable {w w' : World} {B B' : Nat} {A : Option Addr} {es : List Hit}
theorem RHs.nil_ : RHs w B A [] := ⟨Reads.none_, fun h => absurd h (by simp)⟩
theorem RHs.keep (h : RHs w B A es) (hk : ∀ b, b < B → w'.heap[b]? = w.heap[b]?) : RHs w' B A es :=
  ⟨h.rd.keep fun p hp => World.cell?_of_block (hk p.block hp), fun h0 b off e => by
    obtain ⟨b', off', e', hb, _⟩ := h.rd.2 h0
    rw [e] at e'
    injection e' with e'
    injection e' with e'
    subst e'
    rw [hk b hb]
    exact h.ty h0 b off e⟩
theorem RHs.more (h : RHs w B A es) (hB : B ≤ B') : RHs w B' A es := ⟨h.rd.more hB, h.ty⟩
theorem RHs.below (h : RHs w B A es) (hb : Below B w w') : RHs w' B A es := h.keep fun b hp => hb.block b hp
theorem RHs.drewN (h : RHs w B A es) (k : Nat) : RHs (w.drewN k) B A es := ⟨h.rd.drewN k, h.ty⟩
theorem RHs.alloc (h : RHs w B A es) (hB : B ≤ w.heap.size) (o : Obj) : RHs (w.alloc o) B A es := h.keep fun b hp => Below.heap_alloc w o b (by omega)
theorem RHs.setCell (h : RHs w B A es) {p : Addr} (hB : B ≤ p.block) (u : Value) : RHs (w.setCell p u) B A es := h.keep fun b hp => Below.heap_setCell w p u b (by omega)
end
theorem RHs.at_ {w : World} {B : Nat} {A : Option Addr} {es : List Hit} (h : RHs w B A es) {i : Nat} (hi : i < es.length) :
    ∃ b off, A = some ⟨b, off, none⟩ ∧ b < B ∧ w.cell? ⟨b, off + i * 4, none⟩ = some (.string (es[i]).word) ∧ w.cell? ⟨b, off + i * 4 + 1, none⟩ = some (.int .u32 (es[i]).weight) ∧
      w.cell? ⟨b, off + i * 4 + 2, none⟩ = some (.bool (es[i]).gone) ∧ w.cell? ⟨b, off + i * 4 + 3, none⟩ = some (.int .i64 (es[i]).dist) := by
  obtain ⟨b, off, e, hb, hc⟩ := h.rd.2 (by omega)
  exact ⟨b, off, e, hb, hc (i * 4) _ (by rw [← Nat.add_zero (i * 4), hcs_get es i 0 hi (by omega)]; rfl), hc (i * 4 + 1) _ (by rw [hcs_get es i 1 hi (by omega)]; rfl),
    hc (i * 4 + 2) _ (by rw [hcs_get es i 2 hi (by omega)]; rfl), hc (i * 4 + 3) _ (by rw [hcs_get es i 3 hi (by omega)]; rfl)⟩
theorem RHs.head {w : World} {B : Nat} {A : Option Addr} {e : Hit} {t : List Hit} (h : RHs w B A (e :: t)) :
    ∃ b off, A = some ⟨b, off, none⟩ ∧ b < B ∧ w.cell? ⟨b, off, none⟩ = some (.string e.word) ∧ w.cell? ⟨b, off + 1, none⟩ = some (.int .u32 e.weight) ∧ w.cell? ⟨b, off + 2, none⟩ = some (.bool e.gone) ∧ w.cell? ⟨b, off + 3, none⟩ = some (.int .i64 e.dist) := by
  obtain ⟨b, off, e1, hb, h0, h1, h2, h3⟩ := h.at_ (i := 0) (by simp)
  exact ⟨b, off, e1, hb, by simpa using h0, by simpa using h1, by simpa using h2, by simpa using h3⟩

theorem RHs.tail {w : World} {B b off : Nat} {e : Hit} {t : List Hit} (h : RHs w B (some ⟨b, off, none⟩) (e :: t)) : RHs w B (some ⟨b, off + 4, none⟩) t := by
  obtain ⟨b', off', e1, hb, hc⟩ := h.rd.2 (by simp)
  injection e1 with e1
  injection e1 with e1 e2
  subst e1
  subst e2
  refine ⟨⟨hcs_length t, fun hn => ⟨b, off + 4, rfl, hb, fun j u hu => ?_⟩⟩, fun _ b' off' e => ?_⟩
  · have := hc (4 + j) u (by rw [← hu]; simp only [hcs, List.flatMap_cons]; rw [List.getElem?_append_right (by simp [Hit.cells])]; congr 1; simp [Hit.cells])
    rwa [← Nat.add_assoc] at this
  · injection e with e
    injection e with e
    subst e
    exact h.ty (by simp) b off rfl

abbrev OHs (w : World) (B : Nat) (v : Value) (es : List Hit) : Prop := w.ownsRow B 52 4 v es.length (hcs es)
theorem info52 : (Try.prog.info? 52).map (fun i => (i.zero, i.size, i.bytes)) = some (some (.agg #[.string ⟨#[]⟩, .int .u32 0, .bool false, .int .i64 0]), 4, 32) := by kernel_rfl
theorem hcs_append (a b : List Hit) : hcs (a ++ b) = hcs a ++ hcs b := by simp [hcs]

theorem news_hit (W : World) (wd : ByteArray) (wt : Int) (gn : Bool) (ds : Int) : ∀ j u, [Value.string wd, .int .u32 wt, .bool gn, .int .i64 ds][j]? = some u →
    (W.alloc (.cells #[.string wd, .int .u32 wt, .bool gn, .int .i64 ds] 52)).cell? ((⟨W.heap.size, 0, none⟩ : Addr).add j) = some u := by
  intro j u hu
  have hj : j < 4 := by
    rcases Nat.lt_or_ge j 4 with hlt | hge
    · exact hlt
    · rw [List.getElem?_eq_none (by simpa using hge)] at hu; cases hu
  have hc : ∀ i, (W.alloc (.cells #[.string wd, .int .u32 wt, .bool gn, .int .i64 ds] 52)).cell? ⟨W.heap.size, i, none⟩ = (#[.string wd, .int .u32 wt, .bool gn, .int .i64 ds] : Array Value)[i]? :=
    fun i => cell_of_row _ _ i _ 52 (0, 0) (heap_alloc_new W _)
  have ha : (⟨W.heap.size, 0, none⟩ : Addr).add j = ⟨W.heap.size, j, none⟩ := by unfold Addr.add; split <;> simp_all
  rw [ha, hc, ← hu]
  match j, hj with
  | 0, _ => rfl
  | 1, _ => rfl
  | 2, _ => rfl
  | 3, _ => rfl

theorem wpList_append_hit {ops : Array Oper} {rest : List Oper} {o : Oper} {a : Act} {Q : Exit → Act → World → Prop} {W : World} {wd : ByteArray} {wt : Int} {gn : Bool} {ds : Int}
    (hgd : o.guard = none) (s x : Operand) (ho : o.op = .call { callee := .builtin .append, args := #[s, x], argTypes := #[41, 41] })
    (base : Nat) (v : Value) (es : List Hit) (hs : a.eval s = v) (hown : OHs W base v es) (g : Nat) (hx : a.eval x = .slice (some ⟨g, 0, none⟩) 1 1) (hgW : g = W.heap.size)
    (hl : es.length ≤ 1000000000) (hbase : base ≤ W.heap.size)
    (h : ∀ v' w', OHs w' base v' (es ++ [⟨wd, wt, gn, ds⟩]) → (W.alloc (.cells #[.string wd, .int .u32 wt, .bool gn, .int .i64 ds] 52)).grownBy w' v.ownBlock → Below base W w' → wpList Try.prog ops Q rest (a.put o.dst v') w') :
    wpList Try.prog ops Q (o :: rest) a (W.alloc (.cells #[.string wd, .int .u32 wt, .bool gn, .int .i64 ds] 52)) := by
  obtain ⟨i0, hi, hz0, hz1, hz2⟩ := info_parts info52
  subst hgW
  refine wpList_append_own _ hgd s x 41 ho base 52 i0 _ 4 32 Try.underlying41 hi hz0 hz1 hz2 rfl (by decide) v es.length (hcs es) hs (hown.alloc _) ⟨W.heap.size, 0, none⟩ 1 1 [.string wd, .int .u32 wt, .bool gn, .int .i64 ds] hx rfl ?_ ?_ ?_ ?_ (by simp; omega) ?_
  · exact news_hit W wd wt gn ds
  · intro u hu; simp at hu; rcases hu with rfl | rfl | rfl | rfl <;> rfl
  · unfold maxLen; omega
  · omega
  · intro v' w' ho' hg' _
    refine h v' w' ?_ hg' ?_
    · have e1 : hcs [(⟨wd, wt, gn, ds⟩ : Hit)] = [.string wd, .int .u32 wt, .bool gn, .int .i64 ds] := rfl
      unfold OHs; rw [hcs_append, e1]; simpa using ho'
    · exact ((Below.refl base W).alloc hbase _).grown hg' (by simp; omega) (fun k hk => (hown.lt k hk).1)

theorem hcs_one (es : List Hit) : ∀ u ∈ hcs es, u.oneCell' = true := by
  intro u hu
  simp only [hcs, List.mem_flatMap] at hu
  obtain ⟨e, _, hu⟩ := hu
  simp [Hit.cells] at hu
  rcases hu with rfl | rfl | rfl | rfl <;> rfl

/-- a result that is a list of entries -/
def RetHs (w : World) (es : List Hit) (e : Ending) (w' : World) : Prop :=
  ∃ A c, e = .returned (.slice A es.length c) ∧ es.length ≤ c ∧ RHs w' w'.heap.size A es ∧ Below w.heap.size w w'
theorem OHs.form {w : World} {B : Nat} {v : Value} {es : List Hit} (h : OHs w B v es) : ∃ A c, v = .slice A es.length c ∧ es.length ≤ c ∧ RHs w w.heap.size A es := by
  rcases h.2 with ⟨rfl, h0⟩ | ⟨g, cap, cur, rfl, _, hh, hc, _⟩
  · obtain rfl : es = [] := List.eq_nil_of_length_eq_zero h0
    exact ⟨none, 0, rfl, by simp, RHs.nil_⟩
  · exact ⟨_, _, rfl, hc, Reads.of_own h, fun _ b off e => by injection e with e; injection e with e; subst e; exact ⟨_, _, hh⟩⟩
theorem RetHs.from {w w1 w2 : World} {es : List Hit} {e : Ending} (h : RetHs w1 es e w2) (hb : Below w.heap.size w w1) : RetHs w es e w2 := by
  obtain ⟨A, c, h1, h2, h3, h4⟩ := h
  exact ⟨A, c, h1, h2, h3, hb.trans (h4.mono hb.size)⟩
theorem ret_hs {w wr : World} {B : Nat} {v : Value} {es : List Hit} (h : OHs wr B v es) (hb : Below w.heap.size w wr) : RetHs w es (.returned v) wr := by
  obtain ⟨A, c, rfl, hc, hR⟩ := OHs.form h
  exact ⟨A, c, rfl, hc, hR, hb⟩
def Hit.agg (e : Hit) : Value := .agg #[.string e.word, .int .u32 e.weight, .bool e.gone, .int .i64 e.dist]
def Hit.ent (e : Hit) : Ent := ⟨e.word, e.weight, e.gone⟩
abbrev Hit.key (e : Hit) : List UInt8 := e.word.toList
end Go.Proofs.Ytdlcnpjdloinnaa
