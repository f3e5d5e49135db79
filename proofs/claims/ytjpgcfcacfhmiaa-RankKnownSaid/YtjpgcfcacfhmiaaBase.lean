/- Words for memory: slices that read as lists of hits (no condition). -/
import Derived.Test.YtjpgcfcacfhmiaaRows
import Derived.WalkKit
import Derived.WalkSpells
import Derived.WalkLawsBesides
import Derived.Deep.AppendLies
import Derived.Deep.Draws
import Derived.Deep.QuietTactic
import Derived.BigQuiet
import Derived.Lib.Hide
import Derived.Laws.OwnMore
import Derived.Deep.DeepCutAuto
import Derived.Deep.CutRange
import Derived.Deep.Light
import Derived.Deep.CutBlock
import Derived.Laws.AppendOwnNone
namespace Go.Proofs.Ytjpgcfcacfhmiaa
open Go.RowKit
set_option linter.unusedSimpArgs false
set_option linter.unusedVariables false
set_option linter.unnecessarySimpa false

theorem block_of_add (a : Addr) (n : Nat) : (a.add n).block = a.block := by unfold Addr.add; split <;> rfl
theorem add_of_add (a : Addr) (i j : Nat) : (a.add i).add j = a.add (i + j) := by
  unfold Addr.add
  by_cases hi : i = 0 <;> by_cases hj : j = 0 <;> simp [hi, hj, Nat.add_assoc]

/-- The slice value '.slice A n c' holds the cells xs ('size' cells an element) and lies below block B. -/
def Reads (w : World) (B size : Nat) (A : Option Addr) (n : Nat) (xs : List Value) : Prop :=
  xs.length = n * size ∧ (0 < n → ∃ b off, A = some ⟨b, off, none⟩ ∧ b < B ∧ ∀ j u, xs[j]? = some u → w.cell? ⟨b, off + j, none⟩ = some u)

section
variable {w w' : World} {B B' size n : Nat} {A : Option Addr} {xs : List Value}
theorem Reads.none_ : Reads w B size A 0 [] := ⟨by simp, fun h => absurd h (by omega)⟩
theorem Reads.keep (h : Reads w B size A n xs) (hk : ∀ p : Addr, p.block < B → w'.cell? p = w.cell? p) : Reads w' B size A n xs :=
  ⟨h.1, fun hn => by
    obtain ⟨b, off, e, hb, hc⟩ := h.2 hn
    exact ⟨b, off, e, hb, fun j u hu => (hk _ hb).trans (hc j u hu)⟩⟩
theorem Reads.more (h : Reads w B size A n xs) (hB : B ≤ B') : Reads w B' size A n xs :=
  ⟨h.1, fun hn => by
    obtain ⟨b, off, e, hb, hc⟩ := h.2 hn
    exact ⟨b, off, e, by omega, hc⟩⟩
theorem Reads.below (h : Reads w B size A n xs) (hb : Below B w w') : Reads w' B size A n xs := h.keep fun _ hp => hb.cell hp
theorem Reads.drew (h : Reads w B size A n xs) : Reads w.drew B size A n xs := h
theorem Reads.drewN (h : Reads w B size A n xs) (k : Nat) : Reads (w.drewN k) B size A n xs := h
theorem Reads.alloc (h : Reads w B size A n xs) (hB : B ≤ w.heap.size) (o : Obj) : Reads (w.alloc o) B size A n xs := h.keep fun p hp => World.cell?_alloc_lt w o p (by omega)
theorem Reads.setCell (h : Reads w B size A n xs) {p : Addr} (hB : B ≤ p.block) (u : Value) : Reads (w.setCell p u) B size A n xs :=
  h.keep fun q hq => World.cell?_setCell_other w p q u (fun e => by subst e; omega)
theorem Reads.grown (h : Reads w B size A n xs) {row : Option Nat} (hg : w.grownBy w' row) (hB : B ≤ w.heap.size) (hr : ∀ g, row = some g → B ≤ g) : Reads w' B size A n xs :=
  h.keep fun p hp => World.cell?_of_block (hg.block p.block (by omega) (fun e => by have := hr _ e.symm; omega))
theorem Reads.of_own {base : Nat} {e : TypeId} {c : Nat} (h : w.ownsRow base e size (.slice A n c) n xs) : Reads w w.heap.size size A n xs := by
  refine ⟨h.1, fun hn => ?_⟩
  obtain ⟨g, cap, hv, _, hlt⟩ := h.form hn
  have hA : A = some ⟨g, 0, none⟩ := by injection hv
  subst hA
  refine ⟨g, 0, rfl, hlt, fun j u hu => ?_⟩
  have := h.cells (g := g) rfl j u hu
  unfold Addr.add at this
  split at this
  · rename_i h0; subst h0; exact this
  · simpa using this
end

theorem below_left {B : Nat} {w w' : World} {n : Nat} (h : Below B (w.drewN n) w') : Below B w w' := ⟨h.os, h.tape, h.output, h.size, h.block⟩
theorem below_right {B : Nat} {w w' : World} (h : Below B w w') (n : Nat) : Below B w (w'.drewN n) := ⟨h.os, h.tape, h.output, h.size, h.block⟩
theorem bcell {W w1 : World} {B : Nat} (hb : Below B W w1) : (∀ b o, b < B → w1.cell? ⟨b, o, none⟩ = W.cell? ⟨b, o, none⟩) ∧ (∀ b o, b < B → w1.frozen? ⟨b, o, none⟩ = W.frozen? ⟨b, o, none⟩) :=
  ⟨fun b o h => hb.cell (p := ⟨b, o, none⟩) h, fun b o h => hb.frozen (p := ⟨b, o, none⟩) h⟩

theorem grown_of_below {w w' : World} (hb : Below w.heap.size w w') (row : Option Nat) : w.grownBy w' row := ⟨hb.os, hb.tape, hb.output, hb.size, fun k hk _ => hb.block k hk⟩
theorem own_below {w w' : World} {base : Nat} {e : TypeId} {size : Nat} {v : Value} {n : Nat} {xs : List Value} (h : w.ownsRow base e size v n xs) (hb : Below w.heap.size w w') : w'.ownsRow base e size v n xs := by
  rcases hv : v.ownBlock with _ | k
  · exact h.kept (grown_of_below hb none) (.inl hv)
  · exact h.kept (grown_of_below hb none) (.inr (by rw [hv]; simp))
theorem run_append_nil {P : Program} {w : World} (base : Nat) (t ty e : TypeId) (i : TypeInfo) (size : Nat) (ht : P.underlying t = some (.slice e)) (hi : P.info? e = some i)
    (v : Value) (n : Nat) (xs : List Value) (hown : w.ownsRow base e size v n xs) (c : Nat) : (Builtin.append_ #[t, t] ty #[v, .slice none 0 c]).run P w = .ok v w := by
  rcases hown.2 with ⟨rfl, rfl⟩ | ⟨g, cap, cur, rfl, _, _, hnc, _⟩
  · simp [Builtin.append_, run_underlying ht, sizeOf, typeInfo, hi, Builtin.lenOf, Builtin.firstCells]
  · simp [Builtin.append_, run_underlying ht, sizeOf, typeInfo, hi, Builtin.lenOf, Builtin.firstCells, hnc, storeCells]
/-- append of a whole slice, nil or not, onto a row of the call's own -/
theorem wpList_append_reads {P : Program} {ops : Array Oper} {rest : List Oper} {o : Oper} {a : Act} {Q : Exit → Act → World → Prop} {w : World}
    (hgd : o.guard = none) (s x : Operand) (t : TypeId) (ho : o.op = .call { callee := .builtin .append, args := #[s, x], argTypes := #[t, t] })
    (base : Nat) (e : TypeId) (i : TypeInfo) (z : Value) (size bytes : Nat) (ht : P.underlying t = some (.slice e)) (hi : P.info? e = some i) (hz : i.zero = some z)
    (hsize : i.size = size) (hby : i.bytes = bytes) (hzs : z.cells.size = size) (hsz : 0 < size)
    (v : Value) (n : Nat) (xs : List Value) (hs : a.eval s = v) (hown : w.ownsRow base e size v n xs)
    (B : Nat) (A : Option Addr) (m c : Nat) (news : List Value) (hx : a.eval x = .slice A m c) (hr : Reads w B size A m news) (h1 : ∀ u ∈ news, u.oneCell' = true)
    (h63 : n + m ≤ maxLen) (hbytes : (n + m) * bytes ≤ 140737488355328) (hbase : base ≤ w.heap.size)
    (h : ∀ v' w', w'.ownsRow base e size v' (n + m) (xs ++ news) → w.grownBy w' v.ownBlock → Below base w w' → wpList P ops Q rest (a.put o.dst v') w') : wpList P ops Q (o :: rest) a w := by
  rcases Nat.eq_zero_or_pos m with h0 | h0
  · subst h0
    have hn : news = [] := List.eq_nil_of_length_eq_zero (by simpa using hr.1)
    subst hn
    rcases A with _ | ad
    · refine wpList_plain hgd fun K hK => ?_
      have hrun := run_append_nil (P := P) (w := w) base t o.type e i size ht hi v n xs hown c
      unfold Oper.wp
      simp [execOp, ho, resolve, invoke, builtin, hs, hx, hrun, Result.andThen]
      exact hK _ _ (h v w (by simpa using hown) (World.grownBy.refl w _) (Below.refl _ _))
    · refine wpList_append_own _ hgd s x t ho base e i z size bytes ht hi hz hsize hby hzs hsz v n xs hs hown ad 0 c [] hx (by simp) (by simp) (by simp) h63 hbytes hbase ?_
      exact fun v' w' ho' hg' _ => h v' w' ho' hg' ((Below.refl _ _).grown hg' hbase (fun k hk => (hown.lt k hk).1))
  · obtain ⟨b, off, rfl, _, hc⟩ := hr.2 h0
    refine wpList_append_own _ hgd s x t ho base e i z size bytes ht hi hz hsize hby hzs hsz v n xs hs hown ⟨b, off, none⟩ m c news hx hr.1 (fun j u hu => ?_) h1 h63 hbytes hbase ?_
    · have ha : (⟨b, off, none⟩ : Addr).add j = ⟨b, off + j, none⟩ := by unfold Addr.add; split <;> simp_all
      rw [ha]; exact hc j u hu
    · exact fun v' w' ho' hg' _ => h v' w' ho' hg' ((Below.refl _ _).grown hg' hbase (fun k hk => (hown.lt k hk).1))
theorem set_block {w : World} {g i : Nat} {t : TypeId} {cs : Array Value} {fr : Nat × Nat} (h : w.heap[g]? = some (.cells cs t fr)) (u : Value) : (w.setCell ⟨g, i, none⟩ u).heap[g]? = some (.cells (cs.setIfInBounds i u) t fr) := by
  simp [World.setCell, Array.getElem?_modify, h]
theorem set3 {w : World} {g : Nat} {t : TypeId} {a b c x y z : Value} (h : w.heap[g]? = some (.cells #[a, b, c] t (0, 0))) :
    (((w.setCell ⟨g, 0, none⟩ x).setCell ⟨g, 1, none⟩ y).setCell ⟨g, 2, none⟩ z).heap[g]? = some (.cells #[x, y, z] t (0, 0)) := by
  rw [set_block (set_block (set_block h x) y) z]; rfl
theorem box3_cells {W : World} {B : Nat} {a b c : Value} {t : TypeId} (h : W.heap[B]? = some (.cells #[a, b, c] t (0, 0))) :
    W.cell? ⟨B, 0, none⟩ = some a ∧ W.cell? ⟨B, 1, none⟩ = some b ∧ W.cell? ⟨B, 2, none⟩ = some c :=
  ⟨cell_of_row _ _ 0 _ t (0, 0) h, cell_of_row _ _ 1 _ t (0, 0) h, cell_of_row _ _ 2 _ t (0, 0) h⟩

theorem box3 {w wc : World} {a b c : Value} {t : TypeId} (hb : Below (w.heap.size + 1) (w.alloc (.cells #[a, b, c] t)) wc) :
    wc.cell? ⟨w.heap.size, 0, none⟩ = some a ∧ wc.cell? ⟨w.heap.size, 1, none⟩ = some b ∧ wc.cell? ⟨w.heap.size, 2, none⟩ = some c ∧ w.heap.size + 1 ≤ wc.heap.size :=
  ⟨(hb.cell (p := ⟨w.heap.size, 0, none⟩) (by simp)).trans (cell_of_row _ _ 0 _ t (0, 0) (heap_alloc_new w _)), (hb.cell (p := ⟨w.heap.size, 1, none⟩) (by simp)).trans (cell_of_row _ _ 1 _ t (0, 0) (heap_alloc_new w _)),
   (hb.cell (p := ⟨w.heap.size, 2, none⟩) (by simp)).trans (cell_of_row _ _ 2 _ t (0, 0) (heap_alloc_new w _)), by have := hb.size; simpa using this⟩
/-- what lies below the call's own boxes -/
theorem below_box {w wr : World} {o : Obj} (h : Below (w.heap.size + 1) (w.alloc o) wr) : Below w.heap.size w wr :=
  ((Below.refl _ _).alloc (Nat.le_refl _) o).trans (h.mono (by omega))
/-! ### Entries -/
structure Hit where
  word : ByteArray
  weight : Int
  gone : Bool
  dist : Int
def Hit.cells (e : Hit) : List Value := [.string e.word, .int .u32 e.weight, .bool e.gone, .int .i64 e.dist]
def hcs (es : List Hit) : List Value := es.flatMap Hit.cells
theorem hcs_length (es : List Hit) : (hcs es).length = es.length * 4 := by
  induction es with
  | nil => rfl
  | cons e es ih => simp only [hcs, List.flatMap_cons, List.length_append, List.length_cons] at ih ⊢; rw [ih]; simp [Hit.cells]; omega
theorem hcs_get (es : List Hit) (i j : Nat) (hi : i < es.length) (hj : j < 4) : (hcs es)[i * 4 + j]? = (es[i]).cells[j]? := by
  induction es generalizing i with
  | nil => simp at hi
  | cons e es ih =>
    simp only [hcs, List.flatMap_cons]
    cases i with
    | zero =>
      rw [List.getElem?_append_left (by simp [Hit.cells]; omega)]; simp
    | succ i =>
      rw [List.getElem?_append_right (by simp [Hit.cells]; omega)]
      have := ih i (by simpa using hi)
      simp only [hcs] at this
      simp only [List.getElem_cons_succ]
      rw [← this]; congr 1; simp [Hit.cells]; omega

/-- the slice value '.slice A es.length c' reads as es, below B, in a block of entries -/
structure RHs (w : World) (B : Nat) (A : Option Addr) (es : List Hit) : Prop where
  rd : Reads w B 4 A es.length (hcs es)
  ty : 0 < es.length → ∀ b off, A = some ⟨b, off, none⟩ → ∃ cs t fr, w.heap[b]? = some (.cells cs t fr) ∧ t ≠ 30
section
variable {w w' : World} {B B' : Nat} {A : Option Addr} {es : List Hit}
theorem RHs.nil_ : RHs w B A [] := ⟨Reads.none_, fun h => absurd h (by simp)⟩
theorem RHs.keep (h : RHs w B A es) (hk : ∀ b, b < B → w'.heap[b]? = w.heap[b]?) : RHs w' B A es :=
  ⟨h.rd.keep fun p hp => World.cell?_of_block (hk p.block hp), fun h0 b off e => by
    obtain ⟨b', off', e', hb, _⟩ := h.rd.2 h0
    rw [e] at e'
    injection e' with e'
    injection e' with e'
    subst e'
    rw [hk b hb]
    exact h.ty h0 b off e⟩
theorem RHs.more (h : RHs w B A es) (hB : B ≤ B') : RHs w B' A es := ⟨h.rd.more hB, h.ty⟩
theorem RHs.below (h : RHs w B A es) (hb : Below B w w') : RHs w' B A es := h.keep fun b hp => hb.block b hp
theorem RHs.drewN (h : RHs w B A es) (k : Nat) : RHs (w.drewN k) B A es := ⟨h.rd.drewN k, h.ty⟩
theorem RHs.alloc (h : RHs w B A es) (hB : B ≤ w.heap.size) (o : Obj) : RHs (w.alloc o) B A es := h.keep fun b hp => Below.heap_alloc w o b (by omega)
theorem RHs.setCell (h : RHs w B A es) {p : Addr} (hB : B ≤ p.block) (u : Value) : RHs (w.setCell p u) B A es := h.keep fun b hp => Below.heap_setCell w p u b (by omega)
end
theorem RHs.at_ {w : World} {B : Nat} {A : Option Addr} {es : List Hit} (h : RHs w B A es) {i : Nat} (hi : i < es.length) :
    ∃ b off, A = some ⟨b, off, none⟩ ∧ b < B ∧ w.cell? ⟨b, off + i * 4, none⟩ = some (.string (es[i]).word) ∧ w.cell? ⟨b, off + i * 4 + 1, none⟩ = some (.int .u32 (es[i]).weight) ∧
      w.cell? ⟨b, off + i * 4 + 2, none⟩ = some (.bool (es[i]).gone) ∧ w.cell? ⟨b, off + i * 4 + 3, none⟩ = some (.int .i64 (es[i]).dist) := by
  obtain ⟨b, off, e, hb, hc⟩ := h.rd.2 (by omega)
  exact ⟨b, off, e, hb, hc (i * 4) _ (by rw [← Nat.add_zero (i * 4), hcs_get es i 0 hi (by omega)]; rfl), hc (i * 4 + 1) _ (by rw [hcs_get es i 1 hi (by omega)]; rfl),
    hc (i * 4 + 2) _ (by rw [hcs_get es i 2 hi (by omega)]; rfl), hc (i * 4 + 3) _ (by rw [hcs_get es i 3 hi (by omega)]; rfl)⟩
theorem RHs.head {w : World} {B : Nat} {A : Option Addr} {e : Hit} {t : List Hit} (h : RHs w B A (e :: t)) :
    ∃ b off, A = some ⟨b, off, none⟩ ∧ b < B ∧ w.cell? ⟨b, off, none⟩ = some (.string e.word) ∧ w.cell? ⟨b, off + 1, none⟩ = some (.int .u32 e.weight) ∧ w.cell? ⟨b, off + 2, none⟩ = some (.bool e.gone) ∧ w.cell? ⟨b, off + 3, none⟩ = some (.int .i64 e.dist) := by
  obtain ⟨b, off, e1, hb, h0, h1, h2, h3⟩ := h.at_ (i := 0) (by simp)
  exact ⟨b, off, e1, hb, by simpa using h0, by simpa using h1, by simpa using h2, by simpa using h3⟩

theorem RHs.tail {w : World} {B b off : Nat} {e : Hit} {t : List Hit} (h : RHs w B (some ⟨b, off, none⟩) (e :: t)) : RHs w B (some ⟨b, off + 4, none⟩) t := by
  obtain ⟨b', off', e1, hb, hc⟩ := h.rd.2 (by simp)
  injection e1 with e1
  injection e1 with e1 e2
  subst e1
  subst e2
  refine ⟨⟨hcs_length t, fun hn => ⟨b, off + 4, rfl, hb, fun j u hu => ?_⟩⟩, fun _ b' off' e => ?_⟩
  · have := hc (4 + j) u (by rw [← hu]; simp only [hcs, List.flatMap_cons]; rw [List.getElem?_append_right (by simp [Hit.cells])]; congr 1; simp [Hit.cells])
    rwa [← Nat.add_assoc] at this
  · injection e with e
    injection e with e
    subst e
    exact h.ty (by simp) b off rfl

abbrev OHs (w : World) (B : Nat) (v : Value) (es : List Hit) : Prop := w.ownsRow B 26 4 v es.length (hcs es)
theorem info26 : (Try.prog.info? 26).map (fun i => (i.zero, i.size, i.bytes)) = some (some (.agg #[.string ⟨#[]⟩, .int .u32 0, .bool false, .int .i64 0]), 4, 32) := by kernel_rfl
theorem hcs_append (a b : List Hit) : hcs (a ++ b) = hcs a ++ hcs b := by simp [hcs]

theorem news_hit (W : World) (wd : ByteArray) (wt : Int) (gn : Bool) (ds : Int) : ∀ j u, [Value.string wd, .int .u32 wt, .bool gn, .int .i64 ds][j]? = some u →
    (W.alloc (.cells #[.string wd, .int .u32 wt, .bool gn, .int .i64 ds] 26)).cell? ((⟨W.heap.size, 0, none⟩ : Addr).add j) = some u := by
  intro j u hu
  have hj : j < 4 := by
    rcases Nat.lt_or_ge j 4 with hlt | hge
    · exact hlt
    · rw [List.getElem?_eq_none (by simpa using hge)] at hu; cases hu
  have hc : ∀ i, (W.alloc (.cells #[.string wd, .int .u32 wt, .bool gn, .int .i64 ds] 26)).cell? ⟨W.heap.size, i, none⟩ = (#[.string wd, .int .u32 wt, .bool gn, .int .i64 ds] : Array Value)[i]? :=
    fun i => cell_of_row _ _ i _ 26 (0, 0) (heap_alloc_new W _)
  have ha : (⟨W.heap.size, 0, none⟩ : Addr).add j = ⟨W.heap.size, j, none⟩ := by unfold Addr.add; split <;> simp_all
  rw [ha, hc, ← hu]
  match j, hj with
  | 0, _ => rfl
  | 1, _ => rfl
  | 2, _ => rfl
  | 3, _ => rfl

theorem wpList_append_hit {ops : Array Oper} {rest : List Oper} {o : Oper} {a : Act} {Q : Exit → Act → World → Prop} {W : World} {wd : ByteArray} {wt : Int} {gn : Bool} {ds : Int}
    (hgd : o.guard = none) (s x : Operand) (ho : o.op = .call { callee := .builtin .append, args := #[s, x], argTypes := #[30, 30] })
    (base : Nat) (v : Value) (es : List Hit) (hs : a.eval s = v) (hown : OHs W base v es) (g : Nat) (hx : a.eval x = .slice (some ⟨g, 0, none⟩) 1 1) (hgW : g = W.heap.size)
    (hl : es.length ≤ 1000000000) (hbase : base ≤ W.heap.size)
    (h : ∀ v' w', OHs w' base v' (es ++ [⟨wd, wt, gn, ds⟩]) → (W.alloc (.cells #[.string wd, .int .u32 wt, .bool gn, .int .i64 ds] 26)).grownBy w' v.ownBlock → Below base W w' → wpList Try.prog ops Q rest (a.put o.dst v') w') :
    wpList Try.prog ops Q (o :: rest) a (W.alloc (.cells #[.string wd, .int .u32 wt, .bool gn, .int .i64 ds] 26)) := by
  obtain ⟨i0, hi, hz0, hz1, hz2⟩ := info_parts info26
  subst hgW
  refine wpList_append_own _ hgd s x 30 ho base 26 i0 _ 4 32 Try.underlying30 hi hz0 hz1 hz2 rfl (by decide) v es.length (hcs es) hs (hown.alloc _) ⟨W.heap.size, 0, none⟩ 1 1 [.string wd, .int .u32 wt, .bool gn, .int .i64 ds] hx rfl ?_ ?_ ?_ ?_ (by simp; omega) ?_
  · exact news_hit W wd wt gn ds
  · intro u hu; simp at hu; rcases hu with rfl | rfl | rfl | rfl <;> rfl
  · unfold maxLen; omega
  · omega
  · intro v' w' ho' hg' _
    refine h v' w' ?_ hg' ?_
    · have e1 : hcs [(⟨wd, wt, gn, ds⟩ : Hit)] = [.string wd, .int .u32 wt, .bool gn, .int .i64 ds] := rfl
      unfold OHs; rw [hcs_append, e1]; simpa using ho'
    · exact ((Below.refl base W).alloc hbase _).grown hg' (by simp; omega) (fun k hk => (hown.lt k hk).1)

theorem hcs_one (es : List Hit) : ∀ u ∈ hcs es, u.oneCell' = true := by
  intro u hu
  simp only [hcs, List.mem_flatMap] at hu
  obtain ⟨e, _, hu⟩ := hu
  simp [Hit.cells] at hu
  rcases hu with rfl | rfl | rfl | rfl <;> rfl

/-- a result that is a list of entries -/
def RetHs (w : World) (es : List Hit) (e : Ending) (w' : World) : Prop :=
  ∃ A c, e = .returned (.slice A es.length c) ∧ es.length ≤ c ∧ RHs w' w'.heap.size A es ∧ Below w.heap.size w w'
theorem OHs.form {w : World} {B : Nat} {v : Value} {es : List Hit} (h : OHs w B v es) : ∃ A c, v = .slice A es.length c ∧ es.length ≤ c ∧ RHs w w.heap.size A es := by
  rcases h.2 with ⟨rfl, h0⟩ | ⟨g, cap, cur, rfl, _, hh, hc, _⟩
  · obtain rfl : es = [] := List.eq_nil_of_length_eq_zero h0
    exact ⟨none, 0, rfl, by simp, RHs.nil_⟩
  · exact ⟨_, _, rfl, hc, Reads.of_own h, fun _ b off e => by injection e with e; injection e with e; subst e; exact ⟨_, _, _, hh, by decide⟩⟩
theorem RetHs.from {w w1 w2 : World} {es : List Hit} {e : Ending} (h : RetHs w1 es e w2) (hb : Below w.heap.size w w1) : RetHs w es e w2 := by
  obtain ⟨A, c, h1, h2, h3, h4⟩ := h
  exact ⟨A, c, h1, h2, h3, hb.trans (h4.mono hb.size)⟩
theorem ret_hs {w wr : World} {B : Nat} {v : Value} {es : List Hit} (h : OHs wr B v es) (hb : Below w.heap.size w wr) : RetHs w es (.returned v) wr := by
  obtain ⟨A, c, rfl, hc, hR⟩ := OHs.form h
  exact ⟨A, c, rfl, hc, hR, hb⟩
def Hit.agg (e : Hit) : Value := .agg #[.string e.word, .int .u32 e.weight, .bool e.gone, .int .i64 e.dist]
abbrev Hit.key (e : Hit) : List UInt8 := e.word.toList
end Go.Proofs.Ytjpgcfcacfhmiaa
