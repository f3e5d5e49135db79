/- Appends of one hit, and where the row then lies: in a plain region, and at a step of a drawn one. -/
import Derived.Test.YtjpgcfcacfhmiaaApart
namespace Go.Proofs.Ytjpgcfcacfhmiaa
open Go.RowKit
set_option linter.unusedSimpArgs false
set_option linter.unusedVariables false
set_option linter.unnecessarySimpa false
set_option linter.unusedSimpArgs false
set_option linter.unusedVariables false
theorem wpList_append_hit_at {ops : Array Oper} {rest : List Oper} {o : Oper} {a : Act} {Q : Exit → Act → World → Prop} {W : World} {wd : ByteArray} {wt : Int} {gn : Bool} {ds : Int}
    (hgd : o.guard = none) (s x : Operand) (ho : o.op = .call { callee := .builtin .append, args := #[s, x], argTypes := #[30, 30] })
    (base : Nat) (v : Value) (es : List Hit) (hs : a.eval s = v) (hown : OHs W base v es) (g : Nat) (hx : a.eval x = .slice (some ⟨g, 0, none⟩) 1 1) (hgW : g = W.heap.size)
    (hl : es.length ≤ 100000000) (hbase : base ≤ W.heap.size)
    (h : ∀ v' w', OHs w' base v' (es ++ [⟨wd, wt, gn, ds⟩]) → (W.alloc (.cells #[.string wd, .int .u32 wt, .bool gn, .int .i64 ds] 26)).grownBy w' v.ownBlock → Below base W w' → (v'.ownBlock = v.ownBlock ∨ v'.ownBlock = some (W.heap.size + 1)) → wpList Try.prog ops Q rest (a.put o.dst v') w') :
    wpList Try.prog ops Q (o :: rest) a (W.alloc (.cells #[.string wd, .int .u32 wt, .bool gn, .int .i64 ds] 26)) := by
  have hba : Below W.heap.size W (W.alloc (.cells #[.string wd, .int .u32 wt, .bool gn, .int .i64 ds] 26)) := (Below.refl _ _).alloc (Nat.le_refl _) _
  have hlit : RHs (W.alloc (.cells #[.string wd, .int .u32 wt, .bool gn, .int .i64 ds] 26)) (W.alloc (.cells #[.string wd, .int .u32 wt, .bool gn, .int .i64 ds] 26)).heap.size (some ⟨g, 0, none⟩) [⟨wd, wt, gn, ds⟩] := by
    subst hgW
    exact RHs.lit rfl
  refine wpList_append_hits_at hgd s x ho base v es [⟨wd, wt, gn, ds⟩] hs (own_below hown hba) (some ⟨g, 0, none⟩) 1 1 hx rfl hlit (by simp; omega) (by simp; omega) ?_
  intro v' w' h1 h2 h3 h4
  refine h v' w' h1 h2 (((Below.refl _ _).alloc hbase _).trans h3) ?_
  rw [World.size_alloc] at h4
  exact h4
theorem step_append_hit_at {ops : Array Oper} {o : Oper} {a : Act} {K : Act → World → Prop} {Q : Exit → Act → World → Prop} {E : Prop} {W : World}
    (hgd : o.guard = none) (s x : Operand) (ho : o.op = .call { callee := .builtin .append, args := #[s, x], argTypes := #[30, 30] })
    (base : Nat) (v : Value) (es : List Hit) (y : Hit) (hs : a.eval s = v) (hown : OHs W base v es) (g : Nat) (hx : a.eval x = .slice (some ⟨g, 0, none⟩) 1 1)
    (hc : W.heap[g]? = some (.cells #[.string y.word, .int .u32 y.weight, .bool y.gone, .int .i64 y.dist] 26 (0, 0))) (hl : es.length ≤ 100000000) (hbase : base ≤ W.heap.size)
    (h : ∀ v' w', OHs w' base v' (es ++ [y]) → W.grownBy w' v.ownBlock → Below base W w' → (v'.ownBlock = v.ownBlock ∨ v'.ownBlock = some W.heap.size) → K (a.put o.dst v') w') :
    if Region.wanted o (yielded ops a.tmps) = true then Oper.wp Try.prog o a W K Q else E := by
  have hw : Region.wanted o (yielded ops a.tmps) = true := by simp [Region.wanted, hgd]
  rw [if_pos hw]
  obtain ⟨i0, hi, hz0, hz1, hz2⟩ := info_parts info26
  obtain ⟨c0, c1, c2, c3⟩ := box4_cells hc
  obtain ⟨v', w', hr, h2, h3, h4, h5⟩ := run_append_own_at (P := Try.prog) W base 30 o.type 26 i0 _ 4 32 Try.underlying30 hi hz0 hz1 hz2 rfl (by decide) v es.length (hcs es) hown ⟨g, 0, none⟩ 1 1 [.string y.word, .int .u32 y.weight, .bool y.gone, .int .i64 y.dist] rfl
    (fun j u hu => by
      have hj : j < 4 := by
        rcases Nat.lt_or_ge j 4 with hlt | hge
        · exact hlt
        · rw [List.getElem?_eq_none (by simpa using hge)] at hu; cases hu
      have ha : (⟨g, 0, none⟩ : Addr).add j = ⟨g, j, none⟩ := by unfold Addr.add; split <;> simp_all
      rw [ha, ← hu]
      match j, hj with
      | 0, _ => exact c0
      | 1, _ => exact c1
      | 2, _ => exact c2
      | 3, _ => exact c3) (fun u hu => by simp at hu; rcases hu with rfl | rfl | rfl | rfl <;> rfl) (by unfold maxLen; omega) (by omega) hbase
  unfold Oper.wp execOp
  simp only [ho, resolve, invoke, builtin, Sem.run_bind, Sem.run_pure, Result.andThen_ok, List.map_toArray, List.map_cons, List.map_nil, hs, hx, hr]
  refine h v' w' ?_ h3 ((Below.refl base W).grown h3 hbase (fun k hk => (hown.lt k hk).1)) h5
  have e1 : hcs [y] = [.string y.word, .int .u32 y.weight, .bool y.gone, .int .i64 y.dist] := rfl
  unfold OHs; rw [hcs_append, e1, List.length_append]; exact h2
/-- two rows in blocks of their own -/
def Ap (u v : Value) : Prop := ∀ k, u.ownBlock = some k → v.ownBlock ≠ some k
theorem Ap.symm {u v : Value} (h : Ap u v) : Ap v u := fun k hk hu => h k hu hk
theorem Ap.nil_ (v : Value) : Ap (.slice none 0 0) v := fun k hk => by simp [Value.ownBlock] at hk
/-- the row that grew lies apart from what was there -/
theorem Ap.grow {w : World} {B n : Nat} {u u' v : Value} {es : List Hit} (h : Ap u v) (hv : OHs w B v es) (hat : u'.ownBlock = u.ownBlock ∨ u'.ownBlock = some n) (hn : w.heap.size ≤ n) : Ap u' v := by
  intro k hk e
  rcases hat with hat | hat
  · exact h k (hat.symm.trans hk) e
  · rw [hat] at hk
    injection hk with hk
    have := (hv.lt k e).2
    omega
end Go.Proofs.Ytjpgcfcacfhmiaa
