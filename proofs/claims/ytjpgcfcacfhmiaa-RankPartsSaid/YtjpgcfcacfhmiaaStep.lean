/- A step of a drawn region: one hit appended to a slice of hits. -/
import Derived.Test.YtjpgcfcacfhmiaaCount2
import Derived.Deep.RegionLaw
namespace Go.Proofs.Ytjpgcfcacfhmiaa
open Go.RowKit
set_option linter.unusedSimpArgs false
set_option linter.unusedVariables false
set_option linter.unnecessarySimpa false
theorem step_append_hit {ops : Array Oper} {o : Oper} {a : Act} {K : Act → World → Prop} {Q : Exit → Act → World → Prop} {E : Prop} {W : World}
    (hgd : o.guard = none) (s x : Operand) (ho : o.op = .call { callee := .builtin .append, args := #[s, x], argTypes := #[30, 30] })
    (base : Nat) (v : Value) (es : List Hit) (y : Hit) (hs : a.eval s = v) (hown : OHs W base v es) (g : Nat) (hx : a.eval x = .slice (some ⟨g, 0, none⟩) 1 1)
    (hc : W.heap[g]? = some (.cells #[.string y.word, .int .u32 y.weight, .bool y.gone, .int .i64 y.dist] 26 (0, 0))) (hl : es.length ≤ 1000000000) (hbase : base ≤ W.heap.size)
    (h : ∀ v' w', OHs w' base v' (es ++ [y]) → W.grownBy w' v.ownBlock → Below base W w' → K (a.put o.dst v') w') :
    if Region.wanted o (yielded ops a.tmps) = true then Oper.wp Try.prog o a W K Q else E := by
  have hw : Region.wanted o (yielded ops a.tmps) = true := by simp [Region.wanted, hgd]
  rw [if_pos hw]
  obtain ⟨i0, hi, hz0, hz1, hz2⟩ := info_parts info26
  obtain ⟨c0, c1, c2, c3⟩ := box4_cells hc
  refine wp_append_own W s x 30 ho base 26 i0 _ 4 32 Try.underlying30 hi hz0 hz1 hz2 rfl (by decide) v es.length (hcs es) hs hown ⟨g, 0, none⟩ 1 1 [.string y.word, .int .u32 y.weight, .bool y.gone, .int .i64 y.dist] hx rfl ?_ ?_ ?_ ?_ hbase ?_
  · intro j u hu
    have hj : j < 4 := by
      rcases Nat.lt_or_ge j 4 with hlt | hge
      · exact hlt
      · rw [List.getElem?_eq_none (by simpa using hge)] at hu; cases hu
    have ha : (⟨g, 0, none⟩ : Addr).add j = ⟨g, j, none⟩ := by unfold Addr.add; split <;> simp_all
    rw [ha, ← hu]
    match j, hj with
    | 0, _ => exact c0
    | 1, _ => exact c1
    | 2, _ => exact c2
    | 3, _ => exact c3
  · intro u hu; simp at hu; rcases hu with rfl | rfl | rfl | rfl <;> rfl
  · unfold maxLen; omega
  · omega
  · intro v' w' ho' hg' _
    refine h v' w' ?_ hg' ((Below.refl base W).grown hg' hbase (fun k hk => (hown.lt k hk).1))
    have e1 : hcs [y] = [.string y.word, .int .u32 y.weight, .bool y.gone, .int .i64 y.dist] := rfl
    unfold OHs; rw [hcs_append, e1, List.length_append]; exact ho'
end Go.Proofs.Ytjpgcfcacfhmiaa
