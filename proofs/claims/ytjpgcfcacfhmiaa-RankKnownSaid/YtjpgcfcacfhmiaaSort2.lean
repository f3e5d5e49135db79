/- rank.Sort walked. -/
import Derived.Test.YtjpgcfcacfhmiaaSort
namespace Go.Proofs.Ytjpgcfcacfhmiaa
open Go.RowKit
set_option linter.unusedSimpArgs false
set_option linter.unusedVariables false
set_option linter.unnecessarySimpa false
/-- append of a whole list of hits onto a row of the call's own -/
theorem wpList_append_hits {ops : Array Oper} {rest : List Oper} {o : Oper} {a : Act} {Q : Exit → Act → World → Prop} {w : World}
    (hgd : o.guard = none) (s x : Operand) (ho : o.op = .call { callee := .builtin .append, args := #[s, x], argTypes := #[30, 30] })
    (base : Nat) (v : Value) (es news : List Hit) (hs : a.eval s = v) (hown : OHs w base v es) (A : Option Addr) (m c : Nat) (hx : a.eval x = .slice A m c) (hm : m = news.length) (hr : RHs w w.heap.size A news)
    (hl : es.length + news.length ≤ 1000000000) (hbase : base ≤ w.heap.size)
    (h : ∀ v' w', OHs w' base v' (es ++ news) → w.grownBy w' v.ownBlock → Below base w w' → wpList Try.prog ops Q rest (a.put o.dst v') w') : wpList Try.prog ops Q (o :: rest) a w := by
  obtain ⟨i0, hi, hz0, hz1, hz2⟩ := info_parts info26
  subst hm
  refine wpList_append_reads hgd s x 30 ho base 26 i0 _ 4 32 Try.underlying30 hi hz0 hz1 hz2 rfl (by decide) v es.length (hcs es) hs hown w.heap.size A news.length c (hcs news) hx hr.rd (hcs_one news) (by unfold maxLen; omega) (by omega) hbase ?_
  intro v' w' h1 h2 h3
  refine h v' w' ?_ h2 h3
  unfold OHs
  rw [hcs_append, List.length_append]
  exact h1
/-- a result that is a row of hits of the call's own -/
def RetO (w : World) (es : List Hit) (e : Ending) (w' : World) : Prop :=
  ∃ v, e = .returned v ∧ OHs w' w.heap.size v es ∧ Below w.heap.size w w'
theorem RetO.ret {w w' : World} {es : List Hit} {e : Ending} (h : RetO w es e w') : RetHs w es e w' := by
  obtain ⟨v, rfl, h1, h2⟩ := h
  exact ret_hs h1 h2
theorem sort11o (es : List Hit) (A : Option Addr) (c : Nat) (w : World) (hl : es.length ≤ 1000000) (h : RHs w w.heap.size A es) :
    Calls Try.prog 11 #[.slice A es.length c] w (RetO w (sortH es)) := by
  go_enter Try.func11, Try.ntmps11
  go_wp2_with (first
    | (at_builtin; refine wpList_append_hits rfl _ _ rfl w.heap.size (.slice none 0 0) [] es rfl (World.ownsRow_nil _ _ _ _) A _ c rfl rfl h (by simp; omega) (Nat.le_refl _) ?_; intro v w1 hown hg1 hb1; rw [List.nil_append] at hown; have hs1 := hb1.size)
    | (go_at_call 24; refine (sort24 w.heap.size v es w1 hown hl hs1).mono ?_; rintro e w2 ⟨rfl, hown2, hb2⟩))
  go_ret
  exact ⟨_, rfl, hown2, hb1.trans hb2⟩
theorem sort11 (es : List Hit) (A : Option Addr) (c : Nat) (w : World) (hl : es.length ≤ 1000000) (h : RHs w w.heap.size A es) :
    Calls Try.prog 11 #[.slice A es.length c] w (RetHs w (sortH es)) := (sort11o es A c w hl h).mono fun _ _ => RetO.ret
end Go.Proofs.Ytjpgcfcacfhmiaa
