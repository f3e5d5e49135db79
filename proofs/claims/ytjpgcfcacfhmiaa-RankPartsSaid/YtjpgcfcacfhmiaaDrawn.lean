/- A drawn region, walked operation by operation: a read that is taken first, its place said; the ways put together where the same operations are done. -/
import Derived.Test.YtjpgcfcacfhmiaaBase
import Derived.Deep.RegionHeld3
namespace Go.Proofs.Ytjpgcfcacfhmiaa
open Go.RowKit
set_option linter.unusedSimpArgs false
set_option linter.unusedVariables false
set_option linter.unnecessarySimpa false
section
variable {P : Program} {ops : Array Oper} {Q : Exit → Act → World → Prop} {md : Region.Mode} {S : World → Prop} {fuel : Nat} {listed : Array Bool} {a : Act} {w : World}
theorem mid_cut (I : Act → World → Prop) (fuel1 : Nat) (listed1 : Array Bool)
    (h1 : Hid (∀ a' w', I a' w' → S w' → wpAnyH P md ops Q S fuel1 listed1 a' w') → wpAnyH P md ops Q S fuel listed a w)
    (h2 : ∀ a' w', I a' w' → S w' → wpAnyH P md ops Q S fuel1 listed1 a' w') : wpAnyH P md ops Q S fuel listed a w := h1 (Lib.hid h2)
theorem mid_use {listed1 : Array Bool} (hl : listed = listed1) (h : wpAnyH P md ops Q S fuel listed1 a w) : wpAnyH P md ops Q S fuel listed a w := hl ▸ h
theorem take_at {i d : Nat} {oi : Oper} {v : Value} (hi : ops[i]? = some oi) (hd : oi.dst = some d) (hs : Region.noSelect ops = true) (hf : Region.free md ops listed i = true) (hr : (Region.ready md ops listed).contains i = true)
    (hQ : ∀ c a w, Q (.panic c) (a.put oi.dst v) w → Q (.panic c) a w) (hy : YieldsIf P ops S oi v a) (hS : S w)
    (h : wpAnyH P md ops Q S fuel (listed.setIfInBounds i true) (a.put (some d) v) w) : wpAnyH P md ops Q S (fuel + 1) listed a w :=
  wpAnyH_take hi hs hf hr hQ hy hS (by rw [hd]; exact h)
end
end Go.Proofs.Ytjpgcfcacfhmiaa
