/- Four rows of the call's own, each in a block of its own; one of them grows. -/
import Derived.Test.YtjpgcfcacfhmiaaApart2
namespace Go.Proofs.Ytjpgcfcacfhmiaa
open Go.RowKit
set_option linter.unusedSimpArgs false
set_option linter.unusedVariables false
set_option linter.unnecessarySimpa false
set_option linter.unusedSimpArgs false
set_option linter.unusedVariables false
structure Rows4 (w : World) (B : Nat) (vk va vb vc : Value) (k a b c : List Hit) : Prop where
  k : OHs w B vk k
  a : OHs w B va a
  b : OHs w B vb b
  c : OHs w B vc c
  ka : Ap vk va
  kb : Ap vk vb
  kc : Ap vk vc
  ab : Ap va vb
  ac : Ap va vc
  bc : Ap vb vc
section
variable {w w1 w' : World} {B : Nat} {vk va vb vc vk' : Value} {k a b c k' : List Hit}
theorem Rows4.nil_ (w : World) (B : Nat) : Rows4 w B (.slice none 0 0) (.slice none 0 0) (.slice none 0 0) (.slice none 0 0) [] [] [] [] :=
  ⟨World.ownsRow_nil _ _ _ _, World.ownsRow_nil _ _ _ _, World.ownsRow_nil _ _ _ _, World.ownsRow_nil _ _ _ _, Ap.nil_ _, Ap.nil_ _, Ap.nil_ _, Ap.nil_ _, Ap.nil_ _, Ap.nil_ _⟩
theorem Rows4.below (h : Rows4 w B vk va vb vc k a b c) (hb : Below w.heap.size w w') : Rows4 w' B vk va vb vc k a b c :=
  ⟨own_below h.k hb, own_below h.a hb, own_below h.b hb, own_below h.c hb, h.ka, h.kb, h.kc, h.ab, h.ac, h.bc⟩
theorem Rows4.setCell (h : Rows4 w B vk va vb vc k a b c) {p : Addr} (hp : p.block < B) (u : Value) : Rows4 (w.setCell p u) B vk va vb vc k a b c :=
  ⟨ownsRow_setCell_below h.k hp u, ownsRow_setCell_below h.a hp u, ownsRow_setCell_below h.b hp u, ownsRow_setCell_below h.c hp u, h.ka, h.kb, h.kc, h.ab, h.ac, h.bc⟩
theorem Rows4.swapA (h : Rows4 w B vk va vb vc k a b c) : Rows4 w B va vk vb vc a k b c := ⟨h.a, h.k, h.b, h.c, h.ka.symm, h.ab, h.ac, h.kb, h.kc, h.bc⟩
theorem Rows4.swapB (h : Rows4 w B vk va vb vc k a b c) : Rows4 w B vb va vk vc b a k c := ⟨h.b, h.a, h.k, h.c, h.ab.symm, h.kb.symm, h.bc, h.ka.symm, h.ac, h.kc⟩
theorem Rows4.swapC (h : Rows4 w B vk va vb vc k a b c) : Rows4 w B vc va vb vk c a b k := ⟨h.c, h.a, h.b, h.k, h.ac.symm, h.bc.symm, h.kc.symm, h.ab, h.ka.symm, h.kb.symm⟩
theorem Rows4.grow {n : Nat} (h : Rows4 w B vk va vb vc k a b c) (hb : Below w.heap.size w w1) (hown : OHs w' B vk' k') (hg : w1.grownBy w' vk.ownBlock) (hat : vk'.ownBlock = vk.ownBlock ∨ vk'.ownBlock = some n) (hn : w.heap.size ≤ n) : Rows4 w' B vk' va vb vc k' a b c := by
  have ap : ∀ {v : Value} {es : List Hit}, OHs w B v es → Ap vk v → OHs w' B v es := fun hv hk => own_apart (own_below hv hb) hg (fun q hq e => hk q e hq)
  exact ⟨hown, ap h.a h.ka, ap h.b h.kb, ap h.c h.kc, h.ka.grow h.a hat hn, h.kb.grow h.b hat hn, h.kc.grow h.c hat hn, h.ab, h.ac, h.bc⟩
end
end Go.Proofs.Ytjpgcfcacfhmiaa
