/- pack: bad. -/
import Derived.Test.YtdkbgbdgmihlmaaDoorPPut
import Derived.WalkSmall
import Derived.Test.YtdkbgbdgmihlmaaDoorTools
namespace Go.Proofs.YtdkbgbdgmihlmaaDoor
open Go.RowKit
set_option linter.unusedSimpArgs false
set_option linter.unusedVariables false
set_option linter.unnecessarySimpa false
namespace Dw

/-- a panic with a fault at a fresh place -/
def Pan (w w1 : World) (e : Ending) (code at_ : Int) : Prop := ∃ q, e = .panicked [{ v := .iface 82 (.pointer (some ⟨q, 0, none⟩)), recovered := false }] ∧ w.heap.size ≤ q ∧ w1.heap[q]? = some (.cells #[.int .i64 code, .int .i64 at_] 53 (0, 0)) ∧ Below w.heap.size w w1
theorem pan9 {P : Program} {fn : Func} {R : Ending → World → Prop} {c : List PanicEntry} {a : Act} {w : World} (hd : a.defers = []) (hR : R (.panicked c) w) : bodyPost P fn R (.panic c) a w := ⟨hd, hR⟩
set_option maxHeartbeats 4000000 in
set_option maxRecDepth 100000 in
theorem bad33 (w : World) (code at_ : Int) : Calls Tryd.prog 33 #[.int .i64 code, .int .i64 at_] w fun e w1 => Pan w w1 e code at_ := by
 refine calls_of_wp Tryd.func33 rfl ?_
 refine Fact.en 9 fun fr hf hT => ?_
 have s0 := hT 0 _ rfl
 have s1 := hT 1 _ rfl
 clear hT
 refine rg ?_
 have b4 := hf.b 4
 have b5 := hf.b 5
 have b6 := hf.b 6
 have b7 := hf.b 7
 have b8 := hf.b 8
 refine fp fun K Z => ?_
 go_simp
 apply Z.out; clear Z K
 refine fp fun K Z => ?_
 go_simp
 apply Z.out; clear Z K
 refine fp fun K Z => ?_
 go_simp
 apply Z.out; clear Z K
 refine fp fun K Z => ?_
 go_simp
 apply Z.out; clear Z K
 refine fp fun K Z => ?_
 go_simp
 apply Z.out; clear Z K
 refine fp fun K Z => ?_
 go_simp
 refine pan9 hf.defers ?_
 exact ⟨w.heap.size, rfl, Nat.le_refl _, heap_alloc_new w _, (Below.refl _ _).alloc (Nat.le_refl _) _⟩
end Dw
end Go.Proofs.YtdkbgbdgmihlmaaDoor
