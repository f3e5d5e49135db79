/- A walk by facts: scopes without jumps. -/
import Derived.Test.YtgjfhedgdbbinaaDoorFact
import Derived.Scope
namespace Go.Proofs.YtgjfhedgdbbinaaDoor
namespace Fact
section
variable {Q : Exit → Act → World → Prop} {a : Act} {w : World}
theorem scope_n (h : Q .normal a w) : Exit.noGoto Q .normal a w := h
theorem scope_e {id : Nat} (h : Q (.exit id) a w) : Exit.noGoto Q (.exit id) a w := h
theorem scope_r (h : Q .ret a w) : Exit.noGoto Q .ret a w := h
end
end Fact
end Go.Proofs.YtgjfhedgdbbinaaDoor
