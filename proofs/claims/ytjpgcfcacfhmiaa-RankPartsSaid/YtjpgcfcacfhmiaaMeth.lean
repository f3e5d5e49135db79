/- The methods of rank's heap, found by its dynamic type. -/
import Derived.Test.YtjpgcfcacfhmiaaHeap2
namespace Go.Proofs.Ytjpgcfcacfhmiaa
open Go.RowKit
set_option linter.unusedSimpArgs false
set_option linter.unusedVariables false
set_option linter.unnecessarySimpa false
theorem load61 (a : Addr) (w : World) (v : Value) (h : w.cell? a = some v) : (loadVar 61 a).run Try.prog w = .ok v w := by
  simp [loadVar, h, go_sem]
theorem meth_row {name : String} {f : Nat} {r : Bool} (h : ((Try.prog.info? 60).bind fun i => (i.methods.find? (·.name == name)).map fun m => (m.path.toList.length, m.func)) = some (0, some (f, r))) :
    ∃ i m, Try.prog.info? 60 = some i ∧ i.methods.find? (·.name == name) = some m ∧ m.path = #[] ∧ m.func = some (f, r) := by
  cases hi : Try.prog.info? 60 with
  | none => rw [hi] at h; cases h
  | some i =>
    rw [hi] at h
    simp only [Option.bind_some] at h
    cases hm : i.methods.find? (·.name == name) with
    | none => rw [hm] at h; cases h
    | some m =>
      rw [hm] at h
      simp only [Option.map_some, Option.some.injEq, Prod.mk.injEq] at h
      exact ⟨i, m, rfl, hm, by have := List.eq_nil_of_length_eq_zero h.1; exact Array.toList_inj.1 (by simpa using this), h.2⟩
theorem wrap_chk (a : Addr) (n : String) (w : World) : (Builtin.ssaWrapNilChk_ #[60] 60 #[.pointer (some a), strVal "", strVal n]).run Try.prog w = .ok (.pointer (some a)) w := rfl
theorem meth_val {name : String} {f : Nat} (h : ((Try.prog.info? 60).bind fun i => (i.methods.find? (·.name == name)).map fun m => (m.path.toList.length, m.func)) = some (0, some (f, false))) (a : Addr) (w : World) (v : Value) (hc : w.cell? a = some v) :
    (method 221 60 (.pointer (some a)) name).run Try.prog w = .ok (f, v) w := by
  obtain ⟨i, m, h1, h2, h3, h4⟩ := meth_row h
  unfold method
  simp [h1, h2, h3, h4, go_sem, receiverAt, follow, typeInfo, wrap_chk, Place.get, hc]
theorem meth_ptr {name : String} {f : Nat} (h : ((Try.prog.info? 60).bind fun i => (i.methods.find? (·.name == name)).map fun m => (m.path.toList.length, m.func)) = some (0, some (f, true))) (a : Addr) (w : World) :
    (method 221 60 (.pointer (some a)) name).run Try.prog w = .ok (f, .pointer (some a)) w := by
  obtain ⟨i, m, h1, h2, h3, h4⟩ := meth_row h
  unfold method
  simp [h1, h2, h3, h4, go_sem, receiverAt, follow, typeInfo, Place.get]
theorem m_less (a : Addr) (w : World) (v : Value) (hc : w.cell? a = some v) : (method 221 60 (.pointer (some a)) "Less").run Try.prog w = .ok (75, v) w := meth_val (by kernel_rfl) a w v hc
theorem m_len (a : Addr) (w : World) (v : Value) (hc : w.cell? a = some v) : (method 221 60 (.pointer (some a)) "Len").run Try.prog w = .ok (26, v) w := meth_val (by kernel_rfl) a w v hc
theorem m_swap (a : Addr) (w : World) (v : Value) (hc : w.cell? a = some v) : (method 221 60 (.pointer (some a)) "Swap").run Try.prog w = .ok (78, v) w := meth_val (by kernel_rfl) a w v hc
theorem m_push (a : Addr) (w : World) : (method 221 60 (.pointer (some a)) "Push").run Try.prog w = .ok (77, .pointer (some a)) w := meth_ptr (by kernel_rfl) a w
theorem m_pop (a : Addr) (w : World) : (method 221 60 (.pointer (some a)) "Pop").run Try.prog w = .ok (76, .pointer (some a)) w := meth_ptr (by kernel_rfl) a w
end Go.Proofs.Ytjpgcfcacfhmiaa
