/- container/heap's Push on rank's heap. -/
import Derived.Test.YtjpgcfcacfhmiaaUp
namespace Go.Proofs.Ytjpgcfcacfhmiaa
open Go.RowKit
set_option linter.unusedSimpArgs false
set_option linter.unusedVariables false
set_option linter.unnecessarySimpa false
set_option maxHeartbeats 2000000 in
set_option maxRecDepth 100000 in
theorem push25 (B gp : Nat) (es : List Hit) (x : Hit) (w : World) (h : Hp w B gp es) (hh : Heaped es.length es) (hl : es.length ≤ 100000) (hB : B ≤ w.heap.size) :
    Calls Try.prog 25 #[.iface 60 (.pointer (some ⟨gp, 0, none⟩)), .iface 26 x.agg] w fun e w' => e = .returned (.tuple #[]) ∧ (∃ es', es'.Perm (es ++ [x]) ∧ Heaped es'.length es' ∧ Hp w' B gp es') ∧ Below B w w' := by
  have hm0 := m_push ⟨gp, 0, none⟩ w
  have HP := Lib.hid (push77 B gp es x w h (by omega) hB)
  have HU := Lib.hid (up_start hh x)
  have hn : (es ++ [x]).length = es.length + 1 := by simp
  have HN := Lib.hid hn
  have hw1 : wrap64 (((es.length : Int) + 1) - 1) = (es.length : Int) := by unfold wrap64; omega
  clear h hh hn
  simp only [Hit.agg] at *
  go_enter Try.func25, Try.ntmps25
  go_wp2_with (first
    | (go_at_call 77; refine HP.out.mono ?_; rintro e w1 ⟨rfl, hp1, hb1⟩; have hs1 := hb1.size; obtain ⟨g, cap, c1, hrow, hgg, hbx⟩ := hp1.open_ (by simp); rw [HN.out] at c1; have hm1 := m_len ⟨gp, 0, none⟩ w1 _ c1; have HP1 := Lib.hid hp1; clear hp1 hrow hbx)
    | (go_at_call 26; refine (len26 _ _ _ _).mono ?_; rintro e w2 ⟨rfl, rfl⟩)
    | (go_at_call 37; refine (up37 B gp (es ++ [x]) es.length w1 (by rw [HN.out]; omega) HP1.out HU.out (by rw [HN.out]; omega) (by omega)).mono ?_; rintro e w3 ⟨rfl, hex, hb3⟩))
  go_end0
  exact ⟨rfl, hex, hb1.trans hb3⟩
end Go.Proofs.Ytjpgcfcacfhmiaa
