/- pack: the parser in plain terms. -/
import Derived.Test.YtdkbgbdgmihlmaaDoorPNumR
namespace Go.Proofs.YtdkbgbdgmihlmaaDoor
open Go.RowKit
set_option linter.unusedSimpArgs false
set_option linter.unusedVariables false
set_option linter.unnecessarySimpa false
namespace Dw

abbrev Bad := Nat × Nat
def stepN (r : Nat × Nat × Nat) (c2 i : Nat) : Except Bad (Nat × Nat) := if r.2.2 ≠ 0 then .error (r.2.2, i) else if c2 ≠ 0 then .error (c2, i) else .ok (r.1, r.2.1)
def pNum (s : ByteArray) (lo hi i : Nat) : Except Bad (Nat × Nat) := stepN (getN (wl s) i) (rangeN lo hi (getN (wl s) i).1) i
def pChar (s : ByteArray) (i : Nat) : Except Bad (Nat × Nat) := stepN (charN s i) 0 i
def pMag (s : ByteArray) (k i : Nat) : Except Bad (Nat × Nat) := stepN (charN s i) (kindN k (charN s i).1) i
/-- arcs -/
def pArcs (s : ByteArray) (i : Nat) : Nat → Nat → List Arc → Except Bad (List Arc × Nat)
  | 0, p, acc => .ok (acc, p)
  | k + 1, p, acc => match pChar s p with
    | .error b => .error b
    | .ok (c, p1) => match pNum s 0 18446744073709551615 p1 with
      | .error b => .error b
      | .ok (o, p2) => match pNum s 1 i p2 with
        | .error b => .error b
        | .ok (d, p3) => pArcs s i k p3 (acc ++ [⟨c, o, ((i - d : Nat) : Int)⟩])
def pOut (s : ByteArray) (n p : Nat) : Except Bad (Nat × Nat) := if n % 2 = 1 then pNum s 0 18446744073709551615 p else .ok (0, p)
def pMk (n o : Nat) : Except Bad (List Arc × Nat) → Except Bad (State × Nat)
  | .error b => .error b
  | .ok (l, p) => .ok ({ arcs := l, final := decide (n % 2 = 1), out := o }, p)
def pState (s : ByteArray) (i p : Nat) : Except Bad (State × Nat) := match pNum s 0 513 p with
  | .error b => .error b
  | .ok (n, p1) => match pOut s n p1 with
    | .error b => .error b
    | .ok (o, p2) => pMk n o (pArcs s i (n / 2) p2 [])
/-- states, from the i-th on -/
def pStates (s : ByteArray) : Nat → Nat → Nat → List State → Except Bad (List State × Nat)
  | 0, _, p, acc => .ok (acc, p)
  | k + 1, i, p, acc => match pState s i p with
    | .error b => .error b
    | .ok (st, p1) => pStates s k (i + 1) p1 (acc ++ [st])
def pMagic (s : ByteArray) : Nat → Nat → Nat → Except Bad Nat
  | 0, _, p => .ok p
  | m + 1, k, p => match pMag s k p with
    | .error b => .error b
    | .ok (_, p1) => pMagic s m (k + 1) p1
def pAll (s : ByteArray) : Except Bad (Nat × Nat × List State) := match pMagic s 3 0 0 with
  | .error b => .error b
  | .ok p => match pNum s 0 100000 p with
    | .error b => .error b
    | .ok (en, p1) => match pNum s 1 18446744073709551615 p1 with
      | .error b => .error b
      | .ok (n, p2) => match pStates s n 0 p2 [] with
        | .error b => .error b
        | .ok (ss, p3) => match pNum s 0 18446744073709551615 p3 with
          | .error b => .error b
          | .ok (init, p4) => if p4 < s.size then .error (4, p4) else .ok (en, init, ss)
/-- a panic behind which only block g was turned -/
def PanG (w w1 : World) (e : Ending) (g : Nat) (b : Bad) : Prop := ∃ q, e = .panicked [{ v := .iface 82 (.pointer (some ⟨q, 0, none⟩)), recovered := false }] ∧ w.heap.size ≤ q ∧ w1.heap[q]? = some (.cells #[.int .i64 b.1, .int .i64 b.2] 53 (0, 0)) ∧ But (fun k => k = g) w w1
theorem Pan.g {w w1 : World} {e : Ending} {g c a : Nat} (h : Pan w w1 e c a) : PanG w w1 e g (c, a) := by
  obtain ⟨q, h1, h2, h3, h4⟩ := h
  exact ⟨q, h1, h2, h3, But.of _ h4⟩
theorem PanG.via {w w1 w2 : World} {e : Ending} {g : Nat} {b : Bad} (hb : But (fun k => k = g ∨ w.heap.size ≤ k) w w2) (h : PanG w2 w1 e g b) : PanG w w1 e g b := by
  obtain ⟨q, h1, h2, h3, h4⟩ := h
  exact ⟨q, h1, Nat.le_trans hb.size h2, h3, (hb.trans (h4.mono (fun k _ hk => .inl hk))).mono (fun k hk h => h.elim id (fun h => by omega))⟩
/-- what one reading ends in -/
def ResR (w w1 : World) (e : Ending) (k : IntKind) (g : Nat) (s : ByteArray) : Except Bad (Nat × Nat) → Prop
  | .error b => PanG w w1 e g b
  | .ok (x, j) => e = .returned (.int k x) ∧ RD w1 g s j ∧ But (fun k => k = g) w w1
theorem ThR.res {w w1 : World} {e : Ending} {k : IntKind} {r : Nat × Nat × Nat} {c2 i g : Nat} {s : ByteArray} (h : ThR w w1 e k r c2 i g s) : ResR w w1 e k g s (stepN r c2 i) := by
  unfold ThR at h
  unfold stepN
  split at h
  · rename_i h1; rw [if_pos h1]; exact Pan.g h
  · rename_i h1
    rw [if_neg h1]
    split at h
    · rename_i h2; rw [if_pos h2]; exact Pan.g h
    · rename_i h2; rw [if_neg h2]; exact h
theorem num51' (w : World) (g : Nat) (s : ByteArray) (i : Nat) (hr : RD w g s i) (hi : i ≤ s.size) (hsz : s.size ≤ 1000000000) (lo hi9 : Nat) : Calls Tryd.prog 51 #[.pointer (some ⟨g, 0, none⟩), .int .u64 lo, .int .u64 hi9] w fun e w1 => ResR w w1 e .u64 g s (pNum s lo hi9 i) :=
  (num51 w g s i hr hi hsz lo hi9).mono fun e w1 h => h.res
theorem char49' (w : World) (g : Nat) (s : ByteArray) (i : Nat) (hr : RD w g s i) (hi : i ≤ s.size) (hsz : s.size ≤ 1000000000) : Calls Tryd.prog 49 #[.pointer (some ⟨g, 0, none⟩), .func (.func 74) #[] #[]] w fun e w1 => ResR w w1 e .u8 g s (pChar s i) :=
  (char49 w g s i hr hi hsz 74 #[] 0 call74 (fun w1 _ _ => by rw [app10]; exact state74 w1 _)).mono fun e w1 h => h.res
theorem mag49 (w : World) (g : Nat) (s : ByteArray) (i : Nat) (hr : RD w g s i) (hi : i ≤ s.size) (hsz : s.size ≤ 1000000000) (k p : Nat) (hk : k < 3) (hp : w.cell? ⟨p, 0, none⟩ = some (.int .i64 k)) : Calls Tryd.prog 49 #[.pointer (some ⟨g, 0, none⟩), .func (.func 50) #[] #[.pointer (some ⟨p, 0, none⟩)]] w fun e w1 => ResR w w1 e .u8 g s (pMag s k i) :=
  (char49 w g s i hr hi hsz 50 #[.pointer (some ⟨p, 0, none⟩)] _ call50 (fun w1 hb _ => by rw [app11]; exact all50 w1 _ k p hk (cL hb hp))).mono fun e w1 h => h.res
/-! where readings end -/
theorem getN_ok {s : List Nat} (hs : Small s) {i n j : Nat} (h : getN s i = (n, j, 0)) : i < j ∧ j ≤ s.length ∧ n < M64 := by
  obtain ⟨h1, h2, h3⟩ := getN_canon hs h
  have h4 := (numB_le h1).1
  have h5 := congrArg List.length h2
  rw [List.length_append, List.length_drop, List.length_drop] at h5
  omega
theorem pNum_ok {s : ByteArray} {lo hi i n j : Nat} (h : pNum s lo hi i = .ok (n, j)) : i < j ∧ j ≤ s.size ∧ n < M64 ∧ lo ≤ n ∧ n ≤ hi ∧ getN (wl s) i = (n, j, 0) := by
  unfold pNum stepN at h
  split at h
  · cases h
  · rename_i h1
    split at h
    · cases h
    · rename_i h2
      injection h with h
      injection h with h3 h4
      have hg : getN (wl s) i = (n, j, 0) := by
        obtain ⟨a, b, c⟩ : ∃ x, getN (wl s) i = x := ⟨_, rfl⟩
        rw [← h3, ← h4]
        exact Prod.ext rfl (Prod.ext rfl (by simpa using h1))
      have h5 := getN_ok (wl_lt s) hg
      rw [wl_length] at h5
      have h6 : ¬ (n < lo ∨ hi < n) := by
        intro h7
        apply h2
        unfold rangeN
        rw [h3, if_pos h7]
        decide
      exact ⟨h5.1, h5.2.1, h5.2.2, by omega, by omega, hg⟩
theorem pChar_ok {s : ByteArray} {i x j : Nat} (hi : i ≤ s.size) (h : pChar s i = .ok (x, j)) : j = i + 1 ∧ j ≤ s.size ∧ x < 256 ∧ (wl s)[i]? = some x := by
  unfold pChar stepN charN at h
  by_cases h2 : i = s.size
  · rw [if_pos h2] at h; simp at h
  · rw [if_neg h2] at h
    simp at h
    refine ⟨h.2.symm, by omega, by rw [← h.1]; exact at_lt s i, by rw [← h.1]; exact wl_at (by omega)⟩

end Dw
end Go.Proofs.YtdkbgbdgmihlmaaDoor
