/- The iterator of merge.together at entries: it tells, of lists side by side, the least head (of the first list that has it) again and again. For lists that lie in memory. -/
import Derived.Test.YtdlcnpjdloinnaaRange
import Derived.Test.YtdlcnpjdloinnaaRef5
import Derived.Laws.CopyOwn
namespace Go.Proofs.Ytdlcnpjdloinnaa
open Go.RowKit

/-! ### What it computes -/
def better (R : List (List Ent)) (cur : Option Nat) (i : Nat) : Option Nat :=
  match R[i]? with
  | some (e :: _) => match cur with
    | none => some i
    | some f => match R[f]? with
      | some (e' :: _) => if ltE e e' = true then some i else some f
      | _ => some f
  | _ => cur
def pickTo (R : List (List Ent)) : Nat → Option Nat
  | 0 => none
  | j + 1 => better R (pickTo R j) j
def headAt (R : List (List Ent)) (f : Nat) : Option Ent := (R[f]?).bind List.head?
theorem pickTo_some {R : List (List Ent)} {j f : Nat} (h : pickTo R j = some f) : f < j ∧ ∃ e t, R[f]? = some (e :: t) := by
  induction j generalizing f with
  | zero => simp [pickTo] at h
  | succ j ih =>
    simp only [pickTo, better] at h
    split at h
    · rename_i e t he
      split at h
      · simp at h; subst h; exact ⟨by omega, e, t, he⟩
      · rename_i f' hf'
        obtain ⟨h1, h2⟩ := ih hf'
        split at h
        · split at h
          · simp at h; subst h; exact ⟨by omega, e, t, he⟩
          · simp at h; subst h; exact ⟨by omega, h2⟩
        · simp at h; subst h; exact ⟨by omega, h2⟩
    · obtain ⟨h1, h2⟩ := ih h
      exact ⟨by omega, h2⟩
def firstV : Option Nat → Int
  | none => -1
  | some f => f
/-- the head goes where its word is w -/
def dropHead (w : List UInt8) : List Ent → List Ent
  | [] => []
  | e :: t => if (e.word.toList == w) = true then t else e :: t
def total (R : List (List Ent)) : Nat := (R.map List.length).sum
def tog : Nat → List (List Ent) → List Ent
  | 0, _ => []
  | n + 1, R => match (pickTo R R.length).bind (headAt R) with
    | none => []
    | some e => e :: tog n (R.map (dropHead e.word.toList))
def togE (L : List (List Ent)) : List Ent := tog (total L) L
theorem dropHead_length (w : List UInt8) (l : List Ent) : (dropHead w l).length ≤ l.length := by
  cases l with
  | nil => simp [dropHead]
  | cons e t => simp only [dropHead]; split <;> simp
theorem total_drop (w : List UInt8) (R : List (List Ent)) : total (R.map (dropHead w)) ≤ total R := by
  induction R with
  | nil => simp [total]
  | cons l R ih => simp only [total, List.map_cons, List.sum_cons] at ih ⊢; have := dropHead_length w l; omega
theorem total_drop_lt {w : List UInt8} {R : List (List Ent)} {f : Nat} {e : Ent} {t : List Ent} (h : R[f]? = some (e :: t)) (he : (e.word.toList == w) = true) : total (R.map (dropHead w)) < total R := by
  induction R generalizing f with
  | nil => simp at h
  | cons l R ih =>
    cases f with
    | zero =>
      simp at h; subst h
      have := total_drop w R
      simp only [total, List.map_cons, List.sum_cons, dropHead, if_pos he] at this ⊢
      simp only [List.length_cons]; omega
    | succ f =>
      have := ih (f := f) (by simpa using h)
      have h2 := dropHead_length w l
      simp only [total, List.map_cons, List.sum_cons] at this ⊢
      omega
theorem tog_none {R : List (List Ent)} (h : pickTo R R.length = none) (n : Nat) : tog n R = [] := by cases n <;> simp [tog, h]
theorem tog_step {R : List (List Ent)} {f : Nat} {e : Ent} {t : List Ent} (h : pickTo R R.length = some f) (he : R[f]? = some (e :: t)) {n : Nat} (hn : total R ≤ n) :
    ∃ m, tog n R = e :: tog m (R.map (dropHead e.word.toList)) ∧ total (R.map (dropHead e.word.toList)) ≤ m := by
  have hlt := total_drop_lt he (show (e.word.toList == e.word.toList) = true by simp)
  cases n with
  | zero => omega
  | succ n => exact ⟨n, by simp [tog, h, headAt, he], by omega⟩
theorem tog_more {R : List (List Ent)} {n m : Nat} (hn : total R ≤ n) (hm : total R ≤ m) : tog n R = tog m R := by
  induction n generalizing R m with
  | zero =>
    cases hp : pickTo R R.length with
    | none => rw [tog_none hp, tog_none hp]
    | some f =>
      obtain ⟨_, e, t, he⟩ := pickTo_some hp
      have := total_drop_lt he (show (e.word.toList == e.word.toList) = true by simp)
      omega
  | succ n ih =>
    cases hp : pickTo R R.length with
    | none => rw [tog_none hp, tog_none hp]
    | some f =>
      obtain ⟨_, e, t, he⟩ := pickTo_some hp
      have hlt := total_drop_lt he (show (e.word.toList == e.word.toList) = true by simp)
      cases m with
      | zero => omega
      | succ m => simp only [tog, hp, headAt, Option.bind_some, he, List.head?_cons]; rw [ih (m := m) (by omega) (by omega)]
theorem togE_none {R : List (List Ent)} (h : pickTo R R.length = none) : togE R = [] := tog_none h _
theorem togE_step {R : List (List Ent)} {f : Nat} {e : Ent} {t : List Ent} (h : pickTo R R.length = some f) (he : R[f]? = some (e :: t)) : togE R = e :: togE (R.map (dropHead e.word.toList)) := by
  obtain ⟨m, h1, h2⟩ := tog_step h he (Nat.le_refl _)
  unfold togE
  rw [h1, tog_more h2 (Nat.le_refl _)]
theorem tog_length (n : Nat) (R : List (List Ent)) : (tog n R).length ≤ n := by
  induction n generalizing R with
  | zero => simp [tog]
  | succ n ih => simp only [tog]; split <;> simp; exact ih _
theorem togE_length (R : List (List Ent)) : (togE R).length ≤ total R := tog_length _ _

/-! ### Lists of lists in memory -/
/-- cell i of a row is a slice that reads as R[i], below B -/
def RowsOf (w : World) (B g off : Nat) (R : List (List Ent)) : Prop :=
  ∀ (i : Nat) (l : List Ent), R[i]? = some l → ∃ A c, w.cell? ⟨g, off + i, none⟩ = some (.slice A l.length c) ∧ l.length ≤ c ∧ REs w B A l
def RLs (w : World) (B : Nat) (A : Option Addr) (L : List (List Ent)) : Prop := 0 < L.length → ∃ b off, A = some ⟨b, off, none⟩ ∧ b < B ∧ RowsOf w B b off L
theorem RowsOf.keep {w w' : World} {B g off : Nat} {R : List (List Ent)} (h : RowsOf w B g off R) (hb : Below B w w') (hg : ∀ i, w'.cell? ⟨g, i, none⟩ = w.cell? ⟨g, i, none⟩) : RowsOf w' B g off R := by
  intro i l hi
  obtain ⟨A, c, h1, h2, h3⟩ := h i l hi
  exact ⟨A, c, (hg _).trans h1, h2, h3.below hb⟩
theorem RLs.below {w w' : World} {B : Nat} {A : Option Addr} {L : List (List Ent)} (h : RLs w B A L) (hb : Below B w w') : RLs w' B A L := by
  intro h0
  obtain ⟨b, off, e, hlt, hr⟩ := h h0
  exact ⟨b, off, e, hlt, hr.keep hb (fun i => hb.cell (p := ⟨b, i, none⟩) hlt)⟩

theorem add_row (b off i : Nat) : (⟨b, off, none⟩ : Addr).add i = ⟨b, off + i, none⟩ := by unfold Addr.add; split <;> simp_all
/-- the cells of the row behind A -/
def cellsOf (w : World) (A : Option Addr) (n : Nat) : List Value := (List.range n).map fun i => match A with
  | some ad => (w.cell? (ad.add i)).getD undef
  | none => undef
theorem cellsOf_length (w : World) (A : Option Addr) (n : Nat) : (cellsOf w A n).length = n := by simp [cellsOf]
theorem cellsOf_get {w : World} {B : Nat} {A : Option Addr} {L : List (List Ent)} (h : RLs w B A L) {i : Nat} {l : List Ent} (hi : L[i]? = some l) :
    ∃ Ai ci, (cellsOf w A L.length)[i]? = some (.slice Ai l.length ci) ∧ l.length ≤ ci ∧ REs w B Ai l := by
  have hlt : i < L.length := (List.getElem?_eq_some_iff.1 hi).1
  obtain ⟨b, off, rfl, hb, hr⟩ := h (by omega)
  obtain ⟨Ai, ci, h1, h2, h3⟩ := hr i l hi
  refine ⟨Ai, ci, ?_, h2, h3⟩
  simp [cellsOf, hlt, add_row, h1]
theorem cellsOf_at {w : World} {B : Nat} {A : Option Addr} {L : List (List Ent)} (h : RLs w B A L) {j : Nat} {v : Value} (hj : (cellsOf w A L.length)[j]? = some v) : ∃ ad, A = some ad ∧ w.cell? (ad.add j) = some v := by
  have hlt : j < L.length := by have := (List.getElem?_eq_some_iff.1 hj).1; rwa [cellsOf_length] at this
  obtain ⟨b, off, rfl, hb, hr⟩ := h (by omega)
  obtain ⟨Ai, ci, h1, h2, h3⟩ := hr j L[j] (List.getElem?_eq_getElem hlt)
  refine ⟨_, rfl, ?_⟩
  rw [add_row, h1, ← hj]
  simp [cellsOf, hlt, add_row, h1]
theorem cellsOf_one {w : World} {B : Nat} {A : Option Addr} {L : List (List Ent)} (h : RLs w B A L) : ∀ v ∈ cellsOf w A L.length, v.oneCell' = true := by
  intro v hv
  obtain ⟨i, hi, rfl⟩ := List.getElem_of_mem hv
  rw [cellsOf_length] at hi
  obtain ⟨Ai, ci, h1, _, _⟩ := cellsOf_get h (List.getElem?_eq_getElem hi)
  rw [List.getElem?_eq_getElem (by rw [cellsOf_length]; exact hi)] at h1
  injection h1 with h1
  rw [h1]; rfl

/-- the iterator's own row: block g; its cells read as R -/
def LeftIs (w : World) (B g : Nat) (R : List (List Ent)) : Prop :=
  ∃ cur : Array Value, w.heap[g]? = some (.cells cur 26 (0, 0)) ∧ cur.size = R.length ∧ ∀ (i : Nat) (l : List Ent), R[i]? = some l → ∃ (A : Option Addr) (c : Nat), cur[i]? = some (Value.slice A l.length c) ∧ l.length ≤ c ∧ REs w B A l
theorem LeftIs.at_ {w : World} {B g : Nat} {R : List (List Ent)} (h : LeftIs w B g R) {i : Nat} {l : List Ent} (hi : R[i]? = some l) :
    ∃ A c, w.cell? ⟨g, i, none⟩ = some (.slice A l.length c) ∧ l.length ≤ c ∧ REs w B A l ∧ w.frozen? ⟨g, i, none⟩ = false := by
  obtain ⟨cur, h1, h2, h3⟩ := h
  obtain ⟨A, c, h4, h5, h6⟩ := h3 i l hi
  exact ⟨A, c, (cell_of_row w g i cur 26 (0, 0) h1).trans h4, h5, h6, by simp [World.frozen?, h1]⟩
theorem LeftIs.keep {w w' : World} {B g : Nat} {R : List (List Ent)} (h : LeftIs w B g R) (hb : Below B w w') (hg : w'.heap[g]? = w.heap[g]?) : LeftIs w' B g R := by
  obtain ⟨cur, h1, h2, h3⟩ := h
  exact ⟨cur, hg.trans h1, h2, fun i l hi => by obtain ⟨A, c, h4, h5, h6⟩ := h3 i l hi; exact ⟨A, c, h4, h5, h6.below hb⟩⟩
theorem LeftIs.drewN {w : World} {B g : Nat} {R : List (List Ent)} (h : LeftIs w B g R) (n : Nat) : LeftIs (w.drewN n) B g R := h.keep (below_right (Below.refl _ _) n) rfl
theorem LeftIs.lt {w : World} {B g : Nat} {R : List (List Ent)} (h : LeftIs w B g R) : g < w.heap.size := by
  obtain ⟨cur, h1, _⟩ := h
  exact (Array.getElem?_eq_some_iff.1 h1).1
theorem LeftIs.set_ {w : World} {B g : Nat} {R : List (List Ent)} (h : LeftIs w B g R) (hB : B ≤ g) {i : Nat} {t : List Ent} {A : Option Addr} {c : Nat} (hi : i < R.length) (hc : t.length ≤ c) (hr : REs w B A t) :
    LeftIs (w.setCell ⟨g, i, none⟩ (.slice A t.length c)) B g (R.set i t) := by
  obtain ⟨cur, h1, h2, h3⟩ := h
  refine ⟨cur.setIfInBounds i (.slice A t.length c), ?_, by simp [h2], ?_⟩
  · simp [World.setCell, Array.getElem?_modify, h1]
  · intro j l hj
    by_cases e : j = i
    · subst e
      have : l = t := by
        rw [List.getElem?_set_self hi] at hj
        injection hj with hj
        exact hj.symm
      subst this
      exact ⟨A, c, by simp [h2, hi], hc, hr.setCell (p := ⟨g, j, none⟩) hB _⟩
    · rw [List.getElem?_set_ne (Ne.symm e)] at hj
      obtain ⟨A', c', h4, h5, h6⟩ := h3 j l hj
      exact ⟨A', c', by rw [Array.getElem?_setIfInBounds_ne (Ne.symm e)]; exact h4, h5, h6.setCell (p := ⟨g, i, none⟩) hB _⟩

theorem RLs.more {w : World} {B B' : Nat} {A : Option Addr} {L : List (List Ent)} (h : RLs w B A L) (hB : B ≤ B') : RLs w B' A L := by
  intro h0
  obtain ⟨b, off, e, hlt, hr⟩ := h h0
  exact ⟨b, off, e, by omega, fun i l hi => by obtain ⟨A, c, h1, h2, h3⟩ := hr i l hi; exact ⟨A, c, h1, h2, h3.more hB⟩⟩

theorem own_any (a : ByteArray) (b : Int) (c : Bool) (w : World) :
    Calls Try.prog 28 #[.agg #[.string a, .int .u32 b, .bool c]] w fun e w' => e = .returned (.string a) ∧ Below w.heap.size w w' := by
  go_enter Try.func28, Try.ntmps28
  go_wp2
  go_ret
  exact ⟨rfl, (Below.refl _ _).alloc (Nat.le_refl _) _⟩
theorem less_any (a b : ByteArray) (w : World) :
    Calls Try.prog 41 #[.string a, .string b] w fun e w' => e = .returned (.bool (Op.bytesLess a.toList b.toList)) ∧ w = w' := by
  go_enter Try.func41, Try.ntmps41
  go_wp2
  go_ret
  exact ⟨rfl, rfl⟩
theorem right_any (v : Value) (w : World) (hv : ∃ a b c, v = .agg #[.string a, .int .u32 b, .bool c]) :
    Calls Try.prog 30 #[v] w fun e w' => e = .returned (.bool true) ∧ Below w.heap.size w w' := by
  obtain ⟨a, b, c, rfl⟩ := hv
  go_enter Try.func30, Try.ntmps30
  go_wp2
  go_ret
  exact ⟨rfl, (Below.refl _ _).alloc (Nat.le_refl _) _⟩
end Go.Proofs.Ytdlcnpjdloinnaa
