/- What MergeKnown asks: no lists, empty ones, the chapter's hits. -/
import Derived.Test.YtdlcnpjdloinnaaHLists
import Derived.Test.YtdlcnpjdloinnaaBotPlain
namespace Go.Proofs.Ytdlcnpjdloinnaa
open Go.RowKit
def hA : Hit := ⟨⟨#[97]⟩, 1, false, 2⟩
def hB : Hit := ⟨⟨#[98]⟩, 0, true, 1⟩
def hA5 : Hit := ⟨⟨#[97]⟩, 5, false, 3⟩
def hB5 : Hit := ⟨⟨#[98]⟩, 5, false, 0⟩
def hBB : Hit := ⟨⟨#[98, 98]⟩, 6, false, 1⟩
theorem hkA : hA.key = [97] := by simp only [Hit.key, ByteArray.toList_eq, hA]
theorem hkB : hB.key = [98] := by simp only [Hit.key, ByteArray.toList_eq, hB]
theorem hkA5 : hA5.key = [97] := by simp only [Hit.key, ByteArray.toList_eq, hA5]
theorem hkB5 : hB5.key = [98] := by simp only [Hit.key, ByteArray.toList_eq, hB5]
theorem hkBB : hBB.key = [98, 98] := by simp only [Hit.key, ByteArray.toList_eq, hBB]
def one : List Hit := [hA, hB]
def two : List Hit := [hA5, hB5, hBB]
theorem one_rises : H.Rises one := by
  simp only [one, H.Rises, List.pairwise_cons, List.mem_cons, List.not_mem_nil, or_false, forall_eq, hkA, hkB, false_implies, implies_true, List.Pairwise.nil, and_true]; decide
theorem two_rises : H.Rises two := by
  simp only [two, H.Rises, List.pairwise_cons, List.mem_cons, List.not_mem_nil, or_false, forall_eq_or_imp, forall_eq, hkA5, hkB5, hkBB, false_implies, implies_true, List.Pairwise.nil, and_true]; decide
theorem both_rise {a b : List Hit} (ha : H.Rises a) (hb : H.Rises b) : ∀ l ∈ [a, b], H.Rises l := fun l hl => by
  simp only [List.mem_cons, List.not_mem_nil, or_false] at hl
  rcases hl with rfl | rfl
  · exact ha
  · exact hb
theorem fst_two (a b : List Hit) (k : List UInt8) : H.fst [a, b] k = (H.findE a k).or (H.findE b k) := by
  rw [H.fst_cons, H.fst_cons]
  cases H.findE a k <;> cases H.findE b k <;> rfl
theorem one_two : H.togE [one, two] = [hA, hB, hBB] := by
  refine H.tog_eq (both_rise one_rises two_rises) ?_ fun k => ?_
  · simp only [H.Rises, List.pairwise_cons, List.mem_cons, List.not_mem_nil, or_false, forall_eq_or_imp, forall_eq, hkA, hkB, hkBB, false_implies, implies_true, List.Pairwise.nil, and_true]
    decide
  · rw [fst_two]
    simp only [one, two, H.findE_cons, hkA, hkB, hkA5, hkB5, hkBB]
    repeat' split
    all_goals first | (subst_vars; simp_all; done) | (simp_all [H.findE]; done) | (subst_vars; rfl)
theorem two_one : H.togE [two, one] = two := by
  refine H.tog_eq (both_rise two_rises one_rises) two_rises fun k => ?_
  rw [fst_two]
  simp only [one, two, H.findE_cons, hkA, hkB, hkA5, hkB5, hkBB]
  repeat' split
  all_goals first | (subst_vars; simp_all; done) | (simp_all [H.findE]; done) | (subst_vars; rfl)
def xE : Ent := ⟨⟨#[120]⟩, 0, true⟩
theorem lists_none (w : World) : Calls Try.prog 11 #[.slice none 0 0] w fun e w' => ∃ A c, e = .returned (.slice A 0 c) ∧ Below w.heap.size w w' :=
  (lists_any none 0 [] w (by decide) (by simp) (by decide) (fun h => absurd h (by decide))).mono fun e w' ⟨A, c, he, _, _, hb⟩ => ⟨A, c, he, hb⟩
theorem lists_nils (w : World) : Calls Try.prog 11 #[.slice (some ⟨w.heap.size, 0, none⟩) 2 2] (w.alloc (.cells #[.slice none 0 0, .slice none 0 0] 26)) fun e w' => ∃ A c, e = .returned (.slice A 0 c) ∧ Below w.heap.size w w' := by
  have hr : RLs (w.alloc (.cells #[.slice none 0 0, .slice none 0 0] 26)) (w.alloc (.cells #[.slice none 0 0, .slice none 0 0] 26)).heap.size (some ⟨w.heap.size, 0, none⟩) [[], []] :=
    (RLs.new w [[], []] #[.slice none 0 0, .slice none 0 0] (fun i l hi => by
      match i, hi with
      | 0, hi => injection hi with hi; subst hi; exact ⟨none, 0, rfl, Nat.le_refl _, REs.nil_⟩
      | 1, hi => injection hi with hi; subst hi; exact ⟨none, 0, rfl, Nat.le_refl _, REs.nil_⟩
      | n + 2, hi => simp at hi)).more (by simp)
  have he : togE [([] : List Ent), []] = [] := rfl
  refine (lists_any (some ⟨w.heap.size, 0, none⟩) 2 [[], []] _ (by decide) (by simp) (by decide) hr).mono fun e w' ⟨A, c, h1, _, _, hb⟩ => ⟨A, c, ?_, keepL ((Below.refl _ _).alloc (Nat.le_refl _) _) hb⟩
  rw [h1, he]; rfl
theorem bottom_none (w : World) : Calls Try.prog 15 #[.slice none 0 0] w fun e w' => ∃ A c, e = .returned (.slice A 0 c) ∧ Below w.heap.size w w' :=
  (bottom_any none 0 [] w (by decide) (by simp) (by decide) (fun h => absurd h (by decide))).mono fun e w' ⟨A, c, he, _, _, hb⟩ => ⟨A, c, he, hb⟩
theorem hits_none (w : World) : Calls Try.prog 20 #[.slice none 0 0] w fun e w' => ∃ A c, e = .returned (.slice A 0 c) ∧ Below w.heap.size w w' :=
  (H.hits_any none 0 [] w (by decide) (by simp) (by decide) (fun h => absurd h (by decide))).mono fun e w' ⟨A, c, he, _, _, hb⟩ => ⟨A, c, he, hb⟩
theorem hits_nil (w : World) : Calls Try.prog 20 #[.slice (some ⟨w.heap.size, 0, none⟩) 1 1] (w.alloc (.cells #[.slice none 0 0] 41)) fun e w' => ∃ A c, e = .returned (.slice A 0 c) ∧ Below w.heap.size w w' := by
  have hr := H.RLs.one w (A := none) (l := []) (n := 0) (c := 0) rfl (Nat.le_refl _) RHs.nil_
  have he : H.liveH (H.togE [([] : List Hit)]) = [] := rfl
  refine (H.hits_any (some ⟨w.heap.size, 0, none⟩) 1 [[]] _ (by decide) (by simp) (by decide) hr).mono fun e w' ⟨A, c, h1, _, _, hb⟩ => ⟨A, c, ?_, keepL ((Below.refl _ _).alloc (Nat.le_refl _) _) hb⟩
  rw [h1, he]; rfl
theorem bottom_x (w : World) : Calls Try.prog 15 #[.slice (some ⟨w.heap.size + 1, 0, none⟩) 1 1] ((w.alloc (.cells #[.string ⟨#[120]⟩, .int .u32 0, .bool true] 31)).alloc (.cells #[.slice (some ⟨w.heap.size, 0, none⟩) 1 1] 26)) fun e w' => ∃ A c, e = .returned (.slice A 0 c) ∧ Below w.heap.size w w' := by
  have h0 : REs (w.alloc (.cells #[.string ⟨#[120]⟩, .int .u32 0, .bool true] 31)) (w.alloc (.cells #[.string ⟨#[120]⟩, .int .u32 0, .bool true] 31)).heap.size (some ⟨w.heap.size, 0, none⟩) [xE] := REs.lit rfl
  have hr := RLs.one _ (n := 1) (c := 1) rfl (Nat.le_refl _) h0
  have hs : Rises [xE] := List.pairwise_singleton _ _
  have he : liveE (togE [[xE]]) = [] := by rw [whole_same hs]; rfl
  have e1 : (w.alloc (.cells #[.string ⟨#[120]⟩, .int .u32 0, .bool true] 31)).heap.size = w.heap.size + 1 := by simp
  rw [e1] at hr
  refine (bottom_any _ 1 [[xE]] _ (by decide) (by simp) (by decide) hr).mono fun e w' ⟨A, c, h1, _, _, hb⟩ => ⟨A, c, ?_, keepL (((Below.refl _ _).alloc (Nat.le_refl _) _).alloc (by simp) _) hb⟩
  rw [h1, he]; rfl
/-- two lists of hits in a row that was just made -/
theorem H.RLs.pair (W : World) {A B : Option Addr} {a b : List Hit} {n m c d : Nat} (hn : n = a.length) (hm : m = b.length) (hc : n ≤ c) (hd : m ≤ d) (ha : RHs W W.heap.size A a) (hb : RHs W W.heap.size B b) :
    H.RLs (W.alloc (.cells #[.slice A n c, .slice B m d] 41)) (W.alloc (.cells #[.slice A n c, .slice B m d] 41)).heap.size (some ⟨W.heap.size, 0, none⟩) [a, b] := by
  subst hn
  subst hm
  refine (H.RLs.new W [a, b] _ (fun i l' hi => ?_)).more (by simp)
  match i, hi with
  | 0, hi => injection hi with hi; subst hi; exact ⟨A, c, rfl, hc, ha⟩
  | 1, hi => injection hi with hi; subst hi; exact ⟨B, d, rfl, hd, hb⟩
  | n + 2, hi => simp at hi
theorem H.RLs.up {W : World} {A : Option Addr} {L : List (List Hit)} (h : H.RLs W W.heap.size A L) (o : Obj) : H.RLs (W.alloc o) (W.alloc o).heap.size A L := (h.below ((Below.refl _ _).alloc (Nat.le_refl _) o)).more (by simp)
theorem hits_12 (A : Option Addr) (c : Nat) (w : World) (h : H.RLs w w.heap.size A [one, two]) : Calls Try.prog 20 #[.slice A 2 c] w (RetHs w [hA, hBB]) := by
  have := H.hits_any A c [one, two] w (by decide) (by simp [one, two]) (by decide) h
  rw [one_two] at this
  exact this
theorem hits_21 (A : Option Addr) (c : Nat) (w : World) (h : H.RLs w w.heap.size A [two, one]) : Calls Try.prog 20 #[.slice A 2 c] w (RetHs w two) := by
  have := H.hits_any A c [two, one] w (by decide) (by simp [one, two]) (by decide) h
  rw [two_one] at this
  exact this
theorem hsame_lit {w2 : World} {A B : Option Addr} {n c d : Nat} (es : List Hit) (h : RHs w2 w2.heap.size A es) (h' : RHs w2 w2.heap.size B es) (hn : n = es.length) (hl : n ≤ 1000000) :
    Calls Try.prog 19 #[.slice A n c, .slice B n d] w2 fun e w' => e = .returned (.bool true) ∧ Below w2.heap.size w2 w' := by
  subst hn
  exact H.same_any es A _ c _ _ hl h h'
end Go.Proofs.Ytdlcnpjdloinnaa
