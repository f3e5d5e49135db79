/- The chapter's lists, and the law's look at them. -/
import Derived.Test.YtdlcnpjdloinnaaRow
namespace Go.Proofs.Ytdlcnpjdloinnaa
open Go.RowKit
def eA : Ent := ⟨⟨#[97]⟩, 0, true⟩
def eC : Ent := ⟨⟨#[99]⟩, 3, false⟩
def eA1 : Ent := ⟨⟨#[97]⟩, 1, false⟩
def eB : Ent := ⟨⟨#[98]⟩, 2, false⟩
def eB9 : Ent := ⟨⟨#[98]⟩, 9, false⟩
def eD : Ent := ⟨⟨#[100]⟩, 0, true⟩
def exL : List (List Ent) := [[eA, eC], [eA1, eB], [eB9, eD]]
theorem example_any (w : World) : Calls Try.prog 24 #[] w (RetLs w exL) := by
  go_enter Try.func24, Try.ntmps24
  go_wp2
  have h1 := REs.new w [eA, eC] #[.string ⟨#[97]⟩, .int .u32 0, .bool true, .string ⟨#[99]⟩, .int .u32 3, .bool false] rfl
  have k1 := (Below.refl w.heap.size w).alloc (Nat.le_refl _) (.cells #[.string ⟨#[97]⟩, .int .u32 0, .bool true, .string ⟨#[99]⟩, .int .u32 3, .bool false] 31)
  generalize hw1 : w.alloc (.cells #[.string ⟨#[97]⟩, .int .u32 0, .bool true, .string ⟨#[99]⟩, .int .u32 3, .bool false] 31) = w1 at *
  have s1 : w.heap.size + 1 = w1.heap.size := by rw [← hw1]; simp
  have h2 := REs.new w1 [eA1, eB] #[.string ⟨#[97]⟩, .int .u32 1, .bool false, .string ⟨#[98]⟩, .int .u32 2, .bool false] rfl
  have k2 := (Below.refl w1.heap.size w1).alloc (Nat.le_refl _) (.cells #[.string ⟨#[97]⟩, .int .u32 1, .bool false, .string ⟨#[98]⟩, .int .u32 2, .bool false] 31)
  generalize hw2 : w1.alloc (.cells #[.string ⟨#[97]⟩, .int .u32 1, .bool false, .string ⟨#[98]⟩, .int .u32 2, .bool false] 31) = w2 at *
  have s2 : w1.heap.size + 1 = w2.heap.size := by rw [← hw2]; simp
  have h3 := REs.new w2 [eB9, eD] #[.string ⟨#[98]⟩, .int .u32 9, .bool false, .string ⟨#[100]⟩, .int .u32 0, .bool true] rfl
  have k3 := (Below.refl w2.heap.size w2).alloc (Nat.le_refl _) (.cells #[.string ⟨#[98]⟩, .int .u32 9, .bool false, .string ⟨#[100]⟩, .int .u32 0, .bool true] 31)
  generalize hw3 : w2.alloc (.cells #[.string ⟨#[98]⟩, .int .u32 9, .bool false, .string ⟨#[100]⟩, .int .u32 0, .bool true] 31) = w3 at *
  have s3 : w2.heap.size + 1 = w3.heap.size := by rw [← hw3]; simp
  rw [s1] at h1 ⊢
  rw [s2] at h2 ⊢
  rw [s3] at h3 ⊢
  have g1 : REs w3 w3.heap.size (some ⟨w.heap.size, 0, none⟩) [eA, eC] := (((h1.below k2).any).below k3).any
  have g2 : REs w3 w3.heap.size (some ⟨w1.heap.size, 0, none⟩) [eA1, eB] := (h2.below k3).any
  have hk : Below w.heap.size w w3 := k1.trans ((k2.mono k1.size).trans (k3.mono (Nat.le_trans k1.size k2.size)))
  go_ret
  refine ⟨_, 3, rfl, by decide, ?_, .inr ⟨_, _, rfl⟩, hk.trans ((Below.refl _ _).alloc hk.size _)⟩
  have hq := RLs.new w3 exL #[.slice (some ⟨w.heap.size, 0, none⟩) 2 2, .slice (some ⟨w1.heap.size, 0, none⟩) 2 2, .slice (some ⟨w2.heap.size, 0, none⟩) 2 2] (fun i l hi => by
    match i, hi with
    | 0, hi => injection hi with hi; subst hi; exact ⟨_, 2, rfl, by decide, g1⟩
    | 1, hi => injection hi with hi; subst hi; exact ⟨_, 2, rfl, by decide, g2⟩
    | 2, hi => injection hi with hi; subst hi; exact ⟨_, 2, rfl, by decide, h3⟩
    | n + 3, hi => simp [exL] at hi)
  have e : (w3.alloc (.cells #[.slice (some ⟨w.heap.size, 0, none⟩) 2 2, .slice (some ⟨w1.heap.size, 0, none⟩) 2 2, .slice (some ⟨w2.heap.size, 0, none⟩) 2 2] 26)).heap.size = w3.heap.size + 1 := by simp
  rw [e]; exact hq

theorem exL_rises : ∀ l ∈ exL, Rises l := by
  intro l hl
  simp only [exL, List.mem_cons, List.not_mem_nil, or_false] at hl
  rcases hl with rfl | rfl | rfl <;> exact List.pairwise_cons.2 ⟨by intro a ha; simp at ha; subst ha; simp only [Ent.key, ByteArray.toList_eq, eA, eC, eA1, eB, eB9, eD]; decide, List.pairwise_singleton _ _⟩
theorem exL_len : ∀ l ∈ exL, l.length ≤ 2 := by
  intro l hl
  simp only [exL, List.mem_cons, List.not_mem_nil, or_false] at hl
  rcases hl with rfl | rfl | rfl <;> decide
theorem from_any (k : ByteArray) (n : Int) (b : Bool) (w : World) (h : srcV (sourceE exL k.toList) = .tuple #[.int .i64 n, .bool b]) :
    Calls Try.prog 25 #[.string k, .int .i64 n, .bool b] w fun e w' => e = .returned (.bool true) ∧ Below w.heap.size w w' := by
  have H := Lib.hid h
  clear h
  go_enter Try.func25, Try.ntmps25
  go_wp2_with (first
    | (go_at_call 24; refine (example_any _).mono ?_; rintro e w1 ⟨A, c, rfl, hc, hr, -, hb⟩)
    | (go_at_call 12; refine (sources_any exL A c k w1 (by decide) (fun l hl => Nat.le_trans (exL_len l hl) (by decide)) exL_rises hr).mono ?_; rintro e w2 ⟨rfl, hb2⟩; rw [H.out]))
  all_goals (go_ret; exact ⟨by simp, hb.trans (hb2.mono hb.size)⟩)
theorem keyA : eA.key = [97] := by simp only [Ent.key, ByteArray.toList_eq, eA]
theorem keyC : eC.key = [99] := by simp only [Ent.key, ByteArray.toList_eq, eC]
theorem keyA1 : eA1.key = [97] := by simp only [Ent.key, ByteArray.toList_eq, eA1]
theorem keyB : eB.key = [98] := by simp only [Ent.key, ByteArray.toList_eq, eB]
theorem keyB9 : eB9.key = [98] := by simp only [Ent.key, ByteArray.toList_eq, eB9]
theorem keyD : eD.key = [100] := by simp only [Ent.key, ByteArray.toList_eq, eD]
theorem exTold : togE exL = [eA, eB, eC, eD] := by
  refine tog_eq exL_rises ?_ fun k => ?_
  · simp only [Rises, List.pairwise_cons, List.mem_cons, List.not_mem_nil, or_false, forall_eq_or_imp, forall_eq, keyA, keyB, keyC, keyD, false_implies, implies_true, List.Pairwise.nil, and_true]
    decide
  · simp only [exL, fst_cons, findE_cons, keyA, keyB, keyC, keyD, keyA1, keyB9]
    repeat' split
    all_goals first | (subst_vars; simp_all; done) | (simp_all [fst, findE]; done) | (subst_vars; rfl)
theorem exLive : liveE (togE exL) = [eB, eC] := by rw [exTold]; rfl
theorem src_ex (k : ByteArray) (a : UInt8) (hk : k.toList = [a]) : sourceE exL k.toList = if a = 97 then some 0 else if a = 99 then some 0 else if a = 98 then some 1 else if a = 100 then some 2 else none := by
  rw [hk]
  simp only [sourceE, exL, List.findIdx?_cons, findE_cons, keyA, keyB, keyC, keyD, keyA1, keyB9, List.findIdx?_nil]
  by_cases h1 : a = 97
  · subst h1; rfl
  · by_cases h2 : a = 99
    · subst h2; rfl
    · by_cases h3 : a = 98
      · subst h3; rfl
      · by_cases h4 : a = 100
        · subst h4; rfl
        · have e1 : ¬ ([97] : List UInt8) = [a] := fun h => h1 (by injection h with h; exact h.symm)
          have e2 : ¬ ([99] : List UInt8) = [a] := fun h => h2 (by injection h with h; exact h.symm)
          have e3 : ¬ ([98] : List UInt8) = [a] := fun h => h3 (by injection h with h; exact h.symm)
          have e4 : ¬ ([100] : List UInt8) = [a] := fun h => h4 (by injection h with h; exact h.symm)
          simp [h1, h2, h3, h4, e1, e2, e3, e4, findE]
theorem from_98 (w : World) : Calls Try.prog 25 #[.string ⟨#[98]⟩, .int .i64 1, .bool true] w fun e w' => e = .returned (.bool true) ∧ Below w.heap.size w w' :=
  from_any _ _ _ _ (by rw [src_ex ⟨#[98]⟩ 98 (by rw [ByteArray.toList_eq])]; rfl)
theorem from_100 (w : World) : Calls Try.prog 25 #[.string ⟨#[100]⟩, .int .i64 2, .bool true] w fun e w' => e = .returned (.bool true) ∧ Below w.heap.size w w' :=
  from_any _ _ _ _ (by rw [src_ex ⟨#[100]⟩ 100 (by rw [ByteArray.toList_eq])]; rfl)
theorem from_101 (w : World) : Calls Try.prog 25 #[.string ⟨#[101]⟩, .int .i64 0, .bool false] w fun e w' => e = .returned (.bool true) ∧ Below w.heap.size w w' :=
  from_any _ _ _ _ (by rw [src_ex ⟨#[101]⟩ 101 (by rw [ByteArray.toList_eq])]; rfl)

/-- the cells of the chapter's lists that the law reads -/
structure ExAt (w : World) (B b off b0 o0 c0 b1 o1 c1 b2 o2 c2 : Nat) : Prop where
  lt : b < B
  l0 : w.cell? ⟨b, off, none⟩ = some (.slice (some ⟨b0, o0, none⟩) 2 c0)
  l1 : w.cell? ⟨b, off + 1, none⟩ = some (.slice (some ⟨b1, o1, none⟩) 2 c1)
  l2 : w.cell? ⟨b, off + 2, none⟩ = some (.slice (some ⟨b2, o2, none⟩) 2 c2)
  r0 : REs w B (some ⟨b0, o0, none⟩) [eA, eC]
  r1 : REs w B (some ⟨b1, o1, none⟩) [eA1, eB]
  r2 : REs w B (some ⟨b2, o2, none⟩) [eB9, eD]
theorem ExAt.below {w w' : World} {B b off b0 o0 c0 b1 o1 c1 b2 o2 c2 : Nat} (h : ExAt w B b off b0 o0 c0 b1 o1 c1 b2 o2 c2) (hb : Below B w w') : ExAt w' B b off b0 o0 c0 b1 o1 c1 b2 o2 c2 :=
  ⟨h.lt, ((bcell hb).1 _ _ h.lt).trans h.l0, ((bcell hb).1 _ _ h.lt).trans h.l1, ((bcell hb).1 _ _ h.lt).trans h.l2, h.r0.below hb, h.r1.below hb, h.r2.below hb⟩
theorem REs.shape {w : World} {B : Nat} {A : Option Addr} {es : List Ent} (h : REs w B A es) (h0 : 0 < es.length) : ∃ b off, A = some ⟨b, off, none⟩ := by
  obtain ⟨b, off, e, _⟩ := h.rd.2 h0
  exact ⟨b, off, e⟩
theorem ex_at {w : World} {B : Nat} {A : Option Addr} (h : RLs w B A exL) : ∃ b off b0 o0 c0 b1 o1 c1 b2 o2 c2, A = some ⟨b, off, none⟩ ∧ ExAt w B b off b0 o0 c0 b1 o1 c1 b2 o2 c2 := by
  obtain ⟨b, off, rfl, hlt, hr⟩ := h (by decide)
  obtain ⟨A0, c0, a1, a2, a3⟩ := hr 0 [eA, eC] rfl
  obtain ⟨A1, c1, d1, d2, d3⟩ := hr 1 [eA1, eB] rfl
  obtain ⟨A2, c2, e1, e2, e3⟩ := hr 2 [eB9, eD] rfl
  obtain ⟨b0, o0, rfl⟩ := a3.shape (by decide)
  obtain ⟨b1, o1, rfl⟩ := d3.shape (by decide)
  obtain ⟨b2, o2, rfl⟩ := e3.shape (by decide)
  exact ⟨b, off, b0, o0, c0, b1, o1, c1, b2, o2, c2, rfl, hlt, a1, d1, e1, a3, d3, e3⟩
theorem REs.two {w : World} {B b off : Nat} {x y : Ent} (h : REs w B (some ⟨b, off, none⟩) [x, y]) :
    b < B ∧ w.cell? ⟨b, off, none⟩ = some (.string x.word) ∧ w.cell? ⟨b, off + 1, none⟩ = some (.int .u32 x.weight) ∧ w.cell? ⟨b, off + 2, none⟩ = some (.bool x.gone) ∧
    w.cell? ⟨b, off + 3, none⟩ = some (.string y.word) ∧ w.cell? ⟨b, off + 4, none⟩ = some (.int .u32 y.weight) ∧ w.cell? ⟨b, off + 5, none⟩ = some (.bool y.gone) := by
  obtain ⟨b', off', e, hb, h0, h1, h2⟩ := h.at_ (i := 0) (by simp)
  injection e with e; injection e with e e'; subst e; subst e'
  obtain ⟨b', off', e, hb, k0, k1, k2⟩ := h.at_ (i := 1) (by simp)
  injection e with e; injection e with e e'; subst e; subst e'
  exact ⟨hb, by simpa using h0, by simpa using h1, by simpa using h2, by simpa using k0, by simpa using k1, by simpa using k2⟩

theorem lists_ex (A : Option Addr) (c : Nat) (w : World) (h : RLs w w.heap.size A exL) : Calls Try.prog 11 #[.slice A 3 c] w fun e w' => ∃ A' c', e = .returned (.slice A' 4 c') ∧ REs w' w'.heap.size A' [eA, eB, eC, eD] ∧ Below w.heap.size w w' := by
  refine (lists_any A c exL w (by decide) (fun l hl => Nat.le_trans (exL_len l hl) (by decide)) (by decide) h).mono ?_
  rintro e w2 ⟨A3, d3, rfl, hd3, hr3, hb2⟩
  rw [exTold] at hr3 ⊢
  exact ⟨A3, d3, rfl, hr3, hb2⟩
theorem bottom_ex (A : Option Addr) (c : Nat) (w : World) (h : RLs w w.heap.size A exL) : Calls Try.prog 15 #[.slice A 3 c] w fun e w' => ∃ A' c', e = .returned (.slice A' 2 c') ∧ REs w' w'.heap.size A' [eB, eC] ∧ Below w.heap.size w w' := by
  refine (bottom_any A c exL w (by decide) (fun l hl => Nat.le_trans (exL_len l hl) (by decide)) (by decide) h).mono ?_
  rintro e w2 ⟨A3, d3, rfl, hd3, hr3, hb2⟩
  rw [exLive] at hr3 ⊢
  exact ⟨A3, d3, rfl, hr3, hb2⟩
theorem keepB {B : Nat} {w0 w w' : World} (h : Below B w0 w) (hk : Below w.heap.size w w') (hB : B ≤ w.heap.size) : Below B w0 w' := h.trans (hk.mono hB)
theorem same_lit {w2 : World} {A B : Option Addr} {n c d : Nat} (es : List Ent) (h : REs w2 w2.heap.size A es) (h' : REs w2 w2.heap.size B es) (hn : n = es.length) (hl : n ≤ 1000000) :
    Calls Try.prog 14 #[.slice A n c, .slice B n d] w2 fun e w' => e = .returned (.bool true) ∧ Below w2.heap.size w2 w' := by
  subst hn
  exact same_any es A _ c _ _ hl h h'
theorem REs.up {W : World} {A : Option Addr} {es : List Ent} (h : REs W W.heap.size A es) (o : Obj) : REs (W.alloc o) (W.alloc o).heap.size A es := (h.alloc (Nat.le_refl _) _).more (by simp)
theorem REs.lit {W : World} {es : List Ent} {cs : Array Value} (hc : cs = (ecs es).toArray) : REs (W.alloc (.cells cs 31)) (W.alloc (.cells cs 31)).heap.size (some ⟨W.heap.size, 0, none⟩) es := (REs.new W es cs hc).more (by simp)
theorem REs.litLater {W W1 w2 : World} {es : List Ent} {cs : Array Value} {g : Nat} (hb : Below W1.heap.size W1 w2) (hh : W1.heap = (W.alloc (.cells cs 31)).heap) (hg : g = W.heap.size) (hc : cs = (ecs es).toArray) : REs w2 w2.heap.size (some ⟨g, 0, none⟩) es := by
  subst hg
  have h1 : REs W1 W1.heap.size (some ⟨W.heap.size, 0, none⟩) es := by
    have := (REs.lit (W := W) (es := es) hc).keep (w' := W1) (fun b _ => by rw [hh])
    rwa [← hh] at this
  exact (h1.below hb).any
theorem REs.later {W w2 : World} {A : Option Addr} {es : List Ent} (h : REs W W.heap.size A es) (hb : Below W.heap.size W w2) : REs w2 w2.heap.size A es := (h.below hb).any
set_option maxHeartbeats 4000000 in
set_option maxRecDepth 100000 in
theorem works_any (w : World) : Calls Try.prog 9 #[] w fun e w' => e = .returned (.bool true) ∧ Below w.heap.size w w' := by
  go_enter Try.func9, Try.ntmps9
  go_wp2_with (go_at_call 24; refine (example_any _).mono ?_; rintro e w1 ⟨A, c, rfl, hc, hr, -, hb⟩; obtain ⟨b, off, b0, o0, c0, b1, o1, c1, b2, o2, c2, rfl, hx⟩ := ex_at hr)
  have hR : ∀ w', Below w1.heap.size w1 w' → RLs w' w'.heap.size (some ⟨b, off, none⟩) exL := fun w' hb' => (hr.below hb').more hb'.size
  have HR := Lib.hid hR
  clear hR
  simp only [show exL.length = 3 from rfl] at hc ⊢
  have mk : ∀ w' : World, Below w1.heap.size w1 w' → (Below w1.heap.size w1 w' ∧ w'.cell? ⟨b, off, none⟩ = some (.slice (some ⟨b0, o0, none⟩) 2 c0) ∧ w'.cell? ⟨b, off + 1, none⟩ = some (.slice (some ⟨b1, o1, none⟩) 2 c1) ∧ w'.cell? ⟨b, off + 2, none⟩ = some (.slice (some ⟨b2, o2, none⟩) 2 c2) ∧
      w'.cell? ⟨b0, o0, none⟩ = some (.string eA.word) ∧ w'.cell? ⟨b0, o0 + 1, none⟩ = some (.int .u32 eA.weight) ∧ w'.cell? ⟨b0, o0 + 2, none⟩ = some (.bool eA.gone) ∧
      w'.cell? ⟨b0, o0 + 3, none⟩ = some (.string eC.word) ∧ w'.cell? ⟨b0, o0 + 4, none⟩ = some (.int .u32 eC.weight) ∧ w'.cell? ⟨b0, o0 + 5, none⟩ = some (.bool eC.gone) ∧
      w'.cell? ⟨b1, o1 + 3, none⟩ = some (.string eB.word) ∧ w'.cell? ⟨b1, o1 + 4, none⟩ = some (.int .u32 eB.weight) ∧ w'.cell? ⟨b1, o1 + 5, none⟩ = some (.bool eB.gone) ∧
      w'.cell? ⟨b2, o2 + 3, none⟩ = some (.string eD.word) ∧ w'.cell? ⟨b2, o2 + 4, none⟩ = some (.int .u32 eD.weight) ∧ w'.cell? ⟨b2, o2 + 5, none⟩ = some (.bool eD.gone)) := fun w' hb' => by
    have hx2 := hx.below hb'
    obtain ⟨q0, q1, q2, q3, q4, q5, q6⟩ := hx2.r0.two
    obtain ⟨p0, p1, p2, p3, p4, p5, p6⟩ := hx2.r1.two
    obtain ⟨r0, r1, r2, r3, r4, r5, r6⟩ := hx2.r2.two
    exact ⟨hb', hx2.l0, hx2.l1, hx2.l2, q1, q2, q3, q4, q5, q6, p4, p5, p6, r4, r5, r6⟩
  have MK := Lib.hid mk
  clear mk hx hr
  go_wp2
  go_region_held3 (fun w' => Below w1.heap.size w1 w' ∧ w'.cell? ⟨b, off, none⟩ = some (.slice (some ⟨b0, o0, none⟩) 2 c0) ∧ w'.cell? ⟨b, off + 1, none⟩ = some (.slice (some ⟨b1, o1, none⟩) 2 c1) ∧ w'.cell? ⟨b, off + 2, none⟩ = some (.slice (some ⟨b2, o2, none⟩) 2 c2) ∧
      w'.cell? ⟨b0, o0, none⟩ = some (.string eA.word) ∧ w'.cell? ⟨b0, o0 + 1, none⟩ = some (.int .u32 eA.weight) ∧ w'.cell? ⟨b0, o0 + 2, none⟩ = some (.bool eA.gone) ∧
      w'.cell? ⟨b0, o0 + 3, none⟩ = some (.string eC.word) ∧ w'.cell? ⟨b0, o0 + 4, none⟩ = some (.int .u32 eC.weight) ∧ w'.cell? ⟨b0, o0 + 5, none⟩ = some (.bool eC.gone) ∧
      w'.cell? ⟨b1, o1 + 3, none⟩ = some (.string eB.word) ∧ w'.cell? ⟨b1, o1 + 4, none⟩ = some (.int .u32 eB.weight) ∧ w'.cell? ⟨b1, o1 + 5, none⟩ = some (.bool eB.gone) ∧
      w'.cell? ⟨b2, o2 + 3, none⟩ = some (.string eD.word) ∧ w'.cell? ⟨b2, o2 + 4, none⟩ = some (.int .u32 eD.weight) ∧ w'.cell? ⟨b2, o2 + 5, none⟩ = some (.bool eD.gone))
    (first | exact MK.out _ hcum | exact MK.out _ (Below.refl _ _).drew | exact MK.out _ (hcum.alloc (by have := hcum.size; simp; omega) _) | exact MK.out _ ((Below.refl _ _).drew.alloc (by simp) _))
    (first
      | (go_at_call 11; refine (lists_ex _ _ _ (HR.out _ (by first | assumption | exact (Below.refl _ _).drew | exact ((Below.refl _ _).drew.alloc (by simp) _)))).mono ?_; rintro e w2 ⟨A3, d3, rfl, hr3, hb2⟩
         first | (have hcum := keepL ((Below.refl _ _).drew : Below w1.heap.size w1 w1.drew) hb2) | (have hcum := keepL ((Below.refl w1.heap.size w1).drew.alloc (by simp) _) hb2))
      | (go_at_call 14; first
          | (have _hq := hr4; refine (same_lit [eB, eC] (by with_reducible exact hr4.up _) (by ((with_reducible refine REs.lit ?_); rfl)) rfl (by decide)).mono ?_; rintro e w5 ⟨rfl, hb5⟩; have hcum := keepL (hcum.alloc hcum.size _) hb5)
          | (have _hq := hr4; refine (same_lit [eB, eC] (by with_reducible exact hr4) (by exact REs.litLater hb4 rfl rfl rfl) rfl (by decide)).mono ?_; rintro e w5 ⟨rfl, hb5⟩; have hcum := keepL hcum hb5)
          | (refine (same_lit [eA, eB, eC, eD] (by with_reducible exact hr3.up _) (by ((with_reducible refine REs.lit ?_); rfl)) rfl (by decide)).mono ?_; rintro e w3 ⟨rfl, hb3⟩; have hcum := keepL (hcum.alloc hcum.size _) hb3)
          | (refine (same_lit [eA, eB, eC, eD] (by with_reducible exact hr3) (by exact REs.litLater hb2 rfl rfl rfl) rfl (by decide)).mono ?_; rintro e w3 ⟨rfl, hb3⟩; have hcum := keepL hcum hb3))
      | (go_at_call 15; first
          | (with_reducible refine (bottom_ex _ _ _ (HR.out _ hcum)).mono ?_;  rintro e w4 ⟨A4, d4, rfl, hr4, hb4⟩; have hcum := keepL hcum hb4)
          | (refine (bottom_ex _ _ _ (HR.out _ (hcum.alloc hcum.size _))).mono ?_; rintro e w4 ⟨A4, d4, rfl, hr4, hb4⟩; have hcum := keepL (hcum.alloc hcum.size _) hb4))
      | (go_at_call 25; first
          | (with_reducible refine (from_98 _).mono ?_; rintro e w6 ⟨rfl, hb6⟩; have hcum := keepL hcum hb6)
          | (with_reducible refine (from_100 _).mono ?_; rintro e w6 ⟨rfl, hb6⟩; have hcum := keepL hcum hb6)
          | (refine (from_101 _).mono ?_; rintro e w6 ⟨rfl, hb6⟩; have hcum := keepL hcum hb6))
      )
  all_goals (go_wp2; go_ret; exact ⟨rfl, hb.trans (hcum.mono hb.size)⟩)
end Go.Proofs.Ytdlcnpjdloinnaa
