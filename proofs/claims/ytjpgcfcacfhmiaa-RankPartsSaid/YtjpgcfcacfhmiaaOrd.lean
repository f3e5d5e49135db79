/- The order of hits: what rank's comparisons compute. -/
import Derived.Test.YtjpgcfcacfhmiaaBase
import Derived.Deep.RegionHeld3
import Derived.Sort.Grow
namespace Go.Proofs.Ytjpgcfcacfhmiaa
open Go.RowKit
set_option linter.unusedSimpArgs false
set_option linter.unusedVariables false
set_option linter.unnecessarySimpa false

/-! ### bytes in order -/
abbrev bl (a b : List UInt8) : Bool := Op.bytesLess a b
theorem bl_irrefl (a : List UInt8) : bl a a = false := by
  induction a with
  | nil => rfl
  | cons x a ih => simp [bl, Op.bytesLess] at ih ⊢; exact ih
theorem u8_tri (a b : UInt8) : a < b ∨ a = b ∨ b < a := by
  rcases Nat.lt_trichotomy a.toNat b.toNat with h | h | h
  · exact .inl (UInt8.lt_iff_toNat_lt.2 h)
  · exact .inr (.inl (UInt8.toNat_inj.1 h))
  · exact .inr (.inr (UInt8.lt_iff_toNat_lt.2 h))
theorem bl_cons (x y : UInt8) (a b : List UInt8) : bl (x :: a) (y :: b) = true ↔ x < y ∨ (x = y ∧ bl a b = true) := by simp [bl, Op.bytesLess]
theorem bl_trans {a b c : List UInt8} (h : bl a b = true) (k : bl b c = true) : bl a c = true := by
  induction a generalizing b c with
  | nil =>
    cases c with
    | nil => cases b <;> simp [bl, Op.bytesLess] at k
    | cons z c => rfl
  | cons x a ih =>
    cases b with
    | nil => simp [bl, Op.bytesLess] at h
    | cons y b =>
      cases c with
      | nil => simp [bl, Op.bytesLess] at k
      | cons z c =>
        rw [bl_cons] at h k ⊢
        rcases h with h | ⟨rfl, h⟩
        · rcases k with k | ⟨rfl, k⟩
          · left; rw [UInt8.lt_iff_toNat_lt] at *; omega
          · exact .inl h
        · rcases k with k | ⟨rfl, k⟩
          · exact .inl k
          · exact .inr ⟨rfl, ih h k⟩
theorem bl_tri (a b : List UInt8) : bl a b = true ∨ a = b ∨ bl b a = true := by
  induction a generalizing b with
  | nil => cases b with
    | nil => exact .inr (.inl rfl)
    | cons y b => exact .inl rfl
  | cons x a ih => cases b with
    | nil => exact .inr (.inr rfl)
    | cons y b =>
      rw [bl_cons, bl_cons]
      rcases u8_tri x y with h | rfl | h
      · exact .inl (.inl h)
      · rcases ih b with h | rfl | h
        · exact .inl (.inr ⟨rfl, h⟩)
        · exact .inr (.inl rfl)
        · exact .inr (.inr (.inr ⟨rfl, h⟩))
      · exact .inr (.inr (.inl h))
theorem bl_asymm {a b : List UInt8} (h : bl a b = true) : bl b a = false := by
  cases hb : bl b a with
  | false => rfl
  | true => have := bl_trans h hb; rw [bl_irrefl] at this; cases this
theorem bl_ne {a b : List UInt8} (h : bl a b = true) : a ≠ b := by rintro rfl; rw [bl_irrefl] at h; cases h
theorem bl_false {a b : List UInt8} (h : bl a b = false) : a = b ∨ bl b a = true := by
  rcases bl_tri a b with k | k | k
  · rw [k] at h; cases h
  · exact .inl k
  · exact .inr k

/-! ### comparisons -/
def cI (x y : Int) : Int := if x < y then -1 else if y < x then 1 else 0
def cW (a b : List UInt8) : Int := if bl a b = true then -1 else if a = b then 0 else 1
def intOf : Value → Int
  | .int _ n => n
  | _ => 0
def bitI (b : Bool) : Int := if b = true then 1 else 0
def firstL : List Int → Int
  | [] => 0
  | c :: l => if c ≠ 0 then c else firstL l
theorem nan39 (a : Int) (w : World) : Calls Try.prog 39 #[.int .i64 a] w fun e w' => e = .returned (.bool false) ∧ w = w' := by
  go_enter Try.func39, Try.ntmps39
  go_wp2
  go_ret
  exact ⟨by simp, rfl⟩
theorem nan40 (a : Int) (w : World) : Calls Try.prog 40 #[.int .u32 a] w fun e w' => e = .returned (.bool false) ∧ w = w' := by
  go_enter Try.func40, Try.ntmps40
  go_wp2
  go_ret
  exact ⟨by simp, rfl⟩
theorem nan41 (s : ByteArray) (w : World) : Calls Try.prog 41 #[.string s] w fun e w' => e = .returned (.bool false) ∧ w = w' := by
  go_enter Try.func41, Try.ntmps41
  go_wp2
  go_ret
  exact ⟨by simp, rfl⟩
theorem cmp32 (x y : Int) (w : World) : Calls Try.prog 32 #[.int .i64 x, .int .i64 y] w fun e w' => e = .returned (.int .i64 (cI x y)) ∧ w = w' := by
  by_cases h1 : x < y
  · go_enter Try.func32, Try.ntmps32
    go_wp2_with (go_at_call 39; refine (nan39 _ _).mono ?_; rintro e w' ⟨rfl, rfl⟩)
    go_ret
    exact ⟨by rw [show cI x y = -1 from if_pos h1]; rfl, rfl⟩
  · by_cases h2 : y < x
    · go_enter Try.func32, Try.ntmps32
      go_wp2_with (go_at_call 39; refine (nan39 _ _).mono ?_; rintro e w' ⟨rfl, rfl⟩)
      go_ret
      exact ⟨by rw [show cI x y = 1 by unfold cI; rw [if_neg (by omega), if_pos (by omega)]]; rfl, rfl⟩
    · go_enter Try.func32, Try.ntmps32
      go_wp2_with (go_at_call 39; refine (nan39 _ _).mono ?_; rintro e w' ⟨rfl, rfl⟩)
      go_ret
      exact ⟨by rw [show cI x y = 0 by unfold cI; rw [if_neg (by omega), if_neg (by omega)]]; rfl, rfl⟩
theorem cmp33 (x y : Int) (w : World) : Calls Try.prog 33 #[.int .u32 x, .int .u32 y] w fun e w' => e = .returned (.int .i64 (cI x y)) ∧ w = w' := by
  by_cases h1 : x < y
  · go_enter Try.func33, Try.ntmps33
    go_wp2_with (go_at_call 40; refine (nan40 _ _).mono ?_; rintro e w' ⟨rfl, rfl⟩)
    go_ret
    exact ⟨by rw [show cI x y = -1 from if_pos h1]; rfl, rfl⟩
  · by_cases h2 : y < x
    · go_enter Try.func33, Try.ntmps33
      go_wp2_with (go_at_call 40; refine (nan40 _ _).mono ?_; rintro e w' ⟨rfl, rfl⟩)
      go_ret
      exact ⟨by rw [show cI x y = 1 by unfold cI; rw [if_neg (by omega), if_pos (by omega)]]; rfl, rfl⟩
    · go_enter Try.func33, Try.ntmps33
      go_wp2_with (go_at_call 40; refine (nan40 _ _).mono ?_; rintro e w' ⟨rfl, rfl⟩)
      go_ret
      exact ⟨by rw [show cI x y = 0 by unfold cI; rw [if_neg (by omega), if_neg (by omega)]]; rfl, rfl⟩
theorem cmp34 (a b : ByteArray) (w : World) : Calls Try.prog 34 #[.string a, .string b] w fun e w' => e = .returned (.int .i64 (cW a.toList b.toList)) ∧ w = w' := by
  go_enter Try.func34, Try.ntmps34
  go_wp2_with (go_at_call 41; refine (nan41 _ _).mono ?_; rintro e w' ⟨rfl, rfl⟩)
  · have h1 : Op.bytesLess a.toList b.toList = true := by assumption
    go_ret
    exact ⟨by rw [show cW a.toList b.toList = -1 from if_pos h1]; rfl, rfl⟩
  · have h1 : Op.bytesLess a.toList b.toList = false := by assumption
    have h2 : (!a.toList == b.toList) = true := by assumption
    go_ret
    exact ⟨by rw [show cW a.toList b.toList = 1 by unfold cW; rw [if_neg (by rw [show bl a.toList b.toList = false from h1]; simp), if_neg (by simpa using h2)]]; rfl, rfl⟩
  · have h1 : Op.bytesLess a.toList b.toList = false := by assumption
    have h2 : (!a.toList == b.toList) = false := by assumption
    go_ret
    exact ⟨by rw [show cW a.toList b.toList = 0 by unfold cW; rw [if_neg (by rw [show bl a.toList b.toList = false from h1]; simp), if_pos (by simpa using h2)]]; rfl, rfl⟩
theorem bit28 (b : Bool) (w : World) : Calls Try.prog 28 #[.bool b] w fun e w' => e = .returned (.int .i64 (bitI b)) ∧ w = w' := by
  cases b
  all_goals
    go_enter Try.func28, Try.ntmps28
    go_wp2
    go_ret
    exact ⟨rfl, rfl⟩
/-- rank.first of four numbers in a block that was just made -/
theorem first31 (g : Nat) (c0 c1 c2 c3 : Int) (w : World) (h0 : w.cell? ⟨g, 0, none⟩ = some (.int .i64 c0)) (h1 : w.cell? ⟨g, 1, none⟩ = some (.int .i64 c1)) (h2 : w.cell? ⟨g, 2, none⟩ = some (.int .i64 c2)) (h3 : w.cell? ⟨g, 3, none⟩ = some (.int .i64 c3)) :
    Calls Try.prog 31 #[.slice (some ⟨g, 0, none⟩) 4 4] w fun e w' => e = .returned (.int .i64 (firstL [c0, c1, c2, c3])) ∧ w = w' := by
  have hc : ∀ j : Nat, j < 4 → ∃ c : Int, w.cell? ⟨g, j, none⟩ = some (.int .i64 c) ∧ [c0, c1, c2, c3].drop j = c :: [c0, c1, c2, c3].drop (j + 1) := fun j hj => by
    match j, hj with
    | 0, _ => exact ⟨_, h0, rfl⟩
    | 1, _ => exact ⟨_, h1, rfl⟩
    | 2, _ => exact ⟨_, h2, rfl⟩
    | 3, _ => exact ⟨_, h3, rfl⟩
  have HC := Lib.hid hc
  have HL : [c0, c1, c2, c3].drop 0 = [c0, c1, c2, c3] := rfl
  clear hc h0 h1 h2 h3
  generalize hl : [c0, c1, c2, c3] = l at *
  have H4 := Lib.hid (show l.length = 4 by rw [← hl]; rfl)
  clear hl HL
  go_enter Try.func31, Try.ntmps31
  go_wp2
  go_loop [7] (fun i => ∃ j : Nat, j ≤ 4 ∧ i = .int .i64 j ∧ firstL l = firstL (l.drop j)) (fun i => 4 - (intOf i).toNat)
  case atStart => exact ⟨0, by omega, rfl, rfl⟩
  case round =>
    obtain ⟨j, hj, rfl, hf⟩ := hrel
    have HF := Lib.hid hf
    clear hf
    by_cases hlt : j < 4
    · obtain ⟨c, hcj, hd⟩ := HC.out j hlt
      have HD := Lib.hid hd
      clear hd
      have hi : (j : Int) < 4 := by omega
      by_cases hz : c = 0
      · subst hz
        go_wp2
        go_round
        case rel => exact ⟨j + 1, by omega, by go_num, by rw [HF.out, HD.out]; simp [firstL]⟩
        case measure => simp [intOf]; omega
      · go_wp2
        go_ret
        exact ⟨by rw [HF.out, HD.out]; simp [firstL, hz], rfl⟩
    · go_wp2
      go_ret
      exact ⟨by rw [HF.out, List.drop_eq_nil_of_le (by have := H4.out; omega)]; rfl, rfl⟩

/-! ### the order of hits -/
def cmpH (a b : Hit) : Int := firstL [cI a.dist b.dist, cI b.weight a.weight, cW a.word.toList b.word.toList, cI (bitI a.gone) (bitI b.gone)]
theorem box4_cells {W : World} {B : Nat} {a b c d : Value} {t : TypeId} (h : W.heap[B]? = some (.cells #[a, b, c, d] t (0, 0))) :
    W.cell? ⟨B, 0, none⟩ = some a ∧ W.cell? ⟨B, 1, none⟩ = some b ∧ W.cell? ⟨B, 2, none⟩ = some c ∧ W.cell? ⟨B, 3, none⟩ = some d :=
  ⟨cell_of_row _ _ 0 _ t (0, 0) h, cell_of_row _ _ 1 _ t (0, 0) h, cell_of_row _ _ 2 _ t (0, 0) h, cell_of_row _ _ 3 _ t (0, 0) h⟩
set_option maxHeartbeats 4000000 in
theorem order23 (a b : Hit) (w : World) : Calls Try.prog 23 #[a.agg, b.agg] w fun e w' => e = .returned (.int .i64 (cmpH a b)) ∧ ∃ q os, w' = Sort.grow (w.drewN q) os := by
  obtain ⟨aw, at_, ag, ad⟩ := a
  obtain ⟨bw, bt, bg, bd⟩ := b
  simp only [Hit.agg]
  go_enter Try.func23, Try.ntmps23
  go_upto_region 1 with fail
  have hw2 : ∀ os, Sort.grow ((w.alloc (.cells #[.string aw, .int .u32 at_, .bool ag, .int .i64 ad] 26)).alloc (.cells #[.string bw, .int .u32 bt, .bool bg, .int .i64 bd] 26)).drew os = Sort.grow (w.drewN 1) (#[.cells #[.string aw, .int .u32 at_, .bool ag, .int .i64 ad] 26, .cells #[.string bw, .int .u32 bt, .bool bg, .int .i64 bd] 26] ++ os) := fun os => by
    rw [Sort.alloc_eq_grow, Sort.alloc_eq_grow, Sort.grow_grow]
    show Sort.grow (Sort.grow (w.drewN 1) _) os = _
    rw [Sort.grow_grow]; rfl
  have hA := heap_alloc_new w (.cells #[.string aw, .int .u32 at_, .bool ag, .int .i64 ad] 26)
  have hB := heap_alloc_new (w.alloc (.cells #[.string aw, .int .u32 at_, .bool ag, .int .i64 ad] 26)) (.cells #[.string bw, .int .u32 bt, .bool bg, .int .i64 bd] 26)
  rw [World.size_alloc] at hB
  have hA2 : ((w.alloc (.cells #[.string aw, .int .u32 at_, .bool ag, .int .i64 ad] 26)).alloc (.cells #[.string bw, .int .u32 bt, .bool bg, .int .i64 bd] 26)).heap[w.heap.size]? = some (.cells #[.string aw, .int .u32 at_, .bool ag, .int .i64 ad] 26) := (Below.heap_alloc _ _ _ (by simp)).trans hA
  have hlt : w.heap.size + 1 < ((w.alloc (.cells #[.string aw, .int .u32 at_, .bool ag, .int .i64 ad] 26)).alloc (.cells #[.string bw, .int .u32 bt, .bool bg, .int .i64 bd] 26)).heap.size := by simp
  obtain ⟨a0, a1, a2, a3⟩ := box4_cells hA2
  obtain ⟨b0, b1, b2, b3⟩ := box4_cells hB
  generalize (w.alloc (.cells #[.string aw, .int .u32 at_, .bool ag, .int .i64 ad] 26)).alloc (.cells #[.string bw, .int .u32 bt, .bool bg, .int .i64 bd] 26) = w2 at *
  clear hA hB hA2
  generalize w.heap.size = g at *
  have mk : ∀ w', Below w2.heap.size w2 w' → (w'.cell? ⟨g, 0, none⟩ = some (.string aw) ∧ w'.cell? ⟨g, 1, none⟩ = some (.int .u32 at_) ∧ w'.cell? ⟨g, 2, none⟩ = some (.bool ag) ∧ w'.cell? ⟨g, 3, none⟩ = some (.int .i64 ad) ∧ w'.cell? ⟨g + 1, 0, none⟩ = some (.string bw) ∧ w'.cell? ⟨g + 1, 1, none⟩ = some (.int .u32 bt) ∧ w'.cell? ⟨g + 1, 2, none⟩ = some (.bool bg) ∧ w'.cell? ⟨g + 1, 3, none⟩ = some (.int .i64 bd)) := fun w' hb =>
    ⟨((bcell hb).1 _ _ (by omega)).trans a0, ((bcell hb).1 _ _ (by omega)).trans a1, ((bcell hb).1 _ _ (by omega)).trans a2, ((bcell hb).1 _ _ (by omega)).trans a3, ((bcell hb).1 _ _ (by omega)).trans b0, ((bcell hb).1 _ _ (by omega)).trans b1, ((bcell hb).1 _ _ (by omega)).trans b2, ((bcell hb).1 _ _ (by omega)).trans b3⟩
  have MK := Lib.hid mk
  have hbd : Below w2.heap.size w2 w2.drew := (Below.refl _ _).drew
  clear mk a0 a1 a2 a3 b0 b1 b2 b3
  go_region_held3 (fun w' => w'.cell? ⟨g, 0, none⟩ = some (.string aw) ∧ w'.cell? ⟨g, 1, none⟩ = some (.int .u32 at_) ∧ w'.cell? ⟨g, 2, none⟩ = some (.bool ag) ∧ w'.cell? ⟨g, 3, none⟩ = some (.int .i64 ad) ∧ w'.cell? ⟨g + 1, 0, none⟩ = some (.string bw) ∧ w'.cell? ⟨g + 1, 1, none⟩ = some (.int .u32 bt) ∧ w'.cell? ⟨g + 1, 2, none⟩ = some (.bool bg) ∧ w'.cell? ⟨g + 1, 3, none⟩ = some (.int .i64 bd))
    (first | exact MK.out _ hbd | exact MK.out _ (hbd.alloc hbd.size _))
    (first
      | (go_at_call 32; refine (cmp32 _ _ _).mono ?_; rintro e wx ⟨rfl, rfl⟩)
      | (go_at_call 33; refine (cmp33 _ _ _).mono ?_; rintro e wx ⟨rfl, rfl⟩)
      | (go_at_call 34; refine (cmp34 _ _ _).mono ?_; rintro e wx ⟨rfl, rfl⟩)
      | (go_at_call 28; refine (bit28 _ _).mono ?_; rintro e wx ⟨rfl, rfl⟩)
      | (go_at_call 31; refine (first31 _ _ _ _ _ _ (cell_of_row _ _ 0 _ 3 (0, 0) (heap_alloc_new w2.drew _)) (cell_of_row _ _ 1 _ 3 (0, 0) (heap_alloc_new w2.drew _)) (cell_of_row _ _ 2 _ 3 (0, 0) (heap_alloc_new w2.drew _)) (cell_of_row _ _ 3 _ 3 (0, 0) (heap_alloc_new w2.drew _))).mono ?_; rintro e wx ⟨rfl, rfl⟩))
  all_goals
    go_wp2
    go_ret
    exact ⟨rfl, 1, _, (Sort.alloc_eq_grow _ _).trans (hw2 _)⟩
theorem grow_below {w : World} {q : Nat} {os : Array Obj} : Below w.heap.size w (Sort.grow (w.drewN q) os) := by
  refine ⟨rfl, rfl, rfl, by simp [Sort.grow], fun k hk => ?_⟩
  show (w.heap ++ os)[k]? = _
  rw [Array.getElem?_append_left hk]
theorem order_below (a b : Hit) (w : World) : Calls Try.prog 23 #[a.agg, b.agg] w fun e w' => e = .returned (.int .i64 (cmpH a b)) ∧ Below w.heap.size w w' :=
  (order23 a b w).mono fun _ _ ⟨he, q, os, hw⟩ => ⟨he, hw ▸ grow_below⟩
/-- a is ahead of b -/
def lessH (a b : Hit) : Bool := decide (cmpH a b < 0)
theorem less10 (a b : Hit) (w : World) : Calls Try.prog 10 #[a.agg, b.agg] w fun e w' => e = .returned (.bool (lessH a b)) ∧ Below w.heap.size w w' := by
  have h := fun w => order_below a b w
  have HO := Lib.hid h
  clear h
  unfold lessH
  generalize hc : cmpH a b = c at *
  clear hc
  simp only [Hit.agg] at *
  go_enter Try.func10, Try.ntmps10
  go_wp2_with (go_at_call 23; refine (HO.out _).mono ?_; rintro e w1 ⟨rfl, hb1⟩)
  go_ret
  exact ⟨rfl, (((Below.refl _ _).alloc (Nat.le_refl _) _).alloc (by simp) _).trans (hb1.mono (by simp; omega))⟩
end Go.Proofs.Ytjpgcfcacfhmiaa
