/- Contracts: entry.Find (a search by halves), merge.Sources and the reference's. For lists that rise. -/
import Derived.Test.YtdlcnpjdloinnaaLists
namespace Go.Proofs.Ytdlcnpjdloinnaa
open Go.RowKit

theorem nan_any (s : ByteArray) (w : World) : Calls Try.prog 49 #[.string s] w fun e w' => e = .returned (.bool false) ∧ w = w' := by
  go_enter Try.func49, Try.ntmps49
  go_wp2
  go_ret
  exact ⟨by simp, rfl⟩
def cmpW (a b : List UInt8) : Int := if bl a b = true then -1 else if a = b then 0 else 1
theorem cmp_any (a b : ByteArray) (w : World) : Calls Try.prog 47 #[.string a, .string b] w fun e w' => e = .returned (.int .i64 (cmpW a.toList b.toList)) ∧ w = w' := by
  go_enter Try.func47, Try.ntmps47
  go_wp2_with (go_at_call 49; refine (nan_any _ _).mono ?_; rintro e w' ⟨rfl, rfl⟩)
  · have h1 : Op.bytesLess a.toList b.toList = true := by assumption
    go_ret
    exact ⟨by rw [show cmpW a.toList b.toList = -1 from if_pos h1]; rfl, rfl⟩
  · have h1 : Op.bytesLess a.toList b.toList = false := by assumption
    have h2 : (!a.toList == b.toList) = true := by assumption
    go_ret
    exact ⟨by rw [show cmpW a.toList b.toList = 1 by unfold cmpW; rw [if_neg (by rw [show bl a.toList b.toList = false from h1]; simp), if_neg (by simpa using h2)]]; rfl, rfl⟩
  · have h1 : Op.bytesLess a.toList b.toList = false := by assumption
    have h2 : (!a.toList == b.toList) = false := by assumption
    go_ret
    exact ⟨by rw [show cmpW a.toList b.toList = 0 by unfold cmpW; rw [if_neg (by rw [show bl a.toList b.toList = false from h1]; simp), if_pos (by simpa using h2)]]; rfl, rfl⟩
theorem cmpW_neg {a b : List UInt8} : cmpW a b < 0 ↔ bl a b = true := by
  unfold cmpW
  split
  · simp_all
  · split <;> simp_all
theorem cmpW_zero {a b : List UInt8} : cmpW a b = 0 ↔ a = b := by
  unfold cmpW
  split
  · rename_i h; simp [bl_ne h]
  · split <;> simp_all
theorem by_any (a : ByteArray) (b : Int) (c : Bool) (k : ByteArray) (w : World) : Calls Try.prog 43 #[.agg #[.string a, .int .u32 b, .bool c], .string k] w fun e w' => e = .returned (.int .i64 (cmpW a.toList k.toList)) ∧ Below w.heap.size w w' := by
  go_enter Try.func43, Try.ntmps43
  go_wp2_with (go_at_call 47; refine (cmp_any _ _ _).mono ?_; rintro e w' ⟨rfl, rfl⟩)
  go_ret
  exact ⟨rfl, (Below.refl _ _).alloc (Nat.le_refl _) _⟩

def lbE (es : List Ent) (k : List UInt8) : Nat := (es.filter fun e => bl e.key k).length
theorem lbE_cons_lt {e : Ent} {es : List Ent} {k : List UInt8} (h : bl e.key k = true) : lbE (e :: es) k = lbE es k + 1 := by simp [lbE, h]
theorem lbE_cons_ge {e : Ent} {es : List Ent} {k : List UInt8} (hs : Rises (e :: es)) (h : bl e.key k = false) : lbE (e :: es) k = 0 := by
  unfold lbE
  rw [List.length_eq_zero_iff, List.filter_eq_nil_iff]
  intro y hy hyk
  rcases List.mem_cons.1 hy with rfl | hy
  · rw [h] at hyk; cases hyk
  · have h1 := List.rel_of_pairwise_cons hs hy
    have h2 := bl_trans h1 hyk
    rw [h] at h2; cases h2
theorem lb_iff {es : List Ent} (hs : Rises es) {k : List UInt8} {m : Nat} (hm : m < es.length) : bl (es[m]).key k = true ↔ m < lbE es k := by
  induction es generalizing m with
  | nil => simp at hm
  | cons e es ih =>
    have hs' := List.Pairwise.of_cons hs
    cases he : bl e.key k with
    | true =>
      rw [lbE_cons_lt he]
      cases m with
      | zero => simp [he]
      | succ m => have := ih hs' (m := m) (by simpa using hm); simp only [List.getElem_cons_succ]; rw [this]; omega
    | false =>
      rw [lbE_cons_ge hs he]
      cases m with
      | zero => simp [he]
      | succ m =>
        have hmm : m < es.length := by simpa using hm
        simp only [List.getElem_cons_succ]
        constructor
        · intro h
          have h1 := List.rel_of_pairwise_cons hs (List.getElem_mem hmm)
          have h2 := bl_trans h1 h
          rw [he] at h2; cases h2
        · intro h; omega
theorem lbE_le (es : List Ent) (k : List UInt8) : lbE es k ≤ es.length := List.length_filter_le _ _
theorem find_lb {es : List Ent} (hs : Rises es) (k : List UInt8) : findE es k = (es[lbE es k]?).filter fun e => decide (e.key = k) := by
  induction es with
  | nil => rfl
  | cons e es ih =>
    have hs' := List.Pairwise.of_cons hs
    rw [findE_cons]
    cases he : bl e.key k with
    | true => rw [lbE_cons_lt he, if_neg (bl_ne he), ih hs']; rfl
    | false =>
      rw [lbE_cons_ge hs he]
      by_cases hk : e.key = k
      · simp [hk, Option.filter]
      · rw [if_neg hk]
        have : findE es k = none := findE_none fun y hy hyk => by
          have h1 := List.rel_of_pairwise_cons hs hy
          rw [hyk, he] at h1; cases h1
        rw [this]; simp [hk, Option.filter]
theorem find_at {es : List Ent} (hs : Rises es) {k : List UInt8} (h : lbE es k < es.length) : findE es k = if (es[lbE es k]).key = k then some es[lbE es k] else none := by
  rw [find_lb hs, List.getElem?_eq_getElem h]
  by_cases hk : (es[lbE es k]).key = k
  · rw [if_pos hk]; simp only [Option.filter, hk, decide_true, if_true]
  · rw [if_neg hk]; simp only [Option.filter, hk, decide_false, Bool.false_eq_true, if_false]
theorem find_end {es : List Ent} (hs : Rises es) {k : List UInt8} (h : ¬ lbE es k < es.length) : findE es k = none := by
  rw [find_lb hs, List.getElem?_eq_none (by omega)]; rfl

set_option maxHeartbeats 1000000 in
theorem bs_any (es : List Ent) (A : Option Addr) (c : Nat) (k : ByteArray) (w : World) (hl : es.length ≤ 1000000) (hs : Rises es) (h : REs w w.heap.size A es) :
    Calls Try.prog 42 #[.slice A es.length c, .string k, .func (.func 43) #[] #[]] w fun e w' => e = .returned (.tuple #[.int .i64 (lbE es k.toList), .bool (findE es k.toList).isSome]) ∧ Below w.heap.size w w' := by
  have hll := lbE_le es k.toList
  go_enter Try.func42, Try.ntmps42
  go_wp2
  go_loopg [9, 10] es.length (fun m vi vj wr => ∃ i j : Nat, m = j - i ∧ i ≤ j ∧ j ≤ es.length ∧ vi = .int .i64 i ∧ vj = .int .i64 j ∧ i ≤ lbE es k.toList ∧ lbE es k.toList ≤ j ∧ Below w.heap.size w wr)
  case atStart => exact ⟨0, es.length, rfl, Nat.zero_le _, Nat.le_refl _, rfl, rfl, Nat.zero_le _, hll, Below.refl _ _⟩
  case round =>
    obtain ⟨i, j, hm, hij, hj, rfl, rfl, hi1, hj1, hb⟩ := hrel
    have HM := Lib.hid hm
    clear hm
    have hsz := hb.size
    by_cases hlt : i < j
    · have hmid : (i + j) / 2 < es.length := by omega
      obtain ⟨b, off, rfl, hlb, h0, h1, h2⟩ := (h.below hb).at_ hmid
      have hiff := lb_iff hs (k := k.toList) hmid
      have HI := Lib.hid hiff
      clear hiff
      have hm1 : (0 : Int) ≤ ((i : Int) + (j : Int)) / 2 := by omega
      have hm2 : ((i : Int) + (j : Int)) / 2 < (es.length : Int) := by omega
      go_wp2_with (go_at_call 43; refine (by_any _ _ _ _ _).mono ?_; rintro e w1 ⟨rfl, hb1⟩)
      · have hlt0 : cmpW (es[(i + j) / 2]).word.toList k.toList < 0 := by assumption
        have hlb2 := HI.out.1 (cmpW_neg.1 hlt0)
        go_roundg (j - ((i + j) / 2 + 1))
        case rel => exact ⟨(i + j) / 2 + 1, j, rfl, by omega, hj, by go_num, rfl, hlb2, hj1, hb.trans (hb1.mono hsz)⟩
        case measure => rw [HM.out]; omega
      · have hlt0 : 0 ≤ cmpW (es[(i + j) / 2]).key k.toList := (by assumption : 0 ≤ cmpW (es[(i + j) / 2]).word.toList k.toList)
        have hlb2 : lbE es k.toList ≤ (i + j) / 2 := by
          rcases Nat.lt_or_ge ((i + j) / 2) (lbE es k.toList) with hx | hx
          · have := cmpW_neg.2 (HI.out.2 hx); omega
          · exact hx
        go_roundg ((i + j) / 2 - i)
        case rel => exact ⟨i, (i + j) / 2, rfl, by omega, by omega, rfl, by go_num, hi1, hlb2, hb.trans (hb1.mono hsz)⟩
        case measure => rw [HM.out]; omega
    · obtain rfl : i = j := by omega
      obtain rfl : i = lbE es k.toList := by omega
      by_cases hlt2 : lbE es k.toList < es.length
      · obtain ⟨b, off, rfl, hlb, h0, h1, h2⟩ := (h.below hb).at_ hlt2
        have hfa : (findE es k.toList).isSome = (cmpW (es[lbE es k.toList]).word.toList k.toList == 0) := by
          rw [find_at hs hlt2]
          by_cases hk : (es[lbE es k.toList]).key = k.toList
          · rw [if_pos hk, cmpW_zero.2 hk]; rfl
          · rw [if_neg hk]; symm; simp only [Option.isSome_none, beq_eq_false_iff_ne]; exact fun h => hk (cmpW_zero.1 h)
        have HF := Lib.hid hfa
        clear hfa
        go_wp2_with (go_at_call 43; refine (by_any _ _ _ _ _).mono ?_; rintro e w1 ⟨rfl, hb1⟩)
        go_ret2
        exact ⟨by rw [HF.out]; rfl, hb.trans (hb1.mono hsz)⟩
      · have hfa := find_end hs hlt2
        have HF := Lib.hid hfa
        clear hfa
        go_wp2_with fail
        go_ret2
        exact ⟨by rw [HF.out]; rfl, hb⟩

set_option maxHeartbeats 1000000 in
theorem efind_any (es : List Ent) (A : Option Addr) (c : Nat) (k : ByteArray) (w : World) (hl : es.length ≤ 1000000) (hs : Rises es) (h : REs w w.heap.size A es) :
    Calls Try.prog 31 #[.slice A es.length c, .string k] w fun e w' => e = .returned (foundE (findE es k.toList)) ∧ Below w.heap.size w w' := by
  have hll := lbE_le es k.toList
  have hba : Below w.heap.size w (w.alloc (.cells #[.string ⟨#[]⟩, .int .u32 0, .bool false] 31)) := (Below.refl _ _).alloc (Nat.le_refl _) _
  have harm := bs_any es A c k (w.alloc (.cells #[.string ⟨#[]⟩, .int .u32 0, .bool false] 31)) hl hs (h.below hba).any
  have HA := Lib.hid harm
  clear harm
  cases hfe : findE es k.toList with
  | none =>
    have HF := Lib.hid hfe
    clear hfe
    go_enter Try.func31, Try.ntmps31
    go_wp2_with (go_at_call 42; refine HA.out.mono ?_; rintro e w1 ⟨rfl, hb1⟩; have hbk1 := (hb1.block w.heap.size (by simp)).trans (heap_alloc_new w (.cells #[.string ⟨#[]⟩, .int .u32 0, .bool false] 31)); obtain ⟨c0, c1, c2⟩ := box3_cells hbk1; have hf : ∀ i, w1.frozen? ⟨w.heap.size, i, none⟩ = false := (fun i => by simp [World.frozen?, hbk1]); have hz : (findE es k.toList).isSome = false := (by rw [HF.out]; rfl))
    have hg := set3 (x := .string ⟨#[]⟩) (y := .int .u32 0) (z := .bool false) hbk1
    obtain ⟨g0, g1, g2⟩ := box3_cells hg
    have hb0 : Below w.heap.size w w1 := hba.trans (hb1.mono (by simp))
    exact bodyPost_ret (v := foundE none) (by simp [results, Try.results31, go_sem, foundE, Ent.agg, zeroEnt, g0, g1, g2]) rfl
      ⟨rfl, ((hb0.setCell (p := ⟨w.heap.size, 0, none⟩) (Nat.le_refl _) _).setCell (p := ⟨w.heap.size, 1, none⟩) (Nat.le_refl _) _).setCell (p := ⟨w.heap.size, 2, none⟩) (Nat.le_refl _) _⟩
  | some x =>
    have hx := hfe
    rw [find_lb hs] at hx
    obtain ⟨hx1, hx2⟩ : ∃ hlt : lbE es k.toList < es.length, es[lbE es k.toList] = x := by
      cases hq : es[lbE es k.toList]? with
      | none => rw [hq] at hx; cases hx
      | some y =>
        rw [hq] at hx
        obtain ⟨h1, h2⟩ := List.getElem?_eq_some_iff.1 hq
        refine ⟨h1, h2.trans ?_⟩
        simp only [Option.filter] at hx
        split at hx
        · injection hx
        · cases hx
    have HF := Lib.hid hfe
    clear hfe hx
    have hi1 : (lbE es k.toList : Int) < (es.length : Int) := by omega
    have hat : ∀ w1, Below w.heap.size w w1 → ∃ b off, A = some ⟨b, off, none⟩ ∧ b < w.heap.size ∧ w1.cell? ⟨b, off + lbE es k.toList * 3, none⟩ = some (.string x.word) ∧
        w1.cell? ⟨b, off + lbE es k.toList * 3 + 1, none⟩ = some (.int .u32 x.weight) ∧ w1.cell? ⟨b, off + lbE es k.toList * 3 + 2, none⟩ = some (.bool x.gone) := fun w1 hb => by
      have := (h.below hb).at_ hx1
      rwa [hx2] at this
    have HAT := Lib.hid hat
    clear hat hx2
    obtain ⟨b, off, rfl, -⟩ := HAT.out w (Below.refl _ _)
    go_enter Try.func31, Try.ntmps31
    go_wp2_with (go_at_call 42; refine HA.out.mono ?_; rintro e w1 ⟨rfl, hb1⟩; have hbk1 := (hb1.block w.heap.size (by simp)).trans (heap_alloc_new w (.cells #[.string ⟨#[]⟩, .int .u32 0, .bool false] 31)); obtain ⟨c0, c1, c2⟩ := box3_cells hbk1; have hf : ∀ i, w1.frozen? ⟨w.heap.size, i, none⟩ = false := (fun i => by simp [World.frozen?, hbk1]); have hz : (findE es k.toList).isSome = true := (by rw [HF.out]; rfl); have hb0 : Below w.heap.size w w1 := hba.trans (hb1.mono (by simp)); obtain ⟨b2, off2, e2, hlt2, d0, d1, d2⟩ := HAT.out w1 hb0; injection e2 with e2; injection e2 with e2 e3; subst e2; subst e3)
    have hg := set3 (x := .string x.word) (y := .int .u32 x.weight) (z := .bool x.gone) hbk1
    obtain ⟨g0, g1, g2⟩ := box3_cells hg
    exact bodyPost_ret (v := foundE (some x)) (by simp [results, Try.results31, go_sem, foundE, Ent.agg, g0, g1, g2]) rfl
      ⟨rfl, ((hb0.setCell (p := ⟨w.heap.size, 0, none⟩) (Nat.le_refl _) _).setCell (p := ⟨w.heap.size, 1, none⟩) (Nat.le_refl _) _).setCell (p := ⟨w.heap.size, 2, none⟩) (Nat.le_refl _) _⟩

/-! ### Sources -/
def sourceE (L : List (List Ent)) (k : List UInt8) : Option Nat := L.findIdx? fun l => (findE l k).isSome
theorem src_next {L : List (List Ent)} {k : List UInt8} {j : Nat} {l : List Ent} (hn : ∀ i, i < j → ∀ l, L[i]? = some l → findE l k = none) (hj : L[j]? = some l) (hf : findE l k = none) : ∀ i, i < j + 1 → ∀ l, L[i]? = some l → findE l k = none := by
  intro i hi l' hl'
  by_cases e : i = j
  · subst e; rw [hj] at hl'; injection hl' with hl'; subst hl'; exact hf
  · exact hn i (by omega) l' hl'
theorem src_some {L : List (List Ent)} {k : List UInt8} {j : Nat} {l : List Ent} {x : Ent} (hn : ∀ i, i < j → ∀ l, L[i]? = some l → findE l k = none) (hj : L[j]? = some l) (hf : findE l k = some x) : sourceE L k = some j := by
  unfold sourceE
  rw [List.findIdx?_eq_some_iff_getElem]
  obtain ⟨h1, h2⟩ := List.getElem?_eq_some_iff.1 hj
  refine ⟨h1, by rw [h2, hf]; rfl, fun i hi => ?_⟩
  rw [hn i hi _ (List.getElem?_eq_getElem (by omega))]; simp
theorem src_none {L : List (List Ent)} {k : List UInt8} {j : Nat} (hj : L.length ≤ j) (hn : ∀ i, i < j → ∀ l, L[i]? = some l → findE l k = none) : sourceE L k = none := by
  unfold sourceE
  rw [List.findIdx?_eq_none_iff]
  intro l hl
  obtain ⟨i, hi, rfl⟩ := List.getElem_of_mem hl
  rw [hn i (by omega) _ (List.getElem?_eq_getElem hi)]; rfl
def srcV (o : Option Nat) : Value := .tuple #[.int .i64 (o.getD 0), .bool o.isSome]
set_option maxHeartbeats 1000000 in
theorem sources_any (L : List (List Ent)) (A : Option Addr) (c : Nat) (k : ByteArray) (w : World) (hl : L.length ≤ 1000000) (hls : ∀ l ∈ L, l.length ≤ 1000000) (hs : ∀ l ∈ L, Rises l) (h : RLs w w.heap.size A L) :
    Calls Try.prog 12 #[.string k, .slice A L.length c] w fun e w' => e = .returned (srcV (sourceE L k.toList)) ∧ Below w.heap.size w w' := by
  go_enter Try.func12, Try.ntmps12
  go_wp2
  go_loopg [12] L.length (fun m v wr => ∃ j : Nat, m = L.length - j ∧ j ≤ L.length ∧ v = .int .i64 j ∧ (∀ i, i < j → ∀ l, L[i]? = some l → findE l k.toList = none) ∧ Below w.heap.size w wr)
  case atStart => exact ⟨0, rfl, Nat.zero_le _, rfl, fun i hi => absurd hi (by omega), Below.refl _ _⟩
  case round =>
    obtain ⟨j, hm, hj, rfl, hn, hb⟩ := hrel
    have HM := Lib.hid hm
    have HN := Lib.hid hn
    clear hm hn
    have hsz := hb.size
    by_cases hlt : j < L.length
    · have hLj : L[j]? = some L[j] := List.getElem?_eq_getElem hlt
      obtain ⟨b, off, rfl, hlb, hr⟩ := (h.below hb) (by omega)
      obtain ⟨Aj, cj, h0, hcj, hrj⟩ := hr j _ hLj
      have hlj := hls L[j] (List.getElem_mem hlt)
      have hsj := hs L[j] (List.getElem_mem hlt)
      generalize hx : L[j] = lj at hLj h0 hrj hlj hsj hcj
      clear hx
      have HLj := Lib.hid hLj
      clear hLj
      cases hf : findE lj k.toList with
      | none =>
        have HF := Lib.hid hf
        clear hf
        go_wp2_with (go_at_call 31; refine (efind_any lj Aj cj k wr hlj hsj hrj.any).mono ?_; rintro e w1 ⟨rfl, hb1⟩; rw [HF.out]; simp only [foundE, Ent.agg, Option.getD, Option.isSome])
        go_roundg (L.length - (j + 1))
        case rel => exact ⟨j + 1, rfl, by omega, by go_num, src_next HN.out HLj.out HF.out, (hb.trans (hb1.mono hsz)).alloc (by have := hb1.size; omega) _⟩
        case measure => rw [HM.out]; omega
      | some x =>
        have HS := Lib.hid (src_some HN.out HLj.out hf)
        have HF := Lib.hid hf
        clear hf
        go_wp2_with (go_at_call 31; refine (efind_any lj Aj cj k wr hlj hsj hrj.any).mono ?_; rintro e w1 ⟨rfl, hb1⟩; rw [HF.out]; simp only [foundE, Ent.agg, Option.getD, Option.isSome])
        go_ret2
        exact ⟨by rw [HS.out]; rfl, (hb.trans (hb1.mono hsz)).alloc (by have := hb1.size; omega) _⟩
    · have HS := Lib.hid (src_none (by omega) HN.out)
      go_wp2
      go_ret2
      exact ⟨by rw [HS.out]; rfl, hb⟩

set_option maxHeartbeats 1000000 in
theorem refSources_any (L : List (List Ent)) (A : Option Addr) (c : Nat) (k : ByteArray) (w : World) (hl : L.length ≤ 1000000) (hls : ∀ l ∈ L, l.length ≤ 1000000) (h : RLs w w.heap.size A L) :
    Calls Try.prog 22 #[.string k, .slice A L.length c] w fun e w' => e = .returned (srcV (sourceE L k.toList)) ∧ Below w.heap.size w w' := by
  go_enter Try.func22, Try.ntmps22
  go_wp2
  go_loopg [6] L.length (fun m v wr => ∃ j : Nat, m = L.length - j ∧ j ≤ L.length ∧ v = .int .i64 j ∧ (∀ i, i < j → ∀ l, L[i]? = some l → findE l k.toList = none) ∧ Below w.heap.size w wr)
  case atStart => exact ⟨0, rfl, Nat.zero_le _, rfl, fun i hi => absurd hi (by omega), Below.refl _ _⟩
  case round =>
    obtain ⟨j, hm, hj, rfl, hn, hb⟩ := hrel
    have HM := Lib.hid hm
    have HN := Lib.hid hn
    clear hm hn
    have hsz := hb.size
    by_cases hlt : j < L.length
    · have hLj : L[j]? = some L[j] := List.getElem?_eq_getElem hlt
      obtain ⟨b, off, rfl, hlb, hr⟩ := (h.below hb) (by omega)
      obtain ⟨Aj, cj, h0, hcj, hrj⟩ := hr j _ hLj
      have hlj := hls L[j] (List.getElem_mem hlt)
      generalize hx : L[j] = lj at hLj h0 hrj hlj hcj
      clear hx
      have HLj := Lib.hid hLj
      clear hLj
      cases hf : findE lj k.toList with
      | none =>
        have HF := Lib.hid hf
        clear hf
        go_wp2_with (go_at_call 13; refine (find_any lj Aj cj k wr (by omega) hrj.any).mono ?_; rintro e w1 ⟨rfl, hb1⟩; rw [HF.out]; simp only [foundE, Ent.agg, Option.getD, Option.isSome])
        go_roundg (L.length - (j + 1))
        case rel => exact ⟨j + 1, rfl, by omega, by go_num, src_next HN.out HLj.out HF.out, (hb.trans (hb1.mono hsz)).alloc (by have := hb1.size; omega) _⟩
        case measure => rw [HM.out]; omega
      | some x =>
        have HS := Lib.hid (src_some HN.out HLj.out hf)
        have HF := Lib.hid hf
        clear hf
        go_wp2_with (go_at_call 13; refine (find_any lj Aj cj k wr (by omega) hrj.any).mono ?_; rintro e w1 ⟨rfl, hb1⟩; rw [HF.out]; simp only [foundE, Ent.agg, Option.getD, Option.isSome])
        go_ret2
        exact ⟨by rw [HS.out]; rfl, (hb.trans (hb1.mono hsz)).alloc (by have := hb1.size; omega) _⟩
    · have HS := Lib.hid (src_none (by omega) HN.out)
      go_wp2
      go_ret2
      exact ⟨by rw [HS.out]; rfl, hb⟩

/-! ### the reference's Lists, and both Bottoms -/
def refE (L : List (List Ent)) : List Ent := L.foldr (fun l acc => withE acc l) []
theorem rises_ref (L : List (List Ent)) : Rises (refE L) := by
  induction L with
  | nil => exact List.Pairwise.nil
  | cons l L ih => exact rises_with ih l
theorem total_append (a b : List (List Ent)) : total (a ++ b) = total a + total b := by simp [total]
theorem length_ref (L : List (List Ent)) : (refE L).length ≤ total L := by
  induction L with
  | nil => simp [refE]
  | cons l L ih =>
    have := length_with (rises_ref L) l
    simp only [refE, List.foldr_cons, total, List.map_cons, List.sum_cons] at this ih ⊢
    omega
set_option maxHeartbeats 1000000 in
theorem refLists_any (L : List (List Ent)) (A : Option Addr) (c : Nat) (w : World) (hl : L.length ≤ 1000000) (hls : ∀ l ∈ L, l.length ≤ 1000) (ht : total L ≤ 1000) (h : RLs w w.heap.size A L) :
    Calls Try.prog 17 #[.slice A L.length c] w (RetEs w (refE L)) := by
  go_enter Try.func17, Try.ntmps17
  go_wp2
  go_loopg [3, 4] L.length (fun m v i wr => ∃ (j : Nat) (A1 : Option Addr) (c1 : Nat), m = j ∧ j ≤ L.length ∧ i = .int .i64 ((j : Int) - 1) ∧ v = .slice A1 (refE (L.drop j)).length c1 ∧ (refE (L.drop j)).length ≤ c1 ∧ REs wr wr.heap.size A1 (refE (L.drop j)) ∧ Below w.heap.size w wr)
  case atStart => exact ⟨L.length, none, 0, rfl, Nat.le_refl _, rfl, by rw [List.drop_length]; rfl, by rw [List.drop_length]; exact Nat.le_refl 0, by rw [List.drop_length]; exact REs.nil_, Below.refl _ _⟩
  case round =>
    obtain ⟨j, A1, c1, hm, hj, rfl, rfl, hc1, hr1, hb⟩ := hrel
    have HM := Lib.hid hm
    clear hm
    have hsz := hb.size
    have hlr : (refE (L.drop j)).length ≤ 1000 := by
      have h1 := length_ref (L.drop j)
      have h2 : total (L.drop j) ≤ total L := by
        have : total L = total (L.take j) + total (L.drop j) := by
          rw [← total_append, List.take_append_drop]
        omega
      omega
    cases j with
    | zero =>
      go_wp2
      go_ret
      rw [List.drop_zero] at *
      exact ⟨A1, c1, rfl, hc1, hr1, hb⟩
    | succ j =>
      have hlt : j < L.length := by omega
      have hst : refE (L.drop j) = withE (refE (L.drop (j + 1))) L[j] := by rw [List.drop_eq_getElem_cons hlt]; rfl
      have HS := Lib.hid hst
      have hLj : L[j]? = some L[j] := List.getElem?_eq_getElem hlt
      obtain ⟨b, off, rfl, hlb, hr⟩ := (h.below hb) (by omega)
      obtain ⟨Aj, cj, h0, hcj, hrj⟩ := hr j _ hLj
      have hlj := hls L[j] (List.getElem_mem hlt)
      generalize hx : L[j] = lj at hLj h0 hrj hlj hcj HS
      clear hx hst hLj
      have hrs := rises_ref (L.drop (j + 1))
      generalize hy : refE (L.drop (j + 1)) = acc at *
      have hj0 : ((j + 1 : Nat) : Int) - 1 = (j : Int) := by omega
      rw [hj0]
      clear hj0 hy
      go_wp2_with (go_at_call 33; refine (with_any acc lj A1 Aj c1 cj wr hlr hlj hrs hr1 hrj.any).mono ?_; rintro e w3 ⟨A3, c3, rfl, hc3, hr3, hb3⟩)
      go_roundg j
      case rel => exact ⟨j, A3, c3, rfl, by omega, by rfl, by rw [HS.out], by rw [HS.out]; exact hc3, by rw [HS.out]; exact hr3, hb.trans (hb3.mono hsz)⟩
      case measure => rw [HM.out]; omega

set_option maxHeartbeats 1000000 in
theorem refBottom_any (L : List (List Ent)) (A : Option Addr) (c : Nat) (w : World) (hl : L.length ≤ 1000000) (hls : ∀ l ∈ L, l.length ≤ 1000) (ht : total L ≤ 1000) (h : RLs w w.heap.size A L) :
    Calls Try.prog 18 #[.slice A L.length c] w (RetEs w (liveE (refE L))) := by
  have hlr := length_ref L
  go_enter Try.func18, Try.ntmps18
  go_wp2_with (first
    | (go_at_call 17; refine (refLists_any L A c w hl hls ht h).mono ?_; rintro e w1 ⟨A1, c1, rfl, hc1, hr1, hb1⟩)
    | (go_at_call 34; refine (refLive_any (refE L) A1 c1 w1 (by omega) hr1).mono ?_; rintro e w2 ⟨A2, c2, rfl, hc2, hr2, hb2⟩))
  go_ret
  exact ⟨A2, c2, rfl, hc2, hr2, hb1.trans (hb2.mono hb1.size)⟩
end Go.Proofs.Ytdlcnpjdloinnaa
