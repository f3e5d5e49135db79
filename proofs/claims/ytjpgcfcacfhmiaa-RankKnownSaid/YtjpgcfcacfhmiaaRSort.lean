/- The document's sort of hits (ref21.Sort), walked: it gives the list in order. -/
import Derived.Test.YtjpgcfcacfhmiaaRow
namespace Go.Proofs.Ytjpgcfcacfhmiaa
open Go.RowKit
set_option linter.unusedSimpArgs false
set_option linter.unusedVariables false
set_option linter.unnecessarySimpa false
theorem ins_stop {T : List Hit} (hs : Sorted T) {x : Hit} {k : Nat} (hk : k ≤ T.length) (hD : ∀ y ∈ T.drop k, lessH x y = true) (hst : ∀ p, k = p + 1 → ∀ hp : p < T.length, lessH x T[p] = false) : T.take k ++ x :: T.drop k = insH x T := by
  have h1 : ∀ y ∈ T.take k, le y x = true := fun y hy => by
    cases k with
    | zero => simp at hy
    | succ p =>
      have hp : p < T.length := by omega
      have h2 : le T[p] x = true := by unfold le; rw [hst p rfl hp]; rfl
      rw [List.take_succ_eq_append_getElem hp] at hy
      rcases List.mem_append.1 hy with hy | hy
      · have h3 : Sorted (T.take p ++ [T[p]]) := by
          rw [← List.take_succ_eq_append_getElem hp]; exact hs.sublist (List.take_sublist _ _)
        exact le_trans' ((List.pairwise_append.1 h3).2.2 y hy T[p] (by simp)) h2
      · simp at hy; rw [hy]; exact h2
  have h2 : ∀ y ∈ T.drop k, ¬ le y x = true := fun y hy => by unfold le; rw [hD y hy]; decide
  unfold insH
  have e1 : T.takeWhile (le · x) = T.take k := by
    conv => lhs; rw [← List.take_append_drop k T]
    rw [List.takeWhile_append_of_pos h1]
    cases hd : T.drop k with
    | nil => simp
    | cons y r => rw [List.takeWhile_cons, if_neg (h2 y (by rw [hd]; simp)), List.append_nil]
  have e2 : T.dropWhile (le · x) = T.drop k := by
    conv => lhs; rw [← List.take_append_drop k T]
    rw [List.dropWhile_append_of_pos h1]
    cases hd : T.drop k with
    | nil => simp
    | cons y r => rw [List.dropWhile_cons, if_neg (h2 y (by rw [hd]; simp))]
  rw [e1, e2]
theorem ins_at (T : List Hit) (x : Hit) {k : Nat} (hk : k ≤ T.length) : ∃ h : k < (T.take k ++ x :: T.drop k).length, (T.take k ++ x :: T.drop k)[k] = x := by
  refine ⟨by simp; omega, ?_⟩
  rw [List.getElem_append_right (by simp; omega)]
  simp [Nat.min_eq_left hk]
theorem ins_ahead (T : List Hit) (x : Hit) {p : Nat} (hk : p < T.length) : ∃ h : p < (T.take (p + 1) ++ x :: T.drop (p + 1)).length, (T.take (p + 1) ++ x :: T.drop (p + 1))[p] = T[p] := by
  refine ⟨by simp; omega, ?_⟩
  rw [List.getElem_append_left (by simp; omega)]
  simp
theorem ins_len (T : List Hit) (x : Hit) {k : Nat} (hk : k ≤ T.length) : (T.take k ++ x :: T.drop k).length = T.length + 1 := by simp; omega
theorem ins_swap (T : List Hit) (x : Hit) {p : Nat} (hk : p < T.length) : ((T.take (p + 1) ++ x :: T.drop (p + 1)).set (p + 1) T[p]).set p x = T.take p ++ x :: T.drop p := by
  have e1 : T.take (p + 1) = T.take p ++ [T[p]] := List.take_succ_eq_append_getElem hk
  have e2 : T.drop p = T[p] :: T.drop (p + 1) := List.drop_eq_getElem_cons hk
  have hl : (T.take p).length = p := by simp; omega
  rw [e1, e2, List.append_assoc, List.set_append, if_neg (by omega), List.set_append, if_neg (by omega), hl]
  simp
theorem put4_cell {w : World} {g k bx : Nat} {y : Hit} (h : bx ≠ g) (i : Nat) : (put4 w g k y).cell? ⟨bx, i, none⟩ = w.cell? ⟨bx, i, none⟩ := by
  unfold put4
  have hne : ∀ j, (⟨bx, i, none⟩ : Addr) ≠ ⟨g, j, none⟩ := fun j e => by injection e with e; exact h e
  rw [World.cell?_setCell_other _ _ _ _ (hne _).symm, World.cell?_setCell_other _ _ _ _ (hne _).symm, World.cell?_setCell_other _ _ _ _ (hne _).symm, World.cell?_setCell_other _ _ _ _ (hne _).symm]
set_option maxHeartbeats 4000000 in
set_option maxRecDepth 100000 in
theorem rsort14o (es : List Hit) (A : Option Addr) (c : Nat) (w : World) (hl : es.length ≤ 1000000) (h : RHs w w.heap.size A es) :
    Calls Try.prog 14 #[.slice A es.length c] w (RetO w (sortH es)) := by
  go_enter Try.func14, Try.ntmps14
  go_wp2
  go_loopg [3, 4] es.length (fun k v i wr => ∃ j : Nat, k = es.length - j ∧ j ≤ es.length ∧ i = .int .i64 j ∧ OHs wr w.heap.size v (sortH (es.take j)) ∧ Below w.heap.size w wr)
  case atStart => exact ⟨0, rfl, Nat.zero_le _, rfl, by rw [show sortH (es.take 0) = [] by simp [sortH]]; exact World.ownsRow_nil _ _ _ _, Below.refl _ _⟩
  case round =>
    obtain ⟨j, hk, hj, rfl, hown, hb⟩ := hrel
    have HK := Lib.hid hk
    clear hk
    have hsz := hb.size
    by_cases hlt : j < es.length
    · obtain ⟨b, off, rfl, hlb, d0, d1, d2, d3⟩ := (h.below hb).at_ hlt
      have HT := Lib.hid (sorted_sortH (es.take j))
      have hst : sortH (es.take (j + 1)) = insH es[j] (sortH (es.take j)) := by rw [List.take_succ_eq_append_getElem hlt, sortH_snoc]
      have HST := Lib.hid hst
      have htl : (sortH (es.take j)).length = j := by rw [sortH_length]; simp; omega
      have HTL := Lib.hid htl
      clear hst htl
      generalize sortH (es.take j) = T at *
      generalize es[j] = x at *
      have htl2 : T.length ≤ 1000000 := by have := HTL.out; omega
      go_wp2_with (at_builtin; refine wpList_append_hit rfl (.tmp 13) (.tmp 18) rfl w.heap.size _ T rfl hown _ rfl (by simp) (by omega) (by omega) ?_; intro v' w' hown' hg' hb'; obtain ⟨g, cap, rfl, hrow⟩ := OHs.row hown' (by simp); clear hg' hown')
      have hb2 := hb.trans hb'
      have hrow2 : InRow w' w.heap.size g cap (T.take T.length ++ x :: T.drop T.length) := by simpa using hrow
      clear hrow hb' hb d0 d1 d2 d3 hsz
      go_loopg [5] (T.length + 1) (fun n v5 wr => ∃ k : Nat, n = k + 1 ∧ k ≤ T.length ∧ v5 = .int .i64 k ∧ InRow wr w.heap.size g cap (T.take k ++ x :: T.drop k) ∧ (∀ y ∈ T.drop k, lessH x y = true) ∧ Below w.heap.size w wr)
      case atStart => exact ⟨T.length, rfl, Nat.le_refl _, by first | rfl | simp, hrow2, by simp, hb2⟩
      case round =>
        obtain ⟨k, hkn, hkl, rfl, hrow, hD, hbk⟩ := hrel
        have HKN := Lib.hid hkn
        have HD := Lib.hid hD
        clear hkn hD hrow2 hb2
        have hszk := hbk.size
        have hrl := ins_len T x hkl
        have HRL := Lib.hid hrl
        clear hrl
        rcases Nat.eq_zero_or_pos k with h0 | h0
        · have hk0 : (k : Int) ≤ 0 := by omega
          have hst := ins_stop HT.out hkl HD.out (fun p e => absurd e (by omega))
          rw [hst] at hrow
          clear hst
          go_wp2
          go_quiet (fail)
          go_wp2
          have hown9 := hrow.own
          have hln : (insH x T).length = T.length + 1 := by rw [← HST.out, sortH_length]; have := HTL.out; simp; omega
          rw [hln] at hown9
          go_roundg (es.length - (j + 1))
          case rel => exact ⟨j + 1, rfl, by omega, by go_num, by rw [HST.out]; exact own_below hown9 (below_right (Below.refl _ _) nq), below_right hbk nq⟩
          case measure => rw [HK.out]; omega
        · obtain ⟨p, hp⟩ : ∃ p, k = p + 1 := ⟨k - 1, by omega⟩
          have hpT : p < T.length := by omega
          have hkp : (k : Int) - 1 = (p : Int) := by omega
          have hkw : IntKind.i64.wrap (p : Int) = (p : Int) := IntWalk.i64_in _ (by omega)
          have hkv : wrap64 (p : Int) = (p : Int) := by unfold wrap64; omega
          have hk1 : (0 : Int) < (k : Int) := by omega
          have hk2 : (k : Int) < (T.length : Int) + 1 := by omega
          have hp2 : (p : Int) < (T.length : Int) + 1 := by omega
          have hp3 : (0 : Int) ≤ (p : Int) := by omega
          have ck : ∀ w', InRow w' w.heap.size g cap (T.take k ++ x :: T.drop k) → (w'.cell? ⟨g, k * 4, none⟩ = some (.string x.word) ∧ w'.cell? ⟨g, k * 4 + 1, none⟩ = some (.int .u32 x.weight) ∧ w'.cell? ⟨g, k * 4 + 2, none⟩ = some (.bool x.gone) ∧ w'.cell? ⟨g, k * 4 + 3, none⟩ = some (.int .i64 x.dist) ∧ w'.cell? ⟨g, p * 4, none⟩ = some (.string (T[p]).word) ∧ w'.cell? ⟨g, p * 4 + 1, none⟩ = some (.int .u32 (T[p]).weight) ∧ w'.cell? ⟨g, p * 4 + 2, none⟩ = some (.bool (T[p]).gone) ∧ w'.cell? ⟨g, p * 4 + 3, none⟩ = some (.int .i64 (T[p]).dist)) := fun w' hr => by
            obtain ⟨h1, e1⟩ := ins_at T x hkl
            have a := hr.at_ h1
            rw [e1] at a
            have b : ∃ h : p < (T.take k ++ x :: T.drop k).length, (T.take k ++ x :: T.drop k)[p] = T[p] := by subst hp; exact ins_ahead T x hpT
            obtain ⟨h2, e2⟩ := b
            have b := hr.at_ h2
            rw [e2] at b
            exact ⟨a.1, a.2.1, a.2.2.1, a.2.2.2, b.1, b.2.1, b.2.2.1, b.2.2.2⟩
          have CK := Lib.hid ck
          have HROW := Lib.hid hrow
          have HP := Lib.hid hp
          have HY := Lib.hid (refLess19 x T[p])
          have HQ : Hid (lessH x T[p] = lessH x T[p]) := Lib.hid rfl
          have hstop : lessH x T[p] = false → T.take k ++ x :: T.drop k = insH x T := fun hf => ins_stop HT.out hkl HD.out (fun p' e hp' => by
            obtain rfl : p = p' := by omega
            exact hf)
          have HSTOP := Lib.hid hstop
          have hDn : lessH x T[p] = true → ∀ y ∈ T.drop p, lessH x y = true := fun ht y hy => by
            rw [List.drop_eq_getElem_cons hpT] at hy
            rcases List.mem_cons.1 hy with e | hy
            · rw [e]; exact ht
            · exact HD.out y (by rw [HP.out]; exact hy)
          have HDN := Lib.hid hDn
          have hsw : ((T.take k ++ x :: T.drop k).set k T[p]).set p x = T.take p ++ x :: T.drop p := by subst hp; exact ins_swap T x hpT
          have HSW := Lib.hid hsw
          clear ck hrow hp hstop hDn hsw HQ
          have hbd : Below wr.heap.size wr wr.drew := (Below.refl _ _).drew
          have mk : ∀ w', Below wr.heap.size wr w' → (w'.cell? ⟨g, k * 4, none⟩ = some (.string x.word) ∧ w'.cell? ⟨g, k * 4 + 1, none⟩ = some (.int .u32 x.weight) ∧ w'.cell? ⟨g, k * 4 + 2, none⟩ = some (.bool x.gone) ∧ w'.cell? ⟨g, k * 4 + 3, none⟩ = some (.int .i64 x.dist) ∧ w'.cell? ⟨g, p * 4, none⟩ = some (.string (T[p]).word) ∧ w'.cell? ⟨g, p * 4 + 1, none⟩ = some (.int .u32 (T[p]).weight) ∧ w'.cell? ⟨g, p * 4 + 2, none⟩ = some (.bool (T[p]).gone) ∧ w'.cell? ⟨g, p * 4 + 3, none⟩ = some (.int .i64 (T[p]).dist)) := fun w' hb' => CK.out w' (HROW.out.below hb')
          have MK := Lib.hid mk
          clear mk
          have hXL : (T.take k ++ x :: T.drop k).length = T.length + 1 := HRL.out
          have HXL := Lib.hid hXL
          clear hXL
          generalize (T.take k ++ x :: T.drop k) = X at *
          generalize T[p] = y at *
          generalize hq : lessH x y = q at *
          go_wp2
          go_region_held3 (fun w' => w'.cell? ⟨g, k * 4, none⟩ = some (.string x.word) ∧ w'.cell? ⟨g, k * 4 + 1, none⟩ = some (.int .u32 x.weight) ∧ w'.cell? ⟨g, k * 4 + 2, none⟩ = some (.bool x.gone) ∧ w'.cell? ⟨g, k * 4 + 3, none⟩ = some (.int .i64 x.dist) ∧ w'.cell? ⟨g, p * 4, none⟩ = some (.string y.word) ∧ w'.cell? ⟨g, p * 4 + 1, none⟩ = some (.int .u32 y.weight) ∧ w'.cell? ⟨g, p * 4 + 2, none⟩ = some (.bool y.gone) ∧ w'.cell? ⟨g, p * 4 + 3, none⟩ = some (.int .i64 y.dist))
            (first | exact MK.out _ hbd | exact MK.out _ hcum)
            (first | (go_at_call 19; refine (HY.out _).mono ?_; rintro e w1 ⟨rfl, hb1⟩; have hcum : Below wr.heap.size wr w1 := hbd.trans hb1))
          have hrow1 := HROW.out.below hcum
          have hbk1 := hbk.trans (hcum.mono hszk)
          have hsz1 := hbk1.size
          clear HROW hbd MK
          cases q
          · have hst := HSTOP.out rfl
            rw [hst] at hrow1
            clear hst
            go_wp2
            have hown9 := hrow1.own
            have hln : (insH x T).length = T.length + 1 := by rw [← HST.out, sortH_length]; have := HTL.out; simp; omega
            rw [hln] at hown9
            go_roundg (es.length - (j + 1))
            case rel => exact ⟨j + 1, rfl, by omega, by go_num, by rw [HST.out]; exact hown9, hbk1⟩
            case measure => rw [HK.out]; omega
          · have ck1 := CK.out w1 hrow1
            obtain ⟨a0, a1, a2, a3, b0, b1, b2, b3⟩ := ck1
            go_upto_region 9 with fail
            go_cut [6] (fun v6 wx => ∃ bx, v6 = .pointer (some ⟨bx, 0, none⟩) ∧ bx ≠ g ∧ w.heap.size ≤ bx ∧ wx.cell? ⟨bx, 0, none⟩ = some (.string x.word) ∧ wx.cell? ⟨bx, 1, none⟩ = some (.int .u32 x.weight) ∧ wx.cell? ⟨bx, 2, none⟩ = some (.bool x.gone) ∧ wx.cell? ⟨bx, 3, none⟩ = some (.int .i64 x.dist) ∧ InRow wx w.heap.size g cap X ∧ Below w.heap.size w wx)
            case first =>
              go_wp2
              go_meet
              have hg0 := heap_alloc_new w1 (.cells #[.string x.word, .int .u32 x.weight, .bool x.gone, .int .i64 x.dist] 26)
              obtain ⟨e0, e1, e2, e3⟩ := box4_cells hg0
              exact ⟨w1.heap.size, rfl, by have := hrow1.lt; omega, hsz1, e0, e1, e2, e3, hrow1.below ((Below.refl _ _).alloc (Nat.le_refl _) _), hbk1.alloc hsz1 _⟩
            case rest =>
              obtain ⟨bx, rfl, hbxg, hbxw, e0, e1, e2, e3, hrow2, hbk2⟩ := hcut
              have ck2 := CK.out wc hrow2
              obtain ⟨a0, a1, a2, a3, b0, b1, b2, b3⟩ := ck2
              have hf2 := hrow2.frozen
              have hkX : k < X.length := by have := HXL.out; omega
              have hset := hrow2.put hkX y
              have hsz2 := hbk2.size
              clear hrow1 hbk1 hsz1
              go_upto_region 10 with fail
              go_cut [50] (fun v50 wy => v50 = v50 ∧ InRow wy w.heap.size g cap (X.set k y) ∧ wy.cell? ⟨bx, 0, none⟩ = some (.string x.word) ∧ wy.cell? ⟨bx, 1, none⟩ = some (.int .u32 x.weight) ∧ wy.cell? ⟨bx, 2, none⟩ = some (.bool x.gone) ∧ wy.cell? ⟨bx, 3, none⟩ = some (.int .i64 x.dist) ∧ Below w.heap.size w wy)
              case first =>
                have HSET := Lib.hid hset
                clear hset
                go_wp2
                go_meet
                exact ⟨trivial, HSET.out, (put4_cell hbxg 0).trans e0, (put4_cell hbxg 1).trans e1, (put4_cell hbxg 2).trans e2, (put4_cell hbxg 3).trans e3, put4_below hbk2 hrow2.base⟩
              case rest =>
                obtain ⟨-, hrow3, e0, e1, e2, e3, hbk3⟩ := hcut
                have hf3 := hrow3.frozen
                have hpX : p < (X.set k y).length := by rw [List.length_set]; have := HXL.out; omega
                have hput := hrow3.put hpX x
                rw [HSW.out] at hput
                have HPUT := Lib.hid hput
                obtain ⟨c0, c1, c2, c3⟩ := hrow3.at_ hpX
                clear hput hrow2 hbk2 a0 a1 a2 a3 b0 b1 b2 b3 hf2 hset
                generalize (X.set k y)[p] = z at *
                go_wp2
                go_roundg (p + 1)
                case rel => exact ⟨p, rfl, by omega, by go_num, HPUT.out, HDN.out (by first | trivial | rfl), put4_below hbk3 hrow3.base⟩
                case measure => rw [HKN.out, HP.out]; omega
    · have e : es.take j = es := List.take_of_length_le (by omega)
      rw [e] at hown
      go_wp2
      go_ret
      exact ⟨_, rfl, hown, hb⟩
theorem rsort14 (es : List Hit) (A : Option Addr) (c : Nat) (w : World) (hl : es.length ≤ 1000000) (h : RHs w w.heap.size A es) :
    Calls Try.prog 14 #[.slice A es.length c] w (RetHs w (sortH es)) := (rsort14o es A c w hl h).mono fun _ _ => RetO.ret
end Go.Proofs.Ytjpgcfcacfhmiaa
