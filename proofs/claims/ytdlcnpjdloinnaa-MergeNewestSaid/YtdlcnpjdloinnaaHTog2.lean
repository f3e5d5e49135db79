/- The iterator of merge.together at hits, walked. -/
import Derived.Test.YtdlcnpjdloinnaaHTog
namespace Go.Proofs.Ytdlcnpjdloinnaa.H
open Go.RowKit
attribute [local go_sem] Oper.semAt_some

/-- the kind of the iterator's own row -/
def CRow (o : Obj) : Prop := ∃ c fr, o = .cells c 41 fr
theorem info41 : (Try.prog.info? 41).map (fun i => (i.zero, i.size, i.bytes)) = some (some (.slice none 0 0), 1, 24) := by kernel_rfl

theorem mixed_at {w : List UInt8} {R : List (List Hit)} {j : Nat} (hj : j < R.length) : ((R.map (dropHead w)).take j ++ R.drop j)[j]? = some R[j] := by
  rw [List.getElem?_append_right (by simp; omega)]
  simp [Nat.min_eq_left (Nat.le_of_lt hj), hj]
theorem mixed_step {w : List UInt8} {R : List (List Hit)} {j : Nat} (hj : j < R.length) :
    (R.map (dropHead w)).take (j + 1) ++ R.drop (j + 1) = ((R.map (dropHead w)).take j ++ R.drop j).set j (dropHead w R[j]) := by
  have e1 : (R.map (dropHead w)).take (j + 1) = (R.map (dropHead w)).take j ++ [dropHead w R[j]] := by
    rw [List.take_succ_eq_append_getElem (by simpa using hj)]; simp
  have e2 : R.drop j = R[j] :: R.drop (j + 1) := List.drop_eq_getElem_cons hj
  rw [e1, e2, List.set_append_right _ _ (by simp; omega)]
  simp only [List.length_take, List.length_map, Nat.min_eq_left (Nat.le_of_lt hj), Nat.sub_self, List.set_cons_zero, List.append_assoc, List.singleton_append]
theorem stay_set {B g : Nat} {I : World → Prop} (h : Stays CRow B I) {W : World} (hs : I W) (hB : B ≤ g) {n₀ : Nat} {R : List (List Hit)} (hR : LeftIs W n₀ g R) (i : Nat) (u : Value) : I (W.setCell ⟨g, i, none⟩ u) := by
  obtain ⟨cur, h1, _⟩ := hR
  refine h W _ (some g) hs ⟨rfl, rfl, rfl, by simp [World.setCell], fun k _ hne => Below.heap_setCell W ⟨g, i, none⟩ u k (fun e => hne (by rw [e]))⟩ (fun r e => ?_)
  cases e
  exact ⟨hB, _, h1, _, _, rfl⟩
/-- make, then copy: the row reads as the lists -/
theorem wpList_copy_rows {w : World} {ops : Array Oper} {rest : List Oper} {o : Oper} {a : Act} {Q : Exit → Act → World → Prop} (hgd : o.guard = none) (d s : Operand)
    (ho : o.op = .call { callee := .builtin .copy, args := #[d, s], argTypes := #[40, 40] }) (L : List (List Hit)) (g c B base : Nat) (A : Option Addr) (xs : List Value)
    (hd : a.eval d = .slice (some ⟨g, 0, none⟩) L.length L.length) (hs : a.eval s = .slice A L.length c)
    (hown : w.ownsRow base 41 1 (.slice (some ⟨g, 0, none⟩) L.length L.length) L.length xs) (hL : RLs w B A L) (hB : B ≤ g)
    (h : ∀ w', LeftIs w' B g L → Below g w w' → wpList Try.prog ops Q rest (a.put o.dst (goInt L.length)) w') : wpList Try.prog ops Q (o :: rest) a w := by
  obtain ⟨cur, hcur, hsize⟩ : ∃ cur : Array Value, w.heap[g]? = some (.cells cur 41 (0, 0)) ∧ cur.size = L.length := by
    rcases hown.2 with ⟨h0, _⟩ | ⟨g', cap, cur, hv, _, hh, _, _, hsz, _⟩
    · cases h0
    · injection hv with h1 h2 h3
      injection h1 with h1
      injection h1 with h1
      subst h1
      exact ⟨cur, hh, by omega⟩
  have hl : (cellsOf w A L.length).length = L.length := cellsOf_length _ _ _
  refine wpList_copy_splice hgd d s 40 40 ho 41 Try.underlying40 (by kernel_rfl) (some ⟨g, 0, none⟩) A L.length L.length L.length c hd hs g 0 cur.toList 41 (by simpa using hcur) (cellsOf w A L.length)
    (by rw [hl]; exact (Nat.min_self _).symm) (fun h0 => ⟨rfl, ?_⟩) (by rw [hl]; simpa using (by omega : L.length ≤ cur.size)) (cellsOf_one hL) g w (Below.refl _ _) (Nat.le_refl _) ?_
  · obtain ⟨b, off, rfl, _⟩ := hL (by omega)
    exact ⟨_, rfl, fun j v hv => by obtain ⟨ad, e, hc⟩ := cellsOf_at hL hv; cases e; exact hc⟩
  · intro w' hh hb
    rw [hl]
    refine h w' ?_ hb
    have e : splice cur.toList 0 (cellsOf w A L.length) = cellsOf w A L.length := by
      unfold splice
      rw [Nat.zero_add, List.drop_eq_nil_of_le (by rw [hl]; simpa using (by omega : cur.size ≤ L.length))]
      simp
    have hh' : w'.heap[g]? = some (.cells (cellsOf w A L.length).toArray 41 (0, 0)) := by rw [← e]; exact hh
    refine ⟨_, hh', by simp [cellsOf_length], fun i l hi => ?_⟩
    obtain ⟨Ai, ci, h1, h2, h3⟩ := cellsOf_get hL hi
    exact ⟨Ai, ci, by simpa using h1, h2, h3.below (hb.mono hB)⟩

set_option maxRecDepth 100000 in
set_option maxHeartbeats 2000000 in
theorem tog_walk (n l Bl Bo n₀ n₁ : Nat) (A : Option Addr) (c : Nat) (L : List (List Hit)) (J Jx : List Hit → World → Prop) (W : World)
    (hY : ∀ pre x W1, J pre W1 → pre.length < (togE L).length → YieldAt Fence.wide n Try.prog l #[x.agg] W1 fun e W' =>
      (e = .returned (.bool true) ∧ J (pre ++ [x]) W' ∧ KpR CRow n₀ n₁ W1 W') ∨ (e = .returned (.bool false) ∧ Jx (pre ++ [x]) W'))
    (hJ : ∀ s, Stays CRow W.heap.size (J s)) (hn₀ : n₀ ≤ n₁) (hn₁ : n₁ ≤ W.heap.size) (hlen : L.length ≤ 1000000) (hlens : ∀ l ∈ L, l.length ≤ 1000000)
    (hBl : W.cell? ⟨Bl, 0, none⟩ = some (.slice A L.length c)) (hBo : W.cell? ⟨Bo, 0, none⟩ = some (.func (.func 36) #[] #[])) (hl : Bl < n₀) (ho : Bo < n₀)
    (hL : RLs W n₀ A L) (h0 : J [] W) :
    CallsIn Fence.wide (n + 1) Try.prog 45 #[.func (.yield l) #[] #[], .pointer (some ⟨Bl, 0, none⟩), .pointer (some ⟨Bo, 0, none⟩)] W fun e W' => (∃ v, e = .returned v) ∧
      ((∃ xs, xs = togE L ∧ J xs W') ∨ (∃ pre, pre <+: togE L ∧ Jx pre W')) := by
  obtain ⟨i0, hi, hz0, hz1, hz2⟩ := info_parts info41
  refine callsIn_wide.2 ?_
  go_enter Try.func45, Try.ntmps45
  go_upto_block 0 with (first
    | (at_make; refine wpList_make_full _ rfl _ _ 40 rfl W.heap.size 41 i0 _ 1 Try.underlying40 hi hz0 hz1 .i64 .i64 _ _ L.length rfl rfl rfl rfl (by rw [hz2]; omega) (by unfold maxLen; omega) (Nat.le_refl _) ?_; intro w1 hown1 hg1; have hb1 := below_of_grown hg1; have hBl1 := (hb1.cell (p := ⟨Bl, 0, none⟩) (show Bl < W.heap.size by omega)).trans hBl; have hsz1 := hb1.size)
    | (with_reducible refine wpList_copy_rows rfl (.tmp 14) (.tmp 15) rfl L W.heap.size c n₀ W.heap.size A _ rfl rfl hown1 (hL.below (hb1.mono (by omega))) (by omega) ?_; intro w2 hleft hb2))
  have hB2 : Below W.heap.size W w2 := hb1.trans hb2
  have hJ2 : J [] w2 := (hJ []).of_below h0 hB2
  have hT : Hid (togE L = [] ++ togE L) := rfl
  have hlens' : ∀ l ∈ L, l.length ≤ 1000000 := hlens
  clear hb1 hBl1 hsz1 hown1 hg1 hb2 hlens
  go_frame
  refine (wpIn_wide (n := n + 1)).1 ?_
  gi_wp2
  gi_loopg [] (total L) (fun k wr => ∃ (pre : List Hit) (R : List (List Hit)), k = total R ∧ R.length = L.length ∧ LeftIs wr n₀ W.heap.size R ∧ J pre wr ∧ togE L = pre ++ togE R ∧ (∀ l ∈ R, l.length ≤ 1000000) ∧ Below n₀ W wr)
  case atStart => exact ⟨[], L, rfl, rfl, hleft, hJ2, rfl, hlens', hB2.mono (by omega)⟩
  case round =>
    obtain ⟨pre, R, hk, hRL, hR, hJr, hTr, hRl, hBr⟩ := hrel
    have HK := Lib.hid hk
    have HRL := Lib.hid hRL
    have HT := Lib.hid hTr
    have hRlen : R.length ≤ 1000000 := by omega
    clear hk hTr hT
    obtain ⟨wo, rfl⟩ : ∃ wo : World, wo = wr := ⟨_, rfl⟩
    refine wpIn_wide.2 ?_
    go_upto_block 2 with fail
    go_cut [5] (fun v5 w5 => v5 = .int .i64 (firstV (pickTo R L.length)) ∧ Below wo.heap.size wo w5)
    case first =>
      go_wp2
      go_loopg [5, 19] L.length (fun k v5 v19 w5 => ∃ j : Nat, k = L.length - j ∧ j ≤ L.length ∧ v19 = .int .i64 j ∧ v5 = .int .i64 (firstV (pickTo R j)) ∧ Below wo.heap.size wo w5)
      case atStart => exact ⟨0, rfl, Nat.zero_le _, rfl, rfl, Below.refl _ _⟩
      case round =>
        obtain ⟨j, hk5, hj, rfl, rfl, hb5⟩ := hrel
        have HK5 := Lib.hid hk5
        clear hk5
        have hsz5 := hb5.size
        have hlt0 := hR.lt
        have hn₂ : n₀ ≤ wo.heap.size := by omega
        have hR5 : LeftIs wr n₀ W.heap.size R := hR.keep (hb5.mono hn₂) (hb5.block _ hlt0)
        have hBo5 : wr.cell? ⟨Bo, 0, none⟩ = some (.func (.func 36) #[] #[]) := (hb5.cell (p := ⟨Bo, 0, none⟩) (by show Bo < _; omega)).trans ((hBr.cell (p := ⟨Bo, 0, none⟩) ho).trans hBo)
        by_cases hlt : j < L.length
        · have hltI : (j : Int) < (L.length : Int) := by omega
          have hRj : R[j]? = some (R[j]'(by omega)) := List.getElem?_eq_getElem (by omega)
          generalize hx : R[j]'(by omega) = lj at hRj
          clear hx
          obtain ⟨Aj, cj, hcell, hcj, hrj, -⟩ := hR5.at_ hRj
          cases lj with
          | nil =>
            have hp : pickTo R (j + 1) = pickTo R j := by simp [pickTo, better, hRj]
            have HP := Lib.hid hp
            clear hp hRj
            go_wp2
            go_quiet (fail)
            go_wp2
            go_roundg (L.length - (j + 1))
            case rel => exact ⟨j + 1, rfl, by omega, by go_num, by rw [HP.out], below_right hb5 _⟩
            case measure => rw [HK5.out]; omega
          | cons e t =>
            obtain ⟨b, off, rfl, hb, c0, c1, c2, c3⟩ := hrj.head
            simp only [List.length_cons] at hcell
            have hpos : (0 : Int) < ((t.length + 1 : Nat) : Int) := by omega
            cases hpk : pickTo R j with
            | none =>
              have hp : pickTo R (j + 1) = some j := by simp [pickTo, better, hRj, hpk]
              have HP := Lib.hid hp
              have HPK := Lib.hid hpk
              clear hp hpk hRj
              simp only [firstV]
              go_wp2
              go_quiet (fail)
              go_wp2
              go_roundg (L.length - (j + 1))
              case rel => exact ⟨j + 1, rfl, by omega, by go_num, by rw [HP.out]; rfl, below_right hb5 _⟩
              case measure => rw [HK5.out]; omega
            | some f =>
              obtain ⟨hf, e', t', hRf⟩ := pickTo_some hpk
              obtain ⟨Af, cf, hcellf, hcf, hrf, -⟩ := hR5.at_ hRf
              obtain ⟨bf, offf, rfl, hbf, d0, d1, d2, d3⟩ := hrf.head
              simp only [List.length_cons] at hcellf
              have hposf : (0 : Int) < ((t'.length + 1 : Nat) : Int) := by omega
              have hp : pickTo R (j + 1) = if ltE e e' = true then some j else some f := by simp only [pickTo, better, hRj, hpk, hRf]
              have HP := Lib.hid hp
              have HPK := Lib.hid hpk
              clear hp hpk hRj hRf
              have hf0 : (0 : Int) ≤ (f : Int) := by omega
              have hf1 : (f : Int) < (L.length : Int) := by omega
              have hf2 : decide ((f : Int) < 0) = false := by simp
              simp only [firstV]
              have mk : ∀ w' : World, Below wr.heap.size wr w' → (Below wr.heap.size wr w' ∧ w'.cell? ⟨Bo, 0, none⟩ = some (.func (.func 36) #[] #[]) ∧ w'.cell? ⟨W.heap.size, f, none⟩ = some (.slice (some ⟨bf, offf, none⟩) (t'.length + 1) cf) ∧
                  w'.cell? ⟨b, off, none⟩ = some (.string e.word) ∧ w'.cell? ⟨b, off + 1, none⟩ = some (.int .u32 e.weight) ∧ w'.cell? ⟨b, off + 2, none⟩ = some (.bool e.gone) ∧ w'.cell? ⟨b, off + 3, none⟩ = some (.int .i64 e.dist) ∧
                  w'.cell? ⟨bf, offf, none⟩ = some (.string e'.word) ∧ w'.cell? ⟨bf, offf + 1, none⟩ = some (.int .u32 e'.weight) ∧ w'.cell? ⟨bf, offf + 2, none⟩ = some (.bool e'.gone) ∧ w'.cell? ⟨bf, offf + 3, none⟩ = some (.int .i64 e'.dist)) := fun w' hb' =>
                have k := (bcell hb').1
                ⟨hb', (k _ _ (by omega)).trans hBo5, (k _ _ (by omega)).trans hcellf, (k _ _ (by omega)).trans c0, (k _ _ (by omega)).trans c1, (k _ _ (by omega)).trans c2, (k _ _ (by omega)).trans c3, (k _ _ (by omega)).trans d0, (k _ _ (by omega)).trans d1, (k _ _ (by omega)).trans d2, (k _ _ (by omega)).trans d3⟩
              have MK := Lib.hid mk
              clear mk
              go_wp2
              go_region_held3 (fun w' => Below wr.heap.size wr w' ∧ w'.cell? ⟨Bo, 0, none⟩ = some (.func (.func 36) #[] #[]) ∧ w'.cell? ⟨W.heap.size, f, none⟩ = some (.slice (some ⟨bf, offf, none⟩) (t'.length + 1) cf) ∧
                  w'.cell? ⟨b, off, none⟩ = some (.string e.word) ∧ w'.cell? ⟨b, off + 1, none⟩ = some (.int .u32 e.weight) ∧ w'.cell? ⟨b, off + 2, none⟩ = some (.bool e.gone) ∧ w'.cell? ⟨b, off + 3, none⟩ = some (.int .i64 e.dist) ∧
                  w'.cell? ⟨bf, offf, none⟩ = some (.string e'.word) ∧ w'.cell? ⟨bf, offf + 1, none⟩ = some (.int .u32 e'.weight) ∧ w'.cell? ⟨bf, offf + 2, none⟩ = some (.bool e'.gone) ∧ w'.cell? ⟨bf, offf + 3, none⟩ = some (.int .i64 e'.dist))
                (first | exact MK.out _ hcum | exact MK.out _ ((Below.refl _ _).drew))
                (first
                  | (go_at_call 36; refine (own_any _ _ _ _ _).mono ?_; rintro e w' ⟨rfl, hbk⟩; (first | (have hcum := keepL hcum hbk) | (have hcum := keepL ((Below.refl wr.heap.size wr).drew) hbk)); clear hbk)
                  | (go_at_call 41; refine (less_any _ _ _).mono ?_; rintro e w' ⟨rfl, rfl⟩))
              have hb6 : Below wo.heap.size wo w' := hb5.trans (hcum.mono hsz5)
              go_wp2
              · have ht : Op.bytesLess e.word.toList e'.word.toList = true := by assumption
                go_roundg (L.length - (j + 1))
                case rel => exact ⟨j + 1, rfl, by omega, by go_num, by rw [HP.out, show ltE e e' = true from ht]; rfl, hb6⟩
                case measure => rw [HK5.out]; omega
              · have ht : Op.bytesLess e.word.toList e'.word.toList = false := by assumption
                go_roundg (L.length - (j + 1))
                case rel => exact ⟨j + 1, rfl, by omega, by go_num, by rw [HP.out, show ltE e e' = false from ht]; rfl, hb6⟩
                case measure => rw [HK5.out]; omega
        · obtain rfl : j = L.length := by omega
          go_wp2
          go_meet
          case rel => exact ⟨rfl, hb5⟩
    case rest =>
      obtain ⟨rfl, hb5⟩ := hcut
      have hsz5 := hb5.size
      have hlt0 := hR.lt
      have hn₂ : n₀ ≤ wo.heap.size := by omega
      have hR5 : LeftIs wc n₀ W.heap.size R := hR.keep (hb5.mono hn₂) (hb5.block _ hlt0)
      have hBo5 : wc.cell? ⟨Bo, 0, none⟩ = some (.func (.func 36) #[] #[]) := (hb5.cell (p := ⟨Bo, 0, none⟩) (by show Bo < _; omega)).trans ((hBr.cell (p := ⟨Bo, 0, none⟩) ho).trans hBo)
      have hJ5 : J pre wc := (hJ pre).of_below hJr hb5
      have hB5 : Below n₀ W wc := hBr.trans (hb5.mono hn₂)
      clear hR hb5 hJr hBr
      cases hpk : pickTo R L.length with
      | none =>
        have hT0 : togE R = [] := togE_none (by rw [HRL.out]; exact hpk)
        have HT0 := Lib.hid hT0
        clear hT0 hpk
        simp only [firstV]
        go_wp2
        refine bodyPost_ret (results_none rfl _ _ _) rfl ?_
        exact ⟨⟨_, rfl⟩, .inl ⟨pre, by rw [HT.out, HT0.out]; simp, hJ5⟩⟩
      | some f =>
        obtain ⟨hf, e, t, hRf⟩ := pickTo_some hpk
        have hT1 : togE R = e :: togE (R.map (dropHead e.word.toList)) := togE_step (by rw [HRL.out]; exact hpk) hRf
        obtain ⟨Af, cf, hcellf, hcf, hrf, -⟩ := hR5.at_ hRf
        obtain ⟨bf, offf, rfl, hbf, d0, d1, d2, d3⟩ := hrf.head
        simp only [List.length_cons] at hcellf
        have hT2 : togE L = pre ++ [e] ++ togE (R.map (dropHead e.word.toList)) := by rw [HT.out, hT1]; simp
        have HT2 := Lib.hid hT2
        have hpl : pre.length < (togE L).length := by rw [hT2]; simp
        have htot := total_drop_lt hRf (show (e.word.toList == e.word.toList) = true by simp)
        clear hT2 hT1 hpk HT
        have hf0 : (0 : Int) ≤ (f : Int) := by omega
        have hf1 : (f : Int) < (L.length : Int) := by omega
        have hf2 : decide ((f : Int) < 0) = false := by simp
        have hposf : (0 : Int) < ((t.length + 1 : Nat) : Int) := by omega
        have HRf := Lib.hid hRf
        clear hRf
        obtain ⟨fn, tmps, assign, body, hy, hRd⟩ := hY pre e wc hJ5 hpl
        simp only [Hit.agg] at hy
        simp only [firstV]
        go_upto_region 9 with fail
        refine (wpIn_wide (n := n + 1)).1 ?_
        gi_wp2
        refine hRd.mono ?_
        rintro e3 W3 (⟨rfl, hJ3, hk3, hk4⟩ | ⟨rfl, hJx3⟩)
        · -- the round goes on
          have hR3 : LeftIs W3 n₀ W.heap.size R := hR5.keep hk3 (by
            obtain ⟨cur, h1, _⟩ := hR5
            rw [hk4 _ _ hn₁ h1 ⟨_, _, rfl⟩, h1])
          have hsz3 := hk3.size
          have hB3 : Below n₀ W W3 := hB5.trans hk3
          have hBo3 : W3.cell? ⟨Bo, 0, none⟩ = some (.func (.func 36) #[] #[]) := (hk3.cell (p := ⟨Bo, 0, none⟩) ho).trans hBo5
          clear hk4 hR5 hJ5 hBo5 hcellf d0 d1 d2 d3 hrf hcf
          obtain ⟨Af, cf', hcellf, hcf, hrf, -⟩ := hR3.at_ HRf.out
          obtain ⟨bf, offf, rfl, hbf, d0, d1, d2, d3⟩ := hrf.head
          simp only [List.length_cons] at hcellf
          have mk : ∀ w' : World, Below W3.heap.size W3 w' → (Below W3.heap.size W3 w' ∧ w'.cell? ⟨Bo, 0, none⟩ = some (.func (.func 36) #[] #[]) ∧ w'.cell? ⟨W.heap.size, f, none⟩ = some (.slice (some ⟨bf, offf, none⟩) (t.length + 1) cf') ∧
              w'.cell? ⟨bf, offf, none⟩ = some (.string e.word) ∧ w'.cell? ⟨bf, offf + 1, none⟩ = some (.int .u32 e.weight) ∧ w'.cell? ⟨bf, offf + 2, none⟩ = some (.bool e.gone) ∧ w'.cell? ⟨bf, offf + 3, none⟩ = some (.int .i64 e.dist)) := fun w' hb' =>
            have k := (bcell hb').1
            ⟨hb', (k _ _ (by omega)).trans hBo3, (k _ _ (by omega)).trans hcellf, (k _ _ (by omega)).trans d0, (k _ _ (by omega)).trans d1, (k _ _ (by omega)).trans d2, (k _ _ (by omega)).trans d3⟩
          have MK := Lib.hid mk
          clear mk
          gi_wp2
          go_wp2_with fail
          go_region_held3 (fun w' => Below W3.heap.size W3 w' ∧ w'.cell? ⟨Bo, 0, none⟩ = some (.func (.func 36) #[] #[]) ∧ w'.cell? ⟨W.heap.size, f, none⟩ = some (.slice (some ⟨bf, offf, none⟩) (t.length + 1) cf') ∧
              w'.cell? ⟨bf, offf, none⟩ = some (.string e.word) ∧ w'.cell? ⟨bf, offf + 1, none⟩ = some (.int .u32 e.weight) ∧ w'.cell? ⟨bf, offf + 2, none⟩ = some (.bool e.gone) ∧ w'.cell? ⟨bf, offf + 3, none⟩ = some (.int .i64 e.dist))
            (first | exact MK.out _ hcum | exact MK.out _ ((Below.refl _ _).drew))
            (first | (go_at_call 36; refine (own_any _ _ _ _ _).mono ?_; rintro e w' ⟨rfl, hbk⟩; have hcum := keepL ((Below.refl W3.heap.size W3).drew) hbk; clear hbk))
          have hlt3 := hR3.lt
          obtain ⟨w4, rfl⟩ : ∃ w4 : World, w4 = w' := ⟨_, rfl⟩
          have hR4 : LeftIs w4 n₀ W.heap.size R := hR3.keep (hcum.mono (by omega)) (hcum.block _ (by omega))
          have hJ4 : J (pre ++ [e]) w4 := (hJ _).of_below hJ3 hcum
          have hB4 : Below n₀ W w4 := hB3.trans (hcum.mono (by omega))
          clear MK hcum hR3 hJ3 hB3 hBo3 hcellf d0 d1 d2 d3 hrf hcf
          go_wp2
          have hl4 : ((R.map (dropHead e.word.toList)).take 0 ++ R.drop 0) = R := by simp
          go_loopg [72] L.length (fun k v72 w6 => ∃ j : Nat, k = L.length - j ∧ j ≤ L.length ∧ v72 = .int .i64 j ∧ LeftIs w6 n₀ W.heap.size ((R.map (dropHead e.word.toList)).take j ++ R.drop j) ∧ J (pre ++ [e]) w6 ∧ Below n₀ W w6)
          case atStart => exact ⟨0, rfl, Nat.zero_le _, rfl, by rw [hl4]; exact hR4, hJ4, hB4⟩
          case round =>
            obtain ⟨j, hk6, hj, rfl, hR6, hJ6, hB6⟩ := hrel
            have HK6 := Lib.hid hk6
            have hBo6 : wr.cell? ⟨Bo, 0, none⟩ = some (.func (.func 36) #[] #[]) := (hB6.cell (p := ⟨Bo, 0, none⟩) ho).trans hBo
            clear hk6 hR4 hJ4 hB4 hl4
            by_cases hlt : j < L.length
            · have hltI : (j : Int) < (L.length : Int) := by omega
              have hRj : ((R.map (dropHead e.word.toList)).take j ++ R.drop j)[j]? = some (R[j]'(by omega)) := mixed_at (by omega)
              have hstep : (R.map (dropHead e.word.toList)).take (j + 1) ++ R.drop (j + 1) = ((R.map (dropHead e.word.toList)).take j ++ R.drop j).set j (dropHead e.word.toList (R[j]'(by omega))) := mixed_step (by omega)
              have hjl : j < ((R.map (dropHead e.word.toList)).take j ++ R.drop j).length := by simp; omega
              have HS := Lib.hid hstep
              generalize hx : R[j]'(by omega) = lj at hRj HS
              clear hx hstep
              obtain ⟨Aj, cj, hcell, hcj, hrj, hfz⟩ := hR6.at_ hRj
              cases lj with
              | nil =>
                go_wp2
                go_quiet (fail)
                go_wp2
                go_roundg (L.length - (j + 1))
                case rel => exact ⟨j + 1, rfl, by omega, by go_num, by rw [HS.out]; rw [show dropHead e.word.toList [] = [] from rfl, set_same hRj]; exact hR6.drewN nq, (hJ _).of_below hJ6 (below_right (Below.refl _ _) nq), below_right hB6 nq⟩
                case measure => rw [HK6.out]; omega
              | cons x t =>
                obtain ⟨b, off, rfl, hb, c0, c1, c2, c3⟩ := hrj.head
                simp only [List.length_cons] at hcell
                have hpos : (0 : Int) < ((t.length + 1 : Nat) : Int) := by omega
                have hlt6 := hR6.lt
                have mk : ∀ w' : World, Below wr.heap.size wr w' → (Below wr.heap.size wr w' ∧ w'.cell? ⟨Bo, 0, none⟩ = some (.func (.func 36) #[] #[]) ∧
                    w'.cell? ⟨b, off, none⟩ = some (.string x.word) ∧ w'.cell? ⟨b, off + 1, none⟩ = some (.int .u32 x.weight) ∧ w'.cell? ⟨b, off + 2, none⟩ = some (.bool x.gone) ∧ w'.cell? ⟨b, off + 3, none⟩ = some (.int .i64 x.dist)) := fun w' hb' =>
                  have k := (bcell hb').1
                  ⟨hb', (k _ _ (by omega)).trans hBo6, (k _ _ (by omega)).trans c0, (k _ _ (by omega)).trans c1, (k _ _ (by omega)).trans c2, (k _ _ (by omega)).trans c3⟩
                have MK := Lib.hid mk
                clear mk
                go_wp2
                go_region_held3 (fun w' => Below wr.heap.size wr w' ∧ w'.cell? ⟨Bo, 0, none⟩ = some (.func (.func 36) #[] #[]) ∧
                    w'.cell? ⟨b, off, none⟩ = some (.string x.word) ∧ w'.cell? ⟨b, off + 1, none⟩ = some (.int .u32 x.weight) ∧ w'.cell? ⟨b, off + 2, none⟩ = some (.bool x.gone) ∧ w'.cell? ⟨b, off + 3, none⟩ = some (.int .i64 x.dist))
                  (first | exact MK.out _ hcum | exact MK.out _ ((Below.refl _ _).drew))
                  (first | (go_at_call 36; refine (own_any _ _ _ _ _).mono ?_; rintro e w' ⟨rfl, hbk⟩; have hcum := keepL ((Below.refl wr.heap.size wr).drew) hbk; clear hbk))
                have hcell' := (hcum.cell (p := ⟨W.heap.size, j, none⟩) hlt6).trans hcell
                have hfz' := (hcum.frozen (p := ⟨W.heap.size, j, none⟩) hlt6).trans hfz
                have hR7 : LeftIs w' n₀ W.heap.size ((R.map (dropHead e.word.toList)).take j ++ R.drop j) := hR6.keep (hcum.mono (by omega)) (hcum.block _ hlt6)
                have hJ7 : J (pre ++ [e]) w' := (hJ _).of_below hJ6 hcum
                have hB7 : Below n₀ W w' := hB6.trans (hcum.mono (by omega))
                have hcum0 := hcum
                clear MK hR6 hJ6 hB6 hBo6 hcell c0 c1 c2 c3 hcum
                have hdt : (x.word.toList == e.word.toList) = true → dropHead e.word.toList (x :: t) = t := fun h => by simp only [dropHead, if_pos h]
                have hdf : (x.word.toList == e.word.toList) = false → dropHead e.word.toList (x :: t) = x :: t := fun h => by simp only [dropHead, h]; rfl
                have HDT := Lib.hid hdt
                have HDF := Lib.hid hdf
                clear hdt hdf
                go_wp2
                · have ht : (x.word.toList == e.word.toList) = true := by assumption
                  have h1 : cj = 1 := by assumption
                  obtain rfl : t = [] := by simp only [List.length_cons] at hcj; exact List.eq_nil_of_length_eq_zero (by omega)
                  go_roundg (L.length - (j + 1))
                  case rel => exact ⟨j + 1, rfl, by omega, by go_num, by rw [HS.out, HDT.out ht]; exact hR7.set_ (by omega) hjl (Nat.le_refl 0) RHs.nil_, stay_set (hJ _) hJ7 (Nat.le_refl _) hR7 _ _, hB7.setCell (p := ⟨W.heap.size, j, none⟩) (by show n₀ ≤ W.heap.size; omega) _⟩
                  case measure => rw [HK6.out]; omega
                · have ht : (x.word.toList == e.word.toList) = true := by assumption
                  have hrt : RHs w' n₀ (some ⟨b, off + 4, none⟩) t := RHs.tail (hrj.below (hcum0.mono (by omega)))
                  go_roundg (L.length - (j + 1))
                  case rel => exact ⟨j + 1, rfl, by omega, by go_num, by rw [HS.out, HDT.out ht]; exact hR7.set_ (by omega) hjl (by simp only [List.length_cons] at hcj; omega) hrt, stay_set (hJ _) hJ7 (Nat.le_refl _) hR7 _ _, hB7.setCell (p := ⟨W.heap.size, j, none⟩) (by show n₀ ≤ W.heap.size; omega) _⟩
                  case measure => rw [HK6.out]; omega
                · have ht : (x.word.toList == e.word.toList) = false := by assumption
                  go_roundg (L.length - (j + 1))
                  case rel => exact ⟨j + 1, rfl, by omega, by go_num, by rw [HS.out, HDF.out ht, set_same hRj]; exact hR7, hJ7, hB7⟩
                  case measure => rw [HK6.out]; omega
            · obtain rfl : j = L.length := by omega
              go_wp2
              have hend : (R.map (dropHead e.word.toList)).take L.length ++ R.drop L.length = R.map (dropHead e.word.toList) := by
                rw [List.take_of_length_le (by simp; omega), List.drop_eq_nil_of_le (by omega), List.append_nil]
              go_roundg (total (R.map (dropHead e.word.toList)))
              case rel => exact ⟨pre ++ [e], R.map (dropHead e.word.toList), rfl, by simp; omega, by rw [← hend]; exact hR6, hJ6, HT2.out, fun l hl => by obtain ⟨l', hl', rfl⟩ := List.mem_map.1 hl; exact Nat.le_trans (dropHead_length _ _) (hRl l' hl'), hB6⟩
              case measure => rw [HK.out]; exact htot
        · gi_wp2
          go_wp2
          refine bodyPost_ret (results_none rfl _ _ _) rfl ?_
          exact ⟨⟨_, rfl⟩, .inr ⟨pre ++ [e], ⟨_, HT2.out.symm⟩, hJx3⟩⟩
end Go.Proofs.Ytdlcnpjdloinnaa.H
