/- The walk of MergeTells. -/
import Derived.Test.YtdlcnpjdloinnaaHRef
import Derived.Test.YtdlcnpjdloinnaaBot
import Derived.Test.YtdlcnpjdloinnaaKnown0
namespace Go.Proofs.Ytdlcnpjdloinnaa
open Go.RowKit
/-- the law's hits of each list, each list by its own number -/
def tellH (x : Int) (L : List (List Ent)) : List (List Hit) := L.mapIdx fun i l => H.hitsOf ((x + (i : Int)) % 256) l
theorem tell_snoc (x : Int) (L : List (List Ent)) (l : List Ent) : tellH x (L ++ [l]) = tellH x L ++ [H.hitsOf ((x + (L.length : Int)) % 256) l] := by
  unfold tellH; rw [List.mapIdx_concat]
theorem tell_mem {x : Int} {L : List (List Ent)} {h : List Hit} (hh : h ∈ tellH x L) : ∃ b l, l ∈ L ∧ h = H.hitsOf b l := by
  unfold tellH at hh
  obtain ⟨i, hi, rfl⟩ := List.mem_mapIdx.1 hh
  exact ⟨_, _, List.getElem_mem _, rfl⟩
theorem tell_ents (x : Int) (L : List (List Ent)) : H.ents (tellH x L) = L := by
  unfold H.ents tellH
  refine List.ext_getElem? fun i => ?_
  rw [List.getElem?_map, List.getElem?_mapIdx]
  cases L[i]? with
  | none => rfl
  | some l => simp [H.ents_hits]
theorem tell_rises {x : Int} {L : List (List Ent)} (hs : ∀ l ∈ L, Rises l) : ∀ h ∈ tellH x L, H.Rises h := fun h hh => by
  obtain ⟨b, l, hl, rfl⟩ := tell_mem hh
  exact List.Pairwise.map _ (fun _ _ h => h) (hs l hl)
theorem tell_len {x : Int} {L : List (List Ent)} {n : Nat} (hs : ∀ l ∈ L, l.length ≤ n) : ∀ h ∈ tellH x L, h.length ≤ n := fun h hh => by
  obtain ⟨b, l, hl, rfl⟩ := tell_mem hh
  simpa [H.hitsOf] using hs l hl
theorem tell_total {x : Int} {L : List (List Ent)} (hs : ∀ l ∈ L, l.length ≤ 20) (h6 : L.length ≤ 6) : H.total (tellH x L) ≤ 120 := by
  have : ∀ M : List (List Hit), (∀ l ∈ M, l.length ≤ 20) → H.total M ≤ M.length * 20 := fun M hM => by
    induction M with
    | nil => simp [H.total]
    | cons l M ih =>
      have h1 := ih fun x hx => hM x (List.mem_cons_of_mem _ hx)
      have h2 := hM l (List.mem_cons_self ..)
      simp only [H.total, List.map_cons, List.sum_cons, List.length_cons] at h1 ⊢
      omega
  have h1 := this _ (tell_len (x := x) hs)
  have h2 : (tellH x L).length = L.length := by simp [tellH]
  omega
section
variable {L : List (List Ent)} {A : Option Addr} {c : Nat} {w : World} (h6 : L.length ≤ 6) (hls : ∀ l ∈ L, l.length ≤ 20) (ht : total L ≤ 120) (hs : ∀ l ∈ L, Rises l) (hbr : ∀ l ∈ L, Bare l) (h : RLs w w.heap.size A L)
include h6 hls ht h
theorem tl11 : Calls Try.prog 11 #[.slice A L.length c] w (RetEs w (togE L)) := lists_any A c L w (by omega) (fun l hl => Nat.le_trans (hls l hl) (by omega)) (by omega) h
theorem tl15 : Calls Try.prog 15 #[.slice A L.length c] w (RetEs w (liveE (togE L))) := bottom_any A c L w (by omega) (fun l hl => Nat.le_trans (hls l hl) (by omega)) (by omega) h
include hs hbr
theorem tl17 : Calls Try.prog 17 #[.slice A L.length c] w (RetEs w (togE L)) := by
  rw [tog_ref hs hbr]
  exact refLists_any L A c w (by omega) (fun l hl => Nat.le_trans (hls l hl) (by omega)) (by omega) h
theorem tl18 : Calls Try.prog 18 #[.slice A L.length c] w (RetEs w (liveE (togE L))) := by
  rw [tog_ref hs hbr]
  exact refBottom_any L A c w (by omega) (fun l hl => Nat.le_trans (hls l hl) (by omega)) (by omega) h
end
set_option maxHeartbeats 4000000 in
set_option maxRecDepth 100000 in
theorem tellsLaw_any (D : List (List Dra)) (A : Option Addr) (c : Nat) (k : ByteArray) (x : Int) (hk : k.size ≤ maxLen) (hx0 : 0 ≤ x) (hx1 : x ≤ 255) (w : World) (hl : D.length ≤ 9223372036854775807) (h : RDLs w w.heap.size A D) :
    Calls Try.prog 6 #[.slice A D.length c, .string k, .int .u8 x] w fun e w' => e = .returned (.bool true) ∧ Below w.heap.size w w' := by
  have hs := listsOf_rises D
  have hls := listsOf_len D
  have h6 := listsOf_six D
  have ht := total_lists D
  have hws := H.listsOf_words D
  have hbr := H.listsOf_bare D
  have HS := Lib.hid hs
  have HLS := Lib.hid hls
  have HW := Lib.hid hws
  have HBR := Lib.hid hbr
  clear hs hls hws hbr
  unfold maxLen at hk
  go_enter Try.func6, Try.ntmps6
  go_upto_region 3 with (first
    | (go_at_call 10; refine (lists10_any D A c _ hl h).mono ?_; rintro e w2 ⟨A2, c2, rfl, hc2, hr2, hS2, hb2⟩; have hsz2 := hb2.size))
  clear h hl
  generalize k.extract 0 (if (20 : Int) < (k.size : Int) then 20 else (k.size : Int)).toNat = kw
  generalize (if (20 : Int) < (k.size : Int) then (20 : Int) else (k.size : Int)) = kn
  generalize hLL : listsOf D = L at *
  clear hLL
  go_wp2
  go_loopg [8, 9] L.length (fun n v i wr => ∃ j : Nat, n = L.length - j ∧ j ≤ L.length ∧ i = .int .i64 j ∧ H.OLs wr w2.heap.size v (tellH x (L.take j)) ∧ Below w2.heap.size w2 wr)
  case atStart => exact ⟨0, rfl, Nat.zero_le _, rfl, H.OLs.nil_ _ _, Below.refl _ _⟩
  case round =>
    obtain ⟨j, hk, hj, rfl, hown, hb⟩ := hrel
    have HK := Lib.hid hk
    clear hk
    have hsz := hb.size
    by_cases hlt : j < L.length
    · obtain ⟨b, off, rfl, hlb, hcs⟩ := hr2 (by omega)
      obtain ⟨Ai, ci, h0, hcc, hds⟩ := hcs j L[j] (List.getElem?_eq_getElem hlt)
      have h0' := ((bcell hb).1 _ _ hlb).trans h0
      have hwl := HW.out L[j] (List.getElem_mem hlt)
      have hll := HLS.out L[j] (List.getElem_mem hlt)
      have HWL := Lib.hid hwl
      clear h0 hwl
      have hst : tellH x (L.take (j + 1)) = tellH x (L.take j) ++ [H.hitsOf ((x + (j : Int)) % 256) L[j]] := by
        rw [List.take_succ_eq_append_getElem hlt, tell_snoc]
        have : (L.take j).length = j := by simp; omega
        rw [this]
      have HST := Lib.hid hst
      have hal : (tellH x (L.take j)).length ≤ 1000000000 := by simp [tellH]; omega
      have HAL := Lib.hid hal
      clear hst hal
      generalize L[j] = lj at *
      generalize tellH x (L.take j) = TJ at *
      go_wp2_with (first
        | (go_at_call 16; refine (H.hits16_any lj Ai ci ((x + (j : Int)) % 256) wr (by omega) (by omega) (fun e he => Nat.le_trans (HWL.out e he) (by omega)) ((hds.below hb).any)).mono ?_; rintro e w3 ⟨A3, c3, rfl, hc3, hr3, hb3⟩; have hsz3 := hb3.size)
        | (at_builtin; refine H.wpList_append_list rfl (.tmp 29) (.tmp 39) rfl w2.heap.size _ _ (H.hitsOf ((x + (j : Int)) % 256) lj) rfl (hown.below hb3) _ rfl (by simp) rfl hr3 hc3 HAL.out (by omega) ?_; intro v' w' hown' hb'))
      go_roundg (L.length - (j + 1))
      case rel => exact ⟨j + 1, rfl, by omega, by go_num, by rw [HST.out]; exact hown', hb.trans ((hb3.mono hsz).trans hb')⟩
      case measure => rw [HK.out]; omega
    · have e : tellH x (L.take j) = tellH x L := by rw [List.take_of_length_le (by omega)]
      rw [e] at hown
      obtain ⟨A5, c5, rfl, hc5, hr5, -⟩ := H.OLs.form hown
      have HRL := Lib.hid ((hr2.below hb).more hsz)
      have HR5 := Lib.hid hr5
      have hb0 := hb2.trans (hb.mono hsz2)
      have hs0 := hb0.size
      obtain ⟨W1, hW1⟩ : ∃ W1, W1 = wr := ⟨_, rfl⟩
      subst hW1
      clear e hown hr2 hr5 hb2 hb hsz hsz2
      have HTR := Lib.hid (tell_rises (x := x) HS.out)
      have HTL := Lib.hid (tell_len (x := x) HLS.out)
      have HTE := Lib.hid (show ∀ l ∈ H.ents (tellH x L), Bare l by rw [tell_ents]; exact HBR.out)
      have htt := tell_total (x := x) HLS.out h6
      have htn : (tellH x L).length = L.length := by simp [tellH]
      have HTN := Lib.hid htn
      have hml : (togE L).length ≤ 120 := Nat.le_trans (togE_length L) ht
      have hvl : (liveE (togE L)).length ≤ 120 := Nat.le_trans (List.length_filter_le _ _) hml
      have hgl : (H.liveH (H.togE (tellH x L))).length ≤ 120 := Nat.le_trans (List.length_filter_le _ _) (Nat.le_trans (H.togE_length _) htt)
      have hg0 : True := trivial
      have G1 := Lib.hid hg0
      clear htn hg0
      generalize tellH x L = T at *
      have hK : Below W1.heap.size W1 W1 := Below.refl _ _
      have hRL : ∀ w', Below W1.heap.size W1 w' → RLs w' w'.heap.size A2 L := fun w' hb => (HRL.out.below hb).more hb.size
      have hR5 : ∀ w', Below W1.heap.size W1 w' → H.RLs w' w'.heap.size A5 T := fun w' hb => (HR5.out.below hb).more hb.size
      have HR := Lib.hid hRL
      have HQ := Lib.hid hR5
      clear hRL hR5 HRL HR5
      go_upto_region 10 with (first
        | (go_at_call 11; refine (tl11 h6 HLS.out ht (HR.out _ hK)).mono ?_; rintro e w3 ⟨A3, c3, rfl, hc3, hr3, hb3⟩; have hK := keepL hK hb3)
        | (go_at_call 17; refine (tl17 h6 HLS.out ht HS.out HBR.out (HR.out _ hK)).mono ?_; rintro e w4 ⟨A4, c4, rfl, hc4, hr4, hb4⟩; have hr3 := hr3.later hb4; have hK := keepL hK hb4)
        | (go_at_call 14; first
            | (have _q := G1; refine (same_lit (togE L) hr3 hr4 rfl (by omega)).mono ?_; rintro e w5 ⟨rfl, hb5⟩; have hK := keepL hK hb5; clear _q G1)
            | (refine (same_lit (liveE (togE L)) hr6 hr7 rfl (by omega)).mono ?_; rintro e w8 ⟨rfl, hb8⟩; have hK := keepL hK hb8))
        | (go_at_call 15; refine (tl15 h6 HLS.out ht (HR.out _ hK)).mono ?_; rintro e w6 ⟨A6, c6, rfl, hc6, hr6, hb6⟩; have hK := keepL hK hb6)
        | (go_at_call 18; refine (tl18 h6 HLS.out ht HS.out HBR.out (HR.out _ hK)).mono ?_; rintro e w7 ⟨A7, c7, rfl, hc7, hr7, hb7⟩; have hr6 := hr6.later hb7; have hK := keepL hK hb7)
        | (go_at_call 20; refine (H.hits_any A5 c5 T _ (by have := HTN.out; omega) (fun l hl => Nat.le_trans (HTL.out l hl) (by omega)) (by omega) (HQ.out _ hK)).mono ?_; rintro e w9 ⟨A9, c9, rfl, hc9, hr9, hb9⟩; have hK := keepL hK hb9)
        | (go_at_call 21; refine (H.refHits_any T A5 c5 _ (by have := HTN.out; omega) HTL.out HTR.out HTE.out (HQ.out _ hK)).mono ?_; rintro e w10 ⟨A10, c10, rfl, hc10, hr10, hb10⟩; have hr9 := hr9.later hb10; have hK := keepL hK hb10)
        | (go_at_call 19; refine (hsame_lit (H.liveH (H.togE T)) hr9 hr10 rfl (by omega)).mono ?_; rintro e w11 ⟨rfl, hb11⟩; have hK := keepL hK hb11))
      clear hr3 hr6 hr9 hr4 hr7 hr10 hc3 hc4 hc6 hc7 hc9 hc10
      go_upto_region 11 with fail
      have hcell : ∀ j : Nat, j < 4 → ∃ kj : ByteArray, (w11.alloc (.cells #[.string kw, .string ⟨#[97]⟩, .string ⟨#[98]⟩, .string ⟨#[97, 98]⟩] 9)).cell? ⟨w11.heap.size, j, none⟩ = some (.string kj) := fun j hj => by
        match j, hj with
        | 0, _ => exact ⟨_, cell_of_row _ _ 0 _ 9 (0, 0) (heap_alloc_new _ _)⟩
        | 1, _ => exact ⟨_, cell_of_row _ _ 1 _ 9 (0, 0) (heap_alloc_new _ _)⟩
        | 2, _ => exact ⟨_, cell_of_row _ _ 2 _ 9 (0, 0) (heap_alloc_new _ _)⟩
        | 3, _ => exact ⟨_, cell_of_row _ _ 3 _ 9 (0, 0) (heap_alloc_new _ _)⟩
      have hKx := hK.alloc hK.size (.cells #[.string kw, .string ⟨#[97]⟩, .string ⟨#[98]⟩, .string ⟨#[97, 98]⟩] 9)
      have hgx : w11.heap.size < (w11.alloc (.cells #[.string kw, .string ⟨#[97]⟩, .string ⟨#[98]⟩, .string ⟨#[97, 98]⟩] 9)).heap.size := by simp
      generalize w11.alloc (.cells #[.string kw, .string ⟨#[97]⟩, .string ⟨#[98]⟩, .string ⟨#[97, 98]⟩] 9) = Wx at *
      generalize w11.heap.size = gx at *
      clear hK
      have HC := Lib.hid hcell
      clear hcell
      go_wp2
      go_loopg [11] 4 (fun n i wr => ∃ j : Nat, n = 4 - j ∧ j ≤ 4 ∧ i = .int .i64 j ∧ Below Wx.heap.size Wx wr)
      case atStart => exact ⟨0, rfl, by omega, rfl, Below.refl _ _⟩
      case round =>
        obtain ⟨j, hj0, hj, rfl, hb⟩ := hrel
        have HJ := Lib.hid hj0
        clear hj0
        have hKr := keepL hKx hb
        by_cases hlt : j < 4
        · obtain ⟨kj, hkj⟩ := HC.out j hlt
          have hkj' := ((bcell hb).1 _ _ hgx).trans hkj
          have hj4 : (j : Int) < 4 := by omega
          go_wp2_with (first
            | (go_at_call 12; refine (sources_any L A2 c2 kj _ (by omega) (fun l hl => Nat.le_trans (HLS.out l hl) (by omega)) HS.out (HR.out _ hKr)).mono ?_; rintro e w12 ⟨rfl, hb12⟩; simp only [srcV]; have hKr := keepL hKr hb12; have hb2 := keepL hb hb12; have hkj2 := ((bcell hb2).1 _ _ hgx).trans hkj)
            | (go_at_call 22; refine (refSources_any L A2 c2 kj _ (by omega) (fun l hl => Nat.le_trans (HLS.out l hl) (by omega)) (HR.out _ hKr)).mono ?_; rintro e w13 ⟨rfl, hb13⟩; simp only [srcV]; have hb3 := keepL hb2 hb13))
          go_roundg (4 - (j + 1))
          case rel => exact ⟨j + 1, rfl, by omega, by go_num, hb3⟩
          case measure => rw [HJ.out]; omega
        · go_wp2_with (go_at_call 9; refine (works_any _).mono ?_; rintro e w14 ⟨rfl, hb14⟩)
          go_ret
          exact ⟨rfl, hb0.trans ((keepL hKr hb14).mono hs0)⟩
end Go.Proofs.Ytdlcnpjdloinnaa
