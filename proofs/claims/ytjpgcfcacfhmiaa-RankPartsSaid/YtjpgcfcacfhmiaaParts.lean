/- RankParts' law, walked. -/
import Derived.Test.YtjpgcfcacfhmiaaParts0
import Derived.Test.YtjpgcfcacfhmiaaJoins
import Derived.Test.YtjpgcfcacfhmiaaRows4
import Derived.Test.YtjpgcfcacfhmiaaFact
namespace Go.Proofs.Ytjpgcfcacfhmiaa
open Go.RowKit
set_option linter.unusedSimpArgs false
set_option linter.unusedVariables false
set_option linter.unnecessarySimpa false
set_option linter.unusedSimpArgs false
set_option linter.unusedVariables false
theorem mod50 (n : Int) (h0 : 0 ≤ n) : ∃ nn : Nat, n.tmod 50 = (nn : Int) ∧ IntKind.u8.wrap (nn : Int) = (nn : Int) ∧ IntKind.i64.wrap (nn : Int) = (nn : Int) ∧ nn < 50 := by
  obtain ⟨m, rfl⟩ := Int.eq_ofNat_of_zero_le h0
  have hl : m % 50 < 50 := Nat.mod_lt _ (by decide)
  refine ⟨m % 50, ?_, IntWalk.u8_in _ (by omega), IntWalk.i64_in _ (by omega), hl⟩
  rw [Int.tmod_eq_emod_of_nonneg h0, Int.natCast_emod]; rfl
theorem lift16 {w7 wr w8 : World} {A : Option Addr} {l : List Hit} (b : Below w7.heap.size w7 wr) (c : Below wr.heap.size wr w8) (h : RHs w7 w7.heap.size A l) : RHs w8 w8.heap.size A l := (h.later b).later c
theorem lift14 {w6 w7 wr w8 : World} {A : Option Addr} {l : List Hit} (b : Below w7.heap.size w7 wr) (c : Below wr.heap.size wr w8) (a : Below w6.heap.size w6 w7) (h : RHs w6 w6.heap.size A l) : RHs w8 w8.heap.size A l := lift16 b c (h.later a)
theorem off_new9 {w w3 : World} {A : Option Addr} {c B : Nat} {l es : List Hit} {u v6 : Value} (h : OHs w3 w.heap.size (.slice A l.length c) l) (hu : OHs w B u es) (hat : v6.ownBlock = u.ownBlock ∨ v6.ownBlock = some w3.heap.size) : Off A l v6.ownBlock := by
  intro h0 b off e hk
  rcases h.2 with ⟨_, e0⟩ | ⟨g, cap, cur, hv, hg, hh, _⟩
  · omega
  · injection hv with hv
    subst hv
    injection e with e
    injection e with e
    have hlt : g < w3.heap.size := (Array.getElem?_eq_some_iff.1 hh).1
    rcases hat with ha | ha <;> rw [ha] at hk
    · have := (hu.lt b hk.symm).2; omega
    · injection hk with hk; omega
theorem tk_flat {a b e x : List Hit} {f : List Hit → List Hit} {j : Nat} (h : [a, b, e][j]? = some x) : (([a, b, e].take (j + 1)).map f).flatten = (([a, b, e].take j).map f).flatten ++ f x := by
  rw [List.take_add_one, h]; simp
theorem tk_map {a b e x : List Hit} {f : List Hit → List Hit} {j : Nat} (h : [a, b, e][j]? = some x) : ([a, b, e].take (j + 1)).map f = ([a, b, e].take j).map f ++ [f x] := by
  rw [List.take_add_one, h]; simp
theorem tk_len (a b e : List Hit) (nn j : Nat) : (([a, b, e].take j).map (topH (nn : Int))).flatten.length ≤ a.length + b.length + e.length := by
  match j with
  | 0 => simp
  | 1 => simp [topH_length]; omega
  | 2 => simp [topH_length]; omega
  | j + 3 => simp [topH_length]; omega
theorem tk_sorted (a b e : List Hit) (nn : Nat) : ∀ l ∈ ([a, b, e].take 3).map (topH (nn : Int)), Sorted l := by
  intro l hl
  obtain ⟨l', _, rfl⟩ := List.mem_map.1 hl
  exact take_sorted (sorted_sortH l') _
theorem tk_top {a b e own : List Hit} (nn : Nat) (h : (a ++ b ++ e).Perm own) : topH (nn : Int) (([a, b, e].take 3).map (topH (nn : Int))).flatten = topH (nn : Int) own := by
  rw [← top_congr _ h, ← top_parts]; simp
theorem rank17v {es : List Hit} {A : Option Addr} {c cnt : Nat} {x : Hit} {w : World} (hl : es.length ≤ 1000000) (h : RHs w w.heap.size A es) (hc : es.countP (lessH · x) = cnt) :
    Calls Try.prog 17 #[.slice A es.length c, .agg #[.string x.word, .int .u32 x.weight, .bool x.gone, .int .i64 x.dist]] w fun e w' => e = .returned (.int .i64 cnt) ∧ Below w.heap.size w w' := hc ▸ rank17 es A c x w hl h
theorem many12v {es : List Hit} {A : Option Addr} {c cnt : Nat} {x : Hit} {w : World} (hl : es.length ≤ 1000000) (h : RHs w w.heap.size A es) (hc : es.countP (eqH · x) = cnt) :
    Calls Try.prog 12 #[.slice A es.length c, .agg #[.string x.word, .int .u32 x.weight, .bool x.gone, .int .i64 x.dist]] w fun e w' => e = .returned (.int .i64 cnt) ∧ Below w.heap.size w w' := hc ▸ many12 es A c x w hl h
theorem nodup_snoc {l : List Hit} {x : Hit} (hn : l.Nodup) (h : l.countP (eqH · x) = 0) : (l ++ [x]).Nodup := by
  refine List.nodup_append.2 ⟨hn, List.nodup_cons.2 ⟨by simp, List.nodup_nil⟩, fun a ha b hb => ?_⟩
  simp at hb
  subst hb
  intro e
  subst e
  have := List.countP_eq_zero.1 h a ha
  exact this (eqH_iff.2 rfl)
set_option maxHeartbeats 40000000 in
set_option maxRecDepth 100000 in
theorem parts6 (ds : List (Dra × Int)) (ps : List Int) (A B : Option Addr) (c d : Nat) (n : Int) (w : World) (hd : ds.length ≤ 9223372036854775807) (hp : ps.length ≤ 9223372036854775807) (hn0 : 0 ≤ n) (hn1 : n ≤ 255) (h : RDs w w.heap.size A ds) (h' : RU w w.heap.size B ps) :
    Calls Try.prog 6 #[.slice A ds.length c, .slice B ps.length d, .int .u8 n] w fun e w' => e = .returned (.bool true) ∧ Below w.heap.size w w' := by
  have HD := Lib.hid h
  have HP := Lib.hid h'
  clear h h'
  obtain ⟨pl, hpl⟩ : ∃ pl, ps.length = pl := ⟨_, rfl⟩
  rw [hpl] at hp ⊢
  have HPL := Lib.hid hpl
  clear hpl
  go_enter Try.func6, Try.ntmps6
  go_upto_block 0 with (first
    | (go_at_call 8; refine (works8 _).mono ?_; rintro e w1 ⟨rfl, hb1⟩)
    | (go_at_call 9; refine (hits9 ds A c 40 w1 hd (by decide) ((HD.out.below hb1).more hb1.size)).mono ?_; rintro e w2 ⟨hs, v, hsl, rfl, ho2, hb2⟩; obtain ⟨A8, c8, rfl, hc8, hr8⟩ := OHs.form ho2))
  have hb0 : Below w.heap.size w w2 := hb1.trans (hb2.mono hb1.size)
  have HR8 := Lib.hid hr8
  have HB0 := Lib.hid hb0
  clear hr8 ho2 hb1 hb2 hb0
  go_cut [7] (fun v7 wx => ∃ own : List Hit, own.Nodup ∧ own.length ≤ 40 ∧ OHs wx w2.heap.size v7 own ∧ Below w2.heap.size w2 wx)
  case first =>
    go_wp2
    go_loopg [7, 9] hs.length (fun k v7 v9 wr => ∃ (j : Nat) (own : List Hit), k = hs.length - j ∧ j ≤ hs.length ∧ own.length ≤ j ∧ own.Nodup ∧ v9 = .int .i64 j ∧ OHs wr w2.heap.size v7 own ∧ Below w2.heap.size w2 wr)
    case atStart => exact ⟨0, [], rfl, Nat.zero_le _, Nat.le_refl _, List.nodup_nil, rfl, World.ownsRow_nil _ _ _ _, Below.refl _ _⟩
    case round =>
      obtain ⟨j, own, hk, hj, hol, hnd, rfl, hown, hb⟩ := hrel
      have HK := Lib.hid hk
      have HND := Lib.hid hnd
      clear hk hnd
      have hrr : RHs wr wr.heap.size A8 hs := (HR8.out.below hb).more hb.size
      by_cases hlt : j < hs.length
      · have hji : (j : Int) < (hs.length : Int) := by omega
        obtain ⟨b, off, rfl, hb0, c0, c1, c2, c3⟩ := hrr.at_ hlt
        generalize hs[j] = y at *
        obtain ⟨A7, c7, rfl, hc7, hr7⟩ := OHs.form hown
        have HO := Lib.hid hown
        have HR7 := Lib.hid hr7
        clear hown hr7 hrr
        obtain ⟨cnt, hcnt⟩ : ∃ cnt, own.countP (eqH · y) = cnt := ⟨_, rfl⟩
        have HCN := Lib.hid hcnt
        clear hcnt
        have hsz := hb.size
        have mk : ∀ w' : World, Below wr.heap.size wr w' → w'.cell? ⟨b, off + j * 4, none⟩ = some (.string y.word) ∧ w'.cell? ⟨b, off + j * 4 + 1, none⟩ = some (.int .u32 y.weight) ∧ w'.cell? ⟨b, off + j * 4 + 2, none⟩ = some (.bool y.gone) ∧ w'.cell? ⟨b, off + j * 4 + 3, none⟩ = some (.int .i64 y.dist) := fun w' hw => by
          have k := (bcell hw).1
          exact ⟨(k _ _ (by omega)).trans c0, (k _ _ (by omega)).trans c1, (k _ _ (by omega)).trans c2, (k _ _ (by omega)).trans c3⟩
        have MK := Lib.hid mk
        clear mk
        rcases Nat.eq_zero_or_pos cnt with h0 | h0
        · subst h0
          go_wp2_with (first
            | (go_at_call 12; refine (many12 own A7 c7 y wr (by omega) HR7.out).mono ?_; rintro e w3 ⟨rfl, hb3⟩; rw [HCN.out]; obtain ⟨e0, e1, e2, e3⟩ := MK.out w3 hb3; have hs3 := hb3.size)
            | (at_builtin; refine wpList_append_hit rfl _ _ rfl w2.heap.size _ own rfl (by exact own_below HO.out hb3) _ rfl rfl (by omega) (by omega) ?_; intro v9 w9 hown9 hg9 hb9))
          have hbb := (hb.trans (hb3.mono hsz)).trans hb9
          have HBB := Lib.hid hbb
          have HOW := Lib.hid hown9
          clear hbb hown9 hb9 hg9
          go_roundg (hs.length - (j + 1))
          case rel => exact ⟨j + 1, own ++ [y], rfl, by omega, by simp; omega, nodup_snoc HND.out HCN.out, by go_num, HOW.out, HBB.out⟩
          case measure => rw [HK.out]; omega
        · have hci : ¬ (cnt : Int) = 0 := by omega
          have hcn : ¬ cnt = 0 := by omega
          go_wp2_with (go_at_call 12; refine (many12 own A7 c7 y wr (by omega) HR7.out).mono ?_; rintro e w3 ⟨rfl, hb3⟩; rw [HCN.out]; have hs3 := hb3.size)
          have hbb := hb.trans (hb3.mono hsz)
          have HBB := Lib.hid hbb
          have HOW := Lib.hid (own_below HO.out hb3)
          clear hbb
          go_roundg (hs.length - (j + 1))
          case rel => exact ⟨j + 1, own, rfl, by omega, by omega, HND.out, by go_num, HOW.out, HBB.out⟩
          case measure => rw [HK.out]; omega
      · go_wp2
        go_meet
        case rel => exact ⟨own, HND.out, by omega, hown, hb⟩
  case rest =>
    obtain ⟨own, hnd, hol, hown, hb⟩ := hcut
    obtain ⟨A7, c7, rfl, hc7, hr7⟩ := OHs.form hown
    have HND := Lib.hid hnd
    have HR7 := Lib.hid hr7
    have HB2 := Lib.hid (HB0.out.trans (hb.mono HB0.out.size))
    have HPS : Hid (RU wc wc.heap.size B ps) := Lib.hid ((HP.out.below HB2.out).more HB2.out.size)
    clear hnd hr7 hown hb HR8 HB0
    have hszw := HB2.out.size
    obtain ⟨wo, hwo⟩ : ∃ wo : World, wo = wc := ⟨_, rfl⟩
    have HWO := Lib.hid hwo
    clear hwo
    go_upto_block 2 with (fail)
    go_cut [11] (fun v11 wx => ∃ (bk a b e : List Hit) (va vb ve : Value), bk.Perm own ∧ (a ++ b ++ e).Perm own ∧ Rows4 wx (wc.heap.size + 1) v11 va vb ve bk a b e ∧ wx.heap[wc.heap.size]? = some (.cells #[va, vb, ve] 50 (0, 0)) ∧ Below wc.heap.size wc wx)
    case first =>
      go_wp2
      go_loopg [11, 12] own.length (fun k v11 v12 wr => ∃ (r : Nat) (bk a b e : List Hit) (va vb ve : Value), k = r ∧ r ≤ own.length ∧ v12 = .int .i64 ((r : Int) - 1) ∧ bk.Perm (own.drop r) ∧ (a ++ b ++ e).Perm (own.drop r) ∧ Rows4 wr (wc.heap.size + 1) v11 va vb ve bk a b e ∧ wr.heap[wc.heap.size]? = some (.cells #[va, vb, ve] 50 (0, 0)) ∧ Below wc.heap.size wc wr)
      case atStart => exact ⟨own.length, [], [], [], [], _, _, _, rfl, Nat.le_refl _, rfl, by simp, by simp, Rows4.nil_ _ _, heap_alloc_new _ _, (Below.refl _ _).alloc (Nat.le_refl _) _⟩
      case round =>
        obtain ⟨r, bk, a, b, e, va, vb, ve, rfl, hrl, rfl, hbk, hab, h4, hbox, hbr⟩ := hrel
        have HBK := Lib.hid hbk
        have HAB := Lib.hid hab
        have HBX := Lib.hid hbox
        have hszr := hbr.size
        rcases Nat.eq_zero_or_pos gk with h0 | h0
        · subst h0
          go_wp2
          go_meet
          case rel => exact ⟨bk, a, b, e, va, vb, ve, by simpa using hbk, by simpa using hab, h4, hbox, hbr⟩
        · obtain ⟨q, hq⟩ : ∃ q, gk = q + 1 := ⟨gk - 1, by omega⟩
          have hql : q < own.length := by omega
          have hdr : own.drop q = own[q] :: own.drop (q + 1) := List.drop_eq_getElem_cons hql
          obtain ⟨b7, o7, rfl, hb7, t0, t1, t2, t3⟩ := HR7.out.at_ hql
          obtain ⟨y, hy⟩ : ∃ y, own[q] = y := ⟨_, rfl⟩
          rw [hy] at t0 t1 t2 t3 hdr
          have mk : ∀ w' : World, Below wc.heap.size wc w' → w'.cell? ⟨b7, o7 + q * 4, none⟩ = some (.string y.word) ∧ w'.cell? ⟨b7, o7 + q * 4 + 1, none⟩ = some (.int .u32 y.weight) ∧ w'.cell? ⟨b7, o7 + q * 4 + 2, none⟩ = some (.bool y.gone) ∧ w'.cell? ⟨b7, o7 + q * 4 + 3, none⟩ = some (.int .i64 y.dist) := fun w' hw => by
            have k := (bcell hw).1
            exact ⟨(k _ _ hb7).trans t0, (k _ _ hb7).trans t1, (k _ _ hb7).trans t2, (k _ _ hb7).trans t3⟩
          have MK := Lib.hid mk
          obtain ⟨c0, c1, c2, c3⟩ := mk wr hbr
          subst hq
          have HDR := Lib.hid hdr
          have hqe : ((q + 1 : Nat) : Int) - 1 = (q : Int) := by omega
          rw [hqe]
          have hqi : (q : Int) < (own.length : Int) := by omega
          have hq0 : (0 : Int) ≤ (q : Int) := by omega
          have H4 := Lib.hid h4
          have hbkl : bk.length ≤ 40 := by have := hbk.length_eq; rw [List.length_drop] at this; omega
          clear hdr hy hbk hab hbox h4 mk t0 t1 t2 t3
          go_upto_region 16 with (at_builtin; refine wpList_append_hit_at rfl _ _ rfl (wc.heap.size + 1) _ bk rfl H4.out.k _ rfl rfl (by omega) (by have := (Array.getElem?_eq_some_iff.1 HBX.out).1; omega) ?_; intro v9 w9 hown9 hg9 hb9 hat9)
          have hg4 := H4.out.grow ((Below.refl _ _).alloc (Nat.le_refl _) _) hown9 hg9 hat9 (Nat.le_succ _)
          have hbx9 : w9.heap[wc.heap.size]? = some (.cells #[va, vb, ve] 50 (0, 0)) := (hb9.block _ (Nat.lt_succ_self _)).trans HBX.out
          have hbr9 := hbr.trans (hb9.mono (Nat.le_succ _))
          have HG4 := Lib.hid hg4
          have HBX9 := Lib.hid hbx9
          have HBR9 := Lib.hid hbr9
          obtain ⟨d0, d1, d2, d3⟩ := MK.out w9 hbr9
          obtain ⟨bx0, bx1, bx2⟩ := box3_cells hbx9
          have hlt9 := (Array.getElem?_eq_some_iff.1 hbx9).1
          have hfz : ∀ i, w9.frozen? ⟨wc.heap.size, i, none⟩ = false := fun i => by simp [World.frozen?, hbx9]
          clear hg4 hbx9 hown9 hg9 hat9 c0 c1 c2 c3
          rcases Nat.eq_zero_or_pos pl with hps | hps
          · subst hps
            go_upto_region 19 with (fail)
            have hba : ∀ o, Below w9.heap.size w9 (w9.alloc o).drew := fun o => ((Below.refl _ _).alloc (Nat.le_refl _) o).drew
            have hgrow := HG4.out.swapA
            have HGA := Lib.hid hgrow
            have hal : a.length ≤ 40 := by have := HAB.out.length_eq; simp [List.length_append] at this; omega
            clear hgrow
            go_region_law (refine step_append_hit_at rfl _ _ rfl (wc.heap.size + 1) va a y rfl (by with_reducible exact own_below HGA.out.k (hba _)) w9.heap.size rfl (by exact heap_alloc_new w9 _) (by omega) (by simp; omega) ?_; intro v10 w10 hown10 hg10 hb10 hat10; obtain ⟨g10, cp10, rfl, -⟩ := OHs.row hown10 (by simp); rw [show (a ++ [y]).length = a.length + 1 by simp] at hown10 hat10; have hbx10 := (hb10.block _ (Nat.lt_succ_self _)).trans (((hba _).block _ hlt9).trans HBX9.out); obtain ⟨by0, by1, by2⟩ := box3_cells hbx10; have hfz10 : ∀ i, w10.frozen? ⟨wc.heap.size, i, none⟩ = false := (fun i => by simp [World.frozen?, hbx10]); have HBX10 := Lib.hid hbx10; have HOWN10 := Lib.hid hown10; have HB10 := Lib.hid hb10; have HG10 := Lib.hid hg10; have HAT10 := Lib.hid hat10; clear hbx10 hown10 hb10 hg10 hat10)
            all_goals
              go_wp2
              go_roundg q
              case rel =>
                refine ⟨q, bk ++ [y], a ++ [y], b, e, _, vb, ve, rfl, by omega, by go_num, ?_, ?_, ((HGA.out.grow (hba _) HOWN10.out HG10.out HAT10.out (by simp)).swapA).setCell (Nat.lt_succ_self _) _, set_block HBX10.out _, (HBR9.out.trans (((hba _).mono HBR9.out.size).trans (HB10.out.mono (Nat.le_succ _)))).setCell (p := ⟨wc.heap.size, 0, none⟩) (Nat.le_refl _) _⟩
                · rw [HDR.out]; exact (List.perm_append_singleton y bk).trans (HBK.out.cons y)
                · rw [HDR.out]; refine List.Perm.trans ?_ (HAB.out.cons y); simpa [List.append_assoc] using (List.perm_middle (a := y) (l₁ := a) (l₂ := b ++ e))
              case measure => omega
          · obtain ⟨m, hm⟩ : ∃ m, q % pl = m := ⟨_, rfl⟩
            have hml : m < pl := by rw [← hm]; exact Nat.mod_lt _ hps
            obtain ⟨bp, op, rfl, hbp, cp, hp0, hp1⟩ := HPS.out.at_ (i := m) (by rw [HPL.out]; exact hml)
            have cp9 := (hbr9.cell (p := ⟨bp, op + m, none⟩) hbp).trans cp
            obtain ⟨x, hx⟩ : ∃ x, ps[m]'(by rw [HPL.out]; exact hml) = x := ⟨_, rfl⟩
            rw [hx] at cp9 hp0 hp1
            have hxm : (q : Int).tmod (pl : Int) = (m : Int) := by rw [← hm, Int.tmod_eq_emod_of_nonneg (by omega), Int.natCast_emod]
            have hpsi : (0 : Int) < (pl : Int) := by omega
            have hpsn : pl ≠ 0 := by omega
            have hmi : (m : Int) < (pl : Int) := by omega
            have hmi0 : (0 : Int) ≤ (m : Int) := by omega
            have HM := Lib.hid hm
            clear hx hm cp
            have hx3 : x.tmod 3 = x % 3 := Int.tmod_eq_emod_of_nonneg hp0
            rcases (show x % 3 = 0 ∨ x % 3 = 1 ∨ x % 3 = 2 by omega) with h3 | h3 | h3
            · rw [h3] at hx3
              clear h3
              go_upto_region 19 with (fail)
              have hba : ∀ o, Below w9.heap.size w9 (w9.alloc o).drew := fun o => ((Below.refl _ _).alloc (Nat.le_refl _) o).drew
              have hgrow := HG4.out.swapA
              have HGA := Lib.hid hgrow
              have hal : a.length ≤ 40 := by have := HAB.out.length_eq; simp [List.length_append] at this; omega
              clear hgrow
              go_region_law (refine step_append_hit_at rfl _ _ rfl (wc.heap.size + 1) va a y rfl (by with_reducible exact own_below HGA.out.k (hba _)) w9.heap.size rfl (by exact heap_alloc_new w9 _) (by omega) (by simp; omega) ?_; intro v10 w10 hown10 hg10 hb10 hat10; obtain ⟨g10, cp10, rfl, -⟩ := OHs.row hown10 (by simp); rw [show (a ++ [y]).length = a.length + 1 by simp] at hown10 hat10; have hbx10 := (hb10.block _ (Nat.lt_succ_self _)).trans (((hba _).block _ hlt9).trans HBX9.out); obtain ⟨by0, by1, by2⟩ := box3_cells hbx10; have hfz10 : ∀ i, w10.frozen? ⟨wc.heap.size, i, none⟩ = false := (fun i => by simp [World.frozen?, hbx10]); have HBX10 := Lib.hid hbx10; have HOWN10 := Lib.hid hown10; have HB10 := Lib.hid hb10; have HG10 := Lib.hid hg10; have HAT10 := Lib.hid hat10; clear hbx10 hown10 hb10 hg10 hat10)
              all_goals
                go_wp2
                go_roundg q
                case rel =>
                  refine ⟨q, bk ++ [y], a ++ [y], b, e, _, vb, ve, rfl, by omega, by go_num, ?_, ?_, ((HGA.out.grow (hba _) HOWN10.out HG10.out HAT10.out (by simp)).swapA).setCell (Nat.lt_succ_self _) _, set_block HBX10.out _, (HBR9.out.trans (((hba _).mono HBR9.out.size).trans (HB10.out.mono (Nat.le_succ _)))).setCell (p := ⟨wc.heap.size, 0, none⟩) (Nat.le_refl _) _⟩
                  · rw [HDR.out]; exact (List.perm_append_singleton y bk).trans (HBK.out.cons y)
                  · rw [HDR.out]; refine List.Perm.trans ?_ (HAB.out.cons y); simpa [List.append_assoc] using (List.perm_middle (a := y) (l₁ := a) (l₂ := b ++ e))
                case measure => omega
            · rw [h3] at hx3
              clear h3
              go_upto_region 19 with (fail)
              have hba : ∀ o, Below w9.heap.size w9 (w9.alloc o).drew := fun o => ((Below.refl _ _).alloc (Nat.le_refl _) o).drew
              have hgrow := HG4.out.swapB
              have HGA := Lib.hid hgrow
              have hal : b.length ≤ 40 := by have := HAB.out.length_eq; simp [List.length_append] at this; omega
              clear hgrow
              go_region_law (refine step_append_hit_at rfl _ _ rfl (wc.heap.size + 1) vb b y rfl (by with_reducible exact own_below HGA.out.k (hba _)) w9.heap.size rfl (by exact heap_alloc_new w9 _) (by omega) (by simp; omega) ?_; intro v10 w10 hown10 hg10 hb10 hat10; obtain ⟨g10, cp10, rfl, -⟩ := OHs.row hown10 (by simp); rw [show (b ++ [y]).length = b.length + 1 by simp] at hown10 hat10; have hbx10 := (hb10.block _ (Nat.lt_succ_self _)).trans (((hba _).block _ hlt9).trans HBX9.out); obtain ⟨by0, by1, by2⟩ := box3_cells hbx10; have hfz10 : ∀ i, w10.frozen? ⟨wc.heap.size, i, none⟩ = false := (fun i => by simp [World.frozen?, hbx10]); have HBX10 := Lib.hid hbx10; have HOWN10 := Lib.hid hown10; have HB10 := Lib.hid hb10; have HG10 := Lib.hid hg10; have HAT10 := Lib.hid hat10; clear hbx10 hown10 hb10 hg10 hat10)
              all_goals
                go_wp2
                go_roundg q
                case rel =>
                  refine ⟨q, bk ++ [y], a, b ++ [y], e, va, _, ve, rfl, by omega, by go_num, ?_, ?_, ((HGA.out.grow (hba _) HOWN10.out HG10.out HAT10.out (by simp)).swapB).setCell (Nat.lt_succ_self _) _, set_block HBX10.out _, (HBR9.out.trans (((hba _).mono HBR9.out.size).trans (HB10.out.mono (Nat.le_succ _)))).setCell (p := ⟨wc.heap.size, 1, none⟩) (Nat.le_refl _) _⟩
                  · rw [HDR.out]; exact (List.perm_append_singleton y bk).trans (HBK.out.cons y)
                  · rw [HDR.out]; refine List.Perm.trans ?_ (HAB.out.cons y); simpa [List.append_assoc] using (List.perm_middle (a := y) (l₁ := a ++ b) (l₂ := e))
                case measure => omega
            · rw [h3] at hx3
              clear h3
              go_upto_region 19 with (fail)
              have hba : ∀ o, Below w9.heap.size w9 (w9.alloc o).drew := fun o => ((Below.refl _ _).alloc (Nat.le_refl _) o).drew
              have hgrow := HG4.out.swapC
              have HGA := Lib.hid hgrow
              have hal : e.length ≤ 40 := by have := HAB.out.length_eq; simp [List.length_append] at this; omega
              clear hgrow
              go_region_law (refine step_append_hit_at rfl _ _ rfl (wc.heap.size + 1) ve e y rfl (by with_reducible exact own_below HGA.out.k (hba _)) w9.heap.size rfl (by exact heap_alloc_new w9 _) (by omega) (by simp; omega) ?_; intro v10 w10 hown10 hg10 hb10 hat10; obtain ⟨g10, cp10, rfl, -⟩ := OHs.row hown10 (by simp); rw [show (e ++ [y]).length = e.length + 1 by simp] at hown10 hat10; have hbx10 := (hb10.block _ (Nat.lt_succ_self _)).trans (((hba _).block _ hlt9).trans HBX9.out); obtain ⟨by0, by1, by2⟩ := box3_cells hbx10; have hfz10 : ∀ i, w10.frozen? ⟨wc.heap.size, i, none⟩ = false := (fun i => by simp [World.frozen?, hbx10]); have HBX10 := Lib.hid hbx10; have HOWN10 := Lib.hid hown10; have HB10 := Lib.hid hb10; have HG10 := Lib.hid hg10; have HAT10 := Lib.hid hat10; clear hbx10 hown10 hb10 hg10 hat10)
              all_goals
                go_wp2
                go_roundg q
                case rel =>
                  refine ⟨q, bk ++ [y], a, b, e ++ [y], va, vb, _, rfl, by omega, by go_num, ?_, ?_, ((HGA.out.grow (hba _) HOWN10.out HG10.out HAT10.out (by simp)).swapC).setCell (Nat.lt_succ_self _) _, set_block HBX10.out _, (HBR9.out.trans (((hba _).mono HBR9.out.size).trans (HB10.out.mono (Nat.le_succ _)))).setCell (p := ⟨wc.heap.size, 2, none⟩) (Nat.le_refl _) _⟩
                  · rw [HDR.out]; exact (List.perm_append_singleton y bk).trans (HBK.out.cons y)
                  · rw [HDR.out]; refine List.Perm.trans ?_ (HAB.out.cons y); simpa [List.append_assoc] using (List.perm_append_singleton y (a ++ b ++ e))
                case measure => omega
    case rest =>
      obtain ⟨bk, a, b, ee, va, vb, ve, hbk, hab, h4, hbox, hbr⟩ := hcut
      have e := HWO.out
      subst e
      obtain ⟨Ak, ck, rfl, hck, hrk⟩ := OHs.form h4.k
      obtain ⟨Aa, ca, rfl, hca, hra⟩ := OHs.form h4.a
      obtain ⟨Ab, cb, rfl, hcb, hrb⟩ := OHs.form h4.b
      obtain ⟨Ae, ce, rfl, hce, hre⟩ := OHs.form h4.c
      obtain ⟨nn, hn50, hu50, hv50, hnn50⟩ := mod50 n hn0
      have hlk : bk.length ≤ 40 := by rw [hbk.length_eq]; exact hol
      have hlab : a.length + b.length + ee.length ≤ 40 := by have := hab.length_eq; simp [List.length_append] at this; omega
      have hr7 : RHs wc wc.heap.size A7 own := (HR7.out.below hbr).more hbr.size
      have H7 := Lib.hid hr7
      have HTK := Lib.hid (show topH (nn : Int) bk = topH (nn : Int) own from top_congr _ hbk)
      have HTOP := Lib.hid (tk_top (a := a) (b := b) (e := ee) (own := own) nn hab)
      have HK := Lib.hid hrk
      have HBW := Lib.hid (HB2.out.trans (hbr.mono HB2.out.size))
      have hcb2 : ∀ W : World, RHs W W.heap.size Ak bk → Calls Try.prog 15 #[.int .i64 nn, .slice Ak bk.length ck] W (RetTop W (topH (nn : Int) own) (if (nn : Int) < 0 then 2 else 0)) := fun W h => HTK.out ▸ top15 (nn : Int) bk Ak ck W (by omega) h
      have HCB := Lib.hid hcb2
      obtain ⟨g, hg⟩ : ∃ g, g = wo.heap.size := ⟨_, rfl⟩
      rw [← hg] at hbox ⊢
      have hgl : g < wc.heap.size := by rw [hg]; exact Nat.lt_of_lt_of_le (Array.getElem?_eq_some_iff.1 (hg ▸ hbox)).1 (Nat.le_refl _)
      have mkb : ∀ wr : World, Below wc.heap.size wc wr → ∀ j, j < 3 → ∃ (x : List Hit) (Ax : Option Addr) (cx : Nat), [a, b, ee][j]? = some x ∧ x.length ≤ 40 ∧ wr.cell? ⟨g, j, none⟩ = some (.slice Ax x.length cx) ∧ RHs wr wr.heap.size Ax x := fun wr hb j hj => by
        obtain ⟨bx0, bx1, bx2⟩ := box3_cells hbox
        rcases (show j = 0 ∨ j = 1 ∨ j = 2 by omega) with rfl | rfl | rfl
        · exact ⟨a, Aa, ca, rfl, by omega, (hb.cell (p := ⟨g, 0, none⟩) hgl).trans bx0, hra.later hb⟩
        · exact ⟨b, Ab, cb, rfl, by omega, (hb.cell (p := ⟨g, 1, none⟩) hgl).trans bx1, hrb.later hb⟩
        · exact ⟨ee, Ae, ce, rfl, by omega, (hb.cell (p := ⟨g, 2, none⟩) hgl).trans bx2, hre.later hb⟩
      have HBOX0 := Lib.hid mkb
      clear hab hbk hr7 hrk hra hrb hre hbox h4 hbr hcb2 mkb hgl hg HTK HR7 HB2 HWO
      refine Fact.reKLit (n := 176) (by assumption) (by kernel_rfl) (fun fr hf hT => ?_)
      have s2 := hT 2 _ rfl
      have s7 := hT 7 _ rfl
      have s10 := hT 10 _ rfl
      have s11 := hT 11 _ rfl
      clear hT
      refine wp_seq_k (fun K1 hK1 => ?_)
      refine Fact.region ?_
      have b88 := hf.lt (t := 88) (by decide)
      have b89 := hf.lt (t := 89) (by decide)
      have b90 := hf.lt (t := 90) (by decide)
      have b91 := hf.lt (t := 91) (by decide)
      have b92 := hf.lt (t := 92) (by decide)
      have b87 := hf.lt (t := 87) (by decide)
      have b93 := hf.lt (t := 93) (by decide)
      have b94 := hf.lt (t := 94) (by decide)
      refine Fact.op_plain rfl (fun K hK => ?_)
      go_simp
      refine hK.out _ _ ?_; clear hK K
      refine Fact.op_plain rfl (fun K hK => ?_)
      go_simp
      refine hK.out _ _ ?_; clear hK K
      refine Fact.op_plain rfl (fun K hK => ?_)
      go_simp
      refine hK.out _ _ ?_; clear hK K
      refine Fact.op_plain rfl (fun K hK => ?_)
      go_simp
      refine hK.out _ _ ?_; clear hK K
      refine Fact.op_plain rfl (fun K hK => ?_)
      go_simp
      go_at_call 15; refine (top15 (nn : Int) own A7 c7 wc (by omega) H7.out).mono ?_; rintro e w6 ⟨A14, c14, rfl, hc14, hr14, hb6⟩
      have HR14 := Lib.hid hr14; clear hr14
      dsimp only
      refine hK.out _ _ ?_; clear hK K
      refine Fact.op_plain rfl (fun K hK => ?_)
      go_simp
      refine hK.out _ _ ?_; clear hK K
      refine Fact.op_plain rfl (fun K hK => ?_)
      go_simp
      refine hK.out _ _ ?_; clear hK K
      refine Fact.op_plain rfl (fun K hK => ?_)
      go_simp
      refine hK.out _ _ ?_; clear hK K
      refine Fact.op_plain rfl (fun K hK => ?_)
      go_simp
      refine hK.out _ _ ?_; clear hK K
      refine Fact.op_plain rfl (fun K hK => ?_)
      go_simp
      refine hK.out _ _ ?_; clear hK K
      refine Fact.nil ?_
      refine Fact.reQ (n := 176) (by simp only [Array.getElem?_setIfInBounds, Array.size_setIfInBounds, Nat.reduceEqDiff, Nat.reduceLT, Nat.reduceAdd, ite_true, ite_false, if_true, if_false, reduceIte, Act.put, hf.size]) hf.defers (fun fr1 hf1 hT => ?_)
      have n2 := hT 2; simp only [Array.getElem?_setIfInBounds, Array.size_setIfInBounds, Nat.reduceEqDiff, Nat.reduceLT, Nat.reduceAdd, ite_true, ite_false, if_true, if_false, reduceIte, Act.put] at n2; replace n2 := n2.trans s2
      have n7 := hT 7; simp only [Array.getElem?_setIfInBounds, Array.size_setIfInBounds, Nat.reduceEqDiff, Nat.reduceLT, Nat.reduceAdd, ite_true, ite_false, if_true, if_false, reduceIte, Act.put] at n7; replace n7 := n7.trans s7
      have n10 := hT 10; simp only [Array.getElem?_setIfInBounds, Array.size_setIfInBounds, Nat.reduceEqDiff, Nat.reduceLT, Nat.reduceAdd, ite_true, ite_false, if_true, if_false, reduceIte, Act.put] at n10; replace n10 := n10.trans s10
      have n11 := hT 11; simp only [Array.getElem?_setIfInBounds, Array.size_setIfInBounds, Nat.reduceEqDiff, Nat.reduceLT, Nat.reduceAdd, ite_true, ite_false, if_true, if_false, reduceIte, Act.put] at n11; replace n11 := n11.trans s11
      have n14 := hT 14; simp only [Array.getElem?_setIfInBounds, Array.size_setIfInBounds, Nat.reduceEqDiff, Nat.reduceLT, Nat.reduceAdd, ite_true, ite_false, if_true, if_false, reduceIte, Act.put, hf.size] at n14
      clear hT hf s2 s7 s10 s11 b88 b89 b90 b91 b92 b87 b93 b94
      have s2 := n2; clear n2
      have s7 := n7; clear n7
      have s10 := n10; clear n10
      have s11 := n11; clear n11
      have s14 := n14; clear n14
      have hf := hf1; clear hf1
      refine Fact.then_normal ?_
      refine hK1 _ _ ?_
      refine wp_seq_k (fun K2 hK2 => ?_)
      refine Fact.region ?_
      have b96 := hf.lt (t := 96) (by decide)
      have b97 := hf.lt (t := 97) (by decide)
      have b98 := hf.lt (t := 98) (by decide)
      have b99 := hf.lt (t := 99) (by decide)
      have b100 := hf.lt (t := 100) (by decide)
      have b95 := hf.lt (t := 95) (by decide)
      have b101 := hf.lt (t := 101) (by decide)
      have b102 := hf.lt (t := 102) (by decide)
      refine Fact.op_plain rfl (fun K hK => ?_)
      go_simp
      refine hK.out _ _ ?_; clear hK K
      refine Fact.op_plain rfl (fun K hK => ?_)
      go_simp
      refine hK.out _ _ ?_; clear hK K
      refine Fact.op_plain rfl (fun K hK => ?_)
      go_simp
      refine hK.out _ _ ?_; clear hK K
      refine Fact.op_plain rfl (fun K hK => ?_)
      go_simp
      refine hK.out _ _ ?_; clear hK K
      refine Fact.op_plain rfl (fun K hK => ?_)
      go_simp
      go_at_call 15; refine (HCB.out w6 ((HK.out.below hb6).more hb6.size)).mono ?_; rintro e w7 ⟨A16, c16, rfl, hc16, hr16, hb7⟩
      have HR16 := Lib.hid hr16; clear hr16
      dsimp only
      refine hK.out _ _ ?_; clear hK K
      refine Fact.op_plain rfl (fun K hK => ?_)
      go_simp
      refine hK.out _ _ ?_; clear hK K
      refine Fact.op_plain rfl (fun K hK => ?_)
      go_simp
      refine hK.out _ _ ?_; clear hK K
      refine Fact.op_plain rfl (fun K hK => ?_)
      go_simp
      refine hK.out _ _ ?_; clear hK K
      refine Fact.op_plain rfl (fun K hK => ?_)
      go_simp
      refine hK.out _ _ ?_; clear hK K
      refine Fact.op_plain rfl (fun K hK => ?_)
      go_simp
      refine hK.out _ _ ?_; clear hK K
      refine Fact.nil ?_
      refine Fact.reQ (n := 176) (by simp only [Array.getElem?_setIfInBounds, Array.size_setIfInBounds, Nat.reduceEqDiff, Nat.reduceLT, Nat.reduceAdd, ite_true, ite_false, if_true, if_false, reduceIte, Act.put, hf.size]) hf.defers (fun fr1 hf1 hT => ?_)
      have n2 := hT 2; simp only [Array.getElem?_setIfInBounds, Array.size_setIfInBounds, Nat.reduceEqDiff, Nat.reduceLT, Nat.reduceAdd, ite_true, ite_false, if_true, if_false, reduceIte, Act.put] at n2; replace n2 := n2.trans s2
      have n7 := hT 7; simp only [Array.getElem?_setIfInBounds, Array.size_setIfInBounds, Nat.reduceEqDiff, Nat.reduceLT, Nat.reduceAdd, ite_true, ite_false, if_true, if_false, reduceIte, Act.put] at n7; replace n7 := n7.trans s7
      have n10 := hT 10; simp only [Array.getElem?_setIfInBounds, Array.size_setIfInBounds, Nat.reduceEqDiff, Nat.reduceLT, Nat.reduceAdd, ite_true, ite_false, if_true, if_false, reduceIte, Act.put] at n10; replace n10 := n10.trans s10
      have n14 := hT 14; simp only [Array.getElem?_setIfInBounds, Array.size_setIfInBounds, Nat.reduceEqDiff, Nat.reduceLT, Nat.reduceAdd, ite_true, ite_false, if_true, if_false, reduceIte, Act.put] at n14; replace n14 := n14.trans s14
      have n16 := hT 16; simp only [Array.getElem?_setIfInBounds, Array.size_setIfInBounds, Nat.reduceEqDiff, Nat.reduceLT, Nat.reduceAdd, ite_true, ite_false, if_true, if_false, reduceIte, Act.put, hf.size] at n16
      clear hT hf s2 s7 s10 s11 s14 b96 b97 b98 b99 b100 b95 b101 b102
      have s2 := n2; clear n2
      have s7 := n7; clear n7
      have s10 := n10; clear n10
      have s14 := n14; clear n14
      have s16 := n16; clear n16
      have hf := hf1; clear hf1
      refine Fact.then_normal ?_
      refine hK2 _ _ ?_
      refine wp_seq_k (fun K3 hK3 => ?_)
      refine Fact.region ?_
      refine Fact.op_plain rfl (fun K hK => ?_)
      go_simp
      refine hK.out _ _ ?_; clear hK K
      refine Fact.nil ?_
      refine Fact.reQ (n := 176) (by simp only [Array.getElem?_setIfInBounds, Array.size_setIfInBounds, Nat.reduceEqDiff, Nat.reduceLT, Nat.reduceAdd, ite_true, ite_false, if_true, if_false, reduceIte, Act.put, hf.size]) hf.defers (fun fr1 hf1 hT => ?_)
      have n2 := hT 2; simp only [Array.getElem?_setIfInBounds, Array.size_setIfInBounds, Nat.reduceEqDiff, Nat.reduceLT, Nat.reduceAdd, ite_true, ite_false, if_true, if_false, reduceIte, Act.put] at n2; replace n2 := n2.trans s2
      have n7 := hT 7; simp only [Array.getElem?_setIfInBounds, Array.size_setIfInBounds, Nat.reduceEqDiff, Nat.reduceLT, Nat.reduceAdd, ite_true, ite_false, if_true, if_false, reduceIte, Act.put] at n7; replace n7 := n7.trans s7
      have n10 := hT 10; simp only [Array.getElem?_setIfInBounds, Array.size_setIfInBounds, Nat.reduceEqDiff, Nat.reduceLT, Nat.reduceAdd, ite_true, ite_false, if_true, if_false, reduceIte, Act.put] at n10; replace n10 := n10.trans s10
      have n14 := hT 14; simp only [Array.getElem?_setIfInBounds, Array.size_setIfInBounds, Nat.reduceEqDiff, Nat.reduceLT, Nat.reduceAdd, ite_true, ite_false, if_true, if_false, reduceIte, Act.put] at n14; replace n14 := n14.trans s14
      have n16 := hT 16; simp only [Array.getElem?_setIfInBounds, Array.size_setIfInBounds, Nat.reduceEqDiff, Nat.reduceLT, Nat.reduceAdd, ite_true, ite_false, if_true, if_false, reduceIte, Act.put] at n16; replace n16 := n16.trans s16
      have n18 := hT 18; simp only [Array.getElem?_setIfInBounds, Array.size_setIfInBounds, Nat.reduceEqDiff, Nat.reduceLT, Nat.reduceAdd, ite_true, ite_false, if_true, if_false, reduceIte, Act.put, hf.size] at n18
      clear hT hf s2 s7 s10 s14 s16
      have s2 := n2; clear n2
      have s7 := n7; clear n7
      have s10 := n10; clear n10
      have s14 := n14; clear n14
      have s16 := n16; clear n16
      have s18 := n18; clear n18
      have hf := hf1; clear hf1
      refine Fact.then_normal ?_
      refine hK3 _ _ ?_
      refine wp_seq_k (fun K4 hK4 => ?_)
      refine Fact.region ?_
      refine Fact.op_plain rfl (fun K hK => ?_)
      go_simp
      refine hK.out _ _ ?_; clear hK K
      refine Fact.nil ?_
      refine Fact.reQ (n := 176) (by simp only [Array.getElem?_setIfInBounds, Array.size_setIfInBounds, Nat.reduceEqDiff, Nat.reduceLT, Nat.reduceAdd, ite_true, ite_false, if_true, if_false, reduceIte, Act.put, hf.size]) hf.defers (fun fr1 hf1 hT => ?_)
      have n2 := hT 2; simp only [Array.getElem?_setIfInBounds, Array.size_setIfInBounds, Nat.reduceEqDiff, Nat.reduceLT, Nat.reduceAdd, ite_true, ite_false, if_true, if_false, reduceIte, Act.put] at n2; replace n2 := n2.trans s2
      have n7 := hT 7; simp only [Array.getElem?_setIfInBounds, Array.size_setIfInBounds, Nat.reduceEqDiff, Nat.reduceLT, Nat.reduceAdd, ite_true, ite_false, if_true, if_false, reduceIte, Act.put] at n7; replace n7 := n7.trans s7
      have n10 := hT 10; simp only [Array.getElem?_setIfInBounds, Array.size_setIfInBounds, Nat.reduceEqDiff, Nat.reduceLT, Nat.reduceAdd, ite_true, ite_false, if_true, if_false, reduceIte, Act.put] at n10; replace n10 := n10.trans s10
      have n14 := hT 14; simp only [Array.getElem?_setIfInBounds, Array.size_setIfInBounds, Nat.reduceEqDiff, Nat.reduceLT, Nat.reduceAdd, ite_true, ite_false, if_true, if_false, reduceIte, Act.put] at n14; replace n14 := n14.trans s14
      have n16 := hT 16; simp only [Array.getElem?_setIfInBounds, Array.size_setIfInBounds, Nat.reduceEqDiff, Nat.reduceLT, Nat.reduceAdd, ite_true, ite_false, if_true, if_false, reduceIte, Act.put] at n16; replace n16 := n16.trans s16
      have n18 := hT 18; simp only [Array.getElem?_setIfInBounds, Array.size_setIfInBounds, Nat.reduceEqDiff, Nat.reduceLT, Nat.reduceAdd, ite_true, ite_false, if_true, if_false, reduceIte, Act.put] at n18; replace n18 := n18.trans s18
      have n19 := hT 19; simp only [Array.getElem?_setIfInBounds, Array.size_setIfInBounds, Nat.reduceEqDiff, Nat.reduceLT, Nat.reduceAdd, ite_true, ite_false, if_true, if_false, reduceIte, Act.put, hf.size] at n19
      clear hT hf s2 s7 s10 s14 s16 s18
      have s2 := n2; clear n2
      have s7 := n7; clear n7
      have s10 := n10; clear n10
      have s14 := n14; clear n14
      have s16 := n16; clear n16
      have s18 := n18; clear n18
      have s19 := n19; clear n19
      have hf := hf1; clear hf1
      refine Fact.then_normal ?_
      refine hK4 _ _ ?_
      refine wp_seq_k (fun K5 hK5 => ?_)
      refine wp_seq_k (fun K6 hK6 => ?_)
      refine Fact.region ?_
      refine Fact.op_plain rfl (fun K hK => ?_)
      go_simp
      refine hK.out _ _ ?_; clear hK K
      refine Fact.nil ?_
      refine Fact.reQ (n := 176) (by simp only [Array.getElem?_setIfInBounds, Array.size_setIfInBounds, Nat.reduceEqDiff, Nat.reduceLT, Nat.reduceAdd, ite_true, ite_false, if_true, if_false, reduceIte, Act.put, hf.size]) hf.defers (fun fr1 hf1 hT => ?_)
      have n2 := hT 2; simp only [Array.getElem?_setIfInBounds, Array.size_setIfInBounds, Nat.reduceEqDiff, Nat.reduceLT, Nat.reduceAdd, ite_true, ite_false, if_true, if_false, reduceIte, Act.put] at n2; replace n2 := n2.trans s2
      have n7 := hT 7; simp only [Array.getElem?_setIfInBounds, Array.size_setIfInBounds, Nat.reduceEqDiff, Nat.reduceLT, Nat.reduceAdd, ite_true, ite_false, if_true, if_false, reduceIte, Act.put] at n7; replace n7 := n7.trans s7
      have n10 := hT 10; simp only [Array.getElem?_setIfInBounds, Array.size_setIfInBounds, Nat.reduceEqDiff, Nat.reduceLT, Nat.reduceAdd, ite_true, ite_false, if_true, if_false, reduceIte, Act.put] at n10; replace n10 := n10.trans s10
      have n14 := hT 14; simp only [Array.getElem?_setIfInBounds, Array.size_setIfInBounds, Nat.reduceEqDiff, Nat.reduceLT, Nat.reduceAdd, ite_true, ite_false, if_true, if_false, reduceIte, Act.put] at n14; replace n14 := n14.trans s14
      have n16 := hT 16; simp only [Array.getElem?_setIfInBounds, Array.size_setIfInBounds, Nat.reduceEqDiff, Nat.reduceLT, Nat.reduceAdd, ite_true, ite_false, if_true, if_false, reduceIte, Act.put] at n16; replace n16 := n16.trans s16
      have n18 := hT 18; simp only [Array.getElem?_setIfInBounds, Array.size_setIfInBounds, Nat.reduceEqDiff, Nat.reduceLT, Nat.reduceAdd, ite_true, ite_false, if_true, if_false, reduceIte, Act.put] at n18; replace n18 := n18.trans s18
      have n19 := hT 19; simp only [Array.getElem?_setIfInBounds, Array.size_setIfInBounds, Nat.reduceEqDiff, Nat.reduceLT, Nat.reduceAdd, ite_true, ite_false, if_true, if_false, reduceIte, Act.put] at n19; replace n19 := n19.trans s19
      have n20 := hT 20; simp only [Array.getElem?_setIfInBounds, Array.size_setIfInBounds, Nat.reduceEqDiff, Nat.reduceLT, Nat.reduceAdd, ite_true, ite_false, if_true, if_false, reduceIte, Act.put, hf.size] at n20
      clear hT hf s2 s7 s10 s14 s16 s18 s19
      have s2 := n2; clear n2
      have s7 := n7; clear n7
      have s10 := n10; clear n10
      have s14 := n14; clear n14
      have s16 := n16; clear n16
      have s18 := n18; clear n18
      have s19 := n19; clear n19
      have s20 := n20; clear n20
      have hf := hf1; clear hf1
      refine Fact.then_normal ?_
      refine hK6 _ _ ?_
      refine wp_block ?_
      have hb67 := hb6.trans (hb7.mono hb6.size)
      have HBOX := Lib.hid (fun (wr : World) (hb : Below w7.heap.size w7 wr) => HBOX0.out wr (hb67.trans (hb.mono hb67.size)))
      clear hb67 HBOX0
      refine wp_loop_ghost (fun gk fr wr => ∃ (j : Nat) (v18 v19 : Value), gk = 3 - j ∧ j ≤ 3 ∧ Fact.Fr 176 fr ∧ fr.tmps[2]? = some (.int .u8 n) ∧ fr.tmps[7]? = some (.slice A7 own.length c7) ∧ fr.tmps[10]? = some (.pointer (some ⟨g, 0, none⟩)) ∧ fr.tmps[14]? = some (.slice A14 (topH (nn : Int) own).length c14) ∧ fr.tmps[16]? = some (.slice A16 (topH (nn : Int) own).length c16) ∧ fr.tmps[18]? = some v18 ∧ fr.tmps[19]? = some v19 ∧ fr.tmps[20]? = some (.int .i64 j) ∧ OHs wr w7.heap.size v18 (([a, b, ee].take j).map (topH (nn : Int))).flatten ∧ OLsA wr w7.heap.size v19 (([a, b, ee].take j).map (topH (nn : Int))) v18.ownBlock ∧ Below w7.heap.size w7 wr) (3) ?_ ?_
      · skip
        exact ⟨0, _, _, rfl, Nat.zero_le _, hf, s2, s7, s10, s14, s16, s18, s19, s20, World.ownsRow_nil _ _ _ _, OLsA.nil_ _ _ _, Below.refl _ _⟩
      · skip
        clear hf s2 s7 s10 s14 s16 s18 s19 s20
        rintro gk fr wr ⟨j, v18, v19, hk, hj3, hf, s2, s7, s10, s14, s16, s18, s19, s20, hown, hls, hbr⟩
        have HK3 := Lib.hid hk; clear hk
        have HO := Lib.hid hown; clear hown
        have HL := Lib.hid hls; clear hls
        by_cases hlt : j < 3
        · skip
          have hji : (j : Int) < 3 := by omega
          refine wp_seq_k (fun K7 hK7 => ?_)
          refine wp_seq_k (fun K8 hK8 => ?_)
          refine Fact.region ?_
          have b103 := hf.lt (t := 103) (by decide)
          refine Fact.op_plain rfl (fun K hK => ?_)
          go_simp
          refine hK.out _ _ ?_; clear hK K
          refine Fact.op_plain rfl (fun K hK => ?_)
          go_simp
          refine hK.out _ _ ?_; clear hK K
          refine Fact.nil ?_
          refine Fact.reQ (n := 176) (by simp only [Array.getElem?_setIfInBounds, Array.size_setIfInBounds, Nat.reduceEqDiff, Nat.reduceLT, Nat.reduceAdd, ite_true, ite_false, if_true, if_false, reduceIte, Act.put, hf.size]) hf.defers (fun fr1 hf1 hT => ?_)
          have n2 := hT 2; simp only [Array.getElem?_setIfInBounds, Array.size_setIfInBounds, Nat.reduceEqDiff, Nat.reduceLT, Nat.reduceAdd, ite_true, ite_false, if_true, if_false, reduceIte, Act.put] at n2; replace n2 := n2.trans s2
          have n7 := hT 7; simp only [Array.getElem?_setIfInBounds, Array.size_setIfInBounds, Nat.reduceEqDiff, Nat.reduceLT, Nat.reduceAdd, ite_true, ite_false, if_true, if_false, reduceIte, Act.put] at n7; replace n7 := n7.trans s7
          have n10 := hT 10; simp only [Array.getElem?_setIfInBounds, Array.size_setIfInBounds, Nat.reduceEqDiff, Nat.reduceLT, Nat.reduceAdd, ite_true, ite_false, if_true, if_false, reduceIte, Act.put] at n10; replace n10 := n10.trans s10
          have n14 := hT 14; simp only [Array.getElem?_setIfInBounds, Array.size_setIfInBounds, Nat.reduceEqDiff, Nat.reduceLT, Nat.reduceAdd, ite_true, ite_false, if_true, if_false, reduceIte, Act.put] at n14; replace n14 := n14.trans s14
          have n16 := hT 16; simp only [Array.getElem?_setIfInBounds, Array.size_setIfInBounds, Nat.reduceEqDiff, Nat.reduceLT, Nat.reduceAdd, ite_true, ite_false, if_true, if_false, reduceIte, Act.put] at n16; replace n16 := n16.trans s16
          have n18 := hT 18; simp only [Array.getElem?_setIfInBounds, Array.size_setIfInBounds, Nat.reduceEqDiff, Nat.reduceLT, Nat.reduceAdd, ite_true, ite_false, if_true, if_false, reduceIte, Act.put] at n18; replace n18 := n18.trans s18
          have n19 := hT 19; simp only [Array.getElem?_setIfInBounds, Array.size_setIfInBounds, Nat.reduceEqDiff, Nat.reduceLT, Nat.reduceAdd, ite_true, ite_false, if_true, if_false, reduceIte, Act.put] at n19; replace n19 := n19.trans s19
          have n20 := hT 20; simp only [Array.getElem?_setIfInBounds, Array.size_setIfInBounds, Nat.reduceEqDiff, Nat.reduceLT, Nat.reduceAdd, ite_true, ite_false, if_true, if_false, reduceIte, Act.put] at n20; replace n20 := n20.trans s20
          have n103 := hT 103; simp only [Array.getElem?_setIfInBounds, Array.size_setIfInBounds, Nat.reduceEqDiff, Nat.reduceLT, Nat.reduceAdd, ite_true, ite_false, if_true, if_false, reduceIte, Act.put, hf.size] at n103
          have n104 := hT 104; simp only [Array.getElem?_setIfInBounds, Array.size_setIfInBounds, Nat.reduceEqDiff, Nat.reduceLT, Nat.reduceAdd, ite_true, ite_false, if_true, if_false, reduceIte, Act.put, hf.size] at n104
          clear hT hf s2 s7 s10 s14 s16 s18 s19 s20 b103
          have s2 := n2; clear n2
          have s7 := n7; clear n7
          have s10 := n10; clear n10
          have s14 := n14; clear n14
          have s16 := n16; clear n16
          have s18 := n18; clear n18
          have s19 := n19; clear n19
          have s20 := n20; clear n20
          have s103 := n103; clear n103
          have s104 := n104; clear n104
          have hf := hf1; clear hf1
          refine Fact.then_normal ?_
          refine hK8 _ _ ?_
          obtain ⟨x, Ax, cx, hxj, hxl, hcell, hrx⟩ := HBOX.out wr hbr j hlt
          have HXJ := Lib.hid hxj; have HRX := Lib.hid hrx; clear hxj hrx
          have hji : (j : Int) < 3 := by omega
          have hszr := hbr.size
          have hlen0 := tk_len a b ee nn j
          have HLEN := Lib.hid (show _ ≤ _ from Nat.le_trans hlen0 hlab)
          clear hlen0
          refine Fact.cond_t s104 ?_
          refine wp_skip ?_
          refine Fact.then_normal ?_
          refine hK7 _ _ ?_
          refine wp_seq_k (fun K9 hK9 => ?_)
          refine wp_block ?_
          refine wp_seq_k (fun K10 hK10 => ?_)
          refine Fact.region ?_
          have b108 := hf.lt (t := 108) (by decide)
          have b109 := hf.lt (t := 109) (by decide)
          have b110 := hf.lt (t := 110) (by decide)
          have b111 := hf.lt (t := 111) (by decide)
          have b112 := hf.lt (t := 112) (by decide)
          have b113 := hf.lt (t := 113) (by decide)
          have b114 := hf.lt (t := 114) (by decide)
          have b107 := hf.lt (t := 107) (by decide)
          have b115 := hf.lt (t := 115) (by decide)
          have b116 := hf.lt (t := 116) (by decide)
          refine Fact.op_plain rfl (fun K hK => ?_)
          go_simp
          refine hK.out _ _ ?_; clear hK K
          refine Fact.op_plain rfl (fun K hK => ?_)
          go_simp
          refine hK.out _ _ ?_; clear hK K
          refine Fact.op_plain rfl (fun K hK => ?_)
          go_simp
          refine hK.out _ _ ?_; clear hK K
          refine Fact.op_plain rfl (fun K hK => ?_)
          go_simp
          refine hK.out _ _ ?_; clear hK K
          refine Fact.op_plain rfl (fun K hK => ?_)
          go_simp
          refine hK.out _ _ ?_; clear hK K
          refine Fact.op_plain rfl (fun K hK => ?_)
          go_simp
          refine hK.out _ _ ?_; clear hK K
          refine Fact.op_plain rfl (fun K hK => ?_)
          go_simp
          go_at_call 15; refine (top15o (nn : Int) x Ax cx wr (by omega) HRX.out).mono ?_; rintro e w3 ⟨v9, rfl, ho3, hb3⟩
          obtain ⟨A9, c9, rfl, hc9, hr9⟩ := OHs.form ho3
          have HR9 := Lib.hid hr9; have HO3 := Lib.hid ho3; clear hr9 ho3
          have hs3 := hb3.size
          dsimp only
          refine hK.out _ _ ?_; clear hK K
          refine Fact.op_plain rfl (fun K hK => ?_)
          go_simp
          refine hK.out _ _ ?_; clear hK K
          refine Fact.op_plain rfl (fun K hK => ?_)
          go_simp
          refine hK.out _ _ ?_; clear hK K
          refine Fact.op_plain rfl (fun K hK => ?_)
          go_simp
          refine hK.out _ _ ?_; clear hK K
          refine Fact.op_plain rfl (fun K hK => ?_)
          go_simp
          refine hK.out _ _ ?_; clear hK K
          refine Fact.op_plain rfl (fun K hK => ?_)
          go_simp
          refine hK.out _ _ ?_; clear hK K
          refine Fact.nil ?_
          refine Fact.reQ (n := 176) (by simp only [Array.getElem?_setIfInBounds, Array.size_setIfInBounds, Nat.reduceEqDiff, Nat.reduceLT, Nat.reduceAdd, ite_true, ite_false, if_true, if_false, reduceIte, Act.put, hf.size]) hf.defers (fun fr1 hf1 hT => ?_)
          have n2 := hT 2; simp only [Array.getElem?_setIfInBounds, Array.size_setIfInBounds, Nat.reduceEqDiff, Nat.reduceLT, Nat.reduceAdd, ite_true, ite_false, if_true, if_false, reduceIte, Act.put] at n2; replace n2 := n2.trans s2
          have n7 := hT 7; simp only [Array.getElem?_setIfInBounds, Array.size_setIfInBounds, Nat.reduceEqDiff, Nat.reduceLT, Nat.reduceAdd, ite_true, ite_false, if_true, if_false, reduceIte, Act.put] at n7; replace n7 := n7.trans s7
          have n10 := hT 10; simp only [Array.getElem?_setIfInBounds, Array.size_setIfInBounds, Nat.reduceEqDiff, Nat.reduceLT, Nat.reduceAdd, ite_true, ite_false, if_true, if_false, reduceIte, Act.put] at n10; replace n10 := n10.trans s10
          have n14 := hT 14; simp only [Array.getElem?_setIfInBounds, Array.size_setIfInBounds, Nat.reduceEqDiff, Nat.reduceLT, Nat.reduceAdd, ite_true, ite_false, if_true, if_false, reduceIte, Act.put] at n14; replace n14 := n14.trans s14
          have n16 := hT 16; simp only [Array.getElem?_setIfInBounds, Array.size_setIfInBounds, Nat.reduceEqDiff, Nat.reduceLT, Nat.reduceAdd, ite_true, ite_false, if_true, if_false, reduceIte, Act.put] at n16; replace n16 := n16.trans s16
          have n18 := hT 18; simp only [Array.getElem?_setIfInBounds, Array.size_setIfInBounds, Nat.reduceEqDiff, Nat.reduceLT, Nat.reduceAdd, ite_true, ite_false, if_true, if_false, reduceIte, Act.put] at n18; replace n18 := n18.trans s18
          have n19 := hT 19; simp only [Array.getElem?_setIfInBounds, Array.size_setIfInBounds, Nat.reduceEqDiff, Nat.reduceLT, Nat.reduceAdd, ite_true, ite_false, if_true, if_false, reduceIte, Act.put] at n19; replace n19 := n19.trans s19
          have n20 := hT 20; simp only [Array.getElem?_setIfInBounds, Array.size_setIfInBounds, Nat.reduceEqDiff, Nat.reduceLT, Nat.reduceAdd, ite_true, ite_false, if_true, if_false, reduceIte, Act.put] at n20; replace n20 := n20.trans s20
          have n21 := hT 21; simp only [Array.getElem?_setIfInBounds, Array.size_setIfInBounds, Nat.reduceEqDiff, Nat.reduceLT, Nat.reduceAdd, ite_true, ite_false, if_true, if_false, reduceIte, Act.put, hf.size] at n21
          have n103 := hT 103; simp only [Array.getElem?_setIfInBounds, Array.size_setIfInBounds, Nat.reduceEqDiff, Nat.reduceLT, Nat.reduceAdd, ite_true, ite_false, if_true, if_false, reduceIte, Act.put] at n103; replace n103 := n103.trans s103
          have n104 := hT 104; simp only [Array.getElem?_setIfInBounds, Array.size_setIfInBounds, Nat.reduceEqDiff, Nat.reduceLT, Nat.reduceAdd, ite_true, ite_false, if_true, if_false, reduceIte, Act.put] at n104; replace n104 := n104.trans s104
          have n107 := hT 107; simp only [Array.getElem?_setIfInBounds, Array.size_setIfInBounds, Nat.reduceEqDiff, Nat.reduceLT, Nat.reduceAdd, ite_true, ite_false, if_true, if_false, reduceIte, Act.put, hf.size] at n107
          have n108 := hT 108; simp only [Array.getElem?_setIfInBounds, Array.size_setIfInBounds, Nat.reduceEqDiff, Nat.reduceLT, Nat.reduceAdd, ite_true, ite_false, if_true, if_false, reduceIte, Act.put, hf.size] at n108
          have n109 := hT 109; simp only [Array.getElem?_setIfInBounds, Array.size_setIfInBounds, Nat.reduceEqDiff, Nat.reduceLT, Nat.reduceAdd, ite_true, ite_false, if_true, if_false, reduceIte, Act.put, hf.size] at n109
          have n110 := hT 110; simp only [Array.getElem?_setIfInBounds, Array.size_setIfInBounds, Nat.reduceEqDiff, Nat.reduceLT, Nat.reduceAdd, ite_true, ite_false, if_true, if_false, reduceIte, Act.put, hf.size] at n110
          have n111 := hT 111; simp only [Array.getElem?_setIfInBounds, Array.size_setIfInBounds, Nat.reduceEqDiff, Nat.reduceLT, Nat.reduceAdd, ite_true, ite_false, if_true, if_false, reduceIte, Act.put, hf.size] at n111
          have n112 := hT 112; simp only [Array.getElem?_setIfInBounds, Array.size_setIfInBounds, Nat.reduceEqDiff, Nat.reduceLT, Nat.reduceAdd, ite_true, ite_false, if_true, if_false, reduceIte, Act.put, hf.size] at n112
          have n113 := hT 113; simp only [Array.getElem?_setIfInBounds, Array.size_setIfInBounds, Nat.reduceEqDiff, Nat.reduceLT, Nat.reduceAdd, ite_true, ite_false, if_true, if_false, reduceIte, Act.put, hf.size] at n113
          have n114 := hT 114; simp only [Array.getElem?_setIfInBounds, Array.size_setIfInBounds, Nat.reduceEqDiff, Nat.reduceLT, Nat.reduceAdd, ite_true, ite_false, if_true, if_false, reduceIte, Act.put, hf.size] at n114
          have n115 := hT 115; simp only [Array.getElem?_setIfInBounds, Array.size_setIfInBounds, Nat.reduceEqDiff, Nat.reduceLT, Nat.reduceAdd, ite_true, ite_false, if_true, if_false, reduceIte, Act.put, hf.size] at n115
          have n116 := hT 116; simp only [Array.getElem?_setIfInBounds, Array.size_setIfInBounds, Nat.reduceEqDiff, Nat.reduceLT, Nat.reduceAdd, ite_true, ite_false, if_true, if_false, reduceIte, Act.put, hf.size] at n116
          clear hT hf s2 s7 s10 s14 s16 s18 s19 s20 s103 s104 b108 b109 b110 b111 b112 b113 b114 b107 b115 b116
          have s2 := n2; clear n2
          have s7 := n7; clear n7
          have s10 := n10; clear n10
          have s14 := n14; clear n14
          have s16 := n16; clear n16
          have s18 := n18; clear n18
          have s19 := n19; clear n19
          have s20 := n20; clear n20
          have s21 := n21; clear n21
          have s103 := n103; clear n103
          have s104 := n104; clear n104
          have s107 := n107; clear n107
          have s108 := n108; clear n108
          have s109 := n109; clear n109
          have s110 := n110; clear n110
          have s111 := n111; clear n111
          have s112 := n112; clear n112
          have s113 := n113; clear n113
          have s114 := n114; clear n114
          have s115 := n115; clear n115
          have s116 := n116; clear n116
          have hf := hf1; clear hf1
          refine Fact.then_normal ?_
          refine hK10 _ _ ?_
          refine wp_seq_k (fun K11 hK11 => ?_)
          refine Fact.region ?_
          have b117 := hf.lt (t := 117) (by decide)
          have b118 := hf.lt (t := 118) (by decide)
          have b119 := hf.lt (t := 119) (by decide)
          refine Fact.op_plain rfl (fun K hK => ?_)
          go_simp
          refine hK.out _ _ ?_; clear hK K
          refine Fact.op_plain rfl (fun K hK => ?_)
          go_simp
          refine hK.out _ _ ?_; clear hK K
          refine Fact.reL (n := 176) (by simp only [Array.getElem?_setIfInBounds, Array.size_setIfInBounds, Nat.reduceEqDiff, Nat.reduceLT, Nat.reduceAdd, ite_true, ite_false, if_true, if_false, reduceIte, Act.put, hf.size]) hf.defers (fun fr1 hf1 hT => ?_)
          have n2 := hT 2; simp only [Array.getElem?_setIfInBounds, Array.size_setIfInBounds, Nat.reduceEqDiff, Nat.reduceLT, Nat.reduceAdd, ite_true, ite_false, if_true, if_false, reduceIte, Act.put] at n2; replace n2 := n2.trans s2
          have n7 := hT 7; simp only [Array.getElem?_setIfInBounds, Array.size_setIfInBounds, Nat.reduceEqDiff, Nat.reduceLT, Nat.reduceAdd, ite_true, ite_false, if_true, if_false, reduceIte, Act.put] at n7; replace n7 := n7.trans s7
          have n10 := hT 10; simp only [Array.getElem?_setIfInBounds, Array.size_setIfInBounds, Nat.reduceEqDiff, Nat.reduceLT, Nat.reduceAdd, ite_true, ite_false, if_true, if_false, reduceIte, Act.put] at n10; replace n10 := n10.trans s10
          have n14 := hT 14; simp only [Array.getElem?_setIfInBounds, Array.size_setIfInBounds, Nat.reduceEqDiff, Nat.reduceLT, Nat.reduceAdd, ite_true, ite_false, if_true, if_false, reduceIte, Act.put] at n14; replace n14 := n14.trans s14
          have n16 := hT 16; simp only [Array.getElem?_setIfInBounds, Array.size_setIfInBounds, Nat.reduceEqDiff, Nat.reduceLT, Nat.reduceAdd, ite_true, ite_false, if_true, if_false, reduceIte, Act.put] at n16; replace n16 := n16.trans s16
          have n18 := hT 18; simp only [Array.getElem?_setIfInBounds, Array.size_setIfInBounds, Nat.reduceEqDiff, Nat.reduceLT, Nat.reduceAdd, ite_true, ite_false, if_true, if_false, reduceIte, Act.put] at n18; replace n18 := n18.trans s18
          have n19 := hT 19; simp only [Array.getElem?_setIfInBounds, Array.size_setIfInBounds, Nat.reduceEqDiff, Nat.reduceLT, Nat.reduceAdd, ite_true, ite_false, if_true, if_false, reduceIte, Act.put] at n19; replace n19 := n19.trans s19
          have n20 := hT 20; simp only [Array.getElem?_setIfInBounds, Array.size_setIfInBounds, Nat.reduceEqDiff, Nat.reduceLT, Nat.reduceAdd, ite_true, ite_false, if_true, if_false, reduceIte, Act.put] at n20; replace n20 := n20.trans s20
          have n21 := hT 21; simp only [Array.getElem?_setIfInBounds, Array.size_setIfInBounds, Nat.reduceEqDiff, Nat.reduceLT, Nat.reduceAdd, ite_true, ite_false, if_true, if_false, reduceIte, Act.put] at n21; replace n21 := n21.trans s21
          have n103 := hT 103; simp only [Array.getElem?_setIfInBounds, Array.size_setIfInBounds, Nat.reduceEqDiff, Nat.reduceLT, Nat.reduceAdd, ite_true, ite_false, if_true, if_false, reduceIte, Act.put] at n103; replace n103 := n103.trans s103
          have n104 := hT 104; simp only [Array.getElem?_setIfInBounds, Array.size_setIfInBounds, Nat.reduceEqDiff, Nat.reduceLT, Nat.reduceAdd, ite_true, ite_false, if_true, if_false, reduceIte, Act.put] at n104; replace n104 := n104.trans s104
          have n107 := hT 107; simp only [Array.getElem?_setIfInBounds, Array.size_setIfInBounds, Nat.reduceEqDiff, Nat.reduceLT, Nat.reduceAdd, ite_true, ite_false, if_true, if_false, reduceIte, Act.put] at n107; replace n107 := n107.trans s107
          have n108 := hT 108; simp only [Array.getElem?_setIfInBounds, Array.size_setIfInBounds, Nat.reduceEqDiff, Nat.reduceLT, Nat.reduceAdd, ite_true, ite_false, if_true, if_false, reduceIte, Act.put] at n108; replace n108 := n108.trans s108
          have n109 := hT 109; simp only [Array.getElem?_setIfInBounds, Array.size_setIfInBounds, Nat.reduceEqDiff, Nat.reduceLT, Nat.reduceAdd, ite_true, ite_false, if_true, if_false, reduceIte, Act.put] at n109; replace n109 := n109.trans s109
          have n110 := hT 110; simp only [Array.getElem?_setIfInBounds, Array.size_setIfInBounds, Nat.reduceEqDiff, Nat.reduceLT, Nat.reduceAdd, ite_true, ite_false, if_true, if_false, reduceIte, Act.put] at n110; replace n110 := n110.trans s110
          have n111 := hT 111; simp only [Array.getElem?_setIfInBounds, Array.size_setIfInBounds, Nat.reduceEqDiff, Nat.reduceLT, Nat.reduceAdd, ite_true, ite_false, if_true, if_false, reduceIte, Act.put] at n111; replace n111 := n111.trans s111
          have n112 := hT 112; simp only [Array.getElem?_setIfInBounds, Array.size_setIfInBounds, Nat.reduceEqDiff, Nat.reduceLT, Nat.reduceAdd, ite_true, ite_false, if_true, if_false, reduceIte, Act.put] at n112; replace n112 := n112.trans s112
          have n113 := hT 113; simp only [Array.getElem?_setIfInBounds, Array.size_setIfInBounds, Nat.reduceEqDiff, Nat.reduceLT, Nat.reduceAdd, ite_true, ite_false, if_true, if_false, reduceIte, Act.put] at n113; replace n113 := n113.trans s113
          have n114 := hT 114; simp only [Array.getElem?_setIfInBounds, Array.size_setIfInBounds, Nat.reduceEqDiff, Nat.reduceLT, Nat.reduceAdd, ite_true, ite_false, if_true, if_false, reduceIte, Act.put] at n114; replace n114 := n114.trans s114
          have n115 := hT 115; simp only [Array.getElem?_setIfInBounds, Array.size_setIfInBounds, Nat.reduceEqDiff, Nat.reduceLT, Nat.reduceAdd, ite_true, ite_false, if_true, if_false, reduceIte, Act.put] at n115; replace n115 := n115.trans s115
          have n116 := hT 116; simp only [Array.getElem?_setIfInBounds, Array.size_setIfInBounds, Nat.reduceEqDiff, Nat.reduceLT, Nat.reduceAdd, ite_true, ite_false, if_true, if_false, reduceIte, Act.put] at n116; replace n116 := n116.trans s116
          have n117 := hT 117; simp only [Array.getElem?_setIfInBounds, Array.size_setIfInBounds, Nat.reduceEqDiff, Nat.reduceLT, Nat.reduceAdd, ite_true, ite_false, if_true, if_false, reduceIte, Act.put, hf.size] at n117
          have n118 := hT 118; simp only [Array.getElem?_setIfInBounds, Array.size_setIfInBounds, Nat.reduceEqDiff, Nat.reduceLT, Nat.reduceAdd, ite_true, ite_false, if_true, if_false, reduceIte, Act.put, hf.size] at n118
          clear hT hf s2 s7 s10 s14 s16 s18 s19 s20 s21 s103 s104 s107 s108 s109 s110 s111 s112 s113 s114 s115 s116 b117 b118 b119
          have s2 := n2; clear n2
          have s7 := n7; clear n7
          have s10 := n10; clear n10
          have s14 := n14; clear n14
          have s16 := n16; clear n16
          have s18 := n18; clear n18
          have s19 := n19; clear n19
          have s20 := n20; clear n20
          have s21 := n21; clear n21
          have s103 := n103; clear n103
          have s104 := n104; clear n104
          have s107 := n107; clear n107
          have s108 := n108; clear n108
          have s109 := n109; clear n109
          have s110 := n110; clear n110
          have s111 := n111; clear n111
          have s112 := n112; clear n112
          have s113 := n113; clear n113
          have s114 := n114; clear n114
          have s115 := n115; clear n115
          have s116 := n116; clear n116
          have s117 := n117; clear n117
          have s118 := n118; clear n118
          have hf := hf1; clear hf1
          have b119 := hf.lt (t := 119) (by decide)
          refine ⟨?_⟩
          refine wpList_append_hits_at rfl _ _ rfl w7.heap.size v18 _ (topH (nn : Int) x) (Fact.eval_tmp s117) (by exact own_below HO.out hb3) A9 _ c9 (Fact.eval_tmp s118) rfl HR9.out (by rw [topH_length]; have := HLEN.out; omega) (by omega) ?_
          intro v6 w4 hown2 hg2 hb4 hat
          have hL2 := (HL.out.below hb3).grown26 (own_below HO.out hb3) hg2 hat
          have ha9 := own_apart HO3.out hg2 (fun k hk e => by have h1 := (HO3.out.lt k hk).1; have h2 := (HO.out.lt k e).2; omega)
          have hoff := off_new9 HO3.out HO.out hat
          have HL2 := Lib.hid hL2; have HOW2 := Lib.hid hown2; have HA9 := Lib.hid ha9; have HOFF := Lib.hid hoff; clear hL2 hown2 ha9 hoff hg2 hat
          have hs4 := hb4.size
          refine Fact.L.out ?_
          refine Fact.op_plain rfl (fun K hK => ?_)
          go_simp
          refine hK.out _ _ ?_; clear hK K
          refine Fact.nil ?_
          refine Fact.reQ (n := 176) (by simp only [Array.getElem?_setIfInBounds, Array.size_setIfInBounds, Nat.reduceEqDiff, Nat.reduceLT, Nat.reduceAdd, ite_true, ite_false, if_true, if_false, reduceIte, Act.put, hf.size]) hf.defers (fun fr1 hf1 hT => ?_)
          have n2 := hT 2; simp only [Array.getElem?_setIfInBounds, Array.size_setIfInBounds, Nat.reduceEqDiff, Nat.reduceLT, Nat.reduceAdd, ite_true, ite_false, if_true, if_false, reduceIte, Act.put] at n2; replace n2 := n2.trans s2
          have n7 := hT 7; simp only [Array.getElem?_setIfInBounds, Array.size_setIfInBounds, Nat.reduceEqDiff, Nat.reduceLT, Nat.reduceAdd, ite_true, ite_false, if_true, if_false, reduceIte, Act.put] at n7; replace n7 := n7.trans s7
          have n10 := hT 10; simp only [Array.getElem?_setIfInBounds, Array.size_setIfInBounds, Nat.reduceEqDiff, Nat.reduceLT, Nat.reduceAdd, ite_true, ite_false, if_true, if_false, reduceIte, Act.put] at n10; replace n10 := n10.trans s10
          have n14 := hT 14; simp only [Array.getElem?_setIfInBounds, Array.size_setIfInBounds, Nat.reduceEqDiff, Nat.reduceLT, Nat.reduceAdd, ite_true, ite_false, if_true, if_false, reduceIte, Act.put] at n14; replace n14 := n14.trans s14
          have n16 := hT 16; simp only [Array.getElem?_setIfInBounds, Array.size_setIfInBounds, Nat.reduceEqDiff, Nat.reduceLT, Nat.reduceAdd, ite_true, ite_false, if_true, if_false, reduceIte, Act.put] at n16; replace n16 := n16.trans s16
          have n18 := hT 18; simp only [Array.getElem?_setIfInBounds, Array.size_setIfInBounds, Nat.reduceEqDiff, Nat.reduceLT, Nat.reduceAdd, ite_true, ite_false, if_true, if_false, reduceIte, Act.put, hf.size] at n18
          have n19 := hT 19; simp only [Array.getElem?_setIfInBounds, Array.size_setIfInBounds, Nat.reduceEqDiff, Nat.reduceLT, Nat.reduceAdd, ite_true, ite_false, if_true, if_false, reduceIte, Act.put] at n19; replace n19 := n19.trans s19
          have n20 := hT 20; simp only [Array.getElem?_setIfInBounds, Array.size_setIfInBounds, Nat.reduceEqDiff, Nat.reduceLT, Nat.reduceAdd, ite_true, ite_false, if_true, if_false, reduceIte, Act.put] at n20; replace n20 := n20.trans s20
          have n21 := hT 21; simp only [Array.getElem?_setIfInBounds, Array.size_setIfInBounds, Nat.reduceEqDiff, Nat.reduceLT, Nat.reduceAdd, ite_true, ite_false, if_true, if_false, reduceIte, Act.put] at n21; replace n21 := n21.trans s21
          have n103 := hT 103; simp only [Array.getElem?_setIfInBounds, Array.size_setIfInBounds, Nat.reduceEqDiff, Nat.reduceLT, Nat.reduceAdd, ite_true, ite_false, if_true, if_false, reduceIte, Act.put] at n103; replace n103 := n103.trans s103
          have n104 := hT 104; simp only [Array.getElem?_setIfInBounds, Array.size_setIfInBounds, Nat.reduceEqDiff, Nat.reduceLT, Nat.reduceAdd, ite_true, ite_false, if_true, if_false, reduceIte, Act.put] at n104; replace n104 := n104.trans s104
          have n107 := hT 107; simp only [Array.getElem?_setIfInBounds, Array.size_setIfInBounds, Nat.reduceEqDiff, Nat.reduceLT, Nat.reduceAdd, ite_true, ite_false, if_true, if_false, reduceIte, Act.put] at n107; replace n107 := n107.trans s107
          have n108 := hT 108; simp only [Array.getElem?_setIfInBounds, Array.size_setIfInBounds, Nat.reduceEqDiff, Nat.reduceLT, Nat.reduceAdd, ite_true, ite_false, if_true, if_false, reduceIte, Act.put] at n108; replace n108 := n108.trans s108
          have n109 := hT 109; simp only [Array.getElem?_setIfInBounds, Array.size_setIfInBounds, Nat.reduceEqDiff, Nat.reduceLT, Nat.reduceAdd, ite_true, ite_false, if_true, if_false, reduceIte, Act.put] at n109; replace n109 := n109.trans s109
          have n110 := hT 110; simp only [Array.getElem?_setIfInBounds, Array.size_setIfInBounds, Nat.reduceEqDiff, Nat.reduceLT, Nat.reduceAdd, ite_true, ite_false, if_true, if_false, reduceIte, Act.put] at n110; replace n110 := n110.trans s110
          have n111 := hT 111; simp only [Array.getElem?_setIfInBounds, Array.size_setIfInBounds, Nat.reduceEqDiff, Nat.reduceLT, Nat.reduceAdd, ite_true, ite_false, if_true, if_false, reduceIte, Act.put] at n111; replace n111 := n111.trans s111
          have n112 := hT 112; simp only [Array.getElem?_setIfInBounds, Array.size_setIfInBounds, Nat.reduceEqDiff, Nat.reduceLT, Nat.reduceAdd, ite_true, ite_false, if_true, if_false, reduceIte, Act.put] at n112; replace n112 := n112.trans s112
          have n113 := hT 113; simp only [Array.getElem?_setIfInBounds, Array.size_setIfInBounds, Nat.reduceEqDiff, Nat.reduceLT, Nat.reduceAdd, ite_true, ite_false, if_true, if_false, reduceIte, Act.put] at n113; replace n113 := n113.trans s113
          have n114 := hT 114; simp only [Array.getElem?_setIfInBounds, Array.size_setIfInBounds, Nat.reduceEqDiff, Nat.reduceLT, Nat.reduceAdd, ite_true, ite_false, if_true, if_false, reduceIte, Act.put] at n114; replace n114 := n114.trans s114
          have n115 := hT 115; simp only [Array.getElem?_setIfInBounds, Array.size_setIfInBounds, Nat.reduceEqDiff, Nat.reduceLT, Nat.reduceAdd, ite_true, ite_false, if_true, if_false, reduceIte, Act.put] at n115; replace n115 := n115.trans s115
          have n116 := hT 116; simp only [Array.getElem?_setIfInBounds, Array.size_setIfInBounds, Nat.reduceEqDiff, Nat.reduceLT, Nat.reduceAdd, ite_true, ite_false, if_true, if_false, reduceIte, Act.put] at n116; replace n116 := n116.trans s116
          have n117 := hT 117; simp only [Array.getElem?_setIfInBounds, Array.size_setIfInBounds, Nat.reduceEqDiff, Nat.reduceLT, Nat.reduceAdd, ite_true, ite_false, if_true, if_false, reduceIte, Act.put] at n117; replace n117 := n117.trans s117
          have n118 := hT 118; simp only [Array.getElem?_setIfInBounds, Array.size_setIfInBounds, Nat.reduceEqDiff, Nat.reduceLT, Nat.reduceAdd, ite_true, ite_false, if_true, if_false, reduceIte, Act.put] at n118; replace n118 := n118.trans s118
          have n119 := hT 119; simp only [Array.getElem?_setIfInBounds, Array.size_setIfInBounds, Nat.reduceEqDiff, Nat.reduceLT, Nat.reduceAdd, ite_true, ite_false, if_true, if_false, reduceIte, Act.put, hf.size] at n119
          clear hT hf s2 s7 s10 s14 s16 s18 s19 s20 s21 s103 s104 s107 s108 s109 s110 s111 s112 s113 s114 s115 s116 s117 s118 b119
          have s2 := n2; clear n2
          have s7 := n7; clear n7
          have s10 := n10; clear n10
          have s14 := n14; clear n14
          have s16 := n16; clear n16
          have s18 := n18; clear n18
          have s19 := n19; clear n19
          have s20 := n20; clear n20
          have s21 := n21; clear n21
          have s103 := n103; clear n103
          have s104 := n104; clear n104
          have s107 := n107; clear n107
          have s108 := n108; clear n108
          have s109 := n109; clear n109
          have s110 := n110; clear n110
          have s111 := n111; clear n111
          have s112 := n112; clear n112
          have s113 := n113; clear n113
          have s114 := n114; clear n114
          have s115 := n115; clear n115
          have s116 := n116; clear n116
          have s117 := n117; clear n117
          have s118 := n118; clear n118
          have s119 := n119; clear n119
          have hf := hf1; clear hf1
          refine Fact.then_normal ?_
          refine hK11 _ _ ?_
          refine Fact.region ?_
          have b120 := hf.lt (t := 120) (by decide)
          have b121 := hf.lt (t := 121) (by decide)
          have b122 := hf.lt (t := 122) (by decide)
          have b123 := hf.lt (t := 123) (by decide)
          refine Fact.op_plain rfl (fun K hK => ?_)
          go_simp
          refine hK.out _ _ ?_; clear hK K
          refine Fact.op_plain rfl (fun K hK => ?_)
          go_simp
          refine hK.out _ _ ?_; clear hK K
          refine Fact.op_plain rfl (fun K hK => ?_)
          go_simp
          refine hK.out _ _ ?_; clear hK K
          refine Fact.reL (n := 176) (by simp only [Array.getElem?_setIfInBounds, Array.size_setIfInBounds, Nat.reduceEqDiff, Nat.reduceLT, Nat.reduceAdd, ite_true, ite_false, if_true, if_false, reduceIte, Act.put, hf.size]) hf.defers (fun fr1 hf1 hT => ?_)
          have n2 := hT 2; simp only [Array.getElem?_setIfInBounds, Array.size_setIfInBounds, Nat.reduceEqDiff, Nat.reduceLT, Nat.reduceAdd, ite_true, ite_false, if_true, if_false, reduceIte, Act.put] at n2; replace n2 := n2.trans s2
          have n7 := hT 7; simp only [Array.getElem?_setIfInBounds, Array.size_setIfInBounds, Nat.reduceEqDiff, Nat.reduceLT, Nat.reduceAdd, ite_true, ite_false, if_true, if_false, reduceIte, Act.put] at n7; replace n7 := n7.trans s7
          have n10 := hT 10; simp only [Array.getElem?_setIfInBounds, Array.size_setIfInBounds, Nat.reduceEqDiff, Nat.reduceLT, Nat.reduceAdd, ite_true, ite_false, if_true, if_false, reduceIte, Act.put] at n10; replace n10 := n10.trans s10
          have n14 := hT 14; simp only [Array.getElem?_setIfInBounds, Array.size_setIfInBounds, Nat.reduceEqDiff, Nat.reduceLT, Nat.reduceAdd, ite_true, ite_false, if_true, if_false, reduceIte, Act.put] at n14; replace n14 := n14.trans s14
          have n16 := hT 16; simp only [Array.getElem?_setIfInBounds, Array.size_setIfInBounds, Nat.reduceEqDiff, Nat.reduceLT, Nat.reduceAdd, ite_true, ite_false, if_true, if_false, reduceIte, Act.put] at n16; replace n16 := n16.trans s16
          have n18 := hT 18; simp only [Array.getElem?_setIfInBounds, Array.size_setIfInBounds, Nat.reduceEqDiff, Nat.reduceLT, Nat.reduceAdd, ite_true, ite_false, if_true, if_false, reduceIte, Act.put] at n18; replace n18 := n18.trans s18
          have n19 := hT 19; simp only [Array.getElem?_setIfInBounds, Array.size_setIfInBounds, Nat.reduceEqDiff, Nat.reduceLT, Nat.reduceAdd, ite_true, ite_false, if_true, if_false, reduceIte, Act.put] at n19; replace n19 := n19.trans s19
          have n20 := hT 20; simp only [Array.getElem?_setIfInBounds, Array.size_setIfInBounds, Nat.reduceEqDiff, Nat.reduceLT, Nat.reduceAdd, ite_true, ite_false, if_true, if_false, reduceIte, Act.put] at n20; replace n20 := n20.trans s20
          have n21 := hT 21; simp only [Array.getElem?_setIfInBounds, Array.size_setIfInBounds, Nat.reduceEqDiff, Nat.reduceLT, Nat.reduceAdd, ite_true, ite_false, if_true, if_false, reduceIte, Act.put] at n21; replace n21 := n21.trans s21
          have n103 := hT 103; simp only [Array.getElem?_setIfInBounds, Array.size_setIfInBounds, Nat.reduceEqDiff, Nat.reduceLT, Nat.reduceAdd, ite_true, ite_false, if_true, if_false, reduceIte, Act.put] at n103; replace n103 := n103.trans s103
          have n104 := hT 104; simp only [Array.getElem?_setIfInBounds, Array.size_setIfInBounds, Nat.reduceEqDiff, Nat.reduceLT, Nat.reduceAdd, ite_true, ite_false, if_true, if_false, reduceIte, Act.put] at n104; replace n104 := n104.trans s104
          have n107 := hT 107; simp only [Array.getElem?_setIfInBounds, Array.size_setIfInBounds, Nat.reduceEqDiff, Nat.reduceLT, Nat.reduceAdd, ite_true, ite_false, if_true, if_false, reduceIte, Act.put] at n107; replace n107 := n107.trans s107
          have n108 := hT 108; simp only [Array.getElem?_setIfInBounds, Array.size_setIfInBounds, Nat.reduceEqDiff, Nat.reduceLT, Nat.reduceAdd, ite_true, ite_false, if_true, if_false, reduceIte, Act.put] at n108; replace n108 := n108.trans s108
          have n109 := hT 109; simp only [Array.getElem?_setIfInBounds, Array.size_setIfInBounds, Nat.reduceEqDiff, Nat.reduceLT, Nat.reduceAdd, ite_true, ite_false, if_true, if_false, reduceIte, Act.put] at n109; replace n109 := n109.trans s109
          have n110 := hT 110; simp only [Array.getElem?_setIfInBounds, Array.size_setIfInBounds, Nat.reduceEqDiff, Nat.reduceLT, Nat.reduceAdd, ite_true, ite_false, if_true, if_false, reduceIte, Act.put] at n110; replace n110 := n110.trans s110
          have n111 := hT 111; simp only [Array.getElem?_setIfInBounds, Array.size_setIfInBounds, Nat.reduceEqDiff, Nat.reduceLT, Nat.reduceAdd, ite_true, ite_false, if_true, if_false, reduceIte, Act.put] at n111; replace n111 := n111.trans s111
          have n112 := hT 112; simp only [Array.getElem?_setIfInBounds, Array.size_setIfInBounds, Nat.reduceEqDiff, Nat.reduceLT, Nat.reduceAdd, ite_true, ite_false, if_true, if_false, reduceIte, Act.put] at n112; replace n112 := n112.trans s112
          have n113 := hT 113; simp only [Array.getElem?_setIfInBounds, Array.size_setIfInBounds, Nat.reduceEqDiff, Nat.reduceLT, Nat.reduceAdd, ite_true, ite_false, if_true, if_false, reduceIte, Act.put] at n113; replace n113 := n113.trans s113
          have n114 := hT 114; simp only [Array.getElem?_setIfInBounds, Array.size_setIfInBounds, Nat.reduceEqDiff, Nat.reduceLT, Nat.reduceAdd, ite_true, ite_false, if_true, if_false, reduceIte, Act.put] at n114; replace n114 := n114.trans s114
          have n115 := hT 115; simp only [Array.getElem?_setIfInBounds, Array.size_setIfInBounds, Nat.reduceEqDiff, Nat.reduceLT, Nat.reduceAdd, ite_true, ite_false, if_true, if_false, reduceIte, Act.put] at n115; replace n115 := n115.trans s115
          have n116 := hT 116; simp only [Array.getElem?_setIfInBounds, Array.size_setIfInBounds, Nat.reduceEqDiff, Nat.reduceLT, Nat.reduceAdd, ite_true, ite_false, if_true, if_false, reduceIte, Act.put] at n116; replace n116 := n116.trans s116
          have n117 := hT 117; simp only [Array.getElem?_setIfInBounds, Array.size_setIfInBounds, Nat.reduceEqDiff, Nat.reduceLT, Nat.reduceAdd, ite_true, ite_false, if_true, if_false, reduceIte, Act.put] at n117; replace n117 := n117.trans s117
          have n118 := hT 118; simp only [Array.getElem?_setIfInBounds, Array.size_setIfInBounds, Nat.reduceEqDiff, Nat.reduceLT, Nat.reduceAdd, ite_true, ite_false, if_true, if_false, reduceIte, Act.put] at n118; replace n118 := n118.trans s118
          have n119 := hT 119; simp only [Array.getElem?_setIfInBounds, Array.size_setIfInBounds, Nat.reduceEqDiff, Nat.reduceLT, Nat.reduceAdd, ite_true, ite_false, if_true, if_false, reduceIte, Act.put] at n119; replace n119 := n119.trans s119
          have n120 := hT 120; simp only [Array.getElem?_setIfInBounds, Array.size_setIfInBounds, Nat.reduceEqDiff, Nat.reduceLT, Nat.reduceAdd, ite_true, ite_false, if_true, if_false, reduceIte, Act.put, hf.size] at n120
          have n121 := hT 121; simp only [Array.getElem?_setIfInBounds, Array.size_setIfInBounds, Nat.reduceEqDiff, Nat.reduceLT, Nat.reduceAdd, ite_true, ite_false, if_true, if_false, reduceIte, Act.put, hf.size] at n121
          have n122 := hT 122; simp only [Array.getElem?_setIfInBounds, Array.size_setIfInBounds, Nat.reduceEqDiff, Nat.reduceLT, Nat.reduceAdd, ite_true, ite_false, if_true, if_false, reduceIte, Act.put, hf.size] at n122
          clear hT hf s2 s7 s10 s14 s16 s18 s19 s20 s21 s103 s104 s107 s108 s109 s110 s111 s112 s113 s114 s115 s116 s117 s118 s119 b120 b121 b122 b123
          have s2 := n2; clear n2
          have s7 := n7; clear n7
          have s10 := n10; clear n10
          have s14 := n14; clear n14
          have s16 := n16; clear n16
          have s18 := n18; clear n18
          have s19 := n19; clear n19
          have s20 := n20; clear n20
          have s21 := n21; clear n21
          have s103 := n103; clear n103
          have s104 := n104; clear n104
          have s107 := n107; clear n107
          have s108 := n108; clear n108
          have s109 := n109; clear n109
          have s110 := n110; clear n110
          have s111 := n111; clear n111
          have s112 := n112; clear n112
          have s113 := n113; clear n113
          have s114 := n114; clear n114
          have s115 := n115; clear n115
          have s116 := n116; clear n116
          have s117 := n117; clear n117
          have s118 := n118; clear n118
          have s119 := n119; clear n119
          have s120 := n120; clear n120
          have s121 := n121; clear n121
          have s122 := n122; clear n122
          have hf := hf1; clear hf1
          have b123 := hf.lt (t := 123) (by decide)
          refine ⟨?_⟩
          refine wpList_append_list_A rfl _ _ rfl w7.heap.size v19 _ (topH (nn : Int) x) v6.ownBlock (Fact.eval_tmp s120) HL2.out _ (Fact.eval_tmp s122) rfl rfl (by obtain ⟨_, _, e, _, h⟩ := OHs.form HA9.out; injection e with e1 e2 e3; subst e1; exact h) HOFF.out hc9 (by simp; omega) (by omega) ?_
          intro v5 w5 hL4 hkeep hb5
          have hO4 := hkeep _ _ _ HOW2.out
          have HL4 := Lib.hid hL4; have HO4 := Lib.hid hO4; clear hL4 hkeep hO4
          refine Fact.L.out ?_
          refine Fact.op_plain rfl (fun K hK => ?_)
          go_simp
          refine hK.out _ _ ?_; clear hK K
          refine Fact.nil ?_
          refine Fact.reQ (n := 176) (by simp only [Array.getElem?_setIfInBounds, Array.size_setIfInBounds, Nat.reduceEqDiff, Nat.reduceLT, Nat.reduceAdd, ite_true, ite_false, if_true, if_false, reduceIte, Act.put, hf.size]) hf.defers (fun fr1 hf1 hT => ?_)
          have n2 := hT 2; simp only [Array.getElem?_setIfInBounds, Array.size_setIfInBounds, Nat.reduceEqDiff, Nat.reduceLT, Nat.reduceAdd, ite_true, ite_false, if_true, if_false, reduceIte, Act.put] at n2; replace n2 := n2.trans s2
          have n7 := hT 7; simp only [Array.getElem?_setIfInBounds, Array.size_setIfInBounds, Nat.reduceEqDiff, Nat.reduceLT, Nat.reduceAdd, ite_true, ite_false, if_true, if_false, reduceIte, Act.put] at n7; replace n7 := n7.trans s7
          have n10 := hT 10; simp only [Array.getElem?_setIfInBounds, Array.size_setIfInBounds, Nat.reduceEqDiff, Nat.reduceLT, Nat.reduceAdd, ite_true, ite_false, if_true, if_false, reduceIte, Act.put] at n10; replace n10 := n10.trans s10
          have n14 := hT 14; simp only [Array.getElem?_setIfInBounds, Array.size_setIfInBounds, Nat.reduceEqDiff, Nat.reduceLT, Nat.reduceAdd, ite_true, ite_false, if_true, if_false, reduceIte, Act.put] at n14; replace n14 := n14.trans s14
          have n16 := hT 16; simp only [Array.getElem?_setIfInBounds, Array.size_setIfInBounds, Nat.reduceEqDiff, Nat.reduceLT, Nat.reduceAdd, ite_true, ite_false, if_true, if_false, reduceIte, Act.put] at n16; replace n16 := n16.trans s16
          have n18 := hT 18; simp only [Array.getElem?_setIfInBounds, Array.size_setIfInBounds, Nat.reduceEqDiff, Nat.reduceLT, Nat.reduceAdd, ite_true, ite_false, if_true, if_false, reduceIte, Act.put] at n18; replace n18 := n18.trans s18
          have n19 := hT 19; simp only [Array.getElem?_setIfInBounds, Array.size_setIfInBounds, Nat.reduceEqDiff, Nat.reduceLT, Nat.reduceAdd, ite_true, ite_false, if_true, if_false, reduceIte, Act.put, hf.size] at n19
          have n20 := hT 20; simp only [Array.getElem?_setIfInBounds, Array.size_setIfInBounds, Nat.reduceEqDiff, Nat.reduceLT, Nat.reduceAdd, ite_true, ite_false, if_true, if_false, reduceIte, Act.put] at n20; replace n20 := n20.trans s20
          have n21 := hT 21; simp only [Array.getElem?_setIfInBounds, Array.size_setIfInBounds, Nat.reduceEqDiff, Nat.reduceLT, Nat.reduceAdd, ite_true, ite_false, if_true, if_false, reduceIte, Act.put] at n21; replace n21 := n21.trans s21
          have n103 := hT 103; simp only [Array.getElem?_setIfInBounds, Array.size_setIfInBounds, Nat.reduceEqDiff, Nat.reduceLT, Nat.reduceAdd, ite_true, ite_false, if_true, if_false, reduceIte, Act.put] at n103; replace n103 := n103.trans s103
          have n104 := hT 104; simp only [Array.getElem?_setIfInBounds, Array.size_setIfInBounds, Nat.reduceEqDiff, Nat.reduceLT, Nat.reduceAdd, ite_true, ite_false, if_true, if_false, reduceIte, Act.put] at n104; replace n104 := n104.trans s104
          have n107 := hT 107; simp only [Array.getElem?_setIfInBounds, Array.size_setIfInBounds, Nat.reduceEqDiff, Nat.reduceLT, Nat.reduceAdd, ite_true, ite_false, if_true, if_false, reduceIte, Act.put] at n107; replace n107 := n107.trans s107
          have n108 := hT 108; simp only [Array.getElem?_setIfInBounds, Array.size_setIfInBounds, Nat.reduceEqDiff, Nat.reduceLT, Nat.reduceAdd, ite_true, ite_false, if_true, if_false, reduceIte, Act.put] at n108; replace n108 := n108.trans s108
          have n109 := hT 109; simp only [Array.getElem?_setIfInBounds, Array.size_setIfInBounds, Nat.reduceEqDiff, Nat.reduceLT, Nat.reduceAdd, ite_true, ite_false, if_true, if_false, reduceIte, Act.put] at n109; replace n109 := n109.trans s109
          have n110 := hT 110; simp only [Array.getElem?_setIfInBounds, Array.size_setIfInBounds, Nat.reduceEqDiff, Nat.reduceLT, Nat.reduceAdd, ite_true, ite_false, if_true, if_false, reduceIte, Act.put] at n110; replace n110 := n110.trans s110
          have n111 := hT 111; simp only [Array.getElem?_setIfInBounds, Array.size_setIfInBounds, Nat.reduceEqDiff, Nat.reduceLT, Nat.reduceAdd, ite_true, ite_false, if_true, if_false, reduceIte, Act.put] at n111; replace n111 := n111.trans s111
          have n112 := hT 112; simp only [Array.getElem?_setIfInBounds, Array.size_setIfInBounds, Nat.reduceEqDiff, Nat.reduceLT, Nat.reduceAdd, ite_true, ite_false, if_true, if_false, reduceIte, Act.put] at n112; replace n112 := n112.trans s112
          have n113 := hT 113; simp only [Array.getElem?_setIfInBounds, Array.size_setIfInBounds, Nat.reduceEqDiff, Nat.reduceLT, Nat.reduceAdd, ite_true, ite_false, if_true, if_false, reduceIte, Act.put] at n113; replace n113 := n113.trans s113
          have n114 := hT 114; simp only [Array.getElem?_setIfInBounds, Array.size_setIfInBounds, Nat.reduceEqDiff, Nat.reduceLT, Nat.reduceAdd, ite_true, ite_false, if_true, if_false, reduceIte, Act.put] at n114; replace n114 := n114.trans s114
          have n115 := hT 115; simp only [Array.getElem?_setIfInBounds, Array.size_setIfInBounds, Nat.reduceEqDiff, Nat.reduceLT, Nat.reduceAdd, ite_true, ite_false, if_true, if_false, reduceIte, Act.put] at n115; replace n115 := n115.trans s115
          have n116 := hT 116; simp only [Array.getElem?_setIfInBounds, Array.size_setIfInBounds, Nat.reduceEqDiff, Nat.reduceLT, Nat.reduceAdd, ite_true, ite_false, if_true, if_false, reduceIte, Act.put] at n116; replace n116 := n116.trans s116
          have n117 := hT 117; simp only [Array.getElem?_setIfInBounds, Array.size_setIfInBounds, Nat.reduceEqDiff, Nat.reduceLT, Nat.reduceAdd, ite_true, ite_false, if_true, if_false, reduceIte, Act.put] at n117; replace n117 := n117.trans s117
          have n118 := hT 118; simp only [Array.getElem?_setIfInBounds, Array.size_setIfInBounds, Nat.reduceEqDiff, Nat.reduceLT, Nat.reduceAdd, ite_true, ite_false, if_true, if_false, reduceIte, Act.put] at n118; replace n118 := n118.trans s118
          have n119 := hT 119; simp only [Array.getElem?_setIfInBounds, Array.size_setIfInBounds, Nat.reduceEqDiff, Nat.reduceLT, Nat.reduceAdd, ite_true, ite_false, if_true, if_false, reduceIte, Act.put] at n119; replace n119 := n119.trans s119
          have n120 := hT 120; simp only [Array.getElem?_setIfInBounds, Array.size_setIfInBounds, Nat.reduceEqDiff, Nat.reduceLT, Nat.reduceAdd, ite_true, ite_false, if_true, if_false, reduceIte, Act.put] at n120; replace n120 := n120.trans s120
          have n121 := hT 121; simp only [Array.getElem?_setIfInBounds, Array.size_setIfInBounds, Nat.reduceEqDiff, Nat.reduceLT, Nat.reduceAdd, ite_true, ite_false, if_true, if_false, reduceIte, Act.put] at n121; replace n121 := n121.trans s121
          have n122 := hT 122; simp only [Array.getElem?_setIfInBounds, Array.size_setIfInBounds, Nat.reduceEqDiff, Nat.reduceLT, Nat.reduceAdd, ite_true, ite_false, if_true, if_false, reduceIte, Act.put] at n122; replace n122 := n122.trans s122
          have n123 := hT 123; simp only [Array.getElem?_setIfInBounds, Array.size_setIfInBounds, Nat.reduceEqDiff, Nat.reduceLT, Nat.reduceAdd, ite_true, ite_false, if_true, if_false, reduceIte, Act.put, hf.size] at n123
          clear hT hf s2 s7 s10 s14 s16 s18 s19 s20 s21 s103 s104 s107 s108 s109 s110 s111 s112 s113 s114 s115 s116 s117 s118 s119 s120 s121 s122 b123
          have s2 := n2; clear n2
          have s7 := n7; clear n7
          have s10 := n10; clear n10
          have s14 := n14; clear n14
          have s16 := n16; clear n16
          have s18 := n18; clear n18
          have s19 := n19; clear n19
          have s20 := n20; clear n20
          have s21 := n21; clear n21
          have s103 := n103; clear n103
          have s104 := n104; clear n104
          have s107 := n107; clear n107
          have s108 := n108; clear n108
          have s109 := n109; clear n109
          have s110 := n110; clear n110
          have s111 := n111; clear n111
          have s112 := n112; clear n112
          have s113 := n113; clear n113
          have s114 := n114; clear n114
          have s115 := n115; clear n115
          have s116 := n116; clear n116
          have s117 := n117; clear n117
          have s118 := n118; clear n118
          have s119 := n119; clear n119
          have s120 := n120; clear n120
          have s121 := n121; clear n121
          have s122 := n122; clear n122
          have s123 := n123; clear n123
          have hf := hf1; clear hf1
          refine Fact.block_normal ?_
          refine Fact.then_normal ?_
          refine hK9 _ _ ?_
          refine Fact.region ?_
          have b105 := hf.lt (t := 105) (by decide)
          have b106 := hf.lt (t := 106) (by decide)
          refine Fact.op_plain rfl (fun K hK => ?_)
          go_simp
          refine hK.out _ _ ?_; clear hK K
          refine Fact.op_plain rfl (fun K hK => ?_)
          go_simp
          try simp (disch := omega) only [Fact.wrap_i64, Fact.wrap_u8, Fact.wrap_u32, Fact.wrap_u64]
          refine hK.out _ _ ?_; clear hK K
          refine Fact.op_plain rfl (fun K hK => ?_)
          go_simp
          refine hK.out _ _ ?_; clear hK K
          refine Fact.nil ?_
          refine Fact.reQ (n := 176) (by simp only [Array.getElem?_setIfInBounds, Array.size_setIfInBounds, Nat.reduceEqDiff, Nat.reduceLT, Nat.reduceAdd, ite_true, ite_false, if_true, if_false, reduceIte, Act.put, hf.size]) hf.defers (fun fr1 hf1 hT => ?_)
          have n2 := hT 2; simp only [Array.getElem?_setIfInBounds, Array.size_setIfInBounds, Nat.reduceEqDiff, Nat.reduceLT, Nat.reduceAdd, ite_true, ite_false, if_true, if_false, reduceIte, Act.put] at n2; replace n2 := n2.trans s2
          have n7 := hT 7; simp only [Array.getElem?_setIfInBounds, Array.size_setIfInBounds, Nat.reduceEqDiff, Nat.reduceLT, Nat.reduceAdd, ite_true, ite_false, if_true, if_false, reduceIte, Act.put] at n7; replace n7 := n7.trans s7
          have n10 := hT 10; simp only [Array.getElem?_setIfInBounds, Array.size_setIfInBounds, Nat.reduceEqDiff, Nat.reduceLT, Nat.reduceAdd, ite_true, ite_false, if_true, if_false, reduceIte, Act.put] at n10; replace n10 := n10.trans s10
          have n14 := hT 14; simp only [Array.getElem?_setIfInBounds, Array.size_setIfInBounds, Nat.reduceEqDiff, Nat.reduceLT, Nat.reduceAdd, ite_true, ite_false, if_true, if_false, reduceIte, Act.put] at n14; replace n14 := n14.trans s14
          have n16 := hT 16; simp only [Array.getElem?_setIfInBounds, Array.size_setIfInBounds, Nat.reduceEqDiff, Nat.reduceLT, Nat.reduceAdd, ite_true, ite_false, if_true, if_false, reduceIte, Act.put] at n16; replace n16 := n16.trans s16
          have n18 := hT 18; simp only [Array.getElem?_setIfInBounds, Array.size_setIfInBounds, Nat.reduceEqDiff, Nat.reduceLT, Nat.reduceAdd, ite_true, ite_false, if_true, if_false, reduceIte, Act.put] at n18; replace n18 := n18.trans s18
          have n19 := hT 19; simp only [Array.getElem?_setIfInBounds, Array.size_setIfInBounds, Nat.reduceEqDiff, Nat.reduceLT, Nat.reduceAdd, ite_true, ite_false, if_true, if_false, reduceIte, Act.put] at n19; replace n19 := n19.trans s19
          have n20 := hT 20; simp only [Array.getElem?_setIfInBounds, Array.size_setIfInBounds, Nat.reduceEqDiff, Nat.reduceLT, Nat.reduceAdd, ite_true, ite_false, if_true, if_false, reduceIte, Act.put, hf.size] at n20
          have n21 := hT 21; simp only [Array.getElem?_setIfInBounds, Array.size_setIfInBounds, Nat.reduceEqDiff, Nat.reduceLT, Nat.reduceAdd, ite_true, ite_false, if_true, if_false, reduceIte, Act.put] at n21; replace n21 := n21.trans s21
          have n103 := hT 103; simp only [Array.getElem?_setIfInBounds, Array.size_setIfInBounds, Nat.reduceEqDiff, Nat.reduceLT, Nat.reduceAdd, ite_true, ite_false, if_true, if_false, reduceIte, Act.put] at n103; replace n103 := n103.trans s103
          have n104 := hT 104; simp only [Array.getElem?_setIfInBounds, Array.size_setIfInBounds, Nat.reduceEqDiff, Nat.reduceLT, Nat.reduceAdd, ite_true, ite_false, if_true, if_false, reduceIte, Act.put] at n104; replace n104 := n104.trans s104
          have n105 := hT 105; simp only [Array.getElem?_setIfInBounds, Array.size_setIfInBounds, Nat.reduceEqDiff, Nat.reduceLT, Nat.reduceAdd, ite_true, ite_false, if_true, if_false, reduceIte, Act.put, hf.size] at n105
          have n106 := hT 106; simp only [Array.getElem?_setIfInBounds, Array.size_setIfInBounds, Nat.reduceEqDiff, Nat.reduceLT, Nat.reduceAdd, ite_true, ite_false, if_true, if_false, reduceIte, Act.put, hf.size] at n106
          have n107 := hT 107; simp only [Array.getElem?_setIfInBounds, Array.size_setIfInBounds, Nat.reduceEqDiff, Nat.reduceLT, Nat.reduceAdd, ite_true, ite_false, if_true, if_false, reduceIte, Act.put] at n107; replace n107 := n107.trans s107
          have n108 := hT 108; simp only [Array.getElem?_setIfInBounds, Array.size_setIfInBounds, Nat.reduceEqDiff, Nat.reduceLT, Nat.reduceAdd, ite_true, ite_false, if_true, if_false, reduceIte, Act.put] at n108; replace n108 := n108.trans s108
          have n109 := hT 109; simp only [Array.getElem?_setIfInBounds, Array.size_setIfInBounds, Nat.reduceEqDiff, Nat.reduceLT, Nat.reduceAdd, ite_true, ite_false, if_true, if_false, reduceIte, Act.put] at n109; replace n109 := n109.trans s109
          have n110 := hT 110; simp only [Array.getElem?_setIfInBounds, Array.size_setIfInBounds, Nat.reduceEqDiff, Nat.reduceLT, Nat.reduceAdd, ite_true, ite_false, if_true, if_false, reduceIte, Act.put] at n110; replace n110 := n110.trans s110
          have n111 := hT 111; simp only [Array.getElem?_setIfInBounds, Array.size_setIfInBounds, Nat.reduceEqDiff, Nat.reduceLT, Nat.reduceAdd, ite_true, ite_false, if_true, if_false, reduceIte, Act.put] at n111; replace n111 := n111.trans s111
          have n112 := hT 112; simp only [Array.getElem?_setIfInBounds, Array.size_setIfInBounds, Nat.reduceEqDiff, Nat.reduceLT, Nat.reduceAdd, ite_true, ite_false, if_true, if_false, reduceIte, Act.put] at n112; replace n112 := n112.trans s112
          have n113 := hT 113; simp only [Array.getElem?_setIfInBounds, Array.size_setIfInBounds, Nat.reduceEqDiff, Nat.reduceLT, Nat.reduceAdd, ite_true, ite_false, if_true, if_false, reduceIte, Act.put] at n113; replace n113 := n113.trans s113
          have n114 := hT 114; simp only [Array.getElem?_setIfInBounds, Array.size_setIfInBounds, Nat.reduceEqDiff, Nat.reduceLT, Nat.reduceAdd, ite_true, ite_false, if_true, if_false, reduceIte, Act.put] at n114; replace n114 := n114.trans s114
          have n115 := hT 115; simp only [Array.getElem?_setIfInBounds, Array.size_setIfInBounds, Nat.reduceEqDiff, Nat.reduceLT, Nat.reduceAdd, ite_true, ite_false, if_true, if_false, reduceIte, Act.put] at n115; replace n115 := n115.trans s115
          have n116 := hT 116; simp only [Array.getElem?_setIfInBounds, Array.size_setIfInBounds, Nat.reduceEqDiff, Nat.reduceLT, Nat.reduceAdd, ite_true, ite_false, if_true, if_false, reduceIte, Act.put] at n116; replace n116 := n116.trans s116
          have n117 := hT 117; simp only [Array.getElem?_setIfInBounds, Array.size_setIfInBounds, Nat.reduceEqDiff, Nat.reduceLT, Nat.reduceAdd, ite_true, ite_false, if_true, if_false, reduceIte, Act.put] at n117; replace n117 := n117.trans s117
          have n118 := hT 118; simp only [Array.getElem?_setIfInBounds, Array.size_setIfInBounds, Nat.reduceEqDiff, Nat.reduceLT, Nat.reduceAdd, ite_true, ite_false, if_true, if_false, reduceIte, Act.put] at n118; replace n118 := n118.trans s118
          have n119 := hT 119; simp only [Array.getElem?_setIfInBounds, Array.size_setIfInBounds, Nat.reduceEqDiff, Nat.reduceLT, Nat.reduceAdd, ite_true, ite_false, if_true, if_false, reduceIte, Act.put] at n119; replace n119 := n119.trans s119
          have n120 := hT 120; simp only [Array.getElem?_setIfInBounds, Array.size_setIfInBounds, Nat.reduceEqDiff, Nat.reduceLT, Nat.reduceAdd, ite_true, ite_false, if_true, if_false, reduceIte, Act.put] at n120; replace n120 := n120.trans s120
          have n121 := hT 121; simp only [Array.getElem?_setIfInBounds, Array.size_setIfInBounds, Nat.reduceEqDiff, Nat.reduceLT, Nat.reduceAdd, ite_true, ite_false, if_true, if_false, reduceIte, Act.put] at n121; replace n121 := n121.trans s121
          have n122 := hT 122; simp only [Array.getElem?_setIfInBounds, Array.size_setIfInBounds, Nat.reduceEqDiff, Nat.reduceLT, Nat.reduceAdd, ite_true, ite_false, if_true, if_false, reduceIte, Act.put] at n122; replace n122 := n122.trans s122
          have n123 := hT 123; simp only [Array.getElem?_setIfInBounds, Array.size_setIfInBounds, Nat.reduceEqDiff, Nat.reduceLT, Nat.reduceAdd, ite_true, ite_false, if_true, if_false, reduceIte, Act.put] at n123; replace n123 := n123.trans s123
          clear hT hf s2 s7 s10 s14 s16 s18 s19 s20 s21 s103 s104 s107 s108 s109 s110 s111 s112 s113 s114 s115 s116 s117 s118 s119 s120 s121 s122 s123 b105 b106
          have s2 := n2; clear n2
          have s7 := n7; clear n7
          have s10 := n10; clear n10
          have s14 := n14; clear n14
          have s16 := n16; clear n16
          have s18 := n18; clear n18
          have s19 := n19; clear n19
          have s20 := n20; clear n20
          have s21 := n21; clear n21
          have s103 := n103; clear n103
          have s104 := n104; clear n104
          have s105 := n105; clear n105
          have s106 := n106; clear n106
          have s107 := n107; clear n107
          have s108 := n108; clear n108
          have s109 := n109; clear n109
          have s110 := n110; clear n110
          have s111 := n111; clear n111
          have s112 := n112; clear n112
          have s113 := n113; clear n113
          have s114 := n114; clear n114
          have s115 := n115; clear n115
          have s116 := n116; clear n116
          have s117 := n117; clear n117
          have s118 := n118; clear n118
          have s119 := n119; clear n119
          have s120 := n120; clear n120
          have s121 := n121; clear n121
          have s122 := n122; clear n122
          have s123 := n123; clear n123
          have hf := hf1; clear hf1
          refine Fact.then_normal ?_
          refine ⟨3 - (j + 1), by rw [HK3.out]; omega, j + 1, _, _, rfl, by omega, hf, s2, s7, s10, s14, s16, s18, s19, by rw [s20]; go_num, ?_, ?_, ?_⟩
          · rw [tk_flat HXJ.out]; exact HO4.out
          · rw [tk_map HXJ.out]; exact HL4.out
          · exact hbr.trans ((hb3.mono hszr).trans (hb4.trans hb5))
        · skip
          have hji : ¬ (j : Int) < 3 := by omega
          refine wp_seq_k (fun K12 hK12 => ?_)
          refine wp_seq_k (fun K13 hK13 => ?_)
          refine Fact.region ?_
          have b103 := hf.lt (t := 103) (by decide)
          refine Fact.op_plain rfl (fun K hK => ?_)
          go_simp
          refine hK.out _ _ ?_; clear hK K
          refine Fact.op_plain rfl (fun K hK => ?_)
          go_simp
          refine hK.out _ _ ?_; clear hK K
          refine Fact.nil ?_
          refine Fact.reQ (n := 176) (by simp only [Array.getElem?_setIfInBounds, Array.size_setIfInBounds, Nat.reduceEqDiff, Nat.reduceLT, Nat.reduceAdd, ite_true, ite_false, if_true, if_false, reduceIte, Act.put, hf.size]) hf.defers (fun fr1 hf1 hT => ?_)
          have n2 := hT 2; simp only [Array.getElem?_setIfInBounds, Array.size_setIfInBounds, Nat.reduceEqDiff, Nat.reduceLT, Nat.reduceAdd, ite_true, ite_false, if_true, if_false, reduceIte, Act.put] at n2; replace n2 := n2.trans s2
          have n7 := hT 7; simp only [Array.getElem?_setIfInBounds, Array.size_setIfInBounds, Nat.reduceEqDiff, Nat.reduceLT, Nat.reduceAdd, ite_true, ite_false, if_true, if_false, reduceIte, Act.put] at n7; replace n7 := n7.trans s7
          have n10 := hT 10; simp only [Array.getElem?_setIfInBounds, Array.size_setIfInBounds, Nat.reduceEqDiff, Nat.reduceLT, Nat.reduceAdd, ite_true, ite_false, if_true, if_false, reduceIte, Act.put] at n10; replace n10 := n10.trans s10
          have n14 := hT 14; simp only [Array.getElem?_setIfInBounds, Array.size_setIfInBounds, Nat.reduceEqDiff, Nat.reduceLT, Nat.reduceAdd, ite_true, ite_false, if_true, if_false, reduceIte, Act.put] at n14; replace n14 := n14.trans s14
          have n16 := hT 16; simp only [Array.getElem?_setIfInBounds, Array.size_setIfInBounds, Nat.reduceEqDiff, Nat.reduceLT, Nat.reduceAdd, ite_true, ite_false, if_true, if_false, reduceIte, Act.put] at n16; replace n16 := n16.trans s16
          have n18 := hT 18; simp only [Array.getElem?_setIfInBounds, Array.size_setIfInBounds, Nat.reduceEqDiff, Nat.reduceLT, Nat.reduceAdd, ite_true, ite_false, if_true, if_false, reduceIte, Act.put] at n18; replace n18 := n18.trans s18
          have n19 := hT 19; simp only [Array.getElem?_setIfInBounds, Array.size_setIfInBounds, Nat.reduceEqDiff, Nat.reduceLT, Nat.reduceAdd, ite_true, ite_false, if_true, if_false, reduceIte, Act.put] at n19; replace n19 := n19.trans s19
          have n20 := hT 20; simp only [Array.getElem?_setIfInBounds, Array.size_setIfInBounds, Nat.reduceEqDiff, Nat.reduceLT, Nat.reduceAdd, ite_true, ite_false, if_true, if_false, reduceIte, Act.put] at n20; replace n20 := n20.trans s20
          have n103 := hT 103; simp only [Array.getElem?_setIfInBounds, Array.size_setIfInBounds, Nat.reduceEqDiff, Nat.reduceLT, Nat.reduceAdd, ite_true, ite_false, if_true, if_false, reduceIte, Act.put, hf.size] at n103
          have n104 := hT 104; simp only [Array.getElem?_setIfInBounds, Array.size_setIfInBounds, Nat.reduceEqDiff, Nat.reduceLT, Nat.reduceAdd, ite_true, ite_false, if_true, if_false, reduceIte, Act.put, hf.size] at n104
          clear hT hf s2 s7 s10 s14 s16 s18 s19 s20 b103
          have s2 := n2; clear n2
          have s7 := n7; clear n7
          have s10 := n10; clear n10
          have s14 := n14; clear n14
          have s16 := n16; clear n16
          have s18 := n18; clear n18
          have s19 := n19; clear n19
          have s20 := n20; clear n20
          have s103 := n103; clear n103
          have s104 := n104; clear n104
          have hf := hf1; clear hf1
          refine Fact.then_normal ?_
          refine hK13 _ _ ?_
          have hji : ¬ (j : Int) < 3 := by omega
          have hj : j = 3 := by omega
          subst hj
          refine Fact.cond_f s104 ?_
          refine wp_exit ?_
          refine Fact.then_exit ?_
          refine Fact.then_exit ?_
          refine Fact.block_exit ?_
          refine Fact.then_normal ?_
          refine hK5 _ _ ?_
          obtain ⟨A18, c18, rfl, hc18, hr18⟩ := OHs.form HO.out
          obtain ⟨A19, c19, rfl, hc19, hr19, -⟩ := OLs.form HL.out.ols
          have hflen : (([a, b, ee].take 3).map (topH (nn : Int))).flatten.length ≤ 40 := Nat.le_trans (tk_len a b ee nn 3) hlab
          have hct2 : ∀ W : World, RHs W W.heap.size A18 (([a, b, ee].take 3).map (topH (nn : Int))).flatten → Calls Try.prog 15 #[.int .i64 nn, .slice A18 (([a, b, ee].take 3).map (topH (nn : Int))).flatten.length c18] W (RetTop W (topH (nn : Int) own) (if (nn : Int) < 0 then 2 else 0)) := fun W h => HTOP.out ▸ top15 (nn : Int) _ A18 c18 W (by omega) h
          have hct3 : ∀ W : World, RLs W W.heap.size A19 (([a, b, ee].take 3).map (topH (nn : Int))) → Calls Try.prog 20 #[.int .i64 nn, .slice A19 (([a, b, ee].take 3).map (topH (nn : Int))).length c19] W (RetHs W (topH (nn : Int) own)) := fun W h => HTOP.out ▸ join20 (nn : Int) _ A19 c19 W (by simp) (by omega) (tk_sorted a b ee nn) h
          generalize (([a, b, ee].take 3).map (topH (nn : Int))).flatten = T at *
          generalize ([a, b, ee].take 3).map (topH (nn : Int)) = G at *
          have HC2 := Lib.hid hct2; have HC3 := Lib.hid hct3; have H18 := Lib.hid hr18; have H19 := Lib.hid hr19; clear hct2 hct3 hr18 hr19 HO HL HK3 HTOP HBOX
          have hszr := hbr.size
          have htl : (topH (nn : Int) own).length ≤ 1000000 := by rw [topH_length]; omega
          have HTL := Lib.hid htl
          clear htl
          obtain ⟨tp, hto⟩ : ∃ tp, topH (nn : Int) own = tp := ⟨_, rfl⟩
          rw [hto] at HC2 HC3 HR14 HR16 HTL s14 s16
          have HTO := Lib.hid hto; clear hto
          refine wp_seq_k (fun K14 hK14 => ?_)
          refine Fact.region ?_
          have b125 := hf.lt (t := 125) (by decide)
          have b126 := hf.lt (t := 126) (by decide)
          have b127 := hf.lt (t := 127) (by decide)
          have b128 := hf.lt (t := 128) (by decide)
          have b129 := hf.lt (t := 129) (by decide)
          have b124 := hf.lt (t := 124) (by decide)
          have b130 := hf.lt (t := 130) (by decide)
          have b131 := hf.lt (t := 131) (by decide)
          refine Fact.op_plain rfl (fun K hK => ?_)
          go_simp
          refine hK.out _ _ ?_; clear hK K
          refine Fact.op_plain rfl (fun K hK => ?_)
          go_simp
          refine hK.out _ _ ?_; clear hK K
          refine Fact.op_plain rfl (fun K hK => ?_)
          go_simp
          refine hK.out _ _ ?_; clear hK K
          refine Fact.op_plain rfl (fun K hK => ?_)
          go_simp
          refine hK.out _ _ ?_; clear hK K
          refine Fact.op_plain rfl (fun K hK => ?_)
          go_simp
          go_at_call 15; refine (HC2.out wr H18.out).mono ?_; rintro e w8 ⟨A23, c23, rfl, hc23, hr23, hb8⟩
          have HR23 := Lib.hid hr23; clear hr23
          have hs8 := hb8.size
          dsimp only
          refine hK.out _ _ ?_; clear hK K
          refine Fact.op_plain rfl (fun K hK => ?_)
          go_simp
          refine hK.out _ _ ?_; clear hK K
          refine Fact.op_plain rfl (fun K hK => ?_)
          go_simp
          refine hK.out _ _ ?_; clear hK K
          refine Fact.op_plain rfl (fun K hK => ?_)
          go_simp
          refine hK.out _ _ ?_; clear hK K
          refine Fact.op_plain rfl (fun K hK => ?_)
          go_simp
          refine hK.out _ _ ?_; clear hK K
          refine Fact.op_plain rfl (fun K hK => ?_)
          go_simp
          refine hK.out _ _ ?_; clear hK K
          refine Fact.nil ?_
          refine Fact.reQ (n := 176) (by simp only [Array.getElem?_setIfInBounds, Array.size_setIfInBounds, Nat.reduceEqDiff, Nat.reduceLT, Nat.reduceAdd, ite_true, ite_false, if_true, if_false, reduceIte, Act.put, hf.size]) hf.defers (fun fr1 hf1 hT => ?_)
          have n2 := hT 2; simp only [Array.getElem?_setIfInBounds, Array.size_setIfInBounds, Nat.reduceEqDiff, Nat.reduceLT, Nat.reduceAdd, ite_true, ite_false, if_true, if_false, reduceIte, Act.put] at n2; replace n2 := n2.trans s2
          have n7 := hT 7; simp only [Array.getElem?_setIfInBounds, Array.size_setIfInBounds, Nat.reduceEqDiff, Nat.reduceLT, Nat.reduceAdd, ite_true, ite_false, if_true, if_false, reduceIte, Act.put] at n7; replace n7 := n7.trans s7
          have n14 := hT 14; simp only [Array.getElem?_setIfInBounds, Array.size_setIfInBounds, Nat.reduceEqDiff, Nat.reduceLT, Nat.reduceAdd, ite_true, ite_false, if_true, if_false, reduceIte, Act.put] at n14; replace n14 := n14.trans s14
          have n16 := hT 16; simp only [Array.getElem?_setIfInBounds, Array.size_setIfInBounds, Nat.reduceEqDiff, Nat.reduceLT, Nat.reduceAdd, ite_true, ite_false, if_true, if_false, reduceIte, Act.put] at n16; replace n16 := n16.trans s16
          have n19 := hT 19; simp only [Array.getElem?_setIfInBounds, Array.size_setIfInBounds, Nat.reduceEqDiff, Nat.reduceLT, Nat.reduceAdd, ite_true, ite_false, if_true, if_false, reduceIte, Act.put] at n19; replace n19 := n19.trans s19
          have n23 := hT 23; simp only [Array.getElem?_setIfInBounds, Array.size_setIfInBounds, Nat.reduceEqDiff, Nat.reduceLT, Nat.reduceAdd, ite_true, ite_false, if_true, if_false, reduceIte, Act.put, hf.size] at n23
          clear hT hf s2 s7 s10 s14 s16 s18 s19 s20 s103 s104 b125 b126 b127 b128 b129 b124 b130 b131
          have s2 := n2; clear n2
          have s7 := n7; clear n7
          have s14 := n14; clear n14
          have s16 := n16; clear n16
          have s19 := n19; clear n19
          have s23 := n23; clear n23
          have hf := hf1; clear hf1
          refine Fact.then_normal ?_
          refine hK14 _ _ ?_
          refine wp_seq_k (fun K15 hK15 => ?_)
          refine wp_seq_k (fun K16 hK16 => ?_)
          refine Fact.region ?_
          have b132 := hf.lt (t := 132) (by decide)
          have b133 := hf.lt (t := 133) (by decide)
          have b134 := hf.lt (t := 134) (by decide)
          have b135 := hf.lt (t := 135) (by decide)
          have b136 := hf.lt (t := 136) (by decide)
          have b137 := hf.lt (t := 137) (by decide)
          have b138 := hf.lt (t := 138) (by decide)
          have b139 := hf.lt (t := 139) (by decide)
          have b140 := hf.lt (t := 140) (by decide)
          have b141 := hf.lt (t := 141) (by decide)
          have b142 := hf.lt (t := 142) (by decide)
          have b143 := hf.lt (t := 143) (by decide)
          have b144 := hf.lt (t := 144) (by decide)
          have b145 := hf.lt (t := 145) (by decide)
          have b146 := hf.lt (t := 146) (by decide)
          have b147 := hf.lt (t := 147) (by decide)
          have b148 := hf.lt (t := 148) (by decide)
          have b149 := hf.lt (t := 149) (by decide)
          have b150 := hf.lt (t := 150) (by decide)
          refine Fact.op_plain rfl (fun K hK => ?_)
          go_simp
          refine hK.out _ _ ?_; clear hK K
          refine Fact.op_plain rfl (fun K hK => ?_)
          go_simp
          refine hK.out _ _ ?_; clear hK K
          refine Fact.op_plain rfl (fun K hK => ?_)
          go_simp
          go_at_call 13; refine (same13 tp A14 A16 c14 c16 w8 HTL.out (lift14 hbr hb8 hb7 HR14.out) (lift16 hbr hb8 HR16.out)).mono ?_; rintro e w9 ⟨rfl, hb9⟩
          have hs9 := hb9.size
          have hb89 := hb8.trans (hb9.mono hs8)
          dsimp only
          refine hK.out _ _ ?_; clear hK K
          refine Fact.op_plain rfl (fun K hK => ?_)
          go_simp
          refine hK.out _ _ ?_; clear hK K
          refine Fact.op_plain rfl (fun K hK => ?_)
          go_simp
          refine hK.out _ _ ?_; clear hK K
          refine Fact.op_guard (g := 4) (d := 136) (b := false) rfl rfl rfl ?_ (fun K hK => ?_)
          · simp only [Array.getElem?_setIfInBounds, Array.size_setIfInBounds, Nat.reduceEqDiff, Nat.reduceLT, Nat.reduceAdd, ite_true, ite_false, if_true, if_false, reduceIte, Act.put, hf.size]
          go_simp
          refine hK.out _ _ ?_; clear hK K
          refine Fact.op_guard (g := 4) (d := 136) (b := false) rfl rfl rfl ?_ (fun K hK => ?_)
          · simp only [Array.getElem?_setIfInBounds, Array.size_setIfInBounds, Nat.reduceEqDiff, Nat.reduceLT, Nat.reduceAdd, ite_true, ite_false, if_true, if_false, reduceIte, Act.put, hf.size]
          go_simp
          refine hK.out _ _ ?_; clear hK K
          refine Fact.op_guard (g := 4) (d := 136) (b := false) rfl rfl rfl ?_ (fun K hK => ?_)
          · simp only [Array.getElem?_setIfInBounds, Array.size_setIfInBounds, Nat.reduceEqDiff, Nat.reduceLT, Nat.reduceAdd, ite_true, ite_false, if_true, if_false, reduceIte, Act.put, hf.size]
          go_simp
          go_at_call 13; refine (same13 tp A14 A23 c14 c23 w9 HTL.out (lift14 hbr hb89 hb7 HR14.out) (HR23.out.later hb9)).mono ?_; rintro e w10 ⟨rfl, hb10⟩
          have hs10 := hb10.size
          have hb810 := hb89.trans (hb10.mono hb89.size)
          dsimp only
          refine hK.out _ _ ?_; clear hK K
          refine Fact.op_guard (g := 4) (d := 136) (b := false) rfl rfl rfl ?_ (fun K hK => ?_)
          · simp only [Array.getElem?_setIfInBounds, Array.size_setIfInBounds, Nat.reduceEqDiff, Nat.reduceLT, Nat.reduceAdd, ite_true, ite_false, if_true, if_false, reduceIte, Act.put, hf.size]
          go_simp
          refine hK.out _ _ ?_; clear hK K
          refine Fact.op_plain rfl (fun K hK => ?_)
          go_simp
          refine hK.out _ _ ?_; clear hK K
          refine Fact.op_plain rfl (fun K hK => ?_)
          go_simp
          refine hK.out _ _ ?_; clear hK K
          refine Fact.op_guard (g := 10) (d := 142) (b := false) rfl rfl rfl ?_ (fun K hK => ?_)
          · simp only [Array.getElem?_setIfInBounds, Array.size_setIfInBounds, Nat.reduceEqDiff, Nat.reduceLT, Nat.reduceAdd, ite_true, ite_false, if_true, if_false, reduceIte, Act.put, hf.size]
          go_simp
          refine hK.out _ _ ?_; clear hK K
          refine Fact.op_guard (g := 10) (d := 142) (b := false) rfl rfl rfl ?_ (fun K hK => ?_)
          · simp only [Array.getElem?_setIfInBounds, Array.size_setIfInBounds, Nat.reduceEqDiff, Nat.reduceLT, Nat.reduceAdd, ite_true, ite_false, if_true, if_false, reduceIte, Act.put, hf.size]
          go_simp
          refine hK.out _ _ ?_; clear hK K
          refine Fact.op_guard (g := 10) (d := 142) (b := false) rfl rfl rfl ?_ (fun K hK => ?_)
          · simp only [Array.getElem?_setIfInBounds, Array.size_setIfInBounds, Nat.reduceEqDiff, Nat.reduceLT, Nat.reduceAdd, ite_true, ite_false, if_true, if_false, reduceIte, Act.put, hf.size]
          go_simp
          refine hK.out _ _ ?_; clear hK K
          refine Fact.op_guard (g := 10) (d := 142) (b := false) rfl rfl rfl ?_ (fun K hK => ?_)
          · simp only [Array.getElem?_setIfInBounds, Array.size_setIfInBounds, Nat.reduceEqDiff, Nat.reduceLT, Nat.reduceAdd, ite_true, ite_false, if_true, if_false, reduceIte, Act.put, hf.size]
          go_simp
          refine hK.out _ _ ?_; clear hK K
          refine Fact.op_guard (g := 10) (d := 142) (b := false) rfl rfl rfl ?_ (fun K hK => ?_)
          · simp only [Array.getElem?_setIfInBounds, Array.size_setIfInBounds, Nat.reduceEqDiff, Nat.reduceLT, Nat.reduceAdd, ite_true, ite_false, if_true, if_false, reduceIte, Act.put, hf.size]
          go_simp
          refine hK.out _ _ ?_; clear hK K
          refine Fact.op_guard (g := 10) (d := 142) (b := false) rfl rfl rfl ?_ (fun K hK => ?_)
          · simp only [Array.getElem?_setIfInBounds, Array.size_setIfInBounds, Nat.reduceEqDiff, Nat.reduceLT, Nat.reduceAdd, ite_true, ite_false, if_true, if_false, reduceIte, Act.put, hf.size]
          go_simp
          go_at_call 20; refine (HC3.out w10 ((H19.out.below hb810).more hb810.size)).mono ?_; rintro e w11 ⟨A24, c24, rfl, hc24, hr24, hb11⟩
          have hs11 := hb11.size
          have HR24 := Lib.hid hr24; clear hr24
          have hb811 := hb810.trans (hb11.mono hb810.size)
          dsimp only
          refine hK.out _ _ ?_; clear hK K
          refine Fact.op_guard (g := 10) (d := 142) (b := false) rfl rfl rfl ?_ (fun K hK => ?_)
          · simp only [Array.getElem?_setIfInBounds, Array.size_setIfInBounds, Nat.reduceEqDiff, Nat.reduceLT, Nat.reduceAdd, ite_true, ite_false, if_true, if_false, reduceIte, Act.put, hf.size]
          go_simp
          go_at_call 13; refine (same13 tp A14 A24 c14 c24 w11 HTL.out (lift14 hbr hb811 hb7 HR14.out) HR24.out).mono ?_; rintro e w12 ⟨rfl, hb12⟩
          have hs12 := hb12.size
          have hb812 := hb811.trans (hb12.mono hb811.size)
          dsimp only
          refine hK.out _ _ ?_; clear hK K
          refine Fact.op_guard (g := 10) (d := 142) (b := false) rfl rfl rfl ?_ (fun K hK => ?_)
          · simp only [Array.getElem?_setIfInBounds, Array.size_setIfInBounds, Nat.reduceEqDiff, Nat.reduceLT, Nat.reduceAdd, ite_true, ite_false, if_true, if_false, reduceIte, Act.put, hf.size]
          go_simp
          refine hK.out _ _ ?_; clear hK K
          refine Fact.op_plain rfl (fun K hK => ?_)
          go_simp
          refine hK.out _ _ ?_; clear hK K
          refine Fact.nil ?_
          refine Fact.reQ (n := 176) (by simp only [Array.getElem?_setIfInBounds, Array.size_setIfInBounds, Nat.reduceEqDiff, Nat.reduceLT, Nat.reduceAdd, ite_true, ite_false, if_true, if_false, reduceIte, Act.put, hf.size]) hf.defers (fun fr1 hf1 hT => ?_)
          have n2 := hT 2; simp only [Array.getElem?_setIfInBounds, Array.size_setIfInBounds, Nat.reduceEqDiff, Nat.reduceLT, Nat.reduceAdd, ite_true, ite_false, if_true, if_false, reduceIte, Act.put] at n2; replace n2 := n2.trans s2
          have n7 := hT 7; simp only [Array.getElem?_setIfInBounds, Array.size_setIfInBounds, Nat.reduceEqDiff, Nat.reduceLT, Nat.reduceAdd, ite_true, ite_false, if_true, if_false, reduceIte, Act.put] at n7; replace n7 := n7.trans s7
          have n14 := hT 14; simp only [Array.getElem?_setIfInBounds, Array.size_setIfInBounds, Nat.reduceEqDiff, Nat.reduceLT, Nat.reduceAdd, ite_true, ite_false, if_true, if_false, reduceIte, Act.put] at n14; replace n14 := n14.trans s14
          have n151 := hT 151; simp only [Array.getElem?_setIfInBounds, Array.size_setIfInBounds, Nat.reduceEqDiff, Nat.reduceLT, Nat.reduceAdd, ite_true, ite_false, if_true, if_false, reduceIte, Act.put, hf.size] at n151
          clear hT hf s2 s7 s14 s16 s19 s23 b132 b133 b134 b135 b136 b137 b138 b139 b140 b141 b142 b143 b144 b145 b146 b147 b148 b149 b150
          have s2 := n2; clear n2
          have s7 := n7; clear n7
          have s14 := n14; clear n14
          have s151 := n151; clear n151
          have hf := hf1; clear hf1
          refine Fact.then_normal ?_
          refine hK16 _ _ ?_
          refine Fact.cond_f s151 ?_
          refine wp_skip ?_
          refine Fact.then_normal ?_
          refine hK15 _ _ ?_
          refine wp_seq_k (fun K17 hK17 => ?_)
          refine wp_seq_k (fun K18 hK18 => ?_)
          refine Fact.region ?_
          refine Fact.op_plain rfl (fun K hK => ?_)
          go_simp
          refine hK.out _ _ ?_; clear hK K
          refine Fact.nil ?_
          refine Fact.reQ (n := 176) (by simp only [Array.getElem?_setIfInBounds, Array.size_setIfInBounds, Nat.reduceEqDiff, Nat.reduceLT, Nat.reduceAdd, ite_true, ite_false, if_true, if_false, reduceIte, Act.put, hf.size]) hf.defers (fun fr1 hf1 hT => ?_)
          have n2 := hT 2; simp only [Array.getElem?_setIfInBounds, Array.size_setIfInBounds, Nat.reduceEqDiff, Nat.reduceLT, Nat.reduceAdd, ite_true, ite_false, if_true, if_false, reduceIte, Act.put] at n2; replace n2 := n2.trans s2
          have n7 := hT 7; simp only [Array.getElem?_setIfInBounds, Array.size_setIfInBounds, Nat.reduceEqDiff, Nat.reduceLT, Nat.reduceAdd, ite_true, ite_false, if_true, if_false, reduceIte, Act.put] at n7; replace n7 := n7.trans s7
          have n14 := hT 14; simp only [Array.getElem?_setIfInBounds, Array.size_setIfInBounds, Nat.reduceEqDiff, Nat.reduceLT, Nat.reduceAdd, ite_true, ite_false, if_true, if_false, reduceIte, Act.put] at n14; replace n14 := n14.trans s14
          have n25 := hT 25; simp only [Array.getElem?_setIfInBounds, Array.size_setIfInBounds, Nat.reduceEqDiff, Nat.reduceLT, Nat.reduceAdd, ite_true, ite_false, if_true, if_false, reduceIte, Act.put, hf.size] at n25
          clear hT hf s2 s7 s14 s151
          have s2 := n2; clear n2
          have s7 := n7; clear n7
          have s14 := n14; clear n14
          have s25 := n25; clear n25
          have hf := hf1; clear hf1
          refine Fact.then_normal ?_
          refine hK18 _ _ ?_
          refine wp_block ?_
          have hbA : Below wc.heap.size wc w12 := hb6.trans ((hb7.trans ((hbr.trans (hb812.mono hbr.size)).mono hb7.size)).mono hb6.size)
          have h14 : RHs w12 w12.heap.size A14 tp := lift14 hbr hb812 hb7 HR14.out
          have h712 : RHs w12 w12.heap.size A7 own := (H7.out.below hbA).more hbA.size
          have HBA := Lib.hid (HBW.out.trans (hbA.mono HBW.out.size))
          have H14 := Lib.hid h14; have H712 := Lib.hid h712; clear h14 h712
          clear hbA hb812 hb811 hb810 hb89 hb12 hb11 hb10 hb9 hb8 hbr hb7 hb6 HR14 HR16 HR23 HR24 H18 H19 HC2 HC3 H7 HBW
          refine wp_loop_ghost (fun gk fr wr => ∃ j : Nat, gk = own.length - j ∧ j ≤ own.length ∧ Fact.Fr 176 fr ∧ fr.tmps[2]? = some (.int .u8 n) ∧ fr.tmps[7]? = some (.slice A7 own.length c7) ∧ fr.tmps[14]? = some (.slice A14 tp.length c14) ∧ fr.tmps[25]? = some (.int .i64 j) ∧ Below w12.heap.size w12 wr) (own.length) ?_ ?_
          · skip
            exact ⟨0, rfl, Nat.zero_le _, hf, s2, s7, s14, s25, Below.refl _ _⟩
          · skip
            clear hf s2 s7 s14 s25
            rintro gk fr wr ⟨j, hk, hj, hf, s2, s7, s14, s25, hbr⟩
            have HK6 := Lib.hid hk; clear hk
            by_cases hlt : j < own.length
            · skip
              have hji : (j : Int) < (own.length : Int) := by omega
              refine wp_seq_k (fun K19 hK19 => ?_)
              refine wp_seq_k (fun K20 hK20 => ?_)
              refine Fact.region ?_
              have b152 := hf.lt (t := 152) (by decide)
              have b153 := hf.lt (t := 153) (by decide)
              have b154 := hf.lt (t := 154) (by decide)
              refine Fact.op_plain rfl (fun K hK => ?_)
              go_simp
              refine hK.out _ _ ?_; clear hK K
              refine Fact.op_plain rfl (fun K hK => ?_)
              go_simp
              refine hK.out _ _ ?_; clear hK K
              refine Fact.op_plain rfl (fun K hK => ?_)
              go_simp
              refine hK.out _ _ ?_; clear hK K
              refine Fact.op_plain rfl (fun K hK => ?_)
              go_simp
              refine hK.out _ _ ?_; clear hK K
              refine Fact.nil ?_
              refine Fact.reQ (n := 176) (by simp only [Array.getElem?_setIfInBounds, Array.size_setIfInBounds, Nat.reduceEqDiff, Nat.reduceLT, Nat.reduceAdd, ite_true, ite_false, if_true, if_false, reduceIte, Act.put, hf.size]) hf.defers (fun fr1 hf1 hT => ?_)
              have n2 := hT 2; simp only [Array.getElem?_setIfInBounds, Array.size_setIfInBounds, Nat.reduceEqDiff, Nat.reduceLT, Nat.reduceAdd, ite_true, ite_false, if_true, if_false, reduceIte, Act.put] at n2; replace n2 := n2.trans s2
              have n7 := hT 7; simp only [Array.getElem?_setIfInBounds, Array.size_setIfInBounds, Nat.reduceEqDiff, Nat.reduceLT, Nat.reduceAdd, ite_true, ite_false, if_true, if_false, reduceIte, Act.put] at n7; replace n7 := n7.trans s7
              have n14 := hT 14; simp only [Array.getElem?_setIfInBounds, Array.size_setIfInBounds, Nat.reduceEqDiff, Nat.reduceLT, Nat.reduceAdd, ite_true, ite_false, if_true, if_false, reduceIte, Act.put] at n14; replace n14 := n14.trans s14
              have n25 := hT 25; simp only [Array.getElem?_setIfInBounds, Array.size_setIfInBounds, Nat.reduceEqDiff, Nat.reduceLT, Nat.reduceAdd, ite_true, ite_false, if_true, if_false, reduceIte, Act.put] at n25; replace n25 := n25.trans s25
              have n152 := hT 152; simp only [Array.getElem?_setIfInBounds, Array.size_setIfInBounds, Nat.reduceEqDiff, Nat.reduceLT, Nat.reduceAdd, ite_true, ite_false, if_true, if_false, reduceIte, Act.put, hf.size] at n152
              have n153 := hT 153; simp only [Array.getElem?_setIfInBounds, Array.size_setIfInBounds, Nat.reduceEqDiff, Nat.reduceLT, Nat.reduceAdd, ite_true, ite_false, if_true, if_false, reduceIte, Act.put, hf.size] at n153
              have n154 := hT 154; simp only [Array.getElem?_setIfInBounds, Array.size_setIfInBounds, Nat.reduceEqDiff, Nat.reduceLT, Nat.reduceAdd, ite_true, ite_false, if_true, if_false, reduceIte, Act.put, hf.size] at n154
              have n155 := hT 155; simp only [Array.getElem?_setIfInBounds, Array.size_setIfInBounds, Nat.reduceEqDiff, Nat.reduceLT, Nat.reduceAdd, ite_true, ite_false, if_true, if_false, reduceIte, Act.put, hf.size] at n155
              clear hT hf s2 s7 s14 s25 b152 b153 b154
              have s2 := n2; clear n2
              have s7 := n7; clear n7
              have s14 := n14; clear n14
              have s25 := n25; clear n25
              have s152 := n152; clear n152
              have s153 := n153; clear n153
              have s154 := n154; clear n154
              have s155 := n155; clear n155
              have hf := hf1; clear hf1
              refine Fact.then_normal ?_
              refine hK20 _ _ ?_
              refine Fact.cond_t s155 ?_
              have hrr : RHs wr wr.heap.size A7 own := (H712.out.below hbr).more hbr.size
              obtain ⟨b7, o7, rfl, hb7, t0, t1, t2, t3⟩ := hrr.at_ hlt
              obtain ⟨y, hy⟩ : ∃ y, own[j] = y := ⟨_, rfl⟩
              rw [hy] at t0 t1 t2 t3
              have hymem : y ∈ own := hy ▸ List.getElem_mem hlt
              have mk : ∀ w1 : World, Below wr.heap.size wr w1 → w1.cell? ⟨b7, o7 + j * 4, none⟩ = some (.string y.word) ∧ w1.cell? ⟨b7, o7 + j * 4 + 1, none⟩ = some (.int .u32 y.weight) ∧ w1.cell? ⟨b7, o7 + j * 4 + 2, none⟩ = some (.bool y.gone) ∧ w1.cell? ⟨b7, o7 + j * 4 + 3, none⟩ = some (.int .i64 y.dist) := fun w1 hw => by
                have k := (bcell hw).1
                exact ⟨(k _ _ hb7).trans t0, (k _ _ hb7).trans t1, (k _ _ hb7).trans t2, (k _ _ hb7).trans t3⟩
              have MK := Lib.hid mk
              have HRR := Lib.hid hrr
              have hr14 : RHs wr wr.heap.size A14 tp := (H14.out.below hbr).more hbr.size
              have HR14 := Lib.hid hr14
              clear mk hrr hr14 t0 t1 t2 t3 hy
              have hrt := rank_top HND.out hymem nn
              rw [HTO.out] at hrt
              obtain ⟨cr, hcr⟩ : ∃ cr, own.countP (lessH · y) = cr := ⟨_, rfl⟩
              obtain ⟨cm, hcm⟩ : ∃ cm, tp.countP (eqH · y) = cm := ⟨_, rfl⟩
              rw [hcr, hcm] at hrt
              have HCR := Lib.hid hcr; have HCM := Lib.hid hcm; clear hcr hcm
              have hl7 : own.length ≤ 1000000 := by omega
              by_cases hq : cr < nn
              · skip
                have hc1 : cm = 1 := hrt.1 hq
                subst hc1
                clear hrt
                refine wp_skip ?_
                refine Fact.then_normal ?_
                refine hK19 _ _ ?_
                refine wp_seq_k (fun K21 hK21 => ?_)
                refine wp_block ?_
                refine wp_seq_k (fun K22 hK22 => ?_)
                refine Stab.todo_begin (n := 176) (Stab.OkOps.of (by kernel_rfl)) (fun hok => ?_)
                apply Stab.todo_is (k := 0) (n := 176) _ hf.size hok.out rfl
                · intro fr1 w1 hh hd hk K hK
                  refine Stab.op_plain (o := _) rfl rfl ?_
                  have s7 := Stab.old_at (t := 7) hh (by kernel_rfl) s7
                  clear hd
                  go_simp
                  exact hK.out _ rfl _ _ (Below.refl _ _) rfl
                apply Stab.todo_is (k := 1) (n := 176) _ hf.size hok.out rfl
                · intro fr1 w1 hh hd hk K hK
                  refine Stab.op_plain (o := _) rfl rfl ?_
                  have s7 := Stab.old_at (t := 7) hh (by kernel_rfl) s7
                  clear hd
                  go_simp
                  exact hK.out _ rfl _ _ (Below.refl _ _) rfl
                apply Stab.todo_is (k := 2) (n := 176) _ hf.size hok.out rfl
                · intro fr1 w1 hh hd hk K hK
                  refine Stab.op_plain (o := _) rfl rfl ?_
                  have s25 := Stab.old_at (t := 25) hh (by kernel_rfl) s25
                  clear hd
                  go_simp
                  exact hK.out _ rfl _ _ (Below.refl _ _) rfl
                apply Stab.todo_is (k := 3) (n := 176) _ hf.size hok.out rfl
                · intro fr1 w1 hh hd hk K hK
                  refine Stab.op_plain (o := _) rfl rfl ?_
                  have s159 := Stab.use_is (j := 1) (m := 1) hd hk rfl [] (by kernel_rfl) rfl rfl rfl
                  have s160 := Stab.use_is (j := 2) (m := 0) hd hk rfl [] (by kernel_rfl) rfl rfl rfl
                  clear hd
                  go_simp
                  exact hK.out _ rfl _ _ (Below.refl _ _) rfl
                apply Stab.todo_is (k := 4) (n := 176) _ hf.size hok.out rfl
                · intro fr1 w1 hh hd hk K hK
                  refine Stab.op_plain (o := _) rfl rfl ?_
                  have s161 := Stab.use_is (j := 3) (m := 0) hd hk rfl [] (by kernel_rfl) rfl rfl rfl
                  clear hd
                  obtain ⟨e0, e1, e2, e3⟩ := MK.out w1 hh.ext
                  go_simp
                  exact hK.out _ rfl _ _ (Below.refl _ _) rfl
                apply Stab.todo_is (k := 5) (n := 176) _ hf.size hok.out rfl
                · intro fr1 w1 hh hd hk K hK
                  refine Stab.op_plain (o := _) rfl rfl ?_
                  have s158 := Stab.use_is (j := 0) (m := 4) hd hk rfl [] (by kernel_rfl) rfl rfl rfl
                  have s162 := Stab.use_is (j := 4) (m := 0) hd hk rfl [] (by kernel_rfl) rfl rfl rfl
                  clear hd
                  go_simp
                  go_at_call 17; refine (rank17v hl7 ((HRR.out.below hh.ext).more hh.ext.size) HCR.out).mono ?_; rintro e w2 ⟨rfl, hb⟩
                  exact hK.out _ rfl _ _ hb rfl
                apply Stab.todo_is (k := 6) (n := 176) _ hf.size hok.out rfl
                · intro fr1 w1 hh hd hk K hK
                  refine Stab.op_plain (o := _) rfl rfl ?_
                  have s2 := Stab.old_at (t := 2) hh (by kernel_rfl) s2
                  clear hd
                  go_simp
                  exact hK.out _ rfl _ _ (Below.refl _ _) rfl
                apply Stab.todo_is (k := 7) (n := 176) _ hf.size hok.out rfl
                · intro fr1 w1 hh hd hk K hK
                  refine Stab.op_plain (o := _) rfl rfl ?_
                  have s164 := Stab.use_is (j := 6) (m := 0) hd hk rfl [] (by kernel_rfl) rfl rfl rfl
                  clear hd
                  go_simp
                  exact hK.out _ rfl _ _ (Below.refl _ _) rfl
                apply Stab.todo_is (k := 8) (n := 176) _ hf.size hok.out rfl
                · intro fr1 w1 hh hd hk K hK
                  refine Stab.op_plain (o := _) rfl rfl ?_
                  have s165 := Stab.use_is (j := 7) (m := 0) hd hk rfl [] (by kernel_rfl) rfl rfl rfl
                  clear hd
                  go_simp
                  exact hK.out _ rfl _ _ (Below.refl _ _) rfl
                apply Stab.todo_is (k := 9) (n := 176) _ hf.size hok.out rfl
                · intro fr1 w1 hh hd hk K hK
                  refine Stab.op_plain (o := _) rfl rfl ?_
                  have s163 := Stab.use_is (j := 5) (m := 3) hd hk rfl [] (by kernel_rfl) rfl rfl rfl
                  have s166 := Stab.use_is (j := 8) (m := 0) hd hk rfl [] (by kernel_rfl) rfl rfl rfl
                  clear hd
                  go_simp
                  exact hK.out _ rfl _ _ (Below.refl _ _) rfl
                apply Stab.todo_is (k := 10) (n := 176) _ hf.size hok.out rfl
                · intro fr1 w1 hh hd hk K hK
                  refine Stab.op_plain (o := _) rfl rfl ?_
                  have s14 := Stab.old_at (t := 14) hh (by kernel_rfl) s14
                  clear hd
                  go_simp
                  exact hK.out _ rfl _ _ (Below.refl _ _) rfl
                apply Stab.todo_is (k := 11) (n := 176) _ hf.size hok.out rfl
                · intro fr1 w1 hh hd hk K hK
                  refine Stab.op_plain (o := _) rfl rfl ?_
                  have s7 := Stab.old_at (t := 7) hh (by kernel_rfl) s7
                  clear hd
                  go_simp
                  exact hK.out _ rfl _ _ (Below.refl _ _) rfl
                apply Stab.todo_is (k := 12) (n := 176) _ hf.size hok.out rfl
                · intro fr1 w1 hh hd hk K hK
                  refine Stab.op_plain (o := _) rfl rfl ?_
                  have s25 := Stab.old_at (t := 25) hh (by kernel_rfl) s25
                  clear hd
                  go_simp
                  exact hK.out _ rfl _ _ (Below.refl _ _) rfl
                apply Stab.todo_is (k := 13) (n := 176) _ hf.size hok.out rfl
                · intro fr1 w1 hh hd hk K hK
                  refine Stab.op_plain (o := _) rfl rfl ?_
                  have s169 := Stab.use_is (j := 11) (m := 1) hd hk rfl [] (by kernel_rfl) rfl rfl rfl
                  have s170 := Stab.use_is (j := 12) (m := 0) hd hk rfl [] (by kernel_rfl) rfl rfl rfl
                  clear hd
                  go_simp
                  exact hK.out _ rfl _ _ (Below.refl _ _) rfl
                apply Stab.todo_is (k := 14) (n := 176) _ hf.size hok.out rfl
                · intro fr1 w1 hh hd hk K hK
                  refine Stab.op_plain (o := _) rfl rfl ?_
                  have s171 := Stab.use_is (j := 13) (m := 0) hd hk rfl [] (by kernel_rfl) rfl rfl rfl
                  clear hd
                  obtain ⟨e0, e1, e2, e3⟩ := MK.out w1 hh.ext
                  go_simp
                  exact hK.out _ rfl _ _ (Below.refl _ _) rfl
                apply Stab.todo_is (k := 15) (n := 176) _ hf.size hok.out rfl
                · intro fr1 w1 hh hd hk K hK
                  refine Stab.op_plain (o := _) rfl rfl ?_
                  have s168 := Stab.use_is (j := 10) (m := 4) hd hk rfl [] (by kernel_rfl) rfl rfl rfl
                  have s172 := Stab.use_is (j := 14) (m := 0) hd hk rfl [] (by kernel_rfl) rfl rfl rfl
                  clear hd
                  go_simp
                  go_at_call 12; refine (many12v HTL.out ((HR14.out.below hh.ext).more hh.ext.size) HCM.out).mono ?_; rintro e w2 ⟨rfl, hb⟩
                  exact hK.out _ rfl _ _ hb rfl
                apply Stab.todo_is (k := 16) (n := 176) _ hf.size hok.out rfl
                · intro fr1 w1 hh hd hk K hK
                  refine Stab.op_plain (o := _) rfl rfl ?_
                  have s173 := Stab.use_is (j := 15) (m := 0) hd hk rfl [] (by kernel_rfl) rfl rfl rfl
                  clear hd
                  go_simp
                  exact hK.out _ rfl _ _ (Below.refl _ _) rfl
                apply Stab.todo_is (k := 17) (n := 176) _ hf.size hok.out rfl
                · intro fr1 w1 hh hd hk K hK
                  refine Stab.op_plain (o := _) rfl rfl ?_
                  have s167 := Stab.use_is (j := 9) (m := 7) hd hk rfl [] (by kernel_rfl) rfl rfl rfl
                  have s174 := Stab.use_is (j := 16) (m := 0) hd hk rfl [] (by kernel_rfl) rfl rfl rfl
                  clear hd
                  go_simp
                  exact hK.out _ rfl _ _ (Below.refl _ _) rfl
                refine Stab.todo_facts (n := 176) (by kernel_rfl) hf.size hok.out rfl (fun fr1 w1 hh hg => ?_)
                have n2 := Stab.old_at (t := 2) hh (by kernel_rfl) s2
                have n7 := Stab.old_at (t := 7) hh (by kernel_rfl) s7
                have n14 := Stab.old_at (t := 14) hh (by kernel_rfl) s14
                have n25 := Stab.old_at (t := 25) hh (by kernel_rfl) s25
                have n152 := Stab.old_at (t := 152) hh (by kernel_rfl) s152
                have n153 := Stab.old_at (t := 153) hh (by kernel_rfl) s153
                have n154 := Stab.old_at (t := 154) hh (by kernel_rfl) s154
                have n155 := Stab.old_at (t := 155) hh (by kernel_rfl) s155
                have n158 := Stab.end_is (j := 0) (m := 17) hg rfl rfl rfl rfl
                have n159 := Stab.end_is (j := 1) (m := 16) hg rfl rfl rfl rfl
                have n160 := Stab.end_is (j := 2) (m := 15) hg rfl rfl rfl rfl
                have n161 := Stab.end_is (j := 3) (m := 14) hg rfl rfl rfl rfl
                have n162 := Stab.end_is (j := 4) (m := 13) hg rfl rfl rfl rfl
                have n163 := Stab.end_is (j := 5) (m := 12) hg rfl rfl rfl rfl
                have n164 := Stab.end_is (j := 6) (m := 11) hg rfl rfl rfl rfl
                have n165 := Stab.end_is (j := 7) (m := 10) hg rfl rfl rfl rfl
                have n166 := Stab.end_is (j := 8) (m := 9) hg rfl rfl rfl rfl
                have n167 := Stab.end_is (j := 9) (m := 8) hg rfl rfl rfl rfl
                have n168 := Stab.end_is (j := 10) (m := 7) hg rfl rfl rfl rfl
                have n169 := Stab.end_is (j := 11) (m := 6) hg rfl rfl rfl rfl
                have n170 := Stab.end_is (j := 12) (m := 5) hg rfl rfl rfl rfl
                have n171 := Stab.end_is (j := 13) (m := 4) hg rfl rfl rfl rfl
                have n172 := Stab.end_is (j := 14) (m := 3) hg rfl rfl rfl rfl
                have n173 := Stab.end_is (j := 15) (m := 2) hg rfl rfl rfl rfl
                have n174 := Stab.end_is (j := 16) (m := 1) hg rfl rfl rfl rfl
                have n175 := Stab.end_is (j := 17) (m := 0) hg rfl rfl rfl rfl
                have hf1 : Fact.Fr 176 fr1 := ⟨hh.size.trans hf.size, hh.defers.trans hf.defers⟩
                have hx := hh.ext
                clear hg hh hf hok s2 s7 s14 s25 s152 s153 s154 s155
                have s2 := n2; clear n2
                have s7 := n7; clear n7
                have s14 := n14; clear n14
                have s25 := n25; clear n25
                have s152 := n152; clear n152
                have s153 := n153; clear n153
                have s154 := n154; clear n154
                have s155 := n155; clear n155
                have s158 := n158; clear n158
                have s159 := n159; clear n159
                have s160 := n160; clear n160
                have s161 := n161; clear n161
                have s162 := n162; clear n162
                have s163 := n163; clear n163
                have s164 := n164; clear n164
                have s165 := n165; clear n165
                have s166 := n166; clear n166
                have s167 := n167; clear n167
                have s168 := n168; clear n168
                have s169 := n169; clear n169
                have s170 := n170; clear n170
                have s171 := n171; clear n171
                have s172 := n172; clear n172
                have s173 := n173; clear n173
                have s174 := n174; clear n174
                have s175 := n175; clear n175
                have hf := hf1; clear hf1
                refine Fact.then_normal ?_
                refine hK22 _ _ ?_
                refine Fact.cond_f s175 ?_
                refine wp_skip ?_
                refine Fact.block_normal ?_
                refine Fact.then_normal ?_
                refine hK21 _ _ ?_
                refine Fact.region ?_
                have b156 := hf.lt (t := 156) (by decide)
                have b157 := hf.lt (t := 157) (by decide)
                refine Fact.op_plain rfl (fun K hK => ?_)
                go_simp
                refine hK.out _ _ ?_; clear hK K
                refine Fact.op_plain rfl (fun K hK => ?_)
                go_simp
                try simp (disch := omega) only [Fact.wrap_i64, Fact.wrap_u8, Fact.wrap_u32, Fact.wrap_u64]
                refine hK.out _ _ ?_; clear hK K
                refine Fact.op_plain rfl (fun K hK => ?_)
                go_simp
                refine hK.out _ _ ?_; clear hK K
                refine Fact.nil ?_
                refine Fact.reQ (n := 176) (by simp only [Array.getElem?_setIfInBounds, Array.size_setIfInBounds, Nat.reduceEqDiff, Nat.reduceLT, Nat.reduceAdd, ite_true, ite_false, if_true, if_false, reduceIte, Act.put, hf.size]) hf.defers (fun fr1 hf1 hT => ?_)
                have n2 := hT 2; simp only [Array.getElem?_setIfInBounds, Array.size_setIfInBounds, Nat.reduceEqDiff, Nat.reduceLT, Nat.reduceAdd, ite_true, ite_false, if_true, if_false, reduceIte, Act.put] at n2; replace n2 := n2.trans s2
                have n7 := hT 7; simp only [Array.getElem?_setIfInBounds, Array.size_setIfInBounds, Nat.reduceEqDiff, Nat.reduceLT, Nat.reduceAdd, ite_true, ite_false, if_true, if_false, reduceIte, Act.put] at n7; replace n7 := n7.trans s7
                have n14 := hT 14; simp only [Array.getElem?_setIfInBounds, Array.size_setIfInBounds, Nat.reduceEqDiff, Nat.reduceLT, Nat.reduceAdd, ite_true, ite_false, if_true, if_false, reduceIte, Act.put] at n14; replace n14 := n14.trans s14
                have n25 := hT 25; simp only [Array.getElem?_setIfInBounds, Array.size_setIfInBounds, Nat.reduceEqDiff, Nat.reduceLT, Nat.reduceAdd, ite_true, ite_false, if_true, if_false, reduceIte, Act.put, hf.size] at n25
                have n152 := hT 152; simp only [Array.getElem?_setIfInBounds, Array.size_setIfInBounds, Nat.reduceEqDiff, Nat.reduceLT, Nat.reduceAdd, ite_true, ite_false, if_true, if_false, reduceIte, Act.put] at n152; replace n152 := n152.trans s152
                have n153 := hT 153; simp only [Array.getElem?_setIfInBounds, Array.size_setIfInBounds, Nat.reduceEqDiff, Nat.reduceLT, Nat.reduceAdd, ite_true, ite_false, if_true, if_false, reduceIte, Act.put] at n153; replace n153 := n153.trans s153
                have n154 := hT 154; simp only [Array.getElem?_setIfInBounds, Array.size_setIfInBounds, Nat.reduceEqDiff, Nat.reduceLT, Nat.reduceAdd, ite_true, ite_false, if_true, if_false, reduceIte, Act.put] at n154; replace n154 := n154.trans s154
                have n155 := hT 155; simp only [Array.getElem?_setIfInBounds, Array.size_setIfInBounds, Nat.reduceEqDiff, Nat.reduceLT, Nat.reduceAdd, ite_true, ite_false, if_true, if_false, reduceIte, Act.put] at n155; replace n155 := n155.trans s155
                have n156 := hT 156; simp only [Array.getElem?_setIfInBounds, Array.size_setIfInBounds, Nat.reduceEqDiff, Nat.reduceLT, Nat.reduceAdd, ite_true, ite_false, if_true, if_false, reduceIte, Act.put, hf.size] at n156
                have n157 := hT 157; simp only [Array.getElem?_setIfInBounds, Array.size_setIfInBounds, Nat.reduceEqDiff, Nat.reduceLT, Nat.reduceAdd, ite_true, ite_false, if_true, if_false, reduceIte, Act.put, hf.size] at n157
                have n158 := hT 158; simp only [Array.getElem?_setIfInBounds, Array.size_setIfInBounds, Nat.reduceEqDiff, Nat.reduceLT, Nat.reduceAdd, ite_true, ite_false, if_true, if_false, reduceIte, Act.put] at n158; replace n158 := n158.trans s158
                have n159 := hT 159; simp only [Array.getElem?_setIfInBounds, Array.size_setIfInBounds, Nat.reduceEqDiff, Nat.reduceLT, Nat.reduceAdd, ite_true, ite_false, if_true, if_false, reduceIte, Act.put] at n159; replace n159 := n159.trans s159
                have n160 := hT 160; simp only [Array.getElem?_setIfInBounds, Array.size_setIfInBounds, Nat.reduceEqDiff, Nat.reduceLT, Nat.reduceAdd, ite_true, ite_false, if_true, if_false, reduceIte, Act.put] at n160; replace n160 := n160.trans s160
                have n161 := hT 161; simp only [Array.getElem?_setIfInBounds, Array.size_setIfInBounds, Nat.reduceEqDiff, Nat.reduceLT, Nat.reduceAdd, ite_true, ite_false, if_true, if_false, reduceIte, Act.put] at n161; replace n161 := n161.trans s161
                have n162 := hT 162; simp only [Array.getElem?_setIfInBounds, Array.size_setIfInBounds, Nat.reduceEqDiff, Nat.reduceLT, Nat.reduceAdd, ite_true, ite_false, if_true, if_false, reduceIte, Act.put] at n162; replace n162 := n162.trans s162
                have n163 := hT 163; simp only [Array.getElem?_setIfInBounds, Array.size_setIfInBounds, Nat.reduceEqDiff, Nat.reduceLT, Nat.reduceAdd, ite_true, ite_false, if_true, if_false, reduceIte, Act.put] at n163; replace n163 := n163.trans s163
                have n164 := hT 164; simp only [Array.getElem?_setIfInBounds, Array.size_setIfInBounds, Nat.reduceEqDiff, Nat.reduceLT, Nat.reduceAdd, ite_true, ite_false, if_true, if_false, reduceIte, Act.put] at n164; replace n164 := n164.trans s164
                have n165 := hT 165; simp only [Array.getElem?_setIfInBounds, Array.size_setIfInBounds, Nat.reduceEqDiff, Nat.reduceLT, Nat.reduceAdd, ite_true, ite_false, if_true, if_false, reduceIte, Act.put] at n165; replace n165 := n165.trans s165
                have n166 := hT 166; simp only [Array.getElem?_setIfInBounds, Array.size_setIfInBounds, Nat.reduceEqDiff, Nat.reduceLT, Nat.reduceAdd, ite_true, ite_false, if_true, if_false, reduceIte, Act.put] at n166; replace n166 := n166.trans s166
                have n167 := hT 167; simp only [Array.getElem?_setIfInBounds, Array.size_setIfInBounds, Nat.reduceEqDiff, Nat.reduceLT, Nat.reduceAdd, ite_true, ite_false, if_true, if_false, reduceIte, Act.put] at n167; replace n167 := n167.trans s167
                have n168 := hT 168; simp only [Array.getElem?_setIfInBounds, Array.size_setIfInBounds, Nat.reduceEqDiff, Nat.reduceLT, Nat.reduceAdd, ite_true, ite_false, if_true, if_false, reduceIte, Act.put] at n168; replace n168 := n168.trans s168
                have n169 := hT 169; simp only [Array.getElem?_setIfInBounds, Array.size_setIfInBounds, Nat.reduceEqDiff, Nat.reduceLT, Nat.reduceAdd, ite_true, ite_false, if_true, if_false, reduceIte, Act.put] at n169; replace n169 := n169.trans s169
                have n170 := hT 170; simp only [Array.getElem?_setIfInBounds, Array.size_setIfInBounds, Nat.reduceEqDiff, Nat.reduceLT, Nat.reduceAdd, ite_true, ite_false, if_true, if_false, reduceIte, Act.put] at n170; replace n170 := n170.trans s170
                have n171 := hT 171; simp only [Array.getElem?_setIfInBounds, Array.size_setIfInBounds, Nat.reduceEqDiff, Nat.reduceLT, Nat.reduceAdd, ite_true, ite_false, if_true, if_false, reduceIte, Act.put] at n171; replace n171 := n171.trans s171
                have n172 := hT 172; simp only [Array.getElem?_setIfInBounds, Array.size_setIfInBounds, Nat.reduceEqDiff, Nat.reduceLT, Nat.reduceAdd, ite_true, ite_false, if_true, if_false, reduceIte, Act.put] at n172; replace n172 := n172.trans s172
                have n173 := hT 173; simp only [Array.getElem?_setIfInBounds, Array.size_setIfInBounds, Nat.reduceEqDiff, Nat.reduceLT, Nat.reduceAdd, ite_true, ite_false, if_true, if_false, reduceIte, Act.put] at n173; replace n173 := n173.trans s173
                have n174 := hT 174; simp only [Array.getElem?_setIfInBounds, Array.size_setIfInBounds, Nat.reduceEqDiff, Nat.reduceLT, Nat.reduceAdd, ite_true, ite_false, if_true, if_false, reduceIte, Act.put] at n174; replace n174 := n174.trans s174
                have n175 := hT 175; simp only [Array.getElem?_setIfInBounds, Array.size_setIfInBounds, Nat.reduceEqDiff, Nat.reduceLT, Nat.reduceAdd, ite_true, ite_false, if_true, if_false, reduceIte, Act.put] at n175; replace n175 := n175.trans s175
                clear hT hf s2 s7 s14 s25 s152 s153 s154 s155 s158 s159 s160 s161 s162 s163 s164 s165 s166 s167 s168 s169 s170 s171 s172 s173 s174 s175 b156 b157
                have s2 := n2; clear n2
                have s7 := n7; clear n7
                have s14 := n14; clear n14
                have s25 := n25; clear n25
                have s152 := n152; clear n152
                have s153 := n153; clear n153
                have s154 := n154; clear n154
                have s155 := n155; clear n155
                have s156 := n156; clear n156
                have s157 := n157; clear n157
                have s158 := n158; clear n158
                have s159 := n159; clear n159
                have s160 := n160; clear n160
                have s161 := n161; clear n161
                have s162 := n162; clear n162
                have s163 := n163; clear n163
                have s164 := n164; clear n164
                have s165 := n165; clear n165
                have s166 := n166; clear n166
                have s167 := n167; clear n167
                have s168 := n168; clear n168
                have s169 := n169; clear n169
                have s170 := n170; clear n170
                have s171 := n171; clear n171
                have s172 := n172; clear n172
                have s173 := n173; clear n173
                have s174 := n174; clear n174
                have s175 := n175; clear n175
                have hf := hf1; clear hf1
                refine Fact.then_normal ?_
                exact ⟨own.length - (j + 1), by rw [HK6.out]; omega, j + 1, rfl, by omega, hf, s2, s7, s14, by rw [s25]; go_num, hbr.trans (hx.mono (Nat.le_refl _) |>.mono hbr.size)⟩
              · skip
                have hc1 : ((cm : Int) == 1) = false := by have : cm ≠ 1 := fun e => hq (hrt.2 e); simpa using (by omega : (cm : Int) ≠ 1)
                clear hrt
                refine wp_skip ?_
                refine Fact.then_normal ?_
                refine hK19 _ _ ?_
                refine wp_seq_k (fun K23 hK23 => ?_)
                refine wp_block ?_
                refine wp_seq_k (fun K24 hK24 => ?_)
                refine Stab.todo_begin (n := 176) (Stab.OkOps.of (by kernel_rfl)) (fun hok => ?_)
                apply Stab.todo_is (k := 0) (n := 176) _ hf.size hok.out rfl
                · intro fr1 w1 hh hd hk K hK
                  refine Stab.op_plain (o := _) rfl rfl ?_
                  have s7 := Stab.old_at (t := 7) hh (by kernel_rfl) s7
                  clear hd
                  go_simp
                  exact hK.out _ rfl _ _ (Below.refl _ _) rfl
                apply Stab.todo_is (k := 1) (n := 176) _ hf.size hok.out rfl
                · intro fr1 w1 hh hd hk K hK
                  refine Stab.op_plain (o := _) rfl rfl ?_
                  have s7 := Stab.old_at (t := 7) hh (by kernel_rfl) s7
                  clear hd
                  go_simp
                  exact hK.out _ rfl _ _ (Below.refl _ _) rfl
                apply Stab.todo_is (k := 2) (n := 176) _ hf.size hok.out rfl
                · intro fr1 w1 hh hd hk K hK
                  refine Stab.op_plain (o := _) rfl rfl ?_
                  have s25 := Stab.old_at (t := 25) hh (by kernel_rfl) s25
                  clear hd
                  go_simp
                  exact hK.out _ rfl _ _ (Below.refl _ _) rfl
                apply Stab.todo_is (k := 3) (n := 176) _ hf.size hok.out rfl
                · intro fr1 w1 hh hd hk K hK
                  refine Stab.op_plain (o := _) rfl rfl ?_
                  have s159 := Stab.use_is (j := 1) (m := 1) hd hk rfl [] (by kernel_rfl) rfl rfl rfl
                  have s160 := Stab.use_is (j := 2) (m := 0) hd hk rfl [] (by kernel_rfl) rfl rfl rfl
                  clear hd
                  go_simp
                  exact hK.out _ rfl _ _ (Below.refl _ _) rfl
                apply Stab.todo_is (k := 4) (n := 176) _ hf.size hok.out rfl
                · intro fr1 w1 hh hd hk K hK
                  refine Stab.op_plain (o := _) rfl rfl ?_
                  have s161 := Stab.use_is (j := 3) (m := 0) hd hk rfl [] (by kernel_rfl) rfl rfl rfl
                  clear hd
                  obtain ⟨e0, e1, e2, e3⟩ := MK.out w1 hh.ext
                  go_simp
                  exact hK.out _ rfl _ _ (Below.refl _ _) rfl
                apply Stab.todo_is (k := 5) (n := 176) _ hf.size hok.out rfl
                · intro fr1 w1 hh hd hk K hK
                  refine Stab.op_plain (o := _) rfl rfl ?_
                  have s158 := Stab.use_is (j := 0) (m := 4) hd hk rfl [] (by kernel_rfl) rfl rfl rfl
                  have s162 := Stab.use_is (j := 4) (m := 0) hd hk rfl [] (by kernel_rfl) rfl rfl rfl
                  clear hd
                  go_simp
                  go_at_call 17; refine (rank17v hl7 ((HRR.out.below hh.ext).more hh.ext.size) HCR.out).mono ?_; rintro e w2 ⟨rfl, hb⟩
                  exact hK.out _ rfl _ _ hb rfl
                apply Stab.todo_is (k := 6) (n := 176) _ hf.size hok.out rfl
                · intro fr1 w1 hh hd hk K hK
                  refine Stab.op_plain (o := _) rfl rfl ?_
                  have s2 := Stab.old_at (t := 2) hh (by kernel_rfl) s2
                  clear hd
                  go_simp
                  exact hK.out _ rfl _ _ (Below.refl _ _) rfl
                apply Stab.todo_is (k := 7) (n := 176) _ hf.size hok.out rfl
                · intro fr1 w1 hh hd hk K hK
                  refine Stab.op_plain (o := _) rfl rfl ?_
                  have s164 := Stab.use_is (j := 6) (m := 0) hd hk rfl [] (by kernel_rfl) rfl rfl rfl
                  clear hd
                  go_simp
                  exact hK.out _ rfl _ _ (Below.refl _ _) rfl
                apply Stab.todo_is (k := 8) (n := 176) _ hf.size hok.out rfl
                · intro fr1 w1 hh hd hk K hK
                  refine Stab.op_plain (o := _) rfl rfl ?_
                  have s165 := Stab.use_is (j := 7) (m := 0) hd hk rfl [] (by kernel_rfl) rfl rfl rfl
                  clear hd
                  go_simp
                  exact hK.out _ rfl _ _ (Below.refl _ _) rfl
                apply Stab.todo_is (k := 9) (n := 176) _ hf.size hok.out rfl
                · intro fr1 w1 hh hd hk K hK
                  refine Stab.op_plain (o := _) rfl rfl ?_
                  have s163 := Stab.use_is (j := 5) (m := 3) hd hk rfl [] (by kernel_rfl) rfl rfl rfl
                  have s166 := Stab.use_is (j := 8) (m := 0) hd hk rfl [] (by kernel_rfl) rfl rfl rfl
                  clear hd
                  go_simp
                  exact hK.out _ rfl _ _ (Below.refl _ _) rfl
                apply Stab.todo_is (k := 10) (n := 176) _ hf.size hok.out rfl
                · intro fr1 w1 hh hd hk K hK
                  refine Stab.op_plain (o := _) rfl rfl ?_
                  have s14 := Stab.old_at (t := 14) hh (by kernel_rfl) s14
                  clear hd
                  go_simp
                  exact hK.out _ rfl _ _ (Below.refl _ _) rfl
                apply Stab.todo_is (k := 11) (n := 176) _ hf.size hok.out rfl
                · intro fr1 w1 hh hd hk K hK
                  refine Stab.op_plain (o := _) rfl rfl ?_
                  have s7 := Stab.old_at (t := 7) hh (by kernel_rfl) s7
                  clear hd
                  go_simp
                  exact hK.out _ rfl _ _ (Below.refl _ _) rfl
                apply Stab.todo_is (k := 12) (n := 176) _ hf.size hok.out rfl
                · intro fr1 w1 hh hd hk K hK
                  refine Stab.op_plain (o := _) rfl rfl ?_
                  have s25 := Stab.old_at (t := 25) hh (by kernel_rfl) s25
                  clear hd
                  go_simp
                  exact hK.out _ rfl _ _ (Below.refl _ _) rfl
                apply Stab.todo_is (k := 13) (n := 176) _ hf.size hok.out rfl
                · intro fr1 w1 hh hd hk K hK
                  refine Stab.op_plain (o := _) rfl rfl ?_
                  have s169 := Stab.use_is (j := 11) (m := 1) hd hk rfl [] (by kernel_rfl) rfl rfl rfl
                  have s170 := Stab.use_is (j := 12) (m := 0) hd hk rfl [] (by kernel_rfl) rfl rfl rfl
                  clear hd
                  go_simp
                  exact hK.out _ rfl _ _ (Below.refl _ _) rfl
                apply Stab.todo_is (k := 14) (n := 176) _ hf.size hok.out rfl
                · intro fr1 w1 hh hd hk K hK
                  refine Stab.op_plain (o := _) rfl rfl ?_
                  have s171 := Stab.use_is (j := 13) (m := 0) hd hk rfl [] (by kernel_rfl) rfl rfl rfl
                  clear hd
                  obtain ⟨e0, e1, e2, e3⟩ := MK.out w1 hh.ext
                  go_simp
                  exact hK.out _ rfl _ _ (Below.refl _ _) rfl
                apply Stab.todo_is (k := 15) (n := 176) _ hf.size hok.out rfl
                · intro fr1 w1 hh hd hk K hK
                  refine Stab.op_plain (o := _) rfl rfl ?_
                  have s168 := Stab.use_is (j := 10) (m := 4) hd hk rfl [] (by kernel_rfl) rfl rfl rfl
                  have s172 := Stab.use_is (j := 14) (m := 0) hd hk rfl [] (by kernel_rfl) rfl rfl rfl
                  clear hd
                  go_simp
                  go_at_call 12; refine (many12v HTL.out ((HR14.out.below hh.ext).more hh.ext.size) HCM.out).mono ?_; rintro e w2 ⟨rfl, hb⟩
                  exact hK.out _ rfl _ _ hb rfl
                apply Stab.todo_is (k := 16) (n := 176) _ hf.size hok.out rfl
                · intro fr1 w1 hh hd hk K hK
                  refine Stab.op_plain (o := _) rfl rfl ?_
                  have s173 := Stab.use_is (j := 15) (m := 0) hd hk rfl [] (by kernel_rfl) rfl rfl rfl
                  clear hd
                  go_simp
                  exact hK.out _ rfl _ _ (Below.refl _ _) rfl
                apply Stab.todo_is (k := 17) (n := 176) _ hf.size hok.out rfl
                · intro fr1 w1 hh hd hk K hK
                  refine Stab.op_plain (o := _) rfl rfl ?_
                  have s167 := Stab.use_is (j := 9) (m := 7) hd hk rfl [] (by kernel_rfl) rfl rfl rfl
                  have s174 := Stab.use_is (j := 16) (m := 0) hd hk rfl [] (by kernel_rfl) rfl rfl rfl
                  clear hd
                  go_simp
                  exact hK.out _ rfl _ _ (Below.refl _ _) rfl
                refine Stab.todo_facts (n := 176) (by kernel_rfl) hf.size hok.out rfl (fun fr1 w1 hh hg => ?_)
                have n2 := Stab.old_at (t := 2) hh (by kernel_rfl) s2
                have n7 := Stab.old_at (t := 7) hh (by kernel_rfl) s7
                have n14 := Stab.old_at (t := 14) hh (by kernel_rfl) s14
                have n25 := Stab.old_at (t := 25) hh (by kernel_rfl) s25
                have n152 := Stab.old_at (t := 152) hh (by kernel_rfl) s152
                have n153 := Stab.old_at (t := 153) hh (by kernel_rfl) s153
                have n154 := Stab.old_at (t := 154) hh (by kernel_rfl) s154
                have n155 := Stab.old_at (t := 155) hh (by kernel_rfl) s155
                have n158 := Stab.end_is (j := 0) (m := 17) hg rfl rfl rfl rfl
                have n159 := Stab.end_is (j := 1) (m := 16) hg rfl rfl rfl rfl
                have n160 := Stab.end_is (j := 2) (m := 15) hg rfl rfl rfl rfl
                have n161 := Stab.end_is (j := 3) (m := 14) hg rfl rfl rfl rfl
                have n162 := Stab.end_is (j := 4) (m := 13) hg rfl rfl rfl rfl
                have n163 := Stab.end_is (j := 5) (m := 12) hg rfl rfl rfl rfl
                have n164 := Stab.end_is (j := 6) (m := 11) hg rfl rfl rfl rfl
                have n165 := Stab.end_is (j := 7) (m := 10) hg rfl rfl rfl rfl
                have n166 := Stab.end_is (j := 8) (m := 9) hg rfl rfl rfl rfl
                have n167 := Stab.end_is (j := 9) (m := 8) hg rfl rfl rfl rfl
                have n168 := Stab.end_is (j := 10) (m := 7) hg rfl rfl rfl rfl
                have n169 := Stab.end_is (j := 11) (m := 6) hg rfl rfl rfl rfl
                have n170 := Stab.end_is (j := 12) (m := 5) hg rfl rfl rfl rfl
                have n171 := Stab.end_is (j := 13) (m := 4) hg rfl rfl rfl rfl
                have n172 := Stab.end_is (j := 14) (m := 3) hg rfl rfl rfl rfl
                have n173 := Stab.end_is (j := 15) (m := 2) hg rfl rfl rfl rfl
                have n174 := Stab.end_is (j := 16) (m := 1) hg rfl rfl rfl rfl
                have n175 := Stab.end_is (j := 17) (m := 0) hg rfl rfl rfl rfl
                have hf1 : Fact.Fr 176 fr1 := ⟨hh.size.trans hf.size, hh.defers.trans hf.defers⟩
                have hx := hh.ext
                clear hg hh hf hok s2 s7 s14 s25 s152 s153 s154 s155
                have s2 := n2; clear n2
                have s7 := n7; clear n7
                have s14 := n14; clear n14
                have s25 := n25; clear n25
                have s152 := n152; clear n152
                have s153 := n153; clear n153
                have s154 := n154; clear n154
                have s155 := n155; clear n155
                have s158 := n158; clear n158
                have s159 := n159; clear n159
                have s160 := n160; clear n160
                have s161 := n161; clear n161
                have s162 := n162; clear n162
                have s163 := n163; clear n163
                have s164 := n164; clear n164
                have s165 := n165; clear n165
                have s166 := n166; clear n166
                have s167 := n167; clear n167
                have s168 := n168; clear n168
                have s169 := n169; clear n169
                have s170 := n170; clear n170
                have s171 := n171; clear n171
                have s172 := n172; clear n172
                have s173 := n173; clear n173
                have s174 := n174; clear n174
                have s175 := n175; clear n175
                have hf := hf1; clear hf1
                refine Fact.then_normal ?_
                refine hK24 _ _ ?_
                refine Fact.cond_f s175 ?_
                refine wp_skip ?_
                refine Fact.block_normal ?_
                refine Fact.then_normal ?_
                refine hK23 _ _ ?_
                refine Fact.region ?_
                have b156 := hf.lt (t := 156) (by decide)
                have b157 := hf.lt (t := 157) (by decide)
                refine Fact.op_plain rfl (fun K hK => ?_)
                go_simp
                refine hK.out _ _ ?_; clear hK K
                refine Fact.op_plain rfl (fun K hK => ?_)
                go_simp
                try simp (disch := omega) only [Fact.wrap_i64, Fact.wrap_u8, Fact.wrap_u32, Fact.wrap_u64]
                refine hK.out _ _ ?_; clear hK K
                refine Fact.op_plain rfl (fun K hK => ?_)
                go_simp
                refine hK.out _ _ ?_; clear hK K
                refine Fact.nil ?_
                refine Fact.reQ (n := 176) (by simp only [Array.getElem?_setIfInBounds, Array.size_setIfInBounds, Nat.reduceEqDiff, Nat.reduceLT, Nat.reduceAdd, ite_true, ite_false, if_true, if_false, reduceIte, Act.put, hf.size]) hf.defers (fun fr1 hf1 hT => ?_)
                have n2 := hT 2; simp only [Array.getElem?_setIfInBounds, Array.size_setIfInBounds, Nat.reduceEqDiff, Nat.reduceLT, Nat.reduceAdd, ite_true, ite_false, if_true, if_false, reduceIte, Act.put] at n2; replace n2 := n2.trans s2
                have n7 := hT 7; simp only [Array.getElem?_setIfInBounds, Array.size_setIfInBounds, Nat.reduceEqDiff, Nat.reduceLT, Nat.reduceAdd, ite_true, ite_false, if_true, if_false, reduceIte, Act.put] at n7; replace n7 := n7.trans s7
                have n14 := hT 14; simp only [Array.getElem?_setIfInBounds, Array.size_setIfInBounds, Nat.reduceEqDiff, Nat.reduceLT, Nat.reduceAdd, ite_true, ite_false, if_true, if_false, reduceIte, Act.put] at n14; replace n14 := n14.trans s14
                have n25 := hT 25; simp only [Array.getElem?_setIfInBounds, Array.size_setIfInBounds, Nat.reduceEqDiff, Nat.reduceLT, Nat.reduceAdd, ite_true, ite_false, if_true, if_false, reduceIte, Act.put, hf.size] at n25
                have n152 := hT 152; simp only [Array.getElem?_setIfInBounds, Array.size_setIfInBounds, Nat.reduceEqDiff, Nat.reduceLT, Nat.reduceAdd, ite_true, ite_false, if_true, if_false, reduceIte, Act.put] at n152; replace n152 := n152.trans s152
                have n153 := hT 153; simp only [Array.getElem?_setIfInBounds, Array.size_setIfInBounds, Nat.reduceEqDiff, Nat.reduceLT, Nat.reduceAdd, ite_true, ite_false, if_true, if_false, reduceIte, Act.put] at n153; replace n153 := n153.trans s153
                have n154 := hT 154; simp only [Array.getElem?_setIfInBounds, Array.size_setIfInBounds, Nat.reduceEqDiff, Nat.reduceLT, Nat.reduceAdd, ite_true, ite_false, if_true, if_false, reduceIte, Act.put] at n154; replace n154 := n154.trans s154
                have n155 := hT 155; simp only [Array.getElem?_setIfInBounds, Array.size_setIfInBounds, Nat.reduceEqDiff, Nat.reduceLT, Nat.reduceAdd, ite_true, ite_false, if_true, if_false, reduceIte, Act.put] at n155; replace n155 := n155.trans s155
                have n156 := hT 156; simp only [Array.getElem?_setIfInBounds, Array.size_setIfInBounds, Nat.reduceEqDiff, Nat.reduceLT, Nat.reduceAdd, ite_true, ite_false, if_true, if_false, reduceIte, Act.put, hf.size] at n156
                have n157 := hT 157; simp only [Array.getElem?_setIfInBounds, Array.size_setIfInBounds, Nat.reduceEqDiff, Nat.reduceLT, Nat.reduceAdd, ite_true, ite_false, if_true, if_false, reduceIte, Act.put, hf.size] at n157
                have n158 := hT 158; simp only [Array.getElem?_setIfInBounds, Array.size_setIfInBounds, Nat.reduceEqDiff, Nat.reduceLT, Nat.reduceAdd, ite_true, ite_false, if_true, if_false, reduceIte, Act.put] at n158; replace n158 := n158.trans s158
                have n159 := hT 159; simp only [Array.getElem?_setIfInBounds, Array.size_setIfInBounds, Nat.reduceEqDiff, Nat.reduceLT, Nat.reduceAdd, ite_true, ite_false, if_true, if_false, reduceIte, Act.put] at n159; replace n159 := n159.trans s159
                have n160 := hT 160; simp only [Array.getElem?_setIfInBounds, Array.size_setIfInBounds, Nat.reduceEqDiff, Nat.reduceLT, Nat.reduceAdd, ite_true, ite_false, if_true, if_false, reduceIte, Act.put] at n160; replace n160 := n160.trans s160
                have n161 := hT 161; simp only [Array.getElem?_setIfInBounds, Array.size_setIfInBounds, Nat.reduceEqDiff, Nat.reduceLT, Nat.reduceAdd, ite_true, ite_false, if_true, if_false, reduceIte, Act.put] at n161; replace n161 := n161.trans s161
                have n162 := hT 162; simp only [Array.getElem?_setIfInBounds, Array.size_setIfInBounds, Nat.reduceEqDiff, Nat.reduceLT, Nat.reduceAdd, ite_true, ite_false, if_true, if_false, reduceIte, Act.put] at n162; replace n162 := n162.trans s162
                have n163 := hT 163; simp only [Array.getElem?_setIfInBounds, Array.size_setIfInBounds, Nat.reduceEqDiff, Nat.reduceLT, Nat.reduceAdd, ite_true, ite_false, if_true, if_false, reduceIte, Act.put] at n163; replace n163 := n163.trans s163
                have n164 := hT 164; simp only [Array.getElem?_setIfInBounds, Array.size_setIfInBounds, Nat.reduceEqDiff, Nat.reduceLT, Nat.reduceAdd, ite_true, ite_false, if_true, if_false, reduceIte, Act.put] at n164; replace n164 := n164.trans s164
                have n165 := hT 165; simp only [Array.getElem?_setIfInBounds, Array.size_setIfInBounds, Nat.reduceEqDiff, Nat.reduceLT, Nat.reduceAdd, ite_true, ite_false, if_true, if_false, reduceIte, Act.put] at n165; replace n165 := n165.trans s165
                have n166 := hT 166; simp only [Array.getElem?_setIfInBounds, Array.size_setIfInBounds, Nat.reduceEqDiff, Nat.reduceLT, Nat.reduceAdd, ite_true, ite_false, if_true, if_false, reduceIte, Act.put] at n166; replace n166 := n166.trans s166
                have n167 := hT 167; simp only [Array.getElem?_setIfInBounds, Array.size_setIfInBounds, Nat.reduceEqDiff, Nat.reduceLT, Nat.reduceAdd, ite_true, ite_false, if_true, if_false, reduceIte, Act.put] at n167; replace n167 := n167.trans s167
                have n168 := hT 168; simp only [Array.getElem?_setIfInBounds, Array.size_setIfInBounds, Nat.reduceEqDiff, Nat.reduceLT, Nat.reduceAdd, ite_true, ite_false, if_true, if_false, reduceIte, Act.put] at n168; replace n168 := n168.trans s168
                have n169 := hT 169; simp only [Array.getElem?_setIfInBounds, Array.size_setIfInBounds, Nat.reduceEqDiff, Nat.reduceLT, Nat.reduceAdd, ite_true, ite_false, if_true, if_false, reduceIte, Act.put] at n169; replace n169 := n169.trans s169
                have n170 := hT 170; simp only [Array.getElem?_setIfInBounds, Array.size_setIfInBounds, Nat.reduceEqDiff, Nat.reduceLT, Nat.reduceAdd, ite_true, ite_false, if_true, if_false, reduceIte, Act.put] at n170; replace n170 := n170.trans s170
                have n171 := hT 171; simp only [Array.getElem?_setIfInBounds, Array.size_setIfInBounds, Nat.reduceEqDiff, Nat.reduceLT, Nat.reduceAdd, ite_true, ite_false, if_true, if_false, reduceIte, Act.put] at n171; replace n171 := n171.trans s171
                have n172 := hT 172; simp only [Array.getElem?_setIfInBounds, Array.size_setIfInBounds, Nat.reduceEqDiff, Nat.reduceLT, Nat.reduceAdd, ite_true, ite_false, if_true, if_false, reduceIte, Act.put] at n172; replace n172 := n172.trans s172
                have n173 := hT 173; simp only [Array.getElem?_setIfInBounds, Array.size_setIfInBounds, Nat.reduceEqDiff, Nat.reduceLT, Nat.reduceAdd, ite_true, ite_false, if_true, if_false, reduceIte, Act.put] at n173; replace n173 := n173.trans s173
                have n174 := hT 174; simp only [Array.getElem?_setIfInBounds, Array.size_setIfInBounds, Nat.reduceEqDiff, Nat.reduceLT, Nat.reduceAdd, ite_true, ite_false, if_true, if_false, reduceIte, Act.put] at n174; replace n174 := n174.trans s174
                have n175 := hT 175; simp only [Array.getElem?_setIfInBounds, Array.size_setIfInBounds, Nat.reduceEqDiff, Nat.reduceLT, Nat.reduceAdd, ite_true, ite_false, if_true, if_false, reduceIte, Act.put] at n175; replace n175 := n175.trans s175
                clear hT hf s2 s7 s14 s25 s152 s153 s154 s155 s158 s159 s160 s161 s162 s163 s164 s165 s166 s167 s168 s169 s170 s171 s172 s173 s174 s175 b156 b157
                have s2 := n2; clear n2
                have s7 := n7; clear n7
                have s14 := n14; clear n14
                have s25 := n25; clear n25
                have s152 := n152; clear n152
                have s153 := n153; clear n153
                have s154 := n154; clear n154
                have s155 := n155; clear n155
                have s156 := n156; clear n156
                have s157 := n157; clear n157
                have s158 := n158; clear n158
                have s159 := n159; clear n159
                have s160 := n160; clear n160
                have s161 := n161; clear n161
                have s162 := n162; clear n162
                have s163 := n163; clear n163
                have s164 := n164; clear n164
                have s165 := n165; clear n165
                have s166 := n166; clear n166
                have s167 := n167; clear n167
                have s168 := n168; clear n168
                have s169 := n169; clear n169
                have s170 := n170; clear n170
                have s171 := n171; clear n171
                have s172 := n172; clear n172
                have s173 := n173; clear n173
                have s174 := n174; clear n174
                have s175 := n175; clear n175
                have hf := hf1; clear hf1
                refine Fact.then_normal ?_
                exact ⟨own.length - (j + 1), by rw [HK6.out]; omega, j + 1, rfl, by omega, hf, s2, s7, s14, by rw [s25]; go_num, hbr.trans (hx.mono (Nat.le_refl _) |>.mono hbr.size)⟩
            · skip
              have hji : ¬ (j : Int) < (own.length : Int) := by omega
              refine wp_seq_k (fun K25 hK25 => ?_)
              refine wp_seq_k (fun K26 hK26 => ?_)
              refine Fact.region ?_
              have b152 := hf.lt (t := 152) (by decide)
              have b153 := hf.lt (t := 153) (by decide)
              have b154 := hf.lt (t := 154) (by decide)
              refine Fact.op_plain rfl (fun K hK => ?_)
              go_simp
              refine hK.out _ _ ?_; clear hK K
              refine Fact.op_plain rfl (fun K hK => ?_)
              go_simp
              refine hK.out _ _ ?_; clear hK K
              refine Fact.op_plain rfl (fun K hK => ?_)
              go_simp
              refine hK.out _ _ ?_; clear hK K
              refine Fact.op_plain rfl (fun K hK => ?_)
              go_simp
              refine hK.out _ _ ?_; clear hK K
              refine Fact.nil ?_
              refine Fact.reQ (n := 176) (by simp only [Array.getElem?_setIfInBounds, Array.size_setIfInBounds, Nat.reduceEqDiff, Nat.reduceLT, Nat.reduceAdd, ite_true, ite_false, if_true, if_false, reduceIte, Act.put, hf.size]) hf.defers (fun fr1 hf1 hT => ?_)
              have n2 := hT 2; simp only [Array.getElem?_setIfInBounds, Array.size_setIfInBounds, Nat.reduceEqDiff, Nat.reduceLT, Nat.reduceAdd, ite_true, ite_false, if_true, if_false, reduceIte, Act.put] at n2; replace n2 := n2.trans s2
              have n7 := hT 7; simp only [Array.getElem?_setIfInBounds, Array.size_setIfInBounds, Nat.reduceEqDiff, Nat.reduceLT, Nat.reduceAdd, ite_true, ite_false, if_true, if_false, reduceIte, Act.put] at n7; replace n7 := n7.trans s7
              have n14 := hT 14; simp only [Array.getElem?_setIfInBounds, Array.size_setIfInBounds, Nat.reduceEqDiff, Nat.reduceLT, Nat.reduceAdd, ite_true, ite_false, if_true, if_false, reduceIte, Act.put] at n14; replace n14 := n14.trans s14
              have n25 := hT 25; simp only [Array.getElem?_setIfInBounds, Array.size_setIfInBounds, Nat.reduceEqDiff, Nat.reduceLT, Nat.reduceAdd, ite_true, ite_false, if_true, if_false, reduceIte, Act.put] at n25; replace n25 := n25.trans s25
              have n152 := hT 152; simp only [Array.getElem?_setIfInBounds, Array.size_setIfInBounds, Nat.reduceEqDiff, Nat.reduceLT, Nat.reduceAdd, ite_true, ite_false, if_true, if_false, reduceIte, Act.put, hf.size] at n152
              have n153 := hT 153; simp only [Array.getElem?_setIfInBounds, Array.size_setIfInBounds, Nat.reduceEqDiff, Nat.reduceLT, Nat.reduceAdd, ite_true, ite_false, if_true, if_false, reduceIte, Act.put, hf.size] at n153
              have n154 := hT 154; simp only [Array.getElem?_setIfInBounds, Array.size_setIfInBounds, Nat.reduceEqDiff, Nat.reduceLT, Nat.reduceAdd, ite_true, ite_false, if_true, if_false, reduceIte, Act.put, hf.size] at n154
              have n155 := hT 155; simp only [Array.getElem?_setIfInBounds, Array.size_setIfInBounds, Nat.reduceEqDiff, Nat.reduceLT, Nat.reduceAdd, ite_true, ite_false, if_true, if_false, reduceIte, Act.put, hf.size] at n155
              clear hT hf s2 s7 s14 s25 b152 b153 b154
              have s2 := n2; clear n2
              have s7 := n7; clear n7
              have s14 := n14; clear n14
              have s25 := n25; clear n25
              have s152 := n152; clear n152
              have s153 := n153; clear n153
              have s154 := n154; clear n154
              have s155 := n155; clear n155
              have hf := hf1; clear hf1
              refine Fact.then_normal ?_
              refine hK26 _ _ ?_
              refine Fact.cond_f s155 ?_
              refine wp_exit ?_
              refine Fact.then_exit ?_
              refine Fact.then_exit ?_
              refine Fact.block_exit ?_
              refine Fact.then_normal ?_
              refine hK17 _ _ ?_
              refine wp_seq_k (fun K27 hK27 => ?_)
              refine Fact.region ?_
              refine Fact.op_plain rfl (fun K hK => ?_)
              go_simp
              refine hK.out _ _ ?_; clear hK K
              refine Fact.nil ?_
              refine Fact.reQ (n := 176) (by simp only [Array.getElem?_setIfInBounds, Array.size_setIfInBounds, Nat.reduceEqDiff, Nat.reduceLT, Nat.reduceAdd, ite_true, ite_false, if_true, if_false, reduceIte, Act.put, hf.size]) hf.defers (fun fr1 hf1 hT => ?_)
              have n6 := hT 6; simp only [Array.getElem?_setIfInBounds, Array.size_setIfInBounds, Nat.reduceEqDiff, Nat.reduceLT, Nat.reduceAdd, ite_true, ite_false, if_true, if_false, reduceIte, Act.put, hf.size] at n6
              clear hT hf s2 s7 s14 s25 s152 s153 s154 s155
              have s6 := n6; clear n6
              have hf := hf1; clear hf1
              refine Fact.then_normal ?_
              refine hK27 _ _ ?_
              refine wp_ret ?_
              exact Fact.ret1 rfl hf s6 ⟨rfl, HBA.out.trans (hbr.mono HBA.out.size)⟩
end Go.Proofs.Ytjpgcfcacfhmiaa
