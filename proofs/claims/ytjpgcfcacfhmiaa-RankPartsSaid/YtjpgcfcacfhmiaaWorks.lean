/- The chapter's examples hold (works): the law's look at them answers true. -/
import Derived.Test.YtjpgcfcacfhmiaaLits
import Derived.Test.YtjpgcfcacfhmiaaBox4
import Derived.Test.YtjpgcfcacfhmiaaDrawn
namespace Go.Proofs.Ytjpgcfcacfhmiaa
open Go.RowKit
set_option linter.unusedSimpArgs false
set_option linter.unusedVariables false
set_option linter.unnecessarySimpa false
theorem hit21' (s : ByteArray) (wt ds : Int) (w : World) : Calls Try.prog 21 #[.string s, .int .u32 wt, .int .i64 ds] w fun e w' => e = .returned (.agg #[.string s, .int .u32 wt, .bool false, .int .i64 ds]) ∧ Below w.heap.size w w' := hit21 s wt ds w
set_option maxHeartbeats 40000000 in
set_option maxRecDepth 100000 in
theorem works8 (w : World) : Calls Try.prog 8 #[] w fun e w' => e = .returned (.bool true) ∧ Below w.heap.size w w' := by
  go_enter Try.func8, Try.ntmps8
  go_upto_region 1 with fail
  go_cut [1, 2, 3, 4] (fun v1 v2 v3 v4 wx => ∃ pa pb pc pd : Nat, v1 = .pointer (some ⟨pa, 0, none⟩) ∧ v2 = .pointer (some ⟨pb, 0, none⟩) ∧ v3 = .pointer (some ⟨pc, 0, none⟩) ∧ v4 = .pointer (some ⟨pd, 0, none⟩) ∧ B4 wx pa xA ∧ B4 wx pb xB ∧ B4 wx pc xC ∧ B4 wx pd xD ∧ Below w.heap.size w wx)
  case first =>
    go_wp2_with (go_at_call 21; first
      | (have _q := hb3; refine (hit21' _ _ _ _).mono ?_; rintro e w4 ⟨rfl, hb4⟩)
      | (have _q := hb2; refine (hit21' _ _ _ _).mono ?_; rintro e w3 ⟨rfl, hb3⟩)
      | (have _q := hb1; refine (hit21' _ _ _ _).mono ?_; rintro e w2 ⟨rfl, hb2⟩)
      | (refine (hit21' _ _ _ _).mono ?_; rintro e w1 ⟨rfl, hb1⟩))
    go_meet
    case rel =>
      have h1 := hb1.trans ((hb2.mono hb1.size).trans ((hb3.mono (Nat.le_trans hb1.size hb2.size)).trans (hb4.mono (Nat.le_trans hb1.size (Nat.le_trans hb2.size hb3.size)))))
      refine ⟨_, _, _, _, rfl, rfl, rfl, rfl, (((B4.new w4 xA).alloc _).alloc _).alloc _, ?_, ?_, ?_, ?_⟩
      · exact ((B4.new' xB (by simp)).alloc _).alloc _
      · exact (B4.new' xC (by simp)).alloc _
      · exact B4.new' xD (by simp)
      · have hs := h1.size
        exact (((h1.alloc hs _).alloc (by simp; omega) _).alloc (by simp; omega) _).alloc (by simp; omega) _
  case rest =>
    obtain ⟨pa, pb, pc, pd, rfl, rfl, rfl, rfl, ha, hb', hc, hd, hbw⟩ := hcut
    have mk : ∀ w' : World, Below wc.heap.size wc w' → (Below wc.heap.size wc w' ∧
      w'.cell? ⟨pa, 0, none⟩ = some (.string xA.word) ∧ w'.cell? ⟨pa, 1, none⟩ = some (.int .u32 xA.weight) ∧ w'.cell? ⟨pa, 2, none⟩ = some (.bool xA.gone) ∧ w'.cell? ⟨pa, 3, none⟩ = some (.int .i64 xA.dist) ∧
      w'.cell? ⟨pb, 0, none⟩ = some (.string xB.word) ∧ w'.cell? ⟨pb, 1, none⟩ = some (.int .u32 xB.weight) ∧ w'.cell? ⟨pb, 2, none⟩ = some (.bool xB.gone) ∧ w'.cell? ⟨pb, 3, none⟩ = some (.int .i64 xB.dist) ∧
      w'.cell? ⟨pc, 0, none⟩ = some (.string xC.word) ∧ w'.cell? ⟨pc, 1, none⟩ = some (.int .u32 xC.weight) ∧ w'.cell? ⟨pc, 2, none⟩ = some (.bool xC.gone) ∧ w'.cell? ⟨pc, 3, none⟩ = some (.int .i64 xC.dist) ∧
      w'.cell? ⟨pd, 0, none⟩ = some (.string xD.word) ∧ w'.cell? ⟨pd, 1, none⟩ = some (.int .u32 xD.weight) ∧ w'.cell? ⟨pd, 2, none⟩ = some (.bool xD.gone) ∧ w'.cell? ⟨pd, 3, none⟩ = some (.int .i64 xD.dist)) := fun w' hw => by
      obtain ⟨a0, a1, a2, a3⟩ := (ha.below hw).cells
      obtain ⟨b0, b1, b2, b3⟩ := (hb'.below hw).cells
      obtain ⟨c0, c1, c2, c3⟩ := (hc.below hw).cells
      obtain ⟨d0, d1, d2, d3⟩ := (hd.below hw).cells
      exact ⟨hw, a0, a1, a2, a3, b0, b1, b2, b3, c0, c1, c2, c3, d0, d1, d2, d3⟩
    have MK := Lib.hid mk
    clear mk ha hb' hc hd
    obtain ⟨-, a0, a1, a2, a3, b0, b1, b2, b3, c0, c1, c2, c3, d0, d1, d2, d3⟩ := MK.out wc (Below.refl _ _)
    go_upto_region 2 with fail
    go_cut [5, 6] (fun v5 v6 wx => ∃ A c, v5 = .slice A 2 c ∧ v6 = .int .i64 0 ∧ RHs wx wx.heap.size A [xD, xC] ∧ Below wc.heap.size wc wx)
    case first =>
      go_wp2_with (go_at_call 15; refine (top_ex2 (RHs.lit (es := exX) rfl)).mono ?_; rintro e w1 ⟨A, c, rfl, hr, hb1⟩)
      go_meet
      case rel => exact ⟨_, _, rfl, rfl, hr, ((Below.refl _ _).alloc (Nat.le_refl _) _).trans (hb1.mono (by simp))⟩
    case rest =>
      obtain ⟨A5, c5, rfl, rfl, hr5, hb5⟩ := hcut
      clear a0 a1 a2 a3 b0 b1 b2 b3 c0 c1 c2 c3 d0 d1 d2 d3
      obtain ⟨-, a0, a1, a2, a3, b0, b1, b2, b3, c0, c1, c2, c3, d0, d1, d2, d3⟩ := MK.out wc hb5
      go_upto_region 3 with fail
      go_cut [7, 8] (fun v7 v8 wx => ∃ A c, v7 = .slice A 0 c ∧ v8 = .int .i64 0 ∧ Below wc.heap.size wc wx)
      case first =>
        go_wp2_with (go_at_call 15; refine (top_ex0 (RHs.lit (es := exX) rfl)).mono ?_; rintro e w1 ⟨A, c, rfl, hb1⟩)
        go_meet
        case rel => exact ⟨_, _, rfl, rfl, ((Below.refl _ _).alloc (Nat.le_refl _) _).trans (hb1.mono (by simp))⟩
      case rest =>
        obtain ⟨A7, c7, rfl, rfl, hb7⟩ := hcut
        clear a0 a1 a2 a3 b0 b1 b2 b3 c0 c1 c2 c3 d0 d1 d2 d3
        have hb8 := hb5.trans (hb7.mono hb5.size)
        obtain ⟨-, a0, a1, a2, a3, b0, b1, b2, b3, c0, c1, c2, c3, d0, d1, d2, d3⟩ := MK.out wc hb8
        go_upto_region 4 with fail
        go_cut [9, 10] (fun v9 v10 wx => v9 = v9 ∧ v10 = .int .i64 2 ∧ Below wc.heap.size wc wx)
        case first =>
          go_wp2_with (go_at_call 15; refine (top_ex1 (RHs.lit (es := [xB]) rfl)).mono ?_; rintro e w1 ⟨A, c, rfl, hb1⟩)
          go_meet
          case rel => exact ⟨trivial, rfl, ((Below.refl _ _).alloc (Nat.le_refl _) _).trans (hb1.mono (by simp))⟩
        case rest =>
          obtain ⟨-, rfl, hb9⟩ := hcut
          have hb10 := hb8.trans (hb9.mono hb8.size)
          have hr9 : RHs wc wc.heap.size A5 [xD, xC] := (hr5.below (hb7.trans (hb9.mono hb7.size))).more (hb7.trans (hb9.mono hb7.size)).size
          have mk2 : ∀ w' : World, Below wc.heap.size wc w' → (Below wc.heap.size wc w' ∧
            w'.cell? ⟨pa, 0, none⟩ = some (.string xA.word) ∧ w'.cell? ⟨pa, 1, none⟩ = some (.int .u32 xA.weight) ∧ w'.cell? ⟨pa, 2, none⟩ = some (.bool xA.gone) ∧ w'.cell? ⟨pa, 3, none⟩ = some (.int .i64 xA.dist) ∧
            w'.cell? ⟨pb, 0, none⟩ = some (.string xB.word) ∧ w'.cell? ⟨pb, 1, none⟩ = some (.int .u32 xB.weight) ∧ w'.cell? ⟨pb, 2, none⟩ = some (.bool xB.gone) ∧ w'.cell? ⟨pb, 3, none⟩ = some (.int .i64 xB.dist) ∧
            w'.cell? ⟨pc, 0, none⟩ = some (.string xC.word) ∧ w'.cell? ⟨pc, 1, none⟩ = some (.int .u32 xC.weight) ∧ w'.cell? ⟨pc, 2, none⟩ = some (.bool xC.gone) ∧ w'.cell? ⟨pc, 3, none⟩ = some (.int .i64 xC.dist) ∧
            w'.cell? ⟨pd, 0, none⟩ = some (.string xD.word) ∧ w'.cell? ⟨pd, 1, none⟩ = some (.int .u32 xD.weight) ∧ w'.cell? ⟨pd, 2, none⟩ = some (.bool xD.gone) ∧ w'.cell? ⟨pd, 3, none⟩ = some (.int .i64 xD.dist)) := fun w' hw =>
            ⟨hw, (MK.out w' (hb10.trans (hw.mono hb10.size))).2⟩
          have MK2 := Lib.hid mk2
          have hB : Below w.heap.size w wc := hbw.trans (hb10.mono hbw.size)
          clear mk2 MK hr5 hb5 hb7 hb8 hb9 hb10 hbw
          go_wp2
          refine wp_region_held_drew (S := (fun w' : World => Below wc.heap.size wc w' ∧ w'.cell? ⟨pa, 0, none⟩ = some (.string xA.word) ∧ w'.cell? ⟨pa, 1, none⟩ = some (.int .u32 xA.weight) ∧ w'.cell? ⟨pa, 2, none⟩ = some (.bool xA.gone) ∧ w'.cell? ⟨pa, 3, none⟩ = some (.int .i64 xA.dist) ∧ w'.cell? ⟨pb, 0, none⟩ = some (.string xB.word) ∧ w'.cell? ⟨pb, 1, none⟩ = some (.int .u32 xB.weight) ∧ w'.cell? ⟨pb, 2, none⟩ = some (.bool xB.gone) ∧ w'.cell? ⟨pb, 3, none⟩ = some (.int .i64 xB.dist) ∧ w'.cell? ⟨pc, 0, none⟩ = some (.string xC.word) ∧ w'.cell? ⟨pc, 1, none⟩ = some (.int .u32 xC.weight) ∧ w'.cell? ⟨pc, 2, none⟩ = some (.bool xC.gone) ∧ w'.cell? ⟨pc, 3, none⟩ = some (.int .i64 xC.dist) ∧ w'.cell? ⟨pd, 0, none⟩ = some (.string xD.word) ∧ w'.cell? ⟨pd, 1, none⟩ = some (.int .u32 xD.weight) ∧ w'.cell? ⟨pd, 2, none⟩ = some (.bool xD.gone) ∧ w'.cell? ⟨pd, 3, none⟩ = some (.int .i64 xD.dist))) (by kernel_rfl) (MK2.out _ (Below.refl _ _).drew) (fun hHeld => ?_)
          refine mid_cut (fun a' w' => (∃ x39 x40 x41 x42 x43 x44 x45 x46 x47 x48 x49 : Value, a' = { tmps := #[.bool false, .pointer (some ⟨pa, 0, none⟩), .pointer (some ⟨pb, 0, none⟩), .pointer (some ⟨pc, 0, none⟩), .pointer (some ⟨pd, 0, none⟩), .slice A5 2 c5, .int .i64 0, .slice A7 0 c7, .int .i64 0, u9, .int .i64 2, u11, u12, u13, u14, u15, u16, u17, u18, u19, u20, u21, u22, u23, u24, u25, u26, u27, u28, u29, u30, u31, u32, u33, u34, u35, u36, u37, u38, x39, x40, x41, x42, x43, x44, x45, x46, x47, x48, x49, .bool true, u51, u52, u53, u54, u55, u56, u57, u58, u59, u60, u61, u62, u63, u64, u65, u66, u67, u68, u69, u70, u71, u72, u73, u74, u75, u76, u77, u78, u79, u80, u81, u82, u83, u84, u85, u86, u87, u88, u89, u90, u91, u92, u93, u94, u95, u96, u97, u98, u99], defers := [] }) ∧ Below wc.heap.size wc w') 50 #[true, true, true, true, true, true, true, true, true, true, true, true, false, false, false, false, false, false, false, false, false, false, false, false, false, false, false, false, false, false, false, false, false, false, false, false, false, false, false, false, false, false, false, false, false, false, false, false, false, false, false, false, false, false, false, false, false, false, false, false, false, false] (fun HMID => ?_) ?_
          · skip
            refine take_at (i := 0) (oi := _) (v := ?_) (d := 39) rfl (by kernel_rfl) (by kernel_rfl) (by kernel_rfl) (by kernel_rfl) (fun _ _ _ h => h) (Or.inl ⟨by kernel_rfl, ?_⟩) hHeld ?_
            rotate_left
            · intro w0 hSw; (try dsimp only at hSw); go_simp <;> with_reducible rfl
            try simp only [Act.put, List.setIfInBounds_toArray, List.set_cons_zero, List.set_cons_succ]
            refine take_at (i := 1) (oi := _) (v := ?_) (d := 40) rfl (by kernel_rfl) (by kernel_rfl) (by kernel_rfl) (by kernel_rfl) (fun _ _ _ h => h) (Or.inl ⟨by kernel_rfl, ?_⟩) hHeld ?_
            rotate_left
            · intro w0 hSw; (try dsimp only at hSw); go_simp <;> with_reducible rfl
            try simp only [Act.put, List.setIfInBounds_toArray, List.set_cons_zero, List.set_cons_succ]
            refine take_at (i := 2) (oi := _) (v := ?_) (d := 41) rfl (by kernel_rfl) (by kernel_rfl) (by kernel_rfl) (by kernel_rfl) (fun _ _ _ h => h) (Or.inl ⟨by kernel_rfl, ?_⟩) hHeld ?_
            rotate_left
            · intro w0 hSw; (try dsimp only at hSw); go_simp <;> with_reducible rfl
            try simp only [Act.put, List.setIfInBounds_toArray, List.set_cons_zero, List.set_cons_succ]
            refine take_at (i := 3) (oi := _) (v := ?_) (d := 42) rfl (by kernel_rfl) (by kernel_rfl) (by kernel_rfl) (by kernel_rfl) (fun _ _ _ h => h) (Or.inl ⟨by kernel_rfl, ?_⟩) hHeld ?_
            rotate_left
            · intro w0 hSw; (try dsimp only at hSw); go_simp <;> with_reducible rfl
            try simp only [Act.put, List.setIfInBounds_toArray, List.set_cons_zero, List.set_cons_succ]
            refine take_at (i := 6) (oi := _) (v := ?_) (d := 45) rfl (by kernel_rfl) (by kernel_rfl) (by kernel_rfl) (by kernel_rfl) (fun _ _ _ h => h) (Or.inl ⟨by kernel_rfl, ?_⟩) hHeld ?_
            rotate_left
            · intro w0 hSw; (try dsimp only at hSw); go_simp <;> with_reducible rfl
            try simp only [Act.put, List.setIfInBounds_toArray, List.set_cons_zero, List.set_cons_succ]
            refine take_at (i := 7) (oi := _) (v := ?_) (d := 46) rfl (by kernel_rfl) (by kernel_rfl) (by kernel_rfl) (by kernel_rfl) (fun _ _ _ h => h) (Or.inl ⟨by kernel_rfl, ?_⟩) hHeld ?_
            rotate_left
            · intro w0 hSw; (try dsimp only at hSw); go_simp <;> with_reducible rfl
            try simp only [Act.put, List.setIfInBounds_toArray, List.set_cons_zero, List.set_cons_succ]
            refine take_at (i := 8) (oi := _) (v := ?_) (d := 47) rfl (by kernel_rfl) (by kernel_rfl) (by kernel_rfl) (by kernel_rfl) (fun _ _ _ h => h) (Or.inl ⟨by kernel_rfl, ?_⟩) hHeld ?_
            rotate_left
            · intro w0 hSw; (try dsimp only at hSw); go_simp <;> with_reducible rfl
            try simp only [Act.put, List.setIfInBounds_toArray, List.set_cons_zero, List.set_cons_succ]
            refine take_at (i := 9) (oi := _) (v := ?_) (d := 48) rfl (by kernel_rfl) (by kernel_rfl) (by kernel_rfl) (by kernel_rfl) (fun _ _ _ h => h) (Or.inl ⟨by kernel_rfl, ?_⟩) hHeld ?_
            rotate_left
            · intro w0 hSw; (try dsimp only at hSw); go_simp <;> with_reducible rfl
            try simp only [Act.put, List.setIfInBounds_toArray, List.set_cons_zero, List.set_cons_succ]
            refine wpAnyH_ready (rs := [4, 10]) (by kernel_rfl) (by simp) ?_
            refine AllReadyH.cons (o := _) rfl (fun K hK => ?_) ?_
            · go_simp
              clear hHeld
              refine hK.out _ _ ?_ (fun hHeld => ?_)
              · exact MK2.out _ (((Below.refl _ _).alloc (by simp) _).drew)
              clear hK K
              try simp only [Act.put, List.setIfInBounds_toArray, List.set_cons_zero, List.set_cons_succ]
              refine wpAnyH_ready (rs := [5, 10]) (by kernel_rfl) (by simp) ?_
              refine AllReadyH.cons (o := _) rfl (fun K hK => ?_) ?_
              · go_simp
                go_at_call 11; refine (sort_ex (RHs.ofB (es := exX) (by simp only [heap_drew, heap_get, World.size_alloc]; simp [hcs, Hit.cells, Nat.add_assoc, exX, exS]))).mono ?_
                rintro e w1 ⟨A1, c1, rfl, hr1, hb1⟩
                have hcum := keepL (((Below.refl _ _).alloc (by simp) _).drew : Below wc.heap.size wc _) hb1
                go_wp2_with fail
                clear hHeld
                refine hK.out _ _ ?_ (fun hHeld => ?_)
                · exact MK2.out _ (hcum)
                clear hK K
                try simp only [Act.put, List.setIfInBounds_toArray, List.set_cons_zero, List.set_cons_succ]
                refine wpAnyH_ready (rs := [10]) (by kernel_rfl) (by simp) ?_
                refine AllReadyH.cons (o := _) rfl (fun K hK => ?_) ?_
                · go_simp
                  clear hHeld
                  refine hK.out _ _ ?_ (fun hHeld => ?_)
                  · exact MK2.out _ ((hcum.alloc (by have := hcum.size; (try simp); omega) _))
                  clear hK K
                  try simp only [Act.put, List.setIfInBounds_toArray, List.set_cons_zero, List.set_cons_succ]
                  refine wpAnyH_ready (rs := [11]) (by kernel_rfl) (by simp) ?_
                  refine AllReadyH.cons (o := _) rfl (fun K hK => ?_) ?_
                  · go_simp
                    go_at_call 13; refine (same_lit exS (by exact (RHs.upAt hr1 rfl)) (by exact (RHs.ofB (es := exS) (by simp only [heap_drew, heap_get, World.size_alloc]; simp [hcs, Hit.cells, Nat.add_assoc, exX, exS]))) rfl (by decide)).mono ?_
                    rintro e w2 ⟨rfl, hb2⟩
                    replace hcum := keepL ((hcum.alloc (by have := hcum.size; (try simp); omega) _)) hb2
                    go_wp2_with fail
                    clear hHeld
                    refine hK.out _ _ ?_ (fun hHeld => ?_)
                    · exact MK2.out _ (hcum)
                    clear hK K
                    try simp only [Act.put, List.setIfInBounds_toArray, List.set_cons_zero, List.set_cons_succ]
                    refine mid_use (listed1 := #[true, true, true, true, true, true, true, true, true, true, true, true, false, false, false, false, false, false, false, false, false, false, false, false, false, false, false, false, false, false, false, false, false, false, false, false, false, false, false, false, false, false, false, false, false, false, false, false, false, false, false, false, false, false, false, false, false, false, false, false, false, false]) (by kernel_rfl) ?_
                    exact HMID.out _ _ ⟨⟨_, _, _, _, _, _, _, _, _, _, _, rfl⟩, hcum⟩ hHeld
                  exact AllReadyH.nil
                exact AllReadyH.nil
              refine AllReadyH.cons (o := _) rfl (fun K hK => ?_) ?_
              · go_simp
                clear hHeld
                refine hK.out _ _ ?_ (fun hHeld => ?_)
                · exact MK2.out _ ((((Below.refl _ _).alloc (by simp) _).alloc (by simp) _).drew)
                clear hK K
                try simp only [Act.put, List.setIfInBounds_toArray, List.set_cons_zero, List.set_cons_succ]
                refine wpAnyH_ready (rs := [5]) (by kernel_rfl) (by simp) ?_
                refine AllReadyH.cons (o := _) rfl (fun K hK => ?_) ?_
                · go_simp
                  go_at_call 11; refine (sort_ex (RHs.ofB (es := exX) (by simp only [heap_drew, heap_get, World.size_alloc]; simp [hcs, Hit.cells, Nat.add_assoc, exX, exS]))).mono ?_
                  rintro e w3 ⟨A1, c1, rfl, hr1, hb3⟩
                  have hcum := keepL ((((Below.refl _ _).alloc (by simp) _).alloc (by simp) _).drew : Below wc.heap.size wc _) hb3
                  go_wp2_with fail
                  clear hHeld
                  refine hK.out _ _ ?_ (fun hHeld => ?_)
                  · exact MK2.out _ (hcum)
                  clear hK K
                  try simp only [Act.put, List.setIfInBounds_toArray, List.set_cons_zero, List.set_cons_succ]
                  refine wpAnyH_ready (rs := [11]) (by kernel_rfl) (by simp) ?_
                  refine AllReadyH.cons (o := _) rfl (fun K hK => ?_) ?_
                  · go_simp
                    go_at_call 13; refine (same_lit exS (by exact hr1) (by exact (RHs.ofLB (es := exS) hb3 (by simp only [heap_drew, heap_get, World.size_alloc]; simp [hcs, Hit.cells, Nat.add_assoc, exX, exS]))) rfl (by decide)).mono ?_
                    rintro e w4 ⟨rfl, hb4⟩
                    replace hcum := keepL (hcum) hb4
                    go_wp2_with fail
                    clear hHeld
                    refine hK.out _ _ ?_ (fun hHeld => ?_)
                    · exact MK2.out _ (hcum)
                    clear hK K
                    try simp only [Act.put, List.setIfInBounds_toArray, List.set_cons_zero, List.set_cons_succ]
                    refine mid_use (listed1 := #[true, true, true, true, true, true, true, true, true, true, true, true, false, false, false, false, false, false, false, false, false, false, false, false, false, false, false, false, false, false, false, false, false, false, false, false, false, false, false, false, false, false, false, false, false, false, false, false, false, false, false, false, false, false, false, false, false, false, false, false, false, false]) (by kernel_rfl) ?_
                    exact HMID.out _ _ ⟨⟨_, _, _, _, _, _, _, _, _, _, _, rfl⟩, hcum⟩ hHeld
                  exact AllReadyH.nil
                exact AllReadyH.nil
              exact AllReadyH.nil
            refine AllReadyH.cons (o := _) rfl (fun K hK => ?_) ?_
            · go_simp
              clear hHeld
              refine hK.out _ _ ?_ (fun hHeld => ?_)
              · exact MK2.out _ (((Below.refl _ _).alloc (by simp) _).drew)
              clear hK K
              try simp only [Act.put, List.setIfInBounds_toArray, List.set_cons_zero, List.set_cons_succ]
              refine wpAnyH_ready (rs := [4]) (by kernel_rfl) (by simp) ?_
              refine AllReadyH.cons (o := _) rfl (fun K hK => ?_) ?_
              · go_simp
                clear hHeld
                refine hK.out _ _ ?_ (fun hHeld => ?_)
                · exact MK2.out _ ((((Below.refl _ _).alloc (by simp) _).alloc (by simp) _).drew)
                clear hK K
                try simp only [Act.put, List.setIfInBounds_toArray, List.set_cons_zero, List.set_cons_succ]
                refine wpAnyH_ready (rs := [5]) (by kernel_rfl) (by simp) ?_
                refine AllReadyH.cons (o := _) rfl (fun K hK => ?_) ?_
                · go_simp
                  go_at_call 11; refine (sort_ex (RHs.ofB (es := exX) (by simp only [heap_drew, heap_get, World.size_alloc]; simp [hcs, Hit.cells, Nat.add_assoc, exX, exS]))).mono ?_
                  rintro e w5 ⟨A1, c1, rfl, hr1, hb5⟩
                  have hcum := keepL ((((Below.refl _ _).alloc (by simp) _).alloc (by simp) _).drew : Below wc.heap.size wc _) hb5
                  go_wp2_with fail
                  clear hHeld
                  refine hK.out _ _ ?_ (fun hHeld => ?_)
                  · exact MK2.out _ (hcum)
                  clear hK K
                  try simp only [Act.put, List.setIfInBounds_toArray, List.set_cons_zero, List.set_cons_succ]
                  refine wpAnyH_ready (rs := [11]) (by kernel_rfl) (by simp) ?_
                  refine AllReadyH.cons (o := _) rfl (fun K hK => ?_) ?_
                  · go_simp
                    go_at_call 13; refine (same_lit exS (by exact hr1) (by exact (RHs.ofLB (es := exS) hb5 (by simp only [heap_drew, heap_get, World.size_alloc]; simp [hcs, Hit.cells, Nat.add_assoc, exX, exS]))) rfl (by decide)).mono ?_
                    rintro e w6 ⟨rfl, hb6⟩
                    replace hcum := keepL (hcum) hb6
                    go_wp2_with fail
                    clear hHeld
                    refine hK.out _ _ ?_ (fun hHeld => ?_)
                    · exact MK2.out _ (hcum)
                    clear hK K
                    try simp only [Act.put, List.setIfInBounds_toArray, List.set_cons_zero, List.set_cons_succ]
                    refine mid_use (listed1 := #[true, true, true, true, true, true, true, true, true, true, true, true, false, false, false, false, false, false, false, false, false, false, false, false, false, false, false, false, false, false, false, false, false, false, false, false, false, false, false, false, false, false, false, false, false, false, false, false, false, false, false, false, false, false, false, false, false, false, false, false, false, false]) (by kernel_rfl) ?_
                    exact HMID.out _ _ ⟨⟨_, _, _, _, _, _, _, _, _, _, _, rfl⟩, hcum⟩ hHeld
                  exact AllReadyH.nil
                exact AllReadyH.nil
              exact AllReadyH.nil
            exact AllReadyH.nil
          · rintro a1 wm ⟨⟨x39, x40, x41, x42, x43, x44, x45, x46, x47, x48, x49, rfl⟩, hcum⟩ hHeld
            refine take_at (i := 12) (oi := _) (v := ?_) (d := 51) rfl (by kernel_rfl) (by kernel_rfl) (by kernel_rfl) (by kernel_rfl) (fun _ _ _ h => h) (Or.inl ⟨by kernel_rfl, ?_⟩) hHeld ?_
            rotate_left
            · intro w0 hSw; (try dsimp only at hSw); go_simp <;> with_reducible rfl
            try simp only [Act.put, List.setIfInBounds_toArray, List.set_cons_zero, List.set_cons_succ]
            refine take_at (i := 13) (oi := _) (v := ?_) (d := 52) rfl (by kernel_rfl) (by kernel_rfl) (by kernel_rfl) (by kernel_rfl) (fun _ _ _ h => h) (Or.inl ⟨by kernel_rfl, ?_⟩) hHeld ?_
            rotate_left
            · intro w0 hSw; (try dsimp only at hSw); go_simp <;> with_reducible rfl
            try simp only [Act.put, List.setIfInBounds_toArray, List.set_cons_zero, List.set_cons_succ]
            refine take_at (i := 14) (oi := _) (v := ?_) (d := 53) rfl (by kernel_rfl) (by kernel_rfl) (by kernel_rfl) (by kernel_rfl) (fun _ _ _ h => h) (Or.inl ⟨by kernel_rfl, ?_⟩) hHeld ?_
            rotate_left
            · intro w0 hSw; (try dsimp only at hSw); go_simp <;> with_reducible rfl
            try simp only [Act.put, List.setIfInBounds_toArray, List.set_cons_zero, List.set_cons_succ]
            refine take_at (i := 15) (oi := _) (v := ?_) (d := 54) rfl (by kernel_rfl) (by kernel_rfl) (by kernel_rfl) (by kernel_rfl) (fun _ _ _ h => h) (Or.inl ⟨by kernel_rfl, ?_⟩) hHeld ?_
            rotate_left
            · intro w0 hSw; (try dsimp only at hSw); go_simp <;> with_reducible rfl
            try simp only [Act.put, List.setIfInBounds_toArray, List.set_cons_zero, List.set_cons_succ]
            refine wpAnyH_ready (rs := [16]) (by kernel_rfl) (by simp) ?_
            refine AllReadyH.cons (o := _) rfl (fun K hK => ?_) ?_
            · go_simp
              clear hHeld
              refine hK.out _ _ ?_ (fun hHeld => ?_)
              · exact MK2.out _ ((hcum.alloc (by have := hcum.size; (try simp); omega) _))
              clear hK K
              try simp only [Act.put, List.setIfInBounds_toArray, List.set_cons_zero, List.set_cons_succ]
              refine wpAnyH_ready (rs := [17]) (by kernel_rfl) (by simp) ?_
              refine AllReadyH.cons (o := _) rfl (fun K hK => ?_) ?_
              · go_simp
                go_at_call 13; refine (same_lit [xD, xC] (by exact (RHs.more (RHs.below hr9 ((hcum.alloc (by have := hcum.size; (try simp); omega) _))) ((hcum.alloc (by have := hcum.size; (try simp); omega) _)).size)) (by exact (RHs.ofB (es := [xD, xC]) (by simp only [heap_drew, heap_get, World.size_alloc]; simp [hcs, Hit.cells, Nat.add_assoc, exX, exS]))) rfl (by decide)).mono ?_
                rintro e w7 ⟨rfl, hb7⟩
                replace hcum := keepL ((hcum.alloc (by have := hcum.size; (try simp); omega) _)) hb7
                go_wp2_with fail
                clear hHeld
                refine hK.out _ _ ?_ (fun hHeld => ?_)
                · exact MK2.out _ (hcum)
                clear hK K
                try simp only [Act.put, List.setIfInBounds_toArray, List.set_cons_zero, List.set_cons_succ]
                refine take_at (i := 18) (oi := _) (v := ?_) (d := 57) rfl (by kernel_rfl) (by kernel_rfl) (by kernel_rfl) (by kernel_rfl) (fun _ _ _ h => h) (Or.inl ⟨by kernel_rfl, ?_⟩) hHeld ?_
                rotate_left
                · intro w0 hSw; (try dsimp only at hSw); go_simp <;> with_reducible rfl
                try simp only [Act.put, List.setIfInBounds_toArray, List.set_cons_zero, List.set_cons_succ]
                refine take_at (i := 19) (oi := _) (v := ?_) (d := 58) rfl (by kernel_rfl) (by kernel_rfl) (by kernel_rfl) (by kernel_rfl) (fun _ _ _ h => h) (Or.inl ⟨by kernel_rfl, ?_⟩) hHeld ?_
                rotate_left
                · intro w0 hSw; (try dsimp only at hSw); go_simp <;> with_reducible rfl
                try simp only [Act.put, List.setIfInBounds_toArray, List.set_cons_zero, List.set_cons_succ]
                refine take_at (i := 20) (oi := _) (v := ?_) (d := 59) rfl (by kernel_rfl) (by kernel_rfl) (by kernel_rfl) (by kernel_rfl) (fun _ _ _ h => h) (Or.inl ⟨by kernel_rfl, ?_⟩) hHeld ?_
                rotate_left
                · intro w0 hSw; (try dsimp only at hSw); go_simp <;> with_reducible rfl
                try simp only [Act.put, List.setIfInBounds_toArray, List.set_cons_zero, List.set_cons_succ]
                refine take_at (i := 21) (oi := _) (v := ?_) (d := 60) rfl (by kernel_rfl) (by kernel_rfl) (by kernel_rfl) (by kernel_rfl) (fun _ _ _ h => h) (Or.inl ⟨by kernel_rfl, ?_⟩) hHeld ?_
                rotate_left
                · intro w0 hSw; (try dsimp only at hSw); go_simp <;> with_reducible rfl
                try simp only [Act.put, List.setIfInBounds_toArray, List.set_cons_zero, List.set_cons_succ]
                refine take_at (i := 22) (oi := _) (v := ?_) (d := 61) rfl (by kernel_rfl) (by kernel_rfl) (by kernel_rfl) (by kernel_rfl) (fun _ _ _ h => h) (Or.inl ⟨by kernel_rfl, ?_⟩) hHeld ?_
                rotate_left
                · intro w0 hSw; (try dsimp only at hSw); go_simp <;> with_reducible rfl
                try simp only [Act.put, List.setIfInBounds_toArray, List.set_cons_zero, List.set_cons_succ]
                refine take_at (i := 23) (oi := _) (v := ?_) (d := 62) rfl (by kernel_rfl) (by kernel_rfl) (by kernel_rfl) (by kernel_rfl) (fun _ _ _ h => h) (Or.inl ⟨by kernel_rfl, ?_⟩) hHeld ?_
                rotate_left
                · intro w0 hSw; (try dsimp only at hSw); go_simp <;> with_reducible rfl
                try simp only [Act.put, List.setIfInBounds_toArray, List.set_cons_zero, List.set_cons_succ]
                refine take_at (i := 24) (oi := _) (v := ?_) (d := 63) rfl (by kernel_rfl) (by kernel_rfl) (by kernel_rfl) (by kernel_rfl) (fun _ _ _ h => h) (Or.inl ⟨by kernel_rfl, ?_⟩) hHeld ?_
                rotate_left
                · intro w0 hSw; (try dsimp only at hSw); go_simp <;> with_reducible rfl
                try simp only [Act.put, List.setIfInBounds_toArray, List.set_cons_zero, List.set_cons_succ]
                refine take_at (i := 25) (oi := _) (v := ?_) (d := 64) rfl (by kernel_rfl) (by kernel_rfl) (by kernel_rfl) (by kernel_rfl) (fun _ _ _ h => h) (Or.inl ⟨by kernel_rfl, ?_⟩) hHeld ?_
                rotate_left
                · intro w0 hSw; (try dsimp only at hSw); go_simp <;> with_reducible rfl
                try simp only [Act.put, List.setIfInBounds_toArray, List.set_cons_zero, List.set_cons_succ]
                refine take_at (i := 26) (oi := _) (v := ?_) (d := 65) rfl (by kernel_rfl) (by kernel_rfl) (by kernel_rfl) (by kernel_rfl) (fun _ _ _ h => h) (Or.inl ⟨by kernel_rfl, ?_⟩) hHeld ?_
                rotate_left
                · intro w0 hSw; (try dsimp only at hSw); go_simp <;> with_reducible rfl
                try simp only [Act.put, List.setIfInBounds_toArray, List.set_cons_zero, List.set_cons_succ]
                refine take_at (i := 27) (oi := _) (v := ?_) (d := 66) rfl (by kernel_rfl) (by kernel_rfl) (by kernel_rfl) (by kernel_rfl) (fun _ _ _ h => h) (Or.inl ⟨by kernel_rfl, ?_⟩) hHeld ?_
                rotate_left
                · intro w0 hSw; (try dsimp only at hSw); go_simp <;> with_reducible rfl
                try simp only [Act.put, List.setIfInBounds_toArray, List.set_cons_zero, List.set_cons_succ]
                refine take_at (i := 28) (oi := _) (v := ?_) (d := 67) rfl (by kernel_rfl) (by kernel_rfl) (by kernel_rfl) (by kernel_rfl) (fun _ _ _ h => h) (Or.inl ⟨by kernel_rfl, ?_⟩) hHeld ?_
                rotate_left
                · intro w0 hSw; (try dsimp only at hSw); go_simp <;> with_reducible rfl
                try simp only [Act.put, List.setIfInBounds_toArray, List.set_cons_zero, List.set_cons_succ]
                refine take_at (i := 29) (oi := _) (v := ?_) (d := 68) rfl (by kernel_rfl) (by kernel_rfl) (by kernel_rfl) (by kernel_rfl) (fun _ _ _ h => h) (Or.inl ⟨by kernel_rfl, ?_⟩) hHeld ?_
                rotate_left
                · intro w0 hSw; (try dsimp only at hSw); go_simp <;> with_reducible rfl
                try simp only [Act.put, List.setIfInBounds_toArray, List.set_cons_zero, List.set_cons_succ]
                refine take_at (i := 30) (oi := _) (v := ?_) (d := 69) rfl (by kernel_rfl) (by kernel_rfl) (by kernel_rfl) (by kernel_rfl) (fun _ _ _ h => h) (Or.inl ⟨by kernel_rfl, ?_⟩) hHeld ?_
                rotate_left
                · intro w0 hSw; (try dsimp only at hSw); go_simp <;> with_reducible rfl
                try simp only [Act.put, List.setIfInBounds_toArray, List.set_cons_zero, List.set_cons_succ]
                refine take_at (i := 31) (oi := _) (v := ?_) (d := 70) rfl (by kernel_rfl) (by kernel_rfl) (by kernel_rfl) (by kernel_rfl) (fun _ _ _ h => h) (Or.inl ⟨by kernel_rfl, ?_⟩) hHeld ?_
                rotate_left
                · intro w0 hSw; (try dsimp only at hSw); go_simp <;> with_reducible rfl
                try simp only [Act.put, List.setIfInBounds_toArray, List.set_cons_zero, List.set_cons_succ]
                refine take_at (i := 32) (oi := _) (v := ?_) (d := 71) rfl (by kernel_rfl) (by kernel_rfl) (by kernel_rfl) (by kernel_rfl) (fun _ _ _ h => h) (Or.inl ⟨by kernel_rfl, ?_⟩) hHeld ?_
                rotate_left
                · intro w0 hSw; (try dsimp only at hSw); go_simp <;> with_reducible rfl
                try simp only [Act.put, List.setIfInBounds_toArray, List.set_cons_zero, List.set_cons_succ]
                refine take_at (i := 33) (oi := _) (v := ?_) (d := 72) rfl (by kernel_rfl) (by kernel_rfl) (by kernel_rfl) (by kernel_rfl) (fun _ _ _ h => h) (Or.inl ⟨by kernel_rfl, ?_⟩) hHeld ?_
                rotate_left
                · intro w0 hSw; (try dsimp only at hSw); go_simp <;> with_reducible rfl
                try simp only [Act.put, List.setIfInBounds_toArray, List.set_cons_zero, List.set_cons_succ]
                refine take_at (i := 34) (oi := _) (v := ?_) (d := 73) rfl (by kernel_rfl) (by kernel_rfl) (by kernel_rfl) (by kernel_rfl) (fun _ _ _ h => h) (Or.inl ⟨by kernel_rfl, ?_⟩) hHeld ?_
                rotate_left
                · intro w0 hSw; (try dsimp only at hSw); go_simp <;> with_reducible rfl
                try simp only [Act.put, List.setIfInBounds_toArray, List.set_cons_zero, List.set_cons_succ]
                refine take_at (i := 35) (oi := _) (v := ?_) (d := 74) rfl (by kernel_rfl) (by kernel_rfl) (by kernel_rfl) (by kernel_rfl) (fun _ _ _ h => h) (Or.inl ⟨by kernel_rfl, ?_⟩) hHeld ?_
                rotate_left
                · intro w0 hSw; (try dsimp only at hSw); go_simp <;> with_reducible rfl
                try simp only [Act.put, List.setIfInBounds_toArray, List.set_cons_zero, List.set_cons_succ]
                refine take_at (i := 36) (oi := _) (v := ?_) (d := 75) rfl (by kernel_rfl) (by kernel_rfl) (by kernel_rfl) (by kernel_rfl) (fun _ _ _ h => h) (Or.inl ⟨by kernel_rfl, ?_⟩) hHeld ?_
                rotate_left
                · intro w0 hSw; (try dsimp only at hSw); go_simp <;> with_reducible rfl
                try simp only [Act.put, List.setIfInBounds_toArray, List.set_cons_zero, List.set_cons_succ]
                refine take_at (i := 37) (oi := _) (v := ?_) (d := 76) rfl (by kernel_rfl) (by kernel_rfl) (by kernel_rfl) (by kernel_rfl) (fun _ _ _ h => h) (Or.inl ⟨by kernel_rfl, ?_⟩) hHeld ?_
                rotate_left
                · intro w0 hSw; (try dsimp only at hSw); go_simp <;> with_reducible rfl
                try simp only [Act.put, List.setIfInBounds_toArray, List.set_cons_zero, List.set_cons_succ]
                refine take_at (i := 38) (oi := _) (v := ?_) (d := 77) rfl (by kernel_rfl) (by kernel_rfl) (by kernel_rfl) (by kernel_rfl) (fun _ _ _ h => h) (Or.inl ⟨by kernel_rfl, ?_⟩) hHeld ?_
                rotate_left
                · intro w0 hSw; (try dsimp only at hSw); go_simp <;> with_reducible rfl
                try simp only [Act.put, List.setIfInBounds_toArray, List.set_cons_zero, List.set_cons_succ]
                refine take_at (i := 39) (oi := _) (v := ?_) (d := 78) rfl (by kernel_rfl) (by kernel_rfl) (by kernel_rfl) (by kernel_rfl) (fun _ _ _ h => h) (Or.inl ⟨by kernel_rfl, ?_⟩) hHeld ?_
                rotate_left
                · intro w0 hSw; (try dsimp only at hSw); go_simp <;> with_reducible rfl
                try simp only [Act.put, List.setIfInBounds_toArray, List.set_cons_zero, List.set_cons_succ]
                refine take_at (i := 40) (oi := _) (v := ?_) (d := 79) rfl (by kernel_rfl) (by kernel_rfl) (by kernel_rfl) (by kernel_rfl) (fun _ _ _ h => h) (Or.inl ⟨by kernel_rfl, ?_⟩) hHeld ?_
                rotate_left
                · intro w0 hSw; (try dsimp only at hSw); go_simp <;> with_reducible rfl
                try simp only [Act.put, List.setIfInBounds_toArray, List.set_cons_zero, List.set_cons_succ]
                refine take_at (i := 42) (oi := _) (v := ?_) (d := 81) rfl (by kernel_rfl) (by kernel_rfl) (by kernel_rfl) (by kernel_rfl) (fun _ _ _ h => h) (Or.inl ⟨by kernel_rfl, ?_⟩) hHeld ?_
                rotate_left
                · intro w0 hSw; (try dsimp only at hSw); go_simp <;> with_reducible rfl
                try simp only [Act.put, List.setIfInBounds_toArray, List.set_cons_zero, List.set_cons_succ]
                refine wpAnyH_ready (rs := [41]) (by kernel_rfl) (by simp) ?_
                refine AllReadyH.cons (o := _) rfl (fun K hK => ?_) ?_
                · go_simp
                  clear hHeld
                  refine hK.out _ _ ?_ (fun hHeld => ?_)
                  · exact MK2.out _ ((hcum.alloc (by have := hcum.size; (try simp); omega) _))
                  clear hK K
                  try simp only [Act.put, List.setIfInBounds_toArray, List.set_cons_zero, List.set_cons_succ]
                  refine wpAnyH_ready (rs := [43]) (by kernel_rfl) (by simp) ?_
                  refine AllReadyH.cons (o := _) rfl (fun K hK => ?_) ?_
                  · go_simp
                    go_at_call 17; refine (rank_ex (by exact (RHs.ofB (es := exX) (by simp only [heap_drew, heap_get, World.size_alloc]; simp [hcs, Hit.cells, Nat.add_assoc, exX, exS])))).mono ?_
                    rintro e w8 ⟨rfl, hb8⟩
                    replace hcum := keepL ((hcum.alloc (by have := hcum.size; (try simp); omega) _)) hb8
                    go_wp2_with fail
                    clear hHeld
                    refine hK.out _ _ ?_ (fun hHeld => ?_)
                    · exact MK2.out _ (hcum)
                    clear hK K
                    try simp only [Act.put, List.setIfInBounds_toArray, List.set_cons_zero, List.set_cons_succ]
                    refine take_at (i := 44) (oi := _) (v := ?_) (d := 83) rfl (by kernel_rfl) (by kernel_rfl) (by kernel_rfl) (by kernel_rfl) (fun _ _ _ h => h) (Or.inl ⟨by kernel_rfl, ?_⟩) hHeld ?_
                    rotate_left
                    · intro w0 hSw; (try dsimp only at hSw); go_simp <;> with_reducible rfl
                    try simp only [Act.put, List.setIfInBounds_toArray, List.set_cons_zero, List.set_cons_succ]
                    refine take_at (i := 45) (oi := _) (v := ?_) (d := 84) rfl (by kernel_rfl) (by kernel_rfl) (by kernel_rfl) (by kernel_rfl) (fun _ _ _ h => h) (Or.inl ⟨by kernel_rfl, ?_⟩) hHeld ?_
                    rotate_left
                    · intro w0 hSw; (try dsimp only at hSw); go_simp <;> with_reducible rfl
                    try simp only [Act.put, List.setIfInBounds_toArray, List.set_cons_zero, List.set_cons_succ]
                    refine take_at (i := 46) (oi := _) (v := ?_) (d := 85) rfl (by kernel_rfl) (by kernel_rfl) (by kernel_rfl) (by kernel_rfl) (fun _ _ _ h => h) (Or.inl ⟨by kernel_rfl, ?_⟩) hHeld ?_
                    rotate_left
                    · intro w0 hSw; (try dsimp only at hSw); go_simp <;> with_reducible rfl
                    try simp only [Act.put, List.setIfInBounds_toArray, List.set_cons_zero, List.set_cons_succ]
                    refine take_at (i := 47) (oi := _) (v := ?_) (d := 86) rfl (by kernel_rfl) (by kernel_rfl) (by kernel_rfl) (by kernel_rfl) (fun _ _ _ h => h) (Or.inl ⟨by kernel_rfl, ?_⟩) hHeld ?_
                    rotate_left
                    · intro w0 hSw; (try dsimp only at hSw); go_simp <;> with_reducible rfl
                    try simp only [Act.put, List.setIfInBounds_toArray, List.set_cons_zero, List.set_cons_succ]
                    refine take_at (i := 48) (oi := _) (v := ?_) (d := 87) rfl (by kernel_rfl) (by kernel_rfl) (by kernel_rfl) (by kernel_rfl) (fun _ _ _ h => h) (Or.inl ⟨by kernel_rfl, ?_⟩) hHeld ?_
                    rotate_left
                    · intro w0 hSw; (try dsimp only at hSw); go_simp <;> with_reducible rfl
                    try simp only [Act.put, List.setIfInBounds_toArray, List.set_cons_zero, List.set_cons_succ]
                    refine take_at (i := 50) (oi := _) (v := ?_) (d := 89) rfl (by kernel_rfl) (by kernel_rfl) (by kernel_rfl) (by kernel_rfl) (fun _ _ _ h => h) (Or.inl ⟨by kernel_rfl, ?_⟩) hHeld ?_
                    rotate_left
                    · intro w0 hSw; (try dsimp only at hSw); go_simp <;> with_reducible rfl
                    try simp only [Act.put, List.setIfInBounds_toArray, List.set_cons_zero, List.set_cons_succ]
                    refine take_at (i := 51) (oi := _) (v := ?_) (d := 90) rfl (by kernel_rfl) (by kernel_rfl) (by kernel_rfl) (by kernel_rfl) (fun _ _ _ h => h) (Or.inl ⟨by kernel_rfl, ?_⟩) hHeld ?_
                    rotate_left
                    · intro w0 hSw; (try dsimp only at hSw); go_simp <;> with_reducible rfl
                    try simp only [Act.put, List.setIfInBounds_toArray, List.set_cons_zero, List.set_cons_succ]
                    refine take_at (i := 55) (oi := _) (v := ?_) (d := 94) rfl (by kernel_rfl) (by kernel_rfl) (by kernel_rfl) (by kernel_rfl) (fun _ _ _ h => h) (Or.inl ⟨by kernel_rfl, ?_⟩) hHeld ?_
                    rotate_left
                    · intro w0 hSw; (try dsimp only at hSw); go_simp <;> with_reducible rfl
                    try simp only [Act.put, List.setIfInBounds_toArray, List.set_cons_zero, List.set_cons_succ]
                    refine take_at (i := 56) (oi := _) (v := ?_) (d := 95) rfl (by kernel_rfl) (by kernel_rfl) (by kernel_rfl) (by kernel_rfl) (fun _ _ _ h => h) (Or.inl ⟨by kernel_rfl, ?_⟩) hHeld ?_
                    rotate_left
                    · intro w0 hSw; (try dsimp only at hSw); go_simp <;> with_reducible rfl
                    try simp only [Act.put, List.setIfInBounds_toArray, List.set_cons_zero, List.set_cons_succ]
                    refine take_at (i := 57) (oi := _) (v := ?_) (d := 96) rfl (by kernel_rfl) (by kernel_rfl) (by kernel_rfl) (by kernel_rfl) (fun _ _ _ h => h) (Or.inl ⟨by kernel_rfl, ?_⟩) hHeld ?_
                    rotate_left
                    · intro w0 hSw; (try dsimp only at hSw); go_simp <;> with_reducible rfl
                    try simp only [Act.put, List.setIfInBounds_toArray, List.set_cons_zero, List.set_cons_succ]
                    refine wpAnyH_ready (rs := [49, 52, 58]) (by kernel_rfl) (by simp) ?_
                    refine AllReadyH.cons (o := _) rfl (fun K hK => ?_) ?_
                    · go_simp
                      clear hHeld
                      refine hK.out _ _ ?_ (fun hHeld => ?_)
                      · exact MK2.out _ ((hcum.alloc (by have := hcum.size; (try simp); omega) _))
                      clear hK K
                      try simp only [Act.put, List.setIfInBounds_toArray, List.set_cons_zero, List.set_cons_succ]
                      refine wpAnyH_ready (rs := [52, 58]) (by kernel_rfl) (by simp) ?_
                      refine AllReadyH.cons (o := _) rfl (fun K hK => ?_) ?_
                      · go_simp
                        clear hHeld
                        refine hK.out _ _ ?_ (fun hHeld => ?_)
                        · exact MK2.out _ (((hcum.alloc (by have := hcum.size; (try simp); omega) _).alloc (by have := hcum.size; (try simp); omega) _))
                        clear hK K
                        try simp only [Act.put, List.setIfInBounds_toArray, List.set_cons_zero, List.set_cons_succ]
                        refine wpAnyH_ready (rs := [53, 58]) (by kernel_rfl) (by simp) ?_
                        refine AllReadyH.cons (o := _) rfl (fun K hK => ?_) ?_
                        · go_simp
                          clear hHeld
                          refine hK.out _ _ ?_ (fun hHeld => ?_)
                          · exact MK2.out _ ((((hcum.alloc (by have := hcum.size; (try simp); omega) _).alloc (by have := hcum.size; (try simp); omega) _).alloc (by have := hcum.size; (try simp); omega) _))
                          clear hK K
                          try simp only [Act.put, List.setIfInBounds_toArray, List.set_cons_zero, List.set_cons_succ]
                          refine wpAnyH_ready (rs := [54, 58]) (by kernel_rfl) (by simp) ?_
                          refine AllReadyH.cons (o := _) rfl (fun K hK => ?_) ?_
                          · go_simp
                            go_at_call 20; refine (join_ex (by exact RLs.ofB (g1 := w8.heap.size) (g2 := w8.heap.size + 1) (by simp only [heap_drew, heap_get, World.size_alloc]; simp [hcs, Hit.cells, Nat.add_assoc, exX, exS]) (by simp only [heap_drew, heap_get, World.size_alloc]; simp [hcs, Hit.cells, Nat.add_assoc, exX, exS]) (by simp only [heap_drew, heap_get, World.size_alloc]; simp [hcs, Hit.cells, Nat.add_assoc, exX, exS]) rfl rfl)).mono ?_
                            rintro e w9 ⟨A9, c9, rfl, hr5, hb9⟩
                            replace hcum := keepL ((((hcum.alloc (by have := hcum.size; (try simp); omega) _).alloc (by have := hcum.size; (try simp); omega) _).alloc (by have := hcum.size; (try simp); omega) _)) hb9
                            go_wp2_with fail
                            clear hHeld
                            refine hK.out _ _ ?_ (fun hHeld => ?_)
                            · exact MK2.out _ (hcum)
                            clear hK K
                            try simp only [Act.put, List.setIfInBounds_toArray, List.set_cons_zero, List.set_cons_succ]
                            refine wpAnyH_ready (rs := [58]) (by kernel_rfl) (by simp) ?_
                            refine AllReadyH.cons (o := _) rfl (fun K hK => ?_) ?_
                            · go_simp
                              clear hHeld
                              refine hK.out _ _ ?_ (fun hHeld => ?_)
                              · exact MK2.out _ ((hcum.alloc (by have := hcum.size; (try simp); omega) _))
                              clear hK K
                              try simp only [Act.put, List.setIfInBounds_toArray, List.set_cons_zero, List.set_cons_succ]
                              refine wpAnyH_ready (rs := [59]) (by kernel_rfl) (by simp) ?_
                              refine AllReadyH.cons (o := _) rfl (fun K hK => ?_) ?_
                              · go_simp
                                go_at_call 13; refine (same_lit [xD, xC, xA] (by exact (RHs.upAt hr5 rfl)) (by exact (RHs.ofB (es := [xD, xC, xA]) (by simp only [heap_drew, heap_get, World.size_alloc]; simp [hcs, Hit.cells, Nat.add_assoc, exX, exS]))) rfl (by decide)).mono ?_
                                rintro e w10 ⟨rfl, hb10⟩
                                replace hcum := keepL ((hcum.alloc (by have := hcum.size; (try simp); omega) _)) hb10
                                go_wp2_with fail
                                clear hHeld
                                refine hK.out _ _ ?_ (fun hHeld => ?_)
                                · exact MK2.out _ (hcum)
                                clear hK K
                                try simp only [Act.put, List.setIfInBounds_toArray, List.set_cons_zero, List.set_cons_succ]
                                refine take_at (i := 60) (oi := _) (v := ?_) (d := 99) rfl (by kernel_rfl) (by kernel_rfl) (by kernel_rfl) (by kernel_rfl) (fun _ _ _ h => h) (Or.inl ⟨by kernel_rfl, ?_⟩) hHeld ?_
                                rotate_left
                                · intro w0 hSw; (try dsimp only at hSw); go_simp <;> with_reducible rfl
                                try simp only [Act.put, List.setIfInBounds_toArray, List.set_cons_zero, List.set_cons_succ]
                                refine take_at (i := 61) (oi := _) (v := ?_) (d := 0) rfl (by kernel_rfl) (by kernel_rfl) (by kernel_rfl) (by kernel_rfl) (fun _ _ _ h => h) (Or.inl ⟨by kernel_rfl, ?_⟩) hHeld ?_
                                rotate_left
                                · intro w0 hSw; (try dsimp only at hSw); go_simp <;> with_reducible rfl
                                try simp only [Act.put, List.setIfInBounds_toArray, List.set_cons_zero, List.set_cons_succ]
                                refine wpAnyH_done (by kernel_rfl) ?_ _
                                go_wp2
                                go_ret
                                exact ⟨rfl, hB.trans (hcum.mono hB.size)⟩
                              exact AllReadyH.nil
                            exact AllReadyH.nil
                          refine AllReadyH.cons (o := _) rfl (fun K hK => ?_) ?_
                          · go_simp
                            clear hHeld
                            refine hK.out _ _ ?_ (fun hHeld => ?_)
                            · exact MK2.out _ (((((hcum.alloc (by have := hcum.size; (try simp); omega) _).alloc (by have := hcum.size; (try simp); omega) _).alloc (by have := hcum.size; (try simp); omega) _).alloc (by have := hcum.size; (try simp); omega) _))
                            clear hK K
                            try simp only [Act.put, List.setIfInBounds_toArray, List.set_cons_zero, List.set_cons_succ]
                            refine wpAnyH_ready (rs := [54]) (by kernel_rfl) (by simp) ?_
                            refine AllReadyH.cons (o := _) rfl (fun K hK => ?_) ?_
                            · go_simp
                              go_at_call 20; refine (join_ex (by exact RLs.ofB (g1 := w8.heap.size) (g2 := w8.heap.size + 1) (by simp only [heap_drew, heap_get, World.size_alloc]; simp [hcs, Hit.cells, Nat.add_assoc, exX, exS]) (by simp only [heap_drew, heap_get, World.size_alloc]; simp [hcs, Hit.cells, Nat.add_assoc, exX, exS]) (by simp only [heap_drew, heap_get, World.size_alloc]; simp [hcs, Hit.cells, Nat.add_assoc, exX, exS]) rfl rfl)).mono ?_
                              rintro e w11 ⟨A9, c9, rfl, hr5, hb11⟩
                              replace hcum := keepL (((((hcum.alloc (by have := hcum.size; (try simp); omega) _).alloc (by have := hcum.size; (try simp); omega) _).alloc (by have := hcum.size; (try simp); omega) _).alloc (by have := hcum.size; (try simp); omega) _)) hb11
                              go_wp2_with fail
                              clear hHeld
                              refine hK.out _ _ ?_ (fun hHeld => ?_)
                              · exact MK2.out _ (hcum)
                              clear hK K
                              try simp only [Act.put, List.setIfInBounds_toArray, List.set_cons_zero, List.set_cons_succ]
                              refine wpAnyH_ready (rs := [59]) (by kernel_rfl) (by simp) ?_
                              refine AllReadyH.cons (o := _) rfl (fun K hK => ?_) ?_
                              · go_simp
                                go_at_call 13; refine (same_lit [xD, xC, xA] (by exact hr5) (by exact (RHs.ofLB (es := [xD, xC, xA]) hb11 (by simp only [heap_drew, heap_get, World.size_alloc]; simp [hcs, Hit.cells, Nat.add_assoc, exX, exS]))) rfl (by decide)).mono ?_
                                rintro e w12 ⟨rfl, hb12⟩
                                replace hcum := keepL (hcum) hb12
                                go_wp2_with fail
                                clear hHeld
                                refine hK.out _ _ ?_ (fun hHeld => ?_)
                                · exact MK2.out _ (hcum)
                                clear hK K
                                try simp only [Act.put, List.setIfInBounds_toArray, List.set_cons_zero, List.set_cons_succ]
                                refine take_at (i := 60) (oi := _) (v := ?_) (d := 99) rfl (by kernel_rfl) (by kernel_rfl) (by kernel_rfl) (by kernel_rfl) (fun _ _ _ h => h) (Or.inl ⟨by kernel_rfl, ?_⟩) hHeld ?_
                                rotate_left
                                · intro w0 hSw; (try dsimp only at hSw); go_simp <;> with_reducible rfl
                                try simp only [Act.put, List.setIfInBounds_toArray, List.set_cons_zero, List.set_cons_succ]
                                refine take_at (i := 61) (oi := _) (v := ?_) (d := 0) rfl (by kernel_rfl) (by kernel_rfl) (by kernel_rfl) (by kernel_rfl) (fun _ _ _ h => h) (Or.inl ⟨by kernel_rfl, ?_⟩) hHeld ?_
                                rotate_left
                                · intro w0 hSw; (try dsimp only at hSw); go_simp <;> with_reducible rfl
                                try simp only [Act.put, List.setIfInBounds_toArray, List.set_cons_zero, List.set_cons_succ]
                                refine wpAnyH_done (by kernel_rfl) ?_ _
                                go_wp2
                                go_ret
                                exact ⟨rfl, hB.trans (hcum.mono hB.size)⟩
                              exact AllReadyH.nil
                            exact AllReadyH.nil
                          exact AllReadyH.nil
                        refine AllReadyH.cons (o := _) rfl (fun K hK => ?_) ?_
                        · go_simp
                          clear hHeld
                          refine hK.out _ _ ?_ (fun hHeld => ?_)
                          · exact MK2.out _ ((((hcum.alloc (by have := hcum.size; (try simp); omega) _).alloc (by have := hcum.size; (try simp); omega) _).alloc (by have := hcum.size; (try simp); omega) _))
                          clear hK K
                          try simp only [Act.put, List.setIfInBounds_toArray, List.set_cons_zero, List.set_cons_succ]
                          refine wpAnyH_ready (rs := [53]) (by kernel_rfl) (by simp) ?_
                          refine AllReadyH.cons (o := _) rfl (fun K hK => ?_) ?_
                          · go_simp
                            clear hHeld
                            refine hK.out _ _ ?_ (fun hHeld => ?_)
                            · exact MK2.out _ (((((hcum.alloc (by have := hcum.size; (try simp); omega) _).alloc (by have := hcum.size; (try simp); omega) _).alloc (by have := hcum.size; (try simp); omega) _).alloc (by have := hcum.size; (try simp); omega) _))
                            clear hK K
                            try simp only [Act.put, List.setIfInBounds_toArray, List.set_cons_zero, List.set_cons_succ]
                            refine wpAnyH_ready (rs := [54]) (by kernel_rfl) (by simp) ?_
                            refine AllReadyH.cons (o := _) rfl (fun K hK => ?_) ?_
                            · go_simp
                              go_at_call 20; refine (join_ex (by exact RLs.ofB (g1 := w8.heap.size) (g2 := w8.heap.size + 1) (by simp only [heap_drew, heap_get, World.size_alloc]; simp [hcs, Hit.cells, Nat.add_assoc, exX, exS]) (by simp only [heap_drew, heap_get, World.size_alloc]; simp [hcs, Hit.cells, Nat.add_assoc, exX, exS]) (by simp only [heap_drew, heap_get, World.size_alloc]; simp [hcs, Hit.cells, Nat.add_assoc, exX, exS]) rfl rfl)).mono ?_
                              rintro e w13 ⟨A9, c9, rfl, hr5, hb13⟩
                              replace hcum := keepL (((((hcum.alloc (by have := hcum.size; (try simp); omega) _).alloc (by have := hcum.size; (try simp); omega) _).alloc (by have := hcum.size; (try simp); omega) _).alloc (by have := hcum.size; (try simp); omega) _)) hb13
                              go_wp2_with fail
                              clear hHeld
                              refine hK.out _ _ ?_ (fun hHeld => ?_)
                              · exact MK2.out _ (hcum)
                              clear hK K
                              try simp only [Act.put, List.setIfInBounds_toArray, List.set_cons_zero, List.set_cons_succ]
                              refine wpAnyH_ready (rs := [59]) (by kernel_rfl) (by simp) ?_
                              refine AllReadyH.cons (o := _) rfl (fun K hK => ?_) ?_
                              · go_simp
                                go_at_call 13; refine (same_lit [xD, xC, xA] (by exact hr5) (by exact (RHs.ofLB (es := [xD, xC, xA]) hb13 (by simp only [heap_drew, heap_get, World.size_alloc]; simp [hcs, Hit.cells, Nat.add_assoc, exX, exS]))) rfl (by decide)).mono ?_
                                rintro e w14 ⟨rfl, hb14⟩
                                replace hcum := keepL (hcum) hb14
                                go_wp2_with fail
                                clear hHeld
                                refine hK.out _ _ ?_ (fun hHeld => ?_)
                                · exact MK2.out _ (hcum)
                                clear hK K
                                try simp only [Act.put, List.setIfInBounds_toArray, List.set_cons_zero, List.set_cons_succ]
                                refine take_at (i := 60) (oi := _) (v := ?_) (d := 99) rfl (by kernel_rfl) (by kernel_rfl) (by kernel_rfl) (by kernel_rfl) (fun _ _ _ h => h) (Or.inl ⟨by kernel_rfl, ?_⟩) hHeld ?_
                                rotate_left
                                · intro w0 hSw; (try dsimp only at hSw); go_simp <;> with_reducible rfl
                                try simp only [Act.put, List.setIfInBounds_toArray, List.set_cons_zero, List.set_cons_succ]
                                refine take_at (i := 61) (oi := _) (v := ?_) (d := 0) rfl (by kernel_rfl) (by kernel_rfl) (by kernel_rfl) (by kernel_rfl) (fun _ _ _ h => h) (Or.inl ⟨by kernel_rfl, ?_⟩) hHeld ?_
                                rotate_left
                                · intro w0 hSw; (try dsimp only at hSw); go_simp <;> with_reducible rfl
                                try simp only [Act.put, List.setIfInBounds_toArray, List.set_cons_zero, List.set_cons_succ]
                                refine wpAnyH_done (by kernel_rfl) ?_ _
                                go_wp2
                                go_ret
                                exact ⟨rfl, hB.trans (hcum.mono hB.size)⟩
                              exact AllReadyH.nil
                            exact AllReadyH.nil
                          exact AllReadyH.nil
                        exact AllReadyH.nil
                      refine AllReadyH.cons (o := _) rfl (fun K hK => ?_) ?_
                      · go_simp
                        clear hHeld
                        refine hK.out _ _ ?_ (fun hHeld => ?_)
                        · exact MK2.out _ (((hcum.alloc (by have := hcum.size; (try simp); omega) _).alloc (by have := hcum.size; (try simp); omega) _))
                        clear hK K
                        try simp only [Act.put, List.setIfInBounds_toArray, List.set_cons_zero, List.set_cons_succ]
                        refine wpAnyH_ready (rs := [52]) (by kernel_rfl) (by simp) ?_
                        refine AllReadyH.cons (o := _) rfl (fun K hK => ?_) ?_
                        · go_simp
                          clear hHeld
                          refine hK.out _ _ ?_ (fun hHeld => ?_)
                          · exact MK2.out _ ((((hcum.alloc (by have := hcum.size; (try simp); omega) _).alloc (by have := hcum.size; (try simp); omega) _).alloc (by have := hcum.size; (try simp); omega) _))
                          clear hK K
                          try simp only [Act.put, List.setIfInBounds_toArray, List.set_cons_zero, List.set_cons_succ]
                          refine wpAnyH_ready (rs := [53]) (by kernel_rfl) (by simp) ?_
                          refine AllReadyH.cons (o := _) rfl (fun K hK => ?_) ?_
                          · go_simp
                            clear hHeld
                            refine hK.out _ _ ?_ (fun hHeld => ?_)
                            · exact MK2.out _ (((((hcum.alloc (by have := hcum.size; (try simp); omega) _).alloc (by have := hcum.size; (try simp); omega) _).alloc (by have := hcum.size; (try simp); omega) _).alloc (by have := hcum.size; (try simp); omega) _))
                            clear hK K
                            try simp only [Act.put, List.setIfInBounds_toArray, List.set_cons_zero, List.set_cons_succ]
                            refine wpAnyH_ready (rs := [54]) (by kernel_rfl) (by simp) ?_
                            refine AllReadyH.cons (o := _) rfl (fun K hK => ?_) ?_
                            · go_simp
                              go_at_call 20; refine (join_ex (by exact RLs.ofB (g1 := w8.heap.size) (g2 := w8.heap.size + 1 + 1) (by simp only [heap_drew, heap_get, World.size_alloc]; simp [hcs, Hit.cells, Nat.add_assoc, exX, exS]) (by simp only [heap_drew, heap_get, World.size_alloc]; simp [hcs, Hit.cells, Nat.add_assoc, exX, exS]) (by simp only [heap_drew, heap_get, World.size_alloc]; simp [hcs, Hit.cells, Nat.add_assoc, exX, exS]) rfl rfl)).mono ?_
                              rintro e w15 ⟨A9, c9, rfl, hr5, hb15⟩
                              replace hcum := keepL (((((hcum.alloc (by have := hcum.size; (try simp); omega) _).alloc (by have := hcum.size; (try simp); omega) _).alloc (by have := hcum.size; (try simp); omega) _).alloc (by have := hcum.size; (try simp); omega) _)) hb15
                              go_wp2_with fail
                              clear hHeld
                              refine hK.out _ _ ?_ (fun hHeld => ?_)
                              · exact MK2.out _ (hcum)
                              clear hK K
                              try simp only [Act.put, List.setIfInBounds_toArray, List.set_cons_zero, List.set_cons_succ]
                              refine wpAnyH_ready (rs := [59]) (by kernel_rfl) (by simp) ?_
                              refine AllReadyH.cons (o := _) rfl (fun K hK => ?_) ?_
                              · go_simp
                                go_at_call 13; refine (same_lit [xD, xC, xA] (by exact hr5) (by exact (RHs.ofLB (es := [xD, xC, xA]) hb15 (by simp only [heap_drew, heap_get, World.size_alloc]; simp [hcs, Hit.cells, Nat.add_assoc, exX, exS]))) rfl (by decide)).mono ?_
                                rintro e w16 ⟨rfl, hb16⟩
                                replace hcum := keepL (hcum) hb16
                                go_wp2_with fail
                                clear hHeld
                                refine hK.out _ _ ?_ (fun hHeld => ?_)
                                · exact MK2.out _ (hcum)
                                clear hK K
                                try simp only [Act.put, List.setIfInBounds_toArray, List.set_cons_zero, List.set_cons_succ]
                                refine take_at (i := 60) (oi := _) (v := ?_) (d := 99) rfl (by kernel_rfl) (by kernel_rfl) (by kernel_rfl) (by kernel_rfl) (fun _ _ _ h => h) (Or.inl ⟨by kernel_rfl, ?_⟩) hHeld ?_
                                rotate_left
                                · intro w0 hSw; (try dsimp only at hSw); go_simp <;> with_reducible rfl
                                try simp only [Act.put, List.setIfInBounds_toArray, List.set_cons_zero, List.set_cons_succ]
                                refine take_at (i := 61) (oi := _) (v := ?_) (d := 0) rfl (by kernel_rfl) (by kernel_rfl) (by kernel_rfl) (by kernel_rfl) (fun _ _ _ h => h) (Or.inl ⟨by kernel_rfl, ?_⟩) hHeld ?_
                                rotate_left
                                · intro w0 hSw; (try dsimp only at hSw); go_simp <;> with_reducible rfl
                                try simp only [Act.put, List.setIfInBounds_toArray, List.set_cons_zero, List.set_cons_succ]
                                refine wpAnyH_done (by kernel_rfl) ?_ _
                                go_wp2
                                go_ret
                                exact ⟨rfl, hB.trans (hcum.mono hB.size)⟩
                              exact AllReadyH.nil
                            exact AllReadyH.nil
                          exact AllReadyH.nil
                        exact AllReadyH.nil
                      exact AllReadyH.nil
                    refine AllReadyH.cons (o := _) rfl (fun K hK => ?_) ?_
                    · go_simp
                      clear hHeld
                      refine hK.out _ _ ?_ (fun hHeld => ?_)
                      · exact MK2.out _ ((hcum.alloc (by have := hcum.size; (try simp); omega) _))
                      clear hK K
                      try simp only [Act.put, List.setIfInBounds_toArray, List.set_cons_zero, List.set_cons_succ]
                      refine wpAnyH_ready (rs := [49, 58]) (by kernel_rfl) (by simp) ?_
                      refine AllReadyH.cons (o := _) rfl (fun K hK => ?_) ?_
                      · go_simp
                        clear hHeld
                        refine hK.out _ _ ?_ (fun hHeld => ?_)
                        · exact MK2.out _ (((hcum.alloc (by have := hcum.size; (try simp); omega) _).alloc (by have := hcum.size; (try simp); omega) _))
                        clear hK K
                        try simp only [Act.put, List.setIfInBounds_toArray, List.set_cons_zero, List.set_cons_succ]
                        refine wpAnyH_ready (rs := [53, 58]) (by kernel_rfl) (by simp) ?_
                        refine AllReadyH.cons (o := _) rfl (fun K hK => ?_) ?_
                        · go_simp
                          clear hHeld
                          refine hK.out _ _ ?_ (fun hHeld => ?_)
                          · exact MK2.out _ ((((hcum.alloc (by have := hcum.size; (try simp); omega) _).alloc (by have := hcum.size; (try simp); omega) _).alloc (by have := hcum.size; (try simp); omega) _))
                          clear hK K
                          try simp only [Act.put, List.setIfInBounds_toArray, List.set_cons_zero, List.set_cons_succ]
                          refine wpAnyH_ready (rs := [54, 58]) (by kernel_rfl) (by simp) ?_
                          refine AllReadyH.cons (o := _) rfl (fun K hK => ?_) ?_
                          · go_simp
                            go_at_call 20; refine (join_ex (by exact RLs.ofB (g1 := w8.heap.size + 1) (g2 := w8.heap.size) (by simp only [heap_drew, heap_get, World.size_alloc]; simp [hcs, Hit.cells, Nat.add_assoc, exX, exS]) (by simp only [heap_drew, heap_get, World.size_alloc]; simp [hcs, Hit.cells, Nat.add_assoc, exX, exS]) (by simp only [heap_drew, heap_get, World.size_alloc]; simp [hcs, Hit.cells, Nat.add_assoc, exX, exS]) rfl rfl)).mono ?_
                            rintro e w17 ⟨A9, c9, rfl, hr5, hb17⟩
                            replace hcum := keepL ((((hcum.alloc (by have := hcum.size; (try simp); omega) _).alloc (by have := hcum.size; (try simp); omega) _).alloc (by have := hcum.size; (try simp); omega) _)) hb17
                            go_wp2_with fail
                            clear hHeld
                            refine hK.out _ _ ?_ (fun hHeld => ?_)
                            · exact MK2.out _ (hcum)
                            clear hK K
                            try simp only [Act.put, List.setIfInBounds_toArray, List.set_cons_zero, List.set_cons_succ]
                            refine wpAnyH_ready (rs := [58]) (by kernel_rfl) (by simp) ?_
                            refine AllReadyH.cons (o := _) rfl (fun K hK => ?_) ?_
                            · go_simp
                              clear hHeld
                              refine hK.out _ _ ?_ (fun hHeld => ?_)
                              · exact MK2.out _ ((hcum.alloc (by have := hcum.size; (try simp); omega) _))
                              clear hK K
                              try simp only [Act.put, List.setIfInBounds_toArray, List.set_cons_zero, List.set_cons_succ]
                              refine wpAnyH_ready (rs := [59]) (by kernel_rfl) (by simp) ?_
                              refine AllReadyH.cons (o := _) rfl (fun K hK => ?_) ?_
                              · go_simp
                                go_at_call 13; refine (same_lit [xD, xC, xA] (by exact (RHs.upAt hr5 rfl)) (by exact (RHs.ofB (es := [xD, xC, xA]) (by simp only [heap_drew, heap_get, World.size_alloc]; simp [hcs, Hit.cells, Nat.add_assoc, exX, exS]))) rfl (by decide)).mono ?_
                                rintro e w18 ⟨rfl, hb18⟩
                                replace hcum := keepL ((hcum.alloc (by have := hcum.size; (try simp); omega) _)) hb18
                                go_wp2_with fail
                                clear hHeld
                                refine hK.out _ _ ?_ (fun hHeld => ?_)
                                · exact MK2.out _ (hcum)
                                clear hK K
                                try simp only [Act.put, List.setIfInBounds_toArray, List.set_cons_zero, List.set_cons_succ]
                                refine take_at (i := 60) (oi := _) (v := ?_) (d := 99) rfl (by kernel_rfl) (by kernel_rfl) (by kernel_rfl) (by kernel_rfl) (fun _ _ _ h => h) (Or.inl ⟨by kernel_rfl, ?_⟩) hHeld ?_
                                rotate_left
                                · intro w0 hSw; (try dsimp only at hSw); go_simp <;> with_reducible rfl
                                try simp only [Act.put, List.setIfInBounds_toArray, List.set_cons_zero, List.set_cons_succ]
                                refine take_at (i := 61) (oi := _) (v := ?_) (d := 0) rfl (by kernel_rfl) (by kernel_rfl) (by kernel_rfl) (by kernel_rfl) (fun _ _ _ h => h) (Or.inl ⟨by kernel_rfl, ?_⟩) hHeld ?_
                                rotate_left
                                · intro w0 hSw; (try dsimp only at hSw); go_simp <;> with_reducible rfl
                                try simp only [Act.put, List.setIfInBounds_toArray, List.set_cons_zero, List.set_cons_succ]
                                refine wpAnyH_done (by kernel_rfl) ?_ _
                                go_wp2
                                go_ret
                                exact ⟨rfl, hB.trans (hcum.mono hB.size)⟩
                              exact AllReadyH.nil
                            exact AllReadyH.nil
                          refine AllReadyH.cons (o := _) rfl (fun K hK => ?_) ?_
                          · go_simp
                            clear hHeld
                            refine hK.out _ _ ?_ (fun hHeld => ?_)
                            · exact MK2.out _ (((((hcum.alloc (by have := hcum.size; (try simp); omega) _).alloc (by have := hcum.size; (try simp); omega) _).alloc (by have := hcum.size; (try simp); omega) _).alloc (by have := hcum.size; (try simp); omega) _))
                            clear hK K
                            try simp only [Act.put, List.setIfInBounds_toArray, List.set_cons_zero, List.set_cons_succ]
                            refine wpAnyH_ready (rs := [54]) (by kernel_rfl) (by simp) ?_
                            refine AllReadyH.cons (o := _) rfl (fun K hK => ?_) ?_
                            · go_simp
                              go_at_call 20; refine (join_ex (by exact RLs.ofB (g1 := w8.heap.size + 1) (g2 := w8.heap.size) (by simp only [heap_drew, heap_get, World.size_alloc]; simp [hcs, Hit.cells, Nat.add_assoc, exX, exS]) (by simp only [heap_drew, heap_get, World.size_alloc]; simp [hcs, Hit.cells, Nat.add_assoc, exX, exS]) (by simp only [heap_drew, heap_get, World.size_alloc]; simp [hcs, Hit.cells, Nat.add_assoc, exX, exS]) rfl rfl)).mono ?_
                              rintro e w19 ⟨A9, c9, rfl, hr5, hb19⟩
                              replace hcum := keepL (((((hcum.alloc (by have := hcum.size; (try simp); omega) _).alloc (by have := hcum.size; (try simp); omega) _).alloc (by have := hcum.size; (try simp); omega) _).alloc (by have := hcum.size; (try simp); omega) _)) hb19
                              go_wp2_with fail
                              clear hHeld
                              refine hK.out _ _ ?_ (fun hHeld => ?_)
                              · exact MK2.out _ (hcum)
                              clear hK K
                              try simp only [Act.put, List.setIfInBounds_toArray, List.set_cons_zero, List.set_cons_succ]
                              refine wpAnyH_ready (rs := [59]) (by kernel_rfl) (by simp) ?_
                              refine AllReadyH.cons (o := _) rfl (fun K hK => ?_) ?_
                              · go_simp
                                go_at_call 13; refine (same_lit [xD, xC, xA] (by exact hr5) (by exact (RHs.ofLB (es := [xD, xC, xA]) hb19 (by simp only [heap_drew, heap_get, World.size_alloc]; simp [hcs, Hit.cells, Nat.add_assoc, exX, exS]))) rfl (by decide)).mono ?_
                                rintro e w20 ⟨rfl, hb20⟩
                                replace hcum := keepL (hcum) hb20
                                go_wp2_with fail
                                clear hHeld
                                refine hK.out _ _ ?_ (fun hHeld => ?_)
                                · exact MK2.out _ (hcum)
                                clear hK K
                                try simp only [Act.put, List.setIfInBounds_toArray, List.set_cons_zero, List.set_cons_succ]
                                refine take_at (i := 60) (oi := _) (v := ?_) (d := 99) rfl (by kernel_rfl) (by kernel_rfl) (by kernel_rfl) (by kernel_rfl) (fun _ _ _ h => h) (Or.inl ⟨by kernel_rfl, ?_⟩) hHeld ?_
                                rotate_left
                                · intro w0 hSw; (try dsimp only at hSw); go_simp <;> with_reducible rfl
                                try simp only [Act.put, List.setIfInBounds_toArray, List.set_cons_zero, List.set_cons_succ]
                                refine take_at (i := 61) (oi := _) (v := ?_) (d := 0) rfl (by kernel_rfl) (by kernel_rfl) (by kernel_rfl) (by kernel_rfl) (fun _ _ _ h => h) (Or.inl ⟨by kernel_rfl, ?_⟩) hHeld ?_
                                rotate_left
                                · intro w0 hSw; (try dsimp only at hSw); go_simp <;> with_reducible rfl
                                try simp only [Act.put, List.setIfInBounds_toArray, List.set_cons_zero, List.set_cons_succ]
                                refine wpAnyH_done (by kernel_rfl) ?_ _
                                go_wp2
                                go_ret
                                exact ⟨rfl, hB.trans (hcum.mono hB.size)⟩
                              exact AllReadyH.nil
                            exact AllReadyH.nil
                          exact AllReadyH.nil
                        refine AllReadyH.cons (o := _) rfl (fun K hK => ?_) ?_
                        · go_simp
                          clear hHeld
                          refine hK.out _ _ ?_ (fun hHeld => ?_)
                          · exact MK2.out _ ((((hcum.alloc (by have := hcum.size; (try simp); omega) _).alloc (by have := hcum.size; (try simp); omega) _).alloc (by have := hcum.size; (try simp); omega) _))
                          clear hK K
                          try simp only [Act.put, List.setIfInBounds_toArray, List.set_cons_zero, List.set_cons_succ]
                          refine wpAnyH_ready (rs := [53]) (by kernel_rfl) (by simp) ?_
                          refine AllReadyH.cons (o := _) rfl (fun K hK => ?_) ?_
                          · go_simp
                            clear hHeld
                            refine hK.out _ _ ?_ (fun hHeld => ?_)
                            · exact MK2.out _ (((((hcum.alloc (by have := hcum.size; (try simp); omega) _).alloc (by have := hcum.size; (try simp); omega) _).alloc (by have := hcum.size; (try simp); omega) _).alloc (by have := hcum.size; (try simp); omega) _))
                            clear hK K
                            try simp only [Act.put, List.setIfInBounds_toArray, List.set_cons_zero, List.set_cons_succ]
                            refine wpAnyH_ready (rs := [54]) (by kernel_rfl) (by simp) ?_
                            refine AllReadyH.cons (o := _) rfl (fun K hK => ?_) ?_
                            · go_simp
                              go_at_call 20; refine (join_ex (by exact RLs.ofB (g1 := w8.heap.size + 1) (g2 := w8.heap.size) (by simp only [heap_drew, heap_get, World.size_alloc]; simp [hcs, Hit.cells, Nat.add_assoc, exX, exS]) (by simp only [heap_drew, heap_get, World.size_alloc]; simp [hcs, Hit.cells, Nat.add_assoc, exX, exS]) (by simp only [heap_drew, heap_get, World.size_alloc]; simp [hcs, Hit.cells, Nat.add_assoc, exX, exS]) rfl rfl)).mono ?_
                              rintro e w21 ⟨A9, c9, rfl, hr5, hb21⟩
                              replace hcum := keepL (((((hcum.alloc (by have := hcum.size; (try simp); omega) _).alloc (by have := hcum.size; (try simp); omega) _).alloc (by have := hcum.size; (try simp); omega) _).alloc (by have := hcum.size; (try simp); omega) _)) hb21
                              go_wp2_with fail
                              clear hHeld
                              refine hK.out _ _ ?_ (fun hHeld => ?_)
                              · exact MK2.out _ (hcum)
                              clear hK K
                              try simp only [Act.put, List.setIfInBounds_toArray, List.set_cons_zero, List.set_cons_succ]
                              refine wpAnyH_ready (rs := [59]) (by kernel_rfl) (by simp) ?_
                              refine AllReadyH.cons (o := _) rfl (fun K hK => ?_) ?_
                              · go_simp
                                go_at_call 13; refine (same_lit [xD, xC, xA] (by exact hr5) (by exact (RHs.ofLB (es := [xD, xC, xA]) hb21 (by simp only [heap_drew, heap_get, World.size_alloc]; simp [hcs, Hit.cells, Nat.add_assoc, exX, exS]))) rfl (by decide)).mono ?_
                                rintro e w22 ⟨rfl, hb22⟩
                                replace hcum := keepL (hcum) hb22
                                go_wp2_with fail
                                clear hHeld
                                refine hK.out _ _ ?_ (fun hHeld => ?_)
                                · exact MK2.out _ (hcum)
                                clear hK K
                                try simp only [Act.put, List.setIfInBounds_toArray, List.set_cons_zero, List.set_cons_succ]
                                refine take_at (i := 60) (oi := _) (v := ?_) (d := 99) rfl (by kernel_rfl) (by kernel_rfl) (by kernel_rfl) (by kernel_rfl) (fun _ _ _ h => h) (Or.inl ⟨by kernel_rfl, ?_⟩) hHeld ?_
                                rotate_left
                                · intro w0 hSw; (try dsimp only at hSw); go_simp <;> with_reducible rfl
                                try simp only [Act.put, List.setIfInBounds_toArray, List.set_cons_zero, List.set_cons_succ]
                                refine take_at (i := 61) (oi := _) (v := ?_) (d := 0) rfl (by kernel_rfl) (by kernel_rfl) (by kernel_rfl) (by kernel_rfl) (fun _ _ _ h => h) (Or.inl ⟨by kernel_rfl, ?_⟩) hHeld ?_
                                rotate_left
                                · intro w0 hSw; (try dsimp only at hSw); go_simp <;> with_reducible rfl
                                try simp only [Act.put, List.setIfInBounds_toArray, List.set_cons_zero, List.set_cons_succ]
                                refine wpAnyH_done (by kernel_rfl) ?_ _
                                go_wp2
                                go_ret
                                exact ⟨rfl, hB.trans (hcum.mono hB.size)⟩
                              exact AllReadyH.nil
                            exact AllReadyH.nil
                          exact AllReadyH.nil
                        exact AllReadyH.nil
                      refine AllReadyH.cons (o := _) rfl (fun K hK => ?_) ?_
                      · go_simp
                        clear hHeld
                        refine hK.out _ _ ?_ (fun hHeld => ?_)
                        · exact MK2.out _ (((hcum.alloc (by have := hcum.size; (try simp); omega) _).alloc (by have := hcum.size; (try simp); omega) _))
                        clear hK K
                        try simp only [Act.put, List.setIfInBounds_toArray, List.set_cons_zero, List.set_cons_succ]
                        refine wpAnyH_ready (rs := [49]) (by kernel_rfl) (by simp) ?_
                        refine AllReadyH.cons (o := _) rfl (fun K hK => ?_) ?_
                        · go_simp
                          clear hHeld
                          refine hK.out _ _ ?_ (fun hHeld => ?_)
                          · exact MK2.out _ ((((hcum.alloc (by have := hcum.size; (try simp); omega) _).alloc (by have := hcum.size; (try simp); omega) _).alloc (by have := hcum.size; (try simp); omega) _))
                          clear hK K
                          try simp only [Act.put, List.setIfInBounds_toArray, List.set_cons_zero, List.set_cons_succ]
                          refine wpAnyH_ready (rs := [53]) (by kernel_rfl) (by simp) ?_
                          refine AllReadyH.cons (o := _) rfl (fun K hK => ?_) ?_
                          · go_simp
                            clear hHeld
                            refine hK.out _ _ ?_ (fun hHeld => ?_)
                            · exact MK2.out _ (((((hcum.alloc (by have := hcum.size; (try simp); omega) _).alloc (by have := hcum.size; (try simp); omega) _).alloc (by have := hcum.size; (try simp); omega) _).alloc (by have := hcum.size; (try simp); omega) _))
                            clear hK K
                            try simp only [Act.put, List.setIfInBounds_toArray, List.set_cons_zero, List.set_cons_succ]
                            refine wpAnyH_ready (rs := [54]) (by kernel_rfl) (by simp) ?_
                            refine AllReadyH.cons (o := _) rfl (fun K hK => ?_) ?_
                            · go_simp
                              go_at_call 20; refine (join_ex (by exact RLs.ofB (g1 := w8.heap.size + 1 + 1) (g2 := w8.heap.size) (by simp only [heap_drew, heap_get, World.size_alloc]; simp [hcs, Hit.cells, Nat.add_assoc, exX, exS]) (by simp only [heap_drew, heap_get, World.size_alloc]; simp [hcs, Hit.cells, Nat.add_assoc, exX, exS]) (by simp only [heap_drew, heap_get, World.size_alloc]; simp [hcs, Hit.cells, Nat.add_assoc, exX, exS]) rfl rfl)).mono ?_
                              rintro e w23 ⟨A9, c9, rfl, hr5, hb23⟩
                              replace hcum := keepL (((((hcum.alloc (by have := hcum.size; (try simp); omega) _).alloc (by have := hcum.size; (try simp); omega) _).alloc (by have := hcum.size; (try simp); omega) _).alloc (by have := hcum.size; (try simp); omega) _)) hb23
                              go_wp2_with fail
                              clear hHeld
                              refine hK.out _ _ ?_ (fun hHeld => ?_)
                              · exact MK2.out _ (hcum)
                              clear hK K
                              try simp only [Act.put, List.setIfInBounds_toArray, List.set_cons_zero, List.set_cons_succ]
                              refine wpAnyH_ready (rs := [59]) (by kernel_rfl) (by simp) ?_
                              refine AllReadyH.cons (o := _) rfl (fun K hK => ?_) ?_
                              · go_simp
                                go_at_call 13; refine (same_lit [xD, xC, xA] (by exact hr5) (by exact (RHs.ofLB (es := [xD, xC, xA]) hb23 (by simp only [heap_drew, heap_get, World.size_alloc]; simp [hcs, Hit.cells, Nat.add_assoc, exX, exS]))) rfl (by decide)).mono ?_
                                rintro e w24 ⟨rfl, hb24⟩
                                replace hcum := keepL (hcum) hb24
                                go_wp2_with fail
                                clear hHeld
                                refine hK.out _ _ ?_ (fun hHeld => ?_)
                                · exact MK2.out _ (hcum)
                                clear hK K
                                try simp only [Act.put, List.setIfInBounds_toArray, List.set_cons_zero, List.set_cons_succ]
                                refine take_at (i := 60) (oi := _) (v := ?_) (d := 99) rfl (by kernel_rfl) (by kernel_rfl) (by kernel_rfl) (by kernel_rfl) (fun _ _ _ h => h) (Or.inl ⟨by kernel_rfl, ?_⟩) hHeld ?_
                                rotate_left
                                · intro w0 hSw; (try dsimp only at hSw); go_simp <;> with_reducible rfl
                                try simp only [Act.put, List.setIfInBounds_toArray, List.set_cons_zero, List.set_cons_succ]
                                refine take_at (i := 61) (oi := _) (v := ?_) (d := 0) rfl (by kernel_rfl) (by kernel_rfl) (by kernel_rfl) (by kernel_rfl) (fun _ _ _ h => h) (Or.inl ⟨by kernel_rfl, ?_⟩) hHeld ?_
                                rotate_left
                                · intro w0 hSw; (try dsimp only at hSw); go_simp <;> with_reducible rfl
                                try simp only [Act.put, List.setIfInBounds_toArray, List.set_cons_zero, List.set_cons_succ]
                                refine wpAnyH_done (by kernel_rfl) ?_ _
                                go_wp2
                                go_ret
                                exact ⟨rfl, hB.trans (hcum.mono hB.size)⟩
                              exact AllReadyH.nil
                            exact AllReadyH.nil
                          exact AllReadyH.nil
                        exact AllReadyH.nil
                      exact AllReadyH.nil
                    refine AllReadyH.cons (o := _) rfl (fun K hK => ?_) ?_
                    · go_simp
                      clear hHeld
                      refine hK.out _ _ ?_ (fun hHeld => ?_)
                      · exact MK2.out _ ((hcum.alloc (by have := hcum.size; (try simp); omega) _))
                      clear hK K
                      try simp only [Act.put, List.setIfInBounds_toArray, List.set_cons_zero, List.set_cons_succ]
                      refine wpAnyH_ready (rs := [49, 52]) (by kernel_rfl) (by simp) ?_
                      refine AllReadyH.cons (o := _) rfl (fun K hK => ?_) ?_
                      · go_simp
                        clear hHeld
                        refine hK.out _ _ ?_ (fun hHeld => ?_)
                        · exact MK2.out _ (((hcum.alloc (by have := hcum.size; (try simp); omega) _).alloc (by have := hcum.size; (try simp); omega) _))
                        clear hK K
                        try simp only [Act.put, List.setIfInBounds_toArray, List.set_cons_zero, List.set_cons_succ]
                        refine wpAnyH_ready (rs := [52]) (by kernel_rfl) (by simp) ?_
                        refine AllReadyH.cons (o := _) rfl (fun K hK => ?_) ?_
                        · go_simp
                          clear hHeld
                          refine hK.out _ _ ?_ (fun hHeld => ?_)
                          · exact MK2.out _ ((((hcum.alloc (by have := hcum.size; (try simp); omega) _).alloc (by have := hcum.size; (try simp); omega) _).alloc (by have := hcum.size; (try simp); omega) _))
                          clear hK K
                          try simp only [Act.put, List.setIfInBounds_toArray, List.set_cons_zero, List.set_cons_succ]
                          refine wpAnyH_ready (rs := [53]) (by kernel_rfl) (by simp) ?_
                          refine AllReadyH.cons (o := _) rfl (fun K hK => ?_) ?_
                          · go_simp
                            clear hHeld
                            refine hK.out _ _ ?_ (fun hHeld => ?_)
                            · exact MK2.out _ (((((hcum.alloc (by have := hcum.size; (try simp); omega) _).alloc (by have := hcum.size; (try simp); omega) _).alloc (by have := hcum.size; (try simp); omega) _).alloc (by have := hcum.size; (try simp); omega) _))
                            clear hK K
                            try simp only [Act.put, List.setIfInBounds_toArray, List.set_cons_zero, List.set_cons_succ]
                            refine wpAnyH_ready (rs := [54]) (by kernel_rfl) (by simp) ?_
                            refine AllReadyH.cons (o := _) rfl (fun K hK => ?_) ?_
                            · go_simp
                              go_at_call 20; refine (join_ex (by exact RLs.ofB (g1 := w8.heap.size + 1) (g2 := w8.heap.size + 1 + 1) (by simp only [heap_drew, heap_get, World.size_alloc]; simp [hcs, Hit.cells, Nat.add_assoc, exX, exS]) (by simp only [heap_drew, heap_get, World.size_alloc]; simp [hcs, Hit.cells, Nat.add_assoc, exX, exS]) (by simp only [heap_drew, heap_get, World.size_alloc]; simp [hcs, Hit.cells, Nat.add_assoc, exX, exS]) rfl rfl)).mono ?_
                              rintro e w25 ⟨A9, c9, rfl, hr5, hb25⟩
                              replace hcum := keepL (((((hcum.alloc (by have := hcum.size; (try simp); omega) _).alloc (by have := hcum.size; (try simp); omega) _).alloc (by have := hcum.size; (try simp); omega) _).alloc (by have := hcum.size; (try simp); omega) _)) hb25
                              go_wp2_with fail
                              clear hHeld
                              refine hK.out _ _ ?_ (fun hHeld => ?_)
                              · exact MK2.out _ (hcum)
                              clear hK K
                              try simp only [Act.put, List.setIfInBounds_toArray, List.set_cons_zero, List.set_cons_succ]
                              refine wpAnyH_ready (rs := [59]) (by kernel_rfl) (by simp) ?_
                              refine AllReadyH.cons (o := _) rfl (fun K hK => ?_) ?_
                              · go_simp
                                go_at_call 13; refine (same_lit [xD, xC, xA] (by exact hr5) (by exact (RHs.ofLB (es := [xD, xC, xA]) hb25 (by simp only [heap_drew, heap_get, World.size_alloc]; simp [hcs, Hit.cells, Nat.add_assoc, exX, exS]))) rfl (by decide)).mono ?_
                                rintro e w26 ⟨rfl, hb26⟩
                                replace hcum := keepL (hcum) hb26
                                go_wp2_with fail
                                clear hHeld
                                refine hK.out _ _ ?_ (fun hHeld => ?_)
                                · exact MK2.out _ (hcum)
                                clear hK K
                                try simp only [Act.put, List.setIfInBounds_toArray, List.set_cons_zero, List.set_cons_succ]
                                refine take_at (i := 60) (oi := _) (v := ?_) (d := 99) rfl (by kernel_rfl) (by kernel_rfl) (by kernel_rfl) (by kernel_rfl) (fun _ _ _ h => h) (Or.inl ⟨by kernel_rfl, ?_⟩) hHeld ?_
                                rotate_left
                                · intro w0 hSw; (try dsimp only at hSw); go_simp <;> with_reducible rfl
                                try simp only [Act.put, List.setIfInBounds_toArray, List.set_cons_zero, List.set_cons_succ]
                                refine take_at (i := 61) (oi := _) (v := ?_) (d := 0) rfl (by kernel_rfl) (by kernel_rfl) (by kernel_rfl) (by kernel_rfl) (fun _ _ _ h => h) (Or.inl ⟨by kernel_rfl, ?_⟩) hHeld ?_
                                rotate_left
                                · intro w0 hSw; (try dsimp only at hSw); go_simp <;> with_reducible rfl
                                try simp only [Act.put, List.setIfInBounds_toArray, List.set_cons_zero, List.set_cons_succ]
                                refine wpAnyH_done (by kernel_rfl) ?_ _
                                go_wp2
                                go_ret
                                exact ⟨rfl, hB.trans (hcum.mono hB.size)⟩
                              exact AllReadyH.nil
                            exact AllReadyH.nil
                          exact AllReadyH.nil
                        exact AllReadyH.nil
                      refine AllReadyH.cons (o := _) rfl (fun K hK => ?_) ?_
                      · go_simp
                        clear hHeld
                        refine hK.out _ _ ?_ (fun hHeld => ?_)
                        · exact MK2.out _ (((hcum.alloc (by have := hcum.size; (try simp); omega) _).alloc (by have := hcum.size; (try simp); omega) _))
                        clear hK K
                        try simp only [Act.put, List.setIfInBounds_toArray, List.set_cons_zero, List.set_cons_succ]
                        refine wpAnyH_ready (rs := [49]) (by kernel_rfl) (by simp) ?_
                        refine AllReadyH.cons (o := _) rfl (fun K hK => ?_) ?_
                        · go_simp
                          clear hHeld
                          refine hK.out _ _ ?_ (fun hHeld => ?_)
                          · exact MK2.out _ ((((hcum.alloc (by have := hcum.size; (try simp); omega) _).alloc (by have := hcum.size; (try simp); omega) _).alloc (by have := hcum.size; (try simp); omega) _))
                          clear hK K
                          try simp only [Act.put, List.setIfInBounds_toArray, List.set_cons_zero, List.set_cons_succ]
                          refine wpAnyH_ready (rs := [53]) (by kernel_rfl) (by simp) ?_
                          refine AllReadyH.cons (o := _) rfl (fun K hK => ?_) ?_
                          · go_simp
                            clear hHeld
                            refine hK.out _ _ ?_ (fun hHeld => ?_)
                            · exact MK2.out _ (((((hcum.alloc (by have := hcum.size; (try simp); omega) _).alloc (by have := hcum.size; (try simp); omega) _).alloc (by have := hcum.size; (try simp); omega) _).alloc (by have := hcum.size; (try simp); omega) _))
                            clear hK K
                            try simp only [Act.put, List.setIfInBounds_toArray, List.set_cons_zero, List.set_cons_succ]
                            refine wpAnyH_ready (rs := [54]) (by kernel_rfl) (by simp) ?_
                            refine AllReadyH.cons (o := _) rfl (fun K hK => ?_) ?_
                            · go_simp
                              go_at_call 20; refine (join_ex (by exact RLs.ofB (g1 := w8.heap.size + 1 + 1) (g2 := w8.heap.size + 1) (by simp only [heap_drew, heap_get, World.size_alloc]; simp [hcs, Hit.cells, Nat.add_assoc, exX, exS]) (by simp only [heap_drew, heap_get, World.size_alloc]; simp [hcs, Hit.cells, Nat.add_assoc, exX, exS]) (by simp only [heap_drew, heap_get, World.size_alloc]; simp [hcs, Hit.cells, Nat.add_assoc, exX, exS]) rfl rfl)).mono ?_
                              rintro e w27 ⟨A9, c9, rfl, hr5, hb27⟩
                              replace hcum := keepL (((((hcum.alloc (by have := hcum.size; (try simp); omega) _).alloc (by have := hcum.size; (try simp); omega) _).alloc (by have := hcum.size; (try simp); omega) _).alloc (by have := hcum.size; (try simp); omega) _)) hb27
                              go_wp2_with fail
                              clear hHeld
                              refine hK.out _ _ ?_ (fun hHeld => ?_)
                              · exact MK2.out _ (hcum)
                              clear hK K
                              try simp only [Act.put, List.setIfInBounds_toArray, List.set_cons_zero, List.set_cons_succ]
                              refine wpAnyH_ready (rs := [59]) (by kernel_rfl) (by simp) ?_
                              refine AllReadyH.cons (o := _) rfl (fun K hK => ?_) ?_
                              · go_simp
                                go_at_call 13; refine (same_lit [xD, xC, xA] (by exact hr5) (by exact (RHs.ofLB (es := [xD, xC, xA]) hb27 (by simp only [heap_drew, heap_get, World.size_alloc]; simp [hcs, Hit.cells, Nat.add_assoc, exX, exS]))) rfl (by decide)).mono ?_
                                rintro e w28 ⟨rfl, hb28⟩
                                replace hcum := keepL (hcum) hb28
                                go_wp2_with fail
                                clear hHeld
                                refine hK.out _ _ ?_ (fun hHeld => ?_)
                                · exact MK2.out _ (hcum)
                                clear hK K
                                try simp only [Act.put, List.setIfInBounds_toArray, List.set_cons_zero, List.set_cons_succ]
                                refine take_at (i := 60) (oi := _) (v := ?_) (d := 99) rfl (by kernel_rfl) (by kernel_rfl) (by kernel_rfl) (by kernel_rfl) (fun _ _ _ h => h) (Or.inl ⟨by kernel_rfl, ?_⟩) hHeld ?_
                                rotate_left
                                · intro w0 hSw; (try dsimp only at hSw); go_simp <;> with_reducible rfl
                                try simp only [Act.put, List.setIfInBounds_toArray, List.set_cons_zero, List.set_cons_succ]
                                refine take_at (i := 61) (oi := _) (v := ?_) (d := 0) rfl (by kernel_rfl) (by kernel_rfl) (by kernel_rfl) (by kernel_rfl) (fun _ _ _ h => h) (Or.inl ⟨by kernel_rfl, ?_⟩) hHeld ?_
                                rotate_left
                                · intro w0 hSw; (try dsimp only at hSw); go_simp <;> with_reducible rfl
                                try simp only [Act.put, List.setIfInBounds_toArray, List.set_cons_zero, List.set_cons_succ]
                                refine wpAnyH_done (by kernel_rfl) ?_ _
                                go_wp2
                                go_ret
                                exact ⟨rfl, hB.trans (hcum.mono hB.size)⟩
                              exact AllReadyH.nil
                            exact AllReadyH.nil
                          exact AllReadyH.nil
                        exact AllReadyH.nil
                      exact AllReadyH.nil
                    exact AllReadyH.nil
                  exact AllReadyH.nil
                exact AllReadyH.nil
              exact AllReadyH.nil
            exact AllReadyH.nil
end Go.Proofs.Ytjpgcfcacfhmiaa
