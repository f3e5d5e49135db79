/- RankKnown's law, walked: the chapter's examples; ties of each kind; ends. -/
import Derived.Test.YtjpgcfcacfhmiaaWorks
import Derived.Test.YtjpgcfcacfhmiaaFact
namespace Go.Proofs.Ytjpgcfcacfhmiaa
open Go.RowKit
set_option linter.unusedSimpArgs false
set_option linter.unusedVariables false
set_option linter.unnecessarySimpa false
def xG : Hit := ⟨⟨#[97]⟩, 0, true, 0⟩
def xX : Hit := ⟨⟨#[120]⟩, 1, false, 1⟩
theorem lk (a b : Hit) (q : Bool) (h : refLess a b = q) : lessH a b = q := by rw [less_ref]; exact h
theorem lk6 : lessH ⟨⟨#[97]⟩, 0, false, 0⟩ xG = true := by apply lk; simp only [refLess, xG, ByteArray.toList_eq]; decide
theorem lk11 : lessH xG ⟨⟨#[97]⟩, 0, false, 0⟩ = false := by apply lk; simp only [refLess, xG, ByteArray.toList_eq]; decide
theorem lk17 : lessH xG ⟨⟨#[98]⟩, 0, false, 0⟩ = true := by apply lk; simp only [refLess, xG, ByteArray.toList_eq]; decide
theorem lk22 : lessH ⟨⟨#[97, 98]⟩, 3, false, 1⟩ ⟨⟨#[97, 98, 99]⟩, 3, false, 1⟩ = true := by apply lk; simp only [refLess, ByteArray.toList_eq]; decide
theorem lk27 : lessH ⟨⟨#[122]⟩, 4, false, 1⟩ ⟨⟨#[97]⟩, 3, false, 1⟩ = true := by apply lk; simp only [refLess, ByteArray.toList_eq]; decide
theorem lk32 : lessH ⟨⟨#[122]⟩, 0, false, 1⟩ ⟨⟨#[97]⟩, 9, false, 2⟩ = true := by apply lk; simp only [refLess, ByteArray.toList_eq]; decide
theorem lk37 : lessH ⟨⟨#[]⟩, 1, false, 0⟩ ⟨⟨#[0]⟩, 1, false, 0⟩ = true := by apply lk; simp only [refLess, ByteArray.toList_eq]; decide
theorem lk42 : lessH ⟨⟨#[97]⟩, 1, false, -1⟩ ⟨⟨#[97]⟩, 1, false, 0⟩ = true := by apply lk; simp only [refLess, ByteArray.toList_eq]; decide
theorem less10k {a b : Hit} {q : Bool} (hq : lessH a b = q) (w : World) : Calls Try.prog 10 #[.agg #[.string a.word, .int .u32 a.weight, .bool a.gone, .int .i64 a.dist], .agg #[.string b.word, .int .u32 b.weight, .bool b.gone, .int .i64 b.dist]] w fun e w' => e = .returned (.bool q) ∧ Below w.heap.size w w' := by
  subst hq
  exact less10 a b w
theorem sort_nil (w : World) : Calls Try.prog 11 #[.slice none 0 0] w fun e w' => ∃ A c, e = .returned (.slice A 0 c) ∧ Below w.heap.size w w' := by
  refine (sort11 [] none 0 w (by decide) RHs.nil_).mono ?_
  rintro e w2 ⟨A, c, rfl, _, _, hb⟩
  exact ⟨A, c, by rw [sortH_length]; rfl, hb⟩
theorem top_9 {A : Option Addr} {c : Nat} {w : World} (h : RHs w w.heap.size A [xX]) : Calls Try.prog 15 #[.int .i64 9, .slice A 1 c] w fun e w' => ∃ A' c', e = .returned (.tuple #[.slice A' 1 c', .int .i64 0]) ∧ Below w.heap.size w w' := by
  refine (top15 9 [xX] A c w (by decide) h).mono ?_
  rintro e w2 ⟨A', c', rfl, _, _, hb⟩
  exact ⟨A', c', by rw [topH_length]; rfl, hb⟩
theorem join_nil (w : World) : Calls Try.prog 20 #[.int .i64 5, .slice none 0 0] w fun e w' => ∃ A c, e = .returned (.slice A 0 c) ∧ Below w.heap.size w w' := by
  refine (join20 5 [] none 0 w (by decide) (by decide) (fun l hl => by cases hl) (fun h => absurd h (by decide))).mono ?_
  rintro e w2 ⟨A, c, rfl, _, _, hb⟩
  exact ⟨A, c, by rw [topH_length]; rfl, hb⟩
theorem one_sorted (x : Hit) : Sorted [x] := List.pairwise_singleton _ _
theorem join_one {n : Int} (hn : n ≤ 0) {A : Option Addr} {c : Nat} {w : World} (h : RLs w w.heap.size A [[xG]]) : Calls Try.prog 20 #[.int .i64 n, .slice A 1 c] w fun e w' => ∃ A c, e = .returned (.slice A 0 c) ∧ Below w.heap.size w w' := by
  refine (join20 n [[xG]] A c w (by decide) (by decide) (fun l hl => by simp at hl; subst hl; exact one_sorted _) h).mono ?_
  rintro e w2 ⟨A, c, rfl, _, _, hb⟩
  exact ⟨A, c, by rw [topH_length, show (min n (([[xG]] : List (List Hit)).flatten.length : Int)).toNat = 0 by simp; omega], hb⟩
theorem join_three {A : Option Addr} {c : Nat} {w : World} (h : RLs w w.heap.size A [[], [xG], []]) : Calls Try.prog 20 #[.int .i64 5, .slice A 3 c] w fun e w' => ∃ A c, e = .returned (.slice A 1 c) ∧ Below w.heap.size w w' := by
  refine (join20 5 [[], [xG], []] A c w (by decide) (by decide) (fun l hl => by
    simp only [List.mem_cons, List.not_mem_nil, or_false] at hl
    rcases hl with rfl | rfl | rfl
    · exact List.Pairwise.nil
    · exact one_sorted _
    · exact List.Pairwise.nil) h).mono ?_
  rintro e w2 ⟨A, c, rfl, _, _, hb⟩
  exact ⟨A, c, by rw [topH_length]; rfl, hb⟩
theorem rank_nil (w : World) : Calls Try.prog 17 #[.slice none 0 0, .agg #[.string xG.word, .int .u32 xG.weight, .bool xG.gone, .int .i64 xG.dist]] w fun e w' => e = .returned (.int .i64 0) ∧ Below w.heap.size w w' :=
  rank17 [] none 0 xG w (by decide) RHs.nil_
theorem rank_two {A : Option Addr} {c : Nat} {w : World} (h : RHs w w.heap.size A [xG, xG]) : Calls Try.prog 17 #[.slice A 2 c, .agg #[.string xG.word, .int .u32 xG.weight, .bool xG.gone, .int .i64 xG.dist]] w fun e w' => e = .returned (.int .i64 0) ∧ Below w.heap.size w w' := by
  have h1 := rank17 [xG, xG] A c xG w (by decide) h
  rw [show ([xG, xG] : List Hit).countP (lessH · xG) = 0 by simp [List.countP_cons, lt_irrefl]] at h1
  exact h1
theorem RLs.of1 {W : World} {g1 g3 : Nat} (h1 : W.heap[g1]? = some (.cells (hcs [xG]).toArray 26 (0, 0))) (h3 : W.heap[g3]? = some (.cells #[.slice (some ⟨g1, 0, none⟩) 1 1] 30 (0, 0))) : RLs W W.heap.size (some ⟨g3, 0, none⟩) [[xG]] := by
  refine fun _ => ⟨g3, 0, rfl, (Array.getElem?_eq_some_iff.1 h3).1, fun i l hi => ?_⟩
  match i, hi with
  | 0, hi => injection hi with hi; subst hi; exact ⟨_, _, cell_of_row _ _ 0 _ 30 (0, 0) h3, Nat.le_refl _, RHs.ofB h1⟩
  | n + 1, hi => simp at hi
theorem RLs.of3 {W : World} {g1 g3 : Nat} (h1 : W.heap[g1]? = some (.cells (hcs [xG]).toArray 26 (0, 0))) (h3 : W.heap[g3]? = some (.cells #[.slice none 0 0, .slice (some ⟨g1, 0, none⟩) 1 1, .slice none 0 0] 30 (0, 0))) : RLs W W.heap.size (some ⟨g3, 0, none⟩) [[], [xG], []] := by
  refine fun _ => ⟨g3, 0, rfl, (Array.getElem?_eq_some_iff.1 h3).1, fun i l hi => ?_⟩
  match i, hi with
  | 0, hi => injection hi with hi; subst hi; exact ⟨_, _, cell_of_row _ _ 0 _ 30 (0, 0) h3, Nat.le_refl _, RHs.nil_⟩
  | 1, hi => injection hi with hi; subst hi; exact ⟨_, _, cell_of_row _ _ 1 _ 30 (0, 0) h3, Nat.le_refl _, RHs.ofB h1⟩
  | 2, hi => injection hi with hi; subst hi; exact ⟨_, _, cell_of_row _ _ 2 _ 30 (0, 0) h3, Nat.le_refl _, RHs.nil_⟩
  | n + 3, hi => simp at hi
def PSl (n : Nat) : Stab.Pr := fun v _ => ∃ A c, v = .slice A n c
theorem PSl.stable (n : Nat) : Stab.Stable (PSl n) := fun _ _ _ _ h => h
def PHs (es : List Hit) : Stab.Pr := fun v w => ∃ A c, v = .slice A es.length c ∧ es.length ≤ c ∧ RHs w w.heap.size A es
theorem PHs.stable (es : List Hit) : Stab.Stable (PHs es) := fun _ _ _ hb ⟨A, c, h, hc, hr⟩ => ⟨A, c, h, hc, (hr.below hb).more hb.size⟩
def PLs (L : List (List Hit)) : Stab.Pr := fun v w => ∃ A c, v = .slice A L.length c ∧ RLs w w.heap.size A L
theorem PLs.stable (L : List (List Hit)) : Stab.Stable (PLs L) := fun _ _ _ hb ⟨A, c, h, hr⟩ => ⟨A, c, h, (hr.below hb).more hb.size⟩
theorem rls_three (W : World) {A : Option Addr} {l : List Hit} {n c : Nat} (hn : n = l.length) (hc : n ≤ c) (h : RHs W W.heap.size A l) : RLs (W.alloc (.cells #[.slice none 0 0, .slice A n c, .slice none 0 0] 30)) (W.alloc (.cells #[.slice none 0 0, .slice A n c, .slice none 0 0] 30)).heap.size (some ⟨W.heap.size, 0, none⟩) [[], l, []] := by
  subst hn
  refine RLs.more (RLs.new W _ _ (fun i l' hi => ?_)) (by simp)
  match i, hi with
  | 0, hi => simp at hi; subst hi; exact ⟨none, 0, rfl, Nat.le_refl _, RHs.nil_⟩
  | 1, hi => simp at hi; subst hi; exact ⟨_, _, rfl, hc, h⟩
  | 2, hi => simp at hi; subst hi; exact ⟨none, 0, rfl, Nat.le_refl _, RHs.nil_⟩
  | k + 3, hi => simp at hi
set_option maxHeartbeats 40000000 in
set_option maxRecDepth 100000 in
theorem known7 (w : World) : Calls Try.prog 7 #[] w fun e w' => e = .returned (.bool true) ∧ Below w.heap.size w w' := by
  go_enter Try.func7, Try.ntmps7
  go_upto_region 3 with (go_at_call 21; refine (hit21' _ _ _ _).mono ?_; rintro e w1 ⟨rfl, hb1⟩)
  have hbw := hb1.alloc hb1.size (.cells #[.string ⟨#[97]⟩, .int .u32 0, .bool true, .int .i64 0] 26)
  have hbk2 : B4 (w1.alloc (.cells #[.string ⟨#[97]⟩, .int .u32 0, .bool true, .int .i64 0] 26)) w1.heap.size xG := B4.new w1 xG
  generalize w1.alloc (.cells #[.string ⟨#[97]⟩, .int .u32 0, .bool true, .int .i64 0] 26) = W at *
  generalize w1.heap.size = pg at *
  go_upto_region 4 with (first
    | (go_at_call 21; refine (hit21' _ _ _ _).mono ?_; rintro e w2 ⟨rfl, hb2⟩)
    | (go_at_call 15; refine (top_9 (RHs.lit (es := [xX]) rfl)).mono ?_; rintro e w3 ⟨A2, c2, rfl, hb3⟩))
  have hbc := hb2.trans ((((Below.refl _ _).alloc (Nat.le_refl _) _).trans (hb3.mono (by simp))).mono hb2.size)
  have hbB : Below w.heap.size w w3 := hbw.trans (hbc.mono hbw.size)
  have hpg := (hbk2.below hbc)
  have mk : ∀ w' : World, Below w3.heap.size w3 w' → (Below w3.heap.size w3 w' ∧ w'.cell? ⟨pg, 0, none⟩ = some (.string xG.word) ∧ w'.cell? ⟨pg, 1, none⟩ = some (.int .u32 xG.weight) ∧ w'.cell? ⟨pg, 2, none⟩ = some (.bool xG.gone) ∧ w'.cell? ⟨pg, 3, none⟩ = some (.int .i64 xG.dist)) := fun w' hw => by
    obtain ⟨a0, a1, a2, a3⟩ := (hpg.below hw).cells
    exact ⟨hw, a0, a1, a2, a3⟩
  have MK := Lib.hid mk
  clear mk hpg hbc hb2 hb3 hbk2 hbw hb1 w1
  refine Fact.reLit (n := 113) (by kernel_rfl) (fun a hf hT => ?_)
  have s1 := hT 1 _ rfl
  have s2 := hT 2 _ rfl
  have s3 := hT 3 _ rfl
  clear hT
  have hz := hf.size
  refine Stab.todo_begin (n := 113) (Stab.OkOps.of (by kernel_rfl)) (fun hok => ?_)
  apply Stab.todo_is (k := 0) (n := 113) _ hf.size hok.out rfl
  · intro a1 w1 hh hd hk K hK
    refine Stab.op_plain (o := _) rfl rfl ?_
    clear hd
    go_simp
    exact hK.out _ rfl _ _ (Below.refl _ _) rfl
  apply Stab.todo_is (k := 1) (n := 113) _ hf.size hok.out rfl
  · intro a1 w1 hh hd hk K hK
    have s13 := Stab.use_is (j := 0) (m := 0) hd hk rfl [] (by kernel_rfl) rfl rfl rfl
    refine Stab.op_guard (o := _) rfl rfl rfl rfl s13 ?_
    clear hd
    go_simp
    go_at_call 8; refine (works8 _).mono ?_; rintro e w2 ⟨rfl, hb⟩
    exact hK.out _ rfl _ _ hb rfl
  apply Stab.todo_is (k := 2) (n := 113) _ hf.size hok.out rfl
  · intro a1 w1 hh hd hk K hK
    refine Stab.op_plain (o := _) rfl rfl ?_
    have s13 := Stab.use_is (j := 0) (m := 1) hd hk rfl [] (by kernel_rfl) rfl rfl rfl
    have s14 := Stab.use_is (j := 1) (m := 0) hd hk rfl [] (by kernel_rfl) rfl rfl rfl
    clear hd
    go_simp
    exact hK.out _ rfl _ _ (Below.refl _ _) rfl
  apply Stab.todo_is (k := 3) (n := 113) _ hf.size hok.out rfl
  · intro a1 w1 hh hd hk K hK
    refine Stab.op_plain (o := _) rfl rfl ?_
    have s15 := Stab.use_is (j := 2) (m := 0) hd hk rfl [] (by kernel_rfl) rfl rfl rfl
    clear hd
    go_simp
    exact hK.out _ rfl _ _ (Below.refl _ _) rfl
  apply Stab.todo_is (k := 4) (n := 113) _ hf.size hok.out rfl
  · intro a1 w1 hh hd hk K hK
    have s16 := Stab.use_is (j := 3) (m := 0) hd hk rfl [] (by kernel_rfl) rfl rfl rfl
    refine Stab.op_guard (o := _) rfl rfl rfl rfl s16 ?_
    clear hd
    go_simp
    go_at_call 21; refine (hit21' _ _ _ _).mono ?_; rintro e w2 ⟨rfl, hb⟩
    exact hK.out _ rfl _ _ hb rfl
  apply Stab.todo_is (k := 5) (n := 113) _ hf.size hok.out rfl
  · intro a1 w1 hh hd hk K hK
    have s16 := Stab.use_is (j := 3) (m := 1) hd hk rfl [] (by kernel_rfl) rfl rfl rfl
    refine Stab.op_guard (o := _) rfl rfl rfl rfl s16 ?_
    have s1 := Stab.old_at (t := 1) hh (by kernel_rfl) s1
    clear hd
    obtain ⟨c0, c1, c2, c3⟩ := MK.out w1 hh.ext
    go_simp
    exact hK.out _ rfl _ _ (Below.refl _ _) rfl
  apply Stab.todo_is (k := 6) (n := 113) _ hf.size hok.out rfl
  · intro a1 w1 hh hd hk K hK
    have s16 := Stab.use_is (j := 3) (m := 2) hd hk rfl [] (by kernel_rfl) rfl rfl rfl
    refine Stab.op_guard (o := _) rfl rfl rfl rfl s16 ?_
    have s17 := Stab.use_is (j := 4) (m := 1) hd hk rfl [] (by kernel_rfl) rfl rfl rfl
    have s18 := Stab.use_is (j := 5) (m := 0) hd hk rfl [] (by kernel_rfl) rfl rfl rfl
    clear hd
    go_simp
    go_at_call 10; refine (less10k lk6 _).mono ?_; rintro e w2 ⟨rfl, hb⟩
    exact hK.out _ rfl _ _ hb rfl
  apply Stab.todo_is (k := 7) (n := 113) _ hf.size hok.out rfl
  · intro a1 w1 hh hd hk K hK
    refine Stab.op_plain (o := _) rfl rfl ?_
    have s16 := Stab.use_is (j := 3) (m := 3) hd hk rfl [] (by kernel_rfl) rfl rfl rfl
    have s19 := Stab.use_is (j := 6) (m := 0) hd hk rfl [] (by kernel_rfl) rfl rfl rfl
    clear hd
    go_simp
    exact hK.out _ rfl _ _ (Below.refl _ _) rfl
  apply Stab.todo_is (k := 8) (n := 113) _ hf.size hok.out rfl
  · intro a1 w1 hh hd hk K hK
    refine Stab.op_plain (o := _) rfl rfl ?_
    have s20 := Stab.use_is (j := 7) (m := 0) hd hk rfl [] (by kernel_rfl) rfl rfl rfl
    clear hd
    go_simp
    exact hK.out _ rfl _ _ (Below.refl _ _) rfl
  apply Stab.todo_is (k := 9) (n := 113) _ hf.size hok.out rfl
  · intro a1 w1 hh hd hk K hK
    have s21 := Stab.use_is (j := 8) (m := 0) hd hk rfl [] (by kernel_rfl) rfl rfl rfl
    refine Stab.op_guard (o := _) rfl rfl rfl rfl s21 ?_
    have s1 := Stab.old_at (t := 1) hh (by kernel_rfl) s1
    clear hd
    obtain ⟨c0, c1, c2, c3⟩ := MK.out w1 hh.ext
    go_simp
    exact hK.out _ rfl _ _ (Below.refl _ _) rfl
  apply Stab.todo_is (k := 10) (n := 113) _ hf.size hok.out rfl
  · intro a1 w1 hh hd hk K hK
    have s21 := Stab.use_is (j := 8) (m := 1) hd hk rfl [] (by kernel_rfl) rfl rfl rfl
    refine Stab.op_guard (o := _) rfl rfl rfl rfl s21 ?_
    clear hd
    go_simp
    go_at_call 21; refine (hit21' _ _ _ _).mono ?_; rintro e w2 ⟨rfl, hb⟩
    exact hK.out _ rfl _ _ hb rfl
  apply Stab.todo_is (k := 11) (n := 113) _ hf.size hok.out rfl
  · intro a1 w1 hh hd hk K hK
    have s21 := Stab.use_is (j := 8) (m := 2) hd hk rfl [] (by kernel_rfl) rfl rfl rfl
    refine Stab.op_guard (o := _) rfl rfl rfl rfl s21 ?_
    have s22 := Stab.use_is (j := 9) (m := 1) hd hk rfl [] (by kernel_rfl) rfl rfl rfl
    have s23 := Stab.use_is (j := 10) (m := 0) hd hk rfl [] (by kernel_rfl) rfl rfl rfl
    clear hd
    go_simp
    go_at_call 10; refine (less10k lk11 _).mono ?_; rintro e w2 ⟨rfl, hb⟩
    exact hK.out _ rfl _ _ hb rfl
  apply Stab.todo_is (k := 12) (n := 113) _ hf.size hok.out rfl
  · intro a1 w1 hh hd hk K hK
    have s21 := Stab.use_is (j := 8) (m := 3) hd hk rfl [] (by kernel_rfl) rfl rfl rfl
    refine Stab.op_guard (o := _) rfl rfl rfl rfl s21 ?_
    have s24 := Stab.use_is (j := 11) (m := 0) hd hk rfl [] (by kernel_rfl) rfl rfl rfl
    clear hd
    go_simp
    exact hK.out _ rfl _ _ (Below.refl _ _) rfl
  apply Stab.todo_is (k := 13) (n := 113) _ hf.size hok.out rfl
  · intro a1 w1 hh hd hk K hK
    refine Stab.op_plain (o := _) rfl rfl ?_
    have s21 := Stab.use_is (j := 8) (m := 4) hd hk rfl [] (by kernel_rfl) rfl rfl rfl
    have s25 := Stab.use_is (j := 12) (m := 0) hd hk rfl [] (by kernel_rfl) rfl rfl rfl
    clear hd
    go_simp
    exact hK.out _ rfl _ _ (Below.refl _ _) rfl
  apply Stab.todo_is (k := 14) (n := 113) _ hf.size hok.out rfl
  · intro a1 w1 hh hd hk K hK
    refine Stab.op_plain (o := _) rfl rfl ?_
    have s26 := Stab.use_is (j := 13) (m := 0) hd hk rfl [] (by kernel_rfl) rfl rfl rfl
    clear hd
    go_simp
    exact hK.out _ rfl _ _ (Below.refl _ _) rfl
  apply Stab.todo_is (k := 15) (n := 113) _ hf.size hok.out rfl
  · intro a1 w1 hh hd hk K hK
    have s27 := Stab.use_is (j := 14) (m := 0) hd hk rfl [] (by kernel_rfl) rfl rfl rfl
    refine Stab.op_guard (o := _) rfl rfl rfl rfl s27 ?_
    have s1 := Stab.old_at (t := 1) hh (by kernel_rfl) s1
    clear hd
    obtain ⟨c0, c1, c2, c3⟩ := MK.out w1 hh.ext
    go_simp
    exact hK.out _ rfl _ _ (Below.refl _ _) rfl
  apply Stab.todo_is (k := 16) (n := 113) _ hf.size hok.out rfl
  · intro a1 w1 hh hd hk K hK
    have s27 := Stab.use_is (j := 14) (m := 1) hd hk rfl [] (by kernel_rfl) rfl rfl rfl
    refine Stab.op_guard (o := _) rfl rfl rfl rfl s27 ?_
    clear hd
    go_simp
    go_at_call 21; refine (hit21' _ _ _ _).mono ?_; rintro e w2 ⟨rfl, hb⟩
    exact hK.out _ rfl _ _ hb rfl
  apply Stab.todo_is (k := 17) (n := 113) _ hf.size hok.out rfl
  · intro a1 w1 hh hd hk K hK
    have s27 := Stab.use_is (j := 14) (m := 2) hd hk rfl [] (by kernel_rfl) rfl rfl rfl
    refine Stab.op_guard (o := _) rfl rfl rfl rfl s27 ?_
    have s28 := Stab.use_is (j := 15) (m := 1) hd hk rfl [] (by kernel_rfl) rfl rfl rfl
    have s29 := Stab.use_is (j := 16) (m := 0) hd hk rfl [] (by kernel_rfl) rfl rfl rfl
    clear hd
    go_simp
    go_at_call 10; refine (less10k lk17 _).mono ?_; rintro e w2 ⟨rfl, hb⟩
    exact hK.out _ rfl _ _ hb rfl
  apply Stab.todo_is (k := 18) (n := 113) _ hf.size hok.out rfl
  · intro a1 w1 hh hd hk K hK
    refine Stab.op_plain (o := _) rfl rfl ?_
    have s27 := Stab.use_is (j := 14) (m := 3) hd hk rfl [] (by kernel_rfl) rfl rfl rfl
    have s30 := Stab.use_is (j := 17) (m := 0) hd hk rfl [] (by kernel_rfl) rfl rfl rfl
    clear hd
    go_simp
    exact hK.out _ rfl _ _ (Below.refl _ _) rfl
  apply Stab.todo_is (k := 19) (n := 113) _ hf.size hok.out rfl
  · intro a1 w1 hh hd hk K hK
    refine Stab.op_plain (o := _) rfl rfl ?_
    have s31 := Stab.use_is (j := 18) (m := 0) hd hk rfl [] (by kernel_rfl) rfl rfl rfl
    clear hd
    go_simp
    exact hK.out _ rfl _ _ (Below.refl _ _) rfl
  apply Stab.todo_is (k := 20) (n := 113) _ hf.size hok.out rfl
  · intro a1 w1 hh hd hk K hK
    have s32 := Stab.use_is (j := 19) (m := 0) hd hk rfl [] (by kernel_rfl) rfl rfl rfl
    refine Stab.op_guard (o := _) rfl rfl rfl rfl s32 ?_
    clear hd
    go_simp
    go_at_call 21; refine (hit21' _ _ _ _).mono ?_; rintro e w2 ⟨rfl, hb⟩
    exact hK.out _ rfl _ _ hb rfl
  apply Stab.todo_is (k := 21) (n := 113) _ hf.size hok.out rfl
  · intro a1 w1 hh hd hk K hK
    have s32 := Stab.use_is (j := 19) (m := 1) hd hk rfl [] (by kernel_rfl) rfl rfl rfl
    refine Stab.op_guard (o := _) rfl rfl rfl rfl s32 ?_
    clear hd
    go_simp
    go_at_call 21; refine (hit21' _ _ _ _).mono ?_; rintro e w2 ⟨rfl, hb⟩
    exact hK.out _ rfl _ _ hb rfl
  apply Stab.todo_is (k := 22) (n := 113) _ hf.size hok.out rfl
  · intro a1 w1 hh hd hk K hK
    have s32 := Stab.use_is (j := 19) (m := 2) hd hk rfl [] (by kernel_rfl) rfl rfl rfl
    refine Stab.op_guard (o := _) rfl rfl rfl rfl s32 ?_
    have s33 := Stab.use_is (j := 20) (m := 1) hd hk rfl [] (by kernel_rfl) rfl rfl rfl
    have s34 := Stab.use_is (j := 21) (m := 0) hd hk rfl [] (by kernel_rfl) rfl rfl rfl
    clear hd
    go_simp
    go_at_call 10; refine (less10k lk22 _).mono ?_; rintro e w2 ⟨rfl, hb⟩
    exact hK.out _ rfl _ _ hb rfl
  apply Stab.todo_is (k := 23) (n := 113) _ hf.size hok.out rfl
  · intro a1 w1 hh hd hk K hK
    refine Stab.op_plain (o := _) rfl rfl ?_
    have s32 := Stab.use_is (j := 19) (m := 3) hd hk rfl [] (by kernel_rfl) rfl rfl rfl
    have s35 := Stab.use_is (j := 22) (m := 0) hd hk rfl [] (by kernel_rfl) rfl rfl rfl
    clear hd
    go_simp
    exact hK.out _ rfl _ _ (Below.refl _ _) rfl
  apply Stab.todo_is (k := 24) (n := 113) _ hf.size hok.out rfl
  · intro a1 w1 hh hd hk K hK
    refine Stab.op_plain (o := _) rfl rfl ?_
    have s36 := Stab.use_is (j := 23) (m := 0) hd hk rfl [] (by kernel_rfl) rfl rfl rfl
    clear hd
    go_simp
    exact hK.out _ rfl _ _ (Below.refl _ _) rfl
  apply Stab.todo_is (k := 25) (n := 113) _ hf.size hok.out rfl
  · intro a1 w1 hh hd hk K hK
    have s37 := Stab.use_is (j := 24) (m := 0) hd hk rfl [] (by kernel_rfl) rfl rfl rfl
    refine Stab.op_guard (o := _) rfl rfl rfl rfl s37 ?_
    clear hd
    go_simp
    go_at_call 21; refine (hit21' _ _ _ _).mono ?_; rintro e w2 ⟨rfl, hb⟩
    exact hK.out _ rfl _ _ hb rfl
  apply Stab.todo_is (k := 26) (n := 113) _ hf.size hok.out rfl
  · intro a1 w1 hh hd hk K hK
    have s37 := Stab.use_is (j := 24) (m := 1) hd hk rfl [] (by kernel_rfl) rfl rfl rfl
    refine Stab.op_guard (o := _) rfl rfl rfl rfl s37 ?_
    clear hd
    go_simp
    go_at_call 21; refine (hit21' _ _ _ _).mono ?_; rintro e w2 ⟨rfl, hb⟩
    exact hK.out _ rfl _ _ hb rfl
  apply Stab.todo_is (k := 27) (n := 113) _ hf.size hok.out rfl
  · intro a1 w1 hh hd hk K hK
    have s37 := Stab.use_is (j := 24) (m := 2) hd hk rfl [] (by kernel_rfl) rfl rfl rfl
    refine Stab.op_guard (o := _) rfl rfl rfl rfl s37 ?_
    have s38 := Stab.use_is (j := 25) (m := 1) hd hk rfl [] (by kernel_rfl) rfl rfl rfl
    have s39 := Stab.use_is (j := 26) (m := 0) hd hk rfl [] (by kernel_rfl) rfl rfl rfl
    clear hd
    go_simp
    go_at_call 10; refine (less10k lk27 _).mono ?_; rintro e w2 ⟨rfl, hb⟩
    exact hK.out _ rfl _ _ hb rfl
  apply Stab.todo_is (k := 28) (n := 113) _ hf.size hok.out rfl
  · intro a1 w1 hh hd hk K hK
    refine Stab.op_plain (o := _) rfl rfl ?_
    have s37 := Stab.use_is (j := 24) (m := 3) hd hk rfl [] (by kernel_rfl) rfl rfl rfl
    have s40 := Stab.use_is (j := 27) (m := 0) hd hk rfl [] (by kernel_rfl) rfl rfl rfl
    clear hd
    go_simp
    exact hK.out _ rfl _ _ (Below.refl _ _) rfl
  apply Stab.todo_is (k := 29) (n := 113) _ hf.size hok.out rfl
  · intro a1 w1 hh hd hk K hK
    refine Stab.op_plain (o := _) rfl rfl ?_
    have s41 := Stab.use_is (j := 28) (m := 0) hd hk rfl [] (by kernel_rfl) rfl rfl rfl
    clear hd
    go_simp
    exact hK.out _ rfl _ _ (Below.refl _ _) rfl
  apply Stab.todo_is (k := 30) (n := 113) _ hf.size hok.out rfl
  · intro a1 w1 hh hd hk K hK
    have s42 := Stab.use_is (j := 29) (m := 0) hd hk rfl [] (by kernel_rfl) rfl rfl rfl
    refine Stab.op_guard (o := _) rfl rfl rfl rfl s42 ?_
    clear hd
    go_simp
    go_at_call 21; refine (hit21' _ _ _ _).mono ?_; rintro e w2 ⟨rfl, hb⟩
    exact hK.out _ rfl _ _ hb rfl
  apply Stab.todo_is (k := 31) (n := 113) _ hf.size hok.out rfl
  · intro a1 w1 hh hd hk K hK
    have s42 := Stab.use_is (j := 29) (m := 1) hd hk rfl [] (by kernel_rfl) rfl rfl rfl
    refine Stab.op_guard (o := _) rfl rfl rfl rfl s42 ?_
    clear hd
    go_simp
    go_at_call 21; refine (hit21' _ _ _ _).mono ?_; rintro e w2 ⟨rfl, hb⟩
    exact hK.out _ rfl _ _ hb rfl
  apply Stab.todo_is (k := 32) (n := 113) _ hf.size hok.out rfl
  · intro a1 w1 hh hd hk K hK
    have s42 := Stab.use_is (j := 29) (m := 2) hd hk rfl [] (by kernel_rfl) rfl rfl rfl
    refine Stab.op_guard (o := _) rfl rfl rfl rfl s42 ?_
    have s43 := Stab.use_is (j := 30) (m := 1) hd hk rfl [] (by kernel_rfl) rfl rfl rfl
    have s44 := Stab.use_is (j := 31) (m := 0) hd hk rfl [] (by kernel_rfl) rfl rfl rfl
    clear hd
    go_simp
    go_at_call 10; refine (less10k lk32 _).mono ?_; rintro e w2 ⟨rfl, hb⟩
    exact hK.out _ rfl _ _ hb rfl
  apply Stab.todo_is (k := 33) (n := 113) _ hf.size hok.out rfl
  · intro a1 w1 hh hd hk K hK
    refine Stab.op_plain (o := _) rfl rfl ?_
    have s42 := Stab.use_is (j := 29) (m := 3) hd hk rfl [] (by kernel_rfl) rfl rfl rfl
    have s45 := Stab.use_is (j := 32) (m := 0) hd hk rfl [] (by kernel_rfl) rfl rfl rfl
    clear hd
    go_simp
    exact hK.out _ rfl _ _ (Below.refl _ _) rfl
  apply Stab.todo_is (k := 34) (n := 113) _ hf.size hok.out rfl
  · intro a1 w1 hh hd hk K hK
    refine Stab.op_plain (o := _) rfl rfl ?_
    have s46 := Stab.use_is (j := 33) (m := 0) hd hk rfl [] (by kernel_rfl) rfl rfl rfl
    clear hd
    go_simp
    exact hK.out _ rfl _ _ (Below.refl _ _) rfl
  apply Stab.todo_is (k := 35) (n := 113) _ hf.size hok.out rfl
  · intro a1 w1 hh hd hk K hK
    have s47 := Stab.use_is (j := 34) (m := 0) hd hk rfl [] (by kernel_rfl) rfl rfl rfl
    refine Stab.op_guard (o := _) rfl rfl rfl rfl s47 ?_
    clear hd
    go_simp
    go_at_call 21; refine (hit21' _ _ _ _).mono ?_; rintro e w2 ⟨rfl, hb⟩
    exact hK.out _ rfl _ _ hb rfl
  apply Stab.todo_is (k := 36) (n := 113) _ hf.size hok.out rfl
  · intro a1 w1 hh hd hk K hK
    have s47 := Stab.use_is (j := 34) (m := 1) hd hk rfl [] (by kernel_rfl) rfl rfl rfl
    refine Stab.op_guard (o := _) rfl rfl rfl rfl s47 ?_
    clear hd
    go_simp
    go_at_call 21; refine (hit21' _ _ _ _).mono ?_; rintro e w2 ⟨rfl, hb⟩
    exact hK.out _ rfl _ _ hb rfl
  apply Stab.todo_is (k := 37) (n := 113) _ hf.size hok.out rfl
  · intro a1 w1 hh hd hk K hK
    have s47 := Stab.use_is (j := 34) (m := 2) hd hk rfl [] (by kernel_rfl) rfl rfl rfl
    refine Stab.op_guard (o := _) rfl rfl rfl rfl s47 ?_
    have s48 := Stab.use_is (j := 35) (m := 1) hd hk rfl [] (by kernel_rfl) rfl rfl rfl
    have s49 := Stab.use_is (j := 36) (m := 0) hd hk rfl [] (by kernel_rfl) rfl rfl rfl
    clear hd
    go_simp
    go_at_call 10; refine (less10k lk37 _).mono ?_; rintro e w2 ⟨rfl, hb⟩
    exact hK.out _ rfl _ _ hb rfl
  apply Stab.todo_is (k := 38) (n := 113) _ hf.size hok.out rfl
  · intro a1 w1 hh hd hk K hK
    refine Stab.op_plain (o := _) rfl rfl ?_
    have s47 := Stab.use_is (j := 34) (m := 3) hd hk rfl [] (by kernel_rfl) rfl rfl rfl
    have s50 := Stab.use_is (j := 37) (m := 0) hd hk rfl [] (by kernel_rfl) rfl rfl rfl
    clear hd
    go_simp
    exact hK.out _ rfl _ _ (Below.refl _ _) rfl
  apply Stab.todo_is (k := 39) (n := 113) _ hf.size hok.out rfl
  · intro a1 w1 hh hd hk K hK
    refine Stab.op_plain (o := _) rfl rfl ?_
    have s51 := Stab.use_is (j := 38) (m := 0) hd hk rfl [] (by kernel_rfl) rfl rfl rfl
    clear hd
    go_simp
    exact hK.out _ rfl _ _ (Below.refl _ _) rfl
  apply Stab.todo_is (k := 40) (n := 113) _ hf.size hok.out rfl
  · intro a1 w1 hh hd hk K hK
    have s52 := Stab.use_is (j := 39) (m := 0) hd hk rfl [] (by kernel_rfl) rfl rfl rfl
    refine Stab.op_guard (o := _) rfl rfl rfl rfl s52 ?_
    clear hd
    go_simp
    go_at_call 21; refine (hit21' _ _ _ _).mono ?_; rintro e w2 ⟨rfl, hb⟩
    exact hK.out _ rfl _ _ hb rfl
  apply Stab.todo_is (k := 41) (n := 113) _ hf.size hok.out rfl
  · intro a1 w1 hh hd hk K hK
    have s52 := Stab.use_is (j := 39) (m := 1) hd hk rfl [] (by kernel_rfl) rfl rfl rfl
    refine Stab.op_guard (o := _) rfl rfl rfl rfl s52 ?_
    clear hd
    go_simp
    go_at_call 21; refine (hit21' _ _ _ _).mono ?_; rintro e w2 ⟨rfl, hb⟩
    exact hK.out _ rfl _ _ hb rfl
  apply Stab.todo_is (k := 42) (n := 113) _ hf.size hok.out rfl
  · intro a1 w1 hh hd hk K hK
    have s52 := Stab.use_is (j := 39) (m := 2) hd hk rfl [] (by kernel_rfl) rfl rfl rfl
    refine Stab.op_guard (o := _) rfl rfl rfl rfl s52 ?_
    have s53 := Stab.use_is (j := 40) (m := 1) hd hk rfl [] (by kernel_rfl) rfl rfl rfl
    have s54 := Stab.use_is (j := 41) (m := 0) hd hk rfl [] (by kernel_rfl) rfl rfl rfl
    clear hd
    go_simp
    go_at_call 10; refine (less10k lk42 _).mono ?_; rintro e w2 ⟨rfl, hb⟩
    exact hK.out _ rfl _ _ hb rfl
  apply Stab.todo_is (k := 43) (n := 113) _ hf.size hok.out rfl
  · intro a1 w1 hh hd hk K hK
    refine Stab.op_plain (o := _) rfl rfl ?_
    have s52 := Stab.use_is (j := 39) (m := 3) hd hk rfl [] (by kernel_rfl) rfl rfl rfl
    have s55 := Stab.use_is (j := 42) (m := 0) hd hk rfl [] (by kernel_rfl) rfl rfl rfl
    clear hd
    go_simp
    exact hK.out _ rfl _ _ (Below.refl _ _) rfl
  apply Stab.todo_is (k := 44) (n := 113) _ hf.size hok.out rfl
  · intro a1 w1 hh hd hk K hK
    refine Stab.op_plain (o := _) rfl rfl ?_
    have s56 := Stab.use_is (j := 43) (m := 0) hd hk rfl [] (by kernel_rfl) rfl rfl rfl
    clear hd
    go_simp
    exact hK.out _ rfl _ _ (Below.refl _ _) rfl
  refine Stab.todo_op (k := 45) (n := 113) (PSl 0) hf.size hok.out rfl (PSl.stable 0) ?_ ?_
  · intro a1 w1 hh hd hk K hK
    have s57 := Stab.use_is (j := 44) (m := 0) hd hk rfl [] (by kernel_rfl) rfl rfl rfl
    refine Stab.op_guard (o := _) rfl rfl rfl rfl s57 ?_
    clear hd
    go_simp
    go_at_call 11; refine (sort_nil _).mono ?_; rintro e w2 ⟨A, c, rfl, hb⟩
    exact hK.out _ rfl _ _ hb ⟨A, c, rfl⟩
  apply Stab.todo_is (k := 46) (n := 113) _ hf.size hok.out rfl
  · intro a1 w1 hh hd hk K hK
    have s57 := Stab.use_is (j := 44) (m := 1) hd hk rfl [] (by kernel_rfl) rfl rfl rfl
    refine Stab.op_guard (o := _) rfl rfl rfl rfl s57 ?_
    obtain ⟨x58, s58, hp58⟩ := Stab.use (j := 45) (m := 0) hd hk rfl [] (by kernel_rfl) rfl rfl rfl
    obtain ⟨A58, c58, rfl⟩ := hp58
    clear hd
    go_simp
    exact hK.out _ rfl _ _ (Below.refl _ _) rfl
  apply Stab.todo_is (k := 47) (n := 113) _ hf.size hok.out rfl
  · intro a1 w1 hh hd hk K hK
    have s57 := Stab.use_is (j := 44) (m := 2) hd hk rfl [] (by kernel_rfl) rfl rfl rfl
    refine Stab.op_guard (o := _) rfl rfl rfl rfl s57 ?_
    have s59 := Stab.use_is (j := 46) (m := 0) hd hk rfl [] (by kernel_rfl) rfl rfl rfl
    clear hd
    go_simp
    exact hK.out _ rfl _ _ (Below.refl _ _) rfl
  apply Stab.todo_is (k := 48) (n := 113) _ hf.size hok.out rfl
  · intro a1 w1 hh hd hk K hK
    refine Stab.op_plain (o := _) rfl rfl ?_
    have s57 := Stab.use_is (j := 44) (m := 3) hd hk rfl [] (by kernel_rfl) rfl rfl rfl
    have s60 := Stab.use_is (j := 47) (m := 0) hd hk rfl [] (by kernel_rfl) rfl rfl rfl
    clear hd
    go_simp
    exact hK.out _ rfl _ _ (Below.refl _ _) rfl
  apply Stab.todo_is (k := 49) (n := 113) _ hf.size hok.out rfl
  · intro a1 w1 hh hd hk K hK
    refine Stab.op_plain (o := _) rfl rfl ?_
    have s61 := Stab.use_is (j := 48) (m := 0) hd hk rfl [] (by kernel_rfl) rfl rfl rfl
    clear hd
    go_simp
    exact hK.out _ rfl _ _ (Below.refl _ _) rfl
  apply Stab.todo_is (k := 50) (n := 113) _ hf.size hok.out rfl
  · intro a1 w1 hh hd hk K hK
    have s62 := Stab.use_is (j := 49) (m := 0) hd hk rfl [] (by kernel_rfl) rfl rfl rfl
    refine Stab.op_guard (o := _) rfl rfl rfl rfl s62 ?_
    have s2 := Stab.old_at (t := 2) hh (by kernel_rfl) s2
    clear hd
    go_simp
    exact hK.out _ rfl _ _ (Below.refl _ _) rfl
  apply Stab.todo_is (k := 51) (n := 113) _ hf.size hok.out rfl
  · intro a1 w1 hh hd hk K hK
    have s62 := Stab.use_is (j := 49) (m := 1) hd hk rfl [] (by kernel_rfl) rfl rfl rfl
    refine Stab.op_guard (o := _) rfl rfl rfl rfl s62 ?_
    have s63 := Stab.use_is (j := 50) (m := 0) hd hk rfl [] (by kernel_rfl) rfl rfl rfl
    clear hd
    go_simp
    exact hK.out _ rfl _ _ (Below.refl _ _) rfl
  apply Stab.todo_is (k := 52) (n := 113) _ hf.size hok.out rfl
  · intro a1 w1 hh hd hk K hK
    have s62 := Stab.use_is (j := 49) (m := 2) hd hk rfl [] (by kernel_rfl) rfl rfl rfl
    refine Stab.op_guard (o := _) rfl rfl rfl rfl s62 ?_
    have s64 := Stab.use_is (j := 51) (m := 0) hd hk rfl [] (by kernel_rfl) rfl rfl rfl
    clear hd
    go_simp
    exact hK.out _ rfl _ _ (Below.refl _ _) rfl
  apply Stab.todo_is (k := 53) (n := 113) _ hf.size hok.out rfl
  · intro a1 w1 hh hd hk K hK
    refine Stab.op_plain (o := _) rfl rfl ?_
    have s62 := Stab.use_is (j := 49) (m := 3) hd hk rfl [] (by kernel_rfl) rfl rfl rfl
    have s65 := Stab.use_is (j := 52) (m := 0) hd hk rfl [] (by kernel_rfl) rfl rfl rfl
    clear hd
    go_simp
    exact hK.out _ rfl _ _ (Below.refl _ _) rfl
  apply Stab.todo_is (k := 54) (n := 113) _ hf.size hok.out rfl
  · intro a1 w1 hh hd hk K hK
    refine Stab.op_plain (o := _) rfl rfl ?_
    have s66 := Stab.use_is (j := 53) (m := 0) hd hk rfl [] (by kernel_rfl) rfl rfl rfl
    clear hd
    go_simp
    exact hK.out _ rfl _ _ (Below.refl _ _) rfl
  apply Stab.todo_is (k := 55) (n := 113) _ hf.size hok.out rfl
  · intro a1 w1 hh hd hk K hK
    have s67 := Stab.use_is (j := 54) (m := 0) hd hk rfl [] (by kernel_rfl) rfl rfl rfl
    refine Stab.op_guard (o := _) rfl rfl rfl rfl s67 ?_
    have s3 := Stab.old_at (t := 3) hh (by kernel_rfl) s3
    clear hd
    go_simp
    exact hK.out _ rfl _ _ (Below.refl _ _) rfl
  apply Stab.todo_is (k := 56) (n := 113) _ hf.size hok.out rfl
  · intro a1 w1 hh hd hk K hK
    have s67 := Stab.use_is (j := 54) (m := 1) hd hk rfl [] (by kernel_rfl) rfl rfl rfl
    refine Stab.op_guard (o := _) rfl rfl rfl rfl s67 ?_
    have s68 := Stab.use_is (j := 55) (m := 0) hd hk rfl [] (by kernel_rfl) rfl rfl rfl
    clear hd
    go_simp
    exact hK.out _ rfl _ _ (Below.refl _ _) rfl
  apply Stab.todo_is (k := 57) (n := 113) _ hf.size hok.out rfl
  · intro a1 w1 hh hd hk K hK
    refine Stab.op_plain (o := _) rfl rfl ?_
    have s67 := Stab.use_is (j := 54) (m := 2) hd hk rfl [] (by kernel_rfl) rfl rfl rfl
    have s69 := Stab.use_is (j := 56) (m := 0) hd hk rfl [] (by kernel_rfl) rfl rfl rfl
    clear hd
    go_simp
    exact hK.out _ rfl _ _ (Below.refl _ _) rfl
  apply Stab.todo_is (k := 58) (n := 113) _ hf.size hok.out rfl
  · intro a1 w1 hh hd hk K hK
    refine Stab.op_plain (o := _) rfl rfl ?_
    have s70 := Stab.use_is (j := 57) (m := 0) hd hk rfl [] (by kernel_rfl) rfl rfl rfl
    clear hd
    go_simp
    exact hK.out _ rfl _ _ (Below.refl _ _) rfl
  refine Stab.todo_op (k := 59) (n := 113) (PSl 0) hf.size hok.out rfl (PSl.stable 0) ?_ ?_
  · intro a1 w1 hh hd hk K hK
    have s71 := Stab.use_is (j := 58) (m := 0) hd hk rfl [] (by kernel_rfl) rfl rfl rfl
    refine Stab.op_guard (o := _) rfl rfl rfl rfl s71 ?_
    clear hd
    go_simp
    go_at_call 20; refine (join_nil _).mono ?_; rintro e w2 ⟨A, c, rfl, hb⟩
    exact hK.out _ rfl _ _ hb ⟨A, c, rfl⟩
  apply Stab.todo_is (k := 60) (n := 113) _ hf.size hok.out rfl
  · intro a1 w1 hh hd hk K hK
    have s71 := Stab.use_is (j := 58) (m := 1) hd hk rfl [] (by kernel_rfl) rfl rfl rfl
    refine Stab.op_guard (o := _) rfl rfl rfl rfl s71 ?_
    obtain ⟨x72, s72, hp72⟩ := Stab.use (j := 59) (m := 0) hd hk rfl [] (by kernel_rfl) rfl rfl rfl
    obtain ⟨A72, c72, rfl⟩ := hp72
    clear hd
    go_simp
    exact hK.out _ rfl _ _ (Below.refl _ _) rfl
  apply Stab.todo_is (k := 61) (n := 113) _ hf.size hok.out rfl
  · intro a1 w1 hh hd hk K hK
    have s71 := Stab.use_is (j := 58) (m := 2) hd hk rfl [] (by kernel_rfl) rfl rfl rfl
    refine Stab.op_guard (o := _) rfl rfl rfl rfl s71 ?_
    have s73 := Stab.use_is (j := 60) (m := 0) hd hk rfl [] (by kernel_rfl) rfl rfl rfl
    clear hd
    go_simp
    exact hK.out _ rfl _ _ (Below.refl _ _) rfl
  apply Stab.todo_is (k := 62) (n := 113) _ hf.size hok.out rfl
  · intro a1 w1 hh hd hk K hK
    refine Stab.op_plain (o := _) rfl rfl ?_
    have s71 := Stab.use_is (j := 58) (m := 3) hd hk rfl [] (by kernel_rfl) rfl rfl rfl
    have s74 := Stab.use_is (j := 61) (m := 0) hd hk rfl [] (by kernel_rfl) rfl rfl rfl
    clear hd
    go_simp
    exact hK.out _ rfl _ _ (Below.refl _ _) rfl
  apply Stab.todo_is (k := 63) (n := 113) _ hf.size hok.out rfl
  · intro a1 w1 hh hd hk K hK
    refine Stab.op_plain (o := _) rfl rfl ?_
    have s75 := Stab.use_is (j := 62) (m := 0) hd hk rfl [] (by kernel_rfl) rfl rfl rfl
    clear hd
    go_simp
    exact hK.out _ rfl _ _ (Below.refl _ _) rfl
  apply Stab.todo_is (k := 64) (n := 113) _ hf.size hok.out rfl
  · intro a1 w1 hh hd hk K hK
    have s76 := Stab.use_is (j := 63) (m := 0) hd hk rfl [] (by kernel_rfl) rfl rfl rfl
    refine Stab.op_guard (o := _) rfl rfl rfl rfl s76 ?_
    have s1 := Stab.old_at (t := 1) hh (by kernel_rfl) s1
    clear hd
    obtain ⟨c0, c1, c2, c3⟩ := MK.out w1 hh.ext
    go_simp
    exact hK.out _ rfl _ _ (Below.refl _ _) rfl
  refine Stab.todo_op (k := 65) (n := 113) (PHs [xG]) hf.size hok.out rfl (PHs.stable _) ?_ ?_
  · intro a1 w1 hh hd hk K hK
    have s76 := Stab.use_is (j := 63) (m := 1) hd hk rfl [] (by kernel_rfl) rfl rfl rfl
    refine Stab.op_guard (o := _) rfl rfl rfl rfl s76 ?_
    have s77 := Stab.use_is (j := 64) (m := 0) hd hk rfl [] (by kernel_rfl) rfl rfl rfl
    clear hd
    go_simp
    exact hK.out _ rfl _ _ ((Below.refl _ _).alloc (Nat.le_refl _) _) ⟨_, _, rfl, Nat.le_refl _, RHs.lit rfl⟩
  refine Stab.todo_op (k := 66) (n := 113) (PLs [[xG]]) hf.size hok.out rfl (PLs.stable _) ?_ ?_
  · intro a1 w1 hh hd hk K hK
    have s76 := Stab.use_is (j := 63) (m := 2) hd hk rfl [] (by kernel_rfl) rfl rfl rfl
    refine Stab.op_guard (o := _) rfl rfl rfl rfl s76 ?_
    obtain ⟨x78, s78, hp78⟩ := Stab.use (j := 65) (m := 0) hd hk rfl [] (by kernel_rfl) rfl rfl rfl
    obtain ⟨A78, c78, rfl, hc78, hr78⟩ := hp78
    clear hd
    go_simp
    exact hK.out _ rfl _ _ ((Below.refl _ _).alloc (Nat.le_refl _) _) ⟨_, _, rfl, RLs.one _ rfl hc78 hr78⟩
  refine Stab.todo_op (k := 67) (n := 113) (PSl 0) hf.size hok.out rfl (PSl.stable 0) ?_ ?_
  · intro a1 w1 hh hd hk K hK
    have s76 := Stab.use_is (j := 63) (m := 3) hd hk rfl [] (by kernel_rfl) rfl rfl rfl
    refine Stab.op_guard (o := _) rfl rfl rfl rfl s76 ?_
    obtain ⟨x79, s79, hp79⟩ := Stab.use (j := 66) (m := 0) hd hk rfl [] (by kernel_rfl) rfl rfl rfl
    obtain ⟨A79, c79, rfl, hr79⟩ := hp79
    clear hd
    go_simp
    go_at_call 20; refine (join_one (by decide) hr79).mono ?_; rintro e w2 ⟨A, c, rfl, hb⟩
    exact hK.out _ rfl _ _ hb ⟨A, c, rfl⟩
  apply Stab.todo_is (k := 68) (n := 113) _ hf.size hok.out rfl
  · intro a1 w1 hh hd hk K hK
    have s76 := Stab.use_is (j := 63) (m := 4) hd hk rfl [] (by kernel_rfl) rfl rfl rfl
    refine Stab.op_guard (o := _) rfl rfl rfl rfl s76 ?_
    obtain ⟨x80, s80, hp80⟩ := Stab.use (j := 67) (m := 0) hd hk rfl [] (by kernel_rfl) rfl rfl rfl
    obtain ⟨A80, c80, rfl⟩ := hp80
    clear hd
    go_simp
    exact hK.out _ rfl _ _ (Below.refl _ _) rfl
  apply Stab.todo_is (k := 69) (n := 113) _ hf.size hok.out rfl
  · intro a1 w1 hh hd hk K hK
    have s76 := Stab.use_is (j := 63) (m := 5) hd hk rfl [] (by kernel_rfl) rfl rfl rfl
    refine Stab.op_guard (o := _) rfl rfl rfl rfl s76 ?_
    have s81 := Stab.use_is (j := 68) (m := 0) hd hk rfl [] (by kernel_rfl) rfl rfl rfl
    clear hd
    go_simp
    exact hK.out _ rfl _ _ (Below.refl _ _) rfl
  apply Stab.todo_is (k := 70) (n := 113) _ hf.size hok.out rfl
  · intro a1 w1 hh hd hk K hK
    refine Stab.op_plain (o := _) rfl rfl ?_
    have s76 := Stab.use_is (j := 63) (m := 6) hd hk rfl [] (by kernel_rfl) rfl rfl rfl
    have s82 := Stab.use_is (j := 69) (m := 0) hd hk rfl [] (by kernel_rfl) rfl rfl rfl
    clear hd
    go_simp
    exact hK.out _ rfl _ _ (Below.refl _ _) rfl
  apply Stab.todo_is (k := 71) (n := 113) _ hf.size hok.out rfl
  · intro a1 w1 hh hd hk K hK
    refine Stab.op_plain (o := _) rfl rfl ?_
    have s83 := Stab.use_is (j := 70) (m := 0) hd hk rfl [] (by kernel_rfl) rfl rfl rfl
    clear hd
    go_simp
    exact hK.out _ rfl _ _ (Below.refl _ _) rfl
  apply Stab.todo_is (k := 72) (n := 113) _ hf.size hok.out rfl
  · intro a1 w1 hh hd hk K hK
    have s84 := Stab.use_is (j := 71) (m := 0) hd hk rfl [] (by kernel_rfl) rfl rfl rfl
    refine Stab.op_guard (o := _) rfl rfl rfl rfl s84 ?_
    have s1 := Stab.old_at (t := 1) hh (by kernel_rfl) s1
    clear hd
    obtain ⟨c0, c1, c2, c3⟩ := MK.out w1 hh.ext
    go_simp
    exact hK.out _ rfl _ _ (Below.refl _ _) rfl
  refine Stab.todo_op (k := 73) (n := 113) (PHs [xG]) hf.size hok.out rfl (PHs.stable _) ?_ ?_
  · intro a1 w1 hh hd hk K hK
    have s84 := Stab.use_is (j := 71) (m := 1) hd hk rfl [] (by kernel_rfl) rfl rfl rfl
    refine Stab.op_guard (o := _) rfl rfl rfl rfl s84 ?_
    have s85 := Stab.use_is (j := 72) (m := 0) hd hk rfl [] (by kernel_rfl) rfl rfl rfl
    clear hd
    go_simp
    exact hK.out _ rfl _ _ ((Below.refl _ _).alloc (Nat.le_refl _) _) ⟨_, _, rfl, Nat.le_refl _, RHs.lit rfl⟩
  refine Stab.todo_op (k := 74) (n := 113) (PLs [[xG]]) hf.size hok.out rfl (PLs.stable _) ?_ ?_
  · intro a1 w1 hh hd hk K hK
    have s84 := Stab.use_is (j := 71) (m := 2) hd hk rfl [] (by kernel_rfl) rfl rfl rfl
    refine Stab.op_guard (o := _) rfl rfl rfl rfl s84 ?_
    obtain ⟨x86, s86, hp86⟩ := Stab.use (j := 73) (m := 0) hd hk rfl [] (by kernel_rfl) rfl rfl rfl
    obtain ⟨A86, c86, rfl, hc86, hr86⟩ := hp86
    clear hd
    go_simp
    exact hK.out _ rfl _ _ ((Below.refl _ _).alloc (Nat.le_refl _) _) ⟨_, _, rfl, RLs.one _ rfl hc86 hr86⟩
  refine Stab.todo_op (k := 75) (n := 113) (PSl 0) hf.size hok.out rfl (PSl.stable 0) ?_ ?_
  · intro a1 w1 hh hd hk K hK
    have s84 := Stab.use_is (j := 71) (m := 3) hd hk rfl [] (by kernel_rfl) rfl rfl rfl
    refine Stab.op_guard (o := _) rfl rfl rfl rfl s84 ?_
    obtain ⟨x87, s87, hp87⟩ := Stab.use (j := 74) (m := 0) hd hk rfl [] (by kernel_rfl) rfl rfl rfl
    obtain ⟨A87, c87, rfl, hr87⟩ := hp87
    clear hd
    go_simp
    go_at_call 20; refine (join_one (by decide) hr87).mono ?_; rintro e w2 ⟨A, c, rfl, hb⟩
    exact hK.out _ rfl _ _ hb ⟨A, c, rfl⟩
  apply Stab.todo_is (k := 76) (n := 113) _ hf.size hok.out rfl
  · intro a1 w1 hh hd hk K hK
    have s84 := Stab.use_is (j := 71) (m := 4) hd hk rfl [] (by kernel_rfl) rfl rfl rfl
    refine Stab.op_guard (o := _) rfl rfl rfl rfl s84 ?_
    obtain ⟨x88, s88, hp88⟩ := Stab.use (j := 75) (m := 0) hd hk rfl [] (by kernel_rfl) rfl rfl rfl
    obtain ⟨A88, c88, rfl⟩ := hp88
    clear hd
    go_simp
    exact hK.out _ rfl _ _ (Below.refl _ _) rfl
  apply Stab.todo_is (k := 77) (n := 113) _ hf.size hok.out rfl
  · intro a1 w1 hh hd hk K hK
    have s84 := Stab.use_is (j := 71) (m := 5) hd hk rfl [] (by kernel_rfl) rfl rfl rfl
    refine Stab.op_guard (o := _) rfl rfl rfl rfl s84 ?_
    have s89 := Stab.use_is (j := 76) (m := 0) hd hk rfl [] (by kernel_rfl) rfl rfl rfl
    clear hd
    go_simp
    exact hK.out _ rfl _ _ (Below.refl _ _) rfl
  apply Stab.todo_is (k := 78) (n := 113) _ hf.size hok.out rfl
  · intro a1 w1 hh hd hk K hK
    refine Stab.op_plain (o := _) rfl rfl ?_
    have s84 := Stab.use_is (j := 71) (m := 6) hd hk rfl [] (by kernel_rfl) rfl rfl rfl
    have s90 := Stab.use_is (j := 77) (m := 0) hd hk rfl [] (by kernel_rfl) rfl rfl rfl
    clear hd
    go_simp
    exact hK.out _ rfl _ _ (Below.refl _ _) rfl
  apply Stab.todo_is (k := 79) (n := 113) _ hf.size hok.out rfl
  · intro a1 w1 hh hd hk K hK
    refine Stab.op_plain (o := _) rfl rfl ?_
    have s91 := Stab.use_is (j := 78) (m := 0) hd hk rfl [] (by kernel_rfl) rfl rfl rfl
    clear hd
    go_simp
    exact hK.out _ rfl _ _ (Below.refl _ _) rfl
  apply Stab.todo_is (k := 80) (n := 113) _ hf.size hok.out rfl
  · intro a1 w1 hh hd hk K hK
    have s92 := Stab.use_is (j := 79) (m := 0) hd hk rfl [] (by kernel_rfl) rfl rfl rfl
    refine Stab.op_guard (o := _) rfl rfl rfl rfl s92 ?_
    have s1 := Stab.old_at (t := 1) hh (by kernel_rfl) s1
    clear hd
    obtain ⟨c0, c1, c2, c3⟩ := MK.out w1 hh.ext
    go_simp
    exact hK.out _ rfl _ _ (Below.refl _ _) rfl
  refine Stab.todo_op (k := 81) (n := 113) (PHs [xG]) hf.size hok.out rfl (PHs.stable _) ?_ ?_
  · intro a1 w1 hh hd hk K hK
    have s92 := Stab.use_is (j := 79) (m := 1) hd hk rfl [] (by kernel_rfl) rfl rfl rfl
    refine Stab.op_guard (o := _) rfl rfl rfl rfl s92 ?_
    have s93 := Stab.use_is (j := 80) (m := 0) hd hk rfl [] (by kernel_rfl) rfl rfl rfl
    clear hd
    go_simp
    exact hK.out _ rfl _ _ ((Below.refl _ _).alloc (Nat.le_refl _) _) ⟨_, _, rfl, Nat.le_refl _, RHs.lit rfl⟩
  refine Stab.todo_op (k := 82) (n := 113) (PLs [[], [xG], []]) hf.size hok.out rfl (PLs.stable _) ?_ ?_
  · intro a1 w1 hh hd hk K hK
    have s92 := Stab.use_is (j := 79) (m := 2) hd hk rfl [] (by kernel_rfl) rfl rfl rfl
    refine Stab.op_guard (o := _) rfl rfl rfl rfl s92 ?_
    obtain ⟨x94, s94, hp94⟩ := Stab.use (j := 81) (m := 0) hd hk rfl [] (by kernel_rfl) rfl rfl rfl
    obtain ⟨A94, c94, rfl, hc94, hr94⟩ := hp94
    clear hd
    go_simp
    exact hK.out _ rfl _ _ ((Below.refl _ _).alloc (Nat.le_refl _) _) ⟨_, _, rfl, rls_three _ rfl hc94 hr94⟩
  refine Stab.todo_op (k := 83) (n := 113) (PSl 1) hf.size hok.out rfl (PSl.stable 1) ?_ ?_
  · intro a1 w1 hh hd hk K hK
    have s92 := Stab.use_is (j := 79) (m := 3) hd hk rfl [] (by kernel_rfl) rfl rfl rfl
    refine Stab.op_guard (o := _) rfl rfl rfl rfl s92 ?_
    obtain ⟨x95, s95, hp95⟩ := Stab.use (j := 82) (m := 0) hd hk rfl [] (by kernel_rfl) rfl rfl rfl
    obtain ⟨A95, c95, rfl, hr95⟩ := hp95
    clear hd
    go_simp
    go_at_call 20; refine (join_three hr95).mono ?_; rintro e w2 ⟨A, c, rfl, hb⟩
    exact hK.out _ rfl _ _ hb ⟨A, c, rfl⟩
  apply Stab.todo_is (k := 84) (n := 113) _ hf.size hok.out rfl
  · intro a1 w1 hh hd hk K hK
    have s92 := Stab.use_is (j := 79) (m := 4) hd hk rfl [] (by kernel_rfl) rfl rfl rfl
    refine Stab.op_guard (o := _) rfl rfl rfl rfl s92 ?_
    obtain ⟨x96, s96, hp96⟩ := Stab.use (j := 83) (m := 0) hd hk rfl [] (by kernel_rfl) rfl rfl rfl
    obtain ⟨A96, c96, rfl⟩ := hp96
    clear hd
    go_simp
    exact hK.out _ rfl _ _ (Below.refl _ _) rfl
  apply Stab.todo_is (k := 85) (n := 113) _ hf.size hok.out rfl
  · intro a1 w1 hh hd hk K hK
    have s92 := Stab.use_is (j := 79) (m := 5) hd hk rfl [] (by kernel_rfl) rfl rfl rfl
    refine Stab.op_guard (o := _) rfl rfl rfl rfl s92 ?_
    have s97 := Stab.use_is (j := 84) (m := 0) hd hk rfl [] (by kernel_rfl) rfl rfl rfl
    clear hd
    go_simp
    exact hK.out _ rfl _ _ (Below.refl _ _) rfl
  apply Stab.todo_is (k := 86) (n := 113) _ hf.size hok.out rfl
  · intro a1 w1 hh hd hk K hK
    refine Stab.op_plain (o := _) rfl rfl ?_
    have s92 := Stab.use_is (j := 79) (m := 6) hd hk rfl [] (by kernel_rfl) rfl rfl rfl
    have s98 := Stab.use_is (j := 85) (m := 0) hd hk rfl [] (by kernel_rfl) rfl rfl rfl
    clear hd
    go_simp
    exact hK.out _ rfl _ _ (Below.refl _ _) rfl
  apply Stab.todo_is (k := 87) (n := 113) _ hf.size hok.out rfl
  · intro a1 w1 hh hd hk K hK
    refine Stab.op_plain (o := _) rfl rfl ?_
    have s99 := Stab.use_is (j := 86) (m := 0) hd hk rfl [] (by kernel_rfl) rfl rfl rfl
    clear hd
    go_simp
    exact hK.out _ rfl _ _ (Below.refl _ _) rfl
  apply Stab.todo_is (k := 88) (n := 113) _ hf.size hok.out rfl
  · intro a1 w1 hh hd hk K hK
    have s100 := Stab.use_is (j := 87) (m := 0) hd hk rfl [] (by kernel_rfl) rfl rfl rfl
    refine Stab.op_guard (o := _) rfl rfl rfl rfl s100 ?_
    have s1 := Stab.old_at (t := 1) hh (by kernel_rfl) s1
    clear hd
    obtain ⟨c0, c1, c2, c3⟩ := MK.out w1 hh.ext
    go_simp
    exact hK.out _ rfl _ _ (Below.refl _ _) rfl
  apply Stab.todo_is (k := 89) (n := 113) _ hf.size hok.out rfl
  · intro a1 w1 hh hd hk K hK
    have s100 := Stab.use_is (j := 87) (m := 1) hd hk rfl [] (by kernel_rfl) rfl rfl rfl
    refine Stab.op_guard (o := _) rfl rfl rfl rfl s100 ?_
    have s101 := Stab.use_is (j := 88) (m := 0) hd hk rfl [] (by kernel_rfl) rfl rfl rfl
    clear hd
    go_simp
    go_at_call 17; refine (rank_nil _).mono ?_; rintro e w2 ⟨rfl, hb⟩
    exact hK.out _ rfl _ _ hb rfl
  apply Stab.todo_is (k := 90) (n := 113) _ hf.size hok.out rfl
  · intro a1 w1 hh hd hk K hK
    have s100 := Stab.use_is (j := 87) (m := 2) hd hk rfl [] (by kernel_rfl) rfl rfl rfl
    refine Stab.op_guard (o := _) rfl rfl rfl rfl s100 ?_
    have s102 := Stab.use_is (j := 89) (m := 0) hd hk rfl [] (by kernel_rfl) rfl rfl rfl
    clear hd
    go_simp
    exact hK.out _ rfl _ _ (Below.refl _ _) rfl
  apply Stab.todo_is (k := 91) (n := 113) _ hf.size hok.out rfl
  · intro a1 w1 hh hd hk K hK
    refine Stab.op_plain (o := _) rfl rfl ?_
    have s100 := Stab.use_is (j := 87) (m := 3) hd hk rfl [] (by kernel_rfl) rfl rfl rfl
    have s103 := Stab.use_is (j := 90) (m := 0) hd hk rfl [] (by kernel_rfl) rfl rfl rfl
    clear hd
    go_simp
    exact hK.out _ rfl _ _ (Below.refl _ _) rfl
  apply Stab.todo_is (k := 92) (n := 113) _ hf.size hok.out rfl
  · intro a1 w1 hh hd hk K hK
    refine Stab.op_plain (o := _) rfl rfl ?_
    have s104 := Stab.use_is (j := 91) (m := 0) hd hk rfl [] (by kernel_rfl) rfl rfl rfl
    clear hd
    go_simp
    exact hK.out _ rfl _ _ (Below.refl _ _) rfl
  apply Stab.todo_is (k := 93) (n := 113) _ hf.size hok.out rfl
  · intro a1 w1 hh hd hk K hK
    have s105 := Stab.use_is (j := 92) (m := 0) hd hk rfl [] (by kernel_rfl) rfl rfl rfl
    refine Stab.op_guard (o := _) rfl rfl rfl rfl s105 ?_
    have s1 := Stab.old_at (t := 1) hh (by kernel_rfl) s1
    clear hd
    obtain ⟨c0, c1, c2, c3⟩ := MK.out w1 hh.ext
    go_simp
    exact hK.out _ rfl _ _ (Below.refl _ _) rfl
  apply Stab.todo_is (k := 94) (n := 113) _ hf.size hok.out rfl
  · intro a1 w1 hh hd hk K hK
    have s105 := Stab.use_is (j := 92) (m := 1) hd hk rfl [] (by kernel_rfl) rfl rfl rfl
    refine Stab.op_guard (o := _) rfl rfl rfl rfl s105 ?_
    have s1 := Stab.old_at (t := 1) hh (by kernel_rfl) s1
    clear hd
    obtain ⟨c0, c1, c2, c3⟩ := MK.out w1 hh.ext
    go_simp
    exact hK.out _ rfl _ _ (Below.refl _ _) rfl
  refine Stab.todo_op (k := 95) (n := 113) (PHs [xG, xG]) hf.size hok.out rfl (PHs.stable _) ?_ ?_
  · intro a1 w1 hh hd hk K hK
    have s105 := Stab.use_is (j := 92) (m := 2) hd hk rfl [] (by kernel_rfl) rfl rfl rfl
    refine Stab.op_guard (o := _) rfl rfl rfl rfl s105 ?_
    have s106 := Stab.use_is (j := 93) (m := 1) hd hk rfl [] (by kernel_rfl) rfl rfl rfl
    have s107 := Stab.use_is (j := 94) (m := 0) hd hk rfl [] (by kernel_rfl) rfl rfl rfl
    clear hd
    go_simp
    exact hK.out _ rfl _ _ ((Below.refl _ _).alloc (Nat.le_refl _) _) ⟨_, _, rfl, Nat.le_refl _, RHs.lit rfl⟩
  apply Stab.todo_is (k := 96) (n := 113) _ hf.size hok.out rfl
  · intro a1 w1 hh hd hk K hK
    have s105 := Stab.use_is (j := 92) (m := 3) hd hk rfl [] (by kernel_rfl) rfl rfl rfl
    refine Stab.op_guard (o := _) rfl rfl rfl rfl s105 ?_
    have s1 := Stab.old_at (t := 1) hh (by kernel_rfl) s1
    clear hd
    obtain ⟨c0, c1, c2, c3⟩ := MK.out w1 hh.ext
    go_simp
    exact hK.out _ rfl _ _ (Below.refl _ _) rfl
  apply Stab.todo_is (k := 97) (n := 113) _ hf.size hok.out rfl
  · intro a1 w1 hh hd hk K hK
    have s105 := Stab.use_is (j := 92) (m := 4) hd hk rfl [] (by kernel_rfl) rfl rfl rfl
    refine Stab.op_guard (o := _) rfl rfl rfl rfl s105 ?_
    obtain ⟨x108, s108, hp108⟩ := Stab.use (j := 95) (m := 1) hd hk rfl [] (by kernel_rfl) rfl rfl rfl
    obtain ⟨A108, c108, rfl, hc108, hr108⟩ := hp108
    have s109 := Stab.use_is (j := 96) (m := 0) hd hk rfl [] (by kernel_rfl) rfl rfl rfl
    clear hd
    go_simp
    go_at_call 17; refine (rank_two hr108).mono ?_; rintro e w2 ⟨rfl, hb⟩
    exact hK.out _ rfl _ _ hb rfl
  apply Stab.todo_is (k := 98) (n := 113) _ hf.size hok.out rfl
  · intro a1 w1 hh hd hk K hK
    have s105 := Stab.use_is (j := 92) (m := 5) hd hk rfl [] (by kernel_rfl) rfl rfl rfl
    refine Stab.op_guard (o := _) rfl rfl rfl rfl s105 ?_
    have s110 := Stab.use_is (j := 97) (m := 0) hd hk rfl [] (by kernel_rfl) rfl rfl rfl
    clear hd
    go_simp
    exact hK.out _ rfl _ _ (Below.refl _ _) rfl
  apply Stab.todo_is (k := 99) (n := 113) _ hf.size hok.out rfl
  · intro a1 w1 hh hd hk K hK
    refine Stab.op_plain (o := _) rfl rfl ?_
    have s105 := Stab.use_is (j := 92) (m := 6) hd hk rfl [] (by kernel_rfl) rfl rfl rfl
    have s111 := Stab.use_is (j := 98) (m := 0) hd hk rfl [] (by kernel_rfl) rfl rfl rfl
    clear hd
    go_simp
    exact hK.out _ rfl _ _ (Below.refl _ _) rfl
  apply Stab.todo_is (k := 100) (n := 113) _ hf.size hok.out rfl
  · intro a1 w1 hh hd hk K hK
    refine Stab.op_plain (o := _) rfl rfl ?_
    have s112 := Stab.use_is (j := 99) (m := 0) hd hk rfl [] (by kernel_rfl) rfl rfl rfl
    clear hd
    go_simp
    exact hK.out _ rfl _ _ (Below.refl _ _) rfl
  refine Stab.todo_facts (n := 113) (by kernel_rfl) hf.size hok.out rfl (fun a1 w1 hh hg => ?_)
  have n0 := Stab.end_is (j := 100) (m := 0) hg rfl rfl rfl rfl
  have hf1 : Fact.Fr 113 a1 := ⟨hh.size.trans hf.size, hh.defers.trans hf.defers⟩
  have hx := hh.ext
  clear hg hh hf hz hok s1 s2 s3
  have s0 := n0; clear n0
  have hf := hf1; clear hf1
  have hz := hf.size
  refine Fact.then_normal ?_
  refine Fact.kUse (by assumption) ?_
  refine wp_ret ?_
  exact Fact.ret1 rfl hf s0 ⟨rfl, hbB.trans (hx.mono hbB.size)⟩
end Go.Proofs.Ytjpgcfcacfhmiaa
