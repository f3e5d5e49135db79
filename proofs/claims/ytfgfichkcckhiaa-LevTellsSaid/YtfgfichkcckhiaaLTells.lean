/- Lev: LevTells. -/
import Derived.Test.YtfgfichkcckhiaaLState
import Derived.Test.YtfgfichkcckhiaaLBound
import Derived.Test.YtfgfichkcckhiaaTail
namespace Go.Proofs.Ytfgfichkcckhiaa
open Go.RowKit
set_option linter.unusedSimpArgs false
set_option linter.unusedVariables false
set_option linter.unnecessarySimpa false
namespace Lv
def PTx (l : List ByteArray) : Stab.Pr := fun v w => ∃ b, v = .slice (some ⟨b, 0, none⟩) l.length l.length ∧ ∀ (i : Nat) (s : ByteArray), l[i]? = some s → w.cell? ⟨b, i, none⟩ = some (.string s)
theorem PTx.stable (l : List ByteArray) : Stab.Stable (PTx l) := fun v w w' hb ⟨b, h1, h2⟩ => ⟨b, h1, fun i s h => cell_later hb (h2 i s h)⟩
def PAt (q : ByteArray) (k : Nat) : Stab.Pr := fun v w => ∃ g, v = .pointer (some ⟨g, 0, none⟩) ∧ At w g q k
theorem PAt.stable (q : ByteArray) (k : Nat) : Stab.Stable (PAt q k) := fun v w w' hb ⟨g, h1, h2⟩ => ⟨g, h1, h2.later hb⟩
def PBx (B : Nat) : Stab.Pr := fun v w => ∃ g, v = .pointer (some ⟨g, 0, none⟩) ∧ B ≤ g ∧ w.heap[g]? = some (.cells #[.string ⟨#[]⟩, .int .i64 0] 31 (0, 0))
theorem PBx.stable (B : Nat) : Stab.Stable (PBx B) := fun v w w' hb ⟨g, h1, h2, h3⟩ => ⟨g, h1, h2, (hb.block g (Array.getElem?_eq_some_iff.1 h3).1).trans h3⟩
theorem box31 {w : World} {g : Nat} (h : w.heap[g]? = some (.cells #[.string ⟨#[]⟩, .int .i64 0] 31 (0, 0))) : w.cell? ⟨g, 0, none⟩ = some (.string ⟨#[]⟩) ∧ w.cell? ⟨g, 1, none⟩ = some (.int .i64 0) ∧ ∀ i, w.frozen? ⟨g, i, none⟩ = false :=
  ⟨cell_of_row _ _ 0 _ 31 (0, 0) h, cell_of_row _ _ 1 _ 31 (0, 0) h, fun i => by simp [World.frozen?, h]⟩
def put31 (w : World) (g : Nat) (q : ByteArray) (k : Nat) : World := (w.setCell ⟨g, 0, none⟩ (.string q)).setCell ⟨g, 1, none⟩ (.int .i64 k)
theorem put31_is {W w : World} {g8 g9 : Nat} {q : ByteArray} {k : Nat} (hA : At w g8 q k) (h : w.heap[g9]? = some (.cells #[.string ⟨#[]⟩, .int .i64 0] 31 (0, 0))) (hg : W.heap.size ≤ g9) (hx : Below W.heap.size W w) (W5 : World) (h5 : put31 w g9 q k = W5) :
    At W5 g8 q k ∧ W5.cell? ⟨g9, 0, none⟩ = some (.string q) ∧ W5.cell? ⟨g9, 1, none⟩ = some (.int .i64 k) ∧ Below W.heap.size W W5 := by
  subst h5
  have hh : (put31 w g9 q k).heap[g9]? = some (.cells #[.string q, .int .i64 k] 31 (0, 0)) := by
    simp [put31, World.setCell, Array.getElem?_modify, h]
  have c0 : (put31 w g9 q k).cell? ⟨g9, 0, none⟩ = some (.string q) := cell_of_row _ _ 0 _ 31 (0, 0) hh
  have c1 : (put31 w g9 q k).cell? ⟨g9, 1, none⟩ = some (.int .i64 k) := cell_of_row _ _ 1 _ 31 (0, 0) hh
  refine ⟨?_, c0, c1, (hx.setCell hg _).setCell hg _⟩
  by_cases e : g8 = g9
  · subst e; exact ⟨c0, c1, hA.hq, hA.hk⟩
  · have hb : (put31 w g9 q k).heap[g8]? = w.heap[g8]? := by
      unfold put31
      rw [Below.heap_setCell _ _ _ _ e, Below.heap_setCell _ _ _ _ e]
    exact ⟨(World.cell?_of_block (w := w) hb).trans hA.c0, (World.cell?_of_block (w := w) hb).trans hA.c1, hA.hq, hA.hk⟩
/-- a row of bytes of the call's own that is turned in place -/
def Odd (w : World) (g n : Nat) : Prop := ∃ cs sh, w.heap[g]? = some (.cells cs 5 sh) ∧ (∀ i, i < n → w.frozen? ⟨g, i, none⟩ = false) ∧ ∀ i, i < n → ∃ x : Int, cs[i]? = some (.int .u8 x) ∧ 0 ≤ x ∧ x < 256
theorem Odd.at_ {w : World} {g n i : Nat} (h : Odd w g n) (hi : i < n) : ∃ x : Int, w.cell? ⟨g, i, none⟩ = some (.int .u8 x) ∧ 0 ≤ x ∧ x < 256 := by
  obtain ⟨cs, sh, h1, _, h2⟩ := h
  obtain ⟨x, h3, h4⟩ := h2 i hi
  exact ⟨x, by rw [cell_of_row w g i cs 5 sh h1]; exact h3, h4⟩
theorem Odd.frozen {w : World} {g n : Nat} (h : Odd w g n) (i : Nat) (hi : i < n) : w.frozen? ⟨g, i, none⟩ = false := by
  obtain ⟨cs, sh, _, h1, _⟩ := h
  exact h1 i hi
theorem frozen_later {w w' : World} {p : Addr} (hb : Below w.heap.size w w') (hp : p.block < w.heap.size) (h : w.frozen? p = false) : w'.frozen? p = false := (hb.frozen hp).trans h
theorem Odd.later {w w' : World} {g n : Nat} (h : Odd w g n) (hb : Below w.heap.size w w') : Odd w' g n := by
  obtain ⟨cs, sh, h1, h2, h3⟩ := h
  have hg := (Array.getElem?_eq_some_iff.1 h1).1
  exact ⟨cs, sh, (hb.block g hg).trans h1, fun i hi => (hb.frozen (p := ⟨g, i, none⟩) hg).trans (h2 i hi), h3⟩
theorem Odd.put {w : World} {g n i : Nat} {y : Int} (h : Odd w g n) (hi : i < n) (h0 : 0 ≤ y) (h256 : y < 256) : Odd (w.setCell ⟨g, i, none⟩ (.int .u8 y)) g n := by
  obtain ⟨cs, sh, h1, h2, h3⟩ := h
  have hh : (w.setCell ⟨g, i, none⟩ (.int .u8 y)).heap[g]? = some (.cells (cs.setIfInBounds i (.int .u8 y)) 5 sh) := by simp [World.setCell, Array.getElem?_modify, h1]
  refine ⟨_, sh, hh, fun j hj => ?_, fun j hj => ?_⟩
  · have := h2 j hj
    simp only [World.frozen?, h1] at this
    simp only [World.frozen?, hh]
    exact this
  · by_cases hij : i = j
    · subst hij
      obtain ⟨x, h4, _⟩ := h3 i hi
      have := (Array.getElem?_eq_some_iff.1 h4).1
      exact ⟨y, by simp [this], h0, h256⟩
    · rw [Array.getElem?_setIfInBounds_ne hij]; exact h3 j hj
theorem Odd.conv {w : World} {g n c : Nat} (h : Odd w g n) : ∃ D : ByteArray, ∀ (dst : TypeId), Try.prog.underlying dst = some .string → ∀ {w' : World}, Below w.heap.size w w' → (convert 38 dst (.slice (some ⟨g, 0, none⟩) n c)).run Try.prog w' = .ok (.string D) w' := by
  have hc : ∀ i, i < n → ∃ x : Int, w.cell? ⟨g, i, none⟩ = some (.int .u8 x) := fun i hi => by obtain ⟨x, h1, _⟩ := h.at_ hi; exact ⟨x, h1⟩
  obtain ⟨F, hF⟩ : ∃ F : Nat → Int, ∀ i, i < n → w.cell? ⟨g, i, none⟩ = some (.int .u8 (F i)) := by
    refine ⟨fun i => if h : i < n then (hc i h).choose else 0, fun i hi => ?_⟩
    simp only [dif_pos hi]
    exact (hc i hi).choose_spec
  refine ⟨strOfNums ((List.range n).map F), fun dst hd w' hb => ?_⟩
  refine run_convert_bytes_arg (P := Try.prog) w' 38 5 Try.underlying38 Try.underlying5 g 0 n c ((List.range n).map F) (by simp) (fun i hi => ?_) dst hd
  rw [Nat.zero_add, cell_later hb (hF i hi)]
  simp [hi]
theorem rem_bound (x k : Int) (h0 : 0 ≤ x) (h256 : x < 256) (hk : 0 ≤ k) (hk3 : k ≤ 3) : 0 ≤ x.tmod (k + 3) ∧ x.tmod (k + 3) < 256 := by
  rw [Int.tmod_eq_emod_of_nonneg h0]
  have h2 := Int.emod_lt_of_pos x (show 0 < k + 3 by omega)
  exact ⟨Int.emod_nonneg x (by omega), by omega⟩
theorem readN_add {q : ByteArray} {k : Nat} {S t : ByteArray} {m : Nat} (hm : m ≤ t.size) : ∀ j, m + j ≤ t.size → readN q k (readN q k S t m) (t.extract m t.size) j = readN q k S t (m + j)
  | 0, _ => rfl
  | j + 1, hj => by
    show stepS q k (readN q k (readN q k S t m) (t.extract m t.size) j) (at_ (t.extract m t.size) j) = stepS q k (readN q k S t (m + j)) (at_ t (m + j))
    rw [readN_add hm j (by omega), at_extract (by omega)]
theorem readN_take {q : ByteArray} {k : Nat} {S t : ByteArray} {m : Nat} (hm : m ≤ t.size) : ∀ j, j ≤ m → readN q k S (t.extract 0 m) j = readN q k S t j
  | 0, _ => rfl
  | j + 1, hj => by
    show stepS q k (readN q k S (t.extract 0 m) j) (at_ (t.extract 0 m) j) = stepS q k (readN q k S t j) (at_ t j)
    rw [readN_take hm j (by omega), at_take hm (by omega)]
theorem read_two {q : ByteArray} {k : Nat} {S t : ByteArray} {m : Nat} (hm : m ≤ t.size) : readL q k S [t.extract 0 m, t.extract m t.size] = readS q k S t := by
  show readS q k (readS q k S (t.extract 0 m)) (t.extract m t.size) = _
  have h1 : (t.extract 0 m).size = m := by rw [ByteArray.size_extract]; omega
  have h2 : (t.extract m t.size).size = t.size - m := by rw [ByteArray.size_extract]; omega
  have h3 : readS q k S (t.extract 0 m) = readN q k S t m := by rw [readS, h1]; exact readN_take hm m (Nat.le_refl _)
  rw [h3, readS, h2, readN_add hm (t.size - m) (by omega), show m + (t.size - m) = t.size by omega]
  rfl
theorem two_small {t : ByteArray} {m : Nat} (hm : m ≤ t.size) (ht : t.size ≤ 1000000) : ∀ (i : Nat) (s : ByteArray), [t.extract 0 m, t.extract m t.size][i]? = some s → s.size ≤ 1000000 := fun i s hi => by
  have := List.mem_of_getElem? hi
  simp only [List.mem_cons, List.not_mem_nil, or_false] at this
  rcases this with rfl | rfl <;> rw [ByteArray.size_extract] <;> omega
theorem bytes_rows (w2 : World) (d : ByteArray) (W9 : World) (h : (w2.alloc (.cells (bytesRow d (grownCap w2 d.size 0 5)) 5 ((bytesRow d (grownCap w2 d.size 0 5)).size, (bytesRow d (grownCap w2 d.size 0 5)).size + 1))).drew = W9) :
    Below w2.heap.size w2 W9 ∧ Odd W9 w2.heap.size d.size ∧ True := by
  rw [show (w2.alloc (.cells (bytesRow d (grownCap w2 d.size 0 5)) 5 ((bytesRow d (grownCap w2 d.size 0 5)).size, (bytesRow d (grownCap w2 d.size 0 5)).size + 1))).drew = w2.drew.alloc (.cells (bytesRow d (grownCap w2 d.size 0 5)) 5 ((bytesRow d (grownCap w2 d.size 0 5)).size, (bytesRow d (grownCap w2 d.size 0 5)).size + 1)) from rfl] at h
  subst h
  have hb : Below w2.heap.size w2 (w2.drew.alloc (.cells (bytesRow d (grownCap w2 d.size 0 5)) 5 ((bytesRow d (grownCap w2 d.size 0 5)).size, (bytesRow d (grownCap w2 d.size 0 5)).size + 1))) := ((Below.refl _ w2).drew).alloc (Nat.le_refl _) _
  have hh : (w2.drew.alloc (.cells (bytesRow d (grownCap w2 d.size 0 5)) 5 ((bytesRow d (grownCap w2 d.size 0 5)).size, (bytesRow d (grownCap w2 d.size 0 5)).size + 1))).heap[w2.heap.size]? = some (.cells (bytesRow d (grownCap w2 d.size 0 5)) 5 ((bytesRow d (grownCap w2 d.size 0 5)).size, (bytesRow d (grownCap w2 d.size 0 5)).size + 1)) := by
    show (w2.drew.heap.push _)[w2.heap.size]? = _
    show (w2.heap.push _)[w2.heap.size]? = _
    simp
  refine ⟨hb, ⟨_, _, hh, fun i hi => ?_, fun i hi => ?_⟩, trivial⟩
  · have h1 := bytes_cell w2 d i hi
    rw [cell_of_row _ _ i _ 5 _ hh] at h1
    have h2 := (Array.getElem?_eq_some_iff.1 h1).1
    simp only [World.frozen?, hh]
    rw [decide_eq_false (p := _ ≤ i) (by omega)]; rfl
  · have h1 := bytes_cell w2 d i hi
    rw [cell_of_row _ _ i _ 5 _ hh] at h1
    exact ⟨_, h1, by omega, by have := at_lt d i; omega⟩
set_option maxHeartbeats 4000000 in
set_option maxRecDepth 100000 in
theorem tells3 (Q T0 : ByteArray) (z : Int) (hz : -128 ≤ z ∧ z ≤ 127) (raw : ByteArray) (hraw : raw.size ≤ 140737488351232) (b : Nat) (hb256 : b < 256) (w : World) : Calls Try.prog 3 #[.agg #[.string Q, .string T0, .int .i8 z], .string raw, .int .u8 b] w fun e w1 => e = .returned (.bool true) ∧ Below w.heap.size w w1 := by
 refine calls_of_wp Try.func3 rfl ?_
 refine Fact.enter (n := 177) (by kernel_rfl) (fun fr hf hT => ?_)
 have s0 := hT 0 _ rfl
 have s1 := hT 1 _ rfl
 have s2 := hT 2 _ rfl
 clear hT
 obtain ⟨W0, hW0⟩ : ∃ W0, w.alloc (.cells #[.string Q, .string T0, .int .i8 z] 24) = W0 := ⟨_, rfl⟩
 have hb0 : Below w.heap.size w W0 := by rw [← hW0]; exact (Below.refl _ _).alloc (Nat.le_refl _) _
 have hc0 := ask_cells w Q T0 z W0 hW0
 obtain ⟨x0, x1, x2⟩ := hc0
 refine wp_seq_k (fun K1 hK1 => ?_)
 refine Fact.region ?_
 refine Fact.p rfl fun K hK => ?_
 go_simp
 refine hK.out _ _ ?_; clear hK K
 refine Fact.p rfl fun K hK => ?_
 go_simp
 refine hK.out _ _ ?_; clear hK K
 refine Fact.nil ?_
 refine Fact.q hf (by simp only [Fact.G]) rfl fun fr1 hf1 hT => ?_
 have hKp : _ ∧ _ ∧ _ ∧ _ := ⟨hT 1, hT 2, hT 3, hT 6⟩
 simp only [Fact.G, Nat.reduceEqDiff, Nat.reduceLT, hf.size, reduceIte, s1, s2] at hKp
 clear hT hf s0 s1 s2
 obtain ⟨s1, s2, s3, s6⟩ := hKp
 have hf := hf1; clear hf1
 refine Fact.nx (hK1 _ _ ?_)
 try rw [hW0]
 clear hW0
 refine wp_seq_k (fun K2 hK2 => ?_)
 refine Fact.region ?_
 have b15 := hf.l 15 rfl
 have b16 := hf.l 16 rfl
 have b17 := hf.l 17 rfl
 refine Fact.p rfl fun K hK => ?_
 go_simp
 refine hK.out _ _ ?_; clear hK K
 refine Fact.p rfl fun K hK => ?_
 go_simp
 refine hK.out _ _ ?_; clear hK K
 refine Fact.p rfl fun K hK => ?_
 go_simp
 go_at_call 9; refine (few9b Q 300 W0).mono ?_; rintro e w1 ⟨rfl, h1⟩
 dsimp only
 refine hK.out _ _ ?_; clear hK K
 refine Fact.p rfl fun K hK => ?_
 go_simp
 refine hK.out _ _ ?_; clear hK K
 refine Fact.nil ?_
 refine Fact.q hf (by simp only [Fact.G]) rfl fun fr1 hf1 hT => ?_
 have hKp : _ ∧ _ ∧ _ ∧ _ ∧ _ := ⟨hT 1, hT 2, hT 3, hT 6, hT 7⟩
 simp only [Fact.G, Nat.reduceEqDiff, Nat.reduceLT, hf.size, reduceIte, s1, s2, s3, s6] at hKp
 clear hT hf s1 s2 s3 s6 b15 b16 b17
 obtain ⟨s1, s2, s3, s6, s7⟩ := hKp
 have hf := hf1; clear hf1
 refine Fact.nx (hK2 _ _ ?_)
 have hb1 := hb0.trans (h1.mono hb0.size)
 have x0 := cell_later h1 x0; have x1 := cell_later h1 x1; have x2 := cell_later h1 x2
 obtain ⟨X, hX⟩ : ∃ X, few Q 300 = X := ⟨_, rfl⟩
 rw [hX] at s7
 clear hX h1 hb0
 have e1 : IntKind.i64.wrap z = z := Fact.wrap_i64 (by omega) (by omega)
 refine Fact.seq_meet (fun fr wr => Fact.Fr 177 fr ∧ fr.tmps[1]? = some (.string raw) ∧ fr.tmps[2]? = some (.int .u8 b) ∧ fr.tmps[3]? = some (.pointer (some ⟨w.heap.size, 0, none⟩)) ∧ fr.tmps[7]? = some (.string X) ∧ Below w1.heap.size w1 wr) ?_ ?_
 · (
 have h4 : 255 < X.size ∨ (X.size ≤ 255 ∧ z < 0) ∨ (X.size ≤ 255 ∧ 0 ≤ z ∧ 3 < z) ∨ (X.size ≤ 255 ∧ 0 ≤ z ∧ z ≤ 3) := by omega
 rcases h4 with c1 | ⟨c1, c2⟩ | ⟨c1, c0, c2⟩ | ⟨c1, c0, c2⟩
 · (
 refine wp_seq_k (fun K3 hK3 => ?_)
 refine Stab.todo_begin (n := 177) (Stab.OkOps.of (by kernel_rfl)) (fun hok => ?_)
 refine Stab.mvO (k := 0) s7 hf.size hok.out rfl rfl rfl (.inl rfl) (by kernel_rfl) ?_
 apply Stab.t 1 _ hf.size hok.out rfl
 · (
 intro fr1 w1 hh hd hk K hK
 refine Stab.op_plain (o := _) rfl rfl ?_
 have s3 := Stab.o hh (by kernel_rfl) s3
 clear hd
 go_simp
 exact hK.out _ rfl _ _ (Below.refl _ _) rfl)
 apply Stab.t 2 _ hf.size hok.out rfl
 · (
 intro fr1 w1 hh hd hk K hK
 refine Stab.op_plain (o := _) rfl rfl ?_
 have s19 := Stab.u 1 0 hd hk rfl [] (by kernel_rfl) rfl rfl rfl
 clear hd
 have u0 := cell_later hh.ext x2
 go_simp
 exact hK.out _ rfl _ _ (Below.refl _ _) rfl)
 apply Stab.t 3 _ hf.size hok.out rfl
 · (
 intro fr1 w1 hh hd hk K hK
 refine Stab.op_plain (o := _) rfl rfl ?_
 have s20 := Stab.u 2 0 hd hk rfl [] (by kernel_rfl) rfl rfl rfl
 clear hd
 go_simp
 exact hK.out _ rfl _ _ (Below.refl _ _) rfl)
 apply Stab.t 4 _ hf.size hok.out rfl
 · (
 intro fr1 w1 hh hd hk K hK
 refine Stab.op_plain (o := _) rfl rfl ?_
 have s18 := Stab.u 0 3 hd hk rfl [] (by kernel_rfl) rfl rfl rfl
 have s21 := Stab.u 3 0 hd hk rfl [] (by kernel_rfl) rfl rfl rfl
 clear hd
 go_simp
 go_at_call 10; refine (new10n0 X z c1 w1).mono ?_; rintro e w2 ⟨rfl, rfl⟩
 exact hK.out _ rfl _ _ (Below.refl _ _) rfl)
 apply Stab.t 5 _ hf.size hok.out rfl
 · (
 intro fr1 w1 hh hd hk K hK
 refine Stab.op_plain (o := _) rfl rfl ?_
 have s22 := Stab.u 4 0 hd hk rfl [] (by kernel_rfl) rfl rfl rfl
 clear hd
 go_simp
 exact hK.out _ rfl _ _ (Below.refl _ _) rfl)
 refine Stab.mvO (k := 6) s7 hf.size hok.out rfl rfl rfl (.inl rfl) (by kernel_rfl) ?_
 apply Stab.t 7 _ hf.size hok.out rfl
 · (
 intro fr1 w1 hh hd hk K hK
 refine Stab.op_plain (o := _) rfl rfl ?_
 have s3 := Stab.o hh (by kernel_rfl) s3
 clear hd
 go_simp
 exact hK.out _ rfl _ _ (Below.refl _ _) rfl)
 apply Stab.t 8 _ hf.size hok.out rfl
 · (
 intro fr1 w1 hh hd hk K hK
 refine Stab.op_plain (o := _) rfl rfl ?_
 have s25 := Stab.u 7 0 hd hk rfl [] (by kernel_rfl) rfl rfl rfl
 clear hd
 have u0 := cell_later hh.ext x2
 go_simp
 exact hK.out _ rfl _ _ (Below.refl _ _) rfl)
 apply Stab.t 9 _ hf.size hok.out rfl
 · (
 intro fr1 w1 hh hd hk K hK
 refine Stab.op_plain (o := _) rfl rfl ?_
 have s26 := Stab.u 8 0 hd hk rfl [] (by kernel_rfl) rfl rfl rfl
 clear hd
 go_simp
 exact hK.out _ rfl _ _ (Below.refl _ _) rfl)
 apply Stab.t 10 _ hf.size hok.out rfl
 · (
 intro fr1 w1 hh hd hk K hK
 refine Stab.op_plain (o := _) rfl rfl ?_
 have s24 := Stab.u 6 3 hd hk rfl [] (by kernel_rfl) rfl rfl rfl
 have s27 := Stab.u 9 0 hd hk rfl [] (by kernel_rfl) rfl rfl rfl
 clear hd
 go_simp
 go_at_call 11; refine (may11_0 X z c1 w1).mono ?_; rintro e w2 ⟨rfl, rfl⟩
 exact hK.out _ rfl _ _ (Below.refl _ _) rfl)
 apply Stab.t 11 _ hf.size hok.out rfl
 · (
 intro fr1 w1 hh hd hk K hK
 refine Stab.op_plain (o := _) rfl rfl ?_
 have s23 := Stab.u 5 5 hd hk rfl [] (by kernel_rfl) rfl rfl rfl
 have s28 := Stab.u 10 0 hd hk rfl [] (by kernel_rfl) rfl rfl rfl
 clear hd
 go_simp
 exact hK.out _ rfl _ _ (Below.refl _ _) rfl)
 refine Stab.todo_facts (n := 177) (by kernel_rfl) hf.size hok.out rfl (fun fr1 w1 hh hg => ?_)
 replace s1 := Stab.o hh (by kernel_rfl) s1
 replace s2 := Stab.o hh (by kernel_rfl) s2
 replace s3 := Stab.o hh (by kernel_rfl) s3
 replace s6 := Stab.o hh (by kernel_rfl) s6
 replace s7 := Stab.o hh (by kernel_rfl) s7
 have s29 := Stab.e 11 0 hg rfl rfl rfl rfl
 have hf1 : Fact.Fr 177 fr1 := ⟨hh.size.trans hf.size, hh.defers.trans hf.defers⟩
 have hx := hh.ext
 clear hg hh hf hok
 have hf := hf1; clear hf1
 refine Fact.nx (hK3 _ _ ?_)
 try simp at s29
 refine Fact.cond_f s29 ?_
 refine wp_skip ?_
 refine Fact.then_normal ?_
 exact ⟨hf, s1, s2, s3, s7, hx⟩)
 · (
 refine wp_seq_k (fun K4 hK4 => ?_)
 refine Stab.todo_begin (n := 177) (Stab.OkOps.of (by kernel_rfl)) (fun hok => ?_)
 refine Stab.mvO (k := 0) s7 hf.size hok.out rfl rfl rfl (.inl rfl) (by kernel_rfl) ?_
 apply Stab.t 1 _ hf.size hok.out rfl
 · (
 intro fr1 w1 hh hd hk K hK
 refine Stab.op_plain (o := _) rfl rfl ?_
 have s3 := Stab.o hh (by kernel_rfl) s3
 clear hd
 go_simp
 exact hK.out _ rfl _ _ (Below.refl _ _) rfl)
 apply Stab.t 2 _ hf.size hok.out rfl
 · (
 intro fr1 w1 hh hd hk K hK
 refine Stab.op_plain (o := _) rfl rfl ?_
 have s19 := Stab.u 1 0 hd hk rfl [] (by kernel_rfl) rfl rfl rfl
 clear hd
 have u0 := cell_later hh.ext x2
 go_simp
 exact hK.out _ rfl _ _ (Below.refl _ _) rfl)
 apply Stab.t 3 _ hf.size hok.out rfl
 · (
 intro fr1 w1 hh hd hk K hK
 refine Stab.op_plain (o := _) rfl rfl ?_
 have s20 := Stab.u 2 0 hd hk rfl [] (by kernel_rfl) rfl rfl rfl
 clear hd
 go_simp
 exact hK.out _ rfl _ _ (Below.refl _ _) rfl)
 apply Stab.t 4 _ hf.size hok.out rfl
 · (
 intro fr1 w1 hh hd hk K hK
 refine Stab.op_plain (o := _) rfl rfl ?_
 have s18 := Stab.u 0 3 hd hk rfl [] (by kernel_rfl) rfl rfl rfl
 have s21 := Stab.u 3 0 hd hk rfl [] (by kernel_rfl) rfl rfl rfl
 clear hd
 go_simp
 go_at_call 10; refine (new10n1 X z c1 c2 w1).mono ?_; rintro e w2 ⟨rfl, rfl⟩
 exact hK.out _ rfl _ _ (Below.refl _ _) rfl)
 apply Stab.t 5 _ hf.size hok.out rfl
 · (
 intro fr1 w1 hh hd hk K hK
 refine Stab.op_plain (o := _) rfl rfl ?_
 have s22 := Stab.u 4 0 hd hk rfl [] (by kernel_rfl) rfl rfl rfl
 clear hd
 go_simp
 exact hK.out _ rfl _ _ (Below.refl _ _) rfl)
 refine Stab.mvO (k := 6) s7 hf.size hok.out rfl rfl rfl (.inl rfl) (by kernel_rfl) ?_
 apply Stab.t 7 _ hf.size hok.out rfl
 · (
 intro fr1 w1 hh hd hk K hK
 refine Stab.op_plain (o := _) rfl rfl ?_
 have s3 := Stab.o hh (by kernel_rfl) s3
 clear hd
 go_simp
 exact hK.out _ rfl _ _ (Below.refl _ _) rfl)
 apply Stab.t 8 _ hf.size hok.out rfl
 · (
 intro fr1 w1 hh hd hk K hK
 refine Stab.op_plain (o := _) rfl rfl ?_
 have s25 := Stab.u 7 0 hd hk rfl [] (by kernel_rfl) rfl rfl rfl
 clear hd
 have u0 := cell_later hh.ext x2
 go_simp
 exact hK.out _ rfl _ _ (Below.refl _ _) rfl)
 apply Stab.t 9 _ hf.size hok.out rfl
 · (
 intro fr1 w1 hh hd hk K hK
 refine Stab.op_plain (o := _) rfl rfl ?_
 have s26 := Stab.u 8 0 hd hk rfl [] (by kernel_rfl) rfl rfl rfl
 clear hd
 go_simp
 exact hK.out _ rfl _ _ (Below.refl _ _) rfl)
 apply Stab.t 10 _ hf.size hok.out rfl
 · (
 intro fr1 w1 hh hd hk K hK
 refine Stab.op_plain (o := _) rfl rfl ?_
 have s24 := Stab.u 6 3 hd hk rfl [] (by kernel_rfl) rfl rfl rfl
 have s27 := Stab.u 9 0 hd hk rfl [] (by kernel_rfl) rfl rfl rfl
 clear hd
 go_simp
 go_at_call 11; refine (may11_1 X z c1 c2 w1).mono ?_; rintro e w2 ⟨rfl, rfl⟩
 exact hK.out _ rfl _ _ (Below.refl _ _) rfl)
 apply Stab.t 11 _ hf.size hok.out rfl
 · (
 intro fr1 w1 hh hd hk K hK
 refine Stab.op_plain (o := _) rfl rfl ?_
 have s23 := Stab.u 5 5 hd hk rfl [] (by kernel_rfl) rfl rfl rfl
 have s28 := Stab.u 10 0 hd hk rfl [] (by kernel_rfl) rfl rfl rfl
 clear hd
 go_simp
 exact hK.out _ rfl _ _ (Below.refl _ _) rfl)
 refine Stab.todo_facts (n := 177) (by kernel_rfl) hf.size hok.out rfl (fun fr1 w1 hh hg => ?_)
 replace s1 := Stab.o hh (by kernel_rfl) s1
 replace s2 := Stab.o hh (by kernel_rfl) s2
 replace s3 := Stab.o hh (by kernel_rfl) s3
 replace s6 := Stab.o hh (by kernel_rfl) s6
 replace s7 := Stab.o hh (by kernel_rfl) s7
 have s29 := Stab.e 11 0 hg rfl rfl rfl rfl
 have hf1 : Fact.Fr 177 fr1 := ⟨hh.size.trans hf.size, hh.defers.trans hf.defers⟩
 have hx := hh.ext
 clear hg hh hf hok
 have hf := hf1; clear hf1
 refine Fact.nx (hK4 _ _ ?_)
 try simp at s29
 refine Fact.cond_f s29 ?_
 refine wp_skip ?_
 refine Fact.then_normal ?_
 exact ⟨hf, s1, s2, s3, s7, hx⟩)
 · (
 refine wp_seq_k (fun K5 hK5 => ?_)
 refine Stab.todo_begin (n := 177) (Stab.OkOps.of (by kernel_rfl)) (fun hok => ?_)
 refine Stab.mvO (k := 0) s7 hf.size hok.out rfl rfl rfl (.inl rfl) (by kernel_rfl) ?_
 apply Stab.t 1 _ hf.size hok.out rfl
 · (
 intro fr1 w1 hh hd hk K hK
 refine Stab.op_plain (o := _) rfl rfl ?_
 have s3 := Stab.o hh (by kernel_rfl) s3
 clear hd
 go_simp
 exact hK.out _ rfl _ _ (Below.refl _ _) rfl)
 apply Stab.t 2 _ hf.size hok.out rfl
 · (
 intro fr1 w1 hh hd hk K hK
 refine Stab.op_plain (o := _) rfl rfl ?_
 have s19 := Stab.u 1 0 hd hk rfl [] (by kernel_rfl) rfl rfl rfl
 clear hd
 have u0 := cell_later hh.ext x2
 go_simp
 exact hK.out _ rfl _ _ (Below.refl _ _) rfl)
 apply Stab.t 3 _ hf.size hok.out rfl
 · (
 intro fr1 w1 hh hd hk K hK
 refine Stab.op_plain (o := _) rfl rfl ?_
 have s20 := Stab.u 2 0 hd hk rfl [] (by kernel_rfl) rfl rfl rfl
 clear hd
 go_simp
 exact hK.out _ rfl _ _ (Below.refl _ _) rfl)
 apply Stab.t 4 _ hf.size hok.out rfl
 · (
 intro fr1 w1 hh hd hk K hK
 refine Stab.op_plain (o := _) rfl rfl ?_
 have s18 := Stab.u 0 3 hd hk rfl [] (by kernel_rfl) rfl rfl rfl
 have s21 := Stab.u 3 0 hd hk rfl [] (by kernel_rfl) rfl rfl rfl
 clear hd
 go_simp
 go_at_call 10; refine (new10n2 X z c1 c2 w1).mono ?_; rintro e w2 ⟨rfl, rfl⟩
 exact hK.out _ rfl _ _ (Below.refl _ _) rfl)
 apply Stab.t 5 _ hf.size hok.out rfl
 · (
 intro fr1 w1 hh hd hk K hK
 refine Stab.op_plain (o := _) rfl rfl ?_
 have s22 := Stab.u 4 0 hd hk rfl [] (by kernel_rfl) rfl rfl rfl
 clear hd
 go_simp
 exact hK.out _ rfl _ _ (Below.refl _ _) rfl)
 refine Stab.mvO (k := 6) s7 hf.size hok.out rfl rfl rfl (.inl rfl) (by kernel_rfl) ?_
 apply Stab.t 7 _ hf.size hok.out rfl
 · (
 intro fr1 w1 hh hd hk K hK
 refine Stab.op_plain (o := _) rfl rfl ?_
 have s3 := Stab.o hh (by kernel_rfl) s3
 clear hd
 go_simp
 exact hK.out _ rfl _ _ (Below.refl _ _) rfl)
 apply Stab.t 8 _ hf.size hok.out rfl
 · (
 intro fr1 w1 hh hd hk K hK
 refine Stab.op_plain (o := _) rfl rfl ?_
 have s25 := Stab.u 7 0 hd hk rfl [] (by kernel_rfl) rfl rfl rfl
 clear hd
 have u0 := cell_later hh.ext x2
 go_simp
 exact hK.out _ rfl _ _ (Below.refl _ _) rfl)
 apply Stab.t 9 _ hf.size hok.out rfl
 · (
 intro fr1 w1 hh hd hk K hK
 refine Stab.op_plain (o := _) rfl rfl ?_
 have s26 := Stab.u 8 0 hd hk rfl [] (by kernel_rfl) rfl rfl rfl
 clear hd
 go_simp
 exact hK.out _ rfl _ _ (Below.refl _ _) rfl)
 apply Stab.t 10 _ hf.size hok.out rfl
 · (
 intro fr1 w1 hh hd hk K hK
 refine Stab.op_plain (o := _) rfl rfl ?_
 have s24 := Stab.u 6 3 hd hk rfl [] (by kernel_rfl) rfl rfl rfl
 have s27 := Stab.u 9 0 hd hk rfl [] (by kernel_rfl) rfl rfl rfl
 clear hd
 go_simp
 go_at_call 11; refine (may11_2 X z c1 c0 c2 w1).mono ?_; rintro e w2 ⟨rfl, rfl⟩
 exact hK.out _ rfl _ _ (Below.refl _ _) rfl)
 apply Stab.t 11 _ hf.size hok.out rfl
 · (
 intro fr1 w1 hh hd hk K hK
 refine Stab.op_plain (o := _) rfl rfl ?_
 have s23 := Stab.u 5 5 hd hk rfl [] (by kernel_rfl) rfl rfl rfl
 have s28 := Stab.u 10 0 hd hk rfl [] (by kernel_rfl) rfl rfl rfl
 clear hd
 go_simp
 exact hK.out _ rfl _ _ (Below.refl _ _) rfl)
 refine Stab.todo_facts (n := 177) (by kernel_rfl) hf.size hok.out rfl (fun fr1 w1 hh hg => ?_)
 replace s1 := Stab.o hh (by kernel_rfl) s1
 replace s2 := Stab.o hh (by kernel_rfl) s2
 replace s3 := Stab.o hh (by kernel_rfl) s3
 replace s6 := Stab.o hh (by kernel_rfl) s6
 replace s7 := Stab.o hh (by kernel_rfl) s7
 have s29 := Stab.e 11 0 hg rfl rfl rfl rfl
 have hf1 : Fact.Fr 177 fr1 := ⟨hh.size.trans hf.size, hh.defers.trans hf.defers⟩
 have hx := hh.ext
 clear hg hh hf hok
 have hf := hf1; clear hf1
 refine Fact.nx (hK5 _ _ ?_)
 try simp at s29
 refine Fact.cond_f s29 ?_
 refine wp_skip ?_
 refine Fact.then_normal ?_
 exact ⟨hf, s1, s2, s3, s7, hx⟩)
 · (
 have hzn : ((z.toNat : Nat) : Int) = z := by omega
 have HZ := Lib.hid hzn; clear hzn
 refine wp_seq_k (fun K6 hK6 => ?_)
 refine Stab.todo_begin (n := 177) (Stab.OkOps.of (by kernel_rfl)) (fun hok => ?_)
 refine Stab.mvO (k := 0) s7 hf.size hok.out rfl rfl rfl (.inl rfl) (by kernel_rfl) ?_
 apply Stab.t 1 _ hf.size hok.out rfl
 · (
 intro fr1 w1 hh hd hk K hK
 refine Stab.op_plain (o := _) rfl rfl ?_
 have s3 := Stab.o hh (by kernel_rfl) s3
 clear hd
 go_simp
 exact hK.out _ rfl _ _ (Below.refl _ _) rfl)
 apply Stab.t 2 _ hf.size hok.out rfl
 · (
 intro fr1 w1 hh hd hk K hK
 refine Stab.op_plain (o := _) rfl rfl ?_
 have s19 := Stab.u 1 0 hd hk rfl [] (by kernel_rfl) rfl rfl rfl
 clear hd
 have u0 := cell_later hh.ext x2
 go_simp
 exact hK.out _ rfl _ _ (Below.refl _ _) rfl)
 apply Stab.t 3 _ hf.size hok.out rfl
 · (
 intro fr1 w1 hh hd hk K hK
 refine Stab.op_plain (o := _) rfl rfl ?_
 have s20 := Stab.u 2 0 hd hk rfl [] (by kernel_rfl) rfl rfl rfl
 clear hd
 go_simp
 exact hK.out _ rfl _ _ (Below.refl _ _) rfl)
 refine Stab.todo_op (k := 4) (n := 177) (fun v _ => ∃ g9, v = .pointer (some ⟨g9, 0, none⟩)) hf.size hok.out rfl (fun _ _ _ _ h => h) ?_ ?_
 · (
 intro fr1 w1 hh hd hk K hK
 refine Stab.op_plain (o := _) rfl rfl ?_
 have s18 := Stab.u 0 3 hd hk rfl [] (by kernel_rfl) rfl rfl rfl
 have s21 := Stab.u 3 0 hd hk rfl [] (by kernel_rfl) rfl rfl rfl
 clear hd
 have nw := new10 X z.toNat c1 (by omega) w1
 rw [HZ.out] at nw
 go_simp
 go_at_call 10; refine (nw).mono ?_; rintro e w2 ⟨g9, rfl, hA9, hg9, hb⟩
 exact hK.out _ rfl _ _ hb ⟨_, rfl⟩)
 apply Stab.t 5 _ hf.size hok.out rfl
 · (
 intro fr1 w1 hh hd hk K hK
 refine Stab.op_plain (o := _) rfl rfl ?_
 obtain ⟨x22, s22, hp22⟩ := Stab.use (j := 4) (m := 0) hd hk rfl [] (by kernel_rfl) rfl rfl rfl
 obtain ⟨g22, rfl⟩ := hp22
 clear hd
 go_simp
 exact hK.out _ rfl _ _ (Below.refl _ _) rfl)
 refine Stab.mvO (k := 6) s7 hf.size hok.out rfl rfl rfl (.inl rfl) (by kernel_rfl) ?_
 apply Stab.t 7 _ hf.size hok.out rfl
 · (
 intro fr1 w1 hh hd hk K hK
 refine Stab.op_plain (o := _) rfl rfl ?_
 have s3 := Stab.o hh (by kernel_rfl) s3
 clear hd
 go_simp
 exact hK.out _ rfl _ _ (Below.refl _ _) rfl)
 apply Stab.t 8 _ hf.size hok.out rfl
 · (
 intro fr1 w1 hh hd hk K hK
 refine Stab.op_plain (o := _) rfl rfl ?_
 have s25 := Stab.u 7 0 hd hk rfl [] (by kernel_rfl) rfl rfl rfl
 clear hd
 have u0 := cell_later hh.ext x2
 go_simp
 exact hK.out _ rfl _ _ (Below.refl _ _) rfl)
 apply Stab.t 9 _ hf.size hok.out rfl
 · (
 intro fr1 w1 hh hd hk K hK
 refine Stab.op_plain (o := _) rfl rfl ?_
 have s26 := Stab.u 8 0 hd hk rfl [] (by kernel_rfl) rfl rfl rfl
 clear hd
 go_simp
 exact hK.out _ rfl _ _ (Below.refl _ _) rfl)
 apply Stab.t 10 _ hf.size hok.out rfl
 · (
 intro fr1 w1 hh hd hk K hK
 refine Stab.op_plain (o := _) rfl rfl ?_
 have s24 := Stab.u 6 3 hd hk rfl [] (by kernel_rfl) rfl rfl rfl
 have s27 := Stab.u 9 0 hd hk rfl [] (by kernel_rfl) rfl rfl rfl
 clear hd
 go_simp
 go_at_call 11; refine (may11_3 X z c1 c0 c2 w1).mono ?_; rintro e w2 ⟨rfl, rfl⟩
 exact hK.out _ rfl _ _ (Below.refl _ _) rfl)
 apply Stab.t 11 _ hf.size hok.out rfl
 · (
 intro fr1 w1 hh hd hk K hK
 refine Stab.op_plain (o := _) rfl rfl ?_
 have s23 := Stab.u 5 5 hd hk rfl [] (by kernel_rfl) rfl rfl rfl
 have s28 := Stab.u 10 0 hd hk rfl [] (by kernel_rfl) rfl rfl rfl
 clear hd
 go_simp
 exact hK.out _ rfl _ _ (Below.refl _ _) rfl)
 refine Stab.todo_facts (n := 177) (by kernel_rfl) hf.size hok.out rfl (fun fr1 w1 hh hg => ?_)
 replace s1 := Stab.o hh (by kernel_rfl) s1
 replace s2 := Stab.o hh (by kernel_rfl) s2
 replace s3 := Stab.o hh (by kernel_rfl) s3
 replace s6 := Stab.o hh (by kernel_rfl) s6
 replace s7 := Stab.o hh (by kernel_rfl) s7
 have s29 := Stab.e 11 0 hg rfl rfl rfl rfl
 have hf1 : Fact.Fr 177 fr1 := ⟨hh.size.trans hf.size, hh.defers.trans hf.defers⟩
 have hx := hh.ext
 clear hg hh hf hok
 have hf := hf1; clear hf1
 refine Fact.nx (hK6 _ _ ?_)
 try simp at s29
 refine Fact.cond_f s29 ?_
 refine wp_skip ?_
 refine Fact.then_normal ?_
 exact ⟨hf, s1, s2, s3, s7, hx⟩))
 · (
 clear hf s1 s2 s3 s6 s7
 rintro fr wr ⟨hf, s1, s2, s3, s7, hb9⟩
 have hb2 := hb1.trans (hb9.mono hb1.size)
 have x0 := cell_later hb9 x0; have x1 := cell_later hb9 x1; have x2 := cell_later hb9 x2
 clear hb9 hb1
 refine wp_seq_k (fun K7 hK7 => ?_)
 refine Fact.region ?_
 have b30 := hf.l 30 rfl
 have b31 := hf.l 31 rfl
 refine Fact.p rfl fun K hK => ?_
 go_simp
 refine hK.out _ _ ?_; clear hK K
 refine Fact.p rfl fun K hK => ?_
 go_simp
 go_at_call 9; refine (few9b X 60 wr).mono ?_; rintro e w2 ⟨rfl, h2⟩
 dsimp only
 refine hK.out _ _ ?_; clear hK K
 refine Fact.p rfl fun K hK => ?_
 go_simp
 refine hK.out _ _ ?_; clear hK K
 refine Fact.nil ?_
 refine Fact.q hf (by simp only [Fact.G]) rfl fun fr1 hf1 hT => ?_
 have hKp : _ ∧ _ ∧ _ ∧ _ := ⟨hT 1, hT 2, hT 3, hT 7⟩
 simp only [Fact.G, Nat.reduceEqDiff, Nat.reduceLT, hf.size, reduceIte, s1, s2, s3] at hKp
 clear hT hf s1 s2 s3 s7 b30 b31
 obtain ⟨s1, s2, s3, s7⟩ := hKp
 have hf := hf1; clear hf1
 refine Fact.nx (hK7 _ _ ?_)
 have hb3 := hb2.trans (h2.mono hb2.size)
 have x0 := cell_later h2 x0; have x1 := cell_later h2 x1; have x2 := cell_later h2 x2
 obtain ⟨q, hq⟩ : ∃ q, few X 60 = q := ⟨_, rfl⟩
 have hq60 : q.size ≤ 60 := by rw [← hq]; exact few_size _ _
 rw [hq] at s7
 obtain ⟨k, hbk⟩ : ∃ k, bnd z = k := ⟨_, rfl⟩
 have hk3 : k ≤ 3 := by rw [← hbk]; exact bnd_le z
 clear hq h2 hb2
 have hq0 : q.size ≤ 255 := by omega
 refine wp_seq_k (fun K8 hK8 => ?_)
 refine Stab.todo_begin (n := 177) (Stab.OkOps.of (by kernel_rfl)) (fun hok => ?_)
 refine Stab.mvO (k := 0) s7 hf.size hok.out rfl rfl rfl (.inl rfl) (by kernel_rfl) ?_
 apply Stab.t 1 _ hf.size hok.out rfl
 · (
 intro fr1 w1 hh hd hk K hK
 refine Stab.op_plain (o := _) rfl rfl ?_
 have s3 := Stab.o hh (by kernel_rfl) s3
 clear hd
 have u0 := cell_later hh.ext x0; have u1 := cell_later hh.ext x1; have u2 := cell_later hh.ext x2
 go_simp
 exact hK.out _ rfl _ _ (Below.refl _ _) rfl)
 apply Stab.t 2 _ hf.size hok.out rfl
 · (
 intro fr1 w1 hh hd hk K hK
 refine Stab.op_plain (o := _) rfl rfl ?_
 have s33 := Stab.u 1 0 hd hk rfl [] (by kernel_rfl) rfl rfl rfl
 clear hd
 go_simp
 go_at_call 12; refine (bound12 Q T0 z hz w1).mono ?_; rintro e w2 ⟨rfl, hb⟩
 rw [hbk]
 exact hK.out _ rfl _ _ hb rfl)
 refine Stab.todo_op (k := 3) (n := 177) (PAt q k) hf.size hok.out rfl (PAt.stable q k) ?_ ?_
 · (
 intro fr1 w1 hh hd hk K hK
 refine Stab.op_plain (o := _) rfl rfl ?_
 have s32 := Stab.u 0 2 hd hk rfl [] (by kernel_rfl) rfl rfl rfl
 have s34 := Stab.u 2 0 hd hk rfl [] (by kernel_rfl) rfl rfl rfl
 clear hd
 go_simp
 go_at_call 10; refine (new10 q k hq0 hk3 w1).mono ?_; rintro e w2 ⟨g9, rfl, hA9, hg9, hb⟩
 exact hK.out _ rfl _ _ hb ⟨_, rfl, hA9⟩)
 refine Stab.mvO (k := 4) s7 hf.size hok.out rfl rfl rfl (.inl rfl) (by kernel_rfl) ?_
 apply Stab.t 5 _ hf.size hok.out rfl
 · (
 intro fr1 w1 hh hd hk K hK
 refine Stab.op_plain (o := _) rfl rfl ?_
 have s3 := Stab.o hh (by kernel_rfl) s3
 clear hd
 have u0 := cell_later hh.ext x0; have u1 := cell_later hh.ext x1; have u2 := cell_later hh.ext x2
 go_simp
 exact hK.out _ rfl _ _ (Below.refl _ _) rfl)
 apply Stab.t 6 _ hf.size hok.out rfl
 · (
 intro fr1 w1 hh hd hk K hK
 refine Stab.op_plain (o := _) rfl rfl ?_
 have s37 := Stab.u 5 0 hd hk rfl [] (by kernel_rfl) rfl rfl rfl
 clear hd
 go_simp
 go_at_call 12; refine (bound12 Q T0 z hz w1).mono ?_; rintro e w2 ⟨rfl, hb⟩
 rw [hbk]
 exact hK.out _ rfl _ _ hb rfl)
 apply Stab.t 7 _ hf.size hok.out rfl
 · (
 intro fr1 w1 hh hd hk K hK
 refine Stab.op_plain (o := _) rfl rfl ?_
 have s36 := Stab.u 4 2 hd hk rfl [] (by kernel_rfl) rfl rfl rfl
 have s38 := Stab.u 6 0 hd hk rfl [] (by kernel_rfl) rfl rfl rfl
 clear hd
 go_simp
 exact hK.out _ rfl _ _ (Below.refl _ _) rfl)
 refine Stab.todo_op (k := 8) (n := 177) (PBx w2.heap.size) hf.size hok.out rfl (PBx.stable _) ?_ ?_
 · (
 intro fr1 w1 hh hd hk K hK
 refine Stab.op_plain (o := _) rfl rfl ?_
 clear hd
 go_simp
 exact hK.out _ rfl _ _ ((Below.refl _ _).alloc (Nat.le_refl _) _) ⟨_, rfl, hh.ext.size, heap_alloc_new _ _⟩)
 refine Stab.todo_op (k := 9) (n := 177) (PAt q k) hf.size hok.out rfl (PAt.stable q k) ?_ ?_
 · (
 intro fr1 w1 hh hd hk K hK
 refine Stab.op_plain (o := _) rfl rfl ?_
 obtain ⟨x35, s35, hp35⟩ := Stab.use (j := 3) (m := 5) hd hk rfl [] (by kernel_rfl) rfl rfl rfl
 obtain ⟨g35, rfl, hA35⟩ := hp35
 clear hd
 go_simp
 exact hK.out _ rfl _ _ (Below.refl _ _) ⟨_, rfl, hA35⟩)
 refine Tail.todo_tail (n := 177) (m := 10) (ws := []) (by kernel_rfl) hf.size hok.out rfl rfl (by kernel_rfl) (fun fr1 w1 hh hg => ?_)
 replace s1 := Stab.o hh (by kernel_rfl) s1
 replace s2 := Stab.o hh (by kernel_rfl) s2
 replace s3 := Stab.o hh (by kernel_rfl) s3
 replace s7 := Stab.o hh (by kernel_rfl) s7
 obtain ⟨x8, s8, hp8⟩ := Tail.got_use (j := 9) (m := 0) hg rfl rfl rfl rfl rfl
 obtain ⟨g8, rfl, hA8⟩ := hp8
 obtain ⟨x9, s9, hp9⟩ := Tail.got_use (j := 8) (m := 1) hg rfl rfl rfl rfl rfl
 obtain ⟨g9, rfl, hgb9, hg9⟩ := hp9
 have s39 := Tail.got_is 7 2 hg rfl rfl rfl rfl rfl
 have hf1 : Fact.Fr 177 fr1 := ⟨hh.size.trans hf.size, hh.defers.trans hf.defers⟩
 have hx := hh.ext
 clear hg hh hf hok
 have hf := hf1; clear hf1
 obtain ⟨cb0, cb1, fz⟩ := box31 hg9
 refine Tail.seq_op rfl rfl (fun K hK => ?_)
 go_simp
 refine hK.out _ _ ?_; clear hK K
 refine Tail.seq_nil rfl ?_
 refine Fact.q hf (by simp only [Fact.G]) rfl fun fr1 hf1 hT => ?_
 have hKp : _ ∧ _ ∧ _ ∧ _ ∧ _ ∧ _ := ⟨hT 1, hT 2, hT 3, hT 7, hT 8, hT 9⟩
 simp only [Fact.G, Nat.reduceEqDiff, reduceIte, s1, s2, s3, s7, s8, s9] at hKp
 clear hT hf s1 s2 s3 s7 s8 s9 s39
 obtain ⟨s1, s2, s3, s7, s8, s9⟩ := hKp
 have hf := hf1; clear hf1
 refine Fact.nx (hK8 _ _ ?_)
 obtain ⟨W5, hW5⟩ : ∃ W5, put31 w1 g9 q k = W5 := ⟨_, rfl⟩
 obtain ⟨hA5, y0, y1, hb5⟩ := put31_is (W := w2) hA8 hg9 hgb9 hx W5 hW5
 try rw [put31] at hW5
 try rw [hW5]
 have hb6 := hb3.trans (hb5.mono hb3.size)
 have x1 := cell_later hb5 x1
 clear hW5 hx hA8 hb3 hb5 x0 x2 hg9 hgb9 cb0 cb1 fz hbk
 refine wp_seq_k (fun K9 hK9 => ?_)
 refine wp_seq_k (fun K10 hK10 => ?_)
 refine Stab.todo_begin (n := 177) (Stab.OkOps.of (by kernel_rfl)) (fun hok => ?_)
 refine Stab.mvO (k := 0) s8 hf.size hok.out rfl rfl rfl (.inl rfl) (by kernel_rfl) ?_
 apply Stab.t 1 _ hf.size hok.out rfl
 · (
 intro fr1 w1 hh hd hk K hK
 refine Stab.op_plain (o := _) rfl rfl ?_
 have s40 := Stab.u 0 0 hd hk rfl [] (by kernel_rfl) rfl rfl rfl
 clear hd
 go_simp
 exact hK.out _ rfl _ _ (Below.refl _ _) rfl)
 refine Stab.mvN (k := 2) (j := 1) (m := 0) hf.size hok.out rfl rfl rfl (.inl rfl) rfl [] (by kernel_rfl) rfl rfl rfl ?_
 apply Stab.t 3 _ hf.size hok.out rfl
 · (
 intro fr1 w1 hh hd hk K hK
 have s42 := Stab.u 2 0 hd hk rfl [] (by kernel_rfl) rfl rfl rfl
 refine Stab.op_guard (o := _) rfl rfl rfl rfl s42 ?_
 have s8 := Stab.o hh (by kernel_rfl) s8
 clear hd
 go_simp
 exact hK.out _ rfl _ _ (Below.refl _ _) rfl)
 apply Stab.t 4 _ hf.size hok.out rfl
 · (
 intro fr1 w1 hh hd hk K hK
 have s42 := Stab.u 2 1 hd hk rfl [] (by kernel_rfl) rfl rfl rfl
 refine Stab.op_guard (o := _) rfl rfl rfl rfl s42 ?_
 have s43 := Stab.u 3 0 hd hk rfl [] (by kernel_rfl) rfl rfl rfl
 clear hd
 go_simp
 go_at_call 13; refine (start13 w1 g8 q k (hA5.later hh.ext)).mono ?_; rintro e w2 ⟨rfl, hb⟩
 exact hK.out _ rfl _ _ hb rfl)
 apply Stab.t 5 _ hf.size hok.out rfl
 · (
 intro fr1 w1 hh hd hk K hK
 have s42 := Stab.u 2 2 hd hk rfl [] (by kernel_rfl) rfl rfl rfl
 refine Stab.op_guard (o := _) rfl rfl rfl rfl s42 ?_
 have s9 := Stab.o hh (by kernel_rfl) s9
 clear hd
 have u0 := cell_later hh.ext y0; have u1 := cell_later hh.ext y1
 go_simp
 exact hK.out _ rfl _ _ (Below.refl _ _) rfl)
 apply Stab.t 6 _ hf.size hok.out rfl
 · (
 intro fr1 w1 hh hd hk K hK
 have s42 := Stab.u 2 3 hd hk rfl [] (by kernel_rfl) rfl rfl rfl
 refine Stab.op_guard (o := _) rfl rfl rfl rfl s42 ?_
 have s45 := Stab.u 5 0 hd hk rfl [] (by kernel_rfl) rfl rfl rfl
 clear hd
 go_simp
 go_at_call 14; refine (rstart14 q k hq0 hk3 w1).mono ?_; rintro e w2 ⟨rfl, hb⟩
 exact hK.out _ rfl _ _ hb rfl)
 apply Stab.t 7 _ hf.size hok.out rfl
 · (
 intro fr1 w1 hh hd hk K hK
 have s42 := Stab.u 2 4 hd hk rfl [] (by kernel_rfl) rfl rfl rfl
 refine Stab.op_guard (o := _) rfl rfl rfl rfl s42 ?_
 have s44 := Stab.u 4 2 hd hk rfl [] (by kernel_rfl) rfl rfl rfl
 have s46 := Stab.u 6 0 hd hk rfl [] (by kernel_rfl) rfl rfl rfl
 clear hd
 go_simp
 exact hK.out _ rfl _ _ (Below.refl _ _) rfl)
 apply Stab.t 8 _ hf.size hok.out rfl
 · (
 intro fr1 w1 hh hd hk K hK
 refine Stab.op_plain (o := _) rfl rfl ?_
 have s42 := Stab.u 2 5 hd hk rfl [] (by kernel_rfl) rfl rfl rfl
 have s47 := Stab.u 7 0 hd hk rfl [] (by kernel_rfl) rfl rfl rfl
 clear hd
 go_simp
 exact hK.out _ rfl _ _ (Below.refl _ _) rfl)
 refine Stab.todo_facts (n := 177) (by kernel_rfl) hf.size hok.out rfl (fun fr1 w1 hh hg => ?_)
 replace s1 := Stab.o hh (by kernel_rfl) s1
 replace s2 := Stab.o hh (by kernel_rfl) s2
 replace s3 := Stab.o hh (by kernel_rfl) s3
 replace s7 := Stab.o hh (by kernel_rfl) s7
 replace s8 := Stab.o hh (by kernel_rfl) s8
 replace s9 := Stab.o hh (by kernel_rfl) s9
 have s48 := Stab.e 8 0 hg rfl rfl rfl rfl
 have hf1 : Fact.Fr 177 fr1 := ⟨hh.size.trans hf.size, hh.defers.trans hf.defers⟩
 have hx := hh.ext
 clear hg hh hf hok
 have hf := hf1; clear hf1
 refine Fact.nx (hK10 _ _ ?_)
 try simp at s48
 refine Fact.cond_f s48 ?_
 refine wp_skip ?_
 refine Fact.nx (hK9 _ _ ?_)
 have hb7 := hb6.trans (hx.mono hb6.size)
 have hA7 := hA5.later hx
 have y0 := cell_later hx y0; have y1 := cell_later hx y1; have x1 := cell_later hx x1
 clear hx hA5 hb6
 refine wp_seq_k (fun K11 hK11 => ?_)
 refine Stab.todo_begin (n := 177) (Stab.OkOps.of (by kernel_rfl)) (fun hok => ?_)
 apply Stab.t 0 _ hf.size hok.out rfl
 · (
 intro fr1 w1 hh hd hk K hK
 refine Stab.op_plain (o := _) rfl rfl ?_
 have s9 := Stab.o hh (by kernel_rfl) s9
 clear hd
 have u0 := cell_later hh.ext y0; have u1 := cell_later hh.ext y1
 go_simp
 exact hK.out _ rfl _ _ (Below.refl _ _) rfl)
 apply Stab.t 1 _ hf.size hok.out rfl
 · (
 intro fr1 w1 hh hd hk K hK
 refine Stab.op_plain (o := _) rfl rfl ?_
 have s49 := Stab.u 0 0 hd hk rfl [] (by kernel_rfl) rfl rfl rfl
 clear hd
 go_simp
 go_at_call 14; refine (rstart14 q k hq0 hk3 w1).mono ?_; rintro e w2 ⟨rfl, hb⟩
 exact hK.out _ rfl _ _ hb rfl)
 apply Stab.t 2 _ hf.size hok.out rfl
 · (
 intro fr1 w1 hh hd hk K hK
 refine Stab.op_plain (o := _) rfl rfl ?_
 have s3 := Stab.o hh (by kernel_rfl) s3
 clear hd
 go_simp
 exact hK.out _ rfl _ _ (Below.refl _ _) rfl)
 apply Stab.t 3 _ hf.size hok.out rfl
 · (
 intro fr1 w1 hh hd hk K hK
 refine Stab.op_plain (o := _) rfl rfl ?_
 have s51 := Stab.u 2 0 hd hk rfl [] (by kernel_rfl) rfl rfl rfl
 clear hd
 have u1 := cell_later hh.ext x1
 go_simp
 exact hK.out _ rfl _ _ (Below.refl _ _) rfl)
 apply Stab.t 4 _ hf.size hok.out rfl
 · (
 intro fr1 w1 hh hd hk K hK
 refine Stab.op_plain (o := _) rfl rfl ?_
 have s52 := Stab.u 3 0 hd hk rfl [] (by kernel_rfl) rfl rfl rfl
 clear hd
 go_simp
 go_at_call 9; refine (few9b T0 50 w1).mono ?_; rintro e w2 ⟨rfl, hb⟩
 exact hK.out _ rfl _ _ hb rfl)
 refine Stab.mvN (k := 5) (j := 1) (m := 3) hf.size hok.out rfl rfl rfl (.inr rfl) rfl [] (by kernel_rfl) rfl rfl rfl ?_
 refine Stab.mvN (k := 6) (j := 4) (m := 1) hf.size hok.out rfl rfl rfl (.inr rfl) rfl [] (by kernel_rfl) rfl rfl rfl ?_
 refine Stab.todo_facts (n := 177) (by kernel_rfl) hf.size hok.out rfl (fun fr1 w1 hh hg => ?_)
 replace s1 := Stab.o hh (by kernel_rfl) s1
 replace s2 := Stab.o hh (by kernel_rfl) s2
 replace s7 := Stab.o hh (by kernel_rfl) s7
 replace s8 := Stab.o hh (by kernel_rfl) s8
 replace s9 := Stab.o hh (by kernel_rfl) s9
 have s10 := Stab.e 5 1 hg rfl rfl rfl rfl
 have s11 := Stab.e 6 0 hg rfl rfl rfl rfl
 have hf1 : Fact.Fr 177 fr1 := ⟨hh.size.trans hf.size, hh.defers.trans hf.defers⟩
 have hx := hh.ext
 clear hg hh hf hok s3 s48
 have hf := hf1; clear hf1
 refine Fact.nx (hK11 _ _ ?_)
 have hb8 := hb7.trans (hx.mono hb7.size)
 have hA8 := hA7.later hx
 have y0 := cell_later hx y0; have y1 := cell_later hx y1
 obtain ⟨t, ht⟩ : ∃ t, few T0 50 = t := ⟨_, rfl⟩
 have ht50 : t.size ≤ 50 := by rw [← ht]; exact few_size _ _
 rw [ht] at s11
 clear hx hA7 hb7 ht x1
 refine wp_seq_k (fun K12 hK12 => ?_)
 refine wp_seq_k (fun K13 hK13 => ?_)
 refine Fact.region ?_
 refine Fact.p rfl fun K hK => ?_
 go_simp
 refine hK.out _ _ ?_; clear hK K
 refine Fact.nil ?_
 refine Fact.q hf (by simp only [Fact.G]) rfl fun fr1 hf1 hT => ?_
 have hKp : _ ∧ _ ∧ _ ∧ _ ∧ _ ∧ _ ∧ _ ∧ _ := ⟨hT 1, hT 2, hT 7, hT 8, hT 9, hT 10, hT 11, hT 12⟩
 simp only [Fact.G, Nat.reduceEqDiff, Nat.reduceLT, hf.size, reduceIte, s1, s2, s7, s8, s9, s10, s11] at hKp
 clear hT hf s1 s2 s7 s8 s9 s10 s11
 obtain ⟨s1, s2, s7, s8, s9, s10, s11, s12⟩ := hKp
 have hf := hf1; clear hf1
 refine Fact.nx (hK13 _ _ ?_)
 refine wp_block ?_
 refine wp_loop_ghost (fun g1 fr wr => ∃ (i : Nat) (S : ByteArray), g1 = t.size - i ∧ i ≤ t.size ∧ S = readN q k (startS q k) t i ∧ Fact.Fr 177 fr ∧ fr.tmps[1]? = some (.string raw) ∧ fr.tmps[2]? = some (.int .u8 b) ∧ fr.tmps[7]? = some (.string q) ∧ fr.tmps[8]? = some (.pointer (some ⟨g8, 0, none⟩)) ∧ fr.tmps[9]? = some (.pointer (some ⟨g9, 0, none⟩)) ∧ fr.tmps[11]? = some (.string t) ∧ fr.tmps[10]? = some (.string S) ∧ fr.tmps[12]? = some (.int .i64 i) ∧ Below w1.heap.size w1 wr) (t.size) ?_ ?_
 · (
 exact ⟨0, _, rfl, Nat.zero_le _, rfl, hf, s1, s2, s7, s8, s9, s11, s10, s12, Below.refl _ _⟩)
 · (
 clear hf s1 s2 s7 s8 s9 s10 s11 s12
 rintro g1 fr wr ⟨i, S, hk1, hi, hS, hf, s1, s2, s7, s8, s9, s11, s10, s12, hbr⟩
 have HK := Lib.hid hk1; have HS := Lib.hid hS; clear hk1 hS
 have hAr := hA8.later hbr
 have z0 := cell_later hbr y0; have z1 := cell_later hbr y1
 refine wp_seq_k (fun K14 hK14 => ?_)
 refine wp_seq_k (fun K15 hK15 => ?_)
 refine Fact.region ?_
 have b54 := hf.l 54 rfl
 have b55 := hf.l 55 rfl
 have b56 := hf.l 56 rfl
 refine Fact.p rfl fun K hK => ?_
 go_simp
 refine hK.out _ _ ?_; clear hK K
 refine Fact.p rfl fun K hK => ?_
 go_simp
 refine hK.out _ _ ?_; clear hK K
 refine Fact.p rfl fun K hK => ?_
 go_simp
 refine hK.out _ _ ?_; clear hK K
 refine Fact.p rfl fun K hK => ?_
 go_simp
 refine hK.out _ _ ?_; clear hK K
 refine Fact.nil ?_
 refine Fact.q hf (by simp only [Fact.G]) rfl fun fr1 hf1 hT => ?_
 have hKp : _ ∧ _ ∧ _ ∧ _ ∧ _ ∧ _ ∧ _ ∧ _ ∧ _ ∧ _ ∧ _ ∧ _ := ⟨hT 1, hT 2, hT 7, hT 8, hT 9, hT 10, hT 11, hT 12, hT 54, hT 55, hT 56, hT 57⟩
 simp only [Fact.G, Nat.reduceEqDiff, Nat.reduceLT, hf.size, reduceIte, s1, s2, s7, s8, s9, s10, s11, s12] at hKp
 clear hT hf s1 s2 s7 s8 s9 s10 s11 s12 b54 b55 b56
 obtain ⟨s1, s2, s7, s8, s9, s10, s11, s12, s54, s55, s56, s57⟩ := hKp
 have hf := hf1; clear hf1
 refine Fact.nx (hK15 _ _ ?_)
 refine Fact.cond_s s57 (fun hq => ?_) (fun hq => ?_)
 · (
 have hlt : i < t.size := by have h9 := of_decide_eq_true hq; omega
 have hatt : ∀ (j : Nat) (h : j < t.size), t[j].toNat = at_ t j := fun j h => (at_get h).symm
 refine wp_skip ?_
 refine Fact.nx (hK14 _ _ ?_)
 refine wp_seq_k (fun K16 hK16 => ?_)
 refine wp_block ?_
 refine wp_seq_k (fun K17 hK17 => ?_)
 refine wp_seq_k (fun K18 hK18 => ?_)
 refine Stab.todo_begin (n := 177) (Stab.OkOps.of (by kernel_rfl)) (fun hok => ?_)
 refine Stab.mvO (k := 0) s8 hf.size hok.out rfl rfl rfl (.inl rfl) (by kernel_rfl) ?_
 apply Stab.t 1 _ hf.size hok.out rfl
 · (
 intro fr1 w1 hh hd hk K hK
 refine Stab.op_plain (o := _) rfl rfl ?_
 have s9 := Stab.o hh (by kernel_rfl) s9
 clear hd
 have u0 := cell_later hh.ext z0; have u1 := cell_later hh.ext z1
 go_simp
 exact hK.out _ rfl _ _ (Below.refl _ _) rfl)
 refine Stab.mvO (k := 2) s10 hf.size hok.out rfl rfl rfl (.inl rfl) (by kernel_rfl) ?_
 apply Stab.t 3 _ hf.size hok.out rfl
 · (
 intro fr1 w1 hh hd hk K hK
 refine Stab.op_plain (o := _) rfl rfl ?_
 have s60 := Stab.u 0 2 hd hk rfl [] (by kernel_rfl) rfl rfl rfl
 have s61 := Stab.u 1 1 hd hk rfl [] (by kernel_rfl) rfl rfl rfl
 have s62 := Stab.u 2 0 hd hk rfl [] (by kernel_rfl) rfl rfl rfl
 clear hd
 go_simp
 go_at_call 15; refine (state15 w1 g8 q k (hAr.later hh.ext) S).mono ?_; rintro e w2 ⟨rfl, hb⟩
 exact hK.out _ rfl _ _ hb rfl)
 apply Stab.t 4 _ hf.size hok.out rfl
 · (
 intro fr1 w1 hh hd hk K hK
 refine Stab.op_plain (o := _) rfl rfl ?_
 have s63 := Stab.u 3 0 hd hk rfl [] (by kernel_rfl) rfl rfl rfl
 clear hd
 go_simp
 exact hK.out _ rfl _ _ (Below.refl _ _) rfl)
 refine Stab.mvN (k := 5) (j := 4) (m := 0) hf.size hok.out rfl rfl rfl (.inl rfl) rfl [] (by kernel_rfl) rfl rfl rfl ?_
 apply Stab.t 6 _ hf.size hok.out rfl
 · (
 intro fr1 w1 hh hd hk K hK
 have s65 := Stab.u 5 0 hd hk rfl [] (by kernel_rfl) rfl rfl rfl
 refine Stab.op_guard (o := _) rfl rfl rfl rfl s65 ?_
 have s8 := Stab.o hh (by kernel_rfl) s8
 clear hd
 go_simp
 exact hK.out _ rfl _ _ (Below.refl _ _) rfl)
 apply Stab.t 7 _ hf.size hok.out rfl
 · (
 intro fr1 w1 hh hd hk K hK
 have s65 := Stab.u 5 1 hd hk rfl [] (by kernel_rfl) rfl rfl rfl
 refine Stab.op_guard (o := _) rfl rfl rfl rfl s65 ?_
 have s10 := Stab.o hh (by kernel_rfl) s10
 clear hd
 go_simp
 exact hK.out _ rfl _ _ (Below.refl _ _) rfl)
 apply Stab.t 8 _ hf.size hok.out rfl
 · (
 intro fr1 w1 hh hd hk K hK
 have s65 := Stab.u 5 2 hd hk rfl [] (by kernel_rfl) rfl rfl rfl
 refine Stab.op_guard (o := _) rfl rfl rfl rfl s65 ?_
 have s11 := Stab.o hh (by kernel_rfl) s11
 clear hd
 go_simp
 exact hK.out _ rfl _ _ (Below.refl _ _) rfl)
 apply Stab.t 9 _ hf.size hok.out rfl
 · (
 intro fr1 w1 hh hd hk K hK
 have s65 := Stab.u 5 3 hd hk rfl [] (by kernel_rfl) rfl rfl rfl
 refine Stab.op_guard (o := _) rfl rfl rfl rfl s65 ?_
 have s12 := Stab.o hh (by kernel_rfl) s12
 clear hd
 go_simp
 exact hK.out _ rfl _ _ (Below.refl _ _) rfl)
 apply Stab.t 10 _ hf.size hok.out rfl
 · (
 intro fr1 w1 hh hd hk K hK
 have s65 := Stab.u 5 4 hd hk rfl [] (by kernel_rfl) rfl rfl rfl
 refine Stab.op_guard (o := _) rfl rfl rfl rfl s65 ?_
 have s68 := Stab.u 8 1 hd hk rfl [] (by kernel_rfl) rfl rfl rfl
 have s69 := Stab.u 9 0 hd hk rfl [] (by kernel_rfl) rfl rfl rfl
 clear hd
 go_simp
 try rw [if_pos (by omega)]
 exact hK.out _ rfl _ _ (Below.refl _ _) rfl)
 apply Stab.t 11 _ hf.size hok.out rfl
 · (
 intro fr1 w1 hh hd hk K hK
 have s65 := Stab.u 5 5 hd hk rfl [] (by kernel_rfl) rfl rfl rfl
 refine Stab.op_guard (o := _) rfl rfl rfl rfl s65 ?_
 have s66 := Stab.u 6 4 hd hk rfl [] (by kernel_rfl) rfl rfl rfl
 have s67 := Stab.u 7 3 hd hk rfl [] (by kernel_rfl) rfl rfl rfl
 have s70 := Stab.u 10 0 hd hk rfl [] (by kernel_rfl) rfl rfl rfl
 clear hd
 go_simp
 go_at_call 16; refine (step16 w1 g8 q k (hAr.later hh.ext) S (at_ t i)).mono ?_; rintro e w2 ⟨rfl, hb⟩
 exact hK.out _ rfl _ _ hb rfl)
 apply Stab.t 12 _ hf.size hok.out rfl
 · (
 intro fr1 w1 hh hd hk K hK
 have s65 := Stab.u 5 6 hd hk rfl [] (by kernel_rfl) rfl rfl rfl
 refine Stab.op_guard (o := _) rfl rfl rfl rfl s65 ?_
 have s9 := Stab.o hh (by kernel_rfl) s9
 clear hd
 have u0 := cell_later hh.ext z0; have u1 := cell_later hh.ext z1
 go_simp
 exact hK.out _ rfl _ _ (Below.refl _ _) rfl)
 apply Stab.t 13 _ hf.size hok.out rfl
 · (
 intro fr1 w1 hh hd hk K hK
 have s65 := Stab.u 5 7 hd hk rfl [] (by kernel_rfl) rfl rfl rfl
 refine Stab.op_guard (o := _) rfl rfl rfl rfl s65 ?_
 have s10 := Stab.o hh (by kernel_rfl) s10
 clear hd
 go_simp
 exact hK.out _ rfl _ _ (Below.refl _ _) rfl)
 apply Stab.t 14 _ hf.size hok.out rfl
 · (
 intro fr1 w1 hh hd hk K hK
 have s65 := Stab.u 5 8 hd hk rfl [] (by kernel_rfl) rfl rfl rfl
 refine Stab.op_guard (o := _) rfl rfl rfl rfl s65 ?_
 have s11 := Stab.o hh (by kernel_rfl) s11
 clear hd
 go_simp
 exact hK.out _ rfl _ _ (Below.refl _ _) rfl)
 apply Stab.t 15 _ hf.size hok.out rfl
 · (
 intro fr1 w1 hh hd hk K hK
 have s65 := Stab.u 5 9 hd hk rfl [] (by kernel_rfl) rfl rfl rfl
 refine Stab.op_guard (o := _) rfl rfl rfl rfl s65 ?_
 have s12 := Stab.o hh (by kernel_rfl) s12
 clear hd
 go_simp
 exact hK.out _ rfl _ _ (Below.refl _ _) rfl)
 apply Stab.t 16 _ hf.size hok.out rfl
 · (
 intro fr1 w1 hh hd hk K hK
 have s65 := Stab.u 5 10 hd hk rfl [] (by kernel_rfl) rfl rfl rfl
 refine Stab.op_guard (o := _) rfl rfl rfl rfl s65 ?_
 have s74 := Stab.u 14 1 hd hk rfl [] (by kernel_rfl) rfl rfl rfl
 have s75 := Stab.u 15 0 hd hk rfl [] (by kernel_rfl) rfl rfl rfl
 clear hd
 go_simp
 try rw [if_pos (by omega)]
 exact hK.out _ rfl _ _ (Below.refl _ _) rfl)
 apply Stab.t 17 _ hf.size hok.out rfl
 · (
 intro fr1 w1 hh hd hk K hK
 have s65 := Stab.u 5 11 hd hk rfl [] (by kernel_rfl) rfl rfl rfl
 refine Stab.op_guard (o := _) rfl rfl rfl rfl s65 ?_
 have s72 := Stab.u 12 4 hd hk rfl [] (by kernel_rfl) rfl rfl rfl
 have s73 := Stab.u 13 3 hd hk rfl [] (by kernel_rfl) rfl rfl rfl
 have s76 := Stab.u 16 0 hd hk rfl [] (by kernel_rfl) rfl rfl rfl
 clear hd
 go_simp
 go_at_call 17; refine (rstep17 q k hq0 hk3 S (at_ t i) w1).mono ?_; rintro e w2 ⟨rfl, hb⟩
 exact hK.out _ rfl _ _ hb rfl)
 apply Stab.t 18 _ hf.size hok.out rfl
 · (
 intro fr1 w1 hh hd hk K hK
 have s65 := Stab.u 5 12 hd hk rfl [] (by kernel_rfl) rfl rfl rfl
 refine Stab.op_guard (o := _) rfl rfl rfl rfl s65 ?_
 have s71 := Stab.u 11 6 hd hk rfl [] (by kernel_rfl) rfl rfl rfl
 have s77 := Stab.u 17 0 hd hk rfl [] (by kernel_rfl) rfl rfl rfl
 clear hd
 go_simp
 try simp only [bne_self_eq_false]
 exact hK.out _ rfl _ _ (Below.refl _ _) rfl)
 apply Stab.t 19 _ hf.size hok.out rfl
 · (
 intro fr1 w1 hh hd hk K hK
 refine Stab.op_plain (o := _) rfl rfl ?_
 have s65 := Stab.u 5 13 hd hk rfl [] (by kernel_rfl) rfl rfl rfl
 have s78 := Stab.u 18 0 hd hk rfl [] (by kernel_rfl) rfl rfl rfl
 clear hd
 go_simp
 exact hK.out _ rfl _ _ (Below.refl _ _) rfl)
 refine Stab.todo_facts (n := 177) (by kernel_rfl) hf.size hok.out rfl (fun fr1 w1 hh hg => ?_)
 replace s1 := Stab.o hh (by kernel_rfl) s1
 replace s2 := Stab.o hh (by kernel_rfl) s2
 replace s7 := Stab.o hh (by kernel_rfl) s7
 replace s8 := Stab.o hh (by kernel_rfl) s8
 replace s9 := Stab.o hh (by kernel_rfl) s9
 replace s10 := Stab.o hh (by kernel_rfl) s10
 replace s11 := Stab.o hh (by kernel_rfl) s11
 replace s12 := Stab.o hh (by kernel_rfl) s12
 replace s54 := Stab.o hh (by kernel_rfl) s54
 replace s55 := Stab.o hh (by kernel_rfl) s55
 replace s56 := Stab.o hh (by kernel_rfl) s56
 replace s57 := Stab.o hh (by kernel_rfl) s57
 have s60 := Stab.e 0 19 hg rfl rfl rfl rfl
 have s61 := Stab.e 1 18 hg rfl rfl rfl rfl
 have s62 := Stab.e 2 17 hg rfl rfl rfl rfl
 have s63 := Stab.e 3 16 hg rfl rfl rfl rfl
 have s64 := Stab.e 4 15 hg rfl rfl rfl rfl
 have s65 := Stab.e 5 14 hg rfl rfl rfl rfl
 have s66 := Stab.e 6 13 hg rfl rfl rfl rfl
 have s67 := Stab.e 7 12 hg rfl rfl rfl rfl
 have s68 := Stab.e 8 11 hg rfl rfl rfl rfl
 have s69 := Stab.e 9 10 hg rfl rfl rfl rfl
 have s70 := Stab.e 10 9 hg rfl rfl rfl rfl
 have s71 := Stab.e 11 8 hg rfl rfl rfl rfl
 have s72 := Stab.e 12 7 hg rfl rfl rfl rfl
 have s73 := Stab.e 13 6 hg rfl rfl rfl rfl
 have s74 := Stab.e 14 5 hg rfl rfl rfl rfl
 have s75 := Stab.e 15 4 hg rfl rfl rfl rfl
 have s76 := Stab.e 16 3 hg rfl rfl rfl rfl
 have s77 := Stab.e 17 2 hg rfl rfl rfl rfl
 have s78 := Stab.e 18 1 hg rfl rfl rfl rfl
 have s79 := Stab.e 19 0 hg rfl rfl rfl rfl
 have hf1 : Fact.Fr 177 fr1 := ⟨hh.size.trans hf.size, hh.defers.trans hf.defers⟩
 have hx := hh.ext
 clear hg hh hf hok
 have hf := hf1; clear hf1
 refine Fact.nx (hK18 _ _ ?_)
 try simp at s79
 refine Fact.cond_f s79 ?_
 refine wp_skip ?_
 refine Fact.nx (hK17 _ _ ?_)
 have hb12 := hx; clear hx
 have z0 := cell_later hb12 z0; have z1 := cell_later hb12 z1
 refine Stab.todo_begin (n := 177) (Stab.OkOps.of (by kernel_rfl)) (fun hok => ?_)
 apply Stab.t 0 _ hf.size hok.out rfl
 · (
 intro fr1 w1 hh hd hk K hK
 refine Stab.op_plain (o := _) rfl rfl ?_
 have s9 := Stab.o hh (by kernel_rfl) s9
 clear hd
 have u0 := cell_later hh.ext z0; have u1 := cell_later hh.ext z1
 go_simp
 exact hK.out _ rfl _ _ (Below.refl _ _) rfl)
 refine Stab.mvP (k := 1) (j := 6) s10 hf.size hok.out rfl rfl rfl (.inl rfl) [] (by kernel_rfl) (by kernel_rfl) ?_
 refine Stab.mvO (k := 2) s11 hf.size hok.out rfl rfl rfl (.inl rfl) (by kernel_rfl) ?_
 refine Stab.mvO (k := 3) s12 hf.size hok.out rfl rfl rfl (.inl rfl) (by kernel_rfl) ?_
 apply Stab.t 4 _ hf.size hok.out rfl
 · (
 intro fr1 w1 hh hd hk K hK
 refine Stab.op_plain (o := _) rfl rfl ?_
 have s82 := Stab.u 2 1 hd hk rfl [] (by kernel_rfl) rfl rfl rfl
 have s83 := Stab.u 3 0 hd hk rfl [] (by kernel_rfl) rfl rfl rfl
 clear hd
 go_simp
 try rw [if_pos (by omega)]
 exact hK.out _ rfl _ _ (Below.refl _ _) rfl)
 apply Stab.t 5 _ hf.size hok.out rfl
 · (
 intro fr1 w1 hh hd hk K hK
 refine Stab.op_plain (o := _) rfl rfl ?_
 have s80 := Stab.u 0 4 hd hk rfl [] (by kernel_rfl) rfl rfl rfl
 have s81 := Stab.u 1 3 hd hk rfl [] (by kernel_rfl) rfl rfl rfl
 have s84 := Stab.u 4 0 hd hk rfl [] (by kernel_rfl) rfl rfl rfl
 clear hd
 go_simp
 go_at_call 17; refine (rstep17 q k hq0 hk3 S (at_ t i) w1).mono ?_; rintro e w2 ⟨rfl, hb⟩
 exact hK.out _ rfl _ _ hb rfl)
 refine Stab.mvN (k := 6) (j := 5) (m := 0) hf.size hok.out rfl rfl rfl (.inr rfl) rfl [] (by kernel_rfl) rfl rfl rfl ?_
 refine Stab.todo_facts (n := 177) (by kernel_rfl) hf.size hok.out rfl (fun fr1 w1 hh hg => ?_)
 replace s1 := Stab.o hh (by kernel_rfl) s1
 replace s2 := Stab.o hh (by kernel_rfl) s2
 replace s7 := Stab.o hh (by kernel_rfl) s7
 replace s8 := Stab.o hh (by kernel_rfl) s8
 replace s9 := Stab.o hh (by kernel_rfl) s9
 clear s10; have s10 := Stab.e 6 0 hg rfl rfl rfl rfl
 replace s11 := Stab.o hh (by kernel_rfl) s11
 replace s12 := Stab.o hh (by kernel_rfl) s12
 replace s54 := Stab.o hh (by kernel_rfl) s54
 replace s55 := Stab.o hh (by kernel_rfl) s55
 replace s56 := Stab.o hh (by kernel_rfl) s56
 replace s57 := Stab.o hh (by kernel_rfl) s57
 replace s60 := Stab.o hh (by kernel_rfl) s60
 replace s61 := Stab.o hh (by kernel_rfl) s61
 replace s62 := Stab.o hh (by kernel_rfl) s62
 replace s63 := Stab.o hh (by kernel_rfl) s63
 replace s64 := Stab.o hh (by kernel_rfl) s64
 replace s65 := Stab.o hh (by kernel_rfl) s65
 replace s66 := Stab.o hh (by kernel_rfl) s66
 replace s67 := Stab.o hh (by kernel_rfl) s67
 replace s68 := Stab.o hh (by kernel_rfl) s68
 replace s69 := Stab.o hh (by kernel_rfl) s69
 replace s70 := Stab.o hh (by kernel_rfl) s70
 replace s71 := Stab.o hh (by kernel_rfl) s71
 replace s72 := Stab.o hh (by kernel_rfl) s72
 replace s73 := Stab.o hh (by kernel_rfl) s73
 replace s74 := Stab.o hh (by kernel_rfl) s74
 replace s75 := Stab.o hh (by kernel_rfl) s75
 replace s76 := Stab.o hh (by kernel_rfl) s76
 replace s77 := Stab.o hh (by kernel_rfl) s77
 replace s78 := Stab.o hh (by kernel_rfl) s78
 replace s79 := Stab.o hh (by kernel_rfl) s79
 have s80 := Stab.e 0 6 hg rfl rfl rfl rfl
 have s81 := Stab.e 1 5 hg rfl rfl rfl rfl
 have s82 := Stab.e 2 4 hg rfl rfl rfl rfl
 have s83 := Stab.e 3 3 hg rfl rfl rfl rfl
 have s84 := Stab.e 4 2 hg rfl rfl rfl rfl
 have s85 := Stab.e 5 1 hg rfl rfl rfl rfl
 have hf1 : Fact.Fr 177 fr1 := ⟨hh.size.trans hf.size, hh.defers.trans hf.defers⟩
 have hx := hh.ext
 clear hg hh hf hok
 have hf := hf1; clear hf1
 refine Fact.block_normal ?_
 refine Fact.nx (hK16 _ _ ?_)
 refine Fact.region ?_
 have b58 := hf.l 58 rfl
 have b59 := hf.l 59 rfl
 refine Fact.p rfl fun K hK => ?_
 go_simp
 refine hK.out _ _ ?_; clear hK K
 refine Fact.p rfl fun K hK => ?_
 go_simp
 try simp (disch := omega) only [Fact.wrap_i64, Fact.wrap_u8, Fact.wrap_u32, Fact.wrap_u64]
 refine hK.out _ _ ?_; clear hK K
 refine Fact.p rfl fun K hK => ?_
 go_simp
 refine hK.out _ _ ?_; clear hK K
 refine Fact.nil ?_
 refine Fact.q hf (by simp only [Fact.G]) rfl fun fr1 hf1 hT => ?_
 have hKp : _ ∧ _ ∧ _ ∧ _ ∧ _ ∧ _ ∧ _ ∧ _ ∧ _ ∧ _ ∧ _ ∧ _ ∧ _ ∧ _ ∧ _ ∧ _ ∧ _ ∧ _ ∧ _ ∧ _ ∧ _ ∧ _ ∧ _ ∧ _ ∧ _ ∧ _ ∧ _ ∧ _ ∧ _ ∧ _ ∧ _ ∧ _ ∧ _ ∧ _ ∧ _ ∧ _ ∧ _ ∧ _ ∧ _ ∧ _ := ⟨hT 1, hT 2, hT 7, hT 8, hT 9, hT 10, hT 11, hT 12, hT 54, hT 55, hT 56, hT 57, hT 58, hT 59, hT 60, hT 61, hT 62, hT 63, hT 64, hT 65, hT 66, hT 67, hT 68, hT 69, hT 70, hT 71, hT 72, hT 73, hT 74, hT 75, hT 76, hT 77, hT 78, hT 79, hT 80, hT 81, hT 82, hT 83, hT 84, hT 85⟩
 simp only [Fact.G, Nat.reduceEqDiff, Nat.reduceLT, hf.size, reduceIte, s1, s2, s7, s8, s9, s10, s11, s54, s55, s56, s57, s60, s61, s62, s63, s64, s65, s66, s67, s68, s69, s70, s71, s72, s73, s74, s75, s76, s77, s78, s79, s80, s81, s82, s83, s84, s85] at hKp
 clear hT hf s1 s2 s7 s8 s9 s10 s11 s12 s54 s55 s56 s57 s60 s61 s62 s63 s64 s65 s66 s67 s68 s69 s70 s71 s72 s73 s74 s75 s76 s77 s78 s79 s80 s81 s82 s83 s84 s85 b58 b59
 obtain ⟨s1, s2, s7, s8, s9, s10, s11, s12, s54, s55, s56, s57, s58, s59, s60, s61, s62, s63, s64, s65, s66, s67, s68, s69, s70, s71, s72, s73, s74, s75, s76, s77, s78, s79, s80, s81, s82, s83, s84, s85⟩ := hKp
 have hf := hf1; clear hf1
 refine Fact.then_normal ?_
 exact ⟨_, by have := HK.out; omega, i + 1, _, rfl, by omega, by rw [HS.out]; rfl, hf, s1, s2, s7, s8, s9, s11, s10, by rw [s12]; rfl, hbr.trans ((hb12.trans (hx.mono hb12.size)).mono hbr.size)⟩)
 · (
 have hie : i = t.size := by have h9 := of_decide_eq_false hq; omega
 subst hie
 refine wp_exit ?_
 refine Fact.then_exit ?_
 refine Fact.then_exit ?_
 refine Fact.block_exit ?_
 refine Fact.nx (hK12 _ _ ?_)
 have hSr : S = readS q k (startS q k) t := HS.out
 have hokS : okS q k S = true := by rw [hSr]; exact readS_ok (start_ok hk3) hk3
 have hsz := okS_size hokS
 have hadd : (Op.stringOp .add raw S).run Try.prog wr = .ok (.string (raw ++ S)) wr := run_string_add_sum wr raw S (by omega)
 have e1 : (q.size : Int) + 1 = ((q.size + 1 : Nat) : Int) := by omega
 have E1 := Lib.hid e1; clear e1 hsz
 have HSR := Lib.hid hSr; clear hSr
 obtain ⟨d, hd⟩ : ∃ d, few (raw ++ S) (q.size + 1) = d := ⟨_, rfl⟩
 have hdz : d.size ≤ 61 := by have := few_size (raw ++ S) (q.size + 1); rw [hd] at this; omega
 have HD := Lib.hid hd; clear hd
 have HB := fun w2 => run_bytes_of_string (P := Try.prog) w2 9 38 5 d Try.underlying9 Try.underlying38 Try.underlying5
 refine wp_seq_k (fun K19 hK19 => ?_)
 refine Fact.region ?_
 have b86 := hf.l 86 rfl
 have b87 := hf.l 87 rfl
 have b88 := hf.l 88 rfl
 have b89 := hf.l 89 rfl
 have b90 := hf.l 90 rfl
 have b91 := hf.l 91 rfl
 have b92 := hf.l 92 rfl
 have b93 := hf.l 93 rfl
 refine Fact.p rfl fun K hK => ?_
 go_simp
 refine hK.out _ _ ?_; clear hK K
 refine Fact.p rfl fun K hK => ?_
 go_simp
 refine hK.out _ _ ?_; clear hK K
 refine Fact.p rfl fun K hK => ?_
 go_simp
 try simp (disch := omega) only [Fact.wrap_i64, Fact.wrap_u8, Fact.wrap_u32, Fact.wrap_u64]
 refine hK.out _ _ ?_; clear hK K
 refine Fact.p rfl fun K hK => ?_
 go_simp
 refine hK.out _ _ ?_; clear hK K
 refine Fact.p rfl fun K hK => ?_
 go_simp
 refine hK.out _ _ ?_; clear hK K
 refine Fact.p rfl fun K hK => ?_
 go_simp
 try simp (disch := omega) only [Fact.wrap_i64, Fact.wrap_u8, Fact.wrap_u32, Fact.wrap_u64]
 try rw [E1.out]
 refine hK.out _ _ ?_; clear hK K
 refine Fact.p rfl fun K hK => ?_
 go_simp
 go_at_call 9; refine (few9b (raw ++ S) (q.size + 1) wr).mono ?_; rintro e w2 ⟨rfl, h2⟩
 rw [HD.out]
 dsimp only
 refine hK.out _ _ ?_; clear hK K
 refine Fact.p rfl fun K hK => ?_
 go_simp
 try rw [HB w2]
 refine hK.out _ _ ?_; clear hK K
 refine Fact.p rfl fun K hK => ?_
 go_simp
 refine hK.out _ _ ?_; clear hK K
 refine Fact.nil ?_
 refine Fact.q hf (by simp only [Fact.G]) rfl fun fr1 hf1 hT => ?_
 have hKp : _ ∧ _ ∧ _ ∧ _ ∧ _ ∧ _ ∧ _ := ⟨hT 1, hT 2, hT 8, hT 9, hT 10, hT 11, hT 13⟩
 simp only [Fact.G, Nat.reduceEqDiff, Nat.reduceLT, hf.size, reduceIte, s1, s2, s8, s9, s10, s11] at hKp
 clear hT hf s1 s2 s7 s8 s9 s10 s11 s12 s54 s55 s56 s57 b86 b87 b88 b89 b90 b91 b92 b93
 obtain ⟨s1, s2, s8, s9, s10, s11, s13⟩ := hKp
 have hf := hf1; clear hf1
 refine Fact.nx (hK19 _ _ ?_)
 obtain ⟨W9, hW9⟩ : ∃ W9, (w2.alloc (.cells (bytesRow d (grownCap w2 d.size 0 5)) 5 ((bytesRow d (grownCap w2 d.size 0 5)).size, (bytesRow d (grownCap w2 d.size 0 5)).size + 1))).drew = W9 := ⟨_, rfl⟩
 obtain ⟨hb15, hrow, hfz⟩ := bytes_rows w2 d W9 hW9
 try rw [hW9]
 clear hW9 hadd HB
 have hbr0 := hbr
 have hAr0 := hAr.later h2; have za := cell_later h2 z0; have zb := cell_later h2 z1
 have hb16 := h2.trans (hb15.mono h2.size)
 have z0 := cell_later hb16 z0; have z1 := cell_later hb16 z1
 have hAr := hAr.later hb16
 have hbr := hbr.trans (hb16.mono hbr.size)
 refine wp_seq_k (fun K20 hK20 => ?_)
 refine wp_seq_k (fun K21 hK21 => ?_)
 refine Fact.region ?_
 refine Fact.p rfl fun K hK => ?_
 go_simp
 refine hK.out _ _ ?_; clear hK K
 refine Fact.nil ?_
 refine Fact.q hf (by simp only [Fact.G]) rfl fun fr1 hf1 hT => ?_
 have hKp : _ ∧ _ ∧ _ ∧ _ ∧ _ ∧ _ ∧ _ ∧ _ := ⟨hT 1, hT 2, hT 8, hT 9, hT 10, hT 11, hT 13, hT 14⟩
 simp only [Fact.G, Nat.reduceEqDiff, Nat.reduceLT, hf.size, reduceIte, s1, s2, s8, s9, s10, s11, s13] at hKp
 clear hT hf s1 s2 s8 s9 s10 s11 s13
 obtain ⟨s1, s2, s8, s9, s10, s11, s13, s14⟩ := hKp
 have hf := hf1; clear hf1
 refine Fact.nx (hK21 _ _ ?_)
 refine wp_block ?_
 refine wp_loop_ghost (fun g2 fr wr2 => ∃ (i : Nat), g2 = d.size - i ∧ i ≤ d.size ∧ Fact.Fr 177 fr ∧ fr.tmps[1]? = some (.string raw) ∧ fr.tmps[2]? = some (.int .u8 b) ∧ fr.tmps[8]? = some (.pointer (some ⟨g8, 0, none⟩)) ∧ fr.tmps[9]? = some (.pointer (some ⟨g9, 0, none⟩)) ∧ fr.tmps[10]? = some (.string S) ∧ fr.tmps[11]? = some (.string t) ∧ (∃ c, fr.tmps[13]? = some (.slice (some ⟨w2.heap.size, 0, none⟩) d.size c)) ∧ fr.tmps[14]? = some (.int .i64 i) ∧ Odd wr2 w2.heap.size d.size ∧ Below w2.heap.size w2 wr2) (d.size) ?_ ?_
 · (
 exact ⟨0, rfl, Nat.zero_le _, hf, s1, s2, s8, s9, s10, s11, ⟨_, s13⟩, s14, hrow, hb15⟩)
 · (
 clear hf s1 s2 s8 s9 s10 s11 s13 s14
 rintro g2 fr wr2 ⟨i, hk2, hi, hf, s1, s2, s8, s9, s10, s11, ⟨c, s13⟩, s14, hodd, hbo⟩
 have HK2 := Lib.hid hk2; clear hk2
 have hA2 := hAr0.later hbo
 have z0 := cell_later hbo za; have z1 := cell_later hbo zb
 refine wp_seq_k (fun K22 hK22 => ?_)
 refine wp_seq_k (fun K23 hK23 => ?_)
 refine Fact.region ?_
 have b94 := hf.l 94 rfl
 have b95 := hf.l 95 rfl
 have b96 := hf.l 96 rfl
 refine Fact.p rfl fun K hK => ?_
 go_simp
 refine hK.out _ _ ?_; clear hK K
 refine Fact.p rfl fun K hK => ?_
 go_simp
 refine hK.out _ _ ?_; clear hK K
 refine Fact.p rfl fun K hK => ?_
 go_simp
 refine hK.out _ _ ?_; clear hK K
 refine Fact.p rfl fun K hK => ?_
 go_simp
 refine hK.out _ _ ?_; clear hK K
 refine Fact.nil ?_
 refine Fact.q hf (by simp only [Fact.G]) rfl fun fr1 hf1 hT => ?_
 have hKp : _ ∧ _ ∧ _ ∧ _ ∧ _ ∧ _ ∧ _ ∧ _ ∧ _ ∧ _ ∧ _ ∧ _ := ⟨hT 1, hT 2, hT 8, hT 9, hT 10, hT 11, hT 13, hT 14, hT 94, hT 95, hT 96, hT 97⟩
 simp only [Fact.G, Nat.reduceEqDiff, Nat.reduceLT, hf.size, reduceIte, s1, s2, s8, s9, s10, s11, s13, s14] at hKp
 clear hT hf s1 s2 s8 s9 s10 s11 s13 s14 b94 b95 b96
 obtain ⟨s1, s2, s8, s9, s10, s11, s13, s14, s94, s95, s96, s97⟩ := hKp
 have hf := hf1; clear hf1
 refine Fact.nx (hK23 _ _ ?_)
 refine Fact.cond_s s97 (fun hq2 => ?_) (fun hq2 => ?_)
 · (
 have hlt : i < d.size := by have h9 := of_decide_eq_true hq2; omega
 obtain ⟨x, hxc, hx0, hx256⟩ := hodd.at_ hlt
 have e3 : IntKind.u8.wrap ((k : Int) + 3) = (k : Int) + 3 := Fact.wrap_u8 (by omega) (by omega)
 have fz := hodd.frozen i hlt
 obtain ⟨hy0, hy256⟩ := rem_bound x (k : Int) hx0 hx256 (by omega) (by omega)
 refine wp_skip ?_
 refine Fact.nx (hK22 _ _ ?_)
 refine wp_seq_k (fun K24 hK24 => ?_)
 refine wp_block ?_
 refine Stab.todo_begin (n := 177) (Stab.OkOps.of (by kernel_rfl)) (fun hok => ?_)
 refine Stab.mvO (k := 0) s13 hf.size hok.out rfl rfl rfl (.inl rfl) (by kernel_rfl) ?_
 refine Stab.mvO (k := 1) s14 hf.size hok.out rfl rfl rfl (.inl rfl) (by kernel_rfl) ?_
 refine Stab.mvO (k := 2) s13 hf.size hok.out rfl rfl rfl (.inl rfl) (by kernel_rfl) ?_
 refine Stab.mvO (k := 3) s14 hf.size hok.out rfl rfl rfl (.inl rfl) (by kernel_rfl) ?_
 apply Stab.t 4 _ hf.size hok.out rfl
 · (
 intro fr1 w1 hh hd hk K hK
 refine Stab.op_plain (o := _) rfl rfl ?_
 have s102 := Stab.u 2 1 hd hk rfl [] (by kernel_rfl) rfl rfl rfl
 have s103 := Stab.u 3 0 hd hk rfl [] (by kernel_rfl) rfl rfl rfl
 clear hd
 go_simp
 try rw [if_pos (by omega)]
 exact hK.out _ rfl _ _ (Below.refl _ _) rfl)
 apply Stab.t 5 _ hf.size hok.out rfl
 · (
 intro fr1 w1 hh hd hk K hK
 refine Stab.op_plain (o := _) rfl rfl ?_
 have s104 := Stab.u 4 0 hd hk rfl [] (by kernel_rfl) rfl rfl rfl
 clear hd
 have u0 := cell_later hh.ext hxc
 go_simp
 exact hK.out _ rfl _ _ (Below.refl _ _) rfl)
 apply Stab.t 6 _ hf.size hok.out rfl
 · (
 intro fr1 w1 hh hd hk K hK
 refine Stab.op_plain (o := _) rfl rfl ?_
 have s9 := Stab.o hh (by kernel_rfl) s9
 clear hd
 go_simp
 exact hK.out _ rfl _ _ (Below.refl _ _) rfl)
 apply Stab.t 7 _ hf.size hok.out rfl
 · (
 intro fr1 w1 hh hd hk K hK
 refine Stab.op_plain (o := _) rfl rfl ?_
 have s106 := Stab.u 6 0 hd hk rfl [] (by kernel_rfl) rfl rfl rfl
 clear hd
 have u0 := cell_later hh.ext z1
 go_simp
 exact hK.out _ rfl _ _ (Below.refl _ _) rfl)
 apply Stab.t 8 _ hf.size hok.out rfl
 · (
 intro fr1 w1 hh hd hk K hK
 refine Stab.op_plain (o := _) rfl rfl ?_
 have s107 := Stab.u 7 0 hd hk rfl [] (by kernel_rfl) rfl rfl rfl
 clear hd
 go_simp
 try simp (disch := omega) only [Fact.wrap_i64, Fact.wrap_u8, Fact.wrap_u32, Fact.wrap_u64]
 exact hK.out _ rfl _ _ (Below.refl _ _) rfl)
 apply Stab.t 9 _ hf.size hok.out rfl
 · (
 intro fr1 w1 hh hd hk K hK
 refine Stab.op_plain (o := _) rfl rfl ?_
 have s108 := Stab.u 8 0 hd hk rfl [] (by kernel_rfl) rfl rfl rfl
 clear hd
 go_simp
 exact hK.out _ rfl _ _ (Below.refl _ _) rfl)
 apply Stab.t 10 _ hf.size hok.out rfl
 · (
 intro fr1 w1 hh hd hk K hK
 refine Stab.op_plain (o := _) rfl rfl ?_
 have s105 := Stab.u 5 4 hd hk rfl [] (by kernel_rfl) rfl rfl rfl
 have s109 := Stab.u 9 0 hd hk rfl [] (by kernel_rfl) rfl rfl rfl
 clear hd
 go_simp
 exact hK.out _ rfl _ _ (Below.refl _ _) rfl)
 apply Stab.t 11 _ hf.size hok.out rfl
 · (
 intro fr1 w1 hh hd hk K hK
 refine Stab.op_plain (o := _) rfl rfl ?_
 have s100 := Stab.u 0 10 hd hk rfl [] (by kernel_rfl) rfl rfl rfl
 have s101 := Stab.u 1 9 hd hk rfl [] (by kernel_rfl) rfl rfl rfl
 clear hd
 go_simp
 try rw [if_pos (by omega)]
 exact hK.out _ rfl _ _ (Below.refl _ _) rfl)
 refine Tail.todo_tail (n := 177) (m := 12) (ws := []) (by kernel_rfl) hf.size hok.out rfl rfl (by kernel_rfl) (fun fr1 w1 hh hg => ?_)
 replace s1 := Stab.o hh (by kernel_rfl) s1
 replace s2 := Stab.o hh (by kernel_rfl) s2
 replace s8 := Stab.o hh (by kernel_rfl) s8
 replace s9 := Stab.o hh (by kernel_rfl) s9
 replace s10 := Stab.o hh (by kernel_rfl) s10
 replace s11 := Stab.o hh (by kernel_rfl) s11
 replace s13 := Stab.o hh (by kernel_rfl) s13
 replace s14 := Stab.o hh (by kernel_rfl) s14
 replace s94 := Stab.o hh (by kernel_rfl) s94
 replace s95 := Stab.o hh (by kernel_rfl) s95
 replace s96 := Stab.o hh (by kernel_rfl) s96
 replace s97 := Stab.o hh (by kernel_rfl) s97
 have s100 := Tail.got_is 0 11 hg rfl rfl rfl rfl rfl
 have s101 := Tail.got_is 1 10 hg rfl rfl rfl rfl rfl
 have s102 := Tail.got_is 2 9 hg rfl rfl rfl rfl rfl
 have s103 := Tail.got_is 3 8 hg rfl rfl rfl rfl rfl
 have s104 := Tail.got_is 4 7 hg rfl rfl rfl rfl rfl
 have s105 := Tail.got_is 5 6 hg rfl rfl rfl rfl rfl
 have s106 := Tail.got_is 6 5 hg rfl rfl rfl rfl rfl
 have s107 := Tail.got_is 7 4 hg rfl rfl rfl rfl rfl
 have s108 := Tail.got_is 8 3 hg rfl rfl rfl rfl rfl
 have s109 := Tail.got_is 9 2 hg rfl rfl rfl rfl rfl
 have s110 := Tail.got_is 10 1 hg rfl rfl rfl rfl rfl
 have s111 := Tail.got_is 11 0 hg rfl rfl rfl rfl rfl
 have hf1 : Fact.Fr 177 fr1 := ⟨hh.size.trans hf.size, hh.defers.trans hf.defers⟩
 have hx := hh.ext
 clear hg hh hf hok
 have hf := hf1; clear hf1
 have u0 := cell_later hx hxc
 have u1 := frozen_later hx (cell_lt0 hxc) fz
 refine Tail.seq_op rfl rfl (fun K hK => ?_)
 go_simp
 refine hK.out _ _ ?_; clear hK K
 refine Tail.seq_nil rfl ?_
 refine Fact.q hf (by simp only [Fact.G]) rfl fun fr1 hf1 hT => ?_
 have hKp : _ ∧ _ ∧ _ ∧ _ ∧ _ ∧ _ ∧ _ ∧ _ ∧ _ ∧ _ ∧ _ ∧ _ ∧ _ ∧ _ ∧ _ ∧ _ ∧ _ ∧ _ ∧ _ ∧ _ ∧ _ ∧ _ ∧ _ ∧ _ := ⟨hT 1, hT 2, hT 8, hT 9, hT 10, hT 11, hT 13, hT 14, hT 94, hT 95, hT 96, hT 97, hT 100, hT 101, hT 102, hT 103, hT 104, hT 105, hT 106, hT 107, hT 108, hT 109, hT 110, hT 111⟩
 simp only [Fact.G, Nat.reduceEqDiff, reduceIte, s1, s2, s8, s9, s10, s11, s13, s14, s94, s95, s96, s97, s100, s101, s102, s103, s104, s105, s106, s107, s108, s109, s110, s111] at hKp
 clear hT hf s1 s2 s8 s9 s10 s11 s13 s14 s94 s95 s96 s97 s100 s101 s102 s103 s104 s105 s106 s107 s108 s109 s110 s111
 obtain ⟨s1, s2, s8, s9, s10, s11, s13, s14, s94, s95, s96, s97, s100, s101, s102, s103, s104, s105, s106, s107, s108, s109, s110, s111⟩ := hKp
 have hf := hf1; clear hf1
 refine Fact.block_normal ?_
 refine Fact.nx (hK24 _ _ ?_)
 refine Fact.region ?_
 have b98 := hf.l 98 rfl
 have b99 := hf.l 99 rfl
 refine Fact.p rfl fun K hK => ?_
 go_simp
 refine hK.out _ _ ?_; clear hK K
 refine Fact.p rfl fun K hK => ?_
 go_simp
 try simp (disch := omega) only [Fact.wrap_i64, Fact.wrap_u8, Fact.wrap_u32, Fact.wrap_u64]
 refine hK.out _ _ ?_; clear hK K
 refine Fact.p rfl fun K hK => ?_
 go_simp
 refine hK.out _ _ ?_; clear hK K
 refine Fact.nil ?_
 refine Fact.q hf (by simp only [Fact.G]) rfl fun fr1 hf1 hT => ?_
 have hKp : _ ∧ _ ∧ _ ∧ _ ∧ _ ∧ _ ∧ _ ∧ _ ∧ _ ∧ _ ∧ _ ∧ _ ∧ _ ∧ _ ∧ _ ∧ _ ∧ _ ∧ _ ∧ _ ∧ _ ∧ _ ∧ _ ∧ _ ∧ _ ∧ _ ∧ _ := ⟨hT 1, hT 2, hT 8, hT 9, hT 10, hT 11, hT 13, hT 14, hT 94, hT 95, hT 96, hT 97, hT 98, hT 99, hT 100, hT 101, hT 102, hT 103, hT 104, hT 105, hT 106, hT 107, hT 108, hT 109, hT 110, hT 111⟩
 simp only [Fact.G, Nat.reduceEqDiff, Nat.reduceLT, hf.size, reduceIte, s1, s2, s8, s9, s10, s11, s13, s94, s95, s96, s97, s100, s101, s102, s103, s104, s105, s106, s107, s108, s109, s110, s111] at hKp
 clear hT hf s1 s2 s8 s9 s10 s11 s13 s14 s94 s95 s96 s97 s100 s101 s102 s103 s104 s105 s106 s107 s108 s109 s110 s111 b98 b99
 obtain ⟨s1, s2, s8, s9, s10, s11, s13, s14, s94, s95, s96, s97, s98, s99, s100, s101, s102, s103, s104, s105, s106, s107, s108, s109, s110, s111⟩ := hKp
 have hf := hf1; clear hf1
 refine Fact.then_normal ?_
 exact ⟨_, by have := HK2.out; omega, i + 1, rfl, by omega, hf, s1, s2, s8, s9, s10, s11, ⟨_, s13⟩, by rw [s14]; rfl, (hodd.later hx).put hlt hy0 hy256, (hbo.trans (hx.mono hbo.size)).setCell (Nat.le_refl _) _⟩)
 · (
 refine wp_exit ?_
 refine Fact.then_exit ?_
 refine Fact.then_exit ?_
 refine Fact.block_exit ?_
 refine Fact.nx (hK20 _ _ ?_)
 obtain ⟨D, hD⟩ := hodd.conv (c := c)
 skip
 obtain ⟨m, hm⟩ : ∃ m, t.size / 2 = m := ⟨_, rfl⟩
 have hmt : m ≤ t.size := by omega
 have e2 : ((t.size : Int) / 2) = (m : Int) := by omega
 have e2b : ((t.size : Int).tdiv 2) = (m : Int) := by rw [Int.tdiv_eq_ediv_of_nonneg (by omega)]; omega
 have e3 : IntKind.i64.wrap (m : Int) = (m : Int) := Fact.wrap_i64 (by omega) (by omega)
 clear hm
 refine wp_seq_k (fun K25 hK25 => ?_)
 refine Stab.todo_begin (n := 177) (Stab.OkOps.of (by kernel_rfl)) (fun hok => ?_)
 refine Stab.mvO (k := 0) s8 hf.size hok.out rfl rfl rfl (.inl rfl) (by kernel_rfl) ?_
 apply Stab.t 1 _ hf.size hok.out rfl
 · (
 intro fr1 w1 hh hd hk K hK
 refine Stab.op_plain (o := _) rfl rfl ?_
 have s9 := Stab.o hh (by kernel_rfl) s9
 clear hd
 have u0 := cell_later hh.ext z0; have u1 := cell_later hh.ext z1
 go_simp
 exact hK.out _ rfl _ _ (Below.refl _ _) rfl)
 refine Stab.mvO (k := 2) s10 hf.size hok.out rfl rfl rfl (.inl rfl) (by kernel_rfl) ?_
 apply Stab.t 3 _ hf.size hok.out rfl
 · (
 intro fr1 w1 hh hd hk K hK
 refine Stab.op_plain (o := _) rfl rfl ?_
 have s112 := Stab.u 0 2 hd hk rfl [] (by kernel_rfl) rfl rfl rfl
 have s113 := Stab.u 1 1 hd hk rfl [] (by kernel_rfl) rfl rfl rfl
 have s114 := Stab.u 2 0 hd hk rfl [] (by kernel_rfl) rfl rfl rfl
 clear hd
 go_simp
 go_at_call 15; refine (state15 w1 g8 q k (hA2.later hh.ext) S).mono ?_; rintro e w2 ⟨rfl, hb⟩
 exact hK.out _ rfl _ _ hb rfl)
 refine Stab.mvN (k := 4) (j := 3) (m := 0) hf.size hok.out rfl rfl rfl (.inl rfl) rfl [] (by kernel_rfl) rfl rfl rfl ?_
 apply Stab.t 5 _ hf.size hok.out rfl
 · (
 intro fr1 w1 hh hd hk K hK
 have s116 := Stab.u 4 0 hd hk rfl [] (by kernel_rfl) rfl rfl rfl
 refine Stab.op_guard (o := _) rfl rfl rfl rfl s116 ?_
 have s8 := Stab.o hh (by kernel_rfl) s8
 clear hd
 go_simp
 exact hK.out _ rfl _ _ (Below.refl _ _) rfl)
 apply Stab.t 6 _ hf.size hok.out rfl
 · (
 intro fr1 w1 hh hd hk K hK
 have s116 := Stab.u 4 1 hd hk rfl [] (by kernel_rfl) rfl rfl rfl
 refine Stab.op_guard (o := _) rfl rfl rfl rfl s116 ?_
 have s8 := Stab.o hh (by kernel_rfl) s8
 clear hd
 go_simp
 exact hK.out _ rfl _ _ (Below.refl _ _) rfl)
 apply Stab.t 7 _ hf.size hok.out rfl
 · (
 intro fr1 w1 hh hd hk K hK
 have s116 := Stab.u 4 2 hd hk rfl [] (by kernel_rfl) rfl rfl rfl
 refine Stab.op_guard (o := _) rfl rfl rfl rfl s116 ?_
 have s118 := Stab.u 6 0 hd hk rfl [] (by kernel_rfl) rfl rfl rfl
 clear hd
 go_simp
 go_at_call 13; refine (start13 w1 g8 q k (hA2.later hh.ext)).mono ?_; rintro e w2 ⟨rfl, hb⟩
 exact hK.out _ rfl _ _ hb rfl)
 apply Stab.t 8 _ hf.size hok.out rfl
 · (
 intro fr1 w1 hh hd hk K hK
 have s116 := Stab.u 4 3 hd hk rfl [] (by kernel_rfl) rfl rfl rfl
 refine Stab.op_guard (o := _) rfl rfl rfl rfl s116 ?_
 have s11 := Stab.o hh (by kernel_rfl) s11
 clear hd
 go_simp
 exact hK.out _ rfl _ _ (Below.refl _ _) rfl)
 apply Stab.t 9 _ hf.size hok.out rfl
 · (
 intro fr1 w1 hh hd hk K hK
 have s116 := Stab.u 4 4 hd hk rfl [] (by kernel_rfl) rfl rfl rfl
 refine Stab.op_guard (o := _) rfl rfl rfl rfl s116 ?_
 have s11 := Stab.o hh (by kernel_rfl) s11
 clear hd
 go_simp
 exact hK.out _ rfl _ _ (Below.refl _ _) rfl)
 apply Stab.t 10 _ hf.size hok.out rfl
 · (
 intro fr1 w1 hh hd hk K hK
 have s116 := Stab.u 4 5 hd hk rfl [] (by kernel_rfl) rfl rfl rfl
 refine Stab.op_guard (o := _) rfl rfl rfl rfl s116 ?_
 have s121 := Stab.u 9 0 hd hk rfl [] (by kernel_rfl) rfl rfl rfl
 clear hd
 go_simp
 exact hK.out _ rfl _ _ (Below.refl _ _) rfl)
 apply Stab.t 11 _ hf.size hok.out rfl
 · (
 intro fr1 w1 hh hd hk K hK
 have s116 := Stab.u 4 6 hd hk rfl [] (by kernel_rfl) rfl rfl rfl
 refine Stab.op_guard (o := _) rfl rfl rfl rfl s116 ?_
 have s122 := Stab.u 10 0 hd hk rfl [] (by kernel_rfl) rfl rfl rfl
 clear hd
 go_simp
 try simp only [e2, e2b, e3]
 exact hK.out _ rfl _ _ (Below.refl _ _) rfl)
 apply Stab.t 12 _ hf.size hok.out rfl
 · (
 intro fr1 w1 hh hd hk K hK
 have s116 := Stab.u 4 7 hd hk rfl [] (by kernel_rfl) rfl rfl rfl
 refine Stab.op_guard (o := _) rfl rfl rfl rfl s116 ?_
 have s120 := Stab.u 8 3 hd hk rfl [] (by kernel_rfl) rfl rfl rfl
 have s123 := Stab.u 11 0 hd hk rfl [] (by kernel_rfl) rfl rfl rfl
 clear hd
 go_simp
 try rw [if_pos (by omega)]
 exact hK.out _ rfl _ _ (Below.refl _ _) rfl)
 apply Stab.t 13 _ hf.size hok.out rfl
 · (
 intro fr1 w1 hh hd hk K hK
 have s116 := Stab.u 4 8 hd hk rfl [] (by kernel_rfl) rfl rfl rfl
 refine Stab.op_guard (o := _) rfl rfl rfl rfl s116 ?_
 have s11 := Stab.o hh (by kernel_rfl) s11
 clear hd
 go_simp
 exact hK.out _ rfl _ _ (Below.refl _ _) rfl)
 apply Stab.t 14 _ hf.size hok.out rfl
 · (
 intro fr1 w1 hh hd hk K hK
 have s116 := Stab.u 4 9 hd hk rfl [] (by kernel_rfl) rfl rfl rfl
 refine Stab.op_guard (o := _) rfl rfl rfl rfl s116 ?_
 have s11 := Stab.o hh (by kernel_rfl) s11
 clear hd
 go_simp
 exact hK.out _ rfl _ _ (Below.refl _ _) rfl)
 apply Stab.t 15 _ hf.size hok.out rfl
 · (
 intro fr1 w1 hh hd hk K hK
 have s116 := Stab.u 4 10 hd hk rfl [] (by kernel_rfl) rfl rfl rfl
 refine Stab.op_guard (o := _) rfl rfl rfl rfl s116 ?_
 have s126 := Stab.u 14 0 hd hk rfl [] (by kernel_rfl) rfl rfl rfl
 clear hd
 go_simp
 exact hK.out _ rfl _ _ (Below.refl _ _) rfl)
 apply Stab.t 16 _ hf.size hok.out rfl
 · (
 intro fr1 w1 hh hd hk K hK
 have s116 := Stab.u 4 11 hd hk rfl [] (by kernel_rfl) rfl rfl rfl
 refine Stab.op_guard (o := _) rfl rfl rfl rfl s116 ?_
 have s127 := Stab.u 15 0 hd hk rfl [] (by kernel_rfl) rfl rfl rfl
 clear hd
 go_simp
 try simp only [e2, e2b, e3]
 exact hK.out _ rfl _ _ (Below.refl _ _) rfl)
 apply Stab.t 17 _ hf.size hok.out rfl
 · (
 intro fr1 w1 hh hd hk K hK
 have s116 := Stab.u 4 12 hd hk rfl [] (by kernel_rfl) rfl rfl rfl
 refine Stab.op_guard (o := _) rfl rfl rfl rfl s116 ?_
 have s125 := Stab.u 13 3 hd hk rfl [] (by kernel_rfl) rfl rfl rfl
 have s128 := Stab.u 16 0 hd hk rfl [] (by kernel_rfl) rfl rfl rfl
 clear hd
 go_simp
 try rw [if_pos (by omega)]
 exact hK.out _ rfl _ _ (Below.refl _ _) rfl)
 refine Stab.todo_op (k := 18) (n := 177) (PTx [t.extract 0 m, t.extract m t.size]) hf.size hok.out rfl (PTx.stable _) ?_ ?_
 · (
 intro fr1 w1 hh hd hk K hK
 have s116 := Stab.u 4 13 hd hk rfl [] (by kernel_rfl) rfl rfl rfl
 refine Stab.op_guard (o := _) rfl rfl rfl rfl s116 ?_
 have s124 := Stab.u 12 5 hd hk rfl [] (by kernel_rfl) rfl rfl rfl
 have s129 := Stab.u 17 0 hd hk rfl [] (by kernel_rfl) rfl rfl rfl
 clear hd
 go_simp
 exact hK.out _ rfl _ _ ((Below.refl _ _).alloc (Nat.le_refl _) _) ⟨_, rfl, txt_new _ _⟩)
 apply Stab.t 19 _ hf.size hok.out rfl
 · (
 intro fr1 w1 hh hd hk K hK
 have s116 := Stab.u 4 14 hd hk rfl [] (by kernel_rfl) rfl rfl rfl
 refine Stab.op_guard (o := _) rfl rfl rfl rfl s116 ?_
 have s117 := Stab.u 5 13 hd hk rfl [] (by kernel_rfl) rfl rfl rfl
 have s119 := Stab.u 7 11 hd hk rfl [] (by kernel_rfl) rfl rfl rfl
 obtain ⟨x130, s130, hp130⟩ := Stab.use (j := 18) (m := 0) hd hk rfl [] (by kernel_rfl) rfl rfl rfl
 obtain ⟨b130, rfl, hc130⟩ := hp130
 clear hd
 go_simp
 go_at_call 18; refine (read18 w1 g8 q k (hA2.later hh.ext) (startS q k) b130 2 [t.extract 0 m, t.extract m t.size] hc130 (two_small hmt (by omega)) (by simp)).mono ?_; rintro e w2 ⟨rfl, hb⟩
 rw [read_two hmt, ← HSR.out]
 exact hK.out _ rfl _ _ hb rfl)
 apply Stab.t 20 _ hf.size hok.out rfl
 · (
 intro fr1 w1 hh hd hk K hK
 have s116 := Stab.u 4 15 hd hk rfl [] (by kernel_rfl) rfl rfl rfl
 refine Stab.op_guard (o := _) rfl rfl rfl rfl s116 ?_
 have s10 := Stab.o hh (by kernel_rfl) s10
 clear hd
 go_simp
 exact hK.out _ rfl _ _ (Below.refl _ _) rfl)
 apply Stab.t 21 _ hf.size hok.out rfl
 · (
 intro fr1 w1 hh hd hk K hK
 have s116 := Stab.u 4 16 hd hk rfl [] (by kernel_rfl) rfl rfl rfl
 refine Stab.op_guard (o := _) rfl rfl rfl rfl s116 ?_
 have s131 := Stab.u 19 1 hd hk rfl [] (by kernel_rfl) rfl rfl rfl
 have s132 := Stab.u 20 0 hd hk rfl [] (by kernel_rfl) rfl rfl rfl
 clear hd
 go_simp
 try simp only [beq_self_eq_true]
 exact hK.out _ rfl _ _ (Below.refl _ _) rfl)
 apply Stab.t 22 _ hf.size hok.out rfl
 · (
 intro fr1 w1 hh hd hk K hK
 refine Stab.op_plain (o := _) rfl rfl ?_
 have s116 := Stab.u 4 17 hd hk rfl [] (by kernel_rfl) rfl rfl rfl
 have s133 := Stab.u 21 0 hd hk rfl [] (by kernel_rfl) rfl rfl rfl
 clear hd
 go_simp
 exact hK.out _ rfl _ _ (Below.refl _ _) rfl)
 refine Stab.mvN (k := 23) (j := 22) (m := 0) hf.size hok.out rfl rfl rfl (.inl rfl) rfl [] (by kernel_rfl) rfl rfl rfl ?_
 apply Stab.t 24 _ hf.size hok.out rfl
 · (
 intro fr1 w1 hh hd hk K hK
 have s135 := Stab.u 23 0 hd hk rfl [] (by kernel_rfl) rfl rfl rfl
 refine Stab.op_guard (o := _) rfl rfl rfl rfl s135 ?_
 have s8 := Stab.o hh (by kernel_rfl) s8
 clear hd
 go_simp
 exact hK.out _ rfl _ _ (Below.refl _ _) rfl)
 apply Stab.t 25 _ hf.size hok.out rfl
 · (
 intro fr1 w1 hh hd hk K hK
 have s135 := Stab.u 23 1 hd hk rfl [] (by kernel_rfl) rfl rfl rfl
 refine Stab.op_guard (o := _) rfl rfl rfl rfl s135 ?_
 have s9 := Stab.o hh (by kernel_rfl) s9
 clear hd
 have u0 := cell_later hh.ext z0; have u1 := cell_later hh.ext z1
 go_simp
 exact hK.out _ rfl _ _ (Below.refl _ _) rfl)
 apply Stab.t 26 _ hf.size hok.out rfl
 · (
 intro fr1 w1 hh hd hk K hK
 have s135 := Stab.u 23 2 hd hk rfl [] (by kernel_rfl) rfl rfl rfl
 refine Stab.op_guard (o := _) rfl rfl rfl rfl s135 ?_
 have s13 := Stab.o hh (by kernel_rfl) s13
 clear hd
 go_simp
 exact hK.out _ rfl _ _ (Below.refl _ _) rfl)
 apply Stab.t 27 _ hf.size hok.out rfl
 · (
 intro fr1 w1 hh hd hk K hK
 have s135 := Stab.u 23 3 hd hk rfl [] (by kernel_rfl) rfl rfl rfl
 refine Stab.op_guard (o := _) rfl rfl rfl rfl s135 ?_
 have s138 := Stab.u 26 0 hd hk rfl [] (by kernel_rfl) rfl rfl rfl
 clear hd
 have hcv := hD 9 Try.underlying9 hh.ext; have hcv2 := hD 32 Try.underlying32 hh.ext
 go_simp
 exact hK.out _ rfl _ _ (Below.refl _ _) rfl)
 apply Stab.t 28 _ hf.size hok.out rfl
 · (
 intro fr1 w1 hh hd hk K hK
 have s135 := Stab.u 23 4 hd hk rfl [] (by kernel_rfl) rfl rfl rfl
 refine Stab.op_guard (o := _) rfl rfl rfl rfl s135 ?_
 have s136 := Stab.u 24 3 hd hk rfl [] (by kernel_rfl) rfl rfl rfl
 have s137 := Stab.u 25 2 hd hk rfl [] (by kernel_rfl) rfl rfl rfl
 have s139 := Stab.u 27 0 hd hk rfl [] (by kernel_rfl) rfl rfl rfl
 clear hd
 go_simp
 go_at_call 15; refine (state15 w1 g8 q k (hA2.later hh.ext) D).mono ?_; rintro e w2 ⟨rfl, hb⟩
 exact hK.out _ rfl _ _ hb rfl)
 apply Stab.t 29 _ hf.size hok.out rfl
 · (
 intro fr1 w1 hh hd hk K hK
 refine Stab.op_plain (o := _) rfl rfl ?_
 have s135 := Stab.u 23 5 hd hk rfl [] (by kernel_rfl) rfl rfl rfl
 have s140 := Stab.u 28 0 hd hk rfl [] (by kernel_rfl) rfl rfl rfl
 clear hd
 go_simp
 exact hK.out _ rfl _ _ (Below.refl _ _) rfl)
 refine Stab.mvN (k := 30) (j := 29) (m := 0) hf.size hok.out rfl rfl rfl (.inl rfl) rfl [] (by kernel_rfl) rfl rfl rfl ?_
 apply Stab.t 31 _ hf.size hok.out rfl
 · (
 intro fr1 w1 hh hd hk K hK
 have s142 := Stab.u 30 0 hd hk rfl [] (by kernel_rfl) rfl rfl rfl
 refine Stab.op_guard (o := _) rfl rfl rfl rfl s142 ?_
 have s8 := Stab.o hh (by kernel_rfl) s8
 clear hd
 go_simp
 exact hK.out _ rfl _ _ (Below.refl _ _) rfl)
 apply Stab.t 32 _ hf.size hok.out rfl
 · (
 intro fr1 w1 hh hd hk K hK
 have s142 := Stab.u 30 1 hd hk rfl [] (by kernel_rfl) rfl rfl rfl
 refine Stab.op_guard (o := _) rfl rfl rfl rfl s142 ?_
 have s13 := Stab.o hh (by kernel_rfl) s13
 clear hd
 go_simp
 exact hK.out _ rfl _ _ (Below.refl _ _) rfl)
 apply Stab.t 33 _ hf.size hok.out rfl
 · (
 intro fr1 w1 hh hd hk K hK
 have s142 := Stab.u 30 2 hd hk rfl [] (by kernel_rfl) rfl rfl rfl
 refine Stab.op_guard (o := _) rfl rfl rfl rfl s142 ?_
 have s144 := Stab.u 32 0 hd hk rfl [] (by kernel_rfl) rfl rfl rfl
 clear hd
 have hcv := hD 9 Try.underlying9 hh.ext; have hcv2 := hD 32 Try.underlying32 hh.ext
 go_simp
 exact hK.out _ rfl _ _ (Below.refl _ _) rfl)
 apply Stab.t 34 _ hf.size hok.out rfl
 · (
 intro fr1 w1 hh hd hk K hK
 have s142 := Stab.u 30 3 hd hk rfl [] (by kernel_rfl) rfl rfl rfl
 refine Stab.op_guard (o := _) rfl rfl rfl rfl s142 ?_
 have s2 := Stab.o hh (by kernel_rfl) s2
 clear hd
 go_simp
 exact hK.out _ rfl _ _ (Below.refl _ _) rfl)
 apply Stab.t 35 _ hf.size hok.out rfl
 · (
 intro fr1 w1 hh hd hk K hK
 have s142 := Stab.u 30 4 hd hk rfl [] (by kernel_rfl) rfl rfl rfl
 refine Stab.op_guard (o := _) rfl rfl rfl rfl s142 ?_
 have s143 := Stab.u 31 3 hd hk rfl [] (by kernel_rfl) rfl rfl rfl
 have s145 := Stab.u 33 1 hd hk rfl [] (by kernel_rfl) rfl rfl rfl
 have s146 := Stab.u 34 0 hd hk rfl [] (by kernel_rfl) rfl rfl rfl
 clear hd
 go_simp
 go_at_call 16; refine (step16 w1 g8 q k (hA2.later hh.ext) D b).mono ?_; rintro e w2 ⟨rfl, hb⟩
 exact hK.out _ rfl _ _ hb rfl)
 apply Stab.t 36 _ hf.size hok.out rfl
 · (
 intro fr1 w1 hh hd hk K hK
 have s142 := Stab.u 30 5 hd hk rfl [] (by kernel_rfl) rfl rfl rfl
 refine Stab.op_guard (o := _) rfl rfl rfl rfl s142 ?_
 have s9 := Stab.o hh (by kernel_rfl) s9
 clear hd
 have u0 := cell_later hh.ext z0; have u1 := cell_later hh.ext z1
 go_simp
 exact hK.out _ rfl _ _ (Below.refl _ _) rfl)
 apply Stab.t 37 _ hf.size hok.out rfl
 · (
 intro fr1 w1 hh hd hk K hK
 have s142 := Stab.u 30 6 hd hk rfl [] (by kernel_rfl) rfl rfl rfl
 refine Stab.op_guard (o := _) rfl rfl rfl rfl s142 ?_
 have s13 := Stab.o hh (by kernel_rfl) s13
 clear hd
 go_simp
 exact hK.out _ rfl _ _ (Below.refl _ _) rfl)
 apply Stab.t 38 _ hf.size hok.out rfl
 · (
 intro fr1 w1 hh hd hk K hK
 have s142 := Stab.u 30 7 hd hk rfl [] (by kernel_rfl) rfl rfl rfl
 refine Stab.op_guard (o := _) rfl rfl rfl rfl s142 ?_
 have s149 := Stab.u 37 0 hd hk rfl [] (by kernel_rfl) rfl rfl rfl
 clear hd
 have hcv := hD 9 Try.underlying9 hh.ext; have hcv2 := hD 32 Try.underlying32 hh.ext
 go_simp
 exact hK.out _ rfl _ _ (Below.refl _ _) rfl)
 apply Stab.t 39 _ hf.size hok.out rfl
 · (
 intro fr1 w1 hh hd hk K hK
 have s142 := Stab.u 30 8 hd hk rfl [] (by kernel_rfl) rfl rfl rfl
 refine Stab.op_guard (o := _) rfl rfl rfl rfl s142 ?_
 have s2 := Stab.o hh (by kernel_rfl) s2
 clear hd
 go_simp
 exact hK.out _ rfl _ _ (Below.refl _ _) rfl)
 apply Stab.t 40 _ hf.size hok.out rfl
 · (
 intro fr1 w1 hh hd hk K hK
 have s142 := Stab.u 30 9 hd hk rfl [] (by kernel_rfl) rfl rfl rfl
 refine Stab.op_guard (o := _) rfl rfl rfl rfl s142 ?_
 have s148 := Stab.u 36 3 hd hk rfl [] (by kernel_rfl) rfl rfl rfl
 have s150 := Stab.u 38 1 hd hk rfl [] (by kernel_rfl) rfl rfl rfl
 have s151 := Stab.u 39 0 hd hk rfl [] (by kernel_rfl) rfl rfl rfl
 clear hd
 go_simp
 go_at_call 17; refine (rstep17 q k hq0 hk3 D b w1).mono ?_; rintro e w2 ⟨rfl, hb⟩
 exact hK.out _ rfl _ _ hb rfl)
 apply Stab.t 41 _ hf.size hok.out rfl
 · (
 intro fr1 w1 hh hd hk K hK
 have s142 := Stab.u 30 10 hd hk rfl [] (by kernel_rfl) rfl rfl rfl
 refine Stab.op_guard (o := _) rfl rfl rfl rfl s142 ?_
 have s147 := Stab.u 35 5 hd hk rfl [] (by kernel_rfl) rfl rfl rfl
 have s152 := Stab.u 40 0 hd hk rfl [] (by kernel_rfl) rfl rfl rfl
 clear hd
 go_simp
 try simp only [beq_self_eq_true]
 exact hK.out _ rfl _ _ (Below.refl _ _) rfl)
 apply Stab.t 42 _ hf.size hok.out rfl
 · (
 intro fr1 w1 hh hd hk K hK
 refine Stab.op_plain (o := _) rfl rfl ?_
 have s142 := Stab.u 30 11 hd hk rfl [] (by kernel_rfl) rfl rfl rfl
 have s153 := Stab.u 41 0 hd hk rfl [] (by kernel_rfl) rfl rfl rfl
 clear hd
 go_simp
 exact hK.out _ rfl _ _ (Below.refl _ _) rfl)
 refine Stab.mvN (k := 43) (j := 42) (m := 0) hf.size hok.out rfl rfl rfl (.inl rfl) rfl [] (by kernel_rfl) rfl rfl rfl ?_
 apply Stab.t 44 _ hf.size hok.out rfl
 · (
 intro fr1 w1 hh hd hk K hK
 have s155 := Stab.u 43 0 hd hk rfl [] (by kernel_rfl) rfl rfl rfl
 refine Stab.op_guard (o := _) rfl rfl rfl rfl s155 ?_
 have s8 := Stab.o hh (by kernel_rfl) s8
 clear hd
 go_simp
 exact hK.out _ rfl _ _ (Below.refl _ _) rfl)
 apply Stab.t 45 _ hf.size hok.out rfl
 · (
 intro fr1 w1 hh hd hk K hK
 have s155 := Stab.u 43 1 hd hk rfl [] (by kernel_rfl) rfl rfl rfl
 refine Stab.op_guard (o := _) rfl rfl rfl rfl s155 ?_
 have s9 := Stab.o hh (by kernel_rfl) s9
 clear hd
 have u0 := cell_later hh.ext z0; have u1 := cell_later hh.ext z1
 go_simp
 exact hK.out _ rfl _ _ (Below.refl _ _) rfl)
 apply Stab.t 46 _ hf.size hok.out rfl
 · (
 intro fr1 w1 hh hd hk K hK
 have s155 := Stab.u 43 2 hd hk rfl [] (by kernel_rfl) rfl rfl rfl
 refine Stab.op_guard (o := _) rfl rfl rfl rfl s155 ?_
 have s1 := Stab.o hh (by kernel_rfl) s1
 clear hd
 go_simp
 exact hK.out _ rfl _ _ (Below.refl _ _) rfl)
 apply Stab.t 47 _ hf.size hok.out rfl
 · (
 intro fr1 w1 hh hd hk K hK
 have s155 := Stab.u 43 3 hd hk rfl [] (by kernel_rfl) rfl rfl rfl
 refine Stab.op_guard (o := _) rfl rfl rfl rfl s155 ?_
 have s158 := Stab.u 46 0 hd hk rfl [] (by kernel_rfl) rfl rfl rfl
 clear hd
 go_simp
 go_at_call 9; refine (few9b raw 60 w1).mono ?_; rintro e w2 ⟨rfl, hb⟩
 exact hK.out _ rfl _ _ hb rfl)
 apply Stab.t 48 _ hf.size hok.out rfl
 · (
 intro fr1 w1 hh hd hk K hK
 have s155 := Stab.u 43 4 hd hk rfl [] (by kernel_rfl) rfl rfl rfl
 refine Stab.op_guard (o := _) rfl rfl rfl rfl s155 ?_
 have s156 := Stab.u 44 3 hd hk rfl [] (by kernel_rfl) rfl rfl rfl
 have s157 := Stab.u 45 2 hd hk rfl [] (by kernel_rfl) rfl rfl rfl
 have s159 := Stab.u 47 0 hd hk rfl [] (by kernel_rfl) rfl rfl rfl
 clear hd
 go_simp
 go_at_call 15; refine (state15 w1 g8 q k (hA2.later hh.ext) (few raw 60)).mono ?_; rintro e w2 ⟨rfl, hb⟩
 exact hK.out _ rfl _ _ hb rfl)
 apply Stab.t 49 _ hf.size hok.out rfl
 · (
 intro fr1 w1 hh hd hk K hK
 refine Stab.op_plain (o := _) rfl rfl ?_
 have s155 := Stab.u 43 5 hd hk rfl [] (by kernel_rfl) rfl rfl rfl
 have s160 := Stab.u 48 0 hd hk rfl [] (by kernel_rfl) rfl rfl rfl
 clear hd
 go_simp
 exact hK.out _ rfl _ _ (Below.refl _ _) rfl)
 refine Stab.mvN (k := 50) (j := 49) (m := 0) hf.size hok.out rfl rfl rfl (.inl rfl) rfl [] (by kernel_rfl) rfl rfl rfl ?_
 apply Stab.t 51 _ hf.size hok.out rfl
 · (
 intro fr1 w1 hh hd hk K hK
 have s162 := Stab.u 50 0 hd hk rfl [] (by kernel_rfl) rfl rfl rfl
 refine Stab.op_guard (o := _) rfl rfl rfl rfl s162 ?_
 have s8 := Stab.o hh (by kernel_rfl) s8
 clear hd
 go_simp
 exact hK.out _ rfl _ _ (Below.refl _ _) rfl)
 apply Stab.t 52 _ hf.size hok.out rfl
 · (
 intro fr1 w1 hh hd hk K hK
 have s162 := Stab.u 50 1 hd hk rfl [] (by kernel_rfl) rfl rfl rfl
 refine Stab.op_guard (o := _) rfl rfl rfl rfl s162 ?_
 have s1 := Stab.o hh (by kernel_rfl) s1
 clear hd
 go_simp
 exact hK.out _ rfl _ _ (Below.refl _ _) rfl)
 apply Stab.t 53 _ hf.size hok.out rfl
 · (
 intro fr1 w1 hh hd hk K hK
 have s162 := Stab.u 50 2 hd hk rfl [] (by kernel_rfl) rfl rfl rfl
 refine Stab.op_guard (o := _) rfl rfl rfl rfl s162 ?_
 have s164 := Stab.u 52 0 hd hk rfl [] (by kernel_rfl) rfl rfl rfl
 clear hd
 go_simp
 go_at_call 9; refine (few9b raw 60 w1).mono ?_; rintro e w2 ⟨rfl, hb⟩
 exact hK.out _ rfl _ _ hb rfl)
 refine Stab.todo_op (k := 54) (n := 177) (PTx [(⟨#[120]⟩ : ByteArray)]) hf.size hok.out rfl (PTx.stable _) ?_ ?_
 · (
 intro fr1 w1 hh hd hk K hK
 have s162 := Stab.u 50 3 hd hk rfl [] (by kernel_rfl) rfl rfl rfl
 refine Stab.op_guard (o := _) rfl rfl rfl rfl s162 ?_
 clear hd
 go_simp
 exact hK.out _ rfl _ _ ((Below.refl _ _).alloc (Nat.le_refl _) _) ⟨_, rfl, txt_new _ _⟩)
 apply Stab.t 55 _ hf.size hok.out rfl
 · (
 intro fr1 w1 hh hd hk K hK
 have s162 := Stab.u 50 4 hd hk rfl [] (by kernel_rfl) rfl rfl rfl
 refine Stab.op_guard (o := _) rfl rfl rfl rfl s162 ?_
 have s163 := Stab.u 51 3 hd hk rfl [] (by kernel_rfl) rfl rfl rfl
 have s165 := Stab.u 53 1 hd hk rfl [] (by kernel_rfl) rfl rfl rfl
 obtain ⟨x166, s166, hp166⟩ := Stab.use (j := 54) (m := 0) hd hk rfl [] (by kernel_rfl) rfl rfl rfl
 obtain ⟨b166, rfl, hc166⟩ := hp166
 clear hd
 go_simp
 go_at_call 18; refine (read18 w1 g8 q k (hA2.later hh.ext) (few raw 60) b166 1 [(⟨#[120]⟩ : ByteArray)] hc166 (txt_small (by decide)) (by simp)).mono ?_; rintro e w2 ⟨rfl, hb⟩
 rw [readL_one]
 exact hK.out _ rfl _ _ hb rfl)
 apply Stab.t 56 _ hf.size hok.out rfl
 · (
 intro fr1 w1 hh hd hk K hK
 have s162 := Stab.u 50 5 hd hk rfl [] (by kernel_rfl) rfl rfl rfl
 refine Stab.op_guard (o := _) rfl rfl rfl rfl s162 ?_
 have s9 := Stab.o hh (by kernel_rfl) s9
 clear hd
 have u0 := cell_later hh.ext z0; have u1 := cell_later hh.ext z1
 go_simp
 exact hK.out _ rfl _ _ (Below.refl _ _) rfl)
 apply Stab.t 57 _ hf.size hok.out rfl
 · (
 intro fr1 w1 hh hd hk K hK
 have s162 := Stab.u 50 6 hd hk rfl [] (by kernel_rfl) rfl rfl rfl
 refine Stab.op_guard (o := _) rfl rfl rfl rfl s162 ?_
 have s1 := Stab.o hh (by kernel_rfl) s1
 clear hd
 go_simp
 exact hK.out _ rfl _ _ (Below.refl _ _) rfl)
 apply Stab.t 58 _ hf.size hok.out rfl
 · (
 intro fr1 w1 hh hd hk K hK
 have s162 := Stab.u 50 7 hd hk rfl [] (by kernel_rfl) rfl rfl rfl
 refine Stab.op_guard (o := _) rfl rfl rfl rfl s162 ?_
 have s169 := Stab.u 57 0 hd hk rfl [] (by kernel_rfl) rfl rfl rfl
 clear hd
 go_simp
 go_at_call 9; refine (few9b raw 60 w1).mono ?_; rintro e w2 ⟨rfl, hb⟩
 exact hK.out _ rfl _ _ hb rfl)
 apply Stab.t 59 _ hf.size hok.out rfl
 · (
 intro fr1 w1 hh hd hk K hK
 have s162 := Stab.u 50 8 hd hk rfl [] (by kernel_rfl) rfl rfl rfl
 refine Stab.op_guard (o := _) rfl rfl rfl rfl s162 ?_
 have s168 := Stab.u 56 2 hd hk rfl [] (by kernel_rfl) rfl rfl rfl
 have s170 := Stab.u 58 0 hd hk rfl [] (by kernel_rfl) rfl rfl rfl
 clear hd
 go_simp
 go_at_call 19; refine (rread19 q k hq0 hk3 (few raw 60) (⟨#[120]⟩ : ByteArray) (by decide) w1).mono ?_; rintro e w2 ⟨rfl, hb⟩
 exact hK.out _ rfl _ _ hb rfl)
 apply Stab.t 60 _ hf.size hok.out rfl
 · (
 intro fr1 w1 hh hd hk K hK
 have s162 := Stab.u 50 9 hd hk rfl [] (by kernel_rfl) rfl rfl rfl
 refine Stab.op_guard (o := _) rfl rfl rfl rfl s162 ?_
 have s167 := Stab.u 55 4 hd hk rfl [] (by kernel_rfl) rfl rfl rfl
 have s171 := Stab.u 59 0 hd hk rfl [] (by kernel_rfl) rfl rfl rfl
 clear hd
 go_simp
 try simp only [beq_self_eq_true]
 exact hK.out _ rfl _ _ (Below.refl _ _) rfl)
 apply Stab.t 61 _ hf.size hok.out rfl
 · (
 intro fr1 w1 hh hd hk K hK
 refine Stab.op_plain (o := _) rfl rfl ?_
 have s162 := Stab.u 50 10 hd hk rfl [] (by kernel_rfl) rfl rfl rfl
 have s172 := Stab.u 60 0 hd hk rfl [] (by kernel_rfl) rfl rfl rfl
 clear hd
 go_simp
 exact hK.out _ rfl _ _ (Below.refl _ _) rfl)
 refine Stab.mvN (k := 62) (j := 61) (m := 0) hf.size hok.out rfl rfl rfl (.inl rfl) rfl [] (by kernel_rfl) rfl rfl rfl ?_
 apply Stab.t 63 _ hf.size hok.out rfl
 · (
 intro fr1 w1 hh hd hk K hK
 have s174 := Stab.u 62 0 hd hk rfl [] (by kernel_rfl) rfl rfl rfl
 refine Stab.op_guard (o := _) rfl rfl rfl rfl s174 ?_
 clear hd
 go_simp
 go_at_call 20; refine (works20 w1).mono ?_; rintro e w2 ⟨rfl, hb⟩
 exact hK.out _ rfl _ _ hb rfl)
 apply Stab.t 64 _ hf.size hok.out rfl
 · (
 intro fr1 w1 hh hd hk K hK
 refine Stab.op_plain (o := _) rfl rfl ?_
 have s174 := Stab.u 62 1 hd hk rfl [] (by kernel_rfl) rfl rfl rfl
 have s175 := Stab.u 63 0 hd hk rfl [] (by kernel_rfl) rfl rfl rfl
 clear hd
 go_simp
 exact hK.out _ rfl _ _ (Below.refl _ _) rfl)
 refine Stab.mvN (k := 65) (j := 64) (m := 0) hf.size hok.out rfl rfl rfl (.inr rfl) rfl [] (by kernel_rfl) rfl rfl rfl ?_
 refine Stab.todo_facts (n := 177) (by kernel_rfl) hf.size hok.out rfl (fun fr1 w1 hh hg => ?_)
 have s6 := Stab.e 65 0 hg rfl rfl rfl rfl
 have hf1 : Fact.Fr 177 fr1 := ⟨hh.size.trans hf.size, hh.defers.trans hf.defers⟩
 have hx := hh.ext
 clear hg hh hf hok s1 s2 s8 s9 s10 s11 s13 s14 s94 s95 s96 s97
 have hf := hf1; clear hf1
 refine Fact.nx (hK25 _ _ ?_)
 refine wp_ret ?_
 exact Fact.ret1 rfl hf s6 ⟨rfl, hb8.trans (((hbr0.trans (h2.mono hbr0.size)).trans ((hbo.trans (hx.mono hbo.size)).mono (by have := hbr0.size; have := h2.size; omega))).mono hb8.size)⟩)))))
end Lv
end Go.Proofs.Ytfgfichkcckhiaa
