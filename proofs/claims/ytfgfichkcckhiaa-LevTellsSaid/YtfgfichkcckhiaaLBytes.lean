/- Lev: Bytes. -/
import Derived.Test.YtfgfichkcckhiaaLMap
import Derived.Test.YtfgfichkcckhiaaLRead
namespace Go.Proofs.Ytfgfichkcckhiaa
open Go.RowKit
set_option linter.unusedSimpArgs false
set_option linter.unusedVariables false
set_option linter.unnecessarySimpa false
namespace Lv
theorem Reads8.at_ {w : World} {v : Value} {l : List Int} (h : Reads8 w v l) : ∃ A c, v = .slice A l.length c ∧ ∀ (i : Nat) (x : Int), l[i]? = some x → ∃ g, A = some ⟨g, 0, none⟩ ∧ w.cell? ⟨g, i, none⟩ = some (.int .u8 x) := by
  rcases h with ⟨h1, h2⟩ | ⟨g, c, h1, h2⟩
  · exact ⟨none, 0, by rw [h1, h2]; rfl, fun i x hi => by rw [h2] at hi; cases hi⟩
  · exact ⟨_, c, h1, fun i x hi => ⟨g, rfl, h2 i x hi⟩⟩
theorem key_of {q S : ByteArray} {k i : Nat} {x : Int} {ys : List Int} (h : KeysOf (Dq q k S q.size) ys) (hx : ys[i]? = some x) : ∃ y : Nat, x = (y : Int) ∧ y < 256 ∧ ∃ j, j < q.size ∧ Lv.at_ q j = y := by
  have h1 := (h.2 x).1 (List.mem_of_getElem? hx)
  rw [Dq_has] at h1
  obtain ⟨j, h2, h3⟩ := of_decide_eq_true h1
  exact ⟨Lv.at_ q j, h3.symm, at_lt q j, j, h2, rfl⟩
theorem all_step {q : ByteArray} {b : Nat} (h : ∀ c, c < b → inQ q c = true) (hb : inQ q b = true) : ∀ c, c < b + 1 → inQ q c = true := fun c hc => by
  rcases Nat.lt_or_ge c b with h1 | h1
  · exact h c h1
  · obtain rfl : c = b := by omega
    exact hb
theorem OB.of {w : World} {base : Nat} {v : Value} {l : List Nat} (h : OZ w base v (l.map (fun (b : Nat) => (b : Int)))) : OB w base v l := by
  have h2 : w.ownsRow base 5 1 v (l.map (fun (b : Nat) => (b : Int))).length ((l.map (fun (b : Nat) => (b : Int))).map (Value.int .u8)) := h
  rw [List.length_map, List.map_map] at h2
  exact h2
theorem wpList_app8z {ops : Array Oper} {rest : List Oper} {o : Oper} {a : Act} {Q : Exit → Act → World → Prop} {W : World} {x : Int}
    (hgd : o.guard = none) (s y : Operand) (ho : o.op = .call { callee := .builtin .append, args := #[s, y], argTypes := #[38, 38] })
    (base : Nat) (v : Value) (l : List Int) (hs : a.eval s = v) (hown : OZ W base v l) (g : Nat) (hx : a.eval y = .slice (some ⟨g, 0, none⟩) 1 1) (hgW : g = W.heap.size)
    (hl : l.length ≤ 1000000) (hbase : base ≤ W.heap.size)
    (h : ∀ v' w', OZ w' base v' (l ++ [x]) → (W.alloc (.cells #[.int .u8 x] 5)).grownBy w' v.ownBlock → Below base W w' → wpList Try.prog ops Q rest (a.put o.dst v') w') :
    wpList Try.prog ops Q (o :: rest) a (W.alloc (.cells #[.int .u8 x] 5)) := by
  obtain ⟨i0, hi, hz0, hz1, hz2⟩ := info_parts info5
  subst hgW
  refine wpList_append_own _ hgd s y 38 ho base 5 i0 _ 1 1 Try.underlying38 hi hz0 hz1 hz2 rfl (by decide) v l.length _ hs (hown.alloc _) ⟨W.heap.size, 0, none⟩ 1 1 [.int .u8 x] hx rfl ?_ ?_ ?_ ?_ (by simp; omega) ?_
  · exact one_new W _ 5
  · intro u hu; simp at hu; subst hu; rfl
  · unfold maxLen; omega
  · omega
  · intro v' w' ho' hg' _
    exact h v' w' (by show w'.ownsRow _ _ _ _ _ _; simpa using ho') hg' (((Below.refl base W).alloc hbase _).grown hg' (by simp; omega) (fun k hk => (hown.lt k hk).1))
set_option maxHeartbeats 4000000 in
set_option maxRecDepth 100000 in
theorem bytes24n (S : ByteArray) (w : World) : Calls Try.prog 24 #[.pointer none, .string S] w fun e w1 => e = .returned (.tuple #[.slice none 0 0, .bool false]) ∧ Below w.heap.size w w1 := by
 refine calls_of_wp Try.func24 rfl ?_
 refine Fact.enter (n := 77) (by kernel_rfl) (fun fr hf hT => ?_)
 have s0 := hT 0 _ rfl
 have s1 := hT 1 _ rfl
 clear hT
 refine wp_seq_k (fun K1 hK1 => ?_)
 refine Fact.region ?_
 refine Fact.p rfl fun K hK => ?_
 go_simp
 refine hK.out _ _ ?_; clear hK K
 refine Fact.p rfl fun K hK => ?_
 go_simp
 refine hK.out _ _ ?_; clear hK K
 refine Fact.nil ?_
 refine Fact.q hf (by simp only [Fact.G]) rfl fun fr1 hf1 hT => ?_
 have hKp : _ ∧ _ ∧ _ ∧ _ := ⟨hT 0, hT 1, hT 4, hT 5⟩
 simp only [Fact.G, Nat.reduceEqDiff, Nat.reduceLT, hf.size, reduceIte, s0, s1] at hKp
 clear hT hf s0 s1
 obtain ⟨s0, s1, s4, s5⟩ := hKp
 have hf := hf1; clear hf1
 refine Fact.nx (hK1 _ _ ?_)
 refine wp_seq_k (fun K2 hK2 => ?_)
 refine wp_seq_k (fun K3 hK3 => ?_)
 refine Fact.region ?_
 have b15 := hf.l 15 rfl
 have b16 := hf.l 16 rfl
 have b17 := hf.l 17 rfl
 refine Fact.p rfl fun K hK => ?_
 go_simp
 refine hK.out _ _ ?_; clear hK K
 refine Fact.p rfl fun K hK => ?_
 go_simp
 refine hK.out _ _ ?_; clear hK K
 refine Fact.p rfl fun K hK => ?_
 go_simp
 go_at_call 34; refine (is34n S w).mono ?_; rintro e w1 ⟨rfl, hb1⟩
 dsimp only
 refine hK.out _ _ ?_; clear hK K
 refine Fact.p rfl fun K hK => ?_
 go_simp
 refine hK.out _ _ ?_; clear hK K
 refine Fact.nil ?_
 refine Fact.q hf (by simp only [Fact.G]) rfl fun fr1 hf1 hT => ?_
 have hKp : _ ∧ _ ∧ _ ∧ _ ∧ _ := ⟨hT 0, hT 1, hT 4, hT 5, hT 18⟩
 simp only [Fact.G, Nat.reduceEqDiff, Nat.reduceLT, hf.size, reduceIte, s0, s1, s4, s5] at hKp
 clear hT hf s0 s1 s4 s5 b15 b16 b17
 obtain ⟨s0, s1, s4, s5, s18⟩ := hKp
 have hf := hf1; clear hf1
 refine Fact.nx (hK3 _ _ ?_)
 try simp only [Bool.not_false] at s18
 refine Fact.cond_t s18 ?_
 refine wp_seq_k (fun K4 hK4 => ?_)
 refine Fact.region ?_
 refine Fact.p rfl fun K hK => ?_
 go_simp
 refine hK.out _ _ ?_; clear hK K
 refine Fact.p rfl fun K hK => ?_
 go_simp
 refine hK.out _ _ ?_; clear hK K
 refine Fact.nil ?_
 refine Fact.q hf (by simp only [Fact.G]) rfl fun fr1 hf1 hT => ?_
 have hKp : _ ∧ _ ∧ _ ∧ _ := ⟨hT 0, hT 1, hT 4, hT 5⟩
 simp only [Fact.G, Nat.reduceEqDiff, Nat.reduceLT, hf.size, reduceIte, s0, s1] at hKp
 clear hT hf s0 s1 s4 s5 s18
 obtain ⟨s0, s1, s4, s5⟩ := hKp
 have hf := hf1; clear hf1
 refine Fact.nx (hK4 _ _ ?_)
 refine wp_ret ?_
 refine Fact.then_ret ?_
 exact Fact.ret2 rfl hf s4 s5 ⟨rfl, hb1⟩
set_option maxHeartbeats 4000000 in
set_option maxRecDepth 100000 in
theorem bytes24no (w : World) (g : Nat) (q : ByteArray) (k : Nat) (hA : At w g q k) (S : ByteArray) (hok : okS q k S = false) : Calls Try.prog 24 #[.pointer (some ⟨g, 0, none⟩), .string S] w fun e w1 => e = .returned (.tuple #[.slice none 0 0, .bool (moreS q k S)]) ∧ Below w.heap.size w w1 := by
 refine calls_of_wp Try.func24 rfl ?_
 refine Fact.enter (n := 77) (by kernel_rfl) (fun fr hf hT => ?_)
 have s0 := hT 0 _ rfl
 have s1 := hT 1 _ rfl
 clear hT
 refine wp_seq_k (fun K1 hK1 => ?_)
 refine Fact.region ?_
 refine Fact.p rfl fun K hK => ?_
 go_simp
 refine hK.out _ _ ?_; clear hK K
 refine Fact.p rfl fun K hK => ?_
 go_simp
 refine hK.out _ _ ?_; clear hK K
 refine Fact.nil ?_
 refine Fact.q hf (by simp only [Fact.G]) rfl fun fr1 hf1 hT => ?_
 have hKp : _ ∧ _ ∧ _ ∧ _ := ⟨hT 0, hT 1, hT 4, hT 5⟩
 simp only [Fact.G, Nat.reduceEqDiff, Nat.reduceLT, hf.size, reduceIte, s0, s1] at hKp
 clear hT hf s0 s1
 obtain ⟨s0, s1, s4, s5⟩ := hKp
 have hf := hf1; clear hf1
 refine Fact.nx (hK1 _ _ ?_)
 refine wp_seq_k (fun K2 hK2 => ?_)
 refine wp_seq_k (fun K3 hK3 => ?_)
 refine Fact.region ?_
 have b15 := hf.l 15 rfl
 have b16 := hf.l 16 rfl
 have b17 := hf.l 17 rfl
 refine Fact.p rfl fun K hK => ?_
 go_simp
 refine hK.out _ _ ?_; clear hK K
 refine Fact.p rfl fun K hK => ?_
 go_simp
 refine hK.out _ _ ?_; clear hK K
 refine Fact.p rfl fun K hK => ?_
 go_simp
 go_at_call 34; refine (is34 w g q k hA S).mono ?_; rintro e w1 ⟨rfl, hb1⟩
 try rw [hok]
 dsimp only
 refine hK.out _ _ ?_; clear hK K
 refine Fact.p rfl fun K hK => ?_
 go_simp
 refine hK.out _ _ ?_; clear hK K
 refine Fact.nil ?_
 refine Fact.q hf (by simp only [Fact.G]) rfl fun fr1 hf1 hT => ?_
 have hKp : _ ∧ _ ∧ _ ∧ _ ∧ _ := ⟨hT 0, hT 1, hT 4, hT 5, hT 18⟩
 simp only [Fact.G, Nat.reduceEqDiff, Nat.reduceLT, hf.size, reduceIte, s0, s1, s4, s5] at hKp
 clear hT hf s0 s1 s4 s5 b15 b16 b17
 obtain ⟨s0, s1, s4, s5, s18⟩ := hKp
 have hf := hf1; clear hf1
 refine Fact.nx (hK3 _ _ ?_)
 try simp only [Bool.not_false] at s18
 refine Fact.cond_t s18 ?_
 refine wp_seq_k (fun K4 hK4 => ?_)
 refine Fact.region ?_
 refine Fact.p rfl fun K hK => ?_
 go_simp
 refine hK.out _ _ ?_; clear hK K
 refine Fact.p rfl fun K hK => ?_
 go_simp
 refine hK.out _ _ ?_; clear hK K
 refine Fact.nil ?_
 refine Fact.q hf (by simp only [Fact.G]) rfl fun fr1 hf1 hT => ?_
 have hKp : _ ∧ _ ∧ _ ∧ _ := ⟨hT 0, hT 1, hT 4, hT 5⟩
 simp only [Fact.G, Nat.reduceEqDiff, Nat.reduceLT, hf.size, reduceIte, s0, s1] at hKp
 clear hT hf s0 s1 s4 s5 s18
 obtain ⟨s0, s1, s4, s5⟩ := hKp
 have hf := hf1; clear hf1
 refine Fact.nx (hK4 _ _ ?_)
 refine wp_ret ?_
 refine Fact.then_ret ?_
 exact Fact.ret2 rfl hf s4 s5 ⟨by rw [moreS, hok]; rfl, hb1⟩
set_option maxHeartbeats 4000000 in
set_option maxRecDepth 100000 in
theorem bytes24yes (w : World) (g : Nat) (q : ByteArray) (k : Nat) (hA : At w g q k) (S : ByteArray) (hok : okS q k S = true) : Calls Try.prog 24 #[.pointer (some ⟨g, 0, none⟩), .string S] w fun e w1 => ∃ v, e = .returned (.tuple #[v, .bool (moreS q k S)]) ∧ OB w1 w.heap.size v (bytesS q k S) ∧ Below w.heap.size w w1 := by
 refine calls_of_wp Try.func24 rfl ?_
 refine Fact.enter (n := 77) (by kernel_rfl) (fun fr hf hT => ?_)
 have s0 := hT 0 _ rfl
 have s1 := hT 1 _ rfl
 clear hT
 refine wp_seq_k (fun K1 hK1 => ?_)
 refine Fact.region ?_
 refine Fact.p rfl fun K hK => ?_
 go_simp
 refine hK.out _ _ ?_; clear hK K
 refine Fact.p rfl fun K hK => ?_
 go_simp
 refine hK.out _ _ ?_; clear hK K
 refine Fact.nil ?_
 refine Fact.q hf (by simp only [Fact.G]) rfl fun fr1 hf1 hT => ?_
 have hKp : _ ∧ _ ∧ _ ∧ _ := ⟨hT 0, hT 1, hT 4, hT 5⟩
 simp only [Fact.G, Nat.reduceEqDiff, Nat.reduceLT, hf.size, reduceIte, s0, s1] at hKp
 clear hT hf s0 s1
 obtain ⟨s0, s1, s4, s5⟩ := hKp
 have hf := hf1; clear hf1
 refine Fact.nx (hK1 _ _ ?_)
 refine wp_seq_k (fun K2 hK2 => ?_)
 refine wp_seq_k (fun K3 hK3 => ?_)
 refine Fact.region ?_
 have b15 := hf.l 15 rfl
 have b16 := hf.l 16 rfl
 have b17 := hf.l 17 rfl
 refine Fact.p rfl fun K hK => ?_
 go_simp
 refine hK.out _ _ ?_; clear hK K
 refine Fact.p rfl fun K hK => ?_
 go_simp
 refine hK.out _ _ ?_; clear hK K
 refine Fact.p rfl fun K hK => ?_
 go_simp
 go_at_call 34; refine (is34 w g q k hA S).mono ?_; rintro e w1 ⟨rfl, hb1⟩
 try rw [hok]
 dsimp only
 refine hK.out _ _ ?_; clear hK K
 refine Fact.p rfl fun K hK => ?_
 go_simp
 refine hK.out _ _ ?_; clear hK K
 refine Fact.nil ?_
 refine Fact.q hf (by simp only [Fact.G]) rfl fun fr1 hf1 hT => ?_
 have hKp : _ ∧ _ ∧ _ ∧ _ ∧ _ := ⟨hT 0, hT 1, hT 4, hT 5, hT 18⟩
 simp only [Fact.G, Nat.reduceEqDiff, Nat.reduceLT, hf.size, reduceIte, s0, s1, s4, s5] at hKp
 clear hT hf s0 s1 s4 s5 b15 b16 b17
 obtain ⟨s0, s1, s4, s5, s18⟩ := hKp
 have hf := hf1; clear hf1
 refine Fact.nx (hK3 _ _ ?_)
 try simp only [Bool.not_true] at s18
 refine Fact.cond_f s18 ?_
 have hA1 := hA.later hb1
 have hs1 := hb1.size
 have hq0 := hA.hq
 have hk0 := hA.hk
 refine wp_skip ?_
 refine Fact.nx (hK2 _ _ ?_)
 obtain ⟨W2, hW2⟩ : ∃ W2, w1.alloc (.map #[] 0) = W2 := ⟨_, rfl⟩
 have hb2 : Below w1.heap.size w1 W2 := by rw [← hW2]; exact (Below.refl _ _).alloc (Nat.le_refl _) _
 have hs2 : W2.heap.size = w1.heap.size + 1 := by rw [← hW2]; simp
 have hm2 : W2.ownsMap Try.prog 5 (plainElem Try.prog 32) w1.heap.size 0 (Dq q k S 0) := by rw [← hW2]; exact World.ownsMap_made w1 Try.prog 5 _
 refine wp_seq_k (fun K4 hK4 => ?_)
 refine Fact.region ?_
 have b19 := hf.l 19 rfl
 refine Fact.p rfl fun K hK => ?_
 go_simp
 rw [RowKit.run_makeMap, hW2]
 refine hK.out _ _ ?_; clear hK K
 refine Fact.p rfl fun K hK => ?_
 go_simp
 refine hK.out _ _ ?_; clear hK K
 refine Fact.nil ?_
 refine Fact.q hf (by simp only [Fact.G]) rfl fun fr1 hf1 hT => ?_
 have hKp : _ ∧ _ ∧ _ ∧ _ ∧ _ := ⟨hT 0, hT 1, hT 4, hT 5, hT 6⟩
 simp only [Fact.G, Nat.reduceEqDiff, Nat.reduceLT, hf.size, reduceIte, s0, s1, s4, s5] at hKp
 clear hT hf s0 s1 s4 s5 s18 b19
 obtain ⟨s0, s1, s4, s5, s6⟩ := hKp
 have hf := hf1; clear hf1
 refine Fact.nx (hK4 _ _ ?_)
 have hA2 := hA1.later hb2
 have c0 := hA2.c0
 obtain ⟨W3, hW3⟩ : ∃ W3, W2.drew.alloc (.cells (bytesRow q (grownCap W2 q.size 0 5)) 5 ((bytesRow q (grownCap W2 q.size 0 5)).size, (bytesRow q (grownCap W2 q.size 0 5)).size + 1)) = W3 := ⟨_, rfl⟩
 have HW3 := Lib.hid hW3; clear hW3 hW2
 have hb3 : Below W2.heap.size W2 W3 := by rw [← HW3.out]; exact ((Below.refl _ W2).drew).alloc (Nat.le_refl _) _
 have hrow3 : ∀ j, j < q.size → W3.cell? ⟨w1.heap.size + 1, j, none⟩ = some (.int .u8 (at_ q j : Int)) := fun j hj => by rw [← HW3.out, ← hs2]; exact bytes_cell W2 q j hj
 refine wp_seq_k (fun K5 hK5 => ?_)
 refine wp_seq_k (fun K6 hK6 => ?_)
 refine Fact.region ?_
 have b20 := hf.l 20 rfl
 have b21 := hf.l 21 rfl
 have b22 := hf.l 22 rfl
 have b23 := hf.l 23 rfl
 have b24 := hf.l 24 rfl
 refine Fact.p rfl fun K hK => ?_
 go_simp
 refine hK.out _ _ ?_; clear hK K
 refine Fact.p rfl fun K hK => ?_
 go_simp
 refine hK.out _ _ ?_; clear hK K
 refine Fact.p rfl fun K hK => ?_
 go_simp
 refine hK.out _ _ ?_; clear hK K
 refine Fact.p rfl fun K hK => ?_
 go_simp
 refine hK.out _ _ ?_; clear hK K
 refine Fact.p rfl fun K hK => ?_
 go_simp
 rw [run_bytes_of_string W2 9 38 5 q Try.underlying9 Try.underlying38 Try.underlying5]
 rw [HW3.out]
 refine hK.out _ _ ?_; clear hK K
 refine Fact.p rfl fun K hK => ?_
 go_simp
 refine hK.out _ _ ?_; clear hK K
 refine Fact.p rfl fun K hK => ?_
 go_simp
 refine hK.out _ _ ?_; clear hK K
 refine Fact.nil ?_
 refine Fact.q hf (by simp only [Fact.G]) rfl fun fr1 hf1 hT => ?_
 have hKp : _ ∧ _ ∧ _ ∧ _ ∧ _ ∧ _ ∧ _ ∧ _ := ⟨hT 0, hT 1, hT 4, hT 5, hT 6, hT 24, hT 25, hT 26⟩
 simp only [Fact.G, Nat.reduceEqDiff, Nat.reduceLT, hf.size, reduceIte, s0, s1, s4, s5, s6] at hKp
 clear hT hf s0 s1 s4 s5 s6 b20 b21 b22 b23 b24
 obtain ⟨s0, s1, s4, s5, s6, s24, s25, s26⟩ := hKp
 have hf := hf1; clear hf1
 refine Fact.nx (hK6 _ _ ?_)
 refine wp_block ?_
 have hb03 : Below w.heap.size w W3 := (hb1.trans (hb2.mono hs1)).trans (hb3.mono (by omega))
 have hm3 := map_later hm2 hb3
 have hA3 := hA2.later hb3
 have hs3 : W3.heap.size = W2.heap.size + 1 := by rw [← HW3.out]; simp
 clear c0
 refine wp_loop_ghost (fun g1 fr wr => ∃ (i c2 : Nat), g1 = q.size - i ∧ i ≤ q.size ∧ Fact.Fr 77 fr ∧ fr.tmps[0]? = some (.pointer (some ⟨g, 0, none⟩)) ∧ fr.tmps[1]? = some (.string S) ∧ fr.tmps[4]? = some (.slice none 0 0) ∧ fr.tmps[6]? = some (.map (some w1.heap.size)) ∧ fr.tmps[24]? = some (.slice (some ⟨w1.heap.size + 1, 0, none⟩) q.size c2) ∧ fr.tmps[25]? = some (.int .i64 q.size) ∧ fr.tmps[26]? = some (.int .i64 i) ∧ wr.ownsMap Try.prog 5 (plainElem Try.prog 32) w1.heap.size i (Dq q k S i) ∧ (∀ j, j < q.size → wr.cell? ⟨w1.heap.size + 1, j, none⟩ = some (.int .u8 (at_ q j : Int))) ∧ Below w.heap.size w wr ∧ W3.heap.size ≤ wr.heap.size) (q.size) ?_ ?_
 · (
 exact ⟨0, _, rfl, Nat.zero_le _, hf, s0, s1, s4, s6, s24, s25, s26, hm3, hrow3, hb03, Nat.le_refl _⟩)
 · (
 clear hf s0 s1 s4 s5 s6 s24 s25 s26
 rintro g1 fr wr ⟨i, c2, hk1, hi, hf, s0, s1, s4, s6, s24, s25, s26, hm, hrow, hb, hsz⟩
 have HK1 := Lib.hid hk1; clear hk1
 refine wp_seq_k (fun K7 hK7 => ?_)
 refine Fact.region ?_
 refine Fact.p rfl fun K hK => ?_
 go_simp
 refine hK.out _ _ ?_; clear hK K
 refine Fact.nil ?_
 refine Fact.q hf (by simp only [Fact.G]) rfl fun fr1 hf1 hT => ?_
 have hKp : _ ∧ _ ∧ _ ∧ _ ∧ _ ∧ _ ∧ _ ∧ _ := ⟨hT 0, hT 1, hT 4, hT 6, hT 24, hT 25, hT 26, hT 27⟩
 simp only [Fact.G, Nat.reduceEqDiff, Nat.reduceLT, hf.size, reduceIte, s0, s1, s4, s6, s24, s25, s26] at hKp
 clear hT hf s0 s1 s4 s6 s24 s25 s26
 obtain ⟨s0, s1, s4, s6, s24, s25, s26, s27⟩ := hKp
 have hf := hf1; clear hf1
 refine Fact.nx (hK7 _ _ ?_)
 refine wp_seq_k (fun K8 hK8 => ?_)
 refine Fact.cond_s s27 (fun hq => ?_) (fun hq => ?_)
 · (
 have hlt : i < q.size := by have h9 := of_decide_eq_true hq; omega
 have ci := hrow i hlt
 have hA4 := hA.later hb
 refine wp_skip ?_
 refine Fact.nx (hK8 _ _ ?_)
 refine wp_seq_k (fun K9 hK9 => ?_)
 refine wp_block ?_
 refine wp_seq_k (fun K10 hK10 => ?_)
 refine Fact.region ?_
 have b28 := hf.l 28 rfl
 have b29 := hf.l 29 rfl
 refine Fact.p rfl fun K hK => ?_
 go_simp
 try rw [if_pos (by omega)]
 refine hK.out _ _ ?_; clear hK K
 refine Fact.p rfl fun K hK => ?_
 go_simp
 refine hK.out _ _ ?_; clear hK K
 refine Fact.p rfl fun K hK => ?_
 go_simp
 refine hK.out _ _ ?_; clear hK K
 refine Fact.nil ?_
 refine Fact.q hf (by simp only [Fact.G]) rfl fun fr1 hf1 hT => ?_
 have hKp : _ ∧ _ ∧ _ ∧ _ ∧ _ ∧ _ ∧ _ ∧ _ ∧ _ ∧ _ ∧ _ := ⟨hT 0, hT 1, hT 4, hT 6, hT 8, hT 24, hT 25, hT 26, hT 27, hT 28, hT 29⟩
 simp only [Fact.G, Nat.reduceEqDiff, Nat.reduceLT, hf.size, reduceIte, s0, s1, s4, s6, s24, s25, s26, s27] at hKp
 clear hT hf s0 s1 s4 s6 s24 s25 s26 s27 b28 b29
 obtain ⟨s0, s1, s4, s6, s8, s24, s25, s26, s27, s28, s29⟩ := hKp
 have hf := hf1; clear hf1
 refine Fact.nx (hK10 _ _ ?_)
 refine Fact.region ?_
 have b30 := hf.l 30 rfl
 have b31 := hf.l 31 rfl
 have b32 := hf.l 32 rfl
 have b33 := hf.l 33 rfl
 have b34 := hf.l 34 rfl
 have b35 := hf.l 35 rfl
 refine Fact.p rfl fun K hK => ?_
 go_simp
 refine hK.out _ _ ?_; clear hK K
 refine Fact.p rfl fun K hK => ?_
 go_simp
 refine hK.out _ _ ?_; clear hK K
 refine Fact.p rfl fun K hK => ?_
 go_simp
 refine hK.out _ _ ?_; clear hK K
 refine Fact.p rfl fun K hK => ?_
 go_simp
 refine hK.out _ _ ?_; clear hK K
 refine Fact.p rfl fun K hK => ?_
 go_simp
 refine hK.out _ _ ?_; clear hK K
 refine Fact.p rfl fun K hK => ?_
 go_simp
 go_at_call 16; refine (step16 wr g q k (hA.later (hb.mono (Nat.le_refl _))) S (at_ q i)).mono ?_; rintro e w4 ⟨rfl, hb4⟩
 have hs4 := hb4.size
 obtain ⟨w5, hr5, hm5, hg5⟩ := store_one (map_later hm hb4) (by omega) hq0
 dsimp only
 refine hK.out _ _ ?_; clear hK K
 clear ci
 refine Fact.p rfl fun K hK => ?_
 go_simp
 refine hK.out _ _ ?_; clear hK K
 refine Fact.nil ?_
 refine Fact.q hf (by simp only [Fact.G]) rfl fun fr1 hf1 hT => ?_
 have hKp : _ ∧ _ ∧ _ ∧ _ ∧ _ ∧ _ ∧ _ ∧ _ ∧ _ ∧ _ ∧ _ ∧ _ ∧ _ ∧ _ ∧ _ ∧ _ ∧ _ := ⟨hT 0, hT 1, hT 4, hT 6, hT 8, hT 24, hT 25, hT 26, hT 27, hT 28, hT 29, hT 30, hT 31, hT 32, hT 33, hT 34, hT 35⟩
 simp only [Fact.G, Nat.reduceEqDiff, Nat.reduceLT, hf.size, reduceIte, s0, s1, s4, s6, s8, s24, s25, s26, s27, s28, s29] at hKp
 clear hT hf s0 s1 s4 s6 s8 s24 s25 s26 s27 s28 s29 b30 b31 b32 b33 b34 b35
 obtain ⟨s0, s1, s4, s6, s8, s24, s25, s26, s27, s28, s29, s30, s31, s32, s33, s34, s35⟩ := hKp
 have hf := hf1; clear hf1
 refine Fact.block_normal ?_
 refine Fact.nx (hK9 _ _ ?_)
 refine Fact.region ?_
 have b36 := hf.l 36 rfl
 refine Fact.p rfl fun K hK => ?_
 go_simp
 try simp (disch := omega) only [Fact.wrap_i64, Fact.wrap_u8, Fact.wrap_u32, Fact.wrap_u64]
 refine hK.out _ _ ?_; clear hK K
 refine Fact.p rfl fun K hK => ?_
 go_simp
 refine hK.out _ _ ?_; clear hK K
 refine Fact.nil ?_
 refine Fact.q hf (by simp only [Fact.G]) rfl fun fr1 hf1 hT => ?_
 have hKp : _ ∧ _ ∧ _ ∧ _ ∧ _ ∧ _ ∧ _ ∧ _ ∧ _ ∧ _ ∧ _ ∧ _ ∧ _ ∧ _ ∧ _ ∧ _ ∧ _ ∧ _ := ⟨hT 0, hT 1, hT 4, hT 6, hT 8, hT 24, hT 25, hT 26, hT 27, hT 28, hT 29, hT 30, hT 31, hT 32, hT 33, hT 34, hT 35, hT 36⟩
 simp only [Fact.G, Nat.reduceEqDiff, Nat.reduceLT, hf.size, reduceIte, s0, s1, s4, s6, s8, s24, s25, s27, s28, s29, s30, s31, s32, s33, s34, s35] at hKp
 clear hT hf s0 s1 s4 s6 s8 s24 s25 s26 s27 s28 s29 s30 s31 s32 s33 s34 s35 b36
 obtain ⟨s0, s1, s4, s6, s8, s24, s25, s26, s27, s28, s29, s30, s31, s32, s33, s34, s35, s36⟩ := hKp
 have hf := hf1; clear hf1
 refine Fact.then_normal ?_
 exact ⟨_, by have := HK1.out; omega, i + 1, c2, rfl, by omega, hf, s0, s1, s4, s6, s24, s25, s26, hm5, fun j hj => by rw [show w5.cell? ⟨w1.heap.size + 1, j, none⟩ = w4.cell? ⟨w1.heap.size + 1, j, none⟩ from World.cell?_of_block (hg5.block _ (by show w1.heap.size + 1 < _; omega) (by intro h; injection h with h; have h : w1.heap.size + 1 = w1.heap.size := h; omega))]; exact cell_later hb4 (hrow j hj), (hb.trans (hb4.mono hb.size)).grown hg5 (by have := hb.size; omega) (fun k e => by cases e; omega), by have := hg5.size; omega⟩)
 · (
 have hie : i = q.size := by have h9 := of_decide_eq_false hq; omega
 subst hie
 refine wp_exit ?_
 refine Fact.then_exit ?_
 refine Fact.then_exit ?_
 refine Fact.block_exit ?_
 refine Fact.nx (hK5 _ _ ?_)
 refine wp_seq_k (fun K11 hK11 => ?_)
 refine Fact.region ?_
 refine Fact.p rfl fun K hK => ?_
 go_simp
 refine hK.out _ _ ?_; clear hK K
 refine Fact.nil ?_
 refine Fact.q hf (by simp only [Fact.G]) rfl fun fr1 hf1 hT => ?_
 have hKp : _ ∧ _ ∧ _ ∧ _ ∧ _ := ⟨hT 0, hT 1, hT 4, hT 6, hT 9⟩
 simp only [Fact.G, Nat.reduceEqDiff, Nat.reduceLT, hf.size, reduceIte, s0, s1, s4, s6] at hKp
 clear hT hf s0 s1 s4 s6 s24 s25 s26 s27
 obtain ⟨s0, s1, s4, s6, s9⟩ := hKp
 have hf := hf1; clear hf1
 refine Fact.nx (hK11 _ _ ?_)
 refine Fact.seq_meet (fun fr wr => ∃ o : ByteArray, o = awayS q k S ∧ Fact.Fr 77 fr ∧ fr.tmps[0]? = some (.pointer (some ⟨g, 0, none⟩)) ∧ fr.tmps[4]? = some (.slice none 0 0) ∧ fr.tmps[6]? = some (.map (some w1.heap.size)) ∧ fr.tmps[9]? = some (.string o) ∧ wr.ownsMap Try.prog 5 (plainElem Try.prog 32) w1.heap.size q.size (Dq q k S q.size) ∧ Below w.heap.size w wr ∧ W3.heap.size ≤ wr.heap.size) ?_ ?_
 · (
 refine wp_seq_k (fun K12 hK12 => ?_)
 refine Fact.region ?_
 refine Fact.p rfl fun K hK => ?_
 go_simp
 refine hK.out _ _ ?_; clear hK K
 refine Fact.nil ?_
 refine Fact.q hf (by simp only [Fact.G]) rfl fun fr1 hf1 hT => ?_
 have hKp : _ ∧ _ ∧ _ ∧ _ ∧ _ ∧ _ := ⟨hT 0, hT 1, hT 4, hT 6, hT 9, hT 37⟩
 simp only [Fact.G, Nat.reduceEqDiff, Nat.reduceLT, hf.size, reduceIte, s0, s1, s4, s6, s9] at hKp
 clear hT hf s0 s1 s4 s6 s9
 obtain ⟨s0, s1, s4, s6, s9, s37⟩ := hKp
 have hf := hf1; clear hf1
 refine Fact.nx (hK12 _ _ ?_)
 refine wp_block ?_
 refine wp_loop_ghost (fun g2 fr wr2 => ∃ (b : Nat), g2 = 256 - b ∧ b ≤ 256 ∧ (∀ c, c < b → inQ q c = true) ∧ Fact.Fr 77 fr ∧ fr.tmps[0]? = some (.pointer (some ⟨g, 0, none⟩)) ∧ fr.tmps[1]? = some (.string S) ∧ fr.tmps[4]? = some (.slice none 0 0) ∧ fr.tmps[6]? = some (.map (some w1.heap.size)) ∧ fr.tmps[9]? = some (.string ⟨#[]⟩) ∧ fr.tmps[37]? = some (.int .i64 b) ∧ wr2 = wr) (256) ?_ ?_
 · (
 exact ⟨0, rfl, Nat.zero_le _, fun c hc => absurd hc (Nat.not_lt_zero _), hf, s0, s1, s4, s6, s9, s37, rfl⟩)
 · (
 clear hf s0 s1 s4 s6 s9 s37
 rintro g2 fr wr2 ⟨b, hk2, hbl, hall, hf, s0, s1, s4, s6, s9, s37, rfl⟩
 have HK2 := Lib.hid hk2; have HALL := Lib.hid hall; clear hk2 hall
 refine wp_seq_k (fun K13 hK13 => ?_)
 refine Fact.region ?_
 refine Fact.p rfl fun K hK => ?_
 go_simp
 refine hK.out _ _ ?_; clear hK K
 refine Fact.nil ?_
 refine Fact.q hf (by simp only [Fact.G]) rfl fun fr1 hf1 hT => ?_
 have hKp : _ ∧ _ ∧ _ ∧ _ ∧ _ ∧ _ ∧ _ := ⟨hT 0, hT 1, hT 4, hT 6, hT 9, hT 37, hT 38⟩
 simp only [Fact.G, Nat.reduceEqDiff, Nat.reduceLT, hf.size, reduceIte, s0, s1, s4, s6, s9, s37] at hKp
 clear hT hf s0 s1 s4 s6 s9 s37
 obtain ⟨s0, s1, s4, s6, s9, s37, s38⟩ := hKp
 have hf := hf1; clear hf1
 refine Fact.nx (hK13 _ _ ?_)
 refine wp_seq_k (fun K14 hK14 => ?_)
 refine Fact.cond_s s38 (fun hq2 => ?_) (fun hq2 => ?_)
 · (
 have hbt : b < 256 := by have h9 := of_decide_eq_true hq2; omega
 have e8 : IntKind.u8.wrap (b : Int) = (b : Int) := Fact.wrap_u8 (by omega) (by omega)
 rcases hin : inQ q b with _ | _
 · (
 obtain ⟨x0, hl0⟩ := look_out hm hbt (fun h => by rw [(inQ_iff q b).2 h] at hin; cases hin)
 have haw : stepS q k S b = awayS q k S := by rw [awayS, outB_some hbt hin (fun c hc => HALL.out c hc)]
 refine wp_skip ?_
 refine Fact.nx (hK14 _ _ ?_)
 refine wp_seq_k (fun K15 hK15 => ?_)
 refine wp_block ?_
 refine wp_seq_k (fun K16 hK16 => ?_)
 refine Fact.region ?_
 have b39 := hf.l 39 rfl
 refine Fact.p rfl fun K hK => ?_
 go_simp
 refine hK.out _ _ ?_; clear hK K
 refine Fact.p rfl fun K hK => ?_
 go_simp
 refine hK.out _ _ ?_; clear hK K
 refine Fact.nil ?_
 refine Fact.q hf (by simp only [Fact.G]) rfl fun fr1 hf1 hT => ?_
 have hKp : _ ∧ _ ∧ _ ∧ _ ∧ _ ∧ _ ∧ _ ∧ _ ∧ _ := ⟨hT 0, hT 1, hT 4, hT 6, hT 9, hT 10, hT 37, hT 38, hT 39⟩
 simp only [Fact.G, Nat.reduceEqDiff, Nat.reduceLT, hf.size, reduceIte, s0, s1, s4, s6, s9, s37, s38] at hKp
 clear hT hf s0 s1 s4 s6 s9 s37 s38 b39
 obtain ⟨s0, s1, s4, s6, s9, s10, s37, s38, s39⟩ := hKp
 have hf := hf1; clear hf1
 refine Fact.nx (hK16 _ _ ?_)
 refine wp_seq_k (fun K17 hK17 => ?_)
 refine Fact.region ?_
 have b41 := hf.l 41 rfl
 have b42 := hf.l 42 rfl
 have b43 := hf.l 43 rfl
 have b44 := hf.l 44 rfl
 have b40 := hf.l 40 rfl
 have b45 := hf.l 45 rfl
 have b46 := hf.l 46 rfl
 refine Fact.p rfl fun K hK => ?_
 go_simp
 refine hK.out _ _ ?_; clear hK K
 refine Fact.p rfl fun K hK => ?_
 go_simp
 refine hK.out _ _ ?_; clear hK K
 refine Fact.p rfl fun K hK => ?_
 go_simp
 refine hK.out _ _ ?_; clear hK K
 refine Fact.p rfl fun K hK => ?_
 go_simp
 refine hK.out _ _ ?_; clear hK K
 refine Fact.p rfl fun K hK => ?_
 go_simp
 refine hK.out _ _ ?_; clear hK K
 refine Fact.p rfl fun K hK => ?_
 go_simp
 refine hK.out _ _ ?_; clear hK K
 refine Fact.p rfl fun K hK => ?_
 go_simp
 refine hK.out _ _ ?_; clear hK K
 refine Fact.p rfl fun K hK => ?_
 go_simp
 refine hK.out _ _ ?_; clear hK K
 refine Fact.p rfl fun K hK => ?_
 go_simp
 refine hK.out _ _ ?_; clear hK K
 refine Fact.nil ?_
 refine Fact.q hf (by simp only [Fact.G]) rfl fun fr1 hf1 hT => ?_
 have hKp : _ ∧ _ ∧ _ ∧ _ ∧ _ ∧ _ ∧ _ ∧ _ ∧ _ ∧ _ ∧ _ ∧ _ ∧ _ ∧ _ ∧ _ ∧ _ ∧ _ := ⟨hT 0, hT 1, hT 4, hT 6, hT 9, hT 10, hT 12, hT 37, hT 38, hT 39, hT 40, hT 41, hT 42, hT 43, hT 44, hT 45, hT 46⟩
 simp only [Fact.G, Nat.reduceEqDiff, Nat.reduceLT, hf.size, reduceIte, s0, s1, s4, s6, s9, s10, s37, s38, s39] at hKp
 clear hT hf s0 s1 s4 s6 s9 s10 s37 s38 s39 b41 b42 b43 b44 b40 b45 b46
 obtain ⟨s0, s1, s4, s6, s9, s10, s12, s37, s38, s39, s40, s41, s42, s43, s44, s45, s46⟩ := hKp
 have hf := hf1; clear hf1
 refine Fact.nx (hK17 _ _ ?_)
 refine wp_seq_k (fun K18 hK18 => ?_)
 refine Fact.region ?_
 have b47 := hf.l 47 rfl
 refine Fact.p rfl fun K hK => ?_
 go_simp
 refine hK.out _ _ ?_; clear hK K
 refine Fact.p rfl fun K hK => ?_
 go_simp
 refine hK.out _ _ ?_; clear hK K
 refine Fact.nil ?_
 refine Fact.q hf (by simp only [Fact.G]) rfl fun fr1 hf1 hT => ?_
 have hKp : _ ∧ _ ∧ _ ∧ _ ∧ _ ∧ _ ∧ _ ∧ _ ∧ _ ∧ _ ∧ _ ∧ _ ∧ _ ∧ _ ∧ _ ∧ _ ∧ _ ∧ _ ∧ _ := ⟨hT 0, hT 1, hT 4, hT 6, hT 9, hT 10, hT 12, hT 37, hT 38, hT 39, hT 40, hT 41, hT 42, hT 43, hT 44, hT 45, hT 46, hT 47, hT 48⟩
 simp only [Fact.G, Nat.reduceEqDiff, Nat.reduceLT, hf.size, reduceIte, s0, s1, s4, s6, s9, s10, s12, s37, s38, s39, s40, s41, s42, s43, s44, s45, s46] at hKp
 clear hT hf s0 s1 s4 s6 s9 s10 s12 s37 s38 s39 s40 s41 s42 s43 s44 s45 s46 b47
 obtain ⟨s0, s1, s4, s6, s9, s10, s12, s37, s38, s39, s40, s41, s42, s43, s44, s45, s46, s47, s48⟩ := hKp
 have hf := hf1; clear hf1
 refine Fact.nx (hK18 _ _ ?_)
 try simp only [Bool.not_false] at s48
 refine Fact.cond_t s48 ?_
 refine wp_seq_k (fun K19 hK19 => ?_)
 refine Fact.region ?_
 have b49 := hf.l 49 rfl
 have b50 := hf.l 50 rfl
 have b51 := hf.l 51 rfl
 have b52 := hf.l 52 rfl
 have b53 := hf.l 53 rfl
 refine Fact.p rfl fun K hK => ?_
 go_simp
 refine hK.out _ _ ?_; clear hK K
 refine Fact.p rfl fun K hK => ?_
 go_simp
 refine hK.out _ _ ?_; clear hK K
 refine Fact.p rfl fun K hK => ?_
 go_simp
 refine hK.out _ _ ?_; clear hK K
 refine Fact.p rfl fun K hK => ?_
 go_simp
 refine hK.out _ _ ?_; clear hK K
 refine Fact.p rfl fun K hK => ?_
 go_simp
 go_at_call 16; refine (step16 wr2 g q k (hA.later hb) S b).mono ?_; rintro e w4 ⟨rfl, hb4⟩
 dsimp only
 refine hK.out _ _ ?_; clear hK K
 refine Fact.p rfl fun K hK => ?_
 go_simp
 refine hK.out _ _ ?_; clear hK K
 refine Fact.nil ?_
 refine Fact.q hf (by simp only [Fact.G]) rfl fun fr1 hf1 hT => ?_
 have hKp : _ ∧ _ ∧ _ ∧ _ ∧ _ ∧ _ ∧ _ ∧ _ ∧ _ ∧ _ ∧ _ ∧ _ ∧ _ ∧ _ ∧ _ ∧ _ ∧ _ ∧ _ ∧ _ ∧ _ ∧ _ ∧ _ ∧ _ ∧ _ := ⟨hT 0, hT 1, hT 4, hT 6, hT 9, hT 10, hT 12, hT 37, hT 38, hT 39, hT 40, hT 41, hT 42, hT 43, hT 44, hT 45, hT 46, hT 47, hT 48, hT 49, hT 50, hT 51, hT 52, hT 53⟩
 simp only [Fact.G, Nat.reduceEqDiff, Nat.reduceLT, hf.size, reduceIte, s0, s1, s4, s6, s10, s12, s37, s38, s39, s40, s41, s42, s43, s44, s45, s46, s47, s48] at hKp
 clear hT hf s0 s1 s4 s6 s9 s10 s12 s37 s38 s39 s40 s41 s42 s43 s44 s45 s46 s47 s48 b49 b50 b51 b52 b53
 obtain ⟨s0, s1, s4, s6, s9, s10, s12, s37, s38, s39, s40, s41, s42, s43, s44, s45, s46, s47, s48, s49, s50, s51, s52, s53⟩ := hKp
 have hf := hf1; clear hf1
 refine Fact.nx (hK19 _ _ ?_)
 refine wp_exit ?_
 refine Fact.block_other (by decide) ?_
 refine Fact.then_exit ?_
 refine Fact.then_exit ?_
 refine Fact.block_exit ?_
 refine Fact.then_normal ?_
 exact ⟨_, rfl, hf, s0, s4, s6, s9, map_later hm hb4, hb.trans (hb4.mono hb.size), Nat.le_trans hsz hb4.size⟩)
 · (
 have hl0 := look_in hm hbt ((inQ_iff q b).1 hin)
 refine wp_skip ?_
 refine Fact.nx (hK14 _ _ ?_)
 refine wp_seq_k (fun K20 hK20 => ?_)
 refine wp_block ?_
 refine wp_seq_k (fun K21 hK21 => ?_)
 refine Fact.region ?_
 have b39 := hf.l 39 rfl
 refine Fact.p rfl fun K hK => ?_
 go_simp
 refine hK.out _ _ ?_; clear hK K
 refine Fact.p rfl fun K hK => ?_
 go_simp
 refine hK.out _ _ ?_; clear hK K
 refine Fact.nil ?_
 refine Fact.q hf (by simp only [Fact.G]) rfl fun fr1 hf1 hT => ?_
 have hKp : _ ∧ _ ∧ _ ∧ _ ∧ _ ∧ _ ∧ _ ∧ _ ∧ _ := ⟨hT 0, hT 1, hT 4, hT 6, hT 9, hT 10, hT 37, hT 38, hT 39⟩
 simp only [Fact.G, Nat.reduceEqDiff, Nat.reduceLT, hf.size, reduceIte, s0, s1, s4, s6, s9, s37, s38] at hKp
 clear hT hf s0 s1 s4 s6 s9 s37 s38 b39
 obtain ⟨s0, s1, s4, s6, s9, s10, s37, s38, s39⟩ := hKp
 have hf := hf1; clear hf1
 refine Fact.nx (hK21 _ _ ?_)
 refine wp_seq_k (fun K22 hK22 => ?_)
 refine Fact.region ?_
 have b41 := hf.l 41 rfl
 have b42 := hf.l 42 rfl
 have b43 := hf.l 43 rfl
 have b44 := hf.l 44 rfl
 have b40 := hf.l 40 rfl
 have b45 := hf.l 45 rfl
 have b46 := hf.l 46 rfl
 refine Fact.p rfl fun K hK => ?_
 go_simp
 refine hK.out _ _ ?_; clear hK K
 refine Fact.p rfl fun K hK => ?_
 go_simp
 refine hK.out _ _ ?_; clear hK K
 refine Fact.p rfl fun K hK => ?_
 go_simp
 refine hK.out _ _ ?_; clear hK K
 refine Fact.p rfl fun K hK => ?_
 go_simp
 refine hK.out _ _ ?_; clear hK K
 refine Fact.p rfl fun K hK => ?_
 go_simp
 refine hK.out _ _ ?_; clear hK K
 refine Fact.p rfl fun K hK => ?_
 go_simp
 refine hK.out _ _ ?_; clear hK K
 refine Fact.p rfl fun K hK => ?_
 go_simp
 refine hK.out _ _ ?_; clear hK K
 refine Fact.p rfl fun K hK => ?_
 go_simp
 refine hK.out _ _ ?_; clear hK K
 refine Fact.p rfl fun K hK => ?_
 go_simp
 refine hK.out _ _ ?_; clear hK K
 refine Fact.nil ?_
 refine Fact.q hf (by simp only [Fact.G]) rfl fun fr1 hf1 hT => ?_
 have hKp : _ ∧ _ ∧ _ ∧ _ ∧ _ ∧ _ ∧ _ ∧ _ ∧ _ ∧ _ ∧ _ ∧ _ ∧ _ ∧ _ ∧ _ ∧ _ ∧ _ := ⟨hT 0, hT 1, hT 4, hT 6, hT 9, hT 10, hT 12, hT 37, hT 38, hT 39, hT 40, hT 41, hT 42, hT 43, hT 44, hT 45, hT 46⟩
 simp only [Fact.G, Nat.reduceEqDiff, Nat.reduceLT, hf.size, reduceIte, s0, s1, s4, s6, s9, s10, s37, s38, s39] at hKp
 clear hT hf s0 s1 s4 s6 s9 s10 s37 s38 s39 b41 b42 b43 b44 b40 b45 b46
 obtain ⟨s0, s1, s4, s6, s9, s10, s12, s37, s38, s39, s40, s41, s42, s43, s44, s45, s46⟩ := hKp
 have hf := hf1; clear hf1
 refine Fact.nx (hK22 _ _ ?_)
 refine wp_seq_k (fun K23 hK23 => ?_)
 refine Fact.region ?_
 have b47 := hf.l 47 rfl
 refine Fact.p rfl fun K hK => ?_
 go_simp
 refine hK.out _ _ ?_; clear hK K
 refine Fact.p rfl fun K hK => ?_
 go_simp
 refine hK.out _ _ ?_; clear hK K
 refine Fact.nil ?_
 refine Fact.q hf (by simp only [Fact.G]) rfl fun fr1 hf1 hT => ?_
 have hKp : _ ∧ _ ∧ _ ∧ _ ∧ _ ∧ _ ∧ _ ∧ _ ∧ _ ∧ _ ∧ _ ∧ _ ∧ _ ∧ _ ∧ _ ∧ _ ∧ _ ∧ _ ∧ _ := ⟨hT 0, hT 1, hT 4, hT 6, hT 9, hT 10, hT 12, hT 37, hT 38, hT 39, hT 40, hT 41, hT 42, hT 43, hT 44, hT 45, hT 46, hT 47, hT 48⟩
 simp only [Fact.G, Nat.reduceEqDiff, Nat.reduceLT, hf.size, reduceIte, s0, s1, s4, s6, s9, s10, s12, s37, s38, s39, s40, s41, s42, s43, s44, s45, s46] at hKp
 clear hT hf s0 s1 s4 s6 s9 s10 s12 s37 s38 s39 s40 s41 s42 s43 s44 s45 s46 b47
 obtain ⟨s0, s1, s4, s6, s9, s10, s12, s37, s38, s39, s40, s41, s42, s43, s44, s45, s46, s47, s48⟩ := hKp
 have hf := hf1; clear hf1
 refine Fact.nx (hK23 _ _ ?_)
 try simp only [Bool.not_true] at s48
 refine Fact.cond_f s48 ?_
 refine wp_skip ?_
 refine Fact.block_normal ?_
 refine Fact.nx (hK20 _ _ ?_)
 refine Fact.region ?_
 have b54 := hf.l 54 rfl
 refine Fact.p rfl fun K hK => ?_
 go_simp
 try simp (disch := omega) only [Fact.wrap_i64, Fact.wrap_u8, Fact.wrap_u32, Fact.wrap_u64]
 refine hK.out _ _ ?_; clear hK K
 refine Fact.p rfl fun K hK => ?_
 go_simp
 refine hK.out _ _ ?_; clear hK K
 refine Fact.nil ?_
 refine Fact.q hf (by simp only [Fact.G]) rfl fun fr1 hf1 hT => ?_
 have hKp : _ ∧ _ ∧ _ ∧ _ ∧ _ ∧ _ ∧ _ ∧ _ ∧ _ ∧ _ ∧ _ ∧ _ ∧ _ ∧ _ ∧ _ ∧ _ ∧ _ ∧ _ ∧ _ ∧ _ := ⟨hT 0, hT 1, hT 4, hT 6, hT 9, hT 10, hT 12, hT 37, hT 38, hT 39, hT 40, hT 41, hT 42, hT 43, hT 44, hT 45, hT 46, hT 47, hT 48, hT 54⟩
 simp only [Fact.G, Nat.reduceEqDiff, Nat.reduceLT, hf.size, reduceIte, s0, s1, s4, s6, s9, s10, s12, s38, s39, s40, s41, s42, s43, s44, s45, s46, s47, s48] at hKp
 clear hT hf s0 s1 s4 s6 s9 s10 s12 s37 s38 s39 s40 s41 s42 s43 s44 s45 s46 s47 s48 b54
 obtain ⟨s0, s1, s4, s6, s9, s10, s12, s37, s38, s39, s40, s41, s42, s43, s44, s45, s46, s47, s48, s54⟩ := hKp
 have hf := hf1; clear hf1
 refine Fact.then_normal ?_
 exact ⟨_, by have := HK2.out; omega, b + 1, rfl, by omega, all_step HALL.out hin, hf, s0, s1, s4, s6, s9, s37, rfl⟩))
 · (
 have hbe : b = 256 := by have h9 := of_decide_eq_false hq2; omega
 have haw : (⟨#[]⟩ : ByteArray) = awayS q k S := by rw [awayS, outB_none (fun c hc => HALL.out c (by omega))]
 refine wp_exit ?_
 refine Fact.then_exit ?_
 refine Fact.then_exit ?_
 refine Fact.block_exit ?_
 refine Fact.then_normal ?_
 exact ⟨_, haw, hf, s0, s4, s6, s9, hm, hb, hsz⟩)))
 · (
 clear hf s0 s1 s4 s6 s9
 rintro fr wr0 ⟨o, ho, hf, s0, s4, s6, s9, hm, hb, hsz⟩
 have HO := Lib.hid ho; clear ho
 clear hrow
 obtain ⟨W6, hW6⟩ : ∃ W6, wr0.alloc (.cells #[.map (some w1.heap.size)] 67) = W6 := ⟨_, rfl⟩
 have hb6 : Below wr0.heap.size wr0 W6 := by rw [← hW6]; exact (Below.refl _ _).alloc (Nat.le_refl _) _
 have hm6 := map_later hm hb6
 have hc6 : W6.cell? ⟨wr0.heap.size, 0, none⟩ = some (.map (some w1.heap.size)) := by rw [← hW6]; exact cell_of_row _ _ 0 _ 67 (0, 0) (heap_alloc_new wr0 _)
 refine wp_seq_k (fun K24 hK24 => ?_)
 refine wp_seq_k (fun K25 hK25 => ?_)
 refine Fact.region ?_
 have b55 := hf.l 55 rfl
 have b56 := hf.l 56 rfl
 have b57 := hf.l 57 rfl
 refine Fact.p rfl fun K hK => ?_
 go_simp
 refine hK.out _ _ ?_; clear hK K
 refine Fact.p rfl fun K hK => ?_
 go_simp
 go_at_call 41; refine (keys41 w1.heap.size wr0).mono ?_; rintro e w6 ⟨rfl, rfl⟩
 rw [hW6]
 dsimp only
 refine hK.out _ _ ?_; clear hK K
 refine Fact.p rfl fun K hK => ?_
 go_simp
 go_at_call 40; refine (sorted40 wr0.heap.size w1.heap.size q.size (Dq q k S q.size) W6 (Nat.le_trans hm6.size_le (by omega)) hc6 hm6).mono ?_; rintro e w7 ⟨v7, ys, rfl, hko, hyl, hris, hrd, hb7⟩
 obtain ⟨A7, c7, rfl, hcl⟩ := hrd.at_
 have hm7 := map_later hm6 hb7
 dsimp only
 refine hK.out _ _ ?_; clear hK K
 refine Fact.p rfl fun K hK => ?_
 go_simp
 refine hK.out _ _ ?_; clear hK K
 refine Fact.p rfl fun K hK => ?_
 go_simp
 refine hK.out _ _ ?_; clear hK K
 refine Fact.nil ?_
 refine Fact.q hf (by simp only [Fact.G]) rfl fun fr1 hf1 hT => ?_
 have hKp : _ ∧ _ ∧ _ ∧ _ ∧ _ ∧ _ ∧ _ := ⟨hT 0, hT 4, hT 6, hT 9, hT 57, hT 58, hT 59⟩
 simp only [Fact.G, Nat.reduceEqDiff, Nat.reduceLT, hf.size, reduceIte, s0, s4, s6, s9] at hKp
 clear hT hf s0 s4 s6 s9 b55 b56 b57
 obtain ⟨s0, s4, s6, s9, s57, s58, s59⟩ := hKp
 have hf := hf1; clear hf1
 refine Fact.nx (hK25 _ _ ?_)
 refine wp_block ?_
 have hs6 := hb6.size; have hs7 := hb7.size
 have hb07 : Below w.heap.size w w7 := (hb.trans (hb6.mono hb.size)).trans (hb7.mono (by have := hb.size; omega))
 have HKO := Lib.hid hko; have HRIS := Lib.hid hris; clear hko hris
 refine wp_loop_ghost (fun g3 fr wr3 => ∃ (i : Nat) (v4 : Value), g3 = ys.length - i ∧ i ≤ ys.length ∧ Fact.Fr 77 fr ∧ fr.tmps[0]? = some (.pointer (some ⟨g, 0, none⟩)) ∧ fr.tmps[4]? = some v4 ∧ fr.tmps[6]? = some (.map (some w1.heap.size)) ∧ fr.tmps[9]? = some (.string o) ∧ fr.tmps[57]? = some (.slice A7 ys.length c7) ∧ fr.tmps[58]? = some (.int .i64 ys.length) ∧ fr.tmps[59]? = some (.int .i64 i) ∧ OZ wr3 w7.heap.size v4 ((ys.take i).filter (fun x => decide (stepS q k S x.toNat ≠ o))) ∧ Below w7.heap.size w7 wr3) (ys.length) ?_ ?_
 · (
 exact ⟨0, _, rfl, Nat.zero_le _, hf, s0, s4, s6, s9, s57, s58, s59, World.ownsRow_nil _ _ _ _, Below.refl _ _⟩)
 · (
 clear hf s0 s4 s6 s9 s57 s58 s59
 rintro g3 fr wr3 ⟨i, v4, hk3, hi, hf, s0, s4, s6, s9, s57, s58, s59, hown, hb8⟩
 have HK3 := Lib.hid hk3; have HOW := Lib.hid hown; clear hk3 hown
 refine wp_seq_k (fun K26 hK26 => ?_)
 refine Fact.region ?_
 refine Fact.p rfl fun K hK => ?_
 go_simp
 refine hK.out _ _ ?_; clear hK K
 refine Fact.nil ?_
 refine Fact.q hf (by simp only [Fact.G]) rfl fun fr1 hf1 hT => ?_
 have hKp : _ ∧ _ ∧ _ ∧ _ ∧ _ ∧ _ ∧ _ ∧ _ := ⟨hT 0, hT 4, hT 6, hT 9, hT 57, hT 58, hT 59, hT 60⟩
 simp only [Fact.G, Nat.reduceEqDiff, Nat.reduceLT, hf.size, reduceIte, s0, s4, s6, s9, s57, s58, s59] at hKp
 clear hT hf s0 s4 s6 s9 s57 s58 s59
 obtain ⟨s0, s4, s6, s9, s57, s58, s59, s60⟩ := hKp
 have hf := hf1; clear hf1
 refine Fact.nx (hK26 _ _ ?_)
 refine wp_seq_k (fun K27 hK27 => ?_)
 refine Fact.cond_s s60 (fun hq3 => ?_) (fun hq3 => ?_)
 · (
 have hlt : i < ys.length := by have h9 := of_decide_eq_true hq3; omega
 obtain ⟨x, hx⟩ : ∃ x, ys[i]? = some x := ⟨_, List.getElem?_eq_getElem hlt⟩
 obtain ⟨g7, rfl, hc7⟩ := hcl i x hx
 replace hc7 := cell_later hb8 hc7
 obtain ⟨y, rfl, hy, hyi⟩ := key_of HKO.out hx
 have HX := Lib.hid hx; clear hx
 have hl8 := look_one (map_later hm7 hb8) hy hyi
 have hyn : ((y : Int)).toNat = y := by omega
 refine wp_skip ?_
 refine Fact.nx (hK27 _ _ ?_)
 refine wp_seq_k (fun K28 hK28 => ?_)
 refine wp_block ?_
 refine wp_seq_k (fun K29 hK29 => ?_)
 refine Fact.region ?_
 have b61 := hf.l 61 rfl
 have b62 := hf.l 62 rfl
 refine Fact.p rfl fun K hK => ?_
 go_simp
 try rw [if_pos (by omega)]
 refine hK.out _ _ ?_; clear hK K
 refine Fact.p rfl fun K hK => ?_
 go_simp
 refine hK.out _ _ ?_; clear hK K
 refine Fact.p rfl fun K hK => ?_
 go_simp
 refine hK.out _ _ ?_; clear hK K
 refine Fact.nil ?_
 refine Fact.q hf (by simp only [Fact.G]) rfl fun fr1 hf1 hT => ?_
 have hKp : _ ∧ _ ∧ _ ∧ _ ∧ _ ∧ _ ∧ _ ∧ _ ∧ _ ∧ _ ∧ _ := ⟨hT 0, hT 4, hT 6, hT 9, hT 14, hT 57, hT 58, hT 59, hT 60, hT 61, hT 62⟩
 simp only [Fact.G, Nat.reduceEqDiff, Nat.reduceLT, hf.size, reduceIte, s0, s4, s6, s9, s57, s58, s59, s60] at hKp
 clear hT hf s0 s4 s6 s9 s57 s58 s59 s60 b61 b62
 obtain ⟨s0, s4, s6, s9, s14, s57, s58, s59, s60, s61, s62⟩ := hKp
 have hf := hf1; clear hf1
 refine Fact.nx (hK29 _ _ ?_)
 refine wp_seq_k (fun K30 hK30 => ?_)
 refine Fact.region ?_
 have b63 := hf.l 63 rfl
 have b64 := hf.l 64 rfl
 have b65 := hf.l 65 rfl
 have b66 := hf.l 66 rfl
 refine Fact.p rfl fun K hK => ?_
 go_simp
 refine hK.out _ _ ?_; clear hK K
 refine Fact.p rfl fun K hK => ?_
 go_simp
 refine hK.out _ _ ?_; clear hK K
 refine Fact.p rfl fun K hK => ?_
 go_simp
 refine hK.out _ _ ?_; clear hK K
 refine Fact.p rfl fun K hK => ?_
 go_simp
 refine hK.out _ _ ?_; clear hK K
 refine Fact.p rfl fun K hK => ?_
 go_simp
 refine hK.out _ _ ?_; clear hK K
 refine Fact.nil ?_
 refine Fact.q hf (by simp only [Fact.G]) rfl fun fr1 hf1 hT => ?_
 have hKp : _ ∧ _ ∧ _ ∧ _ ∧ _ ∧ _ ∧ _ ∧ _ ∧ _ ∧ _ ∧ _ ∧ _ ∧ _ ∧ _ ∧ _ ∧ _ := ⟨hT 0, hT 4, hT 6, hT 9, hT 14, hT 57, hT 58, hT 59, hT 60, hT 61, hT 62, hT 63, hT 64, hT 65, hT 66, hT 67⟩
 simp only [Fact.G, Nat.reduceEqDiff, Nat.reduceLT, hf.size, reduceIte, s0, s4, s6, s9, s14, s57, s58, s59, s60, s61, s62] at hKp
 clear hT hf s0 s4 s6 s9 s14 s57 s58 s59 s60 s61 s62 b63 b64 b65 b66
 obtain ⟨s0, s4, s6, s9, s14, s57, s58, s59, s60, s61, s62, s63, s64, s65, s66, s67⟩ := hKp
 have hf := hf1; clear hf1
 refine Fact.nx (hK30 _ _ ?_)
 by_cases hne : stepS q k S y = o
 · (
 have e67 : (!((stepS q k S y).toList == o.toList)) = false := by rw [bytes_beq, decide_eq_true hne]; rfl
 rw [hne] at e67
 first | rw [e67] at s67 | (rw [hne] at s67; rw [e67] at s67)
 refine Fact.cond_f s67 ?_
 refine wp_skip ?_
 refine Fact.block_normal ?_
 refine Fact.nx (hK28 _ _ ?_)
 refine Fact.region ?_
 have b72 := hf.l 72 rfl
 refine Fact.p rfl fun K hK => ?_
 go_simp
 try simp (disch := omega) only [Fact.wrap_i64, Fact.wrap_u8, Fact.wrap_u32, Fact.wrap_u64]
 refine hK.out _ _ ?_; clear hK K
 refine Fact.p rfl fun K hK => ?_
 go_simp
 refine hK.out _ _ ?_; clear hK K
 refine Fact.nil ?_
 refine Fact.q hf (by simp only [Fact.G]) rfl fun fr1 hf1 hT => ?_
 have hKp : _ ∧ _ ∧ _ ∧ _ ∧ _ ∧ _ ∧ _ ∧ _ ∧ _ ∧ _ ∧ _ ∧ _ ∧ _ ∧ _ ∧ _ ∧ _ ∧ _ := ⟨hT 0, hT 4, hT 6, hT 9, hT 14, hT 57, hT 58, hT 59, hT 60, hT 61, hT 62, hT 63, hT 64, hT 65, hT 66, hT 67, hT 72⟩
 simp only [Fact.G, Nat.reduceEqDiff, Nat.reduceLT, hf.size, reduceIte, s0, s4, s6, s9, s14, s57, s58, s60, s61, s62, s63, s64, s65, s66, s67] at hKp
 clear hT hf s0 s4 s6 s9 s14 s57 s58 s59 s60 s61 s62 s63 s64 s65 s66 s67 b72
 obtain ⟨s0, s4, s6, s9, s14, s57, s58, s59, s60, s61, s62, s63, s64, s65, s66, s67, s72⟩ := hKp
 have hf := hf1; clear hf1
 refine Fact.then_normal ?_
 first
 | exact ⟨_, by have := HK3.out; omega, i + 1, v4, rfl, by omega, hf, s0, s4, s6, s9, s57, s58, s59, by rw [List.take_add_one, HX.out]; simp only [Option.toList_some, List.filter_append, List.filter_cons, List.filter_nil, hyn, hne, ne_eq, not_true_eq_false, decide_false, Bool.false_eq_true, if_false, List.append_nil]; exact HOW.out, hb8⟩
 | exact ⟨_, by have := HK3.out; omega, i + 1, v5, rfl, by omega, hf, s0, s4, s6, s9, s57, s58, s59, by rw [List.take_add_one, HX.out]; simp only [Option.toList_some, List.filter_append, List.filter_cons, List.filter_nil, hyn, hne, ne_eq, not_false_eq_true, decide_true, if_true]; exact hown5, hb8.trans hb5⟩)
 · (
 have e67 : (!((stepS q k S y).toList == o.toList)) = true := by rw [bytes_beq, decide_eq_false hne]; rfl
 rw [e67] at s67
 refine Fact.cond_t s67 ?_
 refine Fact.region ?_
 have b68 := hf.l 68 rfl
 have b69 := hf.l 69 rfl
 have b70 := hf.l 70 rfl
 have b71 := hf.l 71 rfl
 refine Fact.p rfl fun K hK => ?_
 go_simp
 refine hK.out _ _ ?_; clear hK K
 refine Fact.p rfl fun K hK => ?_
 go_simp
 refine hK.out _ _ ?_; clear hK K
 refine Fact.p rfl fun K hK => ?_
 go_simp
 refine hK.out _ _ ?_; clear hK K
 refine Fact.reL (n := 77) (by simp only [Fact.G, hf.size]) hf.defers (fun fr1 hf1 hT => ?_)
 have hKp : _ ∧ _ ∧ _ ∧ _ ∧ _ ∧ _ ∧ _ ∧ _ ∧ _ ∧ _ ∧ _ ∧ _ ∧ _ ∧ _ ∧ _ ∧ _ ∧ _ ∧ _ ∧ _ := ⟨hT 0, hT 4, hT 6, hT 9, hT 14, hT 57, hT 58, hT 59, hT 60, hT 61, hT 62, hT 63, hT 64, hT 65, hT 66, hT 67, hT 68, hT 69, hT 70⟩
 simp only [Fact.G, Nat.reduceEqDiff, Nat.reduceLT, hf.size, reduceIte, s0, s4, s6, s9, s14, s57, s58, s59, s60, s61, s62, s63, s64, s65, s66, s67] at hKp
 clear hT hf s0 s4 s6 s9 s14 s57 s58 s59 s60 s61 s62 s63 s64 s65 s66 s67 b68 b69 b70 b71
 obtain ⟨s0, s4, s6, s9, s14, s57, s58, s59, s60, s61, s62, s63, s64, s65, s66, s67, s68, s69, s70⟩ := hKp
 have hf := hf1; clear hf1
 have b71 := hf.l 71 rfl
 refine ⟨?_⟩
 refine wpList_app8z rfl _ _ rfl w7.heap.size v4 _ (Fact.eval_tmp s68) HOW.out _ (Fact.eval_tmp s70) rfl (by have := List.length_filter_le (fun x : Int => decide (stepS q k S x.toNat ≠ o)) (ys.take i); have := List.length_take_le i ys; omega) hb8.size ?_
 intro v5 w10 hown5 hg5 hb5
 refine Fact.L.out ?_
 refine Fact.p rfl fun K hK => ?_
 go_simp
 refine hK.out _ _ ?_; clear hK K
 refine Fact.nil ?_
 refine Fact.q hf (by simp only [Fact.G]) rfl fun fr1 hf1 hT => ?_
 have hKp : _ ∧ _ ∧ _ ∧ _ ∧ _ ∧ _ ∧ _ ∧ _ ∧ _ ∧ _ ∧ _ ∧ _ ∧ _ ∧ _ ∧ _ ∧ _ ∧ _ ∧ _ ∧ _ ∧ _ := ⟨hT 0, hT 4, hT 6, hT 9, hT 14, hT 57, hT 58, hT 59, hT 60, hT 61, hT 62, hT 63, hT 64, hT 65, hT 66, hT 67, hT 68, hT 69, hT 70, hT 71⟩
 simp only [Fact.G, Nat.reduceEqDiff, Nat.reduceLT, hf.size, reduceIte, s0, s6, s9, s14, s57, s58, s59, s60, s61, s62, s63, s64, s65, s66, s67, s68, s69, s70] at hKp
 clear hT hf s0 s4 s6 s9 s14 s57 s58 s59 s60 s61 s62 s63 s64 s65 s66 s67 s68 s69 s70 b71
 obtain ⟨s0, s4, s6, s9, s14, s57, s58, s59, s60, s61, s62, s63, s64, s65, s66, s67, s68, s69, s70, s71⟩ := hKp
 have hf := hf1; clear hf1
 refine Fact.block_normal ?_
 refine Fact.nx (hK28 _ _ ?_)
 refine Fact.region ?_
 have b72 := hf.l 72 rfl
 refine Fact.p rfl fun K hK => ?_
 go_simp
 try simp (disch := omega) only [Fact.wrap_i64, Fact.wrap_u8, Fact.wrap_u32, Fact.wrap_u64]
 refine hK.out _ _ ?_; clear hK K
 refine Fact.p rfl fun K hK => ?_
 go_simp
 refine hK.out _ _ ?_; clear hK K
 refine Fact.nil ?_
 refine Fact.q hf (by simp only [Fact.G]) rfl fun fr1 hf1 hT => ?_
 have hKp : _ ∧ _ ∧ _ ∧ _ ∧ _ ∧ _ ∧ _ ∧ _ ∧ _ ∧ _ ∧ _ ∧ _ ∧ _ ∧ _ ∧ _ ∧ _ ∧ _ ∧ _ ∧ _ ∧ _ ∧ _ := ⟨hT 0, hT 4, hT 6, hT 9, hT 14, hT 57, hT 58, hT 59, hT 60, hT 61, hT 62, hT 63, hT 64, hT 65, hT 66, hT 67, hT 68, hT 69, hT 70, hT 71, hT 72⟩
 simp only [Fact.G, Nat.reduceEqDiff, Nat.reduceLT, hf.size, reduceIte, s0, s4, s6, s9, s14, s57, s58, s60, s61, s62, s63, s64, s65, s66, s67, s68, s69, s70, s71] at hKp
 clear hT hf s0 s4 s6 s9 s14 s57 s58 s59 s60 s61 s62 s63 s64 s65 s66 s67 s68 s69 s70 s71 b72
 obtain ⟨s0, s4, s6, s9, s14, s57, s58, s59, s60, s61, s62, s63, s64, s65, s66, s67, s68, s69, s70, s71, s72⟩ := hKp
 have hf := hf1; clear hf1
 refine Fact.then_normal ?_
 first
 | exact ⟨_, by have := HK3.out; omega, i + 1, v4, rfl, by omega, hf, s0, s4, s6, s9, s57, s58, s59, by rw [List.take_add_one, HX.out]; simp only [Option.toList_some, List.filter_append, List.filter_cons, List.filter_nil, hyn, hne, ne_eq, not_true_eq_false, decide_false, Bool.false_eq_true, if_false, List.append_nil]; exact HOW.out, hb8⟩
 | exact ⟨_, by have := HK3.out; omega, i + 1, v5, rfl, by omega, hf, s0, s4, s6, s9, s57, s58, s59, by rw [List.take_add_one, HX.out]; simp only [Option.toList_some, List.filter_append, List.filter_cons, List.filter_nil, hyn, hne, ne_eq, not_false_eq_true, decide_true, if_true]; exact hown5, hb8.trans hb5⟩))
 · (
 have hie : i = ys.length := by have h9 := of_decide_eq_false hq3; omega
 subst hie
 refine wp_exit ?_
 refine Fact.then_exit ?_
 refine Fact.then_exit ?_
 refine Fact.block_exit ?_
 refine Fact.nx (hK24 _ _ ?_)
 refine wp_seq_k (fun K31 hK31 => ?_)
 refine Fact.region ?_
 have b73 := hf.l 73 rfl
 have b74 := hf.l 74 rfl
 have b75 := hf.l 75 rfl
 have b76 := hf.l 76 rfl
 refine Fact.p rfl fun K hK => ?_
 go_simp
 refine hK.out _ _ ?_; clear hK K
 refine Fact.p rfl fun K hK => ?_
 go_simp
 refine hK.out _ _ ?_; clear hK K
 refine Fact.p rfl fun K hK => ?_
 go_simp
 refine hK.out _ _ ?_; clear hK K
 refine Fact.p rfl fun K hK => ?_
 go_simp
 go_at_call 21; refine (can21 wr3 g q k (hA.later (hb07.trans (hb8.mono hb07.size))) o).mono ?_; rintro e w9 ⟨rfl, hb9⟩
 dsimp only
 refine hK.out _ _ ?_; clear hK K
 refine Fact.p rfl fun K hK => ?_
 go_simp
 refine hK.out _ _ ?_; clear hK K
 refine Fact.p rfl fun K hK => ?_
 go_simp
 refine hK.out _ _ ?_; clear hK K
 refine Fact.nil ?_
 refine Fact.q hf (by simp only [Fact.G]) rfl fun fr1 hf1 hT => ?_
 have hKp : _ ∧ _ := ⟨hT 4, hT 5⟩
 simp only [Fact.G, Nat.reduceEqDiff, Nat.reduceLT, hf.size, reduceIte] at hKp
 clear hT hf s0 s4 s6 s9 s57 s58 s59 s60 b73 b74 b75 b76
 obtain ⟨s4, s5⟩ := hKp
 have hf := hf1; clear hf1
 refine Fact.nx (hK31 _ _ ?_)
 refine wp_ret ?_
 have hown := HOW.out
 rw [List.take_length, HO.out, bytes_eq hok HKO.out HRIS.out] at hown
 exact Fact.ret2 rfl hf s4 s5 ⟨v4, by rw [moreS, hok, Bool.true_and, HO.out], own_less (own_later (OB.of hown) hb9) hb07.size, (hb07.trans (hb8.mono hb07.size)).trans (hb9.mono (by have := hb07.size; have := hb8.size; omega))⟩)))))
theorem bytes24 (w : World) (g : Nat) (q : ByteArray) (k : Nat) (hA : At w g q k) (S : ByteArray) : Calls Try.prog 24 #[.pointer (some ⟨g, 0, none⟩), .string S] w fun e w1 => ∃ v, e = .returned (.tuple #[v, .bool (moreS q k S)]) ∧ OB w1 w.heap.size v (bytesS q k S) ∧ Below w.heap.size w w1 := by
  cases h : okS q k S with
  | true => exact bytes24yes w g q k hA S h
  | false =>
    refine (bytes24no w g q k hA S h).mono ?_
    rintro e w1 ⟨rfl, hb⟩
    exact ⟨_, rfl, by rw [bytesS, h]; exact World.ownsRow_nil _ _ _ _, hb⟩

end Lv
end Go.Proofs.Ytfgfichkcckhiaa
