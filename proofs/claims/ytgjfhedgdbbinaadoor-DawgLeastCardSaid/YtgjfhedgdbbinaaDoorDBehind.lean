/- behind. -/
import Derived.Test.YtgjfhedgdbbinaaDoorDWords
import Derived.Test.YtgjfhedgdbbinaaDoorDNumb
import Derived.Test.YtgjfhedgdbbinaaDoorStav
import Derived.Test.YtgjfhedgdbbinaaDoorTools
namespace Go.Proofs.YtgjfhedgdbbinaaDoor
open Go.RowKit
set_option linter.unusedSimpArgs false
set_option linter.unusedVariables false
set_option linter.unnecessarySimpa false
namespace Dw

theorem pre_short {q : Ent} {h : ByteArray} (hs : q.word.size < h.size) : (wl h).isPrefixOf (wl q.word) = false := by
  rw [Bool.eq_false_iff]
  intro hp
  have := (List.isPrefixOf_iff_prefix.1 hp).length_le
  rw [wl_length, wl_length] at this
  omega
theorem pre_size {q : Ent} {h : ByteArray} (hp : (wl h).isPrefixOf (wl q.word) = true) : h.size ≤ q.word.size := by
  have := (List.isPrefixOf_iff_prefix.1 hp).length_le
  rwa [wl_length, wl_length] at this
theorem wl_extract (s : ByteArray) (i j : Nat) : wl (s.extract i j) = ((wl s).take j).drop i := by
  unfold wl
  rw [ByteArray.data_extract, Array.toList_extract, ← List.map_take, ← List.map_drop, List.drop_take]
theorem pre_long {q : Ent} {h : ByteArray} (hs : h.size ≤ q.word.size) : ((q.word.extract 0 h.size).toList == h.toList) = (wl h).isPrefixOf (wl q.word) := by
  rw [wl_eq_iff, wl_extract, List.drop_zero]
  have e : ∀ {x y : Bool}, (x = true ↔ y = true) → x = y := fun {x y} h => by cases x <;> cases y <;> simp_all
  refine e ?_
  rw [decide_eq_true_iff, List.isPrefixOf_iff_prefix, List.prefix_iff_eq_take, wl_length]
  exact eq_comm
theorem tail_cut {s : ByteArray} {n : Nat} : s.extract n s.size = tailB s n := by
  refine wl_inj ?_
  rw [wl_extract]
  unfold tailB
  rw [wl_bl (fun x hx => wl_lt _ x (List.mem_of_mem_drop hx)), List.take_of_length_le (by rw [wl_length]; omega)]
theorem headB_take {es : List Ent} {i : Nat} {q : Ent} (hi : es[i]? = some q) (h : ByteArray) : headB (es.take (i + 1)) h = headB (es.take i) h ++ if (wl h).isPrefixOf (wl q.word) = true then [q] else [] := by
  unfold headB
  rw [List.take_add_one, hi, Option.toList_some, List.filter_append]
  simp only [List.filter_cons, List.filter_nil]
theorem least_yes {es : List Ent} {i : Nat} {q : Ent} {h : ByteArray} (hi : es[i]? = some q) (hp : (wl h).isPrefixOf (wl q.word) = true) : leastH (es.take (i + 1)) h = min (leastH (es.take i) h) (valE q) := by
  unfold leastH
  rw [headB_take hi, if_pos hp, List.foldl_append]
  rfl
theorem least_no {es : List Ent} {i : Nat} {q : Ent} {h : ByteArray} (hi : es[i]? = some q) (hp : (wl h).isPrefixOf (wl q.word) = false) : leastH (es.take (i + 1)) h = leastH (es.take i) h := by
  unfold leastH
  rw [headB_take hi, if_neg (by rw [hp]; simp), List.append_nil]
theorem foldl_min_le (l : List Ent) : ∀ (n : Nat), l.foldl (fun n e => min n (valE e)) n ≤ n ∧ ∀ e ∈ l, l.foldl (fun n e => min n (valE e)) n ≤ valE e := by
  induction l with
  | nil => intro n; exact ⟨Nat.le_refl _, by simp⟩
  | cons x l ih =>
    intro n
    rw [List.foldl_cons]
    obtain ⟨h1, h2⟩ := ih (min n (valE x))
    refine ⟨by omega, fun e he => ?_⟩
    rcases List.mem_cons.1 he with rfl | he
    · omega
    · exact h2 e he
theorem leastH_le {es : List Ent} {q : Ent} {h : ByteArray} (hm : q ∈ es) (hp : (wl h).isPrefixOf (wl q.word) = true) (hq : okE q) : leastH es h ≤ valE q :=
  (foldl_min_le (headB es h) 1099511627776).2 q (List.mem_filter.2 ⟨hm, hp⟩)
def behP (es : List Ent) (h : ByteArray) (n j : Nat) : List Ent := (headB (es.take j) h).map fun e => ofE (tailB e.word h.size) (valE e - n)
theorem behP_end (es : List Ent) (h : ByteArray) : behP es h (leastH es h) es.length = behE es h := by unfold behP behE; rw [List.take_length]
theorem behP_yes {es : List Ent} {j n : Nat} {q : Ent} {h : ByteArray} (hi : es[j]? = some q) (hp : (wl h).isPrefixOf (wl q.word) = true) : behP es h n (j + 1) = behP es h n j ++ [ofE (tailB q.word h.size) (valE q - n)] := by
  unfold behP
  rw [headB_take hi, if_pos hp, List.map_append]
  rfl
theorem behP_no {es : List Ent} {j n : Nat} {q : Ent} {h : ByteArray} (hi : es[j]? = some q) (hp : (wl h).isPrefixOf (wl q.word) = false) : behP es h n (j + 1) = behP es h n j := by
  unfold behP
  rw [headB_take hi, if_neg (by rw [hp]; simp), List.append_nil]
theorem behP_length (es : List Ent) (h : ByteArray) (n j : Nat) : (behP es h n j).length ≤ es.length := by
  unfold behP headB
  rw [List.length_map]
  refine Nat.le_trans (List.length_filter_le _ _) ?_
  simp
  omega
theorem min_nat {a b : Nat} : (if (b : Int) < (a : Int) then (b : Int) else (a : Int)) = ((min a b : Nat) : Int) := by
  split <;> omega
def PBox (wr : World) : Stab.Pr := fun v w => ∃ b, v = .pointer (some ⟨b, 0, none⟩) ∧ wr.heap.size ≤ b ∧ w.heap[b]? = some (.cells #[.string ⟨#[]⟩, .int .u32 0, .bool false] 42 (0, 0))
theorem PBox.stable (wr : World) : Stab.Stable (PBox wr) := fun v w w' hb ⟨b, h1, h2, h3⟩ => ⟨b, h1, h2, (hb.block _ (heap_lt h3)).trans h3⟩
def PEnt (wr : World) (e : Ent) : Stab.Pr := fun v w => ∃ b, v = .pointer (some ⟨b, 0, none⟩) ∧ wr.heap.size ≤ b ∧ w.heap[b]? = some (.cells #[.string e.word, .int .u32 e.weight, .bool e.gone] 42 (0, 0))
theorem PEnt.stable (wr : World) (e : Ent) : Stab.Stable (PEnt wr e) := fun v w w' hb ⟨b, h1, h2, h3⟩ => ⟨b, h1, h2, (hb.block _ (heap_lt h3)).trans h3⟩
set_option maxHeartbeats 4000000 in
set_option maxRecDepth 100000 in
theorem behind35 (w : World) (es : List Ent) (B : Nat) (v : Value) (hB : B ≤ w.heap.size) (hre : RE w B v es) (hlen : es.length ≤ 1000) (hok : ∀ e ∈ es, okE e) (h : ByteArray) : Calls Tryd.prog 35 #[v, .string h] w fun e w1 => ∃ v1, e = .returned v1 ∧ OE w1 w.heap.size v1 (behE es h) ∧ Below w.heap.size w w1 := by
 refine calls_of_wp Tryd.func35 rfl ?_
 refine Fact.en 96 fun fr hf hT => ?_
 have s0 := hT 0 _ rfl
 have s1 := hT 1 _ rfl
 clear hT
 have hre0 := hre.any
 obtain ⟨A, cc, rfl, hcc⟩ := hre.form
 clear hre
 have HOK := Lib.hid hok; clear hok
 refine Fact.sq fun K1 hK1 => ?_
 refine rg ?_
 refine fp fun K Z => ?_
 go_simp
 apply Z.out; clear Z K
 refine Fact.z hf fun fr1 hf1 hT => ?_
 have hKp : _ ∧ _ := ⟨hT 0, hT 1⟩
 simp (decide := true) only [Fact.G, reduceIte, s0, s1] at hKp
 replace hf := hf1; clear hT hf1 s0 s1
 obtain ⟨s0, s1⟩ := hKp
 refine nx (hK1 _ _ ?_)
 refine Fact.sq fun K2 hK2 => ?_
 refine rg ?_
 refine fp fun K Z => ?_
 go_simp
 apply Z.out; clear Z K
 refine Fact.z hf fun fr1 hf1 hT => ?_
 have hKp : _ ∧ _ ∧ _ := ⟨hT 0, hT 1, hT 5⟩
 simp (decide := true) only [Fact.G, hf.size, reduceIte, s0, s1] at hKp
 replace hf := hf1; clear hT hf1 s0 s1
 obtain ⟨s0, s1, s5⟩ := hKp
 refine nx (hK2 _ _ ?_)
 refine Fact.sq fun K3 hK3 => ?_
 refine rg ?_
 refine fp fun K Z => ?_
 go_simp
 apply Z.out; clear Z K
 refine Fact.z hf fun fr1 hf1 hT => ?_
 have hKp : _ ∧ _ ∧ _ ∧ _ := ⟨hT 0, hT 1, hT 5, hT 6⟩
 simp (decide := true) only [Fact.G, hf.size, reduceIte, s0, s1, s5] at hKp
 replace hf := hf1; clear hT hf1 s0 s1 s5
 obtain ⟨s0, s1, s5, s6⟩ := hKp
 refine nx (hK3 _ _ ?_)
 refine Fact.sq fun K4 hK4 => ?_
 refine Fact.sq fun K5 hK5 => ?_
 refine rg ?_
 refine fp fun K Z => ?_
 go_simp
 apply Z.out; clear Z K
 refine Fact.z hf fun fr1 hf1 hT => ?_
 have hKp : _ ∧ _ ∧ _ ∧ _ ∧ _ := ⟨hT 0, hT 1, hT 5, hT 6, hT 7⟩
 simp (decide := true) only [Fact.G, hf.size, reduceIte, s0, s1, s5, s6] at hKp
 replace hf := hf1; clear hT hf1 s0 s1 s5 s6
 obtain ⟨s0, s1, s5, s6, s7⟩ := hKp
 refine nx (hK5 _ _ ?_)
 refine wp_block ?_
 refine wp_loop_ghost (fun gk fr wr => ∃ (i n : Nat), gk = es.length - i ∧ i ≤ es.length ∧ Fact.Fr 96 fr ∧ fr.tmps[0]? = some (.slice A es.length cc) ∧ fr.tmps[1]? = some (.string h) ∧ fr.tmps[5]? = some (.slice none 0 0) ∧ fr.tmps[6]? = some (.int .u64 n) ∧ fr.tmps[7]? = some (.int .i64 i) ∧ n = leastH (es.take i) h ∧ Below w.heap.size w wr) (es.length) ?_ ?_
 · (
 exact ⟨0, _, rfl, Nat.zero_le _, hf, s0, s1, s5, s6, s7, rfl, Below.refl _ _⟩)
 · (
 clear hf s0 s1 s5 s6 s7
 rintro gk fr wr ⟨i, n, hk, hi, hf, s0, s1, s5, s6, s7, hn, hb⟩
 have HK := Lib.hid hk; have HN := Lib.hid hn; clear hk hn
 refine Fact.sq fun K6 hK6 => ?_
 refine Fact.sq fun K7 hK7 => ?_
 refine rg ?_
 have b11 := hf.b 11
 have b12 := hf.b 12
 have b13 := hf.b 13
 refine fp fun K Z => ?_
 go_simp
 apply Z.out; clear Z K
 refine fp fun K Z => ?_
 go_simp
 apply Z.out; clear Z K
 refine fp fun K Z => ?_
 go_simp
 apply Z.out; clear Z K
 refine fp fun K Z => ?_
 go_simp
 apply Z.out; clear Z K
 refine Fact.z hf fun fr1 hf1 hT => ?_
 have hKp : _ ∧ _ ∧ _ ∧ _ ∧ _ ∧ _ := ⟨hT 0, hT 1, hT 5, hT 6, hT 7, hT 14⟩
 simp (decide := true) only [Fact.G, hf.size, reduceIte, s0, s1, s5, s6, s7] at hKp
 replace hf := hf1; clear hT hf1 s0 s1 s5 s6 s7 b11 b12 b13
 obtain ⟨s0, s1, s5, s6, s7, s14⟩ := hKp
 refine nx (hK7 _ _ ?_)
 refine Fact.cond_s s14 (fun hq => ?_) (fun hq => ?_)
 · (
 have hlt : i < es.length := by have h9 := of_decide_eq_true hq; omega
 have HQ := Lib.hid hq; clear hq
 obtain ⟨q, hiq⟩ : ∃ q, es[i]? = some q := ⟨_, List.getElem?_eq_getElem hlt⟩
 obtain ⟨b, off, rfl, _, _, d0, d1, d2⟩ := (hre0.below hb).at_ hiq
 have hokq := HOK.out q (List.mem_of_getElem? hiq)
 have HI := Lib.hid hiq; clear hiq
 refine wp_skip ?_
 refine nx (hK6 _ _ ?_)
 rcases Nat.lt_or_ge q.word.size h.size with hsh | hsh
 · (
 have q1 : decide (h.size ≤ q.word.size) = false := decide_eq_false (by omega)
 have hp := pre_short hsh
 have HP := Lib.hid hp; clear hp
 refine Fact.sq fun K8 hK8 => ?_
 refine wp_block ?_
 refine Fact.sq fun K9 hK9 => ?_
 refine rg ?_
 have b17 := hf.b 17
 have b18 := hf.b 18
 have b19 := hf.b 19
 have b20 := hf.b 20
 have b21 := hf.b 21
 have b22 := hf.b 22
 have b23 := hf.b 23
 have b24 := hf.b 24
 have b25 := hf.b 25
 have b26 := hf.b 26
 have b27 := hf.b 27
 have b28 := hf.b 28
 have b29 := hf.b 29
 have b30 := hf.b 30
 have b31 := hf.b 31
 have b32 := hf.b 32
 have b33 := hf.b 33
 have b34 := hf.b 34
 have b35 := hf.b 35
 have b36 := hf.b 36
 refine fp fun K Z => ?_
 go_simp
 apply Z.out; clear Z K
 refine fp fun K Z => ?_
 go_simp
 apply Z.out; clear Z K
 refine fp fun K Z => ?_
 go_simp
 try rw [if_pos (by omega)]
 apply Z.out; clear Z K
 refine fp fun K Z => ?_
 go_simp
 apply Z.out; clear Z K
 refine fp fun K Z => ?_
 go_simp
 apply Z.out; clear Z K
 refine fp fun K Z => ?_
 go_simp
 apply Z.out; clear Z K
 refine fp fun K Z => ?_
 go_simp
 apply Z.out; clear Z K
 refine fp fun K Z => ?_
 go_simp
 apply Z.out; clear Z K
 refine fp fun K Z => ?_
 go_simp
 apply Z.out; clear Z K
 refine fp fun K Z => ?_
 go_simp
 apply Z.out; clear Z K
 refine sk 9 26 true ?_ ?_
 · (
 simp (decide := true) only [Fact.G, reduceIte, hf.size, q1, Fact.N])
 refine sk 9 26 true ?_ ?_
 · (
 simp (decide := true) only [Fact.G, reduceIte, hf.size, q1, Fact.N])
 refine sk 9 26 true ?_ ?_
 · (
 simp (decide := true) only [Fact.G, reduceIte, hf.size, q1, Fact.N])
 refine sk 9 26 true ?_ ?_
 · (
 simp (decide := true) only [Fact.G, reduceIte, hf.size, q1, Fact.N])
 refine sk 9 26 true ?_ ?_
 · (
 simp (decide := true) only [Fact.G, reduceIte, hf.size, q1, Fact.N])
 refine sk 9 26 true ?_ ?_
 · (
 simp (decide := true) only [Fact.G, reduceIte, hf.size, q1, Fact.N])
 refine sk 9 26 true ?_ ?_
 · (
 simp (decide := true) only [Fact.G, reduceIte, hf.size, q1, Fact.N])
 refine sk 9 26 true ?_ ?_
 · (
 simp (decide := true) only [Fact.G, reduceIte, hf.size, q1, Fact.N])
 refine sk 9 26 true ?_ ?_
 · (
 simp (decide := true) only [Fact.G, reduceIte, hf.size, q1, Fact.N])
 refine sk 9 26 true ?_ ?_
 · (
 simp (decide := true) only [Fact.G, reduceIte, hf.size, q1, Fact.N])
 refine fp fun K Z => ?_
 go_simp
 apply Z.out; clear Z K
 refine Fact.z hf fun fr1 hf1 hT => ?_
 have hKp : _ ∧ _ ∧ _ ∧ _ ∧ _ ∧ _ := ⟨hT 0, hT 1, hT 5, hT 6, hT 7, hT 37⟩
 simp (decide := true) only [Fact.G, hf.size, reduceIte, s0, s1, s5, s6, s7] at hKp
 replace hf := hf1; clear hT hf1 s0 s1 s5 s6 s7 s14 b17 b18 b19 b20 b21 b22 b23 b24 b25 b26 b27 b28 b29 b30 b31 b32 b33 b34 b35 b36
 obtain ⟨s0, s1, s5, s6, s7, s37⟩ := hKp
 refine nx (hK9 _ _ ?_)
 refine Fact.cond_f s37 ?_
 clear q1
 have hst := least_no HI.out HP.out
 rw [← HN.out] at hst
 have HST := Lib.hid hst; clear hst
 have hb5 := Below.refl wr.heap.size wr
 obtain ⟨n2, hn2⟩ : ∃ n2, n = n2 := ⟨_, rfl⟩
 subst hn2
 refine wp_skip ?_
 refine Fact.block_normal ?_
 refine nx (hK8 _ _ ?_)
 refine rg ?_
 have b15 := hf.b 15
 have b16 := hf.b 16
 refine fp fun K Z => ?_
 go_simp
 apply Z.out; clear Z K
 refine fp fun K Z => ?_
 go_simp
 try simp (disch := omega) only [Fact.W]
 apply Z.out; clear Z K
 refine fp fun K Z => ?_
 go_simp
 apply Z.out; clear Z K
 refine Fact.z hf fun fr1 hf1 hT => ?_
 have hKp : _ ∧ _ ∧ _ ∧ _ ∧ _ := ⟨hT 0, hT 1, hT 5, hT 6, hT 7⟩
 simp (decide := true) only [Fact.G, hf.size, reduceIte, s0, s1, s5, s6] at hKp
 replace hf := hf1; clear hT hf1 s0 s1 s5 s6 s7 s37 b15 b16
 obtain ⟨s0, s1, s5, s6, s7⟩ := hKp
 refine Fact.then_normal ?_
 exact ⟨_, by have := HK.out; omega, i + 1, _, rfl, by omega, hf, s0, s1, s5, s6, by rw [s7]; rfl, HST.out.symm, hb.trans (hb5.mono hb.size)⟩)
 · (
 rcases Bool.eq_false_or_eq_true ((wl h).isPrefixOf (wl q.word)) with hpp | hpp
 · (
 have q1 : decide (h.size ≤ q.word.size) = true := decide_eq_true (by omega)
 have q2 : ((q.word.extract 0 h.size).toList == h.toList) = true := by rw [pre_long hsh]; exact hpp
 have hp := hpp
 have HP := Lib.hid hp; clear hp hpp
 refine Fact.sq fun K10 hK10 => ?_
 refine wp_block ?_
 refine Fact.sq fun K11 hK11 => ?_
 refine rg ?_
 have b17 := hf.b 17
 have b18 := hf.b 18
 have b19 := hf.b 19
 have b20 := hf.b 20
 have b21 := hf.b 21
 have b22 := hf.b 22
 have b23 := hf.b 23
 have b24 := hf.b 24
 have b25 := hf.b 25
 have b26 := hf.b 26
 have b27 := hf.b 27
 have b28 := hf.b 28
 have b29 := hf.b 29
 have b30 := hf.b 30
 have b31 := hf.b 31
 have b32 := hf.b 32
 have b33 := hf.b 33
 have b34 := hf.b 34
 have b35 := hf.b 35
 have b36 := hf.b 36
 refine fp fun K Z => ?_
 go_simp
 apply Z.out; clear Z K
 refine fp fun K Z => ?_
 go_simp
 apply Z.out; clear Z K
 refine fp fun K Z => ?_
 go_simp
 try rw [if_pos (by omega)]
 apply Z.out; clear Z K
 refine fp fun K Z => ?_
 go_simp
 apply Z.out; clear Z K
 refine fp fun K Z => ?_
 go_simp
 apply Z.out; clear Z K
 refine fp fun K Z => ?_
 go_simp
 apply Z.out; clear Z K
 refine fp fun K Z => ?_
 go_simp
 apply Z.out; clear Z K
 refine fp fun K Z => ?_
 go_simp
 apply Z.out; clear Z K
 refine fp fun K Z => ?_
 go_simp
 apply Z.out; clear Z K
 refine fp fun K Z => ?_
 go_simp
 apply Z.out; clear Z K
 refine og 9 26 true ?_ fun K Z => ?_
 · (
 simp (decide := true) only [Fact.G, reduceIte, hf.size, q1, q2, Fact.N])
 go_simp
 apply Z.out; clear Z K
 refine og 9 26 true ?_ fun K Z => ?_
 · (
 simp (decide := true) only [Fact.G, reduceIte, hf.size, q1, q2, Fact.N])
 go_simp
 apply Z.out; clear Z K
 refine og 9 26 true ?_ fun K Z => ?_
 · (
 simp (decide := true) only [Fact.G, reduceIte, hf.size, q1, q2, Fact.N])
 go_simp
 try rw [if_pos (by omega)]
 apply Z.out; clear Z K
 refine og 9 26 true ?_ fun K Z => ?_
 · (
 simp (decide := true) only [Fact.G, reduceIte, hf.size, q1, q2, Fact.N])
 go_simp
 apply Z.out; clear Z K
 refine og 9 26 true ?_ fun K Z => ?_
 · (
 simp (decide := true) only [Fact.G, reduceIte, hf.size, q1, q2, Fact.N])
 go_simp
 apply Z.out; clear Z K
 refine og 9 26 true ?_ fun K Z => ?_
 · (
 simp (decide := true) only [Fact.G, reduceIte, hf.size, q1, q2, Fact.N])
 go_simp
 apply Z.out; clear Z K
 refine og 9 26 true ?_ fun K Z => ?_
 · (
 simp (decide := true) only [Fact.G, reduceIte, hf.size, q1, q2, Fact.N])
 go_simp
 apply Z.out; clear Z K
 refine og 9 26 true ?_ fun K Z => ?_
 · (
 simp (decide := true) only [Fact.G, reduceIte, hf.size, q1, q2, Fact.N])
 go_simp
 try rw [if_pos (by omega)]
 apply Z.out; clear Z K
 refine og 9 26 true ?_ fun K Z => ?_
 · (
 simp (decide := true) only [Fact.G, reduceIte, hf.size, q1, q2, Fact.N])
 go_simp
 apply Z.out; clear Z K
 refine og 9 26 true ?_ fun K Z => ?_
 · (
 simp (decide := true) only [Fact.G, reduceIte, hf.size, q1, q2, Fact.N])
 go_simp
 apply Z.out; clear Z K
 refine fp fun K Z => ?_
 go_simp
 apply Z.out; clear Z K
 refine Fact.z hf fun fr1 hf1 hT => ?_
 have hKp : _ ∧ _ ∧ _ ∧ _ ∧ _ ∧ _ := ⟨hT 0, hT 1, hT 5, hT 6, hT 7, hT 37⟩
 simp (decide := true) only [Fact.G, hf.size, reduceIte, s0, s1, s5, s6, s7] at hKp
 replace hf := hf1; clear hT hf1 s0 s1 s5 s6 s7 s14 b17 b18 b19 b20 b21 b22 b23 b24 b25 b26 b27 b28 b29 b30 b31 b32 b33 b34 b35 b36
 obtain ⟨s0, s1, s5, s6, s7, s37⟩ := hKp
 refine nx (hK11 _ _ ?_)
 refine Fact.cond_t s37 ?_
 clear q1 q2
 have hst := least_yes HI.out HP.out
 rw [← HN.out] at hst
 obtain ⟨n2, hn2⟩ : ∃ n2, min n (valE q) = n2 := ⟨_, rfl⟩
 rw [hn2] at hst
 have HN2 := Lib.hid hn2; have HST := Lib.hid hst; clear hn2 hst
 refine rg ?_
 have b38 := hf.b 38
 have b39 := hf.b 39
 have b40 := hf.b 40
 have b41 := hf.b 41
 have b42 := hf.b 42
 have b43 := hf.b 43
 have b44 := hf.b 44
 refine fp fun K Z => ?_
 go_simp
 apply Z.out; clear Z K
 refine fp fun K Z => ?_
 go_simp
 apply Z.out; clear Z K
 refine fp fun K Z => ?_
 go_simp
 apply Z.out; clear Z K
 refine fp fun K Z => ?_
 go_simp
 try rw [if_pos (by omega)]
 apply Z.out; clear Z K
 refine fp fun K Z => ?_
 go_simp
 apply Z.out; clear Z K
 refine fp fun K Z => ?_
 go_simp
 go_at_call 16; refine (rvalue16 q hokq wr).mono ?_; rintro e w5 ⟨rfl, hb5⟩
 try dsimp only
 apply Z.out; clear Z K
 refine fp fun K Z => ?_
 go_simp
 rw [show min (n : Int) (valE q : Int) = ((min n (valE q) : Nat) : Int) by omega, HN2.out]
 apply Z.out; clear Z K
 refine fp fun K Z => ?_
 go_simp
 apply Z.out; clear Z K
 refine Fact.z hf fun fr1 hf1 hT => ?_
 have hKp : _ ∧ _ ∧ _ ∧ _ ∧ _ := ⟨hT 0, hT 1, hT 5, hT 6, hT 7⟩
 simp (decide := true) only [Fact.G, hf.size, reduceIte, s0, s1, s5, s7] at hKp
 replace hf := hf1; clear hT hf1 s0 s1 s5 s6 s7 s37 b38 b39 b40 b41 b42 b43 b44
 obtain ⟨s0, s1, s5, s6, s7⟩ := hKp
 refine Fact.block_normal ?_
 refine nx (hK10 _ _ ?_)
 refine rg ?_
 have b15 := hf.b 15
 have b16 := hf.b 16
 refine fp fun K Z => ?_
 go_simp
 apply Z.out; clear Z K
 refine fp fun K Z => ?_
 go_simp
 try simp (disch := omega) only [Fact.W]
 apply Z.out; clear Z K
 refine fp fun K Z => ?_
 go_simp
 apply Z.out; clear Z K
 refine Fact.z hf fun fr1 hf1 hT => ?_
 have hKp : _ ∧ _ ∧ _ ∧ _ ∧ _ := ⟨hT 0, hT 1, hT 5, hT 6, hT 7⟩
 simp (decide := true) only [Fact.G, hf.size, reduceIte, s0, s1, s5, s6] at hKp
 replace hf := hf1; clear hT hf1 s0 s1 s5 s6 s7 b15 b16
 obtain ⟨s0, s1, s5, s6, s7⟩ := hKp
 refine Fact.then_normal ?_
 exact ⟨_, by have := HK.out; omega, i + 1, _, rfl, by omega, hf, s0, s1, s5, s6, by rw [s7]; rfl, HST.out.symm, hb.trans (hb5.mono hb.size)⟩)
 · (
 have q1 : decide (h.size ≤ q.word.size) = true := decide_eq_true (by omega)
 have q2 : ((q.word.extract 0 h.size).toList == h.toList) = false := by rw [pre_long hsh]; exact hpp
 have hp := hpp
 have HP := Lib.hid hp; clear hp hpp
 refine Fact.sq fun K12 hK12 => ?_
 refine wp_block ?_
 refine Fact.sq fun K13 hK13 => ?_
 refine rg ?_
 have b17 := hf.b 17
 have b18 := hf.b 18
 have b19 := hf.b 19
 have b20 := hf.b 20
 have b21 := hf.b 21
 have b22 := hf.b 22
 have b23 := hf.b 23
 have b24 := hf.b 24
 have b25 := hf.b 25
 have b26 := hf.b 26
 have b27 := hf.b 27
 have b28 := hf.b 28
 have b29 := hf.b 29
 have b30 := hf.b 30
 have b31 := hf.b 31
 have b32 := hf.b 32
 have b33 := hf.b 33
 have b34 := hf.b 34
 have b35 := hf.b 35
 have b36 := hf.b 36
 refine fp fun K Z => ?_
 go_simp
 apply Z.out; clear Z K
 refine fp fun K Z => ?_
 go_simp
 apply Z.out; clear Z K
 refine fp fun K Z => ?_
 go_simp
 try rw [if_pos (by omega)]
 apply Z.out; clear Z K
 refine fp fun K Z => ?_
 go_simp
 apply Z.out; clear Z K
 refine fp fun K Z => ?_
 go_simp
 apply Z.out; clear Z K
 refine fp fun K Z => ?_
 go_simp
 apply Z.out; clear Z K
 refine fp fun K Z => ?_
 go_simp
 apply Z.out; clear Z K
 refine fp fun K Z => ?_
 go_simp
 apply Z.out; clear Z K
 refine fp fun K Z => ?_
 go_simp
 apply Z.out; clear Z K
 refine fp fun K Z => ?_
 go_simp
 apply Z.out; clear Z K
 refine og 9 26 true ?_ fun K Z => ?_
 · (
 simp (decide := true) only [Fact.G, reduceIte, hf.size, q1, q2, Fact.N])
 go_simp
 apply Z.out; clear Z K
 refine og 9 26 true ?_ fun K Z => ?_
 · (
 simp (decide := true) only [Fact.G, reduceIte, hf.size, q1, q2, Fact.N])
 go_simp
 apply Z.out; clear Z K
 refine og 9 26 true ?_ fun K Z => ?_
 · (
 simp (decide := true) only [Fact.G, reduceIte, hf.size, q1, q2, Fact.N])
 go_simp
 try rw [if_pos (by omega)]
 apply Z.out; clear Z K
 refine og 9 26 true ?_ fun K Z => ?_
 · (
 simp (decide := true) only [Fact.G, reduceIte, hf.size, q1, q2, Fact.N])
 go_simp
 apply Z.out; clear Z K
 refine og 9 26 true ?_ fun K Z => ?_
 · (
 simp (decide := true) only [Fact.G, reduceIte, hf.size, q1, q2, Fact.N])
 go_simp
 apply Z.out; clear Z K
 refine og 9 26 true ?_ fun K Z => ?_
 · (
 simp (decide := true) only [Fact.G, reduceIte, hf.size, q1, q2, Fact.N])
 go_simp
 apply Z.out; clear Z K
 refine og 9 26 true ?_ fun K Z => ?_
 · (
 simp (decide := true) only [Fact.G, reduceIte, hf.size, q1, q2, Fact.N])
 go_simp
 apply Z.out; clear Z K
 refine og 9 26 true ?_ fun K Z => ?_
 · (
 simp (decide := true) only [Fact.G, reduceIte, hf.size, q1, q2, Fact.N])
 go_simp
 try rw [if_pos (by omega)]
 apply Z.out; clear Z K
 refine og 9 26 true ?_ fun K Z => ?_
 · (
 simp (decide := true) only [Fact.G, reduceIte, hf.size, q1, q2, Fact.N])
 go_simp
 apply Z.out; clear Z K
 refine og 9 26 true ?_ fun K Z => ?_
 · (
 simp (decide := true) only [Fact.G, reduceIte, hf.size, q1, q2, Fact.N])
 go_simp
 apply Z.out; clear Z K
 refine fp fun K Z => ?_
 go_simp
 apply Z.out; clear Z K
 refine Fact.z hf fun fr1 hf1 hT => ?_
 have hKp : _ ∧ _ ∧ _ ∧ _ ∧ _ ∧ _ := ⟨hT 0, hT 1, hT 5, hT 6, hT 7, hT 37⟩
 simp (decide := true) only [Fact.G, hf.size, reduceIte, s0, s1, s5, s6, s7] at hKp
 replace hf := hf1; clear hT hf1 s0 s1 s5 s6 s7 s14 b17 b18 b19 b20 b21 b22 b23 b24 b25 b26 b27 b28 b29 b30 b31 b32 b33 b34 b35 b36
 obtain ⟨s0, s1, s5, s6, s7, s37⟩ := hKp
 refine nx (hK13 _ _ ?_)
 refine Fact.cond_f s37 ?_
 clear q1 q2
 have hst := least_no HI.out HP.out
 rw [← HN.out] at hst
 have HST := Lib.hid hst; clear hst
 have hb5 := Below.refl wr.heap.size wr
 obtain ⟨n2, hn2⟩ : ∃ n2, n = n2 := ⟨_, rfl⟩
 subst hn2
 refine wp_skip ?_
 refine Fact.block_normal ?_
 refine nx (hK12 _ _ ?_)
 refine rg ?_
 have b15 := hf.b 15
 have b16 := hf.b 16
 refine fp fun K Z => ?_
 go_simp
 apply Z.out; clear Z K
 refine fp fun K Z => ?_
 go_simp
 try simp (disch := omega) only [Fact.W]
 apply Z.out; clear Z K
 refine fp fun K Z => ?_
 go_simp
 apply Z.out; clear Z K
 refine Fact.z hf fun fr1 hf1 hT => ?_
 have hKp : _ ∧ _ ∧ _ ∧ _ ∧ _ := ⟨hT 0, hT 1, hT 5, hT 6, hT 7⟩
 simp (decide := true) only [Fact.G, hf.size, reduceIte, s0, s1, s5, s6] at hKp
 replace hf := hf1; clear hT hf1 s0 s1 s5 s6 s7 s37 b15 b16
 obtain ⟨s0, s1, s5, s6, s7⟩ := hKp
 refine Fact.then_normal ?_
 exact ⟨_, by have := HK.out; omega, i + 1, _, rfl, by omega, hf, s0, s1, s5, s6, by rw [s7]; rfl, HST.out.symm, hb.trans (hb5.mono hb.size)⟩)))
 · (
 have hie : i = es.length := by have h9 := of_decide_eq_false hq; omega
 have hln : n = leastH es h := by have h9 := HN.out; rwa [hie, List.take_length] at h9
 have HLN := Lib.hid hln; clear hln hie hq
 obtain ⟨Wb, hWb⟩ : ∃ x, wr = x := ⟨_, rfl⟩
 subst hWb
 have hb1 := hb
 refine wp_exit ?_
 refine Fact.then_exit ?_
 refine Fact.then_exit ?_
 refine Fact.block_exit ?_
 refine nx (hK4 _ _ ?_)
 refine Fact.sq fun K14 hK14 => ?_
 refine Fact.sq fun K15 hK15 => ?_
 refine rg ?_
 refine fp fun K Z => ?_
 go_simp
 apply Z.out; clear Z K
 refine Fact.z hf fun fr1 hf1 hT => ?_
 have hKp : _ ∧ _ ∧ _ ∧ _ ∧ _ := ⟨hT 0, hT 1, hT 5, hT 6, hT 8⟩
 simp (decide := true) only [Fact.G, hf.size, reduceIte, s0, s1, s5, s6] at hKp
 replace hf := hf1; clear hT hf1 s0 s1 s5 s6 s7 s14
 obtain ⟨s0, s1, s5, s6, s8⟩ := hKp
 refine nx (hK15 _ _ ?_)
 refine wp_block ?_
 refine wp_loop_ghost (fun gk2 fr wr => ∃ (j : Nat) (V : Value), gk2 = es.length - j ∧ j ≤ es.length ∧ Fact.Fr 96 fr ∧ fr.tmps[0]? = some (.slice A es.length cc) ∧ fr.tmps[1]? = some (.string h) ∧ fr.tmps[5]? = some V ∧ fr.tmps[6]? = some (.int .u64 n) ∧ fr.tmps[8]? = some (.int .i64 j) ∧ OE wr w.heap.size V (behP es h n j) ∧ Below w.heap.size w wr) (es.length) ?_ ?_
 · (
 exact ⟨0, _, rfl, Nat.zero_le _, hf, s0, s1, s5, s6, s8, OE.nil_ _ _, hb1⟩)
 · (
 clear hf s0 s1 s5 s6 s8
 clear hb hb1
 rintro gk2 fr wr ⟨j, V, hk2, hj, hf, s0, s1, s5, s6, s8, how, hb⟩
 have HK2 := Lib.hid hk2; clear hk2
 refine Fact.sq fun K16 hK16 => ?_
 refine Fact.sq fun K17 hK17 => ?_
 refine rg ?_
 have b45 := hf.b 45
 have b46 := hf.b 46
 have b47 := hf.b 47
 refine fp fun K Z => ?_
 go_simp
 apply Z.out; clear Z K
 refine fp fun K Z => ?_
 go_simp
 apply Z.out; clear Z K
 refine fp fun K Z => ?_
 go_simp
 apply Z.out; clear Z K
 refine fp fun K Z => ?_
 go_simp
 apply Z.out; clear Z K
 refine Fact.z hf fun fr1 hf1 hT => ?_
 have hKp : _ ∧ _ ∧ _ ∧ _ ∧ _ ∧ _ := ⟨hT 0, hT 1, hT 5, hT 6, hT 8, hT 48⟩
 simp (decide := true) only [Fact.G, hf.size, reduceIte, s0, s1, s5, s6, s8] at hKp
 replace hf := hf1; clear hT hf1 s0 s1 s5 s6 s8 b45 b46 b47
 obtain ⟨s0, s1, s5, s6, s8, s48⟩ := hKp
 refine nx (hK17 _ _ ?_)
 refine Fact.cond_s s48 (fun hq => ?_) (fun hq => ?_)
 · (
 have hlt : j < es.length := by have h9 := of_decide_eq_true hq; omega
 have HQ := Lib.hid hq; clear hq
 obtain ⟨q, hiq⟩ : ∃ q, es[j]? = some q := ⟨_, List.getElem?_eq_getElem hlt⟩
 obtain ⟨b, off, rfl, _, _, d0, d1, d2⟩ := (hre0.below hb).at_ hiq
 have hokq := HOK.out q (List.mem_of_getElem? hiq)
 have HI := Lib.hid hiq; clear hiq
 refine wp_skip ?_
 refine nx (hK16 _ _ ?_)
 rcases Nat.lt_or_ge q.word.size h.size with hsh | hsh
 · (
 have q1 : decide (h.size ≤ q.word.size) = false := decide_eq_false (by omega)
 have hp := pre_short hsh
 have HP := Lib.hid hp; clear hp
 refine Fact.sq fun K18 hK18 => ?_
 refine wp_block ?_
 refine Fact.sq fun K19 hK19 => ?_
 refine rg ?_
 have b51 := hf.b 51
 have b52 := hf.b 52
 have b53 := hf.b 53
 have b54 := hf.b 54
 have b55 := hf.b 55
 have b56 := hf.b 56
 have b57 := hf.b 57
 have b58 := hf.b 58
 have b59 := hf.b 59
 have b60 := hf.b 60
 have b61 := hf.b 61
 have b62 := hf.b 62
 have b63 := hf.b 63
 have b64 := hf.b 64
 have b65 := hf.b 65
 have b66 := hf.b 66
 have b67 := hf.b 67
 have b68 := hf.b 68
 have b69 := hf.b 69
 have b70 := hf.b 70
 refine fp fun K Z => ?_
 go_simp
 apply Z.out; clear Z K
 refine fp fun K Z => ?_
 go_simp
 apply Z.out; clear Z K
 refine fp fun K Z => ?_
 go_simp
 try rw [if_pos (by omega)]
 apply Z.out; clear Z K
 refine fp fun K Z => ?_
 go_simp
 apply Z.out; clear Z K
 refine fp fun K Z => ?_
 go_simp
 apply Z.out; clear Z K
 refine fp fun K Z => ?_
 go_simp
 apply Z.out; clear Z K
 refine fp fun K Z => ?_
 go_simp
 apply Z.out; clear Z K
 refine fp fun K Z => ?_
 go_simp
 apply Z.out; clear Z K
 refine fp fun K Z => ?_
 go_simp
 apply Z.out; clear Z K
 refine fp fun K Z => ?_
 go_simp
 apply Z.out; clear Z K
 refine sk 9 60 true ?_ ?_
 · (
 simp (decide := true) only [Fact.G, reduceIte, hf.size, q1, Fact.N])
 refine sk 9 60 true ?_ ?_
 · (
 simp (decide := true) only [Fact.G, reduceIte, hf.size, q1, Fact.N])
 refine sk 9 60 true ?_ ?_
 · (
 simp (decide := true) only [Fact.G, reduceIte, hf.size, q1, Fact.N])
 refine sk 9 60 true ?_ ?_
 · (
 simp (decide := true) only [Fact.G, reduceIte, hf.size, q1, Fact.N])
 refine sk 9 60 true ?_ ?_
 · (
 simp (decide := true) only [Fact.G, reduceIte, hf.size, q1, Fact.N])
 refine sk 9 60 true ?_ ?_
 · (
 simp (decide := true) only [Fact.G, reduceIte, hf.size, q1, Fact.N])
 refine sk 9 60 true ?_ ?_
 · (
 simp (decide := true) only [Fact.G, reduceIte, hf.size, q1, Fact.N])
 refine sk 9 60 true ?_ ?_
 · (
 simp (decide := true) only [Fact.G, reduceIte, hf.size, q1, Fact.N])
 refine sk 9 60 true ?_ ?_
 · (
 simp (decide := true) only [Fact.G, reduceIte, hf.size, q1, Fact.N])
 refine sk 9 60 true ?_ ?_
 · (
 simp (decide := true) only [Fact.G, reduceIte, hf.size, q1, Fact.N])
 refine fp fun K Z => ?_
 go_simp
 apply Z.out; clear Z K
 refine Fact.z hf fun fr1 hf1 hT => ?_
 have hKp : _ ∧ _ ∧ _ ∧ _ ∧ _ ∧ _ := ⟨hT 0, hT 1, hT 5, hT 6, hT 8, hT 71⟩
 simp (decide := true) only [Fact.G, hf.size, reduceIte, s0, s1, s5, s6, s8] at hKp
 replace hf := hf1; clear hT hf1 s0 s1 s5 s6 s8 s48 b51 b52 b53 b54 b55 b56 b57 b58 b59 b60 b61 b62 b63 b64 b65 b66 b67 b68 b69 b70
 obtain ⟨s0, s1, s5, s6, s8, s71⟩ := hKp
 refine nx (hK19 _ _ ?_)
 refine Fact.cond_f s71 ?_
 clear q1
 have hst := behP_no (n := n) HI.out HP.out
 rw [← hst] at how
 clear hst
 have hb8 := hb
 obtain ⟨v8, hv8⟩ : ∃ x, V = x := ⟨_, rfl⟩
 rw [hv8] at s5 how
 have how8 := how
 clear hv8 how
 refine wp_skip ?_
 refine Fact.block_normal ?_
 refine nx (hK18 _ _ ?_)
 refine rg ?_
 have b49 := hf.b 49
 have b50 := hf.b 50
 refine fp fun K Z => ?_
 go_simp
 apply Z.out; clear Z K
 refine fp fun K Z => ?_
 go_simp
 try simp (disch := omega) only [Fact.W]
 apply Z.out; clear Z K
 refine fp fun K Z => ?_
 go_simp
 apply Z.out; clear Z K
 refine Fact.z hf fun fr1 hf1 hT => ?_
 have hKp : _ ∧ _ ∧ _ ∧ _ ∧ _ := ⟨hT 0, hT 1, hT 5, hT 6, hT 8⟩
 simp (decide := true) only [Fact.G, hf.size, reduceIte, s0, s1, s5, s6] at hKp
 replace hf := hf1; clear hT hf1 s0 s1 s5 s6 s8 s71 b49 b50
 obtain ⟨s0, s1, s5, s6, s8⟩ := hKp
 refine Fact.then_normal ?_
 exact ⟨_, by have := HK2.out; omega, j + 1, v8, rfl, by omega, hf, s0, s1, s5, s6, by rw [s8]; rfl, how8, hb8⟩)
 · (
 rcases Bool.eq_false_or_eq_true ((wl h).isPrefixOf (wl q.word)) with hpp | hpp
 · (
 have q1 : decide (h.size ≤ q.word.size) = true := decide_eq_true (by omega)
 have q2 : ((q.word.extract 0 h.size).toList == h.toList) = true := by rw [pre_long hsh]; exact hpp
 have hp := hpp
 have HP := Lib.hid hp; clear hp hpp
 refine Fact.sq fun K20 hK20 => ?_
 refine wp_block ?_
 refine Fact.sq fun K21 hK21 => ?_
 refine rg ?_
 have b51 := hf.b 51
 have b52 := hf.b 52
 have b53 := hf.b 53
 have b54 := hf.b 54
 have b55 := hf.b 55
 have b56 := hf.b 56
 have b57 := hf.b 57
 have b58 := hf.b 58
 have b59 := hf.b 59
 have b60 := hf.b 60
 have b61 := hf.b 61
 have b62 := hf.b 62
 have b63 := hf.b 63
 have b64 := hf.b 64
 have b65 := hf.b 65
 have b66 := hf.b 66
 have b67 := hf.b 67
 have b68 := hf.b 68
 have b69 := hf.b 69
 have b70 := hf.b 70
 refine fp fun K Z => ?_
 go_simp
 apply Z.out; clear Z K
 refine fp fun K Z => ?_
 go_simp
 apply Z.out; clear Z K
 refine fp fun K Z => ?_
 go_simp
 try rw [if_pos (by omega)]
 apply Z.out; clear Z K
 refine fp fun K Z => ?_
 go_simp
 apply Z.out; clear Z K
 refine fp fun K Z => ?_
 go_simp
 apply Z.out; clear Z K
 refine fp fun K Z => ?_
 go_simp
 apply Z.out; clear Z K
 refine fp fun K Z => ?_
 go_simp
 apply Z.out; clear Z K
 refine fp fun K Z => ?_
 go_simp
 apply Z.out; clear Z K
 refine fp fun K Z => ?_
 go_simp
 apply Z.out; clear Z K
 refine fp fun K Z => ?_
 go_simp
 apply Z.out; clear Z K
 refine og 9 60 true ?_ fun K Z => ?_
 · (
 simp (decide := true) only [Fact.G, reduceIte, hf.size, q1, q2, Fact.N])
 go_simp
 apply Z.out; clear Z K
 refine og 9 60 true ?_ fun K Z => ?_
 · (
 simp (decide := true) only [Fact.G, reduceIte, hf.size, q1, q2, Fact.N])
 go_simp
 apply Z.out; clear Z K
 refine og 9 60 true ?_ fun K Z => ?_
 · (
 simp (decide := true) only [Fact.G, reduceIte, hf.size, q1, q2, Fact.N])
 go_simp
 try rw [if_pos (by omega)]
 apply Z.out; clear Z K
 refine og 9 60 true ?_ fun K Z => ?_
 · (
 simp (decide := true) only [Fact.G, reduceIte, hf.size, q1, q2, Fact.N])
 go_simp
 apply Z.out; clear Z K
 refine og 9 60 true ?_ fun K Z => ?_
 · (
 simp (decide := true) only [Fact.G, reduceIte, hf.size, q1, q2, Fact.N])
 go_simp
 apply Z.out; clear Z K
 refine og 9 60 true ?_ fun K Z => ?_
 · (
 simp (decide := true) only [Fact.G, reduceIte, hf.size, q1, q2, Fact.N])
 go_simp
 apply Z.out; clear Z K
 refine og 9 60 true ?_ fun K Z => ?_
 · (
 simp (decide := true) only [Fact.G, reduceIte, hf.size, q1, q2, Fact.N])
 go_simp
 apply Z.out; clear Z K
 refine og 9 60 true ?_ fun K Z => ?_
 · (
 simp (decide := true) only [Fact.G, reduceIte, hf.size, q1, q2, Fact.N])
 go_simp
 try rw [if_pos (by omega)]
 apply Z.out; clear Z K
 refine og 9 60 true ?_ fun K Z => ?_
 · (
 simp (decide := true) only [Fact.G, reduceIte, hf.size, q1, q2, Fact.N])
 go_simp
 apply Z.out; clear Z K
 refine og 9 60 true ?_ fun K Z => ?_
 · (
 simp (decide := true) only [Fact.G, reduceIte, hf.size, q1, q2, Fact.N])
 go_simp
 apply Z.out; clear Z K
 refine fp fun K Z => ?_
 go_simp
 apply Z.out; clear Z K
 refine Fact.z hf fun fr1 hf1 hT => ?_
 have hKp : _ ∧ _ ∧ _ ∧ _ ∧ _ ∧ _ := ⟨hT 0, hT 1, hT 5, hT 6, hT 8, hT 71⟩
 simp (decide := true) only [Fact.G, hf.size, reduceIte, s0, s1, s5, s6, s8] at hKp
 replace hf := hf1; clear hT hf1 s0 s1 s5 s6 s8 s48 b51 b52 b53 b54 b55 b56 b57 b58 b59 b60 b61 b62 b63 b64 b65 b66 b67 b68 b69 b70
 obtain ⟨s0, s1, s5, s6, s8, s71⟩ := hKp
 refine nx (hK21 _ _ ?_)
 refine Fact.cond_t s71 ?_
 clear q1 q2
 have hst := behP_yes (n := n) HI.out HP.out
 have hnle : n ≤ valE q := by rw [HLN.out]; exact leastH_le (List.mem_of_getElem? HI.out) HP.out hokq
 have hvq := valE_lt hokq
 obtain ⟨Ee, hEe⟩ : ∃ x, ofE (tailB q.word h.size) (valE q - n) = x := ⟨_, rfl⟩
 rw [hEe] at hst
 have HST := Lib.hid hst; have HEe := Lib.hid hEe; clear hst hEe
 have hsz : h.size ≤ q.word.size := pre_size HP.out
 obtain ⟨xs, hxs⟩ : ∃ x, behP es h n j = x := ⟨_, rfl⟩
 rw [hxs] at how
 have hxl : xs.length ≤ es.length := by rw [← hxs]; exact behP_length es h n j
 have HXS := Lib.hid hxs; clear hxs
 obtain ⟨A5, c5, rfl, hc5⟩ := OE.form (es := xs) how
 refine Fact.sq fun K22 hK22 => ?_
 refine Stav.todo_begin (n := 96) (fun _ k => wr.heap.size ≤ k) [20] (Stab.OkOps.of (by kernel_rfl)) (fun hok => ?_)
 refine Stav.mvO (k := 0) s0 hf.size hok.out rfl (by kernel_rfl) rfl rfl (.inl rfl) (by kernel_rfl) ?_
 refine Stav.mvO (k := 1) s8 hf.size hok.out rfl (by kernel_rfl) rfl rfl (.inl rfl) (by kernel_rfl) ?_
 apply Stav.t 2 _ hf.size hok.out rfl (by kernel_rfl)
 · (
 intro fr1 w1 hh hd hk K Z
 refine Stab.pl ?_
 have s73 := Stav.u 0 1 hd hk rfl [] (by kernel_rfl) rfl rfl rfl
 have s74 := Stav.u 1 0 hd hk rfl [] (by kernel_rfl) rfl rfl rfl
 have hxe := Stav.ext_at hh [(20, [])] (by kernel_rfl)
 have hbt := Stav.but_at hh [] [(20, [])] (by kernel_rfl)
 clear hd hh
 go_simp
 try rw [if_pos (by omega)]
 exact Stab.k Z)
 apply Stav.t 3 _ hf.size hok.out rfl (by kernel_rfl)
 · (
 intro fr1 w1 hh hd hk K Z
 refine Stab.pl ?_
 have s75 := Stav.u 2 0 hd hk rfl [] (by kernel_rfl) rfl rfl rfl
 have hxe := Stav.ext_at hh [(20, [])] (by kernel_rfl)
 have hbt := Stav.but_at hh [] [(20, [])] (by kernel_rfl)
 clear hd hh
 go_simp
 exact Stab.k Z)
 apply Stav.t 4 _ hf.size hok.out rfl (by kernel_rfl)
 · (
 intro fr1 w1 hh hd hk K Z
 refine Stab.pl ?_
 have s76 := Stav.u 3 0 hd hk rfl [] (by kernel_rfl) rfl rfl rfl
 have hxe := Stav.ext_at hh [(20, [])] (by kernel_rfl)
 have hbt := Stav.but_at hh [] [(20, [])] (by kernel_rfl)
 clear hd hh
 replace d0 := cL hxe d0
 go_simp
 exact Stab.k Z)
 refine Stav.mvO (k := 5) s1 hf.size hok.out rfl (by kernel_rfl) rfl rfl (.inl rfl) (by kernel_rfl) ?_
 apply Stav.t 6 _ hf.size hok.out rfl (by kernel_rfl)
 · (
 intro fr1 w1 hh hd hk K Z
 refine Stab.pl ?_
 have s78 := Stav.u 5 0 hd hk rfl [] (by kernel_rfl) rfl rfl rfl
 have hxe := Stav.ext_at hh [(20, [])] (by kernel_rfl)
 have hbt := Stav.but_at hh [] [(20, [])] (by kernel_rfl)
 clear hd hh
 go_simp
 exact Stab.k Z)
 apply Stav.t 7 _ hf.size hok.out rfl (by kernel_rfl)
 · (
 intro fr1 w1 hh hd hk K Z
 refine Stab.pl ?_
 have s77 := Stav.u 4 2 hd hk rfl [] (by kernel_rfl) rfl rfl rfl
 have s79 := Stav.u 6 0 hd hk rfl [] (by kernel_rfl) rfl rfl rfl
 have hxe := Stav.ext_at hh [(20, [])] (by kernel_rfl)
 have hbt := Stav.but_at hh [] [(20, [])] (by kernel_rfl)
 clear hd hh
 go_simp
 rw [tail_cut]
 exact Stab.k Z)
 refine Stav.mvO (k := 8) s0 hf.size hok.out rfl (by kernel_rfl) rfl rfl (.inl rfl) (by kernel_rfl) ?_
 refine Stav.mvO (k := 9) s8 hf.size hok.out rfl (by kernel_rfl) rfl rfl (.inl rfl) (by kernel_rfl) ?_
 apply Stav.t 10 _ hf.size hok.out rfl (by kernel_rfl)
 · (
 intro fr1 w1 hh hd hk K Z
 refine Stab.pl ?_
 have s81 := Stav.u 8 1 hd hk rfl [] (by kernel_rfl) rfl rfl rfl
 have s82 := Stav.u 9 0 hd hk rfl [] (by kernel_rfl) rfl rfl rfl
 have hxe := Stav.ext_at hh [(20, [])] (by kernel_rfl)
 have hbt := Stav.but_at hh [] [(20, [])] (by kernel_rfl)
 clear hd hh
 go_simp
 try rw [if_pos (by omega)]
 exact Stab.k Z)
 apply Stav.t 11 _ hf.size hok.out rfl (by kernel_rfl)
 · (
 intro fr1 w1 hh hd hk K Z
 refine Stab.pl ?_
 have s83 := Stav.u 10 0 hd hk rfl [] (by kernel_rfl) rfl rfl rfl
 have hxe := Stav.ext_at hh [(20, [])] (by kernel_rfl)
 have hbt := Stav.but_at hh [] [(20, [])] (by kernel_rfl)
 clear hd hh
 replace d0 := cL hxe d0; replace d1 := cL hxe d1; replace d2 := cL hxe d2
 go_simp
 exact Stab.k Z)
 apply Stav.t 12 _ hf.size hok.out rfl (by kernel_rfl)
 · (
 intro fr1 w1 hh hd hk K Z
 refine Stab.pl ?_
 have s84 := Stav.u 11 0 hd hk rfl [] (by kernel_rfl) rfl rfl rfl
 have hxe := Stav.ext_at hh [(20, [])] (by kernel_rfl)
 have hbt := Stav.but_at hh [] [(20, [])] (by kernel_rfl)
 clear hd hh
 go_simp
 go_at_call 16; refine (rvalue16 q hokq w1).mono ?_; rintro e w2 ⟨rfl, hb⟩
 exact Z.out _ rfl _ _ hb rfl)
 refine Stav.mvO (k := 13) s6 hf.size hok.out rfl (by kernel_rfl) rfl rfl (.inl rfl) (by kernel_rfl) ?_
 apply Stav.t 14 _ hf.size hok.out rfl (by kernel_rfl)
 · (
 intro fr1 w1 hh hd hk K Z
 refine Stab.pl ?_
 have s85 := Stav.u 12 1 hd hk rfl [] (by kernel_rfl) rfl rfl rfl
 have s86 := Stav.u 13 0 hd hk rfl [] (by kernel_rfl) rfl rfl rfl
 have hxe := Stav.ext_at hh [(20, [])] (by kernel_rfl)
 have hbt := Stav.but_at hh [] [(20, [])] (by kernel_rfl)
 clear hd hh
 go_simp
 try simp (disch := omega) only [Fact.W]
 rw [show ((valE q : Nat) : Int) - (n : Nat) = ((valE q - n : Nat) : Int) by omega]
 exact Stab.k Z)
 apply Stav.t 15 _ hf.size hok.out rfl (by kernel_rfl)
 · (
 intro fr1 w1 hh hd hk K Z
 refine Stab.pl ?_
 have s80 := Stav.u 7 7 hd hk rfl [] (by kernel_rfl) rfl rfl rfl
 have s87 := Stav.u 14 0 hd hk rfl [] (by kernel_rfl) rfl rfl rfl
 have hxe := Stav.ext_at hh [(20, [])] (by kernel_rfl)
 have hbt := Stav.but_at hh [] [(20, [])] (by kernel_rfl)
 clear hd hh
 go_simp
 go_at_call 36; refine (of36 w1 (tailB q.word h.size) (valE q - n) (by unfold M64; omega)).mono ?_; rintro e w2 ⟨rfl, hb⟩
 rw [HEe.out]
 simp only [eval]
 exact Z.out _ rfl _ _ hb rfl)
 refine Stav.mvN (k := 16) (j := 15) (m := 0) hf.size hok.out rfl (by kernel_rfl) rfl rfl (.inl rfl) rfl [] (by kernel_rfl) rfl rfl rfl ?_
 apply Stav.t 17 _ hf.size hok.out rfl (by kernel_rfl)
 · (
 intro fr1 w1 hh hd hk K Z
 refine Stab.pl ?_
 have s72 := Stav.u 16 0 hd hk rfl [] (by kernel_rfl) rfl rfl rfl
 have hxe := Stav.ext_at hh [(20, [])] (by kernel_rfl)
 have hbt := Stav.but_at hh [] [(20, [])] (by kernel_rfl)
 clear hd hh
 go_simp
 exact Stab.k Z)
 apply Stav.t 18 _ hf.size hok.out rfl (by kernel_rfl)
 · (
 intro fr1 w1 hh hd hk K Z
 refine Stab.pl ?_
 have s72 := Stav.u 16 1 hd hk rfl [] (by kernel_rfl) rfl rfl rfl
 have hbt := Stav.but_at hh [20] [] (by kernel_rfl)
 clear hd hh
 go_simp
 exact Stab.k Z)
 refine Stav.todo_op (k := 19) (n := 96) (PBox wr) hf.size hok.out rfl (PBox.stable wr) (by kernel_rfl) ?_ ?_
 · (
 intro fr1 w1 hh hd hk K Z
 refine Stab.pl ?_
 have hxe := Stav.ext_at hh [(20, [])] (by kernel_rfl)
 have hbt := Stav.but_at hh [] [(20, [])] (by kernel_rfl)
 clear hd hh
 go_simp
 exact Z.out _ rfl _ _ ((Below.refl _ _).alloc (Nat.le_refl _) _) ⟨_, rfl, hxe.size, heap_alloc_new _ _⟩)
 refine Stav.todo_sp (k := 20) (n := 96) (PEnt wr Ee) hf.size hok.out rfl (PEnt.stable wr Ee) (by kernel_rfl) ?_ ?_
 · (
 intro fr1 w1 hh hd hk K Z
 refine Stab.pl ?_
 obtain ⟨x9, s9, hp9⟩ := Stav.use (j := 19) (m := 0) hd hk rfl [] (by kernel_rfl) [] (by kernel_rfl) rfl rfl rfl
 obtain ⟨b9, rfl, hbg9, hbx9⟩ := hp9
 have s89 := Stav.u 17 2 hd hk rfl [] (by kernel_rfl) rfl rfl rfl
 have hxe := Stav.ext_at hh [] (by kernel_rfl)
 have hbt := Stav.but_at hh [] [] (by kernel_rfl)
 clear hd hh
 have f0 := frozen_of (i := 0) hbx9; have f1 := frozen_of (i := 1) hbx9; have f2 := frozen_of (i := 2) hbx9
 have z0 := cell_of_row _ _ 0 _ 42 (0, 0) hbx9; have z1 := cell_of_row _ _ 1 _ 42 (0, 0) hbx9; have z2 := cell_of_row _ _ 2 _ 42 (0, 0) hbx9
 simp at z0 z1 z2
 go_simp
 refine Z.out _ rfl (.pointer (some ⟨b9, 0, none⟩)) _ (((But.setCell hbg9 _).trans (But.setCell hbg9 _)).trans (But.setCell hbg9 _)) (fun d _ h2 => by injection h2 with h2; subst h2; exact s9) ⟨_, rfl, hbg9, ?_⟩; exact (set_block (set_block (set_block hbx9 _) _) _).trans (by simp))
 refine Stav.mvN (k := 21) (j := 18) (m := 2) hf.size hok.out rfl (by kernel_rfl) rfl rfl (.inr rfl) rfl [] (by kernel_rfl) rfl rfl rfl ?_
 refine Stav.todo_facts (n := 96) (by kernel_rfl) hf.size hok.out rfl (fun fr1 w1 hh hg => ?_)
 replace s0 := Stav.o hh (by kernel_rfl) s0
 replace s1 := Stav.o hh (by kernel_rfl) s1
 replace s5 := Stav.o hh (by kernel_rfl) s5
 replace s6 := Stav.o hh (by kernel_rfl) s6
 replace s8 := Stav.o hh (by kernel_rfl) s8
 obtain ⟨x9, s9, hp9⟩ := Stav.end_store (j := 20) (m := 1) hg rfl [] (by kernel_rfl) rfl rfl rfl
 obtain ⟨b9, rfl, hbg9, hbx9⟩ := hp9
 have hf1 := hh.fr hf
 have hbt := hh.but
 clear hg hh hf hok s71
 have hf := hf1; clear hf1
 replace hbt := hbt (fun k => wr.heap.size ≤ k) (fun m _ b h => h)
 have hx12 : Below wr.heap.size wr w1 := ⟨hbt.os, hbt.tape, hbt.output, hbt.size, fun k hk => hbt.block k hk (by omega)⟩
 have how12 := own_later how hx12
 have e0 := cell_of_row _ _ 0 _ 42 (0, 0) hbx9; have e1 := cell_of_row _ _ 1 _ 42 (0, 0) hbx9; have e2 := cell_of_row _ _ 2 _ 42 (0, 0) hbx9
 simp at e0 e1 e2
 have hb12 := hb.trans (hx12.mono hb.size)
 obtain ⟨W12, hW12⟩ : ∃ x, w1 = x := ⟨_, rfl⟩
 subst hW12
 clear hbt hx12 d0 d1 d2 hbx9
 refine nx (hK22 _ _ ?_)
 refine rg ?_
 have b91 := hf.b 91
 have b92 := hf.b 92
 have b93 := hf.b 93
 have b94 := hf.b 94
 refine fp fun K Z => ?_
 go_simp
 apply Z.out; clear Z K
 refine fp fun K Z => ?_
 go_simp
 apply Z.out; clear Z K
 refine fp fun K Z => ?_
 go_simp
 apply Z.out; clear Z K
 refine Fact.reL (n := 96) (by simp only [Fact.G, hf.size]) hf.defers (fun fr1 hf1 hT => ?_)
 have hKp : _ ∧ _ ∧ _ ∧ _ ∧ _ ∧ _ ∧ _ := ⟨hT 0, hT 1, hT 5, hT 6, hT 8, hT 91, hT 93⟩
 simp (decide := true) only [Fact.G, hf.size, reduceIte, s0, s1, s5, s6, s8] at hKp
 replace hf := hf1; clear hT hf1 s0 s1 s5 s6 s8 s9 b91 b92 b93 b94
 obtain ⟨s0, s1, s5, s6, s8, s91, s93⟩ := hKp
 have b94 := hf.b 94
 refine ⟨?_⟩
 refine wpList_plain rfl fun K5 hK5 => ?_
 refine wp_app _ _ 28 rfl 42 _ 3 24 Tryd.underlying28 info_ent rfl (by decide) (by decide) w.heap.size (.slice A5 xs.length c5) xs.length _ (Fact.eval_tmp s91) (how12.alloc _) w1.heap.size Ee.cells (Fact.eval_tmp s93) rfl (lit_new w1 _ _) (ent_one Ee) (by omega) (by have := hb12.size; simp; omega) (fun v8 w8 hr8 hg8 hat8 => hK5 _ _ ?_)
 refine Fact.L.out ?_
 refine fp fun K Z => ?_
 go_simp
 apply Z.out; clear Z K
 refine Fact.z hf fun fr1 hf1 hT => ?_
 have hKp : _ ∧ _ ∧ _ ∧ _ ∧ _ := ⟨hT 0, hT 1, hT 5, hT 6, hT 8⟩
 simp (decide := true) only [Fact.G, hf.size, reduceIte, s0, s1, s6, s8] at hKp
 replace hf := hf1; clear hT hf1 s0 s1 s5 s6 s8 s91 s93 b94
 obtain ⟨s0, s1, s5, s6, s8⟩ := hKp
 have hb8 := (hb12.alloc hb12.size _).grown hg8 (by have := hb12.size; simp; omega) (fun kk hkk => (how12.lt kk hkk).1)
 have how8 : OE w8 w.heap.size v8 (behP es h n (j + 1)) := by rw [HST.out, HXS.out]; unfold OE; rw [ecs_append, List.length_append]; exact hr8
 refine Fact.block_normal ?_
 refine nx (hK20 _ _ ?_)
 refine rg ?_
 have b49 := hf.b 49
 have b50 := hf.b 50
 refine fp fun K Z => ?_
 go_simp
 apply Z.out; clear Z K
 refine fp fun K Z => ?_
 go_simp
 try simp (disch := omega) only [Fact.W]
 apply Z.out; clear Z K
 refine fp fun K Z => ?_
 go_simp
 apply Z.out; clear Z K
 refine Fact.z hf fun fr1 hf1 hT => ?_
 have hKp : _ ∧ _ ∧ _ ∧ _ ∧ _ := ⟨hT 0, hT 1, hT 5, hT 6, hT 8⟩
 simp (decide := true) only [Fact.G, hf.size, reduceIte, s0, s1, s5, s6] at hKp
 replace hf := hf1; clear hT hf1 s0 s1 s5 s6 s8 b49 b50
 obtain ⟨s0, s1, s5, s6, s8⟩ := hKp
 refine Fact.then_normal ?_
 exact ⟨_, by have := HK2.out; omega, j + 1, v8, rfl, by omega, hf, s0, s1, s5, s6, by rw [s8]; rfl, how8, hb8⟩)
 · (
 have q1 : decide (h.size ≤ q.word.size) = true := decide_eq_true (by omega)
 have q2 : ((q.word.extract 0 h.size).toList == h.toList) = false := by rw [pre_long hsh]; exact hpp
 have hp := hpp
 have HP := Lib.hid hp; clear hp hpp
 refine Fact.sq fun K23 hK23 => ?_
 refine wp_block ?_
 refine Fact.sq fun K24 hK24 => ?_
 refine rg ?_
 have b51 := hf.b 51
 have b52 := hf.b 52
 have b53 := hf.b 53
 have b54 := hf.b 54
 have b55 := hf.b 55
 have b56 := hf.b 56
 have b57 := hf.b 57
 have b58 := hf.b 58
 have b59 := hf.b 59
 have b60 := hf.b 60
 have b61 := hf.b 61
 have b62 := hf.b 62
 have b63 := hf.b 63
 have b64 := hf.b 64
 have b65 := hf.b 65
 have b66 := hf.b 66
 have b67 := hf.b 67
 have b68 := hf.b 68
 have b69 := hf.b 69
 have b70 := hf.b 70
 refine fp fun K Z => ?_
 go_simp
 apply Z.out; clear Z K
 refine fp fun K Z => ?_
 go_simp
 apply Z.out; clear Z K
 refine fp fun K Z => ?_
 go_simp
 try rw [if_pos (by omega)]
 apply Z.out; clear Z K
 refine fp fun K Z => ?_
 go_simp
 apply Z.out; clear Z K
 refine fp fun K Z => ?_
 go_simp
 apply Z.out; clear Z K
 refine fp fun K Z => ?_
 go_simp
 apply Z.out; clear Z K
 refine fp fun K Z => ?_
 go_simp
 apply Z.out; clear Z K
 refine fp fun K Z => ?_
 go_simp
 apply Z.out; clear Z K
 refine fp fun K Z => ?_
 go_simp
 apply Z.out; clear Z K
 refine fp fun K Z => ?_
 go_simp
 apply Z.out; clear Z K
 refine og 9 60 true ?_ fun K Z => ?_
 · (
 simp (decide := true) only [Fact.G, reduceIte, hf.size, q1, q2, Fact.N])
 go_simp
 apply Z.out; clear Z K
 refine og 9 60 true ?_ fun K Z => ?_
 · (
 simp (decide := true) only [Fact.G, reduceIte, hf.size, q1, q2, Fact.N])
 go_simp
 apply Z.out; clear Z K
 refine og 9 60 true ?_ fun K Z => ?_
 · (
 simp (decide := true) only [Fact.G, reduceIte, hf.size, q1, q2, Fact.N])
 go_simp
 try rw [if_pos (by omega)]
 apply Z.out; clear Z K
 refine og 9 60 true ?_ fun K Z => ?_
 · (
 simp (decide := true) only [Fact.G, reduceIte, hf.size, q1, q2, Fact.N])
 go_simp
 apply Z.out; clear Z K
 refine og 9 60 true ?_ fun K Z => ?_
 · (
 simp (decide := true) only [Fact.G, reduceIte, hf.size, q1, q2, Fact.N])
 go_simp
 apply Z.out; clear Z K
 refine og 9 60 true ?_ fun K Z => ?_
 · (
 simp (decide := true) only [Fact.G, reduceIte, hf.size, q1, q2, Fact.N])
 go_simp
 apply Z.out; clear Z K
 refine og 9 60 true ?_ fun K Z => ?_
 · (
 simp (decide := true) only [Fact.G, reduceIte, hf.size, q1, q2, Fact.N])
 go_simp
 apply Z.out; clear Z K
 refine og 9 60 true ?_ fun K Z => ?_
 · (
 simp (decide := true) only [Fact.G, reduceIte, hf.size, q1, q2, Fact.N])
 go_simp
 try rw [if_pos (by omega)]
 apply Z.out; clear Z K
 refine og 9 60 true ?_ fun K Z => ?_
 · (
 simp (decide := true) only [Fact.G, reduceIte, hf.size, q1, q2, Fact.N])
 go_simp
 apply Z.out; clear Z K
 refine og 9 60 true ?_ fun K Z => ?_
 · (
 simp (decide := true) only [Fact.G, reduceIte, hf.size, q1, q2, Fact.N])
 go_simp
 apply Z.out; clear Z K
 refine fp fun K Z => ?_
 go_simp
 apply Z.out; clear Z K
 refine Fact.z hf fun fr1 hf1 hT => ?_
 have hKp : _ ∧ _ ∧ _ ∧ _ ∧ _ ∧ _ := ⟨hT 0, hT 1, hT 5, hT 6, hT 8, hT 71⟩
 simp (decide := true) only [Fact.G, hf.size, reduceIte, s0, s1, s5, s6, s8] at hKp
 replace hf := hf1; clear hT hf1 s0 s1 s5 s6 s8 s48 b51 b52 b53 b54 b55 b56 b57 b58 b59 b60 b61 b62 b63 b64 b65 b66 b67 b68 b69 b70
 obtain ⟨s0, s1, s5, s6, s8, s71⟩ := hKp
 refine nx (hK24 _ _ ?_)
 refine Fact.cond_f s71 ?_
 clear q1 q2
 have hst := behP_no (n := n) HI.out HP.out
 rw [← hst] at how
 clear hst
 have hb8 := hb
 obtain ⟨v8, hv8⟩ : ∃ x, V = x := ⟨_, rfl⟩
 rw [hv8] at s5 how
 have how8 := how
 clear hv8 how
 refine wp_skip ?_
 refine Fact.block_normal ?_
 refine nx (hK23 _ _ ?_)
 refine rg ?_
 have b49 := hf.b 49
 have b50 := hf.b 50
 refine fp fun K Z => ?_
 go_simp
 apply Z.out; clear Z K
 refine fp fun K Z => ?_
 go_simp
 try simp (disch := omega) only [Fact.W]
 apply Z.out; clear Z K
 refine fp fun K Z => ?_
 go_simp
 apply Z.out; clear Z K
 refine Fact.z hf fun fr1 hf1 hT => ?_
 have hKp : _ ∧ _ ∧ _ ∧ _ ∧ _ := ⟨hT 0, hT 1, hT 5, hT 6, hT 8⟩
 simp (decide := true) only [Fact.G, hf.size, reduceIte, s0, s1, s5, s6] at hKp
 replace hf := hf1; clear hT hf1 s0 s1 s5 s6 s8 s71 b49 b50
 obtain ⟨s0, s1, s5, s6, s8⟩ := hKp
 refine Fact.then_normal ?_
 exact ⟨_, by have := HK2.out; omega, j + 1, v8, rfl, by omega, hf, s0, s1, s5, s6, by rw [s8]; rfl, how8, hb8⟩)))
 · (
 have hje : j = es.length := by have h9 := of_decide_eq_false hq; omega
 rw [hje, HLN.out, behP_end] at how
 clear hq hje
 refine wp_exit ?_
 refine Fact.then_exit ?_
 refine Fact.then_exit ?_
 refine Fact.block_exit ?_
 refine nx (hK14 _ _ ?_)
 refine Fact.sq fun K25 hK25 => ?_
 refine rg ?_
 have b95 := hf.b 95
 refine fp fun K Z => ?_
 go_simp
 apply Z.out; clear Z K
 refine fp fun K Z => ?_
 go_simp
 apply Z.out; clear Z K
 refine Fact.z hf fun fr1 hf1 hT => ?_
 have hKp := hT 4
 simp (decide := true) only [Fact.G, hf.size, reduceIte] at hKp
 replace hf := hf1; clear hT hf1 s0 s1 s5 s6 s8 s48 b95
 have s4 := hKp; clear hKp
 refine nx (hK25 _ _ ?_)
 refine wp_ret ?_
 exact Fact.ret1 rfl hf s4 ⟨_, rfl, how, hb⟩))))
end Dw
end Go.Proofs.YtgjfhedgdbbinaaDoor
