/- Dawg: the least of a state, what it is pushed by. -/
import Derived.Test.YtcddnmhmcieebaaGreatDoorY1
import Derived.WalkSmall
import Derived.Test.YtcddnmhmcieebaaGreatDoorTools
import Derived.Test.YtcddnmhmcieebaaGreatDoorY3
import Derived.Test.YtcddnmhmcieebaaGreatDoorDLawP
namespace Go.Proofs.YtcddnmhmcieebaaGreatDoor
set_option maxHeartbeats 4000000
set_option maxRecDepth 100000
open Go.RowKit
set_option linter.unusedSimpArgs false
set_option linter.unusedVariables false
set_option linter.unnecessarySimpa false
namespace Dw
def takeS (s : State) (i : Nat) : State := ⟨s.final, s.out, s.arcs.take i⟩
theorem least_zero (s : State) : leastOf (takeS s 0) = s.out := by
 unfold leastOf takeS
 cases s.final <;> simp
theorem least_all (s : State) : leastOf (takeS s s.arcs.length) = leastOf s := by
 unfold takeS
 rw [List.take_length]
theorem least_step {s : State} {i : Nat} {a : Arc} (h : s.arcs[i]? = some a) : leastOf (takeS s (i + 1)) = if (!(s.final || decide (0 < i)) || decide (a.out < leastOf (takeS s i))) = true then a.out else leastOf (takeS s i) := by
 have hlt := (gS1 h).1
 have ht : s.arcs.take (i + 1) = s.arcs.take i ++ [a] := by rw [List.take_add_one, h]; rfl
 have fold : ∀ (x : Nat) (l : List Nat), (l ++ [a.out]).foldl min x = if a.out < l.foldl min x then a.out else l.foldl min x := fun x l => by
  rw [List.foldl_append]
  simp only [List.foldl_cons, List.foldl_nil]
  by_cases hlt2 : a.out < l.foldl min x
  ·rw [if_pos hlt2, Nat.min_eq_right (by omega)]
  ·rw [if_neg hlt2, Nat.min_eq_left (by omega)]
 unfold leastOf takeS
 simp only [ht, List.map_append, List.map_cons, List.map_nil]
 cases hf : s.final with
 | true =>
  simp only [if_true, List.singleton_append, List.cons_append, Bool.true_or, Bool.not_true, Bool.false_or, decide_eq_true_eq]
  exact fold _ _
 | false =>
  simp only [Bool.false_eq_true, if_false, List.nil_append, Bool.false_or]
  cases i with
  | zero => simp
  | succ i =>
   obtain ⟨y, l, hl⟩ : ∃ y l, (s.arcs.take (i + 1)).map Arc.out = y :: l := by
    cases hl : (s.arcs.take (i + 1)).map Arc.out with
    | nil => have := congrArg List.length hl; simp only [List.length_map, List.length_take, List.length_nil] at this; omega
    | cons y l => exact ⟨y, l, rfl⟩
   rw [hl]
   simp only [List.cons_append, Nat.zero_lt_succ, decide_true, Bool.not_true, Bool.false_or, decide_eq_true_eq]
   exact fold _ _
theorem least34 (w : World) (g o : Nat) (s : State) (B : Nat -> Prop) (av : Value) (hs : SAt w B g o av s) (hos : okS s) : Calls Tryz.prog 90 #[.pointer (some ⟨g, o, none⟩)] w fun e w1 => e = .returned (.int .u64 (leastOf s)) /\ Below w.heap.size w w1 := by
 refine Zn1 39 Tryz.func90 fun fr hf s0 => ?_
 have c1 := hs.c1
 have c2 := hs.c2
 have c0 := hs.c0
 have ha := hs.arcs
 obtain ⟨A, cc, rfl, hcc⟩ := ha.form
 have hlen := hos.2.1
 have hoo := hos.2.2
 clear hs
 refine Ze fun _ hK1 => Zr [] hf ?_
 refine Zq1 0 hf ?_
 clear hf s0; intro fr1 hf s0
 refine Zs hK1 fun _ hK2 => Stab.tb 39 fun hok => ?_
 refine Stab.mO 0 s0 hf hok ?_
 refine Stab.T 1 hf hok (fun _ _ h d => Stab.vd 0 0 d []) ?_
 refine Stab.T 2 hf hok (fun _ _ h d => Stab.vd 1 0 d []) ?_
 refine Stab.T 3 hf hok (fun _ _ h d => Stab.vd 2 0 d []) ?_
 refine Stab.T 4 hf hok (fun _ _ h d => ad (Stab.vd 3 0 d []) (ad (cL h.ext c0) (ad (cL h.ext c1) (ad (cL h.ext c2) (ha.later h.ext))))) ?_
 refine Stab.mO 5 s0 hf hok ?_
 refine Stab.T 6 hf hok (fun _ _ h d => Stab.vd 5 0 d []) ?_
 refine Stab.T 7 hf hok (fun _ _ h d => Stab.vd 6 0 d []) ?_
 refine Stab.T 8 hf hok (fun _ _ h d => Stab.vd 7 0 d []) ?_
 refine Stab.T 9 hf hok (fun _ _ h d => ad (Stab.vd 8 0 d []) (ad (cL h.ext c0) (ad (cL h.ext c1) (ad (cL h.ext c2) (ha.later h.ext))))) ?_
 refine Stab.mN 10 4 5 hf hok [] ?_
 refine Stab.mN 11 9 1 hf hok [] ?_
 refine Stab.E hf hok (fun _ _ h g => ad (Stab.O h s0) (ad (Stab.f 10 1 g) (Stab.f 11 0 g))) ?_
 clear hf hok s0; intro fr1 w1 hf hx sS
 replace c0 := cL hx c0
 replace c1 := cL hx c1
 replace c2 := cL hx c2
 replace ha := ha.later hx
 refine Zs hK2 fun _ hK3 => Ze fun _ hK4 => Zr [17, 18, 19, 20, 21] hf ?_
 refine Zq5 3 4 21 22 23 hf ?_
 clear hf sS; intro fr1 hf sS
 refine Zx hK4 (wp_block ?_)
 clear c1 c2
 refine wp_loop_ghost (fun gk fr wr => ∃ (i : Nat), gk = s.arcs.length - i /\ i <= s.arcs.length /\ Fact.Fr 39 fr /\ fr.tmps[3]? = some (.int .u64 (leastOf (takeS s i))) /\ fr.tmps[4]? = some (.bool (s.final || decide (0 < i))) /\ fr.tmps[21]? = some (.slice A s.arcs.length cc) /\ fr.tmps[22]? = some (.int .i64 s.arcs.length) /\ fr.tmps[23]? = some (.int .i64 i) /\ Below w1.heap.size w1 wr) (s.arcs.length) ?_ ?_
 . (
 obtain ⟨s3, s4, s21, s22, s23⟩ := sS
 exact ⟨0, rfl, Nat.zero_le _, hf, by rw [s3, least_zero], by rw [s4]; simp, s21, s22, s23, Below.refl _ _⟩)
 . (
 clear hf sS
 rintro gk fr wr ⟨i, hk, hi, hf, s3, s4, s21, s22, s23, hb⟩
 have HK := Lib.hid hk; clear hk
 refine Ze fun _ hK5 => Zr [] hf ?_
 refine Zq6 3 4 21 22 23 24 hf ?_
 clear hf s3 s4 s21 s22 s23; intro fr1 hf sS
 refine Zs hK5 fun _ hK6 => Fact.cond_s sS.2.2.2.2.2 (fun hq => ?_) (fun hq => ?_)
 . (
 have hlt : i < s.arcs.length := by have h9 := of_decide_eq_true hq; omega
 obtain ⟨a, hia⟩ : ∃ a, s.arcs[i]? = some a := ⟨_, gE1 hlt⟩
 obtain ⟨b, off, rfl, hbl, d0, d1, d2⟩ := (ha.later hb).at' hia
 have hst := least_step hia
 have HS := Lib.hid hst
 have HA := Lib.hid hia
 clear hst hia
 refine wp_skip (Zs hK6 fun _ hK7 => wp_block (Ze fun _ hK8 => Zr [25, 26, 6] hf ?_))
 refine Zq6 3 4 6 21 22 23 hf ?_
 clear hf sS; intro fr1 hf sS
 clear d0 d1 d2 hbl
 generalize hW0 : wr.alloc (.cells #[.int .u8 a.byte, .int .u64 a.out, .int .i64 a.to] 71) = W0
 obtain ⟨hb2, -, x1, -, -, -⟩ := box3 hW0
 clear hW0
 refine Zx hK8 ?_
 rcases hany : (s.final || decide (0 < i)) with _ | _
 . (
 obtain ⟨s3, s4, s6, s21, s22, s23⟩ := sS
 try rw [hany] at s4
 refine Ze fun _ hK9 => rg ?_
 have bB := hf.B7 27 28 29 30 31 32 33
 iterate 3 refine Zy ?_
 refine Zk ?_ (hv := by simp (decide := true) only [Fact.G, reduceIte, hf.size, Fact.N, hany, Fact.N])
 refine Zk ?_ (hv := by simp (decide := true) only [Fact.G, reduceIte, hf.size, Fact.N, hany, Fact.N])
 refine Zk ?_ (hv := by simp (decide := true) only [Fact.G, reduceIte, hf.size, Fact.N, hany, Fact.N])
 refine Zk ?_ (hv := by simp (decide := true) only [Fact.G, reduceIte, hf.size, Fact.N, hany, Fact.N])
 refine Zy ?_
 refine Fact.nil (Zq7 3 4 6 21 22 23 34 hf ?_)
 clear hf s3 s4 s6 s21 s22 s23 bB; intro fr1 hf sS
 refine Zx hK9 (Fact.cond_s sS.2.2.2.2.2.2 (fun hq2 => ?_) (fun hq2 => ?_))
 . (
 have hs2 := HS.out
 rw [hany] at hs2
 try simp only [Bool.not_true, Bool.not_false, Bool.false_or, Bool.true_or, if_true] at hs2
 have HS2 := Lib.hid hs2
 clear hs2
 refine Zr [35, 36] hf ?_
 refine Zq5 3 4 21 22 23 hf ?_
 clear hf sS; intro fr1 hf sS
 refine Fact.block_normal (Zx hK7 (Zr [37] hf ?_))
 refine Zq5 3 4 21 22 23 hf ?_
 clear hf sS; intro fr1 hf sS
 refine Fact.then_normal ?_
 obtain ⟨s3, s4, s21, s22, s23⟩ := sS
 exact ⟨_, by have := HK.out; omega, i + 1, rfl, by omega, hf, by rw [s3, HS2.out], by rw [s4]; simp, s21, s22, by rw [s23]; rfl, hb.trans (hb2.mono hb.size)⟩)
 . (
 have hs2 := HS.out
 rw [hany] at hs2
 try simp only [Bool.not_true, Bool.not_false, Bool.false_or, Bool.true_or, if_true] at hs2
 simp at hq2))
 . (
 obtain ⟨s3, s4, s6, s21, s22, s23⟩ := sS
 try rw [hany] at s4
 refine Ze fun _ hK10 => rg ?_
 have bB := hf.B7 27 28 29 30 31 32 33
 iterate 3 refine Zy ?_
 refine Zg ?_ (hv := by simp (decide := true) only [Fact.G, reduceIte, hf.size, hany, Fact.N])
 refine Zg ?_ (hv := by simp (decide := true) only [Fact.G, reduceIte, hf.size, hany, Fact.N])
 refine Zg ?_ (hv := by simp (decide := true) only [Fact.G, reduceIte, hf.size, hany, Fact.N])
 refine Zg ?_ (hv := by simp (decide := true) only [Fact.G, reduceIte, hf.size, hany, Fact.N])
 refine Zy ?_
 refine Fact.nil (Zq7 3 4 6 21 22 23 34 hf ?_)
 clear hf s3 s4 s6 s21 s22 s23 bB; intro fr1 hf sS
 refine Zx hK10 (Fact.cond_s sS.2.2.2.2.2.2 (fun hq2 => ?_) (fun hq2 => ?_))
 . (
 have hs2 := HS.out
 rw [hany] at hs2
 try simp only [Bool.not_true, Bool.not_false, Bool.false_or, Bool.true_or, if_true] at hs2
 rw [hq2] at hs2
 try simp only [Bool.false_eq_true, if_false, if_true] at hs2
 have HS2 := Lib.hid hs2
 clear hs2
 refine Zr [35, 36] hf ?_
 refine Zq5 3 4 21 22 23 hf ?_
 clear hf sS; intro fr1 hf sS
 refine Fact.block_normal (Zx hK7 (Zr [37] hf ?_))
 refine Zq5 3 4 21 22 23 hf ?_
 clear hf sS; intro fr1 hf sS
 refine Fact.then_normal ?_
 obtain ⟨s3, s4, s21, s22, s23⟩ := sS
 exact ⟨_, by have := HK.out; omega, i + 1, rfl, by omega, hf, by rw [s3, HS2.out], by rw [s4]; simp, s21, s22, by rw [s23]; rfl, hb.trans (hb2.mono hb.size)⟩)
 . (
 have hs2 := HS.out
 rw [hany] at hs2
 try simp only [Bool.not_true, Bool.not_false, Bool.false_or, Bool.true_or, if_true] at hs2
 rw [hq2] at hs2
 try simp only [Bool.false_eq_true, if_false, if_true] at hs2
 have HS2 := Lib.hid hs2
 clear hs2
 refine wp_skip (Fact.block_normal (Zx hK7 (Zr [37] hf ?_)))
 refine Zq5 3 4 21 22 23 hf ?_
 clear hf sS; intro fr1 hf sS
 refine Fact.then_normal ?_
 obtain ⟨s3, s4, s21, s22, s23⟩ := sS
 exact ⟨_, by have := HK.out; omega, i + 1, rfl, by omega, hf, by rw [s3, HS2.out], by rw [s4]; simp, s21, s22, by rw [s23]; rfl, hb.trans (hb2.mono hb.size)⟩)))
 . (
 have hie : i = s.arcs.length := by have h9 := of_decide_eq_false hq; omega
 subst hie
 refine Zo ?_
 refine Zs hK3 fun _ hK11 => Zr [38] hf ?_
 refine Zq1 2 hf ?_
 clear hf sS; intro fr1 hf s2
 refine Zx hK11 (Zret ?_)
 exact Fact.ret1 rfl hf s2 ⟨by rw [least_all], hx.trans (hb.mono hx.size)⟩))
def lessTo (l : List Arc) (n i : Nat) : List Arc := (l.take i).map (fun a => ⟨a.byte, a.out - n, a.to⟩) ++ l.drop i
theorem lessTo_zero (l : List Arc) (n : Nat) : lessTo l n 0 = l := by simp [lessTo]
theorem lessTo_all (l : List Arc) (n : Nat) : lessTo l n l.length = l.map (fun a => ⟨a.byte, a.out - n, a.to⟩) := by simp [lessTo]
theorem lessTo_length (l : List Arc) (n i : Nat) : (lessTo l n i).length = l.length := by simp [lessTo]; omega
theorem lessTo_at {l : List Arc} {n i : Nat} {a : Arc} (h : l[i]? = some a) : (lessTo l n i)[i]? = some a := by
 have hlt := (gS1 h).1
 unfold lessTo
 rw [List.getElem?_append_right (by simp; omega)]
 simp
 rw [<- h]
 congr 1
 omega
theorem lessTo_succ {l : List Arc} {n i : Nat} {a : Arc} (h : l[i]? = some a) : lessTo l n (i + 1) = (lessTo l n i).set i ⟨a.byte, a.out - n, a.to⟩ := by
 have hlt := (gS1 h).1
 unfold lessTo
 have h1 : l.take (i + 1) = l.take i ++ [a] := by rw [List.take_add_one, h]; rfl
 have h2 : l.drop i = a :: l.drop (i + 1) := by
  rw [List.drop_eq_getElem_cons hlt, (gS1 h).2]
 rw [h1, h2, List.map_append, List.append_assoc, List.set_append_right _ _ (by simp; omega)]
 have h3 : i - ((l.take i).map (fun a : Arc => (⟨a.byte, a.out - n, a.to⟩ : Arc))).length = 0 := by simp; omega
 rw [h3]
 rfl
def outsOf' (s : State) : List Nat := (if s.final then [s.out] else []) ++ s.arcs.map Arc.out
theorem leastOf_cases (s : State) : (outsOf' s = [] /\ leastOf s = s.out) \/ ∃ x l, outsOf' s = x :: l /\ leastOf s = l.foldl min x := by
 unfold leastOf outsOf'
 cases h : (if s.final then [s.out] else []) ++ s.arcs.map Arc.out with
 | nil => exact .inl ⟨rfl, rfl⟩
 | cons x l => exact .inr ⟨x, l, rfl, rfl⟩
theorem foldl_le (l : List Nat) : ∀ x v, v ∈ x :: l -> l.foldl min x <= v := by
 induction l with
 | nil => intro x v h; simp at h; simp [h]
 | cons y l ih =>
  intro x v h
  rw [List.foldl_cons]
  rcases List.mem_cons.1 h with rfl | h
  ·exact Nat.le_trans (ih (min v y) _ (List.mem_cons_self ..)) (Nat.min_le_left _ _)
  ·rcases List.mem_cons.1 h with rfl | h
   ·exact Nat.le_trans (ih (min x v) _ (List.mem_cons_self ..)) (Nat.min_le_right _ _)
   ·exact ih _ v (List.mem_cons_of_mem _ h)
theorem leastOf_le {s : State} {v : Nat} (h : v ∈ outsOf' s) : leastOf s <= v := by
 rcases leastOf_cases s with ⟨h1, _⟩ | ⟨x, l, h1, h2⟩
 ·rw [h1] at h; cases h
 ·rw [h2]; rw [h1] at h; exact foldl_le l x v h
theorem leastOf_arc {s : State} {n i : Nat} {a : Arc} (hn : leastOf s = n) (h : s.arcs[i]? = some a) : n <= a.out := by
 rw [<- hn]
 exact leastOf_le (List.mem_append_right _ (List.mem_map_of_mem (gM1 h)))
theorem leastOf_out {s : State} {n : Nat} (hn : leastOf s = n) (h : s.final = true) : n <= s.out := by
 rw [<- hn]
 refine leastOf_le (List.mem_append_left _ ?_)
 simp [h]
theorem foldl_lt (N : Nat) (l : List Nat) : ∀ x, x < N -> (∀ v ∈ l, v < N) -> l.foldl min x < N := by
 induction l with
 | nil => intro x h _; exact h
 | cons y l ih => intro x h h2; rw [List.foldl_cons]; exact ih _ (by omega) (fun v hv => h2 v (List.mem_cons_of_mem _ hv))
theorem leastOf_lt {s : State} (h : okS s) : leastOf s < 18446744073709551616 := by
 rcases leastOf_cases s with ⟨_, h2⟩ | ⟨x, l, h1, h2⟩
 ·rw [h2]; exact h.1
 ·have hall : ∀ v ∈ x :: l, v < 18446744073709551616 := fun v hv => by
   rw [<- h1] at hv
   rcases List.mem_append.1 hv with hv | hv
   ·split at hv
    ·simp at hv; subst hv; exact h.1
    ·cases hv
   ·obtain ⟨a, ha, rfl⟩ := List.mem_map.1 hv
    exact (h.2.2 a ha).2.1
  rw [h2]
  exact foldl_lt _ l x (hall x (List.mem_cons_self ..)) (fun v hv => hall v (List.mem_cons_of_mem _ hv))
theorem OA.other {w : World} {base g : Nat} {v : Value} {l : List Arc} {cs : Array Value} (h : OA w base v l) (hk : w.heap[g]? = some (.cells cs 126 (0, 0))) : ∀ k, v.ownBlock = some k -> k ≠ g := by
 rintro k hv rfl
 rcases h.2 with ⟨rfl, _⟩ | ⟨g, cap, cur, rfl, _, h3, _⟩
 ·cases hv
 ·injection hv with hv
  subst hv
  rw [hk] at h3
  injection h3 with h3
  injection h3 with _ h4
  cases h4
theorem push48 (w : World) (b i p : Nat) (x n : Nat) (hx : x < 18446744073709551616) (hn : n <= x) (cq : w.cell? ⟨b, i, none⟩ = some (.int .u64 x)) (fq : w.frozen? ⟨b, i, none⟩ = false) (cp : w.cell? ⟨p, 0, none⟩ = some (.int .u64 n)) : Calls Tryz.prog 91 #[.pointer (some ⟨b, i, none⟩), .pointer (some ⟨p, 0, none⟩)] w fun e w1 => e = .returned (.tuple #[]) /\ ∃ w0, Below w.heap.size w w0 /\ w1 = w0.setCell ⟨b, i, none⟩ (.int .u64 (x - n : Nat)) := by
 refine Zn2 9 Tryz.func91 fun fr hf s0 s1 => ?_
 have cq0 := cq
 refine Stab.tb 9 fun hok => ?_
 refine Stab.mO 0 s0 hf hok ?_
 refine Stab.T 1 hf hok (fun _ _ h d => Stab.vd 0 0 d []) ?_
 refine Stab.T 2 hf hok (fun _ _ h d => ad (Stab.vd 1 0 d []) (ad (cL h.ext cq) (cL h.ext cp))) ?_
 refine Stab.T 3 hf hok (fun _ _ h d => ad (Stab.O h s1) (ad (cL h.ext cq) (cL h.ext cp))) ?_
 apply Stab.tq 4 _ hf hok
 . (
 intro fr1 w1 hh hd hk K Z
 have s5 := Stab.v 2 1 hd hk []
 have s6 := Stab.v 3 0 hd hk []
 clear hd
 go_simp
 try simp (disch := omega) only [Fact.W]
 rw [show (x : Int) - (n : Int) = ((x - n : Nat) : Int) by omega]
 exact Stab.k Z)
 refine Stab.T 5 hf hok (fun _ _ h d => Stab.vd 0 4 d []) ?_
 refine Tail.todo_tail (n := 9) (m := 6) (ws := []) (by kernel_rfl) hf.size hok.out rfl rfl (by kernel_rfl) (fun fr1 w1 hh hg => ?_)
 have s7 := Tail.got_is 4 1 hg rfl rfl rfl rfl rfl
 have s8 := Tail.got_is 5 0 hg rfl rfl rfl rfl rfl
 have hf1 := hh.fr hf
 have hx := hh.ext
 replace cq := cL hx cq
 replace cp := cL hx cp
 clear hg hh hf hok s0 s1
 have hf := hf1; clear hf1
 have fq2 := frozen_later hx cq0 fq
 refine Tail.seq_op rfl rfl (fun K Z => ?_)
 go_simp
 apply Z.out; clear Z K
 refine Tail.seq_nil rfl ?_
 refine Zq0 hf ?_
 clear hf s7 s8; intro fr1 hf
 exact Fact.end0 rfl hf ⟨rfl, _, hx, rfl⟩
theorem push30 (w : World) (g by_ base : Nat) (s : State) (av : Value) (hos : okS s) (hbx : w.heap[g]? = some (.cells #[av, .bool s.final, .int .u64 s.out, .int .u8 by_] 126 (0, 0))) (hoa : OA w base av s.arcs) : Calls Tryz.prog 53 #[.pointer (some ⟨g, 0, none⟩)] w fun e w1 => e = .returned (.int .u64 (leastOf s)) /\ w1.heap[g]? = some (.cells #[av, .bool s.final, .int .u64 (less s (leastOf s)).out, .int .u8 by_] 126 (0, 0)) /\ OA w1 base av (less s (leastOf s)).arcs /\ But (fun k => k = g \/ av.ownBlock = some k) w w1 := by
 refine Zn1 41 Tryz.func53 fun fr hf s0 => ?_
 have c0 := cR1 0 hbx
 have c1 := cR1 1 hbx
 have c2 := cR1 2 hbx
 simp at c0 c1 c2
 have hlt := heap_lt hbx
 have hlen := hos.2.1
 have hsa : SAt w (fun _ => True) g 0 av s := ⟨c0, c1, c2, hoa.ra fun _ _ => trivial⟩
 have hne := OA.other hoa hbx
 clear c0 c1 c2
 obtain ⟨n, hn⟩ : ∃ n, leastOf s = n := ⟨_, rfl⟩
 have HN := Lib.hid hn
 have hn64 := leastOf_lt hos
 rw [hn] at hn64
 refine Ze fun _ hK1 => Zr [] hf ?_
 refine Zq1 0 hf ?_
 clear hf s0; intro fr1 hf s0
 refine Zt hK1 fun _ hK2 => ?_
 have bB := hf.B3 6 7 3
 refine Zy ?_
 refine Zc (least34 w g 0 s _ av hsa hos) ?_; rintro e w1 ⟨rfl, hb1⟩
 rw [hn]
 refine Zv ?_
 iterate 2 refine Zy ?_
 refine Fact.nil (Zq2 0 3 hf ?_)
 clear hf s0 bB; intro fr1 hf sS
 generalize hW0 : w1.alloc (.cells #[.int .u64 n] 35) = W0
 obtain ⟨hb2, xp, -, hsz_⟩ := box1 hW0
 clear hW0
 have hsz : w1.heap.size < W0.heap.size := by rw [hsz_]; exact Nat.lt_succ_self _
 clear hsz_
 have hb0 := hb1.trans (hb2.mono hb1.size)
 have hbx0 := (hb0.block g hlt).trans hbx
 have hoa0 := own_later hoa hb0
 have hgp : g ≠ w1.heap.size := by have := hb1.size; omega
 have hw1 := hb1.size
 have c1 := cR1 1 hbx0
 simp at c1
 clear hb1 hb2 hn
 refine Zs hK2 fun _ hK3 => Zr [8] hf ?_
 refine Zq3 0 3 4 hf ?_
 clear hf sS; intro fr1 hf sS
 refine Zs hK3 fun _ hK4 => Ze fun _ hK5 => Zr [9, 10, 11, 12] hf ?_
 refine Zq4 0 3 4 13 hf ?_
 clear hf sS; intro fr1 hf sS
 refine Zx hK5 ?_
 rcases hfin : s.final with _ | _
 . (
 obtain ⟨s0, s3, s4, s13⟩ := sS
 try rw [hfin] at s13
 refine Fact.cond_f s13 ?_
 refine wp_skip (Zx hK4 ?_)
 have hbx1 := hbx0
 have hbt : But (fun k => k = g \/ av.ownBlock = some k) w W0 := But.of _ hb0
 have hoa1 := hoa0
 have xp1 := xp
 clear hbx0 hoa0 xp
 obtain ⟨W1, rfl⟩ : ∃ W1, W0 = W1 := ⟨_, rfl⟩
 have o0 : ∃ so : Nat, so = (if s.final then s.out - n else s.out) := ⟨_, rfl⟩
 obtain ⟨so, hso⟩ := o0
 rw [hfin] at hso hbx1
 simp only [if_true, Bool.false_eq_true, if_false] at hso
 rw [<- hso] at hbx1
 have c0 := cR1 0 hbx1
 simp at c0
 obtain ⟨A, cc, rfl, hcc⟩ := (OA.ra (B := fun _ => True) hoa1 fun _ _ => trivial).form
 have HSO := Lib.hid hso; clear hso c1
 refine Ze fun _ hK6 => Ze fun _ hK7 => Zr [20, 21, 22, 23, 24] hf ?_
 refine Zq5 0 3 4 25 26 hf ?_
 clear hf s0 s3 s4 s13; intro fr1 hf sS
 refine Zx hK7 (wp_block (wp_loop_ghost (fun gk fr wr => ∃ (i : Nat), gk = s.arcs.length - i /\ i <= s.arcs.length /\ Fact.Fr 41 fr /\ fr.tmps[0]? = some (.pointer (some ⟨g, 0, none⟩)) /\ fr.tmps[3]? = some (.pointer (some ⟨w1.heap.size, 0, none⟩)) /\ fr.tmps[4]? = some (.func (.func 91) #[] #[.pointer (some ⟨w1.heap.size, 0, none⟩)]) /\ fr.tmps[25]? = some (.int .i64 s.arcs.length) /\ fr.tmps[26]? = some (.int .i64 i) /\ OA wr base (.slice A s.arcs.length cc) (lessTo s.arcs n i) /\ wr.heap[g]? = some (.cells #[.slice A s.arcs.length cc, .bool false, .int .u64 so, .int .u8 by_] 126 (0, 0)) /\ wr.cell? ⟨w1.heap.size, 0, none⟩ = some (.int .u64 n) /\ But (fun k => k = g \/ (.slice A s.arcs.length cc : Value).ownBlock = some k) w wr) (s.arcs.length) ?_ ?_))
 . (
 obtain ⟨s0, s3, s4, s25, s26⟩ := sS
 exact ⟨0, rfl, Nat.zero_le _, hf, s0, s3, s4, s25, s26, by rw [lessTo_zero]; exact hoa1, hbx1, xp1, hbt⟩)
 . (
 clear hf sS
 rintro gk fr wr ⟨i, hk, hi, hf, s0, s3, s4, s25, s26, hoi, hbi, xpi, hbti⟩
 have HK := Lib.hid hk; clear hk
 clear hoa1 hbx1 xp1 hbt c0
 refine Ze fun _ hK8 => Zr [] hf ?_
 refine Zq6 0 3 4 25 26 27 hf ?_
 clear hf s0 s3 s4 s25 s26; intro fr1 hf sS
 refine Zs hK8 fun _ hK9 => Fact.cond_s sS.2.2.2.2.2 (fun hq => ?_) (fun hq => ?_)
 . (
 have hlt2 : i < s.arcs.length := by have h9 := of_decide_eq_true hq; omega
 obtain ⟨a, hia⟩ : ∃ a, s.arcs[i]? = some a := ⟨_, gE1 hlt2⟩
 have hll := lessTo_length s.arcs n i
 have hia2 := lessTo_at (n := n) hia
 obtain ⟨b, c3, hv3, _, hbw⟩ := OA.own hoi (by omega)
 rw [hll] at hv3
 injection hv3 with hv3
 subst hv3
 have hla := leastOf_arc HN.out hia
 have haa := (hos.2.2 a (gM1 hia)).2.1
 have c0 := cR1 0 hbi
 simp at c0
 have d1 := (OA.cell hoi hia2).2.1
 have HIA := Lib.hid hia; have HIA2 := Lib.hid hia2; clear hia hia2
 have hfz : wr.frozen? ⟨b, i * 3 + 1, none⟩ = false := by have h5 := hoi; unfold OA at h5; rw [hll] at h5; exact h5.frozenAt _
 refine wp_skip (Zs hK9 fun _ hK10 => wp_block (Ze fun _ hK11 => Zr [28] hf ?_))
 refine Zq6 0 3 4 5 25 26 hf ?_
 clear hf sS; intro fr1 hf sS
 refine Zx hK11 (rg ?_)
 have bB := hf.B9 29 30 31 32 33 34 35 36 37
 iterate 7 refine Zy ?_
 refine fp fun K Z => ?_
 go_simp
 try rw [if_pos (by omega)]
 apply Z.out; clear Z K
 refine Zy ?_
 refine Zc (push48 wr b (i * 3 + 1) w1.heap.size a.out n haa hla d1 hfz xpi) ?_; rintro e w6 ⟨rfl, w7, hb7, rfl⟩
 refine Zv ?_
 refine Fact.nil (Zq5 0 3 4 25 26 hf ?_)
 clear hf sS bB; intro fr1 hf sS
 refine Fact.block_normal (Zx hK10 (Zr [39] hf ?_))
 refine Zq5 0 3 4 25 26 hf ?_
 clear hf sS; intro fr1 hf sS
 refine Fact.then_normal ?_
 have hbS := But.setCell (S := fun k => k = b) (w := w7) (p := ⟨b, i * 3 + 1, none⟩) rfl (.int .u64 (a.out - n : Nat))
 have hbg : ¬ (g = b) := fun e => hne b rfl (e.symm)
 obtain ⟨s0, s3, s4, s25, s26⟩ := sS
 refine ⟨_, by have := HK.out; omega, i + 1, rfl, by omega, hf, s0, s3, s4, s25, by rw [s26]; rfl, ?_, hbS.heap ((hb7.block g (heap_lt hbi)).trans hbi) hbg, hbS.cell (cL hb7 xpi) (fun e => ?_), (hbti.trans (But.of _ hb7)).trans (But.setCell (.inr rfl) _)⟩
 . (
 rw [lessTo_succ HIA.out]; exact OA.out (own_later hoi hb7) HIA2.out (by omega) _)
 . (
 have e : w1.heap.size = b := e; have h5 := (hoa.lt b rfl).2; omega))
 . (
 have hie : i = s.arcs.length := by have h9 := of_decide_eq_false hq; omega
 subst hie
 rw [lessTo_all] at hoi
 refine Zo ?_
 refine Zs hK6 fun _ hK12 => Zr [40] hf ?_
 refine Zq1 2 hf ?_
 clear hf sS; intro fr1 hf s2
 refine Zx hK12 (Zret ?_)
 have hno := HSO.out
 subst hno
 have hnn := HN.out
 subst hnn
 refine Fact.ret1 rfl hf s2 ⟨rfl, ?_, ?_, hbti⟩
 . (
 rw [hbi]; simp [less, hfin])
 . (
 simpa [less, hfin] using hoi))))
 . (
 obtain ⟨s0, s3, s4, s13⟩ := sS
 try rw [hfin] at s13
 refine Fact.cond_t s13 ?_
 have c2 := cR1 2 hbx0
 simp at c2
 have hno := leastOf_out HN.out hfin
 refine rg ?_
 have bB := hf.B5 14 15 16 17 18
 iterate 5 refine Zy ?_
 refine Zc (push48 W0 g 2 w1.heap.size s.out n hos.1 hno c2 (frozen_of hbx0) xp) ?_; rintro e w5 ⟨rfl, w4, hb4, rfl⟩
 refine Zv ?_
 refine Fact.nil (Zq3 0 3 4 hf ?_)
 clear hf s0 s3 s4 s13 bB; intro fr1 hf sS
 refine Zx hK4 ?_
 have hbx1 := set_block (i := 2) ((hb4.block g (heap_lt hbx0)).trans hbx0) (.int .u64 (s.out - n : Nat))
 simp at hbx1
 have hbt : But (fun k => k = g \/ av.ownBlock = some k) w (w4.setCell ⟨g, 2, none⟩ (.int .u64 (s.out - n : Nat))) := (But.of _ (hb0.trans (hb4.mono hb0.size))).trans (But.setCell (.inl rfl) _)
 have hoa1 : OA (w4.setCell ⟨g, 2, none⟩ (.int .u64 (s.out - n : Nat))) base av s.arcs := own_but (own_later hoa0 hb4) (But.setCell (S := fun k => k = g) rfl _) (fun k hk e => hne k hk e)
 have xp1 : (w4.setCell ⟨g, 2, none⟩ (.int .u64 (s.out - n : Nat))).cell? ⟨w1.heap.size, 0, none⟩ = some (.int .u64 n) := (But.setCell (S := fun k => k = g) rfl _).cell (cL hb4 xp) (fun e => hgp e.symm)
 obtain ⟨W1, hW1⟩ : ∃ W1, w4.setCell ⟨g, 2, none⟩ (.int .u64 (s.out - n : Nat)) = W1 := ⟨_, rfl⟩
 rw [hW1] at hbx1 hbt hoa1 xp1
 try rw [hW1]
 clear hW1 hbx0 hoa0 xp hb4 c2
 have o0 : ∃ so : Nat, so = (if s.final then s.out - n else s.out) := ⟨_, rfl⟩
 obtain ⟨so, hso⟩ := o0
 rw [hfin] at hso hbx1
 simp only [if_true, Bool.false_eq_true, if_false] at hso
 rw [<- hso] at hbx1
 have c0 := cR1 0 hbx1
 simp at c0
 obtain ⟨A, cc, rfl, hcc⟩ := (OA.ra (B := fun _ => True) hoa1 fun _ _ => trivial).form
 have HSO := Lib.hid hso; clear hso c1
 refine Ze fun _ hK13 => Ze fun _ hK14 => Zr [20, 21, 22, 23, 24] hf ?_
 refine Zq5 0 3 4 25 26 hf ?_
 clear hf sS; intro fr1 hf sS
 refine Zx hK14 (wp_block (wp_loop_ghost (fun gk fr wr => ∃ (i : Nat), gk = s.arcs.length - i /\ i <= s.arcs.length /\ Fact.Fr 41 fr /\ fr.tmps[0]? = some (.pointer (some ⟨g, 0, none⟩)) /\ fr.tmps[3]? = some (.pointer (some ⟨w1.heap.size, 0, none⟩)) /\ fr.tmps[4]? = some (.func (.func 91) #[] #[.pointer (some ⟨w1.heap.size, 0, none⟩)]) /\ fr.tmps[25]? = some (.int .i64 s.arcs.length) /\ fr.tmps[26]? = some (.int .i64 i) /\ OA wr base (.slice A s.arcs.length cc) (lessTo s.arcs n i) /\ wr.heap[g]? = some (.cells #[.slice A s.arcs.length cc, .bool true, .int .u64 so, .int .u8 by_] 126 (0, 0)) /\ wr.cell? ⟨w1.heap.size, 0, none⟩ = some (.int .u64 n) /\ But (fun k => k = g \/ (.slice A s.arcs.length cc : Value).ownBlock = some k) w wr) (s.arcs.length) ?_ ?_))
 . (
 obtain ⟨s0, s3, s4, s25, s26⟩ := sS
 exact ⟨0, rfl, Nat.zero_le _, hf, s0, s3, s4, s25, s26, by rw [lessTo_zero]; exact hoa1, hbx1, xp1, hbt⟩)
 . (
 clear hf sS
 rintro gk fr wr ⟨i, hk, hi, hf, s0, s3, s4, s25, s26, hoi, hbi, xpi, hbti⟩
 have HK := Lib.hid hk; clear hk
 clear hoa1 hbx1 xp1 hbt c0
 refine Ze fun _ hK15 => Zr [] hf ?_
 refine Zq6 0 3 4 25 26 27 hf ?_
 clear hf s0 s3 s4 s25 s26; intro fr1 hf sS
 refine Zs hK15 fun _ hK16 => Fact.cond_s sS.2.2.2.2.2 (fun hq => ?_) (fun hq => ?_)
 . (
 have hlt2 : i < s.arcs.length := by have h9 := of_decide_eq_true hq; omega
 obtain ⟨a, hia⟩ : ∃ a, s.arcs[i]? = some a := ⟨_, gE1 hlt2⟩
 have hll := lessTo_length s.arcs n i
 have hia2 := lessTo_at (n := n) hia
 obtain ⟨b, c3, hv3, _, hbw⟩ := OA.own hoi (by omega)
 rw [hll] at hv3
 injection hv3 with hv3
 subst hv3
 have hla := leastOf_arc HN.out hia
 have haa := (hos.2.2 a (gM1 hia)).2.1
 have c0 := cR1 0 hbi
 simp at c0
 have d1 := (OA.cell hoi hia2).2.1
 have HIA := Lib.hid hia; have HIA2 := Lib.hid hia2; clear hia hia2
 have hfz : wr.frozen? ⟨b, i * 3 + 1, none⟩ = false := by have h5 := hoi; unfold OA at h5; rw [hll] at h5; exact h5.frozenAt _
 refine wp_skip (Zs hK16 fun _ hK17 => wp_block (Ze fun _ hK18 => Zr [28] hf ?_))
 refine Zq6 0 3 4 5 25 26 hf ?_
 clear hf sS; intro fr1 hf sS
 refine Zx hK18 (rg ?_)
 have bB := hf.B9 29 30 31 32 33 34 35 36 37
 iterate 7 refine Zy ?_
 refine fp fun K Z => ?_
 go_simp
 try rw [if_pos (by omega)]
 apply Z.out; clear Z K
 refine Zy ?_
 refine Zc (push48 wr b (i * 3 + 1) w1.heap.size a.out n haa hla d1 hfz xpi) ?_; rintro e w6 ⟨rfl, w7, hb7, rfl⟩
 refine Zv ?_
 refine Fact.nil (Zq5 0 3 4 25 26 hf ?_)
 clear hf sS bB; intro fr1 hf sS
 refine Fact.block_normal (Zx hK17 (Zr [39] hf ?_))
 refine Zq5 0 3 4 25 26 hf ?_
 clear hf sS; intro fr1 hf sS
 refine Fact.then_normal ?_
 have hbS := But.setCell (S := fun k => k = b) (w := w7) (p := ⟨b, i * 3 + 1, none⟩) rfl (.int .u64 (a.out - n : Nat))
 have hbg : ¬ (g = b) := fun e => hne b rfl (e.symm)
 obtain ⟨s0, s3, s4, s25, s26⟩ := sS
 refine ⟨_, by have := HK.out; omega, i + 1, rfl, by omega, hf, s0, s3, s4, s25, by rw [s26]; rfl, ?_, hbS.heap ((hb7.block g (heap_lt hbi)).trans hbi) hbg, hbS.cell (cL hb7 xpi) (fun e => ?_), (hbti.trans (But.of _ hb7)).trans (But.setCell (.inr rfl) _)⟩
 . (
 rw [lessTo_succ HIA.out]; exact OA.out (own_later hoi hb7) HIA2.out (by omega) _)
 . (
 have e : w1.heap.size = b := e; have h5 := (hoa.lt b rfl).2; omega))
 . (
 have hie : i = s.arcs.length := by have h9 := of_decide_eq_false hq; omega
 subst hie
 rw [lessTo_all] at hoi
 refine Zo ?_
 refine Zs hK13 fun _ hK19 => Zr [40] hf ?_
 refine Zq1 2 hf ?_
 clear hf sS; intro fr1 hf s2
 refine Zx hK19 (Zret ?_)
 have hno := HSO.out
 subst hno
 have hnn := HN.out
 subst hnn
 refine Fact.ret1 rfl hf s2 ⟨rfl, ?_, ?_, hbti⟩
 . (
 rw [hbi]; simp [less, hfin])
 . (
 simpa [less, hfin] using hoi))))
open Go.RowKit Go.Maps
theorem own_take {w : World} {base n cap size b : Nat} {e : TypeId} {xs : List Value} (h : w.ownsRow base e size (.slice (some ⟨b, 0, none⟩) (n + 1) cap) (n + 1) xs) : w.ownsRow base e size (.slice (some ⟨b, 0, none⟩) n cap) n (xs.take (n * size)) := by
 rcases h.2 with ⟨h', _⟩ | ⟨b', cap', cur, h', hb, hg, hnc, hcm, hcs, htake⟩
 ·simp at h'
 ·simp only [Value.slice.injEq, Option.some.injEq, Addr.mk.injEq, and_true, true_and] at h'
  obtain ⟨rfl, rfl⟩ := h'
  have hl : n * size <= (n + 1) * size := Nat.mul_le_mul_right _ (by omega)
  refine ⟨by rw [List.length_take, h.1]; omega, .inr ⟨b, cap, cur, rfl, hb, hg, by omega, hcm, hcs, ?_⟩⟩
  rw [<- htake, List.take_take, Nat.min_eq_left hl]
theorem own_ne {w : World} {base base' n n' size size' : Nat} {e e' : TypeId} {v v' : Value} {xs xs' : List Value} (h : w.ownsRow base e size v n xs) (h' : w.ownsRow base' e' size' v' n' xs') (he : e ≠ e') {b : Nat} (hv : v.ownBlock = some b) : v'.ownBlock ≠ some b := by
 intro hv'
 rcases h.2 with ⟨rfl, _⟩ | ⟨g, cap, cur, rfl, _, h3, _⟩
 ·cases hv
 rcases h'.2 with ⟨rfl, _⟩ | ⟨g', cap', cur', rfl, _, h3', _⟩
 ·cases hv'
 injection hv with hv; injection hv' with hv'
 subst hv; subst hv'
 rw [h3] at h3'
 injection h3' with h3'
 injection h3' with _ h4
 exact he h4
def WCells (w : World) (base : Nat) (own : Nat -> Nat) (cells : List Value) (W : List Open) : Prop := ∀ (i : Nat) (o : Open), W[i]? = some o -> ∃ av, cells[i * 4]? = some av /\ cells[i * 4 + 1]? = some (.bool o.st.final) /\
 cells[i * 4 + 2]? = some (.int .u64 o.st.out) /\ cells[i * 4 + 3]? = some (.int .u8 o.by_) /\ OA w base av o.st.arcs /\ ∀ k, av.ownBlock = some k -> own k = 6 + i
structure Bld (w : World) (base : Nat) (own : Nat -> Nat) (g : Nat) (sv : Value) (mb : Nat) (ss : List State) (wv : Value) (j : Nat) (way : List Open) : Prop where
 reg : Reg w base own g 123 [wv] sv mb ss
 row : ∃ cells, w.ownsRow base 126 4 wv (way.length + j) cells /\ (∀ k, wv.ownBlock = some k -> own k = 5) /\ WCells w base own cells way.reverse
section
variable {w w' : World} {base g mb j : Nat} {own own' : Nat -> Nat} {sv wv : Value} {ss : List State} {way : List Open} {S : Nat -> Prop}
theorem Bld.but (h : Bld w base own g sv mb ss wv j way) (hb : But S w w') (hS : ∀ k, S k -> own k = 0 \/ 6 + way.length <= own k) : Bld w' base own g sv mb ss wv j way := by
 obtain ⟨cells, h1, h2, h3⟩ := h.row
 refine ⟨h.reg.but hb (fun k hk => by have := hS k hk; omega), cells, own_but h1 hb (fun k hk hs => by have := hS k hs; have := h2 k hk; omega), h2, fun i o hi => ?_⟩
 obtain ⟨av, h4, h5, h6, h7, h8, h9⟩ := h3 i o hi
 have hil := (gS1 hi).1
 rw [List.length_reverse] at hil
 exact ⟨av, h4, h5, h6, h7, own_but h8 hb (fun k hk hs => by have := hS k hs; have := h9 k hk; omega), h9⟩
theorem Bld.later (h : Bld w base own g sv mb ss wv j way) (hb : Below w.heap.size w w') : Bld w' base own g sv mb ss wv j way := h.but (But.of (fun _ => False) hb) (fun _ hf => hf.elim)
theorem Bld.told (h : Bld w base own g sv mb ss wv j way) (hlo : ∀ k, k < base -> own' k = 4) (hk : ∀ k, k < w.heap.size -> 1 <= own k -> own k < 6 + way.length -> own' k = own k) : Bld w base own' g sv mb ss wv j way := by
 obtain ⟨cells, h1, h2, h3⟩ := h.row
 refine ⟨h.reg.told hlo (fun k hlt h4 h5 => hk k hlt h4 (by omega)), cells, h1, fun k hk' => ?_, fun i o hi => ?_⟩
 ·have := h2 k hk'; rw [hk k (h1.lt k hk').2 (by omega) (by omega)]; exact this
 ·obtain ⟨av, h4, h5, h6, h7, h8, h9⟩ := h3 i o hi
  have hil := (gS1 hi).1
  rw [List.length_reverse] at hil
  exact ⟨av, h4, h5, h6, h7, h8, fun k hk' => by have := h9 k hk'; rw [hk k (h8.lt k hk').2 (by omega) (by omega)]; exact this⟩
theorem Bld.forget {o : Open} (h : Bld w base own g sv mb ss wv j (o :: way)) : Bld w base own g sv mb ss wv (j + 1) way := by
 obtain ⟨cells, h1, h2, h3⟩ := h.row
 refine ⟨h.reg, cells, by rw [show way.length + (j + 1) = (o :: way).length + j by simp; omega]; exact h1, h2, fun i x hi => h3 i x ?_⟩
 rw [List.reverse_cons, List.getElem?_append_left (gS1 hi).1]
 exact hi
theorem Bld.top {o : Open} (h : Bld w base own g sv mb ss wv 0 (o :: way)) : ∃ wb c av, wv = .slice (some ⟨wb, 0, none⟩) (way.length + 1) c /\ way.length + 1 <= c /\ own wb = 5 /\ w.cell? ⟨wb, way.length * 4, none⟩ = some av /\ w.cell? ⟨wb, way.length * 4 + 1, none⟩ = some (.bool o.st.final) /\
  w.cell? ⟨wb, way.length * 4 + 2, none⟩ = some (.int .u64 o.st.out) /\ w.cell? ⟨wb, way.length * 4 + 3, none⟩ = some (.int .u8 o.by_) /\ OA w base av o.st.arcs /\ ∀ k, av.ownBlock = some k -> own k = 6 + way.length := by
 obtain ⟨cells, h1, h2, h3⟩ := h.row
 rcases h1.2 with ⟨_, h0⟩ | ⟨wb, c, cur, rfl, _, hh, hc, _⟩
 ·simp at h0
 ·simp only [List.length_cons, Nat.add_zero] at h1 hc
  obtain ⟨av, h4, h5, h6, h7, h8, h9⟩ := h3 way.length o (by rw [List.reverse_cons, List.getElem?_append_right (by simp)]; simp)
  have e : ∀ i, i < 4 -> w.cell? ⟨wb, way.length * 4 + i, none⟩ = cells[way.length * 4 + i]? := fun i hi => h1.cellAt _ (by omega)
  refine ⟨wb, c, av, rfl, hc, h2 wb rfl, ?_, ?_, ?_, ?_, h8, h9⟩
  ·rw [show way.length * 4 = way.length * 4 + 0 from rfl, e 0 (by omega)]; exact h4
  ·rw [e 1 (by omega)]; exact h5
  ·rw [e 2 (by omega)]; exact h6
  ·rw [e 3 (by omega)]; exact h7
theorem Reg.set2 {t : TypeId} (h : Reg w base own g t [wv] sv mb ss) (u : Value) : Reg (w.setCell ⟨g, 2, none⟩ u) base own g t [u] sv mb ss := by
 obtain ⟨cells, h1, h2, h3⟩ := h.row
 have hb : But (fun k => k = g) w (w.setCell ⟨g, 2, none⟩ u) := But.setCell (S := fun k => k = g) rfl _
 have hog := h.og
 refine ⟨h.lo, ?_, h.og, h.om, map_but h.map hb (fun e => h.mb_ne e.symm), ⟨cells, own_but h1 hb (fun k hk e => by subst e; have := h2 _ hk; omega), h2, fun i s hi => ?_⟩, h.nodup, h.good⟩
 ·rw [set_block h.box u]; rfl
 ·obtain ⟨av, h4, h5, h6, h7⟩ := h3 i s hi
  exact ⟨av, h4, h5, h6, h7.but hb (fun k hk e => by subst e; omega)⟩
theorem Bld.cut {wb n c : Nat} (h : Bld w base own g sv mb ss (.slice (some ⟨wb, 0, none⟩) n c) 1 way) (hn : n = way.length + 1) : Bld (w.setCell ⟨g, 2, none⟩ (.slice (some ⟨wb, 0, none⟩) way.length c)) base own g sv mb ss (.slice (some ⟨wb, 0, none⟩) way.length c) 0 way := by
 subst hn
 obtain ⟨cells, h1, h2, h3⟩ := h.row
 have hb : But (fun k => k = g) w (w.setCell ⟨g, 2, none⟩ (.slice (some ⟨wb, 0, none⟩) way.length c)) := But.setCell (S := fun k => k = g) rfl _
 have hog := h.reg.og
 refine ⟨h.reg.set2 _, _, own_but (own_take h1) hb (fun k hk e => by subst e; have := h2 _ hk; omega), h2, fun i o hi => ?_⟩
 obtain ⟨av, h4, h5, h6, h7, h8, h9⟩ := h3 i o hi
 have hil := (gS1 hi).1
 rw [List.length_reverse] at hil
 exact ⟨av, by rw [List.getElem?_take_of_lt (by omega)]; exact h4, by rw [List.getElem?_take_of_lt (by omega)]; exact h5, by rw [List.getElem?_take_of_lt (by omega)]; exact h6, by rw [List.getElem?_take_of_lt (by omega)]; exact h7,
  own_but h8 hb (fun k hk e => by subst e; have := h9 _ hk; omega), h9⟩
theorem Bld.recall {wb n c : Nat} {o : Open} {av : Value} {cells : List Value} (hreg : Reg w base own g 123 [.slice (some ⟨wb, 0, none⟩) n c] sv mb ss) (hn : n = way.length + 1) (hrow : w.ownsRow base 126 4 (.slice (some ⟨wb, 0, none⟩) n c) n cells) (hwb : own wb = 5) (hW : WCells w base own cells way.reverse)
  (c0 : cells[way.length * 4]? = some av) (c1 : cells[way.length * 4 + 1]? = some (.bool o.st.final)) (c2 : cells[way.length * 4 + 2]? = some (.int .u64 o.st.out)) (c3 : cells[way.length * 4 + 3]? = some (.int .u8 o.by_))
  (hoa : OA w base av o.st.arcs) (hav : ∀ k, av.ownBlock = some k -> own k = 6 + way.length) : Bld w base own g sv mb ss (.slice (some ⟨wb, 0, none⟩) n c) 0 (o :: way) := by
 subst hn
 refine ⟨hreg, cells, hrow, fun k hk => by injection hk with hk; subst hk; exact hwb, fun i x hi => ?_⟩
 by_cases hlt : i < way.length
 ·exact hW i x (by rw [List.reverse_cons, List.getElem?_append_left (by simpa using hlt)] at hi; exact hi)
 ·rw [List.reverse_cons, List.getElem?_append_right (by simpa using hlt)] at hi
  have hi0 : i - way.reverse.length = 0 := by
   have := (gS1 hi).1
   simp at this |-
   omega
  rw [hi0] at hi
  injection hi with hi
  subst hi
  have hie : i = way.length := by simp at hi0 hlt; omega
  subst hie
  exact ⟨av, c0, c1, c2, c3, hoa, hav⟩
theorem Reg.tell {t e' : TypeId} {xs : List Value} {v : Value} {n x size' : Nat} {cs : List Value} (h : Reg w base own g t xs sv mb ss) (hv : w.ownsRow base e' size' v n cs) (he : (46 : TypeId) ≠ e') (hk : ∀ b, v.ownBlock = some b -> own b = 0 \/ own b = 2 \/ 5 <= own b) :
  Reg w base (fun b => if v.ownBlock = some b then x else own b) g t xs sv mb ss := by
 obtain ⟨cells, h1, h2, h3⟩ := h.row
 have e : ∀ b, v.ownBlock ≠ some b -> (if v.ownBlock = some b then x else own b) = own b := fun b hb => if_neg hb
 refine ⟨fun k hk' => ?_, h.box, ?_, ?_, h.map, ⟨cells, h1, fun k hk' => ?_, fun i s hi => ?_⟩, h.nodup, h.good⟩
 ·rw [e k (fun h4 => by have := (hv.lt k h4).1; omega)]; exact h.lo k hk'
 ·show (if v.ownBlock = some g then x else own g) = 1; rw [e g (fun h4 => by have := hk g h4; have := h.og; omega)]; exact h.og
 ·show (if v.ownBlock = some mb then x else own mb) = 3; rw [e mb (fun h4 => by have := hk mb h4; have := h.om; omega)]; exact h.om
 ·show (if v.ownBlock = some k then x else own k) = 2; rw [e k (own_ne h1 hv he hk')]; exact h2 k hk'
 ·obtain ⟨av, h4, h5, h6, h7⟩ := h3 i s hi
  exact ⟨av, h4, h5, h6, h7.more (fun k _ hk4 => by show (if v.ownBlock = some k then x else own k) = 4; rw [e k (fun h8 => by have := hk k h8; omega)]; exact hk4)⟩
theorem Bld.cell2 (h : Bld w base own g sv mb ss wv j way) : w.cell? ⟨g, 2, none⟩ = some wv := by rw [cR1 2 h.reg.box]; rfl
end
theorem Bld.closed {w2 w3 : World} {base g mb : Nat} {own4 ownF : Nat -> Nat} {svr svF avu v : Value} {ssr ss2 : List State} {wb c : Nat} {up : Open} {rest : List Open} {a : Arc} {cells : List Value}
  (h4 : Bld w2 base own4 g svr mb ssr (.slice (some ⟨wb, 0, none⟩) (rest.length + 1) c) 0 (up :: rest)) (hA1 : ∀ k, k < w2.heap.size -> ownF k = own4 k) (hA2 : ∀ k, w2.heap.size <= k -> ownF k = 0 \/ ownF k = 2)
  (hreg : Reg w3 base ownF g 123 [.slice (some ⟨wb, 0, none⟩) (rest.length + 1) c] svF mb ss2) (hv : w3.ownsRow base 71 3 v (up.st.arcs.length + 1) (acs up.st.arcs ++ a.cells))
  (hvb : v.ownBlock = avu.ownBlock \/ ∃ k, v.ownBlock = some k /\ w2.heap.size <= k) (havu : ∀ k, avu.ownBlock = some k -> own4 k = 6 + rest.length /\ k < w2.heap.size)
  (hrow2 : w2.ownsRow base 126 4 (.slice (some ⟨wb, 0, none⟩) (rest.length + 1) c) (rest.length + 1) cells) (hwb : own4 wb = 5) (hW : WCells w2 base own4 cells (up :: rest).reverse)
  (hrow3 : w3.ownsRow base 126 4 (.slice (some ⟨wb, 0, none⟩) (rest.length + 1) c) (rest.length + 1) (cells.set (rest.length * 4) v)) (hbt : But (fun k => (own4 k = 1 \/ own4 k = 2 \/ own4 k = 3) \/ avu.ownBlock = some k \/ k = wb) w2 w3) :
  Bld w3 base (fun b => if v.ownBlock = some b then 6 + rest.length else ownF b) g svF mb ss2 (.slice (some ⟨wb, 0, none⟩) (rest.length + 1) c) 0 (⟨⟨up.st.final, up.st.out, up.st.arcs ++ [a]⟩, up.by_⟩ :: rest) := by
 have hcl := hrow2.1
 have hwlt : wb < w2.heap.size := (hrow2.lt wb rfl).2
 have hvk : ∀ b, v.ownBlock = some b -> (b < w2.heap.size /\ own4 b = 6 + rest.length) \/ w2.heap.size <= b := fun b hb => by
  rcases hvb with h | ⟨k, h, hk⟩
  ·rw [hb] at h; have := havu b h.symm; exact .inl ⟨this.2, this.1⟩
  ·rw [hb] at h; injection h with h; subst h; exact .inr hk
 have hne : ∀ b, b < w2.heap.size -> own4 b ≠ 6 + rest.length -> (if v.ownBlock = some b then 6 + rest.length else ownF b) = own4 b := fun b hb hn => by
  rw [if_neg (fun h => by rcases hvk b h with h | h; exact hn h.2; omega)]
  exact hA1 b hb
 refine Bld.recall (av := v) (hreg.tell hv (by decide) (fun b hb => ?_)) rfl hrow3 ?_ (fun i o hi => ?_) ?_ ?_ ?_ ?_ ?_ (fun k hk => if_pos hk)
 ·rcases hvk b hb with h | h
  ·rw [hA1 b h.1]; omega
  ·have := hA2 b h; omega
 ·rw [hne wb hwlt (by omega)]; exact hwb
 ·have hil := (gS1 hi).1
  rw [List.length_reverse] at hil
  obtain ⟨av, h1, h2, h3, h5, h6, h7⟩ := hW i o (by rw [List.reverse_cons, List.getElem?_append_left (by simpa using hil)]; exact hi)
  refine ⟨av, ?_, ?_, ?_, ?_, own_but h6 hbt (fun k hk hs => ?_), fun k hk => ?_⟩
  ·rw [List.getElem?_set_ne (by omega)]; exact h1
  ·rw [List.getElem?_set_ne (by omega)]; exact h2
  ·rw [List.getElem?_set_ne (by omega)]; exact h3
  ·rw [List.getElem?_set_ne (by omega)]; exact h5
  ·have h8 := h7 k hk
   rcases hs with hs | hs | rfl
   ·omega
   ·have := (havu k hs).1; omega
   ·omega
  ·have h8 := h7 k hk
   rw [hne k (h6.lt k hk).2 (by omega)]; exact h8
 all_goals (obtain ⟨av, h1, h2, h3, h5, h6, h7⟩ := hW rest.length up (by rw [List.reverse_cons, List.getElem?_append_right (by simp)]; simp))
 ·rw [List.getElem?_set_self (by omega)]
 ·rw [List.getElem?_set_ne (by omega)]; exact h2
 ·rw [List.getElem?_set_ne (by omega)]; exact h3
 ·rw [List.getElem?_set_ne (by omega)]; exact h5
 ·show w3.ownsRow base 71 3 v (up.st.arcs ++ [a]).length (acs (up.st.arcs ++ [a]))
  rw [List.length_append, acs_append]
  simpa [acs] using hv
theorem Bld.opened {w2 w3 : World} {base g mb x : Nat} {own : Nat -> Nat} {sv wv v : Value} {ss : List State} {way : List Open} {cells : List Value}
  (h : Bld w2 base own g sv mb ss wv 0 way) (hrow2 : w2.ownsRow base 126 4 wv way.length cells) (hwb : ∀ k, wv.ownBlock = some k -> own k = 5) (hW : WCells w2 base own cells way.reverse)
  (hge : ∀ k, w2.heap.size <= k -> own k = 0) (hbox : w3.heap[g]? = some (.cells (sv :: .map (some mb) :: [v]).toArray 123 (0, 0))) (hbt : But (fun k => wv.ownBlock = some k \/ k = g) w2 w3)
  (hv : w3.ownsRow base 126 4 v (way.length + 1) (cells ++ [.slice none 0 0, .bool false, .int .u64 0, .int .u8 x])) (hvb : v.ownBlock = wv.ownBlock \/ ∃ k, v.ownBlock = some k /\ w2.heap.size <= k) :
  Bld w3 base (fun b => if v.ownBlock = some b then 5 else own b) g sv mb ss v 0 (⟨zeroS, x⟩ :: way) := by
 have hcl := hrow2.1
 have hog := h.reg.og
 obtain ⟨sc, h1, h2, h3⟩ := h.reg.row
 have hreg : Reg w3 base own g 123 [v] sv mb ss := by
  refine ⟨h.reg.lo, hbox, h.reg.og, h.reg.om, map_but h.reg.map hbt (fun hs => ?_), ⟨sc, own_but h1 hbt (fun k hk hs => ?_), h2, fun i s hi => ?_⟩, h.reg.nodup, h.reg.good⟩
  ·have := h.reg.om
   rcases hs with hs | hs
   ·have := hwb mb hs; omega
   ·exact h.reg.mb_ne hs.symm
  ·have := h2 k hk
   rcases hs with hs | rfl
   ·have := hwb k hs; omega
   ·omega
  ·obtain ⟨av, h4, h5, h6, h7⟩ := h3 i s hi
   refine ⟨av, h4, h5, h6, h7.but hbt (fun k hk hs => ?_)⟩
   rcases hs with hs | rfl
   ·have := hwb k hs; omega
   ·omega
 have hvk : ∀ b, v.ownBlock = some b -> own b = 0 \/ own b = 5 := fun b hb => by
  rcases hvb with h8 | ⟨k, h8, hk⟩
  ·rw [hb] at h8; exact .inr (hwb b h8.symm)
  ·rw [hb] at h8; injection h8 with h8; subst h8; exact .inl (hge b hk)
 have hne : ∀ b, 6 <= own b -> (if v.ownBlock = some b then 5 else own b) = own b := fun b hb => if_neg (fun h8 => by have := hvk b h8; omega)
 refine ⟨hreg.tell hv (by decide) (fun b hb => by have := hvk b hb; omega), _, by simpa using hv, fun k hk => if_pos hk, fun i o hi => ?_⟩
 by_cases hlt : i < way.length
 ·rw [List.reverse_cons, List.getElem?_append_left (by simpa using hlt)] at hi
  obtain ⟨av, h4, h5, h6, h7, h8, h9⟩ := hW i o hi
  refine ⟨av, ?_, ?_, ?_, ?_, own_but h8 hbt (fun k hk hs => ?_), fun k hk => ?_⟩
  ·rw [List.getElem?_append_left (by omega)]; exact h4
  ·rw [List.getElem?_append_left (by omega)]; exact h5
  ·rw [List.getElem?_append_left (by omega)]; exact h6
  ·rw [List.getElem?_append_left (by omega)]; exact h7
  ·have := h9 k hk
   rcases hs with hs | rfl
   ·have := hwb k hs; omega
   ·omega
  ·have := h9 k hk
   show (if v.ownBlock = some k then 5 else own k) = 6 + i
   rw [hne k (by omega)]; exact this
 ·rw [List.reverse_cons, List.getElem?_append_right (by simpa using hlt)] at hi
  have hi0 : i - way.reverse.length = 0 := by
   have := (gS1 hi).1
   simp at this |-
   omega
  rw [hi0] at hi
  injection hi with hi
  subst hi
  have hie : i = way.length := by simp at hi0 hlt; omega
  subst hie
  refine ⟨.slice none 0 0, ?_, ?_, ?_, ?_, OA.nil_ _ _, fun k hk => by cases hk⟩
  ·rw [List.getElem?_append_right (by omega), hcl, Nat.sub_self]; rfl
  ·rw [List.getElem?_append_right (by omega), hcl, show way.length * 4 + 1 - way.length * 4 = 1 by omega]; rfl
  ·rw [List.getElem?_append_right (by omega), hcl, show way.length * 4 + 2 - way.length * 4 = 2 by omega]; rfl
  ·rw [List.getElem?_append_right (by omega), hcl, show way.length * 4 + 3 - way.length * 4 = 3 by omega]; rfl
theorem Bld.marked {w : World} {base g mb wb n c x : Nat} {own : Nat -> Nat} {sv : Value} {ss : List State} {o : Open} {way : List Open} (h : Bld w base own g sv mb ss (.slice (some ⟨wb, 0, none⟩) n c) 0 (o :: way)) (hn : n = way.length + 1) :
  Bld ((w.setCell ⟨wb, way.length * 4 + 1, none⟩ (.bool true)).setCell ⟨wb, way.length * 4 + 2, none⟩ (.int .u64 x)) base own g sv mb ss (.slice (some ⟨wb, 0, none⟩) n c) 0 (⟨⟨true, x, o.st.arcs⟩, o.by_⟩ :: way) := by
 subst hn
 obtain ⟨cells, h1, h2, h3⟩ := h.row
 have hwb := h2 wb rfl
 have hb : But (fun k => k = wb) w ((w.setCell ⟨wb, way.length * 4 + 1, none⟩ (.bool true)).setCell ⟨wb, way.length * 4 + 2, none⟩ (.int .u64 x)) := (But.setCell (S := fun k => k = wb) rfl _).trans (But.setCell (S := fun k => k = wb) rfl _)
 simp only [List.length_cons, Nat.add_zero] at h1
 have hr := ((h1.stored (way.length * 4 + 1) (.bool true)).1.stored (way.length * 4 + 2) (.int .u64 x)).1
 have hcl := h1.1
 refine Bld.recall (cells := (cells.set (way.length * 4 + 1) (.bool true)).set (way.length * 4 + 2) (.int .u64 x)) (av := (h3 way.length o (by rw [List.reverse_cons, List.getElem?_append_right (by simp)]; simp)).choose) (h.reg.but hb (fun k hk => by subst hk; omega)) rfl hr hwb (fun i p hi => ?_) ?_ ?_ ?_ ?_ ?_ ?_
 ·have hil := (gS1 hi).1
  rw [List.length_reverse] at hil
  obtain ⟨av, h4, h5, h6, h7, h8, h9⟩ := h3 i p (by rw [List.reverse_cons, List.getElem?_append_left (by simpa using hil)]; exact hi)
  refine ⟨av, ?_, ?_, ?_, ?_, own_but h8 hb (fun k hk hs => by subst hs; have := h9 _ hk; omega), h9⟩
  ·rw [List.getElem?_set_ne (by omega), List.getElem?_set_ne (by omega)]; exact h4
  ·rw [List.getElem?_set_ne (by omega), List.getElem?_set_ne (by omega)]; exact h5
  ·rw [List.getElem?_set_ne (by omega), List.getElem?_set_ne (by omega)]; exact h6
  ·rw [List.getElem?_set_ne (by omega), List.getElem?_set_ne (by omega)]; exact h7
 all_goals (have hch := (h3 way.length o (by rw [List.reverse_cons, List.getElem?_append_right (by simp)]; simp)).choose_spec; obtain ⟨h4, h5, h6, h7, h8, h9⟩ := hch)
 ·rw [List.getElem?_set_ne (by omega), List.getElem?_set_ne (by omega)]; exact h4
 ·rw [List.getElem?_set_ne (by omega), List.getElem?_set_self (by omega)]
 ·rw [List.getElem?_set_self (by simp; omega)]
 ·rw [List.getElem?_set_ne (by omega), List.getElem?_set_ne (by omega)]; exact h7
 ·exact own_but h8 hb (fun k hk hs => by subst hs; have := h9 _ hk; omega)
 ·exact h9
structure okO (N : Nat) (o : Open) : Prop where
 ok : okS o.st
 to : ∀ a ∈ o.st.arcs, 0 <= a.to
 few : o.st.arcs.length <= N
 by_ : o.by_ < 256
structure Bnd (N M : Nat) (ss : List State) (way : List Open) : Prop where
 tail : ∀ o ∈ way.tail, okO N o
 head : ∀ o, way.head? = some o -> okO (N + 1) o
 size : ss.length + way.length <= M
theorem okO.more {N N' : Nat} {o : Open} (h : okO N o) (hn : N <= N') : okO N' o := ⟨h.ok, h.to, Nat.le_trans h.few hn, h.by_⟩
theorem less_ok {N n : Nat} {o : Open} (h : okO N o) (hN : N <= 256) : okK (less o.st n) := by
 refine ⟨⟨?_, by simp [less]; exact h.ok.2.1, fun a ha => ?_⟩, fun a ha => ?_, by simp [less]; have := h.few; omega⟩
 ·simp only [less]
  have := h.ok.1
  split <;> omega
 ·simp only [less, List.mem_map] at ha
  obtain ⟨x, hx, rfl⟩ := ha
  have := h.ok.2.2 x hx
  exact ⟨this.1, by have := this.2.1; simp only; omega, this.2.2⟩
 ·simp only [less, List.mem_map] at ha
  obtain ⟨x, hx, rfl⟩ := ha
  exact h.to x hx
theorem finish_length (ss : List State) (s : State) : (finish ss s).1.length <= ss.length + 1 /\ (finish ss s).2 <= ss.length := by
 by_cases h : s ∈ ss
 ·obtain ⟨i, _, h2, h3⟩ := finish_found h
  rw [h3]; simp only; omega
 ·rw [finish_new h]; simp
theorem Bnd.close1 {N M : Nat} {ss : List State} {o up : Open} {rest : List Open} (h : Bnd N M ss (o :: up :: rest)) (hM : M <= 1000000) (hN : N <= 200) : Bnd N M (close1 ss up o).1 ((close1 ss up o).2 :: rest) := by
 have ho := h.head o rfl
 have hu := h.tail up (List.mem_cons_self ..)
 have hf := finish_length ss (less o.st (leastOf o.st))
 have hs := h.size
 refine ⟨fun x hx => h.tail x (List.mem_cons_of_mem _ hx), fun x hx => ?_, ?_⟩
 ·injection hx with hx
  subst hx
  refine ⟨⟨hu.ok.1, ?_, fun a ha => ?_⟩, fun a ha => ?_, ?_, hu.by_⟩
  ·simp only [Dw.close1, List.length_append, List.length_cons, List.length_nil]; have := hu.few; omega
  ·simp only [Dw.close1] at ha
   rcases List.mem_append.1 ha with ha | ha
   ·exact hu.ok.2.2 a ha
   ·simp at ha
    subst ha
    refine ⟨ho.by_, leastOf_lt ho.ok, by simp only; omega, ?_⟩
    simp only [List.length_cons] at hs |-
    omega
  ·simp only [Dw.close1] at ha
   rcases List.mem_append.1 ha with ha | ha
   ·exact hu.to a ha
   ·simp at ha
    subst ha
    simp
  ·simp only [Dw.close1, List.length_append, List.length_cons, List.length_nil]; have := hu.few; omega
 ·simp only [Dw.close1, List.length_cons] at hs |-
  omega
theorem close_step1 {ss : List State} {o up : Open} {rest : List Open} {d : Nat} (h : d <= rest.length) : close ss (o :: up :: rest) d = close (close1 ss up o).1 ((close1 ss up o).2 :: rest) d := by
 unfold close
 simp only [List.length_cons]
 rw [show rest.length + 1 + 1 - (d + 1) = (rest.length + 1 - (d + 1)) + 1 by omega]
 rfl
theorem close_none {ss : List State} {way : List Open} {d : Nat} (h : way.length <= d + 1) : close ss way d = (ss, way) := by
 unfold close
 rw [show way.length - (d + 1) = 0 by omega, closeN_zero]
theorem Bnd.closeN {N M : Nat} (hM : M <= 1000000) (hN : N <= 200) : ∀ (n : Nat) (ss : List State) (way : List Open), Bnd N M ss way -> Bnd N M (closeN n ss way).1 (closeN n ss way).2
 | 0, ss, way, h => by rw [closeN_zero]; exact h
 | n + 1, ss, [], h => by rw [closeN_short _ _ _ (by simp)]; exact h
 | n + 1, ss, [o], h => by rw [closeN_short _ _ _ (by simp)]; exact h
 | n + 1, ss, o :: up :: way, h => Bnd.closeN hM hN n _ _ (h.close1 hM hN)
structure BndU (N M : Nat) (ss : List State) (way : List Open) : Prop where
 all : ∀ o ∈ way, okO N o
 size : ss.length + way.length <= M
theorem BndU.bnd {N M : Nat} {ss : List State} {way : List Open} (h : BndU N M ss way) : Bnd N M ss way :=
 ⟨fun o ho => h.all o (List.mem_of_mem_tail ho), fun o ho => (h.all o (List.mem_of_mem_head? ho)).more (by omega), h.size⟩
theorem Bnd.all {N M : Nat} {ss : List State} {way : List Open} (h : Bnd N M ss way) : BndU (N + 1) M ss way := by
 refine ⟨fun o ho => ?_, h.size⟩
 cases way with
 | nil => cases ho
 | cons x way =>
  rcases List.mem_cons.1 ho with rfl | ho
  ·exact h.head _ rfl
  ·exact (h.tail o ho).more (by omega)
theorem zero_okO (x : Nat) (hx : x < 256) : okO 0 ⟨zeroS, x⟩ := ⟨⟨by simp [zeroS], by simp [zeroS], by simp [zeroS]⟩, by simp [zeroS], by simp [zeroS], hx⟩
theorem BndU.opens {N : Nat} {ss : List State} : ∀ (l : List Nat) (way : List Open) (M : Nat), (∀ x ∈ l, x < 256) -> BndU N M ss way -> BndU N (M + l.length) ss (opens way l)
 | [], way, M, _, h => h
 | x :: l, way, M, hl, h => by
  have := BndU.opens (N := N) (ss := ss) l (⟨zeroS, x⟩ :: way) (M + 1) (fun y hy => hl y (List.mem_cons_of_mem _ hy)) ⟨fun o ho => by
   rcases List.mem_cons.1 ho with rfl | ho
   ·exact (zero_okO x (hl x (List.mem_cons_self ..))).more (by omega)
   ·exact h.all o ho, by have := h.size; simp only [List.length_cons]; omega⟩
  rw [List.length_cons, show M + (l.length + 1) = M + 1 + l.length by omega]
  exact this
theorem BndU.mark {N M v : Nat} {ss : List State} {way : List Open} (h : BndU N M ss way) (hv : v < 18446744073709551616) : BndU N M ss (mark v way) := by
 refine ⟨fun o ho => ?_, by rw [mark_length]; exact h.size⟩
 cases way with
 | nil => cases ho
 | cons x way =>
  rcases List.mem_cons.1 ho with rfl | ho
  ·have := h.all x (List.mem_cons_self ..)
   exact ⟨⟨hv, this.ok.2⟩, this.to, this.few, this.by_⟩
  ·exact h.all o (List.mem_cons_of_mem _ ho)
theorem BndU.add {N M : Nat} {ss : List State} {way : List Open} {last : List Nat} {e : Wv} (h : BndU N M ss way) (hM : M <= 1000000) (hN : N <= 200) (he : ∀ x ∈ e.1, x < 256) (hv : e.2 < 18446744073709551616) :
  BndU (N + 1) (M + e.1.length) (add (ss, way) last e).1 (add (ss, way) last e).2 := by
 have h1 := (Bnd.closeN hM hN (way.length - (shared last e.1 + 1)) ss way h.bnd).all
 have h2 := BndU.opens (e.1.drop (shared last e.1)) _ _ (fun x hx => he x (List.mem_of_mem_drop hx)) h1
 have h3 := h2.mark hv
 refine ⟨h3.all, ?_⟩
 have := h3.size
 rw [List.length_drop] at this
 show _ <= M + e.1.length
 unfold Dw.add
 simp only [close] at *
 omega
end Dw
end Go.Proofs.YtcddnmhmcieebaaGreatDoor
