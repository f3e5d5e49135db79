/- Dawg: an entry comes. -/
import Derived.Test.YtcddnmhmcieebaaGreatDoorY5
import Derived.Test.YtcddnmhmcieebaaGreatDoorTools
import Derived.Test.YtcddnmhmcieebaaGreatDoorY1
import Derived.Test.YtcddnmhmcieebaaGreatDoorDLawP
import Derived.WalkSmall
namespace Go.Proofs.YtcddnmhmcieebaaGreatDoor
set_option maxHeartbeats 4000000
set_option maxRecDepth 100000
open Go.RowKit
set_option linter.unusedSimpArgs false
set_option linter.unusedVariables false
set_option linter.unnecessarySimpa false
namespace Dw
theorem cases4 (a b : ByteArray) (i : Nat) (h1 : i <= a.size) (h2 : i <= b.size) : i = a.size \/ (i < a.size /\ i = b.size) \/ (i < a.size /\ i < b.size /\ at_ a i ≠ at_ b i) \/ (i < a.size /\ i < b.size /\ at_ a i = at_ b i) := by omega
def SA (vb : Option Nat) (g : Nat) : Nat -> Nat -> Prop
 | 11, k => vb = some k
 | _, k => k = g
theorem SA.all {vb : Option Nat} {g m b : Nat} (hm : m ∈ [11, 14]) (h : SA vb g m b) : vb = some b \/ b = g := by
 simp at hm
 rcases hm with rfl | rfl
 ·exact .inl h
 ·exact .inr h
def PRow2 (w4 : World) (base g : Nat) (sv : Value) (mb : Nat) (wv : Value) (n : Nat) (cells : List Value) : Stab.Pr := fun v w => w.ownsRow base 126 4 v n cells /\ (v.ownBlock = wv.ownBlock \/ ∃ k, v.ownBlock = some k /\ w4.heap.size <= k) /\ w.heap[g]? = some (.cells (sv :: .map (some mb) :: [wv]).toArray 123 (0, 0))
theorem PRow2.stable (w4 : World) (base g : Nat) (sv : Value) (mb : Nat) (wv : Value) (n : Nat) (cells : List Value) : Stab.Stable (PRow2 w4 base g sv mb wv n cells) := fun v w w' hb ⟨h1, h2, h3⟩ => ⟨own_later h1 hb, h2, (hb.block g (heap_lt h3)).trans h3⟩
def PEnd2 (w4 : World) (base g : Nat) (sv : Value) (mb : Nat) (wv : Value) (n : Nat) (cells : List Value) : Stab.Pr := fun _ w => ∃ v, w.ownsRow base 126 4 v n cells /\ (v.ownBlock = wv.ownBlock \/ ∃ k, v.ownBlock = some k /\ w4.heap.size <= k) /\ w.heap[g]? = some (.cells (sv :: .map (some mb) :: [v]).toArray 123 (0, 0))
theorem PEnd2.stable (w4 : World) (base g : Nat) (sv : Value) (mb : Nat) (wv : Value) (n : Nat) (cells : List Value) : Stab.Stable (PEnd2 w4 base g sv mb wv n cells) := fun _ w w' hb ⟨v, h1, h2, h3⟩ => ⟨v, own_later h1 hb, h2, (hb.block g (heap_lt h3)).trans h3⟩
theorem close_ne (ss : List State) (way : List Open) (d : Nat) (h : way ≠ []) : (close ss way d).2 ≠ [] := by
 by_cases hd : d < way.length
 ·have := close_length ss way d hd
  intro e
  rw [e] at this
  simp at this
 ·rw [close_none (by omega)]; exact h
theorem add28 (w : World) {base g mb N M : Nat} {own : Nat -> Nat} {sv wv : Value} {ss : List State} {way : List Open} (last : ByteArray) (e : Ent) (hB : Bld w base own g sv mb ss wv 0 way) (hne : way ≠ []) (hbd : BndU N M ss way) (hM : M + e.word.size <= 1000000) (hN : N <= 200) (he : okE e) (hl : last.size <= 1000000) : Calls Tryz.prog 51 #[.pointer (some ⟨g, 0, none⟩), .string last, eval e] w fun e1 w1 => e1 = .returned (.tuple #[]) /\ ∃ own' sv' wv', Bld w1 base own' g sv' mb (add (ss, way) (wl last) (wvE e)).1 wv' 0 (add (ss, way) (wl last) (wvE e)).2 /\ Keep w own own' /\ But (fun k => own k ≠ 0 /\ own k ≠ 4) w w1 := by
 refine Zn3 78 Tryz.func51 fun fr hf s0 s1 s2 => ?_
 simp only [eval] at s2
 obtain ⟨own0, hown0⟩ : ∃ f, (fun k => if k < w.heap.size then own k else 0) = f := ⟨_, rfl⟩
 have h0ge : ∀ k, w.heap.size <= k -> own0 k = 0 := fun k hk => by rw [<- hown0]; exact if_neg (by omega)
 have h0lt : ∀ k, k < w.heap.size -> own0 k = own k := fun k hk => by rw [<- hown0]; exact if_pos hk
 have hbase := hB.reg.base_le
 have hBs := hB.told (own' := own0) (fun k hk => by rw [h0lt k (by omega)]; exact hB.reg.lo k hk) (fun k hk _ _ => h0lt k hk)
 have H0 := Lib.hid h0ge; have H1 := Lib.hid h0lt; clear h0ge h0lt hown0 hB
 refine Ze fun _ hK1 => Zr [] hf ?_
 refine Zq3 0 1 5 hf ?_
 clear hf s0 s1 s2; intro fr1 hf sS
 generalize hW0 : w.alloc (.cells #[.string e.word, .int .u32 e.weight, .bool e.gone] 64) = W0
 obtain ⟨hb0, c0, -, -, hp0, hz0_⟩ := box3 hW0
 clear hW0
 have hz0 : w.heap.size < W0.heap.size := by rw [hz0_]; exact Nat.lt_succ_self _
 clear hz0_
 have hB0 := hBs.later hb0
 clear hBs
 refine Zs hK1 fun _ hK2 => Zr [] hf ?_
 refine Zq4 0 1 5 6 hf ?_
 clear hf sS; intro fr1 hf sS
 refine Zx hK2 ?_
 have hat1 : ∀ (i : Nat) (h : i < last.size), last[i].toNat = at_ last i := fun i h => (at_get h).symm
 have hat2 : ∀ (i : Nat) (h : i < e.word.size), e.word[i].toNat = at_ e.word i := fun i h => (at_get h).symm
 refine Fact.seq_meet (fun fr wr => Fact.Fr 78 fr /\ fr.tmps[0]? = some (.pointer (some ⟨g, 0, none⟩)) /\ fr.tmps[5]? = some (.pointer (some ⟨w.heap.size, 0, none⟩)) /\ fr.tmps[6]? = some (.int .i64 ((shared (wl last) (wl e.word) : Nat) : Int)) /\ Below W0.heap.size W0 wr) ?_ ?_
 . (
 refine wp_block (wp_loop_ghost (fun gk fr wr => ∃ (i : Nat), gk = last.size - i /\ i <= last.size /\ i <= e.word.size /\ Fact.Fr 78 fr /\ fr.tmps[0]? = some (.pointer (some ⟨g, 0, none⟩)) /\ fr.tmps[1]? = some (.string last) /\ fr.tmps[5]? = some (.pointer (some ⟨w.heap.size, 0, none⟩)) /\ fr.tmps[6]? = some (.int .i64 i) /\ shared (wl last) (wl e.word) = shared ((wl last).drop i) ((wl e.word).drop i) + i /\ Below W0.heap.size W0 wr) (last.size) ?_ ?_)
 . (
 obtain ⟨s0, s1, s5, s6⟩ := sS
 exact ⟨0, rfl, Nat.zero_le _, Nat.zero_le _, hf, s0, s1, s5, s6, rfl, Below.refl _ _⟩)
 . (
 clear hf sS
 rintro gk fr wr ⟨i, hk, hi1, hi2, hf, s0, s1, s5, s6, hsh, hb⟩
 have HK := Lib.hid hk; have HSH := Lib.hid hsh; clear hk hsh
 have x0 := cL hb c0
 rcases cases4 last e.word i hi1 hi2 with hc | ⟨hc1, hc2⟩ | ⟨hc1, hc2, hc3⟩ | ⟨hc1, hc2, hc3⟩
 . (
 have q1 : decide (i < last.size) = false := decide_eq_false (by omega)
 have HC := Lib.hid hc; clear hc
 refine Ze fun _ hK3 => Ze fun _ hK4 => Stab.tb 78 fun hok => ?_
 refine Stab.mO 0 s6 hf hok ?_
 refine Stab.mO 1 s1 hf hok ?_
 refine Stab.T 2 hf hok (fun _ _ h d => ad (Stab.vd 1 0 d []) (cL h.ext x0)) ?_
 refine Stab.T 3 hf hok (fun _ _ h d => ad (Stab.vd 0 2 d []) (Stab.vd 2 0 d [])) ?_
 refine Stab.mN 4 3 0 hf hok [] ?_
 refine Stab.Tk 5 hf hok (fun _ _ h d => Stab.vd 4 0 d []) ?_
 refine Stab.Tk 6 hf hok (fun _ _ h d => Stab.vd 4 1 d []) ?_
 refine Stab.Tk 7 hf hok (fun _ _ h d => Stab.vd 4 2 d []) ?_
 refine Stab.Tk 8 hf hok (fun _ _ h d => Stab.vd 4 3 d []) ?_
 refine Stab.Tk 9 hf hok (fun _ _ h d => Stab.vd 4 4 d []) ?_
 refine Stab.T 10 hf hok (fun _ _ h d => ad (Stab.vd 4 5 d []) (Stab.vd 9 0 d [])) ?_
 refine Stab.mN 11 10 0 hf hok [] ?_
 refine Stab.Tk 12 hf hok (fun _ _ h d => Stab.vd 11 0 d []) ?_
 refine Stab.Tk 13 hf hok (fun _ _ h d => Stab.vd 11 1 d []) ?_
 refine Stab.Tk 14 hf hok (fun _ _ h d => Stab.vd 11 2 d []) ?_
 refine Stab.Tk 15 hf hok (fun _ _ h d => Stab.vd 11 3 d []) ?_
 refine Stab.Tk 16 hf hok (fun _ _ h d => Stab.vd 11 4 d []) ?_
 refine Stab.Tk 17 hf hok (fun _ _ h d => Stab.vd 11 5 d []) ?_
 refine Stab.Tk 18 hf hok (fun _ _ h d => Stab.vd 11 6 d []) ?_
 refine Stab.Tk 19 hf hok (fun _ _ h d => Stab.vd 11 7 d []) ?_
 refine Stab.T 20 hf hok (fun _ _ h d => ad (Stab.vd 11 8 d []) (Stab.vd 19 0 d [])) ?_
 refine Stab.E hf hok (fun _ _ h g => ad (Stab.O h s0) (ad (Stab.O h s1) (ad (Stab.O h s5) (ad (Stab.O h s6) (Stab.f 20 0 g))))) ?_
 clear hf hok s0 s1 s5 s6; intro fr1 w1 hf hx sS
 replace x0 := cL hx x0
 refine Zx hK4 (Fact.cond_f sS.2.2.2.2 ?_)
 have hbz := hb.trans (hx.mono hb.size)
 have hsd : shared (wl last) (wl e.word) = i := by rw [HSH.out, shared_nil (.inl (List.drop_eq_nil_of_le (by rw [wl_length]; have := HC.out; omega)))]; omega
 have HSD := Lib.hid hsd; clear hsd
 refine Zo ?_
 refine Fact.then_normal ?_
 obtain ⟨s0, s1, s5, s6, s29⟩ := sS
 exact ⟨hf, s0, s5, by rw [HSD.out]; exact s6, hbz⟩)
 . (
 have q1 : decide (i < last.size) = true := decide_eq_true (by omega)
 have q2 : decide (i < e.word.size) = false := decide_eq_false (by omega)
 have HC2 := Lib.hid hc2; clear hc2
 refine Ze fun _ hK5 => Ze fun _ hK6 => Stab.tb 78 fun hok => ?_
 refine Stab.mO 0 s6 hf hok ?_
 refine Stab.mO 1 s1 hf hok ?_
 refine Stab.T 2 hf hok (fun _ _ h d => ad (Stab.vd 1 0 d []) (cL h.ext x0)) ?_
 refine Stab.T 3 hf hok (fun _ _ h d => ad (Stab.vd 0 2 d []) (Stab.vd 2 0 d [])) ?_
 refine Stab.mN 4 3 0 hf hok [] ?_
 refine Stab.Tg 5 hf hok (fun _ _ h d => Stab.vd 4 0 d []) (fun _ _ h d => Stab.O h s6) ?_
 refine Stab.Tg 6 hf hok (fun _ _ h d => Stab.vd 4 1 d []) (fun _ _ h d => Stab.O h s5) ?_
 refine Stab.Tg 7 hf hok (fun _ _ h d => Stab.vd 4 2 d []) (fun _ _ h d => ad (Stab.vd 6 0 d []) (cL h.ext x0)) ?_
 refine Stab.Tg 8 hf hok (fun _ _ h d => Stab.vd 4 3 d []) (fun _ _ h d => ad (Stab.vd 7 0 d []) (cL h.ext x0)) ?_
 refine Stab.Tg 9 hf hok (fun _ _ h d => Stab.vd 4 4 d []) (fun _ _ h d => ad (Stab.vd 5 3 d []) (Stab.vd 8 0 d [])) ?_
 refine Stab.T 10 hf hok (fun _ _ h d => ad (Stab.vd 4 5 d []) (Stab.vd 9 0 d [])) ?_
 refine Stab.mN 11 10 0 hf hok [] ?_
 refine Stab.Tk 12 hf hok (fun _ _ h d => Stab.vd 11 0 d []) ?_
 refine Stab.Tk 13 hf hok (fun _ _ h d => Stab.vd 11 1 d []) ?_
 refine Stab.Tk 14 hf hok (fun _ _ h d => Stab.vd 11 2 d []) ?_
 refine Stab.Tk 15 hf hok (fun _ _ h d => Stab.vd 11 3 d []) ?_
 refine Stab.Tk 16 hf hok (fun _ _ h d => Stab.vd 11 4 d []) ?_
 refine Stab.Tk 17 hf hok (fun _ _ h d => Stab.vd 11 5 d []) ?_
 refine Stab.Tk 18 hf hok (fun _ _ h d => Stab.vd 11 6 d []) ?_
 refine Stab.Tk 19 hf hok (fun _ _ h d => Stab.vd 11 7 d []) ?_
 refine Stab.T 20 hf hok (fun _ _ h d => ad (Stab.vd 11 8 d []) (Stab.vd 19 0 d [])) ?_
 refine Stab.E hf hok (fun _ _ h g => ad (Stab.O h s0) (ad (Stab.O h s1) (ad (Stab.O h s5) (ad (Stab.O h s6) (Stab.f 20 0 g))))) ?_
 clear hf hok s0 s1 s5 s6; intro fr1 w1 hf hx sS
 replace x0 := cL hx x0
 refine Zx hK6 (Fact.cond_f sS.2.2.2.2 ?_)
 have hbz := hb.trans (hx.mono hb.size)
 have hsd : shared (wl last) (wl e.word) = i := by rw [HSH.out, shared_nil (.inr (List.drop_eq_nil_of_le (by rw [wl_length]; have := HC2.out; omega)))]; omega
 have HSD := Lib.hid hsd; clear hsd
 refine Zo ?_
 refine Fact.then_normal ?_
 obtain ⟨s0, s1, s5, s6, s29⟩ := sS
 exact ⟨hf, s0, s5, by rw [HSD.out]; exact s6, hbz⟩)
 . (
 have q1 : decide (i < last.size) = true := decide_eq_true (by omega)
 have q2 : decide (i < e.word.size) = true := decide_eq_true (by omega)
 have HC3 := Lib.hid hc3; clear hc3; have q3 : (((at_ last i : Nat) : Int) == ((at_ e.word i : Nat) : Int)) = false := by have := HC3.out; simp; omega
 refine Ze fun _ hK7 => Ze fun _ hK8 => Stab.tb 78 fun hok => ?_
 refine Stab.mO 0 s6 hf hok ?_
 refine Stab.mO 1 s1 hf hok ?_
 refine Stab.T 2 hf hok (fun _ _ h d => ad (Stab.vd 1 0 d []) (cL h.ext x0)) ?_
 refine Stab.T 3 hf hok (fun _ _ h d => ad (Stab.vd 0 2 d []) (Stab.vd 2 0 d [])) ?_
 refine Stab.mN 4 3 0 hf hok [] ?_
 refine Stab.Tg 5 hf hok (fun _ _ h d => Stab.vd 4 0 d []) (fun _ _ h d => Stab.O h s6) ?_
 refine Stab.Tg 6 hf hok (fun _ _ h d => Stab.vd 4 1 d []) (fun _ _ h d => Stab.O h s5) ?_
 refine Stab.Tg 7 hf hok (fun _ _ h d => Stab.vd 4 2 d []) (fun _ _ h d => ad (Stab.vd 6 0 d []) (cL h.ext x0)) ?_
 refine Stab.Tg 8 hf hok (fun _ _ h d => Stab.vd 4 3 d []) (fun _ _ h d => ad (Stab.vd 7 0 d []) (cL h.ext x0)) ?_
 refine Stab.Tg 9 hf hok (fun _ _ h d => Stab.vd 4 4 d []) (fun _ _ h d => ad (Stab.vd 5 3 d []) (Stab.vd 8 0 d [])) ?_
 refine Stab.T 10 hf hok (fun _ _ h d => ad (Stab.vd 4 5 d []) (Stab.vd 9 0 d [])) ?_
 refine Stab.mN 11 10 0 hf hok [] ?_
 refine Stab.Tg 12 hf hok (fun _ _ h d => Stab.vd 11 0 d []) (fun _ _ h d => Stab.O h s1) ?_
 refine Stab.Tg 13 hf hok (fun _ _ h d => Stab.vd 11 1 d []) (fun _ _ h d => Stab.O h s6) ?_
 apply Stab.tr 14 _ hf hok
 . (
 intro fr1 w1 hh hd hk K Z
 have s20 := Stab.v 11 2 hd hk []
 refine Stab.g s20 ?_
 have s21 := Stab.v 12 1 hd hk []
 have s22 := Stab.v 13 0 hd hk []
 clear hd
 replace x0 := cL hh.ext x0
 go_simp
 try rw [if_pos (by omega)]
 exact Stab.k Z)
 refine Stab.Tg 15 hf hok (fun _ _ h d => Stab.vd 11 3 d []) (fun _ _ h d => Stab.O h s5) ?_
 refine Stab.Tg 16 hf hok (fun _ _ h d => Stab.vd 11 4 d []) (fun _ _ h d => ad (Stab.vd 15 0 d []) (cL h.ext x0)) ?_
 refine Stab.Tg 17 hf hok (fun _ _ h d => Stab.vd 11 5 d []) (fun _ _ h d => Stab.O h s6) ?_
 apply Stab.tr 18 _ hf hok
 . (
 intro fr1 w1 hh hd hk K Z
 have s20 := Stab.v 11 6 hd hk []
 refine Stab.g s20 ?_
 have s25 := Stab.v 16 1 hd hk []
 have s26 := Stab.v 17 0 hd hk []
 clear hd
 replace x0 := cL hh.ext x0
 go_simp
 try rw [if_pos (by omega)]
 exact Stab.k Z)
 refine Stab.Tg 19 hf hok (fun _ _ h d => Stab.vd 11 7 d []) (fun _ _ h d => ad (Stab.vd 14 4 d []) (Stab.vd 18 0 d [])) ?_
 refine Stab.T 20 hf hok (fun _ _ h d => ad (Stab.vd 11 8 d []) (Stab.vd 19 0 d [])) ?_
 refine Stab.E hf hok (fun _ _ h g => ad (Stab.O h s0) (ad (Stab.O h s1) (ad (Stab.O h s5) (ad (Stab.O h s6) (Stab.f 20 0 g))))) ?_
 clear hf hok s0 s1 s5 s6; intro fr1 w1 hf hx sS
 replace x0 := cL hx x0
 refine Zx hK8 (Fact.cond_f sS.2.2.2.2 ?_)
 have hbz := hb.trans (hx.mono hb.size)
 have hsd : shared (wl last) (wl e.word) = i := by rw [HSH.out, shared_stop (wl_at hc1) (wl_at hc2) HC3.out]; omega
 have HSD := Lib.hid hsd; clear hsd
 refine Zo ?_
 refine Fact.then_normal ?_
 obtain ⟨s0, s1, s5, s6, s29⟩ := sS
 exact ⟨hf, s0, s5, by rw [HSD.out]; exact s6, hbz⟩)
 . (
 have q1 : decide (i < last.size) = true := decide_eq_true (by omega)
 have q2 : decide (i < e.word.size) = true := decide_eq_true (by omega)
 have HC3 := Lib.hid hc3; clear hc3; have q3 : (((at_ last i : Nat) : Int) == ((at_ e.word i : Nat) : Int)) = true := by rw [HC3.out]; simp
 refine Ze fun _ hK9 => Ze fun _ hK10 => Stab.tb 78 fun hok => ?_
 refine Stab.mO 0 s6 hf hok ?_
 refine Stab.mO 1 s1 hf hok ?_
 refine Stab.T 2 hf hok (fun _ _ h d => ad (Stab.vd 1 0 d []) (cL h.ext x0)) ?_
 refine Stab.T 3 hf hok (fun _ _ h d => ad (Stab.vd 0 2 d []) (Stab.vd 2 0 d [])) ?_
 refine Stab.mN 4 3 0 hf hok [] ?_
 refine Stab.Tg 5 hf hok (fun _ _ h d => Stab.vd 4 0 d []) (fun _ _ h d => Stab.O h s6) ?_
 refine Stab.Tg 6 hf hok (fun _ _ h d => Stab.vd 4 1 d []) (fun _ _ h d => Stab.O h s5) ?_
 refine Stab.Tg 7 hf hok (fun _ _ h d => Stab.vd 4 2 d []) (fun _ _ h d => ad (Stab.vd 6 0 d []) (cL h.ext x0)) ?_
 refine Stab.Tg 8 hf hok (fun _ _ h d => Stab.vd 4 3 d []) (fun _ _ h d => ad (Stab.vd 7 0 d []) (cL h.ext x0)) ?_
 refine Stab.Tg 9 hf hok (fun _ _ h d => Stab.vd 4 4 d []) (fun _ _ h d => ad (Stab.vd 5 3 d []) (Stab.vd 8 0 d [])) ?_
 refine Stab.T 10 hf hok (fun _ _ h d => ad (Stab.vd 4 5 d []) (Stab.vd 9 0 d [])) ?_
 refine Stab.mN 11 10 0 hf hok [] ?_
 refine Stab.Tg 12 hf hok (fun _ _ h d => Stab.vd 11 0 d []) (fun _ _ h d => Stab.O h s1) ?_
 refine Stab.Tg 13 hf hok (fun _ _ h d => Stab.vd 11 1 d []) (fun _ _ h d => Stab.O h s6) ?_
 apply Stab.tr 14 _ hf hok
 . (
 intro fr1 w1 hh hd hk K Z
 have s20 := Stab.v 11 2 hd hk []
 refine Stab.g s20 ?_
 have s21 := Stab.v 12 1 hd hk []
 have s22 := Stab.v 13 0 hd hk []
 clear hd
 replace x0 := cL hh.ext x0
 go_simp
 try rw [if_pos (by omega)]
 exact Stab.k Z)
 refine Stab.Tg 15 hf hok (fun _ _ h d => Stab.vd 11 3 d []) (fun _ _ h d => Stab.O h s5) ?_
 refine Stab.Tg 16 hf hok (fun _ _ h d => Stab.vd 11 4 d []) (fun _ _ h d => ad (Stab.vd 15 0 d []) (cL h.ext x0)) ?_
 refine Stab.Tg 17 hf hok (fun _ _ h d => Stab.vd 11 5 d []) (fun _ _ h d => Stab.O h s6) ?_
 apply Stab.tr 18 _ hf hok
 . (
 intro fr1 w1 hh hd hk K Z
 have s20 := Stab.v 11 6 hd hk []
 refine Stab.g s20 ?_
 have s25 := Stab.v 16 1 hd hk []
 have s26 := Stab.v 17 0 hd hk []
 clear hd
 replace x0 := cL hh.ext x0
 go_simp
 try rw [if_pos (by omega)]
 exact Stab.k Z)
 refine Stab.Tg 19 hf hok (fun _ _ h d => Stab.vd 11 7 d []) (fun _ _ h d => ad (Stab.vd 14 4 d []) (Stab.vd 18 0 d [])) ?_
 refine Stab.T 20 hf hok (fun _ _ h d => ad (Stab.vd 11 8 d []) (Stab.vd 19 0 d [])) ?_
 refine Stab.E hf hok (fun _ _ h g => ad (Stab.O h s0) (ad (Stab.O h s1) (ad (Stab.O h s5) (ad (Stab.O h s6) (Stab.f 20 0 g))))) ?_
 clear hf hok s0 s1 s5 s6; intro fr1 w1 hf hx sS
 replace x0 := cL hx x0
 refine Zx hK10 (Fact.cond_t sS.2.2.2.2 ?_)
 have hbz := hb.trans (hx.mono hb.size)
 have hsd : shared (wl last) (wl e.word) = shared ((wl last).drop (i + 1)) ((wl e.word).drop (i + 1)) + (i + 1) := by rw [HSH.out, shared_step (wl_at hc1) (by rw [HC3.out]; exact wl_at hc2)]; omega
 have HSD := Lib.hid hsd; clear hsd
 refine wp_skip (Zx hK9 (wp_block (Zr [30, 31] hf ?_)))
 refine Zq4 0 1 5 6 hf ?_
 clear hf sS; intro fr1 hf sS
 refine Fact.block_normal (Fact.then_normal ?_)
 obtain ⟨s0, s1, s5, s6⟩ := sS
 exact ⟨_, by have := HK.out; omega, i + 1, rfl, by omega, by omega, hf, s0, s1, s5, by rw [s6]; rfl, HSD.out, hbz⟩)))
 . (
 clear hf sS
 rintro fr wd ⟨hf, s0, s5, s6, hbd0⟩
 obtain ⟨d, hd⟩ : ∃ d, shared (wl last) (wl e.word) = d := ⟨_, rfl⟩
 have hd1 : d <= e.word.size := by rw [<- hd, <- wl_length]; exact shared_le _ _
 rw [hd] at s6
 have HD := Lib.hid hd; clear hd hat1
 have hBd := hB0.later hbd0
 have hpd := (hbd0.block _ (heap_lt hp0)).trans hp0
 have hdp0 : own0 w.heap.size = 0 := H0.out _ (Nat.le_refl _)
 have HP := Lib.hid hdp0; clear hdp0 hp0 c0 hB0
 refine Ze fun _ hK11 => rg ?_
 have bB := hf.B2 32 33
 iterate 2 refine Zy ?_
 refine Zc (close29 wd d hBd hne hbd.bnd (by omega) hN (by omega)) ?_; rintro e w2 ⟨rfl, own2, sv2, wv2, hB2, hk2, hb2⟩
 refine Zv ?_
 refine Fact.nil (Zq3 0 5 6 hf ?_)
 clear hf s0 s5 s6 bB; intro fr1 hf sS
 have hp2 := hb2.heap hpd (fun h => h.1 HP.out)
 have h2p : own2 w.heap.size = 0 := (hk2 _ (heap_lt hpd) (.inl HP.out)).trans HP.out
 have H2P := Lib.hid h2p; clear h2p
 have hU := (Bnd.closeN (by omega) hN (way.length - (d + 1)) ss way hbd.bnd).all
 have hU2 : BndU (N + 1) M (close ss way d).1 (close ss way d).2 := hU
 clear hU hBd hpd
 have hne2 := close_ne ss way d hne
 obtain ⟨ss2, hss2⟩ : ∃ x, (close ss way d).1 = x := ⟨_, rfl⟩
 obtain ⟨wy2, hwy2⟩ : ∃ x, (close ss way d).2 = x := ⟨_, rfl⟩
 rw [hss2] at hB2 hU2; rw [hwy2] at hB2 hU2 hne2
 have HS2 := Lib.hid hss2; have HY2 := Lib.hid hwy2; clear hss2 hwy2
 refine Zs hK11 fun _ hK12 => Ze fun _ hK13 => Zr [35] hf ?_
 refine Zq3 0 5 7 hf ?_
 clear hf sS; intro fr1 hf sS
 refine Zx hK13 (wp_block ?_)
 have hbw0 : But (fun k => own k ≠ 0 /\ own k ≠ 4) w w2 := But.via (S := fun _ => False) (hb0.trans (hbd0.mono hb0.size)) (But.refl _ _) hb2 (fun k hk h => by have := H1.out k hk; rcases h with h | h; exact h.elim; omega)
 have hkp0 : Keep w own own2 := fun k hk h => by have h1 := H1.out k hk; have h2 := hb0.size; have h3 := hbd0.size; exact (hk2 k (by omega) (by omega)).trans h1
 clear hb2 hk2
 have hlw : ss2.length + wy2.length + (e.word.size - d) <= M + e.word.size := by have := hU2.size; omega
 refine wp_loop_ghost (fun gk fr wr => ∃ (i : Nat) (ownr : Nat -> Nat) (svr wvr : Value) (wayr : List Open), gk = e.word.size - i /\ i <= e.word.size /\ Fact.Fr 78 fr /\ fr.tmps[0]? = some (.pointer (some ⟨g, 0, none⟩)) /\ fr.tmps[5]? = some (.pointer (some ⟨w.heap.size, 0, none⟩)) /\ fr.tmps[7]? = some (.int .i64 i) /\ Bld wr base ownr g svr mb ss2 wvr 0 wayr /\ wayr ≠ [] /\ opens wayr ((wl e.word).drop i) = opens wy2 ((wl e.word).drop d) /\ ss2.length + wayr.length + (e.word.size - i) <= M + e.word.size /\ wr.heap[w.heap.size]? = some (.cells #[.string e.word, .int .u32 e.weight, .bool e.gone] 64 (0, 0)) /\ ownr w.heap.size = 0 /\ Keep w own ownr /\ But (fun k => own k ≠ 0 /\ own k ≠ 4) w wr) (e.word.size - d) ?_ ?_
 . (
 obtain ⟨s0, s5, s7⟩ := sS
 exact ⟨d, own2, sv2, wv2, wy2, rfl, hd1, hf, s0, s5, s7, hB2, hne2, rfl, hlw, hp2, H2P.out, hkp0, hbw0⟩)
 . (
 clear hf sS
 rintro gk fr wr ⟨i, ownr, svr, wvr, wayr, hk, hi, hf, s0, s5, s7, hBr, hner, hop, hlen, hpr, hpo, hkp, hbw⟩
 have HK := Lib.hid hk; have HO := Lib.hid hop; have HL := Lib.hid hlen; have HPO := Lib.hid hpo; clear hk hop hlen hpo
 have x0 := cR1 0 hpr
 simp at x0
 obtain ⟨o1, way1, rfl⟩ := List.exists_cons_of_ne_nil hner
 obtain ⟨wb, c, av, rfl, hcc, hwb, d0, d1, d2, d3, hoa, hav⟩ := hBr.top
 have q2 := hBr.cell2
 have HWB := Lib.hid hwb; clear hwb
 have hwl : way1.length <= 1000000 := by have := HL.out; simp only [List.length_cons] at this; omega
 refine Ze fun _ hK14 => Ze fun _ hK15 => Zr [36, 37, 38, 39] hf ?_
 refine Zq4 0 5 7 40 hf ?_
 clear hf s0 s5 s7; intro fr1 hf sS
 refine Zx hK15 (Fact.cond_s sS.2.2.2 (fun hq => ?_) (fun hq => ?_))
 . (
 have hlt : i < e.word.size := by have h9 := of_decide_eq_true hq; omega
 have HQ := Lib.hid hq; clear hq
 clear d0 d1 d2 d3 hoa hav
 obtain ⟨own3, hown3⟩ : ∃ f, (fun k => if k < wr.heap.size then ownr k else 0) = f := ⟨_, rfl⟩
 have h3ge : ∀ k, wr.heap.size <= k -> own3 k = 0 := fun k hk => by rw [<- hown3]; exact if_neg (by omega)
 have h3lt : ∀ k, k < wr.heap.size -> own3 k = ownr k := fun k hk => by rw [<- hown3]; exact if_pos hk
 have hbr := hBr.reg.base_le
 have hBs := hBr.told (own' := own3) (fun k hk => by rw [h3lt k (by omega)]; exact hBr.reg.lo k hk) (fun k hk _ _ => h3lt k hk)
 have H3 := Lib.hid h3ge; have H4 := Lib.hid h3lt; clear h3ge h3lt hown3 hBr
 obtain ⟨cells, hrow, hwb5, hWC⟩ := hBs.row
 have hbx := hBs.reg.box
 have hog := hBs.reg.og
 have HOG := Lib.hid hog; have HW5 := Lib.hid hwb5; have HWC := Lib.hid hWC; clear hog hwb5 hWC
 simp only [List.length_cons, Nat.add_zero] at hrow
 refine wp_skip (Zs hK14 fun _ hK16 => wp_block ?_)
 obtain ⟨s0, s5, s7, s40⟩ := sS
 refine Stam.todo_begin (n := 78) (SA ((.slice (some ⟨wb, 0, none⟩) (way1.length + 1) c : Value).ownBlock) g) [11, 14] (Stab.OkOps.of (by kernel_rfl)) (fun hok => ?_)
 refine Stam.mvO (k := 0) s0 hf.size hok.out rfl (by kernel_rfl) rfl rfl (.inl rfl) (by kernel_rfl) ?_
 refine Stam.mvO (k := 1) s0 hf.size hok.out rfl (by kernel_rfl) rfl rfl (.inl rfl) (by kernel_rfl) ?_
 apply Stam.tq 2 _ hf hok
 . (
 intro fr1 w1 hh hd hk K Z
 refine Stab.pl ?_
 have s44 := Stam.v 1 0 hd hk []
 have hxe := Stam.ext_at hh [(11, [4, 3]), (14, [])] (by kernel_rfl)
 have hbt := Stam.but_at hh [] [(11, [4, 3]), (14, [])] (by kernel_rfl)
 clear hd hh
 go_simp
 exact Stab.k Z)
 apply Stam.tq 3 _ hf hok
 . (
 intro fr1 w1 hh hd hk K Z
 refine Stab.pl ?_
 have s45 := Stam.v 2 0 hd hk []
 have hxe := Stam.ext_at hh [(11, [4]), (14, [])] (by kernel_rfl)
 have hbt := Stam.but_at hh [] [(11, [4]), (14, [])] (by kernel_rfl)
 clear hd hh
 go_simp
 exact Stab.k Z)
 apply Stam.tq 4 _ hf hok
 . (
 intro fr1 w1 hh hd hk K Z
 refine Stab.pl ?_
 have s46 := Stam.v 3 0 hd hk []
 have hxe := Stam.ext_at hh [(11, []), (14, [])] (by kernel_rfl)
 have hbt := Stam.but_at hh [] [(11, []), (14, [])] (by kernel_rfl)
 clear hd hh
 have q3 := cL hxe q2
 go_simp
 exact Stab.k Z)
 apply Stam.tq 5 _ hf hok
 . (
 intro fr1 w1 hh hd hk K Z
 refine Stab.pl ?_
 have s5 := Stam.o hh (by kernel_rfl) s5
 have hxe := Stam.ext_at hh [(11, [10, 9, 8, 6]), (14, [])] (by kernel_rfl)
 have hbt := Stam.but_at hh [] [(11, [10, 9, 8, 6]), (14, [])] (by kernel_rfl)
 clear hd hh
 go_simp
 exact Stab.k Z)
 apply Stam.tq 6 _ hf hok
 . (
 intro fr1 w1 hh hd hk K Z
 refine Stab.pl ?_
 have s48 := Stam.v 5 0 hd hk []
 have hxe := Stam.ext_at hh [(11, [10, 9, 8]), (14, [])] (by kernel_rfl)
 have hbt := Stam.but_at hh [] [(11, [10, 9, 8]), (14, [])] (by kernel_rfl)
 clear hd hh
 have x1 := cL hxe x0
 go_simp
 exact Stab.k Z)
 refine Stam.mvO (k := 7) s7 hf.size hok.out rfl (by kernel_rfl) rfl rfl (.inl rfl) (by kernel_rfl) ?_
 apply Stam.tq 8 _ hf hok
 . (
 intro fr1 w1 hh hd hk K Z
 refine Stab.pl ?_
 have s49 := Stam.v 6 1 hd hk []
 have s50 := Stam.v 7 0 hd hk []
 have hxe := Stam.ext_at hh [(11, [10, 9]), (14, [])] (by kernel_rfl)
 have hbt := Stam.but_at hh [] [(11, [10, 9]), (14, [])] (by kernel_rfl)
 clear hd hh
 go_simp
 try rw [if_pos (by omega)]
 exact Stab.k Z)
 apply Stam.tq 9 _ hf hok
 . (
 intro fr1 w1 hh hd hk K Z
 refine Stab.pl ?_
 have s51 := Stam.v 8 0 hd hk []
 have hxe := Stam.ext_at hh [(11, [10]), (14, [])] (by kernel_rfl)
 have hbt := Stam.but_at hh [] [(11, [10]), (14, [])] (by kernel_rfl)
 clear hd hh
 go_simp
 exact Stab.k Z)
 refine Stam.todo_op (k := 10) (n := 78) (PLit [.slice none 0 0, .bool false, .int .u64 0, .int .u8 (at_ e.word i : Nat)]) hf.size hok.out rfl (PLit.stable _) (by kernel_rfl) ?_ ?_
 . (
 intro fr1 w1 hh hd hk K Z
 refine Stab.pl ?_
 have s52 := Stam.v 9 0 hd hk []
 have hxe := Stam.ext_at hh [(11, []), (14, [])] (by kernel_rfl)
 have hbt := Stam.but_at hh [] [(11, []), (14, [])] (by kernel_rfl)
 clear hd hh
 go_simp
 exact Z.out _ rfl _ _ ((Below.refl _ _).alloc (Nat.le_refl _) _) ⟨_, rfl, lit_new _ _ _⟩)
 refine Stam.todo_sp (k := 11) (n := 78) (PRow2 wr base g svr mb (.slice (some ⟨wb, 0, none⟩) (way1.length + 1) c) (way1.length + 2) (cells ++ [.slice none 0 0, .bool false, .int .u64 0, .int .u8 (at_ e.word i : Nat)])) hf.size hok.out rfl (PRow2.stable _ _ _ _ _ _ _ _) (by kernel_rfl) ?_ ?_
 . (
 intro fr1 w1 hh hd hk K Z
 refine Stab.pl ?_
 have s47 := Stam.v 4 6 hd hk []
 obtain ⟨x53, s53, hp53⟩ := Stam.use (j := 10) (m := 0) hd hk rfl [] (by kernel_rfl) [(14, true, [])] (by kernel_rfl) rfl rfl rfl
 obtain ⟨b53, rfl, hc53⟩ := hp53
 have hxe := Stam.ext_at hh [(14, [])] (by kernel_rfl)
 have hbt := Stam.but_at hh [] [(14, [])] (by kernel_rfl)
 clear hd hh
 have hr2 := own_later hrow hxe
 have hx2 := (hxe.block g (heap_lt hbx)).trans hbx
 refine wp_app _ _ 121 rfl 126 _ 4 48 Tryz.underlying121 info_openD rfl (by decide) (by decide) base (.slice (some ⟨wb, 0, none⟩) (way1.length + 1) c) (way1.length + 1) cells (Fact.eval_tmp s47) hr2 b53 _ (Fact.eval_tmp s53) rfl hc53 (by intro u hu; simp at hu; rcases hu with rfl | rfl | rfl | rfl <;> rfl) (by have := HL.out; simp only [List.length_cons] at this; omega) (by have := hxe.size; omega) (fun v2 w2 hr3 hg3 hat3 => ?_)
 exact Z.out _ rfl _ _ (But.grown hg3 (fun k hkk => hkk)) ⟨hr3, hat3.imp id (fun h => ⟨_, h, hxe.size⟩), hg3.block g (heap_lt hx2) (fun e1 => by have h1 := HW5.out g e1.symm; have h2 := HOG.out; omega) |>.trans hx2⟩)
 apply Stam.tq 12 _ hf hok
 . (
 intro fr1 w1 hh hd hk K Z
 refine Stab.pl ?_
 have s43 := Stam.v 0 11 hd hk []
 have hbt := Stam.but_at hh [11] [(14, [13])] (by kernel_rfl)
 clear hd hh
 go_simp
 exact Stab.k Z)
 apply Stam.tq 13 _ hf hok
 . (
 intro fr1 w1 hh hd hk K Z
 refine Stab.pl ?_
 have s55 := Stam.v 12 0 hd hk []
 have hbt := Stam.but_at hh [11] [(14, [])] (by kernel_rfl)
 clear hd hh
 go_simp
 exact Stab.k Z)
 refine Stam.todo_sp (k := 14) (n := 78) (PEnd2 wr base g svr mb (.slice (some ⟨wb, 0, none⟩) (way1.length + 1) c) (way1.length + 2) (cells ++ [.slice none 0 0, .bool false, .int .u64 0, .int .u8 (at_ e.word i : Nat)])) hf.size hok.out rfl (PEnd2.stable _ _ _ _ _ _ _ _) (by kernel_rfl) ?_ ?_
 . (
 intro fr1 w1 hh hd hk K Z
 refine Stab.pl ?_
 have s56 := Stam.v 13 0 hd hk []
 obtain ⟨x54, s54, hp54⟩ := Stam.use (j := 11) (m := 2) hd hk rfl [] (by kernel_rfl) [] (by kernel_rfl) rfl rfl rfl
 obtain ⟨hr54, hl54, hx54⟩ := hp54
 have hbt := Stam.but_at hh [11] [] (by kernel_rfl)
 clear hd hh
 have z0 := cR1 2 hx54
 simp at z0
 have fz := frozen_of (i := 2) hx54
 obtain ⟨A2, c2, hv2, _⟩ := row_form hr54
 subst hv2
 go_simp
 refine Z.out _ rfl undef _ (But.setCell (S := fun k => k = g) rfl _) ⟨_, own_but hr54 (But.setCell (S := fun k => k = g) rfl _) (fun k hkk e1 => ?_), hl54, ?_⟩; (subst e1; rcases hl54 with h | ⟨k2, h, hk2⟩; (rw [hkk] at h; have h1 := HW5.out _ h.symm; have h2 := HOG.out; omega); (rw [hkk] at h; injection h with h; have := heap_lt hbx; omega)); exact (set_block hx54 _).trans (by simp))
 refine Stam.todo_facts (n := 78) (by kernel_rfl) hf.size hok.out rfl (fun fr1 w1 hh hg => ?_)
 replace s0 := Stam.o hh (by kernel_rfl) s0
 replace s5 := Stam.o hh (by kernel_rfl) s5
 replace s7 := Stam.o hh (by kernel_rfl) s7
 obtain ⟨_, hlast⟩ := Stam.end_fact (j := 14) (m := 0) hg rfl (by decide) [(11, [])] (by kernel_rfl) rfl
 have hf1 := hh.fr hf
 have hbt := hh.but
 clear hg hh hf hok s40
 have hf := hf1; clear hf1
 refine Fact.block_normal (Zx hK16 (Zr [41, 42] hf ?_))
 refine Zq3 0 5 7 hf ?_
 clear hf s0 s5 s7; intro fr1 hf sS
 refine Fact.then_normal ?_
 obtain ⟨v2, hr2, hl2, hx2⟩ := hlast
 replace hbt := hbt _ (fun m hm b h => SA.all hm h)
 have hvn : ∀ k, k < wr.heap.size -> own3 k ≠ 5 -> v2.ownBlock ≠ some k := fun k hk1 hk2 h => by rcases hl2 with h3 | ⟨k3, h3, hk3⟩; (rw [h] at h3; exact hk2 (HW5.out k h3.symm)); (rw [h] at h3; injection h3 with h3; omega)
 have hT : ∀ k, own3 k = 0 \/ own3 k = 4 -> ¬ ((Value.slice (some ⟨wb, 0, none⟩) (way1.length + 1) c).ownBlock = some k \/ k = g) := fun k h1 h => by rcases h with h | h; (have := HW5.out _ h; omega); (rw [h] at h1; have := HOG.out; omega)
 have hp3 : own3 w.heap.size = 0 := (H4.out _ (heap_lt hpr)).trans HPO.out
 have hws := hbw.size
 have hk5 : ∀ k, k < w.heap.size -> (own k = 0 \/ own k = 4) -> own3 k = own k := fun k hk1 hk2 => (H4.out k (by omega)).trans (hkp k hk1 hk2)
 obtain ⟨s0, s5, s7⟩ := sS
 refine ⟨_, by have := HK.out; omega, i + 1, _, svr, v2, ⟨zeroS, at_ e.word i⟩ :: o1 :: way1, rfl, by omega, hf, s0, s5, by rw [s7]; rfl, Bld.opened hBs hrow HW5.out HWC.out H3.out hx2 hbt hr2 hl2, by simp, ?_, ?_, hbt.heap hpr (hT _ (.inl hp3)), ?_, fun k hk1 hk2 => ?_, ⟨?_, ?_, ?_, ?_, ?_⟩⟩
 . (
 have h9 := HO.out; rw [drop_at (wl_at hlt)] at h9; exact h9)
 . (
 have h9 := HL.out; simp only [List.length_cons] at h9 |-; omega)
 . (
 show (if v2.ownBlock = some w.heap.size then 5 else own3 w.heap.size) = 0; rw [if_neg (hvn _ (heap_lt hpr) (by omega))]; exact hp3)
 . (
 show (if v2.ownBlock = some k then 5 else own3 k) = own k; have h9 := hk5 k hk1 hk2; rw [if_neg (hvn k (by omega) (by omega))]; exact h9)
 . (
 exact hbt.os.trans hbw.os)
 . (
 exact hbt.tape.trans hbw.tape)
 . (
 exact hbt.output.trans hbw.output)
 . (
 exact Nat.le_trans hbw.size hbt.size)
 . (
 intro k hk1 hk2; have h9 := hk5 k hk1 (by omega); rw [hbt.block k (by omega) (hT k (by omega)), hbw.block k hk1 hk2]))
 . (
 have hie : i = e.word.size := by have h9 := of_decide_eq_false hq; omega
 have HIE := Lib.hid hie; clear hie
 have ho := HO.out
 rw [List.drop_eq_nil_of_le (by rw [wl_length]; have := HIE.out; omega)] at ho
 have ho2 : (o1 :: way1) = opens wy2 ((wl e.word).drop d) := ho
 have HO2 := Lib.hid ho2; clear ho ho2 hq
 refine Zo ?_
 refine Zs hK12 fun _ hK17 => ?_
 obtain ⟨s0, s5, s7, s40⟩ := sS
 refine Stab.tb 78 fun hok => ?_
 refine Stab.mO 0 s0 hf hok ?_
 refine Stab.T 1 hf hok (fun _ _ h d => Stab.vd 0 0 d []) ?_
 refine Stab.T 2 hf hok (fun _ _ h d => Stab.vd 1 0 d []) ?_
 refine Stab.T 3 hf hok (fun _ _ h d => ad (Stab.vd 2 0 d []) (cL h.ext q2)) ?_
 refine Stab.mO 4 s0 hf hok ?_
 refine Stab.T 5 hf hok (fun _ _ h d => Stab.vd 4 0 d []) ?_
 refine Stab.T 6 hf hok (fun _ _ h d => Stab.vd 5 0 d []) ?_
 refine Stab.T 7 hf hok (fun _ _ h d => ad (Stab.vd 6 0 d []) (cL h.ext q2)) ?_
 refine Stab.T 8 hf hok (fun _ _ h d => ad (Stab.vd 7 0 d []) (cL h.ext q2)) ?_
 apply Stab.tq 9 _ hf hok
 . (
 intro fr1 w1 hh hd hk K Z
 have s65 := Stab.v 8 0 hd hk []
 clear hd
 go_simp
 try simp (disch := omega) only [Fact.W]
 try rw [show (way1.length : Int) + 1 - 1 = (way1.length : Int) by omega]
 exact Stab.k Z)
 refine Stab.Ti 10 hf hok (fun _ _ h d => ad (Stab.vd 3 6 d []) (Stab.vd 9 0 d [])) ?_
 refine Stab.mN 11 10 0 hf hok [] ?_
 refine Stab.E hf hok (fun _ _ h g => ad (Stab.O h s5) (Stab.f 11 0 g)) ?_
 clear hf hok s0 s5 s7 s40; intro fr1 w1 hf hx sS
 replace q2 := cL hx q2
 have hB9 := hBr.later hx
 have hp9 := (hx.block _ (heap_lt hpr)).trans hpr
 have x9 := cR1 0 hp9; have x10 := cR1 1 hp9; have x11 := cR1 2 hp9
 simp at x9 x10 x11
 clear d0 d1 d2 d3 hoa hav
 refine Zx hK17 (rg ?_)
 have bB := hf.B10 68 69 70 71 72 73 74 75 76 77
 iterate 3 refine Zy ?_
 refine Zc (value47 e he w1) ?_; rintro e w5 ⟨rfl, hb5⟩
 have hBv := hB9.later hb5
 obtain ⟨wb2, c2, avu, he2, _, hwb4, e0, e1, e2, e3, hou, hav4⟩ := hBv.top
 injection he2 with he2 _ he3
 injection he2 with he2
 injection he2 with he2
 subst he2
 have hrz := hBv.row
 obtain ⟨cz, hrz, _⟩ := hrz
 simp only [List.length_cons, Nat.add_zero] at hrz
 have fz1 := hrz.frozenAt (way1.length * 4 + 1)
 have fz2 := hrz.frozenAt (way1.length * 4 + 2)
 clear e0 e3 hou hav4 hrz x9 x10 x11
 refine Zv ?_
 iterate 8 refine Zy ?_
 refine Fact.nil (Zq0 hf ?_)
 clear hf sS bB; intro fr1 hf
 have hadd : add (ss, way) (wl last) (wvE e) = (ss2, ⟨⟨true, valE e, o1.st.arcs⟩, o1.by_⟩ :: way1) := by unfold add; simp only [wvE, HD.out, HS2.out, HY2.out, <- HO2.out]; rfl
 refine Fact.end0 rfl hf ⟨rfl, ownr, svr, .slice (some ⟨wb, 0, none⟩) (way1.length + 1) c, ?_, hkp, ?_⟩
 . (
 rw [hadd]; exact hBv.marked rfl)
 . (
 have h5 := hx.trans (hb5.mono hx.size); have hset : But (fun k => k = wb) w5 ((w5.setCell ⟨wb, way1.length * 4 + 1, none⟩ (.bool true)).setCell ⟨wb, way1.length * 4 + 2, none⟩ (.int .u64 (valE e))) := (But.setCell (S := fun k => k = wb) rfl _).trans (But.setCell (S := fun k => k = wb) rfl _); refine ⟨hset.os.trans (h5.os.trans hbw.os), hset.tape.trans (h5.tape.trans hbw.tape), hset.output.trans (h5.output.trans hbw.output), Nat.le_trans hbw.size (Nat.le_trans h5.size hset.size), fun k hk1 hk2 => ?_⟩; have h9 := hkp k hk1 (by omega); have h8 := hbw.size; have h7 := h5.size; rw [hset.block k (by omega) (fun e1 => by subst e1; have := HWB.out; omega), h5.block k (by omega), hbw.block k hk1 hk2]))))
theorem less_list : ∀ (a b : List UInt8), Op.bytesLess a b = lexlt (a.map UInt8.toNat) (b.map UInt8.toNat)
 | a, [] => by cases a <;> simp [Op.bytesLess, lexlt]
 | [], b :: l => by simp [Op.bytesLess, lexlt]
 | a :: x, b :: y => by
  simp only [Op.bytesLess, List.map_cons, lexlt]
  rw [less_list x y]
  congr 1
  ·congr 1
   by_cases h : a = b
   ·subst h; simp
   ·have : a.toNat ≠ b.toNat := fun e => h (UInt8.toNat_inj.1 e)
    simp [h, this]
theorem less_eq (a b : ByteArray) : Op.bytesLess a.toList b.toList = lexlt (wl a) (wl b) := by
 rw [ByteArray.toList_eq, ByteArray.toList_eq, less_list]
 rfl
def okW (s : ByteArray) : Bool := !s.toList.isEmpty && decide (s.size <= 255)
theorem nan61 (s : ByteArray) (w : World) : Calls Tryz.prog 154 #[.string s] w fun e w1 => e = .returned (.bool false) /\ w = w1 := by
 refine Zn1 6 Tryz.func154 fun fr hf s0 => ?_
 refine Ze fun _ hK1 => Zr [] hf ?_
 refine Zq1 0 hf ?_
 clear hf s0; intro fr1 hf s0
 refine Zs hK1 fun _ hK2 => Zr [3, 4, 5] hf ?_
 refine Zq1 2 hf ?_
 clear hf s0; intro fr1 hf s2
 refine Zx hK2 (Zret ?_)
 exact Fact.ret1 rfl hf s2 ⟨rfl, rfl⟩
theorem cmp54lt (a b : ByteArray) (h1 : Op.bytesLess a.toList b.toList = true) (w : World) : Calls Tryz.prog 133 #[.string a, .string b] w fun e w1 => e = .returned (.int .i64 (-1)) /\ w = w1 := by
 refine Zn2 20 Tryz.func133 fun fr hf s0 s1 => ?_
 have r1 := h1
 have r2 := trivial
 refine Ze fun _ hK1 => Zr [] hf ?_
 refine Zq2 0 1 hf ?_
 clear hf s0 s1; intro fr1 hf sS
 refine Zt hK1 fun _ hK2 => ?_
 have bB := hf.B2 7 8
 refine Zy ?_
 refine Zc (nan61 a w) ?_; rintro e w1 ⟨rfl, rfl⟩
 refine Zv ?_
 refine Zy ?_
 refine Fact.nil (Zq3 0 1 5 hf ?_)
 clear hf sS bB; intro fr1 hf sS
 refine Zt hK2 fun _ hK3 => ?_
 have bB := hf.B2 9 10
 refine Zy ?_
 refine Zc (nan61 b w) ?_; rintro e w2 ⟨rfl, rfl⟩
 refine Zv ?_
 refine Zy ?_
 refine Fact.nil (Zq4 0 1 5 6 hf ?_)
 clear hf sS bB; intro fr1 hf sS
 refine Zs hK3 fun _ hK4 => Ze fun _ hK5 => Zr [] hf ?_
 refine Zq4 0 1 6 11 hf ?_
 clear hf sS; intro fr1 hf sS
 refine Zx hK5 (Fact.cond_f sS.2.2.2 ?_)
 refine wp_skip (Zs hK4 fun _ hK6 => Ze fun _ hK7 => Zr [] hf ?_)
 refine Zq3 0 1 13 hf ?_
 clear hf sS; intro fr1 hf sS
 refine Zx hK7 (Fact.cond_f sS.2.2 ?_)
 refine wp_skip (Zs hK6 fun _ hK8 => Ze fun _ hK9 => Zr [14, 15] hf ?_)
 refine Zq3 0 1 16 hf ?_
 clear hf sS; intro fr1 hf sS
 refine Zx hK9 (Fact.cond_t sS.2.2 ?_)
 refine Ze fun _ hK10 => Zr [] hf ?_
 refine Zq1 4 hf ?_
 clear hf sS; intro fr1 hf s4
 refine Zx hK10 (Zret ?_)
 exact Fact.ret1 rfl hf s4 ⟨rfl, rfl⟩
theorem cmp54gt (a b : ByteArray) (h1 : Op.bytesLess a.toList b.toList = false) (h2 : (a.toList == b.toList) = false) (w : World) : Calls Tryz.prog 133 #[.string a, .string b] w fun e w1 => e = .returned (.int .i64 (1)) /\ w = w1 := by
 refine Zn2 20 Tryz.func133 fun fr hf s0 s1 => ?_
 have r1 := h1
 have r2 := h2
 refine Ze fun _ hK1 => Zr [] hf ?_
 refine Zq2 0 1 hf ?_
 clear hf s0 s1; intro fr1 hf sS
 refine Zt hK1 fun _ hK2 => ?_
 have bB := hf.B2 7 8
 refine Zy ?_
 refine Zc (nan61 a w) ?_; rintro e w1 ⟨rfl, rfl⟩
 refine Zv ?_
 refine Zy ?_
 refine Fact.nil (Zq3 0 1 5 hf ?_)
 clear hf sS bB; intro fr1 hf sS
 refine Zt hK2 fun _ hK3 => ?_
 have bB := hf.B2 9 10
 refine Zy ?_
 refine Zc (nan61 b w) ?_; rintro e w2 ⟨rfl, rfl⟩
 refine Zv ?_
 refine Zy ?_
 refine Fact.nil (Zq4 0 1 5 6 hf ?_)
 clear hf sS bB; intro fr1 hf sS
 refine Zs hK3 fun _ hK4 => Ze fun _ hK5 => Zr [] hf ?_
 refine Zq4 0 1 6 11 hf ?_
 clear hf sS; intro fr1 hf sS
 refine Zx hK5 (Fact.cond_f sS.2.2.2 ?_)
 refine wp_skip (Zs hK4 fun _ hK6 => Ze fun _ hK7 => Zr [] hf ?_)
 refine Zq3 0 1 13 hf ?_
 clear hf sS; intro fr1 hf sS
 refine Zx hK7 (Fact.cond_f sS.2.2 ?_)
 refine wp_skip (Zs hK6 fun _ hK8 => Ze fun _ hK9 => Zr [14, 15] hf ?_)
 refine Zq3 0 1 16 hf ?_
 clear hf sS; intro fr1 hf sS
 refine Zx hK9 (Fact.cond_f sS.2.2 ?_)
 refine wp_skip (Zs hK8 fun _ hK10 => Ze fun _ hK11 => Zr [17, 18] hf ?_)
 refine Zq1 19 hf ?_
 clear hf sS; intro fr1 hf s19
 refine Zx hK11 ?_
 rw [r1, r2] at s19
 simp only [Bool.or_self, Bool.false_or, Bool.not_false, Bool.not_true] at s19
 refine Fact.cond_t s19 ?_
 refine Ze fun _ hK12 => Zr [] hf ?_
 refine Zq1 4 hf ?_
 clear hf s19; intro fr1 hf s4
 refine Zx hK12 (Zret ?_)
 exact Fact.ret1 rfl hf s4 ⟨rfl, rfl⟩
theorem cmp54eq (a b : ByteArray) (h1 : Op.bytesLess a.toList b.toList = false) (h2 : (a.toList == b.toList) = true) (w : World) : Calls Tryz.prog 133 #[.string a, .string b] w fun e w1 => e = .returned (.int .i64 (0)) /\ w = w1 := by
 refine Zn2 20 Tryz.func133 fun fr hf s0 s1 => ?_
 have r1 := h1
 have r2 := h2
 refine Ze fun _ hK1 => Zr [] hf ?_
 refine Zq2 0 1 hf ?_
 clear hf s0 s1; intro fr1 hf sS
 refine Zt hK1 fun _ hK2 => ?_
 have bB := hf.B2 7 8
 refine Zy ?_
 refine Zc (nan61 a w) ?_; rintro e w1 ⟨rfl, rfl⟩
 refine Zv ?_
 refine Zy ?_
 refine Fact.nil (Zq3 0 1 5 hf ?_)
 clear hf sS bB; intro fr1 hf sS
 refine Zt hK2 fun _ hK3 => ?_
 have bB := hf.B2 9 10
 refine Zy ?_
 refine Zc (nan61 b w) ?_; rintro e w2 ⟨rfl, rfl⟩
 refine Zv ?_
 refine Zy ?_
 refine Fact.nil (Zq4 0 1 5 6 hf ?_)
 clear hf sS bB; intro fr1 hf sS
 refine Zs hK3 fun _ hK4 => Ze fun _ hK5 => Zr [] hf ?_
 refine Zq4 0 1 6 11 hf ?_
 clear hf sS; intro fr1 hf sS
 refine Zx hK5 (Fact.cond_f sS.2.2.2 ?_)
 refine wp_skip (Zs hK4 fun _ hK6 => Ze fun _ hK7 => Zr [] hf ?_)
 refine Zq3 0 1 13 hf ?_
 clear hf sS; intro fr1 hf sS
 refine Zx hK7 (Fact.cond_f sS.2.2 ?_)
 refine wp_skip (Zs hK6 fun _ hK8 => Ze fun _ hK9 => Zr [14, 15] hf ?_)
 refine Zq3 0 1 16 hf ?_
 clear hf sS; intro fr1 hf sS
 refine Zx hK9 (Fact.cond_f sS.2.2 ?_)
 refine wp_skip (Zs hK8 fun _ hK10 => Ze fun _ hK11 => Zr [17, 18] hf ?_)
 refine Zq1 19 hf ?_
 clear hf sS; intro fr1 hf s19
 refine Zx hK11 ?_
 rw [r1, r2] at s19
 simp only [Bool.or_self, Bool.false_or, Bool.not_false, Bool.not_true] at s19
 refine Fact.cond_f s19 ?_
 refine wp_skip (Zs hK10 fun _ hK12 => Zr [] hf ?_)
 refine Zq1 4 hf ?_
 clear hf s19; intro fr1 hf s4
 refine Zx hK12 (Zret ?_)
 exact Fact.ret1 rfl hf s4 ⟨rfl, rfl⟩
def cmpS (a b : ByteArray) : Int := if lexlt (wl a) (wl b) then -1 else if (a.toList == b.toList) = true then 0 else 1
theorem cmp54 (a b : ByteArray) (w : World) : Calls Tryz.prog 133 #[.string a, .string b] w fun e w1 => e = .returned (.int .i64 (cmpS a b)) /\ w = w1 := by
 unfold cmpS
 rw [<- less_eq]
 cases h1 : Op.bytesLess a.toList b.toList with
 | true => exact cmp54lt a b h1 w
 | false =>
  cases h2 : (a.toList == b.toList) with
  | true => exact cmp54eq a b h1 h2 w
  | false => exact cmp54gt a b h1 h2 w
theorem by46 (e : Ent) (b : ByteArray) (w : World) : Calls Tryz.prog 88 #[eval e, .string b] w fun e1 w1 => e1 = .returned (.int .i64 (cmpS e.word b)) /\ Below w.heap.size w w1 := by
 refine Zn2 9 Tryz.func88 fun fr hf s0 s1 => ?_
 simp only [eval] at s0
 refine Ze fun _ hK1 => Zr [] hf ?_
 refine Zq2 1 2 hf ?_
 clear hf s0 s1; intro fr1 hf sS
 refine Zt hK1 fun _ hK2 => ?_
 have bB := hf.B4 5 6 7 8
 iterate 3 refine Zy ?_
 refine Zc (cmp54 e.word b (w.alloc (.cells #[.string e.word, .int .u32 e.weight, .bool e.gone] 64))) ?_; rintro e w2 ⟨rfl, rfl⟩
 refine Zv ?_
 refine Zy ?_
 refine Fact.nil (Zq1 4 hf ?_)
 clear hf sS bB; intro fr1 hf s4
 refine Zx hK2 (Zret ?_)
 exact Fact.ret1 rfl hf s4 ⟨rfl, (Below.refl _ _).alloc (Nat.le_refl _) _⟩
theorem chk52e (s : ByteArray) (h1 : s.toList.isEmpty = true) (w : World) : Calls Tryz.prog 131 #[.string s] w fun e w1 => e = .returned (.bool (okW s)) /\ w = w1 := by
 refine Zn1 10 Tryz.func131 fun fr hf s0 => ?_
 have q1 := h1
 refine Ze fun _ hK1 => Zr [] hf ?_
 refine Zq1 0 hf ?_
 clear hf s0; intro fr1 hf s0
 refine Zt hK1 fun _ hK2 => ?_
 have bB := hf.B7 3 4 5 6 7 8 9
 iterate 3 refine Zy ?_
 refine Zk ?_ (hv := by simp (decide := true) only [Fact.G, reduceIte, hf.size, Fact.N, q1, Fact.N])
 refine Zk ?_ (hv := by simp (decide := true) only [Fact.G, reduceIte, hf.size, Fact.N, q1, Fact.N])
 refine Zk ?_ (hv := by simp (decide := true) only [Fact.G, reduceIte, hf.size, Fact.N, q1, Fact.N])
 iterate 2 refine Zy ?_
 refine Fact.nil (Zq1 2 hf ?_)
 clear hf s0 bB; intro fr1 hf s2
 refine Zx hK2 (Zret ?_)
 exact Fact.ret1 rfl hf s2 ⟨by simp [okW, h1], rfl⟩
theorem chk52n (s : ByteArray) (h1 : s.toList.isEmpty = false) (w : World) : Calls Tryz.prog 131 #[.string s] w fun e w1 => e = .returned (.bool (okW s)) /\ w = w1 := by
 refine Zn1 10 Tryz.func131 fun fr hf s0 => ?_
 have q1 := h1
 refine Ze fun _ hK1 => Zr [] hf ?_
 refine Zq1 0 hf ?_
 clear hf s0; intro fr1 hf s0
 refine Zt hK1 fun _ hK2 => ?_
 have bB := hf.B7 3 4 5 6 7 8 9
 iterate 3 refine Zy ?_
 refine Zg ?_ (hv := by simp (decide := true) only [Fact.G, reduceIte, hf.size, q1, Fact.N])
 refine Zg ?_ (hv := by simp (decide := true) only [Fact.G, reduceIte, hf.size, q1, Fact.N])
 refine Zg ?_ (hv := by simp (decide := true) only [Fact.G, reduceIte, hf.size, q1, Fact.N])
 iterate 2 refine Zy ?_
 refine Fact.nil (Zq1 2 hf ?_)
 clear hf s0 bB; intro fr1 hf s2
 refine Zx hK2 (Zret ?_)
 exact Fact.ret1 rfl hf s2 ⟨by simp [okW, h1]; try omega, rfl⟩
theorem chk52 (s : ByteArray) (w : World) : Calls Tryz.prog 131 #[.string s] w fun e w1 => e = .returned (.bool (okW s)) /\ w = w1 := by
 cases h : s.toList.isEmpty with
 | true => exact chk52e s h w
 | false => exact chk52n s h w
end Dw
end Go.Proofs.YtcddnmhmcieebaaGreatDoor
