/- Dawg: all that a state is, as text. -/
import Derived.Test.YtgjfhedgdbbinaaDoorDFmt
import Derived.Test.YtgjfhedgdbbinaaDoorTools
namespace Go.Proofs.YtgjfhedgdbbinaaDoor
open Go.RowKit
set_option linter.unusedSimpArgs false
set_option linter.unusedVariables false
set_option linter.unnecessarySimpa false
namespace Dw

def keyN (s : State) (i : Nat) : List Nat := (if s.final then [33] else []) ++ num s.out ++ (s.arcs.take i).flatMap fun a => num a.byte ++ num a.out ++ num a.to.toNat
def keyL (s : State) : List Nat := keyN s s.arcs.length
theorem keyN_zero (s : State) : keyN s 0 = (if s.final then [33] else []) ++ num s.out := by simp [keyN]
theorem keyN_succ {s : State} {i : Nat} {a : Arc} (h : s.arcs[i]? = some a) : keyN s (i + 1) = keyN s i ++ num a.byte ++ num a.out ++ num a.to.toNat := by
  have ht : s.arcs.take (i + 1) = s.arcs.take i ++ [a] := by rw [List.take_add_one, h]; rfl
  simp [keyN, ht]
theorem keyN_room {s : State} {i n : Nat} (hos : okS s) (hal : s.arcs.length ≤ 256) (hi : i ≤ s.arcs.length) (hn : n ≤ 28) : (keyN s i).length + n ≤ 1000000 := by
  have h1 : ∀ l : List Arc, (∀ a ∈ l, okA a) → (l.flatMap fun a => num a.byte ++ num a.out ++ num a.to.toNat).length ≤ l.length * 42 := by
    intro l
    induction l with
    | nil => simp
    | cons a l ih =>
      intro h
      have h2 := h a (List.mem_cons_self ..)
      have h3 := num_length a.byte (by have := h2.1; omega)
      have h4 := num_length a.out h2.2.1
      have h5 := num_length a.to.toNat (by have := h2.2.2.2; omega)
      have h6 := ih (fun x hx => h x (List.mem_cons_of_mem _ hx))
      simp only [List.flatMap_cons, List.length_append, List.length_cons]
      omega
  have h2 := h1 (s.arcs.take i) (fun a ha => hos.2.2 a (List.mem_of_mem_take ha))
  have h3 := num_length s.out hos.1
  have h4 : (s.arcs.take i).length ≤ 256 := by simp; omega
  have h5 : (if s.final then [33] else ([] : List Nat)).length ≤ 1 := by split <;> simp
  unfold keyN
  simp only [List.length_append] at h2 ⊢
  omega
theorem others_at {w w' : World} {b k : Nat} {cs : Array Value} {t : TypeId} {fr : Nat × Nat} (hk : Lib.OthersKept 5 (some b) w w') (h : w.heap[k]? = some (.cells cs t fr)) (ht : t ≠ 5) (hb : k ≠ b) : w'.heap[k]? = some (.cells cs t fr) :=
  hk k _ h (fun e => hb (by injection e)) (fun c fz e => ht (by injection e))
set_option maxHeartbeats 4000000 in
set_option maxRecDepth 100000 in
theorem key49 (w : World) (s : State) (B : Nat → Prop) (av : Value) (hra : RA w B av s.arcs) (hos : okS s) (hto0 : ∀ a ∈ s.arcs, 0 ≤ a.to) (hal : s.arcs.length ≤ 256) : Calls Tryd.prog 49 #[sval av s] w fun e w1 => e = .returned (.string (strOf (keyL s))) ∧ Below w.heap.size w w1 := by
 refine calls_of_wp Tryd.func49 rfl ?_
 refine Fact.en 38 fun fr hf hT => ?_
 have s0 := hT 0 _ rfl
 clear hT
 have ha := hra
 obtain ⟨A, cc, rfl, hcc⟩ := ha.form
 have hos1 := hos.1
 have HT := Lib.hid hto0; clear hto0
 simp only [sval] at s0
 refine Fact.sq fun K1 hK1 => ?_
 refine rg ?_
 refine fp fun K Z => ?_
 go_simp
 apply Z.out; clear Z K
 refine fp fun K Z => ?_
 go_simp
 apply Z.out; clear Z K
 refine Fact.z hf fun fr1 hf1 hT => ?_
 have hKp := hT 1
 simp (decide := true) only [Fact.G, hf.size, reduceIte] at hKp
 replace hf := hf1; clear hT hf1 s0
 have s1 := hKp; clear hKp
 obtain ⟨W0, hW0⟩ : ∃ W0, w.alloc (.cells #[.slice A s.arcs.length cc, .bool s.final, .int .u64 s.out] 61) = W0 := ⟨_, rfl⟩
 try rw [hW0]
 obtain ⟨hb0, c0, c1, c2, -, hz0_⟩ := box3 hW0
 clear hW0
 have hz0 : w.heap.size < W0.heap.size := by rw [hz0_]; exact Nat.lt_succ_self _
 clear hz0_
 have ha0 := ha.later hb0
 refine nx (hK1 _ _ ?_)
 refine Fact.sq fun K2 hK2 => ?_
 refine rg ?_
 refine fp fun K Z => ?_
 go_simp
 apply Z.out; clear Z K
 refine Fact.z hf fun fr1 hf1 hT => ?_
 have hKp : _ ∧ _ := ⟨hT 1, hT 3⟩
 simp (decide := true) only [Fact.G, hf.size, reduceIte, s1] at hKp
 replace hf := hf1; clear hT hf1 s1
 obtain ⟨s1, s3⟩ := hKp
 obtain ⟨W1, hW1⟩ : ∃ W1, W0.alloc (.cells #[.pointer none, .slice none 0 0] 115) = W1 := ⟨_, rfl⟩
 try rw [hW1]
 have hB0 := fresh W0; rw [hW1] at hB0
 have hb1 : Below W0.heap.size W0 W1 := by rw [← hW1]; exact (Below.refl _ _).alloc (Nat.le_refl _) _
 have hlt1 : W0.heap.size ≤ W1.heap.size := hb1.size
 clear hW1
 replace c0 := cL hb1 c0; replace c1 := cL hb1 c1; replace c2 := cL hb1 c2; have ha1 := ha0.later hb1
 have hbB : Below W0.heap.size W0 W1 := hb1
 refine nx (hK2 _ _ ?_)
 refine Fact.sq fun K3 hK3 => ?_
 refine rg ?_
 have b7 := hf.b 7
 refine fp fun K Z => ?_
 go_simp
 apply Z.out; clear Z K
 refine fp fun K Z => ?_
 go_simp
 apply Z.out; clear Z K
 refine Fact.z hf fun fr1 hf1 hT => ?_
 have hKp : _ ∧ _ ∧ _ := ⟨hT 1, hT 3, hT 4⟩
 simp (decide := true) only [Fact.G, hf.size, reduceIte, s1, s3] at hKp
 replace hf := hf1; clear hT hf1 s1 s3 b7
 obtain ⟨s1, s3, s4⟩ := hKp
 refine nx (hK3 _ _ ?_)
 refine Fact.sq fun K4 hK4 => ?_
 refine Fact.sq fun K5 hK5 => ?_
 refine rg ?_
 have b8 := hf.b 8
 refine fp fun K Z => ?_
 go_simp
 apply Z.out; clear Z K
 refine fp fun K Z => ?_
 go_simp
 apply Z.out; clear Z K
 refine Fact.z hf fun fr1 hf1 hT => ?_
 have hKp : _ ∧ _ ∧ _ ∧ _ := ⟨hT 1, hT 3, hT 4, hT 9⟩
 simp (decide := true) only [Fact.G, hf.size, reduceIte, s1, s3, s4] at hKp
 replace hf := hf1; clear hT hf1 s1 s3 s4 b8
 obtain ⟨s1, s3, s4, s9⟩ := hKp
 refine nx (hK5 _ _ ?_)
 rcases hfin : s.final with _ | _
 · (
 try rw [hfin] at s9
 refine Fact.cond_f s9 ?_
 obtain ⟨w2, hw2⟩ : ∃ w2, w2 = W1 := ⟨_, rfl⟩
 have hI2 : Lib.IsBuilder 115 5 W0.heap.size W0.heap.size (Lib.byteCells (bs (if s.final then [33] else []))) w2 := by rw [hfin, hw2]; exact hB0
 have hb2 : Below W0.heap.size W1 w2 := by rw [hw2]; exact Below.refl _ _
 try rw [← hw2]
 clear hw2
 refine wp_skip ?_
 refine nx (hK4 _ _ ?_)
 refine Fact.sq fun K6 hK6 => ?_
 have d0 := old_cell hb2 c0 (show w.heap.size < W0.heap.size by omega); have d2 := old_cell hb2 c2 (show w.heap.size < W0.heap.size by omega)
 refine rg ?_
 have b11 := hf.b 11
 have b12 := hf.b 12
 have b13 := hf.b 13
 refine fp fun K Z => ?_
 go_simp
 apply Z.out; clear Z K
 refine fp fun K Z => ?_
 go_simp
 apply Z.out; clear Z K
 refine fp fun K Z => ?_
 go_simp
 apply Z.out; clear Z K
 refine fp fun K Z => ?_
 go_simp
 go_at_call 55; refine (num55 w2 W0.heap.size W0.heap.size _ s.out hos1 hI2 (by have := hb2.size; omega) (by split <;> simp)).mono ?_; rintro e w3 ⟨rfl, hI3, hb3, -⟩
 try dsimp only
 apply Z.out; clear Z K
 refine Fact.z hf fun fr1 hf1 hT => ?_
 have hKp : _ ∧ _ ∧ _ := ⟨hT 1, hT 3, hT 4⟩
 simp (decide := true) only [Fact.G, reduceIte, s1, s3, s4] at hKp
 replace hf := hf1; clear hT hf1 s1 s3 s4 s9 b11 b12 b13
 obtain ⟨s1, s3, s4⟩ := hKp
 have d3 := old_cell hb3 d0 (show w.heap.size < W0.heap.size by omega)
 have hbW := (hbB.trans hb2).trans hb3
 refine nx (hK6 _ _ ?_)
 refine Fact.sq fun K7 hK7 => ?_
 refine Fact.sq fun K8 hK8 => ?_
 refine rg ?_
 have b15 := hf.b 15
 have b16 := hf.b 16
 refine fp fun K Z => ?_
 go_simp
 apply Z.out; clear Z K
 refine fp fun K Z => ?_
 go_simp
 apply Z.out; clear Z K
 refine fp fun K Z => ?_
 go_simp
 apply Z.out; clear Z K
 refine fp fun K Z => ?_
 go_simp
 apply Z.out; clear Z K
 refine Fact.z hf fun fr1 hf1 hT => ?_
 have hKp : _ ∧ _ ∧ _ ∧ _ ∧ _ := ⟨hT 3, hT 4, hT 16, hT 17, hT 18⟩
 simp (decide := true) only [Fact.G, hf.size, reduceIte, s3, s4] at hKp
 replace hf := hf1; clear hT hf1 s1 s3 s4 b15 b16
 obtain ⟨s3, s4, s16, s17, s18⟩ := hKp
 refine nx (hK8 _ _ ?_)
 refine wp_block ?_
 clear d0 d2 d3 c0 c1 c2
 refine wp_loop_ghost (fun gk fr wr => ∃ (i : Nat), gk = s.arcs.length - i ∧ i ≤ s.arcs.length ∧ Fact.Fr 38 fr ∧ fr.tmps[3]? = some (.pointer (some ⟨W0.heap.size, 0, none⟩)) ∧ fr.tmps[4]? = some (.func (.func 55) #[] #[.pointer (some ⟨W0.heap.size, 0, none⟩)]) ∧ fr.tmps[16]? = some (.slice A s.arcs.length cc) ∧ fr.tmps[17]? = some (.int .i64 s.arcs.length) ∧ fr.tmps[18]? = some (.int .i64 i) ∧ Lib.IsBuilder 115 5 W0.heap.size W0.heap.size (Lib.byteCells (bs (keyN s i))) wr ∧ Below W0.heap.size W0 wr) (s.arcs.length) ?_ ?_
 · (
 exact ⟨0, rfl, Nat.zero_le _, hf, s3, s4, s16, s17, s18, by rw [keyN_zero]; exact hI3, hbW⟩)
 · (
 clear hf s3 s4 s16 s17 s18
 rintro gk fr wr ⟨i, hk, hi, hf, s3, s4, s16, s17, s18, hI, hb⟩
 have HK := Lib.hid hk; clear hk
 refine Fact.sq fun K9 hK9 => ?_
 refine rg ?_
 refine fp fun K Z => ?_
 go_simp
 apply Z.out; clear Z K
 refine Fact.z hf fun fr1 hf1 hT => ?_
 have hKp : _ ∧ _ ∧ _ ∧ _ ∧ _ ∧ _ := ⟨hT 3, hT 4, hT 16, hT 17, hT 18, hT 19⟩
 simp (decide := true) only [Fact.G, hf.size, reduceIte, s3, s4, s16, s17, s18] at hKp
 replace hf := hf1; clear hT hf1 s3 s4 s16 s17 s18
 obtain ⟨s3, s4, s16, s17, s18, s19⟩ := hKp
 refine nx (hK9 _ _ ?_)
 refine Fact.sq fun K10 hK10 => ?_
 refine Fact.cond_s s19 (fun hq => ?_) (fun hq => ?_)
 · (
 have hlt2 : i < s.arcs.length := by have h9 := of_decide_eq_true hq; omega
 obtain ⟨a, hia⟩ : ∃ a, s.arcs[i]? = some a := ⟨_, List.getElem?_eq_getElem hlt2⟩
 obtain ⟨b, off, rfl, hbl, e0, e1, e2⟩ := (ha0.later hb).at' hia
 have haa := hos.2.2 a (List.mem_of_getElem? hia)
 have hto := HT.out a (List.mem_of_getElem? hia)
 have HIA := Lib.hid hia; clear hia
 have ha64 := haa.2.1; have hab := haa.1; have hat := haa.2.2.2
 obtain ⟨t, ht⟩ : ∃ t : Nat, a.to = (t : Int) := ⟨a.to.toNat, by omega⟩
 have ht2 : a.to.toNat = t := by omega
 rw [ht] at e2
 have HTT := Lib.hid ht2
 rw [ht] at hat
 clear ht ht2 hto haa
 refine wp_skip ?_
 refine nx (hK10 _ _ ?_)
 refine Fact.sq fun K11 hK11 => ?_
 refine wp_block ?_
 refine Fact.sq fun K12 hK12 => ?_
 refine rg ?_
 have b20 := hf.b 20
 have b21 := hf.b 21
 have b6 := hf.b 6
 refine fp fun K Z => ?_
 go_simp
 try rw [if_pos (by omega)]
 apply Z.out; clear Z K
 refine fp fun K Z => ?_
 go_simp
 apply Z.out; clear Z K
 refine fp fun K Z => ?_
 go_simp
 apply Z.out; clear Z K
 refine fp fun K Z => ?_
 go_simp
 apply Z.out; clear Z K
 refine Fact.z hf fun fr1 hf1 hT => ?_
 have hKp : _ ∧ _ ∧ _ ∧ _ ∧ _ ∧ _ := ⟨hT 3, hT 4, hT 6, hT 16, hT 17, hT 18⟩
 simp (decide := true) only [Fact.G, hf.size, reduceIte, s3, s4, s16, s17, s18] at hKp
 replace hf := hf1; clear hT hf1 s3 s4 s16 s17 s18 s19 b20 b21 b6
 obtain ⟨s3, s4, s6, s16, s17, s18⟩ := hKp
 obtain ⟨W5, hW5⟩ : ∃ W0, wr.alloc (.cells #[.int .u8 a.byte, .int .u64 a.out, .int .i64 t] 63) = W0 := ⟨_, rfl⟩
 try rw [hW5]
 obtain ⟨hb5, f0, -, -, hp5, hz5_⟩ := box3 hW5
 clear hW5
 have hz5 : wr.heap.size < W5.heap.size := by rw [hz5_]; exact Nat.lt_succ_self _
 clear hz5_
 clear e0 e1 e2 hbl
 have hI5 := build_later hI hb5
 have hWr := hb.size
 have hpb : wr.heap.size ≠ W0.heap.size := by have := hI.elim (fun x => x.lt) (fun x => x.lt); omega
 refine nx (hK12 _ _ ?_)
 refine Fact.sq fun K13 hK13 => ?_
 refine rg ?_
 have b22 := hf.b 22
 have b23 := hf.b 23
 have b24 := hf.b 24
 have b25 := hf.b 25
 refine fp fun K Z => ?_
 go_simp
 apply Z.out; clear Z K
 refine fp fun K Z => ?_
 go_simp
 apply Z.out; clear Z K
 refine fp fun K Z => ?_
 go_simp
 apply Z.out; clear Z K
 refine fp fun K Z => ?_
 go_simp
 try simp (disch := omega) only [Fact.wrap_u64]
 apply Z.out; clear Z K
 refine fp fun K Z => ?_
 go_simp
 go_at_call 55; refine (num55 W5 W0.heap.size W0.heap.size _ a.byte (by omega) hI5 (by omega) (keyN_room hos hal (Nat.le_of_lt hlt2) (Nat.zero_le _))).mono ?_; rintro e w6 ⟨rfl, hI6, hb6, hk6⟩
 try dsimp only
 apply Z.out; clear Z K
 refine Fact.z hf fun fr1 hf1 hT => ?_
 have hKp : _ ∧ _ ∧ _ ∧ _ ∧ _ ∧ _ := ⟨hT 3, hT 4, hT 6, hT 16, hT 17, hT 18⟩
 simp (decide := true) only [Fact.G, reduceIte, s3, s4, s6, s16, s17, s18] at hKp
 replace hf := hf1; clear hT hf1 s3 s4 s6 s16 s17 s18 b22 b23 b24 b25
 obtain ⟨s3, s4, s6, s16, s17, s18⟩ := hKp
 have hp6 := others_at hk6 hp5 (by decide) hpb
 have g1 := cell_of_row _ _ 1 _ 63 (0, 0) hp6
 simp at g1
 clear f0 hp5
 refine nx (hK13 _ _ ?_)
 refine Fact.sq fun K14 hK14 => ?_
 refine rg ?_
 have b27 := hf.b 27
 have b28 := hf.b 28
 have b29 := hf.b 29
 refine fp fun K Z => ?_
 go_simp
 apply Z.out; clear Z K
 refine fp fun K Z => ?_
 go_simp
 apply Z.out; clear Z K
 refine fp fun K Z => ?_
 go_simp
 apply Z.out; clear Z K
 refine fp fun K Z => ?_
 go_simp
 go_at_call 55; refine (num55 w6 W0.heap.size W0.heap.size _ a.out ha64 hI6 (by have := hb6.size; omega) (by rw [List.length_append]; exact keyN_room hos hal (Nat.le_of_lt hlt2) (by have := num_length a.byte (by omega); omega))).mono ?_; rintro e w7 ⟨rfl, hI7, hb7, hk7⟩
 try dsimp only
 apply Z.out; clear Z K
 refine Fact.z hf fun fr1 hf1 hT => ?_
 have hKp : _ ∧ _ ∧ _ ∧ _ ∧ _ ∧ _ := ⟨hT 3, hT 4, hT 6, hT 16, hT 17, hT 18⟩
 simp (decide := true) only [Fact.G, reduceIte, s3, s4, s6, s16, s17, s18] at hKp
 replace hf := hf1; clear hT hf1 s3 s4 s6 s16 s17 s18 b27 b28 b29
 obtain ⟨s3, s4, s6, s16, s17, s18⟩ := hKp
 have hp7 := others_at hk7 hp6 (by decide) hpb
 have g2 := cell_of_row _ _ 2 _ 63 (0, 0) hp7
 simp at g2
 clear g1 hp6
 refine nx (hK14 _ _ ?_)
 refine rg ?_
 have b31 := hf.b 31
 have b32 := hf.b 32
 have b33 := hf.b 33
 have b34 := hf.b 34
 refine fp fun K Z => ?_
 go_simp
 apply Z.out; clear Z K
 refine fp fun K Z => ?_
 go_simp
 apply Z.out; clear Z K
 refine fp fun K Z => ?_
 go_simp
 apply Z.out; clear Z K
 refine fp fun K Z => ?_
 go_simp
 try simp (disch := omega) only [Fact.wrap_u64]
 apply Z.out; clear Z K
 refine fp fun K Z => ?_
 go_simp
 go_at_call 55; refine (num55 w7 W0.heap.size W0.heap.size _ t (by omega) hI7 (by have := hb6.size; have := hb7.size; omega) (by rw [List.length_append, List.length_append, Nat.add_assoc]; exact keyN_room hos hal (Nat.le_of_lt hlt2) (by have := num_length a.byte (by omega); have := num_length a.out ha64; omega))).mono ?_; rintro e w8 ⟨rfl, hI8, hb8, hk8⟩
 try dsimp only
 apply Z.out; clear Z K
 refine Fact.z hf fun fr1 hf1 hT => ?_
 have hKp : _ ∧ _ ∧ _ ∧ _ ∧ _ := ⟨hT 3, hT 4, hT 16, hT 17, hT 18⟩
 simp (decide := true) only [Fact.G, reduceIte, s3, s4, s16, s17, s18] at hKp
 replace hf := hf1; clear hT hf1 s3 s4 s6 s16 s17 s18 b31 b32 b33 b34
 obtain ⟨s3, s4, s16, s17, s18⟩ := hKp
 refine Fact.block_normal ?_
 refine nx (hK11 _ _ ?_)
 refine rg ?_
 have b36 := hf.b 36
 refine fp fun K Z => ?_
 go_simp
 try simp (disch := omega) only [Fact.W]
 apply Z.out; clear Z K
 refine fp fun K Z => ?_
 go_simp
 apply Z.out; clear Z K
 refine Fact.z hf fun fr1 hf1 hT => ?_
 have hKp : _ ∧ _ ∧ _ ∧ _ ∧ _ := ⟨hT 3, hT 4, hT 16, hT 17, hT 18⟩
 simp (decide := true) only [Fact.G, hf.size, reduceIte, s3, s4, s16, s17] at hKp
 replace hf := hf1; clear hT hf1 s3 s4 s16 s17 s18 b36
 obtain ⟨s3, s4, s16, s17, s18⟩ := hKp
 refine Fact.then_normal ?_
 exact ⟨_, by have := HK.out; omega, i + 1, rfl, by omega, hf, s3, s4, s16, s17, by rw [s18]; rfl, by rw [keyN_succ HIA.out, HTT.out]; exact hI8, (((hb.trans (hb5.mono hb.size)).trans hb6).trans hb7).trans hb8⟩)
 · (
 have hie : i = s.arcs.length := by have h9 := of_decide_eq_false hq; omega
 subst hie
 refine wp_exit ?_
 refine Fact.then_exit ?_
 refine Fact.then_exit ?_
 refine Fact.block_exit ?_
 refine nx (hK7 _ _ ?_)
 refine Fact.sq fun K15 hK15 => ?_
 refine rg ?_
 have b37 := hf.b 37
 refine fp fun K Z => ?_
 go_simp
 go_at_call 59; refine (Tryd.Builder_String_any W0.heap.size W0.heap.size _ wr hI hb.size).mono ?_; rintro e w9 ⟨rfl, hb9⟩
 try dsimp only
 apply Z.out; clear Z K
 refine fp fun K Z => ?_
 go_simp
 apply Z.out; clear Z K
 refine Fact.z hf fun fr1 hf1 hT => ?_
 have hKp := hT 2
 simp (decide := true) only [Fact.G, hf.size, reduceIte] at hKp
 replace hf := hf1; clear hT hf1 s3 s4 s16 s17 s18 s19 b37
 have s2 := hKp; clear hKp
 refine nx (hK15 _ _ ?_)
 refine wp_ret ?_
 exact Fact.ret1 rfl hf s2 ⟨rfl, (hb0.trans (hb.mono hb0.size)).trans (hb9.mono hb0.size)⟩)))
 · (
 try rw [hfin] at s9
 refine Fact.cond_t s9 ?_
 refine rg ?_
 refine fp fun K Z => ?_
 go_simp
 go_at_call 58; refine (write_any W0.heap.size W0.heap.size (Lib.byteCells (bs [])) 33 W1 hB0 (by simp [bs, Lib.byteCells]) hlt1).mono ?_; rintro e w2 ⟨rfl, hB2, hb2, -⟩
 have hI2 : Lib.IsBuilder 115 5 W0.heap.size W0.heap.size (Lib.byteCells (bs (if s.final then [33] else []))) w2 := by rw [hfin]; exact .inr hB2
 try dsimp only
 apply Z.out; clear Z K
 refine Fact.z hf fun fr1 hf1 hT => ?_
 have hKp : _ ∧ _ ∧ _ := ⟨hT 1, hT 3, hT 4⟩
 simp (decide := true) only [Fact.G, reduceIte, s1, s3, s4] at hKp
 replace hf := hf1; clear hT hf1 s1 s3 s4 s9
 obtain ⟨s1, s3, s4⟩ := hKp
 refine nx (hK4 _ _ ?_)
 refine Fact.sq fun K16 hK16 => ?_
 have d0 := old_cell hb2 c0 (show w.heap.size < W0.heap.size by omega); have d2 := old_cell hb2 c2 (show w.heap.size < W0.heap.size by omega)
 refine rg ?_
 have b11 := hf.b 11
 have b12 := hf.b 12
 have b13 := hf.b 13
 refine fp fun K Z => ?_
 go_simp
 apply Z.out; clear Z K
 refine fp fun K Z => ?_
 go_simp
 apply Z.out; clear Z K
 refine fp fun K Z => ?_
 go_simp
 apply Z.out; clear Z K
 refine fp fun K Z => ?_
 go_simp
 go_at_call 55; refine (num55 w2 W0.heap.size W0.heap.size _ s.out hos1 hI2 (by have := hb2.size; omega) (by split <;> simp)).mono ?_; rintro e w3 ⟨rfl, hI3, hb3, -⟩
 try dsimp only
 apply Z.out; clear Z K
 refine Fact.z hf fun fr1 hf1 hT => ?_
 have hKp : _ ∧ _ ∧ _ := ⟨hT 1, hT 3, hT 4⟩
 simp (decide := true) only [Fact.G, reduceIte, s1, s3, s4] at hKp
 replace hf := hf1; clear hT hf1 s1 s3 s4 b11 b12 b13
 obtain ⟨s1, s3, s4⟩ := hKp
 have d3 := old_cell hb3 d0 (show w.heap.size < W0.heap.size by omega)
 have hbW := (hbB.trans hb2).trans hb3
 refine nx (hK16 _ _ ?_)
 refine Fact.sq fun K17 hK17 => ?_
 refine Fact.sq fun K18 hK18 => ?_
 refine rg ?_
 have b15 := hf.b 15
 have b16 := hf.b 16
 refine fp fun K Z => ?_
 go_simp
 apply Z.out; clear Z K
 refine fp fun K Z => ?_
 go_simp
 apply Z.out; clear Z K
 refine fp fun K Z => ?_
 go_simp
 apply Z.out; clear Z K
 refine fp fun K Z => ?_
 go_simp
 apply Z.out; clear Z K
 refine Fact.z hf fun fr1 hf1 hT => ?_
 have hKp : _ ∧ _ ∧ _ ∧ _ ∧ _ := ⟨hT 3, hT 4, hT 16, hT 17, hT 18⟩
 simp (decide := true) only [Fact.G, hf.size, reduceIte, s3, s4] at hKp
 replace hf := hf1; clear hT hf1 s1 s3 s4 b15 b16
 obtain ⟨s3, s4, s16, s17, s18⟩ := hKp
 refine nx (hK18 _ _ ?_)
 refine wp_block ?_
 clear d0 d2 d3 c0 c1 c2
 refine wp_loop_ghost (fun gk fr wr => ∃ (i : Nat), gk = s.arcs.length - i ∧ i ≤ s.arcs.length ∧ Fact.Fr 38 fr ∧ fr.tmps[3]? = some (.pointer (some ⟨W0.heap.size, 0, none⟩)) ∧ fr.tmps[4]? = some (.func (.func 55) #[] #[.pointer (some ⟨W0.heap.size, 0, none⟩)]) ∧ fr.tmps[16]? = some (.slice A s.arcs.length cc) ∧ fr.tmps[17]? = some (.int .i64 s.arcs.length) ∧ fr.tmps[18]? = some (.int .i64 i) ∧ Lib.IsBuilder 115 5 W0.heap.size W0.heap.size (Lib.byteCells (bs (keyN s i))) wr ∧ Below W0.heap.size W0 wr) (s.arcs.length) ?_ ?_
 · (
 exact ⟨0, rfl, Nat.zero_le _, hf, s3, s4, s16, s17, s18, by rw [keyN_zero]; exact hI3, hbW⟩)
 · (
 clear hf s3 s4 s16 s17 s18
 rintro gk fr wr ⟨i, hk, hi, hf, s3, s4, s16, s17, s18, hI, hb⟩
 have HK := Lib.hid hk; clear hk
 refine Fact.sq fun K19 hK19 => ?_
 refine rg ?_
 refine fp fun K Z => ?_
 go_simp
 apply Z.out; clear Z K
 refine Fact.z hf fun fr1 hf1 hT => ?_
 have hKp : _ ∧ _ ∧ _ ∧ _ ∧ _ ∧ _ := ⟨hT 3, hT 4, hT 16, hT 17, hT 18, hT 19⟩
 simp (decide := true) only [Fact.G, hf.size, reduceIte, s3, s4, s16, s17, s18] at hKp
 replace hf := hf1; clear hT hf1 s3 s4 s16 s17 s18
 obtain ⟨s3, s4, s16, s17, s18, s19⟩ := hKp
 refine nx (hK19 _ _ ?_)
 refine Fact.sq fun K20 hK20 => ?_
 refine Fact.cond_s s19 (fun hq => ?_) (fun hq => ?_)
 · (
 have hlt2 : i < s.arcs.length := by have h9 := of_decide_eq_true hq; omega
 obtain ⟨a, hia⟩ : ∃ a, s.arcs[i]? = some a := ⟨_, List.getElem?_eq_getElem hlt2⟩
 obtain ⟨b, off, rfl, hbl, e0, e1, e2⟩ := (ha0.later hb).at' hia
 have haa := hos.2.2 a (List.mem_of_getElem? hia)
 have hto := HT.out a (List.mem_of_getElem? hia)
 have HIA := Lib.hid hia; clear hia
 have ha64 := haa.2.1; have hab := haa.1; have hat := haa.2.2.2
 obtain ⟨t, ht⟩ : ∃ t : Nat, a.to = (t : Int) := ⟨a.to.toNat, by omega⟩
 have ht2 : a.to.toNat = t := by omega
 rw [ht] at e2
 have HTT := Lib.hid ht2
 rw [ht] at hat
 clear ht ht2 hto haa
 refine wp_skip ?_
 refine nx (hK20 _ _ ?_)
 refine Fact.sq fun K21 hK21 => ?_
 refine wp_block ?_
 refine Fact.sq fun K22 hK22 => ?_
 refine rg ?_
 have b20 := hf.b 20
 have b21 := hf.b 21
 have b6 := hf.b 6
 refine fp fun K Z => ?_
 go_simp
 try rw [if_pos (by omega)]
 apply Z.out; clear Z K
 refine fp fun K Z => ?_
 go_simp
 apply Z.out; clear Z K
 refine fp fun K Z => ?_
 go_simp
 apply Z.out; clear Z K
 refine fp fun K Z => ?_
 go_simp
 apply Z.out; clear Z K
 refine Fact.z hf fun fr1 hf1 hT => ?_
 have hKp : _ ∧ _ ∧ _ ∧ _ ∧ _ ∧ _ := ⟨hT 3, hT 4, hT 6, hT 16, hT 17, hT 18⟩
 simp (decide := true) only [Fact.G, hf.size, reduceIte, s3, s4, s16, s17, s18] at hKp
 replace hf := hf1; clear hT hf1 s3 s4 s16 s17 s18 s19 b20 b21 b6
 obtain ⟨s3, s4, s6, s16, s17, s18⟩ := hKp
 obtain ⟨W5, hW5⟩ : ∃ W0, wr.alloc (.cells #[.int .u8 a.byte, .int .u64 a.out, .int .i64 t] 63) = W0 := ⟨_, rfl⟩
 try rw [hW5]
 obtain ⟨hb5, f0, -, -, hp5, hz5_⟩ := box3 hW5
 clear hW5
 have hz5 : wr.heap.size < W5.heap.size := by rw [hz5_]; exact Nat.lt_succ_self _
 clear hz5_
 clear e0 e1 e2 hbl
 have hI5 := build_later hI hb5
 have hWr := hb.size
 have hpb : wr.heap.size ≠ W0.heap.size := by have := hI.elim (fun x => x.lt) (fun x => x.lt); omega
 refine nx (hK22 _ _ ?_)
 refine Fact.sq fun K23 hK23 => ?_
 refine rg ?_
 have b22 := hf.b 22
 have b23 := hf.b 23
 have b24 := hf.b 24
 have b25 := hf.b 25
 refine fp fun K Z => ?_
 go_simp
 apply Z.out; clear Z K
 refine fp fun K Z => ?_
 go_simp
 apply Z.out; clear Z K
 refine fp fun K Z => ?_
 go_simp
 apply Z.out; clear Z K
 refine fp fun K Z => ?_
 go_simp
 try simp (disch := omega) only [Fact.wrap_u64]
 apply Z.out; clear Z K
 refine fp fun K Z => ?_
 go_simp
 go_at_call 55; refine (num55 W5 W0.heap.size W0.heap.size _ a.byte (by omega) hI5 (by omega) (keyN_room hos hal (Nat.le_of_lt hlt2) (Nat.zero_le _))).mono ?_; rintro e w6 ⟨rfl, hI6, hb6, hk6⟩
 try dsimp only
 apply Z.out; clear Z K
 refine Fact.z hf fun fr1 hf1 hT => ?_
 have hKp : _ ∧ _ ∧ _ ∧ _ ∧ _ ∧ _ := ⟨hT 3, hT 4, hT 6, hT 16, hT 17, hT 18⟩
 simp (decide := true) only [Fact.G, reduceIte, s3, s4, s6, s16, s17, s18] at hKp
 replace hf := hf1; clear hT hf1 s3 s4 s6 s16 s17 s18 b22 b23 b24 b25
 obtain ⟨s3, s4, s6, s16, s17, s18⟩ := hKp
 have hp6 := others_at hk6 hp5 (by decide) hpb
 have g1 := cell_of_row _ _ 1 _ 63 (0, 0) hp6
 simp at g1
 clear f0 hp5
 refine nx (hK23 _ _ ?_)
 refine Fact.sq fun K24 hK24 => ?_
 refine rg ?_
 have b27 := hf.b 27
 have b28 := hf.b 28
 have b29 := hf.b 29
 refine fp fun K Z => ?_
 go_simp
 apply Z.out; clear Z K
 refine fp fun K Z => ?_
 go_simp
 apply Z.out; clear Z K
 refine fp fun K Z => ?_
 go_simp
 apply Z.out; clear Z K
 refine fp fun K Z => ?_
 go_simp
 go_at_call 55; refine (num55 w6 W0.heap.size W0.heap.size _ a.out ha64 hI6 (by have := hb6.size; omega) (by rw [List.length_append]; exact keyN_room hos hal (Nat.le_of_lt hlt2) (by have := num_length a.byte (by omega); omega))).mono ?_; rintro e w7 ⟨rfl, hI7, hb7, hk7⟩
 try dsimp only
 apply Z.out; clear Z K
 refine Fact.z hf fun fr1 hf1 hT => ?_
 have hKp : _ ∧ _ ∧ _ ∧ _ ∧ _ ∧ _ := ⟨hT 3, hT 4, hT 6, hT 16, hT 17, hT 18⟩
 simp (decide := true) only [Fact.G, reduceIte, s3, s4, s6, s16, s17, s18] at hKp
 replace hf := hf1; clear hT hf1 s3 s4 s6 s16 s17 s18 b27 b28 b29
 obtain ⟨s3, s4, s6, s16, s17, s18⟩ := hKp
 have hp7 := others_at hk7 hp6 (by decide) hpb
 have g2 := cell_of_row _ _ 2 _ 63 (0, 0) hp7
 simp at g2
 clear g1 hp6
 refine nx (hK24 _ _ ?_)
 refine rg ?_
 have b31 := hf.b 31
 have b32 := hf.b 32
 have b33 := hf.b 33
 have b34 := hf.b 34
 refine fp fun K Z => ?_
 go_simp
 apply Z.out; clear Z K
 refine fp fun K Z => ?_
 go_simp
 apply Z.out; clear Z K
 refine fp fun K Z => ?_
 go_simp
 apply Z.out; clear Z K
 refine fp fun K Z => ?_
 go_simp
 try simp (disch := omega) only [Fact.wrap_u64]
 apply Z.out; clear Z K
 refine fp fun K Z => ?_
 go_simp
 go_at_call 55; refine (num55 w7 W0.heap.size W0.heap.size _ t (by omega) hI7 (by have := hb6.size; have := hb7.size; omega) (by rw [List.length_append, List.length_append, Nat.add_assoc]; exact keyN_room hos hal (Nat.le_of_lt hlt2) (by have := num_length a.byte (by omega); have := num_length a.out ha64; omega))).mono ?_; rintro e w8 ⟨rfl, hI8, hb8, hk8⟩
 try dsimp only
 apply Z.out; clear Z K
 refine Fact.z hf fun fr1 hf1 hT => ?_
 have hKp : _ ∧ _ ∧ _ ∧ _ ∧ _ := ⟨hT 3, hT 4, hT 16, hT 17, hT 18⟩
 simp (decide := true) only [Fact.G, reduceIte, s3, s4, s16, s17, s18] at hKp
 replace hf := hf1; clear hT hf1 s3 s4 s6 s16 s17 s18 b31 b32 b33 b34
 obtain ⟨s3, s4, s16, s17, s18⟩ := hKp
 refine Fact.block_normal ?_
 refine nx (hK21 _ _ ?_)
 refine rg ?_
 have b36 := hf.b 36
 refine fp fun K Z => ?_
 go_simp
 try simp (disch := omega) only [Fact.W]
 apply Z.out; clear Z K
 refine fp fun K Z => ?_
 go_simp
 apply Z.out; clear Z K
 refine Fact.z hf fun fr1 hf1 hT => ?_
 have hKp : _ ∧ _ ∧ _ ∧ _ ∧ _ := ⟨hT 3, hT 4, hT 16, hT 17, hT 18⟩
 simp (decide := true) only [Fact.G, hf.size, reduceIte, s3, s4, s16, s17] at hKp
 replace hf := hf1; clear hT hf1 s3 s4 s16 s17 s18 b36
 obtain ⟨s3, s4, s16, s17, s18⟩ := hKp
 refine Fact.then_normal ?_
 exact ⟨_, by have := HK.out; omega, i + 1, rfl, by omega, hf, s3, s4, s16, s17, by rw [s18]; rfl, by rw [keyN_succ HIA.out, HTT.out]; exact hI8, (((hb.trans (hb5.mono hb.size)).trans hb6).trans hb7).trans hb8⟩)
 · (
 have hie : i = s.arcs.length := by have h9 := of_decide_eq_false hq; omega
 subst hie
 refine wp_exit ?_
 refine Fact.then_exit ?_
 refine Fact.then_exit ?_
 refine Fact.block_exit ?_
 refine nx (hK17 _ _ ?_)
 refine Fact.sq fun K25 hK25 => ?_
 refine rg ?_
 have b37 := hf.b 37
 refine fp fun K Z => ?_
 go_simp
 go_at_call 59; refine (Tryd.Builder_String_any W0.heap.size W0.heap.size _ wr hI hb.size).mono ?_; rintro e w9 ⟨rfl, hb9⟩
 try dsimp only
 apply Z.out; clear Z K
 refine fp fun K Z => ?_
 go_simp
 apply Z.out; clear Z K
 refine Fact.z hf fun fr1 hf1 hT => ?_
 have hKp := hT 2
 simp (decide := true) only [Fact.G, hf.size, reduceIte] at hKp
 replace hf := hf1; clear hT hf1 s3 s4 s16 s17 s18 s19 b37
 have s2 := hKp; clear hKp
 refine nx (hK25 _ _ ?_)
 refine wp_ret ?_
 exact Fact.ret1 rfl hf s2 ⟨rfl, (hb0.trans (hb.mono hb0.size)).trans (hb9.mono hb0.size)⟩)))
end Dw
end Go.Proofs.YtgjfhedgdbbinaaDoor
