/- Dawg: the document's maker of states, in memory. -/
import Derived.Test.YtdkbgbdgmihlmaaDoorDAlike
import Derived.Test.YtdkbgbdgmihlmaaDoorPBase
import Derived.Test.YtdkbgbdgmihlmaaDoorDLawP
import Derived.Test.YtdkbgbdgmihlmaaDoorQS
import Derived.Test.YtdkbgbdgmihlmaaDoorTools
namespace Go.Proofs.YtdkbgbdgmihlmaaDoor
open Go.RowKit
set_option linter.unusedSimpArgs false
set_option linter.unusedVariables false
set_option linter.unnecessarySimpa false
namespace Dw
theorem finish_at {ss : List State} {s : State} {i : Nat} (hi : ss[i]? = some s) (hn : s ∉ ss.take i) : finish ss s = (ss, i) := by
  unfold finish
  have : ss.findIdx? (· = s) = some i := by
    rw [List.findIdx?_eq_some_iff_getElem]
    obtain ⟨h1, h2⟩ := List.getElem?_eq_some_iff.1 hi
    refine ⟨h1, by simpa using h2, fun j hj => ?_⟩
    have : ss[j] ≠ s := fun e => hn (List.mem_iff_getElem?.2 ⟨j, by rw [List.getElem?_take, if_pos hj, List.getElem?_eq_getElem (by omega), e]⟩)
    simpa using this
  rw [this]
/-- the maker at block g; its states' arcs lie in blocks of B -/
structure MS (w : World) (base g : Nat) (v : Value) (B : Nat → Prop) (ss : List State) : Prop where
  box : w.heap[g]? = some (.cells #[v] 132 (0, 0))
  row : ∃ cells, w.ownsRow base 64 3 v ss.length cells ∧ ∀ (i : Nat) (s : State), ss[i]? = some s → ∃ av, cells[i * 3]? = some av ∧ cells[i * 3 + 1]? = some (.bool s.final) ∧ cells[i * 3 + 2]? = some (.int .u64 s.out) ∧ RA w B av s.arcs
  vg : v.ownBlock ≠ some g
  bg : ¬ B g
  bv : ∀ k, v.ownBlock = some k → ¬ B k
section
variable {w w' : World} {base g : Nat} {v : Value} {B B' S : Nat → Prop} {ss : List State}
theorem MS.but (h : MS w base g v B ss) (hb : But S w w') (hg : ¬ S g) (hv : ∀ k, v.ownBlock = some k → ¬ S k) (hB : ∀ k, B k → ¬ S k) : MS w' base g v B ss := by
  obtain ⟨cells, h1, h2⟩ := h.row
  exact ⟨hb.heap h.box hg, ⟨cells, own_but h1 hb hv, fun i s hi => by obtain ⟨av, k0, k1, k2, k3⟩ := h2 i s hi; exact ⟨av, k0, k1, k2, k3.but hb hB⟩⟩, h.vg, h.bg, h.bv⟩
theorem MS.later (h : MS w base g v B ss) (hb : Below w.heap.size w w') : MS w' base g v B ss := h.but (But.of (fun _ => False) hb) (fun h => h) (fun _ _ h => h) (fun _ _ h => h)
theorem MS.more (h : MS w base g v B ss) (hB : ∀ k, k < w.heap.size → B k → B' k) (hg : ¬ B' g) (hv : ∀ k, v.ownBlock = some k → ¬ B' k) : MS w base g v B' ss := by
  obtain ⟨cells, h1, h2⟩ := h.row
  exact ⟨h.box, ⟨cells, h1, fun i s hi => by obtain ⟨av, k0, k1, k2, k3⟩ := h2 i s hi; exact ⟨av, k0, k1, k2, k3.more hB⟩⟩, h.vg, hg, hv⟩
theorem MS.form (h : MS w base g v B ss) : ∃ (A : Option Addr) (c : Nat), v = .slice A ss.length c ∧ ss.length ≤ c := by
  obtain ⟨cells, h1, _⟩ := h.row
  rcases h1.2 with ⟨rfl, h0⟩ | ⟨b, cap, cur, rfl, _, _, hc, _⟩
  · exact ⟨none, 0, by rw [h0], by omega⟩
  · exact ⟨_, _, rfl, hc⟩
theorem MS.cell (h : MS w base g v B ss) : w.cell? ⟨g, 0, none⟩ = some v := by rw [cell_of_row _ _ 0 _ _ (0, 0) h.box]; rfl
theorem MS.rs (h : MS w base g v B ss) : RS w v ss := by
  obtain ⟨cells, h1, h2⟩ := h.row
  rcases h1.2 with ⟨rfl, h0⟩ | ⟨b, cap, cur, rfl, _, hh, hc, _⟩
  · obtain rfl : ss = [] := List.eq_nil_of_length_eq_zero h0
    exact RS.nil_ w
  · refine ⟨_, _, rfl, hc, fun _ => ⟨b, 0, rfl, fun i s hi => ?_⟩⟩
    obtain ⟨av, k0, k1, k2, k3⟩ := h2 i s hi
    have hlt := (List.getElem?_eq_some_iff.1 hi).1
    have c0 := h1.cellAt (i * 3) (by omega)
    have c1 := h1.cellAt (i * 3 + 1) (by omega)
    have c2 := h1.cellAt (i * 3 + 2) (by omega)
    rw [Nat.zero_add]
    exact ⟨av, by rw [c0, k0], by rw [c1, k1], by rw [c2, k2], k3.more (fun _ _ _ => trivial)⟩
theorem MS.blk (h : MS w base g v B ss) {k : Nat} (hk : v.ownBlock = some k) : base ≤ k ∧ k < w.heap.size := by
  obtain ⟨cells, h1, _⟩ := h.row
  exact h1.lt k hk
/-- a state comes behind -/
theorem MS.snoc {w6 : World} {s : State} {av v' : Value} {Bs : Nat → Prop} {cells : List Value} (h : MS w base g v B ss) (hcl : ∀ (i : Nat) (s : State), ss[i]? = some s → ∃ av, cells[i * 3]? = some av ∧ cells[i * 3 + 1]? = some (.bool s.final) ∧ cells[i * 3 + 2]? = some (.int .u64 s.out) ∧ RA w B av s.arcs)
    (hlen : cells.length = ss.length * 3) (hra : RA w Bs av s.arcs) (hbs : ∀ k, Bs k → k ≠ g ∧ v.ownBlock ≠ some k) (hw5 : But (fun k => k = g ∨ v.ownBlock = some k) w w6)
    (hrow : w6.ownsRow base 64 3 v' (ss.length + 1) (cells ++ [av, .bool s.final, .int .u64 s.out])) (hbox : w6.heap[g]? = some (.cells #[v'] 132 (0, 0))) (hv : v'.ownBlock = v.ownBlock ∨ ∃ k, v'.ownBlock = some k ∧ w.heap.size ≤ k) :
    MS w6 base g v' (fun k => k < w.heap.size ∧ (B k ∨ Bs k)) (ss ++ [s]) := by
  have hgw := heap_lt h.box
  have hr : ∀ {T : Nat → Prop} {x : Value} {l : List Arc}, (∀ k, T k → k ≠ g ∧ v.ownBlock ≠ some k) → (∀ k, k < w.heap.size → T k → k < w.heap.size ∧ (B k ∨ Bs k)) → RA w T x l → RA w6 (fun k => k < w.heap.size ∧ (B k ∨ Bs k)) x l := fun hT hT2 hx =>
    (hx.more hT2).but hw5 (fun k hk e => by
      rcases hk.2 with h1 | h1
      · rcases e with rfl | e
        · exact h.bg h1
        · exact h.bv k e h1
      · rcases e with rfl | e
        · exact (hbs _ h1).1 rfl
        · exact (hbs _ h1).2 e)
  refine ⟨hbox, ⟨_, by rw [List.length_append]; exact hrow, fun i x hi => ?_⟩, ?_, ?_, ?_⟩
  · by_cases hlt : i < ss.length
    · rw [List.getElem?_append_left hlt] at hi
      obtain ⟨ax, k0, k1, k2, k3⟩ := hcl i x hi
      refine ⟨ax, by rw [List.getElem?_append_left (by omega)]; exact k0, by rw [List.getElem?_append_left (by omega)]; exact k1, by rw [List.getElem?_append_left (by omega)]; exact k2, hr (fun k hk => ⟨fun e => h.bg (e ▸ hk), fun e => h.bv k e hk⟩) (fun k hk hB => ⟨hk, .inl hB⟩) k3⟩
    · have hi2 := (List.getElem?_eq_some_iff.1 hi).1
      simp only [List.length_append, List.length_cons, List.length_nil] at hi2
      obtain rfl : i = ss.length := by omega
      rw [List.getElem?_append_right (Nat.le_refl _), Nat.sub_self] at hi
      injection hi with hi
      subst hi
      refine ⟨av, ?_, ?_, ?_, hr hbs (fun k hk hB => ⟨hk, .inr hB⟩) hra⟩
      · rw [List.getElem?_append_right (by omega), hlen, Nat.sub_self]; rfl
      · rw [List.getElem?_append_right (by omega), hlen, show ss.length * 3 + 1 - ss.length * 3 = 1 by omega]; rfl
      · rw [List.getElem?_append_right (by omega), hlen, show ss.length * 3 + 2 - ss.length * 3 = 2 by omega]; rfl
  · rcases hv with e | ⟨k, e, hk⟩
    · rw [e]; exact h.vg
    · rw [e]; intro e2; injection e2 with e2; omega
  · rintro ⟨_, h1 | h1⟩
    · exact h.bg h1
    · exact (hbs _ h1).1 rfl
  · rintro k hk ⟨hlt, h1⟩
    rcases hv with e | ⟨k', e, hk'⟩
    · rw [e] at hk
      rcases h1 with h1 | h1
      · exact h.bv k hk h1
      · exact (hbs _ h1).2 hk
    · rw [e] at hk
      injection hk with hk
      omega
end
end Dw
end Go.Proofs.YtdkbgbdgmihlmaaDoor

namespace Go.Proofs.YtdkbgbdgmihlmaaDoor
open Go.RowKit
set_option linter.unusedSimpArgs false
set_option linter.unusedVariables false
set_option linter.unnecessarySimpa false
namespace Dw

def PRowM (w4 : World) (base g : Nat) (v b : Value) (n : Nat) (cells : List Value) : Stab.Pr := fun v' w => w.ownsRow base 64 3 v' n cells ∧ (v'.ownBlock = v.ownBlock ∨ ∃ k, v'.ownBlock = some k ∧ w4.heap.size ≤ k) ∧ w.heap[g]? = some (.cells #[b] 132 (0, 0))
theorem PRowM.stable (w4 : World) (base g : Nat) (v b : Value) (n : Nat) (cells : List Value) : Stab.Stable (PRowM w4 base g v b n cells) := fun v' w w' hb ⟨h1, h2, h3⟩ => ⟨own_later h1 hb, h2, (hb.block g (heap_lt h3)).trans h3⟩
def PEndM (w4 : World) (base g : Nat) (v : Value) (n : Nat) (cells : List Value) : Stab.Pr := fun _ w => ∃ v', w.ownsRow base 64 3 v' n cells ∧ (v'.ownBlock = v.ownBlock ∨ ∃ k, v'.ownBlock = some k ∧ w4.heap.size ≤ k) ∧ w.heap[g]? = some (.cells #[v'] 132 (0, 0))
theorem PEndM.stable (w4 : World) (base g : Nat) (v : Value) (n : Nat) (cells : List Value) : Stab.Stable (PEndM w4 base g v n cells) := fun _ w w' hb ⟨v', h1, h2, h3⟩ => ⟨v', own_later h1 hb, h2, (hb.block g (heap_lt h3)).trans h3⟩
set_option maxHeartbeats 4000000 in
set_option maxRecDepth 100000 in
theorem number (w : World) (base g : Nat) (v : Value) (B Bs : Nat → Prop) (ss : List State) (s : State) (av : Value) (hm : MS w base g v B ss) (hbase : base ≤ w.heap.size) (hra : RA w Bs av s.arcs) (hbs : ∀ k, Bs k → k ≠ g ∧ v.ownBlock ≠ some k) (hlen : ss.length ≤ 100000) (hfew : ∀ x ∈ ss, x.arcs.length ≤ 4611686018427387904) (hls : s.arcs.length ≤ 4611686018427387904) : Calls Tryd.prog 83 #[.pointer (some ⟨g, 0, none⟩), sval av s] w fun e w1 => e = .returned (.int .i64 ((finish ss s).2 : Nat)) ∧ ∃ v', MS w1 base g v' (fun k => k < w.heap.size ∧ (B k ∨ Bs k)) (finish ss s).1 ∧ But (fun k => k = g ∨ v.ownBlock = some k) w w1 ∧ (v'.ownBlock = v.ownBlock ∨ ∃ k, v'.ownBlock = some k ∧ w.heap.size ≤ k) := by
 refine calls_of_wp Tryd.func83 rfl ?_
 refine Fact.en 41 fun fr hf hT => ?_
 have s0 := hT 0 _ rfl
 have s1 := hT 1 _ rfl
 clear hT
 simp only [sval] at s1
 refine Fact.sq fun K1 hK1 => ?_
 refine rg ?_
 refine fp fun K Z => ?_
 go_simp
 apply Z.out; clear Z K
 refine fp fun K Z => ?_
 go_simp
 apply Z.out; clear Z K
 refine Fact.z hf fun fr1 hf1 hT => ?_
 have hKp : _ ∧ _ := ⟨hT 0, hT 3⟩
 simp (decide := true) only [Fact.G, hf.size, reduceIte, s0] at hKp
 replace hf := hf1; clear hT hf1 s0 s1
 obtain ⟨s0, s3⟩ := hKp
 obtain ⟨W0, hW0⟩ : ∃ W0, w.alloc (.cells #[av, .bool s.final, .int .u64 s.out] 64) = W0 := ⟨_, rfl⟩
 try rw [hW0]
 obtain ⟨hb0, c0, c1, c2, -, hz0_⟩ := box3 hW0
 clear hW0
 have hz0 : w.heap.size < W0.heap.size := by rw [hz0_]; exact Nat.lt_succ_self _
 clear hz0_
 have hm0 := hm.later hb0; have hra0 := hra.later hb0
 have hs0 := hb0.size
 obtain ⟨Aa, ca, hav, -⟩ := hra.form
 have HAV := Lib.hid hav; clear hav
 have HF := Lib.hid hfew; clear hfew
 obtain ⟨cells, hrow0, hcl⟩ := hm.row
 have HCL := Lib.hid hcl; clear hcl
 refine nx (hK1 _ _ ?_)
 refine Fact.sq fun K2 hK2 => ?_
 refine Fact.sq fun K3 hK3 => ?_
 refine rg ?_
 refine fp fun K Z => ?_
 go_simp
 apply Z.out; clear Z K
 refine Fact.z hf fun fr1 hf1 hT => ?_
 have hKp : _ ∧ _ ∧ _ := ⟨hT 0, hT 3, hT 5⟩
 simp (decide := true) only [Fact.G, hf.size, reduceIte, s0, s3] at hKp
 replace hf := hf1; clear hT hf1 s0 s3
 obtain ⟨s0, s3, s5⟩ := hKp
 refine nx (hK3 _ _ ?_)
 refine wp_block ?_
 refine wp_loop_ghost (fun gk fr wr => ∃ (i : Nat), gk = ss.length - i ∧ i ≤ ss.length ∧ Fact.Fr 41 fr ∧ fr.tmps[0]? = some (.pointer (some ⟨g, 0, none⟩)) ∧ fr.tmps[3]? = some (.pointer (some ⟨w.heap.size, 0, none⟩)) ∧ fr.tmps[5]? = some (.int .i64 i) ∧ s ∉ ss.take i ∧ Below W0.heap.size W0 wr) (ss.length) ?_ ?_
 · (
 exact ⟨0, rfl, Nat.zero_le _, hf, s0, s3, s5, by simp, Below.refl _ _⟩)
 · (
 clear hf s0 s3 s5
 rintro gk fr wr ⟨i, hk, hi, hf, s0, s3, s5, hn, hb⟩
 have HK := Lib.hid hk; have HN := Lib.hid hn; clear hk hn
 have hmr := hm0.later hb
 have d0 := cL hb c0; have d1 := cL hb c1; have d2 := cL hb c2
 have hrar := hra0.later hb
 have hbr := hb0.trans (hb.mono hs0)
 have mc := hmr.cell
 have hrs := hmr.rs
 obtain ⟨Am, cm, hv, -⟩ := hmr.form
 have HV := Lib.hid hv
 rw [hv] at mc hrs
 clear hv
 refine Fact.sq fun K4 hK4 => ?_
 refine Fact.sq fun K5 hK5 => ?_
 refine rg ?_
 have b6 := hf.b 6
 have b7 := hf.b 7
 have b8 := hf.b 8
 have b9 := hf.b 9
 have b10 := hf.b 10
 have b11 := hf.b 11
 refine fp fun K Z => ?_
 go_simp
 apply Z.out; clear Z K
 refine fp fun K Z => ?_
 go_simp
 apply Z.out; clear Z K
 refine fp fun K Z => ?_
 go_simp
 apply Z.out; clear Z K
 refine fp fun K Z => ?_
 go_simp
 apply Z.out; clear Z K
 refine fp fun K Z => ?_
 go_simp
 apply Z.out; clear Z K
 refine fp fun K Z => ?_
 go_simp
 apply Z.out; clear Z K
 refine fp fun K Z => ?_
 go_simp
 apply Z.out; clear Z K
 refine Fact.z hf fun fr1 hf1 hT => ?_
 have hKp : _ ∧ _ ∧ _ ∧ _ := ⟨hT 0, hT 3, hT 5, hT 12⟩
 simp (decide := true) only [Fact.G, hf.size, reduceIte, s0, s3, s5] at hKp
 replace hf := hf1; clear hT hf1 s0 s3 s5 b6 b7 b8 b9 b10 b11
 obtain ⟨s0, s3, s5, s12⟩ := hKp
 refine nx (hK5 _ _ ?_)
 refine Fact.cond_s s12 (fun hq => ?_) (fun hq => ?_)
 · (
 have hlt : i < ss.length := by have h9 := of_decide_eq_true hq; omega
 have HQ := Lib.hid hq; clear hq
 obtain ⟨x, hix⟩ : ∃ x, ss[i]? = some x := ⟨_, List.getElem?_eq_getElem hlt⟩
 obtain ⟨b, off, xv, rfl, hat⟩ := hrs.at_ hix
 have e0 := hat.c0; have e1 := hat.c1; have e2 := hat.c2
 have hrx := hat.arcs
 have hlx := HF.out x (List.mem_of_getElem? hix)
 have hnt : x ≠ s → s ∉ ss.take (i + 1) := fun hne => by rw [List.take_add_one, hix]; simp only [Option.toList_some, List.mem_append, List.mem_singleton]; rintro (h | h); exact HN.out h; exact hne h.symm
 have HNT := Lib.hid hnt; have HX := Lib.hid hix; clear hnt hix hat
 obtain ⟨Ax, cx, rfl, -⟩ := hrx.form
 refine wp_skip ?_
 refine nx (hK4 _ _ ?_)
 refine Fact.sq fun K6 hK6 => ?_
 refine wp_block ?_
 refine Fact.sq fun K7 hK7 => ?_
 refine Stab.tb 41 fun hok => ?_
 refine Stab.mO 0 s0 hf hok ?_
 apply Stab.tq 1 _ hf hok
 · (
 intro fr1 w1 hh hd hk K Z
 have s15 := Stab.v 0 0 hd hk []
 clear hd
 go_simp
 exact Stab.k Z)
 apply Stab.tq 2 _ hf hok
 · (
 intro fr1 w1 hh hd hk K Z
 have s16 := Stab.v 1 0 hd hk []
 clear hd
 go_simp
 exact Stab.k Z)
 apply Stab.tq 3 _ hf hok
 · (
 intro fr1 w1 hh hd hk K Z
 have s17 := Stab.v 2 0 hd hk []
 clear hd
 replace mc := cL hh.ext mc
 replace d0 := cL hh.ext d0
 replace d1 := cL hh.ext d1
 replace d2 := cL hh.ext d2
 replace e0 := cL hh.ext e0
 replace e1 := cL hh.ext e1
 replace e2 := cL hh.ext e2
 replace hrx := hrx.later hh.ext
 replace hrar := hrar.later hh.ext
 replace hmr := hmr.later hh.ext
 go_simp
 exact Stab.k Z)
 refine Stab.mO 4 s5 hf hok ?_
 apply Stab.tq 5 _ hf hok
 · (
 intro fr1 w1 hh hd hk K Z
 have s18 := Stab.v 3 1 hd hk []
 have s19 := Stab.v 4 0 hd hk []
 clear hd
 go_simp
 try rw [if_pos (by omega)]
 exact Stab.k Z)
 apply Stab.tq 6 _ hf hok
 · (
 intro fr1 w1 hh hd hk K Z
 have s20 := Stab.v 5 0 hd hk []
 clear hd
 replace mc := cL hh.ext mc
 replace d0 := cL hh.ext d0
 replace d1 := cL hh.ext d1
 replace d2 := cL hh.ext d2
 replace e0 := cL hh.ext e0
 replace e1 := cL hh.ext e1
 replace e2 := cL hh.ext e2
 replace hrx := hrx.later hh.ext
 replace hrar := hrar.later hh.ext
 replace hmr := hmr.later hh.ext
 go_simp
 exact Stab.k Z)
 apply Stab.tq 7 _ hf hok
 · (
 intro fr1 w1 hh hd hk K Z
 have s3 := Stab.O hh s3
 clear hd
 replace mc := cL hh.ext mc
 replace d0 := cL hh.ext d0
 replace d1 := cL hh.ext d1
 replace d2 := cL hh.ext d2
 replace e0 := cL hh.ext e0
 replace e1 := cL hh.ext e1
 replace e2 := cL hh.ext e2
 replace hrx := hrx.later hh.ext
 replace hrar := hrar.later hh.ext
 replace hmr := hmr.later hh.ext
 go_simp
 exact Stab.k Z)
 apply Stab.tq 8 _ hf hok
 · (
 intro fr1 w1 hh hd hk K Z
 have s21 := Stab.v 6 1 hd hk []
 have s22 := Stab.v 7 0 hd hk []
 clear hd
 replace mc := cL hh.ext mc
 replace d0 := cL hh.ext d0
 replace d1 := cL hh.ext d1
 replace d2 := cL hh.ext d2
 replace e0 := cL hh.ext e0
 replace e1 := cL hh.ext e1
 replace e2 := cL hh.ext e2
 replace hrx := hrx.later hh.ext
 replace hrar := hrar.later hh.ext
 replace hmr := hmr.later hh.ext
 go_simp
 go_at_call 35; refine (alike w1 x s _ _ hrx hrar hlx hls).mono ?_; rintro e w2 ⟨rfl, hb⟩
 exact Z.out _ rfl _ _ hb rfl)
 refine Stab.tf hf hok fun fr1 w1 hh hg => ?_
 replace s0 := Stab.O hh s0
 replace s3 := Stab.O hh s3
 replace s5 := Stab.O hh s5
 have s23 := Stab.f 8 0 hg
 have hf1 := hh.fr hf
 have hx := hh.ext
 replace mc := cL hx mc
 replace d0 := cL hx d0
 replace d1 := cL hx d1
 replace d2 := cL hx d2
 replace e0 := cL hx e0
 replace e1 := cL hx e1
 replace e2 := cL hx e2
 replace hrx := hrx.later hx
 replace hrar := hrar.later hx
 replace hmr := hmr.later hx
 clear hg hh hf hok s12
 have hf := hf1; clear hf1
 refine nx (hK7 _ _ ?_)
 refine Fact.cond_s s23 (fun hq2 => ?_) (fun hq2 => ?_)
 · (
 have hbx := hbr.trans (hx.mono hbr.size)
 have hxs : x = s := of_decide_eq_true hq2
 have HXS := Lib.hid hxs; clear hxs hq2
 refine Fact.sq fun K8 hK8 => ?_
 refine rg ?_
 have b24 := hf.b 24
 refine fp fun K Z => ?_
 go_simp
 apply Z.out; clear Z K
 refine fp fun K Z => ?_
 go_simp
 apply Z.out; clear Z K
 refine Fact.z hf fun fr1 hf1 hT => ?_
 have hKp := hT 4
 simp (decide := true) only [Fact.G, hf.size, reduceIte] at hKp
 replace hf := hf1; clear hT hf1 s0 s3 s5 s23 b24
 have s4 := hKp; clear hKp
 refine nx (hK8 _ _ ?_)
 refine wp_ret ?_
 refine Fact.block_ret ?_
 refine Fact.then_ret ?_
 refine Fact.then_ret ?_
 refine Fact.block_ret ?_
 refine Fact.then_ret ?_
 have hfa : finish ss s = (ss, i) := finish_at (by rw [HX.out, HXS.out]) HN.out
 refine Fact.ret1 rfl hf s4 ⟨by rw [hfa], v, ?_, But.of _ hbx, .inl rfl⟩
 rw [hfa]
 exact (hm.more (B' := fun k => k < w.heap.size ∧ (B k ∨ Bs k)) (fun k hk h => ⟨hk, .inl h⟩) (fun h => by rcases h.2 with h | h; exact hm.bg h; exact (hbs _ h).1 rfl) (fun k hk h => by rcases h.2 with h | h; exact hm.bv k hk h; exact (hbs _ h).2 hk)).later hbx)
 · (
 have hbx := hbr.trans (hx.mono hbr.size)
 have hxs : x ≠ s := of_decide_eq_false hq2
 have hn1 := HNT.out hxs
 have HN1 := Lib.hid hn1; clear hn1 hxs hq2
 refine wp_skip ?_
 refine Fact.block_normal ?_
 refine nx (hK6 _ _ ?_)
 refine rg ?_
 have b13 := hf.b 13
 have b14 := hf.b 14
 refine fp fun K Z => ?_
 go_simp
 apply Z.out; clear Z K
 refine fp fun K Z => ?_
 go_simp
 try simp (disch := omega) only [Fact.W]
 apply Z.out; clear Z K
 refine fp fun K Z => ?_
 go_simp
 apply Z.out; clear Z K
 refine Fact.z hf fun fr1 hf1 hT => ?_
 have hKp : _ ∧ _ ∧ _ := ⟨hT 0, hT 3, hT 5⟩
 simp (decide := true) only [Fact.G, hf.size, reduceIte, s0, s3] at hKp
 replace hf := hf1; clear hT hf1 s0 s3 s5 s23 b13 b14
 obtain ⟨s0, s3, s5⟩ := hKp
 refine Fact.then_normal ?_
 exact ⟨_, by have := HK.out; omega, i + 1, rfl, by omega, hf, s0, s3, by rw [s5]; rfl, HN1.out, hb.trans (hx.mono hb.size)⟩))
 · (
 have hie : i = ss.length := by have h9 := of_decide_eq_false hq; omega
 have hnn : s ∉ ss := by have := HN.out; rwa [hie, List.take_length] at this
 have HNN := Lib.hid hnn; clear hnn hie hq
 have hbox := hmr.box
 have hrow := own_later hrow0 hbr
 have hvo : ∀ k, v.ownBlock = some k → k ≠ g := fun k hk e => hmr.vg (by rw [hk, e])
 have HVO := Lib.hid hvo; clear hvo
 have hgr := heap_lt hbox
 have hsr := hbr.size
 have hgl := heap_lt hm.box
 refine wp_exit ?_
 refine Fact.then_exit ?_
 refine Fact.then_exit ?_
 refine Fact.block_exit ?_
 refine nx (hK2 _ _ ?_)
 refine Fact.sq fun K9 hK9 => ?_
 refine Stam.todo_begin (n := 41) (fun _ k => k = g ∨ v.ownBlock = some k) [7, 10] (Stab.OkOps.of (by kernel_rfl)) (fun hok => ?_)
 refine Stam.mvO (k := 0) s0 hf.size hok.out rfl (by kernel_rfl) rfl rfl (.inl rfl) (by kernel_rfl) ?_
 refine Stam.mvO (k := 1) s0 hf.size hok.out rfl (by kernel_rfl) rfl rfl (.inl rfl) (by kernel_rfl) ?_
 apply Stam.tq 2 _ hf hok
 · (
 intro fr1 w1 hh hd hk K Z
 refine Stab.pl ?_
 have s26 := Stam.v 1 0 hd hk []
 have hxe := Stam.ext_at hh [(7, [4, 3]), (10, [])] (by kernel_rfl)
 have hbt := Stam.but_at hh [] [(7, [4, 3]), (10, [])] (by kernel_rfl)
 clear hd hh
 go_simp
 exact Stab.k Z)
 apply Stam.tq 3 _ hf hok
 · (
 intro fr1 w1 hh hd hk K Z
 refine Stab.pl ?_
 have s27 := Stam.v 2 0 hd hk []
 have hxe := Stam.ext_at hh [(7, [4]), (10, [])] (by kernel_rfl)
 have hbt := Stam.but_at hh [] [(7, [4]), (10, [])] (by kernel_rfl)
 clear hd hh
 go_simp
 exact Stab.k Z)
 apply Stam.tq 4 _ hf hok
 · (
 intro fr1 w1 hh hd hk K Z
 refine Stab.pl ?_
 have s28 := Stam.v 3 0 hd hk []
 have hxe := Stam.ext_at hh [(7, []), (10, [])] (by kernel_rfl)
 have hbt := Stam.but_at hh [] [(7, []), (10, [])] (by kernel_rfl)
 clear hd hh
 have q1 := cL hxe mc
 go_simp
 exact Stab.k Z)
 apply Stam.tq 5 _ hf hok
 · (
 intro fr1 w1 hh hd hk K Z
 refine Stab.pl ?_
 have s3 := Stam.o hh (by kernel_rfl) s3
 have hxe := Stam.ext_at hh [(7, [6]), (10, [])] (by kernel_rfl)
 have hbt := Stam.but_at hh [] [(7, [6]), (10, [])] (by kernel_rfl)
 clear hd hh
 have f0 := cL hxe d0; have f1 := cL hxe d1; have f2 := cL hxe d2
 go_simp
 exact Stab.k Z)
 refine Stam.todo_op (k := 6) (n := 41) (PLit [av, .bool s.final, .int .u64 s.out]) hf.size hok.out rfl (PLit.stable _) (by kernel_rfl) ?_ ?_
 · (
 intro fr1 w1 hh hd hk K Z
 refine Stab.pl ?_
 have s30 := Stam.v 5 0 hd hk []
 have hxe := Stam.ext_at hh [(7, []), (10, [])] (by kernel_rfl)
 have hbt := Stam.but_at hh [] [(7, []), (10, [])] (by kernel_rfl)
 clear hd hh
 go_simp
 exact Z.out _ rfl _ _ ((Below.refl _ _).alloc (Nat.le_refl _) _) ⟨_, rfl, lit_new _ _ _⟩)
 refine Stam.todo_sp (k := 7) (n := 41) (PRowM wr base g v v (ss.length + 1) (cells ++ [av, .bool s.final, .int .u64 s.out])) hf.size hok.out rfl (PRowM.stable _ _ _ _ _ _ _) (by kernel_rfl) ?_ ?_
 · (
 intro fr1 w1 hh hd hk K Z
 refine Stab.pl ?_
 have s29 := Stam.v 4 2 hd hk []
 obtain ⟨x31, s31, hp31⟩ := Stam.use (j := 6) (m := 0) hd hk rfl [] (by kernel_rfl) [(10, true, [])] (by kernel_rfl) rfl rfl rfl
 obtain ⟨b31, rfl, hc31⟩ := hp31
 have hxe := Stam.ext_at hh [(10, [])] (by kernel_rfl)
 have hbt := Stam.but_at hh [] [(10, [])] (by kernel_rfl)
 clear hd hh
 have hrow2 := own_later hrow hxe
 have hbx2 := (hxe.block g hgr).trans hbox
 refine wp_app _ _ 22 rfl 64 _ 3 40 Tryd.underlying22 info_stateD rfl (by decide) (by decide) base v ss.length cells (by rw [HV.out]; exact Fact.eval_tmp s29) hrow2 b31 _ (Fact.eval_tmp s31) rfl hc31 (by intro u hu; simp at hu; rcases hu with rfl | rfl | rfl <;> first | rfl | exact av_one hra0) (by omega) (by have := hxe.size; omega) (fun v2 w2 hr3 hg3 hat3 => ?_)
 exact Z.out _ rfl _ _ (But.grown hg3 (fun k hk => .inr hk)) ⟨hr3, hat3.imp id (fun h => ⟨_, h, hxe.size⟩), hg3.block g (heap_lt hbx2) (fun e => HVO.out g e.symm rfl) |>.trans hbx2⟩)
 apply Stam.tq 8 _ hf hok
 · (
 intro fr1 w1 hh hd hk K Z
 refine Stab.pl ?_
 have s25 := Stam.v 0 7 hd hk []
 have hbt := Stam.but_at hh [7] [(10, [9])] (by kernel_rfl)
 clear hd hh
 go_simp
 exact Stab.k Z)
 apply Stam.tq 9 _ hf hok
 · (
 intro fr1 w1 hh hd hk K Z
 refine Stab.pl ?_
 have s33 := Stam.v 8 0 hd hk []
 have hbt := Stam.but_at hh [7] [(10, [])] (by kernel_rfl)
 clear hd hh
 go_simp
 exact Stab.k Z)
 refine Stam.todo_sp (k := 10) (n := 41) (PEndM wr base g v (ss.length + 1) (cells ++ [av, .bool s.final, .int .u64 s.out])) hf.size hok.out rfl (PEndM.stable _ _ _ _ _ _) (by kernel_rfl) ?_ ?_
 · (
 intro fr1 w1 hh hd hk K Z
 refine Stab.pl ?_
 have s34 := Stam.v 9 0 hd hk []
 obtain ⟨x32, s32, hp32⟩ := Stam.use (j := 7) (m := 2) hd hk rfl [] (by kernel_rfl) [] (by kernel_rfl) rfl rfl rfl
 obtain ⟨hr32, hl32, hx32⟩ := hp32
 have hbt := Stam.but_at hh [7] [] (by kernel_rfl)
 clear hd hh
 have z0 := cell_of_row _ _ 0 _ 132 (0, 0) hx32
 simp at z0
 have fz := frozen_of (i := 0) hx32
 obtain ⟨A2, c2, hv2, _⟩ := row_form hr32
 subst hv2
 go_simp
 refine Z.out _ rfl undef _ (But.setCell (.inl rfl) _) ⟨_, own_but hr32 (But.setCell (S := fun k => k = g) rfl _) (fun k hkk e => ?_), hl32, ?_⟩; (subst e; rcases hl32 with h | ⟨k2, h, hk2⟩; (rw [hkk] at h; exact HVO.out _ h.symm rfl); (rw [hkk] at h; injection h with h; omega)); exact (set_block hx32 _).trans (by simp))
 refine Stam.todo_facts (n := 41) (by kernel_rfl) hf.size hok.out rfl (fun fr1 w1 hh hg => ?_)
 replace s0 := Stam.o hh (by kernel_rfl) s0
 obtain ⟨_, hlast⟩ := Stam.end_fact (j := 10) (m := 0) hg rfl (by decide) [(7, [])] (by kernel_rfl) rfl
 have hf1 := hh.fr hf
 have hbt := hh.but
 clear hg hh hf hok s3 s5 s12
 have hf := hf1; clear hf1
 obtain ⟨v6, hr6, hl6, hbx6⟩ := hlast
 replace hbt := hbt (fun k => k = g ∨ v.ownBlock = some k) (fun m _ b h => h)
 have hbw : But (fun k => k = g ∨ v.ownBlock = some k) w w1 := (But.of _ hbr).trans (hbt.mono (fun k _ h => h))
 have hv6 : v6.ownBlock = v.ownBlock ∨ ∃ k, v6.ownBlock = some k ∧ w.heap.size ≤ k := hl6.imp id (fun ⟨k, h1, h2⟩ => ⟨k, h1, by omega⟩)
 obtain ⟨A6, c6, hv6f, -⟩ := row_form hr6
 subst hv6f
 have m6 : w1.cell? ⟨g, 0, none⟩ = some (.slice A6 (ss.length + 1) c6) := by rw [cell_of_row _ _ 0 _ 132 (0, 0) hbx6]; rfl
 refine nx (hK9 _ _ ?_)
 refine Fact.sq fun K10 hK10 => ?_
 refine rg ?_
 have b35 := hf.b 35
 have b36 := hf.b 36
 have b37 := hf.b 37
 have b38 := hf.b 38
 have b39 := hf.b 39
 have b40 := hf.b 40
 refine fp fun K Z => ?_
 go_simp
 apply Z.out; clear Z K
 refine fp fun K Z => ?_
 go_simp
 apply Z.out; clear Z K
 refine fp fun K Z => ?_
 go_simp
 apply Z.out; clear Z K
 refine fp fun K Z => ?_
 go_simp
 apply Z.out; clear Z K
 refine fp fun K Z => ?_
 go_simp
 apply Z.out; clear Z K
 refine fp fun K Z => ?_
 go_simp
 try simp (disch := omega) only [Fact.W]
 try rw [show ((ss.length : Int) + 1 - 1) = (ss.length : Int) by omega]
 apply Z.out; clear Z K
 refine fp fun K Z => ?_
 go_simp
 apply Z.out; clear Z K
 refine Fact.z hf fun fr1 hf1 hT => ?_
 have hKp := hT 4
 simp (decide := true) only [Fact.G, hf.size, reduceIte] at hKp
 replace hf := hf1; clear hT hf1 s0 b35 b36 b37 b38 b39 b40
 have s4 := hKp; clear hKp
 refine nx (hK10 _ _ ?_)
 refine wp_ret ?_
 have hfo := finish_out HNN.out
 refine Fact.ret1 rfl hf s4 ⟨by rw [hfo], _, ?_, hbw, hv6⟩
 rw [hfo]
 exact hm.snoc HCL.out hrow0.1 hra hbs hbw hr6 hbx6 hv6))
end Dw
end Go.Proofs.YtdkbgbdgmihlmaaDoor

namespace Go.Proofs.YtdkbgbdgmihlmaaDoor
open Go.RowKit
set_option linter.unusedSimpArgs false
set_option linter.unusedVariables false
set_option linter.unnecessarySimpa false
namespace Dw
/-! the document's loop, step by step -/
def refI (f : Nat) (L : List Wv) (depth le : Nat) (x : List State × List Arc) (i : Nat) : List State × List Arc :=
  match (L.getD i ([], 0)).1[depth]? with
  | none => x
  | some b => if (x.2.getLast?.map Arc.byte) = some b then x else
    let own := (L.drop i).filter fun e => decide (e.1[depth]? = some b)
    let n := leastV own
    let r := refS f x.1 own (depth + 1) n
    (r.1, x.2 ++ [⟨b, n - le, (r.2 : Int)⟩])
def refX (f : Nat) (ss : List State) (L : List Wv) (depth le i : Nat) : List State × List Arc := (List.range i).foldl (refI f L depth le) (ss, [])
def refFo (L : List Wv) (depth le : Nat) : Bool × Nat := L.foldl (fun y e => if e.1.length = depth then (true, e.2 - le) else y) (false, 0)
theorem refS_X (f : Nat) (ss : List State) (L : List Wv) (depth le : Nat) : refS (f + 1) ss L depth le = finish (refX f ss L depth le L.length).1 ⟨(refFo L depth le).1, (refFo L depth le).2, (refX f ss L depth le L.length).2⟩ := rfl
theorem refX_succ (f : Nat) (ss : List State) (L : List Wv) (depth le i : Nat) : refX f ss L depth le (i + 1) = refI f L depth le (refX f ss L depth le i) i := by simp [refX, List.range_succ, List.foldl_append]
theorem refI_none {f : Nat} {L : List Wv} {depth le i : Nat} {x : List State × List Arc} {e : Wv} (h : L[i]? = some e) (he : e.1.length = depth) : refI f L depth le x i = x := by
  unfold refI
  rw [List.getD_eq_getElem?_getD, h, Option.getD_some, List.getElem?_eq_none (by omega)]
theorem refI_same {f : Nat} {L : List Wv} {depth le i b : Nat} {x : List State × List Arc} {e : Wv} (h : L[i]? = some e) (he : e.1[depth]? = some b) (hl : x.2.getLast?.map Arc.byte = some b) : refI f L depth le x i = x := by
  unfold refI
  rw [List.getD_eq_getElem?_getD, h, Option.getD_some, he]
  simp only [hl, if_true]
theorem refI_new {f : Nat} {L own : List Wv} {depth le i b n : Nat} {x : List State × List Arc} {e : Wv} (h : L[i]? = some e) (he : e.1[depth]? = some b) (hl : x.2.getLast?.map Arc.byte ≠ some b)
    (ho : (L.drop i).filter (fun e => decide (e.1[depth]? = some b)) = own) (hn : leastV own = n) :
    refI f L depth le x i = ((refS f x.1 own (depth + 1) n).1, x.2 ++ [⟨b, n - le, ((refS f x.1 own (depth + 1) n).2 : Int)⟩]) := by
  unfold refI
  rw [List.getD_eq_getElem?_getD, h, Option.getD_some, he]
  simp only [hl, if_false, ho, hn]
theorem finish_len (ss : List State) (s : State) : ss.length ≤ (finish ss s).1.length := by
  unfold finish
  split <;> simp
theorem refS_len : ∀ (f : Nat) (ss : List State) (L : List Wv) (depth le : Nat), ss.length ≤ (refS f ss L depth le).1.length
  | 0, ss, L, depth, le => Nat.le_refl _
  | f + 1, ss, L, depth, le => by
    have key : ∀ (l : List Nat) (x : List State × List Arc), x.1.length ≤ (l.foldl (refI f L depth le) x).1.length := by
      intro l
      induction l with
      | nil => intro x; exact Nat.le_refl _
      | cons i l ih =>
        intro x
        refine Nat.le_trans ?_ (ih _)
        unfold refI
        split
        · exact Nat.le_refl _
        · split
          · exact Nat.le_refl _
          · exact refS_len f _ _ _ _
    rw [refS_X]
    exact Nat.le_trans (key _ (ss, [])) (finish_len _ _)
theorem refI_len (f : Nat) (L : List Wv) (depth le i : Nat) (x : List State × List Arc) : x.1.length ≤ (refI f L depth le x i).1.length := by
  unfold refI
  split
  · exact Nat.le_refl _
  · split
    · exact Nat.le_refl _
    · exact refS_len f _ _ _ _
theorem refX_len (f : Nat) (ss : List State) (L : List Wv) (depth le i : Nat) : ∀ j, i ≤ j → (refX f ss L depth le i).1.length ≤ (refX f ss L depth le j).1.length := by
  intro j hj
  induction j with
  | zero => obtain rfl : i = 0 := by omega
            exact Nat.le_refl _
  | succ j ih =>
    rcases Nat.lt_or_ge i (j + 1) with h | h
    · rw [refX_succ]
      exact Nat.le_trans (ih (by omega)) (refI_len _ _ _ _ _ _)
    · obtain rfl : i = j + 1 := by omega
      exact Nat.le_refl _
theorem refX_arcs (f : Nat) (ss : List State) (L : List Wv) (depth le i : Nat) : (refX f ss L depth le i).2.length ≤ i := by
  induction i with
  | zero => simp [refX]
  | succ i ih =>
    rw [refX_succ]
    unfold refI
    split
    · omega
    · split
      · omega
      · simp only [List.length_append, List.length_cons, List.length_nil]; omega
/-- no state has very many arcs -/
def Few (M : Nat) (ss : List State) : Prop := ∀ s ∈ ss, s.arcs.length ≤ M
theorem finish_few {M : Nat} {ss : List State} {s : State} (h : Few M ss) (hs : s.arcs.length ≤ M) : Few M (finish ss s).1 := by
  unfold finish
  split
  · exact h
  · intro x hx
    rcases List.mem_append.1 hx with hx | hx
    · exact h x hx
    · simp at hx; subst hx; exact hs
theorem refS_few {M : Nat} : ∀ (f : Nat) (ss : List State) (L : List Wv) (depth le : Nat), Few M ss → L.length ≤ M → Few M (refS f ss L depth le).1
  | 0, ss, L, depth, le, h, _ => h
  | f + 1, ss, L, depth, le, h, hl => by
    rw [refS_X]
    refine finish_few ?_ (Nat.le_trans (refX_arcs f ss L depth le L.length) hl)
    have key : ∀ (l : List Nat) (x : List State × List Arc), Few M x.1 → Few M (l.foldl (refI f L depth le) x).1 := by
      intro l
      induction l with
      | nil => intro x hx; exact hx
      | cons i l ih =>
        intro x hx
        refine ih _ ?_
        unfold refI
        split
        · exact hx
        · split
          · exact hx
          · refine refS_few f _ _ _ _ hx (Nat.le_trans (List.length_filter_le _ _) ?_)
            simp; omega
    exact key _ (ss, []) h
theorem refX_few {M : Nat} (f : Nat) {ss : List State} {L : List Wv} (depth le i : Nat) (h : Few M ss) (hl : L.length ≤ M) : Few M (refX f ss L depth le i).1 := by
  induction i with
  | zero => exact h
  | succ i ih =>
    rw [refX_succ]
    unfold refI
    split
    · exact ih
    · split
      · exact ih
      · refine refS_few f _ _ _ _ ih (Nat.le_trans (List.length_filter_le _ _) ?_)
        simp; omega
theorem leastV_le {l : List Wv} {e : Wv} (h : e ∈ l) : leastV l ≤ e.2 := (leastV_least (List.ne_nil_of_mem h)).2 e.2 (List.mem_map_of_mem h)
theorem leastV_mem {l : List Wv} (h : l ≠ []) : ∃ e ∈ l, leastV l = e.2 := by
  obtain ⟨e, he, h2⟩ := List.mem_map.1 (leastV_least h).1
  exact ⟨e, he, h2.symm⟩
theorem foStep {es : List Ent} {i : Nat} {e : Ent} (depth le : Nat) (h : es[i]? = some e) :
    refFo ((es.take (i + 1)).map wvE) depth le = if e.word.size = depth then (true, valE e - le) else refFo ((es.take i).map wvE) depth le := by
  rw [List.take_add_one, h]
  simp only [Option.toList_some, List.map_append, List.map_cons, List.map_nil, refFo, List.foldl_append, List.foldl_cons, List.foldl_nil]
  rw [show (wvE e).1.length = e.word.size from wl_length e.word]
  rfl
/-! the entries that go on with a byte -/
def nextE (depth b : Nat) (e : Ent) : Bool := decide ((wl e.word)[depth]? = some b)
def ownE (es : List Ent) (i depth b k : Nat) : List Ent := ((es.take k).drop i).filter (nextE depth b)
theorem ownE_start (es : List Ent) (i depth b : Nat) : ownE es i depth b i = [] := by
  unfold ownE
  rw [List.drop_eq_nil_of_le (by simp; omega)]
  rfl
theorem ownE_step {es : List Ent} {i k : Nat} {q : Ent} (depth b : Nat) (h : es[k]? = some q) (hik : i ≤ k) : ownE es i depth b (k + 1) = ownE es i depth b k ++ if nextE depth b q = true then [q] else [] := by
  unfold ownE
  have hk := (List.getElem?_eq_some_iff.1 h).1
  rw [List.take_add_one, h, Option.toList_some, List.drop_append_of_le_length (by simp; omega), List.filter_append]
  congr 1
  simp only [List.filter_cons, List.filter_nil]
theorem ownE_full (es : List Ent) (i depth b : Nat) : (ownE es i depth b es.length).map wvE = ((es.map wvE).drop i).filter (fun e => decide (e.1[depth]? = some b)) := by
  unfold ownE
  rw [List.take_length, ← List.map_drop, List.filter_map]
  rfl
theorem ownE_sub {es : List Ent} {i depth b k : Nat} : ∀ e ∈ ownE es i depth b k, e ∈ es ∧ (wl e.word)[depth]? = some b := fun e he => by
  unfold ownE at he
  obtain ⟨h1, h2⟩ := List.mem_filter.1 he
  exact ⟨List.mem_of_mem_take (List.mem_of_mem_drop h1), of_decide_eq_true h2⟩
theorem ownE_length (es : List Ent) (i depth b k : Nat) : (ownE es i depth b k).length ≤ es.length := by
  unfold ownE
  refine Nat.le_trans (List.length_filter_le _ _) ?_
  simp; omega
theorem ownE_mem {es : List Ent} {i depth b : Nat} {e : Ent} (h : es[i]? = some e) (hb : (wl e.word)[depth]? = some b) : e ∈ ownE es i depth b es.length := by
  unfold ownE
  rw [List.take_length]
  refine List.mem_filter.2 ⟨?_, decide_eq_true hb⟩
  rw [drop_get h]
  exact List.mem_cons_self ..
theorem next_at {e : Ent} {depth b : Nat} (h : depth < e.word.size) : nextE depth b e = decide (at_ e.word depth = b) := by
  unfold nextE
  rw [wl_at h]
  simp
theorem next_no {e : Ent} {depth b : Nat} (h : e.word.size ≤ depth) : nextE depth b e = false := by
  unfold nextE
  rw [List.getElem?_eq_none (by rw [wl_length]; exact h)]
  simp
/-! memory -/
theorem RE.later {w w' : World} {B : Nat} {v : Value} {es : List Ent} (h : RE w B v es) (hb : Below w.heap.size w w') : RE w' B v es := by
  obtain ⟨A, c, h1, h2, h3⟩ := h
  refine ⟨A, c, h1, h2, fun h0 => ?_⟩
  obtain ⟨b, off, h4, h5, h6⟩ := h3 h0
  exact ⟨b, off, h4, h5, fun j u hu => cL hb (h6 j u hu)⟩
theorem RE.apart {w w' : World} {S : Nat → Prop} {B : Nat} {v : Value} {es : List Ent} (h : RE w B v es) (hb : But S w w') (hn : ∀ k, v.ownBlock = some k → ¬ S k) : RE w' B v es := by
  obtain ⟨A, c, rfl, h2, h3⟩ := h
  refine ⟨A, c, rfl, h2, fun h0 => ?_⟩
  obtain ⟨b, off, rfl, h5, h6⟩ := h3 h0
  exact ⟨b, off, rfl, h5, fun j u hu => hb.cell (h6 j u hu) (hn b rfl)⟩
theorem But.join {S T : Nat → Prop} {a b c : World} (h : But S a b) (k : But T b c) (hT : ∀ x, x < a.heap.size → T x → S x) : But S a c :=
  ⟨k.os.trans h.os, k.tape.trans h.tape, k.output.trans h.output, Nat.le_trans h.size k.size, fun x hx hn => (k.block x (Nat.lt_of_lt_of_le hx h.size) (fun ht => hn (hT x hx ht))).trans (h.block x hx hn)⟩
/-- the maker, come of one with row v and blocks B; what is new lies from n on -/
def Made (base g : Nat) (v : Value) (B : Nat → Prop) (n : Nat) (ss : List State) (w : World) : Prop :=
  ∃ v' B', MS w base g v' B' ss ∧ (∀ k, B' k → k < w.heap.size ∧ (B k ∨ n ≤ k)) ∧ (v'.ownBlock = v.ownBlock ∨ ∃ k, v'.ownBlock = some k ∧ n ≤ k)
theorem Made.later {base g n : Nat} {v : Value} {B : Nat → Prop} {ss : List State} : ∀ w w' : World, Below w.heap.size w w' → Made base g v B n ss w → Made base g v B n ss w' :=
  fun w w' hb ⟨v', B', h1, h2, h3⟩ => ⟨v', B', h1.later hb, fun k hk => ⟨Nat.lt_of_lt_of_le (h2 k hk).1 hb.size, (h2 k hk).2⟩, h3⟩
theorem Made.mono {base g n n' : Nat} {v : Value} {B : Nat → Prop} {ss : List State} {w : World} (h : Made base g v B n ss w) (hn : n' ≤ n) : Made base g v B n' ss w := by
  obtain ⟨v', B', h1, h2, h3⟩ := h
  exact ⟨v', B', h1, fun k hk => ⟨(h2 k hk).1, (h2 k hk).2.imp id (fun h => by omega)⟩, h3.imp id (fun ⟨k, h4, h5⟩ => ⟨k, h4, by omega⟩)⟩
/-- the maker, and the row of the arcs of the state that is made -/
def Lq (bx base g : Nat) (v : Value) (B : Nat → Prop) (x : List State × List Arc) (av : Value) (w : World) : Prop :=
  ∃ v' B', MS w base g v' B' x.1 ∧ (∀ k, B' k → k < w.heap.size ∧ ((B k ∧ k < bx) ∨ bx < k)) ∧ ((v'.ownBlock = v.ownBlock) ∨ ∃ k, v'.ownBlock = some k ∧ bx < k) ∧ OA w bx av x.2 ∧
    ∀ k, av.ownBlock = some k → bx < k ∧ ¬ B' k ∧ v'.ownBlock ≠ some k
theorem Lq.later {bx base g : Nat} {v : Value} {B : Nat → Prop} {x : List State × List Arc} : Stab.Stable (Lq bx base g v B x) :=
  fun av w w' hb ⟨v', B', h1, h2, h3, h4, h5⟩ => ⟨v', B', h1.later hb, fun k hk => ⟨Nat.lt_of_lt_of_le (h2 k hk).1 hb.size, (h2 k hk).2⟩, h3, own_later h4 hb, h5⟩
def bxCells (av : Value) (y : Bool × Nat) : Obj := .cells #[av, .bool y.1, .int .u64 y.2] 64 (0, 0)
def Lp (bx base g : Nat) (v : Value) (B : Nat → Prop) (y : Bool × Nat) (x : List State × List Arc) (w : World) : Prop := ∃ av, Lq bx base g v B x av w ∧ w.heap[bx]? = some (bxCells av y)
theorem Lp.later {bx base g : Nat} {v : Value} {B : Nat → Prop} {y : Bool × Nat} {x : List State × List Arc} {w w' : World} (hb : Below w.heap.size w w') (h : Lp bx base g v B y x w) : Lp bx base g v B y x w' := by
  obtain ⟨av, h1, h2⟩ := h
  exact ⟨av, Lq.later av w w' hb h1, (hb.block bx (heap_lt h2)).trans h2⟩
/-- an arc comes behind -/
theorem Lq.app {bx base g n : Nat} {v v2 av v' : Value} {B B2 : Nat → Prop} {ss : List State} {al : List Arc} {a : Arc} {w w2 : World} (hm : Made base g v2 B2 n ss w) (hnb : bx < n)
    (hB2 : ∀ k, B2 k → ((B k ∧ k < bx) ∨ bx < k)) (hv2 : (v2.ownBlock = v.ownBlock) ∨ ∃ k, v2.ownBlock = some k ∧ bx < k) (hav : ∀ k, av.ownBlock = some k → bx < k ∧ ¬ B2 k ∧ v2.ownBlock ≠ some k ∧ k < n) (hgb : g < bx)
    (hrow : w2.ownsRow bx 66 3 v' (al.length + 1) (acs al ++ a.cells)) (hg : w.grownBy w2 av.ownBlock) (hat : v'.ownBlock = av.ownBlock ∨ v'.ownBlock = some w.heap.size) (hnw : n ≤ w.heap.size) : Lq bx base g v B (ss, al ++ [a]) v' w2 := by
  obtain ⟨vv, BB, h1, h2, h3⟩ := hm
  have hbut : But (fun k => av.ownBlock = some k) w w2 := But.grown hg (fun k hk => hk)
  have hnB : ∀ k, av.ownBlock = some k → ¬ BB k ∧ vv.ownBlock ≠ some k := fun k hk => by
    obtain ⟨k1, k2, k3, k4⟩ := hav k hk
    refine ⟨fun h => ?_, fun h => ?_⟩
    · rcases (h2 k h).2 with h | h
      · exact k2 h
      · omega
    · rcases h3 with h4 | ⟨k', h4, h5⟩
      · exact k3 (h4.symm.trans h)
      · rw [h] at h4; injection h4 with h4; omega
  refine ⟨vv, BB, h1.but hbut (fun h => by have := hav g h; omega) (fun k hk h => (hnB k h).2 hk) (fun k hk h => (hnB k h).1 hk), fun k hk => ⟨Nat.lt_of_lt_of_le (h2 k hk).1 hbut.size, ?_⟩, ?_, ?_, fun k hk => ?_⟩
  · rcases (h2 k hk).2 with h | h
    · exact hB2 k h
    · exact .inr (by omega)
  · rcases h3 with h | ⟨k, h, h4⟩
    · rw [h]; exact hv2
    · exact .inr ⟨k, h, by omega⟩
  · unfold OA
    rw [acs_append, List.length_append]
    have : acs [a] = a.cells := by simp [acs]
    rw [this]
    exact hrow
  · rcases hat with h | h
    · rw [h] at hk
      have := hav k hk
      have := hnB k hk
      exact ⟨by omega, this.1, this.2⟩
    · rw [h] at hk
      injection hk with hk
      subst hk
      refine ⟨by omega, fun h => ?_, fun h => ?_⟩
      · have := (h2 _ h).1; omega
      · have := (h1.blk h).2; omega
theorem Lq.but {S : Nat → Prop} {bx base g : Nat} {v av : Value} {B : Nat → Prop} {x : List State × List Arc} {w w' : World} (h : Lq bx base g v B x av w) (hb : But S w w') (hS : ∀ k, S k → k = bx) (hgb : g < bx) (hvb : ∀ k, v.ownBlock = some k → k < bx) : Lq bx base g v B x av w' := by
  obtain ⟨v', B', h1, h2, h3, h4, h5⟩ := h
  refine ⟨v', B', h1.but hb (fun h => by have := hS _ h; omega) (fun k hk h => ?_) (fun k hk h => ?_), fun k hk => ⟨Nat.lt_of_lt_of_le (h2 k hk).1 hb.size, (h2 k hk).2⟩, h3, own_but h4 hb (fun k hk h => ?_), h5⟩
  · have := hS k h
    rcases h3 with h6 | ⟨k', h6, h7⟩
    · rw [h6] at hk; have := hvb k hk; omega
    · rw [h6] at hk; injection hk with hk; omega
  · have := hS k h
    have := (h2 k hk).2
    omega
  · have := hS k h
    have := (h5 k hk).1
    omega
end Dw
end Go.Proofs.YtdkbgbdgmihlmaaDoor

namespace Go.Proofs.YtdkbgbdgmihlmaaDoor
open Go.RowKit
set_option linter.unusedSimpArgs false
set_option linter.unusedVariables false
set_option linter.unnecessarySimpa false
namespace Dw

theorem Lq.form {bx base g : Nat} {v av : Value} {B : Nat → Prop} {x : List State × List Arc} {w : World} (h : Lq bx base g v B x av w) : ∃ A c, av = .slice A x.2.length c := by
  obtain ⟨v', B', h1, h2, h3, h4, h5⟩ := h
  obtain ⟨A, c, h6, _⟩ := row_form h4
  exact ⟨A, c, h6⟩
theorem state_end {base g : Nat} {v v1 v2 av : Value} {B B1 : Nat → Prop} {ss : List State} {w wr w1 : World} (hm2 : MS w1 base g v2 (fun k => k < wr.heap.size ∧ (B1 k ∨ av.ownBlock = some k)) ss) (hb2 : But (fun k => k = g ∨ v1.ownBlock = some k) wr w1) (hv2 : v2.ownBlock = v1.ownBlock ∨ ∃ k, v2.ownBlock = some k ∧ wr.heap.size ≤ k)
    (hbt : But (fun k => k = g ∨ v.ownBlock = some k) w wr) (hB1 : ∀ k, B1 k → k < wr.heap.size ∧ ((B k ∧ k < w.heap.size) ∨ w.heap.size < k)) (hv1 : v1.ownBlock = v.ownBlock ∨ ∃ k, v1.ownBlock = some k ∧ w.heap.size < k) (hav : ∀ k, av.ownBlock = some k → w.heap.size < k ∧ ¬ B1 k ∧ v1.ownBlock ≠ some k) :
    Made base g v B w.heap.size ss w1 ∧ But (fun k => k = g ∨ v.ownBlock = some k) w w1 := by
  have hz1 := hb2.size
  have hz2 := hbt.size
  refine ⟨⟨v2, _, hm2, fun k hk => ⟨by have := hk.1; omega, ?_⟩, ?_⟩, But.join hbt hb2 (fun k hk h => ?_)⟩
  · rcases hk.2 with h | h
    · rcases (hB1 k h).2 with h2 | h2
      · exact .inl h2.1
      · exact .inr (by omega)
    · exact .inr (by have := (hav k h).1; omega)
  · rcases hv2 with h | ⟨k, h, h2⟩
    · rw [h]; exact hv1.imp id (fun ⟨k, h1, h2⟩ => ⟨k, h1, by omega⟩)
    · exact .inr ⟨k, h, by omega⟩
  · rcases h with h | h
    · exact .inl h
    · rcases hv1 with h2 | ⟨k2, h2, h3⟩
      · exact .inr (by rw [← h2]; exact h)
      · rw [h] at h2; injection h2 with h2; omega
def StateOk (f : Nat) : Prop := ∀ (w : World) (base g : Nat) (v : Value) (B : Nat → Prop) (ss : List State) (es : List Ent) (lv : Value) (d le : Nat) (hm : MS w base g v B ss) (hbase : base ≤ w.heap.size) (hre : RE w w.heap.size lv es) (hap : ∀ k, lv.ownBlock = some k → k ≠ g ∧ v.ownBlock ≠ some k) (hes : ∀ e ∈ es, okE e) (hlen : es.length ≤ 100000) (hwd : ∀ e ∈ es, d ≤ e.word.size ∧ e.word.size < f + d) (hd : d + f ≤ 100000) (hle : ∀ e ∈ es, le ≤ valE e) (hfin : (refS f ss (es.map wvE) d le).1.length ≤ 100000) (hfew : Few 100000 ss), 0 < es.length → Calls Tryd.prog 64 #[.pointer (some ⟨g, 0, none⟩), lv, .int .i64 d, .int .u64 le] w fun e w1 => e = .returned (.int .i64 ((refS f ss (es.map wvE) d le).2 : Nat)) ∧ Made base g v B w.heap.size (refS f ss (es.map wvE) d le).1 w1 ∧ But (fun k => k = g ∨ v.ownBlock = some k) w w1
set_option maxHeartbeats 4000000 in
set_option maxRecDepth 100000 in
theorem state_step (w : World) (f : Nat) (base g : Nat) (v : Value) (B : Nat → Prop) (ss : List State) (es : List Ent) (lv : Value) (d le : Nat) (ih : StateOk f) (hm : MS w base g v B ss) (hbase : base ≤ w.heap.size) (hre : RE w w.heap.size lv es) (hap : ∀ k, lv.ownBlock = some k → k ≠ g ∧ v.ownBlock ≠ some k) (hes : ∀ e ∈ es, okE e) (hlen : es.length ≤ 100000) (hwd : ∀ e ∈ es, d ≤ e.word.size ∧ e.word.size < (f + 1) + d) (hd : d + (f + 1) ≤ 100000) (hle : ∀ e ∈ es, le ≤ valE e) (hfin : (refS (f + 1) ss (es.map wvE) d le).1.length ≤ 100000) (hfew : Few 100000 ss) : Calls Tryd.prog 64 #[.pointer (some ⟨g, 0, none⟩), lv, .int .i64 d, .int .u64 le] w fun e w1 => e = .returned (.int .i64 ((refS (f + 1) ss (es.map wvE) d le).2 : Nat)) ∧ Made base g v B w.heap.size (refS (f + 1) ss (es.map wvE) d le).1 w1 ∧ But (fun k => k = g ∨ v.ownBlock = some k) w w1 := by
 refine calls_of_wp Tryd.func64 rfl ?_
 refine Fact.en 143 fun fr hf hT => ?_
 have s0 := hT 0 _ rfl
 have s1 := hT 1 _ rfl
 have s2 := hT 2 _ rfl
 have s3 := hT 3 _ rfl
 clear hT
 obtain ⟨A, cc, rfl, hcc⟩ := hre.form
 have HES := Lib.hid hes; have HWD := Lib.hid hwd; have HLE := Lib.hid hle; have HFIN := Lib.hid hfin; have HFEW := Lib.hid hfew; have HAP := Lib.hid hap; clear hes hwd hle hfin hfew hap
 have hgw := heap_lt hm.box
 have hvb : ∀ k, v.ownBlock = some k → k < w.heap.size := fun k hk => (hm.blk hk).2
 have HVB := Lib.hid hvb; clear hvb
 refine Fact.sq fun K1 hK1 => ?_
 refine rg ?_
 refine fp fun K Z => ?_
 go_simp
 apply Z.out; clear Z K
 refine Fact.z hf fun fr1 hf1 hT => ?_
 have hKp : _ ∧ _ ∧ _ ∧ _ := ⟨hT 0, hT 1, hT 2, hT 3⟩
 simp (decide := true) only [Fact.G, reduceIte, s0, s1, s2, s3] at hKp
 replace hf := hf1; clear hT hf1 s0 s1 s2 s3
 obtain ⟨s0, s1, s2, s3⟩ := hKp
 refine nx (hK1 _ _ ?_)
 refine Fact.sq fun K2 hK2 => ?_
 refine rg ?_
 refine fp fun K Z => ?_
 go_simp
 apply Z.out; clear Z K
 refine Fact.z hf fun fr1 hf1 hT => ?_
 have hKp : _ ∧ _ ∧ _ ∧ _ ∧ _ := ⟨hT 0, hT 1, hT 2, hT 3, hT 9⟩
 simp (decide := true) only [Fact.G, hf.size, reduceIte, s0, s1, s2, s3] at hKp
 replace hf := hf1; clear hT hf1 s0 s1 s2 s3
 obtain ⟨s0, s1, s2, s3, s9⟩ := hKp
 obtain ⟨W1, hW1⟩ : ∃ W0, w.alloc (.cells #[.slice none 0 0, .bool false, .int .u64 0] 64) = W0 := ⟨_, rfl⟩
 try rw [hW1]
 obtain ⟨hb1, -, -, -, hp1, -⟩ := box3 hW1
 clear hW1
 have hs1 := hb1.size
 have hz1 : w.heap.size < W1.heap.size := heap_lt hp1
 refine nx (hK2 _ _ ?_)
 refine Fact.sq fun K3 hK3 => ?_
 refine Fact.sq fun K4 hK4 => ?_
 refine rg ?_
 refine fp fun K Z => ?_
 go_simp
 apply Z.out; clear Z K
 refine Fact.z hf fun fr1 hf1 hT => ?_
 have hKp : _ ∧ _ ∧ _ ∧ _ ∧ _ ∧ _ := ⟨hT 0, hT 1, hT 2, hT 3, hT 9, hT 10⟩
 simp (decide := true) only [Fact.G, hf.size, reduceIte, s0, s1, s2, s3, s9] at hKp
 replace hf := hf1; clear hT hf1 s0 s1 s2 s3 s9
 obtain ⟨s0, s1, s2, s3, s9, s10⟩ := hKp
 refine nx (hK4 _ _ ?_)
 refine wp_block ?_
 refine wp_loop_ghost (fun gk fr wr => ∃ (i : Nat), gk = es.length - i ∧ i ≤ es.length ∧ Fact.Fr 143 fr ∧ fr.tmps[0]? = some (.pointer (some ⟨g, 0, none⟩)) ∧ fr.tmps[1]? = some (.slice A es.length cc) ∧ fr.tmps[2]? = some (.int .i64 d) ∧ fr.tmps[3]? = some (.int .u64 le) ∧ fr.tmps[9]? = some (.pointer (some ⟨w.heap.size, 0, none⟩)) ∧ fr.tmps[10]? = some (.int .i64 i) ∧ Below w.heap.size w wr ∧ wr.heap[w.heap.size]? = some (bxCells (.slice none 0 0) (refFo ((es.take i).map wvE) d le))) (es.length) ?_ ?_
 · (
 exact ⟨0, rfl, Nat.zero_le _, hf, s0, s1, s2, s3, s9, s10, hb1, hp1⟩)
 · (
 clear hf s0 s1 s2 s3 s9 s10
 rintro gk fr wr ⟨i, hk, hi, hf, s0, s1, s2, s3, s9, s10, hb, hbx⟩
 have HK := Lib.hid hk; clear hk
 refine Fact.sq fun K5 hK5 => ?_
 refine Fact.sq fun K6 hK6 => ?_
 refine rg ?_
 have b15 := hf.b 15
 have b16 := hf.b 16
 have b17 := hf.b 17
 refine fp fun K Z => ?_
 go_simp
 apply Z.out; clear Z K
 refine fp fun K Z => ?_
 go_simp
 apply Z.out; clear Z K
 refine fp fun K Z => ?_
 go_simp
 apply Z.out; clear Z K
 refine fp fun K Z => ?_
 go_simp
 apply Z.out; clear Z K
 refine Fact.z hf fun fr1 hf1 hT => ?_
 have hKp : _ ∧ _ ∧ _ ∧ _ ∧ _ ∧ _ ∧ _ := ⟨hT 0, hT 1, hT 2, hT 3, hT 9, hT 10, hT 18⟩
 simp (decide := true) only [Fact.G, hf.size, reduceIte, s0, s1, s2, s3, s9, s10] at hKp
 replace hf := hf1; clear hT hf1 s0 s1 s2 s3 s9 s10 b15 b16 b17
 obtain ⟨s0, s1, s2, s3, s9, s10, s18⟩ := hKp
 refine nx (hK6 _ _ ?_)
 refine Fact.cond_s s18 (fun hq => ?_) (fun hq => ?_)
 · (
 have hlt : i < es.length := by have h9 := of_decide_eq_true hq; omega
 have HQ := Lib.hid hq; clear hq
 obtain ⟨e, hie⟩ : ∃ e, es[i]? = some e := ⟨_, List.getElem?_eq_getElem hlt⟩
 obtain ⟨b, off, rfl, hbB, hbl, d0, d1, d2⟩ := (hre.later hb).at_ hie
 have hem := List.mem_of_getElem? hie
 have hwe := HWD.out e hem; have hoe := HES.out e hem; have hlee := HLE.out e hem; have hvl := valE_lt hoe
 have hst := foStep d le hie
 have HST := Lib.hid hst; clear hst hie hem
 have hbq : b ≠ w.heap.size := by omega
 refine wp_skip ?_
 refine nx (hK5 _ _ ?_)
 refine Fact.sq fun K7 hK7 => ?_
 refine wp_block ?_
 refine Fact.sq fun K8 hK8 => ?_
 refine rg ?_
 have b21 := hf.b 21
 have b22 := hf.b 22
 have b23 := hf.b 23
 have b24 := hf.b 24
 have b25 := hf.b 25
 have b26 := hf.b 26
 have b27 := hf.b 27
 refine fp fun K Z => ?_
 go_simp
 apply Z.out; clear Z K
 refine fp fun K Z => ?_
 go_simp
 apply Z.out; clear Z K
 refine fp fun K Z => ?_
 go_simp
 try rw [if_pos (by omega)]
 apply Z.out; clear Z K
 refine fp fun K Z => ?_
 go_simp
 apply Z.out; clear Z K
 refine fp fun K Z => ?_
 go_simp
 apply Z.out; clear Z K
 refine fp fun K Z => ?_
 go_simp
 apply Z.out; clear Z K
 refine fp fun K Z => ?_
 go_simp
 apply Z.out; clear Z K
 refine fp fun K Z => ?_
 go_simp
 apply Z.out; clear Z K
 refine Fact.z hf fun fr1 hf1 hT => ?_
 have hKp : _ ∧ _ ∧ _ ∧ _ ∧ _ ∧ _ ∧ _ := ⟨hT 0, hT 1, hT 2, hT 3, hT 9, hT 10, hT 28⟩
 simp (decide := true) only [Fact.G, hf.size, reduceIte, s0, s1, s2, s3, s9, s10] at hKp
 replace hf := hf1; clear hT hf1 s0 s1 s2 s3 s9 s10 s18 b21 b22 b23 b24 b25 b26 b27
 obtain ⟨s0, s1, s2, s3, s9, s10, s28⟩ := hKp
 refine nx (hK8 _ _ ?_)
 refine Fact.cond_s s28 (fun hq2 => ?_) (fun hq2 => ?_)
 · (
 have hsz : e.word.size = d := by have h9 := of_decide_eq_true hq2; omega
 have hy := HST.out
 rw [if_pos hsz] at hy
 have HY := Lib.hid hy; clear hy hq2
 have fz1 := frozen_of (i := 1) hbx
 have z1 : wr.cell? ⟨w.heap.size, 1, none⟩ = some (.bool (refFo ((es.take i).map wvE) d le).1) := by rw [cell_of_row _ _ 1 _ 64 (0, 0) hbx]; rfl
 refine Fact.sq fun K9 hK9 => ?_
 refine rg ?_
 have b29 := hf.b 29
 refine fp fun K Z => ?_
 go_simp
 apply Z.out; clear Z K
 refine fp fun K Z => ?_
 go_simp
 apply Z.out; clear Z K
 refine Fact.z hf fun fr1 hf1 hT => ?_
 have hKp : _ ∧ _ ∧ _ ∧ _ ∧ _ ∧ _ := ⟨hT 0, hT 1, hT 2, hT 3, hT 9, hT 10⟩
 simp (decide := true) only [Fact.G, reduceIte, s0, s1, s2, s3, s9, s10] at hKp
 replace hf := hf1; clear hT hf1 s0 s1 s2 s3 s9 s10 s28 b29
 obtain ⟨s0, s1, s2, s3, s9, s10⟩ := hKp
 have hbx6 := set_block hbx (i := 1) (.bool true)
 have hb6 := hb.setCell (p := ⟨w.heap.size, 1, none⟩) (Nat.le_refl _) (.bool true)
 obtain ⟨W6, hW6⟩ : ∃ W6, wr.setCell ⟨w.heap.size, 1, none⟩ (.bool true) = W6 := ⟨_, rfl⟩
 have hq6 : But (fun k => k = w.heap.size) wr W6 := by rw [← hW6]; exact But.setCell (S := fun k => k = w.heap.size) rfl _
 replace d0 := hq6.cell d0 hbq; replace d1 := hq6.cell d1 hbq; replace d2 := hq6.cell d2 hbq
 rw [hW6] at hbx6 hb6
 try rw [hW6]
 clear hbx hb hW6 hq6
 refine nx (hK9 _ _ ?_)
 refine rg ?_
 have b30 := hf.b 30
 have b31 := hf.b 31
 have b32 := hf.b 32
 have b33 := hf.b 33
 have b34 := hf.b 34
 have b35 := hf.b 35
 have b36 := hf.b 36
 have b37 := hf.b 37
 refine fp fun K Z => ?_
 go_simp
 apply Z.out; clear Z K
 refine fp fun K Z => ?_
 go_simp
 apply Z.out; clear Z K
 refine fp fun K Z => ?_
 go_simp
 try rw [if_pos (by omega)]
 apply Z.out; clear Z K
 refine fp fun K Z => ?_
 go_simp
 apply Z.out; clear Z K
 refine fp fun K Z => ?_
 go_simp
 go_at_call 82; refine (rvalue16 e hoe _).mono ?_; rintro e w1 ⟨rfl, hbv⟩
 replace hbx6 := (hbv.block _ (heap_lt hbx6)).trans hbx6
 replace hb6 := hb6.trans (hbv.mono hb6.size)
 have z2 : w1.cell? ⟨w.heap.size, 2, none⟩ = some (.int .u64 ((refFo ((es.take i).map wvE) d le).2 : Nat)) := by rw [cell_of_row _ _ 2 _ 64 (0, 0) hbx6]; rfl
 have fz2 := frozen_of (i := 2) hbx6
 try dsimp only
 apply Z.out; clear Z K
 refine fp fun K Z => ?_
 go_simp
 apply Z.out; clear Z K
 refine fp fun K Z => ?_
 go_simp
 try simp (disch := omega) only [Fact.W]
 rw [show ((valE e : Nat) : Int) - (le : Nat) = ((valE e - le : Nat) : Int) by omega]
 apply Z.out; clear Z K
 refine fp fun K Z => ?_
 go_simp
 apply Z.out; clear Z K
 refine fp fun K Z => ?_
 go_simp
 apply Z.out; clear Z K
 refine Fact.z hf fun fr1 hf1 hT => ?_
 have hKp : _ ∧ _ ∧ _ ∧ _ ∧ _ ∧ _ := ⟨hT 0, hT 1, hT 2, hT 3, hT 9, hT 10⟩
 simp (decide := true) only [Fact.G, reduceIte, s0, s1, s2, s3, s9, s10] at hKp
 replace hf := hf1; clear hT hf1 s0 s1 s2 s3 s9 s10 b30 b31 b32 b33 b34 b35 b36 b37
 obtain ⟨s0, s1, s2, s3, s9, s10⟩ := hKp
 have hbx := set_block hbx6 (i := 2) (.int .u64 (valE e - le : Nat))
 have hb := hb6.setCell (p := ⟨w.heap.size, 2, none⟩) (Nat.le_refl _) (.int .u64 (valE e - le : Nat))
 replace hbx : _ = some (bxCells (.slice none 0 0) (true, valE e - le)) := hbx
 rw [← HY.out] at hbx
 refine Fact.block_normal ?_
 refine nx (hK7 _ _ ?_)
 refine rg ?_
 have b19 := hf.b 19
 have b20 := hf.b 20
 refine fp fun K Z => ?_
 go_simp
 apply Z.out; clear Z K
 refine fp fun K Z => ?_
 go_simp
 try simp (disch := omega) only [Fact.W]
 apply Z.out; clear Z K
 refine fp fun K Z => ?_
 go_simp
 apply Z.out; clear Z K
 refine Fact.z hf fun fr1 hf1 hT => ?_
 have hKp : _ ∧ _ ∧ _ ∧ _ ∧ _ ∧ _ := ⟨hT 0, hT 1, hT 2, hT 3, hT 9, hT 10⟩
 simp (decide := true) only [Fact.G, hf.size, reduceIte, s0, s1, s2, s3, s9] at hKp
 replace hf := hf1; clear hT hf1 s0 s1 s2 s3 s9 s10 b19 b20
 obtain ⟨s0, s1, s2, s3, s9, s10⟩ := hKp
 refine Fact.then_normal ?_
 exact ⟨_, by have := HK.out; omega, i + 1, rfl, by omega, hf, s0, s1, s2, s3, s9, by rw [s10]; rfl, hb, hbx⟩)
 · (
 have hsz : e.word.size ≠ d := by have h9 := of_decide_eq_false hq2; omega
 have hy := HST.out
 rw [if_neg hsz] at hy
 rw [← hy] at hbx
 clear hy hq2
 refine wp_skip ?_
 refine Fact.block_normal ?_
 refine nx (hK7 _ _ ?_)
 refine rg ?_
 have b19 := hf.b 19
 have b20 := hf.b 20
 refine fp fun K Z => ?_
 go_simp
 apply Z.out; clear Z K
 refine fp fun K Z => ?_
 go_simp
 try simp (disch := omega) only [Fact.W]
 apply Z.out; clear Z K
 refine fp fun K Z => ?_
 go_simp
 apply Z.out; clear Z K
 refine Fact.z hf fun fr1 hf1 hT => ?_
 have hKp : _ ∧ _ ∧ _ ∧ _ ∧ _ ∧ _ := ⟨hT 0, hT 1, hT 2, hT 3, hT 9, hT 10⟩
 simp (decide := true) only [Fact.G, hf.size, reduceIte, s0, s1, s2, s3, s9] at hKp
 replace hf := hf1; clear hT hf1 s0 s1 s2 s3 s9 s10 s28 b19 b20
 obtain ⟨s0, s1, s2, s3, s9, s10⟩ := hKp
 refine Fact.then_normal ?_
 exact ⟨_, by have := HK.out; omega, i + 1, rfl, by omega, hf, s0, s1, s2, s3, s9, by rw [s10]; rfl, hb, hbx⟩))
 · (
 have hie : i = es.length := by have h9 := of_decide_eq_false hq; omega
 rw [hie, List.take_length] at hbx
 clear hie hq HK hi
 have hlp : Lp w.heap.size base g v B (refFo (es.map wvE) d le) (refX f ss (es.map wvE) d le 0) wr := ⟨_, ⟨v, fun k => k < w.heap.size ∧ B k, (hm.more (B' := fun k => k < w.heap.size ∧ B k) (fun k hk h => ⟨hk, h⟩) (fun h => hm.bg h.2) (fun k hk h => hm.bv k hk h.2)).later hb, fun k hk => ⟨Nat.lt_of_lt_of_le hk.1 hb.size, .inl ⟨hk.2, hk.1⟩⟩, .inl rfl, OA.nil_ _ _, fun k hk => by cases hk⟩, hbx⟩
 refine wp_exit ?_
 refine Fact.then_exit ?_
 refine Fact.then_exit ?_
 refine Fact.block_exit ?_
 refine nx (hK3 _ _ ?_)
 refine Fact.sq fun K10 hK10 => ?_
 refine Fact.sq fun K11 hK11 => ?_
 refine rg ?_
 refine fp fun K Z => ?_
 go_simp
 apply Z.out; clear Z K
 refine Fact.z hf fun fr1 hf1 hT => ?_
 have hKp : _ ∧ _ ∧ _ ∧ _ ∧ _ ∧ _ := ⟨hT 0, hT 1, hT 2, hT 3, hT 9, hT 11⟩
 simp (decide := true) only [Fact.G, hf.size, reduceIte, s0, s1, s2, s3, s9] at hKp
 replace hf := hf1; clear hT hf1 s0 s1 s2 s3 s9 s10 s18
 obtain ⟨s0, s1, s2, s3, s9, s11⟩ := hKp
 refine nx (hK11 _ _ ?_)
 refine wp_block ?_
 refine wp_loop_ghost (fun gk fr wr => ∃ (i : Nat), gk = es.length - i ∧ i ≤ es.length ∧ Fact.Fr 143 fr ∧ fr.tmps[0]? = some (.pointer (some ⟨g, 0, none⟩)) ∧ fr.tmps[1]? = some (.slice A es.length cc) ∧ fr.tmps[2]? = some (.int .i64 d) ∧ fr.tmps[3]? = some (.int .u64 le) ∧ fr.tmps[9]? = some (.pointer (some ⟨w.heap.size, 0, none⟩)) ∧ fr.tmps[11]? = some (.int .i64 i) ∧ But (fun k => k = g ∨ v.ownBlock = some k) w wr ∧ Lp w.heap.size base g v B (refFo (es.map wvE) d le) (refX f ss (es.map wvE) d le i) wr) (es.length) ?_ ?_
 · (
 exact ⟨0, rfl, Nat.zero_le _, hf, s0, s1, s2, s3, s9, s11, But.of _ hb, hlp⟩)
 · (
 clear hf s0 s1 s2 s3 s9 s11
 clear hb hlp hbx
 rintro gk fr wr ⟨i, hk, hi, hf, s0, s1, s2, s3, s9, s11, hbt, hlp⟩
 have HK := Lib.hid hk; clear hk
 have hrw : RE wr w.heap.size (.slice A es.length cc) es := hre.apart hbt (fun k hk h => by have h2 := HAP.out k hk; rcases h with h | h; exact h2.1 h; exact h2.2 h)
 refine Fact.sq fun K12 hK12 => ?_
 refine Fact.sq fun K13 hK13 => ?_
 refine rg ?_
 have b38 := hf.b 38
 have b39 := hf.b 39
 have b40 := hf.b 40
 refine fp fun K Z => ?_
 go_simp
 apply Z.out; clear Z K
 refine fp fun K Z => ?_
 go_simp
 apply Z.out; clear Z K
 refine fp fun K Z => ?_
 go_simp
 apply Z.out; clear Z K
 refine fp fun K Z => ?_
 go_simp
 apply Z.out; clear Z K
 refine Fact.z hf fun fr1 hf1 hT => ?_
 have hKp : _ ∧ _ ∧ _ ∧ _ ∧ _ ∧ _ ∧ _ := ⟨hT 0, hT 1, hT 2, hT 3, hT 9, hT 11, hT 41⟩
 simp (decide := true) only [Fact.G, hf.size, reduceIte, s0, s1, s2, s3, s9, s11] at hKp
 replace hf := hf1; clear hT hf1 s0 s1 s2 s3 s9 s11 b38 b39 b40
 obtain ⟨s0, s1, s2, s3, s9, s11, s41⟩ := hKp
 refine nx (hK13 _ _ ?_)
 refine Fact.cond_s s41 (fun hq => ?_) (fun hq => ?_)
 · (
 have hlt : i < es.length := by have h9 := of_decide_eq_true hq; omega
 have HQ := Lib.hid hq; clear hq
 obtain ⟨e, hie⟩ : ∃ e, es[i]? = some e := ⟨_, List.getElem?_eq_getElem hlt⟩
 obtain ⟨b, off, rfl, hbB, hbl, d0, d1, d2⟩ := hrw.at_ hie
 have hem := List.mem_of_getElem? hie
 have hwe := HWD.out e hem
 have hLi : (es.map wvE)[i]? = some (wvE e) := by rw [List.getElem?_map, hie]; rfl
 have HIE := Lib.hid hie; have HLI := Lib.hid hLi; clear hie hLi hem d1 d2
 have hrx := refX_succ f ss (es.map wvE) d le i
 have hal0 := refX_arcs f ss (es.map wvE) d le i
 obtain ⟨⟨sx, al⟩, hX⟩ : ∃ x, refX f ss (es.map wvE) d le i = x := ⟨_, rfl⟩
 rw [hX] at hlp hrx hal0
 have HX := Lib.hid hX; have HRX := Lib.hid hrx; clear hX hrx
 simp only at hal0
 have hlp0 := hlp
 obtain ⟨av, ⟨v1, B1, hm1, hB1, hv1, hoa, hav⟩, hbx⟩ := hlp
 simp only at hm1 hoa
 have hra := OA.ra (B := fun _ => True) hoa (fun _ _ => trivial)
 obtain ⟨Aa, ca, rfl, hca⟩ := hra.form
 have z0 : wr.cell? ⟨w.heap.size, 0, none⟩ = some (.slice Aa al.length ca) := by rw [cell_of_row _ _ 0 _ 64 (0, 0) hbx]; rfl
 have HM1 := Lib.hid hm1; have HB1 := Lib.hid hB1; have HV1 := Lib.hid hv1; have HAV := Lib.hid hav; have HOA := Lib.hid hoa; clear hm1 hB1 hv1 hav hoa
 have hat2 : ∀ (i : Nat) (h : i < e.word.size), e.word[i].toNat = at_ e.word i := fun i h => (at_get h).symm
 refine wp_skip ?_
 refine nx (hK12 _ _ ?_)
 refine Fact.sq fun K14 hK14 => ?_
 refine wp_block ?_
 refine Fact.seq_meet (fun fr wq => Fact.Fr 143 fr ∧ fr.tmps[0]? = some (.pointer (some ⟨g, 0, none⟩)) ∧ fr.tmps[1]? = some (.slice (some ⟨b, off, none⟩) es.length cc) ∧ fr.tmps[2]? = some (.int .i64 d) ∧ fr.tmps[3]? = some (.int .u64 le) ∧ fr.tmps[9]? = some (.pointer (some ⟨w.heap.size, 0, none⟩)) ∧ fr.tmps[11]? = some (.int .i64 i) ∧ Below wr.heap.size wr wq ∧ d < e.word.size ∧ (sx, al).2.getLast?.map Arc.byte ≠ some (at_ e.word d)) ?_ ?_
 · (
 by_cases hsz : e.word.size = d
 · (
 have q1 : (((e.word.size : Nat) : Int) == ((d : Nat) : Int)) = true := by simp; omega
 have hnx : refX f ss (es.map wvE) d le (i + 1) = (sx, al) := by rw [HRX.out, refI_none HLI.out (by rw [show (wvE e).1.length = e.word.size from wl_length e.word]; exact hsz)]
 have HNX := Lib.hid hnx; have HSZ := Lib.hid hsz; clear hnx hsz
 refine Fact.sq fun K15 hK15 => ?_
 refine Stab.tb 143 fun hok => ?_
 refine Stab.mO 0 s1 hf hok ?_
 refine Stab.mO 1 s11 hf hok ?_
 apply Stab.tq 2 _ hf hok
 · (
 intro fr1 w1 hh hd hk K Z
 have s44 := Stab.v 0 1 hd hk []
 have s45 := Stab.v 1 0 hd hk []
 clear hd
 go_simp
 try rw [if_pos (by omega)]
 exact Stab.k Z)
 apply Stab.tq 3 _ hf hok
 · (
 intro fr1 w1 hh hd hk K Z
 have s46 := Stab.v 2 0 hd hk []
 clear hd
 go_simp
 exact Stab.k Z)
 apply Stab.tq 4 _ hf hok
 · (
 intro fr1 w1 hh hd hk K Z
 have s47 := Stab.v 3 0 hd hk []
 clear hd
 replace z0 := cL hh.ext z0
 replace d0 := cL hh.ext d0
 go_simp
 exact Stab.k Z)
 apply Stab.tq 5 _ hf hok
 · (
 intro fr1 w1 hh hd hk K Z
 have s48 := Stab.v 4 0 hd hk []
 clear hd
 replace z0 := cL hh.ext z0
 replace d0 := cL hh.ext d0
 go_simp
 exact Stab.k Z)
 refine Stab.mO 6 s2 hf hok ?_
 apply Stab.tq 7 _ hf hok
 · (
 intro fr1 w1 hh hd hk K Z
 have s49 := Stab.v 5 1 hd hk []
 have s50 := Stab.v 6 0 hd hk []
 clear hd
 go_simp
 exact Stab.k Z)
 refine Stab.mN 8 7 0 hf hok [] ?_
 apply Stab.tr 9 _ hf hok
 · (
 intro fr1 w1 hh hd hk K Z
 have s52 := Stab.v 8 0 hd hk []
 refine Stab.sk s52 ?_
 exact Stab.k Z)
 apply Stab.tr 10 _ hf hok
 · (
 intro fr1 w1 hh hd hk K Z
 have s52 := Stab.v 8 1 hd hk []
 refine Stab.sk s52 ?_
 exact Stab.k Z)
 apply Stab.tr 11 _ hf hok
 · (
 intro fr1 w1 hh hd hk K Z
 have s52 := Stab.v 8 2 hd hk []
 refine Stab.sk s52 ?_
 exact Stab.k Z)
 apply Stab.tr 12 _ hf hok
 · (
 intro fr1 w1 hh hd hk K Z
 have s52 := Stab.v 8 3 hd hk []
 refine Stab.sk s52 ?_
 exact Stab.k Z)
 apply Stab.tr 13 _ hf hok
 · (
 intro fr1 w1 hh hd hk K Z
 have s52 := Stab.v 8 4 hd hk []
 refine Stab.sk s52 ?_
 exact Stab.k Z)
 apply Stab.tr 14 _ hf hok
 · (
 intro fr1 w1 hh hd hk K Z
 have s57 := Stab.v 13 0 hd hk []
 refine Stab.su s57 ?_
 exact Stab.k Z)
 apply Stab.tr 15 _ hf hok
 · (
 intro fr1 w1 hh hd hk K Z
 have s57 := Stab.v 13 1 hd hk []
 refine Stab.su s57 ?_
 exact Stab.k Z)
 apply Stab.tr 16 _ hf hok
 · (
 intro fr1 w1 hh hd hk K Z
 have s57 := Stab.v 13 2 hd hk []
 refine Stab.su s57 ?_
 exact Stab.k Z)
 apply Stab.tr 17 _ hf hok
 · (
 intro fr1 w1 hh hd hk K Z
 have s57 := Stab.v 13 3 hd hk []
 refine Stab.su s57 ?_
 exact Stab.k Z)
 apply Stab.tr 18 _ hf hok
 · (
 intro fr1 w1 hh hd hk K Z
 have s57 := Stab.v 13 4 hd hk []
 refine Stab.su s57 ?_
 exact Stab.k Z)
 apply Stab.tr 19 _ hf hok
 · (
 intro fr1 w1 hh hd hk K Z
 have s57 := Stab.v 13 5 hd hk []
 refine Stab.su s57 ?_
 exact Stab.k Z)
 apply Stab.tr 20 _ hf hok
 · (
 intro fr1 w1 hh hd hk K Z
 have s57 := Stab.v 13 6 hd hk []
 refine Stab.su s57 ?_
 exact Stab.k Z)
 apply Stab.tr 21 _ hf hok
 · (
 intro fr1 w1 hh hd hk K Z
 have s57 := Stab.v 13 7 hd hk []
 refine Stab.su s57 ?_
 exact Stab.k Z)
 apply Stab.tr 22 _ hf hok
 · (
 intro fr1 w1 hh hd hk K Z
 have s57 := Stab.v 13 8 hd hk []
 refine Stab.su s57 ?_
 exact Stab.k Z)
 apply Stab.tr 23 _ hf hok
 · (
 intro fr1 w1 hh hd hk K Z
 have s57 := Stab.v 13 9 hd hk []
 refine Stab.su s57 ?_
 exact Stab.k Z)
 apply Stab.tr 24 _ hf hok
 · (
 intro fr1 w1 hh hd hk K Z
 have s57 := Stab.v 13 10 hd hk []
 refine Stab.su s57 ?_
 exact Stab.k Z)
 apply Stab.tr 25 _ hf hok
 · (
 intro fr1 w1 hh hd hk K Z
 have s57 := Stab.v 13 11 hd hk []
 refine Stab.su s57 ?_
 exact Stab.k Z)
 apply Stab.tr 26 _ hf hok
 · (
 intro fr1 w1 hh hd hk K Z
 have s57 := Stab.v 13 12 hd hk []
 refine Stab.su s57 ?_
 exact Stab.k Z)
 apply Stab.tr 27 _ hf hok
 · (
 intro fr1 w1 hh hd hk K Z
 have s57 := Stab.v 13 13 hd hk []
 refine Stab.su s57 ?_
 exact Stab.k Z)
 apply Stab.tr 28 _ hf hok
 · (
 intro fr1 w1 hh hd hk K Z
 have s57 := Stab.v 13 14 hd hk []
 refine Stab.su s57 ?_
 exact Stab.k Z)
 apply Stab.tr 29 _ hf hok
 · (
 intro fr1 w1 hh hd hk K Z
 have s57 := Stab.v 13 15 hd hk []
 refine Stab.su s57 ?_
 exact Stab.k Z)
 apply Stab.tr 30 _ hf hok
 · (
 intro fr1 w1 hh hd hk K Z
 have s57 := Stab.v 13 16 hd hk []
 refine Stab.su s57 ?_
 exact Stab.k Z)
 apply Stab.tr 31 _ hf hok
 · (
 intro fr1 w1 hh hd hk K Z
 have s52 := Stab.v 8 22 hd hk []
 refine Stab.sk s52 ?_
 exact Stab.k Z)
 apply Stab.tq 32 _ hf hok
 · (
 intro fr1 w1 hh hd hk K Z
 have s52 := Stab.v 8 23 hd hk []
 have s75 := Stab.v 31 0 hd hk []
 clear hd
 go_simp
 exact Stab.k Z)
 refine Stab.tf hf hok fun fr1 w1 hh hg => ?_
 replace s0 := Stab.O hh s0
 replace s1 := Stab.O hh s1
 replace s2 := Stab.O hh s2
 replace s3 := Stab.O hh s3
 replace s9 := Stab.O hh s9
 replace s11 := Stab.O hh s11
 have s76 := Stab.f 32 0 hg
 have hf1 := hh.fr hf
 have hx := hh.ext
 replace z0 := cL hx z0
 replace d0 := cL hx d0
 clear hg hh hf hok s41
 have hf := hf1; clear hf1
 refine nx (hK15 _ _ ?_)
 refine Fact.cond_t s76 ?_
 have hlp := hlp0.later hx
 have hbtz := hbt.trans (But.of _ hx)
 rw [← HNX.out] at hlp
 refine wp_exit ?_
 refine Fact.then_exit ?_
 refine Fact.block_exit ?_
 refine nx (hK14 _ _ ?_)
 refine rg ?_
 have b42 := hf.b 42
 have b43 := hf.b 43
 refine fp fun K Z => ?_
 go_simp
 apply Z.out; clear Z K
 refine fp fun K Z => ?_
 go_simp
 try simp (disch := omega) only [Fact.W]
 apply Z.out; clear Z K
 refine fp fun K Z => ?_
 go_simp
 apply Z.out; clear Z K
 refine Fact.z hf fun fr1 hf1 hT => ?_
 have hKp : _ ∧ _ ∧ _ ∧ _ ∧ _ ∧ _ := ⟨hT 0, hT 1, hT 2, hT 3, hT 9, hT 11⟩
 simp (decide := true) only [Fact.G, hf.size, reduceIte, s0, s1, s2, s3, s9] at hKp
 replace hf := hf1; clear hT hf1 s0 s1 s2 s3 s9 s11 s76 b42 b43
 obtain ⟨s0, s1, s2, s3, s9, s11⟩ := hKp
 refine Fact.then_normal ?_
 exact ⟨_, by have := HK.out; omega, i + 1, rfl, by omega, hf, s0, s1, s2, s3, s9, by rw [s11]; rfl, hbtz, hlp⟩)
 · (
 have q1 : (((e.word.size : Nat) : Int) == ((d : Nat) : Int)) = false := by simp; omega
 have hds : d < e.word.size := by omega
 clear hsz
 have hwb : (wvE e).1[d]? = some (at_ e.word d) := wl_at hds
 have HWB := Lib.hid hwb; clear hwb
 rcases Nat.eq_zero_or_pos al.length with h0 | h0
 · (
 have q2 : decide (0 < al.length) = false := decide_eq_false (by omega)
 have hnl : (sx, al).2.getLast?.map Arc.byte ≠ some (at_ e.word d) := by obtain rfl : al = [] := List.eq_nil_of_length_eq_zero h0; simp
 have HNL := Lib.hid hnl; clear hnl
 have H0 := Lib.hid h0; clear h0
 refine Fact.sq fun K16 hK16 => ?_
 refine Stab.tb 143 fun hok => ?_
 refine Stab.mO 0 s1 hf hok ?_
 refine Stab.mO 1 s11 hf hok ?_
 apply Stab.tq 2 _ hf hok
 · (
 intro fr1 w1 hh hd hk K Z
 have s44 := Stab.v 0 1 hd hk []
 have s45 := Stab.v 1 0 hd hk []
 clear hd
 go_simp
 try rw [if_pos (by omega)]
 exact Stab.k Z)
 apply Stab.tq 3 _ hf hok
 · (
 intro fr1 w1 hh hd hk K Z
 have s46 := Stab.v 2 0 hd hk []
 clear hd
 go_simp
 exact Stab.k Z)
 apply Stab.tq 4 _ hf hok
 · (
 intro fr1 w1 hh hd hk K Z
 have s47 := Stab.v 3 0 hd hk []
 clear hd
 replace z0 := cL hh.ext z0
 replace d0 := cL hh.ext d0
 go_simp
 exact Stab.k Z)
 apply Stab.tq 5 _ hf hok
 · (
 intro fr1 w1 hh hd hk K Z
 have s48 := Stab.v 4 0 hd hk []
 clear hd
 replace z0 := cL hh.ext z0
 replace d0 := cL hh.ext d0
 go_simp
 exact Stab.k Z)
 refine Stab.mO 6 s2 hf hok ?_
 apply Stab.tq 7 _ hf hok
 · (
 intro fr1 w1 hh hd hk K Z
 have s49 := Stab.v 5 1 hd hk []
 have s50 := Stab.v 6 0 hd hk []
 clear hd
 go_simp
 exact Stab.k Z)
 refine Stab.mN 8 7 0 hf hok [] ?_
 apply Stab.tr 9 _ hf hok
 · (
 intro fr1 w1 hh hd hk K Z
 have s52 := Stab.v 8 0 hd hk []
 refine Stab.g s52 ?_
 have s9 := Stab.O hh s9
 clear hd
 go_simp
 exact Stab.k Z)
 apply Stab.tr 10 _ hf hok
 · (
 intro fr1 w1 hh hd hk K Z
 have s52 := Stab.v 8 1 hd hk []
 refine Stab.g s52 ?_
 have s53 := Stab.v 9 0 hd hk []
 clear hd
 replace z0 := cL hh.ext z0
 replace d0 := cL hh.ext d0
 go_simp
 exact Stab.k Z)
 apply Stab.tr 11 _ hf hok
 · (
 intro fr1 w1 hh hd hk K Z
 have s52 := Stab.v 8 2 hd hk []
 refine Stab.g s52 ?_
 have s54 := Stab.v 10 0 hd hk []
 clear hd
 replace z0 := cL hh.ext z0
 replace d0 := cL hh.ext d0
 go_simp
 exact Stab.k Z)
 apply Stab.tr 12 _ hf hok
 · (
 intro fr1 w1 hh hd hk K Z
 have s52 := Stab.v 8 3 hd hk []
 refine Stab.g s52 ?_
 have s55 := Stab.v 11 0 hd hk []
 clear hd
 go_simp
 exact Stab.k Z)
 apply Stab.tr 13 _ hf hok
 · (
 intro fr1 w1 hh hd hk K Z
 have s52 := Stab.v 8 4 hd hk []
 refine Stab.g s52 ?_
 have s56 := Stab.v 12 0 hd hk []
 clear hd
 go_simp
 exact Stab.k Z)
 apply Stab.tr 14 _ hf hok
 · (
 intro fr1 w1 hh hd hk K Z
 have s57 := Stab.v 13 0 hd hk []
 refine Stab.sk s57 ?_
 exact Stab.k Z)
 apply Stab.tr 15 _ hf hok
 · (
 intro fr1 w1 hh hd hk K Z
 have s57 := Stab.v 13 1 hd hk []
 refine Stab.sk s57 ?_
 exact Stab.k Z)
 apply Stab.tr 16 _ hf hok
 · (
 intro fr1 w1 hh hd hk K Z
 have s57 := Stab.v 13 2 hd hk []
 refine Stab.sk s57 ?_
 exact Stab.k Z)
 apply Stab.tr 17 _ hf hok
 · (
 intro fr1 w1 hh hd hk K Z
 have s57 := Stab.v 13 3 hd hk []
 refine Stab.sk s57 ?_
 exact Stab.k Z)
 apply Stab.tr 18 _ hf hok
 · (
 intro fr1 w1 hh hd hk K Z
 have s57 := Stab.v 13 4 hd hk []
 refine Stab.sk s57 ?_
 exact Stab.k Z)
 apply Stab.tr 19 _ hf hok
 · (
 intro fr1 w1 hh hd hk K Z
 have s57 := Stab.v 13 5 hd hk []
 refine Stab.sk s57 ?_
 exact Stab.k Z)
 apply Stab.tr 20 _ hf hok
 · (
 intro fr1 w1 hh hd hk K Z
 have s57 := Stab.v 13 6 hd hk []
 refine Stab.sk s57 ?_
 exact Stab.k Z)
 apply Stab.tr 21 _ hf hok
 · (
 intro fr1 w1 hh hd hk K Z
 have s57 := Stab.v 13 7 hd hk []
 refine Stab.sk s57 ?_
 exact Stab.k Z)
 apply Stab.tr 22 _ hf hok
 · (
 intro fr1 w1 hh hd hk K Z
 have s57 := Stab.v 13 8 hd hk []
 refine Stab.sk s57 ?_
 exact Stab.k Z)
 apply Stab.tr 23 _ hf hok
 · (
 intro fr1 w1 hh hd hk K Z
 have s57 := Stab.v 13 9 hd hk []
 refine Stab.sk s57 ?_
 exact Stab.k Z)
 apply Stab.tr 24 _ hf hok
 · (
 intro fr1 w1 hh hd hk K Z
 have s57 := Stab.v 13 10 hd hk []
 refine Stab.sk s57 ?_
 exact Stab.k Z)
 apply Stab.tr 25 _ hf hok
 · (
 intro fr1 w1 hh hd hk K Z
 have s57 := Stab.v 13 11 hd hk []
 refine Stab.sk s57 ?_
 exact Stab.k Z)
 apply Stab.tr 26 _ hf hok
 · (
 intro fr1 w1 hh hd hk K Z
 have s57 := Stab.v 13 12 hd hk []
 refine Stab.sk s57 ?_
 exact Stab.k Z)
 apply Stab.tr 27 _ hf hok
 · (
 intro fr1 w1 hh hd hk K Z
 have s57 := Stab.v 13 13 hd hk []
 refine Stab.sk s57 ?_
 exact Stab.k Z)
 apply Stab.tr 28 _ hf hok
 · (
 intro fr1 w1 hh hd hk K Z
 have s57 := Stab.v 13 14 hd hk []
 refine Stab.sk s57 ?_
 exact Stab.k Z)
 apply Stab.tr 29 _ hf hok
 · (
 intro fr1 w1 hh hd hk K Z
 have s57 := Stab.v 13 15 hd hk []
 refine Stab.sk s57 ?_
 exact Stab.k Z)
 apply Stab.tr 30 _ hf hok
 · (
 intro fr1 w1 hh hd hk K Z
 have s57 := Stab.v 13 16 hd hk []
 refine Stab.sk s57 ?_
 exact Stab.k Z)
 apply Stab.tr 31 _ hf hok
 · (
 intro fr1 w1 hh hd hk K Z
 have s52 := Stab.v 8 22 hd hk []
 refine Stab.g s52 ?_
 have s57 := Stab.v 13 17 hd hk []
 have s74 := Stab.v 30 0 hd hk []
 clear hd
 go_simp
 exact Stab.k Z)
 apply Stab.tq 32 _ hf hok
 · (
 intro fr1 w1 hh hd hk K Z
 have s52 := Stab.v 8 23 hd hk []
 have s75 := Stab.v 31 0 hd hk []
 clear hd
 go_simp
 exact Stab.k Z)
 refine Stab.tf hf hok fun fr1 w1 hh hg => ?_
 replace s0 := Stab.O hh s0
 replace s1 := Stab.O hh s1
 replace s2 := Stab.O hh s2
 replace s3 := Stab.O hh s3
 replace s9 := Stab.O hh s9
 replace s11 := Stab.O hh s11
 have s76 := Stab.f 32 0 hg
 have hf1 := hh.fr hf
 have hx := hh.ext
 replace z0 := cL hx z0
 replace d0 := cL hx d0
 clear hg hh hf hok s41
 have hf := hf1; clear hf1
 refine nx (hK16 _ _ ?_)
 refine Fact.cond_f s76 ?_
 refine wp_skip ?_
 refine Fact.then_normal ?_
 exact ⟨hf, s0, s1, s2, s3, s9, s11, hx, hds, HNL.out⟩)
 · (
 have q2 : decide (0 < al.length) = true := decide_eq_true (by omega)
 obtain ⟨la, hla⟩ : ∃ a, al[al.length - 1]? = some a := ⟨_, List.getElem?_eq_getElem (by omega)⟩
 obtain ⟨b3, off3, rfl, hb3, e0, -, -⟩ := hra.at' hla
 have hlb : (sx, al).2.getLast?.map Arc.byte = some la.byte := by show al.getLast?.map Arc.byte = _; rw [List.getLast?_eq_getElem?, hla]; rfl
 have HLB := Lib.hid hlb; clear hlb hla
 have HN1 := Lib.hid (show (al.length : Int) - 1 = ((al.length - 1 : Nat) : Int) by omega)
 by_cases hsame : la.byte = at_ e.word d
 · (
 have q3 : (((la.byte : Nat) : Int) == ((at_ e.word d : Nat) : Int)) = true := by simp; omega
 have hnx : refX f ss (es.map wvE) d le (i + 1) = (sx, al) := by rw [HRX.out, refI_same HLI.out HWB.out (by rw [HLB.out, hsame])]
 have HNX := Lib.hid hnx; have HSM := Lib.hid hsame; clear hnx hsame
 refine Fact.sq fun K17 hK17 => ?_
 refine Stab.tb 143 fun hok => ?_
 refine Stab.mO 0 s1 hf hok ?_
 refine Stab.mO 1 s11 hf hok ?_
 apply Stab.tq 2 _ hf hok
 · (
 intro fr1 w1 hh hd hk K Z
 have s44 := Stab.v 0 1 hd hk []
 have s45 := Stab.v 1 0 hd hk []
 clear hd
 go_simp
 try rw [if_pos (by omega)]
 exact Stab.k Z)
 apply Stab.tq 3 _ hf hok
 · (
 intro fr1 w1 hh hd hk K Z
 have s46 := Stab.v 2 0 hd hk []
 clear hd
 go_simp
 exact Stab.k Z)
 apply Stab.tq 4 _ hf hok
 · (
 intro fr1 w1 hh hd hk K Z
 have s47 := Stab.v 3 0 hd hk []
 clear hd
 replace z0 := cL hh.ext z0
 replace d0 := cL hh.ext d0
 replace e0 := cL hh.ext e0
 go_simp
 exact Stab.k Z)
 apply Stab.tq 5 _ hf hok
 · (
 intro fr1 w1 hh hd hk K Z
 have s48 := Stab.v 4 0 hd hk []
 clear hd
 replace z0 := cL hh.ext z0
 replace d0 := cL hh.ext d0
 replace e0 := cL hh.ext e0
 go_simp
 exact Stab.k Z)
 refine Stab.mO 6 s2 hf hok ?_
 apply Stab.tq 7 _ hf hok
 · (
 intro fr1 w1 hh hd hk K Z
 have s49 := Stab.v 5 1 hd hk []
 have s50 := Stab.v 6 0 hd hk []
 clear hd
 go_simp
 exact Stab.k Z)
 refine Stab.mN 8 7 0 hf hok [] ?_
 apply Stab.tr 9 _ hf hok
 · (
 intro fr1 w1 hh hd hk K Z
 have s52 := Stab.v 8 0 hd hk []
 refine Stab.g s52 ?_
 have s9 := Stab.O hh s9
 clear hd
 go_simp
 exact Stab.k Z)
 apply Stab.tr 10 _ hf hok
 · (
 intro fr1 w1 hh hd hk K Z
 have s52 := Stab.v 8 1 hd hk []
 refine Stab.g s52 ?_
 have s53 := Stab.v 9 0 hd hk []
 clear hd
 replace z0 := cL hh.ext z0
 replace d0 := cL hh.ext d0
 replace e0 := cL hh.ext e0
 go_simp
 exact Stab.k Z)
 apply Stab.tr 11 _ hf hok
 · (
 intro fr1 w1 hh hd hk K Z
 have s52 := Stab.v 8 2 hd hk []
 refine Stab.g s52 ?_
 have s54 := Stab.v 10 0 hd hk []
 clear hd
 replace z0 := cL hh.ext z0
 replace d0 := cL hh.ext d0
 replace e0 := cL hh.ext e0
 go_simp
 exact Stab.k Z)
 apply Stab.tr 12 _ hf hok
 · (
 intro fr1 w1 hh hd hk K Z
 have s52 := Stab.v 8 3 hd hk []
 refine Stab.g s52 ?_
 have s55 := Stab.v 11 0 hd hk []
 clear hd
 go_simp
 exact Stab.k Z)
 apply Stab.tr 13 _ hf hok
 · (
 intro fr1 w1 hh hd hk K Z
 have s52 := Stab.v 8 4 hd hk []
 refine Stab.g s52 ?_
 have s56 := Stab.v 12 0 hd hk []
 clear hd
 go_simp
 exact Stab.k Z)
 apply Stab.tr 14 _ hf hok
 · (
 intro fr1 w1 hh hd hk K Z
 have s57 := Stab.v 13 0 hd hk []
 refine Stab.g s57 ?_
 have s9 := Stab.O hh s9
 clear hd
 go_simp
 exact Stab.k Z)
 apply Stab.tr 15 _ hf hok
 · (
 intro fr1 w1 hh hd hk K Z
 have s57 := Stab.v 13 1 hd hk []
 refine Stab.g s57 ?_
 have s58 := Stab.v 14 0 hd hk []
 clear hd
 replace z0 := cL hh.ext z0
 replace d0 := cL hh.ext d0
 replace e0 := cL hh.ext e0
 go_simp
 exact Stab.k Z)
 apply Stab.tr 16 _ hf hok
 · (
 intro fr1 w1 hh hd hk K Z
 have s57 := Stab.v 13 2 hd hk []
 refine Stab.g s57 ?_
 have s9 := Stab.O hh s9
 clear hd
 go_simp
 exact Stab.k Z)
 apply Stab.tr 17 _ hf hok
 · (
 intro fr1 w1 hh hd hk K Z
 have s57 := Stab.v 13 3 hd hk []
 refine Stab.g s57 ?_
 have s60 := Stab.v 16 0 hd hk []
 clear hd
 replace z0 := cL hh.ext z0
 replace d0 := cL hh.ext d0
 replace e0 := cL hh.ext e0
 go_simp
 exact Stab.k Z)
 apply Stab.tr 18 _ hf hok
 · (
 intro fr1 w1 hh hd hk K Z
 have s57 := Stab.v 13 4 hd hk []
 refine Stab.g s57 ?_
 have s61 := Stab.v 17 0 hd hk []
 clear hd
 replace z0 := cL hh.ext z0
 replace d0 := cL hh.ext d0
 replace e0 := cL hh.ext e0
 go_simp
 exact Stab.k Z)
 apply Stab.tr 19 _ hf hok
 · (
 intro fr1 w1 hh hd hk K Z
 have s57 := Stab.v 13 5 hd hk []
 refine Stab.g s57 ?_
 have s62 := Stab.v 18 0 hd hk []
 clear hd
 go_simp
 try simp (disch := omega) only [Fact.W]
 rw [HN1.out]
 exact Stab.k Z)
 apply Stab.tr 20 _ hf hok
 · (
 intro fr1 w1 hh hd hk K Z
 have s57 := Stab.v 13 6 hd hk []
 refine Stab.g s57 ?_
 have s59 := Stab.v 15 4 hd hk []
 have s63 := Stab.v 19 0 hd hk []
 clear hd
 go_simp
 try rw [if_pos (by omega)]
 exact Stab.k Z)
 apply Stab.tr 21 _ hf hok
 · (
 intro fr1 w1 hh hd hk K Z
 have s57 := Stab.v 13 7 hd hk []
 refine Stab.g s57 ?_
 have s64 := Stab.v 20 0 hd hk []
 clear hd
 go_simp
 exact Stab.k Z)
 apply Stab.tr 22 _ hf hok
 · (
 intro fr1 w1 hh hd hk K Z
 have s57 := Stab.v 13 8 hd hk []
 refine Stab.g s57 ?_
 have s65 := Stab.v 21 0 hd hk []
 clear hd
 replace z0 := cL hh.ext z0
 replace d0 := cL hh.ext d0
 replace e0 := cL hh.ext e0
 go_simp
 exact Stab.k Z)
 apply Stab.tr 23 _ hf hok
 · (
 intro fr1 w1 hh hd hk K Z
 have s57 := Stab.v 13 9 hd hk []
 refine Stab.g s57 ?_
 have s1 := Stab.O hh s1
 clear hd
 go_simp
 exact Stab.k Z)
 apply Stab.tr 24 _ hf hok
 · (
 intro fr1 w1 hh hd hk K Z
 have s57 := Stab.v 13 10 hd hk []
 refine Stab.g s57 ?_
 have s11 := Stab.O hh s11
 clear hd
 go_simp
 exact Stab.k Z)
 apply Stab.tr 25 _ hf hok
 · (
 intro fr1 w1 hh hd hk K Z
 have s57 := Stab.v 13 11 hd hk []
 refine Stab.g s57 ?_
 have s67 := Stab.v 23 1 hd hk []
 have s68 := Stab.v 24 0 hd hk []
 clear hd
 go_simp
 try rw [if_pos (by omega)]
 exact Stab.k Z)
 apply Stab.tr 26 _ hf hok
 · (
 intro fr1 w1 hh hd hk K Z
 have s57 := Stab.v 13 12 hd hk []
 refine Stab.g s57 ?_
 have s69 := Stab.v 25 0 hd hk []
 clear hd
 go_simp
 exact Stab.k Z)
 apply Stab.tr 27 _ hf hok
 · (
 intro fr1 w1 hh hd hk K Z
 have s57 := Stab.v 13 13 hd hk []
 refine Stab.g s57 ?_
 have s70 := Stab.v 26 0 hd hk []
 clear hd
 replace z0 := cL hh.ext z0
 replace d0 := cL hh.ext d0
 replace e0 := cL hh.ext e0
 go_simp
 exact Stab.k Z)
 apply Stab.tr 28 _ hf hok
 · (
 intro fr1 w1 hh hd hk K Z
 have s57 := Stab.v 13 14 hd hk []
 refine Stab.g s57 ?_
 have s2 := Stab.O hh s2
 clear hd
 go_simp
 exact Stab.k Z)
 apply Stab.tr 29 _ hf hok
 · (
 intro fr1 w1 hh hd hk K Z
 have s57 := Stab.v 13 15 hd hk []
 refine Stab.g s57 ?_
 have s71 := Stab.v 27 1 hd hk []
 have s72 := Stab.v 28 0 hd hk []
 clear hd
 replace z0 := cL hh.ext z0
 replace d0 := cL hh.ext d0
 replace e0 := cL hh.ext e0
 go_simp
 exact Stab.k Z)
 apply Stab.tr 30 _ hf hok
 · (
 intro fr1 w1 hh hd hk K Z
 have s57 := Stab.v 13 16 hd hk []
 refine Stab.g s57 ?_
 have s66 := Stab.v 22 7 hd hk []
 have s73 := Stab.v 29 0 hd hk []
 clear hd
 go_simp
 exact Stab.k Z)
 apply Stab.tr 31 _ hf hok
 · (
 intro fr1 w1 hh hd hk K Z
 have s52 := Stab.v 8 22 hd hk []
 refine Stab.g s52 ?_
 have s57 := Stab.v 13 17 hd hk []
 have s74 := Stab.v 30 0 hd hk []
 clear hd
 go_simp
 exact Stab.k Z)
 apply Stab.tq 32 _ hf hok
 · (
 intro fr1 w1 hh hd hk K Z
 have s52 := Stab.v 8 23 hd hk []
 have s75 := Stab.v 31 0 hd hk []
 clear hd
 go_simp
 exact Stab.k Z)
 refine Stab.tf hf hok fun fr1 w1 hh hg => ?_
 replace s0 := Stab.O hh s0
 replace s1 := Stab.O hh s1
 replace s2 := Stab.O hh s2
 replace s3 := Stab.O hh s3
 replace s9 := Stab.O hh s9
 replace s11 := Stab.O hh s11
 have s76 := Stab.f 32 0 hg
 have hf1 := hh.fr hf
 have hx := hh.ext
 replace z0 := cL hx z0
 replace d0 := cL hx d0
 replace e0 := cL hx e0
 clear hg hh hf hok s41
 have hf := hf1; clear hf1
 refine nx (hK17 _ _ ?_)
 refine Fact.cond_t s76 ?_
 have hlp := hlp0.later hx
 have hbtz := hbt.trans (But.of _ hx)
 rw [← HNX.out] at hlp
 refine wp_exit ?_
 refine Fact.then_exit ?_
 refine Fact.block_exit ?_
 refine nx (hK14 _ _ ?_)
 refine rg ?_
 have b42 := hf.b 42
 have b43 := hf.b 43
 refine fp fun K Z => ?_
 go_simp
 apply Z.out; clear Z K
 refine fp fun K Z => ?_
 go_simp
 try simp (disch := omega) only [Fact.W]
 apply Z.out; clear Z K
 refine fp fun K Z => ?_
 go_simp
 apply Z.out; clear Z K
 refine Fact.z hf fun fr1 hf1 hT => ?_
 have hKp : _ ∧ _ ∧ _ ∧ _ ∧ _ ∧ _ := ⟨hT 0, hT 1, hT 2, hT 3, hT 9, hT 11⟩
 simp (decide := true) only [Fact.G, hf.size, reduceIte, s0, s1, s2, s3, s9] at hKp
 replace hf := hf1; clear hT hf1 s0 s1 s2 s3 s9 s11 s76 b42 b43
 obtain ⟨s0, s1, s2, s3, s9, s11⟩ := hKp
 refine Fact.then_normal ?_
 exact ⟨_, by have := HK.out; omega, i + 1, rfl, by omega, hf, s0, s1, s2, s3, s9, by rw [s11]; rfl, hbtz, hlp⟩)
 · (
 have q3 : (((la.byte : Nat) : Int) == ((at_ e.word d : Nat) : Int)) = false := by simp; omega
 have hnl : (sx, al).2.getLast?.map Arc.byte ≠ some (at_ e.word d) := by rw [HLB.out]; simp; exact hsame
 have HNL := Lib.hid hnl; have HSM := Lib.hid hsame; clear hnl hsame
 refine Fact.sq fun K18 hK18 => ?_
 refine Stab.tb 143 fun hok => ?_
 refine Stab.mO 0 s1 hf hok ?_
 refine Stab.mO 1 s11 hf hok ?_
 apply Stab.tq 2 _ hf hok
 · (
 intro fr1 w1 hh hd hk K Z
 have s44 := Stab.v 0 1 hd hk []
 have s45 := Stab.v 1 0 hd hk []
 clear hd
 go_simp
 try rw [if_pos (by omega)]
 exact Stab.k Z)
 apply Stab.tq 3 _ hf hok
 · (
 intro fr1 w1 hh hd hk K Z
 have s46 := Stab.v 2 0 hd hk []
 clear hd
 go_simp
 exact Stab.k Z)
 apply Stab.tq 4 _ hf hok
 · (
 intro fr1 w1 hh hd hk K Z
 have s47 := Stab.v 3 0 hd hk []
 clear hd
 replace z0 := cL hh.ext z0
 replace d0 := cL hh.ext d0
 replace e0 := cL hh.ext e0
 go_simp
 exact Stab.k Z)
 apply Stab.tq 5 _ hf hok
 · (
 intro fr1 w1 hh hd hk K Z
 have s48 := Stab.v 4 0 hd hk []
 clear hd
 replace z0 := cL hh.ext z0
 replace d0 := cL hh.ext d0
 replace e0 := cL hh.ext e0
 go_simp
 exact Stab.k Z)
 refine Stab.mO 6 s2 hf hok ?_
 apply Stab.tq 7 _ hf hok
 · (
 intro fr1 w1 hh hd hk K Z
 have s49 := Stab.v 5 1 hd hk []
 have s50 := Stab.v 6 0 hd hk []
 clear hd
 go_simp
 exact Stab.k Z)
 refine Stab.mN 8 7 0 hf hok [] ?_
 apply Stab.tr 9 _ hf hok
 · (
 intro fr1 w1 hh hd hk K Z
 have s52 := Stab.v 8 0 hd hk []
 refine Stab.g s52 ?_
 have s9 := Stab.O hh s9
 clear hd
 go_simp
 exact Stab.k Z)
 apply Stab.tr 10 _ hf hok
 · (
 intro fr1 w1 hh hd hk K Z
 have s52 := Stab.v 8 1 hd hk []
 refine Stab.g s52 ?_
 have s53 := Stab.v 9 0 hd hk []
 clear hd
 replace z0 := cL hh.ext z0
 replace d0 := cL hh.ext d0
 replace e0 := cL hh.ext e0
 go_simp
 exact Stab.k Z)
 apply Stab.tr 11 _ hf hok
 · (
 intro fr1 w1 hh hd hk K Z
 have s52 := Stab.v 8 2 hd hk []
 refine Stab.g s52 ?_
 have s54 := Stab.v 10 0 hd hk []
 clear hd
 replace z0 := cL hh.ext z0
 replace d0 := cL hh.ext d0
 replace e0 := cL hh.ext e0
 go_simp
 exact Stab.k Z)
 apply Stab.tr 12 _ hf hok
 · (
 intro fr1 w1 hh hd hk K Z
 have s52 := Stab.v 8 3 hd hk []
 refine Stab.g s52 ?_
 have s55 := Stab.v 11 0 hd hk []
 clear hd
 go_simp
 exact Stab.k Z)
 apply Stab.tr 13 _ hf hok
 · (
 intro fr1 w1 hh hd hk K Z
 have s52 := Stab.v 8 4 hd hk []
 refine Stab.g s52 ?_
 have s56 := Stab.v 12 0 hd hk []
 clear hd
 go_simp
 exact Stab.k Z)
 apply Stab.tr 14 _ hf hok
 · (
 intro fr1 w1 hh hd hk K Z
 have s57 := Stab.v 13 0 hd hk []
 refine Stab.g s57 ?_
 have s9 := Stab.O hh s9
 clear hd
 go_simp
 exact Stab.k Z)
 apply Stab.tr 15 _ hf hok
 · (
 intro fr1 w1 hh hd hk K Z
 have s57 := Stab.v 13 1 hd hk []
 refine Stab.g s57 ?_
 have s58 := Stab.v 14 0 hd hk []
 clear hd
 replace z0 := cL hh.ext z0
 replace d0 := cL hh.ext d0
 replace e0 := cL hh.ext e0
 go_simp
 exact Stab.k Z)
 apply Stab.tr 16 _ hf hok
 · (
 intro fr1 w1 hh hd hk K Z
 have s57 := Stab.v 13 2 hd hk []
 refine Stab.g s57 ?_
 have s9 := Stab.O hh s9
 clear hd
 go_simp
 exact Stab.k Z)
 apply Stab.tr 17 _ hf hok
 · (
 intro fr1 w1 hh hd hk K Z
 have s57 := Stab.v 13 3 hd hk []
 refine Stab.g s57 ?_
 have s60 := Stab.v 16 0 hd hk []
 clear hd
 replace z0 := cL hh.ext z0
 replace d0 := cL hh.ext d0
 replace e0 := cL hh.ext e0
 go_simp
 exact Stab.k Z)
 apply Stab.tr 18 _ hf hok
 · (
 intro fr1 w1 hh hd hk K Z
 have s57 := Stab.v 13 4 hd hk []
 refine Stab.g s57 ?_
 have s61 := Stab.v 17 0 hd hk []
 clear hd
 replace z0 := cL hh.ext z0
 replace d0 := cL hh.ext d0
 replace e0 := cL hh.ext e0
 go_simp
 exact Stab.k Z)
 apply Stab.tr 19 _ hf hok
 · (
 intro fr1 w1 hh hd hk K Z
 have s57 := Stab.v 13 5 hd hk []
 refine Stab.g s57 ?_
 have s62 := Stab.v 18 0 hd hk []
 clear hd
 go_simp
 try simp (disch := omega) only [Fact.W]
 rw [HN1.out]
 exact Stab.k Z)
 apply Stab.tr 20 _ hf hok
 · (
 intro fr1 w1 hh hd hk K Z
 have s57 := Stab.v 13 6 hd hk []
 refine Stab.g s57 ?_
 have s59 := Stab.v 15 4 hd hk []
 have s63 := Stab.v 19 0 hd hk []
 clear hd
 go_simp
 try rw [if_pos (by omega)]
 exact Stab.k Z)
 apply Stab.tr 21 _ hf hok
 · (
 intro fr1 w1 hh hd hk K Z
 have s57 := Stab.v 13 7 hd hk []
 refine Stab.g s57 ?_
 have s64 := Stab.v 20 0 hd hk []
 clear hd
 go_simp
 exact Stab.k Z)
 apply Stab.tr 22 _ hf hok
 · (
 intro fr1 w1 hh hd hk K Z
 have s57 := Stab.v 13 8 hd hk []
 refine Stab.g s57 ?_
 have s65 := Stab.v 21 0 hd hk []
 clear hd
 replace z0 := cL hh.ext z0
 replace d0 := cL hh.ext d0
 replace e0 := cL hh.ext e0
 go_simp
 exact Stab.k Z)
 apply Stab.tr 23 _ hf hok
 · (
 intro fr1 w1 hh hd hk K Z
 have s57 := Stab.v 13 9 hd hk []
 refine Stab.g s57 ?_
 have s1 := Stab.O hh s1
 clear hd
 go_simp
 exact Stab.k Z)
 apply Stab.tr 24 _ hf hok
 · (
 intro fr1 w1 hh hd hk K Z
 have s57 := Stab.v 13 10 hd hk []
 refine Stab.g s57 ?_
 have s11 := Stab.O hh s11
 clear hd
 go_simp
 exact Stab.k Z)
 apply Stab.tr 25 _ hf hok
 · (
 intro fr1 w1 hh hd hk K Z
 have s57 := Stab.v 13 11 hd hk []
 refine Stab.g s57 ?_
 have s67 := Stab.v 23 1 hd hk []
 have s68 := Stab.v 24 0 hd hk []
 clear hd
 go_simp
 try rw [if_pos (by omega)]
 exact Stab.k Z)
 apply Stab.tr 26 _ hf hok
 · (
 intro fr1 w1 hh hd hk K Z
 have s57 := Stab.v 13 12 hd hk []
 refine Stab.g s57 ?_
 have s69 := Stab.v 25 0 hd hk []
 clear hd
 go_simp
 exact Stab.k Z)
 apply Stab.tr 27 _ hf hok
 · (
 intro fr1 w1 hh hd hk K Z
 have s57 := Stab.v 13 13 hd hk []
 refine Stab.g s57 ?_
 have s70 := Stab.v 26 0 hd hk []
 clear hd
 replace z0 := cL hh.ext z0
 replace d0 := cL hh.ext d0
 replace e0 := cL hh.ext e0
 go_simp
 exact Stab.k Z)
 apply Stab.tr 28 _ hf hok
 · (
 intro fr1 w1 hh hd hk K Z
 have s57 := Stab.v 13 14 hd hk []
 refine Stab.g s57 ?_
 have s2 := Stab.O hh s2
 clear hd
 go_simp
 exact Stab.k Z)
 apply Stab.tr 29 _ hf hok
 · (
 intro fr1 w1 hh hd hk K Z
 have s57 := Stab.v 13 15 hd hk []
 refine Stab.g s57 ?_
 have s71 := Stab.v 27 1 hd hk []
 have s72 := Stab.v 28 0 hd hk []
 clear hd
 replace z0 := cL hh.ext z0
 replace d0 := cL hh.ext d0
 replace e0 := cL hh.ext e0
 go_simp
 exact Stab.k Z)
 apply Stab.tr 30 _ hf hok
 · (
 intro fr1 w1 hh hd hk K Z
 have s57 := Stab.v 13 16 hd hk []
 refine Stab.g s57 ?_
 have s66 := Stab.v 22 7 hd hk []
 have s73 := Stab.v 29 0 hd hk []
 clear hd
 go_simp
 exact Stab.k Z)
 apply Stab.tr 31 _ hf hok
 · (
 intro fr1 w1 hh hd hk K Z
 have s52 := Stab.v 8 22 hd hk []
 refine Stab.g s52 ?_
 have s57 := Stab.v 13 17 hd hk []
 have s74 := Stab.v 30 0 hd hk []
 clear hd
 go_simp
 exact Stab.k Z)
 apply Stab.tq 32 _ hf hok
 · (
 intro fr1 w1 hh hd hk K Z
 have s52 := Stab.v 8 23 hd hk []
 have s75 := Stab.v 31 0 hd hk []
 clear hd
 go_simp
 exact Stab.k Z)
 refine Stab.tf hf hok fun fr1 w1 hh hg => ?_
 replace s0 := Stab.O hh s0
 replace s1 := Stab.O hh s1
 replace s2 := Stab.O hh s2
 replace s3 := Stab.O hh s3
 replace s9 := Stab.O hh s9
 replace s11 := Stab.O hh s11
 have s76 := Stab.f 32 0 hg
 have hf1 := hh.fr hf
 have hx := hh.ext
 replace z0 := cL hx z0
 replace d0 := cL hx d0
 replace e0 := cL hx e0
 clear hg hh hf hok s41
 have hf := hf1; clear hf1
 refine nx (hK18 _ _ ?_)
 refine Fact.cond_f s76 ?_
 refine wp_skip ?_
 refine Fact.then_normal ?_
 exact ⟨hf, s0, s1, s2, s3, s9, s11, hx, hds, HNL.out⟩))))
 · (
 clear hf s0 s1 s2 s3 s9 s11 s41
 rintro fr w1 ⟨hf, s0, s1, s2, s3, s9, s11, hx, hds, hnl⟩
 have HNL := Lib.hid hnl; clear hnl
 have hwb : (wvE e).1[d]? = some (at_ e.word d) := wl_at hds
 have HWB := Lib.hid hwb; clear hwb
 replace z0 := cL hx z0; replace d0 := cL hx d0
 obtain ⟨Wn, rfl⟩ : ∃ x, x = w1 := ⟨_, rfl⟩
 have hbtn := hbt.trans (But.of _ hx)
 have hrn := hrw.later hx
 have hbxn := (hx.block _ (heap_lt hbx)).trans hbx
 have HMN := Lib.hid (HM1.out.later hx)
 have hoan := own_later HOA.out hx
 have HOAN := Lib.hid hoan; clear hoan
 have hszn : w.heap.size < Wn.heap.size := heap_lt hbxn
 clear hbt hrw hbx HM1 HOA hlp0 hra hx hi
 refine Fact.sq fun K19 hK19 => ?_
 refine rg ?_
 refine fp fun K Z => ?_
 go_simp
 apply Z.out; clear Z K
 refine Fact.z hf fun fr1 hf1 hT => ?_
 have hKp : _ ∧ _ ∧ _ ∧ _ ∧ _ ∧ _ ∧ _ := ⟨hT 0, hT 1, hT 2, hT 3, hT 9, hT 11, hT 12⟩
 simp (decide := true) only [Fact.G, hf.size, reduceIte, s0, s1, s2, s3, s9, s11] at hKp
 replace hf := hf1; clear hT hf1 s0 s1 s2 s3 s9 s11
 obtain ⟨s0, s1, s2, s3, s9, s11, s12⟩ := hKp
 refine nx (hK19 _ _ ?_)
 refine Fact.sq fun K20 hK20 => ?_
 refine Fact.sq fun K21 hK21 => ?_
 refine rg ?_
 have b77 := hf.b 77
 refine fp fun K Z => ?_
 go_simp
 apply Z.out; clear Z K
 refine fp fun K Z => ?_
 go_simp
 apply Z.out; clear Z K
 refine Fact.z hf fun fr1 hf1 hT => ?_
 have hKp : _ ∧ _ ∧ _ ∧ _ ∧ _ ∧ _ ∧ _ ∧ _ := ⟨hT 0, hT 1, hT 2, hT 3, hT 9, hT 11, hT 12, hT 13⟩
 simp (decide := true) only [Fact.G, hf.size, reduceIte, s0, s1, s2, s3, s9, s11, s12] at hKp
 replace hf := hf1; clear hT hf1 s0 s1 s2 s3 s9 s11 s12 b77
 obtain ⟨s0, s1, s2, s3, s9, s11, s12, s13⟩ := hKp
 refine nx (hK21 _ _ ?_)
 refine wp_block ?_
 refine wp_loop_ghost (fun gk fr wq => ∃ (j : Nat) (V : Value), gk = es.length - j ∧ i ≤ j ∧ j ≤ es.length ∧ Fact.Fr 143 fr ∧ fr.tmps[0]? = some (.pointer (some ⟨g, 0, none⟩)) ∧ fr.tmps[1]? = some (.slice (some ⟨b, off, none⟩) es.length cc) ∧ fr.tmps[2]? = some (.int .i64 d) ∧ fr.tmps[3]? = some (.int .u64 le) ∧ fr.tmps[9]? = some (.pointer (some ⟨w.heap.size, 0, none⟩)) ∧ fr.tmps[11]? = some (.int .i64 i) ∧ fr.tmps[12]? = some V ∧ fr.tmps[13]? = some (.int .i64 j) ∧ OE wq Wn.heap.size V (ownE es i d (at_ e.word d) j) ∧ Below Wn.heap.size Wn wq) (es.length - i) ?_ ?_
 · (
 exact ⟨i, _, rfl, Nat.le_refl _, Nat.le_of_lt hlt, hf, s0, s1, s2, s3, s9, s11, s12, s13, by rw [ownE_start]; exact OE.nil_ _ _, Below.refl _ _⟩)
 · (
 clear hf s0 s1 s2 s3 s9 s11 s12 s13
 rintro gk fr wq ⟨j, V, hk, hij, hj, hf, s0, s1, s2, s3, s9, s11, s12, s13, how, hb⟩
 have HKJ := Lib.hid hk; clear hk
 have hrq := (hrn.more (Nat.le_of_lt hszn)).below hb
 replace z0 := cL hb z0; replace d0 := cL hb d0
 refine Fact.sq fun K22 hK22 => ?_
 refine Fact.sq fun K23 hK23 => ?_
 refine rg ?_
 have b78 := hf.b 78
 have b79 := hf.b 79
 have b80 := hf.b 80
 refine fp fun K Z => ?_
 go_simp
 apply Z.out; clear Z K
 refine fp fun K Z => ?_
 go_simp
 apply Z.out; clear Z K
 refine fp fun K Z => ?_
 go_simp
 apply Z.out; clear Z K
 refine fp fun K Z => ?_
 go_simp
 apply Z.out; clear Z K
 refine Fact.z hf fun fr1 hf1 hT => ?_
 have hKp : _ ∧ _ ∧ _ ∧ _ ∧ _ ∧ _ ∧ _ ∧ _ ∧ _ := ⟨hT 0, hT 1, hT 2, hT 3, hT 9, hT 11, hT 12, hT 13, hT 81⟩
 simp (decide := true) only [Fact.G, hf.size, reduceIte, s0, s1, s2, s3, s9, s11, s12, s13] at hKp
 replace hf := hf1; clear hT hf1 s0 s1 s2 s3 s9 s11 s12 s13 b78 b79 b80
 obtain ⟨s0, s1, s2, s3, s9, s11, s12, s13, s81⟩ := hKp
 refine nx (hK23 _ _ ?_)
 refine Fact.cond_s s81 (fun hq => ?_) (fun hq => ?_)
 · (
 have hltj : j < es.length := by have h9 := of_decide_eq_true hq; omega
 clear hq
 obtain ⟨q, hjq⟩ : ∃ q, es[j]? = some q := ⟨_, List.getElem?_eq_getElem hltj⟩
 obtain ⟨b4, off4, he4, -, -, y0, y1, y2⟩ := hrq.at_ hjq
 injection he4 with he4
 injection he4 with he4 he5 _
 subst he4; subst he5
 have hst := ownE_step d (at_ e.word d) hjq hij
 have hwq := HWD.out q (List.mem_of_getElem? hjq)
 have hat3 : ∀ (i : Nat) (h : i < q.word.size), q.word[i].toNat = at_ q.word i := fun i h => (at_get h).symm
 have hnl := ownE_length es i d (at_ e.word d) j
 obtain ⟨xs, hxs⟩ : ∃ x, ownE es i d (at_ e.word d) j = x := ⟨_, rfl⟩
 rw [hxs] at how hst hnl
 have HXS := Lib.hid hxs; clear hxs hjq
 obtain ⟨Av, cv, rfl, hcv⟩ := OE.form (es := xs) how
 have HOW := Lib.hid how; clear how
 rcases Nat.lt_or_ge d q.word.size with hqs | hqs
 · (
 have q4 : decide (d < q.word.size) = true := decide_eq_true (by omega)
 rw [next_at hqs] at hst
 by_cases hqe : at_ q.word d = at_ e.word d
 · (
 have q5 : (((at_ q.word d : Nat) : Int) == ((at_ e.word d : Nat) : Int)) = true := by simp; omega
 rw [decide_eq_true hqe, if_pos rfl] at hst
 have HST2 := Lib.hid hst; have HQE := Lib.hid hqe; clear hst hqe
 refine wp_skip ?_
 refine nx (hK22 _ _ ?_)
 refine Fact.sq fun K24 hK24 => ?_
 refine wp_block ?_
 refine Fact.sq fun K25 hK25 => ?_
 refine Stab.tb 143 fun hok => ?_
 refine Stab.mO 0 s1 hf hok ?_
 refine Stab.mO 1 s13 hf hok ?_
 apply Stab.tq 2 _ hf hok
 · (
 intro fr1 w1 hh hd hk K Z
 have s84 := Stab.v 0 1 hd hk []
 have s85 := Stab.v 1 0 hd hk []
 clear hd
 go_simp
 try rw [if_pos (by omega)]
 exact Stab.k Z)
 apply Stab.tq 3 _ hf hok
 · (
 intro fr1 w1 hh hd hk K Z
 have s86 := Stab.v 2 0 hd hk []
 clear hd
 go_simp
 exact Stab.k Z)
 apply Stab.tq 4 _ hf hok
 · (
 intro fr1 w1 hh hd hk K Z
 have s87 := Stab.v 3 0 hd hk []
 clear hd
 replace d0 := cL hh.ext d0
 replace y0 := cL hh.ext y0
 replace y1 := cL hh.ext y1
 replace y2 := cL hh.ext y2
 go_simp
 exact Stab.k Z)
 apply Stab.tq 5 _ hf hok
 · (
 intro fr1 w1 hh hd hk K Z
 have s88 := Stab.v 4 0 hd hk []
 clear hd
 replace d0 := cL hh.ext d0
 replace y0 := cL hh.ext y0
 replace y1 := cL hh.ext y1
 replace y2 := cL hh.ext y2
 go_simp
 exact Stab.k Z)
 refine Stab.mO 6 s2 hf hok ?_
 apply Stab.tq 7 _ hf hok
 · (
 intro fr1 w1 hh hd hk K Z
 have s89 := Stab.v 5 1 hd hk []
 have s90 := Stab.v 6 0 hd hk []
 clear hd
 go_simp
 exact Stab.k Z)
 refine Stab.mN 8 7 0 hf hok [] ?_
 apply Stab.tr 9 _ hf hok
 · (
 intro fr1 w1 hh hd hk K Z
 have s92 := Stab.v 8 0 hd hk []
 refine Stab.g s92 ?_
 have s1 := Stab.O hh s1
 clear hd
 go_simp
 exact Stab.k Z)
 apply Stab.tr 10 _ hf hok
 · (
 intro fr1 w1 hh hd hk K Z
 have s92 := Stab.v 8 1 hd hk []
 refine Stab.g s92 ?_
 have s13 := Stab.O hh s13
 clear hd
 go_simp
 exact Stab.k Z)
 apply Stab.tr 11 _ hf hok
 · (
 intro fr1 w1 hh hd hk K Z
 have s92 := Stab.v 8 2 hd hk []
 refine Stab.g s92 ?_
 have s93 := Stab.v 9 1 hd hk []
 have s94 := Stab.v 10 0 hd hk []
 clear hd
 go_simp
 try rw [if_pos (by omega)]
 exact Stab.k Z)
 apply Stab.tr 12 _ hf hok
 · (
 intro fr1 w1 hh hd hk K Z
 have s92 := Stab.v 8 3 hd hk []
 refine Stab.g s92 ?_
 have s95 := Stab.v 11 0 hd hk []
 clear hd
 go_simp
 exact Stab.k Z)
 apply Stab.tr 13 _ hf hok
 · (
 intro fr1 w1 hh hd hk K Z
 have s92 := Stab.v 8 4 hd hk []
 refine Stab.g s92 ?_
 have s96 := Stab.v 12 0 hd hk []
 clear hd
 replace d0 := cL hh.ext d0
 replace y0 := cL hh.ext y0
 replace y1 := cL hh.ext y1
 replace y2 := cL hh.ext y2
 go_simp
 exact Stab.k Z)
 apply Stab.tr 14 _ hf hok
 · (
 intro fr1 w1 hh hd hk K Z
 have s92 := Stab.v 8 5 hd hk []
 refine Stab.g s92 ?_
 have s2 := Stab.O hh s2
 clear hd
 go_simp
 exact Stab.k Z)
 apply Stab.tr 15 _ hf hok
 · (
 intro fr1 w1 hh hd hk K Z
 have s92 := Stab.v 8 6 hd hk []
 refine Stab.g s92 ?_
 have s97 := Stab.v 13 1 hd hk []
 have s98 := Stab.v 14 0 hd hk []
 clear hd
 replace d0 := cL hh.ext d0
 replace y0 := cL hh.ext y0
 replace y1 := cL hh.ext y1
 replace y2 := cL hh.ext y2
 go_simp
 try rw [if_pos (by omega)]
 exact Stab.k Z)
 apply Stab.tr 16 _ hf hok
 · (
 intro fr1 w1 hh hd hk K Z
 have s92 := Stab.v 8 7 hd hk []
 refine Stab.g s92 ?_
 have s1 := Stab.O hh s1
 clear hd
 go_simp
 exact Stab.k Z)
 apply Stab.tr 17 _ hf hok
 · (
 intro fr1 w1 hh hd hk K Z
 have s92 := Stab.v 8 8 hd hk []
 refine Stab.g s92 ?_
 have s11 := Stab.O hh s11
 clear hd
 go_simp
 exact Stab.k Z)
 apply Stab.tr 18 _ hf hok
 · (
 intro fr1 w1 hh hd hk K Z
 have s92 := Stab.v 8 9 hd hk []
 refine Stab.g s92 ?_
 have s100 := Stab.v 16 1 hd hk []
 have s101 := Stab.v 17 0 hd hk []
 clear hd
 go_simp
 try rw [if_pos (by omega)]
 exact Stab.k Z)
 apply Stab.tr 19 _ hf hok
 · (
 intro fr1 w1 hh hd hk K Z
 have s92 := Stab.v 8 10 hd hk []
 refine Stab.g s92 ?_
 have s102 := Stab.v 18 0 hd hk []
 clear hd
 go_simp
 exact Stab.k Z)
 apply Stab.tr 20 _ hf hok
 · (
 intro fr1 w1 hh hd hk K Z
 have s92 := Stab.v 8 11 hd hk []
 refine Stab.g s92 ?_
 have s103 := Stab.v 19 0 hd hk []
 clear hd
 replace d0 := cL hh.ext d0
 replace y0 := cL hh.ext y0
 replace y1 := cL hh.ext y1
 replace y2 := cL hh.ext y2
 go_simp
 exact Stab.k Z)
 apply Stab.tr 21 _ hf hok
 · (
 intro fr1 w1 hh hd hk K Z
 have s92 := Stab.v 8 12 hd hk []
 refine Stab.g s92 ?_
 have s2 := Stab.O hh s2
 clear hd
 go_simp
 exact Stab.k Z)
 apply Stab.tr 22 _ hf hok
 · (
 intro fr1 w1 hh hd hk K Z
 have s92 := Stab.v 8 13 hd hk []
 refine Stab.g s92 ?_
 have s104 := Stab.v 20 1 hd hk []
 have s105 := Stab.v 21 0 hd hk []
 clear hd
 replace d0 := cL hh.ext d0
 replace y0 := cL hh.ext y0
 replace y1 := cL hh.ext y1
 replace y2 := cL hh.ext y2
 go_simp
 try rw [if_pos (by omega)]
 exact Stab.k Z)
 apply Stab.tr 23 _ hf hok
 · (
 intro fr1 w1 hh hd hk K Z
 have s92 := Stab.v 8 14 hd hk []
 refine Stab.g s92 ?_
 have s99 := Stab.v 15 7 hd hk []
 have s106 := Stab.v 22 0 hd hk []
 clear hd
 go_simp
 exact Stab.k Z)
 apply Stab.tq 24 _ hf hok
 · (
 intro fr1 w1 hh hd hk K Z
 have s92 := Stab.v 8 15 hd hk []
 have s107 := Stab.v 23 0 hd hk []
 clear hd
 go_simp
 exact Stab.k Z)
 refine Stab.tf hf hok fun fr1 w1 hh hg => ?_
 replace s0 := Stab.O hh s0
 replace s1 := Stab.O hh s1
 replace s2 := Stab.O hh s2
 replace s3 := Stab.O hh s3
 replace s9 := Stab.O hh s9
 replace s11 := Stab.O hh s11
 replace s12 := Stab.O hh s12
 replace s13 := Stab.O hh s13
 have s108 := Stab.f 24 0 hg
 have hf1 := hh.fr hf
 have hx := hh.ext
 replace d0 := cL hx d0
 replace y0 := cL hx y0
 replace y1 := cL hx y1
 replace y2 := cL hx y2
 clear hg hh hf hok s81
 have hf := hf1; clear hf1
 refine nx (hK25 _ _ ?_)
 refine Fact.cond_t s108 ?_
 have how2 := own_later HOW.out hx
 have hb2 := hb.trans (hx.mono hb.size)
 refine rg ?_
 have b109 := hf.b 109
 have b110 := hf.b 110
 have b111 := hf.b 111
 have b112 := hf.b 112
 have b113 := hf.b 113
 have b114 := hf.b 114
 have b115 := hf.b 115
 refine fp fun K Z => ?_
 go_simp
 apply Z.out; clear Z K
 refine fp fun K Z => ?_
 go_simp
 apply Z.out; clear Z K
 refine fp fun K Z => ?_
 go_simp
 apply Z.out; clear Z K
 refine fp fun K Z => ?_
 go_simp
 try rw [if_pos (by omega)]
 apply Z.out; clear Z K
 refine fp fun K Z => ?_
 go_simp
 apply Z.out; clear Z K
 refine fp fun K Z => ?_
 go_simp
 apply Z.out; clear Z K
 refine Fact.reL (n := 143) (by simp only [Fact.G, hf.size]) hf.defers (fun fr1 hf1 hT => ?_)
 have hKp : _ ∧ _ ∧ _ ∧ _ ∧ _ ∧ _ ∧ _ ∧ _ ∧ _ ∧ _ := ⟨hT 0, hT 1, hT 2, hT 3, hT 9, hT 11, hT 12, hT 13, hT 109, hT 114⟩
 simp (decide := true) only [Fact.G, hf.size, reduceIte, s0, s1, s2, s3, s9, s11, s12, s13] at hKp
 replace hf := hf1; clear hT hf1 s0 s1 s2 s3 s9 s11 s12 s13 s108 b109 b110 b111 b112 b113 b114 b115
 obtain ⟨s0, s1, s2, s3, s9, s11, s12, s13, s109, s114⟩ := hKp
 have b115 := hf.b 115
 refine ⟨?_⟩
 refine wpList_plain rfl fun K5 hK5 => ?_
 refine wp_app _ _ 93 rfl 169 _ 3 24 Tryd.underlying93 info_ent rfl (by decide) (by decide) Wn.heap.size (.slice Av xs.length cv) xs.length _ (Fact.eval_tmp s109) (how2.alloc _) w1.heap.size q.cells (Fact.eval_tmp s114) rfl (lit_new w1 _ _) (ent_one q) (by omega) (by have := hb2.size; simp; omega) (fun v5 w5 hr5 hg5 hat5 => hK5 _ _ ?_)
 refine Fact.L.out ?_
 refine fp fun K Z => ?_
 go_simp
 apply Z.out; clear Z K
 refine Fact.z hf fun fr1 hf1 hT => ?_
 have hKp : _ ∧ _ ∧ _ ∧ _ ∧ _ ∧ _ ∧ _ ∧ _ := ⟨hT 0, hT 1, hT 2, hT 3, hT 9, hT 11, hT 12, hT 13⟩
 simp (decide := true) only [Fact.G, hf.size, reduceIte, s0, s1, s2, s3, s9, s11, s13] at hKp
 replace hf := hf1; clear hT hf1 s0 s1 s2 s3 s9 s11 s12 s13 s109 s114 b115
 obtain ⟨s0, s1, s2, s3, s9, s11, s12, s13⟩ := hKp
 replace hb2 := (hb2.alloc hb2.size _).grown hg5 (by have := hb2.size; simp; omega) (fun kk hkk => (how2.lt kk hkk).1)
 have hnew : OE w5 Wn.heap.size v5 (ownE es i d (at_ e.word d) (j + 1)) := by rw [HST2.out]; unfold OE; rw [ecs_append, List.length_append]; exact hr5
 obtain ⟨V2, hV2⟩ : ∃ x, v5 = x := ⟨_, rfl⟩
 rw [hV2] at s12 hnew
 refine Fact.block_normal ?_
 refine nx (hK24 _ _ ?_)
 refine rg ?_
 have b82 := hf.b 82
 have b83 := hf.b 83
 refine fp fun K Z => ?_
 go_simp
 apply Z.out; clear Z K
 refine fp fun K Z => ?_
 go_simp
 try simp (disch := omega) only [Fact.W]
 apply Z.out; clear Z K
 refine fp fun K Z => ?_
 go_simp
 apply Z.out; clear Z K
 refine Fact.z hf fun fr1 hf1 hT => ?_
 have hKp : _ ∧ _ ∧ _ ∧ _ ∧ _ ∧ _ ∧ _ ∧ _ := ⟨hT 0, hT 1, hT 2, hT 3, hT 9, hT 11, hT 12, hT 13⟩
 simp (decide := true) only [Fact.G, hf.size, reduceIte, s0, s1, s2, s3, s9, s11, s12] at hKp
 replace hf := hf1; clear hT hf1 s0 s1 s2 s3 s9 s11 s12 s13 b82 b83
 obtain ⟨s0, s1, s2, s3, s9, s11, s12, s13⟩ := hKp
 refine Fact.then_normal ?_
 exact ⟨_, by have := HKJ.out; omega, j + 1, V2, rfl, by omega, by omega, hf, s0, s1, s2, s3, s9, s11, s12, by rw [s13]; rfl, hnew, hb2⟩)
 · (
 have q5 : (((at_ q.word d : Nat) : Int) == ((at_ e.word d : Nat) : Int)) = false := by simp; omega
 rw [decide_eq_false hqe, if_neg (by simp), List.append_nil] at hst
 have HST2 := Lib.hid hst; have HQE := Lib.hid hqe; clear hst hqe
 refine wp_skip ?_
 refine nx (hK22 _ _ ?_)
 refine Fact.sq fun K26 hK26 => ?_
 refine wp_block ?_
 refine Fact.sq fun K27 hK27 => ?_
 refine Stab.tb 143 fun hok => ?_
 refine Stab.mO 0 s1 hf hok ?_
 refine Stab.mO 1 s13 hf hok ?_
 apply Stab.tq 2 _ hf hok
 · (
 intro fr1 w1 hh hd hk K Z
 have s84 := Stab.v 0 1 hd hk []
 have s85 := Stab.v 1 0 hd hk []
 clear hd
 go_simp
 try rw [if_pos (by omega)]
 exact Stab.k Z)
 apply Stab.tq 3 _ hf hok
 · (
 intro fr1 w1 hh hd hk K Z
 have s86 := Stab.v 2 0 hd hk []
 clear hd
 go_simp
 exact Stab.k Z)
 apply Stab.tq 4 _ hf hok
 · (
 intro fr1 w1 hh hd hk K Z
 have s87 := Stab.v 3 0 hd hk []
 clear hd
 replace d0 := cL hh.ext d0
 replace y0 := cL hh.ext y0
 replace y1 := cL hh.ext y1
 replace y2 := cL hh.ext y2
 go_simp
 exact Stab.k Z)
 apply Stab.tq 5 _ hf hok
 · (
 intro fr1 w1 hh hd hk K Z
 have s88 := Stab.v 4 0 hd hk []
 clear hd
 replace d0 := cL hh.ext d0
 replace y0 := cL hh.ext y0
 replace y1 := cL hh.ext y1
 replace y2 := cL hh.ext y2
 go_simp
 exact Stab.k Z)
 refine Stab.mO 6 s2 hf hok ?_
 apply Stab.tq 7 _ hf hok
 · (
 intro fr1 w1 hh hd hk K Z
 have s89 := Stab.v 5 1 hd hk []
 have s90 := Stab.v 6 0 hd hk []
 clear hd
 go_simp
 exact Stab.k Z)
 refine Stab.mN 8 7 0 hf hok [] ?_
 apply Stab.tr 9 _ hf hok
 · (
 intro fr1 w1 hh hd hk K Z
 have s92 := Stab.v 8 0 hd hk []
 refine Stab.g s92 ?_
 have s1 := Stab.O hh s1
 clear hd
 go_simp
 exact Stab.k Z)
 apply Stab.tr 10 _ hf hok
 · (
 intro fr1 w1 hh hd hk K Z
 have s92 := Stab.v 8 1 hd hk []
 refine Stab.g s92 ?_
 have s13 := Stab.O hh s13
 clear hd
 go_simp
 exact Stab.k Z)
 apply Stab.tr 11 _ hf hok
 · (
 intro fr1 w1 hh hd hk K Z
 have s92 := Stab.v 8 2 hd hk []
 refine Stab.g s92 ?_
 have s93 := Stab.v 9 1 hd hk []
 have s94 := Stab.v 10 0 hd hk []
 clear hd
 go_simp
 try rw [if_pos (by omega)]
 exact Stab.k Z)
 apply Stab.tr 12 _ hf hok
 · (
 intro fr1 w1 hh hd hk K Z
 have s92 := Stab.v 8 3 hd hk []
 refine Stab.g s92 ?_
 have s95 := Stab.v 11 0 hd hk []
 clear hd
 go_simp
 exact Stab.k Z)
 apply Stab.tr 13 _ hf hok
 · (
 intro fr1 w1 hh hd hk K Z
 have s92 := Stab.v 8 4 hd hk []
 refine Stab.g s92 ?_
 have s96 := Stab.v 12 0 hd hk []
 clear hd
 replace d0 := cL hh.ext d0
 replace y0 := cL hh.ext y0
 replace y1 := cL hh.ext y1
 replace y2 := cL hh.ext y2
 go_simp
 exact Stab.k Z)
 apply Stab.tr 14 _ hf hok
 · (
 intro fr1 w1 hh hd hk K Z
 have s92 := Stab.v 8 5 hd hk []
 refine Stab.g s92 ?_
 have s2 := Stab.O hh s2
 clear hd
 go_simp
 exact Stab.k Z)
 apply Stab.tr 15 _ hf hok
 · (
 intro fr1 w1 hh hd hk K Z
 have s92 := Stab.v 8 6 hd hk []
 refine Stab.g s92 ?_
 have s97 := Stab.v 13 1 hd hk []
 have s98 := Stab.v 14 0 hd hk []
 clear hd
 replace d0 := cL hh.ext d0
 replace y0 := cL hh.ext y0
 replace y1 := cL hh.ext y1
 replace y2 := cL hh.ext y2
 go_simp
 try rw [if_pos (by omega)]
 exact Stab.k Z)
 apply Stab.tr 16 _ hf hok
 · (
 intro fr1 w1 hh hd hk K Z
 have s92 := Stab.v 8 7 hd hk []
 refine Stab.g s92 ?_
 have s1 := Stab.O hh s1
 clear hd
 go_simp
 exact Stab.k Z)
 apply Stab.tr 17 _ hf hok
 · (
 intro fr1 w1 hh hd hk K Z
 have s92 := Stab.v 8 8 hd hk []
 refine Stab.g s92 ?_
 have s11 := Stab.O hh s11
 clear hd
 go_simp
 exact Stab.k Z)
 apply Stab.tr 18 _ hf hok
 · (
 intro fr1 w1 hh hd hk K Z
 have s92 := Stab.v 8 9 hd hk []
 refine Stab.g s92 ?_
 have s100 := Stab.v 16 1 hd hk []
 have s101 := Stab.v 17 0 hd hk []
 clear hd
 go_simp
 try rw [if_pos (by omega)]
 exact Stab.k Z)
 apply Stab.tr 19 _ hf hok
 · (
 intro fr1 w1 hh hd hk K Z
 have s92 := Stab.v 8 10 hd hk []
 refine Stab.g s92 ?_
 have s102 := Stab.v 18 0 hd hk []
 clear hd
 go_simp
 exact Stab.k Z)
 apply Stab.tr 20 _ hf hok
 · (
 intro fr1 w1 hh hd hk K Z
 have s92 := Stab.v 8 11 hd hk []
 refine Stab.g s92 ?_
 have s103 := Stab.v 19 0 hd hk []
 clear hd
 replace d0 := cL hh.ext d0
 replace y0 := cL hh.ext y0
 replace y1 := cL hh.ext y1
 replace y2 := cL hh.ext y2
 go_simp
 exact Stab.k Z)
 apply Stab.tr 21 _ hf hok
 · (
 intro fr1 w1 hh hd hk K Z
 have s92 := Stab.v 8 12 hd hk []
 refine Stab.g s92 ?_
 have s2 := Stab.O hh s2
 clear hd
 go_simp
 exact Stab.k Z)
 apply Stab.tr 22 _ hf hok
 · (
 intro fr1 w1 hh hd hk K Z
 have s92 := Stab.v 8 13 hd hk []
 refine Stab.g s92 ?_
 have s104 := Stab.v 20 1 hd hk []
 have s105 := Stab.v 21 0 hd hk []
 clear hd
 replace d0 := cL hh.ext d0
 replace y0 := cL hh.ext y0
 replace y1 := cL hh.ext y1
 replace y2 := cL hh.ext y2
 go_simp
 try rw [if_pos (by omega)]
 exact Stab.k Z)
 apply Stab.tr 23 _ hf hok
 · (
 intro fr1 w1 hh hd hk K Z
 have s92 := Stab.v 8 14 hd hk []
 refine Stab.g s92 ?_
 have s99 := Stab.v 15 7 hd hk []
 have s106 := Stab.v 22 0 hd hk []
 clear hd
 go_simp
 exact Stab.k Z)
 apply Stab.tq 24 _ hf hok
 · (
 intro fr1 w1 hh hd hk K Z
 have s92 := Stab.v 8 15 hd hk []
 have s107 := Stab.v 23 0 hd hk []
 clear hd
 go_simp
 exact Stab.k Z)
 refine Stab.tf hf hok fun fr1 w1 hh hg => ?_
 replace s0 := Stab.O hh s0
 replace s1 := Stab.O hh s1
 replace s2 := Stab.O hh s2
 replace s3 := Stab.O hh s3
 replace s9 := Stab.O hh s9
 replace s11 := Stab.O hh s11
 replace s12 := Stab.O hh s12
 replace s13 := Stab.O hh s13
 have s108 := Stab.f 24 0 hg
 have hf1 := hh.fr hf
 have hx := hh.ext
 replace d0 := cL hx d0
 replace y0 := cL hx y0
 replace y1 := cL hx y1
 replace y2 := cL hx y2
 clear hg hh hf hok s81
 have hf := hf1; clear hf1
 refine nx (hK27 _ _ ?_)
 refine Fact.cond_f s108 ?_
 have how2 := own_later HOW.out hx
 have hb2 := hb.trans (hx.mono hb.size)
 have hnew : OE w1 Wn.heap.size (.slice Av xs.length cv) (ownE es i d (at_ e.word d) (j + 1)) := by rw [HST2.out]; exact how2
 obtain ⟨V2, hV2⟩ : ∃ x, Value.slice Av xs.length cv = x := ⟨_, rfl⟩
 rw [hV2] at s12 hnew
 refine wp_skip ?_
 refine Fact.block_normal ?_
 refine nx (hK26 _ _ ?_)
 refine rg ?_
 have b82 := hf.b 82
 have b83 := hf.b 83
 refine fp fun K Z => ?_
 go_simp
 apply Z.out; clear Z K
 refine fp fun K Z => ?_
 go_simp
 try simp (disch := omega) only [Fact.W]
 apply Z.out; clear Z K
 refine fp fun K Z => ?_
 go_simp
 apply Z.out; clear Z K
 refine Fact.z hf fun fr1 hf1 hT => ?_
 have hKp : _ ∧ _ ∧ _ ∧ _ ∧ _ ∧ _ ∧ _ ∧ _ := ⟨hT 0, hT 1, hT 2, hT 3, hT 9, hT 11, hT 12, hT 13⟩
 simp (decide := true) only [Fact.G, hf.size, reduceIte, s0, s1, s2, s3, s9, s11, s12] at hKp
 replace hf := hf1; clear hT hf1 s0 s1 s2 s3 s9 s11 s12 s13 s108 b82 b83
 obtain ⟨s0, s1, s2, s3, s9, s11, s12, s13⟩ := hKp
 refine Fact.then_normal ?_
 exact ⟨_, by have := HKJ.out; omega, j + 1, V2, rfl, by omega, by omega, hf, s0, s1, s2, s3, s9, s11, s12, by rw [s13]; rfl, hnew, hb2⟩))
 · (
 have q4 : decide (d < q.word.size) = false := decide_eq_false (by omega)
 rw [next_no hqs, if_neg (by simp), List.append_nil] at hst
 have HST2 := Lib.hid hst; clear hst
 refine wp_skip ?_
 refine nx (hK22 _ _ ?_)
 refine Fact.sq fun K28 hK28 => ?_
 refine wp_block ?_
 refine Fact.sq fun K29 hK29 => ?_
 refine Stab.tb 143 fun hok => ?_
 refine Stab.mO 0 s1 hf hok ?_
 refine Stab.mO 1 s13 hf hok ?_
 apply Stab.tq 2 _ hf hok
 · (
 intro fr1 w1 hh hd hk K Z
 have s84 := Stab.v 0 1 hd hk []
 have s85 := Stab.v 1 0 hd hk []
 clear hd
 go_simp
 try rw [if_pos (by omega)]
 exact Stab.k Z)
 apply Stab.tq 3 _ hf hok
 · (
 intro fr1 w1 hh hd hk K Z
 have s86 := Stab.v 2 0 hd hk []
 clear hd
 go_simp
 exact Stab.k Z)
 apply Stab.tq 4 _ hf hok
 · (
 intro fr1 w1 hh hd hk K Z
 have s87 := Stab.v 3 0 hd hk []
 clear hd
 replace d0 := cL hh.ext d0
 replace y0 := cL hh.ext y0
 replace y1 := cL hh.ext y1
 replace y2 := cL hh.ext y2
 go_simp
 exact Stab.k Z)
 apply Stab.tq 5 _ hf hok
 · (
 intro fr1 w1 hh hd hk K Z
 have s88 := Stab.v 4 0 hd hk []
 clear hd
 replace d0 := cL hh.ext d0
 replace y0 := cL hh.ext y0
 replace y1 := cL hh.ext y1
 replace y2 := cL hh.ext y2
 go_simp
 exact Stab.k Z)
 refine Stab.mO 6 s2 hf hok ?_
 apply Stab.tq 7 _ hf hok
 · (
 intro fr1 w1 hh hd hk K Z
 have s89 := Stab.v 5 1 hd hk []
 have s90 := Stab.v 6 0 hd hk []
 clear hd
 go_simp
 exact Stab.k Z)
 refine Stab.mN 8 7 0 hf hok [] ?_
 apply Stab.tr 9 _ hf hok
 · (
 intro fr1 w1 hh hd hk K Z
 have s92 := Stab.v 8 0 hd hk []
 refine Stab.sk s92 ?_
 exact Stab.k Z)
 apply Stab.tr 10 _ hf hok
 · (
 intro fr1 w1 hh hd hk K Z
 have s92 := Stab.v 8 1 hd hk []
 refine Stab.sk s92 ?_
 exact Stab.k Z)
 apply Stab.tr 11 _ hf hok
 · (
 intro fr1 w1 hh hd hk K Z
 have s92 := Stab.v 8 2 hd hk []
 refine Stab.sk s92 ?_
 exact Stab.k Z)
 apply Stab.tr 12 _ hf hok
 · (
 intro fr1 w1 hh hd hk K Z
 have s92 := Stab.v 8 3 hd hk []
 refine Stab.sk s92 ?_
 exact Stab.k Z)
 apply Stab.tr 13 _ hf hok
 · (
 intro fr1 w1 hh hd hk K Z
 have s92 := Stab.v 8 4 hd hk []
 refine Stab.sk s92 ?_
 exact Stab.k Z)
 apply Stab.tr 14 _ hf hok
 · (
 intro fr1 w1 hh hd hk K Z
 have s92 := Stab.v 8 5 hd hk []
 refine Stab.sk s92 ?_
 exact Stab.k Z)
 apply Stab.tr 15 _ hf hok
 · (
 intro fr1 w1 hh hd hk K Z
 have s92 := Stab.v 8 6 hd hk []
 refine Stab.sk s92 ?_
 exact Stab.k Z)
 apply Stab.tr 16 _ hf hok
 · (
 intro fr1 w1 hh hd hk K Z
 have s92 := Stab.v 8 7 hd hk []
 refine Stab.sk s92 ?_
 exact Stab.k Z)
 apply Stab.tr 17 _ hf hok
 · (
 intro fr1 w1 hh hd hk K Z
 have s92 := Stab.v 8 8 hd hk []
 refine Stab.sk s92 ?_
 exact Stab.k Z)
 apply Stab.tr 18 _ hf hok
 · (
 intro fr1 w1 hh hd hk K Z
 have s92 := Stab.v 8 9 hd hk []
 refine Stab.sk s92 ?_
 exact Stab.k Z)
 apply Stab.tr 19 _ hf hok
 · (
 intro fr1 w1 hh hd hk K Z
 have s92 := Stab.v 8 10 hd hk []
 refine Stab.sk s92 ?_
 exact Stab.k Z)
 apply Stab.tr 20 _ hf hok
 · (
 intro fr1 w1 hh hd hk K Z
 have s92 := Stab.v 8 11 hd hk []
 refine Stab.sk s92 ?_
 exact Stab.k Z)
 apply Stab.tr 21 _ hf hok
 · (
 intro fr1 w1 hh hd hk K Z
 have s92 := Stab.v 8 12 hd hk []
 refine Stab.sk s92 ?_
 exact Stab.k Z)
 apply Stab.tr 22 _ hf hok
 · (
 intro fr1 w1 hh hd hk K Z
 have s92 := Stab.v 8 13 hd hk []
 refine Stab.sk s92 ?_
 exact Stab.k Z)
 apply Stab.tr 23 _ hf hok
 · (
 intro fr1 w1 hh hd hk K Z
 have s92 := Stab.v 8 14 hd hk []
 refine Stab.sk s92 ?_
 exact Stab.k Z)
 apply Stab.tq 24 _ hf hok
 · (
 intro fr1 w1 hh hd hk K Z
 have s92 := Stab.v 8 15 hd hk []
 have s107 := Stab.v 23 0 hd hk []
 clear hd
 go_simp
 exact Stab.k Z)
 refine Stab.tf hf hok fun fr1 w1 hh hg => ?_
 replace s0 := Stab.O hh s0
 replace s1 := Stab.O hh s1
 replace s2 := Stab.O hh s2
 replace s3 := Stab.O hh s3
 replace s9 := Stab.O hh s9
 replace s11 := Stab.O hh s11
 replace s12 := Stab.O hh s12
 replace s13 := Stab.O hh s13
 have s108 := Stab.f 24 0 hg
 have hf1 := hh.fr hf
 have hx := hh.ext
 replace d0 := cL hx d0
 replace y0 := cL hx y0
 replace y1 := cL hx y1
 replace y2 := cL hx y2
 clear hg hh hf hok s81
 have hf := hf1; clear hf1
 refine nx (hK29 _ _ ?_)
 refine Fact.cond_f s108 ?_
 have how2 := own_later HOW.out hx
 have hb2 := hb.trans (hx.mono hb.size)
 have hnew : OE w1 Wn.heap.size (.slice Av xs.length cv) (ownE es i d (at_ e.word d) (j + 1)) := by rw [HST2.out]; exact how2
 obtain ⟨V2, hV2⟩ : ∃ x, Value.slice Av xs.length cv = x := ⟨_, rfl⟩
 rw [hV2] at s12 hnew
 refine wp_skip ?_
 refine Fact.block_normal ?_
 refine nx (hK28 _ _ ?_)
 refine rg ?_
 have b82 := hf.b 82
 have b83 := hf.b 83
 refine fp fun K Z => ?_
 go_simp
 apply Z.out; clear Z K
 refine fp fun K Z => ?_
 go_simp
 try simp (disch := omega) only [Fact.W]
 apply Z.out; clear Z K
 refine fp fun K Z => ?_
 go_simp
 apply Z.out; clear Z K
 refine Fact.z hf fun fr1 hf1 hT => ?_
 have hKp : _ ∧ _ ∧ _ ∧ _ ∧ _ ∧ _ ∧ _ ∧ _ := ⟨hT 0, hT 1, hT 2, hT 3, hT 9, hT 11, hT 12, hT 13⟩
 simp (decide := true) only [Fact.G, hf.size, reduceIte, s0, s1, s2, s3, s9, s11, s12] at hKp
 replace hf := hf1; clear hT hf1 s0 s1 s2 s3 s9 s11 s12 s13 s108 b82 b83
 obtain ⟨s0, s1, s2, s3, s9, s11, s12, s13⟩ := hKp
 refine Fact.then_normal ?_
 exact ⟨_, by have := HKJ.out; omega, j + 1, V2, rfl, by omega, by omega, hf, s0, s1, s2, s3, s9, s11, s12, by rw [s13]; rfl, hnew, hb2⟩))
 · (
 have hje : j = es.length := by have h9 := of_decide_eq_false hq; omega
 subst hje
 clear hq hij hj HKJ
 have hof := ownE_full es i d (at_ e.word d)
 have hsub : ∀ x ∈ ownE es i d (at_ e.word d) es.length, _ := fun x hx => ownE_sub (es := es) (i := i) (depth := d) (b := (at_ e.word d)) (k := es.length) x hx
 have hmo := ownE_mem HIE.out (show (wl e.word)[d]? = some (at_ e.word d) from HWB.out)
 have hol := ownE_length es i d (at_ e.word d) es.length
 obtain ⟨own, hown⟩ : ∃ x, ownE es i d (at_ e.word d) es.length = x := ⟨_, rfl⟩
 rw [hown] at how hof hsub hmo hol
 clear hown
 have hol2 : own.length ≤ 100000 := by omega
 have h0 : 0 < own.length := List.length_pos_of_mem hmo
 have hoes : ∀ x ∈ own, okE x := fun x hx => HES.out x (hsub x hx).1
 have hre := OE.re (es := own) how
 obtain ⟨n, hn⟩ : ∃ x, leastV (own.map wvE) = x := ⟨_, rfl⟩
 have hlen1 : le ≤ n := by obtain ⟨y, hy, hy2⟩ := leastV_mem (l := own.map wvE) (by intro h; have h9 := List.map_eq_nil_iff.1 h; rw [h9] at h0; exact absurd h0 (by simp)); obtain ⟨x, hx, rfl⟩ := List.mem_map.1 hy; rw [← hn, hy2]; exact HLE.out x (hsub x hx).1
 have hnm : ∀ x ∈ own, n ≤ valE x := fun x hx => by rw [← hn]; exact leastV_le (List.mem_map_of_mem hx)
 have hnlt : n < 18446744073709551616 := by have h1 := hnm e hmo; have h2 := valE_lt (hoes e hmo); omega
 have hnx : refX f ss (es.map wvE) d le (i + 1) = ((refS f sx (own.map wvE) (d + 1) n).1, al ++ [(⟨at_ e.word d, n - le, ((refS f sx (own.map wvE) (d + 1) n).2 : Int)⟩ : Arc)]) := by rw [HRX.out, refI_new HLI.out HWB.out HNL.out hof.symm hn]
 have hwdo : ∀ x ∈ own, d + 1 ≤ x.word.size ∧ x.word.size < f + (d + 1) := fun x hx => by have h1 := (List.getElem?_eq_some_iff.1 (hsub x hx).2).1; rw [wl_length] at h1; have h2 := HWD.out x (hsub x hx).1; omega
 have hfin1 : (refS f sx (own.map wvE) (d + 1) n).1.length ≤ 100000 := by have h1 := refX_len f ss (es.map wvE) d le (i + 1) (es.map wvE).length (by rw [List.length_map]; omega); rw [hnx] at h1; have h2 := HFIN.out; rw [refS_X] at h2; exact Nat.le_trans h1 (Nat.le_trans (finish_len _ _) h2)
 have hfew1 : Few 100000 sx := by have h1 := refX_few f (M := 100000) d le i HFEW.out (L := es.map wvE) (by rw [List.length_map]; exact hlen); rw [HX.out] at h1; exact h1
 have HNX := Lib.hid hnx; have HSUB := Lib.hid hsub; have HNM := Lib.hid hnm; have HWDO := Lib.hid hwdo; have HOES := Lib.hid hoes; have HFIN1 := Lib.hid hfin1; have HFEW1 := Lib.hid hfew1; have HN := Lib.hid hn; have H0 := Lib.hid h0; clear hnx hsub hnm hwdo hoes hfin1 hfew1 hof hmo h0 hn
 have HOW := Lib.hid how; clear how
 refine wp_exit ?_
 refine Fact.then_exit ?_
 refine Fact.then_exit ?_
 refine Fact.block_exit ?_
 refine nx (hK20 _ _ ?_)
 refine Fact.sq fun K30 hK30 => ?_
 refine rg ?_
 have b116 := hf.b 116
 have b117 := hf.b 117
 refine fp fun K Z => ?_
 go_simp
 apply Z.out; clear Z K
 refine fp fun K Z => ?_
 go_simp
 go_at_call 63; refine (least39 wq own _ V (Nat.le_refl _) hre HOES.out H0.out (by omega)).mono ?_; rintro e w5 ⟨rfl, hb5⟩
 rw [HN.out]
 try dsimp only
 apply Z.out; clear Z K
 refine fp fun K Z => ?_
 go_simp
 apply Z.out; clear Z K
 refine Fact.z hf fun fr1 hf1 hT => ?_
 have hKp : _ ∧ _ ∧ _ ∧ _ ∧ _ ∧ _ ∧ _ ∧ _ := ⟨hT 0, hT 1, hT 2, hT 3, hT 9, hT 11, hT 12, hT 14⟩
 simp (decide := true) only [Fact.G, hf.size, reduceIte, s0, s1, s2, s3, s9, s11, s12] at hKp
 replace hf := hf1; clear hT hf1 s0 s1 s2 s3 s9 s11 s12 s13 s81 b116 b117
 obtain ⟨s0, s1, s2, s3, s9, s11, s12, s14⟩ := hKp
 obtain ⟨Wa, rfl⟩ : ∃ x, x = w5 := ⟨_, rfl⟩
 have hba := hb.trans (hb5.mono hb.size)
 clear hre
 replace z0 := cL hb5 z0; replace d0 := cL hb5 d0
 have hoa := own_later HOAN.out (hba)
 have how := own_later HOW.out hb5
 have hbxa := (hba.block _ (heap_lt hbxn)).trans hbxn
 have hma := HMN.out.later hba
 have hzna : Wn.heap.size ≤ Wa.heap.size := hba.size
 have hgb : g < w.heap.size := hgw
 have hv1b : ∀ k, v1.ownBlock = some k → k < Wn.heap.size := fun k hk => (HMN.out.blk hk).2
 have hv1n : ∀ k, k < w.heap.size → v1.ownBlock = some k → v.ownBlock = some k := fun k hk h => by rcases HV1.out with h1 | ⟨k2, h1, h2⟩; (rw [← h1]; exact h); (rw [h] at h1; injection h1 with h1; omega)
 have hHBX : ¬ (w.heap.size = g ∨ v1.ownBlock = some w.heap.size) := by rintro (h | h); omega; (rcases HV1.out with h1 | ⟨k2, h1, h2⟩; (rw [h1] at h; have := HVB.out _ h; omega); (rw [h] at h1; injection h1 with h1; omega))
 have hHB : ¬ (b = g ∨ v1.ownBlock = some b) := by have h2 := HAP.out b rfl; rintro (h | h); exact h2.1 h; exact h2.2 (hv1n b hbB h)
 have hHAV : ∀ k, (.slice Aa al.length ca : Value).ownBlock = some k → w.heap.size < k ∧ ¬ B1 k ∧ v1.ownBlock ≠ some k ∧ k < Wa.heap.size := fun k hk => ⟨(HAV.out k hk).1, (HAV.out k hk).2.1, (HAV.out k hk).2.2, (hoa.lt k hk).2⟩
 have hcall : ∀ wz, Below Wa.heap.size Wa wz → Calls Tryd.prog 64 #[.pointer (some ⟨g, 0, none⟩), V, .int .i64 (d + 1 : Nat), .int .u64 n] wz fun e w1 => e = .returned (.int .i64 ((refS f sx (own.map wvE) (d + 1) n).2 : Nat)) ∧ Made base g v1 B1 wz.heap.size (refS f sx (own.map wvE) (d + 1) n).1 w1 ∧ But (fun k => k = g ∨ v1.ownBlock = some k) wz w1 := fun wz hz => ih wz base g v1 B1 sx own V (d + 1) n (hma.later hz) (by have := hz.size; omega) (OE.re (own_later how hz)) (fun k hk => by have h1 := (how.lt k hk).1; refine ⟨by omega, fun h => ?_⟩; have := hv1b k h; omega) HOES.out hol2 HWDO.out (by omega) HNM.out HFIN1.out HFEW1.out H0.out
 have HCALL := Lib.hid hcall; have HHAV := Lib.hid hHAV; have HHBX := Lib.hid hHBX; have HHB := Lib.hid hHB; have HOA2 := Lib.hid hoa; have HV1B := Lib.hid hv1b; have HV1N := Lib.hid hv1n; clear hcall hHAV hHBX hHB hoa hv1b hv1n hma how
 refine nx (hK30 _ _ ?_)
 refine Stam.todo_begin (n := 143) (fun m k => (m = 17 ∧ (k = g ∨ v1.ownBlock = some k)) ∨ (m = 20 ∧ (.slice Aa al.length ca : Value).ownBlock = some k) ∨ (m = 22 ∧ k = w.heap.size)) [17, 20, 22] (Stab.OkOps.of (by kernel_rfl)) (fun hok => ?_)
 apply Stam.tq 0 _ hf hok
 · (
 intro fr1 w1 hh hd hk K Z
 refine Stab.pl ?_
 have s9 := Stam.o hh (by kernel_rfl) s9
 have hbt := Stam.but_at hh [17] [(20, [1]), (22, [])] (by kernel_rfl)
 clear hd hh
 go_simp
 exact Stab.k Z)
 apply Stam.tq 1 _ hf hok
 · (
 intro fr1 w1 hh hd hk K Z
 refine Stab.pl ?_
 have s118 := Stam.v 0 0 hd hk []
 have hbt := Stam.but_at hh [17] [(20, []), (22, [])] (by kernel_rfl)
 clear hd hh
 have h17 := (hbt (fun k => k = g ∨ v1.ownBlock = some k) (fun m hm b h => by simp at hm; subst hm; rcases h with h | h | h; exact h.2; (have := h.1; omega); (have := h.1; omega)))
 have k0 := h17.cell z0 HHBX.out
 clear h17 hbt
 go_simp
 exact Stab.k Z)
 refine Stam.mvO (k := 2) s1 hf.size hok.out rfl (by kernel_rfl) rfl rfl (.inl rfl) (by kernel_rfl) ?_
 refine Stam.mvO (k := 3) s11 hf.size hok.out rfl (by kernel_rfl) rfl rfl (.inl rfl) (by kernel_rfl) ?_
 apply Stam.tq 4 _ hf hok
 · (
 intro fr1 w1 hh hd hk K Z
 refine Stab.pl ?_
 have s120 := Stam.v 2 1 hd hk []
 have s121 := Stam.v 3 0 hd hk []
 have hbt := Stam.but_at hh [17] [(20, [19, 18, 8, 6, 5]), (22, [])] (by kernel_rfl)
 clear hd hh
 go_simp
 try rw [if_pos (by omega)]
 exact Stab.k Z)
 apply Stam.tq 5 _ hf hok
 · (
 intro fr1 w1 hh hd hk K Z
 refine Stab.pl ?_
 have s122 := Stam.v 4 0 hd hk []
 have hbt := Stam.but_at hh [17] [(20, [19, 18, 8, 6]), (22, [])] (by kernel_rfl)
 clear hd hh
 go_simp
 exact Stab.k Z)
 apply Stam.tq 6 _ hf hok
 · (
 intro fr1 w1 hh hd hk K Z
 refine Stab.pl ?_
 have s123 := Stam.v 5 0 hd hk []
 have hbt := Stam.but_at hh [17] [(20, [19, 18, 8]), (22, [])] (by kernel_rfl)
 clear hd hh
 have h17 := (hbt (fun k => k = g ∨ v1.ownBlock = some k) (fun m hm b h => by simp at hm; subst hm; rcases h with h | h | h; exact h.2; (have := h.1; omega); (have := h.1; omega)))
 have k0 := h17.cell d0 HHB.out
 clear h17 hbt
 go_simp
 exact Stab.k Z)
 refine Stam.mvO (k := 7) s2 hf.size hok.out rfl (by kernel_rfl) rfl rfl (.inl rfl) (by kernel_rfl) ?_
 apply Stam.tq 8 _ hf hok
 · (
 intro fr1 w1 hh hd hk K Z
 refine Stab.pl ?_
 have s124 := Stam.v 6 1 hd hk []
 have s125 := Stam.v 7 0 hd hk []
 have hbt := Stam.but_at hh [17] [(20, [19, 18]), (22, [])] (by kernel_rfl)
 clear hd hh
 go_simp
 try rw [if_pos (by omega)]
 exact Stab.k Z)
 refine Stam.mvO (k := 9) s14 hf.size hok.out rfl (by kernel_rfl) rfl rfl (.inl rfl) (by kernel_rfl) ?_
 refine Stam.mvO (k := 10) s3 hf.size hok.out rfl (by kernel_rfl) rfl rfl (.inl rfl) (by kernel_rfl) ?_
 apply Stam.tq 11 _ hf hok
 · (
 intro fr1 w1 hh hd hk K Z
 refine Stab.pl ?_
 have s127 := Stam.v 9 1 hd hk []
 have s128 := Stam.v 10 0 hd hk []
 have hbt := Stam.but_at hh [17] [(20, [19, 18]), (22, [])] (by kernel_rfl)
 clear hd hh
 go_simp
 try simp (disch := omega) only [Fact.W]
 rw [show ((n : Nat) : Int) - (le : Nat) = ((n - le : Nat) : Int) by omega]
 exact Stab.k Z)
 refine Stam.mvO (k := 12) s0 hf.size hok.out rfl (by kernel_rfl) rfl rfl (.inl rfl) (by kernel_rfl) ?_
 refine Stam.mvO (k := 13) s12 hf.size hok.out rfl (by kernel_rfl) rfl rfl (.inl rfl) (by kernel_rfl) ?_
 refine Stam.mvO (k := 14) s2 hf.size hok.out rfl (by kernel_rfl) rfl rfl (.inl rfl) (by kernel_rfl) ?_
 apply Stam.tq 15 _ hf hok
 · (
 intro fr1 w1 hh hd hk K Z
 refine Stab.pl ?_
 have s132 := Stam.v 14 0 hd hk []
 have hxe := Stam.ext_at hh [(17, []), (20, [17]), (22, [])] (by kernel_rfl)
 have hbt := Stam.but_at hh [] [(17, []), (20, [17]), (22, [])] (by kernel_rfl)
 clear hd hh
 go_simp
 try simp (disch := omega) only [Fact.W]
 rw [show ((d : Nat) : Int) + 1 = ((d + 1 : Nat) : Int) by omega]
 exact Stab.k Z)
 refine Stam.mvO (k := 16) s14 hf.size hok.out rfl (by kernel_rfl) rfl rfl (.inl rfl) (by kernel_rfl) ?_
 refine Stam.todo_sp (k := 17) (n := 143) (fun x wz => x = .int .i64 ((refS f sx (own.map wvE) (d + 1) n).2 : Nat) ∧ Made base g v1 B1 Wa.heap.size (refS f sx (own.map wvE) (d + 1) n).1 wz) hf.size hok.out rfl (fun _ w w2 hb h => ⟨h.1, Made.later w w2 hb h.2⟩) (by kernel_rfl) ?_ ?_
 · (
 intro fr1 w1 hh hd hk K Z
 refine Stab.pl ?_
 have s130 := Stam.v 12 4 hd hk []
 have s131 := Stam.v 13 3 hd hk []
 have s133 := Stam.v 15 1 hd hk []
 have s134 := Stam.v 16 0 hd hk []
 have hxe := Stam.ext_at hh [(20, []), (22, [])] (by kernel_rfl)
 have hbt := Stam.but_at hh [] [(20, []), (22, [])] (by kernel_rfl)
 clear hd hh
 go_simp
 go_at_call 64; refine (HCALL.out _ hxe).mono ?_; rintro e w2 ⟨rfl, hmd, hb2⟩
 exact Z.out _ rfl _ _ (hb2.mono (fun k _ h => .inl ⟨rfl, h⟩)) ⟨rfl, hmd.mono hxe.size⟩)
 apply Stam.tq 18 _ hf hok
 · (
 intro fr1 w1 hh hd hk K Z
 refine Stab.pl ?_
 have s126 := Stam.v 8 9 hd hk []
 have s129 := Stam.v 11 6 hd hk []
 obtain ⟨x135, s135, hp135⟩ := Stam.use (j := 17) (m := 0) hd hk rfl [] (by kernel_rfl) [(20, true, [19]), (22, true, [])] (by kernel_rfl) rfl rfl rfl
 obtain ⟨rfl, hm135⟩ := hp135
 have hbt := Stam.but_at hh [17] [(20, [19]), (22, [])] (by kernel_rfl)
 clear hd hh
 go_simp
 exact Stab.k Z)
 refine Stam.todo_op (k := 19) (n := 143) (PLit [.int .u8 (at_ e.word d : Nat), .int .u64 (n - le : Nat), .int .i64 ((refS f sx (own.map wvE) (d + 1) n).2 : Nat)]) hf.size hok.out rfl (PLit.stable _) (by kernel_rfl) ?_ ?_
 · (
 intro fr1 w1 hh hd hk K Z
 refine Stab.pl ?_
 have s136 := Stam.v 18 0 hd hk []
 have hbt := Stam.but_at hh [17] [(20, []), (22, [])] (by kernel_rfl)
 clear hd hh
 go_simp
 exact Z.out _ rfl _ _ ((Below.refl _ _).alloc (Nat.le_refl _) _) ⟨_, rfl, lit_new _ _ _⟩)
 refine Stam.todo_sp (k := 20) (n := 143) (Lq w.heap.size base g v B ((refS f sx (own.map wvE) (d + 1) n).1, al ++ [(⟨at_ e.word d, n - le, ((refS f sx (own.map wvE) (d + 1) n).2 : Int)⟩ : Arc)])) hf.size hok.out rfl (Lq.later) (by kernel_rfl) ?_ ?_
 · (
 intro fr1 w1 hh hd hk K Z
 refine Stab.pl ?_
 have s119 := Stam.v 1 18 hd hk []
 obtain ⟨x137, s137, hp137⟩ := Stam.use (j := 19) (m := 0) hd hk rfl [] (by kernel_rfl) [(17, false, [18]), (22, true, [])] (by kernel_rfl) rfl rfl rfl
 obtain ⟨b137, rfl, hc137⟩ := hp137
 obtain ⟨_, hm17⟩ := Stam.use_fact (j := 17) (m := 2) hd hk rfl [] (by kernel_rfl) [(22, true, [])] (by kernel_rfl) rfl
 have hbt := Stam.but_at hh [17] [(22, [])] (by kernel_rfl)
 clear hd hh
 have h17 := (hbt (fun k => k = g ∨ v1.ownBlock = some k) (fun m hm b h => by simp at hm; subst hm; rcases h with h | h | h; exact h.2; (have := h.1; omega); (have := h.1; omega)))
 have hoa2 := own_but HOA2.out h17 (fun k hk h => by have h1 := HHAV.out k hk; rcases h with h | h; omega; exact h1.2.2.1 h)
 refine wp_app _ _ 62 rfl 66 _ 3 24 Tryd.underlying62 info_arcD rfl (by decide) (by decide) w.heap.size (.slice Aa al.length ca : Value) al.length (acs al) (Fact.eval_tmp s119) hoa2 b137 _ (Fact.eval_tmp s137) rfl hc137 (by intro u hu; simp at hu; rcases hu with rfl | rfl | rfl <;> rfl) (by omega) (by have := h17.size; omega) (fun v2 w2 hr3 hg3 hat3 => ?_)
 exact Z.out _ rfl _ _ (But.grown hg3 (fun k hk => .inr (.inl ⟨rfl, hk⟩))) (Lq.app hm17.2 (by omega) (fun k hk => (HB1.out k hk).2) HV1.out HHAV.out hgb hr3 hg3 hat3 h17.size))
 apply Stam.tq 21 _ hf hok
 · (
 intro fr1 w1 hh hd hk K Z
 refine Stab.pl ?_
 have s9 := Stam.o hh (by kernel_rfl) s9
 have hbt := Stam.but_at hh [17, 20] [(22, [])] (by kernel_rfl)
 clear hd hh
 go_simp
 exact Stab.k Z)
 refine Stam.todo_sp (k := 22) (n := 143) (fun _ wz => Lp w.heap.size base g v B (refFo (es.map wvE) d le) ((refS f sx (own.map wvE) (d + 1) n).1, al ++ [(⟨at_ e.word d, n - le, ((refS f sx (own.map wvE) (d + 1) n).2 : Int)⟩ : Arc)]) wz) hf.size hok.out rfl (fun _ w w2 hb h => Lp.later hb h) (by kernel_rfl) ?_ ?_
 · (
 intro fr1 w1 hh hd hk K Z
 refine Stab.pl ?_
 have s139 := Stam.v 21 0 hd hk []
 obtain ⟨x138, s138, hp138⟩ := Stam.use (j := 20) (m := 1) hd hk rfl [] (by kernel_rfl) [(17, false, [])] (by kernel_rfl) rfl rfl rfl
 have hl138 := hp138
 have hbt := Stam.but_at hh [17, 20] [] (by kernel_rfl)
 clear hd hh
 have h22 := (hbt (fun k => (k = g ∨ v1.ownBlock = some k) ∨ (.slice Aa al.length ca : Value).ownBlock = some k) (fun m hm b h => by simp at hm; rcases h with h | h | h; exact .inl h.2; exact .inr h.2; (have := h.1; omega)))
 have hbx2 := h22.heap hbxa (fun h => by rcases h with h | h; exact HHBX.out h; (have := (HHAV.out _ h).1; omega))
 have y0 : w1.cell? ⟨w.heap.size, 0, none⟩ = some (.slice Aa al.length ca : Value) := by rw [cell_of_row _ _ 0 _ 64 (0, 0) hbx2]; rfl
 have fz := frozen_of (i := 0) hbx2
 clear hbt h22
 obtain ⟨A2, c2, hv2⟩ := Lq.form hl138
 subst hv2
 go_simp
 exact Z.out _ rfl undef _ (But.setCell (.inr (.inr ⟨rfl, rfl⟩)) _) ⟨_, Lq.but hl138 (But.setCell (S := fun k => k = w.heap.size) rfl _) (fun k h => h) hgb HVB.out, (set_block (i := 0) hbx2 _).trans (by simp [bxCells])⟩)
 refine Stam.todo_facts (n := 143) (by kernel_rfl) hf.size hok.out rfl (fun fr1 w1 hh hg => ?_)
 replace s0 := Stam.o hh (by kernel_rfl) s0
 replace s1 := Stam.o hh (by kernel_rfl) s1
 replace s2 := Stam.o hh (by kernel_rfl) s2
 replace s3 := Stam.o hh (by kernel_rfl) s3
 replace s9 := Stam.o hh (by kernel_rfl) s9
 replace s11 := Stam.o hh (by kernel_rfl) s11
 obtain ⟨_, hlast⟩ := Stam.end_fact (j := 22) (m := 0) hg rfl (by decide) [(17, []), (20, [])] (by kernel_rfl) rfl
 have hf1 := hh.fr hf
 have hbt := hh.but
 clear hg hh hf hok s12 s14
 have hf := hf1; clear hf1
 replace hbt := hbt (fun k => (k = g ∨ v1.ownBlock = some k) ∨ (.slice Aa al.length ca : Value).ownBlock = some k ∨ k = w.heap.size) (fun m _ b h => by rcases h with h | h | h; exact .inl h.2; exact .inr (.inl h.2); exact .inr (.inr h.2))
 have hbtz : But (fun k => k = g ∨ v.ownBlock = some k) w w1 := But.join (hbtn.trans (But.of _ (hba.mono (Nat.le_refl _)))) hbt (fun k hk h => by rcases h with (h | h) | h | h; exact .inl h; exact .inr (HV1N.out k hk h); (have := (HHAV.out k h).1; omega); omega)
 have hlp : Lp w.heap.size base g v B (refFo (es.map wvE) d le) (refX f ss (es.map wvE) d le (i + 1)) w1 := by rw [HNX.out]; exact hlast
 refine Fact.block_normal ?_
 refine nx (hK14 _ _ ?_)
 refine rg ?_
 have b42 := hf.b 42
 have b43 := hf.b 43
 refine fp fun K Z => ?_
 go_simp
 apply Z.out; clear Z K
 refine fp fun K Z => ?_
 go_simp
 try simp (disch := omega) only [Fact.W]
 apply Z.out; clear Z K
 refine fp fun K Z => ?_
 go_simp
 apply Z.out; clear Z K
 refine Fact.z hf fun fr1 hf1 hT => ?_
 have hKp : _ ∧ _ ∧ _ ∧ _ ∧ _ ∧ _ := ⟨hT 0, hT 1, hT 2, hT 3, hT 9, hT 11⟩
 simp (decide := true) only [Fact.G, hf.size, reduceIte, s0, s1, s2, s3, s9] at hKp
 replace hf := hf1; clear hT hf1 s0 s1 s2 s3 s9 s11 b42 b43
 obtain ⟨s0, s1, s2, s3, s9, s11⟩ := hKp
 refine Fact.then_normal ?_
 exact ⟨_, by have := HK.out; omega, i + 1, rfl, by omega, hf, s0, s1, s2, s3, s9, by rw [s11]; rfl, hbtz, hlp⟩))))
 · (
 have hie : i = es.length := by have h9 := of_decide_eq_false hq; omega
 subst hie
 clear hq hi HK hrw
 have hrs := refS_X f ss (es.map wvE) d le
 have hal0 := refX_arcs f ss (es.map wvE) d le es.length
 have hfew1 := refX_few f (M := 100000) d le es.length HFEW.out (L := (es.map wvE)) (by rw [List.length_map]; exact hlen)
 rw [List.length_map] at hrs
 obtain ⟨⟨sx, al⟩, hX⟩ : ∃ x, (refX f ss (es.map wvE) d le es.length) = x := ⟨_, rfl⟩
 rw [hX] at hlp hrs hal0 hfew1
 clear hX
 obtain ⟨y, hY⟩ : ∃ x, (refFo (es.map wvE) d le) = x := ⟨_, rfl⟩
 rw [hY] at hlp hrs
 clear hY
 simp only at hrs hal0 hfew1
 obtain ⟨av, ⟨v1, B1, hm1, hB1, hv1, hoa, hav⟩, hbx⟩ := hlp
 simp only at hm1 hoa
 have z0 : wr.cell? ⟨w.heap.size, 0, none⟩ = some av := by rw [cell_of_row _ _ 0 _ 64 (0, 0) hbx]; rfl
 have z1 : wr.cell? ⟨w.heap.size, 1, none⟩ = some (.bool y.1) := by rw [cell_of_row _ _ 1 _ 64 (0, 0) hbx]; rfl
 have z2 : wr.cell? ⟨w.heap.size, 2, none⟩ = some (.int .u64 y.2) := by rw [cell_of_row _ _ 2 _ 64 (0, 0) hbx]; rfl
 have hfl : sx.length ≤ 100000 := by have h1 := HFIN.out; rw [hrs] at h1; exact Nat.le_trans (finish_len _ _) h1
 have hra : RA wr (fun k => av.ownBlock = some k) av al := OA.ra hoa (fun k hk => hk)
 have HRS := Lib.hid hrs; have HB1 := Lib.hid hB1; have HV1 := Lib.hid hv1; have HAV := Lib.hid hav; have HFEW1 := Lib.hid hfew1; clear hrs hB1 hv1 hav hfew1 hoa hbx
 refine wp_exit ?_
 refine Fact.then_exit ?_
 refine Fact.then_exit ?_
 refine Fact.block_exit ?_
 refine nx (hK10 _ _ ?_)
 refine Fact.sq fun K31 hK31 => ?_
 refine rg ?_
 have b140 := hf.b 140
 have b141 := hf.b 141
 have b142 := hf.b 142
 refine fp fun K Z => ?_
 go_simp
 apply Z.out; clear Z K
 refine fp fun K Z => ?_
 go_simp
 apply Z.out; clear Z K
 refine fp fun K Z => ?_
 go_simp
 go_at_call 83; refine (number wr base g v1 B1 (fun k => av.ownBlock = some k) sx ⟨y.1, y.2, al⟩ av hm1 (by have := hbt.size; omega) hra (fun k hk => ⟨fun h => by have := (HAV.out k hk).1; omega, (HAV.out k hk).2.2⟩) hfl (fun x hx => Nat.le_trans (HFEW1.out x hx) (by omega)) (by simp only; omega)).mono ?_; rintro e w1 ⟨rfl, v2, hm2, hb2, hv2⟩
 try dsimp only
 apply Z.out; clear Z K
 refine fp fun K Z => ?_
 go_simp
 apply Z.out; clear Z K
 refine Fact.z hf fun fr1 hf1 hT => ?_
 have hKp := hT 8
 simp (decide := true) only [Fact.G, hf.size, reduceIte] at hKp
 replace hf := hf1; clear hT hf1 s0 s1 s2 s3 s9 s11 s41 b140 b141 b142
 have s8 := hKp; clear hKp
 refine nx (hK31 _ _ ?_)
 refine wp_ret ?_
 obtain ⟨hmd, hbz⟩ := state_end hm2 hb2 hv2 hbt HB1.out HV1.out HAV.out
 exact Fact.ret1 rfl hf s8 ⟨by rw [HRS.out], by rw [HRS.out]; exact hmd, hbz⟩))))
end Dw
end Go.Proofs.YtdkbgbdgmihlmaaDoor
