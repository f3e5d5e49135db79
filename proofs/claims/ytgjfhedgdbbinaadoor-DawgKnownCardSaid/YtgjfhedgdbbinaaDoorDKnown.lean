/- Dawg: DawgKnown. -/
import Derived.Test.YtgjfhedgdbbinaaDoorDWorks
namespace Go.Proofs.YtgjfhedgdbbinaaDoor
open Go.RowKit
set_option linter.unusedSimpArgs false
set_option linter.unusedVariables false
set_option linter.unnecessarySimpa false
namespace Dw

/-- a row of transducers -/
def RF (w : World) (v : Value) (l : List Fst) : Prop := ∃ (A : Option Addr) (c : Nat), v = .slice A l.length c ∧ l.length ≤ c ∧ (0 < l.length → ∃ b off, A = some ⟨b, off, none⟩ ∧ ∀ (i : Nat) (x : Fst), l[i]? = some x → ∃ sv, w.cell? ⟨b, off + i * 2, none⟩ = some sv ∧ w.cell? ⟨b, off + i * 2 + 1, none⟩ = some (.int .u64 x.init) ∧ RS w sv x.states)
theorem RF.later {w w' : World} {v : Value} {l : List Fst} (h : RF w v l) (hb : Below w.heap.size w w') : RF w' v l := by
  obtain ⟨A, c, h1, h2, h3⟩ := h
  refine ⟨A, c, h1, h2, fun h0 => ?_⟩
  obtain ⟨b, off, h4, h5⟩ := h3 h0
  exact ⟨b, off, h4, fun i x hi => by obtain ⟨sv, h6, h7, h8⟩ := h5 i x hi; exact ⟨sv, cell_later hb h6, cell_later hb h7, h8.later hb⟩⟩
theorem RF.at_ {w : World} {A : Option Addr} {n c : Nat} {l : List Fst} (h : RF w (.slice A n c) l) {i : Nat} {x : Fst} (hi : l[i]? = some x) : ∃ b off sv, A = some ⟨b, off, none⟩ ∧ w.cell? ⟨b, off + i * 2, none⟩ = some sv ∧ w.cell? ⟨b, off + i * 2 + 1, none⟩ = some (.int .u64 x.init) ∧ RS w sv x.states := by
  obtain ⟨A', c', h1, h2, h3⟩ := h
  injection h1 with h1
  have h0 := (List.getElem?_eq_some_iff.1 hi).1
  obtain ⟨b, off, h4, h5⟩ := h3 (by omega)
  obtain ⟨sv, h6⟩ := h5 i x hi
  exact ⟨b, off, sv, h1.trans h4, h6⟩
def fcs (l : List (Value × Fst)) : List Value := l.flatMap fun x => [x.1, .int .u64 x.2.init]
theorem fcs_get (l : List (Value × Fst)) (i j : Nat) (hi : i < l.length) (hj : j < 2) : (fcs l)[i * 2 + j]? = ([(l[i]).1, .int .u64 (l[i]).2.init] : List Value)[j]? := by
  induction l generalizing i with
  | nil => simp at hi
  | cons e l ih =>
    simp only [fcs, List.flatMap_cons]
    cases i with
    | zero => rw [List.getElem?_append_left (by simp; omega)]; simp
    | succ i =>
      rw [List.getElem?_append_right (by simp; omega)]
      have := ih i (by simpa using hi)
      simp only [fcs] at this
      simp only [List.getElem_cons_succ]
      rw [← this]; congr 1; simp; omega
theorem RF.lit {w W : World} {A : Array Value} {t : TypeId} (h : w.alloc (.cells A t) = W) (l : List (Value × Fst)) (hA : A.toList = fcs l) (hr : ∀ x ∈ l, RS w x.1 x.2.states) : Below w.heap.size w W ∧ RF W (.slice (some ⟨w.heap.size, 0, none⟩) l.length l.length) (l.map Prod.snd) := by
  obtain ⟨h1, h2, _⟩ := lit_cells h
  refine ⟨h1, some ⟨w.heap.size, 0, none⟩, l.length, by rw [List.length_map], by rw [List.length_map]; exact Nat.le_refl _, fun _ => ⟨_, _, rfl, fun i s hi => ?_⟩⟩
  rw [List.getElem?_map] at hi
  obtain ⟨x, hx, rfl⟩ := Option.map_eq_some_iff.1 hi
  obtain ⟨hlt, rfl⟩ := List.getElem?_eq_some_iff.1 hx
  have k : ∀ j, j < 2 → ∀ u, ([(l[i]).1, .int .u64 (l[i]).2.init] : List Value)[j]? = some u → W.cell? ⟨w.heap.size, 0 + (i * 2 + j), none⟩ = some u := fun j hj u hu => h2 _ _ (by rw [hA, fcs_get l i j hlt hj]; exact hu)
  exact ⟨(l[i]).1, by have := k 0 (by omega) _ rfl; simpa using this, by have := k 1 (by omega) _ rfl; simpa [Nat.add_assoc] using this, (hr _ (List.getElem_mem hlt)).later h1⟩
def okAb (a : Arc) : Bool := decide (a.byte < 256) && decide (a.out < 18446744073709551616) && decide (-9223372036854775808 ≤ a.to) && decide (a.to < 9223372036854775808)
def okSb (s : State) : Bool := decide (s.out < 18446744073709551616) && decide (s.arcs.length < 1000) && s.arcs.all okAb
theorem okS_all (l : List State) (h : l.all okSb = true) : ∀ s ∈ l, okS s := by
  intro s hs
  have := List.all_eq_true.1 h s hs
  simp only [okSb, Bool.and_eq_true, decide_eq_true_eq] at this
  refine ⟨this.1.1, by have := this.1.2; omega, fun a ha => ?_⟩
  have h2 := List.all_eq_true.1 this.2 a ha
  simp only [okAb, Bool.and_eq_true, decide_eq_true_eq] at h2
  exact ⟨h2.1.1.1, h2.1.1.2, h2.1.2, h2.2⟩
theorem bads_false (l : List Fst) (h : l.all (fun x => !rightF x.states x.init) = true) : ∀ x ∈ l, rightF x.states x.init = false := fun x hx => by simpa using List.all_eq_true.1 h x hx
theorem bads_ok (l : List Fst) (h : l.all (fun x => x.states.all okSb && decide (x.states.length ≤ 1000000)) = true) : ∀ x ∈ l, (∀ s ∈ x.states, okS s) ∧ x.states.length ≤ 1000000 := fun x hx => by
  have h2 := List.all_eq_true.1 h x hx
  rw [Bool.and_eq_true, decide_eq_true_eq] at h2
  exact ⟨okS_all _ h2.1, h2.2⟩
set_option maxHeartbeats 4000000 in
set_option maxRecDepth 100000 in
theorem known5 (w : World)  : Calls Tryd.prog 5 #[] w fun e w1 => e = .returned (.bool true) ∧ Below w.heap.size w w1 := by
 refine calls_of_wp Tryd.func5 rfl ?_
 refine Fact.enter (n := 223) (by kernel_rfl) (fun fr hf hT => ?_)
 clear hT
 have hbt := Below.refl w.heap.size w
 refine wp_seq_k (fun K1 hK1 => ?_)
 refine Fact.region ?_
 refine Fact.p rfl fun K hK => ?_
 go_simp
 refine hK.out _ _ ?_; clear hK K
 refine Fact.nil ?_
 refine Fact.q hf (by simp only [Fact.G]) rfl fun fr1 hf1 hT => ?_
 have hKp := hT 0
 simp only [Fact.G, Nat.reduceEqDiff, Nat.reduceLT, hf.size, reduceIte] at hKp
 clear hT hf
 have s0 := hKp; clear hKp
 have hf := hf1; clear hf1
 refine Fact.nx (hK1 _ _ ?_)
 refine wp_seq_k (fun K2 hK2 => ?_)
 refine Fact.region ?_
 have b17 := hf.l 17 rfl
 have b18 := hf.l 18 rfl
 have b19 := hf.l 19 rfl
 have b20 := hf.l 20 rfl
 have b21 := hf.l 21 rfl
 have b22 := hf.l 22 rfl
 have b23 := hf.l 23 rfl
 have b24 := hf.l 24 rfl
 have b16 := hf.l 16 rfl
 have b25 := hf.l 25 rfl
 have b26 := hf.l 26 rfl
 have b1 := hf.l 1 rfl
 refine Fact.p rfl fun K hK => ?_
 go_simp
 refine hK.out _ _ ?_; clear hK K
 refine Fact.p rfl fun K hK => ?_
 go_simp
 refine hK.out _ _ ?_; clear hK K
 refine Fact.p rfl fun K hK => ?_
 go_simp
 refine hK.out _ _ ?_; clear hK K
 refine Fact.p rfl fun K hK => ?_
 go_simp
 refine hK.out _ _ ?_; clear hK K
 refine Fact.p rfl fun K hK => ?_
 go_simp
 refine hK.out _ _ ?_; clear hK K
 refine Fact.p rfl fun K hK => ?_
 go_simp
 refine hK.out _ _ ?_; clear hK K
 refine Fact.p rfl fun K hK => ?_
 go_simp
 obtain ⟨V1, hV1⟩ : ∃ x, World.alloc w (.cells #[.string ⟨#[98, 97, 116]⟩, .int .u32 0, .bool false, .string ⟨#[98, 97, 116, 115]⟩, .int .u32 0, .bool false, .string ⟨#[99, 97, 116]⟩, .int .u32 0, .bool false, .string ⟨#[99, 97, 116, 115]⟩, .int .u32 0, .bool false, .string ⟨#[114, 97, 116]⟩, .int .u32 0, .bool false, .string ⟨#[114, 97, 116, 115]⟩, .int .u32 0, .bool false] 42) = x := ⟨_, rfl⟩
 rw [hV1]
 obtain ⟨bV1, x23⟩ := RE.lit hV1 [⟨⟨#[98, 97, 116]⟩, 0, false⟩, ⟨⟨#[98, 97, 116, 115]⟩, 0, false⟩, ⟨⟨#[99, 97, 116]⟩, 0, false⟩, ⟨⟨#[99, 97, 116, 115]⟩, 0, false⟩, ⟨⟨#[114, 97, 116]⟩, 0, false⟩, ⟨⟨#[114, 97, 116, 115]⟩, 0, false⟩] rfl
 replace hbt := hbt.trans (bV1.mono hbt.size)
 clear hV1
 refine hK.out _ _ ?_; clear hK K
 refine Fact.p rfl fun K hK => ?_
 go_simp
 go_at_call 8; refine (build8 V1 [⟨⟨#[98, 97, 116]⟩, 0, false⟩, ⟨⟨#[98, 97, 116, 115]⟩, 0, false⟩, ⟨⟨#[99, 97, 116]⟩, 0, false⟩, ⟨⟨#[99, 97, 116, 115]⟩, 0, false⟩, ⟨⟨#[114, 97, 116]⟩, 0, false⟩, ⟨⟨#[114, 97, 116, 115]⟩, 0, false⟩] V1.heap.size _ (Nat.le_refl _) x23 (by decide) (okE_all _ (by kernel_rfl))).mono ?_; rintro e w1 ⟨sv1, rfl, hr1, hok1, hn1, hb1⟩
 replace hbt := hbt.trans (hb1.mono hbt.size)
 replace x23 := (x23.below hb1).any
 rw [show chkN [⟨⟨#[98, 97, 116]⟩, 0, false⟩, ⟨⟨#[98, 97, 116, 115]⟩, 0, false⟩, ⟨⟨#[99, 97, 116]⟩, 0, false⟩, ⟨⟨#[99, 97, 116, 115]⟩, 0, false⟩, ⟨⟨#[114, 97, 116]⟩, 0, false⟩, ⟨⟨#[114, 97, 116, 115]⟩, 0, false⟩] = 0 from chk_zero _ (by kernel_rfl)]
 have hbf : buildF [⟨⟨#[98, 97, 116]⟩, 0, false⟩, ⟨⟨#[98, 97, 116, 115]⟩, 0, false⟩, ⟨⟨#[99, 97, 116]⟩, 0, false⟩, ⟨⟨#[99, 97, 116, 115]⟩, 0, false⟩, ⟨⟨#[114, 97, 116]⟩, 0, false⟩, ⟨⟨#[114, 97, 116, 115]⟩, 0, false⟩] = build ([⟨⟨#[98, 97, 116]⟩, 0, false⟩, ⟨⟨#[98, 97, 116, 115]⟩, 0, false⟩, ⟨⟨#[99, 97, 116]⟩, 0, false⟩, ⟨⟨#[99, 97, 116, 115]⟩, 0, false⟩, ⟨⟨#[114, 97, 116]⟩, 0, false⟩, ⟨⟨#[114, 97, 116, 115]⟩, 0, false⟩].map wvE) := if_pos (chk_zero _ (by kernel_rfl))
 rw [hbf] at hr1 hok1 hn1
 rw [hbf]
 clear hbf
 obtain ⟨F1, hF1⟩ : ∃ x, build ([⟨⟨#[98, 97, 116]⟩, 0, false⟩, ⟨⟨#[98, 97, 116, 115]⟩, 0, false⟩, ⟨⟨#[99, 97, 116]⟩, 0, false⟩, ⟨⟨#[99, 97, 116, 115]⟩, 0, false⟩, ⟨⟨#[114, 97, 116]⟩, 0, false⟩, ⟨⟨#[114, 97, 116, 115]⟩, 0, false⟩].map wvE) = x := ⟨_, rfl⟩
 rw [hF1] at hr1 hok1 hn1
 rw [hF1]
 have HF1 := Lib.hid hF1; have HOK1 := Lib.hid hok1; clear hF1 hok1
 obtain ⟨A1, c1, rfl, -⟩ := hr1.form
 dsimp only
 refine hK.out _ _ ?_; clear hK K
 refine Fact.p rfl fun K hK => ?_
 go_simp
 refine hK.out _ _ ?_; clear hK K
 refine Fact.p rfl fun K hK => ?_
 go_simp
 refine hK.out _ _ ?_; clear hK K
 refine Fact.p rfl fun K hK => ?_
 go_simp
 refine hK.out _ _ ?_; clear hK K
 refine Fact.p rfl fun K hK => ?_
 go_simp
 refine hK.out _ _ ?_; clear hK K
 refine Fact.p rfl fun K hK => ?_
 go_simp
 refine hK.out _ _ ?_; clear hK K
 refine Fact.p rfl fun K hK => ?_
 go_simp
 refine hK.out _ _ ?_; clear hK K
 refine Fact.nil ?_
 refine Fact.q hf (by simp only [Fact.G]) rfl fun fr1 hf1 hT => ?_
 have hKp : _ ∧ _ ∧ _ := ⟨hT 0, hT 1, hT 2⟩
 simp only [Fact.G, Nat.reduceEqDiff, Nat.reduceLT, hf.size, reduceIte, s0] at hKp
 clear hT hf s0 b17 b18 b19 b20 b21 b22 b23 b24 b16 b25 b26 b1
 obtain ⟨s0, s1, s2⟩ := hKp
 have hf := hf1; clear hf1
 obtain ⟨W1, hW1⟩ : ∃ x, w1.alloc (.cells #[.slice A1 F1.states.length c1, .int .u64 F1.init] 33) = x := ⟨_, rfl⟩
 rw [hW1]
 obtain ⟨bW1, y1, z1, -, -⟩ := box2 hW1
 clear hW1
 replace hbt := hbt.trans (bW1.mono hbt.size)
 replace hr1 := hr1.later bW1
 refine Fact.nx (hK2 _ _ ?_)
 refine wp_seq_k (fun K3 hK3 => ?_)
 refine Fact.region ?_
 have b28 := hf.l 28 rfl
 have b29 := hf.l 29 rfl
 have b27 := hf.l 27 rfl
 have b30 := hf.l 30 rfl
 have b31 := hf.l 31 rfl
 refine Fact.p rfl fun K hK => ?_
 go_simp
 refine hK.out _ _ ?_; clear hK K
 refine Fact.p rfl fun K hK => ?_
 go_simp
 go_at_call 22; refine (size22 W1 _ F1.init F1.states hr1 (fun s hs => (HOK1.out s hs).ok) (by omega) (fun s hs => by have := (HOK1.out s hs).few; omega)).mono ?_; rintro e w2 ⟨rfl, hb2⟩
 rw [show (arcCount F1.states) = 6 by rw [← HF1.out]; kernel_rfl, show F1.states.length = 5 by rw [← HF1.out]; kernel_rfl]
 replace hbt := hbt.trans (hb2.mono hbt.size)
 replace hr1 := hr1.later hb2
 replace y1 := cell_later hb2 y1
 replace z1 := cell_later hb2 z1
 clear y1 z1 hr1 HOK1 HF1 hn1
 dsimp only
 refine hK.out _ _ ?_; clear hK K
 refine Fact.p rfl fun K hK => ?_
 go_simp
 refine hK.out _ _ ?_; clear hK K
 refine Fact.p rfl fun K hK => ?_
 go_simp
 refine hK.out _ _ ?_; clear hK K
 refine Fact.p rfl fun K hK => ?_
 go_simp
 refine hK.out _ _ ?_; clear hK K
 refine Fact.p rfl fun K hK => ?_
 go_simp
 refine hK.out _ _ ?_; clear hK K
 refine Fact.p rfl fun K hK => ?_
 go_simp
 refine hK.out _ _ ?_; clear hK K
 refine Fact.nil ?_
 refine Fact.q hf (by simp only [Fact.G]) rfl fun fr1 hf1 hT => ?_
 have hKp : _ ∧ _ ∧ _ ∧ _ := ⟨hT 0, hT 2, hT 3, hT 4⟩
 simp only [Fact.G, Nat.reduceEqDiff, Nat.reduceLT, hf.size, reduceIte, s0, s2] at hKp
 clear hT hf s0 s1 s2 b28 b29 b27 b30 b31
 obtain ⟨s0, s2, s3, s4⟩ := hKp
 have hf := hf1; clear hf1
 refine Fact.nx (hK3 _ _ ?_)
 refine wp_seq_k (fun K4 hK4 => ?_)
 refine Fact.region ?_
 have b33 := hf.l 33 rfl
 have b34 := hf.l 34 rfl
 have b35 := hf.l 35 rfl
 have b36 := hf.l 36 rfl
 have b32 := hf.l 32 rfl
 have b37 := hf.l 37 rfl
 have b38 := hf.l 38 rfl
 have b5 := hf.l 5 rfl
 refine Fact.p rfl fun K hK => ?_
 go_simp
 refine hK.out _ _ ?_; clear hK K
 refine Fact.p rfl fun K hK => ?_
 go_simp
 refine hK.out _ _ ?_; clear hK K
 refine Fact.p rfl fun K hK => ?_
 go_simp
 obtain ⟨V2, hV2⟩ : ∃ x, World.alloc w2 (.cells #[.string ⟨#[98]⟩, .int .u32 0, .bool false, .string ⟨#[97]⟩, .int .u32 0, .bool false] 42) = x := ⟨_, rfl⟩
 rw [hV2]
 obtain ⟨bV2, x35⟩ := RE.lit hV2 [⟨⟨#[98]⟩, 0, false⟩, ⟨⟨#[97]⟩, 0, false⟩] rfl
 replace hbt := hbt.trans (bV2.mono hbt.size)
 clear hV2
 refine hK.out _ _ ?_; clear hK K
 refine Fact.p rfl fun K hK => ?_
 go_simp
 go_at_call 8; refine (build8b V2 [⟨⟨#[98]⟩, 0, false⟩, ⟨⟨#[97]⟩, 0, false⟩] V2.heap.size _ (Nat.le_refl _) x35 (by decide) (by rw [chk_val [⟨⟨#[98]⟩, 0, false⟩, ⟨⟨#[97]⟩, 0, false⟩] 15 (by kernel_rfl)]; decide)).mono ?_; rintro e w3 ⟨rfl, hb3⟩
 replace hbt := hbt.trans (hb3.mono hbt.size)
 replace x35 := (x35.below hb3).any
 rw [show chkN [⟨⟨#[98]⟩, 0, false⟩, ⟨⟨#[97]⟩, 0, false⟩] = 15 from chk_val _ _ (by kernel_rfl)]
 dsimp only
 refine hK.out _ _ ?_; clear hK K
 refine Fact.p rfl fun K hK => ?_
 go_simp
 refine hK.out _ _ ?_; clear hK K
 refine Fact.p rfl fun K hK => ?_
 go_simp
 refine hK.out _ _ ?_; clear hK K
 refine Fact.p rfl fun K hK => ?_
 go_simp
 refine hK.out _ _ ?_; clear hK K
 refine Fact.p rfl fun K hK => ?_
 go_simp
 refine hK.out _ _ ?_; clear hK K
 refine Fact.p rfl fun K hK => ?_
 go_simp
 refine hK.out _ _ ?_; clear hK K
 refine Fact.p rfl fun K hK => ?_
 go_simp
 refine hK.out _ _ ?_; clear hK K
 refine Fact.nil ?_
 refine Fact.q hf (by simp only [Fact.G]) rfl fun fr1 hf1 hT => ?_
 have hKp : _ ∧ _ ∧ _ ∧ _ ∧ _ := ⟨hT 0, hT 2, hT 3, hT 4, hT 6⟩
 simp only [Fact.G, Nat.reduceEqDiff, Nat.reduceLT, hf.size, reduceIte, s0, s2, s3, s4] at hKp
 clear hT hf s0 s2 s3 s4 b33 b34 b35 b36 b32 b37 b38 b5
 obtain ⟨s0, s2, s3, s4, s6⟩ := hKp
 have hf := hf1; clear hf1
 obtain ⟨W3, hW3⟩ : ∃ x, w3.alloc (.cells #[.slice none 0 0, .int .u64 0] 33) = x := ⟨_, rfl⟩
 rw [hW3]
 obtain ⟨bW3, y3, z3, -, -⟩ := box2 hW3
 clear hW3
 replace hbt := hbt.trans (bW3.mono hbt.size)
 clear y3 z3
 refine Fact.nx (hK4 _ _ ?_)
 refine wp_seq_k (fun K5 hK5 => ?_)
 refine Fact.region ?_
 have b40 := hf.l 40 rfl
 have b41 := hf.l 41 rfl
 have b42 := hf.l 42 rfl
 have b39 := hf.l 39 rfl
 have b43 := hf.l 43 rfl
 have b44 := hf.l 44 rfl
 have b7 := hf.l 7 rfl
 refine Fact.p rfl fun K hK => ?_
 go_simp
 refine hK.out _ _ ?_; clear hK K
 refine Fact.p rfl fun K hK => ?_
 go_simp
 obtain ⟨V3, hV3⟩ : ∃ x, World.alloc W3 (.cells #[.string ⟨#[]⟩, .int .u32 0, .bool false] 42) = x := ⟨_, rfl⟩
 rw [hV3]
 obtain ⟨bV3, x41⟩ := RE.lit hV3 [⟨⟨#[]⟩, 0, false⟩] rfl
 replace hbt := hbt.trans (bV3.mono hbt.size)
 clear hV3
 refine hK.out _ _ ?_; clear hK K
 refine Fact.p rfl fun K hK => ?_
 go_simp
 go_at_call 8; refine (build8b V3 [⟨⟨#[]⟩, 0, false⟩] V3.heap.size _ (Nat.le_refl _) x41 (by decide) (by rw [chk_val [⟨⟨#[]⟩, 0, false⟩] 7 (by kernel_rfl)]; decide)).mono ?_; rintro e w4 ⟨rfl, hb4⟩
 replace hbt := hbt.trans (hb4.mono hbt.size)
 replace x41 := (x41.below hb4).any
 rw [show chkN [⟨⟨#[]⟩, 0, false⟩] = 7 from chk_val _ _ (by kernel_rfl)]
 dsimp only
 refine hK.out _ _ ?_; clear hK K
 refine Fact.p rfl fun K hK => ?_
 go_simp
 refine hK.out _ _ ?_; clear hK K
 refine Fact.p rfl fun K hK => ?_
 go_simp
 refine hK.out _ _ ?_; clear hK K
 refine Fact.p rfl fun K hK => ?_
 go_simp
 refine hK.out _ _ ?_; clear hK K
 refine Fact.p rfl fun K hK => ?_
 go_simp
 refine hK.out _ _ ?_; clear hK K
 refine Fact.p rfl fun K hK => ?_
 go_simp
 refine hK.out _ _ ?_; clear hK K
 refine Fact.p rfl fun K hK => ?_
 go_simp
 refine hK.out _ _ ?_; clear hK K
 refine Fact.nil ?_
 refine Fact.q hf (by simp only [Fact.G]) rfl fun fr1 hf1 hT => ?_
 have hKp : _ ∧ _ ∧ _ ∧ _ ∧ _ ∧ _ := ⟨hT 0, hT 2, hT 3, hT 4, hT 6, hT 8⟩
 simp only [Fact.G, Nat.reduceEqDiff, Nat.reduceLT, hf.size, reduceIte, s0, s2, s3, s4, s6] at hKp
 clear hT hf s0 s2 s3 s4 s6 b40 b41 b42 b39 b43 b44 b7
 obtain ⟨s0, s2, s3, s4, s6, s8⟩ := hKp
 have hf := hf1; clear hf1
 obtain ⟨W4, hW4⟩ : ∃ x, w4.alloc (.cells #[.slice none 0 0, .int .u64 0] 33) = x := ⟨_, rfl⟩
 rw [hW4]
 obtain ⟨bW4, y4, z4, -, -⟩ := box2 hW4
 clear hW4
 replace hbt := hbt.trans (bW4.mono hbt.size)
 clear y4 z4
 refine Fact.nx (hK5 _ _ ?_)
 refine wp_seq_k (fun K6 hK6 => ?_)
 refine Fact.region ?_
 have b46 := hf.l 46 rfl
 have b47 := hf.l 47 rfl
 have b48 := hf.l 48 rfl
 have b49 := hf.l 49 rfl
 have b50 := hf.l 50 rfl
 have b45 := hf.l 45 rfl
 have b51 := hf.l 51 rfl
 have b52 := hf.l 52 rfl
 have b9 := hf.l 9 rfl
 refine Fact.p rfl fun K hK => ?_
 go_simp
 refine hK.out _ _ ?_; clear hK K
 refine Fact.p rfl fun K hK => ?_
 go_simp
 refine hK.out _ _ ?_; clear hK K
 refine Fact.p rfl fun K hK => ?_
 go_simp
 refine hK.out _ _ ?_; clear hK K
 refine Fact.p rfl fun K hK => ?_
 go_simp
 obtain ⟨V4, hV4⟩ : ∃ x, World.alloc W4 (.cells #[.string ⟨#[97, 120]⟩, .int .u32 6, .bool false, .string ⟨#[98, 120]⟩, .int .u32 4294967295, .bool false, .string ⟨#[98, 121]⟩, .int .u32 0, .bool true] 42) = x := ⟨_, rfl⟩
 rw [hV4]
 obtain ⟨bV4, x49⟩ := RE.lit hV4 [⟨⟨#[97, 120]⟩, 6, false⟩, ⟨⟨#[98, 120]⟩, 4294967295, false⟩, ⟨⟨#[98, 121]⟩, 0, true⟩] rfl
 replace hbt := hbt.trans (bV4.mono hbt.size)
 clear hV4
 refine hK.out _ _ ?_; clear hK K
 refine Fact.p rfl fun K hK => ?_
 go_simp
 go_at_call 8; refine (build8 V4 [⟨⟨#[97, 120]⟩, 6, false⟩, ⟨⟨#[98, 120]⟩, 4294967295, false⟩, ⟨⟨#[98, 121]⟩, 0, true⟩] V4.heap.size _ (Nat.le_refl _) x49 (by decide) (okE_all _ (by kernel_rfl))).mono ?_; rintro e w5 ⟨sv5, rfl, hr5, hok5, hn5, hb5⟩
 replace hbt := hbt.trans (hb5.mono hbt.size)
 replace x49 := (x49.below hb5).any
 rw [show chkN [⟨⟨#[97, 120]⟩, 6, false⟩, ⟨⟨#[98, 120]⟩, 4294967295, false⟩, ⟨⟨#[98, 121]⟩, 0, true⟩] = 0 from chk_zero _ (by kernel_rfl)]
 have hbf : buildF [⟨⟨#[97, 120]⟩, 6, false⟩, ⟨⟨#[98, 120]⟩, 4294967295, false⟩, ⟨⟨#[98, 121]⟩, 0, true⟩] = build ([⟨⟨#[97, 120]⟩, 6, false⟩, ⟨⟨#[98, 120]⟩, 4294967295, false⟩, ⟨⟨#[98, 121]⟩, 0, true⟩].map wvE) := if_pos (chk_zero _ (by kernel_rfl))
 rw [hbf] at hr5 hok5 hn5
 rw [hbf]
 clear hbf
 obtain ⟨F5, hF5⟩ : ∃ x, build ([⟨⟨#[97, 120]⟩, 6, false⟩, ⟨⟨#[98, 120]⟩, 4294967295, false⟩, ⟨⟨#[98, 121]⟩, 0, true⟩].map wvE) = x := ⟨_, rfl⟩
 rw [hF5] at hr5 hok5 hn5
 rw [hF5]
 have HF5 := Lib.hid hF5; have HOK5 := Lib.hid hok5; clear hF5 hok5
 obtain ⟨A5, c5, rfl, -⟩ := hr5.form
 dsimp only
 refine hK.out _ _ ?_; clear hK K
 refine Fact.p rfl fun K hK => ?_
 go_simp
 refine hK.out _ _ ?_; clear hK K
 refine Fact.p rfl fun K hK => ?_
 go_simp
 refine hK.out _ _ ?_; clear hK K
 refine Fact.p rfl fun K hK => ?_
 go_simp
 refine hK.out _ _ ?_; clear hK K
 refine Fact.p rfl fun K hK => ?_
 go_simp
 refine hK.out _ _ ?_; clear hK K
 refine Fact.p rfl fun K hK => ?_
 go_simp
 refine hK.out _ _ ?_; clear hK K
 refine Fact.p rfl fun K hK => ?_
 go_simp
 refine hK.out _ _ ?_; clear hK K
 refine Fact.nil ?_
 refine Fact.q hf (by simp only [Fact.G]) rfl fun fr1 hf1 hT => ?_
 have hKp : _ ∧ _ ∧ _ ∧ _ ∧ _ ∧ _ ∧ _ ∧ _ := ⟨hT 0, hT 2, hT 3, hT 4, hT 6, hT 8, hT 9, hT 10⟩
 simp only [Fact.G, Nat.reduceEqDiff, Nat.reduceLT, hf.size, reduceIte, s0, s2, s3, s4, s6, s8] at hKp
 clear hT hf s0 s2 s3 s4 s6 s8 b46 b47 b48 b49 b50 b45 b51 b52 b9
 obtain ⟨s0, s2, s3, s4, s6, s8, s9, s10⟩ := hKp
 have hf := hf1; clear hf1
 obtain ⟨W5, hW5⟩ : ∃ x, w5.alloc (.cells #[.slice A5 F5.states.length c5, .int .u64 F5.init] 33) = x := ⟨_, rfl⟩
 rw [hW5]
 obtain ⟨bW5, y5, z5, -, -⟩ := box2 hW5
 clear hW5
 replace hbt := hbt.trans (bW5.mono hbt.size)
 replace hr5 := hr5.later bW5
 refine Fact.nx (hK6 _ _ ?_)
 refine wp_seq_k (fun K7 hK7 => ?_)
 refine Fact.region ?_
 have b53 := hf.l 53 rfl
 have b11 := hf.l 11 rfl
 refine Fact.p rfl fun K hK => ?_
 go_simp
 refine hK.out _ _ ?_; clear hK K
 refine Fact.p rfl fun K hK => ?_
 go_simp
 refine hK.out _ _ ?_; clear hK K
 refine Fact.p rfl fun K hK => ?_
 go_simp
 refine hK.out _ _ ?_; clear hK K
 refine Fact.nil ?_
 refine Fact.q hf (by simp only [Fact.G]) rfl fun fr1 hf1 hT => ?_
 have hKp : _ ∧ _ ∧ _ ∧ _ ∧ _ ∧ _ ∧ _ ∧ _ ∧ _ := ⟨hT 0, hT 2, hT 3, hT 4, hT 6, hT 8, hT 9, hT 10, hT 11⟩
 simp only [Fact.G, Nat.reduceEqDiff, Nat.reduceLT, hf.size, reduceIte, s0, s2, s3, s4, s6, s8, s9, s10] at hKp
 clear hT hf s0 s2 s3 s4 s6 s8 s9 s10 b53 b11
 obtain ⟨s0, s2, s3, s4, s6, s8, s9, s10, s11⟩ := hKp
 have hf := hf1; clear hf1
 obtain ⟨W6, hW6⟩ : ∃ x, W5.alloc (.cells #[.slice none 0 0, .bool true, .int .u64 0] 61) = x := ⟨_, rfl⟩
 rw [hW6]
 obtain ⟨bW6, d0, d1, d2, -, -⟩ := box3 hW6
 clear hW6
 replace hbt := hbt.trans (bW6.mono hbt.size)
 replace hr5 := hr5.later bW6
 replace y5 := cell_later bW6 y5
 replace z5 := cell_later bW6 z5
 refine Fact.nx (hK7 _ _ ?_)
 refine wp_seq_k (fun K8 hK8 => ?_)
 refine Fact.region ?_
 have b54 := hf.l 54 rfl
 have b55 := hf.l 55 rfl
 refine Fact.p rfl fun K hK => ?_
 go_simp
 refine hK.out _ _ ?_; clear hK K
 refine Fact.p rfl fun K hK => ?_
 go_simp
 obtain ⟨V5, hV5⟩ : ∃ x, World.alloc W6 (.cells #[.int .u8 97, .int .u64 0, .int .i64 (0)] 63) = x := ⟨_, rfl⟩
 rw [hV5]
 obtain ⟨bV5, x55⟩ := RA.lit hV5 [⟨97, 0, 0⟩] rfl
 replace hbt := hbt.trans (bV5.mono hbt.size)
 replace hr5 := hr5.later bV5
 replace y5 := cell_later bV5 y5
 replace z5 := cell_later bV5 z5
 replace d0 := cell_later bV5 d0
 replace d1 := cell_later bV5 d1
 replace d2 := cell_later bV5 d2
 clear hV5
 refine hK.out _ _ ?_; clear hK K
 refine Fact.p rfl fun K hK => ?_
 go_simp
 refine hK.out _ _ ?_; clear hK K
 refine Fact.nil ?_
 refine Fact.q hf (by simp only [Fact.G]) rfl fun fr1 hf1 hT => ?_
 have hKp : _ ∧ _ ∧ _ ∧ _ ∧ _ ∧ _ ∧ _ ∧ _ ∧ _ ∧ _ := ⟨hT 0, hT 2, hT 3, hT 4, hT 6, hT 8, hT 9, hT 10, hT 11, hT 12⟩
 simp only [Fact.G, Nat.reduceEqDiff, Nat.reduceLT, hf.size, reduceIte, s0, s2, s3, s4, s6, s8, s9, s10, s11] at hKp
 clear hT hf s0 s2 s3 s4 s6 s8 s9 s10 s11 b54 b55
 obtain ⟨s0, s2, s3, s4, s6, s8, s9, s10, s11, s12⟩ := hKp
 have hf := hf1; clear hf1
 refine Fact.nx (hK8 _ _ ?_)
 refine wp_seq_k (fun K9 hK9 => ?_)
 refine Fact.region ?_
 have b56 := hf.l 56 rfl
 have b57 := hf.l 57 rfl
 have b58 := hf.l 58 rfl
 have b59 := hf.l 59 rfl
 have b60 := hf.l 60 rfl
 have b61 := hf.l 61 rfl
 have b62 := hf.l 62 rfl
 have b63 := hf.l 63 rfl
 have b64 := hf.l 64 rfl
 have b65 := hf.l 65 rfl
 have b66 := hf.l 66 rfl
 have b67 := hf.l 67 rfl
 have b68 := hf.l 68 rfl
 have b69 := hf.l 69 rfl
 have b70 := hf.l 70 rfl
 have b71 := hf.l 71 rfl
 have b72 := hf.l 72 rfl
 have b73 := hf.l 73 rfl
 have b74 := hf.l 74 rfl
 have b75 := hf.l 75 rfl
 have b76 := hf.l 76 rfl
 have b77 := hf.l 77 rfl
 have b78 := hf.l 78 rfl
 have b79 := hf.l 79 rfl
 have b80 := hf.l 80 rfl
 have b81 := hf.l 81 rfl
 have b82 := hf.l 82 rfl
 have b83 := hf.l 83 rfl
 have b84 := hf.l 84 rfl
 have b85 := hf.l 85 rfl
 have b86 := hf.l 86 rfl
 have b87 := hf.l 87 rfl
 have b88 := hf.l 88 rfl
 have b89 := hf.l 89 rfl
 have b90 := hf.l 90 rfl
 have b91 := hf.l 91 rfl
 have b92 := hf.l 92 rfl
 have b93 := hf.l 93 rfl
 have b94 := hf.l 94 rfl
 have b95 := hf.l 95 rfl
 have b96 := hf.l 96 rfl
 have b97 := hf.l 97 rfl
 have b98 := hf.l 98 rfl
 have b99 := hf.l 99 rfl
 have b100 := hf.l 100 rfl
 have b101 := hf.l 101 rfl
 have b102 := hf.l 102 rfl
 have b103 := hf.l 103 rfl
 have b104 := hf.l 104 rfl
 have b105 := hf.l 105 rfl
 have b106 := hf.l 106 rfl
 have b107 := hf.l 107 rfl
 have b108 := hf.l 108 rfl
 have b109 := hf.l 109 rfl
 have b110 := hf.l 110 rfl
 have b111 := hf.l 111 rfl
 have b112 := hf.l 112 rfl
 have b113 := hf.l 113 rfl
 have b114 := hf.l 114 rfl
 have b115 := hf.l 115 rfl
 have b116 := hf.l 116 rfl
 have b117 := hf.l 117 rfl
 have b118 := hf.l 118 rfl
 have b119 := hf.l 119 rfl
 have b120 := hf.l 120 rfl
 have b121 := hf.l 121 rfl
 have b122 := hf.l 122 rfl
 have b123 := hf.l 123 rfl
 have b124 := hf.l 124 rfl
 refine Fact.p rfl fun K hK => ?_
 go_simp
 refine hK.out _ _ ?_; clear hK K
 refine Fact.p rfl fun K hK => ?_
 go_simp
 refine hK.out _ _ ?_; clear hK K
 refine Fact.p rfl fun K hK => ?_
 go_simp
 refine hK.out _ _ ?_; clear hK K
 refine Fact.p rfl fun K hK => ?_
 go_simp
 obtain ⟨V6, hV6⟩ : ∃ x, World.alloc V5 (.cells #[.slice none 0 0, .bool false, .int .u64 0, .slice none 0 0, .bool false, .int .u64 0] 61) = x := ⟨_, rfl⟩
 rw [hV6]
 obtain ⟨bV6, x59⟩ := RS.lit hV6 [(.slice none 0 0, ⟨false, 0, []⟩), (.slice none 0 0, ⟨false, 0, []⟩)] rfl (fun x hx => by simp only [List.mem_cons, List.not_mem_nil, or_false] at hx; rcases hx with rfl | rfl; all_goals first | exact RA.nil_)
 replace hbt := hbt.trans (bV6.mono hbt.size)
 replace hr5 := hr5.later bV6
 replace y5 := cell_later bV6 y5
 replace z5 := cell_later bV6 z5
 replace d0 := cell_later bV6 d0
 replace d1 := cell_later bV6 d1
 replace d2 := cell_later bV6 d2
 replace x55 := x55.later bV6
 clear hV6
 refine hK.out _ _ ?_; clear hK K
 refine Fact.p rfl fun K hK => ?_
 go_simp
 refine hK.out _ _ ?_; clear hK K
 refine Fact.p rfl fun K hK => ?_
 go_simp
 refine hK.out _ _ ?_; clear hK K
 refine Fact.p rfl fun K hK => ?_
 go_simp
 obtain ⟨V7, hV7⟩ : ∃ x, World.alloc V6 (.cells #[.slice none 0 0, .bool false, .int .u64 0] 61) = x := ⟨_, rfl⟩
 rw [hV7]
 obtain ⟨bV7, x62⟩ := RS.lit hV7 [(.slice none 0 0, ⟨false, 0, []⟩)] rfl (fun x hx => by simp only [List.mem_cons, List.not_mem_nil, or_false] at hx; subst hx; all_goals first | exact RA.nil_)
 replace hbt := hbt.trans (bV7.mono hbt.size)
 replace hr5 := hr5.later bV7
 replace y5 := cell_later bV7 y5
 replace z5 := cell_later bV7 z5
 replace d0 := cell_later bV7 d0
 replace d1 := cell_later bV7 d1
 replace d2 := cell_later bV7 d2
 replace x55 := x55.later bV7
 replace x59 := x59.later bV7
 clear hV7
 refine hK.out _ _ ?_; clear hK K
 refine Fact.p rfl fun K hK => ?_
 go_simp
 refine hK.out _ _ ?_; clear hK K
 refine Fact.p rfl fun K hK => ?_
 go_simp
 refine hK.out _ _ ?_; clear hK K
 refine Fact.p rfl fun K hK => ?_
 go_simp
 obtain ⟨V8, hV8⟩ : ∃ x, World.alloc V7 (.cells #[.slice none 0 0, .bool false, .int .u64 1] 61) = x := ⟨_, rfl⟩
 rw [hV8]
 obtain ⟨bV8, x65⟩ := RS.lit hV8 [(.slice none 0 0, ⟨false, 1, []⟩)] rfl (fun x hx => by simp only [List.mem_cons, List.not_mem_nil, or_false] at hx; subst hx; all_goals first | exact RA.nil_)
 replace hbt := hbt.trans (bV8.mono hbt.size)
 replace hr5 := hr5.later bV8
 replace y5 := cell_later bV8 y5
 replace z5 := cell_later bV8 z5
 replace d0 := cell_later bV8 d0
 replace d1 := cell_later bV8 d1
 replace d2 := cell_later bV8 d2
 replace x55 := x55.later bV8
 replace x59 := x59.later bV8
 replace x62 := x62.later bV8
 clear hV8
 refine hK.out _ _ ?_; clear hK K
 refine Fact.p rfl fun K hK => ?_
 go_simp
 refine hK.out _ _ ?_; clear hK K
 refine Fact.p rfl fun K hK => ?_
 go_simp
 refine hK.out _ _ ?_; clear hK K
 refine Fact.p rfl fun K hK => ?_
 go_simp
 obtain ⟨V9, hV9⟩ : ∃ x, World.alloc V8 (.cells #[.slice none 0 0, .bool true, .int .u64 1] 61) = x := ⟨_, rfl⟩
 rw [hV9]
 obtain ⟨bV9, x68⟩ := RS.lit hV9 [(.slice none 0 0, ⟨true, 1, []⟩)] rfl (fun x hx => by simp only [List.mem_cons, List.not_mem_nil, or_false] at hx; subst hx; all_goals first | exact RA.nil_)
 replace hbt := hbt.trans (bV9.mono hbt.size)
 replace hr5 := hr5.later bV9
 replace y5 := cell_later bV9 y5
 replace z5 := cell_later bV9 z5
 replace d0 := cell_later bV9 d0
 replace d1 := cell_later bV9 d1
 replace d2 := cell_later bV9 d2
 replace x55 := x55.later bV9
 replace x59 := x59.later bV9
 replace x62 := x62.later bV9
 replace x65 := x65.later bV9
 clear hV9
 refine hK.out _ _ ?_; clear hK K
 refine Fact.p rfl fun K hK => ?_
 go_simp
 refine hK.out _ _ ?_; clear hK K
 refine Fact.p rfl fun K hK => ?_
 go_simp
 refine hK.out _ _ ?_; clear hK K
 refine Fact.p rfl fun K hK => ?_
 go_simp
 refine hK.out _ _ ?_; clear hK K
 refine Fact.p rfl fun K hK => ?_
 go_simp
 obtain ⟨V10, hV10⟩ : ∃ x, World.alloc V9 (.cells #[.int .u8 97, .int .u64 1, .int .i64 (0)] 63) = x := ⟨_, rfl⟩
 rw [hV10]
 obtain ⟨bV10, x72⟩ := RA.lit hV10 [⟨97, 1, 0⟩] rfl
 replace hbt := hbt.trans (bV10.mono hbt.size)
 replace hr5 := hr5.later bV10
 replace y5 := cell_later bV10 y5
 replace z5 := cell_later bV10 z5
 replace d0 := cell_later bV10 d0
 replace d1 := cell_later bV10 d1
 replace d2 := cell_later bV10 d2
 replace x55 := x55.later bV10
 replace x59 := x59.later bV10
 replace x62 := x62.later bV10
 replace x65 := x65.later bV10
 replace x68 := x68.later bV10
 clear hV10
 refine hK.out _ _ ?_; clear hK K
 refine Fact.p rfl fun K hK => ?_
 go_simp
 refine hK.out _ _ ?_; clear hK K
 refine Fact.p rfl fun K hK => ?_
 go_simp
 obtain ⟨V11, hV11⟩ : ∃ x, World.alloc V10 (.cells #[.slice none 0 0, .bool true, .int .u64 0, .slice (some ⟨V9.heap.size, 0, none⟩) 1 1, .bool false, .int .u64 0] 61) = x := ⟨_, rfl⟩
 rw [hV11]
 obtain ⟨bV11, x74⟩ := RS.lit hV11 [(.slice none 0 0, ⟨true, 0, []⟩), (.slice (some ⟨V9.heap.size, 0, none⟩) 1 1, ⟨false, 0, [⟨97, 1, 0⟩]⟩)] rfl (fun x hx => by simp only [List.mem_cons, List.not_mem_nil, or_false] at hx; rcases hx with rfl | rfl; all_goals first | exact RA.nil_ | exact x72)
 replace hbt := hbt.trans (bV11.mono hbt.size)
 replace hr5 := hr5.later bV11
 replace y5 := cell_later bV11 y5
 replace z5 := cell_later bV11 z5
 replace d0 := cell_later bV11 d0
 replace d1 := cell_later bV11 d1
 replace d2 := cell_later bV11 d2
 replace x55 := x55.later bV11
 replace x59 := x59.later bV11
 replace x62 := x62.later bV11
 replace x65 := x65.later bV11
 replace x68 := x68.later bV11
 replace x72 := x72.later bV11
 clear hV11
 refine hK.out _ _ ?_; clear hK K
 refine Fact.p rfl fun K hK => ?_
 go_simp
 refine hK.out _ _ ?_; clear hK K
 refine Fact.p rfl fun K hK => ?_
 go_simp
 refine hK.out _ _ ?_; clear hK K
 refine Fact.p rfl fun K hK => ?_
 go_simp
 refine hK.out _ _ ?_; clear hK K
 refine Fact.p rfl fun K hK => ?_
 go_simp
 refine hK.out _ _ ?_; clear hK K
 refine Fact.p rfl fun K hK => ?_
 go_simp
 refine hK.out _ _ ?_; clear hK K
 refine Fact.p rfl fun K hK => ?_
 go_simp
 obtain ⟨V12, hV12⟩ : ∃ x, World.alloc V11 (.cells #[.slice none 0 0, .bool true, .int .u64 0, .slice none 0 0, .bool true, .int .u64 0, .slice (some ⟨W6.heap.size, 0, none⟩) 1 1, .bool false, .int .u64 0] 61) = x := ⟨_, rfl⟩
 rw [hV12]
 obtain ⟨bV12, x80⟩ := RS.lit hV12 [(.slice none 0 0, ⟨true, 0, []⟩), (.slice none 0 0, ⟨true, 0, []⟩), (.slice (some ⟨W6.heap.size, 0, none⟩) 1 1, ⟨false, 0, [⟨97, 0, 0⟩]⟩)] rfl (fun x hx => by simp only [List.mem_cons, List.not_mem_nil, or_false] at hx; rcases hx with rfl | rfl | rfl; all_goals first | exact RA.nil_ | exact x55)
 replace hbt := hbt.trans (bV12.mono hbt.size)
 replace hr5 := hr5.later bV12
 replace y5 := cell_later bV12 y5
 replace z5 := cell_later bV12 z5
 replace d0 := cell_later bV12 d0
 replace d1 := cell_later bV12 d1
 replace d2 := cell_later bV12 d2
 replace x55 := x55.later bV12
 replace x59 := x59.later bV12
 replace x62 := x62.later bV12
 replace x65 := x65.later bV12
 replace x68 := x68.later bV12
 replace x72 := x72.later bV12
 replace x74 := x74.later bV12
 clear hV12
 refine hK.out _ _ ?_; clear hK K
 refine Fact.p rfl fun K hK => ?_
 go_simp
 refine hK.out _ _ ?_; clear hK K
 refine Fact.p rfl fun K hK => ?_
 go_simp
 refine hK.out _ _ ?_; clear hK K
 refine Fact.p rfl fun K hK => ?_
 go_simp
 refine hK.out _ _ ?_; clear hK K
 refine Fact.p rfl fun K hK => ?_
 go_simp
 obtain ⟨V13, hV13⟩ : ∃ x, World.alloc V12 (.cells #[.int .u8 97, .int .u64 0, .int .i64 (1)] 63) = x := ⟨_, rfl⟩
 rw [hV13]
 obtain ⟨bV13, x84⟩ := RA.lit hV13 [⟨97, 0, 1⟩] rfl
 replace hbt := hbt.trans (bV13.mono hbt.size)
 replace hr5 := hr5.later bV13
 replace y5 := cell_later bV13 y5
 replace z5 := cell_later bV13 z5
 replace d0 := cell_later bV13 d0
 replace d1 := cell_later bV13 d1
 replace d2 := cell_later bV13 d2
 replace x55 := x55.later bV13
 replace x59 := x59.later bV13
 replace x62 := x62.later bV13
 replace x65 := x65.later bV13
 replace x68 := x68.later bV13
 replace x72 := x72.later bV13
 replace x74 := x74.later bV13
 replace x80 := x80.later bV13
 clear hV13
 refine hK.out _ _ ?_; clear hK K
 refine Fact.p rfl fun K hK => ?_
 go_simp
 refine hK.out _ _ ?_; clear hK K
 refine Fact.p rfl fun K hK => ?_
 go_simp
 obtain ⟨V14, hV14⟩ : ∃ x, World.alloc V13 (.cells #[.slice none 0 0, .bool true, .int .u64 0, .slice (some ⟨V12.heap.size, 0, none⟩) 1 1, .bool false, .int .u64 0] 61) = x := ⟨_, rfl⟩
 rw [hV14]
 obtain ⟨bV14, x86⟩ := RS.lit hV14 [(.slice none 0 0, ⟨true, 0, []⟩), (.slice (some ⟨V12.heap.size, 0, none⟩) 1 1, ⟨false, 0, [⟨97, 0, 1⟩]⟩)] rfl (fun x hx => by simp only [List.mem_cons, List.not_mem_nil, or_false] at hx; rcases hx with rfl | rfl; all_goals first | exact RA.nil_ | exact x84)
 replace hbt := hbt.trans (bV14.mono hbt.size)
 replace hr5 := hr5.later bV14
 replace y5 := cell_later bV14 y5
 replace z5 := cell_later bV14 z5
 replace d0 := cell_later bV14 d0
 replace d1 := cell_later bV14 d1
 replace d2 := cell_later bV14 d2
 replace x55 := x55.later bV14
 replace x59 := x59.later bV14
 replace x62 := x62.later bV14
 replace x65 := x65.later bV14
 replace x68 := x68.later bV14
 replace x72 := x72.later bV14
 replace x74 := x74.later bV14
 replace x80 := x80.later bV14
 replace x84 := x84.later bV14
 clear hV14
 refine hK.out _ _ ?_; clear hK K
 refine Fact.p rfl fun K hK => ?_
 go_simp
 refine hK.out _ _ ?_; clear hK K
 refine Fact.p rfl fun K hK => ?_
 go_simp
 refine hK.out _ _ ?_; clear hK K
 refine Fact.p rfl fun K hK => ?_
 go_simp
 refine hK.out _ _ ?_; clear hK K
 refine Fact.p rfl fun K hK => ?_
 go_simp
 refine hK.out _ _ ?_; clear hK K
 refine Fact.p rfl fun K hK => ?_
 go_simp
 obtain ⟨V15, hV15⟩ : ∃ x, World.alloc V14 (.cells #[.slice none 0 0, .bool false, .int .u64 0, .slice (some ⟨W6.heap.size, 0, none⟩) 1 1, .bool false, .int .u64 0] 61) = x := ⟨_, rfl⟩
 rw [hV15]
 obtain ⟨bV15, x91⟩ := RS.lit hV15 [(.slice none 0 0, ⟨false, 0, []⟩), (.slice (some ⟨W6.heap.size, 0, none⟩) 1 1, ⟨false, 0, [⟨97, 0, 0⟩]⟩)] rfl (fun x hx => by simp only [List.mem_cons, List.not_mem_nil, or_false] at hx; rcases hx with rfl | rfl; all_goals first | exact RA.nil_ | exact x55)
 replace hbt := hbt.trans (bV15.mono hbt.size)
 replace hr5 := hr5.later bV15
 replace y5 := cell_later bV15 y5
 replace z5 := cell_later bV15 z5
 replace d0 := cell_later bV15 d0
 replace d1 := cell_later bV15 d1
 replace d2 := cell_later bV15 d2
 replace x55 := x55.later bV15
 replace x59 := x59.later bV15
 replace x62 := x62.later bV15
 replace x65 := x65.later bV15
 replace x68 := x68.later bV15
 replace x72 := x72.later bV15
 replace x74 := x74.later bV15
 replace x80 := x80.later bV15
 replace x84 := x84.later bV15
 replace x86 := x86.later bV15
 clear hV15
 refine hK.out _ _ ?_; clear hK K
 refine Fact.p rfl fun K hK => ?_
 go_simp
 refine hK.out _ _ ?_; clear hK K
 refine Fact.p rfl fun K hK => ?_
 go_simp
 refine hK.out _ _ ?_; clear hK K
 refine Fact.p rfl fun K hK => ?_
 go_simp
 refine hK.out _ _ ?_; clear hK K
 refine Fact.p rfl fun K hK => ?_
 go_simp
 refine hK.out _ _ ?_; clear hK K
 refine Fact.p rfl fun K hK => ?_
 go_simp
 obtain ⟨V16, hV16⟩ : ∃ x, World.alloc V15 (.cells #[.int .u8 98, .int .u64 0, .int .i64 (0), .int .u8 97, .int .u64 0, .int .i64 (0)] 63) = x := ⟨_, rfl⟩
 rw [hV16]
 obtain ⟨bV16, x96⟩ := RA.lit hV16 [⟨98, 0, 0⟩, ⟨97, 0, 0⟩] rfl
 replace hbt := hbt.trans (bV16.mono hbt.size)
 replace hr5 := hr5.later bV16
 replace y5 := cell_later bV16 y5
 replace z5 := cell_later bV16 z5
 replace d0 := cell_later bV16 d0
 replace d1 := cell_later bV16 d1
 replace d2 := cell_later bV16 d2
 replace x55 := x55.later bV16
 replace x59 := x59.later bV16
 replace x62 := x62.later bV16
 replace x65 := x65.later bV16
 replace x68 := x68.later bV16
 replace x72 := x72.later bV16
 replace x74 := x74.later bV16
 replace x80 := x80.later bV16
 replace x84 := x84.later bV16
 replace x86 := x86.later bV16
 replace x91 := x91.later bV16
 clear hV16
 refine hK.out _ _ ?_; clear hK K
 refine Fact.p rfl fun K hK => ?_
 go_simp
 refine hK.out _ _ ?_; clear hK K
 refine Fact.p rfl fun K hK => ?_
 go_simp
 obtain ⟨V17, hV17⟩ : ∃ x, World.alloc V16 (.cells #[.slice none 0 0, .bool true, .int .u64 0, .slice (some ⟨V15.heap.size, 0, none⟩) 2 2, .bool false, .int .u64 0] 61) = x := ⟨_, rfl⟩
 rw [hV17]
 obtain ⟨bV17, x98⟩ := RS.lit hV17 [(.slice none 0 0, ⟨true, 0, []⟩), (.slice (some ⟨V15.heap.size, 0, none⟩) 2 2, ⟨false, 0, [⟨98, 0, 0⟩, ⟨97, 0, 0⟩]⟩)] rfl (fun x hx => by simp only [List.mem_cons, List.not_mem_nil, or_false] at hx; rcases hx with rfl | rfl; all_goals first | exact RA.nil_ | exact x96)
 replace hbt := hbt.trans (bV17.mono hbt.size)
 replace hr5 := hr5.later bV17
 replace y5 := cell_later bV17 y5
 replace z5 := cell_later bV17 z5
 replace d0 := cell_later bV17 d0
 replace d1 := cell_later bV17 d1
 replace d2 := cell_later bV17 d2
 replace x55 := x55.later bV17
 replace x59 := x59.later bV17
 replace x62 := x62.later bV17
 replace x65 := x65.later bV17
 replace x68 := x68.later bV17
 replace x72 := x72.later bV17
 replace x74 := x74.later bV17
 replace x80 := x80.later bV17
 replace x84 := x84.later bV17
 replace x86 := x86.later bV17
 replace x91 := x91.later bV17
 replace x96 := x96.later bV17
 clear hV17
 refine hK.out _ _ ?_; clear hK K
 refine Fact.p rfl fun K hK => ?_
 go_simp
 refine hK.out _ _ ?_; clear hK K
 refine Fact.p rfl fun K hK => ?_
 go_simp
 refine hK.out _ _ ?_; clear hK K
 refine Fact.p rfl fun K hK => ?_
 go_simp
 refine hK.out _ _ ?_; clear hK K
 refine Fact.p rfl fun K hK => ?_
 go_simp
 refine hK.out _ _ ?_; clear hK K
 refine Fact.p rfl fun K hK => ?_
 go_simp
 obtain ⟨V18, hV18⟩ : ∃ x, World.alloc V17 (.cells #[.int .u8 97, .int .u64 0, .int .i64 (0), .int .u8 97, .int .u64 0, .int .i64 (0)] 63) = x := ⟨_, rfl⟩
 rw [hV18]
 obtain ⟨bV18, x103⟩ := RA.lit hV18 [⟨97, 0, 0⟩, ⟨97, 0, 0⟩] rfl
 replace hbt := hbt.trans (bV18.mono hbt.size)
 replace hr5 := hr5.later bV18
 replace y5 := cell_later bV18 y5
 replace z5 := cell_later bV18 z5
 replace d0 := cell_later bV18 d0
 replace d1 := cell_later bV18 d1
 replace d2 := cell_later bV18 d2
 replace x55 := x55.later bV18
 replace x59 := x59.later bV18
 replace x62 := x62.later bV18
 replace x65 := x65.later bV18
 replace x68 := x68.later bV18
 replace x72 := x72.later bV18
 replace x74 := x74.later bV18
 replace x80 := x80.later bV18
 replace x84 := x84.later bV18
 replace x86 := x86.later bV18
 replace x91 := x91.later bV18
 replace x96 := x96.later bV18
 replace x98 := x98.later bV18
 clear hV18
 refine hK.out _ _ ?_; clear hK K
 refine Fact.p rfl fun K hK => ?_
 go_simp
 refine hK.out _ _ ?_; clear hK K
 refine Fact.p rfl fun K hK => ?_
 go_simp
 obtain ⟨V19, hV19⟩ : ∃ x, World.alloc V18 (.cells #[.slice none 0 0, .bool true, .int .u64 0, .slice (some ⟨V17.heap.size, 0, none⟩) 2 2, .bool false, .int .u64 0] 61) = x := ⟨_, rfl⟩
 rw [hV19]
 obtain ⟨bV19, x105⟩ := RS.lit hV19 [(.slice none 0 0, ⟨true, 0, []⟩), (.slice (some ⟨V17.heap.size, 0, none⟩) 2 2, ⟨false, 0, [⟨97, 0, 0⟩, ⟨97, 0, 0⟩]⟩)] rfl (fun x hx => by simp only [List.mem_cons, List.not_mem_nil, or_false] at hx; rcases hx with rfl | rfl; all_goals first | exact RA.nil_ | exact x103)
 replace hbt := hbt.trans (bV19.mono hbt.size)
 replace hr5 := hr5.later bV19
 replace y5 := cell_later bV19 y5
 replace z5 := cell_later bV19 z5
 replace d0 := cell_later bV19 d0
 replace d1 := cell_later bV19 d1
 replace d2 := cell_later bV19 d2
 replace x55 := x55.later bV19
 replace x59 := x59.later bV19
 replace x62 := x62.later bV19
 replace x65 := x65.later bV19
 replace x68 := x68.later bV19
 replace x72 := x72.later bV19
 replace x74 := x74.later bV19
 replace x80 := x80.later bV19
 replace x84 := x84.later bV19
 replace x86 := x86.later bV19
 replace x91 := x91.later bV19
 replace x96 := x96.later bV19
 replace x98 := x98.later bV19
 replace x103 := x103.later bV19
 clear hV19
 refine hK.out _ _ ?_; clear hK K
 refine Fact.p rfl fun K hK => ?_
 go_simp
 refine hK.out _ _ ?_; clear hK K
 refine Fact.p rfl fun K hK => ?_
 go_simp
 refine hK.out _ _ ?_; clear hK K
 refine Fact.p rfl fun K hK => ?_
 go_simp
 refine hK.out _ _ ?_; clear hK K
 refine Fact.p rfl fun K hK => ?_
 go_simp
 obtain ⟨V20, hV20⟩ : ∃ x, World.alloc V19 (.cells #[.int .u8 97, .int .u64 0, .int .i64 (-1)] 63) = x := ⟨_, rfl⟩
 rw [hV20]
 obtain ⟨bV20, x109⟩ := RA.lit hV20 [⟨97, 0, -1⟩] rfl
 replace hbt := hbt.trans (bV20.mono hbt.size)
 replace hr5 := hr5.later bV20
 replace y5 := cell_later bV20 y5
 replace z5 := cell_later bV20 z5
 replace d0 := cell_later bV20 d0
 replace d1 := cell_later bV20 d1
 replace d2 := cell_later bV20 d2
 replace x55 := x55.later bV20
 replace x59 := x59.later bV20
 replace x62 := x62.later bV20
 replace x65 := x65.later bV20
 replace x68 := x68.later bV20
 replace x72 := x72.later bV20
 replace x74 := x74.later bV20
 replace x80 := x80.later bV20
 replace x84 := x84.later bV20
 replace x86 := x86.later bV20
 replace x91 := x91.later bV20
 replace x96 := x96.later bV20
 replace x98 := x98.later bV20
 replace x103 := x103.later bV20
 replace x105 := x105.later bV20
 clear hV20
 refine hK.out _ _ ?_; clear hK K
 refine Fact.p rfl fun K hK => ?_
 go_simp
 refine hK.out _ _ ?_; clear hK K
 refine Fact.p rfl fun K hK => ?_
 go_simp
 obtain ⟨V21, hV21⟩ : ∃ x, World.alloc V20 (.cells #[.slice none 0 0, .bool true, .int .u64 0, .slice (some ⟨V19.heap.size, 0, none⟩) 1 1, .bool false, .int .u64 0] 61) = x := ⟨_, rfl⟩
 rw [hV21]
 obtain ⟨bV21, x111⟩ := RS.lit hV21 [(.slice none 0 0, ⟨true, 0, []⟩), (.slice (some ⟨V19.heap.size, 0, none⟩) 1 1, ⟨false, 0, [⟨97, 0, -1⟩]⟩)] rfl (fun x hx => by simp only [List.mem_cons, List.not_mem_nil, or_false] at hx; rcases hx with rfl | rfl; all_goals first | exact RA.nil_ | exact x109)
 replace hbt := hbt.trans (bV21.mono hbt.size)
 replace hr5 := hr5.later bV21
 replace y5 := cell_later bV21 y5
 replace z5 := cell_later bV21 z5
 replace d0 := cell_later bV21 d0
 replace d1 := cell_later bV21 d1
 replace d2 := cell_later bV21 d2
 replace x55 := x55.later bV21
 replace x59 := x59.later bV21
 replace x62 := x62.later bV21
 replace x65 := x65.later bV21
 replace x68 := x68.later bV21
 replace x72 := x72.later bV21
 replace x74 := x74.later bV21
 replace x80 := x80.later bV21
 replace x84 := x84.later bV21
 replace x86 := x86.later bV21
 replace x91 := x91.later bV21
 replace x96 := x96.later bV21
 replace x98 := x98.later bV21
 replace x103 := x103.later bV21
 replace x105 := x105.later bV21
 replace x109 := x109.later bV21
 clear hV21
 refine hK.out _ _ ?_; clear hK K
 refine Fact.p rfl fun K hK => ?_
 go_simp
 refine hK.out _ _ ?_; clear hK K
 refine Fact.p rfl fun K hK => ?_
 go_simp
 refine hK.out _ _ ?_; clear hK K
 refine Fact.p rfl fun K hK => ?_
 go_simp
 refine hK.out _ _ ?_; clear hK K
 refine Fact.p rfl fun K hK => ?_
 go_simp
 refine hK.out _ _ ?_; clear hK K
 refine Fact.p rfl fun K hK => ?_
 go_simp
 refine hK.out _ _ ?_; clear hK K
 refine Fact.p rfl fun K hK => ?_
 go_simp
 refine hK.out _ _ ?_; clear hK K
 refine Fact.p rfl fun K hK => ?_
 go_simp
 refine hK.out _ _ ?_; clear hK K
 refine Fact.p rfl fun K hK => ?_
 go_simp
 refine hK.out _ _ ?_; clear hK K
 refine Fact.p rfl fun K hK => ?_
 go_simp
 obtain ⟨V22, hV22⟩ : ∃ x, World.alloc V21 (.cells #[.int .u8 120, .int .u64 0, .int .i64 (2), .int .u8 121, .int .u64 0, .int .i64 (1)] 63) = x := ⟨_, rfl⟩
 rw [hV22]
 obtain ⟨bV22, x120⟩ := RA.lit hV22 [⟨120, 0, 2⟩, ⟨121, 0, 1⟩] rfl
 replace hbt := hbt.trans (bV22.mono hbt.size)
 replace hr5 := hr5.later bV22
 replace y5 := cell_later bV22 y5
 replace z5 := cell_later bV22 z5
 replace d0 := cell_later bV22 d0
 replace d1 := cell_later bV22 d1
 replace d2 := cell_later bV22 d2
 replace x55 := x55.later bV22
 replace x59 := x59.later bV22
 replace x62 := x62.later bV22
 replace x65 := x65.later bV22
 replace x68 := x68.later bV22
 replace x72 := x72.later bV22
 replace x74 := x74.later bV22
 replace x80 := x80.later bV22
 replace x84 := x84.later bV22
 replace x86 := x86.later bV22
 replace x91 := x91.later bV22
 replace x96 := x96.later bV22
 replace x98 := x98.later bV22
 replace x103 := x103.later bV22
 replace x105 := x105.later bV22
 replace x109 := x109.later bV22
 replace x111 := x111.later bV22
 clear hV22
 refine hK.out _ _ ?_; clear hK K
 refine Fact.p rfl fun K hK => ?_
 go_simp
 refine hK.out _ _ ?_; clear hK K
 refine Fact.p rfl fun K hK => ?_
 go_simp
 obtain ⟨V23, hV23⟩ : ∃ x, World.alloc V22 (.cells #[.slice none 0 0, .bool true, .int .u64 0, .slice (some ⟨W6.heap.size, 0, none⟩) 1 1, .bool false, .int .u64 0, .slice (some ⟨W6.heap.size, 0, none⟩) 1 1, .bool true, .int .u64 0, .slice (some ⟨V21.heap.size, 0, none⟩) 2 2, .bool false, .int .u64 0] 61) = x := ⟨_, rfl⟩
 rw [hV23]
 obtain ⟨bV23, x122⟩ := RS.lit hV23 [(.slice none 0 0, ⟨true, 0, []⟩), (.slice (some ⟨W6.heap.size, 0, none⟩) 1 1, ⟨false, 0, [⟨97, 0, 0⟩]⟩), (.slice (some ⟨W6.heap.size, 0, none⟩) 1 1, ⟨true, 0, [⟨97, 0, 0⟩]⟩), (.slice (some ⟨V21.heap.size, 0, none⟩) 2 2, ⟨false, 0, [⟨120, 0, 2⟩, ⟨121, 0, 1⟩]⟩)] rfl (fun x hx => by simp only [List.mem_cons, List.not_mem_nil, or_false] at hx; rcases hx with rfl | rfl | rfl | rfl; all_goals first | exact RA.nil_ | exact x55 | exact x55 | exact x120)
 replace hbt := hbt.trans (bV23.mono hbt.size)
 replace hr5 := hr5.later bV23
 replace y5 := cell_later bV23 y5
 replace z5 := cell_later bV23 z5
 replace d0 := cell_later bV23 d0
 replace d1 := cell_later bV23 d1
 replace d2 := cell_later bV23 d2
 replace x55 := x55.later bV23
 replace x59 := x59.later bV23
 replace x62 := x62.later bV23
 replace x65 := x65.later bV23
 replace x68 := x68.later bV23
 replace x72 := x72.later bV23
 replace x74 := x74.later bV23
 replace x80 := x80.later bV23
 replace x84 := x84.later bV23
 replace x86 := x86.later bV23
 replace x91 := x91.later bV23
 replace x96 := x96.later bV23
 replace x98 := x98.later bV23
 replace x103 := x103.later bV23
 replace x105 := x105.later bV23
 replace x109 := x109.later bV23
 replace x111 := x111.later bV23
 replace x120 := x120.later bV23
 clear hV23
 refine hK.out _ _ ?_; clear hK K
 refine Fact.p rfl fun K hK => ?_
 go_simp
 refine hK.out _ _ ?_; clear hK K
 refine Fact.p rfl fun K hK => ?_
 go_simp
 obtain ⟨V24, hV24⟩ : ∃ x, World.alloc V23 (.cells #[.slice none 0 0, .int .u64 0, .slice (some ⟨V5.heap.size, 0, none⟩) 2 2, .int .u64 0, .slice (some ⟨V6.heap.size, 0, none⟩) 1 1, .int .u64 1, .slice (some ⟨V7.heap.size, 0, none⟩) 1 1, .int .u64 0, .slice (some ⟨V8.heap.size, 0, none⟩) 1 1, .int .u64 0, .slice (some ⟨V10.heap.size, 0, none⟩) 2 2, .int .u64 0, .slice (some ⟨V11.heap.size, 0, none⟩) 3 3, .int .u64 0, .slice (some ⟨V13.heap.size, 0, none⟩) 2 2, .int .u64 0, .slice (some ⟨V14.heap.size, 0, none⟩) 2 2, .int .u64 0, .slice (some ⟨V16.heap.size, 0, none⟩) 2 2, .int .u64 0, .slice (some ⟨V18.heap.size, 0, none⟩) 2 2, .int .u64 0, .slice (some ⟨V20.heap.size, 0, none⟩) 2 2, .int .u64 0, .slice (some ⟨V22.heap.size, 0, none⟩) 4 4, .int .u64 0] 33) = x := ⟨_, rfl⟩
 rw [hV24]
 obtain ⟨bV24, x124⟩ := RF.lit hV24 [(.slice none 0 0, ⟨[], 0⟩), (.slice (some ⟨V5.heap.size, 0, none⟩) 2 2, ⟨[⟨false, 0, []⟩, ⟨false, 0, []⟩], 0⟩), (.slice (some ⟨V6.heap.size, 0, none⟩) 1 1, ⟨[⟨false, 0, []⟩], 1⟩), (.slice (some ⟨V7.heap.size, 0, none⟩) 1 1, ⟨[⟨false, 1, []⟩], 0⟩), (.slice (some ⟨V8.heap.size, 0, none⟩) 1 1, ⟨[⟨true, 1, []⟩], 0⟩), (.slice (some ⟨V10.heap.size, 0, none⟩) 2 2, ⟨[⟨true, 0, []⟩, ⟨false, 0, [⟨97, 1, 0⟩]⟩], 0⟩), (.slice (some ⟨V11.heap.size, 0, none⟩) 3 3, ⟨[⟨true, 0, []⟩, ⟨true, 0, []⟩, ⟨false, 0, [⟨97, 0, 0⟩]⟩], 0⟩), (.slice (some ⟨V13.heap.size, 0, none⟩) 2 2, ⟨[⟨true, 0, []⟩, ⟨false, 0, [⟨97, 0, 1⟩]⟩], 0⟩), (.slice (some ⟨V14.heap.size, 0, none⟩) 2 2, ⟨[⟨false, 0, []⟩, ⟨false, 0, [⟨97, 0, 0⟩]⟩], 0⟩), (.slice (some ⟨V16.heap.size, 0, none⟩) 2 2, ⟨[⟨true, 0, []⟩, ⟨false, 0, [⟨98, 0, 0⟩, ⟨97, 0, 0⟩]⟩], 0⟩), (.slice (some ⟨V18.heap.size, 0, none⟩) 2 2, ⟨[⟨true, 0, []⟩, ⟨false, 0, [⟨97, 0, 0⟩, ⟨97, 0, 0⟩]⟩], 0⟩), (.slice (some ⟨V20.heap.size, 0, none⟩) 2 2, ⟨[⟨true, 0, []⟩, ⟨false, 0, [⟨97, 0, -1⟩]⟩], 0⟩), (.slice (some ⟨V22.heap.size, 0, none⟩) 4 4, ⟨[⟨true, 0, []⟩, ⟨false, 0, [⟨97, 0, 0⟩]⟩, ⟨true, 0, [⟨97, 0, 0⟩]⟩, ⟨false, 0, [⟨120, 0, 2⟩, ⟨121, 0, 1⟩]⟩], 0⟩)] rfl (fun x hx => by simp only [List.mem_cons, List.not_mem_nil, or_false] at hx; rcases hx with rfl | rfl | rfl | rfl | rfl | rfl | rfl | rfl | rfl | rfl | rfl | rfl | rfl; all_goals first | exact RS.nil_ _ | exact x59 | exact x62 | exact x65 | exact x68 | exact x74 | exact x80 | exact x86 | exact x91 | exact x98 | exact x105 | exact x111 | exact x122)
 replace hbt := hbt.trans (bV24.mono hbt.size)
 replace hr5 := hr5.later bV24
 replace y5 := cell_later bV24 y5
 replace z5 := cell_later bV24 z5
 replace d0 := cell_later bV24 d0
 replace d1 := cell_later bV24 d1
 replace d2 := cell_later bV24 d2
 replace x55 := x55.later bV24
 replace x59 := x59.later bV24
 replace x62 := x62.later bV24
 replace x65 := x65.later bV24
 replace x68 := x68.later bV24
 replace x72 := x72.later bV24
 replace x74 := x74.later bV24
 replace x80 := x80.later bV24
 replace x84 := x84.later bV24
 replace x86 := x86.later bV24
 replace x91 := x91.later bV24
 replace x96 := x96.later bV24
 replace x98 := x98.later bV24
 replace x103 := x103.later bV24
 replace x105 := x105.later bV24
 replace x109 := x109.later bV24
 replace x111 := x111.later bV24
 replace x120 := x120.later bV24
 replace x122 := x122.later bV24
 clear hV24
 refine hK.out _ _ ?_; clear hK K
 refine Fact.p rfl fun K hK => ?_
 go_simp
 refine hK.out _ _ ?_; clear hK K
 refine Fact.nil ?_
 refine Fact.q hf (by simp only [Fact.G]) rfl fun fr1 hf1 hT => ?_
 have hKp : _ ∧ _ ∧ _ ∧ _ ∧ _ ∧ _ ∧ _ ∧ _ ∧ _ := ⟨hT 0, hT 2, hT 3, hT 4, hT 6, hT 8, hT 9, hT 10, hT 13⟩
 simp only [Fact.G, Nat.reduceEqDiff, Nat.reduceLT, hf.size, reduceIte, s0, s2, s3, s4, s6, s8, s9, s10] at hKp
 clear hT hf s0 s2 s3 s4 s6 s8 s9 s10 s11 s12 b56 b57 b58 b59 b60 b61 b62 b63 b64 b65 b66 b67 b68 b69 b70 b71 b72 b73 b74 b75 b76 b77 b78 b79 b80 b81 b82 b83 b84 b85 b86 b87 b88 b89 b90 b91 b92 b93 b94 b95 b96 b97 b98 b99 b100 b101 b102 b103 b104 b105 b106 b107 b108 b109 b110 b111 b112 b113 b114 b115 b116 b117 b118 b119 b120 b121 b122 b123 b124
 obtain ⟨s0, s2, s3, s4, s6, s8, s9, s10, s13⟩ := hKp
 have hf := hf1; clear hf1
 clear d0 d1 d2
 refine Fact.nx (hK9 _ _ ?_)
 refine wp_seq_k (fun K10 hK10 => ?_)
 refine wp_seq_k (fun K11 hK11 => ?_)
 refine Fact.region ?_
 refine Fact.p rfl fun K hK => ?_
 go_simp
 refine hK.out _ _ ?_; clear hK K
 refine Fact.nil ?_
 refine Fact.q hf (by simp only [Fact.G]) rfl fun fr1 hf1 hT => ?_
 have hKp : _ ∧ _ ∧ _ ∧ _ ∧ _ ∧ _ ∧ _ ∧ _ ∧ _ ∧ _ := ⟨hT 0, hT 2, hT 3, hT 4, hT 6, hT 8, hT 9, hT 10, hT 13, hT 14⟩
 simp only [Fact.G, Nat.reduceEqDiff, Nat.reduceLT, hf.size, reduceIte, s0, s2, s3, s4, s6, s8, s9, s10, s13] at hKp
 clear hT hf s0 s2 s3 s4 s6 s8 s9 s10 s13
 obtain ⟨s0, s2, s3, s4, s6, s8, s9, s10, s13, s14⟩ := hKp
 have hf := hf1; clear hf1
 refine Fact.nx (hK11 _ _ ?_)
 refine wp_block ?_
 have hrf : RF V24 (.slice (some ⟨V23.heap.size, 0, none⟩) 13 13) ([⟨[], 0⟩, ⟨[⟨false, 0, []⟩, ⟨false, 0, []⟩], 0⟩, ⟨[⟨false, 0, []⟩], 1⟩, ⟨[⟨false, 1, []⟩], 0⟩, ⟨[⟨true, 1, []⟩], 0⟩, ⟨[⟨true, 0, []⟩, ⟨false, 0, [⟨97, 1, 0⟩]⟩], 0⟩, ⟨[⟨true, 0, []⟩, ⟨true, 0, []⟩, ⟨false, 0, [⟨97, 0, 0⟩]⟩], 0⟩, ⟨[⟨true, 0, []⟩, ⟨false, 0, [⟨97, 0, 1⟩]⟩], 0⟩, ⟨[⟨false, 0, []⟩, ⟨false, 0, [⟨97, 0, 0⟩]⟩], 0⟩, ⟨[⟨true, 0, []⟩, ⟨false, 0, [⟨98, 0, 0⟩, ⟨97, 0, 0⟩]⟩], 0⟩, ⟨[⟨true, 0, []⟩, ⟨false, 0, [⟨97, 0, 0⟩, ⟨97, 0, 0⟩]⟩], 0⟩, ⟨[⟨true, 0, []⟩, ⟨false, 0, [⟨97, 0, -1⟩]⟩], 0⟩, ⟨[⟨true, 0, []⟩, ⟨false, 0, [⟨97, 0, 0⟩]⟩, ⟨true, 0, [⟨97, 0, 0⟩]⟩, ⟨false, 0, [⟨120, 0, 2⟩, ⟨121, 0, 1⟩]⟩], 0⟩] : List Fst) := x124
 clear x55 x59 x62 x65 x68 x72 x74 x80 x84 x86 x91 x96 x98 x103 x105 x109 x111 x120 x122 x124
 obtain ⟨bads, hbads⟩ : ∃ x, ([⟨[], 0⟩, ⟨[⟨false, 0, []⟩, ⟨false, 0, []⟩], 0⟩, ⟨[⟨false, 0, []⟩], 1⟩, ⟨[⟨false, 1, []⟩], 0⟩, ⟨[⟨true, 1, []⟩], 0⟩, ⟨[⟨true, 0, []⟩, ⟨false, 0, [⟨97, 1, 0⟩]⟩], 0⟩, ⟨[⟨true, 0, []⟩, ⟨true, 0, []⟩, ⟨false, 0, [⟨97, 0, 0⟩]⟩], 0⟩, ⟨[⟨true, 0, []⟩, ⟨false, 0, [⟨97, 0, 1⟩]⟩], 0⟩, ⟨[⟨false, 0, []⟩, ⟨false, 0, [⟨97, 0, 0⟩]⟩], 0⟩, ⟨[⟨true, 0, []⟩, ⟨false, 0, [⟨98, 0, 0⟩, ⟨97, 0, 0⟩]⟩], 0⟩, ⟨[⟨true, 0, []⟩, ⟨false, 0, [⟨97, 0, 0⟩, ⟨97, 0, 0⟩]⟩], 0⟩, ⟨[⟨true, 0, []⟩, ⟨false, 0, [⟨97, 0, -1⟩]⟩], 0⟩, ⟨[⟨true, 0, []⟩, ⟨false, 0, [⟨97, 0, 0⟩]⟩, ⟨true, 0, [⟨97, 0, 0⟩]⟩, ⟨false, 0, [⟨120, 0, 2⟩, ⟨121, 0, 1⟩]⟩], 0⟩] : List Fst) = x := ⟨_, rfl⟩
 rw [hbads] at hrf
 have hbl : bads.length = 13 := by rw [← hbads]; rfl
 have hfal : ∀ x ∈ bads, rightF x.states x.init = false := by rw [← hbads]; exact bads_false _ (by kernel_rfl)
 have hoks : ∀ x ∈ bads, (∀ s ∈ x.states, okS s) ∧ x.states.length ≤ 1000000 := by rw [← hbads]; exact bads_ok _ (by kernel_rfl)
 have HL := Lib.hid hbl; have HFA := Lib.hid hfal; have HOKS := Lib.hid hoks; clear hbads hbl hfal hoks
 skip
 refine wp_loop_ghost (fun gk fr wr => ∃ (i : Nat), gk = 13 - i ∧ i ≤ 13 ∧ Fact.Fr 223 fr ∧ fr.tmps[2]? = some (.int .i64 0) ∧ fr.tmps[3]? = some (.int .i64 5) ∧ fr.tmps[4]? = some (.int .i64 6) ∧ fr.tmps[6]? = some (.int .i64 15) ∧ fr.tmps[8]? = some (.int .i64 7) ∧ fr.tmps[9]? = some (.pointer (some ⟨w5.heap.size, 0, none⟩)) ∧ fr.tmps[10]? = some (.int .i64 0) ∧ fr.tmps[13]? = some (.slice (some ⟨V23.heap.size, 0, none⟩) 13 13) ∧ fr.tmps[14]? = some (.int .i64 i) ∧ Below V24.heap.size V24 wr) (13) ?_ ?_
 · (
 exact ⟨0, rfl, Nat.zero_le _, hf, s2, s3, s4, s6, s8, s9, s10, s13, s14, Below.refl _ _⟩)
 · (
 clear hf s0 s2 s3 s4 s6 s8 s9 s10 s13 s14
 rintro gk fr wr ⟨i, hk, hi, hf, s2, s3, s4, s6, s8, s9, s10, s13, s14, hb⟩
 have HK := Lib.hid hk; clear hk
 refine wp_seq_k (fun K12 hK12 => ?_)
 refine wp_seq_k (fun K13 hK13 => ?_)
 refine Fact.region ?_
 have b125 := hf.l 125 rfl
 have b126 := hf.l 126 rfl
 have b127 := hf.l 127 rfl
 refine Fact.p rfl fun K hK => ?_
 go_simp
 refine hK.out _ _ ?_; clear hK K
 refine Fact.p rfl fun K hK => ?_
 go_simp
 refine hK.out _ _ ?_; clear hK K
 refine Fact.p rfl fun K hK => ?_
 go_simp
 refine hK.out _ _ ?_; clear hK K
 refine Fact.p rfl fun K hK => ?_
 go_simp
 refine hK.out _ _ ?_; clear hK K
 refine Fact.nil ?_
 refine Fact.q hf (by simp only [Fact.G]) rfl fun fr1 hf1 hT => ?_
 have hKp : _ ∧ _ ∧ _ ∧ _ ∧ _ ∧ _ ∧ _ ∧ _ ∧ _ ∧ _ ∧ _ ∧ _ ∧ _ := ⟨hT 2, hT 3, hT 4, hT 6, hT 8, hT 9, hT 10, hT 13, hT 14, hT 125, hT 126, hT 127, hT 128⟩
 simp only [Fact.G, Nat.reduceEqDiff, Nat.reduceLT, hf.size, reduceIte, s2, s3, s4, s6, s8, s9, s10, s13, s14] at hKp
 clear hT hf s2 s3 s4 s6 s8 s9 s10 s13 s14 b125 b126 b127
 obtain ⟨s2, s3, s4, s6, s8, s9, s10, s13, s14, s125, s126, s127, s128⟩ := hKp
 have hf := hf1; clear hf1
 refine Fact.nx (hK13 _ _ ?_)
 refine Fact.cond_s s128 (fun hq => ?_) (fun hq => ?_)
 · (
 have hlt : i < bads.length := by have h9 := of_decide_eq_true hq; have := HL.out; omega
 have hlt13 : i < 13 := by have h9 := of_decide_eq_true hq; omega
 have HQ := Lib.hid hq; clear hq
 obtain ⟨x, hix⟩ : ∃ x, bads[i]? = some x := ⟨_, List.getElem?_eq_getElem hlt⟩
 obtain ⟨bb, off, sv, hbo, e0, e1, hr⟩ := (hrf.later hb).at_ hix
 injection hbo with hbo
 injection hbo with hbo hof
 subst hbo; subst hof
 have hm := List.mem_of_getElem? hix
 have hfa := HFA.out x hm
 have hok := HOKS.out x hm
 simp only [Nat.zero_add] at e0 e1
 have HX := Lib.hid hix; have HFX := Lib.hid hfa; have HOX := Lib.hid hok; clear hix hm hfa hok hlt
 refine wp_skip ?_
 refine Fact.nx (hK12 _ _ ?_)
 refine wp_seq_k (fun K14 hK14 => ?_)
 refine wp_block ?_
 refine wp_seq_k (fun K15 hK15 => ?_)
 refine Fact.region ?_
 have b131 := hf.l 131 rfl
 have b132 := hf.l 132 rfl
 have b133 := hf.l 133 rfl
 have b134 := hf.l 134 rfl
 refine Fact.p rfl fun K hK => ?_
 go_simp
 refine hK.out _ _ ?_; clear hK K
 refine Fact.p rfl fun K hK => ?_
 go_simp
 refine hK.out _ _ ?_; clear hK K
 refine Fact.p rfl fun K hK => ?_
 go_simp
 try rw [if_pos (by omega)]
 refine hK.out _ _ ?_; clear hK K
 refine Fact.p rfl fun K hK => ?_
 go_simp
 refine hK.out _ _ ?_; clear hK K
 refine Fact.p rfl fun K hK => ?_
 go_simp
 go_at_call 9; refine (right9 wr sv x.init x.states hr HOX.out.1 HOX.out.2).mono ?_; rintro e w12 ⟨rfl, hb12⟩
 rw [HFX.out]
 dsimp only
 refine hK.out _ _ ?_; clear hK K
 refine Fact.nil ?_
 refine Fact.q hf (by simp only [Fact.G]) rfl fun fr1 hf1 hT => ?_
 have hKp : _ ∧ _ ∧ _ ∧ _ ∧ _ ∧ _ ∧ _ ∧ _ ∧ _ ∧ _ ∧ _ ∧ _ ∧ _ ∧ _ ∧ _ ∧ _ ∧ _ ∧ _ := ⟨hT 2, hT 3, hT 4, hT 6, hT 8, hT 9, hT 10, hT 13, hT 14, hT 125, hT 126, hT 127, hT 128, hT 131, hT 132, hT 133, hT 134, hT 135⟩
 simp only [Fact.G, Nat.reduceEqDiff, Nat.reduceLT, hf.size, reduceIte, s2, s3, s4, s6, s8, s9, s10, s13, s14, s125, s126, s127, s128] at hKp
 clear hT hf s2 s3 s4 s6 s8 s9 s10 s13 s14 s125 s126 s127 s128 b131 b132 b133 b134
 obtain ⟨s2, s3, s4, s6, s8, s9, s10, s13, s14, s125, s126, s127, s128, s131, s132, s133, s134, s135⟩ := hKp
 have hf := hf1; clear hf1
 refine Fact.nx (hK15 _ _ ?_)
 refine Fact.cond_f s135 ?_
 refine wp_skip ?_
 refine Fact.block_normal ?_
 refine Fact.nx (hK14 _ _ ?_)
 refine Fact.region ?_
 have b129 := hf.l 129 rfl
 have b130 := hf.l 130 rfl
 refine Fact.p rfl fun K hK => ?_
 go_simp
 refine hK.out _ _ ?_; clear hK K
 refine Fact.p rfl fun K hK => ?_
 go_simp
 try simp (disch := omega) only [Fact.wrap_i64, Fact.wrap_u8, Fact.wrap_u32, Fact.wrap_u64]
 refine hK.out _ _ ?_; clear hK K
 refine Fact.p rfl fun K hK => ?_
 go_simp
 refine hK.out _ _ ?_; clear hK K
 refine Fact.nil ?_
 refine Fact.q hf (by simp only [Fact.G]) rfl fun fr1 hf1 hT => ?_
 have hKp : _ ∧ _ ∧ _ ∧ _ ∧ _ ∧ _ ∧ _ ∧ _ ∧ _ ∧ _ ∧ _ ∧ _ ∧ _ ∧ _ ∧ _ ∧ _ ∧ _ ∧ _ ∧ _ ∧ _ := ⟨hT 2, hT 3, hT 4, hT 6, hT 8, hT 9, hT 10, hT 13, hT 14, hT 125, hT 126, hT 127, hT 128, hT 129, hT 130, hT 131, hT 132, hT 133, hT 134, hT 135⟩
 simp only [Fact.G, Nat.reduceEqDiff, Nat.reduceLT, hf.size, reduceIte, s2, s3, s4, s6, s8, s9, s10, s13, s125, s126, s127, s128, s131, s132, s133, s134, s135] at hKp
 clear hT hf s2 s3 s4 s6 s8 s9 s10 s13 s14 s125 s126 s127 s128 s131 s132 s133 s134 s135 b129 b130
 obtain ⟨s2, s3, s4, s6, s8, s9, s10, s13, s14, s125, s126, s127, s128, s129, s130, s131, s132, s133, s134, s135⟩ := hKp
 have hf := hf1; clear hf1
 refine Fact.then_normal ?_
 exact ⟨_, by have := HK.out; omega, i + 1, rfl, by omega, hf, s2, s3, s4, s6, s8, s9, s10, s13, by rw [s14]; rfl, hb.trans (hb12.mono hb.size)⟩)
 · (
 have hfl := hbt
 clear hrf hq
 have hbt2 := hbt.trans (hb.mono hbt.size)
 have y := cell_later hb y5; have z := cell_later hb z5; have hr := hr5.later hb
 clear y5 z5 hr5 hbt
 have hF : F5 = ⟨[⟨true, 0, []⟩, ⟨false, 0, [⟨120, 0, 0⟩]⟩, ⟨false, 0, [⟨120, 4294967296, 0⟩, ⟨121, 0, 0⟩]⟩, ⟨false, 0, [⟨97, 7, 1⟩, ⟨98, 0, 2⟩]⟩], 0⟩ := by rw [← HF5.out]; kernel_rfl
 subst hF
 clear HF5 HOK5 hn5
 dsimp only at hr y z
 simp only [List.length_cons, List.length_nil, Nat.zero_add, Nat.reduceAdd] at y
 obtain ⟨gb, go, av3, rfl, hs3⟩ := hr.at_ (i := 3) rfl
 obtain ⟨gb2, go2, av2, he2, hs2⟩ := hr.at_ (i := 2) rfl
 injection he2 with he2
 injection he2 with he2 he3
 subst he2; subst he3
 have p0 := hs3.c0; have q0 := hs2.c0
 obtain ⟨B3, n3, rfl, _⟩ := hs3.arcs.form
 obtain ⟨b3, o3, rfl, _, _, k1, _⟩ := hs3.arcs.at' (i := 0) rfl
 obtain ⟨b3', o3', he4, _, _, k2, _⟩ := hs3.arcs.at' (i := 1) rfl
 injection he4 with he4
 injection he4 with he4 he5
 subst he4; subst he5
 obtain ⟨B2, n2, rfl, _⟩ := hs2.arcs.form
 obtain ⟨b2, o2, rfl, _, _, k3, _⟩ := hs2.arcs.at' (i := 0) rfl
 simp at y z p0 q0 k1 k2 k3
 refine wp_exit ?_
 refine Fact.then_exit ?_
 refine Fact.then_exit ?_
 refine Fact.block_exit ?_
 refine Fact.nx (hK10 _ _ ?_)
 refine wp_seq_k (fun K16 hK16 => ?_)
 refine Fact.region ?_
 have b136 := hf.l 136 rfl
 have b137 := hf.l 137 rfl
 have b138 := hf.l 138 rfl
 have b139 := hf.l 139 rfl
 refine Fact.p rfl fun K hK => ?_
 go_simp
 refine hK.out _ _ ?_; clear hK K
 refine Fact.p rfl fun K hK => ?_
 go_simp
 refine hK.out _ _ ?_; clear hK K
 refine Fact.p rfl fun K hK => ?_
 go_simp
 refine hK.out _ _ ?_; clear hK K
 refine Fact.p rfl fun K hK => ?_
 go_simp
 try simp (disch := omega) only [Fact.wrap_i64, Fact.wrap_u8, Fact.wrap_u32, Fact.wrap_u64]
 refine hK.out _ _ ?_; clear hK K
 refine Fact.p rfl fun K hK => ?_
 go_simp
 refine hK.out _ _ ?_; clear hK K
 refine Fact.nil ?_
 refine Fact.q hf (by simp only [Fact.G]) rfl fun fr1 hf1 hT => ?_
 have hKp : _ ∧ _ ∧ _ ∧ _ ∧ _ ∧ _ ∧ _ ∧ _ := ⟨hT 2, hT 3, hT 4, hT 6, hT 8, hT 9, hT 10, hT 15⟩
 simp only [Fact.G, Nat.reduceEqDiff, Nat.reduceLT, hf.size, reduceIte, s2, s3, s4, s6, s8, s9, s10] at hKp
 clear hT hf s2 s3 s4 s6 s8 s9 s10 s13 s14 s125 s126 s127 s128 b136 b137 b138 b139
 obtain ⟨s2, s3, s4, s6, s8, s9, s10, s15⟩ := hKp
 have hf := hf1; clear hf1
 refine Fact.nx (hK16 _ _ ?_)
 refine wp_seq_k (fun K17 hK17 => ?_)
 refine Fact.region ?_
 have b140 := hf.l 140 rfl
 have b141 := hf.l 141 rfl
 have b142 := hf.l 142 rfl
 have b143 := hf.l 143 rfl
 have b144 := hf.l 144 rfl
 have b145 := hf.l 145 rfl
 have b146 := hf.l 146 rfl
 have b147 := hf.l 147 rfl
 have b148 := hf.l 148 rfl
 have b149 := hf.l 149 rfl
 have b150 := hf.l 150 rfl
 have b151 := hf.l 151 rfl
 have b152 := hf.l 152 rfl
 have b153 := hf.l 153 rfl
 have b154 := hf.l 154 rfl
 have b155 := hf.l 155 rfl
 have b156 := hf.l 156 rfl
 have b157 := hf.l 157 rfl
 have b158 := hf.l 158 rfl
 have b159 := hf.l 159 rfl
 have b160 := hf.l 160 rfl
 have b161 := hf.l 161 rfl
 have b162 := hf.l 162 rfl
 have b163 := hf.l 163 rfl
 have b164 := hf.l 164 rfl
 have b165 := hf.l 165 rfl
 have b166 := hf.l 166 rfl
 have b167 := hf.l 167 rfl
 have b168 := hf.l 168 rfl
 have b169 := hf.l 169 rfl
 have b170 := hf.l 170 rfl
 have b171 := hf.l 171 rfl
 have b172 := hf.l 172 rfl
 have b173 := hf.l 173 rfl
 have b174 := hf.l 174 rfl
 have b175 := hf.l 175 rfl
 have b176 := hf.l 176 rfl
 have b177 := hf.l 177 rfl
 have b178 := hf.l 178 rfl
 have b179 := hf.l 179 rfl
 have b180 := hf.l 180 rfl
 have b181 := hf.l 181 rfl
 have b182 := hf.l 182 rfl
 have b183 := hf.l 183 rfl
 have b184 := hf.l 184 rfl
 have b185 := hf.l 185 rfl
 have b186 := hf.l 186 rfl
 have b187 := hf.l 187 rfl
 have b188 := hf.l 188 rfl
 have b189 := hf.l 189 rfl
 have b190 := hf.l 190 rfl
 have b191 := hf.l 191 rfl
 have b192 := hf.l 192 rfl
 have b193 := hf.l 193 rfl
 have b194 := hf.l 194 rfl
 have b195 := hf.l 195 rfl
 have b196 := hf.l 196 rfl
 have b197 := hf.l 197 rfl
 have b198 := hf.l 198 rfl
 have b199 := hf.l 199 rfl
 have b200 := hf.l 200 rfl
 have b201 := hf.l 201 rfl
 have b202 := hf.l 202 rfl
 have b203 := hf.l 203 rfl
 have b204 := hf.l 204 rfl
 have b205 := hf.l 205 rfl
 have b206 := hf.l 206 rfl
 have b207 := hf.l 207 rfl
 have b208 := hf.l 208 rfl
 have b209 := hf.l 209 rfl
 have b210 := hf.l 210 rfl
 have b211 := hf.l 211 rfl
 have b212 := hf.l 212 rfl
 have b213 := hf.l 213 rfl
 have b214 := hf.l 214 rfl
 have b215 := hf.l 215 rfl
 have b216 := hf.l 216 rfl
 have b217 := hf.l 217 rfl
 have b218 := hf.l 218 rfl
 have b219 := hf.l 219 rfl
 have b220 := hf.l 220 rfl
 have b221 := hf.l 221 rfl
 have b222 := hf.l 222 rfl
 refine Fact.p rfl fun K hK => ?_
 go_simp
 refine hK.out _ _ ?_; clear hK K
 refine Fact.op_guard (g := 0) (d := 140) (b := true) rfl rfl rfl ?_ (fun K hK => ?_)
 · (
 simp only [Fact.G, Nat.reduceEqDiff, Nat.reduceLT, reduceIte, hf.size])
 go_simp
 go_at_call 6; refine (works6 wr).mono ?_; rintro e w6 ⟨rfl, hb6⟩
 replace y := cell_later hb6 y; replace z := cell_later hb6 z; replace p0 := cell_later hb6 p0; replace q0 := cell_later hb6 q0; replace k1 := cell_later hb6 k1; replace k2 := cell_later hb6 k2; replace k3 := cell_later hb6 k3; replace hbt2 := hbt2.trans (hb6.mono hbt2.size)
 dsimp only
 refine hK.out _ _ ?_; clear hK K
 refine Fact.p rfl fun K hK => ?_
 go_simp
 refine hK.out _ _ ?_; clear hK K
 refine Fact.p rfl fun K hK => ?_
 go_simp
 refine hK.out _ _ ?_; clear hK K
 refine Fact.op_guard (g := 3) (d := 143) (b := true) rfl rfl rfl ?_ (fun K hK => ?_)
 · (
 simp only [Fact.G, Nat.reduceEqDiff, Nat.reduceLT, reduceIte, hf.size])
 go_simp
 refine hK.out _ _ ?_; clear hK K
 refine Fact.op_guard (g := 3) (d := 143) (b := true) rfl rfl rfl ?_ (fun K hK => ?_)
 · (
 simp only [Fact.G, Nat.reduceEqDiff, Nat.reduceLT, reduceIte, hf.size])
 go_simp
 refine hK.out _ _ ?_; clear hK K
 refine Fact.p rfl fun K hK => ?_
 go_simp
 refine hK.out _ _ ?_; clear hK K
 refine Fact.p rfl fun K hK => ?_
 go_simp
 refine hK.out _ _ ?_; clear hK K
 refine Fact.op_guard (g := 7) (d := 147) (b := true) rfl rfl rfl ?_ (fun K hK => ?_)
 · (
 simp only [Fact.G, Nat.reduceEqDiff, Nat.reduceLT, reduceIte, hf.size])
 go_simp
 refine hK.out _ _ ?_; clear hK K
 refine Fact.op_guard (g := 7) (d := 147) (b := true) rfl rfl rfl ?_ (fun K hK => ?_)
 · (
 simp only [Fact.G, Nat.reduceEqDiff, Nat.reduceLT, reduceIte, hf.size])
 go_simp
 refine hK.out _ _ ?_; clear hK K
 refine Fact.p rfl fun K hK => ?_
 go_simp
 refine hK.out _ _ ?_; clear hK K
 refine Fact.p rfl fun K hK => ?_
 go_simp
 refine hK.out _ _ ?_; clear hK K
 refine Fact.op_guard (g := 11) (d := 151) (b := true) rfl rfl rfl ?_ (fun K hK => ?_)
 · (
 simp only [Fact.G, Nat.reduceEqDiff, Nat.reduceLT, reduceIte, hf.size])
 go_simp
 refine hK.out _ _ ?_; clear hK K
 refine Fact.op_guard (g := 11) (d := 151) (b := true) rfl rfl rfl ?_ (fun K hK => ?_)
 · (
 simp only [Fact.G, Nat.reduceEqDiff, Nat.reduceLT, reduceIte, hf.size])
 go_simp
 refine hK.out _ _ ?_; clear hK K
 refine Fact.p rfl fun K hK => ?_
 go_simp
 refine hK.out _ _ ?_; clear hK K
 refine Fact.p rfl fun K hK => ?_
 go_simp
 refine hK.out _ _ ?_; clear hK K
 refine Fact.op_guard (g := 15) (d := 155) (b := true) rfl rfl rfl ?_ (fun K hK => ?_)
 · (
 simp only [Fact.G, Nat.reduceEqDiff, Nat.reduceLT, reduceIte, hf.size])
 go_simp
 refine hK.out _ _ ?_; clear hK K
 refine Fact.op_guard (g := 15) (d := 155) (b := true) rfl rfl rfl ?_ (fun K hK => ?_)
 · (
 simp only [Fact.G, Nat.reduceEqDiff, Nat.reduceLT, reduceIte, hf.size])
 go_simp
 refine hK.out _ _ ?_; clear hK K
 refine Fact.p rfl fun K hK => ?_
 go_simp
 refine hK.out _ _ ?_; clear hK K
 refine Fact.p rfl fun K hK => ?_
 go_simp
 refine hK.out _ _ ?_; clear hK K
 refine Fact.op_guard (g := 19) (d := 159) (b := true) rfl rfl rfl ?_ (fun K hK => ?_)
 · (
 simp only [Fact.G, Nat.reduceEqDiff, Nat.reduceLT, reduceIte, hf.size])
 go_simp
 refine hK.out _ _ ?_; clear hK K
 refine Fact.op_guard (g := 19) (d := 159) (b := true) rfl rfl rfl ?_ (fun K hK => ?_)
 · (
 simp only [Fact.G, Nat.reduceEqDiff, Nat.reduceLT, reduceIte, hf.size])
 go_simp
 refine hK.out _ _ ?_; clear hK K
 refine Fact.p rfl fun K hK => ?_
 go_simp
 refine hK.out _ _ ?_; clear hK K
 refine Fact.p rfl fun K hK => ?_
 go_simp
 refine hK.out _ _ ?_; clear hK K
 refine Fact.op_guard (g := 23) (d := 163) (b := true) rfl rfl rfl ?_ (fun K hK => ?_)
 · (
 simp only [Fact.G, Nat.reduceEqDiff, Nat.reduceLT, reduceIte, hf.size])
 go_simp
 refine hK.out _ _ ?_; clear hK K
 refine Fact.op_guard (g := 23) (d := 163) (b := true) rfl rfl rfl ?_ (fun K hK => ?_)
 · (
 simp only [Fact.G, Nat.reduceEqDiff, Nat.reduceLT, reduceIte, hf.size])
 go_simp
 refine hK.out _ _ ?_; clear hK K
 refine Fact.p rfl fun K hK => ?_
 go_simp
 refine hK.out _ _ ?_; clear hK K
 refine Fact.p rfl fun K hK => ?_
 go_simp
 refine hK.out _ _ ?_; clear hK K
 refine Fact.op_guard (g := 27) (d := 167) (b := true) rfl rfl rfl ?_ (fun K hK => ?_)
 · (
 simp only [Fact.G, Nat.reduceEqDiff, Nat.reduceLT, reduceIte, hf.size])
 go_simp
 refine hK.out _ _ ?_; clear hK K
 refine Fact.op_guard (g := 27) (d := 167) (b := true) rfl rfl rfl ?_ (fun K hK => ?_)
 · (
 simp only [Fact.G, Nat.reduceEqDiff, Nat.reduceLT, reduceIte, hf.size])
 go_simp
 refine hK.out _ _ ?_; clear hK K
 refine Fact.p rfl fun K hK => ?_
 go_simp
 refine hK.out _ _ ?_; clear hK K
 refine Fact.p rfl fun K hK => ?_
 go_simp
 refine hK.out _ _ ?_; clear hK K
 refine Fact.op_guard (g := 31) (d := 171) (b := true) rfl rfl rfl ?_ (fun K hK => ?_)
 · (
 simp only [Fact.G, Nat.reduceEqDiff, Nat.reduceLT, reduceIte, hf.size])
 go_simp
 refine hK.out _ _ ?_; clear hK K
 refine Fact.op_guard (g := 31) (d := 171) (b := true) rfl rfl rfl ?_ (fun K hK => ?_)
 · (
 simp only [Fact.G, Nat.reduceEqDiff, Nat.reduceLT, reduceIte, hf.size])
 go_simp
 refine hK.out _ _ ?_; clear hK K
 refine Fact.op_guard (g := 31) (d := 171) (b := true) rfl rfl rfl ?_ (fun K hK => ?_)
 · (
 simp only [Fact.G, Nat.reduceEqDiff, Nat.reduceLT, reduceIte, hf.size])
 go_simp
 refine hK.out _ _ ?_; clear hK K
 refine Fact.p rfl fun K hK => ?_
 go_simp
 refine hK.out _ _ ?_; clear hK K
 refine Fact.p rfl fun K hK => ?_
 go_simp
 refine hK.out _ _ ?_; clear hK K
 refine Fact.op_guard (g := 36) (d := 176) (b := true) rfl rfl rfl ?_ (fun K hK => ?_)
 · (
 simp only [Fact.G, Nat.reduceEqDiff, Nat.reduceLT, reduceIte, hf.size])
 go_simp
 refine hK.out _ _ ?_; clear hK K
 refine Fact.op_guard (g := 36) (d := 176) (b := true) rfl rfl rfl ?_ (fun K hK => ?_)
 · (
 simp only [Fact.G, Nat.reduceEqDiff, Nat.reduceLT, reduceIte, hf.size])
 go_simp
 refine hK.out _ _ ?_; clear hK K
 refine Fact.op_guard (g := 36) (d := 176) (b := true) rfl rfl rfl ?_ (fun K hK => ?_)
 · (
 simp only [Fact.G, Nat.reduceEqDiff, Nat.reduceLT, reduceIte, hf.size])
 go_simp
 refine hK.out _ _ ?_; clear hK K
 refine Fact.op_guard (g := 36) (d := 176) (b := true) rfl rfl rfl ?_ (fun K hK => ?_)
 · (
 simp only [Fact.G, Nat.reduceEqDiff, Nat.reduceLT, reduceIte, hf.size])
 go_simp
 try rw [if_pos (by omega)]
 refine hK.out _ _ ?_; clear hK K
 refine Fact.op_guard (g := 36) (d := 176) (b := true) rfl rfl rfl ?_ (fun K hK => ?_)
 · (
 simp only [Fact.G, Nat.reduceEqDiff, Nat.reduceLT, reduceIte, hf.size])
 go_simp
 refine hK.out _ _ ?_; clear hK K
 refine Fact.op_guard (g := 36) (d := 176) (b := true) rfl rfl rfl ?_ (fun K hK => ?_)
 · (
 simp only [Fact.G, Nat.reduceEqDiff, Nat.reduceLT, reduceIte, hf.size])
 go_simp
 refine hK.out _ _ ?_; clear hK K
 refine Fact.op_guard (g := 36) (d := 176) (b := true) rfl rfl rfl ?_ (fun K hK => ?_)
 · (
 simp only [Fact.G, Nat.reduceEqDiff, Nat.reduceLT, reduceIte, hf.size])
 go_simp
 try rw [if_pos (by omega)]
 refine hK.out _ _ ?_; clear hK K
 refine Fact.op_guard (g := 36) (d := 176) (b := true) rfl rfl rfl ?_ (fun K hK => ?_)
 · (
 simp only [Fact.G, Nat.reduceEqDiff, Nat.reduceLT, reduceIte, hf.size])
 go_simp
 refine hK.out _ _ ?_; clear hK K
 refine Fact.op_guard (g := 36) (d := 176) (b := true) rfl rfl rfl ?_ (fun K hK => ?_)
 · (
 simp only [Fact.G, Nat.reduceEqDiff, Nat.reduceLT, reduceIte, hf.size])
 go_simp
 refine hK.out _ _ ?_; clear hK K
 refine Fact.op_guard (g := 36) (d := 176) (b := true) rfl rfl rfl ?_ (fun K hK => ?_)
 · (
 simp only [Fact.G, Nat.reduceEqDiff, Nat.reduceLT, reduceIte, hf.size])
 go_simp
 refine hK.out _ _ ?_; clear hK K
 refine Fact.p rfl fun K hK => ?_
 go_simp
 refine hK.out _ _ ?_; clear hK K
 refine Fact.p rfl fun K hK => ?_
 go_simp
 refine hK.out _ _ ?_; clear hK K
 refine Fact.op_guard (g := 48) (d := 188) (b := true) rfl rfl rfl ?_ (fun K hK => ?_)
 · (
 simp only [Fact.G, Nat.reduceEqDiff, Nat.reduceLT, reduceIte, hf.size])
 go_simp
 refine hK.out _ _ ?_; clear hK K
 refine Fact.op_guard (g := 48) (d := 188) (b := true) rfl rfl rfl ?_ (fun K hK => ?_)
 · (
 simp only [Fact.G, Nat.reduceEqDiff, Nat.reduceLT, reduceIte, hf.size])
 go_simp
 refine hK.out _ _ ?_; clear hK K
 refine Fact.op_guard (g := 48) (d := 188) (b := true) rfl rfl rfl ?_ (fun K hK => ?_)
 · (
 simp only [Fact.G, Nat.reduceEqDiff, Nat.reduceLT, reduceIte, hf.size])
 go_simp
 refine hK.out _ _ ?_; clear hK K
 refine Fact.op_guard (g := 48) (d := 188) (b := true) rfl rfl rfl ?_ (fun K hK => ?_)
 · (
 simp only [Fact.G, Nat.reduceEqDiff, Nat.reduceLT, reduceIte, hf.size])
 go_simp
 try rw [if_pos (by omega)]
 refine hK.out _ _ ?_; clear hK K
 refine Fact.op_guard (g := 48) (d := 188) (b := true) rfl rfl rfl ?_ (fun K hK => ?_)
 · (
 simp only [Fact.G, Nat.reduceEqDiff, Nat.reduceLT, reduceIte, hf.size])
 go_simp
 refine hK.out _ _ ?_; clear hK K
 refine Fact.op_guard (g := 48) (d := 188) (b := true) rfl rfl rfl ?_ (fun K hK => ?_)
 · (
 simp only [Fact.G, Nat.reduceEqDiff, Nat.reduceLT, reduceIte, hf.size])
 go_simp
 refine hK.out _ _ ?_; clear hK K
 refine Fact.op_guard (g := 48) (d := 188) (b := true) rfl rfl rfl ?_ (fun K hK => ?_)
 · (
 simp only [Fact.G, Nat.reduceEqDiff, Nat.reduceLT, reduceIte, hf.size])
 go_simp
 try rw [if_pos (by omega)]
 refine hK.out _ _ ?_; clear hK K
 refine Fact.op_guard (g := 48) (d := 188) (b := true) rfl rfl rfl ?_ (fun K hK => ?_)
 · (
 simp only [Fact.G, Nat.reduceEqDiff, Nat.reduceLT, reduceIte, hf.size])
 go_simp
 refine hK.out _ _ ?_; clear hK K
 refine Fact.op_guard (g := 48) (d := 188) (b := true) rfl rfl rfl ?_ (fun K hK => ?_)
 · (
 simp only [Fact.G, Nat.reduceEqDiff, Nat.reduceLT, reduceIte, hf.size])
 go_simp
 refine hK.out _ _ ?_; clear hK K
 refine Fact.op_guard (g := 48) (d := 188) (b := true) rfl rfl rfl ?_ (fun K hK => ?_)
 · (
 simp only [Fact.G, Nat.reduceEqDiff, Nat.reduceLT, reduceIte, hf.size])
 go_simp
 refine hK.out _ _ ?_; clear hK K
 refine Fact.p rfl fun K hK => ?_
 go_simp
 refine hK.out _ _ ?_; clear hK K
 refine Fact.p rfl fun K hK => ?_
 go_simp
 refine hK.out _ _ ?_; clear hK K
 refine Fact.op_guard (g := 60) (d := 200) (b := true) rfl rfl rfl ?_ (fun K hK => ?_)
 · (
 simp only [Fact.G, Nat.reduceEqDiff, Nat.reduceLT, reduceIte, hf.size])
 go_simp
 refine hK.out _ _ ?_; clear hK K
 refine Fact.op_guard (g := 60) (d := 200) (b := true) rfl rfl rfl ?_ (fun K hK => ?_)
 · (
 simp only [Fact.G, Nat.reduceEqDiff, Nat.reduceLT, reduceIte, hf.size])
 go_simp
 refine hK.out _ _ ?_; clear hK K
 refine Fact.op_guard (g := 60) (d := 200) (b := true) rfl rfl rfl ?_ (fun K hK => ?_)
 · (
 simp only [Fact.G, Nat.reduceEqDiff, Nat.reduceLT, reduceIte, hf.size])
 go_simp
 try rw [if_pos (by omega)]
 refine hK.out _ _ ?_; clear hK K
 refine Fact.op_guard (g := 60) (d := 200) (b := true) rfl rfl rfl ?_ (fun K hK => ?_)
 · (
 simp only [Fact.G, Nat.reduceEqDiff, Nat.reduceLT, reduceIte, hf.size])
 go_simp
 refine hK.out _ _ ?_; clear hK K
 refine Fact.op_guard (g := 60) (d := 200) (b := true) rfl rfl rfl ?_ (fun K hK => ?_)
 · (
 simp only [Fact.G, Nat.reduceEqDiff, Nat.reduceLT, reduceIte, hf.size])
 go_simp
 refine hK.out _ _ ?_; clear hK K
 refine Fact.op_guard (g := 60) (d := 200) (b := true) rfl rfl rfl ?_ (fun K hK => ?_)
 · (
 simp only [Fact.G, Nat.reduceEqDiff, Nat.reduceLT, reduceIte, hf.size])
 go_simp
 try rw [if_pos (by omega)]
 refine hK.out _ _ ?_; clear hK K
 refine Fact.op_guard (g := 60) (d := 200) (b := true) rfl rfl rfl ?_ (fun K hK => ?_)
 · (
 simp only [Fact.G, Nat.reduceEqDiff, Nat.reduceLT, reduceIte, hf.size])
 go_simp
 refine hK.out _ _ ?_; clear hK K
 refine Fact.op_guard (g := 60) (d := 200) (b := true) rfl rfl rfl ?_ (fun K hK => ?_)
 · (
 simp only [Fact.G, Nat.reduceEqDiff, Nat.reduceLT, reduceIte, hf.size])
 go_simp
 refine hK.out _ _ ?_; clear hK K
 refine Fact.op_guard (g := 60) (d := 200) (b := true) rfl rfl rfl ?_ (fun K hK => ?_)
 · (
 simp only [Fact.G, Nat.reduceEqDiff, Nat.reduceLT, reduceIte, hf.size])
 go_simp
 refine hK.out _ _ ?_; clear hK K
 refine Fact.p rfl fun K hK => ?_
 go_simp
 refine hK.out _ _ ?_; clear hK K
 refine Fact.p rfl fun K hK => ?_
 go_simp
 refine hK.out _ _ ?_; clear hK K
 refine Fact.op_guard (g := 71) (d := 211) (b := true) rfl rfl rfl ?_ (fun K hK => ?_)
 · (
 simp only [Fact.G, Nat.reduceEqDiff, Nat.reduceLT, reduceIte, hf.size])
 go_simp
 refine hK.out _ _ ?_; clear hK K
 refine Fact.op_guard (g := 71) (d := 211) (b := true) rfl rfl rfl ?_ (fun K hK => ?_)
 · (
 simp only [Fact.G, Nat.reduceEqDiff, Nat.reduceLT, reduceIte, hf.size])
 go_simp
 obtain ⟨U1, hU1⟩ : ∃ x, World.alloc w6 (.cells #[.slice none 0 0, .bool true, .int .u64 0] 61) = x := ⟨_, rfl⟩
 rw [hU1]
 obtain ⟨bU1, x213⟩ := RS.lit hU1 [(.slice none 0 0, ⟨true, 0, []⟩)] rfl (fun x hx => by simp only [List.mem_cons, List.not_mem_nil, or_false] at hx; subst hx; all_goals first | exact RA.nil_)
 replace hbt2 := hbt2.trans (bU1.mono hbt2.size)
 clear hU1
 refine hK.out _ _ ?_; clear hK K
 refine Fact.op_guard (g := 71) (d := 211) (b := true) rfl rfl rfl ?_ (fun K hK => ?_)
 · (
 simp only [Fact.G, Nat.reduceEqDiff, Nat.reduceLT, reduceIte, hf.size])
 go_simp
 refine hK.out _ _ ?_; clear hK K
 refine Fact.op_guard (g := 71) (d := 211) (b := true) rfl rfl rfl ?_ (fun K hK => ?_)
 · (
 simp only [Fact.G, Nat.reduceEqDiff, Nat.reduceLT, reduceIte, hf.size])
 go_simp
 go_at_call 9; refine (right9 U1 _ 9 [⟨true, 0, []⟩] x213 (okS_all _ (by kernel_rfl)) (by decide)).mono ?_; rintro e w75 ⟨rfl, hb75⟩
 rw [show rightF [⟨true, 0, []⟩] 9 = true by kernel_rfl]
 replace hbt2 := hbt2.trans (hb75.mono hbt2.size)
 replace x213 := x213.later hb75
 dsimp only
 refine hK.out _ _ ?_; clear hK K
 refine Fact.p rfl fun K hK => ?_
 go_simp
 refine hK.out _ _ ?_; clear hK K
 refine Fact.p rfl fun K hK => ?_
 go_simp
 refine hK.out _ _ ?_; clear hK K
 refine Fact.op_guard (g := 77) (d := 217) (b := true) rfl rfl rfl ?_ (fun K hK => ?_)
 · (
 simp only [Fact.G, Nat.reduceEqDiff, Nat.reduceLT, reduceIte, hf.size])
 go_simp
 refine hK.out _ _ ?_; clear hK K
 refine Fact.op_guard (g := 77) (d := 217) (b := true) rfl rfl rfl ?_ (fun K hK => ?_)
 · (
 simp only [Fact.G, Nat.reduceEqDiff, Nat.reduceLT, reduceIte, hf.size])
 go_simp
 obtain ⟨U2, hU2⟩ : ∃ x, World.alloc w75 (.cells #[.slice none 0 0, .bool false, .int .u64 0] 61) = x := ⟨_, rfl⟩
 rw [hU2]
 obtain ⟨bU2, x219⟩ := RS.lit hU2 [(.slice none 0 0, ⟨false, 0, []⟩)] rfl (fun x hx => by simp only [List.mem_cons, List.not_mem_nil, or_false] at hx; subst hx; all_goals first | exact RA.nil_)
 replace hbt2 := hbt2.trans (bU2.mono hbt2.size)
 clear hU2
 refine hK.out _ _ ?_; clear hK K
 refine Fact.op_guard (g := 77) (d := 217) (b := true) rfl rfl rfl ?_ (fun K hK => ?_)
 · (
 simp only [Fact.G, Nat.reduceEqDiff, Nat.reduceLT, reduceIte, hf.size])
 go_simp
 refine hK.out _ _ ?_; clear hK K
 refine Fact.op_guard (g := 77) (d := 217) (b := true) rfl rfl rfl ?_ (fun K hK => ?_)
 · (
 simp only [Fact.G, Nat.reduceEqDiff, Nat.reduceLT, reduceIte, hf.size])
 go_simp
 go_at_call 9; refine (right9 U2 _ 0 [⟨false, 0, []⟩] x219 (okS_all _ (by kernel_rfl)) (by decide)).mono ?_; rintro e w81 ⟨rfl, hb81⟩
 rw [show rightF [⟨false, 0, []⟩] 0 = true by kernel_rfl]
 replace hbt2 := hbt2.trans (hb81.mono hbt2.size)
 replace x219 := x219.later hb81
 dsimp only
 refine hK.out _ _ ?_; clear hK K
 refine Fact.p rfl fun K hK => ?_
 go_simp
 refine hK.out _ _ ?_; clear hK K
 refine Fact.p rfl fun K hK => ?_
 go_simp
 refine hK.out _ _ ?_; clear hK K
 refine Fact.nil ?_
 refine Fact.q hf (by simp only [Fact.G]) rfl fun fr1 hf1 hT => ?_
 have hKp := hT 0
 simp only [Fact.G, Nat.reduceEqDiff, Nat.reduceLT, hf.size, reduceIte] at hKp
 clear hT hf s2 s3 s4 s6 s8 s9 s10 s15 b140 b141 b142 b143 b144 b145 b146 b147 b148 b149 b150 b151 b152 b153 b154 b155 b156 b157 b158 b159 b160 b161 b162 b163 b164 b165 b166 b167 b168 b169 b170 b171 b172 b173 b174 b175 b176 b177 b178 b179 b180 b181 b182 b183 b184 b185 b186 b187 b188 b189 b190 b191 b192 b193 b194 b195 b196 b197 b198 b199 b200 b201 b202 b203 b204 b205 b206 b207 b208 b209 b210 b211 b212 b213 b214 b215 b216 b217 b218 b219 b220 b221 b222
 have s0 := hKp; clear hKp
 have hf := hf1; clear hf1
 refine Fact.nx (hK17 _ _ ?_)
 refine wp_ret ?_
 exact Fact.ret1 rfl hf s0 ⟨rfl, hbt2⟩))
end Dw
end Go.Proofs.YtgjfhedgdbbinaaDoor
