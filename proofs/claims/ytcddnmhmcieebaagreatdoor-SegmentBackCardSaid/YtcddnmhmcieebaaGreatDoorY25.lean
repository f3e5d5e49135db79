/- fst: Get. -/
import Derived.Test.YtcddnmhmcieebaaGreatDoorY24
import Derived.Test.YtcddnmhmcieebaaGreatDoorTools
import Derived.Test.YtcddnmhmcieebaaGreatDoorY11
import Derived.Test.YtcddnmhmcieebaaGreatDoorY23
import Derived.Test.YtcddnmhmcieebaaGreatDoorY15
import Derived.Test.YtcddnmhmcieebaaGreatDoorY17
import Derived.Test.YtcddnmhmcieebaaGreatDoorShelf3
import Derived.Test.YtcddnmhmcieebaaGreatDoorY10
import Derived.Test.YtcddnmhmcieebaaGreatDoorY9
namespace Go.Proofs.YtcddnmhmcieebaaGreatDoor
set_option maxHeartbeats 4000000
set_option maxRecDepth 100000
open Go.RowKit
set_option linter.unusedSimpArgs false
set_option linter.unusedVariables false
set_option linter.unnecessarySimpa false
namespace Dw
def getE (s : ByteArray) : Option Nat -> Ent × Bool
 | none => (⟨⟨#[]⟩, 0, false⟩, false)
 | some v => (ofE s v, ofB v)
def getV (init : Nat) (ss : List State) (s : ByteArray) : Ent × Bool := getE s (valV init ss s)
theorem valV_lt (init : Nat) (ss : List State) (s : ByteArray) (hok : ∀ s ∈ ss, okS s) : ∀ v, valV init ss s = some v -> v < 18446744073709551616 := by
 intro v h
 unfold valV valFin at h
 split at h
 ·cases h
 ·split at h
  ·cases h
  ·split at h
   ·injection h with h
    rw [<- h]
    exact Nat.mod_lt _ (by unfold M64; omega)
   ·cases h
theorem get80 (w : World) (sv : Value) (init : Nat) (ss : List State) (s : ByteArray) (hrs : RS w sv ss) (hlen : ss.length <= 1000000) (hok : ∀ s ∈ ss, okS s) (hfm : ∀ (k : Nat) (st : State), ss[k]? = some st -> okArcs k (-1) st.arcs = true) (h0 : 0 < ss.length) (hin : init < M64) (hss : s.size <= 1000000000) : Calls Tryz.prog 80 #[.agg #[sv, .int .u64 init], .string s] w fun e w1 => e = .returned (.tuple #[eval (getV init ss s).1, .bool (getV init ss s).2]) /\ Below w.heap.size w w1 := by
 refine Zn2 22 Tryz.func80 fun fr hf s0 s1 => ?_
 obtain ⟨A, cc, rfl, hcc⟩ := hrs.form
 refine Ze fun _ hK1 => Zr [] hf ?_
 refine Zq3 1 2 4 hf ?_
 clear hf s0 s1; intro fr1 hf sS
 obtain ⟨W0, hW0⟩ : ∃ x, (w.alloc (.cells #[.slice A ss.length cc, .int .u64 init] 38)).alloc (.cells #[.string ⟨#[]⟩, .int .u32 0, .bool false] 64) = x := ⟨_, rfl⟩
 obtain ⟨s1, s2, s4⟩ := sS
 try simp only [World.size_alloc] at s4
 rw [hW0]
 obtain ⟨hb, hp0, hp1⟩ := two_boxesT hW0
 clear hW0
 have c0 := cR1 0 hp0; have c1 := cR1 1 hp0
 simp at c0 c1
 replace hrs := hrs.later hb
 obtain ⟨q, hq⟩ : ∃ x, w.heap.size + 1 = x := ⟨_, rfl⟩
 have hwq : w.heap.size <= q := by omega
 rw [hq] at hp1 s4
 clear hq hp0
 refine Zt hK1 fun _ hK2 => ?_
 have bB := hf.B6 9 10 11 8 12 13
 iterate 2 refine Zy ?_
 refine Zc (value126 W0 _ init ss s hrs hlen hok hfm h0 hin hss) ?_; rintro e w1 ⟨rfl, hb1⟩
 have hvl := valV_lt init ss s hok
 obtain ⟨v, hv⟩ : ∃ x, valV init ss s = x := ⟨_, rfl⟩
 rw [hv] at hvl |-
 have HG := Lib.hid (show getV init ss s = getE s v by unfold getV; rw [hv])
 replace hb := hb.trans (hb1.mono hb.size); replace hp1 := (hb1.block _ (heap_lt hp1)).trans hp1
 clear hv hrs c0 c1 hb1
 refine Zv ?_
 iterate 5 refine Zy ?_
 refine Fact.nil (Zq4 1 4 6 7 hf ?_)
 clear hf s1 s2 s4 bB; intro fr1 hf sS
 refine Zx hK2 ?_
 rcases v with _ | v
 . (
 obtain ⟨s1, s4, s6, s7⟩ := sS
 simp only [Option.isSome_none] at s7
 refine Ze fun _ hK3 => Ze fun _ hK4 => Zr [14] hf ?_
 refine Zq4 1 4 6 15 hf ?_
 clear hf s1 s4 s6 s7; intro fr1 hf sS
 refine Zx hK4 (Fact.cond_t sS.2.2.2 ?_)
 have r0 := cR1 0 hp1; have r1 := cR1 1 hp1; have r2 := cR1 2 hp1; have f0 := frozen_of (i := 0) hp1; have f1 := frozen_of (i := 1) hp1; have f2 := frozen_of (i := 2) hp1
 simp at r0 r1 r2
 refine Ze fun _ hK5 => Zr [16] hf ?_
 refine Zq2 4 5 hf ?_
 clear hf sS; intro fr1 hf sS
 refine Zx hK5 (Zret ?_)
 refine ret_ct rfl hf sS.1 sS.2 (set_block (set_block (set_block hp1 _) _) _) Tryz.underlying64 rfl (by kernel_rfl) ⟨by rw [HG.out]; simp [getE, eval], ((hb.setCell (p := ⟨q, 0, none⟩) hwq _).setCell (p := ⟨q, 1, none⟩) hwq _).setCell (p := ⟨q, 2, none⟩) hwq _⟩)
 . (
 obtain ⟨s1, s4, s6, s7⟩ := sS
 simp only [Option.isSome_some, Option.getD_some] at s6 s7
 have hvl2 : v < 18446744073709551616 := hvl v rfl
 refine Ze fun _ hK6 => Ze fun _ hK7 => Zr [14] hf ?_
 refine Zq4 1 4 6 15 hf ?_
 clear hf s1 s4 s6 s7; intro fr1 hf sS
 refine Zx hK7 (Fact.cond_f sS.2.2.2 ?_)
 refine wp_skip (Zt hK6 fun _ hK8 => ?_)
 have bB := hf.B5 17 18 19 20 21
 iterate 2 refine Zy ?_
 refine Zc (of127 w1 s v hvl2) ?_; rintro e w2 ⟨rfl, hb2⟩
 obtain ⟨⟨oa, ob, oc⟩, ho⟩ : ∃ x, ofE s v = x := ⟨_, rfl⟩
 obtain ⟨oz, hz⟩ : ∃ x, ofB v = x := ⟨_, rfl⟩
 rw [ho, hz]
 simp only [eval]
 have HE := Lib.hid (show getE s (some v) = (⟨oa, ob, oc⟩, oz) by simp only [getE]; rw [ho, hz])
 replace hb := hb.trans (hb2.mono hb.size); replace hp1 := (hb2.block _ (heap_lt hp1)).trans hp1
 clear ho hz hb2
 have r0 := cR1 0 hp1; have r1 := cR1 1 hp1; have r2 := cR1 2 hp1; have f0 := frozen_of (i := 0) hp1; have f1 := frozen_of (i := 1) hp1; have f2 := frozen_of (i := 2) hp1
 simp at r0 r1 r2
 refine Zv ?_
 iterate 4 refine Zy ?_
 refine Fact.nil (Zq2 4 5 hf ?_)
 clear hf sS bB; intro fr1 hf sS
 refine Zx hK8 (Zret ?_)
 refine ret_ct rfl hf sS.1 sS.2 (set_block (set_block (set_block hp1 _) _) _) Tryz.underlying64 rfl (by kernel_rfl) ⟨by rw [HG.out, HE.out]; simp [eval], ((hb.setCell (p := ⟨q, 0, none⟩) hwq _).setCell (p := ⟨q, 1, none⟩) hwq _).setCell (p := ⟨q, 2, none⟩) hwq _⟩)
theorem rget42 (w : World) (sv : Value) (init : Nat) (ss : List State) (s : ByteArray) (hrs : RS w sv ss) (hlen : ss.length <= 1000000) (hok : ∀ s ∈ ss, okS s) (hfm : ∀ (k : Nat) (st : State), ss[k]? = some st -> okArcs k (-1) st.arcs = true) (h0 : 0 < ss.length) (hin : init < M64) (hss : s.size <= 1000000000) : Calls Tryz.prog 42 #[.agg #[sv, .int .u64 init], .string s] w fun e w1 => e = .returned (.tuple #[eval (getV init ss s).1, .bool (getV init ss s).2]) /\ Below w.heap.size w w1 := by
 refine Zn2 12 Tryz.func42 fun fr hf s0 s1 => ?_
 obtain ⟨A, cc, rfl, hcc⟩ := hrs.form
 refine Ze fun _ hK1 => Zr [] hf ?_
 refine Zq3 1 2 4 hf ?_
 clear hf s0 s1; intro fr1 hf sS
 obtain ⟨W0, hW0⟩ : ∃ x, (w.alloc (.cells #[.slice A ss.length cc, .int .u64 init] 96)).alloc (.cells #[.string ⟨#[]⟩, .int .u32 0, .bool false] 64) = x := ⟨_, rfl⟩
 obtain ⟨s1, s2, s4⟩ := sS
 try simp only [World.size_alloc] at s4
 rw [hW0]
 obtain ⟨hb, hp0, hp1⟩ := two_boxesT hW0
 clear hW0
 have c0 := cR1 0 hp0; have c1 := cR1 1 hp0
 simp at c0 c1
 replace hrs := hrs.later hb
 obtain ⟨q, hq⟩ : ∃ x, w.heap.size + 1 = x := ⟨_, rfl⟩
 have hwq : w.heap.size <= q := by omega
 rw [hq] at hp1 s4
 clear hq hp0
 refine Zt hK1 fun _ hK2 => ?_
 have bB := hf.B6 6 7 8 9 10 11
 iterate 3 refine Zy ?_
 refine Zc (get80 W0 _ init ss s hrs hlen hok hfm h0 hin hss) ?_; rintro e w1 ⟨rfl, hb1⟩
 obtain ⟨⟨⟨oa, ob, oc⟩, oz⟩, ho⟩ : ∃ x, getV init ss s = x := ⟨_, rfl⟩
 rw [ho]
 simp only [eval]
 have HG := Lib.hid ho
 replace hb := hb.trans (hb1.mono hb.size); replace hp1 := (hb1.block _ (heap_lt hp1)).trans hp1
 clear ho hb1 hrs
 have r0 := cR1 0 hp1; have r1 := cR1 1 hp1; have r2 := cR1 2 hp1; have f0 := frozen_of (i := 0) hp1; have f1 := frozen_of (i := 1) hp1; have f2 := frozen_of (i := 2) hp1
 simp at r0 r1 r2
 refine Zv ?_
 iterate 4 refine Zy ?_
 refine Fact.nil (Zq2 4 5 hf ?_)
 clear hf s1 s2 s4 bB; intro fr1 hf sS
 refine Zx hK2 (Zret ?_)
 refine ret_ct rfl hf sS.1 sS.2 (set_block (set_block (set_block hp1 _) _) _) Tryz.underlying64 rfl (by kernel_rfl) ⟨by rw [HG.out]; simp [eval], ((hb.setCell (p := ⟨q, 0, none⟩) hwq _).setCell (p := ⟨q, 1, none⟩) hwq _).setCell (p := ⟨q, 2, none⟩) hwq _⟩
theorem sget22 (w : World) (S init : Nat) (en sz : Int) (sv : Value) (hS : w.heap[S]? = some (.cells #[sv, .int .u64 init, .int .i64 en, .int .i64 sz] 98 (0, 0))) (ss : List State) (s : ByteArray) (hrs : RS w sv ss) (hlen : ss.length <= 1000000) (hok : ∀ s ∈ ss, okS s) (hfm : ∀ (k : Nat) (st : State), ss[k]? = some st -> okArcs k (-1) st.arcs = true) (h0 : 0 < ss.length) (hin : init < M64) (hss : s.size <= 1000000000) : Calls Tryz.prog 22 #[.pointer (some ⟨S, 0, none⟩), .string s] w fun e w1 => e = .returned (.tuple #[eval (getV init ss s).1, .bool (getV init ss s).2]) /\ Below w.heap.size w w1 := by
 refine Zn2 17 Tryz.func22 fun fr hf s0 s1 => ?_
 obtain ⟨A, cc, rfl, hcc⟩ := hrs.form
 have c0 := cR1 0 hS
 have c1 := cR1 1 hS
 have c2 := cR1 2 hS
 have c3 := cR1 3 hS
 simp at c0 c1 c2 c3
 refine Ze fun _ hK1 => Zr [] hf ?_
 refine Zq3 0 1 4 hf ?_
 clear hf s0 s1; intro fr1 hf sS
 generalize hW0 : w.alloc (.cells #[.string ⟨#[]⟩, .int .u32 0, .bool false] 64) = W0
 obtain ⟨hb, hp1⟩ := box_row hW0
 obtain ⟨q, hq⟩ : ∃ x, w.heap.size = x := ⟨_, rfl⟩
 have hwq : w.heap.size <= q := Nat.le_of_eq hq
 obtain ⟨s0, s1, s4⟩ := sS
 rw [hq] at hp1 s4
 replace hrs := hrs.later hb; replace c0 := cL hb c0; replace c1 := cL hb c1
 clear hq hW0 c2 c3
 refine Zs hK1 fun _ hK2 => Ze fun _ hK3 => Zr [6] hf ?_
 refine Zq4 0 1 4 7 hf ?_
 clear hf s0 s1 s4; intro fr1 hf sS
 refine Zx hK3 (Fact.cond_f sS.2.2.2 ?_)
 refine wp_skip (Zt hK2 fun _ hK4 => ?_)
 have bB := hf.B8 9 10 11 12 13 14 15 16
 iterate 5 refine Zy ?_
 refine Zc (rget42 W0 _ init ss s hrs hlen hok hfm h0 hin hss) ?_; rintro e w1 ⟨rfl, hb1⟩
 obtain ⟨⟨⟨oa, ob, oc⟩, oz⟩, ho⟩ : ∃ x, getV init ss s = x := ⟨_, rfl⟩
 rw [ho]
 simp only [eval]
 have HG := Lib.hid ho
 replace hb := hb.trans (hb1.mono hb.size); replace hp1 := (hb1.block _ (heap_lt hp1)).trans hp1
 clear ho hb1 hrs
 have r0 := cR1 0 hp1; have r1 := cR1 1 hp1; have r2 := cR1 2 hp1; have f0 := frozen_of (i := 0) hp1; have f1 := frozen_of (i := 1) hp1; have f2 := frozen_of (i := 2) hp1
 simp at r0 r1 r2
 refine Zv ?_
 iterate 4 refine Zy ?_
 refine Fact.nil (Zq2 4 5 hf ?_)
 clear hf sS bB; intro fr1 hf sS
 refine Zx hK4 (Zret ?_)
 refine ret_ct rfl hf sS.1 sS.2 (set_block (set_block (set_block hp1 _) _) _) Tryz.underlying64 rfl (by kernel_rfl) ⟨by rw [HG.out]; simp [eval], ((hb.setCell (p := ⟨q, 0, none⟩) hwq _).setCell (p := ⟨q, 1, none⟩) hwq _).setCell (p := ⟨q, 2, none⟩) hwq _⟩
theorem find_congr9 {α : Type} {p q : α -> Bool} : ∀ {l : List α}, (∀ a ∈ l, p a = q a) -> l.find? p = l.find? q
 | [], _ => rfl
 | a :: l, h => by rw [List.find?_cons, List.find?_cons, h a (List.mem_cons_self ..), find_congr9 fun x hx => h x (List.mem_cons_of_mem _ hx)]
theorem find_hit {k i : Nat} {b : Nat} {l : List Arc} {last : Int} (h : okArcs i last l = true) (hk : i = k) : l.find? (hitA b k) = l.find? fun a => decide (a.byte = b) := by
 subst hk
 refine find_congr9 fun a ha => ?_
 have := okArcs_to h ha
 unfold hitA
 rw [decide_eq_true this.1, decide_eq_true this.2, Bool.and_true, Bool.and_true]
 cases hq : decide (a.byte = b) with
 | true => have := of_decide_eq_true hq; simp [this]
 | false => have := of_decide_eq_false hq; simp [this]
theorem val_none {ss : List State} (hfm : ∀ (k : Nat) (st : State), ss[k]? = some st -> okArcs k (-1) st.arcs = true) : ∀ (w : List Nat) (k : Nat) (s : Nat × Bool), valW ss k w = none -> valFin ss (valG ss k s w) = none
 | [], k, s, h => by
  rw [valW] at h
  obtain ⟨n, b⟩ := s
  rw [valG, valFin]
  cases hk : ss[k]? with
  | none => rfl
  | some st =>
   rw [hk] at h
   simp only at h
   split at h
   ·cases h
   ·rename_i hf
    have : st.final = false := by simpa using hf
    simp [this]
 | b :: w, k, s, h => by
  rw [valW] at h
  rw [valG]
  cases hk : ss[k]? with
  | none => rfl
  | some st =>
   rw [hk] at h
   simp only [Option.bind_some] at h |-
   rw [find_hit (hfm k st hk) rfl]
   cases hf : st.arcs.find? (fun a => decide (a.byte = b)) with
   | none => rfl
   | some a =>
    rw [hf] at h
    simp only [Option.map_eq_none_iff] at h |-
    exact val_none hfm w _ _ h
theorem val_some {ss : List State} (hfm : ∀ (k : Nat) (st : State), ss[k]? = some st -> okArcs k (-1) st.arcs = true) : ∀ (w : List Nat) (k n v : Nat), valW ss k w = some v -> n + v <= 4294967296 -> valFin ss (valG ss k (n, true) w) = some (n + v)
 | [], k, n, v, h, hl => by
  rw [valW] at h
  rw [valG, valFin]
  cases hk : ss[k]? with
  | none => rw [hk] at h; cases h
  | some st =>
   rw [hk] at h
   simp only at h |-
   split at h
   ·rename_i hf
    injection h with h
    subst h
    rw [hf, Nat.mod_eq_of_lt (by unfold M64; omega), decide_eq_true (by unfold M64; omega), decide_eq_true hl]
    rfl
   ·cases h
 | b :: w, k, n, v, h, hl => by
  rw [valW] at h
  rw [valG]
  cases hk : ss[k]? with
  | none => rw [hk] at h; cases h
  | some st =>
   rw [hk] at h
   simp only [Option.bind_some] at h |-
   rw [find_hit (hfm k st hk) rfl]
   cases hf : st.arcs.find? (fun a => decide (a.byte = b)) with
   | none => rw [hf] at h; cases h
   | some a =>
    rw [hf] at h
    simp only [Option.map_eq_some_iff] at h |-
    obtain ⟨x, hx, rfl⟩ := h
    rw [Nat.mod_eq_of_lt (by unfold M64; omega), decide_eq_true (by unfold M64; omega), Bool.and_self, val_some hfm w _ _ _ hx (by omega), Nat.add_assoc]
theorem OwnF.get {es : List Ent} (h : OwnF es) (w : ByteArray) : getV (buildF es).init (buildF es).states w = match findE es w with | some e => (e, true) | none => (⟨⟨#[]⟩, 0, false⟩, false) := by
 have hp := h.pos
 have hk : (buildF es).states[(buildF es).states.length - 1]? = some (buildF es).states[(buildF es).states.length - 1] := gE1 (by omega)
 have hw : valW (buildF es).states ((buildF es).states.length - 1) (wl w) = ((findE es w).map valE).map (. - leastV (es.map wvE)) := by
  rw [val_wds h.inv (wl w) ((buildF es).states.length - 1 + (255 + w.size)) _ _ (by rw [wl_length]; omega) hk, own_wds h.ok h.rise _ (fun e he => by have := okW_size (h.ok e he).2.1; omega), <- find_lk]
  exact lk_rel h.ok h.rise _ _ _
 unfold getV valV
 cases hf : findE es w with
 | none =>
  rw [hf] at hw
  rw [val_none h.formed _ _ _ hw]
  rfl
 | some e =>
  rw [hf] at hw
  simp only [Option.map_some] at hw
  have he : e ∈ es := List.mem_of_find?_eq_some hf
  have hew : e.word = w := by
   unfold findE at hf
   have hq := List.find?_some hf
   simpa using hq
  have hl := h.least he
  have hi := own_init h.ok h.rise
  rw [val_some h.formed _ _ _ _ hw (by rw [hi]; omega), hi, show leastV (es.map wvE) + (valE e - leastV (es.map wvE)) = valE e by omega]
  show (ofE w (valE e), ofB (valE e)) = (e, true)
  rw [<- hew, of_wvE ⟨(h.ok e he).1, (h.ok e he).2.2⟩]
  unfold ofB
  rw [decide_eq_false (by omega)]
  rfl
theorem str_eq {a b : ByteArray} (h : (a.toList == b.toList) = true) : a = b := by
 rw [wl_eq_iff] at h
 exact wl_inj (of_decide_eq_true h)
theorem str_ne {a b : ByteArray} (h : (a.toList == b.toList) = false) : a ≠ b := by
 rw [wl_eq_iff] at h
 exact fun e => of_decide_eq_false h (by rw [e])
theorem ent_neq {p q : Ent} {w1 : World} : (if p.word.toList = q.word.toList then if p.weight = q.weight then if p.gone = q.gone then (Result.ok (Next.value (Value.bool false)) w1 : Result Next) else .ok (.value (.bool true)) w1 else .ok (.value (.bool true)) w1 else .ok (.value (.bool true)) w1) = .ok (.value (.bool (decide (p ≠ q)))) w1 := by
 cases p with | mk a b c => cases q with | mk a' b' c' =>
 by_cases h1 : a = a'
 ·subst h1
  by_cases h2 : b = b'
  ·by_cases h3 : c = c'
   ·subst h2; subst h3; simp
   ·simp [h2, h3]
  ·simp [h2]
 ·have h5 : a.toList ≠ a'.toList := fun h => h1 (str_eq (beq_iff_eq.2 h))
  simp [h1, h5]
theorem find_at {es : List Ent} {i : Nat} {q : Ent} {s : ByteArray} (hi : es[i]? = some q) (hn : findE (es.take i) s = none) (hq : q.word = s) : findE es s = some q := by
 rw [<- List.take_append_drop i es]
 unfold findE at hn |-
 rw [List.find?_append, hn, drop_get hi, List.find?_cons, decide_eq_true hq]
 rfl
theorem find_not {es : List Ent} {i : Nat} {q : Ent} {s : ByteArray} (hi : es[i]? = some q) (hn : findE (es.take i) s = none) (hq : q.word ≠ s) : findE (es.take (i + 1)) s = none := by
 unfold findE at hn |-
 rw [List.take_add_one, hi, List.find?_append, hn]
 simp [hq]
theorem same_len5 (w : World) (a b : List Ent) (Ba Bb : Nat) (va vb : Value) (hBa : Ba <= w.heap.size) (hBb : Bb <= w.heap.size) (ha : RE w Ba va a) (hb : RE w Bb vb b) (hla : a.length <= 1000000) (hlb : b.length <= 1000000) (h1 : ((a.length : Int) != (b.length : Int)) = true) : Calls Tryz.prog 21 #[va, vb] w fun e w1 => e = .returned (.bool false) /\ Below w.heap.size w w1 := by
 refine Zn2 26 Tryz.func21 fun fr hf s0 s1 => ?_
 have ha0 := ha.any; have hb0 := hb.any
 obtain ⟨Aa, ca, rfl, hca⟩ := ha.form
 obtain ⟨Ab, cb, rfl, hcb⟩ := hb.form
 clear ha hb
 have q1 : ((a.length : Int) != (b.length : Int)) = true := h1
 refine Ze fun _ hK1 => Zr [] hf ?_
 refine Zq2 0 1 hf ?_
 clear hf s0 s1; intro fr1 hf sS
 refine Zs hK1 fun _ hK2 => Ze fun _ hK3 => Zr [6, 7, 8, 9] hf ?_
 refine Zq3 0 1 10 hf ?_
 clear hf sS; intro fr1 hf sS
 refine Zx hK3 (Fact.cond_t sS.2.2 ?_)
 refine Ze fun _ hK4 => Zr [] hf ?_
 refine Zq1 4 hf ?_
 clear hf sS; intro fr1 hf s4
 refine Zx hK4 (Zret ?_)
 exact Fact.ret1 rfl hf s4 ⟨rfl, Below.refl _ _⟩
theorem same_all5 (w : World) (a b : List Ent) (Ba Bb : Nat) (va vb : Value) (hBa : Ba <= w.heap.size) (hBb : Bb <= w.heap.size) (ha : RE w Ba va a) (hb : RE w Bb vb b) (hla : a.length <= 1000000) (hlb : b.length <= 1000000) (h1 : ((a.length : Int) != (b.length : Int)) = false) : Calls Tryz.prog 21 #[va, vb] w fun e w1 => e = .returned (.bool (decide (a = b))) /\ Below w.heap.size w w1 := by
 refine Zn2 26 Tryz.func21 fun fr hf s0 s1 => ?_
 have ha0 := ha.any; have hb0 := hb.any
 obtain ⟨Aa, ca, rfl, hca⟩ := ha.form
 obtain ⟨Ab, cb, rfl, hcb⟩ := hb.form
 clear ha hb
 have q1 : ((a.length : Int) != (b.length : Int)) = false := h1
 refine Ze fun _ hK1 => Zr [] hf ?_
 refine Zq2 0 1 hf ?_
 clear hf s0 s1; intro fr1 hf sS
 refine Zs hK1 fun _ hK2 => Ze fun _ hK3 => Zr [6, 7, 8, 9] hf ?_
 refine Zq3 0 1 10 hf ?_
 clear hf sS; intro fr1 hf sS
 refine Zx hK3 (Fact.cond_f sS.2.2 ?_)
 have hl : a.length = b.length := by have := bne_eq_false_iff_eq.1 h1; omega
 have HL := Lib.hid hl; clear hl
 clear h1 q1
 refine wp_skip (Zs hK2 fun _ hK4 => Ze fun _ hK5 => Zr [] hf ?_)
 refine Zq3 0 1 5 hf ?_
 clear hf sS; intro fr1 hf sS
 refine Zx hK5 (wp_block (wp_loop_ghost (fun gk fr wr => ∃ (i : Nat), gk = a.length - i /\ i <= a.length /\ Fact.Fr 26 fr /\ fr.tmps[0]? = some (.slice Aa a.length ca) /\ fr.tmps[1]? = some (.slice Ab b.length cb) /\ fr.tmps[5]? = some (.int .i64 i) /\ a.take i = b.take i /\ Below w.heap.size w wr) (a.length) ?_ ?_))
 . (
 obtain ⟨s0, s1, s5⟩ := sS
 exact ⟨0, rfl, Nat.zero_le _, hf, s0, s1, s5, rfl, Below.refl _ _⟩)
 . (
 clear hf sS
 rintro gk fr wr ⟨i, hk, hi, hf, s0, s1, s5, hta, hb⟩
 have HK := Lib.hid hk; have HT := Lib.hid hta; clear hk hta
 refine Ze fun _ hK6 => Ze fun _ hK7 => Zr [11, 12, 13] hf ?_
 refine Zq4 0 1 5 14 hf ?_
 clear hf s0 s1 s5; intro fr1 hf sS
 refine Zx hK7 (Fact.cond_s sS.2.2.2 (fun hq => ?_) (fun hq => ?_))
 . (
 have hlt : i < a.length := by have h9 := of_decide_eq_true hq; omega
 have hltb : i < b.length := by have := HL.out; omega
 have HQ := Lib.hid hq; clear hq
 obtain ⟨p, hp⟩ : ∃ p, a[i]? = some p := ⟨_, gE1 hlt⟩
 obtain ⟨q, hqb⟩ : ∃ q, b[i]? = some q := ⟨_, gE1 (by have := HL.out; omega)⟩
 obtain ⟨g1, o1, rfl, _, _, d0, d1, d2⟩ := (ha0.below hb).at_ hp
 obtain ⟨g2, o2, rfl, _, _, e0, e1, e2⟩ := (hb0.below hb).at_ hqb
 have HP := Lib.hid hp; have HB := Lib.hid hqb; clear hp hqb
 refine wp_skip (Zs hK6 fun _ hK8 => wp_block (Ze fun _ hK9 => ?_))
 obtain ⟨s0, s1, s5, s14⟩ := sS
 refine Stab.tb 26 fun hok => ?_
 refine Stab.mO 0 s0 hf hok ?_
 refine Stab.mO 1 s5 hf hok ?_
 refine Stab.Ti 2 hf hok (fun _ _ h d => ad (Stab.vd 0 1 d []) (Stab.vd 1 0 d [])) ?_
 refine Stab.T 3 hf hok (fun _ _ h d => ad (Stab.vd 2 0 d []) (ad (cL h.ext d0) (ad (cL h.ext d1) (ad (cL h.ext d2) (ad (cL h.ext e0) (ad (cL h.ext e1) (cL h.ext e2))))))) ?_
 refine Stab.mO 4 s1 hf hok ?_
 refine Stab.mO 5 s5 hf hok ?_
 refine Stab.Ti 6 hf hok (fun _ _ h d => ad (Stab.vd 4 1 d []) (Stab.vd 5 0 d [])) ?_
 refine Stab.T 7 hf hok (fun _ _ h d => ad (Stab.vd 6 0 d []) (ad (cL h.ext d0) (ad (cL h.ext d1) (ad (cL h.ext d2) (ad (cL h.ext e0) (ad (cL h.ext e1) (cL h.ext e2))))))) ?_
 apply Stab.tq 8 _ hf hok
 . (
 intro fr1 w1 hh hd hk K Z
 have s20 := Stab.v 3 4 hd hk []
 have s24 := Stab.v 7 0 hd hk []
 clear hd
 go_simp
 rw [ent_neq]
 rw [Oper.upon_value]
 exact Stab.k Z)
 refine Stab.E hf hok (fun _ _ h g => ad (Stab.O h s0) (ad (Stab.O h s1) (ad (Stab.O h s5) (Stab.f 8 0 g)))) ?_
 clear hf hok s0 s1 s5 s14; intro fr1 w1 hf hx sS
 replace d0 := cL hx d0
 replace d1 := cL hx d1
 replace d2 := cL hx d2
 replace e0 := cL hx e0
 replace e1 := cL hx e1
 replace e2 := cL hx e2
 refine Zx hK9 (Fact.cond_s sS.2.2.2 (fun hq2 => ?_) (fun hq2 => ?_))
 . (
 have HQ2 := Lib.hid hq2; clear hq2
 have hne : a ≠ b := fun e => of_decide_eq_true HQ2.out (Option.some.inj (by rw [<- HP.out, <- HB.out, e]))
 have HN := Lib.hid hne; clear hne
 refine Ze fun _ hK10 => Zr [] hf ?_
 refine Zq1 4 hf ?_
 clear hf sS; intro fr1 hf s4
 refine Zx hK10 (Zret ?_)
 exact Fact.ret1 rfl hf s4 ⟨by rw [decide_eq_false HN.out], hb.trans (hx.mono hb.size)⟩)
 . (
 have HQ2 := Lib.hid hq2; clear hq2
 have hpq : p = q := by have := of_decide_eq_false HQ2.out; exact Classical.not_not.1 this
 have hts : a.take (i + 1) = b.take (i + 1) := by rw [List.take_add_one, List.take_add_one, HT.out, HP.out, HB.out, hpq]
 have HTS := Lib.hid hts; clear hts hpq
 refine wp_skip (Fact.block_normal (Zx hK8 (Zr [15, 16] hf ?_)))
 refine Zq3 0 1 5 hf ?_
 clear hf sS; intro fr1 hf sS
 refine Fact.then_normal ?_
 obtain ⟨s0, s1, s5⟩ := sS
 exact ⟨_, by have := HK.out; omega, i + 1, rfl, by omega, hf, s0, s1, by rw [s5]; rfl, HTS.out, hb.trans (hx.mono hb.size)⟩))
 . (
 have hie : i = a.length := by have h9 := of_decide_eq_false hq; omega
 have HIE := Lib.hid hie; clear hie hq
 refine Zo ?_
 refine Zs hK4 fun _ hK11 => Zr [] hf ?_
 refine Zq1 4 hf ?_
 clear hf sS; intro fr1 hf s4
 refine Zx hK11 (Zret ?_)
 refine Fact.ret1 rfl hf s4 ⟨?_, hb⟩
 have h5 := HT.out
 rw [HIE.out] at h5
 rw [decide_eq_true (by rwa [List.take_length, HL.out, List.take_length] at h5)]))
theorem same11 (w : World) (a b : List Ent) (Ba Bb : Nat) (va vb : Value) (hBa : Ba <= w.heap.size) (hBb : Bb <= w.heap.size) (ha : RE w Ba va a) (hb : RE w Bb vb b) (hla : a.length <= 1000000) (hlb : b.length <= 1000000) : Calls Tryz.prog 21 #[va, vb] w fun e w1 => e = .returned (.bool (decide (a = b))) /\ Below w.heap.size w w1 := by
 cases h1 : ((a.length : Int) != (b.length : Int)) with
 | false => exact same_all5 w a b Ba Bb va vb hBa hBb ha hb hla hlb h1
 | true =>
  refine (same_len5 w a b Ba Bb va vb hBa hBb ha hb hla hlb h1).mono fun e w1 h => ?_
  rw [decide_eq_false (fun h => by subst h; simp at h1)]
  exact h
theorem find15 (w : World) (es : List Ent) (B : Nat) (v : Value) (hB : B <= w.heap.size) (hre : RE w B v es) (hlen : es.length <= 1000000) (s : ByteArray) : Calls Tryz.prog 23 #[v, .string s] w fun e w1 => e = .returned (.tuple #[eval ((findE es s).getD ⟨⟨#[]⟩, 0, false⟩), .bool (findE es s).isSome]) /\ Below w.heap.size w w1 := by
 refine Zn2 25 Tryz.func23 fun fr hf s0 s1 => ?_
 have hre0 := hre.any
 obtain ⟨A, cc, rfl, hcc⟩ := hre.form
 clear hre
 refine Ze fun _ hK1 => Zr [] hf ?_
 refine Zq3 0 1 4 hf ?_
 clear hf s0 s1; intro fr1 hf sS
 generalize hW0 : w.alloc (.cells #[.string ⟨#[]⟩, .int .u32 0, .bool false] 64) = W0
 obtain ⟨hb0, c0, c1, c2, hx0, -⟩ := box3 hW0
 clear hW0
 clear c0 c1 c2
 replace hre0 := hre0.below hb0
 have hz0 := hb0.size
 have hx1 := heap_lt hx0
 refine Zs hK1 fun _ hK2 => Ze fun _ hK3 => Zr [] hf ?_
 refine Zq4 0 1 4 6 hf ?_
 clear hf sS; intro fr1 hf sS
 refine Zx hK3 (wp_block (wp_loop_ghost (fun gk fr wr => ∃ (i : Nat), gk = es.length - i /\ i <= es.length /\ Fact.Fr 25 fr /\ fr.tmps[0]? = some (.slice A es.length cc) /\ fr.tmps[1]? = some (.string s) /\ fr.tmps[4]? = some (.pointer (some ⟨w.heap.size, 0, none⟩)) /\ fr.tmps[6]? = some (.int .i64 i) /\ findE (es.take i) s = none /\ wr = W0) (es.length) ?_ ?_))
 . (
 obtain ⟨s0, s1, s4, s6⟩ := sS
 exact ⟨0, rfl, Nat.zero_le _, hf, s0, s1, s4, s6, rfl, rfl⟩)
 . (
 clear hf sS
 rintro gk fr wr ⟨i, hk, hi, hf, s0, s1, s4, s6, hfi, hwr⟩
 subst wr
 have HK := Lib.hid hk; have HFI := Lib.hid hfi; clear hk hfi
 refine Ze fun _ hK4 => Ze fun _ hK5 => Zr [7, 8, 9] hf ?_
 refine Zq5 0 1 4 6 10 hf ?_
 clear hf s0 s1 s4 s6; intro fr1 hf sS
 refine Zx hK5 (Fact.cond_s sS.2.2.2.2 (fun hq => ?_) (fun hq => ?_))
 . (
 have hlt : i < es.length := by have h9 := of_decide_eq_true hq; omega
 have HQ := Lib.hid hq; clear hq
 obtain ⟨q, hiq⟩ : ∃ q, es[i]? = some q := ⟨_, gE1 hlt⟩
 obtain ⟨b, off, rfl, _, _, d0, d1, d2⟩ := hre0.at_ hiq
 have HI := Lib.hid hiq; clear hiq
 refine wp_skip (Zs hK4 fun _ hK6 => wp_block (Ze fun _ hK7 => Zr [13, 14, 15, 16, 17, 18] hf ?_))
 refine Zq5 0 1 4 6 19 hf ?_
 clear hf sS; intro fr1 hf sS
 refine Zx hK7 (Fact.cond_s sS.2.2.2.2 (fun hq2 => ?_) (fun hq2 => ?_))
 . (
 have hqs : q.word = s := str_eq hq2
 have hfs : findE es s = some q := find_at HI.out HFI.out hqs
 have HFS := Lib.hid hfs; clear hfs hqs hq2
 have z0 := cR1 0 hx0; have z1 := cR1 1 hx0; have z2 := cR1 2 hx0
 simp at z0 z1 z2
 have f0 := frozen_of (i := 0) hx0; have f1 := frozen_of (i := 1) hx0; have f2 := frozen_of (i := 2) hx0
 refine Ze fun _ hK8 => Zr [20, 21, 22, 23] hf ?_
 refine Zq2 4 5 hf ?_
 clear hf sS; intro fr1 hf sS
 refine Zx hK8 (Zret ?_)
 refine ret_ct rfl hf sS.1 sS.2 (set_block (set_block (set_block hx0 _) _) _) Tryz.underlying64 rfl (by kernel_rfl) ⟨?_, ((hb0.setCell (p := ⟨w.heap.size, 0, none⟩) (Nat.le_refl _) _).setCell (p := ⟨w.heap.size, 1, none⟩) (Nat.le_refl _) _).setCell (p := ⟨w.heap.size, 2, none⟩) (Nat.le_refl _) _⟩
 rw [HFS.out]
 rfl)
 . (
 have hfs : findE (es.take (i + 1)) s = none := find_not HI.out HFI.out (str_ne hq2)
 have HFS := Lib.hid hfs; clear hfs hq2
 refine wp_skip (Fact.block_normal (Zx hK6 (Zr [11, 12] hf ?_)))
 refine Zq4 0 1 4 6 hf ?_
 clear hf sS; intro fr1 hf sS
 refine Fact.then_normal ?_
 obtain ⟨s0, s1, s4, s6⟩ := sS
 exact ⟨_, by have := HK.out; omega, i + 1, rfl, by omega, hf, s0, s1, s4, by rw [s6]; rfl, HFS.out, rfl⟩))
 . (
 have hie : i = es.length := by have h9 := of_decide_eq_false hq; omega
 have hfn : findE es s = none := by have h9 := HFI.out; rwa [hie, List.take_length] at h9
 have HFN := Lib.hid hfn; clear hfn hie hq
 have z0 := cR1 0 hx0; have z1 := cR1 1 hx0; have z2 := cR1 2 hx0
 simp at z0 z1 z2
 have f0 := frozen_of (i := 0) hx0; have f1 := frozen_of (i := 1) hx0; have f2 := frozen_of (i := 2) hx0
 refine Zo ?_
 refine Zs hK2 fun _ hK9 => Zr [24] hf ?_
 refine Zq2 4 5 hf ?_
 clear hf sS; intro fr1 hf sS
 refine Zx hK9 (Zret ?_)
 refine ret_ct rfl hf sS.1 sS.2 (set_block (set_block (set_block hx0 _) _) _) Tryz.underlying64 rfl (by kernel_rfl) ⟨?_, ((hb0.setCell (p := ⟨w.heap.size, 0, none⟩) (Nat.le_refl _) _).setCell (p := ⟨w.heap.size, 1, none⟩) (Nat.le_refl _) _).setCell (p := ⟨w.heap.size, 2, none⟩) (Nat.le_refl _) _⟩
 rw [HFN.out]
 rfl))
theorem RS.take {w : World} {A : Option Addr} {n c m : Nat} {ss : List State} (h : RS w (.slice A n c) ss) (hm : m <= n) : RS w (.slice A m c) (ss.take m) := by
 obtain ⟨A', c', h1, h2, h3⟩ := h
 injection h1 with h1 h4 h5
 subst h1; subst h5
 have hl : (ss.take m).length = m := by rw [List.length_take]; omega
 refine ⟨A, c, by rw [hl], by omega, fun h0 => ?_⟩
 obtain ⟨b, off, h6, h7⟩ := h3 (by omega)
 exact ⟨b, off, h6, fun i s hi => h7 i s (by
  rw [List.getElem?_take] at hi
  split at hi
  ·exact hi
  ·cases hi)⟩
structure PutK (n init : Nat) (ss : List State) (S : ByteArray) : Prop where
 get : pGet S = .ok (n, init, ss)
 sz : S.size <= 900000000
 len : ss.length <= 1000000
theorem PutK.hlen {n init : Nat} {ss : List State} {S : ByteArray} (h : PutK n init ss S) : ∀ en i s2, pGet S = .ok (en, i, s2) -> s2.length <= 1000000 := fun en i s2 h2 => by rw [h.get] at h2; cases h2; exact h.len
theorem PutK.opened {n init : Nat} {ss : List State} {S : ByteArray} {w w1 : World} {e : Ending} (hk : PutK n init ss S) (hr : rightS n ss init = true) (h : OpenR w w1 e S) : ∃ Q sv, e = .returned (.tuple #[.pointer (some ⟨Q, 0, none⟩), .int .i64 0]) /\ w1.heap[Q]? = some (.cells #[sv, .int .u64 init, .int .i64 n, .int .i64 S.size] 98 (0, 0)) /\ RS w1 sv ss /\ Below w.heap.size w w1 := by
 unfold OpenR at h
 rw [hk.get] at h
 simp only at h
 rw [hr] at h
 obtain ⟨Q, sv, h1, _, h2, h3, h4⟩ := h
 exact ⟨Q, sv, h1, h2, h3, h4⟩
theorem OwnF.get2 {es : List Ent} (h : OwnF es) (w : ByteArray) : getV (buildF es).init (buildF es).states w = ((findE es w).getD ⟨⟨#[]⟩, 0, false⟩, (findE es w).isSome) := by
 rw [h.get]
 cases findE es w <;> rfl
theorem rise_at {es : List Ent} (hr : RiseE es) {i j : Nat} {a b : Ent} (hij : i < j) (hi : es[i]? = some a) (hj : es[j]? = some b) : lexlt (wl a.word) (wl b.word) = true := by
 obtain ⟨h1, h2⟩ := gS1 hi
 obtain ⟨h3, h4⟩ := gS1 hj
 have := List.pairwise_iff_getElem.1 hr i j h1 h3 hij
 rwa [h2, h4] at this
theorem find_own {es : List Ent} (hr : RiseE es) {i : Nat} {e : Ent} (hi : es[i]? = some e) : findE es e.word = some e := by
 refine find_at hi ?_ rfl
 unfold findE
 rw [List.find?_eq_none]
 intro x hx hd
 obtain ⟨j, hj, hxj⟩ := List.mem_take_iff_getElem.1 hx
 have h1 := rise_at hr (show j < i by omega) (gE1 (by omega)) hi
 rw [hxj, of_decide_eq_true hd, lex_irr] at h1
 cases h1
theorem filter_drop {es : List Ent} (hr : RiseE es) {s : List Nat} {k : Nat} (hk : k <= es.length) (h1 : ∀ j e, j < k -> es[j]? = some e -> lexlt (wl e.word) s = true) (h2 : ∀ e, es[k]? = some e -> lexlt (wl e.word) s = false) : (es.filter fun e => !lexlt (wl e.word) s) = es.drop k := by
 have h3 : ((es.take k).filter fun e => !lexlt (wl e.word) s) = [] := List.filter_eq_nil_iff.2 fun x hx => by
  obtain ⟨j, hj, hxj⟩ := List.mem_take_iff_getElem.1 hx
  rw [h1 j x (by omega) (by rw [gE1 (by omega), hxj])]
  decide
 have h4 : ((es.drop k).filter fun e => !lexlt (wl e.word) s) = es.drop k := List.filter_eq_self.2 fun x hx => by
  obtain ⟨j, hj, hxj⟩ := List.mem_drop_iff_getElem.1 hx
  have hxk : es[k + j]? = some x := by rw [<- hxj, gE1]
  cases hq : lexlt (wl x.word) s with
  | false => rfl
  | true =>
   have hkx : es[k]? = some (es[k]'(by omega)) := gE1 (by omega)
   have h5 := h2 _ hkx
   rcases Nat.eq_zero_or_pos j with rfl | hj0
   ·have : es[k]'(by omega) = x := by rw [Nat.add_zero, hkx] at hxk; exact Option.some.inj hxk
    rw [this, hq] at h5; cases h5
   ·have h6 := lexlt_trans _ _ _ (rise_at hr (show k < k + j by omega) hkx hxk) hq
    rw [h6] at h5; cases h5
 have h5 := congrArg (List.filter fun e : Ent => !lexlt (wl e.word) s) (List.take_append_drop k es)
 rw [List.filter_append, h3, h4, List.nil_append] at h5
 exact h5.symm
theorem from_drop {es : List Ent} (h : OwnF es) (s : ByteArray) (n k : Nat) (hd : (es.filter fun e => !lexlt (wl e.word) (wl s)) = es.drop k) : fromV (buildF es).states (buildF es).init s (n : Int) = (es.take (min es.length (k + n))).drop k := by
 rw [h.from, hd, List.drop_take]
 split
 ·rw [show min es.length (k + n) - k = 0 by omega]; rfl
 ·rw [Int.toNat_natCast]
  rcases Nat.le_total (k + n) es.length with h1 | h1
  ·rw [show min es.length (k + n) - k = n by omega]
  ·rw [List.take_of_length_le (by rw [List.length_drop]; omega), List.take_of_length_le (by rw [List.length_drop]; omega)]
theorem RE.cut {w : World} {B b off n c k m c2 : Nat} {es : List Ent} (h : RE w B (.slice (some ⟨b, off, none⟩) n c) es) (hkm : k <= m) (hm : m <= es.length) (hc : m - k <= c2) : RE w B (.slice (some ⟨b, off + k * 3, none⟩) (m - k) c2) ((es.take m).drop k) := by
 obtain ⟨A, c0, h1, h2, h3⟩ := h
 injection h1 with h1 h4 h5
 subst h1
 have hl : ((es.take m).drop k).length = m - k := by rw [List.length_drop, List.length_take, Nat.min_eq_left hm]
 refine ⟨_, c2, by rw [hl], by rw [hl]; exact hc, fun h0 => ?_⟩
 have hp0 : 0 < es.length := by rw [hl] at h0; clear hl h3; omega
 obtain ⟨b2, o2, h6, h7, h8⟩ := h3 hp0
 injection h6 with h6
 injection h6 with h6 h9 _
 subst h6; subst h9
 refine ⟨_, _, rfl, h7, fun j u hj => ?_⟩
 have e1 : ecs es = ecs (es.take m) ++ ecs (es.drop m) := by rw [<- ecs_append, List.take_append_drop]
 have e2 : ecs (es.take m) = ecs ((es.take m).take k) ++ ecs ((es.take m).drop k) := by rw [<- ecs_append, List.take_append_drop]
 have hj3 : j < (ecs ((es.take m).drop k)).length := (gS1 hj).1
 have ht : (ecs ((es.take m).take k)).length = k * 3 := by rw [ecs_length, List.length_take, List.length_take, Nat.min_eq_left hm, Nat.min_eq_left hkm]
 rw [Nat.add_assoc]
 refine h8 (k * 3 + j) u ?_
 rw [e1, List.getElem?_append_left (by rw [e2, List.length_append, ht]; omega), e2, List.getElem?_append_right (by omega), ht, show k * 3 + j - k * 3 = j by omega]
 exact hj
theorem RE.slice {w : World} {B n c k m : Nat} {A : Option Addr} {es : List Ent} (h : RE w B (.slice A n c) es) (hkm : k <= m) (hm : m <= es.length) : RE w B (.slice (if c = k then A else Option.map (fun x => x.add (k * 3)) A) (m - k) (c - k)) ((es.take m).drop k) := by
 have hl : ((es.take m).drop k).length = m - k := by rw [List.length_drop, List.length_take, Nat.min_eq_left hm]
 obtain ⟨A0, c0, h1, h2, h3⟩ := id h
 injection h1 with h1 h4 h5
 subst h1; subst h4; subst h5
 by_cases h0 : m - k = 0
 ·exact ⟨_, _, by rw [hl], by rw [hl]; omega, fun h9 => by rw [hl] at h9; omega⟩
 ·obtain ⟨b, o, h6, _, _⟩ := h3 (by omega)
  subst h6
  rw [if_neg (by omega)]
  have h9 : m - k <= c - k := by omega
  rw [Option.map_some, Addr.add_lit]
  exact h.cut hkm hm h9
theorem OwnF.put {es : List Ent} (h : OwnF es) : PutK es.length (buildF es).init (buildF es).states (makeV es).1 := by
 have h0 : chkN es = 0 := chk_rise _ _ (fun e he => (h.ok e he).2.1) h.rise (fun q hq => by cases hq)
 have hm := h.make
 obtain ⟨bd, h1, h2, h3, h4, h5⟩ := make_sealed h0 (by rw [hm]) ⟨h.st, h.sl⟩ h.few (own_init_lt h.ok h.rise)
 refine ⟨h5, ?_, by have := h.sl; have := h.few; omega⟩
 rw [<- wl_length, h1, Crc.seal_length]
 omega
theorem RE.lit {w W : World} {A : Array Value} {t : TypeId} (h : w.alloc (.cells A t) = W) (l : List Ent) (hA : A.toList = ecs l) : Below w.heap.size w W /\ RE W W.heap.size (.slice (some ⟨w.heap.size, 0, none⟩) l.length l.length) l := by
 obtain ⟨h1, h2, h3⟩ := lit_cells h
 exact ⟨h1, _, _, rfl, Nat.le_refl _, fun _ => ⟨_, _, rfl, by omega, fun j u hu => h2 j u (by rw [hA]; exact hu)⟩⟩
def wkE : List Ent := [⟨⟨#[97]⟩, 1, false⟩, ⟨⟨#[98]⟩, 0, true⟩]
def wkI : Nat := (buildF wkE).init
def wkS : List State := (buildF wkE).states
theorem wk_may (en : Int) (h : (mayF en wkS) = true) : (putR en wkI wkS).2 = 0 := by unfold putR; rw [if_pos h]
theorem wk_ok : ∀ s ∈ wkS, okS s := okS_all _ (by kernel_rfl)
theorem wk_make : makeV wkE = (bl (putR 2 wkI wkS).1, 0) := by
 unfold makeV
 rw [if_neg (by decide), if_neg (by rw [show chkN wkE = 0 by kernel_rfl]; simp)]
 exact Prod.ext rfl (wk_may 2 (by kernel_rfl))
theorem wk_get (en : Nat) (h : mayF en wkS = true) : pGet (bl (putR en wkI wkS).1) = .ok (en, wkI, wkS) := by
 have := pGet_put (en := (en : Int)) (init := wkI) h wk_ok (Nat.le_of_ble_eq_true (by kernel_rfl)) (Nat.le_of_ble_eq_true (by kernel_rfl))
 simpa using this
theorem wk_formed : ∀ (k : Nat) (st : State), wkS[k]? = some st -> okArcs k (-1) st.arcs = true := fun k st hk => formed_at (show formedF wkS = true by kernel_rfl) hk
theorem wk_right2 : rightS 2 wkS wkI = true := by kernel_rfl
theorem wk_right3 : rightS 3 wkS wkI = false := by kernel_rfl
theorem wk_a : getV wkI wkS ⟨#[97]⟩ = (⟨⟨#[97]⟩, 1, false⟩, true) := by kernel_rfl
theorem wk_b : getV wkI wkS ⟨#[98]⟩ = (⟨⟨#[98]⟩, 0, true⟩, true) := by kernel_rfl
theorem wk_c : getV wkI wkS ⟨#[99]⟩ = (⟨⟨#[]⟩, 0, false⟩, false) := by kernel_rfl
theorem wk_order : makeV [⟨⟨#[98]⟩, 1, false⟩, ⟨⟨#[97]⟩, 1, false⟩] = (⟨#[]⟩, 15) := by kernel_rfl
theorem wk_nil : makeV [] = (⟨#[]⟩, 2) := by kernel_rfl
theorem wk_none : openV ⟨#[]⟩ = false := by kernel_rfl
theorem wk_size (en : Nat) (h : mayF en wkS = true) (h2 : (putR en wkI wkS).1.length <= 1000) : (bl (putR en wkI wkS).1).size <= 900000000 := by
 rw [bl_size]; omega
theorem wk_okE : ∀ e ∈ wkE, okE e := by
 intro e he
 simp only [wkE, List.mem_cons, List.not_mem_nil, or_false] at he
 rcases he with rfl | rfl <;> (unfold okE; decide)
theorem wk_len : wkS.length <= 100000 := Nat.le_of_ble_eq_true (by kernel_rfl)
theorem wk_pos : 0 < wkS.length := Nat.lt_of_lt_of_le (Nat.zero_lt_one) (Nat.le_of_ble_eq_true (by kernel_rfl))
theorem wk_init : wkI < 18446744073709551616 := Nat.le_of_ble_eq_true (by kernel_rfl)
theorem wk_initE : (buildF wkE).init < 18446744073709551616 := wk_init
theorem wk_initN : (buildF []).init < 18446744073709551616 := Nat.le_of_ble_eq_true (by kernel_rfl)
theorem wk_few : ∀ s ∈ wkS, s.arcs.length <= 1000 := few_all _ (by kernel_rfl)
theorem wk_sz (en : Nat) (h : mayF en wkS = true) (h2 : Nat.ble (putR en wkI wkS).1.length 1000 = true) : (bl (putR en wkI wkS).1).size <= 900000000 := wk_size en h (Nat.le_of_ble_eq_true h2)
theorem wk_hlen (en : Nat) (h : mayF en wkS = true) : ∀ en2 init ss, pGet (bl (putR en wkI wkS).1) = .ok (en2, init, ss) -> ss.length <= 1000000 := by
 intro en2 init ss h2
 rw [wk_get en h] at h2
 cases h2
 exact Nat.le_trans wk_len (by omega)
theorem wk_open {w w1 : World} {e : Ending} {s : ByteArray} (hs : bl (putR 2 wkI wkS).1 = s) (h : OpenR w w1 e s) : ∃ S sv, e = .returned (.tuple #[.pointer (some ⟨S, 0, none⟩), .int .i64 0]) /\ w1.heap[S]? = some (.cells #[sv, .int .u64 wkI, .int .i64 (2 : Nat), .int .i64 s.size] 98 (0, 0)) /\ RS w1 sv wkS /\ Below w.heap.size w w1 := by
 subst hs
 unfold OpenR at h
 have hg := wk_get 2 (by kernel_rfl)
 rw [show ((2 : Nat) : Int) = 2 from rfl] at hg
 rw [hg] at h
 simp only at h
 rw [show rightS ((2 : Nat) : Int) wkS wkI = true from wk_right2] at h
 obtain ⟨S, sv, h1, _, h2, h3, h4⟩ := h
 exact ⟨S, sv, h1, h2, h3, h4⟩
theorem wk_bad : openV (bl (putR 3 wkI wkS).1) = false := by
 unfold openV
 have hg := wk_get 3 (by kernel_rfl)
 rw [show ((3 : Nat) : Int) = 3 from rfl] at hg
 rw [hg]
 exact wk_right3
attribute [local irreducible] wkI wkS putR makeV getV openV buildF rightS
theorem works8 (w : World)  : Calls Tryz.prog 8 #[] w fun e w1 => e = .returned (.bool true) /\ Below w.heap.size w w1 := by
 refine Zn0 113 Tryz.func8 fun fr hf => ?_
 have hbt := Below.refl w.heap.size w
 refine Ze fun _ hK1 => Zr [] hf ?_
 refine Zq0 hf ?_
 clear hf; intro fr1 hf
 refine Zt hK1 fun _ hK2 => ?_
 have bB := hf.B7 18 19 20 21 17 22 23
 iterate 2 refine Zy ?_
 refine fp fun K Z => ?_
 go_simp
 generalize hV1 : World.alloc w (.cells #[.string ⟨#[97]⟩, .int .u32 1, .bool false, .string ⟨#[98]⟩, .int .u32 0, .bool true] 64) = V1
 obtain ⟨bV1, x20⟩ := RE.lit hV1 [⟨⟨#[97]⟩, 1, false⟩, ⟨⟨#[98]⟩, 0, true⟩] rfl
 replace hbt := hbt.trans (bV1.mono hbt.size)
 clear hV1
 apply Z.out; clear Z K
 refine Zc (make9 V1 wkE V1.heap.size _ (Nat.le_refl _) x20 (by decide) wk_okE wk_initE) ?_; rintro e w1 ⟨rfl, hb1⟩
 rw [wk_make]
 generalize hSA : bl (putR 2 wkI wkS).1 = SA
 have HSA := Lib.hid hSA; clear hSA
 replace hbt := hbt.trans (hb1.mono hbt.size)
 replace x20 := (x20.below hb1).any
 dsimp only
 refine Zv ?_
 iterate 5 refine Zy ?_
 refine Fact.nil (Zq2 1 2 hf ?_)
 clear hf bB; intro fr1 hf sS
 refine Zt hK2 fun _ hK3 => ?_
 have bB := hf.B5 25 26 24 27 28
 refine Zy ?_
 refine Zc (open15 w1 SA (by rw [<- HSA.out]; exact wk_sz 2 (by kernel_rfl) (by kernel_rfl)) (by rw [<- HSA.out]; exact wk_hlen 2 (by kernel_rfl))) ?_; rintro e w2 hop
 obtain ⟨S, sv, rfl, hS, hrs, hb2⟩ := wk_open HSA.out hop
 replace hbt := hbt.trans (hb2.mono hbt.size)
 clear hb2
 refine Zv ?_
 iterate 5 refine Zy ?_
 refine Fact.nil (Zq3 2 3 4 hf ?_)
 clear hf sS bB; intro fr1 hf sS
 refine Zs hK3 fun _ hK4 => Ze fun _ hK5 => Zr [29, 30, 31, 32, 33, 34, 35, 36, 37] hf ?_
 refine Zq2 3 38 hf ?_
 clear hf sS; intro fr1 hf sS
 refine Zx hK5 (Fact.cond_f sS.2 ?_)
 refine wp_skip (Zt hK4 fun _ hK6 => ?_)
 have bB := hf.B6 40 41 39 42 43 5
 refine Zy ?_
 refine Zc (sget22 w2 S wkI 2 SA.size sv hS wkS ⟨#[97]⟩ hrs (Nat.le_trans wk_len (by omega)) wk_ok wk_formed wk_pos wk_init (by decide)) ?_; rintro e w5 ⟨rfl, hb5⟩
 rw [wk_a]
 simp only [eval]
 replace hbt := hbt.trans (hb5.mono hbt.size)
 replace hS := (hb5.block _ (heap_lt hS)).trans hS
 replace hrs := hrs.later hb5
 clear hb5
 refine Zv ?_
 iterate 6 refine Zy ?_
 refine Fact.nil (Zq3 3 5 6 hf ?_)
 clear hf sS bB; intro fr1 hf sS
 generalize hV5x : w5.alloc (.cells #[.string ⟨#[97]⟩, .int .u32 1, .bool false] 64) = V5x
 obtain ⟨hbV5x, e5, f5, g5, -, -⟩ := box3 hV5x
 clear hV5x
 replace hbt := hbt.trans (hbV5x.mono hbt.size)
 replace hS := (hbV5x.block _ (heap_lt hS)).trans hS
 replace hrs := hrs.later hbV5x
 clear hbV5x
 refine Zt hK6 fun _ hK7 => ?_
 have bB := hf.B6 45 46 44 47 48 7
 refine Zy ?_
 refine Zc (sget22 V5x S wkI 2 SA.size sv hS wkS ⟨#[98]⟩ hrs (Nat.le_trans wk_len (by omega)) wk_ok wk_formed wk_pos wk_init (by decide)) ?_; rintro e w6 ⟨rfl, hb6⟩
 rw [wk_b]
 simp only [eval]
 replace hbt := hbt.trans (hb6.mono hbt.size)
 replace hS := (hb6.block _ (heap_lt hS)).trans hS
 replace hrs := hrs.later hb6
 replace f5 := cL hb6 f5
 replace g5 := cL hb6 g5
 clear hb6
 refine Zv ?_
 iterate 6 refine Zy ?_
 refine Fact.nil (Zq5 3 5 6 7 8 hf ?_)
 clear hf sS bB; intro fr1 hf sS
 generalize hV6x : w6.alloc (.cells #[.string ⟨#[98]⟩, .int .u32 0, .bool true] 64) = V6x
 obtain ⟨hbV6x, e6, f6, g6, -, -⟩ := box3 hV6x
 clear hV6x
 replace hbt := hbt.trans (hbV6x.mono hbt.size)
 replace hS := (hbV6x.block _ (heap_lt hS)).trans hS
 replace hrs := hrs.later hbV6x
 replace f5 := cL hbV6x f5
 replace g5 := cL hbV6x g5
 clear hbV6x
 refine Zt hK7 fun _ hK8 => ?_
 have bB := hf.B6 50 51 49 52 53 9
 refine Zy ?_
 refine Zc (sget22 V6x S wkI 2 SA.size sv hS wkS ⟨#[99]⟩ hrs (Nat.le_trans wk_len (by omega)) wk_ok wk_formed wk_pos wk_init (by decide)) ?_; rintro e w7 ⟨rfl, hb7⟩
 rw [wk_c]
 simp only [eval]
 replace hbt := hbt.trans (hb7.mono hbt.size)
 replace hS := (hb7.block _ (heap_lt hS)).trans hS
 replace hrs := hrs.later hb7
 replace f5 := cL hb7 f5
 replace g5 := cL hb7 g5
 replace f6 := cL hb7 f6
 replace g6 := cL hb7 g6
 clear hb7
 refine Zv ?_
 iterate 6 refine Zy ?_
 refine Fact.nil (Zq6 3 5 6 7 8 10 hf ?_)
 clear hf sS bB; intro fr1 hf sS
 generalize hV7x : w7.alloc (.cells #[.string ⟨#[]⟩, .int .u32 0, .bool false] 64) = V7x
 obtain ⟨hbV7x, e7, f7, g7, -, -⟩ := box3 hV7x
 clear hV7x
 replace hbt := hbt.trans (hbV7x.mono hbt.size)
 replace hS := (hbV7x.block _ (heap_lt hS)).trans hS
 replace hrs := hrs.later hbV7x
 replace f5 := cL hbV7x f5
 replace g5 := cL hbV7x g5
 replace f6 := cL hbV7x f6
 replace g6 := cL hbV7x g6
 clear hbV7x
 refine Zt hK8 fun _ hK9 => ?_
 have bB := hf.B4 55 54 56 57
 refine Zc (make9 V7x [] V7x.heap.size _ (Nat.le_refl _) (OE.nil_ V7x 0).re (by decide) (fun _ h => absurd h (by simp)) wk_initN) ?_; rintro e w8 ⟨rfl, hb8⟩
 rw [wk_nil]
 replace hbt := hbt.trans (hb8.mono hbt.size)
 replace hS := (hb8.block _ (heap_lt hS)).trans hS
 replace hrs := hrs.later hb8
 replace f5 := cL hb8 f5
 replace g5 := cL hb8 g5
 replace f6 := cL hb8 f6
 replace g6 := cL hb8 g6
 replace f7 := cL hb8 f7
 replace g7 := cL hb8 g7
 dsimp only
 refine Zv ?_
 iterate 5 refine Zy ?_
 refine Fact.nil (Zq7 3 5 6 7 8 10 12 hf ?_)
 clear hf sS bB; intro fr1 hf sS
 refine Zt hK9 fun _ hK10 => ?_
 have bB := hf.B7 59 60 61 62 58 63 64
 iterate 2 refine Zy ?_
 refine fp fun K Z => ?_
 go_simp
 generalize hV2 : World.alloc w8 (.cells #[.string ⟨#[98]⟩, .int .u32 1, .bool false, .string ⟨#[97]⟩, .int .u32 1, .bool false] 64) = V2
 obtain ⟨bV2, x61⟩ := RE.lit hV2 [⟨⟨#[98]⟩, 1, false⟩, ⟨⟨#[97]⟩, 1, false⟩] rfl
 replace hbt := hbt.trans (bV2.mono hbt.size)
 replace hS := (bV2.block _ (heap_lt hS)).trans hS
 replace hrs := hrs.later bV2
 replace f5 := cL bV2 f5
 replace g5 := cL bV2 g5
 replace f6 := cL bV2 f6
 replace g6 := cL bV2 g6
 replace f7 := cL bV2 f7
 replace g7 := cL bV2 g7
 clear hV2
 apply Z.out; clear Z K
 refine Zc (make9 V2 [⟨⟨#[98]⟩, 1, false⟩, ⟨⟨#[97]⟩, 1, false⟩] V2.heap.size _ (Nat.le_refl _) x61 (by decide) (fun e he => by simp only [List.mem_cons, List.not_mem_nil, or_false] at he; rcases he with rfl | rfl <;> (unfold okE; decide)) (Nat.le_of_ble_eq_true (by kernel_rfl))) ?_; rintro e w9 ⟨rfl, hb9⟩
 rw [wk_order]
 replace hbt := hbt.trans (hb9.mono hbt.size)
 replace hS := (hb9.block _ (heap_lt hS)).trans hS
 replace hrs := hrs.later hb9
 replace f5 := cL hb9 f5
 replace g5 := cL hb9 g5
 replace f6 := cL hb9 f6
 replace g6 := cL hb9 g6
 replace f7 := cL hb9 f7
 replace g7 := cL hb9 g7
 replace x61 := (x61.below hb9).any
 dsimp only
 refine Zv ?_
 iterate 5 refine Zy ?_
 refine Fact.nil (Zq8 3 5 6 7 8 10 12 14 hf ?_)
 clear hf sS bB; intro fr1 hf sS
 refine Zx hK10 ?_
 obtain ⟨Ay, ny, rfl, hny⟩ := hrs.form
 refine Ze fun _ hK11 => rg ?_
 have bB := hf.B6 66 67 68 65 69 70
 refine Zy ?_
 refine Zc (fst26 w9 S (.slice Ay wkS.length ny) wkI 2 SA.size hS ⟨_, _, _, rfl⟩) ?_; rintro e w10 ⟨rfl, hb10⟩
 replace hbt := hbt.trans (hb10.mono hbt.size)
 replace hS := (hb10.block _ (heap_lt hS)).trans hS
 replace hrs := hrs.later hb10
 replace f5 := cL hb10 f5
 replace g5 := cL hb10 g5
 replace f6 := cL hb10 f6
 replace g6 := cL hb10 g6
 replace f7 := cL hb10 f7
 replace g7 := cL hb10 g7
 refine Zv ?_
 refine Zc (put14 w10 3 (.slice Ay wkS.length ny) wkI wkS hrs wk_ok wk_len wk_few wk_init) ?_; rintro e w11 ⟨rfl, hb11⟩
 rw [wk_may 3 (by kernel_rfl)]
 generalize hSB : bl (putR 3 wkI wkS).1 = SB
 have HSB := Lib.hid hSB; clear hSB
 replace hbt := hbt.trans (hb11.mono hbt.size)
 replace hS := (hb11.block _ (heap_lt hS)).trans hS
 replace hrs := hrs.later hb11
 replace f5 := cL hb11 f5
 replace g5 := cL hb11 g5
 replace f6 := cL hb11 f6
 replace g6 := cL hb11 g6
 replace f7 := cL hb11 f7
 replace g7 := cL hb11 g7
 refine Zv ?_
 iterate 5 refine Zy ?_
 refine Fact.nil (Zq9 3 5 6 7 8 10 12 14 15 hf ?_)
 clear hf sS bB; intro fr1 hf sS
 refine Zx hK11 ?_
 have q1 : decide (0 < SB.size) = true := decide_eq_true (by have := HSB.out; rw [<- this, bl_size]; exact Nat.lt_of_lt_of_le Nat.zero_lt_one (Nat.le_of_ble_eq_true (by kernel_rfl)))
 refine Ze fun _ hK12 => ?_
 have qs := q1
 refine rg ?_
 have bB := And.intro (hf.B10 71 72 73 74 75 76 77 78 79 80) (And.intro (hf.B10 81 82 83 84 85 86 87 88 89 90) (And.intro (hf.B10 91 92 93 94 95 96 97 98 99 100) (And.intro (hf.B10 101 102 103 104 105 106 107 108 109 110) (hf.B2 111 112))))
 refine Zy ?_
 refine Zc (len19 w11 S (.slice Ay wkS.length ny) wkI 2 SA.size hS) ?_; rintro e v1 ⟨rfl, hc1⟩
 replace hbt := hbt.trans (hc1.mono hbt.size)
 replace hS := (hc1.block _ (heap_lt hS)).trans hS
 replace hrs := hrs.later hc1
 replace f5 := cL hc1 f5
 replace g5 := cL hc1 g5
 replace f6 := cL hc1 f6
 replace g6 := cL hc1 g6
 replace f7 := cL hc1 f7
 replace g7 := cL hc1 g7
 refine Zv ?_
 iterate 29 refine Zy ?_
 refine Zd (corrupt11 v1 ⟨#[]⟩ (by decide) (fun en init ss h => by rw [show pGet ⟨#[]⟩ = .error (16, 0) by kernel_rfl] at h; cases h)) ?_; rintro e v31 ⟨rfl, hc31⟩
 rw [wk_none]
 replace hbt := hbt.trans (hc31.mono hbt.size)
 replace hS := (hc31.block _ (heap_lt hS)).trans hS
 replace hrs := hrs.later hc31
 replace f5 := cL hc31 f5
 replace g5 := cL hc31 g5
 replace f6 := cL hc31 f6
 replace g6 := cL hc31 g6
 replace f7 := cL hc31 f7
 replace g7 := cL hc31 g7
 refine Zv ?_
 iterate 8 refine Zy ?_
 refine Zd (corrupt11 v31 SB (by rw [<- HSB.out]; exact wk_sz 3 (by kernel_rfl) (by kernel_rfl)) (by rw [<- HSB.out]; exact wk_hlen 3 (by kernel_rfl))) ?_; rintro e v40 ⟨rfl, hc40⟩
 have hob : openV SB = false := by rw [<- HSB.out]; exact wk_bad
 rw [hob]
 replace hbt := hbt.trans (hc40.mono hbt.size)
 replace hS := (hc40.block _ (heap_lt hS)).trans hS
 replace hrs := hrs.later hc40
 replace f5 := cL hc40 f5
 replace g5 := cL hc40 g5
 replace f6 := cL hc40 f6
 replace g6 := cL hc40 g6
 replace f7 := cL hc40 f7
 replace g7 := cL hc40 g7
 refine Zv ?_
 iterate 2 refine Zy ?_
 refine Fact.nil (Zq1 0 hf ?_)
 clear hf sS bB qs; intro fr1 hf s0
 refine Zx hK12 (Zret ?_)
 exact Fact.ret1 rfl hf s0 ⟨rfl, hbt⟩
end Dw
end Go.Proofs.YtcddnmhmcieebaaGreatDoor
