/- Dawg: the document's order of states. -/
import Derived.Test.YtgjfhedgdbbinaaDoorDRB
import Derived.Test.YtgjfhedgdbbinaaDoorDLaw
import Derived.Test.YtgjfhedgdbbinaaDoorTools
namespace Go.Proofs.YtgjfhedgdbbinaaDoor
open Go.RowKit
set_option linter.unusedSimpArgs false
set_option linter.unusedVariables false
set_option linter.unnecessarySimpa false
namespace Dw

theorem info_int : (Tryd.prog.info? 3).map (fun i => (i.zero, i.size, i.bytes)) = some (some (.int .i64 0), 1, 8) := by kernel_rfl
def OI (w : World) (base : Nat) (v : Value) (l : List Nat) : Prop := w.ownsRow base 3 1 v l.length (l.map fun (n : Nat) => Value.int .i64 (n : Int))
theorem OI.form {w : World} {base : Nat} {v : Value} {l : List Nat} (h : OI w base v l) : ∃ (A : Option Addr) (c : Nat), v = .slice A l.length c ∧ l.length ≤ c := by
  rcases h.2 with ⟨rfl, h0⟩ | ⟨g, cap, cur, rfl, _, _, hc, _⟩
  · exact ⟨none, 0, by rw [h0], by omega⟩
  · exact ⟨_, _, rfl, hc⟩
theorem OI.at_ {w : World} {base n c : Nat} {A : Option Addr} {l : List Nat} (h : OI w base (.slice A n c) l) {i x : Nat} (hi : l[i]? = some x) : ∃ g, A = some ⟨g, 0, none⟩ ∧ w.cell? ⟨g, i, none⟩ = some (.int .i64 (x : Nat)) := by
  have hlt := (List.getElem?_eq_some_iff.1 hi).1
  have h' := h
  unfold OI at h'
  rcases h'.2 with ⟨_, h0⟩ | ⟨g, cap, cur, he, _⟩
  · omega
  · injection he with h1 h2 h3
    subst h1; subst h2; subst h3
    refine ⟨g, rfl, ?_⟩
    rw [World.ownsRow.cellAt h' i (by omega), List.getElem?_map, hi]
    rfl
def RSB (w : World) (N : Nat) (sv : Value) (ss : List State) : Prop := ∀ w', Below N w w' → RS w' sv ss
theorem RSB.of {w : World} {sv : Value} {ss : List State} (h : RS w sv ss) : RSB w w.heap.size sv ss := fun _ hb => h.later hb
theorem nodup_len : ∀ (n : Nat) (l : List Nat), l.Nodup → (∀ x ∈ l, x < n) → l.length ≤ n
  | 0, l, _, h => by
    cases l with
    | nil => simp
    | cons x l => exact absurd (h x (List.mem_cons_self ..)) (by omega)
  | n + 1, l, hn, h => by
    by_cases hin : n ∈ l
    · have h1 := nodup_len n (l.erase n) (hn.erase n) (fun x hx => by
        have h2 := h x (List.mem_of_mem_erase hx)
        have h3 : x ≠ n := fun e => by subst e; exact (List.Nodup.not_mem_erase hn) hx
        omega)
      rw [List.length_erase_of_mem hin] at h1
      omega
    · have h1 := nodup_len n l hn (fun x hx => by
        have h2 := h x hx
        have h3 : x ≠ n := fun e => hin (e ▸ hx)
        omega)
      omega
theorem fold_ends0 {ss : List State} {f : Nat} (ih : ∀ (s : Nat) (out : List Nat) (n : Nat), out.Nodup → (∀ x ∈ out, x < n) → s < n → (endsL ss f s out).Nodup ∧ (∀ x ∈ endsL ss f s out, x < n) ∧ ∀ x ∈ endsL ss f s out, x ∈ out ∨ x ≤ s) :
    ∀ (l : List Arc) (out : List Nat) (s n : Nat), out.Nodup → (∀ x ∈ out, x < n) → s < n → (∀ a ∈ l, 0 ≤ a.to ∧ a.to < (s : Int)) → (l.foldl (fun o a => endsL ss f a.to.toNat o) out).Nodup ∧ (∀ x ∈ l.foldl (fun o a => endsL ss f a.to.toNat o) out, x < n) ∧ ∀ x ∈ l.foldl (fun o a => endsL ss f a.to.toNat o) out, x ∈ out ∨ x < s
  | [], out, s, n, h1, h2, h3, _ => ⟨h1, h2, fun x hx => .inl hx⟩
  | a :: l, out, s, n, h1, h2, h3, h4 => by
    have ha := h4 a (List.mem_cons_self ..)
    obtain ⟨i1, i2, i3⟩ := ih a.to.toNat out n h1 h2 (by omega)
    obtain ⟨j1, j2, j3⟩ := fold_ends0 ih l _ s n i1 i2 h3 (fun x hx => h4 x (List.mem_cons_of_mem _ hx))
    refine ⟨j1, j2, fun x hx => ?_⟩
    rcases j3 x hx with h | h
    · rcases i3 x h with h | h
      · exact .inl h
      · exact .inr (by omega)
    · exact .inr h
theorem ends_good {ss : List State} (hA : Ahead ss) : ∀ (f s : Nat) (out : List Nat) (n : Nat), out.Nodup → (∀ x ∈ out, x < n) → s < n → (endsL ss f s out).Nodup ∧ (∀ x ∈ endsL ss f s out, x < n) ∧ ∀ x ∈ endsL ss f s out, x ∈ out ∨ x ≤ s
  | 0, s, out, n, h1, h2, _ => ⟨h1, h2, fun x hx => .inl hx⟩
  | f + 1, s, out, n, h1, h2, h3 => by
    simp only [endsL]
    by_cases hs : s ∈ out
    · rw [if_pos hs]; exact ⟨h1, h2, fun x hx => .inl hx⟩
    · rw [if_neg hs]
      obtain ⟨j1, j2, j3⟩ := fold_ends0 (ends_good hA f) (arcsOf ss s) out s n h1 h2 h3 (hA s)
      refine ⟨List.nodup_append.2 ⟨j1, List.nodup_cons.2 ⟨by simp, List.nodup_nil⟩, fun a ha b hb => ?_⟩, fun x hx => ?_, fun x hx => ?_⟩
      · simp at hb
        subst hb
        intro e
        subst e
        rcases j3 _ ha with h | h
        · exact hs h
        · omega
      · rcases List.mem_append.1 hx with h | h
        · exact j2 x h
        · simp at h; omega
      · rcases List.mem_append.1 hx with h | h
        · exact (j3 x h).imp id (fun h => by omega)
        · simp at h; exact .inr (by omega)
def EndsOk (f : Nat) : Prop := ∀ (w : World) (N base : Nat) (sv : Value) (init : Nat) (ss : List State) (s : Nat) (out : List Nat) (ov : Value) (hs : s < f) (hsl : s < ss.length) (hrs : RSB w N sv ss) (hN : N ≤ base) (hbase : base ≤ w.heap.size) (hoi : OI w base ov out) (hnd : out.Nodup) (hlt : ∀ x ∈ out, x < ss.length) (hA : Ahead ss) (hok : ∀ s ∈ ss, okS s) (hlen : ss.length ≤ 1000000), Calls Tryd.prog 43 #[.agg #[sv, .int .u64 init], .int .i64 s, ov] w fun e w1 => ∃ v1, e = .returned v1 ∧ OI w1 base v1 (endsL ss f s out) ∧ But (fun k => ov.ownBlock = some k) w w1 ∧ (v1.ownBlock = ov.ownBlock ∨ ∃ k, v1.ownBlock = some k ∧ w.heap.size ≤ k)
set_option maxHeartbeats 4000000 in
set_option maxRecDepth 100000 in
theorem ends_step (w : World) (f : Nat) (ih : EndsOk f) (N base : Nat) (sv : Value) (init : Nat) (ss : List State) (s : Nat) (out : List Nat) (ov : Value) (hs : s < f + 1) (hsl : s < ss.length) (hrs : RSB w N sv ss) (hN : N ≤ base) (hbase : base ≤ w.heap.size) (hoi : OI w base ov out) (hnd : out.Nodup) (hlt : ∀ x ∈ out, x < ss.length) (hA : Ahead ss) (hok : ∀ s ∈ ss, okS s) (hlen : ss.length ≤ 1000000) : Calls Tryd.prog 43 #[.agg #[sv, .int .u64 init], .int .i64 s, ov] w fun e w1 => ∃ v1, e = .returned v1 ∧ OI w1 base v1 (endsL ss (f + 1) s out) ∧ But (fun k => ov.ownBlock = some k) w w1 ∧ (v1.ownBlock = ov.ownBlock ∨ ∃ k, v1.ownBlock = some k ∧ w.heap.size ≤ k) := by
 refine calls_of_wp Tryd.func43 rfl ?_
 refine Fact.en 50 fun fr hf hT => ?_
 have s0 := hT 0 _ rfl
 have s1 := hT 1 _ rfl
 have s2 := hT 2 _ rfl
 clear hT
 obtain ⟨st, hst⟩ : ∃ x, ss[s]? = some x := ⟨_, List.getElem?_eq_getElem hsl⟩
 obtain ⟨A0, c0, hA0, -⟩ := (hrs w (Below.refl _ _)).form
 subst hA0
 obtain ⟨b, off, av0, hAb, -⟩ := (hrs w (Below.refl _ _)).at_ hst
 subst hAb
 obtain ⟨Ao, co, hov, hco⟩ := OI.form hoi
 have hol := nodup_len _ _ hnd hlt
 have hos := hok st (List.mem_of_getElem? hst)
 have hal := hos.2.1
 have hst2 : arcsOf ss s = st.arcs := by unfold arcsOf; rw [hst]; rfl
 have HND := Lib.hid hnd; have HLT := Lib.hid hlt; have HAH := Lib.hid hA; have HOK := Lib.hid hok; have HRS := Lib.hid hrs; have HST := Lib.hid hst; have HST2 := Lib.hid hst2; have HOV := Lib.hid hov; clear hnd hlt hA hok hrs hst hst2
 rw [hov] at s2
 have HOI := Lib.hid hoi
 rw [hov] at hoi
 clear hov
 refine Fact.sq fun K1 hK1 => ?_
 refine rg ?_
 refine fp fun K Z => ?_
 go_simp
 apply Z.out; clear Z K
 refine fp fun K Z => ?_
 go_simp
 apply Z.out; clear Z K
 refine Fact.z hf fun fr1 hf1 hT => ?_
 have hKp : _ ∧ _ ∧ _ := ⟨hT 1, hT 2, hT 3⟩
 simp (decide := true) only [Fact.G, hf.size, reduceIte, s1, s2] at hKp
 replace hf := hf1; clear hT hf1 s0 s1 s2
 obtain ⟨s1, s2, s3⟩ := hKp
 obtain ⟨W0, hW0⟩ : ∃ W0, w.alloc (.cells #[.slice (some ⟨b, off, none⟩) ss.length c0, .int .u64 init] 33) = W0 := ⟨_, rfl⟩
 try rw [hW0]
 obtain ⟨hb0, -, -, hp0, -⟩ := box2 hW0
 clear hW0
 refine nx (hK1 _ _ ?_)
 refine Fact.sq fun K2 hK2 => ?_
 refine Fact.sq fun K3 hK3 => ?_
 refine rg ?_
 refine fp fun K Z => ?_
 go_simp
 apply Z.out; clear Z K
 refine Fact.z hf fun fr1 hf1 hT => ?_
 have hKp : _ ∧ _ ∧ _ ∧ _ := ⟨hT 1, hT 2, hT 3, hT 7⟩
 simp (decide := true) only [Fact.G, hf.size, reduceIte, s1, s2, s3] at hKp
 replace hf := hf1; clear hT hf1 s1 s2 s3
 obtain ⟨s1, s2, s3, s7⟩ := hKp
 refine nx (hK3 _ _ ?_)
 refine wp_block ?_
 refine wp_loop_ghost (fun gk fr wr => ∃ (i : Nat), gk = out.length - i ∧ i ≤ out.length ∧ Fact.Fr 50 fr ∧ fr.tmps[1]? = some (.int .i64 s) ∧ fr.tmps[2]? = some (.slice Ao out.length co) ∧ fr.tmps[3]? = some (.pointer (some ⟨w.heap.size, 0, none⟩)) ∧ fr.tmps[7]? = some (.int .i64 i) ∧ s ∉ out.take i ∧ wr = W0) (out.length) ?_ ?_
 · (
 exact ⟨0, rfl, Nat.zero_le _, hf, s1, s2, s3, s7, by simp, rfl⟩)
 · (
 clear hf s1 s2 s3 s7
 rintro gk fr wr ⟨i, hk, hi, hf, s1, s2, s3, s7, hn, rfl⟩
 have HK := Lib.hid hk; have HN := Lib.hid hn; clear hk hn
 refine Fact.sq fun K4 hK4 => ?_
 refine Fact.sq fun K5 hK5 => ?_
 refine rg ?_
 have b9 := hf.b 9
 have b10 := hf.b 10
 have b11 := hf.b 11
 refine fp fun K Z => ?_
 go_simp
 apply Z.out; clear Z K
 refine fp fun K Z => ?_
 go_simp
 apply Z.out; clear Z K
 refine fp fun K Z => ?_
 go_simp
 apply Z.out; clear Z K
 refine fp fun K Z => ?_
 go_simp
 apply Z.out; clear Z K
 refine Fact.z hf fun fr1 hf1 hT => ?_
 have hKp : _ ∧ _ ∧ _ ∧ _ ∧ _ := ⟨hT 1, hT 2, hT 3, hT 7, hT 12⟩
 simp (decide := true) only [Fact.G, hf.size, reduceIte, s1, s2, s3, s7] at hKp
 replace hf := hf1; clear hT hf1 s1 s2 s3 s7 b9 b10 b11
 obtain ⟨s1, s2, s3, s7, s12⟩ := hKp
 refine nx (hK5 _ _ ?_)
 refine Fact.cond_s s12 (fun hq => ?_) (fun hq => ?_)
 · (
 have hlt : i < out.length := by have h9 := of_decide_eq_true hq; omega
 clear hq
 obtain ⟨x, hix⟩ : ∃ x, out[i]? = some x := ⟨_, List.getElem?_eq_getElem hlt⟩
 obtain ⟨g, hAo, hcx⟩ := OI.at_ hoi hix
 subst hAo
 have hcx0 := cL hb0 hcx
 have hnt : x ≠ s → s ∉ out.take (i + 1) := fun hne => by rw [List.take_add_one, hix]; simp only [Option.toList_some, List.mem_append, List.mem_singleton]; rintro (h | h); exact HN.out h; exact hne h.symm
 have HNT := Lib.hid hnt; have HX := Lib.hid hix; clear hnt hix hcx
 refine wp_skip ?_
 refine nx (hK4 _ _ ?_)
 refine Fact.sq fun K6 hK6 => ?_
 refine wp_block ?_
 refine Fact.sq fun K7 hK7 => ?_
 refine rg ?_
 have b15 := hf.b 15
 have b16 := hf.b 16
 have b17 := hf.b 17
 have b18 := hf.b 18
 have b19 := hf.b 19
 refine fp fun K Z => ?_
 go_simp
 apply Z.out; clear Z K
 refine fp fun K Z => ?_
 go_simp
 apply Z.out; clear Z K
 refine fp fun K Z => ?_
 go_simp
 try rw [if_pos (by omega)]
 apply Z.out; clear Z K
 refine fp fun K Z => ?_
 go_simp
 apply Z.out; clear Z K
 refine fp fun K Z => ?_
 go_simp
 apply Z.out; clear Z K
 refine fp fun K Z => ?_
 go_simp
 apply Z.out; clear Z K
 refine Fact.z hf fun fr1 hf1 hT => ?_
 have hKp : _ ∧ _ ∧ _ ∧ _ ∧ _ := ⟨hT 1, hT 2, hT 3, hT 7, hT 20⟩
 simp (decide := true) only [Fact.G, hf.size, reduceIte, s1, s2, s3, s7] at hKp
 replace hf := hf1; clear hT hf1 s1 s2 s3 s7 s12 b15 b16 b17 b18 b19
 obtain ⟨s1, s2, s3, s7, s20⟩ := hKp
 refine nx (hK7 _ _ ?_)
 refine Fact.cond_s s20 (fun hq2 => ?_) (fun hq2 => ?_)
 · (
 have hxs : x = s := by have h9 := of_decide_eq_true hq2; omega
 have hin : s ∈ out := by have h9 := List.mem_of_getElem? HX.out; rwa [hxs] at h9
 clear hq2 hxs
 refine Fact.sq fun K8 hK8 => ?_
 refine rg ?_
 have b21 := hf.b 21
 refine fp fun K Z => ?_
 go_simp
 apply Z.out; clear Z K
 refine fp fun K Z => ?_
 go_simp
 apply Z.out; clear Z K
 refine Fact.z hf fun fr1 hf1 hT => ?_
 have hKp := hT 6
 simp (decide := true) only [Fact.G, hf.size, reduceIte] at hKp
 replace hf := hf1; clear hT hf1 s1 s2 s3 s7 s20 b21
 have s6 := hKp; clear hKp
 refine nx (hK8 _ _ ?_)
 refine wp_ret ?_
 refine Fact.block_ret ?_
 refine Fact.then_ret ?_
 refine Fact.then_ret ?_
 refine Fact.block_ret ?_
 refine Fact.then_ret ?_
 refine Fact.ret1 rfl hf s6 ⟨_, rfl, ?_, But.of _ hb0, .inl (by rw [HOV.out])⟩
 rw [endsL_known hin]
 exact own_later hoi hb0)
 · (
 have hn1 := HNT.out (by have h9 := of_decide_eq_false hq2; omega)
 have HN1 := Lib.hid hn1; clear hn1 hq2
 refine wp_skip ?_
 refine Fact.block_normal ?_
 refine nx (hK6 _ _ ?_)
 refine rg ?_
 have b13 := hf.b 13
 have b14 := hf.b 14
 refine fp fun K Z => ?_
 go_simp
 apply Z.out; clear Z K
 refine fp fun K Z => ?_
 go_simp
 try simp (disch := omega) only [Fact.W]
 apply Z.out; clear Z K
 refine fp fun K Z => ?_
 go_simp
 apply Z.out; clear Z K
 refine Fact.z hf fun fr1 hf1 hT => ?_
 have hKp : _ ∧ _ ∧ _ ∧ _ := ⟨hT 1, hT 2, hT 3, hT 7⟩
 simp (decide := true) only [Fact.G, hf.size, reduceIte, s1, s2, s3] at hKp
 replace hf := hf1; clear hT hf1 s1 s2 s3 s7 s20 b13 b14
 obtain ⟨s1, s2, s3, s7⟩ := hKp
 refine Fact.then_normal ?_
 exact ⟨_, by have := HK.out; omega, i + 1, rfl, by omega, hf, s1, s2, s3, by rw [s7]; rfl, HN1.out, rfl⟩))
 · (
 have hie : i = out.length := by have h9 := of_decide_eq_false hq; omega
 have hnn : s ∉ out := by have := HN.out; rwa [hie, List.take_length] at this
 have HNN := Lib.hid hnn; clear hnn hie hq hi HK HN
 refine wp_exit ?_
 refine Fact.then_exit ?_
 refine Fact.then_exit ?_
 refine Fact.block_exit ?_
 refine nx (hK2 _ _ ?_)
 refine Fact.sq fun K9 hK9 => ?_
 refine Fact.sq fun K10 hK10 => ?_
 refine rg ?_
 refine fp fun K Z => ?_
 go_simp
 apply Z.out; clear Z K
 refine Fact.z hf fun fr1 hf1 hT => ?_
 have hKp : _ ∧ _ ∧ _ ∧ _ := ⟨hT 1, hT 2, hT 3, hT 8⟩
 simp (decide := true) only [Fact.G, hf.size, reduceIte, s1, s2, s3] at hKp
 replace hf := hf1; clear hT hf1 s1 s2 s3 s7 s12
 obtain ⟨s1, s2, s3, s8⟩ := hKp
 refine nx (hK10 _ _ ?_)
 refine wp_block ?_
 refine wp_loop_ghost (fun gk fr wr => ∃ (k : Nat) (V : Value), gk = st.arcs.length - k ∧ k ≤ st.arcs.length ∧ Fact.Fr 50 fr ∧ fr.tmps[1]? = some (.int .i64 s) ∧ fr.tmps[2]? = some V ∧ fr.tmps[3]? = some (.pointer (some ⟨w.heap.size, 0, none⟩)) ∧ fr.tmps[8]? = some (.int .i64 k) ∧ OI wr base V ((st.arcs.take k).foldl (fun o a => endsL ss f a.to.toNat o) out) ∧ But (fun k => ov.ownBlock = some k) w wr ∧ (V.ownBlock = ov.ownBlock ∨ ∃ k, V.ownBlock = some k ∧ w.heap.size < k) ∧ wr.heap[w.heap.size]? = some (.cells #[.slice (some ⟨b, off, none⟩) ss.length c0, .int .u64 init] 33 (0, 0))) (st.arcs.length) ?_ ?_
 · (
 exact ⟨0, _, rfl, Nat.zero_le _, hf, s1, s2, s3, s8, own_later hoi hb0, But.of _ hb0, .inl (by rw [HOV.out]), hp0⟩)
 · (
 clear hf s1 s2 s3 s8
 rintro gk fr wr ⟨k, V, hk, hi, hf, s1, s2, s3, s8, how, hbt, hvo, hp⟩
 have HK := Lib.hid hk; clear hk hp0 hb0 hoi
 obtain ⟨outk, hok⟩ : ∃ x, ((st.arcs.take k).foldl (fun o a => endsL ss f a.to.toNat o) out) = x := ⟨_, rfl⟩
 have hgd := fold_ends0 (ends_good HAH.out f) (st.arcs.take k) out s ss.length HND.out HLT.out hsl (fun a ha => HAH.out s a (by rw [HST2.out]; exact List.mem_of_mem_take ha))
 rw [hok] at how hgd
 have hlk := nodup_len _ _ hgd.1 hgd.2.1
 have HOK2 := Lib.hid hok; have HGD := Lib.hid hgd; have HVO := Lib.hid hvo; clear hok hgd hvo
 have hovb : ∀ k, ov.ownBlock = some k → base ≤ k ∧ k < w.heap.size := fun k hk => HOI.out.lt k hk
 have hbw : Below N w wr := But.below hbt (by omega) (fun k hk => by have := (hovb k hk).1; omega)
 obtain ⟨b2, off2, av, he2, hat⟩ := (HRS.out wr hbw).at_ HST.out
 injection he2 with he2
 injection he2 with he2 he3 _
 subst he2; subst he3
 have d0 := hat.c0
 have hra := hat.arcs
 obtain ⟨A2, c2, hav, _⟩ := hra.form
 subst hav
 have z0 : wr.cell? ⟨w.heap.size, 0, none⟩ = some (.slice (some ⟨b, off, none⟩) ss.length c0) := by rw [cell_of_row _ _ 0 _ 33 (0, 0) hp]; rfl
 have z1 : wr.cell? ⟨w.heap.size, 1, none⟩ = some (.int .u64 init) := by rw [cell_of_row _ _ 1 _ 33 (0, 0) hp]; rfl
 clear hat
 have HOVB := Lib.hid hovb; have HBW := Lib.hid hbw; clear hovb hbw
 have HOW := Lib.hid how; clear how
 refine Fact.sq fun K11 hK11 => ?_
 refine Fact.sq fun K12 hK12 => ?_
 refine rg ?_
 have b22 := hf.b 22
 have b23 := hf.b 23
 have b24 := hf.b 24
 have b25 := hf.b 25
 have b26 := hf.b 26
 have b27 := hf.b 27
 have b28 := hf.b 28
 have b29 := hf.b 29
 refine fp fun K Z => ?_
 go_simp
 apply Z.out; clear Z K
 refine fp fun K Z => ?_
 go_simp
 apply Z.out; clear Z K
 refine fp fun K Z => ?_
 go_simp
 apply Z.out; clear Z K
 refine fp fun K Z => ?_
 go_simp
 apply Z.out; clear Z K
 refine fp fun K Z => ?_
 go_simp
 try rw [if_pos (by omega)]
 apply Z.out; clear Z K
 refine fp fun K Z => ?_
 go_simp
 apply Z.out; clear Z K
 refine fp fun K Z => ?_
 go_simp
 apply Z.out; clear Z K
 refine fp fun K Z => ?_
 go_simp
 apply Z.out; clear Z K
 refine fp fun K Z => ?_
 go_simp
 apply Z.out; clear Z K
 refine Fact.z hf fun fr1 hf1 hT => ?_
 have hKp : _ ∧ _ ∧ _ ∧ _ ∧ _ := ⟨hT 1, hT 2, hT 3, hT 8, hT 30⟩
 simp (decide := true) only [Fact.G, hf.size, reduceIte, s1, s2, s3, s8] at hKp
 replace hf := hf1; clear hT hf1 s1 s2 s3 s8 b22 b23 b24 b25 b26 b27 b28 b29
 obtain ⟨s1, s2, s3, s8, s30⟩ := hKp
 refine nx (hK12 _ _ ?_)
 refine Fact.cond_s s30 (fun hq => ?_) (fun hq => ?_)
 · (
 have hklt : k < st.arcs.length := by have h9 := of_decide_eq_true hq; omega
 clear hq
 obtain ⟨a, hka⟩ : ∃ a, st.arcs[k]? = some a := ⟨_, List.getElem?_eq_getElem hklt⟩
 obtain ⟨b3, off3, rfl, hb3, -, -, y2⟩ := hra.at' hka
 have hah := HAH.out s a (by rw [HST2.out]; exact List.mem_of_getElem? hka)
 obtain ⟨t, ht⟩ : ∃ t : Nat, a.to = (t : Int) := ⟨a.to.toNat, by omega⟩
 rw [ht] at y2
 have htn : a.to.toNat = t := by omega
 have hfs : ((st.arcs.take (k + 1)).foldl (fun o a => endsL ss f a.to.toNat o) out) = endsL ss f t outk := by rw [List.take_add_one, hka, List.foldl_append, HOK2.out]; simp only [Option.toList_some, List.foldl_cons, List.foldl_nil, htn]
 have htl : t < s := by omega
 have HFS := Lib.hid hfs; clear hfs hka ht htn hah hra
 refine wp_skip ?_
 refine nx (hK11 _ _ ?_)
 refine Fact.sq fun K13 hK13 => ?_
 refine wp_block ?_
 refine Stab.tb 50 fun hok => ?_
 apply Stab.tq 0 _ hf hok
 · (
 intro fr1 w1 hh hd hk K Z
 have s3 := Stab.O hh s3
 clear hd
 replace z0 := cL hh.ext z0
 replace z1 := cL hh.ext z1
 replace d0 := cL hh.ext d0
 replace y2 := cL hh.ext y2
 go_simp
 exact Stab.k Z)
 apply Stab.tq 1 _ hf hok
 · (
 intro fr1 w1 hh hd hk K Z
 have s3 := Stab.O hh s3
 clear hd
 go_simp
 exact Stab.k Z)
 apply Stab.tq 2 _ hf hok
 · (
 intro fr1 w1 hh hd hk K Z
 have s34 := Stab.v 1 0 hd hk []
 clear hd
 replace z0 := cL hh.ext z0
 replace z1 := cL hh.ext z1
 replace d0 := cL hh.ext d0
 replace y2 := cL hh.ext y2
 go_simp
 exact Stab.k Z)
 refine Stab.mO 3 s1 hf hok ?_
 apply Stab.tq 4 _ hf hok
 · (
 intro fr1 w1 hh hd hk K Z
 have s35 := Stab.v 2 1 hd hk []
 have s36 := Stab.v 3 0 hd hk []
 clear hd
 go_simp
 try rw [if_pos (by omega)]
 exact Stab.k Z)
 apply Stab.tq 5 _ hf hok
 · (
 intro fr1 w1 hh hd hk K Z
 have s37 := Stab.v 4 0 hd hk []
 clear hd
 go_simp
 exact Stab.k Z)
 apply Stab.tq 6 _ hf hok
 · (
 intro fr1 w1 hh hd hk K Z
 have s38 := Stab.v 5 0 hd hk []
 clear hd
 replace z0 := cL hh.ext z0
 replace z1 := cL hh.ext z1
 replace d0 := cL hh.ext d0
 replace y2 := cL hh.ext y2
 go_simp
 exact Stab.k Z)
 refine Stab.mO 7 s8 hf hok ?_
 apply Stab.tq 8 _ hf hok
 · (
 intro fr1 w1 hh hd hk K Z
 have s39 := Stab.v 6 1 hd hk []
 have s40 := Stab.v 7 0 hd hk []
 clear hd
 go_simp
 try rw [if_pos (by omega)]
 exact Stab.k Z)
 apply Stab.tq 9 _ hf hok
 · (
 intro fr1 w1 hh hd hk K Z
 have s41 := Stab.v 8 0 hd hk []
 clear hd
 go_simp
 exact Stab.k Z)
 apply Stab.tq 10 _ hf hok
 · (
 intro fr1 w1 hh hd hk K Z
 have s42 := Stab.v 9 0 hd hk []
 clear hd
 replace z0 := cL hh.ext z0
 replace z1 := cL hh.ext z1
 replace d0 := cL hh.ext d0
 replace y2 := cL hh.ext y2
 go_simp
 exact Stab.k Z)
 refine Stab.mvP (k := 11) (j := 13) s2 hf.size hok.out rfl rfl rfl (.inl rfl) [] (by kernel_rfl) (by kernel_rfl) ?_
 refine Tail.todo_tail (n := 50) (m := 12) (ws := [(12, 1, [10, 9, 8, 6, 5, 4, 2]), (12, 2, [10, 9, 8, 6, 5, 4]), (12, 3, [10, 9, 8, 6, 5, 4]), (12, 4, [10, 9, 8, 6, 5]), (12, 5, [10, 9, 8, 6]), (12, 6, [10, 9, 8]), (12, 7, [10, 9, 8]), (12, 8, [10, 9]), (12, 9, [10])]) (by kernel_rfl) hf.size hok.out rfl rfl (by kernel_rfl) (fun fr1 w1 hh hg => ?_)
 replace s1 := Stab.O hh s1
 replace s3 := Stab.O hh s3
 replace s8 := Stab.O hh s8
 have s33 := Tail.got_is 0 11 hg rfl rfl rfl rfl rfl
 have s43 := Tail.got_is 10 1 hg rfl rfl rfl rfl rfl
 have s44 := Tail.got_is 11 0 hg rfl rfl rfl rfl rfl
 have hf1 := hh.fr hf
 have hx := hh.ext
 replace z0 := cL hx z0
 replace z1 := cL hx z1
 replace d0 := cL hx d0
 replace y2 := cL hx y2
 clear hg hh hf hok s2 s30
 have hf := hf1; clear hf1
 have b45 := hf.b 45
 refine Tail.seq_op rfl rfl (fun K Z => ?_)
 go_simp
 go_at_call 43; refine (ih w1 N base _ init ss t outk V (by omega) (by omega) (fun wz hz => HRS.out wz (HBW.out.trans ((hx.mono (by have := hbt.size; omega)).trans hz))) hN (by have := hbt.size; have := hx.size; omega) (own_later HOW.out hx) HGD.out.1 HGD.out.2.1 HAH.out HOK.out hlen).mono ?_; rintro e w2 ⟨v2, rfl, how2, hb2, hv2⟩
 try dsimp only
 apply Z.out; clear Z K
 refine Tail.seq_op rfl rfl (fun K Z => ?_)
 go_simp
 apply Z.out; clear Z K
 refine Tail.seq_nil rfl ?_
 refine Fact.q hf (by simp only [Fact.G]) rfl fun fr1 hf1 hT => ?_
 have hKp : _ ∧ _ ∧ _ ∧ _ := ⟨hT 1, hT 2, hT 3, hT 8⟩
 simp (decide := true) only [Fact.G, hf.size, reduceIte, s1, s3, s8] at hKp
 replace hf := hf1; clear hT hf1 s1 s3 s8 s33 s43 s44 b45
 obtain ⟨s1, s2, s3, s8⟩ := hKp
 have hzw := hbt.size; have hzx := hx.size
 have hbv := (But.of (fun k => V.ownBlock = some k) hx).trans hb2
 have hbt2 : But (fun k => ov.ownBlock = some k) w w2 := But.join hbt hbv (fun k hk h => by rcases HVO.out with h2 | ⟨k2, h2, h3⟩; (rw [← h2]; exact h); (rw [h] at h2; injection h2 with h2; omega))
 have hp2 := hbv.heap hp (fun h => by rcases HVO.out with h2 | ⟨k2, h2, h3⟩; (rw [h2] at h; have := (HOVB.out _ h).2; omega); (rw [h] at h2; injection h2 with h2; omega))
 have hv3 : v2.ownBlock = ov.ownBlock ∨ ∃ k, v2.ownBlock = some k ∧ w.heap.size < k := by rcases hv2 with h | ⟨k, h, h2⟩; (rw [h]; exact HVO.out); exact .inr ⟨k, h, by have := heap_lt hp; omega⟩
 refine Fact.block_normal ?_
 refine nx (hK13 _ _ ?_)
 refine rg ?_
 have b31 := hf.b 31
 have b32 := hf.b 32
 refine fp fun K Z => ?_
 go_simp
 apply Z.out; clear Z K
 refine fp fun K Z => ?_
 go_simp
 try simp (disch := omega) only [Fact.W]
 apply Z.out; clear Z K
 refine fp fun K Z => ?_
 go_simp
 apply Z.out; clear Z K
 refine Fact.z hf fun fr1 hf1 hT => ?_
 have hKp : _ ∧ _ ∧ _ ∧ _ := ⟨hT 1, hT 2, hT 3, hT 8⟩
 simp (decide := true) only [Fact.G, hf.size, reduceIte, s1, s2, s3] at hKp
 replace hf := hf1; clear hT hf1 s1 s2 s3 s8 b31 b32
 obtain ⟨s1, s2, s3, s8⟩ := hKp
 refine Fact.then_normal ?_
 exact ⟨_, by have := HK.out; omega, k + 1, v2, rfl, by omega, hf, s1, s2, s3, by rw [s8]; rfl, by rw [HFS.out]; exact how2, hbt2, hv3, hp2⟩)
 · (
 have hke : k = st.arcs.length := by have h9 := of_decide_eq_false hq; omega
 obtain ⟨Av, cv, rfl, hcv⟩ := OI.form HOW.out
 have how := HOW.out
 have hef : endsL ss (f + 1) s out = outk ++ [s] := by simp only [endsL]; rw [if_neg HNN.out, HST2.out]; have := HOK2.out; rw [hke, List.take_length] at this; rw [this]
 have HEF := Lib.hid hef; clear hef hq hke d0 z0 z1 hra
 refine wp_exit ?_
 refine Fact.then_exit ?_
 refine Fact.then_exit ?_
 refine Fact.block_exit ?_
 refine nx (hK9 _ _ ?_)
 refine Fact.sq fun K14 hK14 => ?_
 refine rg ?_
 have b46 := hf.b 46
 have b47 := hf.b 47
 have b48 := hf.b 48
 have b49 := hf.b 49
 refine fp fun K Z => ?_
 go_simp
 apply Z.out; clear Z K
 refine fp fun K Z => ?_
 go_simp
 apply Z.out; clear Z K
 refine fp fun K Z => ?_
 go_simp
 apply Z.out; clear Z K
 refine Fact.reL (n := 50) (by simp only [Fact.G, hf.size]) hf.defers (fun fr1 hf1 hT => ?_)
 have hKp : _ ∧ _ := ⟨hT 46, hT 48⟩
 simp (decide := true) only [Fact.G, hf.size, reduceIte] at hKp
 replace hf := hf1; clear hT hf1 s1 s2 s3 s8 s30 b46 b47 b48 b49
 obtain ⟨s46, s48⟩ := hKp
 have b49 := hf.b 49
 refine ⟨?_⟩
 refine wpList_plain rfl fun K5 hK5 => ?_
 refine wp_app _ _ 94 rfl 3 _ 1 8 Tryd.underlying94 info_int rfl (by decide) (by decide) base (.slice Av outk.length cv) outk.length _ (Fact.eval_tmp s46) (how.alloc _) wr.heap.size [.int .i64 (s : Nat)] (Fact.eval_tmp s48) rfl (lit_new wr _ _) (by intro u hu; simp at hu; subst hu; rfl) (by omega) (by have := hbt.size; simp; omega) (fun v5 w5 hr5 hg5 hat5 => hK5 _ _ ?_)
 refine Fact.L.out ?_
 refine fp fun K Z => ?_
 go_simp
 apply Z.out; clear Z K
 refine Fact.z hf fun fr1 hf1 hT => ?_
 have hKp := hT 6
 simp (decide := true) only [Fact.G, hf.size, reduceIte] at hKp
 replace hf := hf1; clear hT hf1 s46 s48 b49
 have s6 := hKp; clear hKp
 refine nx (hK14 _ _ ?_)
 refine wp_ret ?_
 have hzw := hbt.size
 have hb5 : But (fun k => (.slice Av outk.length cv : Value).ownBlock = some k) wr w5 := (But.alloc (S := fun k => (.slice Av outk.length cv : Value).ownBlock = some k) wr _).trans (But.grown hg5 (fun k hk => hk))
 refine Fact.ret1 rfl hf s6 ⟨v5, rfl, ?_, But.join hbt hb5 (fun k hk h => ?_), ?_⟩
 · (
 rw [HEF.out]; unfold OI; rw [List.length_append, List.map_append]; exact hr5)
 · (
 rcases HVO.out with h2 | ⟨k2, h2, h3⟩; (rw [← h2]; exact h); (rw [h] at h2; injection h2 with h2; omega))
 · (
 rcases hat5 with h | h; (rw [h]; exact HVO.out.imp id (fun ⟨k, h1, h2⟩ => ⟨k, h1, by omega⟩)); exact .inr ⟨_, h, by simp; omega⟩)))))
theorem ends_any : ∀ f, EndsOk f
  | 0 => fun w N base sv init ss s out ov hs _ _ _ _ _ _ _ _ _ _ => absurd hs (Nat.not_lt_zero _)
  | f + 1 => fun w N base sv init ss s out ov hs hsl hrs hN hbase hoi hnd hlt hA hok hlen => ends_step w f (ends_any f) N base sv init ss s out ov hs hsl hrs hN hbase hoi hnd hlt hA hok hlen

end Dw
end Go.Proofs.YtgjfhedgdbbinaaDoor
