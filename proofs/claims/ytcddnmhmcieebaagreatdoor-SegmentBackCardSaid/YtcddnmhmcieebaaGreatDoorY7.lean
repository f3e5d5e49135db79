/- Dawg: entry.Check. -/
import Derived.Test.YtcddnmhmcieebaaGreatDoorY6
import Derived.Test.YtcddnmhmcieebaaGreatDoorTools
import Derived.Test.YtcddnmhmcieebaaGreatDoorY1
import Derived.Laws.ResultCell
import Derived.Laws.MakeOwn
namespace Go.Proofs.YtcddnmhmcieebaaGreatDoor
set_option maxHeartbeats 4000000
set_option maxRecDepth 100000
open Go.RowKit
set_option linter.unusedSimpArgs false
set_option linter.unusedVariables false
set_option linter.unnecessarySimpa false
namespace Dw
def chkL : Option (List Nat) -> List Ent -> Nat
 | _, [] => 0
 | p, e :: l => if okW e.word then (if (match p with | none => true | some q => lexlt q (wl e.word)) then chkL (some (wl e.word)) l else 15) else 7
def chkN (es : List Ent) : Nat := chkL none es
def prevW (es : List Ent) : Nat -> Option (List Nat)
 | 0 => none
 | i + 1 => es[i]?.map fun e => wl e.word
theorem chk_step {es : List Ent} {i : Nat} {e : Ent} (h : es[i]? = some e) : chkL (prevW es i) (es.drop i) = if okW e.word then (if (match prevW es i with | none => true | some q => lexlt q (wl e.word)) then chkL (some (wl e.word)) (es.drop (i + 1)) else 15) else 7 := by
 obtain ⟨h1, h2⟩ := gS1 h
 rw [List.drop_eq_getElem_cons h1, h2]
 rfl
theorem prev_zero {es : List Ent} {i : Nat} (h : i = 0) : prevW es i = none := by rw [h]; rfl
theorem prev_succ {es : List Ent} {i : Nat} {p : Ent} (h : 0 < i) (hp : es[i - 1]? = some p) : prevW es i = some (wl p.word) := by
 obtain ⟨j, rfl⟩ : ∃ j, i = j + 1 := ⟨i - 1, by omega⟩
 have : es[j]? = some p := hp
 simp [prevW, this]
theorem prevW_succ {es : List Ent} {i : Nat} {e : Ent} (h : es[i]? = some e) : prevW es (i + 1) = some (wl e.word) := by simp [prevW, h]
theorem cmp_ge {a b : ByteArray} (h : decide (0 <= cmpS a b) = true) : lexlt (wl a) (wl b) = false := by
 have h := of_decide_eq_true h
 unfold cmpS at h
 cases hl : lexlt (wl a) (wl b) with
 | false => rfl
 | true => rw [hl] at h; simp at h
theorem cmp_lt {a b : ByteArray} (h : decide (0 <= cmpS a b) = false) : lexlt (wl a) (wl b) = true := by
 have h := of_decide_eq_false h
 unfold cmpS at h
 cases hl : lexlt (wl a) (wl b) with
 | true => rfl
 | false => rw [hl] at h; simp at h; split at h <;> omega
theorem all53 (w : World) (s : ByteArray) (b : Nat) (c0 : w.cell? ⟨b, 0, none⟩ = some (.string s)) : Calls Tryz.prog 132 #[.func (.func 131) #[] #[], .slice (some ⟨b, 0, none⟩) 1 1] w fun e w1 => e = .returned (.bool (okW s)) /\ w = w1 := by
 refine Zn2 18 Tryz.func132 fun fr hf s0 s1 => ?_
 refine Ze fun _ hK1 => Zr [] hf ?_
 refine Zq2 0 1 hf ?_
 clear hf s0 s1; intro fr1 hf sS
 refine Zs hK1 fun _ hK2 => Ze fun _ hK3 => Zr [7] hf ?_
 refine Zq4 0 7 8 9 hf ?_
 clear hf sS; intro fr1 hf sS
 refine Zx hK3 (wp_block (wp_loop_ghost (fun gk fr wr => ∃ (i : Nat), gk = 1 - i /\ i <= 1 /\ (0 < i -> okW s = true) /\ Fact.Fr 18 fr /\ fr.tmps[0]? = some (.func (.func 131) #[] #[]) /\ fr.tmps[7]? = some (.slice (some ⟨b, 0, none⟩) 1 1) /\ fr.tmps[8]? = some (.int .i64 1) /\ fr.tmps[9]? = some (.int .i64 i) /\ wr = w) (1) ?_ ?_))
 . (
 obtain ⟨s0, s7, s8, s9⟩ := sS
 exact ⟨0, rfl, by omega, by omega, hf, s0, s7, s8, s9, rfl⟩)
 . (
 clear hf sS
 rintro gk fr wr ⟨i, hk, hi, hok, hf, s0, s7, s8, s9, hwr⟩
 subst hwr
 have HK := Lib.hid hk; have HO := Lib.hid hok; clear hk hok
 refine Ze fun _ hK4 => Zr [] hf ?_
 refine Zq5 0 7 8 9 10 hf ?_
 clear hf s0 s7 s8 s9; intro fr1 hf sS
 refine Zs hK4 fun _ hK5 => Fact.cond_s sS.2.2.2.2 (fun hq => ?_) (fun hq => ?_)
 . (
 have hi0 : i = 0 := by have h9 := of_decide_eq_true hq; omega
 subst hi0
 refine wp_skip (Zs hK5 fun _ hK6 => wp_block (Ze fun _ hK7 => rg ?_))
 have bB := hf.B2 11 12
 refine fp fun K Z => ?_
 go_simp
 try rw [if_pos (by omega)]
 try simp
 apply Z.out; clear Z K
 iterate 2 refine Zy ?_
 refine Fact.nil (Zq5 0 6 7 8 9 hf ?_)
 clear hf sS bB; intro fr1 hf sS
 refine Zt hK7 fun _ hK8 => ?_
 have bB := hf.B3 13 14 15
 iterate 2 refine Zy ?_
 refine Zc (chk52 s wr) ?_; rintro e w2 ⟨rfl, rfl⟩
 refine Zv ?_
 refine Zy ?_
 refine Fact.nil (Zq5 0 7 8 9 16 hf ?_)
 clear hf sS bB; intro fr1 hf sS
 refine Zx hK8 (Fact.cond_s sS.2.2.2.2 (fun hq2 => ?_) (fun hq2 => ?_))
 . (
 refine Ze fun _ hK9 => Zr [] hf ?_
 refine Zq1 4 hf ?_
 clear hf sS; intro fr1 hf s4
 refine Zx hK9 (Zret ?_)
 exact Fact.ret1 rfl hf s4 ⟨by simp at hq2; rw [hq2], rfl⟩)
 . (
 refine wp_skip (Fact.block_normal (Zx hK6 (Zr [17] hf ?_)))
 refine Zq4 0 7 8 9 hf ?_
 clear hf sS; intro fr1 hf sS
 refine Fact.then_normal ?_
 obtain ⟨s0, s7, s8, s9⟩ := sS
 exact ⟨_, by have := HK.out; omega, 1, rfl, by omega, fun _ => by simpa using hq2, hf, s0, s7, s8, by rw [s9]; rfl, rfl⟩))
 . (
 have hi1 : 0 < i := by have h9 := of_decide_eq_false hq; omega
 refine Zo ?_
 refine Zs hK2 fun _ hK10 => Zr [] hf ?_
 refine Zq1 4 hf ?_
 clear hf sS; intro fr1 hf s4
 refine Zx hK10 (Zret ?_)
 exact Fact.ret1 rfl hf s4 ⟨by rw [HO.out hi1], rfl⟩))
theorem wchk45t (w : World) (s : ByteArray) (b : Nat) (c0 : w.cell? ⟨b, 0, none⟩ = some (.string s)) (hh : okW s = true) : Calls Tryz.prog 87 #[.slice (some ⟨b, 0, none⟩) 1 1] w fun e w1 => e = .returned (.int .i64 (if okW s then 0 else 7)) /\ w = w1 := by
 refine Zn1 8 Tryz.func87 fun fr hf s0 => ?_
 have HH := Lib.hid hh; clear hh
 refine Ze fun _ hK1 => Zr [] hf ?_
 refine Zq1 0 hf ?_
 clear hf s0; intro fr1 hf s0
 refine Zs hK1 fun _ hK2 => Zr [] hf ?_
 refine Zq2 0 3 hf ?_
 clear hf s0; intro fr1 hf sS
 refine Zs hK2 fun _ hK3 => Ze fun _ hK4 => rg ?_
 have bB := hf.B3 4 5 6
 iterate 2 refine Zy ?_
 refine Zc (all53 w s b c0) ?_; rintro e w2 ⟨rfl, rfl⟩
 rw [HH.out]
 refine Zv ?_
 refine Zy ?_
 refine Fact.nil (Zq1 7 hf ?_)
 clear hf sS bB; intro fr1 hf s7
 refine Zx hK4 (Fact.cond_f s7 ?_)
 refine wp_skip (Zs hK3 fun _ hK5 => Zr [] hf ?_)
 refine Zq1 2 hf ?_
 clear hf s7; intro fr1 hf s2
 refine Zx hK5 (Zret ?_)
 exact Fact.ret1 rfl hf s2 ⟨by rw [HH.out]; rfl, rfl⟩
theorem wchk45f (w : World) (s : ByteArray) (b : Nat) (c0 : w.cell? ⟨b, 0, none⟩ = some (.string s)) (hh : okW s = false) : Calls Tryz.prog 87 #[.slice (some ⟨b, 0, none⟩) 1 1] w fun e w1 => e = .returned (.int .i64 (if okW s then 0 else 7)) /\ w = w1 := by
 refine Zn1 8 Tryz.func87 fun fr hf s0 => ?_
 have HH := Lib.hid hh; clear hh
 refine Ze fun _ hK1 => Zr [] hf ?_
 refine Zq1 0 hf ?_
 clear hf s0; intro fr1 hf s0
 refine Zs hK1 fun _ hK2 => Zr [] hf ?_
 refine Zq2 0 3 hf ?_
 clear hf s0; intro fr1 hf sS
 refine Zs hK2 fun _ hK3 => Ze fun _ hK4 => rg ?_
 have bB := hf.B3 4 5 6
 iterate 2 refine Zy ?_
 refine Zc (all53 w s b c0) ?_; rintro e w2 ⟨rfl, rfl⟩
 rw [HH.out]
 refine Zv ?_
 refine Zy ?_
 refine Fact.nil (Zq1 7 hf ?_)
 clear hf sS bB; intro fr1 hf s7
 refine Zx hK4 (Fact.cond_t s7 ?_)
 refine Ze fun _ hK5 => Zr [] hf ?_
 refine Zq1 2 hf ?_
 clear hf s7; intro fr1 hf s2
 refine Zx hK5 (Zret ?_)
 exact Fact.ret1 rfl hf s2 ⟨by rw [HH.out]; rfl, rfl⟩
theorem wchk45 (w : World) (s : ByteArray) (b : Nat) (c0 : w.cell? ⟨b, 0, none⟩ = some (.string s)) : Calls Tryz.prog 87 #[.slice (some ⟨b, 0, none⟩) 1 1] w fun e w1 => e = .returned (.int .i64 (if okW s then 0 else 7)) /\ w = w1 := by
 cases h : okW s with
 | true => have := wchk45t w s b c0 h; rw [h] at this; exact this
 | false => have := wchk45f w s b c0 h; rw [h] at this; exact this
theorem echk27 (w : World) (es : List Ent) (B : Nat) (v : Value) (hB : B <= w.heap.size) (hre : RE w B v es) (hlen : es.length <= 1000000) : Calls Tryz.prog 50 #[v] w fun e w1 => ∃ n : Int, e = .returned (.tuple #[.int .i64 n, .int .i64 (chkN es : Nat)]) /\ Below w.heap.size w w1 := by
 refine Zn1 37 Tryz.func50 fun fr hf s0 => ?_
 have hre0 := hre.any
 obtain ⟨A, cc, rfl, hcc⟩ := hre.form
 clear hre
 refine Ze fun _ hK1 => Zr [] hf ?_
 refine Zq3 0 2 3 hf ?_
 clear hf s0; intro fr1 hf sS
 refine Zx hK1 (wp_scope_straight ?_)
 refine Ze fun _ hK2 => Zr [] hf ?_
 refine Zq3 0 2 3 hf ?_
 clear hf sS; intro fr1 hf sS
 refine Zs hK2 fun _ hK3 => wp_label ?_
 refine Zs hK3 fun _ hK4 => Ze fun _ hK5 => Zr [6] hf ?_
 refine Zq6 0 2 3 6 7 8 hf ?_
 clear hf sS; intro fr1 hf sS
 refine Zx hK5 (wp_block (wp_loop_ghost (fun gk fr wr => ∃ (i : Nat), gk = es.length - i /\ i <= es.length /\ Fact.Fr 37 fr /\ fr.tmps[0]? = some (.slice A es.length cc) /\ fr.tmps[2]? = some (.int .i64 (-1)) /\ fr.tmps[3]? = some (.int .i64 0) /\ fr.tmps[6]? = some (.slice A es.length cc) /\ fr.tmps[7]? = some (.int .i64 es.length) /\ fr.tmps[8]? = some (.int .i64 i) /\ chkN es = chkL (prevW es i) (es.drop i) /\ Below w.heap.size w wr) (es.length) ?_ ?_))
 . (
 obtain ⟨s0, s2, s3, s6, s7, s8⟩ := sS
 exact ⟨0, rfl, Nat.zero_le _, hf, s0, s2, s3, s6, s7, s8, rfl, Below.refl _ _⟩)
 . (
 clear hf sS
 rintro gk fr wr ⟨i, hk, hi, hf, s0, s2, s3, s6, s7, s8, hch, hb⟩
 have HK := Lib.hid hk; have HC := Lib.hid hch; clear hk hch
 refine Ze fun _ hK6 => Zr [] hf ?_
 refine Zq7 0 2 3 6 7 8 9 hf ?_
 clear hf s0 s2 s3 s6 s7 s8; intro fr1 hf sS
 refine Zs hK6 fun _ hK7 => Fact.cond_s sS.2.2.2.2.2.2 (fun hq => ?_) (fun hq => ?_)
 . (
 have hlt : i < es.length := by have h9 := of_decide_eq_true hq; omega
 have HQ := Lib.hid hq; clear hq
 obtain ⟨e, hie⟩ : ∃ e, es[i]? = some e := ⟨_, gE1 hlt⟩
 obtain ⟨b, off, rfl, hbB, hbl, d0, d1, d2⟩ := (hre0.below hb).at_ hie
 have HE := Lib.hid hie; clear hie
 refine wp_skip (Zs hK7 fun _ hK8 => wp_block (Ze fun _ hK9 => Zr [10, 11, 12, 5] hf ?_))
 refine Zq8 0 2 3 4 5 6 7 8 hf ?_
 clear hf sS; intro fr1 hf sS
 generalize hW0 : wr.alloc (.cells #[.string e.word, .int .u32 e.weight, .bool e.gone] 64) = W0
 obtain ⟨hb2, x0, -, -, hp0, -⟩ := box3 hW0
 clear hW0
 clear d0 d1 d2 hbl
 refine Zs hK9 fun _ hK10 => wp_block (Ze fun _ hK11 => rg ?_)
 have bB := hf.B5 14 15 16 17 18
 iterate 3 refine Zy ?_
 refine Zc (wchk45 (W0.alloc (.cells #[.string e.word] 9)) e.word W0.heap.size (cR1 0 (heap_alloc_new W0 _))) ?_; rintro e w5 ⟨rfl, rfl⟩
 refine Zv ?_
 iterate 2 refine Zy ?_
 refine Fact.nil (Zq9 0 2 3 4 5 6 7 8 13 hf ?_)
 clear hf sS bB; intro fr1 hf sS
 have hb5 : Below W0.heap.size W0 (W0.alloc (.cells #[.string e.word] 9)) := (Below.refl _ _).alloc (Nat.le_refl _) _
 obtain ⟨W5, hW5⟩ : ∃ W5, W0.alloc (.cells #[.string e.word] 9) = W5 := ⟨_, rfl⟩
 rw [hW5] at hb5
 try rw [hW5]
 clear hW5
 have x5 := cL hb5 x0
 have hbW := hb.trans ((hb2.trans (hb5.mono hb2.size)).mono hb.size)
 refine Zx hK11 ?_
 have hst := chk_step HE.out
 have HST := Lib.hid hst; clear hst
 rcases hok : okW e.word with _ | _
 . (
 have H1 := Lib.hid hok; clear hok
 have hs13 : fr1.tmps[13]? = some (.bool true) := by rw [sS.2.2.2.2.2.2.2.2, H1.out]; rfl
 obtain ⟨s0, s2, s3, s4, s5, s6, s7, s8, s13⟩ := sS
 clear s13
 have s13 := hs13; clear hs13
 refine Fact.cond_t s13 ?_
 refine Zr [] hf ?_
 refine Zq2 3 4 hf ?_
 clear hf s0 s2 s3 s4 s5 s6 s7 s8 s13; intro fr1 hf sS
 refine Fact.block_normal (Zs hK10 fun _ hK12 => Zr [33] hf ?_)
 refine Zq2 2 3 hf ?_
 clear hf sS; intro fr1 hf sS
 refine Zx hK12 (Zo ?_)
 refine Zs hK4 fun _ hK13 => Zr [35, 36] hf ?_
 refine Zq2 2 3 hf ?_
 clear hf sS; intro fr1 hf sS
 refine Zx hK13 (Zret ?_)
 exact Fact.ret2 rfl hf sS.1 sS.2 ⟨i, by rw [HC.out, HST.out, H1.out]; rfl, hbW⟩)
 . (
 rcases Nat.eq_zero_or_pos i with hi0 | hi0
 . (
 have H1 := Lib.hid hok; clear hok
 have hs13 : fr1.tmps[13]? = some (.bool false) := by rw [sS.2.2.2.2.2.2.2.2, H1.out]; rfl
 obtain ⟨s0, s2, s3, s4, s5, s6, s7, s8, s13⟩ := sS
 clear s13
 have s13 := hs13; clear hs13
 refine Fact.cond_f s13 ?_
 have HI0 := Lib.hid hi0
 have q1 : decide (0 < i) = false := decide_eq_false (by omega)
 clear hi0
 refine Ze fun _ hK14 => Stab.tb 37 fun hok => ?_
 refine Stab.mO 0 s4 hf hok ?_
 refine Stab.T 1 hf hok (fun _ _ h d => Stab.vd 0 0 d []) ?_
 refine Stab.mN 2 1 0 hf hok [] ?_
 refine Stab.Tk 3 hf hok (fun _ _ h d => Stab.vd 2 0 d []) ?_
 refine Stab.Tk 4 hf hok (fun _ _ h d => Stab.vd 2 1 d []) ?_
 refine Stab.Tk 5 hf hok (fun _ _ h d => Stab.vd 2 2 d []) ?_
 refine Stab.Tk 6 hf hok (fun _ _ h d => Stab.vd 2 3 d []) ?_
 refine Stab.Tk 7 hf hok (fun _ _ h d => Stab.vd 2 4 d []) ?_
 refine Stab.Tk 8 hf hok (fun _ _ h d => Stab.vd 2 5 d []) ?_
 refine Stab.Tk 9 hf hok (fun _ _ h d => Stab.vd 2 6 d []) ?_
 apply Stab.tr 10 _ hf hok
 . (
 intro fr1 w1 hh hd hk K Z
 have s22 := Stab.v 2 7 hd hk []
 refine Stab.sk s22 ?_
 exact Stab.k Z)
 refine Stab.Tk 11 hf hok (fun _ _ h d => Stab.vd 2 8 d []) ?_
 refine Stab.T 12 hf hok (fun _ _ h d => ad (Stab.vd 2 9 d []) (Stab.vd 11 0 d [])) ?_
 refine Stab.mN 13 12 0 hf hok [] ?_
 refine Stab.E hf hok (fun _ _ h g => ad (Stab.O h s0) (ad (Stab.O h s2) (ad (Stab.O h s3) (ad (Stab.O h s4) (ad (Stab.O h s6) (ad (Stab.O h s7) (ad (Stab.O h s8) (Stab.f 13 0 g)))))))) ?_
 clear hf hok s0 s2 s3 s4 s5 s6 s7 s8 s13; intro fr1 w1 hf hx sS
 refine Zx hK14 (Fact.cond_f sS.2.2.2.2.2.2.2 ?_)
 have hfin : chkN es = chkL (some (wl e.word)) (es.drop (i + 1)) := by rw [HC.out, HST.out, H1.out, prev_zero HI0.out]; rfl
 have HF := Lib.hid hfin; clear hfin
 have hbz := hbW.trans (hx.mono hbW.size)
 refine Zo ?_
 refine Zx hK8 (Zr [34] hf ?_)
 refine Zq6 0 2 3 6 7 8 hf ?_
 clear hf sS; intro fr1 hf sS
 refine Fact.then_normal ?_
 obtain ⟨s0, s2, s3, s6, s7, s8⟩ := sS
 exact ⟨_, by have := HK.out; omega, i + 1, rfl, by omega, hf, s0, s2, s3, s6, s7, by rw [s8]; rfl, by rw [HF.out, prevW_succ HE.out], hbz⟩)
 . (
 have H1 := Lib.hid hok; clear hok
 have hs13 : fr1.tmps[13]? = some (.bool false) := by rw [sS.2.2.2.2.2.2.2.2, H1.out]; rfl
 obtain ⟨s0, s2, s3, s4, s5, s6, s7, s8, s13⟩ := sS
 clear s13
 have s13 := hs13; clear hs13
 refine Fact.cond_f s13 ?_
 have q1 : decide (0 < i) = true := decide_eq_true hi0
 obtain ⟨p, hip⟩ : ∃ p, es[i - 1]? = some p := ⟨_, gE1 (by omega)⟩
 obtain ⟨b2, off2, he2, hbB2, hbl2, y0, y1, y2⟩ := (hre0.below hbW).at_ hip
 injection he2 with he2
 injection he2 with he2 he3
 subst he2; subst he3
 have HP := Lib.hid hip; clear hip
 have hi1 : (i : Int) - 1 = ((i - 1 : Nat) : Int) := by omega
 refine Ze fun _ hK15 => Stab.tb 37 fun hok => ?_
 refine Stab.mO 0 s4 hf hok ?_
 refine Stab.T 1 hf hok (fun _ _ h d => Stab.vd 0 0 d []) ?_
 refine Stab.mN 2 1 0 hf hok [] ?_
 refine Stab.Tg 3 hf hok (fun _ _ h d => Stab.vd 2 0 d []) (fun _ _ h d => Stab.O h s0) ?_
 refine Stab.Tg 4 hf hok (fun _ _ h d => Stab.vd 2 1 d []) (fun _ _ h d => Stab.O h s4) ?_
 apply Stab.tr 5 _ hf hok
 . (
 intro fr1 w1 hh hd hk K Z
 have s22 := Stab.v 2 2 hd hk []
 refine Stab.g s22 ?_
 have s24 := Stab.v 4 0 hd hk []
 clear hd
 go_simp
 try simp (disch := omega) only [Fact.W]
 try rw [hi1]
 exact Stab.k Z)
 refine Stab.Tg 6 hf hok (fun _ _ h d => Stab.vd 2 3 d []) (fun _ _ h d => ad (Stab.vd 3 2 d []) (Stab.vd 5 0 d [])) ?_
 refine Stab.Tg 7 hf hok (fun _ _ h d => Stab.vd 2 4 d []) (fun _ _ h d => ad (Stab.vd 6 0 d []) (ad (cL h.ext x5) (ad (cL h.ext y0) (ad (cL h.ext y1) (cL h.ext y2))))) ?_
 refine Stab.Tg 8 hf hok (fun _ _ h d => Stab.vd 2 5 d []) (fun _ _ h d => Stab.O h s5) ?_
 refine Stab.Tg 9 hf hok (fun _ _ h d => Stab.vd 2 6 d []) (fun _ _ h d => ad (Stab.vd 8 0 d []) (ad (cL h.ext x5) (ad (cL h.ext y0) (ad (cL h.ext y1) (cL h.ext y2))))) ?_
 apply Stab.tr 10 _ hf hok
 . (
 intro fr1 w1 hh hd hk K Z
 have s22 := Stab.v 2 7 hd hk []
 refine Stab.g s22 ?_
 have s27 := Stab.v 7 2 hd hk []
 have s29 := Stab.v 9 0 hd hk []
 clear hd
 replace x5 := cL hh.ext x5
 replace y0 := cL hh.ext y0
 replace y1 := cL hh.ext y1
 replace y2 := cL hh.ext y2
 go_simp
 go_at_call 88; refine (by46 p e.word w1).mono ?_; rintro e w2 ⟨rfl, hb⟩
 exact Z.out _ rfl _ _ hb rfl)
 refine Stab.Tg 11 hf hok (fun _ _ h d => Stab.vd 2 8 d []) (fun _ _ h d => Stab.vd 10 0 d []) ?_
 refine Stab.T 12 hf hok (fun _ _ h d => ad (Stab.vd 2 9 d []) (Stab.vd 11 0 d [])) ?_
 refine Stab.mN 13 12 0 hf hok [] ?_
 refine Stab.E hf hok (fun _ _ h g => ad (Stab.O h s0) (ad (Stab.O h s2) (ad (Stab.O h s3) (ad (Stab.O h s4) (ad (Stab.O h s6) (ad (Stab.O h s7) (ad (Stab.O h s8) (Stab.f 13 0 g)))))))) ?_
 clear hf hok s0 s2 s3 s4 s5 s6 s7 s8 s13; intro fr1 w1 hf hx sS
 replace x5 := cL hx x5
 replace y0 := cL hx y0
 replace y1 := cL hx y1
 replace y2 := cL hx y2
 refine Zx hK15 (Fact.cond_s sS.2.2.2.2.2.2.2 (fun hq2 => ?_) (fun hq2 => ?_))
 . (
 have HQ2 := Lib.hid hq2; clear hq2
 have hbz := hbW.trans (hx.mono hbW.size)
 refine Zr [] hf ?_
 refine Zq2 3 4 hf ?_
 clear hf sS; intro fr1 hf sS
 refine Fact.block_normal (Zs hK10 fun _ hK16 => Zr [33] hf ?_)
 refine Zq2 2 3 hf ?_
 clear hf sS; intro fr1 hf sS
 refine Zx hK16 (Zo ?_)
 refine Zs hK4 fun _ hK17 => Zr [35, 36] hf ?_
 refine Zq2 2 3 hf ?_
 clear hf sS; intro fr1 hf sS
 refine Zx hK17 (Zret ?_)
 exact Fact.ret2 rfl hf sS.1 sS.2 ⟨i, by rw [HC.out, HST.out, H1.out, prev_succ hi0 HP.out]; simp only [cmp_ge HQ2.out, if_true, Bool.false_eq_true, if_false]; rfl, hbz⟩)
 . (
 have HQ2 := Lib.hid hq2; clear hq2
 have hbz := hbW.trans (hx.mono hbW.size)
 have hfin : chkN es = chkL (some (wl e.word)) (es.drop (i + 1)) := by rw [HC.out, HST.out, H1.out, prev_succ hi0 HP.out]; simp only [cmp_lt HQ2.out, if_true]
 have HF := Lib.hid hfin; clear hfin
 refine Zo ?_
 refine Zx hK8 (Zr [34] hf ?_)
 refine Zq6 0 2 3 6 7 8 hf ?_
 clear hf sS; intro fr1 hf sS
 refine Fact.then_normal ?_
 obtain ⟨s0, s2, s3, s6, s7, s8⟩ := sS
 exact ⟨_, by have := HK.out; omega, i + 1, rfl, by omega, hf, s0, s2, s3, s6, s7, by rw [s8]; rfl, by rw [HF.out, prevW_succ HE.out], hbz⟩))))
 . (
 have hie : i = es.length := by have h9 := of_decide_eq_false hq; omega
 have HIE := Lib.hid hie; clear hie hq
 refine Zo ?_
 refine Zs hK4 fun _ hK18 => Zr [35, 36] hf ?_
 refine Zq2 2 3 hf ?_
 clear hf sS; intro fr1 hf sS
 refine Zx hK18 (Zret ?_)
 exact Fact.ret2 rfl hf sS.1 sS.2 ⟨-1, by rw [HC.out, List.drop_eq_nil_of_le (by have := HIE.out; omega)]; rfl, hb⟩))
open Go.RowKit Go.Maps
theorem make73 (w : World) : (Instr.makeSlice 121 (.int .i64 1) (.int .i64 1)).run Tryz.prog w = .ok (.slice (some ⟨w.heap.size, 0, none⟩) 1 1) (w.alloc (.cells #[.slice none 0 0, .bool false, .int .u64 0, .int .u8 0] 126)) := by
 obtain ⟨i0, hi, hz0, hz1, hz2⟩ := info_parts info_openD
 have hr := run_make (P := Tryz.prog) (w := w) 121 126 i0 _ Tryz.underlying121 hi hz0 .i64 .i64 1 1 (by omega) (by omega) (by rw [hz2]; omega) (by omega)
 have hc : madeCells (Value.agg #[.slice none 0 0, .bool false, .int .u64 0, .int .u8 0]).cells (Int.toNat 1 * 4) = #[.slice none 0 0, .bool false, .int .u64 0, .int .u8 0] := by kernel_rfl
 rw [hz1, hc] at hr
 exact hr
def ownS (base k0 : Nat) (k : Nat) : Nat := if k < base then 4 else if k = k0 then 3 else if k = k0 + 1 then 5 else if k = k0 + 2 then 1 else 0
theorem Bld.start (w0 : World) (base : Nat) (hb : base <= w0.heap.size) {W : World}
  (hW : ((w0.alloc (.map #[] 0)).alloc (.cells #[.slice none 0 0, .bool false, .int .u64 0, .int .u8 0] 126)).alloc (.cells #[.slice none 0 0, .map (some w0.heap.size), .slice (some ⟨w0.heap.size + 1, 0, none⟩) 1 1] 123) = W) :
  Bld W base (ownS base w0.heap.size) (w0.heap.size + 2) (.slice none 0 0) w0.heap.size [] (.slice (some ⟨w0.heap.size + 1, 0, none⟩) 1 1) 0 [⟨zeroS, 0⟩] /\ Below w0.heap.size w0 W := by
 have hbb : Below w0.heap.size w0 W := by rw [<- hW]; exact (((Below.refl _ _).alloc (Nat.le_refl _) _).alloc (by simp) _).alloc (by simp; omega) _
 have h1 := World.ownsMap_made w0 Tryz.prog 9 (plainElem (H := Unit) Tryz.prog 3)
 have hm := h1.alloc (.cells #[.slice none 0 0, .bool false, .int .u64 0, .int .u8 0] 126)
 have hm2 := hm.alloc (.cells #[.slice none 0 0, .map (some w0.heap.size), .slice (some ⟨w0.heap.size + 1, 0, none⟩) 1 1] 123)
 rw [hW] at hm2
 have hr := World.ownsRow_lit (base := base) (e := 126) (size := 4) (w0.alloc (.map #[] 0)) #[.slice none 0 0, .bool false, .int .u64 0, .int .u8 0] 1 (by simp; omega) (by unfold maxLen; omega) rfl
 have hr2 := hr.alloc (.cells #[.slice none 0 0, .map (some w0.heap.size), .slice (some ⟨w0.heap.size + 1, 0, none⟩) 1 1] 123)
 rw [hW] at hr2
 have hs1 : (w0.alloc (.map #[] 0)).heap.size = w0.heap.size + 1 := by simp
 rw [hs1] at hr2
 have hbx : W.heap[w0.heap.size + 2]? = some (.cells #[.slice none 0 0, .map (some w0.heap.size), .slice (some ⟨w0.heap.size + 1, 0, none⟩) 1 1] 123 (0, 0)) := by
  have := heap_alloc_new ((w0.alloc (.map #[] 0)).alloc (.cells #[.slice none 0 0, .bool false, .int .u64 0, .int .u8 0] 126)) (.cells #[.slice none 0 0, .map (some w0.heap.size), .slice (some ⟨w0.heap.size + 1, 0, none⟩) 1 1] 123)
  rw [hW] at this
  rw [<- this]
  simp
 have o1 : ∀ k, k < base -> ownS base w0.heap.size k = 4 := fun k hk => if_pos hk
 have o2 : ownS base w0.heap.size w0.heap.size = 3 := by unfold ownS; rw [if_neg (by omega), if_pos rfl]
 have o3 : ownS base w0.heap.size (w0.heap.size + 1) = 5 := by unfold ownS; rw [if_neg (by omega), if_neg (by omega), if_pos rfl]
 have o4 : ownS base w0.heap.size (w0.heap.size + 2) = 1 := by unfold ownS; rw [if_neg (by omega), if_neg (by omega), if_neg (by omega), if_pos rfl]
 refine ⟨⟨⟨o1, hbx, o4, o2, hm2, ⟨[], World.ownsRow_nil _ _ _ _, (fun k hk => by cases hk), fun i s hi => by simp at hi⟩, List.Pairwise.nil, by simp⟩, _, hr2, fun k hk => ?_, fun i o hi => ?_⟩, hbb⟩
 ·injection hk with hk; subst hk; exact o3
 ·match i, hi with
  | 0, hi =>
   injection hi with hi
   subst hi
   exact ⟨.slice none 0 0, rfl, rfl, rfl, rfl, OA.nil_ _ _, fun k hk => by cases hk⟩
theorem Reg.rs {w : World} {base g mb : Nat} {own : Nat -> Nat} {t : TypeId} {xs : List Value} {sv : Value} {ss : List State} (h : Reg w base own g t xs sv mb ss) : RS w sv ss := by
 obtain ⟨cells, h1, h2, h3⟩ := h.row
 rcases h1.2 with ⟨rfl, h0⟩ | ⟨b, cap, cur, rfl, _, _, hc, _⟩
 ·have : ss = [] := List.eq_nil_of_length_eq_zero h0
  subst this
  exact RS.nil_ w
 ·refine ⟨_, _, rfl, hc, fun _ => ⟨b, 0, rfl, fun i s hi => ?_⟩⟩
  obtain ⟨av, h4, h5, h6, h7⟩ := h3 i s hi
  have hil := (gS1 hi).1
  refine ⟨av, ?_, ?_, ?_, h7.more (fun _ _ _ => trivial)⟩
  ·rw [Nat.zero_add, h1.cellAt _ (by omega)]; exact h4
  ·rw [Nat.zero_add, h1.cellAt _ (by omega)]; exact h5
  ·rw [Nat.zero_add, h1.cellAt _ (by omega)]; exact h6
theorem chk_all : ∀ (es : List Ent) (p : Option (List Nat)), chkL p es = 0 -> (∀ e ∈ es, okW e.word = true) /\ Rise (es.map wvE) /\ ∀ q, p = some q -> ∀ e ∈ es, lexlt q (wl e.word) = true
 | [], p, _ => ⟨by simp, List.Pairwise.nil, by simp⟩
 | e :: es, p, h => by
  simp only [chkL] at h
  cases hw : okW e.word with
  | false => rw [hw] at h; simp at h
  | true =>
   rw [hw] at h
   simp only [if_true] at h
   have hl : chkL (some (wl e.word)) es = 0 := by
    cases p with
    | none => exact h
    | some q =>
     by_cases hc : lexlt q (wl e.word) = true
     ·simpa [hc] using h
     ·simp [hc] at h
   obtain ⟨h1, h2, h3⟩ := chk_all es _ hl
   refine ⟨fun x hx => ?_, ?_, fun q hq x hx => ?_⟩
   ·rcases List.mem_cons.1 hx with rfl | hx
    ·exact hw
    ·exact h1 x hx
   ·rw [List.map_cons]
    refine List.pairwise_cons.2 ⟨fun y hy => ?_, h2⟩
    obtain ⟨x, hx, rfl⟩ := List.mem_map.1 hy
    exact h3 _ rfl x hx
   ·subst hq
    have hq2 : lexlt q (wl e.word) = true := by
     by_cases h9 : lexlt q (wl e.word) = true
     ·exact h9
     ·simp [h9] at h
    rcases List.mem_cons.1 hx with rfl | hx
    ·exact hq2
    ·exact lexlt_trans _ _ _ hq2 (h3 _ rfl x hx)
theorem okW_size {s : ByteArray} (h : okW s = true) : s.size <= 255 := by
 unfold okW at h
 simp at h
 omega
def lastW (es : List Ent) (i : Nat) : ByteArray := match i with
 | 0 => ⟨#[]⟩
 | i + 1 => (es[i]?.map Ent.word).getD ⟨#[]⟩
theorem adds_step {es : List Ent} {i : Nat} {e : Ent} (h : es[i]? = some e) (x : List State × List Open) : adds x [] ((es.take (i + 1)).map wvE) = add (adds x [] ((es.take i).map wvE)) (wl (lastW es i)) (wvE e) := by
 have ht : es.take (i + 1) = es.take i ++ [e] := by rw [List.take_add_one, h]; rfl
 rw [ht, List.map_append, adds_append]
 show add _ _ _ = _
 congr 1
 cases i with
 | zero => rfl
 | succ i =>
  have hl : i < es.length := by have := (gS1 h).1; omega
  have ht2 : es.take (i + 1) = es.take i ++ [es[i]] := by rw [List.take_add_one, gE1 hl]; rfl
  rw [ht2, List.map_append, List.map_cons, List.map_nil, List.getLast?_concat]
  simp [lastW, hl, wvE]
theorem add_ne (ss : List State) (way : List Open) (last : List Nat) (e : Wv) (h : way ≠ []) : (add (ss, way) last e).2 ≠ [] := by
 have h1 := close_ne ss way (shared last e.1) h
 intro h2
 have h3 := congrArg List.length h2
 unfold add at h3
 simp only [mark_length, opens_length, List.length_nil] at h3
 exact h1 (List.eq_nil_of_length_eq_zero (by omega))
theorem close_zero (ss : List State) (way : List Open) (h : way ≠ []) : ∃ o, (close ss way 0).2 = [o] := by
 have := close_length ss way 0 (List.length_pos_iff.2 h)
 match hc : (close ss way 0).2, this with
 | [o], _ => exact ⟨o, rfl⟩
theorem own_anew {w : World} {base g mb j : Nat} {own : Nat -> Nat} {sv wv : Value} {ss : List State} {way : List Open} (h : Bld w base own g sv mb ss wv j way) :
  ∃ own0 : Nat -> Nat, (∀ k, w.heap.size <= k -> own0 k = 0) /\ (∀ k, k < w.heap.size -> own0 k = own k) /\ Bld w base own0 g sv mb ss wv j way := by
 have hb := h.reg.base_le
 have h0lt : ∀ k, k < w.heap.size -> (if k < w.heap.size then own k else 0) = own k := fun k hk => if_pos hk
 exact ⟨fun k => if k < w.heap.size then own k else 0, fun k hk => if_neg (by omega), h0lt, h.told (fun k hk => by rw [h0lt k (by omega)]; exact h.reg.lo k hk) (fun k hk _ _ => h0lt k hk)⟩
theorem But.lo {w w' : World} {own : Nat -> Nat} {base : Nat} (h : But (fun k => own k ≠ 0 /\ own k ≠ 4) w w') (hb : base <= w.heap.size) (hlo : ∀ k, k < base -> own k = 4) : Below base w w' :=
 ⟨h.os, h.tape, h.output, h.size, fun k hk => h.block k (by omega) (fun h4 => h4.2 (hlo k hk))⟩
open Go.Maps
def PB (W2 : World) (own4 : Nat -> Nat) (base g : Nat) (wv : Value) (mb : Nat) (ss : List State) : Stab.Pr := fun _ w => ∃ ownF svF, (∀ k, k < W2.heap.size -> ownF k = own4 k) /\ Reg w base ownF g 123 [wv] svF mb ss
theorem PB.stable (W2 : World) (own4 : Nat -> Nat) (base g : Nat) (wv : Value) (mb : Nat) (ss : List State) : Stab.Stable (PB W2 own4 base g wv mb ss) := fun _ w w' hb ⟨ownF, svF, h1, h3⟩ => ⟨ownF, svF, h1, h3.later hb⟩
theorem lastW_succ {es : List Ent} {i : Nat} {e : Ent} (h : es[i]? = some e) : lastW es (i + 1) = e.word := by simp [lastW, h]
theorem lastW_size {es : List Ent} (h : chkN es = 0) (i : Nat) : (lastW es i).size <= 1000000 := by
 cases i with
 | zero => show (⟨#[]⟩ : ByteArray).size <= 1000000; decide
 | succ i =>
  simp only [lastW]
  cases hi : es[i]? with
  | none => show (⟨#[]⟩ : ByteArray).size <= 1000000; decide
  | some e => have := okW_size ((chk_all es none h).1 e (gM1 hi)); simp; omega
theorem build8b (w : World) (es : List Ent) (B : Nat) (v : Value) (hB : B <= w.heap.size) (hre : RE w B v es) (hlen : es.length <= 100) (hchk : chkN es ≠ 0) : Calls Tryz.prog 27 #[v] w fun e w1 => e = .returned (.tuple #[.agg #[.slice none 0 0, .int .u64 0], .int .i64 (chkN es : Nat)]) /\ Below w.heap.size w w1 := by
 refine Zn1 61 Tryz.func27 fun fr hf s0 => ?_
 have hre0 := hre.any
 clear hre
 have HC := Lib.hid hchk; clear hchk
 refine Ze fun _ hK1 => Zr [] hf ?_
 refine Zq2 0 2 hf ?_
 clear hf s0; intro fr1 hf sS
 generalize hW0 : w.alloc (.cells #[.slice none 0 0, .int .u64 0] 38) = W0
 obtain ⟨hb0, -, -, hp0, hz0_⟩ := box2 hW0
 clear hW0
 have hz0 : w.heap.size < W0.heap.size := by rw [hz0_]; exact Nat.lt_succ_self _
 clear hz0_
 have hreW := (hre0.below hb0).any
 refine Zs hK1 fun _ hK2 => Ze fun _ hK3 => rg ?_
 have bB := hf.B5 13 14 12 15 16
 refine Zy ?_
 refine Zc (echk27 W0 es W0.heap.size v (Nat.le_refl _) hreW (by omega)) ?_; rintro e w1 ⟨n1, rfl, hb1⟩
 refine Zv ?_
 iterate 5 refine Zy ?_
 refine Fact.nil (Zq3 0 2 5 hf ?_)
 clear hf sS bB; intro fr1 hf sS
 have hp1 := (hb1.block _ (heap_lt hp0)).trans hp0
 clear hreW hp0
 have hbw := hb0.trans (hb1.mono hb0.size)
 have hw1 : w.heap.size < w1.heap.size := by have := hb1.size; omega
 refine Zs hK3 fun _ hK4 => Zr [17] hf ?_
 refine Zq4 0 2 5 18 hf ?_
 clear hf sS; intro fr1 hf sS
 refine Zx hK4 ?_
 have q18 : fr1.tmps[18]? = some (.bool true) := by rw [sS.2.2.2]; have := HC.out; simp; omega
 obtain ⟨s0, s2, s5, s18⟩ := sS
 clear s18
 have s18 := q18; clear q18
 refine Fact.cond_t s18 ?_
 have z0 := cR1 0 hp1; have z1 := cR1 1 hp1; have fz0 := frozen_of (i := 0) hp1; have fz1 := frozen_of (i := 1) hp1
 simp at z0 z1
 refine Ze fun _ hK5 => Zr [19, 20] hf ?_
 refine Zq2 2 3 hf ?_
 clear hf s0 s2 s5 s18; intro fr1 hf sS
 refine Zx hK5 (Zret ?_)
 exact ret_ct rfl hf sS.1 sS.2 (set_block (set_block hp1 _) _) Tryz.underlying38 rfl (by kernel_rfl) ⟨rfl, (hbw.setCell (p := ⟨w.heap.size, 0, none⟩) (Nat.le_refl _) _).setCell (p := ⟨w.heap.size, 1, none⟩) (Nat.le_refl _) _⟩
theorem build8g (w : World) (es : List Ent) (B : Nat) (v : Value) (hB : B <= w.heap.size) (hre : RE w B v es) (hlen : es.length <= 100) (hes : ∀ e ∈ es, okE e) (hchk : chkN es = 0) : Calls Tryz.prog 27 #[v] w fun e w1 => ∃ sv, e = .returned (.tuple #[.agg #[sv, .int .u64 (build (es.map wvE)).init], .int .i64 0]) /\ RS w1 sv (build (es.map wvE)).states /\ (∀ s ∈ (build (es.map wvE)).states, okK s) /\ (build (es.map wvE)).states.length <= 2 + 255 * es.length /\ Below w.heap.size w w1 := by
 have hmm := @run_makeMap Tryz.prog
 have hms := make73
 refine Zn1 61 Tryz.func27 fun fr hf s0 => ?_
 have hre0 := hre.any
 clear hre
 have HC := Lib.hid hchk; clear hchk
 clear hmm hms
 refine Ze fun _ hK1 => Zr [] hf ?_
 refine Zq2 0 2 hf ?_
 clear hf s0; intro fr1 hf sS
 generalize hW0 : w.alloc (.cells #[.slice none 0 0, .int .u64 0] 38) = W0
 obtain ⟨hb0, -, -, hp0, hz0_⟩ := box2 hW0
 clear hW0
 have hz0 : w.heap.size < W0.heap.size := by rw [hz0_]; exact Nat.lt_succ_self _
 clear hz0_
 have hreW := (hre0.below hb0).any
 refine Zs hK1 fun _ hK2 => Ze fun _ hK3 => rg ?_
 have bB := hf.B5 13 14 12 15 16
 refine Zy ?_
 refine Zc (echk27 W0 es W0.heap.size v (Nat.le_refl _) hreW (by omega)) ?_; rintro e w1 ⟨n1, rfl, hb1⟩
 rw [HC.out]
 refine Zv ?_
 iterate 5 refine Zy ?_
 refine Fact.nil (Zq3 0 2 5 hf ?_)
 clear hf sS bB; intro fr1 hf sS
 have hp1 := (hb1.block _ (heap_lt hp0)).trans hp0
 clear hreW hp0
 have hbw := hb0.trans (hb1.mono hb0.size)
 have hw1 : w.heap.size < w1.heap.size := by have := hb1.size; omega
 refine Zs hK3 fun _ hK4 => Zr [17] hf ?_
 refine Zq4 0 2 5 18 hf ?_
 clear hf sS; intro fr1 hf sS
 refine Zx hK4 (Fact.cond_f sS.2.2.2 ?_)
 have hmm := @run_makeMap Tryz.prog
 have hms := make73
 skip
 refine wp_skip (Zs hK2 fun _ hK5 => Zr [21, 22, 23, 24, 25] hf ?_)
 refine Zq3 0 2 6 hf ?_
 clear hf sS; intro fr1 hf sS
 clear hmm hms
 generalize hW2 : ((w1.alloc (.map #[] 0)).alloc (.cells #[.slice none 0 0, .bool false, .int .u64 0, .int .u8 0] 126)).alloc (.cells #[.slice none 0 0, .map (some w1.heap.size), .slice (some ⟨w1.heap.size + 1, 0, none⟩) 1 1] 123) = W2
 obtain ⟨s0, s2, s6⟩ := sS
 try simp only [World.size_alloc] at s6
 try rw [show w1.heap.size + 1 + 1 = w1.heap.size + 2 from rfl] at s6
 obtain ⟨hB2, hb2⟩ := Bld.start w1 w.heap.size (Nat.le_of_lt hw1) hW2
 have ho2 : ownS w.heap.size w1.heap.size w.heap.size = 0 := by unfold ownS; rw [if_neg (by omega), if_neg (by omega), if_neg (by omega), if_neg (by omega)]
 clear hW2
 have hp2 := (hb2.block _ (heap_lt hp1)).trans hp1
 have hbw2 := hbw.trans (hb2.mono (Nat.le_of_lt hw1))
 obtain ⟨g, hg⟩ : ∃ g, w1.heap.size + 2 = g := ⟨_, rfl⟩
 rw [hg] at s6 hB2
 obtain ⟨mb, hmb⟩ : ∃ mb, w1.heap.size = mb := ⟨_, rfl⟩
 rw [hmb] at hB2 ho2
 obtain ⟨own2, hown2⟩ : ∃ f, ownS w.heap.size mb = f := ⟨_, rfl⟩
 rw [hown2] at hB2 ho2
 obtain ⟨A, cc, rfl, hcc⟩ := hre0.form
 clear hg hown2 hmb hp1 hbw hw1 hb2
 have HO2 := Lib.hid ho2; clear ho2
 refine Zs hK5 fun _ hK6 => Zr [] hf ?_
 refine Zq4 0 2 6 7 hf ?_
 clear hf s0 s2 s6; intro fr1 hf sS
 refine Zs hK6 fun _ hK7 => Ze fun _ hK8 => Zr [26] hf ?_
 refine Zq6 2 6 7 26 27 28 hf ?_
 clear hf sS; intro fr1 hf sS
 refine Zx hK8 (wp_block ?_)
 have HES := Lib.hid hes; clear hes
 refine wp_loop_ghost (fun gk fr wr => ∃ (i : Nat) (ownr : Nat -> Nat) (svr wvr : Value) (ssr : List State) (wayr : List Open), gk = es.length - i /\ i <= es.length /\ Fact.Fr 61 fr /\ fr.tmps[2]? = some (.pointer (some ⟨w.heap.size, 0, none⟩)) /\ fr.tmps[6]? = some (.pointer (some ⟨g, 0, none⟩)) /\ fr.tmps[7]? = some (.string (lastW es i)) /\ fr.tmps[26]? = some (.slice A es.length cc) /\ fr.tmps[27]? = some (.int .i64 es.length) /\ fr.tmps[28]? = some (.int .i64 i) /\ Bld wr w.heap.size ownr g svr mb ssr wvr 0 wayr /\ wayr ≠ [] /\ adds ([], [⟨zeroS, 0⟩]) [] ((es.take i).map wvE) = (ssr, wayr) /\ BndU i (1 + 255 * i) ssr wayr /\ wr.heap[w.heap.size]? = some (.cells #[.slice none 0 0, .int .u64 0] 38 (0, 0)) /\ ownr w.heap.size = 0 /\ Below w.heap.size w wr) (es.length) ?_ ?_
 . (
 obtain ⟨s2, s6, s7, s26, s27, s28⟩ := sS
 exact ⟨0, own2, _, _, [], [⟨zeroS, 0⟩], rfl, Nat.zero_le _, hf, s2, s6, s7, s26, s27, s28, hB2, by simp, rfl, ⟨fun o ho => by simp at ho; subst ho; exact zero_okO 0 (by omega), by simp⟩, hp2, HO2.out, hbw2⟩)
 . (
 clear hf sS
 rintro gk fr wr ⟨i, ownr, svr, wvr, ssr, wayr, hk, hi, hf, s2, s6, s7, s26, s27, s28, hBr, hner, had, hbd, hpr, hpo, hb⟩
 have HK := Lib.hid hk; have HA := Lib.hid had; have HPO := Lib.hid hpo; clear hk had hpo hB2 hp2 hbw2
 have hre2 := hre0.below hb
 refine Ze fun _ hK9 => Zr [] hf ?_
 refine Zq7 2 6 7 26 27 28 29 hf ?_
 clear hf s2 s6 s7 s26 s27 s28; intro fr1 hf sS
 refine Zs hK9 fun _ hK10 => Fact.cond_s sS.2.2.2.2.2.2 (fun hq => ?_) (fun hq => ?_)
 . (
 have hlt : i < es.length := by have h9 := of_decide_eq_true hq; omega
 have HQ := Lib.hid hq; clear hq
 obtain ⟨e, hie⟩ : ∃ e, es[i]? = some e := ⟨_, gE1 hlt⟩
 obtain ⟨b, off, rfl, hbB, hbl, d0, d1, d2⟩ := hre2.at_ hie
 have hem := gM1 hie
 have hoe := HES.out e hem
 have hsz := okW_size ((chk_all es none HC.out).1 e hem)
 have HE := Lib.hid hie; clear hie hem
 obtain ⟨own3, h3ge, h3lt, hB3⟩ := own_anew hBr
 have H3 := Lib.hid h3ge; have H4 := Lib.hid h3lt; clear h3ge h3lt hBr
 have hbase := hB3.reg.base_le
 refine wp_skip (Zs hK10 fun _ hK11 => wp_block (Ze fun _ hK12 => Zr [30, 31, 9] hf ?_))
 refine Zq7 2 6 7 9 26 27 28 hf ?_
 clear hf sS; intro fr1 hf sS
 generalize hW3 : wr.alloc (.cells #[.string e.word, .int .u32 e.weight, .bool e.gone] 64) = W3
 obtain ⟨hb3, x0, x1, x2, hq3, hz3_⟩ := box3 hW3
 clear hW3
 have hz3 : wr.heap.size < W3.heap.size := by rw [hz3_]; exact Nat.lt_succ_self _
 clear hz3_
 clear d0 d1 d2
 have hB4 := hB3.later hb3
 have hp3 := (hb3.block _ (heap_lt hpr)).trans hpr
 clear hB3
 refine Zt hK12 fun _ hK13 => ?_
 have bB := hf.B3 32 33 34
 iterate 3 refine Zy ?_
 refine Zc (add28 W3 (lastW es i) e hB4 hner hbd (by omega) (by omega) hoe (lastW_size HC.out i)) ?_; rintro e w5 ⟨rfl, own5, sv5, wv5, hB5, hk5, hb5⟩
 refine Zv ?_
 refine Fact.nil (Zq6 2 6 9 26 27 28 hf ?_)
 clear hf sS bB; intro fr1 hf sS
 have hq5 := hb5.heap hq3 (fun h => h.1 (H3.out _ (Nat.le_refl _)))
 have x5 := cR1 0 hq5
 simp at x5
 clear x0 x1 x2 hq3
 have hp30 : own3 w.heap.size = 0 := (H4.out _ (heap_lt hpr)).trans HPO.out
 have hp5 := hb5.heap hp3 (fun h => h.1 hp30)
 have hp50 : own5 w.heap.size = 0 := (hk5 _ (heap_lt hp3) (.inl hp30)).trans hp30
 have HP5 := Lib.hid hp50; have HP3 := Lib.hid hp30; clear hp50 hp30
 refine Zx hK13 (Zr [36, 37] hf ?_)
 refine Zq6 2 6 7 26 27 28 hf ?_
 clear hf sS; intro fr1 hf sS
 refine Fact.block_normal (Zx hK11 (Zr [38] hf ?_))
 refine Zq6 2 6 7 26 27 28 hf ?_
 clear hf sS; intro fr1 hf sS
 refine Fact.then_normal ?_
 have hbU := hbd.add (last := wl (lastW es i)) (e := wvE e) (by omega) (by omega) (wl_lt e.word) (by have := valE_lt hoe; show valE e < _; omega)
 have hlen2 : (wvE e).1.length = e.word.size := wl_length _
 rw [hlen2] at hbU
 obtain ⟨s2, s6, s7, s26, s27, s28⟩ := sS
 exact ⟨_, by have := HK.out; omega, i + 1, own5, sv5, wv5, _, _, rfl, by omega, hf, s2, s6, by rw [s7, lastW_succ HE.out], s26, s27, by rw [s28]; rfl, hB5, add_ne _ _ _ _ hner, by rw [adds_step HE.out, HA.out], ⟨hbU.all, by have := hbU.size; omega⟩, hp5, HP5.out, hb.trans ((hb3.mono hb.size).trans (But.lo hb5 (by have := hb.size; have := hb3.size; omega) hB4.reg.lo))⟩)
 . (
 have hie : i = es.length := by have h9 := of_decide_eq_false hq; omega
 have ha2 := HA.out
 rw [hie, List.take_length] at ha2
 have HA2 := Lib.hid ha2; clear ha2 hq
 have HIE := Lib.hid hie; clear hie
 refine Zo ?_
 refine Zt hK7 fun _ hK14 => ?_
 have bB := hf.b 39
 refine Zy ?_
 refine Zc (close29 wr 0 hBr hner hbd.bnd (by omega) (by omega) (by omega)) ?_; rintro e w2 ⟨rfl, own3, sv3, wv3, hB3, hk3, hb3⟩
 refine Zv ?_
 refine Fact.nil (Zq2 2 6 hf ?_)
 clear hf sS bB; intro fr1 hf sS
 have hU := Bnd.closeN (by omega) (by omega) (wayr.length - (0 + 1)) ssr wayr hbd.bnd
 have hU2 : Bnd i (1 + 255 * i) (close ssr wayr 0).1 (close ssr wayr 0).2 := hU
 clear hU
 obtain ⟨o, hco⟩ := close_zero ssr wayr hner
 obtain ⟨ss3, hss3⟩ : ∃ x, (close ssr wayr 0).1 = x := ⟨_, rfl⟩
 rw [hss3, hco] at hB3 hU2
 have HS3 := Lib.hid hss3; have HCO := Lib.hid hco; clear hss3 hco
 have hp3 := hb3.heap hpr (fun h => h.1 HPO.out)
 have hp30 : own3 w.heap.size = 0 := (hk3 _ (heap_lt hpr) (.inl HPO.out)).trans HPO.out
 have hbw3 := hb.trans (But.lo hb3 hBr.reg.base_le hBr.reg.lo)
 clear hb3 hk3 hBr hpr
 obtain ⟨own0, h0ge, h0lt, hBs⟩ := own_anew hB3
 have hp00 : own0 w.heap.size = 0 := (h0lt _ (heap_lt hp3)).trans hp30
 have H0 := Lib.hid h0ge; have HP0 := Lib.hid hp00; clear h0ge h0lt hB3 hp30 hp00
 obtain ⟨wb, c, av, rfl, hcc2, hwb, d0, d1, d2, d3, hoa, hav⟩ := hBs.top
 simp only [List.length_nil, Nat.zero_mul, Nat.zero_add, Nat.add_zero] at d0 d1 d2 d3 hav
 have q2 := hBs.cell2
 have hoo := hU2.head o rfl
 have hus := hU2.size
 obtain ⟨Aa, ca, rfl, hca⟩ := (OA.ra (B := fun _ => True) hoa (fun _ _ => trivial)).form
 have HWB := Lib.hid hwb; clear hwb
 have hb3s := hbw3.size
 refine Zt hK14 fun _ hK15 => ?_
 have bB := hf.B7 41 42 43 44 45 46 10
 iterate 4 refine Zy ?_
 refine fp fun K Z => ?_
 go_simp
 try rw [if_pos (by omega)]
 try simp
 apply Z.out; clear Z K
 iterate 3 refine Zy ?_
 refine Fact.nil (Zq3 2 6 10 hf ?_)
 clear hf sS bB; intro fr1 hf sS
 generalize hW6 : w2.alloc (.cells #[.slice Aa o.st.arcs.length ca, .bool o.st.final, .int .u64 o.st.out, .int .u8 o.by_] 126) = W6
 obtain ⟨hb6, -, -, -, -, hq6, hz6_⟩ := box4 hW6
 clear hW6
 have hz6 : w2.heap.size < W6.heap.size := by rw [hz6_]; exact Nat.lt_succ_self _
 clear hz6_
 have hB6 := (hBs.later hb6).forget
 have hoa6 : OA W6 w.heap.size (.slice Aa o.st.arcs.length ca) o.st.arcs := own_later hoa hb6
 have hp6 := (hb6.block _ (heap_lt hp3)).trans hp3
 clear d0 d1 d2 d3 hoa q2
 refine Zs hK15 fun _ hK16 => ?_
 obtain ⟨n, hn⟩ : ∃ n, leastOf o.st = n := ⟨_, rfl⟩
 have HN := Lib.hid hn; clear hn
 refine rg ?_
 have bB := hf.b 47
 refine Zc (push30 W6 w2.heap.size o.by_ w.heap.size o.st _ hoo.ok hq6 hoa6) ?_; rintro e w7 ⟨rfl, hq7, hoa7, hbt7⟩
 rw [HN.out] at hq7 hoa7
 rw [HN.out]
 refine Zv ?_
 refine Zy ?_
 refine Fact.nil (Zq4 2 6 10 11 hf ?_)
 clear hf sS bB; intro fr1 hf sS
 have hB7 := hB6.but hbt7 (fun k hk => by rcases hk with rfl | hk; exact .inl (H0.out _ (Nat.le_refl _)); right; have := hav k hk; simp only [List.length_nil]; omega)
 have hp7 := hbt7.heap hp6 (fun h => by rcases h with h | h; (have h5 := heap_lt hp3; omega); (have := hav _ h; have := HP0.out; omega))
 have hsz7 := hbt7.size
 have hbw7 : Below w.heap.size w w7 := hbw3.trans ((hb6.mono hb3s).trans (But.below hbt7 (by omega) (fun k hk => by rcases hk with rfl | hk; exact hb3s; exact (hoa6.lt k hk).1)))
 have h4eq : ∀ k, own0 k ≠ 6 -> (if (.slice Aa o.st.arcs.length ca : Value).ownBlock = some k then 4 else own0 k) = own0 k := fun k hk => if_neg (fun h => hk (hav k h))
 have hB4 := hB7.reg.told (own' := fun k => if (.slice Aa o.st.arcs.length ca : Value).ownBlock = some k then 4 else own0 k) (fun k hk => by rw [h4eq k (by have := hB7.reg.lo k hk; omega)]; exact hB7.reg.lo k hk) (fun k _ h1 h2 => h4eq k (by omega))
 have hra : RA w7 (fun k => (if (.slice Aa o.st.arcs.length ca : Value).ownBlock = some k then 4 else own0 k) = 4) (.slice Aa o.st.arcs.length ca) (less o.st n).arcs := OA.ra hoa7 (fun k hk => if_pos hk)
 obtain ⟨own4, hown4⟩ : ∃ f, (fun k => if (.slice Aa o.st.arcs.length ca : Value).ownBlock = some k then 4 else own0 k) = f := ⟨_, rfl⟩
 have hp40 : own4 w.heap.size = 0 := by rw [<- hown4]; exact (h4eq _ (by have := HP0.out; omega)).trans HP0.out
 rw [hown4] at hB4
 replace hra : RA w7 (fun k => own4 k = 4) (.slice Aa o.st.arcs.length ca) (less o.st n).arcs := by rw [<- hown4]; exact hra
 have HP4 := Lib.hid hp40; clear hp40 h4eq hown4 hB7 hoa7 hbt7 hp6 hB6 hoa6 hq6
 have g0 := cR1 0 hq7; have g1 := cR1 1 hq7; have g2 := cR1 2 hq7
 simp at g0 g1 g2
 refine Zs hK16 fun _ hK17 => ?_
 obtain ⟨s2, s6, s10, s11⟩ := sS
 refine Stam.todo_begin (n := 61) (fun _ k => own4 k = 1 \/ own4 k = 2 \/ own4 k = 3) [5] (Stab.OkOps.of (by kernel_rfl)) (fun hok => ?_)
 refine Stam.mvO (k := 0) s6 hf.size hok.out rfl (by kernel_rfl) rfl rfl (.inl rfl) (by kernel_rfl) ?_
 apply Stam.tq 1 _ hf hok
 . (
 intro fr1 w1 hh hd hk K Z
 refine Stab.pl ?_
 have s48 := Stam.v 0 0 hd hk []
 have hxe := Stam.ext_at hh [(5, [2])] (by kernel_rfl)
 have hbt := Stam.but_at hh [] [(5, [2])] (by kernel_rfl)
 clear hd hh
 go_simp
 exact Stab.k Z)
 apply Stam.tq 2 _ hf hok
 . (
 intro fr1 w1 hh hd hk K Z
 refine Stab.pl ?_
 have s49 := Stam.v 1 0 hd hk []
 have hxe := Stam.ext_at hh [(5, [])] (by kernel_rfl)
 have hbt := Stam.but_at hh [] [(5, [])] (by kernel_rfl)
 clear hd hh
 go_simp
 exact Stab.k Z)
 apply Stam.tq 3 _ hf hok
 . (
 intro fr1 w1 hh hd hk K Z
 refine Stab.pl ?_
 have s10 := Stam.o hh (by kernel_rfl) s10
 have hxe := Stam.ext_at hh [(5, [4])] (by kernel_rfl)
 have hbt := Stam.but_at hh [] [(5, [4])] (by kernel_rfl)
 clear hd hh
 go_simp
 exact Stab.k Z)
 apply Stam.tq 4 _ hf hok
 . (
 intro fr1 w1 hh hd hk K Z
 refine Stab.pl ?_
 have s51 := Stam.v 3 0 hd hk []
 have hxe := Stam.ext_at hh [(5, [])] (by kernel_rfl)
 have hbt := Stam.but_at hh [] [(5, [])] (by kernel_rfl)
 clear hd hh
 have f0 := cL hxe g0; have f1 := cL hxe g1; have f2 := cL hxe g2
 go_simp
 exact Stab.k Z)
 refine Stam.todo_sp (k := 5) (n := 61) (PB w7 own4 w.heap.size g (.slice (some ⟨wb, 0, none⟩) 1 c) mb (finish ss3 (less o.st n)).1) hf.size hok.out rfl (PB.stable _ _ _ _ _ _ _) (by kernel_rfl) ?_ ?_
 . (
 intro fr1 w1 hh hd hk K Z
 refine Stab.pl ?_
 have s50 := Stam.v 2 2 hd hk []
 have s52 := Stam.v 4 0 hd hk []
 have hxe := Stam.ext_at hh [] (by kernel_rfl)
 have hbt := Stam.but_at hh [] [] (by kernel_rfl)
 clear hd hh
 go_simp
 go_at_call 54; refine (finish31 w1 (hB4.later hxe) (hra.later hxe) (less_ok hoo (by omega)) (by simp only [List.length_cons, List.length_nil] at hus; omega)).mono ?_; rintro e w2 ⟨rfl, ownF, svF, hF1, hF2, hF3, hF4⟩
 exact Z.out _ rfl _ _ hF4 ⟨ownF, svF, fun k hk1 => hF1 k (by have := hxe.size; omega), hF3⟩)
 refine Stam.todo_facts (n := 61) (by kernel_rfl) hf.size hok.out rfl (fun fr1 w1 hh hg => ?_)
 replace s2 := Stam.o hh (by kernel_rfl) s2
 replace s6 := Stam.o hh (by kernel_rfl) s6
 replace s11 := Stam.o hh (by kernel_rfl) s11
 obtain ⟨_, hlast⟩ := Stam.end_fact (j := 5) (m := 0) hg rfl (by decide) [] (by kernel_rfl) rfl
 have hf1 := hh.fr hf
 have hbt := hh.but
 clear hg hh hf hok s10
 have hf := hf1; clear hf1
 obtain ⟨ownF, svF, hF1, hF3⟩ := hlast
 replace hbt := hbt (fun k => own4 k = 1 \/ own4 k = 2 \/ own4 k = 3) (fun m _ b h => h)
 have hp8 := hbt.heap hp7 (fun h => by have := HP4.out; have h : own4 w.heap.size = 1 \/ own4 w.heap.size = 2 \/ own4 w.heap.size = 3 := h; omega)
 have hpF : ownF w.heap.size = 0 := (hF1 _ (heap_lt hp7)).trans HP4.out
 obtain ⟨As, cs, hsv, hcs⟩ := hF3.form
 subst hsv
 have r0 := hF3.cell0
 have z0 := cR1 0 hp8; have z1 := cR1 1 hp8; have fz0 := frozen_of (i := 0) hp8; have fz1 := frozen_of (i := 1) hp8
 simp at z0 z1
 have hbw8 : Below w.heap.size w _ := hbw7.trans (But.below hbt (by have := hbw7.size; omega) (fun k hk => by rcases Nat.lt_or_ge k w.heap.size with h | h; (have := hB4.lo k h; omega); exact h))
 have HPF := Lib.hid hpF; clear hpF hra hB4 g0 g1 g2 hq7
 refine Zs hK17 fun _ hK18 => Zr [54, 55, 56, 57, 58, 59, 60] hf ?_
 refine Zq2 2 3 hf ?_
 clear hf s2 s6 s11; intro fr1 hf sS
 refine Zx hK18 (Zret ?_)
 have hS : ∀ k, k = w.heap.size -> ownF k = 0 \/ 5 <= ownF k := fun k hk => by subst hk; exact .inl HPF.out
 have hF5 := (hF3.but (But.setCell (S := fun k => k = w.heap.size) (p := ⟨w.heap.size, 0, none⟩) rfl (.slice As (finish ss3 (less o.st n)).1.length cs)) hS).but (But.setCell (S := fun k => k = w.heap.size) (p := ⟨w.heap.size, 1, none⟩) rfl (.int .u64 n)) hS
 have hbd2 : build (es.map wvE) = ⟨(finish ss3 (less o.st n)).1, n⟩ := by unfold build; rw [HA2.out]; simp only [HS3.out, HCO.out, List.headD_cons, HN.out]
 rw [hbd2]
 have hl9 : (finish ss3 (less o.st n)).1.length <= 2 + 255 * es.length := by have h1 := (finish_length ss3 (less o.st n)).1; have h2 := hU2.size; simp only [List.length_cons, List.length_nil] at h2; omega
 exact ret_ct rfl hf sS.1 sS.2 (set_block (set_block hp8 _) _) Tryz.underlying38 rfl (by kernel_rfl) ⟨_, rfl, hF5.rs, hF5.good, hl9, (hbw8.setCell (p := ⟨w.heap.size, 0, none⟩) (Nat.le_refl _) _).setCell (p := ⟨w.heap.size, 1, none⟩) (Nat.le_refl _) _⟩))
end Dw
end Go.Proofs.YtcddnmhmcieebaaGreatDoor
