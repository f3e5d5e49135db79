/- slices.order2Ordered, medianOrdered, medianAdjacentOrdered at bytes: places among those that were given. -/
import Derived.Test.YtfgfichkcckhiaaSCmp
namespace Go.Proofs.Ytfgfichkcckhiaa
open Go.RowKit
set_option linter.unusedSimpArgs false
set_option linter.unusedVariables false
set_option linter.unnecessarySimpa false
namespace Sb
theorem set_cell1 {w : World} {s : Nat} {v u : Value} {t : TypeId} (h : w.heap[s]? = some (.cells #[v] t (0, 0))) : (w.setCell ⟨s, 0, none⟩ u).heap[s]? = some (.cells #[u] t (0, 0)) := by
  simp [World.setCell, Array.getElem?_modify, h]
set_option maxHeartbeats 4000000 in
set_option maxRecDepth 100000 in
theorem ord2_any (zs : List Int) (g n c a b s : Nat) (w : World) (hn : zs.length = n) (ha : a < n) (hb : b < n) (h : Arr w g zs) (hc : Cnt w s) : Calls Try.prog 98 #[.slice (some ⟨g, 0, none⟩) n c, .int .i64 a, .int .i64 b, .pointer (some ⟨s, 0, none⟩)] w fun e w1 => ∃ x y : Nat, e = .returned (.tuple #[.int .i64 x, .int .i64 y]) ∧ (x = a ∨ x = b) ∧ (y = a ∨ y = b) ∧ Cnt w1 s ∧ Only w w1 s := by
 refine calls_of_wp Try.func98 rfl ?_
 refine Fact.enter (n := 28) (by kernel_rfl) (fun fr hf hT => ?_)
 have s0 := hT 0 _ rfl
 have s1 := hT 1 _ rfl
 have s2 := hT 2 _ rfl
 have s3 := hT 3 _ rfl
 clear hT
 have HN := Lib.hid hn; clear hn
 obtain ⟨x, hx⟩ : ∃ v, zs[b]? = some v := ⟨zs[b]'(by have := HN.out; omega), List.getElem?_eq_getElem _⟩
 have Hxd := Lib.hid (show zs.getD (b) 0 = x by simp [List.getD, hx])
 have Hx := Lib.hid hx
 clear hx
 obtain ⟨y, hy⟩ : ∃ v, zs[a]? = some v := ⟨zs[a]'(by have := HN.out; omega), List.getElem?_eq_getElem _⟩
 have Hyd := Lib.hid (show zs.getD (a) 0 = y by simp [List.getD, hy])
 have Hy := Lib.hid hy
 clear hy
 have cx := h.cell Hx.out; have cy := h.cell Hy.out
 obtain ⟨v, hv⟩ := hc
 by_cases hxy : x < y
 · (
 refine wp_seq_k (fun K1 hK1 => ?_)
 refine Fact.region ?_
 refine Fact.p rfl fun K hK => ?_
 go_simp
 refine hK.out _ _ ?_; clear hK K
 refine Fact.p rfl fun K hK => ?_
 go_simp
 refine hK.out _ _ ?_; clear hK K
 refine Fact.nil ?_
 refine Fact.q hf (by simp only [Fact.G]) rfl fun fr1 hf1 hT => ?_
 have hKp : _ ∧ _ ∧ _ ∧ _ ∧ _ ∧ _ := ⟨hT 0, hT 1, hT 2, hT 3, hT 8, hT 9⟩
 simp only [Fact.G, Nat.reduceEqDiff, Nat.reduceLT, hf.size, reduceIte, s0, s1, s2, s3] at hKp
 clear hT hf s0 s1 s2 s3
 obtain ⟨s0, s1, s2, s3, s8, s9⟩ := hKp
 have hf := hf1; clear hf1
 refine Fact.nx (hK1 _ _ ?_)
 refine wp_seq_k (fun K2 hK2 => ?_)
 refine wp_seq_k (fun K3 hK3 => ?_)
 refine Stage.begin_ (n := 28) [] (fun k w1 => w1 = [w.drew].getD k (w.drew)) (Stab.OkOps.of (by kernel_rfl)) (fun hok => ?_)
 refine Stage.mvO (k := 0) s0 hf.size hok.out rfl rfl rfl (.inl rfl) (by kernel_rfl) (by kernel_rfl) ?_
 refine Stage.mvO (k := 1) s2 hf.size hok.out rfl rfl rfl (.inl rfl) (by kernel_rfl) (by kernel_rfl) ?_
 apply Stage.t 2 _ hf.size hok.out rfl (by kernel_rfl)
 · (
 intro fr1 w1 hh hd hk K hK
 refine Stab.op_plain (o := _) rfl rfl ?_
 have s10 := Stage.u 0 1 hd hk rfl [] (by kernel_rfl) rfl rfl rfl
 have s11 := Stage.u 1 0 hd hk rfl [] (by kernel_rfl) rfl rfl rfl
 clear hd
 go_simp
 exact hK.out _ rfl _ rfl)
 apply Stage.todo_look (k := 3) (n := 28) 0 [] [] _ hf.size hok.out rfl (by kernel_rfl)
 · (
 intro fr1 w1 hh hw hd hk K hK
 replace hw : w1 = w.drew := hw
 subst hw
 refine Stab.op_plain (o := _) rfl rfl ?_
 have s12 := Stage.u 2 0 hd hk rfl [] (by kernel_rfl) rfl rfl rfl
 clear hd
 go_simp
 exact hK.out _ rfl _ _ rfl rfl)
 refine Stage.mvO (k := 4) s0 hf.size hok.out rfl rfl rfl (.inl rfl) (by kernel_rfl) (by kernel_rfl) ?_
 refine Stage.mvO (k := 5) s1 hf.size hok.out rfl rfl rfl (.inl rfl) (by kernel_rfl) (by kernel_rfl) ?_
 apply Stage.t 6 _ hf.size hok.out rfl (by kernel_rfl)
 · (
 intro fr1 w1 hh hd hk K hK
 refine Stab.op_plain (o := _) rfl rfl ?_
 have s14 := Stage.u 4 1 hd hk rfl [] (by kernel_rfl) rfl rfl rfl
 have s15 := Stage.u 5 0 hd hk rfl [] (by kernel_rfl) rfl rfl rfl
 clear hd
 go_simp
 exact hK.out _ rfl _ rfl)
 apply Stage.todo_look (k := 7) (n := 28) 0 [] [] _ hf.size hok.out rfl (by kernel_rfl)
 · (
 intro fr1 w1 hh hw hd hk K hK
 replace hw : w1 = w.drew := hw
 subst hw
 refine Stab.op_plain (o := _) rfl rfl ?_
 have s16 := Stage.u 6 0 hd hk rfl [] (by kernel_rfl) rfl rfl rfl
 clear hd
 go_simp
 exact hK.out _ rfl _ _ rfl rfl)
 apply Stage.todo_look (k := 8) (n := 28) 0 [] [] _ hf.size hok.out rfl (by kernel_rfl)
 · (
 intro fr1 w1 hh hw hd hk K hK
 replace hw : w1 = w.drew := hw
 subst hw
 refine Stab.op_plain (o := _) rfl rfl ?_
 have s13 := Stage.u 3 4 hd hk rfl [] (by kernel_rfl) rfl rfl rfl
 have s17 := Stage.u 7 0 hd hk rfl [] (by kernel_rfl) rfl rfl rfl
 clear hd
 go_simp
 go_at_call 85; refine (less_any _ _ _).mono ?_; rintro e w2 ⟨rfl, rfl⟩
 exact hK.out _ rfl _ _ rfl rfl)
 refine Stage.todo_facts (n := 28) (by kernel_rfl) hf.size hok.out rfl (by decide) (by decide) rfl (fun fr1 w1 hh hg hw => ?_)
 replace hw : w1 = w.drew := hw
 subst hw
 replace s1 := Stage.o hh (by kernel_rfl) s1
 replace s2 := Stage.o hh (by kernel_rfl) s2
 replace s3 := Stage.o hh (by kernel_rfl) s3
 replace s8 := Stage.o hh (by kernel_rfl) s8
 replace s9 := Stage.o hh (by kernel_rfl) s9
 have s18 := Stage.e 8 0 hg rfl rfl rfl rfl
 have hf1 : Fact.Fr 28 fr1 := ⟨hh.size.trans hf.size, hh.defers.trans hf.defers⟩
 clear hg hh hf s0
 have hf := hf1; clear hf1
 clear hok
 have hv : w.drew.heap[s]? = some (.cells #[Value.int .i64 v] 3 (0, 0)) := hv
 have ho := (Only.refl w s).drew
 clear cx cy h
 generalize w.drew = wd at *
 have cs := cell_of_row wd s 0 _ _ _ hv; simp only [List.getElem?_toArray, List.getElem?_cons_zero] at cs
 have fs : wd.frozen? ⟨s, 0, none⟩ = false := by simp [World.frozen?, hv]
 refine Fact.nx (hK3 _ _ ?_)
 rw [decide_eq_true hxy] at s18
 refine Fact.cond_t s18 ?_
 refine wp_seq_k (fun K4 hK4 => ?_)
 refine Fact.region ?_
 have b19 := hf.l 19 rfl
 have b20 := hf.l 20 rfl
 have b21 := hf.l 21 rfl
 have b22 := hf.l 22 rfl
 have b23 := hf.l 23 rfl
 refine Fact.p rfl fun K hK => ?_
 go_simp
 refine hK.out _ _ ?_; clear hK K
 refine Fact.p rfl fun K hK => ?_
 go_simp
 refine hK.out _ _ ?_; clear hK K
 refine Fact.p rfl fun K hK => ?_
 go_simp
 refine hK.out _ _ ?_; clear hK K
 refine Fact.p rfl fun K hK => ?_
 go_simp
 try simp (disch := omega) only [Fact.wrap_i64, Fact.wrap_u8, Fact.wrap_u32, Fact.wrap_u64]
 refine hK.out _ _ ?_; clear hK K
 refine Fact.p rfl fun K hK => ?_
 go_simp
 refine hK.out _ _ ?_; clear hK K
 refine Fact.p rfl fun K hK => ?_
 go_simp
 refine hK.out _ _ ?_; clear hK K
 refine Fact.nil ?_
 refine Fact.q hf (by simp only [Fact.G]) rfl fun fr1 hf1 hT => ?_
 have hKp : _ ∧ _ ∧ _ ∧ _ := ⟨hT 1, hT 2, hT 8, hT 9⟩
 simp only [Fact.G, Nat.reduceEqDiff, reduceIte, s1, s2, s8, s9] at hKp
 clear hT hf s1 s2 s3 s8 s9 s18 b19 b20 b21 b22 b23
 obtain ⟨s1, s2, s8, s9⟩ := hKp
 have hf := hf1; clear hf1
 refine Fact.nx (hK4 _ _ ?_)
 refine wp_seq_k (fun K5 hK5 => ?_)
 refine Fact.region ?_
 have b24 := hf.l 24 rfl
 have b25 := hf.l 25 rfl
 refine Fact.p rfl fun K hK => ?_
 go_simp
 refine hK.out _ _ ?_; clear hK K
 refine Fact.p rfl fun K hK => ?_
 go_simp
 refine hK.out _ _ ?_; clear hK K
 refine Fact.p rfl fun K hK => ?_
 go_simp
 refine hK.out _ _ ?_; clear hK K
 refine Fact.p rfl fun K hK => ?_
 go_simp
 refine hK.out _ _ ?_; clear hK K
 refine Fact.nil ?_
 refine Fact.q hf (by simp only [Fact.G]) rfl fun fr1 hf1 hT => ?_
 have hKp : _ ∧ _ ∧ _ ∧ _ := ⟨hT 1, hT 2, hT 8, hT 9⟩
 simp only [Fact.G, Nat.reduceEqDiff, Nat.reduceLT, hf.size, reduceIte, s1, s2] at hKp
 clear hT hf s1 s2 s8 s9 b24 b25
 obtain ⟨s1, s2, s8, s9⟩ := hKp
 have hf := hf1; clear hf1
 refine Fact.nx (hK5 _ _ ?_)
 refine wp_ret ?_
 refine Fact.then_ret ?_
 exact Fact.ret2 rfl hf s8 s9 ⟨b, a, rfl, .inr rfl, .inl rfl, ⟨_, set_cell1 hv⟩, ho.set_ (.inl rfl) _⟩)
 · (
 refine wp_seq_k (fun K6 hK6 => ?_)
 refine Fact.region ?_
 refine Fact.p rfl fun K hK => ?_
 go_simp
 refine hK.out _ _ ?_; clear hK K
 refine Fact.p rfl fun K hK => ?_
 go_simp
 refine hK.out _ _ ?_; clear hK K
 refine Fact.nil ?_
 refine Fact.q hf (by simp only [Fact.G]) rfl fun fr1 hf1 hT => ?_
 have hKp : _ ∧ _ ∧ _ ∧ _ ∧ _ ∧ _ := ⟨hT 0, hT 1, hT 2, hT 3, hT 8, hT 9⟩
 simp only [Fact.G, Nat.reduceEqDiff, Nat.reduceLT, hf.size, reduceIte, s0, s1, s2, s3] at hKp
 clear hT hf s0 s1 s2 s3
 obtain ⟨s0, s1, s2, s3, s8, s9⟩ := hKp
 have hf := hf1; clear hf1
 refine Fact.nx (hK6 _ _ ?_)
 refine wp_seq_k (fun K7 hK7 => ?_)
 refine wp_seq_k (fun K8 hK8 => ?_)
 refine Stage.begin_ (n := 28) [] (fun k w1 => w1 = [w.drew].getD k (w.drew)) (Stab.OkOps.of (by kernel_rfl)) (fun hok => ?_)
 refine Stage.mvO (k := 0) s0 hf.size hok.out rfl rfl rfl (.inl rfl) (by kernel_rfl) (by kernel_rfl) ?_
 refine Stage.mvO (k := 1) s2 hf.size hok.out rfl rfl rfl (.inl rfl) (by kernel_rfl) (by kernel_rfl) ?_
 apply Stage.t 2 _ hf.size hok.out rfl (by kernel_rfl)
 · (
 intro fr1 w1 hh hd hk K hK
 refine Stab.op_plain (o := _) rfl rfl ?_
 have s10 := Stage.u 0 1 hd hk rfl [] (by kernel_rfl) rfl rfl rfl
 have s11 := Stage.u 1 0 hd hk rfl [] (by kernel_rfl) rfl rfl rfl
 clear hd
 go_simp
 exact hK.out _ rfl _ rfl)
 apply Stage.todo_look (k := 3) (n := 28) 0 [] [] _ hf.size hok.out rfl (by kernel_rfl)
 · (
 intro fr1 w1 hh hw hd hk K hK
 replace hw : w1 = w.drew := hw
 subst hw
 refine Stab.op_plain (o := _) rfl rfl ?_
 have s12 := Stage.u 2 0 hd hk rfl [] (by kernel_rfl) rfl rfl rfl
 clear hd
 go_simp
 exact hK.out _ rfl _ _ rfl rfl)
 refine Stage.mvO (k := 4) s0 hf.size hok.out rfl rfl rfl (.inl rfl) (by kernel_rfl) (by kernel_rfl) ?_
 refine Stage.mvO (k := 5) s1 hf.size hok.out rfl rfl rfl (.inl rfl) (by kernel_rfl) (by kernel_rfl) ?_
 apply Stage.t 6 _ hf.size hok.out rfl (by kernel_rfl)
 · (
 intro fr1 w1 hh hd hk K hK
 refine Stab.op_plain (o := _) rfl rfl ?_
 have s14 := Stage.u 4 1 hd hk rfl [] (by kernel_rfl) rfl rfl rfl
 have s15 := Stage.u 5 0 hd hk rfl [] (by kernel_rfl) rfl rfl rfl
 clear hd
 go_simp
 exact hK.out _ rfl _ rfl)
 apply Stage.todo_look (k := 7) (n := 28) 0 [] [] _ hf.size hok.out rfl (by kernel_rfl)
 · (
 intro fr1 w1 hh hw hd hk K hK
 replace hw : w1 = w.drew := hw
 subst hw
 refine Stab.op_plain (o := _) rfl rfl ?_
 have s16 := Stage.u 6 0 hd hk rfl [] (by kernel_rfl) rfl rfl rfl
 clear hd
 go_simp
 exact hK.out _ rfl _ _ rfl rfl)
 apply Stage.todo_look (k := 8) (n := 28) 0 [] [] _ hf.size hok.out rfl (by kernel_rfl)
 · (
 intro fr1 w1 hh hw hd hk K hK
 replace hw : w1 = w.drew := hw
 subst hw
 refine Stab.op_plain (o := _) rfl rfl ?_
 have s13 := Stage.u 3 4 hd hk rfl [] (by kernel_rfl) rfl rfl rfl
 have s17 := Stage.u 7 0 hd hk rfl [] (by kernel_rfl) rfl rfl rfl
 clear hd
 go_simp
 go_at_call 85; refine (less_any _ _ _).mono ?_; rintro e w2 ⟨rfl, rfl⟩
 exact hK.out _ rfl _ _ rfl rfl)
 refine Stage.todo_facts (n := 28) (by kernel_rfl) hf.size hok.out rfl (by decide) (by decide) rfl (fun fr1 w1 hh hg hw => ?_)
 replace hw : w1 = w.drew := hw
 subst hw
 replace s1 := Stage.o hh (by kernel_rfl) s1
 replace s2 := Stage.o hh (by kernel_rfl) s2
 replace s3 := Stage.o hh (by kernel_rfl) s3
 replace s8 := Stage.o hh (by kernel_rfl) s8
 replace s9 := Stage.o hh (by kernel_rfl) s9
 have s18 := Stage.e 8 0 hg rfl rfl rfl rfl
 have hf1 : Fact.Fr 28 fr1 := ⟨hh.size.trans hf.size, hh.defers.trans hf.defers⟩
 clear hg hh hf s0
 have hf := hf1; clear hf1
 clear hok
 have hv : w.drew.heap[s]? = some (.cells #[Value.int .i64 v] 3 (0, 0)) := hv
 have ho := (Only.refl w s).drew
 clear cx cy h
 generalize w.drew = wd at *
 have cs := cell_of_row wd s 0 _ _ _ hv; simp only [List.getElem?_toArray, List.getElem?_cons_zero] at cs
 have fs : wd.frozen? ⟨s, 0, none⟩ = false := by simp [World.frozen?, hv]
 refine Fact.nx (hK8 _ _ ?_)
 rw [decide_eq_false hxy] at s18
 refine Fact.cond_f s18 ?_
 refine wp_skip ?_
 refine Fact.nx (hK7 _ _ ?_)
 refine wp_seq_k (fun K9 hK9 => ?_)
 refine Fact.region ?_
 have b26 := hf.l 26 rfl
 have b27 := hf.l 27 rfl
 refine Fact.p rfl fun K hK => ?_
 go_simp
 refine hK.out _ _ ?_; clear hK K
 refine Fact.p rfl fun K hK => ?_
 go_simp
 refine hK.out _ _ ?_; clear hK K
 refine Fact.p rfl fun K hK => ?_
 go_simp
 refine hK.out _ _ ?_; clear hK K
 refine Fact.p rfl fun K hK => ?_
 go_simp
 refine hK.out _ _ ?_; clear hK K
 refine Fact.nil ?_
 refine Fact.q hf (by simp only [Fact.G]) rfl fun fr1 hf1 hT => ?_
 have hKp : _ ∧ _ := ⟨hT 8, hT 9⟩
 simp only [Fact.G, Nat.reduceEqDiff, Nat.reduceLT, hf.size, reduceIte] at hKp
 clear hT hf s1 s2 s3 s8 s9 s18 b26 b27
 obtain ⟨s8, s9⟩ := hKp
 have hf := hf1; clear hf1
 refine Fact.nx (hK9 _ _ ?_)
 refine wp_ret ?_
 exact Fact.ret2 rfl hf s8 s9 ⟨a, b, rfl, .inl rfl, .inr rfl, ⟨_, hv⟩, ho⟩)
set_option maxHeartbeats 4000000 in
set_option maxRecDepth 100000 in
theorem med_any (zs : List Int) (g n cc a b c s : Nat) (w : World) (hn : zs.length = n) (ha : a < n) (hb : b < n) (hcn : c < n) (hgs : g ≠ s) (h : Arr w g zs) (hc : Cnt w s) : Calls Try.prog 96 #[.slice (some ⟨g, 0, none⟩) n cc, .int .i64 a, .int .i64 b, .int .i64 c, .pointer (some ⟨s, 0, none⟩)] w fun e w1 => ∃ x : Nat, e = .returned (.int .i64 x) ∧ (x = a ∨ x = b ∨ x = c) ∧ Cnt w1 s ∧ Only w w1 s := by
 refine calls_of_wp Try.func96 rfl ?_
 refine Fact.enter (n := 36) (by kernel_rfl) (fun fr hf hT => ?_)
 have s0 := hT 0 _ rfl
 have s1 := hT 1 _ rfl
 have s2 := hT 2 _ rfl
 have s3 := hT 3 _ rfl
 have s4 := hT 4 _ rfl
 clear hT
 refine wp_seq_k (fun K1 hK1 => ?_)
 refine Fact.region ?_
 refine Fact.p rfl fun K hK => ?_
 go_simp
 refine hK.out _ _ ?_; clear hK K
 refine Fact.nil ?_
 refine Fact.q hf (by simp only [Fact.G]) rfl fun fr1 hf1 hT => ?_
 have hKp : _ ∧ _ ∧ _ ∧ _ ∧ _ ∧ _ := ⟨hT 0, hT 1, hT 2, hT 3, hT 4, hT 10⟩
 simp only [Fact.G, Nat.reduceEqDiff, Nat.reduceLT, hf.size, reduceIte, s0, s1, s2, s3, s4] at hKp
 clear hT hf s0 s1 s2 s3 s4
 obtain ⟨s0, s1, s2, s3, s4, s10⟩ := hKp
 have hf := hf1; clear hf1
 refine Fact.nx (hK1 _ _ ?_)
 refine wp_seq_k (fun K2 hK2 => ?_)
 refine Fact.region ?_
 have b12 := hf.l 12 rfl
 have b13 := hf.l 13 rfl
 have b14 := hf.l 14 rfl
 have b15 := hf.l 15 rfl
 have b16 := hf.l 16 rfl
 have b11 := hf.l 11 rfl
 have b17 := hf.l 17 rfl
 have b18 := hf.l 18 rfl
 refine Fact.p rfl fun K hK => ?_
 go_simp
 refine hK.out _ _ ?_; clear hK K
 refine Fact.p rfl fun K hK => ?_
 go_simp
 refine hK.out _ _ ?_; clear hK K
 refine Fact.p rfl fun K hK => ?_
 go_simp
 refine hK.out _ _ ?_; clear hK K
 refine Fact.p rfl fun K hK => ?_
 go_simp
 refine hK.out _ _ ?_; clear hK K
 refine Fact.p rfl fun K hK => ?_
 go_simp
 go_at_call 98; refine (ord2_any zs g n cc a b s w hn ha hb h hc).mono ?_; rintro e w1 ⟨x1, y1, rfl, hx1, hy1, hc1, ho1⟩
 have h1 := h.only ho1 hgs
 dsimp only
 refine hK.out _ _ ?_; clear hK K
 refine Fact.p rfl fun K hK => ?_
 go_simp
 refine hK.out _ _ ?_; clear hK K
 refine Fact.p rfl fun K hK => ?_
 go_simp
 refine hK.out _ _ ?_; clear hK K
 refine Fact.p rfl fun K hK => ?_
 go_simp
 refine hK.out _ _ ?_; clear hK K
 refine Fact.p rfl fun K hK => ?_
 go_simp
 refine hK.out _ _ ?_; clear hK K
 refine Fact.p rfl fun K hK => ?_
 go_simp
 refine hK.out _ _ ?_; clear hK K
 refine Fact.nil ?_
 refine Fact.q hf (by simp only [Fact.G]) rfl fun fr1 hf1 hT => ?_
 have hKp : _ ∧ _ ∧ _ ∧ _ ∧ _ ∧ _ := ⟨hT 0, hT 1, hT 2, hT 3, hT 4, hT 10⟩
 simp only [Fact.G, Nat.reduceEqDiff, Nat.reduceLT, hf.size, reduceIte, s0, s3, s4, s10] at hKp
 clear hT hf s0 s1 s2 s3 s4 s10 b12 b13 b14 b15 b16 b11 b17 b18
 obtain ⟨s0, s1, s2, s3, s4, s10⟩ := hKp
 have hf := hf1; clear hf1
 refine Fact.nx (hK2 _ _ ?_)
 refine wp_seq_k (fun K3 hK3 => ?_)
 refine Fact.region ?_
 have b20 := hf.l 20 rfl
 have b21 := hf.l 21 rfl
 have b22 := hf.l 22 rfl
 have b23 := hf.l 23 rfl
 have b24 := hf.l 24 rfl
 have b19 := hf.l 19 rfl
 have b25 := hf.l 25 rfl
 have b26 := hf.l 26 rfl
 refine Fact.p rfl fun K hK => ?_
 go_simp
 refine hK.out _ _ ?_; clear hK K
 refine Fact.p rfl fun K hK => ?_
 go_simp
 refine hK.out _ _ ?_; clear hK K
 refine Fact.p rfl fun K hK => ?_
 go_simp
 refine hK.out _ _ ?_; clear hK K
 refine Fact.p rfl fun K hK => ?_
 go_simp
 refine hK.out _ _ ?_; clear hK K
 refine Fact.p rfl fun K hK => ?_
 go_simp
 go_at_call 98; refine (ord2_any zs g n cc y1 c s w1 hn (by omega) hcn h1 hc1).mono ?_; rintro e w2 ⟨x2, y2, rfl, hx2, hy2, hc2, ho2⟩
 have h2 := h1.only ho2 hgs
 dsimp only
 refine hK.out _ _ ?_; clear hK K
 refine Fact.p rfl fun K hK => ?_
 go_simp
 refine hK.out _ _ ?_; clear hK K
 refine Fact.p rfl fun K hK => ?_
 go_simp
 refine hK.out _ _ ?_; clear hK K
 refine Fact.p rfl fun K hK => ?_
 go_simp
 refine hK.out _ _ ?_; clear hK K
 refine Fact.p rfl fun K hK => ?_
 go_simp
 refine hK.out _ _ ?_; clear hK K
 refine Fact.p rfl fun K hK => ?_
 go_simp
 refine hK.out _ _ ?_; clear hK K
 refine Fact.nil ?_
 refine Fact.q hf (by simp only [Fact.G]) rfl fun fr1 hf1 hT => ?_
 have hKp : _ ∧ _ ∧ _ ∧ _ ∧ _ := ⟨hT 0, hT 1, hT 2, hT 4, hT 10⟩
 simp only [Fact.G, Nat.reduceEqDiff, Nat.reduceLT, hf.size, reduceIte, s0, s1, s4, s10] at hKp
 clear hT hf s0 s1 s2 s3 s4 s10 b20 b21 b22 b23 b24 b19 b25 b26
 obtain ⟨s0, s1, s2, s4, s10⟩ := hKp
 have hf := hf1; clear hf1
 refine Fact.nx (hK3 _ _ ?_)
 refine wp_seq_k (fun K4 hK4 => ?_)
 refine Fact.region ?_
 have b28 := hf.l 28 rfl
 have b29 := hf.l 29 rfl
 have b30 := hf.l 30 rfl
 have b31 := hf.l 31 rfl
 have b32 := hf.l 32 rfl
 have b27 := hf.l 27 rfl
 have b33 := hf.l 33 rfl
 have b34 := hf.l 34 rfl
 refine Fact.p rfl fun K hK => ?_
 go_simp
 refine hK.out _ _ ?_; clear hK K
 refine Fact.p rfl fun K hK => ?_
 go_simp
 refine hK.out _ _ ?_; clear hK K
 refine Fact.p rfl fun K hK => ?_
 go_simp
 refine hK.out _ _ ?_; clear hK K
 refine Fact.p rfl fun K hK => ?_
 go_simp
 refine hK.out _ _ ?_; clear hK K
 refine Fact.p rfl fun K hK => ?_
 go_simp
 go_at_call 98; refine (ord2_any zs g n cc x1 x2 s w2 hn (by omega) (by omega) h2 hc2).mono ?_; rintro e w3 ⟨x3, y3, rfl, hx3, hy3, hc3, ho3⟩
 dsimp only
 refine hK.out _ _ ?_; clear hK K
 refine Fact.p rfl fun K hK => ?_
 go_simp
 refine hK.out _ _ ?_; clear hK K
 refine Fact.p rfl fun K hK => ?_
 go_simp
 refine hK.out _ _ ?_; clear hK K
 refine Fact.p rfl fun K hK => ?_
 go_simp
 refine hK.out _ _ ?_; clear hK K
 refine Fact.p rfl fun K hK => ?_
 go_simp
 refine hK.out _ _ ?_; clear hK K
 refine Fact.p rfl fun K hK => ?_
 go_simp
 refine hK.out _ _ ?_; clear hK K
 refine Fact.nil ?_
 refine Fact.q hf (by simp only [Fact.G]) rfl fun fr1 hf1 hT => ?_
 have hKp : _ ∧ _ := ⟨hT 2, hT 10⟩
 simp only [Fact.G, Nat.reduceEqDiff, Nat.reduceLT, hf.size, reduceIte, s10] at hKp
 clear hT hf s0 s1 s2 s4 s10 b28 b29 b30 b31 b32 b27 b33 b34
 obtain ⟨s2, s10⟩ := hKp
 have hf := hf1; clear hf1
 refine Fact.nx (hK4 _ _ ?_)
 refine wp_seq_k (fun K5 hK5 => ?_)
 refine Fact.region ?_
 have b35 := hf.l 35 rfl
 refine Fact.p rfl fun K hK => ?_
 go_simp
 refine hK.out _ _ ?_; clear hK K
 refine Fact.p rfl fun K hK => ?_
 go_simp
 refine hK.out _ _ ?_; clear hK K
 refine Fact.nil ?_
 refine Fact.q hf (by simp only [Fact.G]) rfl fun fr1 hf1 hT => ?_
 have hKp := hT 10
 simp only [Fact.G, Nat.reduceEqDiff, Nat.reduceLT, hf.size, reduceIte] at hKp
 clear hT hf s2 s10 b35
 have s10 := hKp; clear hKp
 have hf := hf1; clear hf1
 refine Fact.nx (hK5 _ _ ?_)
 refine wp_ret ?_
 exact Fact.ret1 rfl hf s10 ⟨y3, rfl, by omega, hc3, (ho1.trans ho2).trans ho3⟩
set_option maxHeartbeats 4000000 in
set_option maxRecDepth 100000 in
theorem madj_any (zs : List Int) (g n c a s : Nat) (w : World) (hn : zs.length = n) (hnl : n ≤ 400000000) (ha0 : 1 ≤ a) (ha : a + 1 < n) (hgs : g ≠ s) (h : Arr w g zs) (hc : Cnt w s) : Calls Try.prog 95 #[.slice (some ⟨g, 0, none⟩) n c, .int .i64 a, .pointer (some ⟨s, 0, none⟩)] w fun e w1 => ∃ x : Nat, e = .returned (.int .i64 x) ∧ a ≤ x + 1 ∧ x ≤ a + 1 ∧ Cnt w1 s ∧ Only w w1 s := by
 refine calls_of_wp Try.func95 rfl ?_
 refine Fact.enter (n := 15) (by kernel_rfl) (fun fr hf hT => ?_)
 have s0 := hT 0 _ rfl
 have s1 := hT 1 _ rfl
 have s2 := hT 2 _ rfl
 clear hT
 obtain ⟨q, rfl⟩ : ∃ q, a = q + 1 := ⟨a - 1, by omega⟩
 have e1 : IntKind.i64.wrap ((q : Int) + 1 - 1) = (q : Int) := by rw [Fact.wrap_i64 (by omega) (by omega)]; omega
 have e2 : IntKind.i64.wrap (q : Int) = (q : Int) := Fact.wrap_i64 (by omega) (by omega)
 have e3 : IntKind.i64.wrap ((q : Int) + 1 + 1) = ((q + 2 : Nat) : Int) := by rw [Fact.wrap_i64 (by omega) (by omega)]; omega
 refine wp_seq_k (fun K1 hK1 => ?_)
 refine Fact.region ?_
 refine Fact.p rfl fun K hK => ?_
 go_simp
 refine hK.out _ _ ?_; clear hK K
 refine Fact.nil ?_
 refine Fact.q hf (by simp only [Fact.G]) rfl fun fr1 hf1 hT => ?_
 have hKp : _ ∧ _ ∧ _ ∧ _ := ⟨hT 0, hT 1, hT 2, hT 6⟩
 simp only [Fact.G, Nat.reduceEqDiff, Nat.reduceLT, hf.size, reduceIte, s0, s1, s2] at hKp
 clear hT hf s0 s1 s2
 obtain ⟨s0, s1, s2, s6⟩ := hKp
 have hf := hf1; clear hf1
 refine Fact.nx (hK1 _ _ ?_)
 refine wp_seq_k (fun K2 hK2 => ?_)
 refine Fact.region ?_
 have b7 := hf.l 7 rfl
 have b8 := hf.l 8 rfl
 have b9 := hf.l 9 rfl
 have b10 := hf.l 10 rfl
 have b11 := hf.l 11 rfl
 have b12 := hf.l 12 rfl
 have b13 := hf.l 13 rfl
 have b14 := hf.l 14 rfl
 refine Fact.p rfl fun K hK => ?_
 go_simp
 refine hK.out _ _ ?_; clear hK K
 refine Fact.p rfl fun K hK => ?_
 go_simp
 refine hK.out _ _ ?_; clear hK K
 refine Fact.p rfl fun K hK => ?_
 go_simp
 try simp (disch := omega) only [Fact.wrap_i64, Fact.wrap_u8, Fact.wrap_u32, Fact.wrap_u64]
 refine hK.out _ _ ?_; clear hK K
 refine Fact.p rfl fun K hK => ?_
 go_simp
 refine hK.out _ _ ?_; clear hK K
 refine Fact.p rfl fun K hK => ?_
 go_simp
 refine hK.out _ _ ?_; clear hK K
 refine Fact.p rfl fun K hK => ?_
 go_simp
 try simp (disch := omega) only [Fact.wrap_i64, Fact.wrap_u8, Fact.wrap_u32, Fact.wrap_u64]
 refine hK.out _ _ ?_; clear hK K
 refine Fact.p rfl fun K hK => ?_
 go_simp
 refine hK.out _ _ ?_; clear hK K
 refine Fact.p rfl fun K hK => ?_
 go_simp
 go_at_call 96; refine (med_any zs g n c q (q + 1) (q + 2) s w hn (by omega) (by omega) (by omega) hgs h hc).mono ?_; rintro e w1 ⟨x, rfl, hx, hc1, ho1⟩
 dsimp only
 refine hK.out _ _ ?_; clear hK K
 refine Fact.p rfl fun K hK => ?_
 go_simp
 refine hK.out _ _ ?_; clear hK K
 refine Fact.nil ?_
 refine Fact.q hf (by simp only [Fact.G]) rfl fun fr1 hf1 hT => ?_
 have hKp := hT 6
 simp only [Fact.G, Nat.reduceEqDiff, Nat.reduceLT, hf.size, reduceIte] at hKp
 clear hT hf s0 s1 s2 s6 b7 b8 b9 b10 b11 b12 b13 b14
 have s6 := hKp; clear hKp
 have hf := hf1; clear hf1
 refine Fact.nx (hK2 _ _ ?_)
 refine wp_ret ?_
 exact Fact.ret1 rfl hf s6 ⟨x, rfl, by omega, by omega, hc1, ho1⟩
end Sb
end Go.Proofs.Ytfgfichkcckhiaa
