/- pack: char, num. -/
import Derived.Test.YtcddnmhmcieebaaGreatDoorY14
import Derived.Test.YtcddnmhmcieebaaGreatDoorTools
namespace Go.Proofs.YtcddnmhmcieebaaGreatDoor
set_option maxHeartbeats 4000000
set_option maxRecDepth 100000
open Go.RowKit
set_option linter.unusedSimpArgs false
set_option linter.unusedVariables false
set_option linter.unnecessarySimpa false
namespace Dw
theorem call_enter {P : Program} {f : FuncId} {fn : Func} {c : Code} (hf : P.funcs[f]? = some fn) (hn : (fn.name == "runtime.NumGoroutine") = false) (hb : fn.body = some c) (xs : Array Value) (w1 : World) : (callFunc f xs).run P w1 = .ok (.enter f xs) w1 := by
 have hn2 : ¬ fn.name = "runtime.NumGoroutine" := by simpa using hn
 simp [callFunc, program, Sem.run, hf, hn2, hb]
theorem call73 (xs : Array Value) (w1 : World) : (callFunc 99 xs).run Tryz.prog w1 = .ok (.enter 99 xs) w1 := call_enter Tryz.func99 (by kernel_rfl) rfl xs w1
theorem call74 (xs : Array Value) (w1 : World) : (callFunc 100 xs).run Tryz.prog w1 = .ok (.enter 100 xs) w1 := call_enter Tryz.func100 (by kernel_rfl) rfl xs w1
theorem call50 (xs : Array Value) (w1 : World) : (callFunc 58 xs).run Tryz.prog w1 = .ok (.enter 58 xs) w1 := call_enter Tryz.func58 (by kernel_rfl) rfl xs w1
theorem app12 (a b c : Value) : (#[a] ++ #[b, c] : Array Value) = #[a, b, c] := rfl
theorem app11 (a b : Value) : (#[a] ++ #[b] : Array Value) = #[a, b] := rfl
theorem app10 (a : Value) : (#[a] ++ #[] : Array Value) = #[a] := rfl
theorem ThR.good {w w1 : World} {e : Ending} {k : IntKind} {r : Nat × Nat × Nat} {c2 i g : Nat} {s : ByteArray} (h : ThR w w1 e k r c2 i g s) (hg : r.2.2 = 0 /\ c2 = 0) : e = .returned (.int k r.1) /\ RD w1 g s r.2.1 /\ But (fun k => k = g) w w1 := by
 unfold ThR at h
 rw [if_neg (by simp [hg.1]), if_neg (by simp [hg.2])] at h
 exact h
theorem ThR.bad {w w1 : World} {e : Ending} {k : IntKind} {r : Nat × Nat × Nat} {c2 i g : Nat} {s : ByteArray} (h : ThR w w1 e k r c2 i g s) (hg : ¬ (r.2.2 = 0 /\ c2 = 0)) : Pan w w1 e (if r.2.2 ≠ 0 then r.2.2 else c2 : Nat) i := by
 unfold ThR at h
 split at h
 ·rename_i h1; rw [if_pos h1]; exact h
 ·rename_i h1
  rw [if_neg h1]
  rw [if_pos (by intro e; exact hg ⟨by simpa using h1, e⟩)] at h
  exact h
theorem ThR.back {w w0 w1 : World} {e : Ending} {k : IntKind} {r : Nat × Nat × Nat} {c2 i g : Nat} {s : ByteArray} (hb : Below w.heap.size w w0) (h : ThR w0 w1 e k r c2 i g s) : ThR w w1 e k r c2 i g s := by
 unfold ThR at h |-
 split
 ·rename_i h1; rw [if_pos h1] at h; exact Pan.via hb h
 ·rename_i h1
  rw [if_neg h1] at h
  split
  ·rename_i h2; rw [if_pos h2] at h; exact Pan.via hb h
  ·rename_i h2
   rw [if_neg h2] at h
   exact ⟨h.1, h.2.1, (But.of _ hb).trans h.2.2⟩
theorem char49 (w : World) (g : Nat) (s : ByteArray) (i : Nat) (hr : RD w g s i) (hi : i <= s.size) (hsz : s.size <= 1000000000) (fq : FuncId) (capq : Array Value) (c2 : Nat) (hcf : ∀ (xs : Array Value) (w1 : World), (callFunc fq xs).run Tryz.prog w1 = .ok (.enter fq xs) w1) (hq9 : ∀ w1, Below w.heap.size w w1 -> (charN s i).2.2 = 0 -> Calls Tryz.prog fq (#[.int .u8 (charN s i).1] ++ capq) w1 fun e w2 => e = .returned (.int .i64 c2) /\ Below w1.heap.size w1 w2) : Calls Tryz.prog 57 #[.pointer (some ⟨g, 0, none⟩), .func (.func fq) #[] capq] w fun e w1 => ThR w w1 e .u8 (charN s i) c2 i g s := by
 refine Zn2 9 Tryz.func57 fun fr hf s0 s1 => ?_
 by_cases hbd : (charN s i).2.2 = 0 /\ c2 = 0
 . (
 refine Ze fun _ hK1 => Zr [] hf ?_
 refine Zq2 1 2 hf ?_
 clear hf s0 s1; intro fr1 hf sS
 generalize hW0 : w.alloc (.cells #[.pointer (some ⟨g, 0, none⟩)] 82) = W0
 obtain ⟨hb0, c0, -, -⟩ := box1 hW0
 clear hW0
 have hr0 := hr.later hb0
 refine Zt hK1 fun _ hK2 => ?_
 have bB := hf.B4 5 6 7 8
 iterate 3 refine Zy ?_
 refine Zc (thing68 W0 w.heap.size g s i c0 hr0 hi hsz fq capq c2 hcf (fun w1 h1 h2 => hq9 w1 (hb0.trans (h1.mono hb0.size)) h2)) ?_; rintro e w1 hth
 obtain ⟨rfl, h2, h3⟩ := hth.good hbd
 refine Zv ?_
 refine Zy ?_
 refine Fact.nil (Zq1 4 hf ?_)
 clear hf sS bB; intro fr1 hf s4
 refine Zx hK2 (Zret ?_)
 exact Fact.ret1 rfl hf s4 (ThR.back hb0 hth))
 . (
 refine Ze fun _ hK3 => Zr [] hf ?_
 refine Zq2 1 2 hf ?_
 clear hf s0 s1; intro fr1 hf sS
 generalize hW0 : w.alloc (.cells #[.pointer (some ⟨g, 0, none⟩)] 82) = W0
 obtain ⟨hb0, c0, -, -⟩ := box1 hW0
 clear hW0
 have hr0 := hr.later hb0
 refine Zt hK3 fun _ hK4 => ?_
 have bB := hf.B4 5 6 7 8
 iterate 3 refine Zy ?_
 refine fp fun K Z => ?_
 go_simp
 go_at_call 94; refine (thing68 W0 w.heap.size g s i c0 hr0 hi hsz fq capq c2 hcf (fun w1 h1 h2 => hq9 w1 (hb0.trans (h1.mono hb0.size)) h2)).mono ?_; rintro e w1 hth
 obtain ⟨q, rfl, h2, h3, h4⟩ := hth.bad hbd
 try dsimp only
 try dsimp only
 exact pan9 hf.defers (ThR.back hb0 hth))
theorem num51 (w : World) (g : Nat) (s : ByteArray) (i : Nat) (hr : RD w g s i) (hi : i <= s.size) (hsz : s.size <= 1000000000) (lo hi9 : Nat) : Calls Tryz.prog 59 #[.pointer (some ⟨g, 0, none⟩), .int .u64 lo, .int .u64 hi9] w fun e w1 => ThR w w1 e .u64 (getN (wl s) i) (rangeN lo hi9 (getN (wl s) i).1) i g s := by
 refine Zn3 11 Tryz.func59 fun fr hf s0 s1 s2 => ?_
 generalize hc2 : rangeN lo hi9 (getN (wl s) i).1 = c2
 have HC2 := Lib.hid hc2; clear hc2
 by_cases hbd : (getN (wl s) i).2.2 = 0 /\ c2 = 0
 . (
 refine Ze fun _ hK1 => Zr [] hf ?_
 refine Zq3 3 4 5 hf ?_
 clear hf s0 s1 s2; intro fr1 hf sS
 generalize hW0 : w.alloc (.cells #[.pointer (some ⟨g, 0, none⟩)] 82) = W0
 obtain ⟨hba, c0, -, hza⟩ := box1 hW0
 clear hW0
 obtain ⟨s3, s4, s5⟩ := sS
 rw [<- hza] at s4 s5
 clear hza
 generalize hW1 : W0.alloc (.cells #[.int .u64 lo] 35) = W1
 obtain ⟨hbb, c1, -, hzb⟩ := box1 hW1
 clear hW1
 rw [<- hzb] at s5
 clear hzb
 generalize hW2 : W1.alloc (.cells #[.int .u64 hi9] 35) = W2
 obtain ⟨hbc, d2, -, -⟩ := box1 hW2
 clear hW2
 replace c1 := cL hbc c1
 replace c0 := cL hbc (cL hbb c0)
 have hb0 := (hba.trans (hbb.mono hba.size)).trans (hbc.mono (Nat.le_trans hba.size hbb.size))
 have hr0 := hr.later hb0
 refine Zt hK1 fun _ hK2 => ?_
 have bB := hf.B4 7 8 9 10
 iterate 3 refine Zy ?_
 refine Zc (thing70 W2 w.heap.size g s i c0 hr0 hi hsz 99 #[.pointer (some ⟨W0.heap.size, 0, none⟩), .pointer (some ⟨W1.heap.size, 0, none⟩)] c2 call73 (fun w1 h1 _ => by rw [app12, <- HC2.out]; exact num73 w1 _ lo hi9 _ _ (cL h1 c1) (cL h1 d2))) ?_; rintro e w1 hth
 obtain ⟨rfl, h2, h3⟩ := hth.good hbd
 refine Zv ?_
 refine Zy ?_
 refine Fact.nil (Zq1 6 hf ?_)
 clear hf s3 s4 s5 bB; intro fr1 hf s6
 refine Zx hK2 (Zret ?_)
 exact Fact.ret1 rfl hf s6 (ThR.back hb0 hth))
 . (
 refine Ze fun _ hK3 => Zr [] hf ?_
 refine Zq3 3 4 5 hf ?_
 clear hf s0 s1 s2; intro fr1 hf sS
 generalize hW0 : w.alloc (.cells #[.pointer (some ⟨g, 0, none⟩)] 82) = W0
 obtain ⟨hba, c0, -, hza⟩ := box1 hW0
 clear hW0
 obtain ⟨s3, s4, s5⟩ := sS
 rw [<- hza] at s4 s5
 clear hza
 generalize hW1 : W0.alloc (.cells #[.int .u64 lo] 35) = W1
 obtain ⟨hbb, c1, -, hzb⟩ := box1 hW1
 clear hW1
 rw [<- hzb] at s5
 clear hzb
 generalize hW2 : W1.alloc (.cells #[.int .u64 hi9] 35) = W2
 obtain ⟨hbc, d2, -, -⟩ := box1 hW2
 clear hW2
 replace c1 := cL hbc c1
 replace c0 := cL hbc (cL hbb c0)
 have hb0 := (hba.trans (hbb.mono hba.size)).trans (hbc.mono (Nat.le_trans hba.size hbb.size))
 have hr0 := hr.later hb0
 refine Zt hK3 fun _ hK4 => ?_
 have bB := hf.B4 7 8 9 10
 iterate 3 refine Zy ?_
 refine fp fun K Z => ?_
 go_simp
 go_at_call 96; refine (thing70 W2 w.heap.size g s i c0 hr0 hi hsz 99 #[.pointer (some ⟨W0.heap.size, 0, none⟩), .pointer (some ⟨W1.heap.size, 0, none⟩)] c2 call73 (fun w1 h1 _ => by rw [app12, <- HC2.out]; exact num73 w1 _ lo hi9 _ _ (cL h1 c1) (cL h1 d2))).mono ?_; rintro e w1 hth
 obtain ⟨q, rfl, h2, h3, h4⟩ := hth.bad hbd
 try dsimp only
 try dsimp only
 exact pan9 hf.defers (ThR.back hb0 hth))
abbrev Bad := Nat × Nat
def stepN (r : Nat × Nat × Nat) (c2 i : Nat) : Except Bad (Nat × Nat) := if r.2.2 ≠ 0 then .error (r.2.2, i) else if c2 ≠ 0 then .error (c2, i) else .ok (r.1, r.2.1)
def pNum (s : ByteArray) (lo hi i : Nat) : Except Bad (Nat × Nat) := stepN (getN (wl s) i) (rangeN lo hi (getN (wl s) i).1) i
def pChar (s : ByteArray) (i : Nat) : Except Bad (Nat × Nat) := stepN (charN s i) 0 i
def pMag (s : ByteArray) (k i : Nat) : Except Bad (Nat × Nat) := stepN (charN s i) (kindN k (charN s i).1) i
def pArcs (s : ByteArray) (i : Nat) : Nat -> Nat -> List Arc -> Except Bad (List Arc × Nat)
 | 0, p, acc => .ok (acc, p)
 | k + 1, p, acc => match pChar s p with
  | .error b => .error b
  | .ok (c, p1) => match pNum s 0 18446744073709551615 p1 with
   | .error b => .error b
   | .ok (o, p2) => match pNum s 1 i p2 with
    | .error b => .error b
    | .ok (d, p3) => pArcs s i k p3 (acc ++ [⟨c, o, ((i - d : Nat) : Int)⟩])
def pOut (s : ByteArray) (n p : Nat) : Except Bad (Nat × Nat) := if n % 2 = 1 then pNum s 0 18446744073709551615 p else .ok (0, p)
def pMk (n o : Nat) : Except Bad (List Arc × Nat) -> Except Bad (State × Nat)
 | .error b => .error b
 | .ok (l, p) => .ok ({ arcs := l, final := decide (n % 2 = 1), out := o }, p)
def pState (s : ByteArray) (i p : Nat) : Except Bad (State × Nat) := match pNum s 0 513 p with
 | .error b => .error b
 | .ok (n, p1) => match pOut s n p1 with
  | .error b => .error b
  | .ok (o, p2) => pMk n o (pArcs s i (n / 2) p2 [])
def pStates (s : ByteArray) : Nat -> Nat -> Nat -> List State -> Except Bad (List State × Nat)
 | 0, _, p, acc => .ok (acc, p)
 | k + 1, i, p, acc => match pState s i p with
  | .error b => .error b
  | .ok (st, p1) => pStates s k (i + 1) p1 (acc ++ [st])
def pMagic (s : ByteArray) : Nat -> Nat -> Nat -> Except Bad Nat
 | 0, _, p => .ok p
 | m + 1, k, p => match pMag s k p with
  | .error b => .error b
  | .ok (_, p1) => pMagic s m (k + 1) p1
def pAll (s : ByteArray) : Except Bad (Nat × Nat × List State) := match pMagic s 3 0 0 with
 | .error b => .error b
 | .ok p => match pNum s 0 100000 p with
  | .error b => .error b
  | .ok (en, p1) => match pNum s 1 18446744073709551615 p1 with
   | .error b => .error b
   | .ok (n, p2) => match pStates s n 0 p2 [] with
    | .error b => .error b
    | .ok (ss, p3) => match pNum s 0 18446744073709551615 p3 with
     | .error b => .error b
     | .ok (init, p4) => if p4 < s.size then .error (4, p4) else .ok (en, init, ss)
def PanG (w w1 : World) (e : Ending) (g : Nat) (b : Bad) : Prop := ∃ q, e = .panicked [{ v := .iface 77 (.pointer (some ⟨q, 0, none⟩)), recovered := false }] /\ w.heap.size <= q /\ w1.heap[q]? = some (.cells #[.int .i64 b.1, .int .i64 b.2] 134 (0, 0)) /\ But (fun k => k = g) w w1
theorem Pan.g {w w1 : World} {e : Ending} {g c a : Nat} (h : Pan w w1 e c a) : PanG w w1 e g (c, a) := by
 obtain ⟨q, h1, h2, h3, h4⟩ := h
 exact ⟨q, h1, h2, h3, But.of _ h4⟩
theorem PanG.via {w w1 w2 : World} {e : Ending} {g : Nat} {b : Bad} (hb : But (fun k => k = g \/ w.heap.size <= k) w w2) (h : PanG w2 w1 e g b) : PanG w w1 e g b := by
 obtain ⟨q, h1, h2, h3, h4⟩ := h
 exact ⟨q, h1, Nat.le_trans hb.size h2, h3, (hb.trans (h4.mono (fun k _ hk => .inl hk))).mono (fun k hk h => h.elim id (fun h => by omega))⟩
def ResR (w w1 : World) (e : Ending) (k : IntKind) (g : Nat) (s : ByteArray) : Except Bad (Nat × Nat) -> Prop
 | .error b => PanG w w1 e g b
 | .ok (x, j) => e = .returned (.int k x) /\ RD w1 g s j /\ But (fun k => k = g) w w1
theorem ThR.res {w w1 : World} {e : Ending} {k : IntKind} {r : Nat × Nat × Nat} {c2 i g : Nat} {s : ByteArray} (h : ThR w w1 e k r c2 i g s) : ResR w w1 e k g s (stepN r c2 i) := by
 unfold ThR at h
 unfold stepN
 split at h
 ·rename_i h1; rw [if_pos h1]; exact Pan.g h
 ·rename_i h1
  rw [if_neg h1]
  split at h
  ·rename_i h2; rw [if_pos h2]; exact Pan.g h
  ·rename_i h2; rw [if_neg h2]; exact h
theorem num51' (w : World) (g : Nat) (s : ByteArray) (i : Nat) (hr : RD w g s i) (hi : i <= s.size) (hsz : s.size <= 1000000000) (lo hi9 : Nat) : Calls Tryz.prog 59 #[.pointer (some ⟨g, 0, none⟩), .int .u64 lo, .int .u64 hi9] w fun e w1 => ResR w w1 e .u64 g s (pNum s lo hi9 i) :=
 (num51 w g s i hr hi hsz lo hi9).mono fun e w1 h => h.res
theorem char49' (w : World) (g : Nat) (s : ByteArray) (i : Nat) (hr : RD w g s i) (hi : i <= s.size) (hsz : s.size <= 1000000000) : Calls Tryz.prog 57 #[.pointer (some ⟨g, 0, none⟩), .func (.func 100) #[] #[]] w fun e w1 => ResR w w1 e .u8 g s (pChar s i) :=
 (char49 w g s i hr hi hsz 100 #[] 0 call74 (fun w1 _ _ => by rw [app10]; exact state74 w1 _)).mono fun e w1 h => h.res
theorem mag49 (w : World) (g : Nat) (s : ByteArray) (i : Nat) (hr : RD w g s i) (hi : i <= s.size) (hsz : s.size <= 1000000000) (k p : Nat) (hk : k < 3) (hp : w.cell? ⟨p, 0, none⟩ = some (.int .i64 k)) : Calls Tryz.prog 57 #[.pointer (some ⟨g, 0, none⟩), .func (.func 58) #[] #[.pointer (some ⟨p, 0, none⟩)]] w fun e w1 => ResR w w1 e .u8 g s (pMag s k i) :=
 (char49 w g s i hr hi hsz 58 #[.pointer (some ⟨p, 0, none⟩)] _ call50 (fun w1 hb _ => by rw [app11]; exact all50 w1 _ k p hk (cL hb hp))).mono fun e w1 h => h.res
/-! where readings end -/
theorem getN_ok {s : List Nat} (hs : Small s) {i n j : Nat} (h : getN s i = (n, j, 0)) : i < j /\ j <= s.length /\ n < M64 := by
 obtain ⟨h1, h2, h3⟩ := getN_canon hs h
 have h4 := (numB_le h1).1
 have h5 := congrArg List.length h2
 rw [List.length_append, List.length_drop, List.length_drop] at h5
 omega
theorem pNum_ok {s : ByteArray} {lo hi i n j : Nat} (h : pNum s lo hi i = .ok (n, j)) : i < j /\ j <= s.size /\ n < M64 /\ lo <= n /\ n <= hi /\ getN (wl s) i = (n, j, 0) := by
 unfold pNum stepN at h
 split at h
 ·cases h
 ·rename_i h1
  split at h
  ·cases h
  ·rename_i h2
   injection h with h
   injection h with h3 h4
   have hg : getN (wl s) i = (n, j, 0) := by
    obtain ⟨a, b, c⟩ : ∃ x, getN (wl s) i = x := ⟨_, rfl⟩
    rw [<- h3, <- h4]
    exact Prod.ext rfl (Prod.ext rfl (by simpa using h1))
   have h5 := getN_ok (wl_lt s) hg
   rw [wl_length] at h5
   have h6 : ¬ (n < lo \/ hi < n) := by
    intro h7
    apply h2
    unfold rangeN
    rw [h3, if_pos h7]
    decide
   exact ⟨h5.1, h5.2.1, h5.2.2, by omega, by omega, hg⟩
theorem pChar_ok {s : ByteArray} {i x j : Nat} (hi : i <= s.size) (h : pChar s i = .ok (x, j)) : j = i + 1 /\ j <= s.size /\ x < 256 /\ (wl s)[i]? = some x := by
 unfold pChar stepN charN at h
 by_cases h2 : i = s.size
 ·rw [if_pos h2] at h; simp at h
 ·rw [if_neg h2] at h
  simp at h
  refine ⟨h.2.symm, by omega, by rw [<- h.1]; exact at_lt s i, by rw [<- h.1]; exact wl_at (by omega)⟩
theorem info_arc : (Tryz.prog.info? 71).map (fun i => (i.zero, i.size, i.bytes)) = some (some (.agg #[.int .u8 0, .int .u64 0, .int .i64 0]), 3, 24) := by kernel_rfl
theorem tmod_dec (n : Nat) : (((n : Nat) : Int).tmod 2 == 1) = decide (n % 2 = 1) := by
 have h : ((n : Nat) : Int).tmod 2 = ((n % 2 : Nat) : Int) := (Int.ofNat_tmod n 2).symm
 rw [h]
 rcases Nat.mod_two_eq_zero_or_one n with h | h <;> rw [h] <;> rfl
def StR (w w1 : World) (e : Ending) (g : Nat) (s : ByteArray) : Except Bad (State × Nat) -> Prop
 | .error b => PanG w w1 e g b
 | .ok (st, j) => ∃ av, e = .returned (.agg #[av, .bool st.final, .int .u64 st.out]) /\ RD w1 g s j /\ OA w1 w.heap.size av st.arcs /\ But (fun k => k = g) w w1
theorem state52 (w : World) (g : Nat) (s : ByteArray) (p : Nat) (hr : RD w g s p) (hi : p <= s.size) (hsz : s.size <= 1000000000) (i : Nat) (hi9 : i <= 1000000000) : Calls Tryz.prog 60 #[.pointer (some ⟨g, 0, none⟩), .int .u64 i] w fun e w1 => StR w w1 e g s (pState s i p) := by
 refine Zn2 43 Tryz.func60 fun fr hf s0 s1 => ?_
 generalize hps : pState s i p = r
 have HPS := Lib.hid hps; clear hps
 have hgl := heap_lt hr
 rcases hpz : pNum s 0 513 p with bz | ⟨n, p1⟩
 . (
 have HPZ := Lib.hid hpz; clear hpz
 have he : r = .error bz := by rw [<- HPS.out]; unfold pState; rw [HPZ.out]
 subst he
 refine Ze fun _ hK1 => Zr [] hf ?_
 refine Zq3 0 1 4 hf ?_
 clear hf s0 s1; intro fr1 hf sS
 generalize hW0 : w.alloc (.cells #[.slice none 0 0, .bool false, .int .u64 0] 46) = W0
 have hbz0 : Below w.heap.size w W0 := by rw [<- hW0]; exact (Below.refl _ _).alloc (Nat.le_refl _) _
 have hx0 : W0.heap[w.heap.size]? = some (.cells #[.slice none 0 0, .bool false, .int .u64 0] 46 (0, 0)) := by rw [<- hW0]; exact heap_alloc_new w _
 clear hW0
 have hr0 := hr.later hbz0
 have hbt0 : But (fun k => k = g \/ w.heap.size <= k) w W0 := But.of _ hbz0
 clear hr hbz0
 refine Zt hK1 fun _ hK2 => ?_
 have bB := hf.B2 7 8
 refine Zy ?_
 refine fp fun K Z => ?_
 go_simp
 go_at_call 59; refine (num51' W0 g s p hr0 hi hsz 0 513).mono ?_; rintro e wz hres
 rw [HPZ.out] at hres
 obtain ⟨q, rfl, hz2, hz3, hz4⟩ := hres
 try dsimp only
 try dsimp only
 exact pan9 hf.defers (PanG.via hbt0 ⟨q, rfl, hz2, hz3, hz4⟩))
 . (
 have HP1 := Lib.hid hpz; clear hpz
 refine Ze fun _ hK3 => Zr [] hf ?_
 refine Zq3 0 1 4 hf ?_
 clear hf s0 s1; intro fr1 hf sS
 generalize hW0 : w.alloc (.cells #[.slice none 0 0, .bool false, .int .u64 0] 46) = W0
 have hbz0 : Below w.heap.size w W0 := by rw [<- hW0]; exact (Below.refl _ _).alloc (Nat.le_refl _) _
 have hx0 : W0.heap[w.heap.size]? = some (.cells #[.slice none 0 0, .bool false, .int .u64 0] 46 (0, 0)) := by rw [<- hW0]; exact heap_alloc_new w _
 clear hW0
 have hr0 := hr.later hbz0
 have hbt0 : But (fun k => k = g \/ w.heap.size <= k) w W0 := But.of _ hbz0
 clear hr hbz0
 refine Zt hK3 fun _ hK4 => ?_
 have bB := hf.B2 7 8
 refine Zy ?_
 refine Zc (num51' W0 g s p hr0 hi hsz 0 513) ?_; rintro e w1 hres
 rw [HP1.out] at hres
 obtain ⟨rfl, hr1, hb1⟩ := hres
 refine Zv ?_
 refine Zy ?_
 refine Fact.nil (Zq4 0 1 4 5 hf ?_)
 clear hf sS bB; intro fr1 hf sS
 have hk1 := pNum_ok HP1.out
 have hx1 := hb1.heap hx0 (by intro e; have e : w.heap.size = g := e; omega)
 have hbt1 : But (fun k => k = g \/ w.heap.size <= k) w w1 := hbt0.trans (hb1.mono (fun k _ h => .inl h))
 have hn513 : n <= 513 := hk1.2.2.2.2.1
 have e1 : w1.cell? ⟨w.heap.size, 1, none⟩ = some (.bool false) := by rw [cell_of_row _ _ 1 _ _ (0, 0) hx1]; rfl
 have fz := frozen_of (i := 1) hx1
 clear hr0 hx0 hb1
 refine Zx hK4 (Fact.seq_meet (fun fr wq => ∃ (o p2 : Nat), Fact.Fr 43 fr /\ fr.tmps[0]? = some (.pointer (some ⟨g, 0, none⟩)) /\ fr.tmps[1]? = some (.int .u64 i) /\ fr.tmps[4]? = some (.pointer (some ⟨w.heap.size, 0, none⟩)) /\ fr.tmps[5]? = some (.int .u64 n) /\ pOut s n p1 = .ok (o, p2) /\ RD wq g s p2 /\ p2 <= s.size /\ wq.heap[w.heap.size]? = some (.cells #[.slice none 0 0, .bool (decide (n % 2 = 1)), .int .u64 o] 46 (0, 0)) /\ But (fun k => k = g \/ w.heap.size <= k) w wq) ?_ ?_)
 . (
 refine Ze fun _ hK5 => rg ?_
 have bB := hf.B4 9 10 11 12
 iterate 2 refine Zy ?_
 refine fp fun K Z => ?_
 go_simp
 rw [tmod_dec]
 apply Z.out; clear Z K
 iterate 2 refine Zy ?_
 refine Fact.nil (Zq4 0 1 4 5 hf ?_)
 clear hf sS bB; intro fr1 hf sS
 generalize hW2 : w1.setCell ⟨w.heap.size, 1, none⟩ (.bool (decide (n % 2 = 1))) = W2
 have hx2 := set_block (i := 1) hx1 (.bool (decide (n % 2 = 1)))
 have hr2 : RD (w1.setCell ⟨w.heap.size, 1, none⟩ (.bool (decide (n % 2 = 1)))) g s _ := (But.setCell (S := fun k => k = w.heap.size) (p := ⟨w.heap.size, 1, none⟩) rfl _).heap hr1 (by intro e; have e : g = w.heap.size := e; omega)
 have hbt2 : But (fun k => k = g \/ w.heap.size <= k) w (w1.setCell ⟨w.heap.size, 1, none⟩ (.bool (decide (n % 2 = 1)))) := hbt1.trans (But.setCell (.inr (Nat.le_refl _)) _)
 rw [hW2] at hx2 hr2 hbt2
 try rw [hW2] at hoa2
 clear hW2
 simp only [List.setIfInBounds_toArray, List.set_cons_zero, List.set_cons_succ] at hx2
 clear e1 fz hx1 hr1 hbt1
 refine Zx hK5 ?_
 have e2 : W2.cell? ⟨w.heap.size, 1, none⟩ = some (.bool (decide (n % 2 = 1))) := by rw [cell_of_row _ _ 1 _ _ (0, 0) hx2]; rfl
 refine Ze fun _ hK6 => Zr [13] hf ?_
 refine Zq5 0 1 4 5 14 hf ?_
 clear hf sS; intro fr1 hf sS
 refine Zx hK6 (Fact.cond_s sS.2.2.2.2 (fun hq => ?_) (fun hq => ?_))
 . (
 have hodd : n % 2 = 1 := of_decide_eq_true hq
 clear hq
 rcases hpz : pNum s 0 18446744073709551615 p1 with bz | ⟨o, p2⟩
 . (
 have HPZ := Lib.hid hpz; clear hpz
 have hpo : pOut s n p1 = .error bz := by unfold pOut; rw [if_pos hodd]; exact HPZ.out
 have he : r = .error bz := by rw [<- HPS.out]; unfold pState; simp only [HP1.out, hpo]
 subst he
 refine rg ?_
 have bB := hf.B3 15 16 17
 refine Zy ?_
 refine fp fun K Z => ?_
 go_simp
 go_at_call 59; refine (num51' W2 g s p1 hr2 hk1.2.1 hsz 0 18446744073709551615).mono ?_; rintro e wz hres
 rw [HPZ.out] at hres
 obtain ⟨q, rfl, hz2, hz3, hz4⟩ := hres
 try dsimp only
 try dsimp only
 exact pan9 hf.defers (PanG.via hbt2 ⟨q, rfl, hz2, hz3, hz4⟩))
 . (
 have HP2 := Lib.hid hpz; clear hpz
 refine rg ?_
 have bB := hf.B3 15 16 17
 refine Zy ?_
 refine Zc (num51' W2 g s p1 hr2 hk1.2.1 hsz 0 18446744073709551615) ?_; rintro e w3 hres
 rw [HP2.out] at hres
 obtain ⟨rfl, hr3, hb3⟩ := hres
 have hx3 := hb3.heap hx2 (by intro e; have e : w.heap.size = g := e; omega)
 have hbt3 : But (fun k => k = g \/ w.heap.size <= k) w w3 := hbt2.trans (hb3.mono (fun k _ h => .inl h))
 have e3 : w3.cell? ⟨w.heap.size, 2, none⟩ = some (.int .u64 0) := by rw [cell_of_row _ _ 2 _ _ (0, 0) hx3]; rfl
 have fz := frozen_of (i := 2) hx3
 refine Zv ?_
 iterate 2 refine Zy ?_
 refine Fact.nil (Zq4 0 1 4 5 hf ?_)
 clear hf sS bB; intro fr1 hf sS
 generalize hW4 : w3.setCell ⟨w.heap.size, 2, none⟩ (.int .u64 o) = W4
 have hxq := set_block (i := 2) hx3 (.int .u64 o)
 have hrq : RD (w3.setCell ⟨w.heap.size, 2, none⟩ (.int .u64 o)) g s _ := (But.setCell (S := fun k => k = w.heap.size) (p := ⟨w.heap.size, 2, none⟩) rfl _).heap hr3 (by intro e; have e : g = w.heap.size := e; omega)
 have hbtq : But (fun k => k = g \/ w.heap.size <= k) w (w3.setCell ⟨w.heap.size, 2, none⟩ (.int .u64 o)) := hbt3.trans (But.setCell (.inr (Nat.le_refl _)) _)
 rw [hW4] at hxq hrq hbtq
 try rw [hW4] at hoaq
 clear hW4
 simp only [List.setIfInBounds_toArray, List.set_cons_zero, List.set_cons_succ] at hxq
 have hpo : pOut s n p1 = .ok (o, p2) := by unfold pOut; rw [if_pos hodd]; exact HP2.out
 have hpq := (pNum_ok HP2.out).2.1
 have hrq := hrq; have hbq := hbtq
 refine Fact.then_normal ?_
 obtain ⟨s0, s1, s4, s5⟩ := sS
 exact ⟨_, _, hf, s0, s1, s4, s5, hpo, hrq, hpq, hxq, hbq⟩))
 . (
 have hpo : pOut s n p1 = .ok (0, p1) := by unfold pOut; rw [if_neg (of_decide_eq_false hq)]
 have hpq : p1 <= s.size := hk1.2.1
 have hrq := hr2; have hxq := hx2; have hbq := hbt2
 clear hq
 refine wp_skip (Fact.then_normal ?_)
 obtain ⟨s0, s1, s4, s5, s14⟩ := sS
 exact ⟨_, _, hf, s0, s1, s4, s5, hpo, hrq, hpq, hxq, hbq⟩))
 . (
 clear hf sS
 rintro fr wq ⟨o, p2, hf, s0, s1, s4, s5, hpo, hrq, hpq, hxq, hbq⟩
 have HPO := Lib.hid hpo; clear hpo
 obtain ⟨m, hm⟩ : ∃ x, n / 2 = x := ⟨_, rfl⟩
 have hm9 : m <= 256 := by omega
 have HM := Lib.hid hm; clear hm
 have hps : pState s i p = pMk n o (pArcs s i m p2 []) := by unfold pState; simp only [HP1.out, HPO.out, HM.out]
 rw [HPS.out] at hps
 have HPS2 := Lib.hid hps; clear hps
 refine Ze fun _ hK7 => Ze fun _ hK8 => rg ?_
 have bB := hf.b 18
 refine Zy ?_
 refine fp fun K Z => ?_
 go_simp
 rw [show IntKind.u64.wrap ((n : Int) / 2) = ((m : Nat) : Int) by rw [Fact.wrap_u64 (by omega) (by omega)]; have := HM.out; omega]
 apply Z.out; clear Z K
 refine Zy ?_
 refine Fact.nil (Zq5 0 1 4 19 20 hf ?_)
 clear hf s0 s1 s4 s5 bB; intro fr1 hf sS
 refine Zx hK8 (wp_block (wp_loop_ghost (fun gk fr wr => ∃ (k pk : Nat) (acc : List Arc) (av : Value), gk = m - k /\ k <= m /\ Fact.Fr 43 fr /\ fr.tmps[0]? = some (.pointer (some ⟨g, 0, none⟩)) /\ fr.tmps[1]? = some (.int .u64 i) /\ fr.tmps[4]? = some (.pointer (some ⟨w.heap.size, 0, none⟩)) /\ fr.tmps[19]? = some (.int .u64 m) /\ fr.tmps[20]? = some (.int .u64 k) /\ pArcs s i m p2 [] = pArcs s i (m - k) pk acc /\ RD wr g s pk /\ pk <= s.size /\ wr.heap[w.heap.size]? = some (.cells #[av, .bool (decide (n % 2 = 1)), .int .u64 o] 46 (0, 0)) /\ OA wr w.heap.size av acc /\ av.ownBlock ≠ some w.heap.size /\ acc.length = k /\ But (fun k => k = g \/ w.heap.size <= k) w wr) (m) ?_ ?_))
 . (
 obtain ⟨s0, s1, s4, s19, s20⟩ := sS
 exact ⟨0, p2, [], _, rfl, Nat.zero_le _, hf, s0, s1, s4, s19, s20, rfl, hrq, hpq, hxq, OA.nil_ _ _, (by intro e; cases e), rfl, hbq⟩)
 . (
 clear hf sS
 rintro gk fr wr ⟨k, pk, acc, av, hk, hki, hf, s0, s1, s4, s19, s20, hpa, hr5, hp5, hx5, hoa, hav, hal, hbt⟩
 have hal9 : acc.length <= 1000 := by omega
 have HAL := Lib.hid hal; have HK := Lib.hid hk; have HPA := Lib.hid hpa; clear hk hpa hal
 refine Ze fun _ hK9 => Zr [] hf ?_
 refine Zq6 0 1 4 19 20 21 hf ?_
 clear hf s0 s1 s4 s19 s20; intro fr1 hf sS
 refine Zs hK9 fun _ hK10 => Fact.cond_s sS.2.2.2.2.2 (fun hq => ?_) (fun hq => ?_)
 . (
 have hklt : k < m := by have h9 := of_decide_eq_true hq; omega
 clear hq
 obtain ⟨u, hu⟩ : ∃ u, m - k = u + 1 := ⟨m - k - 1, by omega⟩
 have HU := Lib.hid hu; clear hu
 rcases hpz : pChar s pk with bz | ⟨c, q1⟩
 . (
 have HPZ := Lib.hid hpz; clear hpz
 have he : r = .error bz := by rw [HPS2.out, HPA.out, HU.out]; simp only [pArcs, HPZ.out]; rfl
 subst he
 refine wp_skip (Zs hK10 fun _ hK11 => wp_block (Ze fun _ hK12 => rg ?_))
 have bB := hf.B4 22 23 24 6
 refine Zy ?_
 refine fp fun K Z => ?_
 go_simp
 go_at_call 57; refine (char49' wr g s pk hr5 hp5 hsz).mono ?_; rintro e wz hres
 rw [HPZ.out] at hres
 obtain ⟨q, rfl, hz2, hz3, hz4⟩ := hres
 try dsimp only
 try dsimp only
 exact pan9 hf.defers (PanG.via hbt ⟨q, rfl, hz2, hz3, hz4⟩))
 . (
 have HP3 := Lib.hid hpz; clear hpz
 refine wp_skip (Zs hK10 fun _ hK13 => wp_block (Ze fun _ hK14 => rg ?_))
 have bB := hf.B4 22 23 24 6
 refine Zy ?_
 refine Zc (char49' wr g s pk hr5 hp5 hsz) ?_; rintro e w6 hres
 rw [HP3.out] at hres
 obtain ⟨rfl, hr6, hb6⟩ := hres
 refine Zv ?_
 iterate 3 refine Zy ?_
 refine Fact.nil (Zq6 0 1 4 6 19 20 hf ?_)
 clear hf sS bB; intro fr1 hf sS
 have hk6 := pChar_ok hp5 HP3.out
 have hx6 := hb6.heap hx5 (by intro e; have e : w.heap.size = g := e; omega)
 have hbt6 : But (fun k => k = g \/ w.heap.size <= k) w w6 := hbt.trans (hb6.mono (fun k _ h => .inl h))
 have hoa6 := own_but hoa hb6 (fun k hk e => by have e : k = g := e; have := (World.ownsRow.lt hoa k hk).1; omega)
 have hBA := heap_lt hx6
 have hvA : ∀ k, av.ownBlock = some k -> k < w6.heap.size := fun k hk => (World.ownsRow.lt hoa6 k hk).2
 generalize hW7 : w6.alloc (.cells #[.int .u8 c, .int .u64 0, .int .i64 0] 71) = W7
 have hb7 : Below w6.heap.size w6 W7 := by rw [<- hW7]; exact (Below.refl _ _).alloc (Nat.le_refl _) _
 have hA7 : W7.heap[w6.heap.size]? = some (.cells #[.int .u8 c, .int .u64 0, .int .i64 0] 71 (0, 0)) := by rw [<- hW7]; exact heap_alloc_new w6 _
 obtain ⟨A, hA⟩ : ∃ x, w6.heap.size = x := ⟨_, rfl⟩
 obtain ⟨s0, s1, s4, s6, s19, s20⟩ := sS
 rw [hA] at hBA hvA hA7 s6
 have hr7 := hr6.later hb7
 have hx7 := (hb7.block _ (by omega)).trans hx6
 have hoa7 := own_later hoa6 hb7
 have hbt7 : But (fun k => k = g \/ w.heap.size <= k) w W7 := hbt6.trans (But.of _ hb7)
 clear hW7 hA hb7 hb6 hr6 hx6 hoa6 hbt6 hr5 hx5 hoa hbt
 refine Zx hK14 ?_
 rcases hpz : pNum s 0 18446744073709551615 q1 with bz | ⟨oo, q2⟩
 . (
 have HPZ := Lib.hid hpz; clear hpz
 have he : r = .error bz := by rw [HPS2.out, HPA.out, HU.out]; simp only [pArcs, HP3.out, HPZ.out]; rfl
 subst he
 refine Ze fun _ hK15 => rg ?_
 have bB := hf.B3 25 26 27
 refine Zy ?_
 refine fp fun K Z => ?_
 go_simp
 go_at_call 59; refine (num51' W7 g s q1 hr7 hk6.2.1 hsz 0 18446744073709551615).mono ?_; rintro e wz hres
 rw [HPZ.out] at hres
 obtain ⟨q, rfl, hz2, hz3, hz4⟩ := hres
 try dsimp only
 try dsimp only
 exact pan9 hf.defers (PanG.via hbt7 ⟨q, rfl, hz2, hz3, hz4⟩))
 . (
 have HP4 := Lib.hid hpz; clear hpz
 refine Ze fun _ hK16 => rg ?_
 have bB := hf.B3 25 26 27
 refine Zy ?_
 refine Zc (num51' W7 g s q1 hr7 hk6.2.1 hsz 0 18446744073709551615) ?_; rintro e w8 hres
 rw [HP4.out] at hres
 obtain ⟨rfl, hr8, hb8⟩ := hres
 have hA8 := hb8.heap hA7 (by intro e; have e : A = g := e; omega)
 have hx8 := hb8.heap hx7 (by intro e; have e : w.heap.size = g := e; omega)
 have hoa8 := own_but hoa7 hb8 (fun k hk e => by have e : k = g := e; have := (World.ownsRow.lt hoa7 k hk).1; omega)
 have hbt8 : But (fun k => k = g \/ w.heap.size <= k) w w8 := hbt7.trans (hb8.mono (fun k _ h => .inl h))
 clear hb8 hA7 hx7 hoa7 hbt7 hr7
 have y1 : w8.cell? ⟨A, 1, none⟩ = some (.int .u64 0) := by rw [cell_of_row _ _ 1 _ _ (0, 0) hA8]; rfl
 have fz := frozen_of (i := 1) hA8
 refine Zv ?_
 iterate 2 refine Zy ?_
 refine Fact.nil (Zq6 0 1 4 6 19 20 hf ?_)
 clear hf s0 s1 s4 s6 s19 s20 bB; intro fr1 hf sS
 generalize hW9 : w8.setCell ⟨A, 1, none⟩ (.int .u64 oo) = W9
 have hA9 := set_block (i := 1) hA8 (.int .u64 oo)
 have hr9 : RD (w8.setCell ⟨A, 1, none⟩ (.int .u64 oo)) g s _ := (But.setCell (S := fun k => k = A) (w := w8) (p := ⟨A, 1, none⟩) rfl (.int .u64 oo)).heap hr8 (by intro e; have e : g = A := e; omega)
 have hx9 := (But.setCell (S := fun k => k = A) (w := w8) (p := ⟨A, 1, none⟩) rfl (.int .u64 oo)).heap hx8 (by intro e; have e : w.heap.size = A := e; omega)
 have hoa9 := own_but hoa8 (But.setCell (S := fun k => k = A) (w := w8) (p := ⟨A, 1, none⟩) rfl (.int .u64 oo)) (fun k hk e => by have e : k = A := e; have := hvA k hk; omega)
 have hbt9 : But (fun k => k = g \/ w.heap.size <= k) w (w8.setCell ⟨A, 1, none⟩ (.int .u64 oo)) := hbt8.trans (But.setCell (.inr (Nat.le_of_lt hBA)) _)
 rw [hW9] at hA9 hr9 hx9 hoa9 hbt9
 clear hW9 hA8 hr8 hx8 hoa8 hbt8
 simp only [List.setIfInBounds_toArray, List.set_cons_zero, List.set_cons_succ] at hA9
 clear y1 fz
 have hk8 := pNum_ok HP4.out
 refine Zx hK16 ?_
 rcases hpz : pNum s 1 i q2 with bz | ⟨dd, q3⟩
 . (
 have HPZ := Lib.hid hpz; clear hpz
 have he : r = .error bz := by rw [HPS2.out, HPA.out, HU.out]; simp only [pArcs, HP3.out, HP4.out, HPZ.out]; rfl
 subst he
 refine Ze fun _ hK17 => rg ?_
 have bB := hf.B7 28 29 30 31 32 33 34
 iterate 3 refine Zy ?_
 refine fp fun K Z => ?_
 go_simp
 go_at_call 59; refine (num51' W9 g s q2 hr9 hk8.2.1 hsz 1 i).mono ?_; rintro e wz hres
 rw [HPZ.out] at hres
 obtain ⟨q, rfl, hz2, hz3, hz4⟩ := hres
 try dsimp only
 try dsimp only
 exact pan9 hf.defers (PanG.via hbt9 ⟨q, rfl, hz2, hz3, hz4⟩))
 . (
 have HP5 := Lib.hid hpz; clear hpz
 have hkd := pNum_ok HP5.out
 obtain ⟨t, ht⟩ : ∃ x, i - dd = x := ⟨_, rfl⟩
 have htb : t <= 1000000000 := by omega
 have hti : (i : Int) - (dd : Nat) = ((t : Nat) : Int) := by have := hkd.2.2.2; omega
 have HTI := Lib.hid hti; have HT := Lib.hid ht; clear hti ht
 refine Ze fun _ hK18 => rg ?_
 have bB := hf.B7 28 29 30 31 32 33 34
 iterate 3 refine Zy ?_
 refine Zc (num51' W9 g s q2 hr9 hk8.2.1 hsz 1 i) ?_; rintro e w10 hres
 rw [HP5.out] at hres
 obtain ⟨rfl, hr10, hb10⟩ := hres
 have hA10 := hb10.heap hA9 (by intro e; have e : A = g := e; omega)
 have hx10 := hb10.heap hx9 (by intro e; have e : w.heap.size = g := e; omega)
 have hoa10 := own_but hoa9 hb10 (fun k hk e => by have e : k = g := e; have := (World.ownsRow.lt hoa9 k hk).1; omega)
 have hbt10 : But (fun k => k = g \/ w.heap.size <= k) w w10 := hbt9.trans (hb10.mono (fun k _ h => .inl h))
 clear hb10 hA9 hx9 hoa9 hbt9 hr9
 have y2 : w10.cell? ⟨A, 2, none⟩ = some (.int .i64 0) := by rw [cell_of_row _ _ 2 _ _ (0, 0) hA10]; rfl
 have fz := frozen_of (i := 2) hA10
 refine Zv ?_
 refine fp fun K Z => ?_
 go_simp
 try simp (disch := omega) only [Fact.W]
 try rw [HTI.out]
 try rw [Fact.wrap_u64 (by omega) (by omega)]
 apply Z.out; clear Z K
 refine fp fun K Z => ?_
 go_simp
 try rw [HTI.out]
 try rw [Fact.wrap_i64 (by omega) (by omega)]
 apply Z.out; clear Z K
 iterate 2 refine Zy ?_
 refine Fact.nil (Zq6 0 1 4 6 19 20 hf ?_)
 clear hf sS bB; intro fr1 hf sS
 generalize hW11 : w10.setCell ⟨A, 2, none⟩ (.int .i64 t) = W11
 have hA11 := set_block (i := 2) hA10 (.int .i64 t)
 have hr11 : RD (w10.setCell ⟨A, 2, none⟩ (.int .i64 t)) g s _ := (But.setCell (S := fun k => k = A) (w := w10) (p := ⟨A, 2, none⟩) rfl (.int .i64 t)).heap hr10 (by intro e; have e : g = A := e; omega)
 have hx11 := (But.setCell (S := fun k => k = A) (w := w10) (p := ⟨A, 2, none⟩) rfl (.int .i64 t)).heap hx10 (by intro e; have e : w.heap.size = A := e; omega)
 have hoa11 := own_but hoa10 (But.setCell (S := fun k => k = A) (w := w10) (p := ⟨A, 2, none⟩) rfl (.int .i64 t)) (fun k hk e => by have e : k = A := e; have := hvA k hk; omega)
 have hbt11 : But (fun k => k = g \/ w.heap.size <= k) w (w10.setCell ⟨A, 2, none⟩ (.int .i64 t)) := hbt10.trans (But.setCell (.inr (Nat.le_of_lt hBA)) _)
 rw [hW11] at hA11 hr11 hx11 hoa11 hbt11
 clear hW11 hA10 hr10 hx10 hoa10 hbt10
 simp only [List.setIfInBounds_toArray, List.set_cons_zero, List.set_cons_succ] at hA11
 clear y2 fz
 have a0 : W11.cell? ⟨A, 0, none⟩ = some (.int .u8 c) := by rw [cell_of_row _ _ 0 _ _ (0, 0) hA11]; rfl
 have a1 : W11.cell? ⟨A, 1, none⟩ = some (.int .u64 oo) := by rw [cell_of_row _ _ 1 _ _ (0, 0) hA11]; rfl
 have a2 : W11.cell? ⟨A, 2, none⟩ = some (.int .i64 t) := by rw [cell_of_row _ _ 2 _ _ (0, 0) hA11]; rfl
 have af0 := frozen_of (i := 0) hA11
 have af1 := frozen_of (i := 1) hA11
 have af2 := frozen_of (i := 2) hA11
 have e0 : W11.cell? ⟨w.heap.size, 0, none⟩ = some av := by rw [cell_of_row _ _ 0 _ _ (0, 0) hx11]; rfl
 refine Zx hK18 (rg ?_)
 have bB := hf.B6 35 36 37 38 39 40
 iterate 3 refine Zy ?_
 refine fp fun K Z => ?_
 go_simp
 generalize hW12 : W11.alloc (.cells #[.int .u8 c, .int .u64 oo, .int .i64 t] 71) = W12
 have hlit : ∀ (j : Nat) (u : Value), ([.int .u8 c, .int .u64 oo, .int .i64 t] : List Value)[j]? = some u -> W12.cell? ⟨W11.heap.size, j, none⟩ = some u := by rw [<- hW12]; exact lit_new W11 _ _
 have hbl : Below W11.heap.size W11 W12 := by rw [<- hW12]; exact (Below.refl _ _).alloc (Nat.le_refl _) _
 clear hW12
 have hr12 := hr11.later hbl
 have hx12 := (hbl.block _ (heap_lt hx11)).trans hx11
 have hoa12 := own_later hoa11 hbl
 have hbt12 : But (fun k => k = g \/ w.heap.size <= k) w W12 := hbt11.trans (But.of _ hbl)
 apply Z.out; clear Z K
 obtain ⟨s0, s1, s4, s6, s19, s20⟩ := sS
 clear bB
 refine Fact.reL (n := 43) (by simp only [Fact.G, hf.size]) hf.defers (fun fr1 hf1 hT => ?_)
 have hKp := Fact.h7 hT 0 1 4 19 20 36 38
 simp (decide := true) only [Fact.G, hf.size, reduceIte, s0, s1, s4, s19, s20] at hKp
 replace hf := hf1; clear hT hf1 s0 s1 s4 s6 s19 s20
 obtain ⟨s0, s1, s4, s19, s20, s36, s38⟩ := hKp
 have bB := hf.B2 39 40
 refine ⟨?_⟩
 refine wpList_plain rfl fun KL hKL => ?_
 refine wp_app _ _ 44 rfl 71 _ 3 24 Tryz.underlying44 info_arc rfl (by decide) (by decide) w.heap.size av acc.length (acs acc) (Fact.eval_tmp s36) hoa12 W11.heap.size [.int .u8 c, .int .u64 oo, .int .i64 t] (Fact.eval_tmp s38) rfl hlit (by intro u hu; simp at hu; rcases hu with rfl | rfl | rfl <;> rfl) (by omega) hbt12.size (fun v13 w13 hw13 hg13 hat13 => hKL _ _ ?_)
 refine Fact.L.out ?_
 refine Zy ?_
 have hx13 := (hg13.block w.heap.size (heap_lt hx12) (fun e => hav e.symm)).trans hx12
 have hr13 : RD w13 g s q3 := (hg13.block g (heap_lt hr12) (fun e => by have := (World.ownsRow.lt hoa12 _ e.symm).1; omega)).trans hr12
 have hbt13 : But (fun k => k = g \/ w.heap.size <= k) w w13 := hbt12.trans (But.grown hg13 (fun k hk => .inr (World.ownsRow.lt hoa12 k hk).1))
 have hv13 : v13.ownBlock ≠ some w.heap.size := by rcases hat13 with h | h; (rw [h]; exact hav); (rw [h]; intro e; injection e with e; have := heap_lt hx12; omega)
 have hoa13 : OA w13 w.heap.size v13 (acc ++ [⟨c, oo, ((t : Nat) : Int)⟩]) := by unfold OA; rw [List.length_append, acs_append]; exact hw13
 obtain ⟨A9, c9, hv9, _⟩ := row_form hw13
 subst hv9
 have e1 : w13.cell? ⟨w.heap.size, 0, none⟩ = some av := by rw [cell_of_row _ _ 0 _ _ (0, 0) hx13]; rfl
 have fz := frozen_of (i := 0) hx13
 refine Zy ?_
 refine Fact.nil (Zq5 0 1 4 19 20 hf ?_)
 clear hf s0 s1 s4 s19 s20 s36 s38 bB; intro fr1 hf sS
 have hoa14 := own_but hoa13 (But.setCell (S := fun k => k = w.heap.size) (w := w13) (p := ⟨w.heap.size, 0, none⟩) rfl (.slice A9 (acc.length + 1) c9)) (fun k hk e => hv13 (by rw [hk, e]))
 generalize hW14 : w13.setCell ⟨w.heap.size, 0, none⟩ (.slice A9 (acc.length + 1) c9) = W14
 have hx14 := set_block (i := 0) hx13 (.slice A9 (acc.length + 1) c9)
 have hr14 : RD (w13.setCell ⟨w.heap.size, 0, none⟩ (.slice A9 (acc.length + 1) c9)) g s _ := (But.setCell (S := fun k => k = w.heap.size) (p := ⟨w.heap.size, 0, none⟩) rfl _).heap hr13 (by intro e; have e : g = w.heap.size := e; omega)
 have hbt14 : But (fun k => k = g \/ w.heap.size <= k) w (w13.setCell ⟨w.heap.size, 0, none⟩ (.slice A9 (acc.length + 1) c9)) := hbt13.trans (But.setCell (.inr (Nat.le_refl _)) _)
 rw [hW14] at hx14 hr14 hbt14
 try rw [hW14] at hoa14
 clear hW14
 simp only [List.setIfInBounds_toArray, List.set_cons_zero, List.set_cons_succ] at hx14
 skip
 have hpa2 : pArcs s i m p2 [] = pArcs s i (m - (k + 1)) q3 (acc ++ [⟨c, oo, ((t : Nat) : Int)⟩]) := by rw [HPA.out, HU.out, show m - (k + 1) = u by have := HU.out; omega]; simp only [pArcs, HP3.out, HP4.out, HP5.out, HT.out]
 refine Fact.block_normal (Zx hK13 (Zr [41] hf ?_))
 refine Zq5 0 1 4 19 20 hf ?_
 clear hf sS; intro fr1 hf sS
 refine Fact.then_normal ?_
 obtain ⟨s0, s1, s4, s19, s20⟩ := sS
 exact ⟨_, by have := HK.out; omega, k + 1, q3, _, _, rfl, by omega, hf, s0, s1, s4, s19, by rw [s20]; rfl, hpa2, hr14, hkd.2.1, hx14, hoa14, hv13, by simp [HAL.out], hbt14⟩))))
 . (
 have hke : m - k = 0 := by have h9 := of_decide_eq_false hq; omega
 have he : r = .ok ({ arcs := acc, final := decide (n % 2 = 1), out := o }, pk) := by rw [HPS2.out, HPA.out, hke]; rfl
 subst he
 clear hq hke
 obtain ⟨Aa, ca, hva, _⟩ := row_form hoa
 subst hva
 have e0 : wr.cell? ⟨w.heap.size, 0, none⟩ = some (.slice Aa acc.length ca) := by rw [cell_of_row _ _ 0 _ _ (0, 0) hx5]; rfl
 have e1 : wr.cell? ⟨w.heap.size, 1, none⟩ = some (.bool (decide (n % 2 = 1))) := by rw [cell_of_row _ _ 1 _ _ (0, 0) hx5]; rfl
 have e2 : wr.cell? ⟨w.heap.size, 2, none⟩ = some (.int .u64 o) := by rw [cell_of_row _ _ 2 _ _ (0, 0) hx5]; rfl
 have ef0 := frozen_of (i := 0) hx5
 have ef1 := frozen_of (i := 1) hx5
 have ef2 := frozen_of (i := 2) hx5
 refine Zo ?_
 refine Zs hK7 fun _ hK19 => Zr [42] hf ?_
 refine Zq1 4 hf ?_
 clear hf sS; intro fr1 hf s4
 refine Zx hK19 (Zret ?_)
 have hb3 : But (fun k => k = w.heap.size) wr _ := ((But.setCell (S := fun k => k = w.heap.size) (w := wr) (p := ⟨w.heap.size, 0, none⟩) rfl (.slice Aa acc.length ca)).trans (But.setCell (S := fun k => k = w.heap.size) (p := ⟨w.heap.size, 1, none⟩) rfl (.bool (decide (n % 2 = 1))))).trans (But.setCell (S := fun k => k = w.heap.size) (p := ⟨w.heap.size, 2, none⟩) rfl (.int .u64 o))
 exact ret_c rfl hf s4 (set_block (set_block (set_block hx5 _) _) _) Tryz.underlying46 rfl (by kernel_rfl) ⟨_, by simp, hb3.heap hr5 (by intro e; have e : g = w.heap.size := e; omega), own_but hoa hb3 (fun k hk e => hav (by rw [hk, e])), (hbt.trans (hb3.mono (fun k _ h => .inr (by omega)))).mono (fun k hk h => h.elim id (fun h => by omega))⟩))))
def scs (l : List (Value × State)) : List Value := l.flatMap fun x => [x.1, .bool x.2.final, .int .u64 x.2.out]
theorem scs_get (l : List (Value × State)) (i j : Nat) (hi : i < l.length) (hj : j < 3) : (scs l)[i * 3 + j]? = ([(l[i]).1, .bool (l[i]).2.final, .int .u64 (l[i]).2.out] : List Value)[j]? := by
 induction l generalizing i with
 | nil => simp at hi
 | cons e l ih =>
  simp only [scs, List.flatMap_cons]
  cases i with
  | zero => rw [List.getElem?_append_left (by simp; omega)]; simp
  | succ i =>
   rw [List.getElem?_append_right (by simp; omega)]
   have := ih i (by simpa using hi)
   simp only [scs] at this
   simp only [List.getElem_cons_succ]
   rw [<- this]; congr 1; simp; omega
theorem scs_append (a b : List (Value × State)) : scs (a ++ b) = scs a ++ scs b := by simp [scs]
structure SR (w : World) (base : Nat) (B : Nat -> Prop) (v : Value) (l : List (Value × State)) : Prop where
 row : w.ownsRow base 46 3 v l.length (scs l)
 arcs : ∀ x ∈ l, RA w B x.1 x.2.arcs
section
variable {w w' : World} {base : Nat} {B S : Nat -> Prop} {v : Value} {l : List (Value × State)}
theorem SR.but (h : SR w base B v l) (hb : But S w w') (hv : ∀ k, v.ownBlock = some k -> ¬ S k) (hB : ∀ k, B k -> ¬ S k) : SR w' base B v l := ⟨own_but h.row hb hv, fun x hx => (h.arcs x hx).but hb hB⟩
theorem SR.later (h : SR w base B v l) (hb : Below w.heap.size w w') : SR w' base B v l := h.but (But.of (fun _ => False) hb) (fun _ _ h => h) (fun _ _ h => h)
theorem SR.form (h : SR w base B v l) : ∃ (A : Option Addr) (c : Nat), v = .slice A l.length c /\ l.length <= c := by
 obtain ⟨A, c, h1, h2⟩ := row_form h.row
 exact ⟨A, c, h1, h2⟩
theorem SR.cells (h : SR w base B v l) {i : Nat} {x : Value × State} (hi : l[i]? = some x) : ∃ g c, v = .slice (some ⟨g, 0, none⟩) l.length c /\ base <= g /\ SAt w B g (i * 3) x.1 x.2 := by
 have hlt := (gS1 hi).1
 have hx := (gS1 hi).2
 have h1 := h.row
 rcases h1.2 with ⟨_, h0⟩ | ⟨b, cap, cur, rfl, hb, hh, hc, _⟩
 ·omega
 ·have k : ∀ j, j < 3 -> w.cell? ⟨b, i * 3 + j, none⟩ = ([x.1, .bool x.2.final, .int .u64 x.2.out] : List Value)[j]? := fun j hj => by
   rw [h1.cellAt (i * 3 + j) (by omega), scs_get l i j hlt hj, hx]
  exact ⟨b, cap, rfl, hb, ⟨k 0 (by omega), k 1 (by omega), k 2 (by omega), h.arcs x (gM1 hi)⟩⟩
theorem SR.rs (h : SR w base B v l) : RS w v (l.map Prod.snd) := by
 obtain ⟨A, c, h1, h2⟩ := h.form
 refine ⟨A, c, by rw [List.length_map]; exact h1, by rw [List.length_map]; exact h2, fun h0 => ?_⟩
 rw [List.length_map] at h0
 obtain ⟨x0, hx0⟩ : ∃ x, l[0]? = some x := ⟨_, gE1 h0⟩
 obtain ⟨g, c2, h3, _, _⟩ := h.cells hx0
 rw [h1] at h3
 injection h3 with h3
 refine ⟨g, 0, h3, fun i s hi => ?_⟩
 rw [List.getElem?_map] at hi
 obtain ⟨x, hx, rfl⟩ := Option.map_eq_some_iff.1 hi
 obtain ⟨g', c', h4, _, h5⟩ := h.cells hx
 rw [h1] at h4
 injection h4 with h4
 rw [h3] at h4
 injection h4 with h4
 injection h4 with h4
 subst h4
 rw [Nat.zero_add]
 exact ⟨x.1, ⟨h5.c0, h5.c1, h5.c2, h5.arcs.more (fun _ _ _ => trivial)⟩⟩
end
theorem SR.nil_ (w : World) (base : Nat) (B : Nat -> Prop) : SR w base B (.slice none 0 0) [] := ⟨World.ownsRow_nil _ _ _ _, fun x hx => by cases hx⟩
theorem pMag_ok {s : ByteArray} {k i x j : Nat} (hi : i <= s.size) (h : pMag s k i = .ok (x, j)) : j = i + 1 /\ j <= s.size /\ (wl s)[i]? = some (magicAt k) := by
 unfold pMag stepN charN at h
 by_cases h2 : i = s.size
 ·rw [if_pos h2] at h; simp at h
 ·rw [if_neg h2] at h
  simp only [ne_eq, not_true_eq_false, if_false] at h
  split at h
  ·cases h
  ·rename_i h3
   injection h with h
   injection h with h4 h5
   unfold kindN at h3
   have h6 : at_ s i = magicAt k := by
    by_cases h7 : at_ s i = magicAt k
    ·exact h7
    ·rw [if_neg h7] at h3; simp at h3
   exact ⟨h5.symm, by omega, by rw [<- h6]; exact wl_at (by omega)⟩
theorem pArcs_ok {s : ByteArray} {i : Nat} (hi9 : i <= 1000000000) : ∀ {k p : Nat} {acc l : List Arc} {j : Nat}, p <= s.size -> pArcs s i k p acc = .ok (l, j) -> p <= j /\ j <= s.size /\ l.length = acc.length + k /\ ((∀ a ∈ acc, okA a /\ 0 <= a.to /\ a.to < (i : Int)) -> ∀ a ∈ l, okA a /\ 0 <= a.to /\ a.to < (i : Int))
 | 0, p, acc, l, j, hp, h => by
  simp only [pArcs] at h
  injection h with h
  injection h with h1 h2
  subst h1; subst h2
  exact ⟨Nat.le_refl _, hp, rfl, id⟩
 | k + 1, p, acc, l, j, hp, h => by
  simp only [pArcs] at h
  split at h
  ·cases h
  ·rename_i c p1 hc
   have k1 := pChar_ok hp hc
   split at h
   ·cases h
   ·rename_i o p2 ho
    have k2 := pNum_ok ho
    split at h
    ·cases h
    ·rename_i d p3 hd
     have k3 := pNum_ok hd
     have ih := pArcs_ok hi9 k3.2.1 h
     refine ⟨by omega, ih.2.1, by rw [ih.2.2.1, List.length_append]; simp; omega, fun ha => ih.2.2.2 fun a hm => ?_⟩
     rcases List.mem_append.1 hm with hm | hm
     ·exact ha a hm
     ·simp at hm
      subst hm
      have k4 := k2.2.2.1
      unfold M64 at k4
      refine ⟨⟨k1.2.2.1, k4, ?_, ?_⟩, ?_, ?_⟩ <;> simp <;> omega
theorem pState_ok {s : ByteArray} {i p j : Nat} {st : State} (hi9 : i <= 1000000000) (h : pState s i p = .ok (st, j)) : p < j /\ j <= s.size /\ okS st /\ st.arcs.length <= 256 /\ (∀ a ∈ st.arcs, 0 <= a.to /\ a.to < (i : Int)) /\ (st.final = false -> st.out = 0) := by
 unfold pState at h
 split at h
 ·cases h
 ·rename_i n p1 hn
  have k1 := pNum_ok hn
  split at h
  ·cases h
  ·rename_i o p2 ho
   have k2 : p1 <= p2 /\ p2 <= s.size /\ o < M64 /\ (n % 2 ≠ 1 -> o = 0) := by
    unfold pOut at ho
    split at ho
    ·rename_i h1
     have := pNum_ok ho
     exact ⟨by omega, this.2.1, this.2.2.1, fun h => absurd h1 h⟩
    ·injection ho with ho
     injection ho with h1 h2
     subst h1; subst h2
     exact ⟨Nat.le_refl _, k1.2.1, by unfold M64; omega, fun _ => rfl⟩
   cases hl : pArcs s i (n / 2) p2 [] with
   | error b => rw [hl] at h; cases h
   | ok x =>
    obtain ⟨l, p3⟩ := x
    rw [hl] at h
    simp only [pMk] at h
    injection h with h
    injection h with h1 h2
    subst h1; subst h2
    have k3 := pArcs_ok hi9 k2.2.1 hl
    have k4 := k3.2.2.2 (by simp)
    have k5 := k2.2.2.1
    have k6 := k3.2.2.1
    simp at k6
    unfold M64 at k5
    exact ⟨by omega, k3.2.1, ⟨k5, by simp; omega, fun a ha => (k4 a ha).1⟩, by simp; omega, fun a ha => (k4 a ha).2, fun hf => k2.2.2.2 (by simpa using hf)⟩
theorem RA.take {w : World} {B : Nat -> Prop} {A : Option Addr} {n c : Nat} {l : List Arc} (h : RA w B (.slice A n c) l) (m : Nat) (hm : m <= n) : RA w B (.slice A m c) (l.take m) := by
 obtain ⟨A', c', h1, h2, h3⟩ := h
 injection h1 with h1 h4 h5
 subst h1; subst h5
 refine ⟨A, c, by rw [List.length_take, Nat.min_eq_left (by omega)], by rw [List.length_take]; omega, fun h0 => ?_⟩
 rw [List.length_take] at h0
 obtain ⟨b, off, h6, h7, h8⟩ := h3 (by omega)
 refine ⟨b, off, h6, h7, fun j u hu => h8 j u ?_⟩
 have hs : acs l = acs (l.take m) ++ acs (l.drop m) := by rw [<- acs_append, List.take_append_drop]
 rw [hs, List.getElem?_append_left (gS1 hu).1]
 exact hu
end Dw
end Go.Proofs.YtcddnmhmcieebaaGreatDoor
