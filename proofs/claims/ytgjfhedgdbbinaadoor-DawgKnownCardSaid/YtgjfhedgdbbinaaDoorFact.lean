/- A walk by facts: the frame is a letter, of which the slots that are read later are known; each step hands on what is read behind it. -/
import Derived.Deep.LoopGhost
import Derived.Test.YtgjfhedgdbbinaaDoorStab
import Derived.IntWalk
import Derived.Laws.Bits64
namespace Go.Proofs.YtgjfhedgdbbinaaDoor
open Go.RowKit
set_option linter.unusedSimpArgs false
set_option linter.unusedVariables false
set_option linter.unnecessarySimpa false
namespace Fact
/-- A frame of so many slots, without deferred calls. -/
structure Fr (n : Nat) (a : Act) : Prop where
  size : a.tmps.size = n
  defers : a.defers = []
theorem Fr.lt {n t : Nat} {a : Act} (h : Fr n a) (ht : t < n) : t < a.tmps.size := by rw [h.size]; exact ht
theorem Fr.l {n : Nat} {a : Act} (h : Fr n a) (t : Nat) (ht : Nat.blt t n = true) : t < a.tmps.size := by rw [h.size]; exact Nat.le_of_ble_eq_true ht
section
variable {P : Program} {Q : Exit → Act → World → Prop} {a : Act} {w : World} {n : Nat}
theorem re {A : Act} {c : Code} (hs : A.tmps.size = n) (hd : A.defers = []) (h : ∀ a : Act, Fr n a → (∀ t : Nat, a.tmps[t]? = A.tmps[t]?) → c.wp P Q a w) : c.wp P Q A w := h A ⟨hs, hd⟩ (fun _ => rfl)
theorem reK {A : Act} {K C : Act → World → Prop} (hK : ∀ a w, C a w → K a w) (hs : A.tmps.size = n) (hd : A.defers = []) (h : ∀ a : Act, Fr n a → (∀ t : Nat, a.tmps[t]? = A.tmps[t]?) → C a w) : K A w := hK _ _ (h A ⟨hs, hd⟩ (fun _ => rfl))
theorem reQ {A : Act} {e : Exit} (hs : A.tmps.size = n) (hd : A.defers = []) (h : ∀ a : Act, Fr n a → (∀ t : Nat, a.tmps[t]? = A.tmps[t]?) → Q e a w) : Q e A w := h A ⟨hs, hd⟩ (fun _ => rfl)
theorem enter {l : List Value} {m : Nat} {c : Code} (hs : l.length + m = n) (h : ∀ a : Act, Fr n a → (∀ (t : Nat) (v : Value), l[t]? = some v → a.tmps[t]? = some v) → c.wp P Q a w) : c.wp P Q ⟨l.toArray ++ Array.replicate m undef, []⟩ w :=
  h _ ⟨by simpa using hs, rfl⟩ (fun t v hv => by
    have hlt := (List.getElem?_eq_some_iff.1 hv).1
    rw [Array.getElem?_append_left (by simpa using hlt)]
    simpa using hv)
theorem reLit {l : List Value} {c : Code} (hs : l.length = n) (h : ∀ a : Act, Fr n a → (∀ (t : Nat) (v : Value), l[t]? = some v → a.tmps[t]? = some v) → c.wp P Q a w) : c.wp P Q ⟨l.toArray, []⟩ w :=
  h _ ⟨by simpa using hs, rfl⟩ (fun t v hv => by simpa using hv)
theorem reKLit {l : List Value} {c : Code} {K : Act → World → Prop} (hK : ∀ a w, c.wp P Q a w → K a w) (hs : l.length = n) (h : ∀ a : Act, Fr n a → (∀ (t : Nat) (v : Value), l[t]? = some v → a.tmps[t]? = some v) → c.wp P Q a w) : K ⟨l.toArray, []⟩ w :=
  hK _ _ (reLit hs h)
theorem kUse {c : Code} {K : Act → World → Prop} (hK : ∀ a w, c.wp P Q a w → K a w) (h : c.wp P Q a w) : K a w := hK _ _ h
theorem eval_tmp {t : Nat} {v : Value} (h : a.tmps[t]? = some v) : a.eval (.tmp t) = v := by simp [Act.eval, h]
theorem getD_tmp {t : Nat} {v : Value} (h : a.tmps[t]? = some v) : a.tmps.getD t undef = v := by simp [h]
theorem cond_t {t : Nat} {x y : Code} (h : a.tmps[t]? = some (.bool true)) (hx : x.wp P Q a w) : (Code.cond (.tmp t) x y).wp P Q a w := wp_cond_true (eval_tmp h) hx
theorem cond_f {t : Nat} {x y : Code} (h : a.tmps[t]? = some (.bool false)) (hy : y.wp P Q a w) : (Code.cond (.tmp t) x y).wp P Q a w := wp_cond_false (eval_tmp h) hy
theorem cond_s {t : Nat} {b : Bool} {x y : Code} (h : a.tmps[t]? = some (.bool b)) (hx : b = true → x.wp P Q a w) (hy : b = false → y.wp P Q a w) : (Code.cond (.tmp t) x y).wp P Q a w := wp_cond_split (eval_tmp h) hx hy
theorem then_exit {K : Act → World → Prop} {id : Nat} (h : Q (.exit id) a w) : Exit.then K Q (.exit id) a w := h
theorem then_ret {K : Act → World → Prop} (h : Q .ret a w) : Exit.then K Q .ret a w := h
theorem then_panic {K : Act → World → Prop} {c : List PanicEntry} (h : Q (.panic c) a w) : Exit.then K Q (.panic c) a w := h
theorem then_normal {K : Act → World → Prop} (h : K a w) : Exit.then K Q .normal a w := h
theorem block_exit {id : Nat} (h : Q .normal a w) : Exit.inBlock id Q (.exit id) a w := by simpa [Exit.inBlock] using h
theorem block_other {id id' : Nat} (hne : (id' == id) = false) (h : Q (.exit id') a w) : Exit.inBlock id Q (.exit id') a w := by
  have : id' ≠ id := by simpa using hne
  simpa [Exit.inBlock, this] using h
theorem block_normal {id : Nat} (h : Q .normal a w) : Exit.inBlock id Q .normal a w := h
theorem block_ret {id : Nat} (h : Q .ret a w) : Exit.inBlock id Q .ret a w := h
theorem block_panic {id : Nat} {c : List PanicEntry} (h : Q (.panic c) a w) : Exit.inBlock id Q (.panic c) a w := h
/-- Two pieces in a row, with a meeting place. -/
theorem seq_meet {x y : Code} (I : Act → World → Prop) (h1 : x.wp P (Exit.then I Q) a w) (h2 : ∀ a w, I a w → y.wp P Q a w) : (Code.seq x y).wp P Q a w :=
  wp_seq (wp_mono h1 fun e a w h => by cases e <;> first | exact h2 _ _ h | exact h)
theorem ret0 {fn : Func} {R : Ending → World → Prop} (h : fn.results = #[]) (hf : Fr n a) (hR : R (.returned (.tuple #[])) w) : bodyPost P fn R .ret a w :=
  bodyPost_ret (results_none h _ _ _) hf.defers hR
theorem end0 {fn : Func} {R : Ending → World → Prop} (h : fn.results = #[]) (hf : Fr n a) (hR : R (.returned (.tuple #[])) w) : bodyPost P fn R .normal a w :=
  bodyPost_end (results_none h _ _ _) hf.defers hR
theorem ret1 {fn : Func} {R : Ending → World → Prop} {t : Nat} {v : Value} (h : fn.results = #[.tmp t]) (hf : Fr n a) (s : a.tmps[t]? = some v) (hR : R (.returned v) w) : bodyPost P fn R .ret a w :=
  bodyPost_ret (results_tmp h _ _ _) hf.defers (by rw [getD_tmp s]; exact hR)
theorem ret2 {fn : Func} {R : Ending → World → Prop} {t u : Nat} {v x : Value} (h : fn.results = #[.tmp t, .tmp u]) (hf : Fr n a) (s : a.tmps[t]? = some v) (s' : a.tmps[u]? = some x) (hR : R (.returned (.tuple #[v, x])) w) : bodyPost P fn R .ret a w :=
  bodyPost_ret (results_tmp2 h _ _ _) hf.defers (by rw [getD_tmp s, getD_tmp s']; exact hR)
theorem ret3 {fn : Func} {R : Ending → World → Prop} {t u r : Nat} {v x y : Value} (h : fn.results = #[.tmp t, .tmp u, .tmp r]) (hf : Fr n a) (s : a.tmps[t]? = some v) (s' : a.tmps[u]? = some x) (s'' : a.tmps[r]? = some y) (hR : R (.returned (.tuple #[v, x, y])) w) : bodyPost P fn R .ret a w := by
  refine bodyPost_ret (v := .tuple #[v, x, y]) ?_ hf.defers hR
  have h1 := getD_tmp s
  have h2 := getD_tmp s'
  have h3 := getD_tmp s''
  simp [results, h, s, s', s'']
theorem wrap_i64 {n : Int} (h1 : -9223372036854775808 ≤ n) (h2 : n ≤ 9223372036854775807) : IntKind.i64.wrap n = n := IntWalk.i64_in n ⟨h1, h2⟩
theorem wrap_u8 {n : Int} (h1 : 0 ≤ n) (h2 : n ≤ 255) : IntKind.u8.wrap n = n := IntWalk.u8_in n ⟨h1, h2⟩
theorem wrap_u32 {n : Int} (h1 : 0 ≤ n) (h2 : n ≤ 4294967295) : IntKind.u32.wrap n = n := IntWalk.u32_in n ⟨h1, h2⟩
theorem wrap_u64 {n : Int} (h1 : 0 ≤ n) (h2 : n ≤ 18446744073709551615) : IntKind.u64.wrap n = n := by rw [IntKind.wrap_u64]; omega
/-- What a chain of stores holds at a slot. -/
theorem G : (∀ {xs : Array Value} {i j : Nat} {v : Value}, (xs.setIfInBounds i v)[j]? = if i = j then if i < xs.size then some v else none else xs[j]?) ∧ (∀ {xs : Array Value} {i : Nat} {v : Value}, (xs.setIfInBounds i v).size = xs.size) ∧ (∀ {a : Act} {v : Value}, a.put none v = a) ∧ ∀ {a : Act} {d : Nat} {v : Value}, a.put (some d) v = ⟨a.tmps.setIfInBounds d v, a.defers⟩ :=
  ⟨Array.getElem?_setIfInBounds, Array.size_setIfInBounds, rfl, rfl⟩
/-- The rest of a plain region's operations, closed against unfolding. -/
structure L (P : Program) (ops : Array Oper) (Q : Exit → Act → World → Prop) (rest : List Oper) (a : Act) (w : World) : Prop where
  out : wpList P ops Q rest a w
theorem region {id : Nat} {l : List Oper} (h : L P l.toArray Q l a w) : (Code.region id l.toArray false).wp P Q a w := wp_region_lit h.out
theorem nil {ops : Array Oper} (h : Q .normal a w) : L P ops Q [] a w := ⟨wpList_nil h⟩
theorem reL {A : Act} {ops : Array Oper} {rest : List Oper} (hs : A.tmps.size = n) (hd : A.defers = []) (h : ∀ a : Act, Fr n a → (∀ t : Nat, a.tmps[t]? = A.tmps[t]?) → L P ops Q rest a w) : L P ops Q rest A w := h A ⟨hs, hd⟩ (fun _ => rfl)
/-- One operation of a plain region. -/
theorem op_plain {ops : Array Oper} {rest : List Oper} {o : Oper} (hg : o.guard = none) (h : ∀ K : Act → World → Prop, Hid (∀ a w, L P ops Q rest a w → K a w) → o.wp P a w K Q) : L P ops Q (o :: rest) a w :=
  ⟨wpList_plain hg fun K hK => h K (Lib.hid fun a w hl => hK a w hl.out)⟩
theorem op_guard {l : List Oper} {rest : List Oper} {o og : Oper} {g d : Nat} {b : Bool} (hg : o.guard = some (g, b)) (hgo : l[g]? = some og) (hd : og.dst = some d) (hv : a.tmps[d]? = some (.bool b)) (h : ∀ K : Act → World → Prop, Hid (∀ a w, L P l.toArray Q rest a w → K a w) → o.wp P a w K Q) : L P l.toArray Q (o :: rest) a w := by
  refine ⟨wpList_step fun K hK => ?_⟩
  rw [if_pos (by simp [Region.wanted, hg, yielded, hgo, hd, hv])]
  exact h K (Lib.hid fun a w hl => hK a w hl.out)
theorem op_skip {l : List Oper} {rest : List Oper} {o og : Oper} {g d : Nat} {b : Bool} (hg : o.guard = some (g, b)) (hgo : l[g]? = some og) (hd : og.dst = some d) (hv : a.tmps[d]? = some (.bool (!b))) (h : L P l.toArray Q rest (a.put o.dst undef) w) : L P l.toArray Q (o :: rest) a w := by
  refine ⟨?_⟩
  unfold wpList
  rw [if_neg (by cases b <;> simp [Region.wanted, hg, yielded, hgo, hd, hv])]
  exact h.out
theorem op_skip' {l : List Oper} {rest : List Oper} {o og : Oper} {g d : Nat} {b : Bool} (hg : o.guard = some (g, b)) (hgo : l[g]? = some og) (hd : og.dst = some d) (hv : a.tmps[d]? = some undef) (h : L P l.toArray Q rest (a.put o.dst undef) w) : L P l.toArray Q (o :: rest) a w := by
  refine ⟨?_⟩
  unfold wpList
  rw [if_neg (by simp [Region.wanted, hg, yielded, hgo, hd, hv, undef])]
  exact h.out
theorem p {ops : Array Oper} {rest : List Oper} {o : Oper} (hg : o.guard = none) (h : ∀ K : Act → World → Prop, Hid (∀ a w, L P ops Q rest a w → K a w) → o.wp P a w K Q) : L P ops Q (o :: rest) a w := op_plain hg h
theorem nx {K : Act → World → Prop} (h : K a w) : Exit.then K Q .normal a w := h
theorem q {A : Act} {e : Exit} (hf : Fr n a) (hs : A.tmps.size = a.tmps.size) (hd : A.defers = a.defers) (h : ∀ a : Act, Fr n a → (∀ t : Nat, a.tmps[t]? = A.tmps[t]?) → Q e a w) : Q e A w := h A ⟨hs.trans hf.size, hd.trans hf.defers⟩ (fun _ => rfl)
end
end Fact
end Go.Proofs.YtgjfhedgdbbinaaDoor
