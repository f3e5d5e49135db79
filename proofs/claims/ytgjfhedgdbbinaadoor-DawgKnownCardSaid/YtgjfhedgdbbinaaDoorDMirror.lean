/- Dawg: the code's way, in plain Lean: states, the registry, the states along the last word. -/
import Derived.Below
namespace Go.Proofs.YtgjfhedgdbbinaaDoor
set_option linter.unusedSimpArgs false
set_option linter.unusedVariables false
namespace Dw
structure Arc where
  byte : Nat
  out : Nat
  to : Int
instance : DecidableEq Arc := fun a b => decidable_of_iff (a.byte = b.byte ∧ a.out = b.out ∧ a.to = b.to) (by cases a; cases b; simp)
structure State where
  final : Bool
  out : Nat
  arcs : List Arc
instance : DecidableEq State := fun a b => decidable_of_iff (a.final = b.final ∧ a.out = b.out ∧ a.arcs = b.arcs) (by cases a; cases b; simp)
def zeroS : State := ⟨false, 0, []⟩
/-- a state that is being made, and the byte by which it was come to -/
structure Open where
  st : State
  by_ : Nat
/-- a word's bytes, its value -/
abbrev Wv := List Nat × Nat
/-- the number of a state, made if there is none like it -/
def finish (ss : List State) (s : State) : List State × Nat :=
  match ss.findIdx? (· = s) with
  | some i => (ss, i)
  | none => (ss ++ [s], ss.length)
/-- the least of a state's outs -/
def leastOf (s : State) : Nat :=
  match (if s.final then [s.out] else []) ++ s.arcs.map Arc.out with
  | [] => s.out
  | x :: l => l.foldl min x
/-- the outs less a number -/
def less (s : State) (n : Nat) : State := ⟨s.final, if s.final then s.out - n else s.out, s.arcs.map fun a => ⟨a.byte, a.out - n, a.to⟩⟩
/-- one state finished: the last one of the way, and the one ahead of it has an arc more -/
def close1 (ss : List State) (up o : Open) : List State × Open :=
  let n := leastOf o.st
  let r := finish ss (less o.st n)
  (r.1, ⟨⟨up.st.final, up.st.out, up.st.arcs ++ [⟨o.by_, n, (r.2 : Int)⟩]⟩, up.by_⟩)
/-- so many finished, the last one first -/
def closeN : Nat → List State → List Open → List State × List Open
  | n + 1, ss, o :: up :: way => closeN n (close1 ss up o).1 ((close1 ss up o).2 :: way)
  | _, ss, way => (ss, way)
/-- the way, the last one first, closed to a depth -/
def close (ss : List State) (way : List Open) (depth : Nat) : List State × List Open := closeN (way.length - (depth + 1)) ss way
def shared : List Nat → List Nat → Nat
  | x :: a, y :: b => if x = y then shared a b + 1 else 0
  | _, _ => 0
def opens (way : List Open) : List Nat → List Open
  | [] => way
  | b :: w => opens (⟨zeroS, b⟩ :: way) w
def mark (v : Nat) : List Open → List Open
  | o :: way => ⟨⟨true, v, o.st.arcs⟩, o.by_⟩ :: way
  | [] => []
/-- an entry comes -/
def add (x : List State × List Open) (last : List Nat) (e : Wv) : List State × List Open :=
  let d := shared last e.1
  let r := close x.1 x.2 d
  (r.1, mark e.2 (opens r.2 (e.1.drop d)))
def adds (x : List State × List Open) : List Nat → List Wv → List State × List Open
  | _, [] => x
  | last, e :: l => adds (add x last e) e.1 l
structure Fst where
  states : List State
  init : Nat
def build (l : List Wv) : Fst :=
  let x := adds ([], [⟨zeroS, 0⟩]) [] l
  let r := close x.1 x.2 0
  let root := (r.2.headD ⟨zeroS, 0⟩).st
  let n := leastOf root
  ⟨(finish r.1 (less root n)).1, n⟩
/-! the document's -/
def leastV : List Wv → Nat
  | [] => 0
  | e :: l => l.foldl (fun n x => min n x.2) e.2
/-- of entries that begin alike, up to a depth, less what was put ahead: so deep at most -/
def refS : Nat → List State → List Wv → Nat → Nat → List State × Nat
  | 0, ss, _, _, _ => (ss, 0)
  | f + 1, ss, l, depth, le =>
    let x := (List.range l.length).foldl (fun (x : List State × List Arc) i =>
      match (l.getD i ([], 0)).1[depth]? with
      | none => x
      | some b => if (x.2.getLast?.map Arc.byte) = some b then x else
        let own := (l.drop i).filter fun e => decide (e.1[depth]? = some b)
        let n := leastV own
        let r := refS f x.1 own (depth + 1) n
        (r.1, x.2 ++ [⟨b, n - le, (r.2 : Int)⟩])) (ss, [])
    let fo := l.foldl (fun (y : Bool × Nat) e => if e.1.length = depth then (true, e.2 - le) else y) (false, 0)
    finish x.1 ⟨fo.1, fo.2, x.2⟩
def refBuild (l : List Wv) : Fst := match l with
  | [] => ⟨[zeroS], 0⟩
  | l => ⟨(refS 256 [] l 0 (leastV l)).1, leastV l⟩
end Dw
end Go.Proofs.YtgjfhedgdbbinaaDoor
