/-
  CheckpointCut, the plain side: gates, nets and what happens in them, as functions on lists.
-/
import Derived.KernelRfl
namespace Go.Ck

def upd {α : Type} (f : Nat → α) (k : Nat) (v : α) : Nat → α := fun j => if j = k then v else f j
theorem upd_same {α : Type} (f : Nat → α) (k : Nat) (v : α) : upd f k v k = v := by simp [upd]
theorem upd_ne {α : Type} (f : Nat → α) {k j : Nat} (v : α) (h : j ≠ k) : upd f k v j = f j := by simp [upd, h]

/-- A message: a barrier of the checkpoint n, or a mark n. -/
structure Msg where
  bar : Bool
  n : Nat

structure Gate where
  chs : Nat
  came : List Nat
  num : Nat
  kind : Nat

def Gate.busy (g : Gate) : Bool := decide (0 < g.num)
def Gate.put (g : Gate) (i : Nat) : List Nat := if i ∈ g.came then g.came else g.came ++ [i]
def Gate.full (g : Gate) (i : Nat) : Bool := decide ((g.put i).length = g.chs)
def Gate.barrier (g : Gate) (i n κ : Nat) : Gate × Int :=
  (if g.full i then { g with num := 0, kind := κ, came := [] } else { g with num := n, kind := κ, came := g.put i },
   if (κ = 0 ∧ g.full i = true) ∨ (κ = 1 ∧ g.busy = false) then 4 else 3)
def Gate.arrive (g : Gate) (i : Nat) (m : Msg) (κ : Nat) : Gate × Int :=
  if g.busy = true ∧ g.kind ≠ 1 ∧ i ∈ g.came then (g, 0)
  else if m.bar = false ∧ g.busy = true ∧ g.kind = 1 ∧ i ∉ g.came then (g, 2)
  else if m.bar = false then (g, 1)
  else if m.n < 1 ∨ (g.busy = true ∧ (m.n ≠ g.num ∨ κ ≠ g.kind ∨ i ∈ g.came)) then (g, -1)
  else g.barrier i m.n κ

abbrev Edges := List (Nat × Nat)
def fr (E : Edges) (e : Nat) : Nat := (E.getD e (0, 0)).1
def tt (E : Edges) (e : Nat) : Nat := (E.getD e (0, 0)).2
/-- The first n channels from i, to i. -/
def outsTo (E : Edges) (i n : Nat) : List Nat := (List.range n).filter fun k => fr E k == i
def insTo (E : Edges) (i n : Nat) : List Nat := (List.range n).filter fun k => tt E k == i
def outs (E : Edges) (i : Nat) : List Nat := outsTo E i E.length
def ins (E : Edges) (i : Nat) : List Nat := insTo E i E.length
def inb (E : Edges) (e : Nat) : Nat := (insTo E (tt E e) e).length
def source (E : Edges) (i : Nat) : Bool := (ins E i).isEmpty

structure Net where
  chan : Nat → List Msg
  gate : Nat → Gate
  box : Nat → List (Nat × Msg)
  rep : Nat → Bool
  made : Nat → List Nat
  boxed : Nat → List Nat
  handled : Nat → List Nat
  flying : Nat → List Nat
  kind : Nat
  num : Nat

section
variable (E : Edges) (nI : Nat)

/-- produce, the first n channels. -/
def produceTo (N : Net) (i : Nat) (m : Msg) (n : Nat) : Net :=
  { N with box := upd N.box i (N.box i ++ (outsTo E i n).map fun k => (k, m)),
           made := fun k => if k < n ∧ fr E k = i ∧ N.rep i = false then N.made k ++ [m.n] else N.made k }
def produce (N : Net) (i : Nat) (m : Msg) : Net := produceTo E N i m E.length
def firsts (N : Net) (i n : Nat) : List (Nat × Msg) := (outsTo E i n).map fun k => (k, ⟨true, N.num⟩)
/-- What of a list of items is for the channel e. -/
def forE (l : List (Nat × Msg)) (e : Nat) : List Msg := (l.filter fun y => y.1 == e).map fun y => y.2
def nums (l : List Msg) : List Nat := l.map fun m => m.n
def report (N : Net) (i : Nat) : Net :=
  if N.kind = 0 then { N with rep := upd N.rep i true, box := upd N.box i (N.box i ++ firsts E N i E.length) }
  else { N with rep := upd N.rep i true, boxed := fun e => N.boxed e ++ nums (forE (N.box i) e), box := upd N.box i (firsts E N i E.length ++ N.box i) }
def free (N : Net) (y : Nat × Msg) : Bool := (N.chan y.1).length != 4
def flush (N : Net) (i : Nat) : Option Net :=
  match (N.box i).findIdx? (free N) with
  | none => none
  | some j => some { N with box := upd N.box i ((N.box i).eraseIdx j), chan := upd N.chan ((N.box i).getD j (0, ⟨false, 0⟩)).1 (N.chan ((N.box i).getD j (0, ⟨false, 0⟩)).1 ++ [((N.box i).getD j (0, ⟨false, 0⟩)).2]) }
def hear (N : Net) (e : Nat) (m : Msg) (a : Int) : Net :=
  let N3 : Net := if N.rep (tt E e) = true then N else { N with handled := upd N.handled e (N.handled e ++ [m.n]) }
  let N4 : Net := if a = 2 then { N3 with flying := upd N3.flying e (N3.flying e ++ [m.n]) } else N3
  if 0 < m.n then produce E N4 (tt E e) ⟨false, m.n - 1⟩ else N4
def take (N : Net) (e : Nat) : Net × Bool × Bool :=
  match N.chan e with
  | [] => (N, false, true)
  | m :: rest =>
    if N.box (tt E e) ≠ [] ∧ (N.kind ≠ 1 ∨ m.bar = false) then (N, false, true)
    else
      let ga := (N.gate (tt E e)).arrive (inb E e) m N.kind
      if ga.2 = 0 then (N, false, true)
      else if ga.2 = -1 then (N, false, false)
      else
        let N2 : Net := { N with gate := upd N.gate (tt E e) ga.1, chan := upd N.chan e rest }
        if ga.2 = 1 ∨ ga.2 = 2 then (hear E N2 e m ga.2, true, true)
        else if ga.2 = 4 then (report E N2 (tt E e), true, true)
        else (N2, true, true)
def noBarI (l : List (Nat × Msg)) : Bool := l.all fun y => !y.2.bar
def noBar (l : List Msg) : Bool := l.all fun m => !m.bar
def whole (N : Net) : Bool :=
  ((List.range nI).all fun i => N.rep i && !(N.gate i).busy && noBarI (N.box i)) && (List.range E.length).all fun e => noBar (N.chan e)
def clear (N : Net) : Net := { N with rep := fun _ => false, made := fun _ => [], boxed := fun _ => [], handled := fun _ => [], flying := fun _ => [] }
def consistentAt (N : Net) (e : Nat) : Bool :=
  (N.handled e ++ N.flying e ++ N.boxed e == N.made e) && (!(N.kind == 0) || ((N.flying e).isEmpty && (N.boxed e).isEmpty))
def consistent (N : Net) : Bool := (List.range E.length).all fun e => consistentAt N e
/-- What stands on the channel e: in it, then in the outbox of its sender. -/
def str (N : Net) (e : Nat) : List Msg := N.chan e ++ forE (N.box (fr E e)) e
/-- The sources below n report. -/
def reports (N : Net) : Nat → Net
  | 0 => N
  | n + 1 => if source E n = true then report E (reports N n) n else reports N n
def start (N : Net) (number κ : Nat) : Net :=
  reports E { clear { N with num := number, kind := κ } with made := fun e => if e < E.length then nums (str E N e) else [] } nI
end
end Go.Ck
