/-
  Separation for the model's heap: assertions on parts of the heap, a list of them that hold apart from each other in a world ('Sat'), and what draws, new blocks and stores do to it. Plain theorems; no program in sight.
-/
import Derived.WalkKit
import Derived.Deep.Draws
namespace Go.Sep
open Go.RowKit

/-- A part of a heap. -/
abbrev HL := Nat → Option Obj
/-- What is said of a part. -/
abbrev Asn := HL → Prop

def HL.disj (f g : HL) : Prop := ∀ k, f k = none ∨ g k = none
def HL.union (f g : HL) : HL := fun k => (f k).or (g k)

theorem HL.disj_symm {f g : HL} (h : HL.disj f g) : HL.disj g f := fun k => (h k).symm
theorem HL.union_comm {f g : HL} (h : HL.disj f g) : HL.union f g = HL.union g f := by
  funext k
  rcases h k with e | e <;> simp [HL.union, e]
theorem HL.union_assoc (f g h : HL) : HL.union (HL.union f g) h = HL.union f (HL.union g h) := by
  funext k
  simp [HL.union, Option.or_assoc]
theorem HL.union_none {f g : HL} {k : Nat} : HL.union f g k = none ↔ f k = none ∧ g k = none := by
  simp [HL.union]
theorem HL.disj_union_right {f g h : HL} : HL.disj f (HL.union g h) ↔ HL.disj f g ∧ HL.disj f h := by
  constructor
  · intro H
    refine ⟨fun k => ?_, fun k => ?_⟩
    · rcases H k with e | e
      · exact .inl e
      · exact .inr (HL.union_none.1 e).1
    · rcases H k with e | e
      · exact .inl e
      · exact .inr (HL.union_none.1 e).2
  · rintro ⟨h1, h2⟩ k
    rcases h1 k with e | e
    · exact .inl e
    · rcases h2 k with e2 | e2
      · exact .inl e2
      · exact .inr (HL.union_none.2 ⟨e, e2⟩)
theorem HL.union_left {f g : HL} {k : Nat} {o : Obj} (h : f k = some o) : HL.union f g k = some o := by simp [HL.union, h]
theorem HL.union_right {f g : HL} (hd : HL.disj f g) {k : Nat} {o : Obj} (h : g k = some o) : HL.union f g k = some o := by
  rcases hd k with e | e
  · simp [HL.union, h, e]
  · rw [h] at e; cases e
theorem HL.of_union {f g : HL} {k : Nat} {o : Obj} (h : HL.union f g k = some o) : f k = some o ∨ g k = some o := by
  unfold HL.union at h
  cases hf : f k with
  | none => rw [hf] at h; exact .inr (by simpa using h)
  | some x => rw [hf] at h; exact .inl (by simpa using h)

/-- All of them hold, each on a part of its own. -/
def holds : List Asn → HL → Prop
  | [], _ => True
  | A :: l, h => ∃ f g, HL.disj f g ∧ h = HL.union f g ∧ A f ∧ holds l g

theorem holds_swap {A B : Asn} {l : List Asn} {h : HL} (H : holds (A :: B :: l) h) : holds (B :: A :: l) h := by
  obtain ⟨f, g, hd, rfl, ha, f', g', hd', rfl, hb, hl⟩ := H
  obtain ⟨d1, d2⟩ := HL.disj_union_right.1 hd
  refine ⟨f', HL.union f g', ?_, ?_, hb, f, g', d2, rfl, ha, hl⟩
  · exact HL.disj_union_right.2 ⟨HL.disj_symm d1, hd'⟩
  · rw [← HL.union_assoc, HL.union_comm d1, HL.union_assoc]

theorem holds_perm {l l' : List Asn} (p : l.Perm l') : ∀ {h : HL}, holds l h → holds l' h := by
  induction p with
  | nil => exact fun h => h
  | cons a _ ih => exact fun ⟨f, g, hd, he, ha, hl⟩ => ⟨f, g, hd, he, ha, ih hl⟩
  | swap a b l => exact fun h => holds_swap h
  | trans _ _ i1 i2 => exact fun h => i2 (i1 h)

theorem holds_left {l : List Asn} : ∀ (f : HL) {g : HL}, HL.disj f g → holds l g → holds l (HL.union f g) := by
  induction l with
  | nil => exact fun _ _ _ _ => trivial
  | cons A l ih =>
    rintro f g hd ⟨f1, f2, hd', rfl, ha, hl⟩
    obtain ⟨d1, d2⟩ := HL.disj_union_right.1 hd
    refine ⟨f1, HL.union f f2, HL.disj_union_right.2 ⟨HL.disj_symm d1, hd'⟩, ?_, ha, ih f d2 hl⟩
    rw [← HL.union_assoc, HL.union_comm d1, HL.union_assoc]

theorem holds_append {l : List Asn} : ∀ {l' : List Asn} {h : HL}, holds (l ++ l') h ↔ ∃ f g, HL.disj f g ∧ h = HL.union f g ∧ holds l f ∧ holds l' g := by
  induction l with
  | nil =>
    intro l' h
    constructor
    · exact fun H => ⟨fun _ => none, h, fun _ => .inl rfl, by funext k; simp [HL.union], trivial, H⟩
    · rintro ⟨f, g, hd, rfl, _, H⟩
      cases l' with
      | nil => trivial
      | cons B l' =>
        obtain ⟨f', g', hd', rfl, hb, hl⟩ := H
        obtain ⟨d1, d2⟩ := HL.disj_union_right.1 hd
        -- what is left over goes to the last
        exact holds_left f (HL.disj_union_right.2 ⟨d1, d2⟩) ⟨f', g', hd', rfl, hb, hl⟩
  | cons A l ih =>
    intro l' h
    constructor
    · rintro ⟨f, g, hd, rfl, ha, H⟩
      obtain ⟨f', g', hd', rfl, hl, hl'⟩ := ih.1 H
      obtain ⟨d1, d2⟩ := HL.disj_union_right.1 hd
      exact ⟨HL.union f f', g', HL.disj_symm (HL.disj_union_right.2 ⟨HL.disj_symm d2, HL.disj_symm hd'⟩), (HL.union_assoc _ _ _).symm, ⟨f, f', d1, rfl, ha, hl⟩, hl'⟩
    · rintro ⟨f, g, hd, rfl, ⟨f1, f2, hd', rfl, ha, hl⟩, hl'⟩
      obtain ⟨d1, d2⟩ := HL.disj_union_right.1 (HL.disj_symm hd)
      exact ⟨f1, HL.union f2 g, HL.disj_union_right.2 ⟨hd', HL.disj_symm d1⟩, HL.union_assoc _ _ _, ha, ih.2 ⟨f2, g, HL.disj_symm d2, rfl, hl, hl'⟩⟩

theorem eraseIdx_perm {α : Type} : ∀ (l : List α) (i : Nat) (h : i < l.length), (l[i] :: l.eraseIdx i).Perm l
  | [], i, h => by simp at h
  | a :: l, 0, _ => by simp
  | a :: l, i + 1, h => by
    simp only [List.getElem_cons_succ, List.eraseIdx_cons_succ]
    exact (List.Perm.swap _ _ _).trans ((eraseIdx_perm l i (by simpa using h)).cons a)

/-- In the world 'w' (the streams and the tape those of 'X', no block of X gone) all of the list hold, each on blocks of its own. -/
def Sat (X w : World) (l : List Asn) : Prop :=
  w.os = X.os ∧ w.tape = X.tape ∧ w.output = X.output ∧ X.heap.size ≤ w.heap.size ∧ ∃ h, holds l h ∧ ∀ b o, h b = some o → w.heap[b]? = some o

/-- Several in one. -/
def All (l : List Asn) : Asn := holds l
/-- Block 'b' holds 'o'. -/
def pt (b : Nat) (o : Obj) : Asn := fun h => h b = some o
/-- Block 'b' is a row of cells. -/
def blk (b : Nat) (T : TypeId) (cs : Array Value) : Asn := pt b (.cells cs T (0, 0))
/-- There is an x. -/
def Ex {α : Type} (A : α → Asn) : Asn := fun h => ∃ x, A x h
/-- A fact beside. -/
def Pu (φ : Prop) (A : Asn) : Asn := fun h => φ ∧ A h
/-- Nothing. -/
def nop : Asn := fun _ => True
/-- Whatever lay in W. -/
def old (W : World) : Asn := fun h => ∀ b, b < W.heap.size → h b = W.heap[b]?

section
variable {X w w' : World} {A B : Asn} {l l' : List Asn}

theorem Sat.perm (h : Sat X w l) (p : l.Perm l') : Sat X w l' :=
  let ⟨h1, h2, h3, h4, H, hh, hi⟩ := h
  ⟨h1, h2, h3, h4, H, holds_perm p hh, hi⟩
theorem Sat.swap (h : Sat X w (A :: B :: l)) : Sat X w (B :: A :: l) := h.perm (.swap _ _ _)
/-- The one at place 'i' comes first. -/
theorem Sat.front (h : Sat X w l) (i : Nat) (hi : i < l.length) : Sat X w (l[i] :: l.eraseIdx i) := h.perm (eraseIdx_perm _ _ hi).symm
theorem Sat.drop (h : Sat X w (A :: l)) : Sat X w l := by
  obtain ⟨h1, h2, h3, h4, H, ⟨f, g, hd, rfl, _, hl⟩, hi⟩ := h
  exact ⟨h1, h2, h3, h4, g, hl, fun b o e => hi b o (HL.union_right hd e)⟩
theorem Sat.drop2 (h : Sat X w (A :: B :: l)) : Sat X w (A :: l) := h.swap.drop
/-- The first one is weakened. -/
theorem Sat.imp (h : Sat X w (A :: l)) (H : ∀ k, A k → B k) : Sat X w (B :: l) := by
  obtain ⟨h1, h2, h3, h4, k, ⟨f, g, hd, rfl, ha, hl⟩, hi⟩ := h
  exact ⟨h1, h2, h3, h4, _, ⟨f, g, hd, rfl, H _ ha, hl⟩, hi⟩
theorem Sat.nop (h : Sat X w l) : Sat X w (nop :: l) := by
  obtain ⟨h1, h2, h3, h4, k, hl, hi⟩ := h
  exact ⟨h1, h2, h3, h4, k, ⟨fun _ => none, k, fun _ => .inl rfl, by funext k; simp [HL.union], trivial, hl⟩, hi⟩
theorem Sat.all (h : Sat X w (All l :: l')) : Sat X w (l ++ l') := by
  obtain ⟨h1, h2, h3, h4, k, ⟨f, g, hd, rfl, ha, hl⟩, hi⟩ := h
  exact ⟨h1, h2, h3, h4, _, holds_append.2 ⟨f, g, hd, rfl, ha, hl⟩, hi⟩
theorem Sat.shut (h : Sat X w (l ++ l')) : Sat X w (All l :: l') := by
  obtain ⟨h1, h2, h3, h4, k, hl, hi⟩ := h
  obtain ⟨f, g, hd, rfl, ha, hl⟩ := holds_append.1 hl
  exact ⟨h1, h2, h3, h4, _, ⟨f, g, hd, rfl, ha, hl⟩, hi⟩
/-- The k-th of a family comes out. -/
theorem Sat.focus (h : Sat X w (All l :: l')) (k : Nat) (hk : k < l.length) : Sat X w (l[k] :: All (l.eraseIdx k) :: l') := by
  have h1 : Sat X w ((l[k] :: l.eraseIdx k) ++ l') := h.all.perm ((eraseIdx_perm _ _ hk).symm.append_right l')
  have h2 : Sat X w (l.eraseIdx k ++ (l[k] :: l')) := h1.perm List.perm_middle.symm
  exact h2.shut.swap
/-- The k-th of a family goes back, turned. -/
theorem Sat.unfocus {k : Nat} (h : Sat X w (A :: All (l.eraseIdx k) :: l')) (hk : k < l.length) : Sat X w (All (l.set k A) :: l') := by
  have h2 : Sat X w (l.eraseIdx k ++ (A :: l')) := h.swap.all
  have h1 : Sat X w ((A :: l.eraseIdx k) ++ l') := h2.perm List.perm_middle
  refine (h1.perm (List.Perm.append_right l' ?_)).shut
  have hk' : k < (l.set k A).length := by simpa using hk
  have p := eraseIdx_perm _ _ hk'
  simp only [List.getElem_set_self, List.eraseIdx_set_eq] at p
  exact p
theorem Sat.ex {α : Type} {A : α → Asn} (h : Sat X w (Ex A :: l)) : ∃ x, Sat X w (A x :: l) := by
  obtain ⟨h1, h2, h3, h4, k, ⟨f, g, hd, rfl, ⟨x, ha⟩, hl⟩, hi⟩ := h
  exact ⟨x, h1, h2, h3, h4, _, ⟨f, g, hd, rfl, ha, hl⟩, hi⟩
theorem Sat.mkEx {α : Type} {A : α → Asn} (x : α) (h : Sat X w (A x :: l)) : Sat X w (Ex A :: l) := h.imp fun _ ha => ⟨x, ha⟩
theorem Sat.pu {φ : Prop} (h : Sat X w (Pu φ A :: l)) : φ ∧ Sat X w (A :: l) := by
  obtain ⟨h1, h2, h3, h4, k, ⟨f, g, hd, rfl, ⟨hp, ha⟩, hl⟩, hi⟩ := h
  exact ⟨hp, h1, h2, h3, h4, _, ⟨f, g, hd, rfl, ha, hl⟩, hi⟩
theorem Sat.mkPu {φ : Prop} (hp : φ) (h : Sat X w (A :: l)) : Sat X w (Pu φ A :: l) := h.imp fun _ ha => ⟨hp, ha⟩

/-! ### What the world says -/
theorem Sat.heap {b : Nat} {o : Obj} (h : Sat X w (pt b o :: l)) : w.heap[b]? = some o := by
  obtain ⟨_, _, _, _, k, ⟨f, g, hd, rfl, ha, hl⟩, hi⟩ := h
  exact hi b o (HL.union_left ha)
theorem Sat.lt {b : Nat} {o : Obj} (h : Sat X w (pt b o :: l)) : b < w.heap.size := (Array.getElem?_eq_some_iff.1 h.heap).1
theorem Sat.ne {b c : Nat} {o o' : Obj} (h : Sat X w (pt b o :: pt c o' :: l)) : b ≠ c := by
  obtain ⟨_, _, _, _, k, ⟨f, g, hd, rfl, ha, f', g', hd', rfl, hb, _⟩, hi⟩ := h
  rintro rfl
  have h1 : f b = some o := ha
  have h2 : f' b = some o' := hb
  rcases hd b with e | e
  · rw [h1] at e; cases e
  · rw [HL.union_left h2] at e; cases e
theorem Sat.cell {b : Nat} {T : TypeId} {cs : Array Value} (h : Sat X w (blk b T cs :: l)) (i : Nat) : w.cell? ⟨b, i, none⟩ = cs[i]? := cell_of_row w b i cs T (0, 0) h.heap
theorem Sat.frozen {b : Nat} {T : TypeId} {cs : Array Value} (h : Sat X w (blk b T cs :: l)) (i : Nat) : w.frozen? ⟨b, i, none⟩ = false := by
  have := Sat.heap h
  simp [World.frozen?, this]
theorem Sat.oldAt {W : World} (h : Sat X w (old W :: l)) : ∀ b, b < W.heap.size → w.heap[b]? = W.heap[b]? := by
  obtain ⟨_, _, _, _, k, ⟨f, g, hd, rfl, ha, hl⟩, hi⟩ := h
  intro b hb
  rw [Array.getElem?_eq_getElem hb]
  refine hi b _ (HL.union_left ?_)
  rw [ha b hb, Array.getElem?_eq_getElem hb]
theorem Sat.oldLt {W : World} {b : Nat} {o : Obj} (h : Sat X w (pt b o :: old W :: l)) : W.heap.size ≤ b := by
  obtain ⟨_, _, _, _, k, ⟨f, g, hd, rfl, ha, f', g', hd', rfl, hb, _⟩, hi⟩ := h
  rcases Nat.lt_or_ge b W.heap.size with hlt | hge
  · have h1 : f b = some o := ha
    have h2 := hb b hlt
    rw [Array.getElem?_eq_getElem hlt] at h2
    rcases hd b with e | e
    · rw [h1] at e; cases e
    · rw [HL.union_left h2] at e; cases e
  · exact hge
theorem Sat.below {W : World} (h : Sat W w (old W :: l)) : Below W.heap.size W w :=
  ⟨h.1, h.2.1, h.2.2.1, h.2.2.2.1, h.oldAt⟩
theorem Sat.start (W : World) : Sat W W [old W] :=
  ⟨rfl, rfl, rfl, Nat.le_refl _, fun b => W.heap[b]?, ⟨fun b => W.heap[b]?, fun _ => none, fun _ => .inr rfl, by funext k; simp [HL.union], fun _ _ => rfl, trivial⟩, fun _ _ h => h⟩

/-! ### What happens to a world -/
theorem Sat.drew (h : Sat X w l) : Sat X w.drew l := h
theorem Sat.drewN (h : Sat X w l) (n : Nat) : Sat X (w.drewN n) l := h
/-- Whatever keeps the blocks of a part. -/
theorem Sat.kept (h : Sat X w l) (h1 : w'.os = w.os) (h2 : w'.tape = w.tape) (h3 : w'.output = w.output) (h4 : w.heap.size ≤ w'.heap.size) (h5 : ∀ (b : Nat) (o : Obj), w.heap[b]? = some o → w'.heap[b]? = some o) : Sat X w' l := by
  obtain ⟨e1, e2, e3, e4, k, hl, hi⟩ := h
  exact ⟨h1.trans e1, h2.trans e2, h3.trans e3, Nat.le_trans e4 h4, k, hl, fun b o e => h5 b o (hi b o e)⟩
/-- The world has only grown. -/
abbrev Ext (w w' : World) : Prop := Below w.heap.size w w'
theorem Ext.refl (w : World) : Ext w w := Below.refl _ w
theorem Ext.trans {a b c : World} (h : Ext a b) (k : Ext b c) : Ext a c := Below.trans h (Below.mono k h.size)
theorem Ext.alloc {a b : World} (h : Ext a b) (o : Obj) : Ext a (b.alloc o) := Below.alloc h h.size o
theorem Ext.drew {a b : World} (h : Ext a b) : Ext a b.drew := Below.drew h
theorem Ext.drewN {a b : World} (h : Ext a b) (n : Nat) : Ext a (b.drewN n) := ⟨h.os, h.tape, h.output, h.size, h.block⟩
theorem Sat.ext (h : Sat X w l) (e : Ext w w') : Sat X w' l :=
  h.kept e.os e.tape e.output e.size fun b _ hb => (e.block b (Array.getElem?_eq_some_iff.1 hb).1).trans hb
theorem Ext.cellAt {w w' : World} (e : Ext w w') {p : Addr} {v : Value} (h : w.cell? p = some v) : w'.cell? p = some v :=
  (Below.cell e (World.block_lt_of_cell? w p h)).trans h
theorem Sat.alloc (h : Sat X w l) (o : Obj) : Sat X (w.alloc o) l :=
  h.kept rfl rfl rfl (by simp) fun b u hb => (Below.heap_alloc w o b (Array.getElem?_eq_some_iff.1 hb).1).trans hb
/-- A new block, owned. -/
theorem Sat.new (h : Sat X w l) (o : Obj) : Sat X (w.alloc o) (pt w.heap.size o :: l) := by
  obtain ⟨e1, e2, e3, e4, k, hl, hi⟩ := h
  have hlt : ∀ b u, k b = some u → b < w.heap.size := fun b u e => (Array.getElem?_eq_some_iff.1 (hi b u e)).1
  refine ⟨e1, e2, e3, Nat.le_trans e4 (by simp), HL.union (fun b => if b = w.heap.size then some o else none) k, ⟨_, k, fun b => ?_, rfl, ?_, hl⟩, fun b u e => ?_⟩
  · by_cases hb : b = w.heap.size
    · right
      cases hk : k b with
      | none => rfl
      | some u => have := hlt b u hk; omega
    · left; simp [hb]
  · show (if w.heap.size = w.heap.size then some o else none) = some o
    simp
  · rcases HL.of_union e with e | e
    · by_cases hb : b = w.heap.size
      · subst hb
        simp at e
        subst e
        exact heap_alloc_new w _
      · simp [hb] at e
    · exact (Below.heap_alloc w o b (hlt b u e)).trans (hi b u e)
theorem Sat.newBlk (h : Sat X w l) (T : TypeId) (cs : Array Value) : Sat X (w.alloc (.cells cs T)) (blk w.heap.size T cs :: l) := h.new _
/-- The first block is turned into another object. -/
theorem Sat.turn {b : Nat} {o o' : Obj} (h : Sat X w (pt b o :: l)) (h1 : w'.os = w.os) (h2 : w'.tape = w.tape) (h3 : w'.output = w.output) (h4 : w.heap.size ≤ w'.heap.size)
    (hb : w'.heap[b]? = some o') (hk : ∀ k, k < w.heap.size → k ≠ b → w'.heap[k]? = w.heap[k]?) : Sat X w' (pt b o' :: l) := by
  obtain ⟨e1, e2, e3, e4, k, ⟨f, g, hd, rfl, ha, hl⟩, hi⟩ := h
  have hgb : g b = none := by
    rcases hd b with e | e
    · have : f b = some o := ha
      rw [this] at e; cases e
    · exact e
  refine ⟨h1.trans e1, h2.trans e2, h3.trans e3, Nat.le_trans e4 h4, HL.union (fun c => if c = b then some o' else none) g, ⟨_, g, fun c => ?_, rfl, ?_, hl⟩, fun c u e => ?_⟩
  · by_cases hc : c = b
    · right; rw [hc]; exact hgb
    · left; simp [hc]
  · show (if b = b then some o' else none) = some o'
    simp
  · rcases HL.of_union e with e | e
    · by_cases hc : c = b
      · subst hc
        simp at e
        subst e
        exact hb
      · simp [hc] at e
    · have hu := hi c u (HL.union_right hd e)
      have hcb : c ≠ b := fun hc => by rw [hc, hgb] at e; cases e
      exact (hk c (Array.getElem?_eq_some_iff.1 hu).1 hcb).trans hu
theorem Sat.set {b : Nat} {T : TypeId} {cs : Array Value} (h : Sat X w (blk b T cs :: l)) (i : Nat) (v : Value) : Sat X (w.setCell ⟨b, i, none⟩ v) (blk b T (cs.setIfInBounds i v) :: l) := by
  have hb := Sat.heap h
  refine Sat.turn h rfl rfl rfl (by simp [World.setCell]) ?_ (fun k _ hk => Below.heap_setCell w _ v k hk)
  simp [World.setCell, Array.getElem?_modify, hb]

/-! ### A world that is written out, block by block -/
/-- Only the blocks of S, and new ones, may have turned. -/
structure Only (S : Nat → Prop) (w w' : World) : Prop where
  os : w'.os = w.os
  tape : w'.tape = w.tape
  output : w'.output = w.output
  size : w.heap.size ≤ w'.heap.size
  block : ∀ k, k < w.heap.size → ¬ S k → w'.heap[k]? = w.heap[k]?
theorem Only.refl (S : Nat → Prop) (w : World) : Only S w w := ⟨rfl, rfl, rfl, Nat.le_refl _, fun _ _ _ => rfl⟩
theorem Only.alloc {S : Nat → Prop} {a b : World} (h : Only S a b) (o : Obj) : Only S a (b.alloc o) :=
  ⟨h.os, h.tape, h.output, Nat.le_trans h.size (by simp), fun k hk hs => (Below.heap_alloc b o k (Nat.lt_of_lt_of_le hk h.size)).trans (h.block k hk hs)⟩
theorem Only.drew {S : Nat → Prop} {a b : World} (h : Only S a b) : Only S a b.drew := ⟨h.os, h.tape, h.output, h.size, h.block⟩
theorem Only.drewN {S : Nat → Prop} {a b : World} (h : Only S a b) (n : Nat) : Only S a (b.drewN n) := ⟨h.os, h.tape, h.output, h.size, h.block⟩
theorem Only.setCell {S : Nat → Prop} {a b : World} (h : Only S a b) (p : Addr) (v : Value) (hp : S p.block ∨ a.heap.size ≤ p.block) : Only S a (b.setCell p v) :=
  ⟨h.os, h.tape, h.output, by simpa [World.setCell] using h.size, fun k hk hs => (Below.heap_setCell b p v k (by
    rintro rfl
    rcases hp with hp | hp
    · exact hs hp
    · omega)).trans (h.block k hk hs)⟩
theorem Only.ext {S : Nat → Prop} {a b c : World} (h : Only S a b) (e : Ext b c) : Only S a c :=
  ⟨e.os.trans h.os, e.tape.trans h.tape, e.output.trans h.output, Nat.le_trans h.size e.size, fun k hk hs => (e.block k (Nat.lt_of_lt_of_le hk h.size)).trans (h.block k hk hs)⟩
theorem at_refl {a : World} {b : Nat} {o : Obj} (h : a.heap[b]? = some o) : a.heap[b]? = some o := h
theorem at_same {W : World} {b i : Nat} {v : Value} {cs : Array Value} {T : TypeId} (h : W.heap[b]? = some (.cells cs T (0, 0))) : (W.setCell ⟨b, i, none⟩ v).heap[b]? = some (.cells (cs.setIfInBounds i v) T (0, 0)) := by
  simp [World.setCell, Array.getElem?_modify, h]
theorem at_far {W : World} {b : Nat} {p : Addr} {v : Value} {o : Obj} (h : W.heap[b]? = some o) (hne : b ≠ p.block) : (W.setCell p v).heap[b]? = some o := (Below.heap_setCell W p v b hne).trans h
theorem at_alloc {W : World} {b : Nat} {o u : Obj} (h : W.heap[b]? = some o) : (W.alloc u).heap[b]? = some o := (Below.heap_alloc W u b (Array.getElem?_eq_some_iff.1 h).1).trans h
theorem at_eq {W : World} {b : Nat} {cs cs' : Array Value} {T : TypeId} (h1 : W.heap[b]? = some (.cells cs T (0, 0))) (h2 : cs = cs') : W.heap[b]? = some (.cells cs' T (0, 0)) := h2 ▸ h1
theorem at_new {W : World} {o : Obj} : (W.alloc o).heap[W.heap.size]? = some o := heap_alloc_new W o
theorem at_drew {W : World} {b : Nat} {o : Obj} (h : W.heap[b]? = some o) : W.drew.heap[b]? = some o := h
theorem at_drewN {W : World} {b n : Nat} {o : Obj} (h : W.heap[b]? = some o) : (W.drewN n).heap[b]? = some o := h
theorem at_ext {W W' : World} {b : Nat} {o : Obj} (e : Ext W W') (h : W.heap[b]? = some o) : W'.heap[b]? = some o := (e.block b (Array.getElem?_eq_some_iff.1 h).1).trans h
/-- A store in an object. -/
def putAt (i : Nat) (v : Value) : Obj → Obj
  | .cells cs T z => .cells (cs.setIfInBounds i v) T z
  | o => o
theorem putAt_cells (i : Nat) (v : Value) (cs : Array Value) (T : TypeId) (z : Nat × Nat) : putAt i v (.cells cs T z) = .cells (cs.setIfInBounds i v) T z := rfl
theorem heapSame (W : World) (b i : Nat) (v : Value) : (W.setCell ⟨b, i, none⟩ v).heap[b]? = (W.heap[b]?).map (putAt i v) := by
  simp only [World.setCell, Array.getElem?_modify, if_true]
  cases W.heap[b]? with
  | none => rfl
  | some o => cases o <;> simp [putAt]
theorem heapFar (W : World) {b : Nat} {p : Addr} (v : Value) (h : b ≠ p.block) : (W.setCell p v).heap[b]? = W.heap[b]? := Below.heap_setCell W p v b h
theorem heapAlloc (W : World) {b : Nat} (o : Obj) (h : b < W.heap.size) : (W.alloc o).heap[b]? = W.heap[b]? := Below.heap_alloc W o b h
theorem heapDrew (W : World) (b : Nat) : W.drew.heap[b]? = W.heap[b]? := rfl
theorem heapDrewN (W : World) (b n : Nat) : (W.drewN n).heap[b]? = W.heap[b]? := rfl
theorem sizeSet (W : World) (p : Addr) (v : Value) : (W.setCell p v).heap.size = W.heap.size := by simp [World.setCell]
theorem sizeAlloc (W : World) (o : Obj) : (W.alloc o).heap.size = W.heap.size + 1 := by simp
theorem sizeDrew (W : World) : W.drew.heap.size = W.heap.size := rfl
theorem Sat.only {b : Nat} {o o' : Obj} (h : Sat X w (pt b o :: l)) (hO : Only (· = b) w w') (hb : w'.heap[b]? = some o') : Sat X w' (pt b o' :: l) :=
  Sat.turn h hO.os hO.tape hO.output hO.size hb fun k hk hne => hO.block k hk hne
end
end Go.Sep
