/-
  Separation, slices: a slice of the call's own as an assertion; reading, storing, appending.
-/
import Derived.Test.YtacklfjpbboijaaSep
import Derived.Maps.AppendAt
import Derived.Laws.AppendOwnNone
namespace Go.Sep
open Go.RowKit

/-- The slice v has n elements of type e (size cells each), the cells xs, and owns its array. -/
def rowA (e : TypeId) (size : Nat) (v : Value) (n : Nat) (xs : List Value) : Asn := fun h => xs.length = n * size ∧
  ((v = .slice none 0 0 ∧ n = 0) ∨ ∃ g cap cur, v = .slice (some ⟨g, 0, none⟩) n cap ∧ h g = some (.cells cur e (0, 0)) ∧ n ≤ cap ∧ cap ≤ maxLen ∧ cur.size = cap * size ∧ cur.toList.take (n * size) = xs)

section
variable {X w w' : World} {l : List Asn} {e : TypeId} {size n : Nat} {v : Value} {xs : List Value}

theorem Sat.len (h : Sat X w (rowA e size v n xs :: l)) : xs.length = n * size := by
  obtain ⟨_, _, _, _, k, ⟨f, g, hd, rfl, ha, hl⟩, hi⟩ := h
  exact ha.1
theorem Sat.owns (h : Sat X w (rowA e size v n xs :: l)) : w.ownsRow 0 e size v n xs := by
  obtain ⟨_, _, _, _, k, ⟨f, g, hd, rfl, ⟨h1, h2⟩, hl⟩, hi⟩ := h
  refine ⟨h1, h2.imp id ?_⟩
  rintro ⟨g0, cap, cur, rfl, hg, h3⟩
  exact ⟨g0, cap, cur, rfl, Nat.zero_le _, hi g0 _ (HL.union_left hg), h3⟩
theorem Sat.rowNil (h : Sat X w l) : Sat X w (rowA e size (.slice none 0 0) 0 [] :: l) := h.nop.imp fun _ _ => ⟨by simp, .inl ⟨rfl, rfl⟩⟩
/-- What an owned slice looks like. -/
theorem Sat.row (h : Sat X w (rowA e size v n xs :: l)) : ∃ A cap, v = .slice A n cap ∧ n ≤ cap ∧ cap ≤ maxLen ∧ (A = none → n = 0) ∧
    ∀ a, A = some a → ∃ g, a = ⟨g, 0, none⟩ ∧ g < w.heap.size ∧ (∀ j u, xs[j]? = some u → w.cell? ⟨g, j, none⟩ = some u) ∧ ∀ j, w.frozen? ⟨g, j, none⟩ = false := by
  rcases h.owns.2 with ⟨rfl, rfl⟩ | ⟨g, cap, cur, rfl, _, hg, h1, h2, h3, h4⟩
  · exact ⟨none, 0, rfl, Nat.le_refl _, Nat.zero_le _, fun _ => rfl, fun a h => by cases h⟩
  · refine ⟨_, cap, rfl, h1, h2, fun h => (by cases h), fun a ha => ?_⟩
    cases ha
    refine ⟨g, rfl, (Array.getElem?_eq_some_iff.1 hg).1, fun j u hu => ?_, fun j => by simp [World.frozen?, hg]⟩
    rw [cell_of_row w g j cur e (0, 0) hg]
    rw [← h4, List.getElem?_take] at hu
    split at hu
    · simpa using hu
    · cases hu
/-- .. with elements. -/
theorem Sat.rowAt (h : Sat X w (rowA e size v n xs :: l)) (hn : 0 < n) : ∃ g cap, v = .slice (some ⟨g, 0, none⟩) n cap ∧ n ≤ cap ∧ cap ≤ maxLen ∧ g < w.heap.size ∧
    (∀ j u, xs[j]? = some u → w.cell? ⟨g, j, none⟩ = some u) ∧ ∀ j, w.frozen? ⟨g, j, none⟩ = false := by
  obtain ⟨A, cap, rfl, h1, h2, h3, h4⟩ := h.row
  cases A with
  | none => have := h3 rfl; omega
  | some a =>
    obtain ⟨g, rfl, h5, h6, h7⟩ := h4 a rfl
    exact ⟨g, cap, rfl, h1, h2, h5, h6, h7⟩

/-- The row has turned, within its array or into a new one. -/
theorem Sat.grown {n' : Nat} {v' : Value} {xs' : List Value} (h : Sat X w (rowA e size v n xs :: l)) (hg : w.grownBy w' v.ownBlock) (ho : w'.ownsRow 0 e size v' n' xs') (hb : v'.ownBlock = v.ownBlock ∨ v'.ownBlock = some w.heap.size) :
    Sat X w' (rowA e size v' n' xs' :: l) := by
  obtain ⟨e1, e2, e3, e4, k, ⟨f, g, hd, rfl, ⟨h1, h2⟩, hl⟩, hi⟩ := h
  have hgown : ∀ b, v.ownBlock = some b → g b = none := by
    intro b hb
    rcases h2 with ⟨rfl, _⟩ | ⟨g0, cap, cur, rfl, hg0, _⟩
    · simp [Value.ownBlock] at hb
    · simp [Value.ownBlock] at hb
      subst hb
      rcases hd g0 with e | e
      · rw [hg0] at e; cases e
      · exact e
  have hgsz : ∀ b o, g b = some o → b < w.heap.size := fun b o hgo => (Array.getElem?_eq_some_iff.1 (hi b o (HL.union_right hd hgo))).1
  have hgnew : ∀ b, v'.ownBlock = some b → g b = none := by
    intro b hb'
    rcases hb with h3 | h3
    · exact hgown b (by rw [← h3]; exact hb')
    · rw [h3] at hb'
      cases hb'
      cases hq : g w.heap.size with
      | none => rfl
      | some o => have := hgsz _ o hq; omega
  have hkeep : ∀ b o, g b = some o → w'.heap[b]? = some o := by
    intro b o hgo
    have hu := hi b o (HL.union_right hd hgo)
    rw [hg.block b (hgsz b o hgo) (fun h3 => by rw [hgown b h3.symm] at hgo; cases hgo)]
    exact hu
  refine ⟨hg.os.trans e1, hg.tape.trans e2, hg.output.trans e3, Nat.le_trans e4 hg.size, HL.union (fun b => if v'.ownBlock = some b then w'.heap[b]? else none) g, ⟨_, g, fun b => ?_, rfl, ⟨ho.1, ?_⟩, hl⟩, ?_⟩
  · by_cases h3 : v'.ownBlock = some b
    · exact .inr (hgnew b h3)
    · exact .inl (if_neg h3)
  · rcases ho.2 with h3 | ⟨g0, cap, cur, rfl, _, h4, h5⟩
    · exact .inl h3
    · refine .inr ⟨g0, cap, cur, rfl, ?_, h5⟩
      simp only [Value.ownBlock, if_true]
      exact h4
  · intro b o hu
    rcases HL.of_union hu with hu | hu
    · split at hu
      · exact hu
      · cases hu
    · exact hkeep b o hu

theorem grownBy_setCell (w : World) (b i : Nat) (u : Value) : w.grownBy (w.setCell ⟨b, i, none⟩ u) (some b) :=
  ⟨rfl, rfl, rfl, by simp [World.setCell], fun k _ hk => Below.heap_setCell w _ u k (fun e => hk (by rw [e]))⟩
/-- A store into one of its cells. -/
theorem Sat.rowSet {g cap : Nat} (h : Sat X w (rowA e size (.slice (some ⟨g, 0, none⟩) n cap) n xs :: l)) (j : Nat) (u : Value) :
    Sat X (w.setCell ⟨g, j, none⟩ u) (rowA e size (.slice (some ⟨g, 0, none⟩) n cap) n (xs.set j u) :: l) := by
  refine h.grown (grownBy_setCell w g j u) ?_ (.inl rfl)
  have ho := h.owns
  refine ⟨by rw [List.length_set]; exact ho.1, .inr ?_⟩
  rcases ho.2 with ⟨h1, _⟩ | ⟨g0, cap0, cur, h1, _, hg, h2, h3, h4, h5⟩
  · cases h1
  · injection h1 with h1 h6 h7
    injection h1 with h1
    injection h1 with h1
    subst h1
    subst h7
    refine ⟨g, cap, cur.setIfInBounds j u, rfl, Nat.zero_le _, ?_, h2, h3, by simpa using h4, ?_⟩
    · simp [World.setCell, Array.getElem?_modify, hg]
    · rw [Array.toList_setIfInBounds, List.take_set, h5]

section
variable {P : Program}
theorem run_append_sep (h : Sat X w (rowA e size v n xs :: l)) (t ty : TypeId) (i : TypeInfo) (z : Value) (bytes : Nat) (ht : P.underlying t = some (.slice e)) (hi : P.info? e = some i) (hz : i.zero = some z)
    (hsize : i.size = size) (hby : i.bytes = bytes) (hzs : z.cells.size = size) (hsz : 0 < size)
    (a : Addr) (m c : Nat) (news : List Value) (hl : news.length = m * size) (hnews : ∀ j u, news[j]? = some u → w.cell? (a.add j) = some u) (h1 : ∀ u ∈ news, u.oneCell' = true)
    (h63 : n + m ≤ maxLen) (hbytes : (n + m) * bytes ≤ 140737488355328) :
    ∃ v' w', (Builtin.append_ #[t, t] ty #[v, .slice (some a) m c]).run P w = .ok v' w' ∧ Sat X w' (rowA e size v' (n + m) (xs ++ news) :: l) ∧ w.grownBy w' v.ownBlock := by
  obtain ⟨v', w', hr, h2, h3, _, h5⟩ := run_append_own_at (P := P) w 0 t ty e i z size bytes ht hi hz hsize hby hzs hsz v n xs h.owns a m c news hl hnews h1 h63 hbytes (Nat.zero_le _)
  exact ⟨v', w', hr, h.grown h3 h2 h5, h3⟩

theorem wp_append_sep {o : Oper} {a : Act} {K : Act → World → Prop} {Q : Exit → Act → World → Prop} (s x : Operand) (t : TypeId)
    (ho : o.op = .call { callee := .builtin .append, args := #[s, x], argTypes := #[t, t] })
    (i : TypeInfo) (z : Value) (bytes : Nat) (ht : P.underlying t = some (.slice e)) (hi : P.info? e = some i) (hz : i.zero = some z)
    (hsize : i.size = size) (hby : i.bytes = bytes) (hzs : z.cells.size = size) (hsz : 0 < size)
    (hs : a.eval s = v) (h : Sat X w (rowA e size v n xs :: l))
    (ad : Addr) (m c : Nat) (news : List Value) (hx : a.eval x = .slice (some ad) m c) (hl : news.length = m * size) (hnews : ∀ j u, news[j]? = some u → w.cell? (ad.add j) = some u) (h1 : ∀ u ∈ news, u.oneCell' = true)
    (h63 : n + m ≤ maxLen) (hbytes : (n + m) * bytes ≤ 140737488355328)
    (hK : ∀ v' w', Sat X w' (rowA e size v' (n + m) (xs ++ news) :: l) → w.grownBy w' v.ownBlock → K (a.put o.dst v') w') : o.wp P a w K Q := by
  obtain ⟨v', w', hr, h2, h3⟩ := run_append_sep (P := P) h t o.type i z bytes ht hi hz hsize hby hzs hsz ad m c news hl hnews h1 h63 hbytes
  unfold Oper.wp execOp
  simp only [ho, resolve, invoke, builtin, Sem.run_bind, Sem.run_pure, Result.andThen_ok, List.map_toArray, List.map_cons, List.map_nil, hs, hx, hr]
  exact hK v' w' h2 h3

theorem wpList_append_sep {ops : Array Oper} {rest : List Oper} {o : Oper} {a : Act} {Q : Exit → Act → World → Prop} (hgd : o.guard = none) (s x : Operand) (t : TypeId)
    (ho : o.op = .call { callee := .builtin .append, args := #[s, x], argTypes := #[t, t] })
    (i : TypeInfo) (z : Value) (bytes : Nat) (ht : P.underlying t = some (.slice e)) (hi : P.info? e = some i) (hz : i.zero = some z)
    (hsize : i.size = size) (hby : i.bytes = bytes) (hzs : z.cells.size = size) (hsz : 0 < size)
    (hs : a.eval s = v) (h : Sat X w (rowA e size v n xs :: l))
    (ad : Addr) (m c : Nat) (news : List Value) (hx : a.eval x = .slice (some ad) m c) (hl : news.length = m * size) (hnews : ∀ j u, news[j]? = some u → w.cell? (ad.add j) = some u) (h1 : ∀ u ∈ news, u.oneCell' = true)
    (h63 : n + m ≤ maxLen) (hbytes : (n + m) * bytes ≤ 140737488355328)
    (hK : ∀ v' w', Sat X w' (rowA e size v' (n + m) (xs ++ news) :: l) → w.grownBy w' v.ownBlock → wpList P ops Q rest (a.put o.dst v') w') : wpList P ops Q (o :: rest) a w :=
  wpList_plain hgd fun _ hK' => wp_append_sep s x t ho i z bytes ht hi hz hsize hby hzs hsz hs h ad m c news hx hl hnews h1 h63 hbytes fun v' w' h2 h3 => hK' _ _ (hK v' w' h2 h3)

theorem step_append_sep {ops : Array Oper} {o : Oper} {a : Act} {K : Act → World → Prop} {Q : Exit → Act → World → Prop} {E : Prop} (hgd : o.guard = none) (s x : Operand) (t : TypeId)
    (ho : o.op = .call { callee := .builtin .append, args := #[s, x], argTypes := #[t, t] })
    (i : TypeInfo) (z : Value) (bytes : Nat) (ht : P.underlying t = some (.slice e)) (hi : P.info? e = some i) (hz : i.zero = some z)
    (hsize : i.size = size) (hby : i.bytes = bytes) (hzs : z.cells.size = size) (hsz : 0 < size)
    (hs : a.eval s = v) (h : Sat X w (rowA e size v n xs :: l))
    (ad : Addr) (m c : Nat) (news : List Value) (hx : a.eval x = .slice (some ad) m c) (hl : news.length = m * size) (hnews : ∀ j u, news[j]? = some u → w.cell? (ad.add j) = some u) (h1 : ∀ u ∈ news, u.oneCell' = true)
    (h63 : n + m ≤ maxLen) (hbytes : (n + m) * bytes ≤ 140737488355328)
    (hK : ∀ v' w', Sat X w' (rowA e size v' (n + m) (xs ++ news) :: l) → w.grownBy w' v.ownBlock → K (a.put o.dst v') w') : if Region.wanted o (yielded ops a.tmps) = true then Oper.wp P o a w K Q else E := by
  have hw : Region.wanted o (yielded ops a.tmps) = true := by simp [Region.wanted, hgd]
  rw [if_pos hw]
  exact wp_append_sep s x t ho i z bytes ht hi hz hsize hby hzs hsz hs h ad m c news hx hl hnews h1 h63 hbytes hK
/-- The slice append'ed may be nil. -/
def SrcAt (w : World) (A : Option Addr) (m size : Nat) (news : List Value) : Prop := news.length = m * size ∧ (A = none → m = 0) ∧ ∀ a, A = some a → ∀ j u, news[j]? = some u → w.cell? (a.add j) = some u

theorem run_append_nilsrc (h : Sat X w (rowA e size v n xs :: l)) (t ty : TypeId) (i : TypeInfo) (ht : P.underlying t = some (.slice e)) (hi : P.info? e = some i) (c : Nat) :
    (Builtin.append_ #[t, t] ty #[v, .slice none 0 c]).run P w = .ok v w := by
  rcases h.owns.2 with ⟨rfl, rfl⟩ | ⟨g, cap, cur, rfl, _, _, hnc, _⟩
  · simp [Builtin.append_, run_underlying ht, sizeOf, typeInfo, hi, Builtin.lenOf, Builtin.firstCells]
  · simp [Builtin.append_, run_underlying ht, sizeOf, typeInfo, hi, Builtin.lenOf, Builtin.firstCells, hnc, storeCells]

theorem run_append_any_sep (h : Sat X w (rowA e size v n xs :: l)) (t ty : TypeId) (i : TypeInfo) (z : Value) (bytes : Nat) (ht : P.underlying t = some (.slice e)) (hi : P.info? e = some i) (hz : i.zero = some z)
    (hsize : i.size = size) (hby : i.bytes = bytes) (hzs : z.cells.size = size) (hsz : 0 < size)
    (A : Option Addr) (m c : Nat) (news : List Value) (hn : SrcAt w A m size news) (h1 : ∀ u ∈ news, u.oneCell' = true)
    (h63 : n + m ≤ maxLen) (hbytes : (n + m) * bytes ≤ 140737488355328) :
    ∃ v' w', (Builtin.append_ #[t, t] ty #[v, .slice A m c]).run P w = .ok v' w' ∧ Sat X w' (rowA e size v' (n + m) (xs ++ news) :: l) ∧ w.grownBy w' v.ownBlock := by
  obtain ⟨hl, hA0, hA⟩ := hn
  cases A with
  | none =>
    obtain rfl := hA0 rfl
    have : news = [] := List.eq_nil_of_length_eq_zero (by simpa using hl)
    subst this
    exact ⟨v, w, run_append_nilsrc h t ty i ht hi c, by simpa using h, World.grownBy.refl w _⟩
  | some a => exact run_append_sep h t ty i z bytes ht hi hz hsize hby hzs hsz a m c news hl (hA a rfl) h1 h63 hbytes

theorem step_append_any_sep {ops : Array Oper} {o : Oper} {a : Act} {K : Act → World → Prop} {Q : Exit → Act → World → Prop} {E : Prop} (hgd : o.guard = none) (s x : Operand) (t : TypeId)
    (ho : o.op = .call { callee := .builtin .append, args := #[s, x], argTypes := #[t, t] })
    (i : TypeInfo) (z : Value) (bytes : Nat) (ht : P.underlying t = some (.slice e)) (hi : P.info? e = some i) (hz : i.zero = some z)
    (hsize : i.size = size) (hby : i.bytes = bytes) (hzs : z.cells.size = size) (hsz : 0 < size)
    (hs : a.eval s = v) (h : Sat X w (rowA e size v n xs :: l))
    (A : Option Addr) (m c : Nat) (news : List Value) (hx : a.eval x = .slice A m c) (hn : SrcAt w A m size news) (h1 : ∀ u ∈ news, u.oneCell' = true)
    (h63 : n + m ≤ maxLen) (hbytes : (n + m) * bytes ≤ 140737488355328)
    (hK : ∀ v' w', Sat X w' (rowA e size v' (n + m) (xs ++ news) :: l) → w.grownBy w' v.ownBlock → K (a.put o.dst v') w') : if Region.wanted o (yielded ops a.tmps) = true then Oper.wp P o a w K Q else E := by
  have hw : Region.wanted o (yielded ops a.tmps) = true := by simp [Region.wanted, hgd]
  rw [if_pos hw]
  obtain ⟨v', w', hr, h2, h3⟩ := run_append_any_sep (P := P) h t o.type i z bytes ht hi hz hsize hby hzs hsz A m c news hn h1 h63 hbytes
  unfold Oper.wp execOp
  simp only [ho, resolve, invoke, builtin, Sem.run_bind, Sem.run_pure, Result.andThen_ok, List.map_toArray, List.map_cons, List.map_nil, hs, hx, hr]
  exact hK v' w' h2 h3
end
theorem Sat.rowEmpty (h : Sat X w l) (e : TypeId) (size : Nat) : Sat X (w.alloc (.cells #[] e)) (rowA e size (.slice (some ⟨w.heap.size, 0, none⟩) 0 0) 0 [] :: l) :=
  (h.new (.cells #[] e)).imp fun _ hk => ⟨by simp, .inr ⟨_, 0, #[], rfl, hk, Nat.le_refl _, Nat.zero_le _, by simp, by simp⟩⟩
/-- A row as a source. -/
theorem Sat.src {A : Option Addr} {cap : Nat} (h : Sat X w (rowA e size (.slice A n cap) n xs :: l)) : SrcAt w A n size xs := by
  obtain ⟨A', cap', hv, _, _, h3, h4⟩ := h.row
  injection hv with hA _ _
  subst hA
  refine ⟨h.len, h3, fun a ha j u hu => ?_⟩
  obtain ⟨g, rfl, _, hc, _⟩ := h4 a ha
  have hadd : (⟨g, 0, none⟩ : Addr).add j = ⟨g, j, none⟩ := by unfold Addr.add; split <;> simp_all
  rw [hadd]
  exact hc j u hu
end
end Go.Sep
