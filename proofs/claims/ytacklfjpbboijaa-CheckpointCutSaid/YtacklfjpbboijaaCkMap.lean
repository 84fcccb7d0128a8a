/-
  A map from ints whose elements are all true: what a lookup, a store and its length come to.
-/
import Derived.Test.YtacklfjpbboijaaSep
import Derived.Carry
import Derived.MapKept
namespace Go.Sep
open Go.RowKit Go.MapKept

def keyv (k : Nat) : Value := .int .i64 (k : Int)
/-- The entries are these keys, in this order, each true. -/
def Trues (es : Array MapEntry) (ks : List Nat) : Prop := es.toList.map (fun e => (e.key, e.val)) = ks.map fun k => (keyv k, Value.bool true)
/-- Block 'b' is a map of these keys. -/
def trues (b : Nat) (ks : List Nat) : Asn := fun h => ∃ es clock, h b = some (.map es clock) ∧ Trues es ks ∧ Stamped es clock

theorem isKey_keyv (k : Nat) : IsKey (.int .i64) (keyv k) := by simp [IsKey, keyv]
theorem keyv_inj {a b : Nat} (h : keyv a = keyv b) : a = b := by
  unfold keyv at h
  injection h with _ h
  omega

theorem Trues.get {es : Array MapEntry} {ks : List Nat} (h : Trues es ks) (j : Nat) {e : MapEntry} (he : es.toList[j]? = some e) : ∃ k, ks[j]? = some k ∧ e.key = keyv k ∧ e.val = .bool true := by
  have h1 := congrArg (·[j]?) h
  simp only [List.getElem?_map, he, Option.map_some] at h1
  cases hk : ks[j]? with
  | none => rw [hk] at h1; cases h1
  | some k =>
    rw [hk] at h1
    simp only [Option.map_some, Option.some.injEq, Prod.mk.injEq] at h1
    exact ⟨k, rfl, h1.1, h1.2⟩
theorem Trues.keys {es : Array MapEntry} {ks : List Nat} (h : Trues es ks) : ∀ x ∈ es.toList, IsKey (.int .i64) x.key := by
  intro x hx
  obtain ⟨j, hj, e⟩ := List.mem_iff_getElem.1 hx
  obtain ⟨k, _, hk, _⟩ := h.get j (List.getElem?_eq_some_iff.2 ⟨hj, e⟩)
  rw [hk]
  exact isKey_keyv k
theorem Trues.size {es : Array MapEntry} {ks : List Nat} (h : Trues es ks) : es.size = ks.length := by
  have := congrArg List.length h
  simpa using this
theorem Trues.find {es : Array MapEntry} {ks : List Nat} (h : Trues es ks) (k : Nat) :
    (k ∉ ks ∧ Instr.findNow (.int .i64) (keyv k) es.toList 0 = some none) ∨
    (k ∈ ks ∧ ∃ j e, Instr.findNow (.int .i64) (keyv k) es.toList 0 = some (some (j, .bool true)) ∧ es[j]? = some e ∧ e.key = keyv k ∧ e.val = .bool true) := by
  rcases findNow_spec (isKey_keyv k) es.toList 0 h.keys with ⟨h1, h2⟩ | ⟨j, e, h1, h2, h3⟩
  · left
    refine ⟨fun hm => ?_, h1⟩
    obtain ⟨j, hj, e⟩ := List.mem_iff_getElem.1 hm
    have hl : j < es.toList.length := by rw [Array.length_toList, h.size]; exact hj
    obtain ⟨k', q1, q2, _⟩ := h.get j (List.getElem?_eq_getElem hl)
    rw [List.getElem?_eq_getElem hj, e] at q1
    cases q1
    exact h2 _ (List.getElem_mem hl) q2
  · right
    obtain ⟨k', q1, q2, q3⟩ := h.get j h2
    rw [h3] at q2
    have := keyv_inj q2
    subst this
    refine ⟨List.mem_of_getElem? q1, j, e, ?_, by simpa using h2, h3, q3⟩
    rw [h1, q3, Nat.zero_add]
theorem Trues.push {es : Array MapEntry} {ks : List Nat} (h : Trues es ks) (k born : Nat) : Trues (es.push { key := keyv k, val := .bool true, born }) (ks ++ [k]) := by
  unfold Trues at *
  simp [h]
theorem Trues.again {es : Array MapEntry} {ks : List Nat} (h : Trues es ks) {k j : Nat} {e : MapEntry} (he : es[j]? = some e) (h1 : e.key = keyv k) (h2 : e.val = .bool true) :
    Trues (es.modify j fun e => { e with key := keyv k, val := .bool true }) ks := by
  have : es.modify j (fun e => { e with key := keyv k, val := .bool true }) = es := by
    apply Array.ext_getElem?
    intro i
    rw [Array.getElem?_modify]
    by_cases hi : j = i
    · subst hi
      rw [if_pos rfl, he]
      simp only [Option.map_some, Option.some.injEq]
      rw [← h1, ← h2]
    · rw [if_neg hi]
  rw [this]
  exact h

section
variable {P : Program} {X w : World} {b : Nat} {ks : List Nat} {l : List Asn} {t e kt : TypeId}

theorem Sat.trues (h : Sat X w (trues b ks :: l)) : ∃ es clock, w.heap[b]? = some (.map es clock) ∧ Trues es ks ∧ Stamped es clock ∧ Sat X w (pt b (.map es clock) :: l) := by
  obtain ⟨e1, e2, e3, e4, k, ⟨f, g, hd, rfl, ⟨es, clock, ha, ht, hs⟩, hl⟩, hi⟩ := h
  exact ⟨es, clock, hi b _ (HL.union_left ha), ht, hs, e1, e2, e3, e4, _, ⟨f, g, hd, rfl, ha, hl⟩, hi⟩
theorem Sat.mkTrues {es : Array MapEntry} {clock : Nat} (h : Sat X w (pt b (.map es clock) :: l)) (h1 : Trues es ks) (h2 : Stamped es clock) : Sat X w (Sep.trues b ks :: l) :=
  h.imp fun _ hk => ⟨es, clock, hk, h1, h2⟩
theorem Sat.newTrues (h : Sat X w l) : Sat X (w.alloc (.map #[] 0)) (Sep.trues w.heap.size [] :: l) := (h.new (.map #[] 0)).mkTrues rfl (stamped_empty 0)

theorem run_lookup_trues (h : Sat X w (Sep.trues b ks :: l)) (ht : P.underlying t = some (.map kt e)) (hk : P.underlying kt = some (.int .i64)) (hz : (zeroValue e).run P w = .ok (.bool false) w) (k : Nat) :
    (Instr.lookup t (.map (some b)) (.int .i64 (k : Int)) false).run P w = .ok (.bool (decide (k ∈ ks))) w := by
  show (Instr.lookup t (.map (some b)) (keyv k) false).run P w = _
  obtain ⟨es, clock, h1, h2, _⟩ := h.trues
  rcases h2.find k with ⟨q1, q2⟩ | ⟨q1, j, x, q2, _⟩
  · simp [Instr.lookup, run_underlying ht, MapKept.run_getObj_map h1, MapKept.run_checkKey hk (isKey_keyv k), MapKept.run_findKey hk q2, Result.andThen, hz, q1]
  · simp [Instr.lookup, run_underlying ht, MapKept.run_getObj_map h1, MapKept.run_checkKey hk (isKey_keyv k), MapKept.run_findKey hk q2, Result.andThen, q1]

theorem run_len_trues (h : Sat X w (Sep.trues b ks :: l)) (ht : P.underlying t = some (.map kt e)) (ty : TypeId) : (Builtin.len_ #[t] ty #[.map (some b)]).run P w = .ok (.int .i64 (ks.length : Int)) w := by
  obtain ⟨es, clock, h1, h2, _⟩ := h.trues
  simp [Builtin.len_, run_underlying ht, MapKept.run_getObj_map h1, Result.andThen, h2.size, goInt]

/-- 'm[k] = true' in a statement with others: the entry is made first, and stored into then; of a key that is new. -/
theorem run_entry_trues (h : Sat X w (Sep.trues b ks :: l)) (ht : P.underlying t = some (.map kt e)) (hk : P.underlying kt = some (.int .i64)) (hz : (zeroValue e).run P w = .ok (.bool false) w) {k : Nat} (hm : k ∉ ks) :
    ∃ c w1 w2, (Instr.mapEntry t (.map (some b)) (.int .i64 (k : Int))).run P w = .ok (.tuple #[.bool false, .int .i64 c]) w1 ∧ (Instr.entryStore t (.map (some b)) (.int .i64 c) (.bool true)).run P w1 = .ok () w2 ∧
      Sat X w2 (Sep.trues b (ks ++ [k]) :: l) := by
  obtain ⟨es, clock, h1, h2, h3, hpt⟩ := h.trues
  rcases h2.find k with ⟨q1, q2⟩ | ⟨q1, _⟩
  · have hset := heap_set (o' := .map (es.push { key := keyv k, val := .bool false, born := clock }) (clock + 1)) h1
    have s1 : Sat X { w with heap := w.heap.setIfInBounds b (.map (es.push { key := keyv k, val := .bool false, born := clock }) (clock + 1)) } (pt b (.map (es.push { key := keyv k, val := .bool false, born := clock }) (clock + 1)) :: l) :=
      Sat.turn hpt rfl rfl rfl (by simp) hset.1 (fun r _ hr => hset.2 r hr)
    have g1 := s1.heap
    generalize hw1 : ({ w with heap := w.heap.setIfInBounds b (.map (es.push { key := keyv k, val := .bool false, born := clock }) (clock + 1)) } : World) = w1 at *
    have hset2 := heap_set (o' := .map (es.push { key := keyv k, val := .bool true, born := clock }) (clock + 1)) g1
    have hnew : Trues (es.push { key := keyv k, val := .bool true, born := clock }) (ks ++ [k]) := h2.push k clock
    have hst : Stamped (es.push { key := keyv k, val := .bool true, born := clock }) (clock + 1) := stamped_push h3 (fun x hx hk' => by
      obtain ⟨j, hj, e'⟩ := List.mem_iff_getElem.1 hx
      obtain ⟨k', a1, a2, _⟩ := h2.get j (List.getElem?_eq_some_iff.2 ⟨hj, e'⟩)
      rw [a2] at hk'
      have := keyv_inj hk'
      subst this
      exact q1 (List.mem_of_getElem? a1))
    refine ⟨clock, w1, { w1 with heap := w1.heap.setIfInBounds b (.map (es.push { key := keyv k, val := .bool true, born := clock }) (clock + 1)) }, ?_, ?_, (Sat.turn (w' := { w1 with heap := w1.heap.setIfInBounds b (.map (es.push { key := keyv k, val := .bool true, born := clock }) (clock + 1)) }) s1 rfl rfl rfl (by simp) hset2.1 (fun r _ hr => hset2.2 r hr)).mkTrues hnew hst⟩
    · show (Instr.mapEntry t (.map (some b)) (keyv k)).run P w = _
      simp [Instr.mapEntry, run_underlying ht, MapKept.run_getObj_map h1, MapKept.run_checkKey hk (isKey_keyv k), MapKept.run_findKey hk q2, MapKept.run_setObj_map _ h1, Result.andThen, hz, goInt, hw1]
    · have hf : (es.push { key := keyv k, val := .bool false, born := clock }).findIdx? (fun e => (e.born : Int) == (clock : Int)) = some es.size := by
        rw [Array.findIdx?_eq_some_iff_getElem]
        refine ⟨by simp, by simp, fun j hj => ?_⟩
        have hlt : j < es.size := hj
        have := h3.1 es[j] (by simp)
        simp [Array.getElem_push, hlt]
        omega
      have hmod : (es.push { key := keyv k, val := .bool false, born := clock }).modify es.size (fun e => { e with val := .bool true }) = es.push { key := keyv k, val := .bool true, born := clock } := by
        apply Array.ext_getElem?
        intro i
        rw [Array.getElem?_modify, Array.getElem?_push, Array.getElem?_push]
        by_cases hi : i = es.size
        · subst hi; simp
        · rw [if_neg (fun h => hi h.symm), if_neg hi, if_neg hi]
      simp [Instr.entryStore, MapKept.run_getObj_map g1, asInt, asIntOf, MapKept.run_setObj_map _ g1, Result.andThen, hf, hmod]
  · exact absurd q1 hm
end
end Go.Sep
