/-
  CheckpointCut, walks: a channel.
-/
import Derived.Test.YtacklfjpbboijaaCkChan
import Derived.Deep.RegionHeld3
import Derived.StillTailTactics
namespace Go.Proofs.Ytacklfjpbboijaa
open Go.RowKit Go.Sep Go.Ck

/-- The cells of a channel: four messages (kind, number), the first one's place, how many, how many were sent. -/
def ringA (r : Nat → Int × Int) (f c s : Int) : Array Value :=
  #[.int .i64 (r 0).1, .int .i64 0, .int .i64 0, .int .i64 0, .int .i64 (r 0).2, .slice none 0 0,
    .int .i64 (r 1).1, .int .i64 0, .int .i64 0, .int .i64 0, .int .i64 (r 1).2, .slice none 0 0,
    .int .i64 (r 2).1, .int .i64 0, .int .i64 0, .int .i64 0, .int .i64 (r 2).2, .slice none 0 0,
    .int .i64 (r 3).1, .int .i64 0, .int .i64 0, .int .i64 0, .int .i64 (r 3).2, .slice none 0 0,
    .int .i64 f, .int .i64 c, .int .i64 s]
/-- A message's kind and number. -/
def code (m : Msg) : Int × Int := (if m.bar then 1 else 2, (m.n : Int))
/-- Block c is the channel with these messages. -/
def chanA (c : Nat) (q : List Msg) : Asn := fun h => ∃ (r : Nat → Int × Int) (f : Nat) (s : Int), f < 4 ∧ q.length ≤ 4 ∧ (∀ j m, q[j]? = some m → r ((f + j) % 4) = code m) ∧ blk c 71 (ringA r f q.length s) h

theorem chan_open {X w : World} {c : Nat} {q : List Msg} {F : List Asn} (h : Sat X w (chanA c q :: F)) : ∃ (r : Nat → Int × Int) (f : Nat) (s : Int), f < 4 ∧ q.length ≤ 4 ∧ (∀ j m, q[j]? = some m → r ((f + j) % 4) = code m) ∧ Sat X w (blk c 71 (ringA r f q.length s) :: F) := by
  obtain ⟨e1, e2, e3, e4, k, ⟨h1, h2, hd, rfl, ⟨r, f, s, a1, a2, a4, a5⟩, hl⟩, hi⟩ := h
  exact ⟨r, f, s, a1, a2, a4, e1, e2, e3, e4, _, ⟨h1, h2, hd, rfl, a5, hl⟩, hi⟩

theorem msgv_code (m : Msg) : msgv m = .agg #[.int .i64 (code m).1, .int .i64 0, .int .i64 0, .int .i64 0, .int .i64 (code m).2, .slice none 0 0] := by
  unfold msgv code
  cases m.bar <;> rfl

theorem blk_ext {w w1 : World} (hx : Ext w w1) {b : Nat} {cs : Array Value} {T : TypeId} (h : w.heap[b]? = some (.cells cs T (0, 0))) :
    (∀ i, w1.cell? ⟨b, i, none⟩ = cs[i]?) ∧ (∀ i, w1.frozen? ⟨b, i, none⟩ = false) := by
  have h1 : w1.heap[b]? = some (.cells cs T (0, 0)) := (hx.block b (Array.getElem?_eq_some_iff.1 h).1).trans h
  exact ⟨fun i => cell_of_row w1 b i cs T (0, 0) h1, fun i => by simp [World.frozen?, h1]⟩

section
variable (c : Nat) (q : List Msg) (X w : World) (F : List Asn)

set_option maxHeartbeats 400000 in
theorem len_any (h : Sat X w (chanA c q :: F)) : Calls Try.prog 17 #[.pointer (some ⟨c, 0, none⟩)] w fun e w' => e = .returned (.int .i64 (q.length : Int)) ∧ w' = w := by
  obtain ⟨r, f, s, hf, hq, hr, h⟩ := chan_open h
  have k : w.cell? ⟨c, 25, none⟩ = some (.int .i64 (q.length : Int)) := h.cell 25
  go_enter Try.func17, Try.ntmps17
  go_wp2
  go_ret
  exact ⟨rfl, rfl⟩

set_option maxHeartbeats 400000 in
theorem free_any (h : Sat X w (chanA c q :: F)) : Calls Try.prog 28 #[.pointer (some ⟨c, 0, none⟩)] w fun e w' => e = .returned (.int .i64 (4 - (q.length : Int))) ∧ w' = w := by
  obtain ⟨r, f, s, hf, hq, hr, h⟩ := chan_open h
  have k : w.cell? ⟨c, 25, none⟩ = some (.int .i64 (q.length : Int)) := h.cell 25
  go_enter Try.func28, Try.ntmps28
  go_wp2
  go_ret
  exact ⟨rfl, rfl⟩

set_option maxHeartbeats 400000 in
theorem head_none (h : Sat X w (chanA c [] :: F)) : Calls Try.prog 23 #[.pointer (some ⟨c, 0, none⟩)] w fun e w' =>
    e = .returned (.tuple #[.agg #[.int .i64 0, .int .i64 0, .int .i64 0, .int .i64 0, .int .i64 0, .slice none 0 0], .bool false]) ∧ Ext w w' := by
  obtain ⟨r, f, s, hf, hq, hr, h⟩ := chan_open h
  have k : w.cell? ⟨c, 25, none⟩ = some (.int .i64 0) := h.cell 25
  have hlt := Sat.lt h
  go_enter Try.func23, Try.ntmps23
  go_wp2
  refine bodyPost_ret (v := .tuple #[.agg #[.int .i64 0, .int .i64 0, .int .i64 0, .int .i64 0, .int .i64 0, .slice none 0 0], .bool false]) (by simp [results, Try.results23, go_sem]) rfl ⟨rfl, ?_⟩
  repeat' (first | exact Below.refl _ _ | (refine Below.alloc ?_ (by simp) _) | (refine Below.setCell ?_ (by simp) _) | (refine Below.drew ?_))

set_option maxRecDepth 100000 in
set_option maxHeartbeats 2000000 in
theorem head_some (m : Msg) (hm : q[0]? = some m) (h : Sat X w (chanA c q :: F)) : Calls Try.prog 23 #[.pointer (some ⟨c, 0, none⟩)] w fun e w' =>
    e = .returned (.tuple #[msgv m, .bool true]) ∧ Ext w w' := by
  obtain ⟨r, f, s, hf, hq, hr, h⟩ := chan_open h
  have hq0 : 0 < q.length := (List.getElem?_eq_some_iff.1 hm).1
  rw [msgv_code]
  have hrf := hr 0 m hm
  rw [Nat.add_zero, Nat.mod_eq_of_lt hf] at hrf
  have k1 : w.cell? ⟨c, 24, none⟩ = some (.int .i64 (f : Int)) := h.cell 24
  have k : w.cell? ⟨c, 25, none⟩ = some (.int .i64 (q.length : Int)) := h.cell 25
  have hd : ((q.length : Int) == 0) = false := by rw [beq_eq_false_iff_ne]; omega
  have hlt := Sat.lt h
  rw [← hrf]
  clear k1
  have : f = 0 ∨ f = 1 ∨ f = 2 ∨ f = 3 := by omega
  rcases this with rfl | rfl | rfl | rfl
  · have k1 : w.cell? ⟨c, 24, none⟩ = some (.int .i64 0) := h.cell 24
    have c0 : w.cell? ⟨c, 0, none⟩ = some (.int .i64 (r 0).1) := h.cell 0
    have c1 : w.cell? ⟨c, 1, none⟩ = some (.int .i64 0) := h.cell 1
    have c2 : w.cell? ⟨c, 2, none⟩ = some (.int .i64 0) := h.cell 2
    have c3 : w.cell? ⟨c, 3, none⟩ = some (.int .i64 0) := h.cell 3
    have c4 : w.cell? ⟨c, 4, none⟩ = some (.int .i64 (r 0).2) := h.cell 4
    have c5 : w.cell? ⟨c, 5, none⟩ = some (.slice none 0 0) := h.cell 5
    clear hr hrf
    go_enter Try.func23, Try.ntmps23
    go_wp2
    refine wp_region_still_tail 9 (by kernel_rfl) (by kernel_rfl) ?_
    try (change wpStill _ _ (World.drew _) _ _ _)
    simp only [List.take_succ_cons, List.take_zero, List.drop_succ_cons, List.drop_zero]
    repeat still_step
    try refine wpStill_nil ?_
    go_wp2_with (go_at_call 31; (with_reducible refine (clone_any _ _ _ _ _ _).mono ?_); rintro e w1 ⟨rfl, hx⟩; obtain ⟨x1, x2⟩ := blk_ext hx (heap_alloc_new w _); have hx' : Ext w w1 := Ext.trans (((Ext.refl w).alloc _).drew) hx; clear hx)
    refine bodyPost_ret (v := .tuple #[.agg #[.int .i64 (r 0).1, .int .i64 0, .int .i64 0, .int .i64 0, .int .i64 (r 0).2, .slice none 0 0], .bool true]) (by simp [results, Try.results23, go_sem, x1]) rfl ⟨rfl, ?_⟩
    repeat' (first | (with_reducible exact hx') | (refine Below.setCell ?_ (by simp) _))
  · have k1 : w.cell? ⟨c, 24, none⟩ = some (.int .i64 1) := h.cell 24
    have c0 : w.cell? ⟨c, 6, none⟩ = some (.int .i64 (r 1).1) := h.cell 6
    have c1 : w.cell? ⟨c, 7, none⟩ = some (.int .i64 0) := h.cell 7
    have c2 : w.cell? ⟨c, 8, none⟩ = some (.int .i64 0) := h.cell 8
    have c3 : w.cell? ⟨c, 9, none⟩ = some (.int .i64 0) := h.cell 9
    have c4 : w.cell? ⟨c, 10, none⟩ = some (.int .i64 (r 1).2) := h.cell 10
    have c5 : w.cell? ⟨c, 11, none⟩ = some (.slice none 0 0) := h.cell 11
    clear hr hrf
    go_enter Try.func23, Try.ntmps23
    go_wp2
    refine wp_region_still_tail 9 (by kernel_rfl) (by kernel_rfl) ?_
    try (change wpStill _ _ (World.drew _) _ _ _)
    simp only [List.take_succ_cons, List.take_zero, List.drop_succ_cons, List.drop_zero]
    repeat still_step
    try refine wpStill_nil ?_
    go_wp2_with (go_at_call 31; (with_reducible refine (clone_any _ _ _ _ _ _).mono ?_); rintro e w1 ⟨rfl, hx⟩; obtain ⟨x1, x2⟩ := blk_ext hx (heap_alloc_new w _); have hx' : Ext w w1 := Ext.trans (((Ext.refl w).alloc _).drew) hx; clear hx)
    refine bodyPost_ret (v := .tuple #[.agg #[.int .i64 (r 1).1, .int .i64 0, .int .i64 0, .int .i64 0, .int .i64 (r 1).2, .slice none 0 0], .bool true]) (by simp [results, Try.results23, go_sem, x1]) rfl ⟨rfl, ?_⟩
    repeat' (first | (with_reducible exact hx') | (refine Below.setCell ?_ (by simp) _))
  · have k1 : w.cell? ⟨c, 24, none⟩ = some (.int .i64 2) := h.cell 24
    have c0 : w.cell? ⟨c, 12, none⟩ = some (.int .i64 (r 2).1) := h.cell 12
    have c1 : w.cell? ⟨c, 13, none⟩ = some (.int .i64 0) := h.cell 13
    have c2 : w.cell? ⟨c, 14, none⟩ = some (.int .i64 0) := h.cell 14
    have c3 : w.cell? ⟨c, 15, none⟩ = some (.int .i64 0) := h.cell 15
    have c4 : w.cell? ⟨c, 16, none⟩ = some (.int .i64 (r 2).2) := h.cell 16
    have c5 : w.cell? ⟨c, 17, none⟩ = some (.slice none 0 0) := h.cell 17
    clear hr hrf
    go_enter Try.func23, Try.ntmps23
    go_wp2
    refine wp_region_still_tail 9 (by kernel_rfl) (by kernel_rfl) ?_
    try (change wpStill _ _ (World.drew _) _ _ _)
    simp only [List.take_succ_cons, List.take_zero, List.drop_succ_cons, List.drop_zero]
    repeat still_step
    try refine wpStill_nil ?_
    go_wp2_with (go_at_call 31; (with_reducible refine (clone_any _ _ _ _ _ _).mono ?_); rintro e w1 ⟨rfl, hx⟩; obtain ⟨x1, x2⟩ := blk_ext hx (heap_alloc_new w _); have hx' : Ext w w1 := Ext.trans (((Ext.refl w).alloc _).drew) hx; clear hx)
    refine bodyPost_ret (v := .tuple #[.agg #[.int .i64 (r 2).1, .int .i64 0, .int .i64 0, .int .i64 0, .int .i64 (r 2).2, .slice none 0 0], .bool true]) (by simp [results, Try.results23, go_sem, x1]) rfl ⟨rfl, ?_⟩
    repeat' (first | (with_reducible exact hx') | (refine Below.setCell ?_ (by simp) _))
  · have k1 : w.cell? ⟨c, 24, none⟩ = some (.int .i64 3) := h.cell 24
    have c0 : w.cell? ⟨c, 18, none⟩ = some (.int .i64 (r 3).1) := h.cell 18
    have c1 : w.cell? ⟨c, 19, none⟩ = some (.int .i64 0) := h.cell 19
    have c2 : w.cell? ⟨c, 20, none⟩ = some (.int .i64 0) := h.cell 20
    have c3 : w.cell? ⟨c, 21, none⟩ = some (.int .i64 0) := h.cell 21
    have c4 : w.cell? ⟨c, 22, none⟩ = some (.int .i64 (r 3).2) := h.cell 22
    have c5 : w.cell? ⟨c, 23, none⟩ = some (.slice none 0 0) := h.cell 23
    clear hr hrf
    go_enter Try.func23, Try.ntmps23
    go_wp2
    refine wp_region_still_tail 9 (by kernel_rfl) (by kernel_rfl) ?_
    try (change wpStill _ _ (World.drew _) _ _ _)
    simp only [List.take_succ_cons, List.take_zero, List.drop_succ_cons, List.drop_zero]
    repeat still_step
    try refine wpStill_nil ?_
    go_wp2_with (go_at_call 31; (with_reducible refine (clone_any _ _ _ _ _ _).mono ?_); rintro e w1 ⟨rfl, hx⟩; obtain ⟨x1, x2⟩ := blk_ext hx (heap_alloc_new w _); have hx' : Ext w w1 := Ext.trans (((Ext.refl w).alloc _).drew) hx; clear hx)
    refine bodyPost_ret (v := .tuple #[.agg #[.int .i64 (r 3).1, .int .i64 0, .int .i64 0, .int .i64 0, .int .i64 (r 3).2, .slice none 0 0], .bool true]) (by simp [results, Try.results23, go_sem, x1]) rfl ⟨rfl, ?_⟩
    repeat' (first | (with_reducible exact hx') | (refine Below.setCell ?_ (by simp) _))

theorem chan_shut {X w : World} {c : Nat} {q : List Msg} {F : List Asn} (r : Nat → Int × Int) (f : Nat) (s : Int) (hf : f < 4) (hq : q.length ≤ 4) (hr : ∀ j m, q[j]? = some m → r ((f + j) % 4) = code m) (h : Sat X w (blk c 71 (ringA r f q.length s) :: F)) : Sat X w (chanA c q :: F) :=
  h.imp fun _ hk => ⟨r, f, s, hf, hq, hr, hk⟩

set_option maxRecDepth 100000 in
set_option maxHeartbeats 2000000 in
theorem take_some (m : Msg) (rest : List Msg) (h : Sat X w (chanA c (m :: rest) :: F)) : Calls Try.prog 25 #[.pointer (some ⟨c, 0, none⟩)] w fun e w' =>
    e = .returned (.tuple #[msgv m, .int .i64 0]) ∧ Sat X w' (chanA c rest :: F) := by
  have H := h
  obtain ⟨r, f, s, hf, hq, hr, h⟩ := chan_open h
  have hlt := Sat.lt h
  have hmsg := msgv_code m
  generalize hcode : code m = kn at *
  obtain ⟨k, n⟩ := kn
  have hq' : rest.length ≤ 3 := by simpa using hq
  -- what is to be shown of the world at the end
  have HS : Hid (∀ (w' : World) (g : Nat), Only (· = c) w w' → g = (f + 1) % 4 → w'.heap[c]? = some (.cells (ringA (upd r f (0, 0)) g rest.length s) 71 (0, 0)) → Sat X w' (chanA c rest :: F)) := by
    intro w' g hO hg hc
    refine chan_shut (upd r f (0, 0)) g s (by omega) (by omega) ?_ (h.only hO hc)
    intro j m' hj
    have hjl : j < rest.length := (List.getElem?_eq_some_iff.1 hj).1
    rw [upd_ne _ _ (by omega), hg, show ((f + 1) % 4 + j) % 4 = (f + (j + 1)) % 4 by omega]
    exact hr (j + 1) m' (by simpa using hj)
  go_enter Try.func25, Try.ntmps25
  go_wp2_with (go_at_call 23; (with_reducible refine (head_some _ _ X _ F m rfl (H.alloc _)).mono ?_); rw [hmsg]; rintro e w1 ⟨rfl, hx⟩; obtain ⟨x1, x2⟩ := blk_ext hx (heap_alloc_new w _); obtain ⟨y1, y2⟩ := blk_ext hx (at_alloc (Sat.heap h)); have yb := at_ext hx (at_alloc (Sat.heap h)); have hO1 : Only (· = c) w w1 := ((Only.refl _ w).alloc _).ext hx)
  have : f = 0 ∨ f = 1 ∨ f = 2 ∨ f = 3 := by omega
  rcases this with rfl | rfl | rfl | rfl
  · have c0 : w1.cell? ⟨c, 0, none⟩ = some (.int .i64 (r 0).1) := y1 0
    have c1 : w1.cell? ⟨c, 1, none⟩ = some (.int .i64 0) := y1 1
    have c2 : w1.cell? ⟨c, 2, none⟩ = some (.int .i64 0) := y1 2
    have c3 : w1.cell? ⟨c, 3, none⟩ = some (.int .i64 0) := y1 3
    have c4 : w1.cell? ⟨c, 4, none⟩ = some (.int .i64 (r 0).2) := y1 4
    have c5 : w1.cell? ⟨c, 5, none⟩ = some (.slice none 0 0) := y1 5
    have c24 : w1.cell? ⟨c, 24, none⟩ = some (.int .i64 0) := y1 24
    have c25 : w1.cell? ⟨c, 25, none⟩ = some (.int .i64 ((rest.length : Int) + 1)) := y1 25
    have hw1 := hx.size
    simp only [World.size_alloc] at hw1
    have hlt1 : c < w1.heap.size := by omega
    have hlt2 : w.heap.size < w1.heap.size := by omega
    have hne1 : c ≠ w.heap.size := by omega
    have hne2 : c ≠ w1.heap.size := by omega
    have hne3 : w.heap.size ≠ w1.heap.size := by omega
    clear hr y1
    go_wp2
    go_region
    all_goals
      go_wp2
      refine bodyPost_ret (v := .tuple #[.agg #[.int .i64 k, .int .i64 0, .int .i64 0, .int .i64 0, .int .i64 n, .slice none 0 0], .int .i64 0]) (by simp [results, Try.results25, go_sem, x1, hlt2]) rfl ⟨by rw [hmsg], ?_⟩
      refine HS.out _ 1 ?_ ?_ ?_
      · repeat' (first | (with_reducible exact hO1) | (with_reducible refine Only.setCell ?_ _ _ ?_) | (with_reducible refine Only.alloc ?_ _) | (with_reducible refine Only.drew ?_) | (simp; done))
      · rfl
      · simp only [heapAlloc, heapFar, heapSame, heapDrew, sizeSet, hlt1, hne1, yb, Option.map_some, putAt_cells, ne_eq, not_false_eq_true, ringA, List.setIfInBounds_toArray, List.set_cons_zero, List.set_cons_succ]
        rfl
  · have c0 : w1.cell? ⟨c, 6, none⟩ = some (.int .i64 (r 1).1) := y1 6
    have c1 : w1.cell? ⟨c, 7, none⟩ = some (.int .i64 0) := y1 7
    have c2 : w1.cell? ⟨c, 8, none⟩ = some (.int .i64 0) := y1 8
    have c3 : w1.cell? ⟨c, 9, none⟩ = some (.int .i64 0) := y1 9
    have c4 : w1.cell? ⟨c, 10, none⟩ = some (.int .i64 (r 1).2) := y1 10
    have c5 : w1.cell? ⟨c, 11, none⟩ = some (.slice none 0 0) := y1 11
    have c24 : w1.cell? ⟨c, 24, none⟩ = some (.int .i64 1) := y1 24
    have c25 : w1.cell? ⟨c, 25, none⟩ = some (.int .i64 ((rest.length : Int) + 1)) := y1 25
    have hw1 := hx.size
    simp only [World.size_alloc] at hw1
    have hlt1 : c < w1.heap.size := by omega
    have hlt2 : w.heap.size < w1.heap.size := by omega
    have hne1 : c ≠ w.heap.size := by omega
    have hne2 : c ≠ w1.heap.size := by omega
    have hne3 : w.heap.size ≠ w1.heap.size := by omega
    clear hr y1
    go_wp2
    go_region
    all_goals
      go_wp2
      refine bodyPost_ret (v := .tuple #[.agg #[.int .i64 k, .int .i64 0, .int .i64 0, .int .i64 0, .int .i64 n, .slice none 0 0], .int .i64 0]) (by simp [results, Try.results25, go_sem, x1, hlt2]) rfl ⟨by rw [hmsg], ?_⟩
      refine HS.out _ 2 ?_ ?_ ?_
      · repeat' (first | (with_reducible exact hO1) | (with_reducible refine Only.setCell ?_ _ _ ?_) | (with_reducible refine Only.alloc ?_ _) | (with_reducible refine Only.drew ?_) | (simp; done))
      · rfl
      · simp only [heapAlloc, heapFar, heapSame, heapDrew, sizeSet, hlt1, hne1, yb, Option.map_some, putAt_cells, ne_eq, not_false_eq_true, ringA, List.setIfInBounds_toArray, List.set_cons_zero, List.set_cons_succ]
        rfl
  · have c0 : w1.cell? ⟨c, 12, none⟩ = some (.int .i64 (r 2).1) := y1 12
    have c1 : w1.cell? ⟨c, 13, none⟩ = some (.int .i64 0) := y1 13
    have c2 : w1.cell? ⟨c, 14, none⟩ = some (.int .i64 0) := y1 14
    have c3 : w1.cell? ⟨c, 15, none⟩ = some (.int .i64 0) := y1 15
    have c4 : w1.cell? ⟨c, 16, none⟩ = some (.int .i64 (r 2).2) := y1 16
    have c5 : w1.cell? ⟨c, 17, none⟩ = some (.slice none 0 0) := y1 17
    have c24 : w1.cell? ⟨c, 24, none⟩ = some (.int .i64 2) := y1 24
    have c25 : w1.cell? ⟨c, 25, none⟩ = some (.int .i64 ((rest.length : Int) + 1)) := y1 25
    have hw1 := hx.size
    simp only [World.size_alloc] at hw1
    have hlt1 : c < w1.heap.size := by omega
    have hlt2 : w.heap.size < w1.heap.size := by omega
    have hne1 : c ≠ w.heap.size := by omega
    have hne2 : c ≠ w1.heap.size := by omega
    have hne3 : w.heap.size ≠ w1.heap.size := by omega
    clear hr y1
    go_wp2
    go_region
    all_goals
      go_wp2
      refine bodyPost_ret (v := .tuple #[.agg #[.int .i64 k, .int .i64 0, .int .i64 0, .int .i64 0, .int .i64 n, .slice none 0 0], .int .i64 0]) (by simp [results, Try.results25, go_sem, x1, hlt2]) rfl ⟨by rw [hmsg], ?_⟩
      refine HS.out _ 3 ?_ ?_ ?_
      · repeat' (first | (with_reducible exact hO1) | (with_reducible refine Only.setCell ?_ _ _ ?_) | (with_reducible refine Only.alloc ?_ _) | (with_reducible refine Only.drew ?_) | (simp; done))
      · rfl
      · simp only [heapAlloc, heapFar, heapSame, heapDrew, sizeSet, hlt1, hne1, yb, Option.map_some, putAt_cells, ne_eq, not_false_eq_true, ringA, List.setIfInBounds_toArray, List.set_cons_zero, List.set_cons_succ]
        rfl
  · have c0 : w1.cell? ⟨c, 18, none⟩ = some (.int .i64 (r 3).1) := y1 18
    have c1 : w1.cell? ⟨c, 19, none⟩ = some (.int .i64 0) := y1 19
    have c2 : w1.cell? ⟨c, 20, none⟩ = some (.int .i64 0) := y1 20
    have c3 : w1.cell? ⟨c, 21, none⟩ = some (.int .i64 0) := y1 21
    have c4 : w1.cell? ⟨c, 22, none⟩ = some (.int .i64 (r 3).2) := y1 22
    have c5 : w1.cell? ⟨c, 23, none⟩ = some (.slice none 0 0) := y1 23
    have c24 : w1.cell? ⟨c, 24, none⟩ = some (.int .i64 3) := y1 24
    have c25 : w1.cell? ⟨c, 25, none⟩ = some (.int .i64 ((rest.length : Int) + 1)) := y1 25
    have hw1 := hx.size
    simp only [World.size_alloc] at hw1
    have hlt1 : c < w1.heap.size := by omega
    have hlt2 : w.heap.size < w1.heap.size := by omega
    have hne1 : c ≠ w.heap.size := by omega
    have hne2 : c ≠ w1.heap.size := by omega
    have hne3 : w.heap.size ≠ w1.heap.size := by omega
    clear hr y1
    go_wp2
    go_region
    all_goals
      go_wp2
      refine bodyPost_ret (v := .tuple #[.agg #[.int .i64 k, .int .i64 0, .int .i64 0, .int .i64 0, .int .i64 n, .slice none 0 0], .int .i64 0]) (by simp [results, Try.results25, go_sem, x1, hlt2]) rfl ⟨by rw [hmsg], ?_⟩
      refine HS.out _ 0 ?_ ?_ ?_
      · repeat' (first | (with_reducible exact hO1) | (with_reducible refine Only.setCell ?_ _ _ ?_) | (with_reducible refine Only.alloc ?_ _) | (with_reducible refine Only.drew ?_) | (simp; done))
      · rfl
      · simp only [heapAlloc, heapFar, heapSame, heapDrew, sizeSet, hlt1, hne1, yb, Option.map_some, putAt_cells, ne_eq, not_false_eq_true, ringA, List.setIfInBounds_toArray, List.set_cons_zero, List.set_cons_succ]
        rfl
end
end Go.Proofs.Ytacklfjpbboijaa
