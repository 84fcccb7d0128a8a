/-
  CheckpointCut, walks: Send and List of a channel.
-/
import Derived.Test.YtacklfjpbboijaaCkCh
namespace Go.Proofs.Ytacklfjpbboijaa
open Go.RowKit Go.Sep Go.Ck
section
variable (c : Nat) (q : List Msg) (X w : World) (F : List Asn)

set_option maxRecDepth 100000 in
set_option maxHeartbeats 2000000 in
theorem send_ok (m : Msg) (hm : m.n ≤ 1000) (hql : q.length < 4) (h : Sat X w (chanA c q :: F)) : Calls Try.prog 29 #[.pointer (some ⟨c, 0, none⟩), msgv m] w fun e w' =>
    e = .returned (.int .i64 0) ∧ Sat X w' (chanA c (q ++ [m]) :: F) := by
  obtain ⟨r, f, s, hf, hq, hr, h⟩ := chan_open h
  have hlt := Sat.lt h
  rw [msgv_code]
  have hkn : ((code m).1 = 1 ∨ (code m).1 = 2) ∧ 0 ≤ (code m).2 ∧ (code m).2 ≤ 1000 := by
    unfold code
    cases m.bar <;> simp <;> omega
  generalize hcode : code m = kn at *
  obtain ⟨k, n⟩ := kn
  obtain ⟨hk, hn0, hn1⟩ := hkn
  simp only at hk hn0 hn1
  have HK := Lib.hid hk
  have HS : Hid (∀ (w' : World) (s' : Int), Only (· = c) w w' → w'.heap[c]? = some (.cells (ringA (upd r ((f + q.length) % 4) (k, n)) f ((q.length : Int) + 1) s') 71 (0, 0)) → Sat X w' (chanA c (q ++ [m]) :: F)) := by
    intro w' s' hO hc
    refine chan_shut (upd r ((f + q.length) % 4) (k, n)) f s' hf (by simp; omega) ?_ ?_
    · intro j m' hj
      by_cases hjq : j < q.length
      · rw [upd_ne _ _ (by omega)]
        rw [List.getElem?_append_left hjq] at hj
        exact hr j m' hj
      · rw [List.getElem?_append_right (by omega)] at hj
        have hj0 : j = q.length := by
          have := (List.getElem?_eq_some_iff.1 hj).1
          simp at this
          omega
        subst hj0
        simp at hj
        subst hj
        rw [upd_same]
        exact hcode.symm
    · refine h.only hO ?_
      rw [hc]
      simp
  clear hk
  have hq0 : (0 : Int) ≤ (q.length : Int) := by omega
  have hq3 : (q.length : Int) ≤ 3 := by omega
  have hf0 : (0 : Int) ≤ (f : Int) := by omega
  have hf3 : (f : Int) ≤ 3 := by omega
  have hd4 : ((q.length : Int) == 4) = false := by rw [beq_eq_false_iff_ne]; omega
  go_enter Try.func29, Try.ntmps29
  go_wp2_with (go_at_call 32; (with_reducible refine (right_any _ _ _ HK.out hn0 hn1).mono ?_); rintro e w1 ⟨rfl, hx⟩; obtain ⟨x1, x2⟩ := blk_ext hx (heap_alloc_new w _); have xb := at_ext hx (heap_alloc_new w _); obtain ⟨y1, y2⟩ := blk_ext hx (at_alloc (Sat.heap h)); have yb := at_ext hx (at_alloc (Sat.heap h)); have hO1 : Only (· = c) w w1 := ((Only.refl _ w).alloc _).ext hx; have c24 : w1.cell? ⟨c, 24, none⟩ = some (.int .i64 (f : Int)) := y1 24; have c25 : w1.cell? ⟨c, 25, none⟩ = some (.int .i64 (q.length : Int)) := y1 25; clear y1; have hw1 := hx.size)
  simp only [World.size_alloc] at hw1
  have hlt1 : c < w1.heap.size := by omega
  have hlt2 : w.heap.size < w1.heap.size := by omega
  have hne1 : c ≠ w.heap.size := by omega
  have hne3 : w.heap.size ≠ c := by omega
  have : (f + q.length) % 4 = 0 ∨ (f + q.length) % 4 = 1 ∨ (f + q.length) % 4 = 2 ∨ (f + q.length) % 4 = 3 := by omega
  rcases this with hg | hg | hg | hg
  · have hsum : IntKind.i64.wrap ((f : Int) + (q.length : Int)) = (f : Int) + (q.length : Int) := IntWalk.i64_in _ (by omega)
    have htm : ((f : Int) + (q.length : Int)).tmod 4 = 0 := by rw [Int.tmod_eq_emod_of_nonneg (by omega)]; omega
    go_region_held3 (fun w' => w'.cell? ⟨c, 24, none⟩ = some (.int .i64 (f : Int)) ∧ w'.cell? ⟨c, 25, none⟩ = some (.int .i64 (q.length : Int)) ∧ (∀ i, w'.cell? ⟨w.heap.size, i, none⟩ = #[.int .i64 k, .int .i64 0, .int .i64 0, .int .i64 0, .int .i64 n, .slice none 0 0][i]?))
      (first | (with_reducible exact ⟨d24, d25, u1⟩) | (have _h := d24; refine ⟨?_, ?_, fun i => ?_⟩ <;> go_simp; done) | (simp [c24, c25, x1]; done))
      ((go_at_call 31; (with_reducible refine (clone_any _ _ _ _ _ _).mono ?_); rintro e w2 ⟨rfl, hx2⟩; obtain ⟨z1, z2⟩ := blk_ext hx2 yb; have zb := at_ext hx2 yb; have hO2 : Only (· = c) w w2 := (hO1.drew).ext hx2; obtain ⟨u1, u2⟩ := blk_ext hx2 xb; have d0 : w2.cell? ⟨c, 0, none⟩ = some (.int .i64 (r 0).1) := z1 0; have d1 : w2.cell? ⟨c, 1, none⟩ = some (.int .i64 0) := z1 1; have d2 : w2.cell? ⟨c, 2, none⟩ = some (.int .i64 0) := z1 2; have d3 : w2.cell? ⟨c, 3, none⟩ = some (.int .i64 0) := z1 3; have d4 : w2.cell? ⟨c, 4, none⟩ = some (.int .i64 (r 0).2) := z1 4; have d5 : w2.cell? ⟨c, 5, none⟩ = some (.slice none 0 0) := z1 5; have d26 : w2.cell? ⟨c, 26, none⟩ = some (.int .i64 s) := z1 26; have d24 : w2.cell? ⟨c, 24, none⟩ = some (.int .i64 (f : Int)) := z1 24; have d25 : w2.cell? ⟨c, 25, none⟩ = some (.int .i64 (q.length : Int)) := z1 25; clear z1))
    clear hsum htm
    go_wp2
    go_ret
    refine ⟨rfl, HS.out _ (wrap64 (s + 1)) ?_ ?_⟩
    · repeat' (first | (with_reducible exact hO2) | (with_reducible refine Only.setCell ?_ _ _ ?_) | (with_reducible refine Only.alloc ?_ _) | (with_reducible refine Only.drew ?_) | (simp; done))
    · rw [hg]
      simp only [heapSame, zb, Option.map_some, putAt_cells, ringA, List.setIfInBounds_toArray, List.set_cons_zero, List.set_cons_succ]
      rfl
  · have hsum : IntKind.i64.wrap ((f : Int) + (q.length : Int)) = (f : Int) + (q.length : Int) := IntWalk.i64_in _ (by omega)
    have htm : ((f : Int) + (q.length : Int)).tmod 4 = 1 := by rw [Int.tmod_eq_emod_of_nonneg (by omega)]; omega
    go_region_held3 (fun w' => w'.cell? ⟨c, 24, none⟩ = some (.int .i64 (f : Int)) ∧ w'.cell? ⟨c, 25, none⟩ = some (.int .i64 (q.length : Int)) ∧ (∀ i, w'.cell? ⟨w.heap.size, i, none⟩ = #[.int .i64 k, .int .i64 0, .int .i64 0, .int .i64 0, .int .i64 n, .slice none 0 0][i]?))
      (first | (with_reducible exact ⟨d24, d25, u1⟩) | (have _h := d24; refine ⟨?_, ?_, fun i => ?_⟩ <;> go_simp; done) | (simp [c24, c25, x1]; done))
      ((go_at_call 31; (with_reducible refine (clone_any _ _ _ _ _ _).mono ?_); rintro e w2 ⟨rfl, hx2⟩; obtain ⟨z1, z2⟩ := blk_ext hx2 yb; have zb := at_ext hx2 yb; have hO2 : Only (· = c) w w2 := (hO1.drew).ext hx2; obtain ⟨u1, u2⟩ := blk_ext hx2 xb; have d0 : w2.cell? ⟨c, 6, none⟩ = some (.int .i64 (r 1).1) := z1 6; have d1 : w2.cell? ⟨c, 7, none⟩ = some (.int .i64 0) := z1 7; have d2 : w2.cell? ⟨c, 8, none⟩ = some (.int .i64 0) := z1 8; have d3 : w2.cell? ⟨c, 9, none⟩ = some (.int .i64 0) := z1 9; have d4 : w2.cell? ⟨c, 10, none⟩ = some (.int .i64 (r 1).2) := z1 10; have d5 : w2.cell? ⟨c, 11, none⟩ = some (.slice none 0 0) := z1 11; have d26 : w2.cell? ⟨c, 26, none⟩ = some (.int .i64 s) := z1 26; have d24 : w2.cell? ⟨c, 24, none⟩ = some (.int .i64 (f : Int)) := z1 24; have d25 : w2.cell? ⟨c, 25, none⟩ = some (.int .i64 (q.length : Int)) := z1 25; clear z1))
    clear hsum htm
    go_wp2
    go_ret
    refine ⟨rfl, HS.out _ (wrap64 (s + 1)) ?_ ?_⟩
    · repeat' (first | (with_reducible exact hO2) | (with_reducible refine Only.setCell ?_ _ _ ?_) | (with_reducible refine Only.alloc ?_ _) | (with_reducible refine Only.drew ?_) | (simp; done))
    · rw [hg]
      simp only [heapSame, zb, Option.map_some, putAt_cells, ringA, List.setIfInBounds_toArray, List.set_cons_zero, List.set_cons_succ]
      rfl
  · have hsum : IntKind.i64.wrap ((f : Int) + (q.length : Int)) = (f : Int) + (q.length : Int) := IntWalk.i64_in _ (by omega)
    have htm : ((f : Int) + (q.length : Int)).tmod 4 = 2 := by rw [Int.tmod_eq_emod_of_nonneg (by omega)]; omega
    go_region_held3 (fun w' => w'.cell? ⟨c, 24, none⟩ = some (.int .i64 (f : Int)) ∧ w'.cell? ⟨c, 25, none⟩ = some (.int .i64 (q.length : Int)) ∧ (∀ i, w'.cell? ⟨w.heap.size, i, none⟩ = #[.int .i64 k, .int .i64 0, .int .i64 0, .int .i64 0, .int .i64 n, .slice none 0 0][i]?))
      (first | (with_reducible exact ⟨d24, d25, u1⟩) | (have _h := d24; refine ⟨?_, ?_, fun i => ?_⟩ <;> go_simp; done) | (simp [c24, c25, x1]; done))
      ((go_at_call 31; (with_reducible refine (clone_any _ _ _ _ _ _).mono ?_); rintro e w2 ⟨rfl, hx2⟩; obtain ⟨z1, z2⟩ := blk_ext hx2 yb; have zb := at_ext hx2 yb; have hO2 : Only (· = c) w w2 := (hO1.drew).ext hx2; obtain ⟨u1, u2⟩ := blk_ext hx2 xb; have d0 : w2.cell? ⟨c, 12, none⟩ = some (.int .i64 (r 2).1) := z1 12; have d1 : w2.cell? ⟨c, 13, none⟩ = some (.int .i64 0) := z1 13; have d2 : w2.cell? ⟨c, 14, none⟩ = some (.int .i64 0) := z1 14; have d3 : w2.cell? ⟨c, 15, none⟩ = some (.int .i64 0) := z1 15; have d4 : w2.cell? ⟨c, 16, none⟩ = some (.int .i64 (r 2).2) := z1 16; have d5 : w2.cell? ⟨c, 17, none⟩ = some (.slice none 0 0) := z1 17; have d26 : w2.cell? ⟨c, 26, none⟩ = some (.int .i64 s) := z1 26; have d24 : w2.cell? ⟨c, 24, none⟩ = some (.int .i64 (f : Int)) := z1 24; have d25 : w2.cell? ⟨c, 25, none⟩ = some (.int .i64 (q.length : Int)) := z1 25; clear z1))
    clear hsum htm
    go_wp2
    go_ret
    refine ⟨rfl, HS.out _ (wrap64 (s + 1)) ?_ ?_⟩
    · repeat' (first | (with_reducible exact hO2) | (with_reducible refine Only.setCell ?_ _ _ ?_) | (with_reducible refine Only.alloc ?_ _) | (with_reducible refine Only.drew ?_) | (simp; done))
    · rw [hg]
      simp only [heapSame, zb, Option.map_some, putAt_cells, ringA, List.setIfInBounds_toArray, List.set_cons_zero, List.set_cons_succ]
      rfl
  · have hsum : IntKind.i64.wrap ((f : Int) + (q.length : Int)) = (f : Int) + (q.length : Int) := IntWalk.i64_in _ (by omega)
    have htm : ((f : Int) + (q.length : Int)).tmod 4 = 3 := by rw [Int.tmod_eq_emod_of_nonneg (by omega)]; omega
    go_region_held3 (fun w' => w'.cell? ⟨c, 24, none⟩ = some (.int .i64 (f : Int)) ∧ w'.cell? ⟨c, 25, none⟩ = some (.int .i64 (q.length : Int)) ∧ (∀ i, w'.cell? ⟨w.heap.size, i, none⟩ = #[.int .i64 k, .int .i64 0, .int .i64 0, .int .i64 0, .int .i64 n, .slice none 0 0][i]?))
      (first | (with_reducible exact ⟨d24, d25, u1⟩) | (have _h := d24; refine ⟨?_, ?_, fun i => ?_⟩ <;> go_simp; done) | (simp [c24, c25, x1]; done))
      ((go_at_call 31; (with_reducible refine (clone_any _ _ _ _ _ _).mono ?_); rintro e w2 ⟨rfl, hx2⟩; obtain ⟨z1, z2⟩ := blk_ext hx2 yb; have zb := at_ext hx2 yb; have hO2 : Only (· = c) w w2 := (hO1.drew).ext hx2; obtain ⟨u1, u2⟩ := blk_ext hx2 xb; have d0 : w2.cell? ⟨c, 18, none⟩ = some (.int .i64 (r 3).1) := z1 18; have d1 : w2.cell? ⟨c, 19, none⟩ = some (.int .i64 0) := z1 19; have d2 : w2.cell? ⟨c, 20, none⟩ = some (.int .i64 0) := z1 20; have d3 : w2.cell? ⟨c, 21, none⟩ = some (.int .i64 0) := z1 21; have d4 : w2.cell? ⟨c, 22, none⟩ = some (.int .i64 (r 3).2) := z1 22; have d5 : w2.cell? ⟨c, 23, none⟩ = some (.slice none 0 0) := z1 23; have d26 : w2.cell? ⟨c, 26, none⟩ = some (.int .i64 s) := z1 26; have d24 : w2.cell? ⟨c, 24, none⟩ = some (.int .i64 (f : Int)) := z1 24; have d25 : w2.cell? ⟨c, 25, none⟩ = some (.int .i64 (q.length : Int)) := z1 25; clear z1))
    clear hsum htm
    go_wp2
    go_ret
    refine ⟨rfl, HS.out _ (wrap64 (s + 1)) ?_ ?_⟩
    · repeat' (first | (with_reducible exact hO2) | (with_reducible refine Only.setCell ?_ _ _ ?_) | (with_reducible refine Only.alloc ?_ _) | (with_reducible refine Only.drew ?_) | (simp; done))
    · rw [hg]
      simp only [heapSame, zb, Option.map_some, putAt_cells, ringA, List.setIfInBounds_toArray, List.set_cons_zero, List.set_cons_succ]
      rfl
end
end Go.Proofs.Ytacklfjpbboijaa
