/-
  CheckpointCut, walks: List of a channel.
-/
import Derived.Test.YtacklfjpbboijaaCkCh
import Derived.Test.YtacklfjpbboijaaRow
namespace Go.Proofs.Ytacklfjpbboijaa
open Go.RowKit Go.Sep Go.Ck
section
variable (c : Nat) (q : List Msg) (X w : World) (F : List Asn)

/-- The cells of a message. -/
def mcells (m : Msg) : List Value := [.int .i64 (code m).1, .int .i64 0, .int .i64 0, .int .i64 0, .int .i64 (code m).2, .slice none 0 0]
theorem news6 (w : World) (T : TypeId) (a b d e x y : Value) : ∀ (j : Nat) (u : Value), [a, b, d, e, x, y][j]? = some u → (w.alloc (.cells #[a, b, d, e, x, y] T)).cell? ((⟨w.heap.size, 0, none⟩ : Addr).add j) = some u := by
  intro j u hu
  have hadd : (⟨w.heap.size, 0, none⟩ : Addr).add j = ⟨w.heap.size, j, none⟩ := by unfold Addr.add; split <;> simp_all
  rw [hadd, cell_of_row _ w.heap.size j _ T (0, 0) (heap_alloc_new w _)]
  simpa using hu
theorem fm_snoc (q : List Msg) {k : Nat} (h : k < q.length) : (q.take (k + 1)).flatMap mcells = (q.take k).flatMap mcells ++ mcells q[k] := by
  rw [List.take_succ_eq_append_getElem h, List.flatMap_append, List.flatMap_cons, List.flatMap_nil, List.append_nil]
theorem Try.infoM : (Try.prog.info? 44).map (fun i => (i.zero, i.size, i.bytes)) = some (some (.agg #[.int .i64 0, .int .i64 0, .int .i64 0, .int .i64 0, .int .i64 0, .slice none 0 0]), 6, 64) := by kernel_rfl

set_option maxRecDepth 100000 in
set_option maxHeartbeats 2000000 in
theorem list_ok (h : Sat X w (chanA c q :: F)) : Calls Try.prog 27 #[.pointer (some ⟨c, 0, none⟩)] w fun e w' =>
    ∃ v, e = .returned v ∧ Sat X w' (rowA 44 6 v q.length (q.flatMap mcells) :: chanA c q :: F) := by
  obtain ⟨r, f, s, hf, hq, hr, h⟩ := chan_open h
  obtain ⟨i0, hi, hz0, hz1, hz2⟩ := info_parts Try.infoM
  have k25 : w.cell? ⟨c, 25, none⟩ = some (.int .i64 (q.length : Int)) := h.cell 25
  have hq0 : (0 : Int) ≤ (q.length : Int) := by omega
  have hq3 : (q.length : Int) ≤ 4 := by omega
  have hf0 : (0 : Int) ≤ (f : Int) := by omega
  have hf3 : (f : Int) ≤ 3 := by omega
  have HR := Lib.hid hr
  clear hr
  go_enter Try.func27, Try.ntmps27
  go_wp2
  go_loopw [3, 9] (fun v i wr => ∃ k : Nat, k ≤ q.length ∧ i = .int .i64 (k : Int) ∧ Sat X wr (rowA 44 6 v k ((q.take k).flatMap mcells) :: blk c 71 (ringA r f q.length s) :: F)) (fun _ i _ => q.length - (intOf i).toNat)
  case atStart => exact ⟨0, Nat.zero_le _, rfl, (Sat.rowNil h)⟩
  case round =>
    obtain ⟨k, hk, rfl, hS⟩ := hrel
    have c24 : wr.cell? ⟨c, 24, none⟩ = some (.int .i64 (f : Int)) := hS.swap.cell 24
    have hk0 : (0 : Int) ≤ (k : Int) := by omega
    by_cases hlt : k < q.length
    · have hlti : (k : Int) < (q.length : Int) := by omega
      have hsum : IntKind.i64.wrap ((f : Int) + (k : Int)) = (f : Int) + (k : Int) := IntWalk.i64_in _ (by omega)
      have HM := Lib.hid (HR.out k q[k] (List.getElem?_eq_getElem hlt))
      have : (f + k) % 4 = 0 ∨ (f + k) % 4 = 1 ∨ (f + k) % 4 = 2 ∨ (f + k) % 4 = 3 := by omega
      go_wp2
      rcases this with hg | hg | hg | hg
      · have c0 : wr.cell? ⟨c, 0, none⟩ = some (.int .i64 (r 0).1) := hS.swap.cell 0; have c1 : wr.cell? ⟨c, 1, none⟩ = some (.int .i64 0) := hS.swap.cell 1; have c2 : wr.cell? ⟨c, 2, none⟩ = some (.int .i64 0) := hS.swap.cell 2; have c3 : wr.cell? ⟨c, 3, none⟩ = some (.int .i64 0) := hS.swap.cell 3; have c4 : wr.cell? ⟨c, 4, none⟩ = some (.int .i64 (r 0).2) := hS.swap.cell 4; have c5 : wr.cell? ⟨c, 5, none⟩ = some (.slice none 0 0) := hS.swap.cell 5
        have htm : ((f : Int) + (k : Int)).tmod 4 = 0 := by rw [Int.tmod_eq_emod_of_nonneg (by omega)]; omega
        go_region_held3 (fun w' => w'.cell? ⟨c, 24, none⟩ = some (.int .i64 (f : Int)) ∧ w'.cell? ⟨c, 0, none⟩ = some (.int .i64 (r 0).1) ∧ w'.cell? ⟨c, 1, none⟩ = some (.int .i64 0) ∧ w'.cell? ⟨c, 2, none⟩ = some (.int .i64 0) ∧ w'.cell? ⟨c, 3, none⟩ = some (.int .i64 0) ∧ w'.cell? ⟨c, 4, none⟩ = some (.int .i64 (r 0).2) ∧ w'.cell? ⟨c, 5, none⟩ = some (.slice none 0 0))
          (first | (with_reducible exact ⟨a24, a0, a1, a2, a3, a4, a5⟩) | (with_reducible exact ⟨d24, d0, d1, d2, d3, d4, d5⟩) | (have _h := d24; go_simp; done) | (simp [c24, c0, c1, c2, c3, c4, c5]; done))
          (first | ((go_at_call 31; (with_reducible refine (clone_any _ _ _ _ _ _).mono ?_); rintro e w2 ⟨rfl, hx2⟩; have hS2 := (hS.drew).ext hx2; have d24 : w2.cell? ⟨c, 24, none⟩ = some (.int .i64 (f : Int)) := hS2.swap.cell 24; have d0 : w2.cell? ⟨c, 0, none⟩ = some (.int .i64 (r 0).1) := hS2.swap.cell 0; have d1 : w2.cell? ⟨c, 1, none⟩ = some (.int .i64 0) := hS2.swap.cell 1; have d2 : w2.cell? ⟨c, 2, none⟩ = some (.int .i64 0) := hS2.swap.cell 2; have d3 : w2.cell? ⟨c, 3, none⟩ = some (.int .i64 0) := hS2.swap.cell 3; have d4 : w2.cell? ⟨c, 4, none⟩ = some (.int .i64 (r 0).2) := hS2.swap.cell 4; have d5 : w2.cell? ⟨c, 5, none⟩ = some (.slice none 0 0) := hS2.swap.cell 5; have hlt2 : c < w2.heap.size := Sat.lt hS2.swap)) | ((refine step_append_sep rfl (.tmp 12) (.tmp 26) 66 rfl i0 _ 64 Try.underlying66 hi hz0 hz1 hz2 rfl (by decide) rfl (hS2.alloc _) ⟨w2.heap.size, 0, none⟩ 1 1 [.int .i64 (r 0).1, .int .i64 0, .int .i64 0, .int .i64 0, .int .i64 (r 0).2, .slice none 0 0] rfl rfl (news6 _ _ _ _ _ _ _ _) (by simp [Value.oneCell']) (by unfold maxLen; omega) (by omega) ?_; intro v' w3 hS3 _; have a24 : w3.cell? ⟨c, 24, none⟩ = some (.int .i64 (f : Int)) := hS3.swap.cell 24; have a0 : w3.cell? ⟨c, 0, none⟩ = some (.int .i64 (r 0).1) := hS3.swap.cell 0; have a1 : w3.cell? ⟨c, 1, none⟩ = some (.int .i64 0) := hS3.swap.cell 1; have a2 : w3.cell? ⟨c, 2, none⟩ = some (.int .i64 0) := hS3.swap.cell 2; have a3 : w3.cell? ⟨c, 3, none⟩ = some (.int .i64 0) := hS3.swap.cell 3; have a4 : w3.cell? ⟨c, 4, none⟩ = some (.int .i64 (r 0).2) := hS3.swap.cell 4; have a5 : w3.cell? ⟨c, 5, none⟩ = some (.slice none 0 0) := hS3.swap.cell 5)))
        clear htm hsum
        go_wp2
        go_roundw
        case rel =>
          refine ⟨k + 1, by omega, by go_num, ?_⟩
          rw [fm_snoc q hlt]
          have e : mcells q[k] = [.int .i64 (r 0).1, .int .i64 0, .int .i64 0, .int .i64 0, .int .i64 (r 0).2, .slice none 0 0] := by
            have := HM.out
            rw [hg] at this
            unfold mcells
            rw [← this]
          rw [e]
          exact hS3
        case measure => simp [intOf]; omega
      · have c0 : wr.cell? ⟨c, 6, none⟩ = some (.int .i64 (r 1).1) := hS.swap.cell 6; have c1 : wr.cell? ⟨c, 7, none⟩ = some (.int .i64 0) := hS.swap.cell 7; have c2 : wr.cell? ⟨c, 8, none⟩ = some (.int .i64 0) := hS.swap.cell 8; have c3 : wr.cell? ⟨c, 9, none⟩ = some (.int .i64 0) := hS.swap.cell 9; have c4 : wr.cell? ⟨c, 10, none⟩ = some (.int .i64 (r 1).2) := hS.swap.cell 10; have c5 : wr.cell? ⟨c, 11, none⟩ = some (.slice none 0 0) := hS.swap.cell 11
        have htm : ((f : Int) + (k : Int)).tmod 4 = 1 := by rw [Int.tmod_eq_emod_of_nonneg (by omega)]; omega
        go_region_held3 (fun w' => w'.cell? ⟨c, 24, none⟩ = some (.int .i64 (f : Int)) ∧ w'.cell? ⟨c, 6, none⟩ = some (.int .i64 (r 1).1) ∧ w'.cell? ⟨c, 7, none⟩ = some (.int .i64 0) ∧ w'.cell? ⟨c, 8, none⟩ = some (.int .i64 0) ∧ w'.cell? ⟨c, 9, none⟩ = some (.int .i64 0) ∧ w'.cell? ⟨c, 10, none⟩ = some (.int .i64 (r 1).2) ∧ w'.cell? ⟨c, 11, none⟩ = some (.slice none 0 0))
          (first | (with_reducible exact ⟨a24, a0, a1, a2, a3, a4, a5⟩) | (with_reducible exact ⟨d24, d0, d1, d2, d3, d4, d5⟩) | (have _h := d24; go_simp; done) | (simp [c24, c0, c1, c2, c3, c4, c5]; done))
          (first | ((go_at_call 31; (with_reducible refine (clone_any _ _ _ _ _ _).mono ?_); rintro e w2 ⟨rfl, hx2⟩; have hS2 := (hS.drew).ext hx2; have d24 : w2.cell? ⟨c, 24, none⟩ = some (.int .i64 (f : Int)) := hS2.swap.cell 24; have d0 : w2.cell? ⟨c, 6, none⟩ = some (.int .i64 (r 1).1) := hS2.swap.cell 6; have d1 : w2.cell? ⟨c, 7, none⟩ = some (.int .i64 0) := hS2.swap.cell 7; have d2 : w2.cell? ⟨c, 8, none⟩ = some (.int .i64 0) := hS2.swap.cell 8; have d3 : w2.cell? ⟨c, 9, none⟩ = some (.int .i64 0) := hS2.swap.cell 9; have d4 : w2.cell? ⟨c, 10, none⟩ = some (.int .i64 (r 1).2) := hS2.swap.cell 10; have d5 : w2.cell? ⟨c, 11, none⟩ = some (.slice none 0 0) := hS2.swap.cell 11; have hlt2 : c < w2.heap.size := Sat.lt hS2.swap)) | ((refine step_append_sep rfl (.tmp 12) (.tmp 26) 66 rfl i0 _ 64 Try.underlying66 hi hz0 hz1 hz2 rfl (by decide) rfl (hS2.alloc _) ⟨w2.heap.size, 0, none⟩ 1 1 [.int .i64 (r 1).1, .int .i64 0, .int .i64 0, .int .i64 0, .int .i64 (r 1).2, .slice none 0 0] rfl rfl (news6 _ _ _ _ _ _ _ _) (by simp [Value.oneCell']) (by unfold maxLen; omega) (by omega) ?_; intro v' w3 hS3 _; have a24 : w3.cell? ⟨c, 24, none⟩ = some (.int .i64 (f : Int)) := hS3.swap.cell 24; have a0 : w3.cell? ⟨c, 6, none⟩ = some (.int .i64 (r 1).1) := hS3.swap.cell 6; have a1 : w3.cell? ⟨c, 7, none⟩ = some (.int .i64 0) := hS3.swap.cell 7; have a2 : w3.cell? ⟨c, 8, none⟩ = some (.int .i64 0) := hS3.swap.cell 8; have a3 : w3.cell? ⟨c, 9, none⟩ = some (.int .i64 0) := hS3.swap.cell 9; have a4 : w3.cell? ⟨c, 10, none⟩ = some (.int .i64 (r 1).2) := hS3.swap.cell 10; have a5 : w3.cell? ⟨c, 11, none⟩ = some (.slice none 0 0) := hS3.swap.cell 11)))
        clear htm hsum
        go_wp2
        go_roundw
        case rel =>
          refine ⟨k + 1, by omega, by go_num, ?_⟩
          rw [fm_snoc q hlt]
          have e : mcells q[k] = [.int .i64 (r 1).1, .int .i64 0, .int .i64 0, .int .i64 0, .int .i64 (r 1).2, .slice none 0 0] := by
            have := HM.out
            rw [hg] at this
            unfold mcells
            rw [← this]
          rw [e]
          exact hS3
        case measure => simp [intOf]; omega
      · have c0 : wr.cell? ⟨c, 12, none⟩ = some (.int .i64 (r 2).1) := hS.swap.cell 12; have c1 : wr.cell? ⟨c, 13, none⟩ = some (.int .i64 0) := hS.swap.cell 13; have c2 : wr.cell? ⟨c, 14, none⟩ = some (.int .i64 0) := hS.swap.cell 14; have c3 : wr.cell? ⟨c, 15, none⟩ = some (.int .i64 0) := hS.swap.cell 15; have c4 : wr.cell? ⟨c, 16, none⟩ = some (.int .i64 (r 2).2) := hS.swap.cell 16; have c5 : wr.cell? ⟨c, 17, none⟩ = some (.slice none 0 0) := hS.swap.cell 17
        have htm : ((f : Int) + (k : Int)).tmod 4 = 2 := by rw [Int.tmod_eq_emod_of_nonneg (by omega)]; omega
        go_region_held3 (fun w' => w'.cell? ⟨c, 24, none⟩ = some (.int .i64 (f : Int)) ∧ w'.cell? ⟨c, 12, none⟩ = some (.int .i64 (r 2).1) ∧ w'.cell? ⟨c, 13, none⟩ = some (.int .i64 0) ∧ w'.cell? ⟨c, 14, none⟩ = some (.int .i64 0) ∧ w'.cell? ⟨c, 15, none⟩ = some (.int .i64 0) ∧ w'.cell? ⟨c, 16, none⟩ = some (.int .i64 (r 2).2) ∧ w'.cell? ⟨c, 17, none⟩ = some (.slice none 0 0))
          (first | (with_reducible exact ⟨a24, a0, a1, a2, a3, a4, a5⟩) | (with_reducible exact ⟨d24, d0, d1, d2, d3, d4, d5⟩) | (have _h := d24; go_simp; done) | (simp [c24, c0, c1, c2, c3, c4, c5]; done))
          (first | ((go_at_call 31; (with_reducible refine (clone_any _ _ _ _ _ _).mono ?_); rintro e w2 ⟨rfl, hx2⟩; have hS2 := (hS.drew).ext hx2; have d24 : w2.cell? ⟨c, 24, none⟩ = some (.int .i64 (f : Int)) := hS2.swap.cell 24; have d0 : w2.cell? ⟨c, 12, none⟩ = some (.int .i64 (r 2).1) := hS2.swap.cell 12; have d1 : w2.cell? ⟨c, 13, none⟩ = some (.int .i64 0) := hS2.swap.cell 13; have d2 : w2.cell? ⟨c, 14, none⟩ = some (.int .i64 0) := hS2.swap.cell 14; have d3 : w2.cell? ⟨c, 15, none⟩ = some (.int .i64 0) := hS2.swap.cell 15; have d4 : w2.cell? ⟨c, 16, none⟩ = some (.int .i64 (r 2).2) := hS2.swap.cell 16; have d5 : w2.cell? ⟨c, 17, none⟩ = some (.slice none 0 0) := hS2.swap.cell 17; have hlt2 : c < w2.heap.size := Sat.lt hS2.swap)) | ((refine step_append_sep rfl (.tmp 12) (.tmp 26) 66 rfl i0 _ 64 Try.underlying66 hi hz0 hz1 hz2 rfl (by decide) rfl (hS2.alloc _) ⟨w2.heap.size, 0, none⟩ 1 1 [.int .i64 (r 2).1, .int .i64 0, .int .i64 0, .int .i64 0, .int .i64 (r 2).2, .slice none 0 0] rfl rfl (news6 _ _ _ _ _ _ _ _) (by simp [Value.oneCell']) (by unfold maxLen; omega) (by omega) ?_; intro v' w3 hS3 _; have a24 : w3.cell? ⟨c, 24, none⟩ = some (.int .i64 (f : Int)) := hS3.swap.cell 24; have a0 : w3.cell? ⟨c, 12, none⟩ = some (.int .i64 (r 2).1) := hS3.swap.cell 12; have a1 : w3.cell? ⟨c, 13, none⟩ = some (.int .i64 0) := hS3.swap.cell 13; have a2 : w3.cell? ⟨c, 14, none⟩ = some (.int .i64 0) := hS3.swap.cell 14; have a3 : w3.cell? ⟨c, 15, none⟩ = some (.int .i64 0) := hS3.swap.cell 15; have a4 : w3.cell? ⟨c, 16, none⟩ = some (.int .i64 (r 2).2) := hS3.swap.cell 16; have a5 : w3.cell? ⟨c, 17, none⟩ = some (.slice none 0 0) := hS3.swap.cell 17)))
        clear htm hsum
        go_wp2
        go_roundw
        case rel =>
          refine ⟨k + 1, by omega, by go_num, ?_⟩
          rw [fm_snoc q hlt]
          have e : mcells q[k] = [.int .i64 (r 2).1, .int .i64 0, .int .i64 0, .int .i64 0, .int .i64 (r 2).2, .slice none 0 0] := by
            have := HM.out
            rw [hg] at this
            unfold mcells
            rw [← this]
          rw [e]
          exact hS3
        case measure => simp [intOf]; omega
      · have c0 : wr.cell? ⟨c, 18, none⟩ = some (.int .i64 (r 3).1) := hS.swap.cell 18; have c1 : wr.cell? ⟨c, 19, none⟩ = some (.int .i64 0) := hS.swap.cell 19; have c2 : wr.cell? ⟨c, 20, none⟩ = some (.int .i64 0) := hS.swap.cell 20; have c3 : wr.cell? ⟨c, 21, none⟩ = some (.int .i64 0) := hS.swap.cell 21; have c4 : wr.cell? ⟨c, 22, none⟩ = some (.int .i64 (r 3).2) := hS.swap.cell 22; have c5 : wr.cell? ⟨c, 23, none⟩ = some (.slice none 0 0) := hS.swap.cell 23
        have htm : ((f : Int) + (k : Int)).tmod 4 = 3 := by rw [Int.tmod_eq_emod_of_nonneg (by omega)]; omega
        go_region_held3 (fun w' => w'.cell? ⟨c, 24, none⟩ = some (.int .i64 (f : Int)) ∧ w'.cell? ⟨c, 18, none⟩ = some (.int .i64 (r 3).1) ∧ w'.cell? ⟨c, 19, none⟩ = some (.int .i64 0) ∧ w'.cell? ⟨c, 20, none⟩ = some (.int .i64 0) ∧ w'.cell? ⟨c, 21, none⟩ = some (.int .i64 0) ∧ w'.cell? ⟨c, 22, none⟩ = some (.int .i64 (r 3).2) ∧ w'.cell? ⟨c, 23, none⟩ = some (.slice none 0 0))
          (first | (with_reducible exact ⟨a24, a0, a1, a2, a3, a4, a5⟩) | (with_reducible exact ⟨d24, d0, d1, d2, d3, d4, d5⟩) | (have _h := d24; go_simp; done) | (simp [c24, c0, c1, c2, c3, c4, c5]; done))
          (first | ((go_at_call 31; (with_reducible refine (clone_any _ _ _ _ _ _).mono ?_); rintro e w2 ⟨rfl, hx2⟩; have hS2 := (hS.drew).ext hx2; have d24 : w2.cell? ⟨c, 24, none⟩ = some (.int .i64 (f : Int)) := hS2.swap.cell 24; have d0 : w2.cell? ⟨c, 18, none⟩ = some (.int .i64 (r 3).1) := hS2.swap.cell 18; have d1 : w2.cell? ⟨c, 19, none⟩ = some (.int .i64 0) := hS2.swap.cell 19; have d2 : w2.cell? ⟨c, 20, none⟩ = some (.int .i64 0) := hS2.swap.cell 20; have d3 : w2.cell? ⟨c, 21, none⟩ = some (.int .i64 0) := hS2.swap.cell 21; have d4 : w2.cell? ⟨c, 22, none⟩ = some (.int .i64 (r 3).2) := hS2.swap.cell 22; have d5 : w2.cell? ⟨c, 23, none⟩ = some (.slice none 0 0) := hS2.swap.cell 23; have hlt2 : c < w2.heap.size := Sat.lt hS2.swap)) | ((refine step_append_sep rfl (.tmp 12) (.tmp 26) 66 rfl i0 _ 64 Try.underlying66 hi hz0 hz1 hz2 rfl (by decide) rfl (hS2.alloc _) ⟨w2.heap.size, 0, none⟩ 1 1 [.int .i64 (r 3).1, .int .i64 0, .int .i64 0, .int .i64 0, .int .i64 (r 3).2, .slice none 0 0] rfl rfl (news6 _ _ _ _ _ _ _ _) (by simp [Value.oneCell']) (by unfold maxLen; omega) (by omega) ?_; intro v' w3 hS3 _; have a24 : w3.cell? ⟨c, 24, none⟩ = some (.int .i64 (f : Int)) := hS3.swap.cell 24; have a0 : w3.cell? ⟨c, 18, none⟩ = some (.int .i64 (r 3).1) := hS3.swap.cell 18; have a1 : w3.cell? ⟨c, 19, none⟩ = some (.int .i64 0) := hS3.swap.cell 19; have a2 : w3.cell? ⟨c, 20, none⟩ = some (.int .i64 0) := hS3.swap.cell 20; have a3 : w3.cell? ⟨c, 21, none⟩ = some (.int .i64 0) := hS3.swap.cell 21; have a4 : w3.cell? ⟨c, 22, none⟩ = some (.int .i64 (r 3).2) := hS3.swap.cell 22; have a5 : w3.cell? ⟨c, 23, none⟩ = some (.slice none 0 0) := hS3.swap.cell 23)))
        clear htm hsum
        go_wp2
        go_roundw
        case rel =>
          refine ⟨k + 1, by omega, by go_num, ?_⟩
          rw [fm_snoc q hlt]
          have e : mcells q[k] = [.int .i64 (r 3).1, .int .i64 0, .int .i64 0, .int .i64 0, .int .i64 (r 3).2, .slice none 0 0] := by
            have := HM.out
            rw [hg] at this
            unfold mcells
            rw [← this]
          rw [e]
          exact hS3
        case measure => simp [intOf]; omega
    · have hge : (q.length : Int) ≤ (k : Int) := by omega
      have HK := Lib.hid (show k = q.length by omega)
      go_wp2
      go_ret
      have hk' := HK.out
      subst hk'
      rw [List.take_length] at hS
      exact ⟨_, rfl, (chan_shut r f s hf hq HR.out hS.swap).swap⟩
end
end Go.Proofs.Ytacklfjpbboijaa
