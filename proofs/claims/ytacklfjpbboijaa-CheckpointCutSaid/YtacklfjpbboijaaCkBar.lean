/-
  CheckpointCut, walks: a gate notes a barrier; what a gate says, in one contract.
-/
import Derived.Test.YtacklfjpbboijaaCkGate
namespace Go.Proofs.Ytacklfjpbboijaa
open Go.RowKit Go.Sep Go.Ck

section
variable (g mb i chs num kind n : Nat) (came : List Nat) (X w : World) (F : List Asn)

theorem keep4 (a b c d v : Value) : #[a, b, c, d].setIfInBounds 2 v = #[a, b, v, d] := rfl
theorem keep4' (a b c d v : Value) : #[a, b, c, d].setIfInBounds 3 v = #[a, b, c, v] := rfl

set_option maxRecDepth 100000 in
set_option maxHeartbeats 1000000 in
theorem barrier_full_0_busy (hb : 1 ≤ num) (hf : came.length + 1 = chs) (hm : i ∉ came)
    (h : Sat X w (blk g 74 #[.int .i64 (chs : Int), .map (some mb), .int .i64 (num : Int), .int .i64 (kind : Int)] :: trues mb came :: F)) :
    Calls Try.prog 30 #[.pointer (some ⟨g, 0, none⟩), .int .i64 (i : Int), .int .i64 (n : Int), .int .i64 0] w fun e w' => e = .returned (.int .i64 4) ∧ Sat X w' (gateA g ⟨chs, [], 0, 0⟩ :: F) := by
  have s1 := ((h.set 2 (.int .i64 (n : Int))).set 3 (.int .i64 0)).swap
  rw [keep4, keep4'] at s1
  obtain ⟨c, w1, w2, e1, e2, s2⟩ := run_entry_trues (P := Try.prog) s1 Try.underlying72 Try.underlying3 (zeroBool _) hm
  have hlen : ∀ nq, (Builtin.len_ #[72] 3 #[.map (some mb)]).run Try.prog (w2.drewN nq) = .ok (.int .i64 (chs : Int)) (w2.drewN nq) := fun nq => by
    have := run_len_trues (P := Try.prog) (s2.drewN nq) Try.underlying72 3
    rw [this]
    simp only [List.length_append, List.length_singleton]
    rw [hf]
  have k1 : w.cell? ⟨g, 1, none⟩ = some (.map (some mb)) := h.cell 1
  have k2 : w.cell? ⟨g, 2, none⟩ = some (.int .i64 (num : Int)) := h.cell 2
  have k3 : w.cell? ⟨g, 3, none⟩ = some (.int .i64 (kind : Int)) := h.cell 3
  have f2 := h.frozen 2
  have f3 := h.frozen 3
  have j0 : w2.cell? ⟨g, 0, none⟩ = some (.int .i64 (chs : Int)) := s2.swap.cell 0
  have j1 : w2.cell? ⟨g, 1, none⟩ = some (.map (some mb)) := s2.swap.cell 1
  clear hf
  go_enter Try.func30, Try.ntmps30
  go_wp2_with (go_at_call 21; (with_reducible refine (busy_yes _ num _ (by omega) (by go_simp)).mono ?_); rintro e w' ⟨rfl, rfl⟩)
  go_quiet (fail)
  go_wp2_with (go_at_call 33; (with_reducible refine (cancel_any _ _ _ _ _ X _ _ (s2.swap.drewN _)).mono ?_); rintro e w3 ⟨rfl, mb3, s3⟩)
  go_ret
  exact ⟨rfl, (Sat.shut (l := [_, _]) ((s3.front 2 (by simp)).drop)).mkEx mb3⟩

set_option maxRecDepth 100000 in
set_option maxHeartbeats 1000000 in
theorem barrier_full_0_idle (hf : came.length + 1 = chs) (hm : i ∉ came)
    (h : Sat X w (blk g 74 #[.int .i64 (chs : Int), .map (some mb), .int .i64 0, .int .i64 (kind : Int)] :: trues mb came :: F)) :
    Calls Try.prog 30 #[.pointer (some ⟨g, 0, none⟩), .int .i64 (i : Int), .int .i64 (n : Int), .int .i64 0] w fun e w' => e = .returned (.int .i64 4) ∧ Sat X w' (gateA g ⟨chs, [], 0, 0⟩ :: F) := by
  have s1 := ((h.set 2 (.int .i64 (n : Int))).set 3 (.int .i64 0)).swap
  rw [keep4, keep4'] at s1
  obtain ⟨c, w1, w2, e1, e2, s2⟩ := run_entry_trues (P := Try.prog) s1 Try.underlying72 Try.underlying3 (zeroBool _) hm
  have hlen : ∀ nq, (Builtin.len_ #[72] 3 #[.map (some mb)]).run Try.prog (w2.drewN nq) = .ok (.int .i64 (chs : Int)) (w2.drewN nq) := fun nq => by
    have := run_len_trues (P := Try.prog) (s2.drewN nq) Try.underlying72 3
    rw [this]
    simp only [List.length_append, List.length_singleton]
    rw [hf]
  have k1 : w.cell? ⟨g, 1, none⟩ = some (.map (some mb)) := h.cell 1
  have k2 : w.cell? ⟨g, 2, none⟩ = some (.int .i64 0) := h.cell 2
  have k3 : w.cell? ⟨g, 3, none⟩ = some (.int .i64 (kind : Int)) := h.cell 3
  have f2 := h.frozen 2
  have f3 := h.frozen 3
  have j0 : w2.cell? ⟨g, 0, none⟩ = some (.int .i64 (chs : Int)) := s2.swap.cell 0
  have j1 : w2.cell? ⟨g, 1, none⟩ = some (.map (some mb)) := s2.swap.cell 1
  clear hf
  go_enter Try.func30, Try.ntmps30
  go_wp2_with (go_at_call 21; (with_reducible refine (busy_no _ _ (by go_simp)).mono ?_); rintro e w' ⟨rfl, rfl⟩)
  go_quiet (fail)
  go_wp2_with (go_at_call 33; (with_reducible refine (cancel_any _ _ _ _ _ X _ _ (s2.swap.drewN _)).mono ?_); rintro e w3 ⟨rfl, mb3, s3⟩)
  go_ret
  exact ⟨rfl, (Sat.shut (l := [_, _]) ((s3.front 2 (by simp)).drop)).mkEx mb3⟩

set_option maxRecDepth 100000 in
set_option maxHeartbeats 1000000 in
theorem barrier_full_1_busy (hb : 1 ≤ num) (hf : came.length + 1 = chs) (hm : i ∉ came)
    (h : Sat X w (blk g 74 #[.int .i64 (chs : Int), .map (some mb), .int .i64 (num : Int), .int .i64 (kind : Int)] :: trues mb came :: F)) :
    Calls Try.prog 30 #[.pointer (some ⟨g, 0, none⟩), .int .i64 (i : Int), .int .i64 (n : Int), .int .i64 1] w fun e w' => e = .returned (.int .i64 3) ∧ Sat X w' (gateA g ⟨chs, [], 0, 1⟩ :: F) := by
  have s1 := ((h.set 2 (.int .i64 (n : Int))).set 3 (.int .i64 1)).swap
  rw [keep4, keep4'] at s1
  obtain ⟨c, w1, w2, e1, e2, s2⟩ := run_entry_trues (P := Try.prog) s1 Try.underlying72 Try.underlying3 (zeroBool _) hm
  have hlen : ∀ nq, (Builtin.len_ #[72] 3 #[.map (some mb)]).run Try.prog (w2.drewN nq) = .ok (.int .i64 (chs : Int)) (w2.drewN nq) := fun nq => by
    have := run_len_trues (P := Try.prog) (s2.drewN nq) Try.underlying72 3
    rw [this]
    simp only [List.length_append, List.length_singleton]
    rw [hf]
  have k1 : w.cell? ⟨g, 1, none⟩ = some (.map (some mb)) := h.cell 1
  have k2 : w.cell? ⟨g, 2, none⟩ = some (.int .i64 (num : Int)) := h.cell 2
  have k3 : w.cell? ⟨g, 3, none⟩ = some (.int .i64 (kind : Int)) := h.cell 3
  have f2 := h.frozen 2
  have f3 := h.frozen 3
  have j0 : w2.cell? ⟨g, 0, none⟩ = some (.int .i64 (chs : Int)) := s2.swap.cell 0
  have j1 : w2.cell? ⟨g, 1, none⟩ = some (.map (some mb)) := s2.swap.cell 1
  clear hf
  go_enter Try.func30, Try.ntmps30
  go_wp2_with (go_at_call 21; (with_reducible refine (busy_yes _ num _ (by omega) (by go_simp)).mono ?_); rintro e w' ⟨rfl, rfl⟩)
  go_quiet (fail)
  go_wp2_with (go_at_call 33; (with_reducible refine (cancel_any _ _ _ _ _ X _ _ (s2.swap.drewN _)).mono ?_); rintro e w3 ⟨rfl, mb3, s3⟩)
  go_ret
  exact ⟨rfl, (Sat.shut (l := [_, _]) ((s3.front 2 (by simp)).drop)).mkEx mb3⟩

set_option maxRecDepth 100000 in
set_option maxHeartbeats 1000000 in
theorem barrier_full_1_idle (hf : came.length + 1 = chs) (hm : i ∉ came)
    (h : Sat X w (blk g 74 #[.int .i64 (chs : Int), .map (some mb), .int .i64 0, .int .i64 (kind : Int)] :: trues mb came :: F)) :
    Calls Try.prog 30 #[.pointer (some ⟨g, 0, none⟩), .int .i64 (i : Int), .int .i64 (n : Int), .int .i64 1] w fun e w' => e = .returned (.int .i64 4) ∧ Sat X w' (gateA g ⟨chs, [], 0, 1⟩ :: F) := by
  have s1 := ((h.set 2 (.int .i64 (n : Int))).set 3 (.int .i64 1)).swap
  rw [keep4, keep4'] at s1
  obtain ⟨c, w1, w2, e1, e2, s2⟩ := run_entry_trues (P := Try.prog) s1 Try.underlying72 Try.underlying3 (zeroBool _) hm
  have hlen : ∀ nq, (Builtin.len_ #[72] 3 #[.map (some mb)]).run Try.prog (w2.drewN nq) = .ok (.int .i64 (chs : Int)) (w2.drewN nq) := fun nq => by
    have := run_len_trues (P := Try.prog) (s2.drewN nq) Try.underlying72 3
    rw [this]
    simp only [List.length_append, List.length_singleton]
    rw [hf]
  have k1 : w.cell? ⟨g, 1, none⟩ = some (.map (some mb)) := h.cell 1
  have k2 : w.cell? ⟨g, 2, none⟩ = some (.int .i64 0) := h.cell 2
  have k3 : w.cell? ⟨g, 3, none⟩ = some (.int .i64 (kind : Int)) := h.cell 3
  have f2 := h.frozen 2
  have f3 := h.frozen 3
  have j0 : w2.cell? ⟨g, 0, none⟩ = some (.int .i64 (chs : Int)) := s2.swap.cell 0
  have j1 : w2.cell? ⟨g, 1, none⟩ = some (.map (some mb)) := s2.swap.cell 1
  clear hf
  go_enter Try.func30, Try.ntmps30
  go_wp2_with (go_at_call 21; (with_reducible refine (busy_no _ _ (by go_simp)).mono ?_); rintro e w' ⟨rfl, rfl⟩)
  go_quiet (fail)
  go_wp2_with (go_at_call 33; (with_reducible refine (cancel_any _ _ _ _ _ X _ _ (s2.swap.drewN _)).mono ?_); rintro e w3 ⟨rfl, mb3, s3⟩)
  go_ret
  exact ⟨rfl, (Sat.shut (l := [_, _]) ((s3.front 2 (by simp)).drop)).mkEx mb3⟩

set_option maxRecDepth 100000 in
set_option maxHeartbeats 1000000 in
theorem barrier_part_0_busy (hb : 1 ≤ num) (hf : came.length + 1 ≠ chs) (hm : i ∉ came)
    (h : Sat X w (blk g 74 #[.int .i64 (chs : Int), .map (some mb), .int .i64 (num : Int), .int .i64 (kind : Int)] :: trues mb came :: F)) :
    Calls Try.prog 30 #[.pointer (some ⟨g, 0, none⟩), .int .i64 (i : Int), .int .i64 (n : Int), .int .i64 0] w fun e w' => e = .returned (.int .i64 3) ∧ Sat X w' (gateA g ⟨chs, came ++ [i], n, 0⟩ :: F) := by
  have s1 := ((h.set 2 (.int .i64 (n : Int))).set 3 (.int .i64 0)).swap
  rw [keep4, keep4'] at s1
  obtain ⟨c, w1, w2, e1, e2, s2⟩ := run_entry_trues (P := Try.prog) s1 Try.underlying72 Try.underlying3 (zeroBool _) hm
  obtain ⟨L, hL⟩ : ∃ L, L = came.length + 1 := ⟨_, rfl⟩
  have hlen : ∀ nq, (Builtin.len_ #[72] 3 #[.map (some mb)]).run Try.prog (w2.drewN nq) = .ok (.int .i64 (L : Int)) (w2.drewN nq) := fun nq => by
    have := run_len_trues (P := Try.prog) (s2.drewN nq) Try.underlying72 3
    rw [this]
    simp only [List.length_append, List.length_singleton]
    rw [hL]
  have hne : ((L : Int) == (chs : Int)) = false := by rw [beq_eq_false_iff_ne]; omega
  clear hL
  have k1 : w.cell? ⟨g, 1, none⟩ = some (.map (some mb)) := h.cell 1
  have k2 : w.cell? ⟨g, 2, none⟩ = some (.int .i64 (num : Int)) := h.cell 2
  have k3 : w.cell? ⟨g, 3, none⟩ = some (.int .i64 (kind : Int)) := h.cell 3
  have f2 := h.frozen 2
  have f3 := h.frozen 3
  have j0 : w2.cell? ⟨g, 0, none⟩ = some (.int .i64 (chs : Int)) := s2.swap.cell 0
  have j1 : w2.cell? ⟨g, 1, none⟩ = some (.map (some mb)) := s2.swap.cell 1
  clear hf
  go_enter Try.func30, Try.ntmps30
  go_wp2_with (go_at_call 21; (with_reducible refine (busy_yes _ num _ (by omega) (by go_simp)).mono ?_); rintro e w' ⟨rfl, rfl⟩)
  go_quiet (fail)
  go_wp2
  go_ret
  exact ⟨rfl, (Sat.shut (l := [_, _]) (s2.swap.drewN _)).mkEx mb⟩

set_option maxRecDepth 100000 in
set_option maxHeartbeats 1000000 in
theorem barrier_part_0_idle (hf : came.length + 1 ≠ chs) (hm : i ∉ came)
    (h : Sat X w (blk g 74 #[.int .i64 (chs : Int), .map (some mb), .int .i64 0, .int .i64 (kind : Int)] :: trues mb came :: F)) :
    Calls Try.prog 30 #[.pointer (some ⟨g, 0, none⟩), .int .i64 (i : Int), .int .i64 (n : Int), .int .i64 0] w fun e w' => e = .returned (.int .i64 3) ∧ Sat X w' (gateA g ⟨chs, came ++ [i], n, 0⟩ :: F) := by
  have s1 := ((h.set 2 (.int .i64 (n : Int))).set 3 (.int .i64 0)).swap
  rw [keep4, keep4'] at s1
  obtain ⟨c, w1, w2, e1, e2, s2⟩ := run_entry_trues (P := Try.prog) s1 Try.underlying72 Try.underlying3 (zeroBool _) hm
  obtain ⟨L, hL⟩ : ∃ L, L = came.length + 1 := ⟨_, rfl⟩
  have hlen : ∀ nq, (Builtin.len_ #[72] 3 #[.map (some mb)]).run Try.prog (w2.drewN nq) = .ok (.int .i64 (L : Int)) (w2.drewN nq) := fun nq => by
    have := run_len_trues (P := Try.prog) (s2.drewN nq) Try.underlying72 3
    rw [this]
    simp only [List.length_append, List.length_singleton]
    rw [hL]
  have hne : ((L : Int) == (chs : Int)) = false := by rw [beq_eq_false_iff_ne]; omega
  clear hL
  have k1 : w.cell? ⟨g, 1, none⟩ = some (.map (some mb)) := h.cell 1
  have k2 : w.cell? ⟨g, 2, none⟩ = some (.int .i64 0) := h.cell 2
  have k3 : w.cell? ⟨g, 3, none⟩ = some (.int .i64 (kind : Int)) := h.cell 3
  have f2 := h.frozen 2
  have f3 := h.frozen 3
  have j0 : w2.cell? ⟨g, 0, none⟩ = some (.int .i64 (chs : Int)) := s2.swap.cell 0
  have j1 : w2.cell? ⟨g, 1, none⟩ = some (.map (some mb)) := s2.swap.cell 1
  clear hf
  go_enter Try.func30, Try.ntmps30
  go_wp2_with (go_at_call 21; (with_reducible refine (busy_no _ _ (by go_simp)).mono ?_); rintro e w' ⟨rfl, rfl⟩)
  go_quiet (fail)
  go_wp2
  go_ret
  exact ⟨rfl, (Sat.shut (l := [_, _]) (s2.swap.drewN _)).mkEx mb⟩

set_option maxRecDepth 100000 in
set_option maxHeartbeats 1000000 in
theorem barrier_part_1_busy (hb : 1 ≤ num) (hf : came.length + 1 ≠ chs) (hm : i ∉ came)
    (h : Sat X w (blk g 74 #[.int .i64 (chs : Int), .map (some mb), .int .i64 (num : Int), .int .i64 (kind : Int)] :: trues mb came :: F)) :
    Calls Try.prog 30 #[.pointer (some ⟨g, 0, none⟩), .int .i64 (i : Int), .int .i64 (n : Int), .int .i64 1] w fun e w' => e = .returned (.int .i64 3) ∧ Sat X w' (gateA g ⟨chs, came ++ [i], n, 1⟩ :: F) := by
  have s1 := ((h.set 2 (.int .i64 (n : Int))).set 3 (.int .i64 1)).swap
  rw [keep4, keep4'] at s1
  obtain ⟨c, w1, w2, e1, e2, s2⟩ := run_entry_trues (P := Try.prog) s1 Try.underlying72 Try.underlying3 (zeroBool _) hm
  obtain ⟨L, hL⟩ : ∃ L, L = came.length + 1 := ⟨_, rfl⟩
  have hlen : ∀ nq, (Builtin.len_ #[72] 3 #[.map (some mb)]).run Try.prog (w2.drewN nq) = .ok (.int .i64 (L : Int)) (w2.drewN nq) := fun nq => by
    have := run_len_trues (P := Try.prog) (s2.drewN nq) Try.underlying72 3
    rw [this]
    simp only [List.length_append, List.length_singleton]
    rw [hL]
  have hne : ((L : Int) == (chs : Int)) = false := by rw [beq_eq_false_iff_ne]; omega
  clear hL
  have k1 : w.cell? ⟨g, 1, none⟩ = some (.map (some mb)) := h.cell 1
  have k2 : w.cell? ⟨g, 2, none⟩ = some (.int .i64 (num : Int)) := h.cell 2
  have k3 : w.cell? ⟨g, 3, none⟩ = some (.int .i64 (kind : Int)) := h.cell 3
  have f2 := h.frozen 2
  have f3 := h.frozen 3
  have j0 : w2.cell? ⟨g, 0, none⟩ = some (.int .i64 (chs : Int)) := s2.swap.cell 0
  have j1 : w2.cell? ⟨g, 1, none⟩ = some (.map (some mb)) := s2.swap.cell 1
  clear hf
  go_enter Try.func30, Try.ntmps30
  go_wp2_with (go_at_call 21; (with_reducible refine (busy_yes _ num _ (by omega) (by go_simp)).mono ?_); rintro e w' ⟨rfl, rfl⟩)
  go_quiet (fail)
  go_wp2
  go_ret
  exact ⟨rfl, (Sat.shut (l := [_, _]) (s2.swap.drewN _)).mkEx mb⟩

set_option maxRecDepth 100000 in
set_option maxHeartbeats 1000000 in
theorem barrier_part_1_idle (hf : came.length + 1 ≠ chs) (hm : i ∉ came)
    (h : Sat X w (blk g 74 #[.int .i64 (chs : Int), .map (some mb), .int .i64 0, .int .i64 (kind : Int)] :: trues mb came :: F)) :
    Calls Try.prog 30 #[.pointer (some ⟨g, 0, none⟩), .int .i64 (i : Int), .int .i64 (n : Int), .int .i64 1] w fun e w' => e = .returned (.int .i64 4) ∧ Sat X w' (gateA g ⟨chs, came ++ [i], n, 1⟩ :: F) := by
  have s1 := ((h.set 2 (.int .i64 (n : Int))).set 3 (.int .i64 1)).swap
  rw [keep4, keep4'] at s1
  obtain ⟨c, w1, w2, e1, e2, s2⟩ := run_entry_trues (P := Try.prog) s1 Try.underlying72 Try.underlying3 (zeroBool _) hm
  obtain ⟨L, hL⟩ : ∃ L, L = came.length + 1 := ⟨_, rfl⟩
  have hlen : ∀ nq, (Builtin.len_ #[72] 3 #[.map (some mb)]).run Try.prog (w2.drewN nq) = .ok (.int .i64 (L : Int)) (w2.drewN nq) := fun nq => by
    have := run_len_trues (P := Try.prog) (s2.drewN nq) Try.underlying72 3
    rw [this]
    simp only [List.length_append, List.length_singleton]
    rw [hL]
  have hne : ((L : Int) == (chs : Int)) = false := by rw [beq_eq_false_iff_ne]; omega
  clear hL
  have k1 : w.cell? ⟨g, 1, none⟩ = some (.map (some mb)) := h.cell 1
  have k2 : w.cell? ⟨g, 2, none⟩ = some (.int .i64 0) := h.cell 2
  have k3 : w.cell? ⟨g, 3, none⟩ = some (.int .i64 (kind : Int)) := h.cell 3
  have f2 := h.frozen 2
  have f3 := h.frozen 3
  have j0 : w2.cell? ⟨g, 0, none⟩ = some (.int .i64 (chs : Int)) := s2.swap.cell 0
  have j1 : w2.cell? ⟨g, 1, none⟩ = some (.map (some mb)) := s2.swap.cell 1
  clear hf
  go_enter Try.func30, Try.ntmps30
  go_wp2_with (go_at_call 21; (with_reducible refine (busy_no _ _ (by go_simp)).mono ?_); rintro e w' ⟨rfl, rfl⟩)
  go_quiet (fail)
  go_wp2
  go_ret
  exact ⟨rfl, (Sat.shut (l := [_, _]) (s2.swap.drewN _)).mkEx mb⟩

end
end Go.Proofs.Ytacklfjpbboijaa
