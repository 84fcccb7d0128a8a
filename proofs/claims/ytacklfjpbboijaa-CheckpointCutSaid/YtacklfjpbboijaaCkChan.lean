/-
  CheckpointCut, walks: messages without deltas: clone, Right.
-/
import Derived.Test.YtacklfjpbboijaaCkLeaf
import Derived.Lib.SliceRun
namespace Go.Proofs.Ytacklfjpbboijaa
open Go.RowKit Go.Sep Go.Ck

set_option maxHeartbeats 400000 in
theorem cloneNil (w : World) : Calls Try.prog 34 #[.slice none 0 0] w fun e w' => e = .returned (.slice none 0 0) ∧ w' = w := by
  have he := Lib.run_eql_slice_nil (P := Try.prog) w _ _ none 0 0 0 0 Try.underlying42
  go_enter Try.func34, Try.ntmps34
  go_wp2
  go_ret
  exact ⟨rfl, rfl⟩

set_option maxHeartbeats 1000000 in
theorem clone_any (k0 k1 k2 k3 k4 : Int) (w : World) :
    Calls Try.prog 31 #[.agg #[.int .i64 k0, .int .i64 k1, .int .i64 k2, .int .i64 k3, .int .i64 k4, .slice none 0 0]] w fun e w' =>
      e = .returned (.agg #[.int .i64 k0, .int .i64 k1, .int .i64 k2, .int .i64 k3, .int .i64 k4, .slice none 0 0]) ∧ Ext w w' := by
  go_enter Try.func31, Try.ntmps31
  go_wp2_with (go_at_call 34; (with_reducible refine (cloneNil _).mono ?_); rintro e w' ⟨rfl, rfl⟩)
  refine wp_loop_once ?_
  go_wp2
  refine bodyPost_ret (v := .agg #[.int .i64 k0, .int .i64 k1, .int .i64 k2, .int .i64 k3, .int .i64 k4, .slice none 0 0]) (by simp [results, Try.results31, go_sem]) rfl ⟨rfl, ?_⟩
  repeat' (first | exact Below.refl _ _ | (refine Below.alloc ?_ (by simp) _) | (refine Below.setCell ?_ (by simp) _) | (refine Below.drew ?_))


set_option maxHeartbeats 400000 in
theorem consNil (w : World) : Calls Try.prog 36 #[.slice none 0 0] w fun e w' => e = .returned (.bool true) ∧ w' = w := by
  go_enter Try.func36, Try.ntmps36
  go_wp2
  refine wp_loop_once ?_
  go_wp2
  go_ret
  exact ⟨rfl, rfl⟩

set_option maxHeartbeats 400000 in
theorem indexNil (v : Value) (w : World) : Calls Try.prog 41 #[.slice none 0 0, v] w fun e w' => e = .returned (.int .i64 (-1)) ∧ w' = w := by
  go_enter Try.func41, Try.ntmps41
  go_wp2
  refine wp_loop_once ?_
  go_wp2
  go_ret
  exact ⟨rfl, rfl⟩

set_option maxHeartbeats 400000 in
theorem containsNil (v : Value) (w : World) : Calls Try.prog 37 #[.slice none 0 0, v] w fun e w' => e = .returned (.bool false) ∧ w' = w := by
  go_enter Try.func37, Try.ntmps37
  go_wp2_with (go_at_call 41; (with_reducible refine (indexNil _ _).mono ?_); rintro e w' ⟨rfl, rfl⟩)
  go_ret
  exact ⟨rfl, rfl⟩

set_option maxRecDepth 100000 in
set_option maxHeartbeats 1000000 in
theorem right_any (k n : Int) (w : World) (hk : k = 1 ∨ k = 2) (hn0 : 0 ≤ n) (hn1 : n ≤ 1000) :
    Calls Try.prog 32 #[.agg #[.int .i64 k, .int .i64 0, .int .i64 0, .int .i64 0, .int .i64 n, .slice none 0 0]] w fun e w' => e = .returned (.bool true) ∧ Ext w w' := by
  have hmx : max n 0 = n := by omega
  have i0 : ∀ w, (Instr.index 85 (.agg #[.int .i64 0, .int .i64 0, .int .i64 0, .int .i64 n]) (.int .i64 0)).run Try.prog w = .ok (.int .i64 0) w := fun _ => by kernel_rfl
  have i1 : ∀ w, (Instr.index 85 (.agg #[.int .i64 0, .int .i64 0, .int .i64 0, .int .i64 n]) (.int .i64 1)).run Try.prog w = .ok (.int .i64 0) w := fun _ => by kernel_rfl
  have i2 : ∀ w, (Instr.index 85 (.agg #[.int .i64 0, .int .i64 0, .int .i64 0, .int .i64 n]) (.int .i64 2)).run Try.prog w = .ok (.int .i64 0) w := fun _ => by kernel_rfl
  have i3 : ∀ w, (Instr.index 85 (.agg #[.int .i64 0, .int .i64 0, .int .i64 0, .int .i64 n]) (.int .i64 3)).run Try.prog w = .ok (.int .i64 n) w := fun _ => by kernel_rfl
  rcases hk with rfl | rfl
  all_goals
    go_enter Try.func32, Try.ntmps32
    go_wp2
    go_loop [15] (fun i => ∃ k : Int, 0 ≤ k ∧ k ≤ 4 ∧ i = .int .i64 k) (fun i => 4 - (intOf i).toNat)
    case atStart => exact ⟨0, by omega, by omega, rfl⟩
    case round =>
      obtain ⟨k, hk0, hk1, rfl⟩ := hrel
      have : k = 0 ∨ k = 1 ∨ k = 2 ∨ k = 3 ∨ k = 4 := by omega
      rcases this with rfl | rfl | rfl | rfl | rfl
      · go_wp2
        go_round
        case rel => exact ⟨1, by omega, by omega, rfl⟩
        case measure => simp [intOf]
      · go_wp2
        go_round
        case rel => exact ⟨2, by omega, by omega, rfl⟩
        case measure => simp [intOf]
      · go_wp2
        go_round
        case rel => exact ⟨3, by omega, by omega, rfl⟩
        case measure => simp [intOf]
      · go_wp2
        go_round
        case rel => exact ⟨4, by omega, by omega, rfl⟩
        case measure => simp [intOf]
      · go_wp2_with (first | (go_at_call 36; (with_reducible refine (consNil _).mono ?_); rintro e w' ⟨rfl, rfl⟩) | (go_at_call 37; (with_reducible refine (containsNil _ _).mono ?_); rintro e w' ⟨rfl, rfl⟩))
        go_ret
        exact ⟨rfl, (Ext.refl _).alloc _⟩
end Go.Proofs.Ytacklfjpbboijaa
