/-
  CheckpointCut, walks: the small functions of gates and channels.
-/
import Derived.Test.YtacklfjpbboijaaRows
import Derived.Test.YtacklfjpbboijaaCkMap
import Derived.Test.YtacklfjpbboijaaCkDef
import Derived.WalkSpells
import Derived.WalkLawsBesides
import Derived.Deep.QuietTactic
import Derived.BigQuiet
import Derived.Lib.Hide
namespace Go.Proofs.Ytacklfjpbboijaa
open Go.RowKit Go.Sep Go.Ck

/-- A message as a value. -/
def msgv (m : Msg) : Value := .agg #[.int .i64 (if m.bar then 1 else 2), .int .i64 0, .int .i64 0, .int .i64 0, .int .i64 (m.n : Int), .slice none 0 0]

theorem ret_of {v u : Value} {w : World} {R : Ending → World → Prop} (h : v = u) (hR : R (.returned u) w) : R (.returned v) w := h ▸ hR

set_option maxHeartbeats 400000 in
theorem barrier_any (n : Int) (w : World) :
    Calls Try.prog 20 #[.int .i64 n] w fun e w' => e = .returned (.agg #[.int .i64 1, .int .i64 0, .int .i64 0, .int .i64 0, .int .i64 n, .slice none 0 0]) ∧ Ext w w' := by
  go_enter Try.func20, Try.ntmps20
  go_wp2
  exact bodyPost_ret (v := .agg #[.int .i64 1, .int .i64 0, .int .i64 0, .int .i64 0, .int .i64 n, .slice none 0 0]) (by simp [results, Try.results20, go_sem]) rfl ⟨rfl, (Ext.refl _).alloc _⟩

set_option maxHeartbeats 400000 in
theorem mark_any (n : Int) (w : World) :
    Calls Try.prog 9 #[.int .i64 n] w fun e w' => e = .returned (.agg #[.int .i64 2, .int .i64 0, .int .i64 0, .int .i64 0, .int .i64 n, .slice none 0 0]) ∧ Ext w w' := by
  go_enter Try.func9, Try.ntmps9
  go_wp2
  exact bodyPost_ret (v := .agg #[.int .i64 2, .int .i64 0, .int .i64 0, .int .i64 0, .int .i64 n, .slice none 0 0]) (by simp [results, Try.results9, go_sem]) rfl ⟨rfl, (Ext.refl _).alloc _⟩

set_option maxHeartbeats 400000 in
theorem newGate_any (n : Nat) (hn : n ≤ 1000) (w : World) :
    Calls Try.prog 18 #[.int .i64 (n : Int)] w fun e w' => e = .returned (.pointer (some ⟨w.heap.size + 1, 0, none⟩)) ∧
      w' = (w.alloc (.map #[] 0)).alloc (.cells #[.int .i64 (n : Int), .map (some w.heap.size), .int .i64 0, .int .i64 0] 74) := by
  have hmm := @run_makeMap Try.prog
  go_enter Try.func18, Try.ntmps18
  go_wp2
  go_ret
  exact ⟨rfl, rfl⟩

theorem tmod_mod (n m : Int) (hm : 1 ≤ m) : (n.tmod m < 0 → n.tmod m + m = n % m) ∧ (0 ≤ n.tmod m → n.tmod m = n % m) := by
  have h := Int.tmod_add_mul_tdiv n m
  have h2 := Int.emod_add_mul_ediv n m
  have h3 := Int.emod_nonneg n (show m ≠ 0 by omega)
  have h4 := Int.emod_lt_of_pos n (show 0 < m by omega)
  have h5 := Int.tmod_lt_of_pos n (show 0 < m by omega)
  have h6 : -m < n.tmod m := by
    have := Int.lt_tmod_of_pos n (show 0 < m by omega)
    omega
  have hd : ∀ k : Int, m * k < m → -m < m * k → k = 0 := fun k a b => by
    rcases Int.lt_trichotomy k 0 with hk | hk | hk
    · have : m * k ≤ m * (-1) := Int.mul_le_mul_of_nonneg_left (by omega) (by omega)
      omega
    · exact hk
    · have : m * 1 ≤ m * k := Int.mul_le_mul_of_nonneg_left (by omega) (by omega)
      omega
  constructor
  · intro hn
    have e := hd (n / m - n.tdiv m + 1) (by rw [Int.mul_add, Int.mul_sub]; omega) (by rw [Int.mul_add, Int.mul_sub]; omega)
    have e2 : m * (n / m - n.tdiv m + 1) = 0 := by rw [e]; simp
    rw [Int.mul_add, Int.mul_sub] at e2
    omega
  · intro hn
    have e := hd (n / m - n.tdiv m) (by rw [Int.mul_sub]; omega) (by rw [Int.mul_sub]; omega)
    have e2 : m * (n / m - n.tdiv m) = 0 := by rw [e]; simp
    rw [Int.mul_sub] at e2
    omega

set_option maxHeartbeats 400000 in
theorem mod_any (n m : Int) (w : World) (hm : 1 ≤ m) (hm' : m ≤ 1000) :
    Calls Try.prog 7 #[.int .i64 n, .int .i64 m] w fun e w' => e = .returned (.int .i64 (n % m)) ∧ w = w' := by
  have hb1 : -m < n.tmod m := by
    have := Int.lt_tmod_of_pos n (show 0 < m by omega)
    omega
  have hb2 := Int.tmod_lt_of_pos n (show 0 < m by omega)
  have HT := Lib.hid (tmod_mod n m hm)
  go_enter Try.func7, Try.ntmps7
  go_wp2
  all_goals go_ret
  · exact ⟨congrArg (fun x => Ending.returned (.int .i64 x)) (HT.out.1 (by assumption)), rfl⟩
  · exact ⟨congrArg (fun x => Ending.returned (.int .i64 x)) (HT.out.2 (by assumption)), rfl⟩
end Go.Proofs.Ytacklfjpbboijaa
