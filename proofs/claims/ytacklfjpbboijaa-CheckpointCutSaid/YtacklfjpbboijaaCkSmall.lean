/-
  CheckpointCut, walks: New, NewGate, small, take.
-/
import Derived.Test.YtacklfjpbboijaaCkTakeB
namespace Go.Proofs.Ytacklfjpbboijaa
open Go.RowKit Go.Sep Go.Ck

section
variable (X w : World) (F : List Asn)

theorem newGate_ok (n : Nat) (hn : n ≤ 1000) (h : Sat X w F) : Calls Try.prog 18 #[.int .i64 (n : Int)] w fun e w' => ∃ g, e = .returned (.pointer (some ⟨g, 0, none⟩)) ∧ Sat X w' (gateA g ⟨n, [], 0, 0⟩ :: F) := by
  refine (newGate_any n hn w).mono ?_
  rintro e w' ⟨rfl, rfl⟩
  refine ⟨_, rfl, ?_⟩
  have h1 := (h.newTrues).newBlk 74 #[.int .i64 (n : Int), .map (some w.heap.size), .int .i64 0, .int .i64 0]
  rw [World.size_alloc] at h1
  exact Sat.mkEx (A := fun mb => All [blk (w.heap.size + 1) 74 #[.int .i64 (n : Int), .map (some mb), .int .i64 0, .int .i64 0], trues mb []]) w.heap.size (Sat.shut (l := [_, _]) h1)

set_option maxHeartbeats 400000 in
theorem newChan_ok (h : Sat X w F) : Calls Try.prog 22 #[] w fun e w' => ∃ c, e = .returned (.pointer (some ⟨c, 0, none⟩)) ∧ Sat X w' (chanA c [] :: F) := by
  go_enter Try.func22, Try.ntmps22
  go_wp2
  have h1 := h.newBlk 71 (ringA (fun _ => (0, 0)) 0 0 0)
  exact bodyPost_ret (v := .pointer (some ⟨w.heap.size, 0, none⟩)) (by simp [results, Try.results22, go_sem]) rfl ⟨_, rfl, chan_shut (fun _ => (0, 0)) 0 0 (by decide) (by decide) (fun j m hm => by simp at hm) h1⟩

set_option maxHeartbeats 2000000 in
theorem small_ok (h : Sat X w F) : Calls Try.prog 4 #[] w fun e w' => e = .returned (.bool true) ∧ Sat X w' F := by
  have c1 : ∀ g w F', Sat X w (gateA g ⟨2, [], 0, 0⟩ :: F') → Calls Try.prog 19 #[.pointer (some ⟨g, 0, none⟩), .int .i64 0, .agg #[.int .i64 1, .int .i64 0, .int .i64 0, .int .i64 0, .int .i64 1, .slice none 0 0], .int .i64 0] w fun e w' => e = .returned (.int .i64 3) ∧ Sat X w' (gateA g ⟨2, [0], 1, 0⟩ :: F') := fun g w F' hS =>
    arrive_bar_ok g 0 ⟨2, [], 0, 0⟩ X w F' 1 0 (by decide) (by decide) (by decide) (by decide) (by decide) (by decide) hS
  have c2 : ∀ g w F', Sat X w (gateA g ⟨2, [0], 1, 0⟩ :: F') → Calls Try.prog 19 #[.pointer (some ⟨g, 0, none⟩), .int .i64 0, .agg #[.int .i64 2, .int .i64 0, .int .i64 0, .int .i64 0, .int .i64 5, .slice none 0 0], .int .i64 0] w fun e w' => e = .returned (.int .i64 0) ∧ Sat X w' (gateA g ⟨2, [0], 1, 0⟩ :: F') := fun g w F' hS =>
    arrive_mark_ok g 0 ⟨2, [0], 1, 0⟩ X w F' 5 0 (by decide) (by decide) (by decide) (by decide) hS
  have c3 : ∀ g w F', Sat X w (gateA g ⟨2, [0], 1, 0⟩ :: F') → Calls Try.prog 19 #[.pointer (some ⟨g, 0, none⟩), .int .i64 1, .agg #[.int .i64 2, .int .i64 0, .int .i64 0, .int .i64 0, .int .i64 5, .slice none 0 0], .int .i64 0] w fun e w' => e = .returned (.int .i64 1) ∧ Sat X w' (gateA g ⟨2, [0], 1, 0⟩ :: F') := fun g w F' hS =>
    arrive_mark_ok g 1 ⟨2, [0], 1, 0⟩ X w F' 5 0 (by decide) (by decide) (by decide) (by decide) hS
  have c4 : ∀ g w F', Sat X w (gateA g ⟨2, [0], 1, 0⟩ :: F') → Calls Try.prog 19 #[.pointer (some ⟨g, 0, none⟩), .int .i64 1, .agg #[.int .i64 1, .int .i64 0, .int .i64 0, .int .i64 0, .int .i64 1, .slice none 0 0], .int .i64 0] w fun e w' => e = .returned (.int .i64 4) ∧ Sat X w' (gateA g ⟨2, [], 0, 0⟩ :: F') := fun g w F' hS =>
    arrive_bar_ok g 1 ⟨2, [0], 1, 0⟩ X w F' 1 0 (by decide) (by decide) (by decide) (by decide) (by decide) (by decide) hS
  have c5 : ∀ g w F', Sat X w (gateA g ⟨2, [], 0, 0⟩ :: F') → Calls Try.prog 19 #[.pointer (some ⟨g, 0, none⟩), .int .i64 0, .agg #[.int .i64 1, .int .i64 0, .int .i64 0, .int .i64 0, .int .i64 1, .slice none 0 0], .int .i64 1] w fun e w' => e = .returned (.int .i64 4) ∧ Sat X w' (gateA g ⟨2, [0], 1, 1⟩ :: F') := fun g w F' hS =>
    arrive_bar_ok g 0 ⟨2, [], 0, 0⟩ X w F' 1 1 (by decide) (by decide) (by decide) (by decide) (by decide) (by decide) hS
  have c6 : ∀ g w F', Sat X w (gateA g ⟨2, [0], 1, 1⟩ :: F') → Calls Try.prog 19 #[.pointer (some ⟨g, 0, none⟩), .int .i64 0, .agg #[.int .i64 2, .int .i64 0, .int .i64 0, .int .i64 0, .int .i64 5, .slice none 0 0], .int .i64 1] w fun e w' => e = .returned (.int .i64 1) ∧ Sat X w' (gateA g ⟨2, [0], 1, 1⟩ :: F') := fun g w F' hS =>
    arrive_mark_ok g 0 ⟨2, [0], 1, 1⟩ X w F' 5 1 (by decide) (by decide) (by decide) (by decide) hS
  have c7 : ∀ g w F', Sat X w (gateA g ⟨2, [0], 1, 1⟩ :: F') → Calls Try.prog 19 #[.pointer (some ⟨g, 0, none⟩), .int .i64 1, .agg #[.int .i64 2, .int .i64 0, .int .i64 0, .int .i64 0, .int .i64 5, .slice none 0 0], .int .i64 1] w fun e w' => e = .returned (.int .i64 2) ∧ Sat X w' (gateA g ⟨2, [0], 1, 1⟩ :: F') := fun g w F' hS =>
    arrive_mark_ok g 1 ⟨2, [0], 1, 1⟩ X w F' 5 1 (by decide) (by decide) (by decide) (by decide) hS
  have c8 : ∀ g w F', Sat X w (gateA g ⟨2, [0], 1, 1⟩ :: F') → Calls Try.prog 19 #[.pointer (some ⟨g, 0, none⟩), .int .i64 1, .agg #[.int .i64 1, .int .i64 0, .int .i64 0, .int .i64 0, .int .i64 1, .slice none 0 0], .int .i64 1] w fun e w' => e = .returned (.int .i64 3) ∧ Sat X w' (gateA g ⟨2, [], 0, 1⟩ :: F') := fun g w F' hS =>
    arrive_bar_ok g 1 ⟨2, [0], 1, 1⟩ X w F' 1 1 (by decide) (by decide) (by decide) (by decide) (by decide) (by decide) hS
  have b0 : ∀ g k w F', Sat X w (gateA g ⟨2, [], 0, k⟩ :: F') → Calls Try.prog 21 #[.pointer (some ⟨g, 0, none⟩)] w fun e w' => e = .returned (.bool false) ∧ w' = w := fun g k w F' hS => busy_any g 0 w (gateCell hS)
  have n2 : ∀ w F', Sat X w F' → Calls Try.prog 18 #[.int .i64 2] w fun e w' => ∃ g, e = .returned (.pointer (some ⟨g, 0, none⟩)) ∧ Sat X w' (gateA g ⟨2, [], 0, 0⟩ :: F') := fun w F' hS => newGate_ok X w F' 2 (by decide) hS
  have C1 := Lib.hid c1; have C2 := Lib.hid c2; have C3 := Lib.hid c3; have C4 := Lib.hid c4; have C5 := Lib.hid c5; have C6 := Lib.hid c6; have C7 := Lib.hid c7; have C8 := Lib.hid c8; have B0 := Lib.hid b0; have N2 := Lib.hid n2
  clear c1 c2 c3 c4 c5 c6 c7 c8 b0 n2
  go_enter Try.func4, Try.ntmps4
  go_upto_region 3 with (first | ((go_at_call 18; (with_reducible refine (N2.out _ _ s).mono ?_); rintro e w2 ⟨g2, rfl, t⟩)) | ((go_at_call 18; (with_reducible refine (N2.out _ _ h).mono ?_); rintro e w1 ⟨g1, rfl, s⟩)))
  replace s := t.swap
  clear t
  go_wp2_with (first | ((go_at_call 20; (with_reducible refine (barrier_any _ _).mono ?_); rintro e w1 ⟨rfl, hx⟩; have s := s.ext hx)) | ((go_at_call 9; (with_reducible refine (mark_any _ _).mono ?_); rintro e w1 ⟨rfl, hx⟩; have s := s.ext hx)) | ((go_at_call 19; (with_reducible refine (C1.out _ _ _ s).mono ?_); rintro e w1 ⟨rfl, s⟩)) | ((go_at_call 19; (with_reducible refine (C2.out _ _ _ s).mono ?_); rintro e w1 ⟨rfl, s⟩)) | ((go_at_call 19; (with_reducible refine (C3.out _ _ _ s).mono ?_); rintro e w1 ⟨rfl, s⟩)) | ((go_at_call 19; (with_reducible refine (C4.out _ _ _ s).mono ?_); rintro e w1 ⟨rfl, s⟩)) | ((go_at_call 19; (with_reducible refine (C5.out _ _ _ s.swap).mono ?_); rintro e w1 ⟨rfl, t⟩; have s := t.swap)) | ((go_at_call 19; (with_reducible refine (C6.out _ _ _ s.swap).mono ?_); rintro e w1 ⟨rfl, t⟩; have s := t.swap)) | ((go_at_call 19; (with_reducible refine (C7.out _ _ _ s.swap).mono ?_); rintro e w1 ⟨rfl, t⟩; have s := t.swap)) | ((go_at_call 19; (with_reducible refine (C8.out _ _ _ s.swap).mono ?_); rintro e w1 ⟨rfl, t⟩; have s := t.swap)) | ((go_at_call 21; (with_reducible refine (B0.out _ _ _ _ s).mono ?_); rintro e w1 ⟨rfl, rfl⟩)) | ((go_at_call 21; (with_reducible refine (B0.out _ _ _ _ s.swap).mono ?_); rintro e w1 ⟨rfl, rfl⟩)))
  exact bodyPost_ret (v := .bool true) (by simp [results, Try.results4, go_sem]) rfl ⟨rfl, s.drop.drop⟩
end
end Go.Proofs.Ytacklfjpbboijaa
