/-
  CheckpointCut, walks: a gate.
-/
import Derived.Test.YtacklfjpbboijaaCkLeaf
namespace Go.Proofs.Ytacklfjpbboijaa
open Go.RowKit Go.Sep Go.Ck

/-- Block g is the gate G. -/
def gateA (g : Nat) (G : Gate) : Asn := Ex fun mb => All [blk g 74 #[.int .i64 (G.chs : Int), .map (some mb), .int .i64 (G.num : Int), .int .i64 (G.kind : Int)], trues mb G.came]

theorem zeroBool (w : World) : (zeroValue 4).run Try.prog w = .ok (.bool false) w := by kernel_rfl

set_option maxHeartbeats 400000 in
theorem busy_yes (g : Nat) (n : Nat) (w : World) (hn : 0 < n) (h : w.cell? ⟨g, 2, none⟩ = some (.int .i64 (n : Int))) :
    Calls Try.prog 21 #[.pointer (some ⟨g, 0, none⟩)] w fun e w' => e = .returned (.bool true) ∧ w' = w := by
  have hd : decide ((0 : Int) < (n : Int)) = true := by simp; omega
  go_enter Try.func21, Try.ntmps21
  go_wp2
  go_ret
  exact ⟨rfl, rfl⟩

set_option maxHeartbeats 400000 in
theorem busy_no (g : Nat) (w : World) (h : w.cell? ⟨g, 2, none⟩ = some (.int .i64 0)) :
    Calls Try.prog 21 #[.pointer (some ⟨g, 0, none⟩)] w fun e w' => e = .returned (.bool false) ∧ w' = w := by
  go_enter Try.func21, Try.ntmps21
  go_wp2
  go_ret
  exact ⟨rfl, rfl⟩

set_option maxHeartbeats 400000 in
theorem cancel_any (g mb : Nat) (c0 c2 c3 : Value) (X w : World) (F : List Asn) (h : Sat X w (blk g 74 #[c0, .map (some mb), c2, c3] :: F)) :
    Calls Try.prog 33 #[.pointer (some ⟨g, 0, none⟩)] w fun e w' => e = .returned (.tuple #[]) ∧
      ∃ mb', Sat X w' (blk g 74 #[c0, .map (some mb'), .int .i64 0, c3] :: trues mb' [] :: F) := by
  have hmm := @run_makeMap Try.prog
  have k1 := h.cell 1
  have k2 := h.cell 2
  have f1 := h.frozen 1
  have f2 := h.frozen 2
  have hlt := Sat.lt h
  go_enter Try.func33, Try.ntmps33
  go_wp2
  go_end0
  have h1 := (((h.set 2 (.int .i64 0)).set 1 (.map (some w.heap.size))).new (.map #[] 0)).swap
  rw [show ((w.setCell ⟨g, 2, none⟩ (.int .i64 0)).setCell ⟨g, 1, none⟩ (.map (some w.heap.size))).heap.size = w.heap.size by simp [World.setCell]] at h1
  exact ⟨rfl, w.heap.size, (h1.swap.mkTrues (ks := []) rfl (Go.MapKept.stamped_empty 0)).swap⟩

section
variable (g mb i chs num kind : Nat) (κ : Int) (came : List Nat) (X w : World) (F : List Asn)

set_option maxRecDepth 100000 in
set_option maxHeartbeats 1000000 in
theorem arrive_idle_mark (n : Int) (hi : i < chs) (hκ : κ = 0 ∨ κ = 1) 
    (h : Sat X w (blk g 74 #[.int .i64 (chs : Int), .map (some mb), .int .i64 0, .int .i64 (kind : Int)] :: trues mb came :: F)) :
    Calls Try.prog 19 #[.pointer (some ⟨g, 0, none⟩), .int .i64 (i : Int), .agg #[.int .i64 2, .int .i64 0, .int .i64 0, .int .i64 0, .int .i64 n, .slice none 0 0], .int .i64 κ] w fun e w' => e = .returned (.int .i64 1) ∧ Ext w w' := by
  have k0 : w.cell? ⟨g, 0, none⟩ = some (.int .i64 (chs : Int)) := h.cell 0
  have k1 : w.cell? ⟨g, 1, none⟩ = some (.map (some mb)) := h.cell 1
  have k2 : w.cell? ⟨g, 2, none⟩ = some (.int .i64 0) := h.cell 2
  have k3 : w.cell? ⟨g, 3, none⟩ = some (.int .i64 (kind : Int)) := h.cell 3
  have hlt := Sat.lt h
  have hi0 : (0 : Int) ≤ (i : Int) := by omega
  have hi1 : (i : Int) < (chs : Int) := by omega
  rcases hκ with rfl | rfl
  all_goals
    go_enter Try.func19, Try.ntmps19
    go_wp2_with (go_at_call 21; (with_reducible refine (busy_no _ _ (by go_simp)).mono ?_); rintro e w' ⟨rfl, rfl⟩)
    go_ret
    exact ⟨rfl, (Ext.refl _).alloc _⟩

set_option maxRecDepth 100000 in
set_option maxHeartbeats 1000000 in
theorem arrive_idle_bar (n : Nat) (r : Int) (hn : 1 ≤ n) (hn9 : n ≤ 1000) (hi : i < chs) (hκ : κ = 0 ∨ κ = 1) 
    (h : Sat X w (blk g 74 #[.int .i64 (chs : Int), .map (some mb), .int .i64 0, .int .i64 (kind : Int)] :: trues mb came :: F))
    (Q : World → Prop) (hbar : ∀ w1, Ext w w1 → Calls Try.prog 30 #[.pointer (some ⟨g, 0, none⟩), .int .i64 (i : Int), .int .i64 (n : Int), .int .i64 κ] w1 fun e w2 => e = .returned (.int .i64 r) ∧ Q w2) :
    Calls Try.prog 19 #[.pointer (some ⟨g, 0, none⟩), .int .i64 (i : Int), .agg #[.int .i64 1, .int .i64 0, .int .i64 0, .int .i64 0, .int .i64 (n : Int), .slice none 0 0], .int .i64 κ] w fun e w' => e = .returned (.int .i64 r) ∧ Q w' := by
  have k0 : w.cell? ⟨g, 0, none⟩ = some (.int .i64 (chs : Int)) := h.cell 0
  have k1 : w.cell? ⟨g, 1, none⟩ = some (.map (some mb)) := h.cell 1
  have k2 : w.cell? ⟨g, 2, none⟩ = some (.int .i64 0) := h.cell 2
  have k3 : w.cell? ⟨g, 3, none⟩ = some (.int .i64 (kind : Int)) := h.cell 3
  have hlt := Sat.lt h
  have hi0 : (0 : Int) ≤ (i : Int) := by omega
  have hi1 : (i : Int) < (chs : Int) := by omega
  have hn1 : (1 : Int) ≤ (n : Int) := by omega
  have hd1 : decide ((n : Int) < 1) = false := by simp; omega
  have HB := Lib.hid hbar
  clear hbar
  rcases hκ with rfl | rfl
  all_goals
    go_enter Try.func19, Try.ntmps19
    go_wp2_with (go_at_call 21; (with_reducible refine (busy_no _ _ (by go_simp)).mono ?_); rintro e w' ⟨rfl, rfl⟩)
    go_quiet ((go_at_call 21; exact Calls.quiet_of_same (busy_no _ _ (by go_simp))))
    go_wp2_with (go_at_call 30; (with_reducible refine (HB.out _ ?_).mono ?_))
    · exact ((Ext.refl _).alloc _).drewN _
    · rintro e w2 ⟨rfl, hq⟩
      go_wp2
      go_ret
      exact ⟨rfl, hq⟩

set_option maxRecDepth 100000 in
set_option maxHeartbeats 1000000 in
theorem arrive_b1 (n : Int) (hb : 1 ≤ num) (hb9 : num ≤ 1000) (hi : i < chs) (hm : i ∈ came) 
    (h : Sat X w (blk g 74 #[.int .i64 (chs : Int), .map (some mb), .int .i64 (num : Int), .int .i64 0] :: trues mb came :: F)) :
    Calls Try.prog 19 #[.pointer (some ⟨g, 0, none⟩), .int .i64 (i : Int), .agg #[.int .i64 2, .int .i64 0, .int .i64 0, .int .i64 0, .int .i64 n, .slice none 0 0], .int .i64 0] w fun e w' => e = .returned (.int .i64 0) ∧ Ext w w' := by
  have k0 : w.cell? ⟨g, 0, none⟩ = some (.int .i64 (chs : Int)) := h.cell 0
  have k1 : w.cell? ⟨g, 1, none⟩ = some (.map (some mb)) := h.cell 1
  have k2 : w.cell? ⟨g, 2, none⟩ = some (.int .i64 (num : Int)) := h.cell 2
  have k3 : w.cell? ⟨g, 3, none⟩ = some (.int .i64 0) := h.cell 3
  have hlt := Sat.lt h
  have hi0 : (0 : Int) ≤ (i : Int) := by omega
  have hi1 : (i : Int) < (chs : Int) := by omega
  have hl : ∀ nq, (Instr.lookup 72 (.map (some mb)) (.int .i64 (i : Int)) false).run Try.prog ((w.alloc (.cells #[.int .i64 2, .int .i64 0, .int .i64 0, .int .i64 0, .int .i64 n, .slice none 0 0] 44)).drewN nq) = .ok (.bool true) ((w.alloc (.cells #[.int .i64 2, .int .i64 0, .int .i64 0, .int .i64 0, .int .i64 n, .slice none 0 0] 44)).drewN nq) := fun nq => by
    have := run_lookup_trues (P := Try.prog) (((h.alloc (.cells #[.int .i64 2, .int .i64 0, .int .i64 0, .int .i64 0, .int .i64 n, .slice none 0 0] 44)).drewN nq).swap) Try.underlying72 Try.underlying3 (zeroBool _) i
    simpa [hm] using this
  have hl0 := hl 0
  rw [World.drewN_zero] at hl0
  go_enter Try.func19, Try.ntmps19
  go_wp2_with (go_at_call 21; (with_reducible refine (busy_yes _ num _ (by omega) (by go_simp)).mono ?_); rintro e w' ⟨rfl, rfl⟩)
  go_ret
  exact ⟨rfl, (Ext.refl _).alloc _⟩

set_option maxRecDepth 100000 in
set_option maxHeartbeats 1000000 in
theorem arrive_b2 (n : Int) (hb : 1 ≤ num) (hb9 : num ≤ 1000) (hi : i < chs) (hm : i ∉ came) 
    (h : Sat X w (blk g 74 #[.int .i64 (chs : Int), .map (some mb), .int .i64 (num : Int), .int .i64 0] :: trues mb came :: F)) :
    Calls Try.prog 19 #[.pointer (some ⟨g, 0, none⟩), .int .i64 (i : Int), .agg #[.int .i64 2, .int .i64 0, .int .i64 0, .int .i64 0, .int .i64 n, .slice none 0 0], .int .i64 0] w fun e w' => e = .returned (.int .i64 1) ∧ Ext w w' := by
  have k0 : w.cell? ⟨g, 0, none⟩ = some (.int .i64 (chs : Int)) := h.cell 0
  have k1 : w.cell? ⟨g, 1, none⟩ = some (.map (some mb)) := h.cell 1
  have k2 : w.cell? ⟨g, 2, none⟩ = some (.int .i64 (num : Int)) := h.cell 2
  have k3 : w.cell? ⟨g, 3, none⟩ = some (.int .i64 0) := h.cell 3
  have hlt := Sat.lt h
  have hi0 : (0 : Int) ≤ (i : Int) := by omega
  have hi1 : (i : Int) < (chs : Int) := by omega
  have hl : ∀ nq, (Instr.lookup 72 (.map (some mb)) (.int .i64 (i : Int)) false).run Try.prog ((w.alloc (.cells #[.int .i64 2, .int .i64 0, .int .i64 0, .int .i64 0, .int .i64 n, .slice none 0 0] 44)).drewN nq) = .ok (.bool false) ((w.alloc (.cells #[.int .i64 2, .int .i64 0, .int .i64 0, .int .i64 0, .int .i64 n, .slice none 0 0] 44)).drewN nq) := fun nq => by
    have := run_lookup_trues (P := Try.prog) (((h.alloc (.cells #[.int .i64 2, .int .i64 0, .int .i64 0, .int .i64 0, .int .i64 n, .slice none 0 0] 44)).drewN nq).swap) Try.underlying72 Try.underlying3 (zeroBool _) i
    simpa [hm] using this
  have hl0 := hl 0
  rw [World.drewN_zero] at hl0
  go_enter Try.func19, Try.ntmps19
  go_wp2_with (go_at_call 21; (with_reducible refine (busy_yes _ num _ (by omega) (by go_simp)).mono ?_); rintro e w' ⟨rfl, rfl⟩)
  go_ret
  exact ⟨rfl, (Ext.refl _).alloc _⟩

set_option maxRecDepth 100000 in
set_option maxHeartbeats 1000000 in
theorem arrive_b3 (r : Int) (hb : 1 ≤ num) (hb9 : num ≤ 1000) (hi : i < chs) (hm : i ∉ came) 
    (h : Sat X w (blk g 74 #[.int .i64 (chs : Int), .map (some mb), .int .i64 (num : Int), .int .i64 0] :: trues mb came :: F))
    (Q : World → Prop) (hbar : ∀ w1, Ext w w1 → Calls Try.prog 30 #[.pointer (some ⟨g, 0, none⟩), .int .i64 (i : Int), .int .i64 (num : Int), .int .i64 0] w1 fun e w2 => e = .returned (.int .i64 r) ∧ Q w2) :
    Calls Try.prog 19 #[.pointer (some ⟨g, 0, none⟩), .int .i64 (i : Int), .agg #[.int .i64 1, .int .i64 0, .int .i64 0, .int .i64 0, .int .i64 (num : Int), .slice none 0 0], .int .i64 0] w fun e w' => e = .returned (.int .i64 r) ∧ Q w' := by
  have k0 : w.cell? ⟨g, 0, none⟩ = some (.int .i64 (chs : Int)) := h.cell 0
  have k1 : w.cell? ⟨g, 1, none⟩ = some (.map (some mb)) := h.cell 1
  have k2 : w.cell? ⟨g, 2, none⟩ = some (.int .i64 (num : Int)) := h.cell 2
  have k3 : w.cell? ⟨g, 3, none⟩ = some (.int .i64 0) := h.cell 3
  have hlt := Sat.lt h
  have hi0 : (0 : Int) ≤ (i : Int) := by omega
  have hi1 : (i : Int) < (chs : Int) := by omega
  have hn1 : (1 : Int) ≤ (num : Int) := by omega
  have hd1 : decide ((num : Int) < 1) = false := by simp; omega
  have HB := Lib.hid hbar
  clear hbar
  have hl : ∀ nq, (Instr.lookup 72 (.map (some mb)) (.int .i64 (i : Int)) false).run Try.prog ((w.alloc (.cells #[.int .i64 1, .int .i64 0, .int .i64 0, .int .i64 0, .int .i64 (num : Int), .slice none 0 0] 44)).drewN nq) = .ok (.bool false) ((w.alloc (.cells #[.int .i64 1, .int .i64 0, .int .i64 0, .int .i64 0, .int .i64 (num : Int), .slice none 0 0] 44)).drewN nq) := fun nq => by
    have := run_lookup_trues (P := Try.prog) (((h.alloc (.cells #[.int .i64 1, .int .i64 0, .int .i64 0, .int .i64 0, .int .i64 (num : Int), .slice none 0 0] 44)).drewN nq).swap) Try.underlying72 Try.underlying3 (zeroBool _) i
    simpa [hm] using this
  have hl0 := hl 0
  rw [World.drewN_zero] at hl0
  go_enter Try.func19, Try.ntmps19
  go_wp2_with (go_at_call 21; (with_reducible refine (busy_yes _ num _ (by omega) (by go_simp)).mono ?_); rintro e w' ⟨rfl, rfl⟩)
  go_quiet ((go_at_call 21; exact Calls.quiet_of_same (busy_yes _ num _ (by omega) (by go_simp))))
  go_wp2_with (go_at_call 30; (with_reducible refine (HB.out _ ?_).mono ?_))
  · exact ((Ext.refl _).alloc _).drewN _
  · rintro e w2 ⟨rfl, hq⟩
    go_wp2
    go_ret
    exact ⟨rfl, hq⟩

set_option maxRecDepth 100000 in
set_option maxHeartbeats 1000000 in
theorem arrive_c1 (n : Int) (hb : 1 ≤ num) (hb9 : num ≤ 1000) (hi : i < chs) (hm : i ∉ came) 
    (h : Sat X w (blk g 74 #[.int .i64 (chs : Int), .map (some mb), .int .i64 (num : Int), .int .i64 1] :: trues mb came :: F)) :
    Calls Try.prog 19 #[.pointer (some ⟨g, 0, none⟩), .int .i64 (i : Int), .agg #[.int .i64 2, .int .i64 0, .int .i64 0, .int .i64 0, .int .i64 n, .slice none 0 0], .int .i64 1] w fun e w' => e = .returned (.int .i64 2) ∧ Ext w w' := by
  have k0 : w.cell? ⟨g, 0, none⟩ = some (.int .i64 (chs : Int)) := h.cell 0
  have k1 : w.cell? ⟨g, 1, none⟩ = some (.map (some mb)) := h.cell 1
  have k2 : w.cell? ⟨g, 2, none⟩ = some (.int .i64 (num : Int)) := h.cell 2
  have k3 : w.cell? ⟨g, 3, none⟩ = some (.int .i64 1) := h.cell 3
  have hlt := Sat.lt h
  have hi0 : (0 : Int) ≤ (i : Int) := by omega
  have hi1 : (i : Int) < (chs : Int) := by omega
  have hl : ∀ nq, (Instr.lookup 72 (.map (some mb)) (.int .i64 (i : Int)) false).run Try.prog ((w.alloc (.cells #[.int .i64 2, .int .i64 0, .int .i64 0, .int .i64 0, .int .i64 n, .slice none 0 0] 44)).drewN nq) = .ok (.bool false) ((w.alloc (.cells #[.int .i64 2, .int .i64 0, .int .i64 0, .int .i64 0, .int .i64 n, .slice none 0 0] 44)).drewN nq) := fun nq => by
    have := run_lookup_trues (P := Try.prog) (((h.alloc (.cells #[.int .i64 2, .int .i64 0, .int .i64 0, .int .i64 0, .int .i64 n, .slice none 0 0] 44)).drewN nq).swap) Try.underlying72 Try.underlying3 (zeroBool _) i
    simpa [hm] using this
  have hl0 := hl 0
  rw [World.drewN_zero] at hl0
  go_enter Try.func19, Try.ntmps19
  go_wp2_with (go_at_call 21; (with_reducible refine (busy_yes _ num _ (by omega) (by go_simp)).mono ?_); rintro e w' ⟨rfl, rfl⟩)
  go_ret
  exact ⟨rfl, (Ext.refl _).alloc _⟩

set_option maxRecDepth 100000 in
set_option maxHeartbeats 1000000 in
theorem arrive_c2 (n : Int) (hb : 1 ≤ num) (hb9 : num ≤ 1000) (hi : i < chs) (hm : i ∈ came) 
    (h : Sat X w (blk g 74 #[.int .i64 (chs : Int), .map (some mb), .int .i64 (num : Int), .int .i64 1] :: trues mb came :: F)) :
    Calls Try.prog 19 #[.pointer (some ⟨g, 0, none⟩), .int .i64 (i : Int), .agg #[.int .i64 2, .int .i64 0, .int .i64 0, .int .i64 0, .int .i64 n, .slice none 0 0], .int .i64 1] w fun e w' => e = .returned (.int .i64 1) ∧ Ext w w' := by
  have k0 : w.cell? ⟨g, 0, none⟩ = some (.int .i64 (chs : Int)) := h.cell 0
  have k1 : w.cell? ⟨g, 1, none⟩ = some (.map (some mb)) := h.cell 1
  have k2 : w.cell? ⟨g, 2, none⟩ = some (.int .i64 (num : Int)) := h.cell 2
  have k3 : w.cell? ⟨g, 3, none⟩ = some (.int .i64 1) := h.cell 3
  have hlt := Sat.lt h
  have hi0 : (0 : Int) ≤ (i : Int) := by omega
  have hi1 : (i : Int) < (chs : Int) := by omega
  have hl : ∀ nq, (Instr.lookup 72 (.map (some mb)) (.int .i64 (i : Int)) false).run Try.prog ((w.alloc (.cells #[.int .i64 2, .int .i64 0, .int .i64 0, .int .i64 0, .int .i64 n, .slice none 0 0] 44)).drewN nq) = .ok (.bool true) ((w.alloc (.cells #[.int .i64 2, .int .i64 0, .int .i64 0, .int .i64 0, .int .i64 n, .slice none 0 0] 44)).drewN nq) := fun nq => by
    have := run_lookup_trues (P := Try.prog) (((h.alloc (.cells #[.int .i64 2, .int .i64 0, .int .i64 0, .int .i64 0, .int .i64 n, .slice none 0 0] 44)).drewN nq).swap) Try.underlying72 Try.underlying3 (zeroBool _) i
    simpa [hm] using this
  have hl0 := hl 0
  rw [World.drewN_zero] at hl0
  go_enter Try.func19, Try.ntmps19
  go_wp2_with (go_at_call 21; (with_reducible refine (busy_yes _ num _ (by omega) (by go_simp)).mono ?_); rintro e w' ⟨rfl, rfl⟩)
  go_ret
  exact ⟨rfl, (Ext.refl _).alloc _⟩

set_option maxRecDepth 100000 in
set_option maxHeartbeats 1000000 in
theorem arrive_c3 (r : Int) (hb : 1 ≤ num) (hb9 : num ≤ 1000) (hi : i < chs) (hm : i ∉ came) 
    (h : Sat X w (blk g 74 #[.int .i64 (chs : Int), .map (some mb), .int .i64 (num : Int), .int .i64 1] :: trues mb came :: F))
    (Q : World → Prop) (hbar : ∀ w1, Ext w w1 → Calls Try.prog 30 #[.pointer (some ⟨g, 0, none⟩), .int .i64 (i : Int), .int .i64 (num : Int), .int .i64 1] w1 fun e w2 => e = .returned (.int .i64 r) ∧ Q w2) :
    Calls Try.prog 19 #[.pointer (some ⟨g, 0, none⟩), .int .i64 (i : Int), .agg #[.int .i64 1, .int .i64 0, .int .i64 0, .int .i64 0, .int .i64 (num : Int), .slice none 0 0], .int .i64 1] w fun e w' => e = .returned (.int .i64 r) ∧ Q w' := by
  have k0 : w.cell? ⟨g, 0, none⟩ = some (.int .i64 (chs : Int)) := h.cell 0
  have k1 : w.cell? ⟨g, 1, none⟩ = some (.map (some mb)) := h.cell 1
  have k2 : w.cell? ⟨g, 2, none⟩ = some (.int .i64 (num : Int)) := h.cell 2
  have k3 : w.cell? ⟨g, 3, none⟩ = some (.int .i64 1) := h.cell 3
  have hlt := Sat.lt h
  have hi0 : (0 : Int) ≤ (i : Int) := by omega
  have hi1 : (i : Int) < (chs : Int) := by omega
  have hn1 : (1 : Int) ≤ (num : Int) := by omega
  have hd1 : decide ((num : Int) < 1) = false := by simp; omega
  have HB := Lib.hid hbar
  clear hbar
  have hl : ∀ nq, (Instr.lookup 72 (.map (some mb)) (.int .i64 (i : Int)) false).run Try.prog ((w.alloc (.cells #[.int .i64 1, .int .i64 0, .int .i64 0, .int .i64 0, .int .i64 (num : Int), .slice none 0 0] 44)).drewN nq) = .ok (.bool false) ((w.alloc (.cells #[.int .i64 1, .int .i64 0, .int .i64 0, .int .i64 0, .int .i64 (num : Int), .slice none 0 0] 44)).drewN nq) := fun nq => by
    have := run_lookup_trues (P := Try.prog) (((h.alloc (.cells #[.int .i64 1, .int .i64 0, .int .i64 0, .int .i64 0, .int .i64 (num : Int), .slice none 0 0] 44)).drewN nq).swap) Try.underlying72 Try.underlying3 (zeroBool _) i
    simpa [hm] using this
  have hl0 := hl 0
  rw [World.drewN_zero] at hl0
  go_enter Try.func19, Try.ntmps19
  go_wp2_with (go_at_call 21; (with_reducible refine (busy_yes _ num _ (by omega) (by go_simp)).mono ?_); rintro e w' ⟨rfl, rfl⟩)
  go_quiet ((go_at_call 21; exact Calls.quiet_of_same (busy_yes _ num _ (by omega) (by go_simp))))
  go_wp2_with (go_at_call 30; (with_reducible refine (HB.out _ ?_).mono ?_))
  · exact ((Ext.refl _).alloc _).drewN _
  · rintro e w2 ⟨rfl, hq⟩
    go_wp2
    go_ret
    exact ⟨rfl, hq⟩

end
end Go.Proofs.Ytacklfjpbboijaa
