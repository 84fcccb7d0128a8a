/-
  CheckpointCut, walks: the law's function.
-/
import Derived.Test.YtacklfjpbboijaaCkStart
import Derived.Test.YtacklfjpbboijaaCkBegin
import Derived.Deep.CutRange
import Derived.Deep.CutBlock
import Derived.Deep.RegionHeld3
import Derived.Laws.BitsLemmas
namespace Go.Proofs.Ytacklfjpbboijaa
open Go.RowKit Go.Sep Go.Ck

/-- The channels and the operations as they came in. -/
def Edges0 (W : World) (vE : Value) (m : Nat) (f t : Nat → Int) : Prop := ∃ A c, vE = .slice A m c ∧ m ≤ c ∧ c ≤ maxLen ∧ ∀ k, k < m → ∃ b off, A = some ⟨b, off, none⟩ ∧ b < W.heap.size ∧ W.cell? ⟨b, off + k * 2, none⟩ = some (.int .i64 (f k)) ∧ W.cell? ⟨b, off + k * 2 + 1, none⟩ = some (.int .i64 (t k))
def Ops0 (W : World) (vO : Value) (m : Nat) (d i q : Nat → Int) : Prop := ∃ A c, vO = .slice A m c ∧ m ≤ c ∧ c ≤ maxLen ∧ ∀ k, k < m → ∃ b off, A = some ⟨b, off, none⟩ ∧ b < W.heap.size ∧ W.cell? ⟨b, off + k * 3, none⟩ = some (.int .i64 (d k)) ∧ W.cell? ⟨b, off + k * 3 + 1, none⟩ = some (.int .i64 (i k)) ∧ W.cell? ⟨b, off + k * 3 + 2, none⟩ = some (.int .i64 (q k))
/-- The channels as numbers. -/
def edgesOf (m : Nat) (f t : Nat → Int) : Edges := (List.range m).map fun k => ((f k).toNat, (t k).toNat)
theorem edges_len (m : Nat) (f t : Nat → Int) : (edgesOf m f t).length = m := by simp [edgesOf]
theorem edges_at {m : Nat} {f t : Nat → Int} {k : Nat} (h : k < m) : fr (edgesOf m f t) k = (f k).toNat ∧ tt (edgesOf m f t) k = (t k).toNat := by
  have : (edgesOf m f t).getD k (0, 0) = ((f k).toNat, (t k).toNat) := by
    unfold edgesOf
    rw [List.getD_eq_getElem?_getD, List.getElem?_map, List.getElem?_range h]
    rfl
  unfold fr tt
  rw [this]
  exact ⟨rfl, rfl⟩
theorem edges_ok {W : World} {vE : Value} {m nI : Nat} {f t : Nat → Int} (hE : Edges0 W vE m f t) (hm : m ≤ 6) (hn : nI ≤ 5) (h : ∀ k, k < m → 0 ≤ f k ∧ t k < nI ∧ f k < t k) : EdgesAt W vE (edgesOf m f t) ∧ WF (edgesOf m f t) nI := by
  obtain ⟨A, c, hv, hc, _, hcell⟩ := hE
  refine ⟨⟨by rw [edges_len]; exact hm, A, c, by rw [edges_len]; exact hv, by rw [edges_len]; exact hc, fun e he => ?_⟩, ⟨fun e he => ?_, fun e he => ?_⟩⟩
  all_goals
    rw [edges_len] at he
    obtain ⟨h1, h2⟩ := edges_at (f := f) (t := t) he
    obtain ⟨a, b, c⟩ := h e he
    try rw [h1]
    try rw [h2]
  · refine ⟨by omega, by omega, ?_⟩
    obtain ⟨b', off, hA, hb, hf, ht⟩ := hcell e he
    exact ⟨b', off, hA, hb, by rw [hf, Int.toNat_of_nonneg a], by rw [ht, Int.toNat_of_nonneg (by omega)]⟩
  · omega
  · omega

theorem i64_and1 (n : Int) : bits .and .i64 n 1 = n % 2 := by
  have h1 : (BitVec.ofInt 64 1).toNat = 2 ^ 1 - 1 := by decide
  have key : (BitVec.ofInt 64 n &&& BitVec.ofInt 64 1).toNat = (n % ((2 ^ 64 : Nat) : Int)).toNat % 2 ^ 1 := by
    rw [BitVec.toNat_and, BitVec.toNat_ofInt, h1, Nat.and_two_pow_sub_one_eq_mod]
  show IntKind.i64.wrap ((BitVec.ofInt 64 n &&& BitVec.ofInt 64 1).toNat : Nat) = n % 2
  rw [key, IntKind.wrap_i64]
  omega
/-- What the loop over the channels has seen. -/
def Seen (f t : Nat → Int) (n : Int) (k : Nat) : Prop := ∀ j, j < k → 0 ≤ f j ∧ t j < n ∧ f j < t j

section
variable (W : World) (n : Int) (vE vO : Value) (mE mO : Nat) (f t d i q : Nat → Int)

set_option maxRecDepth 100000 in
set_option maxHeartbeats 4000000 in
theorem cut_small (hb : n < 1 ∨ 5 < n ∨ 6 < mE ∨ 150 < mO) (hE : Edges0 W vE mE f t) (hO : Ops0 W vO mO d i q) :
    Calls Try.prog 3 #[.int .i64 n, vE, vO] W fun r w' => r = .returned (.bool true) ∧ Below W.heap.size W w' := by
  obtain ⟨AE, cE, rfl, _⟩ := hE
  obtain ⟨AO, cO, rfl, _⟩ := hO
  have hs := small_ok W W _ (Sat.start W)
  have HS := Lib.hid hs
  clear hs
  by_cases h1 : n < 1
  · have e1 : decide (n < 1) = true := decide_eq_true h1
    go_enter Try.func3, Try.ntmps3
    go_wp2_with ((go_at_call 4; (with_reducible refine HS.out.mono ?_); rintro e' w1 ⟨rfl, s1⟩))
    go_ret
    exact ⟨rfl, Sat.below s1⟩
  · have e1 : decide (n < 1) = false := decide_eq_false h1
    by_cases h2 : 5 < n
    · have e2 : decide (5 < n) = true := decide_eq_true h2
      go_enter Try.func3, Try.ntmps3
      go_wp2_with ((go_at_call 4; (with_reducible refine HS.out.mono ?_); rintro e' w1 ⟨rfl, s1⟩))
      go_ret
      exact ⟨rfl, Sat.below s1⟩
    · have e2 : decide (5 < n) = false := decide_eq_false h2
      by_cases h3 : 6 < mE
      · have e3 : decide ((6 : Int) < (mE : Int)) = true := decide_eq_true (by omega)
        have e3' : (6 : Int) < (mE : Int) := by omega
        go_enter Try.func3, Try.ntmps3
        go_wp2_with ((go_at_call 4; (with_reducible refine HS.out.mono ?_); rintro e' w1 ⟨rfl, s1⟩))
        go_ret
        exact ⟨rfl, Sat.below s1⟩
      · have e3 : decide ((6 : Int) < (mE : Int)) = false := decide_eq_false (by omega)
        have e3' : ¬ (6 : Int) < (mE : Int) := by omega
        have e4 : decide ((150 : Int) < (mO : Int)) = true := decide_eq_true (by omega)
        have e4' : (150 : Int) < (mO : Int) := by omega
        go_enter Try.func3, Try.ntmps3
        go_wp2_with ((go_at_call 4; (with_reducible refine HS.out.mono ?_); rintro e' w1 ⟨rfl, s1⟩))
        go_ret
        exact ⟨rfl, Sat.below s1⟩

set_option maxRecDepth 100000 in
set_option maxHeartbeats 8000000 in
theorem cut_ok (nI : Nat) (hn1 : 1 ≤ nI) (hn5 : nI ≤ 5) (hmE : mE ≤ 6) (hmO : mO ≤ 150) (hE : Edges0 W vE mE f t) (hO : Ops0 W vO mO d i q) :
    Calls Try.prog 3 #[.int .i64 (nI : Int), vE, vO] W fun r w' => r = .returned (.bool true) ∧ Below W.heap.size W w' := by
  have HEE := Lib.hid hE
  obtain ⟨AE, cE, rfl, hcE1, hcE2, hE⟩ := hE
  obtain ⟨AO, cO, rfl, hcO1, hcO2, hO⟩ := hO
  have HS := Lib.hid (small_ok W W _ (Sat.start W))
  have HE := Lib.hid hE
  have HO := Lib.hid hO
  clear hE hO
  have e1 : decide ((nI : Int) < 1) = false := decide_eq_false (by omega)
  have e2 : decide ((5 : Int) < (nI : Int)) = false := decide_eq_false (by omega)
  have e3 : decide ((6 : Int) < (mE : Int)) = false := decide_eq_false (by omega)
  have e4 : decide ((150 : Int) < (mO : Int)) = false := decide_eq_false (by omega)
  have e1' : ¬ (nI : Int) < 1 := by omega
  have e2' : ¬ (5 : Int) < (nI : Int) := by omega
  have e3' : ¬ (6 : Int) < (mE : Int) := by omega
  have e4' : ¬ (150 : Int) < (mO : Int) := by omega
  go_enter Try.func3, Try.ntmps3
  go_wp2_with ((go_at_call 4; (with_reducible refine HS.out.mono ?_); rintro e' w1 ⟨rfl, s1⟩))
  have HS1 := Lib.hid s1
  clear s1 e1 e2 e3 e4 e1' e2' e3' e4'
  have hmE' : (mE : Int) ≤ 6 := by omega
  have hmO' : (mO : Int) ≤ 150 := by omega
  have hnI1 : (1 : Int) ≤ (nI : Int) := by omega
  have hnI5 : (nI : Int) ≤ 5 := by omega
  go_loopg [8] mE (fun gk v wr => ∃ k : Nat, k ≤ mE ∧ gk = mE - k ∧ v = .int .i64 (k : Int) ∧ Seen f t nI k ∧ Sat W wr [old W])
  case atStart => exact ⟨0, Nat.zero_le _, rfl, rfl, fun j hj => by omega, HS1.out⟩
  case round =>
    obtain ⟨k, hk, rfl, rfl, hseen, hS⟩ := hrel
    have hk0 : (0 : Int) ≤ (k : Int) := by omega
    by_cases hlt : k < mE
    · have hlti : (k : Int) < (mE : Int) := by omega
      obtain ⟨b, off, rfl, hb, hf, ht⟩ := HE.out k hlt
      have hold := Sat.oldAt hS
      have hf' := (World.cell?_of_block (w := W) (a := ⟨b, off + k * 2, none⟩) (hold b hb)).trans hf
      have ht' := (World.cell?_of_block (w := W) (a := ⟨b, off + k * 2 + 1, none⟩) (hold b hb)).trans ht
      clear hf ht hold
      by_cases g1 : f k < 0
      · have d1 : decide (f k < 0) = true := decide_eq_true g1
        clear hseen
        go_wp2
        go_quiet (fail)
        go_wp2
        go_ret
        exact ⟨rfl, Sat.below (hS.drewN _)⟩
      · have d1 : decide (f k < 0) = false := decide_eq_false g1
        by_cases g2 : (nI : Int) ≤ t k
        · have d2 : decide ((nI : Int) ≤ t k) = true := decide_eq_true g2
          clear hseen
          go_wp2
          go_quiet (fail)
          go_wp2
          go_ret
          exact ⟨rfl, Sat.below (hS.drewN _)⟩
        · have d2 : decide ((nI : Int) ≤ t k) = false := decide_eq_false g2
          by_cases g3 : t k ≤ f k
          · have d3 : decide (t k ≤ f k) = true := decide_eq_true g3
            clear hseen
            go_wp2
            go_quiet (fail)
            go_wp2
            go_ret
            exact ⟨rfl, Sat.below (hS.drewN _)⟩
          · have d3 : decide (t k ≤ f k) = false := decide_eq_false g3
            have HSN := Lib.hid (show Seen f t nI (k + 1) from fun j hj => by
              by_cases hjk : j = k
              · subst hjk; exact ⟨by omega, by omega, by omega⟩
              · exact hseen j (by omega))
            clear hseen
            go_wp2
            go_quiet (fail)
            go_wp2
            go_roundg (mE - (k + 1))
            case measure => omega
            case rel => exact ⟨k + 1, by omega, by omega, by go_num, HSN.out, hS.drewN _⟩
    · have hge : (mE : Int) ≤ (k : Int) := by omega
      obtain rfl : k = mE := by omega
      obtain ⟨E, hEl, hEA, hWF⟩ : ∃ E : Edges, E.length = k ∧ EdgesAt W (.slice AE k cE) E ∧ WF E nI :=
        ⟨edgesOf k f t, edges_len _ _ _, (edges_ok HEE.out hmE hn5 hseen).1, (edges_ok HEE.out hmE hn5 hseen).2⟩
      subst hEl
      have HEA := Lib.hid hEA
      have HWF := Lib.hid hWF
      have HB := Lib.hid (begin_ok W W wr _ E nI [] hn1 hn5 hEA hS)
      clear hseen hEA hWF hS
      go_wp2_with ((go_at_call 5; (with_reducible refine HB.out.mono ?_); rintro e' w2 ⟨p, V, rfl, s2⟩))
      obtain ⟨vC, vG, vB, vR, vM, vX, vH, vF⟩ := V
      have G0 := Lib.hid (And.intro (good_net0 (E := E) hn5) s2)
      obtain ⟨vE, hvE⟩ : ∃ vE, vE = Value.slice AE E.length cE := ⟨_, rfl⟩
      clear s2
      go_loopg [10, 11] mO (fun gk v10 v11 wr => ∃ (k dd : Nat) (N : Net), k ≤ mO ∧ gk = mO - k ∧ v10 = .int .i64 (dd : Int) ∧ v11 = .int .i64 (k : Int) ∧ Ck.Good E nI k dd N ∧ Sat W wr (netL W p (.slice AE E.length cE) E.length nI ⟨vC, vG, vB, vR, vM, vX, vH, vF⟩ N ++ []))
      case atStart => exact ⟨0, 0, _, Nat.zero_le _, rfl, rfl, rfl, G0.out.1, G0.out.2⟩
      case round =>
        obtain ⟨k, dd, N, hk, rfl, rfl, rfl, hG, hS⟩ := hrel
        have hk0 : (0 : Int) ≤ (k : Int) := by omega
        by_cases hlt : k < mO
        · have hlti : (k : Int) < (mO : Int) := by omega
          obtain ⟨b, off, rfl, hb, hD, hI, hQ⟩ := HO.out k hlt
          have hold := net_old W W wr p _ E nI _ N [] hS
          have hD' := (hold ⟨b, off + k * 3, none⟩ hb).trans hD
          have hI' := (hold ⟨b, off + k * 3 + 1, none⟩ hb).trans hI
          have hQ' := (hold ⟨b, off + k * 3 + 2, none⟩ hb).trans hQ
          clear hD hI hQ hold
          go_upto_block 4 with (fail)
          obtain ⟨g1, g2, g3⟩ := good_all hG (show k ≤ 150 by omega)
          have hs0 := Sat.dn10 (hS.newBlk 30 #[.int .i64 (d k), .int .i64 (i k), .int .i64 (q k)])
          obtain ⟨bo, hbo⟩ : ∃ bo, bo = wr.heap.size := ⟨_, rfl⟩
          rw [← hbo] at hs0 ⊢
          generalize hw0 : wr.alloc _ = w0 at hs0 ⊢
          have c1 : w0.cell? ⟨bo, 1, none⟩ = some (.int .i64 (i k)) := Sat.cell (Sat.up10 hs0) 1
          have c2 : w0.cell? ⟨bo, 2, none⟩ = some (.int .i64 (q k)) := Sat.cell (Sat.up10 hs0) 2
          generalize hx : bits BinOp.and IntKind.i64 (d k) 7 = x
          have HS0 := Lib.hid hs0
          have HG := Lib.hid hG
          have HN1 := Lib.hid g1
          have HN2 := Lib.hid g2
          have HN3 := Lib.hid g3
          clear hx hw0 hbo hs0 hG hS hD' hI' hQ' g1 g2 g3
          -- the instance that is meant
          obtain ⟨j, hj, hji⟩ : ∃ j : Nat, j < nI ∧ i k % (nI : Int) = (j : Int) := by
            refine ⟨(i k % (nI : Int)).toNat, ?_, ?_⟩
            · have h1 := Int.emod_nonneg (i k) (show (nI : Int) ≠ 0 by omega)
              have h2 := Int.emod_lt_of_pos (i k) (show (0 : Int) < (nI : Int) by omega)
              omega
            · rw [Int.toNat_of_nonneg (Int.emod_nonneg _ (by omega))]
          have hmod : ∀ w : World, Calls Try.prog 7 #[.int .i64 (i k), .int .i64 (nI : Int)] w fun e w' => e = .returned (.int .i64 (j : Int)) ∧ w = w' := fun w => by
            have := mod_any (i k) (nI : Int) w (by omega) (by omega)
            rw [hji] at this
            exact this
          have HM := Lib.hid hmod
          clear hmod
          have HJ := Lib.hid hji
          clear hji
          have hj0 : (0 : Int) ≤ (j : Int) := by omega
          have hjn : (j : Int) < (nI : Int) := by omega
          go_cut [10, 13, 14] from 74 to 176 (fun v10 _ _ w' => ∃ (N' : Net) (d' : Nat), v10 = .int .i64 (d' : Int) ∧ Mid E nI k d' N' ∧ Sat W w' (netL W p (.slice AE E.length cE) E.length nI ⟨vC, vG, vB, vR, vM, vX, vH, vF⟩ N' ++ [blk bo 30 #[.int .i64 (d k), .int .i64 (i k), .int .i64 (q k)]]))
          case first =>
            have k3 := (net_cells W W w0 p _ E nI _ N _ HS0.out).2.2.2.1
            have k10 := (net_cells W W w0 p _ E nI _ N _ HS0.out).2.2.2.2.2.2.2.2.2.2.1
            try simp only at k3
            by_cases h01 : x = 0 ∨ x = 1
            · obtain ⟨gb, capb, hd, hvb, _, hbc, _, sb⟩ := Sat.tab (Sat.up3 HS0.out) hj
              simp only at hvb
              subst hvb
              obtain ⟨Ab, capb2, hhd, _⟩ := Sat.row sb
              rw [hhd] at hbc
              clear sb hhd
              cases hsrc : source E j with
              | false =>
                have hso : ∀ nq : Nat, Calls Try.prog 6 #[.pointer (some ⟨p, 0, none⟩), .int .i64 (j : Int)] (w0.drewN nq) fun e w' => e = .returned (.bool false) ∧ w' = w0.drewN nq := fun nq => by
                  have := source_ok W W (w0.drewN nq) p _ E nI _ N _ j HEA.out (HS0.out.drewN nq)
                  rw [hsrc] at this
                  exact this
                have HSO := Lib.hid hso
                clear hso hsrc
                rcases h01 with rfl | rfl
                all_goals
                  go_wp2
                  go_quiet ((first | (go_at_call 7; exact Calls.quiet_of_same ((HM.out _).mono fun _ _ h => ⟨h.1, h.2.symm⟩)) | (go_at_call 6; exact Calls.quiet_of_same (HSO.out _))))
                  go_wp2
                  go_meet
                  case rel => exact ⟨N, dd, rfl, mid_same HG.out, HS0.out.drewN _⟩
              | true =>
                have hso : ∀ nq : Nat, Calls Try.prog 6 #[.pointer (some ⟨p, 0, none⟩), .int .i64 (j : Int)] (w0.drewN nq) fun e w' => e = .returned (.bool true) ∧ w' = w0.drewN nq := fun nq => by
                  have := source_ok W W (w0.drewN nq) p _ E nI _ N _ j HEA.out (HS0.out.drewN nq)
                  rw [hsrc] at this
                  exact this
                have HSO := Lib.hid hso
                clear hso hsrc
                by_cases hbx : (N.box j).length = 0
                · rw [hbx] at hbc
                  obtain ⟨m, hm2, hmq⟩ : ∃ m : Nat, m ≤ 2 ∧ q k % 3 = (m : Int) := ⟨(q k % 3).toNat, by omega, by omega⟩
                  have hmod3 : ∀ w : World, Calls Try.prog 7 #[.int .i64 (q k), .int .i64 3] w fun e w' => e = .returned (.int .i64 (m : Int)) ∧ w = w' := fun w => by
                    have := mod_any (q k) 3 w (by omega) (by omega)
                    rw [hmq] at this
                    exact this
                  have HM3 := Lib.hid hmod3
                  have HP := Lib.hid (fun w => produce_mark W W w p (.slice AE E.length cE) E nI ⟨vC, vG, .slice (some ⟨gb, 0, none⟩) nI capb, vR, vM, vX, vH, vF⟩ N [blk bo 30 #[.int .i64 (d k), .int .i64 (i k), .int .i64 (q k)]] j hj m hn5 HEA.out (by omega) (fun e he => ((lens HN2.out).2 e he).1))
                  clear hmod3 hmq hbx
                  rcases h01 with rfl | rfl
                  all_goals
                    go_wp2
                    go_quiet ((first | (go_at_call 7; exact Calls.quiet_of_same ((HM.out _).mono fun _ _ h => ⟨h.1, h.2.symm⟩)) | (go_at_call 6; exact Calls.quiet_of_same (HSO.out _))))
                    go_wp2
                    generalize hw1 : w0.drewN _ = w1
                    have hs1 : Sat W w1 _ := hw1 ▸ HS0.out.drewN _
                    have x1 : w1.cell? ⟨bo, 1, none⟩ = some (.int .i64 (i k)) := Sat.cell (Sat.up10 hs1) 1
                    have x2 : w1.cell? ⟨bo, 2, none⟩ = some (.int .i64 (q k)) := Sat.cell (Sat.up10 hs1) 2
                    clear hw1
                    go_region_held3 (fun w' => w'.cell? ⟨bo, 1, none⟩ = some (.int .i64 (i k)) ∧ w'.cell? ⟨bo, 2, none⟩ = some (.int .i64 (q k)))
                      (first | (with_reducible exact ⟨y1, y2⟩) | (with_reducible exact ⟨z1, z2⟩) | (simp [x1, x2]; done))
                      (first | ((go_at_call 7; (with_reducible refine (HM.out _).mono ?_); rintro e' w2 ⟨rfl, rfl⟩)) | ((go_at_call 7; (with_reducible refine (HM3.out _).mono ?_); rintro e' w2 ⟨rfl, rfl⟩)) | ((go_at_call 9; (with_reducible refine (mark_any _ _).mono ?_); rintro e' w3 ⟨rfl, hx3⟩; have s3 := hs1.drew.ext hx3; have y1 : w3.cell? ⟨bo, 1, none⟩ = some (.int .i64 (i k)) := Sat.cell (Sat.up10 s3) 1; have y2 : w3.cell? ⟨bo, 2, none⟩ = some (.int .i64 (q k)) := Sat.cell (Sat.up10 s3) 2)) | ((go_at_call 8; (with_reducible refine (HP.out _ s3).mono ?_); rintro e' w5 ⟨rfl, s5⟩; have z1 : w5.cell? ⟨bo, 1, none⟩ = some (.int .i64 (i k)) := Sat.cell (Sat.up10 s5) 1; have z2 : w5.cell? ⟨bo, 2, none⟩ = some (.int .i64 (q k)) := Sat.cell (Sat.up10 s5) 2)))
                    all_goals
                      go_wp2
                      go_meet
                      case rel => exact ⟨_, dd, rfl, mid_produce HEA.out.1 HG.out hj hm2, s5⟩
                · have hb1 : (((N.box j).length : Int) == 0) = false := by rw [beq_eq_false_iff_ne]; omega
                  clear hbx
                  rcases h01 with rfl | rfl
                  all_goals
                    go_wp2
                    go_quiet ((first | (go_at_call 7; exact Calls.quiet_of_same ((HM.out _).mono fun _ _ h => ⟨h.1, h.2.symm⟩)) | (go_at_call 6; exact Calls.quiet_of_same (HSO.out _))))
                    go_wp2
                    go_meet
                    case rel => exact ⟨N, dd, rfl, mid_same HG.out, HS0.out.drewN _⟩
            · have hx0 : (x == 0) = false := by rw [beq_eq_false_iff_ne]; omega
              have hx1 : (x == 1) = false := by rw [beq_eq_false_iff_ne]; omega
              by_cases h24 : x = 2 ∨ x = 3 ∨ x = 4
              · by_cases hE0 : E.length = 0
                · have hE0' : ¬ (0 : Int) < (E.length : Int) := by omega
                  clear hE0
                  rcases h24 with rfl | rfl | rfl
                  all_goals
                    go_wp2
                    go_meet
                    case rel => exact ⟨N, dd, rfl, mid_same HG.out, HS0.out⟩
                · have hE0' : (0 : Int) < (E.length : Int) := by omega
                  have hE6' : (E.length : Int) ≤ 6 := hmE'
                  obtain ⟨e, he, hei⟩ : ∃ e : Nat, e < E.length ∧ i k % (E.length : Int) = (e : Int) := by
                    refine ⟨(i k % (E.length : Int)).toNat, ?_, ?_⟩
                    · have h1 := Int.emod_nonneg (i k) (show (E.length : Int) ≠ 0 by omega)
                      have h2 := Int.emod_lt_of_pos (i k) (show (0 : Int) < (E.length : Int) by omega)
                      omega
                    · rw [Int.toNat_of_nonneg (Int.emod_nonneg _ (by omega))]
                  have hmodE : ∀ w : World, Calls Try.prog 7 #[.int .i64 (i k), .int .i64 (E.length : Int)] w fun e' w' => e' = .returned (.int .i64 (e : Int)) ∧ w = w' := fun w => by
                    have := mod_any (i k) (E.length : Int) w (by omega) (by omega)
                    rw [hei] at this
                    exact this
                  have HME := Lib.hid hmodE
                  have htk := take_ok W W w0 p _ E nI _ N _ HWF.out HG.out.inv hn5 HN1.out HN2.out e he HEA.out HS0.out
                  have hmt := mid_take HWF.out HEA.out.1 HG.out he
                  rw [hmt.2] at htk
                  have HT := Lib.hid htk
                  have HMT := Lib.hid hmt.1
                  clear hmodE htk hmt hei hE0
                  rcases h24 with rfl | rfl | rfl
                  all_goals
                    go_wp2_with (first | ((go_at_call 7; (with_reducible refine (HME.out _).mono ?_); rintro e' w2 ⟨rfl, rfl⟩)) | ((go_at_call 10; (with_reducible refine HT.out.mono ?_); rintro e' w5 ⟨rfl, s5⟩)))
                    go_meet
                    case rel => exact ⟨_, dd, rfl, HMT.out, s5⟩
              · have hx2 : (x == 2) = false := by rw [beq_eq_false_iff_ne]; omega
                have hx3 : (x == 3) = false := by rw [beq_eq_false_iff_ne]; omega
                have hx4 : (x == 4) = false := by rw [beq_eq_false_iff_ne]; omega
                by_cases h7 : x = 7
                · subst h7
                  by_cases hn0 : N.num = 0
                  · rw [hn0] at k10
                    obtain ⟨κ, hκ, hκq⟩ : ∃ κ : Nat, κ ≤ 1 ∧ q k % 2 = (κ : Int) := ⟨(q k % 2).toNat, by omega, by omega⟩
                    have hbits : bits .and .i64 (q k) 1 = (κ : Int) := (i64_and1 _).trans hκq
                    have hst := start_ok W W w0 p _ E nI _ N _ HWF.out HG.out.inv hn1 hn5 (dd + 1) κ (by have := HG.out.le; omega) hκ HN3.out HEA.out HS0.out
                    rw [show ((dd + 1 : Nat) : Int) = (dd : Int) + 1 from by omega] at hst
                    have HST := Lib.hid hst
                    have HMS := Lib.hid (mid_start hn5 HEA.out.1 HWF.out HG.out hn0 hκ)
                    have hdd : (dd : Int) ≤ 150 := by have := HG.out.le; omega
                    clear hst hκq hn0
                    go_wp2_with ((go_at_call 11; (with_reducible refine HST.out.mono ?_); rintro e' w5 ⟨rfl, s5⟩))
                    go_meet
                    case rel => exact ⟨_, dd + 1, by go_num, HMS.out, s5⟩
                  · have hb1 : ((N.num : Int) == 0) = false := by rw [beq_eq_false_iff_ne]; omega
                    go_wp2
                    go_meet
                    case rel => exact ⟨N, dd, rfl, mid_same HG.out, HS0.out⟩
                · have hx7 : (x == 7) = false := by rw [beq_eq_false_iff_ne]; omega
                  have HF := Lib.hid (flush_ok' W W w0 p _ E nI _ N _ HG.out.inv hn5 HN1.out HN2.out j hj HEA.out HS0.out)
                  go_wp2_with (first | ((go_at_call 7; (with_reducible refine (HM.out _).mono ?_); rintro e' w2 ⟨rfl, rfl⟩)) | ((go_at_call 12; (with_reducible refine HF.out.mono ?_); rintro e' w5 ⟨rfl, s5⟩)))
                  go_meet
                  case rel => exact ⟨_, dd, rfl, mid_flush HG.out hj, s5⟩
          case rest =>
            obtain ⟨N', d', rfl, hM, hS⟩ := hcut
            have hS := Sat.drop (Sat.up10 hS)
            have k10 := (net_cells W W wc p _ E nI _ N' _ hS).2.2.2.2.2.2.2.2.2.2.1
            have hle := hM.le
            have HMd := Lib.hid hM
            have HSd := Lib.hid hS
            have hfin := mid_all hM (show k ≤ 150 by omega)
            have HL := Lib.hid (lens hfin)
            have hd150 : (d' : Int) ≤ 151 := by omega
            clear hfin hM
            by_cases hn0 : N'.num = 0
            · rw [hn0] at k10
              have HN0 := Lib.hid hn0
              clear hn0 hS
              go_wp2
              go_roundg (mO - (k + 1))
              case measure => omega
              case rel => exact ⟨k + 1, d', N', by omega, by omega, rfl, by go_num, good_next HMd.out HMd.out.le, HSd.out⟩
            · have hn1' : (0 : Int) < (N'.num : Int) := by omega
              have hwh := whole_ok W W wc p _ E nI _ N' _ hn1 hn5 HEA.out (fun i hi => HL.out.1 i hi) hS
              have HN0 := Lib.hid (show 0 < N'.num by omega)
              clear hn0 hS
              cases hw : whole E nI N' with
              | false =>
                rw [hw] at hwh
                have HWH := Lib.hid hwh
                clear hwh hw
                go_wp2_with ((go_at_call 13; (with_reducible refine HWH.out.mono ?_); rintro e' w5 ⟨rfl, s5⟩))
                go_roundg (mO - (k + 1))
                case measure => omega
                case rel => exact ⟨k + 1, d', N', by omega, by omega, rfl, by go_num, good_next HMd.out HMd.out.le, s5⟩
              | true =>
                rw [hw] at hwh
                have HWH := Lib.hid hwh
                have HCO := Lib.hid (whole_consistent HWF.out HMd.out.inv HN0.out hw)
                have HGD := Lib.hid (good_done hn5 HWF.out HMd.out HN0.out hw)
                clear hwh hw
                go_upto_region 37 with (first | ((go_at_call 13; (with_reducible refine HWH.out.mono ?_); rintro e' w5 ⟨rfl, s5⟩)) | ((go_at_call 14; (with_reducible refine (consistent_ok W W _ p _ E nI _ N' _ HEA.out HCO.out (fun e he => (HL.out.2 e he).1) s5).mono ?_); rintro e' w6 ⟨rfl, s6⟩)))
                have s7 : Sat W _ (netL W p (.slice AE E.length cE) E.length nI ⟨vC, vG, vB, vR, vM, vX, vH, vF⟩ { N' with num := 0 } ++ []) := Sat.set s6 10 (.int .i64 0)
                have l10 : w6.cell? ⟨p, 10, none⟩ = some (.int .i64 (N'.num : Int)) := Sat.cell s6 10
                have f10 : w6.frozen? ⟨p, 10, none⟩ = false := Sat.frozen s6 10
                have HS7 := Lib.hid (clear_ok W W _ p _ E nI _ _ _ hn1 hn5 HEA.out s7)
                clear s7
                go_wp2_with ((go_at_call 15; (with_reducible refine HS7.out.mono ?_); rintro e' w8 ⟨rfl, s8⟩))
                go_roundg (mO - (k + 1))
                case measure => omega
                case rel => exact ⟨k + 1, d', clear { N' with num := 0 }, by omega, by omega, rfl, by go_num, HGD.out, s8⟩
        · have hge : (mO : Int) ≤ (k : Int) := by omega
          obtain rfl : k = mO := by omega
          obtain ⟨g1, g2, g3⟩ := good_all hG hmO
          have HDR := Lib.hid (drain_ok W W wr p _ E nI _ N _ (B := 10000000) (Nat.le_refl _) HWF.out ⟨hG.inv, g1, g2⟩ hn5 HEA.out hS)
          clear hG hS g1 g2 g3
          go_upto_region 41 with ((go_at_call 16; (with_reducible refine HDR.out.mono ?_); rintro e' w3 ⟨rfl, N3, hK, hst, s3⟩))
          obtain ⟨hch, hwh0⟩ := stuck_end HWF.out hK.inv hst
          have k10 := (net_cells W W w3 p _ E nI _ N3 _ s3).2.2.2.2.2.2.2.2.2.2.1
          have HCH := Lib.hid hch
          have HL := Lib.hid (lens hK.bnd)
          have HS3 := Lib.hid s3
          go_cut [194] from 180 to 193 (fun v w' => v = .bool false ∧ Sat W w' (netL W p (.slice AE E.length cE) E.length nI ⟨vC, vG, vB, vR, vM, vX, vH, vF⟩ N3 ++ []))
          case first =>
            by_cases hn0 : N3.num = 0
            · rw [hn0] at k10
              clear hn0 hwh0 hch s3 hK hst
              go_wp2
              go_meet
              case rel => exact ⟨rfl, HS3.out⟩
            · have hn1' : (0 : Int) < (N3.num : Int) := by omega
              have hpos : 0 < N3.num := by omega
              have hwh := whole_ok W W w3 p _ E nI _ N3 _ hn1 hn5 HEA.out (fun i hi => HL.out.1 i hi) s3
              rw [hwh0 hpos] at hwh
              have HWH := Lib.hid hwh
              have HCO := Lib.hid (whole_consistent HWF.out hK.inv hpos (hwh0 hpos))
              clear hwh hwh0 hpos hn0 hch s3 hK hst
              go_wp2_with (first | ((go_at_call 13; (with_reducible refine HWH.out.mono ?_); rintro e' w5 ⟨rfl, s5⟩)) | ((go_at_call 14; (with_reducible refine (consistent_ok W W _ p _ E nI _ N3 _ HEA.out HCO.out (fun e he => (HL.out.2 e he).1) s5).mono ?_); rintro e' w6 ⟨rfl, s6⟩)))
              go_meet
              case rel => exact ⟨rfl, s6⟩
          case rest =>
            obtain ⟨rfl, hS⟩ := hcut
            clear k10 hwh0 hch s3 hK hst
            obtain ⟨ac, capc, hvc, hcc1, hcc2⟩ := Sat.ptrsLen (Sat.up1 hS)
            simp only at hvc
            subst hvc
            have HSC := Lib.hid hS
            have y1 := (net_cells W W wc p _ E nI _ N3 _ hS).2.1
            try simp only at y1
            clear hS
            have HBW := Lib.hid (Sat.below (Sat.up9 HSC.out))
            go_wp2
            go_loop [15] (fun t => ∃ k : Nat, k ≤ E.length ∧ t = .int .i64 (k : Int)) (fun t => E.length - (intOf t).toNat)
            case atStart => exact ⟨0, Nat.zero_le _, rfl⟩
            case round =>
              obtain ⟨k, hk, rfl⟩ := hrel
              have hk0 : (0 : Int) ≤ (k : Int) := by omega
              by_cases hlt : k < E.length
              · have hlti : (k : Int) < (E.length : Int) := by omega
                obtain ⟨gc, capc', ca, hvc, _, hcc, m1⟩ := Sat.ptrs (Sat.up1 HSC.out) hlt
                injection hvc with hvA _ hvC
                subst hvA hvC
                have hln := len_any _ _ W wc _ m1
                rw [HCH.out k hlt] at hln
                have HLN := Lib.hid hln
                clear hln m1
                go_wp2_with ((go_at_call 17; (with_reducible refine HLN.out.mono ?_); rintro e' w6 ⟨rfl, rfl⟩))
                go_round
                case rel => exact ⟨k + 1, by omega, by go_num⟩
                case measure => simp [intOf]; omega
              · have hge : (E.length : Int) ≤ (k : Int) := by omega
                go_wp2
                go_ret
                exact ⟨rfl, HBW.out⟩
end
end Go.Proofs.Ytacklfjpbboijaa
