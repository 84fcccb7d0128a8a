/-
  CheckpointCut, walks: start.
-/
import Derived.Test.YtacklfjpbboijaaCkDrain
namespace Go.Sep
open Go
theorem Sat.rowCell {X w : World} {l : List Asn} {e : TypeId} {s g n m cap : Nat} {xs : List Value} (h : Sat X w (rowA e s (.slice (some ⟨g, 0, none⟩) m cap) n xs :: l)) {j : Nat} {u : Value} (hu : xs[j]? = some u) : w.cell? ⟨g, j, none⟩ = some u := by
  obtain ⟨A', cap', hv, _, _, _, h4⟩ := h.row
  injection hv with hA _ _
  subst hA
  obtain ⟨g', hg', _, hc, _⟩ := h4 _ rfl
  cases hg'
  exact hc j u hu
end Go.Sep
namespace Go.Proofs.Ytacklfjpbboijaa
open Go.RowKit Go.Sep Go.Ck

section
variable {E : Edges} {N : Net}
def madeTo (E : Edges) (N : Net) (k : Nat) (e : Nat) : List Nat := if e < k then nums (str E N e) else []
theorem madeTo_zero : madeTo E N 0 = fun _ => [] := by funext e; simp [madeTo]
theorem madeTo_succ (k : Nat) : madeTo E N (k + 1) = upd (madeTo E N k) k (nums (str E N k)) := by
  funext e
  unfold madeTo
  by_cases he : e = k
  · subst he; simp [upd]
  · rw [upd_ne _ _ he]
    by_cases h : e < k
    · rw [if_pos h, if_pos (by omega)]
    · rw [if_neg h, if_neg (by omega)]
theorem madeTo_self (k : Nat) : madeTo E N k k = [] := by simp [madeTo]
theorem madeTo_upd (k : Nat) : upd (madeTo E N k) k [] = madeTo E N k := by
  funext e
  by_cases he : e = k
  · subst he; rw [upd_same, madeTo_self]
  · rw [upd_ne _ _ he]
theorem upd_upd {α : Type} (f : Nat → α) (k : Nat) (a b : α) : upd (upd f k a) k b = upd f k b := by
  funext e
  by_cases he : e = k
  · subst he; rw [upd_same, upd_same]
  · rw [upd_ne _ _ he, upd_ne _ _ he, upd_ne _ _ he]
theorem reports_facts {M : Net} {B nI : Nat} (hb : ∀ i, i < nI → (M.box i).length ≤ B) (h0 : ∀ e, M.boxed e = []) : ∀ n, n ≤ nI → (∀ i, n ≤ i → (reports E M n).box i = M.box i) ∧ ∀ e, ((reports E M n).boxed e).length ≤ n * B
  | 0, _ => ⟨fun _ _ => rfl, fun e => by show (M.boxed e).length ≤ _; rw [h0]; simp⟩
  | n + 1, hn => by
    obtain ⟨a, b⟩ := reports_facts hb h0 n (by omega)
    rw [reports]
    split
    · unfold report
      split
      · refine ⟨fun i hi => ?_, fun e => ?_⟩
        · show upd _ n _ i = _
          rw [upd_ne _ _ (by omega), a i (by omega)]
        · have := b e
          rw [Nat.succ_mul]
          exact Nat.le_trans this (Nat.le_add_right _ _)
      · refine ⟨fun i hi => ?_, fun e => ?_⟩
        · show upd _ n _ i = _
          rw [upd_ne _ _ (by omega), a i (by omega)]
        · have h1 := b e
          have h2 := forE_len ((reports E M n).box n) e
          rw [a n (Nat.le_refl _)] at h2
          have h3 := hb n (by omega)
          rw [Nat.succ_mul]
          show ((reports E M n).boxed e ++ nums (forE ((reports E M n).box n) e)).length ≤ _
          rw [List.length_append, a n (Nat.le_refl _)]
          unfold nums
          rw [List.length_map]
          omega
    · refine ⟨fun i hi => a i (by omega), fun e => ?_⟩
      have := b e
      rw [Nat.succ_mul]
      exact Nat.le_trans this (Nat.le_add_right _ _)
theorem nums_take {q : List Msg} {j : Nat} (h : j < q.length) : nums (q.take (j + 1)) = nums (q.take j) ++ [q[j].n] := by
  rw [List.take_succ_eq_append_getElem h]
  unfold nums
  rw [List.map_append]
  rfl
theorem forE_take_yes {l : List (Nat × Msg)} {j e : Nat} (h : j < l.length) (he : l[j].1 = e) : forE (l.take (j + 1)) e = forE (l.take j) e ++ [l[j].2] := by
  rw [List.take_succ_eq_append_getElem h]
  have : [l[j]].filter (fun y => y.1 == e) = [l[j]] := by simp [he]
  unfold forE
  rw [List.filter_append, List.map_append, this]
  rfl
theorem forE_take_no {l : List (Nat × Msg)} {j e : Nat} (h : j < l.length) (he : l[j].1 ≠ e) : forE (l.take (j + 1)) e = forE (l.take j) e := by
  rw [List.take_succ_eq_append_getElem h]
  have : [l[j]].filter (fun y => y.1 == e) = [] := by simp [he]
  unfold forE
  rw [List.filter_append, List.map_append, this, List.map_nil, List.append_nil]
end

section
variable (W X w : World) (p : Nat) (vE : Value) (E : Edges) (nI : Nat) (V : Hdr) (N : Net) (F : List Asn)

/-- Region 10's loop: the numbers of the channel's messages. -/
def mid (N : Net) (number κ : Nat) (f : Nat → List Nat) : Net := { clear { N with num := number, kind := κ } with made := f }

set_option maxRecDepth 100000 in
set_option maxHeartbeats 4000000 in
theorem start_ok (WF' : WF E nI) (I : Inv E nI N (fun _ => False)) (hn : 0 < nI) (hn5 : nI ≤ 5) (number κ : Nat) (_ : number ≤ 1000) (_ : κ ≤ 1) (l1 : ∀ i, i < nI → (N.box i).length ≤ 1000000) (hE : EdgesAt W vE E) (h : Sat X w (netL W p vE E.length nI V N ++ F)) :
    Calls Try.prog 11 #[.pointer (some ⟨p, 0, none⟩), .int .i64 (number : Int), .int .i64 (κ : Int)] w fun r w' =>
    r = .returned (.tuple #[]) ∧ Sat X w' (netL W p vE E.length nI V (Ck.start E nI N number κ) ++ F) := by
  have HE := Lib.hid hE
  obtain ⟨hE6, A, c, rfl, hc, hE⟩ := hE
  obtain ⟨i0, hi0, hz0, hz1, hz2⟩ := info_parts Try.infoI
  have hE6' : (E.length : Int) ≤ 6 := by omega
  have hn5' : (nI : Int) ≤ 5 := by omega
  have HL1 := Lib.hid l1
  have HI := Lib.hid I
  have HW := Lib.hid WF'
  have HEA := Lib.hid hE
  have hlt := Sat.lt h
  have h1 : Sat X _ (netL W p (.slice A E.length c) E.length nI V { N with num := number, kind := κ } ++ F) := (Sat.set h 10 (.int .i64 (number : Int))).set 9 (.int .i64 (κ : Int))
  have H1 := Lib.hid h1
  have k0 := (net_cells W X w p _ E nI V N F h).1
  have f10 : w.frozen? ⟨p, 10, none⟩ = false := Sat.frozen h 10
  have k10 : w.cell? ⟨p, 10, none⟩ = some (.int .i64 (N.num : Int)) := Sat.cell h 10
  have f9 : (w.setCell ⟨p, 10, none⟩ (.int .i64 (number : Int))).frozen? ⟨p, 9, none⟩ = false := Sat.frozen (Sat.set h 10 _) 9
  have k9 : (w.setCell ⟨p, 10, none⟩ (.int .i64 (number : Int))).cell? ⟨p, 9, none⟩ = some (.int .i64 (N.kind : Int)) := Sat.cell (Sat.set h 10 _) 9
  clear hE l1 I WF' h h1
  go_enter Try.func11, Try.ntmps11
  go_wp2_with ((go_at_call 15; (with_reducible refine (clear_ok W X _ p _ E nI _ _ F hn hn5 HE.out H1.out).mono ?_); rintro e' w1 ⟨rfl, s1⟩))
  have hs2 : Sat X w1 (netL W p (.slice A E.length c) E.length nI V (mid N number κ (madeTo E N 0)) ++ F) := by
    rw [madeTo_zero]
    exact s1
  have H2 := Lib.hid hs2
  clear s1 hs2 k0 k9 k10 f9 f10
  go_loopg [6] E.length (fun gk t wr => ∃ k : Nat, k ≤ E.length ∧ gk = E.length - k ∧ t = .int .i64 (k : Int) ∧ Sat X wr (netL W p (.slice A E.length c) E.length nI V (mid N number κ (madeTo E N k)) ++ F))
  case atStart => exact ⟨0, Nat.zero_le _, rfl, rfl, H2.out⟩
  case round =>
    obtain ⟨k, hk, rfl, rfl, hS⟩ := hrel
    have hk0 : (0 : Int) ≤ (k : Int) := by omega
    by_cases hlt : k < E.length
    · have hlti : (k : Int) < (E.length : Int) := by omega
      obtain ⟨hf5, _, b, off, rfl, hbo, hf, _⟩ := HEA.out k hlt
      have hf' := net_old W X wr p _ E nI _ _ _ hS ⟨b, off + k * 2, none⟩ hbo
      rw [hf] at hf'
      clear hf
      obtain ⟨vC, vG, vB, vR, vM, vX, vH, vF⟩ := V
      obtain ⟨q, hq⟩ : ∃ q, N.chan k = q := ⟨_, rfl⟩
      have hq4 : q.length ≤ 4 := by rw [← hq]; exact HI.out.cap k hlt
      obtain ⟨gc, capc, ca, hvc, _, hcc, m1⟩ := Sat.ptrs (Sat.up1 hS) hlt
      obtain ⟨gm, capm, _, hvm, _, _, _, _, _⟩ := Sat.tabHdr (Sat.up5 hS) hlt
      simp only at hvc hvm
      subst hvc hvm
      have m1 : Sat X wr (chanA (ca k) q :: _) := hq ▸ m1
      obtain ⟨j0, j1, _, _, _, _, _, _, _, _, _, jlt⟩ := net_cells W X wr p _ E nI _ _ _ hS
      try simp only at j0 j1
      have HQ := Lib.hid hq
      clear hq
      go_wp2_with ((go_at_call 27; (with_reducible refine (list_ok _ _ X _ _ m1).mono ?_); rintro e' w1 ⟨v, rfl, m2⟩))
      have s2 : Sat X w1 (rowA 44 6 v q.length (q.flatMap mcells) :: netL W p (.slice (some ⟨b, off, none⟩) E.length c) E.length nI ⟨.slice (some ⟨gc, 0, none⟩) E.length capc, vG, vB, vR, .slice (some ⟨gm, 0, none⟩) E.length capm, vX, vH, vF⟩ (mid N number κ (upd (madeTo E N k) k (nums (q.take 0)))) ++ F) := by
        have e0 : upd (madeTo E N k) k (nums (q.take 0)) = madeTo E N k := by
          simp only [List.take_zero]
          exact madeTo_upd k
        rw [e0]
        exact Sat.dn2 (Sat.ptrsBack (A' := fun c j => chanA c (N.chan j)) hlt (fun _ _ _ => rfl) (by rw [HQ.out]; exact Sat.up2 (Sat.up2 m2)))
      have S2 := Lib.hid s2
      obtain ⟨Av, capv, hv, hv1, hv2, hv3, hv4⟩ := Sat.row s2
      subst hv
      clear s2 m2 m1 j0 j1 hcc hS hf'
      obtain ⟨wo, rfl⟩ : ∃ wo : World, wo = wr := ⟨_, rfl⟩
      go_loopg [8] q.length (fun gk t wr => ∃ j : Nat, j ≤ q.length ∧ gk = q.length - j ∧ t = .int .i64 (j : Int) ∧ Sat X wr (rowA 44 6 (.slice Av q.length capv) q.length (q.flatMap mcells) :: netL W p (.slice (some ⟨b, off, none⟩) E.length c) E.length nI ⟨.slice (some ⟨gc, 0, none⟩) E.length capc, vG, vB, vR, .slice (some ⟨gm, 0, none⟩) E.length capm, vX, vH, vF⟩ (mid N number κ (upd (madeTo E N k) k (nums (q.take j)))) ++ F))
      case atStart => exact ⟨0, Nat.zero_le _, rfl, rfl, S2.out⟩
      case round =>
        obtain ⟨j, hj, rfl, rfl, hS⟩ := hrel
        have hj0 : (0 : Int) ≤ (j : Int) := by omega
        by_cases hjq : j < q.length
        · have hjqi : (j : Int) < (q.length : Int) := by omega
          obtain ⟨Av', capv', hvv, _, _, hv3', hv4'⟩ := Sat.row hS
          injection hvv with hvA _ hvC
          subst hvA hvC
          rcases Av with _ | av
          · exact absurd (hv3' rfl) (by omega)
          obtain ⟨gv, rfl, hgv, hvcc, _⟩ := hv4' av rfl
          have hv4i : (q.flatMap mcells)[j * 6 + 4]? = some (.int .i64 (q[j].n : Int)) := by
            rw [fm_get (enc := mcells) (s := 6) (fun _ => rfl) q j hjq 4 (by omega)]
            rfl
          have hv4c := hvcc _ _ hv4i
          have HV4 := Lib.hid hv4i
          clear hvcc hv4' hv4i hv4
          obtain ⟨gm', capm', hdx, hvx, _, hxc, _, mm1⟩ := Sat.tab (Sat.up6 hS) hlt
          obtain ⟨rfl, _, rfl⟩ := slice_inj hvx
          have hup : (mid N number κ (upd (madeTo E N k) k (nums (q.take j)))).made k = nums (q.take j) := upd_same _ _ _
          rw [hup] at mm1
          obtain ⟨Ax, capx, hhx, _⟩ := Sat.row mm1
          rw [hhx] at hxc
          have hln : (nums (q.take j)).length ≤ 4 := by
            unfold nums
            rw [List.length_map, List.length_take]
            omega
          have x5 := Sat.cell (Sat.up3 mm1) 5
          have hltm := Sat.lt (Sat.up3 mm1)
          have HUP := Lib.hid hup
          clear hup
          go_upto_region 10 with (fail)
          have mm2 := (mm1.alloc (.cells #[.int .i64 (q[j].n : Int)] 3)).drew
          have xp := And.intro (Sat.cell (Sat.up3 mm2) 5) (Sat.tabCell hlt rfl (Sat.up1 mm2)).1
          rw [hhx] at xp
          have xv := Sat.rowCell (Sat.up2 mm2) HV4.out
          refine wp_region_N (S := (fun w' => w'.cell? ⟨p, 5, none⟩ = some (.slice (some ⟨gm, 0, none⟩) E.length capm) ∧ w'.cell? ⟨gm, k, none⟩ = some (.slice Ax (nums (q.take j)).length capx) ∧ w'.cell? ⟨gv, j * 6 + 4, none⟩ = some (.int .i64 (q[j].n : Int)))) 20 (by kernel_rfl) ?_ (fun hHeld => ?_)
          · exact ⟨by simpa using x5, by simpa using hxc, by simpa using hv4c⟩
          refine wpAnyN_take (i := 0) (v := ?_) rfl (by kernel_rfl) (by kernel_rfl) (by kernel_rfl) (by kernel_rfl) (fun _ _ _ h => h) (by assumption) (Or.inl ⟨by rfl, ?_⟩) ?_
          rotate_left
          · (intro wq hSw; (try dsimp only at hSw); go_simp; try (with_reducible rfl))
          try simp only [Act.put, List.setIfInBounds_toArray, List.set_cons_zero, List.set_cons_succ]
          refine wpAnyN_take (i := 1) (v := ?_) rfl (by kernel_rfl) (by kernel_rfl) (by kernel_rfl) (by kernel_rfl) (fun _ _ _ h => h) (by assumption) (Or.inl ⟨by rfl, ?_⟩) ?_
          rotate_left
          · (intro wq hSw; (try dsimp only at hSw); go_simp; try (with_reducible rfl))
          try simp only [Act.put, List.setIfInBounds_toArray, List.set_cons_zero, List.set_cons_succ]
          refine wpAnyN_take (i := 2) (v := ?_) rfl (by kernel_rfl) (by kernel_rfl) (by kernel_rfl) (by kernel_rfl) (fun _ _ _ h => h) (by assumption) (Or.inl ⟨by rfl, ?_⟩) ?_
          rotate_left
          · (intro wq hSw; (try dsimp only at hSw); go_simp; try (with_reducible rfl))
          try simp only [Act.put, List.setIfInBounds_toArray, List.set_cons_zero, List.set_cons_succ]
          refine wpAnyN_take (i := 3) (v := ?_) rfl (by kernel_rfl) (by kernel_rfl) (by kernel_rfl) (by kernel_rfl) (fun _ _ _ h => h) (by assumption) (Or.inl ⟨by rfl, ?_⟩) ?_
          rotate_left
          · (intro wq hSw; (try dsimp only at hSw); go_simp; try (with_reducible rfl))
          try simp only [Act.put, List.setIfInBounds_toArray, List.set_cons_zero, List.set_cons_succ]
          refine wpAnyN_take (i := 4) (v := ?_) rfl (by kernel_rfl) (by kernel_rfl) (by kernel_rfl) (by kernel_rfl) (fun _ _ _ h => h) (by assumption) (Or.inl ⟨by rfl, ?_⟩) ?_
          rotate_left
          · (intro wq hSw; (try dsimp only at hSw); go_simp; try (with_reducible rfl))
          try simp only [Act.put, List.setIfInBounds_toArray, List.set_cons_zero, List.set_cons_succ]
          refine wpAnyN_take (i := 5) (v := ?_) rfl (by kernel_rfl) (by kernel_rfl) (by kernel_rfl) (by kernel_rfl) (fun _ _ _ h => h) (by assumption) (Or.inl ⟨by rfl, ?_⟩) ?_
          rotate_left
          · (intro wq hSw; (try dsimp only at hSw); go_simp; try (with_reducible rfl))
          try simp only [Act.put, List.setIfInBounds_toArray, List.set_cons_zero, List.set_cons_succ]
          refine wpAnyN_take (i := 6) (v := ?_) rfl (by kernel_rfl) (by kernel_rfl) (by kernel_rfl) (by kernel_rfl) (fun _ _ _ h => h) (by assumption) (Or.inl ⟨by rfl, ?_⟩) ?_
          rotate_left
          · (intro wq hSw; (try dsimp only at hSw); go_simp; try (with_reducible rfl))
          try simp only [Act.put, List.setIfInBounds_toArray, List.set_cons_zero, List.set_cons_succ]
          refine wpAnyN_take (i := 7) (v := ?_) rfl (by kernel_rfl) (by kernel_rfl) (by kernel_rfl) (by kernel_rfl) (fun _ _ _ h => h) (by assumption) (Or.inl ⟨by rfl, ?_⟩) ?_
          rotate_left
          · (intro wq hSw; (try dsimp only at hSw); go_simp; try (with_reducible rfl))
          try simp only [Act.put, List.setIfInBounds_toArray, List.set_cons_zero, List.set_cons_succ]
          refine wpAnyN_take (i := 8) (v := ?_) rfl (by kernel_rfl) (by kernel_rfl) (by kernel_rfl) (by kernel_rfl) (fun _ _ _ h => h) (by assumption) (Or.inl ⟨by rfl, ?_⟩) ?_
          rotate_left
          · (intro wq hSw; (try dsimp only at hSw); go_simp; try (with_reducible rfl))
          try simp only [Act.put, List.setIfInBounds_toArray, List.set_cons_zero, List.set_cons_succ]
          refine wpAnyN_take (i := 9) (v := ?_) rfl (by kernel_rfl) (by kernel_rfl) (by kernel_rfl) (by kernel_rfl) (fun _ _ _ h => h) (by assumption) (Or.inl ⟨by rfl, ?_⟩) ?_
          rotate_left
          · (intro wq hSw; (try dsimp only at hSw); go_simp; try (with_reducible rfl))
          try simp only [Act.put, List.setIfInBounds_toArray, List.set_cons_zero, List.set_cons_succ]
          refine wpAnyN_take (i := 10) (v := ?_) rfl (by kernel_rfl) (by kernel_rfl) (by kernel_rfl) (by kernel_rfl) (fun _ _ _ h => h) (by assumption) (Or.inl ⟨by rfl, ?_⟩) ?_
          rotate_left
          · (intro wq hSw; (try dsimp only at hSw); go_simp; try (with_reducible rfl))
          try simp only [Act.put, List.setIfInBounds_toArray, List.set_cons_zero, List.set_cons_succ]
          refine wpAnyN_take (i := 11) (v := ?_) rfl (by kernel_rfl) (by kernel_rfl) (by kernel_rfl) (by kernel_rfl) (fun _ _ _ h => h) (by assumption) (Or.inl ⟨by rfl, ?_⟩) ?_
          rotate_left
          · (intro wq hSw; (try dsimp only at hSw); go_simp; try (with_reducible rfl))
          try simp only [Act.put, List.setIfInBounds_toArray, List.set_cons_zero, List.set_cons_succ]
          refine wpAnyN_take (i := 12) (v := ?_) rfl (by kernel_rfl) (by kernel_rfl) (by kernel_rfl) (by kernel_rfl) (fun _ _ _ h => h) (by assumption) (Or.inl ⟨by rfl, ?_⟩) ?_
          rotate_left
          · (intro wq hSw; (try dsimp only at hSw); go_simp; try (with_reducible rfl))
          try simp only [Act.put, List.setIfInBounds_toArray, List.set_cons_zero, List.set_cons_succ]
          refine wpAnyN_take (i := 13) (v := ?_) rfl (by kernel_rfl) (by kernel_rfl) (by kernel_rfl) (by kernel_rfl) (fun _ _ _ h => h) (by assumption) (Or.inl ⟨by rfl, ?_⟩) ?_
          rotate_left
          · (intro wq hSw; (try dsimp only at hSw); go_simp; try (with_reducible rfl))
          try simp only [Act.put, List.setIfInBounds_toArray, List.set_cons_zero, List.set_cons_succ]
          refine wpAnyN_take (i := 14) (v := ?_) rfl (by kernel_rfl) (by kernel_rfl) (by kernel_rfl) (by kernel_rfl) (fun _ _ _ h => h) (by assumption) (Or.inl ⟨by rfl, ?_⟩) ?_
          rotate_left
          · (intro wq hSw; (try dsimp only at hSw); go_simp; try (with_reducible rfl))
          try simp only [Act.put, List.setIfInBounds_toArray, List.set_cons_zero, List.set_cons_succ]
          refine wpAnyN_take (i := 15) (v := ?_) rfl (by kernel_rfl) (by kernel_rfl) (by kernel_rfl) (by kernel_rfl) (fun _ _ _ h => h) (by assumption) (Or.inl ⟨by rfl, ?_⟩) ?_
          rotate_left
          · (intro wq hSw; (try dsimp only at hSw); go_simp; try (with_reducible rfl))
          try simp only [Act.put, List.setIfInBounds_toArray, List.set_cons_zero, List.set_cons_succ]
          refine wpAnyN_take (i := 16) (v := ?_) rfl (by kernel_rfl) (by kernel_rfl) (by kernel_rfl) (by kernel_rfl) (fun _ _ _ h => h) (by assumption) (Or.inl ⟨by rfl, ?_⟩) ?_
          rotate_left
          · (intro wq hSw; (try dsimp only at hSw); go_simp; try (with_reducible rfl))
          try simp only [Act.put, List.setIfInBounds_toArray, List.set_cons_zero, List.set_cons_succ]
          refine wpAnyN_one (i := 17) (by kernel_rfl) rfl (fun K hK => ?_)
          go_simp
          refine hK.out _ _ ?_ (fun hHeld => ?_)
          · exact ⟨xp.1, xp.2, xv⟩
          clear hK K
          try simp only [Act.put, List.setIfInBounds_toArray, List.set_cons_zero, List.set_cons_succ]
          refine wpAnyN_one (i := 18) (by kernel_rfl) rfl (fun K hK => ?_)
          refine step_append_sep rfl (.tmp 56) (.tmp 62) 58 rfl i0 _ 8 Try.underlying58 hi0 hz0 hz1 hz2 rfl (by decide) hhx.symm mm2 ⟨wr.heap.size, 0, none⟩ 1 1 [.int .i64 (q[j].n : Int)] rfl rfl (newsN wr 3 _) (by simp [Value.oneCell']) (by unfold maxLen; omega) (by omega) ?_
          intro v1 wn hS1 _
          have zt := Sat.tabCell hlt rfl (Sat.up1 hS1)
          rw [hhx] at zt
          have zq := Sat.cell (Sat.up3 hS1) 5
          have zv := Sat.rowCell (Sat.up2 hS1) HV4.out
          obtain ⟨A2, c2, hv1, _⟩ := Sat.row hS1
          subst hv1
          refine hK.out _ _ ?_ (fun hHeld => ?_)
          · exact ⟨zq, zt.1, zv⟩
          clear hK K
          try simp only [Act.put, List.setIfInBounds_toArray, List.set_cons_zero, List.set_cons_succ]
          refine wpAnyN_take (i := 19) (v := ?_) rfl (by kernel_rfl) (by kernel_rfl) (by kernel_rfl) (by kernel_rfl) (fun _ _ _ h => h) (by assumption) (Or.inl ⟨by rfl, ?_⟩) ?_
          rotate_left
          · (intro wq hSw; (try dsimp only at hSw); go_simp; try (with_reducible rfl))
          try simp only [Act.put, List.setIfInBounds_toArray, List.set_cons_zero, List.set_cons_succ]
          refine wpAnyN_last (by kernel_rfl) rfl (by kernel_rfl) (fun K hK => ?_)
          go_simp
          refine hK.out _ _ ?_
          clear hK K
          try simp only [Act.put, List.setIfInBounds_toArray, List.set_cons_zero, List.set_cons_succ]
          have s5 : Sat X _ (rowA 44 6 (.slice (some ⟨gv, 0, none⟩) q.length capv) q.length (q.flatMap mcells) :: netL W p (.slice (some ⟨b, off, none⟩) E.length c) E.length nI ⟨.slice (some ⟨gc, 0, none⟩) E.length capc, vG, vB, vR, .slice (some ⟨gm, 0, none⟩) E.length capm, vX, vH, vF⟩ (mid N number κ (upd (madeTo E N k) k (nums (q.take (j + 1))))) ++ F) :=
            Sat.dn6 (Sat.tabStore (D' := upd (madeTo E N k) k (nums (q.take (j + 1)))) hlt rfl (fun i hi => by
              show upd (madeTo E N k) k (nums (q.take (j + 1))) i = upd (madeTo E N k) k (nums (q.take j)) i
              rw [upd_ne _ _ hi, upd_ne _ _ hi]) (by
              rw [upd_same, nums_take hjq, List.flatMap_append, List.length_append]
              exact hS1))
          generalize hwz : wn.setCell _ _ = wz at s5 ⊢
          clear hwz hS1 zt zq zv xp xv mm2 mm1 hxc x5 hltm
          go_wp2
          go_roundg (q.length - (j + 1))
          case measure => omega
          case rel => exact ⟨j + 1, by omega, by omega, by go_num, s5⟩
        · have hge : (q.length : Int) ≤ (j : Int) := by omega
          obtain rfl : j = q.length := by omega
          have hSb := hS.drop
          rw [List.take_length] at hSb
          clear hS hv4
          obtain ⟨i, hi⟩ : ∃ i, fr E k = i := ⟨_, rfl⟩
          have hin : i < nI := by rw [← hi]; exact Nat.lt_trans (HW.out.lt k hlt) (HW.out.le k hlt)
          have hiz0 : (0 : Int) ≤ (i : Int) := by omega
          have hiz1 : (i : Int) < (nI : Int) := by omega
          have hf' : wr.cell? ⟨b, off + k * 2, none⟩ = some (.int .i64 (i : Int)) := by
            obtain ⟨_, _, b', off', hA, hbo', hff, _⟩ := HEA.out k hlt
            cases hA
            rw [net_old W X wr p _ E nI _ _ _ hSb ⟨b, off + k * 2, none⟩ hbo', hff, hi]
          obtain ⟨gb, capb, hd, hvb, _, hbc, _, s1⟩ := Sat.tab (Sat.up3 hSb) hin
          simp only at hvb
          subst hvb
          obtain ⟨Ab, capb2, hhd, _⟩ := Sat.row s1
          rw [hhd] at hbc
          have hbc : wr.cell? ⟨gb, i, none⟩ = some (.slice Ab (N.box i).length capb2) := hbc
          obtain ⟨j0, _, _, j3, _, _, _, _, _, _, _, jlt⟩ := net_cells W X wr p _ E nI _ _ _ hSb
          try simp only at j0 j3
          have hbl : (N.box i).length ≤ 1000000 := HL1.out i hin
          clear s1 hhd
          go_upto_region 11 with (fail)
          go_region_held3 (fun w' => w'.cell? ⟨p, 3, none⟩ = some (.slice (some ⟨gb, 0, none⟩) nI capb) ∧ w'.cell? ⟨p, 0, none⟩ = some (.slice (some ⟨b, off, none⟩) E.length c) ∧ w'.cell? ⟨b, off + k * 2, none⟩ = some (.int .i64 (i : Int)) ∧ w'.cell? ⟨gb, i, none⟩ = some (.slice Ab (N.box i).length capb2))
            ((simp [j3, j0, hf', hbc]; done))
            (fail)
          go_wp2
          obtain ⟨wp, rfl⟩ : ∃ wp : World, wp = wr := ⟨_, rfl⟩
          have hbc' : wp.drew.cell? ⟨gb, i, none⟩ = some (.slice Ab (N.box i).length capb2) := by simpa using hbc
          have HSB := Lib.hid (And.intro hSb.drew hbc')
          clear hSb hbc hbc' j0 j3 hf'
          go_loopg [10] (N.box i).length (fun gk t wr => ∃ j : Nat, j ≤ (N.box i).length ∧ gk = (N.box i).length - j ∧ t = .int .i64 (j : Int) ∧ Sat X wr (netL W p (.slice (some ⟨b, off, none⟩) E.length c) E.length nI ⟨.slice (some ⟨gc, 0, none⟩) E.length capc, vG, .slice (some ⟨gb, 0, none⟩) nI capb, vR, .slice (some ⟨gm, 0, none⟩) E.length capm, vX, vH, vF⟩ (mid N number κ (upd (madeTo E N k) k (nums q ++ nums (forE ((N.box i).take j) k)))) ++ F) ∧ wr.cell? ⟨gb, i, none⟩ = some (.slice Ab (N.box i).length capb2))
          case atStart =>
            refine ⟨0, Nat.zero_le _, rfl, rfl, ?_, HSB.out.2⟩
            have e0 : nums q ++ nums (forE ((N.box i).take 0) k) = nums q := by simp [nums, forE]
            rw [e0]
            exact HSB.out.1
          case round =>
            obtain ⟨j, hj, rfl, rfl, hS, hbc⟩ := hrel
            have hj0 : (0 : Int) ≤ (j : Int) := by omega
            by_cases hjb : j < (N.box i).length
            · have hjbi : (j : Int) < ((N.box i).length : Int) := by omega
              obtain ⟨gb', capb', hd, hv', _, hbc2, _, s1⟩ := Sat.tab (Sat.up3 hS) hin
              obtain ⟨rfl, _, rfl⟩ := slice_inj hv'
              have hhd : hd i = .slice Ab (N.box i).length capb2 := by
                rw [hbc] at hbc2
                exact (Option.some.inj hbc2).symm
              rw [hhd] at s1
              obtain ⟨Ab', capb3, hvv, _, _, hb3, hb4⟩ := Sat.row s1
              injection hvv with hvA hvL hvC
              clear hvL
              subst hvA
              subst hvC
              rcases Ab with _ | ab
              · exact absurd (show (N.box i).length = 0 from hb3 rfl) (by omega)
              obtain ⟨gq, rfl, hgq, _, _⟩ := hb4 ab rfl
              obtain ⟨y, hyy⟩ : ∃ y, (N.box i)[j] = y := ⟨_, rfl⟩
              have q0i : ((N.box i).flatMap icells)[j * 7 + 0]? = some (.int .i64 (y.1 : Int)) := by
                rw [fm_get (enc := icells) (s := 7) (fun _ => rfl) (N.box i) j hjb 0 (by omega), hyy]
                rfl
              have q5i : ((N.box i).flatMap icells)[j * 7 + 5]? = some (.int .i64 (y.2.n : Int)) := by
                rw [fm_get (enc := icells) (s := 7) (fun _ => rfl) (N.box i) j hjb 5 (by omega), hyy]
                rfl
              have q0 : wr.cell? ⟨gq, j * 7, none⟩ = some (.int .i64 (y.1 : Int)) := Sat.rowCell s1 q0i
              have q5 := Sat.rowCell s1 q5i
              have Q5 := Lib.hid q5i
              have HY := Lib.hid hyy
              clear q5i q0i hyy hb4 hb3
              by_cases hyk : y.1 = k
              · have hyb : ((y.1 : Int) == (k : Int)) = true := by rw [beq_iff_eq]; omega
                have HYK := Lib.hid hyk
                clear hyk
                obtain ⟨gm', capm', hdx, hvx, _, hxc, _, mm1⟩ := Sat.tab (Sat.up6 s1) hlt
                obtain ⟨rfl, _, rfl⟩ := slice_inj hvx
                obtain ⟨ml, hml⟩ : ∃ ml, nums q ++ nums (forE ((N.box i).take j) k) = ml := ⟨_, rfl⟩
                rw [hml] at mm1
                have hup : (mid N number κ (upd (madeTo E N k) k ml)).made k = ml := upd_same _ _ _
                rw [hup] at mm1
                obtain ⟨Ax, capx, hhx, _⟩ := Sat.row mm1
                rw [hhx] at hxc
                have hln : ml.length ≤ 1000004 := by
                  have := forE_len ((N.box i).take j) k
                  rw [List.length_take] at this
                  rw [← hml]
                  unfold nums
                  rw [List.length_append, List.length_map, List.length_map]
                  omega
                have HML := Lib.hid hml
                clear hml
                have x5 := Sat.cell (Sat.up4 mm1) 5
                have hltm := Sat.lt (Sat.up4 mm1)
                clear hup
                go_upto_region 16 with (fail)
                have mm2 := (mm1.alloc (.cells #[.int .i64 (y.2.n : Int)] 3)).drew
                have xp := And.intro (Sat.cell (Sat.up4 mm2) 5) (Sat.tabCell hlt rfl (Sat.up1 mm2)).1
                rw [hhx] at xp
                have xv := Sat.rowCell (Sat.up2 mm2) Q5.out
                refine wp_region_N (S := (fun w' => w'.cell? ⟨p, 5, none⟩ = some (.slice (some ⟨gm, 0, none⟩) E.length capm) ∧ w'.cell? ⟨gm, k, none⟩ = some (.slice Ax ml.length capx) ∧ w'.cell? ⟨gq, j * 7 + 5, none⟩ = some (.int .i64 (y.2.n : Int)))) 21 (by kernel_rfl) ?_ (fun hHeld => ?_)
                · exact ⟨by simpa using x5, by simpa using hxc, by simpa using q5⟩
                refine wpAnyN_take (i := 0) (v := ?_) rfl (by kernel_rfl) (by kernel_rfl) (by kernel_rfl) (by kernel_rfl) (fun _ _ _ h => h) (by assumption) (Or.inl ⟨by rfl, ?_⟩) ?_
                rotate_left
                · (intro wq hSw; (try dsimp only at hSw); go_simp; try (with_reducible rfl))
                try simp only [Act.put, List.setIfInBounds_toArray, List.set_cons_zero, List.set_cons_succ]
                refine wpAnyN_take (i := 1) (v := ?_) rfl (by kernel_rfl) (by kernel_rfl) (by kernel_rfl) (by kernel_rfl) (fun _ _ _ h => h) (by assumption) (Or.inl ⟨by rfl, ?_⟩) ?_
                rotate_left
                · (intro wq hSw; (try dsimp only at hSw); go_simp; try (with_reducible rfl))
                try simp only [Act.put, List.setIfInBounds_toArray, List.set_cons_zero, List.set_cons_succ]
                refine wpAnyN_take (i := 2) (v := ?_) rfl (by kernel_rfl) (by kernel_rfl) (by kernel_rfl) (by kernel_rfl) (fun _ _ _ h => h) (by assumption) (Or.inl ⟨by rfl, ?_⟩) ?_
                rotate_left
                · (intro wq hSw; (try dsimp only at hSw); go_simp; try (with_reducible rfl))
                try simp only [Act.put, List.setIfInBounds_toArray, List.set_cons_zero, List.set_cons_succ]
                refine wpAnyN_take (i := 3) (v := ?_) rfl (by kernel_rfl) (by kernel_rfl) (by kernel_rfl) (by kernel_rfl) (fun _ _ _ h => h) (by assumption) (Or.inl ⟨by rfl, ?_⟩) ?_
                rotate_left
                · (intro wq hSw; (try dsimp only at hSw); go_simp; try (with_reducible rfl))
                try simp only [Act.put, List.setIfInBounds_toArray, List.set_cons_zero, List.set_cons_succ]
                refine wpAnyN_take (i := 4) (v := ?_) rfl (by kernel_rfl) (by kernel_rfl) (by kernel_rfl) (by kernel_rfl) (fun _ _ _ h => h) (by assumption) (Or.inl ⟨by rfl, ?_⟩) ?_
                rotate_left
                · (intro wq hSw; (try dsimp only at hSw); go_simp; try (with_reducible rfl))
                try simp only [Act.put, List.setIfInBounds_toArray, List.set_cons_zero, List.set_cons_succ]
                refine wpAnyN_take (i := 5) (v := ?_) rfl (by kernel_rfl) (by kernel_rfl) (by kernel_rfl) (by kernel_rfl) (fun _ _ _ h => h) (by assumption) (Or.inl ⟨by rfl, ?_⟩) ?_
                rotate_left
                · (intro wq hSw; (try dsimp only at hSw); go_simp; try (with_reducible rfl))
                try simp only [Act.put, List.setIfInBounds_toArray, List.set_cons_zero, List.set_cons_succ]
                refine wpAnyN_take (i := 6) (v := ?_) rfl (by kernel_rfl) (by kernel_rfl) (by kernel_rfl) (by kernel_rfl) (fun _ _ _ h => h) (by assumption) (Or.inl ⟨by rfl, ?_⟩) ?_
                rotate_left
                · (intro wq hSw; (try dsimp only at hSw); go_simp; try (with_reducible rfl))
                try simp only [Act.put, List.setIfInBounds_toArray, List.set_cons_zero, List.set_cons_succ]
                refine wpAnyN_take (i := 7) (v := ?_) rfl (by kernel_rfl) (by kernel_rfl) (by kernel_rfl) (by kernel_rfl) (fun _ _ _ h => h) (by assumption) (Or.inl ⟨by rfl, ?_⟩) ?_
                rotate_left
                · (intro wq hSw; (try dsimp only at hSw); go_simp; try (with_reducible rfl))
                try simp only [Act.put, List.setIfInBounds_toArray, List.set_cons_zero, List.set_cons_succ]
                refine wpAnyN_take (i := 8) (v := ?_) rfl (by kernel_rfl) (by kernel_rfl) (by kernel_rfl) (by kernel_rfl) (fun _ _ _ h => h) (by assumption) (Or.inl ⟨by rfl, ?_⟩) ?_
                rotate_left
                · (intro wq hSw; (try dsimp only at hSw); go_simp; try (with_reducible rfl))
                try simp only [Act.put, List.setIfInBounds_toArray, List.set_cons_zero, List.set_cons_succ]
                refine wpAnyN_take (i := 9) (v := ?_) rfl (by kernel_rfl) (by kernel_rfl) (by kernel_rfl) (by kernel_rfl) (fun _ _ _ h => h) (by assumption) (Or.inl ⟨by rfl, ?_⟩) ?_
                rotate_left
                · (intro wq hSw; (try dsimp only at hSw); go_simp; try (with_reducible rfl))
                try simp only [Act.put, List.setIfInBounds_toArray, List.set_cons_zero, List.set_cons_succ]
                refine wpAnyN_take (i := 10) (v := ?_) rfl (by kernel_rfl) (by kernel_rfl) (by kernel_rfl) (by kernel_rfl) (fun _ _ _ h => h) (by assumption) (Or.inl ⟨by rfl, ?_⟩) ?_
                rotate_left
                · (intro wq hSw; (try dsimp only at hSw); go_simp; try (with_reducible rfl))
                try simp only [Act.put, List.setIfInBounds_toArray, List.set_cons_zero, List.set_cons_succ]
                refine wpAnyN_take (i := 11) (v := ?_) rfl (by kernel_rfl) (by kernel_rfl) (by kernel_rfl) (by kernel_rfl) (fun _ _ _ h => h) (by assumption) (Or.inl ⟨by rfl, ?_⟩) ?_
                rotate_left
                · (intro wq hSw; (try dsimp only at hSw); go_simp; try (with_reducible rfl))
                try simp only [Act.put, List.setIfInBounds_toArray, List.set_cons_zero, List.set_cons_succ]
                refine wpAnyN_take (i := 12) (v := ?_) rfl (by kernel_rfl) (by kernel_rfl) (by kernel_rfl) (by kernel_rfl) (fun _ _ _ h => h) (by assumption) (Or.inl ⟨by rfl, ?_⟩) ?_
                rotate_left
                · (intro wq hSw; (try dsimp only at hSw); go_simp; try (with_reducible rfl))
                try simp only [Act.put, List.setIfInBounds_toArray, List.set_cons_zero, List.set_cons_succ]
                refine wpAnyN_take (i := 13) (v := ?_) rfl (by kernel_rfl) (by kernel_rfl) (by kernel_rfl) (by kernel_rfl) (fun _ _ _ h => h) (by assumption) (Or.inl ⟨by rfl, ?_⟩) ?_
                rotate_left
                · (intro wq hSw; (try dsimp only at hSw); go_simp; try (with_reducible rfl))
                try simp only [Act.put, List.setIfInBounds_toArray, List.set_cons_zero, List.set_cons_succ]
                refine wpAnyN_take (i := 14) (v := ?_) rfl (by kernel_rfl) (by kernel_rfl) (by kernel_rfl) (by kernel_rfl) (fun _ _ _ h => h) (by assumption) (Or.inl ⟨by rfl, ?_⟩) ?_
                rotate_left
                · (intro wq hSw; (try dsimp only at hSw); go_simp; try (with_reducible rfl))
                try simp only [Act.put, List.setIfInBounds_toArray, List.set_cons_zero, List.set_cons_succ]
                refine wpAnyN_take (i := 15) (v := ?_) rfl (by kernel_rfl) (by kernel_rfl) (by kernel_rfl) (by kernel_rfl) (fun _ _ _ h => h) (by assumption) (Or.inl ⟨by rfl, ?_⟩) ?_
                rotate_left
                · (intro wq hSw; (try dsimp only at hSw); go_simp; try (with_reducible rfl))
                try simp only [Act.put, List.setIfInBounds_toArray, List.set_cons_zero, List.set_cons_succ]
                refine wpAnyN_take (i := 16) (v := ?_) rfl (by kernel_rfl) (by kernel_rfl) (by kernel_rfl) (by kernel_rfl) (fun _ _ _ h => h) (by assumption) (Or.inl ⟨by rfl, ?_⟩) ?_
                rotate_left
                · (intro wq hSw; (try dsimp only at hSw); go_simp; try (with_reducible rfl))
                try simp only [Act.put, List.setIfInBounds_toArray, List.set_cons_zero, List.set_cons_succ]
                refine wpAnyN_take (i := 17) (v := ?_) rfl (by kernel_rfl) (by kernel_rfl) (by kernel_rfl) (by kernel_rfl) (fun _ _ _ h => h) (by assumption) (Or.inl ⟨by rfl, ?_⟩) ?_
                rotate_left
                · (intro wq hSw; (try dsimp only at hSw); go_simp; try (with_reducible rfl))
                try simp only [Act.put, List.setIfInBounds_toArray, List.set_cons_zero, List.set_cons_succ]
                refine wpAnyN_one (i := 18) (by kernel_rfl) rfl (fun K hK => ?_)
                go_simp
                refine hK.out _ _ ?_ (fun hHeld => ?_)
                · exact ⟨xp.1, xp.2, xv⟩
                clear hK K
                try simp only [Act.put, List.setIfInBounds_toArray, List.set_cons_zero, List.set_cons_succ]
                refine wpAnyN_one (i := 19) (by kernel_rfl) rfl (fun K hK => ?_)
                refine step_append_sep rfl (.tmp 103) (.tmp 110) 58 rfl i0 _ 8 Try.underlying58 hi0 hz0 hz1 hz2 rfl (by decide) hhx.symm mm2 ⟨wr.heap.size, 0, none⟩ 1 1 [.int .i64 (y.2.n : Int)] rfl rfl (newsN wr 3 _) (by simp [Value.oneCell']) (by unfold maxLen; omega) (by omega) ?_
                intro v1 wn hS1 _
                have zt := Sat.tabCell hlt rfl (Sat.up1 hS1)
                rw [hhx] at zt
                have zq := Sat.cell (Sat.up4 hS1) 5
                have zv := Sat.rowCell (Sat.up2 hS1) Q5.out
                obtain ⟨A2, c2, hv1, _⟩ := Sat.row hS1
                subst hv1
                refine hK.out _ _ ?_ (fun hHeld => ?_)
                · exact ⟨zq, zt.1, zv⟩
                clear hK K
                try simp only [Act.put, List.setIfInBounds_toArray, List.set_cons_zero, List.set_cons_succ]
                refine wpAnyN_take (i := 20) (v := ?_) rfl (by kernel_rfl) (by kernel_rfl) (by kernel_rfl) (by kernel_rfl) (fun _ _ _ h => h) (by assumption) (Or.inl ⟨by rfl, ?_⟩) ?_
                rotate_left
                · (intro wq hSw; (try dsimp only at hSw); go_simp; try (with_reducible rfl))
                try simp only [Act.put, List.setIfInBounds_toArray, List.set_cons_zero, List.set_cons_succ]
                refine wpAnyN_last (by kernel_rfl) rfl (by kernel_rfl) (fun K hK => ?_)
                go_simp
                refine hK.out _ _ ?_
                clear hK K
                try simp only [Act.put, List.setIfInBounds_toArray, List.set_cons_zero, List.set_cons_succ]
                have hD : ∀ i', i' ≠ k → upd (madeTo E N k) k (nums q ++ nums (forE ((N.box i).take (j + 1)) k)) i' = (mid N number κ (upd (madeTo E N k) k ml)).made i' := fun i' hi' => by
                  show _ = upd (madeTo E N k) k ml i'
                  rw [upd_ne _ _ hi', upd_ne _ _ hi']
                have hL : nums q ++ nums (forE ((N.box i).take (j + 1)) k) = ml ++ [y.2.n] := by
                  rw [forE_take_yes hjb (by rw [HY.out]; exact HYK.out), HY.out, nums_append, ← List.append_assoc, HML.out]
                  rfl
                have s5 := Sat.dn6 (Sat.tabStore (D' := upd (madeTo E N k) k (nums q ++ nums (forE ((N.box i).take (j + 1)) k))) hlt rfl hD (by
                  rw [upd_same, hL, List.flatMap_append, List.length_append]
                  exact hS1))
                have hbc5 := (Sat.tabCell hin rfl (Sat.up1 s5)).1
                rw [hhd] at hbc5
                have s6 : Sat X _ (netL W p (.slice (some ⟨b, off, none⟩) E.length c) E.length nI ⟨.slice (some ⟨gc, 0, none⟩) E.length capc, vG, .slice (some ⟨gb, 0, none⟩) nI capb, vR, .slice (some ⟨gm, 0, none⟩) E.length capm, vX, vH, vF⟩ (mid N number κ (upd (madeTo E N k) k (nums q ++ nums (forE ((N.box i).take (j + 1)) k)))) ++ F) :=
                  Sat.dn3 (Sat.tabBack (hd := hd) hin (by rw [hhd]; exact s5))
                generalize hwz : wn.setCell _ _ = wz at s6 hbc5 ⊢
                clear hwz s5 hS1 zt zq zv xp xv mm2 mm1 hxc x5 hltm s1 q0 q5
                go_wp2
                go_roundg ((N.box i).length - (j + 1))
                case measure => omega
                case rel => exact ⟨j + 1, by omega, by omega, by go_num, s6, hbc5⟩
              · have hyb : ((y.1 : Int) == (k : Int)) = false := by rw [beq_eq_false_iff_ne]; omega
                have HYK := Lib.hid hyk
                clear hyk
                go_wp2
                go_roundg ((N.box i).length - (j + 1))
                case measure => omega
                case rel => exact ⟨j + 1, by omega, by omega, by go_num, by rw [forE_take_no hjb (by rw [HY.out]; exact HYK.out)]; exact hS, hbc⟩
            · have hge : ((N.box i).length : Int) ≤ (j : Int) := by omega
              obtain rfl : j = (N.box i).length := by omega
              rw [List.take_length] at hS
              go_wp2
              go_roundg (E.length - (k + 1))
              case measure => omega
              case rel =>
                refine ⟨k + 1, by omega, by omega, by go_num, ?_⟩
                rw [madeTo_succ, str, hi, nums_append, HQ.out]
                exact hS
    · have hge : (E.length : Int) ≤ (k : Int) := by omega
      obtain rfl : k = E.length := by omega
      clear hlt
      obtain ⟨ag, capg, hvg, hg1, hg2⟩ := Sat.ptrsLen (Sat.up2 hS)
      have k0 := (net_cells W X wr p _ E nI V _ F hS).1
      have k2 := (net_cells W X wr p _ E nI V _ F hS).2.2.1
      rw [hvg] at k2
      go_wp2
      obtain ⟨wo, rfl⟩ : ∃ wo : World, wo = wr := ⟨_, rfl⟩
      have HS := Lib.hid hS
      clear hS k0 k2
      obtain ⟨M, hM⟩ : ∃ M, mid N number κ (madeTo E N E.length) = M := ⟨_, rfl⟩
      have HM := Lib.hid hM
      go_loopg [11] nI (fun gk t wr => ∃ i : Nat, i ≤ nI ∧ gk = nI - i ∧ t = .int .i64 (i : Int) ∧ Sat X wr (netL W p (.slice A E.length c) E.length nI V (reports E M i) ++ F))
      case atStart => exact ⟨0, Nat.zero_le _, rfl, rfl, by rw [← hM]; exact HS.out⟩
      case round =>
        obtain ⟨i, hi, rfl, rfl, hS⟩ := hrel
        have hi0' : (0 : Int) ≤ (i : Int) := by omega
        have k0 := (net_cells W X wr p _ E nI V _ F hS).1
        have k2 := (net_cells W X wr p _ E nI V _ F hS).2.2.1
        rw [hvg] at k2
        by_cases hlt : i < nI
        · have hlti : (i : Int) < (nI : Int) := by omega
          obtain ⟨r1, r2⟩ := reports_facts (E := E) (M := M) (B := 1000000) (nI := nI) (by rw [← HM.out]; exact HL1.out) (by rw [← HM.out]; intro e; rfl) i hi
          have hsrc := source_ok W X wr p _ E nI V _ F i HE.out hS
          have hrep := report_ok W X wr p _ E nI V _ F i hlt hn5 HE.out (by rw [r1 i (Nat.le_refl _), ← HM.out]; have := HL1.out i hlt; exact Nat.le_trans this (by omega)) (fun e _ => Nat.le_trans (r2 e) (by omega)) (fun y hy => by rw [r1 i (Nat.le_refl _), ← HM.out] at hy; exact (HI.out.brng i hlt y hy).1) hS
          have HR := Lib.hid hrep
          cases hs : source E i with
          | true =>
            rw [hs] at hsrc
            have HS1 := Lib.hid hsrc
            have HSS := Lib.hid hs
            clear hsrc hrep hs
            go_wp2_with (first | ((go_at_call 6; (with_reducible refine HS1.out.mono ?_); rintro e' w4 ⟨rfl, rfl⟩)) | ((go_at_call 26; (with_reducible refine HR.out.mono ?_); rintro e' w5 ⟨rfl, s5⟩)))
            go_roundg (nI - (i + 1))
            case measure => omega
            case rel => exact ⟨i + 1, by omega, by omega, by go_num, by rw [reports, if_pos HSS.out]; exact s5⟩
          | false =>
            rw [hs] at hsrc
            have HS1 := Lib.hid hsrc
            have HSS := Lib.hid hs
            clear hsrc hrep hs
            go_wp2_with ((go_at_call 6; (with_reducible refine HS1.out.mono ?_); rintro e' w4 ⟨rfl, rfl⟩))
            go_roundg (nI - (i + 1))
            case measure => omega
            case rel => exact ⟨i + 1, by omega, by omega, by go_num, by rw [reports, if_neg (by rw [HSS.out]; simp)]; exact hS⟩
        · have hge : (nI : Int) ≤ (i : Int) := by omega
          obtain rfl : i = nI := by omega
          go_wp2
          go_end0
          refine ⟨rfl, ?_⟩
          rw [← HM.out] at hS
          exact hS
end
end Go.Proofs.Ytacklfjpbboijaa
