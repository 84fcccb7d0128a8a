/-
  CheckpointCut, walks: produce.
-/
import Derived.Test.YtacklfjpbboijaaCkCons
import Derived.Test.YtacklfjpbboijaaReg
import Derived.Deep.DeepCutAuto
import Derived.Deep.LoopGhost
namespace Go.Proofs.Ytacklfjpbboijaa
open Go.RowKit Go.Sep Go.Ck

theorem Try.infoT : (Try.prog.info? 57).map (fun i => (i.zero, i.size, i.bytes)) = some (some (.agg #[.int .i64 0, .int .i64 0, .int .i64 0, .int .i64 0, .int .i64 0, .int .i64 0, .slice none 0 0]), 7, 72) := by kernel_rfl
theorem newsN (w : World) (T : TypeId) (L : List Value) : ∀ (j : Nat) (u : Value), L[j]? = some u → (w.alloc (.cells L.toArray T)).cell? ((⟨w.heap.size, 0, none⟩ : Addr).add j) = some u := by
  intro j u hu
  have hadd : (⟨w.heap.size, 0, none⟩ : Addr).add j = ⟨w.heap.size, j, none⟩ := by unfold Addr.add; split <;> simp_all
  rw [hadd, cell_of_row _ w.heap.size j _ T (0, 0) (heap_alloc_new w _)]
  simpa using hu

section
variable {E : Edges} {N : Net} {i k : Nat} {m : Msg}
theorem produceTo_no (h : fr E k ≠ i) : produceTo E N i m (k + 1) = produceTo E N i m k := by
  unfold produceTo
  rw [outsTo_succ, if_neg h, List.append_nil]
  have hc : ∀ e, (e < k + 1 ∧ fr E e = i ∧ N.rep i = false) ↔ (e < k ∧ fr E e = i ∧ N.rep i = false) := fun e =>
    ⟨fun ⟨h1, h2, h3⟩ => ⟨by rcases Nat.lt_or_ge e k with h4 | h4; exact h4; exact absurd (by rw [show e = k by omega] at h2; exact h2) h, h2, h3⟩, fun ⟨h1, h2, h3⟩ => ⟨by omega, h2, h3⟩⟩
  simp only [hc]
theorem produceTo_yes (h : fr E k = i) : produceTo E N i m (k + 1) = { produceTo E N i m k with box := upd (produceTo E N i m k).box i ((produceTo E N i m k).box i ++ [(k, m)]), made := if N.rep i = true then (produceTo E N i m k).made else upd (produceTo E N i m k).made k ((produceTo E N i m k).made k ++ [m.n]) } := by
  unfold produceTo
  rw [outsTo_succ, if_pos h]
  simp only [upd_same, Net.mk.injEq, true_and, and_true, List.map_append, List.map_cons, List.map_nil]
  refine ⟨?_, ?_⟩
  · funext j
    by_cases hj : j = i
    · subst hj; simp [upd_same]
    · simp [upd_ne _ _ hj]
  · funext e
    by_cases hr : N.rep i = true
    · simp [hr]
    · have hr' : N.rep i = false := by simpa using hr
      rw [if_neg hr]
      by_cases hek : e = k
      · subst hek
        rw [upd_same, if_pos ⟨by omega, h, hr'⟩, if_neg (fun hh => by omega)]
      · rw [upd_ne _ _ hek]
        have hc : (e < k + 1 ∧ fr E e = i ∧ N.rep i = false) ↔ (e < k ∧ fr E e = i ∧ N.rep i = false) :=
          ⟨fun ⟨h1, h2, h3⟩ => ⟨by omega, h2, h3⟩, fun ⟨h1, h2, h3⟩ => ⟨by omega, h2, h3⟩⟩
        simp only [hc]
theorem produceTo_zero : produceTo E N i m 0 = N := by
  unfold produceTo outsTo
  simp [upd_self]
theorem produceTo_rep (n : Nat) : (produceTo E N i m n).rep = N.rep := rfl
end

section
variable (W X w : World) (p : Nat) (vE : Value) (E : Edges) (nI : Nat) (V : Hdr) (N : Net) (F : List Asn)

set_option maxRecDepth 100000 in
set_option maxHeartbeats 4000000 in
theorem produce_ok (i : Nat) (hi : i < nI) (m : Msg) (hn5 : nI ≤ 5) (hE : EdgesAt W vE E) (hb : (N.box i).length ≤ 10000000) (hm : ∀ e, e < E.length → (N.made e).length ≤ 10000000) (h : Sat X w (netL W p vE E.length nI V N ++ F)) :
    Calls Try.prog 8 #[.pointer (some ⟨p, 0, none⟩), .int .i64 (i : Int), msgv m] w fun r w' =>
    r = .returned (.tuple #[]) ∧ Sat X w' (netL W p vE E.length nI V (produce E N i m) ++ F) := by
  obtain ⟨hE6, A, c, rfl, hc, hE⟩ := hE
  obtain ⟨i0, hi0, hz0, hz1, hz2⟩ := info_parts Try.infoI
  obtain ⟨i7, hi7, hy0, hy1, hy2⟩ := info_parts Try.infoT
  have hE6' : (E.length : Int) ≤ 6 := by omega
  have hi00 : (0 : Int) ≤ (i : Int) := by omega
  have hi1 : (i : Int) < (nI : Int) := by omega
  rw [msgv_code]
  have h0 : Sat X _ (netL W p (.slice A E.length c) E.length nI V N ++ _) := (h.newBlk 44 #[.int .i64 (code m).1, .int .i64 0, .int .i64 0, .int .i64 0, .int .i64 (code m).2, .slice none 0 0]).perm List.perm_middle.symm
  have HE := Lib.hid hE
  have HBL := Lib.hid hb
  have HML := Lib.hid hm
  clear hE hb hm h
  obtain ⟨gr, capr, hvr, _, _, _, _, _⟩ := Sat.rowAt (Sat.up4 h0) (by omega)
  obtain ⟨gb, capb, _, hvb, hb1, hb2, _, _, _⟩ := Sat.tabHdr (Sat.up3 h0) hi
  obtain ⟨vC, vG, vB, vR, vM, vX, vH, vF⟩ := V
  simp only at hvr hvb
  subst hvr hvb
  obtain ⟨B0, hB0⟩ : ∃ B0, B0 = w.heap.size := ⟨_, rfl⟩
  rw [← hB0] at h0
  have H0 := Lib.hid h0
  clear h0
  go_enter Try.func8, Try.ntmps8
  go_wp2
  rw [← hB0]
  have HB0 := Lib.hid hB0
  clear hB0
  go_loopg [6] E.length (fun gk t wr => ∃ k : Nat, k ≤ E.length ∧ gk = E.length - k ∧ t = .int .i64 (k : Int) ∧ Sat X wr (netL W p (.slice A E.length c) E.length nI ⟨vC, vG, .slice (some ⟨gb, 0, none⟩) nI capb, .slice (some ⟨gr, 0, none⟩) nI capr, vM, vX, vH, vF⟩ (produceTo E N i m k) ++ blk B0 44 #[.int .i64 (code m).1, .int .i64 0, .int .i64 0, .int .i64 0, .int .i64 (code m).2, .slice none 0 0] :: F))
  case atStart => exact ⟨0, Nat.zero_le _, rfl, rfl, by rw [produceTo_zero]; exact H0.out⟩
  case round =>
    obtain ⟨k, hk, rfl, rfl, hS⟩ := hrel
    have hk0 : (0 : Int) ≤ (k : Int) := by omega
    obtain ⟨j0, _, _, j3, j4, j5, _, _, _, _, _, _⟩ := net_cells W X wr p _ E nI _ _ _ hS
    try simp only at j3 j4 j5
    have ho := Lib.hid (net_old W X wr p _ E nI _ _ _ hS)
    have hB := Sat.cell (hS.perm List.perm_middle)
    by_cases hlt : k < E.length
    · have hlti : (k : Int) < (E.length : Int) := by omega
      obtain ⟨hf5, _, b, off, hA, hbo, hf, _⟩ := HE.out k hlt
      subst hA
      have hf' := ho.out ⟨b, off + k * 2, none⟩ hbo
      rw [hf] at hf'
      clear hf ho
      by_cases heq : fr E k = i
      · have hb1' : ((fr E k : Int) == (i : Int)) = true := by rw [beq_iff_eq]; omega
        have HQ := Lib.hid heq
        clear heq
        have hbl : ((produceTo E N i m k).box i).length ≤ 10000006 := by
          have := HBL.out
          have h2 := outs_le (E := E) i k
          simp only [produceTo, upd_same, List.length_append, List.length_map]
          omega
        obtain ⟨gb', capb', hd, hv', _, hbc, _, s1⟩ := Sat.tab (Sat.up3 hS) hi
        obtain ⟨rfl, _, rfl⟩ := slice_inj hv'
        obtain ⟨Ab, capr2, hhd, _⟩ := Sat.row s1
        have hltw := Sat.lt (Sat.up2 s1)
        have hltB := Sat.lt (Sat.up11 s1)
        rw [hhd] at hbc
        go_upto_region 5 with (fail)
        have s2 := ((s1.alloc (.cells #[.int .i64 (k : Int), .int .i64 (code m).1, .int .i64 0, .int .i64 0, .int .i64 0, .int .i64 (code m).2, .slice none 0 0] 57)).drew)
        have zp := And.intro (Sat.cell (Sat.up2 s2) 3) (And.intro (Sat.tabCell hi rfl (Sat.up1 s2)).1 (Sat.cell (Sat.up11 s2)))
        rw [hhd] at zp
        · skip
          refine wp_region_N (S := (fun w' => w'.cell? ⟨p, 3, none⟩ = some (.slice (some ⟨gb, 0, none⟩) nI capb) ∧ w'.cell? ⟨gb, i, none⟩ = some (.slice Ab ((produceTo E N i m k).box i).length capr2) ∧ (∀ q, w'.cell? ⟨B0, q, none⟩ = #[.int .i64 (code m).1, .int .i64 0, .int .i64 0, .int .i64 0, .int .i64 (code m).2, .slice none 0 0][q]?))) 18 (by kernel_rfl) ?_ (fun hHeld => ?_)
          · exact ⟨by simpa using j3, by simpa using hbc, fun q => by simpa using hB q⟩
          refine wpAnyN_take (i := 0) (v := ?_) rfl (by kernel_rfl) (by kernel_rfl) (by kernel_rfl) (by kernel_rfl) (fun _ _ _ h => h) (by assumption) (Or.inl ⟨by rfl, ?_⟩) ?_
          rotate_left
          · (intro wq hSw; (try dsimp only at hSw); go_simp; try (with_reducible rfl))
          try simp only [Act.put, List.setIfInBounds_toArray, List.set_cons_zero, List.set_cons_succ]
          refine wpAnyN_take (i := 1) (v := ?_) rfl (by kernel_rfl) (by kernel_rfl) (by kernel_rfl) (by kernel_rfl) (fun _ _ _ h => h) (by assumption) (Or.inl ⟨by rfl, ?_⟩) ?_
          rotate_left
          · (intro wq hSw; (try dsimp only at hSw); go_simp; try (with_reducible rfl))
          try simp only [Act.put, List.setIfInBounds_toArray, List.set_cons_zero, List.set_cons_succ]
          refine wpAnyN_take (i := 2) (v := ?_) rfl (by kernel_rfl) (by kernel_rfl) (by kernel_rfl) (by kernel_rfl) (fun _ _ _ h => h) (by assumption) (Or.inl ⟨by rfl, ?_⟩) ?_
          rotate_left
          · (intro wq hSw; (try dsimp only at hSw); go_simp; try (with_reducible rfl))
          try simp only [Act.put, List.setIfInBounds_toArray, List.set_cons_zero, List.set_cons_succ]
          refine wpAnyN_take (i := 3) (v := ?_) rfl (by kernel_rfl) (by kernel_rfl) (by kernel_rfl) (by kernel_rfl) (fun _ _ _ h => h) (by assumption) (Or.inl ⟨by rfl, ?_⟩) ?_
          rotate_left
          · (intro wq hSw; (try dsimp only at hSw); go_simp; try (with_reducible rfl))
          try simp only [Act.put, List.setIfInBounds_toArray, List.set_cons_zero, List.set_cons_succ]
          refine wpAnyN_take (i := 4) (v := ?_) rfl (by kernel_rfl) (by kernel_rfl) (by kernel_rfl) (by kernel_rfl) (fun _ _ _ h => h) (by assumption) (Or.inl ⟨by rfl, ?_⟩) ?_
          rotate_left
          · (intro wq hSw; (try dsimp only at hSw); go_simp; try (with_reducible rfl))
          try simp only [Act.put, List.setIfInBounds_toArray, List.set_cons_zero, List.set_cons_succ]
          refine wpAnyN_take (i := 5) (v := ?_) rfl (by kernel_rfl) (by kernel_rfl) (by kernel_rfl) (by kernel_rfl) (fun _ _ _ h => h) (by assumption) (Or.inl ⟨by rfl, ?_⟩) ?_
          rotate_left
          · (intro wq hSw; (try dsimp only at hSw); go_simp; try (with_reducible rfl))
          try simp only [Act.put, List.setIfInBounds_toArray, List.set_cons_zero, List.set_cons_succ]
          refine wpAnyN_take (i := 6) (v := ?_) rfl (by kernel_rfl) (by kernel_rfl) (by kernel_rfl) (by kernel_rfl) (fun _ _ _ h => h) (by assumption) (Or.inl ⟨by rfl, ?_⟩) ?_
          rotate_left
          · (intro wq hSw; (try dsimp only at hSw); go_simp; try (with_reducible rfl))
          try simp only [Act.put, List.setIfInBounds_toArray, List.set_cons_zero, List.set_cons_succ]
          refine wpAnyN_take (i := 7) (v := ?_) rfl (by kernel_rfl) (by kernel_rfl) (by kernel_rfl) (by kernel_rfl) (fun _ _ _ h => h) (by assumption) (Or.inl ⟨by rfl, ?_⟩) ?_
          rotate_left
          · (intro wq hSw; (try dsimp only at hSw); go_simp; try (with_reducible rfl))
          try simp only [Act.put, List.setIfInBounds_toArray, List.set_cons_zero, List.set_cons_succ]
          refine wpAnyN_take (i := 8) (v := ?_) rfl (by kernel_rfl) (by kernel_rfl) (by kernel_rfl) (by kernel_rfl) (fun _ _ _ h => h) (by assumption) (Or.inl ⟨by rfl, ?_⟩) ?_
          rotate_left
          · (intro wq hSw; (try dsimp only at hSw); go_simp; try (with_reducible rfl))
          try simp only [Act.put, List.setIfInBounds_toArray, List.set_cons_zero, List.set_cons_succ]
          refine wpAnyN_take (i := 9) (v := ?_) rfl (by kernel_rfl) (by kernel_rfl) (by kernel_rfl) (by kernel_rfl) (fun _ _ _ h => h) (by assumption) (Or.inl ⟨by rfl, ?_⟩) ?_
          rotate_left
          · (intro wq hSw; (try dsimp only at hSw); go_simp; try (with_reducible rfl))
          try simp only [Act.put, List.setIfInBounds_toArray, List.set_cons_zero, List.set_cons_succ]
          refine wpAnyN_take (i := 10) (v := ?_) rfl (by kernel_rfl) (by kernel_rfl) (by kernel_rfl) (by kernel_rfl) (fun _ _ _ h => h) (by assumption) (Or.inl ⟨by rfl, ?_⟩) ?_
          rotate_left
          · (intro wq hSw; (try dsimp only at hSw); go_simp; try (with_reducible rfl))
          try simp only [Act.put, List.setIfInBounds_toArray, List.set_cons_zero, List.set_cons_succ]
          refine wpAnyN_take (i := 11) (v := ?_) rfl (by kernel_rfl) (by kernel_rfl) (by kernel_rfl) (by kernel_rfl) (fun _ _ _ h => h) (by assumption) (Or.inl ⟨by rfl, ?_⟩) ?_
          rotate_left
          · (intro wq hSw; (try dsimp only at hSw); go_simp; try (with_reducible rfl))
          try simp only [Act.put, List.setIfInBounds_toArray, List.set_cons_zero, List.set_cons_succ]
          refine wpAnyN_take (i := 12) (v := ?_) rfl (by kernel_rfl) (by kernel_rfl) (by kernel_rfl) (by kernel_rfl) (fun _ _ _ h => h) (by assumption) (Or.inl ⟨by rfl, ?_⟩) ?_
          rotate_left
          · (intro wq hSw; (try dsimp only at hSw); go_simp; try (with_reducible rfl))
          try simp only [Act.put, List.setIfInBounds_toArray, List.set_cons_zero, List.set_cons_succ]
          refine wpAnyN_take (i := 13) (v := ?_) rfl (by kernel_rfl) (by kernel_rfl) (by kernel_rfl) (by kernel_rfl) (fun _ _ _ h => h) (by assumption) (Or.inl ⟨by rfl, ?_⟩) ?_
          rotate_left
          · (intro wq hSw; (try dsimp only at hSw); go_simp; try (with_reducible rfl))
          try simp only [Act.put, List.setIfInBounds_toArray, List.set_cons_zero, List.set_cons_succ]
          refine wpAnyN_take (i := 14) (v := ?_) rfl (by kernel_rfl) (by kernel_rfl) (by kernel_rfl) (by kernel_rfl) (fun _ _ _ h => h) (by assumption) (Or.inl ⟨by rfl, ?_⟩) ?_
          rotate_left
          · (intro wq hSw; (try dsimp only at hSw); go_simp; try (with_reducible rfl))
          try simp only [Act.put, List.setIfInBounds_toArray, List.set_cons_zero, List.set_cons_succ]
          refine wpAnyN_one (i := 15) (by kernel_rfl) rfl (fun K hK => ?_)
          go_simp
          refine hK.out _ _ ?_ (fun hHeld => ?_)
          · exact ⟨zp.1, zp.2.1, zp.2.2⟩
          clear hK K
          try simp only [Act.put, List.setIfInBounds_toArray, List.set_cons_zero, List.set_cons_succ]
          refine wpAnyN_one (i := 16) (by kernel_rfl) rfl (fun K hK => ?_)
          refine step_append_sep rfl (.tmp 37) (.tmp 41) 33 rfl i7 _ 72 Try.underlying33 hi7 hy0 hy1 hy2 rfl (by decide) hhd.symm s2 ⟨wr.heap.size, 0, none⟩ 1 1 [.int .i64 (k : Int), .int .i64 (code m).1, .int .i64 0, .int .i64 0, .int .i64 0, .int .i64 (code m).2, .slice none 0 0] rfl rfl (newsN wr 57 _) (by simp [Value.oneCell']) (by unfold maxLen; omega) (by omega) ?_
          intro v1 w1 hS1 _
          have zt := Sat.tabCell hi rfl (Sat.up1 hS1)
          rw [hhd] at zt
          have zq := Sat.cell (Sat.up2 hS1) 3
          have zB := Sat.cell (Sat.up11 hS1)
          obtain ⟨A2, c2, hv1, _⟩ := Sat.row hS1
          subst hv1
          refine hK.out _ _ ?_ (fun hHeld => ?_)
          · exact ⟨zq, zt.1, zB⟩
          clear hK K
          try simp only [Act.put, List.setIfInBounds_toArray, List.set_cons_zero, List.set_cons_succ]
          refine wpAnyN_take (i := 17) (v := ?_) rfl (by kernel_rfl) (by kernel_rfl) (by kernel_rfl) (by kernel_rfl) (fun _ _ _ h => h) (by assumption) (Or.inl ⟨by rfl, ?_⟩) ?_
          rotate_left
          · (intro wq hSw; (try dsimp only at hSw); go_simp; try (with_reducible rfl))
          try simp only [Act.put, List.setIfInBounds_toArray, List.set_cons_zero, List.set_cons_succ]
          refine wpAnyN_last (by kernel_rfl) rfl (by kernel_rfl) (fun K hK => ?_)
          go_simp
          refine hK.out _ _ ?_
          clear hK K
          try simp only [Act.put, List.setIfInBounds_toArray, List.set_cons_zero, List.set_cons_succ]
          have s3 : Sat X _ (netL W p (.slice (some ⟨b, off, none⟩) E.length c) E.length nI ⟨vC, vG, .slice (some ⟨gb, 0, none⟩) nI capb, .slice (some ⟨gr, 0, none⟩) nI capr, vM, vX, vH, vF⟩ { produceTo E N i m k with box := upd (produceTo E N i m k).box i ((produceTo E N i m k).box i ++ [(k, m)]) } ++ blk B0 44 #[.int .i64 (code m).1, .int .i64 0, .int .i64 0, .int .i64 0, .int .i64 (code m).2, .slice none 0 0] :: F) :=
            Sat.dn3 (Sat.tabStore (D' := upd (produceTo E N i m k).box i ((produceTo E N i m k).box i ++ [(k, m)])) hi rfl (fun j hj => upd_ne _ _ hj) (by
              rw [upd_same]
              simpa [icells, mcells] using hS1))
          generalize hwy : w1.setCell _ _ = wy at s3 ⊢
          clear hwy hS1 zt zq zB zp s2 s1 hB j3 j4 j5 hS
          obtain ⟨gr', capr', hr', _, _, _, hrc, _⟩ := Sat.rowAt (Sat.up4 s3) (by omega)
          obtain ⟨rfl, _, rfl⟩ := slice_inj hr'
          have hrk := hrc i _ (map_range_get _ hi)
          clear hrc
          obtain ⟨y0, _, _, y3, y4, y5, _, _, _, _, _, _⟩ := net_cells W X wy p _ E nI _ _ _ s3
          try simp only at y3 y4 y5
          have hBy := Sat.cell (s3.perm List.perm_middle)
          simp only [produceTo_rep] at hrk
          by_cases hrep : N.rep i = true
          · rw [hrep] at hrk
            have HR := Lib.hid hrep
            clear hrep
            go_wp2
            go_roundg (E.length - (k + 1))
            case measure => omega
            case rel => exact ⟨k + 1, by omega, by omega, by go_num, by rw [produceTo_yes HQ.out, if_pos HR.out]; exact s3⟩
          · have hrep' : N.rep i = false := by simpa using hrep
            rw [hrep'] at hrk
            have HR := Lib.hid hrep
            clear hrep hrep'
            have hml : ((produceTo E N i m k).made k).length ≤ 10000006 := by
              have := HML.out k hlt
              unfold produceTo
              dsimp only
              split <;> simp <;> omega
            obtain ⟨gm, capm, hdm, hvm, _, hmc, _, m1⟩ := Sat.tab (Sat.up5 s3) hlt
            try simp only at hvm
            subst hvm
            obtain ⟨Am, capm2, hhm, _⟩ := Sat.row m1
            rw [hhm] at hmc
            have hltm := Sat.lt (Sat.up2 m1)
            have hltBm := Sat.lt (Sat.up11 m1)
            go_upto_region 7 with (fail)
            have m2 := (m1.alloc (.cells #[.int .i64 (code m).2] 3)).drew
            have xp := And.intro (Sat.cell (Sat.up2 m2) 5) (And.intro (Sat.tabCell hlt rfl (Sat.up1 m2)).1 (Sat.cell (Sat.up11 m2)))
            rw [hhm] at xp
            refine wp_region_N (S := (fun w' => w'.cell? ⟨p, 5, none⟩ = some (.slice (some ⟨gm, 0, none⟩) E.length capm) ∧ w'.cell? ⟨gm, k, none⟩ = some (.slice Am ((produceTo E N i m k).made k).length capm2) ∧ (∀ q, w'.cell? ⟨B0, q, none⟩ = #[.int .i64 (code m).1, .int .i64 0, .int .i64 0, .int .i64 0, .int .i64 (code m).2, .slice none 0 0][q]?))) 17 (by kernel_rfl) ?_ (fun hHeld => ?_)
            · exact ⟨by simpa using y5, by simpa using hmc, fun q => by simpa using hBy q⟩
            refine wpAnyN_take (i := 0) (v := ?_) rfl (by kernel_rfl) (by kernel_rfl) (by kernel_rfl) (by kernel_rfl) (fun _ _ _ h => h) (by assumption) (Or.inl ⟨by rfl, ?_⟩) ?_
            rotate_left
            · (intro wq hSw; (try dsimp only at hSw); go_simp; try (with_reducible rfl))
            try simp only [Act.put, List.setIfInBounds_toArray, List.set_cons_zero, List.set_cons_succ]
            refine wpAnyN_take (i := 1) (v := ?_) rfl (by kernel_rfl) (by kernel_rfl) (by kernel_rfl) (by kernel_rfl) (fun _ _ _ h => h) (by assumption) (Or.inl ⟨by rfl, ?_⟩) ?_
            rotate_left
            · (intro wq hSw; (try dsimp only at hSw); go_simp; try (with_reducible rfl))
            try simp only [Act.put, List.setIfInBounds_toArray, List.set_cons_zero, List.set_cons_succ]
            refine wpAnyN_take (i := 2) (v := ?_) rfl (by kernel_rfl) (by kernel_rfl) (by kernel_rfl) (by kernel_rfl) (fun _ _ _ h => h) (by assumption) (Or.inl ⟨by rfl, ?_⟩) ?_
            rotate_left
            · (intro wq hSw; (try dsimp only at hSw); go_simp; try (with_reducible rfl))
            try simp only [Act.put, List.setIfInBounds_toArray, List.set_cons_zero, List.set_cons_succ]
            refine wpAnyN_take (i := 3) (v := ?_) rfl (by kernel_rfl) (by kernel_rfl) (by kernel_rfl) (by kernel_rfl) (fun _ _ _ h => h) (by assumption) (Or.inl ⟨by rfl, ?_⟩) ?_
            rotate_left
            · (intro wq hSw; (try dsimp only at hSw); go_simp; try (with_reducible rfl))
            try simp only [Act.put, List.setIfInBounds_toArray, List.set_cons_zero, List.set_cons_succ]
            refine wpAnyN_take (i := 4) (v := ?_) rfl (by kernel_rfl) (by kernel_rfl) (by kernel_rfl) (by kernel_rfl) (fun _ _ _ h => h) (by assumption) (Or.inl ⟨by rfl, ?_⟩) ?_
            rotate_left
            · (intro wq hSw; (try dsimp only at hSw); go_simp; try (with_reducible rfl))
            try simp only [Act.put, List.setIfInBounds_toArray, List.set_cons_zero, List.set_cons_succ]
            refine wpAnyN_take (i := 5) (v := ?_) rfl (by kernel_rfl) (by kernel_rfl) (by kernel_rfl) (by kernel_rfl) (fun _ _ _ h => h) (by assumption) (Or.inl ⟨by rfl, ?_⟩) ?_
            rotate_left
            · (intro wq hSw; (try dsimp only at hSw); go_simp; try (with_reducible rfl))
            try simp only [Act.put, List.setIfInBounds_toArray, List.set_cons_zero, List.set_cons_succ]
            refine wpAnyN_take (i := 6) (v := ?_) rfl (by kernel_rfl) (by kernel_rfl) (by kernel_rfl) (by kernel_rfl) (fun _ _ _ h => h) (by assumption) (Or.inl ⟨by rfl, ?_⟩) ?_
            rotate_left
            · (intro wq hSw; (try dsimp only at hSw); go_simp; try (with_reducible rfl))
            try simp only [Act.put, List.setIfInBounds_toArray, List.set_cons_zero, List.set_cons_succ]
            refine wpAnyN_take (i := 7) (v := ?_) rfl (by kernel_rfl) (by kernel_rfl) (by kernel_rfl) (by kernel_rfl) (fun _ _ _ h => h) (by assumption) (Or.inl ⟨by rfl, ?_⟩) ?_
            rotate_left
            · (intro wq hSw; (try dsimp only at hSw); go_simp; try (with_reducible rfl))
            try simp only [Act.put, List.setIfInBounds_toArray, List.set_cons_zero, List.set_cons_succ]
            refine wpAnyN_take (i := 8) (v := ?_) rfl (by kernel_rfl) (by kernel_rfl) (by kernel_rfl) (by kernel_rfl) (fun _ _ _ h => h) (by assumption) (Or.inl ⟨by rfl, ?_⟩) ?_
            rotate_left
            · (intro wq hSw; (try dsimp only at hSw); go_simp; try (with_reducible rfl))
            try simp only [Act.put, List.setIfInBounds_toArray, List.set_cons_zero, List.set_cons_succ]
            refine wpAnyN_take (i := 9) (v := ?_) rfl (by kernel_rfl) (by kernel_rfl) (by kernel_rfl) (by kernel_rfl) (fun _ _ _ h => h) (by assumption) (Or.inl ⟨by rfl, ?_⟩) ?_
            rotate_left
            · (intro wq hSw; (try dsimp only at hSw); go_simp; try (with_reducible rfl))
            try simp only [Act.put, List.setIfInBounds_toArray, List.set_cons_zero, List.set_cons_succ]
            refine wpAnyN_take (i := 10) (v := ?_) rfl (by kernel_rfl) (by kernel_rfl) (by kernel_rfl) (by kernel_rfl) (fun _ _ _ h => h) (by assumption) (Or.inl ⟨by rfl, ?_⟩) ?_
            rotate_left
            · (intro wq hSw; (try dsimp only at hSw); go_simp; try (with_reducible rfl))
            try simp only [Act.put, List.setIfInBounds_toArray, List.set_cons_zero, List.set_cons_succ]
            refine wpAnyN_take (i := 11) (v := ?_) rfl (by kernel_rfl) (by kernel_rfl) (by kernel_rfl) (by kernel_rfl) (fun _ _ _ h => h) (by assumption) (Or.inl ⟨by rfl, ?_⟩) ?_
            rotate_left
            · (intro wq hSw; (try dsimp only at hSw); go_simp; try (with_reducible rfl))
            try simp only [Act.put, List.setIfInBounds_toArray, List.set_cons_zero, List.set_cons_succ]
            refine wpAnyN_take (i := 12) (v := ?_) rfl (by kernel_rfl) (by kernel_rfl) (by kernel_rfl) (by kernel_rfl) (fun _ _ _ h => h) (by assumption) (Or.inl ⟨by rfl, ?_⟩) ?_
            rotate_left
            · (intro wq hSw; (try dsimp only at hSw); go_simp; try (with_reducible rfl))
            try simp only [Act.put, List.setIfInBounds_toArray, List.set_cons_zero, List.set_cons_succ]
            refine wpAnyN_take (i := 13) (v := ?_) rfl (by kernel_rfl) (by kernel_rfl) (by kernel_rfl) (by kernel_rfl) (fun _ _ _ h => h) (by assumption) (Or.inl ⟨by rfl, ?_⟩) ?_
            rotate_left
            · (intro wq hSw; (try dsimp only at hSw); go_simp; try (with_reducible rfl))
            try simp only [Act.put, List.setIfInBounds_toArray, List.set_cons_zero, List.set_cons_succ]
            refine wpAnyN_one (i := 14) (by kernel_rfl) rfl (fun K hK => ?_)
            go_simp
            refine hK.out _ _ ?_ (fun hHeld => ?_)
            · exact ⟨xp.1, xp.2.1, xp.2.2⟩
            clear hK K
            try simp only [Act.put, List.setIfInBounds_toArray, List.set_cons_zero, List.set_cons_succ]
            refine wpAnyN_one (i := 15) (by kernel_rfl) rfl (fun K hK => ?_)
            refine step_append_sep rfl (.tmp 63) (.tmp 66) 58 rfl i0 _ 8 Try.underlying58 hi0 hz0 hz1 hz2 rfl (by decide) hhm.symm m2 ⟨wy.heap.size, 0, none⟩ 1 1 [.int .i64 (code m).2] rfl rfl (newsN wy 3 _) (by simp [Value.oneCell']) (show ((produceTo E N i m k).made k).length + 1 ≤ maxLen by unfold maxLen; omega) (show (((produceTo E N i m k).made k).length + 1) * 8 ≤ 140737488355328 by omega) ?_
            intro v1 w1 hS1 _
            have zt := Sat.tabCell hlt rfl (Sat.up1 hS1)
            rw [hhm] at zt
            have zq := Sat.cell (Sat.up2 hS1) 5
            have zB := Sat.cell (Sat.up11 hS1)
            obtain ⟨A2, c2, hv1, _⟩ := Sat.row hS1
            subst hv1
            refine hK.out _ _ ?_ (fun hHeld => ?_)
            · exact ⟨zq, zt.1, zB⟩
            clear hK K
            try simp only [Act.put, List.setIfInBounds_toArray, List.set_cons_zero, List.set_cons_succ]
            refine wpAnyN_take (i := 16) (v := ?_) rfl (by kernel_rfl) (by kernel_rfl) (by kernel_rfl) (by kernel_rfl) (fun _ _ _ h => h) (by assumption) (Or.inl ⟨by rfl, ?_⟩) ?_
            rotate_left
            · (intro wq hSw; (try dsimp only at hSw); go_simp; try (with_reducible rfl))
            try simp only [Act.put, List.setIfInBounds_toArray, List.set_cons_zero, List.set_cons_succ]
            refine wpAnyN_last (by kernel_rfl) rfl (by kernel_rfl) (fun K hK => ?_)
            go_simp
            refine hK.out _ _ ?_
            clear hK K
            try simp only [Act.put, List.setIfInBounds_toArray, List.set_cons_zero, List.set_cons_succ]
            have s4 : Sat X _ (netL W p (.slice (some ⟨b, off, none⟩) E.length c) E.length nI ⟨vC, vG, .slice (some ⟨gb, 0, none⟩) nI capb, .slice (some ⟨gr, 0, none⟩) nI capr, .slice (some ⟨gm, 0, none⟩) E.length capm, vX, vH, vF⟩ { produceTo E N i m k with box := upd (produceTo E N i m k).box i ((produceTo E N i m k).box i ++ [(k, m)]), made := upd (produceTo E N i m k).made k ((produceTo E N i m k).made k ++ [m.n]) } ++ blk B0 44 #[.int .i64 (code m).1, .int .i64 0, .int .i64 0, .int .i64 0, .int .i64 (code m).2, .slice none 0 0] :: F) :=
              Sat.dn5 (Sat.tabStore (D' := upd (produceTo E N i m k).made k ((produceTo E N i m k).made k ++ [m.n])) hlt rfl (fun j hj => upd_ne _ _ hj) (by
                rw [upd_same]
                simpa [ncell, code] using hS1))
            generalize hwz : w1.setCell _ _ = wz at s4 ⊢
            clear hwz hS1 zt zq zB xp m2 m1 hBy y3 y4 y5 s3
            go_wp2
            go_roundg (E.length - (k + 1))
            case measure => omega
            case rel => exact ⟨k + 1, by omega, by omega, by go_num, by rw [produceTo_yes HQ.out, if_neg HR.out]; exact s4⟩
      · have hb1' : ((fr E k : Int) == (i : Int)) = false := by rw [beq_eq_false_iff_ne]; omega
        have HQ := Lib.hid heq
        clear heq
        go_wp2
        go_roundg (E.length - (k + 1))
        case measure => omega
        case rel => exact ⟨k + 1, by omega, by omega, by go_num, by rw [produceTo_no HQ.out]; exact hS⟩
    · have hge : (E.length : Int) ≤ (k : Int) := by omega
      have HK := Lib.hid (show k = E.length by omega)
      go_wp2
      go_end0
      have hk' := HK.out
      subst hk'
      exact ⟨rfl, (hS.perm List.perm_middle).drop⟩
end
end Go.Proofs.Ytacklfjpbboijaa
