/-
  CheckpointCut, walks: report.
-/
import Derived.Test.YtacklfjpbboijaaCkProd
namespace Go.Proofs.Ytacklfjpbboijaa
open Go.RowKit Go.Sep Go.Ck

section
variable {E : Edges} {N : Net} {i k : Nat}
theorem firsts_no (h : fr E k ≠ i) : firsts E N i (k + 1) = firsts E N i k := by
  unfold firsts
  rw [outsTo_succ, if_neg h, List.append_nil]
theorem firsts_yes (h : fr E k = i) : firsts E N i (k + 1) = firsts E N i k ++ [(k, ⟨true, N.num⟩)] := by
  unfold firsts
  rw [outsTo_succ, if_pos h, List.map_append]
  rfl
theorem firsts_le (n : Nat) : (firsts E N i n).length ≤ n := by
  unfold firsts
  rw [List.length_map]
  exact outs_le _ _
/-- The boxed marks behind the first j items. -/
def boxedTo (N : Net) (i j : Nat) (e : Nat) : List Nat := N.boxed e ++ nums (forE ((N.box i).take j) e)
theorem boxedTo_zero : boxedTo N i 0 = N.boxed := by
  funext e
  simp [boxedTo, forE, nums]
theorem boxedTo_succ {j : Nat} (h : j < (N.box i).length) : boxedTo N i (j + 1) = upd (boxedTo N i j) (N.box i)[j].1 (boxedTo N i j (N.box i)[j].1 ++ [(N.box i)[j].2.n]) := by
  funext e
  unfold boxedTo
  rw [List.take_succ_eq_append_getElem h]
  by_cases he : e = (N.box i)[j].1
  · subst he
    rw [upd_same, forE, List.filter_append, List.map_append]
    simp [nums, forE]
  · rw [upd_ne _ _ he, forE, List.filter_append, List.map_append]
    have : ((N.box i)[j].1 == e) = false := by simpa using fun h => he h.symm
    simp [nums, forE, this]
theorem boxedTo_len (j : Nat) (e : Nat) : (boxedTo N i j e).length ≤ (N.boxed e).length + (N.box i).length := by
  unfold boxedTo nums forE
  rw [List.length_append, List.length_map, List.length_map]
  have h1 := List.length_filter_le (fun y : Nat × Msg => y.1 == e) ((N.box i).take j)
  have h2 : ((N.box i).take j).length ≤ (N.box i).length := by simp; omega
  omega
theorem icells_one {x : Nat × Msg} {u : Value} (h : u ∈ icells x) : u.oneCell' = true := by
  simp only [icells, mcells, List.mem_cons, List.not_mem_nil, or_false] at h
  rcases h with rfl | rfl | rfl | rfl | rfl | rfl | rfl <;> rfl
theorem items_one (L : List (Nat × Msg)) : ∀ u ∈ L.flatMap icells, u.oneCell' = true := fun u hu => by
  obtain ⟨x, _, hx⟩ := List.mem_flatMap.1 hu
  exact icells_one hx
end

section
variable (W X w : World) (p : Nat) (vE : Value) (E : Edges) (nI : Nat) (V : Hdr) (N : Net) (F : List Asn)

set_option maxRecDepth 100000 in
set_option maxHeartbeats 4000000 in
theorem report_ok (i : Nat) (hi : i < nI) (hn5 : nI ≤ 5) (hE : EdgesAt W vE E) (hb : (N.box i).length ≤ 10000000) (hx : ∀ e, e < E.length → (N.boxed e).length ≤ 10000000) (hbe : ∀ y ∈ N.box i, y.1 < E.length) (h : Sat X w (netL W p vE E.length nI V N ++ F)) :
    Calls Try.prog 26 #[.pointer (some ⟨p, 0, none⟩), .int .i64 (i : Int)] w fun r w' =>
    r = .returned (.tuple #[]) ∧ Sat X w' (netL W p vE E.length nI V (report E N i) ++ F) := by
  obtain ⟨hE6, A, c, rfl, hc, hE⟩ := hE
  obtain ⟨i0, hi0, hz0, hz1, hz2⟩ := info_parts Try.infoI
  obtain ⟨i7, hi7, hy0, hy1, hy2⟩ := info_parts Try.infoT
  have hE6' : (E.length : Int) ≤ 6 := by omega
  have hi00 : (0 : Int) ≤ (i : Int) := by omega
  have hi1 : (i : Int) < (nI : Int) := by omega
  have HE := Lib.hid hE
  have HXL := Lib.hid hx
  have HBE := Lib.hid hbe
  clear hE hx hbe
  obtain ⟨gr, capr, hvr, _, _, hgr, hrc, hrf⟩ := Sat.rowAt (Sat.up4 h) (by omega)
  obtain ⟨gb, capb, _, hvb, hb1, hb2, _, _, _⟩ := Sat.tabHdr (Sat.up3 h) hi
  obtain ⟨vC, vG, vB, vR, vM, vX, vH, vF⟩ := V
  simp only at hvr hvb
  subst hvr hvb
  have hrk := hrc i _ (map_range_get _ hi)
  have hrfk := hrf i
  clear hrc hrf
  have h1 : Sat X _ (netL W p (.slice A E.length c) E.length nI ⟨vC, vG, .slice (some ⟨gb, 0, none⟩) nI capb, .slice (some ⟨gr, 0, none⟩) nI capr, vM, vX, vH, vF⟩ { N with rep := upd N.rep i true } ++ F) :=
    Sat.dn4 (repSet (N := N) (N' := { N with rep := upd N.rep i true }) true rfl (upd_same _ _ _) (fun j hj => upd_ne _ _ hj) (Sat.up4 h))
  obtain ⟨N0, hN0⟩ : ∃ N0, N0 = { N with rep := upd N.rep i true } := ⟨_, rfl⟩
  rw [← hN0] at h1
  have HB0 := Lib.hid (show N0.box = N.box by rw [hN0])
  have HX0 := Lib.hid (show N0.boxed = N.boxed by rw [hN0])
  have hK0 : N0.kind = N.kind := by rw [hN0]
  have hM0 : N0.num = N.num := by rw [hN0]
  have HN := Lib.hid hN0
  obtain ⟨j0, _, _, j3, j4, j5, _, _, _, _, _, _⟩ := net_cells W X w p _ E nI _ _ _ h
  try simp only at j4
  have H1 := Lib.hid h1
  clear h h1 hN0
  go_enter Try.func26, Try.ntmps26
  go_wp2
  go_loopg [4, 5] E.length (fun gk v t wr => ∃ k : Nat, k ≤ E.length ∧ gk = E.length - k ∧ t = .int .i64 (k : Int) ∧ Sat X wr (rowA 57 7 v (firsts E N0 i k).length ((firsts E N0 i k).flatMap icells) :: netL W p (.slice A E.length c) E.length nI ⟨vC, vG, .slice (some ⟨gb, 0, none⟩) nI capb, .slice (some ⟨gr, 0, none⟩) nI capr, vM, vX, vH, vF⟩ N0 ++ F))
  case atStart => exact ⟨0, Nat.zero_le _, rfl, rfl, H1.out.rowNil⟩
  case round =>
    obtain ⟨k, hk, rfl, rfl, hS⟩ := hrel
    have hk0 : (0 : Int) ≤ (k : Int) := by omega
    obtain ⟨j0, _, _, j3, j4, j5, _, _, _, j9, j10, _⟩ := net_cells W X wr p _ E nI _ _ _ hS.drop
    try simp only at j3 j4 j5
    have ho := Lib.hid (net_old W X wr p _ E nI _ _ _ hS.drop)
    by_cases hlt : k < E.length
    · have hlti : (k : Int) < (E.length : Int) := by omega
      obtain ⟨hf5, _, b, off, hA, hbo, hf, _⟩ := HE.out k hlt
      subst hA
      have hf' := ho.out ⟨b, off + k * 2, none⟩ hbo
      rw [hf] at hf'
      clear hf ho
      by_cases heq : fr E k = i
      · have hb1' : ((fr E k : Int) == (i : Int)) = true := by rw [beq_iff_eq]; omega
        have HQ := Lib.hid heq
        clear heq
        have hfl := firsts_le (E := E) (N := N0) (i := i) k
        go_wp2_with (first | ((go_at_call 20; (with_reducible refine (barrier_any _ _).mono ?_); rintro e wb ⟨rfl, hxb⟩; have hSb := hS.ext hxb)) | ((at_builtin; refine wpList_append_sep rfl (.tmp 33) (.tmp 41) 33 rfl i7 _ 72 Try.underlying33 hi7 hy0 hy1 hy2 rfl (by decide) rfl (hSb.alloc (.cells #[.int .i64 (k : Int), .int .i64 1, .int .i64 0, .int .i64 0, .int .i64 0, .int .i64 (N.num : Int), .slice none 0 0] 57)) ⟨wb.heap.size, 0, none⟩ 1 1 [.int .i64 (k : Int), .int .i64 1, .int .i64 0, .int .i64 0, .int .i64 0, .int .i64 (N.num : Int), .slice none 0 0] rfl rfl (newsN wb 57 _) (by simp [Value.oneCell']) (by unfold maxLen; omega) (by omega) ?_; intro v1 w1 hS1 _)))
        go_roundg (E.length - (k + 1))
        case measure => omega
        case rel =>
          refine ⟨k + 1, by omega, by omega, by go_num, ?_⟩
          rw [firsts_yes HQ.out]
          simpa [icells, mcells, code, hM0] using hS1
      · have hb1' : ((fr E k : Int) == (i : Int)) = false := by rw [beq_eq_false_iff_ne]; omega
        have HQ := Lib.hid heq
        clear heq
        go_wp2
        go_roundg (E.length - (k + 1))
        case measure => omega
        case rel => exact ⟨k + 1, by omega, by omega, by go_num, by rw [firsts_no HQ.out]; exact hS⟩
    · have hge : (E.length : Int) ≤ (k : Int) := by omega
      have HK := Lib.hid (show k = E.length by omega)
      have hk' := HK.out
      clear HK
      subst hk'
      have hfl := firsts_le (E := E) (N := N0) (i := i) E.length
      obtain ⟨Av, capv, rfl, _, _, hAv, _⟩ := Sat.row hS
      obtain ⟨gb', capb', hd, hv', _, hbc, _, s1⟩ := Sat.tab (Sat.up4 hS) hi
      obtain ⟨rfl, _, rfl⟩ := slice_inj hv'
      obtain ⟨Ab, capr2, hhd, _⟩ := Sat.row s1
      rw [hhd] at hbc
      have hb' : (N0.box i).length ≤ 10000000 := by rw [HB0.out]; exact hb
      by_cases hkd : N.kind = 0
      · have hkd' : ((N.kind : Int) == 0) = true := by rw [beq_iff_eq]; omega
        have HKD := Lib.hid hkd
        clear hkd
        go_upto_region 8 with (fail)
        refine wp_region_N (S := (fun w' => w'.cell? ⟨p, 3, none⟩ = some (.slice (some ⟨gb, 0, none⟩) nI capb) ∧ w'.cell? ⟨gb, i, none⟩ = some (.slice Ab (N0.box i).length capr2))) 15 (by kernel_rfl) ?_ (fun hHeld => ?_)
        · exact ⟨by simpa using j3, by simpa using hbc⟩
        refine wpAnyN_take (i := 0) (v := ?_) rfl (by kernel_rfl) (by kernel_rfl) (by kernel_rfl) (by kernel_rfl) (fun _ _ _ h => h) (by assumption) (Or.inl ⟨by rfl, ?_⟩) ?_
        rotate_left
        · (intro wq hSw; (try dsimp only at hSw); go_simp; try (with_reducible rfl))
        try simp only [Act.put, List.setIfInBounds_toArray, List.set_cons_zero, List.set_cons_succ]
        refine wpAnyN_take (i := 1) (v := ?_) rfl (by kernel_rfl) (by kernel_rfl) (by kernel_rfl) (by kernel_rfl) (fun _ _ _ h => h) (by assumption) (Or.inl ⟨by rfl, ?_⟩) ?_
        rotate_left
        · (intro wq hSw; (try dsimp only at hSw); go_simp; try (with_reducible rfl))
        try simp only [Act.put, List.setIfInBounds_toArray, List.set_cons_zero, List.set_cons_succ]
        refine wpAnyN_take (i := 2) (v := ?_) rfl (by kernel_rfl) (by kernel_rfl) (by kernel_rfl) (by kernel_rfl) (fun _ _ _ h => h) (by assumption) (Or.inl ⟨by rfl, ?_⟩) ?_
        rotate_left
        · (intro wq hSw; (try dsimp only at hSw); go_simp; try (with_reducible rfl))
        try simp only [Act.put, List.setIfInBounds_toArray, List.set_cons_zero, List.set_cons_succ]
        refine wpAnyN_take (i := 3) (v := ?_) rfl (by kernel_rfl) (by kernel_rfl) (by kernel_rfl) (by kernel_rfl) (fun _ _ _ h => h) (by assumption) (Or.inl ⟨by rfl, ?_⟩) ?_
        rotate_left
        · (intro wq hSw; (try dsimp only at hSw); go_simp; try (with_reducible rfl))
        try simp only [Act.put, List.setIfInBounds_toArray, List.set_cons_zero, List.set_cons_succ]
        refine wpAnyN_take (i := 4) (v := ?_) rfl (by kernel_rfl) (by kernel_rfl) (by kernel_rfl) (by kernel_rfl) (fun _ _ _ h => h) (by assumption) (Or.inl ⟨by rfl, ?_⟩) ?_
        rotate_left
        · (intro wq hSw; (try dsimp only at hSw); go_simp; try (with_reducible rfl))
        try simp only [Act.put, List.setIfInBounds_toArray, List.set_cons_zero, List.set_cons_succ]
        refine wpAnyN_take (i := 5) (v := ?_) rfl (by kernel_rfl) (by kernel_rfl) (by kernel_rfl) (by kernel_rfl) (fun _ _ _ h => h) (by assumption) (Or.inl ⟨by rfl, ?_⟩) ?_
        rotate_left
        · (intro wq hSw; (try dsimp only at hSw); go_simp; try (with_reducible rfl))
        try simp only [Act.put, List.setIfInBounds_toArray, List.set_cons_zero, List.set_cons_succ]
        refine wpAnyN_take (i := 6) (v := ?_) rfl (by kernel_rfl) (by kernel_rfl) (by kernel_rfl) (by kernel_rfl) (fun _ _ _ h => h) (by assumption) (Or.inl ⟨by rfl, ?_⟩) ?_
        rotate_left
        · (intro wq hSw; (try dsimp only at hSw); go_simp; try (with_reducible rfl))
        try simp only [Act.put, List.setIfInBounds_toArray, List.set_cons_zero, List.set_cons_succ]
        refine wpAnyN_take (i := 7) (v := ?_) rfl (by kernel_rfl) (by kernel_rfl) (by kernel_rfl) (by kernel_rfl) (fun _ _ _ h => h) (by assumption) (Or.inl ⟨by rfl, ?_⟩) ?_
        rotate_left
        · (intro wq hSw; (try dsimp only at hSw); go_simp; try (with_reducible rfl))
        try simp only [Act.put, List.setIfInBounds_toArray, List.set_cons_zero, List.set_cons_succ]
        refine wpAnyN_take (i := 8) (v := ?_) rfl (by kernel_rfl) (by kernel_rfl) (by kernel_rfl) (by kernel_rfl) (fun _ _ _ h => h) (by assumption) (Or.inl ⟨by rfl, ?_⟩) ?_
        rotate_left
        · (intro wq hSw; (try dsimp only at hSw); go_simp; try (with_reducible rfl))
        try simp only [Act.put, List.setIfInBounds_toArray, List.set_cons_zero, List.set_cons_succ]
        refine wpAnyN_take (i := 9) (v := ?_) rfl (by kernel_rfl) (by kernel_rfl) (by kernel_rfl) (by kernel_rfl) (fun _ _ _ h => h) (by assumption) (Or.inl ⟨by rfl, ?_⟩) ?_
        rotate_left
        · (intro wq hSw; (try dsimp only at hSw); go_simp; try (with_reducible rfl))
        try simp only [Act.put, List.setIfInBounds_toArray, List.set_cons_zero, List.set_cons_succ]
        refine wpAnyN_take (i := 10) (v := ?_) rfl (by kernel_rfl) (by kernel_rfl) (by kernel_rfl) (by kernel_rfl) (fun _ _ _ h => h) (by assumption) (Or.inl ⟨by rfl, ?_⟩) ?_
        rotate_left
        · (intro wq hSw; (try dsimp only at hSw); go_simp; try (with_reducible rfl))
        try simp only [Act.put, List.setIfInBounds_toArray, List.set_cons_zero, List.set_cons_succ]
        refine wpAnyN_take (i := 11) (v := ?_) rfl (by kernel_rfl) (by kernel_rfl) (by kernel_rfl) (by kernel_rfl) (fun _ _ _ h => h) (by assumption) (Or.inl ⟨by rfl, ?_⟩) ?_
        rotate_left
        · (intro wq hSw; (try dsimp only at hSw); go_simp; try (with_reducible rfl))
        try simp only [Act.put, List.setIfInBounds_toArray, List.set_cons_zero, List.set_cons_succ]
        refine wpAnyN_take (i := 12) (v := ?_) rfl (by kernel_rfl) (by kernel_rfl) (by kernel_rfl) (by kernel_rfl) (fun _ _ _ h => h) (by assumption) (Or.inl ⟨by rfl, ?_⟩) ?_
        rotate_left
        · (intro wq hSw; (try dsimp only at hSw); go_simp; try (with_reducible rfl))
        try simp only [Act.put, List.setIfInBounds_toArray, List.set_cons_zero, List.set_cons_succ]
        refine wpAnyN_one (i := 13) (by kernel_rfl) rfl (fun K hK => ?_)
        refine step_append_any_sep rfl (.tmp 59) (.tmp 60) 33 rfl i7 _ 72 Try.underlying33 hi7 hy0 hy1 hy2 rfl (by decide) hhd.symm s1.drew Av _ _ _ rfl (Sat.src (Sat.up2 s1.drew)) (items_one _) (by unfold maxLen; omega) (by omega) ?_
        intro v1 w1 hS1 _
        have zt := Sat.tabCell hi rfl (Sat.up1 hS1)
        rw [hhd] at zt
        have zq := Sat.cell (Sat.up3 hS1) 3
        obtain ⟨A2, c2, hv1, _⟩ := Sat.row hS1
        subst hv1
        refine hK.out _ _ ?_ (fun hHeld => ?_)
        · exact ⟨zq, zt.1⟩
        clear hK K
        try simp only [Act.put, List.setIfInBounds_toArray, List.set_cons_zero, List.set_cons_succ]
        refine wpAnyN_take (i := 14) (v := ?_) rfl (by kernel_rfl) (by kernel_rfl) (by kernel_rfl) (by kernel_rfl) (fun _ _ _ h => h) (by assumption) (Or.inl ⟨by rfl, ?_⟩) ?_
        rotate_left
        · (intro wq hSw; (try dsimp only at hSw); go_simp; try (with_reducible rfl))
        try simp only [Act.put, List.setIfInBounds_toArray, List.set_cons_zero, List.set_cons_succ]
        refine wpAnyN_last (by kernel_rfl) rfl (by kernel_rfl) (fun K hK => ?_)
        go_simp
        refine hK.out _ _ ?_
        clear hK K
        try simp only [Act.put, List.setIfInBounds_toArray, List.set_cons_zero, List.set_cons_succ]
        have s3 : Sat X _ (netL W p (.slice A E.length c) E.length nI ⟨vC, vG, .slice (some ⟨gb, 0, none⟩) nI capb, .slice (some ⟨gr, 0, none⟩) nI capr, vM, vX, vH, vF⟩ { N0 with box := upd N0.box i (N0.box i ++ firsts E N0 i E.length) } ++ F) :=
          (Sat.dn4 (Sat.tabStore (D' := upd N0.box i (N0.box i ++ firsts E N0 i E.length)) hi rfl (fun j hj => upd_ne _ _ hj) (by
            rw [upd_same, List.flatMap_append, List.length_append]
            exact hS1))).drop
        generalize hwy : w1.setCell _ _ = wy at s3 ⊢
        clear hwy hS1 zt zq s1 j3 hS
        go_wp2
        refine bodyPost_ret (results_none rfl _ _ _) rfl ?_
        refine ⟨rfl, ?_⟩
        have e : report E N i = { N0 with box := upd N0.box i (N0.box i ++ firsts E N0 i E.length) } := by
          rw [HN.out, report, if_pos HKD.out]
          rfl
        rw [e]
        exact s3
      · have hkd' : ((N.kind : Int) == 0) = false := by rw [beq_eq_false_iff_ne]; omega
        have HKD := Lib.hid hkd
        clear hkd
        go_wp2
        have s0 : Sat X wr (rowA 57 7 (.slice Av (firsts E N0 i E.length).length capv) (firsts E N0 i E.length).length ((firsts E N0 i E.length).flatMap icells) :: netL W p (.slice A E.length c) E.length nI ⟨vC, vG, .slice (some ⟨gb, 0, none⟩) nI capb, .slice (some ⟨gr, 0, none⟩) nI capr, vM, vX, vH, vF⟩ { N0 with boxed := boxedTo N0 i 0 } ++ F) := by rw [boxedTo_zero]; exact hS
        obtain ⟨wo, rfl⟩ : ∃ wo : World, wo = wr := ⟨_, rfl⟩
        have S0 := Lib.hid s0
        clear s0 s1 hhd hbc hS j9 j10 j5 j4 j3 j0 ho
        go_loopg [6] (N0.box i).length (fun gk t wr => ∃ j : Nat, j ≤ (N0.box i).length ∧ gk = (N0.box i).length - j ∧ t = .int .i64 (j : Int) ∧ Sat X wr (rowA 57 7 (.slice Av (firsts E N0 i E.length).length capv) (firsts E N0 i E.length).length ((firsts E N0 i E.length).flatMap icells) :: netL W p (.slice A E.length c) E.length nI ⟨vC, vG, .slice (some ⟨gb, 0, none⟩) nI capb, .slice (some ⟨gr, 0, none⟩) nI capr, vM, vX, vH, vF⟩ { N0 with boxed := boxedTo N0 i j } ++ F))
        case atStart => exact ⟨0, Nat.zero_le _, rfl, rfl, S0.out⟩
        case round =>
          obtain ⟨j, hj, rfl, rfl, hS⟩ := hrel
          have hj0 : (0 : Int) ≤ (j : Int) := by omega
          obtain ⟨j0, _, _, j3, j4, j5, j6, _, _, j9, j10, _⟩ := net_cells W X wr p _ E nI _ _ _ hS.drop
          try simp only at j3 j4 j5 j6
          obtain ⟨gb', capb', hd, hv', _, hbc, _, s1⟩ := Sat.tab (Sat.up4 hS) hi
          obtain ⟨rfl, _, rfl⟩ := slice_inj hv'
          obtain ⟨Ab, capr2, hhd, hq1, hq2, hq2', hq4⟩ := Sat.row s1
          rw [hhd] at hbc
          by_cases hlt : j < (N0.box i).length
          · have hlti : (j : Int) < ((N0.box i).length : Int) := by omega
            rcases Ab with _ | ab
            · exact absurd (show (N0.box i).length = 0 from hq2' rfl) (by omega)
            obtain ⟨gq, rfl, hgq, hcc, _⟩ := hq4 ab rfl
            obtain ⟨y, hyy⟩ : ∃ y, (N0.box i)[j] = y := ⟨_, rfl⟩
            have hcy : ∀ q u, q < 7 → (icells y)[q]? = some u → wr.cell? ⟨gq, j * 7 + q, none⟩ = some u := fun q u hq hu => hcc _ _ (by
              rw [fm_get (enc := icells) (s := 7) (fun _ => rfl) (N0.box i) j hlt q hq, hyy]
              exact hu)
            have q0 : wr.cell? ⟨gq, j * 7, none⟩ = some (.int .i64 (y.1 : Int)) := hcy 0 _ (by omega) rfl
            have q1 : wr.cell? ⟨gq, j * 7 + 1, none⟩ = some (.int .i64 (code y.2).1) := hcy 1 _ (by omega) rfl
            have q2 : wr.cell? ⟨gq, j * 7 + 2, none⟩ = some (.int .i64 0) := hcy 2 _ (by omega) rfl
            have q3 : wr.cell? ⟨gq, j * 7 + 3, none⟩ = some (.int .i64 0) := hcy 3 _ (by omega) rfl
            have q4 : wr.cell? ⟨gq, j * 7 + 4, none⟩ = some (.int .i64 0) := hcy 4 _ (by omega) rfl
            have q5 : wr.cell? ⟨gq, j * 7 + 5, none⟩ = some (.int .i64 (code y.2).2) := hcy 5 _ (by omega) rfl
            have q6 : wr.cell? ⟨gq, j * 7 + 6, none⟩ = some (.slice none 0 0) := hcy 6 _ (by omega) rfl
            have hye : y.1 < E.length := HBE.out y (by rw [← HB0.out, ← hyy]; exact List.getElem_mem hlt)
            have HY := Lib.hid hyy
            have hltp := Sat.lt hS.drop
            clear hcy hcc hq4 hyy
            have s2 := hS.newBlk 57 #[.int .i64 (y.1 : Int), .int .i64 (code y.2).1, .int .i64 0, .int .i64 0, .int .i64 0, .int .i64 (code y.2).2, .slice none 0 0]
            go_upto_region 13 with (fail)
            obtain ⟨B0, hBB⟩ : ∃ B0, B0 = wr.heap.size := ⟨_, rfl⟩
            rw [← hBB] at s2 ⊢
            generalize hwy : wr.alloc _ = wy at s2 ⊢
            clear hwy hBB q0 q1 q2 q3 q4 q5 q6 j0 j3 j4 j5 j6 j9 j10 hbc s1 hS
            have hxl : (boxedTo N0 i j y.1).length ≤ 20000000 := by
              have h1 := HXL.out y.1 hye
              have h2 := boxedTo_len (N := N0) (i := i) j y.1
              rw [HX0.out] at h2
              omega
            have hye' : (y.1 : Int) < (E.length : Int) := by omega
            have hye0 : (0 : Int) ≤ (y.1 : Int) := by omega
            obtain ⟨gx, capx, hdx, hvx, _, hxc, _, m1⟩ := Sat.tab (Sat.up8 s2) hye
            try simp only at hvx
            subst hvx
            obtain ⟨Ax, capx2, hhx, _⟩ := Sat.row m1
            rw [hhx] at hxc
            have y6 := Sat.cell (Sat.up4 m1) 6
            have hBy := Sat.cell (Sat.up2 m1)
            have hltm := Sat.lt (Sat.up4 m1)
            have hltBm := Sat.lt (Sat.up2 m1)
            have m2 := (m1.alloc (.cells #[.int .i64 (code y.2).2] 3)).drew
            have xp := And.intro (Sat.cell (Sat.up4 m2) 6) (And.intro (Sat.tabCell hye rfl (Sat.up1 m2)).1 (Sat.cell (Sat.up2 m2)))
            rw [hhx] at xp
            refine wp_region_N (S := (fun w' => w'.cell? ⟨p, 6, none⟩ = some (.slice (some ⟨gx, 0, none⟩) E.length capx) ∧ w'.cell? ⟨gx, y.1, none⟩ = some (.slice Ax (boxedTo N0 i j y.1).length capx2) ∧ (∀ q, w'.cell? ⟨B0, q, none⟩ = #[.int .i64 (y.1 : Int), .int .i64 (code y.2).1, .int .i64 0, .int .i64 0, .int .i64 0, .int .i64 (code y.2).2, .slice none 0 0][q]?))) 20 (by kernel_rfl) ?_ (fun hHeld => ?_)
            · exact ⟨by simpa using y6, by simpa using hxc, fun q => by simpa using hBy q⟩
            refine wpAnyN_take (i := 0) (v := ?_) rfl (by kernel_rfl) (by kernel_rfl) (by kernel_rfl) (by kernel_rfl) (fun _ _ _ h => h) (by assumption) (Or.inl ⟨by rfl, ?_⟩) ?_
            rotate_left
            · (intro wq hSw; (try dsimp only at hSw); go_simp; try (with_reducible rfl))
            try simp only [Act.put, List.setIfInBounds_toArray, List.set_cons_zero, List.set_cons_succ]
            refine wpAnyN_take (i := 1) (v := ?_) rfl (by kernel_rfl) (by kernel_rfl) (by kernel_rfl) (by kernel_rfl) (fun _ _ _ h => h) (by assumption) (Or.inl ⟨by rfl, ?_⟩) ?_
            rotate_left
            · (intro wq hSw; (try dsimp only at hSw); go_simp; try (with_reducible rfl))
            try simp only [Act.put, List.setIfInBounds_toArray, List.set_cons_zero, List.set_cons_succ]
            refine wpAnyN_take (i := 2) (v := ?_) rfl (by kernel_rfl) (by kernel_rfl) (by kernel_rfl) (by kernel_rfl) (fun _ _ _ h => h) (by assumption) (Or.inl ⟨by rfl, ?_⟩) ?_
            rotate_left
            · (intro wq hSw; (try dsimp only at hSw); go_simp; try (with_reducible rfl))
            try simp only [Act.put, List.setIfInBounds_toArray, List.set_cons_zero, List.set_cons_succ]
            refine wpAnyN_take (i := 3) (v := ?_) rfl (by kernel_rfl) (by kernel_rfl) (by kernel_rfl) (by kernel_rfl) (fun _ _ _ h => h) (by assumption) (Or.inl ⟨by rfl, ?_⟩) ?_
            rotate_left
            · (intro wq hSw; (try dsimp only at hSw); go_simp; try (with_reducible rfl))
            try simp only [Act.put, List.setIfInBounds_toArray, List.set_cons_zero, List.set_cons_succ]
            refine wpAnyN_take (i := 4) (v := ?_) rfl (by kernel_rfl) (by kernel_rfl) (by kernel_rfl) (by kernel_rfl) (fun _ _ _ h => h) (by assumption) (Or.inl ⟨by rfl, ?_⟩) ?_
            rotate_left
            · (intro wq hSw; (try dsimp only at hSw); go_simp; try (with_reducible rfl))
            try simp only [Act.put, List.setIfInBounds_toArray, List.set_cons_zero, List.set_cons_succ]
            refine wpAnyN_take (i := 5) (v := ?_) rfl (by kernel_rfl) (by kernel_rfl) (by kernel_rfl) (by kernel_rfl) (fun _ _ _ h => h) (by assumption) (Or.inl ⟨by rfl, ?_⟩) ?_
            rotate_left
            · (intro wq hSw; (try dsimp only at hSw); go_simp; try (with_reducible rfl))
            try simp only [Act.put, List.setIfInBounds_toArray, List.set_cons_zero, List.set_cons_succ]
            refine wpAnyN_take (i := 6) (v := ?_) rfl (by kernel_rfl) (by kernel_rfl) (by kernel_rfl) (by kernel_rfl) (fun _ _ _ h => h) (by assumption) (Or.inl ⟨by rfl, ?_⟩) ?_
            rotate_left
            · (intro wq hSw; (try dsimp only at hSw); go_simp; try (with_reducible rfl))
            try simp only [Act.put, List.setIfInBounds_toArray, List.set_cons_zero, List.set_cons_succ]
            refine wpAnyN_take (i := 7) (v := ?_) rfl (by kernel_rfl) (by kernel_rfl) (by kernel_rfl) (by kernel_rfl) (fun _ _ _ h => h) (by assumption) (Or.inl ⟨by rfl, ?_⟩) ?_
            rotate_left
            · (intro wq hSw; (try dsimp only at hSw); go_simp; try (with_reducible rfl))
            try simp only [Act.put, List.setIfInBounds_toArray, List.set_cons_zero, List.set_cons_succ]
            refine wpAnyN_take (i := 8) (v := ?_) rfl (by kernel_rfl) (by kernel_rfl) (by kernel_rfl) (by kernel_rfl) (fun _ _ _ h => h) (by assumption) (Or.inl ⟨by rfl, ?_⟩) ?_
            rotate_left
            · (intro wq hSw; (try dsimp only at hSw); go_simp; try (with_reducible rfl))
            try simp only [Act.put, List.setIfInBounds_toArray, List.set_cons_zero, List.set_cons_succ]
            refine wpAnyN_take (i := 9) (v := ?_) rfl (by kernel_rfl) (by kernel_rfl) (by kernel_rfl) (by kernel_rfl) (fun _ _ _ h => h) (by assumption) (Or.inl ⟨by rfl, ?_⟩) ?_
            rotate_left
            · (intro wq hSw; (try dsimp only at hSw); go_simp; try (with_reducible rfl))
            try simp only [Act.put, List.setIfInBounds_toArray, List.set_cons_zero, List.set_cons_succ]
            refine wpAnyN_take (i := 10) (v := ?_) rfl (by kernel_rfl) (by kernel_rfl) (by kernel_rfl) (by kernel_rfl) (fun _ _ _ h => h) (by assumption) (Or.inl ⟨by rfl, ?_⟩) ?_
            rotate_left
            · (intro wq hSw; (try dsimp only at hSw); go_simp; try (with_reducible rfl))
            try simp only [Act.put, List.setIfInBounds_toArray, List.set_cons_zero, List.set_cons_succ]
            refine wpAnyN_take (i := 11) (v := ?_) rfl (by kernel_rfl) (by kernel_rfl) (by kernel_rfl) (by kernel_rfl) (fun _ _ _ h => h) (by assumption) (Or.inl ⟨by rfl, ?_⟩) ?_
            rotate_left
            · (intro wq hSw; (try dsimp only at hSw); go_simp; try (with_reducible rfl))
            try simp only [Act.put, List.setIfInBounds_toArray, List.set_cons_zero, List.set_cons_succ]
            refine wpAnyN_take (i := 12) (v := ?_) rfl (by kernel_rfl) (by kernel_rfl) (by kernel_rfl) (by kernel_rfl) (fun _ _ _ h => h) (by assumption) (Or.inl ⟨by rfl, ?_⟩) ?_
            rotate_left
            · (intro wq hSw; (try dsimp only at hSw); go_simp; try (with_reducible rfl))
            try simp only [Act.put, List.setIfInBounds_toArray, List.set_cons_zero, List.set_cons_succ]
            refine wpAnyN_take (i := 13) (v := ?_) rfl (by kernel_rfl) (by kernel_rfl) (by kernel_rfl) (by kernel_rfl) (fun _ _ _ h => h) (by assumption) (Or.inl ⟨by rfl, ?_⟩) ?_
            rotate_left
            · (intro wq hSw; (try dsimp only at hSw); go_simp; try (with_reducible rfl))
            try simp only [Act.put, List.setIfInBounds_toArray, List.set_cons_zero, List.set_cons_succ]
            refine wpAnyN_take (i := 14) (v := ?_) rfl (by kernel_rfl) (by kernel_rfl) (by kernel_rfl) (by kernel_rfl) (fun _ _ _ h => h) (by assumption) (Or.inl ⟨by rfl, ?_⟩) ?_
            rotate_left
            · (intro wq hSw; (try dsimp only at hSw); go_simp; try (with_reducible rfl))
            try simp only [Act.put, List.setIfInBounds_toArray, List.set_cons_zero, List.set_cons_succ]
            refine wpAnyN_take (i := 15) (v := ?_) rfl (by kernel_rfl) (by kernel_rfl) (by kernel_rfl) (by kernel_rfl) (fun _ _ _ h => h) (by assumption) (Or.inl ⟨by rfl, ?_⟩) ?_
            rotate_left
            · (intro wq hSw; (try dsimp only at hSw); go_simp; try (with_reducible rfl))
            try simp only [Act.put, List.setIfInBounds_toArray, List.set_cons_zero, List.set_cons_succ]
            refine wpAnyN_take (i := 16) (v := ?_) rfl (by kernel_rfl) (by kernel_rfl) (by kernel_rfl) (by kernel_rfl) (fun _ _ _ h => h) (by assumption) (Or.inl ⟨by rfl, ?_⟩) ?_
            rotate_left
            · (intro wq hSw; (try dsimp only at hSw); go_simp; try (with_reducible rfl))
            try simp only [Act.put, List.setIfInBounds_toArray, List.set_cons_zero, List.set_cons_succ]
            refine wpAnyN_one (i := 17) (by kernel_rfl) rfl (fun K hK => ?_)
            go_simp
            refine hK.out _ _ ?_ (fun hHeld => ?_)
            · exact ⟨xp.1, xp.2.1, xp.2.2⟩
            clear hK K
            try simp only [Act.put, List.setIfInBounds_toArray, List.set_cons_zero, List.set_cons_succ]
            refine wpAnyN_one (i := 18) (by kernel_rfl) rfl (fun K hK => ?_)
            refine step_append_sep rfl (.tmp 98) (.tmp 102) 58 rfl i0 _ 8 Try.underlying58 hi0 hz0 hz1 hz2 rfl (by decide) hhx.symm m2 ⟨wy.heap.size, 0, none⟩ 1 1 [.int .i64 (code y.2).2] rfl rfl (newsN wy 3 _) (by simp [Value.oneCell']) (show (boxedTo N0 i j y.1).length + 1 ≤ maxLen by unfold maxLen; omega) (show ((boxedTo N0 i j y.1).length + 1) * 8 ≤ 140737488355328 by omega) ?_
            intro v1 w1 hS1 _
            have zt := Sat.tabCell hye rfl (Sat.up1 hS1)
            rw [hhx] at zt
            have zq := Sat.cell (Sat.up4 hS1) 6
            have zB := Sat.cell (Sat.up2 hS1)
            obtain ⟨A2, c2, hv1, _⟩ := Sat.row hS1
            subst hv1
            refine hK.out _ _ ?_ (fun hHeld => ?_)
            · exact ⟨zq, zt.1, zB⟩
            clear hK K
            try simp only [Act.put, List.setIfInBounds_toArray, List.set_cons_zero, List.set_cons_succ]
            refine wpAnyN_take (i := 19) (v := ?_) rfl (by kernel_rfl) (by kernel_rfl) (by kernel_rfl) (by kernel_rfl) (fun _ _ _ h => h) (by assumption) (Or.inl ⟨by rfl, ?_⟩) ?_
            rotate_left
            · (intro wq hSw; (try dsimp only at hSw); go_simp; try (with_reducible rfl))
            try simp only [Act.put, List.setIfInBounds_toArray, List.set_cons_zero, List.set_cons_succ]
            refine wpAnyN_last (by kernel_rfl) rfl (by kernel_rfl) (fun K hK => ?_)
            go_simp
            refine hK.out _ _ ?_
            clear hK K
            try simp only [Act.put, List.setIfInBounds_toArray, List.set_cons_zero, List.set_cons_succ]
            have s4 : Sat X _ (blk B0 57 #[.int .i64 (y.1 : Int), .int .i64 (code y.2).1, .int .i64 0, .int .i64 0, .int .i64 0, .int .i64 (code y.2).2, .slice none 0 0] :: rowA 57 7 (.slice Av (firsts E N0 i E.length).length capv) (firsts E N0 i E.length).length ((firsts E N0 i E.length).flatMap icells) :: netL W p (.slice A E.length c) E.length nI ⟨vC, vG, .slice (some ⟨gb, 0, none⟩) nI capb, .slice (some ⟨gr, 0, none⟩) nI capr, vM, .slice (some ⟨gx, 0, none⟩) E.length capx, vH, vF⟩ { N0 with boxed := upd (boxedTo N0 i j) y.1 (boxedTo N0 i j y.1 ++ [y.2.n]) } ++ F) :=
              Sat.dn8 (Sat.tabStore (D' := upd (boxedTo N0 i j) y.1 (boxedTo N0 i j y.1 ++ [y.2.n])) hye rfl (fun j hj => upd_ne _ _ hj) (by
                rw [upd_same]
                simpa [ncell, code] using hS1))
            generalize hwz : w1.setCell _ _ = wz at s4 ⊢
            clear hwz hS1 zt zq zB xp m2 m1 hBy y6
            go_wp2
            go_roundg ((N0.box i).length - (j + 1))
            case measure => omega
            case rel =>
              refine ⟨j + 1, by omega, by omega, by go_num, ?_⟩
              rw [boxedTo_succ hlt, HY.out]
              exact s4.drop
          · have hge : ((N0.box i).length : Int) ≤ (j : Int) := by omega
            have HJ := Lib.hid (show j = (N0.box i).length by omega)
            go_upto_region 14 with (fail)
            refine wp_region_N (S := (fun w' => w'.cell? ⟨p, 3, none⟩ = some (.slice (some ⟨gb, 0, none⟩) nI capb) ∧ w'.cell? ⟨gb, i, none⟩ = some (.slice Ab (N0.box i).length capr2))) 15 (by kernel_rfl) ?_ (fun hHeld => ?_)
            · exact ⟨by simpa using j3, by simpa using hbc⟩
            refine wpAnyN_take (i := 0) (v := ?_) rfl (by kernel_rfl) (by kernel_rfl) (by kernel_rfl) (by kernel_rfl) (fun _ _ _ h => h) (by assumption) (Or.inl ⟨by rfl, ?_⟩) ?_
            rotate_left
            · (intro wq hSw; (try dsimp only at hSw); go_simp; try (with_reducible rfl))
            try simp only [Act.put, List.setIfInBounds_toArray, List.set_cons_zero, List.set_cons_succ]
            refine wpAnyN_take (i := 1) (v := ?_) rfl (by kernel_rfl) (by kernel_rfl) (by kernel_rfl) (by kernel_rfl) (fun _ _ _ h => h) (by assumption) (Or.inl ⟨by rfl, ?_⟩) ?_
            rotate_left
            · (intro wq hSw; (try dsimp only at hSw); go_simp; try (with_reducible rfl))
            try simp only [Act.put, List.setIfInBounds_toArray, List.set_cons_zero, List.set_cons_succ]
            refine wpAnyN_take (i := 2) (v := ?_) rfl (by kernel_rfl) (by kernel_rfl) (by kernel_rfl) (by kernel_rfl) (fun _ _ _ h => h) (by assumption) (Or.inl ⟨by rfl, ?_⟩) ?_
            rotate_left
            · (intro wq hSw; (try dsimp only at hSw); go_simp; try (with_reducible rfl))
            try simp only [Act.put, List.setIfInBounds_toArray, List.set_cons_zero, List.set_cons_succ]
            refine wpAnyN_take (i := 3) (v := ?_) rfl (by kernel_rfl) (by kernel_rfl) (by kernel_rfl) (by kernel_rfl) (fun _ _ _ h => h) (by assumption) (Or.inl ⟨by rfl, ?_⟩) ?_
            rotate_left
            · (intro wq hSw; (try dsimp only at hSw); go_simp; try (with_reducible rfl))
            try simp only [Act.put, List.setIfInBounds_toArray, List.set_cons_zero, List.set_cons_succ]
            refine wpAnyN_take (i := 4) (v := ?_) rfl (by kernel_rfl) (by kernel_rfl) (by kernel_rfl) (by kernel_rfl) (fun _ _ _ h => h) (by assumption) (Or.inl ⟨by rfl, ?_⟩) ?_
            rotate_left
            · (intro wq hSw; (try dsimp only at hSw); go_simp; try (with_reducible rfl))
            try simp only [Act.put, List.setIfInBounds_toArray, List.set_cons_zero, List.set_cons_succ]
            refine wpAnyN_take (i := 5) (v := ?_) rfl (by kernel_rfl) (by kernel_rfl) (by kernel_rfl) (by kernel_rfl) (fun _ _ _ h => h) (by assumption) (Or.inl ⟨by rfl, ?_⟩) ?_
            rotate_left
            · (intro wq hSw; (try dsimp only at hSw); go_simp; try (with_reducible rfl))
            try simp only [Act.put, List.setIfInBounds_toArray, List.set_cons_zero, List.set_cons_succ]
            refine wpAnyN_take (i := 6) (v := ?_) rfl (by kernel_rfl) (by kernel_rfl) (by kernel_rfl) (by kernel_rfl) (fun _ _ _ h => h) (by assumption) (Or.inl ⟨by rfl, ?_⟩) ?_
            rotate_left
            · (intro wq hSw; (try dsimp only at hSw); go_simp; try (with_reducible rfl))
            try simp only [Act.put, List.setIfInBounds_toArray, List.set_cons_zero, List.set_cons_succ]
            refine wpAnyN_take (i := 7) (v := ?_) rfl (by kernel_rfl) (by kernel_rfl) (by kernel_rfl) (by kernel_rfl) (fun _ _ _ h => h) (by assumption) (Or.inl ⟨by rfl, ?_⟩) ?_
            rotate_left
            · (intro wq hSw; (try dsimp only at hSw); go_simp; try (with_reducible rfl))
            try simp only [Act.put, List.setIfInBounds_toArray, List.set_cons_zero, List.set_cons_succ]
            refine wpAnyN_take (i := 8) (v := ?_) rfl (by kernel_rfl) (by kernel_rfl) (by kernel_rfl) (by kernel_rfl) (fun _ _ _ h => h) (by assumption) (Or.inl ⟨by rfl, ?_⟩) ?_
            rotate_left
            · (intro wq hSw; (try dsimp only at hSw); go_simp; try (with_reducible rfl))
            try simp only [Act.put, List.setIfInBounds_toArray, List.set_cons_zero, List.set_cons_succ]
            refine wpAnyN_take (i := 9) (v := ?_) rfl (by kernel_rfl) (by kernel_rfl) (by kernel_rfl) (by kernel_rfl) (fun _ _ _ h => h) (by assumption) (Or.inl ⟨by rfl, ?_⟩) ?_
            rotate_left
            · (intro wq hSw; (try dsimp only at hSw); go_simp; try (with_reducible rfl))
            try simp only [Act.put, List.setIfInBounds_toArray, List.set_cons_zero, List.set_cons_succ]
            refine wpAnyN_take (i := 10) (v := ?_) rfl (by kernel_rfl) (by kernel_rfl) (by kernel_rfl) (by kernel_rfl) (fun _ _ _ h => h) (by assumption) (Or.inl ⟨by rfl, ?_⟩) ?_
            rotate_left
            · (intro wq hSw; (try dsimp only at hSw); go_simp; try (with_reducible rfl))
            try simp only [Act.put, List.setIfInBounds_toArray, List.set_cons_zero, List.set_cons_succ]
            refine wpAnyN_take (i := 11) (v := ?_) rfl (by kernel_rfl) (by kernel_rfl) (by kernel_rfl) (by kernel_rfl) (fun _ _ _ h => h) (by assumption) (Or.inl ⟨by rfl, ?_⟩) ?_
            rotate_left
            · (intro wq hSw; (try dsimp only at hSw); go_simp; try (with_reducible rfl))
            try simp only [Act.put, List.setIfInBounds_toArray, List.set_cons_zero, List.set_cons_succ]
            refine wpAnyN_take (i := 12) (v := ?_) rfl (by kernel_rfl) (by kernel_rfl) (by kernel_rfl) (by kernel_rfl) (fun _ _ _ h => h) (by assumption) (Or.inl ⟨by rfl, ?_⟩) ?_
            rotate_left
            · (intro wq hSw; (try dsimp only at hSw); go_simp; try (with_reducible rfl))
            try simp only [Act.put, List.setIfInBounds_toArray, List.set_cons_zero, List.set_cons_succ]
            refine wpAnyN_one (i := 13) (by kernel_rfl) rfl (fun K hK => ?_)
            refine step_append_any_sep rfl (.tmp 110) (.tmp 117) 33 rfl i7 _ 72 Try.underlying33 hi7 hy0 hy1 hy2 rfl (by decide) rfl (Sat.up2 s1).drew Ab _ _ _ rfl (Sat.src (hhd ▸ s1.drew)) (items_one _) (by unfold maxLen; omega) (by omega) ?_
            intro v1 w1 hS1 _
            have zt := Sat.tabCell hi rfl (Sat.up2 hS1)
            rw [hhd] at zt
            have zq := Sat.cell (Sat.up3 hS1) 3
            obtain ⟨A2, c2, hv1, _⟩ := Sat.row hS1
            subst hv1
            refine hK.out _ _ ?_ (fun hHeld => ?_)
            · exact ⟨zq, zt.1⟩
            clear hK K
            try simp only [Act.put, List.setIfInBounds_toArray, List.set_cons_zero, List.set_cons_succ]
            refine wpAnyN_take (i := 14) (v := ?_) rfl (by kernel_rfl) (by kernel_rfl) (by kernel_rfl) (by kernel_rfl) (fun _ _ _ h => h) (by assumption) (Or.inl ⟨by rfl, ?_⟩) ?_
            rotate_left
            · (intro wq hSw; (try dsimp only at hSw); go_simp; try (with_reducible rfl))
            try simp only [Act.put, List.setIfInBounds_toArray, List.set_cons_zero, List.set_cons_succ]
            refine wpAnyN_last (by kernel_rfl) rfl (by kernel_rfl) (fun K hK => ?_)
            go_simp
            refine hK.out _ _ ?_
            clear hK K
            try simp only [Act.put, List.setIfInBounds_toArray, List.set_cons_zero, List.set_cons_succ]
            have s3 : Sat X _ (netL W p (.slice A E.length c) E.length nI ⟨vC, vG, .slice (some ⟨gb, 0, none⟩) nI capb, .slice (some ⟨gr, 0, none⟩) nI capr, vM, vX, vH, vF⟩ { N0 with boxed := boxedTo N0 i j, box := upd N0.box i (firsts E N0 i E.length ++ N0.box i) } ++ F) :=
              (Sat.dn3 (Sat.tabStore (D' := upd N0.box i (firsts E N0 i E.length ++ N0.box i)) hi rfl (fun j hj => upd_ne _ _ hj) (by
                rw [upd_same, List.flatMap_append, List.length_append]
                exact hS1.swap.drop)))
            generalize hwy : w1.setCell _ _ = wy at s3 ⊢
            clear hwy hS1 zt zq s1 j3 hS
            go_wp2
            go_end0
            refine ⟨rfl, ?_⟩
            have e : report E N i = { N0 with boxed := boxedTo N0 i j, box := upd N0.box i (firsts E N0 i E.length ++ N0.box i) } := by
              rw [HJ.out, HN.out, report, if_neg HKD.out]
              have e2 : boxedTo ({ N with rep := upd N.rep i true } : Net) i (N.box i).length = fun e => N.boxed e ++ nums (forE (N.box i) e) := by
                funext e
                simp [boxedTo]
              have e3 : firsts E ({ N with rep := upd N.rep i true } : Net) i E.length = firsts E N i E.length := rfl
              simp only [e2, e3]
            rw [e]
            exact s3
end
end Go.Proofs.Ytacklfjpbboijaa
