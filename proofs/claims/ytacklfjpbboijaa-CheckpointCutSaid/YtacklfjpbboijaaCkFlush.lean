/-
  CheckpointCut, walks: flush.
-/
import Derived.Test.YtacklfjpbboijaaCkReport
namespace Go.Sep
open Go Go.RowKit
section
variable {X w : World} {l : List Asn} {n : Nat}
theorem Sat.ptrsCell {e : TypeId} {v : Value} {A : Nat → Nat → Asn} {ca : Nat → Nat} {k g cap : Nat} (hk : k < n) (hv : v = .slice (some ⟨g, 0, none⟩) n cap) (h : Sat X w (ptrsBut e v n A ca k :: l)) : w.cell? ⟨g, k, none⟩ = some (.pointer (some ⟨ca k, 0, none⟩)) := by
  have h1 : Sat X w (_ :: _ :: l) := h.all
  obtain ⟨g', cap', hv', _, _, hg, hc, hf⟩ := h1.rowAt (by omega)
  rw [hv] at hv'
  obtain ⟨rfl, _, _⟩ := slice_inj hv'
  exact hc k _ (map_range_get _ hk)
theorem fm_drop {α : Type} {enc : α → List Value} {s : Nat} (hs : ∀ x, (enc x).length = s) : ∀ (L : List α) (k : Nat), (L.flatMap enc).drop (k * s) = (L.drop k).flatMap enc
  | L, 0 => by simp
  | [], k + 1 => by simp
  | x :: L, k + 1 => by
    rw [List.flatMap_cons, List.drop_succ_cons, ← fm_drop hs L k, Nat.succ_mul, Nat.add_comm, ← List.drop_drop, List.drop_left' (hs x)]
theorem fm_take {α : Type} {enc : α → List Value} {s : Nat} (hs : ∀ x, (enc x).length = s) : ∀ (L : List α) (k : Nat), (L.flatMap enc).take (k * s) = (L.take k).flatMap enc
  | L, 0 => by simp
  | [], k + 1 => by simp
  | x :: L, k + 1 => by
    rw [List.flatMap_cons, List.take_succ_cons, List.flatMap_cons, ← fm_take hs L k, Nat.succ_mul, Nat.add_comm, ← hs x, List.take_length_add_append]
theorem fm_len {α : Type} {enc : α → List Value} {s : Nat} (hs : ∀ x, (enc x).length = s) : ∀ (L : List α), (L.flatMap enc).length = L.length * s
  | [] => by simp
  | x :: L => by rw [List.flatMap_cons, List.length_append, fm_len hs L, hs x, List.length_cons, Nat.succ_mul, Nat.add_comm]
/-- A row cut out of a row, as a source. -/
theorem Sat.srcTake {α : Type} {enc : α → List Value} {s e g cap : Nat} {L : List α} (hs : ∀ x, (enc x).length = s) {k : Nat} (hk : k ≤ L.length) (h : Sat X w (rowA e s (.slice (some ⟨g, 0, none⟩) n cap) L.length (L.flatMap enc) :: l)) :
    SrcAt w (some ⟨g, 0, none⟩) k s ((L.take k).flatMap enc) := by
  obtain ⟨A', cap', hv, _, _, _, h4⟩ := h.row
  injection hv with hA _ _
  subst hA
  obtain ⟨g', hg', _, hc, _⟩ := h4 _ rfl
  cases hg'
  refine ⟨by rw [fm_len hs, List.length_take, Nat.min_eq_left hk], fun h => (by cases h), fun a ha j u hu => ?_⟩
  cases ha
  have hadd : (⟨g, 0, none⟩ : Addr).add j = ⟨g, j, none⟩ := by unfold Addr.add; split <;> simp_all
  rw [hadd]
  refine hc j u ?_
  rw [← fm_take hs] at hu
  rw [List.getElem?_take] at hu
  split at hu
  · exact hu
  · cases hu
theorem Sat.srcDrop {α : Type} {enc : α → List Value} {s e g cap : Nat} {L : List α} (hs : ∀ x, (enc x).length = s) {k : Nat} (_ : k ≤ L.length) (h : Sat X w (rowA e s (.slice (some ⟨g, 0, none⟩) n cap) L.length (L.flatMap enc) :: l)) :
    SrcAt w (some ⟨g, k * s, none⟩) (L.length - k) s ((L.drop k).flatMap enc) := by
  obtain ⟨A', cap', hv, _, _, _, h4⟩ := h.row
  injection hv with hA _ _
  subst hA
  obtain ⟨g', hg', _, hc, _⟩ := h4 _ rfl
  cases hg'
  refine ⟨by rw [fm_len hs]; simp, fun h => (by cases h), fun a ha j u hu => ?_⟩
  cases ha
  have hadd : (⟨g, k * s, none⟩ : Addr).add j = ⟨g, k * s + j, none⟩ := by unfold Addr.add; split <;> simp_all
  rw [hadd]
  refine hc _ u ?_
  rw [← fm_drop hs, List.getElem?_drop] at hu
  exact hu
theorem Sat.srcDropIf {α : Type} {enc : α → List Value} {s e g cap : Nat} {L : List α} (hs : ∀ x, (enc x).length = s) {k : Nat} (hk : k ≤ L.length) (hcap : L.length ≤ cap) (h : Sat X w (rowA e s (.slice (some ⟨g, 0, none⟩) n cap) L.length (L.flatMap enc) :: l)) :
    SrcAt w (if cap = k then some ⟨g, 0, none⟩ else some ⟨g, k * s, none⟩) (L.length - k) s ((L.drop k).flatMap enc) := by
  by_cases hc : cap = k
  · have h0 : L.length - k = 0 := by omega
    have hd : L.drop k = [] := List.drop_eq_nil_of_le (by omega)
    rw [if_pos hc, h0, hd]
    exact ⟨by simp, fun h => (by cases h), fun a _ j u hu => by simp at hu⟩
  · rw [if_neg hc]
    exact h.srcDrop hs hk
end
end Go.Sep
namespace Go.Proofs.Ytacklfjpbboijaa
open Go.RowKit Go.Sep Go.Ck

section
variable {N : Net} {i : Nat}
theorem flush_no (h : ∀ k (hk : k < (N.box i).length), free N (N.box i)[k] = false) : flush N i = none := by
  unfold flush
  have : (N.box i).findIdx? (free N) = none := by
    rw [List.findIdx?_eq_none_iff]
    intro y hy
    obtain ⟨k, hk, rfl⟩ := List.getElem_of_mem hy
    exact h k hk
  rw [this]
theorem flush_yes {j : Nat} (hj : j < (N.box i).length) (h : ∀ k (hk : k < j), free N ((N.box i)[k]'(by omega)) = false) (hf : free N (N.box i)[j] = true) :
    flush N i = some { N with box := upd N.box i ((N.box i).take j ++ (N.box i).drop (j + 1)), chan := upd N.chan (N.box i)[j].1 (N.chan (N.box i)[j].1 ++ [(N.box i)[j].2]) } := by
  unfold flush
  have : (N.box i).findIdx? (free N) = some j := by
    rw [List.findIdx?_eq_some_iff_getElem]
    exact ⟨hj, hf, fun k hk => by rw [h k hk]; simp⟩
  rw [this]
  simp [hj, List.eraseIdx_eq_take_drop_succ]
end

section
variable (W X w : World) (p : Nat) (vE : Value) (E : Edges) (nI : Nat) (V : Hdr) (N : Net) (F : List Asn)

theorem send_code (c : Nat) (q : List Msg) (X w : World) (F : List Asn) (m : Msg) (hm : m.n ≤ 1000) (hql : q.length < 4) (h : Sat X w (chanA c q :: F)) : Calls Try.prog 29 #[.pointer (some ⟨c, 0, none⟩), .agg #[.int .i64 (code m).1, .int .i64 0, .int .i64 0, .int .i64 0, .int .i64 (code m).2, .slice none 0 0]] w fun e w' =>
    e = .returned (.int .i64 0) ∧ Sat X w' (chanA c (q ++ [m]) :: F) := by
  have := send_ok c q X w F m hm hql h
  rw [msgv_code] at this
  exact this

set_option maxRecDepth 100000 in
set_option maxHeartbeats 4000000 in
theorem flush_ok (i : Nat) (hi : i < nI) (_ : nI ≤ 5) (hE6 : E.length ≤ 6) (hb : (N.box i).length ≤ 20000000) (hbe : ∀ y ∈ N.box i, y.1 < E.length ∧ y.2.n ≤ 1000) (h : Sat X w (netL W p vE E.length nI V N ++ F)) :
    Calls Try.prog 12 #[.pointer (some ⟨p, 0, none⟩), .int .i64 (i : Int)] w fun r w' =>
    r = .returned (.bool (flush N i).isSome) ∧ Sat X w' (netL W p vE E.length nI V ((flush N i).getD N) ++ F) := by
  obtain ⟨i7, hi7, hy0, hy1, hy2⟩ := info_parts Try.infoT
  have hE6' : (E.length : Int) ≤ 6 := by omega
  have hi00 : (0 : Int) ≤ (i : Int) := by omega
  have hi1 : (i : Int) < (nI : Int) := by omega
  have HBE := Lib.hid hbe
  clear hbe
  obtain ⟨gb, capb, _, hvb, hb1, hb2, _, _, _⟩ := Sat.tabHdr (Sat.up3 h) hi
  obtain ⟨vC, vG, vB, vR, vM, vX, vH, vF⟩ := V
  simp only at hvb
  subst hvb
  have H1 := Lib.hid h
  clear h
  go_enter Try.func12, Try.ntmps12
  go_wp2
  go_loopg [5] (N.box i).length (fun gk t wr => ∃ j : Nat, j ≤ (N.box i).length ∧ gk = (N.box i).length - j ∧ t = .int .i64 (j : Int) ∧ (∀ k (hk : k < (N.box i).length), k < j → free N (N.box i)[k] = false) ∧ Sat X wr (netL W p vE E.length nI ⟨vC, vG, .slice (some ⟨gb, 0, none⟩) nI capb, vR, vM, vX, vH, vF⟩ N ++ F))
  case atStart => exact ⟨0, Nat.zero_le _, rfl, rfl, fun k _ h => absurd h (Nat.not_lt_zero _), H1.out⟩
  case round =>
    obtain ⟨j, hj, rfl, rfl, hno, hS⟩ := hrel
    have HNO := Lib.hid hno
    clear hno H1
    have hj0 : (0 : Int) ≤ (j : Int) := by omega
    obtain ⟨_, j1, _, j3, _, _, _, _, _, _, _, _⟩ := net_cells W X wr p _ E nI _ _ _ hS
    try simp only at j3
    obtain ⟨gb', capb', hd, hv', _, hbc, _, s1⟩ := Sat.tab (Sat.up3 hS) hi
    obtain ⟨rfl, _, rfl⟩ := slice_inj hv'
    obtain ⟨Ab, capr2, hhd, hq1, hq2, hq2', hq4⟩ := Sat.row s1
    rw [hhd] at hbc
    by_cases hlt : j < (N.box i).length
    · have hlti : (j : Int) < ((N.box i).length : Int) := by omega
      rcases Ab with _ | ab
      · exact absurd (show (N.box i).length = 0 from hq2' rfl) (by omega)
      obtain ⟨gq, rfl, hgq, hcc, _⟩ := hq4 ab rfl
      obtain ⟨y, hyy⟩ : ∃ y, (N.box i)[j] = y := ⟨_, rfl⟩
      have hcy : ∀ q u, q < 7 → (icells y)[q]? = some u → wr.cell? ⟨gq, j * 7 + q, none⟩ = some u := fun q u hq hu => hcc _ _ (by
        rw [fm_get (enc := icells) (s := 7) (fun _ => rfl) (N.box i) j hlt q hq, hyy]
        exact hu)
      have q0 : wr.cell? ⟨gq, j * 7, none⟩ = some (.int .i64 (y.1 : Int)) := hcy 0 _ (by omega) rfl
      have q1 : wr.cell? ⟨gq, j * 7 + 1, none⟩ = some (.int .i64 (code y.2).1) := hcy 1 _ (by omega) rfl
      have q2 : wr.cell? ⟨gq, j * 7 + 2, none⟩ = some (.int .i64 0) := hcy 2 _ (by omega) rfl
      have q3 : wr.cell? ⟨gq, j * 7 + 3, none⟩ = some (.int .i64 0) := hcy 3 _ (by omega) rfl
      have q4 : wr.cell? ⟨gq, j * 7 + 4, none⟩ = some (.int .i64 0) := hcy 4 _ (by omega) rfl
      have q5 : wr.cell? ⟨gq, j * 7 + 5, none⟩ = some (.int .i64 (code y.2).2) := hcy 5 _ (by omega) rfl
      have q6 : wr.cell? ⟨gq, j * 7 + 6, none⟩ = some (.slice none 0 0) := hcy 6 _ (by omega) rfl
      obtain ⟨hye, hyn⟩ := HBE.out y (by rw [← hyy]; exact List.getElem_mem hlt)
      have hye' : (y.1 : Int) < (E.length : Int) := by omega
      have hye0 : (0 : Int) ≤ (y.1 : Int) := by omega
      have HY := Lib.hid hyy
      have hltp := Sat.lt hS
      clear hcy hcc hq4 hyy
      have s2 := hS.newBlk 57 #[.int .i64 (y.1 : Int), .int .i64 (code y.2).1, .int .i64 0, .int .i64 0, .int .i64 0, .int .i64 (code y.2).2, .slice none 0 0]
      go_upto_region 5 with (fail)
      obtain ⟨B0, hBB⟩ : ∃ B0, B0 = wr.heap.size := ⟨_, rfl⟩
      rw [← hBB] at s2 ⊢
      generalize hwy : wr.alloc _ = wy at s2 ⊢
      clear hwy hBB q0 q1 q2 q3 q4 q5 q6 j1 j3 hbc s1 hS
      obtain ⟨gc, capc, ca, hvc, _, hcc, m1⟩ := Sat.ptrs (Sat.up2 s2) hye
      try simp only at hvc
      subst hvc
      obtain ⟨_, _, _, _, hq4', _, m1c⟩ := chan_open m1
      have y1 := Sat.cell (Sat.up3 m1) 1
      have hBy := Sat.cell (Sat.up2 m1)
      have hltm := Sat.lt (Sat.up3 m1)
      have hltBm := Sat.lt (Sat.up2 m1)
      by_cases hfr : (N.chan y.1).length = 4
      · have hf4 : ((4 : Int) - ((N.chan y.1).length : Int) == 0) = true := by rw [beq_iff_eq]; omega
        have HFR := Lib.hid hfr
        clear hfr
        go_region_held3 (fun w' => w'.cell? ⟨p, 1, none⟩ = some (.slice (some ⟨gc, 0, none⟩) E.length capc) ∧ w'.cell? ⟨gc, y.1, none⟩ = some (.pointer (some ⟨ca y.1, 0, none⟩)) ∧ (∀ q, w'.cell? ⟨B0, q, none⟩ = #[.int .i64 (y.1 : Int), .int .i64 (code y.2).1, .int .i64 0, .int .i64 0, .int .i64 0, .int .i64 (code y.2).2, .slice none 0 0][q]?))
          (first | (with_reducible exact ⟨z1, zc, zB⟩) | (simp [y1, hcc, hBy]; done))
          ((go_at_call 28; (with_reducible refine (free_any _ _ _ _ _ m1.drew).mono ?_); rintro e w2 ⟨rfl, rfl⟩; have z1 := Sat.cell (Sat.up3 m1.drew) 1; have zc := Sat.ptrsCell hye rfl (Sat.up1 m1.drew); have zB := Sat.cell (Sat.up2 m1.drew)))
        have s3 := s2.drew.drop
        clear z1 zc zB y1 hcc hBy m1 m1c s2
        go_wp2
        go_roundg ((N.box i).length - (j + 1))
        case measure => omega
        case rel =>
          refine ⟨j + 1, by omega, by omega, by go_num, fun k hk hkj => ?_, s3⟩
          by_cases hkj2 : k < j
          · exact HNO.out k hk hkj2
          · have hkj3 : k = j := by omega
            subst hkj3
            rw [HY.out]
            simp [free, HFR.out]
      · have hf4 : ((4 : Int) - ((N.chan y.1).length : Int) == 0) = false := by rw [beq_eq_false_iff_ne]; omega
        have HFR := Lib.hid hfr
        clear hfr
        go_region_held3 (fun w' => w'.cell? ⟨p, 1, none⟩ = some (.slice (some ⟨gc, 0, none⟩) E.length capc) ∧ w'.cell? ⟨gc, y.1, none⟩ = some (.pointer (some ⟨ca y.1, 0, none⟩)) ∧ (∀ q, w'.cell? ⟨B0, q, none⟩ = #[.int .i64 (y.1 : Int), .int .i64 (code y.2).1, .int .i64 0, .int .i64 0, .int .i64 0, .int .i64 (code y.2).2, .slice none 0 0][q]?))
          (first | (with_reducible exact ⟨z1, zc, zB⟩) | (simp [y1, hcc, hBy]; done))
          ((go_at_call 28; (with_reducible refine (free_any _ _ _ _ _ m1.drew).mono ?_); rintro e w2 ⟨rfl, rfl⟩; have z1 := Sat.cell (Sat.up3 m1.drew) 1; have zc := Sat.ptrsCell hye rfl (Sat.up1 m1.drew); have zB := Sat.cell (Sat.up2 m1.drew)))
        have m2 := m1.drew
        clear y1 hcc hBy m1 m1c s2 hltm hltBm
        have hltm := Sat.lt (Sat.up3 m2)
        have hltBm := Sat.lt (Sat.up2 m2)
        have hltg := Sat.lt (chan_open m2).choose_spec.choose_spec.choose_spec.2.2.2
        go_upto_region 6 with (fail)
        obtain ⟨wu, hwu⟩ : ∃ wu, wu = wy.drew := ⟨_, rfl⟩
        rw [← hwu] at m2 z1 zc zB hltm hltBm hltg ⊢
        clear hwu
        go_region_held3 (fun w' => w'.cell? ⟨p, 1, none⟩ = some (.slice (some ⟨gc, 0, none⟩) E.length capc) ∧ w'.cell? ⟨gc, y.1, none⟩ = some (.pointer (some ⟨ca y.1, 0, none⟩)) ∧ (∀ q, w'.cell? ⟨B0, q, none⟩ = #[.int .i64 (y.1 : Int), .int .i64 (code y.2).1, .int .i64 0, .int .i64 0, .int .i64 0, .int .i64 (code y.2).2, .slice none 0 0][q]?))
          (first | (with_reducible exact ⟨x1, xc, xB⟩) | (simp [z1, zc, zB]; done))
          ((go_at_call 29; (with_reducible refine (send_code _ _ _ _ _ y.2 hyn (by have := HFR.out; omega) m2.drew).mono ?_); rintro e w2 ⟨rfl, m3⟩; have x1 : w2.cell? ⟨p, 1, none⟩ = some (.slice (some ⟨gc, 0, none⟩) E.length capc) := Sat.cell (Sat.up3 m3) 1; have xc := Sat.ptrsCell hye rfl (Sat.up1 m3); have xB : ∀ q, w2.cell? ⟨B0, q, none⟩ = #[.int .i64 (y.1 : Int), .int .i64 (code y.2).1, .int .i64 0, .int .i64 0, .int .i64 0, .int .i64 (code y.2).2, .slice none 0 0][q]? := Sat.cell (Sat.up2 m3)))
        have s6 : Sat X w2 (netL W p vE E.length nI ⟨.slice (some ⟨gc, 0, none⟩) E.length capc, vG, .slice (some ⟨gb, 0, none⟩) nI capb, vR, vM, vX, vH, vF⟩ { N with chan := upd N.chan y.1 (N.chan y.1 ++ [y.2]) } ++ F) :=
          (Sat.dn2 (Sat.ptrsBack (A' := fun c e => chanA c (upd N.chan y.1 (N.chan y.1 ++ [y.2]) e)) hye (fun c e he => by rw [upd_ne _ _ he]) (by rw [upd_same]; exact m3))).drop
        clear z1 zc zB x1 xc xB m2 m3 hhd
        obtain ⟨_, j1, _, j3, _, _, _, _, _, _, _, _⟩ := net_cells W X w2 p _ E nI _ _ _ s6
        try simp only at j3
        obtain ⟨gb', capb', hd, hv', _, hbc, _, s1⟩ := Sat.tab (Sat.up3 s6) hi
        obtain ⟨rfl, _, rfl⟩ := slice_inj hv'
        obtain ⟨Ab, capr2, hhd, hq1, hq2, hq2', hq4⟩ := Sat.row s1
        rw [hhd] at hbc s1
        rcases Ab with _ | ab
        · exact absurd (show (N.box i).length = 0 from hq2' rfl) (by omega)
        obtain ⟨gq, rfl, hgq, _, _⟩ := hq4 ab rfl
        clear hq4 hq2' s6
        have hltp2 := Sat.lt (Sat.up2 s1)
        have hq1' : (N.box i).length ≤ capr2 := hq1
        have hq1i : ((N.box i).length : Int) ≤ (capr2 : Int) := by omega
        have hsum : IntKind.i64.wrap ((j : Int) + 1) = (j : Int) + 1 := IntWalk.i64_in _ (by omega)
        have hjc : j ≤ capr2 := by omega
        have hjl : (0 : Int) ≤ (j : Int) + 1 ∧ (j : Int) + 1 ≤ ((N.box i).length : Int) := by omega
        go_upto_region 8 with (fail)
        have s5 := (Sat.rowEmpty s1 57 7).drew
        have zq5 := Sat.cell (Sat.up3 s5) 3
        have zt5 := (Sat.tabCell hi rfl (Sat.up2 s5)).1
        rw [hhd] at zt5
        · skip
          refine wp_region_N (S := (fun w' => w'.cell? ⟨p, 3, none⟩ = some (.slice (some ⟨gb, 0, none⟩) nI capb) ∧ w'.cell? ⟨gb, i, none⟩ = some (.slice (some ⟨gq, 0, none⟩) (N.box i).length capr2))) 28 (by kernel_rfl) ?_ (fun hHeld => ?_)
          · exact ⟨by simpa using j3, by simpa using hbc⟩
          refine wpAnyN_take (i := 0) (v := ?_) rfl (by kernel_rfl) (by kernel_rfl) (by kernel_rfl) (by kernel_rfl) (fun _ _ _ h => h) (by assumption) (Or.inl ⟨by rfl, ?_⟩) ?_
          rotate_left
          · (intro wq hSw; (try dsimp only at hSw); go_simp; try (with_reducible rfl))
          try simp only [Act.put, List.setIfInBounds_toArray, List.set_cons_zero, List.set_cons_succ]
          refine wpAnyN_take (i := 1) (v := ?_) rfl (by kernel_rfl) (by kernel_rfl) (by kernel_rfl) (by kernel_rfl) (fun _ _ _ h => h) (by assumption) (Or.inl ⟨by rfl, ?_⟩) ?_
          rotate_left
          · (intro wq hSw; (try dsimp only at hSw); go_simp; try (with_reducible rfl))
          try simp only [Act.put, List.setIfInBounds_toArray, List.set_cons_zero, List.set_cons_succ]
          refine wpAnyN_take (i := 2) (v := ?_) rfl (by kernel_rfl) (by kernel_rfl) (by kernel_rfl) (by kernel_rfl) (fun _ _ _ h => h) (by assumption) (Or.inl ⟨by rfl, ?_⟩) ?_
          rotate_left
          · (intro wq hSw; (try dsimp only at hSw); go_simp; try (with_reducible rfl))
          try simp only [Act.put, List.setIfInBounds_toArray, List.set_cons_zero, List.set_cons_succ]
          refine wpAnyN_take (i := 3) (v := ?_) rfl (by kernel_rfl) (by kernel_rfl) (by kernel_rfl) (by kernel_rfl) (fun _ _ _ h => h) (by assumption) (Or.inl ⟨by rfl, ?_⟩) ?_
          rotate_left
          · (intro wq hSw; (try dsimp only at hSw); go_simp; try (with_reducible rfl))
          try simp only [Act.put, List.setIfInBounds_toArray, List.set_cons_zero, List.set_cons_succ]
          refine wpAnyN_take (i := 4) (v := ?_) rfl (by kernel_rfl) (by kernel_rfl) (by kernel_rfl) (by kernel_rfl) (fun _ _ _ h => h) (by assumption) (Or.inl ⟨by rfl, ?_⟩) ?_
          rotate_left
          · (intro wq hSw; (try dsimp only at hSw); go_simp; try (with_reducible rfl))
          try simp only [Act.put, List.setIfInBounds_toArray, List.set_cons_zero, List.set_cons_succ]
          refine wpAnyN_take (i := 6) (v := ?_) rfl (by kernel_rfl) (by kernel_rfl) (by kernel_rfl) (by kernel_rfl) (fun _ _ _ h => h) (by assumption) (Or.inl ⟨by rfl, ?_⟩) ?_
          rotate_left
          · (intro wq hSw; (try dsimp only at hSw); go_simp; try (with_reducible rfl))
          try simp only [Act.put, List.setIfInBounds_toArray, List.set_cons_zero, List.set_cons_succ]
          refine wpAnyN_take (i := 7) (v := ?_) rfl (by kernel_rfl) (by kernel_rfl) (by kernel_rfl) (by kernel_rfl) (fun _ _ _ h => h) (by assumption) (Or.inl ⟨by rfl, ?_⟩) ?_
          rotate_left
          · (intro wq hSw; (try dsimp only at hSw); go_simp; try (with_reducible rfl))
          try simp only [Act.put, List.setIfInBounds_toArray, List.set_cons_zero, List.set_cons_succ]
          refine wpAnyN_take (i := 8) (v := ?_) rfl (by kernel_rfl) (by kernel_rfl) (by kernel_rfl) (by kernel_rfl) (fun _ _ _ h => h) (by assumption) (Or.inl ⟨by rfl, ?_⟩) ?_
          rotate_left
          · (intro wq hSw; (try dsimp only at hSw); go_simp; try (with_reducible rfl))
          try simp only [Act.put, List.setIfInBounds_toArray, List.set_cons_zero, List.set_cons_succ]
          refine wpAnyN_take (i := 9) (v := ?_) rfl (by kernel_rfl) (by kernel_rfl) (by kernel_rfl) (by kernel_rfl) (fun _ _ _ h => h) (by assumption) (Or.inl ⟨by rfl, ?_⟩) ?_
          rotate_left
          · (intro wq hSw; (try dsimp only at hSw); go_simp; try (with_reducible rfl))
          try simp only [Act.put, List.setIfInBounds_toArray, List.set_cons_zero, List.set_cons_succ]
          refine wpAnyN_take (i := 10) (v := ?_) rfl (by kernel_rfl) (by kernel_rfl) (by kernel_rfl) (by kernel_rfl) (fun _ _ _ h => h) (by assumption) (Or.inl ⟨by rfl, ?_⟩) ?_
          rotate_left
          · (intro wq hSw; (try dsimp only at hSw); go_simp; try (with_reducible rfl))
          try simp only [Act.put, List.setIfInBounds_toArray, List.set_cons_zero, List.set_cons_succ]
          refine wpAnyN_take (i := 11) (v := ?_) rfl (by kernel_rfl) (by kernel_rfl) (by kernel_rfl) (by kernel_rfl) (fun _ _ _ h => h) (by assumption) (Or.inl ⟨by rfl, ?_⟩) ?_
          rotate_left
          · (intro wq hSw; (try dsimp only at hSw); go_simp; try (with_reducible rfl))
          try simp only [Act.put, List.setIfInBounds_toArray, List.set_cons_zero, List.set_cons_succ]
          refine wpAnyN_take (i := 12) (v := ?_) rfl (by kernel_rfl) (by kernel_rfl) (by kernel_rfl) (by kernel_rfl) (fun _ _ _ h => h) (by assumption) (Or.inl ⟨by rfl, ?_⟩) ?_
          rotate_left
          · (intro wq hSw; (try dsimp only at hSw); go_simp; try (with_reducible rfl))
          try simp only [Act.put, List.setIfInBounds_toArray, List.set_cons_zero, List.set_cons_succ]
          refine wpAnyN_take (i := 13) (v := ?_) rfl (by kernel_rfl) (by kernel_rfl) (by kernel_rfl) (by kernel_rfl) (fun _ _ _ h => h) (by assumption) (Or.inl ⟨by rfl, ?_⟩) ?_
          rotate_left
          · (intro wq hSw; (try dsimp only at hSw); go_simp; try (with_reducible rfl))
          try simp only [Act.put, List.setIfInBounds_toArray, List.set_cons_zero, List.set_cons_succ]
          refine wpAnyN_take (i := 14) (v := ?_) rfl (by kernel_rfl) (by kernel_rfl) (by kernel_rfl) (by kernel_rfl) (fun _ _ _ h => h) (by assumption) (Or.inl ⟨by rfl, ?_⟩) ?_
          rotate_left
          · (intro wq hSw; (try dsimp only at hSw); go_simp; try (with_reducible rfl))
          try simp only [Act.put, List.setIfInBounds_toArray, List.set_cons_zero, List.set_cons_succ]
          refine wpAnyN_take (i := 16) (v := ?_) rfl (by kernel_rfl) (by kernel_rfl) (by kernel_rfl) (by kernel_rfl) (fun _ _ _ h => h) (by assumption) (Or.inl ⟨by rfl, ?_⟩) ?_
          rotate_left
          · (intro wq hSw; (try dsimp only at hSw); go_simp; try (with_reducible rfl))
          try simp only [Act.put, List.setIfInBounds_toArray, List.set_cons_zero, List.set_cons_succ]
          refine wpAnyN_take (i := 17) (v := ?_) rfl (by kernel_rfl) (by kernel_rfl) (by kernel_rfl) (by kernel_rfl) (fun _ _ _ h => h) (by assumption) (Or.inl ⟨by rfl, ?_⟩) ?_
          rotate_left
          · (intro wq hSw; (try dsimp only at hSw); go_simp; try (with_reducible rfl))
          try simp only [Act.put, List.setIfInBounds_toArray, List.set_cons_zero, List.set_cons_succ]
          refine wpAnyN_take (i := 18) (v := ?_) rfl (by kernel_rfl) (by kernel_rfl) (by kernel_rfl) (by kernel_rfl) (fun _ _ _ h => h) (by assumption) (Or.inl ⟨by rfl, ?_⟩) ?_
          rotate_left
          · (intro wq hSw; (try dsimp only at hSw); go_simp; try (with_reducible rfl))
          try simp only [Act.put, List.setIfInBounds_toArray, List.set_cons_zero, List.set_cons_succ]
          refine wpAnyN_take (i := 19) (v := ?_) rfl (by kernel_rfl) (by kernel_rfl) (by kernel_rfl) (by kernel_rfl) (fun _ _ _ h => h) (by assumption) (Or.inl ⟨by rfl, ?_⟩) ?_
          rotate_left
          · (intro wq hSw; (try dsimp only at hSw); go_simp; try (with_reducible rfl))
          try simp only [Act.put, List.setIfInBounds_toArray, List.set_cons_zero, List.set_cons_succ]
          refine wpAnyN_take (i := 20) (v := ?_) rfl (by kernel_rfl) (by kernel_rfl) (by kernel_rfl) (by kernel_rfl) (fun _ _ _ h => h) (by assumption) (Or.inl ⟨by rfl, ?_⟩) ?_
          rotate_left
          · (intro wq hSw; (try dsimp only at hSw); go_simp; try (with_reducible rfl))
          try simp only [Act.put, List.setIfInBounds_toArray, List.set_cons_zero, List.set_cons_succ]
          refine wpAnyN_take (i := 21) (v := ?_) rfl (by kernel_rfl) (by kernel_rfl) (by kernel_rfl) (by kernel_rfl) (fun _ _ _ h => h) (by assumption) (Or.inl ⟨by rfl, ?_⟩) ?_
          rotate_left
          · (intro wq hSw; (try dsimp only at hSw); go_simp; try (with_reducible rfl))
          try simp only [Act.put, List.setIfInBounds_toArray, List.set_cons_zero, List.set_cons_succ]
          refine wpAnyN_take (i := 22) (v := ?_) rfl (by kernel_rfl) (by kernel_rfl) (by kernel_rfl) (by kernel_rfl) (fun _ _ _ h => h) (by assumption) (Or.inl ⟨by rfl, ?_⟩) ?_
          rotate_left
          · (intro wq hSw; (try dsimp only at hSw); go_simp; try (with_reducible rfl))
          try simp only [Act.put, List.setIfInBounds_toArray, List.set_cons_zero, List.set_cons_succ]
          refine wpAnyN_take (i := 23) (v := ?_) rfl (by kernel_rfl) (by kernel_rfl) (by kernel_rfl) (by kernel_rfl) (fun _ _ _ h => h) (by assumption) (Or.inl ⟨by rfl, ?_⟩) ?_
          rotate_left
          · (intro wq hSw; (try dsimp only at hSw); go_simp; try (with_reducible rfl))
          try simp only [Act.put, List.setIfInBounds_toArray, List.set_cons_zero, List.set_cons_succ]
          refine wpAnyN_take (i := 24) (v := ?_) rfl (by kernel_rfl) (by kernel_rfl) (by kernel_rfl) (by kernel_rfl) (fun _ _ _ h => h) (by assumption) (Or.inl ⟨by rfl, ?_⟩) ?_
          rotate_left
          · (intro wq hSw; (try dsimp only at hSw); go_simp; try (with_reducible rfl))
          try simp only [Act.put, List.setIfInBounds_toArray, List.set_cons_zero, List.set_cons_succ]
          refine wpAnyN_take (i := 25) (v := ?_) rfl (by kernel_rfl) (by kernel_rfl) (by kernel_rfl) (by kernel_rfl) (fun _ _ _ h => h) (by assumption) (Or.inl ⟨by rfl, ?_⟩) ?_
          rotate_left
          · (intro wq hSw; (try dsimp only at hSw); go_simp; try (with_reducible rfl))
          try simp only [Act.put, List.setIfInBounds_toArray, List.set_cons_zero, List.set_cons_succ]
          refine wpAnyN_one (i := 5) (by kernel_rfl) rfl (fun K hK => ?_)
          go_simp
          refine hK.out _ _ ?_ (fun hHeld => ?_)
          · exact ⟨zq5, zt5⟩
          clear hK K
          try simp only [Act.put, List.setIfInBounds_toArray, List.set_cons_zero, List.set_cons_succ]
          refine wpAnyN_one (i := 15) (by kernel_rfl) rfl (fun K hK => ?_)
          refine step_append_any_sep rfl (.tmp 56) (.tmp 65) 33 rfl i7 _ 72 Try.underlying33 hi7 hy0 hy1 hy2 rfl (by decide) rfl s5 (some ⟨gq, 0, none⟩) j capr2 _ rfl (Sat.srcTake (enc := icells) (s := 7) (fun _ => rfl) (Nat.le_of_lt hlt) s5.drop) (items_one _) (by unfold maxLen; omega) (by omega) ?_
          intro v1 w1 hS1 _
          have zt1 := Sat.tabCell hi rfl (Sat.up2 hS1)
          rw [hhd] at zt1
          have zq1 := Sat.cell (Sat.up3 hS1) 3
          refine hK.out _ _ ?_ (fun hHeld => ?_)
          · exact ⟨zq1, zt1.1⟩
          clear hK K
          try simp only [Act.put, List.setIfInBounds_toArray, List.set_cons_zero, List.set_cons_succ]
          refine wpAnyN_one (i := 26) (by kernel_rfl) rfl (fun K hK => ?_)
          refine step_append_any_sep rfl (.tmp 66) (.tmp 76) 33 rfl i7 _ 72 Try.underlying33 hi7 hy0 hy1 hy2 rfl (by decide) rfl hS1 _ _ _ _ rfl (Sat.srcDropIf (enc := icells) (s := 7) (fun _ => rfl) hlt hq1' hS1.drop) (items_one _) (by unfold maxLen; omega) (by omega) ?_
          intro v2 w3 hS2 _
          have zt2 := Sat.tabCell hi rfl (Sat.up2 hS2)
          rw [hhd] at zt2
          have zq2 := Sat.cell (Sat.up3 hS2) 3
          obtain ⟨A2, c2, hv2, _⟩ := Sat.row hS2
          subst hv2
          refine hK.out _ _ ?_ (fun hHeld => ?_)
          · exact ⟨zq2, zt2.1⟩
          clear hK K
          try simp only [Act.put, List.setIfInBounds_toArray, List.set_cons_zero, List.set_cons_succ]
          refine wpAnyN_take (i := 27) (v := ?_) rfl (by kernel_rfl) (by kernel_rfl) (by kernel_rfl) (by kernel_rfl) (fun _ _ _ h => h) (by assumption) (Or.inl ⟨by rfl, ?_⟩) ?_
          rotate_left
          · (intro wq hSw; (try dsimp only at hSw); go_simp; try (with_reducible rfl))
          try simp only [Act.put, List.setIfInBounds_toArray, List.set_cons_zero, List.set_cons_succ]
          refine wpAnyN_last (by kernel_rfl) rfl (by kernel_rfl) (fun K hK => ?_)
          go_simp
          refine hK.out _ _ ?_
          clear hK K
          try simp only [Act.put, List.setIfInBounds_toArray, List.set_cons_zero, List.set_cons_succ]
          have s8 : Sat X _ (netL W p vE E.length nI ⟨.slice (some ⟨gc, 0, none⟩) E.length capc, vG, .slice (some ⟨gb, 0, none⟩) nI capb, vR, vM, vX, vH, vF⟩ { N with box := upd N.box i ((N.box i).take j ++ (N.box i).drop (j + 1)), chan := upd N.chan y.1 (N.chan y.1 ++ [y.2]) } ++ F) :=
            Sat.dn3 (Sat.tabStore (D' := upd N.box i ((N.box i).take j ++ (N.box i).drop (j + 1))) hi rfl (fun j hj => upd_ne _ _ hj) (by
              rw [upd_same, List.flatMap_append, List.length_append, List.length_take, List.length_drop, Nat.min_eq_left (Nat.le_of_lt hlt)]
              simpa using hS2.swap.drop))
          generalize hwz : w3.setCell _ _ = wz at s8 ⊢
          clear hwz hS2 hS1 zt1 zt2 zq1 zq2 zq5 zt5 s5 s1
          have e := flush_yes hlt (fun k hk => HNO.out k (by omega) hk) (by rw [HY.out]; have := HFR.out; simp [free]; exact this)
          rw [HY.out] at e
          have HE2 := Lib.hid e
          clear e
          go_wp2
          all_goals rw [HE2.out]
          all_goals exact bodyPost_ret (v := .bool true) (by simp [results, Try.results12, go_sem]) rfl ⟨rfl, s8⟩
    · have hge : ((N.box i).length : Int) ≤ (j : Int) := by omega
      have HJ := Lib.hid (show j = (N.box i).length by omega)
      go_wp2
      have e : flush N i = none := flush_no fun k hk => HNO.out k hk (by rw [HJ.out]; exact hk)
      rw [e]
      exact bodyPost_ret (v := .bool false) (by simp [results, Try.results12, go_sem]) rfl ⟨rfl, hS⟩
end
end Go.Proofs.Ytacklfjpbboijaa
