/-
  CheckpointCut, walks: whole.
-/
import Derived.Test.YtacklfjpbboijaaCkClear
namespace Go.Proofs.Ytacklfjpbboijaa
open Go.RowKit Go.Sep Go.Ck

theorem icells_len (y : Nat × Msg) : (icells y).length = 7 := rfl
theorem mcells_len (m : Msg) : (mcells m).length = 6 := rfl
theorem code_bar {m : Msg} (h : m.bar = true) : (code m).1 = 1 := by unfold code; rw [h]; rfl
theorem code_mark {m : Msg} (h : m.bar = false) : (code m).1 = 2 := by unfold code; rw [h]; rfl

theorem chan_len {c : Nat} {q : List Msg} {X w : World} {l : List Asn} (h : Sat X w (chanA c q :: l)) : q.length ≤ 4 := by
  obtain ⟨_, _, _, _, h1, _⟩ := chan_open h
  exact h1
/-- A gate's number in its cell. -/
theorem gateCell {g : Nat} {G : Gate} {X w : World} {l : List Asn} (h : Sat X w (gateA g G :: l)) : w.cell? ⟨g, 2, none⟩ = some (.int .i64 (G.num : Int)) := by
  obtain ⟨mb, h1⟩ := gate_open g G X w l h
  exact h1.cell 2

section
variable (W X w : World) (p : Nat) (vE : Value) (E : Edges) (nI : Nat) (V : Hdr) (N : Net) (F : List Asn)

set_option maxHeartbeats 400000 in
theorem busy_any (g : Nat) (n : Nat) (w : World) (h : w.cell? ⟨g, 2, none⟩ = some (.int .i64 (n : Int))) :
    Calls Try.prog 21 #[.pointer (some ⟨g, 0, none⟩)] w fun e w' => e = .returned (.bool (decide (0 < n))) ∧ w' = w := by
  rcases Nat.eq_zero_or_pos n with h0 | h0
  · subst h0
    exact busy_no g w h
  · have : decide (0 < n) = true := by simpa using h0
    rw [this]
    exact busy_yes g n w h0 h

theorem whole_false_gate {i : Nat} (hi : i < nI) (h : N.rep i = false ∨ (N.gate i).busy = true ∨ noBarI (N.box i) = false) : whole E nI N = false := by
  cases hq : whole E nI N with
  | false => rfl
  | true =>
    unfold whole at hq
    simp only [Bool.and_eq_true, List.all_eq_true, List.mem_range] at hq
    obtain ⟨⟨h1, h2⟩, h3⟩ := hq.1 i hi
    rcases h with h | h | h
    · rw [h] at h1; cases h1
    · rw [h] at h2; cases h2
    · rw [h] at h3; cases h3
theorem whole_false_chan {e : Nat} (he : e < E.length) (h : noBar (N.chan e) = false) : whole E nI N = false := by
  cases hq : whole E nI N with
  | false => rfl
  | true =>
    unfold whole at hq
    simp only [Bool.and_eq_true, List.all_eq_true, List.mem_range] at hq
    have := hq.2 e he
    rw [h] at this; cases this
theorem whole_true (h1 : ∀ i, i < nI → N.rep i = true ∧ (N.gate i).busy = false ∧ noBarI (N.box i) = true) (h2 : ∀ e, e < E.length → noBar (N.chan e) = true) : whole E nI N = true := by
  unfold whole
  simp only [Bool.and_eq_true, List.all_eq_true, List.mem_range]
  refine ⟨fun i hi => ?_, h2⟩
  obtain ⟨a, b, c⟩ := h1 i hi
  exact ⟨⟨a, by rw [b]; rfl⟩, c⟩

set_option maxRecDepth 100000 in
set_option maxHeartbeats 2000000 in
theorem whole_ok (hn : 0 < nI) (hn5 : nI ≤ 5) (hE : EdgesAt W vE E) (hbx : ∀ i, i < nI → (N.box i).length ≤ 10000000) (h : Sat X w (netL W p vE E.length nI V N ++ F)) : Calls Try.prog 13 #[.pointer (some ⟨p, 0, none⟩)] w fun r w' =>
    r = .returned (.bool (whole E nI N)) ∧ Sat X w' (netL W p vE E.length nI V N ++ F) := by
  obtain ⟨hE6, _⟩ := hE
  have hE6' : (E.length : Int) ≤ 6 := by omega
  have hn5' : (nI : Int) ≤ 5 := by omega
  obtain ⟨gg, capg, _, hvg, hgg, _, _⟩ := Sat.ptrs (Sat.up2 h) hn
  obtain ⟨gr, capr, hvr, hr1, hr2, hgr, hrc, hrf⟩ := Sat.rowAt (Sat.up4 h) hn
  obtain ⟨gb, capb, _, hvb, hb1, hb2, hgb, _, _⟩ := Sat.tabHdr (Sat.up3 h) hn
  obtain ⟨ac, capc, hvc, hc1, hc2⟩ := Sat.ptrsLen (Sat.up1 h)
  obtain ⟨vC, vG, vB, vR, vM, vX, vH, vF⟩ := V
  simp only at hvg hvr hvb hvc
  subst hvg hvr hvb hvc
  obtain ⟨_, kc, k2, k3, k4, _, _, _, _, _, _, hlt⟩ := net_cells W X w p _ E nI _ N F h
  try simp only at kc k2 k3 k4
  have HF := Lib.hid h
  clear h
  have HB := Lib.hid hbx
  clear hbx
  have HR := Lib.hid hrc
  clear hrc hrf
  go_enter Try.func13, Try.ntmps13
  go_wp2
  go_loop [3] (fun t => ∃ k : Nat, k ≤ nI ∧ t = .int .i64 (k : Int) ∧ ∀ i, i < k → N.rep i = true ∧ (N.gate i).busy = false ∧ noBarI (N.box i) = true) (fun t => nI - (intOf t).toNat)
  case atStart => exact ⟨0, Nat.zero_le _, rfl, fun i hi => by omega⟩
  case round =>
    obtain ⟨k, hk, rfl, hno⟩ := hrel
    have HN := Lib.hid hno
    clear hno
    have hk0 : (0 : Int) ≤ (k : Int) := by omega
    by_cases hlt2 : k < nI
    · have hlti : (k : Int) < (nI : Int) := by omega
      have hrk : w.cell? ⟨gr, k, none⟩ = some (.bool (N.rep k)) := HR.out k _ (map_range_get _ hlt2)
      obtain ⟨gg', capg', ca, hv', _, hgc, hgs⟩ := Sat.ptrs (Sat.up2 HF.out) hlt2
      obtain ⟨rfl, _, rfl⟩ := slice_inj hv'
      have hnum := gateCell hgs
      clear hgs
      have HG := Lib.hid (fun hh => whole_false_gate E nI N hlt2 hh)
      cases hrep : N.rep k with
      | false =>
        rw [hrep] at hrk
        have HP := Lib.hid hrep
        clear hrep
        go_wp2
        go_ret
        exact ⟨by rw [HG.out (.inl HP.out)]; rfl, HF.out⟩
      | true =>
        rw [hrep] at hrk
        have HP := Lib.hid hrep
        clear hrep
        by_cases hbz : 0 < (N.gate k).num
        · have hbd : decide (0 < (N.gate k).num) = true := by simpa using hbz
          have HZ := Lib.hid (show (N.gate k).busy = true from hbd)
          clear hbz
          go_wp2_with (go_at_call 21; (with_reducible refine (busy_any _ (N.gate k).num _ (by go_simp)).mono ?_); rw [hbd]; rintro e w' ⟨rfl, rfl⟩)
          go_ret
          exact ⟨by rw [HG.out (.inr (.inl HZ.out))]; rfl, HF.out⟩
        · have hbd : decide (0 < (N.gate k).num) = false := by simpa using hbz
          have HZ := Lib.hid (show (N.gate k).busy = false from hbd)
          clear hbz
          obtain ⟨gb', capb', hd, hv', _, hbc, _, hbs⟩ := Sat.tab (Sat.up3 HF.out) hlt2
          obtain ⟨rfl, _, rfl⟩ := slice_inj hv'
          obtain ⟨A, cap, hhd, hA1, hA2, hA3, hA4⟩ := Sat.row hbs
          rw [hhd] at hbc
          clear hhd hbs
          have hbl := HB.out k hlt2
          have hbl0 : (0 : Int) ≤ ((N.box k).length : Int) := by omega
          have hbl1 : ((N.box k).length : Int) ≤ 10000000 := by omega
          have HA := Lib.hid hA4
          have HA3 := Lib.hid hA3
          clear hA4 hA3
          go_wp2_with (go_at_call 21; (with_reducible refine (busy_any _ (N.gate k).num _ (by go_simp)).mono ?_); rw [hbd]; rintro e w' ⟨rfl, rfl⟩)
          go_loop [4] (fun t => ∃ j : Nat, j ≤ (N.box k).length ∧ t = .int .i64 (j : Int) ∧ ∀ q (hq : q < (N.box k).length), q < j → ((N.box k)[q]).2.bar = false) (fun t => (N.box k).length - (intOf t).toNat)
          case atStart => exact ⟨0, Nat.zero_le _, rfl, fun q _ hq => by omega⟩
          case round =>
            obtain ⟨j, hj, rfl, hnob⟩ := hrel
            have HNB := Lib.hid hnob
            clear hnob
            have hj0 : (0 : Int) ≤ (j : Int) := by omega
            by_cases hlt3 : j < (N.box k).length
            · have hlti3 : (j : Int) < ((N.box k).length : Int) := by omega
              cases A with
              | none => have := HA3.out rfl; omega
              | some a =>
                obtain ⟨g0, rfl, hg0, hcell, _⟩ := HA.out a rfl
                have hjc := hcell (j * 7 + 1) _ (by rw [fm_get icells_len (N.box k) j hlt3 1 (by omega)]; rfl)
                clear hcell
                cases hbar : ((N.box k)[j]).2.bar with
                | true =>
                  rw [code_bar hbar] at hjc
                  have HX := Lib.hid (show noBarI (N.box k) = false by
                    cases hq : noBarI (N.box k) with
                    | false => rfl
                    | true =>
                      unfold noBarI at hq
                      rw [List.all_eq_true] at hq
                      have := hq _ (List.getElem_mem hlt3)
                      rw [hbar] at this
                      cases this)
                  clear hbar
                  go_wp2
                  go_ret
                  exact ⟨by rw [HG.out (.inr (.inr HX.out))]; rfl, HF.out⟩
                | false =>
                  rw [code_mark hbar] at hjc
                  have HX := Lib.hid hbar
                  clear hbar
                  go_wp2
                  go_round
                  case rel =>
                    refine ⟨j + 1, by omega, by go_num, fun q hq hqj => ?_⟩
                    by_cases hqe : q = j
                    · subst hqe; exact HX.out
                    · exact HNB.out q hq (by omega)
                  case measure => simp [intOf]; omega
            · have hge3 : ((N.box k).length : Int) ≤ (j : Int) := by omega
              have HX := Lib.hid (show noBarI (N.box k) = true by
                unfold noBarI
                rw [List.all_eq_true]
                intro y hy
                obtain ⟨q, hq, rfl⟩ := List.mem_iff_getElem.1 hy
                rw [HNB.out q hq (by omega)]
                rfl)
              go_wp2
              go_round
              case rel =>
                refine ⟨k + 1, by omega, by go_num, fun i hi => ?_⟩
                by_cases hik : i = k
                · subst hik; exact ⟨HP.out, HZ.out, HX.out⟩
                · exact HN.out i (by omega)
              case measure => simp [intOf]; omega
    · have hge : (nI : Int) ≤ (k : Int) := by omega
      have HK := Lib.hid (show k = nI by omega)
      go_wp2
      have hk' := HK.out
      subst hk'
      clear HK hk0 hge
      have H1 := Lib.hid HN.out
      clear HN HR
      go_loopw [5] (fun t wr => ∃ j : Nat, j ≤ E.length ∧ t = .int .i64 (j : Int) ∧ (∀ e, e < j → noBar (N.chan e) = true) ∧ Sat X wr (netL W p vE E.length k ⟨.slice ac E.length capc, .slice (some ⟨gg, 0, none⟩) k capg, .slice (some ⟨gb, 0, none⟩) k capb, .slice (some ⟨gr, 0, none⟩) k capr, vM, vX, vH, vF⟩ N ++ F)) (fun t _ => E.length - (intOf t).toNat)
      case atStart => exact ⟨0, Nat.zero_le _, rfl, fun e he => by omega, HF.out⟩
      case round =>
        obtain ⟨j, hj, rfl, hnob, hS⟩ := hrel
        have HNB := Lib.hid hnob
        clear hnob
        have hj0 : (0 : Int) ≤ (j : Int) := by omega
        obtain ⟨_, jc, _, _, _, _, _, _, _, _, _, _⟩ := net_cells W X wr p _ E k _ N F hS
        try simp only at jc
        by_cases hlt3 : j < E.length
        · have hlti3 : (j : Int) < (E.length : Int) := by omega
          obtain ⟨gc, capc', ca, hv', hgc, hcc, hcs⟩ := Sat.ptrs (Sat.up1 hS) hlt3
          injection hv' with hv1 _ hv3
          subst hv1 hv3
          have hql := chan_len hcs
          have HS := Lib.hid hcs
          clear hcs hS
          go_wp2_with (go_at_call 27; (with_reducible refine (list_ok _ _ X _ _ HS.out).mono ?_); rintro e w2 ⟨v, rfl, hS2⟩; obtain ⟨A2, cap2, rfl, a1, a2, a3, a4⟩ := Sat.row hS2; have HA3 := Lib.hid a3; have HA4 := Lib.hid a4; clear a3 a4)
          have hql0 : (0 : Int) ≤ ((N.chan j).length : Int) := by omega
          have hql4 : ((N.chan j).length : Int) ≤ 4 := by omega
          have HS2 := Lib.hid hS2
          clear hS2 HS
          go_loop [7] (fun t => ∃ d : Nat, d ≤ (N.chan j).length ∧ t = .int .i64 (d : Int) ∧ ∀ q (hq : q < (N.chan j).length), q < d → ((N.chan j)[q]).bar = false) (fun t => (N.chan j).length - (intOf t).toNat)
          case atStart => exact ⟨0, Nat.zero_le _, rfl, fun q _ hq => by omega⟩
          case round =>
            obtain ⟨d, hd, rfl, hnod⟩ := hrel
            have HND := Lib.hid hnod
            clear hnod
            have hd0 : (0 : Int) ≤ (d : Int) := by omega
            by_cases hlt4 : d < (N.chan j).length
            · have hlti4 : (d : Int) < ((N.chan j).length : Int) := by omega
              cases A2 with
              | none => have := HA3.out rfl; omega
              | some a =>
                obtain ⟨g0, rfl, hg0, hcell, _⟩ := HA4.out a rfl
                have hjc := hcell (d * 6 + 0) _ (by rw [fm_get mcells_len (N.chan j) d hlt4 0 (by omega)]; rfl)
                rw [Nat.add_zero] at hjc
                clear hcell
                cases hbar : ((N.chan j)[d]).bar with
                | true =>
                  rw [code_bar hbar] at hjc
                  have HX := Lib.hid (show noBar (N.chan j) = false by
                    cases hq : noBar (N.chan j) with
                    | false => rfl
                    | true =>
                      unfold noBar at hq
                      rw [List.all_eq_true] at hq
                      have := hq _ (List.getElem_mem hlt4)
                      rw [hbar] at this
                      cases this)
                  have HZ := Lib.hid (whole_false_chan E k N hlt3 HX.out)
                  clear hbar
                  go_wp2
                  go_ret
                  refine ⟨by rw [HZ.out]; rfl, Sat.dn1 (Sat.ptrsBack (A' := fun c e => chanA c (N.chan e)) hlt3 (fun _ _ _ => rfl) (HS2.out.drop))⟩
                | false =>
                  rw [code_mark hbar] at hjc
                  have HX := Lib.hid hbar
                  clear hbar
                  go_wp2
                  go_round
                  case rel =>
                    refine ⟨d + 1, by omega, by go_num, fun q hq hqj => ?_⟩
                    by_cases hqe : q = d
                    · subst hqe; exact HX.out
                    · exact HND.out q hq (by omega)
                  case measure => simp [intOf]; omega
            · have hge4 : ((N.chan j).length : Int) ≤ (d : Int) := by omega
              have HX := Lib.hid (show noBar (N.chan j) = true by
                unfold noBar
                rw [List.all_eq_true]
                intro y hy
                obtain ⟨q, hq, rfl⟩ := List.mem_iff_getElem.1 hy
                rw [HND.out q hq (by omega)]
                rfl)
              go_wp2
              go_roundw
              case rel =>
                refine ⟨j + 1, by omega, by go_num, fun e he => ?_, Sat.dn1 (Sat.ptrsBack (A' := fun c e => chanA c (N.chan e)) hlt3 (fun _ _ _ => rfl) (HS2.out.drop))⟩
                by_cases hej : e = j
                · subst hej; exact HX.out
                · exact HNB.out e (by omega)
              case measure => simp [intOf]; omega
        · have hge3 : (E.length : Int) ≤ (j : Int) := by omega
          have HT := Lib.hid (whole_true E k N H1.out (fun e he => HNB.out e (by omega)))
          go_wp2
          go_ret
          exact ⟨by rw [HT.out]; rfl, hS⟩
end
end Go.Proofs.Ytacklfjpbboijaa
