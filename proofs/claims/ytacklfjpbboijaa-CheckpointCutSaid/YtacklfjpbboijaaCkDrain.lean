/-
  CheckpointCut, walks: take under the invariant, drain.
-/
import Derived.Test.YtacklfjpbboijaaCkSmall
namespace Go.Proofs.Ytacklfjpbboijaa
open Go.RowKit Go.Sep Go.Ck

section
variable {E : Edges} {nI : Nat} {N : Net}
theorem bar_not_passed {e n : Nat} {rest : List Msg} (hq : N.chan e = ⟨true, n⟩ :: rest) : ¬ passed E N e := by
  rintro ⟨_, h⟩
  unfold str at h
  rw [hq] at h
  simp [noBar] at h
/-- What a gate says while a checkpoint may be under way. -/
theorem gate_says (I : Inv E nI N (fun _ => False)) {i : Nat} (hi : i < nI) : (0 < (N.gate i).num → (N.gate i).kind = N.kind ∧ (N.gate i).num = N.num) ∧ (N.gate i).num ≤ N.num := by
  rcases Nat.eq_zero_or_pos N.num with h0 | h0
  · obtain ⟨_, h⟩ := I.idle h0
    obtain ⟨h1, _, _⟩ := h i hi
    exact ⟨fun h => by omega, by omega⟩
  · have g := ((I.act h0).gate i hi).2.2.2
    split at g
    · exact ⟨fun h => by omega, by omega⟩
    · have g2 := g.2
      split at g2
      · exact ⟨fun h => by omega, by omega⟩
      · exact ⟨fun _ => ⟨g2.2, g2.1⟩, by omega⟩
theorem bar_new (I : Inv E nI N (fun _ => False)) {e n : Nat} {rest : List Msg} (he : e < E.length) (ht : tt E e < nI) (hq : N.chan e = ⟨true, n⟩ :: rest) (h0 : 0 < N.num) : inb E e ∉ (N.gate (tt E e)).came := by
  have g := ((I.act h0).gate _ ht).2.2.2
  split at g
  · rw [g.2]; simp
  · exact fun h => bar_not_passed hq ((g.1 e he rfl).1 h)
theorem flush_num {i : Nat} {N' : Net} (h : flush N i = some N') : N'.num = N.num := by
  unfold flush at h
  split at h
  · cases h
  · cases h; rfl
theorem report_num (i : Nat) : (report E N i).num = N.num := by
  unfold report
  split <;> rfl
theorem hear_num (e : Nat) (m : Msg) (a : Int) : (hear E N e m a).num = N.num := by
  unfold hear
  simp only
  repeat' split
  all_goals rfl
theorem take_num (e : Nat) : (take E N e).1.num = N.num := by
  unfold take
  split
  · rfl
  · split
    · rfl
    · simp only
      split
      · rfl
      · split
        · rfl
        · split
          · exact hear_num _ _ _
          · split
            · exact report_num _
            · rfl
end

section
variable (W X w : World) (p : Nat) (vE : Value) (E : Edges) (nI : Nat) (V : Hdr) (N : Net) (F : List Asn)

theorem take_ok (WF' : WF E nI) (I : Inv E nI N (fun _ => False)) (hn5 : nI ≤ 5) (h9 : N.num ≤ 1000) (hB : Phi E nI N + Lam E N ≤ 10000000) (e : Nat) (he : e < E.length) (hE : EdgesAt W vE E) (h : Sat X w (netL W p vE E.length nI V N ++ F)) :
    Calls Try.prog 10 #[.pointer (some ⟨p, 0, none⟩), .int .i64 (e : Int)] w fun r w' =>
    r = .returned (.tuple #[.bool (take E N e).2.1, .bool (take E N e).2.2]) ∧ Sat X w' (netL W p vE E.length nI V (take E N e).1 ++ F) := by
  have ht := WF'.le e he
  obtain ⟨l1, l2⟩ := lens hB
  have l3 := boxed_len I hB
  obtain ⟨g1, g2⟩ := gate_says I ht
  have hin : inb E e < (N.gate (tt E e)).chs := by rw [I.chs _ ht]; exact inb_lt he
  rcases hq : N.chan e with _ | ⟨m, rest⟩
  · exact take_none W X w p vE E nI V N F e he ht hE hq h
  · have hok := I.crng e he m (by rw [hq]; exact List.mem_cons_self)
    obtain ⟨bar, n⟩ := m
    cases bar with
    | false =>
      have hn : n ≤ 2 := hok
      by_cases hb : N.box (tt E e) = []
      · exact take_mark W X w p vE E nI V N F e he ht hE hn5 n rest hq (by omega) hb I.kind hin (fun h => (g1 h).1) (by omega) l2 h
      · exact take_skip W X w p vE E nI V N F e he ht hE _ rest hq hb (.inr rfl) h
    | true =>
      have hn : n = N.num ∧ 1 ≤ N.num := hok
      by_cases hb : N.box (tt E e) = [] ∨ N.kind = 1
      · exact take_bar W X w p vE E nI V N F e he ht hE hn5 n rest hq (by omega) (by omega) hb I.kind hin (fun h => ⟨(g1 h).1, by rw [(g1 h).2, hn.1]⟩) (bar_new I he ht hq (by omega)) l3 (l1 _ ht) (fun y hy => (I.brng _ ht y hy).1) h
      · exact take_skip W X w p vE E nI V N F e he ht hE _ rest hq (fun h => hb (.inl h)) (.inl fun h => hb (.inr h)) h
theorem flush_ok' (I : Inv E nI N (fun _ => False)) (hn5 : nI ≤ 5) (h9 : N.num ≤ 1000) (hB : Phi E nI N + Lam E N ≤ 10000000) (i : Nat) (hi : i < nI) (hE : EdgesAt W vE E) (h : Sat X w (netL W p vE E.length nI V N ++ F)) :
    Calls Try.prog 12 #[.pointer (some ⟨p, 0, none⟩), .int .i64 (i : Int)] w fun r w' =>
    r = .returned (.bool (flush N i).isSome) ∧ Sat X w' (netL W p vE E.length nI V ((flush N i).getD N) ++ F) := by
  obtain ⟨l1, _⟩ := lens hB
  refine flush_ok W X w p vE E nI V N F i hi hn5 hE.1 (by have := l1 i hi; omega) (fun y hy => ?_) h
  obtain ⟨a, _, b⟩ := I.brng i hi y hy
  refine ⟨a, ?_⟩
  unfold okm at b
  split at b <;> omega

/-- What drain keeps. -/
structure Keep (E : Edges) (nI : Nat) (B : Nat) (N : Net) : Prop where
  inv : Inv E nI N (fun _ => False)
  num : N.num ≤ 1000
  bnd : Phi E nI N + Lam E N ≤ B
theorem keep_flush {E : Edges} {nI B : Nat} {N N' : Net} (K : Keep E nI B N) {i : Nat} (hi : i < nI) (h : flush N i = some N') : Keep E nI B N' ∧ Phi E nI N' < Phi E nI N := by
  have h2 := phi_flush K.inv hi h
  exact ⟨⟨inv_flush K.inv hi h, by rw [flush_num h]; exact K.num, by have := K.bnd; omega⟩, by omega⟩
theorem keep_take {E : Edges} {nI B : Nat} {N : Net} (WF' : WF E nI) (hE : E.length ≤ 6) (K : Keep E nI B N) {e : Nat} (he : e < E.length) : Keep E nI B (take E N e).1 ∧ (take E N e).2.2 = true ∧ ((take E N e).2.1 = false → (take E N e).1 = N) ∧ ((take E N e).2.1 = true → Phi E nI (take E N e).1 < Phi E nI N) := by
  obtain ⟨a, b, c⟩ := take_weighs WF' K.inv hE he
  obtain ⟨d, f⟩ := inv_take WF' K.inv he
  exact ⟨⟨f, by rw [take_num]; exact K.num, by have := K.bnd; omega⟩, d, a, b⟩

/-- Where drain's pass stands: N0 at its start, b: something has been done. -/
def At (E : Edges) (nI : Nat) (N0 N : Net) (b : Bool) : Prop := (b = false → N = N0) ∧ (b = true → Phi E nI N < Phi E nI N0)
theorem at_le {E : Edges} {nI : Nat} {N0 N : Net} {b : Bool} (h : At E nI N0 N b) : Phi E nI N ≤ Phi E nI N0 := by
  cases b with
  | false => rw [h.1 rfl]; exact Nat.le_refl _
  | true => exact Nat.le_of_lt (h.2 rfl)

set_option maxRecDepth 100000 in
set_option maxHeartbeats 4000000 in
theorem drain_ok {B : Nat} (hBB : B ≤ 10000000) (WF' : WF E nI) (K : Keep E nI B N) (hn5 : nI ≤ 5) (hE : EdgesAt W vE E) (h : Sat X w (netL W p vE E.length nI V N ++ F)) :
    Calls Try.prog 16 #[.pointer (some ⟨p, 0, none⟩)] w fun r w' =>
    r = .returned (.bool true) ∧ ∃ N', Keep E nI B N' ∧ Stuck E nI N' ∧ Sat X w' (netL W p vE E.length nI V N' ++ F) := by
  have HE := Lib.hid hE
  have HW := Lib.hid WF'
  obtain ⟨hE6, A, c, rfl, hc, _⟩ := hE
  have hE6' : (E.length : Int) ≤ 6 := by omega
  have hn5' : (nI : Int) ≤ 5 := by omega
  obtain ⟨ac, capc, hvc, hc1, hc2⟩ := Sat.ptrsLen (Sat.up1 h)
  obtain ⟨ag, capg, hvg, hg1, hg2⟩ := Sat.ptrsLen (Sat.up2 h)
  obtain ⟨vC, vG, vB, vR, vM, vX, vH, vF⟩ := V
  simp only at hvc hvg
  subst hvc hvg
  have H0 := Lib.hid (And.intro K h)
  clear K h WF'
  go_enter Try.func16, Try.ntmps16
  go_wp2
  go_loopg [3] (Phi E nI N + 1) (fun gk t wr => ∃ (N1 : Net) (b : Bool), t = .bool b ∧ gk = Phi E nI N1 + (if b = true then 1 else 0) ∧ Keep E nI B N1 ∧ (b = false → Stuck E nI N1) ∧ Sat X wr (netL W p (.slice A E.length c) E.length nI ⟨.slice ac E.length capc, .slice ag nI capg, vB, vR, vM, vX, vH, vF⟩ N1 ++ F))
  case atStart => exact ⟨N, true, rfl, by simp, H0.out.1, fun h => (by cases h), H0.out.2⟩
  case round =>
    obtain ⟨N1, b, rfl, rfl, K1, hst, hS⟩ := hrel
    have HK1 := Lib.hid K1
    have HST := Lib.hid hst
    clear K1 hst
    cases b with
    | false =>
      go_wp2
      exact bodyPost_ret (v := .bool true) (by simp [results, Try.results16, go_sem]) rfl ⟨rfl, N1, HK1.out, HST.out (by simp), hS⟩
    | true =>
      clear HST
      obtain ⟨k0, k1, k2, _, _, _, _, _, _, _, _, klt⟩ := net_cells W X wr p _ E nI _ _ _ hS
      try simp only at k2
      have hsub : IntKind.i64.wrap ((nI : Int) - 1) = (nI : Int) - 1 := IntWalk.i64_in _ (by omega)
      go_wp2
      obtain ⟨wo, rfl⟩ : ∃ wo : World, wo = wr := ⟨_, rfl⟩
      have HS := Lib.hid hS
      clear hS k0 k1 k2 hsub
      go_loopg [3, 4] nI (fun gk t i wr => ∃ (N2 : Net) (b : Bool) (j : Nat) (iv : Int), j ≤ nI ∧ t = .bool b ∧ i = .int .i64 iv ∧ iv = (j : Int) - 1 ∧ j = gk ∧ Keep E nI B N2 ∧ At E nI N1 N2 b ∧ (b = false → ∀ i', j ≤ i' → i' < nI → flush N1 i' = none) ∧ Sat X wr (netL W p (.slice A E.length c) E.length nI ⟨.slice ac E.length capc, .slice ag nI capg, vB, vR, vM, vX, vH, vF⟩ N2 ++ F))
      case atStart => exact ⟨N1, false, nI, _, Nat.le_refl _, rfl, rfl, rfl, rfl, HK1.out, ⟨fun _ => rfl, fun h => (by cases h)⟩, fun _ i' h1 h2 => absurd h2 (Nat.not_lt.2 h1), HS.out⟩
      case round =>
        obtain ⟨N2, b, j, iv, hj, rfl, rfl, hiv, rfl, K2, hat, hfl, hS⟩ := hrel
        have HK2 := Lib.hid K2
        have HA2 := Lib.hid hat
        have HF2 := Lib.hid hfl
        clear K2 hat hfl
        rcases j with _ | j
        · obtain rfl : iv = -1 := by omega
          clear hiv
          obtain ⟨k0, k1, k2, _, _, _, _, _, _, _, _, klt⟩ := net_cells W X wr p _ E nI _ _ _ hS
          try simp only at k0
          have hsub : IntKind.i64.wrap ((E.length : Int) - 1) = (E.length : Int) - 1 := IntWalk.i64_in _ (by omega)
          go_wp2
          obtain ⟨wp, rfl⟩ : ∃ wp : World, wp = wr := ⟨_, rfl⟩
          have HS2 := Lib.hid hS
          clear hS k0 k1 k2 hsub
          go_loopg [3, 5] E.length (fun gk t i wr => ∃ (N2 : Net) (b : Bool) (j : Nat) (iv : Int), j ≤ E.length ∧ t = .bool b ∧ i = .int .i64 iv ∧ iv = (j : Int) - 1 ∧ j = gk ∧ Keep E nI B N2 ∧ At E nI N1 N2 b ∧ (b = false → ∀ e, j ≤ e → e < E.length → (take E N1 e).2.1 = false) ∧ (b = false → ∀ i', i' < nI → flush N1 i' = none) ∧ Sat X wr (netL W p (.slice A E.length c) E.length nI ⟨.slice ac E.length capc, .slice ag nI capg, vB, vR, vM, vX, vH, vF⟩ N2 ++ F))
          case atStart => exact ⟨N2, b, E.length, _, Nat.le_refl _, rfl, rfl, rfl, rfl, HK2.out, HA2.out, fun _ i' h1 h2 => absurd h2 (Nat.not_lt.2 h1), fun hb i' hi' => HF2.out hb i' (Nat.zero_le _) hi', HS2.out⟩
          case round =>
            obtain ⟨N3, b3, j, iv, hj, rfl, rfl, hiv, rfl, K3, hat, htk, hfl, hS⟩ := hrel
            have HK3 := Lib.hid K3
            have HA3 := Lib.hid hat
            have HT3 := Lib.hid htk
            have HF3 := Lib.hid hfl
            clear K3 hat htk hfl HF2 HA2 HK2
            rcases j with _ | j
            · obtain rfl : iv = -1 := by omega
              clear hiv
              go_wp2
              go_roundg (Phi E nI N3 + (if b3 = true then 1 else 0))
              case measure =>
                cases b3 with
                | false => have := at_le HA3.out; simp; omega
                | true => have := (HA3.out.2 (by simp)); simp; omega
              case rel => exact ⟨N3, b3, rfl, rfl, HK3.out, fun hb => by rw [HA3.out.1 hb]; exact ⟨fun i' hi' => HF3.out hb i' hi', fun e he => HT3.out hb e (Nat.zero_le _) he⟩, hS⟩
            · obtain rfl : iv = (j : Int) := by omega
              clear hiv
              have hj0 : (0 : Int) ≤ (j : Int) := by omega
              have hjE : j < E.length := by omega
              obtain ⟨K4, t1, t2, t3⟩ := keep_take HW.out hE6 HK3.out hjE
              have hsub : IntKind.i64.wrap ((j : Int) - 1) = (j : Int) - 1 := IntWalk.i64_in _ (by omega)
              have hcall := take_ok W X wr p _ E nI _ N3 F HW.out HK3.out.inv hn5 HK3.out.num (Nat.le_trans HK3.out.bnd hBB) j hjE HE.out hS
              rw [t1] at hcall
              obtain ⟨d, hd⟩ : ∃ d, (take E N3 j).2.1 = d := ⟨_, rfl⟩
              rw [hd] at hcall t2 t3
              have HC := Lib.hid hcall
              have HK4 := Lib.hid K4
              have HT4 := Lib.hid (And.intro t2 (And.intro t3 hd))
              clear hcall K4 t1 t2 t3 hd
              cases b3 with
              | false =>
                cases d with
                | false =>
                  go_wp2_with ((go_at_call 10; (with_reducible refine HC.out.mono ?_); rintro e' w4 ⟨rfl, s4⟩))
                  go_roundg j
                  case measure => omega
                  case rel =>
                    refine ⟨(take E N3 j).1, false, j, _, by omega, rfl, rfl, rfl, rfl, HK4.out, ⟨fun _ => by rw [(HT4.out.1 (by simp))]; exact (HA3.out.1 (by simp)), fun h => (by cases h)⟩, fun _ e h1 h2 => ?_, fun _ => HF3.out (by simp), s4⟩
                    by_cases hej : e = j
                    · subst hej
                      rw [← (HA3.out.1 (by simp))]
                      exact HT4.out.2.2
                    · exact HT3.out (by simp) e (by omega) h2
                | true =>
                  go_wp2_with ((go_at_call 10; (with_reducible refine HC.out.mono ?_); rintro e' w4 ⟨rfl, s4⟩))
                  go_roundg j
                  case measure => omega
                  case rel =>
                    exact ⟨(take E N3 j).1, true, j, _, by omega, rfl, rfl, rfl, rfl, HK4.out, ⟨fun h => (by cases h), fun _ => by have := (HT4.out.2.1 (by simp)); have := at_le HA3.out; omega⟩, fun h => (by cases h), fun h => (by cases h), s4⟩
              | true =>
                cases d with
                | false =>
                  go_wp2_with ((go_at_call 10; (with_reducible refine HC.out.mono ?_); rintro e' w4 ⟨rfl, s4⟩))
                  go_roundg j
                  case measure => omega
                  case rel =>
                    exact ⟨(take E N3 j).1, true, j, _, by omega, rfl, rfl, rfl, rfl, HK4.out, ⟨fun h => (by cases h), fun _ => by rw [(HT4.out.1 (by simp))]; exact (HA3.out.2 (by simp))⟩, fun h => (by cases h), fun h => (by cases h), s4⟩
                | true =>
                  go_wp2_with ((go_at_call 10; (with_reducible refine HC.out.mono ?_); rintro e' w4 ⟨rfl, s4⟩))
                  go_roundg j
                  case measure => omega
                  case rel =>
                    exact ⟨(take E N3 j).1, true, j, _, by omega, rfl, rfl, rfl, rfl, HK4.out, ⟨fun h => (by cases h), fun _ => by have := (HT4.out.2.1 (by simp)); have := at_le HA3.out; omega⟩, fun h => (by cases h), fun h => (by cases h), s4⟩
        · obtain rfl : iv = (j : Int) := by omega
          clear hiv
          have hj0 : (0 : Int) ≤ (j : Int) := by omega
          have hjn : j < nI := by omega
          have hsub : IntKind.i64.wrap ((j : Int) - 1) = (j : Int) - 1 := IntWalk.i64_in _ (by omega)
          go_wp2
          obtain ⟨wp, rfl⟩ : ∃ wp : World, wp = wr := ⟨_, rfl⟩
          have HS2 := Lib.hid hS
          clear hS
          go_loopg [3] (Phi E nI N2) (fun gk t wr => ∃ (N3 : Net) (b : Bool), t = .bool b ∧ gk = Phi E nI N3 ∧ Keep E nI B N3 ∧ At E nI N1 N3 b ∧ (b = false → ∀ i', j + 1 ≤ i' → i' < nI → flush N1 i' = none) ∧ Sat X wr (netL W p (.slice A E.length c) E.length nI ⟨.slice ac E.length capc, .slice ag nI capg, vB, vR, vM, vX, vH, vF⟩ N3 ++ F))
          case atStart => exact ⟨N2, b, rfl, rfl, HK2.out, HA2.out, HF2.out, HS2.out⟩
          case round =>
            obtain ⟨N3, b3, rfl, rfl, K3, hat, hfl, hS⟩ := hrel
            have HK3 := Lib.hid K3
            have HA3 := Lib.hid hat
            have HF3 := Lib.hid hfl
            have hcall := flush_ok' W X wr p _ E nI _ N3 F K3.inv hn5 K3.num (Nat.le_trans K3.bnd hBB) j hjn HE.out hS
            clear K3 hat hfl HA2 HF2 HK2
            rcases hf : flush N3 j with _ | N4
            · rw [hf] at hcall
              have HC := Lib.hid hcall
              have HFN := Lib.hid hf
              clear hcall hf
              go_wp2_with ((go_at_call 12; (with_reducible refine HC.out.mono ?_); rintro e' w4 ⟨rfl, s4⟩))
              go_roundg j
              case measure => omega
              case rel =>
                refine ⟨N3, b3, j, _, by omega, rfl, rfl, rfl, rfl, HK3.out, HA3.out, fun hb i' h1 h2 => ?_, s4⟩
                by_cases hij : i' = j
                · subst hij
                  rw [← HA3.out.1 hb]
                  exact HFN.out
                · exact HF3.out hb i' (by omega) h2
            · rw [hf] at hcall
              have HC := Lib.hid hcall
              have HK4 := Lib.hid (keep_flush HK3.out hjn hf)
              clear hcall hf
              go_wp2_with ((go_at_call 12; (with_reducible refine HC.out.mono ?_); rintro e' w4 ⟨rfl, s4⟩))
              go_roundg (Phi E nI N4)
              case measure => have := HK4.out.2; omega
              case rel => exact ⟨N4, true, rfl, rfl, HK4.out.1, ⟨fun h => (by cases h), fun _ => by have := HK4.out.2; have := at_le HA3.out; omega⟩, fun h => (by cases h), s4⟩
end
end Go.Proofs.Ytacklfjpbboijaa
