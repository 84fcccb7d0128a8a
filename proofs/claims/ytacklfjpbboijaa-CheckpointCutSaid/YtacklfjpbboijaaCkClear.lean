/-
  CheckpointCut, walks: clear, whole, consistent.
-/
import Derived.Test.YtacklfjpbboijaaCkNet
namespace Go.Proofs.Ytacklfjpbboijaa
open Go.RowKit Go.Sep Go.Ck

section
variable (W X w : World) (p : Nat) (vE : Value) (E : Edges) (nI : Nat) (V : Hdr) (N : Net) (F : List Asn)

theorem repSet {N N' : Net} {nI k g cap : Nat} {X w : World} {l : List Asn} {v : Value} (b : Bool) (hv : v = .slice (some ⟨g, 0, none⟩) nI cap) (hr : N'.rep k = b) (hr' : ∀ i, i ≠ k → N'.rep i = N.rep i)
    (h : Sat X w (rowA 4 1 v nI ((List.range nI).map fun i => .bool (N.rep i)) :: l)) : Sat X (w.setCell ⟨g, k, none⟩ (.bool b)) (rowA 4 1 v nI ((List.range nI).map fun i => .bool (N'.rep i)) :: l) := by
  subst hv
  have h1 := h.rowSet k (.bool b)
  have e := map_range_set (n := nI) (fun i => Value.bool (N.rep i)) (fun i => .bool (N'.rep i)) (j := k) (fun i hi => by rw [hr' i hi])
  simp only [hr] at e
  rw [e] at h1
  exact h1

set_option maxRecDepth 100000 in
set_option maxHeartbeats 2000000 in
theorem clear_ok (hn : 0 < nI) (hn5 : nI ≤ 5) (hE : EdgesAt W vE E) (h : Sat X w (netL W p vE E.length nI V N ++ F)) : Calls Try.prog 15 #[.pointer (some ⟨p, 0, none⟩)] w fun r w' =>
    r = .returned (.tuple #[]) ∧ Sat X w' (netL W p vE E.length nI V (clear N) ++ F) := by
  obtain ⟨hE6, A, c, rfl, hc, _⟩ := hE
  have hE6' : (E.length : Int) ≤ 6 := by omega
  have hn5' : (nI : Int) ≤ 5 := by omega
  have hlen : E.length = 0 ∨ 0 < E.length := by omega
  obtain ⟨g, cap, hr, _, hcap, hg, _, _⟩ := Sat.rowAt (Sat.up4 h) hn
  obtain ⟨vC, vG, vB, vR, vM, vX, vH, vF⟩ := V
  simp only at hr
  subst hr
  have hpg : p ≠ g := (Sat.apart (Sat.up4 h) has_row (has_pt _ _)).symm
  have hgp : g ≠ p := hpg.symm
  obtain ⟨k0, _, _, _, k4, _, _, _, _, _, _, hlt⟩ := net_cells W X w p _ E nI _ N F h
  simp only at k4
  clear k4 k0
  go_enter Try.func15, Try.ntmps15
  go_wp2
  go_loopw [2] (fun t wr => ∃ k : Nat, k ≤ nI ∧ t = .int .i64 (k : Int) ∧ Sat X wr (netL W p (.slice A E.length c) E.length nI ⟨vC, vG, vB, .slice (some ⟨g, 0, none⟩) nI cap, vM, vX, vH, vF⟩ { N with rep := fun i => if i < k then false else N.rep i } ++ F)) (fun t _ => nI - (intOf t).toNat)
  case atStart =>
    refine ⟨0, Nat.zero_le _, rfl, ?_⟩
    simpa using h
  case round =>
    obtain ⟨k, hk, rfl, hS⟩ := hrel
    have hk0 : (0 : Int) ≤ (k : Int) := by omega
    obtain ⟨k0, _, _, _, k4, _, _, _, _, _, _, hltr⟩ := net_cells W X wr p _ E nI _ _ F hS
    simp only at k4
    by_cases hlt2 : k < nI
    · have hlti : (k : Int) < (nI : Int) := by omega
      obtain ⟨g', cap', hr', _, _, hg', hc', hf'⟩ := Sat.rowAt (Sat.up4 hS) hn
      simp only at hr'
      injection hr' with hr1
      injection hr1 with hr1
      injection hr1 with hr1
      subst hr1
      have hck := hc' k _ (map_range_get _ hlt2)
      have hfk := hf' k
      clear hc' hf'
      go_wp2
      go_roundw
      case rel =>
        refine ⟨k + 1, by omega, by go_num, ?_⟩
        exact Sat.dn4 (repSet (N' := { N with rep := fun i => if i < k + 1 then false else N.rep i }) false rfl (by simp) (fun i hi => by
          show (if i < k + 1 then false else N.rep i) = if i < k then false else N.rep i
          by_cases h1 : i < k
          · rw [if_pos (by omega), if_pos h1]
          · rw [if_neg (by omega), if_neg h1]) (Sat.up4 hS))
      case measure => simp [intOf]; omega
    · have hge : (nI : Int) ≤ (k : Int) := by omega
      have hkn : k = nI := by omega
      subst hkn
      have hS2 : Sat X wr (netL W p (.slice A E.length c) E.length k ⟨vC, vG, vB, .slice (some ⟨g, 0, none⟩) k cap, vM, vX, vH, vF⟩ { N with rep := fun _ => false } ++ F) := by
        refine Sat.dn4 ?_
        have h1 := Sat.up4 hS
        have e : ((List.range k).map fun i => Value.bool (if i < k then false else N.rep i)) = (List.range k).map fun _ => Value.bool false := List.map_congr_left fun i hi => by rw [if_pos (List.mem_range.1 hi)]
        simp only [e] at h1
        exact h1
      clear hS
      go_wp2
      clear k4 k0 hltr
      obtain ⟨wo, rfl⟩ : ∃ wo : World, wo = wr := ⟨_, rfl⟩
      go_loopw [3] (fun t wr => ∃ k2 : Nat, k2 ≤ E.length ∧ t = .int .i64 (k2 : Int) ∧ Sat X wr (netL W p (.slice A E.length c) E.length k ⟨vC, vG, vB, .slice (some ⟨g, 0, none⟩) k cap, vM, vX, vH, vF⟩ { N with rep := (fun _ => false), made := (fun e => if e < k2 then [] else N.made e), boxed := (fun e => if e < k2 then [] else N.boxed e), handled := (fun e => if e < k2 then [] else N.handled e), flying := (fun e => if e < k2 then [] else N.flying e) } ++ F)) (fun t _ => E.length - (intOf t).toNat)
      case atStart =>
        refine ⟨0, Nat.zero_le _, rfl, ?_⟩
        simpa using hS2
      case round =>
        obtain ⟨k2, hk2, rfl, hS3⟩ := hrel
        have hk20 : (0 : Int) ≤ (k2 : Int) := by omega
        obtain ⟨k0, _, _, _, _, k5, k6, k7, k8, _, _, hltr2⟩ := net_cells W X wr p _ E k _ _ F hS3
        by_cases hlt3 : k2 < E.length
        · have hlti : (k2 : Int) < (E.length : Int) := by omega
          obtain ⟨gm, cm, um, hm, m1, _, _, m3, m4⟩ := Sat.tabHdr (Sat.up5 hS3) hlt3
          obtain ⟨gx, cx, ux, hx, x1, _, _, x3, x4⟩ := Sat.tabHdr (Sat.up6 hS3) hlt3
          obtain ⟨gh, ch, uh, hh, h1, _, _, h3, h4⟩ := Sat.tabHdr (Sat.up7 hS3) hlt3
          obtain ⟨gf, cf, uf, hf, f1, _, _, f3, f4⟩ := Sat.tabHdr (Sat.up8 hS3) hlt3
          simp only at hm hx hh hf
          subst hm hx hh hf
          have n1 : p ≠ gm := (Sat.apart (Sat.up5 hS3) has_tab (has_pt _ _)).symm
          have n2 : p ≠ gx := (Sat.apart (Sat.up6 hS3) has_tab (has_pt _ _)).symm
          have n3 : p ≠ gh := (Sat.apart (Sat.up7 hS3) has_tab (has_pt _ _)).symm
          have n4 : p ≠ gf := (Sat.apart (Sat.up8 hS3) has_tab (has_pt _ _)).symm
          have n5 : gm ≠ gx := Sat.apart (Sat.up6 (Sat.up6 hS3)) has_tab has_tab
          have n6 : gm ≠ gh := Sat.apart (Sat.up6 (Sat.up7 hS3)) has_tab has_tab
          have n7 : gm ≠ gf := Sat.apart (Sat.up6 (Sat.up8 hS3)) has_tab has_tab
          have n8 : gx ≠ gh := Sat.apart (Sat.up7 (Sat.up7 hS3)) has_tab has_tab
          have n9 : gx ≠ gf := Sat.apart (Sat.up7 (Sat.up8 hS3)) has_tab has_tab
          have n0 : gh ≠ gf := Sat.apart (Sat.up8 (Sat.up8 hS3)) has_tab has_tab
          have q1 := n1.symm
          have q2 := n2.symm
          have q3 := n3.symm
          have q4 := n4.symm
          try simp only at k5 k6 k7 k8
          go_wp2
          go_roundw
          case rel =>
            refine ⟨k2 + 1, by omega, by go_num, ?_⟩
            have hup : ∀ (D : Nat → List Nat), (∀ j, j ≠ k2 → (fun e => if e < k2 + 1 then [] else D e) j = (fun e => if e < k2 then [] else D e) j) ∧ (fun e => if e < k2 + 1 then [] else D e) k2 = [] := fun D => ⟨fun j hj => by
              show (if j < k2 + 1 then [] else D j) = if j < k2 then [] else D j
              by_cases h1 : j < k2
              · rw [if_pos (by omega), if_pos h1]
              · rw [if_neg (by omega), if_neg h1], by simp⟩
            have s1 := Sat.dn5 (Sat.tabNil (D' := fun e => if e < k2 + 1 then [] else N.made e) (Sat.up5 hS3) hlt3 rfl (hup N.made).2 (hup N.made).1)
            have s2 := Sat.dn6 (Sat.tabNil (D' := fun e => if e < k2 + 1 then [] else N.boxed e) (Sat.up6 s1) hlt3 rfl (hup N.boxed).2 (hup N.boxed).1)
            have s3 := Sat.dn7 (Sat.tabNil (D' := fun e => if e < k2 + 1 then [] else N.handled e) (Sat.up7 s2) hlt3 rfl (hup N.handled).2 (hup N.handled).1)
            exact Sat.dn8 (Sat.tabNil (D' := fun e => if e < k2 + 1 then [] else N.flying e) (Sat.up8 s3) hlt3 rfl (hup N.flying).2 (hup N.flying).1)
          case measure => simp [intOf]; omega
        · have hge2 : (E.length : Int) ≤ (k2 : Int) := by omega
          have HK := Lib.hid (show k2 = E.length by omega)
          go_wp2
          go_end0
          have hk' := HK.out
          subst hk'
          refine ⟨rfl, ?_⟩
          have hz : ∀ (D : Nat → List Nat) j, j < E.length → ([] : List Nat) = (fun e => if e < E.length then [] else D e) j := fun D j hj => by simp [hj]
          have s1 := Sat.dn5 (Sat.tabCongr (D' := fun _ => ([] : List Nat)) (Sat.up5 hS3) (hz N.made))
          have s2 := Sat.dn6 (Sat.tabCongr (D' := fun _ => ([] : List Nat)) (Sat.up6 s1) (hz N.boxed))
          have s3 := Sat.dn7 (Sat.tabCongr (D' := fun _ => ([] : List Nat)) (Sat.up7 s2) (hz N.handled))
          exact Sat.dn8 (Sat.tabCongr (D' := fun _ => ([] : List Nat)) (Sat.up8 s3) (hz N.flying))
end
end Go.Proofs.Ytacklfjpbboijaa
