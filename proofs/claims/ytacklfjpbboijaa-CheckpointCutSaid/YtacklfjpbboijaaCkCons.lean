/-
  CheckpointCut, walks: consistent, of a net that is.
-/
import Derived.Test.YtacklfjpbboijaaCkWhole
namespace Go.Proofs.Ytacklfjpbboijaa
open Go.RowKit Go.Sep Go.Ck

theorem Try.infoI : (Try.prog.info? 3).map (fun i => (i.zero, i.size, i.bytes)) = some (some (.int .i64 0), 1, 8) := by kernel_rfl
theorem ncell_len (n : Nat) : (ncell n).length = 1 := rfl
theorem ncell_one (L : List Nat) : ∀ u ∈ L.flatMap ncell, u.oneCell' = true := by
  intro u hu
  obtain ⟨n, _, hn⟩ := List.mem_flatMap.1 hu
  simp [ncell] at hn
  subst hn
  rfl
theorem fm_app (a b : List Nat) : a.flatMap ncell ++ b.flatMap ncell = (a ++ b).flatMap ncell := by rw [List.flatMap_append]

/-- A net of which the k-th rows of made, boxed, flying and handled are taken out. -/
def consL (W : World) (p : Nat) (vE : Value) (nE nI : Nat) (V : Hdr) (N : Net) (k : Nat) (hm hx hf hh : Nat → Value) (um ux uf uh : Value) : List Asn :=
  [rowA 3 1 um (N.made k).length ((N.made k).flatMap ncell), tabBut 58 3 1 ncell V.m nE N.made hm k,
   rowA 3 1 ux (N.boxed k).length ((N.boxed k).flatMap ncell), tabBut 58 3 1 ncell V.x nE N.boxed hx k,
   rowA 3 1 uf (N.flying k).length ((N.flying k).flatMap ncell), tabBut 58 3 1 ncell V.f nE N.flying hf k,
   rowA 3 1 uh (N.handled k).length ((N.handled k).flatMap ncell), tabBut 58 3 1 ncell V.h nE N.handled hh k,
   blk p 40 #[vE, V.c, V.g, V.b, V.r, V.m, V.x, V.h, V.f, .int .i64 (N.kind : Int), .int .i64 (N.num : Int)],
   ptrsA 49 V.c nE (fun c e => chanA c (N.chan e)),
   ptrsA 52 V.g nI (fun g i => gateA g (N.gate i)),
   tabA 33 57 7 icells V.b nI N.box,
   rowA 4 1 V.r nI ((List.range nI).map fun i => .bool (N.rep i)),
   old W]

section
variable {W X w : World} {p : Nat} {vE : Value} {nE nI : Nat} {V : Hdr} {N : Net} {F : List Asn} {k : Nat} {hm hx hf hh : Nat → Value} {um ux uf uh : Value}
theorem cons_shut (hk : k < nE) (h : Sat X w (consL W p vE nE nI V N k hm hx hf hh (hm k) (hx k) (hf k) (hh k) ++ F)) : Sat X w (netL W p vE nE nI V N ++ F) := by
  have h1 := Sat.tabBack hk h
  have h2 := Sat.tabBack hk (Sat.dn11 h1)
  have h3 := Sat.tabBack hk (Sat.dn10 h2)
  have h4 := Sat.tabBack hk (Sat.dn9 h3)
  exact Sat.dn7 h4
theorem cons_S {gm gx gf gh cm cx cf ch : Nat} (hk : k < nE) (_ : V.m = .slice (some ⟨gm, 0, none⟩) nE cm) (e2 : V.x = .slice (some ⟨gx, 0, none⟩) nE cx) (e3 : V.f = .slice (some ⟨gf, 0, none⟩) nE cf) (e4 : V.h = .slice (some ⟨gh, 0, none⟩) nE ch)
    (h : Sat X w (consL W p vE nE nI V N k hm hx hf hh um ux uf uh ++ F)) :
    w.cell? ⟨p, 7, none⟩ = some (.slice (some ⟨gh, 0, none⟩) nE ch) ∧ w.cell? ⟨p, 8, none⟩ = some (.slice (some ⟨gf, 0, none⟩) nE cf) ∧ w.cell? ⟨p, 6, none⟩ = some (.slice (some ⟨gx, 0, none⟩) nE cx) ∧
    w.cell? ⟨gh, k, none⟩ = some (hh k) ∧ w.cell? ⟨gf, k, none⟩ = some (hf k) ∧ w.cell? ⟨gx, k, none⟩ = some (hx k) := by
  have hb := Sat.up8 h
  exact ⟨e4 ▸ Sat.cell hb 7, e3 ▸ Sat.cell hb 8, e2 ▸ Sat.cell hb 6, (Sat.tabCell hk e4 (Sat.up7 h)).1, (Sat.tabCell hk e3 (Sat.up5 h)).1, (Sat.tabCell hk e2 (Sat.up3 h)).1⟩
theorem cons_more {gm cm : Nat} (hk : k < nE) (e1 : V.m = .slice (some ⟨gm, 0, none⟩) nE cm) (h : Sat X w (consL W p vE nE nI V N k hm hx hf hh um ux uf uh ++ F)) :
    w.cell? ⟨p, 0, none⟩ = some vE ∧ w.cell? ⟨p, 5, none⟩ = some (.slice (some ⟨gm, 0, none⟩) nE cm) ∧ w.cell? ⟨p, 9, none⟩ = some (.int .i64 (N.kind : Int)) ∧ w.cell? ⟨gm, k, none⟩ = some (hm k) := by
  have hb := Sat.up8 h
  exact ⟨Sat.cell hb 0, e1 ▸ Sat.cell hb 5, Sat.cell hb 9, (Sat.tabCell hk e1 (Sat.up1 h)).1⟩
end

section
variable (W X w : World) (p : Nat) (vE : Value) (E : Edges) (nI : Nat) (V : Hdr) (N : Net) (F : List Asn)

set_option maxRecDepth 100000 in
set_option maxHeartbeats 4000000 in
theorem consistent_ok (hE : EdgesAt W vE E) (hcons : consistent E N = true) (hlen : ∀ e, e < E.length → (N.made e).length ≤ 10000000) (h : Sat X w (netL W p vE E.length nI V N ++ F)) : Calls Try.prog 14 #[.pointer (some ⟨p, 0, none⟩)] w fun r w' =>
    r = .returned (.bool true) ∧ Sat X w' (netL W p vE E.length nI V N ++ F) := by
  obtain ⟨hE6, A, c, rfl, hc, _⟩ := hE
  obtain ⟨i0, hi, hz0, hz1, hz2⟩ := info_parts Try.infoI
  have hE6' : (E.length : Int) ≤ 6 := by omega
  have HC := Lib.hid (show ∀ e, e < E.length → (N.handled e ++ N.flying e ++ N.boxed e = N.made e ∧ (N.kind = 0 → N.flying e = [] ∧ N.boxed e = [])) by
    unfold consistent at hcons
    rw [List.all_eq_true] at hcons
    intro e he
    have := hcons e (List.mem_range.2 he)
    unfold consistentAt at this
    simp only [Bool.and_eq_true, beq_iff_eq, Bool.or_eq_true, Bool.not_eq_true', beq_eq_false_iff_ne, List.isEmpty_iff] at this
    exact ⟨this.1, fun hk => this.2.resolve_left (fun h => h hk)⟩)
  have HL := Lib.hid hlen
  clear hcons hlen
  go_enter Try.func14, Try.ntmps14
  go_wp2
  go_loopw [3] (fun t wr => ∃ k : Nat, k ≤ E.length ∧ t = .int .i64 (k : Int) ∧ Sat X wr (netL W p (.slice A E.length c) E.length nI V N ++ F)) (fun t _ => E.length - (intOf t).toNat)
  case atStart => exact ⟨0, Nat.zero_le _, rfl, h⟩
  case round =>
    clear h
    obtain ⟨k, hk, rfl, hS⟩ := hrel
    have hk0 : (0 : Int) ≤ (k : Int) := by omega
    obtain ⟨j0, _, _, _, _, _, _, _, _, _, _, _⟩ := net_cells W X wr p _ E nI _ N F hS
    by_cases hlt : k < E.length
    · have hlti : (k : Int) < (E.length : Int) := by omega
      obtain ⟨hcut, hal⟩ := HC.out k hlt
      have hml := HL.out k hlt
      have hlens : (N.handled k).length + (N.flying k).length + (N.boxed k).length = (N.made k).length := by rw [← hcut]; simp [Nat.add_assoc]
      -- the four rows
      obtain ⟨gh, ch, hdh, hvh, _, _, _, s1⟩ := Sat.tab (Sat.up7 hS) hlt
      obtain ⟨gf, cf, hdf, hvf, _, _, _, s2⟩ := Sat.tab (Sat.up9 s1) hlt
      obtain ⟨gx, cx, hdx, hvx, _, _, _, s3⟩ := Sat.tab (Sat.up10 s2) hlt
      obtain ⟨gm, cm, hdm, hvm, _, _, _, s4⟩ := Sat.tab (Sat.up11 s3) hlt
      have HS0 : Sat X wr (consL W p (.slice A E.length c) E.length nI V N k hdm hdx hdf hdh (hdm k) (hdx k) (hdf k) (hdh k) ++ F) := s4
      clear s1 s2 s3 s4 hS
      have HB := Lib.hid (fun w' => cons_S (X := X) (w := w') (W := W) (p := p) (vE := .slice A E.length c) (nI := nI) (V := V) (N := N) (F := F) (hm := hdm) (hx := hdx) (hf := hdf) (hh := hdh) (um := hdm k) (ux := hdx k) (uf := hdf k) (uh := hdh k) hlt hvm hvx hvf hvh)
      have HB2 := Lib.hid (fun w' => cons_more (X := X) (w := w') (W := W) (p := p) (vE := .slice A E.length c) (nI := nI) (V := V) (N := N) (F := F) (hm := hdm) (hx := hdx) (hf := hdf) (hh := hdh) (um := hdm k) (ux := hdx k) (uf := hdf k) (uh := hdh k) hlt hvm)
      have HSH := Lib.hid (fun w' => cons_shut (X := X) (w := w') (W := W) (p := p) (vE := .slice A E.length c) (nI := nI) (V := V) (N := N) (F := F) (hm := hdm) (hx := hdx) (hf := hdf) (hh := hdh) hlt)
      clear hvh hvf hvx hvm
      obtain ⟨Ah, caph, eh, _, _, ah1, ah2⟩ := Sat.row (Sat.up6 HS0)
      obtain ⟨Af, capf, ef, _, _, af1, af2⟩ := Sat.row (Sat.up4 HS0)
      obtain ⟨Ax, capx, ex, _, _, ax1, ax2⟩ := Sat.row (Sat.up2 HS0)
      obtain ⟨Am, capm, em, _, _, am1, am2⟩ := Sat.row HS0
      rw [eh, ef, ex, em] at HS0 HB HB2 HSH
      clear ah1 ah2 af1 af2 ax1 ax2 am1 am2 eh ef ex em
      obtain ⟨q7, q8, q6, qh, qf, qx⟩ := HB.out wr HS0
      have s5 := (Sat.rowEmpty HS0 3 1).drew
      have H5 := HB.out _ s5.drop
      go_wp2
      go_region_held3 (fun w' => w'.cell? ⟨p, 7, none⟩ = some (.slice (some ⟨gh, 0, none⟩) E.length ch) ∧ w'.cell? ⟨p, 8, none⟩ = some (.slice (some ⟨gf, 0, none⟩) E.length cf) ∧ w'.cell? ⟨p, 6, none⟩ = some (.slice (some ⟨gx, 0, none⟩) E.length cx) ∧ w'.cell? ⟨gh, k, none⟩ = some (.slice Ah (N.handled k).length caph) ∧ w'.cell? ⟨gf, k, none⟩ = some (.slice Af (N.flying k).length capf) ∧ w'.cell? ⟨gx, k, none⟩ = some (.slice Ax (N.boxed k).length capx))
        (first | (with_reducible exact HB.out _ hS3.drop) | (with_reducible exact HB.out _ hS2.drop) | (with_reducible exact HB.out _ hS1.drop) | (with_reducible exact H5) | (simp [q7, q8, q6, qh, qf, qx]; done))
        (first | ((refine step_append_any_sep rfl (.tmp 15) (.tmp 22) 58 rfl i0 _ 8 Try.underlying58 hi hz0 hz1 hz2 rfl (by decide) rfl s5 Ah _ _ _ rfl (Sat.src (Sat.up6 s5.drop)) (ncell_one _) (by unfold maxLen; omega) (by omega) ?_; intro v1 w1 hS1 _)) | ((refine step_append_any_sep rfl (.tmp 23) (.tmp 30) 58 rfl i0 _ 8 Try.underlying58 hi hz0 hz1 hz2 rfl (by decide) rfl hS1 Af _ _ _ rfl (Sat.src (Sat.up4 hS1.drop)) (ncell_one _) (by unfold maxLen; omega) (by omega) ?_; intro v2 w2 hS2 _)) | ((refine step_append_any_sep rfl (.tmp 31) (.tmp 38) 58 rfl i0 _ 8 Try.underlying58 hi hz0 hz1 hz2 rfl (by decide) rfl hS2 Ax _ _ _ rfl (Sat.src (Sat.up2 hS2.drop)) (ncell_one _) (by unfold maxLen; omega) (by omega) ?_; intro v3 w3 hS3 _)))
      clear H5 s5 q7 q8 q6 qh qf qx
      obtain ⟨r7, r8, r6, rh, rf, rx⟩ := HB.out w3 hS3.drop
      obtain ⟨r0, r5, r9, rm⟩ := HB2.out w3 hS3.drop
      have en : 0 + (N.handled k).length + (N.flying k).length + (N.boxed k).length = (N.made k).length := by omega
      have el : [] ++ (N.handled k).flatMap ncell ++ (N.flying k).flatMap ncell ++ (N.boxed k).flatMap ncell = (N.made k).flatMap ncell := by
        rw [← hcut, List.flatMap_append, List.flatMap_append]
        rfl
      rw [en, el] at hS3
      clear en el hcut
      obtain ⟨A3, cap3, rfl, b1, b2, b3, b4⟩ := Sat.row hS3
      obtain ⟨A4, cap4, e4, d1, d2, d3, d4⟩ := Sat.row hS3.drop
      injection e4 with e4 _ e5
      subst e4 e5
      have hml0 : (0 : Int) ≤ ((N.made k).length : Int) := by omega
      have hml1 : ((N.made k).length : Int) ≤ 10000000 := by omega
      have B3 := Lib.hid b3
      have B4 := Lib.hid b4
      have D3 := Lib.hid d3
      have D4 := Lib.hid d4
      have S3 := Lib.hid hS3
      clear b3 b4 d3 d4 hS3 hS1 hS2 HS0
      by_cases hkz : N.kind = 0
      all_goals
        first
        | (obtain ⟨z1, z2⟩ := hal hkz
           rw [z1] at rf
           rw [z2] at rx
           rw [hkz] at r9)
        | have hkd : ((N.kind : Int) == 0) = false := (by rw [beq_eq_false_iff_ne]; omega)
        clear hkz hal hlens
        go_wp2
        go_quiet (fail)
        go_wp2
        obtain ⟨wo, rfl⟩ : ∃ wo : World, wo = wr := ⟨_, rfl⟩
        go_loopw [5] (fun t wi => ∃ j d : Nat, j ≤ (N.made k).length ∧ t = .int .i64 (j : Int) ∧ wi = w3.drewN d) (fun t _ => (N.made k).length - (intOf t).toNat)
        case atStart => exact ⟨0, _, Nat.zero_le _, rfl, rfl⟩
        case round =>
          obtain ⟨j, d, hj, rfl, rfl⟩ := hrel
          have hj0 : (0 : Int) ≤ (j : Int) := by omega
          by_cases hlt4 : j < (N.made k).length
          · have hlti4 : (j : Int) < ((N.made k).length : Int) := by omega
            have hget : ((N.made k).flatMap ncell)[j]? = some (.int .i64 (((N.made k)[j] : Nat) : Int)) := by
              have := fm_get ncell_len (N.made k) j hlt4 0 (by omega)
              simpa [ncell] using this
            cases A3 with
            | none => have := B3.out rfl; omega
            | some a3 =>
              cases Am with
              | none => have := D3.out rfl; omega
              | some a4 =>
                obtain ⟨g3, rfl, _, c3, _⟩ := B4.out a3 rfl
                obtain ⟨g4, rfl, _, c4, _⟩ := D4.out a4 rfl
                have c3' := c3 j _ hget
                have c4' := c4 j _ hget
                clear c3 c4 hget
                generalize (N.made k)[j] = mv at c3' c4'
                go_wp2
                go_quiet (fail)
                go_wp2
                go_roundw
                case rel => exact ⟨j + 1, _, by omega, by go_num, rfl⟩
                case measure => simp [intOf]; omega
          · have hge4 : ((N.made k).length : Int) ≤ (j : Int) := by omega
            go_wp2
            go_roundw
            case rel => exact ⟨k + 1, by omega, by go_num, HSH.out _ ((S3.out.drop).drewN _)⟩
            case measure => simp [intOf]; omega
    · have hge : (E.length : Int) ≤ (k : Int) := by omega
      go_wp2
      go_ret
      exact ⟨rfl, hS⟩
end
end Go.Proofs.Ytacklfjpbboijaa
