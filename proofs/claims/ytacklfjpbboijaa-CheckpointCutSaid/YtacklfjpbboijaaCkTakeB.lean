/-
  CheckpointCut, walks: take, a barrier.
-/
import Derived.Test.YtacklfjpbboijaaCkTakeW
namespace Go.Proofs.Ytacklfjpbboijaa
open Go.RowKit Go.Sep Go.Ck

section
variable (W X w : World) (p : Nat) (vE : Value) (E : Edges) (nI : Nat) (V : Hdr) (N : Net) (F : List Asn)

theorem arrive_bar_34 {G : Gate} {i n κ : Nat} (hn : 1 ≤ n) (hkk : 0 < G.num → G.kind = κ ∧ G.num = n) (hm : i ∉ G.came) : (G.arrive i ⟨true, n⟩ κ).2 = 3 ∨ (G.arrive i ⟨true, n⟩ κ).2 = 4 := by
  have harr : G.arrive i ⟨true, n⟩ κ = G.barrier i n κ := by
    unfold Gate.arrive
    rw [if_neg (fun h => hm h.2.2), if_neg (by simp), if_neg (by simp), if_neg]
    rintro (h | ⟨h1, h2⟩)
    · simp only at h; omega
    · have h3 : 0 < G.num := by simpa [Gate.busy] using h1
      obtain ⟨h4, h5⟩ := hkk h3
      rcases h2 with h2 | h2 | h2
      · exact h2 h5.symm
      · exact h2 h4.symm
      · exact hm h2
  rw [harr, Gate.barrier]
  simp only
  split
  · exact .inr rfl
  · exact .inl rfl

set_option maxRecDepth 100000 in
set_option maxHeartbeats 4000000 in
theorem take_bar (e : Nat) (he : e < E.length) (ht : tt E e < nI) (hE : EdgesAt W vE E) (hn5 : nI ≤ 5) (n : Nat) (rest : List Msg) (hq : N.chan e = ⟨true, n⟩ :: rest) (hn1 : 1 ≤ n) (hn9 : n ≤ 1000) (hb : N.box (tt E e) = [] ∨ N.kind = 1) (hκ : N.kind ≤ 1) (hin : inb E e < (N.gate (tt E e)).chs) (hkk : 0 < (N.gate (tt E e)).num → (N.gate (tt E e)).kind = N.kind ∧ (N.gate (tt E e)).num = n) (hnc : inb E e ∉ (N.gate (tt E e)).came)
    (hl : ∀ k, k < E.length → (N.boxed k).length ≤ 10000000) (hbl : (N.box (tt E e)).length ≤ 10000000) (hbe : ∀ y ∈ N.box (tt E e), y.1 < E.length) (h : Sat X w (netL W p vE E.length nI V N ++ F)) :
    Calls Try.prog 10 #[.pointer (some ⟨p, 0, none⟩), .int .i64 (e : Int)] w fun r w' =>
    r = .returned (.tuple #[.bool (take E N e).2.1, .bool (take E N e).2.2]) ∧ Sat X w' (netL W p vE E.length nI V (take E N e).1 ++ F) := by
  have hpass : ¬ (N.box (tt E e) ≠ [] ∧ (N.kind ≠ 1 ∨ true = false)) := by
    rintro ⟨h1, h2⟩
    rcases hb with hb | hb
    · exact h1 hb
    · rcases h2 with h2 | h2
      · exact h2 hb
      · cases h2
  obtain ⟨G2, hG2⟩ : ∃ G2, ((N.gate (tt E e)).arrive (inb E e) ⟨true, n⟩ N.kind).1 = G2 := ⟨_, rfl⟩
  obtain ⟨a, hadef⟩ : ∃ a, ((N.gate (tt E e)).arrive (inb E e) ⟨true, n⟩ N.kind).2 = a := ⟨_, rfl⟩
  have ha34 := arrive_bar_34 hn1 hkk hnc
  rw [hadef] at ha34
  have HT3 := Lib.hid (fun h3 : a = 3 => by
    have := take_eq_bar3 hq hpass (hadef.trans h3)
    rw [hG2] at this
    exact this)
  have HT4 := Lib.hid (fun h3 : a = 4 => by
    have := take_eq_bar4 hq hpass (hadef.trans h3)
    rw [hG2] at this
    exact this)
  have hcall : ∀ (g : Nat) (wq : World) (F' : List Asn), Sat X wq (gateA g (N.gate (tt E e)) :: F') → Calls Try.prog 19 #[.pointer (some ⟨g, 0, none⟩), .int .i64 (inb E e : Int), .agg #[.int .i64 1, .int .i64 0, .int .i64 0, .int .i64 0, .int .i64 (n : Int), .slice none 0 0], .int .i64 (N.kind : Int)] wq
      fun e' w' => e' = .returned (.int .i64 a) ∧ Sat X w' (gateA g G2 :: F') := fun g wq F' hS => by
    have := arrive_bar_ok g (inb E e) (N.gate (tt E e)) X wq F' n N.kind hn1 hn9 hin hκ hkk hnc hS
    rw [hadef, hG2] at this
    exact this
  have HC := Lib.hid hcall
  have HL := Lib.hid hl
  have HBB := Lib.hid hb
  have HBE := Lib.hid hbe
  have HBX := Lib.hid hbl
  clear hcall hadef hin hkk hl hG2 hpass hb hnc hbe hbl
  have HEE := Lib.hid hE
  obtain ⟨hE6, A, c, rfl, hc, hE⟩ := hE
  obtain ⟨i0, hi0, hz0, hz1, hz2⟩ := info_parts Try.infoI
  have hE6' : (E.length : Int) ≤ 6 := by omega
  have he0 : (0 : Int) ≤ (e : Int) := by omega
  have he1 : (e : Int) < (E.length : Int) := by omega
  obtain ⟨_, ht5, b, off, rfl, hbo, _, hte⟩ := hE e he
  have hte' := net_old W X w p _ E nI _ _ _ h ⟨b, off + e * 2 + 1, none⟩ hbo
  rw [hte] at hte'
  clear hte hE
  obtain ⟨i, hiq⟩ : ∃ i, tt E e = i := ⟨_, rfl⟩
  rw [hiq] at ht hte' ht5
  have hi00 : (0 : Int) ≤ (i : Int) := by omega
  have hi1 : (i : Int) < (nI : Int) := by omega
  obtain ⟨gc, capc, ca, hvc, _, hcc, m1⟩ := Sat.ptrs (Sat.up1 h) he
  rw [hq] at m1
  obtain ⟨gb, capb, _, hvb, hb1, hb2, _, _, _⟩ := Sat.tabHdr (Sat.up3 h) ht
  obtain ⟨gr, capr, hvr, _, _, hgr, hrc, _⟩ := Sat.rowAt (Sat.up4 h) (by omega)
  obtain ⟨gg, capg, _, hvg, _, _, _⟩ := Sat.ptrs (Sat.up2 h) ht
  obtain ⟨gh, caph, _, hvh, _, _, _, _, _⟩ := Sat.tabHdr (Sat.up7 h) he
  obtain ⟨gf, capf, _, hvf, _, _, _, _, _⟩ := Sat.tabHdr (Sat.up8 h) he
  obtain ⟨vC, vG, vB, vR, vM, vX, vH, vF⟩ := V
  simp only at hvc hvb hvr hvg hvh hvf
  subst hvc hvb hvr hvg hvh hvf
  obtain ⟨j0, j1, _, _, _, _, _, _, _, _, _, jlt⟩ := net_cells W X w p _ E nI _ _ _ h
  try simp only at j0 j1
  clear hrc
  go_enter Try.func10, Try.ntmps10
  go_upto_region 3 with ((go_at_call 23; (with_reducible refine (head_bar _ n rest X _ _ m1).mono ?_); rintro e' w1 ⟨rfl, hx⟩))
  have s2 := (h.ext hx).newBlk 44 #[.int .i64 1, .int .i64 0, .int .i64 0, .int .i64 0, .int .i64 (n : Int), .slice none 0 0]
  obtain ⟨B7, hBB⟩ : ∃ B7, B7 = w1.heap.size := ⟨_, rfl⟩
  rw [← hBB] at s2 ⊢
  generalize hwy : w1.alloc _ = wy at s2 ⊢
  clear hwy hBB hx m1 hcc hte' j0 j1 jlt h
  obtain ⟨y0, y1, y2, y3, y4, y5, y6, y7, y8, y9, _, ylt⟩ := net_cells W X wy p _ E nI _ _ _ (Sat.drop s2)
  try simp only at y0 y1 y2 y3 y4 y5 y6 y7 y8 y9
  obtain ⟨gb', capb', hd, hv', _, hbc, _, s1⟩ := Sat.tab (Sat.up4 s2) ht
  obtain ⟨rfl, _, rfl⟩ := slice_inj hv'
  obtain ⟨Ab, capr2, hhd, hq1, hq2, hq2', _⟩ := Sat.row s1
  rw [hhd] at hbc
  clear s1 hhd hq2'
  have hBy : ∀ q, wy.cell? ⟨B7, q, none⟩ = #[.int .i64 1, .int .i64 0, .int .i64 0, .int .i64 0, .int .i64 (n : Int), .slice none 0 0][q]? := Sat.cell s2
  have hltB := Sat.lt s2
  rw [hiq] at HC HBB HBX HBE
  by_cases hbz : N.box i = []
  · have hdec : decide (0 < (N.box i).length) = false := by rw [hbz]; rfl
    have HBZ := Lib.hid hbz
    clear hbz
    obtain ⟨gg', capg', cg, hvg', _, hgc, m3⟩ := Sat.ptrs (Sat.up3 s2) ht
    obtain ⟨rfl, _, rfl⟩ := slice_inj hvg'
    go_upto_region 5 with (fail)
    try clear hk1i
    try clear hkd
    go_region_held3 (fun w' => w'.cell? ⟨p, 2, none⟩ = some (.slice (some ⟨gg, 0, none⟩) nI capg) ∧ w'.cell? ⟨gg, i, none⟩ = some (.pointer (some ⟨cg i, 0, none⟩)) ∧ w'.cell? ⟨p, 9, none⟩ = some (.int .i64 (N.kind : Int)) ∧ (∀ q, w'.cell? ⟨B7, q, none⟩ = #[.int .i64 1, .int .i64 0, .int .i64 0, .int .i64 0, .int .i64 (n : Int), .slice none 0 0][q]?))
      (first | (with_reducible exact ⟨z2, zg, z9, zB⟩) | (with_reducible exact ⟨x2, xg, x9, xB⟩) | (simp [y2, hgc, y9, hBy]; done))
      (first | ((go_at_call 24; (with_reducible refine (inbound_ok W X _ p _ E nI _ N F e he HEE.out s2.drop.drew).mono ?_); rintro e' w2 ⟨rfl, hx2⟩; have m4 := m3.drew.ext hx2; have z2 : w2.cell? ⟨p, 2, none⟩ = some (.slice (some ⟨gg, 0, none⟩) nI capg) := Sat.cell (Sat.up3 m4) 2; have z9 : w2.cell? ⟨p, 9, none⟩ = some (.int .i64 (N.kind : Int)) := Sat.cell (Sat.up3 m4) 9; have zg := Sat.ptrsCell ht rfl (Sat.up1 m4); have zB : ∀ q, w2.cell? ⟨B7, q, none⟩ = #[.int .i64 1, .int .i64 0, .int .i64 0, .int .i64 0, .int .i64 (n : Int), .slice none 0 0][q]? := Sat.cell (Sat.up2 m4))) | ((go_at_call 19; (with_reducible refine (HC.out _ _ _ m4).mono ?_); rintro e' w3 ⟨rfl, m5⟩; have x2 : w3.cell? ⟨p, 2, none⟩ = some (.slice (some ⟨gg, 0, none⟩) nI capg) := Sat.cell (Sat.up3 m5) 2; have x9 : w3.cell? ⟨p, 9, none⟩ = some (.int .i64 (N.kind : Int)) := Sat.cell (Sat.up3 m5) 9; have xg := Sat.ptrsCell ht rfl (Sat.up1 m5); have xB : ∀ q, w3.cell? ⟨B7, q, none⟩ = #[.int .i64 1, .int .i64 0, .int .i64 0, .int .i64 0, .int .i64 (n : Int), .slice none 0 0][q]? := Sat.cell (Sat.up2 m5))))
    have s3 : Sat X w3 (blk B7 44 #[.int .i64 1, .int .i64 0, .int .i64 0, .int .i64 0, .int .i64 (n : Int), .slice none 0 0] :: netL W p (.slice (some ⟨b, off, none⟩) E.length c) E.length nI ⟨.slice (some ⟨gc, 0, none⟩) E.length capc, .slice (some ⟨gg, 0, none⟩) nI capg, .slice (some ⟨gb, 0, none⟩) nI capb, .slice (some ⟨gr, 0, none⟩) nI capr, vM, vX, .slice (some ⟨gh, 0, none⟩) E.length caph, .slice (some ⟨gf, 0, none⟩) E.length capf⟩ { N with gate := upd N.gate i G2 } ++ F) :=
      Sat.dn3 (Sat.ptrsBack (A' := fun g j => gateA g (upd N.gate i G2 j)) ht (fun c j hj => by rw [upd_ne _ _ hj]) (by rw [upd_same]; exact m5))
    clear z2 z9 zg zB x2 x9 xg xB m3 m4 m5 s2 y0 y1 y2 y3 y4 y5 y6 y7 y8 y9 hBy hbc hgc ylt hltB hdec hq1 hq2 hx2
    obtain ⟨gc', capc', ca', hvc', _, hcc, m6⟩ := Sat.ptrs (Sat.up2 s3) he
    obtain ⟨rfl, _, rfl⟩ := slice_inj hvc'
    try simp only at m6
    rw [hq] at m6
    have k1 := Sat.cell (Sat.up3 m6) 1
    have klt := Sat.lt (Sat.up3 m6)
    rcases ha34 with rfl | rfl
    · go_wp2_with ((go_at_call 25; (with_reducible refine (take_some _ X _ _ ⟨true, n⟩ rest m6).mono ?_); rintro e' w4 ⟨rfl, m7⟩))
      have s4 : Sat X w4 (blk B7 44 #[.int .i64 1, .int .i64 0, .int .i64 0, .int .i64 0, .int .i64 (n : Int), .slice none 0 0] :: netL W p (.slice (some ⟨b, off, none⟩) E.length c) E.length nI ⟨.slice (some ⟨gc, 0, none⟩) E.length capc, .slice (some ⟨gg, 0, none⟩) nI capg, .slice (some ⟨gb, 0, none⟩) nI capb, .slice (some ⟨gr, 0, none⟩) nI capr, vM, vX, .slice (some ⟨gh, 0, none⟩) E.length caph, .slice (some ⟨gf, 0, none⟩) E.length capf⟩ { N with gate := upd N.gate i G2, chan := upd N.chan e rest } ++ F) :=
        Sat.dn2 (Sat.ptrsBack (A' := fun c j => chanA c (upd N.chan e rest j)) he (fun c j hj => by rw [upd_ne _ _ hj]) (by rw [upd_same]; exact m7))
      rw [HT3.out (by simp), hiq]
      refine bodyPost_ret (v := .tuple #[.bool true, .bool true]) (by simp [results, Try.results10, go_sem]) rfl ⟨rfl, s4.drop⟩

    · go_upto_region 20 with ((go_at_call 25; (with_reducible refine (take_some _ X _ _ ⟨true, n⟩ rest m6).mono ?_); rintro e' w4 ⟨rfl, m7⟩))
      have s4 : Sat X w4 (blk B7 44 #[.int .i64 1, .int .i64 0, .int .i64 0, .int .i64 0, .int .i64 (n : Int), .slice none 0 0] :: netL W p (.slice (some ⟨b, off, none⟩) E.length c) E.length nI ⟨.slice (some ⟨gc, 0, none⟩) E.length capc, .slice (some ⟨gg, 0, none⟩) nI capg, .slice (some ⟨gb, 0, none⟩) nI capb, .slice (some ⟨gr, 0, none⟩) nI capr, vM, vX, .slice (some ⟨gh, 0, none⟩) E.length caph, .slice (some ⟨gf, 0, none⟩) E.length capf⟩ { N with gate := upd N.gate i G2, chan := upd N.chan e rest } ++ F) :=
        Sat.dn2 (Sat.ptrsBack (A' := fun c j => chanA c (upd N.chan e rest j)) he (fun c j hj => by rw [upd_ne _ _ hj]) (by rw [upd_same]; exact m7))
      go_wp2_with ((go_at_call 26; (with_reducible refine (report_ok W X _ p _ E nI _ ({ N with gate := upd N.gate i G2, chan := upd N.chan e rest }) F i ht hn5 HEE.out HBX.out HL.out HBE.out s4.drop).mono ?_); rintro e' w5 ⟨rfl, s5⟩))
      rw [HT4.out (by simp), hiq]
      refine bodyPost_ret (v := .tuple #[.bool true, .bool true]) (by simp [results, Try.results10, go_sem]) rfl ⟨rfl, s5⟩

  · have hdec : decide (0 < (N.box i).length) = true := by
      have := List.length_pos_iff.2 hbz
      simpa using this
    have hk1 : N.kind = 1 := HBB.out.resolve_left hbz
    have hkd : ((N.kind : Int) == 1) = true := by rw [beq_iff_eq]; omega
    have hk1i : (N.kind : Int) = 1 := by omega
    have HBZ := Lib.hid hbz
    clear hbz hk1
    obtain ⟨gg', capg', cg, hvg', _, hgc, m3⟩ := Sat.ptrs (Sat.up3 s2) ht
    obtain ⟨rfl, _, rfl⟩ := slice_inj hvg'
    go_upto_region 5 with (fail)
    try clear hk1i
    try clear hkd
    go_region_held3 (fun w' => w'.cell? ⟨p, 2, none⟩ = some (.slice (some ⟨gg, 0, none⟩) nI capg) ∧ w'.cell? ⟨gg, i, none⟩ = some (.pointer (some ⟨cg i, 0, none⟩)) ∧ w'.cell? ⟨p, 9, none⟩ = some (.int .i64 (N.kind : Int)) ∧ (∀ q, w'.cell? ⟨B7, q, none⟩ = #[.int .i64 1, .int .i64 0, .int .i64 0, .int .i64 0, .int .i64 (n : Int), .slice none 0 0][q]?))
      (first | (with_reducible exact ⟨z2, zg, z9, zB⟩) | (with_reducible exact ⟨x2, xg, x9, xB⟩) | (simp [y2, hgc, y9, hBy]; done))
      (first | ((go_at_call 24; (with_reducible refine (inbound_ok W X _ p _ E nI _ N F e he HEE.out s2.drop.drew).mono ?_); rintro e' w2 ⟨rfl, hx2⟩; have m4 := m3.drew.ext hx2; have z2 : w2.cell? ⟨p, 2, none⟩ = some (.slice (some ⟨gg, 0, none⟩) nI capg) := Sat.cell (Sat.up3 m4) 2; have z9 : w2.cell? ⟨p, 9, none⟩ = some (.int .i64 (N.kind : Int)) := Sat.cell (Sat.up3 m4) 9; have zg := Sat.ptrsCell ht rfl (Sat.up1 m4); have zB : ∀ q, w2.cell? ⟨B7, q, none⟩ = #[.int .i64 1, .int .i64 0, .int .i64 0, .int .i64 0, .int .i64 (n : Int), .slice none 0 0][q]? := Sat.cell (Sat.up2 m4))) | ((go_at_call 19; (with_reducible refine (HC.out _ _ _ m4).mono ?_); rintro e' w3 ⟨rfl, m5⟩; have x2 : w3.cell? ⟨p, 2, none⟩ = some (.slice (some ⟨gg, 0, none⟩) nI capg) := Sat.cell (Sat.up3 m5) 2; have x9 : w3.cell? ⟨p, 9, none⟩ = some (.int .i64 (N.kind : Int)) := Sat.cell (Sat.up3 m5) 9; have xg := Sat.ptrsCell ht rfl (Sat.up1 m5); have xB : ∀ q, w3.cell? ⟨B7, q, none⟩ = #[.int .i64 1, .int .i64 0, .int .i64 0, .int .i64 0, .int .i64 (n : Int), .slice none 0 0][q]? := Sat.cell (Sat.up2 m5))))
    have s3 : Sat X w3 (blk B7 44 #[.int .i64 1, .int .i64 0, .int .i64 0, .int .i64 0, .int .i64 (n : Int), .slice none 0 0] :: netL W p (.slice (some ⟨b, off, none⟩) E.length c) E.length nI ⟨.slice (some ⟨gc, 0, none⟩) E.length capc, .slice (some ⟨gg, 0, none⟩) nI capg, .slice (some ⟨gb, 0, none⟩) nI capb, .slice (some ⟨gr, 0, none⟩) nI capr, vM, vX, .slice (some ⟨gh, 0, none⟩) E.length caph, .slice (some ⟨gf, 0, none⟩) E.length capf⟩ { N with gate := upd N.gate i G2 } ++ F) :=
      Sat.dn3 (Sat.ptrsBack (A' := fun g j => gateA g (upd N.gate i G2 j)) ht (fun c j hj => by rw [upd_ne _ _ hj]) (by rw [upd_same]; exact m5))
    clear z2 z9 zg zB x2 x9 xg xB m3 m4 m5 s2 y0 y1 y2 y3 y4 y5 y6 y7 y8 y9 hBy hbc hgc ylt hltB hdec hq1 hq2 hx2
    obtain ⟨gc', capc', ca', hvc', _, hcc, m6⟩ := Sat.ptrs (Sat.up2 s3) he
    obtain ⟨rfl, _, rfl⟩ := slice_inj hvc'
    try simp only at m6
    rw [hq] at m6
    have k1 := Sat.cell (Sat.up3 m6) 1
    have klt := Sat.lt (Sat.up3 m6)
    rcases ha34 with rfl | rfl
    · go_wp2_with ((go_at_call 25; (with_reducible refine (take_some _ X _ _ ⟨true, n⟩ rest m6).mono ?_); rintro e' w4 ⟨rfl, m7⟩))
      have s4 : Sat X w4 (blk B7 44 #[.int .i64 1, .int .i64 0, .int .i64 0, .int .i64 0, .int .i64 (n : Int), .slice none 0 0] :: netL W p (.slice (some ⟨b, off, none⟩) E.length c) E.length nI ⟨.slice (some ⟨gc, 0, none⟩) E.length capc, .slice (some ⟨gg, 0, none⟩) nI capg, .slice (some ⟨gb, 0, none⟩) nI capb, .slice (some ⟨gr, 0, none⟩) nI capr, vM, vX, .slice (some ⟨gh, 0, none⟩) E.length caph, .slice (some ⟨gf, 0, none⟩) E.length capf⟩ { N with gate := upd N.gate i G2, chan := upd N.chan e rest } ++ F) :=
        Sat.dn2 (Sat.ptrsBack (A' := fun c j => chanA c (upd N.chan e rest j)) he (fun c j hj => by rw [upd_ne _ _ hj]) (by rw [upd_same]; exact m7))
      rw [HT3.out (by simp), hiq]
      refine bodyPost_ret (v := .tuple #[.bool true, .bool true]) (by simp [results, Try.results10, go_sem]) rfl ⟨rfl, s4.drop⟩

    · go_upto_region 20 with ((go_at_call 25; (with_reducible refine (take_some _ X _ _ ⟨true, n⟩ rest m6).mono ?_); rintro e' w4 ⟨rfl, m7⟩))
      have s4 : Sat X w4 (blk B7 44 #[.int .i64 1, .int .i64 0, .int .i64 0, .int .i64 0, .int .i64 (n : Int), .slice none 0 0] :: netL W p (.slice (some ⟨b, off, none⟩) E.length c) E.length nI ⟨.slice (some ⟨gc, 0, none⟩) E.length capc, .slice (some ⟨gg, 0, none⟩) nI capg, .slice (some ⟨gb, 0, none⟩) nI capb, .slice (some ⟨gr, 0, none⟩) nI capr, vM, vX, .slice (some ⟨gh, 0, none⟩) E.length caph, .slice (some ⟨gf, 0, none⟩) E.length capf⟩ { N with gate := upd N.gate i G2, chan := upd N.chan e rest } ++ F) :=
        Sat.dn2 (Sat.ptrsBack (A' := fun c j => chanA c (upd N.chan e rest j)) he (fun c j hj => by rw [upd_ne _ _ hj]) (by rw [upd_same]; exact m7))
      go_wp2_with ((go_at_call 26; (with_reducible refine (report_ok W X _ p _ E nI _ ({ N with gate := upd N.gate i G2, chan := upd N.chan e rest }) F i ht hn5 HEE.out HBX.out HL.out HBE.out s4.drop).mono ?_); rintro e' w5 ⟨rfl, s5⟩))
      rw [HT4.out (by simp), hiq]
      refine bodyPost_ret (v := .tuple #[.bool true, .bool true]) (by simp [results, Try.results10, go_sem]) rfl ⟨rfl, s5⟩

end
end Go.Proofs.Ytacklfjpbboijaa
