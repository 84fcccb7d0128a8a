/-
  CheckpointCut, walks: take.
-/
import Derived.Test.YtacklfjpbboijaaCkFlush
namespace Go.Proofs.Ytacklfjpbboijaa
open Go.RowKit Go.Sep Go.Ck


section
variable {E : Edges} {N : Net} {e n : Nat} {rest : List Msg} {a : Int}
theorem upd_get {α : Type} (f : Nat → α) (k : Nat) : upd f k (f k) = f := by
  funext j
  by_cases h : j = k
  · subst h; simp [upd]
  · simp [upd, h]
theorem take_eq_hold {m : Msg} (hq : N.chan e = m :: rest) (hb : ¬ (N.box (tt E e) ≠ [] ∧ (N.kind ≠ 1 ∨ m.bar = false))) (ha : ((N.gate (tt E e)).arrive (inb E e) m N.kind).2 = 0) : take E N e = (N, false, true) := by
  unfold take
  rw [hq]
  simp only
  rw [if_neg hb, if_pos ha]
theorem take_eq_mark (hq : N.chan e = ⟨false, n⟩ :: rest) (hb : N.box (tt E e) = []) (ha : ((N.gate (tt E e)).arrive (inb E e) ⟨false, n⟩ N.kind).2 = a) (h12 : a = 1 ∨ a = 2) :
    take E N e = (hear E { N with chan := upd N.chan e rest } e ⟨false, n⟩ a, true, true) := by
  unfold take
  rw [hq]
  simp only
  have hg : ((N.gate (tt E e)).arrive (inb E e) ⟨false, n⟩ N.kind).1 = N.gate (tt E e) := by
    rw [arrive_mark]
  rw [if_neg (fun h => h.1 hb), ha, if_neg (by omega), if_neg (by omega), if_pos h12, hg, upd_get]
theorem take_eq_bar3 (hq : N.chan e = ⟨true, n⟩ :: rest) (hb : ¬ (N.box (tt E e) ≠ [] ∧ (N.kind ≠ 1 ∨ true = false))) (ha : ((N.gate (tt E e)).arrive (inb E e) ⟨true, n⟩ N.kind).2 = 3) :
    take E N e = ({ N with gate := upd N.gate (tt E e) ((N.gate (tt E e)).arrive (inb E e) ⟨true, n⟩ N.kind).1, chan := upd N.chan e rest }, true, true) := by
  unfold take
  rw [hq]
  simp only
  rw [if_neg hb, ha, if_neg (by omega), if_neg (by omega), if_neg (by omega), if_neg (by omega)]
theorem take_eq_bar4 (hq : N.chan e = ⟨true, n⟩ :: rest) (hb : ¬ (N.box (tt E e) ≠ [] ∧ (N.kind ≠ 1 ∨ true = false))) (ha : ((N.gate (tt E e)).arrive (inb E e) ⟨true, n⟩ N.kind).2 = 4) :
    take E N e = (report E { N with gate := upd N.gate (tt E e) ((N.gate (tt E e)).arrive (inb E e) ⟨true, n⟩ N.kind).1, chan := upd N.chan e rest } (tt E e), true, true) := by
  unfold take
  rw [hq]
  simp only
  rw [if_neg hb, ha, if_neg (by omega), if_neg (by omega), if_neg (by omega), if_pos rfl]
end
section
variable (W X w : World) (p : Nat) (vE : Value) (E : Edges) (nI : Nat) (V : Hdr) (N : Net) (F : List Asn)

theorem head_some' (c : Nat) (q : List Msg) (X w : World) (F : List Asn) (m : Msg) (hm : q[0]? = some m) (h : Sat X w (chanA c q :: F)) : Calls Try.prog 23 #[.pointer (some ⟨c, 0, none⟩)] w fun e w' =>
    e = .returned (.tuple #[.agg #[.int .i64 (code m).1, .int .i64 0, .int .i64 0, .int .i64 0, .int .i64 (code m).2, .slice none 0 0], .bool true]) ∧ Ext w w' := by
  have := head_some c q X w F m hm h
  rw [msgv_code] at this
  exact this

theorem head_mark (c : Nat) (n : Nat) (rest : List Msg) (X w : World) (F : List Asn) (h : Sat X w (chanA c (⟨false, n⟩ :: rest) :: F)) : Calls Try.prog 23 #[.pointer (some ⟨c, 0, none⟩)] w fun e w' =>
    e = .returned (.tuple #[.agg #[.int .i64 2, .int .i64 0, .int .i64 0, .int .i64 0, .int .i64 (n : Int), .slice none 0 0], .bool true]) ∧ Ext w w' := head_some' c _ X w F ⟨false, n⟩ rfl h
theorem head_bar (c : Nat) (n : Nat) (rest : List Msg) (X w : World) (F : List Asn) (h : Sat X w (chanA c (⟨true, n⟩ :: rest) :: F)) : Calls Try.prog 23 #[.pointer (some ⟨c, 0, none⟩)] w fun e w' =>
    e = .returned (.tuple #[.agg #[.int .i64 1, .int .i64 0, .int .i64 0, .int .i64 0, .int .i64 (n : Int), .slice none 0 0], .bool true]) ∧ Ext w w' := head_some' c _ X w F ⟨true, n⟩ rfl h

set_option maxRecDepth 100000 in
set_option maxHeartbeats 4000000 in
theorem take_none (e : Nat) (he : e < E.length) (ht : tt E e < nI) (hE : EdgesAt W vE E) (hq : N.chan e = []) (h : Sat X w (netL W p vE E.length nI V N ++ F)) :
    Calls Try.prog 10 #[.pointer (some ⟨p, 0, none⟩), .int .i64 (e : Int)] w fun r w' =>
    r = .returned (.tuple #[.bool (take E N e).2.1, .bool (take E N e).2.2]) ∧ Sat X w' (netL W p vE E.length nI V (take E N e).1 ++ F) := by
  have HEE := Lib.hid hE
  obtain ⟨hE6, A, c, rfl, hc, hE⟩ := hE
  obtain ⟨i0, hi0, hz0, hz1, hz2⟩ := info_parts Try.infoI
  have hE6' : (E.length : Int) ≤ 6 := by omega
  have he0 : (0 : Int) ≤ (e : Int) := by omega
  have he1 : (e : Int) < (E.length : Int) := by omega
  obtain ⟨_, ht5, b, off, rfl, hbo, _, hte⟩ := hE e he
  have hte' := net_old W X w p _ E nI _ _ _ h ⟨b, off + e * 2 + 1, none⟩ hbo
  rw [hte] at hte'
  clear hte hE
  obtain ⟨i, hiq⟩ : ∃ i, tt E e = i := ⟨_, rfl⟩
  rw [hiq] at ht hte' ht5
  have hi00 : (0 : Int) ≤ (i : Int) := by omega
  have hi1 : (i : Int) < (nI : Int) := by omega
  obtain ⟨gc, capc, ca, hvc, _, hcc, m1⟩ := Sat.ptrs (Sat.up1 h) he
  rw [hq] at m1
  obtain ⟨gb, capb, _, hvb, hb1, hb2, _, _, _⟩ := Sat.tabHdr (Sat.up3 h) ht
  obtain ⟨gr, capr, hvr, _, _, hgr, hrc, _⟩ := Sat.rowAt (Sat.up4 h) (by omega)
  obtain ⟨gg, capg, _, hvg, _, _, _⟩ := Sat.ptrs (Sat.up2 h) ht
  obtain ⟨gh, caph, _, hvh, _, _, _, _, _⟩ := Sat.tabHdr (Sat.up7 h) he
  obtain ⟨gf, capf, _, hvf, _, _, _, _, _⟩ := Sat.tabHdr (Sat.up8 h) he
  obtain ⟨vC, vG, vB, vR, vM, vX, vH, vF⟩ := V
  simp only at hvc hvb hvr hvg hvh hvf
  subst hvc hvb hvr hvg hvh hvf
  obtain ⟨j0, j1, _, _, _, _, _, _, _, _, _, jlt⟩ := net_cells W X w p _ E nI _ _ _ h
  try simp only at j0 j1
  clear hrc
  go_enter Try.func10, Try.ntmps10
  go_upto_region 3 with ((go_at_call 23; (with_reducible refine (head_none _ X _ _ m1).mono ?_); rintro e' w1 ⟨rfl, hx⟩))
  have s2 := (h.ext hx).newBlk 44 #[.int .i64 0, .int .i64 0, .int .i64 0, .int .i64 0, .int .i64 0, .slice none 0 0]
  obtain ⟨B7, hBB⟩ : ∃ B7, B7 = w1.heap.size := ⟨_, rfl⟩
  rw [← hBB] at s2 ⊢
  generalize hwy : w1.alloc _ = wy at s2 ⊢
  clear hwy hBB hx m1 hcc hte' j0 j1 jlt h
  obtain ⟨y0, y1, y2, y3, y4, y5, y6, y7, y8, y9, _, ylt⟩ := net_cells W X wy p _ E nI _ _ _ (Sat.drop s2)
  try simp only at y0 y1 y2 y3 y4 y5 y6 y7 y8 y9
  obtain ⟨gb', capb', hd, hv', _, hbc, _, s1⟩ := Sat.tab (Sat.up4 s2) ht
  obtain ⟨rfl, _, rfl⟩ := slice_inj hv'
  obtain ⟨Ab, capr2, hhd, hq1, hq2, hq2', _⟩ := Sat.row s1
  rw [hhd] at hbc
  clear s1 hhd hq2'
  have hBy : ∀ q, wy.cell? ⟨B7, q, none⟩ = #[.int .i64 0, .int .i64 0, .int .i64 0, .int .i64 0, .int .i64 0, .slice none 0 0][q]? := Sat.cell s2
  have hltB := Sat.lt s2
  go_wp2
  have ht' : take E N e = (N, false, true) := by
    unfold take
    rw [hq]
  rw [ht']
  refine bodyPost_ret (v := .tuple #[.bool false, .bool true]) (by simp [results, Try.results10, go_sem]) rfl ⟨rfl, s2.drop⟩

set_option maxRecDepth 100000 in
set_option maxHeartbeats 4000000 in
theorem take_skip (e : Nat) (he : e < E.length) (ht : tt E e < nI) (hE : EdgesAt W vE E) (m : Msg) (rest : List Msg) (hq : N.chan e = m :: rest) (hb : N.box (tt E e) ≠ []) (hkm : N.kind ≠ 1 ∨ m.bar = false) (h : Sat X w (netL W p vE E.length nI V N ++ F)) :
    Calls Try.prog 10 #[.pointer (some ⟨p, 0, none⟩), .int .i64 (e : Int)] w fun r w' =>
    r = .returned (.tuple #[.bool (take E N e).2.1, .bool (take E N e).2.2]) ∧ Sat X w' (netL W p vE E.length nI V (take E N e).1 ++ F) := by
  have ht' : take E N e = (N, false, true) := by
    unfold take
    rw [hq]
    simp only
    rw [if_pos ⟨hb, hkm⟩]
  have HT := Lib.hid ht'
  clear ht'
  have HEE := Lib.hid hE
  obtain ⟨hE6, A, c, rfl, hc, hE⟩ := hE
  obtain ⟨i0, hi0, hz0, hz1, hz2⟩ := info_parts Try.infoI
  have hE6' : (E.length : Int) ≤ 6 := by omega
  have he0 : (0 : Int) ≤ (e : Int) := by omega
  have he1 : (e : Int) < (E.length : Int) := by omega
  obtain ⟨_, ht5, b, off, rfl, hbo, _, hte⟩ := hE e he
  have hte' := net_old W X w p _ E nI _ _ _ h ⟨b, off + e * 2 + 1, none⟩ hbo
  rw [hte] at hte'
  clear hte hE
  obtain ⟨i, hiq⟩ : ∃ i, tt E e = i := ⟨_, rfl⟩
  rw [hiq] at ht hte' ht5
  have hi00 : (0 : Int) ≤ (i : Int) := by omega
  have hi1 : (i : Int) < (nI : Int) := by omega
  obtain ⟨gc, capc, ca, hvc, _, hcc, m1⟩ := Sat.ptrs (Sat.up1 h) he
  rw [hq] at m1
  obtain ⟨gb, capb, _, hvb, hb1, hb2, _, _, _⟩ := Sat.tabHdr (Sat.up3 h) ht
  obtain ⟨gr, capr, hvr, _, _, hgr, hrc, _⟩ := Sat.rowAt (Sat.up4 h) (by omega)
  obtain ⟨gg, capg, _, hvg, _, _, _⟩ := Sat.ptrs (Sat.up2 h) ht
  obtain ⟨gh, caph, _, hvh, _, _, _, _, _⟩ := Sat.tabHdr (Sat.up7 h) he
  obtain ⟨gf, capf, _, hvf, _, _, _, _, _⟩ := Sat.tabHdr (Sat.up8 h) he
  obtain ⟨vC, vG, vB, vR, vM, vX, vH, vF⟩ := V
  simp only at hvc hvb hvr hvg hvh hvf
  subst hvc hvb hvr hvg hvh hvf
  obtain ⟨j0, j1, _, _, _, _, _, _, _, _, _, jlt⟩ := net_cells W X w p _ E nI _ _ _ h
  try simp only at j0 j1
  clear hrc
  go_enter Try.func10, Try.ntmps10
  go_upto_region 3 with ((go_at_call 23; (with_reducible refine (head_some' _ _ X _ _ m rfl m1).mono ?_); rintro e' w1 ⟨rfl, hx⟩))
  have s2 := (h.ext hx).newBlk 44 #[.int .i64 (code m).1, .int .i64 0, .int .i64 0, .int .i64 0, .int .i64 (code m).2, .slice none 0 0]
  obtain ⟨B7, hBB⟩ : ∃ B7, B7 = w1.heap.size := ⟨_, rfl⟩
  rw [← hBB] at s2 ⊢
  generalize hwy : w1.alloc _ = wy at s2 ⊢
  clear hwy hBB hx m1 hcc hte' j0 j1 jlt h
  obtain ⟨y0, y1, y2, y3, y4, y5, y6, y7, y8, y9, _, ylt⟩ := net_cells W X wy p _ E nI _ _ _ (Sat.drop s2)
  try simp only at y0 y1 y2 y3 y4 y5 y6 y7 y8 y9
  obtain ⟨gb', capb', hd, hv', _, hbc, _, s1⟩ := Sat.tab (Sat.up4 s2) ht
  obtain ⟨rfl, _, rfl⟩ := slice_inj hv'
  obtain ⟨Ab, capr2, hhd, hq1, hq2, hq2', _⟩ := Sat.row s1
  rw [hhd] at hbc
  clear s1 hhd hq2'
  have hBy : ∀ q, wy.cell? ⟨B7, q, none⟩ = #[.int .i64 (code m).1, .int .i64 0, .int .i64 0, .int .i64 0, .int .i64 (code m).2, .slice none 0 0][q]? := Sat.cell s2
  have hltB := Sat.lt s2
  have hdec : decide (0 < (N.box i).length) = true := by
    have := List.length_pos_iff.2 hb
    rw [hiq] at this
    simpa using this
  clear hb
  by_cases hk1 : N.kind = 1
  · have hkd : ((N.kind : Int) == 1) = true := by rw [beq_iff_eq]; omega
    have hmb : m.bar = false := hkm.resolve_left (fun h => h hk1)
    have hcb : (code m).1 = 2 := by simp [code, hmb]
    rw [hcb] at hBy
    have hk1i : (N.kind : Int) = 1 := by omega
    clear hk1 hkm hmb hcb
    go_wp2
    rw [HT.out]
    refine bodyPost_ret (v := .tuple #[.bool false, .bool true]) (by simp [results, Try.results10, go_sem]) rfl ⟨rfl, s2.drop⟩
  · have hkd : ((N.kind : Int) == 1) = false := by rw [beq_eq_false_iff_ne]; omega
    have hk1i : ¬ (N.kind : Int) = 1 := by omega
    clear hk1 hkm
    go_wp2
    rw [HT.out]
    refine bodyPost_ret (v := .tuple #[.bool false, .bool true]) (by simp [results, Try.results10, go_sem]) rfl ⟨rfl, s2.drop⟩

theorem produce_mark (i : Nat) (hi : i < nI) (n : Nat) (hn5 : nI ≤ 5) (hE : EdgesAt W vE E) (hb : (N.box i).length ≤ 10000000) (hm : ∀ e, e < E.length → (N.made e).length ≤ 10000000) (h : Sat X w (netL W p vE E.length nI V N ++ F)) :
    Calls Try.prog 8 #[.pointer (some ⟨p, 0, none⟩), .int .i64 (i : Int), .agg #[.int .i64 2, .int .i64 0, .int .i64 0, .int .i64 0, .int .i64 (n : Int), .slice none 0 0]] w fun r w' =>
    r = .returned (.tuple #[]) ∧ Sat X w' (netL W p vE E.length nI V (produce E N i ⟨false, n⟩) ++ F) := produce_ok W X w p vE E nI V N F i hi ⟨false, n⟩ hn5 hE hb hm h

set_option maxRecDepth 100000 in
set_option maxHeartbeats 4000000 in
theorem take_mark (e : Nat) (he : e < E.length) (ht : tt E e < nI) (hE : EdgesAt W vE E) (hn5 : nI ≤ 5) (n : Nat) (rest : List Msg) (hq : N.chan e = ⟨false, n⟩ :: rest) (hn9 : n ≤ 1000) (hb : N.box (tt E e) = []) (hκ : N.kind ≤ 1) (hin : inb E e < (N.gate (tt E e)).chs) (hkk : 0 < (N.gate (tt E e)).num → (N.gate (tt E e)).kind = N.kind) (hnum : (N.gate (tt E e)).num ≤ 1000)
    (hl : ∀ k, k < E.length → (N.made k).length ≤ 10000000 ∧ (N.handled k).length ≤ 10000000 ∧ (N.flying k).length ≤ 10000000) (h : Sat X w (netL W p vE E.length nI V N ++ F)) :
    Calls Try.prog 10 #[.pointer (some ⟨p, 0, none⟩), .int .i64 (e : Int)] w fun r w' =>
    r = .returned (.tuple #[.bool (take E N e).2.1, .bool (take E N e).2.2]) ∧ Sat X w' (netL W p vE E.length nI V (take E N e).1 ++ F) := by
  obtain ⟨a, hadef⟩ : ∃ a, ((N.gate (tt E e)).arrive (inb E e) ⟨false, n⟩ N.kind).2 = a := ⟨_, rfl⟩
  have ha012 : a = 0 ∨ a = 1 ∨ a = 2 := by
    rw [← hadef, arrive_mark]
    simp only
    split
    · exact .inl rfl
    · split
      · exact .inr (.inr rfl)
      · exact .inr (.inl rfl)
  have HT0 := Lib.hid (fun h0 : a = 0 => take_eq_hold hq (fun h => h.1 hb) (hadef.trans h0))
  have HT := Lib.hid (take_eq_mark hq hb hadef)
  have hcall : ∀ (g : Nat) (wq : World) (F' : List Asn), Sat X wq (gateA g (N.gate (tt E e)) :: F') → Calls Try.prog 19 #[.pointer (some ⟨g, 0, none⟩), .int .i64 (inb E e : Int), .agg #[.int .i64 2, .int .i64 0, .int .i64 0, .int .i64 0, .int .i64 (n : Int), .slice none 0 0], .int .i64 (N.kind : Int)] wq
      fun e' w' => e' = .returned (.int .i64 a) ∧ Sat X w' (gateA g (N.gate (tt E e)) :: F') := fun g wq F' hS => by
    have := arrive_mark_ok g (inb E e) (N.gate (tt E e)) X wq F' n N.kind hin hκ hkk hnum hS
    rw [hadef] at this
    exact this
  have HC := Lib.hid hcall
  have HL := Lib.hid hl
  clear hcall hadef hin hkk hnum hl
  have HEE := Lib.hid hE
  obtain ⟨hE6, A, c, rfl, hc, hE⟩ := hE
  obtain ⟨i0, hi0, hz0, hz1, hz2⟩ := info_parts Try.infoI
  have hE6' : (E.length : Int) ≤ 6 := by omega
  have he0 : (0 : Int) ≤ (e : Int) := by omega
  have he1 : (e : Int) < (E.length : Int) := by omega
  obtain ⟨_, ht5, b, off, rfl, hbo, _, hte⟩ := hE e he
  have hte' := net_old W X w p _ E nI _ _ _ h ⟨b, off + e * 2 + 1, none⟩ hbo
  rw [hte] at hte'
  clear hte hE
  obtain ⟨i, hiq⟩ : ∃ i, tt E e = i := ⟨_, rfl⟩
  rw [hiq] at ht hte' ht5
  have hi00 : (0 : Int) ≤ (i : Int) := by omega
  have hi1 : (i : Int) < (nI : Int) := by omega
  obtain ⟨gc, capc, ca, hvc, _, hcc, m1⟩ := Sat.ptrs (Sat.up1 h) he
  rw [hq] at m1
  obtain ⟨gb, capb, _, hvb, hb1, hb2, _, _, _⟩ := Sat.tabHdr (Sat.up3 h) ht
  obtain ⟨gr, capr, hvr, _, _, hgr, hrc, _⟩ := Sat.rowAt (Sat.up4 h) (by omega)
  obtain ⟨gg, capg, _, hvg, _, _, _⟩ := Sat.ptrs (Sat.up2 h) ht
  obtain ⟨gh, caph, _, hvh, _, _, _, _, _⟩ := Sat.tabHdr (Sat.up7 h) he
  obtain ⟨gf, capf, _, hvf, _, _, _, _, _⟩ := Sat.tabHdr (Sat.up8 h) he
  obtain ⟨vC, vG, vB, vR, vM, vX, vH, vF⟩ := V
  simp only at hvc hvb hvr hvg hvh hvf
  subst hvc hvb hvr hvg hvh hvf
  obtain ⟨j0, j1, _, _, _, _, _, _, _, _, _, jlt⟩ := net_cells W X w p _ E nI _ _ _ h
  try simp only at j0 j1
  clear hrc
  go_enter Try.func10, Try.ntmps10
  go_upto_region 3 with ((go_at_call 23; (with_reducible refine (head_mark _ n rest X _ _ m1).mono ?_); rintro e' w1 ⟨rfl, hx⟩))
  have s2 := (h.ext hx).newBlk 44 #[.int .i64 2, .int .i64 0, .int .i64 0, .int .i64 0, .int .i64 (n : Int), .slice none 0 0]
  obtain ⟨B7, hBB⟩ : ∃ B7, B7 = w1.heap.size := ⟨_, rfl⟩
  rw [← hBB] at s2 ⊢
  generalize hwy : w1.alloc _ = wy at s2 ⊢
  clear hwy hBB hx m1 hcc hte' j0 j1 jlt h
  obtain ⟨y0, y1, y2, y3, y4, y5, y6, y7, y8, y9, _, ylt⟩ := net_cells W X wy p _ E nI _ _ _ (Sat.drop s2)
  try simp only at y0 y1 y2 y3 y4 y5 y6 y7 y8 y9
  obtain ⟨gb', capb', hd, hv', _, hbc, _, s1⟩ := Sat.tab (Sat.up4 s2) ht
  obtain ⟨rfl, _, rfl⟩ := slice_inj hv'
  obtain ⟨Ab, capr2, hhd, hq1, hq2, hq2', _⟩ := Sat.row s1
  rw [hhd] at hbc
  clear s1 hhd hq2'
  have hBy : ∀ q, wy.cell? ⟨B7, q, none⟩ = #[.int .i64 2, .int .i64 0, .int .i64 0, .int .i64 0, .int .i64 (n : Int), .slice none 0 0][q]? := Sat.cell s2
  have hltB := Sat.lt s2
  rw [hiq] at hb HC
  have hdec : decide (0 < (N.box i).length) = false := by rw [hb]; rfl
  have HB := Lib.hid hb
  clear hb
  obtain ⟨gg', capg', cg, hvg', _, hgc, m3⟩ := Sat.ptrs (Sat.up3 s2) ht
  obtain ⟨rfl, _, rfl⟩ := slice_inj hvg'
  go_upto_region 5 with (fail)
  go_region_held3 (fun w' => w'.cell? ⟨p, 2, none⟩ = some (.slice (some ⟨gg, 0, none⟩) nI capg) ∧ w'.cell? ⟨gg, i, none⟩ = some (.pointer (some ⟨cg i, 0, none⟩)) ∧ w'.cell? ⟨p, 9, none⟩ = some (.int .i64 (N.kind : Int)) ∧ (∀ q, w'.cell? ⟨B7, q, none⟩ = #[.int .i64 2, .int .i64 0, .int .i64 0, .int .i64 0, .int .i64 (n : Int), .slice none 0 0][q]?))
    (first | (with_reducible exact ⟨z2, zg, z9, zB⟩) | (with_reducible exact ⟨x2, xg, x9, xB⟩) | (simp [y2, hgc, y9, hBy]; done))
    (first | ((go_at_call 24; (with_reducible refine (inbound_ok W X _ p _ E nI _ N F e he HEE.out s2.drop.drew).mono ?_); rintro e' w2 ⟨rfl, hx2⟩; have m4 := m3.drew.ext hx2; have z2 : w2.cell? ⟨p, 2, none⟩ = some (.slice (some ⟨gg, 0, none⟩) nI capg) := Sat.cell (Sat.up3 m4) 2; have z9 : w2.cell? ⟨p, 9, none⟩ = some (.int .i64 (N.kind : Int)) := Sat.cell (Sat.up3 m4) 9; have zg := Sat.ptrsCell ht rfl (Sat.up1 m4); have zB : ∀ q, w2.cell? ⟨B7, q, none⟩ = #[.int .i64 2, .int .i64 0, .int .i64 0, .int .i64 0, .int .i64 (n : Int), .slice none 0 0][q]? := Sat.cell (Sat.up2 m4))) | ((go_at_call 19; (with_reducible refine (HC.out _ _ _ m4).mono ?_); rintro e' w3 ⟨rfl, m5⟩; have x2 : w3.cell? ⟨p, 2, none⟩ = some (.slice (some ⟨gg, 0, none⟩) nI capg) := Sat.cell (Sat.up3 m5) 2; have x9 : w3.cell? ⟨p, 9, none⟩ = some (.int .i64 (N.kind : Int)) := Sat.cell (Sat.up3 m5) 9; have xg := Sat.ptrsCell ht rfl (Sat.up1 m5); have xB : ∀ q, w3.cell? ⟨B7, q, none⟩ = #[.int .i64 2, .int .i64 0, .int .i64 0, .int .i64 0, .int .i64 (n : Int), .slice none 0 0][q]? := Sat.cell (Sat.up2 m5))))
  have s3 := Sat.dn3 (Sat.ptrsBack (A' := fun g j => gateA g (N.gate j)) ht (fun _ _ _ => rfl) m5)
  clear z2 z9 zg zB x2 x9 xg xB m3 m4 m5 s2 y0 y1 y2 y3 y4 y5 y6 y7 y8 y9 hBy hbc hgc ylt hltB hdec hq1 hq2 hx2
  have HBX := Lib.hid (show (N.box i).length ≤ 10000000 by rw [HB.out]; simp)
  have HL9 := Lib.hid (fun k hk => (HL.out k hk).1)
  rcases ha012 with rfl | rfl | rfl
  · go_wp2
    rw [HT0.out (by simp)]
    refine bodyPost_ret (v := .tuple #[.bool false, .bool true]) (by simp [results, Try.results10, go_sem]) rfl ⟨rfl, s3.drop⟩
  · skip
    obtain ⟨gc', capc', ca', hvc', _, hcc, m6⟩ := Sat.ptrs (Sat.up2 s3) he
    obtain ⟨rfl, _, rfl⟩ := slice_inj hvc'
    try simp only at m6
    rw [hq] at m6
    have k1 := Sat.cell (Sat.up3 m6) 1
    have klt := Sat.lt (Sat.up3 m6)
    go_upto_region 14 with ((go_at_call 25; (with_reducible refine (take_some _ X _ _ ⟨false, n⟩ rest m6).mono ?_); rintro e' w4 ⟨rfl, m7⟩))
    have s4 : Sat X w4 (blk B7 44 #[.int .i64 2, .int .i64 0, .int .i64 0, .int .i64 0, .int .i64 (n : Int), .slice none 0 0] :: netL W p (.slice (some ⟨b, off, none⟩) E.length c) E.length nI ⟨.slice (some ⟨gc, 0, none⟩) E.length capc, .slice (some ⟨gg, 0, none⟩) nI capg, .slice (some ⟨gb, 0, none⟩) nI capb, .slice (some ⟨gr, 0, none⟩) nI capr, vM, vX, .slice (some ⟨gh, 0, none⟩) E.length caph, .slice (some ⟨gf, 0, none⟩) E.length capf⟩ { N with chan := upd N.chan e rest } ++ F) :=
      Sat.dn2 (Sat.ptrsBack (A' := fun c j => chanA c (upd N.chan e rest j)) he (fun c j hj => by rw [upd_ne _ _ hj]) (by rw [upd_same]; exact m7))
    clear m6 m7 k1 klt hcc s3
    obtain ⟨n0, _, _, n3, n4, _, _, n7, n8, n9, _, nlt⟩ := net_cells W X w4 p _ E nI _ _ _ (Sat.drop s4)
    try simp only at n0 n3 n4 n7 n8 n9
    have hB4 : ∀ q, w4.cell? ⟨B7, q, none⟩ = #[.int .i64 2, .int .i64 0, .int .i64 0, .int .i64 0, .int .i64 (n : Int), .slice none 0 0][q]? := Sat.cell s4
    have hltB4 := Sat.lt s4
    obtain ⟨gr', capr', hr', _, _, _, hrc, _⟩ := Sat.rowAt (Sat.up5 s4) (by omega)
    obtain ⟨rfl, _, rfl⟩ := slice_inj hr'
    have hrk := hrc i _ (map_range_get _ ht)
    clear hrc
    by_cases hrep : N.rep i = true
    · rw [hrep] at hrk
      have HR := Lib.hid hrep
      clear hrep
      have hN4 : hear E { N with chan := upd N.chan e rest } e ⟨false, n⟩ 1 = if 0 < n then produce E ({ N with chan := upd N.chan e rest }) i ⟨false, n - 1⟩ else ({ N with chan := upd N.chan e rest }) := by
        unfold hear
        simp only [hiq, HR.out]
        simp
      have HH := Lib.hid hN4
      clear hN4
      by_cases hn0 : 0 < n
      · have hsub : IntKind.i64.wrap ((n : Int) - 1) = ((n - 1 : Nat) : Int) := by
          rw [IntWalk.i64_in _ (by omega)]
          omega
        obtain ⟨k, hk⟩ : ∃ k, n - 1 = k := ⟨_, rfl⟩
        rw [hk] at hsub
        have HK := Lib.hid hk
        have HP := Lib.hid hn0
        have hng : decide (0 < n) = true := by simpa using hn0
        clear hk
        go_wp2_with (first | ((go_at_call 9; (with_reducible refine (mark_any _ _).mono ?_); rintro e' w8 ⟨rfl, hx8⟩; have s8 := s4.drop.ext hx8)) | ((go_at_call 8; (with_reducible refine (produce_mark W X _ p _ E nI _ ({ N with chan := upd N.chan e rest }) F i ht k hn5 HEE.out (HBX.out) (HL9.out) s8).mono ?_); rintro e' w9 ⟨rfl, s9⟩)))
        rw [HT.out (by simp), HH.out, if_pos HP.out, HK.out]
        refine bodyPost_ret (v := .tuple #[.bool true, .bool true]) (by simp [results, Try.results10, go_sem]) rfl ⟨rfl, s9⟩

      · have hn00 : n = 0 := by omega
        have hng : decide (0 < n) = false := by simpa using hn0
        have HP := Lib.hid hn0
        clear hn00
        go_wp2
        rw [HT.out (by simp), HH.out, if_neg HP.out]
        refine bodyPost_ret (v := .tuple #[.bool true, .bool true]) (by simp [results, Try.results10, go_sem]) rfl ⟨rfl, s4.drop⟩

    · have hrep' : N.rep i = false := by simpa using hrep
      rw [hrep'] at hrk
      have HR := Lib.hid hrep'
      clear hrep hrep'
      have hhl : (N.handled e).length ≤ 10000000 := (HL.out e he).2.1
      have sq := s4
      obtain ⟨wq, hwq⟩ : ∃ wq : World, wq = w4 := ⟨_, rfl⟩
      subst hwq
      obtain ⟨gx', capx', hdx, hvx, _, hxc, _, mm1⟩ := Sat.tab (Sat.up8 s4) he
      obtain ⟨rfl, _, rfl⟩ := slice_inj hvx
      obtain ⟨Ax, capx, hhx, _⟩ := Sat.row mm1
      rw [hhx] at hxc
      have x6 := Sat.cell (Sat.up3 mm1) 7
      have hxB := Sat.cell (Sat.up2 mm1)
      have hltm := Sat.lt (Sat.up3 mm1)
      have hltBm := Sat.lt (Sat.up2 mm1)
      go_upto_region 15 with (fail)
      have mm2 := (mm1.alloc (.cells #[.int .i64 (n : Int)] 3)).drew
      have xp := And.intro (Sat.cell (Sat.up3 mm2) 7) (And.intro (Sat.tabCell he rfl (Sat.up1 mm2)).1 (Sat.cell (Sat.up2 mm2)))
      rw [hhx] at xp
      refine wp_region_N (S := (fun w' => w'.cell? ⟨p, 7, none⟩ = some (.slice (some ⟨gh, 0, none⟩) E.length caph) ∧ w'.cell? ⟨gh, e, none⟩ = some (.slice Ax (({ N with chan := upd N.chan e rest }).handled e).length capx) ∧ (∀ q, w'.cell? ⟨B7, q, none⟩ = #[.int .i64 2, .int .i64 0, .int .i64 0, .int .i64 0, .int .i64 (n : Int), .slice none 0 0][q]?))) 17 (by kernel_rfl) ?_ (fun hHeld => ?_)
      · exact ⟨by simpa using x6, by simpa using hxc, fun q => by simpa using hxB q⟩
      refine wpAnyN_take (i := 0) (v := ?_) rfl (by kernel_rfl) (by kernel_rfl) (by kernel_rfl) (by kernel_rfl) (fun _ _ _ h => h) (by assumption) (Or.inl ⟨by rfl, ?_⟩) ?_
      rotate_left
      · (intro wq hSw; (try dsimp only at hSw); go_simp; try (with_reducible rfl))
      try simp only [Act.put, List.setIfInBounds_toArray, List.set_cons_zero, List.set_cons_succ]
      refine wpAnyN_take (i := 1) (v := ?_) rfl (by kernel_rfl) (by kernel_rfl) (by kernel_rfl) (by kernel_rfl) (fun _ _ _ h => h) (by assumption) (Or.inl ⟨by rfl, ?_⟩) ?_
      rotate_left
      · (intro wq hSw; (try dsimp only at hSw); go_simp; try (with_reducible rfl))
      try simp only [Act.put, List.setIfInBounds_toArray, List.set_cons_zero, List.set_cons_succ]
      refine wpAnyN_take (i := 2) (v := ?_) rfl (by kernel_rfl) (by kernel_rfl) (by kernel_rfl) (by kernel_rfl) (fun _ _ _ h => h) (by assumption) (Or.inl ⟨by rfl, ?_⟩) ?_
      rotate_left
      · (intro wq hSw; (try dsimp only at hSw); go_simp; try (with_reducible rfl))
      try simp only [Act.put, List.setIfInBounds_toArray, List.set_cons_zero, List.set_cons_succ]
      refine wpAnyN_take (i := 3) (v := ?_) rfl (by kernel_rfl) (by kernel_rfl) (by kernel_rfl) (by kernel_rfl) (fun _ _ _ h => h) (by assumption) (Or.inl ⟨by rfl, ?_⟩) ?_
      rotate_left
      · (intro wq hSw; (try dsimp only at hSw); go_simp; try (with_reducible rfl))
      try simp only [Act.put, List.setIfInBounds_toArray, List.set_cons_zero, List.set_cons_succ]
      refine wpAnyN_take (i := 4) (v := ?_) rfl (by kernel_rfl) (by kernel_rfl) (by kernel_rfl) (by kernel_rfl) (fun _ _ _ h => h) (by assumption) (Or.inl ⟨by rfl, ?_⟩) ?_
      rotate_left
      · (intro wq hSw; (try dsimp only at hSw); go_simp; try (with_reducible rfl))
      try simp only [Act.put, List.setIfInBounds_toArray, List.set_cons_zero, List.set_cons_succ]
      refine wpAnyN_take (i := 5) (v := ?_) rfl (by kernel_rfl) (by kernel_rfl) (by kernel_rfl) (by kernel_rfl) (fun _ _ _ h => h) (by assumption) (Or.inl ⟨by rfl, ?_⟩) ?_
      rotate_left
      · (intro wq hSw; (try dsimp only at hSw); go_simp; try (with_reducible rfl))
      try simp only [Act.put, List.setIfInBounds_toArray, List.set_cons_zero, List.set_cons_succ]
      refine wpAnyN_take (i := 6) (v := ?_) rfl (by kernel_rfl) (by kernel_rfl) (by kernel_rfl) (by kernel_rfl) (fun _ _ _ h => h) (by assumption) (Or.inl ⟨by rfl, ?_⟩) ?_
      rotate_left
      · (intro wq hSw; (try dsimp only at hSw); go_simp; try (with_reducible rfl))
      try simp only [Act.put, List.setIfInBounds_toArray, List.set_cons_zero, List.set_cons_succ]
      refine wpAnyN_take (i := 7) (v := ?_) rfl (by kernel_rfl) (by kernel_rfl) (by kernel_rfl) (by kernel_rfl) (fun _ _ _ h => h) (by assumption) (Or.inl ⟨by rfl, ?_⟩) ?_
      rotate_left
      · (intro wq hSw; (try dsimp only at hSw); go_simp; try (with_reducible rfl))
      try simp only [Act.put, List.setIfInBounds_toArray, List.set_cons_zero, List.set_cons_succ]
      refine wpAnyN_take (i := 8) (v := ?_) rfl (by kernel_rfl) (by kernel_rfl) (by kernel_rfl) (by kernel_rfl) (fun _ _ _ h => h) (by assumption) (Or.inl ⟨by rfl, ?_⟩) ?_
      rotate_left
      · (intro wq hSw; (try dsimp only at hSw); go_simp; try (with_reducible rfl))
      try simp only [Act.put, List.setIfInBounds_toArray, List.set_cons_zero, List.set_cons_succ]
      refine wpAnyN_take (i := 9) (v := ?_) rfl (by kernel_rfl) (by kernel_rfl) (by kernel_rfl) (by kernel_rfl) (fun _ _ _ h => h) (by assumption) (Or.inl ⟨by rfl, ?_⟩) ?_
      rotate_left
      · (intro wq hSw; (try dsimp only at hSw); go_simp; try (with_reducible rfl))
      try simp only [Act.put, List.setIfInBounds_toArray, List.set_cons_zero, List.set_cons_succ]
      refine wpAnyN_take (i := 10) (v := ?_) rfl (by kernel_rfl) (by kernel_rfl) (by kernel_rfl) (by kernel_rfl) (fun _ _ _ h => h) (by assumption) (Or.inl ⟨by rfl, ?_⟩) ?_
      rotate_left
      · (intro wq hSw; (try dsimp only at hSw); go_simp; try (with_reducible rfl))
      try simp only [Act.put, List.setIfInBounds_toArray, List.set_cons_zero, List.set_cons_succ]
      refine wpAnyN_take (i := 11) (v := ?_) rfl (by kernel_rfl) (by kernel_rfl) (by kernel_rfl) (by kernel_rfl) (fun _ _ _ h => h) (by assumption) (Or.inl ⟨by rfl, ?_⟩) ?_
      rotate_left
      · (intro wq hSw; (try dsimp only at hSw); go_simp; try (with_reducible rfl))
      try simp only [Act.put, List.setIfInBounds_toArray, List.set_cons_zero, List.set_cons_succ]
      refine wpAnyN_take (i := 12) (v := ?_) rfl (by kernel_rfl) (by kernel_rfl) (by kernel_rfl) (by kernel_rfl) (fun _ _ _ h => h) (by assumption) (Or.inl ⟨by rfl, ?_⟩) ?_
      rotate_left
      · (intro wq hSw; (try dsimp only at hSw); go_simp; try (with_reducible rfl))
      try simp only [Act.put, List.setIfInBounds_toArray, List.set_cons_zero, List.set_cons_succ]
      refine wpAnyN_take (i := 13) (v := ?_) rfl (by kernel_rfl) (by kernel_rfl) (by kernel_rfl) (by kernel_rfl) (fun _ _ _ h => h) (by assumption) (Or.inl ⟨by rfl, ?_⟩) ?_
      rotate_left
      · (intro wq hSw; (try dsimp only at hSw); go_simp; try (with_reducible rfl))
      try simp only [Act.put, List.setIfInBounds_toArray, List.set_cons_zero, List.set_cons_succ]
      refine wpAnyN_one (i := 14) (by kernel_rfl) rfl (fun K hK => ?_)
      go_simp
      refine hK.out _ _ ?_ (fun hHeld => ?_)
      · exact ⟨xp.1, xp.2.1, xp.2.2⟩
      clear hK K
      try simp only [Act.put, List.setIfInBounds_toArray, List.set_cons_zero, List.set_cons_succ]
      refine wpAnyN_one (i := 15) (by kernel_rfl) rfl (fun K hK => ?_)
      refine step_append_sep rfl (.tmp 105) (.tmp 108) 58 rfl i0 _ 8 Try.underlying58 hi0 hz0 hz1 hz2 rfl (by decide) hhx.symm mm2 ⟨wq.heap.size, 0, none⟩ 1 1 [.int .i64 (n : Int)] rfl rfl (newsN wq 3 _) (by simp [Value.oneCell']) (show (N.handled e).length + 1 ≤ maxLen by unfold maxLen; omega) (show ((N.handled e).length + 1) * 8 ≤ 140737488355328 by omega) ?_
      intro v1 wn hS1 _
      have zt := Sat.tabCell he rfl (Sat.up1 hS1)
      rw [hhx] at zt
      have zq := Sat.cell (Sat.up3 hS1) 7
      have zB := Sat.cell (Sat.up2 hS1)
      obtain ⟨A2, c2, hv1, _⟩ := Sat.row hS1
      subst hv1
      refine hK.out _ _ ?_ (fun hHeld => ?_)
      · exact ⟨zq, zt.1, zB⟩
      clear hK K
      try simp only [Act.put, List.setIfInBounds_toArray, List.set_cons_zero, List.set_cons_succ]
      refine wpAnyN_take (i := 16) (v := ?_) rfl (by kernel_rfl) (by kernel_rfl) (by kernel_rfl) (by kernel_rfl) (fun _ _ _ h => h) (by assumption) (Or.inl ⟨by rfl, ?_⟩) ?_
      rotate_left
      · (intro wq hSw; (try dsimp only at hSw); go_simp; try (with_reducible rfl))
      try simp only [Act.put, List.setIfInBounds_toArray, List.set_cons_zero, List.set_cons_succ]
      refine wpAnyN_last (by kernel_rfl) rfl (by kernel_rfl) (fun K hK => ?_)
      go_simp
      refine hK.out _ _ ?_
      clear hK K
      try simp only [Act.put, List.setIfInBounds_toArray, List.set_cons_zero, List.set_cons_succ]
      have s4n : Sat X _ (blk B7 44 #[.int .i64 2, .int .i64 0, .int .i64 0, .int .i64 0, .int .i64 (n : Int), .slice none 0 0] :: netL W p (.slice (some ⟨b, off, none⟩) E.length c) E.length nI ⟨.slice (some ⟨gc, 0, none⟩) E.length capc, .slice (some ⟨gg, 0, none⟩) nI capg, .slice (some ⟨gb, 0, none⟩) nI capb, .slice (some ⟨gr, 0, none⟩) nI capr, vM, vX, .slice (some ⟨gh, 0, none⟩) E.length caph, .slice (some ⟨gf, 0, none⟩) E.length capf⟩ { N with chan := upd N.chan e rest, handled := upd N.handled e (N.handled e ++ [n]) } ++ F) :=
        Sat.dn8 (Sat.tabStore (D' := upd ({ N with chan := upd N.chan e rest }).handled e (({ N with chan := upd N.chan e rest }).handled e ++ [n])) he rfl (fun j hj => upd_ne _ _ hj) (by
          rw [upd_same]
          simpa [ncell] using hS1))
      generalize hwz : wn.setCell _ _ = wqn at s4n ⊢
      clear hwz hS1 zt zq zB xp mm2 mm1 x6 hxB hxc hltm hltBm
      clear n0 n3 n4 n7 n8 n9 nlt hB4 hltB4 hrk
      obtain ⟨n0, _, _, n3, n4, _, _, n7, n8, n9, _, nlt⟩ := net_cells W X wqn p _ E nI _ _ _ (Sat.drop s4n)
      try simp only at n0 n3 n4 n7 n8 n9
      have hB4 : ∀ q, wqn.cell? ⟨B7, q, none⟩ = #[.int .i64 2, .int .i64 0, .int .i64 0, .int .i64 0, .int .i64 (n : Int), .slice none 0 0][q]? := Sat.cell s4n
      have hltB4 := Sat.lt s4n
      have hN4 : hear E { N with chan := upd N.chan e rest } e ⟨false, n⟩ 1 = if 0 < n then produce E ({ N with chan := upd N.chan e rest, handled := upd N.handled e (N.handled e ++ [n]) }) i ⟨false, n - 1⟩ else ({ N with chan := upd N.chan e rest, handled := upd N.handled e (N.handled e ++ [n]) }) := by
        unfold hear
        simp only [hiq, HR.out]
        simp
      have HH := Lib.hid hN4
      clear hN4
      by_cases hn0 : 0 < n
      · have hsub : IntKind.i64.wrap ((n : Int) - 1) = ((n - 1 : Nat) : Int) := by
          rw [IntWalk.i64_in _ (by omega)]
          omega
        obtain ⟨k, hk⟩ : ∃ k, n - 1 = k := ⟨_, rfl⟩
        rw [hk] at hsub
        have HK := Lib.hid hk
        have HP := Lib.hid hn0
        have hng : decide (0 < n) = true := by simpa using hn0
        clear hk
        go_wp2_with (first | ((go_at_call 9; (with_reducible refine (mark_any _ _).mono ?_); rintro e' w8 ⟨rfl, hx8⟩; have s8 := s4n.drop.ext hx8)) | ((go_at_call 8; (with_reducible refine (produce_mark W X _ p _ E nI _ ({ N with chan := upd N.chan e rest, handled := upd N.handled e (N.handled e ++ [n]) }) F i ht k hn5 HEE.out (HBX.out) (HL9.out) s8).mono ?_); rintro e' w9 ⟨rfl, s9⟩)))
        rw [HT.out (by simp), HH.out, if_pos HP.out, HK.out]
        refine bodyPost_ret (v := .tuple #[.bool true, .bool true]) (by simp [results, Try.results10, go_sem]) rfl ⟨rfl, s9⟩

      · have hn00 : n = 0 := by omega
        have hng : decide (0 < n) = false := by simpa using hn0
        have HP := Lib.hid hn0
        clear hn00
        go_wp2
        rw [HT.out (by simp), HH.out, if_neg HP.out]
        refine bodyPost_ret (v := .tuple #[.bool true, .bool true]) (by simp [results, Try.results10, go_sem]) rfl ⟨rfl, s4n.drop⟩

  · skip
    obtain ⟨gc', capc', ca', hvc', _, hcc, m6⟩ := Sat.ptrs (Sat.up2 s3) he
    obtain ⟨rfl, _, rfl⟩ := slice_inj hvc'
    try simp only at m6
    rw [hq] at m6
    have k1 := Sat.cell (Sat.up3 m6) 1
    have klt := Sat.lt (Sat.up3 m6)
    go_upto_region 14 with ((go_at_call 25; (with_reducible refine (take_some _ X _ _ ⟨false, n⟩ rest m6).mono ?_); rintro e' w4 ⟨rfl, m7⟩))
    have s4 : Sat X w4 (blk B7 44 #[.int .i64 2, .int .i64 0, .int .i64 0, .int .i64 0, .int .i64 (n : Int), .slice none 0 0] :: netL W p (.slice (some ⟨b, off, none⟩) E.length c) E.length nI ⟨.slice (some ⟨gc, 0, none⟩) E.length capc, .slice (some ⟨gg, 0, none⟩) nI capg, .slice (some ⟨gb, 0, none⟩) nI capb, .slice (some ⟨gr, 0, none⟩) nI capr, vM, vX, .slice (some ⟨gh, 0, none⟩) E.length caph, .slice (some ⟨gf, 0, none⟩) E.length capf⟩ { N with chan := upd N.chan e rest } ++ F) :=
      Sat.dn2 (Sat.ptrsBack (A' := fun c j => chanA c (upd N.chan e rest j)) he (fun c j hj => by rw [upd_ne _ _ hj]) (by rw [upd_same]; exact m7))
    clear m6 m7 k1 klt hcc s3
    obtain ⟨n0, _, _, n3, n4, _, _, n7, n8, n9, _, nlt⟩ := net_cells W X w4 p _ E nI _ _ _ (Sat.drop s4)
    try simp only at n0 n3 n4 n7 n8 n9
    have hB4 : ∀ q, w4.cell? ⟨B7, q, none⟩ = #[.int .i64 2, .int .i64 0, .int .i64 0, .int .i64 0, .int .i64 (n : Int), .slice none 0 0][q]? := Sat.cell s4
    have hltB4 := Sat.lt s4
    obtain ⟨gr', capr', hr', _, _, _, hrc, _⟩ := Sat.rowAt (Sat.up5 s4) (by omega)
    obtain ⟨rfl, _, rfl⟩ := slice_inj hr'
    have hrk := hrc i _ (map_range_get _ ht)
    clear hrc
    by_cases hrep : N.rep i = true
    · rw [hrep] at hrk
      have HR := Lib.hid hrep
      clear hrep
      have HR2 := Lib.hid (HL.out e he).2.2
      have hfl : (N.flying e).length ≤ 10000000 := HR2.out
      have sq := s4
      obtain ⟨wq, hwq⟩ : ∃ wq : World, wq = w4 := ⟨_, rfl⟩
      subst hwq
      obtain ⟨gx', capx', hdx, hvx, _, hxc, _, mm1⟩ := Sat.tab (Sat.up9 s4) he
      obtain ⟨rfl, _, rfl⟩ := slice_inj hvx
      obtain ⟨Ax, capx, hhx, _⟩ := Sat.row mm1
      rw [hhx] at hxc
      have x6 := Sat.cell (Sat.up3 mm1) 8
      have hxB := Sat.cell (Sat.up2 mm1)
      have hltm := Sat.lt (Sat.up3 mm1)
      have hltBm := Sat.lt (Sat.up2 mm1)
      go_upto_region 17 with (fail)
      have mm2 := (mm1.alloc (.cells #[.int .i64 (n : Int)] 3)).drew
      have xp := And.intro (Sat.cell (Sat.up3 mm2) 8) (And.intro (Sat.tabCell he rfl (Sat.up1 mm2)).1 (Sat.cell (Sat.up2 mm2)))
      rw [hhx] at xp
      refine wp_region_N (S := (fun w' => w'.cell? ⟨p, 8, none⟩ = some (.slice (some ⟨gf, 0, none⟩) E.length capf) ∧ w'.cell? ⟨gf, e, none⟩ = some (.slice Ax (({ N with chan := upd N.chan e rest }).flying e).length capx) ∧ (∀ q, w'.cell? ⟨B7, q, none⟩ = #[.int .i64 2, .int .i64 0, .int .i64 0, .int .i64 0, .int .i64 (n : Int), .slice none 0 0][q]?))) 17 (by kernel_rfl) ?_ (fun hHeld => ?_)
      · exact ⟨by simpa using x6, by simpa using hxc, fun q => by simpa using hxB q⟩
      refine wpAnyN_take (i := 0) (v := ?_) rfl (by kernel_rfl) (by kernel_rfl) (by kernel_rfl) (by kernel_rfl) (fun _ _ _ h => h) (by assumption) (Or.inl ⟨by rfl, ?_⟩) ?_
      rotate_left
      · (intro wq hSw; (try dsimp only at hSw); go_simp; try (with_reducible rfl))
      try simp only [Act.put, List.setIfInBounds_toArray, List.set_cons_zero, List.set_cons_succ]
      refine wpAnyN_take (i := 1) (v := ?_) rfl (by kernel_rfl) (by kernel_rfl) (by kernel_rfl) (by kernel_rfl) (fun _ _ _ h => h) (by assumption) (Or.inl ⟨by rfl, ?_⟩) ?_
      rotate_left
      · (intro wq hSw; (try dsimp only at hSw); go_simp; try (with_reducible rfl))
      try simp only [Act.put, List.setIfInBounds_toArray, List.set_cons_zero, List.set_cons_succ]
      refine wpAnyN_take (i := 2) (v := ?_) rfl (by kernel_rfl) (by kernel_rfl) (by kernel_rfl) (by kernel_rfl) (fun _ _ _ h => h) (by assumption) (Or.inl ⟨by rfl, ?_⟩) ?_
      rotate_left
      · (intro wq hSw; (try dsimp only at hSw); go_simp; try (with_reducible rfl))
      try simp only [Act.put, List.setIfInBounds_toArray, List.set_cons_zero, List.set_cons_succ]
      refine wpAnyN_take (i := 3) (v := ?_) rfl (by kernel_rfl) (by kernel_rfl) (by kernel_rfl) (by kernel_rfl) (fun _ _ _ h => h) (by assumption) (Or.inl ⟨by rfl, ?_⟩) ?_
      rotate_left
      · (intro wq hSw; (try dsimp only at hSw); go_simp; try (with_reducible rfl))
      try simp only [Act.put, List.setIfInBounds_toArray, List.set_cons_zero, List.set_cons_succ]
      refine wpAnyN_take (i := 4) (v := ?_) rfl (by kernel_rfl) (by kernel_rfl) (by kernel_rfl) (by kernel_rfl) (fun _ _ _ h => h) (by assumption) (Or.inl ⟨by rfl, ?_⟩) ?_
      rotate_left
      · (intro wq hSw; (try dsimp only at hSw); go_simp; try (with_reducible rfl))
      try simp only [Act.put, List.setIfInBounds_toArray, List.set_cons_zero, List.set_cons_succ]
      refine wpAnyN_take (i := 5) (v := ?_) rfl (by kernel_rfl) (by kernel_rfl) (by kernel_rfl) (by kernel_rfl) (fun _ _ _ h => h) (by assumption) (Or.inl ⟨by rfl, ?_⟩) ?_
      rotate_left
      · (intro wq hSw; (try dsimp only at hSw); go_simp; try (with_reducible rfl))
      try simp only [Act.put, List.setIfInBounds_toArray, List.set_cons_zero, List.set_cons_succ]
      refine wpAnyN_take (i := 6) (v := ?_) rfl (by kernel_rfl) (by kernel_rfl) (by kernel_rfl) (by kernel_rfl) (fun _ _ _ h => h) (by assumption) (Or.inl ⟨by rfl, ?_⟩) ?_
      rotate_left
      · (intro wq hSw; (try dsimp only at hSw); go_simp; try (with_reducible rfl))
      try simp only [Act.put, List.setIfInBounds_toArray, List.set_cons_zero, List.set_cons_succ]
      refine wpAnyN_take (i := 7) (v := ?_) rfl (by kernel_rfl) (by kernel_rfl) (by kernel_rfl) (by kernel_rfl) (fun _ _ _ h => h) (by assumption) (Or.inl ⟨by rfl, ?_⟩) ?_
      rotate_left
      · (intro wq hSw; (try dsimp only at hSw); go_simp; try (with_reducible rfl))
      try simp only [Act.put, List.setIfInBounds_toArray, List.set_cons_zero, List.set_cons_succ]
      refine wpAnyN_take (i := 8) (v := ?_) rfl (by kernel_rfl) (by kernel_rfl) (by kernel_rfl) (by kernel_rfl) (fun _ _ _ h => h) (by assumption) (Or.inl ⟨by rfl, ?_⟩) ?_
      rotate_left
      · (intro wq hSw; (try dsimp only at hSw); go_simp; try (with_reducible rfl))
      try simp only [Act.put, List.setIfInBounds_toArray, List.set_cons_zero, List.set_cons_succ]
      refine wpAnyN_take (i := 9) (v := ?_) rfl (by kernel_rfl) (by kernel_rfl) (by kernel_rfl) (by kernel_rfl) (fun _ _ _ h => h) (by assumption) (Or.inl ⟨by rfl, ?_⟩) ?_
      rotate_left
      · (intro wq hSw; (try dsimp only at hSw); go_simp; try (with_reducible rfl))
      try simp only [Act.put, List.setIfInBounds_toArray, List.set_cons_zero, List.set_cons_succ]
      refine wpAnyN_take (i := 10) (v := ?_) rfl (by kernel_rfl) (by kernel_rfl) (by kernel_rfl) (by kernel_rfl) (fun _ _ _ h => h) (by assumption) (Or.inl ⟨by rfl, ?_⟩) ?_
      rotate_left
      · (intro wq hSw; (try dsimp only at hSw); go_simp; try (with_reducible rfl))
      try simp only [Act.put, List.setIfInBounds_toArray, List.set_cons_zero, List.set_cons_succ]
      refine wpAnyN_take (i := 11) (v := ?_) rfl (by kernel_rfl) (by kernel_rfl) (by kernel_rfl) (by kernel_rfl) (fun _ _ _ h => h) (by assumption) (Or.inl ⟨by rfl, ?_⟩) ?_
      rotate_left
      · (intro wq hSw; (try dsimp only at hSw); go_simp; try (with_reducible rfl))
      try simp only [Act.put, List.setIfInBounds_toArray, List.set_cons_zero, List.set_cons_succ]
      refine wpAnyN_take (i := 12) (v := ?_) rfl (by kernel_rfl) (by kernel_rfl) (by kernel_rfl) (by kernel_rfl) (fun _ _ _ h => h) (by assumption) (Or.inl ⟨by rfl, ?_⟩) ?_
      rotate_left
      · (intro wq hSw; (try dsimp only at hSw); go_simp; try (with_reducible rfl))
      try simp only [Act.put, List.setIfInBounds_toArray, List.set_cons_zero, List.set_cons_succ]
      refine wpAnyN_take (i := 13) (v := ?_) rfl (by kernel_rfl) (by kernel_rfl) (by kernel_rfl) (by kernel_rfl) (fun _ _ _ h => h) (by assumption) (Or.inl ⟨by rfl, ?_⟩) ?_
      rotate_left
      · (intro wq hSw; (try dsimp only at hSw); go_simp; try (with_reducible rfl))
      try simp only [Act.put, List.setIfInBounds_toArray, List.set_cons_zero, List.set_cons_succ]
      refine wpAnyN_one (i := 14) (by kernel_rfl) rfl (fun K hK => ?_)
      go_simp
      refine hK.out _ _ ?_ (fun hHeld => ?_)
      · exact ⟨xp.1, xp.2.1, xp.2.2⟩
      clear hK K
      try simp only [Act.put, List.setIfInBounds_toArray, List.set_cons_zero, List.set_cons_succ]
      refine wpAnyN_one (i := 15) (by kernel_rfl) rfl (fun K hK => ?_)
      refine step_append_sep rfl (.tmp 124) (.tmp 127) 58 rfl i0 _ 8 Try.underlying58 hi0 hz0 hz1 hz2 rfl (by decide) hhx.symm mm2 ⟨wq.heap.size, 0, none⟩ 1 1 [.int .i64 (n : Int)] rfl rfl (newsN wq 3 _) (by simp [Value.oneCell']) (show (N.flying e).length + 1 ≤ maxLen by unfold maxLen; omega) (show ((N.flying e).length + 1) * 8 ≤ 140737488355328 by omega) ?_
      intro v1 wn hS1 _
      have zt := Sat.tabCell he rfl (Sat.up1 hS1)
      rw [hhx] at zt
      have zq := Sat.cell (Sat.up3 hS1) 8
      have zB := Sat.cell (Sat.up2 hS1)
      obtain ⟨A2, c2, hv1, _⟩ := Sat.row hS1
      subst hv1
      refine hK.out _ _ ?_ (fun hHeld => ?_)
      · exact ⟨zq, zt.1, zB⟩
      clear hK K
      try simp only [Act.put, List.setIfInBounds_toArray, List.set_cons_zero, List.set_cons_succ]
      refine wpAnyN_take (i := 16) (v := ?_) rfl (by kernel_rfl) (by kernel_rfl) (by kernel_rfl) (by kernel_rfl) (fun _ _ _ h => h) (by assumption) (Or.inl ⟨by rfl, ?_⟩) ?_
      rotate_left
      · (intro wq hSw; (try dsimp only at hSw); go_simp; try (with_reducible rfl))
      try simp only [Act.put, List.setIfInBounds_toArray, List.set_cons_zero, List.set_cons_succ]
      refine wpAnyN_last (by kernel_rfl) rfl (by kernel_rfl) (fun K hK => ?_)
      go_simp
      refine hK.out _ _ ?_
      clear hK K
      try simp only [Act.put, List.setIfInBounds_toArray, List.set_cons_zero, List.set_cons_succ]
      have s4n : Sat X _ (blk B7 44 #[.int .i64 2, .int .i64 0, .int .i64 0, .int .i64 0, .int .i64 (n : Int), .slice none 0 0] :: netL W p (.slice (some ⟨b, off, none⟩) E.length c) E.length nI ⟨.slice (some ⟨gc, 0, none⟩) E.length capc, .slice (some ⟨gg, 0, none⟩) nI capg, .slice (some ⟨gb, 0, none⟩) nI capb, .slice (some ⟨gr, 0, none⟩) nI capr, vM, vX, .slice (some ⟨gh, 0, none⟩) E.length caph, .slice (some ⟨gf, 0, none⟩) E.length capf⟩ { N with chan := upd N.chan e rest, flying := upd N.flying e (N.flying e ++ [n]) } ++ F) :=
        Sat.dn9 (Sat.tabStore (D' := upd ({ N with chan := upd N.chan e rest }).flying e (({ N with chan := upd N.chan e rest }).flying e ++ [n])) he rfl (fun j hj => upd_ne _ _ hj) (by
          rw [upd_same]
          simpa [ncell] using hS1))
      generalize hwz : wn.setCell _ _ = wqn at s4n ⊢
      clear hwz hS1 zt zq zB xp mm2 mm1 x6 hxB hxc hltm hltBm
      clear n0 n3 n4 n7 n8 n9 nlt hB4 hltB4 hrk
      obtain ⟨n0, _, _, n3, n4, _, _, n7, n8, n9, _, nlt⟩ := net_cells W X wqn p _ E nI _ _ _ (Sat.drop s4n)
      try simp only at n0 n3 n4 n7 n8 n9
      have hB4 : ∀ q, wqn.cell? ⟨B7, q, none⟩ = #[.int .i64 2, .int .i64 0, .int .i64 0, .int .i64 0, .int .i64 (n : Int), .slice none 0 0][q]? := Sat.cell s4n
      have hltB4 := Sat.lt s4n
      have hN4 : hear E { N with chan := upd N.chan e rest } e ⟨false, n⟩ 2 = if 0 < n then produce E ({ N with chan := upd N.chan e rest, flying := upd N.flying e (N.flying e ++ [n]) }) i ⟨false, n - 1⟩ else ({ N with chan := upd N.chan e rest, flying := upd N.flying e (N.flying e ++ [n]) }) := by
        unfold hear
        simp only [hiq, HR.out]
        simp
      have HH := Lib.hid hN4
      clear hN4
      by_cases hn0 : 0 < n
      · have hsub : IntKind.i64.wrap ((n : Int) - 1) = ((n - 1 : Nat) : Int) := by
          rw [IntWalk.i64_in _ (by omega)]
          omega
        obtain ⟨k, hk⟩ : ∃ k, n - 1 = k := ⟨_, rfl⟩
        rw [hk] at hsub
        have HK := Lib.hid hk
        have HP := Lib.hid hn0
        have hng : decide (0 < n) = true := by simpa using hn0
        clear hk
        go_wp2_with (first | ((go_at_call 9; (with_reducible refine (mark_any _ _).mono ?_); rintro e' w8 ⟨rfl, hx8⟩; have s8 := s4n.drop.ext hx8)) | ((go_at_call 8; (with_reducible refine (produce_mark W X _ p _ E nI _ ({ N with chan := upd N.chan e rest, flying := upd N.flying e (N.flying e ++ [n]) }) F i ht k hn5 HEE.out (HBX.out) (HL9.out) s8).mono ?_); rintro e' w9 ⟨rfl, s9⟩)))
        rw [HT.out (by simp), HH.out, if_pos HP.out, HK.out]
        refine bodyPost_ret (v := .tuple #[.bool true, .bool true]) (by simp [results, Try.results10, go_sem]) rfl ⟨rfl, s9⟩

      · have hn00 : n = 0 := by omega
        have hng : decide (0 < n) = false := by simpa using hn0
        have HP := Lib.hid hn0
        clear hn00
        go_wp2
        rw [HT.out (by simp), HH.out, if_neg HP.out]
        refine bodyPost_ret (v := .tuple #[.bool true, .bool true]) (by simp [results, Try.results10, go_sem]) rfl ⟨rfl, s4n.drop⟩

    · have hrep' : N.rep i = false := by simpa using hrep
      rw [hrep'] at hrk
      have HR := Lib.hid hrep'
      clear hrep hrep'
      have hhl : (N.handled e).length ≤ 10000000 := (HL.out e he).2.1
      have sq := s4
      obtain ⟨wq, hwq⟩ : ∃ wq : World, wq = w4 := ⟨_, rfl⟩
      subst hwq
      obtain ⟨gx', capx', hdx, hvx, _, hxc, _, mm1⟩ := Sat.tab (Sat.up8 s4) he
      obtain ⟨rfl, _, rfl⟩ := slice_inj hvx
      obtain ⟨Ax, capx, hhx, _⟩ := Sat.row mm1
      rw [hhx] at hxc
      have x6 := Sat.cell (Sat.up3 mm1) 7
      have hxB := Sat.cell (Sat.up2 mm1)
      have hltm := Sat.lt (Sat.up3 mm1)
      have hltBm := Sat.lt (Sat.up2 mm1)
      go_upto_region 15 with (fail)
      have mm2 := (mm1.alloc (.cells #[.int .i64 (n : Int)] 3)).drew
      have xp := And.intro (Sat.cell (Sat.up3 mm2) 7) (And.intro (Sat.tabCell he rfl (Sat.up1 mm2)).1 (Sat.cell (Sat.up2 mm2)))
      rw [hhx] at xp
      refine wp_region_N (S := (fun w' => w'.cell? ⟨p, 7, none⟩ = some (.slice (some ⟨gh, 0, none⟩) E.length caph) ∧ w'.cell? ⟨gh, e, none⟩ = some (.slice Ax (({ N with chan := upd N.chan e rest }).handled e).length capx) ∧ (∀ q, w'.cell? ⟨B7, q, none⟩ = #[.int .i64 2, .int .i64 0, .int .i64 0, .int .i64 0, .int .i64 (n : Int), .slice none 0 0][q]?))) 17 (by kernel_rfl) ?_ (fun hHeld => ?_)
      · exact ⟨by simpa using x6, by simpa using hxc, fun q => by simpa using hxB q⟩
      refine wpAnyN_take (i := 0) (v := ?_) rfl (by kernel_rfl) (by kernel_rfl) (by kernel_rfl) (by kernel_rfl) (fun _ _ _ h => h) (by assumption) (Or.inl ⟨by rfl, ?_⟩) ?_
      rotate_left
      · (intro wq hSw; (try dsimp only at hSw); go_simp; try (with_reducible rfl))
      try simp only [Act.put, List.setIfInBounds_toArray, List.set_cons_zero, List.set_cons_succ]
      refine wpAnyN_take (i := 1) (v := ?_) rfl (by kernel_rfl) (by kernel_rfl) (by kernel_rfl) (by kernel_rfl) (fun _ _ _ h => h) (by assumption) (Or.inl ⟨by rfl, ?_⟩) ?_
      rotate_left
      · (intro wq hSw; (try dsimp only at hSw); go_simp; try (with_reducible rfl))
      try simp only [Act.put, List.setIfInBounds_toArray, List.set_cons_zero, List.set_cons_succ]
      refine wpAnyN_take (i := 2) (v := ?_) rfl (by kernel_rfl) (by kernel_rfl) (by kernel_rfl) (by kernel_rfl) (fun _ _ _ h => h) (by assumption) (Or.inl ⟨by rfl, ?_⟩) ?_
      rotate_left
      · (intro wq hSw; (try dsimp only at hSw); go_simp; try (with_reducible rfl))
      try simp only [Act.put, List.setIfInBounds_toArray, List.set_cons_zero, List.set_cons_succ]
      refine wpAnyN_take (i := 3) (v := ?_) rfl (by kernel_rfl) (by kernel_rfl) (by kernel_rfl) (by kernel_rfl) (fun _ _ _ h => h) (by assumption) (Or.inl ⟨by rfl, ?_⟩) ?_
      rotate_left
      · (intro wq hSw; (try dsimp only at hSw); go_simp; try (with_reducible rfl))
      try simp only [Act.put, List.setIfInBounds_toArray, List.set_cons_zero, List.set_cons_succ]
      refine wpAnyN_take (i := 4) (v := ?_) rfl (by kernel_rfl) (by kernel_rfl) (by kernel_rfl) (by kernel_rfl) (fun _ _ _ h => h) (by assumption) (Or.inl ⟨by rfl, ?_⟩) ?_
      rotate_left
      · (intro wq hSw; (try dsimp only at hSw); go_simp; try (with_reducible rfl))
      try simp only [Act.put, List.setIfInBounds_toArray, List.set_cons_zero, List.set_cons_succ]
      refine wpAnyN_take (i := 5) (v := ?_) rfl (by kernel_rfl) (by kernel_rfl) (by kernel_rfl) (by kernel_rfl) (fun _ _ _ h => h) (by assumption) (Or.inl ⟨by rfl, ?_⟩) ?_
      rotate_left
      · (intro wq hSw; (try dsimp only at hSw); go_simp; try (with_reducible rfl))
      try simp only [Act.put, List.setIfInBounds_toArray, List.set_cons_zero, List.set_cons_succ]
      refine wpAnyN_take (i := 6) (v := ?_) rfl (by kernel_rfl) (by kernel_rfl) (by kernel_rfl) (by kernel_rfl) (fun _ _ _ h => h) (by assumption) (Or.inl ⟨by rfl, ?_⟩) ?_
      rotate_left
      · (intro wq hSw; (try dsimp only at hSw); go_simp; try (with_reducible rfl))
      try simp only [Act.put, List.setIfInBounds_toArray, List.set_cons_zero, List.set_cons_succ]
      refine wpAnyN_take (i := 7) (v := ?_) rfl (by kernel_rfl) (by kernel_rfl) (by kernel_rfl) (by kernel_rfl) (fun _ _ _ h => h) (by assumption) (Or.inl ⟨by rfl, ?_⟩) ?_
      rotate_left
      · (intro wq hSw; (try dsimp only at hSw); go_simp; try (with_reducible rfl))
      try simp only [Act.put, List.setIfInBounds_toArray, List.set_cons_zero, List.set_cons_succ]
      refine wpAnyN_take (i := 8) (v := ?_) rfl (by kernel_rfl) (by kernel_rfl) (by kernel_rfl) (by kernel_rfl) (fun _ _ _ h => h) (by assumption) (Or.inl ⟨by rfl, ?_⟩) ?_
      rotate_left
      · (intro wq hSw; (try dsimp only at hSw); go_simp; try (with_reducible rfl))
      try simp only [Act.put, List.setIfInBounds_toArray, List.set_cons_zero, List.set_cons_succ]
      refine wpAnyN_take (i := 9) (v := ?_) rfl (by kernel_rfl) (by kernel_rfl) (by kernel_rfl) (by kernel_rfl) (fun _ _ _ h => h) (by assumption) (Or.inl ⟨by rfl, ?_⟩) ?_
      rotate_left
      · (intro wq hSw; (try dsimp only at hSw); go_simp; try (with_reducible rfl))
      try simp only [Act.put, List.setIfInBounds_toArray, List.set_cons_zero, List.set_cons_succ]
      refine wpAnyN_take (i := 10) (v := ?_) rfl (by kernel_rfl) (by kernel_rfl) (by kernel_rfl) (by kernel_rfl) (fun _ _ _ h => h) (by assumption) (Or.inl ⟨by rfl, ?_⟩) ?_
      rotate_left
      · (intro wq hSw; (try dsimp only at hSw); go_simp; try (with_reducible rfl))
      try simp only [Act.put, List.setIfInBounds_toArray, List.set_cons_zero, List.set_cons_succ]
      refine wpAnyN_take (i := 11) (v := ?_) rfl (by kernel_rfl) (by kernel_rfl) (by kernel_rfl) (by kernel_rfl) (fun _ _ _ h => h) (by assumption) (Or.inl ⟨by rfl, ?_⟩) ?_
      rotate_left
      · (intro wq hSw; (try dsimp only at hSw); go_simp; try (with_reducible rfl))
      try simp only [Act.put, List.setIfInBounds_toArray, List.set_cons_zero, List.set_cons_succ]
      refine wpAnyN_take (i := 12) (v := ?_) rfl (by kernel_rfl) (by kernel_rfl) (by kernel_rfl) (by kernel_rfl) (fun _ _ _ h => h) (by assumption) (Or.inl ⟨by rfl, ?_⟩) ?_
      rotate_left
      · (intro wq hSw; (try dsimp only at hSw); go_simp; try (with_reducible rfl))
      try simp only [Act.put, List.setIfInBounds_toArray, List.set_cons_zero, List.set_cons_succ]
      refine wpAnyN_take (i := 13) (v := ?_) rfl (by kernel_rfl) (by kernel_rfl) (by kernel_rfl) (by kernel_rfl) (fun _ _ _ h => h) (by assumption) (Or.inl ⟨by rfl, ?_⟩) ?_
      rotate_left
      · (intro wq hSw; (try dsimp only at hSw); go_simp; try (with_reducible rfl))
      try simp only [Act.put, List.setIfInBounds_toArray, List.set_cons_zero, List.set_cons_succ]
      refine wpAnyN_one (i := 14) (by kernel_rfl) rfl (fun K hK => ?_)
      go_simp
      refine hK.out _ _ ?_ (fun hHeld => ?_)
      · exact ⟨xp.1, xp.2.1, xp.2.2⟩
      clear hK K
      try simp only [Act.put, List.setIfInBounds_toArray, List.set_cons_zero, List.set_cons_succ]
      refine wpAnyN_one (i := 15) (by kernel_rfl) rfl (fun K hK => ?_)
      refine step_append_sep rfl (.tmp 105) (.tmp 108) 58 rfl i0 _ 8 Try.underlying58 hi0 hz0 hz1 hz2 rfl (by decide) hhx.symm mm2 ⟨wq.heap.size, 0, none⟩ 1 1 [.int .i64 (n : Int)] rfl rfl (newsN wq 3 _) (by simp [Value.oneCell']) (show (N.handled e).length + 1 ≤ maxLen by unfold maxLen; omega) (show ((N.handled e).length + 1) * 8 ≤ 140737488355328 by omega) ?_
      intro v1 wn hS1 _
      have zt := Sat.tabCell he rfl (Sat.up1 hS1)
      rw [hhx] at zt
      have zq := Sat.cell (Sat.up3 hS1) 7
      have zB := Sat.cell (Sat.up2 hS1)
      obtain ⟨A2, c2, hv1, _⟩ := Sat.row hS1
      subst hv1
      refine hK.out _ _ ?_ (fun hHeld => ?_)
      · exact ⟨zq, zt.1, zB⟩
      clear hK K
      try simp only [Act.put, List.setIfInBounds_toArray, List.set_cons_zero, List.set_cons_succ]
      refine wpAnyN_take (i := 16) (v := ?_) rfl (by kernel_rfl) (by kernel_rfl) (by kernel_rfl) (by kernel_rfl) (fun _ _ _ h => h) (by assumption) (Or.inl ⟨by rfl, ?_⟩) ?_
      rotate_left
      · (intro wq hSw; (try dsimp only at hSw); go_simp; try (with_reducible rfl))
      try simp only [Act.put, List.setIfInBounds_toArray, List.set_cons_zero, List.set_cons_succ]
      refine wpAnyN_last (by kernel_rfl) rfl (by kernel_rfl) (fun K hK => ?_)
      go_simp
      refine hK.out _ _ ?_
      clear hK K
      try simp only [Act.put, List.setIfInBounds_toArray, List.set_cons_zero, List.set_cons_succ]
      have s4n : Sat X _ (blk B7 44 #[.int .i64 2, .int .i64 0, .int .i64 0, .int .i64 0, .int .i64 (n : Int), .slice none 0 0] :: netL W p (.slice (some ⟨b, off, none⟩) E.length c) E.length nI ⟨.slice (some ⟨gc, 0, none⟩) E.length capc, .slice (some ⟨gg, 0, none⟩) nI capg, .slice (some ⟨gb, 0, none⟩) nI capb, .slice (some ⟨gr, 0, none⟩) nI capr, vM, vX, .slice (some ⟨gh, 0, none⟩) E.length caph, .slice (some ⟨gf, 0, none⟩) E.length capf⟩ { N with chan := upd N.chan e rest, handled := upd N.handled e (N.handled e ++ [n]) } ++ F) :=
        Sat.dn8 (Sat.tabStore (D' := upd ({ N with chan := upd N.chan e rest }).handled e (({ N with chan := upd N.chan e rest }).handled e ++ [n])) he rfl (fun j hj => upd_ne _ _ hj) (by
          rw [upd_same]
          simpa [ncell] using hS1))
      generalize hwz : wn.setCell _ _ = wqn at s4n ⊢
      clear hwz hS1 zt zq zB xp mm2 mm1 x6 hxB hxc hltm hltBm
      clear n0 n3 n4 n7 n8 n9 nlt hB4 hltB4 hrk
      obtain ⟨n0, _, _, n3, n4, _, _, n7, n8, n9, _, nlt⟩ := net_cells W X wqn p _ E nI _ _ _ (Sat.drop s4n)
      try simp only at n0 n3 n4 n7 n8 n9
      have hB4 : ∀ q, wqn.cell? ⟨B7, q, none⟩ = #[.int .i64 2, .int .i64 0, .int .i64 0, .int .i64 0, .int .i64 (n : Int), .slice none 0 0][q]? := Sat.cell s4n
      have hltB4 := Sat.lt s4n
      have hfl : (N.flying e).length ≤ 10000000 := (HL.out e he).2.2
      obtain ⟨gx', capx', hdx, hvx, _, hxc, _, mm1⟩ := Sat.tab (Sat.up9 s4n) he
      obtain ⟨rfl, _, rfl⟩ := slice_inj hvx
      obtain ⟨Ax, capx, hhx, _⟩ := Sat.row mm1
      rw [hhx] at hxc
      have x6 := Sat.cell (Sat.up3 mm1) 8
      have hxB := Sat.cell (Sat.up2 mm1)
      have hltm := Sat.lt (Sat.up3 mm1)
      have hltBm := Sat.lt (Sat.up2 mm1)
      go_upto_region 17 with (fail)
      have mm2 := (mm1.alloc (.cells #[.int .i64 (n : Int)] 3)).drew
      have xp := And.intro (Sat.cell (Sat.up3 mm2) 8) (And.intro (Sat.tabCell he rfl (Sat.up1 mm2)).1 (Sat.cell (Sat.up2 mm2)))
      rw [hhx] at xp
      refine wp_region_N (S := (fun w' => w'.cell? ⟨p, 8, none⟩ = some (.slice (some ⟨gf, 0, none⟩) E.length capf) ∧ w'.cell? ⟨gf, e, none⟩ = some (.slice Ax (({ N with chan := upd N.chan e rest, handled := upd N.handled e (N.handled e ++ [n]) }).flying e).length capx) ∧ (∀ q, w'.cell? ⟨B7, q, none⟩ = #[.int .i64 2, .int .i64 0, .int .i64 0, .int .i64 0, .int .i64 (n : Int), .slice none 0 0][q]?))) 17 (by kernel_rfl) ?_ (fun hHeld => ?_)
      · exact ⟨by simpa using x6, by simpa using hxc, fun q => by simpa using hxB q⟩
      refine wpAnyN_take (i := 0) (v := ?_) rfl (by kernel_rfl) (by kernel_rfl) (by kernel_rfl) (by kernel_rfl) (fun _ _ _ h => h) (by assumption) (Or.inl ⟨by rfl, ?_⟩) ?_
      rotate_left
      · (intro wq hSw; (try dsimp only at hSw); go_simp; try (with_reducible rfl))
      try simp only [Act.put, List.setIfInBounds_toArray, List.set_cons_zero, List.set_cons_succ]
      refine wpAnyN_take (i := 1) (v := ?_) rfl (by kernel_rfl) (by kernel_rfl) (by kernel_rfl) (by kernel_rfl) (fun _ _ _ h => h) (by assumption) (Or.inl ⟨by rfl, ?_⟩) ?_
      rotate_left
      · (intro wq hSw; (try dsimp only at hSw); go_simp; try (with_reducible rfl))
      try simp only [Act.put, List.setIfInBounds_toArray, List.set_cons_zero, List.set_cons_succ]
      refine wpAnyN_take (i := 2) (v := ?_) rfl (by kernel_rfl) (by kernel_rfl) (by kernel_rfl) (by kernel_rfl) (fun _ _ _ h => h) (by assumption) (Or.inl ⟨by rfl, ?_⟩) ?_
      rotate_left
      · (intro wq hSw; (try dsimp only at hSw); go_simp; try (with_reducible rfl))
      try simp only [Act.put, List.setIfInBounds_toArray, List.set_cons_zero, List.set_cons_succ]
      refine wpAnyN_take (i := 3) (v := ?_) rfl (by kernel_rfl) (by kernel_rfl) (by kernel_rfl) (by kernel_rfl) (fun _ _ _ h => h) (by assumption) (Or.inl ⟨by rfl, ?_⟩) ?_
      rotate_left
      · (intro wq hSw; (try dsimp only at hSw); go_simp; try (with_reducible rfl))
      try simp only [Act.put, List.setIfInBounds_toArray, List.set_cons_zero, List.set_cons_succ]
      refine wpAnyN_take (i := 4) (v := ?_) rfl (by kernel_rfl) (by kernel_rfl) (by kernel_rfl) (by kernel_rfl) (fun _ _ _ h => h) (by assumption) (Or.inl ⟨by rfl, ?_⟩) ?_
      rotate_left
      · (intro wq hSw; (try dsimp only at hSw); go_simp; try (with_reducible rfl))
      try simp only [Act.put, List.setIfInBounds_toArray, List.set_cons_zero, List.set_cons_succ]
      refine wpAnyN_take (i := 5) (v := ?_) rfl (by kernel_rfl) (by kernel_rfl) (by kernel_rfl) (by kernel_rfl) (fun _ _ _ h => h) (by assumption) (Or.inl ⟨by rfl, ?_⟩) ?_
      rotate_left
      · (intro wq hSw; (try dsimp only at hSw); go_simp; try (with_reducible rfl))
      try simp only [Act.put, List.setIfInBounds_toArray, List.set_cons_zero, List.set_cons_succ]
      refine wpAnyN_take (i := 6) (v := ?_) rfl (by kernel_rfl) (by kernel_rfl) (by kernel_rfl) (by kernel_rfl) (fun _ _ _ h => h) (by assumption) (Or.inl ⟨by rfl, ?_⟩) ?_
      rotate_left
      · (intro wq hSw; (try dsimp only at hSw); go_simp; try (with_reducible rfl))
      try simp only [Act.put, List.setIfInBounds_toArray, List.set_cons_zero, List.set_cons_succ]
      refine wpAnyN_take (i := 7) (v := ?_) rfl (by kernel_rfl) (by kernel_rfl) (by kernel_rfl) (by kernel_rfl) (fun _ _ _ h => h) (by assumption) (Or.inl ⟨by rfl, ?_⟩) ?_
      rotate_left
      · (intro wq hSw; (try dsimp only at hSw); go_simp; try (with_reducible rfl))
      try simp only [Act.put, List.setIfInBounds_toArray, List.set_cons_zero, List.set_cons_succ]
      refine wpAnyN_take (i := 8) (v := ?_) rfl (by kernel_rfl) (by kernel_rfl) (by kernel_rfl) (by kernel_rfl) (fun _ _ _ h => h) (by assumption) (Or.inl ⟨by rfl, ?_⟩) ?_
      rotate_left
      · (intro wq hSw; (try dsimp only at hSw); go_simp; try (with_reducible rfl))
      try simp only [Act.put, List.setIfInBounds_toArray, List.set_cons_zero, List.set_cons_succ]
      refine wpAnyN_take (i := 9) (v := ?_) rfl (by kernel_rfl) (by kernel_rfl) (by kernel_rfl) (by kernel_rfl) (fun _ _ _ h => h) (by assumption) (Or.inl ⟨by rfl, ?_⟩) ?_
      rotate_left
      · (intro wq hSw; (try dsimp only at hSw); go_simp; try (with_reducible rfl))
      try simp only [Act.put, List.setIfInBounds_toArray, List.set_cons_zero, List.set_cons_succ]
      refine wpAnyN_take (i := 10) (v := ?_) rfl (by kernel_rfl) (by kernel_rfl) (by kernel_rfl) (by kernel_rfl) (fun _ _ _ h => h) (by assumption) (Or.inl ⟨by rfl, ?_⟩) ?_
      rotate_left
      · (intro wq hSw; (try dsimp only at hSw); go_simp; try (with_reducible rfl))
      try simp only [Act.put, List.setIfInBounds_toArray, List.set_cons_zero, List.set_cons_succ]
      refine wpAnyN_take (i := 11) (v := ?_) rfl (by kernel_rfl) (by kernel_rfl) (by kernel_rfl) (by kernel_rfl) (fun _ _ _ h => h) (by assumption) (Or.inl ⟨by rfl, ?_⟩) ?_
      rotate_left
      · (intro wq hSw; (try dsimp only at hSw); go_simp; try (with_reducible rfl))
      try simp only [Act.put, List.setIfInBounds_toArray, List.set_cons_zero, List.set_cons_succ]
      refine wpAnyN_take (i := 12) (v := ?_) rfl (by kernel_rfl) (by kernel_rfl) (by kernel_rfl) (by kernel_rfl) (fun _ _ _ h => h) (by assumption) (Or.inl ⟨by rfl, ?_⟩) ?_
      rotate_left
      · (intro wq hSw; (try dsimp only at hSw); go_simp; try (with_reducible rfl))
      try simp only [Act.put, List.setIfInBounds_toArray, List.set_cons_zero, List.set_cons_succ]
      refine wpAnyN_take (i := 13) (v := ?_) rfl (by kernel_rfl) (by kernel_rfl) (by kernel_rfl) (by kernel_rfl) (fun _ _ _ h => h) (by assumption) (Or.inl ⟨by rfl, ?_⟩) ?_
      rotate_left
      · (intro wq hSw; (try dsimp only at hSw); go_simp; try (with_reducible rfl))
      try simp only [Act.put, List.setIfInBounds_toArray, List.set_cons_zero, List.set_cons_succ]
      refine wpAnyN_one (i := 14) (by kernel_rfl) rfl (fun K hK => ?_)
      go_simp
      refine hK.out _ _ ?_ (fun hHeld => ?_)
      · exact ⟨xp.1, xp.2.1, xp.2.2⟩
      clear hK K
      try simp only [Act.put, List.setIfInBounds_toArray, List.set_cons_zero, List.set_cons_succ]
      refine wpAnyN_one (i := 15) (by kernel_rfl) rfl (fun K hK => ?_)
      refine step_append_sep rfl (.tmp 124) (.tmp 127) 58 rfl i0 _ 8 Try.underlying58 hi0 hz0 hz1 hz2 rfl (by decide) hhx.symm mm2 ⟨wqn.heap.size, 0, none⟩ 1 1 [.int .i64 (n : Int)] rfl rfl (newsN wqn 3 _) (by simp [Value.oneCell']) (show (N.flying e).length + 1 ≤ maxLen by unfold maxLen; omega) (show ((N.flying e).length + 1) * 8 ≤ 140737488355328 by omega) ?_
      intro v1 wn hS1 _
      have zt := Sat.tabCell he rfl (Sat.up1 hS1)
      rw [hhx] at zt
      have zq := Sat.cell (Sat.up3 hS1) 8
      have zB := Sat.cell (Sat.up2 hS1)
      obtain ⟨A2, c2, hv1, _⟩ := Sat.row hS1
      subst hv1
      refine hK.out _ _ ?_ (fun hHeld => ?_)
      · exact ⟨zq, zt.1, zB⟩
      clear hK K
      try simp only [Act.put, List.setIfInBounds_toArray, List.set_cons_zero, List.set_cons_succ]
      refine wpAnyN_take (i := 16) (v := ?_) rfl (by kernel_rfl) (by kernel_rfl) (by kernel_rfl) (by kernel_rfl) (fun _ _ _ h => h) (by assumption) (Or.inl ⟨by rfl, ?_⟩) ?_
      rotate_left
      · (intro wq hSw; (try dsimp only at hSw); go_simp; try (with_reducible rfl))
      try simp only [Act.put, List.setIfInBounds_toArray, List.set_cons_zero, List.set_cons_succ]
      refine wpAnyN_last (by kernel_rfl) rfl (by kernel_rfl) (fun K hK => ?_)
      go_simp
      refine hK.out _ _ ?_
      clear hK K
      try simp only [Act.put, List.setIfInBounds_toArray, List.set_cons_zero, List.set_cons_succ]
      have s4nn : Sat X _ (blk B7 44 #[.int .i64 2, .int .i64 0, .int .i64 0, .int .i64 0, .int .i64 (n : Int), .slice none 0 0] :: netL W p (.slice (some ⟨b, off, none⟩) E.length c) E.length nI ⟨.slice (some ⟨gc, 0, none⟩) E.length capc, .slice (some ⟨gg, 0, none⟩) nI capg, .slice (some ⟨gb, 0, none⟩) nI capb, .slice (some ⟨gr, 0, none⟩) nI capr, vM, vX, .slice (some ⟨gh, 0, none⟩) E.length caph, .slice (some ⟨gf, 0, none⟩) E.length capf⟩ { N with chan := upd N.chan e rest, handled := upd N.handled e (N.handled e ++ [n]), flying := upd N.flying e (N.flying e ++ [n]) } ++ F) :=
        Sat.dn9 (Sat.tabStore (D' := upd ({ N with chan := upd N.chan e rest, handled := upd N.handled e (N.handled e ++ [n]) }).flying e (({ N with chan := upd N.chan e rest, handled := upd N.handled e (N.handled e ++ [n]) }).flying e ++ [n])) he rfl (fun j hj => upd_ne _ _ hj) (by
          rw [upd_same]
          simpa [ncell] using hS1))
      generalize hwz : wn.setCell _ _ = wqnn at s4nn ⊢
      clear hwz hS1 zt zq zB xp mm2 mm1 x6 hxB hxc hltm hltBm
      clear n0 n3 n4 n7 n8 n9 nlt hB4 hltB4
      obtain ⟨n0, _, _, n3, n4, _, _, n7, n8, n9, _, nlt⟩ := net_cells W X wqnn p _ E nI _ _ _ (Sat.drop s4nn)
      try simp only at n0 n3 n4 n7 n8 n9
      have hB4 : ∀ q, wqnn.cell? ⟨B7, q, none⟩ = #[.int .i64 2, .int .i64 0, .int .i64 0, .int .i64 0, .int .i64 (n : Int), .slice none 0 0][q]? := Sat.cell s4nn
      have hltB4 := Sat.lt s4nn
      have hN4 : hear E { N with chan := upd N.chan e rest } e ⟨false, n⟩ 2 = if 0 < n then produce E ({ N with chan := upd N.chan e rest, handled := upd N.handled e (N.handled e ++ [n]), flying := upd N.flying e (N.flying e ++ [n]) }) i ⟨false, n - 1⟩ else ({ N with chan := upd N.chan e rest, handled := upd N.handled e (N.handled e ++ [n]), flying := upd N.flying e (N.flying e ++ [n]) }) := by
        unfold hear
        simp only [hiq, HR.out]
        simp
      have HH := Lib.hid hN4
      clear hN4
      by_cases hn0 : 0 < n
      · have hsub : IntKind.i64.wrap ((n : Int) - 1) = ((n - 1 : Nat) : Int) := by
          rw [IntWalk.i64_in _ (by omega)]
          omega
        obtain ⟨k, hk⟩ : ∃ k, n - 1 = k := ⟨_, rfl⟩
        rw [hk] at hsub
        have HK := Lib.hid hk
        have HP := Lib.hid hn0
        have hng : decide (0 < n) = true := by simpa using hn0
        clear hk
        go_wp2_with (first | ((go_at_call 9; (with_reducible refine (mark_any _ _).mono ?_); rintro e' w8 ⟨rfl, hx8⟩; have s8 := s4nn.drop.ext hx8)) | ((go_at_call 8; (with_reducible refine (produce_mark W X _ p _ E nI _ ({ N with chan := upd N.chan e rest, handled := upd N.handled e (N.handled e ++ [n]), flying := upd N.flying e (N.flying e ++ [n]) }) F i ht k hn5 HEE.out (HBX.out) (HL9.out) s8).mono ?_); rintro e' w9 ⟨rfl, s9⟩)))
        rw [HT.out (by simp), HH.out, if_pos HP.out, HK.out]
        refine bodyPost_ret (v := .tuple #[.bool true, .bool true]) (by simp [results, Try.results10, go_sem]) rfl ⟨rfl, s9⟩

      · have hn00 : n = 0 := by omega
        have hng : decide (0 < n) = false := by simpa using hn0
        have HP := Lib.hid hn0
        clear hn00
        go_wp2
        rw [HT.out (by simp), HH.out, if_neg HP.out]
        refine bodyPost_ret (v := .tuple #[.bool true, .bool true]) (by simp [results, Try.results10, go_sem]) rfl ⟨rfl, s4nn.drop⟩

end
end Go.Proofs.Ytacklfjpbboijaa
