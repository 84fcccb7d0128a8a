/-
  CheckpointCut, walks: a net in memory; source, inbound.
-/
import Derived.Test.YtacklfjpbboijaaCkSend
import Derived.Test.YtacklfjpbboijaaCkList
import Derived.Test.YtacklfjpbboijaaCkArr
import Derived.Test.YtacklfjpbboijaaTab
import Derived.Test.YtacklfjpbboijaaCkGoes
namespace Go.Proofs.Ytacklfjpbboijaa
open Go.RowKit Go.Sep Go.Ck

/-- The slices of a net. -/
structure Hdr where
  c : Value
  g : Value
  b : Value
  r : Value
  m : Value
  x : Value
  h : Value
  f : Value
def icells (y : Nat × Msg) : List Value := .int .i64 (y.1 : Int) :: mcells y.2
def ncell (n : Nat) : List Value := [.int .i64 (n : Int)]
/-- The channels as they came in. -/
def EdgesAt (W : World) (vE : Value) (E : Edges) : Prop := E.length ≤ 6 ∧ ∃ A c, vE = .slice A E.length c ∧ E.length ≤ c ∧ ∀ e, e < E.length → fr E e ≤ 5 ∧ tt E e ≤ 5 ∧ ∃ b off, A = some ⟨b, off, none⟩ ∧ b < W.heap.size ∧ W.cell? ⟨b, off + e * 2, none⟩ = some (.int .i64 (fr E e : Int)) ∧ W.cell? ⟨b, off + e * 2 + 1, none⟩ = some (.int .i64 (tt E e : Int))

/-- A net in memory; what lay there before. -/
def netL (W : World) (p : Nat) (vE : Value) (nE nI : Nat) (V : Hdr) (N : Net) : List Asn :=
  [blk p 40 #[vE, V.c, V.g, V.b, V.r, V.m, V.x, V.h, V.f, .int .i64 (N.kind : Int), .int .i64 (N.num : Int)],
   ptrsA 49 V.c nE (fun c e => chanA c (N.chan e)),
   ptrsA 52 V.g nI (fun g i => gateA g (N.gate i)),
   tabA 33 57 7 icells V.b nI N.box,
   rowA 4 1 V.r nI ((List.range nI).map fun i => .bool (N.rep i)),
   tabA 58 3 1 ncell V.m nE N.made,
   tabA 58 3 1 ncell V.x nE N.boxed,
   tabA 58 3 1 ncell V.h nE N.handled,
   tabA 58 3 1 ncell V.f nE N.flying,
   old W]

section
variable (W X w : World) (p : Nat) (vE : Value) (E : Edges) (nI : Nat) (V : Hdr) (N : Net) (F : List Asn)

theorem net_cells (h : Sat X w (netL W p vE E.length nI V N ++ F)) : w.cell? ⟨p, 0, none⟩ = some vE ∧ w.cell? ⟨p, 1, none⟩ = some V.c ∧ w.cell? ⟨p, 2, none⟩ = some V.g ∧ w.cell? ⟨p, 3, none⟩ = some V.b ∧ w.cell? ⟨p, 4, none⟩ = some V.r ∧
    w.cell? ⟨p, 5, none⟩ = some V.m ∧ w.cell? ⟨p, 6, none⟩ = some V.x ∧ w.cell? ⟨p, 7, none⟩ = some V.h ∧ w.cell? ⟨p, 8, none⟩ = some V.f ∧ w.cell? ⟨p, 9, none⟩ = some (.int .i64 (N.kind : Int)) ∧ w.cell? ⟨p, 10, none⟩ = some (.int .i64 (N.num : Int)) ∧ p < w.heap.size :=
  ⟨Sat.cell h 0, Sat.cell h 1, Sat.cell h 2, Sat.cell h 3, Sat.cell h 4, Sat.cell h 5, Sat.cell h 6, Sat.cell h 7, Sat.cell h 8, Sat.cell h 9, Sat.cell h 10, Sat.lt h⟩
theorem net_old (h : Sat X w (netL W p vE E.length nI V N ++ F)) : ∀ a : Addr, a.block < W.heap.size → w.cell? a = W.cell? a := fun a ha => by
  have h1 := Sat.oldAt (Sat.up9 h)
  exact World.cell?_of_block (w := W) (h1 a.block ha)

set_option maxRecDepth 100000 in
set_option maxHeartbeats 1000000 in
theorem source_ok (i : Nat) (hE : EdgesAt W vE E) (h : Sat X w (netL W p vE E.length nI V N ++ F)) : Calls Try.prog 6 #[.pointer (some ⟨p, 0, none⟩), .int .i64 (i : Int)] w fun e w' =>
    e = .returned (.bool (source E i)) ∧ w' = w := by
  obtain ⟨hE6, A, c, rfl, hc, hE⟩ := hE
  obtain ⟨k0, _, _, _, _, _, _, _, _, _, _, _⟩ := net_cells W X w p _ E nI V N F h
  have ho := Lib.hid (net_old W X w p _ E nI V N F h)
  have hE6' : (E.length : Int) ≤ 6 := by omega
  have HE := Lib.hid hE
  clear hE
  go_enter Try.func6, Try.ntmps6
  go_wp2
  go_loop [5] (fun t => ∃ k : Nat, k ≤ E.length ∧ t = .int .i64 (k : Int) ∧ ∀ e, e < k → tt E e ≠ i) (fun t => E.length - (intOf t).toNat)
  case atStart => exact ⟨0, Nat.zero_le _, rfl, fun e he => by omega⟩
  case round =>
    obtain ⟨k, hk, rfl, hno⟩ := hrel
    have HN := Lib.hid hno
    clear hno
    have hk0 : (0 : Int) ≤ (k : Int) := by omega
    by_cases hlt : k < E.length
    · have hlti : (k : Int) < (E.length : Int) := by omega
      obtain ⟨_, ht5, b, off, hA, hb, _, ht⟩ := HE.out k hlt
      subst hA
      have ht' := ho.out ⟨b, off + k * 2 + 1, none⟩ hb
      rw [ht] at ht'
      clear ht
      have hti : (tt E k : Int) ≤ 5 := by omega
      by_cases he : tt E k = i
      · have hb1 : ((tt E k : Int) == (i : Int)) = true := by rw [beq_iff_eq]; omega
        have HS := Lib.hid (show source E i = false by
          cases hq : source E i with
          | false => rfl
          | true => exact absurd he (source_iff.1 hq k hlt))
        clear he
        go_wp2
        go_ret
        exact ⟨by rw [HS.out]; rfl, rfl⟩
      · have hb1 : ((tt E k : Int) == (i : Int)) = false := by rw [beq_eq_false_iff_ne]; omega
        have HT := Lib.hid he
        clear he
        go_wp2
        go_round
        case rel =>
          refine ⟨k + 1, by omega, by go_num, fun e he => ?_⟩
          by_cases hek : e = k
          · rw [hek]; exact HT.out
          · exact HN.out e (by omega)
        case measure => simp [intOf]; omega
    · have hge : (E.length : Int) ≤ (k : Int) := by omega
      have HS := Lib.hid (show source E i = true from source_iff.2 fun e he => HN.out e (by omega))
      go_wp2
      go_ret
      exact ⟨by rw [HS.out]; rfl, rfl⟩

set_option maxRecDepth 100000 in
set_option maxHeartbeats 1000000 in
theorem inbound_ok (e : Nat) (he : e < E.length) (hE : EdgesAt W vE E) (h : Sat X w (netL W p vE E.length nI V N ++ F)) : Calls Try.prog 24 #[.pointer (some ⟨p, 0, none⟩), .int .i64 (e : Int)] w fun r w' =>
    r = .returned (.int .i64 (inb E e : Int)) ∧ Ext w w' := by
  obtain ⟨hE6, A, c, rfl, hc, hE⟩ := hE
  obtain ⟨k0, _, _, _, _, _, _, _, _, _, _, _⟩ := net_cells W X w p _ E nI V N F h
  have ho := Lib.hid (net_old W X w p _ E nI V N F h)
  have hE6' : (E.length : Int) ≤ 6 := by omega
  obtain ⟨_, ht5, b, off, hA, hb, _, hte⟩ := hE e he
  subst hA
  have hte' := ho.out ⟨b, off + e * 2 + 1, none⟩ hb
  rw [hte] at hte'
  clear hte
  have HE := Lib.hid hE
  clear hE
  have he0 : (0 : Int) ≤ (e : Int) := by omega
  have heE : (e : Int) < (E.length : Int) := by omega
  have HF := Lib.hid h
  clear h
  go_enter Try.func24, Try.ntmps24
  go_wp2
  go_loopw [5, 6] (fun n t wr => ∃ k d : Nat, k ≤ e ∧ t = .int .i64 (k : Int) ∧ n = .int .i64 ((insTo E (tt E e) k).length : Int) ∧ wr = w.drewN d) (fun _ t _ => e - (intOf t).toNat)
  case atStart => exact ⟨0, 0, Nat.zero_le _, rfl, rfl, rfl⟩
  case round =>
    obtain ⟨k, d, hk, rfl, rfl, rfl⟩ := hrel
    have hk0 : (0 : Int) ≤ (k : Int) := by omega
    obtain ⟨L, hL⟩ : ∃ L, L = (insTo E (tt E e) k).length := ⟨_, rfl⟩
    have hL0 : (0 : Int) ≤ (L : Int) := by omega
    have hL6 : (L : Int) ≤ 6 := by
      have := List.length_filter_le (fun q => tt E q == tt E e) (List.range k)
      have h2 : (insTo E (tt E e) k).length ≤ k := by simpa [insTo] using this
      omega
    rw [← hL]
    have HL := Lib.hid hL
    clear hL
    by_cases hlt : k < e
    · have hlti : (k : Int) < (e : Int) := by omega
      have hkE : (k : Int) < (E.length : Int) := by omega
      obtain ⟨_, htk5, b2, off2, hA2, hb2, _, ht⟩ := HE.out k (by omega)
      injection hA2 with hA2
      injection hA2 with hA3 hA4
      subst hA3
      subst hA4
      have ht' := ho.out ⟨b, off + k * 2 + 1, none⟩ hb
      rw [ht] at ht'
      clear ht
      by_cases heq : tt E k = tt E e
      · have hb1 : ((tt E k : Int) == (tt E e : Int)) = true := by rw [beq_iff_eq]; omega
        have HQ := Lib.hid heq
        clear heq
        go_wp2
        go_quiet (fail)
        go_wp2
        go_roundw
        case rel =>
          refine ⟨k + 1, _, by omega, by go_num, ?_, rfl⟩
          rw [insTo_succ, if_pos HQ.out, List.length_append, ← HL.out]
          go_num
        case measure => simp [intOf]; omega
      · have hb1 : ((tt E k : Int) == (tt E e : Int)) = false := by rw [beq_eq_false_iff_ne]; omega
        have HQ := Lib.hid heq
        clear heq
        go_wp2
        go_quiet (fail)
        go_wp2
        go_roundw
        case rel =>
          refine ⟨k + 1, _, by omega, by go_num, ?_, rfl⟩
          rw [insTo_succ, if_neg HQ.out, List.append_nil, ← HL.out]
        case measure => simp [intOf]; omega
    · have hge : (e : Int) ≤ (k : Int) := by omega
      have HK := Lib.hid (show k = e by omega)
      go_wp2
      go_ret
      have hk' := HK.out
      subst hk'
      refine ⟨?_, (Ext.refl _).drewN _⟩
      unfold inb
      rw [← HL.out]
      rfl
end
end Go.Proofs.Ytacklfjpbboijaa
