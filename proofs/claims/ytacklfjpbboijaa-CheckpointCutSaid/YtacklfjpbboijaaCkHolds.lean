/-
  CheckpointCut: for every input the law returns true, and its arguments read as they did.
-/
import Derived.Test.YtacklfjpbboijaaCkMain
import Derived.ProofKit
import Derived.OpenShut
import Derived.Carry
import Derived.Deep.Slices
import Derived.Deep.Fields
import Derived.ChangeSame
namespace Go.Proofs.Ytacklfjpbboijaa
open Go.ChangeShapes Go.WideShapes Go.ChangeAt Go.RowKit Go.Deep

section
variable {H : Type} {enc : TypeId × Value → H} {P : Program} {w : World} {base : Nat} {spare : Nat → Bool} {held : Bool}
/-- An int field's cell holds an int. -/
theorem int_field {n : Nat} {t : TypeId} {k : IntKind} {v : Value} {y : DataW H × List MemPlace} (ht : P.underlying t = some (.int k)) (h : DataW.trod enc P w base spare held n t [v] = some y) : ∃ z, v = .int k z := by
  cases n with
  | zero => simp [DataW.trod] at h
  | succ n =>
    unfold DataW.trod at h
    rw [ht] at h
    split at h <;> simp_all
/-- A slice that came in, its elements structs of ints: what its cells hold. -/
theorem ints_in {t e : TypeId} {fs : Array Field} {fuel : Nat} {A : Option Addr} {len cap : Nat} {x : DataW H × List MemPlace} (ht : P.underlying t = some (.slice e)) (he : P.underlying e = some (.struct fs))
    (hone : oneCellFields P fs = true) (hC : P.cellsOf e = fs.size) (hint : ∀ f ∈ fs, P.underlying f.type = some (.int .i64)) (h : DataW.trod enc P w base spare held fuel t [.slice A len cap] = some x) :
    len ≤ cap ∧ cap ≤ maxLen ∧ ∀ i j, i < len → j < fs.size → ∃ a z, A = some a ∧ w.cell? (a.add (i * fs.size + j)) = some (.int .i64 z) := by
  rcases open_slice ht h with ⟨hcs, _⟩ | ⟨a, _, _, m, n, D, Pl, hcs, _, hl, hm, hmm, _, hi⟩
  · cases hcs
    exact ⟨Nat.le_refl _, Nat.zero_le _, fun i j hi => absurd hi (Nat.not_lt_zero _)⟩
  · cases hcs
    refine ⟨hl, hm, fun i j hil hj => ?_⟩
    obtain ⟨cs, hcs, htr⟩ := hi i (by rw [hmm]; split <;> omega)
    rw [hC] at hcs
    obtain ⟨ys, n', _, _, hlen, _, hfield⟩ := DataW.trod_struct he htr
    obtain ⟨_, hcl, hcell⟩ := World.cells?_some hcs
    have hfj : fs[j]? = some fs[j] := Array.getElem?_eq_getElem hj
    obtain ⟨ho, hk⟩ := hone_of hone j _ hfj
    have hr := hfield j _ hfj
    rw [ho, hk] at hr
    have hlj : j < cs.length := by omega
    rw [show (cs.drop j).take 1 = [cs[j]] by rw [List.drop_eq_getElem_cons hlj]; rfl, show ys[j]? = some (ys[j]'(by first | omega | (have := hlen; omega))) from List.getElem?_eq_getElem _] at hr
    obtain ⟨z, hz⟩ := int_field (hint _ (Array.getElem_mem hj)) hr
    refine ⟨a, z, rfl, ?_⟩
    rw [← Go.Deep.add_add, hcell j hj, List.getElem?_eq_getElem hlj, hz]
/-- The address of a slice's first cell, where that cell is there. -/
theorem addr_form {a : Addr} {v : Value} (h : w.cell? a = some v) : a = ⟨a.block, a.off, none⟩ ∧ a.block < w.heap.size := by
  obtain ⟨b, off, spot⟩ := a
  unfold World.cell? at h
  split at h
  · rename_i c _ _ hc
    refine ⟨?_, (Array.getElem?_eq_some_iff.1 hc).1⟩
    cases spot with
    | none => rfl
    | some s => simp at h
  · cases h
end

theorem add_form (b off n : Nat) : (⟨b, off, none⟩ : Addr).add n = ⟨b, off + n, none⟩ := by
  unfold Addr.add
  split
  · rename_i h
    subst h
    rfl
  · rfl

/-- The ints of a slice of structs, by functions. -/
theorem int_funs {w : World} {A : Option Addr} {n len : Nat} (hn : 0 < n) (h : ∀ i j, i < len → j < n → ∃ a z, A = some a ∧ w.cell? (a.add (i * n + j)) = some (.int .i64 z)) :
    ∃ f : Nat → Nat → Int, ∀ k, k < len → ∃ b off, A = some ⟨b, off, none⟩ ∧ b < w.heap.size ∧ ∀ j, j < n → w.cell? ⟨b, off + (k * n + j), none⟩ = some (.int .i64 (f j k)) := by
  have hz : ∀ j i : Nat, ∃ z : Int, i < len → j < n → ∀ a, A = some a → w.cell? (a.add (i * n + j)) = some (.int .i64 z) := fun j i => by
    by_cases hi : i < len
    · by_cases hj : j < n
      · obtain ⟨a, z, rfl, hc⟩ := h i j hi hj
        exact ⟨z, fun _ _ a' ha => by cases ha; exact hc⟩
      · exact ⟨0, fun _ hj' => absurd hj' hj⟩
    · exact ⟨0, fun hi' => absurd hi' hi⟩
  refine ⟨fun j i => Classical.choose (hz j i), fun k hk => ?_⟩
  obtain ⟨a, z, rfl, hc⟩ := h 0 0 (by omega) hn
  have h0 : w.cell? a = some (.int .i64 z) := by simpa [Addr.add] using hc
  obtain ⟨ha, hb⟩ := addr_form h0
  refine ⟨a.block, a.off, congrArg some ha, hb, fun j hj => ?_⟩
  have := Classical.choose_spec (hz j k) hk hj a rfl
  rw [← this, ← add_form, ← ha]

theorem Try.own' : ownKnob Try.prog.godebug = none := by kernel_rfl
theorem Try.laidOut' : laidOutB Try.prog = true := by kernel_rfl

/-- The arguments in memory: channels, operations. -/
theorem edges_in {H : Type} {enc : TypeId × Value → H} {W : World} {A : Option Addr} {m c : Nat} {d : DataW H} {ps : List MemPlace} (h : DataW.Trod enc Try.prog W 0 (fun _ => true) true 22 (.slice A m c) d ps) : ∃ f t, Edges0 W (.slice A m c) m f t := by
  obtain ⟨fuel, hf⟩ := h
  obtain ⟨hl, hm, hz⟩ := ints_in Try.underlying22 Try.underlying26 (by kernel_rfl) (by kernel_rfl) (fun f hf => by
    simp only [List.mem_toArray, List.mem_cons, List.not_mem_nil, or_false] at hf
    rcases hf with rfl | rfl <;> exact Try.underlying3) (by simpa only [Value.cells] using hf)
  obtain ⟨f, t⟩ := int_funs (n := 2) (by decide) hz
  exact ⟨f 0, f 1, A, c, rfl, hl, hm, fun k hk => by
    obtain ⟨b, off, hA, hb, hc⟩ := t k hk
    exact ⟨b, off, hA, hb, hc 0 (by decide), hc 1 (by decide)⟩⟩
theorem ops_in {H : Type} {enc : TypeId × Value → H} {W : World} {A : Option Addr} {m c : Nat} {d : DataW H} {ps : List MemPlace} (h : DataW.Trod enc Try.prog W 0 (fun _ => true) true 23 (.slice A m c) d ps) : ∃ f t u, Ops0 W (.slice A m c) m f t u := by
  obtain ⟨fuel, hf⟩ := h
  obtain ⟨hl, hm, hz⟩ := ints_in Try.underlying23 Try.underlying30 (by kernel_rfl) (by kernel_rfl) (fun f hf => by
    simp only [List.mem_toArray, List.mem_cons, List.not_mem_nil, or_false] at hf
    rcases hf with rfl | rfl | rfl <;> exact Try.underlying3) (by simpa only [Value.cells] using hf)
  obtain ⟨f, t⟩ := int_funs (n := 3) (by decide) hz
  exact ⟨f 0, f 1, f 2, A, c, rfl, hl, hm, fun k hk => by
    obtain ⟨b, off, hA, hb, hc⟩ := t k hk
    exact ⟨b, off, hA, hb, hc 0 (by decide), hc 1 (by decide), hc 2 (by decide)⟩⟩

theorem law_walk {H : Type} {enc : TypeId × Value → H} {W : World} {n : Int} {A A' : Option Addr} {m m' c c' : Nat} {d d' : DataW H} {ps ps' : List MemPlace} (h : DataW.Trod enc Try.prog W 0 (fun _ => true) true 22 (.slice A m c) d ps)
    (h' : DataW.Trod enc Try.prog W 0 (fun _ => true) true 23 (.slice A' m' c') d' ps') :
    Calls Try.prog 3 #[.int .i64 n, .slice A m c, .slice A' m' c'] W fun r w' => r = .returned (.bool true) ∧ Below W.heap.size W w' := by
  obtain ⟨f, t, hE⟩ := edges_in h
  obtain ⟨f', t', u', hO⟩ := ops_in h'
  by_cases hb : n < 1 ∨ 5 < n ∨ 6 < m ∨ 150 < m'
  · exact cut_small W n _ _ m m' f t f' t' u' hb hE hO
  · obtain ⟨nI, rfl⟩ := Int.eq_ofNat_of_zero_le (show 0 ≤ n by omega)
    exact cut_ok W _ _ m m' f t f' t' u' nI (by omega) (by omega) (by omega) (by omega) hE hO

set_option maxRecDepth 100000 in
theorem cut_lifted (os : Os) (started : os.Started) (H : Type) (enc : TypeId × Value → H) :
    ReturnsInHanded {} Try.checked os 3 .any (Rows.checkpointCutSpec.pre6 enc Try.prog Try.f3 Rows.checkpointCutRow.domain false) (Rows.checkpointCutSpec.post enc Try.prog Try.f3 false true false false) := by
  refine returnsInHanded_of_change (C := Try.checked) Try.own' started (by kernel_rfl) Try.func3
    (ChangeSpec.witness6 (enc := enc) (C := Try.checked) false ⟨#[], #[.int .i64 0, .slice none 0 0, .slice none 0 0], []⟩ 8 (by kernel_rfl) (by kernel_rfl) (by kernel_rfl) (by kernel_rfl)) ?_
  intro W base args ds gs before hval0 hW hcnd _
  have hval : ∀ (j : Nat) t v, Try.f3.params[j]? = some t → args[j]? = some v → Value.okWide Try.prog W .any base t v := hval0
  have hW' := hW
  obtain ⟨p, q, hA0, hV, rfl, hfz, hnd⟩ := hW
  have hA : DataW.TrodAll enc Try.prog W 0 (fun _ => true) true Try.f3.params.toList args.toList ds p := hA0
  rw [Try.params3] at hA hval
  obtain ⟨v0, vs0, d0, ds0, p0, q0, hargs, rfl, rfl, h0, r0⟩ := trodAll_cons hA
  obtain ⟨v1, vs1, d1, ds1, p1, q1, rfl, rfl, rfl, h1, r1⟩ := trodAll_cons r0
  obtain ⟨v2, vs2, d2, ds2, p2, q2, rfl, rfl, rfl, h2, r2⟩ := trodAll_cons r1
  obtain ⟨rfl, rfl, rfl⟩ := trodAll_nil r2
  obtain rfl : args = #[v0, v1, v2] := by cases args; simp_all
  obtain ⟨rfl, rfl⟩ := trodVars_none hV
  obtain ⟨n, rfl, rfl, rfl, wn⟩ := open_int Try.underlying3 (hval 0 3 v0 rfl rfl) h0
  obtain ⟨A, m, c, rfl⟩ := okWide_slice Try.underlying22 (hval 1 22 v1 rfl rfl)
  obtain ⟨A', m', c', rfl⟩ := okWide_slice Try.underlying23 (hval 2 23 v2 rfl rfl)
  clear hA0 hval0
  simp only [List.append_nil] at hW'
  have hl1 : ∀ x ∈ p1, x.block < W.heap.size := fun x hx => hW'.lt x (by simp [hx])
  have hl2 : ∀ x ∈ p2, x.block < W.heap.size := fun x hx => hW'.lt x (by simp [hx])
  refine (law_walk h1 h2).mono fun e W' ⟨he, hb⟩ => ?_
  subst he
  exact ⟨_, rfl, ⟨_, _, _, [], _, [], hW', trodAll_cons_mk (shut_bool Try.underlying4 _) trodAll_mk0,
    trodAll_cons_mk (shut_int Try.underlying3 wn) (trodAll_cons_mk (Below.trod Try.laidOut' (by kernel_rfl) (of_decide_eq_true (by kernel_rfl)) h1 hb hl1) (trodAll_cons_mk (Below.trod Try.laidOut' (by kernel_rfl) (of_decide_eq_true (by kernel_rfl)) h2 hb hl2) trodAll_mk0)), rfl, hb.frame _, fun h => by cases h⟩⟩

/-- For every input CheckpointCut returns true; what it is called with reads as before. -/
theorem checkpointCut_holds : Rows.CheckpointCutSaid :=
  OpenClaim.holds_of_wide 3 Try.f3 rfl rfl rfl rfl rfl rfl rfl ⟨rfl, rfl, rfl, rfl, rfl⟩ rfl rfl rfl rfl rfl (by kernel_rfl) Try.func3 (by kernel_rfl)
    (of_decide_eq_true (by kernel_rfl)) (by unfold Func.isWrapper; first | (rw [if_pos (by decide +kernel)]; kernel_rfl) | (rw [if_neg (by decide +kernel)]; exact ⟨rfl, rfl⟩))
    (fun os started H enc _ => cut_lifted os started H enc)

#print axioms checkpointCut_holds
end Go.Proofs.Ytacklfjpbboijaa
