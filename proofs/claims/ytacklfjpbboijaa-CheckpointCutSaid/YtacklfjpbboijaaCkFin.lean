/-
  CheckpointCut, the plain side: what the main function's loop keeps.
-/
import Derived.Test.YtacklfjpbboijaaCkGoes
namespace Go.Ck

/-- A new net. -/
def Net0 (E : Edges) : Net := { chan := fun _ => [], gate := fun i => ⟨(ins E i).length, [], 0, 0⟩, box := fun _ => [], rep := fun _ => false, made := fun _ => [], boxed := fun _ => [], handled := fun _ => [], flying := fun _ => [], kind := 0, num := 0 }

/-- Behind i operations, d checkpoints begun. -/
structure Good (E : Edges) (nI i d : Nat) (N : Net) : Prop where
  inv : Inv E nI N (fun _ => False)
  num : N.num = 0 ∨ N.num = d
  le : d ≤ i
  bnd : Bnd E nI N i
/-- Behind an operation, ahead of the look whether the checkpoint is whole. -/
structure Mid (E : Edges) (nI i d : Nat) (N : Net) : Prop where
  inv : Inv E nI N (fun _ => False)
  num : N.num = 0 ∨ N.num = d
  le : d ≤ i + 1
  phi : Phi E nI N ≤ 60 + 2000 * i + 1300
  all : Phi E nI N + Lam E N ≤ 600 + 20000 * i + 1400

section
variable {E : Edges} {nI i d : Nat} {N : Net}
theorem phi_net0 (hn : nI ≤ 5) : Phi E nI (Net0 E) ≤ 60 ∧ Lam E (Net0 E) = 0 := by
  constructor
  · unfold Phi
    have h1 := rep_le (Net0 E) nI
    have h2 : sumN E.length (fun e => wl ((Net0 E).chan e)) = 0 := (sumN_const 0 E.length).trans (Nat.mul_zero _)
    have h3 : sumN nI (fun i => wb ((Net0 E).box i)) = 0 := (sumN_const 0 nI).trans (Nat.mul_zero _)
    omega
  · exact (sumN_const 0 E.length).trans (Nat.mul_zero _)
theorem inv_net0 : Inv E nI (Net0 E) (fun _ => False) where
  cap := fun e _ => Nat.zero_le _
  crng := fun e _ m hm => by cases hm
  brng := fun i _ y hy => by cases hy
  kind := Nat.zero_le _
  chs := fun i _ => rfl
  idle := fun _ => ⟨fun e _ => ⟨rfl, rfl, rfl⟩, fun i _ => ⟨rfl, rfl, rfl⟩⟩
  act := fun h => absurd h (Nat.lt_irrefl 0)
theorem good_net0 (hn : nI ≤ 5) : Good E nI 0 0 (Net0 E) := ⟨inv_net0, .inl rfl, Nat.le_refl _, by
  obtain ⟨a, b⟩ := phi_net0 (E := E) hn
  exact ⟨by omega, by omega⟩⟩
theorem mid_same (G : Good E nI i d N) : Mid E nI i d N := ⟨G.inv, G.num, by have := G.le; omega, by have := G.bnd.1; omega, by have := G.bnd.2; omega⟩
theorem produce_num (j : Nat) (m : Msg) : (produce E N j m).num = N.num := rfl
theorem mid_produce (hE : E.length ≤ 6) (G : Good E nI i d N) {j : Nat} (hj : j < nI) {n : Nat} (hn : n ≤ 2) : Mid E nI i d (produce E N j ⟨false, n⟩) := by
  obtain ⟨a, b⟩ := bnd_produce hj hE hn G.bnd
  exact ⟨inv_produce G.inv hj hn, G.num, by have := G.le; omega, a, b⟩
theorem flush_num' {j : Nat} {N' : Net} (h : flush N j = some N') : N'.num = N.num := by
  unfold flush at h
  split at h
  · cases h
  · cases h; rfl
theorem mid_flush (G : Good E nI i d N) {j : Nat} (hj : j < nI) : Mid E nI i d ((flush N j).getD N) := by
  cases h : flush N j with
  | none => exact mid_same G
  | some N' =>
    obtain ⟨a, b⟩ := phi_flush G.inv hj h
    have h1 := G.bnd.1
    have h2 := G.bnd.2
    exact ⟨inv_flush G.inv hj h, by rw [Option.getD_some, flush_num' h]; exact G.num, by have := G.le; omega, by rw [Option.getD_some]; omega, by rw [Option.getD_some]; omega⟩
theorem report_num' (i : Nat) : (report E N i).num = N.num := by
  unfold report
  split <;> rfl
theorem hear_num' (e : Nat) (m : Msg) (a : Int) : (hear E N e m a).num = N.num := by
  unfold hear
  simp only
  repeat' split
  all_goals rfl
theorem take_num' (e : Nat) : (take E N e).1.num = N.num := by
  unfold take
  split
  · rfl
  · split
    · rfl
    · simp only
      split
      · rfl
      · split
        · rfl
        · split
          · exact hear_num' _ _ _
          · split
            · exact report_num' _
            · rfl
theorem mid_take (W : WF E nI) (hE : E.length ≤ 6) (G : Good E nI i d N) {e : Nat} (he : e < E.length) : Mid E nI i d (take E N e).1 ∧ (take E N e).2.2 = true := by
  obtain ⟨a, b, c⟩ := take_weighs W G.inv hE he
  obtain ⟨f, g⟩ := inv_take W G.inv he
  have h1 := G.bnd.1
  have h2 := G.bnd.2
  refine ⟨⟨g, by rw [take_num']; exact G.num, by have := G.le; omega, ?_, by omega⟩, f⟩
  cases hq : (take E N e).2.1 with
  | false => rw [a hq]; omega
  | true => have := b hq; omega
theorem reports_num : ∀ n, (reports E N n).num = N.num
  | 0 => rfl
  | n + 1 => by
    rw [reports]
    split
    · rw [report_num', reports_num n]
    · exact reports_num n
theorem mid_start (hn : nI ≤ 5) (hE : E.length ≤ 6) (W : WF E nI) (G : Good E nI i d N) (h0 : N.num = 0) {κ : Nat} (hκ : κ ≤ 1) : Mid E nI i (d + 1) (start E nI N (d + 1) κ) := by
  obtain ⟨a, b⟩ := bnd_start hn hE W G.inv h0 (number := d + 1) (by omega) hκ G.bnd
  refine ⟨inv_start G.inv h0 (by omega) hκ, .inr ?_, by have := G.le; omega, by omega, by omega⟩
  unfold start
  rw [reports_num]
  rfl
/-- Behind the look. -/
theorem good_next (M : Mid E nI i d N) (hi : d ≤ i + 1) : Good E nI (i + 1) d N :=
  ⟨M.inv, M.num, hi, by
    have h1 := M.phi
    have h2 := M.all
    unfold Bnd
    rw [Nat.mul_add, Nat.mul_add]
    exact ⟨Nat.le_trans h1 (by omega), Nat.le_trans h2 (by omega)⟩⟩
theorem good_done (hn : nI ≤ 5) (W : WF E nI) (M : Mid E nI i d N) (h0 : 0 < N.num) (h : whole E nI N = true) : Good E nI (i + 1) d (clear { N with num := 0 }) := by
  have h1 := M.phi
  obtain ⟨a, b⟩ := bnd_clear (E := E) (nI := nI) (N := N) hn { N with num := 0 } rfl rfl
  exact ⟨inv_done W M.inv h0 h, .inl rfl, M.le, by
    unfold Bnd
    rw [Nat.mul_add, Nat.mul_add, b, Nat.add_zero]
    exact ⟨Nat.le_trans a (by omega), Nat.le_trans a (by omega)⟩⟩
theorem box_phi (j : Nat) (hj : j < nI) : (N.box j).length ≤ Phi E nI N := by
  have q3 := wb_len (N.box j)
  have q4 := sumN_one (f := fun i => wb (N.box i)) hj
  have q5 : sumN nI (fun i => wb (N.box i)) ≤ Phi E nI N := by unfold Phi; omega
  try simp only at q4
  omega
theorem good_all (G : Good E nI i d N) (hi : i ≤ 150) : N.num ≤ 1000 ∧ Phi E nI N + Lam E N ≤ 10000000 ∧ (∀ j, j < nI → (N.box j).length ≤ 1000000) := by
  have h0 := G.num
  have h1 := G.le
  have h2 := G.bnd.1
  have h3 := G.bnd.2
  refine ⟨by omega, by omega, fun j hj => ?_⟩
  have := box_phi (E := E) (N := N) j hj
  omega
theorem mid_all (M : Mid E nI i d N) (hi : i ≤ 150) : Phi E nI N + Lam E N ≤ 10000000 := by
  have := M.all
  omega
end
end Go.Ck
