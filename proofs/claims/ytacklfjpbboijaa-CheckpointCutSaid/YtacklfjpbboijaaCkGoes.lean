/-
  CheckpointCut, the plain side: what weighs less with each thing that is done; and where nothing can be done any more, all channels are empty, and a checkpoint is whole.
-/
import Derived.Test.YtacklfjpbboijaaCkTake
namespace Go.Ck

def sumN (n : Nat) (f : Nat → Nat) : Nat := ((List.range n).map f).sum
theorem sumN_succ (n : Nat) (f : Nat → Nat) : sumN (n + 1) f = sumN n f + f n := by simp [sumN, List.range_succ]
theorem sumN_zero (f : Nat → Nat) : sumN 0 f = 0 := rfl
theorem sumN_le {f g : Nat → Nat} : ∀ n, (∀ j, j < n → f j ≤ g j) → sumN n f ≤ sumN n g
  | 0, _ => Nat.le_refl _
  | n + 1, h => by
    rw [sumN_succ, sumN_succ]
    have := sumN_le n (fun j hj => h j (by omega))
    have := h n (by omega)
    omega
theorem sumN_congr {f g : Nat → Nat} (n : Nat) (h : ∀ j, j < n → f j = g j) : sumN n f = sumN n g :=
  Nat.le_antisymm (sumN_le n fun j hj => Nat.le_of_eq (h j hj)) (sumN_le n fun j hj => Nat.le_of_eq (h j hj).symm)
theorem sumN_change {f g : Nat → Nat} {k : Nat} (h : ∀ j, j ≠ k → g j = f j) : ∀ n, k < n → sumN n g + f k = sumN n f + g k
  | 0, hk => by omega
  | n + 1, hk => by
    rw [sumN_succ, sumN_succ]
    by_cases e : k = n
    · subst e
      have := sumN_congr k (fun j hj => h j (by omega))
      omega
    · have h1 := sumN_change h n (by omega)
      have h2 := h n (fun h => e h.symm)
      omega
theorem sumN_add (f g : Nat → Nat) : ∀ n, sumN n (fun j => f j + g j) = sumN n f + sumN n g
  | 0 => rfl
  | n + 1 => by rw [sumN_succ, sumN_succ, sumN_succ, sumN_add f g n]; omega
theorem sumN_const (c : Nat) : ∀ n, sumN n (fun _ => c) = n * c
  | 0 => by simp [sumN]
  | n + 1 => by rw [sumN_succ, sumN_const c n, Nat.add_mul]; omega
theorem sumN_one {f : Nat → Nat} {k n : Nat} (h : k < n) : f k ≤ sumN n f := by
  have := sumN_change (f := fun j => if j = k then 0 else f j) (g := f) (k := k) (fun j hj => by simp [hj]) n h
  simp at this
  omega

def wt (m : Msg) : Nat := if m.bar = true then 1 else if m.n = 0 then 3 else if m.n = 1 then 33 else 213
def wl (l : List Msg) : Nat := (l.map wt).sum
def wb (l : List (Nat × Msg)) : Nat := (l.map fun y => wt y.2 + 1).sum
theorem wt_pos (m : Msg) : 1 ≤ wt m := by unfold wt; repeat' split
                                          all_goals omega
theorem wl_append (a b : List Msg) : wl (a ++ b) = wl a + wl b := by simp [wl]
theorem wb_append (a b : List (Nat × Msg)) : wb (a ++ b) = wb a + wb b := by simp [wb]
theorem wb_len (l : List (Nat × Msg)) : l.length ≤ wb l := by
  induction l with
  | nil => simp [wb]
  | cons a l ih => simp only [wb, List.map_cons, List.sum_cons, List.length_cons] at *; omega
theorem wl_len (l : List Msg) : l.length ≤ wl l := by
  induction l with
  | nil => simp [wl]
  | cons a l ih => have := wt_pos a; simp only [wl, List.map_cons, List.sum_cons, List.length_cons] at *; omega
theorem wb_erase : ∀ (l : List (Nat × Msg)) (j : Nat) (h : j < l.length), wb (l.eraseIdx j) + (wt (l[j]).2 + 1) = wb l
  | [], j, h => by simp at h
  | a :: l, 0, _ => by simp [wb]; omega
  | a :: l, j + 1, h => by
    have := wb_erase l j (by simpa using h)
    simp only [List.eraseIdx_cons_succ, List.getElem_cons_succ, wb, List.map_cons, List.sum_cons] at *
    omega
theorem wb_map (m : Msg) (l : List Nat) : wb (l.map fun k => (k, m)) = l.length * (wt m + 1) := by
  induction l with
  | nil => simp [wb]
  | cons a l ih => simp only [wb, List.map_cons, List.sum_cons, List.length_cons] at *; rw [ih, Nat.add_mul]; omega

section
variable (E : Edges) (nI : Nat)
def Phi (N : Net) : Nat := sumN E.length (fun e => wl (N.chan e)) + sumN nI (fun i => wb (N.box i)) + sumN nI (fun i => if N.rep i = true then 0 else 12)
def Lam (N : Net) : Nat := sumN E.length fun e => (N.made e).length + (N.handled e).length + (N.flying e).length
end
section
variable {E : Edges} {nI : Nat} {N : Net}

theorem outs_le (i : Nat) : ∀ n, (outsTo E i n).length ≤ n := fun n => by
  have := List.length_filter_le (fun k => fr E k == i) (List.range n)
  simpa [outsTo] using this

theorem phi_flush (I : Inv E nI N (fun _ => False)) {i : Nat} (hi : i < nI) {N' : Net} (h : flush N i = some N') : Phi E nI N' + 1 = Phi E nI N ∧ Lam E N' = Lam E N := by
  obtain ⟨j, hj, h1, h2, rfl⟩ := flush_some h
  have hy := I.brng i hi _ (List.getElem_mem hj)
  refine ⟨?_, rfl⟩
  unfold Phi
  have a := sumN_change (f := fun e => wl (N.chan e)) (g := fun e => wl (upd N.chan ((N.box i)[j]).1 (N.chan ((N.box i)[j]).1 ++ [((N.box i)[j]).2]) e)) (k := ((N.box i)[j]).1) (fun q hq => by simp only [upd_ne _ _ hq]) E.length hy.1
  have b := sumN_change (f := fun k => wb (N.box k)) (g := fun k => wb (upd N.box i ((N.box i).eraseIdx j) k)) (k := i) (fun q hq => by simp only [upd_ne _ _ hq]) nI hi
  simp only [upd_same, wl_append] at a b
  have c := wb_erase (N.box i) j hj
  have d : wl [((N.box i)[j]).2] = wt ((N.box i)[j]).2 := by simp [wl]
  simp only
  omega

theorem phi_produce {i : Nat} (hi : i < nI) (m : Msg) : Phi E nI (produce E N i m) = Phi E nI N + (outs E i).length * (wt m + 1) ∧ Lam E (produce E N i m) ≤ Lam E N + E.length := by
  constructor
  · unfold Phi produce produceTo
    simp only
    have b := sumN_change (f := fun k => wb (N.box k)) (g := fun k => wb (upd N.box i (N.box i ++ (outsTo E i E.length).map fun k => (k, m)) k)) (k := i) (fun q hq => by simp only [upd_ne _ _ hq]) nI hi
    simp only [upd_same, wb_append, wb_map] at b
    unfold outs
    omega
  · unfold Lam produce produceTo
    simp only
    have h : sumN E.length (fun e => (if e < E.length ∧ fr E e = i ∧ N.rep i = false then N.made e ++ [m.n] else N.made e).length + (N.handled e).length + (N.flying e).length) ≤
        sumN E.length (fun e => ((N.made e).length + (N.handled e).length + (N.flying e).length) + 1) := sumN_le _ fun e _ => by
      split
      · simp; omega
      · omega
    rw [sumN_add (fun e => (N.made e).length + (N.handled e).length + (N.flying e).length) (fun _ => 1), sumN_const] at h
    omega

theorem phi_report {i : Nat} (hi : i < nI) (hE : E.length ≤ 6) (hr : N.rep i = false) : Phi E nI (report E N i) ≤ Phi E nI N ∧ Lam E (report E N i) = Lam E N := by
  constructor
  · unfold Phi
    rw [report_chan, report_rep]
    have hb : ∀ k, wb ((report E N i).box k) = if k = i then wb (N.box i) + (outs E i).length * 2 else wb (N.box k) := fun k => by
      unfold report firsts
      split <;> simp only
      · by_cases h : k = i
        · rw [h, upd_same, if_pos rfl, wb_append, wb_map]; rfl
        · rw [upd_ne _ _ h, if_neg h]
      · by_cases h : k = i
        · rw [h, upd_same, if_pos rfl, wb_append, wb_map]
          show (outs E i).length * 2 + _ = _
          omega
        · rw [upd_ne _ _ h, if_neg h]
    have b := sumN_change (f := fun k => wb (N.box k)) (g := fun k => wb ((report E N i).box k)) (k := i) (fun q hq => by simp only [hb, if_neg hq]) nI hi
    have c := sumN_change (f := fun k => if N.rep k = true then 0 else 12) (g := fun k => if upd N.rep i true k = true then 0 else 12) (k := i) (fun q hq => by simp only [upd_ne _ _ hq]) nI hi
    rw [hb i, if_pos rfl] at b
    simp only [upd_same, hr, if_true] at c
    have := outs_le (E := E) i E.length
    unfold outs at *
    simp only [Bool.false_eq_true, if_false] at c
    omega
  · unfold Lam
    rw [report_made, report_handled, report_flying]

theorem phi_popped {e : Nat} (he : e < E.length) {g : Gate} {r : Nat} {m : Msg} {rest : List Msg} (hc : N.chan e = m :: rest) : Phi E nI (popped N e g r rest) + wt m = Phi E nI N ∧ Lam E (popped N e g r rest) = Lam E N := by
  refine ⟨?_, rfl⟩
  unfold Phi popped
  simp only
  have a := sumN_change (f := fun e => wl (N.chan e)) (g := fun q => wl (upd N.chan e rest q)) (k := e) (fun q hq => by simp only [upd_ne _ _ hq]) E.length he
  simp only [upd_same, hc] at a
  have b : wl (m :: rest) = wt m + wl rest := by simp [wl]
  omega

theorem phi_hear {e : Nat} (he : e < E.length) (hW : tt E e < nI) (hE : E.length ≤ 6) {n : Nat} (hn : n ≤ 2) (a : Int) :
    Phi E nI (hear E N e ⟨false, n⟩ a) + 3 ≤ Phi E nI N + wt ⟨false, n⟩ ∧ Phi E nI (hear E N e ⟨false, n⟩ a) + Lam E (hear E N e ⟨false, n⟩ a) ≤ Phi E nI N + Lam E N + wt ⟨false, n⟩ := by
  have key : ∀ (H F : Nat → List Nat), (∀ k, k ≠ e → H k = N.handled k ∧ F k = N.flying k) → (H e).length + (F e).length ≤ (N.handled e).length + (N.flying e).length + 2 →
      ∀ M : Net, M = { N with handled := H, flying := F } → Phi E nI (if 0 < n then produce E M (tt E e) ⟨false, n - 1⟩ else M) + 3 ≤ Phi E nI N + wt ⟨false, n⟩ ∧
        Phi E nI (if 0 < n then produce E M (tt E e) ⟨false, n - 1⟩ else M) + Lam E (if 0 < n then produce E M (tt E e) ⟨false, n - 1⟩ else M) ≤ Phi E nI N + Lam E N + wt ⟨false, n⟩ := by
    intro H F h1 h2 M hM
    have p1 : Phi E nI M = Phi E nI N := by rw [hM]; rfl
    have p2 : Lam E M ≤ Lam E N + 2 := by
      have := sumN_change (f := fun e => (N.made e).length + (N.handled e).length + (N.flying e).length) (g := fun e => (M.made e).length + (M.handled e).length + (M.flying e).length) (k := e)
        (fun q hq => by rw [hM]; simp only [(h1 q hq).1, (h1 q hq).2]) E.length he
      unfold Lam
      have h3 : (M.made e).length + (M.handled e).length + (M.flying e).length ≤ (N.made e).length + (N.handled e).length + (N.flying e).length + 2 := by
        rw [hM]
        simp only
        omega
      omega
    by_cases h0 : 0 < n
    · rw [if_pos h0]
      obtain ⟨q1, q2⟩ := phi_produce (E := E) (N := M) hW ⟨false, n - 1⟩
      have o := outs_le (E := E) (tt E e) E.length
      rw [q1, p1]
      have hmul : (outs E (tt E e)).length * (wt ⟨false, n - 1⟩ + 1) ≤ 6 * (wt ⟨false, n - 1⟩ + 1) := Nat.mul_le_mul_right _ (by unfold outs; omega)
      have hw : wt ⟨false, n⟩ = 9 + 6 * (wt ⟨false, n - 1⟩ + 1) := by
        have : n = 1 ∨ n = 2 := by omega
        rcases this with rfl | rfl <;> rfl
      omega
    · rw [if_neg h0]
      have hw : wt ⟨false, n⟩ = 3 := by
        have : n = 0 := by omega
        subst this
        rfl
      omega
  unfold hear
  simp only
  refine key (if N.rep (tt E e) = true then N.handled else upd N.handled e (N.handled e ++ [n])) (if a = 2 then upd N.flying e (N.flying e ++ [n]) else N.flying) ?_ ?_ _ ?_
  · intro k hk
    constructor
    · split
      · rfl
      · exact upd_ne _ _ hk
    · split
      · exact upd_ne _ _ hk
      · rfl
  · by_cases q1 : N.rep (tt E e) = true <;> by_cases q2 : a = 2 <;> simp [q1, q2, upd_same] <;> omega
  · by_cases q1 : N.rep (tt E e) = true <;> by_cases q2 : a = 2 <;> simp [q1, q2]

/-- A look that does nothing leaves all as it is; one that does something makes it lighter. -/
theorem take_weighs (W : WF E nI) (I : Inv E nI N (fun _ => False)) (hE : E.length ≤ 6) {e : Nat} (he : e < E.length) :
    ((take E N e).2.1 = false → (take E N e).1 = N) ∧ ((take E N e).2.1 = true → Phi E nI (take E N e).1 < Phi E nI N) ∧ Phi E nI (take E N e).1 + Lam E (take E N e).1 ≤ Phi E nI N + Lam E N := by
  have hin := W.le e he
  unfold take
  split
  · exact ⟨fun _ => rfl, (fun h => by cases h), Nat.le_refl _⟩
  · rename_i m rest hc
    split
    · exact ⟨fun _ => rfl, (fun h => by cases h), Nat.le_refl _⟩
    · obtain ⟨b, n⟩ := m
      cases b with
      | false =>
        have hn2 : n ≤ 2 := by
          have := I.crng e he ⟨false, n⟩ (by rw [hc]; simp)
          simpa [okm] using this
        obtain ⟨a, ha, ha2⟩ : ∃ a, (N.gate (tt E e)).arrive (inb E e) ⟨false, n⟩ N.kind = (N.gate (tt E e), a) ∧ (a = 0 ∨ a = 1 ∨ a = 2) := by
          refine ⟨_, arrive_mark, ?_⟩
          split
          · exact .inl rfl
          · split
            · exact .inr (.inr rfl)
            · exact .inr (.inl rfl)
        rw [ha]
        simp only
        split
        · exact ⟨fun _ => rfl, (fun h => by cases h), Nat.le_refl _⟩
        · split
          · exact ⟨fun _ => rfl, (fun h => by cases h), Nat.le_refl _⟩
          · obtain ⟨p1, p2⟩ := phi_popped (nI := nI) he (g := N.gate (tt E e)) (r := tt E e) hc
            have hw := wt_pos ⟨false, n⟩
            rw [if_pos (by omega)]
            obtain ⟨q1, q2⟩ := phi_hear (N := popped N e (N.gate (tt E e)) (tt E e) rest) he hin hE hn2 a
            refine ⟨(fun h => by cases h), fun _ => ?_, ?_⟩
            · show Phi E nI (hear E (popped N e (N.gate (tt E e)) (tt E e) rest) e ⟨false, n⟩ a) < _
              omega
            · show Phi E nI (hear E (popped N e (N.gate (tt E e)) (tt E e) rest) e ⟨false, n⟩ a) + Lam E (hear E (popped N e (N.gate (tt E e)) (tt E e) rest) e ⟨false, n⟩ a) ≤ _
              omega
      | true =>
        obtain ⟨h0, hrs, ha, hI⟩ := inv_bar W I he hc (g := ((N.gate (tt E e)).arrive (inb E e) ⟨true, n⟩ N.kind).1) (a := ((N.gate (tt E e)).arrive (inb E e) ⟨true, n⟩ N.kind).2) rfl
        generalize (N.gate (tt E e)).arrive (inb E e) ⟨true, n⟩ N.kind = ga at *
        obtain ⟨g, a⟩ := ga
        simp only at ha hI ⊢
        obtain ⟨p1, p2⟩ := phi_popped (nI := nI) he (g := g) (r := tt E e) hc
        have hw := wt_pos ⟨true, n⟩
        rw [if_neg (by omega), if_neg (by omega), if_neg (by omega)]
        split
        · rename_i h4
          have hr : (popped N e g (tt E e) rest).rep (tt E e) = false := (((hI.act h0).repd _ hin).1 ⟨h4, rfl⟩).1
          obtain ⟨q1, q2⟩ := phi_report (N := popped N e g (tt E e) rest) hin hE hr
          refine ⟨(fun h => by cases h), fun _ => ?_, ?_⟩
          · show Phi E nI (report E (popped N e g (tt E e) rest) (tt E e)) < _
            omega
          · show Phi E nI (report E (popped N e g (tt E e) rest) (tt E e)) + Lam E (report E (popped N e g (tt E e) rest) (tt E e)) ≤ _
            omega
        · refine ⟨(fun h => by cases h), fun _ => ?_, ?_⟩
          · show Phi E nI (popped N e g (tt E e) rest) < _
            omega
          · show Phi E nI (popped N e g (tt E e) rest) + Lam E (popped N e g (tt E e) rest) ≤ _
            omega

/-! ### where nothing can be done any more -/
/-- Nothing can be done. -/
structure Stuck (E : Edges) (nI : Nat) (N : Net) : Prop where
  fl : ∀ i, i < nI → flush N i = none
  tk : ∀ e, e < E.length → (take E N e).2.1 = false

theorem stuck_take {e : Nat} (h : (take E N e).2.1 = false) (h2 : (take E N e).2.2 = true) (hc : N.chan e ≠ []) :
    N.box (tt E e) ≠ [] ∨ ((N.gate (tt E e)).busy = true ∧ (N.gate (tt E e)).kind ≠ 1 ∧ inb E e ∈ (N.gate (tt E e)).came) := by
  unfold take at h h2
  split at h
  · rename_i h'; exact absurd h' hc
  · rename_i m rest hcc
    rw [hcc] at h2
    simp only at h h2
    by_cases hb : N.box (tt E e) ≠ [] ∧ (N.kind ≠ 1 ∨ m.bar = false)
    · exact .inl hb.1
    · rw [if_neg hb] at h h2
      right
      by_cases h0 : ((N.gate (tt E e)).arrive (inb E e) m N.kind).2 = 0
      · unfold Gate.arrive at h0
        split at h0
        · rename_i hh; exact hh
        · split at h0
          · simp at h0
          · split at h0
            · simp at h0
            · split at h0
              · simp at h0
              · unfold Gate.barrier at h0
                simp only at h0
                split at h0 <;> simp at h0
      · rw [if_neg h0] at h h2
        by_cases h1 : ((N.gate (tt E e)).arrive (inb E e) m N.kind).2 = -1
        · rw [if_pos h1] at h2; cases h2
        · rw [if_neg h1] at h
          split at h
          · cases h
          · split at h <;> cases h

theorem stuck_box (I : Inv E nI N (fun _ => False)) (S : Stuck E nI N) {i : Nat} (hi : i < nI) {y : Nat × Msg} (hy : y ∈ N.box i) : y.1 < E.length ∧ fr E y.1 = i ∧ (N.chan y.1).length = 4 := by
  obtain ⟨h1, h2, _⟩ := I.brng i hi y hy
  have h3 := flush_none (S.fl i hi) y hy
  unfold free at h3
  exact ⟨h1, h2, by simpa using h3⟩

/-- Where no channel is held, all is empty. -/
theorem stuck_empty (W : WF E nI) (I : Inv E nI N (fun _ => False)) (S : Stuck E nI N) (hno : ∀ e, e < E.length → ¬ ((N.gate (tt E e)).busy = true ∧ (N.gate (tt E e)).kind ≠ 1 ∧ inb E e ∈ (N.gate (tt E e)).came)) :
    ∀ d i, nI - i = d → i < nI → N.box i = [] ∧ ∀ e, e < E.length → tt E e = i → N.chan e = [] := by
  intro d
  induction d using Nat.strongRecOn with
  | _ d ih =>
    intro i hd hi
    have hbox : N.box i = [] := by
      rw [List.eq_nil_iff_forall_not_mem]
      intro y hy
      obtain ⟨h1, h2, h3⟩ := stuck_box I S hi hy
      have hlt := W.lt y.1 h1
      have hle := W.le y.1 h1
      have := (ih (nI - tt E y.1) (by omega) (tt E y.1) rfl hle).2 y.1 h1 rfl
      rw [this] at h3
      cases h3
    refine ⟨hbox, fun e he ht => ?_⟩
    cases hq : N.chan e with
    | nil => rfl
    | cons m rest =>
      exfalso
      rcases stuck_take (S.tk e he) (inv_take W I he).1 (by rw [hq]; simp) with h | h
      · rw [ht] at h; exact h hbox
      · exact hno e he h

/-- An aligned one: an instance that has not reported has nothing to send. -/
theorem stuck_unrep (W : WF E nI) (I : Inv E nI N (fun _ => False)) (S : Stuck E nI N) (h0 : 0 < N.num) (hk : N.kind = 0) :
    ∀ d i, nI - i = d → i < nI → N.rep i = false → N.box i = [] := by
  have A := I.act h0
  intro d
  induction d using Nat.strongRecOn with
  | _ d ih =>
    intro i hd hi hr
    rw [List.eq_nil_iff_forall_not_mem]
    intro y hy
    obtain ⟨h1, h2, h3⟩ := stuck_box I S hi hy
    have hlt := W.lt y.1 h1
    have hle := W.le y.1 h1
    have hnp : ¬ passed E N y.1 := fun h => by have := h.1; rw [h2, hr] at this; cases this
    have hrj : N.rep (tt E y.1) = false := by
      have := (A.repd _ hle).2 (fun h => h)
      unfold repOk at this
      rw [if_pos hk] at this
      cases hq : N.rep (tt E y.1) with
      | false => rfl
      | true => exact absurd (this.1 hq y.1 h1 rfl) hnp
    rcases stuck_take (S.tk y.1 h1) (inv_take W I h1).1 (by intro h; rw [h] at h3; cases h3) with h | h
    · exact h (ih (nI - tt E y.1) (by omega) _ rfl hle hrj)
    · obtain ⟨_, _, _, g4⟩ := A.gate _ hle
      rw [if_neg (fun h => hnp (h y.1 h1 rfl))] at g4
      exact hnp ((g4.1 y.1 h1 rfl).1 h.2.2)

theorem stuck_rep0 (W : WF E nI) (I : Inv E nI N (fun _ => False)) (S : Stuck E nI N) (h0 : 0 < N.num) (hk : N.kind = 0) : ∀ i, i < nI → N.rep i = true := by
  have A := I.act h0
  intro i
  induction i using Nat.strongRecOn with
  | _ i ih =>
    intro hi
    have hr := (A.repd i hi).2 (fun h => h)
    unfold repOk at hr
    rw [if_pos hk] at hr
    cases hq : N.rep i with
    | true => rfl
    | false =>
      exfalso
      have hbi := stuck_unrep W I S h0 hk _ i rfl hi hq
      rw [hq] at hr
      have hne : ¬ ∀ e, e < E.length → tt E e = i → passed E N e := fun h => by have := hr.2 h; cases this
      apply hne
      intro e he ht
      have hlt := W.lt e he
      have hs := ih (fr E e) (by omega) (by omega)
      rcases A.one e he hs with h | ⟨x, y, h1, h2, h3⟩
      · exact ⟨hs, h⟩
      · exfalso
        have hnp : ¬ passed E N e := fun h => by have := h.2; rw [h1, noBar_bar] at this; cases this
        cases hc : N.chan e with
        | nil =>
          unfold str at h1
          rw [hc, List.nil_append] at h1
          have hm : (⟨true, N.num⟩ : Msg) ∈ forE (N.box (fr E e)) e := by rw [h1]; simp
          unfold forE at hm
          obtain ⟨z, hz, hze⟩ := List.mem_map.1 hm
          obtain ⟨hz1, hz2⟩ := List.mem_filter.1 hz
          have := (stuck_box I S (fr_lt W he) hz1).2.2
          simp only [beq_iff_eq] at hz2
          rw [hz2, hc] at this
          cases this
        | cons m rest =>
          rcases stuck_take (S.tk e he) (inv_take W I he).1 (by rw [hc]; simp) with h | h
          · rw [ht] at h; exact h hbi
          · obtain ⟨_, _, _, g4⟩ := A.gate _ (W.le e he)
            rw [if_neg (fun h => hnp (h e he rfl))] at g4
            exact hnp ((g4.1 e he rfl).1 h.2.2)

/-- What is so at the end: every channel is empty, and a checkpoint that was being made is whole. -/
theorem stuck_end (W : WF E nI) (I : Inv E nI N (fun _ => False)) (S : Stuck E nI N) : (∀ e, e < E.length → N.chan e = []) ∧ (0 < N.num → whole E nI N = true) := by
  have hno : ∀ e, e < E.length → ¬ ((N.gate (tt E e)).busy = true ∧ (N.gate (tt E e)).kind ≠ 1 ∧ inb E e ∈ (N.gate (tt E e)).came) := by
    rintro e he ⟨h1, h2, h3⟩
    have hle := W.le e he
    rcases Nat.eq_zero_or_pos N.num with h0 | h0
    · have := ((I.idle h0).2 _ hle).1
      simp [Gate.busy, this] at h1
    · have A := I.act h0
      obtain ⟨_, _, _, g4⟩ := A.gate _ hle
      by_cases hall : ∀ k, k < E.length → tt E k = tt E e → passed E N k
      · rw [if_pos hall] at g4
        simp [Gate.busy, g4.1] at h1
      · rw [if_neg hall] at g4
        have hne : (N.gate (tt E e)).came ≠ [] := fun h => by rw [h] at h3; cases h3
        rw [if_neg hne] at g4
        rw [g4.2.2] at h2
        have hk : N.kind = 0 := by have := I.kind; omega
        have hr := stuck_rep0 W I S h0 hk _ hle
        have hrr := (A.repd _ hle).2 (fun h => h)
        unfold repOk at hrr
        rw [if_pos hk] at hrr
        exact hall (hrr.1 hr)
  have hem := stuck_empty W I S hno
  have hch : ∀ e, e < E.length → N.chan e = [] := fun e he => (hem _ _ rfl (W.le e he)).2 e he rfl
  refine ⟨hch, fun h0 => ?_⟩
  have A := I.act h0
  have hst : ∀ e, e < E.length → str E N e = [] := fun e he => by
    unfold str
    rw [hch e he, (hem _ _ rfl (fr_lt W he)).1]
    rfl
  have hrep : ∀ i, i < nI → N.rep i = true := by
    intro i
    induction i using Nat.strongRecOn with
    | _ i ih =>
      intro hi
      have hr := (A.repd i hi).2 (fun h => h)
      unfold repOk at hr
      have hp : ∀ e, e < E.length → tt E e = i → passed E N e := fun e he ht => by
        have hlt := W.lt e he
        exact ⟨ih (fr E e) (by omega) (by omega), by rw [hst e he]; rfl⟩
      refine hr.2 ?_
      split
      · exact hp
      · by_cases hs : source E i = true
        · exact .inl hs
        · right
          have : ¬ ∀ e, e < E.length → tt E e ≠ i := fun h => hs (source_iff.2 h)
          simp only [Classical.not_forall] at this
          obtain ⟨e, he, ht⟩ := this
          have ht' : tt E e = i := Classical.byContradiction ht
          exact ⟨e, he, ht', hp e he ht'⟩
  unfold whole
  simp only [Bool.and_eq_true, List.all_eq_true, List.mem_range]
  refine ⟨fun i hi => ⟨⟨hrep i hi, ?_⟩, ?_⟩, fun e he => ?_⟩
  · obtain ⟨_, _, _, g4⟩ := A.gate i hi
    rw [if_pos (fun e he _ => ⟨hrep _ (fr_lt W he), by rw [hst e he]; rfl⟩)] at g4
    simp [Gate.busy, g4.1]
  · rw [(hem _ _ rfl hi).1]; rfl
  · rw [hch e he]; rfl

/-! ### bounds -/
def Bnd (E : Edges) (nI : Nat) (N : Net) (t : Nat) : Prop := Phi E nI N ≤ 60 + 2000 * t ∧ Phi E nI N + Lam E N ≤ 600 + 20000 * t

theorem rep_le (N : Net) : ∀ n, sumN n (fun i => if N.rep i = true then 0 else 12) ≤ 12 * n
  | 0 => by simp [sumN]
  | n + 1 => by
    rw [sumN_succ]
    have := rep_le N n
    split <;> omega

theorem bnd_produce {i t : Nat} (hi : i < nI) (hE : E.length ≤ 6) {n : Nat} (hn : n ≤ 2) (B : Bnd E nI N t) : Phi E nI (produce E N i ⟨false, n⟩) ≤ 60 + 2000 * t + 1300 ∧ Phi E nI (produce E N i ⟨false, n⟩) + Lam E (produce E N i ⟨false, n⟩) ≤ 600 + 20000 * t + 1400 := by
  obtain ⟨b1, b2⟩ := B
  obtain ⟨q1, q2⟩ := phi_produce (E := E) (N := N) hi ⟨false, n⟩
  have o := outs_le (E := E) i E.length
  have hw : wt ⟨false, n⟩ ≤ 213 := by
    have : n = 0 ∨ n = 1 ∨ n = 2 := by omega
    rcases this with rfl | rfl | rfl <;> decide
  have hmul : (outs E i).length * (wt ⟨false, n⟩ + 1) ≤ 6 * 214 := Nat.mul_le_mul (by unfold outs; omega) (by omega)
  omega

theorem bnd_clear (hn : nI ≤ 5) (N' : Net) (h1 : N'.chan = N.chan) (h2 : N'.box = N.box) : Phi E nI (clear N') ≤ Phi E nI N + 60 ∧ Lam E (clear N') = 0 := by
  constructor
  · unfold Phi
    have := rep_le (clear N') nI
    have e1 : (clear N').chan = N.chan := h1
    have e2 : (clear N').box = N.box := h2
    rw [e1, e2]
    omega
  · unfold Lam clear
    simp only [List.length_nil]
    exact sumN_const 0 _

theorem forE_len (l : List (Nat × Msg)) (e : Nat) : (forE l e).length ≤ l.length := by
  unfold forE
  rw [List.length_map]
  exact List.length_filter_le _ _

theorem reports_weigh (hE : E.length ≤ 6) (h0 : 0 < N.num) (I : Inv E nI N (fun i => source E i = true)) : ∀ n, n ≤ nI → Phi E nI (reports E N n) ≤ Phi E nI N ∧ Lam E (reports E N n) = Lam E N := by
  intro n
  induction n with
  | zero => exact fun _ => ⟨Nat.le_refl _, rfl⟩
  | succ n ih =>
    intro hn
    obtain ⟨a1, a2⟩ := ih (by omega)
    obtain ⟨i1, i2⟩ := inv_reports I h0 n (by omega)
    unfold reports
    split
    · rename_i hs
      have hr := (((i1.act i2).repd n (by omega)).1 ⟨hs, Nat.le_refl _⟩).1
      obtain ⟨q1, q2⟩ := phi_report (E := E) (N := reports E N n) (show n < nI by omega) hE hr
      exact ⟨Nat.le_trans q1 a1, q2.trans a2⟩
    · exact ⟨a1, a2⟩

theorem bnd_start (hn : nI ≤ 5) (hE : E.length ≤ 6) (W : WF E nI) (I : Inv E nI N (fun _ => False)) (h0 : N.num = 0) {number κ t : Nat} (hnum : 0 < number) (hk : κ ≤ 1) (B : Bnd E nI N t) :
    Phi E nI (start E nI N number κ) ≤ 60 + 2000 * t + 60 ∧ Phi E nI (start E nI N number κ) + Lam E (start E nI N number κ) ≤ 600 + 20000 * t + 60 := by
  obtain ⟨b1, b2⟩ := B
  have h1 := inv_started I h0 hnum hk
  obtain ⟨r1, r2⟩ := reports_weigh hE hnum h1 nI (Nat.le_refl _)
  have hP : Phi E nI { clear { N with num := number, kind := κ } with made := fun e => if e < E.length then nums (str E N e) else [] } = Phi E nI (clear { N with num := number, kind := κ }) := rfl
  obtain ⟨c1, _⟩ := bnd_clear (E := E) (nI := nI) (N := N) hn { N with num := number, kind := κ } rfl rfl
  have hL : Lam E { clear { N with num := number, kind := κ } with made := fun e => if e < E.length then nums (str E N e) else [] } ≤ 7 * Phi E nI N := by
    unfold Lam clear
    simp only [List.length_nil, Nat.add_zero]
    have h2 : sumN E.length (fun e => (if e < E.length then nums (str E N e) else []).length) ≤ sumN E.length (fun e => wl (N.chan e) + Phi E nI N) := sumN_le _ fun e he => by
      rw [if_pos he]
      unfold nums str
      rw [List.length_map, List.length_append]
      have q1 := wl_len (N.chan e)
      have q2 := forE_len (N.box (fr E e)) e
      have q3 := wb_len (N.box (fr E e))
      have q4 := sumN_one (f := fun i => wb (N.box i)) (fr_lt W he)
      have q5 : sumN nI (fun i => wb (N.box i)) ≤ Phi E nI N := by unfold Phi; omega
      try simp only at q4
      omega
    rw [sumN_add (fun e => wl (N.chan e)) (fun _ => Phi E nI N), sumN_const] at h2
    have q6 : sumN E.length (fun e => wl (N.chan e)) ≤ Phi E nI N := by unfold Phi; omega
    have q7 : E.length * Phi E nI N ≤ 6 * Phi E nI N := Nat.mul_le_mul_right _ hE
    omega
  unfold start
  rw [r2]
  rw [hP] at r1
  omega

theorem lens {B : Nat} (h : Phi E nI N + Lam E N ≤ B) : (∀ i, i < nI → (N.box i).length ≤ B) ∧ (∀ e, e < E.length → (N.made e).length ≤ B ∧ (N.handled e).length ≤ B ∧ (N.flying e).length ≤ B) := by
  constructor
  · intro i hi
    have q3 := wb_len (N.box i)
    have q4 := sumN_one (f := fun i => wb (N.box i)) hi
    have q5 : sumN nI (fun i => wb (N.box i)) ≤ Phi E nI N := by unfold Phi; omega
    try simp only at q4
    omega
  · intro e he
    have q4 := sumN_one (f := fun e => (N.made e).length + (N.handled e).length + (N.flying e).length) he
    unfold Lam at h
    try simp only at q4
    omega
theorem boxed_len {P : Nat → Prop} (I : Inv E nI N P) {B : Nat} (h : Phi E nI N + Lam E N ≤ B) : ∀ e, e < E.length → (N.boxed e).length ≤ B := by
  intro e he
  rcases Nat.eq_zero_or_pos N.num with h0 | h0
  · rw [((I.idle h0).1 e he).2.1]; simp
  · have := (I.act h0).cut e he
    have h2 := ((lens h).2 e he).1
    rw [this] at h2
    simp only [List.length_append] at h2
    omega
end
end Go.Ck
