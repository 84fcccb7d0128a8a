/-
  CheckpointCut, the plain side: a report keeps the invariant; so does the look at the first message of a channel.
-/
import Derived.Test.YtacklfjpbboijaaCkAct
namespace Go.Ck
section
variable {E : Edges} {nI : Nat} {N : Net} {P : Nat → Prop}

theorem forE_other (I : Inv E nI N P) {i e : Nat} (hi : i < nI) (h : fr E e ≠ i) : forE (N.box i) e = [] := by
  unfold forE
  rw [List.map_eq_nil_iff, List.filter_eq_nil_iff]
  intro y hy hye
  have h1 := (I.brng i hi y hy).2.1
  simp only [beq_iff_eq] at hye
  exact h (by rw [← hye]; exact h1)

theorem report_chan (i : Nat) : (report E N i).chan = N.chan := by unfold report; split <;> rfl
theorem report_gate (i : Nat) : (report E N i).gate = N.gate := by unfold report; split <;> rfl
theorem report_rep (i : Nat) : (report E N i).rep = upd N.rep i true := by unfold report; split <;> rfl
theorem report_num (i : Nat) : (report E N i).num = N.num := by unfold report; split <;> rfl
theorem report_kind (i : Nat) : (report E N i).kind = N.kind := by unfold report; split <;> rfl
theorem report_made (i : Nat) : (report E N i).made = N.made := by unfold report; split <;> rfl
theorem report_handled (i : Nat) : (report E N i).handled = N.handled := by unfold report; split <;> rfl
theorem report_flying (i : Nat) : (report E N i).flying = N.flying := by unfold report; split <;> rfl
theorem report_boxed (I : Inv E nI N P) {i e : Nat} (hi : i < nI) (h : N.kind = 0 ∨ fr E e ≠ i) : (report E N i).boxed e = N.boxed e := by
  unfold report
  split
  · rfl
  · rename_i hk
    rcases h with h | h
    · exact absurd h hk
    · simp only [forE_other I hi h, nums, List.map_nil, List.append_nil]
theorem report_box {i k : Nat} {y : Nat × Msg} (hy : y ∈ (report E N i).box k) : y ∈ N.box k ∨ (k = i ∧ y.1 < E.length ∧ fr E y.1 = i ∧ y.2 = ⟨true, N.num⟩) := by
  have hf : ∀ z, z ∈ firsts E N i E.length → z.1 < E.length ∧ fr E z.1 = i ∧ z.2 = ⟨true, N.num⟩ := fun z hz => by
    obtain ⟨q, hq, rfl⟩ := List.mem_map.1 hz
    obtain ⟨h1, h2⟩ := mem_outsTo.1 hq
    exact ⟨h1, h2, rfl⟩
  unfold report at hy
  split at hy
  · simp only at hy
    by_cases hc : k = i
    · subst hc
      rw [upd_same] at hy
      exact (List.mem_append.1 hy).imp id fun h => ⟨rfl, hf y h⟩
    · rw [upd_ne _ _ hc] at hy; exact .inl hy
  · simp only at hy
    by_cases hc : k = i
    · subst hc
      rw [upd_same] at hy
      exact (List.mem_append.1 hy).symm.imp id fun h => ⟨rfl, hf y h⟩
    · rw [upd_ne _ _ hc] at hy; exact .inl hy

theorem inv_report (I : Inv E nI N P) (h0 : 0 < N.num) {i : Nat} (hi : i < nI) (hP : P i) : Inv E nI (report E N i) (fun k => P k ∧ k ≠ i) := by
  have A := I.act h0
  have hri : N.rep i = false := ((A.repd i hi).1 hP).1
  -- what stands on a channel
  have hs : ∀ e, e < E.length → fr E e ≠ i → str E (report E N i) e = str E N e := fun e he h => by
    by_cases hk : N.kind = 0
    · rw [str_report0 he hk, if_neg h, List.append_nil]
    · rw [str_report1 he hk, if_neg h]
  have hsi : ∀ e, e < E.length → fr E e = i → ∃ x y, str E (report E N i) e = x ++ ⟨true, N.num⟩ :: y ∧ noBar x = true ∧ noBar y = true ∧ nums x ++ (report E N i).boxed e = nums (str E N e) ++ N.boxed e := fun e he h => by
    have hn := A.unrep e he (by rw [h]; exact hri)
    have hb := A.bx e he (by rw [h]; exact hri)
    by_cases hk : N.kind = 0
    · refine ⟨str E N e, [], by rw [str_report0 he hk, if_pos h], hn, rfl, ?_⟩
      rw [report_boxed I hi (.inl hk)]
    · have hn' := hn
      unfold str at hn'
      rw [noBar_append, Bool.and_eq_true] at hn'
      refine ⟨N.chan e, forE (N.box i) e, by rw [str_report1 he hk, if_pos h], hn'.1, by rw [← h]; exact hn'.2, ?_⟩
      have hbx : (report E N i).boxed e = nums (forE (N.box i) e) := by
        unfold report
        rw [if_neg hk]
        simp only [hb, List.nil_append]
      rw [hbx, hb, List.append_nil, ← nums_append]
      unfold str
      rw [h]
  have hrep : ∀ k, k ≠ i → (report E N i).rep k = N.rep k := fun k hk => by rw [report_rep, upd_ne _ _ hk]
  have hp : ∀ e, e < E.length → (passed E (report E N i) e ↔ passed E N e) := fun e he => by
    by_cases h : fr E e = i
    · constructor
      · rintro ⟨_, h2⟩
        obtain ⟨x, y, h3, _⟩ := hsi e he h
        rw [h3, noBar_bar] at h2
        cases h2
      · rintro ⟨h1, _⟩
        rw [h, hri] at h1
        cases h1
    · exact passed_congr (hrep _ h) (hs e he h)
  have hok : ∀ m, okm (report E N i) m ↔ okm N m := fun m => by unfold okm; rw [report_num]
  refine ⟨by rw [report_chan]; exact I.cap, ?_, ?_, by rw [report_kind]; exact I.kind, by rw [report_gate]; exact I.chs, ?_, ?_⟩
  · intro e he m hm
    rw [hok]
    rw [report_chan] at hm
    exact I.crng e he m hm
  · intro k hk y hy
    rw [hok]
    rcases report_box hy with hy | ⟨rfl, h1, h2, h3⟩
    · exact I.brng k hk y hy
    · refine ⟨h1, h2, ?_⟩
      rw [h3]
      unfold okm
      simp
      omega
  · intro h; rw [report_num] at h; omega
  · intro _
    refine ⟨?_, ?_, ?_, ?_, ?_, ?_, ?_, ?_⟩
    · intro e he hr
      have h : fr E e ≠ i := fun h => by rw [h, report_rep, upd_same] at hr; cases hr
      rw [hs e he h]
      exact A.unrep e he (by rw [← hrep _ h]; exact hr)
    · intro e he hr
      rw [report_num]
      by_cases h : fr E e = i
      · obtain ⟨x, y, h3, h4, h5, _⟩ := hsi e he h
        exact .inr ⟨x, y, h3, h4, h5⟩
      · rw [hs e he h]
        exact A.one e he (by rw [← hrep _ h]; exact hr)
    · intro e he
      have hc := A.cut e he
      rw [report_made, report_handled, report_flying, hc]
      by_cases h : fr E e = i
      · obtain ⟨x, y, h3, h4, h5, h6⟩ := hsi e he h
        have hnp : ¬ passed E N e := fun hp' => by have := hp'.1; rw [h, hri] at this; cases this
        have hn := A.unrep e he (by rw [h]; exact hri)
        unfold pre
        rw [if_neg hnp, if_neg (fun h' => hnp ((hp e he).1 h')), h3, takeWhile_bar h4, takeWhile_noBar hn, List.append_assoc _ (nums x), h6, List.append_assoc]
      · rw [pre_congr (hrep _ h) (hs e he h), report_boxed I hi (.inr h)]
    · intro e he hk
      rw [report_kind] at hk
      rw [report_flying, report_boxed I hi (.inl hk)]
      exact A.al e he hk
    · intro e he hr
      have h : fr E e ≠ i := fun h => by rw [h, report_rep, upd_same] at hr; cases hr
      rw [report_boxed I hi (.inr h)]
      exact A.bx e he (by rw [← hrep _ h]; exact hr)
    · intro e he hr
      have h : tt E e ≠ i := fun h => by rw [h, report_rep, upd_same] at hr; cases hr
      rw [report_flying]
      exact A.fl e he (by rw [← hrep _ h]; exact hr)
    · intro k hk
      by_cases h : k = i
      · subst h
        refine ⟨fun h' => absurd rfl h'.2, fun _ => ?_⟩
        rw [report_rep, upd_same]
        exact repOk_congr (fun e he _ => hp e he) (report_kind k) ((A.repd k hk).1 hP).2
      · rw [hrep k h]
        exact ⟨fun h' => ⟨((A.repd k hk).1 h'.1).1, repOk_congr (fun e he _ => hp e he) (report_kind i) ((A.repd k hk).1 h'.1).2⟩,
          fun h' => repOk_congr (fun e he _ => hp e he) (report_kind i) ((A.repd k hk).2 (fun hpk => h' ⟨hpk, h⟩))⟩
    · intro k hk
      rw [report_gate]
      exact gateOk_congr (fun e he _ => hp e he) (report_num i) (report_kind i) (A.gate k hk)

theorem inv_weaken {Q : Nat → Prop} (I : Inv E nI N P) (h : ∀ k, k < nI → (P k ↔ Q k)) : Inv E nI N Q :=
  ⟨I.cap, I.crng, I.brng, I.kind, I.chs, I.idle, fun h0 =>
    let A := I.act h0
    ⟨A.unrep, A.one, A.cut, A.al, A.bx, A.fl, fun i hi => ⟨fun hq => (A.repd i hi).1 ((h i hi).2 hq), fun hq => (A.repd i hi).2 (fun hp => hq ((h i hi).1 hp))⟩, A.gate⟩⟩

/-! ### the look at the first message of a channel -/
/-- The first message is taken out of the channel e. -/
def popped (N : Net) (e : Nat) (g : Gate) (r : Nat) (rest : List Msg) : Net := { N with gate := upd N.gate r g, chan := upd N.chan e rest }

theorem str_popped {e : Nat} {g : Gate} {r : Nat} {m : Msg} {rest : List Msg} (hc : N.chan e = m :: rest) : str E N e = m :: str E (popped N e g r rest) e := by
  unfold str popped
  simp only [upd_same, hc, List.cons_append]
theorem str_popped_other {e e' : Nat} {g : Gate} {r : Nat} {rest : List Msg} (h : e' ≠ e) : str E (popped N e g r rest) e' = str E N e' := by
  unfold str popped
  simp only [upd_ne _ _ h]
theorem noBar_cons (m : Msg) (l : List Msg) : noBar (m :: l) = (!m.bar && noBar l) := rfl

theorem upd_self {α : Type} (f : Nat → α) (k : Nat) : upd f k (f k) = f := by
  funext j
  unfold upd
  split
  · rename_i h; rw [h]
  · rfl

/-- What a gate says of a mark: it stays as it is. -/
theorem arrive_mark {g : Gate} {i n κ : Nat} : (g.arrive i ⟨false, n⟩ κ) = (g, if g.busy = true ∧ g.kind ≠ 1 ∧ i ∈ g.came then 0 else if g.busy = true ∧ g.kind = 1 ∧ i ∉ g.came then 2 else 1) := by
  unfold Gate.arrive
  by_cases h1 : g.busy = true ∧ g.kind ≠ 1 ∧ i ∈ g.came
  · rw [if_pos h1, if_pos h1]
  · rw [if_neg h1, if_neg h1]
    by_cases h2 : g.busy = true ∧ g.kind = 1 ∧ i ∉ g.came
    · rw [if_pos ⟨rfl, h2⟩, if_pos h2]
    · rw [if_neg (fun h => h2 h.2), if_neg h2, if_pos rfl]

/-- A mark is heard. -/
theorem inv_hear (W : WF E nI) (I : Inv E nI N (fun _ => False)) {e : Nat} (he : e < E.length) {n : Nat} {rest : List Msg} (hc : N.chan e = ⟨false, n⟩ :: rest) {a : Int}
    (ha : ((N.gate (tt E e)).arrive (inb E e) ⟨false, n⟩ N.kind).2 = a) (h12 : a ≠ 0) : Inv E nI (hear E (popped N e (N.gate (tt E e)) (tt E e) rest) e ⟨false, n⟩ a) (fun _ => False) := by
  rw [arrive_mark] at ha
  simp only at ha
  have hn2 : n ≤ 2 := by
    have := I.crng e he ⟨false, n⟩ (by rw [hc]; simp)
    simpa [okm] using this
  have hst := str_popped (E := E) (g := N.gate (tt E e)) (r := tt E e) hc
  have hso : ∀ e', e' ≠ e → str E (popped N e (N.gate (tt E e)) (tt E e) rest) e' = str E N e' := fun e' h => str_popped_other h
  have hg : (popped N e (N.gate (tt E e)) (tt E e) rest).gate = N.gate := upd_self _ _
  generalize hM : popped N e (N.gate (tt E e)) (tt E e) rest = M at *
  have hMr : M.rep = N.rep := by rw [← hM]; rfl
  have hMb : M.box = N.box := by rw [← hM]; rfl
  have hMn : M.num = N.num := by rw [← hM]; rfl
  have hMk : M.kind = N.kind := by rw [← hM]; rfl
  have hMm : M.made = N.made := by rw [← hM]; rfl
  have hMx : M.boxed = N.boxed := by rw [← hM]; rfl
  have hMh : M.handled = N.handled := by rw [← hM]; rfl
  have hMf : M.flying = N.flying := by rw [← hM]; rfl
  have hMc : M.chan = upd N.chan e rest := by rw [← hM]; rfl
  -- the state before what is produced
  have key : ∀ (H F : Nat → List Nat), (0 < N.num → ∀ k, k ≠ e → H k = N.handled k ∧ F k = N.flying k) → (N.num = 0 → F = N.flying) →
      (0 < N.num → (passed E N e → H e = N.handled e ∧ F e = N.flying e) ∧ (¬ passed E N e → H e ++ F e = N.handled e ++ N.flying e ++ [n] ∧ (N.kind = 0 → F e = []) ∧ (N.rep (tt E e) = false → F e = []))) →
      Inv E nI { M with handled := H, flying := F } (fun _ => False) := by
    intro H F h1 h2 h3
    have hsx : ∀ e', str E { M with handled := H, flying := F } e' = str E M e' := fun _ => rfl
    have hnb : ∀ e', noBar (str E M e') = noBar (str E N e') := fun e' => by
      by_cases h : e' = e
      · subst h; rw [hst, noBar_cons]; simp
      · rw [hso e' h]
    have hp : ∀ e', (passed E { M with handled := H, flying := F } e' ↔ passed E N e') := fun e' => by
      unfold passed
      rw [hsx, hnb e']
      show M.rep _ = true ∧ _ ↔ _
      rw [hMr]
    refine ⟨?_, ?_, ?_, ?_, ?_, ?_, ?_⟩
    · intro e' he'
      show (M.chan e').length ≤ 4
      rw [hMc]
      by_cases h : e' = e
      · subst h
        have := I.cap e' he'
        rw [hc] at this
        rw [upd_same]
        simp at this
        omega
      · rw [upd_ne _ _ h]; exact I.cap e' he'
    · intro e' he' m hm
      have hm' : m ∈ M.chan e' := hm
      have hok : okm N m := by
        rw [hMc] at hm'
        by_cases h : e' = e
        · subst h
          rw [upd_same] at hm'
          exact I.crng e' he' m (by rw [hc]; exact List.mem_cons_of_mem _ hm')
        · rw [upd_ne _ _ h] at hm'; exact I.crng e' he' m hm'
      unfold okm at hok ⊢
      show if m.bar = true then m.n = M.num ∧ 1 ≤ M.num else m.n ≤ 2
      rw [hMn]; exact hok
    · intro i hi y hy
      have hy' : y ∈ M.box i := hy
      rw [hMb] at hy'
      obtain ⟨a1, a2, a3⟩ := I.brng i hi y hy'
      refine ⟨a1, a2, ?_⟩
      unfold okm at a3 ⊢
      show if y.2.bar = true then y.2.n = M.num ∧ 1 ≤ M.num else y.2.n ≤ 2
      rw [hMn]; exact a3
    · show M.kind ≤ 1
      rw [hMk]; exact I.kind
    · show ∀ i, i < nI → (M.gate i).chs = _
      rw [hg]; exact I.chs
    · intro h0
      have h0' : N.num = 0 := by rw [← hMn]; exact h0
      obtain ⟨a1, a2⟩ := I.idle h0'
      refine ⟨fun e' he' => ?_, fun i hi => ?_⟩
      · rw [hsx, hnb e']
        refine ⟨(a1 e' he').1, ?_, ?_⟩
        · show M.boxed e' = []
          rw [hMx]; exact (a1 e' he').2.1
        · show F e' = []
          rw [h2 h0']; exact (a1 e' he').2.2
      · show (M.gate i).num = 0 ∧ (M.gate i).came = [] ∧ M.rep i = false
        rw [hg, hMr]; exact a2 i hi
    · intro h0
      have h0' : 0 < N.num := by rw [← hMn]; exact h0
      have A := I.act h0'
      obtain ⟨h3a, h3b⟩ := h3 h0'
      refine ⟨?_, ?_, ?_, ?_, ?_, ?_, ?_, ?_⟩
      · intro e' he' hr
        rw [hsx, hnb e']
        exact A.unrep e' he' (by rw [← hMr]; exact hr)
      · intro e' he' hr
        rw [hsx, hnb e']
        show _ ∨ ∃ x y, str E M e' = x ++ ⟨true, M.num⟩ :: y ∧ _
        rw [hMn]
        rcases A.one e' he' (by rw [← hMr]; exact hr) with h | ⟨x, y, b1, b2, b3⟩
        · exact .inl h
        · right
          by_cases h : e' = e
          · subst h
            rw [hst] at b1
            cases x with
            | nil => simp at b1
            | cons z x =>
              simp only [List.cons_append, List.cons.injEq] at b1
              rw [noBar_cons, Bool.and_eq_true] at b2
              exact ⟨x, y, b1.2, b2.2, b3⟩
          · rw [hso e' h]; exact ⟨x, y, b1, b2, b3⟩
      · intro e' he'
        have hcut := A.cut e' he'
        show M.made e' = H e' ++ F e' ++ pre E { M with handled := H, flying := F } e' ++ M.boxed e'
        have hm1 : M.made e' = N.made e' := by rw [hMm]
        have hx1 : M.boxed e' = N.boxed e' := by rw [hMx]
        rw [hm1, hx1, hcut]
        have hpre : ∀ q, passed E N q → pre E { M with handled := H, flying := F } q = [] := fun q hq => by unfold pre; rw [if_pos ((hp q).2 hq)]
        by_cases h : e' = e
        · subst h
          by_cases hpa : passed E N e'
          · obtain ⟨c1, c2⟩ := h3a hpa
            rw [c1, c2, hpre _ hpa]
            unfold pre
            rw [if_pos hpa]
          · obtain ⟨c1, _⟩ := h3b hpa
            rw [c1]
            have q1 : pre E N e' = n :: nums ((str E M e').takeWhile fun m => !m.bar) := by
              unfold pre
              rw [if_neg hpa, hst]
              rfl
            have q2 : pre E { M with handled := H, flying := F } e' = nums ((str E M e').takeWhile fun m => !m.bar) := by
              unfold pre
              rw [if_neg (fun h => hpa ((hp e').1 h)), hsx]
            rw [q1, q2]
            simp [List.append_assoc]
        · obtain ⟨c1, c2⟩ := h1 h0' e' h
          rw [c1, c2]
          have q : pre E { M with handled := H, flying := F } e' = pre E N e' := by
            unfold pre
            by_cases hpa : passed E N e'
            · rw [if_pos hpa, if_pos ((hp e').2 hpa)]
            · rw [if_neg hpa, if_neg (fun h => hpa ((hp e').1 h)), hsx, hso e' h]
          rw [q]
      · intro e' he' hk
        have hk' : N.kind = 0 := by rw [← hMk]; exact hk
        obtain ⟨b1, b2⟩ := A.al e' he' hk'
        show F e' = [] ∧ M.boxed e' = []
        rw [hMx]
        refine ⟨?_, b2⟩
        by_cases h : e' = e
        · subst h
          by_cases hpa : passed E N e'
          · rw [(h3a hpa).2]; exact b1
          · exact (h3b hpa).2.1 hk'
        · rw [(h1 h0' e' h).2]; exact b1
      · intro e' he' hr
        show M.boxed e' = []
        rw [hMx]
        exact A.bx e' he' (by rw [← hMr]; exact hr)
      · intro e' he' hr
        have hr' : N.rep (tt E e') = false := by rw [← hMr]; exact hr
        show F e' = []
        by_cases h : e' = e
        · subst h
          by_cases hpa : passed E N e'
          · rw [(h3a hpa).2]; exact A.fl e' he' hr'
          · exact (h3b hpa).2.2 hr'
        · rw [(h1 h0' e' h).2]; exact A.fl e' he' hr'
      · intro i hi
        refine ⟨fun h => h.elim, fun h => ?_⟩
        show repOk E { M with handled := H, flying := F } i (M.rep i)
        have hm1 : M.rep i = N.rep i := by rw [hMr]
        rw [hm1]
        exact repOk_congr (fun e' _ _ => hp e') hMk ((A.repd i hi).2 h)
      · intro i hi
        show gateOk E { M with handled := H, flying := F } i (M.gate i)
        have hm1 : M.gate i = N.gate i := by rw [hg]
        rw [hm1]
        exact gateOk_congr (fun e' _ _ => hp e') hMn hMk (A.gate i hi)
  -- which of the three it is
  have hsrc : ¬ source E (tt E e) = true := fun h => source_iff.1 h e he rfl
  have hin := W.le e he
  have hwho : 0 < N.num → (passed E N e → N.rep (tt E e) = true ∧ a = 1) ∧ (¬ passed E N e → (N.rep (tt E e) = false ∧ a = 1) ∨ (N.rep (tt E e) = true ∧ a = 2 ∧ N.kind ≠ 0)) := by
    intro h0
    have A := I.act h0
    obtain ⟨g1, g2, g3, g4⟩ := A.gate (tt E e) hin
    have hr := (A.repd (tt E e) hin).2 (fun h => h)
    unfold repOk at hr
    constructor
    · intro hpa
      by_cases hall : ∀ k, k < E.length → tt E k = tt E e → passed E N k
      · rw [if_pos hall] at g4
        have hb : (N.gate (tt E e)).busy = false := by simp [Gate.busy, g4.1]
        simp only [hb, Bool.false_eq_true, false_and, if_false] at ha
        refine ⟨?_, ha.symm⟩
        by_cases hk : N.kind = 0
        · rw [if_pos hk] at hr; exact hr.2 hall
        · rw [if_neg hk] at hr; exact hr.2 (.inr ⟨e, he, rfl, hpa⟩)
      · rw [if_neg hall] at g4
        have hmem := (g4.1 e he rfl).2 hpa
        have hne : (N.gate (tt E e)).came ≠ [] := fun h => by rw [h] at hmem; cases hmem
        rw [if_neg hne] at g4
        have hb : (N.gate (tt E e)).busy = true := by simp [Gate.busy, g4.2.1, h0]
        by_cases hk : N.kind = 1
        · have hk1 : (N.gate (tt E e)).kind = 1 := by rw [g4.2.2, hk]
          simp only [hb, hk1, hmem, ne_eq, not_true_eq_false, false_and, and_false, if_false] at ha
          refine ⟨?_, ha.symm⟩
          rw [if_neg (by omega)] at hr
          exact hr.2 (.inr ⟨e, he, rfl, hpa⟩)
        · have hk1 : (N.gate (tt E e)).kind ≠ 1 := by rw [g4.2.2]; exact hk
          rw [if_pos ⟨hb, hk1, hmem⟩] at ha
          exact absurd ha.symm h12
    · intro hnp
      have hall : ¬ ∀ k, k < E.length → tt E k = tt E e → passed E N k := fun h => hnp (h e he rfl)
      rw [if_neg hall] at g4
      have hmem : inb E e ∉ (N.gate (tt E e)).came := fun h => hnp ((g4.1 e he rfl).1 h)
      rw [if_neg (fun h => hmem h.2.2)] at ha
      by_cases hk : N.kind = 0
      · left
        rw [if_pos hk] at hr
        refine ⟨?_, ?_⟩
        · cases hq : N.rep (tt E e) with
          | false => rfl
          | true => exact absurd (hr.1 hq) hall
        · have : ¬ ((N.gate (tt E e)).busy = true ∧ (N.gate (tt E e)).kind = 1 ∧ inb E e ∉ (N.gate (tt E e)).came) := fun ⟨b1, b2, _⟩ => by
            by_cases hcm : (N.gate (tt E e)).came = []
            · rw [if_pos hcm] at g4
              simp [Gate.busy, g4.2] at b1
            · rw [if_neg hcm] at g4
              rw [g4.2.2] at b2
              omega
          rw [if_neg this] at ha
          exact ha.symm
      · rw [if_neg hk] at hr
        by_cases hcm : (N.gate (tt E e)).came = []
        · left
          rw [if_pos hcm] at g4
          have hb : (N.gate (tt E e)).busy = false := by simp [Gate.busy, g4.2]
          simp only [hb, Bool.false_eq_true, false_and, if_false] at ha
          refine ⟨?_, ha.symm⟩
          cases hq : N.rep (tt E e) with
          | false => rfl
          | true =>
            rcases hr.1 hq with h | ⟨k, hk1, hk2, hk3⟩
            · exact absurd h hsrc
            · have := (g4.1 k hk1 hk2).2 hk3
              rw [hcm] at this
              cases this
        · right
          rw [if_neg hcm] at g4
          have hb : (N.gate (tt E e)).busy = true := by simp [Gate.busy, g4.2.1, h0]
          have hk1 : (N.gate (tt E e)).kind = 1 := by rw [g4.2.2]; have := I.kind; omega
          rw [if_pos ⟨hb, hk1, hmem⟩] at ha
          refine ⟨?_, ha.symm, hk⟩
          obtain ⟨x, xs, hx⟩ := List.exists_cons_of_ne_nil hcm
          have hxm : x ∈ (N.gate (tt E e)).came := by rw [hx]; simp
          have hxl := g3 x hxm
          rw [g1] at hxl
          obtain ⟨k, q1, q2, q3⟩ := inb_onto hxl
          exact hr.2 (.inr ⟨k, q1, q2, (g4.1 k q1 q2).1 (by rw [q3]; exact hxm)⟩)
  have hidle : N.num = 0 → a = 1 := by
    intro h0
    obtain ⟨_, b2⟩ := I.idle h0
    have hb : (N.gate (tt E e)).busy = false := by simp [Gate.busy, (b2 _ hin).1]
    simp only [hb, Bool.false_eq_true, false_and, if_false] at ha
    exact ha.symm
  -- the two steps ahead of what is produced, in one
  have hN4 : ∃ H F, Inv E nI { M with handled := H, flying := F } (fun _ => False) ∧ hear E M e ⟨false, n⟩ a = if 0 < n then produce E { M with handled := H, flying := F } (tt E e) ⟨false, n - 1⟩ else { M with handled := H, flying := F } := by
    refine ⟨if M.rep (tt E e) = true then M.handled else upd M.handled e (M.handled e ++ [n]), if a = 2 then upd M.flying e (M.flying e ++ [n]) else M.flying, key _ _ ?_ ?_ ?_, ?_⟩
    · intro _ k hk
      rw [hMh, hMf]
      constructor
      · split
        · rfl
        · exact upd_ne _ _ hk
      · split
        · exact upd_ne _ _ hk
        · rfl
    · intro h0
      have h2 : ¬ a = 2 := by have := hidle h0; omega
      rw [if_neg h2, hMf]
    · intro h0
      obtain ⟨w1, w2⟩ := hwho h0
      rw [hMr, hMh, hMf]
      constructor
      · intro hpa
        obtain ⟨r1, r2⟩ := w1 hpa
        have h2 : ¬ a = 2 := by omega
        rw [if_pos r1, if_neg h2]
        exact ⟨rfl, rfl⟩
      · intro hnp
        rcases w2 hnp with ⟨r1, r2⟩ | ⟨r1, r2, r3⟩
        · have h2 : ¬ a = 2 := by omega
          have hf := (I.act h0).fl e he r1
          rw [r1, if_neg h2, hf]
          refine ⟨by simp [upd_same], fun _ => rfl, fun _ => rfl⟩
        · rw [if_pos r1, if_pos r2, upd_same]
          exact ⟨by rw [List.append_assoc], fun h => absurd h r3, fun h => by rw [r1] at h; cases h⟩
    · unfold hear
      simp only
      by_cases q1 : M.rep (tt E e) = true <;> by_cases q2 : a = 2 <;> simp [q1, q2]
  obtain ⟨H, F, hI, heq⟩ := hN4
  rw [heq]
  split
  · exact inv_produce hI hin (by omega)
  · exact hI
end
end Go.Ck
