/-
  CheckpointCut, the plain side: a barrier is heard; the look at a channel keeps the invariant; a whole checkpoint is consistent; a checkpoint begins.
-/
import Derived.Test.YtacklfjpbboijaaCkRep
namespace Go.Ck
section
variable {E : Edges} {nI : Nat} {N : Net} {P : Nat → Prop}

theorem split_bar {x y : List Msg} {m : Nat} {b : Msg} {l : List Msg} (hb : b.bar = true) (h : b :: l = x ++ ⟨true, m⟩ :: y) (hx : noBar x = true) : b = ⟨true, m⟩ ∧ l = y := by
  cases x with
  | nil => simpa using h
  | cons z x =>
    simp only [List.cons_append, List.cons.injEq] at h
    rw [noBar_cons, Bool.and_eq_true, ← h.1, hb] at hx
    simp at hx

/-- A barrier is heard: who has to report then. -/
theorem inv_bar (W : WF E nI) (I : Inv E nI N (fun _ => False)) {e : Nat} (he : e < E.length) {n : Nat} {rest : List Msg} (hc : N.chan e = ⟨true, n⟩ :: rest) {g : Gate} {a : Int}
    (ha : (N.gate (tt E e)).arrive (inb E e) ⟨true, n⟩ N.kind = (g, a)) :
    0 < N.num ∧ N.rep (fr E e) = true ∧ (a = 3 ∨ a = 4) ∧ Inv E nI (popped N e g (tt E e) rest) (fun k => a = 4 ∧ k = tt E e) := by
  have hn := I.crng e he ⟨true, n⟩ (by rw [hc]; simp)
  unfold okm at hn
  simp only [if_true] at hn
  obtain ⟨rfl, h0⟩ := hn
  have h0' : 0 < N.num := h0
  have A := I.act h0'
  have hin := W.le e he
  have hst := str_popped (E := E) (g := g) (r := tt E e) hc
  have hso : ∀ e', e' ≠ e → str E (popped N e g (tt E e) rest) e' = str E N e' := fun e' h => str_popped_other h
  have hnb : noBar (str E N e) = false := by rw [hst, noBar_cons]; rfl
  have hrs : N.rep (fr E e) = true := by
    cases hq : N.rep (fr E e) with
    | true => rfl
    | false => rw [A.unrep e he hq] at hnb; cases hnb
  have hnp : ¬ passed E N e := fun h => by rw [h.2] at hnb; cases hnb
  have htail : noBar (str E (popped N e g (tt E e) rest) e) = true := by
    rcases A.one e he hrs with h | ⟨x, y, h1, h2, h3⟩
    · rw [h] at hnb; cases hnb
    · rw [hst] at h1
      rw [(split_bar rfl h1 h2).2]
      exact h3
  obtain ⟨g1, g2, g3, g4⟩ := A.gate (tt E e) hin
  have hr := (A.repd (tt E e) hin).2 (fun h => h)
  have hall : ¬ ∀ k, k < E.length → tt E k = tt E e → passed E N k := fun h => hnp (h e he rfl)
  rw [if_neg hall] at g4
  have hmem : inb E e ∉ (N.gate (tt E e)).came := fun h => hnp ((g4.1 e he rfl).1 h)
  have hput : (N.gate (tt E e)).put (inb E e) = (N.gate (tt E e)).came ++ [inb E e] := by unfold Gate.put; rw [if_neg hmem]
  -- what has passed then
  have hp : ∀ k, passed E (popped N e g (tt E e) rest) k ↔ (passed E N k ∨ k = e) := fun k => by
    by_cases h : k = e
    · subst h
      exact ⟨fun _ => .inr rfl, fun _ => ⟨hrs, htail⟩⟩
    · have : passed E (popped N e g (tt E e) rest) k ↔ passed E N k := passed_congr rfl (hso k h)
      rw [this]
      exact ⟨.inl, fun h' => h'.resolve_right h⟩
  -- when the gate is full
  have hputn : ((N.gate (tt E e)).came ++ [inb E e]).Nodup := by
    rw [List.nodup_append]
    refine ⟨g2, by simp, ?_⟩
    intro x hx y hy hxy
    rw [List.mem_singleton.1 hy] at hxy
    exact hmem (hxy ▸ hx)
  have hputlt : ∀ x ∈ (N.gate (tt E e)).came ++ [inb E e], x < (N.gate (tt E e)).chs := fun x hx => by
    rcases List.mem_append.1 hx with hx | hx
    · exact g3 x hx
    · rw [List.mem_singleton.1 hx, g1]; exact inb_lt he
  have hfull : (N.gate (tt E e)).full (inb E e) = true ↔ ∀ k, k < E.length → tt E k = tt E e → passed E (popped N e g (tt E e) rest) k := by
    unfold Gate.full
    rw [decide_eq_true_iff, hput, (nodup_full _ _ hputn hputlt).2]
    constructor
    · intro h k hk ht
      rw [hp]
      have h1 := h (inb E k) (by rw [g1, ← ht]; exact inb_lt hk)
      rcases List.mem_append.1 h1 with h1 | h1
      · exact .inl ((g4.1 k hk ht).1 h1)
      · exact .inr (inb_inj hk he ht (List.mem_singleton.1 h1))
    · intro h x hx
      rw [g1] at hx
      obtain ⟨k, q1, q2, q3⟩ := inb_onto hx
      rcases (hp k).1 (h k q1 q2) with h1 | h1
      · exact List.mem_append.2 (.inl (q3 ▸ (g4.1 k q1 q2).2 h1))
      · exact List.mem_append.2 (.inr (by rw [← q3, h1]; simp))
  have hbusy : (N.gate (tt E e)).busy = true ↔ (N.gate (tt E e)).came ≠ [] := by
    by_cases hcm : (N.gate (tt E e)).came = []
    · rw [if_pos hcm] at g4
      simp [Gate.busy, g4.2, hcm]
    · rw [if_neg hcm] at g4
      simp [Gate.busy, g4.2.1, hcm, h0']
  -- what the gate does
  have harr : (N.gate (tt E e)).arrive (inb E e) ⟨true, N.num⟩ N.kind = (N.gate (tt E e)).barrier (inb E e) N.num N.kind := by
    unfold Gate.arrive
    rw [if_neg (fun h => hmem h.2.2), if_neg (by simp), if_neg (by simp), if_neg]
    rintro (h | ⟨h1, h2⟩)
    · simp only at h; omega
    · have hcm := hbusy.1 h1
      rw [if_neg hcm] at g4
      rcases h2 with h2 | h2 | h2
      · exact h2 g4.2.1.symm
      · exact h2 g4.2.2.symm
      · exact hmem h2
  rw [harr] at ha
  unfold Gate.barrier at ha
  rw [Prod.mk.injEq] at ha
  obtain ⟨hg, ha⟩ := ha
  -- the new gate
  have hgok : gateOk E (popped N e g (tt E e) rest) (tt E e) g := by
    by_cases hf : (N.gate (tt E e)).full (inb E e) = true
    · rw [if_pos hf] at hg
      subst hg
      refine ⟨g1, by simp, by simp, ?_⟩
      rw [if_pos (hfull.1 hf)]
      exact ⟨rfl, rfl⟩
    · rw [if_neg hf, hput] at hg
      subst hg
      refine ⟨g1, hputn, hputlt, ?_⟩
      rw [if_neg (fun h => hf (hfull.2 h))]
      refine ⟨fun k hk ht => ?_, ?_⟩
      · rw [hp]
        constructor
        · intro h1
          rcases List.mem_append.1 h1 with h1 | h1
          · exact .inl ((g4.1 k hk ht).1 h1)
          · exact .inr (inb_inj hk he ht (List.mem_singleton.1 h1))
        · rintro (h1 | h1)
          · exact List.mem_append.2 (.inl ((g4.1 k hk ht).2 h1))
          · exact List.mem_append.2 (.inr (by rw [h1]; simp))
      · rw [if_neg (by simp)]
        exact ⟨rfl, rfl⟩
  have hk01 := I.kind
  -- who reports
  have hrep : (a = 4 → N.rep (tt E e) = false ∧ repOk E (popped N e g (tt E e) rest) (tt E e) true) ∧ (a ≠ 4 → repOk E (popped N e g (tt E e) rest) (tt E e) (N.rep (tt E e))) := by
    unfold repOk at hr ⊢
    have hkind : (popped N e g (tt E e) rest).kind = N.kind := rfl
    rw [hkind]
    by_cases hk : N.kind = 0
    · rw [if_pos hk] at hr ⊢
      have hrf : N.rep (tt E e) = false := by
        cases hq : N.rep (tt E e) with
        | false => rfl
        | true => exact absurd (hr.1 hq) hall
      constructor
      · intro h4
        refine ⟨hrf, ⟨fun _ => ?_, fun _ => rfl⟩⟩
        rw [h4] at ha
        by_cases hf : (N.gate (tt E e)).full (inb E e) = true
        · exact hfull.1 hf
        · rw [if_neg (by rintro (⟨_, h⟩ | ⟨h, _⟩); exact hf h; omega)] at ha
          omega
      · intro h4
        rw [hrf]
        refine ⟨(by intro h; cases h), fun h => ?_⟩
        rw [if_pos (.inl ⟨hk, hfull.2 h⟩)] at ha
        exact absurd ha.symm h4
    · rw [if_neg hk] at hr ⊢
      have hk1 : N.kind = 1 := by omega
      have hsrc : ¬ source E (tt E e) = true := fun h => source_iff.1 h e he rfl
      have hex : ∃ k, k < E.length ∧ tt E k = tt E e ∧ passed E (popped N e g (tt E e) rest) k := ⟨e, he, rfl, (hp e).2 (.inr rfl)⟩
      constructor
      · intro h4
        refine ⟨?_, ⟨fun _ => .inr hex, fun _ => rfl⟩⟩
        rw [h4] at ha
        have hnb' : (N.gate (tt E e)).busy = false := by
          cases hq : (N.gate (tt E e)).busy with
          | false => rfl
          | true =>
            rw [if_neg (by rintro (⟨h, _⟩ | ⟨_, h⟩); omega; rw [hq] at h; cases h)] at ha
            omega
        have hcm : (N.gate (tt E e)).came = [] := by
          cases hq : (N.gate (tt E e)).came with
          | nil => rfl
          | cons z zs =>
            have := hbusy.2 (by rw [hq]; simp)
            rw [hnb'] at this; cases this
        cases hq : N.rep (tt E e) with
        | false => rfl
        | true =>
          rcases hr.1 hq with h | ⟨k, q1, q2, q3⟩
          · exact absurd h hsrc
          · have := (g4.1 k q1 q2).2 q3
            rw [hcm] at this; cases this
      · intro h4
        refine ⟨fun _ => .inr hex, fun _ => ?_⟩
        have hb : (N.gate (tt E e)).busy = true := by
          cases hq : (N.gate (tt E e)).busy with
          | true => rfl
          | false =>
            rw [if_pos (.inr ⟨hk1, hq⟩)] at ha
            exact absurd ha.symm h4
        obtain ⟨x, xs, hx⟩ := List.exists_cons_of_ne_nil (hbusy.1 hb)
        have hxm : x ∈ (N.gate (tt E e)).came := by rw [hx]; simp
        have hxl := g3 x hxm
        rw [g1] at hxl
        obtain ⟨k, q1, q2, q3⟩ := inb_onto hxl
        exact hr.2 (.inr ⟨k, q1, q2, (g4.1 k q1 q2).1 (by rw [q3]; exact hxm)⟩)
  have ha34 : a = 3 ∨ a = 4 := by
    rw [← ha]
    split
    · exact .inr rfl
    · exact .inl rfl
  refine ⟨h0', hrs, ha34, ?_⟩
  refine ⟨?_, ?_, I.brng, I.kind, ?_, fun h => by have h' : N.num = 0 := h; omega, fun _ => ?_⟩
  · intro k hk
    show (upd N.chan e rest k).length ≤ 4
    by_cases h : k = e
    · subst h
      have := I.cap k hk
      rw [hc] at this
      rw [upd_same]
      simp at this
      omega
    · rw [upd_ne _ _ h]; exact I.cap k hk
  · intro k hk m hm
    have hm' : m ∈ upd N.chan e rest k := hm
    show okm N m
    by_cases h : k = e
    · subst h
      rw [upd_same] at hm'
      exact I.crng k hk m (by rw [hc]; exact List.mem_cons_of_mem _ hm')
    · rw [upd_ne _ _ h] at hm'; exact I.crng k hk m hm'
  · intro i hi
    show (upd N.gate (tt E e) g i).chs = _
    by_cases h : i = tt E e
    · subst h; rw [upd_same]; exact hgok.1
    · rw [upd_ne _ _ h]; exact I.chs i hi
  · refine ⟨?_, ?_, ?_, A.al, A.bx, A.fl, ?_, ?_⟩
    · intro k hk hrk
      by_cases h : k = e
      · subst h
        exact htail
      · rw [hso k h]; exact A.unrep k hk hrk
    · intro k hk hrk
      by_cases h : k = e
      · subst h
        exact .inl htail
      · rw [hso k h]; exact A.one k hk hrk
    · intro k hk
      have hcut := A.cut k hk
      show N.made k = N.handled k ++ N.flying k ++ pre E (popped N e g (tt E e) rest) k ++ N.boxed k
      rw [hcut]
      by_cases h : k = e
      · subst h
        have q1 : pre E N k = [] := by
          unfold pre
          rw [if_neg hnp, hst]
          rfl
        have q2 : pre E (popped N k g (tt E k) rest) k = [] := by
          unfold pre
          rw [if_pos ((hp k).2 (.inr rfl))]
        rw [q1, q2]
      · have hpk : passed E (popped N e g (tt E e) rest) k ↔ passed E N k := passed_congr rfl (hso k h)
        have q : pre E (popped N e g (tt E e) rest) k = pre E N k := pre_congr rfl (hso k h)
        rw [q]
    · intro i hi
      by_cases h : i = tt E e
      · subst h
        exact ⟨fun h' => hrep.1 h'.1, fun h' => hrep.2 (fun h4 => h' ⟨h4, rfl⟩)⟩
      · refine ⟨fun h' => absurd h'.2 h, fun _ => ?_⟩
        refine repOk_congr (N := N) (N' := popped N e g (tt E e) rest) (fun k _ ht => ?_) rfl ((A.repd i hi).2 (fun h => h))
        rw [hp]
        exact ⟨fun h' => h'.resolve_right (fun hke => h (by rw [← ht, hke])), .inl⟩
    · intro i hi
      show gateOk E _ i (upd N.gate (tt E e) g i)
      by_cases h : i = tt E e
      · subst h; rw [upd_same]; exact hgok
      · rw [upd_ne _ _ h]
        refine gateOk_congr (N := N) (N' := popped N e g (tt E e) rest) (fun k _ ht => ?_) rfl rfl (A.gate i hi)
        rw [hp]
        exact ⟨fun h' => h'.resolve_right (fun hke => h (by rw [← ht, hke])), .inl⟩

/-- The look at a channel: never a wrong action; the invariant stands; and what there was to do. -/
theorem inv_take (W : WF E nI) (I : Inv E nI N (fun _ => False)) {e : Nat} (he : e < E.length) : (take E N e).2.2 = true ∧ Inv E nI (take E N e).1 (fun _ => False) := by
  unfold take
  split
  · exact ⟨rfl, I⟩
  · rename_i m rest hc
    split
    · exact ⟨rfl, I⟩
    · obtain ⟨b, n⟩ := m
      cases b with
      | false =>
        obtain ⟨a, ha, ha2⟩ : ∃ a, (N.gate (tt E e)).arrive (inb E e) ⟨false, n⟩ N.kind = (N.gate (tt E e), a) ∧ (a = 0 ∨ a = 1 ∨ a = 2) := by
          refine ⟨_, arrive_mark, ?_⟩
          split
          · exact .inl rfl
          · split
            · exact .inr (.inr rfl)
            · exact .inr (.inl rfl)
        rw [ha]
        simp only
        split
        · exact ⟨rfl, I⟩
        · rename_i h0
          rw [if_neg (by omega), if_pos (by omega)]
          exact ⟨rfl, inv_hear W I he hc (a := a) (by rw [ha]) h0⟩
      | true =>
        obtain ⟨h0, hrs, ha, hI⟩ := inv_bar W I he hc (g := ((N.gate (tt E e)).arrive (inb E e) ⟨true, n⟩ N.kind).1) (a := ((N.gate (tt E e)).arrive (inb E e) ⟨true, n⟩ N.kind).2) rfl
        generalize (N.gate (tt E e)).arrive (inb E e) ⟨true, n⟩ N.kind = ga at *
        obtain ⟨g, a⟩ := ga
        simp only at ha hI ⊢
        rw [if_neg (by omega), if_neg (by omega), if_neg (by omega)]
        split
        · rename_i h4
          refine ⟨rfl, ?_⟩
          have := inv_report hI (N := popped N e g (tt E e) rest) h0 (W.le e he) ⟨h4, rfl⟩
          exact inv_weaken this fun k _ => ⟨fun h => h.2 h.1.2, fun h => h.elim⟩
        · rename_i h4
          refine ⟨rfl, ?_⟩
          exact inv_weaken hI fun k _ => ⟨fun h => h4 h.1, fun h => h.elim⟩

/-! ### a whole checkpoint -/
theorem noBar_str (W : WF E nI) (h : whole E nI N = true) : ∀ e, e < E.length → noBar (str E N e) = true := by
  unfold whole at h
  simp only [Bool.and_eq_true, List.all_eq_true, List.mem_range] at h
  intro e he
  unfold str
  rw [noBar_append, Bool.and_eq_true]
  exact ⟨h.2 e he, noBar_forE (h.1 (fr E e) (fr_lt W he)).2 e⟩
theorem whole_rep (h : whole E nI N = true) : ∀ i, i < nI → N.rep i = true := by
  unfold whole at h
  simp only [Bool.and_eq_true, List.all_eq_true, List.mem_range] at h
  exact fun i hi => (h.1 i hi).1.1
theorem whole_passed (W : WF E nI) (h : whole E nI N = true) : ∀ e, e < E.length → passed E N e :=
  fun e he => ⟨whole_rep h _ (fr_lt W he), noBar_str W h e he⟩

theorem whole_consistent (W : WF E nI) (I : Inv E nI N P) (h0 : 0 < N.num) (h : whole E nI N = true) : consistent E N = true := by
  have A := I.act h0
  unfold consistent
  rw [List.all_eq_true]
  intro e he
  rw [List.mem_range] at he
  have hc := A.cut e he
  have hpre : pre E N e = [] := by unfold pre; rw [if_pos (whole_passed W h e he)]
  rw [hpre, List.append_nil] at hc
  unfold consistentAt
  rw [hc]
  simp only [beq_self_eq_true, Bool.true_and, Bool.or_eq_true, Bool.not_eq_true', Bool.and_eq_true]
  by_cases hk : N.kind = 0
  · right
    obtain ⟨h1, h2⟩ := A.al e he hk
    rw [h1, h2]
    exact ⟨rfl, rfl⟩
  · left
    simpa using hk

/-- What is left when it is whole: nothing of it. -/
theorem inv_done (W : WF E nI) (I : Inv E nI N P) (h0 : 0 < N.num) (h : whole E nI N = true) : Inv E nI (clear { N with num := 0 }) (fun _ => False) := by
  have A := I.act h0
  have hp := whole_passed W h
  have hnb := noBar_str W h
  have hokm : ∀ m, m.bar = false → okm N m → okm (clear { N with num := 0 }) m := fun m hb hm => by
    unfold okm at *
    rw [hb] at hm ⊢
    simpa using hm
  refine ⟨I.cap, ?_, ?_, I.kind, I.chs, fun _ => ⟨fun e he => ⟨hnb e he, rfl, rfl⟩, fun i hi => ?_⟩, fun h => by cases h⟩
  · intro e he m hm
    have hb := hnb e he
    unfold str at hb
    rw [noBar_append, Bool.and_eq_true] at hb
    have := List.all_eq_true.1 hb.1 m hm
    exact hokm m (by simpa using this) (I.crng e he m hm)
  · intro i hi y hy
    obtain ⟨h1, h2, h3⟩ := I.brng i hi y hy
    refine ⟨h1, h2, hokm _ ?_ h3⟩
    unfold whole at h
    simp only [Bool.and_eq_true, List.all_eq_true, List.mem_range] at h
    have := (h.1 i hi).2
    unfold noBarI at this
    have := List.all_eq_true.1 this y hy
    simpa using this
  · obtain ⟨_, _, _, g4⟩ := A.gate i hi
    rw [if_pos (fun e he _ => hp e he)] at g4
    exact ⟨g4.1, g4.2, rfl⟩

/-! ### a checkpoint begins -/
theorem inv_started (I : Inv E nI N (fun _ => False)) (h0 : N.num = 0) {number κ : Nat} (hn : 0 < number) (hk : κ ≤ 1) :
    Inv E nI { clear { N with num := number, kind := κ } with made := fun e => if e < E.length then nums (str E N e) else [] } (fun i => source E i = true) := by
  obtain ⟨a1, a2⟩ := I.idle h0
  generalize hM : ({ clear { N with num := number, kind := κ } with made := fun e => if e < E.length then nums (str E N e) else [] } : Net) = M
  have hMs : ∀ e, str E M e = str E N e := fun e => by rw [← hM]; rfl
  have hMr : ∀ i, M.rep i = false := fun i => by rw [← hM]; rfl
  have hMc : M.chan = N.chan := by rw [← hM]; rfl
  have hMb : M.box = N.box := by rw [← hM]; rfl
  have hMg : M.gate = N.gate := by rw [← hM]; rfl
  have hMk : M.kind = κ := by rw [← hM]; rfl
  have hMn : M.num = number := by rw [← hM]; rfl
  have hnp : ∀ e, ¬ passed E M e := fun e h => by have := h.1; rw [hMr] at this; cases this
  have hokm : ∀ m, m.bar = false → okm N m → okm M m := fun m hb hm => by
    unfold okm at *
    rw [hb] at hm ⊢
    simpa using hm
  refine ⟨by rw [hMc]; exact I.cap, ?_, ?_, by rw [hMk]; exact hk, by rw [hMg]; exact I.chs, fun h => by rw [hMn] at h; omega, fun _ => ?_⟩
  · intro e he m hm
    rw [hMc] at hm
    have hb := (a1 e he).1
    unfold str at hb
    rw [noBar_append, Bool.and_eq_true] at hb
    have := List.all_eq_true.1 hb.1 m hm
    exact hokm m (by simpa using this) (I.crng e he m hm)
  · intro i hi y hy
    rw [hMb] at hy
    obtain ⟨h1, h2, h3⟩ := I.brng i hi y hy
    refine ⟨h1, h2, hokm _ ?_ h3⟩
    have hb := (a1 y.1 h1).1
    unfold str at hb
    rw [noBar_append, Bool.and_eq_true] at hb
    have hm : y.2 ∈ forE (N.box (fr E y.1)) y.1 := by
      unfold forE
      rw [h2]
      exact List.mem_map.2 ⟨y, List.mem_filter.2 ⟨hy, by simp⟩, rfl⟩
    have := List.all_eq_true.1 hb.2 _ hm
    simpa using this
  · refine ⟨?_, ?_, ?_, ?_, ?_, ?_, ?_, ?_⟩
    · intro e he _; rw [hMs]; exact (a1 e he).1
    · intro e he h; rw [hMr] at h; cases h
    · intro e he
      have hpre : pre E M e = nums (str E N e) := by
        unfold pre
        rw [if_neg (hnp e), hMs, takeWhile_noBar (a1 e he).1]
      rw [hpre, ← hM]
      simp [clear, he]
    · intro e he _; rw [← hM]; exact ⟨rfl, rfl⟩
    · intro e he _; rw [← hM]; rfl
    · intro e he _; rw [← hM]; rfl
    · intro i hi
      rw [hMr]
      unfold repOk
      rw [hMk]
      constructor
      · intro hs
        refine ⟨rfl, ⟨fun _ => ?_, fun _ => rfl⟩⟩
        split
        · exact fun e he ht => absurd ht (source_iff.1 hs e he)
        · exact .inl hs
      · intro hs
        refine ⟨(by intro h; cases h), fun h => ?_⟩
        split at h
        · have : ∀ e, e < E.length → tt E e ≠ i := fun e he ht => hnp e (h e he ht)
          exact absurd (source_iff.2 this) hs
        · rcases h with h | ⟨e, _, _, h⟩
          · exact absurd h hs
          · exact absurd h (hnp e)
    · intro i hi
      rw [hMg]
      obtain ⟨b1, b2, _⟩ := a2 i hi
      refine ⟨I.chs i hi, by rw [b2]; simp, by rw [b2]; simp, ?_⟩
      split
      · exact ⟨b1, b2⟩
      · refine And.intro (fun e _ _ => ⟨fun h => by rw [b2] at h; simp at h, fun h => absurd h (hnp e)⟩) ?_
        first | exact b1 | (rw [if_pos b2]; exact b1)

theorem inv_reports (I : Inv E nI N (fun i => source E i = true)) (h0 : 0 < N.num) : ∀ n, n ≤ nI → Inv E nI (reports E N n) (fun i => source E i = true ∧ n ≤ i) ∧ 0 < (reports E N n).num := by
  intro n
  induction n with
  | zero => exact fun _ => ⟨inv_weaken I fun k _ => ⟨fun h => ⟨h, Nat.zero_le _⟩, fun h => h.1⟩, h0⟩
  | succ n ih =>
    intro hn
    obtain ⟨i1, i2⟩ := ih (by omega)
    unfold reports
    split
    · rename_i hs
      refine ⟨inv_weaken (inv_report i1 i2 (by omega) ⟨hs, Nat.le_refl _⟩) fun k _ => ?_, by rw [report_num]; exact i2⟩
      exact ⟨fun h => ⟨h.1.1, by omega⟩, fun h => ⟨⟨h.1, by omega⟩, by omega⟩⟩
    · rename_i hs
      refine ⟨inv_weaken i1 fun k _ => ?_, i2⟩
      exact ⟨fun h => ⟨h.1, by have : k ≠ n := fun e => hs (e ▸ h.1); omega⟩, fun h => ⟨h.1, by omega⟩⟩

theorem inv_start (I : Inv E nI N (fun _ => False)) (h0 : N.num = 0) {number κ : Nat} (hn : 0 < number) (hk : κ ≤ 1) : Inv E nI (start E nI N number κ) (fun _ => False) := by
  have h1 := inv_started I h0 hn hk
  have h2 := (inv_reports h1 hn nI (Nat.le_refl _)).1
  exact inv_weaken h2 fun k hk => ⟨fun h => by omega, fun h => h.elim⟩
end
end Go.Ck
