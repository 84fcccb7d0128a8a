/-
  CheckpointCut, the plain side: the invariant of a net, and that it is kept.
-/
import Derived.Test.YtacklfjpbboijaaCkInv
namespace Go.Ck

structure WF (E : Edges) (nI : Nat) : Prop where
  lt : ∀ e, e < E.length → fr E e < tt E e
  le : ∀ e, e < E.length → tt E e < nI

section
variable (E : Edges) (nI : Nat) (N : Net)
/-- The barrier has come out of the channel e. -/
def passed (e : Nat) : Prop := N.rep (fr E e) = true ∧ noBar (str E N e) = true
instance (e : Nat) : Decidable (passed E N e) := by unfold passed; infer_instance
/-- What stands ahead of the barrier. -/
def pre (e : Nat) : List Nat := if passed E N e then [] else nums ((str E N e).takeWhile fun m => !m.bar)
def okm (m : Msg) : Prop := if m.bar = true then m.n = N.num ∧ 1 ≤ N.num else m.n ≤ 2

/-- What a gate knows. -/
def gateOk (i : Nat) (g : Gate) : Prop :=
  g.chs = (ins E i).length ∧ g.came.Nodup ∧ (∀ x ∈ g.came, x < g.chs) ∧
  if ∀ e, e < E.length → tt E e = i → passed E N e then g.num = 0 ∧ g.came = []
  else (∀ e, e < E.length → tt E e = i → (inb E e ∈ g.came ↔ passed E N e)) ∧ (if g.came = [] then g.num = 0 else g.num = N.num ∧ g.kind = N.kind)
def repOk (i : Nat) (r : Bool) : Prop :=
  r = true ↔ if N.kind = 0 then ∀ e, e < E.length → tt E e = i → passed E N e else source E i = true ∨ ∃ e, e < E.length ∧ tt E e = i ∧ passed E N e

/-- While a checkpoint is being made; those in P must still report. -/
structure Act (P : Nat → Prop) : Prop where
  unrep : ∀ e, e < E.length → N.rep (fr E e) = false → noBar (str E N e) = true
  one : ∀ e, e < E.length → N.rep (fr E e) = true → noBar (str E N e) = true ∨ ∃ x y, str E N e = x ++ ⟨true, N.num⟩ :: y ∧ noBar x = true ∧ noBar y = true
  cut : ∀ e, e < E.length → N.made e = N.handled e ++ N.flying e ++ pre E N e ++ N.boxed e
  al : ∀ e, e < E.length → N.kind = 0 → N.flying e = [] ∧ N.boxed e = []
  bx : ∀ e, e < E.length → N.rep (fr E e) = false → N.boxed e = []
  fl : ∀ e, e < E.length → N.rep (tt E e) = false → N.flying e = []
  repd : ∀ i, i < nI → (P i → N.rep i = false ∧ repOk E N i true) ∧ (¬ P i → repOk E N i (N.rep i))
  gate : ∀ i, i < nI → gateOk E N i (N.gate i)

structure Inv (P : Nat → Prop) : Prop where
  cap : ∀ e, e < E.length → (N.chan e).length ≤ 4
  crng : ∀ e, e < E.length → ∀ m ∈ N.chan e, okm N m
  brng : ∀ i, i < nI → ∀ y ∈ N.box i, y.1 < E.length ∧ fr E y.1 = i ∧ okm N y.2
  kind : N.kind ≤ 1
  chs : ∀ i, i < nI → (N.gate i).chs = (ins E i).length
  idle : N.num = 0 → (∀ e, e < E.length → noBar (str E N e) = true ∧ N.boxed e = [] ∧ N.flying e = []) ∧ (∀ i, i < nI → (N.gate i).num = 0 ∧ (N.gate i).came = [] ∧ N.rep i = false)
  act : 0 < N.num → Act E nI N P
end

section
variable {E : Edges} {nI : Nat} {N : Net} {P : Nat → Prop}

theorem nums_append (a b : List Msg) : nums (a ++ b) = nums a ++ nums b := by simp [nums]
theorem takeWhile_noBar {l : List Msg} (h : noBar l = true) : l.takeWhile (fun m => !m.bar) = l := by
  unfold noBar at h
  induction l with
  | nil => rfl
  | cons a l ih =>
    simp only [List.all_cons, Bool.and_eq_true] at h
    rw [List.takeWhile_cons, if_pos h.1, ih h.2]
theorem takeWhile_bar {x y : List Msg} {n : Nat} (h : noBar x = true) : (x ++ ⟨true, n⟩ :: y).takeWhile (fun m => !m.bar) = x := by
  unfold noBar at h
  induction x with
  | nil => simp
  | cons a l ih =>
    simp only [List.all_cons, Bool.and_eq_true] at h
    rw [List.cons_append, List.takeWhile_cons, if_pos h.1, ih h.2]
theorem noBar_bar {x y : List Msg} {n : Nat} : noBar (x ++ ⟨true, n⟩ :: y) = false := by simp [noBar]
theorem fr_lt (W : WF E nI) {e : Nat} (he : e < E.length) : fr E e < nI := Nat.lt_trans (W.lt e he) (W.le e he)

/-- Nothing about the streams, the reports and the number has turned: what has passed is what had passed. -/
theorem passed_congr {N' : Net} {e : Nat} (hr : N'.rep (fr E e) = N.rep (fr E e)) (hs : str E N' e = str E N e) : passed E N' e ↔ passed E N e := by
  unfold passed; rw [hr, hs]
theorem pre_congr {N' : Net} {e : Nat} (hr : N'.rep (fr E e) = N.rep (fr E e)) (hs : str E N' e = str E N e) : pre E N' e = pre E N e := by
  unfold pre
  rw [hs]
  by_cases h : passed E N e
  · rw [if_pos h, if_pos ((passed_congr hr hs).2 h)]
  · rw [if_neg h, if_neg (fun h' => h ((passed_congr hr hs).1 h'))]
theorem gateOk_congr {N' : Net} {i : Nat} {g : Gate} (hp : ∀ e, e < E.length → tt E e = i → (passed E N' e ↔ passed E N e)) (hn : N'.num = N.num) (hk : N'.kind = N.kind) (h : gateOk E N i g) : gateOk E N' i g := by
  obtain ⟨h1, h2, h3, h4⟩ := h
  refine ⟨h1, h2, h3, ?_⟩
  have hc : (∀ e, e < E.length → tt E e = i → passed E N' e) ↔ (∀ e, e < E.length → tt E e = i → passed E N e) :=
    ⟨fun h e he ht => (hp e he ht).1 (h e he ht), fun h e he ht => (hp e he ht).2 (h e he ht)⟩
  by_cases hall : ∀ e, e < E.length → tt E e = i → passed E N e
  · rw [if_pos hall] at h4
    rw [if_pos (hc.2 hall)]
    exact h4
  · rw [if_neg hall] at h4
    rw [if_neg (fun h => hall (hc.1 h)), hn, hk]
    exact ⟨fun e he ht => (h4.1 e he ht).trans (hp e he ht).symm, h4.2⟩
theorem repOk_congr {N' : Net} {i : Nat} {r : Bool} (hp : ∀ e, e < E.length → tt E e = i → (passed E N' e ↔ passed E N e)) (hk : N'.kind = N.kind) (h : repOk E N i r) : repOk E N' i r := by
  unfold repOk at *
  rw [hk, h]
  by_cases h0 : N.kind = 0
  · rw [if_pos h0, if_pos h0]
    exact ⟨fun h e he ht => (hp e he ht).2 (h e he ht), fun h e he ht => (hp e he ht).1 (h e he ht)⟩
  · rw [if_neg h0, if_neg h0]
    exact ⟨fun h => h.imp id fun ⟨e, he, ht, hq⟩ => ⟨e, he, ht, (hp e he ht).2 hq⟩, fun h => h.imp id fun ⟨e, he, ht, hq⟩ => ⟨e, he, ht, (hp e he ht).1 hq⟩⟩

/-! ### flush -/
theorem str_flush (I : Inv E nI N P) {i : Nat} (hi : i < nI) {N' : Net} (h : flush N i = some N') : ∀ e, e < E.length → str E N' e = str E N e := by
  obtain ⟨j, hj, h1, h2, rfl⟩ := flush_some h
  intro e he
  have hy := I.brng i hi _ (List.getElem_mem hj)
  have hf := forE_erase N (N.box i) j hj h1 h2 e
  unfold str
  simp only
  by_cases hei : fr E e = i
  · rw [hei, upd_same]
    by_cases hye : (N.box i)[j].1 = e
    · rw [if_pos hye] at hf
      rw [← hf, hye, upd_same]
      simp
    · rw [if_neg hye] at hf
      rw [← hf, upd_ne _ _ (fun h => hye h.symm)]
  · have hye : e ≠ (N.box i)[j].1 := fun h => hei (by rw [h]; exact hy.2.1)
    rw [upd_ne _ _ hei, upd_ne _ _ hye]

theorem inv_flush (I : Inv E nI N P) {i : Nat} (hi : i < nI) {N' : Net} (h : flush N i = some N') : Inv E nI N' P := by
  have hs := str_flush I hi h
  obtain ⟨j, hj, h1, h2, he⟩ := flush_some h
  have hy := I.brng i hi _ (List.getElem_mem hj)
  have hlen : (N.chan ((N.box i)[j]).1).length ≤ 3 := by
    have := I.cap _ hy.1
    unfold free at h1
    simp at h1
    omega
  have hrep : N'.rep = N.rep := by rw [he]
  have hnum : N'.num = N.num := by rw [he]
  have hkind : N'.kind = N.kind := by rw [he]
  have hgate : N'.gate = N.gate := by rw [he]
  have hp : ∀ e, e < E.length → (passed E N' e ↔ passed E N e) := fun e hel => passed_congr (by rw [hrep]) (hs e hel)
  have hpre : ∀ e, e < E.length → pre E N' e = pre E N e := fun e hel => pre_congr (by rw [hrep]) (hs e hel)
  have hok : ∀ m, okm N' m ↔ okm N m := fun m => by unfold okm; rw [hnum]
  refine ⟨?_, ?_, ?_, by rw [hkind]; exact I.kind, by rw [hgate]; exact I.chs, ?_, ?_⟩
  · intro e hel
    rw [he]
    simp only
    by_cases hc : e = (N.box i)[j].1
    · rw [hc, upd_same]; simp; omega
    · rw [upd_ne _ _ hc]; exact I.cap e hel
  · intro e hel m hm
    rw [hok]
    rw [he] at hm
    simp only at hm
    by_cases hc : e = (N.box i)[j].1
    · rw [hc, upd_same] at hm
      rcases List.mem_append.1 hm with hm | hm
      · exact I.crng _ hy.1 m hm
      · rw [List.mem_singleton.1 hm]; exact hy.2.2
    · rw [upd_ne _ _ hc] at hm; exact I.crng e hel m hm
  · intro k hk y hym
    rw [hok]
    rw [he] at hym
    simp only at hym
    by_cases hc : k = i
    · rw [hc, upd_same] at hym
      rw [hc]
      exact I.brng i hi y (List.mem_of_mem_eraseIdx hym)
    · rw [upd_ne _ _ hc] at hym; exact I.brng k hk y hym
  · intro h0
    rw [hnum] at h0
    obtain ⟨a, b⟩ := I.idle h0
    refine ⟨fun e hel => ?_, fun k hk => ?_⟩
    · rw [hs e hel, he]; exact a e hel
    · rw [hgate, hrep]; exact b k hk
  · intro h0
    rw [hnum] at h0
    have A := I.act h0
    refine ⟨?_, ?_, ?_, ?_, ?_, ?_, ?_, ?_⟩
    · intro e hel hr; rw [hs e hel]; exact A.unrep e hel (by rw [hrep] at hr; exact hr)
    · intro e hel hr; rw [hs e hel, hnum]; exact A.one e hel (by rw [hrep] at hr; exact hr)
    · intro e hel; rw [hpre e hel, he]; exact A.cut e hel
    · intro e hel hk; rw [he]; exact A.al e hel (by rw [hkind] at hk; exact hk)
    · intro e hel hr; rw [he]; exact A.bx e hel (by rw [hrep] at hr; exact hr)
    · intro e hel hr; rw [he]; exact A.fl e hel (by rw [hrep] at hr; exact hr)
    · intro k hk
      rw [hrep]
      exact ⟨fun h => ⟨((A.repd k hk).1 h).1, repOk_congr (fun e hel _ => hp e hel) hkind ((A.repd k hk).1 h).2⟩, fun h => repOk_congr (fun e hel _ => hp e hel) hkind ((A.repd k hk).2 h)⟩
    · intro k hk; rw [hgate]; exact gateOk_congr (fun e hel _ => hp e hel) hnum hkind (A.gate k hk)

/-! ### produce -/
theorem inv_produce (I : Inv E nI N P) {i : Nat} (hi : i < nI) {n : Nat} (hn : n ≤ 2) : Inv E nI (produce E N i ⟨false, n⟩) P := by
  have hs : ∀ e, e < E.length → str E (produce E N i ⟨false, n⟩) e = str E N e ++ if fr E e = i then [⟨false, n⟩] else [] := fun e he => str_produce he
  have hnb : ∀ e, e < E.length → noBar (str E (produce E N i ⟨false, n⟩) e) = noBar (str E N e) := fun e he => by
    rw [hs e he, noBar_append]
    by_cases h : fr E e = i <;> simp [h, noBar]
  have hp : ∀ e, e < E.length → (passed E (produce E N i ⟨false, n⟩) e ↔ passed E N e) := fun e he => by
    unfold passed
    rw [hnb e he]
    exact Iff.rfl
  refine ⟨I.cap, I.crng, ?_, I.kind, I.chs, ?_, ?_⟩
  · intro k hk y hy
    by_cases hc : k = i
    · subst hc
      simp only [produce, produceTo, upd_same] at hy
      rcases List.mem_append.1 hy with hy | hy
      · exact I.brng k hk y hy
      · obtain ⟨q, hq, rfl⟩ := List.mem_map.1 hy
        obtain ⟨h1, h2⟩ := mem_outsTo.1 hq
        exact ⟨h1, h2, by unfold okm; simpa using hn⟩
    · simp only [produce, produceTo, upd_ne _ _ hc] at hy
      exact I.brng k hk y hy
  · intro h0
    obtain ⟨a, b⟩ := I.idle h0
    exact ⟨fun e he => ⟨by rw [hnb e he]; exact (a e he).1, (a e he).2⟩, b⟩
  · intro h0
    have A := I.act h0
    refine ⟨?_, ?_, ?_, A.al, A.bx, A.fl, ?_, ?_⟩
    · intro e he hr; rw [hnb e he]; exact A.unrep e he hr
    · intro e he hr
      rw [hnb e he, hs e he]
      rcases A.one e he hr with h | ⟨x, y, h1, h2, h3⟩
      · exact .inl h
      · refine .inr ⟨x, y ++ if fr E e = i then [⟨false, n⟩] else [], ?_, h2, ?_⟩
        · rw [h1, List.append_assoc, List.cons_append]; rfl
        · rw [noBar_append, h3]
          by_cases h : fr E e = i <;> simp [h, noBar]
    · intro e he
      have hc := A.cut e he
      have hmade : (produce E N i ⟨false, n⟩).made e = if fr E e = i ∧ N.rep i = false then N.made e ++ [n] else N.made e := by
        simp only [produce, produceTo, he, true_and]
      show (produce E N i ⟨false, n⟩).made e = N.handled e ++ N.flying e ++ pre E (produce E N i ⟨false, n⟩) e ++ N.boxed e
      rw [hmade]
      by_cases hpa : passed E N e
      · have hnr : ¬ (fr E e = i ∧ N.rep i = false) := fun ⟨h1, h2⟩ => by
          have := hpa.1
          rw [h1, h2] at this
          cases this
        rw [if_neg hnr, hc]
        unfold pre
        rw [if_pos hpa, if_pos ((hp e he).2 hpa)]
      · by_cases hr : N.rep (fr E e) = true
        · have hnr : ¬ (fr E e = i ∧ N.rep i = false) := fun ⟨h1, h2⟩ => by
            rw [h1, h2] at hr
            cases hr
          rw [if_neg hnr, hc]
          unfold pre
          rw [if_neg hpa, if_neg (fun h => hpa ((hp e he).1 h)), hs e he]
          rcases A.one e he hr with h | ⟨x, y, h1, h2, h3⟩
          · exact absurd ⟨hr, h⟩ hpa
          · rw [h1, takeWhile_bar h2, List.append_assoc x, List.cons_append, takeWhile_bar h2]
        · have hr' : N.rep (fr E e) = false := by simpa using hr
          have hb := A.bx e he hr'
          have hu := A.unrep e he hr'
          unfold pre at hc ⊢
          rw [if_neg hpa] at hc
          rw [if_neg (fun h => hpa ((hp e he).1 h)), takeWhile_noBar (by rw [hnb e he]; exact hu), hs e he]
          rw [takeWhile_noBar hu, hb, List.append_nil] at hc
          rw [hb, List.append_nil, nums_append, ← List.append_assoc, ← hc]
          by_cases h : fr E e = i
          · rw [if_pos ⟨h, by rw [← h]; exact hr'⟩, if_pos h]; rfl
          · rw [if_neg (fun h' => h h'.1), if_neg h]
            simp [nums]
    · intro k hk
      exact ⟨fun h => ⟨((A.repd k hk).1 h).1, repOk_congr (N' := produce E N i ⟨false, n⟩) (fun e he _ => hp e he) rfl ((A.repd k hk).1 h).2⟩, fun h => repOk_congr (N' := produce E N i ⟨false, n⟩) (fun e he _ => hp e he) rfl ((A.repd k hk).2 h)⟩
    · intro k hk; exact gateOk_congr (N' := produce E N i ⟨false, n⟩) (fun e he _ => hp e he) rfl rfl (A.gate k hk)
end
end Go.Ck
