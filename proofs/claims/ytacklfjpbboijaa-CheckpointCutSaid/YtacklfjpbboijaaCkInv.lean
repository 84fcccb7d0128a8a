/-
  CheckpointCut, the plain side: the lists of channels, what stands on a channel, the invariant.
-/
import Derived.Test.YtacklfjpbboijaaCkDef
namespace Go.Ck

/-! ### numbers below n -/
theorem nodup_full : ∀ (n : Nat) (l : List Nat), l.Nodup → (∀ x ∈ l, x < n) → l.length ≤ n ∧ (l.length = n ↔ ∀ x, x < n → x ∈ l) := by
  intro n
  induction n with
  | zero =>
    intro l _ hb
    have : l = [] := List.eq_nil_iff_forall_not_mem.2 fun x hx => by have := hb x hx; omega
    subst this
    simp
  | succ n ih =>
    intro l hn hb
    by_cases hm : n ∈ l
    · have h1 := ih (l.erase n) (hn.erase n) (fun x hx => by
        have h2 := (List.Nodup.mem_erase_iff hn).1 hx
        have := hb x h2.2
        omega)
      have hl := List.length_erase_of_mem hm
      have hp : 0 < l.length := List.length_pos_of_mem hm
      refine ⟨by omega, ?_⟩
      constructor
      · intro he x hx
        by_cases hxn : x = n
        · exact hxn ▸ hm
        · exact ((List.Nodup.mem_erase_iff hn).1 (h1.2.1 (by omega) x (by omega))).2
      · intro hall
        have := h1.2.2 (fun x hx => (List.Nodup.mem_erase_iff hn).2 ⟨by omega, hall x (by omega)⟩)
        omega
    · have h1 := ih l hn (fun x hx => by
        have := hb x hx
        have : x ≠ n := fun e => hm (e ▸ hx)
        omega)
      refine ⟨by omega, ?_⟩
      constructor
      · intro he; omega
      · intro hall; exact absurd (hall n (by omega)) hm

section
variable {E : Edges} {nI : Nat} {N : Net}

theorem mem_insTo {i n k : Nat} : k ∈ insTo E i n ↔ k < n ∧ tt E k = i := by simp [insTo]
theorem mem_outsTo {i n k : Nat} : k ∈ outsTo E i n ↔ k < n ∧ fr E k = i := by simp [outsTo]
theorem mem_ins {i k : Nat} : k ∈ ins E i ↔ k < E.length ∧ tt E k = i := mem_insTo
theorem insTo_succ (i n : Nat) : insTo E i (n + 1) = insTo E i n ++ if tt E n = i then [n] else [] := by
  unfold insTo
  rw [List.range_succ, List.filter_append]
  by_cases h : tt E n = i <;> simp [h]
theorem outsTo_succ (i n : Nat) : outsTo E i (n + 1) = outsTo E i n ++ if fr E n = i then [n] else [] := by
  unfold outsTo
  rw [List.range_succ, List.filter_append]
  by_cases h : fr E n = i <;> simp [h]
theorem insTo_split {i e : Nat} (hi : tt E e = i) : ∀ n, e < n → ∃ r, insTo E i n = insTo E i e ++ e :: r := by
  intro n
  induction n with
  | zero => intro h; omega
  | succ n ih =>
    intro h
    by_cases he : e = n
    · subst he
      exact ⟨[], by rw [insTo_succ, if_pos hi]⟩
    · obtain ⟨r, hr⟩ := ih (by omega)
      exact ⟨r ++ if tt E n = i then [n] else [], by rw [insTo_succ, hr]; simp⟩
theorem ins_nodup (i : Nat) : (ins E i).Nodup := List.Pairwise.filter _ List.nodup_range
theorem inb_lt {e : Nat} (he : e < E.length) : inb E e < (ins E (tt E e)).length := by
  obtain ⟨r, hr⟩ := insTo_split (E := E) (i := tt E e) (e := e) rfl E.length he
  unfold ins inb
  rw [hr]
  simp
theorem inb_get {e : Nat} (he : e < E.length) : (ins E (tt E e))[inb E e]? = some e := by
  obtain ⟨r, hr⟩ := insTo_split (E := E) (i := tt E e) (e := e) rfl E.length he
  unfold ins inb
  rw [hr]
  simp
theorem inb_inj {e e' : Nat} (he : e < E.length) (he' : e' < E.length) (ht : tt E e = tt E e') (h : inb E e = inb E e') : e = e' := by
  have h1 := inb_get he
  have h2 := inb_get he'
  rw [ht, h, h2] at h1
  exact (Option.some.inj h1).symm
theorem nodup_inj {l : List Nat} (h : l.Nodup) {x y : Nat} (hx : x < l.length) (hy : y < l.length) (e : l[x] = l[y]) : x = y := by
  rcases Nat.lt_trichotomy x y with hlt | heq | hlt
  · exact absurd e (List.pairwise_iff_getElem.1 h x y hx hy hlt)
  · exact heq
  · exact absurd e.symm (List.pairwise_iff_getElem.1 h y x hy hx hlt)
theorem inb_onto {i x : Nat} (hx : x < (ins E i).length) : ∃ e, e < E.length ∧ tt E e = i ∧ inb E e = x := by
  have hm : (ins E i)[x] ∈ ins E i := List.getElem_mem hx
  obtain ⟨h1, h2⟩ := mem_ins.1 hm
  refine ⟨(ins E i)[x], h1, h2, ?_⟩
  have h3 := inb_get h1
  rw [h2] at h3
  obtain ⟨h4, h5⟩ := List.getElem?_eq_some_iff.1 h3
  exact nodup_inj (ins_nodup i) h4 hx h5
theorem source_iff {i : Nat} : source E i = true ↔ ∀ e, e < E.length → tt E e ≠ i := by
  unfold source
  rw [List.isEmpty_iff, List.eq_nil_iff_forall_not_mem]
  exact ⟨fun h e he ht => h e (mem_ins.2 ⟨he, ht⟩), fun h e hm => h e (mem_ins.1 hm).1 (mem_ins.1 hm).2⟩

/-! ### what is for one channel -/
theorem forE_nil (e : Nat) : forE [] e = [] := rfl
theorem forE_append (a b : List (Nat × Msg)) (e : Nat) : forE (a ++ b) e = forE a e ++ forE b e := by simp [forE]
theorem forE_cons (y : Nat × Msg) (b : List (Nat × Msg)) (e : Nat) : forE (y :: b) e = if y.1 = e then y.2 :: forE b e else forE b e := by
  unfold forE
  by_cases h : y.1 = e <;> simp [h]
theorem forE_outs (i e : Nat) (m : Msg) : ∀ n, forE ((outsTo E i n).map fun k => (k, m)) e = if e < n ∧ fr E e = i then [m] else [] := by
  intro n
  induction n with
  | zero => simp [outsTo, forE]
  | succ n ih =>
    rw [outsTo_succ, List.map_append, forE_append, ih]
    by_cases h1 : fr E n = i
    · by_cases h2 : e = n
      · subst h2
        simp [h1, forE]
      · by_cases h3 : e < n ∧ fr E e = i
        · have : e < n + 1 := by omega
          have h4 : ¬ n = e := fun h => h2 h.symm
          simp [h1, h3, this, forE, h4]
        · have h4 : ¬ n = e := fun h => h2 h.symm
          have h5 : ¬ (e < n + 1 ∧ fr E e = i) := fun h => h3 ⟨by omega, h.2⟩
          simp [h1, h3, h5, forE, h4]
    · by_cases h2 : e = n
      · subst h2
        simp [h1, forE]
      · by_cases h3 : e < n ∧ fr E e = i
        · have : e < n + 1 := by omega
          simp [h1, h3, this, forE]
        · have h5 : ¬ (e < n + 1 ∧ fr E e = i) := fun h => h3 ⟨by omega, h.2⟩
          simp [h1, h3, h5, forE]
theorem noBar_append (a b : List Msg) : noBar (a ++ b) = (noBar a && noBar b) := by simp [noBar]
theorem noBar_nil : noBar [] = true := rfl
theorem noBar_forE {l : List (Nat × Msg)} (h : noBarI l = true) (e : Nat) : noBar (forE l e) = true := by
  unfold noBarI at h
  unfold noBar forE
  rw [List.all_eq_true] at h ⊢
  intro m hm
  simp only [List.mem_map, List.mem_filter] at hm
  obtain ⟨y, ⟨hy, _⟩, rfl⟩ := hm
  exact h y hy

/-! ### what stands on a channel, behind each thing that happens -/
theorem str_produce {i e : Nat} {m : Msg} (he : e < E.length) : str E (produce E N i m) e = str E N e ++ if fr E e = i then [m] else [] := by
  unfold str produce produceTo
  simp only
  by_cases h : fr E e = i
  · subst h
    rw [upd_same, forE_append, forE_outs, if_pos ⟨he, rfl⟩, if_pos rfl, List.append_assoc]
  · rw [upd_ne _ _ h, if_neg h, List.append_nil]
theorem str_report0 {i e : Nat} (he : e < E.length) (hk : N.kind = 0) : str E (report E N i) e = str E N e ++ if fr E e = i then [⟨true, N.num⟩] else [] := by
  unfold str report firsts
  rw [if_pos hk]
  simp only
  by_cases h : fr E e = i
  · subst h
    rw [upd_same, forE_append, forE_outs, if_pos ⟨he, rfl⟩, if_pos rfl, List.append_assoc]
  · rw [upd_ne _ _ h, if_neg h, List.append_nil]
theorem str_report1 {i e : Nat} (he : e < E.length) (hk : N.kind ≠ 0) : str E (report E N i) e = if fr E e = i then N.chan e ++ ⟨true, N.num⟩ :: forE (N.box i) e else str E N e := by
  unfold str report firsts
  rw [if_neg hk]
  simp only
  by_cases h : fr E e = i
  · subst h
    rw [upd_same, forE_append, forE_outs, if_pos ⟨he, rfl⟩, if_pos rfl]
    rfl
  · rw [upd_ne _ _ h, if_neg h]

theorem flush_some {i : Nat} {N' : Net} (h : flush N i = some N') : ∃ j, ∃ hj : j < (N.box i).length, free N (N.box i)[j] = true ∧ (∀ k (hk : k < j), free N ((N.box i)[k]'(Nat.lt_trans hk hj)) = false) ∧
    N' = { N with box := upd N.box i ((N.box i).eraseIdx j), chan := upd N.chan ((N.box i)[j]).1 (N.chan ((N.box i)[j]).1 ++ [((N.box i)[j]).2]) } := by
  unfold flush at h
  split at h
  · cases h
  · rename_i j hj
    obtain ⟨hlt, h1, h2⟩ := List.findIdx?_eq_some_iff_getElem.1 hj
    refine ⟨j, hlt, h1, fun k hk => by simpa using h2 k hk, ?_⟩
    have hg : (N.box i).getD j (0, ⟨false, 0⟩) = (N.box i)[j] := by simp [List.getD, hlt]
    rw [hg] at h
    exact (Option.some.inj h).symm
theorem flush_none {i : Nat} (h : flush N i = none) : ∀ y ∈ N.box i, free N y = false := by
  unfold flush at h
  split at h
  · rename_i hn
    intro y hy
    have := List.findIdx?_eq_none_iff.1 hn y hy
    simpa using this
  · cases h
theorem forE_erase (N : Net) : ∀ (l : List (Nat × Msg)) (j : Nat) (hj : j < l.length), free N l[j] = true → (∀ k (hk : k < j), free N (l[k]'(Nat.lt_trans hk hj)) = false) →
    ∀ e, (if l[j].1 = e then l[j].2 :: forE (l.eraseIdx j) e else forE (l.eraseIdx j) e) = forE l e := by
  intro l
  induction l with
  | nil => intro j hj; simp at hj
  | cons y l ih =>
    intro j hj h1 h2 e
    cases j with
    | zero => simp [forE_cons]
    | succ j =>
      have hy := h2 0 (by omega)
      simp only [List.getElem_cons_zero] at hy
      simp only [List.getElem_cons_succ] at h1 ⊢
      have h3 := ih j (by simpa using hj) h1 (fun k hk => by have := h2 (k + 1) (by omega); simpa using this) e
      simp only [List.eraseIdx_cons_succ, forE_cons]
      have hj' : j < l.length := by simpa using hj
      have hne : l[j].1 = e → y.1 ≠ e := fun h4 h5 => by
        unfold free at h1 hy
        rw [h4] at h1
        rw [h5, h1] at hy
        cases hy
      by_cases h4 : l[j].1 = e
      · rw [if_pos h4] at h3 ⊢
        rw [if_neg (hne h4), if_neg (hne h4)]
        exact h3
      · rw [if_neg h4] at h3 ⊢
        rw [h3]
end
end Go.Ck
