/-
  Separation, families: pointers to objects in a slice; slices of slices.
-/
import Derived.Test.YtacklfjpbboijaaRow
namespace Go.Sep
open Go.RowKit

theorem Sat.up1 {X w : World} {l : List Asn} {A0 A1 : Asn} (h : Sat X w (A0 :: A1 :: l)) : Sat X w (A1 :: A0 :: l) := h.perm (List.perm_middle (l₁ := [A0]))
theorem Sat.dn1 {X w : World} {l : List Asn} {A0 A1 : Asn} (h : Sat X w (A1 :: A0 :: l)) : Sat X w (A0 :: A1 :: l) := h.perm (List.perm_middle (l₁ := [A0])).symm
theorem Sat.up2 {X w : World} {l : List Asn} {A0 A1 A2 : Asn} (h : Sat X w (A0 :: A1 :: A2 :: l)) : Sat X w (A2 :: A0 :: A1 :: l) := h.perm (List.perm_middle (l₁ := [A0, A1]))
theorem Sat.dn2 {X w : World} {l : List Asn} {A0 A1 A2 : Asn} (h : Sat X w (A2 :: A0 :: A1 :: l)) : Sat X w (A0 :: A1 :: A2 :: l) := h.perm (List.perm_middle (l₁ := [A0, A1])).symm
theorem Sat.up3 {X w : World} {l : List Asn} {A0 A1 A2 A3 : Asn} (h : Sat X w (A0 :: A1 :: A2 :: A3 :: l)) : Sat X w (A3 :: A0 :: A1 :: A2 :: l) := h.perm (List.perm_middle (l₁ := [A0, A1, A2]))
theorem Sat.dn3 {X w : World} {l : List Asn} {A0 A1 A2 A3 : Asn} (h : Sat X w (A3 :: A0 :: A1 :: A2 :: l)) : Sat X w (A0 :: A1 :: A2 :: A3 :: l) := h.perm (List.perm_middle (l₁ := [A0, A1, A2])).symm
theorem Sat.up4 {X w : World} {l : List Asn} {A0 A1 A2 A3 A4 : Asn} (h : Sat X w (A0 :: A1 :: A2 :: A3 :: A4 :: l)) : Sat X w (A4 :: A0 :: A1 :: A2 :: A3 :: l) := h.perm (List.perm_middle (l₁ := [A0, A1, A2, A3]))
theorem Sat.dn4 {X w : World} {l : List Asn} {A0 A1 A2 A3 A4 : Asn} (h : Sat X w (A4 :: A0 :: A1 :: A2 :: A3 :: l)) : Sat X w (A0 :: A1 :: A2 :: A3 :: A4 :: l) := h.perm (List.perm_middle (l₁ := [A0, A1, A2, A3])).symm
theorem Sat.up5 {X w : World} {l : List Asn} {A0 A1 A2 A3 A4 A5 : Asn} (h : Sat X w (A0 :: A1 :: A2 :: A3 :: A4 :: A5 :: l)) : Sat X w (A5 :: A0 :: A1 :: A2 :: A3 :: A4 :: l) := h.perm (List.perm_middle (l₁ := [A0, A1, A2, A3, A4]))
theorem Sat.dn5 {X w : World} {l : List Asn} {A0 A1 A2 A3 A4 A5 : Asn} (h : Sat X w (A5 :: A0 :: A1 :: A2 :: A3 :: A4 :: l)) : Sat X w (A0 :: A1 :: A2 :: A3 :: A4 :: A5 :: l) := h.perm (List.perm_middle (l₁ := [A0, A1, A2, A3, A4])).symm
theorem Sat.up6 {X w : World} {l : List Asn} {A0 A1 A2 A3 A4 A5 A6 : Asn} (h : Sat X w (A0 :: A1 :: A2 :: A3 :: A4 :: A5 :: A6 :: l)) : Sat X w (A6 :: A0 :: A1 :: A2 :: A3 :: A4 :: A5 :: l) := h.perm (List.perm_middle (l₁ := [A0, A1, A2, A3, A4, A5]))
theorem Sat.dn6 {X w : World} {l : List Asn} {A0 A1 A2 A3 A4 A5 A6 : Asn} (h : Sat X w (A6 :: A0 :: A1 :: A2 :: A3 :: A4 :: A5 :: l)) : Sat X w (A0 :: A1 :: A2 :: A3 :: A4 :: A5 :: A6 :: l) := h.perm (List.perm_middle (l₁ := [A0, A1, A2, A3, A4, A5])).symm
theorem Sat.up7 {X w : World} {l : List Asn} {A0 A1 A2 A3 A4 A5 A6 A7 : Asn} (h : Sat X w (A0 :: A1 :: A2 :: A3 :: A4 :: A5 :: A6 :: A7 :: l)) : Sat X w (A7 :: A0 :: A1 :: A2 :: A3 :: A4 :: A5 :: A6 :: l) := h.perm (List.perm_middle (l₁ := [A0, A1, A2, A3, A4, A5, A6]))
theorem Sat.dn7 {X w : World} {l : List Asn} {A0 A1 A2 A3 A4 A5 A6 A7 : Asn} (h : Sat X w (A7 :: A0 :: A1 :: A2 :: A3 :: A4 :: A5 :: A6 :: l)) : Sat X w (A0 :: A1 :: A2 :: A3 :: A4 :: A5 :: A6 :: A7 :: l) := h.perm (List.perm_middle (l₁ := [A0, A1, A2, A3, A4, A5, A6])).symm
theorem Sat.up8 {X w : World} {l : List Asn} {A0 A1 A2 A3 A4 A5 A6 A7 A8 : Asn} (h : Sat X w (A0 :: A1 :: A2 :: A3 :: A4 :: A5 :: A6 :: A7 :: A8 :: l)) : Sat X w (A8 :: A0 :: A1 :: A2 :: A3 :: A4 :: A5 :: A6 :: A7 :: l) := h.perm (List.perm_middle (l₁ := [A0, A1, A2, A3, A4, A5, A6, A7]))
theorem Sat.dn8 {X w : World} {l : List Asn} {A0 A1 A2 A3 A4 A5 A6 A7 A8 : Asn} (h : Sat X w (A8 :: A0 :: A1 :: A2 :: A3 :: A4 :: A5 :: A6 :: A7 :: l)) : Sat X w (A0 :: A1 :: A2 :: A3 :: A4 :: A5 :: A6 :: A7 :: A8 :: l) := h.perm (List.perm_middle (l₁ := [A0, A1, A2, A3, A4, A5, A6, A7])).symm
theorem Sat.up9 {X w : World} {l : List Asn} {A0 A1 A2 A3 A4 A5 A6 A7 A8 A9 : Asn} (h : Sat X w (A0 :: A1 :: A2 :: A3 :: A4 :: A5 :: A6 :: A7 :: A8 :: A9 :: l)) : Sat X w (A9 :: A0 :: A1 :: A2 :: A3 :: A4 :: A5 :: A6 :: A7 :: A8 :: l) := h.perm (List.perm_middle (l₁ := [A0, A1, A2, A3, A4, A5, A6, A7, A8]))
theorem Sat.dn9 {X w : World} {l : List Asn} {A0 A1 A2 A3 A4 A5 A6 A7 A8 A9 : Asn} (h : Sat X w (A9 :: A0 :: A1 :: A2 :: A3 :: A4 :: A5 :: A6 :: A7 :: A8 :: l)) : Sat X w (A0 :: A1 :: A2 :: A3 :: A4 :: A5 :: A6 :: A7 :: A8 :: A9 :: l) := h.perm (List.perm_middle (l₁ := [A0, A1, A2, A3, A4, A5, A6, A7, A8])).symm
theorem Sat.up10 {X w : World} {l : List Asn} {A0 A1 A2 A3 A4 A5 A6 A7 A8 A9 A10 : Asn} (h : Sat X w (A0 :: A1 :: A2 :: A3 :: A4 :: A5 :: A6 :: A7 :: A8 :: A9 :: A10 :: l)) : Sat X w (A10 :: A0 :: A1 :: A2 :: A3 :: A4 :: A5 :: A6 :: A7 :: A8 :: A9 :: l) := h.perm (List.perm_middle (l₁ := [A0, A1, A2, A3, A4, A5, A6, A7, A8, A9]))
theorem Sat.dn10 {X w : World} {l : List Asn} {A0 A1 A2 A3 A4 A5 A6 A7 A8 A9 A10 : Asn} (h : Sat X w (A10 :: A0 :: A1 :: A2 :: A3 :: A4 :: A5 :: A6 :: A7 :: A8 :: A9 :: l)) : Sat X w (A0 :: A1 :: A2 :: A3 :: A4 :: A5 :: A6 :: A7 :: A8 :: A9 :: A10 :: l) := h.perm (List.perm_middle (l₁ := [A0, A1, A2, A3, A4, A5, A6, A7, A8, A9])).symm
theorem Sat.up11 {X w : World} {l : List Asn} {A0 A1 A2 A3 A4 A5 A6 A7 A8 A9 A10 A11 : Asn} (h : Sat X w (A0 :: A1 :: A2 :: A3 :: A4 :: A5 :: A6 :: A7 :: A8 :: A9 :: A10 :: A11 :: l)) : Sat X w (A11 :: A0 :: A1 :: A2 :: A3 :: A4 :: A5 :: A6 :: A7 :: A8 :: A9 :: A10 :: l) := h.perm (List.perm_middle (l₁ := [A0, A1, A2, A3, A4, A5, A6, A7, A8, A9, A10]))
theorem Sat.dn11 {X w : World} {l : List Asn} {A0 A1 A2 A3 A4 A5 A6 A7 A8 A9 A10 A11 : Asn} (h : Sat X w (A11 :: A0 :: A1 :: A2 :: A3 :: A4 :: A5 :: A6 :: A7 :: A8 :: A9 :: A10 :: l)) : Sat X w (A0 :: A1 :: A2 :: A3 :: A4 :: A5 :: A6 :: A7 :: A8 :: A9 :: A10 :: A11 :: l) := h.perm (List.perm_middle (l₁ := [A0, A1, A2, A3, A4, A5, A6, A7, A8, A9, A10])).symm
theorem Sat.up12 {X w : World} {l : List Asn} {A0 A1 A2 A3 A4 A5 A6 A7 A8 A9 A10 A11 A12 : Asn} (h : Sat X w (A0 :: A1 :: A2 :: A3 :: A4 :: A5 :: A6 :: A7 :: A8 :: A9 :: A10 :: A11 :: A12 :: l)) : Sat X w (A12 :: A0 :: A1 :: A2 :: A3 :: A4 :: A5 :: A6 :: A7 :: A8 :: A9 :: A10 :: A11 :: l) := h.perm (List.perm_middle (l₁ := [A0, A1, A2, A3, A4, A5, A6, A7, A8, A9, A10, A11]))
theorem Sat.dn12 {X w : World} {l : List Asn} {A0 A1 A2 A3 A4 A5 A6 A7 A8 A9 A10 A11 A12 : Asn} (h : Sat X w (A12 :: A0 :: A1 :: A2 :: A3 :: A4 :: A5 :: A6 :: A7 :: A8 :: A9 :: A10 :: A11 :: l)) : Sat X w (A0 :: A1 :: A2 :: A3 :: A4 :: A5 :: A6 :: A7 :: A8 :: A9 :: A10 :: A11 :: A12 :: l) := h.perm (List.perm_middle (l₁ := [A0, A1, A2, A3, A4, A5, A6, A7, A8, A9, A10, A11])).symm

/-- One assertion for each number below n. -/
def Fam (n : Nat) (f : Nat → Asn) : Asn := All ((List.range n).map f)
def FamBut (n : Nat) (f : Nat → Asn) (k : Nat) : Asn := All (((List.range n).map f).eraseIdx k)

section
variable {X w : World} {l : List Asn} {n : Nat} {f f' : Nat → Asn}
theorem Sat.famOut (h : Sat X w (Fam n f :: l)) {k : Nat} (hk : k < n) : Sat X w (f k :: FamBut n f k :: l) := by
  have h1 := Sat.focus h k (by simpa using hk)
  have e : ((List.range n).map f)[k]'(by simpa using hk) = f k := by simp
  rw [e] at h1
  exact h1
theorem Sat.famIn {k : Nat} (h : Sat X w (f' k :: FamBut n f k :: l)) (hk : k < n) (hf : ∀ j, j ≠ k → f' j = f j) : Sat X w (Fam n f' :: l) := by
  have h1 := Sat.unfocus h (by simpa using hk)
  have e : ((List.range n).map f).set k (f' k) = (List.range n).map f' := by
    apply List.ext_getElem?
    intro j
    rw [List.getElem?_set]
    by_cases hj : k = j
    · subst hj
      simp [hk]
    · rw [if_neg hj]
      simp only [List.getElem?_map]
      cases hq : (List.range n)[j]? with
      | none => rfl
      | some a =>
        have ha : a = j := by
          obtain ⟨h2, h3⟩ := List.getElem?_eq_some_iff.1 hq
          simpa using h3.symm
        subst ha
        simp [hf a (fun e => hj e.symm)]
  rw [e] at h1
  exact h1
theorem Sat.fam0 (h : Sat X w l) (f : Nat → Asn) : Sat X w (Fam 0 f :: l) := h.nop.imp fun _ _ => trivial
theorem Sat.famSucc (h : Sat X w (Fam n f :: f n :: l)) : Sat X w (Fam (n + 1) f :: l) := by
  have h1 : Sat X w (((List.range n).map f) ++ (f n :: l)) := Sat.all h
  refine Sat.shut ?_
  rw [List.range_succ, List.map_append, List.append_assoc]
  exact h1
theorem Sat.famCongr (h : Sat X w (Fam n f :: l)) (hf : ∀ j, j < n → f j = f' j) : Sat X w (Fam n f' :: l) := by
  have : (List.range n).map f = (List.range n).map f' := List.map_congr_left fun j hj => hf j (List.mem_range.1 hj)
  unfold Fam at *
  rw [← this]
  exact h

theorem map_range_get {α : Type} (g : Nat → α) {j : Nat} (hj : j < n) : ((List.range n).map g)[j]? = some (g j) := by simp [hj]
theorem map_range_set {α : Type} (g g' : Nat → α) {j : Nat} (hg : ∀ i, i ≠ j → g' i = g i) : ((List.range n).map g).set j (g' j) = (List.range n).map g' := by
  apply List.ext_getElem?
  intro i
  rw [List.getElem?_set]
  by_cases hj : j = i
  · subst hj
    by_cases hn : j < n <;> simp [hn]
  · rw [if_neg hj]
    by_cases hn : i < n
    · simp [hn, hg i (fun e => hj e.symm)]
    · simp [hn]

/-! ### pointers in a slice -/
def ptrv (b : Nat) : Value := .pointer (some ⟨b, 0, none⟩)
/-- The slice v holds n pointers, the j-th to an object of which A .. j holds. -/
def ptrsA (e : TypeId) (v : Value) (n : Nat) (A : Nat → Nat → Asn) : Asn := Ex fun ca : Nat → Nat => All [rowA e 1 v n ((List.range n).map fun j => ptrv (ca j)), Fam n fun j => A (ca j) j]
def ptrsBut (e : TypeId) (v : Value) (n : Nat) (A : Nat → Nat → Asn) (ca : Nat → Nat) (k : Nat) : Asn := All [rowA e 1 v n ((List.range n).map fun j => ptrv (ca j)), FamBut n (fun j => A (ca j) j) k]

variable {e : TypeId} {v : Value} {A A' : Nat → Nat → Asn}
theorem Sat.ptrs (h : Sat X w (ptrsA e v n A :: l)) {k : Nat} (hk : k < n) : ∃ g cap ca, v = .slice (some ⟨g, 0, none⟩) n cap ∧ g < w.heap.size ∧ w.cell? ⟨g, k, none⟩ = some (.pointer (some ⟨ca k, 0, none⟩)) ∧
    Sat X w (A (ca k) k :: ptrsBut e v n A ca k :: l) := by
  obtain ⟨ca, h⟩ := h.ex
  have h1 : Sat X w (_ :: _ :: l) := h.all
  obtain ⟨g, cap, hv, _, _, hg, hc, _⟩ := h1.rowAt (by omega)
  refine ⟨g, cap, ca, hv, hg, hc k _ (map_range_get _ hk), ?_⟩
  exact (Sat.shut (l := [_, _]) (Sat.famOut h1.swap hk).up2.up2.swap).swap
theorem Sat.ptrsBack {ca : Nat → Nat} {k : Nat} (hk : k < n) (hA : ∀ c j, j ≠ k → A' c j = A c j) (h : Sat X w (A' (ca k) k :: ptrsBut e v n A ca k :: l)) : Sat X w (ptrsA e v n A' :: l) := by
  have h1 : Sat X w (_ :: _ :: _ :: l) := h.swap.all
  have h2 := Sat.famIn (f' := fun j => A' (ca j) j) h1.up2.dn1.swap.up2.swap hk (fun j hj => hA _ _ hj)
  exact (Sat.shut (l := [_, _]) h2.swap).mkEx ca

/-! ### slices of slices -/
/-- The slice v holds n slices, the j-th of them the elements D j, each put in cells by enc. -/
def tabA {α : Type} (eo ei : TypeId) (size : Nat) (enc : α → List Value) (v : Value) (n : Nat) (D : Nat → List α) : Asn :=
  Ex fun hd : Nat → Value => All [rowA eo 1 v n ((List.range n).map hd), Fam n fun j => rowA ei size (hd j) (D j).length ((D j).flatMap enc)]
def tabBut {α : Type} (eo ei : TypeId) (size : Nat) (enc : α → List Value) (v : Value) (n : Nat) (D : Nat → List α) (hd : Nat → Value) (k : Nat) : Asn :=
  All [rowA eo 1 v n ((List.range n).map hd), FamBut n (fun j => rowA ei size (hd j) (D j).length ((D j).flatMap enc)) k]
variable {α : Type} {eo ei : TypeId} {size : Nat} {enc : α → List Value} {D D' : Nat → List α}
theorem Sat.tab (h : Sat X w (tabA eo ei size enc v n D :: l)) {k : Nat} (hk : k < n) : ∃ g cap hd, v = .slice (some ⟨g, 0, none⟩) n cap ∧ g < w.heap.size ∧ w.cell? ⟨g, k, none⟩ = some (hd k) ∧ w.frozen? ⟨g, k, none⟩ = false ∧
    Sat X w (rowA ei size (hd k) (D k).length ((D k).flatMap enc) :: tabBut eo ei size enc v n D hd k :: l) := by
  obtain ⟨hd, h⟩ := h.ex
  have h1 : Sat X w (_ :: _ :: l) := h.all
  obtain ⟨g, cap, hv, _, _, hg, hc, hf⟩ := h1.rowAt (by omega)
  exact ⟨g, cap, hd, hv, hg, hc k _ (map_range_get _ hk), hf k, (Sat.shut (l := [_, _]) (Sat.famOut h1.swap hk).up2.up2.swap).swap⟩
/-- What the header's cell holds, while the row itself may have turned. -/
theorem Sat.tabCell {hd : Nat → Value} {k g cap : Nat} (hk : k < n) (hv : v = .slice (some ⟨g, 0, none⟩) n cap) (h : Sat X w (tabBut eo ei size enc v n D hd k :: l)) : w.cell? ⟨g, k, none⟩ = some (hd k) ∧ w.frozen? ⟨g, k, none⟩ = false := by
  have h1 : Sat X w (_ :: _ :: l) := h.all
  obtain ⟨g', cap', hv', _, _, hg, hc, hf⟩ := h1.rowAt (by omega)
  rw [hv] at hv'
  injection hv' with h3
  injection h3 with h3
  injection h3 with h3
  subst h3
  exact ⟨hc k _ (map_range_get _ hk), hf k⟩
/-- The row has turned into another one, whose header is stored. -/
theorem Sat.tabStore {hd : Nat → Value} {k g cap : Nat} {u : Value} (hk : k < n) (hv : v = .slice (some ⟨g, 0, none⟩) n cap) (hD : ∀ j, j ≠ k → D' j = D j)
    (h : Sat X w (rowA ei size u (D' k).length ((D' k).flatMap enc) :: tabBut eo ei size enc v n D hd k :: l)) : Sat X (w.setCell ⟨g, k, none⟩ u) (tabA eo ei size enc v n D' :: l) := by
  have h1 : Sat X w (_ :: _ :: _ :: l) := h.swap.all
  subst hv
  have h2 := h1.rowSet k u
  have e : ((List.range n).map hd).set k u = (List.range n).map fun j => if j = k then u else hd j := by
    have := map_range_set (n := n) hd (fun j => if j = k then u else hd j) (j := k) (fun i hi => by simp [hi])
    simpa using this
  rw [e] at h2
  have h3 := Sat.famIn (f' := fun j => rowA ei size (if j = k then u else hd j) (D' j).length ((D' j).flatMap enc)) (k := k) (n := n) (f := fun j => rowA ei size (hd j) (D j).length ((D j).flatMap enc)) (by
    have h4 := h2.up2.dn1.swap.up2.swap
    simpa using h4) hk (fun j hj => by simp [hj, hD j hj])
  exact (Sat.shut (l := [_, _]) h3.swap).mkEx (fun j => if j = k then u else hd j)
/-- The row goes back as it was. -/
theorem Sat.tabBack {hd : Nat → Value} {k : Nat} (hk : k < n) (h : Sat X w (rowA ei size (hd k) (D k).length ((D k).flatMap enc) :: tabBut eo ei size enc v n D hd k :: l)) : Sat X w (tabA eo ei size enc v n D :: l) := by
  have h1 : Sat X w (_ :: _ :: _ :: l) := h.swap.all
  have h2 := Sat.famIn (f' := fun j => rowA ei size (hd j) (D j).length ((D j).flatMap enc)) h1.up2.dn1.swap.up2.swap hk (fun _ _ => rfl)
  exact (Sat.shut (l := [_, _]) h2.swap).mkEx hd
theorem Sat.tabCongr (h : Sat X w (tabA eo ei size enc v n D :: l)) (hD : ∀ j, j < n → D' j = D j) : Sat X w (tabA eo ei size enc v n D' :: l) := by
  obtain ⟨hd, h⟩ := h.ex
  have h1 : Sat X w (_ :: _ :: l) := h.all
  have h2 := Sat.famCongr (f' := fun j => rowA ei size (hd j) (D' j).length ((D' j).flatMap enc)) h1.swap (fun j hj => by rw [hD j hj])
  exact (Sat.shut (l := [_, _]) h2.swap).mkEx hd
theorem Sat.tabHdr (h : Sat X w (tabA eo ei size enc v n D :: l)) {k : Nat} (hk : k < n) : ∃ g cap u, v = .slice (some ⟨g, 0, none⟩) n cap ∧ n ≤ cap ∧ cap ≤ maxLen ∧ g < w.heap.size ∧ w.cell? ⟨g, k, none⟩ = some u ∧ w.frozen? ⟨g, k, none⟩ = false := by
  obtain ⟨hd, h⟩ := h.ex
  have h1 : Sat X w (_ :: _ :: l) := h.all
  obtain ⟨g, cap, hv, h3, h4, hg, hc, hf⟩ := h1.rowAt (by omega)
  exact ⟨g, cap, hd k, hv, h3, h4, hg, hc k _ (map_range_get _ hk), hf k⟩
theorem Sat.tabNil (h : Sat X w (tabA eo ei size enc v n D :: l)) {k g cap : Nat} (hk : k < n) (hv : v = .slice (some ⟨g, 0, none⟩) n cap) (h0 : D' k = []) (hD : ∀ j, j ≠ k → D' j = D j) :
    Sat X (w.setCell ⟨g, k, none⟩ (.slice none 0 0)) (tabA eo ei size enc v n D' :: l) := by
  obtain ⟨_, _, hd, _, _, _, _, h1⟩ := h.tab hk
  refine Sat.tabStore (hd := hd) hk hv hD ?_
  rw [h0]
  exact h1.drop.rowNil

/-! ### blocks that differ -/
/-- Whatever the assertion holds of owns block b. -/
def Has (A : Asn) (b : Nat) : Prop := ∀ h, A h → h b ≠ none
theorem Sat.apart {A B : Asn} {a b : Nat} (h : Sat X w (A :: B :: l)) (ha : Has A a) (hb : Has B b) : a ≠ b := by
  obtain ⟨_, _, _, _, k, ⟨f, g, hd, rfl, hA, f', g', hd', rfl, hB, _⟩, hi⟩ := h
  rintro rfl
  rcases hd a with e | e
  · exact ha _ hA e
  · exact hb _ hB (HL.union_none.1 e).1
theorem has_pt (b : Nat) (o : Obj) : Has (pt b o) b := fun h hA => by
  have : h b = some o := hA
  rw [this]; simp
theorem has_row {e : TypeId} {size n m cap g : Nat} {xs : List Value} : Has (rowA e size (.slice (some ⟨g, 0, none⟩) n cap) m xs) g := fun h hA => by
  rcases hA.2 with ⟨h1, _⟩ | ⟨g0, cap0, cur, h1, h2, _⟩
  · cases h1
  · injection h1 with h1
    injection h1 with h1
    injection h1 with h1
    subst h1
    rw [h2]; simp
theorem has_all {A : Asn} {ls : List Asn} {b : Nat} (hA : Has A b) : Has (All (A :: ls)) b := fun h hh => by
  obtain ⟨f, g, hd, rfl, ha, _⟩ := hh
  intro e
  exact hA f ha (HL.union_none.1 e).1
theorem has_tab {g cap m : Nat} : Has (tabA eo ei size enc (.slice (some ⟨g, 0, none⟩) m cap) n D) g := fun h ⟨_, hA⟩ => has_all has_row h hA
theorem has_tabBut {g cap m k : Nat} {hd : Nat → Value} : Has (tabBut eo ei size enc (.slice (some ⟨g, 0, none⟩) m cap) n D hd k) g := fun h hA => has_all has_row h hA
theorem has_ptrs {g cap m : Nat} : Has (ptrsA e (.slice (some ⟨g, 0, none⟩) m cap) n A) g := fun h ⟨_, hA⟩ => has_all has_row h hA
theorem has_ptrsBut {g cap m k : Nat} {ca : Nat → Nat} : Has (ptrsBut e (.slice (some ⟨g, 0, none⟩) m cap) n A ca k) g := fun h hA => has_all has_row h hA

theorem slice_inj {g g' n n' c c' : Nat} (h : Value.slice (some ⟨g, 0, none⟩) n c = .slice (some ⟨g', 0, none⟩) n' c') : g = g' ∧ n = n' ∧ c = c' := by
  injection h with h1 h2 h3
  injection h1 with h1
  injection h1 with h1
  exact ⟨h1, h2, h3⟩
theorem fm_get {enc : α → List Value} {s : Nat} (hs : ∀ x, (enc x).length = s) : ∀ (L : List α) (k : Nat) (hk : k < L.length) (j : Nat), j < s → (L.flatMap enc)[k * s + j]? = (enc L[k])[j]?
  | [], k, hk, _, _ => by simp at hk
  | x :: L, 0, _, j, hj => by
    rw [List.flatMap_cons, List.getElem?_append_left (by rw [hs]; omega)]
    simp
  | x :: L, k + 1, hk, j, hj => by
    rw [List.flatMap_cons, List.getElem?_append_right (by rw [hs, Nat.add_mul]; omega), hs]
    have := fm_get hs L k (by simpa using hk) j hj
    rw [show (k + 1) * s + j - s = k * s + j by rw [Nat.add_mul]; omega, this]
    simp
theorem Sat.ptrsLen (h : Sat X w (ptrsA e v n A :: l)) : ∃ a cap, v = .slice a n cap ∧ n ≤ cap ∧ cap ≤ maxLen := by
  obtain ⟨ca, h⟩ := h.ex
  have h1 : Sat X w (_ :: _ :: l) := h.all
  obtain ⟨a, cap, h2, h3, h4, _⟩ := h1.row
  exact ⟨a, cap, h2, h3, h4⟩
end
end Go.Sep
