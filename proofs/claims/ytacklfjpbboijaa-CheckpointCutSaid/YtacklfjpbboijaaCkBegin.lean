/-
  CheckpointCut, walks: begin.
-/
import Derived.Test.YtacklfjpbboijaaCkSmall
import Derived.Test.YtacklfjpbboijaaCkFin
import Derived.Test.YtacklfjpbboijaaReg2
namespace Go.Sep
open Go Go.RowKit
section
variable {X w : World} {l : List Asn} {n : Nat} {e : TypeId} {v v' : Value}
theorem Sat.ptrsOpen {A : Nat → Nat → Asn} (h : Sat X w (ptrsA e v n A :: l)) : ∃ ca : Nat → Nat, Sat X w (rowA e 1 v n ((List.range n).map fun j => ptrv (ca j)) :: Fam n (fun j => A (ca j) j) :: l) := by
  obtain ⟨ca, h⟩ := h.ex
  exact ⟨ca, h.all⟩
theorem Sat.ptrsSnoc {A : Nat → Nat → Asn} {ca : Nat → Nat} {c : Nat} (h : Sat X w (rowA e 1 v' (n + 1) ((List.range n).map (fun j => ptrv (ca j)) ++ [ptrv c]) :: Fam n (fun j => A (ca j) j) :: A c n :: l)) : Sat X w (ptrsA e v' (n + 1) A :: l) := by
  have e1 : (List.range n).map (fun j => ptrv (ca j)) ++ [ptrv c] = (List.range (n + 1)).map fun j => ptrv (if j = n then c else ca j) := by
    rw [List.range_succ, List.map_append]
    congr 1
    · refine List.map_congr_left fun j hj => ?_
      rw [if_neg (by have := List.mem_range.1 hj; omega)]
    · simp
  rw [e1] at h
  have h2 := Sat.famCongr (f' := fun j => A (if j = n then c else ca j) j) h.swap (fun j hj => by rw [if_neg (by omega)])
  have e2 : A c n = (fun j => A (if j = n then c else ca j) j) n := by simp
  have h3 := h2.up2.swap
  rw [e2] at h3
  have h4 := Sat.famSucc h3
  exact Sat.mkEx (A := fun ca : Nat → Nat => All [rowA e 1 v' (n + 1) ((List.range (n + 1)).map fun j => ptrv (ca j)), Fam (n + 1) fun j => A (ca j) j]) (fun j => if j = n then c else ca j) (Sat.shut (l := [_, _]) h4.swap)
variable {α : Type} {eo ei : TypeId} {size : Nat} {enc : α → List Value} {D : Nat → List α}
theorem Sat.tabOpen (h : Sat X w (tabA eo ei size enc v n D :: l)) : ∃ hd : Nat → Value, Sat X w (rowA eo 1 v n ((List.range n).map hd) :: Fam n (fun j => rowA ei size (hd j) (D j).length ((D j).flatMap enc)) :: l) := by
  obtain ⟨hd, h⟩ := h.ex
  exact ⟨hd, h.all⟩
theorem Sat.tabSnoc {hd : Nat → Value} (hD : D n = []) (h : Sat X w (rowA eo 1 v' (n + 1) ((List.range n).map hd ++ [.slice none 0 0]) :: Fam n (fun j => rowA ei size (hd j) (D j).length ((D j).flatMap enc)) :: l)) : Sat X w (tabA eo ei size enc v' (n + 1) D :: l) := by
  have e1 : (List.range n).map hd ++ [.slice none 0 0] = (List.range (n + 1)).map fun j => if j = n then .slice none 0 0 else hd j := by
    rw [List.range_succ, List.map_append]
    congr 1
    · refine List.map_congr_left fun j hj => ?_
      rw [if_neg (by have := List.mem_range.1 hj; omega)]
    · simp
  rw [e1] at h
  have h2 := Sat.famCongr (f' := fun j => rowA ei size (if j = n then .slice none 0 0 else hd j) (D j).length ((D j).flatMap enc)) h.swap (fun j hj => by rw [if_neg (by omega)])
  have h4 := Sat.famSucc (f := fun j => rowA ei size (if j = n then .slice none 0 0 else hd j) (D j).length ((D j).flatMap enc)) (l := rowA eo 1 v' (n + 1) ((List.range (n + 1)).map fun j => if j = n then .slice none 0 0 else hd j) :: l) (by
    show Sat X w (_ :: rowA ei size (if n = n then .slice none 0 0 else hd n) (D n).length ((D n).flatMap enc) :: _)
    rw [if_pos rfl, hD]
    exact h2.rowNil.swap)
  exact Sat.mkEx (A := fun hd : Nat → Value => All [rowA eo 1 v' (n + 1) ((List.range (n + 1)).map hd), Fam (n + 1) fun j => rowA ei size (hd j) (D j).length ((D j).flatMap enc)]) (fun j => if j = n then .slice none 0 0 else hd j) (Sat.shut (l := [_, _]) h4.swap)
theorem Sat.ptrs0 (h : Sat X w l) (e : TypeId) (A : Nat → Nat → Asn) : Sat X w (ptrsA e (.slice none 0 0) 0 A :: l) :=
  Sat.mkEx (A := fun ca : Nat → Nat => All [rowA e 1 (.slice none 0 0) 0 ((List.range 0).map fun j => ptrv (ca j)), Fam 0 fun j => A (ca j) j]) (fun _ => 0) (Sat.shut (l := [_, _]) (Sat.rowNil (h.fam0 _)))
theorem Sat.tab0 {α : Type} (h : Sat X w l) (eo ei : TypeId) (size : Nat) (enc : α → List Value) (D : Nat → List α) : Sat X w (tabA eo ei size enc (.slice none 0 0) 0 D :: l) :=
  Sat.mkEx (A := fun hd : Nat → Value => All [rowA eo 1 (.slice none 0 0) 0 ((List.range 0).map hd), Fam 0 fun j => rowA ei size (hd j) (D j).length ((D j).flatMap enc)]) (fun _ => .slice none 0 0) (Sat.shut (l := [_, _]) (Sat.rowNil (h.fam0 _)))
theorem Sat.newRow (h : Sat X w l) (e : TypeId) (cs : Array Value) (n : Nat) (hc : cs.size = n) (hm : n ≤ maxLen) : Sat X (w.alloc (.cells cs e)) (rowA e 1 (.slice (some ⟨w.heap.size, 0, none⟩) n n) n cs.toList :: l) :=
  (h.new (.cells cs e)).imp fun _ hk => ⟨by simp [hc], .inr ⟨_, n, cs, rfl, hk, Nat.le_refl _, hm, by simp [hc], by rw [Nat.mul_one, ← hc]; exact List.take_of_length_le (by simp)⟩⟩
end
end Go.Sep
namespace Go.Proofs.Ytacklfjpbboijaa
open Go.RowKit Go.Sep Go.Ck
theorem Try.infoG : (Try.prog.info? 52).map (fun i => (i.zero, i.size, i.bytes)) = some (some (.pointer none), 1, 8) := by kernel_rfl
theorem Try.infoC : (Try.prog.info? 49).map (fun i => (i.zero, i.size, i.bytes)) = some (some (.pointer none), 1, 8) := by kernel_rfl
theorem Try.infoB : (Try.prog.info? 33).map (fun i => (i.zero, i.size, i.bytes)) = some (some (.slice none 0 0), 1, 24) := by kernel_rfl
theorem Try.infoS : (Try.prog.info? 58).map (fun i => (i.zero, i.size, i.bytes)) = some (some (.slice none 0 0), 1, 24) := by kernel_rfl
theorem made_bools (k : Nat) : (madeCells #[Value.bool false] (k * 1)).size = k ∧ (madeCells #[Value.bool false] (k * 1)).toList = (List.range k).map fun _ => .bool false := by
  refine ⟨by simp [madeCells], ?_⟩
  unfold madeCells
  rw [Array.toList_map, Array.toList_range, Nat.mul_one]
  refine List.map_congr_left fun x _ => ?_
  simp [Nat.mod_one]
theorem Try.infoO : (Try.prog.info? 4).map (fun i => (i.zero, i.size, i.bytes)) = some (some (.bool false), 1, 1) := by kernel_rfl
abbrev nilS : Value := .slice none 0 0
/-- begin's net while its gates are made. -/
def begL (W : World) (p : Nat) (vE vG vB : Value) (E : Edges) (k : Nat) : List Asn :=
  [blk p 40 #[vE, nilS, vG, vB, nilS, nilS, nilS, nilS, nilS, .int .i64 0, .int .i64 0],
   ptrsA 52 vG k (fun g i => gateA g ((Net0 E).gate i)),
   tabA 33 57 7 icells vB k (Net0 E).box,
   old W]
section
variable (W X w : World) (vE : Value) (E : Edges) (nI : Nat) (F : List Asn)

set_option maxRecDepth 100000 in
set_option maxHeartbeats 4000000 in
theorem begin_ok (hn : 0 < nI) (hn5 : nI ≤ 5) (hE : EdgesAt W vE E) (h : Sat X w (old W :: F)) :
    Calls Try.prog 5 #[.int .i64 (nI : Int), vE] w fun r w' =>
    ∃ p V, r = .returned (.pointer (some ⟨p, 0, none⟩)) ∧ Sat X w' (netL W p vE E.length nI V (Net0 E) ++ F) := by
  have HE := Lib.hid hE
  obtain ⟨hE6, A, c, rfl, hc, hE⟩ := hE
  obtain ⟨iG, hiG, hG0, hG1, hG2⟩ := info_parts Try.infoG
  obtain ⟨iC, hiC, hC0, hC1, hC2⟩ := info_parts Try.infoC
  obtain ⟨iB, hiB, hB0, hB1, hB2⟩ := info_parts Try.infoB
  obtain ⟨iS, hiS, hS0, hS1, hS2⟩ := info_parts Try.infoS
  have hE6' : (E.length : Int) ≤ 6 := by omega
  have hn5' : (nI : Int) ≤ 5 := by omega
  have HEA := Lib.hid hE
  have HH := Lib.hid h
  clear hE h
  go_enter Try.func5, Try.ntmps5
  go_wp2
  have h1 : Sat X _ (begL W w.heap.size (.slice A E.length c) nilS nilS E 0 ++ F) :=
    Sat.swap (Sat.dn2 (Sat.tab0 (Sat.ptrs0 (HH.out.newBlk 40 #[.slice A E.length c, nilS, nilS, nilS, nilS, nilS, nilS, nilS, nilS, .int .i64 0, .int .i64 0]) _ _) _ _ _ _ _))
  have H1 := Lib.hid h1
  clear h1
  obtain ⟨p, hp⟩ : ∃ p, p = w.heap.size := ⟨_, rfl⟩
  rw [← hp] at H1 ⊢
  have HP := Lib.hid hp
  clear hp
  go_loopg [6] nI (fun gk t wr => ∃ (k : Nat) (vG vB : Value), k ≤ nI ∧ gk = nI - k ∧ t = .int .i64 (k : Int) ∧ Sat X wr (begL W p (.slice A E.length c) vG vB E k ++ F))
  case atStart => exact ⟨0, nilS, nilS, Nat.zero_le _, rfl, rfl, H1.out⟩
  case round =>
    obtain ⟨k, vG, vB, hk, rfl, rfl, hS⟩ := hrel
    have hk0 : (0 : Int) ≤ (k : Int) := by omega
    have hk5 : (k : Int) ≤ 5 := by omega
    by_cases hlt : k < nI
    · have hlti : (k : Int) < (nI : Int) := by omega
      go_wp2
      obtain ⟨wo, rfl⟩ : ∃ wo : World, wo = wr := ⟨_, rfl⟩
      have HSO := Lib.hid hS
      clear hS
      go_loop [7, 8] (fun t7 t8 => ∃ m : Nat, m ≤ E.length ∧ t8 = .int .i64 (m : Int) ∧ t7 = .int .i64 ((insTo E k m).length : Int)) (fun _ t8 => E.length - (intOf t8).toNat)
      case atStart => exact ⟨0, Nat.zero_le _, rfl, rfl⟩
      case round =>
        obtain ⟨m, hm, rfl, rfl⟩ := hrel
        have hm0 : (0 : Int) ≤ (m : Int) := by omega
        obtain ⟨L, hL⟩ : ∃ L, L = (insTo E k m).length := ⟨_, rfl⟩
        have hL6 : (L : Int) ≤ 6 := by
          have := List.length_filter_le (fun q => tt E q == k) (List.range m)
          have h2 : (insTo E k m).length ≤ m := by simpa [insTo] using this
          omega
        have hL0 : (0 : Int) ≤ (L : Int) := by omega
        rw [← hL]
        have HL := Lib.hid hL
        clear hL
        by_cases hlm : m < E.length
        · have hlmi : (m : Int) < (E.length : Int) := by omega
          obtain ⟨_, htm5, b, off, rfl, hbo, _, ht⟩ := HEA.out m hlm
          have ht' := (World.cell?_of_block (w := W) (a := ⟨b, off + m * 2 + 1, none⟩) (Sat.oldAt (Sat.up3 HSO.out) b hbo)).trans ht
          clear ht
          by_cases heq : tt E m = k
          · have hb1 : ((tt E m : Int) == (k : Int)) = true := by rw [beq_iff_eq]; omega
            have HQ := Lib.hid heq
            clear heq
            go_wp2
            go_round
            case rel => exact ⟨m + 1, by omega, by go_num, by rw [insTo_succ, if_pos HQ.out, List.length_append, ← HL.out]; go_num⟩
            case measure => simp [intOf]; omega
          · have hb1 : ((tt E m : Int) == (k : Int)) = false := by rw [beq_eq_false_iff_ne]; omega
            have HQ := Lib.hid heq
            clear heq
            go_wp2
            go_round
            case rel => exact ⟨m + 1, by omega, by go_num, by rw [insTo_succ, if_neg HQ.out, List.append_nil, ← HL.out]⟩
            case measure => simp [intOf]; omega
        · have hge : (E.length : Int) ≤ (m : Int) := by omega
          obtain rfl : m = E.length := by omega
          have hn1000 : L ≤ 1000 := by omega
          obtain ⟨ca, s1⟩ := Sat.ptrsOpen (Sat.up1 HSO.out)
          obtain ⟨Ag, capg, rfl, hag, hcg, _⟩ := Sat.row s1
          have x2 : wo.cell? ⟨p, 2, none⟩ = some (.slice Ag k capg) := Sat.cell (Sat.up2 s1) 2
          go_upto_region 11 with (fail)
          refine wp_region_N (S := (fun w' => w'.cell? ⟨p, 2, none⟩ = some (.slice Ag k capg))) 11 (by kernel_rfl) ?_ (fun hHeld => ?_)
          · exact (by simpa using x2)
          refine wpAnyN_take (i := 0) (v := ?_) rfl (by kernel_rfl) (by kernel_rfl) (by kernel_rfl) (by kernel_rfl) (fun _ _ _ h => h) (by assumption) (Or.inl ⟨by rfl, ?_⟩) ?_
          rotate_left
          · (intro wq hSw; (try dsimp only at hSw); go_simp; try (with_reducible rfl))
          try simp only [Act.put, List.setIfInBounds_toArray, List.set_cons_zero, List.set_cons_succ]
          refine wpAnyN_take (i := 1) (v := ?_) rfl (by kernel_rfl) (by kernel_rfl) (by kernel_rfl) (by kernel_rfl) (fun _ _ _ h => h) (by assumption) (Or.inl ⟨by rfl, ?_⟩) ?_
          rotate_left
          · (intro wq hSw; (try dsimp only at hSw); go_simp; try (with_reducible rfl))
          try simp only [Act.put, List.setIfInBounds_toArray, List.set_cons_zero, List.set_cons_succ]
          refine wpAnyN_take (i := 2) (v := ?_) rfl (by kernel_rfl) (by kernel_rfl) (by kernel_rfl) (by kernel_rfl) (fun _ _ _ h => h) (by assumption) (Or.inl ⟨by rfl, ?_⟩) ?_
          rotate_left
          · (intro wq hSw; (try dsimp only at hSw); go_simp; try (with_reducible rfl))
          try simp only [Act.put, List.setIfInBounds_toArray, List.set_cons_zero, List.set_cons_succ]
          refine wpAnyN_take (i := 3) (v := ?_) rfl (by kernel_rfl) (by kernel_rfl) (by kernel_rfl) (by kernel_rfl) (fun _ _ _ h => h) (by assumption) (Or.inl ⟨by rfl, ?_⟩) ?_
          rotate_left
          · (intro wq hSw; (try dsimp only at hSw); go_simp; try (with_reducible rfl))
          try simp only [Act.put, List.setIfInBounds_toArray, List.set_cons_zero, List.set_cons_succ]
          refine wpAnyN_take (i := 4) (v := ?_) rfl (by kernel_rfl) (by kernel_rfl) (by kernel_rfl) (by kernel_rfl) (fun _ _ _ h => h) (by assumption) (Or.inl ⟨by rfl, ?_⟩) ?_
          rotate_left
          · (intro wq hSw; (try dsimp only at hSw); go_simp; try (with_reducible rfl))
          try simp only [Act.put, List.setIfInBounds_toArray, List.set_cons_zero, List.set_cons_succ]
          refine wpAnyN_take (i := 5) (v := ?_) rfl (by kernel_rfl) (by kernel_rfl) (by kernel_rfl) (by kernel_rfl) (fun _ _ _ h => h) (by assumption) (Or.inl ⟨by rfl, ?_⟩) ?_
          rotate_left
          · (intro wq hSw; (try dsimp only at hSw); go_simp; try (with_reducible rfl))
          try simp only [Act.put, List.setIfInBounds_toArray, List.set_cons_zero, List.set_cons_succ]
          refine wpAnyN_one (i := 6) (by kernel_rfl) rfl (fun K hK => ?_)
          go_simp
          go_wp2_with ((go_at_call 18; (with_reducible refine (newGate_ok X _ _ L hn1000 s1.drew).mono ?_); rintro e' w1 ⟨g, rfl, s2⟩))
          have z2 : w1.cell? ⟨p, 2, none⟩ = some (.slice Ag k capg) := Sat.cell (Sat.up3 s2) 2
          refine hK.out _ _ ?_ (fun hHeld => ?_)
          · exact z2
          clear hK K
          try simp only [Act.put, List.setIfInBounds_toArray, List.set_cons_zero, List.set_cons_succ]
          refine wpAnyN_one (i := 7) (by kernel_rfl) rfl (fun K hK => ?_)
          go_simp
          have s3 := s2.alloc (.cells #[ptrv g] 52)
          have z3 : (w1.alloc (.cells #[ptrv g] 52)).cell? ⟨p, 2, none⟩ = some (.slice Ag k capg) := Sat.cell (Sat.up3 s3) 2
          refine hK.out _ _ ?_ (fun hHeld => ?_)
          · exact z3
          clear hK K
          try simp only [Act.put, List.setIfInBounds_toArray, List.set_cons_zero, List.set_cons_succ]
          refine wpAnyN_one (i := 8) (by kernel_rfl) rfl (fun K hK => ?_)
          refine step_append_sep rfl (.tmp 37) (.tmp 40) 35 rfl iG _ 8 Try.underlying35 hiG hG0 hG1 hG2 rfl (by decide) rfl (Sat.up1 s3) ⟨w1.heap.size, 0, none⟩ 1 1 [ptrv g] rfl rfl (newsN w1 52 _) (by simp [Value.oneCell', ptrv]) (by unfold maxLen; omega) (by omega) ?_
          intro v1 wn hS1 _
          have z4 : wn.cell? ⟨p, 2, none⟩ = some (.slice Ag k capg) := Sat.cell (Sat.up3 hS1) 2
          have f4 : wn.frozen? ⟨p, 2, none⟩ = false := Sat.frozen (Sat.up3 hS1) 2
          obtain ⟨A2, c2, hv1, _⟩ := Sat.row hS1
          subst hv1
          refine hK.out _ _ ?_ (fun hHeld => ?_)
          · exact z4
          clear hK K
          try simp only [Act.put, List.setIfInBounds_toArray, List.set_cons_zero, List.set_cons_succ]
          refine wpAnyN_take2 (i := 9) (v := ?_) 10 rfl (by kernel_rfl) (by kernel_rfl) (by kernel_rfl) (by kernel_rfl) (by kernel_rfl) (by kernel_rfl) (fun _ _ _ h => h) (by assumption) (Or.inl ⟨by rfl, ?_⟩) ?_
          rotate_left
          · (intro wq hSw; (try dsimp only at hSw); go_simp; try (with_reducible rfl))
          try simp only [Act.put, List.setIfInBounds_toArray, List.set_cons_zero, List.set_cons_succ]
          refine wpAnyN_take (i := 10) (v := ?_) rfl (by kernel_rfl) (by kernel_rfl) (by kernel_rfl) (by kernel_rfl) (fun _ _ _ h => h) (by assumption) (Or.inl ⟨by rfl, ?_⟩) ?_
          rotate_left
          · (intro wq hSw; (try dsimp only at hSw); go_simp; try (with_reducible rfl))
          try simp only [Act.put, List.setIfInBounds_toArray, List.set_cons_zero, List.set_cons_succ]
          refine wpAnyN_last (by kernel_rfl) rfl (by kernel_rfl) (fun K hK => ?_)
          go_simp
          refine hK.out _ _ ?_
          clear hK K
          try simp only [Act.put, List.setIfInBounds_toArray, List.set_cons_zero, List.set_cons_succ]
          have t1 := Sat.set (Sat.up3 hS1) 2 (.slice A2 (k + 1) c2)
          generalize hwz : wn.setCell _ _ = wz at t1 ⊢
          have t2 := Sat.swap (Sat.up2 (Sat.dn3 t1))
          obtain ⟨g2, capg2, hv2, _, _, _, _, _⟩ := Sat.rowAt t2 (by omega)
          injection hv2 with hvA _ hvC
          subst hvA hvC
          have t3 : Sat X wz (blk p 40 #[.slice A E.length c, nilS, .slice (some ⟨g2, 0, none⟩) (k + 1) c2, vB, nilS, nilS, nilS, nilS, nilS, .int .i64 0, .int .i64 0] :: ptrsA 52 (.slice (some ⟨g2, 0, none⟩) (k + 1) c2) (k + 1) (fun g i => gateA g ((Net0 E).gate i)) :: tabA 33 57 7 icells vB k (Net0 E).box :: old W :: F) := by
            refine Sat.swap (Sat.ptrsSnoc (ca := ca) (c := g) ?_)
            have eg : (Net0 E).gate k = ⟨L, [], 0, 0⟩ := by rw [HL.out]; rfl
            show Sat X wz (_ :: _ :: gateA g ((Net0 E).gate k) :: _)
            rw [eg]
            exact t2
          clear hwz hS1 t1 x2 z2 z3 z4 f4 s1 s2 s3
          obtain ⟨hd, u3⟩ := Sat.tabOpen (Sat.up2 t3)
          obtain ⟨Ab, capb, rfl, hab, hcb, _⟩ := Sat.row u3
          have x3 : wz.cell? ⟨p, 3, none⟩ = some (.slice Ab k capb) := Sat.cell (Sat.up2 u3) 3
          go_upto_region 13 with (at_builtin; refine wpList_append_sep rfl (.tmp 48) (.tmp 49) 36 rfl iB _ 24 Try.underlying36 hiB hB0 hB1 hB2 rfl (by decide) rfl (u3.alloc (.cells #[nilS] 33)) ⟨wz.heap.size, 0, none⟩ 1 1 [nilS] rfl rfl (newsN wz 33 _) (by simp [Value.oneCell', nilS]) (by unfold maxLen; omega) (by omega) ?_; intro v3 wm3 r3 _; have zz3 := And.intro (Sat.cell (Sat.up2 r3) 3) (Sat.frozen (Sat.up2 r3) 3); obtain ⟨B3, d3, hv3, _⟩ := Sat.row r3; subst hv3)
          have t4 := Sat.set (Sat.up2 r3) 3 (.slice B3 (k + 1) d3)
          generalize hwy : wm3.setCell _ _ = wy at t4 ⊢
          have t5 : Sat X wy (begL W p (.slice A E.length c) (.slice (some ⟨g2, 0, none⟩) (k + 1) c2) (.slice B3 (k + 1) d3) E (k + 1) ++ F) :=
            Sat.dn2 (Sat.tabSnoc (D := (Net0 E).box) rfl (Sat.dn2 t4))
          obtain ⟨g3, capg3, ca3, hv3, _, y1, _⟩ := Sat.ptrs (Sat.up1 t5) (Nat.lt_succ_self k)
          obtain ⟨rfl, _, rfl⟩ := slice_inj hv3
          have y2 : wy.cell? ⟨p, 2, none⟩ = some (.slice (some ⟨g2, 0, none⟩) (k + 1) c2) := Sat.cell t5 2
          have T5 := Lib.hid t5
          clear hwy t4 t5 r3 zz3 x3 u3 t3 t2 hv3
          go_wp2
          go_roundg (nI - (k + 1))
          case measure => omega
          case rel => exact ⟨k + 1, _, _, by omega, by omega, by go_num, T5.out⟩
    · have hge : (nI : Int) ≤ (k : Int) := by omega
      obtain rfl : k = nI := by omega
      have x4 : wr.cell? ⟨p, 4, none⟩ = some nilS := Sat.cell hS 4
      have f4 : wr.frozen? ⟨p, 4, none⟩ = false := Sat.frozen hS 4
      have plt : p < wr.heap.size := Sat.lt hS
      obtain ⟨M, hM1, hM2, hmk⟩ : ∃ M : Array Value, M.size = k ∧ M.toList = ((List.range k).map fun i => Value.bool ((Net0 E).rep i)) ∧ ∀ w : World, (Instr.makeSlice 37 (.int .i64 (k : Int)) (.int .i64 (k : Int))).run Try.prog w = .ok (.slice (some ⟨w.heap.size, 0, none⟩) k k) (w.alloc (.cells M 4)) := by
        obtain ⟨iO, hiO, hO0, hO1, hO2⟩ := info_parts Try.infoO
        refine ⟨madeCells #[Value.bool false] (k * 1), (made_bools k).1, (made_bools k).2, fun w => ?_⟩
        have h := run_makeSlice (P := Try.prog) w 37 4 iO (.bool false) Try.underlying37 hiO hO0 .i64 .i64 (k : Int) (k : Int) hk0 (Int.le_refl _) (by rw [hO1]; omega) (by rw [hO2]; omega) (by omega)
        rw [hO1, Int.toNat_natCast] at h
        exact h
      have HM := Lib.hid (And.intro hM1 hM2)
      have HS := Lib.hid hS
      clear hM1 hM2 hS
      go_wp2
      have h2 := Sat.swap ((Sat.set HS.out 4 (.slice (some ⟨wr.heap.size, 0, none⟩) k k)).newRow 4 M k HM.out.1 (by unfold maxLen; omega))
      rw [sizeSet] at h2
      generalize hw2 : World.alloc _ _ = w2 at h2 ⊢
      obtain ⟨vR, hvR⟩ : ∃ vR, vR = Value.slice (some ⟨wr.heap.size, 0, none⟩) k k := ⟨_, rfl⟩
      rw [← hvR, HM.out.2] at h2
      have h3 : Sat X w2 (netL W p (.slice A E.length c) 0 k ⟨nilS, vG, vB, vR, nilS, nilS, nilS, nilS⟩ (Net0 E) ++ F) :=
        Sat.up8 (Sat.up7 (Sat.up8 (Sat.up8 (Sat.up6 (Sat.up4 (Sat.up4 (Sat.up4 (Sat.up4 (Sat.ptrs0 (Sat.tab0 (Sat.tab0 (Sat.tab0 (Sat.tab0 h2 _ _ _ _ _) _ _ _ _ _) _ _ _ _ _) _ _ _ _ _) _ _)))))))))
      have H3 := Lib.hid h3
      obtain ⟨nI, rfl⟩ : ∃ nI, nI = k := ⟨_, rfl⟩
      clear hw2 h2 h3 hvR x4 f4 plt hmk HM HS
      go_loopg [9] E.length (fun gk t wr => ∃ (k : Nat) (vC vM vX vH vF : Value), k ≤ E.length ∧ gk = E.length - k ∧ t = .int .i64 (k : Int) ∧ Sat X wr (netL W p (.slice A E.length c) k nI ⟨vC, vG, vB, vR, vM, vX, vH, vF⟩ (Net0 E) ++ F))
      case atStart => exact ⟨0, nilS, nilS, nilS, nilS, nilS, Nat.zero_le _, rfl, rfl, H3.out⟩
      case round =>
        obtain ⟨k, vC, vM, vX, vH, vF, hk, rfl, rfl, hS⟩ := hrel
        have hk0 : (0 : Int) ≤ (k : Int) := by omega
        by_cases hlt : k < E.length
        · have hlti : (k : Int) < (E.length : Int) := by omega
          obtain ⟨ca, s1⟩ := Sat.ptrsOpen (Sat.up1 hS)
          obtain ⟨Ac, capc, hvC, _⟩ := Sat.row s1
          simp only at hvC
          subst hvC
          have x1 : wr.cell? ⟨p, 1, none⟩ = some (.slice Ac k capc) := Sat.cell (Sat.up2 s1) 1
          clear hS
          go_upto_region 19 with (fail)
          refine wp_region_N (S := (fun w' => w'.cell? ⟨p, 1, none⟩ = some (.slice Ac k capc))) 10 (by kernel_rfl) ?_ (fun hHeld => ?_)
          · exact (by simpa using x1)
          refine wpAnyN_take (i := 0) (v := ?_) rfl (by kernel_rfl) (by kernel_rfl) (by kernel_rfl) (by kernel_rfl) (fun _ _ _ h => h) (by assumption) (Or.inl ⟨by rfl, ?_⟩) ?_
          rotate_left
          · (intro wq hSw; (try dsimp only at hSw); go_simp; try (with_reducible rfl))
          try simp only [Act.put, List.setIfInBounds_toArray, List.set_cons_zero, List.set_cons_succ]
          refine wpAnyN_take (i := 1) (v := ?_) rfl (by kernel_rfl) (by kernel_rfl) (by kernel_rfl) (by kernel_rfl) (fun _ _ _ h => h) (by assumption) (Or.inl ⟨by rfl, ?_⟩) ?_
          rotate_left
          · (intro wq hSw; (try dsimp only at hSw); go_simp; try (with_reducible rfl))
          try simp only [Act.put, List.setIfInBounds_toArray, List.set_cons_zero, List.set_cons_succ]
          refine wpAnyN_take (i := 2) (v := ?_) rfl (by kernel_rfl) (by kernel_rfl) (by kernel_rfl) (by kernel_rfl) (fun _ _ _ h => h) (by assumption) (Or.inl ⟨by rfl, ?_⟩) ?_
          rotate_left
          · (intro wq hSw; (try dsimp only at hSw); go_simp; try (with_reducible rfl))
          try simp only [Act.put, List.setIfInBounds_toArray, List.set_cons_zero, List.set_cons_succ]
          refine wpAnyN_take (i := 3) (v := ?_) rfl (by kernel_rfl) (by kernel_rfl) (by kernel_rfl) (by kernel_rfl) (fun _ _ _ h => h) (by assumption) (Or.inl ⟨by rfl, ?_⟩) ?_
          rotate_left
          · (intro wq hSw; (try dsimp only at hSw); go_simp; try (with_reducible rfl))
          try simp only [Act.put, List.setIfInBounds_toArray, List.set_cons_zero, List.set_cons_succ]
          refine wpAnyN_take (i := 4) (v := ?_) rfl (by kernel_rfl) (by kernel_rfl) (by kernel_rfl) (by kernel_rfl) (fun _ _ _ h => h) (by assumption) (Or.inl ⟨by rfl, ?_⟩) ?_
          rotate_left
          · (intro wq hSw; (try dsimp only at hSw); go_simp; try (with_reducible rfl))
          try simp only [Act.put, List.setIfInBounds_toArray, List.set_cons_zero, List.set_cons_succ]
          refine wpAnyN_one (i := 5) (by kernel_rfl) rfl (fun K hK => ?_)
          go_simp
          go_wp2_with ((go_at_call 22; (with_reducible refine (newChan_ok X _ _ s1.drew).mono ?_); rintro e' w1 ⟨g, rfl, s2⟩))
          have z2 : w1.cell? ⟨p, 1, none⟩ = some (.slice Ac k capc) := Sat.cell (Sat.up3 s2) 1
          refine hK.out _ _ ?_ (fun hHeld => ?_)
          · exact z2
          clear hK K
          try simp only [Act.put, List.setIfInBounds_toArray, List.set_cons_zero, List.set_cons_succ]
          refine wpAnyN_one (i := 6) (by kernel_rfl) rfl (fun K hK => ?_)
          go_simp
          have s3 := s2.alloc (.cells #[ptrv g] 49)
          have z3 : (w1.alloc (.cells #[ptrv g] 49)).cell? ⟨p, 1, none⟩ = some (.slice Ac k capc) := Sat.cell (Sat.up3 s3) 1
          refine hK.out _ _ ?_ (fun hHeld => ?_)
          · exact z3
          clear hK K
          try simp only [Act.put, List.setIfInBounds_toArray, List.set_cons_zero, List.set_cons_succ]
          refine wpAnyN_one (i := 7) (by kernel_rfl) rfl (fun K hK => ?_)
          refine step_append_sep rfl (.tmp 76) (.tmp 78) 34 rfl iC _ 8 Try.underlying34 hiC hC0 hC1 hC2 rfl (by decide) rfl (Sat.up1 s3) ⟨w1.heap.size, 0, none⟩ 1 1 [ptrv g] rfl rfl (newsN w1 49 _) (by simp [Value.oneCell', ptrv]) (by unfold maxLen; omega) (by omega) ?_
          intro v1 wn hS1 _
          have z4 : wn.cell? ⟨p, 1, none⟩ = some (.slice Ac k capc) := Sat.cell (Sat.up3 hS1) 1
          have f4 : wn.frozen? ⟨p, 1, none⟩ = false := Sat.frozen (Sat.up3 hS1) 1
          obtain ⟨A2, c2, hv1, _⟩ := Sat.row hS1
          subst hv1
          refine hK.out _ _ ?_ (fun hHeld => ?_)
          · exact z4
          clear hK K
          try simp only [Act.put, List.setIfInBounds_toArray, List.set_cons_zero, List.set_cons_succ]
          refine wpAnyN_take2 (i := 8) (v := ?_) 9 rfl (by kernel_rfl) (by kernel_rfl) (by kernel_rfl) (by kernel_rfl) (by kernel_rfl) (by kernel_rfl) (fun _ _ _ h => h) (by assumption) (Or.inl ⟨by rfl, ?_⟩) ?_
          rotate_left
          · (intro wq hSw; (try dsimp only at hSw); go_simp; try (with_reducible rfl))
          try simp only [Act.put, List.setIfInBounds_toArray, List.set_cons_zero, List.set_cons_succ]
          refine wpAnyN_take (i := 9) (v := ?_) rfl (by kernel_rfl) (by kernel_rfl) (by kernel_rfl) (by kernel_rfl) (fun _ _ _ h => h) (by assumption) (Or.inl ⟨by rfl, ?_⟩) ?_
          rotate_left
          · (intro wq hSw; (try dsimp only at hSw); go_simp; try (with_reducible rfl))
          try simp only [Act.put, List.setIfInBounds_toArray, List.set_cons_zero, List.set_cons_succ]
          refine wpAnyN_last (by kernel_rfl) rfl (by kernel_rfl) (fun K hK => ?_)
          go_simp
          refine hK.out _ _ ?_
          clear hK K
          try simp only [Act.put, List.setIfInBounds_toArray, List.set_cons_zero, List.set_cons_succ]
          have t1 := Sat.set (Sat.up3 hS1) 1 (.slice A2 (k + 1) c2)
          generalize hwz : wn.setCell _ _ = wz at t1 ⊢
          have t2 := Sat.swap (Sat.up2 (Sat.dn3 t1))
          have t4 := Sat.swap (Sat.ptrsSnoc (A := fun c e => chanA c ((Net0 E).chan e)) (ca := ca) (c := g) t2)
          clear hwz hS1 t1 t2 x1 z2 z3 z4 f4 s1 s2 s3
          obtain ⟨hd5, u5⟩ := Sat.tabOpen (Sat.up5 t4)
          obtain ⟨A5, cap5, hq5, _⟩ := Sat.row u5
          try simp only at hq5
          subst hq5
          have x5 : wz.cell? ⟨p, 5, none⟩ = some (.slice A5 k cap5) := Sat.cell (Sat.up2 u5) 5
          go_upto_region 21 with (at_builtin; refine wpList_append_sep rfl (.tmp 86) (.tmp 87) 38 rfl iS _ 24 Try.underlying38 hiS hS0 hS1 hS2 rfl (by decide) rfl (u5.alloc (.cells #[nilS] 58)) ⟨wz.heap.size, 0, none⟩ 1 1 [nilS] rfl rfl (newsN wz 58 _) (by simp [Value.oneCell', nilS]) (by unfold maxLen; omega) (by omega) ?_; intro v5 wm5 r5 _; have zz5 := And.intro (Sat.cell (Sat.up2 r5) 5) (Sat.frozen (Sat.up2 r5) 5); obtain ⟨B5, d5, hv5, _⟩ := Sat.row r5; subst hv5)
          have t50 := Sat.set (Sat.up2 r5) 5 (.slice B5 (k + 1) d5)
          generalize hwy5 : wm5.setCell _ _ = wy5 at t50 ⊢
          have t5 := Sat.dn5 (Sat.tabSnoc (D := fun _ => ([] : List Nat)) rfl (Sat.dn2 t50))
          clear hwy5 t50 r5 zz5 x5 u5 t4
          obtain ⟨hd6, u6⟩ := Sat.tabOpen (Sat.up6 t5)
          obtain ⟨A6, cap6, hq6, _⟩ := Sat.row u6
          try simp only at hq6
          subst hq6
          have x6 : wy5.cell? ⟨p, 6, none⟩ = some (.slice A6 k cap6) := Sat.cell (Sat.up2 u6) 6
          go_upto_region 22 with (at_builtin; refine wpList_append_sep rfl (.tmp 95) (.tmp 96) 38 rfl iS _ 24 Try.underlying38 hiS hS0 hS1 hS2 rfl (by decide) rfl (u6.alloc (.cells #[nilS] 58)) ⟨wy5.heap.size, 0, none⟩ 1 1 [nilS] rfl rfl (newsN wy5 58 _) (by simp [Value.oneCell', nilS]) (by unfold maxLen; omega) (by omega) ?_; intro v6 wm6 r6 _; have zz6 := And.intro (Sat.cell (Sat.up2 r6) 6) (Sat.frozen (Sat.up2 r6) 6); obtain ⟨B6, d6, hv6, _⟩ := Sat.row r6; subst hv6)
          have t60 := Sat.set (Sat.up2 r6) 6 (.slice B6 (k + 1) d6)
          generalize hwy6 : wm6.setCell _ _ = wy6 at t60 ⊢
          have t6 := Sat.dn6 (Sat.tabSnoc (D := fun _ => ([] : List Nat)) rfl (Sat.dn2 t60))
          clear hwy6 t60 r6 zz6 x6 u6 t5
          obtain ⟨hd7, u7⟩ := Sat.tabOpen (Sat.up7 t6)
          obtain ⟨A7, cap7, hq7, _⟩ := Sat.row u7
          try simp only at hq7
          subst hq7
          have x7 : wy6.cell? ⟨p, 7, none⟩ = some (.slice A7 k cap7) := Sat.cell (Sat.up2 u7) 7
          go_upto_region 23 with (at_builtin; refine wpList_append_sep rfl (.tmp 104) (.tmp 105) 38 rfl iS _ 24 Try.underlying38 hiS hS0 hS1 hS2 rfl (by decide) rfl (u7.alloc (.cells #[nilS] 58)) ⟨wy6.heap.size, 0, none⟩ 1 1 [nilS] rfl rfl (newsN wy6 58 _) (by simp [Value.oneCell', nilS]) (by unfold maxLen; omega) (by omega) ?_; intro v7 wm7 r7 _; have zz7 := And.intro (Sat.cell (Sat.up2 r7) 7) (Sat.frozen (Sat.up2 r7) 7); obtain ⟨B7, d7, hv7, _⟩ := Sat.row r7; subst hv7)
          have t70 := Sat.set (Sat.up2 r7) 7 (.slice B7 (k + 1) d7)
          generalize hwy7 : wm7.setCell _ _ = wy7 at t70 ⊢
          have t7 := Sat.dn7 (Sat.tabSnoc (D := fun _ => ([] : List Nat)) rfl (Sat.dn2 t70))
          clear hwy7 t70 r7 zz7 x7 u7 t6
          obtain ⟨hd8, u8⟩ := Sat.tabOpen (Sat.up8 t7)
          obtain ⟨A8, cap8, hq8, _⟩ := Sat.row u8
          try simp only at hq8
          subst hq8
          have x8 : wy7.cell? ⟨p, 8, none⟩ = some (.slice A8 k cap8) := Sat.cell (Sat.up2 u8) 8
          go_upto_region 24 with (at_builtin; refine wpList_append_sep rfl (.tmp 113) (.tmp 114) 38 rfl iS _ 24 Try.underlying38 hiS hS0 hS1 hS2 rfl (by decide) rfl (u8.alloc (.cells #[nilS] 58)) ⟨wy7.heap.size, 0, none⟩ 1 1 [nilS] rfl rfl (newsN wy7 58 _) (by simp [Value.oneCell', nilS]) (by unfold maxLen; omega) (by omega) ?_; intro v8 wm8 r8 _; have zz8 := And.intro (Sat.cell (Sat.up2 r8) 8) (Sat.frozen (Sat.up2 r8) 8); obtain ⟨B8, d8, hv8, _⟩ := Sat.row r8; subst hv8)
          have t80 := Sat.set (Sat.up2 r8) 8 (.slice B8 (k + 1) d8)
          generalize hwy8 : wm8.setCell _ _ = wy8 at t80 ⊢
          have t8 := Sat.dn8 (Sat.tabSnoc (D := fun _ => ([] : List Nat)) rfl (Sat.dn2 t80))
          clear hwy8 t80 r8 zz8 x8 u8 t7
          have tt : Sat X wy8 (netL W p (.slice A E.length c) (k + 1) nI ⟨.slice A2 (k + 1) c2, vG, vB, vR, .slice B5 (k + 1) d5, .slice B6 (k + 1) d6, .slice B7 (k + 1) d7, .slice B8 (k + 1) d8⟩ (Net0 E) ++ F) := t8
          obtain ⟨g3, capg3, ca3, hv3, _, y1, _⟩ := Sat.ptrs (Sat.up1 tt) (Nat.lt_succ_self k)
          injection hv3 with hvA _ hvB
          subst hvA hvB
          have y2 : wy8.cell? ⟨p, 1, none⟩ = some (.slice (some ⟨g3, 0, none⟩) (k + 1) c2) := Sat.cell tt 1
          have T5 := Lib.hid tt
          clear t8 tt
          go_wp2
          go_roundg (E.length - (k + 1))
          case measure => omega
          case rel => exact ⟨k + 1, _, _, _, _, _, by omega, by omega, by go_num, T5.out⟩
        · have hge : (E.length : Int) ≤ (k : Int) := by omega
          obtain rfl : k = E.length := by omega
          go_wp2
          go_ret
          exact ⟨p, _, rfl, hS⟩
end
end Go.Proofs.Ytacklfjpbboijaa
