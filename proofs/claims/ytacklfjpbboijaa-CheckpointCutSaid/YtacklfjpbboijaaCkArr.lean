/-
  CheckpointCut, walks: what a gate says, in one contract.
-/
import Derived.Test.YtacklfjpbboijaaCkBar
import Derived.Test.YtacklfjpbboijaaCkRep
namespace Go.Proofs.Ytacklfjpbboijaa
open Go.RowKit Go.Sep Go.Ck

section
variable (g mb i : Nat) (G : Gate) (X w : World) (F : List Asn)

theorem full_iff (hm : i ∉ G.came) : G.full i = true ↔ G.came.length + 1 = G.chs := by
  unfold Gate.full Gate.put
  rw [if_neg hm]
  simp

theorem gate_open (h : Sat X w (gateA g G :: F)) : ∃ mb, Sat X w (blk g 74 #[.int .i64 (G.chs : Int), .map (some mb), .int .i64 (G.num : Int), .int .i64 (G.kind : Int)] :: trues mb G.came :: F) := by
  obtain ⟨mb, h⟩ := h.ex
  exact ⟨mb, h.all⟩
theorem gate_shut (h : Sat X w (blk g 74 #[.int .i64 (G.chs : Int), .map (some mb), .int .i64 (G.num : Int), .int .i64 (G.kind : Int)] :: trues mb G.came :: F)) : Sat X w (gateA g G :: F) :=
  (Sat.shut (l := [_, _]) h).mkEx mb

theorem barrier_ok (n κ : Nat) (hκ : κ ≤ 1) (hm : i ∉ G.came)
    (h : Sat X w (blk g 74 #[.int .i64 (G.chs : Int), .map (some mb), .int .i64 (G.num : Int), .int .i64 (G.kind : Int)] :: trues mb G.came :: F)) :
    Calls Try.prog 30 #[.pointer (some ⟨g, 0, none⟩), .int .i64 (i : Int), .int .i64 (n : Int), .int .i64 (κ : Int)] w fun e w' =>
      e = .returned (.int .i64 (G.barrier i n κ).2) ∧ Sat X w' (gateA g (G.barrier i n κ).1 :: F) := by
  obtain ⟨chs, came, num, kind⟩ := G
  have hfi := full_iff i ⟨chs, came, num, kind⟩ hm
  unfold Gate.barrier
  simp only at *
  have hput : (⟨chs, came, num, kind⟩ : Gate).put i = came ++ [i] := by unfold Gate.put; exact if_neg hm
  rw [hput]
  by_cases hf : came.length + 1 = chs
  · rw [if_pos (hfi.2 hf)]
    have hfull : (⟨chs, came, num, kind⟩ : Gate).full i = true := hfi.2 hf
    rcases Nat.eq_zero_or_pos num with h0 | h0
    · subst h0
      have hbusy : (⟨chs, came, 0, kind⟩ : Gate).busy = false := rfl
      have : κ = 0 ∨ κ = 1 := by omega
      rcases this with rfl | rfl
      · rw [if_pos (.inl ⟨rfl, hfull⟩)]
        exact barrier_full_0_idle g mb i chs kind n came X w F hf hm h
      · rw [if_pos (.inr ⟨rfl, hbusy⟩)]
        exact barrier_full_1_idle g mb i chs kind n came X w F hf hm h
    · have hbusy : (⟨chs, came, num, kind⟩ : Gate).busy = true := by simp [Gate.busy, h0]
      have : κ = 0 ∨ κ = 1 := by omega
      rcases this with rfl | rfl
      · rw [if_pos (.inl ⟨rfl, hfull⟩)]
        exact barrier_full_0_busy g mb i chs num kind n came X w F h0 hf hm h
      · rw [if_neg (by rintro (⟨h, _⟩ | ⟨_, h⟩); omega; rw [hbusy] at h; cases h)]
        exact barrier_full_1_busy g mb i chs num kind n came X w F h0 hf hm h
  · have hfull : ¬ (⟨chs, came, num, kind⟩ : Gate).full i = true := fun h => hf (hfi.1 h)
    rw [if_neg hfull]
    rcases Nat.eq_zero_or_pos num with h0 | h0
    · subst h0
      have hbusy : (⟨chs, came, 0, kind⟩ : Gate).busy = false := rfl
      have : κ = 0 ∨ κ = 1 := by omega
      rcases this with rfl | rfl
      · rw [if_neg (by rintro (⟨_, h⟩ | ⟨h, _⟩); exact hfull h; omega)]
        exact barrier_part_0_idle g mb i chs kind n came X w F hf hm h
      · rw [if_pos (.inr ⟨rfl, hbusy⟩)]
        exact barrier_part_1_idle g mb i chs kind n came X w F hf hm h
    · have hbusy : (⟨chs, came, num, kind⟩ : Gate).busy = true := by simp [Gate.busy, h0]
      have : κ = 0 ∨ κ = 1 := by omega
      rcases this with rfl | rfl
      · rw [if_neg (by rintro (⟨_, h⟩ | ⟨h, _⟩); exact hfull h; omega)]
        exact barrier_part_0_busy g mb i chs num kind n came X w F h0 hf hm h
      · rw [if_neg (by rintro (⟨h, _⟩ | ⟨_, h⟩); omega; rw [hbusy] at h; cases h)]
        exact barrier_part_1_busy g mb i chs num kind n came X w F h0 hf hm h

theorem arrive_mark_ok (n κ : Nat) (hi : i < G.chs) (hκ : κ ≤ 1) (hkk : 0 < G.num → G.kind = κ) (hnum : G.num ≤ 1000) (h : Sat X w (gateA g G :: F)) :
    Calls Try.prog 19 #[.pointer (some ⟨g, 0, none⟩), .int .i64 (i : Int), .agg #[.int .i64 2, .int .i64 0, .int .i64 0, .int .i64 0, .int .i64 (n : Int), .slice none 0 0], .int .i64 (κ : Int)] w
      fun e w' => e = .returned (.int .i64 (G.arrive i ⟨false, n⟩ κ).2) ∧ Sat X w' (gateA g G :: F) := by
  obtain ⟨mb, h'⟩ := gate_open g G X w F h
  obtain ⟨chs, came, num, kind⟩ := G
  rw [arrive_mark]
  simp only at *
  rcases Nat.eq_zero_or_pos num with h0 | h0
  · subst h0
    have hbusy : (⟨chs, came, 0, kind⟩ : Gate).busy = false := rfl
    rw [if_neg (by rw [hbusy]; rintro ⟨h, _⟩; cases h), if_neg (by rw [hbusy]; rintro ⟨h, _⟩; cases h)]
    exact (arrive_idle_mark g mb i chs kind κ came X w F n hi (by omega) h').mono fun e w' ⟨he, hw⟩ => ⟨he, h.ext hw⟩
  · have hbusy : (⟨chs, came, num, kind⟩ : Gate).busy = true := by simp [Gate.busy, h0]
    obtain rfl := hkk h0
    have : kind = 0 ∨ kind = 1 := by omega
    rcases this with rfl | rfl
    · by_cases hm : i ∈ came
      · rw [if_pos ⟨hbusy, by decide, hm⟩]
        exact (arrive_b1 g mb i chs num came X w F n h0 hnum hi hm h').mono fun e w' ⟨he, hw⟩ => ⟨he, h.ext hw⟩
      · rw [if_neg (fun h => hm h.2.2), if_neg (fun h => by cases h.2.1)]
        exact (arrive_b2 g mb i chs num came X w F n h0 hnum hi hm h').mono fun e w' ⟨he, hw⟩ => ⟨he, h.ext hw⟩
    · by_cases hm : i ∈ came
      · rw [if_neg (fun h => h.2.1 rfl), if_neg (fun h => h.2.2 hm)]
        exact (arrive_c2 g mb i chs num came X w F n h0 hnum hi hm h').mono fun e w' ⟨he, hw⟩ => ⟨he, h.ext hw⟩
      · rw [if_neg (fun h => hm h.2.2), if_pos ⟨hbusy, rfl, hm⟩]
        exact (arrive_c1 g mb i chs num came X w F n h0 hnum hi hm h').mono fun e w' ⟨he, hw⟩ => ⟨he, h.ext hw⟩

theorem arrive_bar_ok (n κ : Nat) (hn : 1 ≤ n) (hn9 : n ≤ 1000) (hi : i < G.chs) (hκ : κ ≤ 1) (hkk : 0 < G.num → G.kind = κ ∧ G.num = n) (hm : i ∉ G.came) (h : Sat X w (gateA g G :: F)) :
    Calls Try.prog 19 #[.pointer (some ⟨g, 0, none⟩), .int .i64 (i : Int), .agg #[.int .i64 1, .int .i64 0, .int .i64 0, .int .i64 0, .int .i64 (n : Int), .slice none 0 0], .int .i64 (κ : Int)] w
      fun e w' => e = .returned (.int .i64 (G.arrive i ⟨true, n⟩ κ).2) ∧ Sat X w' (gateA g (G.arrive i ⟨true, n⟩ κ).1 :: F) := by
  obtain ⟨mb, h'⟩ := gate_open g G X w F h
  have harr : G.arrive i ⟨true, n⟩ κ = G.barrier i n κ := by
    unfold Gate.arrive
    rw [if_neg (fun h => hm h.2.2), if_neg (by simp), if_neg (by simp), if_neg]
    rintro (h | ⟨h1, h2⟩)
    · simp only at h; omega
    · obtain ⟨a, b⟩ := hkk (by simpa [Gate.busy] using h1)
      rcases h2 with h2 | h2 | h2
      · exact h2 b.symm
      · exact h2 a.symm
      · exact hm h2
  rw [harr]
  have hbar : ∀ w1, Ext w w1 → _ := fun w1 hw => barrier_ok g mb i G X w1 F n κ hκ hm (h'.ext hw)
  generalize G.barrier i n κ = gb at *
  obtain ⟨chs, came, num, kind⟩ := G
  simp only at *
  rcases Nat.eq_zero_or_pos num with h0 | h0
  · subst h0
    exact arrive_idle_bar g mb i chs kind κ came X w F n gb.2 hn hn9 hi (by omega) h' (fun w2 => Sat X w2 (gateA g gb.1 :: F)) hbar
  · obtain ⟨rfl, rfl⟩ := hkk h0
    have : kind = 0 ∨ kind = 1 := by omega
    rcases this with rfl | rfl
    · exact arrive_b3 g mb i chs num came X w F gb.2 h0 hn9 hi hm h' (fun w2 => Sat X w2 (gateA g gb.1 :: F)) hbar
    · exact arrive_c3 g mb i chs num came X w F gb.2 h0 hn9 hi hm h' (fun w2 => Sat X w2 (gateA g gb.1 :: F)) hbar
end
end Go.Proofs.Ytacklfjpbboijaa
