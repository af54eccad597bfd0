import Derived.Test.YtnajbooajlhdbaaDoorHeadP
import Derived.Test.YtnajbooajlhdbaaDoorAgg5
/-! Heads: Free, may, both. -/
namespace Go.Proofs.YtnajbooajlhdbaaDoor.Ct
open Go.RowKit
set_option linter.unusedVariables false
set_option linter.unusedSimpArgs false
def headC (h : Hd) : Array Value := #[.bool h.used, .int .i64 h.lba, .int .u64 h.gen, .int .u32 h.sum, .int .u32 h.wear]
def headV (h : Hd) : Value := .agg (headC h)
set_option maxHeartbeats 2000000 in
theorem free_calls (wear : Int) (w : World) : Calls Tryd.prog 15 #[.int .u32 wear] w fun e w' => e = .returned (headV ⟨false, 0, 0, 0, wear⟩) ∧ Below w.heap.size w w' := by
  unfold headV headC
  dsimp only
  go_enter Tryd.func15, Tryd.ntmps15
  go_wp2
  refine bodyPost_ret (results_c rfl _ _ w.heap.size _ _ _ _ rfl (heap_alloc_new _ _) Tryd.underlying25 rfl (by kernel_rfl)) rfl ?_
  exact ⟨rfl, below_alloc (Below.refl _ _) _⟩
theorem mayH_cases (h : Hd) : (h.used = true ∧ MayH h) ∨ (h.used = true ∧ ¬ MayH h ∧ (h.lba < 0 ∨ (0 ≤ h.lba ∧ (65535 < h.lba ∨ (h.lba ≤ 65535 ∧ (h.gen < 1 ∨ (1 ≤ h.gen ∧ 4611686018427387904 < h.gen))))))) ∨
    (h.used = false ∧ MayH h) ∨ (h.used = false ∧ ¬ MayH h ∧ (h.lba ≠ 0 ∨ (h.lba = 0 ∧ (h.gen ≠ 0 ∨ (h.gen = 0 ∧ h.sum ≠ 0))))) := by
  unfold MayH
  cases h.used <;> simp <;> omega
set_option maxHeartbeats 4000000 in
theorem hmay_calls (h : Hd) (w : World) (hw : WfH h) : Calls Tryd.prog 18 #[headV h] w fun e w' => e = .returned (.bool (decide (MayH h))) ∧ Below w.heap.size w w' := by
  have FC := Lib.hid (fun w => free_calls h.wear w)
  obtain ⟨-, ⟨g0, g1⟩, ⟨c0, c1⟩, d0, d1⟩ := hw
  have hc := mayH_cases h
  have hb1 := below_alloc (Below.refl w.heap.size w) (.cells (headC h) 25)
  have hk1 : Blk (w.alloc (.cells (headC h) 25)) w.heap.size 25 (headC h) := Blk.new _ _ _
  unfold headV headC at *
  obtain ⟨used, lba, gen, sum, wear⟩ := h
  dsimp only at *
  rcases hc with ⟨rfl, hm⟩ | ⟨rfl, hm, hc⟩ | ⟨rfl, hm⟩ | ⟨rfl, hm, hc⟩
  · rw [decide_eq_true hm]
    unfold MayH at hm
    simp only [true_and, Bool.true_eq_false, false_and, or_false] at hm
    obtain ⟨h1, h2, h3, h4⟩ := hm
    clear FC hb1 hk1
    go_enter Tryd.func18, Tryd.ntmps18
    go_wp2
    go_ret
    exact ⟨rfl, below_alloc (Below.refl _ _) _⟩
  · rw [decide_eq_false hm]
    clear FC hb1 hk1 hm
    rcases hc with h1 | ⟨h1, h2 | ⟨h2, h3 | ⟨h3, h4⟩⟩⟩
    all_goals
      go_enter Tryd.func18, Tryd.ntmps18
      go_wp2
      go_ret
      first
        | exact ⟨rfl, below_alloc (Below.refl _ _) _⟩
        | exact ⟨ret_bool (decide_eq_false (by omega)), below_alloc (Below.refl _ _) _⟩
  · rw [decide_eq_true hm]
    unfold MayH at hm
    simp only [true_and, Bool.false_eq_true, false_and, false_or] at hm
    obtain ⟨rfl, rfl, rfl⟩ := hm
    have HB1 := Lib.hid hb1
    have HK1 := Lib.hid hk1
    clear hb1 hk1 g0 g1 c0 c1
    go_enter Tryd.func18, Tryd.ntmps18
    go_upto_region 2 with (fail)
    go_region_held (fun w' => w'.cell? ⟨w.heap.size, 0, none⟩ = some (.bool false) ∧ w'.cell? ⟨w.heap.size, 1, none⟩ = some (.int .i64 0) ∧ w'.cell? ⟨w.heap.size, 2, none⟩ = some (.int .u64 0) ∧ w'.cell? ⟨w.heap.size, 3, none⟩ = some (.int .u32 0) ∧ w'.cell? ⟨w.heap.size, 4, none⟩ = some (.int .u32 wear))
      (exact (cells5 ((by repeat (first | with_reducible exact HK1.out | with_reducible apply Blk.alloc | with_reducible apply Blk.drewN | with_reducible apply Blk.drew | exact HK1.out)))).1)
      (first
        | (go_at_call 15; (with_reducible refine (FC.out _).mono ?_); rintro e w2 ⟨rfl, hb⟩; have HB1 := Lib.hid (below_step ((by repeat (first | with_reducible exact HB1.out | with_reducible apply below_alloc | with_reducible apply below_drewN | with_reducible apply below_drew))) hb); have HK1 := Lib.hid (Blk.below ((by repeat (first | with_reducible exact HK1.out | with_reducible apply Blk.alloc | with_reducible apply Blk.drewN | with_reducible apply Blk.drew | exact HK1.out))) hb); clear hb))
    all_goals go_wp2
    all_goals go_ret
    all_goals exact ⟨rfl, HB1.out⟩
  · rw [decide_eq_false hm]
    have HB1 := Lib.hid hb1
    have HK1 := Lib.hid hk1
    clear hb1 hk1 g0 g1 c0 c1 hm
    rcases hc with h1 | ⟨h1, h2 | ⟨h2, h3⟩⟩
    all_goals
      first
        | (have q1 : (lba == 0) = false := beq_eq_false_iff_ne.2 h1; clear h1)
        | (have q1 : (lba == 0) = true := beq_iff_eq.2 h1; clear h1)
      try first
        | (have q2 : (gen == 0) = false := beq_eq_false_iff_ne.2 h2; clear h2)
        | (have q2 : (gen == 0) = true := beq_iff_eq.2 h2; clear h2)
      try (have q3 : (sum == 0) = false := beq_eq_false_iff_ne.2 h3; clear h3)
      go_enter Tryd.func18, Tryd.ntmps18
      go_upto_region 2 with (fail)
      go_region_held (fun w' => w'.cell? ⟨w.heap.size, 0, none⟩ = some (.bool false) ∧ w'.cell? ⟨w.heap.size, 1, none⟩ = some (.int .i64 lba) ∧ w'.cell? ⟨w.heap.size, 2, none⟩ = some (.int .u64 gen) ∧ w'.cell? ⟨w.heap.size, 3, none⟩ = some (.int .u32 sum) ∧ w'.cell? ⟨w.heap.size, 4, none⟩ = some (.int .u32 wear))
        (exact (cells5 ((by repeat (first | with_reducible exact HK1.out | with_reducible apply Blk.alloc | with_reducible apply Blk.drewN | with_reducible apply Blk.drew | exact HK1.out)))).1)
        (first
          | (go_at_call 15; (with_reducible refine (FC.out _).mono ?_); rintro e w2 ⟨rfl, hb⟩; have HB1 := Lib.hid (below_step ((by repeat (first | with_reducible exact HB1.out | with_reducible apply below_alloc | with_reducible apply below_drewN | with_reducible apply below_drew))) hb); have HK1 := Lib.hid (Blk.below ((by repeat (first | with_reducible exact HK1.out | with_reducible apply Blk.alloc | with_reducible apply Blk.drewN | with_reducible apply Blk.drew | exact HK1.out))) hb); clear hb))
      all_goals go_wp2
      all_goals go_ret
      all_goals exact ⟨rfl, HB1.out⟩
set_option maxHeartbeats 4000000 in
theorem rhmay_calls (h : Hd) (w : World) (hw : WfH h) : Calls Tryd.prog 21 #[headV h] w fun e w' => e = .returned (.bool (decide (MayH h))) ∧ Below w.heap.size w w' := by
  obtain ⟨-, ⟨g0, g1⟩, ⟨c0, c1⟩, d0, d1⟩ := hw
  have hc := mayH_cases h
  unfold headV headC at *
  obtain ⟨used, lba, gen, sum, wear⟩ := h
  dsimp only at *
  rcases hc with ⟨rfl, hm⟩ | ⟨rfl, hm, hc⟩ | ⟨rfl, hm⟩ | ⟨rfl, hm, hc⟩
  · rw [decide_eq_true hm]
    unfold MayH at hm
    simp only [true_and, Bool.true_eq_false, false_and, or_false] at hm
    obtain ⟨h1, h2, h3, h4⟩ := hm
    have h5 : lba < 65536 := by omega
    clear h2
    go_enter Tryd.func21, Tryd.ntmps21
    go_wp2
    go_ret
    exact ⟨rfl, below_alloc (Below.refl _ _) _⟩
  · rw [decide_eq_false hm]
    clear hm
    rcases hc with h1 | ⟨h1, h2 | ⟨h2, h3 | ⟨h3, h4⟩⟩⟩
    all_goals
      try first
        | (have h5 : lba < 65536 := by omega)
        | (have h5 : ¬ lba < 65536 := by omega)
      try clear h2
      go_enter Tryd.func21, Tryd.ntmps21
      go_wp2
      go_ret
      first
        | exact ⟨rfl, below_alloc (Below.refl _ _) _⟩
        | exact ⟨ret_bool (decide_eq_false (by omega)), below_alloc (Below.refl _ _) _⟩
  · rw [decide_eq_true hm]
    unfold MayH at hm
    simp only [true_and, Bool.false_eq_true, false_and, false_or] at hm
    obtain ⟨rfl, rfl, rfl⟩ := hm
    go_enter Tryd.func21, Tryd.ntmps21
    go_wp2
    go_ret
    exact ⟨rfl, below_alloc (Below.refl _ _) _⟩
  · rw [decide_eq_false hm]
    clear hm
    rcases hc with h1 | ⟨h1, h2 | ⟨h2, h3⟩⟩
    all_goals
      first
        | (have q1 : (lba == 0) = false := beq_eq_false_iff_ne.2 h1; clear h1)
        | (have q1 : (lba == 0) = true := beq_iff_eq.2 h1; clear h1)
      try first
        | (have q2 : (gen == 0) = false := beq_eq_false_iff_ne.2 h2; clear h2)
        | (have q2 : (gen == 0) = true := beq_iff_eq.2 h2; clear h2)
      try (have q3 : (sum == 0) = false := beq_eq_false_iff_ne.2 h3; clear h3)
      go_enter Tryd.func21, Tryd.ntmps21
      go_wp2
      go_ret
      exact ⟨rfl, below_alloc (Below.refl _ _) _⟩
end Go.Proofs.YtnajbooajlhdbaaDoor.Ct
