import Derived.Test.YtkahnkjbbcfbgaaDoorGenP
import Derived.Test.YtkahnkjbbcfbgaaDoorAgg8
/-! Generation pages: num, may, Fresh, both. -/
namespace Go.Proofs.YtkahnkjbbcfbgaaDoor.Ct
open Go.RowKit
set_option linter.unusedVariables false
set_option linter.unusedSimpArgs false
def genC (p : Gp) : Array Value := #[.int .i64 p.no, .int .u64 p.ver, .int .u64 p.g0, .int .u64 p.g1, .int .u64 p.g2, .int .u64 p.g3, .int .u64 p.g4, .int .u64 p.g5]
def genV (p : Gp) : Value := .agg (genC p)
theorem infoU64 : (Tryd.prog.info? 22).map (fun i => (i.zero, i.size, i.bytes)) = some (some (.int .u64 0), 1, 8) := by kernel_rfl
set_option maxHeartbeats 2000000 in
theorem gnum_calls (n : Int) (w : World) : Calls Tryd.prog 30 #[.int .u64 n] w fun e w' => e = .returned (.bool (decide (NumOk n))) ∧ w = w' := by
  by_cases h1 : 1 ≤ n
  · have E := Lib.hid (show decide (NumOk n) = decide (n ≤ 4611686018427387904) by unfold NumOk; simp [h1])
    go_enter Tryd.func30, Tryd.ntmps30
    go_wp2
    go_ret
    exact ⟨ret_bool (by rw [E.out]), rfl⟩
  · have E := Lib.hid (show decide (NumOk n) = false from decide_eq_false (fun h => h1 h.1))
    go_enter Tryd.func30, Tryd.ntmps30
    go_wp2
    go_ret
    exact ⟨ret_bool (by rw [E.out]), rfl⟩
set_option maxHeartbeats 2000000 in
theorem rgnum_calls (n : Int) (w : World) : Calls Tryd.prog 29 #[.int .u64 n] w fun e w' => e = .returned (.bool (decide (NumOk n))) ∧ w = w' := by
  by_cases h1 : 1 ≤ n
  · have E := Lib.hid (show decide (NumOk n) = decide (n ≤ 4611686018427387904) by unfold NumOk; simp [h1])
    go_enter Tryd.func29, Tryd.ntmps29
    go_wp2
    go_ret
    exact ⟨ret_bool (by rw [E.out]), rfl⟩
  · have E := Lib.hid (show decide (NumOk n) = false from decide_eq_false (fun h => h1 h.1))
    go_enter Tryd.func29, Tryd.ntmps29
    go_wp2
    go_ret
    exact ⟨ret_bool (by rw [E.out]), rfl⟩
theorem gens_all {p : Gp} {Q : Int → Prop} (h : ∀ j, j < 6 → Q (p.gens.getD j 0)) : ∀ x ∈ p.gens, Q x := by
  intro x hx
  obtain ⟨j, hj, rfl⟩ := List.getElem_of_mem hx
  have := h j (by simpa [Gp.gens] using hj)
  rwa [List.getD_eq_getElem?_getD, List.getElem?_eq_getElem hj] at this
theorem gens_at {p : Gp} {Q : Int → Prop} (h : ∀ x ∈ p.gens, Q x) {j : Nat} (hj : j < 6) : Q (p.gens.getD j 0) := by
  have hl : j < p.gens.length := by simpa [Gp.gens] using hj
  exact h _ (by rw [List.getD_eq_getElem?_getD, List.getElem?_eq_getElem hl]; exact List.getElem_mem hl)
theorem gens_cell (p : Gp) {k : Nat} (hk : k < 6) : #[Value.int .u64 p.g0, .int .u64 p.g1, .int .u64 p.g2, .int .u64 p.g3, .int .u64 p.g4, .int .u64 p.g5][k]? = some (.int .u64 (p.gens.getD k 0)) := by
  have : k = 0 ∨ k = 1 ∨ k = 2 ∨ k = 3 ∨ k = 4 ∨ k = 5 := by omega
  rcases this with rfl | rfl | rfl | rfl | rfl | rfl <;> rfl
set_option maxHeartbeats 4000000 in
theorem gmay_calls (p : Gp) (w : World) (hp : WfG p) : Calls Tryd.prog 17 #[genV p] w fun e w' => e = .returned (.bool (decide (MayG p))) ∧ Below w.heap.size w w' := by
  have IX := Lib.hid (fun (W : World) k (hk : k < 6) => run_index_agg (P := Tryd.prog) (w := W) 23 22 6 8 _ Tryd.underlying23 (by kernel_rfl) infoU64 _ _ k hk (gens_cell p hk))
  have NC := Lib.hid (fun n w => gnum_calls n w)
  have HM := Lib.hid (fun (h1 : 0 ≤ p.no ∧ p.no ≤ 65535) (h2 : NumOk p.ver) (h3 : ∀ j, j < 6 → NumOk (p.gens.getD j 0)) => (show MayG p from ⟨h1, h2, gens_all h3⟩))
  have HN := Lib.hid (fun (h : MayG p) => (show (0 ≤ p.no ∧ p.no ≤ 65535) ∧ NumOk p.ver ∧ ∀ j, j < 6 → NumOk (p.gens.getD j 0) from ⟨h.1, h.2.1, fun j hj => gens_at h.2.2 hj⟩))
  have V1 := NC.out p.ver
  by_cases h1 : 0 ≤ p.no ∧ p.no ≤ 65535
  · by_cases h2 : NumOk p.ver
    · rw [decide_eq_true h2] at V1
      have NV := Lib.hid V1
      have HB1 := Lib.hid (below_alloc (Below.refl w.heap.size w) (.cells (genC p) 25))
      have HMM := Lib.hid (HM.out h1 h2)
      obtain ⟨h10, h11⟩ := h1
      clear V1 HM hp h2
      unfold genV genC at *
      generalize hdm : decide (MayG p) = dm at *
      have DT := Lib.hid (show MayG p → dm = true from fun h => by rw [← hdm]; exact decide_eq_true h)
      have DF := Lib.hid (show ¬ MayG p → dm = false from fun h => by rw [← hdm]; exact decide_eq_false h)
      clear hdm
      go_enter Tryd.func17, Tryd.ntmps17
      go_wp2_with (go_at_call 30; (with_reducible refine (NV.out _).mono ?_); rintro e w' ⟨rfl, rfl⟩)
      go_loop [4, 21] (fun _ i => ∃ k : Nat, k ≤ 6 ∧ i = .int .i64 k ∧ ∀ j, j < k → NumOk (p.gens.getD j 0)) (fun _ i => 6 - (intOf i).toNat)
      case atStart => exact ⟨0, by omega, rfl, fun j hj => by omega⟩
      case round =>
        obtain ⟨k, hk, rfl, hall⟩ := hrel
        have HA := Lib.hid hall
        clear hall
        by_cases hlt : k < 6
        · have ix := fun W => IX.out W k hlt
          have hlt6 : (k : Int) < 6 := by omega
          have NK := NC.out (p.gens.getD k 0)
          have HX := Lib.hid (fun (h : NumOk (p.gens.getD k 0)) => (show ∀ j, j < k + 1 → NumOk (p.gens.getD j 0) from fun j hj => by
            rcases Nat.lt_succ_iff_lt_or_eq.1 hj with h1 | rfl
            · exact HA.out j h1
            · exact h))
          have HY := Lib.hid (fun (h : ¬ NumOk (p.gens.getD k 0)) => DF.out (fun hm => h ((HN.out hm).2.2 k hlt)))
          generalize p.gens.getD k 0 = n at *
          by_cases hn : NumOk n
          · rw [decide_eq_true hn] at NK
            have NK1 := Lib.hid NK
            have HX1 := Lib.hid (HX.out hn)
            clear NK hn HX HY
            go_wp2_with (go_at_call 30; (with_reducible refine (NK1.out _).mono ?_); rintro e w' ⟨rfl, rfl⟩)
            go_round
            case rel => exact ⟨k + 1, by omega, by go_num, HX1.out⟩
            case measure => simp [intOf]; omega
          · rw [decide_eq_false hn] at NK
            have NK1 := Lib.hid NK
            have HY1 := Lib.hid (HY.out hn)
            clear NK hn HX HY
            go_wp2_with (go_at_call 30; (with_reducible refine (NK1.out _).mono ?_); rintro e w' ⟨rfl, rfl⟩)
            go_ret
            exact ⟨ret_bool HY1.out.symm, HB1.out⟩
        · obtain rfl : k = 6 := by omega
          have HD := Lib.hid (DT.out (HMM.out HA.out))
          go_wp2
          go_ret
          exact ⟨ret_bool HD.out.symm, HB1.out⟩
    · rw [decide_eq_false h2] at V1
      have NV := Lib.hid V1
      rw [decide_eq_false (fun h => h2 (HN.out h).2.1)]
      obtain ⟨h10, h11⟩ := h1
      clear V1 HM HN hp h2 IX NC
      unfold genV genC at *
      go_enter Tryd.func17, Tryd.ntmps17
      go_wp2_with (go_at_call 30; (with_reducible refine (NV.out _).mono ?_); rintro e w' ⟨rfl, rfl⟩)
      go_ret
      exact ⟨rfl, below_alloc (Below.refl _ _) _⟩
  · rw [decide_eq_false (fun h => h1 (HN.out h).1)]
    have hc : p.no < 0 ∨ (0 ≤ p.no ∧ 65535 < p.no) := by omega
    clear V1 HM HN hp IX NC h1
    unfold genV genC at *
    rcases hc with h1 | ⟨h1, h2⟩
    all_goals
      go_enter Tryd.func17, Tryd.ntmps17
      go_wp2
      go_ret
      exact ⟨rfl, below_alloc (Below.refl _ _) _⟩
theorem genC_cell (p : Gp) {k : Nat} (hk : k < 6) : (genC p)[2 + k]? = some (.int .u64 (p.gens.getD k 0)) := by
  have : k = 0 ∨ k = 1 ∨ k = 2 ∨ k = 3 ∨ k = 4 ∨ k = 5 := by omega
  rcases this with rfl | rfl | rfl | rfl | rfl | rfl <;> rfl
set_option maxHeartbeats 4000000 in
theorem rgmay_calls (p : Gp) (w : World) (hp : WfG p) : Calls Tryd.prog 15 #[genV p] w fun e w' => e = .returned (.bool (decide (MayG p))) ∧ Below w.heap.size w w' := by
  have NC := Lib.hid (fun n w => rgnum_calls n w)
  have HM : Hid (MayG p ↔ ((0 ≤ p.no ∧ p.no ≤ 65535) ∧ NumOk p.ver) ∧ ∀ j, j < 6 → NumOk (p.gens.getD j 0)) := Lib.hid ⟨fun h => ⟨⟨h.1, h.2.1⟩, fun j hj => gens_at h.2.2 hj⟩, fun h => ⟨h.1.1, h.1.2, gens_all h.2⟩⟩
  have HB1 := Lib.hid (below_alloc (Below.refl w.heap.size w) (.cells (genC p) 25))
  have hk1 : Blk (w.alloc (.cells (genC p) 25)) w.heap.size 25 (genC p) := Blk.new _ _ _
  have GC := Lib.hid (fun k (hk : k < 6) => (hk1.cell (2 + k)).trans (genC_cell p hk))
  have V1 := NC.out p.ver
  clear hk1 hp
  unfold genV
  unfold genC at *
  have hc : p.no < 0 ∨ (0 ≤ p.no ∧ 65536 ≤ p.no) ∨ (0 ≤ p.no ∧ p.no < 65536) := by omega
  have HVN := Lib.hid (show decide (NumOk p.ver) = true ↔ NumOk p.ver by simp)
  generalize decide (NumOk p.ver) = nv at *
  have HV := Lib.hid V1
  clear V1
  have HVV : Hid (nv = true ↔ NumOk p.ver) := HVN
  have HS : Hid (((if p.no < 0 then false else if 65536 ≤ p.no then false else nv) = true) ↔ ((0 ≤ p.no ∧ p.no ≤ 65535) ∧ NumOk p.ver)) := Lib.hid (by
    split
    · simp; omega
    · split
      · simp; omega
      · rw [HVV.out]
        constructor
        · intro h; exact ⟨by omega, h⟩
        · exact fun h => h.2)
  clear HVV HVN
  rcases hc with h1 | ⟨h1, h2⟩ | ⟨h1, h2⟩
  all_goals
    first
      | (rw [if_pos h1] at HS; have tok := Lib.hid (show True from trivial))
      | (rw [if_neg (show ¬ p.no < 0 by omega), if_pos h2] at HS; have h3 : ¬ p.no < 65536 := (by omega); clear h2)
      | (rw [if_neg (show ¬ p.no < 0 by omega), if_neg (show ¬ 65536 ≤ p.no by omega)] at HS; have tok := Lib.hid (show True from trivial))
    go_enter Tryd.func15, Tryd.ntmps15
    go_wp2_with (go_at_call 29; (with_reducible refine (HV.out _).mono ?_); rintro e w' ⟨rfl, rfl⟩)
    go_loop [3, 4] (fun o i => ∃ (k : Nat) (b : Bool), k ≤ 6 ∧ i = .int .i64 k ∧ o = .bool b ∧ (b = true ↔ ((0 ≤ p.no ∧ p.no ≤ 65535) ∧ NumOk p.ver) ∧ ∀ j, j < k → NumOk (p.gens.getD j 0))) (fun _ i => 6 - (intOf i).toNat)
    case atStart => exact ⟨0, _, by omega, rfl, rfl, ⟨fun h => ⟨HS.out.1 h, fun j hj => by omega⟩, fun h => HS.out.2 h.1⟩⟩
    case round =>
      obtain ⟨k, b, hk, rfl, rfl, hall⟩ := hrel
      have HA := Lib.hid hall
      clear hall
      by_cases hlt : k < 6
      · have hlt6 : (k : Int) < 6 := by omega
        have gc := GC.out k hlt
        have NK := Lib.hid (NC.out (p.gens.getD k 0))
        have HX := Lib.hid (show ∀ b', (b' = true ↔ NumOk (p.gens.getD k 0)) → ((b && b') = true ↔ ((0 ≤ p.no ∧ p.no ≤ 65535) ∧ NumOk p.ver) ∧ ∀ j, j < k + 1 → NumOk (p.gens.getD j 0)) from fun b' hb' => by
          rw [Bool.and_eq_true, HA.out, hb']
          constructor
          · rintro ⟨⟨x, y⟩, z⟩
            exact ⟨x, fun j hj => by
              rcases Nat.lt_succ_iff_lt_or_eq.1 hj with h1 | rfl
              · exact y j h1
              · exact z⟩
          · rintro ⟨x, y⟩
            exact ⟨⟨x, fun j hj => y j (by omega)⟩, y k (by omega)⟩)
        have HX1 := Lib.hid (HX.out (decide (NumOk (p.gens.getD k 0))) (by simp))
        clear HX
        generalize decide (NumOk (p.gens.getD k 0)) = nk at *
        generalize p.gens.getD k 0 = n at *
        cases b
        · go_wp2
          go_round
          case rel => exact ⟨k + 1, false, by omega, by go_num, rfl, by have := HX1.out; rwa [Bool.false_and] at this⟩
          case measure => simp [intOf]; omega
        · go_wp2_with (go_at_call 29; (with_reducible refine (NK.out _).mono ?_); rintro e w' ⟨rfl, rfl⟩)
          go_round
          case rel => exact ⟨k + 1, nk, by omega, by go_num, rfl, by have := HX1.out; rwa [Bool.true_and] at this⟩
          case measure => simp [intOf]; omega
      · obtain rfl : k = 6 := by omega
        have HE := Lib.hid (show b = decide (MayG p) by
          rw [Bool.eq_iff_iff, HA.out, ← HM.out]; simp)
        go_wp2
        go_ret
        exact ⟨ret_bool HE.out, HB1.out⟩
end Go.Proofs.YtkahnkjbbcfbgaaDoor.Ct
