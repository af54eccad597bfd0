import Derived.Test.YtdmlpggommephaaPlanA
/-! plan.Of, and the reference's Of. -/
namespace Go.Proofs.Ytdmlpggommephaa.Ct
open Go.RowKit
set_option linter.unusedVariables false
set_option linter.unusedSimpArgs false
/-- a plan, as a value: of how many blocks, slots, log sectors. -/
def planV (bl sl lg : Int) : Value :=
  .agg #[.int .i64 bl, .int .i64 (upS bl 8), .int .i64 (upS (upS bl 8) 6), .int .i64 bl, .int .i64 (bl + 2 * upS (upS bl 8) 6), .int .i64 (upS sl 3), .int .i64 (2 + upS sl 3 + upS sl 3), .int .i64 lg, .int .i64 (2 + upS sl 3 + upS sl 3 + lg), .int .i64 sl, .int .i64 2, .int .i64 (2 + upS sl 3), .int .i64 (2 + upS sl 3 + upS sl 3 + lg + 2 * sl)]
/-- results of which the first lies in memory. -/
theorem results_ct {P : Program} {fn : Func} {p u : Tmp} {ty : TypeId} (h : fn.results = #[.cell p ty, .tmp u]) (tmps : Array Value) (w : World) (g : Nat) (t : TypeId) (cs : Array Value) (fr : Nat × Nat) (d : TypeDesc)
    (hp : tmps.getD p undef = .pointer (some ⟨g, 0, none⟩)) (hg : w.heap[g]? = some (.cells cs t fr))
    (hu : P.underlying ty = some d) (hd : (match d with | .struct _ | .array _ _ => true | _ => false) = true) (hi : (P.info? ty).map (·.size) = some cs.size) :
    (results fn tmps).run P w = .ok (.tuple #[.agg cs, tmps.getD u undef]) w := by
  have hp' : tmps[p]?.getD undef = .pointer (some ⟨g, 0, none⟩) := by simpa using hp
  simp [results, h, hp', asAddr, run_loadVar_row w g t ty cs fr d hg hu hd hi]
theorem results_c {P : Program} {fn : Func} {p : Tmp} {ty : TypeId} (h : fn.results = #[.cell p ty]) (tmps : Array Value) (w : World) (g : Nat) (t : TypeId) (cs : Array Value) (fr : Nat × Nat) (d : TypeDesc)
    (hp : tmps.getD p undef = .pointer (some ⟨g, 0, none⟩)) (hg : w.heap[g]? = some (.cells cs t fr))
    (hu : P.underlying ty = some d) (hd : (match d with | .struct _ | .array _ _ => true | _ => false) = true) (hi : (P.info? ty).map (·.size) = some cs.size) :
    (results fn tmps).run P w = .ok (.agg cs) w := by
  have hp' : tmps[p]?.getD undef = .pointer (some ⟨g, 0, none⟩) := by simpa using hp
  simp [results, h, hp', asAddr, run_loadVar_row w g t ty cs fr d hg hu hd hi]
theorem heap_second (w : World) (o1 o2 o3 o4 : Obj) : ((((w.alloc o1).alloc o2).alloc o3).alloc o4).heap[w.heap.size + 1]? = some o2 := by
  rw [Below.heap_alloc _ _ _ (by simp), Below.heap_alloc _ _ _ (by simp)]
  have := heap_alloc_new (w.alloc o1) o2
  simpa using this
theorem below_four (w : World) (o1 o2 o3 o4 : Obj) : Below w.heap.size w ((((w.alloc o1).alloc o2).alloc o3).alloc o4) :=
  below_alloc (below_alloc (below_alloc (below_alloc (Below.refl _ _) _) _) _) _
theorem heap_second3 (w : World) (o1 o2 o3 : Obj) : (((w.alloc o1).alloc o2).alloc o3).heap[w.heap.size + 1]? = some o2 := by
  rw [Below.heap_alloc _ _ _ (by simp)]
  have := heap_alloc_new (w.alloc o1) o2
  simpa using this
theorem heap_second1 (w : World) (o1 o2 : Obj) : ((w.alloc o1).alloc o2).heap[w.heap.size + 1]? = some o2 := by
  have := heap_alloc_new (w.alloc o1) o2
  simpa using this
def confC (bl sl lg wi bu ru sd : Int) (f1 f2 f3 : Nat) : Array Value := #[.int .i64 bl, .int .i64 sl, .int .i64 lg, .int .i64 wi, .int .i64 bu, .int .u64 sd, .float .f64 f1, .float .f64 f2, .float .f64 f3, .int .i64 ru]
/-- the world inside plan.Of, at its loop. -/
def planW (w : World) (C : Array Value) (bl sl lg p1 p2 p3 l0 l1 : Int) : World :=
  (((w.alloc (.cells C 25)).alloc (.cells #[.int .i64 0, .int .i64 0, .int .i64 0, .int .i64 0, .int .i64 0, .int .i64 0, .int .i64 0, .int .i64 0, .int .i64 0, .int .i64 0, .int .i64 0, .int .i64 0, .int .i64 0] 53)).alloc (.cells C 25)).alloc
    (.cells #[.int .i64 bl, .int .i64 p1, .int .i64 p2, .int .i64 bl, .int .i64 (bl + 2 * p2), .int .i64 p3, .int .i64 0, .int .i64 lg, .int .i64 0, .int .i64 sl, .int .i64 l0, .int .i64 l1, .int .i64 0] 49)
set_option maxHeartbeats 4000000 in
theorem plan_of_calls (bl sl lg wi bu ru sd : Int) (f1 f2 f3 : Nat) (w : World) (h : mayS bl sl lg wi bu ru = true) :
    Calls Try.prog 19 #[confV bl sl lg wi bu ru sd f1 f2 f3] w fun e w' => e = .returned (.tuple #[planV bl sl lg, .int .i64 0]) ∧
      (((w.alloc (.cells (confC bl sl lg wi bu ru sd f1 f2 f3) 25)).alloc (.cells (planV bl sl lg).cells 53)).alloc (.cells (confC bl sl lg wi bu ru sd f1 f2 f3) 25)).alloc (.cells (planV bl sl lg).cells 49) = w' := by
  have cc := fun w => check_calls bl sl lg wi bu ru sd f1 f2 f3 w
  rw [h] at cc
  simp only [if_true] at cc
  have hb : (1 ≤ bl ∧ bl ≤ 512) ∧ (1 ≤ sl ∧ sl ≤ 192) ∧ (1 ≤ lg ∧ lg ≤ 256) := by
    unfold mayS inS at h
    simp only [Bool.and_eq_true, decide_eq_true_eq] at h
    omega
  have u1 : upS bl 8 = (bl - 1) / 8 + 1 := by unfold upS; rw [if_neg (by omega)]
  have U1 := Lib.hid (fun w => up_calls bl 8 w (by unfold I64; omega) (by unfold I64; omega))
  have U2 := Lib.hid (fun w => up_calls (upS bl 8) 6 w (by rw [u1]; unfold I64; omega) (by unfold I64; omega))
  have U3 := Lib.hid (fun w => up_calls sl 3 w (by unfold I64; omega) (by unfold I64; omega))
  have u2 : ∀ x, 1 ≤ x → upS x 6 = (x - 1) / 6 + 1 := fun x hx => by unfold upS; rw [if_neg (by omega)]
  have u3 : upS sl 3 = (sl - 1) / 3 + 1 := by unfold upS; rw [if_neg (by omega)]
  have v1 : 1 ≤ upS bl 8 ∧ upS bl 8 ≤ 64 := by omega
  have v2 : 1 ≤ upS (upS bl 8) 6 ∧ upS (upS bl 8) 6 ≤ 11 := by rw [u2 _ v1.1]; omega
  have v3 : 1 ≤ upS sl 3 ∧ upS sl 3 ≤ 64 := by omega
  clear u1 u2 u3 h
  simp only [confV, Value.cells] at cc
  unfold confV
  unfold planV
  generalize upS (upS bl 8) 6 = p2 at *
  generalize upS bl 8 = p1 at *
  generalize upS sl 3 = p3 at *
  have CC := Lib.hid cc; clear cc
  obtain ⟨⟨b1, b2⟩, ⟨b3, b4⟩, b5, b6⟩ := hb
  obtain ⟨v10, v11⟩ := v1
  obtain ⟨v20, v21⟩ := v2
  obtain ⟨v30, v31⟩ := v3
  go_enter Try.func19, Try.ntmps19
  go_wp2_with (first
    | (go_at_call 33; (with_reducible refine (CC.out _).mono ?_); rintro e w1 ⟨rfl, rfl⟩)
    | (go_at_call 34; (with_reducible refine (U1.out _).mono ?_); rintro e w' ⟨rfl, rfl⟩)
    | (go_at_call 34; (with_reducible refine (U2.out _).mono ?_); rintro e w' ⟨rfl, rfl⟩)
    | (go_at_call 34; (with_reducible refine (U3.out _).mono ?_); rintro e w' ⟨rfl, rfl⟩))
  go_loopw [6, 7, 42] (fun at_ r j wr => (j = .int .i64 0 ∧ at_ = .int .i64 2 ∧ wr = planW w (confC bl sl lg wi bu ru sd f1 f2 f3) bl sl lg p1 p2 p3 0 0) ∨ (j = .int .i64 1 ∧ at_ = .int .i64 (2 + p3) ∧ wr = planW w (confC bl sl lg wi bu ru sd f1 f2 f3) bl sl lg p1 p2 p3 2 0) ∨ (j = .int .i64 2 ∧ at_ = .int .i64 (2 + p3 + p3) ∧ wr = planW w (confC bl sl lg wi bu ru sd f1 f2 f3) bl sl lg p1 p2 p3 2 (2 + p3))) (fun _ _ j _ => 2 - (intOf j).toNat)
  case atStart => exact .inl ⟨rfl, rfl, rfl⟩
  case round =>
    unfold planW confC at hrel
    rcases hrel with ⟨rfl, rfl, rfl⟩ | ⟨rfl, rfl, rfl⟩ | ⟨rfl, rfl, rfl⟩
    · go_wp2
      go_roundw
      case rel => exact .inr (.inl ⟨rfl, rfl, rfl⟩)
      case measure => simp [intOf]
    · go_wp2
      go_roundw
      case rel => exact .inr (.inr ⟨rfl, rfl, rfl⟩)
      case measure => simp [intOf]
    · go_wp2
      refine bodyPost_ret (results_ct rfl _ _ (w.heap.size + 1) _ _ _ _ rfl (heap_second _ _ _ _ _) Try.underlying53 rfl (by kernel_rfl)) rfl ?_
      exact ⟨rfl, rfl⟩

set_option maxHeartbeats 4000000 in
theorem plan_of_bad (bl sl lg wi bu ru sd : Int) (f1 f2 f3 : Nat) (w : World) (h : mayS bl sl lg wi bu ru = false) :
    Calls Try.prog 19 #[confV bl sl lg wi bu ru sd f1 f2 f3] w fun e w' => e = .returned (.tuple #[.agg #[.int .i64 0, .int .i64 0, .int .i64 0, .int .i64 0, .int .i64 0, .int .i64 0, .int .i64 0, .int .i64 0, .int .i64 0, .int .i64 0, .int .i64 0, .int .i64 0, .int .i64 0], .int .i64 100]) ∧
      ((w.alloc (.cells (confC bl sl lg wi bu ru sd f1 f2 f3) 25)).alloc (.cells #[.int .i64 0, .int .i64 0, .int .i64 0, .int .i64 0, .int .i64 0, .int .i64 0, .int .i64 0, .int .i64 0, .int .i64 0, .int .i64 0, .int .i64 0, .int .i64 0, .int .i64 0] 53)).alloc (.cells (confC bl sl lg wi bu ru sd f1 f2 f3) 25) = w' := by
  have cc := fun w => check_calls bl sl lg wi bu ru sd f1 f2 f3 w
  rw [h] at cc
  simp only [Bool.false_eq_true, if_false] at cc
  clear h
  simp only [confV, Value.cells] at cc
  unfold confV
  have CC := Lib.hid cc; clear cc
  go_enter Try.func19, Try.ntmps19
  go_wp2_with (first
    | (go_at_call 33; (with_reducible refine (CC.out _).mono ?_); rintro e w1 ⟨rfl, rfl⟩))
  refine bodyPost_ret (results_ct rfl _ _ (w.heap.size + 1) _ _ _ _ rfl (heap_second3 _ _ _ _) Try.underlying53 rfl (by kernel_rfl)) rfl ?_
  exact ⟨rfl, rfl⟩

/-! ### Map.Plan -/
set_option maxHeartbeats 2000000 in
theorem plan_plan (v0 v1 v2 v3 v4 v5 v6 v7 v8 v9 v10 v11 v12 : Int) (w : World) :
    Calls Try.prog 22 #[.agg #[.int .i64 v0, .int .i64 v1, .int .i64 v2, .int .i64 v3, .int .i64 v4, .int .i64 v5, .int .i64 v6, .int .i64 v7, .int .i64 v8, .int .i64 v9, .int .i64 v10, .int .i64 v11, .int .i64 v12]] w fun e w' =>
      e = .returned (.agg #[.int .i64 v0, .int .i64 v1, .int .i64 v2, .int .i64 v3, .int .i64 v4, .int .i64 v5, .int .i64 v6, .int .i64 v7, .int .i64 v8, .int .i64 v9, .int .i64 v10, .int .i64 v11, .int .i64 v12]) ∧
      (w.alloc (.cells #[.int .i64 v0, .int .i64 v1, .int .i64 v2, .int .i64 v3, .int .i64 v4, .int .i64 v5, .int .i64 v6, .int .i64 v7, .int .i64 v8, .int .i64 v9, .int .i64 v10, .int .i64 v11, .int .i64 v12] 53)).alloc
        (.cells #[.int .i64 v0, .int .i64 v1, .int .i64 v2, .int .i64 v3, .int .i64 v4, .int .i64 v5, .int .i64 v6, .int .i64 v7, .int .i64 v8, .int .i64 v9, .int .i64 v10, .int .i64 v11, .int .i64 v12] 49) = w' := by
  go_enter Try.func22, Try.ntmps22
  go_wp2
  refine bodyPost_ret (results_c rfl _ _ (w.heap.size + 1) _ _ _ _ rfl (heap_second1 _ _ _) Try.underlying49 rfl (by kernel_rfl)) rfl ?_
  exact ⟨rfl, rfl⟩

/-! ### the reference's -/
theorem upS_loop {n b : Int} (hb : 1 ≤ b) (k : Int) (h0 : 0 ≤ k) (h : k = 0 ∨ (k - 1) * b < n) : (k * b < n ↔ k < upS n b) := by
  unfold upS
  by_cases hn : n < 1
  · rw [if_pos (Or.inl hn)]
    constructor
    · intro h1
      have : 0 ≤ k * b := Int.mul_nonneg h0 (by omega)
      omega
    · intro h1; omega
  · rw [if_neg (by omega)]
    rw [Int.lt_add_one_iff, Int.le_ediv_iff_mul_le (by omega)]
    omega
set_option maxHeartbeats 2000000 in
theorem rup_calls (n b : Int) (w : World) (n0 : n ≤ 1000000) (hb : 1 ≤ b) (hb2 : b ≤ 1000) :
    Calls Try.prog 51 #[.int .i64 n, .int .i64 b] w fun e w' => e = .returned (.int .i64 (upS n b)) ∧ w = w' := by
  have hu : 0 ≤ upS n b ∧ upS n b ≤ 1000001 := by
    unfold upS
    split
    · omega
    · have h4 : 0 ≤ (n - 1) / b := Int.ediv_nonneg (by omega) (by omega)
      have h5 : (n - 1) / b ≤ n - 1 := Int.ediv_le_self _ (by omega)
      omega
  have HU := Lib.hid (fun k h0 h => upS_loop (n := n) hb k h0 h)
  go_enter Try.func51, Try.ntmps51
  go_wp2
  obtain ⟨hu0, hu1⟩ := hu
  obtain ⟨u, huv⟩ : ∃ u, upS n b = u := ⟨_, rfl⟩
  rw [huv] at HU hu0 hu1
  have HUV := Lib.hid huv
  clear huv
  go_loop [5] (fun k => ∃ j : Nat, k = .int .i64 j ∧ (j : Int) ≤ u ∧ ((j : Int) = 0 ∨ ((j : Int) - 1) * b < n)) (fun k => u.toNat - (intOf k).toNat)
  case atStart => exact ⟨0, rfl, by omega, Or.inl rfl⟩
  case round =>
    obtain ⟨j, rfl, hj, hj2⟩ := hrel
    have hi := HU.out j (by omega) hj2
    have HJ := Lib.hid hj2; clear hj2
    have p0 : 0 ≤ (j : Int) * b := Int.mul_nonneg (by omega) (by omega)
    have p1 : (j : Int) * b ≤ 1000001 * 1000 := Int.le_trans (Int.mul_le_mul_of_nonneg_right (show (j : Int) ≤ 1000001 by omega) (by omega)) (Int.mul_le_mul_of_nonneg_left hb2 (by decide))
    have HP := Lib.hid (show (j : Int) + 1 - 1 = j by omega)
    by_cases hlt : (j : Int) < u
    · have h1 := hi.2 hlt
      have HL := Lib.hid h1
      obtain ⟨z, hz⟩ : ∃ z, (j : Int) * b = z := ⟨_, rfl⟩
      have hw : wrap64 ((j : Int) * b) = z := by rw [wrap64_id ⟨by omega, by omega⟩, hz]
      rw [hz] at h1
      clear hi p0 p1 hz
      go_wp2
      go_round
      case rel => exact ⟨j + 1, by go_num, by omega, Or.inr (by rw [show ((j + 1 : Nat) : Int) - 1 = j by omega]; exact HL.out)⟩
      case measure => simp [intOf]; omega
    · have h1 : ¬ (j : Int) * b < n := fun h => hlt (hi.1 h)
      obtain rfl : (j : Int) = u := by omega
      obtain ⟨z, hz⟩ : ∃ z, (j : Int) * b = z := ⟨_, rfl⟩
      have hw : wrap64 ((j : Int) * b) = z := by rw [wrap64_id ⟨by omega, by omega⟩, hz]
      rw [hz] at h1
      clear hi p0 p1 hz
      go_wp2
      go_ret
      exact ⟨ret_int HUV.out.symm, rfl⟩
end Go.Proofs.Ytdmlpggommephaa.Ct
