import Derived.Test.YtjjhfllpbicclaaMapU
import Derived.Test.YtjjhfllpbicclaaQuiet
import Derived.Test.YtjjhfllpbicclaaCells
/-! Histories: what one is; New, real, counts, Has, Len, Clear. -/
namespace Go.Proofs.Ytjjhfllpbicclaa.Ct
open Go.RowKit
set_option linter.unusedVariables false
set_option linter.unusedSimpArgs false
def flatP : List KV → List Value
  | [] => []
  | p :: L => .int .u64 p.1 :: .int .i64 p.2 :: flatP L
theorem flatP_len : ∀ L : List KV, (flatP L).length = L.length * 2
  | [] => rfl
  | p :: L => by simp [flatP, flatP_len L]; omega
theorem flatP_append : ∀ L M : List KV, flatP (L ++ M) = flatP L ++ flatP M
  | [], M => rfl
  | p :: L, M => by simp [flatP, flatP_append L M]
theorem flatP_get : ∀ (L : List KV) (j : Nat), j < L.length → (flatP L)[j * 2]? = some (.int .u64 (L.getD j (0, 0)).1) ∧ (flatP L)[j * 2 + 1]? = some (.int .i64 (L.getD j (0, 0)).2)
  | [], j, h => by simp at h
  | p :: L, 0, _ => ⟨rfl, rfl⟩
  | p :: L, j + 1, h => by
    have := flatP_get L j (by simpa using h)
    rw [show (j + 1) * 2 = j * 2 + 1 + 1 by omega]
    simpa [flatP] using this
theorem flatP_one : ∀ L : List KV, ∀ u ∈ flatP L, u.oneCell' = true
  | [], u, h => by cases h
  | p :: L, u, h => by
    simp only [flatP, List.mem_cons] at h
    rcases h with rfl | rfl | h
    · rfl
    · rfl
    · exact flatP_one L u h
/-- a history: its map, its puts, its clock, its cap. -/
def His (base : Nat) (w : World) (h g : Nat) (sv : Value) (M L : List KV) (now most : Int) : Prop :=
  base ≤ h ∧ base ≤ g ∧ Blk w h 44 #[.map (some g), sv, .int .i64 now, .int .i64 most] ∧ MapU w g M ∧ SL base w 47 2 sv L.length (flatP L)
theorem His.below {base : Nat} {w w' : World} {h g : Nat} {sv : Value} {M L : List KV} {now most : Int} (a : His base w h g sv M L now most) (hb : Below w.heap.size w w') : His base w' h g sv M L now most :=
  ⟨a.1, a.2.1, a.2.2.1.below hb, a.2.2.2.1.below hb, a.2.2.2.2.below hb⟩
def cntS (M : List KV) (p : KV) : Bool := getM M p.1 == p.2
theorem zero_int (w : World) : (zeroValue 3).run Try.prog w = .ok (.int .i64 0) w := by kernel_rfl
theorem neq_map (g : Nat) (w : World) : (binOp .neq 41 (.map (some g)) (.map none)).run Try.prog w = .ok (.bool true) w := by kernel_rfl
theorem neq_map0 (w : World) : (binOp .neq 41 (.map none) (.map none)).run Try.prog w = .ok (.bool false) w := by kernel_rfl
set_option maxHeartbeats 2000000 in
theorem real_none (w : World) : Calls Try.prog 18 #[.pointer none] w fun e w' => e = .returned (.bool false) ∧ w = w' := by
  go_enter Try.func18, Try.ntmps18
  go_wp2
  go_ret
  exact ⟨rfl, rfl⟩
set_option maxHeartbeats 2000000 in
theorem real_odd (h : Nat) (w : World) (hc : w.cell? ⟨h, 0, none⟩ = some (.map none)) : Calls Try.prog 18 #[.pointer (some ⟨h, 0, none⟩)] w fun e w' => e = .returned (.bool false) ∧ w = w' := by
  have nq := neq_map0
  go_enter Try.func18, Try.ntmps18
  go_wp2
  go_ret
  exact ⟨rfl, rfl⟩
set_option maxHeartbeats 2000000 in
theorem real_calls (h g : Nat) (w : World) (hc : w.cell? ⟨h, 0, none⟩ = some (.map (some g))) : Calls Try.prog 18 #[.pointer (some ⟨h, 0, none⟩)] w fun e w' => e = .returned (.bool true) ∧ w = w' := by
  have nq := neq_map g
  go_enter Try.func18, Try.ntmps18
  go_wp2
  go_ret
  exact ⟨rfl, rfl⟩
set_option maxHeartbeats 4000000 in
theorem gnew_ok (most : Int) (w : World) (h0 : 0 ≤ most) (h1 : most ≤ 1024) : Calls Try.prog 6 #[.int .i64 most] w fun e w' => e = .returned (.tuple #[.pointer (some ⟨w.heap.size + 1, 0, none⟩), .int .i64 0]) ∧ His w.heap.size w' (w.heap.size + 1) w.heap.size (.slice none 0 0) [] [] 0 most ∧ Below w.heap.size w w' := by
  have hmm := @run_makeMap Try.prog
  have hm := (mapU_made w).below (below_alloc (Below.refl (w.alloc (.map #[] 0)).heap.size (w.alloc (.map #[] 0))) (.cells #[.map (some w.heap.size), .slice none 0 0, .int .i64 0, .int .i64 most] 44))
  have HH : Hid (His w.heap.size ((w.alloc (.map #[] 0)).alloc (.cells #[.map (some w.heap.size), .slice none 0 0, .int .i64 0, .int .i64 most] 44)) (w.heap.size + 1) w.heap.size (.slice none 0 0) [] [] 0 most) :=
    Lib.hid ⟨by omega, Nat.le_refl _, blk_at (by simp), hm, SL.nil _ _ _ _⟩
  have HB := Lib.hid (below_alloc (below_alloc (Below.refl w.heap.size w) (.map #[] 0)) (.cells #[.map (some w.heap.size), .slice none 0 0, .int .i64 0, .int .i64 most] 44))
  clear hm
  go_enter Try.func6, Try.ntmps6
  go_wp2
  go_ret2
  exact ⟨by simp, HH.out, HB.out⟩
set_option maxHeartbeats 4000000 in
theorem gnew_bad (most : Int) (w : World) (h : most < 0 ∨ 1024 < most) : Calls Try.prog 6 #[.int .i64 most] w fun e w' => e = .returned (.tuple #[.pointer none, .int .i64 1]) ∧ w = w' := by
  rcases h with h | h
  · go_enter Try.func6, Try.ntmps6
    go_wp2
    go_ret2
    exact ⟨rfl, rfl⟩
  · have h0 : ¬ most < 0 := by omega
    go_enter Try.func6, Try.ntmps6
    go_wp2
    go_ret2
    exact ⟨rfl, rfl⟩
set_option maxHeartbeats 4000000 in
theorem counts_calls (h g : Nat) (M : List KV) (p : KV) (w : World) (hc : w.cell? ⟨h, 0, none⟩ = some (.map (some g))) (hm : MapU w g M) :
    Calls Try.prog 20 #[.pointer (some ⟨h, 0, none⟩), .agg #[.int .u64 p.1, .int .i64 p.2]] w fun e w' => e = .returned (.bool (cntS M p)) ∧ Below w.heap.size w w' := by
  obtain ⟨p1, p2⟩ := p
  have lk := fun (o : Obj) (q : Nat) => run_lookU (P := Try.prog) Try.underlying41 Try.underlying28 zero_int (w := (w.alloc o).drewN q) ((hm.below (below_alloc (Below.refl _ _) o) : MapU (w.alloc o) g M)) p1
  have al := fun (o : Obj) => show (w.alloc o).cell? ⟨h, 0, none⟩ = some (.map (some g)) from bget (below_alloc (Below.refl _ _) o) hc
  have CS : Hid (cntS M (p1, p2) = (getM M p1 == p2)) := Lib.hid rfl
  have HB := Lib.hid (below_alloc (Below.refl w.heap.size w) (.cells #[.int .u64 p1, .int .i64 p2] 47))
  have hk : Blk (w.alloc (.cells #[.int .u64 p1, .int .i64 p2] 47)) w.heap.size 47 #[.int .u64 p1, .int .i64 p2] := Blk.new _ _ _
  have k0 := hk.cell 0
  have k1 := hk.cell 1
  clear hm hk
  generalize getM M p1 = m at *
  go_enter Try.func20, Try.ntmps20
  go_wp2
  go_quiet (fail)
  go_wp2
  go_ret
  exact ⟨ret_bool (by rw [CS.out]), below_drewN HB.out _⟩
def hasS (M : List KV) (k : Int) : Bool := decide (0 < getM M k)
set_option maxHeartbeats 4000000 in
theorem ghas_calls (h g : Nat) (M : List KV) (k : Int) (w : World) (hc : w.cell? ⟨h, 0, none⟩ = some (.map (some g))) (hm : MapU w g M) :
    Calls Try.prog 17 #[.pointer (some ⟨h, 0, none⟩), .int .u64 k] w fun e w' => e = .returned (.bool (hasS M k)) ∧ w = w' := by
  have lk := run_lookU (P := Try.prog) Try.underlying41 Try.underlying28 zero_int hm k
  have HS : Hid (hasS M k = decide (0 < getM M k)) := Lib.hid rfl
  have RC := Lib.hid (real_calls h g w hc)
  clear hm
  generalize getM M k = m at *
  go_enter Try.func17, Try.ntmps17
  go_wp2_with (go_at_call 18; (with_reducible refine (RC.out).mono ?_); rintro e w' ⟨rfl, rfl⟩)
  go_ret
  exact ⟨ret_bool (by rw [HS.out]), rfl⟩
set_option maxHeartbeats 4000000 in
theorem ghas_none (k : Int) (w : World) : Calls Try.prog 17 #[.pointer none, .int .u64 k] w fun e w' => e = .returned (.bool false) ∧ w = w' := by
  have RC := Lib.hid (real_none w)
  go_enter Try.func17, Try.ntmps17
  go_wp2_with (go_at_call 18; (with_reducible refine (RC.out).mono ?_); rintro e w' ⟨rfl, rfl⟩)
  go_ret
  exact ⟨rfl, rfl⟩
set_option maxHeartbeats 4000000 in
theorem ghas_odd (h : Nat) (k : Int) (w : World) (hc : w.cell? ⟨h, 0, none⟩ = some (.map none)) : Calls Try.prog 17 #[.pointer (some ⟨h, 0, none⟩), .int .u64 k] w fun e w' => e = .returned (.bool false) ∧ w = w' := by
  have RC := Lib.hid (real_odd h w hc)
  go_enter Try.func17, Try.ntmps17
  go_wp2_with (go_at_call 18; (with_reducible refine (RC.out).mono ?_); rintro e w' ⟨rfl, rfl⟩)
  go_ret
  exact ⟨rfl, rfl⟩
set_option maxHeartbeats 4000000 in
theorem glen_calls (h g : Nat) (M : List KV) (w : World) (hc : w.cell? ⟨h, 0, none⟩ = some (.map (some g))) (hm : MapU w g M) :
    Calls Try.prog 16 #[.pointer (some ⟨h, 0, none⟩)] w fun e w' => e = .returned (.int .i64 M.length) ∧ w = w' := by
  have ln := run_lenU (P := Try.prog) (ty := 3) Try.underlying41 hm
  have RC := Lib.hid (real_calls h g w hc)
  clear hm
  generalize M.length = m at *
  go_enter Try.func16, Try.ntmps16
  go_wp2_with (go_at_call 18; (with_reducible refine (RC.out).mono ?_); rintro e w' ⟨rfl, rfl⟩)
  go_ret
  exact ⟨rfl, rfl⟩
set_option maxHeartbeats 4000000 in
theorem glen_none (w : World) : Calls Try.prog 16 #[.pointer none] w fun e w' => e = .returned (.int .i64 0) ∧ w = w' := by
  have RC := Lib.hid (real_none w)
  go_enter Try.func16, Try.ntmps16
  go_wp2_with (go_at_call 18; (with_reducible refine (RC.out).mono ?_); rintro e w' ⟨rfl, rfl⟩)
  go_ret
  exact ⟨rfl, rfl⟩
set_option maxHeartbeats 4000000 in
theorem glen_odd (h : Nat) (w : World) (hc : w.cell? ⟨h, 0, none⟩ = some (.map none)) : Calls Try.prog 16 #[.pointer (some ⟨h, 0, none⟩)] w fun e w' => e = .returned (.int .i64 0) ∧ w = w' := by
  have RC := Lib.hid (real_odd h w hc)
  go_enter Try.func16, Try.ntmps16
  go_wp2_with (go_at_call 18; (with_reducible refine (RC.out).mono ?_); rintro e w' ⟨rfl, rfl⟩)
  go_ret
  exact ⟨rfl, rfl⟩
set_option maxHeartbeats 4000000 in
theorem gclear_none (w : World) : Calls Try.prog 14 #[.pointer none] w fun e w' => e = .returned (.tuple #[]) ∧ w = w' := by
  have RC := Lib.hid (real_none w)
  go_enter Try.func14, Try.ntmps14
  go_wp2_with (go_at_call 18; (with_reducible refine (RC.out).mono ?_); rintro e w' ⟨rfl, rfl⟩)
  refine bodyPost_end (results_none rfl _ _ _) rfl ?_
  exact ⟨rfl, rfl⟩
set_option maxHeartbeats 4000000 in
theorem gclear_odd (h : Nat) (w : World) (hc : w.cell? ⟨h, 0, none⟩ = some (.map none)) : Calls Try.prog 14 #[.pointer (some ⟨h, 0, none⟩)] w fun e w' => e = .returned (.tuple #[]) ∧ w = w' := by
  have RC := Lib.hid (real_odd h w hc)
  go_enter Try.func14, Try.ntmps14
  go_wp2_with (go_at_call 18; (with_reducible refine (RC.out).mono ?_); rintro e w' ⟨rfl, rfl⟩)
  refine bodyPost_end (results_none rfl _ _ _) rfl ?_
  exact ⟨rfl, rfl⟩
set_option maxHeartbeats 4000000 in
theorem gall_none (w : World) : Calls Try.prog 9 #[.pointer none] w fun e w' => e = .returned (.slice none 0 0) ∧ w = w' := by
  have RC := Lib.hid (real_none w)
  go_enter Try.func9, Try.ntmps9
  go_wp2_with (go_at_call 18; (with_reducible refine (RC.out).mono ?_); rintro e w' ⟨rfl, rfl⟩)
  go_ret
  exact ⟨rfl, rfl⟩
set_option maxHeartbeats 4000000 in
theorem gall_odd (h : Nat) (w : World) (hc : w.cell? ⟨h, 0, none⟩ = some (.map none)) : Calls Try.prog 9 #[.pointer (some ⟨h, 0, none⟩)] w fun e w' => e = .returned (.slice none 0 0) ∧ w = w' := by
  have RC := Lib.hid (real_odd h w hc)
  go_enter Try.func9, Try.ntmps9
  go_wp2_with (go_at_call 18; (with_reducible refine (RC.out).mono ?_); rintro e w' ⟨rfl, rfl⟩)
  go_ret
  exact ⟨rfl, rfl⟩
set_option maxHeartbeats 4000000 in
theorem gput_none (k : Int) (w : World) : Calls Try.prog 7 #[.pointer none, .int .u64 k] w fun e w' => e = .returned (.bool false) ∧ w = w' := by
  have RC := Lib.hid (real_none w)
  go_enter Try.func7, Try.ntmps7
  go_wp2_with (go_at_call 18; (with_reducible refine (RC.out).mono ?_); rintro e w' ⟨rfl, rfl⟩)
  go_ret
  exact ⟨rfl, rfl⟩
set_option maxHeartbeats 4000000 in
theorem gput_odd (h : Nat) (k : Int) (w : World) (hc : w.cell? ⟨h, 0, none⟩ = some (.map none)) : Calls Try.prog 7 #[.pointer (some ⟨h, 0, none⟩), .int .u64 k] w fun e w' => e = .returned (.bool false) ∧ w = w' := by
  have RC := Lib.hid (real_odd h w hc)
  go_enter Try.func7, Try.ntmps7
  go_wp2_with (go_at_call 18; (with_reducible refine (RC.out).mono ?_); rintro e w' ⟨rfl, rfl⟩)
  go_ret
  exact ⟨rfl, rfl⟩
set_option maxHeartbeats 4000000 in
theorem gtake_none (k : Int) (w : World) : Calls Try.prog 12 #[.pointer none, .int .u64 k] w fun e w' => e = .returned (.bool false) ∧ w = w' := by
  have RC := Lib.hid (ghas_none k w)
  go_enter Try.func12, Try.ntmps12
  go_wp2_with (go_at_call 17; (with_reducible refine (RC.out).mono ?_); rintro e w' ⟨rfl, rfl⟩)
  go_ret
  exact ⟨rfl, rfl⟩
set_option maxHeartbeats 4000000 in
theorem gclear_calls (base h g : Nat) (sv : Value) (M L : List KV) (now most : Int) (w : World) (a : His base w h g sv M L now most) :
    Calls Try.prog 14 #[.pointer (some ⟨h, 0, none⟩)] w fun e w' => e = .returned (.tuple #[]) ∧ His base w' h g (.slice none 0 0) [] [] now most ∧ Below base w w' := by
  obtain ⟨b1, b2, hk, hm, hs⟩ := a
  have RC := Lib.hid (real_calls h g w (hk.cell 0))
  have c0 := hk.cell 0
  obtain ⟨w1, hrun, hm1, ht⟩ := run_clrU (P := Try.prog) (ty := 41) Try.underlying41 hm
  have hrun2 : ∀ ty, (Builtin.clear_ #[41] ty #[.map (some g)]).run Try.prog w = .ok (.tuple #[]) w1 := fun _ => hrun
  have hne : h ≠ g := by
    rintro rfl
    obtain ⟨es, c, h1, _⟩ := hm
    have h2 := hk
    unfold Blk at h2
    rw [h1] at h2
    cases h2
  have hk1 := ht.blk hk hne
  have f1 := hk1.frozen 1
  have c1 := hk1.cell 1
  have HM := Lib.hid hm1
  have HK := Lib.hid hk1
  have HT := Lib.hid ht
  clear hm hs hk hm1 hk1 ht hrun
  go_enter Try.func14, Try.ntmps14
  go_wp2_with (go_at_call 18; (with_reducible refine (RC.out).mono ?_); rintro e w' ⟨rfl, rfl⟩)
  refine bodyPost_end (results_none rfl _ _ _) rfl ?_
  exact ⟨rfl, ⟨b1, b2, HK.out.set_ 1 _, HM.out.far (p := ⟨h, 1, none⟩) (fun e => hne e.symm) _, SL.nil _ _ _ _⟩, (HT.out.below (Below.refl base w) b2).setCell (p := ⟨h, 1, none⟩) b1 _⟩
end Go.Proofs.Ytjjhfllpbicclaa.Ct
