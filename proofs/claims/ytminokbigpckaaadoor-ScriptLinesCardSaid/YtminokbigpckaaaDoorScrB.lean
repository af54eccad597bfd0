import Derived.Test.YtminokbigpckaaaDoorScrA
import Derived.Test.YtminokbigpckaaaDoorCells
/-! Steps: bounds, Check. -/
namespace Go.Proofs.YtminokbigpckaaaDoor.Ct
open Go.RowKit
set_option linter.unusedVariables false
set_option linter.unusedSimpArgs false
set_option maxHeartbeats 1000000 in
theorem nfate_calls (f : Int) (w : World) : Calls Tryd.prog 49 #[.int .i64 f] w fun e w' => e = .returned (.bool (!decide (InS f 0 255))) ∧ w = w' := by
  have SI := Lib.hid (fun w => sin_calls f 0 255 w)
  go_enter Tryd.func49, Tryd.ntmps49
  go_wp2_with (go_at_call 47; (with_reducible refine (SI.out _).mono ?_); rintro e w' ⟨rfl, rfl⟩)
  go_ret
  exact ⟨rfl, rfl⟩
theorem fates_not {fs : List Int} {m : Nat} (h : m < fs.length) (hn : ¬ InS (fs.getD m 0) 0 255) : decide (FatesOk fs) = false := decide_eq_false (fun k => hn (k _ (getD_mem h)))
theorem fates_all {fs : List Int} (h : ∀ i, i < fs.length → InS (fs.getD i 0) 0 255) : decide (FatesOk fs) = true := decide_eq_true (fun f hf => by
  obtain ⟨m, hm, rfl⟩ := List.getElem_of_mem hf
  have := h m hm
  rwa [List.getD_eq_getElem?_getD, List.getElem?_eq_getElem hm] at this)
set_option maxHeartbeats 4000000 in
theorem indexfI_calls (a : Option Addr) (cap : Nat) (b : List Int) (w : World) (h : Row .i64 w a b) :
    Calls Tryd.prog 61 #[.slice a b.length cap, .func (.func 49) #[] #[]] w fun e w' => ∃ i : Int, e = .returned (.int .i64 i) ∧ -1 ≤ i ∧ i ≤ 9223372036854775807 ∧ (decide (0 ≤ i) = !decide (FatesOk b)) ∧ w = w' := by
  have hl := h.len
  have H := Lib.hid h; clear h
  have NC := Lib.hid (fun c w => nfate_calls c w)
  go_enter Tryd.func61, Tryd.ntmps61
  go_wp2
  go_loop [5, 8] (fun _ j => ∃ m : Nat, m ≤ b.length ∧ j = .int .i64 m ∧ ∀ i, i < m → InS (b.getD i 0) 0 255) (fun _ j => b.length - (intOf j).toNat)
  case atStart => exact ⟨0, by omega, rfl, by omega⟩
  case round =>
    obtain ⟨m, hm, rfl, hz⟩ := hrel
    have HZ := Lib.hid hz; clear hz
    by_cases hlt : m < b.length
    · obtain ⟨ad, rfl, hc, hwf⟩ := H.out.at_ hlt
      clear hwf
      have BA := Lib.hid (fun h => fates_not (fs := b) (m := m) hlt h)
      have BN := Lib.hid (fun (h : InS (b.getD m 0) 0 255) => (show ∀ i, i < m + 1 → InS (b.getD i 0) 0 255 by
        intro i hi
        rcases Nat.lt_succ_iff_lt_or_eq.1 hi with h1 | rfl
        · exact HZ.out i h1
        · exact h))
      have N1 := Lib.hid (NC.out (b.getD m 0))
      generalize b.getD m 0 = c at *
      by_cases hc0 : InS c 0 255
      · have HN := Lib.hid (BN.out hc0)
        rw [decide_eq_true hc0] at N1
        clear BA BN hc0
        go_wp2_with (go_at_call 49; (with_reducible refine (N1.out _).mono ?_); rintro e w' ⟨rfl, rfl⟩)
        go_round
        case rel => exact ⟨m + 1, by omega, by go_num, HN.out⟩
        case measure => simp [intOf]; omega
      · have HB := Lib.hid (BA.out hc0)
        rw [decide_eq_false hc0] at N1
        clear BA BN hc0
        go_wp2_with (go_at_call 49; (with_reducible refine (N1.out _).mono ?_); rintro e w' ⟨rfl, rfl⟩)
        go_ret
        exact ⟨m, rfl, by omega, by omega, by rw [HB.out]; exact decide_eq_true (by omega), rfl⟩
    · obtain rfl : m = b.length := by omega
      have HB := Lib.hid (fates_all HZ.out)
      go_wp2
      go_ret
      exact ⟨-1, rfl, by omega, by omega, by rw [HB.out]; rfl, rfl⟩
set_option maxHeartbeats 4000000 in
theorem containsfI_calls (a : Option Addr) (cap : Nat) (b : List Int) (w : World) (h : Row .i64 w a b) :
    Calls Tryd.prog 48 #[.slice a b.length cap, .func (.func 49) #[] #[]] w fun e w' => e = .returned (.bool (!decide (FatesOk b))) ∧ w = w' := by
  have IC := Lib.hid (indexfI_calls a cap b w h)
  clear h
  go_enter Tryd.func48, Tryd.ntmps48
  go_wp2_with (go_at_call 61; (with_reducible refine (IC.out).mono ?_); rintro e w' ⟨i, rfl, h1, h2, h3, rfl⟩; have H3 := Lib.hid h3; clear h3)
  go_ret
  exact ⟨ret_bool (by rw [← H3.out]), rfl⟩
theorem boundsX_2 (a b c : Int) (fs : List Int) : decide (BoundsX ⟨2, a, b, c, fs⟩) = decide (InS b 0 255) := decide_eq_decide.2 (by unfold BoundsX; simp)
theorem boundsX_5 (a b c : Int) (fs : List Int) : decide (BoundsX ⟨5, a, b, c, fs⟩) = decide (InS a 1 4096) := decide_eq_decide.2 (by unfold BoundsX; simp)
theorem boundsX_11 (a b c : Int) (fs : List Int) : decide (BoundsX ⟨11, a, b, c, fs⟩) = (decide (InS a 0 1) && (decide (0 ≤ b) && decide (0 ≤ c))) := by
  rw [← Bool.decide_and, ← Bool.decide_and]; exact decide_eq_decide.2 (by unfold BoundsX; simp)
theorem boundsX_12 (a b c : Int) (fs : List Int) : decide (BoundsX ⟨12, a, b, c, fs⟩) = decide (InS c 1 4294967295) := decide_eq_decide.2 (by unfold BoundsX; simp)
theorem boundsX_13 (a b c : Int) (fs : List Int) : decide (BoundsX ⟨13, a, b, c, fs⟩) = decide (InS a (-1) 1048576) := decide_eq_decide.2 (by unfold BoundsX; simp)
theorem boundsX_14 (a b c : Int) (fs : List Int) : decide (BoundsX ⟨14, a, b, c, fs⟩) = (decide (fs.length ≤ 64) && (decide (InS a 0 fs.length) && decide (FatesOk fs))) := by
  rw [← Bool.decide_and, ← Bool.decide_and]; exact decide_eq_decide.2 (by unfold BoundsX; simp)
theorem boundsX_else {op : Int} (a b c : Int) (fs : List Int) (h2 : op ≠ 2) (h5 : op ≠ 5) (h11 : op ≠ 11) (h12 : op ≠ 12) (h13 : op ≠ 13) (h14 : op ≠ 14) : decide (BoundsX ⟨op, a, b, c, fs⟩) = true :=
  decide_eq_true ⟨fun h => absurd h h2, fun h => absurd h h5, fun h => absurd h h11, fun h => absurd h h12, fun h => absurd h h13, fun h => absurd h h14⟩
set_option maxHeartbeats 8000000 in
theorem sbounds_calls (x : Sp) (fa : Option Addr) (fc : Nat) (w : World) (h : Row .i64 w fa x.fs) :
    Calls Tryd.prog 33 #[stepV x fa fc] w fun e w' => e = .returned (.bool (decide (BoundsX x))) ∧ Below w.heap.size w w' := by
  have hl := h.len
  have hb1 := below_alloc (Below.refl w.heap.size w) (.cells (stepC x fa fc) 25)
  have hk1 : Blk (w.alloc (.cells (stepC x fa fc) 25)) w.heap.size 25 (stepC x fa fc) := Blk.new _ _ _
  have CF := Lib.hid (containsfI_calls fa fc x.fs _ (h.below hb1))
  have SI := Lib.hid (fun n lo hi w => sin_calls n lo hi w)
  have HB := Lib.hid hb1
  clear h hk1 hb1
  unfold stepV stepC at *
  obtain ⟨op, a, b, c, fs⟩ := x
  dsimp only at *
  by_cases e2 : op = 2
  · subst e2
    rw [boundsX_2]
    go_enter Tryd.func33, Tryd.ntmps33
    go_wp2_with (go_at_call 47; (with_reducible refine (SI.out _ _ _ _).mono ?_); rintro e w' ⟨rfl, rfl⟩)
    go_ret
    exact ⟨rfl, HB.out⟩
  by_cases e5 : op = 5
  · subst e5
    rw [boundsX_5]
    go_enter Tryd.func33, Tryd.ntmps33
    go_wp2_with (go_at_call 47; (with_reducible refine (SI.out _ _ _ _).mono ?_); rintro e w' ⟨rfl, rfl⟩)
    go_ret
    exact ⟨rfl, HB.out⟩
  by_cases e11 : op = 11
  · subst e11
    rw [boundsX_11]
    have S1 := Lib.hid (fun w => SI.out a 0 1 w)
    cases hA : decide (InS a 0 1)
    · rw [hA] at S1
      clear hA
      go_enter Tryd.func33, Tryd.ntmps33
      go_wp2_with (go_at_call 47; (with_reducible refine (S1.out _).mono ?_); rintro e w' ⟨rfl, rfl⟩)
      go_ret
      exact ⟨rfl, HB.out⟩
    · rw [hA] at S1
      clear hA
      by_cases hB : 0 ≤ b
      · have d1 : decide (0 ≤ b) = true := decide_eq_true hB
        rw [d1]
        go_enter Tryd.func33, Tryd.ntmps33
        go_wp2_with (go_at_call 47; (with_reducible refine (S1.out _).mono ?_); rintro e w' ⟨rfl, rfl⟩)
        go_ret
        exact ⟨ret_bool (by simp), HB.out⟩
      · have d1 : decide (0 ≤ b) = false := decide_eq_false hB
        rw [d1]
        go_enter Tryd.func33, Tryd.ntmps33
        go_wp2_with (go_at_call 47; (with_reducible refine (S1.out _).mono ?_); rintro e w' ⟨rfl, rfl⟩)
        go_ret
        exact ⟨rfl, HB.out⟩
  by_cases e12 : op = 12
  · subst e12
    rw [boundsX_12]
    go_enter Tryd.func33, Tryd.ntmps33
    go_wp2_with (go_at_call 47; (with_reducible refine (SI.out _ _ _ _).mono ?_); rintro e w' ⟨rfl, rfl⟩)
    go_ret
    exact ⟨rfl, HB.out⟩
  by_cases e13 : op = 13
  · subst e13
    rw [boundsX_13]
    go_enter Tryd.func33, Tryd.ntmps33
    go_wp2_with (go_at_call 47; (with_reducible refine (SI.out _ _ _ _).mono ?_); rintro e w' ⟨rfl, rfl⟩)
    go_ret
    exact ⟨rfl, HB.out⟩
  by_cases e14 : op = 14
  · subst e14
    rw [boundsX_14]
    by_cases hL : fs.length ≤ 64
    · have hLi : (fs.length : Int) ≤ 64 := by omega
      rw [decide_eq_true hL]
      have S1 := Lib.hid (fun w => SI.out a 0 fs.length w)
      cases hA : decide (InS a 0 fs.length)
      · rw [hA] at S1
        clear hA hL
        go_enter Tryd.func33, Tryd.ntmps33
        go_wp2_with (go_at_call 47; (with_reducible refine (S1.out _).mono ?_); rintro e w' ⟨rfl, rfl⟩)
        go_ret
        exact ⟨rfl, HB.out⟩
      · rw [hA] at S1
        clear hA hL
        generalize decide (FatesOk fs) = fo at *
        go_enter Tryd.func33, Tryd.ntmps33
        go_wp2_with (first | (go_at_call 47; (with_reducible refine (S1.out _).mono ?_); rintro e w' ⟨rfl, rfl⟩) | (go_at_call 48; (with_reducible refine (CF.out).mono ?_); rintro e w' ⟨rfl, rfl⟩))
        go_ret
        exact ⟨ret_bool (by simp), HB.out⟩
    · have hLi : ¬ (fs.length : Int) ≤ 64 := by omega
      have hLi2 : (64 : Int) < fs.length := by omega
      rw [decide_eq_false hL]
      clear hL
      go_enter Tryd.func33, Tryd.ntmps33
      go_wp2
      go_ret
      exact ⟨rfl, HB.out⟩
  rw [boundsX_else _ _ _ _ e2 e5 e11 e12 e13 e14]
  have q2 : (op == 2) = false := beq_eq_false_iff_ne.2 e2
  have q5 : (op == 5) = false := beq_eq_false_iff_ne.2 e5
  have q11 : (op == 11) = false := beq_eq_false_iff_ne.2 e11
  have q12 : (op == 12) = false := beq_eq_false_iff_ne.2 e12
  have q13 : (op == 13) = false := beq_eq_false_iff_ne.2 e13
  have q14 : (op == 14) = false := beq_eq_false_iff_ne.2 e14
  clear e2 e5 e11 e12 e13 e14
  go_enter Tryd.func33, Tryd.ntmps33
  go_wp2
  go_ret
  exact ⟨rfl, HB.out⟩
end Go.Proofs.YtminokbigpckaaaDoor.Ct
