import Derived.Test.YtdmlpggommephaaScrD
import Derived.Test.YtdmlpggommephaaAudD
import Derived.Test.YtdmlpggommephaaPlanC
/-! What a step may write at most: audit.one. -/
namespace Go.Proofs.Ytdmlpggommephaa.Ct
open Go.RowKit
set_option linter.unusedVariables false
set_option linter.unusedSimpArgs false
def oneS (leaves : Int) (x : Sp) : Int :=
  if MayX x then (if x.op = 2 then 1 else if x.op = 3 then (if 0 < x.b then satAdd (upS x.b 8) 1 else 0) else if x.op = 5 then x.a else if x.op = 10 then leaves + 1 else 0) else 0
theorem upS8_bd {b : Int} (h : I64 b) : 0 ≤ upS b 8 ∧ upS b 8 ≤ 1152921504606846976 := by
  unfold I64 at h
  unfold upS
  split <;> omega
theorem oneS_bd {leaves : Int} {x : Sp} (h : WfS x) (h0 : 0 ≤ leaves) (h1 : leaves ≤ 100000) : 0 ≤ oneS leaves x ∧ oneS leaves x ≤ 9223372036854775807 := by
  have hb := upS8_bd h.2.2.1
  unfold oneS
  split
  · rename_i hm
    split
    · omega
    · split
      · split
        · unfold satAdd
          rw [sat_mid (by unfold I64; omega)]
          omega
        · omega
      · split
        · rename_i h5
          have := hm.2.2.2.2.1 h5
          unfold InS at this
          omega
        · split <;> omega
  · omega
set_option maxHeartbeats 8000000 in
theorem one_calls (leaves : Int) (x : Sp) (fa : Option Addr) (fc : Nat) (w : World) (h : Row .i64 w fa x.fs) (hx : WfS x) (l0 : 0 ≤ leaves) (l1 : leaves ≤ 100000) :
    Calls Try.prog 21 #[.int .i64 leaves, stepV x fa fc] w fun e w' => e = .returned (.int .i64 (oneS leaves x)) ∧ Below w.heap.size w w' := by
  have hb1 := below_alloc (Below.refl w.heap.size w) (.cells (stepC x fa fc) 30)
  have hk1 : Blk (w.alloc (.cells (stepC x fa fc) 30)) w.heap.size 30 (stepC x fa fc) := Blk.new _ _ _
  have CC := Lib.hid (check_calls' x fa fc _ (h.below hb1))
  have KB := Lib.hid (fun w' hb => (hk1.below (w' := w') hb))
  have HB := Lib.hid (fun w' (hb : Below (w.alloc (.cells (stepC x fa fc) 30)).heap.size (w.alloc (.cells (stepC x fa fc) 30)) w') => below_step hb1 hb)
  have US := Lib.hid (fun w => up_calls x.b 8 w hx.2.2.1 (by unfold I64; decide))
  have AC := Lib.hid (fun w => add_calls (upS x.b 8) 1 w (by have := upS8_bd hx.2.2.1; unfold I64; omega) (by unfold I64; decide))
  clear hb1 hk1 h hx
  have hlw : -9223372036854775808 ≤ leaves + 1 := by omega
  have hlw2 : leaves + 1 ≤ 9223372036854775807 := by omega
  by_cases hm : MayX x
  · have c0 : codeX x = 0 := if_pos hm
    rw [c0] at CC
    have OS : Hid (oneS leaves x = (if x.op = 2 then 1 else if x.op = 3 then (if 0 < x.b then satAdd (upS x.b 8) 1 else 0) else if x.op = 5 then x.a else if x.op = 10 then leaves + 1 else 0)) := Lib.hid (by unfold oneS; rw [if_pos hm])
    clear hm c0
    generalize oneS leaves x = v at *
    unfold stepV stepC at *
    obtain ⟨op, a, b, c, fs⟩ := x
    dsimp only at *
    generalize fs.length = n at *
    generalize upS b 8 = u at *
    generalize satAdd u 1 = uu at *
    by_cases h2 : op = 2
    · subst h2
      have HM := Lib.hid (show v = 1 by rw [OS.out, if_pos rfl])
      clear OS
      go_enter Try.func21, Try.ntmps21
      go_wp2_with (first | (go_at_call 35; (with_reducible refine (CC.out).mono ?_); rintro e w3 ⟨rfl, hb⟩; have HBN := Lib.hid (HB.out _ hb); obtain ⟨⟨k0, k1, k2, k3, k4⟩, -⟩ := cells5 (KB.out _ hb); clear hb))
      go_ret
      rw [HM.out]
      exact ⟨rfl, HBN.out⟩
    by_cases h3 : op = 3
    · subst h3
      by_cases hb0 : 0 < b
      · have HM := Lib.hid (show v = uu by rw [OS.out, if_neg (by decide), if_pos rfl, if_pos hb0])
        clear OS
        go_enter Try.func21, Try.ntmps21
        go_wp2_with (first | (go_at_call 35; (with_reducible refine (CC.out).mono ?_); rintro e w3 ⟨rfl, hb⟩; have HBN := Lib.hid (HB.out _ hb); obtain ⟨⟨k0, k1, k2, k3, k4⟩, -⟩ := cells5 (KB.out _ hb); clear hb) | (go_at_call 34; (with_reducible refine (US.out _).mono ?_); rintro e w4 ⟨rfl, rfl⟩) | (go_at_call 20; (with_reducible refine (AC.out _).mono ?_); rintro e w4 ⟨rfl, rfl⟩))
        go_ret
        rw [HM.out]
        exact ⟨rfl, HBN.out⟩
      · have HM := Lib.hid (show v = 0 by rw [OS.out, if_neg (by decide), if_pos rfl, if_neg hb0])
        clear OS
        go_enter Try.func21, Try.ntmps21
        go_wp2_with (first | (go_at_call 35; (with_reducible refine (CC.out).mono ?_); rintro e w3 ⟨rfl, hb⟩; have HBN := Lib.hid (HB.out _ hb); obtain ⟨⟨k0, k1, k2, k3, k4⟩, -⟩ := cells5 (KB.out _ hb); clear hb) | (go_at_call 34; (with_reducible refine (US.out _).mono ?_); rintro e w4 ⟨rfl, rfl⟩) | (go_at_call 20; (with_reducible refine (AC.out _).mono ?_); rintro e w4 ⟨rfl, rfl⟩))
        go_ret
        rw [HM.out]
        exact ⟨rfl, HBN.out⟩
    by_cases h5 : op = 5
    · subst h5
      have HM := Lib.hid (show v = a by rw [OS.out, if_neg (by decide), if_neg (by decide), if_pos rfl])
      clear OS
      go_enter Try.func21, Try.ntmps21
      go_wp2_with (first | (go_at_call 35; (with_reducible refine (CC.out).mono ?_); rintro e w3 ⟨rfl, hb⟩; have HBN := Lib.hid (HB.out _ hb); obtain ⟨⟨k0, k1, k2, k3, k4⟩, -⟩ := cells5 (KB.out _ hb); clear hb))
      go_ret
      rw [HM.out]
      exact ⟨rfl, HBN.out⟩
    by_cases h10 : op = 10
    · subst h10
      have HM := Lib.hid (show v = leaves + 1 by rw [OS.out, if_neg (by decide), if_neg (by decide), if_neg (by decide), if_pos rfl])
      clear OS
      go_enter Try.func21, Try.ntmps21
      go_wp2_with (first | (go_at_call 35; (with_reducible refine (CC.out).mono ?_); rintro e w3 ⟨rfl, hb⟩; have HBN := Lib.hid (HB.out _ hb); obtain ⟨⟨k0, k1, k2, k3, k4⟩, -⟩ := cells5 (KB.out _ hb); clear hb))
      go_ret
      rw [HM.out]
      exact ⟨rfl, HBN.out⟩
    have HM := Lib.hid (show v = 0 by rw [OS.out, if_neg h2, if_neg h3, if_neg h5, if_neg h10])
    have e2 : (op == 2) = false := beq_eq_false_iff_ne.2 h2
    have e3 : (op == 3) = false := beq_eq_false_iff_ne.2 h3
    have e5 : (op == 5) = false := beq_eq_false_iff_ne.2 h5
    have e10 : (op == 10) = false := beq_eq_false_iff_ne.2 h10
    clear OS h2 h3 h5 h10
    go_enter Try.func21, Try.ntmps21
    go_wp2_with (first | (go_at_call 35; (with_reducible refine (CC.out).mono ?_); rintro e w3 ⟨rfl, hb⟩; have HBN := Lib.hid (HB.out _ hb); obtain ⟨⟨k0, k1, k2, k3, k4⟩, -⟩ := cells5 (KB.out _ hb); clear hb))
    go_ret
    rw [HM.out]
    exact ⟨rfl, HBN.out⟩
  · have c0 : codeX x = 320 := if_neg hm
    rw [c0] at CC
    have HM : Hid (oneS leaves x = 0) := Lib.hid (if_neg hm)
    clear hm c0
    generalize oneS leaves x = v at *
    unfold stepV stepC at *
    obtain ⟨op, a, b, c, fs⟩ := x
    dsimp only at *
    generalize fs.length = n at *
    go_enter Try.func21, Try.ntmps21
    go_wp2_with (first | (go_at_call 35; (with_reducible refine (CC.out).mono ?_); rintro e w3 ⟨rfl, hb⟩; have HBN := Lib.hid (HB.out _ hb); obtain ⟨⟨k0, k1, k2, k3, k4⟩, -⟩ := cells5 (KB.out _ hb); clear hb))
    go_ret
    rw [HM.out]
    exact ⟨rfl, HBN.out⟩
end Go.Proofs.Ytdmlpggommephaa.Ct
