import Derived.Test.YtminokbigpckaaaDoorTxB
import Derived.Laws.DeepStrings4
namespace Go.Proofs.YtminokbigpckaaaDoor.Ct
open Go.RowKit
set_option linter.unusedVariables false
set_option linter.unusedSimpArgs false
/-- digits[d:d+1]. -/
theorem run_digit (d : Int) (h0 : 0 ≤ d) (h1 : d ≤ 9) (w : World) :
    (Instr.slice 9 (.string ⟨#[48, 49, 50, 51, 52, 53, 54, 55, 56, 57]⟩) (some (.int .i64 d)) (some (.int .i64 (d + 1))) none).run Tryd.prog w = .ok (.string (strOfNums [48 + d])) w := by
  rw [run_slice_string_if _ _ _ _ _ _ _ Tryd.underlying9, if_pos ⟨by omega, by rw [show ((⟨#[48, 49, 50, 51, 52, 53, 54, 55, 56, 57]⟩ : ByteArray).size : Int) = 10 from rfl]; omega⟩, if_pos ⟨h0, by omega⟩]
  have hd : d = 0 ∨ d = 1 ∨ d = 2 ∨ d = 3 ∨ d = 4 ∨ d = 5 ∨ d = 6 ∨ d = 7 ∨ d = 8 ∨ d = 9 := by omega
  rcases hd with rfl | rfl | rfl | rfl | rfl | rfl | rfl | rfl | rfl | rfl <;> rfl
theorem digs_rev {m : Int} (h0 : ¬ m = 0) (z : Int) (hz : z = 48 + (m.tmod 10).natAbs) : (digs (m.tdiv 10).natAbs).reverse ++ [z] = (digs m.natAbs).reverse := by
  obtain ⟨e1, e2⟩ := tdiv_facts m
  rw [digs_pos (m := m.natAbs) (by omega), e1, hz, e2, List.reverse_cons]
set_option maxHeartbeats 2000000 in
theorem num_some (n : Int) (w : World) (hn : I64 n) (h : ¬ n = 0) : Calls Tryd.prog 37 #[.int .i64 n] w fun e w' => e = .returned (.string (strOfNums (textS n))) ∧ w = w' := by
  obtain ⟨n1, n2⟩ := hn
  have hn0 : (n == 0) = false := beq_eq_false_iff_ne.2 h
  obtain ⟨s, hs⟩ : ∃ s, decide (n < 0) = s := ⟨_, rfl⟩
  have hl : (digs n.natAbs).length ≤ 20 := digs_len 20 _ (by omega)
  go_enter Tryd.func37, Tryd.ntmps37
  go_wp2
  go_loop [0, 4, 6] (fun x o d => ∃ (m : Int) (ys : List Int), -9223372036854775808 ≤ m ∧ m ≤ 9223372036854775807 ∧ x = .int .i64 m ∧ (digs m.natAbs).reverse ++ ys = (digs n.natAbs).reverse ∧ o = .string (strOfNums ys)) (fun x _ _ => (intOf x).natAbs)
  case atStart => exact ⟨n, [], n1, n2, rfl, by simp, rfl⟩
  case round =>
    obtain ⟨m, ys, m1, m2, rfl, hd, rfl⟩ := hrel
    have hyl : ys.length ≤ 20 := by have := congrArg List.length hd; simp at this; omega
    by_cases h0 : m = 0
    · subst h0
      have hd' : ys = (digs n.natAbs).reverse := by rw [← hd]; simp [digs_zero]
      have hsz : 1 + (strOfNums ys).size ≤ 9223372036854775807 := by rw [strOfNums_size]; omega
      have HD := Lib.hid hd'; clear hd hd'
      cases s
      · have e2 : strOfNums ys = strOfNums (textS n) := by unfold textS; rw [if_neg h, if_neg (by simpa using hs), HD.out]; simp
        have E2 := Lib.hid e2; clear e2
        go_wp2
        go_ret
        exact ⟨ret_str E2.out, rfl⟩
      · have e2 : (⟨#[45]⟩ : ByteArray) ++ strOfNums ys = strOfNums (textS n) := by
          unfold textS; rw [if_neg h, if_pos (by simpa using hs), HD.out]
          rw [show (⟨#[45]⟩ : ByteArray) = strOfNums [45] from rfl, strOfNums_append]; simp
        have E2 := Lib.hid e2; clear e2
        go_wp2
        go_ret
        exact ⟨ret_str E2.out, rfl⟩
    · have d1 : -10 < m.tmod 10 := Int.lt_tmod_of_pos m (by decide)
      have d2 : m.tmod 10 < 10 := Int.tmod_lt_of_pos m (by decide)
      have HD := Lib.hid hd; clear hd
      obtain ⟨t1, t2⟩ := tdiv_facts m
      have T1 := Lib.hid t1; clear t1 t2
      by_cases hmx : m.tmod 10 < 0
      · have hsl := fun w => run_digit (-m.tmod 10) (by omega) (by omega) w
        have hsz : (strOfNums [48 + -m.tmod 10]).size + (strOfNums ys).size ≤ 9223372036854775807 := by rw [strOfNums_size, strOfNums_size]; simp; omega
        go_wp2
        go_round
        case rel => exact ⟨m.tdiv 10, [48 + -m.tmod 10] ++ ys, by have := T1.out; omega, by have := T1.out; omega, rfl, by rw [← HD.out, ← List.append_assoc]; rw [digs_rev h0 _ (by omega)], by rw [strOfNums_append]⟩
        case measure => show (m.tdiv 10).natAbs < m.natAbs; have := T1.out; omega
      · have hsl := fun w => run_digit (m.tmod 10) (by omega) (by omega) w
        have hsz : (strOfNums [48 + m.tmod 10]).size + (strOfNums ys).size ≤ 9223372036854775807 := by rw [strOfNums_size, strOfNums_size]; simp; omega
        go_wp2
        go_round
        case rel => exact ⟨m.tdiv 10, [48 + m.tmod 10] ++ ys, by have := T1.out; omega, by have := T1.out; omega, rfl, by rw [← HD.out, ← List.append_assoc]; rw [digs_rev h0 _ (by omega)], by rw [strOfNums_append]⟩
        case measure => show (m.tdiv 10).natAbs < m.natAbs; have := T1.out; omega
set_option maxHeartbeats 400000 in
theorem num_nil (w : World) : Calls Tryd.prog 37 #[.int .i64 0] w fun e w' => e = .returned (.string (strOfNums (textS 0))) ∧ w = w' := by
  go_enter Tryd.func37, Tryd.ntmps37
  go_wp2
  go_ret
  exact ⟨rfl, rfl⟩
theorem num_calls (n : Int) (w : World) (hn : I64 n) : Calls Tryd.prog 37 #[.int .i64 n] w fun e w' => e = .returned (.string (strOfNums (textS n))) ∧ w = w' := by
  by_cases h : n = 0
  · subst h; exact num_nil w
  · exact num_some n w hn h
end Go.Proofs.YtminokbigpckaaaDoor.Ct
