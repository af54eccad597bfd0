import Derived.Test.YtminokbigpckaaaDoorTxA
namespace Go.Proofs.YtminokbigpckaaaDoor.Ct
open Go.RowKit
set_option linter.unusedVariables false
set_option linter.unusedSimpArgs false
/-- the digits of a number, the last one first. -/
def digs (m : Nat) : List Int := if h : m = 0 then [] else (48 + (m % 10 : Nat) : Int) :: digs (m / 10)
termination_by m
theorem digs_zero : digs 0 = [] := by unfold digs; rfl
theorem digs_pos {m : Nat} (h : m ≠ 0) : digs m = (48 + (m % 10 : Nat) : Int) :: digs (m / 10) := by rw [digs]; rw [dif_neg h]
theorem digs_len (k : Nat) : ∀ m, m < 10 ^ k → (digs m).length ≤ k := by
  induction k with
  | zero => intro m h; obtain rfl : m = 0 := by simp at h; omega
            rw [digs_zero]; simp
  | succ k ih =>
    intro m h
    by_cases h0 : m = 0
    · subst h0; rw [digs_zero]; simp
    · rw [digs_pos h0, List.length_cons]
      have := ih (m / 10) (by rw [Nat.pow_succ] at h; omega)
      omega
theorem digs_wf (m : Nat) : ∀ d ∈ digs m, 48 ≤ d ∧ d ≤ 57 := by
  induction m using Nat.strongRecOn with
  | _ m ih =>
    by_cases h0 : m = 0
    · subst h0; rw [digs_zero]; simp
    · rw [digs_pos h0]
      intro d hd
      rcases List.mem_cons.1 hd with rfl | hd
      · omega
      · exact ih (m / 10) (by omega) d hd
/-- the octets of a number's text. -/
def textS (n : Int) : List Int := if n = 0 then [48] else (digs n.natAbs ++ if n < 0 then [45] else []).reverse
theorem info5 : (Tryd.prog.info? 5).map (fun i => (i.zero, i.size, i.bytes)) = some (some (.int .u8 0), 1, 1) := by kernel_rfl
theorem tdiv_facts (m : Int) : (m.tdiv 10).natAbs = m.natAbs / 10 ∧ (m.tmod 10).natAbs = m.natAbs % 10 := ⟨Int.natAbs_tdiv _ _, Int.natAbs_tmod _ _⟩
theorem digs_step {m : Int} (h0 : ¬ m = 0) (ys : List Int) (z : Int) (hz : z = 48 + (m.tmod 10).natAbs) : (ys ++ [z]) ++ digs (m.tdiv 10).natAbs = ys ++ digs m.natAbs := by
  obtain ⟨e1, e2⟩ := tdiv_facts m
  rw [digs_pos (m := m.natAbs) (by omega), e1, hz, e2, List.append_assoc]
  rfl
set_option maxHeartbeats 2000000 in
theorem text_some (n : Int) (w : World) (hn : I64 n) (h : ¬ n = 0) : Calls Tryd.prog 26 #[.int .i64 n] w fun e w' => e = .returned (.string (strOfNums (textS n))) ∧ Below w.heap.size w w' := by
  obtain ⟨n1, n2⟩ := hn
  have hl : (digs n.natAbs).length ≤ 20 := digs_len 20 _ (by omega)
  have e : textS n = (digs n.natAbs ++ if n < 0 then [45] else []).reverse := by unfold textS; rw [if_neg h]
  have E := Lib.hid e; clear e
  have hn0 : (n == 0) = false := beq_eq_false_iff_ne.2 h
  go_enter Tryd.func26, Tryd.ntmps26
  go_wp2
  go_loopw [3, 4, 5] (fun o x d wr => ∃ (m : Int) (ys : List Int), -9223372036854775808 ≤ m ∧ m ≤ 9223372036854775807 ∧ x = .int .i64 m ∧ ys ++ digs m.natAbs = digs n.natAbs ∧ Own .u8 5 wr w.heap.size o ys ∧ Below w.heap.size w wr) (fun _ x _ _ => (intOf x).natAbs)
  case atStart => exact ⟨n, [], n1, n2, rfl, rfl, own_nil _ _ _ _, Below.refl _ _⟩
  case round =>
    obtain ⟨m, ys, m1, m2, rfl, hd, hown, hbel⟩ := hrel
    have hyl : ys.length ≤ 20 := by have := congrArg List.length hd; simp at this; omega
    by_cases h0 : m = 0
    · subst h0
      have hd' : ys = digs n.natAbs := by rw [← hd]; simp [digs_zero]
      have HD := Lib.hid hd'; clear hd hd'
      have HO := Lib.hid hown; clear hown
      have HB := Lib.hid hbel; clear hbel
      by_cases hs : n < 0
      · have e2 : textS n = (ys ++ [45]).reverse := by rw [E.out, if_pos hs, HD.out]
        have E2 := Lib.hid e2; clear e2
        go_wp2_with (at_builtin; refine wp_app1 50 5 .u8 1 Tryd.underlying50 info5 rfl (.tmp 26) (.tmp 27) rfl w.heap.size _ ys (45) (HO.out.alloc _) rfl _ rfl (by simp [go_sem]) (u8_wf (by omega) (by omega)) (by omega) (by decide) (by have := HB.out.size; simp; omega) ?_; intro v' w1 hown1 hg1)
        have hb1 := Below.app (HB.out.alloc HB.out.size _) hg1 (HO.out.alloc _) (Nat.le_refl _) (by have := HB.out.size; simp; omega)
        clear hg1 HO HB
        have HO := Lib.hid hown1; clear hown1
        have HB := Lib.hid hb1; clear hb1
        go_wp2_with (go_at_call 45; refine (reverse_calls _ _ _ _ HO.out).mono ?_; rintro e w2 ⟨rfl, ho2, hb2⟩; have hcv := own_str (P := Tryd.prog) 50 5 9 Tryd.underlying50 Tryd.underlying5 Tryd.underlying9 ho2; have HB2 := Lib.hid hb2; clear hb2 ho2)
        go_ret
        exact ⟨ret_str (by rw [E2.out] <;> simp), HB.out.trans HB2.out⟩
      · have e2 : textS n = ys.reverse := by rw [E.out, if_neg hs, List.append_nil, HD.out]
        have E2 := Lib.hid e2; clear e2
        go_wp2_with (go_at_call 45; refine (reverse_calls _ _ _ _ HO.out).mono ?_; rintro e w2 ⟨rfl, ho2, hb2⟩; have hcv := own_str (P := Tryd.prog) 50 5 9 Tryd.underlying50 Tryd.underlying5 Tryd.underlying9 ho2; have HB2 := Lib.hid hb2; clear hb2 ho2)
        go_ret
        exact ⟨ret_str (by rw [E2.out] <;> simp), HB.out.trans HB2.out⟩
    · have d1 : -10 < m.tmod 10 := Int.lt_tmod_of_pos m (by decide)
      have d2 : m.tmod 10 < 10 := Int.tmod_lt_of_pos m (by decide)
      obtain ⟨t1, t2⟩ := tdiv_facts m
      have T1 := Lib.hid t1; clear t1 t2
      have HD := Lib.hid hd; clear hd
      have HO := Lib.hid hown; clear hown
      have HB := Lib.hid hbel; clear hbel
      by_cases hmx : m.tmod 10 < -m.tmod 10
      · go_wp2_with (at_builtin; refine wp_app1 50 5 .u8 1 Tryd.underlying50 info5 rfl (.tmp 15) (.tmp 22) rfl w.heap.size _ ys (48 + -m.tmod 10) (HO.out.alloc _) rfl _ rfl (by simp [go_sem]) (u8_wf (by omega) (by omega)) (by omega) (by decide) (by have := HB.out.size; simp; omega) ?_; intro v' w1 hown1 hg1)
        have hb1 := Below.app (HB.out.alloc HB.out.size _) hg1 (HO.out.alloc _) (Nat.le_refl _) (by have := HB.out.size; simp; omega)
        clear hg1 HO HB
        have HO := Lib.hid hown1; clear hown1
        have HB := Lib.hid hb1; clear hb1
        go_wp2
        go_roundw
        case rel => exact ⟨m.tdiv 10, _, by have := T1.out; omega, by have := T1.out; omega, rfl, by rw [← HD.out]; exact digs_step h0 ys _ (by omega), HO.out, HB.out⟩
        case measure => show (m.tdiv 10).natAbs < m.natAbs; have := T1.out; omega
      · go_wp2_with (at_builtin; refine wp_app1 50 5 .u8 1 Tryd.underlying50 info5 rfl (.tmp 15) (.tmp 22) rfl w.heap.size _ ys (48 + m.tmod 10) (HO.out.alloc _) rfl _ rfl (by simp [go_sem]) (u8_wf (by omega) (by omega)) (by omega) (by decide) (by have := HB.out.size; simp; omega) ?_; intro v' w1 hown1 hg1)
        have hb1 := Below.app (HB.out.alloc HB.out.size _) hg1 (HO.out.alloc _) (Nat.le_refl _) (by have := HB.out.size; simp; omega)
        clear hg1 HO HB
        have HO := Lib.hid hown1; clear hown1
        have HB := Lib.hid hb1; clear hb1
        go_wp2
        go_roundw
        case rel => exact ⟨m.tdiv 10, _, by have := T1.out; omega, by have := T1.out; omega, rfl, by rw [← HD.out]; exact digs_step h0 ys _ (by omega), HO.out, HB.out⟩
        case measure => show (m.tdiv 10).natAbs < m.natAbs; have := T1.out; omega

set_option maxHeartbeats 400000 in
theorem text_nil (w : World) : Calls Tryd.prog 26 #[.int .i64 0] w fun e w' => e = .returned (.string (strOfNums (textS 0))) ∧ Below w.heap.size w w' := by
  go_enter Tryd.func26, Tryd.ntmps26
  go_wp2
  go_ret
  exact ⟨rfl, Below.refl _ _⟩
theorem text_calls (n : Int) (w : World) (hn : I64 n) : Calls Tryd.prog 26 #[.int .i64 n] w fun e w' => e = .returned (.string (strOfNums (textS n))) ∧ Below w.heap.size w w' := by
  by_cases h : n = 0
  · subst h; exact text_nil w
  · exact text_some n w hn h
end Go.Proofs.YtminokbigpckaaaDoor.Ct
