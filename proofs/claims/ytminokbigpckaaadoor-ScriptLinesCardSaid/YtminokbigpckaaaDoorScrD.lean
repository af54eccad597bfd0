import Derived.Test.YtminokbigpckaaaDoorScrC
/-! Steps: the reference's many, fates, May. -/
namespace Go.Proofs.YtminokbigpckaaaDoor.Ct
open Go.RowKit
set_option linter.unusedVariables false
set_option linter.unusedSimpArgs false
def ManyL : List Int := [0, 1, 2, 2, 0, 1, 2, 0, 1, 0, 0, 3, 3, 1, 1]
theorem manyL_at {k : Nat} (h0 : 1 ≤ k) (h1 : k ≤ 14) : ManyL.getD k 0 = manyS k := by
  have : k = 1 ∨ k = 2 ∨ k = 3 ∨ k = 4 ∨ k = 5 ∨ k = 6 ∨ k = 7 ∨ k = 8 ∨ k = 9 ∨ k = 10 ∨ k = 11 ∨ k = 12 ∨ k = 13 ∨ k = 14 := by omega
  rcases this with rfl | rfl | rfl | rfl | rfl | rfl | rfl | rfl | rfl | rfl | rfl | rfl | rfl | rfl <;> decide
theorem row_litI {w : World} (xs : List Int) (hm : xs.length ≤ 9223372036854775807) (hw : ∀ x ∈ xs, (Lit.int .i64 x).wf = true) : Row .i64 (w.alloc (.cells (nums .i64 xs).toArray 3)) (some ⟨w.heap.size, 0, none⟩) xs := by
  refine ⟨by unfold maxLen; omega, hw, fun _ => ⟨_, rfl, fun j hj => ?_⟩⟩
  rw [add_plain]
  have hb : Blk (w.alloc (.cells (nums .i64 xs).toArray 3)) w.heap.size 3 (nums .i64 xs).toArray := Blk.new _ _ _
  rw [hb.cell]
  simp [nums, List.getElem?_eq_getElem hj, List.getD_eq_getElem?_getD]
set_option maxHeartbeats 2000000 in
theorem rmany_calls (w : World) : Calls Tryd.prog 30 #[] w fun e w' => e = .returned (.slice (some ⟨w.heap.size, 0, none⟩) 15 15) ∧ Row .i64 w' (some ⟨w.heap.size, 0, none⟩) ManyL ∧ Below w.heap.size w w' := by
  have hr := row_litI (w := w) ManyL (by decide) (by decide)
  rw [show (nums .i64 ManyL).toArray = #[.int .i64 0, .int .i64 1, .int .i64 2, .int .i64 2, .int .i64 0, .int .i64 1, .int .i64 2, .int .i64 0, .int .i64 1, .int .i64 0, .int .i64 0, .int .i64 3, .int .i64 3, .int .i64 1, .int .i64 1] from rfl] at hr
  have HR := Lib.hid hr
  have HB := Lib.hid (below_alloc (Below.refl w.heap.size w) (.cells #[.int .i64 0, .int .i64 1, .int .i64 2, .int .i64 2, .int .i64 0, .int .i64 1, .int .i64 2, .int .i64 0, .int .i64 1, .int .i64 0, .int .i64 0, .int .i64 3, .int .i64 3, .int .i64 1, .int .i64 1] 3))
  clear hr
  go_enter Tryd.func30, Tryd.ntmps30
  go_wp2
  go_ret
  exact ⟨rfl, HR.out, HB.out⟩
theorem many_cell {w w' : World} {k : Nat} (h : Row .i64 w' (some ⟨w.heap.size, 0, none⟩) ManyL) (h0 : 1 ≤ k) (h1 : k ≤ 14) : w'.cell? ⟨w.heap.size, k, none⟩ = some (.int .i64 (manyS k)) := by
  obtain ⟨ad, e, hc, _⟩ := h.at_ (j := k) (by show k < 15; omega)
  injection e with e
  subst e
  rw [manyL_at h0 h1, add_plain] at hc
  exact hc
set_option maxHeartbeats 8000000 in
theorem rfates_calls (x : Sp) (fa : Option Addr) (fc : Nat) (w : World) (h : Row .i64 w fa x.fs) :
    Calls Tryd.prog 32 #[stepV x fa fc] w fun e w' => e = .returned (.bool (decide (x.fs.length ≤ 64) && (decide (InS x.a 0 x.fs.length) && decide (FatesOk x.fs)))) ∧ Below w.heap.size w w' := by
  have hl := h.len
  have hb1 := below_alloc (Below.refl w.heap.size w) (.cells (stepC x fa fc) 25)
  have hk1 : Blk (w.alloc (.cells (stepC x fa fc) 25)) w.heap.size 25 (stepC x fa fc) := Blk.new _ _ _
  have H := Lib.hid (h.below hb1)
  have SI := Lib.hid (fun n lo hi w => rsin_calls n lo hi w)
  clear h
  unfold stepV stepC at *
  obtain ⟨op, a, b, c, fs⟩ := x
  dsimp only at *
  have HB := Lib.hid hb1
  have HK := Lib.hid hk1
  clear hb1 hk1
  by_cases hL : fs.length ≤ 64
  · have hLi : (fs.length : Int) ≤ 64 := by omega
    rw [decide_eq_true hL]
    have S1 := Lib.hid (fun w => SI.out a 0 fs.length w)
    cases hA : decide (InS a 0 fs.length)
    · rw [hA] at S1
      clear hA hL H
      go_enter Tryd.func32, Tryd.ntmps32
      go_wp2_with (go_at_call 31; (with_reducible refine (S1.out _).mono ?_); rintro e w' ⟨rfl, rfl⟩)
      go_ret
      exact ⟨rfl, HB.out⟩
    · rw [hA] at S1
      clear hA
      have FN := Lib.hid (fun m hm hn => fates_not (fs := fs) (m := m) hm hn)
      have FA := Lib.hid (fun hh => fates_all (fs := fs) hh)
      go_enter Tryd.func32, Tryd.ntmps32
      go_upto_region 4 with (go_at_call 31; (with_reducible refine (S1.out _).mono ?_); rintro e w' ⟨rfl, rfl⟩)
      generalize w.alloc (.cells #[.int .i64 op, .int .i64 a, .int .i64 b, .int .i64 c, .slice fa fs.length fc] 25) = w1 at *
      obtain ⟨⟨k0, k1, k2, k3, k4⟩, -⟩ := cells5 HK.out
      go_wp2
      go_loop [3] (fun j => ∃ m : Nat, m ≤ fs.length ∧ j = .int .i64 m ∧ ∀ i, i < m → InS (fs.getD i 0) 0 255) (fun j => fs.length - (intOf j).toNat)
      case atStart => exact ⟨0, by omega, rfl, by omega⟩
      case round =>
        obtain ⟨m, hm, rfl, hz⟩ := hrel
        have HZ := Lib.hid hz; clear hz
        by_cases hlt : m < fs.length
        · obtain ⟨ad, rfl, hc, hwf⟩ := H.out.at_ hlt
          have hlti : (m : Int) < fs.length := by omega
          clear hwf
          have BA := Lib.hid (fun h => FN.out m hlt h)
          have BN := Lib.hid (fun (h : InS (fs.getD m 0) 0 255) => (show ∀ i, i < m + 1 → InS (fs.getD i 0) 0 255 by
            intro i hi
            rcases Nat.lt_succ_iff_lt_or_eq.1 hi with h1 | rfl
            · exact HZ.out i h1
            · exact h))
          have N1 := Lib.hid (fun w => SI.out (fs.getD m 0) 0 255 w)
          generalize fs.getD m 0 = f at *
          by_cases hc0 : InS f 0 255
          · have HN := Lib.hid (BN.out hc0)
            rw [decide_eq_true hc0] at N1
            clear BA BN hc0
            go_wp2_with (go_at_call 31; (with_reducible refine (N1.out _).mono ?_); rintro e w' ⟨rfl, rfl⟩)
            go_round
            case rel => exact ⟨m + 1, by omega, by go_num, HN.out⟩
            case measure => simp [intOf]; omega
          · have HF := Lib.hid (BA.out hc0)
            rw [decide_eq_false hc0] at N1
            clear BA BN hc0
            go_wp2_with (go_at_call 31; (with_reducible refine (N1.out _).mono ?_); rintro e w' ⟨rfl, rfl⟩)
            go_ret
            rw [HF.out]
            exact ⟨rfl, HB.out⟩
        · obtain rfl : m = fs.length := by omega
          have HF := Lib.hid (FA.out HZ.out)
          go_wp2
          go_ret
          rw [HF.out]
          exact ⟨rfl, HB.out⟩
  · have hLi2 : (64 : Int) < fs.length := by omega
    rw [decide_eq_false hL]
    clear hL H
    go_enter Tryd.func32, Tryd.ntmps32
    go_wp2
    go_ret
    exact ⟨rfl, HB.out⟩
end Go.Proofs.YtminokbigpckaaaDoor.Ct
