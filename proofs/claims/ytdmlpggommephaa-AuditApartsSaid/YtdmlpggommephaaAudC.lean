import Derived.Test.YtdmlpggommephaaAudB
/-! Audits: first, audit.Over. -/
namespace Go.Proofs.Ytdmlpggommephaa.Ct
open Go.RowKit
set_option linter.unusedVariables false
set_option linter.unusedSimpArgs false
set_option maxHeartbeats 4000000 in
theorem first_over (b1 b2 b3 b4 b5 : Nat) (p : Nat → Bool) (n : Nat) (w : World) (hn : n ≤ 1000000)
    (hp : ∀ (i m : Nat), i < n → Calls Try.prog 27 #[.int .i64 i, .pointer (some ⟨b1, 0, none⟩), .pointer (some ⟨b2, 0, none⟩), .pointer (some ⟨b3, 0, none⟩), .pointer (some ⟨b4, 0, none⟩), .pointer (some ⟨b5, 0, none⟩)] (w.drewN m) fun e w' => e = .returned (.bool (p i)) ∧ ∃ q, (w.drewN m).drewN q = w') :
    Calls Try.prog 26 #[.int .i64 n, .func (.func 27) #[] #[.pointer (some ⟨b1, 0, none⟩), .pointer (some ⟨b2, 0, none⟩), .pointer (some ⟨b3, 0, none⟩), .pointer (some ⟨b4, 0, none⟩), .pointer (some ⟨b5, 0, none⟩)]] w fun e w' => e = .returned (.tuple #[.int .i64 (firstS p 0 n).1, .bool (firstS p 0 n).2]) ∧ ∃ q, w.drewN q = w' := by
  have HP := Lib.hid hp
  have FS := Lib.hid (fun k (hk : k < n) => firstS_step (p := p) hk)
  have FZ := Lib.hid (show firstS p n (n - n) = (0, false) by rw [Nat.sub_self]; rfl)
  clear hp
  generalize hr : firstS p 0 n = r at *
  have F0 := Lib.hid hr
  clear hr
  go_enter Try.func26, Try.ntmps26
  go_wp2
  go_loopw [8] (fun i wr => ∃ k m : Nat, k ≤ n ∧ i = .int .i64 k ∧ firstS p k (n - k) = r ∧ wr = w.drewN m) (fun i _ => n - (intOf i).toNat)
  case atStart => exact ⟨0, 0, by omega, rfl, by rw [Nat.sub_zero]; exact F0.out, rfl⟩
  case round =>
    obtain ⟨k, m, hk, rfl, hf, rfl⟩ := hrel
    have HF := Lib.hid hf
    clear hf
    by_cases hlt : k < n
    · have hlti : (k : Int) < n := by omega
      have CP := Lib.hid (HP.out k m hlt)
      have fs := FS.out k hlt
      rw [HF.out] at fs
      cases hpk : p k
      · rw [hpk] at CP fs
        rw [if_neg (by simp)] at fs
        have F2 := Lib.hid fs.symm
        clear fs hpk
        go_wp2_with (go_at_call 27; (with_reducible refine (CP.out).mono ?_); rintro e w' ⟨rfl, q, rfl⟩)
        go_roundw
        case rel => exact ⟨k + 1, _, by omega, by go_num, F2.out, rfl⟩
        case measure => simp [intOf]; omega
      · rw [hpk] at CP fs
        rw [if_pos rfl] at fs
        have F2 := Lib.hid fs
        clear fs hpk
        go_wp2_with (go_at_call 27; (with_reducible refine (CP.out).mono ?_); rintro e w' ⟨rfl, q, rfl⟩)
        go_ret2
        rw [F2.out]
        exact ⟨rfl, _, rfl⟩
    · obtain rfl : k = n := by omega
      have F2 := Lib.hid (show r = (0, false) by rw [← HF.out]; exact FZ.out)
      go_wp2
      go_ret2
      rw [F2.out]
      exact ⟨rfl, _, rfl⟩
def overR (xs ys : List Int) (win most : Int) : Int × Bool := firstS (overS xs ys win most (min xs.length ys.length)) 0 (min xs.length ys.length)
set_option maxHeartbeats 8000000 in
theorem over_calls (aa ba : Option Addr) (ac bc : Nat) (xs ys : List Int) (win most : Int) (w : World) (hx : Row .i64 w aa xs) (hy : Row .i64 w ba ys) (hn1 : xs.length ≤ 1000) (hn2 : ys.length ≤ 1000) (hw : I64 win) (hm : I64 most) :
    Calls Try.prog 10 #[.int .i64 win, .int .i64 most, .slice aa xs.length ac, .slice ba ys.length bc] w fun e w' => e = .returned (.tuple #[.int .i64 (overR xs ys win most).1, .bool (overR xs ys win most).2]) ∧ Below w.heap.size w w' := by
  obtain ⟨n, hN⟩ : ∃ n, min xs.length ys.length = n := ⟨_, rfl⟩
  unfold overR
  rw [hN]
  obtain ⟨r, hr⟩ : ∃ r, firstS (overS xs ys win most n) 0 n = r := ⟨_, rfl⟩
  rw [hr]
  have HRR := Lib.hid hr
  clear hr
  have hb := below_alloc (below_alloc (below_alloc (below_alloc (below_alloc (Below.refl w.heap.size w) (.cells #[.int .i64 win] 3)) (.cells #[.int .i64 most] 3)) (.cells #[.slice aa xs.length ac] 28)) (.cells #[.slice ba ys.length bc] 28)) (.cells #[.int .i64 n] 3)
  have k1 : Blk (w.alloc (.cells #[.int .i64 win] 3)) w.heap.size 3 #[.int .i64 win] := Blk.new _ _ _
  have k2 : Blk ((w.alloc (.cells #[.int .i64 win] 3)).alloc (.cells #[.int .i64 most] 3)) (w.heap.size + 1) 3 #[.int .i64 most] := blk_at (by simp)
  have k3 : Blk (((w.alloc (.cells #[.int .i64 win] 3)).alloc (.cells #[.int .i64 most] 3)).alloc (.cells #[.slice aa xs.length ac] 28)) (w.heap.size + 1 + 1) 28 #[.slice aa xs.length ac] := blk_at (by simp)
  have k4 : Blk ((((w.alloc (.cells #[.int .i64 win] 3)).alloc (.cells #[.int .i64 most] 3)).alloc (.cells #[.slice aa xs.length ac] 28)).alloc (.cells #[.slice ba ys.length bc] 28)) (w.heap.size + 1 + 1 + 1) 28 #[.slice ba ys.length bc] := blk_at (by simp)
  have k5 : Blk (((((w.alloc (.cells #[.int .i64 win] 3)).alloc (.cells #[.int .i64 most] 3)).alloc (.cells #[.slice aa xs.length ac] 28)).alloc (.cells #[.slice ba ys.length bc] 28)).alloc (.cells #[.int .i64 n] 3)) (w.heap.size + 1 + 1 + 1 + 1) 3 #[.int .i64 n] := blk_at (by simp)
  have k1' := ((((k1.alloc (.cells #[.int .i64 most] 3)).alloc (.cells #[.slice aa xs.length ac] 28)).alloc (.cells #[.slice ba ys.length bc] 28)).alloc (.cells #[.int .i64 n] 3))
  have k2' := (((k2.alloc (.cells #[.slice aa xs.length ac] 28)).alloc (.cells #[.slice ba ys.length bc] 28)).alloc (.cells #[.int .i64 n] 3))
  have k3' := ((k3.alloc (.cells #[.slice ba ys.length bc] 28)).alloc (.cells #[.int .i64 n] 3))
  have k4' := k4.alloc (.cells #[.int .i64 n] 3)
  have mr := min_run (P := Try.prog) xs.length ys.length
  rw [show min ((xs.length : Nat) : Int) ((ys.length : Nat) : Int) = (n : Int) by omega] at mr
  have hnx : n ≤ xs.length := by omega
  have hny : n ≤ ys.length := by omega
  have HX := Lib.hid (hx.below hb)
  have HY := Lib.hid (hy.below hb)
  have HW := Lib.hid hw
  have HM := Lib.hid hm
  clear k1 k2 k3 k4 hx hy hw hm hN
  go_enter Try.func10, Try.ntmps10
  go_upto_region 2 with (fail)
  generalize ((((w.alloc (.cells #[.int .i64 win] 3)).alloc (.cells #[.int .i64 most] 3)).alloc (.cells #[.slice aa xs.length ac] 28)).alloc (.cells #[.slice ba ys.length bc] 28)).alloc (.cells #[.int .i64 n] 3) = w5 at *
  have hp := fun (i m : Nat) (hi : i < n) => over1_calls (w.heap.size + 1 + 1 + 1 + 1) (w.heap.size + 1 + 1) w.heap.size (w.heap.size + 1 + 1 + 1) (w.heap.size + 1) aa ba ac bc xs ys win most n i (w5.drewN m) ((k5.drewN m).cell 0) ((k3'.drewN m).cell 0) ((k1'.drewN m).cell 0) ((k4'.drewN m).cell 0) ((k2'.drewN m).cell 0) (row_drewN HX.out m) (row_drewN HY.out m) hnx hny (by omega) hi HW.out HM.out
  have fo := first_over _ _ _ _ _ (overS xs ys win most n) n w5 (by omega) hp
  rw [HRR.out] at fo
  have FO := Lib.hid fo
  have c5 := k5.cell 0
  have HB := Lib.hid hb
  clear fo hp k5 k1' k2' k3' k4' hb
  go_wp2_with (go_at_call 26; (with_reducible refine (FO.out).mono ?_); rintro e w' ⟨rfl, q, rfl⟩)
  go_ret2
  exact ⟨rfl, below_drewN HB.out _⟩
end Go.Proofs.Ytdmlpggommephaa.Ct
