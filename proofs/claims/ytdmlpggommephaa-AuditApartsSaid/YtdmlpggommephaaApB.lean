import Derived.Test.YtdmlpggommephaaApA
/-! Answers: Apart and Reads, both. -/
namespace Go.Proofs.Ytdmlpggommephaa.Ct
open Go.RowKit
set_option linter.unusedVariables false
set_option linter.unusedSimpArgs false
set_option maxHeartbeats 4000000 in
theorem first_ap (b1 b2 : Nat) (p : Nat → Bool) (n : Nat) (w : World) (hn : n ≤ 1000000)
    (hp : ∀ (i m : Nat), i < n → Calls Try.prog 31 #[.int .i64 i, .pointer (some ⟨b1, 0, none⟩), .pointer (some ⟨b2, 0, none⟩)] (w.drewN m) fun e w' => e = .returned (.bool (p i)) ∧ ∃ q, (w.drewN m).drewN q = w') :
    Calls Try.prog 26 #[.int .i64 n, .func (.func 31) #[] #[.pointer (some ⟨b1, 0, none⟩), .pointer (some ⟨b2, 0, none⟩)]] w fun e w' => e = .returned (.tuple #[.int .i64 (firstS p 0 n).1, .bool (firstS p 0 n).2]) ∧ ∃ q, w.drewN q = w' := by
  have HP := Lib.hid hp
  have FS := Lib.hid (fun k (hk : k < n) => firstS_step (p := p) hk)
  have FZ := Lib.hid (show firstS p n (n - n) = (0, false) by rw [Nat.sub_self]; rfl)
  clear hp
  generalize hr : firstS p 0 n = r at *
  have F0 := Lib.hid hr
  clear hr
  go_enter Try.func26, Try.ntmps26
  go_wp2
  go_loopw [8] (fun i wr => ∃ k m : Nat, k ≤ n ∧ i = .int .i64 k ∧ firstS p k (n - k) = r ∧ wr = w.drewN m) (fun i _ => n - (intOf i).toNat)
  case atStart => exact ⟨0, 0, by omega, rfl, by rw [Nat.sub_zero]; exact F0.out, rfl⟩
  case round =>
    obtain ⟨k, m, hk, rfl, hf, rfl⟩ := hrel
    have HF := Lib.hid hf
    clear hf
    by_cases hlt : k < n
    · have hlti : (k : Int) < n := by omega
      have CP := Lib.hid (HP.out k m hlt)
      have fs := FS.out k hlt
      rw [HF.out] at fs
      cases hpk : p k
      · rw [hpk] at CP fs
        rw [if_neg (by simp)] at fs
        have F2 := Lib.hid fs.symm
        clear fs hpk
        go_wp2_with (go_at_call 31; (with_reducible refine (CP.out).mono ?_); rintro e w' ⟨rfl, q, rfl⟩)
        go_roundw
        case rel => exact ⟨k + 1, _, by omega, by go_num, F2.out, rfl⟩
        case measure => simp [intOf]; omega
      · rw [hpk] at CP fs
        rw [if_pos rfl] at fs
        have F2 := Lib.hid fs
        clear fs hpk
        go_wp2_with (go_at_call 31; (with_reducible refine (CP.out).mono ?_); rintro e w' ⟨rfl, q, rfl⟩)
        go_ret2
        rw [F2.out]
        exact ⟨rfl, _, rfl⟩
    · obtain rfl : k = n := by omega
      have F2 := Lib.hid (show r = (0, false) by rw [← HF.out]; exact FZ.out)
      go_wp2
      go_ret2
      rw [F2.out]
      exact ⟨rfl, _, rfl⟩
def apP (xs ys : List Rp) (i : Nat) : Bool := apS (xs.getD i noRp) (ys.getD i noRp)
def apR (xs ys : List Rp) : Int × Bool := firstS (apP xs ys) 0 (min xs.length ys.length)
theorem apR_self (xs : List Rp) : (apR xs xs).2 = false := by
  have key : ∀ d k, (firstS (apP xs xs) k d).2 = false := by
    intro d
    induction d with
    | zero => intro k; rfl
    | succ d ih =>
      intro k
      unfold firstS
      rw [if_neg (by unfold apP; rw [apS_self]; simp)]
      exact ih _
  exact key _ _
set_option maxHeartbeats 8000000 in
theorem apart_calls (aa ba : Option Addr) (ac bc : Nat) (xs ys : List Rp) (w : World) (hx : RowY w aa xs) (hy : RowY w ba ys) (hn1 : xs.length ≤ 1000) (hn2 : ys.length ≤ 1000) :
    Calls Try.prog 15 #[.slice aa xs.length ac, .slice ba ys.length bc] w fun e w' => e = .returned (.tuple #[.int .i64 (apR xs ys).1, .bool (apR xs ys).2]) ∧ Below w.heap.size w w' := by
  obtain ⟨n, hN⟩ : ∃ n, min xs.length ys.length = n := ⟨_, rfl⟩
  unfold apR
  rw [hN]
  obtain ⟨r, hr⟩ : ∃ r, firstS (apP xs ys) 0 n = r := ⟨_, rfl⟩
  rw [hr]
  have HRR := Lib.hid hr
  clear hr
  have hb := below_alloc (below_alloc (Below.refl w.heap.size w) (.cells #[.slice aa xs.length ac] 42)) (.cells #[.slice ba ys.length bc] 42)
  have k1 : Blk (w.alloc (.cells #[.slice aa xs.length ac] 42)) w.heap.size 42 #[.slice aa xs.length ac] := Blk.new _ _ _
  have k2 : Blk ((w.alloc (.cells #[.slice aa xs.length ac] 42)).alloc (.cells #[.slice ba ys.length bc] 42)) (w.heap.size + 1) 42 #[.slice ba ys.length bc] := blk_at (by simp)
  have k1' := k1.alloc (.cells #[.slice ba ys.length bc] 42)
  have mr := min_run (P := Try.prog) xs.length ys.length
  rw [show min ((xs.length : Nat) : Int) ((ys.length : Nat) : Int) = (n : Int) by omega] at mr
  have hnx : n ≤ xs.length := by omega
  have hny : n ≤ ys.length := by omega
  have HX := Lib.hid (hx.below hb)
  have HY := Lib.hid (hy.below hb)
  clear k1 hx hy hN
  have c1 := k1'.cell 0
  have c2 := k2.cell 0
  go_enter Try.func15, Try.ntmps15
  go_upto_region 1 with (fail)
  generalize (w.alloc (.cells #[.slice aa xs.length ac] 42)).alloc (.cells #[.slice ba ys.length bc] 42) = w5 at *
  have hp := fun (i m : Nat) (hi : i < n) => apart1_calls w.heap.size (w.heap.size + 1) aa ba ac bc xs ys i (w5.drewN m) ((k1'.drewN m).cell 0) ((k2.drewN m).cell 0) (show RowY (w5.drewN m) aa xs from HX.out) (show RowY (w5.drewN m) ba ys from HY.out) (by omega) (by omega)
  have fo := first_ap _ _ (apP xs ys) n w5 (by omega) hp
  rw [HRR.out] at fo
  have FO := Lib.hid fo
  have HB := Lib.hid hb
  clear fo hp k1' k2 hb
  go_wp2_with (go_at_call 26; (with_reducible refine (FO.out).mono ?_); rintro e w' ⟨rfl, q, rfl⟩)
  go_ret2
  exact ⟨rfl, below_drewN HB.out _⟩
set_option maxRecDepth 100000 in
set_option maxHeartbeats 8000000 in
theorem rapart_calls (aa ba : Option Addr) (ac bc : Nat) (xs ys : List Rp) (w : World) (hx : RowY w aa xs) (hy : RowY w ba ys) (hn1 : xs.length ≤ 1000) (hn2 : ys.length ≤ 1000) :
    Calls Try.prog 16 #[.slice aa xs.length ac, .slice ba ys.length bc] w fun e w' => e = .returned (.tuple #[.int .i64 (apR xs ys).1, .bool (apR xs ys).2]) ∧ Below w.heap.size w w' := by
  obtain ⟨N, hN⟩ : ∃ n, min xs.length ys.length = n := ⟨_, rfl⟩
  unfold apR
  rw [hN]
  have HN1 : N ≤ xs.length := by omega
  have HN2 : N ≤ ys.length := by omega
  have HN := Lib.hid (show xs.length ≤ N ∨ (N < xs.length ∧ ys.length ≤ N) by omega)
  have FS := Lib.hid (fun k (hk : k < N) => firstS_step (p := apP xs ys) hk)
  have FZ := Lib.hid (show firstS (apP xs ys) N (N - N) = (0, false) by rw [Nat.sub_self]; rfl)
  have AP := Lib.hid (fun k => show apP xs ys k = (((xs.getD k noRp).e == 0) && (((ys.getD k noRp).e == 0) && !eqS (xs.getD k noRp).d (ys.getD k noRp).d)) from rfl)
  have HX := Lib.hid hx
  have HY := Lib.hid hy
  obtain ⟨r, hr⟩ : ∃ r, firstS (apP xs ys) 0 N = r := ⟨_, rfl⟩
  rw [hr]
  have F0 := Lib.hid hr
  clear hx hy hN hr
  generalize apP xs ys = ap at *
  go_enter Try.func16, Try.ntmps16
  go_wp2
  go_loopw [6] (fun i wr => ∃ k m : Nat, k ≤ N ∧ i = .int .i64 k ∧ firstS ap k (N - k) = r ∧ wr = w.drewN m) (fun i _ => N - (intOf i).toNat)
  case atStart => exact ⟨0, 0, by omega, rfl, by rw [Nat.sub_zero]; exact F0.out, rfl⟩
  case round =>
    obtain ⟨k, m, hk, rfl, hf, rfl⟩ := hrel
    have HF := Lib.hid hf
    clear hf
    by_cases hlt : k < N
    · have hx1 : k < xs.length := by omega
      have hy1 : k < ys.length := by omega
      have hxi : (k : Int) < xs.length := by omega
      have hyi : (k : Int) < ys.length := by omega
      obtain ⟨ad, rfl, da, dc, c0, c1, hr1, -, -⟩ := HX.out.at_ hx1
      obtain ⟨bd, rfl, ea, ec, e0, e1, hr2, -, -⟩ := HY.out.at_ hy1
      have fs := FS.out k hlt
      rw [HF.out, AP.out] at fs
      generalize xs.getD k noRp = x at *
      generalize ys.getD k noRp = y at *
      obtain ⟨xe, xd⟩ := x
      obtain ⟨ye, yd⟩ := y
      dsimp only at *
      have t1 := fun q => run_str (P := Try.prog) 67 5 9 Try.underlying67 Try.underlying5 Try.underlying9 da dc xd (row_drewN hr1 q)
      have t2 := fun q => run_str (P := Try.prog) 67 5 9 Try.underlying67 Try.underlying5 Try.underlying9 ea ec yd (row_drewN hr2 q)
      unfold eqS at fs
      clear hr1 hr2
      generalize strOfNums xd = s at *
      generalize strOfNums yd = t at *
      generalize xd.length = xn at *
      generalize yd.length = yn at *
      cases hx0 : (xe == 0)
      · rw [hx0] at fs
        rw [if_neg (by simp)] at fs
        have F2 := Lib.hid fs.symm
        clear fs
        go_wp2
        go_quiet (fail)
        go_wp2
        exact ⟨⟨k + 1, _, by omega, by go_num, F2.out, rfl⟩, by simp [intOf]; omega⟩
      · rw [hx0] at fs
        cases hy0 : (ye == 0)
        · rw [hy0] at fs
          rw [if_neg (by simp)] at fs
          have F2 := Lib.hid fs.symm
          clear fs
          go_wp2
          go_quiet (fail)
          go_wp2
          exact ⟨⟨k + 1, _, by omega, by go_num, F2.out, rfl⟩, by simp [intOf]; omega⟩
        · rw [hy0] at fs
          cases hs0 : (s.toList == t.toList)
          · rw [hs0] at fs
            rw [if_pos (by rfl)] at fs
            have F2 := Lib.hid fs
            have hs1 : (s.toList != t.toList) = true := by unfold bne; rw [hs0]; rfl
            clear fs
            go_wp2
            go_quiet (fail)
            go_wp2
            go_ret2
            rw [F2.out]
            exact ⟨rfl, below_drewN (below_drewN (Below.refl _ _) _) _⟩
          · rw [hs0] at fs
            rw [if_neg (by simp)] at fs
            have F2 := Lib.hid fs.symm
            have hs1 : (s.toList != t.toList) = false := by unfold bne; rw [hs0]; rfl
            clear fs
            go_wp2
            go_quiet (fail)
            go_wp2
            exact ⟨⟨k + 1, _, by omega, by go_num, F2.out, rfl⟩, by simp [intOf]; omega⟩
    · obtain rfl : k = N := by omega
      have F2 := Lib.hid (show r = (0, false) by rw [← HF.out]; exact FZ.out)
      rcases HN.out with hq | ⟨hq, hq2⟩
      · have q1 : (xs.length : Int) ≤ (k : Int) := by omega
        clear hq
        go_wp2
        go_ret2
        rw [F2.out]
        exact ⟨rfl, below_drewN (Below.refl _ _) _⟩
      · have q1 : (k : Int) < (xs.length : Int) := by omega
        have q2 : (ys.length : Int) ≤ (k : Int) := by omega
        clear hq hq2
        go_wp2
        go_ret2
        rw [F2.out]
        exact ⟨rfl, below_drewN (Below.refl _ _) _⟩
def rdN (xs : List Sp) (ys : List Rp) : Nat → Int
  | 0 => 0
  | k + 1 => if ((xs.getD k noSp).op == 1) && ((ys.getD k noRp).e == 0) then rdN xs ys k + 1 else rdN xs ys k
theorem rdN_bd (xs : List Sp) (ys : List Rp) : ∀ k, 0 ≤ rdN xs ys k ∧ rdN xs ys k ≤ k := by
  intro k
  induction k with
  | zero => exact ⟨Int.le_refl _, Int.le_refl _⟩
  | succ k ih => unfold rdN; split <;> omega
set_option maxRecDepth 100000 in
set_option maxHeartbeats 8000000 in
theorem reads_calls (aa ba : Option Addr) (ac bc : Nat) (xs : List Sp) (ys : List Rp) (w : World) (hx : RowX w aa xs) (hy : RowY w ba ys) (hn1 : xs.length ≤ 1000) (hn2 : ys.length ≤ 1000) :
    Calls Try.prog 17 #[.slice aa xs.length ac, .slice ba ys.length bc] w fun e w' => e = .returned (.int .i64 (rdN xs ys (min xs.length ys.length))) ∧ Below w.heap.size w w' := by
  obtain ⟨N, hN⟩ : ∃ n, min xs.length ys.length = n := ⟨_, rfl⟩
  rw [hN]
  have HN1 : N ≤ xs.length := by omega
  have HN2 : N ≤ ys.length := by omega
  have HN3 : N ≤ 1000 := by omega
  have HN := Lib.hid (show xs.length ≤ N ∨ (N < xs.length ∧ ys.length ≤ N) by omega)
  have mr := min_run (P := Try.prog) xs.length ys.length
  rw [show min ((xs.length : Nat) : Int) ((ys.length : Nat) : Int) = (N : Int) by omega] at mr
  have F0 := Lib.hid (show rdN xs ys 0 = 0 from rfl)
  have FN := Lib.hid (fun k => show rdN xs ys (k + 1) = if ((xs.getD k noSp).op == 1) && ((ys.getD k noRp).e == 0) then rdN xs ys k + 1 else rdN xs ys k from rfl)
  have FB := Lib.hid (fun k => rdN_bd xs ys k)
  have HX := Lib.hid hx
  have HY := Lib.hid hy
  clear hx hy hN
  generalize rdN xs ys = rd at *
  go_enter Try.func17, Try.ntmps17
  go_wp2
  go_loopw [5, 12] (fun n i wr => ∃ k m : Nat, k ≤ N ∧ i = .int .i64 k ∧ n = .int .i64 (rd k) ∧ wr = w.drewN m) (fun _ i _ => N - (intOf i).toNat)
  case atStart => exact ⟨0, 0, by omega, rfl, by rw [F0.out], rfl⟩
  case round =>
    obtain ⟨k, m, hk, rfl, rfl, rfl⟩ := hrel
    by_cases hlt : k < N
    · have hx1 : k < xs.length := by omega
      have hy1 : k < ys.length := by omega
      have hxi : (k : Int) < xs.length := by omega
      have hyi : (k : Int) < ys.length := by omega
      have hni : (k : Int) < N := by omega
      obtain ⟨ad, rfl, -, fa, fc, c0, -, -, -, -, -⟩ := HX.out.at_ hx1
      obtain ⟨bd, rfl, ea, ec, e0, -, -, -, -⟩ := HY.out.at_ hy1
      have fs := FN.out k
      obtain ⟨b0, b1⟩ := FB.out k
      generalize (xs.getD k noSp).op = xo at *
      generalize (ys.getD k noRp).e = ye at *
      generalize rd k = p at *
      cases hx0 : (xo == 1)
      · rw [hx0] at fs
        rw [if_neg (by simp)] at fs
        have F2 := Lib.hid fs
        clear fs
        go_wp2
        go_roundw
        case rel => exact ⟨k + 1, _, by omega, by go_num, by rw [F2.out], rfl⟩
        case measure => simp [intOf]; omega
      · rw [hx0] at fs
        cases hy0 : (ye == 0)
        · rw [hy0] at fs
          rw [if_neg (by simp)] at fs
          have F2 := Lib.hid fs
          clear fs
          go_wp2
          go_roundw
          case rel => exact ⟨k + 1, _, by omega, by go_num, by rw [F2.out], rfl⟩
          case measure => simp [intOf]; omega
        · rw [hy0] at fs
          rw [if_pos (by rfl)] at fs
          have F2 := Lib.hid fs
          clear fs
          go_wp2
          go_roundw
          case rel => exact ⟨k + 1, _, by omega, by go_num, by rw [F2.out], rfl⟩
          case measure => simp [intOf]; omega
    · obtain rfl : k = N := by omega
      rcases HN.out with hq | ⟨hq, hq2⟩
      · have q1 : (xs.length : Int) ≤ (k : Int) := by omega
        clear hq
        go_wp2
        go_ret
        exact ⟨rfl, below_drewN (Below.refl _ _) _⟩
      · have q1 : (k : Int) < (xs.length : Int) := by omega
        have q2 : (ys.length : Int) ≤ (k : Int) := by omega
        clear hq hq2
        go_wp2
        go_ret
        exact ⟨rfl, below_drewN (Below.refl _ _) _⟩
set_option maxRecDepth 100000 in
set_option maxHeartbeats 8000000 in
theorem rreads_calls (aa ba : Option Addr) (ac bc : Nat) (xs : List Sp) (ys : List Rp) (w : World) (hx : RowX w aa xs) (hy : RowY w ba ys) (hn1 : xs.length ≤ 1000) (hn2 : ys.length ≤ 1000) :
    Calls Try.prog 18 #[.slice aa xs.length ac, .slice ba ys.length bc] w fun e w' => e = .returned (.int .i64 (rdN xs ys (min xs.length ys.length))) ∧ Below w.heap.size w w' := by
  obtain ⟨N, hN⟩ : ∃ n, min xs.length ys.length = n := ⟨_, rfl⟩
  rw [hN]
  have HN1 : N ≤ xs.length := by omega
  have HN2 : N ≤ ys.length := by omega
  have HN3 : N ≤ 1000 := by omega
  have HN := Lib.hid (show xs.length ≤ N ∨ (N < xs.length ∧ ys.length ≤ N) by omega)
  have F0 := Lib.hid (show rdN xs ys 0 = 0 from rfl)
  have FN := Lib.hid (fun k => show rdN xs ys (k + 1) = if ((xs.getD k noSp).op == 1) && ((ys.getD k noRp).e == 0) then rdN xs ys k + 1 else rdN xs ys k from rfl)
  have FB := Lib.hid (fun k => rdN_bd xs ys k)
  have HX := Lib.hid hx
  have HY := Lib.hid hy
  clear hx hy hN
  generalize rdN xs ys = rd at *
  go_enter Try.func18, Try.ntmps18
  go_wp2
  go_loopw [5, 6] (fun n i wr => ∃ k m : Nat, k ≤ N ∧ i = .int .i64 k ∧ n = .int .i64 (rd k) ∧ wr = w.drewN m) (fun _ i _ => N - (intOf i).toNat)
  case atStart => exact ⟨0, 0, by omega, rfl, by rw [F0.out], rfl⟩
  case round =>
    obtain ⟨k, m, hk, rfl, rfl, rfl⟩ := hrel
    by_cases hlt : k < N
    · have hx1 : k < xs.length := by omega
      have hy1 : k < ys.length := by omega
      have hxi : (k : Int) < xs.length := by omega
      have hyi : (k : Int) < ys.length := by omega
      have hni : (k : Int) < N := by omega
      obtain ⟨ad, rfl, -, fa, fc, c0, -, -, -, -, -⟩ := HX.out.at_ hx1
      obtain ⟨bd, rfl, ea, ec, e0, -, -, -, -⟩ := HY.out.at_ hy1
      have fs := FN.out k
      obtain ⟨b0, b1⟩ := FB.out k
      generalize (xs.getD k noSp).op = xo at *
      generalize (ys.getD k noRp).e = ye at *
      generalize rd k = p at *
      cases hx0 : (xo == 1)
      · rw [hx0] at fs
        rw [if_neg (by simp)] at fs
        have F2 := Lib.hid fs
        clear fs
        go_wp2
        go_roundw
        case rel => exact ⟨k + 1, _, by omega, by go_num, by rw [F2.out], rfl⟩
        case measure => simp [intOf]; omega
      · rw [hx0] at fs
        cases hy0 : (ye == 0)
        · rw [hy0] at fs
          rw [if_neg (by simp)] at fs
          have F2 := Lib.hid fs
          clear fs
          go_wp2
          go_roundw
          case rel => exact ⟨k + 1, _, by omega, by go_num, by rw [F2.out], rfl⟩
          case measure => simp [intOf]; omega
        · rw [hy0] at fs
          rw [if_pos (by rfl)] at fs
          have F2 := Lib.hid fs
          clear fs
          go_wp2
          go_roundw
          case rel => exact ⟨k + 1, _, by omega, by go_num, by rw [F2.out], rfl⟩
          case measure => simp [intOf]; omega
    · obtain rfl : k = N := by omega
      rcases HN.out with hq | ⟨hq, hq2⟩
      · have q1 : (xs.length : Int) ≤ (k : Int) := by omega
        clear hq
        go_wp2
        go_ret
        exact ⟨rfl, below_drewN (Below.refl _ _) _⟩
      · have q1 : (k : Int) < (xs.length : Int) := by omega
        have q2 : (ys.length : Int) ≤ (k : Int) := by omega
        clear hq hq2
        go_wp2
        go_ret
        exact ⟨rfl, below_drewN (Below.refl _ _) _⟩
end Go.Proofs.Ytdmlpggommephaa.Ct
