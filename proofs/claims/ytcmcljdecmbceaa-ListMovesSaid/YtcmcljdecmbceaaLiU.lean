import Derived.Test.YtcmcljdecmbceaaLiT
/-! Chapter 07: rows of numbers: without, Same; the reference's New; what is answered where there is no list or node. -/
namespace Go.Proofs.Ytcmcljdecmbceaa.Ct
open Go.RowKit
set_option linter.unusedVariables false
set_option linter.unusedSimpArgs false
/-- a row without a key. -/
def remS (xs : List Int) (k : Int) : List Int := xs.filter fun x => x != k
theorem remS_step {xs : List Int} {k : Int} {j : Nat} (h : j < xs.length) : remS (xs.take (j + 1)) k = if xs.getD j 0 = k then remS (xs.take j) k else remS (xs.take j) k ++ [xs.getD j 0] := by
  rw [take_next h]
  unfold remS
  rw [List.filter_append]
  by_cases e : xs.getD j 0 = k
  · rw [if_pos e]
    have : (xs.getD j 0 != k) = false := bne_eq_false_iff_eq.2 e
    simp only [List.filter_cons, this, Bool.false_eq_true, if_false, List.filter_nil, List.append_nil]
  · rw [if_neg e]
    have : (xs.getD j 0 != k) = true := bne_iff_ne.2 e
    simp only [List.filter_cons, this, if_true, List.filter_nil]
theorem remS_len (xs : List Int) (k : Int) : (remS xs k).length ≤ xs.length := List.length_filter_le _ _
set_option maxHeartbeats 8000000 in
theorem without_calls (a : Option Addr) (cap : Nat) (xs : List Int) (k : Int) (w : World) (h : Row .i64 w a xs) (hx : xs.length ≤ 100000) :
    Calls Try.prog 12 #[.slice a xs.length cap, .int .i64 k] w fun e w' => ∃ v, e = .returned v ∧ Own .i64 3 w' w.heap.size v (remS xs k) ∧ Below w.heap.size w w' := by
  have H := Lib.hid h
  have ST := Lib.hid (fun j (hj : j < xs.length) => remS_step (k := k) hj)
  have SL := Lib.hid (fun j => show (remS (xs.take j) k).length ≤ 100000 from Nat.le_trans (remS_len _ _) (by rw [List.length_take]; omega))
  have S0 := Lib.hid (show remS (xs.take 0) k = [] from rfl)
  have SN := Lib.hid (show remS (xs.take xs.length) k = remS xs k by rw [List.take_length])
  clear h
  generalize hrs : (fun j => remS (xs.take j) k) = rs
  have HRS := Lib.hid (fun j => (congrFun hrs j : remS (xs.take j) k = rs j))
  clear hrs
  go_enter Try.func12, Try.ntmps12
  go_wp2
  go_loopw [5, 6] (fun v i wr => ∃ j : Nat, j ≤ xs.length ∧ i = .int .i64 j ∧ Own .i64 3 wr w.heap.size v (rs j) ∧ Below w.heap.size w wr) (fun _ i _ => xs.length - (intOf i).toNat)
  case atStart => exact ⟨0, by omega, rfl, by rw [← HRS.out, S0.out]; exact own_nil _ _ _ _, Below.refl _ _⟩
  case round =>
    obtain ⟨j, hj, rfl, hown, hbel⟩ := hrel
    have HO := Lib.hid hown
    have HB := Lib.hid hbel
    clear hown
    by_cases hlt : j < xs.length
    · obtain ⟨ad, rfl, hc, hwf⟩ := (H.out.below hbel).at_ hlt
      have hlti : (j : Int) < xs.length := by omega
      have st := ST.out j hlt
      have sl := SL.out j
      rw [HRS.out, HRS.out] at st
      rw [HRS.out] at sl
      have HWF := Lib.hid hwf
      clear hwf
      generalize xs.getD j 0 = z at *
      by_cases hzk : z = k
      · rw [if_pos hzk] at st
        have S2 := Lib.hid st
        have q1 : (z != k) = false := bne_eq_false_iff_eq.2 hzk
        clear hzk st
        go_wp2
        go_roundw
        case rel => exact ⟨j + 1, by omega, by go_num, by rw [S2.out]; exact HO.out, HB.out⟩
        case measure => simp [intOf]; omega
      · rw [if_neg hzk] at st
        have S2 := Lib.hid st
        have q1 : (z != k) = true := bne_iff_ne.2 hzk
        clear hzk st
        generalize rs j = ys at *
        go_wp2_with (at_builtin; refine wp_app1 30 3 .i64 8 Try.underlying30 infoI rfl (.tmp 19) (.tmp 24) rfl w.heap.size _ ys z (HO.out.alloc _) rfl _ rfl (by first | (simp [go_sem]; done) | rfl | exact World.cell?_alloc_new _ _ _ _) HWF.out (by omega) (by decide) (by have := HB.out.size; simp; omega) ?_; intro v' w1 hown1 hg1; have hb1 := Below.app (HB.out.alloc HB.out.size _) hg1 (HO.out.alloc _) (Nat.le_refl _) (by have := HB.out.size; simp; omega); have HO1 := Lib.hid hown1; have HB1 := Lib.hid hb1; clear hown1 hb1 hg1)
        go_roundw
        case rel => exact ⟨j + 1, by omega, by go_num, by rw [S2.out]; exact HO1.out, HB1.out⟩
        case measure => simp [intOf]; omega
    · obtain rfl : j = xs.length := by omega
      go_wp2
      go_ret
      exact ⟨_, rfl, by rw [← SN.out, HRS.out]; exact HO.out, HB.out⟩
set_option maxHeartbeats 4000000 in
theorem rsame05_calls (a b : Option Addr) (ac bc : Nat) (xs ys : List Int) (w : World) (h : Row .i64 w a xs) (k : Row .i64 w b ys) :
    Calls Try.prog 11 #[.slice a xs.length ac, .slice b ys.length bc] w fun e w' => e = .returned (.bool (decide (xs = ys))) ∧ Below w.heap.size w w' := by
  have hl := h.len
  have hl2 := k.len
  by_cases hlen : xs.length = ys.length
  · have H := Lib.hid h
    have K := Lib.hid k
    have HY := Lib.hid (fun (hh : ∀ j, j < xs.length → xs.getD j 0 = ys.getD j 0) => show decide (xs = ys) = true from decide_eq_true (by
      apply List.ext_getElem hlen
      intro j h1 h2
      have := hh j h1
      rwa [List.getD_eq_getElem?_getD, List.getD_eq_getElem?_getD, List.getElem?_eq_getElem h1, List.getElem?_eq_getElem h2] at this))
    have HN := Lib.hid (fun j (hj : j < xs.length) (hne : xs.getD j 0 ≠ ys.getD j 0) => show decide (xs = ys) = false from decide_eq_false (fun e => hne (by rw [e])))
    clear h k
    generalize decide (xs = ys) = r at *
    have HL := Lib.hid hlen
    obtain ⟨n, hn⟩ : ∃ n : Nat, xs.length = n := ⟨_, rfl⟩
    rw [hn] at hlen HY HN hl ⊢
    rw [← hlen]
    have HNN := Lib.hid hn
    clear hn hlen hl2
    go_enter Try.func11, Try.ntmps11
    go_wp2
    go_loopw [5] (fun i wr => ∃ j m : Nat, j ≤ n ∧ i = .int .i64 j ∧ (∀ q, q < j → xs.getD q 0 = ys.getD q 0) ∧ wr = w.drewN m) (fun i _ => n - (intOf i).toNat)
    case atStart => exact ⟨0, 0, by omega, rfl, by omega, rfl⟩
    case round =>
      obtain ⟨j, m, hj, rfl, hz, rfl⟩ := hrel
      have HZ := Lib.hid hz
      clear hz
      by_cases hlt : j < n
      · obtain ⟨ad, rfl, hc, -⟩ := H.out.at_ (j := j) (by rw [HNN.out]; exact hlt)
        obtain ⟨bd, rfl, hd, -⟩ := K.out.at_ (j := j) (by rw [← HL.out, HNN.out]; exact hlt)
        have hlti : (j : Int) < n := by omega
        have HN1 := Lib.hid (fun e => HN.out j hlt e)
        have HZ1 := Lib.hid (fun (he : xs.getD j 0 = ys.getD j 0) => (show ∀ q, q < j + 1 → xs.getD q 0 = ys.getD q 0 by
          intro q hq
          rcases Nat.lt_succ_iff_lt_or_eq.1 hq with h1 | rfl
          · exact HZ.out q h1
          · exact he))
        generalize xs.getD j 0 = x at *
        generalize ys.getD j 0 = y at *
        by_cases hxy : x = y
        · have Z2 := Lib.hid (HZ1.out hxy)
          have q1 : (x != y) = false := bne_eq_false_iff_eq.2 hxy
          clear HN1 HZ1 hxy
          go_wp2
          go_quiet (fail)
          go_wp2
          exact ⟨⟨j + 1, _, by omega, by go_num, Z2.out, rfl⟩, by simp [intOf]; omega⟩
        · have R := Lib.hid (HN1.out hxy)
          have q1 : (x != y) = true := bne_iff_ne.2 hxy
          clear HN1 HZ1 hxy
          go_wp2
          go_quiet (fail)
          go_wp2
          go_ret
          rw [R.out]
          exact ⟨rfl, below_drewN (below_drewN (Below.refl _ _) _) _⟩
      · obtain rfl : j = n := by omega
        have R := Lib.hid (HY.out HZ.out)
        go_wp2
        go_ret
        rw [R.out]
        exact ⟨rfl, below_drewN (Below.refl _ _) _⟩
  · have D := Lib.hid (show decide (xs = ys) = false from decide_eq_false (fun e => hlen (by rw [e])))
    clear h k
    generalize decide (xs = ys) = r at *
    generalize xs.length = n at *
    generalize ys.length = m at *
    have hn2 : ¬ (n : Int) = m := by omega
    have q1 : ((n : Int) != m) = true := bne_iff_ne.2 hn2
    go_enter Try.func11, Try.ntmps11
    go_wp2
    go_ret
    rw [D.out]
    exact ⟨rfl, Below.refl _ _⟩
theorem infoRw : (Try.prog.info? 30).map (fun i => (i.zero, i.size, i.bytes)) = some (some (.slice none 0 0), 1, 24) := by kernel_rfl
def nilsN (m : Nat) : List Value := List.replicate m (.slice none 0 0)
theorem run_mkRows (N : Nat) (hN : N ≤ 100000) (w : World) : (Instr.makeSlice 57 (.int .i64 (N : Int)) (.int .i64 (N : Int))).run Try.prog w = .ok (.slice (some ⟨w.heap.size, 0, none⟩) N N) (w.alloc (.cells (nilsN N).toArray 30)) := by
  obtain ⟨i, hi, hz0, hz1, hz2⟩ := info_parts infoRw
  have h := run_makeSlice (P := Try.prog) w 57 30 i _ Try.underlying57 hi hz0 .i64 .i64 N N (by omega) (by omega) (by rw [hz1]; simp; omega) (by rw [hz2]; omega) (by omega)
  rw [h, hz1]
  simp only [Int.toNat_natCast, Nat.mul_one]
  congr 2
  unfold nilsN
  rw [← toList_madeCells_one (.slice none 0 0) N]
  rfl
set_option maxHeartbeats 4000000 in
theorem rnew_calls (n m : Nat) (w : World) (hm : m ≤ 1000) : Calls Try.prog 15 #[.int .i64 n, .int .i64 m] w fun e w' => e = .returned (.pointer (some ⟨w.heap.size + 1, 0, none⟩)) ∧ RL w.heap.size w.heap.size w' (w.heap.size + 1) w.heap.size n m (fun _ => []) ∧ Below w.heap.size w w' := by
  have mk := run_mkRows m (by omega) w
  have H := Lib.hid (show RL w.heap.size w.heap.size ((w.alloc (.cells (nilsN m).toArray 30)).alloc (.cells #[.int .i64 n, .slice (some ⟨w.heap.size, 0, none⟩) m m] 59)) (w.heap.size + 1) w.heap.size n m (fun _ => []) from
    ⟨by omega, Nat.le_refl _, blk_at (by simp), (nilsN m).toArray, (Blk.new w _ _).alloc _, by simp [nilsN], fun k hk => ⟨.slice none 0 0, by simp [nilsN, hk], own_nil _ _ _ _⟩⟩)
  have HB := Lib.hid (below_alloc (below_alloc (Below.refl w.heap.size w) (.cells (nilsN m).toArray 30)) (.cells #[.int .i64 n, .slice (some ⟨w.heap.size, 0, none⟩) m m] 59))
  generalize nilsN m = vs at *
  go_enter Try.func15, Try.ntmps15
  go_wp2
  go_ret
  exact ⟨by simp, H.out, HB.out⟩
set_option maxHeartbeats 4000000 in
theorem rpush_bad (base C q qb n m : Nat) (r : Nat → List Nat) (l v : Int) (w : World) (h : RL base C w q qb n m r) (hb : ¬ mayI n m l v) :
    Calls Try.prog 16 #[.pointer (some ⟨q, 0, none⟩), .int .i64 l, .int .i64 v] w fun e w' => e = .returned (.bool false) ∧ w = w' := by
  have MC := Lib.hid (rmay_calls base C q qb n m r l v w h)
  rw [decide_eq_false hb] at MC
  clear h hb
  go_enter Try.func16, Try.ntmps16
  go_wp2_with (go_at_call 31; (with_reducible refine (MC.out).mono ?_); rintro e w' ⟨rfl, rfl⟩)
  go_ret
  exact ⟨rfl, rfl⟩
set_option maxHeartbeats 4000000 in
theorem rapp_bad (base C q qb n m : Nat) (r : Nat → List Nat) (l v : Int) (w : World) (h : RL base C w q qb n m r) (hb : ¬ mayI n m l v) :
    Calls Try.prog 17 #[.pointer (some ⟨q, 0, none⟩), .int .i64 l, .int .i64 v] w fun e w' => e = .returned (.bool false) ∧ w = w' := by
  have MC := Lib.hid (rmay_calls base C q qb n m r l v w h)
  rw [decide_eq_false hb] at MC
  clear h hb
  go_enter Try.func17, Try.ntmps17
  go_wp2_with (go_at_call 31; (with_reducible refine (MC.out).mono ?_); rintro e w' ⟨rfl, rfl⟩)
  go_ret
  exact ⟨rfl, rfl⟩
end Go.Proofs.Ytcmcljdecmbceaa.Ct
