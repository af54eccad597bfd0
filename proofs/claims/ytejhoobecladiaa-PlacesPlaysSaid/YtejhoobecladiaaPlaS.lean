import Derived.Test.YtejhoobecladiaaPlaR
import Derived.Test.YtejhoobecladiaaPlaQ
import Derived.Test.YtejhoobecladiaaClamp
import Derived.Laws.OwnMore
/-! Chapter 27: New, the reference's New and Leaf. -/
namespace Go.Proofs.Ytejhoobecladiaa.Ct
open Go.RowKit
set_option linter.unusedVariables false
set_option linter.unusedSimpArgs false
section
variable {base x gl n m : Nat} {w w1 : World} {s : Nat → One27}
/-- a leaf's slots, of so many that there are. -/
theorem occ_far {s : Nat → One27} {a : Nat} (hf : ∀ j, a ≤ j → (s j).lba = 0) : ∀ k, occ s a k = []
  | 0 => rfl
  | k + 1 => by rw [occ_miss (hf _ (by omega)), occ_far hf k]
theorem rleafQ (h : RS base w x gl n m s) (hf : ∀ j, j < m → (s j).lba ≤ n) (h0 : ∀ j, m ≤ j → (s j).lba = 0) (hm : m ≤ 14) (hn : n ≤ 100000) (no : Int) (hno : I64 no) :
    Calls Try.prog 35 #[.pointer (some ⟨x, 0, none⟩), .int .i64 no] w fun e w' => ∃ v, e = .returned v ∧ EntR w' w.heap.size v s (leafN m s no) ∧ Below w.heap.size w w' := by
  obtain ⟨c0, c1⟩ := h.cx
  by_cases h1 : no < 0
  · have e : leafN m s no = [] := if_neg (by omega)
    rw [e]
    clear h e
    go_enter Try.func35, Try.ntmps35
    go_wp2
    go_ret
    exact ⟨_, rfl, entR_nil _ _ _, Below.refl _ _⟩
  · by_cases h2 : no ≤ m
    · obtain ⟨k, rfl⟩ : ∃ k : Nat, no = k := ⟨no.toNat, by omega⟩
      have e : leafN m s k = occ s (k * 3) (min 3 (m - k * 3)) := by
        have e1 : leafN m s k = rowN m s ((k : Int) * 3) ((k : Int) * 3 + 3) := if_pos (by omega)
        rw [e1]
        unfold rowN
        have e2 : spanA ((k : Int) * 3) = k * 3 := by unfold spanA; omega
        have e3 : spanK m ((k : Int) * 3) ((k : Int) * 3 + 3) = min 3 (m - k * 3) := by unfold spanK; omega
        rw [e2, e3]
      rw [e]
      have RC0 := rrowsQ h hf (by omega) hn (k * 3) 3 (by omega) (by omega)
      rw [show ((k * 3 : Nat) : Int) = 3 * (k : Int) by omega, show ((3 : Nat) : Int) = 3 from rfl] at RC0
      have RC := Lib.hid RC0
      have h3 : ¬ (m : Int) < k := by omega
      clear RC0
      clear h e h2
      go_enter Try.func35, Try.ntmps35
      go_wp2_with (go_at_call 32; (with_reducible refine (RC.out).mono ?_); rintro e w1 ⟨v, rfl, h1, h2⟩; have H1 := Lib.hid h1; have H2 := Lib.hid h2; clear h1 h2)
      go_ret
      exact ⟨v, rfl, H1.out, H2.out⟩
    · have e : leafN m s no = [] := by
        by_cases h3 : no ≤ 64
        · have e1 : leafN m s no = rowN m s (no * 3) (no * 3 + 3) := if_pos (by omega)
          rw [e1]
          unfold rowN
          have : spanK m (no * 3) (no * 3 + 3) = 0 := by unfold spanK; omega
          rw [this]; rfl
        · exact if_neg (by omega)
      have h3 : (m : Int) < no := by omega
      rw [e]
      clear h e h2
      go_enter Try.func35, Try.ntmps35
      go_wp2
      go_ret
      exact ⟨_, rfl, entR_nil _ _ _, Below.refl _ _⟩
end
/-- which places there are. -/
def mayN (b s : Int) : Bool := decide (0 ≤ b ∧ b ≤ 512) && decide (0 ≤ s ∧ s ≤ 192)
theorem madeV (N : Nat) (z : Array Value) (f : Nat → Value) (hz : ∀ j : Nat, z[j % z.size]! = f j) : madeCells z N = (valsV f N).toArray := by
  unfold madeCells valsV
  apply Array.ext_getElem?
  intro i
  by_cases h : i < N
  · simp [h]; exact hz i
  · simp [h]
theorem infoOne : (Try.prog.info? 63).map (fun i => (i.zero, i.size, i.bytes)) = some (some (.agg #[.int .i64 0, .int .u64 0, .bool false]), 3, 24) := by kernel_rfl
theorem infoROne : (Try.prog.info? 51).map (fun i => (i.zero, i.size, i.bytes)) = some (some (.agg #[.bool false, .bool false, .int .i64 0, .int .u64 0]), 4, 24) := by kernel_rfl
theorem run_mkOne (N : Nat) (hN : N ≤ 100000) (w : World) : (Instr.makeSlice 57 (.int .i64 (N : Int)) (.int .i64 (N : Int))).run Try.prog w = .ok (.slice (some ⟨w.heap.size, 0, none⟩) N N) (w.alloc (.cells (valsV (cel27 fun _ => o27) (N * 3)).toArray 63)) := by
  obtain ⟨i, hi, hz0, hz1, hz2⟩ := info_parts infoOne
  have h := run_makeSlice (P := Try.prog) w 57 63 i _ Try.underlying57 hi hz0 .i64 .i64 N N (by omega) (by omega) (by rw [hz1]; simp; omega) (by rw [hz2]; omega) (by omega)
  rw [h, hz1]
  simp only [Int.toNat_natCast]
  rw [madeV (N * 3) _ (cel27 fun _ => o27) (fun j => by
    have : j % 3 = 0 ∨ j % 3 = 1 ∨ j % 3 = 2 := by omega
    show (#[Value.int .i64 0, Value.int .u64 0, Value.bool false])[j % 3]! = _
    unfold cel27
    rcases this with e | e | e <;> rw [e] <;> rfl)]
theorem run_mkInt (N : Nat) (hN : N ≤ 100000) (w : World) : (Instr.makeSlice 38 (.int .i64 (N : Int)) (.int .i64 (N : Int))).run Try.prog w = .ok (.slice (some ⟨w.heap.size, 0, none⟩) N N) (w.alloc (.cells (valsV (fun _ => .int .i64 ((0 : Nat) : Int)) N).toArray 3)) := by
  obtain ⟨i, hi, hz0, hz1, hz2⟩ := info_parts infoI
  have h := run_makeSlice (P := Try.prog) w 38 3 i _ Try.underlying38 hi hz0 .i64 .i64 N N (by omega) (by omega) (by rw [hz1]; simp; omega) (by rw [hz2]; omega) (by omega)
  rw [h, hz1]
  simp only [Int.toNat_natCast, Nat.mul_one]
  rw [madeV N _ (fun _ => .int .i64 ((0 : Nat) : Int)) (fun j => by
    show (#[Value.int .i64 0])[j % 1]! = _
    rw [Nat.mod_one]; rfl)]
theorem run_mkROne (N : Nat) (hN : N ≤ 100000) (w : World) : (Instr.makeSlice 52 (.int .i64 (N : Int)) (.int .i64 (N : Int))).run Try.prog w = .ok (.slice (some ⟨w.heap.size, 0, none⟩) N N) (w.alloc (.cells (valsV (celR fun _ => o27) (N * 4)).toArray 51)) := by
  obtain ⟨i, hi, hz0, hz1, hz2⟩ := info_parts infoROne
  have h := run_makeSlice (P := Try.prog) w 52 51 i _ Try.underlying52 hi hz0 .i64 .i64 N N (by omega) (by omega) (by rw [hz1]; simp; omega) (by rw [hz2]; omega) (by omega)
  rw [h, hz1]
  simp only [Int.toNat_natCast]
  rw [madeV (N * 4) _ (celR fun _ => o27) (fun j => by
    have : j % 4 = 0 ∨ j % 4 = 1 ∨ j % 4 = 2 ∨ j % 4 = 3 := by omega
    show (#[Value.bool false, Value.bool false, Value.int .i64 0, Value.int .u64 0])[j % 4]! = _
    unfold celR
    rcases this with e | e | e | e <;> rw [e] <;> rfl)]
theorem rnew_ok (n m : Nat) (w : World) (hm : m ≤ 100000) : Calls Try.prog 19 #[.int .i64 n, .int .i64 m] w fun e w' => ∃ x, e = .returned (.pointer (some ⟨x, 0, none⟩)) ∧ (∃ gl, RS w.heap.size w' x gl n m (fun _ => o27)) ∧ Below w.heap.size w w' := by
  have mk := fun W => run_mkROne m hm W
  have K := Lib.hid (show RS w.heap.size ((w.alloc (.cells (valsV (celR fun _ => o27) (m * 4)).toArray 51)).alloc (.cells #[.int .i64 n, .slice (some ⟨w.heap.size, 0, none⟩) m m] 54)) (w.heap.size + 1) w.heap.size n m (fun _ => o27) from
    ⟨by omega, by omega, blk_at (by simp), (Blk.new _ _ _).alloc _⟩)
  have B := Lib.hid (show Below w.heap.size w ((w.alloc (.cells (valsV (celR fun _ => o27) (m * 4)).toArray 51)).alloc (.cells #[.int .i64 n, .slice (some ⟨w.heap.size, 0, none⟩) m m] 54)) from below_alloc (below_alloc (Below.refl _ _) _) _)
  go_enter Try.func19, Try.ntmps19
  go_wp2
  go_ret
  exact ⟨w.heap.size + 1, rfl, ⟨w.heap.size, K.out⟩, B.out⟩
theorem ps_made1 (w : World) (n m : Nat) : PS w.heap.size (((w.alloc (.cells (valsV (cel27 fun _ => o27) (m * 3)).toArray 63)).alloc (.cells (valsV (fun _ => .int .i64 ((0 : Nat) : Int)) n).toArray 3)).alloc (.cells #[.slice (some ⟨w.heap.size, 0, none⟩) m m, .slice (some ⟨w.heap.size + 1, 0, none⟩) n n, .int .i64 0] 59)).drew (w.heap.size + 1 + 1) w.heap.size (w.heap.size + 1) n m (fun _ => o27) (fun _ => 0) 0 :=
  ⟨by omega, Nat.le_refl _, by omega, (blk_at (by simp)).drew, (((Blk.new w _ _).alloc _).alloc _).drew, ((blk_at (by simp)).alloc _).drew⟩
theorem ps_made2 (w : World) (n m : Nat) : PS w.heap.size (((w.alloc (.cells (valsV (fun _ => .int .i64 ((0 : Nat) : Int)) n).toArray 3)).alloc (.cells (valsV (cel27 fun _ => o27) (m * 3)).toArray 63)).alloc (.cells #[.slice (some ⟨w.heap.size + 1, 0, none⟩) m m, .slice (some ⟨w.heap.size, 0, none⟩) n n, .int .i64 0] 59)).drew (w.heap.size + 1 + 1) (w.heap.size + 1) w.heap.size n m (fun _ => o27) (fun _ => 0) 0 :=
  ⟨by omega, by omega, Nat.le_refl _, (blk_at (by simp)).drew, ((blk_at (by simp)).alloc _).drew, (((Blk.new w _ _).alloc _).alloc _).drew⟩
theorem cnt27_zero (k : Nat) : cnt27 (fun _ => o27) k = 0 := by
  induction k with
  | zero => rfl
  | succ k ih => unfold cnt27; rw [ih]; rfl
set_option maxHeartbeats 4000000 in
theorem new27_ok (n m : Nat) (w : World) (hn : n ≤ 512) (hm : m ≤ 192) : Calls Try.prog 7 #[.int .i64 n, .int .i64 m] w fun e w' => ∃ x, e = .returned (.tuple #[.pointer (some ⟨x, 0, none⟩), .int .i64 0]) ∧ (∃ gl gw, LQ w.heap.size w' x gl gw n m (fun _ => o27)) ∧ Below w.heap.size w w' := by
  have mk1 := fun W => run_mkOne m (by omega) W
  have mk2 := fun W => run_mkInt n (by omega) W
  have c1 : clampS n 0 512 = n := by unfold clampS; rw [if_neg (by omega), if_neg (by omega)]
  have c2 : clampS m 0 192 = m := by unfold clampS; rw [if_neg (by omega), if_neg (by omega)]
  have CC1 := Lib.hid (fun w => c1 ▸ clamp_calls n 0 512 w)
  have CC2 := Lib.hid (fun w => c2 ▸ clamp_calls m 0 192 w)
  have q1 : ((n : Int) != n) = false := bne_self_eq_false _
  have q2 : ((m : Int) != m) = false := bne_self_eq_false _
  have B1 := Lib.hid (show Below w.heap.size w (((w.alloc (.cells (valsV (cel27 fun _ => o27) (m * 3)).toArray 63)).alloc (.cells (valsV (fun _ => .int .i64 ((0 : Nat) : Int)) n).toArray 3)).alloc (.cells #[.slice (some ⟨w.heap.size, 0, none⟩) m m, .slice (some ⟨w.heap.size + 1, 0, none⟩) n n, .int .i64 0] 59)).drew from below_drew (below_alloc (below_alloc (below_alloc (Below.refl _ _) _) _) _))
  have B2 := Lib.hid (show Below w.heap.size w (((w.alloc (.cells (valsV (fun _ => .int .i64 ((0 : Nat) : Int)) n).toArray 3)).alloc (.cells (valsV (cel27 fun _ => o27) (m * 3)).toArray 63)).alloc (.cells #[.slice (some ⟨w.heap.size + 1, 0, none⟩) m m, .slice (some ⟨w.heap.size, 0, none⟩) n n, .int .i64 0] 59)).drew from below_drew (below_alloc (below_alloc (below_alloc (Below.refl _ _) _) _) _))
  have P1 := Lib.hid (ps_made1 w n m)
  have P2 := Lib.hid (ps_made2 w n m)
  clear c1 c2
  go_enter Try.func7, Try.ntmps7
  go_upto_region 3 with (first
    | (go_at_call 24; (with_reducible refine (CC1.out _).mono ?_); rintro e w' ⟨rfl, rfl⟩)
    | (go_at_call 24; (with_reducible refine (CC2.out _).mono ?_); rintro e w' ⟨rfl, rfl⟩))
  go_region
  · go_wp2
    go_ret2
    exact ⟨_, rfl, ⟨_, _, _, by rw [cnt27_zero]; exact P1.out, PInv.new n m⟩, B1.out⟩
  · go_wp2
    go_ret2
    exact ⟨_, rfl, ⟨_, _, _, by rw [cnt27_zero]; exact P2.out, PInv.new n m⟩, B2.out⟩
theorem new27_bad (b s : Int) (w : World) (h : mayN b s = false) : Calls Try.prog 7 #[.int .i64 b, .int .i64 s] w fun e w' => e = .returned (.tuple #[.pointer none, .int .i64 1]) ∧ w = w' := by
  have CC1 := Lib.hid (fun w => clamp_calls b 0 512 w)
  have CC2 := Lib.hid (fun w => clamp_calls s 0 192 w)
  by_cases h1 : 0 ≤ b ∧ b ≤ 512
  · have h2 : ¬ (0 ≤ s ∧ s ≤ 192) := by
      intro h2
      unfold mayN at h
      rw [decide_eq_true h1, decide_eq_true h2] at h
      cases h
    have c1 : clampS b 0 512 = b := by unfold clampS; rw [if_neg (by omega), if_neg (by omega)]
    have c2 : clampS s 0 192 ≠ s := by unfold clampS; split; omega; split <;> omega
    have q1 : (b != b) = false := bne_self_eq_false _
    have q2 : (clampS s 0 192 != s) = true := bne_iff_ne.2 c2
    rw [c1] at CC1
    generalize clampS s 0 192 = z at *
    clear c1 c2 h1 h2 h
    go_enter Try.func7, Try.ntmps7
    go_wp2_with (first
      | (go_at_call 24; (with_reducible refine (CC1.out _).mono ?_); rintro e w' ⟨rfl, rfl⟩)
      | (go_at_call 24; (with_reducible refine (CC2.out _).mono ?_); rintro e w' ⟨rfl, rfl⟩))
    go_ret2
    exact ⟨rfl, rfl⟩
  · have c1 : clampS b 0 512 ≠ b := by unfold clampS; split; omega; split <;> omega
    have q1 : (clampS b 0 512 != b) = true := bne_iff_ne.2 c1
    generalize clampS b 0 512 = z at *
    clear c1 h1 h
    go_enter Try.func7, Try.ntmps7
    go_wp2_with (first
      | (go_at_call 24; (with_reducible refine (CC1.out _).mono ?_); rintro e w' ⟨rfl, rfl⟩)
      | (go_at_call 24; (with_reducible refine (CC2.out _).mono ?_); rintro e w' ⟨rfl, rfl⟩))
    go_ret2
    exact ⟨rfl, rfl⟩
end Go.Proofs.Ytejhoobecladiaa.Ct
