import Derived.Test.YtcmcljdecmbceaaLiF
import Derived.Laws.OwnMore
/-! Lists over an array: New. -/
namespace Go.Proofs.Ytcmcljdecmbceaa.Ct
open Go.RowKit
set_option linter.unusedVariables false
set_option linter.unusedSimpArgs false
theorem infoNode : (Try.prog.info? 50).map (fun i => (i.zero, i.size, i.bytes)) = some (some (.agg #[.int .i64 0, .int .i64 0, .int .i64 0]), 3, 24) := by kernel_rfl
theorem made_vals (c N : Nat) (z : Array Value) (hz : ∀ j : Nat, z[j % z.size]! = .int .i64 0) : madeCells z N = (valsN (fun _ => 0) N).toArray := by
  unfold madeCells valsN
  apply Array.ext_getElem?
  intro i
  by_cases h : i < N
  · simp [h]; exact hz i
  · simp [h]
theorem run_mkNode (N : Nat) (hN : N ≤ 100000) (w : World) : (Instr.makeSlice 42 (.int .i64 (N : Int)) (.int .i64 (N : Int))).run Try.prog w = .ok (.slice (some ⟨w.heap.size, 0, none⟩) N N) (w.alloc (.cells (valsN (fun _ => 0) (N * 3)).toArray 50)) := by
  obtain ⟨i, hi, hz0, hz1, hz2⟩ := info_parts infoNode
  have h := run_makeSlice (P := Try.prog) w 42 50 i _ Try.underlying42 hi hz0 .i64 .i64 N N (by omega) (by omega) (by rw [hz1]; simp; omega) (by rw [hz2]; omega) (by omega)
  rw [h, hz1]
  simp only [Int.toNat_natCast]
  rw [made_vals 0 (N * 3) _ (fun j => by
    have : j % 3 = 0 ∨ j % 3 = 1 ∨ j % 3 = 2 := by omega
    show (#[Value.int .i64 0, Value.int .i64 0, Value.int .i64 0])[j % 3]! = _
    rcases this with e | e | e <;> rw [e] <;> rfl)]
theorem run_mkInt (N : Nat) (hN : N ≤ 100000) (w : World) : (Instr.makeSlice 30 (.int .i64 (N : Int)) (.int .i64 (N : Int))).run Try.prog w = .ok (.slice (some ⟨w.heap.size, 0, none⟩) N N) (w.alloc (.cells (valsN (fun _ => 0) N).toArray 3)) := by
  obtain ⟨i, hi, hz0, hz1, hz2⟩ := info_parts infoI
  have h := run_makeSlice (P := Try.prog) w 30 3 i _ Try.underlying30 hi hz0 .i64 .i64 N N (by omega) (by omega) (by rw [hz1]; simp; omega) (by rw [hz2]; omega) (by omega)
  rw [h, hz1]
  simp only [Int.toNat_natCast, Nat.mul_one]
  rw [made_vals 0 N _ (fun j => by
    show (#[Value.int .i64 0])[j % 1]! = _
    rw [Nat.mod_one]; rfl)]
set_option maxHeartbeats 4000000 in
theorem lnew_bad (n m : Int) (w : World) (h : n < 0 ∨ 1024 < n ∨ m < 0 ∨ 16 < m) : Calls Try.prog 6 #[.int .i64 n, .int .i64 m] w fun e w' => e = .returned (.tuple #[.pointer none, .int .i64 1]) ∧ w = w' := by
  by_cases h1 : n < 0
  · go_enter Try.func6, Try.ntmps6
    go_wp2
    go_ret2
    exact ⟨rfl, rfl⟩
  · by_cases h2 : 1024 < n
    · clear h
      go_enter Try.func6, Try.ntmps6
      go_wp2
      go_ret2
      exact ⟨rfl, rfl⟩
    · by_cases h3 : m < 0
      · clear h
        go_enter Try.func6, Try.ntmps6
        go_wp2
        go_ret2
        exact ⟨rfl, rfl⟩
      · have h4 : 16 < m := by omega
        clear h
        go_enter Try.func6, Try.ntmps6
        go_wp2
        go_ret2
        exact ⟨rfl, rfl⟩
theorem ls_made1 (w : World) (n m : Nat) : LS w.heap.size (((w.alloc (.cells (valsN (fun _ => 0) ((n + m) * 3)).toArray 50)).alloc (.cells (valsN (fun _ => 0) m).toArray 3)).alloc (.cells #[.slice (some ⟨w.heap.size, 0, none⟩) (n + m) (n + m), .int .i64 n, .slice (some ⟨w.heap.size + 1, 0, none⟩) m m] 44)).drew (w.heap.size + 1 + 1) w.heap.size (w.heap.size + 1) n m (fun _ => 0) (fun _ => 0) :=
  ⟨by omega, Nat.le_refl _, by omega, (blk_at (by simp)).drew, (((Blk.new w _ _).alloc _).alloc _).drew, ((blk_at (by simp)).alloc _).drew⟩
theorem ls_made2 (w : World) (n m : Nat) : LS w.heap.size (((w.alloc (.cells (valsN (fun _ => 0) m).toArray 3)).alloc (.cells (valsN (fun _ => 0) ((n + m) * 3)).toArray 50)).alloc (.cells #[.slice (some ⟨w.heap.size + 1, 0, none⟩) (n + m) (n + m), .int .i64 n, .slice (some ⟨w.heap.size, 0, none⟩) m m] 44)).drew (w.heap.size + 1 + 1) (w.heap.size + 1) w.heap.size n m (fun _ => 0) (fun _ => 0) :=
  ⟨by omega, by omega, Nat.le_refl _, (blk_at (by simp)).drew, ((blk_at (by simp)).alloc _).drew, (((Blk.new w _ _).alloc _).alloc _).drew⟩
set_option maxHeartbeats 8000000 in
theorem lnew_ok (n m : Nat) (w : World) (hn : n ≤ 1024) (hm : m ≤ 16) : Calls Try.prog 6 #[.int .i64 n, .int .i64 m] w fun e w' => ∃ x gl gm, e = .returned (.tuple #[.pointer (some ⟨x, 0, none⟩), .int .i64 0]) ∧ LR w.heap.size w' x gl gm n m (fun _ => []) ∧ Below w.heap.size w w' := by
  obtain ⟨N, hN⟩ : ∃ N, n + m = N := ⟨_, rfl⟩
  have HN := Lib.hid hN
  have hN9 : N ≤ 1040 := by omega
  have mkN := fun W => run_mkNode N (by omega) W
  have mkI := fun W => run_mkInt m (by omega) W
  have hw : IntKind.i64.wrap ((n : Int) + m) = N := (i64_wrap_id (by omega) (by omega)).trans (by omega)
  have q1 : ¬ (n : Int) < 0 := by omega
  have q2 : ¬ (1024 : Int) < n := by omega
  have q3 : ¬ (m : Int) < 0 := by omega
  have q4 : ¬ (16 : Int) < m := by omega
  have LB := Lib.hid (show Below w.heap.size w (((w.alloc (.cells (valsN (fun _ => 0) (N * 3)).toArray 50)).alloc (.cells (valsN (fun _ => 0) m).toArray 3)).alloc (.cells #[.slice (some ⟨w.heap.size, 0, none⟩) N N, .int .i64 n, .slice (some ⟨w.heap.size + 1, 0, none⟩) m m] 44)).drew from below_drew (below_alloc (below_alloc (below_alloc (Below.refl _ _) _) _) _))
  have LB2 := Lib.hid (show Below w.heap.size w (((w.alloc (.cells (valsN (fun _ => 0) m).toArray 3)).alloc (.cells (valsN (fun _ => 0) (N * 3)).toArray 50)).alloc (.cells #[.slice (some ⟨w.heap.size + 1, 0, none⟩) N N, .int .i64 n, .slice (some ⟨w.heap.size, 0, none⟩) m m] 44)).drew from below_drew (below_alloc (below_alloc (below_alloc (Below.refl _ _) _) _) _))
  clear hN
  go_enter Try.func6, Try.ntmps6
  go_upto_region 3 with (fail)
  clear q1 q2 q3 q4
  go_cut [6] (fun s wx => ∃ x gl gm, s = .pointer (some ⟨x, 0, none⟩) ∧ LS w.heap.size wx x gl gm n m (fun _ => 0) (fun _ => 0) ∧ Below w.heap.size w wx)
  case first =>
    go_region
    · go_wp2
      go_meet
      exact ⟨_, _, _, rfl, by rw [← HN.out]; exact ls_made1 w n m, LB.out⟩
    · go_wp2
      go_meet
      exact ⟨_, _, _, rfl, by rw [← HN.out]; exact ls_made2 w n m, LB2.out⟩
  case rest =>
  obtain ⟨x, gl, gm, rfl, hs, hb⟩ := hcut
  have HS := Lib.hid hs
  have HB := Lib.hid hb
  have c0 : wc.cell? ⟨x, 0, none⟩ = some (.slice (some ⟨gl, 0, none⟩) N N) := by rw [← HN.out]; exact hs.cx.1
  clear hs hb hw mkN mkI LB LB2
  go_wp2
  clear c0
  go_loopw [36] (fun i wr => ∃ (j : Nat) (f : Fn), j ≤ N ∧ i = .int .i64 (j : Int) ∧ LS w.heap.size wr x gl gm n m f (fun _ => 0) ∧ (∀ y, y < N → f (y * 3) = (if y < j then (y : Int) else 0) ∧ f (y * 3 + 1) = (if y < j then (y : Int) else 0) ∧ f (y * 3 + 2) = 0) ∧ Below w.heap.size w wr) (fun i _ => N - (intOf i).toNat)
  case atStart => exact ⟨0, _, by omega, rfl, HS.out, fun y _ => ⟨by simp, by simp, rfl⟩, HB.out⟩
  case round =>
    obtain ⟨j, f, hj, rfl, hs, hf, hb⟩ := hrel
    have HS2 := Lib.hid hs
    have HF := Lib.hid hf
    have HB2 := Lib.hid hb
    clear hf hb
    by_cases hlt : j < N
    · have hlti : (j : Int) < N := by omega
      have c0 : wr.cell? ⟨x, 0, none⟩ = some (.slice (some ⟨gl, 0, none⟩) N N) := by rw [← HN.out]; exact hs.cx.1
      have e0 := hs.cl (j := j * 3) (by have := HN.out; omega)
      have e1 := hs.cl (j := j * 3 + 1) (by have := HN.out; omega)
      have e2 := hs.cl (j := j * 3 + 2) (by have := HN.out; omega)
      have f0 := hs.fl (j * 3)
      have f1 := hs.fl (j * 3 + 1)
      have f2 := hs.fl (j * 3 + 2)
      have H3 := Lib.hid (((hs.setL (j * 3) j).setL (j * 3 + 1) j).setL (j * 3 + 2) 0)
      have HB3 := Lib.hid (((HB2.out.setCell (p := ⟨gl, j * 3, none⟩) hs.bl (.int .i64 (j : Int))).setCell (p := ⟨gl, j * 3 + 1, none⟩) hs.bl (.int .i64 (j : Int))).setCell (p := ⟨gl, j * 3 + 2, none⟩) hs.bl (.int .i64 0))
      clear hs
      go_wp2
      refine ⟨⟨j + 1, _, by omega, by go_num, H3.out, fun y hy => ?_, HB3.out⟩, by simp [intOf]; omega⟩
      obtain ⟨g1, g2, g3⟩ := HF.out y hy
      unfold upd
      by_cases e : y = j
      · subst e
        refine ⟨?_, ?_, ?_⟩
        · rw [if_neg (by omega), if_neg (by omega), if_pos rfl, if_pos (by omega)]
        · rw [if_neg (by omega), if_pos rfl, if_pos (by omega)]
        · rw [if_pos rfl]
      · refine ⟨?_, ?_, ?_⟩
        · rw [if_neg (by omega), if_neg (by omega), if_neg (by omega), g1]; split <;> split <;> first | rfl | omega
        · rw [if_neg (by omega), if_neg (by omega), if_neg (by omega), g2]; split <;> split <;> first | rfl | omega
        · rw [if_neg (by omega), if_neg (by omega), if_neg (by omega), g3]
    · obtain rfl : j = N := by omega
      clear hs
      go_wp2
      go_ret2
      exact ⟨x, gl, gm, rfl, ⟨f, _, HS2.out, Rep.new n m f _ (fun y hy => by
        obtain ⟨g1, g2, g3⟩ := HF.out y (by rw [← HN.out]; exact hy)
        have hyN : y < j := by rw [← HN.out]; exact hy
        rw [if_pos hyN] at g1 g2
        exact ⟨g1, g2, g3⟩) (fun _ _ => rfl)⟩, HB2.out⟩
end Go.Proofs.Ytcmcljdecmbceaa.Ct
