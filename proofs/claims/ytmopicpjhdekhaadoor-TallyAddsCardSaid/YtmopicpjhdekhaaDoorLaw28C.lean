import Derived.Test.YtmopicpjhdekhaaDoorLaw28B
import Derived.Deep.RegionHeldLaw
/-! TallyAdds. -/
namespace Go.Proofs.YtmopicpjhdekhaaDoor.Ct
open Go.RowKit
set_option linter.unusedVariables false
set_option linter.unusedSimpArgs false
theorem sat_mono {x y : Int} (h : x ≤ y) : sat x ≤ sat y := by
  unfold sat
  split <;> split <;> (try split) <;> (try split) <;> omega
theorem sum3_mono {a b : Nat → Int} (h : ∀ i, i < 14 → a i ≤ b i) : sumS [a 0, a 1, a 2] ≤ sumS [b 0, b 1, b 2] := by
  have h0 := h 0 (by omega)
  have h1 := h 1 (by omega)
  have h2 := h 2 (by omega)
  show satAdd (satAdd (satAdd 0 (a 0)) (a 1)) (a 2) ≤ satAdd (satAdd (satAdd 0 (b 0)) (b 1)) (b 2)
  unfold satAdd
  have e0 := sat_mono (x := 0 + a 0) (y := 0 + b 0) (by omega)
  have e1 := sat_mono (x := sat (0 + a 0) + a 1) (y := sat (0 + b 0) + b 1) (by omega)
  exact sat_mono (by omega)
/-- are the first k numbers sizes? -/
def riK (a : Nat → Int) : Nat → Bool
  | 0 => true
  | k + 1 => riK a k && decide (a k ≥ 0)
theorem riK_iff (a : Nat → Int) : ∀ k, riK a k = true ↔ ∀ i, i < k → 0 ≤ a i
  | 0 => by simp [riK]
  | k + 1 => by
    unfold riK
    rw [Bool.and_eq_true, riK_iff a k, decide_eq_true_eq]
    constructor
    · intro h i hi
      by_cases e : i = k
      · subst e; exact h.2
      · exact h.1 i (by omega)
    · intro h; exact ⟨fun i hi => h i (by omega), h k (by omega)⟩
theorem ri_grown (a : Nat → Int) : riK a 14 = grownS (fun _ => 0) a := by
  rw [Bool.eq_iff_iff, riK_iff, grownS_iff]
def grK (a b : Nat → Int) (k : Nat) : Bool := fellN a b k == 0
theorem grK_next (a b : Nat → Int) (k : Nat) : grK a b (k + 1) = (grK a b k && decide (b k ≥ a k)) := by
  unfold grK
  rw [Bool.eq_iff_iff, beq_iff_eq, fellN_zero, Bool.and_eq_true, beq_iff_eq, fellN_zero, decide_eq_true_eq]
  constructor
  · intro h; exact ⟨fun i hi => h i (by omega), h k (by omega)⟩
  · intro h i hi
    by_cases e : i = k
    · subst e; exact h.2
    · exact h.1 i (by omega)
/-- the sums of the first k numbers. -/
def sumsK (a b : Nat → Int) (k : Nat) : List Value := (List.range k).map fun j => .int .i64 (satAdd (a j) (b j))
theorem sumsK_next (a b : Nat → Int) (k : Nat) : sumsK a b (k + 1) = sumsK a b k ++ [.int .i64 (satAdd (a k) (b k))] := by simp [sumsK, List.range_succ]
theorem c14_sl {base : Nat} {w : World} {sv : Value} {a b : Nat → Int} (h : SL base w 3 1 sv 14 (sumsK a b 14)) : ∃ g off c, sv = .slice (some ⟨g, off, none⟩) 14 c ∧ 14 ≤ c ∧ c ≤ 9223372036854775807 ∧ ∀ j, j < 14 → w.cell? ⟨g, off + j, none⟩ = some (.int .i64 (satAdd (a j) (b j))) := by
  obtain ⟨g, off, cap, cs, rfl, hb, hbl, h1, h2, h3⟩ := h.at_ (by omega)
  refine ⟨g, off, cap, rfl, h1, h2, fun j hj => ?_⟩
  rw [hbl.cell, h3 j (by omega)]
  simp [sumsK, hj]
set_option maxRecDepth 10000 in
set_option maxHeartbeats 8000000 in
theorem rof_off (g off c : Nat) (f : Nat → Int) (w : World) (h : ∀ j, j < 14 → w.cell? ⟨g, off + j, none⟩ = some (.int .i64 (f j))) :
    Calls Tryd.prog 19 #[.slice (some ⟨g, off, none⟩) 14 c] w fun e w' => e = .returned (.agg (tlC f)) ∧ Below w.heap.size w w' := by
  have BW := Lib.hid (below_alloc (Below.refl w.heap.size w) (.cells zero14 23))
  have KW := Lib.hid (Blk.new w 23 zero14)
  unfold zero14 at BW KW
  go_enter Tryd.func19, Tryd.ntmps19
  go_upto_region 1 with (fail)
  refine wp_region_DT 43 [] [.slice (some ⟨g, off, none⟩) 14 c, _, .pointer (some ⟨w.heap.size, 0, none⟩), .slice (some ⟨g, off, none⟩) 14 c, .pointer (some ⟨g, off + 0, none⟩), .int .i64 (f 0), .slice (some ⟨g, off, none⟩) 14 c, .pointer (some ⟨g, off + 1, none⟩), .int .i64 (f 1), .slice (some ⟨g, off, none⟩) 14 c, .pointer (some ⟨g, off + 2, none⟩), .int .i64 (f 2), .slice (some ⟨g, off, none⟩) 14 c, .pointer (some ⟨g, off + 3, none⟩), .int .i64 (f 3), .slice (some ⟨g, off, none⟩) 14 c, .pointer (some ⟨g, off + 4, none⟩), .int .i64 (f 4), .slice (some ⟨g, off, none⟩) 14 c, .pointer (some ⟨g, off + 5, none⟩), .int .i64 (f 5), .slice (some ⟨g, off, none⟩) 14 c, .pointer (some ⟨g, off + 6, none⟩), .int .i64 (f 6), .slice (some ⟨g, off, none⟩) 14 c, .pointer (some ⟨g, off + 7, none⟩), .int .i64 (f 7), .slice (some ⟨g, off, none⟩) 14 c, .pointer (some ⟨g, off + 8, none⟩), .int .i64 (f 8), .slice (some ⟨g, off, none⟩) 14 c, .pointer (some ⟨g, off + 9, none⟩), .int .i64 (f 9), .slice (some ⟨g, off, none⟩) 14 c, .pointer (some ⟨g, off + 10, none⟩), .int .i64 (f 10), .slice (some ⟨g, off, none⟩) 14 c, .pointer (some ⟨g, off + 11, none⟩), .int .i64 (f 11), .slice (some ⟨g, off, none⟩) 14 c, .pointer (some ⟨g, off + 12, none⟩), .int .i64 (f 12), .slice (some ⟨g, off, none⟩) 14 c, .pointer (some ⟨g, off + 13, none⟩), .int .i64 (f 13), .agg (tlC f)] (fun W => Below w.heap.size w W ∧ Blk W w.heap.size 23 #[.int .i64 0, .int .i64 0, .int .i64 0, .int .i64 0, .int .i64 0, .int .i64 0, .int .i64 0, .int .i64 0, .int .i64 0, .int .i64 0, .int .i64 0, .int .i64 0, .int .i64 0, .int .i64 0]) (by kernel_rfl) rfl (by kernel_rfl) (by kernel_rfl) (by kernel_rfl) (by kernel_rfl) (by kernel_rfl) (by kernel_rfl) ⟨.inr rfl, .inr rfl, .inr rfl, .inl rfl, .inl rfl, .inl rfl, .inl rfl, .inl rfl, .inl rfl, .inl rfl, .inl rfl, .inl rfl, .inl rfl, .inl rfl, .inl rfl, .inl rfl, .inl rfl, .inl rfl, .inl rfl, .inl rfl, .inl rfl, .inl rfl, .inl rfl, .inl rfl, .inl rfl, .inl rfl, .inl rfl, .inl rfl, .inl rfl, .inl rfl, .inl rfl, .inl rfl, .inl rfl, .inl rfl, .inl rfl, .inl rfl, .inl rfl, .inl rfl, .inl rfl, .inl rfl, .inl rfl, .inl rfl, .inl rfl, .inl rfl, .inl rfl, .inl rfl, trivial⟩ ⟨BW.out.drew, KW.out.drew⟩ ⟨?_, ?_, ?_, ?_, ?_, ?_, ?_, ?_, ?_, ?_, ?_, ?_, ?_, ?_, ?_, ?_, ?_, ?_, ?_, ?_, ?_, ?_, ?_, ?_, ?_, ?_, ?_, ?_, ?_, ?_, ?_, ?_, ?_, ?_, ?_, ?_, ?_, ?_, ?_, ?_, ?_, ?_, ?_, trivial⟩ ?_
  · exact det_ok (v := .slice (some ⟨g, off, none⟩) 14 c) rfl (fun W hW => by first | rfl | (simp [execOp, evS, seen, go_sem])) (fun t h => by cases h; rfl)
  · exact det_ok (v := .pointer (some ⟨g, off + 0, none⟩)) rfl (fun W hW => (idx_cell (size := 1) (off := off) (k := 0) (n := 14) (c := c) rfl rfl rfl (by kernel_rfl) (by kernel_rfl) (by decide)).trans (by rw [Nat.mul_one])) (fun t h => by cases h; rfl)
  · exact det_ok rfl (fun W hW => load_cell (g := g) (off := off + 0) rfl rfl (by kernel_rfl) (bget hW.1 (h 0 (by decide)))) (fun t h => by cases h; rfl)
  · exact det_ok (v := .slice (some ⟨g, off, none⟩) 14 c) rfl (fun W hW => by first | rfl | (simp [execOp, evS, seen, go_sem])) (fun t h => by cases h; rfl)
  · exact det_ok (v := .pointer (some ⟨g, off + 1, none⟩)) rfl (fun W hW => (idx_cell (size := 1) (off := off) (k := 1) (n := 14) (c := c) rfl rfl rfl (by kernel_rfl) (by kernel_rfl) (by decide)).trans (by rw [Nat.mul_one])) (fun t h => by cases h; rfl)
  · exact det_ok rfl (fun W hW => load_cell (g := g) (off := off + 1) rfl rfl (by kernel_rfl) (bget hW.1 (h 1 (by decide)))) (fun t h => by cases h; rfl)
  · exact det_ok (v := .slice (some ⟨g, off, none⟩) 14 c) rfl (fun W hW => by first | rfl | (simp [execOp, evS, seen, go_sem])) (fun t h => by cases h; rfl)
  · exact det_ok (v := .pointer (some ⟨g, off + 2, none⟩)) rfl (fun W hW => (idx_cell (size := 1) (off := off) (k := 2) (n := 14) (c := c) rfl rfl rfl (by kernel_rfl) (by kernel_rfl) (by decide)).trans (by rw [Nat.mul_one])) (fun t h => by cases h; rfl)
  · exact det_ok rfl (fun W hW => load_cell (g := g) (off := off + 2) rfl rfl (by kernel_rfl) (bget hW.1 (h 2 (by decide)))) (fun t h => by cases h; rfl)
  · exact det_ok (v := .slice (some ⟨g, off, none⟩) 14 c) rfl (fun W hW => by first | rfl | (simp [execOp, evS, seen, go_sem])) (fun t h => by cases h; rfl)
  · exact det_ok (v := .pointer (some ⟨g, off + 3, none⟩)) rfl (fun W hW => (idx_cell (size := 1) (off := off) (k := 3) (n := 14) (c := c) rfl rfl rfl (by kernel_rfl) (by kernel_rfl) (by decide)).trans (by rw [Nat.mul_one])) (fun t h => by cases h; rfl)
  · exact det_ok rfl (fun W hW => load_cell (g := g) (off := off + 3) rfl rfl (by kernel_rfl) (bget hW.1 (h 3 (by decide)))) (fun t h => by cases h; rfl)
  · exact det_ok (v := .slice (some ⟨g, off, none⟩) 14 c) rfl (fun W hW => by first | rfl | (simp [execOp, evS, seen, go_sem])) (fun t h => by cases h; rfl)
  · exact det_ok (v := .pointer (some ⟨g, off + 4, none⟩)) rfl (fun W hW => (idx_cell (size := 1) (off := off) (k := 4) (n := 14) (c := c) rfl rfl rfl (by kernel_rfl) (by kernel_rfl) (by decide)).trans (by rw [Nat.mul_one])) (fun t h => by cases h; rfl)
  · exact det_ok rfl (fun W hW => load_cell (g := g) (off := off + 4) rfl rfl (by kernel_rfl) (bget hW.1 (h 4 (by decide)))) (fun t h => by cases h; rfl)
  · exact det_ok (v := .slice (some ⟨g, off, none⟩) 14 c) rfl (fun W hW => by first | rfl | (simp [execOp, evS, seen, go_sem])) (fun t h => by cases h; rfl)
  · exact det_ok (v := .pointer (some ⟨g, off + 5, none⟩)) rfl (fun W hW => (idx_cell (size := 1) (off := off) (k := 5) (n := 14) (c := c) rfl rfl rfl (by kernel_rfl) (by kernel_rfl) (by decide)).trans (by rw [Nat.mul_one])) (fun t h => by cases h; rfl)
  · exact det_ok rfl (fun W hW => load_cell (g := g) (off := off + 5) rfl rfl (by kernel_rfl) (bget hW.1 (h 5 (by decide)))) (fun t h => by cases h; rfl)
  · exact det_ok (v := .slice (some ⟨g, off, none⟩) 14 c) rfl (fun W hW => by first | rfl | (simp [execOp, evS, seen, go_sem])) (fun t h => by cases h; rfl)
  · exact det_ok (v := .pointer (some ⟨g, off + 6, none⟩)) rfl (fun W hW => (idx_cell (size := 1) (off := off) (k := 6) (n := 14) (c := c) rfl rfl rfl (by kernel_rfl) (by kernel_rfl) (by decide)).trans (by rw [Nat.mul_one])) (fun t h => by cases h; rfl)
  · exact det_ok rfl (fun W hW => load_cell (g := g) (off := off + 6) rfl rfl (by kernel_rfl) (bget hW.1 (h 6 (by decide)))) (fun t h => by cases h; rfl)
  · exact det_ok (v := .slice (some ⟨g, off, none⟩) 14 c) rfl (fun W hW => by first | rfl | (simp [execOp, evS, seen, go_sem])) (fun t h => by cases h; rfl)
  · exact det_ok (v := .pointer (some ⟨g, off + 7, none⟩)) rfl (fun W hW => (idx_cell (size := 1) (off := off) (k := 7) (n := 14) (c := c) rfl rfl rfl (by kernel_rfl) (by kernel_rfl) (by decide)).trans (by rw [Nat.mul_one])) (fun t h => by cases h; rfl)
  · exact det_ok rfl (fun W hW => load_cell (g := g) (off := off + 7) rfl rfl (by kernel_rfl) (bget hW.1 (h 7 (by decide)))) (fun t h => by cases h; rfl)
  · exact det_ok (v := .slice (some ⟨g, off, none⟩) 14 c) rfl (fun W hW => by first | rfl | (simp [execOp, evS, seen, go_sem])) (fun t h => by cases h; rfl)
  · exact det_ok (v := .pointer (some ⟨g, off + 8, none⟩)) rfl (fun W hW => (idx_cell (size := 1) (off := off) (k := 8) (n := 14) (c := c) rfl rfl rfl (by kernel_rfl) (by kernel_rfl) (by decide)).trans (by rw [Nat.mul_one])) (fun t h => by cases h; rfl)
  · exact det_ok rfl (fun W hW => load_cell (g := g) (off := off + 8) rfl rfl (by kernel_rfl) (bget hW.1 (h 8 (by decide)))) (fun t h => by cases h; rfl)
  · exact det_ok (v := .slice (some ⟨g, off, none⟩) 14 c) rfl (fun W hW => by first | rfl | (simp [execOp, evS, seen, go_sem])) (fun t h => by cases h; rfl)
  · exact det_ok (v := .pointer (some ⟨g, off + 9, none⟩)) rfl (fun W hW => (idx_cell (size := 1) (off := off) (k := 9) (n := 14) (c := c) rfl rfl rfl (by kernel_rfl) (by kernel_rfl) (by decide)).trans (by rw [Nat.mul_one])) (fun t h => by cases h; rfl)
  · exact det_ok rfl (fun W hW => load_cell (g := g) (off := off + 9) rfl rfl (by kernel_rfl) (bget hW.1 (h 9 (by decide)))) (fun t h => by cases h; rfl)
  · exact det_ok (v := .slice (some ⟨g, off, none⟩) 14 c) rfl (fun W hW => by first | rfl | (simp [execOp, evS, seen, go_sem])) (fun t h => by cases h; rfl)
  · exact det_ok (v := .pointer (some ⟨g, off + 10, none⟩)) rfl (fun W hW => (idx_cell (size := 1) (off := off) (k := 10) (n := 14) (c := c) rfl rfl rfl (by kernel_rfl) (by kernel_rfl) (by decide)).trans (by rw [Nat.mul_one])) (fun t h => by cases h; rfl)
  · exact det_ok rfl (fun W hW => load_cell (g := g) (off := off + 10) rfl rfl (by kernel_rfl) (bget hW.1 (h 10 (by decide)))) (fun t h => by cases h; rfl)
  · exact det_ok (v := .slice (some ⟨g, off, none⟩) 14 c) rfl (fun W hW => by first | rfl | (simp [execOp, evS, seen, go_sem])) (fun t h => by cases h; rfl)
  · exact det_ok (v := .pointer (some ⟨g, off + 11, none⟩)) rfl (fun W hW => (idx_cell (size := 1) (off := off) (k := 11) (n := 14) (c := c) rfl rfl rfl (by kernel_rfl) (by kernel_rfl) (by decide)).trans (by rw [Nat.mul_one])) (fun t h => by cases h; rfl)
  · exact det_ok rfl (fun W hW => load_cell (g := g) (off := off + 11) rfl rfl (by kernel_rfl) (bget hW.1 (h 11 (by decide)))) (fun t h => by cases h; rfl)
  · exact det_ok (v := .slice (some ⟨g, off, none⟩) 14 c) rfl (fun W hW => by first | rfl | (simp [execOp, evS, seen, go_sem])) (fun t h => by cases h; rfl)
  · exact det_ok (v := .pointer (some ⟨g, off + 12, none⟩)) rfl (fun W hW => (idx_cell (size := 1) (off := off) (k := 12) (n := 14) (c := c) rfl rfl rfl (by kernel_rfl) (by kernel_rfl) (by decide)).trans (by rw [Nat.mul_one])) (fun t h => by cases h; rfl)
  · exact det_ok rfl (fun W hW => load_cell (g := g) (off := off + 12) rfl rfl (by kernel_rfl) (bget hW.1 (h 12 (by decide)))) (fun t h => by cases h; rfl)
  · exact det_ok (v := .slice (some ⟨g, off, none⟩) 14 c) rfl (fun W hW => by first | rfl | (simp [execOp, evS, seen, go_sem])) (fun t h => by cases h; rfl)
  · exact det_ok (v := .pointer (some ⟨g, off + 13, none⟩)) rfl (fun W hW => (idx_cell (size := 1) (off := off) (k := 13) (n := 14) (c := c) rfl rfl rfl (by kernel_rfl) (by kernel_rfl) (by decide)).trans (by rw [Nat.mul_one])) (fun t h => by cases h; rfl)
  · exact det_ok rfl (fun W hW => load_cell (g := g) (off := off + 13) rfl rfl (by kernel_rfl) (bget hW.1 (h 13 (by decide)))) (fun t h => by cases h; rfl)
  · exact det_ok (v := .agg (tlC f)) rfl (fun W hW => by (simp [execOp, evS, seen, go_sem]); rfl) (fun t h => by cases h; rfl)
  rintro W5 ⟨hb, hk⟩
  have HB := Lib.hid hb
  have HK := Lib.hid hk
  clear hb hk
  refine wpl_store (g := w.heap.size) (cs := tlC f) rfl rfl rfl rfl HK.out (by kernel_rfl) rfl (tlC_one f) ?_
  go_wp2
  refine bodyPost_ret (results_c rfl _ _ w.heap.size _ _ _ _ rfl (HK.out.row (tlC f)) Tryd.underlying23 rfl (by kernel_rfl)) rfl ?_
  exact ⟨rfl, below_setRow HB.out (Nat.le_refl _) _⟩
set_option maxRecDepth 10000 in
set_option maxHeartbeats 8000000 in
theorem adds28_walk (a : Nat → Int) (b : Nat → Int) (w : World) (ha : ∀ i < 14, I64 (a i)) (hb : ∀ i < 14, I64 (b i)) :
    Calls Tryd.prog 5 #[.agg (tlC a), .agg (tlC b)] w fun e w' => e = .returned (.bool true) ∧ Below w.heap.size w w' := by
  have K0 := Lib.hid ((Blk.new w 23 (tlC a)).alloc (.cells (tlC b) 23))
  have K1 := Lib.hid (blk_at (w := w.alloc (.cells (tlC a) 23)) (t := 23) (cs := tlC b) (show w.heap.size + 1 = (w.alloc (.cells (tlC a) 23)).heap.size by simp))
  have B0 := Lib.hid (below_alloc (below_alloc (Below.refl w.heap.size w) (.cells (tlC a) 23)) (.cells (tlC b) 23))
  have CA := Lib.hid (fun W (h : Blk W w.heap.size 23 (tlC a)) => show W.cell? ⟨w.heap.size, 0, none⟩ = some (.int .i64 (a 0)) ∧ W.cell? ⟨w.heap.size, 1, none⟩ = some (.int .i64 (a 1)) ∧ W.cell? ⟨w.heap.size, 2, none⟩ = some (.int .i64 (a 2)) ∧ W.cell? ⟨w.heap.size, 3, none⟩ = some (.int .i64 (a 3)) ∧ W.cell? ⟨w.heap.size, 4, none⟩ = some (.int .i64 (a 4)) ∧ W.cell? ⟨w.heap.size, 5, none⟩ = some (.int .i64 (a 5)) ∧ W.cell? ⟨w.heap.size, 6, none⟩ = some (.int .i64 (a 6)) ∧ W.cell? ⟨w.heap.size, 7, none⟩ = some (.int .i64 (a 7)) ∧ W.cell? ⟨w.heap.size, 8, none⟩ = some (.int .i64 (a 8)) ∧ W.cell? ⟨w.heap.size, 9, none⟩ = some (.int .i64 (a 9)) ∧ W.cell? ⟨w.heap.size, 10, none⟩ = some (.int .i64 (a 10)) ∧ W.cell? ⟨w.heap.size, 11, none⟩ = some (.int .i64 (a 11)) ∧ W.cell? ⟨w.heap.size, 12, none⟩ = some (.int .i64 (a 12)) ∧ W.cell? ⟨w.heap.size, 13, none⟩ = some (.int .i64 (a 13)) from c14_of h)
  have CB := Lib.hid (fun W (h : Blk W (w.heap.size + 1) 23 (tlC b)) => show W.cell? ⟨w.heap.size + 1, 0, none⟩ = some (.int .i64 (b 0)) ∧ W.cell? ⟨w.heap.size + 1, 1, none⟩ = some (.int .i64 (b 1)) ∧ W.cell? ⟨w.heap.size + 1, 2, none⟩ = some (.int .i64 (b 2)) ∧ W.cell? ⟨w.heap.size + 1, 3, none⟩ = some (.int .i64 (b 3)) ∧ W.cell? ⟨w.heap.size + 1, 4, none⟩ = some (.int .i64 (b 4)) ∧ W.cell? ⟨w.heap.size + 1, 5, none⟩ = some (.int .i64 (b 5)) ∧ W.cell? ⟨w.heap.size + 1, 6, none⟩ = some (.int .i64 (b 6)) ∧ W.cell? ⟨w.heap.size + 1, 7, none⟩ = some (.int .i64 (b 7)) ∧ W.cell? ⟨w.heap.size + 1, 8, none⟩ = some (.int .i64 (b 8)) ∧ W.cell? ⟨w.heap.size + 1, 9, none⟩ = some (.int .i64 (b 9)) ∧ W.cell? ⟨w.heap.size + 1, 10, none⟩ = some (.int .i64 (b 10)) ∧ W.cell? ⟨w.heap.size + 1, 11, none⟩ = some (.int .i64 (b 11)) ∧ W.cell? ⟨w.heap.size + 1, 12, none⟩ = some (.int .i64 (b 12)) ∧ W.cell? ⟨w.heap.size + 1, 13, none⟩ = some (.int .i64 (b 13)) from c14_of h)
  have RA := Lib.hid (fun W => show Calls Tryd.prog 16 #[.agg #[.int .i64 (a 0), .int .i64 (a 1), .int .i64 (a 2), .int .i64 (a 3), .int .i64 (a 4), .int .i64 (a 5), .int .i64 (a 6), .int .i64 (a 7), .int .i64 (a 8), .int .i64 (a 9), .int .i64 (a 10), .int .i64 (a 11), .int .i64 (a 12), .int .i64 (a 13)]] W _ from rrow_calls a W)
  have RB := Lib.hid (fun W => show Calls Tryd.prog 16 #[.agg #[.int .i64 (b 0), .int .i64 (b 1), .int .i64 (b 2), .int .i64 (b 3), .int .i64 (b 4), .int .i64 (b 5), .int .i64 (b 6), .int .i64 (b 7), .int .i64 (b 8), .int .i64 (b 9), .int .i64 (b 10), .int .i64 (b 11), .int .i64 (b 12), .int .i64 (b 13)]] W _ from rrow_calls b W)
  go_enter Tryd.func5, Tryd.ntmps5
  go_upto_region 1 with (fail)
  generalize (w.alloc (.cells (tlC a) 23)).alloc (.cells (tlC b) 23) = w1 at *
  go_region_held (fun w' => (w'.cell? ⟨w.heap.size, 0, none⟩ = some (.int .i64 (a 0)) ∧ w'.cell? ⟨w.heap.size, 1, none⟩ = some (.int .i64 (a 1)) ∧ w'.cell? ⟨w.heap.size, 2, none⟩ = some (.int .i64 (a 2)) ∧ w'.cell? ⟨w.heap.size, 3, none⟩ = some (.int .i64 (a 3)) ∧ w'.cell? ⟨w.heap.size, 4, none⟩ = some (.int .i64 (a 4)) ∧ w'.cell? ⟨w.heap.size, 5, none⟩ = some (.int .i64 (a 5)) ∧ w'.cell? ⟨w.heap.size, 6, none⟩ = some (.int .i64 (a 6)) ∧ w'.cell? ⟨w.heap.size, 7, none⟩ = some (.int .i64 (a 7)) ∧ w'.cell? ⟨w.heap.size, 8, none⟩ = some (.int .i64 (a 8)) ∧ w'.cell? ⟨w.heap.size, 9, none⟩ = some (.int .i64 (a 9)) ∧ w'.cell? ⟨w.heap.size, 10, none⟩ = some (.int .i64 (a 10)) ∧ w'.cell? ⟨w.heap.size, 11, none⟩ = some (.int .i64 (a 11)) ∧ w'.cell? ⟨w.heap.size, 12, none⟩ = some (.int .i64 (a 12)) ∧ w'.cell? ⟨w.heap.size, 13, none⟩ = some (.int .i64 (a 13))) ∧ w'.cell? ⟨w.heap.size + 1, 0, none⟩ = some (.int .i64 (b 0)) ∧ w'.cell? ⟨w.heap.size + 1, 1, none⟩ = some (.int .i64 (b 1)) ∧ w'.cell? ⟨w.heap.size + 1, 2, none⟩ = some (.int .i64 (b 2)) ∧ w'.cell? ⟨w.heap.size + 1, 3, none⟩ = some (.int .i64 (b 3)) ∧ w'.cell? ⟨w.heap.size + 1, 4, none⟩ = some (.int .i64 (b 4)) ∧ w'.cell? ⟨w.heap.size + 1, 5, none⟩ = some (.int .i64 (b 5)) ∧ w'.cell? ⟨w.heap.size + 1, 6, none⟩ = some (.int .i64 (b 6)) ∧ w'.cell? ⟨w.heap.size + 1, 7, none⟩ = some (.int .i64 (b 7)) ∧ w'.cell? ⟨w.heap.size + 1, 8, none⟩ = some (.int .i64 (b 8)) ∧ w'.cell? ⟨w.heap.size + 1, 9, none⟩ = some (.int .i64 (b 9)) ∧ w'.cell? ⟨w.heap.size + 1, 10, none⟩ = some (.int .i64 (b 10)) ∧ w'.cell? ⟨w.heap.size + 1, 11, none⟩ = some (.int .i64 (b 11)) ∧ w'.cell? ⟨w.heap.size + 1, 12, none⟩ = some (.int .i64 (b 12)) ∧ w'.cell? ⟨w.heap.size + 1, 13, none⟩ = some (.int .i64 (b 13)))
    (exact ⟨CA.out _ ((by repeat (first | with_reducible exact K0.out | with_reducible apply Blk.alloc | with_reducible apply Blk.drewN | with_reducible apply Blk.drew | exact K0.out))), CB.out _ ((by repeat (first | with_reducible exact K1.out | with_reducible apply Blk.alloc | with_reducible apply Blk.drewN | with_reducible apply Blk.drew | exact K1.out)))⟩)
    (first
    | (go_at_call 16; (with_reducible refine (RA.out _).mono ?_); rintro e w2 ⟨p, rfl, hp, hk, hb2⟩; have KP := Lib.hid hk; have HP := Lib.hid hp; have B2 := Lib.hid (below_step B0.out.drew hb2); have K0 := Lib.hid (Blk.below ((by repeat (first | with_reducible exact K0.out | with_reducible apply Blk.alloc | with_reducible apply Blk.drewN | with_reducible apply Blk.drew | exact K0.out))) hb2); have K1 := Lib.hid (Blk.below ((by repeat (first | with_reducible exact K1.out | with_reducible apply Blk.alloc | with_reducible apply Blk.drewN | with_reducible apply Blk.drew | exact K1.out))) hb2); clear hk hb2 hp)
    | (go_at_call 16; (with_reducible refine (RB.out _).mono ?_); rintro e w3 ⟨q, rfl, hq, hk, hb3⟩; have KQ := Lib.hid hk; have HQ := Lib.hid hq; have B3 := Lib.hid (below_step B2.out hb3); have KP := Lib.hid (KP.out.below hb3); have K0 := Lib.hid (Blk.below ((by repeat (first | with_reducible exact K0.out | with_reducible apply Blk.alloc | with_reducible apply Blk.drewN | with_reducible apply Blk.drew | exact K0.out))) hb3); have K1 := Lib.hid (Blk.below ((by repeat (first | with_reducible exact K1.out | with_reducible apply Blk.alloc | with_reducible apply Blk.drewN | with_reducible apply Blk.drew | exact K1.out))) hb3); clear hk hb3 hq))
  have AC := Lib.hid (fun (k : Nat) (hk : k < 14) W => radd_calls (a k) (b k) W (ha k hk) (hb k hk))
  have KP3 := KP
  have KQ3 := KQ
  go_wp2
  go_loopw [7, 8, 9, 10] (fun l g r i wr => ∃ (k : Nat), k ≤ 14 ∧ i = .int .i64 k ∧ SL w3.heap.size wr 3 1 l k (sumsK a b k) ∧ g = .bool (grK a b k) ∧ r = .bool (riK a k) ∧ Below w3.heap.size w3 wr) (fun _ _ _ i _ => 14 - (intOf i).toNat)
  case atStart => exact ⟨0, by omega, rfl, SL.nil _ _ _ _, rfl, rfl, Below.refl _ _⟩
  case round =>
    obtain ⟨k, hk, rfl, hsl, rfl, rfl, hbl⟩ := hrel
    have HS := Lib.hid hsl
    have HB := Lib.hid hbl
    have KP := Lib.hid (KP.out.below hbl)
    have KQ := Lib.hid (KQ.out.below hbl)
    have K0 := Lib.hid (K0.out.below hbl)
    have K1 := Lib.hid (K1.out.below hbl)
    have B3 := Lib.hid (below_step B3.out hbl)
    obtain ⟨sa, sc, rfl, hsc, hscm⟩ := hsl.form
    clear hsl hbl
    by_cases hlt : k < 14
    · have hlti : (k : Int) < 14 := by omega
      have ACK := Lib.hid (AC.out k hlt)
      have cp := (KP.out.cell k).trans (tlC_get a k hlt)
      have cq := (KQ.out.cell k).trans (tlC_get b k hlt)
      have SN := Lib.hid (sumsK_next a b k)
      have GN := Lib.hid (grK_next a b k)
      have CPQ := Lib.hid (fun W (hb : Below w3.heap.size w3 W) => show W.cell? ⟨p, k, none⟩ = some (.int .i64 (a k)) ∧ W.cell? ⟨q, k, none⟩ = some (.int .i64 (b k)) from ⟨bget hb ((KP3.out.cell k).trans (tlC_get a k hlt)), bget hb ((KQ3.out.cell k).trans (tlC_get b k hlt))⟩)
      have HBZ := Lib.hid HB.out.size
      generalize hsum : satAdd (a k) (b k) = sm at *
      clear hsum
      go_upto_region 7 with (fail)
      go_region_held_law (fun w' => w'.cell? ⟨p, k, none⟩ = some (.int .i64 (a k)) ∧ w'.cell? ⟨q, k, none⟩ = some (.int .i64 (b k)))
        (first | exact CPQ.out _ HB.out.drew | exact CPQ.out _ (HB.out.alloc HBZ.out _).drew | exact CPQ.out _ HB5.out)
        (first
        | (go_at_call 17; (with_reducible refine (ACK.out _).mono ?_); rintro e w4 ⟨rfl, rfl⟩)
        | (refine step_appSL (mine := fun _ => true) (base := w3.heap.size) 36 (.int .i64 0) 8 Tryd.underlying36 infoI rfl (by decide) (fun _ => rfl) rfl (.tmp 19) (.tmp 29) (by rfl) (by rfl) ((by repeat (first | with_reducible exact HS.out | with_reducible apply SL.alloc | with_reducible apply SL.drewN | with_reducible apply SL.drew | exact HS.out))) _ 1 (by rfl) #[.int .i64 sm] rfl ⟨_, _, heap_alloc_new _ _⟩ (by simp [Value.oneCell']) (by omega) (by decide) (by have := HB.out.size; simp; omega) ?_; intro v5 w5 hs5 hf5; have HS5 := Lib.hid hs5; have HB5 := Lib.hid (Below.trans (HB.out.alloc HBZ.out _).drew (hf5.to_below (by have := HBZ.out; simp; omega))); clear hs5 hf5))
      change Exit.then _ _ Exit.normal ⟨_, []⟩ _
      have SNW := Lib.hid (show SL w3.heap.size w5.drew 3 1 v5 (k + 1) (sumsK a b (k + 1)) from by rw [SN.out]; exact HS5.out)
      go_upto_region 8 with (fail)
      cases hgk : grK a b k with
      | true =>
        have GN1 := Lib.hid (show grK a b (k + 1) = decide (b k ≥ a k) by rw [GN.out, hgk, Bool.true_and])
        refine wp_region_D [8] [_, _, _, _, _, _, _, _, .bool (decide (b k ≥ a k)), _, _, _, _, _, _, _, _, _, _, _, _, _, _, _, _, _, _, _, _, _, _, .bool true, .bool true, .slice (some ⟨q, 0, none⟩) 14 14, .int .i64 (k : Nat), .pointer (some ⟨q, k, none⟩), .int .i64 (b k), .slice (some ⟨p, 0, none⟩) 14 14, .int .i64 (k : Nat), .pointer (some ⟨p, k, none⟩), .int .i64 (a k), .bool (decide (b k ≥ a k)), .bool (decide (b k ≥ a k)), _, _, _, _, _, _, _, _, _, _, _, _, _, _, _, _, _, _, _, _, _, _, _, _, _, _, _, _, _, _, _, _, _, _, _, _, _, _, _, _, _, _, _, _, _, _, _, _, _, _, _, _, _, _, _, _, _, _, _] (fun W => W.cell? ⟨p, k, none⟩ = some (.int .i64 (a k)) ∧ W.cell? ⟨q, k, none⟩ = some (.int .i64 (b k)) ∧ Below w3.heap.size w3 W ∧ SL w3.heap.size W 3 1 v5 (k + 1) (sumsK a b (k + 1))) (by kernel_rfl) rfl (by kernel_rfl) (by kernel_rfl) (by kernel_rfl) ⟨.inr rfl, .inr rfl, .inr rfl, .inr rfl, .inr rfl, .inr rfl, .inr rfl, .inr rfl, .inl rfl, .inr rfl, .inr rfl, .inr rfl, .inr rfl, .inr rfl, .inr rfl, .inr rfl, .inr rfl, .inr rfl, .inr rfl, .inr rfl, .inr rfl, .inr rfl, .inr rfl, .inr rfl, .inr rfl, .inr rfl, .inr rfl, .inr rfl, .inr rfl, .inr rfl, .inr rfl, .inl rfl, .inl rfl, .inl rfl, .inl rfl, .inl rfl, .inl rfl, .inl rfl, .inl rfl, .inl rfl, .inl rfl, .inl rfl, .inl rfl, .inr rfl, .inr rfl, .inr rfl, .inr rfl, .inr rfl, .inr rfl, .inr rfl, .inr rfl, .inr rfl, .inr rfl, .inr rfl, .inr rfl, .inr rfl, .inr rfl, .inr rfl, .inr rfl, .inr rfl, .inr rfl, .inr rfl, .inr rfl, .inr rfl, .inr rfl, .inr rfl, .inr rfl, .inr rfl, .inr rfl, .inr rfl, .inr rfl, .inr rfl, .inr rfl, .inr rfl, .inr rfl, .inr rfl, .inr rfl, .inr rfl, .inr rfl, .inr rfl, .inr rfl, .inr rfl, .inr rfl, .inr rfl, .inr rfl, .inr rfl, .inr rfl, .inr rfl, .inr rfl, .inr rfl, .inr rfl, .inr rfl, .inr rfl, .inr rfl, .inr rfl, .inr rfl, .inr rfl, .inr rfl, .inr rfl, .inr rfl, .inr rfl, .inr rfl, trivial⟩ ⟨(CPQ.out _ HB5.out.drew).1, (CPQ.out _ HB5.out.drew).2, HB5.out.drew, SNW.out⟩ ⟨?_, ?_, ?_, ?_, ?_, ?_, ?_, ?_, ?_, ?_, ?_, ?_, ?_, trivial⟩ ?_
        · exact det_ok (v := .bool true) rfl (fun W hW => by first | rfl | (simp [execOp, evS, seen, go_sem])) (fun t h => by cases h; rfl)
        · exact det_ok (v := .bool true) rfl (fun W hW => by first | rfl | (simp [execOp, evS, seen, go_sem])) (fun t h => by cases h; rfl)
        · exact det_ok (v := .slice (some ⟨q, 0, none⟩) 14 14) rfl (fun W hW => by first | rfl | (simp [execOp, evS, seen, go_sem])) (fun t h => by cases h; rfl)
        · exact det_ok (v := .int .i64 (k : Nat)) rfl (fun W hW => by first | rfl | (simp [execOp, evS, seen, go_sem])) (fun t h => by cases h; rfl)
        · exact det_ok (v := .pointer (some ⟨q, k, none⟩)) rfl (fun W hW => (idx_cell (size := 1) (off := 0) (k := k) (n := 14) (c := 14) rfl rfl rfl (by kernel_rfl) (by kernel_rfl) hlt).trans (by rw [Nat.mul_one, Nat.zero_add])) (fun t h => by cases h; rfl)
        · exact det_ok rfl (fun W hW => load_cell (g := q) (off := k) rfl rfl (by kernel_rfl) hW.2.1) (fun t h => by cases h; rfl)
        · exact det_ok (v := .slice (some ⟨p, 0, none⟩) 14 14) rfl (fun W hW => by first | rfl | (simp [execOp, evS, seen, go_sem])) (fun t h => by cases h; rfl)
        · exact det_ok (v := .int .i64 (k : Nat)) rfl (fun W hW => by first | rfl | (simp [execOp, evS, seen, go_sem])) (fun t h => by cases h; rfl)
        · exact det_ok (v := .pointer (some ⟨p, k, none⟩)) rfl (fun W hW => (idx_cell (size := 1) (off := 0) (k := k) (n := 14) (c := 14) rfl rfl rfl (by kernel_rfl) (by kernel_rfl) hlt).trans (by rw [Nat.mul_one, Nat.zero_add])) (fun t h => by cases h; rfl)
        · exact det_ok rfl (fun W hW => load_cell (g := p) (off := k) rfl rfl (by kernel_rfl) hW.1) (fun t h => by cases h; rfl)
        · exact det_ok (v := .bool (decide (b k ≥ a k))) rfl (fun W hW => by first | rfl | (simp [execOp, evS, seen, go_sem])) (fun t h => by cases h; rfl)
        · exact det_ok (v := .bool (decide (b k ≥ a k))) rfl (fun W hW => by first | rfl | (simp [execOp, evS, seen, go_sem])) (fun t h => by cases h; rfl)
        · exact det_ok (v := .bool (decide (b k ≥ a k))) rfl (fun W hW => by first | rfl | (simp [execOp, evS, seen, go_sem])) (fun t h => by cases h; rfl)
        intro W5 hW5
        have d1 := hW5.1
        have d2 := hW5.2.1
        have HW5 := Lib.hid hW5.2.2
        clear hW5
        obtain ⟨va, vc, rfl, -, -⟩ := HW5.out.2.form
        cases hrk : riK a k with
        | true =>
          have RN1 := Lib.hid (show riK a (k + 1) = decide (a k ≥ 0) by show (riK a k && decide (a k ≥ 0)) = _; rw [hrk, Bool.true_and])
          go_wp2
          exact ⟨⟨k + 1, by omega, by go_num, HW5.out.2, by rw [GN1.out], by rw [RN1.out], HW5.out.1⟩, by simp [intOf]; omega⟩
        | false =>
          have RN1 := Lib.hid (show riK a (k + 1) = false by show (riK a k && decide (a k ≥ 0)) = _; rw [hrk, Bool.false_and])
          go_wp2
          exact ⟨⟨k + 1, by omega, by go_num, HW5.out.2, by rw [GN1.out], by rw [RN1.out], HW5.out.1⟩, by simp [intOf]; omega⟩
      | false =>
        have GN1 := Lib.hid (show grK a b (k + 1) = false by rw [GN.out, hgk, Bool.false_and])
        refine wp_region_D [8] [_, _, _, _, _, _, _, _, .bool false, _, _, _, _, _, _, _, _, _, _, _, _, _, _, _, _, _, _, _, _, _, _, .bool false, .bool false, undef, undef, undef, undef, undef, undef, undef, undef, undef, .bool false, _, _, _, _, _, _, _, _, _, _, _, _, _, _, _, _, _, _, _, _, _, _, _, _, _, _, _, _, _, _, _, _, _, _, _, _, _, _, _, _, _, _, _, _, _, _, _, _, _, _, _, _, _, _, _, _, _, _, _] (fun W => W.cell? ⟨p, k, none⟩ = some (.int .i64 (a k)) ∧ W.cell? ⟨q, k, none⟩ = some (.int .i64 (b k)) ∧ Below w3.heap.size w3 W ∧ SL w3.heap.size W 3 1 v5 (k + 1) (sumsK a b (k + 1))) (by kernel_rfl) rfl (by kernel_rfl) (by kernel_rfl) (by kernel_rfl) ⟨.inr rfl, .inr rfl, .inr rfl, .inr rfl, .inr rfl, .inr rfl, .inr rfl, .inr rfl, .inl rfl, .inr rfl, .inr rfl, .inr rfl, .inr rfl, .inr rfl, .inr rfl, .inr rfl, .inr rfl, .inr rfl, .inr rfl, .inr rfl, .inr rfl, .inr rfl, .inr rfl, .inr rfl, .inr rfl, .inr rfl, .inr rfl, .inr rfl, .inr rfl, .inr rfl, .inr rfl, .inl rfl, .inl rfl, .inl rfl, .inl rfl, .inl rfl, .inl rfl, .inl rfl, .inl rfl, .inl rfl, .inl rfl, .inl rfl, .inl rfl, .inr rfl, .inr rfl, .inr rfl, .inr rfl, .inr rfl, .inr rfl, .inr rfl, .inr rfl, .inr rfl, .inr rfl, .inr rfl, .inr rfl, .inr rfl, .inr rfl, .inr rfl, .inr rfl, .inr rfl, .inr rfl, .inr rfl, .inr rfl, .inr rfl, .inr rfl, .inr rfl, .inr rfl, .inr rfl, .inr rfl, .inr rfl, .inr rfl, .inr rfl, .inr rfl, .inr rfl, .inr rfl, .inr rfl, .inr rfl, .inr rfl, .inr rfl, .inr rfl, .inr rfl, .inr rfl, .inr rfl, .inr rfl, .inr rfl, .inr rfl, .inr rfl, .inr rfl, .inr rfl, .inr rfl, .inr rfl, .inr rfl, .inr rfl, .inr rfl, .inr rfl, .inr rfl, .inr rfl, .inr rfl, .inr rfl, .inr rfl, .inr rfl, .inr rfl, trivial⟩ ⟨(CPQ.out _ HB5.out.drew).1, (CPQ.out _ HB5.out.drew).2, HB5.out.drew, SNW.out⟩ ⟨?_, ?_, ?_, ?_, ?_, ?_, ?_, ?_, ?_, ?_, ?_, ?_, ?_, trivial⟩ ?_
        · exact det_ok (v := .bool false) rfl (fun W hW => by first | rfl | (simp [execOp, evS, seen, go_sem])) (fun t h => by cases h; rfl)
        · exact det_ok (v := .bool false) rfl (fun W hW => by first | rfl | (simp [execOp, evS, seen, go_sem])) (fun t h => by cases h; rfl)
        · exact det_off rfl (fun t h => by cases h; rfl)
        · exact det_off rfl (fun t h => by cases h; rfl)
        · exact det_off rfl (fun t h => by cases h; rfl)
        · exact det_off rfl (fun t h => by cases h; rfl)
        · exact det_off rfl (fun t h => by cases h; rfl)
        · exact det_off rfl (fun t h => by cases h; rfl)
        · exact det_off rfl (fun t h => by cases h; rfl)
        · exact det_off rfl (fun t h => by cases h; rfl)
        · exact det_off rfl (fun t h => by cases h; rfl)
        · exact det_ok (v := .bool false) rfl (fun W hW => by first | rfl | (simp [execOp, evS, seen, go_sem])) (fun t h => by cases h; rfl)
        · exact det_ok (v := .bool false) rfl (fun W hW => by first | rfl | (simp [execOp, evS, seen, go_sem])) (fun t h => by cases h; rfl)
        intro W5 hW5
        have d1 := hW5.1
        have d2 := hW5.2.1
        have HW5 := Lib.hid hW5.2.2
        clear hW5
        obtain ⟨va, vc, rfl, -, -⟩ := HW5.out.2.form
        cases hrk : riK a k with
        | true =>
          have RN1 := Lib.hid (show riK a (k + 1) = decide (a k ≥ 0) by show (riK a k && decide (a k ≥ 0)) = _; rw [hrk, Bool.true_and])
          go_wp2
          exact ⟨⟨k + 1, by omega, by go_num, HW5.out.2, by rw [GN1.out], by rw [RN1.out], HW5.out.1⟩, by simp [intOf]; omega⟩
        | false =>
          have RN1 := Lib.hid (show riK a (k + 1) = false by show (riK a k && decide (a k ≥ 0)) = _; rw [hrk, Bool.false_and])
          go_wp2
          exact ⟨⟨k + 1, by omega, by go_num, HW5.out.2, by rw [GN1.out], by rw [RN1.out], HW5.out.1⟩, by simp [intOf]; omega⟩
    · obtain rfl : k = 14 := by omega
      obtain ⟨sg, so, sc2, hsv, -, -, hcell⟩ := c14_sl HS.out
      injection hsv with e1 e2 e3
      subst e1 e3
      clear e2
      have HCELL := Lib.hid hcell
      have SGL := Lib.hid (show sg < wr.heap.size from World.block_lt_of_cell? wr _ (hcell 0 (by omega)))
      clear hcell
      have GE := Lib.hid (show grK a b 14 = grownS a b from rfl)
      have RE := Lib.hid (show (riK a 14 && decide (a 1 ≤ a 3) && decide (a 4 ≤ a 3)) = rightS a by rw [ri_grown]; rfl)
      obtain ⟨c0, c1, c2, c3, c4, c5, c6, c7, c8, c9, c10, c11, c12, c13⟩ := CA.out _ K0.out
      obtain ⟨d0, d1, d2, d3, d4, d5, d6, d7, d8, d9, d10, d11, d12, d13⟩ := CB.out _ K1.out
      go_upto_region 10 with (fail)
      go_cut [9] (fun v wx => v = .bool (rightS a) ∧ wx = wr)
      case first =>
        cases hrk : riK a 14 with
        | false =>
          rw [hrk] at RE
          go_wp2
          go_meet
          exact ⟨by rw [← RE.out]; rfl, rfl⟩
        | true =>
          rw [hrk] at RE
          by_cases h1 : a 1 ≤ a 3
          · go_wp2
            go_meet
            exact ⟨by rw [← RE.out]; simp [h1], rfl⟩
          · go_wp2
            go_meet
            have h2 : ¬ a 1 ≤ a 3 := by omega
            exact ⟨by rw [← RE.out]; simp [h2], rfl⟩
      case rest =>
        obtain ⟨rfl, rfl⟩ := hcut
        have AD := Lib.hid (fun W => show Calls Tryd.prog 18 #[.agg #[.int .i64 (a 0), .int .i64 (a 1), .int .i64 (a 2), .int .i64 (a 3), .int .i64 (a 4), .int .i64 (a 5), .int .i64 (a 6), .int .i64 (a 7), .int .i64 (a 8), .int .i64 (a 9), .int .i64 (a 10), .int .i64 (a 11), .int .i64 (a 12), .int .i64 (a 13)], .agg #[.int .i64 (b 0), .int .i64 (b 1), .int .i64 (b 2), .int .i64 (b 3), .int .i64 (b 4), .int .i64 (b 5), .int .i64 (b 6), .int .i64 (b 7), .int .i64 (b 8), .int .i64 (b 9), .int .i64 (b 10), .int .i64 (b 11), .int .i64 (b 12), .int .i64 (b 13)]] W fun e w' => e = .returned (.agg #[.int .i64 (satAdd (a 0) (b 0)), .int .i64 (satAdd (a 1) (b 1)), .int .i64 (satAdd (a 2) (b 2)), .int .i64 (satAdd (a 3) (b 3)), .int .i64 (satAdd (a 4) (b 4)), .int .i64 (satAdd (a 5) (b 5)), .int .i64 (satAdd (a 6) (b 6)), .int .i64 (satAdd (a 7) (b 7)), .int .i64 (satAdd (a 8) (b 8)), .int .i64 (satAdd (a 9) (b 9)), .int .i64 (satAdd (a 10) (b 10)), .int .i64 (satAdd (a 11) (b 11)), .int .i64 (satAdd (a 12) (b 12)), .int .i64 (satAdd (a 13) (b 13))]) ∧ Below W.heap.size W w' from tadd_calls a b ha hb W)
        have OF := Lib.hid (fun W (hc : ∀ j, j < 14 → W.cell? ⟨sg, so + j, none⟩ = some (.int .i64 (satAdd (a j) (b j)))) => show Calls Tryd.prog 19 #[.slice (some ⟨sg, so, none⟩) 14 sc] W fun e w' => e = .returned (.agg #[.int .i64 (satAdd (a 0) (b 0)), .int .i64 (satAdd (a 1) (b 1)), .int .i64 (satAdd (a 2) (b 2)), .int .i64 (satAdd (a 3) (b 3)), .int .i64 (satAdd (a 4) (b 4)), .int .i64 (satAdd (a 5) (b 5)), .int .i64 (satAdd (a 6) (b 6)), .int .i64 (satAdd (a 7) (b 7)), .int .i64 (satAdd (a 8) (b 8)), .int .i64 (satAdd (a 9) (b 9)), .int .i64 (satAdd (a 10) (b 10)), .int .i64 (satAdd (a 11) (b 11)), .int .i64 (satAdd (a 12) (b 12)), .int .i64 (satAdd (a 13) (b 13))]) ∧ Below W.heap.size W w' from rof_off sg so sc (fun j => satAdd (a j) (b j)) W hc)
        have GC := Lib.hid (fun W => show Calls Tryd.prog 20 #[.agg #[.int .i64 (a 0), .int .i64 (a 1), .int .i64 (a 2), .int .i64 (a 3), .int .i64 (a 4), .int .i64 (a 5), .int .i64 (a 6), .int .i64 (a 7), .int .i64 (a 8), .int .i64 (a 9), .int .i64 (a 10), .int .i64 (a 11), .int .i64 (a 12), .int .i64 (a 13)], .agg #[.int .i64 (b 0), .int .i64 (b 1), .int .i64 (b 2), .int .i64 (b 3), .int .i64 (b 4), .int .i64 (b 5), .int .i64 (b 6), .int .i64 (b 7), .int .i64 (b 8), .int .i64 (b 9), .int .i64 (b 10), .int .i64 (b 11), .int .i64 (b 12), .int .i64 (b 13)]] W fun e w' => e = .returned (.bool (grownS a b)) ∧ Below W.heap.size W w' from tgrown_calls a b ha hb W)
        have RC := Lib.hid (fun W => show Calls Tryd.prog 21 #[.agg #[.int .i64 (a 0), .int .i64 (a 1), .int .i64 (a 2), .int .i64 (a 3), .int .i64 (a 4), .int .i64 (a 5), .int .i64 (a 6), .int .i64 (a 7), .int .i64 (a 8), .int .i64 (a 9), .int .i64 (a 10), .int .i64 (a 11), .int .i64 (a 12), .int .i64 (a 13)]] W fun e w' => e = .returned (.bool (rightS a)) ∧ Below W.heap.size W w' from tright_calls a ha W)
        have AW := Lib.hid (fun W => awake_calls W)
        rw [GE.out]
        have hd : ∀ b : Bool, (b != b) = false := fun b => bne_self_eq_false b
        go_upto_region 13 with (first
          | (go_at_call 18; (with_reducible refine (AD.out _).mono ?_); rintro e w6 ⟨rfl, hb6⟩; have K0 := Lib.hid (K0.out.below hb6); have K1 := Lib.hid (K1.out.below hb6); clear c0 c1 c2 c3 c4 c5 c6 c7 c8 c9 c10 c11 c12 c13 d0 d1 d2 d3 d4 d5 d6 d7 d8 d9 d10 d11 d12 d13; obtain ⟨c0, c1, c2, c3, c4, c5, c6, c7, c8, c9, c10, c11, c12, c13⟩ := CA.out _ K0.out; obtain ⟨d0, d1, d2, d3, d4, d5, d6, d7, d8, d9, d10, d11, d12, d13⟩ := CB.out _ K1.out; have B6 := Lib.hid (below_step B3.out hb6); have HC6 := Lib.hid (fun j (hj : j < 14) => (hb6.cell (p := ⟨sg, so + j, none⟩) SGL.out).trans (HCELL.out j hj)))
          | (go_at_call 19; (with_reducible refine (OF.out _ HC6.out).mono ?_); rintro e w7 ⟨rfl, hb7⟩; have K0 := Lib.hid (K0.out.below hb7); have K1 := Lib.hid (K1.out.below hb7); clear c0 c1 c2 c3 c4 c5 c6 c7 c8 c9 c10 c11 c12 c13 d0 d1 d2 d3 d4 d5 d6 d7 d8 d9 d10 d11 d12 d13; obtain ⟨c0, c1, c2, c3, c4, c5, c6, c7, c8, c9, c10, c11, c12, c13⟩ := CA.out _ K0.out; obtain ⟨d0, d1, d2, d3, d4, d5, d6, d7, d8, d9, d10, d11, d12, d13⟩ := CB.out _ K1.out; have B7 := Lib.hid (below_step B6.out hb7))
          | (go_at_call 20; (with_reducible refine (GC.out _).mono ?_); rintro e w8 ⟨rfl, hb8⟩; have K0 := Lib.hid (K0.out.below hb8); have K1 := Lib.hid (K1.out.below hb8); clear c0 c1 c2 c3 c4 c5 c6 c7 c8 c9 c10 c11 c12 c13 d0 d1 d2 d3 d4 d5 d6 d7 d8 d9 d10 d11 d12 d13; obtain ⟨c0, c1, c2, c3, c4, c5, c6, c7, c8, c9, c10, c11, c12, c13⟩ := CA.out _ K0.out; obtain ⟨d0, d1, d2, d3, d4, d5, d6, d7, d8, d9, d10, d11, d12, d13⟩ := CB.out _ K1.out; have B8 := Lib.hid (below_step B7.out hb8))
          | (go_at_call 21; (with_reducible refine (RC.out _).mono ?_); rintro e w9 ⟨rfl, hb9⟩; have K0 := Lib.hid (K0.out.below hb9); have K1 := Lib.hid (K1.out.below hb9); clear c0 c1 c2 c3 c4 c5 c6 c7 c8 c9 c10 c11 c12 c13 d0 d1 d2 d3 d4 d5 d6 d7 d8 d9 d10 d11 d12 d13; obtain ⟨c0, c1, c2, c3, c4, c5, c6, c7, c8, c9, c10, c11, c12, c13⟩ := CA.out _ K0.out; obtain ⟨d0, d1, d2, d3, d4, d5, d6, d7, d8, d9, d10, d11, d12, d13⟩ := CB.out _ K1.out; have B9 := Lib.hid (below_step B8.out hb9))
          | (go_at_call 10; (with_reducible refine (AW.out _).mono ?_); rintro e w10 ⟨rfl, hb10⟩; have K0 := Lib.hid (K0.out.below hb10); have K1 := Lib.hid (K1.out.below hb10); clear c0 c1 c2 c3 c4 c5 c6 c7 c8 c9 c10 c11 c12 c13 d0 d1 d2 d3 d4 d5 d6 d7 d8 d9 d10 d11 d12 d13; obtain ⟨c0, c1, c2, c3, c4, c5, c6, c7, c8, c9, c10, c11, c12, c13⟩ := CA.out _ K0.out; obtain ⟨d0, d1, d2, d3, d4, d5, d6, d7, d8, d9, d10, d11, d12, d13⟩ := CB.out _ K1.out; have B10 := Lib.hid (below_step B9.out hb10)))
        clear AD OF GC RC AW CA CB c0 c1 c2 c3 c4 c5 c6 c7 c8 c9 c10 c11 c12 c13 d0 d1 d2 d3 d4 d5 d6 d7 d8 d9 d10 d11 d12 d13
        have RA2 := Lib.hid (fun W => treads_calls a ha W)
        have RB2 := Lib.hid (fun W => treads_calls b hb W)
        cases hr : rightS a with
        | false =>
          refine wp_region_D [] [_, _, _, _, .bool true, _, _, _, _, _, _, _, _, _, _, _, _, _, _, _, _, _, _, _, _, _, _, _, _, _, _, _, _, _, _, _, _, _, _, _, _, _, _, _, _, _, _, _, _, _, _, _, _, _, _, _, _, _, _, _, _, _, _, _, _, _, _, _, _, _, _, _, _, _, _, _, _, _, _, _, _, _, _, _, _, _, _, _, _, .bool false, .bool true, .bool true, undef, undef, .bool true, .bool true, undef, undef, undef, undef, undef, .bool true] (fun W => Blk W w.heap.size 23 (tlC a) ∧ Blk W (w.heap.size + 1) 23 (tlC b) ∧ Below w.heap.size w W) (by kernel_rfl) rfl (by kernel_rfl) (by kernel_rfl) (by kernel_rfl) ⟨.inr rfl, .inr rfl, .inr rfl, .inr rfl, .inl rfl, .inr rfl, .inr rfl, .inr rfl, .inr rfl, .inr rfl, .inr rfl, .inr rfl, .inr rfl, .inr rfl, .inr rfl, .inr rfl, .inr rfl, .inr rfl, .inr rfl, .inr rfl, .inr rfl, .inr rfl, .inr rfl, .inr rfl, .inr rfl, .inr rfl, .inr rfl, .inr rfl, .inr rfl, .inr rfl, .inr rfl, .inr rfl, .inr rfl, .inr rfl, .inr rfl, .inr rfl, .inr rfl, .inr rfl, .inr rfl, .inr rfl, .inr rfl, .inr rfl, .inr rfl, .inr rfl, .inr rfl, .inr rfl, .inr rfl, .inr rfl, .inr rfl, .inr rfl, .inr rfl, .inr rfl, .inr rfl, .inr rfl, .inr rfl, .inr rfl, .inr rfl, .inr rfl, .inr rfl, .inr rfl, .inr rfl, .inr rfl, .inr rfl, .inr rfl, .inr rfl, .inr rfl, .inr rfl, .inr rfl, .inr rfl, .inr rfl, .inr rfl, .inr rfl, .inr rfl, .inr rfl, .inr rfl, .inr rfl, .inr rfl, .inr rfl, .inr rfl, .inr rfl, .inr rfl, .inr rfl, .inr rfl, .inr rfl, .inr rfl, .inr rfl, .inr rfl, .inr rfl, .inr rfl, .inl rfl, .inl rfl, .inl rfl, .inl rfl, .inl rfl, .inl rfl, .inl rfl, .inl rfl, .inl rfl, .inl rfl, .inl rfl, .inl rfl, .inl rfl, trivial⟩ ⟨K0.out.drew, K1.out.drew, B10.out.drew⟩ ⟨?_, ?_, ?_, ?_, ?_, ?_, ?_, ?_, ?_, ?_, ?_, ?_, ?_, ?_, trivial⟩ ?_
          · exact det_ok (v := .bool false) rfl (fun W hW => by first | rfl | (simp [execOp, evS, seen, go_sem])) (fun t h => by cases h; rfl)
          · exact det_ok (v := .bool true) rfl (fun W hW => by first | rfl | (simp [execOp, evS, seen, go_sem])) (fun t h => by cases h; rfl)
          · exact det_ok (v := .bool true) rfl (fun W hW => by first | rfl | (simp [execOp, evS, seen, go_sem])) (fun t h => by cases h; rfl)
          · exact det_off rfl (fun t h => by cases h; rfl)
          · exact det_off rfl (fun t h => by cases h; rfl)
          · exact det_ok (v := .bool true) rfl (fun W hW => by first | rfl | (simp [execOp, evS, seen, go_sem])) (fun t h => by cases h; rfl)
          · exact det_ok (v := .bool true) rfl (fun W hW => by first | rfl | (simp [execOp, evS, seen, go_sem])) (fun t h => by cases h; rfl)
          · exact det_off rfl (fun t h => by cases h; rfl)
          · exact det_off rfl (fun t h => by cases h; rfl)
          · exact det_off rfl (fun t h => by cases h; rfl)
          · exact det_off rfl (fun t h => by cases h; rfl)
          · exact det_off rfl (fun t h => by cases h; rfl)
          · exact det_ok (v := .bool true) rfl (fun W hW => by first | rfl | (simp [execOp, evS, seen, go_sem])) (fun t h => by cases h; rfl)
          · exact det_ok (v := .bool true) rfl (fun W hW => by first | rfl | (simp [execOp, evS, seen, go_sem])) (fun t h => by cases h; rfl)
          intro W5 hW5
          go_wp2
          go_ret
          exact ⟨rfl, hW5.2.2⟩
        | true =>
          cases hg : grownS a b with
          | false =>
            refine wp_region_D [] [_, _, _, _, .bool true, _, _, _, _, _, _, _, _, _, _, _, _, _, _, _, _, _, _, _, _, _, _, _, _, _, _, _, _, _, _, _, _, _, _, _, _, _, _, _, _, _, _, _, _, _, _, _, _, _, _, _, _, _, _, _, _, _, _, _, _, _, _, _, _, _, _, _, _, _, _, _, _, _, _, _, _, _, _, _, _, _, _, _, _, .bool true, .bool false, .bool false, .bool false, .bool true, .bool true, .bool true, undef, undef, undef, undef, undef, .bool true] (fun W => Blk W w.heap.size 23 (tlC a) ∧ Blk W (w.heap.size + 1) 23 (tlC b) ∧ Below w.heap.size w W) (by kernel_rfl) rfl (by kernel_rfl) (by kernel_rfl) (by kernel_rfl) ⟨.inr rfl, .inr rfl, .inr rfl, .inr rfl, .inl rfl, .inr rfl, .inr rfl, .inr rfl, .inr rfl, .inr rfl, .inr rfl, .inr rfl, .inr rfl, .inr rfl, .inr rfl, .inr rfl, .inr rfl, .inr rfl, .inr rfl, .inr rfl, .inr rfl, .inr rfl, .inr rfl, .inr rfl, .inr rfl, .inr rfl, .inr rfl, .inr rfl, .inr rfl, .inr rfl, .inr rfl, .inr rfl, .inr rfl, .inr rfl, .inr rfl, .inr rfl, .inr rfl, .inr rfl, .inr rfl, .inr rfl, .inr rfl, .inr rfl, .inr rfl, .inr rfl, .inr rfl, .inr rfl, .inr rfl, .inr rfl, .inr rfl, .inr rfl, .inr rfl, .inr rfl, .inr rfl, .inr rfl, .inr rfl, .inr rfl, .inr rfl, .inr rfl, .inr rfl, .inr rfl, .inr rfl, .inr rfl, .inr rfl, .inr rfl, .inr rfl, .inr rfl, .inr rfl, .inr rfl, .inr rfl, .inr rfl, .inr rfl, .inr rfl, .inr rfl, .inr rfl, .inr rfl, .inr rfl, .inr rfl, .inr rfl, .inr rfl, .inr rfl, .inr rfl, .inr rfl, .inr rfl, .inr rfl, .inr rfl, .inr rfl, .inr rfl, .inr rfl, .inr rfl, .inl rfl, .inl rfl, .inl rfl, .inl rfl, .inl rfl, .inl rfl, .inl rfl, .inl rfl, .inl rfl, .inl rfl, .inl rfl, .inl rfl, .inl rfl, trivial⟩ ⟨K0.out.drew, K1.out.drew, B10.out.drew⟩ ⟨?_, ?_, ?_, ?_, ?_, ?_, ?_, ?_, ?_, ?_, ?_, ?_, ?_, ?_, trivial⟩ ?_
            · exact det_ok (v := .bool true) rfl (fun W hW => by first | rfl | (simp [execOp, evS, seen, go_sem])) (fun t h => by cases h; rfl)
            · exact det_ok (v := .bool false) rfl (fun W hW => by first | rfl | (simp [execOp, evS, seen, go_sem])) (fun t h => by cases h; rfl)
            · exact det_ok (v := .bool false) rfl (fun W hW => by first | rfl | (simp [execOp, evS, seen, go_sem])) (fun t h => by cases h; rfl)
            · exact det_ok (v := .bool false) rfl (fun W hW => by first | rfl | (simp [execOp, evS, seen, go_sem])) (fun t h => by cases h; rfl)
            · exact det_ok (v := .bool true) rfl (fun W hW => by first | rfl | (simp [execOp, evS, seen, go_sem])) (fun t h => by cases h; rfl)
            · exact det_ok (v := .bool true) rfl (fun W hW => by first | rfl | (simp [execOp, evS, seen, go_sem])) (fun t h => by cases h; rfl)
            · exact det_ok (v := .bool true) rfl (fun W hW => by first | rfl | (simp [execOp, evS, seen, go_sem])) (fun t h => by cases h; rfl)
            · exact det_off rfl (fun t h => by cases h; rfl)
            · exact det_off rfl (fun t h => by cases h; rfl)
            · exact det_off rfl (fun t h => by cases h; rfl)
            · exact det_off rfl (fun t h => by cases h; rfl)
            · exact det_off rfl (fun t h => by cases h; rfl)
            · exact det_ok (v := .bool true) rfl (fun W hW => by first | rfl | (simp [execOp, evS, seen, go_sem])) (fun t h => by cases h; rfl)
            · exact det_ok (v := .bool true) rfl (fun W hW => by first | rfl | (simp [execOp, evS, seen, go_sem])) (fun t h => by cases h; rfl)
            intro W5 hW5
            go_wp2
            go_ret
            exact ⟨rfl, hW5.2.2⟩
          | true =>
            have hge := sum3_mono ((grownS_iff a b).1 hg)
            refine wp_region_D [] [_, _, _, _, .bool true, _, _, _, _, _, _, _, _, _, _, _, _, _, _, _, _, _, _, _, _, _, _, _, _, _, _, _, _, _, _, _, _, _, _, _, _, _, _, _, _, _, _, _, _, _, _, _, _, _, _, _, _, _, _, _, _, _, _, _, _, _, _, _, _, _, _, _, _, _, _, _, _, _, _, _, _, _, _, _, _, _, _, _, _, .bool true, .bool false, .bool false, .bool true, .bool false, .bool false, .bool false, .agg (tlC b), .int .i64 (sumS [b 0, b 1, b 2]), .agg (tlC a), .int .i64 (sumS [a 0, a 1, a 2]), .bool true, .bool true] (fun W => Blk W w.heap.size 23 (tlC a) ∧ Blk W (w.heap.size + 1) 23 (tlC b) ∧ Below w.heap.size w W) (by kernel_rfl) rfl (by kernel_rfl) (by kernel_rfl) (by kernel_rfl) ⟨.inr rfl, .inr rfl, .inr rfl, .inr rfl, .inl rfl, .inr rfl, .inr rfl, .inr rfl, .inr rfl, .inr rfl, .inr rfl, .inr rfl, .inr rfl, .inr rfl, .inr rfl, .inr rfl, .inr rfl, .inr rfl, .inr rfl, .inr rfl, .inr rfl, .inr rfl, .inr rfl, .inr rfl, .inr rfl, .inr rfl, .inr rfl, .inr rfl, .inr rfl, .inr rfl, .inr rfl, .inr rfl, .inr rfl, .inr rfl, .inr rfl, .inr rfl, .inr rfl, .inr rfl, .inr rfl, .inr rfl, .inr rfl, .inr rfl, .inr rfl, .inr rfl, .inr rfl, .inr rfl, .inr rfl, .inr rfl, .inr rfl, .inr rfl, .inr rfl, .inr rfl, .inr rfl, .inr rfl, .inr rfl, .inr rfl, .inr rfl, .inr rfl, .inr rfl, .inr rfl, .inr rfl, .inr rfl, .inr rfl, .inr rfl, .inr rfl, .inr rfl, .inr rfl, .inr rfl, .inr rfl, .inr rfl, .inr rfl, .inr rfl, .inr rfl, .inr rfl, .inr rfl, .inr rfl, .inr rfl, .inr rfl, .inr rfl, .inr rfl, .inr rfl, .inr rfl, .inr rfl, .inr rfl, .inr rfl, .inr rfl, .inr rfl, .inr rfl, .inr rfl, .inl rfl, .inl rfl, .inl rfl, .inl rfl, .inl rfl, .inl rfl, .inl rfl, .inl rfl, .inl rfl, .inl rfl, .inl rfl, .inl rfl, .inl rfl, trivial⟩ ⟨K0.out.drew, K1.out.drew, B10.out.drew⟩ ⟨?_, ?_, ?_, ?_, ?_, ?_, ?_, ?_, ?_, ?_, ?_, ?_, ?_, ?_, trivial⟩ ?_
            · exact det_ok (v := .bool true) rfl (fun W hW => by first | rfl | (simp [execOp, evS, seen, go_sem])) (fun t h => by cases h; rfl)
            · exact det_ok (v := .bool false) rfl (fun W hW => by first | rfl | (simp [execOp, evS, seen, go_sem])) (fun t h => by cases h; rfl)
            · exact det_ok (v := .bool false) rfl (fun W hW => by first | rfl | (simp [execOp, evS, seen, go_sem])) (fun t h => by cases h; rfl)
            · exact det_ok (v := .bool true) rfl (fun W hW => by first | rfl | (simp [execOp, evS, seen, go_sem])) (fun t h => by cases h; rfl)
            · exact det_ok (v := .bool false) rfl (fun W hW => by first | rfl | (simp [execOp, evS, seen, go_sem])) (fun t h => by cases h; rfl)
            · exact det_ok (v := .bool false) rfl (fun W hW => by first | rfl | (simp [execOp, evS, seen, go_sem])) (fun t h => by cases h; rfl)
            · exact det_ok (v := .bool false) rfl (fun W hW => by first | rfl | (simp [execOp, evS, seen, go_sem])) (fun t h => by cases h; rfl)
            · exact det_ok rfl (fun W hW => load_blk (g := w.heap.size + 1) _ rfl rfl hW.2.1 Tryd.underlying23 rfl (by kernel_rfl)) (fun t h => by cases h; rfl)
            · exact det_call 11 (fun _ _ => by kernel_rfl) rfl _ _ rfl #[.agg (tlC b)] (by rfl) (fun W hW => (RB2.out W).mono fun e W' ⟨he, hb⟩ => by subst he; exact ⟨rfl, hW.1.below hb, hW.2.1.below hb, below_step hW.2.2 hb⟩) (fun t h => by cases h; rfl)
            · exact det_ok rfl (fun W hW => load_blk (g := w.heap.size) _ rfl rfl hW.1 Tryd.underlying23 rfl (by kernel_rfl)) (fun t h => by cases h; rfl)
            · exact det_call 11 (fun _ _ => by kernel_rfl) rfl _ _ rfl #[.agg (tlC a)] (by rfl) (fun W hW => (RA2.out W).mono fun e W' ⟨he, hb⟩ => by subst he; exact ⟨rfl, hW.1.below hb, hW.2.1.below hb, below_step hW.2.2 hb⟩) (fun t h => by cases h; rfl)
            · exact det_ok (v := .bool true) rfl (fun W hW => by simp [execOp, evS, seen, go_sem]; exact hge) (fun t h => by cases h; rfl)
            · exact det_ok (v := .bool true) rfl (fun W hW => by first | rfl | (simp [execOp, evS, seen, go_sem])) (fun t h => by cases h; rfl)
            · exact det_ok (v := .bool true) rfl (fun W hW => by first | rfl | (simp [execOp, evS, seen, go_sem])) (fun t h => by cases h; rfl)
            intro W5 hW5
            go_wp2
            go_ret
            exact ⟨rfl, hW5.2.2⟩
end Go.Proofs.YtmopicpjhdekhaaDoor.Ct
