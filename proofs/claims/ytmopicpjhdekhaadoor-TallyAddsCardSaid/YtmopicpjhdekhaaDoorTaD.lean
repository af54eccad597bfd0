import Derived.Test.YtmopicpjhdekhaaDoorTaC
/-! tally.Line. -/
namespace Go.Proofs.YtmopicpjhdekhaaDoor.Ct
open Go.RowKit
set_option linter.unusedVariables false
set_option linter.unusedSimpArgs false
/-- a number's text. -/
def tx (n : Int) : ByteArray := strOfNums (textS n)
def txs (f : Nat → Int) (n : Nat) : List ByteArray := (List.range n).map fun i => tx (f i)
theorem txs_len (f : Nat → Int) (n : Nat) : (txs f n).length = n := by simp [txs]
theorem txs_next (f : Nat → Int) (n : Nat) : txs f (n + 1) = txs f n ++ [tx (f n)] := by simp [txs, List.range_succ]
def lineB (f : Nat → Int) : ByteArray := ⟨(Lib.join ((txs f 14).map (·.data.toList)) [32]).toArray⟩
theorem join_len : ∀ xs : List (List UInt8), (∀ x ∈ xs, x.length ≤ 20) → (Lib.join xs [32]).length ≤ 21 * xs.length
  | [], _ => by simp [Lib.join, List.intercalate]
  | [x], h => by have := h x (by simp); simp [Lib.join, List.intercalate]; omega
  | x :: y :: r, h => by
    have ih := join_len (y :: r) fun z hz => h z (List.mem_cons_of_mem _ hz)
    have hx := h x (by simp)
    have e : Lib.join (x :: y :: r) [32] = x ++ [32] ++ Lib.join (y :: r) [32] := by simp [Lib.join, List.intercalate]
    rw [e]
    simp only [List.length_append, List.length_cons, List.length_nil] at *
    omega
theorem textS_len {n : Int} (hn : I64 n) : (textS n).length ≤ 20 := by
  have h := decS_len (m := n.natAbs) (by unfold I64 at hn; omega)
  rw [textS_eq]
  split
  · simp; omega
  · omega
theorem tx_size {n : Int} (hn : I64 n) : (tx n).data.toList.length ≤ 20 := by
  have h := textS_len hn
  have e := bs_text n
  have e2 : (bs (strOfNums (textS n))).length = (textS n).length := by rw [e]
  unfold tx
  simp [bs] at e2
  simp
  omega
theorem line_len {f : Nat → Int} (hf : ∀ i < 14, I64 (f i)) : (Lib.join ((txs f 14).map (·.data.toList)) [32]).length ≤ 294 := by
  have := join_len ((txs f 14).map (·.data.toList)) (by
    intro x hx
    obtain ⟨y, hy, rfl⟩ := List.mem_map.1 hx
    obtain ⟨i, hi, rfl⟩ := List.mem_map.1 hy
    exact tx_size (hf i (List.mem_range.1 hi)))
  rw [List.length_map, txs_len] at this
  omega
theorem line_size {f : Nat → Int} (hf : ∀ i < 14, I64 (f i)) : (lineB f).size ≤ 294 := by
  have := line_len hf
  show (Lib.join ((txs f 14).map (·.data.toList)) [32]).toArray.size ≤ 294
  rw [List.size_toArray]
  exact this
theorem run_mkStr0 (w : World) : (Instr.makeSlice 45 (.int .i64 0) (.int .i64 14)).run Tryd.prog w = .ok (.slice (some ⟨w.heap.size, 0, none⟩) 0 14) (w.alloc (.cells (svV [] 14).toArray 9)) := by
  obtain ⟨i, hi, hz0, hz1, hz2⟩ := info_parts infoS
  have h := run_makeSlice (P := Tryd.prog) w 45 9 i _ Tryd.underlying45 hi hz0 .i64 .i64 0 14 (by omega) (by omega) (by rw [hz1]; simp) (by rw [hz2]; omega) (by omega)
  rw [h, hz1]
  congr 3
  rw [show Int.toNat 14 * 1 = 14 from rfl]
  unfold madeCells svV
  apply Array.ext_getElem?
  intro j
  by_cases hj : j < 14
  · simp [hj]
    show (#[Value.string ByteArray.empty])[j % 1]! = _
    rw [Nat.mod_one]; rfl
  · simp [hj]
/-- the cells with n words laid. -/
def cellB (f : Nat → Int) (n : Nat) : Array Value := (svV (txs f n) 14).toArray
theorem cellB_get (f : Nat → Int) (n : Nat) {j : Nat} (h : j < 14) : ∃ y, (cellB f n)[j]? = some y := ⟨_, svV_get _ h⟩
theorem cellB_set (f : Nat → Int) (n : Nat) : (cellB f n).setIfInBounds n (.string (strOfNums (textS (f n)))) = cellB f (n + 1) := by
  have h := svV_set (txs f n) 14 (tx (f n))
  rw [txs_len] at h
  unfold cellB
  rw [txs_next]
  exact h
theorem cellB_all (f : Nat → Int) : cellB f 14 = ((txs f 14).map Value.string).toArray := by
  have h := svV_full (txs f 14)
  rw [txs_len] at h
  unfold cellB
  rw [h]
set_option maxRecDepth 10000 in
set_option maxHeartbeats 4000000 in
theorem tline_calls (f : Nat → Int) (hf : ∀ i < 14, I64 (f i)) (w : World) :
    Calls Tryd.prog 7 #[.agg (tlC f)] w fun e w' => e = .returned (.string (lineB f)) ∧ Below w.heap.size w w' := by
  have TC := Lib.hid (fun n h W => text_calls n W h)
  have OC := Lib.hid (fun W => of_calls (f 0) (f 1) (f 2) (f 3) (f 4) (f 5) (f 6) (f 7) (f 8) (f 9) (f 10) (f 11) (f 12) (f 13) W)
  have MK := run_mkStr0
  show Calls Tryd.prog 7 #[.agg #[.int .i64 (f 0), .int .i64 (f 1), .int .i64 (f 2), .int .i64 (f 3), .int .i64 (f 4), .int .i64 (f 5), .int .i64 (f 6), .int .i64 (f 7), .int .i64 (f 8), .int .i64 (f 9), .int .i64 (f 10), .int .i64 (f 11), .int .i64 (f 12), .int .i64 (f 13)]] w _
  go_enter Tryd.func7, Tryd.ntmps7
  go_wp2_with (first
    | (go_at_call 26; (with_reducible refine (OC.out _).mono ?_); rintro e w2 ⟨rfl, hb2⟩; have HB2 := Lib.hid hb2; clear hb2))
  have KB := Lib.hid (show Blk w2 (w.heap.size + 1) 9 (cellB f 0) from (blk_at (by simp)).below HB2.out)
  have BB := Lib.hid (show Below w.heap.size w w2 from below_step (below_alloc (below_alloc (Below.refl _ _) _) _) HB2.out)
  clear HB2 OC
  have IX := Lib.hid (fun (n : Nat) (hn : n < 14) => (show ∀ W : World, (Instr.index 48 (.agg #[.int .i64 (f 0), .int .i64 (f 1), .int .i64 (f 2), .int .i64 (f 3), .int .i64 (f 4), .int .i64 (f 5), .int .i64 (f 6), .int .i64 (f 7), .int .i64 (f 8), .int .i64 (f 9), .int .i64 (f 10), .int .i64 (f 11), .int .i64 (f 12), .int .i64 (f 13)]) (.int .i64 (n : Int))).run Tryd.prog W = .ok (.int .i64 (f n)) W from by
    intro W
    obtain rfl | rfl | rfl | rfl | rfl | rfl | rfl | rfl | rfl | rfl | rfl | rfl | rfl | rfl : n = 0 ∨ n = 1 ∨ n = 2 ∨ n = 3 ∨ n = 4 ∨ n = 5 ∨ n = 6 ∨ n = 7 ∨ n = 8 ∨ n = 9 ∨ n = 10 ∨ n = 11 ∨ n = 12 ∨ n = 13 := by omega
    all_goals rfl))
  generalize hgg : w.heap.size + 1 = g at *
  go_loopw [3, 9] (fun sl i wr => ∃ n : Nat, sl = .slice (some ⟨g, 0, none⟩) n 14 ∧ i = .int .i64 (n : Int) ∧ n ≤ 14 ∧ Blk wr g 9 (cellB f n) ∧ Below w.heap.size w wr) (fun _ i _ => 14 - (intOf i).toNat)
  case atStart => exact ⟨0, rfl, rfl, by omega, KB.out, BB.out⟩
  case round =>
    clear KB BB
    obtain ⟨n, rfl, rfl, hn, kb, hb⟩ := hrel
    have KB := Lib.hid kb
    have BB := Lib.hid hb
    clear kb hb
    by_cases hlt : n < 14
    · have hlti : (n : Int) < 14 := by omega
      have hix := IX.out n hlt
      have TN := Lib.hid (TC.out (f n) (hf n hlt))
      have NX := Lib.hid (cellB_set f n)
      have CG := Lib.hid (cellB_get f n hlt)
      generalize f n = v at *
      have hcap : n + 1 ≤ 14 := by omega
      have T1 := Lib.hid (fun (W : World) (h : Blk W g 9 (cellB f n)) => h.alloc (.cells #[.string (strOfNums (textS v))] 9))
      have T2 := Lib.hid (fun (W : World) (h : Below w.heap.size w W) => below_alloc h (.cells #[.string (strOfNums (textS v))] 9))
      go_wp2_with (first
        | (go_at_call 27; (with_reducible refine (TN.out _).mono ?_); rintro e w3 ⟨rfl, hb2⟩; have HB2 := Lib.hid hb2; clear hb2; have KB := Lib.hid (KB.out.below HB2.out); have BB := Lib.hid (below_step BB.out HB2.out); have KA := Lib.hid (T1.out w3 KB.out); have BA := Lib.hid (T2.out w3 BB.out); have fz := KA.out.frozen n; obtain ⟨y, cy⟩ := CG.out; have cz := (KA.out.cell n).trans cy; clear cy))
      have KS := Lib.hid (KA.out.set_ n (.string (strOfNums (textS v))))
      rw [NX.out] at KS
      exact ⟨⟨n + 1, rfl, by go_num, by omega, KS.out, BA.out.setCell (p := ⟨g, n, none⟩) (by show w.heap.size ≤ g; omega) _⟩, by simp [intOf]; omega⟩
    · obtain rfl : n = 14 := by omega
      have hl := txs_len f 14
      have hall := cellB_all f
      rw [hall] at KB
      have JN := Lib.hid (Tryd.strings_Join g 0 14 (txs f 14) ⟨#[32]⟩ wr (fun j x hx => by rw [Nat.zero_add, KB.out.cell]; simp [hx]) KB.out.lt (by omega) (by omega) (Nat.le_trans (line_len hf) (by decide)))
      rw [hl] at JN
      go_wp2_with (first
        | (go_at_call 28; (with_reducible refine (JN.out).mono ?_); rintro e w3 ⟨rfl, hb2⟩; have HB2 := Lib.hid hb2; clear hb2))
      go_ret
      exact ⟨rfl, below_step BB.out HB2.out⟩
end Go.Proofs.YtmopicpjhdekhaaDoor.Ct
