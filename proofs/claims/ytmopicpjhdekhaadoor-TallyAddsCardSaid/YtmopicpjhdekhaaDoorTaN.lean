import Derived.Test.YtmopicpjhdekhaaDoorTaM
/-! The reference's Line. -/
namespace Go.Proofs.YtmopicpjhdekhaaDoor.Ct
open Go.RowKit
set_option linter.unusedVariables false
set_option linter.unusedSimpArgs false
/-- the line of the first k numbers. -/
def lineK (f : Nat → Int) (k : Nat) : ByteArray := ⟨(Lib.join ((txs f k).map (·.data.toList)) [32]).toArray⟩
theorem join_snoc (xs : List (List UInt8)) (x : List UInt8) (h : xs ≠ []) : Lib.join (xs ++ [x]) [32] = Lib.join xs [32] ++ [32] ++ x := by
  induction xs with
  | nil => exact absurd rfl h
  | cons y r ih =>
    cases r with
    | nil => simp [Lib.join, List.intercalate]
    | cons z r =>
      have := ih (by simp)
      have e1 : ∀ l : List (List UInt8), Lib.join (y :: z :: l) [32] = y ++ [32] ++ Lib.join (z :: l) [32] := fun l => by simp [Lib.join, List.intercalate]
      rw [List.cons_append, List.cons_append, e1, e1]
      rw [List.cons_append] at this
      rw [this]
      simp
theorem lineK_zero (f : Nat → Int) : lineK f 0 = ⟨#[]⟩ := rfl
theorem lineK_one (f : Nat → Int) : lineK f 1 = tx (f 0) := by
  unfold lineK txs
  simp [Lib.join, List.intercalate]
theorem lineK_next (f : Nat → Int) {k : Nat} (h : 0 < k) : lineK f (k + 1) = lineK f k ++ ⟨#[32]⟩ ++ tx (f k) := by
  unfold lineK
  rw [txs_next, List.map_append, List.map_singleton, join_snoc _ _ (by
    intro e
    have := congrArg List.length e
    simp [txs] at this
    omega)]
  apply ByteArray.ext
  simp
theorem lineK_size {f : Nat → Int} (hf : ∀ i < 14, I64 (f i)) {k : Nat} (hk : k ≤ 14) : (lineK f k).size ≤ 294 := by
  have := join_len ((txs f k).map (·.data.toList)) (by
    intro x hx
    obtain ⟨y, hy, rfl⟩ := List.mem_map.1 hx
    obtain ⟨i, hi, rfl⟩ := List.mem_map.1 hy
    exact tx_size (hf i (by have := List.mem_range.1 hi; omega)))
  rw [List.length_map, txs_len] at this
  unfold lineK
  show (Lib.join ((txs f k).map (·.data.toList)) [32]).toArray.size ≤ 294
  rw [List.size_toArray]
  omega
set_option maxRecDepth 10000 in
set_option maxHeartbeats 4000000 in
theorem rline_calls (f : Nat → Int) (hf : ∀ i < 14, I64 (f i)) (w : World) :
    Calls Tryd.prog 9 #[.agg (tlC f)] w fun e w' => e = .returned (.string (lineB f)) ∧ Below w.heap.size w w' := by
  have K := Lib.hid (Blk.new w 23 (tlC f))
  have B := Lib.hid (below_alloc (Below.refl w.heap.size w) (.cells (tlC f) 23))
  have RR := Lib.hid (fun W => rrow_calls f W)
  have NM := Lib.hid (fun (k : Nat) (hk : k < 14) W => num_calls (f k) W (hf k hk))
  have L0 := Lib.hid (lineK_zero f)
  go_enter Tryd.func9, Tryd.ntmps9
  go_wp2_with (first
    | (refine wpl_load (g := w.heap.size) _ rfl rfl rfl K.out Tryd.underlying23 rfl (by kernel_rfl) ?_)
    | (go_at_call 16; (with_reducible refine (RR.out _).mono ?_); rintro e w1 ⟨g, rfl, hg, hk, hb⟩; have KR := Lib.hid hk; have B1 := Lib.hid (below_step B.out hb); clear hk hb))
  go_loopw [4, 5] (fun s i wr => ∃ (k : Nat), k ≤ 14 ∧ i = .int .i64 k ∧ s = .string (lineK f k) ∧ Blk wr g 3 (tlC f) ∧ Below w.heap.size w wr) (fun _ i _ => 14 - (intOf i).toNat)
  case atStart => exact ⟨0, by omega, rfl, by rw [L0.out], KR.out, B1.out⟩
  case round =>
    clear KR B1 K B RR
    obtain ⟨k, hk, rfl, rfl, hkr, hb⟩ := hrel
    have KR := Lib.hid hkr
    have B1 := Lib.hid hb
    clear hb
    by_cases hlt : k < 14
    · have hlti : (k : Int) < 14 := by omega
      have cz := (hkr.cell k).trans (tlC_get f k hlt)
      have NK := Lib.hid (NM.out k hlt)
      clear hkr
      by_cases h0 : k = 0
      · subst h0
        have L1 := Lib.hid (lineK_one f)
        have E0 := Lib.hid (show ((0 : Nat) : Int) = 0 from rfl)
        rw [L0.out, E0.out]
        have hz2 : (strOfNums (textS (f 0))).size ≤ 20 := by have := tx_size (hf 0 hlt); unfold tx at this; simpa using this
        have hn2 : ¬ 9223372036854775807 < (strOfNums (textS (f 0))).size := by omega
        clear hz2
        go_wp2_with (first
          | (go_at_call 31; (with_reducible refine (NK.out _).mono ?_); rintro e w3 ⟨rfl, rfl⟩))
        exact ⟨⟨1, by omega, rfl, by rw [L1.out]; show Value.string (ByteArray.empty ++ _) = _; rw [ByteArray.empty_append]; rfl, KR.out, B1.out⟩, by simp [intOf]⟩
      · have hp : (k : Int) > 0 := by omega
        have hz1 := lineK_size hf (k := k) (by omega)
        have hz2 : (strOfNums (textS (f k))).size ≤ 20 := by have := tx_size (hf k hlt); unfold tx at this; simpa using this
        have hn1 : ¬ 9223372036854775807 < (lineK f k).size + 1 := by omega
        have hn2 : ¬ 9223372036854775807 < (lineK f k).size + 1 + (strOfNums (textS (f k))).size := by omega
        clear hz1 hz2
        have LN := Lib.hid (lineK_next f (k := k) (by omega))
        go_wp2_with (first
          | (go_at_call 31; (with_reducible refine (NK.out _).mono ?_); rintro e w3 ⟨rfl, rfl⟩))
        exact ⟨⟨k + 1, by omega, by go_num, by rw [LN.out]; rfl, KR.out, B1.out⟩, by simp [intOf]; omega⟩
    · obtain rfl : k = 14 := by omega
      go_wp2
      go_ret
      exact ⟨rfl, B1.out⟩
end Go.Proofs.YtmopicpjhdekhaaDoor.Ct
