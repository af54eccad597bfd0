import Derived.Test.YtejhoobecladiaaPlaU
import Derived.Test.YtejhoobecladiaaStructs
import Derived.Deep.CutBlock
/-! Chapter 27: acts; how many blocks are in slots. -/
namespace Go.Proofs.Ytejhoobecladiaa.Ct
open Go.RowKit
set_option linter.unusedVariables false
set_option linter.unusedSimpArgs false
abbrev act27 : List TypeDesc := [.int .i64, .int .i64, .int .i64, .int .i64, .int .u64, .bool]
theorem add_field (ad : Addr) (n j : Nat) (hj : 0 < j) : ad.add (n + j) = ⟨(ad.add n).block, (ad.add n).off + j, none⟩ := by
  unfold Addr.add
  by_cases h : n = 0
  · subst h; simp; omega
  · simp [h, Nat.add_assoc]
theorem act27_cells {w : World} {ad : Addr} {L : List (List Value)} (h : RowF act27 w (some ad) L) {i : Nat} (hi : i < L.length) :
    (w.cell? (ad.add (i * 6)) = some (.int .i64 (fI L i 0)) ∧ w.cell? ⟨(ad.add (i * 6)).block, (ad.add (i * 6)).off + 1, none⟩ = some (.int .i64 (fI L i 1)) ∧ w.cell? ⟨(ad.add (i * 6)).block, (ad.add (i * 6)).off + 2, none⟩ = some (.int .i64 (fI L i 2)) ∧ w.cell? ⟨(ad.add (i * 6)).block, (ad.add (i * 6)).off + 3, none⟩ = some (.int .i64 (fI L i 3)) ∧ w.cell? ⟨(ad.add (i * 6)).block, (ad.add (i * 6)).off + 4, none⟩ = some (.int .u64 (fI L i 4)) ∧ w.cell? ⟨(ad.add (i * 6)).block, (ad.add (i * 6)).off + 5, none⟩ = some (.bool (fB L i 5))) ∧ I64 (fI L i 2) ∧ I64 (fI L i 3) := by
  have h0 := (h.int hi .i64 (j := 0) rfl).1
  have h1 := (h.int hi .i64 (j := 1) rfl).1
  have h2 := h.int hi .i64 (j := 2) rfl
  have h3 := h.int hi .i64 (j := 3) rfl
  have h4 := (h.int hi .u64 (j := 4) rfl).1
  have h5 := h.bool hi (j := 5) rfl
  obtain ⟨h2, w2⟩ := h2
  obtain ⟨h3, w3⟩ := h3
  rw [add_field _ _ _ (by decide)] at h1 h2 h3 h4 h5
  exact ⟨⟨h0, h1, h2, h3, h4, h5⟩, i64_of_wf w2, i64_of_wf w3⟩
def cntW (wh : Nat → Nat) : Nat → Nat
  | 0 => 0
  | k + 1 => cntW wh k + if wh k = 0 then 0 else 1
theorem cntW_far {wh : Nat → Nat} {i v : Nat} : ∀ {k : Nat}, k ≤ i → cntW (updW wh i v) k = cntW wh k
  | 0, _ => rfl
  | k + 1, h => by unfold cntW; rw [cntW_far (by omega), updW_ne (by omega)]
theorem cntW_upd {wh : Nat → Nat} {i v : Nat} : ∀ {k : Nat}, i < k → cntW (updW wh i v) k + (if wh i = 0 then 0 else 1) = cntW wh k + (if v = 0 then 0 else 1)
  | 0, h => absurd h (by omega)
  | k + 1, h => by
    unfold cntW
    by_cases e : k = i
    · subst e; rw [cntW_far (Nat.le_refl _), updW_eq]; omega
    · have := cntW_upd (wh := wh) (v := v) (k := k) (i := i) (by omega)
      rw [updW_ne e]; omega
theorem cntW_congr {f g : Nat → Nat} : ∀ {k : Nat}, (∀ b, b < k → f b = g b) → cntW f k = cntW g k
  | 0, _ => rfl
  | k + 1, h => by unfold cntW; rw [cntW_congr (fun b hb => h b (by omega)), h k (by omega)]
theorem cntW_zero {f : Nat → Nat} : ∀ {k : Nat}, (∀ b, b < k → f b = 0) → cntW f k = 0
  | 0, _ => rfl
  | k + 1, h => by unfold cntW; rw [cntW_zero (fun b hb => h b (by omega)), if_pos (h k (by omega))]
theorem cntW_le (f : Nat → Nat) : ∀ k, cntW f k ≤ k
  | 0 => Nat.le_refl _
  | k + 1 => by have := cntW_le f k; unfold cntW; split <;> omega
theorem cnt27_ex {s : Nat → One27} : ∀ {k : Nat}, 0 < cnt27 s k → ∃ i, i < k ∧ (s i).lba ≠ 0
  | 0, h => absurd h (by unfold cnt27; omega)
  | k + 1, h => by
    unfold cnt27 at h
    by_cases h0 : (s k).lba = 0
    · rw [if_pos h0] at h
      obtain ⟨i, h1, h2⟩ := cnt27_ex (s := s) (k := k) (by omega)
      exact ⟨i, by omega, h2⟩
    · exact ⟨k, by omega, h0⟩
theorem PInv.count {n m : Nat} : ∀ (c : Nat) (s : Nat → One27) (wh : Nat → Nat), PInv n m s wh → cnt27 s m = c → cntW wh n = c
  | 0, s, wh, h, hc => cntW_zero fun b hb => by
    by_cases h0 : wh b = 0
    · exact h0
    · obtain ⟨h1, h2⟩ := h.wo b hb h0
      have := cnt27_pos (s := s) (k := m) (i := wh b - 1) (by omega) (by omega)
      omega
  | c + 1, s, wh, h, hc => by
    obtain ⟨i, hi, h0⟩ := cnt27_ex (s := s) (k := m) (by omega)
    have h1 := cnt27_upd (s := s) (v := o27) hi
    rw [if_neg h0, if_pos (show o27.lba = 0 from rfl)] at h1
    obtain ⟨l1, l2⟩ := h.lo i hi h0
    have h2 := cntW_upd (wh := wh) (v := 0) (k := n) (i := (s i).lba - 1) (by omega)
    rw [if_neg (by omega), if_pos rfl] at h2
    have h3 := PInv.count c _ _ (h.drop hi h0) (by omega)
    omega
theorem LQ.count {base x gl gw n m : Nat} {w : World} {s : Nat → One27} (h : LQ base w x gl gw n m s) : cntW (fun b => seek27 s b m) n = cnt27 s m := by
  obtain ⟨wh, h⟩ := h
  rw [cntW_congr (g := wh) (fun b hb => seek27_eq h.inv hb)]
  exact PInv.count _ s wh h.inv rfl
end Go.Proofs.Ytejhoobecladiaa.Ct
