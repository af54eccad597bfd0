import Derived.Test.YtejhoobecladiaaPlaB
/-! Chapter 27: Drop, whatever the slot; Put. -/
namespace Go.Proofs.Ytejhoobecladiaa.Ct
open Go.RowKit
set_option linter.unusedVariables false
set_option linter.unusedSimpArgs false
/-- places: in memory, and lawful. -/
structure LP (base : Nat) (w : World) (x gl gw n m : Nat) (s : Nat → One27) (wh : Nat → Nat) : Prop where
  ps : PS base w x gl gw n m s wh (cnt27 s m : Nat)
  inv : PInv n m s wh
section
variable {base x gl gw n m : Nat} {w w1 : World} {s : Nat → One27} {wh : Nat → Nat}
theorem LP.below (h : LP base w x gl gw n m s wh) (hb : Below w.heap.size w w1) : LP base w1 x gl gw n m s wh := ⟨h.ps.below hb, h.inv⟩
theorem LP.drew (h : LP base w x gl gw n m s wh) : LP base w.drew x gl gw n m s wh := ⟨h.ps.drew, h.inv⟩
theorem cnt27_pos {s : Nat → One27} {i : Nat} : ∀ {k : Nat}, i < k → (s i).lba ≠ 0 → 0 < cnt27 s k
  | 0, h, _ => absurd h (by omega)
  | k + 1, h, h0 => by
    unfold cnt27
    by_cases e : k = i
    · subst e; rw [if_neg h0]; omega
    · have := cnt27_pos (s := s) (k := k) (i := i) (by omega) h0; omega
/-- what Drop tells. -/
def dropL (s : Nat → One27) (i : Nat) : Int := ((s i).lba - 1 : Nat)
theorem drop_in (h : LP base w x gl gw n m s wh) {i : Nat} (hi : i < m) (hn : n ≤ 100000) (hm : m ≤ 100000) :
    Calls Try.prog 8 #[.pointer (some ⟨x, 0, none⟩), .int .i64 i] w fun e w' => e = .returned (.tuple #[.int .i64 (dropL s i), .bool (decide ((s i).lba ≠ 0))]) ∧ LP base w' x gl gw n m (drS s i) (drW s wh i) ∧ TchS (Mine27 x gl gw) w w' := by
  by_cases h0 : (s i).lba = 0
  · have e0 := h.inv.no i h0
    have hd : decide ((s i).lba ≠ 0) = false := by simp [h0]
    have hl : dropL s i = 0 := by unfold dropL; rw [h0]; rfl
    have hz := at_ok h.ps hi
    rw [e0] at hz
    rw [hd, hl]
    have e1 : drW s wh i = wh := if_pos h0
    rw [drS_none h.inv h0, e1]
    exact (drop_zero _ _ w hz).mono fun e w' ⟨h1, h2⟩ => ⟨h1, h.below h2, TchS.of_below h2⟩
  · have hd : decide ((s i).lba ≠ 0) = true := by simp [h0]
    have hc := cnt27_upd (s := s) (v := o27) hi
    rw [if_neg h0, if_pos (show o27.lba = 0 from rfl)] at hc
    have hp := cnt27_pos hi h0
    have hle := cnt27_le s m
    rw [hd]
    have e1 : drW s wh i = updW wh ((s i).lba - 1) 0 := if_neg h0
    rw [e1]
    refine (drop_ok h.ps h.inv hi hn h0 ⟨by omega, by omega⟩).mono ?_
    rintro e w' ⟨h1, h2, h3⟩
    refine ⟨h1, ⟨?_, h.inv.drop hi h0⟩, h3⟩
    have : ((cnt27 s m : Nat) : Int) - 1 = (cnt27 (drS s i) m : Nat) := by unfold drS; omega
    rw [← this]
    exact h2
end
end Go.Proofs.Ytejhoobecladiaa.Ct
