import Derived.Test.YtejhoobecladiaaPlaC
/-! Chapter 27: what Put's last three stores leave. -/
namespace Go.Proofs.Ytejhoobecladiaa.Ct
open Go.RowKit
set_option linter.unusedVariables false
set_option linter.unusedSimpArgs false
section
variable {base x gl gw n m : Nat} {w w1 : World} {s : Nat → One27} {wh : Nat → Nat}
/-- a free slot is given a free block: how many there are then. -/
theorem cnt27_set {s : Nat → One27} {i b m : Nat} (hi : i < m) (h0 : (s i).lba = 0) (t : Int) (u : Bool) : cnt27 (updO s i ⟨b + 1, t, u⟩) m = cnt27 s m + 1 := by
  have := cnt27_upd (s := s) (v := ⟨b + 1, t, u⟩) hi
  rw [if_pos h0, if_neg (by simp)] at this
  omega
theorem LP.cx (h : LP base w x gl gw n m s wh) : w.cell? ⟨x, 0, none⟩ = some (.slice (some ⟨gl, 0, none⟩) m m) ∧ w.cell? ⟨x, 1, none⟩ = some (.slice (some ⟨gw, 0, none⟩) n n) ∧ w.cell? ⟨x, 2, none⟩ = some (.int .i64 (cnt27 s m : Nat)) := h.ps.cx
end
end Go.Proofs.Ytejhoobecladiaa.Ct
