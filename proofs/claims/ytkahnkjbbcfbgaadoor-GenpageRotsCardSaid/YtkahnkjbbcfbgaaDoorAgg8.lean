import Derived.Test.YtkahnkjbbcfbgaaDoorAgg5
import Derived.Deep.MidRow
/-! Aggregates of eight cells; reading an array that is a value. -/
namespace Go.Proofs.YtkahnkjbbcfbgaaDoor.Ct
open Go.RowKit
set_option linter.unusedVariables false
set_option linter.unusedSimpArgs false
/-- reading an array that is a value. -/
theorem run_index_agg {P : Program} {w : World} (t e : TypeId) (n B : Nat) (z : Value) (ht : P.underlying t = some (.array n e)) (he : P.plainKey e = true) (hs : (P.info? e).map (fun i => (i.zero, i.size, i.bytes)) = some (some z, 1, B)) (cs : Array Value) (v : Value) (i : Nat) (hi : i < n) (hc : cs[i]? = some v) :
    (Instr.index t (.agg cs) (.int .i64 i)).run P w = .ok v w := by
  obtain ⟨i0, hi0, _, hz1, _⟩ := info_parts hs
  have h2 : (i : Int) < n := by omega
  unfold Instr.index
  simp [asIntOf, run_underlying ht, sizeOf, typeInfo, hi0, hz1, h2, run_part_plain he (w := w) (xs := cs) (off := i) hc]
  exact fun h => absurd h (by omega)
theorem Blk.set8 {w : World} {g : Nat} {t : TypeId} {a b c d e f i j : Value} (h : Blk w g t #[a, b, c, d, e, f, i, j]) (v0 v1 v2 v3 v4 v5 v6 v7 : Value) :
    Blk ((((((((w.setCell ⟨g, 0, none⟩ v0).setCell ⟨g, 1, none⟩ v1).setCell ⟨g, 2, none⟩ v2).setCell ⟨g, 3, none⟩ v3).setCell ⟨g, 4, none⟩ v4).setCell ⟨g, 5, none⟩ v5).setCell ⟨g, 6, none⟩ v6).setCell ⟨g, 7, none⟩ v7) g t #[v0, v1, v2, v3, v4, v5, v6, v7] := by
  have h0 : Blk (World.setCell _ ⟨g, 0, none⟩ v0) g t #[v0, b, c, d, e, f, i, j] := h.set_ 0 v0
  have h1 : Blk (World.setCell _ ⟨g, 1, none⟩ v1) g t #[v0, v1, c, d, e, f, i, j] := h0.set_ 1 v1
  have h2 : Blk (World.setCell _ ⟨g, 2, none⟩ v2) g t #[v0, v1, v2, d, e, f, i, j] := h1.set_ 2 v2
  have h3 : Blk (World.setCell _ ⟨g, 3, none⟩ v3) g t #[v0, v1, v2, v3, e, f, i, j] := h2.set_ 3 v3
  have h4 : Blk (World.setCell _ ⟨g, 4, none⟩ v4) g t #[v0, v1, v2, v3, v4, f, i, j] := h3.set_ 4 v4
  have h5 : Blk (World.setCell _ ⟨g, 5, none⟩ v5) g t #[v0, v1, v2, v3, v4, v5, i, j] := h4.set_ 5 v5
  have h6 : Blk (World.setCell _ ⟨g, 6, none⟩ v6) g t #[v0, v1, v2, v3, v4, v5, v6, j] := h5.set_ 6 v6
  have h7 : Blk (World.setCell _ ⟨g, 7, none⟩ v7) g t #[v0, v1, v2, v3, v4, v5, v6, v7] := h6.set_ 7 v7
  exact h7
theorem below_set8 {B : Nat} {w0 w : World} {g : Nat} (h : Below B w0 w) (hg : B ≤ g) (v0 v1 v2 v3 v4 v5 v6 v7 : Value) :
    Below B w0 ((((((((w.setCell ⟨g, 0, none⟩ v0).setCell ⟨g, 1, none⟩ v1).setCell ⟨g, 2, none⟩ v2).setCell ⟨g, 3, none⟩ v3).setCell ⟨g, 4, none⟩ v4).setCell ⟨g, 5, none⟩ v5).setCell ⟨g, 6, none⟩ v6).setCell ⟨g, 7, none⟩ v7) :=
  (((((((h.setCell (p := ⟨g, 0, none⟩) hg v0).setCell (p := ⟨g, 1, none⟩) hg v1).setCell (p := ⟨g, 2, none⟩) hg v2).setCell (p := ⟨g, 3, none⟩) hg v3).setCell (p := ⟨g, 4, none⟩) hg v4).setCell (p := ⟨g, 5, none⟩) hg v5).setCell (p := ⟨g, 6, none⟩) hg v6).setCell (p := ⟨g, 7, none⟩) hg v7
theorem cells8 {w : World} {g : Nat} {v0 v1 v2 v3 v4 v5 v6 v7 : Value} {t : TypeId} (h : Blk w g t #[v0, v1, v2, v3, v4, v5, v6, v7]) : (w.cell? ⟨g, 0, none⟩ = some v0 ∧ w.cell? ⟨g, 1, none⟩ = some v1 ∧ w.cell? ⟨g, 2, none⟩ = some v2 ∧ w.cell? ⟨g, 3, none⟩ = some v3 ∧ w.cell? ⟨g, 4, none⟩ = some v4 ∧ w.cell? ⟨g, 5, none⟩ = some v5 ∧ w.cell? ⟨g, 6, none⟩ = some v6 ∧ w.cell? ⟨g, 7, none⟩ = some v7) ∧
    w.frozen? ⟨g, 0, none⟩ = false ∧ w.frozen? ⟨g, 1, none⟩ = false ∧ w.frozen? ⟨g, 2, none⟩ = false ∧ w.frozen? ⟨g, 3, none⟩ = false ∧ w.frozen? ⟨g, 4, none⟩ = false ∧ w.frozen? ⟨g, 5, none⟩ = false ∧ w.frozen? ⟨g, 6, none⟩ = false ∧ w.frozen? ⟨g, 7, none⟩ = false :=
  ⟨⟨h.cell 0, h.cell 1, h.cell 2, h.cell 3, h.cell 4, h.cell 5, h.cell 6, h.cell 7⟩, h.frozen 0, h.frozen 1, h.frozen 2, h.frozen 3, h.frozen 4, h.frozen 5, h.frozen 6, h.frozen 7⟩
end Go.Proofs.YtkahnkjbbcfbgaaDoor.Ct
