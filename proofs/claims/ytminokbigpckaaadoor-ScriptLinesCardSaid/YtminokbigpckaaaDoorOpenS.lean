import Derived.Test.YtminokbigpckaaaDoorStructs
import Derived.Lib.SmallJoins
/-! An argument that is a struct, by value. -/
namespace Go.Proofs.YtminokbigpckaaaDoor.Ct
open Go.RowKit
open Go.ChangeShapes Go.WideShapes Go.Deep
set_option linter.unusedVariables false
set_option linter.unusedSimpArgs false
section
variable {H : Type} {enc : TypeId × Value → H} {P : Program} {w : World} {base : Nat} {spare : Nat → Bool} {held : Bool}
/-- each field's own cells read. -/
theorem open_structT {r : Reach} {b0 : Nat} {t : TypeId} {fs : Array Field} {v : Value} {d : DataW H} {p : List MemPlace} (hs : P.underlying t = some (.struct fs)) (hv : Value.okWide P w r b0 t v) (h : DataW.Trod enc P w base spare held t v d p) :
    ∃ cs : List Value, v = .agg cs.toArray ∧ cs.length = P.cellsOf t ∧ ∃ n, ∀ (i : Nat) (f : Field), fs[i]? = some f → ∃ y, DataW.trod enc P w base spare held n f.type ((cs.drop f.offset).take (P.cellsOf f.type)) = some y := by
  obtain ⟨cs, rfl, hsz⟩ := okWide_struct hs hv
  obtain ⟨fuel, hf⟩ := h
  obtain ⟨xs, n, _, hx, hl, hlen, hg⟩ := DataW.trod_struct hs hf
  refine ⟨cs.toList, rfl, by simpa using hsz, n, fun i f hi => ?_⟩
  have hi2 : i < xs.length := by have := (Array.getElem?_eq_some_iff.1 hi).1; omega
  exact ⟨xs[i], (hg i f hi).trans (List.getElem?_eq_getElem hi2)⟩
/-- of one-cell fields. -/
theorem open_structF {r : Reach} {b0 : Nat} {t : TypeId} {fs : Array Field} {ds : List TypeDesc} {v : Value} {d : DataW H} {p : List MemPlace} (hs : P.underlying t = some (.struct fs)) (hone : oneCellFields P fs = true) (hC : P.cellsOf t = fs.size)
    (hds : fs.toList.mapM (fun f => P.underlying f.type) = some ds) (hv : Value.okWide P w r b0 t v) (h : DataW.Trod enc P w base spare held t v d p) :
    ∃ vs : List Value, v = .agg vs.toArray ∧ vs.length = ds.length ∧ ∀ j dd, ds[j]? = some dd → Fits dd (vs.getD j undef) := by
  obtain ⟨cs, rfl, hl, n, hg⟩ := open_structT hs hv h
  have hlen : ds.length = fs.size := by
    have := Lib.mapM_length hds
    simpa using this
  refine ⟨cs, rfl, by omega, fun j dd hj => ?_⟩
  have hjl : j < fs.size := by have := (List.getElem?_eq_some_iff.1 hj).1; omega
  obtain ⟨b, hb, hb2⟩ := Lib.mapM_at hds j (fs[j]) (by simp [hjl])
  rw [hj] at hb
  simp only [Option.some.injEq] at hb
  subst hb
  have hfj : fs[j]? = some fs[j] := by simp [hjl]
  obtain ⟨ho, hk⟩ := hone_of hone j fs[j] hfj
  obtain ⟨y, hy⟩ := hg j fs[j] hfj
  rw [ho, hk] at hy
  have hone' : (cs.drop j).take 1 = [cs.getD j undef] := by
    rw [List.drop_eq_getElem_cons (by omega), List.getD_eq_getElem?_getD, List.getElem?_eq_getElem (by omega)]
    rfl
  rw [hone'] at hy
  exact fits_of hb2 hy
end
theorem Fits.int {k : IntKind} {v : Value} (h : Fits (.int k) v) : ∃ n, v = .int k n ∧ (Lit.int k n).wf = true := h.1 k rfl
theorem Fits.bool {v : Value} (h : Fits .bool v) : ∃ b, v = .bool b := h.2.1 rfl
end Go.Proofs.YtminokbigpckaaaDoor.Ct
