import Derived.Test.YtminokbigpckaaaDoorLib
import Derived.Deep.Slices
import Derived.Deep.Fields
import Derived.ChangeSame
import Derived.Lib.LaidTab
/-! Slices of structs of one-cell fields that are read. (open_slice_fields: from the guide's page of plain theorems.) -/
namespace Go.Proofs.YtminokbigpckaaaDoor.Ct
open Go.RowKit
open Go.ChangeShapes Go.WideShapes Go.Deep
set_option linter.unusedVariables false
set_option linter.unusedSimpArgs false
section
variable {H : Type} {enc : TypeId × Value → H} {P : Program} {w : World} {base : Nat} {spare : Nat → Bool} {held : Bool}
theorem open_slice_fields {t e : TypeId} {fs : Array Field} {fuel : Nat} {cs : List Value} {x : DataW H × List MemPlace} (ht : P.underlying t = some (.slice e)) (he : P.underlying e = some (.struct fs))
    (hone : oneCellFields P fs = true) (hC : P.cellsOf e = fs.size) (h : DataW.trod enc P w base spare held fuel t cs = some x) :
    (cs = [.slice none 0 0] ∧ x = (.nil, [])) ∨
    ∃ (a : Addr) (len cap m : Nat) (D : Nat → DataW H) (Pl : Nat → List MemPlace), cs = [.slice (some a) len cap] ∧ base ≤ a.block ∧ len ≤ cap ∧ cap ≤ maxLen ∧ m = (if spare a.block then cap else len) ∧
      x = (.slice ((List.range len).map D) ((List.range (m - len)).map fun j => D (len + j)), MemPlace.row a (m * fs.size) ++ (List.range m).flatMap Pl) ∧
      ∀ i, i < m → ∃ (ys : List (DataW H × List MemPlace)) (n : Nat), D i = .agg (ys.map (·.1)) ∧ Pl i = ys.flatMap (·.2) ∧ ys.length = fs.size ∧
        ∀ (j : Nat) (f : Field), fs[j]? = some f → ∃ (v : Value) (y : DataW H × List MemPlace), w.cell? (a.add (i * fs.size + j)) = some v ∧ ys[j]? = some y ∧ DataW.trod enc P w base spare held n f.type [v] = some y := by
  rcases open_slice ht h with h0 | ⟨a, len, cap, m, n, D, Pl, hcs, hb, hl, hm, hmm, hx, hi⟩
  · exact .inl h0
  · refine .inr ⟨a, len, cap, m, D, Pl, hcs, hb, hl, hm, hmm, by rw [hC] at hx; exact hx, fun i him => ?_⟩
    obtain ⟨cs', hc, ht'⟩ := hi i him
    rw [hC] at hc
    obtain ⟨ys, n', hn', hy, hlen, hyl, hf⟩ := DataW.trod_struct he ht'
    obtain ⟨_, hcl, hat⟩ := World.cells?_some hc
    simp only [Prod.mk.injEq] at hy
    refine ⟨ys, n', hy.1, hy.2, hyl, fun j f hj => ?_⟩
    obtain ⟨ho, hk⟩ := hone_of hone j f hj
    have hjl : j < fs.size := (Array.getElem?_eq_some_iff.1 hj).1
    have hcell := hat j hjl
    have hv : cs'[j]? = some (cs'[j]'(by omega)) := List.getElem?_eq_getElem (by omega)
    have h1 := hf j f hj
    rw [ho, hk] at h1
    have hone' : (cs'.drop j).take 1 = [cs'[j]'(by omega)] := by
      rw [List.drop_eq_getElem_cons (by omega)]
      rfl
    rw [hone'] at h1
    have hys : ys[j]? = some (ys[j]'(by omega)) := List.getElem?_eq_getElem (by omega)
    refine ⟨_, _, ?_, hys, h1.trans hys⟩
    rw [← Go.Deep.add_add, hcell, hv]
end
/-- a value of a field's kind. -/
def Fits (d : TypeDesc) (v : Value) : Prop :=
  (∀ k, d = .int k → ∃ n, v = .int k n ∧ (Lit.int k n).wf = true) ∧ (d = .bool → ∃ b, v = .bool b) ∧ (d = .string → ∃ s, v = .string s ∧ s.size ≤ maxLen)
theorem fits_of {H : Type} {enc : TypeId × Value → H} {P : Program} {w : World} {base : Nat} {spare : Nat → Bool} {held : Bool} {t : TypeId} {d : TypeDesc} {n : Nat} {v : Value} {y : DataW H × List MemPlace}
    (hd : P.underlying t = some d) (h : DataW.trod enc P w base spare held n t [v] = some y) : Fits d v := by
  refine ⟨fun k e => ?_, fun e => ?_, fun e => ?_⟩
  · subst e
    obtain ⟨m, hc, _, hw⟩ := DataW.trod_int hd h
    simp only [List.cons.injEq, and_true] at hc
    exact ⟨m, hc, hw⟩
  · subst e
    obtain ⟨b, hc, _⟩ := DataW.trod_bool hd h
    simp only [List.cons.injEq, and_true] at hc
    exact ⟨b, hc⟩
  · subst e
    obtain ⟨s, hc, _, hw⟩ := DataW.trod_string hd h
    simp only [List.cons.injEq, and_true] at hc
    exact ⟨s, hc, hw⟩
/-- A slice of structs that reads as a list of rows of values. -/
def RowF (ds : List TypeDesc) (w : World) (a : Option Addr) (L : List (List Value)) : Prop :=
  L.length ≤ maxLen ∧ (0 < L.length → ∃ ad, a = some ad ∧ ∀ i, i < L.length → ∀ j d, ds[j]? = some d → w.cell? (ad.add (i * ds.length + j)) = some ((L.getD i []).getD j undef) ∧ Fits d ((L.getD i []).getD j undef))
theorem rowF_nil (ds : List TypeDesc) (w : World) : RowF ds w none [] := ⟨by decide, fun h => by simp at h⟩
theorem RowF.below {ds : List TypeDesc} {w w' : World} {a : Option Addr} {L : List (List Value)} (h : RowF ds w a L) (hb : Below w.heap.size w w') : RowF ds w' a L :=
  ⟨h.1, fun hp => by
    obtain ⟨ad, e, hc⟩ := h.2 hp
    exact ⟨ad, e, fun i hi j d hj => ⟨(hb.cell (World.block_lt_of_cell? w _ (hc i hi j d hj).1)).trans (hc i hi j d hj).1, (hc i hi j d hj).2⟩⟩⟩
theorem RowF.len {ds : List TypeDesc} {w : World} {a : Option Addr} {L : List (List Value)} (h : RowF ds w a L) : L.length ≤ 9223372036854775807 := by
  have := h.1; unfold maxLen at this; omega
def fI (L : List (List Value)) (i j : Nat) : Int := match (L.getD i []).getD j undef with | .int _ n => n | _ => 0
def fB (L : List (List Value)) (i j : Nat) : Bool := match (L.getD i []).getD j undef with | .bool b => b | _ => false
theorem RowF.addr {ds : List TypeDesc} {w : World} {a : Option Addr} {L : List (List Value)} (h : RowF ds w a L) (hp : 0 < L.length) : ∃ ad, a = some ad := by
  obtain ⟨ad, e, _⟩ := h.2 hp; exact ⟨ad, e⟩
theorem RowF.int {ds : List TypeDesc} {w : World} {ad : Addr} {L : List (List Value)} (h : RowF ds w (some ad) L) {i j : Nat} (hi : i < L.length) (k : IntKind) (hj : ds[j]? = some (.int k)) :
    w.cell? (ad.add (i * ds.length + j)) = some (.int k (fI L i j)) ∧ (Lit.int k (fI L i j)).wf = true := by
  obtain ⟨ad', e, hc⟩ := h.2 (by omega)
  simp only [Option.some.injEq] at e
  subst e
  obtain ⟨h1, h2⟩ := hc i hi j _ hj
  obtain ⟨n, e, hw⟩ := h2.1 k rfl
  rw [e] at h1
  unfold fI
  rw [e]
  exact ⟨h1, hw⟩
theorem RowF.bool {ds : List TypeDesc} {w : World} {ad : Addr} {L : List (List Value)} (h : RowF ds w (some ad) L) {i j : Nat} (hi : i < L.length) (hj : ds[j]? = some .bool) :
    w.cell? (ad.add (i * ds.length + j)) = some (.bool (fB L i j)) := by
  obtain ⟨ad', e, hc⟩ := h.2 (by omega)
  simp only [Option.some.injEq] at e
  subst e
  obtain ⟨h1, h2⟩ := hc i hi j _ hj
  obtain ⟨n, e⟩ := h2.2.1 rfl
  rw [e] at h1
  unfold fB
  rw [e]
  exact h1
/-- An argument that is a slice of such structs. -/
theorem open_rowF {H : Type} {enc : TypeId × Value → H} {P : Program} {W : World} {spare : Nat → Bool} {held : Bool} {base : Nat} {t e : TypeId} {fs : Array Field} {ds : List TypeDesc} {a : Option Addr} {len cap : Nat} {d : DataW H} {p : List MemPlace}
    (ht : P.underlying t = some (.slice e)) (he : P.underlying e = some (.struct fs)) (hone : oneCellFields P fs = true) (hC : P.cellsOf e = fs.size) (hds : fs.toList.mapM (fun f => P.underlying f.type) = some ds)
    (h : DataW.Trod enc P W base spare held t (.slice a len cap) d p) :
    ∃ L : List (List Value), len = L.length ∧ L.length ≤ cap ∧ cap ≤ 9223372036854775807 ∧ RowF ds W a L := by
  obtain ⟨fuel, hf⟩ := h
  rcases open_slice_fields ht he hone hC hf with ⟨hcs, _⟩ | ⟨ad, l, c, m, D, Pl, hcs, _, hl, hm, hmm, _, hi⟩
  · simp [Value.cells] at hcs
    obtain ⟨rfl, rfl, rfl⟩ := hcs
    exact ⟨[], rfl, Nat.le_refl _, by omega, rowF_nil _ _⟩
  · simp [Value.cells] at hcs
    obtain ⟨rfl, rfl, rfl⟩ := hcs
    have hlen : ds.length = fs.size := by
      have := Lib.mapM_length hds
      simpa using this
    have hml : len ≤ m := by rw [hmm]; split <;> omega
    let val := fun i j => (W.cell? (ad.add (i * fs.size + j))).getD undef
    refine ⟨(List.range len).map fun i => (List.range fs.size).map fun j => val i j, by simp, by simpa using hl, by unfold maxLen at hm; omega, by simp; omega, fun _ => ⟨ad, rfl, fun i hi' j dd hj => ?_⟩⟩
    simp only [List.length_map, List.length_range] at hi'
    obtain ⟨ys, n, _, _, _, hfj⟩ := hi i (by omega)
    have hjl : j < fs.size := by have := (List.getElem?_eq_some_iff.1 hj).1; omega
    obtain ⟨b, hb, hb2⟩ := Lib.mapM_at hds j (fs[j]) (by simp [hjl])
    rw [hj] at hb
    simp only [Option.some.injEq] at hb
    subst hb
    obtain ⟨v, y, hv, _, hy⟩ := hfj j fs[j] (by simp [hjl])
    have ev : (((List.range len).map fun i => (List.range fs.size).map fun j => val i j).getD i []).getD j undef = v := by
      simp [List.getD_eq_getElem?_getD, hi', hjl, val, hv]
    rw [ev, hlen]
    exact ⟨hv, fits_of hb2 hy⟩
end Go.Proofs.YtminokbigpckaaaDoor.Ct
