import Derived.Test.YtminokbigpckaaaDoorOpenS
import Derived.Test.YtminokbigpckaaaDoorLaw32A
import Derived.Laws.Cover2
/-! Arguments: a step, with its spare room. -/
namespace Go.Proofs.YtminokbigpckaaaDoor.Ct
open Go.RowKit
open Go.ChangeShapes Go.WideShapes Go.Deep
set_option linter.unusedVariables false
set_option linter.unusedSimpArgs false
theorem open_intsV {H : Type} {enc : TypeId × Value → H} {P : Program} {W : World} {spare : Nat → Bool} {held : Bool} {base : Nat} {t e : TypeId} {k : IntKind} {n : Nat} {v : Value} {y : DataW H × List MemPlace}
    (ht : P.underlying t = some (.slice e)) (he : P.underlying e = some (.int k)) (hC : P.cellsOf e = 1) (h : DataW.trod enc P W base spare held n t [v] = some y) :
    ∃ (a : Option Addr) (xs : List Int) (cap : Nat), v = .slice a xs.length cap ∧ xs.length ≤ cap ∧ cap ≤ 9223372036854775807 ∧ Row k W a xs := by
  rcases open_ints ht he hC h with ⟨hcs, _⟩ | ⟨x, l, c, zs, hcs, _, hl, hm, hz, _, hcell, hwz⟩
  · simp only [List.cons.injEq, and_true] at hcs
    exact ⟨none, [], 0, hcs, Nat.le_refl _, by omega, row_nil _ _⟩
  · simp only [List.cons.injEq, and_true] at hcs
    have hlz : l ≤ zs.length := by rw [hz]; split <;> omega
    have hzm : zs.length ≤ maxLen := by rw [hz]; split <;> omega
    have hr : Row k W (some x) zs := ⟨hzm, hwz, fun _ => ⟨x, rfl, hcell⟩⟩
    refine ⟨some x, zs.take l, c, ?_, ?_, by unfold maxLen at hm; omega, hr.take l⟩
    · rw [hcs, List.length_take, Nat.min_eq_left hlz]
    · rw [List.length_take]; omega
/-- a step as an argument. -/
structure SpA where
  x : Sp
  fa : Option Addr
  fc : Nat
def spA (s : SpA) : Value := stepV s.x s.fa s.fc
def WfSA (w : World) (s : SpA) : Prop := WfS s.x ∧ Row .i64 w s.fa s.x.fs ∧ s.x.fs.length ≤ s.fc ∧ s.fc ≤ 9223372036854775807
theorem row_wf {w : World} {a : Option Addr} {xs : List Int} (h : Row .i64 w a xs) : ∀ f ∈ xs, I64 f := fun f hf => bounds_i64 (h.2.1 f hf)
set_option maxRecDepth 10000 in
theorem step_fields {H : Type} {enc : TypeId × Value → H} {w : World} {base : Nat} {spare : Nat → Bool} {held : Bool} {n0 n1 n2 n3 n4 : Nat} {v0 v1 v2 v3 v4 : Value} {y0 y1 y2 y3 y4 : DataW H × List MemPlace}
    (h0 : DataW.trod enc Tryd.prog w base spare held n0 22 [v0] = some y0) (h1 : DataW.trod enc Tryd.prog w base spare held n1 3 [v1] = some y1) (h2 : DataW.trod enc Tryd.prog w base spare held n2 3 [v2] = some y2) (h3 : DataW.trod enc Tryd.prog w base spare held n3 3 [v3] = some y3) (h4 : DataW.trod enc Tryd.prog w base spare held n4 23 [v4] = some y4) :
    ∃ s : SpA, v0 = .int .i64 s.x.op ∧ v1 = .int .i64 s.x.a ∧ v2 = .int .i64 s.x.b ∧ v3 = .int .i64 s.x.c ∧ v4 = .slice s.fa s.x.fs.length s.fc ∧ WfSA w s := by
  obtain ⟨i0, e0, w0⟩ := (fits_of Tryd.underlying22 h0).int
  obtain ⟨i1, e1, w1⟩ := (fits_of Tryd.underlying3 h1).int
  obtain ⟨i2, e2, w2⟩ := (fits_of Tryd.underlying3 h2).int
  obtain ⟨i3, e3, w3⟩ := (fits_of Tryd.underlying3 h3).int
  obtain ⟨a, xs, cap, e4, k1, k2, k3⟩ := open_intsV Tryd.underlying23 Tryd.underlying3 (by kernel_rfl) h4
  exact ⟨⟨⟨i0, i1, i2, i3, xs⟩, a, cap⟩, e0, e1, e2, e3, e4, ⟨bounds_i64 w0, bounds_i64 w1, bounds_i64 w2, bounds_i64 w3, row_wf k3⟩, k3, k1, k2⟩
set_option maxRecDepth 10000 in
theorem open_Step {H : Type} {enc : TypeId × Value → H} {w : World} {base : Nat} {spare : Nat → Bool} {held : Bool} {r : Reach} {b0 : Nat} {v : Value} {d : DataW H} {p : List MemPlace}
    (hv : Value.okWide Tryd.prog w r b0 25 v) (h : DataW.Trod enc Tryd.prog w base spare held 25 v d p) : ∃ s : SpA, v = spA s ∧ WfSA w s := by
  obtain ⟨cs, rfl, hl, n, hg⟩ := open_structT Tryd.underlying25 hv h
  have c0 : Tryd.prog.cellsOf 25 = 5 := by kernel_rfl
  have c1 : Tryd.prog.cellsOf 3 = 1 := by kernel_rfl
  have c2 : Tryd.prog.cellsOf 22 = 1 := by kernel_rfl
  have c3 : Tryd.prog.cellsOf 23 = 1 := by kernel_rfl
  rw [c0] at hl
  match cs, hl with
  | [v0, v1, v2, v3, v4], _ =>
    obtain ⟨y0, h0⟩ := hg 0 _ rfl
    obtain ⟨y1, h1⟩ := hg 1 _ rfl
    obtain ⟨y2, h2⟩ := hg 2 _ rfl
    obtain ⟨y3, h3⟩ := hg 3 _ rfl
    obtain ⟨y4, h4⟩ := hg 4 _ rfl
    have h0 : DataW.trod enc Tryd.prog w base spare held n 22 [v0] = some y0 := by simpa [c2] using h0
    have h1 : DataW.trod enc Tryd.prog w base spare held n 3 [v1] = some y1 := by simpa [c1] using h1
    have h2 : DataW.trod enc Tryd.prog w base spare held n 3 [v2] = some y2 := by simpa [c1] using h2
    have h3 : DataW.trod enc Tryd.prog w base spare held n 3 [v3] = some y3 := by simpa [c1] using h3
    have h4 : DataW.trod enc Tryd.prog w base spare held n 23 [v4] = some y4 := by simpa [c3] using h4
    obtain ⟨s, rfl, rfl, rfl, rfl, rfl, hw⟩ := step_fields h0 h1 h2 h3 h4
    exact ⟨s, rfl, hw⟩
theorem lines32_walk (s1 s2 : SpA) (op : Int) (w : World) (h1 : WfSA w s1) (h2 : WfSA w s2) (hop : I64 op) :
    Calls Tryd.prog 3 #[spA s1, spA s2, .int .i64 op] w fun e w' => e = .returned (.bool true) ∧ Below w.heap.size w w' := by
  obtain ⟨x, fa, fc⟩ := s1
  obtain ⟨y, ya, yc⟩ := s2
  exact lines_walk x y fa ya fc yc op w h1.2.1 h2.2.1 h1.2.2.1 h2.2.2.1 h1.2.2.2 h2.2.2.2 h1.1 hop
end Go.Proofs.YtminokbigpckaaaDoor.Ct
